import Derived.Test.YtpffmolibjimgaaJ16
/- The cycles of a permutation, and its order; plain. -/
section
namespace Go.Pm
set_option linter.unusedVariables false
set_option linter.unusedSimpArgs false
/-- Where a point is behind k steps. -/
def itr (p : List Int) (i : Nat) : Nat → Nat
  | 0 => i
  | k + 1 => img p (itr p i k)
/-- How long the cycle of a point is. -/
def clen (p : List Int) (i : Nat) : Nat := (List.range p.length).findIdx (fun k => decide (itr p i (k + 1) = i)) + 1
/-- The cycle of a point, the point first. -/
def cyc (p : List Int) (i : Nat) : List Int := (List.range (clen p i)).map fun k => ((itr p i k : Nat) : Int)
/-- The point is the least of its cycle. -/
def isMn (p : List Int) (i : Nat) : Bool := decide (∀ k, k < clen p i → i ≤ itr p i k)
def cycs (p : List Int) : List (List Int) := ((List.range p.length).filter fun i => isMn p i && decide (1 < clen p i)).map (cyc p)
def lcmL (l : List Nat) : Nat := l.foldl Nat.lcm 1
/-- The order of a permutation. -/
def ord (p : List Int) : Nat := lcmL ((List.range p.length).map (clen p))
theorem cyc_length (p : List Int) (i : Nat) : (cyc p i).length = clen p i := by simp [cyc]
theorem clen_pos (p : List Int) (i : Nat) : 0 < clen p i := Nat.succ_pos _
theorem cyc_get (p : List Int) (i : Nat) {k : Nat} (h : k < clen p i) : (cyc p i).getD k 0 = ((itr p i k : Nat) : Int) := by
  simp [cyc, List.getD_eq_getElem?_getD, h]
theorem itr_add (p : List Int) (i a : Nat) : ∀ b, itr p i (a + b) = itr p (itr p i a) b
  | 0 => rfl
  | b + 1 => by
    show img p (itr p i (a + b)) = img p (itr p (itr p i a) b)
    rw [itr_add p i a b]
section
variable {n : Nat} {p : List Int} {i j : Nat}
theorem itr_lt (h : Pm n p) (hi : i < n) : ∀ k, itr p i k < n
  | 0 => hi
  | k + 1 => h.img_lt (itr_lt h hi k)
theorem itr_inj (h : Pm n p) (hi : i < n) (hj : j < n) : ∀ k, itr p i k = itr p j k → i = j
  | 0, e => e
  | k + 1, e => itr_inj h hi hj k (h.inj (itr_lt h hi k) (itr_lt h hj k) e)
theorem itr_sub (h : Pm n p) (hi : i < n) {a b : Nat} (hab : a ≤ b) (e : itr p i a = itr p i b) : itr p i (b - a) = i := by
  have e1 : itr p i b = itr p (itr p i (b - a)) a := by rw [← itr_add, Nat.sub_add_cancel hab]
  exact (itr_inj h hi (itr_lt h hi _) a (e.trans e1)).symm
theorem itr_ret (h : Pm n p) (hi : i < n) : ∃ k, k < n ∧ itr p i (k + 1) = i := by
  refine Classical.byContradiction fun hc => ?_
  have hno : ∀ k, 0 < k → k ≤ n → itr p i k ≠ i := fun k h0 hk e => hc ⟨k - 1, by omega, by rw [Nat.sub_add_cancel h0]; exact e⟩
  have hnd : ((List.range (n + 1)).map (itr p i)).Nodup := by
    rw [List.nodup_iff_pairwise_ne, List.pairwise_map]
    refine List.Pairwise.imp_of_mem (R := fun a b => a ≠ b) ?_ (List.nodup_iff_pairwise_ne.1 List.nodup_range)
    intro a b ha hb hne e
    have ha' : a < n + 1 := by simpa using ha
    have hb' : b < n + 1 := by simpa using hb
    rcases Nat.lt_or_gt_of_ne hne with hl | hl
    · exact hno (b - a) (by omega) (by omega) (itr_sub h hi (by omega) e)
    · exact hno (a - b) (by omega) (by omega) (itr_sub h hi (by omega) e.symm)
  have := Go.Plain.nodup_le (List.range n) _ hnd fun x hx => by
    obtain ⟨k, _, rfl⟩ := List.mem_map.1 hx
    exact List.mem_range.2 (itr_lt h hi k)
  simp at this
  omega
theorem clen_ok (h : Pm n p) (hi : i < n) : clen p i ≤ n ∧ itr p i (clen p i) = i ∧ ∀ k, 0 < k → k < clen p i → itr p i k ≠ i := by
  obtain ⟨k, hk, e⟩ := itr_ret h hi
  have hlt : (List.range p.length).findIdx (fun k => decide (itr p i (k + 1) = i)) < (List.range p.length).length := by
    rw [List.findIdx_lt_length]
    exact ⟨k, List.mem_range.2 (by rw [h.1]; exact hk), by simpa using e⟩
  have hget := List.findIdx_getElem (w := hlt)
  simp only [List.getElem_range, decide_eq_true_eq] at hget
  refine ⟨?_, hget, fun m h0 hm e => ?_⟩
  · rw [List.length_range] at hlt
    have := h.1
    unfold clen; omega
  · unfold clen at hm
    have h1 := List.not_of_lt_findIdx (p := fun k => decide (itr p i (k + 1) = i)) (xs := List.range p.length) (i := m - 1) (by omega)
    simp only [List.getElem_range, decide_eq_true_eq] at h1
    rw [Nat.sub_add_cancel h0] at h1
    simp [e] at h1
theorem itr_mul (h : Pm n p) (hi : i < n) : ∀ q, itr p i (clen p i * q) = i
  | 0 => rfl
  | q + 1 => by rw [Nat.mul_succ, itr_add, itr_mul h hi q]; exact (clen_ok h hi).2.1
theorem itr_mod (h : Pm n p) (hi : i < n) (k : Nat) : itr p i k = itr p i (k % clen p i) := by
  conv => lhs; rw [← Nat.div_add_mod k (clen p i), itr_add, itr_mul h hi]
theorem clen_dvd (h : Pm n p) (hi : i < n) (m : Nat) : itr p i m = i ↔ clen p i ∣ m := by
  constructor
  · intro e
    rw [itr_mod h hi] at e
    rcases Nat.eq_zero_or_pos (m % clen p i) with h0 | h0
    · exact Nat.dvd_of_mod_eq_zero h0
    · exact absurd e ((clen_ok h hi).2.2 _ h0 (Nat.mod_lt _ (clen_pos p i)))
  · rintro ⟨q, rfl⟩; exact itr_mul h hi q
theorem clen_itr (h : Pm n p) (hi : i < n) (k : Nat) : clen p (itr p i k) = clen p i := by
  have key : ∀ m, itr p (itr p i k) m = itr p i k ↔ itr p i m = i := fun m => by
    rw [← itr_add, Nat.add_comm, itr_add]
    exact ⟨fun e => itr_inj h (itr_lt h hi _) hi k e, fun e => by rw [e]⟩
  refine Nat.dvd_antisymm ?_ ?_
  · rw [← clen_dvd h (itr_lt h hi k), key, clen_dvd h hi]; exact Nat.dvd_refl _
  · rw [← clen_dvd h hi, ← key, clen_dvd h (itr_lt h hi k)]; exact Nat.dvd_refl _
theorem cyc_inj (h : Pm n p) (hi : i < n) {a b : Nat} (ha : a < clen p i) (hb : b < clen p i) (e : itr p i a = itr p i b) : a = b := by
  rcases Nat.lt_trichotomy a b with hl | he | hl
  · exact absurd (itr_sub h hi (by omega) e) ((clen_ok h hi).2.2 _ (by omega) (by omega))
  · exact he
  · exact absurd (itr_sub h hi (by omega) e.symm) ((clen_ok h hi).2.2 _ (by omega) (by omega))
theorem itr_back (h : Pm n p) (hi : i < n) (k : Nat) : ∃ m, itr p (itr p i k) m = i := by
  refine ⟨clen p i * (k + 1) - k, ?_⟩
  have : k ≤ clen p i * (k + 1) := Nat.le_trans (Nat.le_succ k) (Nat.le_mul_of_pos_left _ (clen_pos p i))
  rw [← itr_add, Nat.add_sub_cancel' this, itr_mul h hi]
theorem isMn_iff (h : Pm n p) (hi : i < n) : isMn p i = true ↔ ∀ k, i ≤ itr p i k := by
  unfold isMn
  rw [decide_eq_true_eq]
  exact ⟨fun hm k => by rw [itr_mod h hi]; exact hm _ (Nat.mod_lt _ (clen_pos p i)), fun hm k _ => hm k⟩
theorem min_ex (h : Pm n p) : ∀ i, i < n → ∃ k, isMn p (itr p i k) = true := by
  intro i
  induction i using Nat.strongRecOn with
  | _ i ih =>
    intro hi
    by_cases hm : isMn p i = true
    · exact ⟨0, hm⟩
    · have : ∃ k, itr p i k < i := Classical.byContradiction fun hc => hm ((isMn_iff h hi).2 fun k => Nat.le_of_not_lt fun hl => hc ⟨k, hl⟩)
      obtain ⟨k, hk⟩ := this
      obtain ⟨m, hm⟩ := ih _ hk (itr_lt h hi k)
      exact ⟨k + m, by rw [itr_add]; exact hm⟩
/-- Two least points of one cycle are one. -/
theorem min_uniq (h : Pm n p) (hi : i < n) {k : Nat} (h1 : isMn p i = true) (h2 : isMn p (itr p i k) = true) : itr p i k = i := by
  have a := (isMn_iff h hi).1 h1 k
  obtain ⟨m, e⟩ := itr_back h hi k
  have b := (isMn_iff h (itr_lt h hi k)).1 h2 m
  rw [e] at b
  omega
end
section
variable {n : Nat} {p : List Int} {i j : Nat}
end
end Go.Pm
end
/- Cycle types: what they count, and that permutations of one type are conjugate; plain. -/
section
namespace Go.Pm
set_option linter.unusedVariables false
section
variable {n : Nat} {p q x : List Int}
/-- The least points of the cycles. -/
def reps (p : List Int) : List Nat := (List.range p.length).filter (isMn p)
/-- The lengths of the cycles. -/
def lens (p : List Int) : List Nat := (reps p).map (clen p)
/-- How many points lie on cycles of a length. -/
def cntC (p : List Int) (L : Nat) : Nat := ((List.range p.length).filter fun i => decide (clen p i = L)).length
theorem mem_reps (h : Pm n p) {m : Nat} : m ∈ reps p ↔ m < n ∧ isMn p m = true := by
  unfold reps; rw [List.mem_filter, List.mem_range, h.1]
theorem reps_nodup (p : List Int) : (reps p).Nodup := List.nodup_range.filter _
/-- Each point lies on the cycle of a least one. -/
theorem rep_ex (h : Pm n p) {i : Nat} (hi : i < n) : ∃ m, m ∈ reps p ∧ ∃ k, k < clen p m ∧ itr p m k = i := by
  obtain ⟨k, hk⟩ := min_ex h i hi
  obtain ⟨t, ht⟩ := itr_back h hi k
  have hm := itr_lt h hi k
  refine ⟨itr p i k, (mem_reps h).2 ⟨hm, hk⟩, t % clen p (itr p i k), Nat.mod_lt _ (clen_pos _ _), ?_⟩
  rw [← itr_mod h hm]; exact ht
theorem rep_uniq (h : Pm n p) {m m' k k' : Nat} (hm : m ∈ reps p) (hm' : m' ∈ reps p) (e : itr p m k = itr p m' k') : m = m' := by
  obtain ⟨h1, h2⟩ := (mem_reps h).1 hm
  obtain ⟨h3, h4⟩ := (mem_reps h).1 hm'
  obtain ⟨t, ht⟩ := itr_back h h1 k
  rw [e, ← itr_add] at ht
  have := min_uniq h h3 h4 (k := k' + t) (by rw [ht]; exact h2)
  rw [← ht, this]
/-- Rows over the values of a map. -/
theorem fib_sum {α β : Type} [DecidableEq β] (φ : α → β) : ∀ (L' : List β) (L : List α), L'.Nodup → (∀ x ∈ L, φ x ∈ L') → L.length = (L'.map fun y => L.countP fun x => decide (φ x = y)).sum
  | [], L, _, h => by
    cases L with
    | nil => simp
    | cons x _ => cases h x List.mem_cons_self
  | y :: L', L, nd, h => by
    have nd' := List.nodup_cons.1 nd
    have h1 := List.length_eq_countP_add_countP (fun x => decide (φ x = y)) (l := L)
    have ih := fib_sum φ L' (L.filter fun x => decide (¬ decide (φ x = y) = true)) nd'.2 (fun x hx => by
      obtain ⟨m, hx⟩ := List.mem_filter.1 hx
      rcases List.mem_cons.1 (h x m) with e | e
      · simp [e] at hx
      · exact e)
    have e2 : (L'.map fun z => (L.filter fun x => decide (¬ decide (φ x = y) = true)).countP fun x => decide (φ x = z)) = L'.map fun z => L.countP fun x => decide (φ x = z) := List.map_congr_left fun z hz => by
      rw [List.countP_filter]
      refine List.countP_congr fun x _ => ?_
      simp only [Bool.and_eq_true, decide_eq_true_eq]
      exact ⟨fun h => h.1, fun e => ⟨e, fun e2 => nd'.1 (by rw [← e2, e]; exact hz)⟩⟩
    rw [e2, ← List.countP_eq_length_filter] at ih
    rw [h1, ih, List.map_cons, List.sum_cons]
/-- The least point of a point's cycle. -/
noncomputable def repF (p : List Int) (i : Nat) : Nat := @dite _ (∃ m, m ∈ reps p ∧ ∃ k, k < clen p m ∧ itr p m k = i) (Classical.propDecidable _) (fun h => h.choose) fun _ => 0
theorem repF_ok (h : Pm n p) {i : Nat} (hi : i < n) : repF p i ∈ reps p ∧ ∃ k, k < clen p (repF p i) ∧ itr p (repF p i) k = i := by
  have hx := rep_ex h hi
  unfold repF
  rw [dif_pos hx]
  exact hx.choose_spec
theorem map_nodup {α β : Type} {f : α → β} : ∀ {l : List α}, l.Nodup → (∀ a ∈ l, ∀ b ∈ l, f a = f b → a = b) → (l.map f).Nodup
  | [], _, _ => List.nodup_nil
  | a :: l, nd, h => by
    have nd' := List.nodup_cons.1 nd
    rw [List.map_cons, List.nodup_cons]
    refine ⟨fun hm => ?_, map_nodup nd'.2 fun x hx y hy => h x (List.mem_cons_of_mem _ hx) y (List.mem_cons_of_mem _ hy)⟩
    obtain ⟨b, hb, e⟩ := List.mem_map.1 hm
    have := h b (List.mem_cons_of_mem _ hb) a List.mem_cons_self e
    exact nd'.1 (this ▸ hb)
theorem cyc_rows (h : Pm n p) {m : Nat} (hm : m ∈ reps p) : ((List.range (clen p m)).map (itr p m)).Nodup := by
  have h1 := ((mem_reps h).1 hm).1
  exact map_nodup List.nodup_range fun a ha b hb e => cyc_inj h h1 (List.mem_range.1 ha) (List.mem_range.1 hb) e
/-- The points over one least point. -/
theorem fib_rep (h : Pm n p) {m : Nat} (hm : m ∈ reps p) (P : Nat → Bool) (hP : ∀ k, P (itr p m k) = true) : ((List.range n).filter P).countP (fun i => decide (repF p i = m)) = clen p m := by
  have h1 := ((mem_reps h).1 hm).1
  have e : List.Perm (((List.range n).filter P).filter (fun i => decide (repF p i = m))) ((List.range (clen p m)).map (itr p m)) := by
    refine (List.perm_ext_iff_of_nodup ((List.nodup_range.filter _).filter _) (cyc_rows h hm)).2 fun i => ?_
    rw [List.mem_filter, List.mem_filter, List.mem_range, List.mem_map]
    constructor
    · rintro ⟨⟨hi, _⟩, hr⟩
      obtain ⟨_, k, hk, ek⟩ := repF_ok h hi
      rw [of_decide_eq_true hr] at hk ek
      exact ⟨k, List.mem_range.2 hk, ek⟩
    · rintro ⟨k, hk, rfl⟩
      have hi := itr_lt h h1 k
      obtain ⟨hr, k', hk', ek⟩ := repF_ok h hi
      exact ⟨⟨hi, hP k⟩, decide_eq_true (rep_uniq h hr hm ek)⟩
  rw [List.countP_eq_length_filter, e.length_eq, List.length_map, List.length_range]
theorem lens_sum (h : Pm n p) : (lens p).sum = n := by
  have := fib_sum (repF p) (reps p) ((List.range n).filter fun _ => true) (reps_nodup p) fun i hi => by
    rw [List.mem_filter, List.mem_range] at hi
    exact (repF_ok h hi.1).1
  rw [List.map_congr_left fun m hm => fib_rep h hm (fun _ => true) fun _ => rfl] at this
  have e : ((List.range n).filter fun _ => true) = List.range n := List.filter_eq_self.2 fun _ _ => rfl
  rw [e, List.length_range] at this
  exact this.symm
theorem sum_const {α : Type} (c : Nat) : ∀ l : List α, (l.map fun _ => c).sum = l.length * c
  | [] => by simp
  | a :: l => by rw [List.map_cons, List.sum_cons, sum_const c l, List.length_cons, Nat.add_mul, Nat.one_mul, Nat.add_comm]
theorem cnt_lens (h : Pm n p) (L : Nat) : cntC p L = (lens p).count L * L := by
  have e0 : ((reps p).filter fun m => decide (clen p m = L)).length = (lens p).count L := by
    unfold lens
    rw [List.count_eq_countP, List.countP_map, List.countP_eq_length_filter]
    congr 1
  have := fib_sum (repF p) ((reps p).filter fun m => decide (clen p m = L)) ((List.range n).filter fun i => decide (clen p i = L)) ((reps_nodup p).filter _) fun i hi => by
    rw [List.mem_filter, List.mem_range, decide_eq_true_eq] at hi
    obtain ⟨h1, k, hk, e⟩ := repF_ok h hi.1
    rw [List.mem_filter, decide_eq_true_eq]
    refine ⟨h1, ?_⟩
    rw [← hi.2, ← e, clen_itr h ((mem_reps h).1 h1).1, e]
  rw [List.map_congr_left (g := fun _ => L) fun m hm => by
    rw [List.mem_filter, decide_eq_true_eq] at hm
    rw [fib_rep h hm.1 _ fun k => by rw [decide_eq_true_eq, clen_itr h ((mem_reps h).1 hm.1).1]; exact hm.2]
    exact hm.2, sum_const, e0] at this
  unfold cntC
  rw [h.1]
  exact this
theorem lens_pos {L : Nat} (hL : L ∈ lens p) : 0 < L := by
  obtain ⟨m, _, rfl⟩ := List.mem_map.1 hL
  exact clen_pos _ _
theorem lens_le (h : Pm n p) {L : Nat} (hL : L ∈ lens p) : L ≤ n := by
  obtain ⟨m, hm, rfl⟩ := List.mem_map.1 hL
  exact (clen_ok h ((mem_reps h).1 hm).1).1
/-- The permutation q turned by x. -/
def cnj (p x : List Int) : List Int := comp (comp (invp x) p) x
theorem cnj_pm (h : Pm n p) (hx : Pm n x) : Pm n (cnj p x) := (hx.inv.comp h).comp hx
theorem cnj_img (h : Pm n p) (hx : Pm n x) {i : Nat} (hi : i < n) : img (cnj p x) (img x i) = img x (img p i) := by
  have h1 := hx.img_lt hi
  unfold cnj
  rw [(hx.inv.comp h).cimg h1, hx.inv.cimg h1, hx.img_inv hi]
theorem cnj_itr (h : Pm n p) (hx : Pm n x) {i : Nat} (hi : i < n) : ∀ k, itr (cnj p x) (img x i) k = img x (itr p i k)
  | 0 => rfl
  | k + 1 => by
    have ih := cnj_itr h hx hi k
    show img (cnj p x) (itr (cnj p x) (img x i) k) = img x (img p (itr p i k))
    rw [ih, cnj_img h hx (itr_lt h hi k)]
theorem cnj_clen (h : Pm n p) (hx : Pm n x) {i : Nat} (hi : i < n) : clen (cnj p x) (img x i) = clen p i := by
  have h1 := hx.img_lt hi
  have hc := cnj_pm h hx
  have key : ∀ m, clen (cnj p x) (img x i) ∣ m ↔ clen p i ∣ m := fun m => by
    rw [← clen_dvd hc h1, ← clen_dvd h hi, cnj_itr h hx hi]
    exact ⟨fun e => hx.inj (itr_lt h hi m) hi e, fun e => by rw [e]⟩
  exact Nat.dvd_antisymm ((key _).2 (Nat.dvd_refl _)) ((key _).1 (Nat.dvd_refl _))
theorem cnj_cnt (h : Pm n p) (hx : Pm n x) (L : Nat) : cntC (cnj p x) L = cntC p L := by
  have hc := cnj_pm h hx
  unfold cntC
  rw [hc.1, h.1]
  have e : List.Perm ((List.range n).filter (fun i => decide (clen (cnj p x) i = L))) (((List.range n).filter fun i => decide (clen p i = L)).map (img x)) := by
    refine (List.perm_ext_iff_of_nodup (List.nodup_range.filter _) (map_nodup (List.nodup_range.filter _) fun a ha b hb e => ?_)).2 fun i => ?_
    · rw [List.mem_filter, List.mem_range] at ha hb
      exact hx.inj ha.1 hb.1 e
    · rw [List.mem_filter, List.mem_range, decide_eq_true_eq, List.mem_map]
      constructor
      · rintro ⟨hi, hl⟩
        obtain ⟨j, hj, rfl⟩ := hx.surj hi
        rw [cnj_clen h hx hj] at hl
        exact ⟨j, List.mem_filter.2 ⟨List.mem_range.2 hj, decide_eq_true hl⟩, rfl⟩
      · rintro ⟨j, hj, rfl⟩
        rw [List.mem_filter, List.mem_range, decide_eq_true_eq] at hj
        exact ⟨hx.img_lt hj.1, by rw [cnj_clen h hx hj.1]; exact hj.2⟩
  rw [e.length_eq, List.length_map]
theorem cnj_lens (h : Pm n p) (hx : Pm n x) (L : Nat) : (lens (cnj p x)).count L = (lens p).count L := by
  have e := cnj_cnt h hx L
  rw [cnt_lens (cnj_pm h hx), cnt_lens h] at e
  by_cases hL : L = 0
  · subst hL
    rw [List.count_eq_zero.2 fun hm => absurd (lens_pos hm) (Nat.lt_irrefl 0), List.count_eq_zero.2 fun hm => absurd (lens_pos hm) (Nat.lt_irrefl 0)]
  · exact Nat.eq_of_mul_eq_mul_right (Nat.pos_of_ne_zero hL) e
/-- Rows brought into one order. -/
theorem align {α β : Type} [DecidableEq β] (f : α → Nat) (g : β → Nat) : ∀ (as : List α) (bs : List β), List.Perm (as.map f) (bs.map g) → ∃ bs', List.Perm bs' bs ∧ bs'.map g = as.map f
  | [], bs, h => ⟨[], by
      have : bs.map g = [] := List.nil_perm.1 h
      have : bs = [] := List.map_eq_nil_iff.1 this
      rw [this], rfl⟩
  | a :: as, bs, h => by
    have hm : f a ∈ bs.map g := h.mem_iff.1 (by rw [List.map_cons]; exact List.mem_cons_self)
    obtain ⟨b, hb, e⟩ := List.mem_map.1 hm
    have h1 := List.perm_cons_erase hb
    have h2 : List.Perm (f a :: as.map f) (f a :: (bs.erase b).map g) := by
      have := h.trans (h1.map g)
      rw [List.map_cons, List.map_cons, e] at this
      exact this
    obtain ⟨bs', k1, k2⟩ := align f g as (bs.erase b) h2.cons_inv
    exact ⟨b :: bs', (k1.cons b).trans h1.symm, by rw [List.map_cons, List.map_cons, k2, e]⟩
/-- Permutations of one cycle type are conjugate. -/
theorem cnj_ex (hp : Pm n p) (hq : Pm n q) (h : List.Perm (lens p) (lens q)) : ∃ x, Pm n x ∧ cnj p x = q := by
  obtain ⟨ms, hms, hml⟩ := align (clen p) (clen q) (reps p) (reps q) h
  have hnd : ms.Nodup := (reps_nodup q).perm hms.symm
  have hlen : ms.length = (reps p).length := by have := congrArg List.length hml; rwa [List.length_map, List.length_map] at this
  have hcl : ∀ t, t < (reps p).length → clen q (ms.getD t 0) = clen p ((reps p).getD t 0) := fun t ht => by
    have := congrArg (fun l => l.getD t 0) hml
    simpa [List.getD_eq_getElem?_getD, ht, hlen] using this
  have hma : ∀ t, t < (reps p).length → ms.getD t 0 ∈ reps q := fun t ht => by
    refine hms.mem_iff.1 ?_
    rw [List.getD_eq_getElem?_getD, List.getElem?_eq_getElem (by omega)]
    exact List.getElem_mem _
  have hra : ∀ t, t < (reps p).length → (reps p).getD t 0 ∈ reps p := fun t ht => by
    rw [List.getD_eq_getElem?_getD, List.getElem?_eq_getElem ht]
    exact List.getElem_mem _
  have inj1 : ∀ t t', t < (reps p).length → t' < (reps p).length → (reps p).getD t 0 = (reps p).getD t' 0 → t = t' := fun t t' h1 h2 e => by
    rw [List.getD_eq_getElem?_getD, List.getD_eq_getElem?_getD, List.getElem?_eq_getElem h1, List.getElem?_eq_getElem h2] at e
    exact (List.getElem_inj (reps_nodup p)).1 e
  have inj2 : ∀ t t', t < (reps p).length → t' < (reps p).length → ms.getD t 0 = ms.getD t' 0 → t = t' := fun t t' h1 h2 e => by
    rw [List.getD_eq_getElem?_getD, List.getD_eq_getElem?_getD, List.getElem?_eq_getElem (show t < ms.length by omega), List.getElem?_eq_getElem (show t' < ms.length by omega)] at e
    exact (List.getElem_inj hnd).1 e
  let R : Nat → Nat → Prop := fun a b => ∃ t k, t < (reps p).length ∧ k < clen p ((reps p).getD t 0) ∧ a = itr p ((reps p).getD t 0) k ∧ b = itr q (ms.getD t 0) k
  have Rl : ∀ a b, R a b → b < n := fun a b ⟨t, k, h1, h2, h3, h4⟩ => by
    rw [h4]; exact itr_lt hq ((mem_reps hq).1 (hma t h1)).1 k
  have Rt : ∀ a, a < n → ∃ b, R a b := fun a ha => by
    obtain ⟨m, hm, k, hk, e⟩ := rep_ex hp ha
    obtain ⟨t, ht, et⟩ := List.getElem_of_mem hm
    have et : (reps p).getD t 0 = m := by rw [List.getD_eq_getElem?_getD, List.getElem?_eq_getElem ht]; exact et
    exact ⟨_, t, k, ht, by rw [et]; exact hk, by rw [et]; exact e.symm, rfl⟩
  have Rf : ∀ a b b', R a b → R a b' → b = b' := fun a b b' ⟨t, k, h1, h2, h3, h4⟩ ⟨t', k', h1', h2', h3', h4'⟩ => by
    have et := inj1 t t' h1 h1' (rep_uniq hp (hra t h1) (hra t' h1') (h3.symm.trans h3'))
    subst et
    have ek := cyc_inj hp ((mem_reps hp).1 (hra t h1)).1 h2 h2' (h3.symm.trans h3')
    rw [h4, h4', ek]
  have Ri : ∀ a a' b, R a b → R a' b → a = a' := fun a a' b ⟨t, k, h1, h2, h3, h4⟩ ⟨t', k', h1', h2', h3', h4'⟩ => by
    have et := inj2 t t' h1 h1' (rep_uniq hq (hma t h1) (hma t' h1') (h4.symm.trans h4'))
    subst et
    have ek := cyc_inj hq ((mem_reps hq).1 (hma t h1)).1 (by rw [hcl t h1]; exact h2) (by rw [hcl t h1]; exact h2') (h4.symm.trans h4')
    rw [h3, h3', ek]
  have Rc : ∀ a b, R a b → R (img p a) (img q b) := fun a b ⟨t, k, h1, h2, h3, h4⟩ => by
    have hmp := ((mem_reps hp).1 (hra t h1)).1
    have hmq := ((mem_reps hq).1 (hma t h1)).1
    by_cases hk : k + 1 < clen p ((reps p).getD t 0)
    · exact ⟨t, k + 1, h1, hk, by rw [h3]; rfl, by rw [h4]; rfl⟩
    · refine ⟨t, 0, h1, clen_pos _ _, ?_, ?_⟩
      · rw [h3]
        show itr p _ (k + 1) = _
        rw [show k + 1 = clen p ((reps p).getD t 0) by omega, (clen_ok hp hmp).2.1]; rfl
      · rw [h4]
        show itr q _ (k + 1) = _
        rw [show k + 1 = clen q (ms.getD t 0) by rw [hcl t h1]; omega, (clen_ok hq hmq).2.1]; rfl
  let φ : Nat → Nat := fun a => @dite _ (∃ b, R a b) (Classical.propDecidable _) (fun h => h.choose) fun _ => 0
  have hφ : ∀ a, a < n → R a (φ a) := fun a ha => by
    have hx := Rt a ha
    show R a (@dite _ (∃ b, R a b) (Classical.propDecidable _) (fun h => h.choose) fun _ => 0)
    rw [dif_pos hx]
    exact hx.choose_spec
  let x : List Int := (List.range n).map fun a => ((φ a : Nat) : Int)
  have hxg : ∀ a, a < n → x.getD a 0 = ((φ a : Nat) : Int) := fun a ha => by
    show ((List.range n).map fun a => ((φ a : Nat) : Int)).getD a 0 = _
    simp [List.getD_eq_getElem?_getD, ha]
  have hxi : ∀ a, a < n → img x a = φ a := fun a ha => by unfold img; rw [hxg a ha]; rfl
  have hx : Pm n x := .mk' (by simp [x]) (fun j hj => ⟨φ j, Rl _ _ (hφ j hj), hxg j hj⟩) fun i j hi hj e => by
    rw [hxi i hi, hxi j hj] at e
    have h1 := hφ i hi
    rw [e] at h1
    exact Ri _ _ _ h1 (hφ j hj)
  refine ⟨x, hx, (cnj_pm hp hx).ext_img hq fun i hi => ?_⟩
  obtain ⟨j, hj, rfl⟩ := hx.surj hi
  rw [cnj_img hp hx hj]
  have h1 := Rc _ _ (hφ j hj)
  rw [← hxi j hj] at h1
  have hpj := hp.img_lt hj
  rw [hxi _ hpj]
  exact Rf _ _ _ (hφ _ hpj) h1
/-- The numbers from the greatest on, each as often as it stands in the row. -/
def dsc (l : List Nat) : Nat → List Int
  | 0 => []
  | L + 1 => List.replicate (l.count (L + 1)) ((L + 1 : Nat) : Int) ++ dsc l L
theorem dsc_count (l : List Nat) : ∀ (n L : Nat), (dsc l n).count ((L : Nat) : Int) = if 1 ≤ L ∧ L ≤ n then l.count L else 0
  | 0, L => by rw [if_neg (by omega)]; rfl
  | n + 1, L => by
    show (List.replicate _ _ ++ dsc l n).count _ = _
    rw [List.count_append, dsc_count l n L, List.count_replicate]
    by_cases e : L = n + 1
    · subst e
      rw [if_pos (by simp), if_neg (by omega), if_pos (by omega), Nat.add_zero]
    · rw [if_neg (by simp; omega)]
      by_cases h : 1 ≤ L ∧ L ≤ n
      · rw [if_pos h, if_pos (by omega), Nat.zero_add]
      · rw [if_neg h, if_neg (by omega)]
theorem dsc_congr {l l' : List Nat} : ∀ n, (∀ L, 1 ≤ L → L ≤ n → l.count L = l'.count L) → dsc l n = dsc l' n
  | 0, _ => rfl
  | n + 1, h => by
    show List.replicate _ _ ++ dsc l n = List.replicate _ _ ++ dsc l' n
    rw [h (n + 1) (by omega) (by omega), dsc_congr n fun L h1 h2 => h L h1 (by omega)]
/-- A cycle type. -/
def ctP (p : List Int) : List Int := dsc (lens p) p.length
theorem ct_cnj (h : Pm n p) (hx : Pm n x) : ctP (cnj p x) = ctP p := by
  unfold ctP
  rw [(cnj_pm h hx).1, h.1]
  exact dsc_congr n fun L _ _ => cnj_lens h hx L
theorem ct_perm (hp : Pm n p) (hq : Pm n q) (h : ctP p = ctP q) : List.Perm (lens p) (lens q) := by
  refine List.perm_iff_count.2 fun L => ?_
  by_cases hL : 1 ≤ L ∧ L ≤ n
  · have h1 := dsc_count (lens p) n L
    have h2 := dsc_count (lens q) n L
    unfold ctP at h
    rw [hp.1, hq.1] at h
    rw [if_pos hL] at h1 h2
    rw [← h1, ← h2, h]
  · rw [List.count_eq_zero.2 fun hm => hL ⟨lens_pos hm, lens_le hp hm⟩, List.count_eq_zero.2 fun hm => hL ⟨lens_pos hm, lens_le hq hm⟩]
/-- Permutations of one cycle type have one degree. -/
theorem ct_deg {m : Nat} (hp : Pm n p) (hq : Pm m q) (h : ctP p = ctP q) : n = m := by
  have e : List.Perm (lens p) (lens q) := List.perm_iff_count.2 fun L => by
    have h1 := dsc_count (lens p) n L
    have h2 := dsc_count (lens q) m L
    unfold ctP at h
    rw [hp.1, hq.1] at h
    rw [h, h2] at h1
    by_cases hn : 1 ≤ L ∧ L ≤ n <;> by_cases hm : 1 ≤ L ∧ L ≤ m
    · rw [if_pos hn, if_pos hm] at h1; exact h1.symm
    · rw [if_pos hn, if_neg hm] at h1
      rw [← h1, List.count_eq_zero.2 fun hx => hm ⟨lens_pos hx, lens_le hq hx⟩]
    · rw [if_neg hn, if_pos hm] at h1
      rw [h1, List.count_eq_zero.2 fun hx => hn ⟨lens_pos hx, lens_le hp hx⟩]
    · rw [List.count_eq_zero.2 fun hx => hn ⟨lens_pos hx, lens_le hp hx⟩, List.count_eq_zero.2 fun hx => hm ⟨lens_pos hx, lens_le hq hx⟩]
  have := e.sum_nat
  rw [lens_sum hp, lens_sum hq] at this
  exact this
theorem ct_ex (hp : Pm n p) (hq : Pm n q) (h : ctP p = ctP q) : ∃ x, Pm n x ∧ cnj p x = q := cnj_ex hp hq (ct_perm hp hq h)
theorem dsc_mem {l : List Nat} : ∀ {n : Nat} {v : Int}, v ∈ dsc l n → 1 ≤ v ∧ v ≤ n
  | 0, v, h => by cases h
  | n + 1, v, h => by
    rcases List.mem_append.1 h with h | h
    · have := (List.mem_replicate.1 h).2; omega
    · have := dsc_mem h; omega
theorem dsc_desc (l : List Nat) : ∀ n, (dsc l n).Pairwise (· ≥ ·)
  | 0 => List.Pairwise.nil
  | n + 1 => by
    show (List.replicate _ _ ++ dsc l n).Pairwise _
    rw [List.pairwise_append]
    refine ⟨List.pairwise_replicate.2 (.inr (Int.le_refl _)), dsc_desc l n, fun a ha b hb => ?_⟩
    have h1 := (List.mem_replicate.1 ha).2
    have h2 := dsc_mem hb
    omega
/-- Sorted rows of the same numbers are one row. -/
theorem desc_uniq : ∀ {a b : List Int}, a.Pairwise (· ≥ ·) → b.Pairwise (· ≥ ·) → List.Perm a b → a = b
  | [], b, _, _, h => (List.nil_perm.1 h).symm
  | x :: a, [], _, _, h => absurd (List.perm_nil.1 h) (by simp)
  | x :: a, y :: b, ha, hb, h => by
    have h1 := List.pairwise_cons.1 ha
    have h2 := List.pairwise_cons.1 hb
    have e : x = y := by
      have hx : x ∈ y :: b := h.mem_iff.1 List.mem_cons_self
      have hy : y ∈ x :: a := h.mem_iff.2 List.mem_cons_self
      rcases List.mem_cons.1 hx with e | hx
      · exact e
      · rcases List.mem_cons.1 hy with e | hy
        · exact e.symm
        · have := h1.1 y hy; have := h2.1 x hx; omega
    subst e
    rw [desc_uniq h1.2 h2.2 h.cons_inv]
theorem dsc_len (h : Pm n p) (hn : n ≤ 20) : (ctP p).length = (lens p).length := by
  have e : List.Perm (ctP p) ((lens p).map fun L : Nat => (L : Int)) := by
    refine List.perm_iff_count.2 fun v => ?_
    by_cases hv : 0 ≤ v
    · obtain ⟨L, rfl⟩ := Int.eq_ofNat_of_zero_le hv
      unfold ctP
      rw [dsc_count, h.1]
      have e2 : ((lens p).map fun L : Nat => (L : Int)).count ((L : Nat) : Int) = (lens p).count L := by
        rw [List.count_eq_countP, List.countP_map, List.count_eq_countP]
        refine List.countP_congr fun m _ => ?_
        simp only [Function.comp_apply, beq_iff_eq]
        omega
      rw [e2]
      by_cases hL : 1 ≤ L ∧ L ≤ n
      · rw [if_pos hL]
      · rw [if_neg hL, List.count_eq_zero.2 fun hm => hL ⟨lens_pos hm, lens_le h hm⟩]
    · rw [List.count_eq_zero.2 fun hm => by have := (dsc_mem hm).1; omega, List.count_eq_zero.2 fun hm => by
        obtain ⟨m, _, e⟩ := List.mem_map.1 hm
        omega]
  rw [e.length_eq, List.length_map]
end
end Go.Pm
end
/- What a walk over the cycles of a permutation has met; plain. -/
section
namespace Go.Pm
set_option linter.unusedVariables false
set_option linter.unusedSimpArgs false
/-- A point is met by the cycles of the points below i. -/
def sn (p : List Int) (i x : Nat) : Bool := decide (∃ j, j < i ∧ ∃ m, m < clen p j ∧ itr p j m = x)
/-- What is met: the cycles of the points below i, and k steps of the next. -/
def snK (p : List Int) (i k : Nat) : List Bool := (List.range p.length).map fun x => sn p i x || decide (∃ m, m < k ∧ itr p i m = x)
/-- So many steps are made from i. -/
def stK (p : List Int) (i : Nat) : Nat := if sn p i i = true then 0 else clen p i
def cycsK (p : List Int) (i : Nat) : List (List Int) := ((List.range i).filter fun i => isMn p i && decide (1 < clen p i)).map (cyc p)
theorem snK_len (p : List Int) (i k : Nat) : (snK p i k).length = p.length := by simp [snK]
theorem snK_zero (p : List Int) : snK p 0 0 = List.replicate p.length false := by
  refine List.ext_getElem (by simp [snK]) fun i h1 h2 => ?_
  simp [snK, sn]
theorem snK_get (p : List Int) (i k : Nat) {x : Nat} (hx : x < p.length) : (snK p i k).getD x false = (sn p i x || decide (∃ m, m < k ∧ itr p i m = x)) := by
  simp [snK, List.getD_eq_getElem?_getD, hx]
theorem snK_set (p : List Int) (i k : Nat) : (snK p i k).set (itr p i k) true = snK p i (k + 1) := by
  refine List.ext_getElem (by simp [snK]) fun x h1 h2 => ?_
  have hx : x < p.length := by rw [snK_len] at h2; exact h2
  rw [List.getElem_set]
  simp only [snK, List.getElem_map, List.getElem_range]
  by_cases e : itr p i k = x
  · rw [if_pos e]
    have : (∃ m, m < k + 1 ∧ itr p i m = x) := ⟨k, Nat.lt_succ_self k, e⟩
    simp [this]
  · rw [if_neg e]
    congr 1
    refine decide_eq_decide.2 ⟨fun ⟨m, h, e2⟩ => ⟨m, by omega, e2⟩, fun ⟨m, h, e2⟩ => ⟨m, ?_, e2⟩⟩
    rcases Nat.lt_or_ge m k with h3 | h3
    · exact h3
    · have : m = k := by omega
      subst this; exact absurd e2 e
section
variable {n : Nat} {p : List Int} {i : Nat}
theorem sn_iff (h : Pm n p) (hi : i ≤ n) (x : Nat) : sn p i x = true ↔ ∃ j, j < i ∧ ∃ m, itr p j m = x := by
  unfold sn
  rw [decide_eq_true_eq]
  constructor
  · rintro ⟨j, hj, m, _, e⟩; exact ⟨j, hj, m, e⟩
  · rintro ⟨j, hj, m, e⟩
    exact ⟨j, hj, m % clen p j, Nat.mod_lt _ (clen_pos p j), by rw [← itr_mod h (by omega), e]⟩
theorem sn_mn (h : Pm n p) (hi : i < n) : sn p i i = true ↔ ¬ isMn p i = true := by
  rw [sn_iff h (by omega), isMn_iff h hi]
  constructor
  · rintro ⟨j, hj, m, e⟩ hc
    obtain ⟨m', e'⟩ := itr_back h (show j < n by omega) m
    rw [e] at e'
    have := hc m'
    omega
  · intro hc
    obtain ⟨k, hk⟩ : ∃ k, ¬ i ≤ itr p i k := Classical.byContradiction fun h => hc fun k => Classical.byContradiction fun h2 => h ⟨k, h2⟩
    obtain ⟨m, e⟩ := itr_back h hi k
    exact ⟨itr p i k, by omega, m, e⟩
theorem st_iff (h : Pm n p) (hi : i < n) {k : Nat} (hk : k ≤ stK p i) : (snK p i k).getD (itr p i k) false = true ↔ k = stK p i := by
  have hb := itr_lt h hi k
  rw [snK_get p i k (by rw [h.1]; exact hb), Bool.or_eq_true, decide_eq_true_eq]
  unfold stK at hk ⊢
  by_cases hs : sn p i i = true
  · rw [if_pos hs] at hk ⊢
    have : k = 0 := by omega
    subst this
    exact ⟨fun _ => rfl, fun _ => .inl hs⟩
  · rw [if_neg hs] at hk ⊢
    constructor
    · rintro (h1 | ⟨m, hm, e⟩)
      · obtain ⟨j, hj, m, e⟩ := (sn_iff h (by omega) _).1 h1
        obtain ⟨m', e'⟩ := itr_back h hi k
        refine absurd ((sn_iff h (by omega) _).2 ⟨j, hj, m + m', ?_⟩) hs
        rw [itr_add, e, e']
      · rcases Nat.lt_or_ge k (clen p i) with h2 | h2
        · have := cyc_inj h hi (show m < clen p i by omega) h2 e
          omega
        · omega
    · intro e
      refine .inr ⟨0, by have := clen_pos p i; omega, ?_⟩
      rw [e, (clen_ok h hi).2.1]; rfl
theorem snK_next (h : Pm n p) (hi : i < n) : snK p i (stK p i) = snK p (i + 1) 0 := by
  unfold snK
  refine List.map_congr_left fun x hx => ?_
  rw [Bool.eq_iff_iff, Bool.or_eq_true, Bool.or_eq_true, decide_eq_true_eq, decide_eq_true_eq, sn_iff h (by omega), sn_iff h (by omega)]
  constructor
  · rintro (⟨j, hj, m, e⟩ | ⟨m, _, e⟩)
    · exact .inl ⟨j, by omega, m, e⟩
    · exact .inl ⟨i, by omega, m, e⟩
  · rintro (⟨j, hj, m, e⟩ | ⟨m, hm, _⟩)
    · by_cases hji : j = i
      · subst hji
        unfold stK
        by_cases hs : sn p j j = true
        · obtain ⟨l, hl, m', e'⟩ := (sn_iff h (by omega) _).1 hs
          exact .inl ⟨l, hl, m' + m, by rw [itr_add, e', e]⟩
        · rw [if_neg hs]
          exact .inr ⟨m % clen p j, Nat.mod_lt _ (clen_pos p j), by rw [← itr_mod h hi, e]⟩
      · exact .inl ⟨j, by omega, m, e⟩
    · omega
theorem cycsK_succ (h : Pm n p) (hi : i < n) : cycsK p (i + 1) = if 1 < stK p i then cycsK p i ++ [(cyc p i).take (stK p i)] else cycsK p i := by
  have e : cycsK p (i + 1) = cycsK p i ++ (if isMn p i && decide (1 < clen p i) then [cyc p i] else []) := by
    unfold cycsK
    rw [List.range_succ, List.filter_append, List.map_append]
    congr 1
    by_cases hc : (isMn p i && decide (1 < clen p i)) = true
    · rw [if_pos hc]; simp [hc]
    · rw [if_neg hc]; simp [hc]
  rw [e]
  unfold stK
  by_cases hs : sn p i i = true
  · have hm := (sn_mn h hi).1 hs
    rw [if_pos hs, if_neg (show ¬ 1 < 0 by omega), if_neg (by simp [hm]), List.append_nil]
  · have hm : isMn p i = true := Classical.byContradiction fun hc => hs ((sn_mn h hi).2 hc)
    rw [if_neg hs]
    have ec : (cyc p i).take (clen p i) = cyc p i := by rw [← cyc_length, List.take_length]
    by_cases h1 : 1 < clen p i
    · rw [if_pos h1, if_pos (by simp [hm, h1]), ec]
    · rw [if_neg h1, if_neg (by simp [h1]), List.append_nil]
theorem cycsK_all (h : Pm n p) : cycsK p n = cycs p := by unfold cycsK cycs; rw [h.1]
theorem cycsK_len (p : List Int) (i : Nat) : (cycsK p i).length ≤ i := by
  unfold cycsK
  rw [List.length_map]
  exact Nat.le_trans (List.length_filter_le _ _) (by simp)
theorem stK_le (h : Pm n p) (hi : i < n) : stK p i ≤ clen p i := by unfold stK; split <;> omega
end
end Go.Pm
end
/- The lengths of the longer cycles, and the points that stay; plain. -/
section
namespace Go.Pm
set_option linter.unusedVariables false
theorem filt_len : ∀ {l : List Nat}, (∀ x ∈ l, 1 ≤ x) → l.sum = (l.filter fun x => decide (1 < x)).sum + l.count 1
  | [], _ => rfl
  | x :: l, h => by
    have ih := filt_len (l := l) fun y hy => h y (List.mem_cons_of_mem _ hy)
    have hx := h x List.mem_cons_self
    rw [List.sum_cons, List.count_cons, List.filter_cons]
    by_cases e : 1 < x
    · rw [if_pos (decide_eq_true e), List.sum_cons, if_neg (by simp; omega)]; omega
    · rw [if_neg (by simp; omega), if_pos (by simp; omega)]; omega
theorem filt_count {l : List Nat} (h : ∀ x ∈ l, 1 ≤ x) {L : Nat} (hL : 1 ≤ L) : ((l.filter fun x => decide (1 < x)) ++ List.replicate (l.count 1) 1).count L = l.count L := by
  rw [List.count_append, List.count_replicate]
  by_cases e : 1 < L
  · rw [List.count_filter (p := fun x : Nat => decide (1 < x)) (by simpa using e), if_neg (by simp; omega), Nat.add_zero]
  · have : L = 1 := by omega
    subst this
    rw [List.count_eq_zero.2 fun hm => by have := (List.mem_filter.1 hm).2; simp at this, if_pos (by simp), Nat.zero_add]
variable {n : Nat} {p : List Int}
theorem cycs_lens (p : List Int) : (cycs p).map List.length = (lens p).filter fun x => decide (1 < x) := by
  unfold cycs lens reps
  rw [List.map_map, List.filter_map, List.filter_filter]
  have e : (List.length ∘ cyc p) = clen p := by funext i; exact cyc_length p i
  rw [e]
  congr 1
  refine List.filter_congr fun i _ => ?_
  simp only [Function.comp_apply]
  exact Bool.and_comm _ _
theorem ones_sum (h : Pm n p) : ((cycs p).map List.length).sum + (lens p).count 1 = n := by
  rw [cycs_lens, ← filt_len fun x hx => lens_pos hx, lens_sum h]
theorem ct_long (h : Pm n p) : dsc ((cycs p).map List.length ++ List.replicate ((lens p).count 1) 1) n = ctP p := by
  unfold ctP
  rw [cycs_lens, h.1]
  exact dsc_congr n fun L h1 _ => filt_count (fun x hx => lens_pos hx) h1
theorem long_in (h : Pm n p) : ∀ x ∈ (cycs p).map List.length ++ List.replicate ((lens p).count 1) 1, 1 ≤ x ∧ x ≤ n := fun x hx => by
  rcases List.mem_append.1 hx with hx | hx
  · rw [cycs_lens] at hx
    have := (List.mem_filter.1 hx).1
    exact ⟨lens_pos this, lens_le h this⟩
  · obtain ⟨h1, rfl⟩ := List.mem_replicate.1 hx
    have h2 : (1 : Nat) ∈ lens p := Classical.byContradiction fun hc => h1 (List.count_eq_zero.2 hc)
    exact ⟨Nat.le_refl _, lens_le h h2⟩
theorem long_len (h : Pm n p) : ((cycs p).map List.length ++ List.replicate ((lens p).count 1) 1).length ≤ n := by
  have e : List.Perm ((cycs p).map List.length ++ List.replicate ((lens p).count 1) 1) (lens p) := List.perm_iff_count.2 fun L => by
    by_cases hL : 1 ≤ L
    · rw [cycs_lens]; exact filt_count (fun x hx => lens_pos hx) hL
    · have : L = 0 := by omega
      subst this
      rw [List.count_eq_zero.2 fun hm => absurd (long_in h 0 hm).1 (by decide), List.count_eq_zero.2 fun hm => absurd (lens_pos hm) (Nat.lt_irrefl 0)]
  rw [e.length_eq]
  unfold lens reps
  rw [List.length_map]
  have := List.length_filter_le (isMn p) (List.range p.length)
  rw [List.length_range, h.1] at this
  rw [h.1]; exact this
end Go.Pm
end
/- The next permutation in the order of rows; plain. -/
section
namespace Go.Pm
set_option linter.unusedVariables false
/-- Row a stands before row b. -/
def Lx (n : Nat) (a b : List Int) : Prop := ∃ j, j < n ∧ (∀ m, m < j → a.getD m 0 = b.getD m 0) ∧ a.getD j 0 < b.getD j 0
theorem first_diff (a b : List Int) : ∀ d, (∀ m, m < d → a.getD m 0 = b.getD m 0) ∨ ∃ j, j < d ∧ (∀ m, m < j → a.getD m 0 = b.getD m 0) ∧ a.getD j 0 ≠ b.getD j 0
  | 0 => .inl fun m h => absurd h (Nat.not_lt_zero _)
  | d + 1 => by
    rcases first_diff a b d with h | ⟨j, h1, h2, h3⟩
    · by_cases e : a.getD d 0 = b.getD d 0
      · left; intro m hm
        by_cases hmd : m < d
        · exact h m hmd
        · obtain rfl : m = d := by omega
          exact e
      · exact .inr ⟨d, by omega, h, e⟩
    · exact .inr ⟨j, by omega, h2, h3⟩
section
variable {n : Nat} {x w y : List Int}
theorem later (hx : Pm n x) (hw : Pm n w) {j : Nat} (hj : j < n) (ha : ∀ m, m < j → x.getD m 0 = w.getD m 0) : ∃ t, j ≤ t ∧ t < n ∧ w.getD j 0 = x.getD t 0 := by
  obtain ⟨t, ht, e⟩ := hx.surj (hw.img_lt hj)
  have e2 : w.getD j 0 = x.getD t 0 := by rw [hw.get_eq hj, hx.get_eq ht, e]
  refine ⟨t, Nat.le_of_not_lt fun hlt => ?_, ht, e2⟩
  have := hw.2.2 j t hj ht (by rw [← ha t hlt, e2])
  omega
/-- From a on the numbers fall. -/
def Dn (n : Nat) (x : List Int) (a : Nat) : Prop := ∀ m, a ≤ m → m + 1 < n → x.getD (m + 1) 0 < x.getD m 0
/-- From a on the numbers rise. -/
def Up (n : Nat) (x : List Int) (a : Nat) : Prop := ∀ m, a ≤ m → m + 1 < n → x.getD m 0 < x.getD (m + 1) 0
theorem Dn.lt {a : Nat} (h : Dn n x a) {s : Nat} (hs : a ≤ s) : ∀ d, s + d + 1 < n → x.getD (s + d + 1) 0 < x.getD s 0
  | 0, ht => h s hs ht
  | d + 1, ht => by
    have h1 := h.lt hs d (by omega)
    have h2 := h (s + d + 1) (by omega) ht
    have e : s + (d + 1) + 1 = s + d + 1 + 1 := by omega
    rw [e]; omega
theorem Dn.lt' {a : Nat} (h : Dn n x a) {s t : Nat} (hs : a ≤ s) (hst : s < t) (ht : t < n) : x.getD t 0 < x.getD s 0 := by
  have := h.lt hs (t - s - 1) (by omega)
  rwa [show s + (t - s - 1) + 1 = t by omega] at this
theorem Up.lt {a : Nat} (h : Up n x a) {s : Nat} (hs : a ≤ s) : ∀ d, s + d + 1 < n → x.getD s 0 < x.getD (s + d + 1) 0
  | 0, ht => h s hs ht
  | d + 1, ht => by
    have h1 := h.lt hs d (by omega)
    have h2 := h (s + d + 1) (by omega) ht
    have e : s + (d + 1) + 1 = s + d + 1 + 1 := by omega
    rw [e]; omega
theorem Up.lt' {a : Nat} (h : Up n x a) {s t : Nat} (hs : a ≤ s) (hst : s < t) (ht : t < n) : x.getD s 0 < x.getD t 0 := by
  have := h.lt hs (t - s - 1) (by omega)
  rwa [show s + (t - s - 1) + 1 = t by omega] at this
/-- A row that falls from a on is not before a row that agrees up to a. -/
theorem Dn.last (hx : Pm n x) (hw : Pm n w) {a : Nat} (h : Dn n x a) {j : Nat} (ha : a ≤ j) (hj : j < n) (hag : ∀ m, m < j → x.getD m 0 = w.getD m 0) : ¬ x.getD j 0 < w.getD j 0 := fun hlt => by
  obtain ⟨t, h1, h2, h3⟩ := later hx hw hj hag
  by_cases e : t = j
  · subst e; omega
  · have := h.lt' (s := j) (t := t) ha (by omega) h2
    omega
theorem Up.first (hy : Pm n y) (hw : Pm n w) {a : Nat} (h : Up n y a) (hag : ∀ m, m < a → y.getD m 0 = w.getD m 0) : y = w ∨ Lx n y w := by
  rcases first_diff y w n with h1 | ⟨j, h1, h2, h3⟩
  · exact .inl (ext (hy.1.trans hw.1.symm) fun j hj => h1 j (by rw [hy.1] at hj; exact hj))
  · right
    refine ⟨j, h1, h2, ?_⟩
    obtain ⟨t, k1, k2, k3⟩ := later hy hw h1 h2
    have ha : a ≤ j := Nat.le_of_not_lt fun hlt => h3 (hag j hlt)
    by_cases e : t = j
    · subst e; exact absurd k3.symm h3
    · rw [k3]; exact h.lt' ha (by omega) k2
/-- Where the next row's numbers come from. -/
def sg (n i k j : Nat) : Nat := if j < i then j else if j = i then k else if n + i - j = k then i else n + i - j
def nx (x : List Int) (i k : Nat) : List Int := (List.range x.length).map fun j => x.getD (sg x.length i k j) 0
theorem nx_len (x : List Int) (i k : Nat) : (nx x i k).length = x.length := by simp [nx]
theorem nx_get (hl : x.length = n) {i k j : Nat} (hj : j < n) : (nx x i k).getD j 0 = x.getD (sg n i k j) 0 := by
  subst hl
  simp [nx, List.getD_eq_getElem?_getD, hj]
theorem sg_lt {i k j : Nat} (hi : i < n) (hk : k < n) (hj : j < n) : sg n i k j < n := by
  unfold sg; split
  · omega
  · split
    · omega
    · split <;> omega
theorem sg_inj {i k a b : Nat} (hik : i < k) (hk : k < n) (ha : a < n) (hb : b < n) (e : sg n i k a = sg n i k b) : a = b := by
  unfold sg at e
  split at e <;> split at e <;> (try split at e) <;> (try split at e) <;> (try split at e) <;> (try split at e) <;> omega
/-- Where the search for the next row stops. -/
structure Nxt (n : Nat) (x : List Int) (i k : Nat) : Prop where
  lt : i + 1 < n
  dn : Dn n x (i + 1)
  up : x.getD i 0 ≤ x.getD (i + 1) 0
  kn : k < n
  ge : x.getD i 0 ≤ x.getD k 0
  af : ∀ j, k < j → j < n → x.getD j 0 < x.getD i 0
variable {i k : Nat}
theorem Nxt.ik (h : Nxt n x i k) : i < k ∨ k = i := by
  rcases Nat.lt_or_ge k (i + 1) with h1 | h1
  · have := h.af (i + 1) h1 h.lt
    have := h.up
    omega
  · omega
theorem Nxt.lik (hx : Pm n x) (h : Nxt n x i k) : i < k ∧ x.getD i 0 < x.getD k 0 := by
  have hik : i < k := by
    rcases h.ik with h1 | h1
    · exact h1
    · have := h.af (i + 1) (by omega) h.lt
      have := h.up
      omega
  refine ⟨hik, ?_⟩
  have h1 := h.ge
  have : x.getD i 0 ≠ x.getD k 0 := fun e => by
    have := hx.2.2 i k (by have := h.lt; omega) h.kn e
    omega
  omega
theorem nx_pm (hx : Pm n x) (h : Nxt n x i k) : Pm n (nx x i k) := by
  obtain ⟨hik, _⟩ := h.lik hx
  have hk := h.kn
  have hi1 := h.lt
  refine ⟨by rw [nx_len, hx.1], fun j hj => ?_, fun a b ha hb e => ?_⟩
  · rw [nx_get hx.1 hj]; exact hx.2.1 _ (sg_lt (by omega) hk hj)
  · rw [nx_get hx.1 ha, nx_get hx.1 hb] at e
    exact sg_inj hik hk ha hb (hx.2.2 _ _ (sg_lt (by omega) hk ha) (sg_lt (by omega) hk hb) e)
theorem nx_up (hx : Pm n x) (h : Nxt n x i k) : Up n (nx x i k) (i + 1) := fun m hm hmn => by
  obtain ⟨hik, hlt⟩ := h.lik hx
  have hk := h.kn
  have hi1 := h.lt
  rw [nx_get hx.1 (by omega), nx_get hx.1 hmn]
  have e1 : sg n i k m = if n + i - m = k then i else n + i - m := by unfold sg; rw [if_neg (by omega), if_neg (by omega)]
  have e2 : sg n i k (m + 1) = if n + i - (m + 1) = k then i else n + i - (m + 1) := by unfold sg; rw [if_neg (by omega), if_neg (by omega)]
  rw [e1, e2]
  by_cases c1 : n + i - m = k
  · rw [if_pos c1, if_neg (by omega)]
    have := h.dn.lt' (s := n + i - (m + 1)) (t := k) (by omega) (by omega) hk
    omega
  · rw [if_neg c1]
    by_cases c2 : n + i - (m + 1) = k
    · rw [if_pos c2]; exact h.af _ (by omega) (by omega)
    · rw [if_neg c2]; exact h.dn.lt' (by omega) (by omega) (by omega)
theorem nx_gt (hx : Pm n x) (h : Nxt n x i k) : Lx n x (nx x i k) := by
  obtain ⟨hik, hlt⟩ := h.lik hx
  have hk := h.kn
  have hi1 := h.lt
  refine ⟨i, by omega, fun m hm => ?_, ?_⟩
  · rw [nx_get hx.1 (by omega)]; unfold sg; rw [if_pos hm]
  · rw [nx_get hx.1 (by omega)]; unfold sg; rw [if_neg (by omega), if_pos rfl]; exact hlt
/-- Nothing lies between a row and the next. -/
theorem nx_next (hx : Pm n x) (h : Nxt n x i k) (hw : Pm n w) (hl : Lx n x w) : nx x i k = w ∨ Lx n (nx x i k) w := by
  obtain ⟨hik, hlt⟩ := h.lik hx
  have hk := h.kn
  have hi1 := h.lt
  obtain ⟨j, hj, ha, hjl⟩ := hl
  have hy := nx_pm hx h
  have hb : ∀ m, m < i → (nx x i k).getD m 0 = x.getD m 0 := fun m hm => by
    rw [nx_get hx.1 (by omega)]; unfold sg; rw [if_pos hm]
  have hi : (nx x i k).getD i 0 = x.getD k 0 := by rw [nx_get hx.1 (by omega)]; unfold sg; rw [if_neg (by omega), if_pos rfl]
  rcases Nat.lt_trichotomy j i with h1 | h1 | h1
  · exact .inr ⟨j, hj, fun m hm => by rw [hb m (by omega)]; exact ha m hm, by rw [hb j h1]; exact hjl⟩
  · subst h1
    obtain ⟨t, k1, k2, k3⟩ := later hx hw hj ha
    have ht : j < t := Nat.lt_of_le_of_ne k1 fun e => by subst e; omega
    have htk : t ≤ k := Nat.le_of_not_lt fun hlt2 => by have := h.af t hlt2 k2; omega
    by_cases e : t = k
    · subst e
      refine (nx_up hx h).first hy hw fun m hm => ?_
      by_cases hmj : m < j
      · rw [hb m hmj]; exact ha m hmj
      · obtain rfl : m = j := by omega
        rw [hi, k3]
    · exact .inr ⟨j, hj, fun m hm => by rw [hb m hm]; exact ha m hm, by rw [hi, k3]; exact h.dn.lt' (by omega) (by omega) hk⟩
  · exact absurd hjl (h.dn.last hx hw (by omega) hj ha)
theorem no_next (hx : Pm n x) (h : Dn n x 0) (hw : Pm n w) : ¬ Lx n x w := fun ⟨j, hj, ha, hjl⟩ => h.last hx hw (Nat.zero_le _) hj ha hjl
theorem idn_first (hw : Pm n w) : idn n = w ∨ Lx n (idn n) w := by
  refine Up.first (a := 0) (.idn n) hw (fun m _ hm => ?_) (fun m hm => absurd hm (Nat.not_lt_zero _))
  rw [idn_get (by omega), idn_get hm]; omega
end
/-- A row as one number. -/
def val : List Int → Nat
  | [] => 0
  | a :: l => a.toNat * 32 ^ l.length + val l
theorem val_lt : ∀ (l : List Int), (∀ j, j < l.length → l.getD j 0 < 32) → val l < 32 ^ l.length
  | [], _ => by simp [val]
  | a :: l, h => by
    have h0 : a < 32 := h 0 (by simp)
    have ih := val_lt l fun j hj => h (j + 1) (by simpa using hj)
    have h1 : a.toNat * 32 ^ l.length ≤ 31 * 32 ^ l.length := Nat.mul_le_mul_right _ (by omega)
    rw [List.length_cons, Nat.pow_succ]
    show a.toNat * 32 ^ l.length + val l < _
    omega
theorem val_mono : ∀ (a b : List Int), a.length = b.length → (∀ j, j < a.length → 0 ≤ a.getD j 0 ∧ a.getD j 0 < 32) → (∀ j, j < b.length → 0 ≤ b.getD j 0 ∧ b.getD j 0 < 32) → Lx a.length a b → val a < val b
  | [], _, _, _, _, ⟨j, hj, _⟩ => absurd hj (Nat.not_lt_zero _)
  | _ :: _, [], hl, _, _, _ => by simp at hl
  | x :: a, y :: b, hl, ha, hb, ⟨j, hj, hag, hlt⟩ => by
    have hl2 : a.length = b.length := by simpa using hl
    have hx := ha 0 (by simp)
    have hy := hb 0 (by simp)
    have ha2 : ∀ j, j < a.length → 0 ≤ a.getD j 0 ∧ a.getD j 0 < 32 := fun j hj => ha (j + 1) (by simpa using hj)
    have hb2 : ∀ j, j < b.length → 0 ≤ b.getD j 0 ∧ b.getD j 0 < 32 := fun j hj => hb (j + 1) (by simpa using hj)
    show x.toNat * 32 ^ a.length + val a < y.toNat * 32 ^ b.length + val b
    rw [← hl2]
    cases j with
    | zero =>
      have h1 := val_lt a fun j hj => (ha2 j hj).2
      have hxy : x < y := hlt
      have hx0 : 0 ≤ x := hx.1
      have h2 : (x.toNat + 1) * 32 ^ a.length ≤ y.toNat * 32 ^ a.length := Nat.mul_le_mul_right _ (by omega)
      rw [Nat.succ_mul] at h2
      omega
    | succ j =>
      have e : x = y := hag 0 (by omega)
      have ih := val_mono a b hl2 ha2 hb2 ⟨j, by simpa using hj, fun m hm => hag (m + 1) (by omega), hlt⟩
      rw [e]; omega
theorem val_pm {n : Nat} {a b : List Int} (ha : Pm n a) (hb : Pm n b) (hn : n ≤ 20) (h : Lx n a b) : val a < val b :=
  val_mono a b (ha.1.trans hb.1.symm) (fun j hj => by have := ha.2.1 j (by rw [ha.1] at hj; exact hj); omega) (fun j hj => by have := hb.2.1 j (by rw [hb.1] at hj; exact hj); omega) (by rw [ha.1]; exact h)
end Go.Pm
end
/- Where the next permutation is found; plain. -/
section
namespace Go.Pm
set_option linter.unusedVariables false
section
variable {n : Nat} {x : List Int}
theorem dn_or : ∀ a, a ≤ n → Dn n x (n - a) ∨ ∃ i, i + 1 < n ∧ Dn n x (i + 1) ∧ ¬ x.getD (i + 1) 0 < x.getD i 0
  | 0, _ => .inl fun m hm hmn => by omega
  | a + 1, h => by
    rcases dn_or a (by omega) with h1 | h1
    · by_cases hb : n - (a + 1) + 1 < n
      · by_cases hx : x.getD (n - (a + 1) + 1) 0 < x.getD (n - (a + 1)) 0
        · left
          intro m hm hmn
          by_cases e : m = n - (a + 1)
          · rw [e]; exact hx
          · exact h1 m (by omega) hmn
        · exact .inr ⟨n - (a + 1), hb, by rw [show n - (a + 1) + 1 = n - a by omega]; exact h1, hx⟩
      · exact .inl fun m hm hmn => by omega
    · exact .inr h1
theorem le_or (v : Int) : ∀ d, d ≤ n → (∀ j, n - d ≤ j → j < n → x.getD j 0 < v) ∨ ∃ k, k < n ∧ v ≤ x.getD k 0 ∧ ∀ j, k < j → j < n → x.getD j 0 < v
  | 0, _ => .inl fun j h1 h2 => by omega
  | d + 1, h => by
    rcases le_or v d (by omega) with h1 | h1
    · by_cases hx : x.getD (n - (d + 1)) 0 < v
      · left
        intro j hj hjn
        by_cases e : j = n - (d + 1)
        · rw [e]; exact hx
        · exact h1 j (by omega) hjn
      · exact .inr ⟨n - (d + 1), by omega, by omega, fun j hj hjn => h1 j (by omega) hjn⟩
    · exact .inr h1
theorem nxt_ex (h : ¬ Dn n x 0) : ∃ i k, Nxt n x i k := by
  rcases dn_or (n := n) (x := x) n (Nat.le_refl _) with h1 | ⟨i, h1, h2, h3⟩
  · rw [Nat.sub_self] at h1; exact absurd h1 h
  · rcases le_or (n := n) (x := x) (x.getD i 0) n (Nat.le_refl _) with k1 | ⟨k, k1, k2, k3⟩
    · exact absurd (k1 (i + 1) (by omega) h1) h3
    · exact ⟨i, k, h1, h2, by omega, k1, k2, k3⟩
/-- The row with two numbers exchanged. -/
def exch (x : List Int) (i k : Nat) : List Int := (x.set i (x.getD k 0)).set k (x.getD i 0)
theorem exch_len (x : List Int) (i k : Nat) : (exch x i k).length = x.length := by simp [exch]
theorem exch_get {i k j : Nat} (hi : i < x.length) (hk : k < x.length) (hik : i ≠ k) (hj : j < x.length) : (exch x i k).getD j 0 = if j = i then x.getD k 0 else if j = k then x.getD i 0 else x.getD j 0 := by
  unfold exch
  rw [List.getD_eq_getElem?_getD, List.getElem?_set, List.length_set]
  by_cases h1 : k = j
  · subst h1
    rw [if_pos rfl, if_pos hk, if_neg (Ne.symm hik), if_pos rfl]; rfl
  · rw [if_neg h1, List.getElem?_set]
    by_cases h2 : i = j
    · subst h2
      rw [if_pos rfl, if_pos hi, if_pos rfl]; rfl
    · rw [if_neg h2, if_neg (Ne.symm h2), if_neg (Ne.symm h1), List.getD_eq_getElem?_getD]
theorem nx_eq {i k : Nat} (hik : i < k) (hk : k < x.length) : (exch x i k).take (i + 1) ++ ((exch x i k).drop (i + 1)).reverse = nx x i k := by
  have hl := exch_len x i k
  have hlen : ((exch x i k).take (i + 1) ++ ((exch x i k).drop (i + 1)).reverse).length = x.length := by
    rw [List.length_append, List.length_take, List.length_reverse, List.length_drop]; omega
  refine ext (by rw [hlen, nx_len]) fun j hj => ?_
  rw [hlen] at hj
  rw [nx_get rfl hj]
  have hta : ((exch x i k).take (i + 1)).length = i + 1 := by rw [List.length_take]; omega
  by_cases h1 : j < i + 1
  · rw [List.getD_eq_getElem?_getD, List.getElem?_append_left (by omega), List.getElem?_take_of_lt h1, ← List.getD_eq_getElem?_getD, exch_get (by omega) hk (by omega) hj]
    unfold sg
    by_cases h2 : j = i
    · rw [if_pos h2, if_neg (by omega), if_pos h2]
    · rw [if_neg h2, if_neg (by omega), if_pos (by omega)]
  · rw [List.getD_eq_getElem?_getD, List.getElem?_append_right (by omega), hta, List.getElem?_reverse (by rw [List.length_drop]; omega), List.getElem?_drop, List.length_drop, hl, show i + 1 + (x.length - (i + 1) - 1 - (j - (i + 1))) = x.length + i - j by omega, ← List.getD_eq_getElem?_getD, exch_get (by omega) hk (by omega) (by omega)]
    unfold sg
    rw [if_neg (show ¬ x.length + i - j = i by omega), if_neg (show ¬ j < i by omega), if_neg (show ¬ j = i by omega)]
    by_cases h3 : x.length + i - j = k
    · rw [if_pos h3, if_pos h3]
    · rw [if_neg h3, if_neg h3]
end
end Go.Pm
end

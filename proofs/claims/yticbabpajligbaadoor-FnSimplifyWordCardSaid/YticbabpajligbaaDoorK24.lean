import Derived.Test.YticbabpajligbaaDoorK3
import Derived.Test.YticbabpajligbaaDoorK16
import Derived.Calls
/- Regions of open order with one call that writes blocks of its own: what comes behind it may come in any order. -/
section
namespace Go.Av
section
variable {P : Program} {N : Cx} {H : Hp}
variable {Kd : AV → Hp → Prop}
variable (P N) in
/-- A call that leaves the frame as it is, whatever that is. -/
def CallDP (f : FuncId) (args : List AV) (H : Hp) (K : AV → Hp → Prop) : Prop := ∀ B : Fr, CallG P N f args B H fun r A' H' => A' = B ∧ K r H'
theorem CallDP_congr (f : FuncId) (args args' : List AV) (H H' : Hp) (K : AV → Hp → Prop) (h1 : args = args') (h2 : H = H') : CallDP P N f args H K = CallDP P N f args' H' K := by subst h1 h2; rfl
variable (P N) in
def pivD (op : Op) (A : Fr) (H : Hp) (K : AV → Hp → Prop) : Prop :=
  match op with
  | .call { callee := .value f, args, argTypes := _ } => (match calleeOf (A.ev f) with
    | some (g, caps) => withArgs (evArgs A args.toList) fun l => CallDP P N g (l ++ caps) H K
    | none => False)
  | _ => False
variable (P N) in
def opsD (nf m : Nat) (Q : Fr → Hp → Prop) (l : List Oper) (A : Fr) (H : Hp) : Prop :=
  match l.drop m with
  | o :: lr => opsQ P N (l.map (·.dst)) (fun A1 => pivD P N o.op A1 H fun r H' =>
      opsQ P N (l.map (·.dst)) (fun A2 => Ob (sameG A2 A1 ((l.take nf).map (·.dst))) (opsQ P N (l.map (·.dst)) (fun A3 => Q A3 H') lr (putd o.dst r A1) H')) (l.take nf) A H') (l.take m) A H
  | [] => False
end
attribute [congr] CallDP_congr
attribute [go_sem] opsD pivD
end Go.Av
end
/- The cycles of a permutation, and its order; plain. -/
section
namespace Go.Pm
set_option linter.unusedVariables false
set_option linter.unusedSimpArgs false
/-- Where a point is behind k steps. -/
def itr (p : List Int) (i : Nat) : Nat → Nat
  | 0 => i
  | k + 1 => img p (itr p i k)
/-- How long the cycle of a point is. -/
def clen (p : List Int) (i : Nat) : Nat := (List.range p.length).findIdx (fun k => decide (itr p i (k + 1) = i)) + 1
/-- The cycle of a point, the point first. -/
def cyc (p : List Int) (i : Nat) : List Int := (List.range (clen p i)).map fun k => ((itr p i k : Nat) : Int)
/-- The point is the least of its cycle. -/
def isMn (p : List Int) (i : Nat) : Bool := decide (∀ k, k < clen p i → i ≤ itr p i k)
def cycs (p : List Int) : List (List Int) := ((List.range p.length).filter fun i => isMn p i && decide (1 < clen p i)).map (cyc p)
def lcmL (l : List Nat) : Nat := l.foldl Nat.lcm 1
/-- The order of a permutation. -/
def ord (p : List Int) : Nat := lcmL ((List.range p.length).map (clen p))
theorem cyc_length (p : List Int) (i : Nat) : (cyc p i).length = clen p i := by simp [cyc]
theorem clen_pos (p : List Int) (i : Nat) : 0 < clen p i := Nat.succ_pos _
theorem itr_add (p : List Int) (i a : Nat) : ∀ b, itr p i (a + b) = itr p (itr p i a) b
  | 0 => rfl
  | b + 1 => by
    show img p (itr p i (a + b)) = img p (itr p (itr p i a) b)
    rw [itr_add p i a b]
section
variable {n : Nat} {p : List Int} {i j : Nat}
theorem itr_lt (h : Pm n p) (hi : i < n) : ∀ k, itr p i k < n
  | 0 => hi
  | k + 1 => h.img_lt (itr_lt h hi k)
theorem itr_inj (h : Pm n p) (hi : i < n) (hj : j < n) : ∀ k, itr p i k = itr p j k → i = j
  | 0, e => e
  | k + 1, e => itr_inj h hi hj k (h.inj (itr_lt h hi k) (itr_lt h hj k) e)
theorem itr_sub (h : Pm n p) (hi : i < n) {a b : Nat} (hab : a ≤ b) (e : itr p i a = itr p i b) : itr p i (b - a) = i := by
  have e1 : itr p i b = itr p (itr p i (b - a)) a := by rw [← itr_add, Nat.sub_add_cancel hab]
  exact (itr_inj h hi (itr_lt h hi _) a (e.trans e1)).symm
theorem itr_ret (h : Pm n p) (hi : i < n) : ∃ k, k < n ∧ itr p i (k + 1) = i := by
  refine Classical.byContradiction fun hc => ?_
  have hno : ∀ k, 0 < k → k ≤ n → itr p i k ≠ i := fun k h0 hk e => hc ⟨k - 1, by omega, by rw [Nat.sub_add_cancel h0]; exact e⟩
  have hnd : ((List.range (n + 1)).map (itr p i)).Nodup := by
    rw [List.nodup_iff_pairwise_ne, List.pairwise_map]
    refine List.Pairwise.imp_of_mem (R := fun a b => a ≠ b) ?_ (List.nodup_iff_pairwise_ne.1 List.nodup_range)
    intro a b ha hb hne e
    have ha' : a < n + 1 := by simpa using ha
    have hb' : b < n + 1 := by simpa using hb
    rcases Nat.lt_or_gt_of_ne hne with hl | hl
    · exact hno (b - a) (by omega) (by omega) (itr_sub h hi (by omega) e)
    · exact hno (a - b) (by omega) (by omega) (itr_sub h hi (by omega) e.symm)
  have := Go.Plain.nodup_le (List.range n) _ hnd fun x hx => by
    obtain ⟨k, _, rfl⟩ := List.mem_map.1 hx
    exact List.mem_range.2 (itr_lt h hi k)
  simp at this
  omega
theorem clen_ok (h : Pm n p) (hi : i < n) : clen p i ≤ n ∧ itr p i (clen p i) = i ∧ ∀ k, 0 < k → k < clen p i → itr p i k ≠ i := by
  obtain ⟨k, hk, e⟩ := itr_ret h hi
  have hlt : (List.range p.length).findIdx (fun k => decide (itr p i (k + 1) = i)) < (List.range p.length).length := by
    rw [List.findIdx_lt_length]
    exact ⟨k, List.mem_range.2 (by rw [h.1]; exact hk), by simpa using e⟩
  have hget := List.findIdx_getElem (w := hlt)
  simp only [List.getElem_range, decide_eq_true_eq] at hget
  refine ⟨?_, hget, fun m h0 hm e => ?_⟩
  · rw [List.length_range] at hlt
    have := h.1
    unfold clen; omega
  · unfold clen at hm
    have h1 := List.not_of_lt_findIdx (p := fun k => decide (itr p i (k + 1) = i)) (xs := List.range p.length) (i := m - 1) (by omega)
    simp only [List.getElem_range, decide_eq_true_eq] at h1
    rw [Nat.sub_add_cancel h0] at h1
    simp [e] at h1
theorem itr_mul (h : Pm n p) (hi : i < n) : ∀ q, itr p i (clen p i * q) = i
  | 0 => rfl
  | q + 1 => by rw [Nat.mul_succ, itr_add, itr_mul h hi q]; exact (clen_ok h hi).2.1
theorem itr_mod (h : Pm n p) (hi : i < n) (k : Nat) : itr p i k = itr p i (k % clen p i) := by
  conv => lhs; rw [← Nat.div_add_mod k (clen p i), itr_add, itr_mul h hi]
theorem clen_dvd (h : Pm n p) (hi : i < n) (m : Nat) : itr p i m = i ↔ clen p i ∣ m := by
  constructor
  · intro e
    rw [itr_mod h hi] at e
    rcases Nat.eq_zero_or_pos (m % clen p i) with h0 | h0
    · exact Nat.dvd_of_mod_eq_zero h0
    · exact absurd e ((clen_ok h hi).2.2 _ h0 (Nat.mod_lt _ (clen_pos p i)))
  · rintro ⟨q, rfl⟩; exact itr_mul h hi q
theorem clen_itr (h : Pm n p) (hi : i < n) (k : Nat) : clen p (itr p i k) = clen p i := by
  have key : ∀ m, itr p (itr p i k) m = itr p i k ↔ itr p i m = i := fun m => by
    rw [← itr_add, Nat.add_comm, itr_add]
    exact ⟨fun e => itr_inj h (itr_lt h hi _) hi k e, fun e => by rw [e]⟩
  refine Nat.dvd_antisymm ?_ ?_
  · rw [← clen_dvd h (itr_lt h hi k), key, clen_dvd h hi]; exact Nat.dvd_refl _
  · rw [← clen_dvd h hi, ← key, clen_dvd h (itr_lt h hi k)]; exact Nat.dvd_refl _
theorem cyc_inj (h : Pm n p) (hi : i < n) {a b : Nat} (ha : a < clen p i) (hb : b < clen p i) (e : itr p i a = itr p i b) : a = b := by
  rcases Nat.lt_trichotomy a b with hl | he | hl
  · exact absurd (itr_sub h hi (by omega) e) ((clen_ok h hi).2.2 _ (by omega) (by omega))
  · exact he
  · exact absurd (itr_sub h hi (by omega) e.symm) ((clen_ok h hi).2.2 _ (by omega) (by omega))
theorem itr_back (h : Pm n p) (hi : i < n) (k : Nat) : ∃ m, itr p (itr p i k) m = i := by
  refine ⟨clen p i * (k + 1) - k, ?_⟩
  have : k ≤ clen p i * (k + 1) := Nat.le_trans (Nat.le_succ k) (Nat.le_mul_of_pos_left _ (clen_pos p i))
  rw [← itr_add, Nat.add_sub_cancel' this, itr_mul h hi]
theorem isMn_iff (h : Pm n p) (hi : i < n) : isMn p i = true ↔ ∀ k, i ≤ itr p i k := by
  unfold isMn
  rw [decide_eq_true_eq]
  exact ⟨fun hm k => by rw [itr_mod h hi]; exact hm _ (Nat.mod_lt _ (clen_pos p i)), fun hm k _ => hm k⟩
theorem min_ex (h : Pm n p) : ∀ i, i < n → ∃ k, isMn p (itr p i k) = true := by
  intro i
  induction i using Nat.strongRecOn with
  | _ i ih =>
    intro hi
    by_cases hm : isMn p i = true
    · exact ⟨0, hm⟩
    · have : ∃ k, itr p i k < i := Classical.byContradiction fun hc => hm ((isMn_iff h hi).2 fun k => Nat.le_of_not_lt fun hl => hc ⟨k, hl⟩)
      obtain ⟨k, hk⟩ := this
      obtain ⟨m, hm⟩ := ih _ hk (itr_lt h hi k)
      exact ⟨k + m, by rw [itr_add]; exact hm⟩
end
theorem foldl_lcm (l : List Nat) : ∀ (o m : Nat), l.foldl Nat.lcm o ∣ m ↔ o ∣ m ∧ ∀ x ∈ l, x ∣ m := by
  induction l with
  | nil => intro o m; simp
  | cons a l ih =>
    intro o m
    rw [List.foldl_cons, ih]
    constructor
    · rintro ⟨h1, h2⟩
      exact ⟨Nat.dvd_trans (Nat.dvd_lcm_left _ _) h1, fun x hx => by
        rcases List.mem_cons.1 hx with rfl | hx
        · exact Nat.dvd_trans (Nat.dvd_lcm_right _ _) h1
        · exact h2 x hx⟩
    · rintro ⟨h1, h2⟩
      exact ⟨Nat.lcm_dvd h1 (h2 a (by simp)), fun x hx => h2 x (by simp [hx])⟩
theorem lcmL_dvd (l : List Nat) (m : Nat) : lcmL l ∣ m ↔ ∀ x ∈ l, x ∣ m := by
  unfold lcmL
  rw [foldl_lcm]
  exact ⟨fun h => h.2, fun h => ⟨Nat.one_dvd m, h⟩⟩
theorem lcmL_snoc (l : List Nat) (k : Nat) (h : k < l.length) : lcmL (l.take (k + 1)) = Nat.lcm (lcmL (l.take k)) (l.getD k 0) := by
  unfold lcmL
  rw [List.take_add_one, List.foldl_append, List.getElem?_eq_getElem h, List.getD_eq_getElem?_getD, List.getElem?_eq_getElem h]
  rfl
theorem lcm_div (o m : Nat) : o / Nat.gcd o m * m = Nat.lcm o m := by
  obtain ⟨q, hq⟩ := Nat.gcd_dvd_left o m
  rcases Nat.eq_zero_or_pos (Nat.gcd o m) with h0 | h0
  · have h1 : o = 0 := by rw [hq, h0, Nat.zero_mul]
    subst h1; simp
  · have e1 : o / Nat.gcd o m = q := by
      conv => lhs; lhs; rw [hq]
      exact Nat.mul_div_cancel_left q h0
    have e2 : o * m = Nat.gcd o m * (q * m) := by rw [← Nat.mul_assoc, ← hq]
    unfold Nat.lcm
    rw [e1, e2, Nat.mul_div_cancel_left _ h0]
section
variable {n : Nat} {p : List Int} {i j : Nat}
theorem clen_ord (h : Pm n p) (hi : i < n) : clen p i ∣ ord p :=
  (lcmL_dvd _ _).1 (Nat.dvd_refl (ord p)) _ (List.mem_map.2 ⟨i, List.mem_range.2 (by rw [h.1]; exact hi), rfl⟩)
theorem itr_ord (h : Pm n p) (hi : i < n) : itr p i (ord p) = i := (clen_dvd h hi _).2 (clen_ord h hi)
theorem dvd_20 : ∀ k, k < 21 → 0 < k → k ∣ 232792560 := by decide
theorem lcm_20 {l : List Nat} (hl : ∀ x ∈ l, 0 < x ∧ x ≤ 20) : 0 < lcmL l ∧ lcmL l ≤ 232792560 := by
  have hd : lcmL l ∣ 232792560 := (lcmL_dvd _ _).2 fun x hx => dvd_20 x (by have := (hl x hx).2; omega) (hl x hx).1
  exact ⟨Nat.pos_of_dvd_of_pos hd (by decide), Nat.le_of_dvd (by decide) hd⟩
theorem ord_20 (h : Pm n p) (hn : n ≤ 20) : 0 < ord p ∧ ord p ≤ 232792560 := lcm_20 fun x hx => by
  obtain ⟨i, hi, rfl⟩ := List.mem_map.1 hx
  have := (clen_ok h (by rw [← h.1]; exact List.mem_range.1 hi)).1
  exact ⟨clen_pos p i, by omega⟩
theorem mem_cycs (h : Pm n p) (c : List Int) : c ∈ cycs p ↔ ∃ i, i < n ∧ isMn p i = true ∧ 1 < clen p i ∧ c = cyc p i := by
  unfold cycs
  simp only [List.mem_map, List.mem_filter, List.mem_range, Bool.and_eq_true, decide_eq_true_eq, h.1]
  exact ⟨fun ⟨i, ⟨a, b, c⟩, d⟩ => ⟨i, a, b, c, d.symm⟩, fun ⟨i, a, b, c, d⟩ => ⟨i, ⟨a, b, c⟩, d.symm⟩⟩
/-- The cycles of two points and more tell the order. -/
theorem ord_cycs (h : Pm n p) : lcmL ((cycs p).map List.length) = ord p := by
  refine Nat.dvd_antisymm ((lcmL_dvd _ _).2 fun x hx => ?_) ((lcmL_dvd _ _).2 fun x hx => ?_)
  · obtain ⟨c, hc, rfl⟩ := List.mem_map.1 hx
    obtain ⟨i, hi, _, _, rfl⟩ := (mem_cycs h c).1 hc
    rw [cyc_length]; exact clen_ord h hi
  · obtain ⟨i, hi, rfl⟩ := List.mem_map.1 hx
    rw [List.mem_range, h.1] at hi
    obtain ⟨k, hk⟩ := min_ex h i hi
    rw [← clen_itr h hi k]
    by_cases h1 : 1 < clen p (itr p i k)
    · refine (lcmL_dvd _ _).1 (Nat.dvd_refl _) _ (List.mem_map.2 ⟨cyc p (itr p i k), (mem_cycs h _).2 ⟨_, itr_lt h hi k, hk, h1, rfl⟩, cyc_length _ _⟩)
    · have := clen_pos p (itr p i k)
      rw [show clen p (itr p i k) = 1 by omega]
      exact Nat.one_dvd _
end
end Go.Pm
end
/- What a walk over the cycles of a permutation has met; plain. -/
section
namespace Go.Pm
set_option linter.unusedVariables false
set_option linter.unusedSimpArgs false
/-- A point is met by the cycles of the points below i. -/
def sn (p : List Int) (i x : Nat) : Bool := decide (∃ j, j < i ∧ ∃ m, m < clen p j ∧ itr p j m = x)
/-- What is met: the cycles of the points below i, and k steps of the next. -/
def snK (p : List Int) (i k : Nat) : List Bool := (List.range p.length).map fun x => sn p i x || decide (∃ m, m < k ∧ itr p i m = x)
/-- So many steps are made from i. -/
def stK (p : List Int) (i : Nat) : Nat := if sn p i i = true then 0 else clen p i
def cycsK (p : List Int) (i : Nat) : List (List Int) := ((List.range i).filter fun i => isMn p i && decide (1 < clen p i)).map (cyc p)
theorem snK_len (p : List Int) (i k : Nat) : (snK p i k).length = p.length := by simp [snK]
theorem snK_zero (p : List Int) : snK p 0 0 = List.replicate p.length false := by
  refine List.ext_getElem (by simp [snK]) fun i h1 h2 => ?_
  simp [snK, sn]
theorem snK_get (p : List Int) (i k : Nat) {x : Nat} (hx : x < p.length) : (snK p i k).getD x false = (sn p i x || decide (∃ m, m < k ∧ itr p i m = x)) := by
  simp [snK, List.getD_eq_getElem?_getD, hx]
theorem snK_set (p : List Int) (i k : Nat) : (snK p i k).set (itr p i k) true = snK p i (k + 1) := by
  refine List.ext_getElem (by simp [snK]) fun x h1 h2 => ?_
  have hx : x < p.length := by rw [snK_len] at h2; exact h2
  rw [List.getElem_set]
  simp only [snK, List.getElem_map, List.getElem_range]
  by_cases e : itr p i k = x
  · rw [if_pos e]
    have : (∃ m, m < k + 1 ∧ itr p i m = x) := ⟨k, Nat.lt_succ_self k, e⟩
    simp [this]
  · rw [if_neg e]
    congr 1
    refine decide_eq_decide.2 ⟨fun ⟨m, h, e2⟩ => ⟨m, by omega, e2⟩, fun ⟨m, h, e2⟩ => ⟨m, ?_, e2⟩⟩
    rcases Nat.lt_or_ge m k with h3 | h3
    · exact h3
    · have : m = k := by omega
      subst this; exact absurd e2 e
section
variable {n : Nat} {p : List Int} {i : Nat}
theorem sn_iff (h : Pm n p) (hi : i ≤ n) (x : Nat) : sn p i x = true ↔ ∃ j, j < i ∧ ∃ m, itr p j m = x := by
  unfold sn
  rw [decide_eq_true_eq]
  constructor
  · rintro ⟨j, hj, m, _, e⟩; exact ⟨j, hj, m, e⟩
  · rintro ⟨j, hj, m, e⟩
    exact ⟨j, hj, m % clen p j, Nat.mod_lt _ (clen_pos p j), by rw [← itr_mod h (by omega), e]⟩
theorem sn_mn (h : Pm n p) (hi : i < n) : sn p i i = true ↔ ¬ isMn p i = true := by
  rw [sn_iff h (by omega), isMn_iff h hi]
  constructor
  · rintro ⟨j, hj, m, e⟩ hc
    obtain ⟨m', e'⟩ := itr_back h (show j < n by omega) m
    rw [e] at e'
    have := hc m'
    omega
  · intro hc
    obtain ⟨k, hk⟩ : ∃ k, ¬ i ≤ itr p i k := Classical.byContradiction fun h => hc fun k => Classical.byContradiction fun h2 => h ⟨k, h2⟩
    obtain ⟨m, e⟩ := itr_back h hi k
    exact ⟨itr p i k, by omega, m, e⟩
theorem st_iff (h : Pm n p) (hi : i < n) {k : Nat} (hk : k ≤ stK p i) : (snK p i k).getD (itr p i k) false = true ↔ k = stK p i := by
  have hb := itr_lt h hi k
  rw [snK_get p i k (by rw [h.1]; exact hb), Bool.or_eq_true, decide_eq_true_eq]
  unfold stK at hk ⊢
  by_cases hs : sn p i i = true
  · rw [if_pos hs] at hk ⊢
    have : k = 0 := by omega
    subst this
    exact ⟨fun _ => rfl, fun _ => .inl hs⟩
  · rw [if_neg hs] at hk ⊢
    constructor
    · rintro (h1 | ⟨m, hm, e⟩)
      · obtain ⟨j, hj, m, e⟩ := (sn_iff h (by omega) _).1 h1
        obtain ⟨m', e'⟩ := itr_back h hi k
        refine absurd ((sn_iff h (by omega) _).2 ⟨j, hj, m + m', ?_⟩) hs
        rw [itr_add, e, e']
      · rcases Nat.lt_or_ge k (clen p i) with h2 | h2
        · have := cyc_inj h hi (show m < clen p i by omega) h2 e
          omega
        · omega
    · intro e
      refine .inr ⟨0, by have := clen_pos p i; omega, ?_⟩
      rw [e, (clen_ok h hi).2.1]; rfl
theorem snK_next (h : Pm n p) (hi : i < n) : snK p i (stK p i) = snK p (i + 1) 0 := by
  unfold snK
  refine List.map_congr_left fun x hx => ?_
  rw [Bool.eq_iff_iff, Bool.or_eq_true, Bool.or_eq_true, decide_eq_true_eq, decide_eq_true_eq, sn_iff h (by omega), sn_iff h (by omega)]
  constructor
  · rintro (⟨j, hj, m, e⟩ | ⟨m, _, e⟩)
    · exact .inl ⟨j, by omega, m, e⟩
    · exact .inl ⟨i, by omega, m, e⟩
  · rintro (⟨j, hj, m, e⟩ | ⟨m, hm, _⟩)
    · by_cases hji : j = i
      · subst hji
        unfold stK
        by_cases hs : sn p j j = true
        · obtain ⟨l, hl, m', e'⟩ := (sn_iff h (by omega) _).1 hs
          exact .inl ⟨l, hl, m' + m, by rw [itr_add, e', e]⟩
        · rw [if_neg hs]
          exact .inr ⟨m % clen p j, Nat.mod_lt _ (clen_pos p j), by rw [← itr_mod h hi, e]⟩
      · exact .inl ⟨j, by omega, m, e⟩
    · omega
theorem cycsK_succ (h : Pm n p) (hi : i < n) : cycsK p (i + 1) = if 1 < stK p i then cycsK p i ++ [(cyc p i).take (stK p i)] else cycsK p i := by
  have e : cycsK p (i + 1) = cycsK p i ++ (if isMn p i && decide (1 < clen p i) then [cyc p i] else []) := by
    unfold cycsK
    rw [List.range_succ, List.filter_append, List.map_append]
    congr 1
    by_cases hc : (isMn p i && decide (1 < clen p i)) = true
    · rw [if_pos hc]; simp [hc]
    · rw [if_neg hc]; simp [hc]
  rw [e]
  unfold stK
  by_cases hs : sn p i i = true
  · have hm := (sn_mn h hi).1 hs
    rw [if_pos hs, if_neg (show ¬ 1 < 0 by omega), if_neg (by simp [hm]), List.append_nil]
  · have hm : isMn p i = true := Classical.byContradiction fun hc => hs ((sn_mn h hi).2 hc)
    rw [if_neg hs]
    have ec : (cyc p i).take (clen p i) = cyc p i := by rw [← cyc_length, List.take_length]
    by_cases h1 : 1 < clen p i
    · rw [if_pos h1, if_pos (by simp [hm, h1]), ec]
    · rw [if_neg h1, if_neg (by simp [h1]), List.append_nil]
theorem cycsK_all (h : Pm n p) : cycsK p n = cycs p := by unfold cycsK cycs; rw [h.1]
theorem cycsK_len (p : List Int) (i : Nat) : (cycsK p i).length ≤ i := by
  unfold cycsK
  rw [List.length_map]
  exact Nat.le_trans (List.length_filter_le _ _) (by simp)
theorem stK_le (h : Pm n p) (hi : i < n) : stK p i ≤ clen p i := by unfold stK; split <;> omega
end
end Go.Pm
end
/- Words: free reduction, runs of letters, their lengths; plain. -/
section
namespace Go.Wd
set_option linter.unusedVariables false
set_option linter.unusedSimpArgs false
/-- One letter more: it is taken off with its inverse, or laid on. -/
def frS (o : List Int) (l : Int) : List Int := if 0 < o.length ∧ o.getD (o.length - 1) 0 = -l then o.take (o.length - 1) else o ++ [l]
def fr (w : List Int) : List Int := w.foldl frS []
def inv (w : List Int) : List Int := (w.map (- ·)).reverse
/-- The runs of the first k letters. -/
def runsK (al : Int → Int → Bool) (w : List Int) : Nat → List (List Int)
  | 0 => []
  | k + 1 => if 0 < k ∧ al (w.getD (k - 1) 0) (w.getD k 0) = true then (runsK al w k).set ((runsK al w k).length - 1) ((runsK al w k).getD ((runsK al w k).length - 1) [] ++ [w.getD k 0]) else runsK al w k ++ [[w.getD k 0]]
theorem runsK_pos (al : Int → Int → Bool) (w : List Int) : ∀ k, (0 < k → 0 < (runsK al w k).length) ∧ (runsK al w k).length ≤ k
  | 0 => ⟨fun h => absurd h (by omega), Nat.le_refl _⟩
  | k + 1 => by
    have ih := runsK_pos al w k
    unfold runsK
    split
    · rename_i h; rw [List.length_set]; exact ⟨fun _ => ih.1 h.1, by omega⟩
    · simp; exact ih.2
theorem set_flatten : ∀ (xs : List (List Int)) (l : Int), 0 < xs.length → (xs.set (xs.length - 1) (xs.getD (xs.length - 1) [] ++ [l])).flatten = xs.flatten ++ [l]
  | [], l, h => absurd h (by simp)
  | [x], l, h => by simp
  | x :: y :: t, l, h => by
    have ih := set_flatten (y :: t) l (by simp)
    simp only [List.length_cons, Nat.add_sub_cancel] at ih ⊢
    rw [List.set_cons_succ, List.flatten_cons, List.getD_cons_succ, ih]
    simp only [List.flatten_cons, List.append_assoc]
theorem runsK_flat (al : Int → Int → Bool) (w : List Int) : ∀ k, k ≤ w.length → (runsK al w k).flatten = w.take k
  | 0, _ => by simp [runsK]
  | k + 1, hk => by
    have ih := runsK_flat al w k (by omega)
    have e : w.take (k + 1) = w.take k ++ [w.getD k 0] := by
      rw [List.take_add_one]; simp [List.getD_eq_getElem?_getD, show k < w.length by omega]
    unfold runsK
    split
    · rename_i h
      rw [set_flatten _ _ ((runsK_pos al w k).1 h.1), ih, e]
    · simp [ih, e]
/-- How many of the first k letters begin a run. -/
def runN (al : Int → Int → Bool) (w : List Int) : Nat → Nat
  | 0 => 0
  | k + 1 => if 0 < k ∧ al (w.getD (k - 1) 0) (w.getD k 0) = true then runN al w k else runN al w k + 1
theorem runsK_len (al : Int → Int → Bool) (w : List Int) : ∀ k, (runsK al w k).length = runN al w k
  | 0 => rfl
  | k + 1 => by
    have ih := runsK_len al w k
    unfold runsK runN
    split
    · rw [List.length_set, ih]
    · simp [ih]
theorem runN_le (al : Int → Int → Bool) (w : List Int) (k : Nat) : runN al w k ≤ k := by rw [← runsK_len]; exact (runsK_pos al w k).2
end Go.Wd
end

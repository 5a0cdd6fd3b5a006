import Derived.Test.YtpffmolibjimgaaGreatDoorS16
/- The cycles of a permutation, and its order; plain. -/
section
namespace Go.Pm
set_option linter.unusedVariables false
set_option linter.unusedSimpArgs false
/-- Where a point is behind k steps. -/
def itr (p : List Int) (i : Nat) : Nat → Nat
  | 0 => i
  | k + 1 => img p (itr p i k)
/-- How long the cycle of a point is. -/
def clen (p : List Int) (i : Nat) : Nat := (List.range p.length).findIdx (fun k => decide (itr p i (k + 1) = i)) + 1
/-- The cycle of a point, the point first. -/
def cyc (p : List Int) (i : Nat) : List Int := (List.range (clen p i)).map fun k => ((itr p i k : Nat) : Int)
/-- The point is the least of its cycle. -/
def isMn (p : List Int) (i : Nat) : Bool := decide (∀ k, k < clen p i → i ≤ itr p i k)
def cycs (p : List Int) : List (List Int) := ((List.range p.length).filter fun i => isMn p i && decide (1 < clen p i)).map (cyc p)
def lcmL (l : List Nat) : Nat := l.foldl Nat.lcm 1
/-- The order of a permutation. -/
def ord (p : List Int) : Nat := lcmL ((List.range p.length).map (clen p))
theorem cyc_length (p : List Int) (i : Nat) : (cyc p i).length = clen p i := by simp [cyc]
theorem clen_pos (p : List Int) (i : Nat) : 0 < clen p i := Nat.succ_pos _
theorem cyc_get (p : List Int) (i : Nat) {k : Nat} (h : k < clen p i) : (cyc p i).getD k 0 = ((itr p i k : Nat) : Int) := by
  simp [cyc, List.getD_eq_getElem?_getD, h]
theorem itr_add (p : List Int) (i a : Nat) : ∀ b, itr p i (a + b) = itr p (itr p i a) b
  | 0 => rfl
  | b + 1 => by
    show img p (itr p i (a + b)) = img p (itr p (itr p i a) b)
    rw [itr_add p i a b]
section
variable {n : Nat} {p : List Int} {i j : Nat}
theorem itr_lt (h : Pm n p) (hi : i < n) : ∀ k, itr p i k < n
  | 0 => hi
  | k + 1 => h.img_lt (itr_lt h hi k)
theorem itr_inj (h : Pm n p) (hi : i < n) (hj : j < n) : ∀ k, itr p i k = itr p j k → i = j
  | 0, e => e
  | k + 1, e => itr_inj h hi hj k (h.inj (itr_lt h hi k) (itr_lt h hj k) e)
theorem itr_sub (h : Pm n p) (hi : i < n) {a b : Nat} (hab : a ≤ b) (e : itr p i a = itr p i b) : itr p i (b - a) = i := by
  have e1 : itr p i b = itr p (itr p i (b - a)) a := by rw [← itr_add, Nat.sub_add_cancel hab]
  exact (itr_inj h hi (itr_lt h hi _) a (e.trans e1)).symm
theorem itr_ret (h : Pm n p) (hi : i < n) : ∃ k, k < n ∧ itr p i (k + 1) = i := by
  refine Classical.byContradiction fun hc => ?_
  have hno : ∀ k, 0 < k → k ≤ n → itr p i k ≠ i := fun k h0 hk e => hc ⟨k - 1, by omega, by rw [Nat.sub_add_cancel h0]; exact e⟩
  have hnd : ((List.range (n + 1)).map (itr p i)).Nodup := by
    rw [List.nodup_iff_pairwise_ne, List.pairwise_map]
    refine List.Pairwise.imp_of_mem (R := fun a b => a ≠ b) ?_ (List.nodup_iff_pairwise_ne.1 List.nodup_range)
    intro a b ha hb hne e
    have ha' : a < n + 1 := by simpa using ha
    have hb' : b < n + 1 := by simpa using hb
    rcases Nat.lt_or_gt_of_ne hne with hl | hl
    · exact hno (b - a) (by omega) (by omega) (itr_sub h hi (by omega) e)
    · exact hno (a - b) (by omega) (by omega) (itr_sub h hi (by omega) e.symm)
  have := Go.Plain.nodup_le (List.range n) _ hnd fun x hx => by
    obtain ⟨k, _, rfl⟩ := List.mem_map.1 hx
    exact List.mem_range.2 (itr_lt h hi k)
  simp at this
  omega
theorem clen_ok (h : Pm n p) (hi : i < n) : clen p i ≤ n ∧ itr p i (clen p i) = i ∧ ∀ k, 0 < k → k < clen p i → itr p i k ≠ i := by
  obtain ⟨k, hk, e⟩ := itr_ret h hi
  have hlt : (List.range p.length).findIdx (fun k => decide (itr p i (k + 1) = i)) < (List.range p.length).length := by
    rw [List.findIdx_lt_length]
    exact ⟨k, List.mem_range.2 (by rw [h.1]; exact hk), by simpa using e⟩
  have hget := List.findIdx_getElem (w := hlt)
  simp only [List.getElem_range, decide_eq_true_eq] at hget
  refine ⟨?_, hget, fun m h0 hm e => ?_⟩
  · rw [List.length_range] at hlt
    have := h.1
    unfold clen; omega
  · unfold clen at hm
    have h1 := List.not_of_lt_findIdx (p := fun k => decide (itr p i (k + 1) = i)) (xs := List.range p.length) (i := m - 1) (by omega)
    simp only [List.getElem_range, decide_eq_true_eq] at h1
    rw [Nat.sub_add_cancel h0] at h1
    simp [e] at h1
theorem itr_mul (h : Pm n p) (hi : i < n) : ∀ q, itr p i (clen p i * q) = i
  | 0 => rfl
  | q + 1 => by rw [Nat.mul_succ, itr_add, itr_mul h hi q]; exact (clen_ok h hi).2.1
theorem itr_mod (h : Pm n p) (hi : i < n) (k : Nat) : itr p i k = itr p i (k % clen p i) := by
  conv => lhs; rw [← Nat.div_add_mod k (clen p i), itr_add, itr_mul h hi]
theorem cyc_inj (h : Pm n p) (hi : i < n) {a b : Nat} (ha : a < clen p i) (hb : b < clen p i) (e : itr p i a = itr p i b) : a = b := by
  rcases Nat.lt_trichotomy a b with hl | he | hl
  · exact absurd (itr_sub h hi (by omega) e) ((clen_ok h hi).2.2 _ (by omega) (by omega))
  · exact he
  · exact absurd (itr_sub h hi (by omega) e.symm) ((clen_ok h hi).2.2 _ (by omega) (by omega))
theorem itr_back (h : Pm n p) (hi : i < n) (k : Nat) : ∃ m, itr p (itr p i k) m = i := by
  refine ⟨clen p i * (k + 1) - k, ?_⟩
  have : k ≤ clen p i * (k + 1) := Nat.le_trans (Nat.le_succ k) (Nat.le_mul_of_pos_left _ (clen_pos p i))
  rw [← itr_add, Nat.add_sub_cancel' this, itr_mul h hi]
theorem isMn_iff (h : Pm n p) (hi : i < n) : isMn p i = true ↔ ∀ k, i ≤ itr p i k := by
  unfold isMn
  rw [decide_eq_true_eq]
  exact ⟨fun hm k => by rw [itr_mod h hi]; exact hm _ (Nat.mod_lt _ (clen_pos p i)), fun hm k _ => hm k⟩
theorem min_ex (h : Pm n p) : ∀ i, i < n → ∃ k, isMn p (itr p i k) = true := by
  intro i
  induction i using Nat.strongRecOn with
  | _ i ih =>
    intro hi
    by_cases hm : isMn p i = true
    · exact ⟨0, hm⟩
    · have : ∃ k, itr p i k < i := Classical.byContradiction fun hc => hm ((isMn_iff h hi).2 fun k => Nat.le_of_not_lt fun hl => hc ⟨k, hl⟩)
      obtain ⟨k, hk⟩ := this
      obtain ⟨m, hm⟩ := ih _ hk (itr_lt h hi k)
      exact ⟨k + m, by rw [itr_add]; exact hm⟩
/-- Two least points of one cycle are one. -/
theorem min_uniq (h : Pm n p) (hi : i < n) {k : Nat} (h1 : isMn p i = true) (h2 : isMn p (itr p i k) = true) : itr p i k = i := by
  have a := (isMn_iff h hi).1 h1 k
  obtain ⟨m, e⟩ := itr_back h hi k
  have b := (isMn_iff h (itr_lt h hi k)).1 h2 m
  rw [e] at b
  omega
end
section
variable {n : Nat} {p : List Int} {i j : Nat}
theorem mem_cycs (h : Pm n p) (c : List Int) : c ∈ cycs p ↔ ∃ i, i < n ∧ isMn p i = true ∧ 1 < clen p i ∧ c = cyc p i := by
  unfold cycs
  simp only [List.mem_map, List.mem_filter, List.mem_range, Bool.and_eq_true, decide_eq_true_eq, h.1]
  exact ⟨fun ⟨i, ⟨a, b, c⟩, d⟩ => ⟨i, a, b, c, d.symm⟩, fun ⟨i, a, b, c, d⟩ => ⟨i, ⟨a, b, c⟩, d.symm⟩⟩
end
end Go.Pm
end
/- What a walk over the cycles of a permutation has met; plain. -/
section
namespace Go.Pm
set_option linter.unusedVariables false
set_option linter.unusedSimpArgs false
/-- A point is met by the cycles of the points below i. -/
def sn (p : List Int) (i x : Nat) : Bool := decide (∃ j, j < i ∧ ∃ m, m < clen p j ∧ itr p j m = x)
/-- What is met: the cycles of the points below i, and k steps of the next. -/
def snK (p : List Int) (i k : Nat) : List Bool := (List.range p.length).map fun x => sn p i x || decide (∃ m, m < k ∧ itr p i m = x)
/-- So many steps are made from i. -/
def stK (p : List Int) (i : Nat) : Nat := if sn p i i = true then 0 else clen p i
def cycsK (p : List Int) (i : Nat) : List (List Int) := ((List.range i).filter fun i => isMn p i && decide (1 < clen p i)).map (cyc p)
theorem snK_len (p : List Int) (i k : Nat) : (snK p i k).length = p.length := by simp [snK]
theorem snK_zero (p : List Int) : snK p 0 0 = List.replicate p.length false := by
  refine List.ext_getElem (by simp [snK]) fun i h1 h2 => ?_
  simp [snK, sn]
theorem snK_get (p : List Int) (i k : Nat) {x : Nat} (hx : x < p.length) : (snK p i k).getD x false = (sn p i x || decide (∃ m, m < k ∧ itr p i m = x)) := by
  simp [snK, List.getD_eq_getElem?_getD, hx]
theorem snK_set (p : List Int) (i k : Nat) : (snK p i k).set (itr p i k) true = snK p i (k + 1) := by
  refine List.ext_getElem (by simp [snK]) fun x h1 h2 => ?_
  have hx : x < p.length := by rw [snK_len] at h2; exact h2
  rw [List.getElem_set]
  simp only [snK, List.getElem_map, List.getElem_range]
  by_cases e : itr p i k = x
  · rw [if_pos e]
    have : (∃ m, m < k + 1 ∧ itr p i m = x) := ⟨k, Nat.lt_succ_self k, e⟩
    simp [this]
  · rw [if_neg e]
    congr 1
    refine decide_eq_decide.2 ⟨fun ⟨m, h, e2⟩ => ⟨m, by omega, e2⟩, fun ⟨m, h, e2⟩ => ⟨m, ?_, e2⟩⟩
    rcases Nat.lt_or_ge m k with h3 | h3
    · exact h3
    · have : m = k := by omega
      subst this; exact absurd e2 e
section
variable {n : Nat} {p : List Int} {i : Nat}
theorem sn_iff (h : Pm n p) (hi : i ≤ n) (x : Nat) : sn p i x = true ↔ ∃ j, j < i ∧ ∃ m, itr p j m = x := by
  unfold sn
  rw [decide_eq_true_eq]
  constructor
  · rintro ⟨j, hj, m, _, e⟩; exact ⟨j, hj, m, e⟩
  · rintro ⟨j, hj, m, e⟩
    exact ⟨j, hj, m % clen p j, Nat.mod_lt _ (clen_pos p j), by rw [← itr_mod h (by omega), e]⟩
theorem sn_mn (h : Pm n p) (hi : i < n) : sn p i i = true ↔ ¬ isMn p i = true := by
  rw [sn_iff h (by omega), isMn_iff h hi]
  constructor
  · rintro ⟨j, hj, m, e⟩ hc
    obtain ⟨m', e'⟩ := itr_back h (show j < n by omega) m
    rw [e] at e'
    have := hc m'
    omega
  · intro hc
    obtain ⟨k, hk⟩ : ∃ k, ¬ i ≤ itr p i k := Classical.byContradiction fun h => hc fun k => Classical.byContradiction fun h2 => h ⟨k, h2⟩
    obtain ⟨m, e⟩ := itr_back h hi k
    exact ⟨itr p i k, by omega, m, e⟩
theorem st_iff (h : Pm n p) (hi : i < n) {k : Nat} (hk : k ≤ stK p i) : (snK p i k).getD (itr p i k) false = true ↔ k = stK p i := by
  have hb := itr_lt h hi k
  rw [snK_get p i k (by rw [h.1]; exact hb), Bool.or_eq_true, decide_eq_true_eq]
  unfold stK at hk ⊢
  by_cases hs : sn p i i = true
  · rw [if_pos hs] at hk ⊢
    have : k = 0 := by omega
    subst this
    exact ⟨fun _ => rfl, fun _ => .inl hs⟩
  · rw [if_neg hs] at hk ⊢
    constructor
    · rintro (h1 | ⟨m, hm, e⟩)
      · obtain ⟨j, hj, m, e⟩ := (sn_iff h (by omega) _).1 h1
        obtain ⟨m', e'⟩ := itr_back h hi k
        refine absurd ((sn_iff h (by omega) _).2 ⟨j, hj, m + m', ?_⟩) hs
        rw [itr_add, e, e']
      · rcases Nat.lt_or_ge k (clen p i) with h2 | h2
        · have := cyc_inj h hi (show m < clen p i by omega) h2 e
          omega
        · omega
    · intro e
      refine .inr ⟨0, by have := clen_pos p i; omega, ?_⟩
      rw [e, (clen_ok h hi).2.1]; rfl
theorem snK_next (h : Pm n p) (hi : i < n) : snK p i (stK p i) = snK p (i + 1) 0 := by
  unfold snK
  refine List.map_congr_left fun x hx => ?_
  rw [Bool.eq_iff_iff, Bool.or_eq_true, Bool.or_eq_true, decide_eq_true_eq, decide_eq_true_eq, sn_iff h (by omega), sn_iff h (by omega)]
  constructor
  · rintro (⟨j, hj, m, e⟩ | ⟨m, _, e⟩)
    · exact .inl ⟨j, by omega, m, e⟩
    · exact .inl ⟨i, by omega, m, e⟩
  · rintro (⟨j, hj, m, e⟩ | ⟨m, hm, _⟩)
    · by_cases hji : j = i
      · subst hji
        unfold stK
        by_cases hs : sn p j j = true
        · obtain ⟨l, hl, m', e'⟩ := (sn_iff h (by omega) _).1 hs
          exact .inl ⟨l, hl, m' + m, by rw [itr_add, e', e]⟩
        · rw [if_neg hs]
          exact .inr ⟨m % clen p j, Nat.mod_lt _ (clen_pos p j), by rw [← itr_mod h hi, e]⟩
      · exact .inl ⟨j, by omega, m, e⟩
    · omega
theorem cycsK_succ (h : Pm n p) (hi : i < n) : cycsK p (i + 1) = if 1 < stK p i then cycsK p i ++ [(cyc p i).take (stK p i)] else cycsK p i := by
  have e : cycsK p (i + 1) = cycsK p i ++ (if isMn p i && decide (1 < clen p i) then [cyc p i] else []) := by
    unfold cycsK
    rw [List.range_succ, List.filter_append, List.map_append]
    congr 1
    by_cases hc : (isMn p i && decide (1 < clen p i)) = true
    · rw [if_pos hc]; simp [hc]
    · rw [if_neg hc]; simp [hc]
  rw [e]
  unfold stK
  by_cases hs : sn p i i = true
  · have hm := (sn_mn h hi).1 hs
    rw [if_pos hs, if_neg (show ¬ 1 < 0 by omega), if_neg (by simp [hm]), List.append_nil]
  · have hm : isMn p i = true := Classical.byContradiction fun hc => hs ((sn_mn h hi).2 hc)
    rw [if_neg hs]
    have ec : (cyc p i).take (clen p i) = cyc p i := by rw [← cyc_length, List.take_length]
    by_cases h1 : 1 < clen p i
    · rw [if_pos h1, if_pos (by simp [hm, h1]), ec]
    · rw [if_neg h1, if_neg (by simp [h1]), List.append_nil]
theorem cycsK_all (h : Pm n p) : cycsK p n = cycs p := by unfold cycsK cycs; rw [h.1]
theorem cycsK_len (p : List Int) (i : Nat) : (cycsK p i).length ≤ i := by
  unfold cycsK
  rw [List.length_map]
  exact Nat.le_trans (List.length_filter_le _ _) (by simp)
theorem stK_le (h : Pm n p) (hi : i < n) : stK p i ≤ clen p i := by unfold stK; split <;> omega
end
end Go.Pm
end

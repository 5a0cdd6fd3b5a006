import Derived.Test.YticbabpajligbaaDoorK29
import Derived.Test.YticbabpajligbaaDoorK22
import Derived.Test.YticbabpajligbaaDoorK23
import Derived.Test.YticbabpajligbaaDoorK30
/- Words as syntax trees: their texts and expansions; plain. -/
section
namespace Go.Nt
set_option linter.unusedVariables false
set_option linter.unusedSimpArgs false
open Go.Wd (inv Tk RL)
/-- A token as a node. -/
def tkN (p : Int × Nat) : Nd := ⟨1, max p.1 (0 - p.1) - 1, (p.2 : Int), if p.1 < 0 then 1 else 0, 0, []⟩
/-- A token's text. -/
def tkX (fm : Nat → ByteArray) (names : ByteArray) (p : Int × Nat) : ByteArray := ndT fm names (tkN p) []
/-- A token's word. -/
def tkW (p : Int × Nat) : List Int := List.replicate p.2 p.1
structure tkOk (m : Nat) (p : Int × Nat) : Prop where
  nz : p.1 ≠ 0
  le : p.1 ≤ m ∧ -p.1 ≤ m
  cnt : 1 ≤ p.2 ∧ p.2 ≤ 99
def up (a k : Nat) : List Int := (List.range k).map fun j => ((a + j : Nat) : Int)
theorem up_len (a k : Nat) : (up a k).length = k := by simp [up]
theorem up_get {a k j : Nat} (h : j < k) : (up a k).getD j 0 = ((a + j : Nat) : Int) := by
  simp [up, List.getD_eq_getElem?_getD, h]
theorem up_succ (a k : Nat) : up a (k + 1) = (a : Int) :: up (a + 1) k := by
  unfold up
  rw [List.range_succ_eq_map, List.map_cons, List.map_map]
  congr 1
  refine List.map_congr_left fun j _ => ?_
  simp only [Function.comp_apply]
  omega
theorem sz_leaf {xs : List Nd} {i : Nat} (h : kd xs i = []) : sz xs i = some 1 := by rw [sz_eq, h]; rfl
theorem seg_up {xs : List Nd} : ∀ (k a : Nat), (∀ j, j < k → sz xs (a + j) = some 1) → Seg xs a (up a k) (a + k)
  | 0, a, _ => rfl
  | k + 1, a, h => by
    rw [up_succ]
    have h0 := h 0 (by omega)
    have ih := seg_up k (a + 1) fun j hj => by
      have := h (j + 1) (by omega)
      rwa [show a + (j + 1) = a + 1 + j by omega] at this
    refine ⟨1, by rw [Int.toNat_natCast]; exact h0, by omega, by rw [Int.toNat_natCast], ?_⟩
    rw [Int.toNat_natCast, show a + (k + 1) = a + 1 + k by omega]
    exact ih
/-- Letters of a run. -/
theorem drop_run {w : List Int} {x : Int} : ∀ (n a : Nat), (∀ i, i < n → a + i < w.length ∧ w.getD (a + i) 0 = x) → w.drop a = List.replicate n x ++ w.drop (a + n)
  | 0, a, _ => rfl
  | n + 1, a, h => by
    obtain ⟨h1, h2⟩ := h 0 (by omega)
    rw [Nat.add_zero] at h1 h2
    have ih := drop_run (w := w) (x := x) n (a + 1) fun i hi => by
      have := h (i + 1) (by omega)
      rwa [show a + (i + 1) = a + 1 + i by omega] at this
    rw [List.drop_eq_getElem_cons h1, ih, List.replicate_succ, List.cons_append]
    congr 1
    · rw [List.getD_eq_getElem?_getD, List.getElem?_eq_getElem h1] at h2; exact h2
    · rw [show a + 1 + n = a + (n + 1) by omega]
theorem tk_flat {w : List Int} : ∀ (ts : List (Int × Nat)) (a : Nat), Tk w a ts → (ts.map tkW).flatten = w.drop a
  | [], a, h => by
    rw [show a = w.length from h, List.drop_length]; rfl
  | (x, n) :: ts, a, ⟨h1, h2, h3, h4, h5⟩ => by
    have ih := tk_flat ts _ h5
    rw [List.map_cons, List.flatten_cons, ih]
    exact (drop_run n a fun i hi => ⟨(h4.al i hi).1, (h4.al i hi).2.trans h2⟩).symm
theorem tk_all {w : List Int} {m : Nat} (hw : ∀ j, j < w.length → w.getD j 0 ≠ 0 ∧ w.getD j 0 ≤ m ∧ -w.getD j 0 ≤ m) : ∀ (ts : List (Int × Nat)) (a : Nat), Tk w a ts → ∀ p ∈ ts, tkOk m p
  | [], a, h, p, hp => by cases hp
  | (x, n) :: ts, a, ⟨h1, h2, h3, h4, h5⟩, p, hp => by
    rcases List.mem_cons.1 hp with rfl | hp
    · have := hw a h1
      rw [h2] at this
      exact ⟨this.1, this.2, h3, h4.le⟩
    · exact tk_all hw ts _ h5 p hp
theorem tkN_ok {m : Nat} {p : Int × Nat} (h : tkOk m p) : ndOk m (tkN p) false := by
  obtain ⟨h1, h2, h3⟩ := h
  refine ⟨⟨?_, ?_⟩, ?_, .inr ⟨rfl, .inl ⟨rfl, ⟨?_, ?_⟩, rfl, rfl⟩⟩⟩
  · show 1 ≤ (p.2 : Int); omega
  · show (p.2 : Int) ≤ 99; omega
  · show 0 ≤ (if p.1 < 0 then (1 : Int) else 0) ∧ (if p.1 < 0 then (1 : Int) else 0) ≤ 1; split <;> omega
  · show 0 ≤ max p.1 (0 - p.1) - 1; omega
  · show max p.1 (0 - p.1) - 1 ≤ (m : Int) - 1; omega
theorem inv_rep (x : Int) (n : Nat) : inv (List.replicate n x) = List.replicate n (-x) := by
  unfold inv; simp
theorem rep_one (x : Int) : ∀ n, repW [x] n = List.replicate n x
  | 0 => rfl
  | n + 1 => by
    have ih := rep_one x n
    unfold repW at ih ⊢
    rw [List.replicate_succ, List.flatten_cons, ih]; rfl
theorem tkN_word {m : Nat} {p : Int × Nat} (h : tkOk m p) : ndW (tkN p) [] = some (tkW p) := by
  obtain ⟨h1, h2, h3⟩ := h
  have eb : bas (tkN p) (([] : List (List Int)).take (tkN p).split.toNat).flatten (([] : List (List Int)).drop (tkN p).split.toNat).flatten = [max p.1 (0 - p.1)] := by
    show [max p.1 (0 - p.1) - 1 + 1] = _
    rw [show max p.1 (0 - p.1) - 1 + 1 = max p.1 (0 - p.1) by omega]
  unfold ndW
  rw [eb, if_neg (by show ¬ 200 < 1 * ((p.2 : Int)).toNat; omega)]
  have ec : (tkN p).count.toNat = p.2 := by show ((p.2 : Int)).toNat = p.2; omega
  rw [ec, rep_one, inv_rep]
  have ei : (tkN p).inv = if p.1 < 0 then 1 else 0 := rfl
  rw [ei]
  unfold tkW
  by_cases hx : p.1 < 0
  · rw [if_pos hx, if_pos rfl, show -max p.1 (0 - p.1) = p.1 by omega]
  · rw [if_neg hx, if_neg (by decide), show max p.1 (0 - p.1) = p.1 by omega]
section
variable {fm : Nat → ByteArray} {names : ByteArray} {ts : List (Int × Nat)} {xs : List Nd}
/-- The first nodes are these tokens. -/
def Lv (xs : List Nd) (ts : List (Int × Nat)) : Prop := ts.map tkN <+: xs
theorem Lv.get (h : Lv xs ts) {j : Nat} (hj : j < ts.length) : xs.getD j nd0 = tkN (ts.getD j (0, 0)) := by
  obtain ⟨r, rfl⟩ := h
  rw [List.getD_eq_getElem?_getD, List.getElem?_append_left (by rw [List.length_map]; exact hj)]
  simp [List.getD_eq_getElem?_getD, hj]
theorem Lv.kd (h : Lv xs ts) {j : Nat} (hj : j < ts.length) : kd xs j = [] := by
  show (xs.getD j nd0).kids = []
  rw [h.get hj]; rfl
theorem Lv.seg (h : Lv xs ts) : Seg xs 0 (up 0 ts.length) ts.length := by
  have := seg_up (xs := xs) ts.length 0 fun j hj => by rw [Nat.zero_add]; exact sz_leaf (h.kd hj)
  rwa [Nat.zero_add] at this
theorem Lv.tx (h : Lv xs ts) {j : Nat} (hj : j < ts.length) : tx fm names xs j = tkX fm names (ts.getD j (0, 0)) := by
  rw [tx_own (sz_leaf (h.kd hj)), h.get hj, show kdT fm names xs j = [] from by unfold kdT; rw [h.kd hj]; rfl]
  rfl
theorem Lv.txs (h : Lv xs ts) : (up 0 ts.length).map (fun c => Go.Nt.tx fm names xs c.toNat) = ts.map (tkX fm names) := by
  refine List.ext_getElem (by rw [List.length_map, List.length_map, up_len]) fun j h1 h2 => ?_
  rw [List.length_map] at h2
  have e := up_get (a := 0) h2
  rw [List.getD_eq_getElem?_getD, List.getElem?_eq_getElem (by rw [up_len]; exact h2), Option.getD_some] at e
  rw [List.getElem_map, List.getElem_map, e, Nat.zero_add, Int.toNat_natCast, h.tx h2]
  simp [List.getD_eq_getElem?_getD, h2]
theorem Lv.ex {n m : Nat} (h : Lv xs ts) (hk : ∀ i, i < n → kidsB xs i) (ht : ∀ p ∈ ts, tkOk m p) {j : Nat} (hj : j < ts.length) (hn : ts.length ≤ n) : ex xs j = some (tkW (ts.getD j (0, 0))) := by
  rw [ex_some hk (by omega) (ws := []) (by rw [h.kd hj]; rfl) (fun k hk => by rw [h.kd hj] at hk; exact absurd hk (Nat.not_lt_zero _)), h.get hj]
  refine tkN_word (m := m) (ht _ ?_)
  rw [List.getD_eq_getElem?_getD, List.getElem?_eq_getElem hj]
  exact List.getElem_mem hj
theorem root_word {w : List Int} {ks : List Int} {ws : List (List Int)} (hf : ws.flatten = w) (hw : w.length ≤ 200) : ndW (rtN ks) ws = some w := by
  have eb : bas (rtN ks) (ws.take (rtN ks).split.toNat).flatten (ws.drop (rtN ks).split.toNat).flatten = w := by
    show [] ++ (ws.take 0).flatten ++ (ws.drop 0).flatten ++ [] ++ [] = w
    rw [← hf]; simp
  unfold ndW
  rw [eb, if_neg (by show ¬ 200 < w.length * 1; omega), if_neg (by show ¬ (0 : Int) = 1; decide)]
  show some (repW w 1) = _
  simp [repW]
/-- A word as a tree. -/
def treeW (ts : List (Int × Nat)) : List Nd := ts.map tkN ++ [rtN (up 0 ts.length)]
theorem treeW_ok (hn8 : 1 ≤ names.size ∧ names.size ≤ 8) (ht : ∀ p ∈ ts, tkOk names.size p) (hl : ts.length < 200) : isNt names.size (treeW ts) ∧ allT fm names (treeW ts) = jn (ts.map (tkX fm names)) ∧ ((ts.map tkW).flatten.length ≤ 200 → ex (treeW ts) ((treeW ts).length - 1) = some (ts.map tkW).flatten) := by
  have hLv : Lv (treeW ts) ts := List.prefix_append ..
  have hlm : (ts.map tkN).length = ts.length := List.length_map ..
  have hlen : (treeW ts).length = ts.length + 1 := by unfold treeW; rw [List.length_append, hlm]; rfl
  obtain ⟨v1, v2⟩ := part_ok (names := names) (l := ts.map tkN) (ks := up 0 ts.length) hn8 (by rw [hlm]; exact hl) (by rw [hlm]; exact hLv.seg) (fun j _ hj => by
    rw [hlm] at hj
    show ndOk names.size ((treeW ts).getD j nd0) false
    rw [hLv.get hj]
    refine tkN_ok (ht _ ?_)
    rw [List.getD_eq_getElem?_getD, List.getElem?_eq_getElem hj]
    exact List.getElem_mem hj)
  have v1 : isNt names.size (treeW ts) := v1
  have v2 : Go.Nt.kd (treeW ts) (ts.map tkN).length = up 0 ts.length := v2
  rw [hlm] at v2
  refine ⟨v1, ?_, fun hw => ?_⟩
  · unfold allT kdT
    rw [hlen, Nat.add_sub_cancel, v2, hLv.txs]
  · have hk := kidsB_of v1.2.2.2
    rw [hlen, Nat.add_sub_cancel]
    rw [ex_some hk (i := ts.length) (by omega) (ws := ts.map tkW) (by rw [v2, up_len, List.length_map]) (fun k hkk => by
      rw [v2, up_len] at hkk
      rw [v2, up_get hkk, Nat.zero_add, Int.toNat_natCast, hLv.ex hk ht hkk (by omega)]
      simp [List.getD_eq_getElem?_getD, hkk])]
    have hx : (treeW ts).getD ts.length nd0 = rtN (up 0 ts.length) := by
      have := pre_at (l := ts.map tkN) (y := rtN (up 0 ts.length)) (xs := treeW ts) (List.prefix_refl _)
      rwa [hlm] at this
    rw [hx]
    exact root_word rfl hw
/-- A node over the tokens of words, as a tree. -/
def treeN (ts : List (Int × Nat)) (x : Nd) : List Nd := (ts.map tkN ++ [x]) ++ [rtN [(ts.length : Int)]]
theorem isNt_mono {m k : Int} (h : isNt m xs) (hk : m ≤ k ∧ k ≤ 8) : isNt k xs := by
  obtain ⟨h1, h2, h3, h4⟩ := h
  refine ⟨by omega, h2, fun i hi => ?_, h4⟩
  obtain ⟨a, b, c⟩ := h3 i hi
  refine ⟨a, b, ?_⟩
  rcases c with c | ⟨c, d | d | d⟩
  · exact .inl c
  · exact .inr ⟨c, .inl ⟨d.1, ⟨d.2.1.1, by omega⟩, d.2.2⟩⟩
  · exact .inr ⟨c, .inr (.inl d)⟩
  · exact .inr ⟨c, .inr (.inr d)⟩
end
end Go.Nt
end
/- Texts of words read back (facts, no walk). -/
section
namespace Go.Proofs.YticbabpajligbaaDoor
open Go.Av
set_option linter.unusedSimpArgs false
set_option linter.unusedVariables false
attribute [local irreducible] AWP CallG Ob Br BrP Go.Av.Sub endQ AOps OpV AC thenA blkA opsVC opVC withA withArgs opsQ opQ CallQ withA2 withArgs2
open Go.Nt (Nd nd0 kd ndOk sz isNt jn kdT allT rtN NmD nmOk pSeq bt li ex tkN tkX tkW tkOk treeW treeN ndW up bas ndT inT)
open Go.Wd (tks Tk)
/-- The text of a tree is read as that tree. -/
theorem par_of {xs : List Nd} (hv : isNt 2 xs) (hs : (allT fmS nmAB xs).size ≤ 400) : parP nmAB (allT fmS nmAB xs) = (xs, -1) := by
  have hv2 : isNt nmAB.size xs := hv
  by_cases hk : kd xs (xs.length - 1) = []
  · obtain ⟨e1, e2⟩ := root_one hv2 hk
    rw [e2, e1]
    unfold parP
    rw [if_neg (by rintro (h | h); exact h ab_nm; exact absurd h (by decide))]; exact if_pos rfl
  · have hp := fun f hfu => Go.Nt.par_tree (xs := xs) fmS_ok ab_d hv2 hk f hfu
    have hz : (allT fmS nmAB xs).size ≠ 0 := fun hz => by
      have h2 := hp 2 (by omega)
      rw [ba_empty hz] at h2
      exact p_none _ _ _ h2
    unfold parP
    rw [if_neg (by rintro (h | h); exact h ab_nm; omega), if_neg hz, hp _ (Nat.le_refl _)]
    dsimp only
    rw [if_neg (by omega)]
    have hx := hv.2.1
    rw [if_neg (by rw [List.length_take]; omega)]
    rw [← Go.Nt.root_eq hv2]
theorem pw_of {xs : List Nd} {w : List Int} (hv : isNt 2 xs) (hs : (allT fmS nmAB xs).size ≤ 400) (hx : ex xs (xs.length - 1) = some w) : pwP nmAB (allT fmS nmAB xs) = (w, true) := by
  unfold pwP
  rw [par_of hv hs, if_pos rfl]
  show expaP xs = _
  unfold expaP
  rw [if_pos (Go.Nt.isNt_mono hv (by decide))]
  unfold exP
  rw [hx]
theorem tkT_X (names : ByteArray) (x : Int) (n : Nat) : tkT names x n = tkX fmS names (x, n) := by
  have e1 : inT names (tkN (x, n)) [] = names.extract (max x (0 - x) - 1).toNat (max x (0 - x)).toNat := by
    show names.extract (max x (0 - x) - 1).toNat (max x (0 - x) - 1 + 1).toNat = _
    rw [show max x (0 - x) - 1 + 1 = max x (0 - x) by omega]
  have e2 : (tkN (x, n)).count = (n : Int) := rfl
  have e3 : (tkN (x, n)).inv = if x < 0 then 1 else 0 := rfl
  have hn : (1 : Int) < (n : Int) ↔ 1 < n := by omega
  unfold tkX ndT tkT
  rw [e1, e2, e3, Int.toNat_natCast]
  by_cases hx : x < 0 <;> by_cases h1 : 1 < n <;> simp [hx, h1, hn]
theorem fw_text {w : List Int} (hw : isW 2 w) : fwP nmAB w = jn ((tks w).map (tkX fmS nmAB)) := by
  have e : (nmAB.size : Int) = 2 := rfl
  rw [fwP_yes ab_nm (by rw [e]; exact hw)]
  congr 1
  refine List.map_congr_left fun p _ => tkT_X _ _ _
theorem isW_tk {w : List Int} (hw : isW 2 w) : ∀ p ∈ tks w, tkOk nmAB.size p := by
  refine Go.Nt.tk_all (m := nmAB.size) (fun j hj => ?_) _ 0 (Go.Wd.tks_tk w)
  have := hw.2 j hj
  unfold isL at this
  have e : nmAB.size = 2 := rfl
  rw [e]; omega
theorem tks_len (w : List Int) : (tks w).length ≤ w.length := by
  have := tk_len _ _ (Go.Wd.tks_tk w)
  omega
theorem tks_word (w : List Int) : ((tks w).map tkW).flatten = w := Go.Nt.tk_flat _ 0 (Go.Wd.tks_tk w)
theorem jn_sum {ts : List (Int × Nat)} : (jn (ts.map (tkX fmS nmAB))).size ≤ 13 * ts.length := by
  have h := jnS_small (ws := ts.map (tkX fmS nmAB)) (fun j => by
    by_cases hj : j < ts.length
    · have e : (ts.map (tkX fmS nmAB)).getD j ByteArray.empty = tkT nmAB (ts.getD j (0, 0)).1 (ts.getD j (0, 0)).2 := by
        rw [tkT_X]; simp [List.getD_eq_getElem?_getD, hj]
      rw [e]; exact tkT_size nmAB ab8.2 _ _
    · rw [List.getD_eq_getElem?_getD, List.getElem?_eq_none (by rw [List.length_map]; omega)]; exact Nat.zero_le _) (ts.map (tkX fmS nmAB)).length
  rw [List.length_map] at h
  show (Go.Nt.jnS _ _ (ts.map (tkX fmS nmAB)).length).size ≤ _
  rw [List.length_map]; exact h
theorem fw_size {w : List Int} (hw : isW 2 w) : (fwP nmAB w).size ≤ 13 * w.length := by
  rw [fw_text hw]
  have := jn_sum (ts := tks w)
  have := tks_len w
  omega
/-- A word's text is read as that word. -/
theorem pw_back {w : List Int} (hw : isW 2 w) (hl : w.length ≤ 24) : pwP nmAB (fwP nmAB w) = (w, true) := by
  have htl := tks_len w
  obtain ⟨h1, h2, h3⟩ := Go.Nt.treeW_ok (fm := fmS) ab8 (isW_tk hw) (by omega)
  rw [tks_word] at h3
  rw [fw_text hw, ← h2]
  refine pw_of h1 ?_ (h3 (by omega))
  rw [h2]
  have := jn_sum (ts := tks w)
  omega
section
variable {a b : List Int}
end
end Go.Proofs.YticbabpajligbaaDoor
end

import Derived.Test.YticbabpajligbaaDoorM29
import Derived.Test.YticbabpajligbaaDoorM28
import Derived.Test.YticbabpajligbaaDoorM22
import Derived.Test.YticbabpajligbaaDoorM27
/- The expansions of all nodes, the reference's text. -/
section
namespace Go.Proofs.YticbabpajligbaaDoor
open Go.Av
set_option linter.unusedSimpArgs false
set_option linter.unusedVariables false
attribute [local irreducible] AWP CallG Ob Br BrP Go.Av.Sub endQ AOps OpV AC thenA blkA opsVC opVC withA withArgs opsQ opQ CallQ withA2 withArgs2
open Go.Nt (Nd nd0 kd ndOk sz isNt ex ndW bas tab)
end Go.Proofs.YticbabpajligbaaDoor
end
/- ExpandNotation, both texts. -/
section
namespace Go.Proofs.YticbabpajligbaaDoor
open Go.Av
set_option linter.unusedSimpArgs false
set_option linter.unusedVariables false
attribute [local irreducible] AWP CallG Ob Br BrP Go.Av.Sub endQ AOps OpV AC thenA blkA opsVC opVC withA withArgs opsQ opQ CallQ withA2 withArgs2
open Go.Nt (Nd nd0 kd ndOk sz isNt ex ndW bas tab)
/-- What ExpandNotation answers. -/
def expaP (xs : List Nd) : List Int × Bool := if isNt 8 xs then exP xs (xs.length - 1) else ([], false)
theorem implExpandNotation_ok (xs : List Nd) (hx : xs.length ≤ 1048576) (hb : ∀ j, (kd xs j).length ≤ 1048576) (d : Nat) : AC Tryd.prog 63 [nds xs] Hp.emp (fun _ => false) (retIB d (expaP xs).1 (expaP xs).2) := by
  have hn : isNt 8 xs → ((xs.length : Int) - 1) = ((xs.length - 1 : Nat) : Int) ∧ xs.length - 1 < xs.length := fun h => by have := h.2.1; omega
  have hE : isNt 8 xs → AC Tryd.prog 83 [nds xs, .v (.int .i64 ((xs.length : Int) - 1))] Hp.emp (fun _ => false) (retIB 40 (exP xs (xs.length - 1)).1 (exP xs (xs.length - 1)).2) := fun h => by
    rw [(hn h).1]
    exact implExpand_ok xs h _ (hn h).2 40
  refine ac_of_awp (N := ⟨_, fun _ => false, fun _ _ => rfl, true⟩) Tryd.func63 rfl (by kernel_rfl) Tryd.ntmps63 (by simp) ?_
  simp only [argsFr, List.zipIdx_cons, List.zipIdx_nil, go_sem]
  repeat' (first | refine awp_seqK fun K hK => ?_ | (refine awp_regionK 77 rfl ?_; simp only [List.map_cons, List.map_nil]; simp (maxSteps := 1000000) (dsimp := false) (implicitDefEqProofs := false) (disch := omega) only [wrap64, go_sem]) | (refine awp_regionQK 77 (by kernel_rfl) (by kernel_rfl) (by kernel_rfl) ?_; simp only [List.map_cons, List.map_nil]; simp (maxSteps := 1000000) (dsimp := false) (implicitDefEqProofs := false) (disch := omega) only [wrap64, go_sem]) | refine awp_block ?_ | (refine awp_skip ?_; simp only [go_sem]) | (refine awp_exit ?_; simp only [go_sem]) | (refine awp_ret ?_; try simp only [go_sem]) | (refine awp_condP rfl ?_; try simp only [go_sem]) | (refine BrP.mk (fun h => ?_) (fun h => ?_) <;> try simp (dsimp := false) (disch := omega) only [wrap64]) | (refine Br.mk (fun h => ?_) (fun h => ?_) <;> try simp (dsimp := false) (disch := omega) only [wrap64]) | refine Ob.mk (by first | omega | (intro _ _; rfl) | trivial | (intros; trivial) | assumption | (intro i hi; have h0 : i = 0 := (by omega); subst h0; first | rfl | trivial) | (intro i hi; have h0 : i = 0 ∨ i = 1 := (by omega); rcases h0 with rfl | rfl <;> rfl) | (intro i hi; have h0 : i = 0 ∨ i = 1 ∨ i = 2 := (by omega); rcases h0 with rfl | rfl | rfl <;> rfl)) ?_ | ((first | ((first | refine atF (f := 21) ?_ | refine atQ (f := 21) ?_); (first | (refine cV (hac := implIsValidNt_ok 8 xs hx hb) (hK := ?_)) | (refine cQV (hac := implIsValidNt_ok 8 xs hx hb) (hK := ?_)))) | ((first | refine atF (f := 49) ?_ | refine atQ (f := 49) ?_); (first | (refine cV (hac := lenNd_ok xs) (hK := ?_)) | (refine cQV (hac := lenNd_ok xs) (hK := ?_)))) | ((first | refine atF (f := 83) ?_ | refine atQ (f := 83) ?_); (refine cIB (hac := hE (by assumption)) (hK := ?_)))); simp (maxSteps := 1000000) (dsimp := false) (implicitDefEqProofs := false) (disch := omega) only [wrap64, go_sem]) | apply_assumption -exfalso -symm)
  all_goals (first | (show endQ _ _ _ _ _ _ _; (repeat (rename (∀ (A : Fr) (H : Hp), AWP _ _ _ _ A H → _) => hK; clear hK)); (repeat (rename (Fr → Hp → Prop) => K; clear K))) | (show Exists _; (repeat (rename (∀ (A : Fr) (H : Hp), AWP _ _ _ _ A H → _) => hK; clear hK)); (repeat (rename (Fr → Hp → Prop) => K; clear K))) | skip)
  all_goals
    (first | refine end_retIB' rfl rfl rfl rfl ?_ (by decide) rfl rfl | refine end_retIB_nil' rfl rfl rfl ?_ (by decide) rfl)
    unfold expaP
    first
    | (rw [if_pos (by assumption)]; done)
    | (rw [if_neg (by assumption)]; done)
end Go.Proofs.YticbabpajligbaaDoor
end
/- ParseWord, both texts. -/
section
namespace Go.Proofs.YticbabpajligbaaDoor
open Go.Av
set_option linter.unusedSimpArgs false
set_option linter.unusedVariables false
attribute [local irreducible] AWP CallG Ob Br BrP Go.Av.Sub endQ AOps OpV AC thenA blkA opsVC opVC withA withArgs opsQ opQ CallQ withA2 withArgs2
open Go.Nt (Nd nd0 kd li liF dig pInv pSuf pItem pSeq Pr Goes nmOk pItem_goes pSeq_goes)
/-- What ParseWord answers. -/
def pwP (names s : ByteArray) : List Int × Bool := if (parP names s).2 = -1 then expaP (parP names s).1 else ([], false)
theorem implParseWord_ok (names s : ByteArray) (hns : names.size ≤ 1048576) (hs : s.size ≤ 1048576) (d : Nat) : AC Tryd.prog 27 [.v (.string (names)), .v (.string (s))] Hp.emp (fun _ => false) (retIB d (pwP names s).1 (pwP names s).2) := by
  have hsm := parP_small names s
  have hE := implExpandNotation_ok (parP names s).1 hsm.1 (fun j => Nat.le_trans (kB_kd hsm.2 j) (by decide)) 40
  refine ac_of_awp (N := ⟨_, fun _ => false, fun _ _ => rfl, true⟩) Tryd.func27 rfl (by kernel_rfl) Tryd.ntmps27 (by simp) ?_
  simp only [argsFr, List.zipIdx_cons, List.zipIdx_nil, go_sem]
  repeat' (first | refine awp_seqK fun K hK => ?_ | (refine awp_regionK 33011 rfl ?_; simp only [List.map_cons, List.map_nil]; simp (maxSteps := 1000000) (dsimp := false) (implicitDefEqProofs := false) (disch := omega) only [wrap64, go_sem, NR_add_scr, NR_add_self, pM_low]) | (refine awp_regionQK 33011 (by kernel_rfl) (by kernel_rfl) (by kernel_rfl) ?_; simp only [List.map_cons, List.map_nil]; simp (maxSteps := 1000000) (dsimp := false) (implicitDefEqProofs := false) (disch := omega) only [wrap64, go_sem, NR_add_scr, NR_add_self, pM_low]) | refine awp_block ?_ | (refine awp_skip ?_; simp only [go_sem, NR_add_scr, NR_add_self, pM_low]) | (refine awp_exit ?_; simp only [go_sem, NR_add_scr, NR_add_self, pM_low]) | (refine awp_ret ?_; try simp only [go_sem, NR_add_scr, NR_add_self, pM_low]) | (refine awp_condP rfl ?_; try simp only [go_sem, NR_add_scr, NR_add_self, pM_low]) | (refine BrP.mk (fun h => ?_) (fun h => ?_) <;> try simp (dsimp := false) (disch := omega) only [wrap64]) | (refine Br.mk (fun h => ?_) (fun h => ?_) <;> try simp (dsimp := false) (disch := omega) only [wrap64]) | refine Ob.mk (by first | omega | (intro _ _; rfl) | trivial | (intros; trivial) | assumption | (intro i hi; have h0 : i = 0 := (by omega); subst h0; first | rfl | trivial) | (intro i hi; have h0 : i = 0 ∨ i = 1 := (by omega); rcases h0 with rfl | rfl <;> rfl) | (intro i hi; have h0 : i = 0 ∨ i = 1 ∨ i = 2 := (by omega); rcases h0 with rfl | rfl | rfl <;> rfl)) ?_ | ((first | ((first | refine atF (f := 20) ?_ | refine atQ (f := 20) ?_); refine callPp rfl (implParseNotation_ok names s hns hs) hsm.1 rfl ?_) | ((first | refine atF (f := 63) ?_ | refine atQ (f := 63) ?_); refine cIB (hfit := .cons (fits_NR (HasNR.base hsm.1)) .nil) (hac := hE) (hK := ?_))); simp (maxSteps := 1000000) (dsimp := false) (implicitDefEqProofs := false) (disch := omega) only [wrap64, go_sem, NR_add_scr, NR_add_self, pM_low]) | apply_assumption -exfalso -symm)
  all_goals (first | (show endQ _ _ _ _ _ _ _; (repeat (rename (∀ (A : Fr) (H : Hp), AWP _ _ _ _ A H → _) => hK; clear hK)); (repeat (rename (Fr → Hp → Prop) => K; clear K))) | (show Exists _; (repeat (rename (∀ (A : Fr) (H : Hp), AWP _ _ _ _ A H → _) => hK; clear hK)); (repeat (rename (Fr → Hp → Prop) => K; clear K))) | skip)
  all_goals
    (first | refine end_retIB' rfl rfl rfl rfl ?_ (by decide) rfl rfl | refine end_retIB_nil' rfl rfl rfl ?_ (by decide) rfl)
    unfold pwP
    first
    | (rw [if_pos (by omega)]; done)
    | (rw [if_neg (by omega)]; done)
end Go.Proofs.YticbabpajligbaaDoor
end
/- Words as syntax trees: their texts and expansions; plain. -/
section
namespace Go.Nt
set_option linter.unusedVariables false
set_option linter.unusedSimpArgs false
open Go.Wd (inv Tk RL)
/-- A token as a node. -/
def tkN (p : Int × Nat) : Nd := ⟨1, max p.1 (0 - p.1) - 1, (p.2 : Int), if p.1 < 0 then 1 else 0, 0, []⟩
/-- A token's text. -/
def tkX (fm : Nat → ByteArray) (names : ByteArray) (p : Int × Nat) : ByteArray := ndT fm names (tkN p) []
/-- A token's word. -/
def tkW (p : Int × Nat) : List Int := List.replicate p.2 p.1
structure tkOk (m : Nat) (p : Int × Nat) : Prop where
  nz : p.1 ≠ 0
  le : p.1 ≤ m ∧ -p.1 ≤ m
  cnt : 1 ≤ p.2 ∧ p.2 ≤ 99
def up (a k : Nat) : List Int := (List.range k).map fun j => ((a + j : Nat) : Int)
theorem up_len (a k : Nat) : (up a k).length = k := by simp [up]
theorem up_get {a k j : Nat} (h : j < k) : (up a k).getD j 0 = ((a + j : Nat) : Int) := by
  simp [up, List.getD_eq_getElem?_getD, h]
theorem up_succ (a k : Nat) : up a (k + 1) = (a : Int) :: up (a + 1) k := by
  unfold up
  rw [List.range_succ_eq_map, List.map_cons, List.map_map]
  congr 1
  refine List.map_congr_left fun j _ => ?_
  simp only [Function.comp_apply]
  omega
theorem sz_leaf {xs : List Nd} {i : Nat} (h : kd xs i = []) : sz xs i = some 1 := by rw [sz_eq, h]; rfl
theorem seg_up {xs : List Nd} : ∀ (k a : Nat), (∀ j, j < k → sz xs (a + j) = some 1) → Seg xs a (up a k) (a + k)
  | 0, a, _ => rfl
  | k + 1, a, h => by
    rw [up_succ]
    have h0 := h 0 (by omega)
    have ih := seg_up k (a + 1) fun j hj => by
      have := h (j + 1) (by omega)
      rwa [show a + (j + 1) = a + 1 + j by omega] at this
    refine ⟨1, by rw [Int.toNat_natCast]; exact h0, by omega, by rw [Int.toNat_natCast], ?_⟩
    rw [Int.toNat_natCast, show a + (k + 1) = a + 1 + k by omega]
    exact ih
/-- Letters of a run. -/
theorem drop_run {w : List Int} {x : Int} : ∀ (n a : Nat), (∀ i, i < n → a + i < w.length ∧ w.getD (a + i) 0 = x) → w.drop a = List.replicate n x ++ w.drop (a + n)
  | 0, a, _ => rfl
  | n + 1, a, h => by
    obtain ⟨h1, h2⟩ := h 0 (by omega)
    rw [Nat.add_zero] at h1 h2
    have ih := drop_run (w := w) (x := x) n (a + 1) fun i hi => by
      have := h (i + 1) (by omega)
      rwa [show a + (i + 1) = a + 1 + i by omega] at this
    rw [List.drop_eq_getElem_cons h1, ih, List.replicate_succ, List.cons_append]
    congr 1
    · rw [List.getD_eq_getElem?_getD, List.getElem?_eq_getElem h1] at h2; exact h2
    · rw [show a + 1 + n = a + (n + 1) by omega]
theorem tk_flat {w : List Int} : ∀ (ts : List (Int × Nat)) (a : Nat), Tk w a ts → (ts.map tkW).flatten = w.drop a
  | [], a, h => by
    rw [show a = w.length from h, List.drop_length]; rfl
  | (x, n) :: ts, a, ⟨h1, h2, h3, h4, h5⟩ => by
    have ih := tk_flat ts _ h5
    rw [List.map_cons, List.flatten_cons, ih]
    exact (drop_run n a fun i hi => ⟨(h4.al i hi).1, (h4.al i hi).2.trans h2⟩).symm
theorem tk_all {w : List Int} {m : Nat} (hw : ∀ j, j < w.length → w.getD j 0 ≠ 0 ∧ w.getD j 0 ≤ m ∧ -w.getD j 0 ≤ m) : ∀ (ts : List (Int × Nat)) (a : Nat), Tk w a ts → ∀ p ∈ ts, tkOk m p
  | [], a, h, p, hp => by cases hp
  | (x, n) :: ts, a, ⟨h1, h2, h3, h4, h5⟩, p, hp => by
    rcases List.mem_cons.1 hp with rfl | hp
    · have := hw a h1
      rw [h2] at this
      exact ⟨this.1, this.2, h3, h4.le⟩
    · exact tk_all hw ts _ h5 p hp
theorem tkN_ok {m : Nat} {p : Int × Nat} (h : tkOk m p) : ndOk m (tkN p) false := by
  obtain ⟨h1, h2, h3⟩ := h
  refine ⟨⟨?_, ?_⟩, ?_, .inr ⟨rfl, .inl ⟨rfl, ⟨?_, ?_⟩, rfl, rfl⟩⟩⟩
  · show 1 ≤ (p.2 : Int); omega
  · show (p.2 : Int) ≤ 99; omega
  · show 0 ≤ (if p.1 < 0 then (1 : Int) else 0) ∧ (if p.1 < 0 then (1 : Int) else 0) ≤ 1; split <;> omega
  · show 0 ≤ max p.1 (0 - p.1) - 1; omega
  · show max p.1 (0 - p.1) - 1 ≤ (m : Int) - 1; omega
theorem inv_rep (x : Int) (n : Nat) : inv (List.replicate n x) = List.replicate n (-x) := by
  unfold inv; simp
theorem rep_one (x : Int) : ∀ n, repW [x] n = List.replicate n x
  | 0 => rfl
  | n + 1 => by
    have ih := rep_one x n
    unfold repW at ih ⊢
    rw [List.replicate_succ, List.flatten_cons, ih]; rfl
theorem tkN_word {m : Nat} {p : Int × Nat} (h : tkOk m p) : ndW (tkN p) [] = some (tkW p) := by
  obtain ⟨h1, h2, h3⟩ := h
  have eb : bas (tkN p) (([] : List (List Int)).take (tkN p).split.toNat).flatten (([] : List (List Int)).drop (tkN p).split.toNat).flatten = [max p.1 (0 - p.1)] := by
    show [max p.1 (0 - p.1) - 1 + 1] = _
    rw [show max p.1 (0 - p.1) - 1 + 1 = max p.1 (0 - p.1) by omega]
  unfold ndW
  rw [eb, if_neg (by show ¬ 200 < 1 * ((p.2 : Int)).toNat; omega)]
  have ec : (tkN p).count.toNat = p.2 := by show ((p.2 : Int)).toNat = p.2; omega
  rw [ec, rep_one, inv_rep]
  have ei : (tkN p).inv = if p.1 < 0 then 1 else 0 := rfl
  rw [ei]
  unfold tkW
  by_cases hx : p.1 < 0
  · rw [if_pos hx, if_pos rfl, show -max p.1 (0 - p.1) = p.1 by omega]
  · rw [if_neg hx, if_neg (by decide), show max p.1 (0 - p.1) = p.1 by omega]
section
variable {fm : Nat → ByteArray} {names : ByteArray} {ts : List (Int × Nat)} {xs : List Nd}
/-- The first nodes are these tokens. -/
def Lv (xs : List Nd) (ts : List (Int × Nat)) : Prop := ts.map tkN <+: xs
theorem Lv.get (h : Lv xs ts) {j : Nat} (hj : j < ts.length) : xs.getD j nd0 = tkN (ts.getD j (0, 0)) := by
  obtain ⟨r, rfl⟩ := h
  rw [List.getD_eq_getElem?_getD, List.getElem?_append_left (by rw [List.length_map]; exact hj)]
  simp [List.getD_eq_getElem?_getD, hj]
theorem Lv.kd (h : Lv xs ts) {j : Nat} (hj : j < ts.length) : kd xs j = [] := by
  show (xs.getD j nd0).kids = []
  rw [h.get hj]; rfl
theorem Lv.seg (h : Lv xs ts) : Seg xs 0 (up 0 ts.length) ts.length := by
  have := seg_up (xs := xs) ts.length 0 fun j hj => by rw [Nat.zero_add]; exact sz_leaf (h.kd hj)
  rwa [Nat.zero_add] at this
theorem Lv.tx (h : Lv xs ts) {j : Nat} (hj : j < ts.length) : tx fm names xs j = tkX fm names (ts.getD j (0, 0)) := by
  rw [tx_own (sz_leaf (h.kd hj)), h.get hj, show kdT fm names xs j = [] from by unfold kdT; rw [h.kd hj]; rfl]
  rfl
theorem Lv.txs (h : Lv xs ts) : (up 0 ts.length).map (fun c => Go.Nt.tx fm names xs c.toNat) = ts.map (tkX fm names) := by
  refine List.ext_getElem (by rw [List.length_map, List.length_map, up_len]) fun j h1 h2 => ?_
  rw [List.length_map] at h2
  have e := up_get (a := 0) h2
  rw [List.getD_eq_getElem?_getD, List.getElem?_eq_getElem (by rw [up_len]; exact h2), Option.getD_some] at e
  rw [List.getElem_map, List.getElem_map, e, Nat.zero_add, Int.toNat_natCast, h.tx h2]
  simp [List.getD_eq_getElem?_getD, h2]
theorem Lv.ex {n m : Nat} (h : Lv xs ts) (hk : ∀ i, i < n → kidsB xs i) (ht : ∀ p ∈ ts, tkOk m p) {j : Nat} (hj : j < ts.length) (hn : ts.length ≤ n) : ex xs j = some (tkW (ts.getD j (0, 0))) := by
  rw [ex_some hk (by omega) (ws := []) (by rw [h.kd hj]; rfl) (fun k hk => by rw [h.kd hj] at hk; exact absurd hk (Nat.not_lt_zero _)), h.get hj]
  refine tkN_word (m := m) (ht _ ?_)
  rw [List.getD_eq_getElem?_getD, List.getElem?_eq_getElem hj]
  exact List.getElem_mem hj
theorem root_word {w : List Int} {ks : List Int} {ws : List (List Int)} (hf : ws.flatten = w) (hw : w.length ≤ 200) : ndW (rtN ks) ws = some w := by
  have eb : bas (rtN ks) (ws.take (rtN ks).split.toNat).flatten (ws.drop (rtN ks).split.toNat).flatten = w := by
    show [] ++ (ws.take 0).flatten ++ (ws.drop 0).flatten ++ [] ++ [] = w
    rw [← hf]; simp
  unfold ndW
  rw [eb, if_neg (by show ¬ 200 < w.length * 1; omega), if_neg (by show ¬ (0 : Int) = 1; decide)]
  show some (repW w 1) = _
  simp [repW]
/-- A word as a tree. -/
def treeW (ts : List (Int × Nat)) : List Nd := ts.map tkN ++ [rtN (up 0 ts.length)]
/-- A node over the tokens of words, as a tree. -/
def treeN (ts : List (Int × Nat)) (x : Nd) : List Nd := (ts.map tkN ++ [x]) ++ [rtN [(ts.length : Int)]]
theorem treeN_ok {x : Nd} (hn8 : 1 ≤ names.size ∧ names.size ≤ 8) (ht : ∀ p ∈ ts, tkOk names.size p) (hl : ts.length < 199) (hx : ndOk names.size x false) (hxk : x.kids = up 0 ts.length) : isNt names.size (treeN ts x) ∧ allT fm names (treeN ts x) = ndT fm names x (ts.map (tkX fm names)) ∧ ∀ w, ndW x (ts.map tkW) = some w → ex (treeN ts x) ((treeN ts x).length - 1) = some w := by
  have hLv : Lv (treeN ts x) ts := (List.prefix_append ..).trans (List.prefix_append ..)
  have hlm : (ts.map tkN).length = ts.length := List.length_map ..
  have hlx : (ts.map tkN ++ [x]).length = ts.length + 1 := by rw [List.length_append, hlm]; rfl
  have hlen : (treeN ts x).length = ts.length + 2 := by unfold treeN; rw [List.length_append, hlx]; rfl
  have hat : (treeN ts x).getD ts.length nd0 = x := by
    have := pre_at (l := ts.map tkN) (y := x) (xs := treeN ts x) (List.prefix_append ..)
    rwa [hlm] at this
  have hkx : Go.Nt.kd (treeN ts x) ts.length = up 0 ts.length := by show ((treeN ts x).getD ts.length nd0).kids = _; rw [hat, hxk]
  obtain ⟨z1, z2⟩ := seg_sz (xs := treeN ts x) (i := ts.length) (a := 0) (by rw [hkx]; exact hLv.seg)
  have z2 : sz (treeN ts x) ts.length = some (ts.length + 1) := z2
  have hsg : Seg (treeN ts x) 0 [(ts.length : Int)] (ts.length + 1) := ⟨ts.length + 1, by rw [Int.toNat_natCast]; exact z2, by omega, by rw [Int.toNat_natCast]; omega, by rw [Int.toNat_natCast]; rfl⟩
  obtain ⟨v1, v2⟩ := part_ok (names := names) (l := ts.map tkN ++ [x]) (ks := [(ts.length : Int)]) hn8 (by rw [hlx]; omega) (by rw [hlx]; exact hsg) (fun j _ hj => by
    rw [hlx] at hj
    show ndOk names.size ((treeN ts x).getD j nd0) false
    by_cases hj2 : j < ts.length
    · rw [hLv.get hj2]
      refine tkN_ok (ht _ ?_)
      rw [List.getD_eq_getElem?_getD, List.getElem?_eq_getElem hj2]
      exact List.getElem_mem hj2
    · obtain rfl : j = ts.length := by omega
      rw [hat]; exact hx)
  have v1 : isNt names.size (treeN ts x) := v1
  have v2 : Go.Nt.kd (treeN ts x) (ts.map tkN ++ [x]).length = [(ts.length : Int)] := v2
  rw [hlx] at v2
  refine ⟨v1, ?_, fun w hw => ?_⟩
  · unfold allT
    rw [hlen, show ts.length + 2 - 1 = ts.length + 1 by omega]
    have e1 : kdT fm names (treeN ts x) (ts.length + 1) = [tx fm names (treeN ts x) ts.length] := by unfold kdT; rw [v2]; simp
    have e2 : kdT fm names (treeN ts x) ts.length = ts.map (tkX fm names) := by unfold kdT; rw [hkx, hLv.txs]
    rw [e1, jn_one, tx_own z2, hat, e2]
  · have hk := kidsB_of v1.2.2.2
    rw [hlen, show ts.length + 2 - 1 = ts.length + 1 by omega]
    have e1 : ex (treeN ts x) ts.length = some w := by
      rw [ex_some hk (i := ts.length) (by omega) (ws := ts.map tkW) (by rw [hkx, up_len, List.length_map]) (fun k hkk => by
        rw [hkx, up_len] at hkk
        rw [hkx, up_get hkk, Nat.zero_add, Int.toNat_natCast, hLv.ex hk ht hkk (by omega)]
        simp [List.getD_eq_getElem?_getD, hkk]), hat, hw]
    rw [ex_some hk (i := ts.length + 1) (by omega) (ws := [w]) (by rw [v2]; rfl) (fun k hkk => by
      rw [v2] at hkk
      have : k = 0 := by simp at hkk; omega
      subst this
      rw [v2]
      show ex (treeN ts x) ((ts.length : Int)).toNat = _
      rw [Int.toNat_natCast, e1]; rfl)]
    have hx2 : (treeN ts x).getD (ts.length + 1) nd0 = rtN [(ts.length : Int)] := by
      have := pre_at (l := ts.map tkN ++ [x]) (y := rtN [(ts.length : Int)]) (xs := treeN ts x) (List.prefix_refl _)
      rwa [hlx] at this
    rw [hx2]
    exact root_word (by simp) (ndW_len hw)
/-- Texts of two words joined. -/
theorem jn_app {u v : List ByteArray} (hu : u ≠ []) (hv : v ≠ []) : jn (u ++ v) = jn u ++ ⟨#[32]⟩ ++ jn v := by
  induction u with
  | nil => exact absurd rfl hu
  | cons a u ih =>
    cases u with
    | nil => rw [List.cons_append, List.nil_append, jn_snoc_cons a v hv, jn_one]
    | cons b r =>
      rw [List.cons_append, jn_snoc_cons a _ (by simp), ih (by simp), jn_snoc_cons a (b :: r) (by simp)]
      simp only [ByteArray.append_assoc]
theorem isNt_mono {m k : Int} (h : isNt m xs) (hk : m ≤ k ∧ k ≤ 8) : isNt k xs := by
  obtain ⟨h1, h2, h3, h4⟩ := h
  refine ⟨by omega, h2, fun i hi => ?_, h4⟩
  obtain ⟨a, b, c⟩ := h3 i hi
  refine ⟨a, b, ?_⟩
  rcases c with c | ⟨c, d | d | d⟩
  · exact .inl c
  · exact .inr ⟨c, .inl ⟨d.1, ⟨d.2.1.1, by omega⟩, d.2.2⟩⟩
  · exact .inr ⟨c, .inr (.inl d)⟩
  · exact .inr ⟨c, .inr (.inr d)⟩
end
end Go.Nt
end

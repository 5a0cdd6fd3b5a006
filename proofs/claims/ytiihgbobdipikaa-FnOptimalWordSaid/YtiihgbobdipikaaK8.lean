import Derived.Test.YtiihgbobdipikaaK7
import Derived.Test.YtiihgbobdipikaaK3
/- The program explores a puzzle. -/
section
namespace Go.Proofs.Ytiihgbobdipikaa
open Go.Av
set_option linter.unusedSimpArgs false
set_option linter.unusedVariables false
attribute [local irreducible] AWP CallG Ob Br BrP Go.Av.Sub endQ AOps OpV AC thenA blkA opsVC opVC withA withArgs opsQ opQ CallQ withA2 withArgs2
open Go.Pm (Pm comp invp idn img Gen Bf srch sorts srtN Srt slot sidx insAt)

/- how many states: the group of the letters -/
theorem lets_mem : ∀ (m : Nat) (j : Nat), j < m → ((j : Int) + 1) ∈ lets m
  | 0, j, h => absurd h (Nat.not_lt_zero _)
  | m + 1, j, h => by
    unfold lets
    by_cases e : j = m
    · subst e; simp
    · exact List.mem_append_left _ (lets_mem m j (by omega))
theorem lsP_gen {p : Pz} (hz : isPz p) (g : List Int) : Go.Pm.Gen p.n.toNat ((lsP p).map (·.2)) g ↔ Go.Pm.Gen p.n.toNat p.m g := by
  have hg : ∀ i, i < p.m.length → Pm p.n.toNat (p.m.getD i []) := hz.gens.2.2
  have hpm : ∀ g ∈ p.m, Pm p.n.toNat g := fun g hm => by
    obtain ⟨j, hj, rfl⟩ := List.mem_iff_getElem.1 hm
    have := hg j hj
    rwa [List.getD_eq_getElem?_getD, List.getElem?_eq_getElem hj] at this
  have mem : ∀ i, i < p.m.length → p.m.getD i [] ∈ p.m := fun i hi => by
    rw [List.getD_eq_getElem?_getD, List.getElem?_eq_getElem hi]; exact List.getElem_mem hi
  constructor
  · intro h
    refine Go.Pm.Gen.sub hpm (fun x hx => ?_) h
    simp only [lsP, List.map_map, List.mem_map, Function.comp] at hx
    obtain ⟨l, hl, rfl⟩ := hx
    obtain ⟨j, hj, rfl⟩ := List.getElem_of_mem hl
    have hin := lets_inL p.m j hj
    rw [List.getD_eq_getElem?_getD, List.getElem?_eq_getElem hj] at hin
    simp only [Option.getD_some] at hin
    unfold inL at hin
    unfold letP
    split
    · exact Go.Pm.Gen.of hpm (mem _ (by omega))
    · exact Go.Pm.Gen.inv hpm (Go.Pm.Gen.of hpm (mem _ (by omega)))
  · intro h
    refine Go.Pm.Gen.mono (fun x hx => ?_) h
    obtain ⟨j, hj, rfl⟩ := List.mem_iff_getElem.1 hx
    simp only [lsP, List.map_map, List.mem_map, Function.comp]
    refine ⟨(j : Int) + 1, lets_mem _ j hj, ?_⟩
    unfold letP
    rw [if_pos (by omega), show ((j : Int) + 1 - 1).toNat = j by omega, List.getD_eq_getElem?_getD, List.getElem?_eq_getElem hj]; rfl
theorem cnt_list {p : Pz} (hz : isPz p) : ∃ L : List (List Int), L.Nodup ∧ L.length = cntP p ∧ ∀ g, g ∈ L ↔ Go.Pm.Gen p.n.toNat ((lsP p).map (·.2)) g := by
  have hg : ∀ i, i < p.m.length → Pm p.n.toNat (p.m.getD i []) := hz.gens.2.2
  have hpm : ∀ g ∈ p.m, Pm p.n.toNat g := fun g hm => by
    obtain ⟨j, hj, rfl⟩ := List.mem_iff_getElem.1 hm
    have := hg j hj
    rwa [List.getD_eq_getElem?_getD, List.getElem?_eq_getElem hj] at this
  obtain ⟨L, h1, h2, h3⟩ := Go.Pm.ordG_list hpm
  exact ⟨L, h1, by unfold cntP; rw [if_pos hz]; exact h2, fun g => (h3 g).trans (lsP_gen hz g).symm⟩
theorem cnt_some {p : Pz} (h : 1 ≤ ((cntP p : Nat) : Int) ∧ ((cntP p : Nat) : Int) ≤ 3000) : isPz p := by
  by_cases e : isPz p
  · exact e
  · unfold cntP at h; rw [if_neg e] at h; omega
theorem cnt_none {p : Pz} (h : ¬ (1 ≤ ((cntP p : Nat) : Int) ∧ ((cntP p : Nat) : Int) ≤ 3000)) : XS p = none := by
  by_cases e : isPz p
  · obtain ⟨L, h1, h2, h3⟩ := cnt_list e
    have hpos : 0 < L.length := List.length_pos_of_mem ((h3 _).2 .one)
    rw [XS_yes e]
    exact (Go.Pm.srch_group (lsP_pm e) h1 h3).2 (by omega)
  · exact XS_no e

/- keys of states, and where they stand -/
theorem ba_beq {a b : ByteArray} : (a == b) = true ↔ a = b := by
  obtain ⟨x⟩ := a; obtain ⟨y⟩ := b
  show (x == y) = true ↔ _
  rw [beq_iff_eq, ByteArray.mk.injEq]
def kvsN : List (List Int) → Nat → List (ByteArray × Int)
  | [], _ => []
  | s :: r, k => (keyB s, (k : Int)) :: kvsN r (k + 1)
theorem kvsN_snoc (y : List Int) : ∀ (xs : List (List Int)) (k : Nat), kvsN (xs ++ [y]) k = kvsN xs k ++ [(keyB y, ((k + xs.length : Nat) : Int))]
  | [], k => by simp [kvsN]
  | s :: r, k => by
    simp only [List.cons_append, kvsN, kvsN_snoc y r (k + 1), List.length_cons]
    rw [show k + 1 + r.length = k + (r.length + 1) by omega]
def kvs (xs : List (List Int)) : List (ByteArray × Int) := kvsN xs 0
theorem kvs_snoc (xs : List (List Int)) (y : List Int) : kvs xs ++ [(keyB y, (xs.length : Int))] = kvs (xs ++ [y]) := by
  unfold kvs; rw [kvsN_snoc, Nat.zero_add]
theorem lk_kvsN {y : List Int} (hy : isB y) : ∀ (xs : List (List Int)) (k : Nat), (∀ s ∈ xs, isB s) → lkO (keyB y) (kvsN xs k) = if y ∈ xs then some ((k + xs.idxOf y : Nat) : Int) else none
  | [], k, _ => by simp [kvsN, lkO]
  | s :: r, k, h => by
    have ih := lk_kvsN hy r (k + 1) (fun x hx => h x (List.mem_cons_of_mem _ hx))
    simp only [kvsN, lkO, ih]
    by_cases e : s = y
    · subst e
      rw [ba_beq.2 rfl]; simp
    · have e2 : (keyB y == keyB s) = false := by
        rw [Bool.eq_false_iff]
        exact fun k => e (keyB_inj (h s List.mem_cons_self) hy (ba_beq.1 k).symm)
      have e3 : (s == y) = false := beq_eq_false_iff_ne.2 e
      rw [e2]
      have e5 : y ∈ s :: r ↔ y ∈ r := by simp [Ne.symm e]
      simp only [cond_false, List.idxOf_cons, e3]
      by_cases m : y ∈ r
      · rw [if_pos m, if_pos (e5.2 m)]
        simp only [Option.some.injEq]; omega
      · rw [if_neg m, if_neg (fun k => m (e5.1 k))]
theorem lk_has {y : List Int} {xs : List (List Int)} (hy : isB y) (h : ∀ s ∈ xs, isB s) : (lkO (keyB y) (kvs xs)).isSome = decide (y ∈ xs) := by
  unfold kvs; rw [lk_kvsN hy xs 0 h]
  split <;> simp [*]
theorem lk_get {y : List Int} {xs : List (List Int)} (hy : isB y) (h : ∀ s ∈ xs, isB s) (hm : y ∈ xs) : (lkO (keyB y) (kvs xs)).getD 0 = ((xs.idxOf y : Nat) : Int) := by
  unfold kvs; rw [lk_kvsN hy xs 0 h, if_pos hm, Nat.zero_add]; rfl

/-- What lies in memory while the program explores. -/
def exF (p : Pz) (X : Bf) : Nat → AV := vecF [.v (.int .i64 (p.n)), .v (.string (p.s)), .list false 1 (p.m).length (cM ints [] (p.m)), .own 23 0 1 X.st.length, .own 24 0 1 X.dp.length, .map 25, .own 29 0 1 X.pa.length, .own 30 0 1 X.bl.length, .own 40 0 1 X.nx.length]
def hE (p : Pz) (X : Bf) : Hp := (((((((Hp.emp.upd 1 (.cells 3 (vecF [.v (.int .i64 (p.n)), .v (.string (p.s)), .list false 1 (p.m).length (cM ints [] (p.m))]))).upd 23 (.cells X.st.length (cM ints [] X.st))).upd 24 (.cells X.dp.length (cM iv 0 X.dp))).upd 25 (.mp (mS iv (kvs X.st)))).upd 29 (.cells X.pa.length (cM iv 0 X.pa))).upd 30 (.cells X.bl.length (cM iv 0 X.bl))).upd 40 (.cells X.nx.length (cM ints [] X.nx))).upd 32 (.cells 9 (exF p X))
/-- What explore leaves. -/
def exR (p : Pz) (X : Bf) : Nat → AV := vecF [.v (.int .i64 (p.n)), .v (.string (p.s)), .list false 1 (p.m).length (cM ints [] (p.m)), .list false 1 (X.st).length (cM ints [] (X.st)), .list false 1 (X.dp).length (cM iv 0 (X.dp)), .map 1000003, .dead, .dead, .list false 1 (X.nx).length (cM ints [] (X.nx))]
def exH (p : Pz) (X : Bf) : Hp := (Hp.emp.upd 1000000 (.cells 9 (exR p X))).upd 1000003 (.mp (mS iv (kvs X.st)))
def postE (p : Pz) (r : AV) (H : Hp) : Prop := ((XS p).isSome = true ∧ r = .tup 2 (vecF [.ref 1000000 0, .v (.bool (true))]) ∧ H = exH p (XA p)) ∨ ((XS p).isSome = false ∧ r = .tup 2 (vecF [.v (.pointer none), .v (.bool (false))]) ∧ H = Hp.emp)
theorem isB_of {n : Nat} {s : List Int} (hn : n ≤ 20) (h : ∀ j, j < s.length → 0 ≤ s.getD j 0 ∧ s.getD j 0 < n) : isB s := fun j hj => by have := h j hj; omega
theorem isSt_J {p : Pz} (hp : isPz p) {X : Bf} (hJ : Bf.J p.n.toNat (lsP p) (idn p.n.toNat) X) {s : List Int} (hs : s ∈ X.st) : isSt p s := by
  obtain ⟨g, hg, rfl⟩ := hJ.gen s hs
  have h1 := (Go.Pm.Pm.idn _).comp (hg.pm (lsP_pm hp))
  have hn := hp.n
  refine ⟨hp, by rw [h1.1]; omega, (isPerm_pm _).2 ⟨by rw [h1.1]; omega, by rw [h1.1]; exact h1⟩⟩
theorem sub_fin {N : Cx} {A : Fr} {p : Pz} {X : Bf} (hpn : N.pn = fun _ => false) (hA : A.get 2 = some (.ref 32 0)) (hB : A.get 3 = some (.v (.bool true))) : Sub N A (hE p X) [(2, .ref 1000000 0), (3, .v (.bool true))] (exH p X) := by
  have s1 : Sub N A (hE p X) [(2, .ref 32 0), (3, .v (.bool true))] ((Hp.emp.upd 32 (.cells 9 (vecF [.v (.int .i64 (p.n)), .v (.string (p.s)), .list false 1 (p.m).length (cM ints [] (p.m)), .list false 1 (X.st).length (cM ints [] (X.st)), .list false 1 (X.dp).length (cM iv 0 (X.dp)), .map 25, .dead, .dead, .list false 1 (X.nx).length (cM ints [] (X.nx))]))).upd 25 (.mp (mS iv (kvs X.st)))) := by
    refine Sub.fits (fun x => x = 23 ∨ x = 24 ∨ x = 29 ∨ x = 30 ∨ x = 40) (fun i c hc => ?_) ?_
    · simp only [Fr.get] at hc
      split at hc
      · rename_i e; subst e; cases hc; exact ⟨_, hA, .refl _⟩
      · split at hc
        · rename_i e; subst e; cases hc; exact ⟨_, hB, .refl _⟩
        · cases hc
    · refine leF_upd (B' := .mp (mS iv (kvs X.st))) rfl (.refl _ _ _) (leF_upd (B' := .cells 9 (exF p X)) rfl ⟨rfl, fun i hi => ?_⟩ leF_emp (by omega)) (by omega)
      match i, hi with
      | 0, _ => exact .refl _
      | 1, _ => exact .refl _
      | 2, _ => exact .refl _
      | 3, _ => exact fits_II rfl (.inl rfl) rfl rfl
      | 4, _ => exact fits_I rfl (.inr (.inl rfl)) rfl rfl
      | 5, _ => exact .refl _
      | 6, _ => exact .dead _
      | 7, _ => exact .dead _
      | 8, _ => exact fits_II rfl (by simp) rfl rfl
  refine s1.trans (Sub.layM (fun h => if h = 1000000 then some 32 else if h = 1000003 then some 25 else none) hpn (lay_cons ⟨_, rfl, .ref rfl⟩ (lay_cons ⟨_, rfl, .plain trivial⟩ lay_nil)) ?_ ?_)
  · unfold exH exR
    refine layF_map (g := 25) rfl rfl ?_ (layF_upd (g := 32) (n := 9) rfl rfl (fun i hi => ?_) layF_emp)
    · intro x hx
      obtain ⟨y, hy, rfl⟩ := List.mem_map.1 hx
      trivial
    · match i, hi with
      | 0, _ => exact .plain trivial
      | 1, _ => exact .plain trivial
      | 2, _ => exact .plain trivial
      | 3, _ => exact .plain trivial
      | 4, _ => exact .plain trivial
      | 5, _ => exact .map rfl
      | 6, _ => exact .dead _
      | 7, _ => exact .dead _
      | 8, _ => exact .plain trivial
  · intro x y k hx hy h1 h2
    split at h1
    · split at h2
      · omega
      · split at h2
        · simp only [Option.some.injEq] at h1 h2; omega
        · cases h2
    · split at h1
      · split at h2
        · simp only [Option.some.injEq] at h1 h2; omega
        · split at h2
          · omega
          · cases h2
      · cases h1
set_option maxHeartbeats 4000000 in
theorem explore_ok (p : Pz) (hs0 : p.s.size ≤ 140737488355328) : AC Try.prog 64 [pz p] Hp.emp (fun _ => false) (postE p) := by
  have hid : isPz p → AC Try.prog 102 [.v (.int .i64 (p.n))] Hp.emp (fun _ => false) (retI 20 (idn p.n.toNat)) := fun h => by
    have := h.n
    have e := implIdentity_ok p.n.toNat (by omega) 20
    rwa [show ((p.n.toNat : Nat) : Int) = p.n by omega] at e
  have hz : 1 ≤ ((cntP p : Nat) : Int) ∧ ((cntP p : Nat) : Int) ≤ 3000 → isPz p := cnt_some
  have hB : isPz p → isB (idn p.n.toNat) := fun h => isB_of h.n20 (idn_in _)
  have hl : (idn p.n.toNat).length = p.n.toNat := Go.Pm.idn_length _
  refine ac_of_awp (N := ⟨_, fun _ => false, fun _ _ => rfl⟩) Try.func64 rfl (by kernel_rfl) Try.ntmps64 (by simp) ?_
  simp only [argsFr, List.zipIdx_cons, List.zipIdx_nil, go_sem]
  repeat' (first | (refine awp_regionFK (id := 4) 9445003190513025826815 11 [23,24,25,29,30] [[],[],[23],[24],[25],[],[],[25],[25],[29],[30]] (by kernel_rfl) (by kernel_rfl) (by kernel_rfl) (by simp only [go_sem, List.contains_cons, List.contains_nil, Nat.reduceBEq, Bool.or_self, Bool.false_eq_true, if_false]) (by simp only [go_sem, List.contains_cons, List.contains_nil, Nat.reduceBEq, Bool.or_self, Bool.false_eq_true, if_false]) (by simp only [noneAll, go_sem, Nat.reduceEqDiff, if_false, and_self]) ?_; simp only [List.map_cons, List.map_nil, List.take_succ_cons, List.take_zero, List.drop_succ_cons, List.drop_zero]; simp (maxSteps := 1000000) (dsimp := false) (implicitDefEqProofs := false) (disch := omega) only [wrap64, go_sem]) | refine awp_seqK fun K hK => ?_ | (refine awp_regionK 9445003190513025826815 rfl ?_; simp only [List.map_cons, List.map_nil]; simp (maxSteps := 1000000) (dsimp := false) (implicitDefEqProofs := false) (disch := omega) only [wrap64, go_sem]) | (refine awp_regionQK 9445003190513025826815 (by kernel_rfl) (by kernel_rfl) (by kernel_rfl) ?_; simp only [List.map_cons, List.map_nil]; simp (maxSteps := 1000000) (dsimp := false) (implicitDefEqProofs := false) (disch := omega) only [wrap64, go_sem]) | refine awp_block ?_ | (refine awp_skip ?_; simp only [go_sem]) | (refine awp_exit ?_; simp only [go_sem]) | (refine awp_ret ?_; try simp only [go_sem]) | (refine awp_condP rfl ?_; try simp only [go_sem]) | (refine BrP.mk (fun h => ?_) (fun h => ?_) <;> try simp (dsimp := false) (disch := omega) only [wrap64]) | (refine Br.mk (fun h => ?_) (fun h => ?_) <;> try simp (dsimp := false) (disch := omega) only [wrap64]) | refine Ob.mk (by first | omega | (intro _ _; rfl) | trivial | (intros; trivial) | assumption | (intro i hi; have h0 : i = 0 := (by omega); subst h0; first | rfl | trivial) | (intro i hi; have h0 : i = 0 ∨ i = 1 := (by omega); rcases h0 with rfl | rfl <;> rfl) | (intro i hi; have h0 : i = 0 ∨ i = 1 ∨ i = 2 := (by omega); rcases h0 with rfl | rfl | rfl <;> rfl)) ?_ | ((first | ((first | refine atF (f := 101) ?_ | refine atQ (f := 101) ?_); (first | (refine cV (hac := implStateCount_ok p hs0) (hK := ?_)) | (refine cQV (hac := implStateCount_ok p hs0) (hK := ?_)))) | ((first | refine atF (f := 100) ?_ | refine atQ (f := 100) ?_); (first | (refine cV (hac := within_ok _ _ _) (hK := ?_)) | (refine cQV (hac := within_ok _ _ _) (hK := ?_)))) | (refine cFI (hac := hid (hz (by assumption))) (hK := ?_)) | (refine cQI (hac := hid (hz (by assumption))) (hK := ?_)) | ((first | refine atF (f := 103) ?_ | refine atQ (f := 103) ?_); (first | (refine cV (hac := stateKey_ok (idn p.n.toNat) (by have := (hz (by assumption)).n; omega) (hB (hz (by assumption)))) (hK := ?_)) | (refine cQV (hac := stateKey_ok (idn p.n.toNat) (by have := (hz (by assumption)).n; omega) (hB (hz (by assumption)))) (hK := ?_)))) | ((first | refine atF (f := 73) ?_ | refine atQ (f := 73) ?_); (first | (refine cFI (hac := letters_ok p.m.length (by have := (hz (by assumption)).1.2.1; omega) 36) (hK := ?_)) | (refine cQI (hac := letters_ok p.m.length (by have := (hz (by assumption)).1.2.1; omega) 36) (hK := ?_))))); simp (maxSteps := 1000000) (dsimp := false) (implicitDefEqProofs := false) (disch := omega) only [wrap64, go_sem]) | apply_assumption -exfalso -symm)
  all_goals (first | (show endQ _ _ _ _ _ _ _; (repeat (rename (∀ (A : Fr) (H : Hp), AWP _ _ _ _ A H → _) => hK; clear hK)); (repeat (rename (Fr → Hp → Prop) => K; clear K))) | (show Exists _; (repeat (rename (∀ (A : Fr) (H : Hp), AWP _ _ _ _ A H → _) => hK; clear hK)); (repeat (rename (Fr → Hp → Prop) => K; clear K))) | skip)
  · have hp := hz (by assumption)
    obtain ⟨L, hL1, hL2, hL3⟩ := cnt_list hp
    have hL4 : L.length ≤ 3000 := by omega
    have hG := lsP_pm hp
    have hb0 := idn_in p.n.toNat
    have hm := hp.1.2.1
    have hn := hp.n
    have hlm := lsP_length p
    have hll := lets_length p.m.length
    have hcl : ∀ k i, (∀ j, j ≤ k → j < (Bf.run (lsP p) (idn p.n.toNat) j).st.length) → i ≤ (lsP p).length → ((Bf.run (lsP p) (idn p.n.toNat) k).rows (lsP p) k i).1.st.length ≤ 3000 := fun k i h hi => Nat.le_trans (Bf.rows_le hG (fun g hg => (hL3 g).2 hg) h hi) hL4
    clear hid hB hL1 hL2 hL3 hL4
    refine awp_loop (ι := Nat) (fun k => [(7, .v (.int .i64 (k))), (6, .list false 1 (lets p.m.length).length (cM iv 0 (lets p.m.length))), (5, .ref 32 0), (1, .ref 1 0)]) (fun k => hE p (Bf.run (lsP p) (idn p.n.toNat) k)) (fun k => (∀ j, j < k → j < (Bf.run (lsP p) (idn p.n.toNat) j).st.length) ∧ (Bf.run (lsP p) (idn p.n.toNat) k).st.length ≤ 3000) (fun k => 3001 - k) 0 ⟨fun j hj => absurd hj (Nat.not_lt_zero j), by simp [Bf.run]⟩ (Sub.layM (fun h => if h = 40 then none else some h) rfl ?_ ?_ ?_) ?_
    · exact lay_cons ⟨_, rfl, .plain trivial⟩ (lay_cons ⟨_, rfl, .plain trivial⟩ (lay_cons ⟨_, rfl, .ref rfl⟩ (lay_cons ⟨_, rfl, .ref rfl⟩ lay_nil)))
    · refine layF_upd (g := 32) (n := 9) rfl rfl (fun i hi => ?_) (layF_nil rfl (layF_upd (g := 30) (n := 1) rfl rfl (fun i hi => ?_) (layF_upd (g := 29) (n := 1) rfl rfl (fun i hi => ?_) (layF_map (g := 25) rfl rfl ?_ (layF_upd (g := 24) (n := 1) rfl rfl (fun i hi => ?_) (layF_upd (g := 23) (n := 1) rfl rfl (fun i hi => ?_) (layF_upd (g := 1) (n := 3) rfl rfl (fun i hi => ?_) layF_emp)))))))
      · match i, hi with
        | 0, _ => exact .plain trivial
        | 1, _ => exact .plain trivial
        | 2, _ => exact .plain trivial
        | 3, _ => exact .own rfl
        | 4, _ => exact .own rfl
        | 5, _ => exact .map rfl
        | 6, _ => exact .own rfl
        | 7, _ => exact .own rfl
        | 8, _ => exact .nil rfl
      · exact .plain trivial
      · exact .plain trivial
      · intro x hx
        have := List.mem_singleton.1 hx
        subst this; trivial
      · exact .plain trivial
      · match i, hi with
        | 0, _ => exact .plain trivial
      · match i, hi with
        | 0, _ => exact .plain trivial
        | 1, _ => exact .plain trivial
        | 2, _ => exact .plain trivial
    · intro x y k hx hy h1 h2
      split at h1
      · cases h1
      · split at h2
        · cases h2
        · simp only [Option.some.injEq] at h1 h2; omega
    rintro k ⟨hk, hk3⟩
    have hJ := Bf.J.run hG hb0 k hk
    have hld := hJ.ld
    have hk4 : k ≤ 3000 := by
      by_cases e : k = 0
      · omega
      · have h1 := hk (k - 1) (by omega)
        have h2 := (Bf.run_more (Ls := lsP p) (s0 := idn p.n.toNat) (show k - 1 ≤ k by omega)).st.length_le
        omega
    have hst : k < (Bf.run (lsP p) (idn p.n.toNat) k).st.length → isSt p ((Bf.run (lsP p) (idn p.n.toNat) k).st.getD k []) := fun h => isSt_J hp hJ (Go.Pm.mem_getD h)
    have hnl := nbrs_length p ((Bf.run (lsP p) (idn p.n.toNat) k).st.getD k [])
    unfold hE exF
    repeat' (first | refine awp_seqK fun K hK => ?_ | (refine awp_regionK 9445003190513025826815 rfl ?_; simp only [List.map_cons, List.map_nil]; simp (maxSteps := 1000000) (dsimp := false) (implicitDefEqProofs := false) (disch := omega) only [wrap64, go_sem]) | (refine awp_regionQK 9445003190513025826815 (by kernel_rfl) (by kernel_rfl) (by kernel_rfl) ?_; simp only [List.map_cons, List.map_nil]; simp (maxSteps := 1000000) (dsimp := false) (implicitDefEqProofs := false) (disch := omega) only [wrap64, go_sem]) | refine awp_block ?_ | (refine awp_skip ?_; simp only [go_sem]) | (refine awp_exit ?_; simp only [go_sem]) | (refine awp_ret ?_; try simp only [go_sem]) | (refine awp_condP rfl ?_; try simp only [go_sem]) | (refine BrP.mk (fun h => ?_) (fun h => ?_) <;> try simp (dsimp := false) (disch := omega) only [wrap64]) | (refine Br.mk (fun h => ?_) (fun h => ?_) <;> try simp (dsimp := false) (disch := omega) only [wrap64]) | refine Ob.mk (by first | omega | (intro _ _; rfl) | trivial | (intros; trivial) | assumption | (intro i hi; have h0 : i = 0 := (by omega); subst h0; first | rfl | trivial) | (intro i hi; have h0 : i = 0 ∨ i = 1 := (by omega); rcases h0 with rfl | rfl <;> rfl) | (intro i hi; have h0 : i = 0 ∨ i = 1 ∨ i = 2 := (by omega); rcases h0 with rfl | rfl | rfl <;> rfl)) ?_ | ((first | ((first | refine atF (f := 69) ?_ | refine atQ (f := 69) ?_); (first | (refine cFII (hac := puzNeighbors_ok p ((Bf.run (lsP p) (idn p.n.toNat) k).st.getD k []) (hst (by omega)) 54 (by omega)) (hK := ?_)) | (refine cQII (hac := puzNeighbors_ok p ((Bf.run (lsP p) (idn p.n.toNat) k).st.getD k []) (hst (by omega)) 54 (by omega)) (hK := ?_))))); simp (maxSteps := 1000000) (dsimp := false) (implicitDefEqProofs := false) (disch := omega) only [wrap64, go_sem]) | apply_assumption -exfalso -symm)
    all_goals (first | (show endQ _ _ _ _ _ _ _; (repeat (rename (∀ (A : Fr) (H : Hp), AWP _ _ _ _ A H → _) => hK; clear hK)); (repeat (rename (Fr → Hp → Prop) => K; clear K))) | (show Exists _; (repeat (rename (∀ (A : Fr) (H : Hp), AWP _ _ _ _ A H → _) => hK; clear hK)); (repeat (rename (Fr → Hp → Prop) => K; clear K))) | skip)
    · have hh : ∀ j, j ≤ k → j < (Bf.run (lsP p) (idn p.n.toNat) j).st.length := fun j hj => by
        by_cases e : j = k
        · subst e; omega
        · exact hk j (by omega)
      have hh' : Hold (∀ j, j ≤ k → j < (Bf.run (lsP p) (idn p.n.toNat) j).st.length) := ⟨hh⟩
      obtain ⟨sk, hsk⟩ : ∃ sk, sk = (Bf.run (lsP p) (idn p.n.toNat) k).st.getD k [] := ⟨_, rfl⟩
      have hnxl := Bf.nx_len (Ls := lsP p) (s0 := idn p.n.toNat) k hk
      rw [← hsk] at hst hnl ⊢
      refine awp_loop (ι := Nat) (fun i => [(56, .v (.int .i64 (i))), (55, .v (.int .i64 ((nbrs p sk).length))), (54, .list false 1 (nbrs p sk).length (cM ints [] (nbrs p sk))), (8, .own 99 0 1 ((Bf.run (lsP p) (idn p.n.toNat) k).rows (lsP p) k i).2.length), (7, .v (.int .i64 (k))), (6, .list false 1 (lets p.m.length).length (cM iv 0 (lets p.m.length))), (5, .ref 32 0), (1, .ref 1 0)]) (fun i => (hE p ((Bf.run (lsP p) (idn p.n.toNat) k).rows (lsP p) k i).1).upd 99 (.cells ((Bf.run (lsP p) (idn p.n.toNat) k).rows (lsP p) k i).2.length (cM iv 0 ((Bf.run (lsP p) (idn p.n.toNat) k).rows (lsP p) k i).2))) (fun i => i ≤ (lsP p).length) (fun i => (lsP p).length - i) 0 (Nat.zero_le _) (Sub.trans (Sub.nil (i := 8) 99 1 (cM iv 0 []) rfl rfl) (Sub.toL (by simp only [go_sem] <;> first | trivial | (simp only [Option.some.injEq, AV.v.injEq, AV.own.injEq, AV.list.injEq, Value.int.injEq, Value.bool.injEq, true_and, and_true]; first | omega | (simp [Bf.rows_zero]; done)) | (simp [Bf.rows_zero]; done) | (simp [Bf.rows_zero]; omega)) (by unfold hE exF; simp only [Bf.rows_zero, go_sem]; repeat' (first | exact Hp.le_emp _ | refine Hp.le_upd rfl ?_)))) ?_
      intro i hi
      obtain ⟨hJ1, hD1, hkl, hrow⟩ := Bf.mid hG hb0 hh hi
      have hx3 := hcl k i hh hi
      have hrl := Bf.rows_len (Ls := lsP p) k (Bf.run (lsP p) (idn p.n.toNat) k) i hi
      have hrn := Bf.rows_nx (Ls := lsP p) k (Bf.run (lsP p) (idn p.n.toNat) k) i hi
      have hpre := (Bf.rows_more (Ls := lsP p) k (Bf.run (lsP p) (idn p.n.toNat) k) i hi).st
      have hrs := fun hi => Bf.rows_succ (Ls := lsP p) k (Bf.run (lsP p) (idn p.n.toNat) k) (j := i) hi
      have hXk : ((Bf.run (lsP p) (idn p.n.toNat) k).rows (lsP p) k i).1.st.getD k [] = sk := by
        rw [hsk]; exact Go.Pm.pre_getD hpre (hh k (Nat.le_refl _)) []
      obtain ⟨⟨X, r⟩, hX⟩ : ∃ X, X = (Bf.run (lsP p) (idn p.n.toNat) k).rows (lsP p) k i := ⟨_, rfl⟩
      rw [← hX] at hJ1 hD1 hkl hrow hx3 hrl hrn hpre hrs hXk ⊢
      dsimp only at hJ1 hD1 hkl hrow hx3 hrl hrn hpre hrs hXk ⊢
      have hnx : X.nx.length = k := by rw [hrn]; exact hnxl
      obtain ⟨y, hy⟩ : ∃ y, y = (nbrs p sk).getD i [] := ⟨_, rfl⟩
      have hyc : i < (lsP p).length → comp (X.st.getD k []) ((lsP p).getD i (0, [])).2 = y := fun h => by
        rw [hXk, lsP_get p i (by omega), hy, nbrs_get p sk i (by omega)]
      have hyl : y.length ≤ 20 ∧ isB y := by
        by_cases e : i < (lsP p).length
        · have h1 := hst (hh'.h k (Nat.le_refl _))
          have h2 := h1.pm
          have hl1 := lets_inL p.m i (by omega)
          have h3 := h2.comp (letP_pm hp.gens hl1)
          rw [← hyc e, hXk, lsP_get p i (by omega)]
          dsimp only
          exact ⟨by have := h3.1; omega, isB_of hp.n20 (fun j hj => h3.2.1 j (by rw [← h3.1]; exact hj))⟩
        · have e2 : y = [] := by rw [hy, List.getD_eq_getElem?_getD, List.getElem?_eq_none (by omega)]; rfl
          rw [e2]
          exact ⟨by simp, fun j hj => absurd hj (Nat.not_lt_zero j)⟩
      have hyB := hyl.2
      have hyl := hyl.1
      have hsB : ∀ s ∈ X.st, isB s := fun s hs => isB_of hp.n20 (hrow s hs).2
      have hk1 := lk_has (xs := X.st) hyB hsB
      have hk2 : y ∈ X.st → _ := fun h => lk_get (xs := X.st) hyB hsB h
      have hla := hJ1.lp
      have hlb := hJ1.lb
      have hld := hJ1.ld
      have hdk := hD1.le k hkl
      have hrr : Hold _ := ⟨hrs⟩
      clear hrow hJ1 hD1 hh hk hJ hrs
      unfold hE exF
      repeat' (first | (refine awp_cutR 19 12 (A' := [(56, .v (.int .i64 (i))), (55, .v (.int .i64 ((nbrs p sk).length))), (54, .list false 1 (nbrs p sk).length (cM ints [] (nbrs p sk))), (8, .own 99 0 1 r.length), (9, .v (.int .i64 (i))), (12, .v (.int .i64 (X.st.length))), (7, .v (.int .i64 (k))), (6, .list false 1 (lets p.m.length).length (cM iv 0 (lets p.m.length))), (5, .ref 32 0), (1, .ref 1 0)]) (H' := (hE p ⟨X.st ++ [y], X.dp, X.pa, X.bl, X.nx⟩).upd 99 (.cells r.length (cM iv 0 r))) (Sub.toLF (by simp only [go_sem] <;> first | trivial | (simp only [Option.some.injEq, AV.v.injEq, AV.own.injEq, AV.list.injEq, Value.int.injEq, Value.bool.injEq, true_and, and_true]; first | omega | (simp; done)) | (simp; done) | (simp; omega)) (by unfold hE exF; exact (leF_upd rfl (.refl _ _ _) (leF_upd rfl (bfE rfl (c9 (by first | rfl | simp [setF, vecF]) (by first | rfl | simp [setF, vecF]) (by first | rfl | simp [setF, vecF]) (by first | rfl | simp [setF, vecF]) (by first | rfl | simp [setF, vecF]) (by first | rfl | simp [setF, vecF]) (by first | rfl | simp [setF, vecF]) (by first | rfl | simp [setF, vecF]) (by first | rfl | simp [setF, vecF]))) (leF_upd rfl (.refl _ _ _) (leF_upd rfl (.refl _ _ _) (leF_upd rfl (.refl _ _ _) (leF_upd rfl (.refl _ _ _) (leF_upd rfl (.refl _ _ _) (leF_upd rfl (bfE (by simp) (fun i hi => by simp only [go_sem]; exact ap_ints X.st y i hi)) (leF_upd rfl (.refl _ _ _) leF_emp id) id) id) id) id) id) id) id) id))) ?_; unfold hE exF; (try dsimp only)) | (refine awp_cutR 20 56 (A' := [(55, .v (.int .i64 ((nbrs p sk).length))), (56, .v (.int .i64 (i))), (54, .list false 1 (nbrs p sk).length (cM ints [] (nbrs p sk))), (8, .own 99 0 1 r.length), (9, .v (.int .i64 (i))), (12, .v (.int .i64 (X.st.length))), (7, .v (.int .i64 (k))), (6, .list false 1 (lets p.m.length).length (cM iv 0 (lets p.m.length))), (5, .ref 32 0), (1, .ref 1 0)]) (H' := (hE p ⟨X.st ++ [y], X.dp ++ [X.dp.getD k 0 + 1], X.pa, X.bl, X.nx⟩).upd 99 (.cells r.length (cM iv 0 r))) (Sub.toLF (by simp only [go_sem] <;> first | trivial | (simp only [Option.some.injEq, AV.v.injEq, AV.own.injEq, AV.list.injEq, Value.int.injEq, Value.bool.injEq, true_and, and_true]; first | omega | (simp; done)) | (simp; done) | (simp; omega)) (by unfold hE exF; exact (leF_upd rfl (.refl _ _ _) (leF_upd rfl (bfE rfl (c9 (by first | rfl | simp [setF, vecF]) (by first | rfl | simp [setF, vecF]) (by first | rfl | simp [setF, vecF]) (by first | rfl | simp [setF, vecF]) (by first | rfl | simp [setF, vecF]) (by first | rfl | simp [setF, vecF]) (by first | rfl | simp [setF, vecF]) (by first | rfl | simp [setF, vecF]) (by first | rfl | simp [setF, vecF]))) (leF_upd rfl (.refl _ _ _) (leF_upd rfl (.refl _ _ _) (leF_upd rfl (.refl _ _ _) (leF_upd rfl (.refl _ _ _) (leF_upd rfl (bfE (by simp) (fun i hi => by first | rfl | (simp only [go_sem]; done) | exact (ap_iv X.dp (X.dp.getD k 0 + 1) _ rfl) i hi)) (leF_upd rfl (.refl _ _ _) (leF_upd rfl (.refl _ _ _) leF_emp id) id) id) id) id) id) id) id) id))) ?_; unfold hE exF; (try dsimp only)) | (refine awp_cutR 21 55 (A' := [(54, .list false 1 (nbrs p sk).length (cM ints [] (nbrs p sk))), (56, .v (.int .i64 (i))), (55, .v (.int .i64 ((nbrs p sk).length))), (8, .own 99 0 1 r.length), (9, .v (.int .i64 (i))), (12, .v (.int .i64 (X.st.length))), (7, .v (.int .i64 (k))), (6, .list false 1 (lets p.m.length).length (cM iv 0 (lets p.m.length))), (5, .ref 32 0), (1, .ref 1 0)]) (H' := (hE p ⟨X.st ++ [y], X.dp ++ [X.dp.getD k 0 + 1], X.pa ++ [(k : Int)], X.bl, X.nx⟩).upd 99 (.cells r.length (cM iv 0 r))) (Sub.toLF (by simp only [go_sem] <;> first | trivial | (simp only [Option.some.injEq, AV.v.injEq, AV.own.injEq, AV.list.injEq, Value.int.injEq, Value.bool.injEq, true_and, and_true]; first | omega | (simp; done)) | (simp; done) | (simp; omega)) (by unfold hE exF; exact (leF_upd rfl (.refl _ _ _) (leF_upd rfl (bfE rfl (c9 (by first | rfl | simp [setF, vecF]) (by first | rfl | simp [setF, vecF]) (by first | rfl | simp [setF, vecF]) (by first | rfl | simp [setF, vecF]) (by first | rfl | simp [setF, vecF]) (by first | rfl | simp [setF, vecF]) (by first | rfl | simp [setF, vecF]) (by first | rfl | simp [setF, vecF]) (by first | rfl | simp [setF, vecF]))) (leF_upd rfl (.refl _ _ _) (leF_upd rfl (.refl _ _ _) (leF_upd rfl (bfE (by simp) (fun i hi => by first | rfl | (simp only [go_sem]; done) | exact (ap_iv X.pa (k : Int) _ rfl) i hi)) (leF_upd rfl (.refl _ _ _) (leF_upd rfl (.refl _ _ _) (leF_upd rfl (.refl _ _ _) (leF_upd rfl (.refl _ _ _) leF_emp id) id) id) id) id) id) id) id) id))) ?_; unfold hE exF; (try dsimp only)) | (refine awp_cutR 22 54 (A' := [(7, .v (.int .i64 (k))), (56, .v (.int .i64 (i))), (55, .v (.int .i64 ((nbrs p sk).length))), (54, .list false 1 (nbrs p sk).length (cM ints [] (nbrs p sk))), (8, .own 99 0 1 r.length), (9, .v (.int .i64 (i))), (12, .v (.int .i64 (X.st.length))), (6, .list false 1 (lets p.m.length).length (cM iv 0 (lets p.m.length))), (5, .ref 32 0), (1, .ref 1 0)]) (H' := (hE p ⟨X.st ++ [y], X.dp ++ [X.dp.getD k 0 + 1], X.pa ++ [(k : Int)], X.bl ++ [(lets p.m.length).getD i 0], X.nx⟩).upd 99 (.cells r.length (cM iv 0 r))) (Sub.toLF (by simp only [go_sem] <;> first | trivial | (simp only [Option.some.injEq, AV.v.injEq, AV.own.injEq, AV.list.injEq, Value.int.injEq, Value.bool.injEq, true_and, and_true]; first | omega | (simp; done)) | (simp; done) | (simp; omega)) (by unfold hE exF; exact (leF_upd rfl (.refl _ _ _) (leF_upd rfl (bfE rfl (c9 (by first | rfl | simp [setF, vecF]) (by first | rfl | simp [setF, vecF]) (by first | rfl | simp [setF, vecF]) (by first | rfl | simp [setF, vecF]) (by first | rfl | simp [setF, vecF]) (by first | rfl | simp [setF, vecF]) (by first | rfl | simp [setF, vecF]) (by first | rfl | simp [setF, vecF]) (by first | rfl | simp [setF, vecF]))) (leF_upd rfl (.refl _ _ _) (leF_upd rfl (bfE (by simp) (fun i hi => by first | rfl | (simp only [go_sem]; done) | exact (ap_iv X.bl ((lets p.m.length).getD i 0) _ rfl) i hi)) (leF_upd rfl (.refl _ _ _) (leF_upd rfl (.refl _ _ _) (leF_upd rfl (.refl _ _ _) (leF_upd rfl (.refl _ _ _) (leF_upd rfl (.refl _ _ _) leF_emp id) id) id) id) id) id) id) id) id))) ?_; unfold hE exF; (try dsimp only)) | (refine Ob.mk (decide_eq_false (by assumption)) ?_) | (refine awp_regionPK (id := 19) 9445003190513025826815 1 14 (by kernel_rfl) (by kernel_rfl) (by kernel_rfl) ?_; simp only [List.map_cons, List.map_nil, opsP, List.take_succ_cons, List.take_zero, List.drop_succ_cons, List.drop_zero]; simp (maxSteps := 1000000) (dsimp := false) (implicitDefEqProofs := false) (disch := omega) only [wrap64, go_sem, kvs_snoc, hy.symm, hk1]) | (refine awp_regionPK (id := 21) 9445003190513025826815 1 10 (by kernel_rfl) (by kernel_rfl) (by kernel_rfl) ?_; simp only [List.map_cons, List.map_nil, opsP, List.take_succ_cons, List.take_zero, List.drop_succ_cons, List.drop_zero]; simp (maxSteps := 1000000) (dsimp := false) (implicitDefEqProofs := false) (disch := omega) only [wrap64, go_sem, kvs_snoc, hy.symm, hk1]) | refine awp_seqK fun K hK => ?_ | (refine awp_regionK 9445003190513025826815 rfl ?_; simp only [List.map_cons, List.map_nil]; simp (maxSteps := 1000000) (dsimp := false) (implicitDefEqProofs := false) (disch := omega) only [wrap64, go_sem, kvs_snoc, hy.symm, hk1]) | (refine awp_regionQK 9445003190513025826815 (by kernel_rfl) (by kernel_rfl) (by kernel_rfl) ?_; simp only [List.map_cons, List.map_nil]; simp (maxSteps := 1000000) (dsimp := false) (implicitDefEqProofs := false) (disch := omega) only [wrap64, go_sem, kvs_snoc, hy.symm, hk1]) | refine awp_block ?_ | (refine awp_skip ?_; simp only [go_sem, kvs_snoc, hy.symm, hk1]) | (refine awp_exit ?_; simp only [go_sem, kvs_snoc, hy.symm, hk1]) | (refine awp_ret ?_; try simp only [go_sem, kvs_snoc, hy.symm, hk1]) | (refine awp_condP rfl ?_; try simp only [go_sem, kvs_snoc, hy.symm, hk1]) | (refine BrP.mk (fun h => ?_) (fun h => ?_) <;> try simp (dsimp := false) (disch := omega) only [wrap64]) | (refine Br.mk (fun h => ?_) (fun h => ?_) <;> try simp (dsimp := false) (disch := omega) only [wrap64]) | refine Ob.mk (by first | omega | (intro _ _; rfl) | trivial | (intros; trivial) | assumption | (intro i hi; have h0 : i = 0 := (by omega); subst h0; first | rfl | trivial) | (intro i hi; have h0 : i = 0 ∨ i = 1 := (by omega); rcases h0 with rfl | rfl <;> rfl) | (intro i hi; have h0 : i = 0 ∨ i = 1 ∨ i = 2 := (by omega); rcases h0 with rfl | rfl | rfl <;> rfl)) ?_ | ((first | ((first | refine atF (f := 103) ?_ | refine atQ (f := 103) ?_); (first | (refine cV (hac := stateKey_ok y (by omega) hyB) (hK := ?_)) | (refine cQV (hac := stateKey_ok y (by omega) hyB) (hK := ?_)))) | ((first | refine atF (f := 97) ?_ | refine atQ (f := 97) ?_); refine cV (hfit := .cons (fits_II rfl trivial rfl rfl) .nil) (hac := lengthII_ok X.st) (hK := ?_))); simp (maxSteps := 1000000) (dsimp := false) (implicitDefEqProofs := false) (disch := omega) only [wrap64, go_sem, kvs_snoc, hy.symm, hk1]) | apply_assumption -exfalso -symm)
      all_goals (first | (show endQ _ _ _ _ _ _ _; (repeat (rename (∀ (A : Fr) (H : Hp), AWP _ _ _ _ A H → _) => hK; clear hK)); (repeat (rename (Fr → Hp → Prop) => K; clear K))) | (show Exists _; (repeat (rename (∀ (A : Fr) (H : Hp), AWP _ _ _ _ A H → _) => hK; clear hK)); (repeat (rename (Fr → Hp → Prop) => K; clear K))) | skip)
      · have e := hrr.h (by omega)
        unfold Bf.meet at e
        dsimp only at e
        rw [hyc (by omega), if_pos (by assumption)] at e
        refine ⟨i + 1, by omega, by omega, ?_⟩
        rw [e, hk2 (by assumption)]
        exact Sub.toL (by simp only [go_sem] <;> first | trivial | (simp only [Option.some.injEq, AV.v.injEq, AV.own.injEq, AV.list.injEq, Value.int.injEq, Value.bool.injEq, true_and, and_true]; first | omega | (simp; done)) | (simp; done) | (simp; omega)) (by (repeat' (first | exact Hp.le_emp _ | exact Hp.le_refl _ | refine Hp.le_upd ?_ ?_)); all_goals (first | rfl | (simp only [go_sem]; first | rfl | (refine cellsE ?_ ?_ <;> (simp)) | (simp))))
      · have e := hrr.h (by omega)
        unfold Bf.meet at e
        dsimp only at e
        rw [hyc (by omega), if_neg (by assumption), lsP_get p i (by omega)] at e
        dsimp only at e
        refine ⟨i + 1, by omega, by omega, ?_⟩
        rw [e]
        exact Sub.toL (by simp only [go_sem] <;> first | trivial | (simp only [Option.some.injEq, AV.v.injEq, AV.own.injEq, AV.list.injEq, Value.int.injEq, Value.bool.injEq, true_and, and_true]; first | omega | (simp; done)) | (simp; done) | (simp; omega)) (by (repeat' (first | exact Hp.le_emp _ | exact Hp.le_refl _ | refine Hp.le_upd ?_ ?_)); all_goals (first | rfl | (simp only [go_sem]; first | rfl | (refine cellsE ?_ ?_ <;> (simp)) | (simp))))
      · have ei : i = (lsP p).length := by omega
        have e1 : Bf.run (lsP p) (idn p.n.toNat) (k + 1) = { X with nx := X.nx ++ [r] } := by
          show Bf.step (lsP p) k _ = _
          unfold Bf.step
          rw [← ei, ← hX, hrn]
        refine ⟨k + 1, ⟨fun j hj => hh'.h j (by omega), by rw [e1]; exact hx3⟩, by omega, ?_⟩
        rw [e1]
        dsimp only
        refine Sub.toFF (fun x => x = 99) (Fr.fit_cons rfl (.refl _) (Fr.fit_cons rfl (.refl _) (Fr.fit_cons rfl (.refl _) (Fr.fit_cons rfl (.refl _) (Fr.fit_nil _))))) ?_
        refine leF_upd rfl ⟨rfl, fun i hi => ?_⟩ (leF_upd rfl ⟨by simp, fun i hi => ?_⟩ (leF_upd rfl (.refl _ _ _) (leF_upd rfl (.refl _ _ _) (leF_upd rfl (.refl _ _ _) (leF_upd rfl (.refl _ _ _) (leF_upd rfl (.refl _ _ _) (leF_upd rfl (.refl _ _ _) leF_emp (by omega)) (by omega)) (by omega)) (by omega)) (by omega)) (by omega)) (by omega)) (by omega)
        · match i, hi with
          | 0, _ => exact .refl _
          | 1, _ => exact .refl _
          | 2, _ => exact .refl _
          | 3, _ => exact .refl _
          | 4, _ => exact .refl _
          | 5, _ => exact .refl _
          | 6, _ => exact .refl _
          | 7, _ => exact .refl _
          | 8, _ => exact .ofEq (by simp [setF, vecF])
        · by_cases hi2 : i < X.nx.length
          · exact .ofEq (by simp [apF, setF, cM, List.getD_eq_getElem?_getD, List.getElem?_append, hi2])
          · have hi3 : i = X.nx.length := by omega
            have e2 : apF X.nx.length (cM ints [] X.nx) (setF (zF [Value.slice none 0 0]) 0 (AV.own 99 0 1 r.length)) i = AV.own 99 0 1 r.length := by subst hi3; simp [apF, setF]
            have e3 : cM ints [] (X.nx ++ [r]) i = ints r := by subst hi3; simp [cM, List.getD_eq_getElem?_getD]
            rw [e2, e3]
            exact fits_I rfl rfl rfl rfl
    · have hdn : Bf.Done (lsP p) (idn p.n.toNat) k := ⟨by
        by_cases e : k = 0
        · have := hJ.ne.2; omega
        · have h1 := hk (k - 1) (by omega)
          have h2 := (Bf.run_more (Ls := lsP p) (s0 := idn p.n.toNat) (show k - 1 ≤ k by omega)).st.length_le
          omega, hk⟩
      have e : XS p = some (Bf.run (lsP p) (idn p.n.toNat) k) := by
        rw [XS_yes hp]
        exact Go.Pm.srch_some ⟨k, hdn, by omega, rfl⟩
      refine end_tup2 (by rfl) (by decide) (sub_fin rfl rfl rfl) (.inl ⟨by rw [e]; rfl, rfl, by rw [XA_some e]⟩)
  · refine end_tup2 (a := .v (.pointer none)) (b := .v (.bool false)) (H' := Hp.emp) (by rfl) (by decide) (Sub.toL (by simp only [go_sem] <;> first | trivial | (simp only [Option.some.injEq, AV.v.injEq, AV.own.injEq, AV.list.injEq, Value.int.injEq, Value.bool.injEq, true_and, and_true]; first | omega | (simp; done)) | (simp; done) | (simp; omega)) (Hp.le_emp _)) (.inr ⟨by rw [cnt_none (by assumption)]; rfl, rfl, rfl⟩)
end Go.Proofs.Ytiihgbobdipikaa
end
/- What the program asks of an exploration: depths, places of states. -/
section
namespace Go.Proofs.Ytiihgbobdipikaa
open Go.Av
set_option linter.unusedSimpArgs false
set_option linter.unusedVariables false
attribute [local irreducible] AWP CallG Ob Br BrP Go.Av.Sub endQ AOps OpV AC thenA blkA opsVC opVC withA withArgs opsQ opQ CallQ withA2 withArgs2
open Go.Pm (Pm comp invp idn img Gen Bf srch sorts srtN Srt slot sidx insAt)
theorem exH_pM {p : Pz} {B : Bf} : ∀ h, exH p B h ≠ none → pM h = true := fun h hh => by
  unfold exH Hp.upd at hh
  split at hh
  · rename_i e; subst e; rfl
  · split at hh
    · rename_i e; subst e; rfl
    · exact absurd rfl hh
theorem exH_ge {p : Pz} {B : Bf} : ∀ h, exH p B h ≠ none → 1000000 ≤ h := fun h hh => by
  unfold exH Hp.upd at hh
  split at hh
  · omega
  · split at hh
    · omega
    · exact absurd rfl hh
theorem exH_scrub (p : Pz) (B : Bf) : (exH p B).scrub (fun h => !liveB (exH p B) h) = exH p B := by
  have h1 : liveB (exH p B) 1000000 = true := rfl
  have h2 : liveB (exH p B) 1000003 = true := rfl
  obtain ⟨q, hq⟩ : ∃ q : Nat → Bool, q = fun h => !liveB (exH p B) h := ⟨_, rfl⟩
  have e2 : q 1000003 = false := by rw [hq]; simp [h2]
  rw [← hq]
  unfold exH exR
  simp only [Hp.scrub_upd, Hp.scrub_emp, Blk.scrub_cells, Blk.scrub_mp, mS_scrub_iv, scF_vecF, List.map_cons, List.map_nil]
  simp only [AV.scrub, e2, Bool.false_eq_true, if_false]
theorem tup2_scrub (q : Nat → Bool) (a b : Value) : (AV.tup 2 (vecF [.v a, .v b])).scrub q = .tup 2 (vecF [.v a, .v b]) := by
  simp only [scrub_tup, scF_vecF, List.map_cons, List.map_nil, scrub_v]
section
variable {P : Program} {N : Cx} {A : Fr} {H : Hp}
/-- A call of explore. -/
theorem callE {f : FuncId} {args : List AV} {p : Pz} {pn : Nat → Bool} {K : AV → Fr → Hp → Prop} (hac : AC P f args Hp.emp pn (postE p)) (hpn : N.pn = fun _ => false)
    (h1 : (XS p).isSome = true → K (.tup 2 (vecF [.ref 1000000 0, .v (.bool (true))])) (A.scrub pM) (((H.scrub pM).upd 1000000 (.cells 9 (vecF [.v (.int .i64 (p.n)), .v (.string (p.s)), .list false 1 (p.m).length (cM ints [] (p.m)), .list false 1 ((XA p).st).length (cM ints [] ((XA p).st)), .list false 1 ((XA p).dp).length (cM iv 0 ((XA p).dp)), .map 1000003, .dead, .dead, .list false 1 ((XA p).nx).length (cM ints [] ((XA p).nx))]))).upd 1000003 (.mp (mS iv (kvs (XA p).st)))))
    (h2 : (XS p).isSome = false → K (.tup 2 (vecF [.v (.pointer none), .v (.bool (false))])) (A.scrub pM) (H.scrub pM)) : CallG P N f args A H K := by
  refine callHp hac hpn fun r H' hp => ?_
  rcases hp with ⟨hs, rfl, rfl⟩ | ⟨hs, rfl, rfl⟩
  · refine ⟨exH_ge, ?_, exH_scrub p _, ?_⟩
    · have e : liveB (exH p (XA p)) 1000000 = true := rfl
      rw [scrub_tup, scF_vecF]
      simp only [List.map_cons, List.map_nil, AV.scrub, e, Bool.not_true, Bool.false_eq_true, if_false]
    · have e : (exH p (XA p)).add (H.scrub pM) = ((H.scrub pM).upd 1000000 (.cells 9 (exR p (XA p)))).upd 1000003 (.mp (mS iv (kvs (XA p).st))) := by unfold exH; rw [upd_add, upd_add, emp_add]
      rw [e]; exact h1 hs
  · exact ⟨fun h hh => absurd rfl hh, tup2_scrub _ _ _, rfl, h2 hs⟩
end
theorem fits_p9 {H : Hp} {D : Nat → Prop} {p : Pz} {g : Nat → AV} (h0 : g 0 = .v (.int .i64 (p.n))) (h1 : g 1 = .v (.string (p.s))) (h2 : g 2 = .list false 1 (p.m).length (cM ints [] (p.m))) : Fits H D (.agg 3 g) (pz p) := by
  refine .agg fun i hi => ?_
  match i, hi with
  | 0, _ => rw [h0]; exact .refl _
  | 1, _ => rw [h1]; exact .refl _
  | 2, _ => rw [h2]; exact .refl _
theorem lk_none {y : List Int} {xs : List (List Int)} (hy : isB y) (h : ∀ s ∈ xs, isB s) (hm : y ∉ xs) : (lkO (keyB y) (kvs xs)).getD 0 = 0 := by
  unfold kvs; rw [lk_kvsN hy xs 0 h, if_neg hm]; rfl
/-- Where a state stands, or nought. -/
def fdI (p : Pz) (B : Bf) (s : List Int) : Int := if isSt p s ∧ s ∈ B.st then B.st.idxOf s else 0
theorem find_ok (p : Pz) (B : Bf) (s : List Int) (hp : isPz p) (hB : ∀ s ∈ B.st, isB s) : AC Try.prog 68 [.ref 1000000 0, ints s] (exH p B) pM (fun r H => r = .tup 2 (vecF [.v (.int .i64 (fdI p B s)), .v (.bool (decide (isSt p s ∧ s ∈ B.st)))]) ∧ H = exH p B) := by
  have hy : ((s.length : Int) = p.n ∧ isPerm s) → s.length ≤ 20 ∧ isB s := fun h => by
    have h1 := (isPerm_pm s).1 h.2
    exact ⟨h1.1.2, isB_of h1.1.2 (fun j hj => h1.2.2.1 j hj)⟩
  have hk1 := fun h => lk_has (xs := B.st) (hy h).2 hB
  refine ac_of_awp (N := ⟨_, pM, fun h hh => pM_low (Nat.lt_of_lt_of_le hh (by decide))⟩) Try.func68 rfl (by kernel_rfl) Try.ntmps68 (by simp) ?_
  simp only [argsFr, List.zipIdx_cons, List.zipIdx_nil, go_sem]
  unfold exH exR
  repeat' (first | refine awp_seqK fun K hK => ?_ | (refine awp_regionK 16627 rfl ?_; simp only [List.map_cons, List.map_nil]; simp (maxSteps := 1000000) (dsimp := false) (implicitDefEqProofs := false) (disch := omega) only [wrap64, go_sem, hk1]) | (refine awp_regionQK 16627 (by kernel_rfl) (by kernel_rfl) (by kernel_rfl) ?_; simp only [List.map_cons, List.map_nil]; simp (maxSteps := 1000000) (dsimp := false) (implicitDefEqProofs := false) (disch := omega) only [wrap64, go_sem, hk1]) | refine awp_block ?_ | (refine awp_skip ?_; simp only [go_sem, hk1]) | (refine awp_exit ?_; simp only [go_sem, hk1]) | (refine awp_ret ?_; try simp only [go_sem, hk1]) | (refine awp_condP rfl ?_; try simp only [go_sem, hk1]) | (refine BrP.mk (fun h => ?_) (fun h => ?_) <;> try simp (dsimp := false) (disch := omega) only [wrap64]) | (refine Br.mk (fun h => ?_) (fun h => ?_) <;> try simp (dsimp := false) (disch := omega) only [wrap64]) | refine Ob.mk (by first | omega | (intro _ _; rfl) | trivial | (intros; trivial) | assumption | (intro i hi; have h0 : i = 0 := (by omega); subst h0; first | rfl | trivial) | (intro i hi; have h0 : i = 0 ∨ i = 1 := (by omega); rcases h0 with rfl | rfl <;> rfl) | (intro i hi; have h0 : i = 0 ∨ i = 1 ∨ i = 2 := (by omega); rcases h0 with rfl | rfl | rfl <;> rfl)) ?_ | ((first | ((first | refine atF (f := 82) ?_ | refine atQ (f := 82) ?_); refine cV (hfit := .cons (fits_p9 rfl rfl rfl) (.cons (.refl _) .nil)) (hac := puzIsState_ok p s) (hK := ?_)) | ((first | refine atF (f := 103) ?_ | refine atQ (f := 103) ?_); (first | (refine cV (hac := stateKey_ok s (by have := hy (by assumption); omega) (hy (by assumption)).2) (hK := ?_)) | (refine cQV (hac := stateKey_ok s (by have := hy (by assumption); omega) (hy (by assumption)).2) (hK := ?_))))); simp (maxSteps := 1000000) (dsimp := false) (implicitDefEqProofs := false) (disch := omega) only [wrap64, go_sem, hk1]) | apply_assumption -exfalso -symm)
  all_goals (first | (show endQ _ _ _ _ _ _ _; (repeat (rename (∀ (A : Fr) (H : Hp), AWP _ _ _ _ A H → _) => hK; clear hK)); (repeat (rename (Fr → Hp → Prop) => K; clear K))) | (show Exists _; (repeat (rename (∀ (A : Fr) (H : Hp), AWP _ _ _ _ A H → _) => hK; clear hK)); (repeat (rename (Fr → Hp → Prop) => K; clear K))) | skip)
  · refine end_tup2 rfl (by decide) (Sub.toL (by simp only [go_sem] <;> first | trivial | (simp only [Option.some.injEq, AV.v.injEq, AV.own.injEq, AV.list.injEq, Value.int.injEq, Value.bool.injEq, true_and, and_true]; first | omega | (simp; done)) | (simp; done) | (simp; omega)) (Hp.le_refl _)) ⟨?_, rfl⟩
    have e1 : (isSt p s ∧ s ∈ B.st) = (s ∈ B.st) := propext ⟨fun h => h.2, fun h => ⟨⟨hp, by assumption⟩, h⟩⟩
    rw [show decide (isSt p s ∧ s ∈ B.st) = decide (s ∈ B.st) from by simp only [e1]]
    unfold fdI
    simp only [e1]
    split
    · rw [lk_get (hy (by assumption)).2 hB (by assumption)]
    · rw [lk_none (hy (by assumption)).2 hB (by assumption)]
  · refine end_tup2 rfl (by decide) (Sub.toL (by simp only [go_sem] <;> first | trivial | (simp only [Option.some.injEq, AV.v.injEq, AV.own.injEq, AV.list.injEq, Value.int.injEq, Value.bool.injEq, true_and, and_true]; first | omega | (simp; done)) | (simp; done) | (simp; omega)) (Hp.le_refl _)) ⟨?_, rfl⟩
    have e1 : ¬ (isSt p s ∧ s ∈ B.st) := fun h => absurd h.1.2 (by assumption)
    unfold fdI
    rw [if_neg e1, decide_eq_false e1]
/-- What comes of exploring, with the place of a state. -/
def postS (p : Pz) (s : List Int) (r : AV) (H : Hp) : Prop := ((XS p).isSome = true ∧ r = .tup 3 (vecF [.ref 1000000 0, .v (.int .i64 (fdI p (XA p) s)), .v (.bool (decide (isSt p s ∧ s ∈ (XA p).st)))]) ∧ H = exH p (XA p)) ∨ ((XS p).isSome = false ∧ r = .tup 3 (vecF [.v (.pointer none), .v (.int .i64 (0)), .v (.bool (false))]) ∧ H = Hp.emp)
theorem XA_isB {p : Pz} (h : (XS p).isSome = true) : ∀ s ∈ (XA p).st, isB s := fun s hs => by
  obtain ⟨h1, h2, _⟩ := XA_whole h
  exact isB_of h1.n20 (h2.rng s hs)
theorem exploreState_ok (p : Pz) (s : List Int) (hs0 : p.s.size ≤ 140737488355328) : AC Try.prog 51 [pz p, ints s] Hp.emp (fun _ => false) (postS p s) := by
  have hf := fun h : (XS p).isSome = true => find_ok p (XA p) s (XA_whole h).1 (XA_isB h)
  refine ac_of_awp (N := ⟨_, fun _ => false, fun _ _ => rfl⟩) Try.func51 rfl (by kernel_rfl) Try.ntmps51 (by simp) ?_
  simp only [argsFr, List.zipIdx_cons, List.zipIdx_nil, go_sem]
  repeat' (first | ((first | refine atF (f := 64) ?_ | refine atQ (f := 64) ?_); refine callE (explore_ok p hs0) rfl (fun hX => ?_) (fun hX => ?_) <;> simp (maxSteps := 1000000) (dsimp := false) (implicitDefEqProofs := false) (disch := omega) only [wrap64, go_sem, pM_low]) | refine awp_seqK fun K hK => ?_ | (refine awp_regionK 66551 rfl ?_; simp only [List.map_cons, List.map_nil]; simp (maxSteps := 1000000) (dsimp := false) (implicitDefEqProofs := false) (disch := omega) only [wrap64, go_sem, pM_low]) | (refine awp_regionQK 66551 (by kernel_rfl) (by kernel_rfl) (by kernel_rfl) ?_; simp only [List.map_cons, List.map_nil]; simp (maxSteps := 1000000) (dsimp := false) (implicitDefEqProofs := false) (disch := omega) only [wrap64, go_sem, pM_low]) | refine awp_block ?_ | (refine awp_skip ?_; simp only [go_sem, pM_low]) | (refine awp_exit ?_; simp only [go_sem, pM_low]) | (refine awp_ret ?_; try simp only [go_sem, pM_low]) | (refine awp_condP rfl ?_; try simp only [go_sem, pM_low]) | (refine BrP.mk (fun h => ?_) (fun h => ?_) <;> try simp (dsimp := false) (disch := omega) only [wrap64]) | (refine Br.mk (fun h => ?_) (fun h => ?_) <;> try simp (dsimp := false) (disch := omega) only [wrap64]) | refine Ob.mk (by first | omega | (intro _ _; rfl) | trivial | (intros; trivial) | assumption | (intro i hi; have h0 : i = 0 := (by omega); subst h0; first | rfl | trivial) | (intro i hi; have h0 : i = 0 ∨ i = 1 := (by omega); rcases h0 with rfl | rfl <;> rfl) | (intro i hi; have h0 : i = 0 ∨ i = 1 ∨ i = 2 := (by omega); rcases h0 with rfl | rfl | rfl <;> rfl)) ?_ | ((first | ((first | refine atF (f := 68) ?_ | refine atQ (f := 68) ?_); refine callPn (Hin := exH p (XA p)) (by unfold exH exR; repeat' (first | exact Hp.le_emp _ | refine Hp.le_upd rfl ?_)) (hf (by assumption)) exH_pM (tup2_scrub _ _ _) (exH_scrub _ _) ?_)); simp (maxSteps := 1000000) (dsimp := false) (implicitDefEqProofs := false) (disch := omega) only [wrap64, go_sem, pM_low]) | apply_assumption -exfalso -symm)
  all_goals (first | (show endQ _ _ _ _ _ _ _; (repeat (rename (∀ (A : Fr) (H : Hp), AWP _ _ _ _ A H → _) => hK; clear hK)); (repeat (rename (Fr → Hp → Prop) => K; clear K))) | (show Exists _; (repeat (rename (∀ (A : Fr) (H : Hp), AWP _ _ _ _ A H → _) => hK; clear hK)); (repeat (rename (Fr → Hp → Prop) => K; clear K))) | skip)
  · refine end_tup3 rfl (by decide) (by decide) (by decide) (Sub.toL (by simp only [go_sem] <;> first | trivial | (simp only [Option.some.injEq, AV.v.injEq, AV.own.injEq, AV.list.injEq, Value.int.injEq, Value.bool.injEq, true_and, and_true]; first | omega | (simp; done)) | (simp; done) | (simp; omega)) ?_) (.inl ⟨by assumption, rfl, rfl⟩)
    unfold exH exR; repeat' (first | exact Hp.le_emp _ | refine Hp.le_upd rfl ?_)
  · exact end_tup3 rfl (by decide) (by decide) (by decide) (Sub.toL (by simp only [go_sem] <;> first | trivial | (simp only [Option.some.injEq, AV.v.injEq, AV.own.injEq, AV.list.injEq, Value.int.injEq, Value.bool.injEq, true_and, and_true]; first | omega | (simp; done)) | (simp; done) | (simp; omega)) (Hp.le_emp _)) (.inr ⟨by assumption, rfl, rfl⟩)
section
variable {P : Program} {N : Cx} {A : Fr} {H : Hp}
/-- A call of exploreState. -/
theorem callS3 {f : FuncId} {args : List AV} {p : Pz} {s : List Int} {pn : Nat → Bool} {K : AV → Fr → Hp → Prop} (hac : AC P f args Hp.emp pn (postS p s)) (hpn : N.pn = fun _ => false)
    (h1 : (XS p).isSome = true → K (.tup 3 (vecF [.ref 1000000 0, .v (.int .i64 (fdI p (XA p) s)), .v (.bool (decide (isSt p s ∧ s ∈ (XA p).st)))])) (A.scrub pM) (((H.scrub pM).upd 1000000 (.cells 9 (vecF [.v (.int .i64 (p.n)), .v (.string (p.s)), .list false 1 (p.m).length (cM ints [] (p.m)), .list false 1 ((XA p).st).length (cM ints [] ((XA p).st)), .list false 1 ((XA p).dp).length (cM iv 0 ((XA p).dp)), .map 1000003, .dead, .dead, .list false 1 ((XA p).nx).length (cM ints [] ((XA p).nx))]))).upd 1000003 (.mp (mS iv (kvs (XA p).st)))))
    (h2 : (XS p).isSome = false → K (.tup 3 (vecF [.v (.pointer none), .v (.int .i64 (0)), .v (.bool (false))])) (A.scrub pM) (H.scrub pM)) : CallG P N f args A H K := by
  refine callHp hac hpn fun r H' hp => ?_
  rcases hp with ⟨hs, rfl, rfl⟩ | ⟨hs, rfl, rfl⟩
  · refine ⟨exH_ge, ?_, exH_scrub p _, ?_⟩
    · have e : liveB (exH p (XA p)) 1000000 = true := rfl
      rw [scrub_tup, scF_vecF]
      simp only [List.map_cons, List.map_nil, AV.scrub, e, Bool.not_true, Bool.false_eq_true, if_false]
    · have e : (exH p (XA p)).add (H.scrub pM) = ((H.scrub pM).upd 1000000 (.cells 9 (exR p (XA p)))).upd 1000003 (.mp (mS iv (kvs (XA p).st))) := by unfold exH; rw [upd_add, upd_add, emp_add]
      rw [e]; exact h1 hs
  · exact ⟨fun h hh => absurd rfl hh, by simp only [scrub_tup, scF_vecF, List.map_cons, List.map_nil, scrub_v], rfl, h2 hs⟩
end
theorem implDistance_ok (p : Pz) (s : List Int) (hs0 : p.s.size ≤ 140737488355328) : AC Try.prog 17 [pz p, ints s] Hp.emp (fun _ => false) (retV (.v (.int .i64 (dstP p s)))) := by
  obtain ⟨hb1, hb2⟩ := XA_basic p
  have hlt : s ∈ (XA p).st → (XA p).st.idxOf s < (XA p).st.length := List.idxOf_lt_length_iff.2
  have hfb : (XS p).isSome = true → 0 ≤ fdI p (XA p) s ∧ fdI p (XA p) s < ((XA p).dp.length : Int) := fun h => by
    have := (XA_whole h).2.1.pos
    unfold fdI
    split
    · have := hlt (by rename_i h; exact h.2); omega
    · omega
  have hfd : isSt p s ∧ s ∈ (XA p).st → fdI p (XA p) s = (XA p).st.idxOf s := fun h => if_pos h
  refine ac_of_awp (N := ⟨_, fun _ => false, fun _ _ => rfl⟩) Try.func17 rfl (by kernel_rfl) Try.ntmps17 (by simp) ?_
  simp only [argsFr, List.zipIdx_cons, List.zipIdx_nil, go_sem]
  repeat' (first | (refine Ob.mk (by have := hfb (by assumption); omega) ?_) | ((first | refine atF (f := 51) ?_ | refine atQ (f := 51) ?_); refine callS3 (exploreState_ok p s hs0) rfl (fun hX => ?_) (fun hX => ?_) <;> simp (maxSteps := 1000000) (dsimp := false) (implicitDefEqProofs := false) (disch := omega) only [wrap64, go_sem, pM_low]) | refine awp_seqK fun K hK => ?_ | (refine awp_regionK 65783 rfl ?_; simp only [List.map_cons, List.map_nil]; simp (maxSteps := 1000000) (dsimp := false) (implicitDefEqProofs := false) (disch := omega) only [wrap64, go_sem, pM_low]) | (refine awp_regionQK 65783 (by kernel_rfl) (by kernel_rfl) (by kernel_rfl) ?_; simp only [List.map_cons, List.map_nil]; simp (maxSteps := 1000000) (dsimp := false) (implicitDefEqProofs := false) (disch := omega) only [wrap64, go_sem, pM_low]) | refine awp_block ?_ | (refine awp_skip ?_; simp only [go_sem, pM_low]) | (refine awp_exit ?_; simp only [go_sem, pM_low]) | (refine awp_ret ?_; try simp only [go_sem, pM_low]) | (refine awp_condP rfl ?_; try simp only [go_sem, pM_low]) | (refine BrP.mk (fun h => ?_) (fun h => ?_) <;> try simp (dsimp := false) (disch := omega) only [wrap64]) | (refine Br.mk (fun h => ?_) (fun h => ?_) <;> try simp (dsimp := false) (disch := omega) only [wrap64]) | refine Ob.mk (by first | omega | (intro _ _; rfl) | trivial | (intros; trivial) | assumption | (intro i hi; have h0 : i = 0 := (by omega); subst h0; first | rfl | trivial) | (intro i hi; have h0 : i = 0 ∨ i = 1 := (by omega); rcases h0 with rfl | rfl <;> rfl) | (intro i hi; have h0 : i = 0 ∨ i = 1 ∨ i = 2 := (by omega); rcases h0 with rfl | rfl | rfl <;> rfl)) ?_ | apply_assumption -exfalso -symm)
  all_goals (first | (show endQ _ _ _ _ _ _ _; (repeat (rename (∀ (A : Fr) (H : Hp), AWP _ _ _ _ A H → _) => hK; clear hK)); (repeat (rename (Fr → Hp → Prop) => K; clear K))) | (show Exists _; (repeat (rename (∀ (A : Fr) (H : Hp), AWP _ _ _ _ A H → _) => hK; clear hK)); (repeat (rename (Fr → Hp → Prop) => K; clear K))) | skip)
  · refine end_retN rfl rfl ?_
    have h1 := (by assumption : isSt p s ∧ s ∈ (XA p).st)
    rw [hfd h1]
    unfold dstP depD
    rw [if_pos ⟨by assumption, h1.1⟩, if_pos h1.2]; rfl
  · refine end_retN rfl rfl ?_
    have h1 := (by assumption : ¬ (isSt p s ∧ s ∈ (XA p).st))
    unfold dstP depD
    by_cases e : isSt p s
    · rw [if_pos ⟨by assumption, e⟩, if_neg (fun h => h1 ⟨e, h⟩)]
    · rw [if_neg (fun h => e h.2)]
  · refine end_retN rfl rfl ?_
    have h1 := (by assumption : (XS p).isSome = false)
    unfold dstP
    rw [if_neg (fun h => by rw [h1] at h; simp at h)]
end Go.Proofs.Ytiihgbobdipikaa
end
/- How many states lie at each depth. -/
section
namespace Go.Proofs.Ytiihgbobdipikaa
open Go.Av
set_option linter.unusedSimpArgs false
set_option linter.unusedVariables false
attribute [local irreducible] AWP CallG Ob Br BrP Go.Av.Sub endQ AOps OpV AC thenA blkA opsVC opVC withA withArgs opsQ opQ CallQ withA2 withArgs2
open Go.Pm (Pm comp invp idn img Gen Bf srch sorts srtN Srt slot sidx insAt)
/-- How often each of the first n numbers stands in a row. -/
def hst (dp : List Int) (n : Nat) : List Int := (List.range n).map fun d => ((dp.count ((d : Nat) : Int) : Nat) : Int)
end Go.Proofs.Ytiihgbobdipikaa
end
/- From one state to another. -/
section
namespace Go.Proofs.Ytiihgbobdipikaa
open Go.Av
set_option linter.unusedSimpArgs false
set_option linter.unusedVariables false
attribute [local irreducible] AWP CallG Ob Br BrP Go.Av.Sub endQ AOps OpV AC thenA blkA opsVC opVC withA withArgs opsQ opQ CallQ withA2 withArgs2
open Go.Pm (Pm comp invp idn img Gen Bf srch sorts srtN Srt slot sidx insAt)
theorem XA_mem {p : Pz} (h : (XS p).isSome = true) (s : List Int) : s ∈ (XA p).st ↔ Gen p.n.toNat ((lsP p).map (·.2)) s := by
  obtain ⟨B, hB⟩ := Option.isSome_iff_exists.1 h
  have hz := XS_pz hB
  rw [XA_some hB]
  rw [XS_yes hz] at hB
  obtain ⟨K, h1, h2, rfl⟩ := Go.Pm.srch_fin hB
  rw [h1.mem (lsP_pm hz) (idn_in _)]
  constructor
  · rintro ⟨g, hg, rfl⟩
    rw [(hg.pm (lsP_pm hz)).idn_comp]; exact hg
  · intro hg
    exact ⟨s, hg, ((hg.pm (lsP_pm hz)).idn_comp).symm⟩
theorem XA_btw {p : Pz} (h : (XS p).isSome = true) {a b : List Int} (ha : a ∈ (XA p).st) (hb : b ∈ (XA p).st) : comp (invp b) a ∈ (XA p).st := by
  have hz := (XA_whole h).1
  rw [XA_mem h] at ha hb ⊢
  exact (Gen.inv (lsP_pm hz) hb).prod (lsP_pm hz) ha
/-- Both states are among those that can be reached. -/
def okB (p : Pz) (a b : List Int) : Prop := (XS p).isSome = true ∧ isSt p a ∧ isSt p b ∧ a ∈ (XA p).st ∧ b ∈ (XA p).st
noncomputable instance (p : Pz) (a b : List Int) : Decidable (okB p a b) := by unfold okB; infer_instance
theorem btw_st {p : Pz} {a b : List Int} (h : okB p a b) : isSt p (comp (invp b) a) := by
  have hn := h.2.1.1.n
  have h1 := h.2.2.1.pm.inv.comp h.2.1.pm
  exact ⟨h.2.1.1, by rw [h1.1]; omega, (isPerm_pm _).2 ⟨by rw [h1.1]; omega, by rw [h1.1]; exact h1⟩⟩
theorem at_ok (p : Pz) (B : Bf) (s : List Int) (hB : ∀ s ∈ B.st, isB s) (hs : s ∈ B.st) (hl : s.length ≤ 20) : AC Try.prog 91 [.ref 1000000 0, ints s] (exH p B) pM (fun r H => r = .v (.int .i64 (((B.st.idxOf s : Nat) : Int))) ∧ H = exH p B) := by
  have hk := lk_get (xs := B.st) (hB s hs) hB hs
  refine ac_of_awp (N := ⟨_, pM, fun h hh => pM_low (Nat.lt_of_lt_of_le hh (by decide))⟩) Try.func91 rfl (by kernel_rfl) Try.ntmps91 (by simp) ?_
  simp only [argsFr, List.zipIdx_cons, List.zipIdx_nil, go_sem]
  unfold exH exR
  repeat' (first | refine awp_seqK fun K hK => ?_ | (refine awp_regionK 19 rfl ?_; simp only [List.map_cons, List.map_nil]; simp (maxSteps := 1000000) (dsimp := false) (implicitDefEqProofs := false) (disch := omega) only [wrap64, go_sem, hk]) | (refine awp_regionQK 19 (by kernel_rfl) (by kernel_rfl) (by kernel_rfl) ?_; simp only [List.map_cons, List.map_nil]; simp (maxSteps := 1000000) (dsimp := false) (implicitDefEqProofs := false) (disch := omega) only [wrap64, go_sem, hk]) | refine awp_block ?_ | (refine awp_skip ?_; simp only [go_sem, hk]) | (refine awp_exit ?_; simp only [go_sem, hk]) | (refine awp_ret ?_; try simp only [go_sem, hk]) | (refine awp_condP rfl ?_; try simp only [go_sem, hk]) | (refine BrP.mk (fun h => ?_) (fun h => ?_) <;> try simp (dsimp := false) (disch := omega) only [wrap64]) | (refine Br.mk (fun h => ?_) (fun h => ?_) <;> try simp (dsimp := false) (disch := omega) only [wrap64]) | refine Ob.mk (by first | omega | (intro _ _; rfl) | trivial | (intros; trivial) | assumption | (intro i hi; have h0 : i = 0 := (by omega); subst h0; first | rfl | trivial) | (intro i hi; have h0 : i = 0 ∨ i = 1 := (by omega); rcases h0 with rfl | rfl <;> rfl) | (intro i hi; have h0 : i = 0 ∨ i = 1 ∨ i = 2 := (by omega); rcases h0 with rfl | rfl | rfl <;> rfl)) ?_ | ((first | ((first | refine atF (f := 103) ?_ | refine atQ (f := 103) ?_); (first | (refine cV (hac := stateKey_ok s (by omega) (hB s hs)) (hK := ?_)) | (refine cQV (hac := stateKey_ok s (by omega) (hB s hs)) (hK := ?_))))); simp (maxSteps := 1000000) (dsimp := false) (implicitDefEqProofs := false) (disch := omega) only [wrap64, go_sem, hk]) | apply_assumption -exfalso -symm)
  all_goals (first | (show endQ _ _ _ _ _ _ _; (repeat (rename (∀ (A : Fr) (H : Hp), AWP _ _ _ _ A H → _) => hK; clear hK)); (repeat (rename (Fr → Hp → Prop) => K; clear K))) | (show Exists _; (repeat (rename (∀ (A : Fr) (H : Hp), AWP _ _ _ _ A H → _) => hK; clear hK)); (repeat (rename (Fr → Hp → Prop) => K; clear K))) | skip)
  · refine end_post rfl rfl (Hp.le_refl _) ?_
    exact ⟨rfl, rfl⟩
noncomputable def dbtP (p : Pz) (a b : List Int) : Int := if okB p a b then dstP p (comp (invp b) a) else -1
def postB (p : Pz) (a b : List Int) (r : AV) (H : Hp) : Prop := (okB p a b ∧ r = .tup 3 (vecF [.ref 1000000 0, .v (.int .i64 ((((XA p).st.idxOf (comp (invp b) a) : Nat) : Int))), .v (.bool (true))]) ∧ H = exH p (XA p)) ∨ (¬ okB p a b ∧ r = .tup 3 (vecF [.v (.pointer none), .v (.int .i64 (0)), .v (.bool (false))]) ∧ H = Hp.emp)
theorem between_ok (p : Pz) (a b : List Int) (hs0 : p.s.size ≤ 140737488355328) : AC Try.prog 46 [pz p, ints a, ints b] Hp.emp (fun _ => false) (postB p a b) := by
  have hf := fun h : (XS p).isSome = true => find_ok p (XA p) b (XA_whole h).1 (XA_isB h)
  have hbl : isSt p b ∧ b ∈ (XA p).st → b.length ≤ 20 ∧ Pm b.length b := fun h => by
    have h1 := (isPerm_pm b).1 h.1.2.2
    exact ⟨h1.1.2, h1.2⟩
  have hbi : isSt p a ∧ a ∈ (XA p).st → isSt p b ∧ b ∈ (XA p).st → (invp b).length ≤ 20 ∧ (∀ j, j < (invp b).length → 0 ≤ (invp b).getD j 0 ∧ (invp b).getD j 0 < a.length) := fun k h => by
    have h1 := h.1.pm.inv
    have hn := h.1.1.n
    have := k.1.len
    exact ⟨by rw [h1.1]; omega, fun j hj => by rw [this]; exact h1.2.1 j (by rw [← h1.1]; exact hj)⟩
  have hok : (XS p).isSome = true → isSt p a ∧ a ∈ (XA p).st → isSt p b ∧ b ∈ (XA p).st → okB p a b := fun h1 h2 h3 => ⟨h1, h2.1, h3.1, h2.2, h3.2⟩
  have hat : (XS p).isSome = true → isSt p a ∧ a ∈ (XA p).st → isSt p b ∧ b ∈ (XA p).st → AC Try.prog 91 [.ref 1000000 0, ints (comp (invp b) a)] (exH p (XA p)) pM (fun r H => r = .v (.int .i64 ((((XA p).st.idxOf (comp (invp b) a) : Nat) : Int))) ∧ H = exH p (XA p)) := fun h1 h2 h3 => by
    have h4 := btw_st (hok h1 h2 h3)
    have := h4.len
    have := h4.1.n20
    exact at_ok p (XA p) _ (XA_isB h1) (XA_btw h1 h2.2 h3.2) (by omega)
  refine ac_of_awp (N := ⟨_, fun _ => false, fun _ _ => rfl⟩) Try.func46 rfl (by kernel_rfl) Try.ntmps46 (by simp) ?_
  simp only [argsFr, List.zipIdx_cons, List.zipIdx_nil, go_sem]
  repeat' (first | ((first | refine atF (f := 51) ?_ | refine atQ (f := 51) ?_); refine callS3 (exploreState_ok p a hs0) rfl (fun hX => ?_) (fun hX => ?_) <;> simp (maxSteps := 1000000) (dsimp := false) (implicitDefEqProofs := false) (disch := omega) only [wrap64, go_sem, pM_low]) | refine awp_seqK fun K hK => ?_ | (refine awp_regionK 1077947343 rfl ?_; simp only [List.map_cons, List.map_nil]; simp (maxSteps := 1000000) (dsimp := false) (implicitDefEqProofs := false) (disch := omega) only [wrap64, go_sem, pM_low]) | (refine awp_regionQK 1077947343 (by kernel_rfl) (by kernel_rfl) (by kernel_rfl) ?_; simp only [List.map_cons, List.map_nil]; simp (maxSteps := 1000000) (dsimp := false) (implicitDefEqProofs := false) (disch := omega) only [wrap64, go_sem, pM_low]) | refine awp_block ?_ | (refine awp_skip ?_; simp only [go_sem, pM_low]) | (refine awp_exit ?_; simp only [go_sem, pM_low]) | (refine awp_ret ?_; try simp only [go_sem, pM_low]) | (refine awp_condP rfl ?_; try simp only [go_sem, pM_low]) | (refine BrP.mk (fun h => ?_) (fun h => ?_) <;> try simp (dsimp := false) (disch := omega) only [wrap64]) | (refine Br.mk (fun h => ?_) (fun h => ?_) <;> try simp (dsimp := false) (disch := omega) only [wrap64]) | refine Ob.mk (by first | omega | (intro _ _; rfl) | trivial | (intros; trivial) | assumption | (intro i hi; have h0 : i = 0 := (by omega); subst h0; first | rfl | trivial) | (intro i hi; have h0 : i = 0 ∨ i = 1 := (by omega); rcases h0 with rfl | rfl <;> rfl) | (intro i hi; have h0 : i = 0 ∨ i = 1 ∨ i = 2 := (by omega); rcases h0 with rfl | rfl | rfl <;> rfl)) ?_ | ((first | ((first | refine atF (f := 68) ?_ | refine atQ (f := 68) ?_); refine callPn (Hin := exH p (XA p)) (by unfold exH exR; repeat' (first | exact Hp.le_emp _ | refine Hp.le_upd rfl ?_)) (hf (by assumption)) exH_pM (tup2_scrub _ _ _) (exH_scrub _ _) ?_) | ((first | refine atF (f := 93) ?_ | refine atQ (f := 93) ?_); (first | (refine cFI (hac := implInverse_ok b (by have := hbl (by assumption); omega) (hbl (by assumption)).2 34) (hK := ?_)) | (refine cQI (hac := implInverse_ok b (by have := hbl (by assumption); omega) (hbl (by assumption)).2 34) (hK := ?_)))) | ((first | refine atF (f := 92) ?_ | refine atQ (f := 92) ?_); (first | (refine cFI (hac := implCompose_ok (invp b) a (by have := hbi (by assumption) (by assumption); omega) (hbi (by assumption) (by assumption)).2 36) (hK := ?_)) | (refine cQI (hac := implCompose_ok (invp b) a (by have := hbi (by assumption) (by assumption); omega) (hbi (by assumption) (by assumption)).2 36) (hK := ?_)))) | ((first | refine atF (f := 91) ?_ | refine atQ (f := 91) ?_); refine callPn (Hin := exH p (XA p)) (by unfold exH exR; repeat' (first | exact Hp.le_emp _ | refine Hp.le_upd rfl ?_)) (hat (by assumption) (by assumption) (by assumption)) exH_pM rfl (exH_scrub _ _) ?_)); simp (maxSteps := 1000000) (dsimp := false) (implicitDefEqProofs := false) (disch := omega) only [wrap64, go_sem, pM_low]) | apply_assumption -exfalso -symm)
  all_goals (first | (show endQ _ _ _ _ _ _ _; (repeat (rename (∀ (A : Fr) (H : Hp), AWP _ _ _ _ A H → _) => hK; clear hK)); (repeat (rename (Fr → Hp → Prop) => K; clear K))) | (show Exists _; (repeat (rename (∀ (A : Fr) (H : Hp), AWP _ _ _ _ A H → _) => hK; clear hK)); (repeat (rename (Fr → Hp → Prop) => K; clear K))) | skip)
  · refine end_tup3 rfl (by decide) (by decide) (by decide) (Sub.toL (by simp only [go_sem] <;> first | trivial | (simp only [Option.some.injEq, AV.v.injEq, AV.own.injEq, AV.list.injEq, Value.int.injEq, Value.bool.injEq, true_and, and_true]; first | omega | (simp; done)) | (simp; done) | (simp; omega)) ?_) (.inl ⟨hok (by assumption) (by assumption) (by assumption), rfl, rfl⟩)
    unfold exH exR; repeat' (first | exact Hp.le_emp _ | refine Hp.le_upd rfl ?_)
  · exact end_tup3 rfl (by decide) (by decide) (by decide) (Sub.toL (by simp only [go_sem] <;> first | trivial | (simp only [Option.some.injEq, AV.v.injEq, AV.own.injEq, AV.list.injEq, Value.int.injEq, Value.bool.injEq, true_and, and_true]; first | omega | (simp; done)) | (simp; done) | (simp; omega)) (Hp.le_emp _)) (.inr ⟨fun h => absurd (show isSt p b ∧ b ∈ (XA p).st from ⟨h.2.2.1, h.2.2.2.2⟩) (by assumption), rfl, rfl⟩)
  · exact end_tup3 rfl (by decide) (by decide) (by decide) (Sub.toL (by simp only [go_sem] <;> first | trivial | (simp only [Option.some.injEq, AV.v.injEq, AV.own.injEq, AV.list.injEq, Value.int.injEq, Value.bool.injEq, true_and, and_true]; first | omega | (simp; done)) | (simp; done) | (simp; omega)) (Hp.le_emp _)) (.inr ⟨fun h => absurd (show isSt p a ∧ a ∈ (XA p).st from ⟨h.2.1, h.2.2.2.1⟩) (by assumption), rfl, rfl⟩)
  · exact end_tup3 rfl (by decide) (by decide) (by decide) (Sub.toL (by simp only [go_sem] <;> first | trivial | (simp only [Option.some.injEq, AV.v.injEq, AV.own.injEq, AV.list.injEq, Value.int.injEq, Value.bool.injEq, true_and, and_true]; first | omega | (simp; done)) | (simp; done) | (simp; omega)) (Hp.le_emp _)) (.inr ⟨fun h => absurd h.1 (by rw [(by assumption : (XS p).isSome = false)]; exact Bool.false_ne_true), rfl, rfl⟩)
section
variable {P : Program} {N : Cx} {A : Fr} {H : Hp}
/-- A call of between. -/
theorem callB3 {f : FuncId} {args : List AV} {p : Pz} {a b : List Int} {pn : Nat → Bool} {K : AV → Fr → Hp → Prop} (hac : AC P f args Hp.emp pn (postB p a b)) (hpn : N.pn = fun _ => false)
    (h1 : okB p a b → K (.tup 3 (vecF [.ref 1000000 0, .v (.int .i64 ((((XA p).st.idxOf (comp (invp b) a) : Nat) : Int))), .v (.bool (true))])) (A.scrub pM) (((H.scrub pM).upd 1000000 (.cells 9 (vecF [.v (.int .i64 (p.n)), .v (.string (p.s)), .list false 1 (p.m).length (cM ints [] (p.m)), .list false 1 ((XA p).st).length (cM ints [] ((XA p).st)), .list false 1 ((XA p).dp).length (cM iv 0 ((XA p).dp)), .map 1000003, .dead, .dead, .list false 1 ((XA p).nx).length (cM ints [] ((XA p).nx))]))).upd 1000003 (.mp (mS iv (kvs (XA p).st)))))
    (h2 : ¬ okB p a b → K (.tup 3 (vecF [.v (.pointer none), .v (.int .i64 (0)), .v (.bool (false))])) (A.scrub pM) (H.scrub pM)) : CallG P N f args A H K := by
  refine callHp hac hpn fun r H' hp => ?_
  rcases hp with ⟨hs, rfl, rfl⟩ | ⟨hs, rfl, rfl⟩
  · refine ⟨exH_ge, ?_, exH_scrub p _, ?_⟩
    · have e : liveB (exH p (XA p)) 1000000 = true := rfl
      rw [scrub_tup, scF_vecF]
      simp only [List.map_cons, List.map_nil, AV.scrub, e, Bool.not_true, Bool.false_eq_true, if_false]
    · have e : (exH p (XA p)).add (H.scrub pM) = ((H.scrub pM).upd 1000000 (.cells 9 (exR p (XA p)))).upd 1000003 (.mp (mS iv (kvs (XA p).st))) := by unfold exH; rw [upd_add, upd_add, emp_add]
      rw [e]; exact h1 hs
  · exact ⟨fun h hh => absurd rfl hh, by simp only [scrub_tup, scF_vecF, List.map_cons, List.map_nil, scrub_v], rfl, h2 hs⟩
end
theorem implDistanceBetween_ok (p : Pz) (a b : List Int) (hs0 : p.s.size ≤ 140737488355328) : AC Try.prog 12 [pz p, ints a, ints b] Hp.emp (fun _ => false) (retV (.v (.int .i64 (dbtP p a b)))) := by
  obtain ⟨hb1, hb2⟩ := XA_basic p
  have hlt : okB p a b → (XA p).st.idxOf (comp (invp b) a) < (XA p).dp.length := fun h => by
    have := List.idxOf_lt_length_iff.2 (XA_btw h.1 h.2.2.2.1 h.2.2.2.2)
    omega
  refine ac_of_awp (N := ⟨_, fun _ => false, fun _ _ => rfl⟩) Try.func12 rfl (by kernel_rfl) Try.ntmps12 (by simp) ?_
  simp only [argsFr, List.zipIdx_cons, List.zipIdx_nil, go_sem]
  repeat' (first | (refine Ob.mk (by have := hlt (by assumption); omega) ?_) | ((first | refine atF (f := 46) ?_ | refine atQ (f := 46) ?_); refine callB3 (between_ok p a b hs0) rfl (fun hX => ?_) (fun hX => ?_) <;> simp (maxSteps := 1000000) (dsimp := false) (implicitDefEqProofs := false) (disch := omega) only [wrap64, go_sem, pM_low]) | refine awp_seqK fun K hK => ?_ | (refine awp_regionK 525263 rfl ?_; simp only [List.map_cons, List.map_nil]; simp (maxSteps := 1000000) (dsimp := false) (implicitDefEqProofs := false) (disch := omega) only [wrap64, go_sem, pM_low]) | (refine awp_regionQK 525263 (by kernel_rfl) (by kernel_rfl) (by kernel_rfl) ?_; simp only [List.map_cons, List.map_nil]; simp (maxSteps := 1000000) (dsimp := false) (implicitDefEqProofs := false) (disch := omega) only [wrap64, go_sem, pM_low]) | refine awp_block ?_ | (refine awp_skip ?_; simp only [go_sem, pM_low]) | (refine awp_exit ?_; simp only [go_sem, pM_low]) | (refine awp_ret ?_; try simp only [go_sem, pM_low]) | (refine awp_condP rfl ?_; try simp only [go_sem, pM_low]) | (refine BrP.mk (fun h => ?_) (fun h => ?_) <;> try simp (dsimp := false) (disch := omega) only [wrap64]) | (refine Br.mk (fun h => ?_) (fun h => ?_) <;> try simp (dsimp := false) (disch := omega) only [wrap64]) | refine Ob.mk (by first | omega | (intro _ _; rfl) | trivial | (intros; trivial) | assumption | (intro i hi; have h0 : i = 0 := (by omega); subst h0; first | rfl | trivial) | (intro i hi; have h0 : i = 0 ∨ i = 1 := (by omega); rcases h0 with rfl | rfl <;> rfl) | (intro i hi; have h0 : i = 0 ∨ i = 1 ∨ i = 2 := (by omega); rcases h0 with rfl | rfl | rfl <;> rfl)) ?_ | apply_assumption -exfalso -symm)
  all_goals (first | (show endQ _ _ _ _ _ _ _; (repeat (rename (∀ (A : Fr) (H : Hp), AWP _ _ _ _ A H → _) => hK; clear hK)); (repeat (rename (Fr → Hp → Prop) => K; clear K))) | (show Exists _; (repeat (rename (∀ (A : Fr) (H : Hp), AWP _ _ _ _ A H → _) => hK; clear hK)); (repeat (rename (Fr → Hp → Prop) => K; clear K))) | skip)
  · refine end_retN rfl rfl ?_
    have h := (by assumption : okB p a b)
    unfold dbtP dstP depD
    rw [if_pos h, if_pos ⟨h.1, btw_st h⟩, if_pos (XA_btw h.1 h.2.2.2.1 h.2.2.2.2)]
  · exact end_retN rfl rfl (if_neg (by assumption)).symm
end Go.Proofs.Ytiihgbobdipikaa
end

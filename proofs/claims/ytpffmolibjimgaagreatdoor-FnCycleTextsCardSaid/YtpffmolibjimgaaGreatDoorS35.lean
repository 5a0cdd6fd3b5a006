import Derived.Test.YtpffmolibjimgaaGreatDoorS26
/- Texts of the reference: splitText, parseInt, formatInt, joinText, formatInts. -/
section
namespace Go.Proofs.YtpffmolibjimgaaGreatDoor
open Go.Av
set_option linter.unusedSimpArgs false
set_option linter.unusedVariables false
attribute [local irreducible] AWP CallG Ob Br BrP Go.Av.Sub endQ AOps OpV AC thenA blkA opsVC opVC withA withArgs opsQ opQ CallQ withA2 withArgs2
/-- A row of texts. -/
@[go_sem] def strs (ws : List ByteArray) : AV := .list false 1 ws.length (cM sv ByteArray.empty ws)
@[go_sem] theorem cM_sv (ws : List ByteArray) (i : Nat) : cM sv ByteArray.empty ws i = .v (.string (ws.getD i ByteArray.empty)) := rfl
theorem fits_S {H : Hp} {D : Nat → Prop} {h n : Nat} {ws : List ByteArray} (hH : H h = some (.cells n (cM sv ByteArray.empty ws))) (hD : D h) (hn : n = ws.length) : Fits H D (.own h 0 1 n) (strs ws) := by
  subst hn
  exact .own hH hD (by omega) (fun _ _ => trivial) fun i _ => by rw [Nat.zero_add]; exact .refl _
theorem ap_S (xs : List ByteArray) (y : ByteArray) (z : Nat → AV) : ∀ i, i < xs.length + 1 → apF xs.length (cM sv ByteArray.empty xs) (setF z 0 (sv y)) i = cM sv ByteArray.empty (xs ++ [y]) i := fun i hi => by
  by_cases h : i < xs.length
  · simp [apF, cM, List.getD_eq_getElem?_getD, List.getElem?_append, h]
  · have e : i = xs.length := by omega
    subst e
    simp [apF, setF, cM, List.getD_eq_getElem?_getD]
/-- The pieces before place k, and where the open piece begins. -/
def spS (s : ByteArray) (c : Nat) : Nat → List ByteArray × Nat
  | 0 => ([], 0)
  | k + 1 => if k = s.size ∨ (s.data.toList.getD k 0).toNat = c then ((spS s c k).1 ++ [s.extract (spS s c k).2 k], k + 1) else spS s c k
theorem spS_le (s : ByteArray) (c : Nat) : ∀ k, (spS s c k).2 ≤ k ∧ (spS s c k).1.length ≤ k
  | 0 => ⟨Nat.le_refl _, Nat.le_refl _⟩
  | k + 1 => by
    have := spS_le s c k
    unfold spS
    split
    · simp only [List.length_append, List.length_singleton]; omega
    · omega
theorem spS_row (s : ByteArray) (c : Nat) : ∀ k w, w ∈ (spS s c k).1 → w.size ≤ s.size
  | 0, w, h => by cases h
  | k + 1, w, h => by
    unfold spS at h
    split at h
    · rcases List.mem_append.1 h with h | h
      · exact spS_row s c k w h
      · rw [List.mem_singleton.1 h]; simp only [ByteArray.size_extract]; omega
    · exact spS_row s c k w h
def splitP (s : ByteArray) (c : Nat) : List ByteArray := (spS s c (s.size + 1)).1
theorem splitText_ok (s : ByteArray) (c : Nat) (hs : s.size ≤ 1000000) : AC Tryz.prog 57 [.v (.string (s)), .v (.int .u8 (c : Nat))] Hp.emp (fun _ => false) (retV (strs (splitP s c))) := by
  refine ac_of_awp (N := ⟨_, fun _ => false, fun _ _ => rfl, true⟩) Tryz.func57 rfl (by kernel_rfl) Tryz.ntmps57 (by simp) ?_
  simp only [argsFr, List.zipIdx_cons, List.zipIdx_nil, go_sem]
  repeat' (first | refine awp_seqK fun K hK => ?_ | (refine awp_regionK 33558771 rfl ?_; simp only [List.map_cons, List.map_nil]; simp (maxSteps := 1000000) (dsimp := false) (implicitDefEqProofs := false) (disch := omega) only [wrap64, go_sem]) | (refine awp_regionQK 33558771 (by kernel_rfl) (by kernel_rfl) (by kernel_rfl) ?_; simp only [List.map_cons, List.map_nil]; simp (maxSteps := 1000000) (dsimp := false) (implicitDefEqProofs := false) (disch := omega) only [wrap64, go_sem]) | refine awp_block ?_ | (refine awp_skip ?_; simp only [go_sem]) | (refine awp_exit ?_; simp only [go_sem]) | (refine awp_ret ?_; try simp only [go_sem]) | (refine awp_condP rfl ?_; try simp only [go_sem]) | (refine BrP.mk (fun h => ?_) (fun h => ?_) <;> try simp (dsimp := false) (disch := omega) only [wrap64]) | (refine Br.mk (fun h => ?_) (fun h => ?_) <;> try simp (dsimp := false) (disch := omega) only [wrap64]) | refine Ob.mk (by first | omega | (intro _ _; rfl) | trivial | (intros; trivial) | assumption | (intro i hi; have h0 : i = 0 := (by omega); subst h0; first | rfl | trivial) | (intro i hi; have h0 : i = 0 ∨ i = 1 := (by omega); rcases h0 with rfl | rfl <;> rfl) | (intro i hi; have h0 : i = 0 ∨ i = 1 ∨ i = 2 := (by omega); rcases h0 with rfl | rfl | rfl <;> rfl)) ?_ | apply_assumption -exfalso -symm)
  all_goals (first | (show endQ _ _ _ _ _ _ _; (repeat (rename (∀ (A : Fr) (H : Hp), AWP _ _ _ _ A H → _) => hK; clear hK)); (repeat (rename (Fr → Hp → Prop) => K; clear K))) | (show Exists _; (repeat (rename (∀ (A : Fr) (H : Hp), AWP _ _ _ _ A H → _) => hK; clear hK)); (repeat (rename (Fr → Hp → Prop) => K; clear K))) | skip)
  refine awp_loop (ι := Nat) (fun k => [(7, .v (.int .i64 ((k : Nat)))), (6, .v (.int .i64 (((spS s c k).2 : Nat)))), (5, .own 8 0 1 (spS s c k).1.length), (0, .v (.string (s))), (1, .v (.int .u8 (c : Nat)))]) (fun k => Hp.emp.upd 8 (.cells (spS s c k).1.length (cM sv ByteArray.empty (spS s c k).1))) (fun k => k ≤ s.size + 1) (fun k => s.size + 1 - k) 0 (Nat.zero_le _) ?_ ?_
  · exact Sub.toFF (fun _ => False) (Fr.fit_cons rfl (.refl _) (Fr.fit_cons rfl (.refl _) (Fr.fit_cons rfl (.refl _) (Fr.fit_cons rfl (.refl _) (Fr.fit_cons rfl (.refl _) (Fr.fit_nil _)))))) (leF_upd rfl (bfE rfl (fun i hi => absurd hi (Nat.not_lt_zero _))) leF_emp id)
  intro k hk
  have hle := spS_le s c k
  have hsz : spS s c (k + 1) = if k = s.size ∨ (s.data.toList.getD k 0).toNat = c then ((spS s c k).1 ++ [s.extract (spS s c k).2 k], k + 1) else spS s c k := rfl
  repeat' (first | refine awp_seqK fun K hK => ?_ | (refine awp_regionK 33558771 rfl ?_; simp only [List.map_cons, List.map_nil]; simp (maxSteps := 1000000) (dsimp := false) (implicitDefEqProofs := false) (disch := omega) only [wrap64, go_sem]) | (refine awp_regionQK 33558771 (by kernel_rfl) (by kernel_rfl) (by kernel_rfl) ?_; simp only [List.map_cons, List.map_nil]; simp (maxSteps := 1000000) (dsimp := false) (implicitDefEqProofs := false) (disch := omega) only [wrap64, go_sem]) | refine awp_block ?_ | (refine awp_skip ?_; simp only [go_sem]) | (refine awp_exit ?_; simp only [go_sem]) | (refine awp_ret ?_; try simp only [go_sem]) | (refine awp_condP rfl ?_; try simp only [go_sem]) | (refine BrP.mk (fun h => ?_) (fun h => ?_) <;> try simp (dsimp := false) (disch := omega) only [wrap64]) | (refine Br.mk (fun h => ?_) (fun h => ?_) <;> try simp (dsimp := false) (disch := omega) only [wrap64]) | refine Ob.mk (by first | omega | (intro _ _; rfl) | trivial | (intros; trivial) | assumption | (intro i hi; have h0 : i = 0 := (by omega); subst h0; first | rfl | trivial) | (intro i hi; have h0 : i = 0 ∨ i = 1 := (by omega); rcases h0 with rfl | rfl <;> rfl) | (intro i hi; have h0 : i = 0 ∨ i = 1 ∨ i = 2 := (by omega); rcases h0 with rfl | rfl | rfl <;> rfl)) ?_ | apply_assumption -exfalso -symm)
  all_goals (first | (show endQ _ _ _ _ _ _ _; (repeat (rename (∀ (A : Fr) (H : Hp), AWP _ _ _ _ A H → _) => hK; clear hK)); (repeat (rename (Fr → Hp → Prop) => K; clear K))) | (show Exists _; (repeat (rename (∀ (A : Fr) (H : Hp), AWP _ _ _ _ A H → _) => hK; clear hK)); (repeat (rename (Fr → Hp → Prop) => K; clear K))) | skip)
  iterate 2
    · have hit : k = s.size ∨ (s.data.toList.getD k 0).toNat = c := by omega
      rw [if_pos hit] at hsz
      refine ⟨k + 1, by omega, by omega, ?_⟩
      have e1 : (spS s c (k + 1)).1.length = (spS s c k).1.length + 1 := by rw [hsz]; simp only [List.length_append, List.length_singleton]
      have e2 : (spS s c (k + 1)).2 = k + 1 := by rw [hsz]
      rw [e1, e2, show (spS s c (k + 1)).1 = (spS s c k).1 ++ [s.extract (spS s c k).2 k] by rw [hsz]]
      exact Sub.toFF (fun _ => False) (Fr.fit_cons rfl (.refl _) (Fr.fit_cons rfl (.refl _) (Fr.fit_cons rfl (.refl _) (Fr.fit_cons rfl (.refl _) (Fr.fit_cons rfl (.refl _) (Fr.fit_nil _)))))) (leF_upd rfl (bfE rfl (ap_S _ _ _)) leF_emp id)
  · have hit : ¬ (k = s.size ∨ (s.data.toList.getD k 0).toNat = c) := by omega
    rw [if_neg hit] at hsz
    refine ⟨k + 1, by omega, by omega, ?_⟩
    rw [hsz]
    exact Sub.toL (by simp only [go_sem] <;> first | trivial | (simp only [Option.some.injEq, AV.v.injEq, AV.own.injEq, AV.list.injEq, Value.int.injEq, Value.bool.injEq, true_and, and_true]; first | omega | (simp; done)) | (simp; done) | (simp; omega)) (Hp.le_refl _)
  · have ek : k = s.size + 1 := by omega
    rw [ek]
    exact end_retF rfl rfl (fits_S rfl trivial rfl)
/-- The number that the first k digits say. -/
def pvS (s : ByteArray) : Nat → Int
  | 0 => 0
  | k + 1 => pvS s k * 10 + (((s.data.toList.getD k 0).toNat : Nat) - 48)
/-- A text of a number without a sign and without leading zeros. -/
def okI (s : ByteArray) : Prop := (1 ≤ s.size ∧ s.size ≤ 9) ∧ ¬ ((s.data.toList.getD 0 0).toNat = 48 ∧ 1 < s.size) ∧ ∀ j, j < s.size → 48 ≤ (s.data.toList.getD j 0).toNat ∧ (s.data.toList.getD j 0).toNat ≤ 57
instance (s : ByteArray) : Decidable (okI s) := by unfold okI; infer_instance
theorem pvS_rng (s : ByteArray) : ∀ k, (∀ j, j < k → 48 ≤ (s.data.toList.getD j 0).toNat ∧ (s.data.toList.getD j 0).toNat ≤ 57) → 0 ≤ pvS s k ∧ pvS s k < 10 ^ k
  | 0, _ => ⟨Int.le_refl _, by show (0 : Int) < 1; decide⟩
  | k + 1, h => by
    have h1 := pvS_rng s k fun j hj => h j (by omega)
    have h2 := h k (by omega)
    have e : pvS s (k + 1) = pvS s k * 10 + (((s.data.toList.getD k 0).toNat : Nat) - 48) := rfl
    have e2 : (10 : Int) ^ (k + 1) = 10 ^ k * 10 := by rw [Int.pow_succ]
    rw [e, e2]; omega
def pvP (s : ByteArray) : Int := if okI s then pvS s s.size else 0
theorem wrapU8 {x : Int} (h : 0 ≤ x ∧ x < 256) : IntKind.u8.wrap x = x := by
  unfold IntKind.wrap
  rw [show (2 : Int) ^ IntKind.u8.bits = 256 from rfl, show IntKind.u8.signed = false from rfl]
  simp only [Bool.false_and, Bool.false_eq_true, if_false]
  omega
theorem parseInt_ok (s : ByteArray) (hs : s.size ≤ 1000000) : AC Tryz.prog 87 [.v (.string (s))] Hp.emp (fun _ => false) (retV (.tup 2 (vecF [.v (.int .i64 (pvP s)), .v (.bool (decide (okI s)))]))) := by
  refine ac_of_awp (N := ⟨_, fun _ => false, fun _ _ => rfl, true⟩) Tryz.func87 rfl (by kernel_rfl) Tryz.ntmps87 (by simp) ?_
  simp only [argsFr, List.zipIdx_cons, List.zipIdx_nil, go_sem]
  repeat' (first | refine awp_seqK fun K hK => ?_ | (refine awp_regionK 549898420285 rfl ?_; simp only [List.map_cons, List.map_nil]; simp (maxSteps := 1000000) (dsimp := false) (implicitDefEqProofs := false) (disch := omega) only [wrap64, go_sem, Int.toNat_zero]) | (refine awp_regionQK 549898420285 (by kernel_rfl) (by kernel_rfl) (by kernel_rfl) ?_; simp only [List.map_cons, List.map_nil]; simp (maxSteps := 1000000) (dsimp := false) (implicitDefEqProofs := false) (disch := omega) only [wrap64, go_sem, Int.toNat_zero]) | refine awp_block ?_ | (refine awp_skip ?_; simp only [go_sem, Int.toNat_zero]) | (refine awp_exit ?_; simp only [go_sem, Int.toNat_zero]) | (refine awp_ret ?_; try simp only [go_sem, Int.toNat_zero]) | (refine awp_condP rfl ?_; try simp only [go_sem, Int.toNat_zero]) | (refine BrP.mk (fun h => ?_) (fun h => ?_) <;> try simp (dsimp := false) (disch := omega) only [wrap64]) | (refine Br.mk (fun h => ?_) (fun h => ?_) <;> try simp (dsimp := false) (disch := omega) only [wrap64]) | refine Ob.mk (by first | omega | (intro _ _; rfl) | trivial | (intros; trivial) | assumption | (intro i hi; have h0 : i = 0 := (by omega); subst h0; first | rfl | trivial) | (intro i hi; have h0 : i = 0 ∨ i = 1 := (by omega); rcases h0 with rfl | rfl <;> rfl) | (intro i hi; have h0 : i = 0 ∨ i = 1 ∨ i = 2 := (by omega); rcases h0 with rfl | rfl | rfl <;> rfl)) ?_ | apply_assumption -exfalso -symm)
  all_goals (first | (show endQ _ _ _ _ _ _ _; (repeat (rename (∀ (A : Fr) (H : Hp), AWP _ _ _ _ A H → _) => hK; clear hK)); (repeat (rename (Fr → Hp → Prop) => K; clear K))) | (show Exists _; (repeat (rename (∀ (A : Fr) (H : Hp), AWP _ _ _ _ A H → _) => hK; clear hK)); (repeat (rename (Fr → Hp → Prop) => K; clear K))) | skip)
  iterate 2
    · have hn : ¬ okI s := fun h => by have := h.1; omega
      rw [show pvP s = 0 from if_neg hn, decide_eq_false hn]
      exact end_T2 rfl (by decide) rfl rfl (.refl _) (.refl _)
  · have hn : ¬ okI s := fun h => by have := h.2.1; omega
    rw [show pvP s = 0 from if_neg hn, decide_eq_false hn]
    exact end_T2 rfl (by decide) rfl rfl (.refl _) (.refl _)
  all_goals
    refine awp_loop (ι := Nat) (fun k => [(5, .v (.int .i64 ((k : Nat)))), (4, .v (.int .i64 (pvS s k))), (0, .v (.string (s)))]) (fun _ => Hp.emp) (fun k => k ≤ s.size ∧ (1 ≤ s.size ∧ s.size ≤ 9) ∧ ¬ ((s.data.toList.getD 0 0).toNat = 48 ∧ 1 < s.size) ∧ Hold (∀ j, j < k → 48 ≤ (s.data.toList.getD j 0).toNat ∧ (s.data.toList.getD j 0).toNat ≤ 57)) (fun k => s.size - k) 0 ⟨Nat.zero_le _, by omega, by omega, ⟨fun j h => absurd h (Nat.not_lt_zero _)⟩⟩ (Sub.toL (by simp only [go_sem] <;> first | trivial | (simp only [Option.some.injEq, AV.v.injEq, AV.own.injEq, AV.list.injEq, Value.int.injEq, Value.bool.injEq, true_and, and_true]; first | omega | (simp [pvS]; done)) | (simp [pvS]; done) | (simp [pvS]; omega)) (Hp.le_refl _)) ?_
    rintro k ⟨hk, h1, h2, h3⟩
    have hr := pvS_rng s k h3.h
    have hp : (10 : Int) ^ k ≤ 1000000000 := by
      have := Nat.pow_le_pow_right (show 1 ≤ 10 by omega) (show k ≤ 9 by omega)
      have e : ((10 ^ k : Nat) : Int) = (10 : Int) ^ k := by simp
      omega
    have hsz : pvS s (k + 1) = pvS s k * 10 + (((s.data.toList.getD k 0).toNat : Nat) - 48) := rfl
    have hw8 : k < s.size → 48 ≤ (s.data.toList.getD k 0).toNat → (s.data.toList.getD k 0).toNat ≤ 57 → IntKind.i64.wrap (pvS s k * 10 + IntKind.i64.wrap (IntKind.u8.wrap (((s.data.toList.getD k 0).toNat : Int) - 48))) = pvS s (k + 1) := fun _ a b => by
      rw [wrapU8 (by omega), wrap64 (x := ((s.data.toList.getD k 0).toNat : Int) - 48) (by omega), wrap64 (by omega), hsz]
    repeat' (first | refine awp_seqK fun K hK => ?_ | (refine awp_regionK 549898420285 rfl ?_; simp only [List.map_cons, List.map_nil]; simp (maxSteps := 1000000) (dsimp := false) (implicitDefEqProofs := false) (disch := omega) only [wrap64, go_sem]) | (refine awp_regionQK 549898420285 (by kernel_rfl) (by kernel_rfl) (by kernel_rfl) ?_; simp only [List.map_cons, List.map_nil]; simp (maxSteps := 1000000) (dsimp := false) (implicitDefEqProofs := false) (disch := omega) only [wrap64, go_sem]) | refine awp_block ?_ | (refine awp_skip ?_; simp only [go_sem]) | (refine awp_exit ?_; simp only [go_sem]) | (refine awp_ret ?_; try simp only [go_sem]) | (refine awp_condP rfl ?_; try simp only [go_sem]) | (refine BrP.mk (fun h => ?_) (fun h => ?_) <;> try simp (dsimp := false) (disch := omega) only [wrap64]) | (refine Br.mk (fun h => ?_) (fun h => ?_) <;> try simp (dsimp := false) (disch := omega) only [wrap64]) | refine Ob.mk (by first | omega | (intro _ _; rfl) | trivial | (intros; trivial) | assumption | (intro i hi; have h0 : i = 0 := (by omega); subst h0; first | rfl | trivial) | (intro i hi; have h0 : i = 0 ∨ i = 1 := (by omega); rcases h0 with rfl | rfl <;> rfl) | (intro i hi; have h0 : i = 0 ∨ i = 1 ∨ i = 2 := (by omega); rcases h0 with rfl | rfl | rfl <;> rfl)) ?_ | apply_assumption -exfalso -symm)
    all_goals (first | (show endQ _ _ _ _ _ _ _; (repeat (rename (∀ (A : Fr) (H : Hp), AWP _ _ _ _ A H → _) => hK; clear hK)); (repeat (rename (Fr → Hp → Prop) => K; clear K))) | (show Exists _; (repeat (rename (∀ (A : Fr) (H : Hp), AWP _ _ _ _ A H → _) => hK; clear hK)); (repeat (rename (Fr → Hp → Prop) => K; clear K))) | skip)
    · have hn : ¬ okI s := fun h => by have := h.2.2 k (by omega); omega
      rw [show pvP s = 0 from if_neg hn, decide_eq_false hn]
      exact end_T2 rfl (by decide) rfl rfl (.refl _) (.refl _)
    · have hn : ¬ okI s := fun h => by have := h.2.2 k (by omega); omega
      rw [show pvP s = 0 from if_neg hn, decide_eq_false hn]
      exact end_T2 rfl (by decide) rfl rfl (.refl _) (.refl _)
    · rw [hw8 (by omega) (by omega) (by omega)]
      refine ⟨k + 1, ⟨by omega, h1, h2, ⟨fun j hj => ?_⟩⟩, by omega, Sub.toL (by simp only [go_sem] <;> first | trivial | (simp only [Option.some.injEq, AV.v.injEq, AV.own.injEq, AV.list.injEq, Value.int.injEq, Value.bool.injEq, true_and, and_true]; first | omega | (simp; done)) | (simp; done) | (simp; omega)) (Hp.le_refl _)⟩
      by_cases e : j = k
      · rw [e]; omega
      · exact h3.h j (by omega)
    · have ek : k = s.size := by omega
      have hn : okI s := ⟨h1, h2, by rw [← ek]; exact h3.h⟩
      rw [show pvP s = pvS s s.size from if_pos hn, decide_eq_true hn, ek]
      exact end_T2 rfl (by decide) rfl rfl (.refl _) (.refl _)
end Go.Proofs.YtpffmolibjimgaaGreatDoor
end
/- Syntax trees in postorder: the sizes of subtrees, and the stack that meets them; plain. -/
section
namespace Go.Nt
set_option linter.unusedVariables false
set_option linter.unusedSimpArgs false
structure Nd where
  kind : Int
  move : Int
  count : Int
  inv : Int
  split : Int
  kids : List Int
  deriving DecidableEq
def nd0 : Nd := ⟨0, 0, 0, 0, 0, []⟩
abbrev kd (xs : List Nd) (i : Nat) : List Int := (xs.getD i nd0).kids
/-- The sizes of the subtrees that end below p, from the last to the first; m nodes so far. -/
def szK (r : Nat → Option Nat) : List Int → Nat → Nat → Option Nat
  | [], _, m => some m
  | c :: cs, p, m => if 0 < p ∧ c = (p : Int) - 1 then (match r (p - 1) with | none => none | some n => szK r cs (p - n) (m + n)) else none
def szF (xs : List Nd) : Nat → Nat → Option Nat
  | 0, _ => none
  | f + 1, i => szK (szF xs f) (kd xs i).reverse i 1
def sz (xs : List Nd) (i : Nat) : Option Nat := szF xs (i + 1) i
theorem szK_congr {r r' : Nat → Option Nat} : ∀ (cs : List Int) (p m : Nat), (∀ j, j < p → r j = r' j) → szK r cs p m = szK r' cs p m
  | [], p, m, h => rfl
  | c :: cs, p, m, h => by
    unfold szK
    split
    · rename_i hc
      rw [h (p - 1) (by omega)]
      cases e : r' (p - 1) with
      | none => rfl
      | some n => exact szK_congr cs (p - n) (m + n) fun j hj => h j (by omega)
    · rfl
theorem szF_eq (xs : List Nd) : ∀ (i f : Nat), i < f → szF xs f i = sz xs i := by
  intro i
  induction i using Nat.strongRecOn with
  | _ i ih =>
    intro f hf
    obtain ⟨g, rfl⟩ : ∃ g, f = g + 1 := ⟨f - 1, by omega⟩
    show szK (szF xs g) _ _ _ = szK (szF xs i) _ _ _
    refine szK_congr _ _ _ fun j hj => ?_
    rw [ih j hj g (by omega), ih j hj i hj]
theorem sz_eq (xs : List Nd) (i : Nat) : sz xs i = szK (sz xs) (kd xs i).reverse i 1 := by
  show szK (szF xs i) _ _ _ = _
  exact szK_congr _ _ _ fun j hj => szF_eq xs j i hj
/-- The stack, from its top: each entry is a node whose subtree lies between the entry below and itself. -/
inductive Chain (xs : List Nd) : Nat → List Int → Prop
  | nil : Chain xs 0 []
  | cons {p n : Nat} {cs : List Int} : sz xs p = some n → n ≤ p + 1 → Chain xs (p + 1 - n) cs → Chain xs (p + 1) ((p : Int) :: cs)
/-- The children are nodes before, and their subtrees cover what lies before. -/
theorem szK_mem {xs : List Nd} : ∀ (cs : List Int) (p m0 m : Nat), szK (sz xs) cs p m0 = some m → m0 ≤ m ∧ (∀ c ∈ cs, ∃ q n : Nat, c = (q : Int) ∧ q < p ∧ sz xs q = some n) ∧
      ∀ q, p - (m - m0) ≤ q → q < p → ∃ j n : Nat, (j : Int) ∈ cs ∧ sz xs j = some n ∧ j + 1 - n ≤ q ∧ q ≤ j
  | [], p, m0, m, h => by
    simp only [szK, Option.some.injEq] at h
    subst h
    exact ⟨Nat.le_refl _, fun c hc => absurd hc (by simp), fun q h1 h2 => by omega⟩
  | c :: cs, p, m0, m, h => by
    unfold szK at h
    split at h
    · rename_i hc
      cases e : sz xs (p - 1) with
      | none => rw [e] at h; cases h
      | some n =>
        rw [e] at h
        obtain ⟨k0, k1, k2⟩ := szK_mem cs (p - n) (m0 + n) m h
        refine ⟨by omega, fun x hx => ?_, fun q h1 h2 => ?_⟩
        · rcases List.mem_cons.1 hx with rfl | hx
          · exact ⟨p - 1, n, by omega, by omega, e⟩
          · obtain ⟨q, l, a, b, d⟩ := k1 x hx
            exact ⟨q, l, a, by omega, d⟩
        · by_cases hq : q < p - n
          · obtain ⟨j, l, a, b⟩ := k2 q (by omega) hq
            exact ⟨j, l, List.mem_cons_of_mem _ a, b⟩
          · exact ⟨p - 1, n, by rw [List.mem_cons]; left; omega, e, by omega, by omega⟩
    · cases h
theorem sz_mem {xs : List Nd} {i n : Nat} (h : sz xs i = some n) : (∀ c ∈ kd xs i, ∃ q m : Nat, c = (q : Int) ∧ q < i ∧ sz xs q = some m) ∧
    ∀ q, i + 1 - n ≤ q → q < i → ∃ j m : Nat, (j : Int) ∈ kd xs i ∧ j < i ∧ sz xs j = some m ∧ j + 1 - m ≤ q ∧ q ≤ j := by
  rw [sz_eq] at h
  obtain ⟨h0, h1, h2⟩ := szK_mem _ _ _ _ h
  refine ⟨fun c hc => h1 c (List.mem_reverse.2 hc), fun q a b => ?_⟩
  obtain ⟨j, m, c, d⟩ := h2 q (by omega) b
  obtain ⟨q', m', e1, e2, _⟩ := h1 _ c
  exact ⟨j, m, List.mem_reverse.1 c, by omega, d⟩
/-- What goes down from a node to its children holds of all nodes of its subtree. -/
theorem below {xs : List Nd} (Q : Nat → Prop) (step : ∀ i, Q i → ∀ j : Nat, (j : Int) ∈ kd xs i → Q j) : ∀ (i n : Nat), sz xs i = some n → Q i → ∀ q, i + 1 - n ≤ q → q ≤ i → Q q := by
  intro i
  induction i using Nat.strongRecOn with
  | _ i ih =>
    intro n h hi q h1 h2
    by_cases e : q = i
    · subst e; exact hi
    · obtain ⟨j, m, a, b, c, d⟩ := (sz_mem h).2 q h1 (by omega)
      exact ih j b m c (step i hi j a) q d.1 d.2
/-- A node's fields are valid; apart from the order of its children. -/
def ndOk (many : Int) (x : Nd) (last : Bool) : Prop :=
  (1 ≤ x.count ∧ x.count ≤ 99) ∧ (0 ≤ x.inv ∧ x.inv ≤ 1) ∧
  ((last = true ∧ x.kind = 2 ∧ x.count = 1 ∧ x.inv = 0 ∧ x.move = 0 ∧ x.split = 0) ∨
   (last = false ∧ ((x.kind = 1 ∧ (0 ≤ x.move ∧ x.move ≤ many - 1) ∧ x.split = 0 ∧ x.kids.length = 0) ∨ (x.kind = 2 ∧ x.move = 0 ∧ x.split = 0 ∧ 0 < x.kids.length) ∨
     ((x.kind = 3 ∨ x.kind = 4) ∧ x.move = 0 ∧ 1 ≤ x.split ∧ x.split ≤ (x.kids.length : Int) - 1))))
instance (many : Int) (x : Nd) (last : Bool) : Decidable (ndOk many x last) := by unfold ndOk; infer_instance
/-- A syntax tree. -/
def isNt (many : Int) (xs : List Nd) : Prop :=
  (1 ≤ many ∧ many ≤ 8) ∧ (1 ≤ xs.length ∧ xs.length ≤ 200) ∧ (∀ i, i < xs.length → ndOk many (xs.getD i nd0) (decide (i + 1 = xs.length))) ∧ sz xs (xs.length - 1) = some xs.length
instance (many : Int) (xs : List Nd) : Decidable (isNt many xs) := by unfold isNt; infer_instance
end Go.Nt
end
/- The texts of syntax trees; plain. -/
section
namespace Go.Nt
set_option linter.unusedVariables false
set_option linter.unusedSimpArgs false
/-- Texts joined, the first k. -/
def jnS (sep : ByteArray) (ws : List ByteArray) : Nat → ByteArray
  | 0 => ⟨#[]⟩
  | k + 1 => (if 0 < k then jnS sep ws k ++ sep else jnS sep ws k) ++ ws.getD k ByteArray.empty
def jn (ws : List ByteArray) : ByteArray := jnS ⟨#[32]⟩ ws ws.length
def sumS (ws : List ByteArray) : Nat := (ws.map fun w => w.size + 1).sum
theorem sumS_app (a b : List ByteArray) : sumS (a ++ b) = sumS a + sumS b := by simp [sumS]
theorem jnS_take {ws : List ByteArray} : ∀ k, k ≤ ws.length → (jnS ⟨#[32]⟩ ws k).size ≤ sumS (ws.take k)
  | 0, _ => Nat.zero_le _
  | k + 1, h => by
    have ih := jnS_take (ws := ws) k (by omega)
    have e : ws.take (k + 1) = ws.take k ++ [ws.getD k ByteArray.empty] := by
      rw [List.getD_eq_getElem?_getD, List.getElem?_eq_getElem (show k < ws.length by omega), ← List.take_append_getElem (show k < ws.length by omega)]; rfl
    have e1 : (⟨#[32]⟩ : ByteArray).size = 1 := rfl
    have e2 : sumS [ws.getD k ByteArray.empty] = (ws.getD k ByteArray.empty).size + 1 := by simp [sumS]
    rw [e, sumS_app, e2]
    unfold jnS
    rw [ByteArray.size_append]
    split
    · rw [ByteArray.size_append]; omega
    · omega
theorem jn_size (ws : List ByteArray) : (jn ws).size ≤ sumS ws := by
  have := jnS_take (ws := ws) ws.length (Nat.le_refl _)
  rwa [List.take_length] at this
section
variable {fm : Nat → ByteArray} {names : ByteArray} {xs : List Nd} {n : Nat}
end
end Go.Nt
end

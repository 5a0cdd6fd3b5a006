import Derived.Test.YtiihgbobdipikaaJ5
import Derived.Test.YtiihgbobdipikaaJ3
import Derived.Test.YtiihgbobdipikaaJ6
/- The reference's search: where a row stands in the sorted index, and how one is put in. -/
section
namespace Go.Proofs.Ytiihgbobdipikaa
open Go.Av
set_option linter.unusedSimpArgs false
set_option linter.unusedVariables false
attribute [local irreducible] AWP CallG Ob Br BrP Go.Av.Sub endQ AOps OpV AC thenA blkA opsVC opVC withA withArgs opsQ opQ CallQ withA2 withArgs2
open Go.Pm (Pm comp invp idn img lx lx_drop lx_drop_ne lx_drop_end srow Srt Slot slot sidx insAt)

theorem listPrecedes_ok (a b : List Int) (hl : a.length = b.length) (ha : a.length ≤ 1048576) : AC Try.prog 134 [ints a, ints b] Hp.emp (fun _ => false) (retV (.v (.bool (lx a b)))) := by
  refine ac_of_awp (N := ⟨_, fun _ => false, fun _ _ => rfl⟩) Try.func134 rfl (by kernel_rfl) Try.ntmps134 (by simp) ?_
  simp only [argsFr, List.zipIdx_cons, List.zipIdx_nil, go_sem]
  repeat' (first | refine awp_seqK fun K hK => ?_ | (refine awp_regionK 1049139 rfl ?_; simp only [List.map_cons, List.map_nil]; simp (maxSteps := 1000000) (dsimp := false) (implicitDefEqProofs := false) (disch := omega) only [wrap64, go_sem]) | (refine awp_regionQK 1049139 (by kernel_rfl) (by kernel_rfl) (by kernel_rfl) ?_; simp only [List.map_cons, List.map_nil]; simp (maxSteps := 1000000) (dsimp := false) (implicitDefEqProofs := false) (disch := omega) only [wrap64, go_sem]) | refine awp_block ?_ | (refine awp_skip ?_; simp only [go_sem]) | (refine awp_exit ?_; simp only [go_sem]) | (refine awp_ret ?_; try simp only [go_sem]) | (refine awp_condP rfl ?_; try simp only [go_sem]) | (refine BrP.mk (fun h => ?_) (fun h => ?_) <;> try simp (dsimp := false) (disch := omega) only [wrap64]) | (refine Br.mk (fun h => ?_) (fun h => ?_) <;> try simp (dsimp := false) (disch := omega) only [wrap64]) | refine Ob.mk (by first | omega | (intro _ _; rfl) | trivial | (intros; trivial) | assumption | (intro i hi; have h0 : i = 0 := (by omega); subst h0; first | rfl | trivial) | (intro i hi; have h0 : i = 0 ∨ i = 1 := (by omega); rcases h0 with rfl | rfl <;> rfl) | (intro i hi; have h0 : i = 0 ∨ i = 1 ∨ i = 2 := (by omega); rcases h0 with rfl | rfl | rfl <;> rfl)) ?_ | apply_assumption -exfalso -symm)
  all_goals (first | (show endQ _ _ _ _ _ _ _; (repeat (rename (∀ (A : Fr) (H : Hp), AWP _ _ _ _ A H → _) => hK; clear hK)); (repeat (rename (Fr → Hp → Prop) => K; clear K))) | (show Exists _; (repeat (rename (∀ (A : Fr) (H : Hp), AWP _ _ _ _ A H → _) => hK; clear hK)); (repeat (rename (Fr → Hp → Prop) => K; clear K))) | skip)
  refine awp_loop (ι := Nat) (fun k => [(5, .v (.int .i64 (k))), (0, .list false 1 (a).length (cM iv 0 (a))), (1, .list false 1 (b).length (cM iv 0 (b)))]) (fun k => Hp.emp) (fun k => k ≤ a.length ∧ lx a b = lx (a.drop k) (b.drop k)) (fun k => a.length - k) 0 ?_ (Sub.toL (by simp only [go_sem] <;> first | trivial | (simp only [Option.some.injEq, AV.v.injEq, AV.own.injEq, AV.list.injEq, Value.int.injEq, Value.bool.injEq, true_and, and_true]; first | omega | (simp; done)) | (simp; done) | (simp; omega)) (by (repeat' (first | exact Hp.le_emp _ | exact Hp.le_refl _ | refine Hp.le_upd ?_ ?_)); all_goals (first | rfl | (simp only [go_sem]; first | rfl | (refine cellsE ?_ ?_ <;> (simp)) | (simp))))) ?_
  · exact ⟨Nat.zero_le _, by simp⟩
  rintro k ⟨hk, he⟩
  repeat' (first | refine awp_seqK fun K hK => ?_ | (refine awp_regionK 1049139 rfl ?_; simp only [List.map_cons, List.map_nil]; simp (maxSteps := 1000000) (dsimp := false) (implicitDefEqProofs := false) (disch := omega) only [wrap64, go_sem]) | (refine awp_regionQK 1049139 (by kernel_rfl) (by kernel_rfl) (by kernel_rfl) ?_; simp only [List.map_cons, List.map_nil]; simp (maxSteps := 1000000) (dsimp := false) (implicitDefEqProofs := false) (disch := omega) only [wrap64, go_sem]) | refine awp_block ?_ | (refine awp_skip ?_; simp only [go_sem]) | (refine awp_exit ?_; simp only [go_sem]) | (refine awp_ret ?_; try simp only [go_sem]) | (refine awp_condP rfl ?_; try simp only [go_sem]) | (refine BrP.mk (fun h => ?_) (fun h => ?_) <;> try simp (dsimp := false) (disch := omega) only [wrap64]) | (refine Br.mk (fun h => ?_) (fun h => ?_) <;> try simp (dsimp := false) (disch := omega) only [wrap64]) | refine Ob.mk (by first | omega | (intro _ _; rfl) | trivial | (intros; trivial) | assumption | (intro i hi; have h0 : i = 0 := (by omega); subst h0; first | rfl | trivial) | (intro i hi; have h0 : i = 0 ∨ i = 1 := (by omega); rcases h0 with rfl | rfl <;> rfl) | (intro i hi; have h0 : i = 0 ∨ i = 1 ∨ i = 2 := (by omega); rcases h0 with rfl | rfl | rfl <;> rfl)) ?_ | apply_assumption -exfalso -symm)
  all_goals (first | (show endQ _ _ _ _ _ _ _; (repeat (rename (∀ (A : Fr) (H : Hp), AWP _ _ _ _ A H → _) => hK; clear hK)); (repeat (rename (Fr → Hp → Prop) => K; clear K))) | (show Exists _; (repeat (rename (∀ (A : Fr) (H : Hp), AWP _ _ _ _ A H → _) => hK; clear hK)); (repeat (rename (Fr → Hp → Prop) => K; clear K))) | skip)
  · refine ⟨k + 1, ?_, ?_, Sub.toL (by simp only [go_sem] <;> first | trivial | (simp only [Option.some.injEq, AV.v.injEq, AV.own.injEq, AV.list.injEq, Value.int.injEq, Value.bool.injEq, true_and, and_true]; first | omega | (simp; done)) | (simp; done) | (simp; omega)) (by (repeat' (first | exact Hp.le_emp _ | exact Hp.le_refl _ | refine Hp.le_upd ?_ ?_)); all_goals (first | rfl | (simp only [go_sem]; first | rfl | (refine cellsE ?_ ?_ <;> (simp)) | (simp))))⟩
    · exact ⟨by omega, by rw [he, lx_drop hl (by omega) (by assumption)]⟩
    · omega
  · exact end_retV' rfl rfl (by rw [he, lx_drop_ne hl (by omega) (by assumption)])
  · exact end_retV' rfl rfl (by rw [he, lx_drop_end (by omega)])
/-- A search of which the lists and the sorted indices are read. -/
def slA (xs : List (List Int)) (so : List Int) : AV := .agg 4 (vecF [.list false 1 (xs).length (cM ints [] (xs)), .dead, .list false 1 (so).length (cM iv 0 (so)), .dead])
theorem searchSlot_ok (m : Nat) (xs : List (List Int)) (so s : List Int) (h0 : Srt m xs so) (hs0 : s.length = m) (hm : m ≤ 20) (hx : xs.length ≤ 3000) : AC Try.prog 111 [slA xs so, ints s] Hp.emp (fun _ => false) (retV (.v (.int .i64 (((slot xs so s : Nat) : Int))))) := by
  unfold slA
  have hsl := h0.len
  refine ac_of_awp (N := ⟨_, fun _ => false, fun _ _ => rfl⟩) Try.func111 rfl (by kernel_rfl) Try.ntmps111 (by simp) ?_
  simp only [argsFr, List.zipIdx_cons, List.zipIdx_nil, go_sem]
  repeat' (first | refine awp_seqK fun K hK => ?_ | (refine awp_regionK 268443895 rfl ?_; simp only [List.map_cons, List.map_nil]; simp (maxSteps := 1000000) (dsimp := false) (implicitDefEqProofs := false) (disch := omega) only [wrap64, go_sem]) | (refine awp_regionQK 268443895 (by kernel_rfl) (by kernel_rfl) (by kernel_rfl) ?_; simp only [List.map_cons, List.map_nil]; simp (maxSteps := 1000000) (dsimp := false) (implicitDefEqProofs := false) (disch := omega) only [wrap64, go_sem]) | refine awp_block ?_ | (refine awp_skip ?_; simp only [go_sem]) | (refine awp_exit ?_; simp only [go_sem]) | (refine awp_ret ?_; try simp only [go_sem]) | (refine awp_condP rfl ?_; try simp only [go_sem]) | (refine BrP.mk (fun h => ?_) (fun h => ?_) <;> try simp (dsimp := false) (disch := omega) only [wrap64]) | (refine Br.mk (fun h => ?_) (fun h => ?_) <;> try simp (dsimp := false) (disch := omega) only [wrap64]) | refine Ob.mk (by first | omega | (intro _ _; rfl) | trivial | (intros; trivial) | assumption | (intro i hi; have h0 : i = 0 := (by omega); subst h0; first | rfl | trivial) | (intro i hi; have h0 : i = 0 ∨ i = 1 := (by omega); rcases h0 with rfl | rfl <;> rfl) | (intro i hi; have h0 : i = 0 ∨ i = 1 ∨ i = 2 := (by omega); rcases h0 with rfl | rfl | rfl <;> rfl)) ?_ | apply_assumption -exfalso -symm)
  all_goals (first | (show endQ _ _ _ _ _ _ _; (repeat (rename (∀ (A : Fr) (H : Hp), AWP _ _ _ _ A H → _) => hK; clear hK)); (repeat (rename (Fr → Hp → Prop) => K; clear K))) | (show Exists _; (repeat (rename (∀ (A : Fr) (H : Hp), AWP _ _ _ _ A H → _) => hK; clear hK)); (repeat (rename (Fr → Hp → Prop) => K; clear K))) | skip)
  refine awp_loop (ι := Nat × Nat) (fun x => [(6, .v (.int .i64 (x.2))), (5, .v (.int .i64 (x.1))), (2, .ref 2 0), (1, .list false 1 (s).length (cM iv 0 (s)))]) (fun x => Hp.emp.upd 2 (.cells 4 (vecF [.list false 1 (xs).length (cM ints [] (xs)), .dead, .list false 1 (so).length (cM iv 0 (so)), .dead]))) (fun x => x.1 ≤ x.2 ∧ x.2 ≤ so.length ∧ (∀ i, i < x.1 → lx (srow xs so i) s = true) ∧ (∀ i, x.2 ≤ i → i < so.length → lx (srow xs so i) s = false)) (fun x => x.2 - x.1) (0, so.length) ?_ (Sub.toL (by simp only [go_sem] <;> first | trivial | (simp only [Option.some.injEq, AV.v.injEq, AV.own.injEq, AV.list.injEq, Value.int.injEq, Value.bool.injEq, true_and, and_true]; first | omega | (simp; done)) | (simp; done) | (simp; omega)) (by (repeat' (first | exact Hp.le_emp _ | exact Hp.le_refl _ | refine Hp.le_upd ?_ ?_)); all_goals (first | rfl | (simp only [go_sem]; first | rfl | (refine cellsE ?_ ?_ <;> (simp)) | (simp))))) ?_
  · exact ⟨Nat.zero_le _, Nat.le_refl _, fun i hi => absurd hi (Nat.not_lt_zero i), fun i h1 h2 => by dsimp only at h1; omega⟩
  rintro ⟨lo, hi⟩ ⟨h1, h2, h3, h4⟩
  dsimp only at h1 h2 h3 h4 ⊢
  have hmid : IntKind.i64.wrap (((lo : Int) + hi).tdiv 2) = (((lo + hi) / 2 : Nat) : Int) := by
    rw [show ((lo : Int) + hi) = ((lo + hi : Nat) : Int) by omega, show (((lo + hi : Nat) : Int)).tdiv 2 = (((lo + hi) / 2 : Nat) : Int) from rfl]
    exact wrap64 (by omega)
  have hml : lo < hi → (lo + hi) / 2 < so.length := fun h => by omega
  have hrg : lo < hi → 0 ≤ so.getD ((lo + hi) / 2) 0 ∧ so.getD ((lo + hi) / 2) 0 < xs.length := fun h => h0.rng _ (hml h)
  have hrl : lo < hi → (srow xs so ((lo + hi) / 2)).length = s.length := fun h => (h0.same _ (h0.row (hml h))).trans hs0.symm
  repeat' (first | refine awp_seqK fun K hK => ?_ | (refine awp_regionK 268443895 rfl ?_; simp only [List.map_cons, List.map_nil]; simp (maxSteps := 1000000) (dsimp := false) (implicitDefEqProofs := false) (disch := omega) only [wrap64, go_sem, hmid]) | (refine awp_regionQK 268443895 (by kernel_rfl) (by kernel_rfl) (by kernel_rfl) ?_; simp only [List.map_cons, List.map_nil]; simp (maxSteps := 1000000) (dsimp := false) (implicitDefEqProofs := false) (disch := omega) only [wrap64, go_sem, hmid]) | refine awp_block ?_ | (refine awp_skip ?_; simp only [go_sem, hmid]) | (refine awp_exit ?_; simp only [go_sem, hmid]) | (refine awp_ret ?_; try simp only [go_sem, hmid]) | (refine awp_condP rfl ?_; try simp only [go_sem, hmid]) | (refine BrP.mk (fun h => ?_) (fun h => ?_) <;> try simp (dsimp := false) (disch := omega) only [wrap64]) | (refine Br.mk (fun h => ?_) (fun h => ?_) <;> try simp (dsimp := false) (disch := omega) only [wrap64]) | refine Ob.mk (by first | omega | (intro _ _; rfl) | trivial | (intros; trivial) | assumption | (intro i hi; have h0 : i = 0 := (by omega); subst h0; first | rfl | trivial) | (intro i hi; have h0 : i = 0 ∨ i = 1 := (by omega); rcases h0 with rfl | rfl <;> rfl) | (intro i hi; have h0 : i = 0 ∨ i = 1 ∨ i = 2 := (by omega); rcases h0 with rfl | rfl | rfl <;> rfl)) ?_ | ((first | ((first | refine atF (f := 134) ?_ | refine atQ (f := 134) ?_); (first | (refine cV (hac := listPrecedes_ok (srow xs so ((lo + hi) / 2)) s (hrl (by omega)) (by rw [hrl (by omega)]; omega)) (hK := ?_)) | (refine cQV (hac := listPrecedes_ok (srow xs so ((lo + hi) / 2)) s (hrl (by omega)) (by rw [hrl (by omega)]; omega)) (hK := ?_))))); simp (maxSteps := 1000000) (dsimp := false) (implicitDefEqProofs := false) (disch := omega) only [wrap64, go_sem, hmid]) | apply_assumption -exfalso -symm)
  all_goals (first | (show endQ _ _ _ _ _ _ _; (repeat (rename (∀ (A : Fr) (H : Hp), AWP _ _ _ _ A H → _) => hK; clear hK)); (repeat (rename (Fr → Hp → Prop) => K; clear K))) | (show Exists _; (repeat (rename (∀ (A : Fr) (H : Hp), AWP _ _ _ _ A H → _) => hK; clear hK)); (repeat (rename (Fr → Hp → Prop) => K; clear K))) | skip)
  · refine ⟨((lo + hi) / 2 + 1, hi), ?_, ?_, Sub.toL (by simp only [go_sem] <;> first | trivial | (simp only [Option.some.injEq, AV.v.injEq, AV.own.injEq, AV.list.injEq, Value.int.injEq, Value.bool.injEq, true_and, and_true]; first | omega | (simp; done)) | (simp; done) | (simp; omega)) (by (repeat' (first | exact Hp.le_emp _ | exact Hp.le_refl _ | refine Hp.le_upd ?_ ?_)); all_goals (first | rfl | (simp only [go_sem]; first | rfl | (refine cellsE ?_ ?_ <;> (simp)) | (simp))))⟩
    · exact ⟨by dsimp only; omega, h2, h0.below (hml (by omega)) (by assumption), h4⟩
    · dsimp only; omega
  · refine ⟨(lo, (lo + hi) / 2), ?_, ?_, Sub.toL (by simp only [go_sem] <;> first | trivial | (simp only [Option.some.injEq, AV.v.injEq, AV.own.injEq, AV.list.injEq, Value.int.injEq, Value.bool.injEq, true_and, and_true]; first | omega | (simp; done)) | (simp; done) | (simp; omega)) (by (repeat' (first | exact Hp.le_emp _ | exact Hp.le_refl _ | refine Hp.le_upd ?_ ?_)); all_goals (first | rfl | (simp only [go_sem]; first | rfl | (refine cellsE ?_ ?_ <;> (simp)) | (simp))))⟩
    · exact ⟨by dsimp only; omega, by dsimp only; omega, h3, h0.above (by assumption)⟩
    · dsimp only; omega
  · have e : lo = hi := by omega
    subst e
    exact end_retN rfl rfl (by rw [Slot.eq ⟨h2, h3, h4⟩])
theorem searchIndex_ok (m : Nat) (xs : List (List Int)) (so s : List Int) (h0 : Srt m xs so) (nd : xs.Nodup) (hs0 : s.length = m) (hm : m ≤ 20) (hx : xs.length ≤ 3000) : AC Try.prog 71 [slA xs so, ints s] Hp.emp (fun _ => false) (retV (.v (.int .i64 (sidx xs s)))) := by
  unfold slA
  have hsl := h0.len
  have hS := h0.slot s
  have hle := hS.le
  have hfd := h0.found nd hs0 hS
  have hrg : slot xs so s < so.length → 0 ≤ so.getD (slot xs so s) 0 ∧ so.getD (slot xs so s) 0 < xs.length := fun h => h0.rng _ h
  have hrl : slot xs so s < so.length → (srow xs so (slot xs so s)).length = m := fun h => h0.same _ (h0.row h)
  have hac := searchSlot_ok m xs so s h0 hs0 hm hx
  unfold slA at hac
  refine ac_of_awp (N := ⟨_, fun _ => false, fun _ _ => rfl⟩) Try.func71 rfl (by kernel_rfl) Try.ntmps71 (by simp) ?_
  simp only [argsFr, List.zipIdx_cons, List.zipIdx_nil, go_sem]
  repeat' (first | refine awp_seqK fun K hK => ?_ | (refine awp_regionK 67108919 rfl ?_; simp only [List.map_cons, List.map_nil]; simp (maxSteps := 1000000) (dsimp := false) (implicitDefEqProofs := false) (disch := omega) only [wrap64, go_sem]) | (refine awp_regionQK 67108919 (by kernel_rfl) (by kernel_rfl) (by kernel_rfl) ?_; simp only [List.map_cons, List.map_nil]; simp (maxSteps := 1000000) (dsimp := false) (implicitDefEqProofs := false) (disch := omega) only [wrap64, go_sem]) | refine awp_block ?_ | (refine awp_skip ?_; simp only [go_sem]) | (refine awp_exit ?_; simp only [go_sem]) | (refine awp_ret ?_; try simp only [go_sem]) | (refine awp_condP rfl ?_; try simp only [go_sem]) | (refine BrP.mk (fun h => ?_) (fun h => ?_) <;> try simp (dsimp := false) (disch := omega) only [wrap64]) | (refine Br.mk (fun h => ?_) (fun h => ?_) <;> try simp (dsimp := false) (disch := omega) only [wrap64]) | refine Ob.mk (by first | omega | (intro _ _; rfl) | trivial | (intros; trivial) | assumption | (intro i hi; have h0 : i = 0 := (by omega); subst h0; first | rfl | trivial) | (intro i hi; have h0 : i = 0 ∨ i = 1 := (by omega); rcases h0 with rfl | rfl <;> rfl) | (intro i hi; have h0 : i = 0 ∨ i = 1 ∨ i = 2 := (by omega); rcases h0 with rfl | rfl | rfl <;> rfl)) ?_ | ((first | (refine cV (hac := hac) (hK := ?_)) | (refine cQV (hac := hac) (hK := ?_)) | ((first | refine atF (f := 52) ?_ | refine atQ (f := 52) ?_); (first | (refine cV (hac := equalInts_ok (srow xs so (slot xs so s)) s (by rw [hrl (by omega)]; omega)) (hK := ?_)) | (refine cQV (hac := equalInts_ok (srow xs so (slot xs so s)) s (by rw [hrl (by omega)]; omega)) (hK := ?_))))); simp (maxSteps := 1000000) (dsimp := false) (implicitDefEqProofs := false) (disch := omega) only [wrap64, go_sem]) | apply_assumption -exfalso -symm)
  all_goals (first | (show endQ _ _ _ _ _ _ _; (repeat (rename (∀ (A : Fr) (H : Hp), AWP _ _ _ _ A H → _) => hK; clear hK)); (repeat (rename (Fr → Hp → Prop) => K; clear K))) | (show Exists _; (repeat (rename (∀ (A : Fr) (H : Hp), AWP _ _ _ _ A H → _) => hK; clear hK)); (repeat (rename (Fr → Hp → Prop) => K; clear K))) | skip)
  · exact end_retN rfl rfl (hfd.1 ⟨by omega, by assumption⟩)
  · exact end_retN rfl rfl (hfd.2 (fun h => absurd h.2 (by assumption))).symm
  · exact end_retN rfl rfl (hfd.2 (fun h => by omega)).symm
theorem fits_sl {H : Hp} {D : Nat → Prop} {g : Nat → AV} {xs : List (List Int)} {so : List Int} {a b n m : Nat} (g0 : g 0 = .own a 0 1 n) (g2 : g 2 = .own b 0 1 m) (ha : H a = some (.cells n (cM ints [] xs))) (hb : H b = some (.cells m (cM iv 0 so))) (hn : n = xs.length) (hm : m = so.length) (da : D a) (db : D b) : Fits H D (.agg 4 g) (slA xs so) := by
  refine .agg fun i hi => ?_
  match i, hi with
  | 0, _ => rw [g0]; exact fits_II ha da rfl hn
  | 1, _ => exact .dead _
  | 2, _ => rw [g2]; exact fits_I hb db rfl hm
  | 3, _ => exact .dead _
/-- What a new row makes of the sorted indices, cell by cell. -/
theorem ins_cells (so : List Int) (a n c k : Nat) (ha : a ≤ so.length) (hk : k = a + 1) (hc : c = so.length - a) : ∀ i, i < so.length + 1 →
    setF (setsF (cM iv 0 (so ++ [0])) k c (cM iv 0 ((so ++ [0]).drop a))) a (.v (.int .i64 n)) i = cM iv 0 (insAt so a n) i := by
  intro i hi
  subst hk hc
  have e := Go.Pm.insAt_get so a n ha i
  simp only [setF, setsF, cM_app]
  rw [e]
  by_cases h1 : i = a
  · subst h1; rw [if_pos rfl, if_neg (by omega), if_pos rfl]; rfl
  · rw [if_neg h1]
    by_cases h2 : i < a
    · rw [if_neg (by omega), if_pos (by omega), getD_append, if_pos (by omega)]
    · rw [if_pos (by omega), if_neg h2, if_neg h1]
      congr 1
      rw [List.getD_eq_getElem?_getD, List.getElem?_drop, ← List.getD_eq_getElem?_getD, getD_append, if_pos (by omega)]
      congr 1; omega
theorem ob4 {f : Nat → Bool} {q : Prop} (h0 : f 0 = true) (h1 : f 1 = true) (h2 : f 2 = true) (h3 : f 3 = true) (k : q) : Ob (∀ i, i < 4 → f i = true) q := Ob.mk (fun i hi => by
  match i, hi with
  | 0, _ => exact h0
  | 1, _ => exact h1
  | 2, _ => exact h2
  | 3, _ => exact h3) k
theorem ob1 {f : Nat → Bool} {q : Prop} {n : Nat} (hn : n = 1) (h0 : f 0 = true) (k : q) : Ob (∀ i, i < n → f i = true) q := Ob.mk (fun i hi => by
  subst hn
  match i, hi with
  | 0, _ => exact h0) k
theorem searchAdd_ok (m : Nat) (xs : List (List Int)) (dp so s : List Int) (k : Int) (w : Bool) (h0 : Srt m xs so) (hd : dp.length = xs.length) (hs0 : s.length = m) (hm : m ≤ 20) (hx : xs.length ≤ 3000) :
    AC Try.prog 131 [.agg 4 (vecF [.own 1000001 0 1 xs.length, .own 1000002 0 1 dp.length, .own 1000003 0 1 so.length, .v (.bool (w))]), ints s, .v (.int .i64 (k))] (((Hp.emp.upd 1000001 (.cells xs.length (cM ints [] xs))).upd 1000002 (.cells dp.length (cM iv 0 dp))).upd 1000003 (.cells so.length (cM iv 0 so))) (fun _ => false)
      (fun r H => r = .agg 4 (vecF [.own 1000001 0 1 (xs.length + 1), .own 1000002 0 1 (dp.length + 1), .own 1000003 0 1 (so.length + 1), .v (.bool (w))]) ∧ H = (((Hp.emp.upd 1000001 (.cells (xs.length + 1) (cM ints [] (xs ++ [s])))).upd 1000002 (.cells (dp.length + 1) (cM iv 0 (dp ++ [k])))).upd 1000003 (.cells (so.length + 1) (cM iv 0 (insAt so (slot xs so s) xs.length))))) := by
  have hsl := h0.len
  have hS := h0.slot s
  have hle := hS.le
  have hac := searchSlot_ok m xs so s h0 hs0 hm hx
  have hcp : (slot xs so s + (so.length + 1 - slot xs so s) ≤ so.length + 1) = True := eq_true (by omega)
  refine ac_of_awp (N := ⟨_, fun _ => false, fun _ _ => rfl⟩) Try.func131 rfl (by kernel_rfl) Try.ntmps131 (by simp) ?_
  simp only [argsFr, List.zipIdx_cons, List.zipIdx_nil, go_sem]
  repeat' (first | (refine ob4 rfl rfl rfl rfl ?_) | (refine awp_regionEK 207 9 (by kernel_rfl) (by kernel_rfl) (by kernel_rfl) ?_; simp only [List.map_cons, List.map_nil, opsE, List.take_succ_cons, List.take_zero, List.drop_succ_cons, List.drop_zero]; simp (maxSteps := 1000000) (dsimp := false) (implicitDefEqProofs := false) (disch := omega) only [wrap64, go_sem, hcp]) | refine awp_seqK fun K hK => ?_ | (refine awp_regionK 207 rfl ?_; simp only [List.map_cons, List.map_nil]; simp (maxSteps := 1000000) (dsimp := false) (implicitDefEqProofs := false) (disch := omega) only [wrap64, go_sem, hcp]) | (refine awp_regionQK 207 (by kernel_rfl) (by kernel_rfl) (by kernel_rfl) ?_; simp only [List.map_cons, List.map_nil]; simp (maxSteps := 1000000) (dsimp := false) (implicitDefEqProofs := false) (disch := omega) only [wrap64, go_sem, hcp]) | refine awp_block ?_ | (refine awp_skip ?_; simp only [go_sem, hcp]) | (refine awp_exit ?_; simp only [go_sem, hcp]) | (refine awp_ret ?_; try simp only [go_sem, hcp]) | (refine awp_condP rfl ?_; try simp only [go_sem, hcp]) | (refine BrP.mk (fun h => ?_) (fun h => ?_) <;> try simp (dsimp := false) (disch := omega) only [wrap64]) | (refine Br.mk (fun h => ?_) (fun h => ?_) <;> try simp (dsimp := false) (disch := omega) only [wrap64]) | refine Ob.mk (by first | omega | (intro _ _; rfl) | trivial | (intros; trivial) | assumption | (intro i hi; have h0 : i = 0 := (by omega); subst h0; first | rfl | trivial) | (intro i hi; have h0 : i = 0 ∨ i = 1 := (by omega); rcases h0 with rfl | rfl <;> rfl) | (intro i hi; have h0 : i = 0 ∨ i = 1 ∨ i = 2 := (by omega); rcases h0 with rfl | rfl | rfl <;> rfl)) ?_ | ((first | ((first | refine atF (f := 111) ?_ | refine atQ (f := 111) ?_); refine cV (hfit := .cons (fits_sl rfl rfl rfl rfl rfl rfl trivial trivial) (.cons (.refl _) .nil)) (hac := hac) (hK := ?_))); simp (maxSteps := 1000000) (dsimp := false) (implicitDefEqProofs := false) (disch := omega) only [wrap64, go_sem, hcp]) | apply_assumption -exfalso -symm)
  all_goals (first | (show endQ _ _ _ _ _ _ _; (repeat (rename (∀ (A : Fr) (H : Hp), AWP _ _ _ _ A H → _) => hK; clear hK)); (repeat (rename (Fr → Hp → Prop) => K; clear K))) | (show Exists _; (repeat (rename (∀ (A : Fr) (H : Hp), AWP _ _ _ _ A H → _) => hK; clear hK)); (repeat (rename (Fr → Hp → Prop) => K; clear K))) | skip)
  · refine end_postC rfl rfl (by simp only [go_sem]; rfl) rfl (fun i hi => ?_) (leF_upd rfl (bfE rfl (ins_cells so _ _ _ _ hle (by omega) (by omega))) (leF_upd rfl (.refl _ _ _) (leF_upd rfl (bfE rfl (apF_ints rfl)) leF_emp id) id) id) rfl ⟨rfl, rfl⟩
    match i, hi with
    | 0, _ => rfl
    | 1, _ => rfl
    | 2, _ => rfl
    | 3, _ => rfl
theorem srt_nil (m : Nat) : Srt m [] [] := ⟨rfl, by simp, fun i hi => absurd hi (Nat.not_lt_zero _), fun i j _ hj => absurd hj (Nat.not_lt_zero _), fun k hk => absurd hk (Nat.not_lt_zero _)⟩
set_option maxHeartbeats 2000000 in
theorem searchAdd0_ok (s : List Int) (hs0 : s.length ≤ 20) : AC Try.prog 131 [.agg 4 (zF [.slice none 0 0, .slice none 0 0, .slice none 0 0, .bool false]), ints s, .v (.int .i64 (0))] Hp.emp (fun _ => false)
      (fun r H => r = .agg 4 (vecF [.own 1000001 0 1 1, .own 1000002 0 1 1, .own 1000003 0 1 1, .v (.bool (false))]) ∧ H = (((Hp.emp.upd 1000001 (.cells 1 (cM ints [] [s]))).upd 1000002 (.cells 1 (cM iv 0 [0]))).upd 1000003 (.cells 1 (cM iv 0 [0])))) := by
  have hac := searchSlot_ok s.length [] [] s (srt_nil _) rfl hs0 (by simp)
  rw [show ((slot [] [] s : Nat) : Int) = 0 from rfl] at hac
  refine ac_of_awp (N := ⟨_, fun _ => false, fun _ _ => rfl⟩) Try.func131 rfl (by kernel_rfl) Try.ntmps131 (by simp) ?_
  simp only [argsFr, List.zipIdx_cons, List.zipIdx_nil, go_sem]
  repeat' (first | (first | refine ob4 rfl rfl rfl rfl ?_ | refine ob1 rfl rfl ?_) | (refine awp_regionEK 207 9 (by kernel_rfl) (by kernel_rfl) (by kernel_rfl) ?_; simp only [List.map_cons, List.map_nil, opsE, List.take_succ_cons, List.take_zero, List.drop_succ_cons, List.drop_zero]; simp (maxSteps := 1000000) (dsimp := false) (implicitDefEqProofs := false) (disch := omega) only [wrap64, go_sem]) | refine awp_seqK fun K hK => ?_ | (refine awp_regionK 207 rfl ?_; simp only [List.map_cons, List.map_nil]; simp (maxSteps := 1000000) (dsimp := false) (implicitDefEqProofs := false) (disch := omega) only [wrap64, go_sem]) | (refine awp_regionQK 207 (by kernel_rfl) (by kernel_rfl) (by kernel_rfl) ?_; simp only [List.map_cons, List.map_nil]; simp (maxSteps := 1000000) (dsimp := false) (implicitDefEqProofs := false) (disch := omega) only [wrap64, go_sem]) | refine awp_block ?_ | (refine awp_skip ?_; simp only [go_sem]) | (refine awp_exit ?_; simp only [go_sem]) | (refine awp_ret ?_; try simp only [go_sem]) | (refine awp_condP rfl ?_; try simp only [go_sem]) | (refine BrP.mk (fun h => ?_) (fun h => ?_) <;> try simp (dsimp := false) (disch := omega) only [wrap64]) | (refine Br.mk (fun h => ?_) (fun h => ?_) <;> try simp (dsimp := false) (disch := omega) only [wrap64]) | refine Ob.mk (by first | omega | (intro _ _; rfl) | trivial | (intros; trivial) | assumption | (intro i hi; have h0 : i = 0 := (by omega); subst h0; first | rfl | trivial) | (intro i hi; have h0 : i = 0 ∨ i = 1 := (by omega); rcases h0 with rfl | rfl <;> rfl) | (intro i hi; have h0 : i = 0 ∨ i = 1 ∨ i = 2 := (by omega); rcases h0 with rfl | rfl | rfl <;> rfl)) ?_ | ((first | ((first | refine atF (f := 111) ?_ | refine atQ (f := 111) ?_); refine cV (hfit := .cons (.agg (fun i hi => by match i, hi with | 0, _ => exact .nil | 1, _ => exact .dead _ | 2, _ => exact .nil | 3, _ => exact .dead _)) (.cons (.refl _) .nil)) (hac := hac) (hK := ?_))); simp (maxSteps := 1000000) (dsimp := false) (implicitDefEqProofs := false) (disch := omega) only [wrap64, go_sem]) | apply_assumption -exfalso -symm)
  all_goals (first | (show endQ _ _ _ _ _ _ _; (repeat (rename (∀ (A : Fr) (H : Hp), AWP _ _ _ _ A H → _) => hK; clear hK)); (repeat (rename (Fr → Hp → Prop) => K; clear K))) | (show Exists _; (repeat (rename (∀ (A : Fr) (H : Hp), AWP _ _ _ _ A H → _) => hK; clear hK)); (repeat (rename (Fr → Hp → Prop) => K; clear K))) | skip)
  · have cs : ∀ x, (x = 6 ∨ (((Hp.emp.upd 1000001 (.cells 1 (cM ints [] [s]))).upd 1000002 (.cells 1 (cM iv 0 [0]))).upd 1000003 (.cells 1 (cM iv 0 [0]))) x ≠ none) → x = 6 ∨ x = 1000001 ∨ x = 1000002 ∨ x = 1000003 := by
      rintro x (rfl | hx)
      · exact .inl rfl
      · simp only [Hp.upd, Hp.emp] at hx
        split at hx
        · exact .inr (.inr (.inr ‹_›))
        split at hx
        · exact .inr (.inr (.inl ‹_›))
        split at hx
        · exact .inr (.inl ‹_›)
        · exact absurd rfl hx
    refine end_layC (fun x => if x = 1000001 then some 37 else if x = 1000002 then some 43 else if x = 1000003 then some 14 else some x) rfl rfl rfl (by simp only [go_sem]; rfl) rfl rfl (fun i hi => ?_) (layF_upd rfl rfl (fun i hi => ?_) (layF_upd rfl rfl (fun i hi => ?_) (layF_upd rfl rfl (fun i hi => ?_) layF_emp))) rfl (fun x y k hx hy e1 e2 => ?_) ⟨rfl, rfl⟩
    · match i, hi with
      | 0, _ => exact .own rfl
      | 1, _ => exact .own rfl
      | 2, _ => exact .own rfl
      | 3, _ => exact .plain trivial
    iterate 3 (· match i, hi with
                 | 0, _ => exact .plain trivial)
    · rcases cs x hx with rfl | rfl | rfl | rfl <;> rcases cs y hy with rfl | rfl | rfl | rfl <;> first | rfl | (exfalso; simp at e1 e2; omega)
end Go.Proofs.Ytiihgbobdipikaa
end
/- The reference's search: what it comes to. -/
section
namespace Go.Proofs.Ytiihgbobdipikaa
open Go.Av
set_option linter.unusedSimpArgs false
set_option linter.unusedVariables false
attribute [local irreducible] AWP CallG Ob Br BrP Go.Av.Sub endQ AOps OpV AC thenA blkA opsVC opVC withA withArgs opsQ opQ CallQ withA2 withArgs2
open Go.Pm (Pm comp invp idn img Gen Bf srch sorts srtN Srt slot sidx insAt)

/-- The letters of a puzzle, each with its permutation. -/
def lsP (p : Pz) : List (Int × List Int) := (lets p.m.length).map fun l => (l, letP p.m l)
theorem lsP_length (p : Pz) : (lsP p).length = 2 * p.m.length := by simp [lsP, lets_length]
theorem lsP_get (p : Pz) (i : Nat) (h : i < 2 * p.m.length) : (lsP p).getD i (0, []) = ((lets p.m.length).getD i 0, letP p.m ((lets p.m.length).getD i 0)) := by
  have hl := lets_length p.m.length
  simp [lsP, List.getD_eq_getElem?_getD, List.getElem?_eq_getElem (show i < (lets p.m.length).length by omega)]
theorem lsP_pm {p : Pz} (hz : isPz p) : ∀ g ∈ (lsP p).map (·.2), Pm p.n.toNat g := by
  intro g hg
  simp only [lsP, List.map_map, List.mem_map, Function.comp] at hg
  obtain ⟨l, hl, rfl⟩ := hg
  obtain ⟨j, hj, rfl⟩ := List.getElem_of_mem hl
  have := lets_inL p.m j hj
  rw [List.getD_eq_getElem?_getD, List.getElem?_eq_getElem hj] at this
  exact letP_pm hz.gens this

/-- A search that is only read. -/
def sF (B : Bf) : AV := .agg 4 (vecF [.list false 1 (B.st).length (cM ints [] (B.st)), .list false 1 (B.dp).length (cM iv 0 (B.dp)), .list false 1 (sorts B.st).length (cM iv 0 (sorts B.st)), .v (.bool (true))])
/-- .. and one that was cut, or was not made at all. -/
def sFw (xs : List (List Int)) (dp so : List Int) (w : Bool) : AV := .agg 4 (vecF [.list false 1 (xs).length (cM ints [] (xs)), .list false 1 (dp).length (cM iv 0 (dp)), .list false 1 (so).length (cM iv 0 (so)), .v (.bool (w))])
def sFx (B : Bf) : AV := sFw B.st B.dp (sorts B.st) false
theorem sFw_scrub (xs : List (List Int)) (dp so : List Int) (w : Bool) (p : Nat → Bool) : (sFw xs dp so w).scrub p = sFw xs dp so w := by
  unfold sFw; simp only [scrub_agg, scF_vecF, List.map_cons, List.map_nil, scrub_list, scrub_v]
noncomputable def searchR (p : Pz) (s0 : List Int) : AV := match srch (lsP p) s0 with | some B => sF B | none => sFx (Go.Pm.cutB (lsP p) s0)
def pS (h : Nat) : Bool := h == 1000001 || h == 1000002 || h == 1000003
theorem pS_low {h : Nat} (hh : h < 1000000) : pS h = false := by simp [pS]; omega
theorem pS_1 : pS 1000001 = true := rfl
theorem pS_2 : pS 1000002 = true := rfl
theorem pS_3 : pS 1000003 = true := rfl
def h3 (B1 B2 B3 : Blk) : Hp := ((Hp.emp.upd 1000001 B1).upd 1000002 B2).upd 1000003 B3
theorem h3_1 {B1 B2 B3 : Blk} : h3 B1 B2 B3 1000001 = some B1 := rfl
theorem h3_2 {B1 B2 B3 : Blk} : h3 B1 B2 B3 1000002 = some B2 := rfl
theorem h3_3 {B1 B2 B3 : Blk} : h3 B1 B2 B3 1000003 = some B3 := rfl
theorem h3_cases {B1 B2 B3 B : Blk} {h : Nat} (e : h3 B1 B2 B3 h = some B) : (h = 1000001 ∧ B = B1) ∨ (h = 1000002 ∧ B = B2) ∨ (h = 1000003 ∧ B = B3) := by
  simp only [h3, Hp.upd, Hp.emp] at e
  split at e
  · rename_i e1; simp only [Option.some.injEq] at e; exact .inr (.inr ⟨e1, e.symm⟩)
  split at e
  · rename_i e1; simp only [Option.some.injEq] at e; exact .inr (.inl ⟨e1, e.symm⟩)
  split at e
  · rename_i e1; simp only [Option.some.injEq] at e; exact .inl ⟨e1, e.symm⟩
  · cases e
theorem h3_ne {B1 B2 B3 : Blk} {h : Nat} : h3 B1 B2 B3 h ≠ none ↔ pS h = true := by
  constructor
  · intro hn
    cases e : h3 B1 B2 B3 h with
    | none => exact absurd e hn
    | some B => rcases h3_cases e with ⟨rfl, _⟩ | ⟨rfl, _⟩ | ⟨rfl, _⟩ <;> rfl
  · intro hp
    simp only [pS, Bool.or_eq_true, beq_iff_eq] at hp
    rcases hp with (rfl | rfl) | rfl
    · rw [h3_1]; simp
    · rw [h3_2]; simp
    · rw [h3_3]; simp
section
variable {P : Program} {N : Cx} {A : Fr} {H : Hp}
/-- A call that turns three blocks of our own, and hands back a value over them. -/
theorem callS {f : FuncId} {args : List AV} {Hin : Hp} {C1 C2 C3 : Blk} {a : AV} {K : AV → Fr → Hp → Prop} (hH : Hp.le Hin H) (hin : ∀ h, Hin h ≠ none → pS h = true) (hac : AC P f args Hin (fun _ => false) (fun r H => r = a ∧ H = h3 C1 C2 C3))
    (ha : a.scrub (fun h => !pS h) = a) (hc1 : C1.scrub (fun h => !pS h) = C1) (hc2 : C2.scrub (fun h => !pS h) = C2) (hc3 : C3.scrub (fun h => !pS h) = C3) (hpn : N.pn = fun _ => false)
    (hK : K a (A.scrub pS) ((((H.scrub pS).upd 1000001 C1).upd 1000002 C2).upd 1000003 C3)) : CallG P N f args A H K := by
  refine callG_of hac pS false hH (FitsL.refl _) (fun _ => rfl) (fun h hn hp => ?_) (fun h e => by rw [hpn] at e; simp at e) ?_
  · rw [hin h hn] at hp; cases hp
  rintro r H' ⟨rfl, rfl⟩
  refine ⟨fun h h1 h2 => h3_ne.1 h1, fun e => absurd e (by decide), ?_⟩
  have lv : (fun h => !liveB (h3 C1 C2 C3) h) = fun h => !pS h := by
    funext h
    congr 1
    cases e : pS h with
    | true => unfold liveB; exact Option.isSome_iff_ne_none.2 (h3_ne.2 e)
    | false =>
      unfold liveB
      cases e2 : h3 C1 C2 C3 h with
      | none => rfl
      | some B => rw [h3_ne.1 (by rw [e2]; simp)] at e; cases e
  have e2 : Hp.over ((h3 C1 C2 C3).scrub fun h => !pS h) (H.scrub pS) Hin = (((H.scrub pS).upd 1000001 C1).upd 1000002 C2).upd 1000003 C3 := by
    funext h
    by_cases h1 : h = 1000003
    · subst h1; unfold Hp.over Hp.scrub; rw [h3_3]; simp only [Option.map_some, hc3]; rfl
    by_cases h2 : h = 1000002
    · subst h2; unfold Hp.over Hp.scrub; rw [h3_2]; simp only [Option.map_some, hc2]; rfl
    by_cases h4 : h = 1000001
    · subst h4; unfold Hp.over Hp.scrub; rw [h3_1]; simp only [Option.map_some, hc1]; rfl
    have e : ∀ B1 B2 B3, h3 B1 B2 B3 h = none := fun B1 B2 B3 => by simp [h3, Hp.upd, Hp.emp, h1, h2, h4]
    have e' : ((h3 C1 C2 C3).scrub fun h => !pS h) h = none := by unfold Hp.scrub; rw [e]; rfl
    have e3 : Hin h = none := by
      cases e4 : Hin h with
      | none => rfl
      | some B =>
        have := hin h (by rw [e4]; simp)
        simp [pS, h1, h2, h4] at this
    unfold Hp.over
    rw [e', e3]
    simp [Hp.upd, h1, h2, h4]
  rw [lv, e2, ha]
  exact hK
end
theorem scr4 (a b c : Nat) (x : Value) : (AV.agg 4 (vecF [.own 1000001 0 1 a, .own 1000002 0 1 b, .own 1000003 0 1 c, .v x])).scrub (fun h => !pS h) = .agg 4 (vecF [.own 1000001 0 1 a, .own 1000002 0 1 b, .own 1000003 0 1 c, .v x]) := by
  simp only [scrub_agg, scF_vecF, List.map_cons, List.map_nil, scrub_own, scrub_v, pS_1, pS_2, pS_3, Bool.not_true, Bool.false_eq_true, if_false]
/-- What lies in memory while the search goes on. -/
def hS (p : Pz) (xs : List (List Int)) (dp : List Int) : Hp := (((((Hp.emp.upd 2 (.cells 3 (vecF [.v (.int .i64 p.n), .v (.string p.s), .list false 1 (p.m).length (cM ints [] (p.m))]))).upd 4 (.cells 4 (zF [.slice none 0 0, .slice none 0 0, .slice none 0 0, .bool false]))).upd 5 (.cells 4 (vecF [.own 1000001 0 1 xs.length, .own 1000002 0 1 dp.length, .own 1000003 0 1 (sorts xs).length, .v (.bool (false))]))).upd 1000001 (.cells xs.length (cM ints [] xs))).upd 1000002 (.cells dp.length (cM iv 0 dp))).upd 1000003 (.cells (sorts xs).length (cM iv 0 (sorts xs)))
theorem sidx_yes {xs : List (List Int)} {s : List Int} : 0 ≤ sidx xs s ↔ s ∈ xs := by
  unfold Go.Pm.sidx
  split
  · simp [*]
  · simp [*]
theorem searchFrom_ok (p : Pz) (s0 : List Int) (hz : isPz p) (hl0 : s0.length ≤ 20) (hb0 : ∀ j, j < s0.length → 0 ≤ s0.getD j 0 ∧ s0.getD j 0 < p.n.toNat) : AC Try.prog 110 [pz p, ints s0] Hp.emp (fun _ => false) (retV (searchR p s0)) := by
  have hm := hz.1.2.1
  have hn := hz.n
  have hlm := lsP_length p
  have hll := lets_length p.m.length
  have hG := lsP_pm hz
  refine ac_of_awp (N := ⟨_, fun _ => false, fun _ _ => rfl⟩) Try.func110 rfl (by kernel_rfl) Try.ntmps110 (by simp) ?_
  simp only [argsFr, List.zipIdx_cons, List.zipIdx_nil, go_sem]
  repeat' (first | (refine ob4 rfl rfl rfl rfl ?_) | refine awp_seqK fun K hK => ?_ | (refine awp_regionK 149533649535991 rfl ?_; simp only [List.map_cons, List.map_nil]; simp (maxSteps := 1000000) (dsimp := false) (implicitDefEqProofs := false) (disch := omega) only [wrap64, go_sem, pS_low, pS_1, pS_2, pS_3]) | (refine awp_regionQK 149533649535991 (by kernel_rfl) (by kernel_rfl) (by kernel_rfl) ?_; simp only [List.map_cons, List.map_nil]; simp (maxSteps := 1000000) (dsimp := false) (implicitDefEqProofs := false) (disch := omega) only [wrap64, go_sem, pS_low, pS_1, pS_2, pS_3]) | refine awp_block ?_ | (refine awp_skip ?_; simp only [go_sem, pS_low, pS_1, pS_2, pS_3]) | (refine awp_exit ?_; simp only [go_sem, pS_low, pS_1, pS_2, pS_3]) | (refine awp_ret ?_; try simp only [go_sem, pS_low, pS_1, pS_2, pS_3]) | (refine awp_condP rfl ?_; try simp only [go_sem, pS_low, pS_1, pS_2, pS_3]) | (refine BrP.mk (fun h => ?_) (fun h => ?_) <;> try simp (dsimp := false) (disch := omega) only [wrap64]) | (refine Br.mk (fun h => ?_) (fun h => ?_) <;> try simp (dsimp := false) (disch := omega) only [wrap64]) | refine Ob.mk (by first | omega | (intro _ _; rfl) | trivial | (intros; trivial) | assumption | (intro i hi; have h0 : i = 0 := (by omega); subst h0; first | rfl | trivial) | (intro i hi; have h0 : i = 0 ∨ i = 1 := (by omega); rcases h0 with rfl | rfl <;> rfl) | (intro i hi; have h0 : i = 0 ∨ i = 1 ∨ i = 2 := (by omega); rcases h0 with rfl | rfl | rfl <;> rfl)) ?_ | ((first | ((first | refine atF (f := 129) ?_ | refine atQ (f := 129) ?_); (first | (refine cFI (hac := specCopyInts_ok s0 (by omega) 9) (hK := ?_)) | (refine cQI (hac := specCopyInts_ok s0 (by omega) 9) (hK := ?_)))) | ((first | refine atF (f := 132) ?_ | refine atQ (f := 132) ?_); (first | (refine cFI (hac := lettersOf_ok p (by omega) 26) (hK := ?_)) | (refine cQI (hac := lettersOf_ok p (by omega) 26) (hK := ?_)))) | ((first | refine atF (f := 131) ?_ | refine atQ (f := 131) ?_); refine callS (Hp.le_emp _) (fun h hn => absurd rfl hn) (searchAdd0_ok s0 hl0) (scr4 _ _ _ _) rfl rfl rfl rfl ?_)); simp (maxSteps := 1000000) (dsimp := false) (implicitDefEqProofs := false) (disch := omega) only [wrap64, go_sem, pS_low, pS_1, pS_2, pS_3]) | apply_assumption -exfalso -symm)
  all_goals (first | (show endQ _ _ _ _ _ _ _; (repeat (rename (∀ (A : Fr) (H : Hp), AWP _ _ _ _ A H → _) => hK; clear hK)); (repeat (rename (Fr → Hp → Prop) => K; clear K))) | (show Exists _; (repeat (rename (∀ (A : Fr) (H : Hp), AWP _ _ _ _ A H → _) => hK; clear hK)); (repeat (rename (Fr → Hp → Prop) => K; clear K))) | skip)
  refine awp_loop (ι := Nat) (fun k => [(7, .v (.int .i64 (k))), (6, .list false 1 (lets p.m.length).length (cM iv 0 (lets p.m.length))), (5, .ref 5 0), (4, .ref 4 0), (2, .ref 2 0)]) (fun k => hS p (Bf.run (lsP p) s0 k).st (Bf.run (lsP p) s0 k).dp) (fun k => (∀ j, j < k → j < (Bf.run (lsP p) s0 j).st.length) ∧ (Bf.run (lsP p) s0 k).st.length ≤ 3000) (fun k => 3001 - k) 0 ⟨fun j hj => absurd hj (Nat.not_lt_zero j), by simp [Bf.run]⟩ (Sub.toL (by simp only [go_sem] <;> first | trivial | (simp only [Option.some.injEq, AV.v.injEq, AV.own.injEq, AV.list.injEq, Value.int.injEq, Value.bool.injEq, true_and, and_true]; first | omega | (simp; done)) | (simp; done) | (simp; omega)) (by unfold hS; repeat' (first | exact Hp.le_emp _ | refine Hp.le_upd rfl ?_))) ?_
  rintro k ⟨hk, hk3⟩
  have hJ := Bf.J.run hG hb0 k hk
  have hld := hJ.ld
  have hk4 : k ≤ 3000 := by
    by_cases e : k = 0
    · omega
    · have h1 := hk (k - 1) (by omega)
      have h2 := (Bf.run_more (Ls := lsP p) (s0 := s0) (show k - 1 ≤ k by omega)).st.length_le
      omega
  unfold hS
  repeat' (first | (refine ob4 rfl rfl rfl rfl ?_) | refine awp_seqK fun K hK => ?_ | (refine awp_regionK 149533649535991 rfl ?_; simp only [List.map_cons, List.map_nil]; simp (maxSteps := 1000000) (dsimp := false) (implicitDefEqProofs := false) (disch := omega) only [wrap64, go_sem]) | (refine awp_regionQK 149533649535991 (by kernel_rfl) (by kernel_rfl) (by kernel_rfl) ?_; simp only [List.map_cons, List.map_nil]; simp (maxSteps := 1000000) (dsimp := false) (implicitDefEqProofs := false) (disch := omega) only [wrap64, go_sem]) | refine awp_block ?_ | (refine awp_skip ?_; simp only [go_sem]) | (refine awp_exit ?_; simp only [go_sem]) | (refine awp_ret ?_; try simp only [go_sem]) | (refine awp_condP rfl ?_; try simp only [go_sem]) | (refine BrP.mk (fun h => ?_) (fun h => ?_) <;> try simp (dsimp := false) (disch := omega) only [wrap64]) | (refine Br.mk (fun h => ?_) (fun h => ?_) <;> try simp (dsimp := false) (disch := omega) only [wrap64]) | refine Ob.mk (by first | omega | (intro _ _; rfl) | trivial | (intros; trivial) | assumption | (intro i hi; have h0 : i = 0 := (by omega); subst h0; first | rfl | trivial) | (intro i hi; have h0 : i = 0 ∨ i = 1 := (by omega); rcases h0 with rfl | rfl <;> rfl) | (intro i hi; have h0 : i = 0 ∨ i = 1 ∨ i = 2 := (by omega); rcases h0 with rfl | rfl | rfl <;> rfl)) ?_ | apply_assumption -exfalso -symm)
  all_goals (first | (show endQ _ _ _ _ _ _ _; (repeat (rename (∀ (A : Fr) (H : Hp), AWP _ _ _ _ A H → _) => hK; clear hK)); (repeat (rename (Fr → Hp → Prop) => K; clear K))) | (show Exists _; (repeat (rename (∀ (A : Fr) (H : Hp), AWP _ _ _ _ A H → _) => hK; clear hK)); (repeat (rename (Fr → Hp → Prop) => K; clear K))) | skip)
  · have hh : ∀ j, j ≤ k → j < (Bf.run (lsP p) s0 j).st.length := fun j hj => by
      by_cases e : j = k
      · subst e; omega
      · exact hk j (by omega)
    have hh' : Hold (∀ j, j ≤ k → j < (Bf.run (lsP p) s0 j).st.length) := ⟨hh⟩
    refine awp_loop (ι := Nat) (fun i => [(8, .v (.int .i64 (i))), (7, .v (.int .i64 (k))), (6, .list false 1 (lets p.m.length).length (cM iv 0 (lets p.m.length))), (5, .ref 5 0), (4, .ref 4 0), (2, .ref 2 0)]) (fun i => hS p ((Bf.run (lsP p) s0 k).rows (lsP p) k i).1.st ((Bf.run (lsP p) s0 k).rows (lsP p) k i).1.dp) (fun i => i ≤ (lsP p).length ∧ ((Bf.run (lsP p) s0 k).rows (lsP p) k i).1.st.length ≤ 3000) (fun i => (lsP p).length - i) 0 ⟨Nat.zero_le _, hk3⟩ (Sub.toL (by simp only [go_sem] <;> first | trivial | (simp only [Option.some.injEq, AV.v.injEq, AV.own.injEq, AV.list.injEq, Value.int.injEq, Value.bool.injEq, true_and, and_true]; first | omega | (simp; done)) | (simp; done) | (simp; omega)) (by unfold hS; repeat' (first | exact Hp.le_emp _ | refine Hp.le_upd rfl ?_))) ?_
    rintro i ⟨hi, hi3⟩
    obtain ⟨hJ1, hD1, hkl, hrow⟩ := Bf.mid hG hb0 hh hi
    obtain ⟨X, hX⟩ : ∃ X, X = ((Bf.run (lsP p) s0 k).rows (lsP p) k i).1 := ⟨_, rfl⟩
    rw [← hX] at hJ1 hD1 hkl hrow hi3 ⊢
    clear hh hJ hld hk hk3 hk4
    have hJ1' : Hold (Bf.J p.n.toNat (lsP p) s0 X) := ⟨hJ1⟩
    have hsr : Srt s0.length X.st (sorts X.st) := Go.Pm.sorts_srt _ hJ1.nd fun s h => (hrow s h).1
    have hsl := hsr.len
    have hld := hJ1.ld
    have hdk := hD1.le k hkl
    have hl1 := lets_inL p.m i
    have hrk := hrow _ (Go.Pm.mem_getD hkl)
    have hrkl := hrk.1
    clear hJ1 hD1
    obtain ⟨y, hy⟩ : ∃ y, y = comp (X.st.getD k []) (letP p.m ((lets p.m.length).getD i 0)) := ⟨_, rfl⟩
    have hyl : y.length = s0.length := by rw [hy, Go.Pm.comp_length]; exact hrkl
    have hsi := searchIndex_ok s0.length X.st (sorts X.st) y hsr hJ1'.h.nd hyl hl0 hi3
    have hsa := searchAdd_ok s0.length X.st X.dp (sorts X.st) y (X.dp.getD k 0 + 1) false hsr hld hyl hl0 hi3
    unfold hS
    repeat' (first | (refine ob4 rfl rfl rfl rfl ?_) | (refine awp_regionEK (id := 13) 149533649535991 8 (by kernel_rfl) (by kernel_rfl) (by kernel_rfl) ?_; simp only [List.map_cons, List.map_nil, opsE, List.take_succ_cons, List.take_zero, List.drop_succ_cons, List.drop_zero]; simp (maxSteps := 1000000) (dsimp := false) (implicitDefEqProofs := false) (disch := omega) only [wrap64, go_sem, pS_low, pS_1, pS_2, pS_3, hy.symm]) | refine awp_seqK fun K hK => ?_ | (refine awp_regionK 149533649535991 rfl ?_; simp only [List.map_cons, List.map_nil]; simp (maxSteps := 1000000) (dsimp := false) (implicitDefEqProofs := false) (disch := omega) only [wrap64, go_sem, pS_low, pS_1, pS_2, pS_3, hy.symm]) | (refine awp_regionQK 149533649535991 (by kernel_rfl) (by kernel_rfl) (by kernel_rfl) ?_; simp only [List.map_cons, List.map_nil]; simp (maxSteps := 1000000) (dsimp := false) (implicitDefEqProofs := false) (disch := omega) only [wrap64, go_sem, pS_low, pS_1, pS_2, pS_3, hy.symm]) | refine awp_block ?_ | (refine awp_skip ?_; simp only [go_sem, pS_low, pS_1, pS_2, pS_3, hy.symm]) | (refine awp_exit ?_; simp only [go_sem, pS_low, pS_1, pS_2, pS_3, hy.symm]) | (refine awp_ret ?_; try simp only [go_sem, pS_low, pS_1, pS_2, pS_3, hy.symm]) | (refine awp_condP rfl ?_; try simp only [go_sem, pS_low, pS_1, pS_2, pS_3, hy.symm]) | (refine BrP.mk (fun h => ?_) (fun h => ?_) <;> try simp (dsimp := false) (disch := omega) only [wrap64]) | (refine Br.mk (fun h => ?_) (fun h => ?_) <;> try simp (dsimp := false) (disch := omega) only [wrap64]) | refine Ob.mk (by first | omega | (intro _ _; rfl) | trivial | (intros; trivial) | assumption | (intro i hi; have h0 : i = 0 := (by omega); subst h0; first | rfl | trivial) | (intro i hi; have h0 : i = 0 ∨ i = 1 := (by omega); rcases h0 with rfl | rfl <;> rfl) | (intro i hi; have h0 : i = 0 ∨ i = 1 ∨ i = 2 := (by omega); rcases h0 with rfl | rfl | rfl <;> rfl)) ?_ | ((first | ((first | refine atF (f := 133) ?_ | refine atQ (f := 133) ?_); (first | (refine cFI (hac := applyLetter_ok p (X.st.getD k []) ((lets p.m.length).getD i 0) hz (hl1 (by omega)) (by omega) (fun j hj => by have := hrk.2 j hj; omega) 25) (hK := ?_)) | (refine cQI (hac := applyLetter_ok p (X.st.getD k []) ((lets p.m.length).getD i 0) hz (hl1 (by omega)) (by omega) (fun j hj => by have := hrk.2 j hj; omega) 25) (hK := ?_)))) | ((first | refine atF (f := 71) ?_ | refine atQ (f := 71) ?_); refine cV (hfit := .cons (fits_sl rfl rfl rfl rfl rfl rfl trivial trivial) (.cons (.refl _) .nil)) (hac := hsi) (hK := ?_)) | ((first | refine atF (f := 131) ?_ | refine atQ (f := 131) ?_); refine callS (by repeat' (first | exact Hp.le_emp _ | refine Hp.le_upd rfl ?_)) (fun h hn => h3_ne.1 hn) hsa (scr4 _ _ _ _) rfl rfl rfl rfl ?_)); simp (maxSteps := 1000000) (dsimp := false) (implicitDefEqProofs := false) (disch := omega) only [wrap64, go_sem, pS_low, pS_1, pS_2, pS_3, hy.symm]) | apply_assumption -exfalso -symm)
    all_goals (first | (show endQ _ _ _ _ _ _ _; (repeat (rename (∀ (A : Fr) (H : Hp), AWP _ _ _ _ A H → _) => hK; clear hK)); (repeat (rename (Fr → Hp → Prop) => K; clear K))) | (show Exists _; (repeat (rename (∀ (A : Fr) (H : Hp), AWP _ _ _ _ A H → _) => hK; clear hK)); (repeat (rename (Fr → Hp → Prop) => K; clear K))) | skip)
    · have hym := sidx_yes.1 (by assumption)
      obtain ⟨e1, e2, _⟩ := Bf.rows_yes (Ls := lsP p) (k := k) (i := i) (B := Bf.run (lsP p) s0 k) (by omega) (by rw [← hX, lsP_get p i (by omega), ← hy]; exact hym)
      rw [← hX] at e1 e2
      refine ⟨i + 1, ⟨by omega, by rw [e1]; exact hi3⟩, by omega, ?_⟩
      rw [e1, e2]
      exact Sub.toL (by simp only [go_sem] <;> first | trivial | (simp only [Option.some.injEq, AV.v.injEq, AV.own.injEq, AV.list.injEq, Value.int.injEq, Value.bool.injEq, true_and, and_true]; first | omega | (simp; done)) | (simp; done) | (simp; omega)) (Hp.le_refl _)
    · have hym : y ∉ X.st := fun h => absurd (sidx_yes.2 h) (by assumption)
      have hcut : Bf.CutAt (lsP p) s0 k i := ⟨hh'.h, by omega, by rw [← hX, lsP_get p i (by omega), ← hy]; exact hym, by rw [← hX]; omega⟩
      have e : searchR p s0 = sFx X := by
        unfold searchR
        rw [Bf.cut hcut.1 hcut.2.1 hcut.2.2.1 (by rw [hcut.2.2.2]; exact Nat.le_refl _), Go.Pm.cutB_eq hcut, ← hX]
      rw [e]
      refine end_retCP rfl rfl (by simp only [go_sem]; rfl) rfl (by decide) (fun i hi => ?_) (fun i hi => ?_) ⟨rfl, rfl⟩
      · match i, hi with
        | 0, _ => trivial
        | 1, _ => trivial
        | 2, _ => trivial
        | 3, _ => trivial
      · match i, hi with
        | 0, _ => exact fits_II rfl trivial rfl rfl
        | 1, _ => exact fits_I rfl trivial rfl rfl
        | 2, _ => exact fits_I rfl trivial rfl rfl
        | 3, _ => exact .refl _
    · have hym : y ∉ X.st := fun h => absurd (sidx_yes.2 h) (by assumption)
      obtain ⟨e1, e2, _⟩ := Bf.rows_no (Ls := lsP p) (k := k) (i := i) (B := Bf.run (lsP p) s0 k) (by omega) (by rw [← hX, lsP_get p i (by omega), ← hy]; exact hym)
      rw [← hX, lsP_get p i (by omega), ← hy] at e1
      rw [← hX] at e2
      refine ⟨i + 1, ⟨by omega, by rw [e1]; simp; omega⟩, by omega, ?_⟩
      rw [e1, e2, Go.Pm.sorts_snoc]
      simp only [List.length_append, List.length_cons, List.length_nil, Go.Pm.insAt_length _ _ _ (hsr.slot y).le]
      exact Sub.toL (by simp only [go_sem] <;> first | trivial | (simp only [Option.some.injEq, AV.v.injEq, AV.own.injEq, AV.list.injEq, Value.int.injEq, Value.bool.injEq, true_and, and_true]; first | omega | (simp; done)) | (simp; done) | (simp; omega)) (by repeat' (first | exact Hp.le_emp _ | refine Hp.le_upd rfl ?_))
    · have e : i = (lsP p).length := by omega
      subst e
      have e1 : (Bf.run (lsP p) s0 (k + 1)).st = X.st := by rw [hX]; rfl
      have e2 : (Bf.run (lsP p) s0 (k + 1)).dp = X.dp := by rw [hX]; rfl
      refine ⟨k + 1, ⟨fun j hj => hh'.h j (by omega), by rw [e1]; exact hi3⟩, by omega, ?_⟩
      rw [e1, e2]
      exact Sub.toL (by simp only [go_sem] <;> first | trivial | (simp only [Option.some.injEq, AV.v.injEq, AV.own.injEq, AV.list.injEq, Value.int.injEq, Value.bool.injEq, true_and, and_true]; first | omega | (simp; done)) | (simp; done) | (simp; omega)) (Hp.le_refl _)
  · have hdn : Bf.Done (lsP p) s0 k := ⟨by
      by_cases e : k = 0
      · have := hJ.ne.2; omega
      · have h1 := hk (k - 1) (by omega)
        have h2 := (Bf.run_more (Ls := lsP p) (s0 := s0) (show k - 1 ≤ k by omega)).st.length_le
        omega, hk⟩
    have e : searchR p s0 = sF (Bf.run (lsP p) s0 k) := by
      unfold searchR
      rw [Go.Pm.srch_some ⟨k, hdn, by omega, rfl⟩]
    rw [e]
    refine end_retCP rfl rfl (by simp only [go_sem]; rfl) rfl (by decide) (fun i hi => ?_) (fun i hi => ?_) ⟨rfl, rfl⟩
    · match i, hi with
      | 0, _ => trivial
      | 1, _ => trivial
      | 2, _ => trivial
      | 3, _ => trivial
    · match i, hi with
      | 0, _ => exact fits_II rfl trivial rfl rfl
      | 1, _ => exact fits_I rfl trivial rfl rfl
      | 2, _ => exact fits_I rfl trivial rfl rfl
      | 3, _ => exact .refl _
end Go.Proofs.Ytiihgbobdipikaa
end
/- The reference's searches of states: what they return. -/
section
namespace Go.Proofs.Ytiihgbobdipikaa
open Go.Av
set_option linter.unusedSimpArgs false
set_option linter.unusedVariables false
attribute [local irreducible] AWP CallG Ob Br BrP Go.Av.Sub endQ AOps OpV AC thenA blkA opsVC opVC withA withArgs opsQ opQ CallQ withA2 withArgs2
open Go.Pm (Pm comp invp idn img Gen Bf srch sorts srtN Srt slot sidx insAt)

/-- The whole search of a puzzle, if it is valid and has not too many states. -/
noncomputable def XS (p : Pz) : Option Bf := if isPz p then srch (lsP p) (idn p.n.toNat) else none
theorem XS_yes {p : Pz} (h : isPz p) : XS p = srch (lsP p) (idn p.n.toNat) := if_pos h
theorem XS_no {p : Pz} (h : ¬ isPz p) : XS p = none := if_neg h
theorem XS_pz {p : Pz} {B : Bf} (h : XS p = some B) : isPz p := by
  by_cases e : isPz p
  · exact e
  · rw [XS_no e] at h; cases h
theorem idn_in (n : Nat) : ∀ j, j < (idn n).length → 0 ≤ (idn n).getD j 0 ∧ (idn n).getD j 0 < n := fun j hj => by
  rw [Go.Pm.idn_length] at hj; rw [Go.Pm.idn_get hj]; omega
theorem XS_whole {p : Pz} {B : Bf} (h : XS p = some B) : Bf.Whole p.n.toNat (lsP p) (idn p.n.toNat) B ∧ B.st.length ≤ 3000 := by
  have hz := XS_pz h
  rw [XS_yes hz] at h
  obtain ⟨K, h1, h2, rfl⟩ := Go.Pm.srch_fin h
  exact ⟨h1.whole (lsP_pm hz) (idn_in _), by have := h1.1; omega⟩
theorem fits4 {H : Hp} {D : Nat → Prop} {g : Nat → AV} {a b c d : AV} (ha : Fits H D (g 0) a) (hb : Fits H D (g 1) b) (hc : Fits H D (g 2) c) (hd : Fits H D (g 3) d) : ∀ i, i < 4 → Fits H D (g (0 + i)) (vecF [a, b, c, d] i) := fun i hi => by
  rw [Nat.zero_add]
  match i, hi with
  | 0, _ => exact ha
  | 1, _ => exact hb
  | 2, _ => exact hc
  | 3, _ => exact hd
theorem fits_slF {H : Hp} {D : Nat → Prop} {g : Nat → AV} {xs : List (List Int)} {so : List Int} (g0 : g 0 = .list false 1 (xs).length (cM ints [] (xs))) (g2 : g 2 = .list false 1 (so).length (cM iv 0 (so))) : Fits H D (.agg 4 g) (slA xs so) := by
  refine .agg fun i hi => ?_
  match i, hi with
  | 0, _ => rw [g0]; exact .refl _
  | 1, _ => exact .dead _
  | 2, _ => rw [g2]; exact .refl _
  | 3, _ => exact .dead _
theorem plainW (xs : List (List Int)) (dp so : List Int) (w : Bool) : ∀ i, i < 4 → (vecF [.list false 1 (xs).length (cM ints [] (xs)), .list false 1 (dp).length (cM iv 0 (dp)), .list false 1 (so).length (cM iv 0 (so)), .v (.bool (w))] i).plain := fun i hi => by
  match i, hi with
  | 0, _ => trivial
  | 1, _ => trivial
  | 2, _ => trivial
  | 3, _ => trivial
/-- A search's result, with its rows, whatever came of it. -/
noncomputable def XA (p : Pz) : Bf := match XS p with | some B => B | none => if isPz p then Go.Pm.cutB (lsP p) (idn p.n.toNat) else ⟨[], [], [], [], []⟩
theorem XA_some {p : Pz} {B : Bf} (h : XS p = some B) : XA p = B := by unfold XA; rw [h]
theorem searchStates_ok (p : Pz) : AC Try.prog 70 [pz p] Hp.emp (fun _ => false) (retV (.tup 2 (vecF [sFw (XA p).st (XA p).dp (sorts (XA p).st) (XS p).isSome, .v (.bool ((XS p).isSome))]))) := by
  have hac : isPz p → AC Try.prog 110 [pz p, ints (idn p.n.toNat)] Hp.emp (fun _ => false) (retV (sFw (XA p).st (XA p).dp (sorts (XA p).st) (XS p).isSome)) := fun h => by
    have hn := h.n
    have := searchFrom_ok p (idn p.n.toNat) h (by rw [Go.Pm.idn_length]; omega) (idn_in _)
    unfold searchR at this
    unfold XA
    rw [XS_yes h]
    cases e : srch (lsP p) (idn p.n.toNat) with
    | some B => rw [e] at this; exact this
    | none => rw [e] at this; simp only [if_pos h]; exact this
  have hid : isPz p → AC Try.prog 53 [.v (.int .i64 (p.n))] Hp.emp (fun _ => false) (retI 9 (idn p.n.toNat)) := fun h => by
    have := h.n
    have e := specIdentity_ok p.n.toNat (by omega) 9
    rwa [show ((p.n.toNat : Nat) : Int) = p.n by omega, ← idn_marks] at e
  have hno : ¬ isPz p → XA p = ⟨[], [], [], [], []⟩ ∧ (XS p).isSome = false := fun h => by
    unfold XA; rw [XS_no h]; simp only [if_neg h]; exact ⟨trivial, rfl⟩
  unfold sFw at hac ⊢
  refine ac_of_awp (N := ⟨_, fun _ => false, fun _ _ => rfl⟩) Try.func70 rfl (by kernel_rfl) Try.ntmps70 (by simp) ?_
  simp only [argsFr, List.zipIdx_cons, List.zipIdx_nil, go_sem]
  repeat' (first | (refine ob4 rfl rfl rfl rfl ?_) | (refine awp_regionPK (id := 3) 159 5 5 (by kernel_rfl) (by kernel_rfl) (by kernel_rfl) ?_; simp only [List.map_cons, List.map_nil, opsP, List.take_succ_cons, List.take_zero, List.drop_succ_cons, List.drop_zero]; simp (maxSteps := 1000000) (dsimp := false) (implicitDefEqProofs := false) (disch := omega) only [wrap64, go_sem]) | (refine awp_regionPK (id := 4) 159 3 3 (by kernel_rfl) (by kernel_rfl) (by kernel_rfl) ?_; simp only [List.map_cons, List.map_nil, opsP, List.take_succ_cons, List.take_zero, List.drop_succ_cons, List.drop_zero]; simp (maxSteps := 1000000) (dsimp := false) (implicitDefEqProofs := false) (disch := omega) only [wrap64, go_sem]) | refine awp_seqK fun K hK => ?_ | (refine awp_regionK 159 rfl ?_; simp only [List.map_cons, List.map_nil]; simp (maxSteps := 1000000) (dsimp := false) (implicitDefEqProofs := false) (disch := omega) only [wrap64, go_sem]) | (refine awp_regionQK 159 (by kernel_rfl) (by kernel_rfl) (by kernel_rfl) ?_; simp only [List.map_cons, List.map_nil]; simp (maxSteps := 1000000) (dsimp := false) (implicitDefEqProofs := false) (disch := omega) only [wrap64, go_sem]) | refine awp_block ?_ | (refine awp_skip ?_; simp only [go_sem]) | (refine awp_exit ?_; simp only [go_sem]) | (refine awp_ret ?_; try simp only [go_sem]) | (refine awp_condP rfl ?_; try simp only [go_sem]) | (refine BrP.mk (fun h => ?_) (fun h => ?_) <;> try simp (dsimp := false) (disch := omega) only [wrap64]) | (refine Br.mk (fun h => ?_) (fun h => ?_) <;> try simp (dsimp := false) (disch := omega) only [wrap64]) | refine Ob.mk (by first | omega | (intro _ _; rfl) | trivial | (intros; trivial) | assumption | (intro i hi; have h0 : i = 0 := (by omega); subst h0; first | rfl | trivial) | (intro i hi; have h0 : i = 0 ∨ i = 1 := (by omega); rcases h0 with rfl | rfl <;> rfl) | (intro i hi; have h0 : i = 0 ∨ i = 1 ∨ i = 2 := (by omega); rcases h0 with rfl | rfl | rfl <;> rfl)) ?_ | ((first | ((first | refine atF (f := 65) ?_ | refine atQ (f := 65) ?_); (first | (refine cV (hac := specIsValidPuzzle_ok p) (hK := ?_)) | (refine cQV (hac := specIsValidPuzzle_ok p) (hK := ?_)))) | (refine cFI (hac := hid (by assumption)) (hK := ?_)) | (refine cQI (hac := hid (by assumption)) (hK := ?_)) | (refine cR (hac := hac (by assumption)) (hK := ?_) (hs := sFw_scrub _ _ _ _ _)) | (refine cQR (hac := hac (by assumption)) (hK := ?_) (hp := plainW _ _ _ _))); simp (maxSteps := 1000000) (dsimp := false) (implicitDefEqProofs := false) (disch := omega) only [wrap64, go_sem]) | apply_assumption -exfalso -symm)
  all_goals (first | (show endQ _ _ _ _ _ _ _; (repeat (rename (∀ (A : Fr) (H : Hp), AWP _ _ _ _ A H → _) => hK; clear hK)); (repeat (rename (Fr → Hp → Prop) => K; clear K))) | (show Exists _; (repeat (rename (∀ (A : Fr) (H : Hp), AWP _ _ _ _ A H → _) => hK; clear hK)); (repeat (rename (Fr → Hp → Prop) => K; clear K))) | skip)
  · exact end_retCP2 rfl (by decide) rfl rfl (by simp only [go_sem]; rfl) rfl (by decide) (plainW _ _ _ _) (fits4 (.refl _) (.refl _) (.refl _) (.refl _)) ⟨rfl, rfl⟩
  · obtain ⟨e1, e2⟩ := hno (by assumption)
    rw [e1, e2]
    exact end_retCP2 rfl (by decide) rfl rfl (by simp only [go_sem]; rfl) rfl (by decide) (plainW _ _ _ _) (fits4 .nil .nil .nil (.refl _)) ⟨rfl, rfl⟩
theorem XA_whole {p : Pz} (h : (XS p).isSome = true) : isPz p ∧ Bf.Whole p.n.toNat (lsP p) (idn p.n.toNat) (XA p) ∧ (XA p).st.length ≤ 3000 := by
  obtain ⟨B, hB⟩ := Option.isSome_iff_exists.1 h
  rw [XA_some hB]
  obtain ⟨h1, h2⟩ := XS_whole hB
  exact ⟨XS_pz hB, h1, h2⟩
theorem XA_srt {p : Pz} (h : (XS p).isSome = true) : Srt p.n.toNat (XA p).st (sorts (XA p).st) := by
  obtain ⟨_, hw, _⟩ := XA_whole h
  exact Go.Pm.sorts_srt (m := p.n.toNat) _ hw.nd (fun s hs => by rw [hw.len s hs, Go.Pm.idn_length])
theorem XA_basic (p : Pz) : (XA p).st.length ≤ 3000 ∧ (XA p).dp.length = (XA p).st.length := by
  cases hX : XS p with
  | some B =>
    rw [XA_some hX]
    obtain ⟨hw, hx⟩ := XS_whole hX
    exact ⟨hx, hw.ld⟩
  | none =>
    unfold XA
    rw [hX]
    by_cases h : isPz p
    · simp only [if_pos h]
      exact Go.Pm.cutB_basic (lsP_pm h) (idn_in _)
    · simp only [if_neg h]
      exact ⟨by simp, rfl⟩
theorem XAt_scrub (p : Pz) (q : Nat → Bool) (x : Bool) : (AV.tup 2 (vecF [sFw (XA p).st (XA p).dp (sorts (XA p).st) x, .v (.bool (x))])).scrub q = .tup 2 (vecF [sFw (XA p).st (XA p).dp (sorts (XA p).st) x, .v (.bool (x))]) := by
  simp only [scrub_tup, scF_vecF, List.map_cons, List.map_nil, sFw_scrub, scrub_v]
theorem XAu_scrub (p : Pz) (q : Nat → Bool) (x : Bool) (a b : Value) : (AV.tup 3 (vecF [sFw (XA p).st (XA p).dp (sorts (XA p).st) x, .v a, .v b])).scrub q = .tup 3 (vecF [sFw (XA p).st (XA p).dp (sorts (XA p).st) x, .v a, .v b]) := by
  simp only [scrub_tup, scF_vecF, List.map_cons, List.map_nil, sFw_scrub, scrub_v]
theorem isSt.len {p : Pz} {s : List Int} (h : isSt p s) : s.length = p.n.toNat := by have := (isSt_len h).1; omega
theorem isPz.n20 {p : Pz} (h : isPz p) : p.n.toNat ≤ 20 := by have := h.n; omega
/-- The depth of a state, or -1. -/
def depD (B : Bf) (s : List Int) : Int := if s ∈ B.st then B.dp.getD (B.st.idxOf s) 0 else -1
theorem depthOf_ok (m : Nat) (B : Bf) (s : List Int) (w : Bool) (h0 : Srt m B.st (sorts B.st)) (nd : B.st.Nodup) (hs0 : s.length = m) (hm : m ≤ 20) (hx : B.st.length ≤ 3000) (hld : B.dp.length = B.st.length) : AC Try.prog 113 [sFw B.st B.dp (sorts B.st) w, ints s] Hp.emp (fun _ => false) (retV (.v (.int .i64 (depD B s)))) := by
  have hsi := searchIndex_ok m B.st (sorts B.st) s h0 nd hs0 hm hx
  have hlt : 0 ≤ sidx B.st s → sidx B.st s < B.st.length := fun h => by
    have hm := sidx_yes.1 h
    unfold Go.Pm.sidx; rw [if_pos hm]
    have := List.idxOf_lt_length_iff.2 hm
    omega
  unfold sFw
  refine ac_of_awp (N := ⟨_, fun _ => false, fun _ _ => rfl⟩) Try.func113 rfl (by kernel_rfl) Try.ntmps113 (by simp) ?_
  simp only [argsFr, List.zipIdx_cons, List.zipIdx_nil, go_sem]
  repeat' (first | refine awp_seqK fun K hK => ?_ | (refine awp_regionK 1079 rfl ?_; simp only [List.map_cons, List.map_nil]; simp (maxSteps := 1000000) (dsimp := false) (implicitDefEqProofs := false) (disch := omega) only [wrap64, go_sem]) | (refine awp_regionQK 1079 (by kernel_rfl) (by kernel_rfl) (by kernel_rfl) ?_; simp only [List.map_cons, List.map_nil]; simp (maxSteps := 1000000) (dsimp := false) (implicitDefEqProofs := false) (disch := omega) only [wrap64, go_sem]) | refine awp_block ?_ | (refine awp_skip ?_; simp only [go_sem]) | (refine awp_exit ?_; simp only [go_sem]) | (refine awp_ret ?_; try simp only [go_sem]) | (refine awp_condP rfl ?_; try simp only [go_sem]) | (refine BrP.mk (fun h => ?_) (fun h => ?_) <;> try simp (dsimp := false) (disch := omega) only [wrap64]) | (refine Br.mk (fun h => ?_) (fun h => ?_) <;> try simp (dsimp := false) (disch := omega) only [wrap64]) | refine Ob.mk (by first | omega | (intro _ _; rfl) | trivial | (intros; trivial) | assumption | (intro i hi; have h0 : i = 0 := (by omega); subst h0; first | rfl | trivial) | (intro i hi; have h0 : i = 0 ∨ i = 1 := (by omega); rcases h0 with rfl | rfl <;> rfl) | (intro i hi; have h0 : i = 0 ∨ i = 1 ∨ i = 2 := (by omega); rcases h0 with rfl | rfl | rfl <;> rfl)) ?_ | ((first | ((first | refine atF (f := 71) ?_ | refine atQ (f := 71) ?_); refine cV (hfit := .cons (fits_slF rfl rfl) (.cons (.refl _) .nil)) (hac := hsi) (hK := ?_))); simp (maxSteps := 1000000) (dsimp := false) (implicitDefEqProofs := false) (disch := omega) only [wrap64, go_sem]) | apply_assumption -exfalso -symm)
  all_goals (first | (show endQ _ _ _ _ _ _ _; (repeat (rename (∀ (A : Fr) (H : Hp), AWP _ _ _ _ A H → _) => hK; clear hK)); (repeat (rename (Fr → Hp → Prop) => K; clear K))) | (show Exists _; (repeat (rename (∀ (A : Fr) (H : Hp), AWP _ _ _ _ A H → _) => hK; clear hK)); (repeat (rename (Fr → Hp → Prop) => K; clear K))) | skip)
  · exact end_retN rfl rfl (by unfold depD; rw [if_neg (fun h => absurd (sidx_yes.2 h) (by omega))])
  · have hm := sidx_yes.1 (show 0 ≤ sidx B.st s by omega)
    refine end_retN rfl rfl ?_
    unfold depD Go.Pm.sidx
    rw [if_pos hm, if_pos hm]; rfl
/-- The depth of a state in the search of a puzzle, or -1. -/
noncomputable def dstP (p : Pz) (s : List Int) : Int := if (XS p).isSome = true ∧ isSt p s then depD (XA p) s else -1
theorem depP_ok {p : Pz} {s : List Int} {w : Bool} (h : (XS p).isSome = true) (hl : s.length = p.n.toNat) : AC Try.prog 113 [sFw (XA p).st (XA p).dp (sorts (XA p).st) w, ints s] Hp.emp (fun _ => false) (retV (.v (.int .i64 (depD (XA p) s)))) := by
  obtain ⟨hz, hw, hx⟩ := XA_whole h
  exact depthOf_ok p.n.toNat (XA p) s w (XA_srt h) hw.nd hl hz.n20 hx hw.ld
theorem idxP_ok {p : Pz} {s : List Int} (h : (XS p).isSome = true) (hl : s.length = p.n.toNat) : AC Try.prog 71 [slA (XA p).st (sorts (XA p).st), ints s] Hp.emp (fun _ => false) (retV (.v (.int .i64 (sidx (XA p).st s)))) := by
  obtain ⟨hz, hw, hx⟩ := XA_whole h
  exact searchIndex_ok p.n.toNat _ _ s (XA_srt h) hw.nd hl hz.n20 hx
theorem searchState_ok (p : Pz) (s : List Int) : AC Try.prog 76 [pz p, ints s] Hp.emp (fun _ => false) (retV (.tup 3 (vecF [sFw (XA p).st (XA p).dp (sorts (XA p).st) (XS p).isSome, .v (.int .i64 (dstP p s)), .v (.bool (decide (0 ≤ dstP p s)))]))) := by
  have hac := searchStates_ok p
  have hsc := XAt_scrub p (fun _ => true) (XS p).isSome
  have hdo : (XS p).isSome = true → isSt p s → AC Try.prog 113 [sFw (XA p).st (XA p).dp (sorts (XA p).st) (XS p).isSome, ints s] Hp.emp (fun _ => false) (retV (.v (.int .i64 (depD (XA p) s)))) := fun h h2 => depP_ok h h2.len
  have hy : (XS p).isSome = true → isSt p s → dstP p s = depD (XA p) s := fun h h2 => if_pos ⟨h, h2⟩
  have hn1 : (XS p).isSome = false → dstP p s = -1 := fun h => if_neg (fun k => by rw [h] at k; simp at k)
  have hn2 : ¬ isSt p s → dstP p s = -1 := fun h => if_neg (fun k => h k.2)
  unfold sFw at hac hdo hsc ⊢
  refine ac_of_awp (N := ⟨_, fun _ => false, fun _ _ => rfl⟩) Try.func76 rfl (by kernel_rfl) Try.ntmps76 (by simp) ?_
  simp only [argsFr, List.zipIdx_cons, List.zipIdx_nil, go_sem]
  repeat' (first | (refine ob4 rfl rfl rfl rfl ?_) | refine awp_seqK fun K hK => ?_ | (refine awp_regionK 4195319 rfl ?_; simp only [List.map_cons, List.map_nil]; simp (maxSteps := 1000000) (dsimp := false) (implicitDefEqProofs := false) (disch := omega) only [wrap64, go_sem]) | (refine awp_regionQK 4195319 (by kernel_rfl) (by kernel_rfl) (by kernel_rfl) ?_; simp only [List.map_cons, List.map_nil]; simp (maxSteps := 1000000) (dsimp := false) (implicitDefEqProofs := false) (disch := omega) only [wrap64, go_sem]) | refine awp_block ?_ | (refine awp_skip ?_; simp only [go_sem]) | (refine awp_exit ?_; simp only [go_sem]) | (refine awp_ret ?_; try simp only [go_sem]) | (refine awp_condP rfl ?_; try simp only [go_sem]) | (refine BrP.mk (fun h => ?_) (fun h => ?_) <;> try simp (dsimp := false) (disch := omega) only [wrap64]) | (refine Br.mk (fun h => ?_) (fun h => ?_) <;> try simp (dsimp := false) (disch := omega) only [wrap64]) | refine Ob.mk (by first | omega | (intro _ _; rfl) | trivial | (intros; trivial) | assumption | (intro i hi; have h0 : i = 0 := (by omega); subst h0; first | rfl | trivial) | (intro i hi; have h0 : i = 0 ∨ i = 1 := (by omega); rcases h0 with rfl | rfl <;> rfl) | (intro i hi; have h0 : i = 0 ∨ i = 1 ∨ i = 2 := (by omega); rcases h0 with rfl | rfl | rfl <;> rfl)) ?_ | ((first | (refine cR (hac := hac) (hK := ?_) (hs := hsc)) | ((first | refine atF (f := 40) ?_ | refine atQ (f := 40) ?_); (first | (refine cV (hac := specIsState_ok p s) (hK := ?_)) | (refine cQV (hac := specIsState_ok p s) (hK := ?_)))) | (refine cV (hac := hdo (by assumption) (by assumption)) (hK := ?_)) | (refine cQV (hac := hdo (by assumption) (by assumption)) (hK := ?_))); simp (maxSteps := 1000000) (dsimp := false) (implicitDefEqProofs := false) (disch := omega) only [wrap64, go_sem]) | apply_assumption -exfalso -symm)
  all_goals (first | (show endQ _ _ _ _ _ _ _; (repeat (rename (∀ (A : Fr) (H : Hp), AWP _ _ _ _ A H → _) => hK; clear hK)); (repeat (rename (Fr → Hp → Prop) => K; clear K))) | (show Exists _; (repeat (rename (∀ (A : Fr) (H : Hp), AWP _ _ _ _ A H → _) => hK; clear hK)); (repeat (rename (Fr → Hp → Prop) => K; clear K))) | skip)
  · rw [← hy (by assumption) (by assumption)]
    exact end_retCP3 rfl (by decide) (by decide) (by decide) rfl rfl rfl (by simp only [go_sem]; rfl) rfl (by decide) (plainW _ _ _ _) (fits4 (.refl _) (.refl _) (.refl _) (.refl _)) ⟨rfl, rfl⟩
  · rw [hn2 (by assumption)]
    exact end_retCP3 rfl (by decide) (by decide) (by decide) rfl rfl rfl (by simp only [go_sem]; rfl) rfl (by decide) (plainW _ _ _ _) (fits4 (.refl _) (.refl _) (.refl _) (.refl _)) ⟨rfl, rfl⟩
  · rw [hn1 (by assumption)]
    exact end_retCP3 rfl (by decide) (by decide) (by decide) rfl rfl rfl (by simp only [go_sem]; rfl) rfl (by decide) (plainW _ _ _ _) (fits4 (.refl _) (.refl _) (.refl _) (.refl _)) ⟨rfl, rfl⟩
end Go.Proofs.Ytiihgbobdipikaa
end
/- The reference's answers on reachable states. -/
section
namespace Go.Proofs.Ytiihgbobdipikaa
open Go.Av
set_option linter.unusedSimpArgs false
set_option linter.unusedVariables false
attribute [local irreducible] AWP CallG Ob Br BrP Go.Av.Sub endQ AOps OpV AC thenA blkA opsVC opVC withA withArgs opsQ opQ CallQ withA2 withArgs2
open Go.Pm (Pm comp invp idn img Gen Bf srch sorts srtN Srt slot sidx insAt)

/- ReachableStates -/
noncomputable def reaS (p : Pz) : List (List Int) := if (XS p).isSome = true then (XA p).st else []
noncomputable def reaD (p : Pz) : List Int := if (XS p).isSome = true then (XA p).dp else []
/- StateIndex, Diameter, Distance -/
noncomputable def idxS (p : Pz) (s : List Int) : Int := if (XS p).isSome = true ∧ isSt p s then sidx (XA p).st s else -1
theorem specStateIndex_ok (p : Pz) (s : List Int) : AC Try.prog 30 [pz p, ints s] Hp.emp (fun _ => false) (retV (.v (.int .i64 (idxS p s)))) := by
  have hac := searchStates_ok p
  have hsc := XAt_scrub p (fun _ => true) (XS p).isSome
  have hid : (XS p).isSome = true → isSt p s → AC Try.prog 71 [slA (XA p).st (sorts (XA p).st), ints s] Hp.emp (fun _ => false) (retV (.v (.int .i64 (sidx (XA p).st s)))) := fun h h2 => idxP_ok h h2.len
  unfold sFw at hac hsc
  refine ac_of_awp (N := ⟨_, fun _ => false, fun _ _ => rfl⟩) Try.func30 rfl (by kernel_rfl) Try.ntmps30 (by simp) ?_
  simp only [argsFr, List.zipIdx_cons, List.zipIdx_nil, go_sem]
  repeat' (first | (refine ob4 rfl rfl rfl rfl ?_) | refine awp_seqK fun K hK => ?_ | (refine awp_regionK 524407 rfl ?_; simp only [List.map_cons, List.map_nil]; simp (maxSteps := 1000000) (dsimp := false) (implicitDefEqProofs := false) (disch := omega) only [wrap64, go_sem]) | (refine awp_regionQK 524407 (by kernel_rfl) (by kernel_rfl) (by kernel_rfl) ?_; simp only [List.map_cons, List.map_nil]; simp (maxSteps := 1000000) (dsimp := false) (implicitDefEqProofs := false) (disch := omega) only [wrap64, go_sem]) | refine awp_block ?_ | (refine awp_skip ?_; simp only [go_sem]) | (refine awp_exit ?_; simp only [go_sem]) | (refine awp_ret ?_; try simp only [go_sem]) | (refine awp_condP rfl ?_; try simp only [go_sem]) | (refine BrP.mk (fun h => ?_) (fun h => ?_) <;> try simp (dsimp := false) (disch := omega) only [wrap64]) | (refine Br.mk (fun h => ?_) (fun h => ?_) <;> try simp (dsimp := false) (disch := omega) only [wrap64]) | refine Ob.mk (by first | omega | (intro _ _; rfl) | trivial | (intros; trivial) | assumption | (intro i hi; have h0 : i = 0 := (by omega); subst h0; first | rfl | trivial) | (intro i hi; have h0 : i = 0 ∨ i = 1 := (by omega); rcases h0 with rfl | rfl <;> rfl) | (intro i hi; have h0 : i = 0 ∨ i = 1 ∨ i = 2 := (by omega); rcases h0 with rfl | rfl | rfl <;> rfl)) ?_ | ((first | (refine cR (hac := hac) (hK := ?_) (hs := hsc)) | ((first | refine atF (f := 40) ?_ | refine atQ (f := 40) ?_); (first | (refine cV (hac := specIsState_ok p s) (hK := ?_)) | (refine cQV (hac := specIsState_ok p s) (hK := ?_)))) | ((first | refine atF (f := 71) ?_ | refine atQ (f := 71) ?_); refine cV (hfit := .cons (fits_slF rfl rfl) (.cons (.refl _) .nil)) (hac := hid (by assumption) (by assumption)) (hK := ?_))); simp (maxSteps := 1000000) (dsimp := false) (implicitDefEqProofs := false) (disch := omega) only [wrap64, go_sem]) | apply_assumption -exfalso -symm)
  all_goals (first | (show endQ _ _ _ _ _ _ _; (repeat (rename (∀ (A : Fr) (H : Hp), AWP _ _ _ _ A H → _) => hK; clear hK)); (repeat (rename (Fr → Hp → Prop) => K; clear K))) | (show Exists _; (repeat (rename (∀ (A : Fr) (H : Hp), AWP _ _ _ _ A H → _) => hK; clear hK)); (repeat (rename (Fr → Hp → Prop) => K; clear K))) | skip)
  · exact end_retN rfl rfl (if_pos ⟨by assumption, by assumption⟩).symm
  · exact end_retN rfl rfl (if_neg (fun h => absurd h.2 (by assumption))).symm
  · exact end_retN rfl rfl (if_neg (fun h => by simp_all)).symm
noncomputable def diamP (p : Pz) : Int := if (XS p).isSome = true then (XA p).dp.getD ((XA p).st.length - 1) 0 else -1
theorem specDistance_ok (p : Pz) (s : List Int) : AC Try.prog 36 [pz p, ints s] Hp.emp (fun _ => false) (retV (.v (.int .i64 (dstP p s)))) := by
  have hac := searchState_ok p s
  have hn : ¬ 0 ≤ dstP p s → dstP p s = -1 := fun h => by
    unfold dstP at h ⊢
    split at h
    · rename_i e
      rw [if_pos e]
      unfold depD at h ⊢
      split at h
      · rename_i hm
        obtain ⟨hz, hw, hx⟩ := XA_whole e.1
        exact absurd (hw.le _ (List.idxOf_lt_length_iff.2 hm)).1 h
      · rename_i hm
        rw [if_neg hm]
    · rename_i e
      rw [if_neg e]
  have hsc : (AV.tup 3 (vecF [sFw (XA p).st (XA p).dp (sorts (XA p).st) (XS p).isSome, .v (.int .i64 (dstP p s)), .v (.bool (decide (0 ≤ dstP p s)))])).scrub (fun _ => true) = _ := XAu_scrub p _ _ _ _
  unfold sFw at hac hsc
  refine ac_of_awp (N := ⟨_, fun _ => false, fun _ _ => rfl⟩) Try.func36 rfl (by kernel_rfl) Try.ntmps36 (by simp) ?_
  simp only [argsFr, List.zipIdx_cons, List.zipIdx_nil, go_sem]
  repeat' (first | (refine ob4 rfl rfl rfl rfl ?_) | refine awp_seqK fun K hK => ?_ | (refine awp_regionK 65751 rfl ?_; simp only [List.map_cons, List.map_nil]; simp (maxSteps := 1000000) (dsimp := false) (implicitDefEqProofs := false) (disch := omega) only [wrap64, go_sem]) | (refine awp_regionQK 65751 (by kernel_rfl) (by kernel_rfl) (by kernel_rfl) ?_; simp only [List.map_cons, List.map_nil]; simp (maxSteps := 1000000) (dsimp := false) (implicitDefEqProofs := false) (disch := omega) only [wrap64, go_sem]) | refine awp_block ?_ | (refine awp_skip ?_; simp only [go_sem]) | (refine awp_exit ?_; simp only [go_sem]) | (refine awp_ret ?_; try simp only [go_sem]) | (refine awp_condP rfl ?_; try simp only [go_sem]) | (refine BrP.mk (fun h => ?_) (fun h => ?_) <;> try simp (dsimp := false) (disch := omega) only [wrap64]) | (refine Br.mk (fun h => ?_) (fun h => ?_) <;> try simp (dsimp := false) (disch := omega) only [wrap64]) | refine Ob.mk (by first | omega | (intro _ _; rfl) | trivial | (intros; trivial) | assumption | (intro i hi; have h0 : i = 0 := (by omega); subst h0; first | rfl | trivial) | (intro i hi; have h0 : i = 0 ∨ i = 1 := (by omega); rcases h0 with rfl | rfl <;> rfl) | (intro i hi; have h0 : i = 0 ∨ i = 1 ∨ i = 2 := (by omega); rcases h0 with rfl | rfl | rfl <;> rfl)) ?_ | ((first | (refine cR (hac := hac) (hK := ?_) (hs := hsc))); simp (maxSteps := 1000000) (dsimp := false) (implicitDefEqProofs := false) (disch := omega) only [wrap64, go_sem]) | apply_assumption -exfalso -symm)
  all_goals (first | (show endQ _ _ _ _ _ _ _; (repeat (rename (∀ (A : Fr) (H : Hp), AWP _ _ _ _ A H → _) => hK; clear hK)); (repeat (rename (Fr → Hp → Prop) => K; clear K))) | (show Exists _; (repeat (rename (∀ (A : Fr) (H : Hp), AWP _ _ _ _ A H → _) => hK; clear hK)); (repeat (rename (Fr → Hp → Prop) => K; clear K))) | skip)
  · exact end_retN rfl rfl rfl
  · exact end_retN rfl rfl (hn (by assumption)).symm

/- FarthestState -/
/-- The box of a puzzle and the result of its search. -/
noncomputable def hX (p : Pz) (a b : Nat) : Hp := (Hp.emp.upd a (.cells 3 (vecF [.v (.int .i64 p.n), .v (.string p.s), .list false 1 (p.m).length (cM ints [] (p.m))]))).upd b (.cells 4 (vecF [.list false 1 ((XA p).st).length (cM ints [] ((XA p).st)), .list false 1 ((XA p).dp).length (cM iv 0 ((XA p).dp)), .list false 1 (sorts (XA p).st).length (cM iv 0 (sorts (XA p).st)), .v (.bool ((XS p).isSome))]))
def farI (B : Bf) : Nat := B.dp.findIdx fun d => decide (¬ d < B.dp.getD (B.st.length - 1) 0)
noncomputable def farP (p : Pz) : List Int := if (XS p).isSome = true then (XA p).st.getD (farI (XA p)) [] else []
/- StatesAtDepth -/
def atD (B : Bf) (d : Int) (k : Nat) : List (List Int) := ((List.range k).filter fun j => decide (B.dp.getD j 0 = d)).map fun j => B.st.getD j []
theorem atD_succ (B : Bf) (d : Int) (k : Nat) : atD B d (k + 1) = atD B d k ++ if B.dp.getD k 0 = d then [B.st.getD k []] else [] := by
  unfold atD
  rw [List.range_succ, List.filter_append, List.map_append]
  congr 1
  by_cases h : B.dp.getD k 0 = d
  · rw [if_pos h, List.filter_cons_of_pos (by simpa using h)]; rfl
  · rw [if_neg h, List.filter_cons_of_neg (by simpa using h)]; rfl
theorem atD_le (B : Bf) (d : Int) (k : Nat) : (atD B d k).length ≤ k := by
  unfold atD; rw [List.length_map]; exact Nat.le_trans (List.length_filter_le _ _) (by simp)
noncomputable def statD (p : Pz) (d : Int) : List (List Int) := if (XS p).isSome = true then atD (XA p) d (XA p).st.length else []
end Go.Proofs.Ytiihgbobdipikaa
end
/- The program's key of a state. -/
section
namespace Go.Proofs.Ytiihgbobdipikaa
open Go.Av
set_option linter.unusedSimpArgs false
set_option linter.unusedVariables false
attribute [local irreducible] AWP CallG Ob Br BrP Go.Av.Sub endQ AOps OpV AC thenA blkA opsVC opVC withA withArgs opsQ opQ CallQ withA2 withArgs2
open Go.Pm (Pm comp invp idn img Gen Bf srch sorts srtN Srt slot sidx insAt)

def kf (s : List Int) (k j : Nat) : AV := if j < k then .v (.int .u8 (s.getD j 0)) else .v (.int .u8 0)
def keyB (s : List Int) : ByteArray := strOf s.length (kf s s.length)
def isB (s : List Int) : Prop := ∀ j, j < s.length → 0 ≤ s.getD j 0 ∧ s.getD j 0 < 256
theorem wrap8 {x : Int} (h : 0 ≤ x ∧ x < 256) : IntKind.u8.wrap x = x := by
  simp only [IntKind.wrap]
  rw [show (2 : Int) ^ IntKind.u8.bits = 256 from rfl, show IntKind.u8.signed = false from rfl]
  simp only [Bool.false_and, Bool.false_eq_true, if_false]
  omega
theorem keyB_inj {s t : List Int} (hs : isB s) (ht : isB t) (e : keyB s = keyB t) : s = t := by
  unfold keyB strOf at e
  have h1 := congrArg (fun b : ByteArray => b.data.toList) e
  simp only [List.toList_toArray] at h1
  have hl : s.length = t.length := by simpa using congrArg List.length h1
  refine Go.Pm.ext hl fun j hj => ?_
  have ht' : j < t.length := by omega
  have h2 : Go.Av.byteOf (kf s s.length j) = Go.Av.byteOf (kf t t.length j) := by
    have h2 := congrArg (fun l : List UInt8 => l[j]?) h1
    simpa [hj, ht'] using h2
  unfold kf at h2
  rw [if_pos hj, if_pos ht'] at h2
  have h3 := hs j hj
  have h4 := ht j ht'
  have h5 := congrArg UInt8.toNat h2
  simp only [Go.Av.byteOf, UInt8.toNat_ofNat'] at h5
  omega
theorem kf_byte (s : List Int) (k n : Nat) : ∀ i, i < n → isByte (kf s k i) := fun i _ => by
  unfold kf
  split
  · exact ⟨_, rfl⟩
  · exact ⟨_, rfl⟩
theorem stateKey_ok (s : List Int) (hs0 : s.length ≤ 1048576) (hb0 : isB s) : AC Try.prog 103 [ints s] Hp.emp (fun _ => false) (retV (.v (.string (keyB s)))) := by
  refine ac_of_awp (N := ⟨_, fun _ => false, fun _ _ => rfl⟩) Try.func103 rfl (by kernel_rfl) Try.ntmps103 (by simp) ?_
  simp only [argsFr, List.zipIdx_cons, List.zipIdx_nil, go_sem]
  repeat' (first | refine awp_seqK fun K hK => ?_ | (refine awp_regionK 7741 rfl ?_; simp only [List.map_cons, List.map_nil]; simp (maxSteps := 1000000) (dsimp := false) (implicitDefEqProofs := false) (disch := omega) only [wrap64, go_sem]) | (refine awp_regionQK 7741 (by kernel_rfl) (by kernel_rfl) (by kernel_rfl) ?_; simp only [List.map_cons, List.map_nil]; simp (maxSteps := 1000000) (dsimp := false) (implicitDefEqProofs := false) (disch := omega) only [wrap64, go_sem]) | refine awp_block ?_ | (refine awp_skip ?_; simp only [go_sem]) | (refine awp_exit ?_; simp only [go_sem]) | (refine awp_ret ?_; try simp only [go_sem]) | (refine awp_condP rfl ?_; try simp only [go_sem]) | (refine BrP.mk (fun h => ?_) (fun h => ?_) <;> try simp (dsimp := false) (disch := omega) only [wrap64]) | (refine Br.mk (fun h => ?_) (fun h => ?_) <;> try simp (dsimp := false) (disch := omega) only [wrap64]) | refine Ob.mk (by first | omega | (intro _ _; rfl) | trivial | (intros; trivial) | assumption | (intro i hi; have h0 : i = 0 := (by omega); subst h0; first | rfl | trivial) | (intro i hi; have h0 : i = 0 ∨ i = 1 := (by omega); rcases h0 with rfl | rfl <;> rfl) | (intro i hi; have h0 : i = 0 ∨ i = 1 ∨ i = 2 := (by omega); rcases h0 with rfl | rfl | rfl <;> rfl)) ?_ | apply_assumption -exfalso -symm)
  all_goals (first | (show endQ _ _ _ _ _ _ _; (repeat (rename (∀ (A : Fr) (H : Hp), AWP _ _ _ _ A H → _) => hK; clear hK)); (repeat (rename (Fr → Hp → Prop) => K; clear K))) | (show Exists _; (repeat (rename (∀ (A : Fr) (H : Hp), AWP _ _ _ _ A H → _) => hK; clear hK)); (repeat (rename (Fr → Hp → Prop) => K; clear K))) | skip)
  refine awp_loop (ι := Nat) (fun k => [(11, .v (.int .i64 (k))), (10, .v (.int .i64 (s.length))), (9, .list false 1 (s).length (cM iv 0 (s))), (3, .own 8 0 1 s.length)]) (fun k => Hp.emp.upd 8 (.cells s.length (kf s k))) (fun k => k ≤ s.length) (fun k => s.length - k) 0 (Nat.zero_le _) (Sub.trans (Sub.cellsE 8 (kf s 0) rfl (fun i hi => by simp [kf, zF, Nat.mod_one])) (Sub.toL (by simp only [go_sem] <;> first | trivial | (simp only [Option.some.injEq, AV.v.injEq, AV.own.injEq, AV.list.injEq, Value.int.injEq, Value.bool.injEq, true_and, and_true]; first | omega | (simp; done)) | (simp; done) | (simp; omega)) (Hp.le_upd rfl (Hp.le_emp _)))) ?_
  intro k hk
  have hbk := hb0 k
  have hw8 : k < s.length → IntKind.u8.wrap (s.getD k 0) = s.getD k 0 := fun h => wrap8 (hbk h)
  have hll : (s.length ≤ s.length) = True := eq_true (Nat.le_refl _)
  repeat' (first | (refine Ob.mk (kf_byte s k _) ?_) | refine awp_seqK fun K hK => ?_ | (refine awp_regionK 7741 rfl ?_; simp only [List.map_cons, List.map_nil]; simp (maxSteps := 1000000) (dsimp := false) (implicitDefEqProofs := false) (disch := omega) only [wrap64, go_sem, hw8, hll]) | (refine awp_regionQK 7741 (by kernel_rfl) (by kernel_rfl) (by kernel_rfl) ?_; simp only [List.map_cons, List.map_nil]; simp (maxSteps := 1000000) (dsimp := false) (implicitDefEqProofs := false) (disch := omega) only [wrap64, go_sem, hw8, hll]) | refine awp_block ?_ | (refine awp_skip ?_; simp only [go_sem, hw8, hll]) | (refine awp_exit ?_; simp only [go_sem, hw8, hll]) | (refine awp_ret ?_; try simp only [go_sem, hw8, hll]) | (refine awp_condP rfl ?_; try simp only [go_sem, hw8, hll]) | (refine BrP.mk (fun h => ?_) (fun h => ?_) <;> try simp (dsimp := false) (disch := omega) only [wrap64]) | (refine Br.mk (fun h => ?_) (fun h => ?_) <;> try simp (dsimp := false) (disch := omega) only [wrap64]) | refine Ob.mk (by first | omega | (intro _ _; rfl) | trivial | (intros; trivial) | assumption | (intro i hi; have h0 : i = 0 := (by omega); subst h0; first | rfl | trivial) | (intro i hi; have h0 : i = 0 ∨ i = 1 := (by omega); rcases h0 with rfl | rfl <;> rfl) | (intro i hi; have h0 : i = 0 ∨ i = 1 ∨ i = 2 := (by omega); rcases h0 with rfl | rfl | rfl <;> rfl)) ?_ | apply_assumption -exfalso -symm)
  all_goals (first | (show endQ _ _ _ _ _ _ _; (repeat (rename (∀ (A : Fr) (H : Hp), AWP _ _ _ _ A H → _) => hK; clear hK)); (repeat (rename (Fr → Hp → Prop) => K; clear K))) | (show Exists _; (repeat (rename (∀ (A : Fr) (H : Hp), AWP _ _ _ _ A H → _) => hK; clear hK)); (repeat (rename (Fr → Hp → Prop) => K; clear K))) | skip)
  · refine ⟨k + 1, by omega, by omega, Sub.toLF (by simp only [go_sem] <;> trivial) (leF_upd rfl (bfE rfl (fun i hi => ?_)) leF_emp id)⟩
    simp only [setF, kf]
    split
    · rename_i e; subst e; rw [if_pos (by omega)]
    · by_cases h : i < k
      · rw [if_pos h, if_pos (by omega)]
      · rw [if_neg h, if_neg (by omega)]
  · have e : k = s.length := by omega
    subst e
    exact end_retV rfl rfl
end Go.Proofs.Ytiihgbobdipikaa
end

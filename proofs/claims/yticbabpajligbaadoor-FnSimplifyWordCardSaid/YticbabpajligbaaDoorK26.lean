import Derived.Test.YticbabpajligbaaDoorK18
import Derived.Test.YticbabpajligbaaDoorK24
import Derived.Test.YticbabpajligbaaDoorK3
import Derived.Test.YticbabpajligbaaDoorK16
import Derived.Test.YticbabpajligbaaDoorK4
/- Cycles and orders of permutations, both texts. -/
section
namespace Go.Proofs.YticbabpajligbaaDoor
open Go.Av
set_option linter.unusedSimpArgs false
set_option linter.unusedVariables false
attribute [local irreducible] AWP CallG Ob Br BrP Go.Av.Sub endQ AOps OpV AC thenA blkA opsVC opVC withA withArgs opsQ opQ CallQ withA2 withArgs2
open Go.Pm (Pm comp invp idn img itr clen cyc isMn cycs lcmL ord)
theorem tmod_nat (x y : Nat) : (x : Int).tmod y = ((x % y : Nat) : Int) := (Int.ofNat_tmod x y).symm
theorem tdiv_nat (x y : Nat) : (x : Int).tdiv y = ((x / y : Nat) : Int) := (Int.ofNat_tdiv x y).symm
theorem gcd_step (x y : Nat) : Nat.gcd x y = Nat.gcd y (x % y) := by rw [Nat.gcd_comm, Nat.gcd_rec, Nat.gcd_comm]
theorem implGcd_ok (a b : Nat) (ha : a ≤ 1000000000 ∧ b ≤ 1000000000) : AC Tryd.prog 107 [.v (.int .i64 ((a : Nat))), .v (.int .i64 ((b : Nat)))] Hp.emp (fun _ => false) (retV (.v (.int .i64 ((Nat.gcd a b : Nat))))) := by
  refine ac_of_awp (N := ⟨_, fun _ => false, fun _ _ => rfl, true⟩) Tryd.func107 rfl (by kernel_rfl) Tryd.ntmps107 (by simp) ?_
  simp only [argsFr, List.zipIdx_cons, List.zipIdx_nil, go_sem]
  repeat' (first | refine awp_seqK fun K hK => ?_ | (refine awp_regionK 83 rfl ?_; simp only [List.map_cons, List.map_nil]; simp (maxSteps := 1000000) (dsimp := false) (implicitDefEqProofs := false) (disch := omega) only [wrap64, go_sem]) | (refine awp_regionQK 83 (by kernel_rfl) (by kernel_rfl) (by kernel_rfl) ?_; simp only [List.map_cons, List.map_nil]; simp (maxSteps := 1000000) (dsimp := false) (implicitDefEqProofs := false) (disch := omega) only [wrap64, go_sem]) | refine awp_block ?_ | (refine awp_skip ?_; simp only [go_sem]) | (refine awp_exit ?_; simp only [go_sem]) | (refine awp_ret ?_; try simp only [go_sem]) | (refine awp_condP rfl ?_; try simp only [go_sem]) | (refine BrP.mk (fun h => ?_) (fun h => ?_) <;> try simp (dsimp := false) (disch := omega) only [wrap64]) | (refine Br.mk (fun h => ?_) (fun h => ?_) <;> try simp (dsimp := false) (disch := omega) only [wrap64]) | refine Ob.mk (by first | omega | (intro _ _; rfl) | trivial | (intros; trivial) | assumption | (intro i hi; have h0 : i = 0 := (by omega); subst h0; first | rfl | trivial) | (intro i hi; have h0 : i = 0 ∨ i = 1 := (by omega); rcases h0 with rfl | rfl <;> rfl) | (intro i hi; have h0 : i = 0 ∨ i = 1 ∨ i = 2 := (by omega); rcases h0 with rfl | rfl | rfl <;> rfl)) ?_ | apply_assumption -exfalso -symm)
  all_goals (first | (show endQ _ _ _ _ _ _ _; (repeat (rename (∀ (A : Fr) (H : Hp), AWP _ _ _ _ A H → _) => hK; clear hK)); (repeat (rename (Fr → Hp → Prop) => K; clear K))) | (show Exists _; (repeat (rename (∀ (A : Fr) (H : Hp), AWP _ _ _ _ A H → _) => hK; clear hK)); (repeat (rename (Fr → Hp → Prop) => K; clear K))) | skip)
  refine awp_loop (ι := Nat × Nat) (fun q => [(0, .v (.int .i64 ((q.1 : Nat)))), (1, .v (.int .i64 ((q.2 : Nat))))]) (fun q => Hp.emp) (fun q => (q.1 ≤ 1000000000 ∧ q.2 ≤ 1000000000) ∧ Nat.gcd q.1 q.2 = Nat.gcd a b) (fun q => q.2) (a, b) ?_ (Sub.toL (by simp only [go_sem] <;> first | trivial | (simp only [Option.some.injEq, AV.v.injEq, AV.own.injEq, AV.list.injEq, Value.int.injEq, Value.bool.injEq, true_and, and_true]; first | omega | (simp; done)) | (simp; done) | (simp; omega)) (by (repeat' (first | exact Hp.le_emp _ | exact Hp.le_refl _ | refine Hp.le_upd ?_ ?_)); all_goals (first | rfl | (simp only [go_sem]; first | rfl | (refine cellsE ?_ ?_ <;> (simp)) | (simp))))) ?_
  · exact ⟨ha, rfl⟩
  rintro ⟨x, y⟩ ⟨hq, hg⟩
  dsimp only at hq hg ⊢
  have e1 := tmod_nat x y
  have e2 : y ≠ 0 → x % y < y := fun h => Nat.mod_lt _ (by omega)
  repeat' (first | refine awp_seqK fun K hK => ?_ | (refine awp_regionK 83 rfl ?_; simp only [List.map_cons, List.map_nil]; simp (maxSteps := 1000000) (dsimp := false) (implicitDefEqProofs := false) (disch := omega) only [wrap64, go_sem, e1]) | (refine awp_regionQK 83 (by kernel_rfl) (by kernel_rfl) (by kernel_rfl) ?_; simp only [List.map_cons, List.map_nil]; simp (maxSteps := 1000000) (dsimp := false) (implicitDefEqProofs := false) (disch := omega) only [wrap64, go_sem, e1]) | refine awp_block ?_ | (refine awp_skip ?_; simp only [go_sem, e1]) | (refine awp_exit ?_; simp only [go_sem, e1]) | (refine awp_ret ?_; try simp only [go_sem, e1]) | (refine awp_condP rfl ?_; try simp only [go_sem, e1]) | (refine BrP.mk (fun h => ?_) (fun h => ?_) <;> try simp (dsimp := false) (disch := omega) only [wrap64]) | (refine Br.mk (fun h => ?_) (fun h => ?_) <;> try simp (dsimp := false) (disch := omega) only [wrap64]) | refine Ob.mk (by first | omega | (intro _ _; rfl) | trivial | (intros; trivial) | assumption | (intro i hi; have h0 : i = 0 := (by omega); subst h0; first | rfl | trivial) | (intro i hi; have h0 : i = 0 ∨ i = 1 := (by omega); rcases h0 with rfl | rfl <;> rfl) | (intro i hi; have h0 : i = 0 ∨ i = 1 ∨ i = 2 := (by omega); rcases h0 with rfl | rfl | rfl <;> rfl)) ?_ | apply_assumption -exfalso -symm)
  all_goals (first | (show endQ _ _ _ _ _ _ _; (repeat (rename (∀ (A : Fr) (H : Hp), AWP _ _ _ _ A H → _) => hK; clear hK)); (repeat (rename (Fr → Hp → Prop) => K; clear K))) | (show Exists _; (repeat (rename (∀ (A : Fr) (H : Hp), AWP _ _ _ _ A H → _) => hK; clear hK)); (repeat (rename (Fr → Hp → Prop) => K; clear K))) | skip)
  · have e : y = 0 := by omega
    subst e
    exact end_retV' rfl rfl (by rw [← hg, Nat.gcd_zero_right])
  · exact ⟨(y, x % y), ⟨⟨by dsimp only; omega, by have := Nat.mod_le x y; dsimp only; omega⟩, by rw [← hg, gcd_step x y]⟩, Nat.mod_lt _ (by omega), Sub.toL (by simp only [go_sem] <;> first | trivial | (simp only [Option.some.injEq, AV.v.injEq, AV.own.injEq, AV.list.injEq, Value.int.injEq, Value.bool.injEq, true_and, and_true]; first | omega | (simp; done)) | (simp; done) | (simp; omega)) (by (repeat' (first | exact Hp.le_emp _ | exact Hp.le_refl _ | refine Hp.le_upd ?_ ?_)); all_goals (first | rfl | (simp only [go_sem]; first | rfl | (refine cellsE ?_ ?_ <;> (simp)) | (simp))))⟩
theorem tmul_nat (x y : Nat) : (x : Int) * (y : Int) = ((x * y : Nat) : Int) := (Int.natCast_mul x y).symm
end Go.Proofs.YticbabpajligbaaDoor
end
/- The reference's sources of choices: how they lie in memory, and what they answer. -/
section
namespace Go.Proofs.YticbabpajligbaaDoor
open Go.Av
set_option linter.unusedSimpArgs false
set_option linter.unusedVariables false
attribute [local irreducible] AWP CallG Ob Br BrP Go.Av.Sub endQ AOps OpV AC thenA blkA opsVC opVC withA withArgs opsQ opQ CallQ withA2 withArgs2
end Go.Proofs.YticbabpajligbaaDoor
end
section
namespace Go.Proofs.YticbabpajligbaaDoor
open Go.Av
set_option linter.unusedSimpArgs false
set_option linter.unusedVariables false
attribute [local irreducible] AWP CallG Ob Br BrP Go.Av.Sub endQ AOps OpV AC thenA blkA opsVC opVC withA withArgs opsQ opQ CallQ withA2 withArgs2
open Go.Pm (Pm comp invp idn img)

theorem isSt.pm {p : Pz} {s : List Int} (h : isSt p s) : Pm p.n.toNat s := by
  have h1 := ((isPerm_pm s).1 h.2.2).2
  rwa [show s.length = p.n.toNat by have := h.2.1; omega] at h1
end Go.Proofs.YticbabpajligbaaDoor
end
/- The reference's sources: permutations and generators that are drawn. -/
section
namespace Go.Proofs.YticbabpajligbaaDoor
open Go.Av
set_option linter.unusedSimpArgs false
set_option linter.unusedVariables false
attribute [local irreducible] AWP CallG Ob Br BrP Go.Av.Sub endQ AOps OpV AC thenA blkA opsVC opVC withA withArgs opsQ opQ CallQ withA2 withArgs2
end Go.Proofs.YticbabpajligbaaDoor
end
/- The reference's sources: numbers, permutations and groups that are drawn. -/
section
namespace Go.Proofs.YticbabpajligbaaDoor
open Go.Av
set_option linter.unusedSimpArgs false
set_option linter.unusedVariables false
attribute [local irreducible] AWP CallG Ob Br BrP Go.Av.Sub endQ AOps OpV AC thenA blkA opsVC opVC withA withArgs opsQ opQ CallQ withA2 withArgs2
theorem app_fit {H : Hp} {D : Nat → Prop} {h n : Nat} {g : List Int} {z : Nat → AV} (gs : List (List Int)) (hH : H h = some (.cells n (cM iv 0 g))) (hD : D h) (hn : n = g.length) : ∀ i, i < gs.length + 1 → Fits H D (apF gs.length (cM ints [] gs) (setF z 0 (.own h 0 1 n)) i) (cM ints [] (gs ++ [g]) i) := fun i hi => by
  by_cases hi2 : i < gs.length
  · exact .ofEq (by simp [apF, cM, List.getD_eq_getElem?_getD, List.getElem?_append, hi2])
  · have hi3 : i = gs.length := by omega
    have e2 : apF gs.length (cM ints [] gs) (setF z 0 (.own h 0 1 n)) i = .own h 0 1 n := by subst hi3; simp [apF, setF]
    have e3 : cM ints [] (gs ++ [g]) i = ints g := by subst hi3; simp [cM, List.getD_eq_getElem?_getD]
    rw [e2, e3]
    exact fits_I hH hD rfl hn
end Go.Proofs.YticbabpajligbaaDoor
end
/- The program's cycles and orders. -/
section
namespace Go.Proofs.YticbabpajligbaaDoor
open Go.Av
set_option linter.unusedSimpArgs false
set_option linter.unusedVariables false
attribute [local irreducible] AWP CallG Ob Br BrP Go.Av.Sub endQ AOps OpV AC thenA blkA opsVC opVC withA withArgs opsQ opQ CallQ withA2 withArgs2
open Go.Pm (Pm comp invp idn img itr clen cyc isMn cycs lcmL ord sn snK stK cycsK)
theorem implCycles_ok (n : Nat) (p : List Int) (hp : Pm n p) (hn : n ≤ 20) : AC Tryd.prog 106 [ints p] Hp.emp (fun _ => false) (retV (intss (cycs p))) := by
  have hl := hp.1
  have hz := Go.Pm.snK_zero p
  refine ac_of_awp (N := ⟨_, fun _ => false, fun _ _ => rfl, true⟩) Tryd.func106 rfl (by kernel_rfl) Tryd.ntmps106 (by simp) ?_
  simp only [argsFr, List.zipIdx_cons, List.zipIdx_nil, go_sem]
  repeat' (first | refine awp_seqK fun K hK => ?_ | (refine awp_regionK 34361864445 rfl ?_; simp only [List.map_cons, List.map_nil]; simp (maxSteps := 1000000) (dsimp := false) (implicitDefEqProofs := false) (disch := omega) only [wrap64, go_sem, zF_bv]) | (refine awp_regionQK 34361864445 (by kernel_rfl) (by kernel_rfl) (by kernel_rfl) ?_; simp only [List.map_cons, List.map_nil]; simp (maxSteps := 1000000) (dsimp := false) (implicitDefEqProofs := false) (disch := omega) only [wrap64, go_sem, zF_bv]) | refine awp_block ?_ | (refine awp_skip ?_; simp only [go_sem, zF_bv]) | (refine awp_exit ?_; simp only [go_sem, zF_bv]) | (refine awp_ret ?_; try simp only [go_sem, zF_bv]) | (refine awp_condP rfl ?_; try simp only [go_sem, zF_bv]) | (refine BrP.mk (fun h => ?_) (fun h => ?_) <;> try simp (dsimp := false) (disch := omega) only [wrap64]) | (refine Br.mk (fun h => ?_) (fun h => ?_) <;> try simp (dsimp := false) (disch := omega) only [wrap64]) | refine Ob.mk (by first | omega | (intro _ _; rfl) | trivial | (intros; trivial) | assumption | (intro i hi; have h0 : i = 0 := (by omega); subst h0; first | rfl | trivial) | (intro i hi; have h0 : i = 0 ∨ i = 1 := (by omega); rcases h0 with rfl | rfl <;> rfl) | (intro i hi; have h0 : i = 0 ∨ i = 1 ∨ i = 2 := (by omega); rcases h0 with rfl | rfl | rfl <;> rfl)) ?_ | apply_assumption -exfalso -symm)
  all_goals (first | (show endQ _ _ _ _ _ _ _; (repeat (rename (∀ (A : Fr) (H : Hp), AWP _ _ _ _ A H → _) => hK; clear hK)); (repeat (rename (Fr → Hp → Prop) => K; clear K))) | (show Exists _; (repeat (rename (∀ (A : Fr) (H : Hp), AWP _ _ _ _ A H → _) => hK; clear hK)); (repeat (rename (Fr → Hp → Prop) => K; clear K))) | skip)
  rw [← hz]
  refine awp_loop (ι := Nat) (fun i => [(13, .v (.int .i64 ((i : Nat)))), (12, .v (.int .i64 (p.length))), (4, .own 10 0 1 p.length), (3, .own 39 0 1 (cycsK p i).length), (0, .list false 1 (p).length (cM iv 0 (p)))]) (fun i => (Hp.emp.upd 10 (.cells p.length (cM bv false (snK p i 0)))).upd 39 (.cells (cycsK p i).length (cM ints [] (cycsK p i)))) (fun i => i ≤ n) (fun i => n - i) 0 (Nat.zero_le _) (Sub.trans (Sub.nil (i := 3) 39 1 (cM ints [] []) rfl rfl) (Sub.toL (by simp only [go_sem] <;> first | trivial | (simp only [Option.some.injEq, AV.v.injEq, AV.own.injEq, AV.list.injEq, Value.int.injEq, Value.bool.injEq, true_and, and_true]; first | omega | (simp; done)) | (simp; done) | (simp; omega)) (by (repeat' (first | exact Hp.le_emp _ | exact Hp.le_refl _ | refine Hp.le_upd ?_ ?_)); all_goals (first | rfl | (simp only [go_sem]; first | rfl | (refine cellsE ?_ ?_ <;> (simp)) | (simp)))))) ?_
  intro i hi
  have hci := Go.Pm.cycsK_len p i
  repeat' (first | refine awp_seqK fun K hK => ?_ | (refine awp_regionK 34361864445 rfl ?_; simp only [List.map_cons, List.map_nil]; simp (maxSteps := 1000000) (dsimp := false) (implicitDefEqProofs := false) (disch := omega) only [wrap64, go_sem]) | (refine awp_regionQK 34361864445 (by kernel_rfl) (by kernel_rfl) (by kernel_rfl) ?_; simp only [List.map_cons, List.map_nil]; simp (maxSteps := 1000000) (dsimp := false) (implicitDefEqProofs := false) (disch := omega) only [wrap64, go_sem]) | refine awp_block ?_ | (refine awp_skip ?_; simp only [go_sem]) | (refine awp_exit ?_; simp only [go_sem]) | (refine awp_ret ?_; try simp only [go_sem]) | (refine awp_condP rfl ?_; try simp only [go_sem]) | (refine BrP.mk (fun h => ?_) (fun h => ?_) <;> try simp (dsimp := false) (disch := omega) only [wrap64]) | (refine Br.mk (fun h => ?_) (fun h => ?_) <;> try simp (dsimp := false) (disch := omega) only [wrap64]) | refine Ob.mk (by first | omega | (intro _ _; rfl) | trivial | (intros; trivial) | assumption | (intro i hi; have h0 : i = 0 := (by omega); subst h0; first | rfl | trivial) | (intro i hi; have h0 : i = 0 ∨ i = 1 := (by omega); rcases h0 with rfl | rfl <;> rfl) | (intro i hi; have h0 : i = 0 ∨ i = 1 ∨ i = 2 := (by omega); rcases h0 with rfl | rfl | rfl <;> rfl)) ?_ | apply_assumption -exfalso -symm)
  all_goals (first | (show endQ _ _ _ _ _ _ _; (repeat (rename (∀ (A : Fr) (H : Hp), AWP _ _ _ _ A H → _) => hK; clear hK)); (repeat (rename (Fr → Hp → Prop) => K; clear K))) | (show Exists _; (repeat (rename (∀ (A : Fr) (H : Hp), AWP _ _ _ _ A H → _) => hK; clear hK)); (repeat (rename (Fr → Hp → Prop) => K; clear K))) | skip)
  · have hin : i < n := by omega
    have hsc := Go.Pm.stK_le hp hin
    have hcl := Go.Pm.cyc_length p i
    have hc20 := (Go.Pm.clen_ok hp hin).1
    refine awp_loop (ι := Nat) (fun k => [(7, .v (.int .i64 ((itr p i k : Nat)))), (6, .own 32 0 1 k), (13, .v (.int .i64 ((i : Nat)))), (12, .v (.int .i64 (p.length))), (4, .own 10 0 1 p.length), (3, .own 39 0 1 (cycsK p i).length), (0, .list false 1 (p).length (cM iv 0 (p)))]) (fun k => ((Hp.emp.upd 10 (.cells p.length (cM bv false (snK p i k)))).upd 39 (.cells (cycsK p i).length (cM ints [] (cycsK p i)))).upd 32 (.cells k (cM iv 0 ((cyc p i).take k)))) (fun k => k ≤ stK p i) (fun k => stK p i - k) 0 (Nat.zero_le _) (Sub.trans (Sub.nil (i := 6) 32 1 (cM iv 0 []) rfl rfl) (Sub.toL (by simp only [go_sem] <;> first | trivial | (simp only [Option.some.injEq, AV.v.injEq, AV.own.injEq, AV.list.injEq, Value.int.injEq, Value.bool.injEq, true_and, and_true]; first | omega | (simp; done)) | (simp; done) | (simp; omega)) (by (repeat' (first | exact Hp.le_emp _ | exact Hp.le_refl _ | refine Hp.le_upd ?_ ?_)); all_goals (first | rfl | (simp only [go_sem]; first | rfl | (refine cellsE ?_ ?_ <;> (simp)) | (simp)))))) ?_
    intro k hk
    have hb := Go.Pm.itr_lt hp hin k
    have hB : (snK p i k).getD (itr p i k) false = decide (k = stK p i) := by
      rw [Bool.eq_iff_iff, decide_eq_true_eq]; exact Go.Pm.st_iff hp hin hk
    have hsl := Go.Pm.snK_len p i k
    have hset := Go.Pm.snK_set p i k
    have hgk : p.getD (itr p i k) 0 = ((itr p i (k + 1) : Nat) : Int) := hp.get_eq hb
    have htl : ((cyc p i).take k).length = k := by rw [List.length_take]; omega
    repeat' (first | refine awp_seqK fun K hK => ?_ | (refine awp_regionK 34361864445 rfl ?_; simp only [List.map_cons, List.map_nil]; simp (maxSteps := 1000000) (dsimp := false) (implicitDefEqProofs := false) (disch := omega) only [wrap64, go_sem, hB, hset, hgk, htl, hsl]) | (refine awp_regionQK 34361864445 (by kernel_rfl) (by kernel_rfl) (by kernel_rfl) ?_; simp only [List.map_cons, List.map_nil]; simp (maxSteps := 1000000) (dsimp := false) (implicitDefEqProofs := false) (disch := omega) only [wrap64, go_sem, hB, hset, hgk, htl, hsl]) | refine awp_block ?_ | (refine awp_skip ?_; simp only [go_sem, hB, hset, hgk, htl, hsl]) | (refine awp_exit ?_; simp only [go_sem, hB, hset, hgk, htl, hsl]) | (refine awp_ret ?_; try simp only [go_sem, hB, hset, hgk, htl, hsl]) | (refine awp_condP rfl ?_; try simp only [go_sem, hB, hset, hgk, htl, hsl]) | (refine BrP.mk (fun h => ?_) (fun h => ?_) <;> try simp (dsimp := false) (disch := omega) only [wrap64]) | (refine Br.mk (fun h => ?_) (fun h => ?_) <;> try simp (dsimp := false) (disch := omega) only [wrap64]) | refine Ob.mk (by first | omega | (intro _ _; rfl) | trivial | (intros; trivial) | assumption | (intro i hi; have h0 : i = 0 := (by omega); subst h0; first | rfl | trivial) | (intro i hi; have h0 : i = 0 ∨ i = 1 := (by omega); rcases h0 with rfl | rfl <;> rfl) | (intro i hi; have h0 : i = 0 ∨ i = 1 ∨ i = 2 := (by omega); rcases h0 with rfl | rfl | rfl <;> rfl)) ?_ | apply_assumption -exfalso -symm)
    all_goals (first | (show endQ _ _ _ _ _ _ _; (repeat (rename (∀ (A : Fr) (H : Hp), AWP _ _ _ _ A H → _) => hK; clear hK)); (repeat (rename (Fr → Hp → Prop) => K; clear K))) | (show Exists _; (repeat (rename (∀ (A : Fr) (H : Hp), AWP _ _ _ _ A H → _) => hK; clear hK)); (repeat (rename (Fr → Hp → Prop) => K; clear K))) | skip)
    · have e : k = stK p i := by assumption
      subst e
      have hnx := Go.Pm.snK_next hp hin
      have hcy := Go.Pm.cycsK_succ hp hin
      rw [if_pos (by omega)] at hcy
      refine ⟨i + 1, by omega, by omega, Sub.toFF (fun x => x = 32) (Fr.fit_cons rfl (.refl _) (Fr.fit_cons rfl (.refl _) (Fr.fit_cons rfl (.refl _) (Fr.fit_cons rfl (.ofEq (by rw [hcy]; simp)) (Fr.fit_cons rfl (.refl _) (Fr.fit_nil _)))))) (leF_upd rfl ⟨by rw [hcy]; simp, fun j hj => ?_⟩ (leF_upd rfl ⟨rfl, fun j hj => .ofEq (by rw [hnx])⟩ leF_emp (by omega)) (by omega))⟩
      rw [hcy]
      refine app_fit (g := (cyc p i).take (stK p i)) (h := 32) (cycsK p i) ?_ ?_ htl.symm j hj <;> rfl
    · have e : k = stK p i := by assumption
      subst e
      have hnx := Go.Pm.snK_next hp hin
      have hcy := Go.Pm.cycsK_succ hp hin
      rw [if_neg (by omega)] at hcy
      exact ⟨i + 1, by omega, by omega, Sub.toL (by simp only [go_sem] <;> first | trivial | (simp only [Option.some.injEq, AV.v.injEq, AV.own.injEq, AV.list.injEq, Value.int.injEq, Value.bool.injEq, true_and, and_true]; first | omega | (simp [hcy]; done)) | (simp [hcy]; done) | (simp [hcy]; omega)) (by (repeat' (first | exact Hp.le_emp _ | exact Hp.le_refl _ | refine Hp.le_upd ?_ ?_)); all_goals (first | rfl | (simp only [go_sem]; first | rfl | (refine cellsE ?_ ?_ <;> (simp [hcy, hnx])) | (simp [hcy, hnx]))))⟩
    · have hlt : k < stK p i := by omega
      have e1 : (cyc p i).take (k + 1) = (cyc p i).take k ++ [((itr p i k : Nat) : Int)] := by
        rw [List.take_succ_eq_append_getElem (by omega)]
        simp [cyc]
      have hap := apF_cM iv 0 ((cyc p i).take k) [((itr p i k : Nat) : Int)]
      rw [htl, ← e1] at hap
      exact ⟨k + 1, by omega, by omega, Sub.toL (by simp only [go_sem] <;> first | trivial | (simp only [Option.some.injEq, AV.v.injEq, AV.own.injEq, AV.list.injEq, Value.int.injEq, Value.bool.injEq, true_and, and_true]; first | omega | (simp; done)) | (simp; done) | (simp; omega)) (by (repeat' (first | exact Hp.le_emp _ | exact Hp.le_refl _ | refine Hp.le_upd ?_ ?_)); all_goals (first | rfl | (simp only [go_sem]; first | rfl | (refine cellsE ?_ ?_ <;> (simp [hap])) | (simp [hap]))))⟩
  · have e : i = n := by omega
    subst e
    refine end_retF rfl rfl ?_
    rw [← Go.Pm.cycsK_all hp]
    exact fits_II rfl trivial rfl rfl
theorem cyclens_in {n : Nat} {p : List Int} (hp : Pm n p) (hn : n ≤ 20) (k : Nat) : 0 < lcmL (((cycs p).map List.length).take k) ∧ lcmL (((cycs p).map List.length).take k) ≤ 232792560 := Go.Pm.lcm_20 fun x hx => by
  obtain ⟨c, hc, rfl⟩ := List.mem_map.1 (List.mem_of_mem_take hx)
  obtain ⟨i, hi, _, h1, rfl⟩ := (Go.Pm.mem_cycs hp c).1 hc
  rw [Go.Pm.cyc_length]
  have := (Go.Pm.clen_ok hp hi).1
  omega
theorem cyc_in {n : Nat} {p : List Int} (hp : Pm n p) (hn : n ≤ 20) {k : Nat} (hk : k < (cycs p).length) : 0 < ((cycs p).getD k []).length ∧ ((cycs p).getD k []).length ≤ 20 := by
  have hm : (cycs p).getD k [] ∈ cycs p := by rw [List.getD_eq_getElem?_getD, List.getElem?_eq_getElem hk]; exact List.getElem_mem hk
  obtain ⟨i, hi, _, h1, e⟩ := (Go.Pm.mem_cycs hp _).1 hm
  rw [e, Go.Pm.cyc_length]
  have := (Go.Pm.clen_ok hp hi).1
  omega
theorem implOrder_ok (n : Nat) (p : List Int) (hp : Pm n p) (hn : n ≤ 20) : AC Tryd.prog 89 [ints p] Hp.emp (fun _ => false) (retV (.v (.int .i64 ((ord p : Nat))))) := by
  have hcl : (cycs p).length ≤ n := by rw [← Go.Pm.cycsK_all hp]; exact Go.Pm.cycsK_len p n
  refine ac_of_awp (N := ⟨_, fun _ => false, fun _ _ => rfl, true⟩) Tryd.func89 rfl (by kernel_rfl) Tryd.ntmps89 (by simp) ?_
  simp only [argsFr, List.zipIdx_cons, List.zipIdx_nil, go_sem]
  repeat' (first | refine awp_seqK fun K hK => ?_ | (refine awp_regionK 1965 rfl ?_; simp only [List.map_cons, List.map_nil]; simp (maxSteps := 1000000) (dsimp := false) (implicitDefEqProofs := false) (disch := omega) only [wrap64, go_sem]) | (refine awp_regionQK 1965 (by kernel_rfl) (by kernel_rfl) (by kernel_rfl) ?_; simp only [List.map_cons, List.map_nil]; simp (maxSteps := 1000000) (dsimp := false) (implicitDefEqProofs := false) (disch := omega) only [wrap64, go_sem]) | refine awp_block ?_ | (refine awp_skip ?_; simp only [go_sem]) | (refine awp_exit ?_; simp only [go_sem]) | (refine awp_ret ?_; try simp only [go_sem]) | (refine awp_condP rfl ?_; try simp only [go_sem]) | (refine BrP.mk (fun h => ?_) (fun h => ?_) <;> try simp (dsimp := false) (disch := omega) only [wrap64]) | (refine Br.mk (fun h => ?_) (fun h => ?_) <;> try simp (dsimp := false) (disch := omega) only [wrap64]) | refine Ob.mk (by first | omega | (intro _ _; rfl) | trivial | (intros; trivial) | assumption | (intro i hi; have h0 : i = 0 := (by omega); subst h0; first | rfl | trivial) | (intro i hi; have h0 : i = 0 ∨ i = 1 := (by omega); rcases h0 with rfl | rfl <;> rfl) | (intro i hi; have h0 : i = 0 ∨ i = 1 ∨ i = 2 := (by omega); rcases h0 with rfl | rfl | rfl <;> rfl)) ?_ | ((first | ((first | refine atF (f := 106) ?_ | refine atQ (f := 106) ?_); (first | (refine cR (hac := implCycles_ok n p hp hn) (hK := ?_)) | (refine cQR (hac := implCycles_ok n p hp hn) (hK := ?_))))); simp (maxSteps := 1000000) (dsimp := false) (implicitDefEqProofs := false) (disch := omega) only [wrap64, go_sem]) | apply_assumption -exfalso -symm)
  all_goals (first | (show endQ _ _ _ _ _ _ _; (repeat (rename (∀ (A : Fr) (H : Hp), AWP _ _ _ _ A H → _) => hK; clear hK)); (repeat (rename (Fr → Hp → Prop) => K; clear K))) | (show Exists _; (repeat (rename (∀ (A : Fr) (H : Hp), AWP _ _ _ _ A H → _) => hK; clear hK)); (repeat (rename (Fr → Hp → Prop) => K; clear K))) | skip)
  refine awp_loop (ι := Nat) (fun k => [(9, .v (.int .i64 ((k : Nat)))), (8, .v (.int .i64 ((cycs p).length))), (7, .list false 1 (cycs p).length (cM ints [] (cycs p))), (3, .v (.int .i64 ((lcmL (((cycs p).map List.length).take k) : Nat))))]) (fun k => Hp.emp) (fun k => k ≤ (cycs p).length) (fun k => (cycs p).length - k) 0 ?_ (Sub.toL (by simp only [go_sem] <;> first | trivial | (simp only [Option.some.injEq, AV.v.injEq, AV.own.injEq, AV.list.injEq, Value.int.injEq, Value.bool.injEq, true_and, and_true]; first | omega | (simp; done)) | (simp; done) | (simp; omega)) (by (repeat' (first | exact Hp.le_emp _ | exact Hp.le_refl _ | refine Hp.le_upd ?_ ?_)); all_goals (first | rfl | (simp only [go_sem]; first | rfl | (refine cellsE ?_ ?_ <;> (simp)) | (simp))))) ?_
  · exact Nat.zero_le _
  intro k hk
  have ho := cyclens_in hp hn k
  have hc := fun h => cyc_in hp hn (k := k) h
  obtain ⟨o, eo⟩ : ∃ o, o = lcmL (((cycs p).map List.length).take k) := ⟨_, rfl⟩
  obtain ⟨r, er⟩ : ∃ r, r = (cycs p).getD k [] := ⟨_, rfl⟩
  rw [← eo] at ho ⊢
  rw [← er] at hc
  have hs : k < (cycs p).length → lcmL (((cycs p).map List.length).take (k + 1)) = o / Nat.gcd o r.length * r.length := fun h => by
    rw [Go.Pm.lcmL_snoc _ k (by rw [List.length_map]; exact h), ← eo, er, Go.Pm.lcm_div]
    congr 1
    simp [List.getD_eq_getElem?_getD, h]
  have hs2 : k < (cycs p).length → o / Nat.gcd o r.length * r.length ≤ 232792560 := fun h => by rw [← hs h]; exact (cyclens_in hp hn (k + 1)).2
  have hgp : 0 < Nat.gcd o r.length := Nat.gcd_pos_of_pos_left _ (by omega)
  obtain ⟨q, eq⟩ : ∃ q, q = o / Nat.gcd o r.length := ⟨_, rfl⟩
  have hdl : q ≤ o := by rw [eq]; exact Nat.div_le_self _ _
  rw [← eq] at hs hs2
  obtain ⟨m, em⟩ : ∃ m, m = q * r.length := ⟨_, rfl⟩
  rw [← em] at hs hs2
  have e1 : (o : Int).tdiv (Nat.gcd o r.length : Nat) = (q : Int) := by rw [eq]; exact tdiv_nat _ _
  have e2 : (q : Int) * (r.length : Int) = (m : Int) := by rw [em]; exact tmul_nat _ _
  repeat' (first | refine awp_seqK fun K hK => ?_ | (refine awp_regionK 1965 rfl ?_; simp only [List.map_cons, List.map_nil]; simp (maxSteps := 1000000) (dsimp := false) (implicitDefEqProofs := false) (disch := omega) only [wrap64, go_sem, ← er, e1, e2]) | (refine awp_regionQK 1965 (by kernel_rfl) (by kernel_rfl) (by kernel_rfl) ?_; simp only [List.map_cons, List.map_nil]; simp (maxSteps := 1000000) (dsimp := false) (implicitDefEqProofs := false) (disch := omega) only [wrap64, go_sem, ← er, e1, e2]) | refine awp_block ?_ | (refine awp_skip ?_; simp only [go_sem, ← er, e1, e2]) | (refine awp_exit ?_; simp only [go_sem, ← er, e1, e2]) | (refine awp_ret ?_; try simp only [go_sem, ← er, e1, e2]) | (refine awp_condP rfl ?_; try simp only [go_sem, ← er, e1, e2]) | (refine BrP.mk (fun h => ?_) (fun h => ?_) <;> try simp (dsimp := false) (disch := omega) only [wrap64]) | (refine Br.mk (fun h => ?_) (fun h => ?_) <;> try simp (dsimp := false) (disch := omega) only [wrap64]) | refine Ob.mk (by first | omega | (intro _ _; rfl) | trivial | (intros; trivial) | assumption | (intro i hi; have h0 : i = 0 := (by omega); subst h0; first | rfl | trivial) | (intro i hi; have h0 : i = 0 ∨ i = 1 := (by omega); rcases h0 with rfl | rfl <;> rfl) | (intro i hi; have h0 : i = 0 ∨ i = 1 ∨ i = 2 := (by omega); rcases h0 with rfl | rfl | rfl <;> rfl)) ?_ | ((first | ((first | refine atF (f := 43) ?_ | refine atQ (f := 43) ?_); (first | (refine cV (hac := length_ok r) (hK := ?_)) | (refine cQV (hac := length_ok r) (hK := ?_)))) | ((first | refine atF (f := 107) ?_ | refine atQ (f := 107) ?_); (first | (refine cV (hac := implGcd_ok o r.length (by omega)) (hK := ?_)) | (refine cQV (hac := implGcd_ok o r.length (by omega)) (hK := ?_))))); simp (maxSteps := 1000000) (dsimp := false) (implicitDefEqProofs := false) (disch := omega) only [wrap64, go_sem, ← er, e1, e2]) | apply_assumption -exfalso -symm)
  all_goals (first | (show endQ _ _ _ _ _ _ _; (repeat (rename (∀ (A : Fr) (H : Hp), AWP _ _ _ _ A H → _) => hK; clear hK)); (repeat (rename (Fr → Hp → Prop) => K; clear K))) | (show Exists _; (repeat (rename (∀ (A : Fr) (H : Hp), AWP _ _ _ _ A H → _) => hK; clear hK)); (repeat (rename (Fr → Hp → Prop) => K; clear K))) | skip)
  · exact ⟨k + 1, by omega, by omega, Sub.toL (by simp only [go_sem] <;> first | trivial | (simp only [Option.some.injEq, AV.v.injEq, AV.own.injEq, AV.list.injEq, Value.int.injEq, Value.bool.injEq, true_and, and_true]; first | omega | (simp [hs (by omega)]; done)) | (simp [hs (by omega)]; done) | (simp [hs (by omega)]; omega)) (by (repeat' (first | exact Hp.le_emp _ | exact Hp.le_refl _ | refine Hp.le_upd ?_ ?_)); all_goals (first | rfl | (simp only [go_sem]; first | rfl | (refine cellsE ?_ ?_ <;> (simp)) | (simp))))⟩
  · have e : k = (cycs p).length := by omega
    subst e
    rw [eo]
    refine end_retV' rfl rfl ?_
    rw [← Go.Pm.ord_cycs hp, show ((cycs p).map List.length).take (cycs p).length = (cycs p).map List.length from by rw [show (cycs p).length = ((cycs p).map List.length).length by rw [List.length_map], List.take_length]]
end Go.Proofs.YticbabpajligbaaDoor
end
section
namespace Go.Proofs.YticbabpajligbaaDoor
open Go.Av
set_option linter.unusedSimpArgs false
set_option linter.unusedVariables false
attribute [local irreducible] AWP CallG Ob Br BrP Go.Av.Sub endQ AOps OpV AC thenA blkA opsVC opVC withA withArgs opsQ opQ CallQ withA2 withArgs2

def repW (w : List Int) (k : Int) : List Int × Bool :=
  if ¬ isW 8 w then ([], false) else if w.length = 0 then ([], true) else if ¬ (-200 ≤ k ∧ k ≤ 200) then ([], false)
  else if (k.natAbs * w.length : Nat) > 200 then ([], false) else ((List.replicate k.natAbs (if k < 0 then inv w else w)).flatten, true)

theorem isW_bd {g : Int} {w : List Int} (h : isW g w) : ∀ j, -1000 ≤ w.getD j 0 ∧ w.getD j 0 ≤ 1000 := by
  intro j
  by_cases hj : j < w.length
  · have := h.2 j hj; unfold isL at this; omega
  · have : w.getD j 0 = 0 := by simp [List.getElem?_eq_none (by omega : w.length ≤ j)]
    omega

end Go.Proofs.YticbabpajligbaaDoor
end

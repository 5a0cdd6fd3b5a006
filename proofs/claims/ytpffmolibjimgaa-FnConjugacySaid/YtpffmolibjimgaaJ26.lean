import Derived.Test.YtpffmolibjimgaaJ25
import Derived.Test.YtpffmolibjimgaaJ24
import Derived.Test.YtpffmolibjimgaaJ4
import Derived.Test.YtpffmolibjimgaaJ29
import Derived.Test.YtpffmolibjimgaaJ17
import Derived.Test.YtpffmolibjimgaaJ3
/- The reference's sources: numbers, permutations and groups that are drawn. -/
section
namespace Go.Proofs.Ytpffmolibjimgaa
open Go.Av
set_option linter.unusedSimpArgs false
set_option linter.unusedVariables false
attribute [local irreducible] AWP CallG Ob Br BrP Go.Av.Sub endQ AOps OpV AC thenA blkA opsVC opVC withA withArgs opsQ opQ CallQ withA2 withArgs2
theorem fits_shift {H : Hp} {D : Nat → Prop} {h off n N : Nat} {st : List Int} (hH : H h = some (.cells N (cM iv 0 st))) (hD : D h) (hN : N = st.length) (hn : off + n = st.length) : Fits H D (.own h off 1 n) (ints (st.drop off)) := by
  show Fits H D (.own h off 1 n) (.list false 1 (st.drop off).length (cM iv 0 (st.drop off)))
  rw [List.length_drop, show st.length - off = n by omega]
  refine .own hH hD (by omega) (fun i hi => trivial) fun i hi => ?_
  refine .ofEq ?_
  unfold cM
  congr 1
  simp [List.getD_eq_getElem?_getD]
theorem numberUpTo_ok (d : Dc) (n : Int) (hn : 0 ≤ n ∧ n ≤ 1000) : AC Try.prog 34 [.ref 1000000 0, .v (.int .i64 (n))] (DH .i64 d) pM (postD .i64 fun r => ∃ v : Int, r64 v ∧ r = .v (.int .i64 (v))) := by
  refine ac_of_awp (N := ⟨_, pM, fun h hh => pM_low (Nat.lt_of_lt_of_le hh (by decide)), true⟩) Try.func34 rfl (by kernel_rfl) Try.ntmps34 (by simp) ?_
  simp only [argsFr, List.zipIdx_cons, List.zipIdx_nil, go_sem]
  unfold DH
  repeat' (first | ((first | refine atF (f := 32) ?_ | refine atQ (f := 32) ?_); (refine callD (by rfl) (sBelowP_ok _ _ (by omega)) (by rintro _ ⟨v, _, rfl⟩ _; rfl) (fun r d' hq => ?_); obtain ⟨v, hv, rfl⟩ := hq) <;> simp (maxSteps := 1000000) (dsimp := false) (implicitDefEqProofs := false) (disch := omega) only [wrap64, go_sem]) | ((first | refine atF (f := 18) ?_ | refine atQ (f := 18) ?_); (refine callD (by rfl) (oneIn_ok _ _ (by omega)) (by rintro _ ⟨v, _, rfl⟩ _; rfl) (fun r d3 hq => ?_); obtain ⟨v3, hv3, rfl⟩ := hq) <;> simp (maxSteps := 1000000) (dsimp := false) (implicitDefEqProofs := false) (disch := omega) only [wrap64, go_sem]) | ((first | refine atF (f := 47) ?_ | refine atQ (f := 47) ?_); (refine callD (by rfl) (extremeInt_ok _) (by rintro _ ⟨v, _, rfl⟩ _; rfl) (fun r d2 hq => ?_); obtain ⟨v4, hv4, rfl⟩ := hq) <;> simp (maxSteps := 1000000) (dsimp := false) (implicitDefEqProofs := false) (disch := omega) only [wrap64, go_sem]) | refine awp_seqK fun K hK => ?_ | (refine awp_regionK 262227 rfl ?_; simp only [List.map_cons, List.map_nil]; simp (maxSteps := 1000000) (dsimp := false) (implicitDefEqProofs := false) (disch := omega) only [wrap64, go_sem]) | (refine awp_regionQK 262227 (by kernel_rfl) (by kernel_rfl) (by kernel_rfl) ?_; simp only [List.map_cons, List.map_nil]; simp (maxSteps := 1000000) (dsimp := false) (implicitDefEqProofs := false) (disch := omega) only [wrap64, go_sem]) | refine awp_block ?_ | (refine awp_skip ?_; simp only [go_sem]) | (refine awp_exit ?_; simp only [go_sem]) | (refine awp_ret ?_; try simp only [go_sem]) | (refine awp_condP rfl ?_; try simp only [go_sem]) | (refine BrP.mk (fun h => ?_) (fun h => ?_) <;> try simp (dsimp := false) (disch := omega) only [wrap64]) | (refine Br.mk (fun h => ?_) (fun h => ?_) <;> try simp (dsimp := false) (disch := omega) only [wrap64]) | refine Ob.mk (by first | omega | (intro _ _; rfl) | trivial | (intros; trivial) | assumption | (intro i hi; have h0 : i = 0 := (by omega); subst h0; first | rfl | trivial) | (intro i hi; have h0 : i = 0 ∨ i = 1 := (by omega); rcases h0 with rfl | rfl <;> rfl) | (intro i hi; have h0 : i = 0 ∨ i = 1 ∨ i = 2 := (by omega); rcases h0 with rfl | rfl | rfl <;> rfl)) ?_ | apply_assumption -exfalso -symm)
  all_goals (first | (show endQ _ _ _ _ _ _ _; (repeat (rename (∀ (A : Fr) (H : Hp), AWP _ _ _ _ A H → _) => hK; clear hK)); (repeat (rename (Fr → Hp → Prop) => K; clear K))) | (show Exists _; (repeat (rename (∀ (A : Fr) (H : Hp), AWP _ _ _ _ A H → _) => hK; clear hK)); (repeat (rename (Fr → Hp → Prop) => K; clear K))) | skip)
  · have e : v = 0 ∨ v = 1 ∨ v = 2 ∨ v = 3 := by omega
    have h4 := hv4
    unfold r64 at h4
    rcases e with rfl | rfl | rfl | rfl
    all_goals exact end_post rfl rfl (Hp.le_upd rfl (Hp.le_emp _)) ⟨d', ⟨_, by first | exact hv4 | (unfold r64; first | omega | (show (-9223372036854775808 : Int) ≤ -1 ∧ (-1 : Int) ≤ 9223372036854775807; decide) | (show (-9223372036854775808 : Int) ≤ n ∧ n ≤ 9223372036854775807; omega)), rfl⟩, rfl⟩
  · exact end_post rfl rfl (Hp.le_refl _) ⟨_, ⟨v, by unfold r64; omega, rfl⟩, rfl⟩
  · exact end_post rfl rfl (Hp.le_refl _) ⟨_, ⟨v, by unfold r64; omega, rfl⟩, rfl⟩
theorem drawAnyPerm_ok (d : Dc) (n : Int) (hn : 1 ≤ n ∧ n ≤ 20) : AC Try.prog 16 [.ref 1000000 0, .v (.int .i64 (n))] (DH .i64 d) pM (postD .i64 fun r => ∃ w : List Int, (w.length ≤ 21 ∧ ∀ x ∈ w, r64 x) ∧ r = ints w) := by
  refine ac_of_awp (N := ⟨_, pM, fun h hh => pM_low (Nat.lt_of_lt_of_le hh (by decide)), true⟩) Try.func16 rfl (by kernel_rfl) Try.ntmps16 (by simp) ?_
  simp only [argsFr, List.zipIdx_cons, List.zipIdx_nil, go_sem]
  unfold DH
  repeat' (first | ((first | refine atF (f := 33) ?_ | refine atQ (f := 33) ?_); (refine callDI (by rfl) (drawPerm_ok _ _ (by omega)) (fun _ _ => rfl) (by decide) rfl (fun d1 w hw => ?_)) <;> simp (maxSteps := 1000000) (dsimp := false) (implicitDefEqProofs := false) (disch := omega) only [wrap64, go_sem]) | ((first | refine atF (f := 32) ?_ | refine atQ (f := 32) ?_); (refine callD (by rfl) (sBelowP_ok _ _ (by omega)) (by rintro _ ⟨v, _, rfl⟩ _; rfl) (fun r d' hq => ?_); obtain ⟨v, hv, rfl⟩ := hq) <;> simp (maxSteps := 1000000) (dsimp := false) (implicitDefEqProofs := false) (disch := omega) only [wrap64, go_sem]) | ((first | refine atF (f := 18) ?_ | refine atQ (f := 18) ?_); (refine callD (by rfl) (oneIn_ok _ _ (by omega)) (by rintro _ ⟨v, _, rfl⟩ _; rfl) (fun r d3 hq => ?_); obtain ⟨v3, hv3, rfl⟩ := hq) <;> simp (maxSteps := 1000000) (dsimp := false) (implicitDefEqProofs := false) (disch := omega) only [wrap64, go_sem]) | ((first | refine atF (f := 34) ?_ | refine atQ (f := 34) ?_); (refine callD (by rfl) (numberUpTo_ok _ _ (by omega)) (by rintro _ ⟨v, _, rfl⟩ _; rfl) (fun r d2 hq => ?_); obtain ⟨v4, hv4, rfl⟩ := hq) <;> simp (maxSteps := 1000000) (dsimp := false) (implicitDefEqProofs := false) (disch := omega) only [wrap64, go_sem]) | refine awp_seqK fun K hK => ?_ | (refine awp_regionK 277159821363 rfl ?_; simp only [List.map_cons, List.map_nil]; simp (maxSteps := 1000000) (dsimp := false) (implicitDefEqProofs := false) (disch := omega) only [wrap64, go_sem]) | (refine awp_regionQK 277159821363 (by kernel_rfl) (by kernel_rfl) (by kernel_rfl) ?_; simp only [List.map_cons, List.map_nil]; simp (maxSteps := 1000000) (dsimp := false) (implicitDefEqProofs := false) (disch := omega) only [wrap64, go_sem]) | refine awp_block ?_ | (refine awp_skip ?_; simp only [go_sem]) | (refine awp_exit ?_; simp only [go_sem]) | (refine awp_ret ?_; try simp only [go_sem]) | (refine awp_condP rfl ?_; try simp only [go_sem]) | (refine BrP.mk (fun h => ?_) (fun h => ?_) <;> try simp (dsimp := false) (disch := omega) only [wrap64]) | (refine Br.mk (fun h => ?_) (fun h => ?_) <;> try simp (dsimp := false) (disch := omega) only [wrap64]) | refine Ob.mk (by first | omega | (intro _ _; rfl) | trivial | (intros; trivial) | assumption | (intro i hi; have h0 : i = 0 := (by omega); subst h0; first | rfl | trivial) | (intro i hi; have h0 : i = 0 ∨ i = 1 := (by omega); rcases h0 with rfl | rfl <;> rfl) | (intro i hi; have h0 : i = 0 ∨ i = 1 ∨ i = 2 := (by omega); rcases h0 with rfl | rfl | rfl <;> rfl)) ?_ | apply_assumption -exfalso -symm)
  all_goals (first | (show endQ _ _ _ _ _ _ _; (repeat (rename (∀ (A : Fr) (H : Hp), AWP _ _ _ _ A H → _) => hK; clear hK)); (repeat (rename (Fr → Hp → Prop) => K; clear K))) | (show Exists _; (repeat (rename (∀ (A : Fr) (H : Hp), AWP _ _ _ _ A H → _) => hK; clear hK)); (repeat (rename (Fr → Hp → Prop) => K; clear K))) | skip)
  all_goals first
  | omega
  | exact end_DF (D := fun x => x = 901) rfl rfl rfl (fits_I rfl rfl rfl rfl) (by decide) ⟨_, ⟨by omega, fun x hx => by have := hw.2 x hx; unfold r64; omega⟩, rfl⟩
  | (refine end_DF (D := fun x => x = 901) rfl rfl rfl (fits_I rfl rfl rfl (by simp)) (by decide) ⟨_, ⟨by simp; omega, fun x hx => ?_⟩, rfl⟩
     rcases List.mem_append.1 hx with h | h
     · have := hw.2 x h; unfold r64; omega
     · rw [List.mem_singleton.1 h]; unfold r64; omega)
  | (refine end_DF (D := fun x => x = 901) rfl rfl rfl (fits_shift rfl rfl rfl (by show 1 + (w.length - 1) = w.length; omega)) (by decide) ⟨_, ⟨by rw [List.length_drop]; omega, fun x hx => ?_⟩, rfl⟩
     have := hw.2 x (List.mem_of_mem_drop hx); unfold r64; omega)
  | (refine end_DF (D := fun x => x = 901) rfl rfl rfl (fits_I rfl rfl rfl (by simp)) (by decide) ⟨_, ⟨by simp; omega, fun x hx => ?_⟩, rfl⟩
     rcases List.mem_or_eq_of_mem_set hx with h | rfl
     · have := hw.2 x h; unfold r64; omega
     · exact hv4)
theorem app_fit {H : Hp} {D : Nat → Prop} {h n : Nat} {g : List Int} {z : Nat → AV} (gs : List (List Int)) (hH : H h = some (.cells n (cM iv 0 g))) (hD : D h) (hn : n = g.length) : ∀ i, i < gs.length + 1 → Fits H D (apF gs.length (cM ints [] gs) (setF z 0 (.own h 0 1 n)) i) (cM ints [] (gs ++ [g]) i) := fun i hi => by
  by_cases hi2 : i < gs.length
  · exact .ofEq (by simp [apF, cM, List.getD_eq_getElem?_getD, List.getElem?_append, hi2])
  · have hi3 : i = gs.length := by omega
    have e2 : apF gs.length (cM ints [] gs) (setF z 0 (.own h 0 1 n)) i = .own h 0 1 n := by subst hi3; simp [apF, setF]
    have e3 : cM ints [] (gs ++ [g]) i = ints g := by subst hi3; simp [cM, List.getD_eq_getElem?_getD]
    rw [e2, e3]
    exact fits_I hH hD rfl hn
end Go.Proofs.Ytpffmolibjimgaa
end
/- The program's cycles and orders. -/
section
namespace Go.Proofs.Ytpffmolibjimgaa
open Go.Av
set_option linter.unusedSimpArgs false
set_option linter.unusedVariables false
attribute [local irreducible] AWP CallG Ob Br BrP Go.Av.Sub endQ AOps OpV AC thenA blkA opsVC opVC withA withArgs opsQ opQ CallQ withA2 withArgs2
open Go.Pm (Pm comp invp idn img itr clen cyc isMn cycs lcmL ord sn snK stK cycsK)
theorem implCycles_ok (n : Nat) (p : List Int) (hp : Pm n p) (hn : n ≤ 20) : AC Try.prog 38 [ints p] Hp.emp (fun _ => false) (retV (intss (cycs p))) := by
  have hl := hp.1
  have hz := Go.Pm.snK_zero p
  refine ac_of_awp (N := ⟨_, fun _ => false, fun _ _ => rfl, true⟩) Try.func38 rfl (by kernel_rfl) Try.ntmps38 (by simp) ?_
  simp only [argsFr, List.zipIdx_cons, List.zipIdx_nil, go_sem]
  repeat' (first | refine awp_seqK fun K hK => ?_ | (refine awp_regionK 34361864445 rfl ?_; simp only [List.map_cons, List.map_nil]; simp (maxSteps := 1000000) (dsimp := false) (implicitDefEqProofs := false) (disch := omega) only [wrap64, go_sem, zF_bv]) | (refine awp_regionQK 34361864445 (by kernel_rfl) (by kernel_rfl) (by kernel_rfl) ?_; simp only [List.map_cons, List.map_nil]; simp (maxSteps := 1000000) (dsimp := false) (implicitDefEqProofs := false) (disch := omega) only [wrap64, go_sem, zF_bv]) | refine awp_block ?_ | (refine awp_skip ?_; simp only [go_sem, zF_bv]) | (refine awp_exit ?_; simp only [go_sem, zF_bv]) | (refine awp_ret ?_; try simp only [go_sem, zF_bv]) | (refine awp_condP rfl ?_; try simp only [go_sem, zF_bv]) | (refine BrP.mk (fun h => ?_) (fun h => ?_) <;> try simp (dsimp := false) (disch := omega) only [wrap64]) | (refine Br.mk (fun h => ?_) (fun h => ?_) <;> try simp (dsimp := false) (disch := omega) only [wrap64]) | refine Ob.mk (by first | omega | (intro _ _; rfl) | trivial | (intros; trivial) | assumption | (intro i hi; have h0 : i = 0 := (by omega); subst h0; first | rfl | trivial) | (intro i hi; have h0 : i = 0 ∨ i = 1 := (by omega); rcases h0 with rfl | rfl <;> rfl) | (intro i hi; have h0 : i = 0 ∨ i = 1 ∨ i = 2 := (by omega); rcases h0 with rfl | rfl | rfl <;> rfl)) ?_ | apply_assumption -exfalso -symm)
  all_goals (first | (show endQ _ _ _ _ _ _ _; (repeat (rename (∀ (A : Fr) (H : Hp), AWP _ _ _ _ A H → _) => hK; clear hK)); (repeat (rename (Fr → Hp → Prop) => K; clear K))) | (show Exists _; (repeat (rename (∀ (A : Fr) (H : Hp), AWP _ _ _ _ A H → _) => hK; clear hK)); (repeat (rename (Fr → Hp → Prop) => K; clear K))) | skip)
  rw [← hz]
  refine awp_loop (ι := Nat) (fun i => [(13, .v (.int .i64 ((i : Nat)))), (12, .v (.int .i64 (p.length))), (4, .own 10 0 1 p.length), (3, .own 39 0 1 (cycsK p i).length), (0, .list false 1 (p).length (cM iv 0 (p)))]) (fun i => (Hp.emp.upd 10 (.cells p.length (cM bv false (snK p i 0)))).upd 39 (.cells (cycsK p i).length (cM ints [] (cycsK p i)))) (fun i => i ≤ n) (fun i => n - i) 0 (Nat.zero_le _) (Sub.trans (Sub.nil (i := 3) 39 1 (cM ints [] []) rfl rfl) (Sub.toL (by simp only [go_sem] <;> first | trivial | (simp only [Option.some.injEq, AV.v.injEq, AV.own.injEq, AV.list.injEq, Value.int.injEq, Value.bool.injEq, true_and, and_true]; first | omega | (simp; done)) | (simp; done) | (simp; omega)) (by (repeat' (first | exact Hp.le_emp _ | exact Hp.le_refl _ | refine Hp.le_upd ?_ ?_)); all_goals (first | rfl | (simp only [go_sem]; first | rfl | (refine cellsE ?_ ?_ <;> (simp)) | (simp)))))) ?_
  intro i hi
  have hci := Go.Pm.cycsK_len p i
  repeat' (first | refine awp_seqK fun K hK => ?_ | (refine awp_regionK 34361864445 rfl ?_; simp only [List.map_cons, List.map_nil]; simp (maxSteps := 1000000) (dsimp := false) (implicitDefEqProofs := false) (disch := omega) only [wrap64, go_sem]) | (refine awp_regionQK 34361864445 (by kernel_rfl) (by kernel_rfl) (by kernel_rfl) ?_; simp only [List.map_cons, List.map_nil]; simp (maxSteps := 1000000) (dsimp := false) (implicitDefEqProofs := false) (disch := omega) only [wrap64, go_sem]) | refine awp_block ?_ | (refine awp_skip ?_; simp only [go_sem]) | (refine awp_exit ?_; simp only [go_sem]) | (refine awp_ret ?_; try simp only [go_sem]) | (refine awp_condP rfl ?_; try simp only [go_sem]) | (refine BrP.mk (fun h => ?_) (fun h => ?_) <;> try simp (dsimp := false) (disch := omega) only [wrap64]) | (refine Br.mk (fun h => ?_) (fun h => ?_) <;> try simp (dsimp := false) (disch := omega) only [wrap64]) | refine Ob.mk (by first | omega | (intro _ _; rfl) | trivial | (intros; trivial) | assumption | (intro i hi; have h0 : i = 0 := (by omega); subst h0; first | rfl | trivial) | (intro i hi; have h0 : i = 0 ∨ i = 1 := (by omega); rcases h0 with rfl | rfl <;> rfl) | (intro i hi; have h0 : i = 0 ∨ i = 1 ∨ i = 2 := (by omega); rcases h0 with rfl | rfl | rfl <;> rfl)) ?_ | apply_assumption -exfalso -symm)
  all_goals (first | (show endQ _ _ _ _ _ _ _; (repeat (rename (∀ (A : Fr) (H : Hp), AWP _ _ _ _ A H → _) => hK; clear hK)); (repeat (rename (Fr → Hp → Prop) => K; clear K))) | (show Exists _; (repeat (rename (∀ (A : Fr) (H : Hp), AWP _ _ _ _ A H → _) => hK; clear hK)); (repeat (rename (Fr → Hp → Prop) => K; clear K))) | skip)
  · have hin : i < n := by omega
    have hsc := Go.Pm.stK_le hp hin
    have hcl := Go.Pm.cyc_length p i
    have hc20 := (Go.Pm.clen_ok hp hin).1
    refine awp_loop (ι := Nat) (fun k => [(7, .v (.int .i64 ((itr p i k : Nat)))), (6, .own 32 0 1 k), (13, .v (.int .i64 ((i : Nat)))), (12, .v (.int .i64 (p.length))), (4, .own 10 0 1 p.length), (3, .own 39 0 1 (cycsK p i).length), (0, .list false 1 (p).length (cM iv 0 (p)))]) (fun k => ((Hp.emp.upd 10 (.cells p.length (cM bv false (snK p i k)))).upd 39 (.cells (cycsK p i).length (cM ints [] (cycsK p i)))).upd 32 (.cells k (cM iv 0 ((cyc p i).take k)))) (fun k => k ≤ stK p i) (fun k => stK p i - k) 0 (Nat.zero_le _) (Sub.trans (Sub.nil (i := 6) 32 1 (cM iv 0 []) rfl rfl) (Sub.toL (by simp only [go_sem] <;> first | trivial | (simp only [Option.some.injEq, AV.v.injEq, AV.own.injEq, AV.list.injEq, Value.int.injEq, Value.bool.injEq, true_and, and_true]; first | omega | (simp; done)) | (simp; done) | (simp; omega)) (by (repeat' (first | exact Hp.le_emp _ | exact Hp.le_refl _ | refine Hp.le_upd ?_ ?_)); all_goals (first | rfl | (simp only [go_sem]; first | rfl | (refine cellsE ?_ ?_ <;> (simp)) | (simp)))))) ?_
    intro k hk
    have hb := Go.Pm.itr_lt hp hin k
    have hB : (snK p i k).getD (itr p i k) false = decide (k = stK p i) := by
      rw [Bool.eq_iff_iff, decide_eq_true_eq]; exact Go.Pm.st_iff hp hin hk
    have hsl := Go.Pm.snK_len p i k
    have hset := Go.Pm.snK_set p i k
    have hgk : p.getD (itr p i k) 0 = ((itr p i (k + 1) : Nat) : Int) := hp.get_eq hb
    have htl : ((cyc p i).take k).length = k := by rw [List.length_take]; omega
    repeat' (first | refine awp_seqK fun K hK => ?_ | (refine awp_regionK 34361864445 rfl ?_; simp only [List.map_cons, List.map_nil]; simp (maxSteps := 1000000) (dsimp := false) (implicitDefEqProofs := false) (disch := omega) only [wrap64, go_sem, hB, hset, hgk, htl, hsl]) | (refine awp_regionQK 34361864445 (by kernel_rfl) (by kernel_rfl) (by kernel_rfl) ?_; simp only [List.map_cons, List.map_nil]; simp (maxSteps := 1000000) (dsimp := false) (implicitDefEqProofs := false) (disch := omega) only [wrap64, go_sem, hB, hset, hgk, htl, hsl]) | refine awp_block ?_ | (refine awp_skip ?_; simp only [go_sem, hB, hset, hgk, htl, hsl]) | (refine awp_exit ?_; simp only [go_sem, hB, hset, hgk, htl, hsl]) | (refine awp_ret ?_; try simp only [go_sem, hB, hset, hgk, htl, hsl]) | (refine awp_condP rfl ?_; try simp only [go_sem, hB, hset, hgk, htl, hsl]) | (refine BrP.mk (fun h => ?_) (fun h => ?_) <;> try simp (dsimp := false) (disch := omega) only [wrap64]) | (refine Br.mk (fun h => ?_) (fun h => ?_) <;> try simp (dsimp := false) (disch := omega) only [wrap64]) | refine Ob.mk (by first | omega | (intro _ _; rfl) | trivial | (intros; trivial) | assumption | (intro i hi; have h0 : i = 0 := (by omega); subst h0; first | rfl | trivial) | (intro i hi; have h0 : i = 0 ∨ i = 1 := (by omega); rcases h0 with rfl | rfl <;> rfl) | (intro i hi; have h0 : i = 0 ∨ i = 1 ∨ i = 2 := (by omega); rcases h0 with rfl | rfl | rfl <;> rfl)) ?_ | apply_assumption -exfalso -symm)
    all_goals (first | (show endQ _ _ _ _ _ _ _; (repeat (rename (∀ (A : Fr) (H : Hp), AWP _ _ _ _ A H → _) => hK; clear hK)); (repeat (rename (Fr → Hp → Prop) => K; clear K))) | (show Exists _; (repeat (rename (∀ (A : Fr) (H : Hp), AWP _ _ _ _ A H → _) => hK; clear hK)); (repeat (rename (Fr → Hp → Prop) => K; clear K))) | skip)
    · have e : k = stK p i := by assumption
      subst e
      have hnx := Go.Pm.snK_next hp hin
      have hcy := Go.Pm.cycsK_succ hp hin
      rw [if_pos (by omega)] at hcy
      refine ⟨i + 1, by omega, by omega, Sub.toFF (fun x => x = 32) (Fr.fit_cons rfl (.refl _) (Fr.fit_cons rfl (.refl _) (Fr.fit_cons rfl (.refl _) (Fr.fit_cons rfl (.ofEq (by rw [hcy]; simp)) (Fr.fit_cons rfl (.refl _) (Fr.fit_nil _)))))) (leF_upd rfl ⟨by rw [hcy]; simp, fun j hj => ?_⟩ (leF_upd rfl ⟨rfl, fun j hj => .ofEq (by rw [hnx])⟩ leF_emp (by omega)) (by omega))⟩
      rw [hcy]
      refine app_fit (g := (cyc p i).take (stK p i)) (h := 32) (cycsK p i) ?_ ?_ htl.symm j hj <;> rfl
    · have e : k = stK p i := by assumption
      subst e
      have hnx := Go.Pm.snK_next hp hin
      have hcy := Go.Pm.cycsK_succ hp hin
      rw [if_neg (by omega)] at hcy
      exact ⟨i + 1, by omega, by omega, Sub.toL (by simp only [go_sem] <;> first | trivial | (simp only [Option.some.injEq, AV.v.injEq, AV.own.injEq, AV.list.injEq, Value.int.injEq, Value.bool.injEq, true_and, and_true]; first | omega | (simp [hcy]; done)) | (simp [hcy]; done) | (simp [hcy]; omega)) (by (repeat' (first | exact Hp.le_emp _ | exact Hp.le_refl _ | refine Hp.le_upd ?_ ?_)); all_goals (first | rfl | (simp only [go_sem]; first | rfl | (refine cellsE ?_ ?_ <;> (simp [hcy, hnx])) | (simp [hcy, hnx]))))⟩
    · have hlt : k < stK p i := by omega
      have e1 : (cyc p i).take (k + 1) = (cyc p i).take k ++ [((itr p i k : Nat) : Int)] := by
        rw [List.take_succ_eq_append_getElem (by omega)]
        simp [cyc]
      have hap := apF_cM iv 0 ((cyc p i).take k) [((itr p i k : Nat) : Int)]
      rw [htl, ← e1] at hap
      exact ⟨k + 1, by omega, by omega, Sub.toL (by simp only [go_sem] <;> first | trivial | (simp only [Option.some.injEq, AV.v.injEq, AV.own.injEq, AV.list.injEq, Value.int.injEq, Value.bool.injEq, true_and, and_true]; first | omega | (simp; done)) | (simp; done) | (simp; omega)) (by (repeat' (first | exact Hp.le_emp _ | exact Hp.le_refl _ | refine Hp.le_upd ?_ ?_)); all_goals (first | rfl | (simp only [go_sem]; first | rfl | (refine cellsE ?_ ?_ <;> (simp [hap])) | (simp [hap]))))⟩
  · have e : i = n := by omega
    subst e
    refine end_retF rfl rfl ?_
    rw [← Go.Pm.cycsK_all hp]
    exact fits_II rfl trivial rfl rfl
end Go.Proofs.Ytpffmolibjimgaa
end
/- Cycles of the reference: isSmallest, allCycles. -/
section
namespace Go.Proofs.Ytpffmolibjimgaa
open Go.Av
set_option linter.unusedSimpArgs false
set_option linter.unusedVariables false
attribute [local irreducible] AWP CallG Ob Br BrP Go.Av.Sub endQ AOps OpV AC thenA blkA opsVC opVC withA withArgs opsQ opQ CallQ withA2 withArgs2
open Go.Pm (Pm cyc clen cycs isMn itr cyc_length cyc_get clen_pos clen_ok itr_lt)
theorem isSmallest_ok (xs : List Int) (hl : 1 ≤ xs.length ∧ xs.length ≤ 1000) : AC Try.prog 51 [ints xs] Hp.emp (fun _ => false) (retV (.v (.bool (decide (∀ j, j < xs.length → xs.getD 0 0 ≤ xs.getD j 0))))) := by
  refine ac_of_awp (N := ⟨_, fun _ => false, fun _ _ => rfl, true⟩) Try.func51 rfl (by kernel_rfl) Try.ntmps51 (by simp) ?_
  simp only [argsFr, List.zipIdx_cons, List.zipIdx_nil, go_sem]
  repeat' (first | refine awp_seqK fun K hK => ?_ | (refine awp_regionK 131213 rfl ?_; simp only [List.map_cons, List.map_nil]; simp (maxSteps := 1000000) (dsimp := false) (implicitDefEqProofs := false) (disch := omega) only [wrap64, go_sem]) | (refine awp_regionQK 131213 (by kernel_rfl) (by kernel_rfl) (by kernel_rfl) ?_; simp only [List.map_cons, List.map_nil]; simp (maxSteps := 1000000) (dsimp := false) (implicitDefEqProofs := false) (disch := omega) only [wrap64, go_sem]) | refine awp_block ?_ | (refine awp_skip ?_; simp only [go_sem]) | (refine awp_exit ?_; simp only [go_sem]) | (refine awp_ret ?_; try simp only [go_sem]) | (refine awp_condP rfl ?_; try simp only [go_sem]) | (refine BrP.mk (fun h => ?_) (fun h => ?_) <;> try simp (dsimp := false) (disch := omega) only [wrap64]) | (refine Br.mk (fun h => ?_) (fun h => ?_) <;> try simp (dsimp := false) (disch := omega) only [wrap64]) | refine Ob.mk (by first | omega | (intro _ _; rfl) | trivial | (intros; trivial) | assumption | (intro i hi; have h0 : i = 0 := (by omega); subst h0; first | rfl | trivial) | (intro i hi; have h0 : i = 0 ∨ i = 1 := (by omega); rcases h0 with rfl | rfl <;> rfl) | (intro i hi; have h0 : i = 0 ∨ i = 1 ∨ i = 2 := (by omega); rcases h0 with rfl | rfl | rfl <;> rfl)) ?_ | apply_assumption -exfalso -symm)
  all_goals (first | (show endQ _ _ _ _ _ _ _; (repeat (rename (∀ (A : Fr) (H : Hp), AWP _ _ _ _ A H → _) => hK; clear hK)); (repeat (rename (Fr → Hp → Prop) => K; clear K))) | (show Exists _; (repeat (rename (∀ (A : Fr) (H : Hp), AWP _ _ _ _ A H → _) => hK; clear hK)); (repeat (rename (Fr → Hp → Prop) => K; clear K))) | skip)
  refine awp_loop (ι := Nat) (fun k => [(3, .v (.int .i64 (((k : Nat) : Int) + 1))), (0, .list false 1 (xs).length (cM iv 0 (xs)))]) (fun _ => Hp.emp) (fun k => k + 1 ≤ xs.length ∧ Hold (∀ j, j < k + 1 → xs.getD 0 0 ≤ xs.getD j 0)) (fun k => xs.length - k) 0 ⟨by omega, ⟨fun j hj => by rw [show j = 0 by omega]; exact Int.le_refl _⟩⟩ (Sub.toL (by simp only [go_sem] <;> first | trivial | (simp only [Option.some.injEq, AV.v.injEq, AV.own.injEq, AV.list.injEq, Value.int.injEq, Value.bool.injEq, true_and, and_true]; first | omega | (simp; done)) | (simp; done) | (simp; omega)) (Hp.le_refl _)) ?_
  rintro k ⟨hk, hv⟩
  have e1 : (((k : Nat) : Int) + 1).toNat = k + 1 := by omega
  repeat' (first | refine awp_seqK fun K hK => ?_ | (refine awp_regionK 131213 rfl ?_; simp only [List.map_cons, List.map_nil]; simp (maxSteps := 1000000) (dsimp := false) (implicitDefEqProofs := false) (disch := omega) only [wrap64, go_sem, Int.toNat_zero, e1]) | (refine awp_regionQK 131213 (by kernel_rfl) (by kernel_rfl) (by kernel_rfl) ?_; simp only [List.map_cons, List.map_nil]; simp (maxSteps := 1000000) (dsimp := false) (implicitDefEqProofs := false) (disch := omega) only [wrap64, go_sem, Int.toNat_zero, e1]) | refine awp_block ?_ | (refine awp_skip ?_; simp only [go_sem, Int.toNat_zero, e1]) | (refine awp_exit ?_; simp only [go_sem, Int.toNat_zero, e1]) | (refine awp_ret ?_; try simp only [go_sem, Int.toNat_zero, e1]) | (refine awp_condP rfl ?_; try simp only [go_sem, Int.toNat_zero, e1]) | (refine BrP.mk (fun h => ?_) (fun h => ?_) <;> try simp (dsimp := false) (disch := omega) only [wrap64]) | (refine Br.mk (fun h => ?_) (fun h => ?_) <;> try simp (dsimp := false) (disch := omega) only [wrap64]) | refine Ob.mk (by first | omega | (intro _ _; rfl) | trivial | (intros; trivial) | assumption | (intro i hi; have h0 : i = 0 := (by omega); subst h0; first | rfl | trivial) | (intro i hi; have h0 : i = 0 ∨ i = 1 := (by omega); rcases h0 with rfl | rfl <;> rfl) | (intro i hi; have h0 : i = 0 ∨ i = 1 ∨ i = 2 := (by omega); rcases h0 with rfl | rfl | rfl <;> rfl)) ?_ | apply_assumption -exfalso -symm)
  all_goals (first | (show endQ _ _ _ _ _ _ _; (repeat (rename (∀ (A : Fr) (H : Hp), AWP _ _ _ _ A H → _) => hK; clear hK)); (repeat (rename (Fr → Hp → Prop) => K; clear K))) | (show Exists _; (repeat (rename (∀ (A : Fr) (H : Hp), AWP _ _ _ _ A H → _) => hK; clear hK)); (repeat (rename (Fr → Hp → Prop) => K; clear K))) | skip)
  · exact end_retB rfl rfl (by simp only [Bool.false_eq_true, false_iff]; exact fun h => by have := h (k + 1) (by omega); omega)
  · refine ⟨k + 1, ⟨by omega, ⟨fun j hj => ?_⟩⟩, by omega, Sub.toL (by simp only [go_sem] <;> first | trivial | (simp only [Option.some.injEq, AV.v.injEq, AV.own.injEq, AV.list.injEq, Value.int.injEq, Value.bool.injEq, true_and, and_true]; first | omega | (simp; done)) | (simp; done) | (simp; omega)) (Hp.le_refl _)⟩
    by_cases e : j = k + 1
    · rw [e]; omega
    · exact hv.h j (by omega)
  · exact end_retB rfl rfl (by simp only [true_iff]; exact fun j hj => hv.h j (by omega))
theorem smallest_cyc {n : Nat} {p : List Int} (hp : Pm n p) {i : Nat} (hi : i < n) : (∀ j, j < (cyc p i).length → (cyc p i).getD 0 0 ≤ (cyc p i).getD j 0) ↔ isMn p i = true := by
  unfold isMn
  rw [decide_eq_true_eq, cyc_length, cyc_get p i (clen_pos p i)]
  constructor
  · intro h k hk
    have := h k hk
    rw [cyc_get p i hk] at this
    have e : itr p i 0 = i := rfl
    omega
  · intro h j hj
    rw [cyc_get p i hj]
    have := h j hj
    have e : itr p i 0 = i := rfl
    omega
/-- The cycles that begin before x. -/
def acP (p : List Int) (x : Nat) : List (List Int) := ((List.range x).filter (isMn p)).map (cyc p)
theorem acP_succ (p : List Int) (x : Nat) : acP p (x + 1) = if isMn p x = true then acP p x ++ [cyc p x] else acP p x := by
  unfold acP
  rw [List.range_succ, List.filter_append, List.map_append]
  by_cases h : isMn p x = true
  · rw [if_pos h]; simp [h]
  · rw [if_neg h]; simp [h]
theorem acP_len (p : List Int) (x : Nat) : (acP p x).length ≤ x := by
  unfold acP
  rw [List.length_map]
  exact Nat.le_trans (List.length_filter_le _ _) (by rw [List.length_range]; exact Nat.le_refl _)
theorem allCycles_ok (n : Nat) (p : List Int) (hp : Pm n p) (hn : n ≤ 20) : AC Try.prog 44 [ints p] Hp.emp (fun _ => false) (retV (intss (acP p n))) := by
  have hpl := hp.1
  have hp := Hold.mk hp
  refine ac_of_awp (N := ⟨_, fun _ => false, fun _ _ => rfl, true⟩) Try.func44 rfl (by kernel_rfl) Try.ntmps44 (by simp) ?_
  simp only [argsFr, List.zipIdx_cons, List.zipIdx_nil, go_sem]
  repeat' (first | refine awp_seqK fun K hK => ?_ | (refine awp_regionK 132157 rfl ?_; simp only [List.map_cons, List.map_nil]; simp (maxSteps := 1000000) (dsimp := false) (implicitDefEqProofs := false) (disch := omega) only [wrap64, go_sem]) | (refine awp_regionQK 132157 (by kernel_rfl) (by kernel_rfl) (by kernel_rfl) ?_; simp only [List.map_cons, List.map_nil]; simp (maxSteps := 1000000) (dsimp := false) (implicitDefEqProofs := false) (disch := omega) only [wrap64, go_sem]) | refine awp_block ?_ | (refine awp_skip ?_; simp only [go_sem]) | (refine awp_exit ?_; simp only [go_sem]) | (refine awp_ret ?_; try simp only [go_sem]) | (refine awp_condP rfl ?_; try simp only [go_sem]) | (refine BrP.mk (fun h => ?_) (fun h => ?_) <;> try simp (dsimp := false) (disch := omega) only [wrap64]) | (refine Br.mk (fun h => ?_) (fun h => ?_) <;> try simp (dsimp := false) (disch := omega) only [wrap64]) | refine Ob.mk (by first | omega | (intro _ _; rfl) | trivial | (intros; trivial) | assumption | (intro i hi; have h0 : i = 0 := (by omega); subst h0; first | rfl | trivial) | (intro i hi; have h0 : i = 0 ∨ i = 1 := (by omega); rcases h0 with rfl | rfl <;> rfl) | (intro i hi; have h0 : i = 0 ∨ i = 1 ∨ i = 2 := (by omega); rcases h0 with rfl | rfl | rfl <;> rfl)) ?_ | apply_assumption -exfalso -symm)
  all_goals (first | (show endQ _ _ _ _ _ _ _; (repeat (rename (∀ (A : Fr) (H : Hp), AWP _ _ _ _ A H → _) => hK; clear hK)); (repeat (rename (Fr → Hp → Prop) => K; clear K))) | (show Exists _; (repeat (rename (∀ (A : Fr) (H : Hp), AWP _ _ _ _ A H → _) => hK; clear hK)); (repeat (rename (Fr → Hp → Prop) => K; clear K))) | skip)
  refine awp_loop (ι := Nat) (fun x => [(4, .v (.int .i64 ((x : Nat)))), (3, .own 6 0 1 (acP p x).length), (0, .list false 1 (p).length (cM iv 0 (p)))]) (fun x => Hp.emp.upd 6 (.cells (acP p x).length (cM ints [] (acP p x)))) (fun x => x ≤ n) (fun x => n - x) 0 (Nat.zero_le _) ?_ ?_
  · exact Sub.toFF (fun _ => False) (Fr.fit_cons rfl (.refl _) (Fr.fit_cons rfl (.refl _) (Fr.fit_cons rfl (.refl _) (Fr.fit_nil _)))) (leF_upd rfl (bfE rfl (fun i hi => absurd hi (Nat.not_lt_zero _))) leF_emp id)
  intro x hx
  have hml := acP_len p x
  have hsz := acP_succ p x
  have hcl := Hold.mk (fun h : x < n => clen_ok hp.h h)
  have hlen : x < n → 1 ≤ (cyc p x).length ∧ (cyc p x).length ≤ 20 := fun h => by have := (hcl.h h).1; have := clen_pos p x; rw [cyc_length]; omega
  have hco := Hold.mk (fun h : x < n => specCycleOf_ok n p x hp.h hn h 15)
  have hsm := Hold.mk (fun h : x < n => isSmallest_ok (cyc p x) (by have := hlen h; omega))
  have hmn := Hold.mk (fun h : x < n => smallest_cyc hp.h h)
  repeat' (first | refine awp_seqK fun K hK => ?_ | (refine awp_regionK 132157 rfl ?_; simp only [List.map_cons, List.map_nil]; simp (maxSteps := 1000000) (dsimp := false) (implicitDefEqProofs := false) (disch := omega) only [wrap64, go_sem]) | (refine awp_regionQK 132157 (by kernel_rfl) (by kernel_rfl) (by kernel_rfl) ?_; simp only [List.map_cons, List.map_nil]; simp (maxSteps := 1000000) (dsimp := false) (implicitDefEqProofs := false) (disch := omega) only [wrap64, go_sem]) | refine awp_block ?_ | (refine awp_skip ?_; simp only [go_sem]) | (refine awp_exit ?_; simp only [go_sem]) | (refine awp_ret ?_; try simp only [go_sem]) | (refine awp_condP rfl ?_; try simp only [go_sem]) | (refine BrP.mk (fun h => ?_) (fun h => ?_) <;> try simp (dsimp := false) (disch := omega) only [wrap64]) | (refine Br.mk (fun h => ?_) (fun h => ?_) <;> try simp (dsimp := false) (disch := omega) only [wrap64]) | refine Ob.mk (by first | omega | (intro _ _; rfl) | trivial | (intros; trivial) | assumption | (intro i hi; have h0 : i = 0 := (by omega); subst h0; first | rfl | trivial) | (intro i hi; have h0 : i = 0 ∨ i = 1 := (by omega); rcases h0 with rfl | rfl <;> rfl) | (intro i hi; have h0 : i = 0 ∨ i = 1 ∨ i = 2 := (by omega); rcases h0 with rfl | rfl | rfl <;> rfl)) ?_ | ((first | (refine cFI (hac := hco.h (by omega)) (hK := ?_)) | (refine cQI (hac := hco.h (by omega)) (hK := ?_)) | (refine cV (hac := hsm.h (by omega)) (hK := ?_)) | (refine cQV (hac := hsm.h (by omega)) (hK := ?_))); simp (maxSteps := 1000000) (dsimp := false) (implicitDefEqProofs := false) (disch := omega) only [wrap64, go_sem]) | apply_assumption -exfalso -symm)
  all_goals (first | (show endQ _ _ _ _ _ _ _; (repeat (rename (∀ (A : Fr) (H : Hp), AWP _ _ _ _ A H → _) => hK; clear hK)); (repeat (rename (Fr → Hp → Prop) => K; clear K))) | (show Exists _; (repeat (rename (∀ (A : Fr) (H : Hp), AWP _ _ _ _ A H → _) => hK; clear hK)); (repeat (rename (Fr → Hp → Prop) => K; clear K))) | skip)
  · have hm := (hmn.h (by omega)).1 (by assumption)
    rw [if_pos hm] at hsz
    refine ⟨x + 1, by omega, by omega, ?_⟩
    have e1 : (acP p (x + 1)).length = (acP p x).length + 1 := by rw [hsz, List.length_append, List.length_singleton]
    rw [e1, hsz]
    exact Sub.toFF (fun _ => False) (Fr.fit_cons rfl (.refl _) (Fr.fit_cons rfl (.refl _) (Fr.fit_cons rfl (.refl _) (Fr.fit_nil _)))) (leF_upd rfl (bfE rfl (ap_ints (acP p x) (cyc p x))) leF_emp id)
  · have hm : ¬ isMn p x = true := fun h => absurd ((hmn.h (by omega)).2 h) (by assumption)
    rw [if_neg hm] at hsz
    refine ⟨x + 1, by omega, by omega, ?_⟩
    rw [hsz]
    exact Sub.toL (by simp only [go_sem] <;> first | trivial | (simp only [Option.some.injEq, AV.v.injEq, AV.own.injEq, AV.list.injEq, Value.int.injEq, Value.bool.injEq, true_and, and_true]; first | omega | (simp; done)) | (simp; done) | (simp; omega)) (Hp.le_refl _)
  · have e : x = n := by omega
    rw [e]
    exact end_retF rfl rfl (fits_II rfl trivial rfl rfl)
end Go.Proofs.Ytpffmolibjimgaa
end
/- Cycle types and conjugates, by the reference. -/
section
namespace Go.Proofs.Ytpffmolibjimgaa
open Go.Av
set_option linter.unusedSimpArgs false
set_option linter.unusedVariables false
attribute [local irreducible] AWP CallG Ob Br BrP Go.Av.Sub endQ AOps OpV AC thenA blkA opsVC opVC withA withArgs opsQ opQ CallQ withA2 withArgs2
open Go.Pm (Pm comp invp idn img cyc clen cyc_length isMn reps lens dsc ctP cnj)
theorem lens_ac (p : List Int) : (acP p p.length).map List.length = lens p := by
  unfold acP lens reps
  rw [List.map_map]
  exact List.map_congr_left fun m _ => cyc_length p m
/-- What CycleType answers. -/
def ctS (p : List Int) : List Int := if isPerm p then ctP p else []
theorem lens_len (p : List Int) : (lens p).length ≤ p.length := by
  unfold lens reps
  rw [List.length_map]
  have := List.length_filter_le (isMn p) (List.range p.length)
  rw [List.length_range] at this
  exact this
theorem ctS_len (p : List Int) : (ctS p).length ≤ 20 := by
  unfold ctS
  split
  · rename_i h
    obtain ⟨h1, h2⟩ := (isPerm_pm p).1 h
    rw [Go.Pm.dsc_len h2 (by omega)]
    have := lens_len p; omega
  · exact Nat.zero_le _
theorem drop_count {l : List Nat} {i : Nat} (hi : i < l.length) (L : Nat) : (l.drop i).count L = (l.drop (i + 1)).count L + if l.getD i 0 = L then 1 else 0 := by
  rw [List.drop_eq_getElem_cons hi, List.count_cons, List.getD_eq_getElem?_getD, List.getElem?_eq_getElem hi]
  simp
set_option maxHeartbeats 4000000 in
theorem specCycleType_ok (p : List Int) (d : Nat) : AC Try.prog 28 [ints p] Hp.emp (fun _ => false) (retI d (ctS p)) := by
  have hip := specIsPermutation_ok p
  by_cases h : isPerm p
  · rw [decide_eq_true h] at hip
    obtain ⟨hn, hpm⟩ := (isPerm_pm p).1 h
    have hac := allCycles_ok p.length p hpm hn.2
    have hl := lens_ac p
    have hll := lens_len p
    have hcl := acP_len p p.length
    have hdl := Go.Pm.dsc_len hpm hn.2
    rw [show ctS p = dsc (lens p) p.length from if_pos h]
    unfold ctP at hdl
    obtain ⟨cs, ecs⟩ : ∃ cs, cs = acP p p.length := ⟨_, rfl⟩
    obtain ⟨D, eD⟩ : ∃ D, D = dsc (lens p) p.length := ⟨_, rfl⟩
    rw [← ecs] at hac hl hcl
    rw [← eD] at hdl ⊢
    have hcsl : cs.length = (lens p).length := by rw [← hl, List.length_map]
    have hcg : ∀ i, i < cs.length → (cs.getD i []).length = (lens p).getD i 0 := fun i hi => by rw [← hl]; simp [List.getD_eq_getElem?_getD, hi]
    have hcg := Hold.mk hcg
    have hip := Hold.mk hip
    have hac := Hold.mk hac
    have hpm := Hold.mk hpm
    have eD := Hold.mk eD
    clear hl h
    refine ac_of_awp (N := ⟨_, fun _ => false, fun _ _ => rfl, true⟩) Try.func28 rfl (by kernel_rfl) Try.ntmps28 (by simp) ?_
    simp only [argsFr, List.zipIdx_cons, List.zipIdx_nil, go_sem]
    repeat' (first | refine awp_seqK fun K hK => ?_ | (refine awp_regionK 4303488125 rfl ?_; simp only [List.map_cons, List.map_nil]; simp (maxSteps := 1000000) (dsimp := false) (implicitDefEqProofs := false) (disch := omega) only [wrap64, go_sem, ecs.symm]) | (refine awp_regionQK 4303488125 (by kernel_rfl) (by kernel_rfl) (by kernel_rfl) ?_; simp only [List.map_cons, List.map_nil]; simp (maxSteps := 1000000) (dsimp := false) (implicitDefEqProofs := false) (disch := omega) only [wrap64, go_sem, ecs.symm]) | refine awp_block ?_ | (refine awp_skip ?_; simp only [go_sem, ecs.symm]) | (refine awp_exit ?_; simp only [go_sem, ecs.symm]) | (refine awp_ret ?_; try simp only [go_sem, ecs.symm]) | (refine awp_condP rfl ?_; try simp only [go_sem, ecs.symm]) | (refine BrP.mk (fun h => ?_) (fun h => ?_) <;> try simp (dsimp := false) (disch := omega) only [wrap64]) | (refine Br.mk (fun h => ?_) (fun h => ?_) <;> try simp (dsimp := false) (disch := omega) only [wrap64]) | refine Ob.mk (by first | omega | (intro _ _; rfl) | trivial | (intros; trivial) | assumption | (intro i hi; have h0 : i = 0 := (by omega); subst h0; first | rfl | trivial) | (intro i hi; have h0 : i = 0 ∨ i = 1 := (by omega); rcases h0 with rfl | rfl <;> rfl) | (intro i hi; have h0 : i = 0 ∨ i = 1 ∨ i = 2 := (by omega); rcases h0 with rfl | rfl | rfl <;> rfl)) ?_ | ((first | ((first | refine atF (f := 10) ?_ | refine atQ (f := 10) ?_); (refine cV (hfit := .cons (.refl _) .nil) (hac := hip.h) (hK := ?_))) | ((first | refine atF (f := 44) ?_ | refine atQ (f := 44) ?_); (first | (refine cR (hac := (allCycles_ok p.length p hpm.h hn.2)) (hK := ?_)) | (refine cQR (hac := (allCycles_ok p.length p hpm.h hn.2)) (hK := ?_))))); simp (maxSteps := 1000000) (dsimp := false) (implicitDefEqProofs := false) (disch := omega) only [wrap64, go_sem, ecs.symm]) | apply_assumption -exfalso -symm)
    all_goals (first | (show endQ _ _ _ _ _ _ _; (repeat (rename (∀ (A : Fr) (H : Hp), AWP _ _ _ _ A H → _) => hK; clear hK)); (repeat (rename (Fr → Hp → Prop) => K; clear K))) | (show Exists _; (repeat (rename (∀ (A : Fr) (H : Hp), AWP _ _ _ _ A H → _) => hK; clear hK)); (repeat (rename (Fr → Hp → Prop) => K; clear K))) | skip)
    refine awp_loop (ι := Nat × List Int) (fun z => [(5, .v (.int .i64 (z.1))), (4, intss cs), (3, .own 7 0 1 z.2.length)]) (fun z => Hp.emp.upd 7 (.cells z.2.length (cM iv 0 z.2))) (fun z => z.1 ≤ p.length ∧ z.2 ++ dsc (lens p) z.1 = D) (fun z => z.1) (p.length, []) ⟨Nat.le_refl _, by rw [eD.h]; rfl⟩ (Sub.toL (by simp only [go_sem] <;> first | trivial | (simp only [Option.some.injEq, AV.v.injEq, AV.own.injEq, AV.list.injEq, Value.int.injEq, Value.bool.injEq, true_and, and_true]; first | omega | (simp; done)) | (simp; done) | (simp; omega)) (by (repeat' (first | exact Hp.le_emp _ | exact Hp.le_refl _ | refine Hp.le_upd ?_ ?_)); all_goals (first | rfl | (simp only [go_sem]; first | rfl | (refine cellsE ?_ ?_ <;> (simp)) | (simp))))) ?_
    rintro ⟨k, o⟩ ⟨hk, ho⟩
    dsimp only at hk ho ⊢
    by_cases hk0 : 0 < k
    · obtain ⟨m, rfl⟩ : ∃ m, k = m + 1 := ⟨k - 1, by omega⟩
      repeat' (first | refine awp_seqK fun K hK => ?_ | (refine awp_regionK 4303488125 rfl ?_; simp only [List.map_cons, List.map_nil]; simp (maxSteps := 1000000) (dsimp := false) (implicitDefEqProofs := false) (disch := omega) only [wrap64, go_sem]) | (refine awp_regionQK 4303488125 (by kernel_rfl) (by kernel_rfl) (by kernel_rfl) ?_; simp only [List.map_cons, List.map_nil]; simp (maxSteps := 1000000) (dsimp := false) (implicitDefEqProofs := false) (disch := omega) only [wrap64, go_sem]) | refine awp_block ?_ | (refine awp_skip ?_; simp only [go_sem]) | (refine awp_exit ?_; simp only [go_sem]) | (refine awp_ret ?_; try simp only [go_sem]) | (refine awp_condP rfl ?_; try simp only [go_sem]) | (refine BrP.mk (fun h => ?_) (fun h => ?_) <;> try simp (dsimp := false) (disch := omega) only [wrap64]) | (refine Br.mk (fun h => ?_) (fun h => ?_) <;> try simp (dsimp := false) (disch := omega) only [wrap64]) | refine Ob.mk (by first | omega | (intro _ _; rfl) | trivial | (intros; trivial) | assumption | (intro i hi; have h0 : i = 0 := (by omega); subst h0; first | rfl | trivial) | (intro i hi; have h0 : i = 0 ∨ i = 1 := (by omega); rcases h0 with rfl | rfl <;> rfl) | (intro i hi; have h0 : i = 0 ∨ i = 1 ∨ i = 2 := (by omega); rcases h0 with rfl | rfl | rfl <;> rfl)) ?_ | apply_assumption -exfalso -symm)
      all_goals (first | (show endQ _ _ _ _ _ _ _; (repeat (rename (∀ (A : Fr) (H : Hp), AWP _ _ _ _ A H → _) => hK; clear hK)); (repeat (rename (Fr → Hp → Prop) => K; clear K))) | (show Exists _; (repeat (rename (∀ (A : Fr) (H : Hp), AWP _ _ _ _ A H → _) => hK; clear hK)); (repeat (rename (Fr → Hp → Prop) => K; clear K))) | skip)
      refine awp_loop (ι := Nat × List Int) (fun z => [(6, .v (.int .i64 (z.1))), (5, .v (.int .i64 (((m + 1 : Nat) : Int)))), (4, intss cs), (3, .own 7 0 1 z.2.length)]) (fun z => Hp.emp.upd 7 (.cells z.2.length (cM iv 0 z.2))) (fun z => z.1 ≤ cs.length ∧ z.2 ++ (List.replicate (((lens p).drop z.1).count (m + 1)) ((m + 1 : Nat) : Int) ++ dsc (lens p) m) = D) (fun z => cs.length - z.1) (0, o) ⟨Nat.zero_le _, ho⟩ (Sub.toL (by simp only [go_sem] <;> first | trivial | (simp only [Option.some.injEq, AV.v.injEq, AV.own.injEq, AV.list.injEq, Value.int.injEq, Value.bool.injEq, true_and, and_true]; first | omega | (simp; done)) | (simp; done) | (simp; omega)) (by (repeat' (first | exact Hp.le_emp _ | exact Hp.le_refl _ | refine Hp.le_upd ?_ ?_)); all_goals (first | rfl | (simp only [go_sem]; first | rfl | (refine cellsE ?_ ?_ <;> (simp)) | (simp))))) ?_
      rintro ⟨i, u⟩ ⟨hi, hu⟩
      dsimp only at hi hu ⊢
      have hul : u.length ≤ 20 := by have := congrArg List.length hu; rw [List.length_append] at this; omega
      have hcg := Hold.mk (fun h : i < cs.length => hcg.h i h)
      have hdc := Hold.mk (fun h : i < cs.length => drop_count (l := lens p) (i := i) (by omega) (m + 1))
      have hu := Hold.mk hu
      repeat' (first | refine awp_seqK fun K hK => ?_ | (refine awp_regionK 4303488125 rfl ?_; simp only [List.map_cons, List.map_nil]; simp (maxSteps := 1000000) (dsimp := false) (implicitDefEqProofs := false) (disch := omega) only [wrap64, go_sem]) | (refine awp_regionQK 4303488125 (by kernel_rfl) (by kernel_rfl) (by kernel_rfl) ?_; simp only [List.map_cons, List.map_nil]; simp (maxSteps := 1000000) (dsimp := false) (implicitDefEqProofs := false) (disch := omega) only [wrap64, go_sem]) | refine awp_block ?_ | (refine awp_skip ?_; simp only [go_sem]) | (refine awp_exit ?_; simp only [go_sem]) | (refine awp_ret ?_; try simp only [go_sem]) | (refine awp_condP rfl ?_; try simp only [go_sem]) | (refine BrP.mk (fun h => ?_) (fun h => ?_) <;> try simp (dsimp := false) (disch := omega) only [wrap64]) | (refine Br.mk (fun h => ?_) (fun h => ?_) <;> try simp (dsimp := false) (disch := omega) only [wrap64]) | refine Ob.mk (by first | omega | (intro _ _; rfl) | trivial | (intros; trivial) | assumption | (intro i hi; have h0 : i = 0 := (by omega); subst h0; first | rfl | trivial) | (intro i hi; have h0 : i = 0 ∨ i = 1 := (by omega); rcases h0 with rfl | rfl <;> rfl) | (intro i hi; have h0 : i = 0 ∨ i = 1 ∨ i = 2 := (by omega); rcases h0 with rfl | rfl | rfl <;> rfl)) ?_ | apply_assumption -exfalso -symm)
      all_goals (first | (show endQ _ _ _ _ _ _ _; (repeat (rename (∀ (A : Fr) (H : Hp), AWP _ _ _ _ A H → _) => hK; clear hK)); (repeat (rename (Fr → Hp → Prop) => K; clear K))) | (show Exists _; (repeat (rename (∀ (A : Fr) (H : Hp), AWP _ _ _ _ A H → _) => hK; clear hK)); (repeat (rename (Fr → Hp → Prop) => K; clear K))) | skip)
      · have e := hdc.h (by omega)
        have e2 := hcg.h (by omega)
        rw [if_pos (by omega)] at e
        have hu2 := hu.h
        rw [e, List.replicate_succ] at hu2
        refine ⟨(i + 1, u ++ [((m + 1 : Nat) : Int)]), ⟨by dsimp only; omega, by rw [← hu2]; simp⟩, by dsimp only; omega, ?_⟩
        dsimp only
        rw [List.length_append, List.length_singleton]
        exact Sub.toL (by simp only [go_sem] <;> first | trivial | (simp only [Option.some.injEq, AV.v.injEq, AV.own.injEq, AV.list.injEq, Value.int.injEq, Value.bool.injEq, true_and, and_true]; first | omega | (simp; done)) | (simp; done) | (simp; omega)) (by (repeat' (first | exact Hp.le_emp _ | exact Hp.le_refl _ | refine Hp.le_upd ?_ ?_)); all_goals (first | rfl | (simp only [go_sem]; first | rfl | (refine cellsE ?_ ?_ <;> (simp)) | (simp))))
      · have e := hdc.h (by omega)
        have e2 := hcg.h (by omega)
        rw [if_neg (by omega)] at e
        have hu2 := hu.h
        rw [e] at hu2
        exact ⟨(i + 1, u), ⟨by dsimp only; omega, hu2⟩, by dsimp only; omega, Sub.toL (by simp only [go_sem] <;> first | trivial | (simp only [Option.some.injEq, AV.v.injEq, AV.own.injEq, AV.list.injEq, Value.int.injEq, Value.bool.injEq, true_and, and_true]; first | omega | (simp; done)) | (simp; done) | (simp; omega)) (by (repeat' (first | exact Hp.le_emp _ | exact Hp.le_refl _ | refine Hp.le_upd ?_ ?_)); all_goals (first | rfl | (simp only [go_sem]; first | rfl | (refine cellsE ?_ ?_ <;> (simp)) | (simp))))⟩
      · have hu2 := hu.h
        have e : i = (lens p).length := by omega
        rw [e, List.drop_length] at hu2
        have e3 : ((m + 1 : Nat) : Int) - 1 = (m : Int) := by omega
        rw [e3]
        exact ⟨(m, u), ⟨by dsimp only; omega, hu2⟩, by dsimp only; omega, Sub.toL (by simp only [go_sem] <;> first | trivial | (simp only [Option.some.injEq, AV.v.injEq, AV.own.injEq, AV.list.injEq, Value.int.injEq, Value.bool.injEq, true_and, and_true]; first | omega | (simp; done)) | (simp; done) | (simp; omega)) (by (repeat' (first | exact Hp.le_emp _ | exact Hp.le_refl _ | refine Hp.le_upd ?_ ?_)); all_goals (first | rfl | (simp only [go_sem]; first | rfl | (refine cellsE ?_ ?_ <;> (simp)) | (simp))))⟩
      all_goals omega
    · have hk1 : k = 0 := by omega
      have e : o = D := by rw [← ho, hk1]; simp [Go.Pm.dsc]
      repeat' (first | refine awp_seqK fun K hK => ?_ | (refine awp_regionK 4303488125 rfl ?_; simp only [List.map_cons, List.map_nil]; simp (maxSteps := 1000000) (dsimp := false) (implicitDefEqProofs := false) (disch := omega) only [wrap64, go_sem]) | (refine awp_regionQK 4303488125 (by kernel_rfl) (by kernel_rfl) (by kernel_rfl) ?_; simp only [List.map_cons, List.map_nil]; simp (maxSteps := 1000000) (dsimp := false) (implicitDefEqProofs := false) (disch := omega) only [wrap64, go_sem]) | refine awp_block ?_ | (refine awp_skip ?_; simp only [go_sem]) | (refine awp_exit ?_; simp only [go_sem]) | (refine awp_ret ?_; try simp only [go_sem]) | (refine awp_condP rfl ?_; try simp only [go_sem]) | (refine BrP.mk (fun h => ?_) (fun h => ?_) <;> try simp (dsimp := false) (disch := omega) only [wrap64]) | (refine Br.mk (fun h => ?_) (fun h => ?_) <;> try simp (dsimp := false) (disch := omega) only [wrap64]) | refine Ob.mk (by first | omega | (intro _ _; rfl) | trivial | (intros; trivial) | assumption | (intro i hi; have h0 : i = 0 := (by omega); subst h0; first | rfl | trivial) | (intro i hi; have h0 : i = 0 ∨ i = 1 := (by omega); rcases h0 with rfl | rfl <;> rfl) | (intro i hi; have h0 : i = 0 ∨ i = 1 ∨ i = 2 := (by omega); rcases h0 with rfl | rfl | rfl <;> rfl)) ?_ | apply_assumption -exfalso -symm)
      all_goals (first | (show endQ _ _ _ _ _ _ _; (repeat (rename (∀ (A : Fr) (H : Hp), AWP _ _ _ _ A H → _) => hK; clear hK)); (repeat (rename (Fr → Hp → Prop) => K; clear K))) | (show Exists _; (repeat (rename (∀ (A : Fr) (H : Hp), AWP _ _ _ _ A H → _) => hK; clear hK)); (repeat (rename (Fr → Hp → Prop) => K; clear K))) | skip)
      · exfalso; omega
      · rw [← e]
        (first | refine end_retI' rfl rfl rfl ?_ rfl rfl | refine end_retI_nil' rfl rfl ?_ rfl)
        rfl
  · rw [decide_eq_false h] at hip
    rw [show ctS p = [] from if_neg h]
    have hip := Hold.mk hip
    clear h
    refine ac_of_awp (N := ⟨_, fun _ => false, fun _ _ => rfl, true⟩) Try.func28 rfl (by kernel_rfl) Try.ntmps28 (by simp) ?_
    simp only [argsFr, List.zipIdx_cons, List.zipIdx_nil, go_sem]
    repeat' (first | refine awp_seqK fun K hK => ?_ | (refine awp_regionK 4303488125 rfl ?_; simp only [List.map_cons, List.map_nil]; simp (maxSteps := 1000000) (dsimp := false) (implicitDefEqProofs := false) (disch := omega) only [wrap64, go_sem]) | (refine awp_regionQK 4303488125 (by kernel_rfl) (by kernel_rfl) (by kernel_rfl) ?_; simp only [List.map_cons, List.map_nil]; simp (maxSteps := 1000000) (dsimp := false) (implicitDefEqProofs := false) (disch := omega) only [wrap64, go_sem]) | refine awp_block ?_ | (refine awp_skip ?_; simp only [go_sem]) | (refine awp_exit ?_; simp only [go_sem]) | (refine awp_ret ?_; try simp only [go_sem]) | (refine awp_condP rfl ?_; try simp only [go_sem]) | (refine BrP.mk (fun h => ?_) (fun h => ?_) <;> try simp (dsimp := false) (disch := omega) only [wrap64]) | (refine Br.mk (fun h => ?_) (fun h => ?_) <;> try simp (dsimp := false) (disch := omega) only [wrap64]) | refine Ob.mk (by first | omega | (intro _ _; rfl) | trivial | (intros; trivial) | assumption | (intro i hi; have h0 : i = 0 := (by omega); subst h0; first | rfl | trivial) | (intro i hi; have h0 : i = 0 ∨ i = 1 := (by omega); rcases h0 with rfl | rfl <;> rfl) | (intro i hi; have h0 : i = 0 ∨ i = 1 ∨ i = 2 := (by omega); rcases h0 with rfl | rfl | rfl <;> rfl)) ?_ | ((first | ((first | refine atF (f := 10) ?_ | refine atQ (f := 10) ?_); (refine cV (hfit := .cons (.refl _) .nil) (hac := hip.h) (hK := ?_)))); simp (maxSteps := 1000000) (dsimp := false) (implicitDefEqProofs := false) (disch := omega) only [wrap64, go_sem]) | apply_assumption -exfalso -symm)
    all_goals (first | (show endQ _ _ _ _ _ _ _; (repeat (rename (∀ (A : Fr) (H : Hp), AWP _ _ _ _ A H → _) => hK; clear hK)); (repeat (rename (Fr → Hp → Prop) => K; clear K))) | (show Exists _; (repeat (rename (∀ (A : Fr) (H : Hp), AWP _ _ _ _ A H → _) => hK; clear hK)); (repeat (rename (Fr → Hp → Prop) => K; clear K))) | skip)
    (first | refine end_retI' rfl rfl rfl ?_ rfl rfl | refine end_retI_nil' rfl rfl ?_ rfl)
    rfl
end Go.Proofs.Ytpffmolibjimgaa
end
/- Cycle types, by the program. -/
section
namespace Go.Proofs.Ytpffmolibjimgaa
open Go.Av
set_option linter.unusedSimpArgs false
set_option linter.unusedVariables false
attribute [local irreducible] AWP CallG Ob Br BrP Go.Av.Sub endQ AOps OpV AC thenA blkA opsVC opVC withA withArgs opsQ opQ CallQ withA2 withArgs2
open Go.Pm (Pm comp invp idn img cyc clen cycs lens dsc ctP cnj)
abbrev ofN (l : List Nat) : List Int := l.map fun x : Nat => (x : Int)
theorem ofN_drop {l : List Nat} {k : Nat} (h : k < l.length) : ofN (l.drop k) = (l.getD k 0 : Int) :: ofN (l.drop (k + 1)) ∧ (l.drop k).sum = l.getD k 0 + (l.drop (k + 1)).sum := by
  rw [List.drop_eq_getElem_cons h]
  have e : l.getD k 0 = l[k] := by simp [List.getD_eq_getElem?_getD, h]
  rw [e]
  exact ⟨rfl, List.sum_cons ..⟩
set_option maxHeartbeats 4000000 in
theorem implCycleTypeI_ok (p : List Int) (hp : Pm p.length p) (hn : 1 ≤ p.length ∧ p.length ≤ 20) (d : Nat) : AC Try.prog 21 [ints p] Hp.emp (fun _ => false) (retI d (ctP p)) := by
  have hsum := Go.Pm.ones_sum hp
  have hct := Go.Pm.ct_long hp
  have hin := Go.Pm.long_in hp
  have hll := Go.Pm.long_len hp
  obtain ⟨cs, ecs⟩ : ∃ cs, cs = cycs p := ⟨_, rfl⟩
  obtain ⟨F, eF⟩ : ∃ F, F = (lens p).count 1 := ⟨_, rfl⟩
  rw [← ecs, ← eF] at hsum hct hin hll
  obtain ⟨ls, els⟩ : ∃ ls, ls = cs.map List.length := ⟨_, rfl⟩
  rw [← els] at hsum hct hin hll
  obtain ⟨W, eW⟩ : ∃ W, W = ofN (ls ++ List.replicate F 1) := ⟨_, rfl⟩
  have hWl : W.length ≤ 20 := by rw [eW, List.length_map]; omega
  have hlsl : ls.length = cs.length := by rw [els, List.length_map]
  have hcg : ∀ i, i < cs.length → (cs.getD i []).length = ls.getD i 0 := fun i hi => by rw [els]; simp [List.getD_eq_getElem?_getD, hi]
  have hsd := sort_dsc hin
  rw [hct] at hsd
  have hsd : (srtL W).reverse = ctP p := by rw [eW]; exact hsd
  have hW2 : W = ofN ls ++ List.replicate F 1 := by rw [eW]; simp [ofN]
  have hso := sort_ok W (by omega) 30
  have hre := reverse_ok (srtL W) 0 (Nat.zero_le _) (by rw [srtL_len]; omega) 30
  have hsl := srtL_len W
  rw [List.take_zero, List.drop_zero, List.nil_append, hsd, Nat.sub_zero] at hre
  have hrl : (ctP p).length = W.length := by rw [← hsd, List.length_reverse, hsl]
  rw [hsl] at hre
  obtain ⟨C, eC⟩ : ∃ C, C = ctP p := ⟨_, rfl⟩
  obtain ⟨Z, eZ⟩ : ∃ Z, Z = srtL W := ⟨_, rfl⟩
  rw [← eC] at hre hrl ⊢
  rw [← eZ] at hso hre
  have hso := Hold.mk hso
  have hre := Hold.mk hre
  have hp := Hold.mk hp
  have hcg := Hold.mk hcg
  clear hin hct hsd eC eZ eF els
  refine ac_of_awp (N := ⟨_, fun _ => false, fun _ _ => rfl, true⟩) Try.func21 rfl (by kernel_rfl) Try.ntmps21 (by simp) ?_
  simp only [argsFr, List.zipIdx_cons, List.zipIdx_nil, go_sem]
  repeat' (first | refine awp_seqK fun K hK => ?_ | (refine awp_regionK 134233181 rfl ?_; simp only [List.map_cons, List.map_nil]; simp (maxSteps := 1000000) (dsimp := false) (implicitDefEqProofs := false) (disch := omega) only [wrap64, go_sem, ecs.symm]) | (refine awp_regionQK 134233181 (by kernel_rfl) (by kernel_rfl) (by kernel_rfl) ?_; simp only [List.map_cons, List.map_nil]; simp (maxSteps := 1000000) (dsimp := false) (implicitDefEqProofs := false) (disch := omega) only [wrap64, go_sem, ecs.symm]) | refine awp_block ?_ | (refine awp_skip ?_; simp only [go_sem, ecs.symm]) | (refine awp_exit ?_; simp only [go_sem, ecs.symm]) | (refine awp_ret ?_; try simp only [go_sem, ecs.symm]) | (refine awp_condP rfl ?_; try simp only [go_sem, ecs.symm]) | (refine BrP.mk (fun h => ?_) (fun h => ?_) <;> try simp (dsimp := false) (disch := omega) only [wrap64]) | (refine Br.mk (fun h => ?_) (fun h => ?_) <;> try simp (dsimp := false) (disch := omega) only [wrap64]) | refine Ob.mk (by first | omega | (intro _ _; rfl) | trivial | (intros; trivial) | assumption | (intro i hi; have h0 : i = 0 := (by omega); subst h0; first | rfl | trivial) | (intro i hi; have h0 : i = 0 ∨ i = 1 := (by omega); rcases h0 with rfl | rfl <;> rfl) | (intro i hi; have h0 : i = 0 ∨ i = 1 ∨ i = 2 := (by omega); rcases h0 with rfl | rfl | rfl <;> rfl)) ?_ | ((first | ((first | refine atF (f := 23) ?_ | refine atQ (f := 23) ?_); (first | (refine cV (hac := length_ok p) (hK := ?_)) | (refine cQV (hac := length_ok p) (hK := ?_)))) | ((first | refine atF (f := 38) ?_ | refine atQ (f := 38) ?_); (first | (refine cR (hac := (implCycles_ok p.length p hp.h hn.2)) (hK := ?_)) | (refine cQR (hac := (implCycles_ok p.length p hp.h hn.2)) (hK := ?_))))); simp (maxSteps := 1000000) (dsimp := false) (implicitDefEqProofs := false) (disch := omega) only [wrap64, go_sem, ecs.symm]) | apply_assumption -exfalso -symm)
  all_goals (first | (show endQ _ _ _ _ _ _ _; (repeat (rename (∀ (A : Fr) (H : Hp), AWP _ _ _ _ A H → _) => hK; clear hK)); (repeat (rename (Fr → Hp → Prop) => K; clear K))) | (show Exists _; (repeat (rename (∀ (A : Fr) (H : Hp), AWP _ _ _ _ A H → _) => hK; clear hK)); (repeat (rename (Fr → Hp → Prop) => K; clear K))) | skip)
  refine awp_loop (ι := Nat × Nat × List Int) (fun z => [(12, .v (.int .i64 (z.1))), (11, .v (.int .i64 (cs.length))), (10, intss cs), (4, .v (.int .i64 (z.2.1))), (3, .own 30 0 1 z.2.2.length)]) (fun z => Hp.emp.upd 30 (.cells z.2.2.length (cM iv 0 z.2.2))) (fun z => z.1 ≤ cs.length ∧ (z.2.1 = F + (ls.drop z.1).sum ∧ z.2.1 ≤ 20) ∧ z.2.2 ++ ofN (ls.drop z.1) = ofN ls) (fun z => cs.length - z.1) (0, p.length, []) ⟨Nat.zero_le _, ⟨by rw [List.drop_zero]; dsimp only; omega, hn.2⟩, rfl⟩ (Sub.trans (Sub.nil (i := 3) 30 1 (cM iv 0 []) rfl rfl) (Sub.toL (by simp only [go_sem] <;> first | trivial | (simp only [Option.some.injEq, AV.v.injEq, AV.own.injEq, AV.list.injEq, Value.int.injEq, Value.bool.injEq, true_and, and_true]; first | omega | (simp; done)) | (simp; done) | (simp; omega)) (by (repeat' (first | exact Hp.le_emp _ | exact Hp.le_refl _ | refine Hp.le_upd ?_ ?_)); all_goals (first | rfl | (simp only [go_sem]; first | rfl | (refine cellsE ?_ ?_ <;> (simp)) | (simp)))))) ?_
  rintro ⟨k, f, o⟩ ⟨hk, ⟨hf, hf2⟩, ho⟩
  dsimp only at hk hf hf2 ho ⊢
  have hdr := Hold.mk (fun h : k < cs.length => ofN_drop (l := ls) (k := k) (by omega))
  have hol : o.length ≤ 20 := by
    have := congrArg List.length ho
    have e := congrArg List.length hW2
    rw [List.length_append] at this e
    omega
  have hcg1 := Hold.mk (fun h : k < cs.length => hcg.h k h)
  have ho := Hold.mk ho
  have hcl : cs.length ≤ 20 := by
    have e := congrArg List.length hW2
    rw [List.length_append, List.length_map] at e
    omega
  have hfc : k < cs.length → (cs.getD k []).length ≤ f := fun h => by
    have e1 := (hdr.h h).2
    have e2 := hcg1.h h
    omega
  repeat' (first | refine awp_seqK fun K hK => ?_ | (refine awp_regionK 134233181 rfl ?_; simp only [List.map_cons, List.map_nil]; simp (maxSteps := 1000000) (dsimp := false) (implicitDefEqProofs := false) (disch := omega) only [wrap64, go_sem]) | (refine awp_regionQK 134233181 (by kernel_rfl) (by kernel_rfl) (by kernel_rfl) ?_; simp only [List.map_cons, List.map_nil]; simp (maxSteps := 1000000) (dsimp := false) (implicitDefEqProofs := false) (disch := omega) only [wrap64, go_sem]) | refine awp_block ?_ | (refine awp_skip ?_; simp only [go_sem]) | (refine awp_exit ?_; simp only [go_sem]) | (refine awp_ret ?_; try simp only [go_sem]) | (refine awp_condP rfl ?_; try simp only [go_sem]) | (refine BrP.mk (fun h => ?_) (fun h => ?_) <;> try simp (dsimp := false) (disch := omega) only [wrap64]) | (refine Br.mk (fun h => ?_) (fun h => ?_) <;> try simp (dsimp := false) (disch := omega) only [wrap64]) | refine Ob.mk (by first | omega | (intro _ _; rfl) | trivial | (intros; trivial) | assumption | (intro i hi; have h0 : i = 0 := (by omega); subst h0; first | rfl | trivial) | (intro i hi; have h0 : i = 0 ∨ i = 1 := (by omega); rcases h0 with rfl | rfl <;> rfl) | (intro i hi; have h0 : i = 0 ∨ i = 1 ∨ i = 2 := (by omega); rcases h0 with rfl | rfl | rfl <;> rfl)) ?_ | ((first | ((first | refine atF (f := 23) ?_ | refine atQ (f := 23) ?_); (first | (refine cV (hac := length_ok (cs.getD k [])) (hK := ?_)) | (refine cQV (hac := length_ok (cs.getD k [])) (hK := ?_))))); simp (maxSteps := 1000000) (dsimp := false) (implicitDefEqProofs := false) (disch := omega) only [wrap64, go_sem]) | apply_assumption -exfalso -symm)
  all_goals (first | (show endQ _ _ _ _ _ _ _; (repeat (rename (∀ (A : Fr) (H : Hp), AWP _ _ _ _ A H → _) => hK; clear hK)); (repeat (rename (Fr → Hp → Prop) => K; clear K))) | (show Exists _; (repeat (rename (∀ (A : Fr) (H : Hp), AWP _ _ _ _ A H → _) => hK; clear hK)); (repeat (rename (Fr → Hp → Prop) => K; clear K))) | skip)
  · obtain ⟨e1, e2⟩ := hdr.h (by omega)
    have e3 := hcg1.h (by omega)
    have ho2 := ho.h
    rw [e1] at ho2
    have e4 : (f : Int) - ((cs.getD k []).length : Int) = ((f - ls.getD k 0 : Nat) : Int) := by omega
    rw [e4, e3]
    refine ⟨(k + 1, f - ls.getD k 0, o ++ [((ls.getD k 0 : Nat) : Int)]), ⟨by dsimp only; omega, ⟨by dsimp only; omega, by dsimp only; omega⟩, by rw [← ho2]; simp⟩, by dsimp only; omega, ?_⟩
    dsimp only
    rw [List.length_append, List.length_singleton]
    exact Sub.toL (by simp only [go_sem] <;> first | trivial | (simp only [Option.some.injEq, AV.v.injEq, AV.own.injEq, AV.list.injEq, Value.int.injEq, Value.bool.injEq, true_and, and_true]; first | omega | (simp; done)) | (simp; done) | (simp; omega)) (by (repeat' (first | exact Hp.le_emp _ | exact Hp.le_refl _ | refine Hp.le_upd ?_ ?_)); all_goals (first | rfl | (simp only [go_sem]; first | rfl | (refine cellsE ?_ ?_ <;> (simp)) | (simp))))
  · have e1 : k = ls.length := by omega
    have ho2 := ho.h
    rw [e1, List.drop_length] at ho2 hf
    have ho3 : o ++ List.replicate F 1 = W := by rw [hW2, ← ho2]; simp
    have hF : f = F := by simpa using hf
    refine awp_loop (ι := Nat × List Int) (fun z => [(4, .v (.int .i64 (z.1))), (3, .own 30 0 1 z.2.length)]) (fun z => Hp.emp.upd 30 (.cells z.2.length (cM iv 0 z.2))) (fun z => z.1 ≤ 20 ∧ z.2 ++ List.replicate z.1 1 = W) (fun z => z.1) (f, o) ⟨hf2, by rw [hF]; exact ho3⟩ (Sub.toL (by simp only [go_sem] <;> first | trivial | (simp only [Option.some.injEq, AV.v.injEq, AV.own.injEq, AV.list.injEq, Value.int.injEq, Value.bool.injEq, true_and, and_true]; first | omega | (simp; done)) | (simp; done) | (simp; omega)) (by (repeat' (first | exact Hp.le_emp _ | exact Hp.le_refl _ | refine Hp.le_upd ?_ ?_)); all_goals (first | rfl | (simp only [go_sem]; first | rfl | (refine cellsE ?_ ?_ <;> (simp)) | (simp))))) ?_
    rintro ⟨m, u⟩ ⟨hm, hu⟩
    dsimp only at hm hu ⊢
    have hul : u.length ≤ 20 := by
      have := congrArg List.length hu
      rw [List.length_append] at this
      omega
    have hu := Hold.mk hu
    repeat' (first | refine awp_seqK fun K hK => ?_ | (refine awp_regionK 134233181 rfl ?_; simp only [List.map_cons, List.map_nil]; simp (maxSteps := 1000000) (dsimp := false) (implicitDefEqProofs := false) (disch := omega) only [wrap64, go_sem]) | (refine awp_regionQK 134233181 (by kernel_rfl) (by kernel_rfl) (by kernel_rfl) ?_; simp only [List.map_cons, List.map_nil]; simp (maxSteps := 1000000) (dsimp := false) (implicitDefEqProofs := false) (disch := omega) only [wrap64, go_sem]) | refine awp_block ?_ | (refine awp_skip ?_; simp only [go_sem]) | (refine awp_exit ?_; simp only [go_sem]) | (refine awp_ret ?_; try simp only [go_sem]) | (refine awp_condP rfl ?_; try simp only [go_sem]) | (refine BrP.mk (fun h => ?_) (fun h => ?_) <;> try simp (dsimp := false) (disch := omega) only [wrap64]) | (refine Br.mk (fun h => ?_) (fun h => ?_) <;> try simp (dsimp := false) (disch := omega) only [wrap64]) | refine Ob.mk (by first | omega | (intro _ _; rfl) | trivial | (intros; trivial) | assumption | (intro i hi; have h0 : i = 0 := (by omega); subst h0; first | rfl | trivial) | (intro i hi; have h0 : i = 0 ∨ i = 1 := (by omega); rcases h0 with rfl | rfl <;> rfl) | (intro i hi; have h0 : i = 0 ∨ i = 1 ∨ i = 2 := (by omega); rcases h0 with rfl | rfl | rfl <;> rfl)) ?_ | apply_assumption -exfalso -symm)
    all_goals (first | (show endQ _ _ _ _ _ _ _; (repeat (rename (∀ (A : Fr) (H : Hp), AWP _ _ _ _ A H → _) => hK; clear hK)); (repeat (rename (Fr → Hp → Prop) => K; clear K))) | (show Exists _; (repeat (rename (∀ (A : Fr) (H : Hp), AWP _ _ _ _ A H → _) => hK; clear hK)); (repeat (rename (Fr → Hp → Prop) => K; clear K))) | skip)
    · obtain ⟨m', rfl⟩ : ∃ m', m = m' + 1 := ⟨m - 1, by omega⟩
      have hu2 := hu.h
      rw [List.replicate_succ] at hu2
      have e4 : ((m' + 1 : Nat) : Int) - 1 = (m' : Int) := by omega
      rw [e4]
      refine ⟨(m', u ++ [1]), ⟨by dsimp only; omega, by rw [← hu2]; simp⟩, by dsimp only; omega, ?_⟩
      dsimp only
      rw [List.length_append, List.length_singleton]
      exact Sub.toL (by simp only [go_sem] <;> first | trivial | (simp only [Option.some.injEq, AV.v.injEq, AV.own.injEq, AV.list.injEq, Value.int.injEq, Value.bool.injEq, true_and, and_true]; first | omega | (simp; done)) | (simp; done) | (simp; omega)) (by (repeat' (first | exact Hp.le_emp _ | exact Hp.le_refl _ | refine Hp.le_upd ?_ ?_)); all_goals (first | rfl | (simp only [go_sem]; first | rfl | (refine cellsE ?_ ?_ <;> (simp)) | (simp))))
    · have e : u = W := by
        have hu2 := hu.h
        rw [show m = 0 by omega] at hu2
        simpa using hu2
      subst e
      repeat' (first | refine awp_seqK fun K hK => ?_ | (refine awp_regionK 134233181 rfl ?_; simp only [List.map_cons, List.map_nil]; simp (maxSteps := 1000000) (dsimp := false) (implicitDefEqProofs := false) (disch := omega) only [wrap64, go_sem]) | (refine awp_regionQK 134233181 (by kernel_rfl) (by kernel_rfl) (by kernel_rfl) ?_; simp only [List.map_cons, List.map_nil]; simp (maxSteps := 1000000) (dsimp := false) (implicitDefEqProofs := false) (disch := omega) only [wrap64, go_sem]) | refine awp_block ?_ | (refine awp_skip ?_; simp only [go_sem]) | (refine awp_exit ?_; simp only [go_sem]) | (refine awp_ret ?_; try simp only [go_sem]) | (refine awp_condP rfl ?_; try simp only [go_sem]) | (refine BrP.mk (fun h => ?_) (fun h => ?_) <;> try simp (dsimp := false) (disch := omega) only [wrap64]) | (refine Br.mk (fun h => ?_) (fun h => ?_) <;> try simp (dsimp := false) (disch := omega) only [wrap64]) | refine Ob.mk (by first | omega | (intro _ _; rfl) | trivial | (intros; trivial) | assumption | (intro i hi; have h0 : i = 0 := (by omega); subst h0; first | rfl | trivial) | (intro i hi; have h0 : i = 0 ∨ i = 1 := (by omega); rcases h0 with rfl | rfl <;> rfl) | (intro i hi; have h0 : i = 0 ∨ i = 1 ∨ i = 2 := (by omega); rcases h0 with rfl | rfl | rfl <;> rfl)) ?_ | ((first | ((first | refine atF (f := 39) ?_ | refine atQ (f := 39) ?_); (refine cM' (hac := hso.h) (ha := vd_scrub) (hK := ?_))) | ((first | refine atF (f := 40) ?_ | refine atQ (f := 40) ?_); (refine cM' (hac := hre.h) (ha := vd_scrub) (hK := ?_)))); simp (maxSteps := 1000000) (dsimp := false) (implicitDefEqProofs := false) (disch := omega) only [wrap64, go_sem]) | apply_assumption -exfalso -symm)
      all_goals (first | (show endQ _ _ _ _ _ _ _; (repeat (rename (∀ (A : Fr) (H : Hp), AWP _ _ _ _ A H → _) => hK; clear hK)); (repeat (rename (Fr → Hp → Prop) => K; clear K))) | (show Exists _; (repeat (rename (∀ (A : Fr) (H : Hp), AWP _ _ _ _ A H → _) => hK; clear hK)); (repeat (rename (Fr → Hp → Prop) => K; clear K))) | skip)
      rw [← hrl]
      (first | refine end_retI' rfl rfl rfl ?_ rfl rfl | refine end_retI_nil' rfl rfl ?_ rfl)
      rfl
theorem implCycleType_ok (p : List Int) (d : Nat) : AC Try.prog 13 [ints p] Hp.emp (fun _ => false) (retI d (ctS p)) := by
  have hC := Hold.mk (fun h : isPerm p => by
    obtain ⟨h1, h2⟩ := (isPerm_pm p).1 h
    exact implCycleTypeI_ok p h2 h1 40 : isPerm p → AC Try.prog 21 [ints p] Hp.emp (fun _ => false) (retI 40 (ctP p)))
  refine ac_of_awp (N := ⟨_, fun _ => false, fun _ _ => rfl, true⟩) Try.func13 rfl (by kernel_rfl) Try.ntmps13 (by simp) ?_
  simp only [argsFr, List.zipIdx_cons, List.zipIdx_nil, go_sem]
  repeat' (first | refine awp_seqK fun K hK => ?_ | (refine awp_regionK 37 rfl ?_; simp only [List.map_cons, List.map_nil]; simp (maxSteps := 1000000) (dsimp := false) (implicitDefEqProofs := false) (disch := omega) only [wrap64, go_sem]) | (refine awp_regionQK 37 (by kernel_rfl) (by kernel_rfl) (by kernel_rfl) ?_; simp only [List.map_cons, List.map_nil]; simp (maxSteps := 1000000) (dsimp := false) (implicitDefEqProofs := false) (disch := omega) only [wrap64, go_sem]) | refine awp_block ?_ | (refine awp_skip ?_; simp only [go_sem]) | (refine awp_exit ?_; simp only [go_sem]) | (refine awp_ret ?_; try simp only [go_sem]) | (refine awp_condP rfl ?_; try simp only [go_sem]) | (refine BrP.mk (fun h => ?_) (fun h => ?_) <;> try simp (dsimp := false) (disch := omega) only [wrap64]) | (refine Br.mk (fun h => ?_) (fun h => ?_) <;> try simp (dsimp := false) (disch := omega) only [wrap64]) | refine Ob.mk (by first | omega | (intro _ _; rfl) | trivial | (intros; trivial) | assumption | (intro i hi; have h0 : i = 0 := (by omega); subst h0; first | rfl | trivial) | (intro i hi; have h0 : i = 0 ∨ i = 1 := (by omega); rcases h0 with rfl | rfl <;> rfl) | (intro i hi; have h0 : i = 0 ∨ i = 1 ∨ i = 2 := (by omega); rcases h0 with rfl | rfl | rfl <;> rfl)) ?_ | ((first | ((first | refine atF (f := 31) ?_ | refine atQ (f := 31) ?_); (first | (refine cV (hac := implIsPermutation_ok p) (hK := ?_)) | (refine cQV (hac := implIsPermutation_ok p) (hK := ?_)))) | ((first | refine atF (f := 21) ?_ | refine atQ (f := 21) ?_); (refine cI (hac := hC.h (by assumption)) (hK := ?_)))); simp (maxSteps := 1000000) (dsimp := false) (implicitDefEqProofs := false) (disch := omega) only [wrap64, go_sem]) | apply_assumption -exfalso -symm)
  all_goals (first | (show endQ _ _ _ _ _ _ _; (repeat (rename (∀ (A : Fr) (H : Hp), AWP _ _ _ _ A H → _) => hK; clear hK)); (repeat (rename (Fr → Hp → Prop) => K; clear K))) | (show Exists _; (repeat (rename (∀ (A : Fr) (H : Hp), AWP _ _ _ _ A H → _) => hK; clear hK)); (repeat (rename (Fr → Hp → Prop) => K; clear K))) | skip)
  all_goals
    (first | refine end_retI' rfl rfl rfl ?_ rfl rfl | refine end_retI_nil' rfl rfl ?_ rfl)
    unfold ctS
    first
    | (rw [if_pos (by assumption)]; done)
    | (rw [if_neg (by assumption)]; done)
    | (rw [if_neg (by assumption)]; rfl)
theorem arePermsC_ok (p q : List Int) : AC Try.prog 19 [ints p, ints q] Hp.emp (fun _ => false) (retV (.v (.bool (decide (p.length = q.length ∧ isPerm p ∧ isPerm q))))) := by
  refine ac_of_awp (N := ⟨_, fun _ => false, fun _ _ => rfl, true⟩) Try.func19 rfl (by kernel_rfl) Try.ntmps19 (by simp) ?_
  simp only [argsFr, List.zipIdx_cons, List.zipIdx_nil, go_sem]
  repeat' (first | refine awp_seqK fun K hK => ?_ | (refine awp_regionK 19 rfl ?_; simp only [List.map_cons, List.map_nil]; simp (maxSteps := 1000000) (dsimp := false) (implicitDefEqProofs := false) (disch := omega) only [wrap64, go_sem]) | (refine awp_regionQK 19 (by kernel_rfl) (by kernel_rfl) (by kernel_rfl) ?_; simp only [List.map_cons, List.map_nil]; simp (maxSteps := 1000000) (dsimp := false) (implicitDefEqProofs := false) (disch := omega) only [wrap64, go_sem]) | refine awp_block ?_ | (refine awp_skip ?_; simp only [go_sem]) | (refine awp_exit ?_; simp only [go_sem]) | (refine awp_ret ?_; try simp only [go_sem]) | (refine awp_condP rfl ?_; try simp only [go_sem]) | (refine BrP.mk (fun h => ?_) (fun h => ?_) <;> try simp (dsimp := false) (disch := omega) only [wrap64]) | (refine Br.mk (fun h => ?_) (fun h => ?_) <;> try simp (dsimp := false) (disch := omega) only [wrap64]) | refine Ob.mk (by first | omega | (intro _ _; rfl) | trivial | (intros; trivial) | assumption | (intro i hi; have h0 : i = 0 := (by omega); subst h0; first | rfl | trivial) | (intro i hi; have h0 : i = 0 ∨ i = 1 := (by omega); rcases h0 with rfl | rfl <;> rfl) | (intro i hi; have h0 : i = 0 ∨ i = 1 ∨ i = 2 := (by omega); rcases h0 with rfl | rfl | rfl <;> rfl)) ?_ | ((first | ((first | refine atF (f := 31) ?_ | refine atQ (f := 31) ?_); (first | (refine cV (hac := implIsPermutation_ok p) (hK := ?_)) | (refine cQV (hac := implIsPermutation_ok p) (hK := ?_)))) | ((first | refine atF (f := 31) ?_ | refine atQ (f := 31) ?_); (first | (refine cV (hac := implIsPermutation_ok q) (hK := ?_)) | (refine cQV (hac := implIsPermutation_ok q) (hK := ?_))))); simp (maxSteps := 1000000) (dsimp := false) (implicitDefEqProofs := false) (disch := omega) only [wrap64, go_sem]) | apply_assumption -exfalso -symm)
  all_goals (first | (show endQ _ _ _ _ _ _ _; (repeat (rename (∀ (A : Fr) (H : Hp), AWP _ _ _ _ A H → _) => hK; clear hK)); (repeat (rename (Fr → Hp → Prop) => K; clear K))) | (show Exists _; (repeat (rename (∀ (A : Fr) (H : Hp), AWP _ _ _ _ A H → _) => hK; clear hK)); (repeat (rename (Fr → Hp → Prop) => K; clear K))) | skip)
  all_goals
    refine end_retB rfl rfl ?_
    first
    | (rw [decide_eq_true_eq]; exact ⟨fun h => ⟨by omega, by assumption, h⟩, fun h => h.2.2⟩)
    | (simp only [Bool.false_eq_true, false_iff]; rintro ⟨h1, h2, h3⟩; first | omega | contradiction)
end Go.Proofs.Ytpffmolibjimgaa
end
/- Equal cycle types, conjugates, by both texts. -/
section
namespace Go.Proofs.Ytpffmolibjimgaa
open Go.Av
set_option linter.unusedSimpArgs false
set_option linter.unusedVariables false
attribute [local irreducible] AWP CallG Ob Br BrP Go.Av.Sub endQ AOps OpV AC thenA blkA opsVC opVC withA withArgs opsQ opQ CallQ withA2 withArgs2
open Go.Pm (Pm comp invp idn img cyc clen cycs lens dsc ctP cnj)
def sameP (p q : List Int) : Prop := p.length = q.length ∧ isPerm p ∧ isPerm q
instance (p q : List Int) : Decidable (sameP p q) := by unfold sameP; infer_instance
def sctP (p q : List Int) : Prop := sameP p q ∧ ctP p = ctP q
instance (p q : List Int) : Decidable (sctP p q) := by unfold sctP; infer_instance
theorem ctP_len {p : List Int} (h : isPerm p) : (ctP p).length ≤ 20 := by
  have := ctS_len p
  unfold ctS at this
  rwa [if_pos h] at this
theorem implSameCycleType_ok (p q : List Int) : AC Try.prog 6 [ints p, ints q] Hp.emp (fun _ => false) (retV (.v (.bool (decide (sctP p q))))) := by
  have ha := arePermsC_ok p q
  by_cases h : sameP p q
  · rw [decide_eq_true (show p.length = q.length ∧ isPerm p ∧ isPerm q from h)] at ha
    obtain ⟨h1, h2⟩ := (isPerm_pm p).1 h.2.1
    obtain ⟨h3, h4⟩ := (isPerm_pm q).1 h.2.2
    have c1 := fun d => implCycleTypeI_ok p h2 h1 d
    have c2 := fun d => implCycleTypeI_ok q h4 h3 d
    have l1 := ctP_len h.2.1
    have l2 := ctP_len h.2.2
    have es : decide (sctP p q) = decide (ctP p = ctP q) := decide_eq_decide.2 ⟨fun x => x.2, fun x => ⟨h, x⟩⟩
    rw [es]
    have c3 := slicesEqual_ok (ctP p) (ctP q) (by omega)
    have ha := Hold.mk ha
    have c1 := Hold.mk c1
    have c2 := Hold.mk c2
    have c3 := Hold.mk c3
    clear h h1 h2 h3 h4 es
    refine ac_of_awp (N := ⟨_, fun _ => false, fun _ _ => rfl, true⟩) Try.func6 rfl (by kernel_rfl) Try.ntmps6 (by simp) ?_
    simp only [argsFr, List.zipIdx_cons, List.zipIdx_nil, go_sem]
    repeat' (first | refine awp_seqK fun K hK => ?_ | (refine awp_regionK 19 rfl ?_; simp only [List.map_cons, List.map_nil]; simp (maxSteps := 1000000) (dsimp := false) (implicitDefEqProofs := false) (disch := omega) only [wrap64, go_sem]) | (refine awp_regionQK 19 (by kernel_rfl) (by kernel_rfl) (by kernel_rfl) ?_; simp only [List.map_cons, List.map_nil]; simp (maxSteps := 1000000) (dsimp := false) (implicitDefEqProofs := false) (disch := omega) only [wrap64, go_sem]) | refine awp_block ?_ | (refine awp_skip ?_; simp only [go_sem]) | (refine awp_exit ?_; simp only [go_sem]) | (refine awp_ret ?_; try simp only [go_sem]) | (refine awp_condP rfl ?_; try simp only [go_sem]) | (refine BrP.mk (fun h => ?_) (fun h => ?_) <;> try simp (dsimp := false) (disch := omega) only [wrap64]) | (refine Br.mk (fun h => ?_) (fun h => ?_) <;> try simp (dsimp := false) (disch := omega) only [wrap64]) | refine Ob.mk (by first | omega | (intro _ _; rfl) | trivial | (intros; trivial) | assumption | (intro i hi; have h0 : i = 0 := (by omega); subst h0; first | rfl | trivial) | (intro i hi; have h0 : i = 0 ∨ i = 1 := (by omega); rcases h0 with rfl | rfl <;> rfl) | (intro i hi; have h0 : i = 0 ∨ i = 1 ∨ i = 2 := (by omega); rcases h0 with rfl | rfl | rfl <;> rfl)) ?_ | ((first | ((first | refine atF (f := 19) ?_ | refine atQ (f := 19) ?_); (first | refine cV (hfit := .cons (.refl _) (.cons (.refl _) .nil)) (hac := ha.h) (hK := ?_) | refine cQV (hfit := .cons (.refl _) (.cons (.refl _) .nil)) (hac := ha.h) (hK := ?_))) | ((first | refine atF (f := 21) ?_ | refine atQ (f := 21) ?_); (first | refine cFI (hac := c1.h 40) (hK := ?_) | refine cFI (hac := c2.h 41) (hK := ?_) | refine cQI (hac := c1.h 40) (hK := ?_) | refine cQI (hac := c2.h 41) (hK := ?_))) | ((first | refine atF (f := 20) ?_ | refine atQ (f := 20) ?_); (first | refine cV (hfit := .cons (.refl _) (.cons (.refl _) .nil)) (hac := c3.h) (hK := ?_) | refine cQV (hfit := .cons (.refl _) (.cons (.refl _) .nil)) (hac := c3.h) (hK := ?_)))); simp (maxSteps := 1000000) (dsimp := false) (implicitDefEqProofs := false) (disch := omega) only [wrap64, go_sem]) | apply_assumption -exfalso -symm)
    all_goals (first | (show endQ _ _ _ _ _ _ _; (repeat (rename (∀ (A : Fr) (H : Hp), AWP _ _ _ _ A H → _) => hK; clear hK)); (repeat (rename (Fr → Hp → Prop) => K; clear K))) | (show Exists _; (repeat (rename (∀ (A : Fr) (H : Hp), AWP _ _ _ _ A H → _) => hK; clear hK)); (repeat (rename (Fr → Hp → Prop) => K; clear K))) | skip)
    all_goals first | exact end_retV rfl rfl
  · rw [decide_eq_false (show ¬ (p.length = q.length ∧ isPerm p ∧ isPerm q) from h)] at ha
    rw [decide_eq_false (fun x : sctP p q => h x.1)]
    have ha := Hold.mk ha
    clear h
    refine ac_of_awp (N := ⟨_, fun _ => false, fun _ _ => rfl, true⟩) Try.func6 rfl (by kernel_rfl) Try.ntmps6 (by simp) ?_
    simp only [argsFr, List.zipIdx_cons, List.zipIdx_nil, go_sem]
    repeat' (first | refine awp_seqK fun K hK => ?_ | (refine awp_regionK 19 rfl ?_; simp only [List.map_cons, List.map_nil]; simp (maxSteps := 1000000) (dsimp := false) (implicitDefEqProofs := false) (disch := omega) only [wrap64, go_sem]) | (refine awp_regionQK 19 (by kernel_rfl) (by kernel_rfl) (by kernel_rfl) ?_; simp only [List.map_cons, List.map_nil]; simp (maxSteps := 1000000) (dsimp := false) (implicitDefEqProofs := false) (disch := omega) only [wrap64, go_sem]) | refine awp_block ?_ | (refine awp_skip ?_; simp only [go_sem]) | (refine awp_exit ?_; simp only [go_sem]) | (refine awp_ret ?_; try simp only [go_sem]) | (refine awp_condP rfl ?_; try simp only [go_sem]) | (refine BrP.mk (fun h => ?_) (fun h => ?_) <;> try simp (dsimp := false) (disch := omega) only [wrap64]) | (refine Br.mk (fun h => ?_) (fun h => ?_) <;> try simp (dsimp := false) (disch := omega) only [wrap64]) | refine Ob.mk (by first | omega | (intro _ _; rfl) | trivial | (intros; trivial) | assumption | (intro i hi; have h0 : i = 0 := (by omega); subst h0; first | rfl | trivial) | (intro i hi; have h0 : i = 0 ∨ i = 1 := (by omega); rcases h0 with rfl | rfl <;> rfl) | (intro i hi; have h0 : i = 0 ∨ i = 1 ∨ i = 2 := (by omega); rcases h0 with rfl | rfl | rfl <;> rfl)) ?_ | ((first | ((first | refine atF (f := 19) ?_ | refine atQ (f := 19) ?_); (first | refine cV (hfit := .cons (.refl _) (.cons (.refl _) .nil)) (hac := ha.h) (hK := ?_) | refine cQV (hfit := .cons (.refl _) (.cons (.refl _) .nil)) (hac := ha.h) (hK := ?_)))); simp (maxSteps := 1000000) (dsimp := false) (implicitDefEqProofs := false) (disch := omega) only [wrap64, go_sem]) | apply_assumption -exfalso -symm)
    all_goals (first | (show endQ _ _ _ _ _ _ _; (repeat (rename (∀ (A : Fr) (H : Hp), AWP _ _ _ _ A H → _) => hK; clear hK)); (repeat (rename (Fr → Hp → Prop) => K; clear K))) | (show Exists _; (repeat (rename (∀ (A : Fr) (H : Hp), AWP _ _ _ _ A H → _) => hK; clear hK)); (repeat (rename (Fr → Hp → Prop) => K; clear K))) | skip)
    all_goals first | exact end_retV rfl rfl
theorem specSameCycleType_ok (p q : List Int) : AC Try.prog 9 [ints p, ints q] Hp.emp (fun _ => false) (retV (.v (.bool (decide (sctP p q))))) := by
  have c1 := fun d => specCycleType_ok p d
  have c2 := fun d => specCycleType_ok q d
  have l1 := ctS_len p
  have l2 := ctS_len q
  have c3 := equalInts_ok (ctS p) (ctS q) (by omega)
  have ha := specIsPermutation_ok p
  have hb := specIsPermutation_ok q
  have c1 := Hold.mk c1
  have c2 := Hold.mk c2
  have c3 := Hold.mk c3
  have key : isPerm p → isPerm q → (sctP p q ↔ ctS p = ctS q) := fun h1 h2 => by
    unfold ctS
    rw [if_pos h1, if_pos h2]
    refine ⟨fun x => x.2, fun x => ⟨⟨?_, h1, h2⟩, x⟩⟩
    exact Go.Pm.ct_deg ((isPerm_pm p).1 h1).2 ((isPerm_pm q).1 h2).2 x
  have key := Hold.mk key
  refine ac_of_awp (N := ⟨_, fun _ => false, fun _ _ => rfl, true⟩) Try.func9 rfl (by kernel_rfl) Try.ntmps9 (by simp) ?_
  simp only [argsFr, List.zipIdx_cons, List.zipIdx_nil, go_sem]
  repeat' (first | refine awp_seqK fun K hK => ?_ | (refine awp_regionK 19 rfl ?_; simp only [List.map_cons, List.map_nil]; simp (maxSteps := 1000000) (dsimp := false) (implicitDefEqProofs := false) (disch := omega) only [wrap64, go_sem]) | (refine awp_regionQK 19 (by kernel_rfl) (by kernel_rfl) (by kernel_rfl) ?_; simp only [List.map_cons, List.map_nil]; simp (maxSteps := 1000000) (dsimp := false) (implicitDefEqProofs := false) (disch := omega) only [wrap64, go_sem]) | refine awp_block ?_ | (refine awp_skip ?_; simp only [go_sem]) | (refine awp_exit ?_; simp only [go_sem]) | (refine awp_ret ?_; try simp only [go_sem]) | (refine awp_condP rfl ?_; try simp only [go_sem]) | (refine BrP.mk (fun h => ?_) (fun h => ?_) <;> try simp (dsimp := false) (disch := omega) only [wrap64]) | (refine Br.mk (fun h => ?_) (fun h => ?_) <;> try simp (dsimp := false) (disch := omega) only [wrap64]) | refine Ob.mk (by first | omega | (intro _ _; rfl) | trivial | (intros; trivial) | assumption | (intro i hi; have h0 : i = 0 := (by omega); subst h0; first | rfl | trivial) | (intro i hi; have h0 : i = 0 ∨ i = 1 := (by omega); rcases h0 with rfl | rfl <;> rfl) | (intro i hi; have h0 : i = 0 ∨ i = 1 ∨ i = 2 := (by omega); rcases h0 with rfl | rfl | rfl <;> rfl)) ?_ | ((first | ((first | refine atF (f := 10) ?_ | refine atQ (f := 10) ?_); (first | (refine cV (hac := specIsPermutation_ok p) (hK := ?_)) | (refine cQV (hac := specIsPermutation_ok p) (hK := ?_)))) | ((first | refine atF (f := 10) ?_ | refine atQ (f := 10) ?_); (first | (refine cV (hac := specIsPermutation_ok q) (hK := ?_)) | (refine cQV (hac := specIsPermutation_ok q) (hK := ?_)))) | ((first | refine atF (f := 28) ?_ | refine atQ (f := 28) ?_); (first | refine cFI (hac := c1.h 40) (hK := ?_) | refine cFI (hac := c2.h 41) (hK := ?_) | refine cQI (hac := c1.h 40) (hK := ?_) | refine cQI (hac := c2.h 41) (hK := ?_))) | ((first | refine atF (f := 27) ?_ | refine atQ (f := 27) ?_); (first | refine cV (hfit := .cons (.refl _) (.cons (.refl _) .nil)) (hac := c3.h) (hK := ?_) | refine cQV (hfit := .cons (.refl _) (.cons (.refl _) .nil)) (hac := c3.h) (hK := ?_)))); simp (maxSteps := 1000000) (dsimp := false) (implicitDefEqProofs := false) (disch := omega) only [wrap64, go_sem]) | apply_assumption -exfalso -symm)
  all_goals (first | (show endQ _ _ _ _ _ _ _; (repeat (rename (∀ (A : Fr) (H : Hp), AWP _ _ _ _ A H → _) => hK; clear hK)); (repeat (rename (Fr → Hp → Prop) => K; clear K))) | (show Exists _; (repeat (rename (∀ (A : Fr) (H : Hp), AWP _ _ _ _ A H → _) => hK; clear hK)); (repeat (rename (Fr → Hp → Prop) => K; clear K))) | skip)
  all_goals first
    | exact end_retV' rfl rfl (by rw [decide_eq_decide.2 (key.h (by assumption) (by assumption))])
    | exact end_retV' rfl rfl (by rw [decide_eq_false (fun x : sctP p q => absurd x.1.2.1 (by assumption))])
    | exact end_retV' rfl rfl (by rw [decide_eq_false (fun x : sctP p q => absurd x.1.2.2 (by assumption))])
   
theorem implConjI_ok (n : Nat) (p x : List Int) (hp : Pm n p) (hx : Pm n x) (hn : n ≤ 20) (d : Nat) : AC Try.prog 24 [ints p, ints x] Hp.emp (fun _ => false) (retI d (cnj p x)) := by
  have hpl := hp.1
  have hxl := hx.1
  have c1 := fun d => implInverse_ok x (by omega) (by rw [hxl]; exact hx) d
  have c2 := fun d => implCompose_ok (invp x) p (by rw [hx.inv.1]; omega) (pm_lt hx.inv hp) d
  have c3 := fun d => implCompose_ok (comp (invp x) p) x (by rw [(hx.inv.comp hp).1]; omega) (pm_lt (hx.inv.comp hp) hx) d
  have c1 := Hold.mk c1
  have c2 := Hold.mk c2
  have c3 := Hold.mk c3
  clear hp hx
  refine ac_of_awp (N := ⟨_, fun _ => false, fun _ _ => rfl, true⟩) Try.func24 rfl (by kernel_rfl) Try.ntmps24 (by simp) ?_
  simp only [argsFr, List.zipIdx_cons, List.zipIdx_nil, go_sem]
  repeat' (first | refine awp_seqK fun K hK => ?_ | (refine awp_regionK 19 rfl ?_; simp only [List.map_cons, List.map_nil]; simp (maxSteps := 1000000) (dsimp := false) (implicitDefEqProofs := false) (disch := omega) only [wrap64, go_sem]) | (refine awp_regionQK 19 (by kernel_rfl) (by kernel_rfl) (by kernel_rfl) ?_; simp only [List.map_cons, List.map_nil]; simp (maxSteps := 1000000) (dsimp := false) (implicitDefEqProofs := false) (disch := omega) only [wrap64, go_sem]) | refine awp_block ?_ | (refine awp_skip ?_; simp only [go_sem]) | (refine awp_exit ?_; simp only [go_sem]) | (refine awp_ret ?_; try simp only [go_sem]) | (refine awp_condP rfl ?_; try simp only [go_sem]) | (refine BrP.mk (fun h => ?_) (fun h => ?_) <;> try simp (dsimp := false) (disch := omega) only [wrap64]) | (refine Br.mk (fun h => ?_) (fun h => ?_) <;> try simp (dsimp := false) (disch := omega) only [wrap64]) | refine Ob.mk (by first | omega | (intro _ _; rfl) | trivial | (intros; trivial) | assumption | (intro i hi; have h0 : i = 0 := (by omega); subst h0; first | rfl | trivial) | (intro i hi; have h0 : i = 0 ∨ i = 1 := (by omega); rcases h0 with rfl | rfl <;> rfl) | (intro i hi; have h0 : i = 0 ∨ i = 1 ∨ i = 2 := (by omega); rcases h0 with rfl | rfl | rfl <;> rfl)) ?_ | ((first | ((first | refine atF (f := 42) ?_ | refine atQ (f := 42) ?_); (refine cFI (hac := c1.h 40) (hK := ?_))) | ((first | refine atF (f := 41) ?_ | refine atQ (f := 41) ?_); (first | refine cFI (hac := c2.h 41) (hK := ?_) | refine cI (hac := c3.h 42) (hK := ?_)))); simp (maxSteps := 1000000) (dsimp := false) (implicitDefEqProofs := false) (disch := omega) only [wrap64, go_sem]) | apply_assumption -exfalso -symm)
  all_goals (first | (show endQ _ _ _ _ _ _ _; (repeat (rename (∀ (A : Fr) (H : Hp), AWP _ _ _ _ A H → _) => hK; clear hK)); (repeat (rename (Fr → Hp → Prop) => K; clear K))) | (show Exists _; (repeat (rename (∀ (A : Fr) (H : Hp), AWP _ _ _ _ A H → _) => hK; clear hK)); (repeat (rename (Fr → Hp → Prop) => K; clear K))) | skip)
  (first | refine end_retI' rfl rfl rfl ?_ rfl rfl | refine end_retI_nil' rfl rfl ?_ rfl)
  rfl
def cnjU (p q : List Int) : List Int × Bool := if sameP p q then (cnj p q, true) else ([], false)
theorem implConjugate_ok (p q : List Int) (d : Nat) : AC Try.prog 11 [ints p, ints q] Hp.emp (fun _ => false) (retIB d (cnjU p q).1 (cnjU p q).2) := by
  have ha := arePermsC_ok p q
  by_cases h : sameP p q
  · rw [decide_eq_true (show p.length = q.length ∧ isPerm p ∧ isPerm q from h)] at ha
    obtain ⟨h1, h2⟩ := (isPerm_pm p).1 h.2.1
    obtain ⟨h3, h4⟩ := (isPerm_pm q).1 h.2.2
    rw [← h.1] at h4
    have c1 := fun d => implConjI_ok p.length p q h2 h4 (by omega) d
    have hU := Hold.mk (show cnjU p q = (cnj p q, true) from if_pos h)
    have ha := Hold.mk ha
    have c1 := Hold.mk c1
    clear h h1 h2 h3 h4
    refine ac_of_awp (N := ⟨_, fun _ => false, fun _ _ => rfl, true⟩) Try.func11 rfl (by kernel_rfl) Try.ntmps11 (by simp) ?_
    simp only [argsFr, List.zipIdx_cons, List.zipIdx_nil, go_sem]
    repeat' (first | refine awp_seqK fun K hK => ?_ | (refine awp_regionK 563 rfl ?_; simp only [List.map_cons, List.map_nil]; simp (maxSteps := 1000000) (dsimp := false) (implicitDefEqProofs := false) (disch := omega) only [wrap64, go_sem]) | (refine awp_regionQK 563 (by kernel_rfl) (by kernel_rfl) (by kernel_rfl) ?_; simp only [List.map_cons, List.map_nil]; simp (maxSteps := 1000000) (dsimp := false) (implicitDefEqProofs := false) (disch := omega) only [wrap64, go_sem]) | refine awp_block ?_ | (refine awp_skip ?_; simp only [go_sem]) | (refine awp_exit ?_; simp only [go_sem]) | (refine awp_ret ?_; try simp only [go_sem]) | (refine awp_condP rfl ?_; try simp only [go_sem]) | (refine BrP.mk (fun h => ?_) (fun h => ?_) <;> try simp (dsimp := false) (disch := omega) only [wrap64]) | (refine Br.mk (fun h => ?_) (fun h => ?_) <;> try simp (dsimp := false) (disch := omega) only [wrap64]) | refine Ob.mk (by first | omega | (intro _ _; rfl) | trivial | (intros; trivial) | assumption | (intro i hi; have h0 : i = 0 := (by omega); subst h0; first | rfl | trivial) | (intro i hi; have h0 : i = 0 ∨ i = 1 := (by omega); rcases h0 with rfl | rfl <;> rfl) | (intro i hi; have h0 : i = 0 ∨ i = 1 ∨ i = 2 := (by omega); rcases h0 with rfl | rfl | rfl <;> rfl)) ?_ | ((first | ((first | refine atF (f := 19) ?_ | refine atQ (f := 19) ?_); (first | refine cV (hfit := .cons (.refl _) (.cons (.refl _) .nil)) (hac := ha.h) (hK := ?_) | refine cQV (hfit := .cons (.refl _) (.cons (.refl _) .nil)) (hac := ha.h) (hK := ?_))) | ((first | refine atF (f := 24) ?_ | refine atQ (f := 24) ?_); (refine cI (hac := c1.h 40) (hK := ?_)))); simp (maxSteps := 1000000) (dsimp := false) (implicitDefEqProofs := false) (disch := omega) only [wrap64, go_sem]) | apply_assumption -exfalso -symm)
    all_goals (first | (show endQ _ _ _ _ _ _ _; (repeat (rename (∀ (A : Fr) (H : Hp), AWP _ _ _ _ A H → _) => hK; clear hK)); (repeat (rename (Fr → Hp → Prop) => K; clear K))) | (show Exists _; (repeat (rename (∀ (A : Fr) (H : Hp), AWP _ _ _ _ A H → _) => hK; clear hK)); (repeat (rename (Fr → Hp → Prop) => K; clear K))) | skip)
    all_goals
      (first | refine end_retIB' rfl rfl rfl rfl ?_ (by decide) rfl rfl | refine end_retIB_nil' rfl rfl rfl ?_ (by decide) rfl)
      exact hU.h
  · rw [decide_eq_false (show ¬ (p.length = q.length ∧ isPerm p ∧ isPerm q) from h)] at ha
    have hU := Hold.mk (show cnjU p q = ([], false) from if_neg h)
    have ha := Hold.mk ha
    clear h
    refine ac_of_awp (N := ⟨_, fun _ => false, fun _ _ => rfl, true⟩) Try.func11 rfl (by kernel_rfl) Try.ntmps11 (by simp) ?_
    simp only [argsFr, List.zipIdx_cons, List.zipIdx_nil, go_sem]
    repeat' (first | refine awp_seqK fun K hK => ?_ | (refine awp_regionK 563 rfl ?_; simp only [List.map_cons, List.map_nil]; simp (maxSteps := 1000000) (dsimp := false) (implicitDefEqProofs := false) (disch := omega) only [wrap64, go_sem]) | (refine awp_regionQK 563 (by kernel_rfl) (by kernel_rfl) (by kernel_rfl) ?_; simp only [List.map_cons, List.map_nil]; simp (maxSteps := 1000000) (dsimp := false) (implicitDefEqProofs := false) (disch := omega) only [wrap64, go_sem]) | refine awp_block ?_ | (refine awp_skip ?_; simp only [go_sem]) | (refine awp_exit ?_; simp only [go_sem]) | (refine awp_ret ?_; try simp only [go_sem]) | (refine awp_condP rfl ?_; try simp only [go_sem]) | (refine BrP.mk (fun h => ?_) (fun h => ?_) <;> try simp (dsimp := false) (disch := omega) only [wrap64]) | (refine Br.mk (fun h => ?_) (fun h => ?_) <;> try simp (dsimp := false) (disch := omega) only [wrap64]) | refine Ob.mk (by first | omega | (intro _ _; rfl) | trivial | (intros; trivial) | assumption | (intro i hi; have h0 : i = 0 := (by omega); subst h0; first | rfl | trivial) | (intro i hi; have h0 : i = 0 ∨ i = 1 := (by omega); rcases h0 with rfl | rfl <;> rfl) | (intro i hi; have h0 : i = 0 ∨ i = 1 ∨ i = 2 := (by omega); rcases h0 with rfl | rfl | rfl <;> rfl)) ?_ | ((first | ((first | refine atF (f := 19) ?_ | refine atQ (f := 19) ?_); (first | refine cV (hfit := .cons (.refl _) (.cons (.refl _) .nil)) (hac := ha.h) (hK := ?_) | refine cQV (hfit := .cons (.refl _) (.cons (.refl _) .nil)) (hac := ha.h) (hK := ?_)))); simp (maxSteps := 1000000) (dsimp := false) (implicitDefEqProofs := false) (disch := omega) only [wrap64, go_sem]) | apply_assumption -exfalso -symm)
    all_goals (first | (show endQ _ _ _ _ _ _ _; (repeat (rename (∀ (A : Fr) (H : Hp), AWP _ _ _ _ A H → _) => hK; clear hK)); (repeat (rename (Fr → Hp → Prop) => K; clear K))) | (show Exists _; (repeat (rename (∀ (A : Fr) (H : Hp), AWP _ _ _ _ A H → _) => hK; clear hK)); (repeat (rename (Fr → Hp → Prop) => K; clear K))) | skip)
    all_goals
      (first | refine end_retIB' rfl rfl rfl rfl ?_ (by decide) rfl rfl | refine end_retIB_nil' rfl rfl rfl ?_ (by decide) rfl)
      exact hU.h
theorem sameDegC_ok (a b : List Int) : AC Try.prog 35 [ints a, ints b] Hp.emp (fun _ => false) (retV (.v (.bool (decide (sameP a b))))) := by
  refine ac_of_awp (N := ⟨_, fun _ => false, fun _ _ => rfl, true⟩) Try.func35 rfl (by kernel_rfl) Try.ntmps35 (by simp) ?_
  simp only [argsFr, List.zipIdx_cons, List.zipIdx_nil, go_sem]
  repeat' (first | refine awp_seqK fun K hK => ?_ | (refine awp_regionK 19 rfl ?_; simp only [List.map_cons, List.map_nil]; simp (maxSteps := 1000000) (dsimp := false) (implicitDefEqProofs := false) (disch := omega) only [wrap64, go_sem]) | (refine awp_regionQK 19 (by kernel_rfl) (by kernel_rfl) (by kernel_rfl) ?_; simp only [List.map_cons, List.map_nil]; simp (maxSteps := 1000000) (dsimp := false) (implicitDefEqProofs := false) (disch := omega) only [wrap64, go_sem]) | refine awp_block ?_ | (refine awp_skip ?_; simp only [go_sem]) | (refine awp_exit ?_; simp only [go_sem]) | (refine awp_ret ?_; try simp only [go_sem]) | (refine awp_condP rfl ?_; try simp only [go_sem]) | (refine BrP.mk (fun h => ?_) (fun h => ?_) <;> try simp (dsimp := false) (disch := omega) only [wrap64]) | (refine Br.mk (fun h => ?_) (fun h => ?_) <;> try simp (dsimp := false) (disch := omega) only [wrap64]) | refine Ob.mk (by first | omega | (intro _ _; rfl) | trivial | (intros; trivial) | assumption | (intro i hi; have h0 : i = 0 := (by omega); subst h0; first | rfl | trivial) | (intro i hi; have h0 : i = 0 ∨ i = 1 := (by omega); rcases h0 with rfl | rfl <;> rfl) | (intro i hi; have h0 : i = 0 ∨ i = 1 ∨ i = 2 := (by omega); rcases h0 with rfl | rfl | rfl <;> rfl)) ?_ | ((first | ((first | refine atF (f := 10) ?_ | refine atQ (f := 10) ?_); (first | (refine cV (hac := specIsPermutation_ok a) (hK := ?_)) | (refine cQV (hac := specIsPermutation_ok a) (hK := ?_)))) | ((first | refine atF (f := 10) ?_ | refine atQ (f := 10) ?_); (first | (refine cV (hac := specIsPermutation_ok b) (hK := ?_)) | (refine cQV (hac := specIsPermutation_ok b) (hK := ?_))))); simp (maxSteps := 1000000) (dsimp := false) (implicitDefEqProofs := false) (disch := omega) only [wrap64, go_sem]) | apply_assumption -exfalso -symm)
  all_goals (first | (show endQ _ _ _ _ _ _ _; (repeat (rename (∀ (A : Fr) (H : Hp), AWP _ _ _ _ A H → _) => hK; clear hK)); (repeat (rename (Fr → Hp → Prop) => K; clear K))) | (show Exists _; (repeat (rename (∀ (A : Fr) (H : Hp), AWP _ _ _ _ A H → _) => hK; clear hK)); (repeat (rename (Fr → Hp → Prop) => K; clear K))) | skip)
  all_goals
    refine end_retB rfl rfl ?_
    unfold sameP
    first
    | (rw [decide_eq_true_eq]; exact ⟨fun h => ⟨by omega, by assumption, by assumption⟩, fun h => by omega⟩)
    | (simp only [Bool.false_eq_true, false_iff]; rintro ⟨h1, h2, h3⟩; first | omega | contradiction)
   
theorem specConjugate_ok (p q : List Int) (d : Nat) : AC Try.prog 17 [ints p, ints q] Hp.emp (fun _ => false) (retIB d (cnjU p q).1 (cnjU p q).2) := by
  have ha := sameDegC_ok p q
  by_cases h : sameP p q
  · rw [decide_eq_true h] at ha
    obtain ⟨h1, hp⟩ := (isPerm_pm p).1 h.2.1
    obtain ⟨h3, hx⟩ := (isPerm_pm q).1 h.2.2
    rw [← h.1] at hx
    have hql := h.1
    have hU := Hold.mk (show cnjU p q = (cnj p q, true) from if_pos h)
    have c1 := fun d => specInverse_ok q (by omega) (by rw [← hql]; exact hx) d
    have c2 := fun d => specCompose_ok (invp q) p (by rw [hx.inv.1]; omega) (pm_lt hx.inv hp) d
    have c3 := fun d => specCompose_ok (comp (invp q) p) q (by rw [(hx.inv.comp hp).1]; omega) (pm_lt (hx.inv.comp hp) hx) d
    have ha := Hold.mk ha
    have c1 := Hold.mk c1
    have c2 := Hold.mk c2
    have c3 := Hold.mk c3
    clear h h3 hp hx
    refine ac_of_awp (N := ⟨_, fun _ => false, fun _ _ => rfl, true⟩) Try.func17 rfl (by kernel_rfl) Try.ntmps17 (by simp) ?_
    simp only [argsFr, List.zipIdx_cons, List.zipIdx_nil, go_sem]
    repeat' (first | refine awp_seqK fun K hK => ?_ | (refine awp_regionK 563 rfl ?_; simp only [List.map_cons, List.map_nil]; simp (maxSteps := 1000000) (dsimp := false) (implicitDefEqProofs := false) (disch := omega) only [wrap64, go_sem]) | (refine awp_regionQK 563 (by kernel_rfl) (by kernel_rfl) (by kernel_rfl) ?_; simp only [List.map_cons, List.map_nil]; simp (maxSteps := 1000000) (dsimp := false) (implicitDefEqProofs := false) (disch := omega) only [wrap64, go_sem]) | refine awp_block ?_ | (refine awp_skip ?_; simp only [go_sem]) | (refine awp_exit ?_; simp only [go_sem]) | (refine awp_ret ?_; try simp only [go_sem]) | (refine awp_condP rfl ?_; try simp only [go_sem]) | (refine BrP.mk (fun h => ?_) (fun h => ?_) <;> try simp (dsimp := false) (disch := omega) only [wrap64]) | (refine Br.mk (fun h => ?_) (fun h => ?_) <;> try simp (dsimp := false) (disch := omega) only [wrap64]) | refine Ob.mk (by first | omega | (intro _ _; rfl) | trivial | (intros; trivial) | assumption | (intro i hi; have h0 : i = 0 := (by omega); subst h0; first | rfl | trivial) | (intro i hi; have h0 : i = 0 ∨ i = 1 := (by omega); rcases h0 with rfl | rfl <;> rfl) | (intro i hi; have h0 : i = 0 ∨ i = 1 ∨ i = 2 := (by omega); rcases h0 with rfl | rfl | rfl <;> rfl)) ?_ | ((first | ((first | refine atF (f := 35) ?_ | refine atQ (f := 35) ?_); (first | refine cV (hfit := .cons (.refl _) (.cons (.refl _) .nil)) (hac := ha.h) (hK := ?_) | refine cQV (hfit := .cons (.refl _) (.cons (.refl _) .nil)) (hac := ha.h) (hK := ?_))) | ((first | refine atF (f := 37) ?_ | refine atQ (f := 37) ?_); (refine cFI (hac := c1.h 40) (hK := ?_))) | ((first | refine atF (f := 36) ?_ | refine atQ (f := 36) ?_); (first | refine cFI (hac := c2.h 41) (hK := ?_) | refine cI (hac := c3.h 42) (hK := ?_)))); simp (maxSteps := 1000000) (dsimp := false) (implicitDefEqProofs := false) (disch := omega) only [wrap64, go_sem]) | apply_assumption -exfalso -symm)
    all_goals (first | (show endQ _ _ _ _ _ _ _; (repeat (rename (∀ (A : Fr) (H : Hp), AWP _ _ _ _ A H → _) => hK; clear hK)); (repeat (rename (Fr → Hp → Prop) => K; clear K))) | (show Exists _; (repeat (rename (∀ (A : Fr) (H : Hp), AWP _ _ _ _ A H → _) => hK; clear hK)); (repeat (rename (Fr → Hp → Prop) => K; clear K))) | skip)
    all_goals
      (first | refine end_retIB' rfl rfl rfl rfl ?_ (by decide) rfl rfl | refine end_retIB_nil' rfl rfl rfl ?_ (by decide) rfl)
      exact hU.h
  · rw [decide_eq_false h] at ha
    have hU := Hold.mk (show cnjU p q = ([], false) from if_neg h)
    have ha := Hold.mk ha
    clear h
    refine ac_of_awp (N := ⟨_, fun _ => false, fun _ _ => rfl, true⟩) Try.func17 rfl (by kernel_rfl) Try.ntmps17 (by simp) ?_
    simp only [argsFr, List.zipIdx_cons, List.zipIdx_nil, go_sem]
    repeat' (first | refine awp_seqK fun K hK => ?_ | (refine awp_regionK 563 rfl ?_; simp only [List.map_cons, List.map_nil]; simp (maxSteps := 1000000) (dsimp := false) (implicitDefEqProofs := false) (disch := omega) only [wrap64, go_sem]) | (refine awp_regionQK 563 (by kernel_rfl) (by kernel_rfl) (by kernel_rfl) ?_; simp only [List.map_cons, List.map_nil]; simp (maxSteps := 1000000) (dsimp := false) (implicitDefEqProofs := false) (disch := omega) only [wrap64, go_sem]) | refine awp_block ?_ | (refine awp_skip ?_; simp only [go_sem]) | (refine awp_exit ?_; simp only [go_sem]) | (refine awp_ret ?_; try simp only [go_sem]) | (refine awp_condP rfl ?_; try simp only [go_sem]) | (refine BrP.mk (fun h => ?_) (fun h => ?_) <;> try simp (dsimp := false) (disch := omega) only [wrap64]) | (refine Br.mk (fun h => ?_) (fun h => ?_) <;> try simp (dsimp := false) (disch := omega) only [wrap64]) | refine Ob.mk (by first | omega | (intro _ _; rfl) | trivial | (intros; trivial) | assumption | (intro i hi; have h0 : i = 0 := (by omega); subst h0; first | rfl | trivial) | (intro i hi; have h0 : i = 0 ∨ i = 1 := (by omega); rcases h0 with rfl | rfl <;> rfl) | (intro i hi; have h0 : i = 0 ∨ i = 1 ∨ i = 2 := (by omega); rcases h0 with rfl | rfl | rfl <;> rfl)) ?_ | ((first | ((first | refine atF (f := 35) ?_ | refine atQ (f := 35) ?_); (first | refine cV (hfit := .cons (.refl _) (.cons (.refl _) .nil)) (hac := ha.h) (hK := ?_) | refine cQV (hfit := .cons (.refl _) (.cons (.refl _) .nil)) (hac := ha.h) (hK := ?_)))); simp (maxSteps := 1000000) (dsimp := false) (implicitDefEqProofs := false) (disch := omega) only [wrap64, go_sem]) | apply_assumption -exfalso -symm)
    all_goals (first | (show endQ _ _ _ _ _ _ _; (repeat (rename (∀ (A : Fr) (H : Hp), AWP _ _ _ _ A H → _) => hK; clear hK)); (repeat (rename (Fr → Hp → Prop) => K; clear K))) | (show Exists _; (repeat (rename (∀ (A : Fr) (H : Hp), AWP _ _ _ _ A H → _) => hK; clear hK)); (repeat (rename (Fr → Hp → Prop) => K; clear K))) | skip)
    all_goals
      (first | refine end_retIB' rfl rfl rfl rfl ?_ (by decide) rfl rfl | refine end_retIB_nil' rfl rfl rfl ?_ (by decide) rfl)
      exact hU.h
end Go.Proofs.Ytpffmolibjimgaa
end
/- The next permutation. -/
section
namespace Go.Proofs.Ytpffmolibjimgaa
open Go.Av
set_option linter.unusedSimpArgs false
set_option linter.unusedVariables false
attribute [local irreducible] AWP CallG Ob Br BrP Go.Av.Sub endQ AOps OpV AC thenA blkA opsVC opVC withA withArgs opsQ opQ CallQ withA2 withArgs2
open Go.Pm (Pm Nxt nx exch Dn)
set_option maxHeartbeats 4000000 in
theorem nextPermutation_ok (n i k : Nat) (x : List Int) (hx : Pm n x) (hn : n ≤ 20) (hN : Nxt n x i k) (h : Nat) : AC Try.prog 25 [.own h 0 1 n] (Hp.emp.upd h (.cells n (cM iv 0 x))) (· == h) (postM h (.v (.bool (true))) (.cells n (cM iv 0 (nx x i k)))) := by
  obtain ⟨hik, hlt⟩ := hN.lik hx
  have hxl := hx.1
  have hi1 := hN.lt
  have hkn := hN.kn
  have hel := Go.Pm.exch_len x i k
  have hne := Go.Pm.nx_eq (x := x) hik (by omega)
  have hre := reverse_ok (exch x i k) (i + 1) (by omega) (by omega) 1000000
  rw [hne, hel, hxl] at hre
  have hup := hN.up
  have hge := hN.ge
  have hdn := Hold.mk hN.dn
  have haf := Hold.mk hN.af
  have hre := Hold.mk hre
  have hx := Hold.mk hx
  clear hN hne
  refine AC.any (h0 := 1000000) ?_ _ (fun _ => rfl) (fun _ => rfl) (fun _ => rfl) (fun _ => rfl)
  refine ac_of_awp (N := ⟨_, (· == 1000000), fun h hh => beq_eq_false_iff_ne.2 (Nat.ne_of_lt (Nat.lt_of_lt_of_le hh (by decide))), true⟩) Try.func25 rfl (by kernel_rfl) Try.ntmps25 (by simp) ?_
  simp only [argsFr, List.zipIdx_cons, List.zipIdx_nil, go_sem]
  repeat' (first | refine awp_seqK fun K hK => ?_ | (refine awp_regionK 137474605085 rfl ?_; simp only [List.map_cons, List.map_nil]; simp (maxSteps := 1000000) (dsimp := false) (implicitDefEqProofs := false) (disch := omega) only [wrap64, go_sem]) | (refine awp_regionQK 137474605085 (by kernel_rfl) (by kernel_rfl) (by kernel_rfl) ?_; simp only [List.map_cons, List.map_nil]; simp (maxSteps := 1000000) (dsimp := false) (implicitDefEqProofs := false) (disch := omega) only [wrap64, go_sem]) | refine awp_block ?_ | (refine awp_skip ?_; simp only [go_sem]) | (refine awp_exit ?_; simp only [go_sem]) | (refine awp_ret ?_; try simp only [go_sem]) | (refine awp_condP rfl ?_; try simp only [go_sem]) | (refine BrP.mk (fun h => ?_) (fun h => ?_) <;> try simp (dsimp := false) (disch := omega) only [wrap64]) | (refine Br.mk (fun h => ?_) (fun h => ?_) <;> try simp (dsimp := false) (disch := omega) only [wrap64]) | refine Ob.mk (by first | omega | (intro _ _; rfl) | trivial | (intros; trivial) | assumption | (intro i hi; have h0 : i = 0 := (by omega); subst h0; first | rfl | trivial) | (intro i hi; have h0 : i = 0 ∨ i = 1 := (by omega); rcases h0 with rfl | rfl <;> rfl) | (intro i hi; have h0 : i = 0 ∨ i = 1 ∨ i = 2 := (by omega); rcases h0 with rfl | rfl | rfl <;> rfl)) ?_ | apply_assumption -exfalso -symm)
  all_goals (first | (show endQ _ _ _ _ _ _ _; (repeat (rename (∀ (A : Fr) (H : Hp), AWP _ _ _ _ A H → _) => hK; clear hK)); (repeat (rename (Fr → Hp → Prop) => K; clear K))) | (show Exists _; (repeat (rename (∀ (A : Fr) (H : Hp), AWP _ _ _ _ A H → _) => hK; clear hK)); (repeat (rename (Fr → Hp → Prop) => K; clear K))) | skip)
  refine awp_loop (ι := Nat) (fun j => [(3, .v (.int .i64 (j))), (0, .own 1000000 0 1 n)]) (fun _ => Hp.emp.upd 1000000 (.cells n (cM iv 0 x))) (fun j => i ≤ j ∧ j + 2 ≤ n) (fun j => j) (n - 2) ⟨by omega, by omega⟩ ?_ ?_
  · have e : ((n : Nat) : Int) - 2 = ((n - 2 : Nat) : Int) := by omega
    rw [e]
    exact Sub.toL (by simp only [go_sem] <;> first | trivial | (simp only [Option.some.injEq, AV.v.injEq, AV.own.injEq, AV.list.injEq, Value.int.injEq, Value.bool.injEq, true_and, and_true]; first | omega | (simp; done)) | (simp; done) | (simp; omega)) (by (repeat' (first | exact Hp.le_emp _ | exact Hp.le_refl _ | refine Hp.le_upd ?_ ?_)); all_goals (first | rfl | (simp only [go_sem]; first | rfl | (refine cellsE ?_ ?_ <;> (simp)) | (simp))))
  rintro j ⟨hj1, hj2⟩
  have e1 : ((j : Int)).toNat = j := by omega
  have e2 : ((j : Int) + 1).toNat = j + 1 := by omega
  have hd := Hold.mk (fun h : i < j => hdn.h j (by omega) (by omega))
  repeat' (first | refine awp_seqK fun K hK => ?_ | (refine awp_regionK 137474605085 rfl ?_; simp only [List.map_cons, List.map_nil]; simp (maxSteps := 1000000) (dsimp := false) (implicitDefEqProofs := false) (disch := omega) only [wrap64, go_sem, e1, e2]) | (refine awp_regionQK 137474605085 (by kernel_rfl) (by kernel_rfl) (by kernel_rfl) ?_; simp only [List.map_cons, List.map_nil]; simp (maxSteps := 1000000) (dsimp := false) (implicitDefEqProofs := false) (disch := omega) only [wrap64, go_sem, e1, e2]) | refine awp_block ?_ | (refine awp_skip ?_; simp only [go_sem, e1, e2]) | (refine awp_exit ?_; simp only [go_sem, e1, e2]) | (refine awp_ret ?_; try simp only [go_sem, e1, e2]) | (refine awp_condP rfl ?_; try simp only [go_sem, e1, e2]) | (refine BrP.mk (fun h => ?_) (fun h => ?_) <;> try simp (dsimp := false) (disch := omega) only [wrap64]) | (refine Br.mk (fun h => ?_) (fun h => ?_) <;> try simp (dsimp := false) (disch := omega) only [wrap64]) | refine Ob.mk (by first | omega | (intro _ _; rfl) | trivial | (intros; trivial) | assumption | (intro i hi; have h0 : i = 0 := (by omega); subst h0; first | rfl | trivial) | (intro i hi; have h0 : i = 0 ∨ i = 1 := (by omega); rcases h0 with rfl | rfl <;> rfl) | (intro i hi; have h0 : i = 0 ∨ i = 1 ∨ i = 2 := (by omega); rcases h0 with rfl | rfl | rfl <;> rfl)) ?_ | apply_assumption -exfalso -symm)
  all_goals (first | (show endQ _ _ _ _ _ _ _; (repeat (rename (∀ (A : Fr) (H : Hp), AWP _ _ _ _ A H → _) => hK; clear hK)); (repeat (rename (Fr → Hp → Prop) => K; clear K))) | (show Exists _; (repeat (rename (∀ (A : Fr) (H : Hp), AWP _ _ _ _ A H → _) => hK; clear hK)); (repeat (rename (Fr → Hp → Prop) => K; clear K))) | skip)
  · have hij : i < j := Nat.lt_of_le_of_ne hj1 fun e => by subst e; omega
    have e4 : (j : Int) - 1 = ((j - 1 : Nat) : Int) := by omega
    rw [e4]
    exact ⟨j - 1, ⟨by omega, by omega⟩, by omega, Sub.toL (by simp only [go_sem] <;> first | trivial | (simp only [Option.some.injEq, AV.v.injEq, AV.own.injEq, AV.list.injEq, Value.int.injEq, Value.bool.injEq, true_and, and_true]; first | omega | (simp; done)) | (simp; done) | (simp; omega)) (by (repeat' (first | exact Hp.le_emp _ | exact Hp.le_refl _ | refine Hp.le_upd ?_ ?_)); all_goals (first | rfl | (simp only [go_sem]; first | rfl | (refine cellsE ?_ ?_ <;> (simp)) | (simp))))⟩
  · exfalso; omega
  · have hij : j = i := by
      by_cases c : i < j
      · exact absurd (hd.h c) (by assumption)
      · omega
    subst hij
    clear hd
    refine awp_loop (ι := Nat) (fun m => [(4, .v (.int .i64 (m))), (3, .v (.int .i64 (j))), (0, .own 1000000 0 1 n)]) (fun _ => Hp.emp.upd 1000000 (.cells n (cM iv 0 x))) (fun m => k ≤ m ∧ m < n) (fun m => m) (n - 1) ⟨by omega, by omega⟩ ?_ ?_
    · have e : ((n : Nat) : Int) - 1 = ((n - 1 : Nat) : Int) := by omega
      rw [e]
      exact Sub.toL (by simp only [go_sem] <;> first | trivial | (simp only [Option.some.injEq, AV.v.injEq, AV.own.injEq, AV.list.injEq, Value.int.injEq, Value.bool.injEq, true_and, and_true]; first | omega | (simp; done)) | (simp; done) | (simp; omega)) (by (repeat' (first | exact Hp.le_emp _ | exact Hp.le_refl _ | refine Hp.le_upd ?_ ?_)); all_goals (first | rfl | (simp only [go_sem]; first | rfl | (refine cellsE ?_ ?_ <;> (simp)) | (simp))))
    rintro m ⟨hm1, hm2⟩
    have e5 : ((m : Int)).toNat = m := by omega
    have hf := Hold.mk (fun h : k < m => haf.h m h hm2)
    have e6 : setF (cM iv 0 (x.set j (x.getD m 0))) m (AV.v (.int .i64 (x.getD j 0))) = cM iv 0 (exch x j m) := setF_iv _ _ _ (by rw [List.length_set]; omega)
    repeat' (first | (refine awp_regionSK (id := 9) 137474605085 [0,1,2,3,4,5,6,7,8,9,10,11] [12,13,14,15] [40,41,42,43,44,45,46,47,48,49,50,51,0,3,4] [2,3] [42,43,0,4] 1 ((Hp.emp.upd 1000000 (.cells n (cM iv 0 x)))) (by kernel_rfl) (by kernel_rfl) (by kernel_rfl) ?_; simp only [List.map_cons, List.map_nil, List.take_succ_cons, List.take_zero, List.drop_succ_cons, List.drop_zero, List.cons_append, List.nil_append, opsS, pickL, linkS_nil, linkS_0, linkS_1, linkS_2, gx2VC, gxVC, upd_add, emp_add]; simp (maxSteps := 1000000) (dsimp := false) (implicitDefEqProofs := false) (disch := omega) only [upd_add, emp_add, wrap64, go_sem, e1, e2, e5, e6]) | refine Ob.mk (AllH.mk fun _ => ?_) ?_ | exact True.intro | refine obLe ?_ ?_ | exact Hp.le_emp _ | refine Hp.le_upd rfl ?_ | refine awp_seqK fun K hK => ?_ | (refine awp_regionK 137474605085 rfl ?_; simp only [List.map_cons, List.map_nil]; simp (maxSteps := 1000000) (dsimp := false) (implicitDefEqProofs := false) (disch := omega) only [wrap64, go_sem, e1, e2, e5, e6]) | (refine awp_regionQK 137474605085 (by kernel_rfl) (by kernel_rfl) (by kernel_rfl) ?_; simp only [List.map_cons, List.map_nil]; simp (maxSteps := 1000000) (dsimp := false) (implicitDefEqProofs := false) (disch := omega) only [wrap64, go_sem, e1, e2, e5, e6]) | refine awp_block ?_ | (refine awp_skip ?_; simp only [go_sem, e1, e2, e5, e6]) | (refine awp_exit ?_; simp only [go_sem, e1, e2, e5, e6]) | (refine awp_ret ?_; try simp only [go_sem, e1, e2, e5, e6]) | (refine awp_condP rfl ?_; try simp only [go_sem, e1, e2, e5, e6]) | (refine BrP.mk (fun h => ?_) (fun h => ?_) <;> try simp (dsimp := false) (disch := omega) only [wrap64]) | (refine Br.mk (fun h => ?_) (fun h => ?_) <;> try simp (dsimp := false) (disch := omega) only [wrap64]) | refine Ob.mk (by first | omega | (intro _ _; rfl) | trivial | (intros; trivial) | assumption | (intro i hi; have h0 : i = 0 := (by omega); subst h0; first | rfl | trivial) | (intro i hi; have h0 : i = 0 ∨ i = 1 := (by omega); rcases h0 with rfl | rfl <;> rfl) | (intro i hi; have h0 : i = 0 ∨ i = 1 ∨ i = 2 := (by omega); rcases h0 with rfl | rfl | rfl <;> rfl)) ?_ | ((first | ((first | refine atF (f := 40) ?_ | refine atQ (f := 40) ?_); (have hmk : m = k := (by by_cases c : k < m; exact absurd (hf.h c) (by assumption); omega); subst hmk; refine cM' (hac := hre.h) (ha := vd_scrub) (hK := ?_)))); simp (maxSteps := 1000000) (dsimp := false) (implicitDefEqProofs := false) (disch := omega) only [wrap64, go_sem, e1, e2, e5, e6]) | apply_assumption -exfalso -symm)
    all_goals (first | (show endQ _ _ _ _ _ _ _; (repeat (rename (∀ (A : Fr) (H : Hp), AWP _ _ _ _ A H → _) => hK; clear hK)); (repeat (rename (Fr → Hp → Prop) => K; clear K))) | (show Exists _; (repeat (rename (∀ (A : Fr) (H : Hp), AWP _ _ _ _ A H → _) => hK; clear hK)); (repeat (rename (Fr → Hp → Prop) => K; clear K))) | skip)
    · have hkm : k < m := Nat.lt_of_le_of_ne hm1 fun e => by subst e; omega
      have e4 : (m : Int) - 1 = ((m - 1 : Nat) : Int) := by omega
      rw [e4]
      exact ⟨m - 1, ⟨by omega, by omega⟩, by omega, Sub.toL (by simp only [go_sem] <;> first | trivial | (simp only [Option.some.injEq, AV.v.injEq, AV.own.injEq, AV.list.injEq, Value.int.injEq, Value.bool.injEq, true_and, and_true]; first | omega | (simp; done)) | (simp; done) | (simp; omega)) (by (repeat' (first | exact Hp.le_emp _ | exact Hp.le_refl _ | refine Hp.le_upd ?_ ?_)); all_goals (first | rfl | (simp only [go_sem]; first | rfl | (refine cellsE ?_ ?_ <;> (simp)) | (simp))))⟩
    exact end_M rfl rfl (by simp [Hp.upd]) rfl
  · omega
end Go.Proofs.Ytpffmolibjimgaa
end
/- The conjugator found, by both texts. -/
section
namespace Go.Proofs.Ytpffmolibjimgaa
open Go.Av
set_option linter.unusedSimpArgs false
set_option linter.unusedVariables false
attribute [local irreducible] AWP CallG Ob Br BrP Go.Av.Sub endQ AOps OpV AC thenA blkA opsVC opVC withA withArgs opsQ opQ CallQ withA2 withArgs2
open Go.Pm (Pm comp invp idn img cnj ctP Lx val Nxt nx Dn)
/-- What FindConjugator answers. -/
def fcQ (p q : List Int) (r : AV) : Prop := if sctP p q ∧ p.length ≤ 7 then ∃ x, Pm p.length x ∧ cnj p x = q ∧ r = .tup 2 (vecF [ints x, .v (.bool (true))]) else r = .tup 2 (vecF [ints [], .v (.bool (false))])
set_option maxHeartbeats 4000000 in
theorem implFindConjugator_ok (p q : List Int) : AC Try.prog 7 [ints p, ints q] Hp.emp (fun _ => false) (postX (fcQ p q)) := by
  have hsm := implSameCycleType_ok p q
  by_cases h : sctP p q
  · rw [decide_eq_true h] at hsm
    obtain ⟨⟨hpq, hip, hiq⟩, hct⟩ := h
    obtain ⟨h1, hp⟩ := (isPerm_pm p).1 hip
    obtain ⟨_, hq⟩ := (isPerm_pm q).1 hiq
    rw [← hpq] at hq
    obtain ⟨w, hw, hwq⟩ := Go.Pm.ct_ex hp hq hct
    have hQ : ∀ x, Pm p.length x → cnj p x = q → p.length ≤ 7 → fcQ p q (.tup 2 (vecF [ints x, .v (.bool (true))])) := fun x a b c => by
      unfold fcQ
      rw [if_pos ⟨⟨⟨hpq, hip, hiq⟩, hct⟩, c⟩]
      exact ⟨x, a, b, rfl⟩
    have hQ0 : ¬ p.length ≤ 7 → fcQ p q (.tup 2 (vecF [ints [], .v (.bool (false))])) := fun c => by
      unfold fcQ
      rw [if_neg fun x => c x.2]
    have hql : q.length ≤ 1048576 := by omega
    have hcj := fun x (hx : Pm p.length x) d => implConjI_ok p.length p x hp hx (by omega) d
    have hnx := fun i k x (hx : Pm p.length x) (hN : Nxt p.length x i k) => nextPermutation_ok p.length i k x hx (by omega) hN 30
    have heq := fun x (hx : Pm p.length x) => slicesEqual_ok (cnj p x) q (by rw [(Go.Pm.cnj_pm hp hx).1]; omega)
    have hil := Go.Pm.idn_length p.length
    have hid := implIdentity_ok p.length (by omega) 30
    have hsm := Hold.mk hsm
    have hcj := Hold.mk hcj
    have hnx := Hold.mk hnx
    have heq := Hold.mk heq
    have hid := Hold.mk hid
    have hw := Hold.mk hw
    have hwq := Hold.mk hwq
    have hQ := Hold.mk hQ
    have hQ0 := Hold.mk hQ0
    clear hp hq hct hip hiq
    refine ac_of_awp (N := ⟨_, fun _ => false, fun _ _ => rfl, true⟩) Try.func7 rfl (by kernel_rfl) Try.ntmps7 (by simp) ?_
    simp only [argsFr, List.zipIdx_cons, List.zipIdx_nil, go_sem]
    repeat' (first | refine awp_seqK fun K hK => ?_ | (refine awp_regionK 16810099 rfl ?_; simp only [List.map_cons, List.map_nil]; simp (maxSteps := 1000000) (dsimp := false) (implicitDefEqProofs := false) (disch := omega) only [wrap64, go_sem, hil]) | (refine awp_regionQK 16810099 (by kernel_rfl) (by kernel_rfl) (by kernel_rfl) ?_; simp only [List.map_cons, List.map_nil]; simp (maxSteps := 1000000) (dsimp := false) (implicitDefEqProofs := false) (disch := omega) only [wrap64, go_sem, hil]) | refine awp_block ?_ | (refine awp_skip ?_; simp only [go_sem, hil]) | (refine awp_exit ?_; simp only [go_sem, hil]) | (refine awp_ret ?_; try simp only [go_sem, hil]) | (refine awp_condP rfl ?_; try simp only [go_sem, hil]) | (refine BrP.mk (fun h => ?_) (fun h => ?_) <;> try simp (dsimp := false) (disch := omega) only [wrap64]) | (refine Br.mk (fun h => ?_) (fun h => ?_) <;> try simp (dsimp := false) (disch := omega) only [wrap64]) | refine Ob.mk (by first | omega | (intro _ _; rfl) | trivial | (intros; trivial) | assumption | (intro i hi; have h0 : i = 0 := (by omega); subst h0; first | rfl | trivial) | (intro i hi; have h0 : i = 0 ∨ i = 1 := (by omega); rcases h0 with rfl | rfl <;> rfl) | (intro i hi; have h0 : i = 0 ∨ i = 1 ∨ i = 2 := (by omega); rcases h0 with rfl | rfl | rfl <;> rfl)) ?_ | ((first | ((first | refine atF (f := 6) ?_ | refine atQ (f := 6) ?_); (first | refine cV (hfit := .cons (.refl _) (.cons (.refl _) .nil)) (hac := hsm.h) (hK := ?_) | refine cQV (hfit := .cons (.refl _) (.cons (.refl _) .nil)) (hac := hsm.h) (hK := ?_))) | ((first | refine atF (f := 23) ?_ | refine atQ (f := 23) ?_); (first | (refine cV (hac := length_ok p) (hK := ?_)) | (refine cQV (hac := length_ok p) (hK := ?_)))) | ((first | refine atF (f := 22) ?_ | refine atQ (f := 22) ?_); (refine cI (hac := hid.h) (hK := ?_)))); simp (maxSteps := 1000000) (dsimp := false) (implicitDefEqProofs := false) (disch := omega) only [wrap64, go_sem, hil]) | apply_assumption -exfalso -symm)
    all_goals (first | (show endQ _ _ _ _ _ _ _; (repeat (rename (∀ (A : Fr) (H : Hp), AWP _ _ _ _ A H → _) => hK; clear hK)); (repeat (rename (Fr → Hp → Prop) => K; clear K))) | (show Exists _; (repeat (rename (∀ (A : Fr) (H : Hp), AWP _ _ _ _ A H → _) => hK; clear hK)); (repeat (rename (Fr → Hp → Prop) => K; clear K))) | skip)
    · exact end_X2 rfl (by decide) rfl rfl .nil (.refl _) (hQ0.h (by omega))
    · refine awp_loop (ι := List Int) (fun x => [(6, .own 30 0 1 p.length), (0, ints p), (1, ints q)]) (fun x => Hp.emp.upd 30 (.cells p.length (cM iv 0 x))) (fun x => Pm p.length x ∧ (x = w ∨ Lx p.length x w)) (fun x => val w - val x) (idn p.length) ⟨Go.Pm.Pm.idn _, Go.Pm.idn_first hw.h⟩ (Sub.toL (by simp only [go_sem] <;> first | trivial | (simp only [Option.some.injEq, AV.v.injEq, AV.own.injEq, AV.list.injEq, Value.int.injEq, Value.bool.injEq, true_and, and_true]; first | omega | (simp; done)) | (simp; done) | (simp; omega)) (by (repeat' (first | exact Hp.le_emp _ | exact Hp.le_refl _ | refine Hp.le_upd ?_ ?_)); all_goals (first | rfl | (simp only [go_sem]; first | rfl | (refine cellsE ?_ ?_ <;> (simp)) | (simp))))) ?_
      rintro x ⟨hx, hxw⟩
      have hxl := hx.1
      have c1 := Hold.mk (hcj.h x hx)
      have c2 := Hold.mk (heq.h x hx)
      have hx := Hold.mk hx
      have hxw := Hold.mk hxw
      repeat' (first | refine awp_seqK fun K hK => ?_ | (refine awp_regionK 16810099 rfl ?_; simp only [List.map_cons, List.map_nil]; simp (maxSteps := 1000000) (dsimp := false) (implicitDefEqProofs := false) (disch := omega) only [wrap64, go_sem]) | (refine awp_regionQK 16810099 (by kernel_rfl) (by kernel_rfl) (by kernel_rfl) ?_; simp only [List.map_cons, List.map_nil]; simp (maxSteps := 1000000) (dsimp := false) (implicitDefEqProofs := false) (disch := omega) only [wrap64, go_sem]) | refine awp_block ?_ | (refine awp_skip ?_; simp only [go_sem]) | (refine awp_exit ?_; simp only [go_sem]) | (refine awp_ret ?_; try simp only [go_sem]) | (refine awp_condP rfl ?_; try simp only [go_sem]) | (refine BrP.mk (fun h => ?_) (fun h => ?_) <;> try simp (dsimp := false) (disch := omega) only [wrap64]) | (refine Br.mk (fun h => ?_) (fun h => ?_) <;> try simp (dsimp := false) (disch := omega) only [wrap64]) | refine Ob.mk (by first | omega | (intro _ _; rfl) | trivial | (intros; trivial) | assumption | (intro i hi; have h0 : i = 0 := (by omega); subst h0; first | rfl | trivial) | (intro i hi; have h0 : i = 0 ∨ i = 1 := (by omega); rcases h0 with rfl | rfl <;> rfl) | (intro i hi; have h0 : i = 0 ∨ i = 1 ∨ i = 2 := (by omega); rcases h0 with rfl | rfl | rfl <;> rfl)) ?_ | ((first | ((first | refine atF (f := 24) ?_ | refine atQ (f := 24) ?_); (refine cFI (hfit := .cons (.refl _) (.cons (fits_I rfl trivial rfl hxl.symm) .nil)) (hac := c1.h 40) (hK := ?_))) | ((first | refine atF (f := 20) ?_ | refine atQ (f := 20) ?_); (refine cV (hfit := .cons (.refl _) (.cons (.refl _) .nil)) (hac := c2.h) (hK := ?_)))); simp (maxSteps := 1000000) (dsimp := false) (implicitDefEqProofs := false) (disch := omega) only [wrap64, go_sem]) | apply_assumption -exfalso -symm)
      all_goals (first | (show endQ _ _ _ _ _ _ _; (repeat (rename (∀ (A : Fr) (H : Hp), AWP _ _ _ _ A H → _) => hK; clear hK)); (repeat (rename (Fr → Hp → Prop) => K; clear K))) | (show Exists _; (repeat (rename (∀ (A : Fr) (H : Hp), AWP _ _ _ _ A H → _) => hK; clear hK)); (repeat (rename (Fr → Hp → Prop) => K; clear K))) | skip)
      · refine end_X2 rfl (by decide) rfl rfl (fits_I rfl trivial rfl hxl.symm) (.refl _) (hQ.h x hx.h (by assumption) (by omega))
      · have hlx : Lx p.length x w := hxw.h.resolve_left fun e => absurd (by rw [e]; exact hwq.h) (by assumption : ¬ cnj p x = q)
        obtain ⟨i, k, hN⟩ := Go.Pm.nxt_ex (n := p.length) (x := x) fun hD => Go.Pm.no_next hx.h hD hw.h hlx
        have c3 := Hold.mk (hnx.h i k x hx.h hN)
        have hy := Go.Pm.nx_pm hx.h hN
        have hyw := Go.Pm.nx_next hx.h hN hw.h hlx
        have hv1 := Go.Pm.val_pm hx.h hy (by omega) (Go.Pm.nx_gt hx.h hN)
        have hv2 : val (nx x i k) ≤ val w := hyw.elim (fun e => by rw [e]; exact Nat.le_refl _) fun e => Nat.le_of_lt (Go.Pm.val_pm hy hw.h (by omega) e)
        have hyw := Hold.mk hyw
        have hy := Hold.mk hy
        repeat' (first | refine awp_seqK fun K hK => ?_ | (refine awp_regionK 16810099 rfl ?_; simp only [List.map_cons, List.map_nil]; simp (maxSteps := 1000000) (dsimp := false) (implicitDefEqProofs := false) (disch := omega) only [wrap64, go_sem]) | (refine awp_regionQK 16810099 (by kernel_rfl) (by kernel_rfl) (by kernel_rfl) ?_; simp only [List.map_cons, List.map_nil]; simp (maxSteps := 1000000) (dsimp := false) (implicitDefEqProofs := false) (disch := omega) only [wrap64, go_sem]) | refine awp_block ?_ | (refine awp_skip ?_; simp only [go_sem]) | (refine awp_exit ?_; simp only [go_sem]) | (refine awp_ret ?_; try simp only [go_sem]) | (refine awp_condP rfl ?_; try simp only [go_sem]) | (refine BrP.mk (fun h => ?_) (fun h => ?_) <;> try simp (dsimp := false) (disch := omega) only [wrap64]) | (refine Br.mk (fun h => ?_) (fun h => ?_) <;> try simp (dsimp := false) (disch := omega) only [wrap64]) | refine Ob.mk (by first | omega | (intro _ _; rfl) | trivial | (intros; trivial) | assumption | (intro i hi; have h0 : i = 0 := (by omega); subst h0; first | rfl | trivial) | (intro i hi; have h0 : i = 0 ∨ i = 1 := (by omega); rcases h0 with rfl | rfl <;> rfl) | (intro i hi; have h0 : i = 0 ∨ i = 1 ∨ i = 2 := (by omega); rcases h0 with rfl | rfl | rfl <;> rfl)) ?_ | ((first | ((first | refine atF (f := 25) ?_ | refine atQ (f := 25) ?_); (refine cM' (hac := c3.h) (hK := ?_)))); simp (maxSteps := 1000000) (dsimp := false) (implicitDefEqProofs := false) (disch := omega) only [wrap64, go_sem]) | apply_assumption -exfalso -symm)
        all_goals (first | (show endQ _ _ _ _ _ _ _; (repeat (rename (∀ (A : Fr) (H : Hp), AWP _ _ _ _ A H → _) => hK; clear hK)); (repeat (rename (Fr → Hp → Prop) => K; clear K))) | (show Exists _; (repeat (rename (∀ (A : Fr) (H : Hp), AWP _ _ _ _ A H → _) => hK; clear hK)); (repeat (rename (Fr → Hp → Prop) => K; clear K))) | skip)
        exact ⟨nx x i k, ⟨hy.h, hyw.h⟩, by omega, Sub.toL (by simp only [go_sem] <;> first | trivial | (simp only [Option.some.injEq, AV.v.injEq, AV.own.injEq, AV.list.injEq, Value.int.injEq, Value.bool.injEq, true_and, and_true]; first | omega | (simp; done)) | (simp; done) | (simp; omega)) (by (repeat' (first | exact Hp.le_emp _ | exact Hp.le_refl _ | refine Hp.le_upd ?_ ?_)); all_goals (first | rfl | (simp only [go_sem]; first | rfl | (refine cellsE ?_ ?_ <;> (simp)) | (simp))))⟩
  · rw [decide_eq_false h] at hsm
    have hQ0 : fcQ p q (.tup 2 (vecF [ints [], .v (.bool (false))])) := by unfold fcQ; rw [if_neg fun x => h x.1]
    have hsm := Hold.mk hsm
    have hQ0 := Hold.mk hQ0
    clear h
    refine ac_of_awp (N := ⟨_, fun _ => false, fun _ _ => rfl, true⟩) Try.func7 rfl (by kernel_rfl) Try.ntmps7 (by simp) ?_
    simp only [argsFr, List.zipIdx_cons, List.zipIdx_nil, go_sem]
    repeat' (first | refine awp_seqK fun K hK => ?_ | (refine awp_regionK 16810099 rfl ?_; simp only [List.map_cons, List.map_nil]; simp (maxSteps := 1000000) (dsimp := false) (implicitDefEqProofs := false) (disch := omega) only [wrap64, go_sem]) | (refine awp_regionQK 16810099 (by kernel_rfl) (by kernel_rfl) (by kernel_rfl) ?_; simp only [List.map_cons, List.map_nil]; simp (maxSteps := 1000000) (dsimp := false) (implicitDefEqProofs := false) (disch := omega) only [wrap64, go_sem]) | refine awp_block ?_ | (refine awp_skip ?_; simp only [go_sem]) | (refine awp_exit ?_; simp only [go_sem]) | (refine awp_ret ?_; try simp only [go_sem]) | (refine awp_condP rfl ?_; try simp only [go_sem]) | (refine BrP.mk (fun h => ?_) (fun h => ?_) <;> try simp (dsimp := false) (disch := omega) only [wrap64]) | (refine Br.mk (fun h => ?_) (fun h => ?_) <;> try simp (dsimp := false) (disch := omega) only [wrap64]) | refine Ob.mk (by first | omega | (intro _ _; rfl) | trivial | (intros; trivial) | assumption | (intro i hi; have h0 : i = 0 := (by omega); subst h0; first | rfl | trivial) | (intro i hi; have h0 : i = 0 ∨ i = 1 := (by omega); rcases h0 with rfl | rfl <;> rfl) | (intro i hi; have h0 : i = 0 ∨ i = 1 ∨ i = 2 := (by omega); rcases h0 with rfl | rfl | rfl <;> rfl)) ?_ | ((first | ((first | refine atF (f := 6) ?_ | refine atQ (f := 6) ?_); (first | refine cV (hfit := .cons (.refl _) (.cons (.refl _) .nil)) (hac := hsm.h) (hK := ?_) | refine cQV (hfit := .cons (.refl _) (.cons (.refl _) .nil)) (hac := hsm.h) (hK := ?_)))); simp (maxSteps := 1000000) (dsimp := false) (implicitDefEqProofs := false) (disch := omega) only [wrap64, go_sem]) | apply_assumption -exfalso -symm)
    all_goals (first | (show endQ _ _ _ _ _ _ _; (repeat (rename (∀ (A : Fr) (H : Hp), AWP _ _ _ _ A H → _) => hK; clear hK)); (repeat (rename (Fr → Hp → Prop) => K; clear K))) | (show Exists _; (repeat (rename (∀ (A : Fr) (H : Hp), AWP _ _ _ _ A H → _) => hK; clear hK)); (repeat (rename (Fr → Hp → Prop) => K; clear K))) | skip)
    exact end_X2 rfl (by decide) rfl rfl .nil (.refl _) hQ0.h
end Go.Proofs.Ytpffmolibjimgaa
end

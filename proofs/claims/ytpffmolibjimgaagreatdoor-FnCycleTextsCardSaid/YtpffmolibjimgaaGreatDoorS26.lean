import Derived.Test.YtpffmolibjimgaaGreatDoorS25
import Derived.Test.YtpffmolibjimgaaGreatDoorS24
/- The reference's sources: numbers, permutations and groups that are drawn. -/
section
namespace Go.Proofs.YtpffmolibjimgaaGreatDoor
open Go.Av
set_option linter.unusedSimpArgs false
set_option linter.unusedVariables false
attribute [local irreducible] AWP CallG Ob Br BrP Go.Av.Sub endQ AOps OpV AC thenA blkA opsVC opVC withA withArgs opsQ opQ CallQ withA2 withArgs2
theorem fits_shift {H : Hp} {D : Nat → Prop} {h off n N : Nat} {st : List Int} (hH : H h = some (.cells N (cM iv 0 st))) (hD : D h) (hN : N = st.length) (hn : off + n = st.length) : Fits H D (.own h off 1 n) (ints (st.drop off)) := by
  show Fits H D (.own h off 1 n) (.list false 1 (st.drop off).length (cM iv 0 (st.drop off)))
  rw [List.length_drop, show st.length - off = n by omega]
  refine .own hH hD (by omega) (fun i hi => trivial) fun i hi => ?_
  refine .ofEq ?_
  unfold cM
  congr 1
  simp [List.getD_eq_getElem?_getD]
theorem numberUpTo_ok (d : Dc) (n : Int) (hn : 0 ≤ n ∧ n ≤ 1000) : AC Tryz.prog 53 [.ref 1000000 0, .v (.int .i64 (n))] (DH .i64 d) pM (postD .i64 fun r => ∃ v : Int, r64 v ∧ r = .v (.int .i64 (v))) := by
  refine ac_of_awp (N := ⟨_, pM, fun h hh => pM_low (Nat.lt_of_lt_of_le hh (by decide)), true⟩) Tryz.func53 rfl (by kernel_rfl) Tryz.ntmps53 (by simp) ?_
  simp only [argsFr, List.zipIdx_cons, List.zipIdx_nil, go_sem]
  unfold DH
  repeat' (first | ((first | refine atF (f := 71) ?_ | refine atQ (f := 71) ?_); (refine callD (by rfl) (sBelowP_ok _ _ (by omega)) (by rintro _ ⟨v, _, rfl⟩ _; rfl) (fun r d' hq => ?_); obtain ⟨v, hv, rfl⟩ := hq) <;> simp (maxSteps := 1000000) (dsimp := false) (implicitDefEqProofs := false) (disch := omega) only [wrap64, go_sem]) | ((first | refine atF (f := 52) ?_ | refine atQ (f := 52) ?_); (refine callD (by rfl) (oneIn_ok _ _ (by omega)) (by rintro _ ⟨v, _, rfl⟩ _; rfl) (fun r d3 hq => ?_); obtain ⟨v3, hv3, rfl⟩ := hq) <;> simp (maxSteps := 1000000) (dsimp := false) (implicitDefEqProofs := false) (disch := omega) only [wrap64, go_sem]) | ((first | refine atF (f := 86) ?_ | refine atQ (f := 86) ?_); (refine callD (by rfl) (extremeInt_ok _) (by rintro _ ⟨v, _, rfl⟩ _; rfl) (fun r d2 hq => ?_); obtain ⟨v4, hv4, rfl⟩ := hq) <;> simp (maxSteps := 1000000) (dsimp := false) (implicitDefEqProofs := false) (disch := omega) only [wrap64, go_sem]) | refine awp_seqK fun K hK => ?_ | (refine awp_regionK 262227 rfl ?_; simp only [List.map_cons, List.map_nil]; simp (maxSteps := 1000000) (dsimp := false) (implicitDefEqProofs := false) (disch := omega) only [wrap64, go_sem]) | (refine awp_regionQK 262227 (by kernel_rfl) (by kernel_rfl) (by kernel_rfl) ?_; simp only [List.map_cons, List.map_nil]; simp (maxSteps := 1000000) (dsimp := false) (implicitDefEqProofs := false) (disch := omega) only [wrap64, go_sem]) | refine awp_block ?_ | (refine awp_skip ?_; simp only [go_sem]) | (refine awp_exit ?_; simp only [go_sem]) | (refine awp_ret ?_; try simp only [go_sem]) | (refine awp_condP rfl ?_; try simp only [go_sem]) | (refine BrP.mk (fun h => ?_) (fun h => ?_) <;> try simp (dsimp := false) (disch := omega) only [wrap64]) | (refine Br.mk (fun h => ?_) (fun h => ?_) <;> try simp (dsimp := false) (disch := omega) only [wrap64]) | refine Ob.mk (by first | omega | (intro _ _; rfl) | trivial | (intros; trivial) | assumption | (intro i hi; have h0 : i = 0 := (by omega); subst h0; first | rfl | trivial) | (intro i hi; have h0 : i = 0 ∨ i = 1 := (by omega); rcases h0 with rfl | rfl <;> rfl) | (intro i hi; have h0 : i = 0 ∨ i = 1 ∨ i = 2 := (by omega); rcases h0 with rfl | rfl | rfl <;> rfl)) ?_ | apply_assumption -exfalso -symm)
  all_goals (first | (show endQ _ _ _ _ _ _ _; (repeat (rename (∀ (A : Fr) (H : Hp), AWP _ _ _ _ A H → _) => hK; clear hK)); (repeat (rename (Fr → Hp → Prop) => K; clear K))) | (show Exists _; (repeat (rename (∀ (A : Fr) (H : Hp), AWP _ _ _ _ A H → _) => hK; clear hK)); (repeat (rename (Fr → Hp → Prop) => K; clear K))) | skip)
  · have e : v = 0 ∨ v = 1 ∨ v = 2 ∨ v = 3 := by omega
    have h4 := hv4
    unfold r64 at h4
    rcases e with rfl | rfl | rfl | rfl
    all_goals exact end_post rfl rfl (Hp.le_upd rfl (Hp.le_emp _)) ⟨d', ⟨_, by first | exact hv4 | (unfold r64; first | omega | (show (-9223372036854775808 : Int) ≤ -1 ∧ (-1 : Int) ≤ 9223372036854775807; decide) | (show (-9223372036854775808 : Int) ≤ n ∧ n ≤ 9223372036854775807; omega)), rfl⟩, rfl⟩
  · exact end_post rfl rfl (Hp.le_refl _) ⟨_, ⟨v, by unfold r64; omega, rfl⟩, rfl⟩
  · exact end_post rfl rfl (Hp.le_refl _) ⟨_, ⟨v, by unfold r64; omega, rfl⟩, rfl⟩
theorem drawAnyPerm_ok (d : Dc) (n : Int) (hn : 1 ≤ n ∧ n ≤ 20) : AC Tryz.prog 37 [.ref 1000000 0, .v (.int .i64 (n))] (DH .i64 d) pM (postD .i64 fun r => ∃ w : List Int, (w.length ≤ 21 ∧ ∀ x ∈ w, r64 x) ∧ r = ints w) := by
  refine ac_of_awp (N := ⟨_, pM, fun h hh => pM_low (Nat.lt_of_lt_of_le hh (by decide)), true⟩) Tryz.func37 rfl (by kernel_rfl) Tryz.ntmps37 (by simp) ?_
  simp only [argsFr, List.zipIdx_cons, List.zipIdx_nil, go_sem]
  unfold DH
  repeat' (first | ((first | refine atF (f := 70) ?_ | refine atQ (f := 70) ?_); (refine callDI (by rfl) (drawPerm_ok _ _ (by omega)) (fun _ _ => rfl) (by decide) rfl (fun d1 w hw => ?_)) <;> simp (maxSteps := 1000000) (dsimp := false) (implicitDefEqProofs := false) (disch := omega) only [wrap64, go_sem]) | ((first | refine atF (f := 71) ?_ | refine atQ (f := 71) ?_); (refine callD (by rfl) (sBelowP_ok _ _ (by omega)) (by rintro _ ⟨v, _, rfl⟩ _; rfl) (fun r d' hq => ?_); obtain ⟨v, hv, rfl⟩ := hq) <;> simp (maxSteps := 1000000) (dsimp := false) (implicitDefEqProofs := false) (disch := omega) only [wrap64, go_sem]) | ((first | refine atF (f := 52) ?_ | refine atQ (f := 52) ?_); (refine callD (by rfl) (oneIn_ok _ _ (by omega)) (by rintro _ ⟨v, _, rfl⟩ _; rfl) (fun r d3 hq => ?_); obtain ⟨v3, hv3, rfl⟩ := hq) <;> simp (maxSteps := 1000000) (dsimp := false) (implicitDefEqProofs := false) (disch := omega) only [wrap64, go_sem]) | ((first | refine atF (f := 53) ?_ | refine atQ (f := 53) ?_); (refine callD (by rfl) (numberUpTo_ok _ _ (by omega)) (by rintro _ ⟨v, _, rfl⟩ _; rfl) (fun r d2 hq => ?_); obtain ⟨v4, hv4, rfl⟩ := hq) <;> simp (maxSteps := 1000000) (dsimp := false) (implicitDefEqProofs := false) (disch := omega) only [wrap64, go_sem]) | refine awp_seqK fun K hK => ?_ | (refine awp_regionK 277159821363 rfl ?_; simp only [List.map_cons, List.map_nil]; simp (maxSteps := 1000000) (dsimp := false) (implicitDefEqProofs := false) (disch := omega) only [wrap64, go_sem]) | (refine awp_regionQK 277159821363 (by kernel_rfl) (by kernel_rfl) (by kernel_rfl) ?_; simp only [List.map_cons, List.map_nil]; simp (maxSteps := 1000000) (dsimp := false) (implicitDefEqProofs := false) (disch := omega) only [wrap64, go_sem]) | refine awp_block ?_ | (refine awp_skip ?_; simp only [go_sem]) | (refine awp_exit ?_; simp only [go_sem]) | (refine awp_ret ?_; try simp only [go_sem]) | (refine awp_condP rfl ?_; try simp only [go_sem]) | (refine BrP.mk (fun h => ?_) (fun h => ?_) <;> try simp (dsimp := false) (disch := omega) only [wrap64]) | (refine Br.mk (fun h => ?_) (fun h => ?_) <;> try simp (dsimp := false) (disch := omega) only [wrap64]) | refine Ob.mk (by first | omega | (intro _ _; rfl) | trivial | (intros; trivial) | assumption | (intro i hi; have h0 : i = 0 := (by omega); subst h0; first | rfl | trivial) | (intro i hi; have h0 : i = 0 ∨ i = 1 := (by omega); rcases h0 with rfl | rfl <;> rfl) | (intro i hi; have h0 : i = 0 ∨ i = 1 ∨ i = 2 := (by omega); rcases h0 with rfl | rfl | rfl <;> rfl)) ?_ | apply_assumption -exfalso -symm)
  all_goals (first | (show endQ _ _ _ _ _ _ _; (repeat (rename (∀ (A : Fr) (H : Hp), AWP _ _ _ _ A H → _) => hK; clear hK)); (repeat (rename (Fr → Hp → Prop) => K; clear K))) | (show Exists _; (repeat (rename (∀ (A : Fr) (H : Hp), AWP _ _ _ _ A H → _) => hK; clear hK)); (repeat (rename (Fr → Hp → Prop) => K; clear K))) | skip)
  all_goals first
  | omega
  | exact end_DF (D := fun x => x = 901) rfl rfl rfl (fits_I rfl rfl rfl rfl) (by decide) ⟨_, ⟨by omega, fun x hx => by have := hw.2 x hx; unfold r64; omega⟩, rfl⟩
  | (refine end_DF (D := fun x => x = 901) rfl rfl rfl (fits_I rfl rfl rfl (by simp)) (by decide) ⟨_, ⟨by simp; omega, fun x hx => ?_⟩, rfl⟩
     rcases List.mem_append.1 hx with h | h
     · have := hw.2 x h; unfold r64; omega
     · rw [List.mem_singleton.1 h]; unfold r64; omega)
  | (refine end_DF (D := fun x => x = 901) rfl rfl rfl (fits_shift rfl rfl rfl (by show 1 + (w.length - 1) = w.length; omega)) (by decide) ⟨_, ⟨by rw [List.length_drop]; omega, fun x hx => ?_⟩, rfl⟩
     have := hw.2 x (List.mem_of_mem_drop hx); unfold r64; omega)
  | (refine end_DF (D := fun x => x = 901) rfl rfl rfl (fits_I rfl rfl rfl (by simp)) (by decide) ⟨_, ⟨by simp; omega, fun x hx => ?_⟩, rfl⟩
     rcases List.mem_or_eq_of_mem_set hx with h | rfl
     · have := hw.2 x h; unfold r64; omega
     · exact hv4)
theorem app_fit {H : Hp} {D : Nat → Prop} {h n : Nat} {g : List Int} {z : Nat → AV} (gs : List (List Int)) (hH : H h = some (.cells n (cM iv 0 g))) (hD : D h) (hn : n = g.length) : ∀ i, i < gs.length + 1 → Fits H D (apF gs.length (cM ints [] gs) (setF z 0 (.own h 0 1 n)) i) (cM ints [] (gs ++ [g]) i) := fun i hi => by
  by_cases hi2 : i < gs.length
  · exact .ofEq (by simp [apF, cM, List.getD_eq_getElem?_getD, List.getElem?_append, hi2])
  · have hi3 : i = gs.length := by omega
    have e2 : apF gs.length (cM ints [] gs) (setF z 0 (.own h 0 1 n)) i = .own h 0 1 n := by subst hi3; simp [apF, setF]
    have e3 : cM ints [] (gs ++ [g]) i = ints g := by subst hi3; simp [cM, List.getD_eq_getElem?_getD]
    rw [e2, e3]
    exact fits_I hH hD rfl hn
theorem fits_II0 {H : Hp} {D : Nat → Prop} {h : Nat} {f : Nat → AV} (hH : H h = some (.cells 0 f)) (hD : D h) : Fits H D (.own h 0 1 0) (intss []) :=
  .own hH hD (by omega) (fun i hi => trivial) fun i hi => absurd hi (by simp)
end Go.Proofs.YtpffmolibjimgaaGreatDoor
end
/- The program's cycles and orders. -/
section
namespace Go.Proofs.YtpffmolibjimgaaGreatDoor
open Go.Av
set_option linter.unusedSimpArgs false
set_option linter.unusedVariables false
attribute [local irreducible] AWP CallG Ob Br BrP Go.Av.Sub endQ AOps OpV AC thenA blkA opsVC opVC withA withArgs opsQ opQ CallQ withA2 withArgs2
open Go.Pm (Pm comp invp idn img itr clen cyc isMn cycs lcmL ord sn snK stK cycsK)
theorem implCycles_ok (n : Nat) (p : List Int) (hp : Pm n p) (hn : n ≤ 20) : AC Tryz.prog 74 [ints p] Hp.emp (fun _ => false) (retV (intss (cycs p))) := by
  have hl := hp.1
  have hz := Go.Pm.snK_zero p
  refine ac_of_awp (N := ⟨_, fun _ => false, fun _ _ => rfl, true⟩) Tryz.func74 rfl (by kernel_rfl) Tryz.ntmps74 (by simp) ?_
  simp only [argsFr, List.zipIdx_cons, List.zipIdx_nil, go_sem]
  repeat' (first | refine awp_seqK fun K hK => ?_ | (refine awp_regionK 34361864445 rfl ?_; simp only [List.map_cons, List.map_nil]; simp (maxSteps := 1000000) (dsimp := false) (implicitDefEqProofs := false) (disch := omega) only [wrap64, go_sem, zF_bv]) | (refine awp_regionQK 34361864445 (by kernel_rfl) (by kernel_rfl) (by kernel_rfl) ?_; simp only [List.map_cons, List.map_nil]; simp (maxSteps := 1000000) (dsimp := false) (implicitDefEqProofs := false) (disch := omega) only [wrap64, go_sem, zF_bv]) | refine awp_block ?_ | (refine awp_skip ?_; simp only [go_sem, zF_bv]) | (refine awp_exit ?_; simp only [go_sem, zF_bv]) | (refine awp_ret ?_; try simp only [go_sem, zF_bv]) | (refine awp_condP rfl ?_; try simp only [go_sem, zF_bv]) | (refine BrP.mk (fun h => ?_) (fun h => ?_) <;> try simp (dsimp := false) (disch := omega) only [wrap64]) | (refine Br.mk (fun h => ?_) (fun h => ?_) <;> try simp (dsimp := false) (disch := omega) only [wrap64]) | refine Ob.mk (by first | omega | (intro _ _; rfl) | trivial | (intros; trivial) | assumption | (intro i hi; have h0 : i = 0 := (by omega); subst h0; first | rfl | trivial) | (intro i hi; have h0 : i = 0 ∨ i = 1 := (by omega); rcases h0 with rfl | rfl <;> rfl) | (intro i hi; have h0 : i = 0 ∨ i = 1 ∨ i = 2 := (by omega); rcases h0 with rfl | rfl | rfl <;> rfl)) ?_ | apply_assumption -exfalso -symm)
  all_goals (first | (show endQ _ _ _ _ _ _ _; (repeat (rename (∀ (A : Fr) (H : Hp), AWP _ _ _ _ A H → _) => hK; clear hK)); (repeat (rename (Fr → Hp → Prop) => K; clear K))) | (show Exists _; (repeat (rename (∀ (A : Fr) (H : Hp), AWP _ _ _ _ A H → _) => hK; clear hK)); (repeat (rename (Fr → Hp → Prop) => K; clear K))) | skip)
  rw [← hz]
  refine awp_loop (ι := Nat) (fun i => [(13, .v (.int .i64 ((i : Nat)))), (12, .v (.int .i64 (p.length))), (4, .own 10 0 1 p.length), (3, .own 39 0 1 (cycsK p i).length), (0, .list false 1 (p).length (cM iv 0 (p)))]) (fun i => (Hp.emp.upd 10 (.cells p.length (cM bv false (snK p i 0)))).upd 39 (.cells (cycsK p i).length (cM ints [] (cycsK p i)))) (fun i => i ≤ n) (fun i => n - i) 0 (Nat.zero_le _) (Sub.trans (Sub.nil (i := 3) 39 1 (cM ints [] []) rfl rfl) (Sub.toL (by simp only [go_sem] <;> first | trivial | (simp only [Option.some.injEq, AV.v.injEq, AV.own.injEq, AV.list.injEq, Value.int.injEq, Value.bool.injEq, true_and, and_true]; first | omega | (simp; done)) | (simp; done) | (simp; omega)) (by (repeat' (first | exact Hp.le_emp _ | exact Hp.le_refl _ | refine Hp.le_upd ?_ ?_)); all_goals (first | rfl | (simp only [go_sem]; first | rfl | (refine cellsE ?_ ?_ <;> (simp)) | (simp)))))) ?_
  intro i hi
  have hci := Go.Pm.cycsK_len p i
  repeat' (first | refine awp_seqK fun K hK => ?_ | (refine awp_regionK 34361864445 rfl ?_; simp only [List.map_cons, List.map_nil]; simp (maxSteps := 1000000) (dsimp := false) (implicitDefEqProofs := false) (disch := omega) only [wrap64, go_sem]) | (refine awp_regionQK 34361864445 (by kernel_rfl) (by kernel_rfl) (by kernel_rfl) ?_; simp only [List.map_cons, List.map_nil]; simp (maxSteps := 1000000) (dsimp := false) (implicitDefEqProofs := false) (disch := omega) only [wrap64, go_sem]) | refine awp_block ?_ | (refine awp_skip ?_; simp only [go_sem]) | (refine awp_exit ?_; simp only [go_sem]) | (refine awp_ret ?_; try simp only [go_sem]) | (refine awp_condP rfl ?_; try simp only [go_sem]) | (refine BrP.mk (fun h => ?_) (fun h => ?_) <;> try simp (dsimp := false) (disch := omega) only [wrap64]) | (refine Br.mk (fun h => ?_) (fun h => ?_) <;> try simp (dsimp := false) (disch := omega) only [wrap64]) | refine Ob.mk (by first | omega | (intro _ _; rfl) | trivial | (intros; trivial) | assumption | (intro i hi; have h0 : i = 0 := (by omega); subst h0; first | rfl | trivial) | (intro i hi; have h0 : i = 0 ∨ i = 1 := (by omega); rcases h0 with rfl | rfl <;> rfl) | (intro i hi; have h0 : i = 0 ∨ i = 1 ∨ i = 2 := (by omega); rcases h0 with rfl | rfl | rfl <;> rfl)) ?_ | apply_assumption -exfalso -symm)
  all_goals (first | (show endQ _ _ _ _ _ _ _; (repeat (rename (∀ (A : Fr) (H : Hp), AWP _ _ _ _ A H → _) => hK; clear hK)); (repeat (rename (Fr → Hp → Prop) => K; clear K))) | (show Exists _; (repeat (rename (∀ (A : Fr) (H : Hp), AWP _ _ _ _ A H → _) => hK; clear hK)); (repeat (rename (Fr → Hp → Prop) => K; clear K))) | skip)
  · have hin : i < n := by omega
    have hsc := Go.Pm.stK_le hp hin
    have hcl := Go.Pm.cyc_length p i
    have hc20 := (Go.Pm.clen_ok hp hin).1
    refine awp_loop (ι := Nat) (fun k => [(7, .v (.int .i64 ((itr p i k : Nat)))), (6, .own 32 0 1 k), (13, .v (.int .i64 ((i : Nat)))), (12, .v (.int .i64 (p.length))), (4, .own 10 0 1 p.length), (3, .own 39 0 1 (cycsK p i).length), (0, .list false 1 (p).length (cM iv 0 (p)))]) (fun k => ((Hp.emp.upd 10 (.cells p.length (cM bv false (snK p i k)))).upd 39 (.cells (cycsK p i).length (cM ints [] (cycsK p i)))).upd 32 (.cells k (cM iv 0 ((cyc p i).take k)))) (fun k => k ≤ stK p i) (fun k => stK p i - k) 0 (Nat.zero_le _) (Sub.trans (Sub.nil (i := 6) 32 1 (cM iv 0 []) rfl rfl) (Sub.toL (by simp only [go_sem] <;> first | trivial | (simp only [Option.some.injEq, AV.v.injEq, AV.own.injEq, AV.list.injEq, Value.int.injEq, Value.bool.injEq, true_and, and_true]; first | omega | (simp; done)) | (simp; done) | (simp; omega)) (by (repeat' (first | exact Hp.le_emp _ | exact Hp.le_refl _ | refine Hp.le_upd ?_ ?_)); all_goals (first | rfl | (simp only [go_sem]; first | rfl | (refine cellsE ?_ ?_ <;> (simp)) | (simp)))))) ?_
    intro k hk
    have hb := Go.Pm.itr_lt hp hin k
    have hB : (snK p i k).getD (itr p i k) false = decide (k = stK p i) := by
      rw [Bool.eq_iff_iff, decide_eq_true_eq]; exact Go.Pm.st_iff hp hin hk
    have hsl := Go.Pm.snK_len p i k
    have hset := Go.Pm.snK_set p i k
    have hgk : p.getD (itr p i k) 0 = ((itr p i (k + 1) : Nat) : Int) := hp.get_eq hb
    have htl : ((cyc p i).take k).length = k := by rw [List.length_take]; omega
    repeat' (first | refine awp_seqK fun K hK => ?_ | (refine awp_regionK 34361864445 rfl ?_; simp only [List.map_cons, List.map_nil]; simp (maxSteps := 1000000) (dsimp := false) (implicitDefEqProofs := false) (disch := omega) only [wrap64, go_sem, hB, hset, hgk, htl, hsl]) | (refine awp_regionQK 34361864445 (by kernel_rfl) (by kernel_rfl) (by kernel_rfl) ?_; simp only [List.map_cons, List.map_nil]; simp (maxSteps := 1000000) (dsimp := false) (implicitDefEqProofs := false) (disch := omega) only [wrap64, go_sem, hB, hset, hgk, htl, hsl]) | refine awp_block ?_ | (refine awp_skip ?_; simp only [go_sem, hB, hset, hgk, htl, hsl]) | (refine awp_exit ?_; simp only [go_sem, hB, hset, hgk, htl, hsl]) | (refine awp_ret ?_; try simp only [go_sem, hB, hset, hgk, htl, hsl]) | (refine awp_condP rfl ?_; try simp only [go_sem, hB, hset, hgk, htl, hsl]) | (refine BrP.mk (fun h => ?_) (fun h => ?_) <;> try simp (dsimp := false) (disch := omega) only [wrap64]) | (refine Br.mk (fun h => ?_) (fun h => ?_) <;> try simp (dsimp := false) (disch := omega) only [wrap64]) | refine Ob.mk (by first | omega | (intro _ _; rfl) | trivial | (intros; trivial) | assumption | (intro i hi; have h0 : i = 0 := (by omega); subst h0; first | rfl | trivial) | (intro i hi; have h0 : i = 0 ∨ i = 1 := (by omega); rcases h0 with rfl | rfl <;> rfl) | (intro i hi; have h0 : i = 0 ∨ i = 1 ∨ i = 2 := (by omega); rcases h0 with rfl | rfl | rfl <;> rfl)) ?_ | apply_assumption -exfalso -symm)
    all_goals (first | (show endQ _ _ _ _ _ _ _; (repeat (rename (∀ (A : Fr) (H : Hp), AWP _ _ _ _ A H → _) => hK; clear hK)); (repeat (rename (Fr → Hp → Prop) => K; clear K))) | (show Exists _; (repeat (rename (∀ (A : Fr) (H : Hp), AWP _ _ _ _ A H → _) => hK; clear hK)); (repeat (rename (Fr → Hp → Prop) => K; clear K))) | skip)
    · have e : k = stK p i := by assumption
      subst e
      have hnx := Go.Pm.snK_next hp hin
      have hcy := Go.Pm.cycsK_succ hp hin
      rw [if_pos (by omega)] at hcy
      refine ⟨i + 1, by omega, by omega, Sub.toFF (fun x => x = 32) (Fr.fit_cons rfl (.refl _) (Fr.fit_cons rfl (.refl _) (Fr.fit_cons rfl (.refl _) (Fr.fit_cons rfl (.ofEq (by rw [hcy]; simp)) (Fr.fit_cons rfl (.refl _) (Fr.fit_nil _)))))) (leF_upd rfl ⟨by rw [hcy]; simp, fun j hj => ?_⟩ (leF_upd rfl ⟨rfl, fun j hj => .ofEq (by rw [hnx])⟩ leF_emp (by omega)) (by omega))⟩
      rw [hcy]
      refine app_fit (g := (cyc p i).take (stK p i)) (h := 32) (cycsK p i) ?_ ?_ htl.symm j hj <;> rfl
    · have e : k = stK p i := by assumption
      subst e
      have hnx := Go.Pm.snK_next hp hin
      have hcy := Go.Pm.cycsK_succ hp hin
      rw [if_neg (by omega)] at hcy
      exact ⟨i + 1, by omega, by omega, Sub.toL (by simp only [go_sem] <;> first | trivial | (simp only [Option.some.injEq, AV.v.injEq, AV.own.injEq, AV.list.injEq, Value.int.injEq, Value.bool.injEq, true_and, and_true]; first | omega | (simp [hcy]; done)) | (simp [hcy]; done) | (simp [hcy]; omega)) (by (repeat' (first | exact Hp.le_emp _ | exact Hp.le_refl _ | refine Hp.le_upd ?_ ?_)); all_goals (first | rfl | (simp only [go_sem]; first | rfl | (refine cellsE ?_ ?_ <;> (simp [hcy, hnx])) | (simp [hcy, hnx]))))⟩
    · have hlt : k < stK p i := by omega
      have e1 : (cyc p i).take (k + 1) = (cyc p i).take k ++ [((itr p i k : Nat) : Int)] := by
        rw [List.take_succ_eq_append_getElem (by omega)]
        simp [cyc]
      have hap := apF_cM iv 0 ((cyc p i).take k) [((itr p i k : Nat) : Int)]
      rw [htl, ← e1] at hap
      exact ⟨k + 1, by omega, by omega, Sub.toL (by simp only [go_sem] <;> first | trivial | (simp only [Option.some.injEq, AV.v.injEq, AV.own.injEq, AV.list.injEq, Value.int.injEq, Value.bool.injEq, true_and, and_true]; first | omega | (simp; done)) | (simp; done) | (simp; omega)) (by (repeat' (first | exact Hp.le_emp _ | exact Hp.le_refl _ | refine Hp.le_upd ?_ ?_)); all_goals (first | rfl | (simp only [go_sem]; first | rfl | (refine cellsE ?_ ?_ <;> (simp [hap])) | (simp [hap]))))⟩
  · have e : i = n := by omega
    subst e
    refine end_retF rfl rfl ?_
    rw [← Go.Pm.cycsK_all hp]
    exact fits_II rfl trivial rfl rfl
end Go.Proofs.YtpffmolibjimgaaGreatDoor
end
/- Cycles of the reference: isSmallest, allCycles. -/
section
namespace Go.Proofs.YtpffmolibjimgaaGreatDoor
open Go.Av
set_option linter.unusedSimpArgs false
set_option linter.unusedVariables false
attribute [local irreducible] AWP CallG Ob Br BrP Go.Av.Sub endQ AOps OpV AC thenA blkA opsVC opVC withA withArgs opsQ opQ CallQ withA2 withArgs2
open Go.Pm (Pm cyc clen cycs isMn itr cyc_length cyc_get clen_pos clen_ok itr_lt)
theorem isSmallest_ok (xs : List Int) (hl : 1 ≤ xs.length ∧ xs.length ≤ 1000) : AC Tryz.prog 105 [ints xs] Hp.emp (fun _ => false) (retV (.v (.bool (decide (∀ j, j < xs.length → xs.getD 0 0 ≤ xs.getD j 0))))) := by
  refine ac_of_awp (N := ⟨_, fun _ => false, fun _ _ => rfl, true⟩) Tryz.func105 rfl (by kernel_rfl) Tryz.ntmps105 (by simp) ?_
  simp only [argsFr, List.zipIdx_cons, List.zipIdx_nil, go_sem]
  repeat' (first | refine awp_seqK fun K hK => ?_ | (refine awp_regionK 131213 rfl ?_; simp only [List.map_cons, List.map_nil]; simp (maxSteps := 1000000) (dsimp := false) (implicitDefEqProofs := false) (disch := omega) only [wrap64, go_sem]) | (refine awp_regionQK 131213 (by kernel_rfl) (by kernel_rfl) (by kernel_rfl) ?_; simp only [List.map_cons, List.map_nil]; simp (maxSteps := 1000000) (dsimp := false) (implicitDefEqProofs := false) (disch := omega) only [wrap64, go_sem]) | refine awp_block ?_ | (refine awp_skip ?_; simp only [go_sem]) | (refine awp_exit ?_; simp only [go_sem]) | (refine awp_ret ?_; try simp only [go_sem]) | (refine awp_condP rfl ?_; try simp only [go_sem]) | (refine BrP.mk (fun h => ?_) (fun h => ?_) <;> try simp (dsimp := false) (disch := omega) only [wrap64]) | (refine Br.mk (fun h => ?_) (fun h => ?_) <;> try simp (dsimp := false) (disch := omega) only [wrap64]) | refine Ob.mk (by first | omega | (intro _ _; rfl) | trivial | (intros; trivial) | assumption | (intro i hi; have h0 : i = 0 := (by omega); subst h0; first | rfl | trivial) | (intro i hi; have h0 : i = 0 ∨ i = 1 := (by omega); rcases h0 with rfl | rfl <;> rfl) | (intro i hi; have h0 : i = 0 ∨ i = 1 ∨ i = 2 := (by omega); rcases h0 with rfl | rfl | rfl <;> rfl)) ?_ | apply_assumption -exfalso -symm)
  all_goals (first | (show endQ _ _ _ _ _ _ _; (repeat (rename (∀ (A : Fr) (H : Hp), AWP _ _ _ _ A H → _) => hK; clear hK)); (repeat (rename (Fr → Hp → Prop) => K; clear K))) | (show Exists _; (repeat (rename (∀ (A : Fr) (H : Hp), AWP _ _ _ _ A H → _) => hK; clear hK)); (repeat (rename (Fr → Hp → Prop) => K; clear K))) | skip)
  refine awp_loop (ι := Nat) (fun k => [(3, .v (.int .i64 (((k : Nat) : Int) + 1))), (0, .list false 1 (xs).length (cM iv 0 (xs)))]) (fun _ => Hp.emp) (fun k => k + 1 ≤ xs.length ∧ Hold (∀ j, j < k + 1 → xs.getD 0 0 ≤ xs.getD j 0)) (fun k => xs.length - k) 0 ⟨by omega, ⟨fun j hj => by rw [show j = 0 by omega]; exact Int.le_refl _⟩⟩ (Sub.toL (by simp only [go_sem] <;> first | trivial | (simp only [Option.some.injEq, AV.v.injEq, AV.own.injEq, AV.list.injEq, Value.int.injEq, Value.bool.injEq, true_and, and_true]; first | omega | (simp; done)) | (simp; done) | (simp; omega)) (Hp.le_refl _)) ?_
  rintro k ⟨hk, hv⟩
  have e1 : (((k : Nat) : Int) + 1).toNat = k + 1 := by omega
  repeat' (first | refine awp_seqK fun K hK => ?_ | (refine awp_regionK 131213 rfl ?_; simp only [List.map_cons, List.map_nil]; simp (maxSteps := 1000000) (dsimp := false) (implicitDefEqProofs := false) (disch := omega) only [wrap64, go_sem, Int.toNat_zero, e1]) | (refine awp_regionQK 131213 (by kernel_rfl) (by kernel_rfl) (by kernel_rfl) ?_; simp only [List.map_cons, List.map_nil]; simp (maxSteps := 1000000) (dsimp := false) (implicitDefEqProofs := false) (disch := omega) only [wrap64, go_sem, Int.toNat_zero, e1]) | refine awp_block ?_ | (refine awp_skip ?_; simp only [go_sem, Int.toNat_zero, e1]) | (refine awp_exit ?_; simp only [go_sem, Int.toNat_zero, e1]) | (refine awp_ret ?_; try simp only [go_sem, Int.toNat_zero, e1]) | (refine awp_condP rfl ?_; try simp only [go_sem, Int.toNat_zero, e1]) | (refine BrP.mk (fun h => ?_) (fun h => ?_) <;> try simp (dsimp := false) (disch := omega) only [wrap64]) | (refine Br.mk (fun h => ?_) (fun h => ?_) <;> try simp (dsimp := false) (disch := omega) only [wrap64]) | refine Ob.mk (by first | omega | (intro _ _; rfl) | trivial | (intros; trivial) | assumption | (intro i hi; have h0 : i = 0 := (by omega); subst h0; first | rfl | trivial) | (intro i hi; have h0 : i = 0 ∨ i = 1 := (by omega); rcases h0 with rfl | rfl <;> rfl) | (intro i hi; have h0 : i = 0 ∨ i = 1 ∨ i = 2 := (by omega); rcases h0 with rfl | rfl | rfl <;> rfl)) ?_ | apply_assumption -exfalso -symm)
  all_goals (first | (show endQ _ _ _ _ _ _ _; (repeat (rename (∀ (A : Fr) (H : Hp), AWP _ _ _ _ A H → _) => hK; clear hK)); (repeat (rename (Fr → Hp → Prop) => K; clear K))) | (show Exists _; (repeat (rename (∀ (A : Fr) (H : Hp), AWP _ _ _ _ A H → _) => hK; clear hK)); (repeat (rename (Fr → Hp → Prop) => K; clear K))) | skip)
  · exact end_retB rfl rfl (by simp only [Bool.false_eq_true, false_iff]; exact fun h => by have := h (k + 1) (by omega); omega)
  · refine ⟨k + 1, ⟨by omega, ⟨fun j hj => ?_⟩⟩, by omega, Sub.toL (by simp only [go_sem] <;> first | trivial | (simp only [Option.some.injEq, AV.v.injEq, AV.own.injEq, AV.list.injEq, Value.int.injEq, Value.bool.injEq, true_and, and_true]; first | omega | (simp; done)) | (simp; done) | (simp; omega)) (Hp.le_refl _)⟩
    by_cases e : j = k + 1
    · rw [e]; omega
    · exact hv.h j (by omega)
  · exact end_retB rfl rfl (by simp only [true_iff]; exact fun j hj => hv.h j (by omega))
theorem smallest_cyc {n : Nat} {p : List Int} (hp : Pm n p) {i : Nat} (hi : i < n) : (∀ j, j < (cyc p i).length → (cyc p i).getD 0 0 ≤ (cyc p i).getD j 0) ↔ isMn p i = true := by
  unfold isMn
  rw [decide_eq_true_eq, cyc_length, cyc_get p i (clen_pos p i)]
  constructor
  · intro h k hk
    have := h k hk
    rw [cyc_get p i hk] at this
    have e : itr p i 0 = i := rfl
    omega
  · intro h j hj
    rw [cyc_get p i hj]
    have := h j hj
    have e : itr p i 0 = i := rfl
    omega
/-- The cycles that begin before x. -/
def acP (p : List Int) (x : Nat) : List (List Int) := ((List.range x).filter (isMn p)).map (cyc p)
theorem acP_succ (p : List Int) (x : Nat) : acP p (x + 1) = if isMn p x = true then acP p x ++ [cyc p x] else acP p x := by
  unfold acP
  rw [List.range_succ, List.filter_append, List.map_append]
  by_cases h : isMn p x = true
  · rw [if_pos h]; simp [h]
  · rw [if_neg h]; simp [h]
theorem acP_len (p : List Int) (x : Nat) : (acP p x).length ≤ x := by
  unfold acP
  rw [List.length_map]
  exact Nat.le_trans (List.length_filter_le _ _) (by rw [List.length_range]; exact Nat.le_refl _)
theorem allCycles_ok (n : Nat) (p : List Int) (hp : Pm n p) (hn : n ≤ 20) : AC Tryz.prog 78 [ints p] Hp.emp (fun _ => false) (retV (intss (acP p n))) := by
  have hpl := hp.1
  have hp := Hold.mk hp
  refine ac_of_awp (N := ⟨_, fun _ => false, fun _ _ => rfl, true⟩) Tryz.func78 rfl (by kernel_rfl) Tryz.ntmps78 (by simp) ?_
  simp only [argsFr, List.zipIdx_cons, List.zipIdx_nil, go_sem]
  repeat' (first | refine awp_seqK fun K hK => ?_ | (refine awp_regionK 132157 rfl ?_; simp only [List.map_cons, List.map_nil]; simp (maxSteps := 1000000) (dsimp := false) (implicitDefEqProofs := false) (disch := omega) only [wrap64, go_sem]) | (refine awp_regionQK 132157 (by kernel_rfl) (by kernel_rfl) (by kernel_rfl) ?_; simp only [List.map_cons, List.map_nil]; simp (maxSteps := 1000000) (dsimp := false) (implicitDefEqProofs := false) (disch := omega) only [wrap64, go_sem]) | refine awp_block ?_ | (refine awp_skip ?_; simp only [go_sem]) | (refine awp_exit ?_; simp only [go_sem]) | (refine awp_ret ?_; try simp only [go_sem]) | (refine awp_condP rfl ?_; try simp only [go_sem]) | (refine BrP.mk (fun h => ?_) (fun h => ?_) <;> try simp (dsimp := false) (disch := omega) only [wrap64]) | (refine Br.mk (fun h => ?_) (fun h => ?_) <;> try simp (dsimp := false) (disch := omega) only [wrap64]) | refine Ob.mk (by first | omega | (intro _ _; rfl) | trivial | (intros; trivial) | assumption | (intro i hi; have h0 : i = 0 := (by omega); subst h0; first | rfl | trivial) | (intro i hi; have h0 : i = 0 ∨ i = 1 := (by omega); rcases h0 with rfl | rfl <;> rfl) | (intro i hi; have h0 : i = 0 ∨ i = 1 ∨ i = 2 := (by omega); rcases h0 with rfl | rfl | rfl <;> rfl)) ?_ | apply_assumption -exfalso -symm)
  all_goals (first | (show endQ _ _ _ _ _ _ _; (repeat (rename (∀ (A : Fr) (H : Hp), AWP _ _ _ _ A H → _) => hK; clear hK)); (repeat (rename (Fr → Hp → Prop) => K; clear K))) | (show Exists _; (repeat (rename (∀ (A : Fr) (H : Hp), AWP _ _ _ _ A H → _) => hK; clear hK)); (repeat (rename (Fr → Hp → Prop) => K; clear K))) | skip)
  refine awp_loop (ι := Nat) (fun x => [(4, .v (.int .i64 ((x : Nat)))), (3, .own 6 0 1 (acP p x).length), (0, .list false 1 (p).length (cM iv 0 (p)))]) (fun x => Hp.emp.upd 6 (.cells (acP p x).length (cM ints [] (acP p x)))) (fun x => x ≤ n) (fun x => n - x) 0 (Nat.zero_le _) ?_ ?_
  · exact Sub.toFF (fun _ => False) (Fr.fit_cons rfl (.refl _) (Fr.fit_cons rfl (.refl _) (Fr.fit_cons rfl (.refl _) (Fr.fit_nil _)))) (leF_upd rfl (bfE rfl (fun i hi => absurd hi (Nat.not_lt_zero _))) leF_emp id)
  intro x hx
  have hml := acP_len p x
  have hsz := acP_succ p x
  have hcl := Hold.mk (fun h : x < n => clen_ok hp.h h)
  have hlen : x < n → 1 ≤ (cyc p x).length ∧ (cyc p x).length ≤ 20 := fun h => by have := (hcl.h h).1; have := clen_pos p x; rw [cyc_length]; omega
  have hco := Hold.mk (fun h : x < n => specCycleOf_ok n p x hp.h hn h 15)
  have hsm := Hold.mk (fun h : x < n => isSmallest_ok (cyc p x) (by have := hlen h; omega))
  have hmn := Hold.mk (fun h : x < n => smallest_cyc hp.h h)
  repeat' (first | refine awp_seqK fun K hK => ?_ | (refine awp_regionK 132157 rfl ?_; simp only [List.map_cons, List.map_nil]; simp (maxSteps := 1000000) (dsimp := false) (implicitDefEqProofs := false) (disch := omega) only [wrap64, go_sem]) | (refine awp_regionQK 132157 (by kernel_rfl) (by kernel_rfl) (by kernel_rfl) ?_; simp only [List.map_cons, List.map_nil]; simp (maxSteps := 1000000) (dsimp := false) (implicitDefEqProofs := false) (disch := omega) only [wrap64, go_sem]) | refine awp_block ?_ | (refine awp_skip ?_; simp only [go_sem]) | (refine awp_exit ?_; simp only [go_sem]) | (refine awp_ret ?_; try simp only [go_sem]) | (refine awp_condP rfl ?_; try simp only [go_sem]) | (refine BrP.mk (fun h => ?_) (fun h => ?_) <;> try simp (dsimp := false) (disch := omega) only [wrap64]) | (refine Br.mk (fun h => ?_) (fun h => ?_) <;> try simp (dsimp := false) (disch := omega) only [wrap64]) | refine Ob.mk (by first | omega | (intro _ _; rfl) | trivial | (intros; trivial) | assumption | (intro i hi; have h0 : i = 0 := (by omega); subst h0; first | rfl | trivial) | (intro i hi; have h0 : i = 0 ∨ i = 1 := (by omega); rcases h0 with rfl | rfl <;> rfl) | (intro i hi; have h0 : i = 0 ∨ i = 1 ∨ i = 2 := (by omega); rcases h0 with rfl | rfl | rfl <;> rfl)) ?_ | ((first | (refine cFI (hac := hco.h (by omega)) (hK := ?_)) | (refine cQI (hac := hco.h (by omega)) (hK := ?_)) | (refine cV (hac := hsm.h (by omega)) (hK := ?_)) | (refine cQV (hac := hsm.h (by omega)) (hK := ?_))); simp (maxSteps := 1000000) (dsimp := false) (implicitDefEqProofs := false) (disch := omega) only [wrap64, go_sem]) | apply_assumption -exfalso -symm)
  all_goals (first | (show endQ _ _ _ _ _ _ _; (repeat (rename (∀ (A : Fr) (H : Hp), AWP _ _ _ _ A H → _) => hK; clear hK)); (repeat (rename (Fr → Hp → Prop) => K; clear K))) | (show Exists _; (repeat (rename (∀ (A : Fr) (H : Hp), AWP _ _ _ _ A H → _) => hK; clear hK)); (repeat (rename (Fr → Hp → Prop) => K; clear K))) | skip)
  · have hm := (hmn.h (by omega)).1 (by assumption)
    rw [if_pos hm] at hsz
    refine ⟨x + 1, by omega, by omega, ?_⟩
    have e1 : (acP p (x + 1)).length = (acP p x).length + 1 := by rw [hsz, List.length_append, List.length_singleton]
    rw [e1, hsz]
    exact Sub.toFF (fun _ => False) (Fr.fit_cons rfl (.refl _) (Fr.fit_cons rfl (.refl _) (Fr.fit_cons rfl (.refl _) (Fr.fit_nil _)))) (leF_upd rfl (bfE rfl (ap_ints (acP p x) (cyc p x))) leF_emp id)
  · have hm : ¬ isMn p x = true := fun h => absurd ((hmn.h (by omega)).2 h) (by assumption)
    rw [if_neg hm] at hsz
    refine ⟨x + 1, by omega, by omega, ?_⟩
    rw [hsz]
    exact Sub.toL (by simp only [go_sem] <;> first | trivial | (simp only [Option.some.injEq, AV.v.injEq, AV.own.injEq, AV.list.injEq, Value.int.injEq, Value.bool.injEq, true_and, and_true]; first | omega | (simp; done)) | (simp; done) | (simp; omega)) (Hp.le_refl _)
  · have e : x = n := by omega
    rw [e]
    exact end_retF rfl rfl (fits_II rfl trivial rfl rfl)
theorem acP_row (n : Nat) (p : List Int) (hp : Pm n p) (hn : n ≤ 20) (j : Nat) : ((acP p n).getD j []).length ≤ 20 ∧ ∀ i, i < ((acP p n).getD j []).length → 0 ≤ ((acP p n).getD j []).getD i 0 ∧ ((acP p n).getD j []).getD i 0 < 20 := by
  by_cases hj : j < (acP p n).length
  · have hm : (acP p n).getD j [] ∈ acP p n := by rw [List.getD_eq_getElem?_getD, List.getElem?_eq_getElem hj]; exact List.getElem_mem hj
    obtain ⟨x, hx, e⟩ := List.mem_map.1 hm
    have hxn : x < n := List.mem_range.1 (List.mem_filter.1 hx).1
    rw [← e]
    have := (clen_ok hp hxn).1
    rw [cyc_length]
    refine ⟨by omega, fun i hi => ?_⟩
    rw [cyc_get p x hi]
    have := itr_lt hp hxn i
    omega
  · rw [List.getD_eq_getElem?_getD, List.getElem?_eq_none (by omega)]
    exact ⟨Nat.zero_le _, fun i hi => absurd hi (Nat.not_lt_zero _)⟩
end Go.Proofs.YtpffmolibjimgaaGreatDoor
end

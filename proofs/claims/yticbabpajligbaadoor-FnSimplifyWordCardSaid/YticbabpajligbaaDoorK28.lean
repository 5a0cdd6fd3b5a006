import Derived.Test.YticbabpajligbaaDoorK27
import Derived.Test.YticbabpajligbaaDoorK25
import Derived.Test.YticbabpajligbaaDoorK4
import Derived.Test.YticbabpajligbaaDoorK3
import Derived.Test.YticbabpajligbaaDoorK26
/- One round of shortening, the reference's text. -/
section
namespace Go.Proofs.YticbabpajligbaaDoor
open Go.Av
set_option linter.unusedSimpArgs false
set_option linter.unusedVariables false
attribute [local irreducible] AWP CallG Ob Br BrP Go.Av.Sub endQ AOps OpV AC thenA blkA opsVC opVC withA withArgs opsQ opQ CallQ withA2 withArgs2
open Go.Pm (Pm comp invp idn img ord)
open Go.Wd (sres lets sumS sgn absI shortR shortK short runs offs smp SW)
/-- The order of a move. -/
def odP (p : Pz) (a : Int) : Int := (ord (p.m.getD (a - 1).toNat []) : Nat)
theorem odP_ok {p : Pz} (h : isPz p) {a : Int} (ha : 1 ≤ a ∧ a ≤ p.m.length) : isPerm (p.m.getD (a - 1).toNat []) ∧ 0 < odP p a ∧ odP p a ≤ 232792560 := by
  have h1 := (h.1.2.2 (a - 1).toNat (by omega)).2
  refine ⟨h1, ?_⟩
  have h2 := (isPerm_pm _).1 h1
  have := Go.Pm.ord_20 h2.2 h2.1.2
  unfold odP; omega
theorem mv_ok {x a : Int} (h : absI x = a) (hx : x ≠ 0) : (x = a ∨ x = 0 - a) ∧ x.tdiv a = sgn x ∧ 0 < a := by
  have h0 : 0 < a := by unfold absI at h; omega
  have h1 : x = a ∨ x = 0 - a := by unfold absI at h; omega
  refine ⟨h1, ?_, h0⟩
  rcases h1 with rfl | rfl
  · rw [Int.tdiv_self (by omega)]; unfold sgn; rw [if_neg (by omega)]
  · rw [Int.zero_sub, Int.neg_tdiv, Int.tdiv_self (by omega)]; unfold sgn; rw [if_pos (by omega)]
theorem odP_all {p : Pz} {w : List Int} (hp : isPz p) (hw : isW p.m.length w) : ∀ x ∈ w, 0 < odP p (absI x) := fun x hx => by
  obtain ⟨j, hj, rfl⟩ := mem_getD.1 hx
  have := hw.2 j hj
  refine (odP_ok hp ?_).2.1
  unfold isL at this; unfold absI; omega
theorem sgn_in (x : Int) : -1 ≤ sgn x ∧ sgn x ≤ 1 := by unfold sgn; split <;> omega
theorem isW_wide' {m : Int} {w : List Int} (h : isW m w) : isW 8 w := ⟨h.1, fun j hj => by have := h.2 j hj; unfold isL at *; omega⟩
end Go.Proofs.YticbabpajligbaaDoor
end
/- SimplifyWord, both texts. -/
section
namespace Go.Proofs.YticbabpajligbaaDoor
open Go.Av
set_option linter.unusedSimpArgs false
set_option linter.unusedVariables false
attribute [local irreducible] AWP CallG Ob Br BrP Go.Av.Sub endQ AOps OpV AC thenA blkA opsVC opVC withA withArgs opsQ opQ CallQ withA2 withArgs2
open Go.Pm (Pm comp invp idn img ord)
open Go.Wd (sres lets sumS sgn absI shortR shortK short runs offs smp SW mu)
/-- What SimplifyWord answers. -/
def simW (p : Pz) (w : List Int) : List Int := if isPz p ∧ isW p.m.length w then smp (odP p) w else []
theorem sw_of {p : Pz} {w : List Int} (hp : isPz p) (hw : isW p.m.length w) : SW (odP p) w :=
  ⟨fun x hx => by
    obtain ⟨j, hj, rfl⟩ := mem_getD.1 hx
    exact (hw.2 j hj).1, odP_all hp hw, hw.1⟩
theorem isW_short {p : Pz} {w : List Int} (hp : isPz p) (hw : isW p.m.length w) : isW p.m.length (short (odP p) w) := ⟨(sw_of hp hw).short.1.len, fun j hj => by
  obtain ⟨y, hy, e, h0⟩ := Go.Wd.mem_short (sw_of hp hw).nz (mem_getD.2 ⟨j, hj, rfl⟩)
  obtain ⟨i, hi, rfl⟩ := mem_getD.1 hy
  have := hw.2 i hi
  unfold absI at e
  unfold isL at this ⊢
  omega⟩
theorem runs_smB (v : List Int) : Go.Wd.runsK smB v v.length = runs absI v := by
  have e : smB = Go.Wd.kf absI := by
    funext a b
    unfold smB Go.Wd.kf absI
    exact decide_eq_decide.2 (by omega)
  rw [e]; rfl
set_option maxHeartbeats 8000000 in
theorem implSimplify_ok (p : Pz) (w : List Int) (hp : isPz p) (hw : isW p.m.length w) (d : Nat) : AC Tryd.prog 67 [pz p, ints w] Hp.emp (fun _ => false) (retI d (smp (odP p) w)) := by
  refine ac_of_awp (N := ⟨_, fun _ => false, fun _ _ => rfl, true⟩) Tryd.func67 rfl (by kernel_rfl) Tryd.ntmps67 (by simp) ?_
  simp only [argsFr, List.zipIdx_cons, List.zipIdx_nil, go_sem]
  repeat' (first | refine awp_seqK fun K hK => ?_ | (refine awp_regionK 18014400522873783 rfl ?_; simp only [List.map_cons, List.map_nil]; simp (maxSteps := 1000000) (dsimp := false) (implicitDefEqProofs := false) (disch := omega) only [wrap64, go_sem]) | (refine awp_regionQK 18014400522873783 (by kernel_rfl) (by kernel_rfl) (by kernel_rfl) ?_; simp only [List.map_cons, List.map_nil]; simp (maxSteps := 1000000) (dsimp := false) (implicitDefEqProofs := false) (disch := omega) only [wrap64, go_sem]) | refine awp_block ?_ | (refine awp_skip ?_; simp only [go_sem]) | (refine awp_exit ?_; simp only [go_sem]) | (refine awp_ret ?_; try simp only [go_sem]) | (refine awp_condP rfl ?_; try simp only [go_sem]) | (refine BrP.mk (fun h => ?_) (fun h => ?_) <;> try simp (dsimp := false) (disch := omega) only [wrap64]) | (refine Br.mk (fun h => ?_) (fun h => ?_) <;> try simp (dsimp := false) (disch := omega) only [wrap64]) | refine Ob.mk (by first | omega | (intro _ _; rfl) | trivial | (intros; trivial) | assumption | (intro i hi; have h0 : i = 0 := (by omega); subst h0; first | rfl | trivial) | (intro i hi; have h0 : i = 0 ∨ i = 1 := (by omega); rcases h0 with rfl | rfl <;> rfl) | (intro i hi; have h0 : i = 0 ∨ i = 1 ∨ i = 2 := (by omega); rcases h0 with rfl | rfl | rfl <;> rfl)) ?_ | apply_assumption -exfalso -symm)
  all_goals (first | (show endQ _ _ _ _ _ _ _; (repeat (rename (∀ (A : Fr) (H : Hp), AWP _ _ _ _ A H → _) => hK; clear hK)); (repeat (rename (Fr → Hp → Prop) => K; clear K))) | (show Exists _; (repeat (rename (∀ (A : Fr) (H : Hp), AWP _ _ _ _ A H → _) => hK; clear hK)); (repeat (rename (Fr → Hp → Prop) => K; clear K))) | skip)
  refine awp_loop (ι := List Int) (fun v => [(2, .ref 2 0), (1, .list false 1 (v).length (cM iv 0 (v)))]) (fun v => Hp.emp.upd 2 (.cells 3 (vecF [.v (.int .i64 p.n), .v (.string p.s), .list false 1 (p.m).length (cM ints [] (p.m))]))) (fun v => isW p.m.length v ∧ smp (odP p) v = smp (odP p) w) mu w ⟨hw, rfl⟩ (Sub.toL (by simp only [go_sem] <;> first | trivial | (simp only [Option.some.injEq, AV.v.injEq, AV.own.injEq, AV.list.injEq, Value.int.injEq, Value.bool.injEq, true_and, and_true]; first | omega | (simp; done)) | (simp; done) | (simp; omega)) (by (repeat' (first | exact Hp.le_emp _ | exact Hp.le_refl _ | refine Hp.le_upd ?_ ?_)); all_goals (first | rfl | (simp only [go_sem]; first | rfl | (refine cellsE ?_ ?_ <;> (simp)) | (simp))))) ?_
  rintro v ⟨hv, hsm⟩
  have hvl := hv.1
  have hvb := isW_bd (isW_wide' hv)
  have hrs := runs_smB v
  have hRf := Go.Wd.runs_flat absI v
  repeat' (first | refine awp_seqK fun K hK => ?_ | (refine awp_regionK 18014400522873783 rfl ?_; simp only [List.map_cons, List.map_nil]; simp (maxSteps := 1000000) (dsimp := false) (implicitDefEqProofs := false) (disch := omega) only [wrap64, go_sem, hrs]) | (refine awp_regionQK 18014400522873783 (by kernel_rfl) (by kernel_rfl) (by kernel_rfl) ?_; simp only [List.map_cons, List.map_nil]; simp (maxSteps := 1000000) (dsimp := false) (implicitDefEqProofs := false) (disch := omega) only [wrap64, go_sem, hrs]) | refine awp_block ?_ | (refine awp_skip ?_; simp only [go_sem, hrs]) | (refine awp_exit ?_; simp only [go_sem, hrs]) | (refine awp_ret ?_; try simp only [go_sem, hrs]) | (refine awp_condP rfl ?_; try simp only [go_sem, hrs]) | (refine BrP.mk (fun h => ?_) (fun h => ?_) <;> try simp (dsimp := false) (disch := omega) only [wrap64]) | (refine Br.mk (fun h => ?_) (fun h => ?_) <;> try simp (dsimp := false) (disch := omega) only [wrap64]) | refine Ob.mk (by first | omega | (intro _ _; rfl) | trivial | (intros; trivial) | assumption | (intro i hi; have h0 : i = 0 := (by omega); subst h0; first | rfl | trivial) | (intro i hi; have h0 : i = 0 ∨ i = 1 := (by omega); rcases h0 with rfl | rfl <;> rfl) | (intro i hi; have h0 : i = 0 ∨ i = 1 ∨ i = 2 := (by omega); rcases h0 with rfl | rfl | rfl <;> rfl)) ?_ | ((first | ((first | refine atF (f := 39) ?_ | refine atQ (f := 39) ?_); (first | (refine cR (hac := runs_okA v _ smB (by omega) (fun i j hi hj => sameMove_ok _ _ (hvb j))) (hK := ?_)) | (refine cQR (hac := runs_okA v _ smB (by omega) (fun i j hi hj => sameMove_ok _ _ (hvb j))) (hK := ?_))))); simp (maxSteps := 1000000) (dsimp := false) (implicitDefEqProofs := false) (disch := omega) only [wrap64, go_sem, hrs]) | apply_assumption -exfalso -symm)
  all_goals (first | (show endQ _ _ _ _ _ _ _; (repeat (rename (∀ (A : Fr) (H : Hp), AWP _ _ _ _ A H → _) => hK; clear hK)); (repeat (rename (Fr → Hp → Prop) => K; clear K))) | (show Exists _; (repeat (rename (∀ (A : Fr) (H : Hp), AWP _ _ _ _ A H → _) => hK; clear hK)); (repeat (rename (Fr → Hp → Prop) => K; clear K))) | skip)
  have hk0 : shortK (odP p) v 0 = [] := by simp [shortK]
  refine awp_loop (ι := Nat) (fun j => [(15, .v (.int .i64 ((j : Nat)))), (14, .v (.int .i64 ((runs absI v).length))), (13, .list false 1 (runs absI v).length (cM ints [] (runs absI v))), (5, .own 70 0 1 (shortK (odP p) v j).length), (2, .ref 2 0), (1, .list false 1 (v).length (cM iv 0 (v)))]) (fun j => (Hp.emp.upd 2 (.cells 3 (vecF [.v (.int .i64 p.n), .v (.string p.s), .list false 1 (p.m).length (cM ints [] (p.m))]))).upd 70 (.cells (shortK (odP p) v j).length (cM iv 0 (shortK (odP p) v j)))) (fun j => j ≤ (runs absI v).length) (fun j => (runs absI v).length - j) 0 (Nat.zero_le _) (Sub.trans (Sub.nil (i := 5) 70 1 (cM iv 0 []) rfl rfl) (Sub.toL (by simp only [go_sem] <;> first | trivial | (simp only [Option.some.injEq, AV.v.injEq, AV.own.injEq, AV.list.injEq, Value.int.injEq, Value.bool.injEq, true_and, and_true]; first | omega | (simp [hk0]; done)) | (simp [hk0]; done) | (simp [hk0]; omega)) (Hp.le_upd (by rw [hk0]; rfl) (Hp.le_upd (by simp only [go_sem]) (Hp.le_emp _))))) ?_
  intro j hj
  have hRl : (runs absI v).length ≤ 200 := by
    have := Go.Wd.runN_le (Go.Wd.kf absI) v v.length
    unfold runs; rw [Go.Wd.runsK_len]; omega
  have hbl : (shortK (odP p) v j).length ≤ 200 := by
    have h1 := Go.Wd.shortK_len (od := odP p) (w := v) (odP_all hp hv) j hj
    have h2 : offs (runs absI v) j ≤ v.length := by
      rcases Nat.lt_or_ge j (runs absI v).length with h | h
      · have := Go.Wd.offs_mono h; omega
      · have e : j = (runs absI v).length := by omega
        rw [e, Go.Wd.offs_all, hRf]; exact Nat.le_refl _
    omega
  have hq := fun h : j < (runs absI v).length => Go.Wd.run_end h
  have q6 := fun h : j < (runs absI v).length => Go.Wd.shortK_succ (odP p) v h
  obtain ⟨r, er⟩ : ∃ r, r = (runs absI v).getD j [] := ⟨_, rfl⟩
  have hr : j < (runs absI v).length → 0 < r.length ∧ r.length ≤ 200 ∧ (-8 ≤ r.getD 0 0 ∧ r.getD 0 0 ≤ 8) ∧ isL p.m.length (r.getD 0 0) := fun h => by
    obtain ⟨q1, _, q3⟩ := hq h
    have := Go.Wd.offs_le h
    rw [hRf] at this
    have h0 := q1 0 q3
    have hb := hv.2 _ h0.1
    rw [h0.2.1] at hb
    rw [er]
    exact ⟨q3, by omega, hb.2.1, hb⟩
  have hri : ∀ i, j < (runs absI v).length → i < r.length → r.getD i 0 ≠ 0 ∧ (-8 ≤ r.getD i 0 ∧ r.getD i 0 ≤ 8) ∧ absI (r.getD i 0) = absI (r.getD 0 0) := fun i h hi => by
    obtain ⟨q1, _, q3⟩ := hq h
    rw [er] at hi
    have h0 := q1 0 q3
    have h1 := q1 i hi
    have hb := hv.2 _ h1.1
    rw [h1.2.1] at hb
    have e := h1.2.2
    rw [h1.2.1] at e
    rw [er, e]
    refine ⟨hb.1, hb.2.1, ?_⟩
    rw [← h0.2.1, Nat.add_zero]
  repeat' (first | refine awp_seqK fun K hK => ?_ | (refine awp_regionK 18014400522873783 rfl ?_; simp only [List.map_cons, List.map_nil]; simp (maxSteps := 1000000) (dsimp := false) (implicitDefEqProofs := false) (disch := omega) only [wrap64, go_sem, ← er, Int.toNat_zero]) | (refine awp_regionQK 18014400522873783 (by kernel_rfl) (by kernel_rfl) (by kernel_rfl) ?_; simp only [List.map_cons, List.map_nil]; simp (maxSteps := 1000000) (dsimp := false) (implicitDefEqProofs := false) (disch := omega) only [wrap64, go_sem, ← er, Int.toNat_zero]) | refine awp_block ?_ | (refine awp_skip ?_; simp only [go_sem, ← er, Int.toNat_zero]) | (refine awp_exit ?_; simp only [go_sem, ← er, Int.toNat_zero]) | (refine awp_ret ?_; try simp only [go_sem, ← er, Int.toNat_zero]) | (refine awp_condP rfl ?_; try simp only [go_sem, ← er, Int.toNat_zero]) | (refine BrP.mk (fun h => ?_) (fun h => ?_) <;> try simp (dsimp := false) (disch := omega) only [wrap64]) | (refine Br.mk (fun h => ?_) (fun h => ?_) <;> try simp (dsimp := false) (disch := omega) only [wrap64]) | refine Ob.mk (by first | omega | (intro _ _; rfl) | trivial | (intros; trivial) | assumption | (intro i hi; have h0 : i = 0 := (by omega); subst h0; first | rfl | trivial) | (intro i hi; have h0 : i = 0 ∨ i = 1 := (by omega); rcases h0 with rfl | rfl <;> rfl) | (intro i hi; have h0 : i = 0 ∨ i = 1 ∨ i = 2 := (by omega); rcases h0 with rfl | rfl | rfl <;> rfl)) ?_ | ((first | ((first | refine atF (f := 55) ?_ | refine atQ (f := 55) ?_); (first | (refine cV (hac := slicesEqual_ok (shortK (odP p) v j) v (by omega)) (hK := ?_)) | (refine cQV (hac := slicesEqual_ok (shortK (odP p) v j) v (by omega)) (hK := ?_))))); simp (maxSteps := 1000000) (dsimp := false) (implicitDefEqProofs := false) (disch := omega) only [wrap64, go_sem, ← er, Int.toNat_zero]) | apply_assumption -exfalso -symm)
  all_goals (first | (show endQ _ _ _ _ _ _ _; (repeat (rename (∀ (A : Fr) (H : Hp), AWP _ _ _ _ A H → _) => hK; clear hK)); (repeat (rename (Fr → Hp → Prop) => K; clear K))) | (show Exists _; (repeat (rename (∀ (A : Fr) (H : Hp), AWP _ _ _ _ A H → _) => hK; clear hK)); (repeat (rename (Fr → Hp → Prop) => K; clear K))) | skip)
  · have hjl : j < (runs absI v).length := by omega
    obtain ⟨hr1, hr2, hr3, hr4⟩ := hr hjl
    have q6a := q6 hjl
    rw [← er] at q6a
    obtain ⟨a, ea⟩ : ∃ a, a = absI (r.getD 0 0) := ⟨_, rfl⟩
    have em : max (r.getD 0 0) (0 - r.getD 0 0) = a := by rw [ea]; unfold absI; omega
    have ha : 1 ≤ a ∧ a ≤ p.m.length := by
      rw [ea]; unfold isL at hr4; unfold absI; omega
    have ha8 : a ≤ 8 := by rw [ea]; unfold absI; omega
    rw [em]
    obtain ⟨hpm, ho1, ho2⟩ := odP_ok hp ha
    have hpo := (isPerm_pm _).1 hpm
    have q7 : shortK (odP p) v (j + 1) = shortK (odP p) v j ++ lets a (sres (sumS r) (odP p a)) := by rw [q6a]; unfold shortR; rw [← ea]
    obtain ⟨base, eb⟩ : ∃ base, base = shortK (odP p) v j := ⟨_, rfl⟩
    rw [← eb] at q7 hbl ⊢
    refine awp_loop (ι := Nat) (fun i => [(29, .v (.int .i64 ((i : Nat)))), (28, .v (.int .i64 (r.length))), (27, .list false 1 (r).length (cM iv 0 (r))), (9, .v (.int .i64 (sumS (r.take i)))), (8, .v (.int .i64 (a))), (15, .v (.int .i64 ((j : Nat)))), (14, .v (.int .i64 ((runs absI v).length))), (13, .list false 1 (runs absI v).length (cM ints [] (runs absI v))), (5, .own 70 0 1 base.length), (2, .ref 2 0), (1, .list false 1 (v).length (cM iv 0 (v)))]) (fun i => (Hp.emp.upd 2 (.cells 3 (vecF [.v (.int .i64 p.n), .v (.string p.s), .list false 1 (p.m).length (cM ints [] (p.m))]))).upd 70 (.cells base.length (cM iv 0 base))) (fun i => i ≤ r.length) (fun i => r.length - i) 0 (Nat.zero_le _) (Sub.toL (by simp only [go_sem] <;> first | trivial | (simp only [Option.some.injEq, AV.v.injEq, AV.own.injEq, AV.list.injEq, Value.int.injEq, Value.bool.injEq, true_and, and_true]; first | omega | (simp [sumS]; done)) | (simp [sumS]; done) | (simp [sumS]; omega)) (by (repeat' (first | exact Hp.le_emp _ | exact Hp.le_refl _ | refine Hp.le_upd ?_ ?_)); all_goals (first | rfl | (simp only [go_sem]; first | rfl | (refine cellsE ?_ ?_ <;> (simp)) | (simp))))) ?_
    intro i hi
    have hsb := Go.Wd.sumS_bd r i
    have hin : i < r.length → (r.getD i 0).tdiv a = sgn (r.getD i 0) ∧ sumS (r.take (i + 1)) = sumS (r.take i) + sgn (r.getD i 0) := fun h => by
      obtain ⟨k1, k2, k3⟩ := hri i hjl h
      exact ⟨(mv_ok (x := r.getD i 0) (a := a) (by rw [ea]; exact k3) k1).2.1, Go.Wd.sumS_take h⟩
    have hsg := sgn_in (r.getD i 0)
    obtain ⟨x, ex⟩ : ∃ x, x = r.getD i 0 := ⟨_, rfl⟩
    have hxb : i < r.length → -8 ≤ x ∧ x ≤ 8 := fun h => by rw [ex]; exact (hri i hjl h).2.1
    rw [← ex] at hin hsg
    have ex' := ex.symm
    obtain ⟨u, eu⟩ : ∃ u, u = sumS (r.take i) := ⟨_, rfl⟩
    rw [← eu] at hsb hin ⊢
    clear hri hq q6 hr
    have hll : (lets a (sres u (odP p a))).length ≤ 200 := by
      rw [Go.Wd.lets_len]
      have := (Go.Wd.sres_ok (k := u) (d := odP p a) (by omega)).1
      omega
    obtain ⟨y, ey⟩ : ∃ y, y = lets a (sres u (odP p a)) := ⟨_, rfl⟩
    have hsr := shortestRun_ok a u (odP p a) (by omega) (by omega) (by omega) 60
    rw [← ey] at hll hsr
    have hap := apF_cM iv 0 base y
    repeat' (first | refine awp_seqK fun K hK => ?_ | (refine awp_regionK 18014400522873783 rfl ?_; simp only [List.map_cons, List.map_nil]; simp (maxSteps := 1000000) (dsimp := false) (implicitDefEqProofs := false) (disch := omega) only [wrap64, go_sem, ex', Nat.le_refl]) | (refine awp_regionQK 18014400522873783 (by kernel_rfl) (by kernel_rfl) (by kernel_rfl) ?_; simp only [List.map_cons, List.map_nil]; simp (maxSteps := 1000000) (dsimp := false) (implicitDefEqProofs := false) (disch := omega) only [wrap64, go_sem, ex', Nat.le_refl]) | refine awp_block ?_ | (refine awp_skip ?_; simp only [go_sem, ex', Nat.le_refl]) | (refine awp_exit ?_; simp only [go_sem, ex', Nat.le_refl]) | (refine awp_ret ?_; try simp only [go_sem, ex', Nat.le_refl]) | (refine awp_condP rfl ?_; try simp only [go_sem, ex', Nat.le_refl]) | (refine BrP.mk (fun h => ?_) (fun h => ?_) <;> try simp (dsimp := false) (disch := omega) only [wrap64]) | (refine Br.mk (fun h => ?_) (fun h => ?_) <;> try simp (dsimp := false) (disch := omega) only [wrap64]) | refine Ob.mk (by first | omega | (intro _ _; rfl) | trivial | (intros; trivial) | assumption | (intro i hi; have h0 : i = 0 := (by omega); subst h0; first | rfl | trivial) | (intro i hi; have h0 : i = 0 ∨ i = 1 := (by omega); rcases h0 with rfl | rfl <;> rfl) | (intro i hi; have h0 : i = 0 ∨ i = 1 ∨ i = 2 := (by omega); rcases h0 with rfl | rfl | rfl <;> rfl)) ?_ | ((first | ((first | refine atF (f := 89) ?_ | refine atQ (f := 89) ?_); (first | (refine cV (hac := implOrder_ok _ (p.m.getD (a - 1).toNat []) hpo.2 hpo.1.2) (hK := ?_)) | (refine cQV (hac := implOrder_ok _ (p.m.getD (a - 1).toNat []) hpo.2 hpo.1.2) (hK := ?_)))) | ((first | refine atF (f := 88) ?_ | refine atQ (f := 88) ?_); (refine cI (hac := hsr) (hK := ?_)))); simp (maxSteps := 1000000) (dsimp := false) (implicitDefEqProofs := false) (disch := omega) only [wrap64, go_sem, ex', Nat.le_refl]) | apply_assumption -exfalso -symm)
    all_goals (first | (show endQ _ _ _ _ _ _ _; (repeat (rename (∀ (A : Fr) (H : Hp), AWP _ _ _ _ A H → _) => hK; clear hK)); (repeat (rename (Fr → Hp → Prop) => K; clear K))) | (show Exists _; (repeat (rename (∀ (A : Fr) (H : Hp), AWP _ _ _ _ A H → _) => hK; clear hK)); (repeat (rename (Fr → Hp → Prop) => K; clear K))) | skip)
    · exact ⟨i + 1, by omega, by omega, Sub.toL (by simp only [go_sem] <;> first | trivial | (simp only [Option.some.injEq, AV.v.injEq, AV.own.injEq, AV.list.injEq, Value.int.injEq, Value.bool.injEq, true_and, and_true]; first | omega | (simp [hin (by omega)]; done)) | (simp [hin (by omega)]; done) | (simp [hin (by omega)]; omega)) (by (repeat' (first | exact Hp.le_emp _ | exact Hp.le_refl _ | refine Hp.le_upd ?_ ?_)); all_goals (first | rfl | (simp only [go_sem]; first | rfl | (refine cellsE ?_ ?_ <;> (simp)) | (simp))))⟩
    · have hir : i = r.length := by omega
      have eu2 : u = sumS r := by rw [eu, hir, List.take_length]
      have q8 : shortK (odP p) v (j + 1) = base ++ y := by rw [q7, ← eu2, ey]
      exact ⟨j + 1, by omega, by omega, Sub.toL (by simp only [go_sem] <;> first | trivial | (simp only [Option.some.injEq, AV.v.injEq, AV.own.injEq, AV.list.injEq, Value.int.injEq, Value.bool.injEq, true_and, and_true]; first | omega | (simp [q8]; done)) | (simp [q8]; done) | (simp [q8]; omega)) (by (repeat' (first | exact Hp.le_emp _ | exact Hp.le_refl _ | refine Hp.le_upd ?_ ?_)); all_goals (first | rfl | (simp only [go_sem]; first | rfl | (refine cellsE ?_ ?_ <;> (simp [q8, hap])) | (simp [q8, hap]))))⟩
  · have e : j = (runs absI v).length := by omega
    have e2 : shortK (odP p) v j = v := by assumption
    rw [e2, ← hsm]
    refine end_retI' rfl rfl rfl ?_ rfl rfl
    rw [Go.Wd.smp_stay]
    rw [← Go.Wd.shortK_all, ← e, e2]
  · have e : j = (runs absI v).length := by omega
    have e2 : shortK (odP p) v j ≠ v := by assumption
    rw [e, Go.Wd.shortK_all] at e2 ⊢
    exact ⟨short (odP p) v, ⟨isW_short hp hv, by rw [Go.Wd.smp_step (sw_of hp hv) e2, hsm]⟩, (sw_of hp hv).short.2 e2, Sub.toFF (fun x => x = 70) (Fr.fit_cons rfl (.refl _) (Fr.fit_cons rfl (fits_I rfl rfl rfl rfl) (Fr.fit_nil _))) (leF_upd rfl (.refl _ _ _) leF_emp (by omega))⟩
theorem implSimplifyWord_ok (p : Pz) (w : List Int) (hs : p.s.size ≤ 140737488355328) (d : Nat) : AC Tryd.prog 31 [pz p, ints w] Hp.emp (fun _ => false) (retI d (simW p w)) := by
  refine ac_of_awp (N := ⟨_, fun _ => false, fun _ _ => rfl, true⟩) Tryd.func31 rfl (by kernel_rfl) Tryd.ntmps31 (by simp) ?_
  simp only [argsFr, List.zipIdx_cons, List.zipIdx_nil, go_sem]
  repeat' (first | refine awp_seqK fun K hK => ?_ | (refine awp_regionK 8215 rfl ?_; simp only [List.map_cons, List.map_nil]; simp (maxSteps := 1000000) (dsimp := false) (implicitDefEqProofs := false) (disch := omega) only [wrap64, go_sem]) | (refine awp_regionQK 8215 (by kernel_rfl) (by kernel_rfl) (by kernel_rfl) ?_; simp only [List.map_cons, List.map_nil]; simp (maxSteps := 1000000) (dsimp := false) (implicitDefEqProofs := false) (disch := omega) only [wrap64, go_sem]) | refine awp_block ?_ | (refine awp_skip ?_; simp only [go_sem]) | (refine awp_exit ?_; simp only [go_sem]) | (refine awp_ret ?_; try simp only [go_sem]) | (refine awp_condP rfl ?_; try simp only [go_sem]) | (refine BrP.mk (fun h => ?_) (fun h => ?_) <;> try simp (dsimp := false) (disch := omega) only [wrap64]) | (refine Br.mk (fun h => ?_) (fun h => ?_) <;> try simp (dsimp := false) (disch := omega) only [wrap64]) | refine Ob.mk (by first | omega | (intro _ _; rfl) | trivial | (intros; trivial) | assumption | (intro i hi; have h0 : i = 0 := (by omega); subst h0; first | rfl | trivial) | (intro i hi; have h0 : i = 0 ∨ i = 1 := (by omega); rcases h0 with rfl | rfl <;> rfl) | (intro i hi; have h0 : i = 0 ∨ i = 1 ∨ i = 2 := (by omega); rcases h0 with rfl | rfl | rfl <;> rfl)) ?_ | ((first | ((first | refine atF (f := 65) ?_ | refine atQ (f := 65) ?_); (first | (refine cV (hac := implIsValidPuzzle_ok p hs) (hK := ?_)) | (refine cQV (hac := implIsValidPuzzle_ok p hs) (hK := ?_)))) | ((first | refine atF (f := 66) ?_ | refine atQ (f := 66) ?_); (first | (refine cV (hac := puzIsWord_ok p w) (hK := ?_)) | (refine cQV (hac := puzIsWord_ok p w) (hK := ?_)))) | ((first | refine atF (f := 67) ?_ | refine atQ (f := 67) ?_); (first | (refine cI (hac := implSimplify_ok p w (by assumption) (by assumption) 30) (hK := ?_)) | (refine cQI (hac := implSimplify_ok p w (by assumption) (by assumption) 30) (hK := ?_))))); simp (maxSteps := 1000000) (dsimp := false) (implicitDefEqProofs := false) (disch := omega) only [wrap64, go_sem]) | apply_assumption -exfalso -symm)
  all_goals (first | (show endQ _ _ _ _ _ _ _; (repeat (rename (∀ (A : Fr) (H : Hp), AWP _ _ _ _ A H → _) => hK; clear hK)); (repeat (rename (Fr → Hp → Prop) => K; clear K))) | (show Exists _; (repeat (rename (∀ (A : Fr) (H : Hp), AWP _ _ _ _ A H → _) => hK; clear hK)); (repeat (rename (Fr → Hp → Prop) => K; clear K))) | skip)
  all_goals
    (first | refine end_retI' rfl rfl rfl ?_ rfl rfl | refine end_retI_nil' rfl rfl ?_ rfl)
    unfold simW
    first
    | (rw [if_pos ⟨by assumption, by assumption⟩]; done)
    | (rw [if_neg (by rintro ⟨h1, h2⟩; contradiction)]; done)
    | (rw [if_neg (by rintro ⟨h1, h2⟩; contradiction)]; rfl)
end Go.Proofs.YticbabpajligbaaDoor
end
/- Words one behind the other: both texts. -/
section
namespace Go.Proofs.YticbabpajligbaaDoor
open Go.Av
set_option linter.unusedSimpArgs false
set_option linter.unusedVariables false
attribute [local irreducible] AWP CallG Ob Br BrP Go.Av.Sub endQ AOps OpV AC thenA blkA opsVC opVC withA withArgs opsQ opQ CallQ withA2 withArgs2
theorem fits_lit {H : Hp} {D : Nat → Prop} {h n : Nat} {xs : List (List Int)} {f : Nat → AV} (hH : H h = some (.cells n f)) (hD : D h) (hn : n = xs.length) (hf : ∀ i, i < n → Fits H D (f i) (ints (xs.getD i []))) : Fits H D (.own h 0 1 n) (intss xs) := by
  subst hn
  refine .own hH hD (by omega) (fun i hi => trivial) fun i hi => ?_
  rw [Nat.zero_add]
  exact hf i (by omega)
theorem fits_lit3 {H : Hp} {D : Nat → Prop} {h : Nat} {a b c : List Int} {z : Nat → AV} (hH : H h = some (.cells 3 (setF (setF (setF z 0 (ints a)) 1 (ints b)) 2 (ints c)))) (hD : D h) : Fits H D (.own h 0 1 3) (intss [a, b, c]) :=
  fits_lit hH hD rfl fun i hi => by
    match i, hi with
    | 0, _ => exact .refl _
    | 1, _ => exact .refl _
    | 2, _ => exact .refl _
theorem fits_lit4 {H : Hp} {D : Nat → Prop} {h : Nat} {a b c e : List Int} {z : Nat → AV} (hH : H h = some (.cells 4 (setF (setF (setF (setF z 0 (ints a)) 1 (ints b)) 2 (ints c)) 3 (ints e)))) (hD : D h) : Fits H D (.own h 0 1 4) (intss [a, b, c, e]) :=
  fits_lit hH hD rfl fun i hi => by
    match i, hi with
    | 0, _ => exact .refl _
    | 1, _ => exact .refl _
    | 2, _ => exact .refl _
    | 3, _ => exact .refl _
theorem sliceGrow_ok (n : Nat) (hn : n ≤ 1048576) (d : Nat) : AC Tryd.prog 119 [.v (.slice none 0 0), .v (.int .i64 (n))] Hp.emp (fun _ => false) (retI d []) := by
  refine ac_of_awp (N := ⟨_, fun _ => false, fun _ _ => rfl, true⟩) Tryd.func119 rfl (by kernel_rfl) Tryd.ntmps119 (by simp) ?_
  simp only [argsFr, List.zipIdx_cons, List.zipIdx_nil, go_sem]
  repeat' (first | refine awp_seqK fun K hK => ?_ | (refine awp_regionK 65619 rfl ?_; simp only [List.map_cons, List.map_nil]; simp (maxSteps := 1000000) (dsimp := false) (implicitDefEqProofs := false) (disch := omega) only [wrap64, go_sem]) | (refine awp_regionQK 65619 (by kernel_rfl) (by kernel_rfl) (by kernel_rfl) ?_; simp only [List.map_cons, List.map_nil]; simp (maxSteps := 1000000) (dsimp := false) (implicitDefEqProofs := false) (disch := omega) only [wrap64, go_sem]) | refine awp_block ?_ | (refine awp_skip ?_; simp only [go_sem]) | (refine awp_exit ?_; simp only [go_sem]) | (refine awp_ret ?_; try simp only [go_sem]) | (refine awp_condP rfl ?_; try simp only [go_sem]) | (refine BrP.mk (fun h => ?_) (fun h => ?_) <;> try simp (dsimp := false) (disch := omega) only [wrap64]) | (refine Br.mk (fun h => ?_) (fun h => ?_) <;> try simp (dsimp := false) (disch := omega) only [wrap64]) | refine Ob.mk (by first | omega | (intro _ _; rfl) | trivial | (intros; trivial) | assumption | (intro i hi; have h0 : i = 0 := (by omega); subst h0; first | rfl | trivial) | (intro i hi; have h0 : i = 0 ∨ i = 1 := (by omega); rcases h0 with rfl | rfl <;> rfl) | (intro i hi; have h0 : i = 0 ∨ i = 1 ∨ i = 2 := (by omega); rcases h0 with rfl | rfl | rfl <;> rfl)) ?_ | apply_assumption -exfalso -symm)
  all_goals (first | (show endQ _ _ _ _ _ _ _; (repeat (rename (∀ (A : Fr) (H : Hp), AWP _ _ _ _ A H → _) => hK; clear hK)); (repeat (rename (Fr → Hp → Prop) => K; clear K))) | (show Exists _; (repeat (rename (∀ (A : Fr) (H : Hp), AWP _ _ _ _ A H → _) => hK; clear hK)); (repeat (rename (Fr → Hp → Prop) => K; clear K))) | skip)
  · omega
  · exact endQ_sub ((Sub.shrink (h := 22) (m := 0) rfl (by omega)).trans (Sub.cells (f' := cM iv 0 []) (fun i h => absurd h (by omega)))) (end_retI (m := 0) (h := 22) (xs := []) rfl rfl rfl rfl rfl)
  · exact end_retI_nil rfl rfl rfl
theorem flat_take (ws : List (List Int)) (k : Nat) : (ws.take k).flatten.length ≤ ws.flatten.length := by
  conv => rhs; rw [← List.take_append_drop k ws, List.flatten_append, List.length_append]
  omega
theorem flat_snoc (ws : List (List Int)) (k : Nat) (h : k < ws.length) : (ws.take (k + 1)).flatten = (ws.take k).flatten ++ ws.getD k [] := by
  rw [List.take_add_one, List.flatten_append, List.getD_eq_getElem?_getD, List.getElem?_eq_getElem h]
  simp
theorem sliceConcat_ok (ws : List (List Int)) (hl : ws.length ≤ 1048576) (ht : ws.flatten.length ≤ 1048576) (d : Nat) : AC Tryd.prog 100 [intss ws] Hp.emp (fun _ => false) (retI d ws.flatten) := by
  refine ac_of_awp (N := ⟨_, fun _ => false, fun _ _ => rfl, true⟩) Tryd.func100 rfl (by kernel_rfl) Tryd.ntmps100 (by simp) ?_
  simp only [argsFr, List.zipIdx_cons, List.zipIdx_nil, go_sem]
  repeat' (first | refine awp_seqK fun K hK => ?_ | (refine awp_regionK 504373101 rfl ?_; simp only [List.map_cons, List.map_nil]; simp (maxSteps := 1000000) (dsimp := false) (implicitDefEqProofs := false) (disch := omega) only [wrap64, go_sem]) | (refine awp_regionQK 504373101 (by kernel_rfl) (by kernel_rfl) (by kernel_rfl) ?_; simp only [List.map_cons, List.map_nil]; simp (maxSteps := 1000000) (dsimp := false) (implicitDefEqProofs := false) (disch := omega) only [wrap64, go_sem]) | refine awp_block ?_ | (refine awp_skip ?_; simp only [go_sem]) | (refine awp_exit ?_; simp only [go_sem]) | (refine awp_ret ?_; try simp only [go_sem]) | (refine awp_condP rfl ?_; try simp only [go_sem]) | (refine BrP.mk (fun h => ?_) (fun h => ?_) <;> try simp (dsimp := false) (disch := omega) only [wrap64]) | (refine Br.mk (fun h => ?_) (fun h => ?_) <;> try simp (dsimp := false) (disch := omega) only [wrap64]) | refine Ob.mk (by first | omega | (intro _ _; rfl) | trivial | (intros; trivial) | assumption | (intro i hi; have h0 : i = 0 := (by omega); subst h0; first | rfl | trivial) | (intro i hi; have h0 : i = 0 ∨ i = 1 := (by omega); rcases h0 with rfl | rfl <;> rfl) | (intro i hi; have h0 : i = 0 ∨ i = 1 ∨ i = 2 := (by omega); rcases h0 with rfl | rfl | rfl <;> rfl)) ?_ | apply_assumption -exfalso -symm)
  all_goals (first | (show endQ _ _ _ _ _ _ _; (repeat (rename (∀ (A : Fr) (H : Hp), AWP _ _ _ _ A H → _) => hK; clear hK)); (repeat (rename (Fr → Hp → Prop) => K; clear K))) | (show Exists _; (repeat (rename (∀ (A : Fr) (H : Hp), AWP _ _ _ _ A H → _) => hK; clear hK)); (repeat (rename (Fr → Hp → Prop) => K; clear K))) | skip)
  refine awp_loop (ι := Nat) (fun k => [(11, .v (.int .i64 (k))), (10, .v (.int .i64 (ws.length))), (9, .list false 1 (ws).length (cM ints [] (ws))), (0, .list false 1 (ws).length (cM ints [] (ws))), (3, .v (.int .i64 (((ws.take k).flatten.length : Nat))))]) (fun k => Hp.emp) (fun k => k ≤ ws.length) (fun k => ws.length - k) 0 ?_ (Sub.toL (by simp only [go_sem] <;> first | trivial | (simp only [Option.some.injEq, AV.v.injEq, AV.own.injEq, AV.list.injEq, Value.int.injEq, Value.bool.injEq, true_and, and_true]; first | omega | (simp; done)) | (simp; done) | (simp; omega)) (by (repeat' (first | exact Hp.le_emp _ | exact Hp.le_refl _ | refine Hp.le_upd ?_ ?_)); all_goals (first | rfl | (simp only [go_sem]; first | rfl | (refine cellsE ?_ ?_ <;> (simp)) | (simp))))) ?_
  · exact Nat.zero_le _
  · intro k hk
    have h1 := flat_take ws k
    have h2 := flat_take ws (k + 1)
    have h3 := fun h => congrArg List.length (flat_snoc ws k h)
    simp only [List.length_append] at h3
    repeat' (first | refine awp_seqK fun K hK => ?_ | (refine awp_regionK 504373101 rfl ?_; simp only [List.map_cons, List.map_nil]; simp (maxSteps := 1000000) (dsimp := false) (implicitDefEqProofs := false) (disch := omega) only [wrap64, go_sem]) | (refine awp_regionQK 504373101 (by kernel_rfl) (by kernel_rfl) (by kernel_rfl) ?_; simp only [List.map_cons, List.map_nil]; simp (maxSteps := 1000000) (dsimp := false) (implicitDefEqProofs := false) (disch := omega) only [wrap64, go_sem]) | refine awp_block ?_ | (refine awp_skip ?_; simp only [go_sem]) | (refine awp_exit ?_; simp only [go_sem]) | (refine awp_ret ?_; try simp only [go_sem]) | (refine awp_condP rfl ?_; try simp only [go_sem]) | (refine BrP.mk (fun h => ?_) (fun h => ?_) <;> try simp (dsimp := false) (disch := omega) only [wrap64]) | (refine Br.mk (fun h => ?_) (fun h => ?_) <;> try simp (dsimp := false) (disch := omega) only [wrap64]) | refine Ob.mk (by first | omega | (intro _ _; rfl) | trivial | (intros; trivial) | assumption | (intro i hi; have h0 : i = 0 := (by omega); subst h0; first | rfl | trivial) | (intro i hi; have h0 : i = 0 ∨ i = 1 := (by omega); rcases h0 with rfl | rfl <;> rfl) | (intro i hi; have h0 : i = 0 ∨ i = 1 ∨ i = 2 := (by omega); rcases h0 with rfl | rfl | rfl <;> rfl)) ?_ | apply_assumption -exfalso -symm)
    all_goals (first | (show endQ _ _ _ _ _ _ _; (repeat (rename (∀ (A : Fr) (H : Hp), AWP _ _ _ _ A H → _) => hK; clear hK)); (repeat (rename (Fr → Hp → Prop) => K; clear K))) | (show Exists _; (repeat (rename (∀ (A : Fr) (H : Hp), AWP _ _ _ _ A H → _) => hK; clear hK)); (repeat (rename (Fr → Hp → Prop) => K; clear K))) | skip)
    · omega
    · exact ⟨k + 1, by omega, by omega, Sub.toL (by simp only [go_sem] <;> first | trivial | (simp only [Option.some.injEq, AV.v.injEq, AV.own.injEq, AV.list.injEq, Value.int.injEq, Value.bool.injEq, true_and, and_true]; first | omega | (simp; done)) | (simp; done) | (simp; omega)) (Hp.le_refl _)⟩
    · have e : k = ws.length := by omega
      subst e
      rw [List.take_length]
      repeat' (first | refine awp_seqK fun K hK => ?_ | (refine awp_regionK 504373101 rfl ?_; simp only [List.map_cons, List.map_nil]; simp (maxSteps := 1000000) (dsimp := false) (implicitDefEqProofs := false) (disch := omega) only [wrap64, go_sem]) | (refine awp_regionQK 504373101 (by kernel_rfl) (by kernel_rfl) (by kernel_rfl) ?_; simp only [List.map_cons, List.map_nil]; simp (maxSteps := 1000000) (dsimp := false) (implicitDefEqProofs := false) (disch := omega) only [wrap64, go_sem]) | refine awp_block ?_ | (refine awp_skip ?_; simp only [go_sem]) | (refine awp_exit ?_; simp only [go_sem]) | (refine awp_ret ?_; try simp only [go_sem]) | (refine awp_condP rfl ?_; try simp only [go_sem]) | (refine BrP.mk (fun h => ?_) (fun h => ?_) <;> try simp (dsimp := false) (disch := omega) only [wrap64]) | (refine Br.mk (fun h => ?_) (fun h => ?_) <;> try simp (dsimp := false) (disch := omega) only [wrap64]) | refine Ob.mk (by first | omega | (intro _ _; rfl) | trivial | (intros; trivial) | assumption | (intro i hi; have h0 : i = 0 := (by omega); subst h0; first | rfl | trivial) | (intro i hi; have h0 : i = 0 ∨ i = 1 := (by omega); rcases h0 with rfl | rfl <;> rfl) | (intro i hi; have h0 : i = 0 ∨ i = 1 ∨ i = 2 := (by omega); rcases h0 with rfl | rfl | rfl <;> rfl)) ?_ | ((first | ((first | refine atF (f := 119) ?_ | refine atQ (f := 119) ?_); (first | (refine cI (hac := sliceGrow_ok ws.flatten.length ht 40) (hK := ?_)) | (refine cQI (hac := sliceGrow_ok ws.flatten.length ht 40) (hK := ?_))))); simp (maxSteps := 1000000) (dsimp := false) (implicitDefEqProofs := false) (disch := omega) only [wrap64, go_sem]) | apply_assumption -exfalso -symm)
      all_goals (first | (show endQ _ _ _ _ _ _ _; (repeat (rename (∀ (A : Fr) (H : Hp), AWP _ _ _ _ A H → _) => hK; clear hK)); (repeat (rename (Fr → Hp → Prop) => K; clear K))) | (show Exists _; (repeat (rename (∀ (A : Fr) (H : Hp), AWP _ _ _ _ A H → _) => hK; clear hK)); (repeat (rename (Fr → Hp → Prop) => K; clear K))) | skip)
      refine awp_loop (ι := Nat) (fun k => [(27, .v (.int .i64 (k))), (26, .v (.int .i64 (ws.length))), (25, .list false 1 (ws).length (cM ints [] (ws))), (6, .own 40 0 1 (ws.take k).flatten.length)]) (fun k => Hp.emp.upd 40 (.cells (ws.take k).flatten.length (cM iv 0 (ws.take k).flatten))) (fun k => k ≤ ws.length) (fun k => ws.length - k) 0 ?_ (Sub.toL (by simp only [go_sem] <;> first | trivial | (simp only [Option.some.injEq, AV.v.injEq, AV.own.injEq, AV.list.injEq, Value.int.injEq, Value.bool.injEq, true_and, and_true]; first | omega | (simp [List.take_zero, List.flatten_nil]; done)) | (simp [List.take_zero, List.flatten_nil]; done) | (simp [List.take_zero, List.flatten_nil]; omega)) (by (repeat' (first | exact Hp.le_emp _ | exact Hp.le_refl _ | refine Hp.le_upd ?_ ?_)); all_goals (first | rfl | (simp only [go_sem]; first | rfl | (refine cellsE ?_ ?_ <;> (simp [List.take_zero, List.flatten_nil])) | (simp [List.take_zero, List.flatten_nil]))))) ?_
      · exact Nat.zero_le _
      intro k hk
      have h1 := flat_take ws k
      have h2 := flat_take ws (k + 1)
      have h4 := flat_snoc ws k
      have h3 := fun h => congrArg List.length (flat_snoc ws k h)
      simp only [List.length_append] at h3
      repeat' (first | refine awp_seqK fun K hK => ?_ | (refine awp_regionK 504373101 rfl ?_; simp only [List.map_cons, List.map_nil]; simp (maxSteps := 1000000) (dsimp := false) (implicitDefEqProofs := false) (disch := omega) only [wrap64, go_sem]) | (refine awp_regionQK 504373101 (by kernel_rfl) (by kernel_rfl) (by kernel_rfl) ?_; simp only [List.map_cons, List.map_nil]; simp (maxSteps := 1000000) (dsimp := false) (implicitDefEqProofs := false) (disch := omega) only [wrap64, go_sem]) | refine awp_block ?_ | (refine awp_skip ?_; simp only [go_sem]) | (refine awp_exit ?_; simp only [go_sem]) | (refine awp_ret ?_; try simp only [go_sem]) | (refine awp_condP rfl ?_; try simp only [go_sem]) | (refine BrP.mk (fun h => ?_) (fun h => ?_) <;> try simp (dsimp := false) (disch := omega) only [wrap64]) | (refine Br.mk (fun h => ?_) (fun h => ?_) <;> try simp (dsimp := false) (disch := omega) only [wrap64]) | refine Ob.mk (by first | omega | (intro _ _; rfl) | trivial | (intros; trivial) | assumption | (intro i hi; have h0 : i = 0 := (by omega); subst h0; first | rfl | trivial) | (intro i hi; have h0 : i = 0 ∨ i = 1 := (by omega); rcases h0 with rfl | rfl <;> rfl) | (intro i hi; have h0 : i = 0 ∨ i = 1 ∨ i = 2 := (by omega); rcases h0 with rfl | rfl | rfl <;> rfl)) ?_ | apply_assumption -exfalso -symm)
      all_goals (first | (show endQ _ _ _ _ _ _ _; (repeat (rename (∀ (A : Fr) (H : Hp), AWP _ _ _ _ A H → _) => hK; clear hK)); (repeat (rename (Fr → Hp → Prop) => K; clear K))) | (show Exists _; (repeat (rename (∀ (A : Fr) (H : Hp), AWP _ _ _ _ A H → _) => hK; clear hK)); (repeat (rename (Fr → Hp → Prop) => K; clear K))) | skip)
      · have h5 := h4 (by omega)
        exact ⟨k + 1, by omega, by omega, Sub.toL (by simp only [go_sem] <;> first | trivial | (simp only [Option.some.injEq, AV.v.injEq, AV.own.injEq, AV.list.injEq, Value.int.injEq, Value.bool.injEq, true_and, and_true]; first | omega | (simp [h5]; done)) | (simp [h5]; done) | (simp [h5]; omega)) (by (repeat' (first | exact Hp.le_emp _ | exact Hp.le_refl _ | refine Hp.le_upd ?_ ?_)); all_goals (first | rfl | (simp only [go_sem]; first | rfl | (refine cellsE ?_ ?_ <;> (simp [h5])) | (simp [h5]))))⟩
      · have e : k = ws.length := by omega
        subst e
        rw [List.take_length]
        exact end_retI' rfl rfl rfl rfl rfl rfl
end Go.Proofs.YticbabpajligbaaDoor
end
/- Which of two words is less. -/
section
namespace Go.Proofs.YticbabpajligbaaDoor
open Go.Av
set_option linter.unusedSimpArgs false
set_option linter.unusedVariables false
attribute [local irreducible] AWP CallG Ob Br BrP Go.Av.Sub endQ AOps OpV AC thenA blkA opsVC opVC withA withArgs opsQ opQ CallQ withA2 withArgs2
def rk (x : Int) : Int := if x < 0 then -2 * x - 1 else 2 * x - 2
end Go.Proofs.YticbabpajligbaaDoor
end
/- Which of two words is less: both texts, any words. -/
section
namespace Go.Proofs.YticbabpajligbaaDoor
open Go.Av
set_option linter.unusedSimpArgs false
set_option linter.unusedVariables false
attribute [local irreducible] AWP CallG Ob Br BrP Go.Av.Sub endQ AOps OpV AC thenA blkA opsVC opVC withA withArgs opsQ opQ CallQ withA2 withArgs2
/-- The first letters that differ say which word is less. -/
def wlx : List Int → List Int → Int
  | x :: xs, y :: ys => if x = y then wlx xs ys else rk x - rk y
  | _, _ => 0
def cmpW (a b : List Int) : Int := if a.length ≠ b.length then (a.length : Int) - b.length else wlx a b
def lessW (a b : List Int) : Prop := isW 8 a ∧ isW 8 b ∧ cmpW a b < 0
instance (a b : List Int) : Decidable (lessW a b) := by unfold lessW; infer_instance
end Go.Proofs.YticbabpajligbaaDoor
end
/- What words do: their evaluation, both texts; inverses and free reductions. -/
section
namespace Go.Proofs.YticbabpajligbaaDoor
open Go.Av
set_option linter.unusedSimpArgs false
set_option linter.unusedVariables false
attribute [local irreducible] AWP CallG Ob Br BrP Go.Av.Sub endQ AOps OpV AC thenA blkA opsVC opVC withA withArgs opsQ opQ CallQ withA2 withArgs2
open Go.Pm (Pm comp invp idn img)
open Go.Wd (fr frS)
section
variable {n : Nat} {g : List (List Int)}
theorem fold_pm (hg : gensP n g) : ∀ (w : List Int) (P : List Int), (∀ x ∈ w, inL g x) → Pm n P → Pm n (w.foldl (fun p l => comp p (letP g l)) P) ∧ w.foldl (fun p l => comp p (letP g l)) P = comp P (evalP n g w)
  | [], P, _, hP => ⟨hP, (hP.comp_idn).symm⟩
  | l :: w, P, hw, hP => by
    have hl := letP_pm hg (hw l (List.mem_cons_self ..))
    obtain ⟨h1, h2⟩ := fold_pm hg w (comp P (letP g l)) (fun x hx => hw x (List.mem_cons_of_mem _ hx)) (hP.comp hl)
    obtain ⟨h3, h4⟩ := fold_pm hg w (comp (idn n) (letP g l)) (fun x hx => hw x (List.mem_cons_of_mem _ hx)) ((Go.Pm.Pm.idn n).comp hl)
    obtain ⟨h5, h6⟩ := fold_pm hg w (idn n) (fun x hx => hw x (List.mem_cons_of_mem _ hx)) (Go.Pm.Pm.idn n)
    have he : Pm n (evalP n g w) := h5
    refine ⟨h1, ?_⟩
    have e : evalP n g (l :: w) = comp (comp (idn n) (letP g l)) (evalP n g w) := h4
    rw [e, hl.idn_comp]
    show w.foldl _ (comp P (letP g l)) = _
    rw [h2, hP.assoc hl he]
theorem evalM_pm (hg : gensP n g) {w : List Int} (hw : ∀ x ∈ w, inL g x) : Pm n (evalP n g w) := (fold_pm hg w (idn n) hw (Go.Pm.Pm.idn n)).1
theorem letP_neg (hg : gensP n g) {l : Int} (hl : inL g l) : letP g (-l) = invp (letP g l) := by
  have h1 := hl
  unfold inL at h1
  unfold letP
  by_cases h : 0 < l
  · rw [if_neg (by omega), if_pos h, show - -l - 1 = l - 1 by omega]
  · rw [if_pos (by omega), if_neg h]
    have := hg.2.2 (-l - 1).toNat (by omega)
    exact this.inv_inv.symm
end
theorem isW_mem {g : List (List Int)} {w : List Int} (h : isW g.length w) : ∀ x ∈ w, inL g x := fun x hx => by
  obtain ⟨j, hj, rfl⟩ := mem_getD.1 hx
  exact wordP.of h j hj
theorem end_T2 {P : Program} {N : Cx} {A : Fr} {H : Hp} {fn : Func} {t u : Tmp} {a b a' b' : AV} (hr : fn.results.toList = [.tmp t, .tmp u]) (htu : t ≠ u) (hA : A.get t = some a) (hB : A.get u = some b) (hf : Fits H (fun _ => True) a a') (hf' : Fits H (fun _ => True) b b') : endQ P N fn (retV (.tup 2 (vecF [a', b']))) .ret A H :=
  end_tup2 (H' := Hp.emp) hr htu (Sub.toFF (fun _ => True) (Fr.fit_cons hA hf (Fr.fit_cons hB hf' (Fr.fit_nil _))) leF_emp) ⟨rfl, rfl⟩
/-- What EvaluateWord answers. -/
def evW (n : Int) (g : List (List Int)) (w : List Int) : List Int × Bool := if isGens n g ∧ isW g.length w then (evalP n.toNat g w, true) else ([], false)
theorem gens_cast {n : Int} {g : List (List Int)} (h : isGens n g) : ((n.toNat : Nat) : Int) = n := by have := h.1; omega
theorem specEvaluateI_ok (n : Int) (g : List (List Int)) (w : List Int) (h : isGens n g) (hw : isW g.length w) : AC Tryd.prog 70 [.v (.int .i64 (n)), intss g, ints w] Hp.emp (fun _ => false) (retV (ints (evalP n.toNat g w))) := by
  have := specEvaluate_ok n.toNat g w (.of h) (.of hw) (by have := hw.1; omega)
  rwa [gens_cast h] at this
theorem specEvaluateWord_ok (n : Int) (g : List (List Int)) (w : List Int) (hg : g.length ≤ 1048576) : AC Tryd.prog 32 [.v (.int .i64 (n)), intss g, ints w] Hp.emp (fun _ => false) (retV (.tup 2 (vecF [ints (evW n g w).1, .v (.bool ((evW n g w).2))]))) := by
  refine ac_of_awp (N := ⟨_, fun _ => false, fun _ _ => rfl, true⟩) Tryd.func32 rfl (by kernel_rfl) Tryd.ntmps32 (by simp) ?_
  simp only [argsFr, List.zipIdx_cons, List.zipIdx_nil, go_sem]
  repeat' (first | refine awp_seqK fun K hK => ?_ | (refine awp_regionK 262343 rfl ?_; simp only [List.map_cons, List.map_nil]; simp (maxSteps := 1000000) (dsimp := false) (implicitDefEqProofs := false) (disch := omega) only [wrap64, go_sem]) | (refine awp_regionQK 262343 (by kernel_rfl) (by kernel_rfl) (by kernel_rfl) ?_; simp only [List.map_cons, List.map_nil]; simp (maxSteps := 1000000) (dsimp := false) (implicitDefEqProofs := false) (disch := omega) only [wrap64, go_sem]) | refine awp_block ?_ | (refine awp_skip ?_; simp only [go_sem]) | (refine awp_exit ?_; simp only [go_sem]) | (refine awp_ret ?_; try simp only [go_sem]) | (refine awp_condP rfl ?_; try simp only [go_sem]) | (refine BrP.mk (fun h => ?_) (fun h => ?_) <;> try simp (dsimp := false) (disch := omega) only [wrap64]) | (refine Br.mk (fun h => ?_) (fun h => ?_) <;> try simp (dsimp := false) (disch := omega) only [wrap64]) | refine Ob.mk (by first | omega | (intro _ _; rfl) | trivial | (intros; trivial) | assumption | (intro i hi; have h0 : i = 0 := (by omega); subst h0; first | rfl | trivial) | (intro i hi; have h0 : i = 0 ∨ i = 1 := (by omega); rcases h0 with rfl | rfl <;> rfl) | (intro i hi; have h0 : i = 0 ∨ i = 1 ∨ i = 2 := (by omega); rcases h0 with rfl | rfl | rfl <;> rfl)) ?_ | ((first | ((first | refine atF (f := 68) ?_ | refine atQ (f := 68) ?_); (first | (refine cV (hac := specIsGeneratorSet_ok n g) (hK := ?_)) | (refine cQV (hac := specIsGeneratorSet_ok n g) (hK := ?_)))) | ((first | refine atF (f := 69) ?_ | refine atQ (f := 69) ?_); (first | (refine cV (hac := isWordOf_ok (g.length : Int) w) (hK := ?_)) | (refine cQV (hac := isWordOf_ok (g.length : Int) w) (hK := ?_)))) | ((first | refine atF (f := 70) ?_ | refine atQ (f := 70) ?_); (first | (refine cR (hac := specEvaluateI_ok n g w (by assumption) (by assumption)) (hK := ?_)) | (refine cQR (hac := specEvaluateI_ok n g w (by assumption) (by assumption)) (hK := ?_))))); simp (maxSteps := 1000000) (dsimp := false) (implicitDefEqProofs := false) (disch := omega) only [wrap64, go_sem]) | apply_assumption -exfalso -symm)
  all_goals (first | (show endQ _ _ _ _ _ _ _; (repeat (rename (∀ (A : Fr) (H : Hp), AWP _ _ _ _ A H → _) => hK; clear hK)); (repeat (rename (Fr → Hp → Prop) => K; clear K))) | (show Exists _; (repeat (rename (∀ (A : Fr) (H : Hp), AWP _ _ _ _ A H → _) => hK; clear hK)); (repeat (rename (Fr → Hp → Prop) => K; clear K))) | skip)
  all_goals
    unfold evW
    first
    | (rw [if_pos ⟨by assumption, by assumption⟩]; exact end_T2 rfl (by decide) rfl rfl (.refl _) (.refl _))
    | (rw [if_neg (by simp_all)]; first | exact end_T2 rfl (by decide) rfl rfl (fits_I rfl trivial rfl rfl) (.refl _) | exact end_T2 rfl (by decide) rfl rfl (.nil) (.refl _) | exact end_T2 rfl (by decide) rfl rfl (.nil rfl) (.refl _))
end Go.Proofs.YticbabpajligbaaDoor
end
/- slices.Chunk: the iterator's contract, on the kit's own level; the call. -/
section
namespace Go.Proofs.YticbabpajligbaaDoor
open Go.RowKit Go.Shelf Go.Av
set_option linter.unusedVariables false
set_option linter.unusedSimpArgs false
attribute [local go_sem] Oper.semAt_some

theorem drew_grown (w : World) : w.grownBy w.drew none := ⟨rfl, rfl, rfl, Nat.le_refl _, fun _ _ _ => rfl⟩
set_option maxRecDepth 100000 in
set_option maxHeartbeats 2000000 in
theorem chunk1_in (n : Nat) (hn : 2 ≤ n) (l B1 s1 B2 s2 b off len cap : Nat) (hlen : 1 ≤ len ∧ len ≤ 1048576) (hcap : len ≤ cap) (J Jx : List Nat → World → Prop) (W : World) (hJa : AbidesFrom W.heap.size J)
    (hY : ∀ pre x W, J pre W → pre.length < nch 99 len → YieldAt (FF none) (n - 1) Tryd.prog l #[chV 99 b off len x] W fun e W' =>
      (e = .returned (.bool true) ∧ J (pre ++ [x]) W' ∧ Kc B1 B2 W W') ∨ (e = .returned (.bool false) ∧ Jx (pre ++ [x]) W'))
    (hc1 : W.cell? ⟨B1, s1, none⟩ = some (.slice (some ⟨b, off, none⟩) len cap)) (hc2 : W.cell? ⟨B2, s2, none⟩ = some (.int .i64 (99 : Nat))) (h0 : J [] W) :
    CallsIn (FF none) n Tryd.prog 74 #[.func (.yield l) #[] #[], .pointer (some ⟨B1, s1, none⟩), .pointer (some ⟨B2, s2, none⟩)] W fun e W' => (∃ v, e = .returned v) ∧
      ((∃ ys, ys = List.range (nch 99 len) ∧ J ys W') ∨ (∃ pre, True ∧ Jx pre W')) := by
  refine callsIn_of_wp Tryd.func74 rfl trivial ?_ rfl
  simp only [Tryd.ntmps74, List.size_toArray, List.length_cons, List.length_nil, Nat.reduceAdd, Nat.reduceSub, Array.replicate_succ, Array.replicate_zero, List.push_toArray, List.append_toArray, List.nil_append, List.cons_append]
  gi_wp2
  gi_loopw [4] (fun i wr => ∃ r : Nat, r ≤ nch 99 len ∧ i = .int .i64 ((99 * r : Nat) : Int) ∧ J (List.range r) wr ∧ Kc B1 B2 W wr)
    (fun i _ => (nch 99 len * 99 + 99 - intOf i).toNat)
  case atStart => exact ⟨0, Nat.zero_le _, rfl, h0, rfl, rfl⟩
  case round =>
    obtain ⟨r, hr, rfl, hJs, hk1, hk2⟩ := hrel
    have hd1 : wr.cell? ⟨B1, s1, none⟩ = some (.slice (some ⟨b, off, none⟩) len cap) := (World.cell?_of_block (w := W) (a := ⟨B1, s1, none⟩) hk1).trans hc1
    have hd2 : wr.cell? ⟨B2, s2, none⟩ = some (.int .i64 (99 : Nat)) := (World.cell?_of_block (w := W) (a := ⟨B2, s2, none⟩) hk2).trans hc2
    by_cases hlt : 99 * r < len
    · have hrl : r < nch 99 len := by unfold nch; omega
      gi_wp2
      gi_region
      have hJ2 : J (List.range r) wr.drew := hJa _ wr _ none hJs (drew_grown wr) (fun r e => by cases e)
      obtain ⟨m, hm⟩ : ∃ m, m = min 99 (len - 99 * r) := ⟨_, rfl⟩
      have e5 : (if ((len - 99 * r : Nat) : Int) < 99 then ((len - 99 * r : Nat) : Int) else 99) = (m : Int) := by split <;> omega
      first | rw [e5] | rw [show min 99 ((len - 99 * r : Nat) : Int) = (m : Int) by omega]
      obtain ⟨fn, tmps, assign, body, hy, hR⟩ := hY _ r wr.drew hJ2 (by rw [List.length_range]; exact hrl)
      have hch : chV 99 b off len r = .slice (some ⟨b, off + 99 * r, none⟩) m m := by unfold chV; rw [← hm]
      rw [hch] at hy
      have hd3 : wr.drew.cell? ⟨B1, s1, none⟩ = some (.slice (some ⟨b, off, none⟩) len cap) := hd1
      have hd4 : wr.drew.cell? ⟨B2, s2, none⟩ = some (.int .i64 (99 : Nat)) := hd2
      have hm2 : m ≤ 99 ∧ 99 * r + m ≤ len ∧ 1 ≤ m ∧ (m < 99 → 99 * r + m = len) := by omega
      clear hch e5 hm
      gi_wp2
      refine ⟨fun _ => (by omega), hR.mono ?_⟩
      rintro e W3 (⟨rfl, hJ3, hk3⟩ | ⟨rfl, hJx3⟩)
      · have hd5 : W3.cell? ⟨B1, s1, none⟩ = some (.slice (some ⟨b, off, none⟩) len cap) := (World.cell?_of_block (w := wr.drew) (a := ⟨B1, s1, none⟩) hk3.1).trans hd3
        have hd6 : W3.cell? ⟨B2, s2, none⟩ = some (.int .i64 (99 : Nat)) := (World.cell?_of_block (w := wr.drew) (a := ⟨B2, s2, none⟩) hk3.2).trans hd4
        gi_wp2
        refine ⟨⟨r + 1, hrl, by congr 1 <;> omega, by rw [List.range_succ]; exact hJ3, hk3.1.trans hk1, hk3.2.trans hk2⟩, ?_⟩
        simp only [intOf]
        omega
      · gi_wp2
        refine bodyPost_ret (results_none rfl _ _ _) rfl ?_
        exact ⟨⟨_, rfl⟩, .inr ⟨_, trivial, hJx3⟩⟩
    · gi_wp2
      have hre : r = nch 99 len := by unfold nch at hr ⊢; omega
      subst hre
      go_end0
      exact ⟨⟨_, rfl⟩, .inl ⟨_, rfl, hJs⟩⟩
theorem chunk_it : ChunkIt Tryd.prog 74 99 := fun n B1 s1 B2 s2 b off len cap w hn hc1 hc2 h1 hcap h2 l J Jx W hW hJa _ hY h0 =>
  chunk1_in n hn l B1 s1 B2 s2 b off len cap ⟨h1, h2⟩ hcap J Jx W hJa hY ((hW.cell (p := ⟨B1, s1, none⟩) (World.block_lt_of_cell? w _ hc1)).trans hc1) ((hW.cell (p := ⟨B2, s2, none⟩) (World.block_lt_of_cell? w _ hc2)).trans hc2) h0
end Go.Proofs.YticbabpajligbaaDoor
end

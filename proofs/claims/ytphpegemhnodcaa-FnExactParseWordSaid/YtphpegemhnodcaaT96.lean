import Derived.Test.YtphpegemhnodcaaT95
import Derived.Test.YtphpegemhnodcaaV11
/- The expansions of all nodes, the reference's text. -/
namespace Go.Proofs.Ytphpegemhnodcaa
open Go.Av
set_option linter.unusedSimpArgs false
set_option linter.unusedVariables false
attribute [local irreducible] AWP CallG Ob Br BrP Go.Av.Sub endQ AOps OpV AC thenA blkA opsVC opVC withA withArgs opsQ opQ CallQ withA2 withArgs2
open Go.Nt (Nd nd0 kd ndOk sz isNt ex ndW bas tab)
theorem ndF_one (xs : List Nd) (i j : Nat) (hj : j < 6) : (ndF xs (i * 6 + j)).one = true := by
  rw [ndF_at xs i j hj]
  exact (ndC_plain _ _ (vecF_mem hj)).2.1
theorem fits_cells {H : Hp} {D : Nat → Prop} {h n : Nat} {f : Nat → AV} {xs : List Int} (hH : H h = some (.cells n f)) (hD : D h) (hf : f = cM iv 0 xs) (hn : n = xs.length) : Fits H D (.own h 0 1 n) (ints xs) := by
  subst hf; exact fits_I hH hD rfl hn
/-- What expandNodes answers. -/
def tabP (xs : List Nd) : List (List Int) × Bool := match tab xs xs.length with
  | some out => (out, true)
  | none => ([], false)
theorem tab_some {xs : List Nd} {n : Nat} (h : sz xs (n - 1) = some n) {k : Nat} (hk : k ≤ n) {out : List (List Int)} (e : tab xs k = some out) : out.length = k ∧ ∀ i, i < k → ex xs i = some (out.getD i []) := by
  have := Go.Nt.tab_ok (Go.Nt.kidsB_of h) k hk
  rw [e] at this; exact this
set_option maxHeartbeats 8000000 in
theorem specExpandNodes_ok (xs : List Nd) (hv : isNt 8 xs) : AC Try.prog 87 [nds xs] Hp.emp (fun _ => false) (retV (.tup 2 (vecF [intss (tabP xs).1, .v (.bool ((tabP xs).2))]))) := by
  have hl := hv.2.1
  refine ac_of_awp (N := ⟨_, fun _ => false, fun _ _ => rfl⟩) Try.func87 rfl (by kernel_rfl) Try.ntmps87 (by simp) ?_
  simp only [argsFr, List.zipIdx_cons, List.zipIdx_nil, go_sem]
  repeat' (first | refine awp_seqK fun K hK => ?_ | (refine awp_regionK 325806030793212363572813750214653 rfl ?_; simp only [List.map_cons, List.map_nil]; simp (maxSteps := 1000000) (dsimp := false) (implicitDefEqProofs := false) (disch := omega) only [wrap64, go_sem]) | (refine awp_regionQK 325806030793212363572813750214653 (by kernel_rfl) (by kernel_rfl) (by kernel_rfl) ?_; simp only [List.map_cons, List.map_nil]; simp (maxSteps := 1000000) (dsimp := false) (implicitDefEqProofs := false) (disch := omega) only [wrap64, go_sem]) | refine awp_block ?_ | (refine awp_skip ?_; simp only [go_sem]) | (refine awp_exit ?_; simp only [go_sem]) | (refine awp_ret ?_; try simp only [go_sem]) | (refine awp_condP rfl ?_; try simp only [go_sem]) | (refine BrP.mk (fun h => ?_) (fun h => ?_) <;> try simp (dsimp := false) (disch := omega) only [wrap64]) | (refine Br.mk (fun h => ?_) (fun h => ?_) <;> try simp (dsimp := false) (disch := omega) only [wrap64]) | refine Ob.mk (by first | omega | (intro _ _; rfl) | trivial | (intros; trivial) | assumption | (intro i hi; have h0 : i = 0 := (by omega); subst h0; first | rfl | trivial) | (intro i hi; have h0 : i = 0 ∨ i = 1 := (by omega); rcases h0 with rfl | rfl <;> rfl) | (intro i hi; have h0 : i = 0 ∨ i = 1 ∨ i = 2 := (by omega); rcases h0 with rfl | rfl | rfl <;> rfl)) ?_ | apply_assumption -exfalso -symm)
  all_goals (first | (show endQ _ _ _ _ _ _ _; (repeat (rename (∀ (A : Fr) (H : Hp), AWP _ _ _ _ A H → _) => hK; clear hK)); (repeat (rename (Fr → Hp → Prop) => K; clear K))) | (show Exists _; (repeat (rename (∀ (A : Fr) (H : Hp), AWP _ _ _ _ A H → _) => hK; clear hK)); (repeat (rename (Fr → Hp → Prop) => K; clear K))) | skip)
  refine awp_loop (ι := Nat × List (List Int)) (fun q => [(5, .v (.int .i64 ((q.1 : Nat)))), (4, .own 13 0 1 q.1), (0, nds xs)]) (fun q => Hp.emp.upd 13 (.cells q.1 (cM ints [] q.2))) (fun q => q.1 ≤ xs.length ∧ tab xs q.1 = some q.2) (fun q => xs.length - q.1) (0, []) ⟨Nat.zero_le _, rfl⟩ (Sub.toFF (fun _ => False) (Fr.fit_cons rfl (.refl _) (Fr.fit_cons rfl (.refl _) (Fr.fit_cons rfl (.refl _) (Fr.fit_nil _)))) (leF_upd rfl ⟨rfl, fun i hi => absurd hi (by simp)⟩ leF_emp id)) ?_
  rintro ⟨i, out⟩ ⟨hi, ht⟩
  dsimp only at hi ht ⊢
  obtain ⟨hol, hoe⟩ := tab_some hv.2.2.2 hi ht
  have hn := ndF_is xs i
  have h0 := hn.h0
  have h1 := hn.h1
  have h2 := hn.h2
  have h3 := hn.h3
  have h4 := hn.h4
  have h5 := hn.h5
  clear hn
  obtain ⟨x, exx⟩ : ∃ x, x = xs.getD i nd0 := ⟨_, rfl⟩
  rw [← exx] at h0 h1 h2 h3 h4 h5
  have hx := fun h : i < xs.length => hv.2.2.1 i h
  rw [← exx] at hx
  have h0' : ndF xs (i * 6) = .v (.int .i64 (x.kind)) := h0
  have hmv : i < xs.length → x.kind = 1 → 0 ≤ x.move ∧ x.move ≤ 7 := fun h hk => by
    have := Go.Nt.nd_move (hx h) hk; omega
  have hsc : ∀ q, scF q (fun j => ndF xs (i * 6 + j)) = fun j => ndF xs (i * 6 + j) := fun q => by funext j; exact (ndF_plain xs _).2 q
  have hkb := Go.Nt.kidsB_of hv.2.2.2
  obtain ⟨ks, eks⟩ : ∃ ks, ks = kd xs i := ⟨_, rfl⟩
  have hxk : x.kids = ks := by rw [exx, eks]
  rw [hxk] at h5
  have hkb' : i < xs.length → ∀ c ∈ ks, 0 ≤ c ∧ c < i := fun h => by rw [eks]; exact hkb i h
  have hks : i < xs.length → ks.length ≤ 199 := fun h => by have := Go.Nt.kids_len hv.2.2.2 h; rw [eks]; omega
  have hol2 : ∀ j, (out.getD j []).length ≤ 200 ∧ Go.Nt.sm (out.getD j []) := fun j => by
    by_cases hj : j < i
    · have := hoe j hj
      exact ⟨Go.Nt.ex_len this, Go.Nt.ex_small hv j (by omega) _ this⟩
    · rw [List.getD_eq_getElem?_getD, List.getElem?_eq_none (by omega)]; exact ⟨by simp, fun y hy => by simp at hy⟩
  obtain ⟨sp, esp⟩ : ∃ sp, sp = x.split.toNat := ⟨_, rfl⟩
  have hspl : i < xs.length → 0 ≤ x.split ∧ x.split ≤ 1000 := fun h => by
    have h9 : x.kids.length = ks.length := by rw [hxk]
    have h8 := hks h
    rcases (hx h).2.2 with ⟨_, _, _, _, _, h2⟩ | ⟨_, h2 | h2 | h2⟩ <;> omega
  obtain ⟨wk, ewk⟩ : ∃ wk : Nat → List (List Int), wk = fun k => (ks.take k).map fun c => out.getD c.toNat [] := ⟨_, rfl⟩
  have hw0 : wk 0 = [] := by rw [ewk]; rfl
  have hwl : ∀ k, k ≤ ks.length → (wk k).length = k := fun k hk => by rw [ewk]; simp; omega
  have hws : ∀ k, k < ks.length → wk (k + 1) = wk k ++ [out.getD (ks.getD k 0).toNat []] := fun k hk => by
    rw [ewk]
    simp only [List.take_add_one, List.map_append]
    simp [List.getD_eq_getElem?_getD, hk]
  have hwm : ∀ k, ∀ w ∈ wk k, w.length ≤ 200 ∧ Go.Nt.sm w := fun k w hw => by
    rw [ewk] at hw
    obtain ⟨c, _, rfl⟩ := List.mem_map.1 hw
    exact hol2 _
  repeat' (first | (refine Ob.mk (fun j hj => ndF_one xs i j hj) ?_) | refine awp_seqK fun K hK => ?_ | (refine awp_regionK 325806030793212363572813750214653 rfl ?_; simp only [List.map_cons, List.map_nil]; simp (maxSteps := 1000000) (dsimp := false) (implicitDefEqProofs := false) (disch := omega) only [wrap64, go_sem, hsc, h0', h0, h1, h2, h3, h4, h5]) | (refine awp_regionQK 325806030793212363572813750214653 (by kernel_rfl) (by kernel_rfl) (by kernel_rfl) ?_; simp only [List.map_cons, List.map_nil]; simp (maxSteps := 1000000) (dsimp := false) (implicitDefEqProofs := false) (disch := omega) only [wrap64, go_sem, hsc, h0', h0, h1, h2, h3, h4, h5]) | refine awp_block ?_ | (refine awp_skip ?_; simp only [go_sem, hsc, h0', h0, h1, h2, h3, h4, h5]) | (refine awp_exit ?_; simp only [go_sem, hsc, h0', h0, h1, h2, h3, h4, h5]) | (refine awp_ret ?_; try simp only [go_sem, hsc, h0', h0, h1, h2, h3, h4, h5]) | (refine awp_condP rfl ?_; try simp only [go_sem, hsc, h0', h0, h1, h2, h3, h4, h5]) | (refine BrP.mk (fun h => ?_) (fun h => ?_) <;> try simp (dsimp := false) (disch := omega) only [wrap64]) | (refine Br.mk (fun h => ?_) (fun h => ?_) <;> try simp (dsimp := false) (disch := omega) only [wrap64]) | refine Ob.mk (by first | omega | (intro _ _; rfl) | trivial | (intros; trivial) | assumption | (intro i hi; have h0 : i = 0 := (by omega); subst h0; first | rfl | trivial) | (intro i hi; have h0 : i = 0 ∨ i = 1 := (by omega); rcases h0 with rfl | rfl <;> rfl) | (intro i hi; have h0 : i = 0 ∨ i = 1 ∨ i = 2 := (by omega); rcases h0 with rfl | rfl | rfl <;> rfl)) ?_ | apply_assumption -exfalso -symm)
  all_goals (first | (show endQ _ _ _ _ _ _ _; (repeat (rename (∀ (A : Fr) (H : Hp), AWP _ _ _ _ A H → _) => hK; clear hK)); (repeat (rename (Fr → Hp → Prop) => K; clear K))) | (show Exists _; (repeat (rename (∀ (A : Fr) (H : Hp), AWP _ _ _ _ A H → _) => hK; clear hK)); (repeat (rename (Fr → Hp → Prop) => K; clear K))) | skip)
  · have hil : i < xs.length := by omega
    have hks' := hks hil
    have hspl' := hspl hil
    refine awp_loop (ι := Nat) (fun k => [(10, .v (.int .i64 ((k : Nat)))), (9, .own 33 0 1 ((wk k).drop sp).flatten.length), (8, .own 32 0 1 ((wk k).take sp).flatten.length), (7, .own 31 0 1 ([x.move + 1] : List Int).length), (6, .ref 6 0), (5, .v (.int .i64 ((i : Nat)))), (4, .own 13 0 1 i), (0, nds xs)]) (fun k => ((((Hp.emp.upd 13 (.cells i (cM ints [] out))).upd 6 (.cells 6 fun j => ndF xs (i * 6 + j))).upd 31 (.cells ([x.move + 1] : List Int).length (cM iv 0 [x.move + 1]))).upd 32 (.cells ((wk k).take sp).flatten.length (cM iv 0 ((wk k).take sp).flatten))).upd 33 (.cells ((wk k).drop sp).flatten.length (cM iv 0 ((wk k).drop sp).flatten))) (fun k => k ≤ ks.length) (fun k => ks.length - k) 0 (Nat.zero_le _) (by
      rw [hw0]; simp only [List.take_nil, List.drop_nil, List.flatten_nil, List.length_nil]; exact Sub.toL (by simp only [go_sem] <;> first | trivial | (simp only [Option.some.injEq, AV.v.injEq, AV.own.injEq, AV.list.injEq, Value.int.injEq, Value.bool.injEq, true_and, and_true]; first | omega | (simp; done)) | (simp; done) | (simp; omega)) (by (repeat' (first | exact Hp.le_emp _ | exact Hp.le_refl _ | refine Hp.le_upd ?_ ?_)); all_goals (first | rfl | (simp only [go_sem]; first | rfl | (refine cellsE ?_ ?_ <;> (simp)) | (simp))))) ?_
    intro k hk
    have hbt := Go.Nt.flat_len (L := 200) ((wk k).take sp) fun w hw => (hwm k w (List.mem_of_mem_take hw)).1
    have hbd := Go.Nt.flat_len (L := 200) ((wk k).drop sp) fun w hw => (hwm k w (List.mem_of_mem_drop hw)).1
    have hwl' := hwl k hk
    rw [List.length_take, hwl'] at hbt
    rw [List.length_drop, hwl'] at hbd
    have hmin := Nat.min_le_right sp k
    obtain ⟨A, eA⟩ : ∃ A, A = ((wk k).take sp).flatten := ⟨_, rfl⟩
    obtain ⟨B, eB⟩ : ∃ B, B = ((wk k).drop sp).flatten := ⟨_, rfl⟩
    rw [← eA] at hbt ⊢
    rw [← eB] at hbd ⊢
    obtain ⟨c, ec⟩ : ∃ c : Nat, c = (ks.getD k 0).toNat := ⟨_, rfl⟩
    have hc1 : k < ks.length → ks.getD k 0 = (c : Int) := fun h => by
      have hm : ks.getD k 0 ∈ ks := by rw [List.getD_eq_getElem?_getD, List.getElem?_eq_getElem h]; exact List.getElem_mem _
      have := hkb' hil _ hm
      omega
    have hc2 : k < ks.length → c < i := fun h => by
      have hm : ks.getD k 0 ∈ ks := by rw [List.getD_eq_getElem?_getD, List.getElem?_eq_getElem h]; exact List.getElem_mem _
      have := hkb' hil _ hm
      omega
    have hyl := (hol2 c).1
    obtain ⟨y, ey⟩ : ∃ y, y = out.getD c [] := ⟨_, rfl⟩
    rw [← ey] at hyl
    have ey' := ey.symm
    obtain ⟨bw, ebw⟩ : ∃ bw, bw = bas x A B := ⟨_, rfl⟩
    have hbl : bw.length ≤ 160001 := by rw [ebw]; have := Go.Nt.bas_len x A B; omega
    have sA : Go.Nt.sm A := by rw [eA]; exact Go.Nt.sm_flat fun v hv => (hwm k v (List.mem_of_mem_take hv)).2
    have sB : Go.Nt.sm B := by rw [eB]; exact Go.Nt.sm_flat fun v hv => (hwm k v (List.mem_of_mem_drop hv)).2
    have sbw : Go.Nt.sm bw := by rw [ebw]; exact Go.Nt.sm_bas (hmv hil) sA sB
    have hct : 1 ≤ x.count ∧ x.count ≤ 99 := (hx hil).1
    obtain ⟨m, em⟩ : ∃ m, m = bw.length * x.count.toNat := ⟨_, rfl⟩
    have hm1 : m ≤ 160001 * 99 := by rw [em]; exact Nat.mul_le_mul hbl (by omega)
    have hm2 : bw.length ≤ m := by rw [em]; exact Nat.le_mul_of_pos_right _ (by omega)
    have em' : (bw.length : Int) * x.count = (m : Int) := by
      rw [em, Int.natCast_mul]; congr 1; omega
    have hf1 : x.kind = 1 → apF (1 + A.length) (apF 1 (cM iv 0 [x.move + 1]) (cM iv 0 A)) (cM iv 0 B) = cM iv 0 bw ∧ 1 + A.length + B.length = bw.length := fun h => by
      have e : bw = [x.move + 1] ++ A ++ B := by rw [ebw]; unfold bas; rw [if_pos h, if_neg (by omega), if_neg (by omega)]; simp
      have p1 := apF_cM iv 0 [x.move + 1] A
      have p2 := apF_cM iv 0 ([x.move + 1] ++ A) B
      rw [List.length_append] at p2
      rw [e, ← p2, ← p1]
      exact ⟨rfl, by simp only [List.length_append, List.length_singleton]⟩
    have htab : ¬ ((k : Int) < ks.length) → tab xs (i + 1) = if 200 < m then none else some (out ++ [if x.inv = 1 then inv (rep bw x.count.toNat) else rep bw x.count.toNat]) := fun h => by
      have hk2 : k = ks.length := by omega
      have e1 : wk k = (kd xs i).map fun c => out.getD c.toNat [] := by
        rw [ewk, hk2]
        show (ks.take ks.length).map _ = _
        rw [List.take_length, eks]
      simp only [tab]
      rw [ht]
      simp only
      rw [← e1, ← exx]
      unfold ndW
      rw [← esp, ← eA, ← eB, ← ebw, ← em]
      by_cases hm : 200 < m
      · rw [if_pos hm, if_pos hm]
      · rw [if_neg hm, if_neg hm]; rfl
    have htoo : ¬ ((k : Int) < ks.length) → 200 < m → tabP xs = ([], false) := fun h hm => by
      have h1 := htab h
      rw [if_pos hm] at h1
      have h2 := Go.Nt.tab_none h1 (xs.length - (i + 1))
      rw [show i + 1 + (xs.length - (i + 1)) = xs.length by omega] at h2
      unfold tabP; rw [h2]
    have hwn : k < ks.length → wk (k + 1) = wk k ++ [y] := fun h => by rw [hws k h, ey, ec]
    have hA1 : k < ks.length → k < sp → ((wk (k + 1)).take sp).flatten = A ++ y ∧ ((wk (k + 1)).drop sp).flatten = B := fun h1 h => by
      rw [hwn h1, eA, eB, List.take_of_length_le (by simp [hwl']; omega), List.take_of_length_le (by omega), List.drop_eq_nil_of_le (by simp [hwl']; omega), List.drop_eq_nil_of_le (by omega)]
      simp
    have hB1 : k < ks.length → sp ≤ k → ((wk (k + 1)).take sp).flatten = A ∧ ((wk (k + 1)).drop sp).flatten = B ++ y := fun h1 h => by
      rw [hwn h1, eA, eB, List.take_append_of_le_length (by omega), List.drop_append_of_le_length (by omega)]
      simp
    repeat' (first | (refine awp_cutR 22 84 (A' := [(7, ints bw), (6, .ref 6 0), (5, .v (.int .i64 ((i : Nat)))), (4, .own 13 0 1 i), (0, nds xs)]) (H' := (Hp.emp.upd 13 (.cells i (cM ints [] out))).upd 6 (.cells 6 fun j => ndF xs (i * 6 + j))) (Sub.toFF (fun x => x = 31) (Fr.fit_cons rfl (fits_cells rfl rfl (hf1 (by assumption)).1 (hf1 (by assumption)).2) (Fr.fit_cons rfl (.refl _) (Fr.fit_cons rfl (.refl _) (Fr.fit_cons rfl (.refl _) (Fr.fit_cons rfl (.refl _) (Fr.fit_nil _)))))) (leF_upd rfl (.refl _ _ _) (leF_upd rfl (.refl _ _ _) leF_emp (by omega)) (by omega))) ?_) | refine awp_seqK fun K hK => ?_ | (refine awp_regionK 325806030793212363572813750214653 rfl ?_; simp only [List.map_cons, List.map_nil]; simp (maxSteps := 1000000) (dsimp := false) (implicitDefEqProofs := false) (disch := omega) only [wrap64, go_sem, em', hsc, hc1, ey', Nat.le_refl, h0', h0, h1, h2, h3, h4, h5]) | (refine awp_regionQK 325806030793212363572813750214653 (by kernel_rfl) (by kernel_rfl) (by kernel_rfl) ?_; simp only [List.map_cons, List.map_nil]; simp (maxSteps := 1000000) (dsimp := false) (implicitDefEqProofs := false) (disch := omega) only [wrap64, go_sem, em', hsc, hc1, ey', Nat.le_refl, h0', h0, h1, h2, h3, h4, h5]) | refine awp_block ?_ | (refine awp_skip ?_; simp only [go_sem, em', hsc, hc1, ey', Nat.le_refl, h0', h0, h1, h2, h3, h4, h5]) | (refine awp_exit ?_; simp only [go_sem, em', hsc, hc1, ey', Nat.le_refl, h0', h0, h1, h2, h3, h4, h5]) | (refine awp_ret ?_; try simp only [go_sem, em', hsc, hc1, ey', Nat.le_refl, h0', h0, h1, h2, h3, h4, h5]) | (refine awp_condP rfl ?_; try simp only [go_sem, em', hsc, hc1, ey', Nat.le_refl, h0', h0, h1, h2, h3, h4, h5]) | (refine BrP.mk (fun h => ?_) (fun h => ?_) <;> try simp (dsimp := false) (disch := omega) only [wrap64]) | (refine Br.mk (fun h => ?_) (fun h => ?_) <;> try simp (dsimp := false) (disch := omega) only [wrap64]) | refine Ob.mk (by first | omega | (intro _ _; rfl) | trivial | (intros; trivial) | assumption | (intro i hi; have h0 : i = 0 := (by omega); subst h0; first | rfl | trivial) | (intro i hi; have h0 : i = 0 ∨ i = 1 := (by omega); rcases h0 with rfl | rfl <;> rfl) | (intro i hi; have h0 : i = 0 ∨ i = 1 ∨ i = 2 := (by omega); rcases h0 with rfl | rfl | rfl <;> rfl)) ?_ | apply_assumption -exfalso -symm)
    all_goals (first | (show endQ _ _ _ _ _ _ _; (repeat (rename (∀ (A : Fr) (H : Hp), AWP _ _ _ _ A H → _) => hK; clear hK)); (repeat (rename (Fr → Hp → Prop) => K; clear K))) | (show Exists _; (repeat (rename (∀ (A : Fr) (H : Hp), AWP _ _ _ _ A H → _) => hK; clear hK)); (repeat (rename (Fr → Hp → Prop) => K; clear K))) | skip)
    · obtain ⟨q1, q2⟩ := hA1 (by omega) (by omega)
      refine ⟨k + 1, by omega, by omega, ?_⟩
      rw [q1, q2, List.length_append]
      exact Sub.toL (by simp only [go_sem] <;> first | trivial | (simp only [Option.some.injEq, AV.v.injEq, AV.own.injEq, AV.list.injEq, Value.int.injEq, Value.bool.injEq, true_and, and_true]; first | omega | (simp; done)) | (simp; done) | (simp; omega)) (by (repeat' (first | exact Hp.le_emp _ | exact Hp.le_refl _ | refine Hp.le_upd ?_ ?_)); all_goals (first | rfl | (simp only [go_sem]; first | rfl | (refine cellsE ?_ ?_ <;> (simp)) | (simp))))
    · obtain ⟨q1, q2⟩ := hB1 (by omega) (by omega)
      refine ⟨k + 1, by omega, by omega, ?_⟩
      rw [q1, q2, List.length_append]
      exact Sub.toL (by simp only [go_sem] <;> first | trivial | (simp only [Option.some.injEq, AV.v.injEq, AV.own.injEq, AV.list.injEq, Value.int.injEq, Value.bool.injEq, true_and, and_true]; first | omega | (simp; done)) | (simp; done) | (simp; omega)) (by (repeat' (first | exact Hp.le_emp _ | exact Hp.le_refl _ | refine Hp.le_upd ?_ ?_)); all_goals (first | rfl | (simp only [go_sem]; first | rfl | (refine cellsE ?_ ?_ <;> (simp)) | (simp))))
    all_goals first | omega | skip
    · rw [htoo (by assumption) (by omega)]
      exact end_tup2 (H' := Hp.emp) rfl (by decide) (Sub.toFF (fun _ => True) (Fr.fit_cons rfl (fits_II0 rfl trivial) (Fr.fit_cons rfl (.refl _) (Fr.fit_nil _))) leF_emp) ⟨rfl, rfl⟩
    · have hm200 : ¬ 200 < m := by omega
      have hk3 : ¬ ((k : Int) < ks.length) := by assumption
      have htb := htab hk3
      rw [if_neg hm200] at htb
      have hrb := sm_get (Go.Nt.sm_repW sbw x.count.toNat)
      have hrl : ∀ j, (rep bw j).length = j * bw.length := fun j => rep_length bw j
      have hrl2 : (rep bw x.count.toNat).length = m := by rw [hrl, em, Nat.mul_comm]
      refine awp_loop (ι := Nat) (fun j => [(12, .v (.int .i64 ((j : Nat)))), (11, .own 96 0 1 (rep bw j).length), (7, ints bw), (6, .ref 6 0), (5, .v (.int .i64 ((i : Nat)))), (4, .own 13 0 1 i), (0, nds xs)]) (fun j => ((Hp.emp.upd 13 (.cells i (cM ints [] out))).upd 6 (.cells 6 fun j => ndF xs (i * 6 + j))).upd 96 (.cells (rep bw j).length (cM iv 0 (rep bw j)))) (fun j => j ≤ x.count.toNat) (fun j => x.count.toNat - j) 0 (Nat.zero_le _) (Sub.toL (by simp only [go_sem] <;> first | trivial | (simp only [Option.some.injEq, AV.v.injEq, AV.own.injEq, AV.list.injEq, Value.int.injEq, Value.bool.injEq, true_and, and_true]; first | omega | (simp [rep]; done)) | (simp [rep]; done) | (simp [rep]; omega)) (by (repeat' (first | exact Hp.le_emp _ | exact Hp.le_refl _ | refine Hp.le_upd ?_ ?_)); all_goals (first | rfl | (simp only [go_sem]; first | rfl | (refine cellsE ?_ ?_ <;> (simp [rep])) | (simp [rep]))))) ?_
      intro j hj
      have hrj : (rep bw j).length ≤ m := by rw [hrl, em, Nat.mul_comm]; exact Nat.mul_le_mul_left _ hj
      have hap := apF_cM iv 0 (rep bw j) bw
      have hrs : rep bw j ++ bw = rep bw (j + 1) := by rw [rep_add]; simp [rep]
      rw [hrs] at hap
      have hrs2 : (rep bw j).length + bw.length = (rep bw (j + 1)).length := by rw [← hrs, List.length_append]
      have hrbj := sm_get (Go.Nt.sm_repW sbw j)
      repeat' (first | refine awp_seqK fun K hK => ?_ | (refine awp_regionK 325806030793212363572813750214653 rfl ?_; simp only [List.map_cons, List.map_nil]; simp (maxSteps := 1000000) (dsimp := false) (implicitDefEqProofs := false) (disch := omega) only [wrap64, go_sem, hsc, hap, Nat.le_refl, h0', h0, h1, h2, h3, h4, h5]) | (refine awp_regionQK 325806030793212363572813750214653 (by kernel_rfl) (by kernel_rfl) (by kernel_rfl) ?_; simp only [List.map_cons, List.map_nil]; simp (maxSteps := 1000000) (dsimp := false) (implicitDefEqProofs := false) (disch := omega) only [wrap64, go_sem, hsc, hap, Nat.le_refl, h0', h0, h1, h2, h3, h4, h5]) | refine awp_block ?_ | (refine awp_skip ?_; simp only [go_sem, hsc, hap, Nat.le_refl, h0', h0, h1, h2, h3, h4, h5]) | (refine awp_exit ?_; simp only [go_sem, hsc, hap, Nat.le_refl, h0', h0, h1, h2, h3, h4, h5]) | (refine awp_ret ?_; try simp only [go_sem, hsc, hap, Nat.le_refl, h0', h0, h1, h2, h3, h4, h5]) | (refine awp_condP rfl ?_; try simp only [go_sem, hsc, hap, Nat.le_refl, h0', h0, h1, h2, h3, h4, h5]) | (refine BrP.mk (fun h => ?_) (fun h => ?_) <;> try simp (dsimp := false) (disch := omega) only [wrap64]) | (refine Br.mk (fun h => ?_) (fun h => ?_) <;> try simp (dsimp := false) (disch := omega) only [wrap64]) | refine Ob.mk (by first | omega | (intro _ _; rfl) | trivial | (intros; trivial) | assumption | (intro i hi; have h0 : i = 0 := (by omega); subst h0; first | rfl | trivial) | (intro i hi; have h0 : i = 0 ∨ i = 1 := (by omega); rcases h0 with rfl | rfl <;> rfl) | (intro i hi; have h0 : i = 0 ∨ i = 1 ∨ i = 2 := (by omega); rcases h0 with rfl | rfl | rfl <;> rfl)) ?_ | ((first | ((first | refine atF (f := 174) ?_ | refine atQ (f := 174) ?_); (refine cI (hac := invertWord_ok (rep bw j) (by omega) hrbj 97) (hK := ?_)))); simp (maxSteps := 1000000) (dsimp := false) (implicitDefEqProofs := false) (disch := omega) only [wrap64, go_sem, hsc, hap, Nat.le_refl, h0', h0, h1, h2, h3, h4, h5]) | apply_assumption -exfalso -symm)
      all_goals (first | (show endQ _ _ _ _ _ _ _; (repeat (rename (∀ (A : Fr) (H : Hp), AWP _ _ _ _ A H → _) => hK; clear hK)); (repeat (rename (Fr → Hp → Prop) => K; clear K))) | (show Exists _; (repeat (rename (∀ (A : Fr) (H : Hp), AWP _ _ _ _ A H → _) => hK; clear hK)); (repeat (rename (Fr → Hp → Prop) => K; clear K))) | skip)
      · exact ⟨j + 1, by omega, by omega, Sub.toL (by simp only [go_sem] <;> first | trivial | (simp only [Option.some.injEq, AV.v.injEq, AV.own.injEq, AV.list.injEq, Value.int.injEq, Value.bool.injEq, true_and, and_true]; first | omega | (simp [hrs2]; done)) | (simp [hrs2]; done) | (simp [hrs2]; omega)) (by (repeat' (first | exact Hp.le_emp _ | exact Hp.le_refl _ | refine Hp.le_upd ?_ ?_)); all_goals (first | rfl | (simp only [go_sem]; first | rfl | (refine cellsE ?_ ?_ <;> (simp [hrs2])) | (simp [hrs2]))))⟩
      · have hj2 : j = x.count.toNat := by omega
        rw [if_pos (by assumption), ← hj2] at htb
        refine ⟨(i + 1, out ++ [inv (rep bw j)]), ⟨by dsimp only; omega, htb⟩, by dsimp only; omega, Sub.toFF (fun x => x = 97) (Fr.fit_cons rfl (.ofEq (by simp)) (Fr.fit_cons rfl (.refl _) (Fr.fit_cons rfl (.refl _) (Fr.fit_nil _)))) (leF_upd rfl ⟨rfl, fun q hq => ?_⟩ leF_emp (by omega))⟩
        rw [← hol]
        refine app_fit (g := inv (rep bw j)) (h := 97) out ?_ ?_ ?_ q (by rw [hol]; exact hq) <;> rfl
      · have hj2 : j = x.count.toNat := by omega
        rw [if_neg (by assumption), ← hj2] at htb
        refine ⟨(i + 1, out ++ [rep bw j]), ⟨by dsimp only; omega, htb⟩, by dsimp only; omega, Sub.toFF (fun x => x = 96) (Fr.fit_cons rfl (.ofEq (by simp)) (Fr.fit_cons rfl (.refl _) (Fr.fit_cons rfl (.refl _) (Fr.fit_nil _)))) (leF_upd rfl ⟨rfl, fun q hq => ?_⟩ leF_emp (by omega))⟩
        rw [← hol]
        refine app_fit (g := rep bw j) (h := 96) out ?_ ?_ ?_ q (by rw [hol]; exact hq) <;> rfl
  · have hil : i < xs.length := by omega
    have hks' := hks hil
    have hspl' := hspl hil
    refine awp_loop (ι := Nat) (fun k => [(10, .v (.int .i64 ((k : Nat)))), (9, .own 33 0 1 ((wk k).drop sp).flatten.length), (8, .own 32 0 1 ((wk k).take sp).flatten.length), (7, .own 24 0 1 ([] : List Int).length), (6, .ref 6 0), (5, .v (.int .i64 ((i : Nat)))), (4, .own 13 0 1 i), (0, nds xs)]) (fun k => ((((Hp.emp.upd 13 (.cells i (cM ints [] out))).upd 6 (.cells 6 fun j => ndF xs (i * 6 + j))).upd 24 (.cells ([] : List Int).length (cM iv 0 []))).upd 32 (.cells ((wk k).take sp).flatten.length (cM iv 0 ((wk k).take sp).flatten))).upd 33 (.cells ((wk k).drop sp).flatten.length (cM iv 0 ((wk k).drop sp).flatten))) (fun k => k ≤ ks.length) (fun k => ks.length - k) 0 (Nat.zero_le _) (by
      rw [hw0]; simp only [List.take_nil, List.drop_nil, List.flatten_nil, List.length_nil]; exact Sub.toL (by simp only [go_sem] <;> first | trivial | (simp only [Option.some.injEq, AV.v.injEq, AV.own.injEq, AV.list.injEq, Value.int.injEq, Value.bool.injEq, true_and, and_true]; first | omega | (simp; done)) | (simp; done) | (simp; omega)) (by (repeat' (first | exact Hp.le_emp _ | exact Hp.le_refl _ | refine Hp.le_upd ?_ ?_)); all_goals (first | rfl | (simp only [go_sem]; first | rfl | (refine cellsE ?_ ?_ <;> (simp)) | (simp))))) ?_
    intro k hk
    have hbt := Go.Nt.flat_len (L := 200) ((wk k).take sp) fun w hw => (hwm k w (List.mem_of_mem_take hw)).1
    have hbd := Go.Nt.flat_len (L := 200) ((wk k).drop sp) fun w hw => (hwm k w (List.mem_of_mem_drop hw)).1
    have hwl' := hwl k hk
    rw [List.length_take, hwl'] at hbt
    rw [List.length_drop, hwl'] at hbd
    have hmin := Nat.min_le_right sp k
    obtain ⟨A, eA⟩ : ∃ A, A = ((wk k).take sp).flatten := ⟨_, rfl⟩
    obtain ⟨B, eB⟩ : ∃ B, B = ((wk k).drop sp).flatten := ⟨_, rfl⟩
    rw [← eA] at hbt ⊢
    rw [← eB] at hbd ⊢
    obtain ⟨c, ec⟩ : ∃ c : Nat, c = (ks.getD k 0).toNat := ⟨_, rfl⟩
    have hc1 : k < ks.length → ks.getD k 0 = (c : Int) := fun h => by
      have hm : ks.getD k 0 ∈ ks := by rw [List.getD_eq_getElem?_getD, List.getElem?_eq_getElem h]; exact List.getElem_mem _
      have := hkb' hil _ hm
      omega
    have hc2 : k < ks.length → c < i := fun h => by
      have hm : ks.getD k 0 ∈ ks := by rw [List.getD_eq_getElem?_getD, List.getElem?_eq_getElem h]; exact List.getElem_mem _
      have := hkb' hil _ hm
      omega
    have hyl := (hol2 c).1
    obtain ⟨y, ey⟩ : ∃ y, y = out.getD c [] := ⟨_, rfl⟩
    rw [← ey] at hyl
    have ey' := ey.symm
    obtain ⟨bw, ebw⟩ : ∃ bw, bw = bas x A B := ⟨_, rfl⟩
    have hbl : bw.length ≤ 160001 := by rw [ebw]; have := Go.Nt.bas_len x A B; omega
    have sA : Go.Nt.sm A := by rw [eA]; exact Go.Nt.sm_flat fun v hv => (hwm k v (List.mem_of_mem_take hv)).2
    have sB : Go.Nt.sm B := by rw [eB]; exact Go.Nt.sm_flat fun v hv => (hwm k v (List.mem_of_mem_drop hv)).2
    have sbw : Go.Nt.sm bw := by rw [ebw]; exact Go.Nt.sm_bas (hmv hil) sA sB
    have hct : 1 ≤ x.count ∧ x.count ≤ 99 := (hx hil).1
    obtain ⟨m, em⟩ : ∃ m, m = bw.length * x.count.toNat := ⟨_, rfl⟩
    have hm1 : m ≤ 160001 * 99 := by rw [em]; exact Nat.mul_le_mul hbl (by omega)
    have hm2 : bw.length ≤ m := by rw [em]; exact Nat.le_mul_of_pos_right _ (by omega)
    have em' : (bw.length : Int) * x.count = (m : Int) := by
      rw [em, Int.natCast_mul]; congr 1; omega
    have f0 : apF A.length (apF 0 (cM iv 0 []) (cM iv 0 A)) (cM iv 0 B) = cM iv 0 (A ++ B) := by
      have p0 := apF_cM iv 0 ([] : List Int) A
      have p1 := apF_cM iv 0 A B
      rw [List.nil_append] at p0
      rw [← p1, ← p0]; rfl
    have hinvA : (inv A).length = A.length := inv_length A
    have f4 : apF (A.length + B.length) (apF A.length (apF 0 (cM iv 0 []) (cM iv 0 A)) (cM iv 0 B)) (cM iv 0 (inv A)) = cM iv 0 (A ++ B ++ inv A) := by
      have p1 := apF_cM iv 0 (A ++ B) (inv A)
      rw [List.length_append] at p1
      rw [f0, p1]
    have f3 : apF (A.length + B.length + A.length) (apF (A.length + B.length) (apF A.length (apF 0 (cM iv 0 []) (cM iv 0 A)) (cM iv 0 B)) (cM iv 0 (inv A))) (cM iv 0 (inv B)) = cM iv 0 (A ++ B ++ inv A ++ inv B) := by
      have p1 := apF_cM iv 0 (A ++ B ++ inv A) (inv B)
      rw [List.length_append, List.length_append, hinvA] at p1
      rw [f4, p1]
    have hf2 : ¬ x.kind = 1 → ¬ x.kind = 3 → ¬ x.kind = 4 → apF A.length (apF 0 (cM iv 0 []) (cM iv 0 A)) (cM iv 0 B) = cM iv 0 bw ∧ A.length + B.length = bw.length := fun h1 h3 h4 => by
      have e : bw = A ++ B := by rw [ebw]; unfold bas; rw [if_neg h1, if_neg (by omega), if_neg h3]; simp
      rw [e, f0]; exact ⟨rfl, by rw [List.length_append]⟩
    have hf4 : x.kind = 4 → apF (A.length + B.length) (apF A.length (apF 0 (cM iv 0 []) (cM iv 0 A)) (cM iv 0 B)) (cM iv 0 (inv A)) = cM iv 0 bw ∧ A.length + B.length + A.length = bw.length := fun h => by
      have e : bw = A ++ B ++ inv A := by rw [ebw]; unfold bas; rw [if_neg (by omega), if_pos (.inr h), if_neg (by omega)]; simp [inv, Go.Wd.inv]
      rw [e, f4]; exact ⟨rfl, by rw [List.length_append, List.length_append, hinvA]⟩
    have hf3 : x.kind = 3 → apF (A.length + B.length + A.length) (apF (A.length + B.length) (apF A.length (apF 0 (cM iv 0 []) (cM iv 0 A)) (cM iv 0 B)) (cM iv 0 (inv A))) (cM iv 0 (inv B)) = cM iv 0 bw ∧ A.length + B.length + A.length + B.length = bw.length := fun h => by
      have e : bw = A ++ B ++ inv A ++ inv B := by rw [ebw]; unfold bas; rw [if_neg (by omega), if_pos (.inl h), if_pos h]; simp [inv, Go.Wd.inv]
      rw [e, f3]; exact ⟨rfl, by rw [List.length_append, List.length_append, List.length_append, hinvA, inv_length]⟩
    have htab : ¬ ((k : Int) < ks.length) → tab xs (i + 1) = if 200 < m then none else some (out ++ [if x.inv = 1 then inv (rep bw x.count.toNat) else rep bw x.count.toNat]) := fun h => by
      have hk2 : k = ks.length := by omega
      have e1 : wk k = (kd xs i).map fun c => out.getD c.toNat [] := by
        rw [ewk, hk2]
        show (ks.take ks.length).map _ = _
        rw [List.take_length, eks]
      simp only [tab]
      rw [ht]
      simp only
      rw [← e1, ← exx]
      unfold ndW
      rw [← esp, ← eA, ← eB, ← ebw, ← em]
      by_cases hm : 200 < m
      · rw [if_pos hm, if_pos hm]
      · rw [if_neg hm, if_neg hm]; rfl
    have htoo : ¬ ((k : Int) < ks.length) → 200 < m → tabP xs = ([], false) := fun h hm => by
      have h1 := htab h
      rw [if_pos hm] at h1
      have h2 := Go.Nt.tab_none h1 (xs.length - (i + 1))
      rw [show i + 1 + (xs.length - (i + 1)) = xs.length by omega] at h2
      unfold tabP; rw [h2]
    have hwn : k < ks.length → wk (k + 1) = wk k ++ [y] := fun h => by rw [hws k h, ey, ec]
    have hA1 : k < ks.length → k < sp → ((wk (k + 1)).take sp).flatten = A ++ y ∧ ((wk (k + 1)).drop sp).flatten = B := fun h1 h => by
      rw [hwn h1, eA, eB, List.take_of_length_le (by simp [hwl']; omega), List.take_of_length_le (by omega), List.drop_eq_nil_of_le (by simp [hwl']; omega), List.drop_eq_nil_of_le (by omega)]
      simp
    have hB1 : k < ks.length → sp ≤ k → ((wk (k + 1)).take sp).flatten = A ∧ ((wk (k + 1)).drop sp).flatten = B ++ y := fun h1 h => by
      rw [hwn h1, eA, eB, List.take_append_of_le_length (by omega), List.drop_append_of_le_length (by omega)]
      simp
    repeat' (first | (first | refine awp_cutR 22 7 (A' := [(7, ints bw), (6, .ref 6 0), (5, .v (.int .i64 ((i : Nat)))), (4, .own 13 0 1 i), (0, nds xs)]) (H' := (Hp.emp.upd 13 (.cells i (cM ints [] out))).upd 6 (.cells 6 fun j => ndF xs (i * 6 + j))) (Sub.toFF (fun x => x = 24) (Fr.fit_cons rfl (fits_cells rfl rfl (hf3 (by assumption)).1 (hf3 (by assumption)).2) (Fr.fit_cons rfl (.refl _) (Fr.fit_cons rfl (.refl _) (Fr.fit_cons rfl (.refl _) (Fr.fit_cons rfl (.refl _) (Fr.fit_nil _)))))) (leF_upd rfl (.refl _ _ _) (leF_upd rfl (.refl _ _ _) leF_emp (by omega)) (by omega))) ?_ | refine awp_cutR 22 84 (A' := [(7, ints bw), (6, .ref 6 0), (5, .v (.int .i64 ((i : Nat)))), (4, .own 13 0 1 i), (0, nds xs)]) (H' := (Hp.emp.upd 13 (.cells i (cM ints [] out))).upd 6 (.cells 6 fun j => ndF xs (i * 6 + j))) (Sub.toFF (fun x => x = 24) (Fr.fit_cons rfl (fits_cells rfl rfl (hf4 (by assumption)).1 (hf4 (by assumption)).2) (Fr.fit_cons rfl (.refl _) (Fr.fit_cons rfl (.refl _) (Fr.fit_cons rfl (.refl _) (Fr.fit_cons rfl (.refl _) (Fr.fit_nil _)))))) (leF_upd rfl (.refl _ _ _) (leF_upd rfl (.refl _ _ _) leF_emp (by omega)) (by omega))) ?_ | refine awp_cutR 22 84 (A' := [(7, ints bw), (6, .ref 6 0), (5, .v (.int .i64 ((i : Nat)))), (4, .own 13 0 1 i), (0, nds xs)]) (H' := (Hp.emp.upd 13 (.cells i (cM ints [] out))).upd 6 (.cells 6 fun j => ndF xs (i * 6 + j))) (Sub.toFF (fun x => x = 24) (Fr.fit_cons rfl (fits_cells rfl rfl (hf2 (by assumption) (by assumption) (by assumption)).1 (hf2 (by assumption) (by assumption) (by assumption)).2) (Fr.fit_cons rfl (.refl _) (Fr.fit_cons rfl (.refl _) (Fr.fit_cons rfl (.refl _) (Fr.fit_cons rfl (.refl _) (Fr.fit_nil _)))))) (leF_upd rfl (.refl _ _ _) (leF_upd rfl (.refl _ _ _) leF_emp (by omega)) (by omega))) ?_) | refine awp_seqK fun K hK => ?_ | (refine awp_regionK 325806030793212363572813750214653 rfl ?_; simp only [List.map_cons, List.map_nil]; simp (maxSteps := 1000000) (dsimp := false) (implicitDefEqProofs := false) (disch := omega) only [wrap64, go_sem, inv_length, em', hsc, hc1, ey', Nat.le_refl, h0', h0, h1, h2, h3, h4, h5]) | (refine awp_regionQK 325806030793212363572813750214653 (by kernel_rfl) (by kernel_rfl) (by kernel_rfl) ?_; simp only [List.map_cons, List.map_nil]; simp (maxSteps := 1000000) (dsimp := false) (implicitDefEqProofs := false) (disch := omega) only [wrap64, go_sem, inv_length, em', hsc, hc1, ey', Nat.le_refl, h0', h0, h1, h2, h3, h4, h5]) | refine awp_block ?_ | (refine awp_skip ?_; simp only [go_sem, inv_length, em', hsc, hc1, ey', Nat.le_refl, h0', h0, h1, h2, h3, h4, h5]) | (refine awp_exit ?_; simp only [go_sem, inv_length, em', hsc, hc1, ey', Nat.le_refl, h0', h0, h1, h2, h3, h4, h5]) | (refine awp_ret ?_; try simp only [go_sem, inv_length, em', hsc, hc1, ey', Nat.le_refl, h0', h0, h1, h2, h3, h4, h5]) | (refine awp_condP rfl ?_; try simp only [go_sem, inv_length, em', hsc, hc1, ey', Nat.le_refl, h0', h0, h1, h2, h3, h4, h5]) | (refine BrP.mk (fun h => ?_) (fun h => ?_) <;> try simp (dsimp := false) (disch := omega) only [wrap64]) | (refine Br.mk (fun h => ?_) (fun h => ?_) <;> try simp (dsimp := false) (disch := omega) only [wrap64]) | refine Ob.mk (by first | omega | (intro _ _; rfl) | trivial | (intros; trivial) | assumption | (intro i hi; have h0 : i = 0 := (by omega); subst h0; first | rfl | trivial) | (intro i hi; have h0 : i = 0 ∨ i = 1 := (by omega); rcases h0 with rfl | rfl <;> rfl) | (intro i hi; have h0 : i = 0 ∨ i = 1 ∨ i = 2 := (by omega); rcases h0 with rfl | rfl | rfl <;> rfl)) ?_ | ((first | ((first | refine atF (f := 174) ?_ | refine atQ (f := 174) ?_); (first | (refine cFI (hac := invertWord_ok A (by omega) (sm_get sA) 61) (hK := ?_)) | (refine cQI (hac := invertWord_ok A (by omega) (sm_get sA) 61) (hK := ?_)))) | ((first | refine atF (f := 174) ?_ | refine atQ (f := 174) ?_); (first | (refine cFI (hac := invertWord_ok B (by omega) (sm_get sB) 62) (hK := ?_)) | (refine cQI (hac := invertWord_ok B (by omega) (sm_get sB) 62) (hK := ?_))))); simp (maxSteps := 1000000) (dsimp := false) (implicitDefEqProofs := false) (disch := omega) only [wrap64, go_sem, inv_length, em', hsc, hc1, ey', Nat.le_refl, h0', h0, h1, h2, h3, h4, h5]) | apply_assumption -exfalso -symm)
    all_goals (first | (show endQ _ _ _ _ _ _ _; (repeat (rename (∀ (A : Fr) (H : Hp), AWP _ _ _ _ A H → _) => hK; clear hK)); (repeat (rename (Fr → Hp → Prop) => K; clear K))) | (show Exists _; (repeat (rename (∀ (A : Fr) (H : Hp), AWP _ _ _ _ A H → _) => hK; clear hK)); (repeat (rename (Fr → Hp → Prop) => K; clear K))) | skip)
    · obtain ⟨q1, q2⟩ := hA1 (by omega) (by omega)
      refine ⟨k + 1, by omega, by omega, ?_⟩
      rw [q1, q2, List.length_append]
      exact Sub.toL (by simp only [go_sem] <;> first | trivial | (simp only [Option.some.injEq, AV.v.injEq, AV.own.injEq, AV.list.injEq, Value.int.injEq, Value.bool.injEq, true_and, and_true]; first | omega | (simp; done)) | (simp; done) | (simp; omega)) (by (repeat' (first | exact Hp.le_emp _ | exact Hp.le_refl _ | refine Hp.le_upd ?_ ?_)); all_goals (first | rfl | (simp only [go_sem]; first | rfl | (refine cellsE ?_ ?_ <;> (simp)) | (simp))))
    · obtain ⟨q1, q2⟩ := hB1 (by omega) (by omega)
      refine ⟨k + 1, by omega, by omega, ?_⟩
      rw [q1, q2, List.length_append]
      exact Sub.toL (by simp only [go_sem] <;> first | trivial | (simp only [Option.some.injEq, AV.v.injEq, AV.own.injEq, AV.list.injEq, Value.int.injEq, Value.bool.injEq, true_and, and_true]; first | omega | (simp; done)) | (simp; done) | (simp; omega)) (by (repeat' (first | exact Hp.le_emp _ | exact Hp.le_refl _ | refine Hp.le_upd ?_ ?_)); all_goals (first | rfl | (simp only [go_sem]; first | rfl | (refine cellsE ?_ ?_ <;> (simp)) | (simp))))
    all_goals first | omega | skip
    · rw [htoo (by assumption) (by omega)]
      exact end_tup2 (H' := Hp.emp) rfl (by decide) (Sub.toFF (fun _ => True) (Fr.fit_cons rfl (fits_II0 rfl trivial) (Fr.fit_cons rfl (.refl _) (Fr.fit_nil _))) leF_emp) ⟨rfl, rfl⟩
    · have hm200 : ¬ 200 < m := by omega
      have hk3 : ¬ ((k : Int) < ks.length) := by assumption
      have htb := htab hk3
      rw [if_neg hm200] at htb
      have hrb := sm_get (Go.Nt.sm_repW sbw x.count.toNat)
      have hrl : ∀ j, (rep bw j).length = j * bw.length := fun j => rep_length bw j
      have hrl2 : (rep bw x.count.toNat).length = m := by rw [hrl, em, Nat.mul_comm]
      refine awp_loop (ι := Nat) (fun j => [(12, .v (.int .i64 ((j : Nat)))), (11, .own 96 0 1 (rep bw j).length), (7, ints bw), (6, .ref 6 0), (5, .v (.int .i64 ((i : Nat)))), (4, .own 13 0 1 i), (0, nds xs)]) (fun j => ((Hp.emp.upd 13 (.cells i (cM ints [] out))).upd 6 (.cells 6 fun j => ndF xs (i * 6 + j))).upd 96 (.cells (rep bw j).length (cM iv 0 (rep bw j)))) (fun j => j ≤ x.count.toNat) (fun j => x.count.toNat - j) 0 (Nat.zero_le _) (Sub.toL (by simp only [go_sem] <;> first | trivial | (simp only [Option.some.injEq, AV.v.injEq, AV.own.injEq, AV.list.injEq, Value.int.injEq, Value.bool.injEq, true_and, and_true]; first | omega | (simp [rep]; done)) | (simp [rep]; done) | (simp [rep]; omega)) (by (repeat' (first | exact Hp.le_emp _ | exact Hp.le_refl _ | refine Hp.le_upd ?_ ?_)); all_goals (first | rfl | (simp only [go_sem]; first | rfl | (refine cellsE ?_ ?_ <;> (simp [rep])) | (simp [rep]))))) ?_
      intro j hj
      have hrj : (rep bw j).length ≤ m := by rw [hrl, em, Nat.mul_comm]; exact Nat.mul_le_mul_left _ hj
      have hap := apF_cM iv 0 (rep bw j) bw
      have hrs : rep bw j ++ bw = rep bw (j + 1) := by rw [rep_add]; simp [rep]
      rw [hrs] at hap
      have hrs2 : (rep bw j).length + bw.length = (rep bw (j + 1)).length := by rw [← hrs, List.length_append]
      have hrbj := sm_get (Go.Nt.sm_repW sbw j)
      repeat' (first | refine awp_seqK fun K hK => ?_ | (refine awp_regionK 325806030793212363572813750214653 rfl ?_; simp only [List.map_cons, List.map_nil]; simp (maxSteps := 1000000) (dsimp := false) (implicitDefEqProofs := false) (disch := omega) only [wrap64, go_sem, hsc, hap, Nat.le_refl, h0', h0, h1, h2, h3, h4, h5]) | (refine awp_regionQK 325806030793212363572813750214653 (by kernel_rfl) (by kernel_rfl) (by kernel_rfl) ?_; simp only [List.map_cons, List.map_nil]; simp (maxSteps := 1000000) (dsimp := false) (implicitDefEqProofs := false) (disch := omega) only [wrap64, go_sem, hsc, hap, Nat.le_refl, h0', h0, h1, h2, h3, h4, h5]) | refine awp_block ?_ | (refine awp_skip ?_; simp only [go_sem, hsc, hap, Nat.le_refl, h0', h0, h1, h2, h3, h4, h5]) | (refine awp_exit ?_; simp only [go_sem, hsc, hap, Nat.le_refl, h0', h0, h1, h2, h3, h4, h5]) | (refine awp_ret ?_; try simp only [go_sem, hsc, hap, Nat.le_refl, h0', h0, h1, h2, h3, h4, h5]) | (refine awp_condP rfl ?_; try simp only [go_sem, hsc, hap, Nat.le_refl, h0', h0, h1, h2, h3, h4, h5]) | (refine BrP.mk (fun h => ?_) (fun h => ?_) <;> try simp (dsimp := false) (disch := omega) only [wrap64]) | (refine Br.mk (fun h => ?_) (fun h => ?_) <;> try simp (dsimp := false) (disch := omega) only [wrap64]) | refine Ob.mk (by first | omega | (intro _ _; rfl) | trivial | (intros; trivial) | assumption | (intro i hi; have h0 : i = 0 := (by omega); subst h0; first | rfl | trivial) | (intro i hi; have h0 : i = 0 ∨ i = 1 := (by omega); rcases h0 with rfl | rfl <;> rfl) | (intro i hi; have h0 : i = 0 ∨ i = 1 ∨ i = 2 := (by omega); rcases h0 with rfl | rfl | rfl <;> rfl)) ?_ | ((first | ((first | refine atF (f := 174) ?_ | refine atQ (f := 174) ?_); (refine cI (hac := invertWord_ok (rep bw j) (by omega) hrbj 97) (hK := ?_)))); simp (maxSteps := 1000000) (dsimp := false) (implicitDefEqProofs := false) (disch := omega) only [wrap64, go_sem, hsc, hap, Nat.le_refl, h0', h0, h1, h2, h3, h4, h5]) | apply_assumption -exfalso -symm)
      all_goals (first | (show endQ _ _ _ _ _ _ _; (repeat (rename (∀ (A : Fr) (H : Hp), AWP _ _ _ _ A H → _) => hK; clear hK)); (repeat (rename (Fr → Hp → Prop) => K; clear K))) | (show Exists _; (repeat (rename (∀ (A : Fr) (H : Hp), AWP _ _ _ _ A H → _) => hK; clear hK)); (repeat (rename (Fr → Hp → Prop) => K; clear K))) | skip)
      · exact ⟨j + 1, by omega, by omega, Sub.toL (by simp only [go_sem] <;> first | trivial | (simp only [Option.some.injEq, AV.v.injEq, AV.own.injEq, AV.list.injEq, Value.int.injEq, Value.bool.injEq, true_and, and_true]; first | omega | (simp [hrs2]; done)) | (simp [hrs2]; done) | (simp [hrs2]; omega)) (by (repeat' (first | exact Hp.le_emp _ | exact Hp.le_refl _ | refine Hp.le_upd ?_ ?_)); all_goals (first | rfl | (simp only [go_sem]; first | rfl | (refine cellsE ?_ ?_ <;> (simp [hrs2])) | (simp [hrs2]))))⟩
      · have hj2 : j = x.count.toNat := by omega
        rw [if_pos (by assumption), ← hj2] at htb
        refine ⟨(i + 1, out ++ [inv (rep bw j)]), ⟨by dsimp only; omega, htb⟩, by dsimp only; omega, Sub.toFF (fun x => x = 97) (Fr.fit_cons rfl (.ofEq (by simp)) (Fr.fit_cons rfl (.refl _) (Fr.fit_cons rfl (.refl _) (Fr.fit_nil _)))) (leF_upd rfl ⟨rfl, fun q hq => ?_⟩ leF_emp (by omega))⟩
        rw [← hol]
        refine app_fit (g := inv (rep bw j)) (h := 97) out ?_ ?_ ?_ q (by rw [hol]; exact hq) <;> rfl
      · have hj2 : j = x.count.toNat := by omega
        rw [if_neg (by assumption), ← hj2] at htb
        refine ⟨(i + 1, out ++ [rep bw j]), ⟨by dsimp only; omega, htb⟩, by dsimp only; omega, Sub.toFF (fun x => x = 96) (Fr.fit_cons rfl (.ofEq (by simp)) (Fr.fit_cons rfl (.refl _) (Fr.fit_cons rfl (.refl _) (Fr.fit_nil _)))) (leF_upd rfl ⟨rfl, fun q hq => ?_⟩ leF_emp (by omega))⟩
        rw [← hol]
        refine app_fit (g := rep bw j) (h := 96) out ?_ ?_ ?_ q (by rw [hol]; exact hq) <;> rfl
    · rw [htoo (by assumption) (by omega)]
      exact end_tup2 (H' := Hp.emp) rfl (by decide) (Sub.toFF (fun _ => True) (Fr.fit_cons rfl (fits_II0 rfl trivial) (Fr.fit_cons rfl (.refl _) (Fr.fit_nil _))) leF_emp) ⟨rfl, rfl⟩
    · have hm200 : ¬ 200 < m := by omega
      have hk3 : ¬ ((k : Int) < ks.length) := by assumption
      have htb := htab hk3
      rw [if_neg hm200] at htb
      have hrb := sm_get (Go.Nt.sm_repW sbw x.count.toNat)
      have hrl : ∀ j, (rep bw j).length = j * bw.length := fun j => rep_length bw j
      have hrl2 : (rep bw x.count.toNat).length = m := by rw [hrl, em, Nat.mul_comm]
      refine awp_loop (ι := Nat) (fun j => [(12, .v (.int .i64 ((j : Nat)))), (11, .own 96 0 1 (rep bw j).length), (7, ints bw), (6, .ref 6 0), (5, .v (.int .i64 ((i : Nat)))), (4, .own 13 0 1 i), (0, nds xs)]) (fun j => ((Hp.emp.upd 13 (.cells i (cM ints [] out))).upd 6 (.cells 6 fun j => ndF xs (i * 6 + j))).upd 96 (.cells (rep bw j).length (cM iv 0 (rep bw j)))) (fun j => j ≤ x.count.toNat) (fun j => x.count.toNat - j) 0 (Nat.zero_le _) (Sub.toL (by simp only [go_sem] <;> first | trivial | (simp only [Option.some.injEq, AV.v.injEq, AV.own.injEq, AV.list.injEq, Value.int.injEq, Value.bool.injEq, true_and, and_true]; first | omega | (simp [rep]; done)) | (simp [rep]; done) | (simp [rep]; omega)) (by (repeat' (first | exact Hp.le_emp _ | exact Hp.le_refl _ | refine Hp.le_upd ?_ ?_)); all_goals (first | rfl | (simp only [go_sem]; first | rfl | (refine cellsE ?_ ?_ <;> (simp [rep])) | (simp [rep]))))) ?_
      intro j hj
      have hrj : (rep bw j).length ≤ m := by rw [hrl, em, Nat.mul_comm]; exact Nat.mul_le_mul_left _ hj
      have hap := apF_cM iv 0 (rep bw j) bw
      have hrs : rep bw j ++ bw = rep bw (j + 1) := by rw [rep_add]; simp [rep]
      rw [hrs] at hap
      have hrs2 : (rep bw j).length + bw.length = (rep bw (j + 1)).length := by rw [← hrs, List.length_append]
      have hrbj := sm_get (Go.Nt.sm_repW sbw j)
      repeat' (first | refine awp_seqK fun K hK => ?_ | (refine awp_regionK 325806030793212363572813750214653 rfl ?_; simp only [List.map_cons, List.map_nil]; simp (maxSteps := 1000000) (dsimp := false) (implicitDefEqProofs := false) (disch := omega) only [wrap64, go_sem, hsc, hap, Nat.le_refl, h0', h0, h1, h2, h3, h4, h5]) | (refine awp_regionQK 325806030793212363572813750214653 (by kernel_rfl) (by kernel_rfl) (by kernel_rfl) ?_; simp only [List.map_cons, List.map_nil]; simp (maxSteps := 1000000) (dsimp := false) (implicitDefEqProofs := false) (disch := omega) only [wrap64, go_sem, hsc, hap, Nat.le_refl, h0', h0, h1, h2, h3, h4, h5]) | refine awp_block ?_ | (refine awp_skip ?_; simp only [go_sem, hsc, hap, Nat.le_refl, h0', h0, h1, h2, h3, h4, h5]) | (refine awp_exit ?_; simp only [go_sem, hsc, hap, Nat.le_refl, h0', h0, h1, h2, h3, h4, h5]) | (refine awp_ret ?_; try simp only [go_sem, hsc, hap, Nat.le_refl, h0', h0, h1, h2, h3, h4, h5]) | (refine awp_condP rfl ?_; try simp only [go_sem, hsc, hap, Nat.le_refl, h0', h0, h1, h2, h3, h4, h5]) | (refine BrP.mk (fun h => ?_) (fun h => ?_) <;> try simp (dsimp := false) (disch := omega) only [wrap64]) | (refine Br.mk (fun h => ?_) (fun h => ?_) <;> try simp (dsimp := false) (disch := omega) only [wrap64]) | refine Ob.mk (by first | omega | (intro _ _; rfl) | trivial | (intros; trivial) | assumption | (intro i hi; have h0 : i = 0 := (by omega); subst h0; first | rfl | trivial) | (intro i hi; have h0 : i = 0 ∨ i = 1 := (by omega); rcases h0 with rfl | rfl <;> rfl) | (intro i hi; have h0 : i = 0 ∨ i = 1 ∨ i = 2 := (by omega); rcases h0 with rfl | rfl | rfl <;> rfl)) ?_ | ((first | ((first | refine atF (f := 174) ?_ | refine atQ (f := 174) ?_); (refine cI (hac := invertWord_ok (rep bw j) (by omega) hrbj 97) (hK := ?_)))); simp (maxSteps := 1000000) (dsimp := false) (implicitDefEqProofs := false) (disch := omega) only [wrap64, go_sem, hsc, hap, Nat.le_refl, h0', h0, h1, h2, h3, h4, h5]) | apply_assumption -exfalso -symm)
      all_goals (first | (show endQ _ _ _ _ _ _ _; (repeat (rename (∀ (A : Fr) (H : Hp), AWP _ _ _ _ A H → _) => hK; clear hK)); (repeat (rename (Fr → Hp → Prop) => K; clear K))) | (show Exists _; (repeat (rename (∀ (A : Fr) (H : Hp), AWP _ _ _ _ A H → _) => hK; clear hK)); (repeat (rename (Fr → Hp → Prop) => K; clear K))) | skip)
      · exact ⟨j + 1, by omega, by omega, Sub.toL (by simp only [go_sem] <;> first | trivial | (simp only [Option.some.injEq, AV.v.injEq, AV.own.injEq, AV.list.injEq, Value.int.injEq, Value.bool.injEq, true_and, and_true]; first | omega | (simp [hrs2]; done)) | (simp [hrs2]; done) | (simp [hrs2]; omega)) (by (repeat' (first | exact Hp.le_emp _ | exact Hp.le_refl _ | refine Hp.le_upd ?_ ?_)); all_goals (first | rfl | (simp only [go_sem]; first | rfl | (refine cellsE ?_ ?_ <;> (simp [hrs2])) | (simp [hrs2]))))⟩
      · have hj2 : j = x.count.toNat := by omega
        rw [if_pos (by assumption), ← hj2] at htb
        refine ⟨(i + 1, out ++ [inv (rep bw j)]), ⟨by dsimp only; omega, htb⟩, by dsimp only; omega, Sub.toFF (fun x => x = 97) (Fr.fit_cons rfl (.ofEq (by simp)) (Fr.fit_cons rfl (.refl _) (Fr.fit_cons rfl (.refl _) (Fr.fit_nil _)))) (leF_upd rfl ⟨rfl, fun q hq => ?_⟩ leF_emp (by omega))⟩
        rw [← hol]
        refine app_fit (g := inv (rep bw j)) (h := 97) out ?_ ?_ ?_ q (by rw [hol]; exact hq) <;> rfl
      · have hj2 : j = x.count.toNat := by omega
        rw [if_neg (by assumption), ← hj2] at htb
        refine ⟨(i + 1, out ++ [rep bw j]), ⟨by dsimp only; omega, htb⟩, by dsimp only; omega, Sub.toFF (fun x => x = 96) (Fr.fit_cons rfl (.ofEq (by simp)) (Fr.fit_cons rfl (.refl _) (Fr.fit_cons rfl (.refl _) (Fr.fit_nil _)))) (leF_upd rfl ⟨rfl, fun q hq => ?_⟩ leF_emp (by omega))⟩
        rw [← hol]
        refine app_fit (g := rep bw j) (h := 96) out ?_ ?_ ?_ q (by rw [hol]; exact hq) <;> rfl
    · rw [htoo (by assumption) (by omega)]
      exact end_tup2 (H' := Hp.emp) rfl (by decide) (Sub.toFF (fun _ => True) (Fr.fit_cons rfl (fits_II0 rfl trivial) (Fr.fit_cons rfl (.refl _) (Fr.fit_nil _))) leF_emp) ⟨rfl, rfl⟩
    · have hm200 : ¬ 200 < m := by omega
      have hk3 : ¬ ((k : Int) < ks.length) := by assumption
      have htb := htab hk3
      rw [if_neg hm200] at htb
      have hrb := sm_get (Go.Nt.sm_repW sbw x.count.toNat)
      have hrl : ∀ j, (rep bw j).length = j * bw.length := fun j => rep_length bw j
      have hrl2 : (rep bw x.count.toNat).length = m := by rw [hrl, em, Nat.mul_comm]
      refine awp_loop (ι := Nat) (fun j => [(12, .v (.int .i64 ((j : Nat)))), (11, .own 96 0 1 (rep bw j).length), (7, ints bw), (6, .ref 6 0), (5, .v (.int .i64 ((i : Nat)))), (4, .own 13 0 1 i), (0, nds xs)]) (fun j => ((Hp.emp.upd 13 (.cells i (cM ints [] out))).upd 6 (.cells 6 fun j => ndF xs (i * 6 + j))).upd 96 (.cells (rep bw j).length (cM iv 0 (rep bw j)))) (fun j => j ≤ x.count.toNat) (fun j => x.count.toNat - j) 0 (Nat.zero_le _) (Sub.toL (by simp only [go_sem] <;> first | trivial | (simp only [Option.some.injEq, AV.v.injEq, AV.own.injEq, AV.list.injEq, Value.int.injEq, Value.bool.injEq, true_and, and_true]; first | omega | (simp [rep]; done)) | (simp [rep]; done) | (simp [rep]; omega)) (by (repeat' (first | exact Hp.le_emp _ | exact Hp.le_refl _ | refine Hp.le_upd ?_ ?_)); all_goals (first | rfl | (simp only [go_sem]; first | rfl | (refine cellsE ?_ ?_ <;> (simp [rep])) | (simp [rep]))))) ?_
      intro j hj
      have hrj : (rep bw j).length ≤ m := by rw [hrl, em, Nat.mul_comm]; exact Nat.mul_le_mul_left _ hj
      have hap := apF_cM iv 0 (rep bw j) bw
      have hrs : rep bw j ++ bw = rep bw (j + 1) := by rw [rep_add]; simp [rep]
      rw [hrs] at hap
      have hrs2 : (rep bw j).length + bw.length = (rep bw (j + 1)).length := by rw [← hrs, List.length_append]
      have hrbj := sm_get (Go.Nt.sm_repW sbw j)
      repeat' (first | refine awp_seqK fun K hK => ?_ | (refine awp_regionK 325806030793212363572813750214653 rfl ?_; simp only [List.map_cons, List.map_nil]; simp (maxSteps := 1000000) (dsimp := false) (implicitDefEqProofs := false) (disch := omega) only [wrap64, go_sem, hsc, hap, Nat.le_refl, h0', h0, h1, h2, h3, h4, h5]) | (refine awp_regionQK 325806030793212363572813750214653 (by kernel_rfl) (by kernel_rfl) (by kernel_rfl) ?_; simp only [List.map_cons, List.map_nil]; simp (maxSteps := 1000000) (dsimp := false) (implicitDefEqProofs := false) (disch := omega) only [wrap64, go_sem, hsc, hap, Nat.le_refl, h0', h0, h1, h2, h3, h4, h5]) | refine awp_block ?_ | (refine awp_skip ?_; simp only [go_sem, hsc, hap, Nat.le_refl, h0', h0, h1, h2, h3, h4, h5]) | (refine awp_exit ?_; simp only [go_sem, hsc, hap, Nat.le_refl, h0', h0, h1, h2, h3, h4, h5]) | (refine awp_ret ?_; try simp only [go_sem, hsc, hap, Nat.le_refl, h0', h0, h1, h2, h3, h4, h5]) | (refine awp_condP rfl ?_; try simp only [go_sem, hsc, hap, Nat.le_refl, h0', h0, h1, h2, h3, h4, h5]) | (refine BrP.mk (fun h => ?_) (fun h => ?_) <;> try simp (dsimp := false) (disch := omega) only [wrap64]) | (refine Br.mk (fun h => ?_) (fun h => ?_) <;> try simp (dsimp := false) (disch := omega) only [wrap64]) | refine Ob.mk (by first | omega | (intro _ _; rfl) | trivial | (intros; trivial) | assumption | (intro i hi; have h0 : i = 0 := (by omega); subst h0; first | rfl | trivial) | (intro i hi; have h0 : i = 0 ∨ i = 1 := (by omega); rcases h0 with rfl | rfl <;> rfl) | (intro i hi; have h0 : i = 0 ∨ i = 1 ∨ i = 2 := (by omega); rcases h0 with rfl | rfl | rfl <;> rfl)) ?_ | ((first | ((first | refine atF (f := 174) ?_ | refine atQ (f := 174) ?_); (refine cI (hac := invertWord_ok (rep bw j) (by omega) hrbj 97) (hK := ?_)))); simp (maxSteps := 1000000) (dsimp := false) (implicitDefEqProofs := false) (disch := omega) only [wrap64, go_sem, hsc, hap, Nat.le_refl, h0', h0, h1, h2, h3, h4, h5]) | apply_assumption -exfalso -symm)
      all_goals (first | (show endQ _ _ _ _ _ _ _; (repeat (rename (∀ (A : Fr) (H : Hp), AWP _ _ _ _ A H → _) => hK; clear hK)); (repeat (rename (Fr → Hp → Prop) => K; clear K))) | (show Exists _; (repeat (rename (∀ (A : Fr) (H : Hp), AWP _ _ _ _ A H → _) => hK; clear hK)); (repeat (rename (Fr → Hp → Prop) => K; clear K))) | skip)
      · exact ⟨j + 1, by omega, by omega, Sub.toL (by simp only [go_sem] <;> first | trivial | (simp only [Option.some.injEq, AV.v.injEq, AV.own.injEq, AV.list.injEq, Value.int.injEq, Value.bool.injEq, true_and, and_true]; first | omega | (simp [hrs2]; done)) | (simp [hrs2]; done) | (simp [hrs2]; omega)) (by (repeat' (first | exact Hp.le_emp _ | exact Hp.le_refl _ | refine Hp.le_upd ?_ ?_)); all_goals (first | rfl | (simp only [go_sem]; first | rfl | (refine cellsE ?_ ?_ <;> (simp [hrs2])) | (simp [hrs2]))))⟩
      · have hj2 : j = x.count.toNat := by omega
        rw [if_pos (by assumption), ← hj2] at htb
        refine ⟨(i + 1, out ++ [inv (rep bw j)]), ⟨by dsimp only; omega, htb⟩, by dsimp only; omega, Sub.toFF (fun x => x = 97) (Fr.fit_cons rfl (.ofEq (by simp)) (Fr.fit_cons rfl (.refl _) (Fr.fit_cons rfl (.refl _) (Fr.fit_nil _)))) (leF_upd rfl ⟨rfl, fun q hq => ?_⟩ leF_emp (by omega))⟩
        rw [← hol]
        refine app_fit (g := inv (rep bw j)) (h := 97) out ?_ ?_ ?_ q (by rw [hol]; exact hq) <;> rfl
      · have hj2 : j = x.count.toNat := by omega
        rw [if_neg (by assumption), ← hj2] at htb
        refine ⟨(i + 1, out ++ [rep bw j]), ⟨by dsimp only; omega, htb⟩, by dsimp only; omega, Sub.toFF (fun x => x = 96) (Fr.fit_cons rfl (.ofEq (by simp)) (Fr.fit_cons rfl (.refl _) (Fr.fit_cons rfl (.refl _) (Fr.fit_nil _)))) (leF_upd rfl ⟨rfl, fun q hq => ?_⟩ leF_emp (by omega))⟩
        rw [← hol]
        refine app_fit (g := rep bw j) (h := 96) out ?_ ?_ ?_ q (by rw [hol]; exact hq) <;> rfl
  · have e : i = xs.length := by omega
    have e2 : tabP xs = (out, true) := by unfold tabP; rw [← e, ht]
    rw [e2]
    exact end_tup2 (H' := Hp.emp) rfl (by decide) (Sub.toFF (fun _ => True) (Fr.fit_cons rfl (fits_II rfl trivial rfl hol.symm) (Fr.fit_cons rfl (.refl _) (Fr.fit_nil _))) leF_emp) ⟨rfl, rfl⟩
end Go.Proofs.Ytphpegemhnodcaa

import Derived.Test.YticbabpajligbaaDoorK12
import Derived.Test.YticbabpajligbaaDoorK27
import Derived.Test.YticbabpajligbaaDoorK28
import Derived.Test.YticbabpajligbaaDoorK29
import Derived.Test.YticbabpajligbaaDoorK26
/- The expansion of a node, the program's text. -/
section
namespace Go.Proofs.YticbabpajligbaaDoor
open Go.Av
set_option linter.unusedSimpArgs false
set_option linter.unusedVariables false
attribute [local irreducible] AWP CallG Ob Br BrP Go.Av.Sub endQ AOps OpV AC thenA blkA opsVC opVC withA withArgs opsQ opQ CallQ withA2 withArgs2
open Go.Nt (Nd nd0 kd ndOk sz isNt ex ndW bas kidsO)
/-- What expand answers. -/
def exP (xs : List Nd) (i : Nat) : List Int × Bool := match ex xs i with
  | some w => (w, true)
  | none => ([], false)
theorem sm_get {w : List Int} (h : Go.Nt.sm w) (j : Nat) : -1000 ≤ w.getD j 0 ∧ w.getD j 0 ≤ 1000 := by
  by_cases hj : j < w.length
  · have := h _ (mem_getD.2 ⟨j, hj, rfl⟩); omega
  · rw [List.getD_eq_getElem?_getD, List.getElem?_eq_none (by omega)]; exact ⟨by decide, by decide⟩
theorem exP_len (xs : List Nd) (i : Nat) : (exP xs i).1.length ≤ 200 := by
  unfold exP
  split
  · rename_i w h; exact Go.Nt.ex_len h
  · simp
theorem exP_some {xs : List Nd} {i : Nat} (h : (exP xs i).2 = true) : ex xs i = some (exP xs i).1 := by
  unfold exP at h ⊢
  cases e : ex xs i with
  | none => rw [e] at h; cases h
  | some w => rfl
theorem exP_none {xs : List Nd} {i : Nat} (h : ¬ (exP xs i).2 = true) : ex xs i = none := by
  unfold exP at h
  cases e : ex xs i with
  | none => rfl
  | some w => rw [e] at h; exact absurd rfl h
set_option maxHeartbeats 8000000 in
theorem implExpand_ok (xs : List Nd) (hv : isNt 8 xs) : ∀ i, i < xs.length → ∀ d, AC Tryd.prog 83 [nds xs, .v (.int .i64 ((i : Nat)))] Hp.emp (fun _ => false) (retIB d (exP xs i).1 (exP xs i).2) := by
  intro i
  induction i using Nat.strongRecOn with
  | _ i ih =>
    intro hi d
    have hn := ndF_is xs i
    have h0 := hn.h0
    have h1 := hn.h1
    have h2 := hn.h2
    have h3 := hn.h3
    have h4 := hn.h4
    have h5 := hn.h5
    clear hn
    have hl := hv.2.1
    refine ac_of_awp (N := ⟨_, fun _ => false, fun _ _ => rfl, true⟩) Tryd.func83 rfl (by kernel_rfl) Tryd.ntmps83 (by simp) ?_
    simp only [argsFr, List.zipIdx_cons, List.zipIdx_nil, go_sem]
    repeat' (first | (refine Ob.mk (all6 (by simp only [scF_app, h0]; rfl) (by simp only [scF_app, h1]; rfl) (by simp only [scF_app, h2]; rfl) (by simp only [scF_app, h3]; rfl) (by simp only [scF_app, h4]; rfl) (by simp only [scF_app, h5]; rfl)) ?_) | refine awp_seqK fun K hK => ?_ | (refine awp_regionK 623806313806934970683899891 rfl ?_; simp only [List.map_cons, List.map_nil]; simp (maxSteps := 1000000) (dsimp := false) (implicitDefEqProofs := false) (disch := omega) only [wrap64, go_sem, scF_app, h0, h1, h2, h3, h4, h5]) | (refine awp_regionQK 623806313806934970683899891 (by kernel_rfl) (by kernel_rfl) (by kernel_rfl) ?_; simp only [List.map_cons, List.map_nil]; simp (maxSteps := 1000000) (dsimp := false) (implicitDefEqProofs := false) (disch := omega) only [wrap64, go_sem, scF_app, h0, h1, h2, h3, h4, h5]) | refine awp_block ?_ | (refine awp_skip ?_; simp only [go_sem, scF_app, h0, h1, h2, h3, h4, h5]) | (refine awp_exit ?_; simp only [go_sem, scF_app, h0, h1, h2, h3, h4, h5]) | (refine awp_ret ?_; try simp only [go_sem, scF_app, h0, h1, h2, h3, h4, h5]) | (refine awp_condP rfl ?_; try simp only [go_sem, scF_app, h0, h1, h2, h3, h4, h5]) | (refine BrP.mk (fun h => ?_) (fun h => ?_) <;> try simp (dsimp := false) (disch := omega) only [wrap64]) | (refine Br.mk (fun h => ?_) (fun h => ?_) <;> try simp (dsimp := false) (disch := omega) only [wrap64]) | refine Ob.mk (by first | omega | (intro _ _; rfl) | trivial | (intros; trivial) | assumption | (intro i hi; have h0 : i = 0 := (by omega); subst h0; first | rfl | trivial) | (intro i hi; have h0 : i = 0 ∨ i = 1 := (by omega); rcases h0 with rfl | rfl <;> rfl) | (intro i hi; have h0 : i = 0 ∨ i = 1 ∨ i = 2 := (by omega); rcases h0 with rfl | rfl | rfl <;> rfl)) ?_ | apply_assumption -exfalso -symm)
    all_goals (first | (show endQ _ _ _ _ _ _ _; (repeat (rename (∀ (A : Fr) (H : Hp), AWP _ _ _ _ A H → _) => hK; clear hK)); (repeat (rename (Fr → Hp → Prop) => K; clear K))) | (show Exists _; (repeat (rename (∀ (A : Fr) (H : Hp), AWP _ _ _ _ A H → _) => hK; clear hK)); (repeat (rename (Fr → Hp → Prop) => K; clear K))) | skip)
    have hkb := Go.Nt.kidsB_of hv.2.2.2
    have hkl := Go.Nt.kids_len hv.2.2.2 hi
    obtain ⟨ks, eks⟩ : ∃ ks, ks = kd xs i := ⟨_, rfl⟩
    have hkb' : ∀ c ∈ ks, 0 ≤ c ∧ c < i := by rw [eks]; exact hkb i hi
    have h5' : ndF xs (i * 6 + 5) = .list false 1 (ks).length (cM iv 0 (ks)) := by rw [eks]; exact h5
    show AWP _ _ _ _ ((21, .v (.int .i64 (0))) :: (20, .v (.int .i64 ((kd xs i).length))) :: (19, .list false 1 (kd xs i).length (cM iv 0 (kd xs i))) :: _) _
    rw [← eks]
    have hsc : ∀ q, scF q (fun j => ndF xs (i * 6 + j)) = fun j => ndF xs (i * 6 + j) := fun q => by funext j; exact (ndF_plain xs _).2 q
    rw [hsc]
    obtain ⟨sp, esp⟩ : ∃ sp : Nat, sp = if (xs.getD i nd0).split = 0 then ks.length else (xs.getD i nd0).split.toNat := ⟨_, rfl⟩
    refine awp_loop (ι := List (List Int)) (fun ws => [(21, .v (.int .i64 (ws.length))), (20, .v (.int .i64 (ks.length))), (19, .list false 1 (ks).length (cM iv 0 (ks))), (8, .own 48 0 1 (ws.drop sp).flatten.length), (7, .own 45 0 1 (ws.take sp).flatten.length), (6, .ref 6 0), (0, nds xs)]) (fun ws => ((Hp.emp.upd 6 (.cells 6 (fun j => ndF xs (i * 6 + j)))).upd 45 (.cells (ws.take sp).flatten.length (cM iv 0 (ws.take sp).flatten))).upd 48 (.cells (ws.drop sp).flatten.length (cM iv 0 (ws.drop sp).flatten))) (fun ws => ws.length ≤ ks.length ∧ (∀ w ∈ ws, w.length ≤ 200) ∧ ∀ k, k < ws.length → ex xs (ks.getD k 0).toNat = some (ws.getD k [])) (fun ws => ks.length - ws.length) [] ⟨Nat.zero_le _, by simp, fun k hk => absurd hk (by simp)⟩ ?_ ?_
    · simp only [List.take_nil, List.drop_nil, List.flatten_nil, List.length_nil]
      refine Sub.trans (Sub.nil (i := 8) 48 1 (cM iv 0 []) rfl rfl) (Sub.trans (Sub.nil (i := 7) 45 1 (cM iv 0 []) rfl rfl) (Sub.toL (by simp only [go_sem] <;> first | trivial | (simp only [Option.some.injEq, AV.v.injEq, AV.own.injEq, AV.list.injEq, Value.int.injEq, Value.bool.injEq, true_and, and_true]; first | omega | (simp; done)) | (simp; done) | (simp; omega)) (Hp.le_upd ?_ (Hp.le_upd ?_ (Hp.le_upd ?_ (Hp.le_emp _)))))) <;> simp only [go_sem, hsc]
    rintro ws ⟨hw1, hw2, hw3⟩
    have hbt := Go.Nt.flat_len (L := 200) (ws.take sp) fun w hw => hw2 w (List.mem_of_mem_take hw)
    have hbd := Go.Nt.flat_len (L := 200) (ws.drop sp) fun w hw => hw2 w (List.mem_of_mem_drop hw)
    rw [List.length_take] at hbt
    rw [List.length_drop] at hbd
    have hx := hv.2.2.1 i hi
    obtain ⟨A, eA⟩ : ∃ A, A = (ws.take sp).flatten := ⟨_, rfl⟩
    obtain ⟨B, eB⟩ : ∃ B, B = (ws.drop sp).flatten := ⟨_, rfl⟩
    rw [← eA] at hbt ⊢
    rw [← eB] at hbd ⊢
    obtain ⟨c, ec⟩ : ∃ c : Nat, c = (ks.getD ws.length 0).toNat := ⟨_, rfl⟩
    have hc : ws.length < ks.length → ks.getD ws.length 0 = (c : Int) ∧ c < i := fun h => by
      have hm : ks.getD ws.length 0 ∈ ks := by rw [List.getD_eq_getElem?_getD, List.getElem?_eq_getElem h]; exact List.getElem_mem _
      have := hkb' _ hm
      omega
    have hcc : ks.getD ws.length 0 = (c : Int) ∨ ks.length ≤ ws.length := by
      rcases Nat.lt_or_ge ws.length ks.length with h | h
      · exact .inl (hc h).1
      · exact .inr h
    have hc1 : ws.length < ks.length → ks.getD ws.length 0 = (c : Int) := fun h => (hc h).1
    have hks : ks.length ≤ 199 := by rw [eks]; omega
    have hyl := exP_len xs c
    obtain ⟨x, ex⟩ : ∃ x, x = xs.getD i nd0 := ⟨_, rfl⟩
    rw [← ex] at h0 h1 h2 h3 h4 hx esp
    have h0' : ndF xs (i * 6) = .v (.int .i64 (x.kind)) := h0
    have hct : 1 ≤ x.count ∧ x.count ≤ 99 := hx.1
    have hmv : x.kind = 1 → 0 ≤ x.move ∧ x.move ≤ 7 := fun h => by
      rcases hx.2.2 with ⟨_, h2, _⟩ | ⟨_, h2 | h2 | h2⟩ <;> omega
    have esp' := esp
    have hspl : 0 ≤ x.split ∧ x.split ≤ 1000 := by
      have hxk : x.kids.length = ks.length := by rw [ex, eks]
      rcases hx.2.2 with ⟨_, _, _, _, _, h2⟩ | ⟨_, h2 | h2 | h2⟩ <;> omega
    have hAl : A.length ≤ 40000 := by have := Nat.min_le_right sp ws.length; omega
    have hBl : B.length ≤ 40000 := by omega
    have hws : ∀ w ∈ ws, Go.Nt.sm w := fun w hw => by
      obtain ⟨k, hk, e⟩ := List.mem_iff_getElem.1 hw
      have h2 := hw3 k hk
      rw [List.getD_eq_getElem?_getD (l := ws), List.getElem?_eq_getElem hk, Option.getD_some, e] at h2
      have hm : ks.getD k 0 ∈ ks := by rw [List.getD_eq_getElem?_getD, List.getElem?_eq_getElem (by omega)]; exact List.getElem_mem _
      have := hkb' _ hm
      exact Go.Nt.ex_small hv _ (by omega) w h2
    have sA : Go.Nt.sm A := by rw [eA]; exact Go.Nt.sm_flat fun v hv => hws v (List.mem_of_mem_take hv)
    have sB : Go.Nt.sm B := by rw [eB]; exact Go.Nt.sm_flat fun v hv => hws v (List.mem_of_mem_drop hv)
    have hsA := sm_get sA
    have hsB := sm_get sB
    obtain ⟨bw, ebw⟩ : ∃ bw, bw = bas x (ws.take x.split.toNat).flatten (ws.drop x.split.toNat).flatten := ⟨_, rfl⟩
    have hxk : x.kids.length = ks.length := by rw [ex, eks]
    have hsame : x.split ≠ 0 → bw = bas x A B := fun h => by rw [ebw, eA, eB, esp', if_neg h]
    have hb1 : ¬ ((ws.length : Int) < ks.length) → x.kind = 1 → bw = [x.move + 1] := fun _ h => by
      have h0 : ws = [] := by
        have : ws.length = 0 := by rcases hx.2.2 with ⟨_, h2, _⟩ | ⟨_, h2 | h2 | h2⟩ <;> omega
        exact List.eq_nil_of_length_eq_zero this
      rw [ebw, h0]; unfold bas; rw [if_pos h, if_neg (by omega), if_neg (by omega)]; simp
    have hb3 : x.kind = 3 → bw = [A, B, inv A, inv B].flatten := fun h => by
      rw [hsame (by rcases hx.2.2 with ⟨_, h2, _⟩ | ⟨_, h2 | h2 | h2⟩ <;> omega)]
      unfold bas; rw [if_neg (by omega), if_pos (.inl h), if_pos h]; simp [inv, Go.Wd.inv]
    have hb4 : x.kind = 4 → bw = [A, B, inv A].flatten := fun h => by
      rw [hsame (by rcases hx.2.2 with ⟨_, h2, _⟩ | ⟨_, h2 | h2 | h2⟩ <;> omega)]
      unfold bas; rw [if_neg (by omega), if_pos (.inr h), if_neg (by omega)]; simp [inv, Go.Wd.inv]
    have hb2 : ¬ ((ws.length : Int) < ks.length) → ¬ x.kind = 1 → ¬ x.kind = 3 → ¬ x.kind = 4 → bw = A := fun hl h1 h3 h4 => by
      have hs0 : x.split = 0 := by rcases hx.2.2 with ⟨_, _, _, _, _, h2⟩ | ⟨_, h2 | h2 | h2⟩ <;> omega
      rw [ebw, eA, esp', if_pos hs0, hs0, List.take_of_length_le (by omega : ws.length ≤ ks.length)]
      unfold bas; rw [if_neg h1, if_neg (by omega), if_neg h3]; simp
    have hbl : bw.length ≤ 160001 := by
      by_cases hs : x.split = 0
      · have h9 := Go.Nt.flat_len (L := 200) ws hw2
        have h8 := Go.Nt.bas_len x [] ws.flatten
        have e9 : bw = bas x [] ws.flatten := by rw [ebw, hs]; rfl
        rw [e9]
        have : ([] : List Int).length = 0 := rfl
        omega
      · rw [hsame hs]
        have := Go.Nt.bas_len x A B
        omega
    have sbw : Go.Nt.sm bw := by
      rw [ebw]
      exact Go.Nt.sm_bas hmv (Go.Nt.sm_flat fun v hv => hws v (List.mem_of_mem_take hv)) (Go.Nt.sm_flat fun v hv => hws v (List.mem_of_mem_drop hv))
    obtain ⟨m, em⟩ : ∃ m, m = bw.length * x.count.toNat := ⟨_, rfl⟩
    have hm1 : m ≤ 160001 * 99 := by rw [em]; exact Nat.mul_le_mul hbl (by omega)
    have hm2 : bw.length ≤ m := by rw [em]; exact Nat.le_mul_of_pos_right _ (by omega)
    have em' : (bw.length : Int) * x.count = (m : Int) := by
      rw [em, Int.natCast_mul]; congr 1; omega
    have hrl : (rep bw x.count.toNat).length = m := by rw [rep_length, em, Nat.mul_comm]
    have hrb := sm_get (Go.Nt.sm_repW sbw x.count.toNat)
    have hc4 : [A, B, inv A, inv B].flatten.length ≤ 1048576 := by simp [inv]; omega
    have hc3 : [A, B, inv A].flatten.length ≤ 1048576 := by simp [inv]; omega
    obtain ⟨y, ey⟩ : ∃ y, y = (exP xs c).1 := ⟨_, rfl⟩
    have hA1 : ws.length < sp → ((ws ++ [y]).take sp).flatten = A ++ y ∧ ((ws ++ [y]).drop sp).flatten = B := fun h => by
      rw [eA, eB, List.take_of_length_le (by simp; omega), List.take_of_length_le (by omega), List.drop_eq_nil_of_le (by simp; omega), List.drop_eq_nil_of_le (by omega)]
      simp
    have hB1 : sp ≤ ws.length → ((ws ++ [y]).take sp).flatten = A ∧ ((ws ++ [y]).drop sp).flatten = B ++ y := fun h => by
      rw [eA, eB, List.take_append_of_le_length h, List.drop_append_of_le_length h]
      simp
    have hnew : ((ws.length : Int) < ks.length) → (exP xs c).2 = true → (ws ++ [y]).length ≤ ks.length ∧ (∀ w ∈ ws ++ [y], w.length ≤ 200) ∧ ∀ k, k < (ws ++ [y]).length → Go.Nt.ex xs (ks.getD k 0).toNat = some ((ws ++ [y]).getD k []) := fun h1 h2 => by
      refine ⟨by simp; omega, fun w hw => ?_, fun k hk => ?_⟩
      · rcases List.mem_append.1 hw with h | h
        · exact hw2 w h
        · rw [List.mem_singleton.1 h, ey]; exact hyl
      · rw [List.length_append, List.length_singleton] at hk
        by_cases hkw : k < ws.length
        · rw [hw3 k hkw, List.getD_eq_getElem?_getD, List.getD_eq_getElem?_getD, List.getElem?_append_left hkw]
        · have e : k = ws.length := by omega
          subst e
          rw [← ec, exP_some h2, ← ey]
          simp [List.getD_eq_getElem?_getD]
    have hspc : (x.split = 0 → sp = ks.length) ∧ (x.split ≠ 0 → sp = x.split.toNat) := ⟨fun h => by rw [esp', if_pos h], fun h => by rw [esp', if_neg h]⟩
    have hexn : ((ws.length : Int) < ks.length) → ¬ (exP xs c).2 = true → exP xs i = ([], false) := fun h1 h2 => by
      have := Go.Nt.ex_none (Go.Nt.kidsB_of hv.2.2.2) hi (k := ws.length) (by rw [← eks]; omega) (by rw [← eks, ← ec]; exact exP_none h2)
      unfold exP; rw [this]
    have hexi : ¬ ((ws.length : Int) < ks.length) → exP xs i = if 200 < m then ([], false) else (if x.inv = 1 then inv (rep bw x.count.toNat) else rep bw x.count.toNat, true) := fun h => by
      have hl2 : ws.length = ks.length := by omega
      have := Go.Nt.ex_some (Go.Nt.kidsB_of hv.2.2.2) hi (ws := ws) (by rw [hl2, eks]) (by rw [← eks]; intro k hk; exact hw3 k (by omega))
      unfold exP; rw [this, ← ex]
      unfold ndW
      rw [← ebw, ← em]
      by_cases hm : 200 < m
      · rw [if_pos hm, if_pos hm]
      · rw [if_neg hm, if_neg hm]; rfl
    repeat' (first | (refine awp_cutR 13 22 (A' := [(8, ints B), (7, ints A), (6, .ref 6 0)]) (H' := Hp.emp.upd 6 (.cells 6 (fun j => ndF xs (i * 6 + j)))) (Sub.toFF (fun x => x = 45 ∨ x = 48) (Fr.fit_cons rfl (fits_I rfl (.inr rfl) rfl rfl) (Fr.fit_cons rfl (fits_I rfl (.inl rfl) rfl rfl) (Fr.fit_cons rfl (.refl _) (Fr.fit_nil _)))) (leF_upd rfl (.refl _ _ _) leF_emp (by omega))) ?_) | (first | (refine awp_cutR 21 13 (A' := [(13, ints bw), (6, .ref 6 0)]) (H' := Hp.emp.upd 6 (.cells 6 (fun j => ndF xs (i * 6 + j)))) (by rw [hb1 (by assumption) (by assumption)]; exact Sub.toFF (fun x => x = 58) (Fr.fit_cons rfl (fits_I rfl rfl rfl rfl) (Fr.fit_cons rfl (.refl _) (Fr.fit_nil _))) (leF_upd rfl (.refl _ _ _) leF_emp (by omega))) ?_) | (refine awp_cutR 21 13 (A' := [(13, ints bw), (6, .ref 6 0)]) (H' := Hp.emp.upd 6 (.cells 6 (fun j => ndF xs (i * 6 + j)))) (by rw [hb3 (by assumption)]; exact Sub.toFF (fun x => x = 60) (Fr.fit_cons rfl (fits_I rfl rfl rfl rfl) (Fr.fit_cons rfl (.refl _) (Fr.fit_nil _))) (leF_upd rfl (.refl _ _ _) leF_emp (by omega))) ?_) | (refine awp_cutR 21 13 (A' := [(13, ints bw), (6, .ref 6 0)]) (H' := Hp.emp.upd 6 (.cells 6 (fun j => ndF xs (i * 6 + j)))) (by rw [hb4 (by assumption)]; exact Sub.toFF (fun x => x = 60) (Fr.fit_cons rfl (fits_I rfl rfl rfl rfl) (Fr.fit_cons rfl (.refl _) (Fr.fit_nil _))) (leF_upd rfl (.refl _ _ _) leF_emp (by omega))) ?_) | (refine awp_cutR 21 69 (A' := [(13, ints bw), (6, .ref 6 0)]) (H' := Hp.emp.upd 6 (.cells 6 (fun j => ndF xs (i * 6 + j)))) (by rw [hb2 (by assumption) (by assumption) (by assumption) (by assumption)]; exact Sub.toFF (fun x => x = 60) (Fr.fit_cons rfl (.refl _) (Fr.fit_cons rfl (.refl _) (Fr.fit_nil _))) (leF_upd rfl (.refl _ _ _) leF_emp (by omega))) ?_)) | refine awp_seqK fun K hK => ?_ | (refine awp_regionK 623806313806934970683899891 rfl ?_; simp only [List.map_cons, List.map_nil]; simp (maxSteps := 2000000) (dsimp := false) (implicitDefEqProofs := false) (disch := omega) only [wrap64, go_sem, hc1, hsc, Nat.le_refl, em', h0', h0, h1, h2, h3, h4]) | (refine awp_regionQK 623806313806934970683899891 (by kernel_rfl) (by kernel_rfl) (by kernel_rfl) ?_; simp only [List.map_cons, List.map_nil]; simp (maxSteps := 2000000) (dsimp := false) (implicitDefEqProofs := false) (disch := omega) only [wrap64, go_sem, hc1, hsc, Nat.le_refl, em', h0', h0, h1, h2, h3, h4]) | refine awp_block ?_ | (refine awp_skip ?_; simp only [go_sem, hc1, hsc, Nat.le_refl, em', h0', h0, h1, h2, h3, h4]) | (refine awp_exit ?_; simp only [go_sem, hc1, hsc, Nat.le_refl, em', h0', h0, h1, h2, h3, h4]) | (refine awp_ret ?_; try simp only [go_sem, hc1, hsc, Nat.le_refl, em', h0', h0, h1, h2, h3, h4]) | (refine awp_condP rfl ?_; try simp only [go_sem, hc1, hsc, Nat.le_refl, em', h0', h0, h1, h2, h3, h4]) | (refine BrP.mk (fun h => ?_) (fun h => ?_) <;> try simp (dsimp := false) (disch := omega) only [wrap64]) | (refine Br.mk (fun h => ?_) (fun h => ?_) <;> try simp (dsimp := false) (disch := omega) only [wrap64]) | refine Ob.mk (by first | omega | (intro _ _; rfl) | trivial | (intros; trivial) | assumption | (intro i hi; have h0 : i = 0 := (by omega); subst h0; first | rfl | trivial) | (intro i hi; have h0 : i = 0 ∨ i = 1 := (by omega); rcases h0 with rfl | rfl <;> rfl) | (intro i hi; have h0 : i = 0 ∨ i = 1 ∨ i = 2 := (by omega); rcases h0 with rfl | rfl | rfl <;> rfl)) ?_ | ((first | ((first | refine atF (f := 83) ?_ | refine atQ (f := 83) ?_); (refine cIB (hac := ih c (hc (by omega)).2 (by omega) 40) (hK := ?_))) | ((first | refine atF (f := 101) ?_ | refine atQ (f := 101) ?_); (first | (refine cFI (hac := inverseWord_ok A (by omega) hsA 61) (hK := ?_)) | (refine cQI (hac := inverseWord_ok A (by omega) hsA 61) (hK := ?_)))) | ((first | refine atF (f := 101) ?_ | refine atQ (f := 101) ?_); (first | (refine cFI (hac := inverseWord_ok B (by omega) hsB 62) (hK := ?_)) | (refine cQI (hac := inverseWord_ok B (by omega) hsB 62) (hK := ?_)))) | ((first | refine atF (f := 100) ?_ | refine atQ (f := 100) ?_); (first | refine cI (hfit := FitsL.cons (fits_lit4 rfl trivial) .nil) (hac := sliceConcat_ok [A, B, inv A, inv B] (by simp) hc4 60) (hK := ?_) | refine cI (hfit := FitsL.cons (fits_lit3 rfl trivial) .nil) (hac := sliceConcat_ok [A, B, inv A] (by simp) hc3 60) (hK := ?_))) | ((first | refine atF (f := 43) ?_ | refine atQ (f := 43) ?_); (first | (refine cV (hac := length_ok bw) (hK := ?_)) | (refine cQV (hac := length_ok bw) (hK := ?_)))) | ((first | refine atF (f := 102) ?_ | refine atQ (f := 102) ?_); (refine cI (hac := sliceRepeatI_ok bw x.count (by omega) (by omega) (by rw [Nat.mul_comm, ← em]; omega) 63) (hK := ?_))) | ((first | refine atF (f := 101) ?_ | refine atQ (f := 101) ?_); (refine cI (hac := inverseWord_ok (rep bw x.count.toNat) (by omega) hrb 64) (hK := ?_)))); simp (maxSteps := 2000000) (dsimp := false) (implicitDefEqProofs := false) (disch := omega) only [wrap64, go_sem, hc1, hsc, Nat.le_refl, em', h0', h0, h1, h2, h3, h4]) | apply_assumption -exfalso -symm)
    all_goals (first | (show endQ _ _ _ _ _ _ _; (repeat (rename (∀ (A : Fr) (H : Hp), AWP _ _ _ _ A H → _) => hK; clear hK)); (repeat (rename (Fr → Hp → Prop) => K; clear K))) | (show Exists _; (repeat (rename (∀ (A : Fr) (H : Hp), AWP _ _ _ _ A H → _) => hK; clear hK)); (repeat (rename (Fr → Hp → Prop) => K; clear K))) | skip)
    · obtain ⟨q1, q2⟩ := hA1 (by have := hspc.1; have := hspc.2; omega)
      refine ⟨ws ++ [y], hnew (by assumption) (by assumption), by simp; omega, ?_⟩
      rw [q1, q2, List.length_append, List.length_singleton, List.length_append, ey]
      exact Sub.toL (by simp only [go_sem] <;> first | trivial | (simp only [Option.some.injEq, AV.v.injEq, AV.own.injEq, AV.list.injEq, Value.int.injEq, Value.bool.injEq, true_and, and_true]; first | omega | (simp; done)) | (simp; done) | (simp; omega)) (by (repeat' (first | exact Hp.le_emp _ | exact Hp.le_refl _ | refine Hp.le_upd ?_ ?_)); all_goals (first | rfl | (simp only [go_sem]; first | rfl | (refine cellsE ?_ ?_ <;> (simp)) | (simp))))
    · obtain ⟨q1, q2⟩ := hA1 (by have := hspc.1; have := hspc.2; omega)
      refine ⟨ws ++ [y], hnew (by assumption) (by assumption), by simp; omega, ?_⟩
      rw [q1, q2, List.length_append, List.length_singleton, List.length_append, ey]
      exact Sub.toL (by simp only [go_sem] <;> first | trivial | (simp only [Option.some.injEq, AV.v.injEq, AV.own.injEq, AV.list.injEq, Value.int.injEq, Value.bool.injEq, true_and, and_true]; first | omega | (simp; done)) | (simp; done) | (simp; omega)) (by (repeat' (first | exact Hp.le_emp _ | exact Hp.le_refl _ | refine Hp.le_upd ?_ ?_)); all_goals (first | rfl | (simp only [go_sem]; first | rfl | (refine cellsE ?_ ?_ <;> (simp)) | (simp))))
    · obtain ⟨q1, q2⟩ := hB1 (by have := hspc.1; have := hspc.2; omega)
      refine ⟨ws ++ [y], hnew (by assumption) (by assumption), by simp; omega, ?_⟩
      rw [q1, q2, List.length_append, List.length_singleton, List.length_append, ey]
      exact Sub.toL (by simp only [go_sem] <;> first | trivial | (simp only [Option.some.injEq, AV.v.injEq, AV.own.injEq, AV.list.injEq, Value.int.injEq, Value.bool.injEq, true_and, and_true]; first | omega | (simp; done)) | (simp; done) | (simp; omega)) (by (repeat' (first | exact Hp.le_emp _ | exact Hp.le_refl _ | refine Hp.le_upd ?_ ?_)); all_goals (first | rfl | (simp only [go_sem]; first | rfl | (refine cellsE ?_ ?_ <;> (simp)) | (simp))))
    · have e := hexn (by assumption) (by first | assumption | (rw [Bool.not_eq_true]; assumption) | (intro hh; simp [hh] at *; done))
      exact end_retIB_nil' rfl rfl rfl e (by decide) rfl
    all_goals
      have e := hexi (by assumption)
      (first | refine end_retIB' rfl rfl rfl rfl ?_ (by decide) rfl rfl | refine end_retIB_nil' rfl rfl rfl ?_ (by decide) rfl)
      rw [e]
      first
      | (rw [if_pos (by omega)]; done)
      | (rw [if_neg (by omega), if_pos (by omega)]; done)
      | (rw [if_neg (by omega), if_neg (by omega)]; done)
end Go.Proofs.YticbabpajligbaaDoor
end
/- The expansions of all nodes, the reference's text. -/
section
namespace Go.Proofs.YticbabpajligbaaDoor
open Go.Av
set_option linter.unusedSimpArgs false
set_option linter.unusedVariables false
attribute [local irreducible] AWP CallG Ob Br BrP Go.Av.Sub endQ AOps OpV AC thenA blkA opsVC opVC withA withArgs opsQ opQ CallQ withA2 withArgs2
open Go.Nt (Nd nd0 kd ndOk sz isNt ex ndW bas tab)
end Go.Proofs.YticbabpajligbaaDoor
end
/- ExpandNotation, both texts. -/
section
namespace Go.Proofs.YticbabpajligbaaDoor
open Go.Av
set_option linter.unusedSimpArgs false
set_option linter.unusedVariables false
attribute [local irreducible] AWP CallG Ob Br BrP Go.Av.Sub endQ AOps OpV AC thenA blkA opsVC opVC withA withArgs opsQ opQ CallQ withA2 withArgs2
open Go.Nt (Nd nd0 kd ndOk sz isNt ex ndW bas tab)
/-- What ExpandNotation answers. -/
def expaP (xs : List Nd) : List Int × Bool := if isNt 8 xs then exP xs (xs.length - 1) else ([], false)
theorem implExpandNotation_ok (xs : List Nd) (hx : xs.length ≤ 1048576) (hb : ∀ j, (kd xs j).length ≤ 1048576) (d : Nat) : AC Tryd.prog 63 [nds xs] Hp.emp (fun _ => false) (retIB d (expaP xs).1 (expaP xs).2) := by
  have hn : isNt 8 xs → ((xs.length : Int) - 1) = ((xs.length - 1 : Nat) : Int) ∧ xs.length - 1 < xs.length := fun h => by have := h.2.1; omega
  have hE : isNt 8 xs → AC Tryd.prog 83 [nds xs, .v (.int .i64 ((xs.length : Int) - 1))] Hp.emp (fun _ => false) (retIB 40 (exP xs (xs.length - 1)).1 (exP xs (xs.length - 1)).2) := fun h => by
    rw [(hn h).1]
    exact implExpand_ok xs h _ (hn h).2 40
  refine ac_of_awp (N := ⟨_, fun _ => false, fun _ _ => rfl, true⟩) Tryd.func63 rfl (by kernel_rfl) Tryd.ntmps63 (by simp) ?_
  simp only [argsFr, List.zipIdx_cons, List.zipIdx_nil, go_sem]
  repeat' (first | refine awp_seqK fun K hK => ?_ | (refine awp_regionK 77 rfl ?_; simp only [List.map_cons, List.map_nil]; simp (maxSteps := 1000000) (dsimp := false) (implicitDefEqProofs := false) (disch := omega) only [wrap64, go_sem]) | (refine awp_regionQK 77 (by kernel_rfl) (by kernel_rfl) (by kernel_rfl) ?_; simp only [List.map_cons, List.map_nil]; simp (maxSteps := 1000000) (dsimp := false) (implicitDefEqProofs := false) (disch := omega) only [wrap64, go_sem]) | refine awp_block ?_ | (refine awp_skip ?_; simp only [go_sem]) | (refine awp_exit ?_; simp only [go_sem]) | (refine awp_ret ?_; try simp only [go_sem]) | (refine awp_condP rfl ?_; try simp only [go_sem]) | (refine BrP.mk (fun h => ?_) (fun h => ?_) <;> try simp (dsimp := false) (disch := omega) only [wrap64]) | (refine Br.mk (fun h => ?_) (fun h => ?_) <;> try simp (dsimp := false) (disch := omega) only [wrap64]) | refine Ob.mk (by first | omega | (intro _ _; rfl) | trivial | (intros; trivial) | assumption | (intro i hi; have h0 : i = 0 := (by omega); subst h0; first | rfl | trivial) | (intro i hi; have h0 : i = 0 ∨ i = 1 := (by omega); rcases h0 with rfl | rfl <;> rfl) | (intro i hi; have h0 : i = 0 ∨ i = 1 ∨ i = 2 := (by omega); rcases h0 with rfl | rfl | rfl <;> rfl)) ?_ | ((first | ((first | refine atF (f := 21) ?_ | refine atQ (f := 21) ?_); (first | (refine cV (hac := implIsValidNt_ok 8 xs hx hb) (hK := ?_)) | (refine cQV (hac := implIsValidNt_ok 8 xs hx hb) (hK := ?_)))) | ((first | refine atF (f := 49) ?_ | refine atQ (f := 49) ?_); (first | (refine cV (hac := lenNd_ok xs) (hK := ?_)) | (refine cQV (hac := lenNd_ok xs) (hK := ?_)))) | ((first | refine atF (f := 83) ?_ | refine atQ (f := 83) ?_); (refine cIB (hac := hE (by assumption)) (hK := ?_)))); simp (maxSteps := 1000000) (dsimp := false) (implicitDefEqProofs := false) (disch := omega) only [wrap64, go_sem]) | apply_assumption -exfalso -symm)
  all_goals (first | (show endQ _ _ _ _ _ _ _; (repeat (rename (∀ (A : Fr) (H : Hp), AWP _ _ _ _ A H → _) => hK; clear hK)); (repeat (rename (Fr → Hp → Prop) => K; clear K))) | (show Exists _; (repeat (rename (∀ (A : Fr) (H : Hp), AWP _ _ _ _ A H → _) => hK; clear hK)); (repeat (rename (Fr → Hp → Prop) => K; clear K))) | skip)
  all_goals
    (first | refine end_retIB' rfl rfl rfl rfl ?_ (by decide) rfl rfl | refine end_retIB_nil' rfl rfl rfl ?_ (by decide) rfl)
    unfold expaP
    first
    | (rw [if_pos (by assumption)]; done)
    | (rw [if_neg (by assumption)]; done)
end Go.Proofs.YticbabpajligbaaDoor
end
/- ParseWord, both texts. -/
section
namespace Go.Proofs.YticbabpajligbaaDoor
open Go.Av
set_option linter.unusedSimpArgs false
set_option linter.unusedVariables false
attribute [local irreducible] AWP CallG Ob Br BrP Go.Av.Sub endQ AOps OpV AC thenA blkA opsVC opVC withA withArgs opsQ opQ CallQ withA2 withArgs2
open Go.Nt (Nd nd0 kd li liF dig pInv pSuf pItem pSeq Pr Goes nmOk pItem_goes pSeq_goes)
/-- What ParseWord answers. -/
def pwP (names s : ByteArray) : List Int × Bool := if (parP names s).2 = -1 then expaP (parP names s).1 else ([], false)
theorem implParseWord_ok (names s : ByteArray) (hns : names.size ≤ 1048576) (hs : s.size ≤ 1048576) (d : Nat) : AC Tryd.prog 27 [.v (.string (names)), .v (.string (s))] Hp.emp (fun _ => false) (retIB d (pwP names s).1 (pwP names s).2) := by
  have hsm := parP_small names s
  have hE := implExpandNotation_ok (parP names s).1 hsm.1 (fun j => Nat.le_trans (kB_kd hsm.2 j) (by decide)) 40
  refine ac_of_awp (N := ⟨_, fun _ => false, fun _ _ => rfl, true⟩) Tryd.func27 rfl (by kernel_rfl) Tryd.ntmps27 (by simp) ?_
  simp only [argsFr, List.zipIdx_cons, List.zipIdx_nil, go_sem]
  repeat' (first | refine awp_seqK fun K hK => ?_ | (refine awp_regionK 33011 rfl ?_; simp only [List.map_cons, List.map_nil]; simp (maxSteps := 1000000) (dsimp := false) (implicitDefEqProofs := false) (disch := omega) only [wrap64, go_sem, NR_add_scr, NR_add_self, pM_low]) | (refine awp_regionQK 33011 (by kernel_rfl) (by kernel_rfl) (by kernel_rfl) ?_; simp only [List.map_cons, List.map_nil]; simp (maxSteps := 1000000) (dsimp := false) (implicitDefEqProofs := false) (disch := omega) only [wrap64, go_sem, NR_add_scr, NR_add_self, pM_low]) | refine awp_block ?_ | (refine awp_skip ?_; simp only [go_sem, NR_add_scr, NR_add_self, pM_low]) | (refine awp_exit ?_; simp only [go_sem, NR_add_scr, NR_add_self, pM_low]) | (refine awp_ret ?_; try simp only [go_sem, NR_add_scr, NR_add_self, pM_low]) | (refine awp_condP rfl ?_; try simp only [go_sem, NR_add_scr, NR_add_self, pM_low]) | (refine BrP.mk (fun h => ?_) (fun h => ?_) <;> try simp (dsimp := false) (disch := omega) only [wrap64]) | (refine Br.mk (fun h => ?_) (fun h => ?_) <;> try simp (dsimp := false) (disch := omega) only [wrap64]) | refine Ob.mk (by first | omega | (intro _ _; rfl) | trivial | (intros; trivial) | assumption | (intro i hi; have h0 : i = 0 := (by omega); subst h0; first | rfl | trivial) | (intro i hi; have h0 : i = 0 ∨ i = 1 := (by omega); rcases h0 with rfl | rfl <;> rfl) | (intro i hi; have h0 : i = 0 ∨ i = 1 ∨ i = 2 := (by omega); rcases h0 with rfl | rfl | rfl <;> rfl)) ?_ | ((first | ((first | refine atF (f := 20) ?_ | refine atQ (f := 20) ?_); refine callPp rfl (implParseNotation_ok names s hns hs) hsm.1 rfl ?_) | ((first | refine atF (f := 63) ?_ | refine atQ (f := 63) ?_); refine cIB (hfit := .cons (fits_NR (HasNR.base hsm.1)) .nil) (hac := hE) (hK := ?_))); simp (maxSteps := 1000000) (dsimp := false) (implicitDefEqProofs := false) (disch := omega) only [wrap64, go_sem, NR_add_scr, NR_add_self, pM_low]) | apply_assumption -exfalso -symm)
  all_goals (first | (show endQ _ _ _ _ _ _ _; (repeat (rename (∀ (A : Fr) (H : Hp), AWP _ _ _ _ A H → _) => hK; clear hK)); (repeat (rename (Fr → Hp → Prop) => K; clear K))) | (show Exists _; (repeat (rename (∀ (A : Fr) (H : Hp), AWP _ _ _ _ A H → _) => hK; clear hK)); (repeat (rename (Fr → Hp → Prop) => K; clear K))) | skip)
  all_goals
    (first | refine end_retIB' rfl rfl rfl rfl ?_ (by decide) rfl rfl | refine end_retIB_nil' rfl rfl rfl ?_ (by decide) rfl)
    unfold pwP
    first
    | (rw [if_pos (by omega)]; done)
    | (rw [if_neg (by omega)]; done)
end Go.Proofs.YticbabpajligbaaDoor
end

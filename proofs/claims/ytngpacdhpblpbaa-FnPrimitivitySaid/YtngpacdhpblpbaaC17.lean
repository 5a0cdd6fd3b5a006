import Derived.Test.YtngpacdhpblpbaaC16
import Derived.Test.YtngpacdhpblpbaaC11
import Derived.Test.YtngpacdhpblpbaaC14
/- Block systems, the program: the finest block system with two points in one block. -/
section
namespace Go.Proofs.Ytngpacdhpblpbaa
open Go.Av
set_option linter.unusedSimpArgs false
set_option linter.unusedVariables false
attribute [local irreducible] AWP CallG Ob Br BrP Go.Av.Sub endQ AOps OpV AC thenA blkA opsVC opVC withA withArgs opsQ opQ CallQ withA2 withArgs2
open Go.Pm (Pm ptI partI IsPart ixP Rsp rspI actP img invp mrg Lbl SL SB parts loR clsF clsN partK Cg MB Snd cntL idn Rep)
/-- What has been looked at: each point beside the one that stands for its label. -/
def qiP (n : Nat) (gs : List (List Int)) (k z : Nat) (L : List Int) : Prop :=
  (∀ k', k' < k → ∀ z', z' < n → SL L (img (gs.getD k' []) z') (img (gs.getD k' []) (L.getD z' 0).toNat)) ∧
  (∀ z', z' < z → SL L (img (gs.getD k []) z') (img (gs.getD k []) (L.getD z' 0).toNat))
section
variable {n k z : Nat} {gs : List (List Int)} {L L0 : List Int} {B : Nat → Nat → Prop} {Q Q' : List Int → Prop} {ch : Bool}
theorem qiP_zero (n : Nat) (gs : List (List Int)) (L : List Int) : qiP n gs 0 0 L := ⟨fun _ h => absurd h (Nat.not_lt_zero _), fun _ h => absurd h (Nat.not_lt_zero _)⟩
theorem qiP_z (h : qiP n gs k z L) (hz : SL L (img (gs.getD k []) z) (img (gs.getD k []) (L.getD z 0).toNat)) : qiP n gs k (z + 1) L := ⟨h.1, fun z' hz' => by
  by_cases e : z' = z
  · subst e; exact hz
  · exact h.2 z' (by omega)⟩
theorem qiP_k (h : qiP n gs k n L) : qiP n gs (k + 1) 0 L := ⟨fun k' hk' => by
  by_cases e : k' = k
  · subst e; exact h.2
  · exact h.1 k' (by omega), fun _ h => absurd h (Nat.not_lt_zero _)⟩
theorem qiP_end (h : qiP n gs gs.length 0 L) : ∀ g ∈ gs, ∀ i j, i < n → j < n → SL L i j → SL L (img g i) (img g j) := fun g hg i j hi hj hs => by
  obtain ⟨k, hk, rfl⟩ := List.getElem_of_mem hg
  have e : gs.getD k [] = gs[k] := by simp [hk]
  have q1 := h.1 k hk i hi
  have q2 := h.1 k hk j hj
  rw [e] at q1 q2
  have e2 : L.getD i 0 = L.getD j 0 := hs
  rw [← e2] at q2
  exact Eq.trans q1 (Eq.symm q2)
theorem mb_hit (h : MB n gs B L0 Q L ch) {u v : Nat} (hu : u < n) (hv : v < n) (hr : Cg gs B u v) (hne : ¬ L.getD u 0 = L.getD v 0) : MB n gs B L0 Q' (mrg L (min (L.getD u 0) (L.getD v 0)) (max (L.getD u 0) (L.getD v 0))) true := by
  by_cases hl : L.getD u 0 ≤ L.getD v 0
  · rw [show min (L.getD u 0) (L.getD v 0) = L.getD u 0 by omega, show max (L.getD u 0) (L.getD v 0) = L.getD v 0 by omega]
    exact h.hit hu hv hr hne
  · rw [show min (L.getD u 0) (L.getD v 0) = L.getD v 0 by omega, show max (L.getD u 0) (L.getD v 0) = L.getD u 0 by omega]
    exact h.hit hv hu hr.symm (fun e => hne e.symm)
theorem rep_mm (hl : Lbl n L) (h : Rep n L) {u v : Nat} (hu : u < n) (hv : v < n) : Rep n (mrg L (min (L.getD u 0) (L.getD v 0)) (max (L.getD u 0) (L.getD v 0))) := by
  by_cases hl2 : L.getD u 0 ≤ L.getD v 0
  · rw [show min (L.getD u 0) (L.getD v 0) = L.getD u 0 by omega, show max (L.getD u 0) (L.getD v 0) = L.getD v 0 by omega]
    exact h.mrg hl hu hv
  · rw [show min (L.getD u 0) (L.getD v 0) = L.getD v 0 by omega, show max (L.getD u 0) (L.getD v 0) = L.getD u 0 by omega]
    exact h.mrg hl hv hu
theorem mrg_mm {a b : Int} (h : a = b) : mrg L (min a b) (max a b) = L := by
  subst h
  rw [show min a a = a by omega, show max a a = a by omega, Go.Pm.mrg_same]
end
theorem mrg_startM {n x y : Nat} (gs : List (List Int)) (hx : x < n) (hy : y < n) : Lbl n (mrg (idn n) (min (x : Int) y) (max (x : Int) y)) ∧ Snd n gs (bbP x y) (mrg (idn n) (min (x : Int) y) (max (x : Int) y)) ∧ (∀ a b, bbP x y a b → a < n ∧ b < n ∧ SL (mrg (idn n) (min (x : Int) y) (max (x : Int) y)) a b) ∧ Rep n (mrg (idn n) (min (x : Int) y) (max (x : Int) y)) := by
  have ex : (idn n).getD x 0 = (x : Int) := Go.Pm.idn_get hx
  have ey : (idn n).getD y 0 = (y : Int) := Go.Pm.idn_get hy
  have hl := Go.Pm.idn_length n
  have h4 := rep_mm (Go.Pm.Lbl.idn n) (Go.Pm.Rep.idn n) hx hy
  rw [ex, ey] at h4
  by_cases h : (x : Int) ≤ y
  · have e1 : min (x : Int) y = x := by omega
    have e2 : max (x : Int) y = y := by omega
    obtain ⟨h1, h2, h3⟩ := mrg_start gs hx hy
    rw [e1, e2] at h4 ⊢
    exact ⟨h1, h2, h3, h4⟩
  · have e1 : min (x : Int) y = y := by omega
    have e2 : max (x : Int) y = x := by omega
    rw [e1, e2] at h4 ⊢
    have h1 := (Go.Pm.Lbl.idn n).mrg (a := y) (b := x) (by omega)
    have h2 := (Go.Pm.Snd.idn (n := n) (gs := gs) (B := bbP x y)).mrg hl hy hx (Cg.base (B := bbP x y) ⟨rfl, rfl⟩).symm
    have h3 := Go.Pm.SL.made hl hy hx
    rw [ex, ey] at h2 h3
    exact ⟨h1, h2, fun a b ⟨f1, f2⟩ => by rw [f1, f2]; exact ⟨hx, hy, Eq.symm h3⟩, h4⟩
set_option maxHeartbeats 4000000 in
theorem implMinimalBlocks_ok (n : Nat) (gs : List (List Int)) (x y : Nat) (hok : isGens (n : Int) gs) (hx : x < n) (hy : y < n) : AC Try.prog 93 [.v (.int .i64 ((n : Nat))), intss gs, .v (.int .i64 ((x : Nat))), .v (.int .i64 ((y : Nat)))] Hp.emp (fun _ => false) (retV (intss (parts (Cg gs (bbP x y)) n))) := by
  obtain ⟨h1, h2, h3⟩ := gens_pm hok
  rw [Int.toNat_natCast] at h1
  have h1 := Hold.mk h1
  have hgl := hok.2.1
  have hil := Go.Pm.idn_length n
  have hst := Hold.mk (mrg_startM gs hx hy)
  refine ac_of_awp (N := ⟨_, fun _ => false, fun _ _ => rfl⟩) Try.func93 rfl (by kernel_rfl) Try.ntmps93 (by simp) ?_
  simp only [argsFr, List.zipIdx_cons, List.zipIdx_nil, go_sem]
  repeat' (first | refine awp_seqK fun K hK => ?_ | (refine awp_regionK 562950925465359 rfl ?_; simp only [List.map_cons, List.map_nil]; simp (maxSteps := 1000000) (dsimp := false) (implicitDefEqProofs := false) (disch := omega) only [wrap64, go_sem]) | (refine awp_regionQK 562950925465359 (by kernel_rfl) (by kernel_rfl) (by kernel_rfl) ?_; simp only [List.map_cons, List.map_nil]; simp (maxSteps := 1000000) (dsimp := false) (implicitDefEqProofs := false) (disch := omega) only [wrap64, go_sem]) | refine awp_block ?_ | (refine awp_skip ?_; simp only [go_sem]) | (refine awp_exit ?_; simp only [go_sem]) | (refine awp_ret ?_; try simp only [go_sem]) | (refine awp_condP rfl ?_; try simp only [go_sem]) | (refine BrP.mk (fun h => ?_) (fun h => ?_) <;> try simp (dsimp := false) (disch := omega) only [wrap64]) | (refine Br.mk (fun h => ?_) (fun h => ?_) <;> try simp (dsimp := false) (disch := omega) only [wrap64]) | refine Ob.mk (by first | omega | (intro _ _; rfl) | trivial | (intros; trivial) | assumption | (intro i hi; have h0 : i = 0 := (by omega); subst h0; first | rfl | trivial) | (intro i hi; have h0 : i = 0 ∨ i = 1 := (by omega); rcases h0 with rfl | rfl <;> rfl) | (intro i hi; have h0 : i = 0 ∨ i = 1 ∨ i = 2 := (by omega); rcases h0 with rfl | rfl | rfl <;> rfl)) ?_ | ((first | ((first | refine atF (f := 98) ?_ | refine atQ (f := 98) ?_); (first | (refine cI (hac := implIdentity_ok n (by omega) 15) (hK := ?_)) | (refine cQI (hac := implIdentity_ok n (by omega) 15) (hK := ?_)))) | ((first | refine atF (f := 100) ?_ | refine atQ (f := 100) ?_); (first | (refine cM' (hac := merge_ok (idn n) x y (by omega) 15) (hK := ?_))))); simp (maxSteps := 1000000) (dsimp := false) (implicitDefEqProofs := false) (disch := omega) only [wrap64, go_sem]) | apply_assumption -exfalso -symm)
  all_goals (first | (show endQ _ _ _ _ _ _ _; (repeat (rename (∀ (A : Fr) (H : Hp), AWP _ _ _ _ A H → _) => hK; clear hK)); (repeat (rename (Fr → Hp → Prop) => K; clear K))) | (show Exists _; (repeat (rename (∀ (A : Fr) (H : Hp), AWP _ _ _ _ A H → _) => hK; clear hK)); (repeat (rename (Fr → Hp → Prop) => K; clear K))) | skip)
  obtain ⟨Ls, eLs⟩ : ∃ Ls, Ls = mrg (idn n) (min (x : Int) y) (max (x : Int) y) := ⟨_, rfl⟩
  have hLs : Ls.length = (idn n).length := by rw [eLs, Go.Pm.mrg_length]
  rw [← eLs] at hst ⊢
  rw [← hLs]
  refine awp_loop (ι := List Int × Bool) (fun z => [(10, .v (.bool (z.2))), (9, .own 15 0 1 z.1.length), (0, .v (.int .i64 ((n : Nat)))), (1, .list false 1 (gs).length (cM ints [] (gs)))]) (fun z => Hp.emp.upd 15 (.cells z.1.length (cM iv 0 z.1))) (fun z => Hold (Lbl n z.1 ∧ Snd n gs (bbP x y) z.1 ∧ (∀ a b, bbP x y a b → a < n ∧ b < n ∧ SL z.1 a b) ∧ Rep n z.1 ∧ (z.2 = false → ∀ g ∈ gs, ∀ i j, i < n → j < n → SL z.1 i j → SL z.1 (img g i) (img g j)))) (fun z => 2 * cntL n z.1 + (if z.2 = true then 1 else 0)) (Ls, true) ⟨⟨hst.h.1, hst.h.2.1, hst.h.2.2.1, hst.h.2.2.2, fun h => by cases h⟩⟩ (Sub.toL (by simp only [go_sem] <;> first | trivial | (simp only [Option.some.injEq, AV.v.injEq, AV.own.injEq, AV.list.injEq, Value.int.injEq, Value.bool.injEq, true_and, and_true]; first | omega | (simp; done)) | (simp; done) | (simp; omega)) (Hp.le_refl _)) ?_
  rintro ⟨L0, c0⟩ hv
  dsimp only at hv ⊢
  have hl0 := hv.h.1.len
  have hb := Hold.mk hv.h.2.2.1
  have hms : Hold (MB n gs (bbP x y) L0 (qiP n gs 0 0) L0 false ∧ Rep n L0) := ⟨.start hv.h.1 hv.h.2.1 hb.h (qiP_zero n gs L0), hv.h.2.2.2.1⟩
  repeat' (first | refine awp_seqK fun K hK => ?_ | (refine awp_regionK 562950925465359 rfl ?_; simp only [List.map_cons, List.map_nil]; simp (maxSteps := 1000000) (dsimp := false) (implicitDefEqProofs := false) (disch := omega) only [wrap64, go_sem]) | (refine awp_regionQK 562950925465359 (by kernel_rfl) (by kernel_rfl) (by kernel_rfl) ?_; simp only [List.map_cons, List.map_nil]; simp (maxSteps := 1000000) (dsimp := false) (implicitDefEqProofs := false) (disch := omega) only [wrap64, go_sem]) | refine awp_block ?_ | (refine awp_skip ?_; simp only [go_sem]) | (refine awp_exit ?_; simp only [go_sem]) | (refine awp_ret ?_; try simp only [go_sem]) | (refine awp_condP rfl ?_; try simp only [go_sem]) | (refine BrP.mk (fun h => ?_) (fun h => ?_) <;> try simp (dsimp := false) (disch := omega) only [wrap64]) | (refine Br.mk (fun h => ?_) (fun h => ?_) <;> try simp (dsimp := false) (disch := omega) only [wrap64]) | refine Ob.mk (by first | omega | (intro _ _; rfl) | trivial | (intros; trivial) | assumption | (intro i hi; have h0 : i = 0 := (by omega); subst h0; first | rfl | trivial) | (intro i hi; have h0 : i = 0 ∨ i = 1 := (by omega); rcases h0 with rfl | rfl <;> rfl) | (intro i hi; have h0 : i = 0 ∨ i = 1 ∨ i = 2 := (by omega); rcases h0 with rfl | rfl | rfl <;> rfl)) ?_ | apply_assumption -exfalso -symm)
  all_goals (first | (show endQ _ _ _ _ _ _ _; (repeat (rename (∀ (A : Fr) (H : Hp), AWP _ _ _ _ A H → _) => hK; clear hK)); (repeat (rename (Fr → Hp → Prop) => K; clear K))) | (show Exists _; (repeat (rename (∀ (A : Fr) (H : Hp), AWP _ _ _ _ A H → _) => hK; clear hK)); (repeat (rename (Fr → Hp → Prop) => K; clear K))) | skip)
  · refine awp_loop (ι := Nat × List Int × Bool) (fun z => [(23, .v (.int .i64 ((z.1 : Nat)))), (22, .v (.int .i64 (gs.length))), (21, .list false 1 (gs).length (cM ints [] (gs))), (10, .v (.bool (z.2.2))), (9, .own 15 0 1 z.2.1.length), (0, .v (.int .i64 ((n : Nat)))), (1, .list false 1 (gs).length (cM ints [] (gs)))]) (fun z => Hp.emp.upd 15 (.cells z.2.1.length (cM iv 0 z.2.1))) (fun z => z.1 ≤ gs.length ∧ Hold (MB n gs (bbP x y) L0 (qiP n gs z.1 0) z.2.1 z.2.2 ∧ Rep n z.2.1)) (fun z => gs.length - z.1) (0, L0, false) ⟨Nat.zero_le _, hms⟩ (Sub.toL (by simp only [go_sem] <;> first | trivial | (simp only [Option.some.injEq, AV.v.injEq, AV.own.injEq, AV.list.injEq, Value.int.injEq, Value.bool.injEq, true_and, and_true]; first | omega | (simp; done)) | (simp; done) | (simp; omega)) (Hp.le_refl _)) ?_
    rintro ⟨k, L, ch⟩ ⟨hk, hm⟩
    dsimp only at hk hm ⊢
    have hlL := hm.h.1.lbl.len
    repeat' (first | refine awp_seqK fun K hK => ?_ | (refine awp_regionK 562950925465359 rfl ?_; simp only [List.map_cons, List.map_nil]; simp (maxSteps := 1000000) (dsimp := false) (implicitDefEqProofs := false) (disch := omega) only [wrap64, go_sem]) | (refine awp_regionQK 562950925465359 (by kernel_rfl) (by kernel_rfl) (by kernel_rfl) ?_; simp only [List.map_cons, List.map_nil]; simp (maxSteps := 1000000) (dsimp := false) (implicitDefEqProofs := false) (disch := omega) only [wrap64, go_sem]) | refine awp_block ?_ | (refine awp_skip ?_; simp only [go_sem]) | (refine awp_exit ?_; simp only [go_sem]) | (refine awp_ret ?_; try simp only [go_sem]) | (refine awp_condP rfl ?_; try simp only [go_sem]) | (refine BrP.mk (fun h => ?_) (fun h => ?_) <;> try simp (dsimp := false) (disch := omega) only [wrap64]) | (refine Br.mk (fun h => ?_) (fun h => ?_) <;> try simp (dsimp := false) (disch := omega) only [wrap64]) | refine Ob.mk (by first | omega | (intro _ _; rfl) | trivial | (intros; trivial) | assumption | (intro i hi; have h0 : i = 0 := (by omega); subst h0; first | rfl | trivial) | (intro i hi; have h0 : i = 0 ∨ i = 1 := (by omega); rcases h0 with rfl | rfl <;> rfl) | (intro i hi; have h0 : i = 0 ∨ i = 1 ∨ i = 2 := (by omega); rcases h0 with rfl | rfl | rfl <;> rfl)) ?_ | apply_assumption -exfalso -symm)
    all_goals (first | (show endQ _ _ _ _ _ _ _; (repeat (rename (∀ (A : Fr) (H : Hp), AWP _ _ _ _ A H → _) => hK; clear hK)); (repeat (rename (Fr → Hp → Prop) => K; clear K))) | (show Exists _; (repeat (rename (∀ (A : Fr) (H : Hp), AWP _ _ _ _ A H → _) => hK; clear hK)); (repeat (rename (Fr → Hp → Prop) => K; clear K))) | skip)
    · refine awp_loop (ι := Nat × List Int × Bool) (fun z => [(28, .v (.int .i64 ((z.1 : Nat)))), (27, .v (.int .i64 ((n : Nat)))), (12, .list false 1 (gs.getD k []).length (cM iv 0 (gs.getD k []))), (23, .v (.int .i64 ((k : Nat)))), (22, .v (.int .i64 (gs.length))), (21, .list false 1 (gs).length (cM ints [] (gs))), (10, .v (.bool (z.2.2))), (9, .own 15 0 1 z.2.1.length), (0, .v (.int .i64 ((n : Nat)))), (1, .list false 1 (gs).length (cM ints [] (gs)))]) (fun z => Hp.emp.upd 15 (.cells z.2.1.length (cM iv 0 z.2.1))) (fun z => z.1 ≤ n ∧ Hold (MB n gs (bbP x y) L0 (qiP n gs k z.1) z.2.1 z.2.2 ∧ Rep n z.2.1)) (fun z => n - z.1) (0, L, ch) ⟨Nat.zero_le _, hm⟩ (Sub.toL (by simp only [go_sem] <;> first | trivial | (simp only [Option.some.injEq, AV.v.injEq, AV.own.injEq, AV.list.injEq, Value.int.injEq, Value.bool.injEq, true_and, and_true]; first | omega | (simp; done)) | (simp; done) | (simp; omega)) (Hp.le_refl _)) ?_
      clear hm hlL L ch
      rintro ⟨z, L, ch⟩ ⟨hz, hm⟩
      dsimp only at hz hm ⊢
      have hlL := hm.h.1.lbl.len
      have hgm : Hold (gs.getD k [] ∈ gs) := ⟨by rw [List.getD_eq_getElem?_getD, List.getElem?_eq_getElem (show k < gs.length by omega)]; exact List.getElem_mem _⟩
      have hpk := Hold.mk (h1.h _ hgm.h)
      have hlen : (gs.getD k []).length = n := hpk.h.1
      obtain ⟨w, ew⟩ : ∃ w, w = (L.getD z 0).toNat := ⟨_, rfl⟩
      obtain ⟨u, eu⟩ : ∃ u, u = img (gs.getD k []) z := ⟨_, rfl⟩
      obtain ⟨v, ev⟩ : ∃ v, v = img (gs.getD k []) w := ⟨_, rfl⟩
      have hLz : z < n → L.getD z 0 = ((w : Nat) : Int) := fun h => by have := hm.h.1.lbl.rng z h; omega
      have hw : z < n → w < n := fun h => by have := hm.h.1.lbl.rng z h; omega
      have hgi : z < n → (gs.getD k []).getD z 0 = ((u : Nat) : Int) := fun h => by rw [eu]; exact hpk.h.get_eq h
      have hgj : z < n → (gs.getD k []).getD w 0 = ((v : Nat) : Int) := fun h => by rw [ev]; exact hpk.h.get_eq (hw h)
      have hu : z < n → u < n := fun h => by rw [eu]; exact hpk.h.img_lt h
      have hv' : z < n → v < n := fun h => by rw [ev]; exact hpk.h.img_lt (hw h)
      repeat' (first | (refine awp_regionEK (id := 12) 562950925465359 18 (by kernel_rfl) (by kernel_rfl) (by kernel_rfl) ?_; simp only [List.map_cons, List.map_nil, opsE, List.take_succ_cons, List.take_zero, List.drop_succ_cons, List.drop_zero]; simp (maxSteps := 1000000) (dsimp := false) (implicitDefEqProofs := false) (disch := omega) only [wrap64, go_sem, hLz, hgi, hgj]) | refine awp_seqK fun K hK => ?_ | (refine awp_regionK 562950925465359 rfl ?_; simp only [List.map_cons, List.map_nil]; simp (maxSteps := 1000000) (dsimp := false) (implicitDefEqProofs := false) (disch := omega) only [wrap64, go_sem, hLz, hgi, hgj]) | (refine awp_regionQK 562950925465359 (by kernel_rfl) (by kernel_rfl) (by kernel_rfl) ?_; simp only [List.map_cons, List.map_nil]; simp (maxSteps := 1000000) (dsimp := false) (implicitDefEqProofs := false) (disch := omega) only [wrap64, go_sem, hLz, hgi, hgj]) | refine awp_block ?_ | (refine awp_skip ?_; simp only [go_sem, hLz, hgi, hgj]) | (refine awp_exit ?_; simp only [go_sem, hLz, hgi, hgj]) | (refine awp_ret ?_; try simp only [go_sem, hLz, hgi, hgj]) | (refine awp_condP rfl ?_; try simp only [go_sem, hLz, hgi, hgj]) | (refine BrP.mk (fun h => ?_) (fun h => ?_) <;> try simp (dsimp := false) (disch := omega) only [wrap64]) | (refine Br.mk (fun h => ?_) (fun h => ?_) <;> try simp (dsimp := false) (disch := omega) only [wrap64]) | refine Ob.mk (by first | omega | (intro _ _; rfl) | trivial | (intros; trivial) | assumption | (intro i hi; have h0 : i = 0 := (by omega); subst h0; first | rfl | trivial) | (intro i hi; have h0 : i = 0 ∨ i = 1 := (by omega); rcases h0 with rfl | rfl <;> rfl) | (intro i hi; have h0 : i = 0 ∨ i = 1 ∨ i = 2 := (by omega); rcases h0 with rfl | rfl | rfl <;> rfl)) ?_ | ((first | ((first | refine atF (f := 100) ?_ | refine atQ (f := 100) ?_); (first | (refine cM' (hac := merge_ok L (L.getD u 0) (L.getD v 0) (by omega) 15) (hK := ?_))))); simp (maxSteps := 1000000) (dsimp := false) (implicitDefEqProofs := false) (disch := omega) only [wrap64, go_sem, hLz, hgi, hgj]) | apply_assumption -exfalso -symm)
      all_goals (first | (show endQ _ _ _ _ _ _ _; (repeat (rename (∀ (A : Fr) (H : Hp), AWP _ _ _ _ A H → _) => hK; clear hK)); (repeat (rename (Fr → Hp → Prop) => K; clear K))) | (show Exists _; (repeat (rename (∀ (A : Fr) (H : Hp), AWP _ _ _ _ A H → _) => hK; clear hK)); (repeat (rename (Fr → Hp → Prop) => K; clear K))) | skip)
      · refine ⟨(z + 1, L, ch), ⟨by dsimp only; omega, ⟨hm.h.1.miss fun hq => qiP_z hq ?_, hm.h.2⟩⟩, by dsimp only; omega, ?_⟩
        · rw [← ew, ← eu, ← ev]; assumption
        · rw [mrg_mm (by assumption)]
          exact Sub.toL (by simp only [go_sem] <;> first | trivial | (simp only [Option.some.injEq, AV.v.injEq, AV.own.injEq, AV.list.injEq, Value.int.injEq, Value.bool.injEq, true_and, and_true]; first | omega | (simp; done)) | (simp; done) | (simp; omega)) (Hp.le_refl _)
      · have hzn : z < n := by omega
        have hcg : Cg gs (bbP x y) u v := by
          rw [eu, ev]
          refine .act hgm.h (hm.h.1.snd z w hzn (hw hzn) ?_)
          have := hm.h.2 z hzn
          rw [← ew] at this
          exact Eq.symm this
        have el : (mrg L (min (L.getD u 0) (L.getD v 0)) (max (L.getD u 0) (L.getD v 0))).length = L.length := Go.Pm.mrg_length _ _ _
        refine ⟨(z + 1, mrg L (min (L.getD u 0) (L.getD v 0)) (max (L.getD u 0) (L.getD v 0)), true), ⟨by dsimp only; omega, ⟨mb_hit hm.h.1 (hu hzn) (hv' hzn) hcg (by assumption), rep_mm hm.h.1.lbl hm.h.2 (hu hzn) (hv' hzn)⟩⟩, by dsimp only; omega, ?_⟩
        dsimp only
        rw [el]
        exact Sub.toL (by simp only [go_sem] <;> first | trivial | (simp only [Option.some.injEq, AV.v.injEq, AV.own.injEq, AV.list.injEq, Value.int.injEq, Value.bool.injEq, true_and, and_true]; first | omega | (simp; done)) | (simp; done) | (simp; omega)) (Hp.le_refl _)
      · have ez : z = n := by omega
        rw [ez] at hm
        exact ⟨(k + 1, L, ch), ⟨by dsimp only; omega, ⟨hm.h.1.miss qiP_k, hm.h.2⟩⟩, by dsimp only; omega, Sub.toL (by simp only [go_sem] <;> first | trivial | (simp only [Option.some.injEq, AV.v.injEq, AV.own.injEq, AV.list.injEq, Value.int.injEq, Value.bool.injEq, true_and, and_true]; first | omega | (simp; done)) | (simp; done) | (simp; omega)) (Hp.le_refl _)⟩
    · have ek : k = gs.length := by omega
      subst ek
      refine ⟨(L, ch), ⟨hm.h.1.lbl, hm.h.1.snd, hm.h.1.base, hm.h.2, fun e => ?_⟩, ?_, Sub.toL (by simp only [go_sem] <;> first | trivial | (simp only [Option.some.injEq, AV.v.injEq, AV.own.injEq, AV.list.injEq, Value.int.injEq, Value.bool.injEq, true_and, and_true]; first | omega | (simp; done)) | (simp; done) | (simp; omega)) (Hp.le_refl _)⟩
      · dsimp only at e
        subst e
        exact qiP_end (hm.h.1.no rfl).2
      · dsimp only
        cases ch with
        | true => have := hm.h.1.yes rfl; simp only [if_true]; split <;> omega
        | false =>
          have e := (hm.h.1.no rfl).1
          rename_i hc0
          rw [e, hc0]
          simp
  · have ec : c0 = false := by assumption
    have e := Go.Pm.partK_congr (n := n) (R := SL L0) (R' := Cg gs (bbP x y)) (fun i j hi hj => Go.Pm.Cg.iff h1.h hb.h hv.h.2.1 (hv.h.2.2.2.2 ec) hi hj) (Nat.le_refl n)
    have hlb := partition_ok L0 (by omega)
    rw [show parts (SL L0) L0.length = partK n (SL L0) n by rw [hl0]] at hlb
    repeat' (first | refine awp_seqK fun K hK => ?_ | (refine awp_regionK 562950925465359 rfl ?_; simp only [List.map_cons, List.map_nil]; simp (maxSteps := 1000000) (dsimp := false) (implicitDefEqProofs := false) (disch := omega) only [wrap64, go_sem]) | (refine awp_regionQK 562950925465359 (by kernel_rfl) (by kernel_rfl) (by kernel_rfl) ?_; simp only [List.map_cons, List.map_nil]; simp (maxSteps := 1000000) (dsimp := false) (implicitDefEqProofs := false) (disch := omega) only [wrap64, go_sem]) | refine awp_block ?_ | (refine awp_skip ?_; simp only [go_sem]) | (refine awp_exit ?_; simp only [go_sem]) | (refine awp_ret ?_; try simp only [go_sem]) | (refine awp_condP rfl ?_; try simp only [go_sem]) | (refine BrP.mk (fun h => ?_) (fun h => ?_) <;> try simp (dsimp := false) (disch := omega) only [wrap64]) | (refine Br.mk (fun h => ?_) (fun h => ?_) <;> try simp (dsimp := false) (disch := omega) only [wrap64]) | refine Ob.mk (by first | omega | (intro _ _; rfl) | trivial | (intros; trivial) | assumption | (intro i hi; have h0 : i = 0 := (by omega); subst h0; first | rfl | trivial) | (intro i hi; have h0 : i = 0 ∨ i = 1 := (by omega); rcases h0 with rfl | rfl <;> rfl) | (intro i hi; have h0 : i = 0 ∨ i = 1 ∨ i = 2 := (by omega); rcases h0 with rfl | rfl | rfl <;> rfl)) ?_ | ((first | ((first | refine atF (f := 101) ?_ | refine atQ (f := 101) ?_); (refine callRk Hp.emp (Hp.le_emp _) (.cons (fits_I rfl rfl rfl rfl) .nil) hlb rfl ?_))); simp (maxSteps := 1000000) (dsimp := false) (implicitDefEqProofs := false) (disch := omega) only [wrap64, go_sem]) | apply_assumption -exfalso -symm)
    all_goals (first | (show endQ _ _ _ _ _ _ _; (repeat (rename (∀ (A : Fr) (H : Hp), AWP _ _ _ _ A H → _) => hK; clear hK)); (repeat (rename (Fr → Hp → Prop) => K; clear K))) | (show Exists _; (repeat (rename (∀ (A : Fr) (H : Hp), AWP _ _ _ _ A H → _) => hK; clear hK)); (repeat (rename (Fr → Hp → Prop) => K; clear K))) | skip)
    rw [show parts (Cg gs (bbP x y)) n = partK n (SL L0) n from e.symm]
    exact end_retV rfl rfl
end Go.Proofs.Ytngpacdhpblpbaa
end
/- Block systems, the program: the join of two partitions. -/
section
namespace Go.Proofs.Ytngpacdhpblpbaa
open Go.Av
set_option linter.unusedSimpArgs false
set_option linter.unusedVariables false
attribute [local irreducible] AWP CallG Ob Br BrP Go.Av.Sub endQ AOps OpV AC thenA blkA opsVC opVC withA withArgs opsQ opQ CallQ withA2 withArgs2
open Go.Pm (Pm ptI partI IsPart ixP Rsp rspI actP img invp mrg Lbl SL SB parts loR clsF clsN partK Cg MB Snd cntL idn Rep)
/-- A row of rows of rows. -/
@[go_sem] def i3 (ws : List (List (List Int))) : AV := .list false 1 ws.length (cM intss [] ws)
@[go_sem] theorem cM_intss (ws : List (List (List Int))) (i : Nat) : cM intss [] ws i = .list false 1 (ws.getD i []).length (cM ints [] (ws.getD i [])) := rfl
section
variable {n i k : Nat} {a b : List (List Int)} {L : List Int}
end
end Go.Proofs.Ytngpacdhpblpbaa
end
/- Block systems: what is drawn. -/
section
namespace Go.Proofs.Ytngpacdhpblpbaa
open Go.Av
set_option linter.unusedSimpArgs false
set_option linter.unusedVariables false
attribute [local irreducible] AWP CallG Ob Br BrP Go.Av.Sub endQ AOps OpV AC thenA blkA opsVC opVC withA withArgs opsQ opQ CallQ withA2 withArgs2
open Go.Pm (Pm ptI partI IsPart ixP Rsp rspI actP img invp mrg Lbl SL SB parts loR clsF clsN partK Cg MB Snd cntL idn Rep)
/-- Blocks as they are drawn. -/
def blQ (bs : List (List Int)) : Prop := bs.length ≤ 20 ∧ ∀ j, (bs.getD j []).length ≤ 21
theorem specMinimalBlocksI_ok (n : Int) (gs : List (List Int)) (x y : Int) (hok : isGens n gs) (hx : 0 ≤ x ∧ x < n) (hy : 0 ≤ y ∧ y < n) : AC Try.prog 95 [.v (.int .i64 (n)), intss gs, .v (.int .i64 (x)), .v (.int .i64 (y))] Hp.emp (fun _ => false) (retV (intss (parts (Cg gs (bbP x.toNat y.toNat)) n.toNat))) := by
  obtain ⟨_, h2, h3⟩ := gens_pm hok
  have hA := specMinimalBlocks_ok n.toNat gs x.toNat y.toNat (by rw [show ((n.toNat : Nat) : Int) = n by omega]; exact hok) (by omega) (by omega)
  rwa [show ((n.toNat : Nat) : Int) = n by omega, show ((x.toNat : Nat) : Int) = x by omega, show ((y.toNat : Nat) : Int) = y by omega] at hA
theorem parts_bl {n : Nat} (hn : n ≤ 20) (R : Nat → Nat → Prop) : blQ (parts R n) := by
  refine ⟨Nat.le_trans (Go.Pm.partK_len n R n) hn, fun j => ?_⟩
  by_cases hj : j < (parts R n).length
  · have hm := Go.Pm.getD_mem (b := []) hj
    obtain ⟨b, eb⟩ : ∃ b, b = (parts R n).getD j [] := ⟨_, rfl⟩
    rw [← eb] at hm ⊢
    obtain ⟨y, hy, _, rfl⟩ := Go.Pm.mem_partK.1 hm
    have := Go.Pm.clsF_len (n := n) (R := R) (x := y)
    omega
  · rw [List.getD_eq_getElem?_getD, List.getElem?_eq_none (by omega)]; exact Nat.zero_le _
end Go.Proofs.Ytngpacdhpblpbaa
end

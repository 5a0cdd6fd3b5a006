import Derived.Test.YtngpacdhpblpbaaB16
import Derived.Test.YtngpacdhpblpbaaB11
import Derived.Test.YtngpacdhpblpbaaB14
/- Block systems, the program: the finest block system with two points in one block. -/
section
namespace Go.Proofs.Ytngpacdhpblpbaa
open Go.Av
set_option linter.unusedSimpArgs false
set_option linter.unusedVariables false
attribute [local irreducible] AWP CallG Ob Br BrP Go.Av.Sub endQ AOps OpV AC thenA blkA opsVC opVC withA withArgs opsQ opQ CallQ withA2 withArgs2
open Go.Pm (Pm ptI partI IsPart ixP Rsp rspI actP img invp mrg Lbl SL SB parts loR clsF clsN partK Cg MB Snd cntL idn Rep)
/-- What has been looked at: each point beside the one that stands for its label. -/
def qiP (n : Nat) (gs : List (List Int)) (k z : Nat) (L : List Int) : Prop :=
  (∀ k', k' < k → ∀ z', z' < n → SL L (img (gs.getD k' []) z') (img (gs.getD k' []) (L.getD z' 0).toNat)) ∧
  (∀ z', z' < z → SL L (img (gs.getD k []) z') (img (gs.getD k []) (L.getD z' 0).toNat))
section
variable {n k z : Nat} {gs : List (List Int)} {L L0 : List Int} {B : Nat → Nat → Prop} {Q Q' : List Int → Prop} {ch : Bool}
theorem qiP_zero (n : Nat) (gs : List (List Int)) (L : List Int) : qiP n gs 0 0 L := ⟨fun _ h => absurd h (Nat.not_lt_zero _), fun _ h => absurd h (Nat.not_lt_zero _)⟩
theorem qiP_z (h : qiP n gs k z L) (hz : SL L (img (gs.getD k []) z) (img (gs.getD k []) (L.getD z 0).toNat)) : qiP n gs k (z + 1) L := ⟨h.1, fun z' hz' => by
  by_cases e : z' = z
  · subst e; exact hz
  · exact h.2 z' (by omega)⟩
theorem qiP_k (h : qiP n gs k n L) : qiP n gs (k + 1) 0 L := ⟨fun k' hk' => by
  by_cases e : k' = k
  · subst e; exact h.2
  · exact h.1 k' (by omega), fun _ h => absurd h (Nat.not_lt_zero _)⟩
theorem qiP_end (h : qiP n gs gs.length 0 L) : ∀ g ∈ gs, ∀ i j, i < n → j < n → SL L i j → SL L (img g i) (img g j) := fun g hg i j hi hj hs => by
  obtain ⟨k, hk, rfl⟩ := List.getElem_of_mem hg
  have e : gs.getD k [] = gs[k] := by simp [hk]
  have q1 := h.1 k hk i hi
  have q2 := h.1 k hk j hj
  rw [e] at q1 q2
  have e2 : L.getD i 0 = L.getD j 0 := hs
  rw [← e2] at q2
  exact Eq.trans q1 (Eq.symm q2)
theorem mb_hit (h : MB n gs B L0 Q L ch) {u v : Nat} (hu : u < n) (hv : v < n) (hr : Cg gs B u v) (hne : ¬ L.getD u 0 = L.getD v 0) : MB n gs B L0 Q' (mrg L (min (L.getD u 0) (L.getD v 0)) (max (L.getD u 0) (L.getD v 0))) true := by
  by_cases hl : L.getD u 0 ≤ L.getD v 0
  · rw [show min (L.getD u 0) (L.getD v 0) = L.getD u 0 by omega, show max (L.getD u 0) (L.getD v 0) = L.getD v 0 by omega]
    exact h.hit hu hv hr hne
  · rw [show min (L.getD u 0) (L.getD v 0) = L.getD v 0 by omega, show max (L.getD u 0) (L.getD v 0) = L.getD u 0 by omega]
    exact h.hit hv hu hr.symm (fun e => hne e.symm)
theorem rep_mm (hl : Lbl n L) (h : Rep n L) {u v : Nat} (hu : u < n) (hv : v < n) : Rep n (mrg L (min (L.getD u 0) (L.getD v 0)) (max (L.getD u 0) (L.getD v 0))) := by
  by_cases hl2 : L.getD u 0 ≤ L.getD v 0
  · rw [show min (L.getD u 0) (L.getD v 0) = L.getD u 0 by omega, show max (L.getD u 0) (L.getD v 0) = L.getD v 0 by omega]
    exact h.mrg hl hu hv
  · rw [show min (L.getD u 0) (L.getD v 0) = L.getD v 0 by omega, show max (L.getD u 0) (L.getD v 0) = L.getD u 0 by omega]
    exact h.mrg hl hv hu
theorem mrg_mm {a b : Int} (h : a = b) : mrg L (min a b) (max a b) = L := by
  subst h
  rw [show min a a = a by omega, show max a a = a by omega, Go.Pm.mrg_same]
end
theorem mrg_startM {n x y : Nat} (gs : List (List Int)) (hx : x < n) (hy : y < n) : Lbl n (mrg (idn n) (min (x : Int) y) (max (x : Int) y)) ∧ Snd n gs (bbP x y) (mrg (idn n) (min (x : Int) y) (max (x : Int) y)) ∧ (∀ a b, bbP x y a b → a < n ∧ b < n ∧ SL (mrg (idn n) (min (x : Int) y) (max (x : Int) y)) a b) ∧ Rep n (mrg (idn n) (min (x : Int) y) (max (x : Int) y)) := by
  have ex : (idn n).getD x 0 = (x : Int) := Go.Pm.idn_get hx
  have ey : (idn n).getD y 0 = (y : Int) := Go.Pm.idn_get hy
  have hl := Go.Pm.idn_length n
  have h4 := rep_mm (Go.Pm.Lbl.idn n) (Go.Pm.Rep.idn n) hx hy
  rw [ex, ey] at h4
  by_cases h : (x : Int) ≤ y
  · have e1 : min (x : Int) y = x := by omega
    have e2 : max (x : Int) y = y := by omega
    obtain ⟨h1, h2, h3⟩ := mrg_start gs hx hy
    rw [e1, e2] at h4 ⊢
    exact ⟨h1, h2, h3, h4⟩
  · have e1 : min (x : Int) y = y := by omega
    have e2 : max (x : Int) y = x := by omega
    rw [e1, e2] at h4 ⊢
    have h1 := (Go.Pm.Lbl.idn n).mrg (a := y) (b := x) (by omega)
    have h2 := (Go.Pm.Snd.idn (n := n) (gs := gs) (B := bbP x y)).mrg hl hy hx (Cg.base (B := bbP x y) ⟨rfl, rfl⟩).symm
    have h3 := Go.Pm.SL.made hl hy hx
    rw [ex, ey] at h2 h3
    exact ⟨h1, h2, fun a b ⟨f1, f2⟩ => by rw [f1, f2]; exact ⟨hx, hy, Eq.symm h3⟩, h4⟩
set_option maxHeartbeats 4000000 in
theorem implMinimalBlocks_ok (n : Nat) (gs : List (List Int)) (x y : Nat) (hok : isGens (n : Int) gs) (hx : x < n) (hy : y < n) : AC Try.prog 93 [.v (.int .i64 ((n : Nat))), intss gs, .v (.int .i64 ((x : Nat))), .v (.int .i64 ((y : Nat)))] Hp.emp (fun _ => false) (retV (intss (parts (Cg gs (bbP x y)) n))) := by
  obtain ⟨h1, h2, h3⟩ := gens_pm hok
  rw [Int.toNat_natCast] at h1
  have h1 := Hold.mk h1
  have hgl := hok.2.1
  have hil := Go.Pm.idn_length n
  have hst := Hold.mk (mrg_startM gs hx hy)
  refine ac_of_awp (N := ⟨_, fun _ => false, fun _ _ => rfl⟩) Try.func93 rfl (by kernel_rfl) Try.ntmps93 (by simp) ?_
  simp only [argsFr, List.zipIdx_cons, List.zipIdx_nil, go_sem]
  repeat' (first | refine awp_seqK fun K hK => ?_ | (refine awp_regionK 562950925465359 rfl ?_; simp only [List.map_cons, List.map_nil]; simp (maxSteps := 1000000) (dsimp := false) (implicitDefEqProofs := false) (disch := omega) only [wrap64, go_sem]) | (refine awp_regionQK 562950925465359 (by kernel_rfl) (by kernel_rfl) (by kernel_rfl) ?_; simp only [List.map_cons, List.map_nil]; simp (maxSteps := 1000000) (dsimp := false) (implicitDefEqProofs := false) (disch := omega) only [wrap64, go_sem]) | refine awp_block ?_ | (refine awp_skip ?_; simp only [go_sem]) | (refine awp_exit ?_; simp only [go_sem]) | (refine awp_ret ?_; try simp only [go_sem]) | (refine awp_condP rfl ?_; try simp only [go_sem]) | (refine BrP.mk (fun h => ?_) (fun h => ?_) <;> try simp (dsimp := false) (disch := omega) only [wrap64]) | (refine Br.mk (fun h => ?_) (fun h => ?_) <;> try simp (dsimp := false) (disch := omega) only [wrap64]) | refine Ob.mk (by first | omega | (intro _ _; rfl) | trivial | (intros; trivial) | assumption | (intro i hi; have h0 : i = 0 := (by omega); subst h0; first | rfl | trivial) | (intro i hi; have h0 : i = 0 ∨ i = 1 := (by omega); rcases h0 with rfl | rfl <;> rfl) | (intro i hi; have h0 : i = 0 ∨ i = 1 ∨ i = 2 := (by omega); rcases h0 with rfl | rfl | rfl <;> rfl)) ?_ | ((first | ((first | refine atF (f := 98) ?_ | refine atQ (f := 98) ?_); (first | (refine cI (hac := implIdentity_ok n (by omega) 15) (hK := ?_)) | (refine cQI (hac := implIdentity_ok n (by omega) 15) (hK := ?_)))) | ((first | refine atF (f := 100) ?_ | refine atQ (f := 100) ?_); (first | (refine cM' (hac := merge_ok (idn n) x y (by omega) 15) (hK := ?_))))); simp (maxSteps := 1000000) (dsimp := false) (implicitDefEqProofs := false) (disch := omega) only [wrap64, go_sem]) | apply_assumption -exfalso -symm)
  all_goals (first | (show endQ _ _ _ _ _ _ _; (repeat (rename (∀ (A : Fr) (H : Hp), AWP _ _ _ _ A H → _) => hK; clear hK)); (repeat (rename (Fr → Hp → Prop) => K; clear K))) | (show Exists _; (repeat (rename (∀ (A : Fr) (H : Hp), AWP _ _ _ _ A H → _) => hK; clear hK)); (repeat (rename (Fr → Hp → Prop) => K; clear K))) | skip)
  obtain ⟨Ls, eLs⟩ : ∃ Ls, Ls = mrg (idn n) (min (x : Int) y) (max (x : Int) y) := ⟨_, rfl⟩
  have hLs : Ls.length = (idn n).length := by rw [eLs, Go.Pm.mrg_length]
  rw [← eLs] at hst ⊢
  rw [← hLs]
  refine awp_loop (ι := List Int × Bool) (fun z => [(10, .v (.bool (z.2))), (9, .own 15 0 1 z.1.length), (0, .v (.int .i64 ((n : Nat)))), (1, .list false 1 (gs).length (cM ints [] (gs)))]) (fun z => Hp.emp.upd 15 (.cells z.1.length (cM iv 0 z.1))) (fun z => Hold (Lbl n z.1 ∧ Snd n gs (bbP x y) z.1 ∧ (∀ a b, bbP x y a b → a < n ∧ b < n ∧ SL z.1 a b) ∧ Rep n z.1 ∧ (z.2 = false → ∀ g ∈ gs, ∀ i j, i < n → j < n → SL z.1 i j → SL z.1 (img g i) (img g j)))) (fun z => 2 * cntL n z.1 + (if z.2 = true then 1 else 0)) (Ls, true) ⟨⟨hst.h.1, hst.h.2.1, hst.h.2.2.1, hst.h.2.2.2, fun h => by cases h⟩⟩ (Sub.toL (by simp only [go_sem] <;> first | trivial | (simp only [Option.some.injEq, AV.v.injEq, AV.own.injEq, AV.list.injEq, Value.int.injEq, Value.bool.injEq, true_and, and_true]; first | omega | (simp; done)) | (simp; done) | (simp; omega)) (Hp.le_refl _)) ?_
  rintro ⟨L0, c0⟩ hv
  dsimp only at hv ⊢
  have hl0 := hv.h.1.len
  have hb := Hold.mk hv.h.2.2.1
  have hms : Hold (MB n gs (bbP x y) L0 (qiP n gs 0 0) L0 false ∧ Rep n L0) := ⟨.start hv.h.1 hv.h.2.1 hb.h (qiP_zero n gs L0), hv.h.2.2.2.1⟩
  repeat' (first | refine awp_seqK fun K hK => ?_ | (refine awp_regionK 562950925465359 rfl ?_; simp only [List.map_cons, List.map_nil]; simp (maxSteps := 1000000) (dsimp := false) (implicitDefEqProofs := false) (disch := omega) only [wrap64, go_sem]) | (refine awp_regionQK 562950925465359 (by kernel_rfl) (by kernel_rfl) (by kernel_rfl) ?_; simp only [List.map_cons, List.map_nil]; simp (maxSteps := 1000000) (dsimp := false) (implicitDefEqProofs := false) (disch := omega) only [wrap64, go_sem]) | refine awp_block ?_ | (refine awp_skip ?_; simp only [go_sem]) | (refine awp_exit ?_; simp only [go_sem]) | (refine awp_ret ?_; try simp only [go_sem]) | (refine awp_condP rfl ?_; try simp only [go_sem]) | (refine BrP.mk (fun h => ?_) (fun h => ?_) <;> try simp (dsimp := false) (disch := omega) only [wrap64]) | (refine Br.mk (fun h => ?_) (fun h => ?_) <;> try simp (dsimp := false) (disch := omega) only [wrap64]) | refine Ob.mk (by first | omega | (intro _ _; rfl) | trivial | (intros; trivial) | assumption | (intro i hi; have h0 : i = 0 := (by omega); subst h0; first | rfl | trivial) | (intro i hi; have h0 : i = 0 ∨ i = 1 := (by omega); rcases h0 with rfl | rfl <;> rfl) | (intro i hi; have h0 : i = 0 ∨ i = 1 ∨ i = 2 := (by omega); rcases h0 with rfl | rfl | rfl <;> rfl)) ?_ | apply_assumption -exfalso -symm)
  all_goals (first | (show endQ _ _ _ _ _ _ _; (repeat (rename (∀ (A : Fr) (H : Hp), AWP _ _ _ _ A H → _) => hK; clear hK)); (repeat (rename (Fr → Hp → Prop) => K; clear K))) | (show Exists _; (repeat (rename (∀ (A : Fr) (H : Hp), AWP _ _ _ _ A H → _) => hK; clear hK)); (repeat (rename (Fr → Hp → Prop) => K; clear K))) | skip)
  · refine awp_loop (ι := Nat × List Int × Bool) (fun z => [(23, .v (.int .i64 ((z.1 : Nat)))), (22, .v (.int .i64 (gs.length))), (21, .list false 1 (gs).length (cM ints [] (gs))), (10, .v (.bool (z.2.2))), (9, .own 15 0 1 z.2.1.length), (0, .v (.int .i64 ((n : Nat)))), (1, .list false 1 (gs).length (cM ints [] (gs)))]) (fun z => Hp.emp.upd 15 (.cells z.2.1.length (cM iv 0 z.2.1))) (fun z => z.1 ≤ gs.length ∧ Hold (MB n gs (bbP x y) L0 (qiP n gs z.1 0) z.2.1 z.2.2 ∧ Rep n z.2.1)) (fun z => gs.length - z.1) (0, L0, false) ⟨Nat.zero_le _, hms⟩ (Sub.toL (by simp only [go_sem] <;> first | trivial | (simp only [Option.some.injEq, AV.v.injEq, AV.own.injEq, AV.list.injEq, Value.int.injEq, Value.bool.injEq, true_and, and_true]; first | omega | (simp; done)) | (simp; done) | (simp; omega)) (Hp.le_refl _)) ?_
    rintro ⟨k, L, ch⟩ ⟨hk, hm⟩
    dsimp only at hk hm ⊢
    have hlL := hm.h.1.lbl.len
    repeat' (first | refine awp_seqK fun K hK => ?_ | (refine awp_regionK 562950925465359 rfl ?_; simp only [List.map_cons, List.map_nil]; simp (maxSteps := 1000000) (dsimp := false) (implicitDefEqProofs := false) (disch := omega) only [wrap64, go_sem]) | (refine awp_regionQK 562950925465359 (by kernel_rfl) (by kernel_rfl) (by kernel_rfl) ?_; simp only [List.map_cons, List.map_nil]; simp (maxSteps := 1000000) (dsimp := false) (implicitDefEqProofs := false) (disch := omega) only [wrap64, go_sem]) | refine awp_block ?_ | (refine awp_skip ?_; simp only [go_sem]) | (refine awp_exit ?_; simp only [go_sem]) | (refine awp_ret ?_; try simp only [go_sem]) | (refine awp_condP rfl ?_; try simp only [go_sem]) | (refine BrP.mk (fun h => ?_) (fun h => ?_) <;> try simp (dsimp := false) (disch := omega) only [wrap64]) | (refine Br.mk (fun h => ?_) (fun h => ?_) <;> try simp (dsimp := false) (disch := omega) only [wrap64]) | refine Ob.mk (by first | omega | (intro _ _; rfl) | trivial | (intros; trivial) | assumption | (intro i hi; have h0 : i = 0 := (by omega); subst h0; first | rfl | trivial) | (intro i hi; have h0 : i = 0 ∨ i = 1 := (by omega); rcases h0 with rfl | rfl <;> rfl) | (intro i hi; have h0 : i = 0 ∨ i = 1 ∨ i = 2 := (by omega); rcases h0 with rfl | rfl | rfl <;> rfl)) ?_ | apply_assumption -exfalso -symm)
    all_goals (first | (show endQ _ _ _ _ _ _ _; (repeat (rename (∀ (A : Fr) (H : Hp), AWP _ _ _ _ A H → _) => hK; clear hK)); (repeat (rename (Fr → Hp → Prop) => K; clear K))) | (show Exists _; (repeat (rename (∀ (A : Fr) (H : Hp), AWP _ _ _ _ A H → _) => hK; clear hK)); (repeat (rename (Fr → Hp → Prop) => K; clear K))) | skip)
    · refine awp_loop (ι := Nat × List Int × Bool) (fun z => [(28, .v (.int .i64 ((z.1 : Nat)))), (27, .v (.int .i64 ((n : Nat)))), (12, .list false 1 (gs.getD k []).length (cM iv 0 (gs.getD k []))), (23, .v (.int .i64 ((k : Nat)))), (22, .v (.int .i64 (gs.length))), (21, .list false 1 (gs).length (cM ints [] (gs))), (10, .v (.bool (z.2.2))), (9, .own 15 0 1 z.2.1.length), (0, .v (.int .i64 ((n : Nat)))), (1, .list false 1 (gs).length (cM ints [] (gs)))]) (fun z => Hp.emp.upd 15 (.cells z.2.1.length (cM iv 0 z.2.1))) (fun z => z.1 ≤ n ∧ Hold (MB n gs (bbP x y) L0 (qiP n gs k z.1) z.2.1 z.2.2 ∧ Rep n z.2.1)) (fun z => n - z.1) (0, L, ch) ⟨Nat.zero_le _, hm⟩ (Sub.toL (by simp only [go_sem] <;> first | trivial | (simp only [Option.some.injEq, AV.v.injEq, AV.own.injEq, AV.list.injEq, Value.int.injEq, Value.bool.injEq, true_and, and_true]; first | omega | (simp; done)) | (simp; done) | (simp; omega)) (Hp.le_refl _)) ?_
      clear hm hlL L ch
      rintro ⟨z, L, ch⟩ ⟨hz, hm⟩
      dsimp only at hz hm ⊢
      have hlL := hm.h.1.lbl.len
      have hgm : Hold (gs.getD k [] ∈ gs) := ⟨by rw [List.getD_eq_getElem?_getD, List.getElem?_eq_getElem (show k < gs.length by omega)]; exact List.getElem_mem _⟩
      have hpk := Hold.mk (h1.h _ hgm.h)
      have hlen : (gs.getD k []).length = n := hpk.h.1
      obtain ⟨w, ew⟩ : ∃ w, w = (L.getD z 0).toNat := ⟨_, rfl⟩
      obtain ⟨u, eu⟩ : ∃ u, u = img (gs.getD k []) z := ⟨_, rfl⟩
      obtain ⟨v, ev⟩ : ∃ v, v = img (gs.getD k []) w := ⟨_, rfl⟩
      have hLz : z < n → L.getD z 0 = ((w : Nat) : Int) := fun h => by have := hm.h.1.lbl.rng z h; omega
      have hw : z < n → w < n := fun h => by have := hm.h.1.lbl.rng z h; omega
      have hgi : z < n → (gs.getD k []).getD z 0 = ((u : Nat) : Int) := fun h => by rw [eu]; exact hpk.h.get_eq h
      have hgj : z < n → (gs.getD k []).getD w 0 = ((v : Nat) : Int) := fun h => by rw [ev]; exact hpk.h.get_eq (hw h)
      have hu : z < n → u < n := fun h => by rw [eu]; exact hpk.h.img_lt h
      have hv' : z < n → v < n := fun h => by rw [ev]; exact hpk.h.img_lt (hw h)
      repeat' (first | (refine awp_regionEK (id := 12) 562950925465359 18 (by kernel_rfl) (by kernel_rfl) (by kernel_rfl) ?_; simp only [List.map_cons, List.map_nil, opsE, List.take_succ_cons, List.take_zero, List.drop_succ_cons, List.drop_zero]; simp (maxSteps := 1000000) (dsimp := false) (implicitDefEqProofs := false) (disch := omega) only [wrap64, go_sem, hLz, hgi, hgj]) | refine awp_seqK fun K hK => ?_ | (refine awp_regionK 562950925465359 rfl ?_; simp only [List.map_cons, List.map_nil]; simp (maxSteps := 1000000) (dsimp := false) (implicitDefEqProofs := false) (disch := omega) only [wrap64, go_sem, hLz, hgi, hgj]) | (refine awp_regionQK 562950925465359 (by kernel_rfl) (by kernel_rfl) (by kernel_rfl) ?_; simp only [List.map_cons, List.map_nil]; simp (maxSteps := 1000000) (dsimp := false) (implicitDefEqProofs := false) (disch := omega) only [wrap64, go_sem, hLz, hgi, hgj]) | refine awp_block ?_ | (refine awp_skip ?_; simp only [go_sem, hLz, hgi, hgj]) | (refine awp_exit ?_; simp only [go_sem, hLz, hgi, hgj]) | (refine awp_ret ?_; try simp only [go_sem, hLz, hgi, hgj]) | (refine awp_condP rfl ?_; try simp only [go_sem, hLz, hgi, hgj]) | (refine BrP.mk (fun h => ?_) (fun h => ?_) <;> try simp (dsimp := false) (disch := omega) only [wrap64]) | (refine Br.mk (fun h => ?_) (fun h => ?_) <;> try simp (dsimp := false) (disch := omega) only [wrap64]) | refine Ob.mk (by first | omega | (intro _ _; rfl) | trivial | (intros; trivial) | assumption | (intro i hi; have h0 : i = 0 := (by omega); subst h0; first | rfl | trivial) | (intro i hi; have h0 : i = 0 ∨ i = 1 := (by omega); rcases h0 with rfl | rfl <;> rfl) | (intro i hi; have h0 : i = 0 ∨ i = 1 ∨ i = 2 := (by omega); rcases h0 with rfl | rfl | rfl <;> rfl)) ?_ | ((first | ((first | refine atF (f := 100) ?_ | refine atQ (f := 100) ?_); (first | (refine cM' (hac := merge_ok L (L.getD u 0) (L.getD v 0) (by omega) 15) (hK := ?_))))); simp (maxSteps := 1000000) (dsimp := false) (implicitDefEqProofs := false) (disch := omega) only [wrap64, go_sem, hLz, hgi, hgj]) | apply_assumption -exfalso -symm)
      all_goals (first | (show endQ _ _ _ _ _ _ _; (repeat (rename (∀ (A : Fr) (H : Hp), AWP _ _ _ _ A H → _) => hK; clear hK)); (repeat (rename (Fr → Hp → Prop) => K; clear K))) | (show Exists _; (repeat (rename (∀ (A : Fr) (H : Hp), AWP _ _ _ _ A H → _) => hK; clear hK)); (repeat (rename (Fr → Hp → Prop) => K; clear K))) | skip)
      · refine ⟨(z + 1, L, ch), ⟨by dsimp only; omega, ⟨hm.h.1.miss fun hq => qiP_z hq ?_, hm.h.2⟩⟩, by dsimp only; omega, ?_⟩
        · rw [← ew, ← eu, ← ev]; assumption
        · rw [mrg_mm (by assumption)]
          exact Sub.toL (by simp only [go_sem] <;> first | trivial | (simp only [Option.some.injEq, AV.v.injEq, AV.own.injEq, AV.list.injEq, Value.int.injEq, Value.bool.injEq, true_and, and_true]; first | omega | (simp; done)) | (simp; done) | (simp; omega)) (Hp.le_refl _)
      · have hzn : z < n := by omega
        have hcg : Cg gs (bbP x y) u v := by
          rw [eu, ev]
          refine .act hgm.h (hm.h.1.snd z w hzn (hw hzn) ?_)
          have := hm.h.2 z hzn
          rw [← ew] at this
          exact Eq.symm this
        have el : (mrg L (min (L.getD u 0) (L.getD v 0)) (max (L.getD u 0) (L.getD v 0))).length = L.length := Go.Pm.mrg_length _ _ _
        refine ⟨(z + 1, mrg L (min (L.getD u 0) (L.getD v 0)) (max (L.getD u 0) (L.getD v 0)), true), ⟨by dsimp only; omega, ⟨mb_hit hm.h.1 (hu hzn) (hv' hzn) hcg (by assumption), rep_mm hm.h.1.lbl hm.h.2 (hu hzn) (hv' hzn)⟩⟩, by dsimp only; omega, ?_⟩
        dsimp only
        rw [el]
        exact Sub.toL (by simp only [go_sem] <;> first | trivial | (simp only [Option.some.injEq, AV.v.injEq, AV.own.injEq, AV.list.injEq, Value.int.injEq, Value.bool.injEq, true_and, and_true]; first | omega | (simp; done)) | (simp; done) | (simp; omega)) (Hp.le_refl _)
      · have ez : z = n := by omega
        rw [ez] at hm
        exact ⟨(k + 1, L, ch), ⟨by dsimp only; omega, ⟨hm.h.1.miss qiP_k, hm.h.2⟩⟩, by dsimp only; omega, Sub.toL (by simp only [go_sem] <;> first | trivial | (simp only [Option.some.injEq, AV.v.injEq, AV.own.injEq, AV.list.injEq, Value.int.injEq, Value.bool.injEq, true_and, and_true]; first | omega | (simp; done)) | (simp; done) | (simp; omega)) (Hp.le_refl _)⟩
    · have ek : k = gs.length := by omega
      subst ek
      refine ⟨(L, ch), ⟨hm.h.1.lbl, hm.h.1.snd, hm.h.1.base, hm.h.2, fun e => ?_⟩, ?_, Sub.toL (by simp only [go_sem] <;> first | trivial | (simp only [Option.some.injEq, AV.v.injEq, AV.own.injEq, AV.list.injEq, Value.int.injEq, Value.bool.injEq, true_and, and_true]; first | omega | (simp; done)) | (simp; done) | (simp; omega)) (Hp.le_refl _)⟩
      · dsimp only at e
        subst e
        exact qiP_end (hm.h.1.no rfl).2
      · dsimp only
        cases ch with
        | true => have := hm.h.1.yes rfl; simp only [if_true]; split <;> omega
        | false =>
          have e := (hm.h.1.no rfl).1
          rename_i hc0
          rw [e, hc0]
          simp
  · have ec : c0 = false := by assumption
    have e := Go.Pm.partK_congr (n := n) (R := SL L0) (R' := Cg gs (bbP x y)) (fun i j hi hj => Go.Pm.Cg.iff h1.h hb.h hv.h.2.1 (hv.h.2.2.2.2 ec) hi hj) (Nat.le_refl n)
    have hlb := partition_ok L0 (by omega)
    rw [show parts (SL L0) L0.length = partK n (SL L0) n by rw [hl0]] at hlb
    repeat' (first | refine awp_seqK fun K hK => ?_ | (refine awp_regionK 562950925465359 rfl ?_; simp only [List.map_cons, List.map_nil]; simp (maxSteps := 1000000) (dsimp := false) (implicitDefEqProofs := false) (disch := omega) only [wrap64, go_sem]) | (refine awp_regionQK 562950925465359 (by kernel_rfl) (by kernel_rfl) (by kernel_rfl) ?_; simp only [List.map_cons, List.map_nil]; simp (maxSteps := 1000000) (dsimp := false) (implicitDefEqProofs := false) (disch := omega) only [wrap64, go_sem]) | refine awp_block ?_ | (refine awp_skip ?_; simp only [go_sem]) | (refine awp_exit ?_; simp only [go_sem]) | (refine awp_ret ?_; try simp only [go_sem]) | (refine awp_condP rfl ?_; try simp only [go_sem]) | (refine BrP.mk (fun h => ?_) (fun h => ?_) <;> try simp (dsimp := false) (disch := omega) only [wrap64]) | (refine Br.mk (fun h => ?_) (fun h => ?_) <;> try simp (dsimp := false) (disch := omega) only [wrap64]) | refine Ob.mk (by first | omega | (intro _ _; rfl) | trivial | (intros; trivial) | assumption | (intro i hi; have h0 : i = 0 := (by omega); subst h0; first | rfl | trivial) | (intro i hi; have h0 : i = 0 ∨ i = 1 := (by omega); rcases h0 with rfl | rfl <;> rfl) | (intro i hi; have h0 : i = 0 ∨ i = 1 ∨ i = 2 := (by omega); rcases h0 with rfl | rfl | rfl <;> rfl)) ?_ | ((first | ((first | refine atF (f := 101) ?_ | refine atQ (f := 101) ?_); (refine callRk Hp.emp (Hp.le_emp _) (.cons (fits_I rfl rfl rfl rfl) .nil) hlb rfl ?_))); simp (maxSteps := 1000000) (dsimp := false) (implicitDefEqProofs := false) (disch := omega) only [wrap64, go_sem]) | apply_assumption -exfalso -symm)
    all_goals (first | (show endQ _ _ _ _ _ _ _; (repeat (rename (∀ (A : Fr) (H : Hp), AWP _ _ _ _ A H → _) => hK; clear hK)); (repeat (rename (Fr → Hp → Prop) => K; clear K))) | (show Exists _; (repeat (rename (∀ (A : Fr) (H : Hp), AWP _ _ _ _ A H → _) => hK; clear hK)); (repeat (rename (Fr → Hp → Prop) => K; clear K))) | skip)
    rw [show parts (Cg gs (bbP x y)) n = partK n (SL L0) n from e.symm]
    exact end_retV rfl rfl
theorem implMinimalBlockSystem_ok (n : Int) (gs : List (List Int)) (x y : Int) (hok : isGens n gs) (hx : 0 ≤ x ∧ x < n) (hy : 0 ≤ y ∧ y < n) : AC Try.prog 35 [.v (.int .i64 (n)), intss gs, .v (.int .i64 (x)), .v (.int .i64 (y))] Hp.emp (fun _ => false) (retV (intss (parts (Cg gs (bbP x.toNat y.toNat)) n.toNat))) := by
  have hd : decide (isGens n gs) = true := decide_eq_true hok
  obtain ⟨_, h2, h3⟩ := gens_pm hok
  have hA := implMinimalBlocks_ok n.toNat gs x.toNat y.toNat (by rw [show ((n.toNat : Nat) : Int) = n by omega]; exact hok) (by omega) (by omega)
  rw [show ((n.toNat : Nat) : Int) = n by omega, show ((x.toNat : Nat) : Int) = x by omega, show ((y.toNat : Nat) : Int) = y by omega] at hA
  have hdx : decide (0 ≤ x ∧ x ≤ n - 1) = true := decide_eq_true (by omega)
  have hdy : decide (0 ≤ y ∧ y ≤ n - 1) = true := decide_eq_true (by omega)
  refine ac_of_awp (N := ⟨_, fun _ => false, fun _ _ => rfl⟩) Try.func35 rfl (by kernel_rfl) Try.ntmps35 (by simp) ?_
  simp only [argsFr, List.zipIdx_cons, List.zipIdx_nil, go_sem]
  repeat' (first | refine awp_seqK fun K hK => ?_ | (refine awp_regionK 16777487 rfl ?_; simp only [List.map_cons, List.map_nil]; simp (maxSteps := 1000000) (dsimp := false) (implicitDefEqProofs := false) (disch := omega) only [wrap64, go_sem, hd, hdx, hdy]) | (refine awp_regionQK 16777487 (by kernel_rfl) (by kernel_rfl) (by kernel_rfl) ?_; simp only [List.map_cons, List.map_nil]; simp (maxSteps := 1000000) (dsimp := false) (implicitDefEqProofs := false) (disch := omega) only [wrap64, go_sem, hd, hdx, hdy]) | refine awp_block ?_ | (refine awp_skip ?_; simp only [go_sem, hd, hdx, hdy]) | (refine awp_exit ?_; simp only [go_sem, hd, hdx, hdy]) | (refine awp_ret ?_; try simp only [go_sem, hd, hdx, hdy]) | (refine awp_condP rfl ?_; try simp only [go_sem, hd, hdx, hdy]) | (refine BrP.mk (fun h => ?_) (fun h => ?_) <;> try simp (dsimp := false) (disch := omega) only [wrap64]) | (refine Br.mk (fun h => ?_) (fun h => ?_) <;> try simp (dsimp := false) (disch := omega) only [wrap64]) | refine Ob.mk (by first | omega | (intro _ _; rfl) | trivial | (intros; trivial) | assumption | (intro i hi; have h0 : i = 0 := (by omega); subst h0; first | rfl | trivial) | (intro i hi; have h0 : i = 0 ∨ i = 1 := (by omega); rcases h0 with rfl | rfl <;> rfl) | (intro i hi; have h0 : i = 0 ∨ i = 1 ∨ i = 2 := (by omega); rcases h0 with rfl | rfl | rfl <;> rfl)) ?_ | ((first | ((first | refine atF (f := 76) ?_ | refine atQ (f := 76) ?_); (first | (refine cV (hac := implIsGeneratorSet_ok n gs) (hK := ?_)) | (refine cQV (hac := implIsGeneratorSet_ok n gs) (hK := ?_)))) | ((first | refine atF (f := 92) ?_ | refine atQ (f := 92) ?_); (first | (refine cV (hac := isPoint_ok n x (by omega)) (hK := ?_)) | (refine cQV (hac := isPoint_ok n x (by omega)) (hK := ?_)))) | ((first | refine atF (f := 92) ?_ | refine atQ (f := 92) ?_); (first | (refine cV (hac := isPoint_ok n y (by omega)) (hK := ?_)) | (refine cQV (hac := isPoint_ok n y (by omega)) (hK := ?_)))) | (refine cR (hac := hA) (hK := ?_)) | (refine cQR (hac := hA) (hK := ?_))); simp (maxSteps := 1000000) (dsimp := false) (implicitDefEqProofs := false) (disch := omega) only [wrap64, go_sem, hd, hdx, hdy]) | apply_assumption -exfalso -symm)
  all_goals (first | (show endQ _ _ _ _ _ _ _; (repeat (rename (∀ (A : Fr) (H : Hp), AWP _ _ _ _ A H → _) => hK; clear hK)); (repeat (rename (Fr → Hp → Prop) => K; clear K))) | (show Exists _; (repeat (rename (∀ (A : Fr) (H : Hp), AWP _ _ _ _ A H → _) => hK; clear hK)); (repeat (rename (Fr → Hp → Prop) => K; clear K))) | skip)
  exact end_retV rfl rfl
end Go.Proofs.Ytngpacdhpblpbaa
end
/- Block systems, the program: the join of two partitions. -/
section
namespace Go.Proofs.Ytngpacdhpblpbaa
open Go.Av
set_option linter.unusedSimpArgs false
set_option linter.unusedVariables false
attribute [local irreducible] AWP CallG Ob Br BrP Go.Av.Sub endQ AOps OpV AC thenA blkA opsVC opVC withA withArgs opsQ opQ CallQ withA2 withArgs2
open Go.Pm (Pm ptI partI IsPart ixP Rsp rspI actP img invp mrg Lbl SL SB parts loR clsF clsN partK Cg MB Snd cntL idn Rep)
/-- A row of rows of rows. -/
@[go_sem] def i3 (ws : List (List (List Int))) : AV := .list false 1 ws.length (cM intss [] ws)
@[go_sem] theorem cM_intss (ws : List (List (List Int))) (i : Nat) : cM intss [] ws i = .list false 1 (ws.getD i []).length (cM ints [] (ws.getD i [])) := rfl
theorem sliceGrowL_ok (n : Nat) (hn : n ≤ 1048576) : AC Try.prog 151 [.v (.slice none 0 0), .v (.int .i64 (n))] Hp.emp (fun _ => false) (retL 22 []) := by
  refine ac_of_awp (N := ⟨_, fun _ => false, fun _ _ => rfl⟩) Try.func151 rfl (by kernel_rfl) Try.ntmps151 (by simp) ?_
  simp only [argsFr, List.zipIdx_cons, List.zipIdx_nil, go_sem]
  repeat' (first | refine awp_seqK fun K hK => ?_ | (refine awp_regionK 65619 rfl ?_; simp only [List.map_cons, List.map_nil]; simp (maxSteps := 1000000) (dsimp := false) (implicitDefEqProofs := false) (disch := omega) only [wrap64, go_sem]) | (refine awp_regionQK 65619 (by kernel_rfl) (by kernel_rfl) (by kernel_rfl) ?_; simp only [List.map_cons, List.map_nil]; simp (maxSteps := 1000000) (dsimp := false) (implicitDefEqProofs := false) (disch := omega) only [wrap64, go_sem]) | refine awp_block ?_ | (refine awp_skip ?_; simp only [go_sem]) | (refine awp_exit ?_; simp only [go_sem]) | (refine awp_ret ?_; try simp only [go_sem]) | (refine awp_condP rfl ?_; try simp only [go_sem]) | (refine BrP.mk (fun h => ?_) (fun h => ?_) <;> try simp (dsimp := false) (disch := omega) only [wrap64]) | (refine Br.mk (fun h => ?_) (fun h => ?_) <;> try simp (dsimp := false) (disch := omega) only [wrap64]) | refine Ob.mk (by first | omega | (intro _ _; rfl) | trivial | (intros; trivial) | assumption | (intro i hi; have h0 : i = 0 := (by omega); subst h0; first | rfl | trivial) | (intro i hi; have h0 : i = 0 ∨ i = 1 := (by omega); rcases h0 with rfl | rfl <;> rfl) | (intro i hi; have h0 : i = 0 ∨ i = 1 ∨ i = 2 := (by omega); rcases h0 with rfl | rfl | rfl <;> rfl)) ?_ | apply_assumption -exfalso -symm)
  all_goals (first | (show endQ _ _ _ _ _ _ _; (repeat (rename (∀ (A : Fr) (H : Hp), AWP _ _ _ _ A H → _) => hK; clear hK)); (repeat (rename (Fr → Hp → Prop) => K; clear K))) | (show Exists _; (repeat (rename (∀ (A : Fr) (H : Hp), AWP _ _ _ _ A H → _) => hK; clear hK)); (repeat (rename (Fr → Hp → Prop) => K; clear K))) | skip)
  · omega
  · exact endQ_sub ((Sub.shrink (h := 22) (m := 0) rfl (by omega)).trans (Sub.cells (f' := cM ints [] []) (fun i h => absurd h (by omega)))) (end_own (H' := Hp.emp.upd 22 (.cells 0 (cM ints [] []))) rfl rfl (Hp.le_upd rfl (Hp.le_emp _)) ⟨rfl, rfl⟩)
  · exact endQ_sub (Sub.nil (i := 4) 22 1 (cM ints [] []) rfl rfl) (end_own (H' := Hp.emp.upd 22 (.cells 0 (cM ints [] []))) rfl rfl (Hp.le_upd rfl (Hp.le_emp _)) ⟨rfl, rfl⟩)
theorem flat3_take (ws : List (List (List Int))) (k : Nat) : (ws.take k).flatten.length ≤ ws.flatten.length := by
  conv => rhs; rw [← List.take_append_drop k ws, List.flatten_append, List.length_append]
  omega
theorem flat3_snoc (ws : List (List (List Int))) (k : Nat) (h : k < ws.length) : (ws.take (k + 1)).flatten = (ws.take k).flatten ++ ws.getD k [] := by
  rw [List.take_add_one, List.flatten_append, List.getD_eq_getElem?_getD, List.getElem?_eq_getElem h]
  simp
theorem sliceConcatL_ok (ws : List (List (List Int))) (hl : ws.length ≤ 1048576) (ht : ws.flatten.length ≤ 1048576) : AC Try.prog 99 [i3 ws] Hp.emp (fun _ => false) (retV (intss ws.flatten)) := by
  refine ac_of_awp (N := ⟨_, fun _ => false, fun _ _ => rfl⟩) Try.func99 rfl (by kernel_rfl) Try.ntmps99 (by simp) ?_
  simp only [argsFr, List.zipIdx_cons, List.zipIdx_nil, go_sem]
  repeat' (first | refine awp_seqK fun K hK => ?_ | (refine awp_regionK 504373101 rfl ?_; simp only [List.map_cons, List.map_nil]; simp (maxSteps := 1000000) (dsimp := false) (implicitDefEqProofs := false) (disch := omega) only [wrap64, go_sem]) | (refine awp_regionQK 504373101 (by kernel_rfl) (by kernel_rfl) (by kernel_rfl) ?_; simp only [List.map_cons, List.map_nil]; simp (maxSteps := 1000000) (dsimp := false) (implicitDefEqProofs := false) (disch := omega) only [wrap64, go_sem]) | refine awp_block ?_ | (refine awp_skip ?_; simp only [go_sem]) | (refine awp_exit ?_; simp only [go_sem]) | (refine awp_ret ?_; try simp only [go_sem]) | (refine awp_condP rfl ?_; try simp only [go_sem]) | (refine BrP.mk (fun h => ?_) (fun h => ?_) <;> try simp (dsimp := false) (disch := omega) only [wrap64]) | (refine Br.mk (fun h => ?_) (fun h => ?_) <;> try simp (dsimp := false) (disch := omega) only [wrap64]) | refine Ob.mk (by first | omega | (intro _ _; rfl) | trivial | (intros; trivial) | assumption | (intro i hi; have h0 : i = 0 := (by omega); subst h0; first | rfl | trivial) | (intro i hi; have h0 : i = 0 ∨ i = 1 := (by omega); rcases h0 with rfl | rfl <;> rfl) | (intro i hi; have h0 : i = 0 ∨ i = 1 ∨ i = 2 := (by omega); rcases h0 with rfl | rfl | rfl <;> rfl)) ?_ | apply_assumption -exfalso -symm)
  all_goals (first | (show endQ _ _ _ _ _ _ _; (repeat (rename (∀ (A : Fr) (H : Hp), AWP _ _ _ _ A H → _) => hK; clear hK)); (repeat (rename (Fr → Hp → Prop) => K; clear K))) | (show Exists _; (repeat (rename (∀ (A : Fr) (H : Hp), AWP _ _ _ _ A H → _) => hK; clear hK)); (repeat (rename (Fr → Hp → Prop) => K; clear K))) | skip)
  refine awp_loop (ι := Nat) (fun k => [(11, .v (.int .i64 (k))), (10, .v (.int .i64 (ws.length))), (9, i3 ws), (0, i3 ws), (3, .v (.int .i64 (((ws.take k).flatten.length : Nat))))]) (fun k => Hp.emp) (fun k => k ≤ ws.length) (fun k => ws.length - k) 0 ?_ (Sub.toL (by simp only [go_sem] <;> first | trivial | (simp only [Option.some.injEq, AV.v.injEq, AV.own.injEq, AV.list.injEq, Value.int.injEq, Value.bool.injEq, true_and, and_true]; first | omega | (simp; done)) | (simp; done) | (simp; omega)) (by (repeat' (first | exact Hp.le_emp _ | exact Hp.le_refl _ | refine Hp.le_upd ?_ ?_)); all_goals (first | rfl | (simp only [go_sem]; first | rfl | (refine cellsE ?_ ?_ <;> (simp)) | (simp))))) ?_
  · exact Nat.zero_le _
  · intro k hk
    have h1 := flat3_take ws k
    have h2 := flat3_take ws (k + 1)
    have h3 := fun h => congrArg List.length (flat3_snoc ws k h)
    simp only [List.length_append] at h3
    repeat' (first | refine awp_seqK fun K hK => ?_ | (refine awp_regionK 504373101 rfl ?_; simp only [List.map_cons, List.map_nil]; simp (maxSteps := 1000000) (dsimp := false) (implicitDefEqProofs := false) (disch := omega) only [wrap64, go_sem]) | (refine awp_regionQK 504373101 (by kernel_rfl) (by kernel_rfl) (by kernel_rfl) ?_; simp only [List.map_cons, List.map_nil]; simp (maxSteps := 1000000) (dsimp := false) (implicitDefEqProofs := false) (disch := omega) only [wrap64, go_sem]) | refine awp_block ?_ | (refine awp_skip ?_; simp only [go_sem]) | (refine awp_exit ?_; simp only [go_sem]) | (refine awp_ret ?_; try simp only [go_sem]) | (refine awp_condP rfl ?_; try simp only [go_sem]) | (refine BrP.mk (fun h => ?_) (fun h => ?_) <;> try simp (dsimp := false) (disch := omega) only [wrap64]) | (refine Br.mk (fun h => ?_) (fun h => ?_) <;> try simp (dsimp := false) (disch := omega) only [wrap64]) | refine Ob.mk (by first | omega | (intro _ _; rfl) | trivial | (intros; trivial) | assumption | (intro i hi; have h0 : i = 0 := (by omega); subst h0; first | rfl | trivial) | (intro i hi; have h0 : i = 0 ∨ i = 1 := (by omega); rcases h0 with rfl | rfl <;> rfl) | (intro i hi; have h0 : i = 0 ∨ i = 1 ∨ i = 2 := (by omega); rcases h0 with rfl | rfl | rfl <;> rfl)) ?_ | apply_assumption -exfalso -symm)
    all_goals (first | (show endQ _ _ _ _ _ _ _; (repeat (rename (∀ (A : Fr) (H : Hp), AWP _ _ _ _ A H → _) => hK; clear hK)); (repeat (rename (Fr → Hp → Prop) => K; clear K))) | (show Exists _; (repeat (rename (∀ (A : Fr) (H : Hp), AWP _ _ _ _ A H → _) => hK; clear hK)); (repeat (rename (Fr → Hp → Prop) => K; clear K))) | skip)
    · omega
    · exact ⟨k + 1, by omega, by omega, Sub.toL (by simp only [go_sem] <;> first | trivial | (simp only [Option.some.injEq, AV.v.injEq, AV.own.injEq, AV.list.injEq, Value.int.injEq, Value.bool.injEq, true_and, and_true]; first | omega | (simp; done)) | (simp; done) | (simp; omega)) (Hp.le_refl _)⟩
    · have e : k = ws.length := by omega
      subst e
      rw [List.take_length]
      repeat' (first | refine awp_seqK fun K hK => ?_ | (refine awp_regionK 504373101 rfl ?_; simp only [List.map_cons, List.map_nil]; simp (maxSteps := 1000000) (dsimp := false) (implicitDefEqProofs := false) (disch := omega) only [wrap64, go_sem]) | (refine awp_regionQK 504373101 (by kernel_rfl) (by kernel_rfl) (by kernel_rfl) ?_; simp only [List.map_cons, List.map_nil]; simp (maxSteps := 1000000) (dsimp := false) (implicitDefEqProofs := false) (disch := omega) only [wrap64, go_sem]) | refine awp_block ?_ | (refine awp_skip ?_; simp only [go_sem]) | (refine awp_exit ?_; simp only [go_sem]) | (refine awp_ret ?_; try simp only [go_sem]) | (refine awp_condP rfl ?_; try simp only [go_sem]) | (refine BrP.mk (fun h => ?_) (fun h => ?_) <;> try simp (dsimp := false) (disch := omega) only [wrap64]) | (refine Br.mk (fun h => ?_) (fun h => ?_) <;> try simp (dsimp := false) (disch := omega) only [wrap64]) | refine Ob.mk (by first | omega | (intro _ _; rfl) | trivial | (intros; trivial) | assumption | (intro i hi; have h0 : i = 0 := (by omega); subst h0; first | rfl | trivial) | (intro i hi; have h0 : i = 0 ∨ i = 1 := (by omega); rcases h0 with rfl | rfl <;> rfl) | (intro i hi; have h0 : i = 0 ∨ i = 1 ∨ i = 2 := (by omega); rcases h0 with rfl | rfl | rfl <;> rfl)) ?_ | ((first | ((first | refine atF (f := 151) ?_ | refine atQ (f := 151) ?_); (refine callL (sliceGrowL_ok ws.flatten.length ht) rfl ?_))); simp (maxSteps := 1000000) (dsimp := false) (implicitDefEqProofs := false) (disch := omega) only [wrap64, go_sem]) | apply_assumption -exfalso -symm)
      all_goals (first | (show endQ _ _ _ _ _ _ _; (repeat (rename (∀ (A : Fr) (H : Hp), AWP _ _ _ _ A H → _) => hK; clear hK)); (repeat (rename (Fr → Hp → Prop) => K; clear K))) | (show Exists _; (repeat (rename (∀ (A : Fr) (H : Hp), AWP _ _ _ _ A H → _) => hK; clear hK)); (repeat (rename (Fr → Hp → Prop) => K; clear K))) | skip)
      refine awp_loop (ι := Nat) (fun k => [(27, .v (.int .i64 ((k : Nat)))), (26, .v (.int .i64 (ws.length))), (25, i3 ws), (6, .own 22 0 1 (ws.take k).flatten.length)]) (fun k => Hp.emp.upd 22 (.cells (ws.take k).flatten.length (cM ints [] (ws.take k).flatten))) (fun k => k ≤ ws.length) (fun k => ws.length - k) 0 (Nat.zero_le _) (Sub.toL (by simp only [go_sem] <;> first | trivial | (simp only [Option.some.injEq, AV.v.injEq, AV.own.injEq, AV.list.injEq, Value.int.injEq, Value.bool.injEq, true_and, and_true]; first | omega | (simp; done)) | (simp; done) | (simp; omega)) (Hp.le_refl _)) ?_
      clear hk h1 h2 h3
      intro k hk
      have h1 := flat3_take ws k
      have h2 := flat3_take ws (k + 1)
      have h4 := flat3_snoc ws k
      have h3 := fun h => congrArg List.length (flat3_snoc ws k h)
      simp only [List.length_append] at h3
      repeat' (first | refine awp_seqK fun K hK => ?_ | (refine awp_regionK 504373101 rfl ?_; simp only [List.map_cons, List.map_nil]; simp (maxSteps := 1000000) (dsimp := false) (implicitDefEqProofs := false) (disch := omega) only [wrap64, go_sem]) | (refine awp_regionQK 504373101 (by kernel_rfl) (by kernel_rfl) (by kernel_rfl) ?_; simp only [List.map_cons, List.map_nil]; simp (maxSteps := 1000000) (dsimp := false) (implicitDefEqProofs := false) (disch := omega) only [wrap64, go_sem]) | refine awp_block ?_ | (refine awp_skip ?_; simp only [go_sem]) | (refine awp_exit ?_; simp only [go_sem]) | (refine awp_ret ?_; try simp only [go_sem]) | (refine awp_condP rfl ?_; try simp only [go_sem]) | (refine BrP.mk (fun h => ?_) (fun h => ?_) <;> try simp (dsimp := false) (disch := omega) only [wrap64]) | (refine Br.mk (fun h => ?_) (fun h => ?_) <;> try simp (dsimp := false) (disch := omega) only [wrap64]) | refine Ob.mk (by first | omega | (intro _ _; rfl) | trivial | (intros; trivial) | assumption | (intro i hi; have h0 : i = 0 := (by omega); subst h0; first | rfl | trivial) | (intro i hi; have h0 : i = 0 ∨ i = 1 := (by omega); rcases h0 with rfl | rfl <;> rfl) | (intro i hi; have h0 : i = 0 ∨ i = 1 ∨ i = 2 := (by omega); rcases h0 with rfl | rfl | rfl <;> rfl)) ?_ | apply_assumption -exfalso -symm)
      all_goals (first | (show endQ _ _ _ _ _ _ _; (repeat (rename (∀ (A : Fr) (H : Hp), AWP _ _ _ _ A H → _) => hK; clear hK)); (repeat (rename (Fr → Hp → Prop) => K; clear K))) | (show Exists _; (repeat (rename (∀ (A : Fr) (H : Hp), AWP _ _ _ _ A H → _) => hK; clear hK)); (repeat (rename (Fr → Hp → Prop) => K; clear K))) | skip)
      · have h5 := h4 (by omega)
        exact ⟨k + 1, by omega, by omega, Sub.toL (by simp only [go_sem] <;> first | trivial | (simp only [Option.some.injEq, AV.v.injEq, AV.own.injEq, AV.list.injEq, Value.int.injEq, Value.bool.injEq, true_and, and_true]; first | omega | (simp [h5]; done)) | (simp [h5]; done) | (simp [h5]; omega)) (by (repeat' (first | exact Hp.le_emp _ | exact Hp.le_refl _ | refine Hp.le_upd ?_ ?_)); all_goals (first | rfl | (simp only [go_sem]; first | rfl | (refine cellsE ?_ ?_ <;> (simp [h5])) | (simp [h5]))))⟩
      · have e : k = ws.length := by omega
        subst e
        rw [List.take_length]
        exact end_retF rfl rfl (fits_II rfl trivial rfl rfl)
theorem fits_lit23 {H : Hp} {D : Nat → Prop} {h : Nat} {a b : List (List Int)} {z : Nat → AV} (hH : H h = some (.cells 2 (setF (setF z 0 (intss a)) 1 (intss b)))) (hD : D h) : Fits H D (.own h 0 1 2) (i3 [a, b]) := by
  refine .own hH hD (by omega) (fun i hi => ?_) fun i hi => ?_
  · match i, hi with
    | 0, _ => exact trivial
    | 1, _ => exact trivial
  · match i, hi with
    | 0, _ => exact .refl _
    | 1, _ => exact .refl _
theorem jl_start (n : Nat) (a b : List (List Int)) : JL n a b 0 0 (idn n) := ⟨.idn n, .idn, fun _ h => absurd h (Nat.not_lt_zero _), fun _ h => absurd h (Nat.not_lt_zero _)⟩
section
variable {n i k : Nat} {a b : List (List Int)} {L : List Int}
theorem JL.stepM (ha : IsPart n a) (hb : IsPart n b) (h : JL n a b i k L) (hi : i < (a ++ b).length) (hk : k < ((a ++ b).getD i []).length) :
    JL n a b i (k + 1) (mrg L (min (L.getD (((a ++ b).getD i []).getD 0 0).toNat 0) (L.getD (((a ++ b).getD i []).getD k 0).toNat 0)) (max (L.getD (((a ++ b).getD i []).getD 0 0).toNat 0) (L.getD (((a ++ b).getD i []).getD k 0).toNat 0))) := by
  obtain ⟨x, e1, hx, _⟩ := app_entry ha hb hi (app_pos ha hb hi)
  obtain ⟨y, e2, hy, hr⟩ := app_entry ha hb hi hk
  have hxm : (x : Int) ∈ (a ++ b).getD i [] := by rw [← e1]; exact Go.Pm.row_mem (app_pos ha hb hi)
  have hcg : Cg [] (jjP a b) x y := .base (hr x hxm)
  have hll := h.lbl.len
  have keep : ∀ (p q : Int) {i' k' : Nat}, i' < (a ++ b).length → k' < ((a ++ b).getD i' []).length → SL L (((a ++ b).getD i' []).getD 0 0).toNat (((a ++ b).getD i' []).getD k' 0).toNat →
      SL (mrg L p q) (((a ++ b).getD i' []).getD 0 0).toNat (((a ++ b).getD i' []).getD k' 0).toNat := fun p q i' k' hi' hk' hs => by
    obtain ⟨u, f1, hu, _⟩ := app_entry ha hb hi' (app_pos ha hb hi')
    obtain ⟨v, f2, hv, _⟩ := app_entry ha hb hi' hk'
    rw [f1, f2, Int.toNat_natCast, Int.toNat_natCast] at hs ⊢
    exact hs.mrg hll hu hv _ _
  rw [e1, e2, Int.toNat_natCast, Int.toNat_natCast]
  have hlast : SL (mrg L (min (L.getD x 0) (L.getD y 0)) (max (L.getD x 0) (L.getD y 0))) x y := by
    by_cases hl : L.getD x 0 ≤ L.getD y 0
    · rw [show min (L.getD x 0) (L.getD y 0) = L.getD x 0 by omega, show max (L.getD x 0) (L.getD y 0) = L.getD y 0 by omega]
      exact Go.Pm.SL.made hll hx hy
    · rw [show min (L.getD x 0) (L.getD y 0) = L.getD y 0 by omega, show max (L.getD x 0) (L.getD y 0) = L.getD x 0 by omega]
      exact Eq.symm (Go.Pm.SL.made hll hy hx)
  have hsnd : Snd n [] (jjP a b) (mrg L (min (L.getD x 0) (L.getD y 0)) (max (L.getD x 0) (L.getD y 0))) := by
    by_cases hl : L.getD x 0 ≤ L.getD y 0
    · rw [show min (L.getD x 0) (L.getD y 0) = L.getD x 0 by omega, show max (L.getD x 0) (L.getD y 0) = L.getD y 0 by omega]
      exact h.snd.mrg hll hx hy hcg
    · rw [show min (L.getD x 0) (L.getD y 0) = L.getD y 0 by omega, show max (L.getD x 0) (L.getD y 0) = L.getD x 0 by omega]
      exact h.snd.mrg hll hy hx hcg.symm
  have hmin := h.lbl.rng x hx
  have hmin2 := h.lbl.rng y hy
  refine ⟨h.lbl.mrg (by omega), hsnd, fun i' hi' k' hk' => keep _ _ (by omega) hk' (h.past i' hi' k' hk'), fun k' hk' => ?_⟩
  by_cases e : k' = k
  · subst e
    rw [e1, e2, Int.toNat_natCast, Int.toNat_natCast]
    exact hlast
  · exact keep _ _ hi (by omega) (h.row k' (by omega))
theorem JL.nextM (h : JL n a b i ((a ++ b).getD i []).length L) : JL n a b (i + 1) 0 L := ⟨h.lbl, h.snd, fun i' hi' => by
  by_cases e : i' = i
  · subst e; exact h.row
  · exact h.past i' (by omega), fun _ h => absurd h (Nat.not_lt_zero _)⟩
end
theorem implJoin_ok (n : Nat) (a b : List (List Int)) (hn : 1 ≤ n ∧ n ≤ 20) (ha : IsPart n a) (hb : IsPart n b) : AC Try.prog 37 [.v (.int .i64 ((n : Nat))), intss a, intss b] Hp.emp (fun _ => false) (retV (intss (parts (Cg [] (jjP a b)) n))) := by
  have hal := ha.len
  have hbl := hb.len
  have hab := Hold.mk (part_blk ha)
  have hbb := Hold.mk (part_blk hb)
  have hda : decide (IsPart n a) = true := decide_eq_true ha
  have hdb : decide (IsPart n b) = true := decide_eq_true hb
  have hca := Hold.mk (classOf_ok n a hn (by omega) (fun j => by have := hab.h j; omega))
  have hcb := Hold.mk (classOf_ok n b hn (by omega) (fun j => by have := hbb.h j; omega))
  have ha := Hold.mk ha
  have hb := Hold.mk hb
  have hil := Go.Pm.idn_length n
  have hin : (1 : Int) ≤ (n : Int) ∧ (n : Int) ≤ 20 := by omega
  have hcc := sliceConcatL_ok [a, b] (by simp) (by simp; omega)
  rw [show [a, b].flatten = a ++ b by simp] at hcc
  refine ac_of_awp (N := ⟨_, fun _ => false, fun _ _ => rfl⟩) Try.func37 rfl (by kernel_rfl) Try.ntmps37 (by simp) ?_
  simp only [argsFr, List.zipIdx_cons, List.zipIdx_nil, go_sem]
  repeat' (first | ((first | refine atF (f := 97) ?_ | refine atQ (f := 97) ?_); (first | (refine callX hca.h (class_sc n a) (fun r hq => ?_); obtain ⟨cl, rfl, _⟩ := hq) | (refine callX hcb.h (class_sc n b) (fun r hq => ?_); obtain ⟨cl, rfl, _⟩ := hq)) <;> simp (maxSteps := 1000000) (dsimp := false) (implicitDefEqProofs := false) (disch := omega) only [wrap64, go_sem, hda, hdb]) | refine awp_seqK fun K hK => ?_ | (refine awp_regionK 1072041084366151 rfl ?_; simp only [List.map_cons, List.map_nil]; simp (maxSteps := 1000000) (dsimp := false) (implicitDefEqProofs := false) (disch := omega) only [wrap64, go_sem, hda, hdb]) | (refine awp_regionQK 1072041084366151 (by kernel_rfl) (by kernel_rfl) (by kernel_rfl) ?_; simp only [List.map_cons, List.map_nil]; simp (maxSteps := 1000000) (dsimp := false) (implicitDefEqProofs := false) (disch := omega) only [wrap64, go_sem, hda, hdb]) | refine awp_block ?_ | (refine awp_skip ?_; simp only [go_sem, hda, hdb]) | (refine awp_exit ?_; simp only [go_sem, hda, hdb]) | (refine awp_ret ?_; try simp only [go_sem, hda, hdb]) | (refine awp_condP rfl ?_; try simp only [go_sem, hda, hdb]) | (refine BrP.mk (fun h => ?_) (fun h => ?_) <;> try simp (dsimp := false) (disch := omega) only [wrap64]) | (refine Br.mk (fun h => ?_) (fun h => ?_) <;> try simp (dsimp := false) (disch := omega) only [wrap64]) | refine Ob.mk (by first | omega | (intro _ _; rfl) | trivial | (intros; trivial) | assumption | (intro i hi; have h0 : i = 0 := (by omega); subst h0; first | rfl | trivial) | (intro i hi; have h0 : i = 0 ∨ i = 1 := (by omega); rcases h0 with rfl | rfl <;> rfl) | (intro i hi; have h0 : i = 0 ∨ i = 1 ∨ i = 2 := (by omega); rcases h0 with rfl | rfl | rfl <;> rfl)) ?_ | ((first | ((first | refine atF (f := 96) ?_ | refine atQ (f := 96) ?_); (first | (refine cV (hac := within_ok (n : Int) 1 20) (hK := ?_)) | (refine cQV (hac := within_ok (n : Int) 1 20) (hK := ?_)))) | ((first | refine atF (f := 98) ?_ | refine atQ (f := 98) ?_); (first | (refine cI (hac := implIdentity_ok n (by omega) 36) (hK := ?_)) | (refine cQI (hac := implIdentity_ok n (by omega) 36) (hK := ?_)))) | ((first | refine atF (f := 99) ?_ | refine atQ (f := 99) ?_); (refine callRk (Hp.emp.upd 36 (.cells (idn n).length (cM iv 0 (idn n)))) (Hp.le_upd rfl (Hp.le_emp _)) (.cons (fits_lit23 rfl rfl) .nil) hcc rfl ?_))); simp (maxSteps := 1000000) (dsimp := false) (implicitDefEqProofs := false) (disch := omega) only [wrap64, go_sem, hda, hdb]) | apply_assumption -exfalso -symm)
  all_goals (first | (show endQ _ _ _ _ _ _ _; (repeat (rename (∀ (A : Fr) (H : Hp), AWP _ _ _ _ A H → _) => hK; clear hK)); (repeat (rename (Fr → Hp → Prop) => K; clear K))) | (show Exists _; (repeat (rename (∀ (A : Fr) (H : Hp), AWP _ _ _ _ A H → _) => hK; clear hK)); (repeat (rename (Fr → Hp → Prop) => K; clear K))) | skip)
  have hlen : (a ++ b).length = a.length + b.length := List.length_append
  have hblk := Hold.mk (app_blk ha.h hb.h)
  refine awp_loop (ι := Nat × List Int) (fun z => [(42, .v (.int .i64 ((z.1 : Nat)))), (41, .v (.int .i64 ((a ++ b).length))), (40, .list false 1 (a ++ b).length (cM ints [] (a ++ b))), (11, .own 36 0 1 z.2.length)]) (fun z => Hp.emp.upd 36 (.cells z.2.length (cM iv 0 z.2))) (fun z => z.1 ≤ (a ++ b).length ∧ Hold (JL n a b z.1 0 z.2)) (fun z => (a ++ b).length - z.1) (0, idn n) ⟨Nat.zero_le _, ⟨jl_start n a b⟩⟩ (Sub.toL (by simp only [go_sem] <;> first | trivial | (simp only [Option.some.injEq, AV.v.injEq, AV.own.injEq, AV.list.injEq, Value.int.injEq, Value.bool.injEq, true_and, and_true]; first | omega | (simp; done)) | (simp; done) | (simp; omega)) (Hp.le_refl _)) ?_
  rintro ⟨i, L⟩ ⟨hi, hv⟩
  dsimp only at hi hv ⊢
  have hbi := hblk.h i
  repeat' (first | refine awp_seqK fun K hK => ?_ | (refine awp_regionK 1072041084366151 rfl ?_; simp only [List.map_cons, List.map_nil]; simp (maxSteps := 1000000) (dsimp := false) (implicitDefEqProofs := false) (disch := omega) only [wrap64, go_sem]) | (refine awp_regionQK 1072041084366151 (by kernel_rfl) (by kernel_rfl) (by kernel_rfl) ?_; simp only [List.map_cons, List.map_nil]; simp (maxSteps := 1000000) (dsimp := false) (implicitDefEqProofs := false) (disch := omega) only [wrap64, go_sem]) | refine awp_block ?_ | (refine awp_skip ?_; simp only [go_sem]) | (refine awp_exit ?_; simp only [go_sem]) | (refine awp_ret ?_; try simp only [go_sem]) | (refine awp_condP rfl ?_; try simp only [go_sem]) | (refine BrP.mk (fun h => ?_) (fun h => ?_) <;> try simp (dsimp := false) (disch := omega) only [wrap64]) | (refine Br.mk (fun h => ?_) (fun h => ?_) <;> try simp (dsimp := false) (disch := omega) only [wrap64]) | refine Ob.mk (by first | omega | (intro _ _; rfl) | trivial | (intros; trivial) | assumption | (intro i hi; have h0 : i = 0 := (by omega); subst h0; first | rfl | trivial) | (intro i hi; have h0 : i = 0 ∨ i = 1 := (by omega); rcases h0 with rfl | rfl <;> rfl) | (intro i hi; have h0 : i = 0 ∨ i = 1 ∨ i = 2 := (by omega); rcases h0 with rfl | rfl | rfl <;> rfl)) ?_ | apply_assumption -exfalso -symm)
  all_goals (first | (show endQ _ _ _ _ _ _ _; (repeat (rename (∀ (A : Fr) (H : Hp), AWP _ _ _ _ A H → _) => hK; clear hK)); (repeat (rename (Fr → Hp → Prop) => K; clear K))) | (show Exists _; (repeat (rename (∀ (A : Fr) (H : Hp), AWP _ _ _ _ A H → _) => hK; clear hK)); (repeat (rename (Fr → Hp → Prop) => K; clear K))) | skip)
  · have hpos := app_pos ha.h hb.h (i := i) (by omega)
    refine awp_loop (ι := Nat × List Int) (fun z => [(48, .v (.int .i64 ((z.1 : Nat)))), (47, .v (.int .i64 (((a ++ b).getD i []).length))), (46, .list false 1 ((a ++ b).getD i []).length (cM iv 0 ((a ++ b).getD i []))), (13, .list false 1 ((a ++ b).getD i []).length (cM iv 0 ((a ++ b).getD i []))), (42, .v (.int .i64 ((i : Nat)))), (41, .v (.int .i64 ((a ++ b).length))), (40, .list false 1 (a ++ b).length (cM ints [] (a ++ b))), (11, .own 36 0 1 z.2.length)]) (fun z => Hp.emp.upd 36 (.cells z.2.length (cM iv 0 z.2))) (fun z => z.1 ≤ ((a ++ b).getD i []).length ∧ Hold (JL n a b i z.1 z.2)) (fun z => ((a ++ b).getD i []).length - z.1) (0, L) ⟨Nat.zero_le _, hv⟩ (Sub.toL (by simp only [go_sem] <;> first | trivial | (simp only [Option.some.injEq, AV.v.injEq, AV.own.injEq, AV.list.injEq, Value.int.injEq, Value.bool.injEq, true_and, and_true]; first | omega | (simp; done)) | (simp; done) | (simp; omega)) (Hp.le_refl _)) ?_
    clear hv L
    rintro ⟨k, L⟩ ⟨hk, hv⟩
    dsimp only at hk hv ⊢
    have hll := hv.h.lbl.len
    have hent : k < ((a ++ b).getD i []).length → 0 ≤ ((a ++ b).getD i []).getD k 0 ∧ ((a ++ b).getD i []).getD k 0 < n := fun h => by
      obtain ⟨x, e, hx, _⟩ := app_entry ha.h hb.h (i := i) (by omega) h
      omega
    have hent0 : 0 ≤ ((a ++ b).getD i []).getD 0 0 ∧ ((a ++ b).getD i []).getD 0 0 < n := by
      obtain ⟨x, e, hx, _⟩ := app_entry ha.h hb.h (i := i) (by omega) hpos
      omega
    repeat' (first | (refine awp_regionEK (id := 16) 1072041084366151 11 (by kernel_rfl) (by kernel_rfl) (by kernel_rfl) ?_; simp only [List.map_cons, List.map_nil, opsE, List.take_succ_cons, List.take_zero, List.drop_succ_cons, List.drop_zero]; simp (maxSteps := 1000000) (dsimp := false) (implicitDefEqProofs := false) (disch := omega) only [wrap64, go_sem, tn0]) | refine awp_seqK fun K hK => ?_ | (refine awp_regionK 1072041084366151 rfl ?_; simp only [List.map_cons, List.map_nil]; simp (maxSteps := 1000000) (dsimp := false) (implicitDefEqProofs := false) (disch := omega) only [wrap64, go_sem, tn0]) | (refine awp_regionQK 1072041084366151 (by kernel_rfl) (by kernel_rfl) (by kernel_rfl) ?_; simp only [List.map_cons, List.map_nil]; simp (maxSteps := 1000000) (dsimp := false) (implicitDefEqProofs := false) (disch := omega) only [wrap64, go_sem, tn0]) | refine awp_block ?_ | (refine awp_skip ?_; simp only [go_sem, tn0]) | (refine awp_exit ?_; simp only [go_sem, tn0]) | (refine awp_ret ?_; try simp only [go_sem, tn0]) | (refine awp_condP rfl ?_; try simp only [go_sem, tn0]) | (refine BrP.mk (fun h => ?_) (fun h => ?_) <;> try simp (dsimp := false) (disch := omega) only [wrap64]) | (refine Br.mk (fun h => ?_) (fun h => ?_) <;> try simp (dsimp := false) (disch := omega) only [wrap64]) | refine Ob.mk (by first | omega | (intro _ _; rfl) | trivial | (intros; trivial) | assumption | (intro i hi; have h0 : i = 0 := (by omega); subst h0; first | rfl | trivial) | (intro i hi; have h0 : i = 0 ∨ i = 1 := (by omega); rcases h0 with rfl | rfl <;> rfl) | (intro i hi; have h0 : i = 0 ∨ i = 1 ∨ i = 2 := (by omega); rcases h0 with rfl | rfl | rfl <;> rfl)) ?_ | ((first | ((first | refine atF (f := 100) ?_ | refine atQ (f := 100) ?_); (first | (refine cM' (hac := merge_ok L (L.getD (((a ++ b).getD i []).getD 0 0).toNat 0) (L.getD (((a ++ b).getD i []).getD k 0).toNat 0) (by omega) 36) (hK := ?_))))); simp (maxSteps := 1000000) (dsimp := false) (implicitDefEqProofs := false) (disch := omega) only [wrap64, go_sem, tn0]) | apply_assumption -exfalso -symm)
    all_goals (first | (show endQ _ _ _ _ _ _ _; (repeat (rename (∀ (A : Fr) (H : Hp), AWP _ _ _ _ A H → _) => hK; clear hK)); (repeat (rename (Fr → Hp → Prop) => K; clear K))) | (show Exists _; (repeat (rename (∀ (A : Fr) (H : Hp), AWP _ _ _ _ A H → _) => hK; clear hK)); (repeat (rename (Fr → Hp → Prop) => K; clear K))) | skip)
    · have hst := hv.h.stepM ha.h hb.h (by omega) (by omega)
      have el := Go.Pm.mrg_length L (min (L.getD (((a ++ b).getD i []).getD 0 0).toNat 0) (L.getD (((a ++ b).getD i []).getD k 0).toNat 0)) (max (L.getD (((a ++ b).getD i []).getD 0 0).toNat 0) (L.getD (((a ++ b).getD i []).getD k 0).toNat 0))
      obtain ⟨L2, eL2⟩ : ∃ L2, L2 = mrg L (min (L.getD (((a ++ b).getD i []).getD 0 0).toNat 0) (L.getD (((a ++ b).getD i []).getD k 0).toNat 0)) (max (L.getD (((a ++ b).getD i []).getD 0 0).toNat 0) (L.getD (((a ++ b).getD i []).getD k 0).toNat 0)) := ⟨_, rfl⟩
      rw [← eL2] at hst el ⊢
      refine ⟨(k + 1, L2), ⟨by dsimp only; omega, ⟨hst⟩⟩, by dsimp only; omega, ?_⟩
      dsimp only
      rw [el]
      exact Sub.toL (by simp only [go_sem] <;> first | trivial | (simp only [Option.some.injEq, AV.v.injEq, AV.own.injEq, AV.list.injEq, Value.int.injEq, Value.bool.injEq, true_and, and_true]; first | omega | (simp; done)) | (simp; done) | (simp; omega)) (Hp.le_refl _)
    · have ek : k = ((a ++ b).getD i []).length := by omega
      rw [ek] at hv
      exact ⟨(i + 1, L), ⟨by dsimp only; omega, ⟨hv.h.nextM⟩⟩, by dsimp only; omega, Sub.toL (by simp only [go_sem] <;> first | trivial | (simp only [Option.some.injEq, AV.v.injEq, AV.own.injEq, AV.list.injEq, Value.int.injEq, Value.bool.injEq, true_and, and_true]; first | omega | (simp; done)) | (simp; done) | (simp; omega)) (Hp.le_refl _)⟩
  · have ei : i = (a ++ b).length := by omega
    rw [ei] at hv
    have hll := hv.h.lbl.len
    have e := hv.h.done ha.h hb.h
    have hlb := partition_ok L (by omega)
    rw [show parts (SL L) L.length = partK n (SL L) n by rw [hll]] at hlb
    repeat' (first | refine awp_seqK fun K hK => ?_ | (refine awp_regionK 1072041084366151 rfl ?_; simp only [List.map_cons, List.map_nil]; simp (maxSteps := 1000000) (dsimp := false) (implicitDefEqProofs := false) (disch := omega) only [wrap64, go_sem]) | (refine awp_regionQK 1072041084366151 (by kernel_rfl) (by kernel_rfl) (by kernel_rfl) ?_; simp only [List.map_cons, List.map_nil]; simp (maxSteps := 1000000) (dsimp := false) (implicitDefEqProofs := false) (disch := omega) only [wrap64, go_sem]) | refine awp_block ?_ | (refine awp_skip ?_; simp only [go_sem]) | (refine awp_exit ?_; simp only [go_sem]) | (refine awp_ret ?_; try simp only [go_sem]) | (refine awp_condP rfl ?_; try simp only [go_sem]) | (refine BrP.mk (fun h => ?_) (fun h => ?_) <;> try simp (dsimp := false) (disch := omega) only [wrap64]) | (refine Br.mk (fun h => ?_) (fun h => ?_) <;> try simp (dsimp := false) (disch := omega) only [wrap64]) | refine Ob.mk (by first | omega | (intro _ _; rfl) | trivial | (intros; trivial) | assumption | (intro i hi; have h0 : i = 0 := (by omega); subst h0; first | rfl | trivial) | (intro i hi; have h0 : i = 0 ∨ i = 1 := (by omega); rcases h0 with rfl | rfl <;> rfl) | (intro i hi; have h0 : i = 0 ∨ i = 1 ∨ i = 2 := (by omega); rcases h0 with rfl | rfl | rfl <;> rfl)) ?_ | ((first | ((first | refine atF (f := 101) ?_ | refine atQ (f := 101) ?_); (refine callRk Hp.emp (Hp.le_emp _) (.cons (fits_I rfl rfl rfl rfl) .nil) hlb rfl ?_))); simp (maxSteps := 1000000) (dsimp := false) (implicitDefEqProofs := false) (disch := omega) only [wrap64, go_sem]) | apply_assumption -exfalso -symm)
    all_goals (first | (show endQ _ _ _ _ _ _ _; (repeat (rename (∀ (A : Fr) (H : Hp), AWP _ _ _ _ A H → _) => hK; clear hK)); (repeat (rename (Fr → Hp → Prop) => K; clear K))) | (show Exists _; (repeat (rename (∀ (A : Fr) (H : Hp), AWP _ _ _ _ A H → _) => hK; clear hK)); (repeat (rename (Fr → Hp → Prop) => K; clear K))) | skip)
    rw [show parts (Cg [] (jjP a b)) n = partK n (SL L) n from e.symm]
    exact end_retV rfl rfl
end Go.Proofs.Ytngpacdhpblpbaa
end
/- Block systems: what is drawn. -/
section
namespace Go.Proofs.Ytngpacdhpblpbaa
open Go.Av
set_option linter.unusedSimpArgs false
set_option linter.unusedVariables false
attribute [local irreducible] AWP CallG Ob Br BrP Go.Av.Sub endQ AOps OpV AC thenA blkA opsVC opVC withA withArgs opsQ opQ CallQ withA2 withArgs2
open Go.Pm (Pm ptI partI IsPart ixP Rsp rspI actP img invp mrg Lbl SL SB parts loR clsF clsN partK Cg MB Snd cntL idn Rep)
theorem callPD {P : Program} {N : Cx} {H : Hp} {f : FuncId} {args : List AV} {k : IntKind} {d : Dc} {Q : AV → Prop} {K : AV → (Nat → Bool) → Hp → Prop} (hH : H 1000000 = some (.cells 3 (dF k d))) (hac : AC P f args (DH k d) pM (postD k Q)) (hQ : ∀ r, Q r → ∀ p, r.scrub p = r)
    (hK : ∀ r d', Q r → K r (fun _ => false) (H.upd 1000000 (.cells 3 (dF k d')))) : CallPP P N f args H K :=
  ⟨fun _ => false, fun B => callD hH hac hQ fun r d' hq => ⟨(Fr.scrub_none B).symm, hK r d' hq⟩⟩
theorem suB {d i h : Nat} (hh : h < 2097152) : (sub d i == h) = false := beq_eq_false_iff_ne.2 fun e => by have := sub_ge d i; rw [FB_eq] at this; omega
theorem suE {d i h : Nat} (hh : h < 2097152) : (sub d i = h) = False := eq_false fun e => by have := sub_ge d i; rw [FB_eq] at this; omega
theorem suC {d i h : Nat} (hh : h < 2097152) : (h == sub d i) = false := beq_eq_false_iff_ne.2 fun e => by have := sub_ge d i; rw [FB_eq] at this; omega
theorem suD {d i h : Nat} (hh : h < 2097152) : (h = sub d i) = False := eq_false fun e => by have := sub_ge d i; rw [FB_eq] at this; omega
theorem add50 {P : List (List Int)} {k : Nat} {X : Hp} (h : k < P.length) (hP : P.length ≤ 1000) : ((PR 50 P P.length P.length).add X) (sub 50 k) = some (.cells (P.getD k []).length (cM iv 0 (P.getD k []))) := add_sub (by rw [FB_eq]; omega) h (by rw [FB_eq]; omega)
theorem scr50 {P : List (List Int)} {p : Nat → Bool} {X : Hp} : (((PR 50 P P.length P.length).add X).scrub p) 50 = some (.cells P.length (scF p (mixF 50 P P.length))) := by
  unfold Hp.scrub
  rw [add_self]; rfl
/-- Blocks as they are drawn. -/
def blQ (bs : List (List Int)) : Prop := bs.length ≤ 20 ∧ ∀ j, (bs.getD j []).length ≤ 21
theorem ob21 {P : List (List Int)} (h : Hold (∀ j, (P.getD j []).length ≤ 20)) (j : Nat) : ((P.getD j []).length + 1) * 8 ≤ 140737488355328 := by have := h.h j; omega
theorem ob22 {P : List (List Int)} (h : Hold (∀ j, (P.getD j []).length ≤ 20)) (j : Nat) : (P.getD j []).length + 1 ≤ 140737488355328 := by have := h.h j; omega
theorem fits_fam {H : Hp} {D : Nat → Prop} {d off m K : Nat} {f : Nat → AV} {Q : List (List Int)} (hH : H d = some (.cells K f)) (hD : D d) (hm : off + m ≤ K) (hq : m = Q.length) (hf : ∀ i, i < m → Fits H D (f (off + i)) (ints (Q.getD i []))) : Fits H D (.own d off 1 m) (intss Q) := by
  subst hq
  exact .own hH hD (by omega) (fun i hi => trivial) fun i hi => hf i (by omega)
theorem fits_fr {H : Hp} {D : Nat → Prop} {d k i : Nat} {P : List (List Int)} (hi : i < k) (hH : H (sub d i) = some (.cells (P.getD i []).length (cM iv 0 (P.getD i [])))) (hD : D (sub d i)) : Fits H D (mixF d P k i) (ints (P.getD i [])) := by
  unfold mixF
  rw [if_pos hi]
  exact fits_I hH hD rfl rfl
theorem gro_fits {P : List (List Int)} {k : Nat} {v : Int} {X : Hp} {S Z : Blk} (hk : k < P.length) (hP : P.length ≤ 1000) {H : Hp}
    (eH : H = ((((Hp.scrub (fun x => x == sub 50 k) ((PR 50 P P.length P.length).add X)).upd 1000000 S).upd 46 Z).upd (sub 50 k) (.cells ((P.getD k []).length + 1) (cM iv 0 (P.getD k [] ++ [v])))).upd 50 (.cells P.length (setF (scF (fun x => x == sub 50 k) (mixF 50 P P.length)) k (.own (sub 50 k) 0 1 ((P.getD k []).length + 1))))) :
    H 1000000 = some S ∧ Fits H (fun x => x ≠ 1000000) (.own 50 0 1 P.length) (intss (P.set k (P.getD k [] ++ [v]))) := by
  have s30 : ∀ j, sub 50 j ≠ 50 ∧ sub 50 j ≠ 46 ∧ sub 50 j ≠ 1000000 := fun j => by have := sub_ge 50 j; rw [FB_eq] at this; omega
  subst eH
  refine ⟨?_, fits_fam (K := P.length) (f := setF (scF (fun x => x == sub 50 k) (mixF 50 P P.length)) k (.own (sub 50 k) 0 1 ((P.getD k []).length + 1))) ?_ (by decide) (by omega) (by rw [List.length_set]) fun i hi => ?_⟩
  · have h1 : (1000000 : Nat) ≠ sub 50 k := fun e => (s30 k).2.2 e.symm
    simp only [Hp.upd, if_neg h1]; rfl
  · simp only [Hp.upd, if_true]
  · rw [Nat.zero_add, getD_setL hk]
    show Fits _ _ (if i = k then _ else (mixF 50 P P.length i).scrub _) _
    obtain ⟨n1, n2, n3⟩ := s30 i
    by_cases e : i = k
    · subst e
      rw [if_pos rfl, if_pos rfl]
      refine fits_I ?_ n3 rfl (by rw [List.length_append, List.length_singleton])
      simp only [Hp.upd, if_neg n1, if_true]
    · rw [if_neg e, if_neg e]
      have n4 : sub 50 i ≠ sub 50 k := fun h => e (sub_inj (by omega) (by omega) h)
      have hm : (mixF 50 P P.length i).scrub (fun x => x == sub 50 k) = mixF 50 P P.length i := by
        unfold mixF
        rw [if_pos hi]
        have : (sub 50 i == sub 50 k) = false := beq_eq_false_iff_ne.2 n4
        simp only [AV.scrub, this, Bool.false_eq_true, if_false]
      rw [hm]
      refine fits_fr hi ?_ n3
      simp only [Hp.upd, if_neg n1, if_neg n2, if_neg n3, if_neg n4]
      unfold Hp.scrub
      rw [add50 hi hP]
      simp only [Option.map_some, Blk.scrub]
      congr 2
theorem end_gro {PP : Program} {N : Cx} {A : Fr} {fn : Func} {t : Tmp} {d : Dc} {P : List (List Int)} {k : Nat} {v : Int} {X : Hp} {Z : Blk} (hr : fn.results.toList = [.tmp t]) (hA : A.get t = some (.own 50 0 1 P.length)) (hk : k < P.length) (hP : P.length ≤ 1000) (hq : blQ (P.set k (P.getD k [] ++ [v]))) :
    endQ PP N fn (postD .i64 fun r => ∃ bs, blQ bs ∧ r = intss bs) .ret A (((((Hp.scrub (fun x => x == sub 50 k) ((PR 50 P P.length P.length).add X)).upd 1000000 (.cells 3 (dF .i64 d))).upd 46 Z).upd (sub 50 k) (.cells ((P.getD k []).length + 1) (cM iv 0 (P.getD k [] ++ [v])))).upd 50 (.cells P.length (setF (scF (fun x => x == sub 50 k) (mixF 50 P P.length)) k (.own (sub 50 k) 0 1 ((P.getD k []).length + 1))))) := by
  obtain ⟨f1, f2⟩ := gro_fits (v := v) (X := X) (S := .cells 3 (dF .i64 d)) (Z := Z) hk hP rfl
  exact end_DF (D := fun x => x ≠ 1000000) hr hA f1 f2 (by simp) ⟨_, hq, rfl⟩
theorem nul_fits {P : List (List Int)} {k : Nat} {X : Hp} {S : Blk} {f : Nat → AV} (hk : k < P.length) (hP : P.length ≤ 1000) {H : Hp}
    (eH : H = ((((PR 50 P P.length P.length).add X).upd 1000000 S).upd 53 (.cells 0 f)).upd 50 (.cells P.length (setF (mixF 50 P P.length) k (.own 53 0 1 0)))) :
    Fits H (fun x => x ≠ 1000000) (.own 50 0 1 P.length) (intss (P.set k [])) := by
  have s30 : ∀ j, sub 50 j ≠ 50 ∧ sub 50 j ≠ 53 ∧ sub 50 j ≠ 1000000 := fun j => by have := sub_ge 50 j; rw [FB_eq] at this; omega
  subst eH
  refine fits_fam (K := P.length) (f := setF (mixF 50 P P.length) k (.own 53 0 1 0)) rfl (by decide) (by omega) (by rw [List.length_set]) fun i hi => ?_
  rw [Nat.zero_add, getD_setL hk]
  show Fits _ _ (if i = k then _ else mixF 50 P P.length i) _
  obtain ⟨n1, n2, n3⟩ := s30 i
  by_cases e : i = k
  · rw [if_pos e, if_pos e]
    exact .own (M := 0) (g := f) rfl (by decide) (by omega) (fun j hj => absurd hj (by simp)) (fun j hj => absurd hj (by simp))
  · rw [if_neg e, if_neg e]
    refine fits_fr hi ?_ n3
    simp only [Hp.upd, if_neg n1, if_neg n2, if_neg n3]
    exact add50 hi hP
theorem drp_fits {P : List (List Int)} {X : Hp} {S : Blk} (hP : P.length ≤ 1000) (h0 : 0 < P.length) {H : Hp} (eH : H = ((PR 50 P P.length P.length).add X).upd 1000000 S) :
    Fits H (fun x => x ≠ 1000000) (.own 50 (Int.toNat 1) 1 (P.length - Int.toNat 1)) (intss (P.drop 1)) := by
  subst eH
  refine fits_fam (K := P.length) (f := mixF 50 P P.length) (add_self 50 P P.length P.length X) (by decide) (by show 1 + (P.length - 1) ≤ P.length; omega) (by rw [List.length_drop]; rfl) fun i hi => ?_
  have hi : i < P.length - 1 := hi
  have n3 : sub 50 (1 + i) ≠ 1000000 := by have := sub_ge 50 (1 + i); rw [FB_eq] at this; omega
  have e : (P.drop 1).getD i [] = P.getD (1 + i) [] := by rw [List.getD_eq_getElem?_getD, List.getElem?_drop, ← List.getD_eq_getElem?_getD]
  rw [e]
  refine fits_fr (i := 1 + i) (by omega) ?_ n3
  simp only [Hp.upd, if_neg n3]
  exact add50 (by omega) hP
theorem drawPartition_ok (d : Dc) (n : Int) (hn : r64 n) : AC Try.prog 147 [.ref 1000000 0, .v (.int .i64 (n))] (DH .i64 d) (· == 1000000) (postD .i64 fun r => ∃ bs, blQ bs ∧ r = intss bs) := by
  unfold r64 at hn
  refine ac_of_awp (N := ⟨_, (· == 1000000), fun h hh => beq_eq_false_iff_ne.2 (Nat.ne_of_lt (Nat.lt_of_lt_of_le hh (by decide)))⟩) Try.func147 rfl (by kernel_rfl) Try.ntmps147 (by simp) ?_
  simp only [argsFr, List.zipIdx_cons, List.zipIdx_nil, go_sem]
  unfold DH
  repeat' (first | refine awp_seqK fun K hK => ?_ | (refine awp_regionK 36591850588479987 rfl ?_; simp only [List.map_cons, List.map_nil]; simp (maxSteps := 1000000) (dsimp := false) (implicitDefEqProofs := false) (disch := omega) only [wrap64, go_sem]) | (refine awp_regionQK 36591850588479987 (by kernel_rfl) (by kernel_rfl) (by kernel_rfl) ?_; simp only [List.map_cons, List.map_nil]; simp (maxSteps := 1000000) (dsimp := false) (implicitDefEqProofs := false) (disch := omega) only [wrap64, go_sem]) | refine awp_block ?_ | (refine awp_skip ?_; simp only [go_sem]) | (refine awp_exit ?_; simp only [go_sem]) | (refine awp_ret ?_; try simp only [go_sem]) | (refine awp_condP rfl ?_; try simp only [go_sem]) | (refine BrP.mk (fun h => ?_) (fun h => ?_) <;> try simp (dsimp := false) (disch := omega) only [wrap64]) | (refine Br.mk (fun h => ?_) (fun h => ?_) <;> try simp (dsimp := false) (disch := omega) only [wrap64]) | refine Ob.mk (by first | omega | (intro _ _; rfl) | trivial | (intros; trivial) | assumption | (intro i hi; have h0 : i = 0 := (by omega); subst h0; first | rfl | trivial) | (intro i hi; have h0 : i = 0 ∨ i = 1 := (by omega); rcases h0 with rfl | rfl <;> rfl) | (intro i hi; have h0 : i = 0 ∨ i = 1 ∨ i = 2 := (by omega); rcases h0 with rfl | rfl | rfl <;> rfl)) ?_ | apply_assumption -exfalso -symm)
  all_goals (first | (show endQ _ _ _ _ _ _ _; (repeat (rename (∀ (A : Fr) (H : Hp), AWP _ _ _ _ A H → _) => hK; clear hK)); (repeat (rename (Fr → Hp → Prop) => K; clear K))) | (show Exists _; (repeat (rename (∀ (A : Fr) (H : Hp), AWP _ _ _ _ A H → _) => hK; clear hK)); (repeat (rename (Fr → Hp → Prop) => K; clear K))) | skip)
  refine awp_loop (ι := List Int × Dc) (fun z => [(6, .v (.int .i64 (z.1.length))), (5, .own 9 0 1 z.1.length), (0, .ref 1000000 0), (1, .v (.int .i64 (n)))]) (fun z => (Hp.emp.upd 1000000 (.cells 3 (dF .i64 z.2))).upd 9 (.cells z.1.length (cM iv 0 z.1))) (fun z => z.1.length ≤ 20) (fun z => 20 - z.1.length) ([], d) (Nat.zero_le _) (Sub.toL (by simp only [go_sem] <;> first | trivial | (simp only [Option.some.injEq, AV.v.injEq, AV.own.injEq, AV.list.injEq, Value.int.injEq, Value.bool.injEq, true_and, and_true]; first | omega | (simp; done)) | (simp; done) | (simp; omega)) (by (repeat' (first | exact Hp.le_emp _ | exact Hp.le_refl _ | refine Hp.le_upd ?_ ?_)); all_goals (first | rfl | (simp only [go_sem]; first | rfl | (refine cellsE ?_ ?_ <;> (simp)) | (simp))))) ?_
  rintro ⟨L, d1⟩ hL
  dsimp only at hL ⊢
  repeat' (first | ((first | refine atF (f := 129) ?_ | refine atQ (f := 129) ?_); (refine callD (by rfl) (sBelowP_ok _ _ (by omega)) (by rintro _ ⟨v, _, rfl⟩ _; rfl) (fun r d2 hq => ?_); obtain ⟨v2, hv2, rfl⟩ := hq) <;> simp (maxSteps := 1000000) (dsimp := false) (implicitDefEqProofs := false) (disch := omega) only [wrap64, go_sem]) | refine awp_seqK fun K hK => ?_ | (refine awp_regionK 36591850588479987 rfl ?_; simp only [List.map_cons, List.map_nil]; simp (maxSteps := 1000000) (dsimp := false) (implicitDefEqProofs := false) (disch := omega) only [wrap64, go_sem]) | (refine awp_regionQK 36591850588479987 (by kernel_rfl) (by kernel_rfl) (by kernel_rfl) ?_; simp only [List.map_cons, List.map_nil]; simp (maxSteps := 1000000) (dsimp := false) (implicitDefEqProofs := false) (disch := omega) only [wrap64, go_sem]) | refine awp_block ?_ | (refine awp_skip ?_; simp only [go_sem]) | (refine awp_exit ?_; simp only [go_sem]) | (refine awp_ret ?_; try simp only [go_sem]) | (refine awp_condP rfl ?_; try simp only [go_sem]) | (refine BrP.mk (fun h => ?_) (fun h => ?_) <;> try simp (dsimp := false) (disch := omega) only [wrap64]) | (refine Br.mk (fun h => ?_) (fun h => ?_) <;> try simp (dsimp := false) (disch := omega) only [wrap64]) | refine Ob.mk (by first | omega | (intro _ _; rfl) | trivial | (intros; trivial) | assumption | (intro i hi; have h0 : i = 0 := (by omega); subst h0; first | rfl | trivial) | (intro i hi; have h0 : i = 0 ∨ i = 1 := (by omega); rcases h0 with rfl | rfl <;> rfl) | (intro i hi; have h0 : i = 0 ∨ i = 1 ∨ i = 2 := (by omega); rcases h0 with rfl | rfl | rfl <;> rfl)) ?_ | apply_assumption -exfalso -symm)
  all_goals (first | (show endQ _ _ _ _ _ _ _; (repeat (rename (∀ (A : Fr) (H : Hp), AWP _ _ _ _ A H → _) => hK; clear hK)); (repeat (rename (Fr → Hp → Prop) => K; clear K))) | (show Exists _; (repeat (rename (∀ (A : Fr) (H : Hp), AWP _ _ _ _ A H → _) => hK; clear hK)); (repeat (rename (Fr → Hp → Prop) => K; clear K))) | skip)
  · refine ⟨(L ++ [v2], d2), by dsimp only; rw [List.length_append, List.length_singleton]; omega, by dsimp only; rw [List.length_append, List.length_singleton]; omega, Sub.toL (by simp only [go_sem] <;> first | trivial | (simp only [Option.some.injEq, AV.v.injEq, AV.own.injEq, AV.list.injEq, Value.int.injEq, Value.bool.injEq, true_and, and_true]; first | omega | (simp; done)) | (simp; done) | (simp; omega)) (by (repeat' (first | exact Hp.le_emp _ | exact Hp.le_refl _ | refine Hp.le_upd ?_ ?_)); all_goals (first | rfl | (simp only [go_sem]; first | rfl | (refine cellsE ?_ ?_ <;> (simp)) | (simp))))⟩
  · have hlb := specLabelsToBlocks_ok L (by omega) 50 (by omega)
    obtain ⟨P, eP⟩ : ∃ P, P = partK L.length (SL L) L.length := ⟨_, rfl⟩
    have hPl : P.length ≤ 20 := by rw [eP]; exact Nat.le_trans (Go.Pm.partK_len L.length (SL L) L.length) hL
    have hPr : Hold (∀ j, (P.getD j []).length ≤ 20) := ⟨fun j => by
      by_cases hj : j < P.length
      · have hm := Go.Pm.getD_mem (b := []) hj
        obtain ⟨b, eb⟩ : ∃ b, b = P.getD j [] := ⟨_, rfl⟩
        rw [← eb] at hm ⊢
        rw [eP] at hm
        obtain ⟨y, hy, _, rfl⟩ := Go.Pm.mem_partK.1 hm
        have := Go.Pm.clsF_len (n := L.length) (R := SL L) (x := y)
        omega
      · rw [List.getD_eq_getElem?_getD, List.getElem?_eq_none (by omega)]; exact Nat.zero_le _⟩
    rw [← eP] at hlb
    clear eP
    repeat' (first | (refine Ob.mk (ob21 hPr _) ?_) | (refine Ob.mk (ob22 hPr _) ?_) | ((first | refine atF (f := 129) ?_ | refine atQ (f := 129) ?_); (refine callD (by first | rfl | (simp (disch := omega) only [go_sem, add_lit, Nat.reduceEqDiff, ↓reduceIte])) (sBelowP_ok _ _ (by omega)) (by rintro _ ⟨v, _, rfl⟩ _; rfl) (fun r d3 hq => ?_); obtain ⟨v3, hv3, rfl⟩ := hq) <;> simp (maxSteps := 1000000) (dsimp := false) (implicitDefEqProofs := false) (disch := omega) only [wrap64, go_sem, suB, suE, suC, suD, mixF_lt, add50, scr50]) | ((first | refine atF (f := 60) ?_ | refine atQ (f := 60) ?_); (refine callD (by first | rfl | (simp (disch := omega) only [go_sem, add_lit, Nat.reduceEqDiff, ↓reduceIte])) (oneIn_ok _ _ (by omega)) (by rintro _ ⟨v, _, rfl⟩ _; rfl) (fun r d4 hq => ?_); obtain ⟨v4, hv4, rfl⟩ := hq) <;> simp (maxSteps := 1000000) (dsimp := false) (implicitDefEqProofs := false) (disch := omega) only [wrap64, go_sem, suB, suE, suC, suD, mixF_lt, add50, scr50]) | (refine atP (f := 143) ?_; (refine callPD (by first | rfl | (simp (disch := omega) only [go_sem, add_lit, Nat.reduceEqDiff, ↓reduceIte])) (numberUpTo_ok _ _ (by omega)) (by rintro _ ⟨v, _, rfl⟩ _; rfl) (fun r d6 hq => ?_); obtain ⟨v6, hv6, rfl⟩ := hq) <;> simp (maxSteps := 1000000) (dsimp := false) (implicitDefEqProofs := false) (disch := omega) only [wrap64, go_sem, suB, suE, suC, suD, mixF_lt, add50, scr50]) | (refine awp_regionSK (id := 11) 36591850588479987 [0,1,2,3,4,5,6] [7,8,9,10,11] [38,39,40,41,42,43,44,7,8,0] [0,1,2,3,4,6] [38,39,40,41,42,44,7,8,0] 2 ((Hp.emp.upd 50 (.cells P.length (mixF 50 P P.length)))) (by kernel_rfl) (by kernel_rfl) (by kernel_rfl) ?_; simp only [List.map_cons, List.map_nil, List.take_succ_cons, List.take_zero, List.drop_succ_cons, List.drop_zero, List.cons_append, List.nil_append, opsS, pickL, linkS_nil, linkS_0, linkS_1, linkS_2, gx2VC, gxVC, upd_add, emp_add]; simp (maxSteps := 1000000) (dsimp := false) (implicitDefEqProofs := false) (disch := omega) only [upd_add, emp_add, wrap64, go_sem, suB, suE, suC, suD, mixF_lt, add50, scr50]) | refine Ob.mk (AllH.mk fun _ => ?_) ?_ | exact True.intro | refine obLe ?_ ?_ | exact Hp.le_emp _ | refine Hp.le_upd rfl ?_ | refine awp_seqK fun K hK => ?_ | (refine awp_regionK 36591850588479987 rfl ?_; simp only [List.map_cons, List.map_nil]; simp (maxSteps := 1000000) (dsimp := false) (implicitDefEqProofs := false) (disch := omega) only [wrap64, go_sem, suB, suE, suC, suD, mixF_lt, add50, scr50]) | (refine awp_regionQK 36591850588479987 (by kernel_rfl) (by kernel_rfl) (by kernel_rfl) ?_; simp only [List.map_cons, List.map_nil]; simp (maxSteps := 1000000) (dsimp := false) (implicitDefEqProofs := false) (disch := omega) only [wrap64, go_sem, suB, suE, suC, suD, mixF_lt, add50, scr50]) | refine awp_block ?_ | (refine awp_skip ?_; simp only [go_sem, suB, suE, suC, suD, mixF_lt, add50, scr50]) | (refine awp_exit ?_; simp only [go_sem, suB, suE, suC, suD, mixF_lt, add50, scr50]) | (refine awp_ret ?_; try simp only [go_sem, suB, suE, suC, suD, mixF_lt, add50, scr50]) | (refine awp_condP rfl ?_; try simp only [go_sem, suB, suE, suC, suD, mixF_lt, add50, scr50]) | (refine BrP.mk (fun h => ?_) (fun h => ?_) <;> try simp (dsimp := false) (disch := omega) only [wrap64]) | (refine Br.mk (fun h => ?_) (fun h => ?_) <;> try simp (dsimp := false) (disch := omega) only [wrap64]) | refine Ob.mk (by first | omega | (intro _ _; rfl) | trivial | (intros; trivial) | assumption | (intro i hi; have h0 : i = 0 := (by omega); subst h0; first | rfl | trivial) | (intro i hi; have h0 : i = 0 ∨ i = 1 := (by omega); rcases h0 with rfl | rfl <;> rfl) | (intro i hi; have h0 : i = 0 ∨ i = 1 ∨ i = 2 := (by omega); rcases h0 with rfl | rfl | rfl <;> rfl)) ?_ | ((first | ((first | refine atF (f := 104) ?_ | refine atQ (f := 104) ?_); (refine cII (hac := hlb) (hK := ?_) (hpn := fun h hh => by cases e : (h == 1000000) with | false => exact e | true => rw [beq_iff_eq] at e; rw [e, famB_low (by rw [FB_eq]; decide) (by decide)] at hh; cases hh)))); simp (maxSteps := 1000000) (dsimp := false) (implicitDefEqProofs := false) (disch := omega) only [wrap64, go_sem, suB, suE, suC, suD, mixF_lt, add50, scr50]) | apply_assumption -exfalso -symm)
    all_goals (first | (show endQ _ _ _ _ _ _ _; (repeat (rename (∀ (A : Fr) (H : Hp), AWP _ _ _ _ A H → _) => hK; clear hK)); (repeat (rename (Fr → Hp → Prop) => K; clear K))) | (show Exists _; (repeat (rename (∀ (A : Fr) (H : Hp), AWP _ _ _ _ A H → _) => hK; clear hK)); (repeat (rename (Fr → Hp → Prop) => K; clear K))) | skip)
    · refine end_gro rfl rfl ?_ (by omega) ⟨by rw [List.length_set]; exact hPl, fun j => ?_⟩
      · omega
      rw [getD_setL (by omega)]
      split
      · rename_i e; rw [← e]; have := hPr.h j; rw [List.length_append, List.length_singleton]; omega
      · have := hPr.h j; omega
    · refine end_DF (D := fun x => x ≠ 1000000) rfl rfl rfl (nul_fits (by omega) (by omega) rfl) (by simp) ⟨_, ⟨by rw [List.length_set]; exact hPl, fun j => ?_⟩, rfl⟩
      rw [getD_setL (by omega)]
      split
      · simp
      · have := hPr.h j; omega
    · refine end_DF (D := fun x => x ≠ 1000000) rfl rfl rfl (drp_fits (by omega) (by omega) rfl) (by simp) ⟨_, ⟨by rw [List.length_drop]; omega, fun j => ?_⟩, rfl⟩
      have := hPr.h (1 + j)
      rw [List.getD_eq_getElem?_getD, List.getElem?_drop, ← List.getD_eq_getElem?_getD]; omega
    · omega
    all_goals
      refine end_DF (D := fun x => x ≠ 1000000) rfl rfl rfl (fits_RR (HasRR.upd (by decide) (by decide) (HasRR.base (by omega) (by omega))) (by decide) (fun i => ?_) rfl) (by simp) ⟨P, ⟨hPl, fun j => by have := hPr.h j; omega⟩, rfl⟩
      have := sub_ge 50 i; rw [FB_eq] at this; omega
theorem callD1 {P : Program} {N : Cx} {A : Fr} {H : Hp} {f : FuncId} {args : List AV} {k : IntKind} {d : Dc} {Q : AV → Prop} {pn : Nat → Bool} {K : AV → Fr → Hp → Prop} (hH : H 1000000 = some (.cells 3 (dF k d))) (hp : pn 1000000 = true) (hac : AC P f args (DH k d) pn (postD k Q)) (hQ : ∀ r, Q r → ∀ p, r.scrub p = r)
    (hK : ∀ r d', Q r → K r A (H.upd 1000000 (.cells 3 (dF k d')))) : CallG P N f args A H K := by
  have hle : Hp.le (DH k d) H := Hp.le_upd hH (Hp.le_emp _)
  have hpm : ∀ h, DH k d h ≠ none → h = 1000000 := fun h hn => by
    unfold DH Hp.upd at hn
    by_cases e : h = 1000000
    · exact e
    · rw [if_neg e] at hn; exact absurd rfl hn
  refine callG_of hac (fun _ => false) false hle (FitsL.refl _) (fun _ => rfl) (fun h hn _ => by rw [hpm h hn]; exact hp) (by simp) ?_
  rintro r H' ⟨d', hq, rfl⟩
  have hsame : ∀ h, DH k d' h ≠ none → h = 1000000 := fun h hn => by
    unfold DH Hp.upd at hn
    by_cases e : h = 1000000
    · exact e
    · rw [if_neg e] at hn; exact absurd rfl hn
  refine ⟨fun h h1 h2 => ?_, by simp, ?_⟩
  · rw [hsame h h1] at h2; exact absurd h2 (by unfold DH Hp.upd; simp)
  rw [hQ r hq, Fr.scrub_none, Hp.scrub_none]
  have e : Hp.over ((DH k d').scrub fun h => !liveB (DH k d') h) H (DH k d) = H.upd 1000000 (.cells 3 (dF k d')) := by
    unfold DH
    rw [Hp.scrub_upd, Blk.scrub_cells, scF_dF]
    funext h
    unfold Hp.over Hp.upd
    by_cases e : h = 1000000
    · simp only [if_pos e]
    · simp only [if_neg e]
      simp [Hp.scrub, Hp.emp]
  rw [e]; exact hK r d' hq
theorem end_D3 {P : Program} {N : Cx} {A : Fr} {H : Hp} {k : IntKind} {fn : Func} {t u v : Tmp} {d : Dc} {a b c : AV} {Q : AV → Prop} (hr : fn.results.toList = [.tmp t, .tmp u, .tmp v]) (htu : t ≠ u) (htv : t ≠ v) (huv : u ≠ v) (hA : A.get t = some a) (hB : A.get u = some b) (hC : A.get v = some c) (hd : H 1000000 = some (.cells 3 (dF k d))) (hq : Q (.tup 3 (vecF [a, b, c]))) : endQ P N fn (postD k Q) .ret A H :=
  end_tup3 (H' := DH k d) hr htu htv huv (Sub.toFF (fun _ => False) (Fr.fit_cons hA (.refl _) (Fr.fit_cons hB (.refl _) (Fr.fit_cons hC (.refl _) (Fr.fit_nil _)))) (leF_upd hd (.refl _ _ _) leF_emp id)) ⟨d, hq, rfl⟩
theorem specMinimalBlocksI_ok (n : Int) (gs : List (List Int)) (x y : Int) (hok : isGens n gs) (hx : 0 ≤ x ∧ x < n) (hy : 0 ≤ y ∧ y < n) : AC Try.prog 95 [.v (.int .i64 (n)), intss gs, .v (.int .i64 (x)), .v (.int .i64 (y))] Hp.emp (fun _ => false) (retV (intss (parts (Cg gs (bbP x.toNat y.toNat)) n.toNat))) := by
  obtain ⟨_, h2, h3⟩ := gens_pm hok
  have hA := specMinimalBlocks_ok n.toNat gs x.toNat y.toNat (by rw [show ((n.toNat : Nat) : Int) = n by omega]; exact hok) (by omega) (by omega)
  rwa [show ((n.toNat : Nat) : Int) = n by omega, show ((x.toNat : Nat) : Int) = x by omega, show ((y.toNat : Nat) : Int) = y by omega] at hA
theorem parts_bl {n : Nat} (hn : n ≤ 20) (R : Nat → Nat → Prop) : blQ (parts R n) := by
  refine ⟨Nat.le_trans (Go.Pm.partK_len n R n) hn, fun j => ?_⟩
  by_cases hj : j < (parts R n).length
  · have hm := Go.Pm.getD_mem (b := []) hj
    obtain ⟨b, eb⟩ : ∃ b, b = (parts R n).getD j [] := ⟨_, rfl⟩
    rw [← eb] at hm ⊢
    obtain ⟨y, hy, _, rfl⟩ := Go.Pm.mem_partK.1 hm
    have := Go.Pm.clsF_len (n := n) (R := R) (x := y)
    omega
  · rw [List.getD_eq_getElem?_getD, List.getElem?_eq_none (by omega)]; exact Nat.zero_le _
theorem drawBlocks_ok (d : Dc) : AC Try.prog 87 [.ref 1000000 0] (DH .i64 d) pM (postD .i64 fun r => ∃ q : Int × List (List Int) × List (List Int), (grQ q.1 q.2.1 ∧ blQ q.2.2) ∧ r = .tup 3 (vecF [.v (.int .i64 (q.1)), intss q.2.1, intss q.2.2])) := by
  refine ac_of_awp (N := ⟨_, pM, fun h hh => pM_low (Nat.lt_of_lt_of_le hh (by decide))⟩) Try.func87 rfl (by kernel_rfl) Try.ntmps87 (by simp) ?_
  simp only [argsFr, List.zipIdx_cons, List.zipIdx_nil, go_sem]
  unfold DH
  repeat' (first | ((first | refine atF (f := 82) ?_ | refine atQ (f := 82) ?_); (refine callD (by rfl) (drawGroup_ok _) (by rintro _ ⟨v, _, rfl⟩ p; simp only [scrub_tup, scF_vecF, List.map_cons, List.map_nil]; rfl) (fun r d1 hq => ?_); obtain ⟨⟨n, gs⟩, hg, rfl⟩ := hq) <;> simp (maxSteps := 1000000) (dsimp := false) (implicitDefEqProofs := false) (disch := omega) only [wrap64, go_sem]) | ((first | refine atF (f := 60) ?_ | refine atQ (f := 60) ?_); (refine callD (by rfl) (oneIn_ok _ _ (by omega)) (by rintro _ ⟨v, _, rfl⟩ _; rfl) (fun r d3 hq => ?_); obtain ⟨v3, hv3, rfl⟩ := hq) <;> simp (maxSteps := 1000000) (dsimp := false) (implicitDefEqProofs := false) (disch := omega) only [wrap64, go_sem]) | ((first | refine atF (f := 129) ?_ | refine atQ (f := 129) ?_); (refine callD (by rfl) (sBelowP_ok _ n (by have := (show isGens n gs by assumption).1; omega)) (by rintro _ ⟨v, _, rfl⟩ _; rfl) (fun r d5 hq => ?_); obtain ⟨v5, hv5, rfl⟩ := hq) <;> simp (maxSteps := 1000000) (dsimp := false) (implicitDefEqProofs := false) (disch := omega) only [wrap64, go_sem]) | ((first | refine atF (f := 147) ?_ | refine atQ (f := 147) ?_); (refine callD1 (by rfl) rfl (drawPartition_ok _ n hg.1) (by rintro _ ⟨v, _, rfl⟩ p; rfl) (fun r d6 hq => ?_); obtain ⟨bs, hbs, rfl⟩ := hq) <;> simp (maxSteps := 1000000) (dsimp := false) (implicitDefEqProofs := false) (disch := omega) only [wrap64, go_sem]) | refine awp_seqK fun K hK => ?_ | (refine awp_regionK 524413 rfl ?_; simp only [List.map_cons, List.map_nil]; simp (maxSteps := 1000000) (dsimp := false) (implicitDefEqProofs := false) (disch := omega) only [wrap64, go_sem]) | (refine awp_regionQK 524413 (by kernel_rfl) (by kernel_rfl) (by kernel_rfl) ?_; simp only [List.map_cons, List.map_nil]; simp (maxSteps := 1000000) (dsimp := false) (implicitDefEqProofs := false) (disch := omega) only [wrap64, go_sem]) | refine awp_block ?_ | (refine awp_skip ?_; simp only [go_sem]) | (refine awp_exit ?_; simp only [go_sem]) | (refine awp_ret ?_; try simp only [go_sem]) | (refine awp_condP rfl ?_; try simp only [go_sem]) | (refine BrP.mk (fun h => ?_) (fun h => ?_) <;> try simp (dsimp := false) (disch := omega) only [wrap64]) | (refine Br.mk (fun h => ?_) (fun h => ?_) <;> try simp (dsimp := false) (disch := omega) only [wrap64]) | refine Ob.mk (by first | omega | (intro _ _; rfl) | trivial | (intros; trivial) | assumption | (intro i hi; have h0 : i = 0 := (by omega); subst h0; first | rfl | trivial) | (intro i hi; have h0 : i = 0 ∨ i = 1 := (by omega); rcases h0 with rfl | rfl <;> rfl) | (intro i hi; have h0 : i = 0 ∨ i = 1 ∨ i = 2 := (by omega); rcases h0 with rfl | rfl | rfl <;> rfl)) ?_ | ((first | ((first | refine atF (f := 27) ?_ | refine atQ (f := 27) ?_); (first | (refine cV (hac := specIsGeneratorSet_ok n gs) (hK := ?_)) | (refine cQV (hac := specIsGeneratorSet_ok n gs) (hK := ?_)))) | ((first | refine atF (f := 95) ?_ | refine atQ (f := 95) ?_); (refine cR (hac := specMinimalBlocksI_ok n gs _ _ (by assumption) (by omega) (by omega)) (hK := ?_)))); simp (maxSteps := 1000000) (dsimp := false) (implicitDefEqProofs := false) (disch := omega) only [wrap64, go_sem]) | apply_assumption -exfalso -symm)
  all_goals (first | (show endQ _ _ _ _ _ _ _; (repeat (rename (∀ (A : Fr) (H : Hp), AWP _ _ _ _ A H → _) => hK; clear hK)); (repeat (rename (Fr → Hp → Prop) => K; clear K))) | (show Exists _; (repeat (rename (∀ (A : Fr) (H : Hp), AWP _ _ _ _ A H → _) => hK; clear hK)); (repeat (rename (Fr → Hp → Prop) => K; clear K))) | skip)
  · exact end_D3 rfl (by decide) (by decide) (by decide) rfl rfl rfl rfl ⟨(n, gs, bs), ⟨hg, hbs⟩, rfl⟩
  · exact end_D3 rfl (by decide) (by decide) (by decide) rfl rfl rfl rfl ⟨(n, gs, _), ⟨hg, parts_bl (by have := gens_pm (show isGens n gs by assumption); omega) _⟩, rfl⟩
  · exact end_D3 rfl (by decide) (by decide) (by decide) rfl rfl rfl rfl ⟨(n, gs, bs), ⟨hg, hbs⟩, rfl⟩
theorem drawIsBlockSystem_ok (xs : List Int) (hx : ∀ j, 0 ≤ xs.getD j 0 ∧ xs.getD j 0 ≤ 255) (hl : xs.length ≤ 4096) : AC Try.prog 30 [bts xs] Hp.emp (fun _ => false) (postX fun r => ∃ q : Int × List (List Int) × List (List Int), (grQ q.1 q.2.1 ∧ blQ q.2.2) ∧ r = .tup 3 (vecF [.v (.int .i64 (q.1)), intss q.2.1, intss q.2.2])) := by
  refine ac_of_awp (N := ⟨_, fun _ => false, fun _ _ => rfl⟩) Try.func30 rfl (by kernel_rfl) Try.ntmps30 (by simp) ?_
  simp only [argsFr, List.zipIdx_cons, List.zipIdx_nil, go_sem]
  repeat' (first | ((first | refine atF (f := 58) ?_ | refine atQ (f := 58) ?_); (refine callRoll (newSource_ok xs hx hl) rfl (fun d0 => ?_)) <;> simp (maxSteps := 1000000) (dsimp := false) (implicitDefEqProofs := false) (disch := omega) only [wrap64, go_sem]) | ((first | refine atF (f := 87) ?_ | refine atQ (f := 87) ?_); (refine callD (by rfl) (drawBlocks_ok _) (by rintro _ ⟨v, _, rfl⟩ p; simp only [scrub_tup, scF_vecF, List.map_cons, List.map_nil]; rfl) (fun r d1 hq => ?_); obtain ⟨⟨n, gs, bs⟩, hg, rfl⟩ := hq) <;> simp (maxSteps := 1000000) (dsimp := false) (implicitDefEqProofs := false) (disch := omega) only [wrap64, go_sem]) | refine awp_seqK fun K hK => ?_ | (refine awp_regionK 61 rfl ?_; simp only [List.map_cons, List.map_nil]; simp (maxSteps := 1000000) (dsimp := false) (implicitDefEqProofs := false) (disch := omega) only [wrap64, go_sem]) | (refine awp_regionQK 61 (by kernel_rfl) (by kernel_rfl) (by kernel_rfl) ?_; simp only [List.map_cons, List.map_nil]; simp (maxSteps := 1000000) (dsimp := false) (implicitDefEqProofs := false) (disch := omega) only [wrap64, go_sem]) | refine awp_block ?_ | (refine awp_skip ?_; simp only [go_sem]) | (refine awp_exit ?_; simp only [go_sem]) | (refine awp_ret ?_; try simp only [go_sem]) | (refine awp_condP rfl ?_; try simp only [go_sem]) | (refine BrP.mk (fun h => ?_) (fun h => ?_) <;> try simp (dsimp := false) (disch := omega) only [wrap64]) | (refine Br.mk (fun h => ?_) (fun h => ?_) <;> try simp (dsimp := false) (disch := omega) only [wrap64]) | refine Ob.mk (by first | omega | (intro _ _; rfl) | trivial | (intros; trivial) | assumption | (intro i hi; have h0 : i = 0 := (by omega); subst h0; first | rfl | trivial) | (intro i hi; have h0 : i = 0 ∨ i = 1 := (by omega); rcases h0 with rfl | rfl <;> rfl) | (intro i hi; have h0 : i = 0 ∨ i = 1 ∨ i = 2 := (by omega); rcases h0 with rfl | rfl | rfl <;> rfl)) ?_ | apply_assumption -exfalso -symm)
  all_goals (first | (show endQ _ _ _ _ _ _ _; (repeat (rename (∀ (A : Fr) (H : Hp), AWP _ _ _ _ A H → _) => hK; clear hK)); (repeat (rename (Fr → Hp → Prop) => K; clear K))) | (show Exists _; (repeat (rename (∀ (A : Fr) (H : Hp), AWP _ _ _ _ A H → _) => hK; clear hK)); (repeat (rename (Fr → Hp → Prop) => K; clear K))) | skip)
  exact end_X3 rfl (by decide) (by decide) (by decide) rfl rfl rfl (.refl _) (.refl _) (.refl _) ⟨(n, gs, bs), hg, rfl⟩
end Go.Proofs.Ytngpacdhpblpbaa
end

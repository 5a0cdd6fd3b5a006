import Derived.Test.YtiihgbobdipikaaK5
import Derived.Test.YtiihgbobdipikaaK3
import Derived.Test.YtiihgbobdipikaaK6
/- The reference's search: where a row stands in the sorted index, and how one is put in. -/
section
namespace Go.Proofs.Ytiihgbobdipikaa
open Go.Av
set_option linter.unusedSimpArgs false
set_option linter.unusedVariables false
attribute [local irreducible] AWP CallG Ob Br BrP Go.Av.Sub endQ AOps OpV AC thenA blkA opsVC opVC withA withArgs opsQ opQ CallQ withA2 withArgs2
open Go.Pm (Pm comp invp idn img lx lx_drop lx_drop_ne lx_drop_end srow Srt Slot slot sidx insAt)

end Go.Proofs.Ytiihgbobdipikaa
end
/- The reference's search: what it comes to. -/
section
namespace Go.Proofs.Ytiihgbobdipikaa
open Go.Av
set_option linter.unusedSimpArgs false
set_option linter.unusedVariables false
attribute [local irreducible] AWP CallG Ob Br BrP Go.Av.Sub endQ AOps OpV AC thenA blkA opsVC opVC withA withArgs opsQ opQ CallQ withA2 withArgs2
open Go.Pm (Pm comp invp idn img Gen Bf srch sorts srtN Srt slot sidx insAt)

/-- The letters of a puzzle, each with its permutation. -/
def lsP (p : Pz) : List (Int × List Int) := (lets p.m.length).map fun l => (l, letP p.m l)
theorem lsP_length (p : Pz) : (lsP p).length = 2 * p.m.length := by simp [lsP, lets_length]
theorem lsP_get (p : Pz) (i : Nat) (h : i < 2 * p.m.length) : (lsP p).getD i (0, []) = ((lets p.m.length).getD i 0, letP p.m ((lets p.m.length).getD i 0)) := by
  have hl := lets_length p.m.length
  simp [lsP, List.getD_eq_getElem?_getD, List.getElem?_eq_getElem (show i < (lets p.m.length).length by omega)]
theorem lsP_pm {p : Pz} (hz : isPz p) : ∀ g ∈ (lsP p).map (·.2), Pm p.n.toNat g := by
  intro g hg
  simp only [lsP, List.map_map, List.mem_map, Function.comp] at hg
  obtain ⟨l, hl, rfl⟩ := hg
  obtain ⟨j, hj, rfl⟩ := List.getElem_of_mem hl
  have := lets_inL p.m j hj
  rw [List.getD_eq_getElem?_getD, List.getElem?_eq_getElem hj] at this
  exact letP_pm hz.gens this

def h3 (B1 B2 B3 : Blk) : Hp := ((Hp.emp.upd 1000001 B1).upd 1000002 B2).upd 1000003 B3
section
variable {P : Program} {N : Cx} {A : Fr} {H : Hp}
end
/-- What lies in memory while the search goes on. -/
def hS (p : Pz) (xs : List (List Int)) (dp : List Int) : Hp := (((((Hp.emp.upd 2 (.cells 3 (vecF [.v (.int .i64 p.n), .v (.string p.s), .list false 1 (p.m).length (cM ints [] (p.m))]))).upd 4 (.cells 4 (zF [.slice none 0 0, .slice none 0 0, .slice none 0 0, .bool false]))).upd 5 (.cells 4 (vecF [.own 1000001 0 1 xs.length, .own 1000002 0 1 dp.length, .own 1000003 0 1 (sorts xs).length, .v (.bool (false))]))).upd 1000001 (.cells xs.length (cM ints [] xs))).upd 1000002 (.cells dp.length (cM iv 0 dp))).upd 1000003 (.cells (sorts xs).length (cM iv 0 (sorts xs)))
end Go.Proofs.Ytiihgbobdipikaa
end
/- The reference's searches of states: what they return. -/
section
namespace Go.Proofs.Ytiihgbobdipikaa
open Go.Av
set_option linter.unusedSimpArgs false
set_option linter.unusedVariables false
attribute [local irreducible] AWP CallG Ob Br BrP Go.Av.Sub endQ AOps OpV AC thenA blkA opsVC opVC withA withArgs opsQ opQ CallQ withA2 withArgs2
open Go.Pm (Pm comp invp idn img Gen Bf srch sorts srtN Srt slot sidx insAt)

/-- The whole search of a puzzle, if it is valid and has not too many states. -/
noncomputable def XS (p : Pz) : Option Bf := if isPz p then srch (lsP p) (idn p.n.toNat) else none
theorem XS_yes {p : Pz} (h : isPz p) : XS p = srch (lsP p) (idn p.n.toNat) := if_pos h
theorem XS_no {p : Pz} (h : ¬ isPz p) : XS p = none := if_neg h
theorem XS_pz {p : Pz} {B : Bf} (h : XS p = some B) : isPz p := by
  by_cases e : isPz p
  · exact e
  · rw [XS_no e] at h; cases h
theorem idn_in (n : Nat) : ∀ j, j < (idn n).length → 0 ≤ (idn n).getD j 0 ∧ (idn n).getD j 0 < n := fun j hj => by
  rw [Go.Pm.idn_length] at hj; rw [Go.Pm.idn_get hj]; omega
theorem XS_whole {p : Pz} {B : Bf} (h : XS p = some B) : Bf.Whole p.n.toNat (lsP p) (idn p.n.toNat) B ∧ B.st.length ≤ 3000 := by
  have hz := XS_pz h
  rw [XS_yes hz] at h
  obtain ⟨K, h1, h2, rfl⟩ := Go.Pm.srch_fin h
  exact ⟨h1.whole (lsP_pm hz) (idn_in _), by have := h1.1; omega⟩
/-- A search's result, with its rows, whatever came of it. -/
noncomputable def XA (p : Pz) : Bf := match XS p with | some B => B | none => if isPz p then Go.Pm.cutB (lsP p) (idn p.n.toNat) else ⟨[], [], [], [], []⟩
theorem XA_some {p : Pz} {B : Bf} (h : XS p = some B) : XA p = B := by unfold XA; rw [h]
theorem XA_whole {p : Pz} (h : (XS p).isSome = true) : isPz p ∧ Bf.Whole p.n.toNat (lsP p) (idn p.n.toNat) (XA p) ∧ (XA p).st.length ≤ 3000 := by
  obtain ⟨B, hB⟩ := Option.isSome_iff_exists.1 h
  rw [XA_some hB]
  obtain ⟨h1, h2⟩ := XS_whole hB
  exact ⟨XS_pz hB, h1, h2⟩
theorem XA_basic (p : Pz) : (XA p).st.length ≤ 3000 ∧ (XA p).dp.length = (XA p).st.length := by
  cases hX : XS p with
  | some B =>
    rw [XA_some hX]
    obtain ⟨hw, hx⟩ := XS_whole hX
    exact ⟨hx, hw.ld⟩
  | none =>
    unfold XA
    rw [hX]
    by_cases h : isPz p
    · simp only [if_pos h]
      exact Go.Pm.cutB_basic (lsP_pm h) (idn_in _)
    · simp only [if_neg h]
      exact ⟨by simp, rfl⟩
theorem isSt.len {p : Pz} {s : List Int} (h : isSt p s) : s.length = p.n.toNat := by have := (isSt_len h).1; omega
theorem isPz.n20 {p : Pz} (h : isPz p) : p.n.toNat ≤ 20 := by have := h.n; omega
/-- The depth of a state, or -1. -/
def depD (B : Bf) (s : List Int) : Int := if s ∈ B.st then B.dp.getD (B.st.idxOf s) 0 else -1
/-- The depth of a state in the search of a puzzle, or -1. -/
noncomputable def dstP (p : Pz) (s : List Int) : Int := if (XS p).isSome = true ∧ isSt p s then depD (XA p) s else -1
end Go.Proofs.Ytiihgbobdipikaa
end
/- The reference's answers on reachable states. -/
section
namespace Go.Proofs.Ytiihgbobdipikaa
open Go.Av
set_option linter.unusedSimpArgs false
set_option linter.unusedVariables false
attribute [local irreducible] AWP CallG Ob Br BrP Go.Av.Sub endQ AOps OpV AC thenA blkA opsVC opVC withA withArgs opsQ opQ CallQ withA2 withArgs2
open Go.Pm (Pm comp invp idn img Gen Bf srch sorts srtN Srt slot sidx insAt)

/- FarthestState -/
/-- The box of a puzzle and the result of its search. -/
noncomputable def hX (p : Pz) (a b : Nat) : Hp := (Hp.emp.upd a (.cells 3 (vecF [.v (.int .i64 p.n), .v (.string p.s), .list false 1 (p.m).length (cM ints [] (p.m))]))).upd b (.cells 4 (vecF [.list false 1 ((XA p).st).length (cM ints [] ((XA p).st)), .list false 1 ((XA p).dp).length (cM iv 0 ((XA p).dp)), .list false 1 (sorts (XA p).st).length (cM iv 0 (sorts (XA p).st)), .v (.bool ((XS p).isSome))]))
end Go.Proofs.Ytiihgbobdipikaa
end
/- The program's key of a state. -/
section
namespace Go.Proofs.Ytiihgbobdipikaa
open Go.Av
set_option linter.unusedSimpArgs false
set_option linter.unusedVariables false
attribute [local irreducible] AWP CallG Ob Br BrP Go.Av.Sub endQ AOps OpV AC thenA blkA opsVC opVC withA withArgs opsQ opQ CallQ withA2 withArgs2
open Go.Pm (Pm comp invp idn img Gen Bf srch sorts srtN Srt slot sidx insAt)

def kf (s : List Int) (k j : Nat) : AV := if j < k then .v (.int .u8 (s.getD j 0)) else .v (.int .u8 0)
def keyB (s : List Int) : ByteArray := strOf s.length (kf s s.length)
def isB (s : List Int) : Prop := ∀ j, j < s.length → 0 ≤ s.getD j 0 ∧ s.getD j 0 < 256
theorem wrap8 {x : Int} (h : 0 ≤ x ∧ x < 256) : IntKind.u8.wrap x = x := by
  simp only [IntKind.wrap]
  rw [show (2 : Int) ^ IntKind.u8.bits = 256 from rfl, show IntKind.u8.signed = false from rfl]
  simp only [Bool.false_and, Bool.false_eq_true, if_false]
  omega
theorem keyB_inj {s t : List Int} (hs : isB s) (ht : isB t) (e : keyB s = keyB t) : s = t := by
  unfold keyB strOf at e
  have h1 := congrArg (fun b : ByteArray => b.data.toList) e
  simp only [List.toList_toArray] at h1
  have hl : s.length = t.length := by simpa using congrArg List.length h1
  refine Go.Pm.ext hl fun j hj => ?_
  have ht' : j < t.length := by omega
  have h2 : Go.Av.byteOf (kf s s.length j) = Go.Av.byteOf (kf t t.length j) := by
    have h2 := congrArg (fun l : List UInt8 => l[j]?) h1
    simpa [hj, ht'] using h2
  unfold kf at h2
  rw [if_pos hj, if_pos ht'] at h2
  have h3 := hs j hj
  have h4 := ht j ht'
  have h5 := congrArg UInt8.toNat h2
  simp only [Go.Av.byteOf, UInt8.toNat_ofNat'] at h5
  omega
theorem kf_byte (s : List Int) (k n : Nat) : ∀ i, i < n → isByte (kf s k i) := fun i _ => by
  unfold kf
  split
  · exact ⟨_, rfl⟩
  · exact ⟨_, rfl⟩
theorem stateKey_ok (s : List Int) (hs0 : s.length ≤ 1048576) (hb0 : isB s) : AC Try.prog 103 [ints s] Hp.emp (fun _ => false) (retV (.v (.string (keyB s)))) := by
  refine ac_of_awp (N := ⟨_, fun _ => false, fun _ _ => rfl⟩) Try.func103 rfl (by kernel_rfl) Try.ntmps103 (by simp) ?_
  simp only [argsFr, List.zipIdx_cons, List.zipIdx_nil, go_sem]
  repeat' (first | refine awp_seqK fun K hK => ?_ | (refine awp_regionK 7741 rfl ?_; simp only [List.map_cons, List.map_nil]; simp (maxSteps := 1000000) (dsimp := false) (implicitDefEqProofs := false) (disch := omega) only [wrap64, go_sem]) | (refine awp_regionQK 7741 (by kernel_rfl) (by kernel_rfl) (by kernel_rfl) ?_; simp only [List.map_cons, List.map_nil]; simp (maxSteps := 1000000) (dsimp := false) (implicitDefEqProofs := false) (disch := omega) only [wrap64, go_sem]) | refine awp_block ?_ | (refine awp_skip ?_; simp only [go_sem]) | (refine awp_exit ?_; simp only [go_sem]) | (refine awp_ret ?_; try simp only [go_sem]) | (refine awp_condP rfl ?_; try simp only [go_sem]) | (refine BrP.mk (fun h => ?_) (fun h => ?_) <;> try simp (dsimp := false) (disch := omega) only [wrap64]) | (refine Br.mk (fun h => ?_) (fun h => ?_) <;> try simp (dsimp := false) (disch := omega) only [wrap64]) | refine Ob.mk (by first | omega | (intro _ _; rfl) | trivial | (intros; trivial) | assumption | (intro i hi; have h0 : i = 0 := (by omega); subst h0; first | rfl | trivial) | (intro i hi; have h0 : i = 0 ∨ i = 1 := (by omega); rcases h0 with rfl | rfl <;> rfl) | (intro i hi; have h0 : i = 0 ∨ i = 1 ∨ i = 2 := (by omega); rcases h0 with rfl | rfl | rfl <;> rfl)) ?_ | apply_assumption -exfalso -symm)
  all_goals (first | (show endQ _ _ _ _ _ _ _; (repeat (rename (∀ (A : Fr) (H : Hp), AWP _ _ _ _ A H → _) => hK; clear hK)); (repeat (rename (Fr → Hp → Prop) => K; clear K))) | (show Exists _; (repeat (rename (∀ (A : Fr) (H : Hp), AWP _ _ _ _ A H → _) => hK; clear hK)); (repeat (rename (Fr → Hp → Prop) => K; clear K))) | skip)
  refine awp_loop (ι := Nat) (fun k => [(11, .v (.int .i64 (k))), (10, .v (.int .i64 (s.length))), (9, .list false 1 (s).length (cM iv 0 (s))), (3, .own 8 0 1 s.length)]) (fun k => Hp.emp.upd 8 (.cells s.length (kf s k))) (fun k => k ≤ s.length) (fun k => s.length - k) 0 (Nat.zero_le _) (Sub.trans (Sub.cellsE 8 (kf s 0) rfl (fun i hi => by simp [kf, zF, Nat.mod_one])) (Sub.toL (by simp only [go_sem] <;> first | trivial | (simp only [Option.some.injEq, AV.v.injEq, AV.own.injEq, AV.list.injEq, Value.int.injEq, Value.bool.injEq, true_and, and_true]; first | omega | (simp; done)) | (simp; done) | (simp; omega)) (Hp.le_upd rfl (Hp.le_emp _)))) ?_
  intro k hk
  have hbk := hb0 k
  have hw8 : k < s.length → IntKind.u8.wrap (s.getD k 0) = s.getD k 0 := fun h => wrap8 (hbk h)
  have hll : (s.length ≤ s.length) = True := eq_true (Nat.le_refl _)
  repeat' (first | (refine Ob.mk (kf_byte s k _) ?_) | refine awp_seqK fun K hK => ?_ | (refine awp_regionK 7741 rfl ?_; simp only [List.map_cons, List.map_nil]; simp (maxSteps := 1000000) (dsimp := false) (implicitDefEqProofs := false) (disch := omega) only [wrap64, go_sem, hw8, hll]) | (refine awp_regionQK 7741 (by kernel_rfl) (by kernel_rfl) (by kernel_rfl) ?_; simp only [List.map_cons, List.map_nil]; simp (maxSteps := 1000000) (dsimp := false) (implicitDefEqProofs := false) (disch := omega) only [wrap64, go_sem, hw8, hll]) | refine awp_block ?_ | (refine awp_skip ?_; simp only [go_sem, hw8, hll]) | (refine awp_exit ?_; simp only [go_sem, hw8, hll]) | (refine awp_ret ?_; try simp only [go_sem, hw8, hll]) | (refine awp_condP rfl ?_; try simp only [go_sem, hw8, hll]) | (refine BrP.mk (fun h => ?_) (fun h => ?_) <;> try simp (dsimp := false) (disch := omega) only [wrap64]) | (refine Br.mk (fun h => ?_) (fun h => ?_) <;> try simp (dsimp := false) (disch := omega) only [wrap64]) | refine Ob.mk (by first | omega | (intro _ _; rfl) | trivial | (intros; trivial) | assumption | (intro i hi; have h0 : i = 0 := (by omega); subst h0; first | rfl | trivial) | (intro i hi; have h0 : i = 0 ∨ i = 1 := (by omega); rcases h0 with rfl | rfl <;> rfl) | (intro i hi; have h0 : i = 0 ∨ i = 1 ∨ i = 2 := (by omega); rcases h0 with rfl | rfl | rfl <;> rfl)) ?_ | apply_assumption -exfalso -symm)
  all_goals (first | (show endQ _ _ _ _ _ _ _; (repeat (rename (∀ (A : Fr) (H : Hp), AWP _ _ _ _ A H → _) => hK; clear hK)); (repeat (rename (Fr → Hp → Prop) => K; clear K))) | (show Exists _; (repeat (rename (∀ (A : Fr) (H : Hp), AWP _ _ _ _ A H → _) => hK; clear hK)); (repeat (rename (Fr → Hp → Prop) => K; clear K))) | skip)
  · refine ⟨k + 1, by omega, by omega, Sub.toLF (by simp only [go_sem] <;> trivial) (leF_upd rfl (bfE rfl (fun i hi => ?_)) leF_emp id)⟩
    simp only [setF, kf]
    split
    · rename_i e; subst e; rw [if_pos (by omega)]
    · by_cases h : i < k
      · rw [if_pos h, if_pos (by omega)]
      · rw [if_neg h, if_neg (by omega)]
  · have e : k = s.length := by omega
    subst e
    exact end_retV rfl rfl
end Go.Proofs.Ytiihgbobdipikaa
end

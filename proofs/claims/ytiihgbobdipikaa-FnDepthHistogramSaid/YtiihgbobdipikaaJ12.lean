import Derived.Test.YtiihgbobdipikaaJ7
import Derived.Test.YtiihgbobdipikaaJ8
import Derived.Test.YtiihgbobdipikaaJ11
import Derived.Test.YtiihgbobdipikaaJ3
import Derived.KernelRfl
import Derived.Test.YtiihgbobdipikaaJ4
import Derived.Test.YtiihgbobdipikaaJ10
import Derived.Test.YtiihgbobdipikaaJ5
import Derived.Test.YtiihgbobdipikaaT60
/- Small puzzles: their searches are whole. -/
section
namespace Go.Proofs.Ytiihgbobdipikaa
open Go.Av
set_option linter.unusedSimpArgs false
set_option linter.unusedVariables false
attribute [local irreducible] AWP CallG Ob Br BrP Go.Av.Sub endQ AOps OpV AC thenA blkA opsVC opVC withA withArgs opsQ opQ CallQ withA2 withArgs2
open Go.Pm (Pm comp invp idn img Gen Bf srch sorts srtN Srt slot sidx insAt)
/-- The rows of n numbers below n, no two alike. -/
def dRows (n : Nat) : List (List Int) := (Go.Pm.rowsOf n n).filter fun r => decide r.Nodup
theorem dRows_len : ∀ n, n ≤ 5 → (dRows n).length ≤ 120 := by
  intro n hn
  match n, hn with
  | 0, _ => exact of_decide_eq_true (by kernel_rfl)
  | 1, _ => exact of_decide_eq_true (by kernel_rfl)
  | 2, _ => exact of_decide_eq_true (by kernel_rfl)
  | 3, _ => exact of_decide_eq_true (by kernel_rfl)
  | 4, _ => exact of_decide_eq_true (by kernel_rfl)
  | 5, _ => exact of_decide_eq_true (by kernel_rfl)
theorem pm_nodup {n : Nat} {g : List Int} (hg : Pm n g) : g.Nodup := by
  refine List.nodup_iff_pairwise_ne.2 (List.pairwise_iff_getElem.2 fun i j hi hj hij e => ?_)
  have h1 : g.getD i 0 = g.getD j 0 := by
    rw [List.getD_eq_getElem?_getD, List.getD_eq_getElem?_getD, List.getElem?_eq_getElem hi, List.getElem?_eq_getElem hj, Option.getD_some, Option.getD_some]; exact e
  have := hg.2.2 i j (by rw [← hg.1]; exact hi) (by rw [← hg.1]; exact hj) h1
  omega
theorem small {p : Pz} (hz : isPz p) (hn : p.n ≤ 5) : (XS p).isSome = true ∧ (XA p).st.length ≤ 120 ∧ (XA p).st.length = cntP p := by
  have hG := lsP_pm hz
  obtain ⟨L, nd, hl, hL⟩ := cnt_list hz
  have hle : L.length ≤ 120 := by
    refine Nat.le_trans (Go.Plain.nodup_le (dRows p.n.toNat) L nd fun x hx => ?_) (dRows_len p.n.toNat (by omega))
    have hp := ((hL x).1 hx).pm hG
    exact List.mem_filter.2 ⟨Go.Pm.pm_rows hp, decide_eq_true (pm_nodup hp)⟩
  obtain ⟨B, hB, hb⟩ := (Go.Pm.srch_group hG nd hL).1 (by omega)
  have e : XS p = some B := by rw [XS_yes hz]; exact hB
  refine ⟨by rw [e]; rfl, ?_⟩
  rw [XA_some e]; omega
end Go.Proofs.Ytiihgbobdipikaa
end
/- The breadth-first order and the histogram of depths: plain laws. -/
section
namespace Go.Proofs.Ytiihgbobdipikaa
open Go.Av
set_option linter.unusedSimpArgs false
set_option linter.unusedVariables false
attribute [local irreducible] AWP CallG Ob Br BrP Go.Av.Sub endQ AOps OpV AC thenA blkA opsVC opVC withA withArgs opsQ opQ CallQ withA2 withArgs2
open Go.Pm (Pm comp invp idn img Gen Bf srch sorts srtN Srt slot sidx insAt)
section
variable {Ls : List (Int × List Int)} {n : Nat} {B : Bf}
theorem dp_next (hw : Bf.Whole n Ls (idn n) B) {k : Nat} (h0 : 0 < k) (hk : k < B.st.length) : B.dp.getD (k - 1) 0 ≤ B.dp.getD k 0 ∧ B.dp.getD k 0 ≤ B.dp.getD (k - 1) 0 + 1 := by
  obtain ⟨q, l, h1, h2, h3, h4⟩ := hw.par k h0 hk
  have := hw.mono q (k - 1) (by omega) (by omega)
  exact ⟨hw.mono (k - 1) k (by omega) hk, by omega⟩
/-- Each depth up to that of a row has a row. -/
theorem dp_all (hw : Bf.Whole n Ls (idn n) B) : ∀ k, k < B.st.length → ∀ d : Int, 0 ≤ d → d ≤ B.dp.getD k 0 → ∃ i, i < B.st.length ∧ B.dp.getD i 0 = d := by
  intro k
  induction k using Nat.strongRecOn with
  | _ k ih =>
    intro hk d h0 hd
    by_cases e : d = B.dp.getD k 0
    · exact ⟨k, hk, e.symm⟩
    · by_cases e2 : k = 0
      · rw [e2, hw.z] at hd e; omega
      · obtain ⟨q, l, h1, h2, h3, h4⟩ := hw.par k (by omega) hk
        exact ih q h1 (by omega) d h0 (by omega)
theorem count_filter (D : List Int) (d : Int) : ∀ k, k ≤ D.length → ((List.range k).filter fun j => decide (D.getD j 0 = d)).length = (D.take k).count d
  | 0, _ => by simp
  | k + 1, h => by
    rw [Go.Pm.filter_range_succ, List.length_append, count_filter D d k (by omega), Go.Pm.take_snoc (by omega), List.count_append]
    congr 1
    by_cases e : D.getD k 0 = d
    · rw [if_pos (decide_eq_true e), e]; simp
    · have e2 : ¬ decide (D.getD k 0 = d) = true := fun k => e (of_decide_eq_true k)
      rw [if_neg e2, List.count_eq_zero.2 (fun k => e (List.mem_singleton.1 k).symm)]; rfl
/-- Whether a depth is below. -/
def inN (k : Nat) (x : Int) : Bool := decide (0 ≤ x ∧ x < (k : Int))
theorem inN_succ (k : Nat) : ∀ D : List Int, (D.filter (inN (k + 1))).length = (D.filter (inN k)).length + D.count (k : Int)
  | [] => rfl
  | x :: D => by
    have ih := inN_succ k D
    by_cases h1 : x = (k : Int)
    · have a1 : inN (k + 1) x = true := decide_eq_true (by omega)
      have a2 : ¬ inN k x = true := fun h => by have := of_decide_eq_true h; omega
      rw [List.filter_cons_of_pos a1, List.filter_cons_of_neg a2, List.length_cons, ih, h1, List.count_cons_self]; omega
    · rw [List.count_cons_of_ne h1]
      by_cases h2 : 0 ≤ x ∧ x < (k : Int)
      · have a1 : inN (k + 1) x = true := decide_eq_true (by omega)
        have a2 : inN k x = true := decide_eq_true h2
        rw [List.filter_cons_of_pos a1, List.filter_cons_of_pos a2, List.length_cons, List.length_cons, ih]; omega
      · have a1 : ¬ inN (k + 1) x = true := fun h => by have := of_decide_eq_true h; omega
        have a2 : ¬ inN k x = true := fun h => h2 (of_decide_eq_true h)
        rw [List.filter_cons_of_neg a1, List.filter_cons_of_neg a2, ih]
/-- The sum of the first counts. -/
theorem sum_hst (D : List Int) : ∀ k : Nat, ((hst D k).sum : Int) = ((D.filter (inN k)).length : Int)
  | 0 => by
    have e : D.filter (inN 0) = [] := List.filter_eq_nil_iff.2 fun x hx k => by
      have := of_decide_eq_true k
      omega
    rw [e]; rfl
  | k + 1 => by
    have e0 : hst D (k + 1) = hst D k ++ [((D.count ((k : Nat) : Int) : Nat) : Int)] := by
      unfold hst; rw [List.range_succ, List.map_append]; rfl
    rw [e0, List.sum_append, sum_hst D k, inN_succ k D]
    simp
end
section
variable {p : Pz} (h : (XS p).isSome = true)
include h
/-- What the histogram is. -/
theorem his_ok : (hisP p).length = ((XA p).dp.getD ((XA p).st.length - 1) 0).toNat + 1 ∧ (∀ k, k < (hisP p).length → (hisP p).getD k 0 = ((statD p (k : Int)).length : Nat) ∧ 1 ≤ (hisP p).getD k 0) ∧ (hisP p).sum = ((XA p).st.length : Int) := by
  obtain ⟨hz, hw, hx⟩ := XA_whole h
  have hl := hw.ld
  have hp := hw.pos
  have e : hisP p = hst (XA p).dp (((XA p).dp.getD ((XA p).st.length - 1) 0).toNat + 1) := by
    unfold hisP hLen
    rw [if_pos h, if_neg (by omega), hl]
  have hlast := hw.le ((XA p).st.length - 1) (by omega)
  have hlen : (hisP p).length = ((XA p).dp.getD ((XA p).st.length - 1) 0).toNat + 1 := by rw [e, hst_length]
  refine ⟨hlen, fun k hk => ?_, ?_⟩
  · have hk2 : (hisP p).getD k 0 = (((XA p).dp.count ((k : Nat) : Int) : Nat) : Int) := by rw [e, hst_get _ (by omega)]
    have hs : (statD p (k : Int)).length = (XA p).dp.count ((k : Nat) : Int) := by
      unfold statD atD
      rw [if_pos h, List.length_map]
      have := count_filter (XA p).dp (k : Int) (XA p).dp.length (Nat.le_refl _)
      rw [List.take_length] at this
      rw [← hl]; exact this
    refine ⟨by rw [hk2, hs], ?_⟩
    obtain ⟨i, hi, hd⟩ := dp_all hw ((XA p).st.length - 1) (by omega) (k : Int) (by omega) (by omega)
    have : 0 < (XA p).dp.count ((k : Nat) : Int) := List.count_pos_iff.2 (by
      rw [← hd, List.getD_eq_getElem?_getD, List.getElem?_eq_getElem (show i < (XA p).dp.length by omega)]
      exact List.getElem_mem _)
    omega
  · rw [e, sum_hst, List.filter_eq_self.2 (fun x hx2 => ?_), hl]
    obtain ⟨j, hj, rfl⟩ := List.mem_iff_getElem.1 hx2
    have h1 := hw.le j (by omega)
    have h2 := hw.mono j ((XA p).st.length - 1) (by omega) (by omega)
    have e3 : (XA p).dp.getD j 0 = (XA p).dp[j] := by rw [List.getD_eq_getElem?_getD, List.getElem?_eq_getElem hj]; rfl
    rw [e3] at h1 h2
    exact decide_eq_true (by omega)
end
end Go.Proofs.Ytiihgbobdipikaa
end
/- The laws' dice: how they lie in memory, and what a throw answers. -/
section
namespace Go.Proofs.Ytiihgbobdipikaa
open Go.Av
set_option linter.unusedSimpArgs false
set_option linter.unusedVariables false
attribute [local irreducible] AWP CallG Ob Br BrP Go.Av.Sub endQ AOps OpV AC thenA blkA opsVC opVC withA withArgs opsQ opQ CallQ withA2 withArgs2
/-- The bits that are kept of a number. -/
def andB (m : Int) : Int := IntKind.u64.wrap ((BitVec.ofInt IntKind.u64.bits m &&& BitVec.ofInt IntKind.u64.bits 16777215).toNat : Int)
theorem wrapU {x : Int} (h : 0 ≤ x ∧ x ≤ 18446744073709551615) : IntKind.u64.wrap x = x := by
  unfold IntKind.wrap
  rw [show (2 : Int) ^ IntKind.u64.bits = 18446744073709551616 from rfl, show IntKind.u64.signed = false from rfl]
  simp only [Bool.false_and, Bool.false_eq_true, if_false]
  omega
theorem andB_ok (m : Int) : 0 ≤ andB m ∧ andB m ≤ 16777215 := by
  have h : (BitVec.ofInt IntKind.u64.bits m &&& BitVec.ofInt IntKind.u64.bits 16777215).toNat ≤ 16777215 := by
    rw [BitVec.toNat_and]
    exact Nat.le_trans Nat.and_le_right (by decide)
  unfold andB
  rw [wrapU (by omega)]
  omega
theorem andW (m : Int) : IntKind.i64.wrap (IntKind.u64.wrap ((BitVec.ofInt IntKind.u64.bits m &&& BitVec.ofInt IntKind.u64.bits 16777215).toNat : Int)) = andB m := by
  have := andB_ok m
  exact wrap64 (x := andB m) (by omega)
theorem tmod_in {x n : Int} (hx : 0 ≤ x) (hn : 0 < n) : 0 ≤ x.tmod n ∧ x.tmod n < n := ⟨Int.tmod_nonneg n hx, Int.tmod_lt_of_pos x hn⟩
theorem c3 {f g : Nat → AV} (h0 : f 0 = g 0) (h1 : f 1 = g 1) (h2 : f 2 = g 2) : ∀ i, i < 3 → f i = g i := fun i hi => by
  match i, hi with
  | 0, _ => exact h0
  | 1, _ => exact h1
  | 2, _ => exact h2
theorem dBelow_ok (d : Dc) (n : Int) (hn0 : 0 < n ∧ n ≤ 9223372036854775807) : AC Try.prog 27 [.ref 1000000 0, .v (.int .i64 (n))] (DH .u64 d) pM (postD .u64 fun r => ∃ v : Int, (0 ≤ v ∧ v < n) ∧ r = .v (.int .i64 (v))) := by
  have hb := d.hx d.i
  have e1 : IntKind.i64.wrap (d.xs.getD d.i 0) = d.xs.getD d.i 0 := wrap64 (by omega)
  refine ac_of_awp (N := ⟨_, pM, fun h hh => pM_low (Nat.lt_of_lt_of_le hh (by decide))⟩) Try.func27 rfl (by kernel_rfl) Try.ntmps27 (by simp) ?_
  simp only [argsFr, List.zipIdx_cons, List.zipIdx_nil, go_sem]
  unfold DH dF
  repeat' (first | refine awp_seqK fun K hK => ?_ | (refine awp_regionK 2147483699 rfl ?_; simp only [List.map_cons, List.map_nil]; simp (maxSteps := 1000000) (dsimp := false) (implicitDefEqProofs := false) (disch := omega) only [wrap64, go_sem, andW, e1]) | (refine awp_regionQK 2147483699 (by kernel_rfl) (by kernel_rfl) (by kernel_rfl) ?_; simp only [List.map_cons, List.map_nil]; simp (maxSteps := 1000000) (dsimp := false) (implicitDefEqProofs := false) (disch := omega) only [wrap64, go_sem, andW, e1]) | refine awp_block ?_ | (refine awp_skip ?_; simp only [go_sem, andW, e1]) | (refine awp_exit ?_; simp only [go_sem, andW, e1]) | (refine awp_ret ?_; try simp only [go_sem, andW, e1]) | (refine awp_condP rfl ?_; try simp only [go_sem, andW, e1]) | (refine BrP.mk (fun h => ?_) (fun h => ?_) <;> try simp (dsimp := false) (disch := omega) only [wrap64]) | (refine Br.mk (fun h => ?_) (fun h => ?_) <;> try simp (dsimp := false) (disch := omega) only [wrap64]) | refine Ob.mk (by first | omega | (intro _ _; rfl) | trivial | (intros; trivial) | assumption | (intro i hi; have h0 : i = 0 := (by omega); subst h0; first | rfl | trivial) | (intro i hi; have h0 : i = 0 ∨ i = 1 := (by omega); rcases h0 with rfl | rfl <;> rfl) | (intro i hi; have h0 : i = 0 ∨ i = 1 ∨ i = 2 := (by omega); rcases h0 with rfl | rfl | rfl <;> rfl)) ?_ | apply_assumption -exfalso -symm)
  all_goals (first | (show endQ _ _ _ _ _ _ _; (repeat (rename (∀ (A : Fr) (H : Hp), AWP _ _ _ _ A H → _) => hK; clear hK)); (repeat (rename (Fr → Hp → Prop) => K; clear K))) | (show Exists _; (repeat (rename (∀ (A : Fr) (H : Hp), AWP _ _ _ _ A H → _) => hK; clear hK)); (repeat (rename (Fr → Hp → Prop) => K; clear K))) | skip)
  · have hx := andB_ok ((IntKind.u64.wrap (IntKind.u64.wrap (d.h * 6364136223846793005) + 1442695040888963407)).fdiv (2 ^ min (Int.toNat 33) 64))
    have hl := d.hl
    rw [wrap64 (x := andB _ + _) (by omega)]
    refine end_postS (H' := DH .u64 ⟨d.xs, d.i + 1, IntKind.u64.wrap (IntKind.u64.wrap (d.h * 6364136223846793005) + 1442695040888963407), by omega, d.hx, d.hl⟩) rfl (Sub.toLF (by simp only [go_sem] <;> first | trivial | (simp only [Option.some.injEq, AV.v.injEq, AV.own.injEq, AV.list.injEq, Value.int.injEq, Value.bool.injEq, true_and, and_true]; first | omega | (simp; done)) | (simp; done) | (simp; omega)) (leF_upd rfl (bfE rfl (c3 rfl ?_ rfl)) leF_emp id)) ⟨_, ⟨_, tmod_in (by omega) hn0.1, rfl⟩, rfl⟩
    show AV.v _ = AV.v _
    rw [wrap64 (by omega)]
    rfl
  · have hx := andB_ok ((IntKind.u64.wrap (IntKind.u64.wrap (d.h * 6364136223846793005) + 1442695040888963407)).fdiv (2 ^ min (Int.toNat 33) 64))
    refine end_postS (H' := DH .u64 ⟨d.xs, d.i, IntKind.u64.wrap (IntKind.u64.wrap (d.h * 6364136223846793005) + 1442695040888963407), d.hi, d.hx, d.hl⟩) rfl (Sub.toLF (by simp only [go_sem] <;> first | trivial | (simp only [Option.some.injEq, AV.v.injEq, AV.own.injEq, AV.list.injEq, Value.int.injEq, Value.bool.injEq, true_and, and_true]; first | omega | (simp; done)) | (simp; done) | (simp; omega)) (leF_upd rfl (bfE rfl (c3 rfl rfl rfl)) leF_emp id)) ⟨_, ⟨_, tmod_in (by omega) hn0.1, rfl⟩, rfl⟩
end Go.Proofs.Ytiihgbobdipikaa
end
/- The laws' dice: how they are made; words of dice; whether codes are big, rows alike. -/
section
namespace Go.Proofs.Ytiihgbobdipikaa
open Go.Av
set_option linter.unusedSimpArgs false
set_option linter.unusedVariables false
attribute [local irreducible] AWP CallG Ob Br BrP Go.Av.Sub endQ AOps OpV AC thenA blkA opsVC opVC withA withArgs opsQ opQ CallQ withA2 withArgs2
open Go.Pm (Pm comp invp idn img)
theorem big_ok (xs : List Int) : AC Try.prog 8 [bts xs] Hp.emp (fun _ => false) (retV (.v (.bool (decide (4096 < xs.length))))) := by
  refine ac_of_awp (N := ⟨_, fun _ => false, fun _ _ => rfl⟩) Try.func8 rfl (by kernel_rfl) Try.ntmps8 (by simp) ?_
  simp only [argsFr, List.zipIdx_cons, List.zipIdx_nil, go_sem]
  unfold bts
  repeat' (first | refine awp_seqK fun K hK => ?_ | (refine awp_regionK 5 rfl ?_; simp only [List.map_cons, List.map_nil]; simp (maxSteps := 1000000) (dsimp := false) (implicitDefEqProofs := false) (disch := omega) only [wrap64, go_sem]) | (refine awp_regionQK 5 (by kernel_rfl) (by kernel_rfl) (by kernel_rfl) ?_; simp only [List.map_cons, List.map_nil]; simp (maxSteps := 1000000) (dsimp := false) (implicitDefEqProofs := false) (disch := omega) only [wrap64, go_sem]) | refine awp_block ?_ | (refine awp_skip ?_; simp only [go_sem]) | (refine awp_exit ?_; simp only [go_sem]) | (refine awp_ret ?_; try simp only [go_sem]) | (refine awp_condP rfl ?_; try simp only [go_sem]) | (refine BrP.mk (fun h => ?_) (fun h => ?_) <;> try simp (dsimp := false) (disch := omega) only [wrap64]) | (refine Br.mk (fun h => ?_) (fun h => ?_) <;> try simp (dsimp := false) (disch := omega) only [wrap64]) | refine Ob.mk (by first | omega | (intro _ _; rfl) | trivial | (intros; trivial) | assumption | (intro i hi; have h0 : i = 0 := (by omega); subst h0; first | rfl | trivial) | (intro i hi; have h0 : i = 0 ∨ i = 1 := (by omega); rcases h0 with rfl | rfl <;> rfl) | (intro i hi; have h0 : i = 0 ∨ i = 1 ∨ i = 2 := (by omega); rcases h0 with rfl | rfl | rfl <;> rfl)) ?_ | apply_assumption -exfalso -symm)
  all_goals (first | (show endQ _ _ _ _ _ _ _; (repeat (rename (∀ (A : Fr) (H : Hp), AWP _ _ _ _ A H → _) => hK; clear hK)); (repeat (rename (Fr → Hp → Prop) => K; clear K))) | (show Exists _; (repeat (rename (∀ (A : Fr) (H : Hp), AWP _ _ _ _ A H → _) => hK; clear hK)); (repeat (rename (Fr → Hp → Prop) => K; clear K))) | skip)
  exact end_retB rfl rfl (by simp; omega)
theorem specIdent_ok (n : Nat) (h1 : 1 ≤ n ∧ n ≤ 20) (d : Nat) : AC Try.prog 45 [.v (.int .i64 (n))] Hp.emp (fun _ => false) (retI d (idn n)) := by
  have hid : AC Try.prog 53 [.v (.int .i64 (n))] Hp.emp (fun _ => false) (retI 10 (idn n)) := by rw [idn_marks]; exact specIdentity_ok n (by omega) 10
  refine ac_of_awp (N := ⟨_, fun _ => false, fun _ _ => rfl⟩) Try.func45 rfl (by kernel_rfl) Try.ntmps45 (by simp) ?_
  simp only [argsFr, List.zipIdx_cons, List.zipIdx_nil, go_sem]
  repeat' (first | refine awp_seqK fun K hK => ?_ | (refine awp_regionK 37 rfl ?_; simp only [List.map_cons, List.map_nil]; simp (maxSteps := 1000000) (dsimp := false) (implicitDefEqProofs := false) (disch := omega) only [wrap64, go_sem]) | (refine awp_regionQK 37 (by kernel_rfl) (by kernel_rfl) (by kernel_rfl) ?_; simp only [List.map_cons, List.map_nil]; simp (maxSteps := 1000000) (dsimp := false) (implicitDefEqProofs := false) (disch := omega) only [wrap64, go_sem]) | refine awp_block ?_ | (refine awp_skip ?_; simp only [go_sem]) | (refine awp_exit ?_; simp only [go_sem]) | (refine awp_ret ?_; try simp only [go_sem]) | (refine awp_condP rfl ?_; try simp only [go_sem]) | (refine BrP.mk (fun h => ?_) (fun h => ?_) <;> try simp (dsimp := false) (disch := omega) only [wrap64]) | (refine Br.mk (fun h => ?_) (fun h => ?_) <;> try simp (dsimp := false) (disch := omega) only [wrap64]) | refine Ob.mk (by first | omega | (intro _ _; rfl) | trivial | (intros; trivial) | assumption | (intro i hi; have h0 : i = 0 := (by omega); subst h0; first | rfl | trivial) | (intro i hi; have h0 : i = 0 ∨ i = 1 := (by omega); rcases h0 with rfl | rfl <;> rfl) | (intro i hi; have h0 : i = 0 ∨ i = 1 ∨ i = 2 := (by omega); rcases h0 with rfl | rfl | rfl <;> rfl)) ?_ | ((first | ((first | refine atF (f := 90) ?_ | refine atQ (f := 90) ?_); (first | (refine cV (hac := inRange_ok _ _ _) (hK := ?_)) | (refine cQV (hac := inRange_ok _ _ _) (hK := ?_)))) | (refine cI (hac := hid) (hK := ?_)) | (refine cQI (hac := hid) (hK := ?_)) | ((first | refine atF (f := 53) ?_ | refine atQ (f := 53) ?_); refine cI (hac := hid) (hK := ?_))); simp (maxSteps := 1000000) (dsimp := false) (implicitDefEqProofs := false) (disch := omega) only [wrap64, go_sem]) | apply_assumption -exfalso -symm)
  all_goals (first | (show endQ _ _ _ _ _ _ _; (repeat (rename (∀ (A : Fr) (H : Hp), AWP _ _ _ _ A H → _) => hK; clear hK)); (repeat (rename (Fr → Hp → Prop) => K; clear K))) | (show Exists _; (repeat (rename (∀ (A : Fr) (H : Hp), AWP _ _ _ _ A H → _) => hK; clear hK)); (repeat (rename (Fr → Hp → Prop) => K; clear K))) | skip)
  · (first | refine end_retI' rfl rfl rfl ?_ rfl rfl | refine end_retI_nil' rfl rfl ?_ rfl)
    rfl
  · omega
theorem roll_ok (xs : List Int) (sd : Int) (hx : ∀ j, 0 ≤ xs.getD j 0 ∧ xs.getD j 0 ≤ 255) (hl : xs.length ≤ 4096) : AC Try.prog 9 [bts xs, .v (.int .u64 sd)] Hp.emp (fun _ => false) (postD .u64 fun r => r = .ref 1000000 0) := by
  refine ac_of_awp (N := ⟨_, fun _ => false, fun _ _ => rfl⟩) Try.func9 rfl (by kernel_rfl) Try.ntmps9 (by simp) ?_
  simp only [argsFr, List.zipIdx_cons, List.zipIdx_nil, go_sem]
  unfold bts
  repeat' (first | refine awp_seqK fun K hK => ?_ | (refine awp_regionK 524403 rfl ?_; simp only [List.map_cons, List.map_nil]; simp (maxSteps := 1000000) (dsimp := false) (implicitDefEqProofs := false) (disch := omega) only [wrap64, go_sem]) | (refine awp_regionQK 524403 (by kernel_rfl) (by kernel_rfl) (by kernel_rfl) ?_; simp only [List.map_cons, List.map_nil]; simp (maxSteps := 1000000) (dsimp := false) (implicitDefEqProofs := false) (disch := omega) only [wrap64, go_sem]) | refine awp_block ?_ | (refine awp_skip ?_; simp only [go_sem]) | (refine awp_exit ?_; simp only [go_sem]) | (refine awp_ret ?_; try simp only [go_sem]) | (refine awp_condP rfl ?_; try simp only [go_sem]) | (refine BrP.mk (fun h => ?_) (fun h => ?_) <;> try simp (dsimp := false) (disch := omega) only [wrap64]) | (refine Br.mk (fun h => ?_) (fun h => ?_) <;> try simp (dsimp := false) (disch := omega) only [wrap64]) | refine Ob.mk (by first | omega | (intro _ _; rfl) | trivial | (intros; trivial) | assumption | (intro i hi; have h0 : i = 0 := (by omega); subst h0; first | rfl | trivial) | (intro i hi; have h0 : i = 0 ∨ i = 1 := (by omega); rcases h0 with rfl | rfl <;> rfl) | (intro i hi; have h0 : i = 0 ∨ i = 1 ∨ i = 2 := (by omega); rcases h0 with rfl | rfl | rfl <;> rfl)) ?_ | apply_assumption -exfalso -symm)
  all_goals (first | (show endQ _ _ _ _ _ _ _; (repeat (rename (∀ (A : Fr) (H : Hp), AWP _ _ _ _ A H → _) => hK; clear hK)); (repeat (rename (Fr → Hp → Prop) => K; clear K))) | (show Exists _; (repeat (rename (∀ (A : Fr) (H : Hp), AWP _ _ _ _ A H → _) => hK; clear hK)); (repeat (rename (Fr → Hp → Prop) => K; clear K))) | skip)
  refine awp_loop (ι := Nat × Int) (fun k => [(6, .v (.int .i64 (k.1))), (5, .ref 15 0), (0, bts xs)]) (fun k => Hp.emp.upd 15 (.cells 3 (vecF [bts xs, .v (.int .i64 (0)), .v (.int .u64 k.2)]))) (fun k => k.1 ≤ xs.length) (fun k => xs.length - k.1) (0, _) (Nat.zero_le _) (Sub.toLF (by simp only [go_sem] <;> first | trivial | (simp only [Option.some.injEq, AV.v.injEq, AV.own.injEq, AV.list.injEq, Value.int.injEq, Value.bool.injEq, true_and, and_true]; first | omega | (simp; done)) | (simp; done) | (simp; omega)) (leF_upd rfl (bfE rfl (c3 rfl rfl rfl)) leF_emp id)) ?_
  rintro ⟨k, z⟩ hk
  dsimp only at hk ⊢
  repeat' (first | (refine awp_regionEK 524403 15 (by kernel_rfl) (by kernel_rfl) (by kernel_rfl) ?_; simp only [List.map_cons, List.map_nil, opsE, List.take_succ_cons, List.take_zero, List.drop_succ_cons, List.drop_zero]; simp (maxSteps := 1000000) (dsimp := false) (implicitDefEqProofs := false) (disch := omega) only [wrap64, go_sem]) | refine awp_seqK fun K hK => ?_ | (refine awp_regionK 524403 rfl ?_; simp only [List.map_cons, List.map_nil]; simp (maxSteps := 1000000) (dsimp := false) (implicitDefEqProofs := false) (disch := omega) only [wrap64, go_sem]) | (refine awp_regionQK 524403 (by kernel_rfl) (by kernel_rfl) (by kernel_rfl) ?_; simp only [List.map_cons, List.map_nil]; simp (maxSteps := 1000000) (dsimp := false) (implicitDefEqProofs := false) (disch := omega) only [wrap64, go_sem]) | refine awp_block ?_ | (refine awp_skip ?_; simp only [go_sem]) | (refine awp_exit ?_; simp only [go_sem]) | (refine awp_ret ?_; try simp only [go_sem]) | (refine awp_condP rfl ?_; try simp only [go_sem]) | (refine BrP.mk (fun h => ?_) (fun h => ?_) <;> try simp (dsimp := false) (disch := omega) only [wrap64]) | (refine Br.mk (fun h => ?_) (fun h => ?_) <;> try simp (dsimp := false) (disch := omega) only [wrap64]) | refine Ob.mk (by first | omega | (intro _ _; rfl) | trivial | (intros; trivial) | assumption | (intro i hi; have h0 : i = 0 := (by omega); subst h0; first | rfl | trivial) | (intro i hi; have h0 : i = 0 ∨ i = 1 := (by omega); rcases h0 with rfl | rfl <;> rfl) | (intro i hi; have h0 : i = 0 ∨ i = 1 ∨ i = 2 := (by omega); rcases h0 with rfl | rfl | rfl <;> rfl)) ?_ | apply_assumption -exfalso -symm)
  all_goals (first | (show endQ _ _ _ _ _ _ _; (repeat (rename (∀ (A : Fr) (H : Hp), AWP _ _ _ _ A H → _) => hK; clear hK)); (repeat (rename (Fr → Hp → Prop) => K; clear K))) | (show Exists _; (repeat (rename (∀ (A : Fr) (H : Hp), AWP _ _ _ _ A H → _) => hK; clear hK)); (repeat (rename (Fr → Hp → Prop) => K; clear K))) | skip)
  · exact ⟨(k + 1, IntKind.u64.wrap (IntKind.u64.wrap (IntKind.u64.wrap (z * 1099511628211) + IntKind.u64.wrap (xs.getD k 0)) + 3)), by omega, by omega, Sub.toLF (by simp only [go_sem] <;> first | trivial | (simp only [Option.some.injEq, AV.v.injEq, AV.own.injEq, AV.list.injEq, Value.int.injEq, Value.bool.injEq, true_and, and_true]; first | omega | (simp; done)) | (simp; done) | (simp; omega)) (leF_upd rfl (bfE rfl (c3 rfl rfl rfl)) leF_emp id)⟩
  · refine end_postS (H' := DH .u64 ⟨xs, 0, z, Nat.zero_le _, hx, hl⟩) rfl (Sub.layM (fun h => if h = 1000000 then some 15 else none) rfl (lay_cons ⟨_, rfl, .ref rfl⟩ lay_nil) (layF_upd (g := 15) (n := 3) rfl rfl (fun i hi => ?_) layF_emp) ?_) ⟨_, rfl, rfl⟩
    · match i, hi with
      | 0, _ => exact .plain trivial
      | 1, _ => exact .plain trivial
      | 2, _ => exact .plain trivial
    · intro x y k hx hy h1 h2
      split at h1
      · split at h2
        · omega
        · cases h2
      · cases h1
end Go.Proofs.Ytiihgbobdipikaa
end
/- The puzzles of dice. -/
section
namespace Go.Proofs.Ytiihgbobdipikaa
open Go.Av
set_option linter.unusedSimpArgs false
set_option linter.unusedVariables false
attribute [local irreducible] AWP CallG Ob Br BrP Go.Av.Sub endQ AOps OpV AC thenA blkA opsVC opVC withA withArgs opsQ opQ CallQ withA2 withArgs2
open Go.Pm (Pm comp invp idn img)
theorem specIdentI_ok (x : Int) (h1 : 1 ≤ x ∧ x ≤ 20) (d : Nat) : AC Try.prog 45 [.v (.int .i64 (x))] Hp.emp (fun _ => false) (retI d (idn x.toNat)) := by
  have e := specIdent_ok x.toNat (by omega) d
  rwa [show ((x.toNat : Nat) : Int) = x by omega] at e
theorem pm_swap {n : Nat} {g : List Int} (hg : Pm n g) {i j : Nat} (hi : i < n) (hj : j < n) : Pm n ((g.set i (g.getD j 0)).set j (g.getD i 0)) := by
  have hl := hg.1
  have e : ∀ k, k < n → ((g.set i (g.getD j 0)).set j (g.getD i 0)).getD k 0 = g.getD (if k = j then i else if k = i then j else k) 0 := fun k hk => by
    by_cases h1 : k = j
    · subst h1; rw [if_pos rfl]; simp [List.getD_eq_getElem?_getD, List.getElem?_set, hl, hk]
    · rw [if_neg h1]
      by_cases h2 : k = i
      · subst h2; rw [if_pos rfl]; simp [List.getD_eq_getElem?_getD, List.getElem?_set, hl, hk, Ne.symm h1]
      · rw [if_neg h2]; simp [List.getD_eq_getElem?_getD, List.getElem?_set, Ne.symm h1, Ne.symm h2]
  have hm : ∀ k, k < n → (if k = j then i else if k = i then j else k) < n := fun k hk => by
    split
    · exact hi
    · split <;> assumption
  refine ⟨by simp [hl], fun k hk => ?_, fun a b ha hb hab => ?_⟩
  · rw [e k hk]
    exact hg.2.1 _ (hm k hk)
  · rw [e a ha, e b hb] at hab
    have h := hg.2.2 _ _ (hm a ha) (hm b hb) hab
    split at h <;> split at h <;> (try split at h) <;> (try split at h) <;> omega
/-- What w9Puzzle answers. -/
def smallP (p : Pz) : Prop := isPz p ∧ 3 ≤ p.n ∧ p.n ≤ 5 ∧ p.m.length = 2
theorem w9Puzzle_ok (d : Dc) : AC Try.prog 10 [.ref 1000000 0] (DH .u64 d) pM (postD .u64 fun r => ∃ p, smallP p ∧ r = pz p) := by
  refine ac_of_awp (N := ⟨_, pM, fun h hh => pM_low (Nat.lt_of_lt_of_le hh (by decide))⟩) Try.func10 rfl (by kernel_rfl) Try.ntmps10 (by simp) ?_
  simp only [argsFr, List.zipIdx_cons, List.zipIdx_nil, go_sem]
  unfold DH
  repeat' (first | ((first | refine atF (f := 27) ?_ | refine atQ (f := 27) ?_); (refine callD (by rfl) (dBelow_ok _ _ (by omega)) (by rintro _ ⟨v, _, rfl⟩ _; rfl) (fun r d' hq => ?_); obtain ⟨v, hv, rfl⟩ := hq) <;> simp (maxSteps := 1000000) (dsimp := false) (implicitDefEqProofs := false) (disch := omega) only [wrap64, go_sem, List.getElem?_cons_zero, List.getElem?_cons_succ]) | refine awp_seqK fun K hK => ?_ | (refine awp_regionK 16843261 rfl ?_; simp only [List.map_cons, List.map_nil]; simp (maxSteps := 1000000) (dsimp := false) (implicitDefEqProofs := false) (disch := omega) only [wrap64, go_sem, List.getElem?_cons_zero, List.getElem?_cons_succ]) | (refine awp_regionQK 16843261 (by kernel_rfl) (by kernel_rfl) (by kernel_rfl) ?_; simp only [List.map_cons, List.map_nil]; simp (maxSteps := 1000000) (dsimp := false) (implicitDefEqProofs := false) (disch := omega) only [wrap64, go_sem, List.getElem?_cons_zero, List.getElem?_cons_succ]) | refine awp_block ?_ | (refine awp_skip ?_; simp only [go_sem, List.getElem?_cons_zero, List.getElem?_cons_succ]) | (refine awp_exit ?_; simp only [go_sem, List.getElem?_cons_zero, List.getElem?_cons_succ]) | (refine awp_ret ?_; try simp only [go_sem, List.getElem?_cons_zero, List.getElem?_cons_succ]) | (refine awp_condP rfl ?_; try simp only [go_sem, List.getElem?_cons_zero, List.getElem?_cons_succ]) | (refine BrP.mk (fun h => ?_) (fun h => ?_) <;> try simp (dsimp := false) (disch := omega) only [wrap64]) | (refine Br.mk (fun h => ?_) (fun h => ?_) <;> try simp (dsimp := false) (disch := omega) only [wrap64]) | refine Ob.mk (by first | omega | (intro _ _; rfl) | trivial | (intros; trivial) | assumption | (intro i hi; have h0 : i = 0 := (by omega); subst h0; first | rfl | trivial) | (intro i hi; have h0 : i = 0 ∨ i = 1 := (by omega); rcases h0 with rfl | rfl <;> rfl) | (intro i hi; have h0 : i = 0 ∨ i = 1 ∨ i = 2 := (by omega); rcases h0 with rfl | rfl | rfl <;> rfl)) ?_ | apply_assumption -exfalso -symm)
  all_goals (first | (show endQ _ _ _ _ _ _ _; (repeat (rename (∀ (A : Fr) (H : Hp), AWP _ _ _ _ A H → _) => hK; clear hK)); (repeat (rename (Fr → Hp → Prop) => K; clear K))) | (show Exists _; (repeat (rename (∀ (A : Fr) (H : Hp), AWP _ _ _ _ A H → _) => hK; clear hK)); (repeat (rename (Fr → Hp → Prop) => K; clear K))) | skip)
  obtain ⟨n, hn⟩ : ∃ n : Nat, (n : Int) = 3 + v := ⟨(3 + v).toNat, by omega⟩
  have hn5 : 3 ≤ n ∧ n ≤ 5 := by omega
  rw [← hn]
  refine awp_loop (ι := List (List Int) × Dc) (fun k => [(0, .ref 1000000 0), (2, .ref 2 0), (3, .ref 3 0)]) (fun k => (((Hp.emp.upd 1000000 (.cells 3 (dF .u64 k.2))).upd 2 (.cells 3 (zF [Value.int IntKind.i64 0, Value.string ⟨#[]⟩, Value.slice none 0 0]))).upd 3 (.cells 3 (vecF [.v (.int .i64 ((n : Int))), .v (.string ⟨#[65, 66]⟩), .own 30 0 1 k.1.length]))).upd 30 (.cells k.1.length (cM ints [] k.1))) (fun k => k.1.length ≤ 2 ∧ ∀ g ∈ k.1, Pm n g) (fun k => 2 - k.1.length) ([], d') ⟨by simp, by simp⟩ (Sub.layMp (fun h => if h = 30 then none else some h) (fun h hh => by
    have : h ≠ 30 := fun e => by subst e; exact absurd hh (by decide)
    exact if_neg this) (lay_cons ⟨_, rfl, .ref rfl⟩ (lay_cons ⟨_, rfl, .ref rfl⟩ (lay_cons ⟨_, rfl, .ref rfl⟩ lay_nil))) (layF_nil rfl (layF_upd (g := 3) (n := 3) rfl rfl (fun i hi => ?_) (layF_upd (g := 2) (n := 3) rfl rfl (fun i hi => ?_) (layF_upd (g := 1000000) (n := 3) rfl rfl (fun i hi => ?_) layF_emp)))) ?_) ?_
  · match i, hi with
    | 0, _ => exact .plain trivial
    | 1, _ => exact .plain trivial
    | 2, _ => exact .nil rfl
  · match i, hi with
    | 0, _ => exact .plain trivial
    | 1, _ => exact .plain trivial
    | 2, _ => exact .plain trivial
  · match i, hi with
    | 0, _ => exact .plain trivial
    | 1, _ => exact .plain trivial
    | 2, _ => exact .plain trivial
  · intro x y k hx hy h1 h2
    split at h1
    · cases h1
    · split at h2
      · cases h2
      · simp only [Option.some.injEq] at h1 h2; omega
  rintro ⟨ms, d1⟩ ⟨hk, hms⟩
  dsimp only at hk hms ⊢
  repeat' (first | ((first | refine atF (f := 27) ?_ | refine atQ (f := 27) ?_); (refine callD (by rfl) (dBelow_ok _ _ (by omega)) (by rintro _ ⟨v, _, rfl⟩ _; rfl) (fun r d' hq => ?_); obtain ⟨v, hv, rfl⟩ := hq) <;> simp (maxSteps := 1000000) (dsimp := false) (implicitDefEqProofs := false) (disch := omega) only [wrap64, go_sem]) | refine awp_seqK fun K hK => ?_ | (refine awp_regionK 16843261 rfl ?_; simp only [List.map_cons, List.map_nil]; simp (maxSteps := 1000000) (dsimp := false) (implicitDefEqProofs := false) (disch := omega) only [wrap64, go_sem]) | (refine awp_regionQK 16843261 (by kernel_rfl) (by kernel_rfl) (by kernel_rfl) ?_; simp only [List.map_cons, List.map_nil]; simp (maxSteps := 1000000) (dsimp := false) (implicitDefEqProofs := false) (disch := omega) only [wrap64, go_sem]) | refine awp_block ?_ | (refine awp_skip ?_; simp only [go_sem]) | (refine awp_exit ?_; simp only [go_sem]) | (refine awp_ret ?_; try simp only [go_sem]) | (refine awp_condP rfl ?_; try simp only [go_sem]) | (refine BrP.mk (fun h => ?_) (fun h => ?_) <;> try simp (dsimp := false) (disch := omega) only [wrap64]) | (refine Br.mk (fun h => ?_) (fun h => ?_) <;> try simp (dsimp := false) (disch := omega) only [wrap64]) | refine Ob.mk (by first | omega | (intro _ _; rfl) | trivial | (intros; trivial) | assumption | (intro i hi; have h0 : i = 0 := (by omega); subst h0; first | rfl | trivial) | (intro i hi; have h0 : i = 0 ∨ i = 1 := (by omega); rcases h0 with rfl | rfl <;> rfl) | (intro i hi; have h0 : i = 0 ∨ i = 1 ∨ i = 2 := (by omega); rcases h0 with rfl | rfl | rfl <;> rfl)) ?_ | ((first | ((first | refine atF (f := 45) ?_ | refine atQ (f := 45) ?_); (first | (refine cI (hac := specIdentI_ok (n : Int) (by omega) 20) (hK := ?_)) | (refine cQI (hac := specIdentI_ok (n : Int) (by omega) 20) (hK := ?_))))); simp (maxSteps := 1000000) (dsimp := false) (implicitDefEqProofs := false) (disch := omega) only [wrap64, go_sem]) | apply_assumption -exfalso -symm)
  all_goals (first | (show endQ _ _ _ _ _ _ _; (repeat (rename (∀ (A : Fr) (H : Hp), AWP _ _ _ _ A H → _) => hK; clear hK)); (repeat (rename (Fr → Hp → Prop) => K; clear K))) | (show Exists _; (repeat (rename (∀ (A : Fr) (H : Hp), AWP _ _ _ _ A H → _) => hK; clear hK)); (repeat (rename (Fr → Hp → Prop) => K; clear K))) | skip)
  · obtain ⟨m, hm⟩ : ∃ m : Nat, (m : Int) = 1 + v := ⟨(1 + v).toNat, by omega⟩
    rw [← hm]
    have hid : Pm n (idn n) := Go.Pm.Pm.idn n
    refine awp_loop (ι := Nat × List Int × Dc) (fun k => [(5, .v (.int .i64 ((k.1 : Nat)))), (4, .own 20 0 1 n), (0, .ref 1000000 0), (2, .ref 2 0), (3, .ref 3 0)]) (fun k => ((((Hp.emp.upd 1000000 (.cells 3 (dF .u64 k.2.2))).upd 2 (.cells 3 (zF [Value.int IntKind.i64 0, Value.string ⟨#[]⟩, Value.slice none 0 0]))).upd 3 (.cells 3 (vecF [.v (.int .i64 ((n : Int))), .v (.string ⟨#[65, 66]⟩), .own 30 0 1 ms.length]))).upd 30 (.cells ms.length (cM ints [] ms))).upd 20 (.cells n (cM iv 0 k.2.1))) (fun k => k.1 ≤ 3 ∧ Pm n k.2.1) (fun k => k.1) (m, idn n, d') ⟨by omega, hid⟩ (by
      have e : (idn n).length = n := hid.1
      rw [e]
      exact Sub.toL (by simp only [go_sem] <;> first | trivial | (simp only [Option.some.injEq, AV.v.injEq, AV.own.injEq, AV.list.injEq, Value.int.injEq, Value.bool.injEq, true_and, and_true]; first | omega | (simp; done)) | (simp; done) | (simp; omega)) (by (repeat' (first | exact Hp.le_emp _ | exact Hp.le_refl _ | refine Hp.le_upd ?_ ?_)); all_goals (first | rfl | (simp only [go_sem]; first | rfl | (refine cellsE ?_ ?_ <;> (simp)) | (simp))))) ?_
    rintro ⟨k, g, d2⟩ ⟨hk3, hg⟩
    dsimp only at hk3 hg ⊢
    have hgl := hg.1
    repeat' (first | ((first | refine atF (f := 27) ?_ | refine atQ (f := 27) ?_); (refine callD (by rfl) (dBelow_ok _ _ (by omega)) (by rintro _ ⟨v, _, rfl⟩ _; rfl) (fun r d' hq => ?_); obtain ⟨v, hv, rfl⟩ := hq) <;> simp (maxSteps := 1000000) (dsimp := false) (implicitDefEqProofs := false) (disch := omega) only [wrap64, go_sem]) | refine awp_seqK fun K hK => ?_ | (refine awp_regionK 16843261 rfl ?_; simp only [List.map_cons, List.map_nil]; simp (maxSteps := 1000000) (dsimp := false) (implicitDefEqProofs := false) (disch := omega) only [wrap64, go_sem]) | (refine awp_regionQK 16843261 (by kernel_rfl) (by kernel_rfl) (by kernel_rfl) ?_; simp only [List.map_cons, List.map_nil]; simp (maxSteps := 1000000) (dsimp := false) (implicitDefEqProofs := false) (disch := omega) only [wrap64, go_sem]) | refine awp_block ?_ | (refine awp_skip ?_; simp only [go_sem]) | (refine awp_exit ?_; simp only [go_sem]) | (refine awp_ret ?_; try simp only [go_sem]) | (refine awp_condP rfl ?_; try simp only [go_sem]) | (refine BrP.mk (fun h => ?_) (fun h => ?_) <;> try simp (dsimp := false) (disch := omega) only [wrap64]) | (refine Br.mk (fun h => ?_) (fun h => ?_) <;> try simp (dsimp := false) (disch := omega) only [wrap64]) | refine Ob.mk (by first | omega | (intro _ _; rfl) | trivial | (intros; trivial) | assumption | (intro i hi; have h0 : i = 0 := (by omega); subst h0; first | rfl | trivial) | (intro i hi; have h0 : i = 0 ∨ i = 1 := (by omega); rcases h0 with rfl | rfl <;> rfl) | (intro i hi; have h0 : i = 0 ∨ i = 1 ∨ i = 2 := (by omega); rcases h0 with rfl | rfl | rfl <;> rfl)) ?_ | apply_assumption -exfalso -symm)
    all_goals (first | (show endQ _ _ _ _ _ _ _; (repeat (rename (∀ (A : Fr) (H : Hp), AWP _ _ _ _ A H → _) => hK; clear hK)); (repeat (rename (Fr → Hp → Prop) => K; clear K))) | (show Exists _; (repeat (rename (∀ (A : Fr) (H : Hp), AWP _ _ _ _ A H → _) => hK; clear hK)); (repeat (rename (Fr → Hp → Prop) => K; clear K))) | skip)
    · rename_i v1 hv1
      have hs := pm_swap hg (i := v1.toNat) (j := v.toNat) (by omega) (by omega)
      refine ⟨(k - 1, (g.set v1.toNat (g.getD v.toNat 0)).set v.toNat (g.getD v1.toNat 0), d'), ⟨by omega, hs⟩, by omega, Sub.toLF (by simp only [go_sem] <;> first | trivial | (simp only [Option.some.injEq, AV.v.injEq, AV.own.injEq, AV.list.injEq, Value.int.injEq, Value.bool.injEq, true_and, and_true]; first | omega | (simp; done)) | (simp; done) | (simp; omega)) (leF_upd rfl (bfE rfl (fun i hi => ?_)) (leF_upd rfl (.refl _ _ _) (leF_upd rfl (.refl _ _ _) (leF_upd rfl (.refl _ _ _) (leF_upd rfl (.refl _ _ _) leF_emp id) id) id) id) id)⟩
      rw [setF_iv _ _ _ (by simp; omega)]
    · refine ⟨(ms ++ [g], d2), ⟨by simp; omega, fun x hx => ?_⟩, by simp; omega, ?_⟩
      · rcases List.mem_append.1 hx with h1 | h1
        · exact hms x h1
        · rw [List.mem_singleton.1 h1]; exact hg
      · refine Sub.toFF (fun x => x = 20) (Fr.fit_cons rfl (.refl _) (Fr.fit_cons rfl (.refl _) (Fr.fit_cons rfl (.refl _) (Fr.fit_nil _)))) ?_
        refine leF_upd rfl ⟨by simp, fun i hi => ?_⟩ (leF_upd rfl ⟨rfl, fun i hi => ?_⟩ (leF_upd rfl (.refl _ _ _) (leF_upd rfl (.refl _ _ _) leF_emp (by omega)) (by omega)) (by omega)) (by omega)
        · by_cases hi2 : i < ms.length
          · exact .ofEq (by simp [apF, scF, cM, AV.scrub, List.getD_eq_getElem?_getD, List.getElem?_append, hi2, ints])
          · have hi3 : i = ms.length := by omega
            have e2 : apF ms.length (scF (fun x => x == 30) (cM ints [] ms)) (scF (fun x => x == 30) (setF (zF [Value.slice none 0 0]) 0 (AV.own 20 0 1 n))) i = AV.own 20 0 1 n := by subst hi3; simp [apF, scF, setF, AV.scrub]
            have e3 : cM ints [] (ms ++ [g]) i = ints g := by subst hi3; simp [cM, List.getD_eq_getElem?_getD]
            rw [e2, e3]
            exact fits_I rfl rfl rfl hgl.symm
        · match i, hi with
          | 0, _ => exact .refl _
          | 1, _ => exact .refl _
          | 2, _ => exact .ofEq (by simp [setF, vecF])
  · have hm : ms.length = 2 := by omega
    refine end_postCF (fun x => x = 30) (H' := DH .u64 d1) (g := vecF [.v (.int .i64 ((n : Int))), .v (.string ⟨#[65, 66]⟩), .list false 1 (ms).length (cM ints [] (ms))]) rfl rfl (by simp only [go_sem]; rfl) rfl (fun i hi => ?_) (leF_upd rfl (.refl _ _ _) leF_emp (by omega)) rfl (by omega) ⟨d1, ⟨⟨n, ⟨#[65, 66]⟩, ms⟩, ?_, rfl⟩, rfl⟩
    · match i, hi with
      | 0, _ => exact .refl _
      | 1, _ => exact .refl _
      | 2, _ => exact fits_II rfl rfl rfl rfl
    · have hp : ∀ j, j < ms.length → Pm n (ms.getD j []) := fun j hj => hms _ (Go.Pm.mem_getD hj)
      refine ⟨⟨⟨by show 1 ≤ (n : Int) ∧ (n : Int) ≤ 20; omega, by show ms.length ≤ 8; omega, fun j hj => ⟨by rw [(hp j hj).1], (isPerm_pm _).2 ⟨by rw [(hp j hj).1]; omega, by rw [(hp j hj).1]; exact hp j hj⟩⟩⟩, by show ms.length ≠ 0; omega, ?_, fun i hi => ?_⟩, by show 3 ≤ (n : Int); omega, by show (n : Int) ≤ 5; omega, hm⟩
      · show 2 = ms.length; omega
      · have hi2 : i < 2 := hi
        have e : i = 0 ∨ i = 1 := by omega
        rcases e with rfl | rfl
        · show isName ⟨#[65, 66]⟩ 0
          exact ⟨⟨by decide, by decide⟩, fun k hk => absurd hk (by omega)⟩
        · show isName ⟨#[65, 66]⟩ 1
          refine ⟨⟨by decide, by decide⟩, fun k hk => ?_⟩
          have e : k = 0 := by omega
          subst e; decide
end Go.Proofs.Ytiihgbobdipikaa
end
/- The histogram of a small puzzle: the law in plain form. -/
section
namespace Go.Proofs.Ytiihgbobdipikaa
open Go.Av
set_option linter.unusedSimpArgs false
set_option linter.unusedVariables false
attribute [local irreducible] AWP CallG Ob Br BrP Go.Av.Sub endQ AOps OpV AC thenA blkA opsVC opVC withA withArgs opsQ opQ CallQ withA2 withArgs2
open Go.Pm (Pm comp invp idn img Bf)
theorem smallP.ok {p : Pz} (hp : smallP p) : (XS p).isSome = true ∧ (XA p).st.length ≤ 120 ∧ (XA p).st.length = cntP p := small hp.1 hp.2.2.1
theorem smallP.sz {p : Pz} (hp : smallP p) : p.s.size ≤ 140737488355328 := by
  have h1 := hp.1.2.2.1
  have h2 := hp.2.2.2
  omega
theorem hst_succ (D : List Int) (k : Nat) : (hst D (k + 1)).sum = (hst D k).sum + ((D.count (k : Int) : Nat) : Int) := by
  unfold hst; rw [List.range_succ, List.map_append, List.sum_append]; simp
theorem his_law {p : Pz} (hp : smallP p) : ∃ (D : List Int) (n : Nat), hisP p = hst D n ∧ n ≤ 122 ∧ (∀ k, 0 ≤ (hst D k).sum ∧ (hst D k).sum ≤ 120) ∧ (∀ k, k < n → (((statD p (k : Int)).length : Nat) : Int) = (hst D n).getD k 0 ∧ 1 ≤ (hst D n).getD k 0 ∧ (statD p (k : Int)).length ≤ 120) ∧ (∀ k, k < n → (hst D (k + 1)).sum = (hst D k).sum + (hst D n).getD k 0)
    ∧ (hst D n).sum = ((cntP p : Nat) : Int) ∧ diamP p = (n : Int) - 1 ∧ dstP p (farP p) = (n : Int) - 1 := by
  obtain ⟨h, h120, hc⟩ := hp.ok
  obtain ⟨hz, hw, hx⟩ := XA_whole h
  have hl := hw.ld
  have hpos := hw.pos
  obtain ⟨k1, k2, k3⟩ := his_ok h
  have e : hisP p = hst (XA p).dp (hisP p).length := by
    rw [k1]
    unfold hisP hLen
    rw [if_pos h, if_neg (by omega), hl]
  have hlast := hw.le ((XA p).st.length - 1) (by omega)
  have hb : ∀ k, 0 ≤ (hst (XA p).dp k).sum ∧ (hst (XA p).dp k).sum ≤ 120 := fun k => by
    rw [sum_hst]
    have := List.length_filter_le (inN k) (XA p).dp
    omega
  refine ⟨(XA p).dp, (hisP p).length, e, by omega, hb, fun k hk => ?_, fun k hk => ?_, ?_, ?_, ?_⟩
  · obtain ⟨a1, a2⟩ := k2 k hk
    rw [← e]
    refine ⟨a1.symm, a2, ?_⟩
    have : (statD p (k : Int)).length ≤ (XA p).st.length := by
      unfold statD atD
      rw [if_pos h, List.length_map]
      exact Nat.le_trans (List.length_filter_le _ _) (by simp)
    omega
  · rw [hst_succ, hst_get _ hk]
  · rw [← e, k3, hc]
  · unfold diamP
    rw [if_pos h]; omega
  · have hmono : ∀ i j, i ≤ j → j < (XA p).st.length → (XA p).dp.getD i 0 ≤ (XA p).dp.getD j 0 := fun i j hij hj => hw.mono i j hij hj
    obtain ⟨f1, f2⟩ := far_idx (XA p) hpos hl hmono
    have hm : (XA p).st.getD (farI (XA p)) [] ∈ (XA p).st := Go.Pm.mem_getD f2
    have hf : farP p = (XA p).st.getD (farI (XA p)) [] := by unfold farP; rw [if_pos h]
    have hlt : farI (XA p) < (XA p).dp.length := by omega
    have hge : ¬ (XA p).dp.getD (farI (XA p)) 0 < (XA p).dp.getD ((XA p).st.length - 1) 0 := by
      have := List.findIdx_getElem (p := fun d => decide (¬ d < (XA p).dp.getD ((XA p).st.length - 1) 0)) (xs := (XA p).dp) (w := hlt)
      have h2 := of_decide_eq_true this
      rw [List.getD_eq_getElem?_getD, List.getElem?_eq_getElem hlt]
      exact h2
    have hle := hmono (farI (XA p)) ((XA p).st.length - 1) (by omega) (by omega)
    unfold dstP depD
    rw [hf, if_pos ⟨h, XA_isSt h hm⟩, if_pos hm, hw.idx f2]
    omega
end Go.Proofs.Ytiihgbobdipikaa
end
/- The breadth-first order of a small puzzle: the law in plain form. -/
section
namespace Go.Proofs.Ytiihgbobdipikaa
open Go.Av
set_option linter.unusedSimpArgs false
set_option linter.unusedVariables false
attribute [local irreducible] AWP CallG Ob Br BrP Go.Av.Sub endQ AOps OpV AC thenA blkA opsVC opVC withA withArgs opsQ opQ CallQ withA2 withArgs2
open Go.Pm (Pm comp invp idn img Bf sidx)
theorem XA_reach {p : Pz} (h : (XS p).isSome = true) {s : List Int} (hs : s ∈ (XA p).st) : reachP p s = true := by
  have hz := (XA_whole h).1
  rw [reachP_yes (XA_isSt h hs)]
  unfold gB
  exact @decide_eq_true _ (Classical.propDecidable _) ((lsP_gen hz s).1 ((XA_mem h s).1 hs))
theorem XA_sv {p : Pz} (h : (XS p).isSome = true) : isSv p ((XA p).st.getD 0 []) := by
  obtain ⟨hz, hw, hx⟩ := XA_whole h
  refine ⟨XA_isSt h (Go.Pm.mem_getD hw.pos), ?_⟩
  rw [hw.st0, Go.Pm.idn_length, idn_marks]
theorem idxS_at {p : Pz} (h : (XS p).isSome = true) {s : List Int} (hs : s ∈ (XA p).st) : idxS p s = ((XA p).st.idxOf s : Int) := by
  unfold idxS
  rw [if_pos ⟨h, XA_isSt h hs⟩]
  unfold Go.Pm.sidx
  rw [if_pos hs]
theorem bf_law {p : Pz} (hp : smallP p) : ∃ (S : List (List Int)) (D : List Int), reaS p = S ∧ reaD p = D ∧ (XS p).isSome = true ∧ ((S.length : Nat) : Int) = ((cntP p : Nat) : Int) ∧ D.length = S.length ∧ 0 < S.length ∧ S.length ≤ 120 ∧ isSv p (S.getD 0 [])
    ∧ (∀ k, 0 < k → k < S.length → D.getD (k - 1) 0 ≤ D.getD k 0 ∧ D.getD k 0 ≤ D.getD (k - 1) 0 + 1 ∧ reachP p (S.getD k []) = true)
    ∧ (∀ j, 0 ≤ D.getD j 0 ∧ D.getD j 0 ≤ 120)
    ∧ (∀ k, k < S.length → idxS p (S.getD k []) = (k : Int) ∧ (nbrsP p (S.getD k [])).length = (letsP p).length ∧ ∀ i, i < (nbrsP p (S.getD k [])).length → ∃ j : Nat, j < S.length ∧ idxS p ((nbrsP p (S.getD k [])).getD i []) = (j : Int) ∧ D.getD k 0 - 1 ≤ D.getD j 0 ∧ D.getD j 0 ≤ D.getD k 0 + 1) := by
  obtain ⟨h, h120, hc⟩ := hp.ok
  obtain ⟨hz, hw, hx⟩ := XA_whole h
  have hl := hw.ld
  refine ⟨(XA p).st, (XA p).dp, if_pos h, if_pos h, h, by omega, hl, hw.pos, h120, XA_sv h, fun k k0 hk => ?_, fun j => ?_, fun k hk => ?_⟩
  · obtain ⟨a1, a2⟩ := dp_next hw k0 hk
    exact ⟨a1, a2, XA_reach h (Go.Pm.mem_getD hk)⟩
  · by_cases hj : j < (XA p).st.length
    · have := hw.le j hj
      omega
    · rw [Go.Pm.getD_far (by omega)]; omega
  · have hm := Go.Pm.mem_getD hk
    have hs := XA_isSt h hm
    have e1 : nbrsP p ((XA p).st.getD k []) = nbrs p ((XA p).st.getD k []) := if_pos hs
    have e2 : letsP p = lets p.m.length := if_pos hz
    have hnl := nbrs_length p ((XA p).st.getD k [])
    refine ⟨by rw [idxS_at h hm, hw.idx hk], by rw [e1, e2, nbrs_length, lets_length], fun i hi => ?_⟩
    rw [e1] at hi ⊢
    rw [hnl] at hi
    have hlm := lsP_length p
    have hli : (lsP p).getD i (0, []) ∈ lsP p := Go.Pm.mem_getD_of_lt _ (by omega)
    have hin := hw.cl _ hm _ hli
    have hup := hw.up k hk _ hli
    have hlo := hw.low (lsP_pm hz) (lsP_inv hz) hk hli
    rw [lsP_get p i hi] at hin hup hlo
    dsimp only at hin hup hlo
    rw [nbrs_get p _ i hi, idxS_at h hin]
    exact ⟨_, List.idxOf_lt_length_iff.2 hin, rfl, by omega, hup⟩
end Go.Proofs.Ytiihgbobdipikaa
end

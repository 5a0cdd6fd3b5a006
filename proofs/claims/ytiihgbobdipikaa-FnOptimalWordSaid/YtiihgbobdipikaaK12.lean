import Derived.Test.YtiihgbobdipikaaK7
import Derived.Test.YtiihgbobdipikaaK8
import Derived.Test.YtiihgbobdipikaaK11
import Derived.Test.YtiihgbobdipikaaK3
import Derived.KernelRfl
import Derived.Test.YtiihgbobdipikaaK5
import Derived.Test.YtiihgbobdipikaaK4
import Derived.Test.YtiihgbobdipikaaK10
/- Small puzzles: their searches are whole. -/
section
namespace Go.Proofs.Ytiihgbobdipikaa
open Go.Av
set_option linter.unusedSimpArgs false
set_option linter.unusedVariables false
attribute [local irreducible] AWP CallG Ob Br BrP Go.Av.Sub endQ AOps OpV AC thenA blkA opsVC opVC withA withArgs opsQ opQ CallQ withA2 withArgs2
open Go.Pm (Pm comp invp idn img Gen Bf srch sorts srtN Srt slot sidx insAt)
/-- The rows of n numbers below n, no two alike. -/
def dRows (n : Nat) : List (List Int) := (Go.Pm.rowsOf n n).filter fun r => decide r.Nodup
theorem dRows_len : ∀ n, n ≤ 5 → (dRows n).length ≤ 120 := by
  intro n hn
  match n, hn with
  | 0, _ => exact of_decide_eq_true (by kernel_rfl)
  | 1, _ => exact of_decide_eq_true (by kernel_rfl)
  | 2, _ => exact of_decide_eq_true (by kernel_rfl)
  | 3, _ => exact of_decide_eq_true (by kernel_rfl)
  | 4, _ => exact of_decide_eq_true (by kernel_rfl)
  | 5, _ => exact of_decide_eq_true (by kernel_rfl)
theorem pm_nodup {n : Nat} {g : List Int} (hg : Pm n g) : g.Nodup := by
  refine List.nodup_iff_pairwise_ne.2 (List.pairwise_iff_getElem.2 fun i j hi hj hij e => ?_)
  have h1 : g.getD i 0 = g.getD j 0 := by
    rw [List.getD_eq_getElem?_getD, List.getD_eq_getElem?_getD, List.getElem?_eq_getElem hi, List.getElem?_eq_getElem hj, Option.getD_some, Option.getD_some]; exact e
  have := hg.2.2 i j (by rw [← hg.1]; exact hi) (by rw [← hg.1]; exact hj) h1
  omega
theorem small {p : Pz} (hz : isPz p) (hn : p.n ≤ 5) : (XS p).isSome = true ∧ (XA p).st.length ≤ 120 ∧ (XA p).st.length = cntP p := by
  have hG := lsP_pm hz
  obtain ⟨L, nd, hl, hL⟩ := cnt_list hz
  have hle : L.length ≤ 120 := by
    refine Nat.le_trans (Go.Plain.nodup_le (dRows p.n.toNat) L nd fun x hx => ?_) (dRows_len p.n.toNat (by omega))
    have hp := ((hL x).1 hx).pm hG
    exact List.mem_filter.2 ⟨Go.Pm.pm_rows hp, decide_eq_true (pm_nodup hp)⟩
  obtain ⟨B, hB, hb⟩ := (Go.Pm.srch_group hG nd hL).1 (by omega)
  have e : XS p = some B := by rw [XS_yes hz]; exact hB
  refine ⟨by rw [e]; rfl, ?_⟩
  rw [XA_some e]; omega
end Go.Proofs.Ytiihgbobdipikaa
end
/- Distances and words between states: plain laws of what the program answers. -/
section
namespace Go.Proofs.Ytiihgbobdipikaa
open Go.Av
set_option linter.unusedSimpArgs false
set_option linter.unusedVariables false
attribute [local irreducible] AWP CallG Ob Br BrP Go.Av.Sub endQ AOps OpV AC thenA blkA opsVC opVC withA withArgs opsQ opQ CallQ withA2 withArgs2
open Go.Pm (Pm comp invp idn img Gen Bf srch sorts srtN Srt slot sidx insAt act)
theorem act_ev (g : List (List Int)) : ∀ (w : List Int) (s : List Int), act s (w.map fun l => (l, letP g l)) = w.foldl (fun s l => comp s (letP g l)) s
  | [], _ => rfl
  | l :: w, s => act_ev g w (comp s (letP g l))
/-- The word of a row leads to the first row. -/
theorem wd_ls {p : Pz} {B : Bf} (hw : Bf.Whole p.n.toNat (lsP p) (idn p.n.toNat) B) (hz : isPz p) {k : Nat} (hk : k < B.st.length) : (List.range (B.dp.getD k 0).toNat).map (fun u => (lsP p).getD (B.fst (lsP p).length (B.itr (lsP p).length k u)) (0, [])) = (wdB p B k).map fun l => (l, letP p.m l) := by
  unfold wdB Bf.wrd
  rw [List.map_map]
  refine List.map_congr_left fun u hu => ?_
  have hu := List.mem_range.1 hu
  obtain ⟨h1, h2⟩ := hw.itr (lsP_pm hz) (lsP_inv hz) hk u (by omega)
  obtain ⟨f1, _⟩ := hw.fst (lsP_pm hz) (lsP_inv hz) h1 (by omega)
  have hl := lsP_length p
  exact lsP_get p _ (by omega)
theorem wd_isL {p : Pz} {B : Bf} (hw : Bf.Whole p.n.toNat (lsP p) (idn p.n.toNat) B) (hz : isPz p) {k : Nat} (hk : k < B.st.length) : ∀ l ∈ wdB p B k, inL p.m l := by
  intro l hl
  unfold wdB Bf.wrd at hl
  obtain ⟨u, hu, rfl⟩ := List.mem_map.1 hl
  have hu := List.mem_range.1 hu
  obtain ⟨h1, h2⟩ := hw.itr (lsP_pm hz) (lsP_inv hz) hk u (by omega)
  obtain ⟨f1, _⟩ := hw.fst (lsP_pm hz) (lsP_inv hz) h1 (by omega)
  have h3 := lsP_length p
  have h4 := lets_length p.m.length
  exact lets_inL p.m _ (by omega)
theorem wd_solves {p : Pz} {B : Bf} (hw : Bf.Whole p.n.toNat (lsP p) (idn p.n.toNat) B) (hz : isPz p) {x : List Int} (hx : x ∈ B.st) (hp : Pm p.n.toNat x) : comp x (evalP p.n.toNat p.m (wdB p B (B.st.idxOf x))) = idn p.n.toNat := by
  have hk := List.idxOf_lt_length_iff.2 hx
  have h1 := hw.solved (lsP_pm hz) (lsP_inv hz) hk
  rw [wd_ls hw hz hk, Go.Pm.getD_idx hx] at h1
  have hL : ∀ l ∈ (wdB p B (B.st.idxOf x)).map (fun l => (l, letP p.m l)), l ∈ lsP p := by
    rw [← wd_ls hw hz hk]
    intro l hl
    obtain ⟨u, hu, rfl⟩ := List.mem_map.1 hl
    have hu := List.mem_range.1 hu
    obtain ⟨h1, h2⟩ := hw.itr (lsP_pm hz) (lsP_inv hz) hk u (by omega)
    obtain ⟨f1, _⟩ := hw.fst (lsP_pm hz) (lsP_inv hz) h1 (by omega)
    exact Go.Pm.mem_getD_of_lt (0, []) f1
  rw [Go.Pm.act_comp (lsP_pm hz) _ x hp hL, act_ev] at h1
  exact h1
theorem dstP_dst {p : Pz} {x : List Int} (h : (XS p).isSome = true) (hs : isSt p x) (hx : x ∈ (XA p).st) : dstP p x = (XA p).dst x := by
  unfold dstP depD
  rw [if_pos ⟨h, hs⟩, if_pos hx]; rfl
section
variable {p : Pz} (h : (XS p).isSome = true) (hsm : (XA p).st.length ≤ 120)
include h
theorem okB_of {a b : List Int} (ha : a ∈ (XA p).st) (hb : b ∈ (XA p).st) : okB p a b := ⟨h, XA_isSt h ha, XA_isSt h hb, ha, hb⟩
theorem dbt_dst {a b : List Int} (ha : a ∈ (XA p).st) (hb : b ∈ (XA p).st) : dbtP p a b = (XA p).dst (comp (invp b) a) := by
  have hok := okB_of h ha hb
  unfold dbtP
  rw [if_pos hok]
  exact dstP_dst h (btw_st hok) (XA_btw h ha hb)
theorem dbt_sym {a b : List Int} (ha : a ∈ (XA p).st) (hb : b ∈ (XA p).st) : dbtP p b a = dbtP p a b := by
  obtain ⟨hz, hw, _⟩ := XA_whole h
  rw [dbt_dst h ha hb, dbt_dst h hb ha]
  exact hw.dst_sym (lsP_pm hz) (lsP_inv hz) (XA_isSt h ha).pm (XA_isSt h hb).pm (XA_btw h ha hb)
theorem dbt_tri {a b c : List Int} (ha : a ∈ (XA p).st) (hb : b ∈ (XA p).st) (hc : c ∈ (XA p).st) : dbtP p a c ≤ dbtP p a b + dbtP p b c := by
  obtain ⟨hz, hw, _⟩ := XA_whole h
  rw [dbt_dst h ha hb, dbt_dst h ha hc, dbt_dst h hb hc]
  exact hw.dst_tri (lsP_pm hz) (XA_isSt h ha).pm (XA_isSt h hb).pm (XA_isSt h hc).pm (XA_btw h ha hb) (XA_btw h hb hc)
include hsm
theorem dst_small {x : List Int} (hx : x ∈ (XA p).st) : 0 ≤ (XA p).dst x ∧ (XA p).dst x ≤ 120 := by
  obtain ⟨hz, hw, _⟩ := XA_whole h
  have hk := List.idxOf_lt_length_iff.2 hx
  have := hw.le _ hk
  unfold Bf.dst
  omega
theorem wb_ok {a b : List Int} (ha : a ∈ (XA p).st) (hb : b ∈ (XA p).st) : (wbP p a b).2 = true ∧ ((wbP p a b).1.length : Int) = dbtP p a b ∧ isW p.m.length (wbP p a b).1 ∧ appW p a (wbP p a b).1 = (b, true) := by
  obtain ⟨hz, hw, _⟩ := XA_whole h
  have hok := okB_of h ha hb
  have hx := XA_btw h ha hb
  have hsx := btw_st hok
  have hk := List.idxOf_lt_length_iff.2 hx
  have hd := dst_small h hsm hx
  have e0 := dstP_dst h hsx hx
  have e : wbP p a b = (wdB p (XA p) ((XA p).st.idxOf (comp (invp b) a)), true) := by
    unfold wbP
    rw [if_pos hok]
    unfold owP
    rw [if_pos ⟨by omega, by omega⟩]
  have hl : (wdB p (XA p) ((XA p).st.idxOf (comp (invp b) a))).length = ((XA p).dst (comp (invp b) a)).toNat := Bf.wrd_length _ _ _ _ _
  have hW : isW p.m.length (wdB p (XA p) ((XA p).st.idxOf (comp (invp b) a))) := by
    refine ⟨by omega, fun j hj => ?_⟩
    have h1 : (wdB p (XA p) ((XA p).st.idxOf (comp (invp b) a))).getD j 0 ∈ wdB p (XA p) ((XA p).st.idxOf (comp (invp b) a)) := by
      rw [List.getD_eq_getElem?_getD, List.getElem?_eq_getElem hj]; exact List.getElem_mem hj
    have h2 := wd_isL hw hz hk _ h1
    unfold inL at h2
    unfold isL
    have hm := hz.1.2.1
    omega
  rw [e]
  refine ⟨rfl, ?_, hW, ?_⟩
  · rw [dbt_dst h ha hb]
    show ((wdB p (XA p) _).length : Int) = _
    rw [hl]; omega
  · have hs := wd_solves hw hz hx hsx.pm
    have pa := (XA_isSt h ha).pm
    have pb := (XA_isSt h hb).pm
    have pe := evalP_all hz.gens (wordP.of hW)
    unfold appW
    rw [if_pos ⟨XA_isSt h ha, hW⟩]
    congr 1
    unfold appP
    generalize evalP p.n.toNat p.m (wdB p (XA p) ((XA p).st.idxOf (comp (invp b) a))) = E at hs pe
    have bd : ∀ {q : List Int}, Pm p.n.toNat q → ∀ j, j < q.length → img q j < p.n.toNat := fun hq j hj => by
      have := hq.2.1 j (by rw [← hq.1]; exact hj); unfold img; omega
    rw [Go.Pm.comp_assoc (n := p.n.toNat) (bd pb.inv) pa] at hs
    have h3 := congrArg (comp b) hs
    rw [← Go.Pm.comp_assoc (n := p.n.toNat) (bd pb) pb.inv, pb.comp_inv, (pa.comp pe).idn_comp, pb.comp_idn] at h3
    exact h3
end
end Go.Proofs.Ytiihgbobdipikaa
end
/- The breadth-first order and the histogram of depths: plain laws. -/
section
namespace Go.Proofs.Ytiihgbobdipikaa
open Go.Av
set_option linter.unusedSimpArgs false
set_option linter.unusedVariables false
attribute [local irreducible] AWP CallG Ob Br BrP Go.Av.Sub endQ AOps OpV AC thenA blkA opsVC opVC withA withArgs opsQ opQ CallQ withA2 withArgs2
open Go.Pm (Pm comp invp idn img Gen Bf srch sorts srtN Srt slot sidx insAt)
section
variable {Ls : List (Int × List Int)} {n : Nat} {B : Bf}
end
section
variable {p : Pz} (h : (XS p).isSome = true)
include h
end
end Go.Proofs.Ytiihgbobdipikaa
end
/- The laws' dice: how they lie in memory, and what a throw answers. -/
section
namespace Go.Proofs.Ytiihgbobdipikaa
open Go.Av
set_option linter.unusedSimpArgs false
set_option linter.unusedVariables false
attribute [local irreducible] AWP CallG Ob Br BrP Go.Av.Sub endQ AOps OpV AC thenA blkA opsVC opVC withA withArgs opsQ opQ CallQ withA2 withArgs2
/-- The bits that are kept of a number. -/
def andB (m : Int) : Int := IntKind.u64.wrap ((BitVec.ofInt IntKind.u64.bits m &&& BitVec.ofInt IntKind.u64.bits 16777215).toNat : Int)
theorem wrapU {x : Int} (h : 0 ≤ x ∧ x ≤ 18446744073709551615) : IntKind.u64.wrap x = x := by
  unfold IntKind.wrap
  rw [show (2 : Int) ^ IntKind.u64.bits = 18446744073709551616 from rfl, show IntKind.u64.signed = false from rfl]
  simp only [Bool.false_and, Bool.false_eq_true, if_false]
  omega
theorem andB_ok (m : Int) : 0 ≤ andB m ∧ andB m ≤ 16777215 := by
  have h : (BitVec.ofInt IntKind.u64.bits m &&& BitVec.ofInt IntKind.u64.bits 16777215).toNat ≤ 16777215 := by
    rw [BitVec.toNat_and]
    exact Nat.le_trans Nat.and_le_right (by decide)
  unfold andB
  rw [wrapU (by omega)]
  omega
theorem andW (m : Int) : IntKind.i64.wrap (IntKind.u64.wrap ((BitVec.ofInt IntKind.u64.bits m &&& BitVec.ofInt IntKind.u64.bits 16777215).toNat : Int)) = andB m := by
  have := andB_ok m
  exact wrap64 (x := andB m) (by omega)
theorem tmod_in {x n : Int} (hx : 0 ≤ x) (hn : 0 < n) : 0 ≤ x.tmod n ∧ x.tmod n < n := ⟨Int.tmod_nonneg n hx, Int.tmod_lt_of_pos x hn⟩
theorem c3 {f g : Nat → AV} (h0 : f 0 = g 0) (h1 : f 1 = g 1) (h2 : f 2 = g 2) : ∀ i, i < 3 → f i = g i := fun i hi => by
  match i, hi with
  | 0, _ => exact h0
  | 1, _ => exact h1
  | 2, _ => exact h2
theorem dBelow_ok (d : Dc) (n : Int) (hn0 : 0 < n ∧ n ≤ 9223372036854775807) : AC Try.prog 27 [.ref 1000000 0, .v (.int .i64 (n))] (DH .u64 d) pM (postD .u64 fun r => ∃ v : Int, (0 ≤ v ∧ v < n) ∧ r = .v (.int .i64 (v))) := by
  have hb := d.hx d.i
  have e1 : IntKind.i64.wrap (d.xs.getD d.i 0) = d.xs.getD d.i 0 := wrap64 (by omega)
  refine ac_of_awp (N := ⟨_, pM, fun h hh => pM_low (Nat.lt_of_lt_of_le hh (by decide))⟩) Try.func27 rfl (by kernel_rfl) Try.ntmps27 (by simp) ?_
  simp only [argsFr, List.zipIdx_cons, List.zipIdx_nil, go_sem]
  unfold DH dF
  repeat' (first | refine awp_seqK fun K hK => ?_ | (refine awp_regionK 2147483699 rfl ?_; simp only [List.map_cons, List.map_nil]; simp (maxSteps := 1000000) (dsimp := false) (implicitDefEqProofs := false) (disch := omega) only [wrap64, go_sem, andW, e1]) | (refine awp_regionQK 2147483699 (by kernel_rfl) (by kernel_rfl) (by kernel_rfl) ?_; simp only [List.map_cons, List.map_nil]; simp (maxSteps := 1000000) (dsimp := false) (implicitDefEqProofs := false) (disch := omega) only [wrap64, go_sem, andW, e1]) | refine awp_block ?_ | (refine awp_skip ?_; simp only [go_sem, andW, e1]) | (refine awp_exit ?_; simp only [go_sem, andW, e1]) | (refine awp_ret ?_; try simp only [go_sem, andW, e1]) | (refine awp_condP rfl ?_; try simp only [go_sem, andW, e1]) | (refine BrP.mk (fun h => ?_) (fun h => ?_) <;> try simp (dsimp := false) (disch := omega) only [wrap64]) | (refine Br.mk (fun h => ?_) (fun h => ?_) <;> try simp (dsimp := false) (disch := omega) only [wrap64]) | refine Ob.mk (by first | omega | (intro _ _; rfl) | trivial | (intros; trivial) | assumption | (intro i hi; have h0 : i = 0 := (by omega); subst h0; first | rfl | trivial) | (intro i hi; have h0 : i = 0 ∨ i = 1 := (by omega); rcases h0 with rfl | rfl <;> rfl) | (intro i hi; have h0 : i = 0 ∨ i = 1 ∨ i = 2 := (by omega); rcases h0 with rfl | rfl | rfl <;> rfl)) ?_ | apply_assumption -exfalso -symm)
  all_goals (first | (show endQ _ _ _ _ _ _ _; (repeat (rename (∀ (A : Fr) (H : Hp), AWP _ _ _ _ A H → _) => hK; clear hK)); (repeat (rename (Fr → Hp → Prop) => K; clear K))) | (show Exists _; (repeat (rename (∀ (A : Fr) (H : Hp), AWP _ _ _ _ A H → _) => hK; clear hK)); (repeat (rename (Fr → Hp → Prop) => K; clear K))) | skip)
  · have hx := andB_ok ((IntKind.u64.wrap (IntKind.u64.wrap (d.h * 6364136223846793005) + 1442695040888963407)).fdiv (2 ^ min (Int.toNat 33) 64))
    have hl := d.hl
    rw [wrap64 (x := andB _ + _) (by omega)]
    refine end_postS (H' := DH .u64 ⟨d.xs, d.i + 1, IntKind.u64.wrap (IntKind.u64.wrap (d.h * 6364136223846793005) + 1442695040888963407), by omega, d.hx, d.hl⟩) rfl (Sub.toLF (by simp only [go_sem] <;> first | trivial | (simp only [Option.some.injEq, AV.v.injEq, AV.own.injEq, AV.list.injEq, Value.int.injEq, Value.bool.injEq, true_and, and_true]; first | omega | (simp; done)) | (simp; done) | (simp; omega)) (leF_upd rfl (bfE rfl (c3 rfl ?_ rfl)) leF_emp id)) ⟨_, ⟨_, tmod_in (by omega) hn0.1, rfl⟩, rfl⟩
    show AV.v _ = AV.v _
    rw [wrap64 (by omega)]
    rfl
  · have hx := andB_ok ((IntKind.u64.wrap (IntKind.u64.wrap (d.h * 6364136223846793005) + 1442695040888963407)).fdiv (2 ^ min (Int.toNat 33) 64))
    refine end_postS (H' := DH .u64 ⟨d.xs, d.i, IntKind.u64.wrap (IntKind.u64.wrap (d.h * 6364136223846793005) + 1442695040888963407), d.hi, d.hx, d.hl⟩) rfl (Sub.toLF (by simp only [go_sem] <;> first | trivial | (simp only [Option.some.injEq, AV.v.injEq, AV.own.injEq, AV.list.injEq, Value.int.injEq, Value.bool.injEq, true_and, and_true]; first | omega | (simp; done)) | (simp; done) | (simp; omega)) (leF_upd rfl (bfE rfl (c3 rfl rfl rfl)) leF_emp id)) ⟨_, ⟨_, tmod_in (by omega) hn0.1, rfl⟩, rfl⟩
end Go.Proofs.Ytiihgbobdipikaa
end
/- The laws' dice: how they are made; words of dice; whether codes are big, rows alike. -/
section
namespace Go.Proofs.Ytiihgbobdipikaa
open Go.Av
set_option linter.unusedSimpArgs false
set_option linter.unusedVariables false
attribute [local irreducible] AWP CallG Ob Br BrP Go.Av.Sub endQ AOps OpV AC thenA blkA opsVC opVC withA withArgs opsQ opQ CallQ withA2 withArgs2
open Go.Pm (Pm comp invp idn img)
theorem big_ok (xs : List Int) : AC Try.prog 8 [bts xs] Hp.emp (fun _ => false) (retV (.v (.bool (decide (4096 < xs.length))))) := by
  refine ac_of_awp (N := ⟨_, fun _ => false, fun _ _ => rfl⟩) Try.func8 rfl (by kernel_rfl) Try.ntmps8 (by simp) ?_
  simp only [argsFr, List.zipIdx_cons, List.zipIdx_nil, go_sem]
  unfold bts
  repeat' (first | refine awp_seqK fun K hK => ?_ | (refine awp_regionK 5 rfl ?_; simp only [List.map_cons, List.map_nil]; simp (maxSteps := 1000000) (dsimp := false) (implicitDefEqProofs := false) (disch := omega) only [wrap64, go_sem]) | (refine awp_regionQK 5 (by kernel_rfl) (by kernel_rfl) (by kernel_rfl) ?_; simp only [List.map_cons, List.map_nil]; simp (maxSteps := 1000000) (dsimp := false) (implicitDefEqProofs := false) (disch := omega) only [wrap64, go_sem]) | refine awp_block ?_ | (refine awp_skip ?_; simp only [go_sem]) | (refine awp_exit ?_; simp only [go_sem]) | (refine awp_ret ?_; try simp only [go_sem]) | (refine awp_condP rfl ?_; try simp only [go_sem]) | (refine BrP.mk (fun h => ?_) (fun h => ?_) <;> try simp (dsimp := false) (disch := omega) only [wrap64]) | (refine Br.mk (fun h => ?_) (fun h => ?_) <;> try simp (dsimp := false) (disch := omega) only [wrap64]) | refine Ob.mk (by first | omega | (intro _ _; rfl) | trivial | (intros; trivial) | assumption | (intro i hi; have h0 : i = 0 := (by omega); subst h0; first | rfl | trivial) | (intro i hi; have h0 : i = 0 ∨ i = 1 := (by omega); rcases h0 with rfl | rfl <;> rfl) | (intro i hi; have h0 : i = 0 ∨ i = 1 ∨ i = 2 := (by omega); rcases h0 with rfl | rfl | rfl <;> rfl)) ?_ | apply_assumption -exfalso -symm)
  all_goals (first | (show endQ _ _ _ _ _ _ _; (repeat (rename (∀ (A : Fr) (H : Hp), AWP _ _ _ _ A H → _) => hK; clear hK)); (repeat (rename (Fr → Hp → Prop) => K; clear K))) | (show Exists _; (repeat (rename (∀ (A : Fr) (H : Hp), AWP _ _ _ _ A H → _) => hK; clear hK)); (repeat (rename (Fr → Hp → Prop) => K; clear K))) | skip)
  exact end_retB rfl rfl (by simp; omega)
theorem likeInts_ok (xs ys : List Int) (hlen : xs.length ≤ 9223372036854775807) : AC Try.prog 15 [ints xs, ints ys] Hp.emp (fun _ => false) (retV (.v (.bool (decide (xs = ys))))) := by
  refine ac_of_awp (N := ⟨_, fun _ => false, fun _ _ => rfl⟩) Try.func15 rfl (by kernel_rfl) Try.ntmps15 (by simp) ?_
  simp only [argsFr, List.zipIdx_cons, List.zipIdx_nil, go_sem]
  repeat' (first | refine awp_seqK fun K hK => ?_ | (refine awp_regionK 33571891 rfl ?_; simp only [List.map_cons, List.map_nil]; simp (maxSteps := 1000000) (dsimp := false) (implicitDefEqProofs := false) (disch := omega) only [wrap64, go_sem]) | (refine awp_regionQK 33571891 (by kernel_rfl) (by kernel_rfl) (by kernel_rfl) ?_; simp only [List.map_cons, List.map_nil]; simp (maxSteps := 1000000) (dsimp := false) (implicitDefEqProofs := false) (disch := omega) only [wrap64, go_sem]) | refine awp_block ?_ | (refine awp_skip ?_; simp only [go_sem]) | (refine awp_exit ?_; simp only [go_sem]) | (refine awp_ret ?_; try simp only [go_sem]) | (refine awp_condP rfl ?_; try simp only [go_sem]) | (refine BrP.mk (fun h => ?_) (fun h => ?_) <;> try simp (dsimp := false) (disch := omega) only [wrap64]) | (refine Br.mk (fun h => ?_) (fun h => ?_) <;> try simp (dsimp := false) (disch := omega) only [wrap64]) | refine Ob.mk (by first | omega | (intro _ _; rfl) | trivial | (intros; trivial) | assumption | (intro i hi; have h0 : i = 0 := (by omega); subst h0; first | rfl | trivial) | (intro i hi; have h0 : i = 0 ∨ i = 1 := (by omega); rcases h0 with rfl | rfl <;> rfl) | (intro i hi; have h0 : i = 0 ∨ i = 1 ∨ i = 2 := (by omega); rcases h0 with rfl | rfl | rfl <;> rfl)) ?_ | apply_assumption -exfalso -symm)
  all_goals (first | (show endQ _ _ _ _ _ _ _; (repeat (rename (∀ (A : Fr) (H : Hp), AWP _ _ _ _ A H → _) => hK; clear hK)); (repeat (rename (Fr → Hp → Prop) => K; clear K))) | (show Exists _; (repeat (rename (∀ (A : Fr) (H : Hp), AWP _ _ _ _ A H → _) => hK; clear hK)); (repeat (rename (Fr → Hp → Prop) => K; clear K))) | skip)
  · have hl : xs.length = ys.length := by omega
    refine awp_loop (ι := Nat) (fun k => [(5, .v (.int .i64 (k))), (0, .list false 1 (xs).length (cM iv 0 (xs))), (1, .list false 1 (ys).length (cM iv 0 (ys)))]) (fun k => Hp.emp) (fun k => k ≤ xs.length ∧ ∀ j, j < k → xs.getD j 0 = ys.getD j 0) (fun k => xs.length - k) 0 ?_ (Sub.toL (by simp only [go_sem] <;> first | trivial | (simp only [Option.some.injEq, AV.v.injEq, AV.own.injEq, AV.list.injEq, Value.int.injEq, Value.bool.injEq, true_and, and_true]; first | omega | (simp; done)) | (simp; done) | (simp; omega)) (by (repeat' (first | exact Hp.le_emp _ | exact Hp.le_refl _ | refine Hp.le_upd ?_ ?_)); all_goals (first | rfl | (simp only [go_sem]; first | rfl | (refine cellsE ?_ ?_ <;> (simp)) | (simp))))) ?_
    · exact ⟨Nat.zero_le _, fun j h => absurd h (Nat.not_lt_zero _)⟩
    intro k hk
    repeat' (first | refine awp_seqK fun K hK => ?_ | (refine awp_regionK 33571891 rfl ?_; simp only [List.map_cons, List.map_nil]; simp (maxSteps := 1000000) (dsimp := false) (implicitDefEqProofs := false) (disch := omega) only [wrap64, go_sem]) | (refine awp_regionQK 33571891 (by kernel_rfl) (by kernel_rfl) (by kernel_rfl) ?_; simp only [List.map_cons, List.map_nil]; simp (maxSteps := 1000000) (dsimp := false) (implicitDefEqProofs := false) (disch := omega) only [wrap64, go_sem]) | refine awp_block ?_ | (refine awp_skip ?_; simp only [go_sem]) | (refine awp_exit ?_; simp only [go_sem]) | (refine awp_ret ?_; try simp only [go_sem]) | (refine awp_condP rfl ?_; try simp only [go_sem]) | (refine BrP.mk (fun h => ?_) (fun h => ?_) <;> try simp (dsimp := false) (disch := omega) only [wrap64]) | (refine Br.mk (fun h => ?_) (fun h => ?_) <;> try simp (dsimp := false) (disch := omega) only [wrap64]) | refine Ob.mk (by first | omega | (intro _ _; rfl) | trivial | (intros; trivial) | assumption | (intro i hi; have h0 : i = 0 := (by omega); subst h0; first | rfl | trivial) | (intro i hi; have h0 : i = 0 ∨ i = 1 := (by omega); rcases h0 with rfl | rfl <;> rfl) | (intro i hi; have h0 : i = 0 ∨ i = 1 ∨ i = 2 := (by omega); rcases h0 with rfl | rfl | rfl <;> rfl)) ?_ | apply_assumption -exfalso -symm)
    all_goals (first | (show endQ _ _ _ _ _ _ _; (repeat (rename (∀ (A : Fr) (H : Hp), AWP _ _ _ _ A H → _) => hK; clear hK)); (repeat (rename (Fr → Hp → Prop) => K; clear K))) | (show Exists _; (repeat (rename (∀ (A : Fr) (H : Hp), AWP _ _ _ _ A H → _) => hK; clear hK)); (repeat (rename (Fr → Hp → Prop) => K; clear K))) | skip)
    · refine ⟨k + 1, ?_, ?_, Sub.toL (by simp only [go_sem] <;> first | trivial | (simp only [Option.some.injEq, AV.v.injEq, AV.own.injEq, AV.list.injEq, Value.int.injEq, Value.bool.injEq, true_and, and_true]; first | omega | (simp; done)) | (simp; done) | (simp; omega)) (by (repeat' (first | exact Hp.le_emp _ | exact Hp.le_refl _ | refine Hp.le_upd ?_ ?_)); all_goals (first | rfl | (simp only [go_sem]; first | rfl | (refine cellsE ?_ ?_ <;> (simp)) | (simp))))⟩
      · refine ⟨by omega, fun j hj => ?_⟩
        by_cases e : j = k
        · subst e; assumption
        · exact hk.2 j (by omega)
      · omega
    · refine end_retB rfl rfl ?_
      simp only [Bool.false_eq_true, false_iff]
      rintro rfl
      exact absurd rfl ‹¬_›
    · refine end_retB rfl rfl ?_
      simp only [true_iff]
      exact eq_of_getD hl fun j hj => hk.2 j (by omega)
  · refine end_retB rfl rfl ?_
    simp only [Bool.false_eq_true, false_iff]
    rintro rfl
    omega
theorem specIdent_ok (n : Nat) (h1 : 1 ≤ n ∧ n ≤ 20) (d : Nat) : AC Try.prog 45 [.v (.int .i64 (n))] Hp.emp (fun _ => false) (retI d (idn n)) := by
  have hid : AC Try.prog 53 [.v (.int .i64 (n))] Hp.emp (fun _ => false) (retI 10 (idn n)) := by rw [idn_marks]; exact specIdentity_ok n (by omega) 10
  refine ac_of_awp (N := ⟨_, fun _ => false, fun _ _ => rfl⟩) Try.func45 rfl (by kernel_rfl) Try.ntmps45 (by simp) ?_
  simp only [argsFr, List.zipIdx_cons, List.zipIdx_nil, go_sem]
  repeat' (first | refine awp_seqK fun K hK => ?_ | (refine awp_regionK 37 rfl ?_; simp only [List.map_cons, List.map_nil]; simp (maxSteps := 1000000) (dsimp := false) (implicitDefEqProofs := false) (disch := omega) only [wrap64, go_sem]) | (refine awp_regionQK 37 (by kernel_rfl) (by kernel_rfl) (by kernel_rfl) ?_; simp only [List.map_cons, List.map_nil]; simp (maxSteps := 1000000) (dsimp := false) (implicitDefEqProofs := false) (disch := omega) only [wrap64, go_sem]) | refine awp_block ?_ | (refine awp_skip ?_; simp only [go_sem]) | (refine awp_exit ?_; simp only [go_sem]) | (refine awp_ret ?_; try simp only [go_sem]) | (refine awp_condP rfl ?_; try simp only [go_sem]) | (refine BrP.mk (fun h => ?_) (fun h => ?_) <;> try simp (dsimp := false) (disch := omega) only [wrap64]) | (refine Br.mk (fun h => ?_) (fun h => ?_) <;> try simp (dsimp := false) (disch := omega) only [wrap64]) | refine Ob.mk (by first | omega | (intro _ _; rfl) | trivial | (intros; trivial) | assumption | (intro i hi; have h0 : i = 0 := (by omega); subst h0; first | rfl | trivial) | (intro i hi; have h0 : i = 0 ∨ i = 1 := (by omega); rcases h0 with rfl | rfl <;> rfl) | (intro i hi; have h0 : i = 0 ∨ i = 1 ∨ i = 2 := (by omega); rcases h0 with rfl | rfl | rfl <;> rfl)) ?_ | ((first | ((first | refine atF (f := 90) ?_ | refine atQ (f := 90) ?_); (first | (refine cV (hac := inRange_ok _ _ _) (hK := ?_)) | (refine cQV (hac := inRange_ok _ _ _) (hK := ?_)))) | (refine cI (hac := hid) (hK := ?_)) | (refine cQI (hac := hid) (hK := ?_)) | ((first | refine atF (f := 53) ?_ | refine atQ (f := 53) ?_); refine cI (hac := hid) (hK := ?_))); simp (maxSteps := 1000000) (dsimp := false) (implicitDefEqProofs := false) (disch := omega) only [wrap64, go_sem]) | apply_assumption -exfalso -symm)
  all_goals (first | (show endQ _ _ _ _ _ _ _; (repeat (rename (∀ (A : Fr) (H : Hp), AWP _ _ _ _ A H → _) => hK; clear hK)); (repeat (rename (Fr → Hp → Prop) => K; clear K))) | (show Exists _; (repeat (rename (∀ (A : Fr) (H : Hp), AWP _ _ _ _ A H → _) => hK; clear hK)); (repeat (rename (Fr → Hp → Prop) => K; clear K))) | skip)
  · (first | refine end_retI' rfl rfl rfl ?_ rfl rfl | refine end_retI_nil' rfl rfl ?_ rfl)
    rfl
  · omega
theorem roll_ok (xs : List Int) (sd : Int) (hx : ∀ j, 0 ≤ xs.getD j 0 ∧ xs.getD j 0 ≤ 255) (hl : xs.length ≤ 4096) : AC Try.prog 9 [bts xs, .v (.int .u64 sd)] Hp.emp (fun _ => false) (postD .u64 fun r => r = .ref 1000000 0) := by
  refine ac_of_awp (N := ⟨_, fun _ => false, fun _ _ => rfl⟩) Try.func9 rfl (by kernel_rfl) Try.ntmps9 (by simp) ?_
  simp only [argsFr, List.zipIdx_cons, List.zipIdx_nil, go_sem]
  unfold bts
  repeat' (first | refine awp_seqK fun K hK => ?_ | (refine awp_regionK 524403 rfl ?_; simp only [List.map_cons, List.map_nil]; simp (maxSteps := 1000000) (dsimp := false) (implicitDefEqProofs := false) (disch := omega) only [wrap64, go_sem]) | (refine awp_regionQK 524403 (by kernel_rfl) (by kernel_rfl) (by kernel_rfl) ?_; simp only [List.map_cons, List.map_nil]; simp (maxSteps := 1000000) (dsimp := false) (implicitDefEqProofs := false) (disch := omega) only [wrap64, go_sem]) | refine awp_block ?_ | (refine awp_skip ?_; simp only [go_sem]) | (refine awp_exit ?_; simp only [go_sem]) | (refine awp_ret ?_; try simp only [go_sem]) | (refine awp_condP rfl ?_; try simp only [go_sem]) | (refine BrP.mk (fun h => ?_) (fun h => ?_) <;> try simp (dsimp := false) (disch := omega) only [wrap64]) | (refine Br.mk (fun h => ?_) (fun h => ?_) <;> try simp (dsimp := false) (disch := omega) only [wrap64]) | refine Ob.mk (by first | omega | (intro _ _; rfl) | trivial | (intros; trivial) | assumption | (intro i hi; have h0 : i = 0 := (by omega); subst h0; first | rfl | trivial) | (intro i hi; have h0 : i = 0 ∨ i = 1 := (by omega); rcases h0 with rfl | rfl <;> rfl) | (intro i hi; have h0 : i = 0 ∨ i = 1 ∨ i = 2 := (by omega); rcases h0 with rfl | rfl | rfl <;> rfl)) ?_ | apply_assumption -exfalso -symm)
  all_goals (first | (show endQ _ _ _ _ _ _ _; (repeat (rename (∀ (A : Fr) (H : Hp), AWP _ _ _ _ A H → _) => hK; clear hK)); (repeat (rename (Fr → Hp → Prop) => K; clear K))) | (show Exists _; (repeat (rename (∀ (A : Fr) (H : Hp), AWP _ _ _ _ A H → _) => hK; clear hK)); (repeat (rename (Fr → Hp → Prop) => K; clear K))) | skip)
  refine awp_loop (ι := Nat × Int) (fun k => [(6, .v (.int .i64 (k.1))), (5, .ref 15 0), (0, bts xs)]) (fun k => Hp.emp.upd 15 (.cells 3 (vecF [bts xs, .v (.int .i64 (0)), .v (.int .u64 k.2)]))) (fun k => k.1 ≤ xs.length) (fun k => xs.length - k.1) (0, _) (Nat.zero_le _) (Sub.toLF (by simp only [go_sem] <;> first | trivial | (simp only [Option.some.injEq, AV.v.injEq, AV.own.injEq, AV.list.injEq, Value.int.injEq, Value.bool.injEq, true_and, and_true]; first | omega | (simp; done)) | (simp; done) | (simp; omega)) (leF_upd rfl (bfE rfl (c3 rfl rfl rfl)) leF_emp id)) ?_
  rintro ⟨k, z⟩ hk
  dsimp only at hk ⊢
  repeat' (first | (refine awp_regionEK 524403 15 (by kernel_rfl) (by kernel_rfl) (by kernel_rfl) ?_; simp only [List.map_cons, List.map_nil, opsE, List.take_succ_cons, List.take_zero, List.drop_succ_cons, List.drop_zero]; simp (maxSteps := 1000000) (dsimp := false) (implicitDefEqProofs := false) (disch := omega) only [wrap64, go_sem]) | refine awp_seqK fun K hK => ?_ | (refine awp_regionK 524403 rfl ?_; simp only [List.map_cons, List.map_nil]; simp (maxSteps := 1000000) (dsimp := false) (implicitDefEqProofs := false) (disch := omega) only [wrap64, go_sem]) | (refine awp_regionQK 524403 (by kernel_rfl) (by kernel_rfl) (by kernel_rfl) ?_; simp only [List.map_cons, List.map_nil]; simp (maxSteps := 1000000) (dsimp := false) (implicitDefEqProofs := false) (disch := omega) only [wrap64, go_sem]) | refine awp_block ?_ | (refine awp_skip ?_; simp only [go_sem]) | (refine awp_exit ?_; simp only [go_sem]) | (refine awp_ret ?_; try simp only [go_sem]) | (refine awp_condP rfl ?_; try simp only [go_sem]) | (refine BrP.mk (fun h => ?_) (fun h => ?_) <;> try simp (dsimp := false) (disch := omega) only [wrap64]) | (refine Br.mk (fun h => ?_) (fun h => ?_) <;> try simp (dsimp := false) (disch := omega) only [wrap64]) | refine Ob.mk (by first | omega | (intro _ _; rfl) | trivial | (intros; trivial) | assumption | (intro i hi; have h0 : i = 0 := (by omega); subst h0; first | rfl | trivial) | (intro i hi; have h0 : i = 0 ∨ i = 1 := (by omega); rcases h0 with rfl | rfl <;> rfl) | (intro i hi; have h0 : i = 0 ∨ i = 1 ∨ i = 2 := (by omega); rcases h0 with rfl | rfl | rfl <;> rfl)) ?_ | apply_assumption -exfalso -symm)
  all_goals (first | (show endQ _ _ _ _ _ _ _; (repeat (rename (∀ (A : Fr) (H : Hp), AWP _ _ _ _ A H → _) => hK; clear hK)); (repeat (rename (Fr → Hp → Prop) => K; clear K))) | (show Exists _; (repeat (rename (∀ (A : Fr) (H : Hp), AWP _ _ _ _ A H → _) => hK; clear hK)); (repeat (rename (Fr → Hp → Prop) => K; clear K))) | skip)
  · exact ⟨(k + 1, IntKind.u64.wrap (IntKind.u64.wrap (IntKind.u64.wrap (z * 1099511628211) + IntKind.u64.wrap (xs.getD k 0)) + 3)), by omega, by omega, Sub.toLF (by simp only [go_sem] <;> first | trivial | (simp only [Option.some.injEq, AV.v.injEq, AV.own.injEq, AV.list.injEq, Value.int.injEq, Value.bool.injEq, true_and, and_true]; first | omega | (simp; done)) | (simp; done) | (simp; omega)) (leF_upd rfl (bfE rfl (c3 rfl rfl rfl)) leF_emp id)⟩
  · refine end_postS (H' := DH .u64 ⟨xs, 0, z, Nat.zero_le _, hx, hl⟩) rfl (Sub.layM (fun h => if h = 1000000 then some 15 else none) rfl (lay_cons ⟨_, rfl, .ref rfl⟩ lay_nil) (layF_upd (g := 15) (n := 3) rfl rfl (fun i hi => ?_) layF_emp) ?_) ⟨_, rfl, rfl⟩
    · match i, hi with
      | 0, _ => exact .plain trivial
      | 1, _ => exact .plain trivial
      | 2, _ => exact .plain trivial
    · intro x y k hx hy h1 h2
      split at h1
      · split at h2
        · omega
        · cases h2
      · cases h1
end Go.Proofs.Ytiihgbobdipikaa
end
/- The puzzles of dice. -/
section
namespace Go.Proofs.Ytiihgbobdipikaa
open Go.Av
set_option linter.unusedSimpArgs false
set_option linter.unusedVariables false
attribute [local irreducible] AWP CallG Ob Br BrP Go.Av.Sub endQ AOps OpV AC thenA blkA opsVC opVC withA withArgs opsQ opQ CallQ withA2 withArgs2
open Go.Pm (Pm comp invp idn img)
theorem specIdentI_ok (x : Int) (h1 : 1 ≤ x ∧ x ≤ 20) (d : Nat) : AC Try.prog 45 [.v (.int .i64 (x))] Hp.emp (fun _ => false) (retI d (idn x.toNat)) := by
  have e := specIdent_ok x.toNat (by omega) d
  rwa [show ((x.toNat : Nat) : Int) = x by omega] at e
theorem pm_swap {n : Nat} {g : List Int} (hg : Pm n g) {i j : Nat} (hi : i < n) (hj : j < n) : Pm n ((g.set i (g.getD j 0)).set j (g.getD i 0)) := by
  have hl := hg.1
  have e : ∀ k, k < n → ((g.set i (g.getD j 0)).set j (g.getD i 0)).getD k 0 = g.getD (if k = j then i else if k = i then j else k) 0 := fun k hk => by
    by_cases h1 : k = j
    · subst h1; rw [if_pos rfl]; simp [List.getD_eq_getElem?_getD, List.getElem?_set, hl, hk]
    · rw [if_neg h1]
      by_cases h2 : k = i
      · subst h2; rw [if_pos rfl]; simp [List.getD_eq_getElem?_getD, List.getElem?_set, hl, hk, Ne.symm h1]
      · rw [if_neg h2]; simp [List.getD_eq_getElem?_getD, List.getElem?_set, Ne.symm h1, Ne.symm h2]
  have hm : ∀ k, k < n → (if k = j then i else if k = i then j else k) < n := fun k hk => by
    split
    · exact hi
    · split <;> assumption
  refine ⟨by simp [hl], fun k hk => ?_, fun a b ha hb hab => ?_⟩
  · rw [e k hk]
    exact hg.2.1 _ (hm k hk)
  · rw [e a ha, e b hb] at hab
    have h := hg.2.2 _ _ (hm a ha) (hm b hb) hab
    split at h <;> split at h <;> (try split at h) <;> (try split at h) <;> omega
/-- What w9Puzzle answers. -/
def smallP (p : Pz) : Prop := isPz p ∧ 3 ≤ p.n ∧ p.n ≤ 5 ∧ p.m.length = 2
theorem w9Puzzle_ok (d : Dc) : AC Try.prog 10 [.ref 1000000 0] (DH .u64 d) pM (postD .u64 fun r => ∃ p, smallP p ∧ r = pz p) := by
  refine ac_of_awp (N := ⟨_, pM, fun h hh => pM_low (Nat.lt_of_lt_of_le hh (by decide))⟩) Try.func10 rfl (by kernel_rfl) Try.ntmps10 (by simp) ?_
  simp only [argsFr, List.zipIdx_cons, List.zipIdx_nil, go_sem]
  unfold DH
  repeat' (first | ((first | refine atF (f := 27) ?_ | refine atQ (f := 27) ?_); (refine callD (by rfl) (dBelow_ok _ _ (by omega)) (by rintro _ ⟨v, _, rfl⟩ _; rfl) (fun r d' hq => ?_); obtain ⟨v, hv, rfl⟩ := hq) <;> simp (maxSteps := 1000000) (dsimp := false) (implicitDefEqProofs := false) (disch := omega) only [wrap64, go_sem, List.getElem?_cons_zero, List.getElem?_cons_succ]) | refine awp_seqK fun K hK => ?_ | (refine awp_regionK 16843261 rfl ?_; simp only [List.map_cons, List.map_nil]; simp (maxSteps := 1000000) (dsimp := false) (implicitDefEqProofs := false) (disch := omega) only [wrap64, go_sem, List.getElem?_cons_zero, List.getElem?_cons_succ]) | (refine awp_regionQK 16843261 (by kernel_rfl) (by kernel_rfl) (by kernel_rfl) ?_; simp only [List.map_cons, List.map_nil]; simp (maxSteps := 1000000) (dsimp := false) (implicitDefEqProofs := false) (disch := omega) only [wrap64, go_sem, List.getElem?_cons_zero, List.getElem?_cons_succ]) | refine awp_block ?_ | (refine awp_skip ?_; simp only [go_sem, List.getElem?_cons_zero, List.getElem?_cons_succ]) | (refine awp_exit ?_; simp only [go_sem, List.getElem?_cons_zero, List.getElem?_cons_succ]) | (refine awp_ret ?_; try simp only [go_sem, List.getElem?_cons_zero, List.getElem?_cons_succ]) | (refine awp_condP rfl ?_; try simp only [go_sem, List.getElem?_cons_zero, List.getElem?_cons_succ]) | (refine BrP.mk (fun h => ?_) (fun h => ?_) <;> try simp (dsimp := false) (disch := omega) only [wrap64]) | (refine Br.mk (fun h => ?_) (fun h => ?_) <;> try simp (dsimp := false) (disch := omega) only [wrap64]) | refine Ob.mk (by first | omega | (intro _ _; rfl) | trivial | (intros; trivial) | assumption | (intro i hi; have h0 : i = 0 := (by omega); subst h0; first | rfl | trivial) | (intro i hi; have h0 : i = 0 ∨ i = 1 := (by omega); rcases h0 with rfl | rfl <;> rfl) | (intro i hi; have h0 : i = 0 ∨ i = 1 ∨ i = 2 := (by omega); rcases h0 with rfl | rfl | rfl <;> rfl)) ?_ | apply_assumption -exfalso -symm)
  all_goals (first | (show endQ _ _ _ _ _ _ _; (repeat (rename (∀ (A : Fr) (H : Hp), AWP _ _ _ _ A H → _) => hK; clear hK)); (repeat (rename (Fr → Hp → Prop) => K; clear K))) | (show Exists _; (repeat (rename (∀ (A : Fr) (H : Hp), AWP _ _ _ _ A H → _) => hK; clear hK)); (repeat (rename (Fr → Hp → Prop) => K; clear K))) | skip)
  obtain ⟨n, hn⟩ : ∃ n : Nat, (n : Int) = 3 + v := ⟨(3 + v).toNat, by omega⟩
  have hn5 : 3 ≤ n ∧ n ≤ 5 := by omega
  rw [← hn]
  refine awp_loop (ι := List (List Int) × Dc) (fun k => [(0, .ref 1000000 0), (2, .ref 2 0), (3, .ref 3 0)]) (fun k => (((Hp.emp.upd 1000000 (.cells 3 (dF .u64 k.2))).upd 2 (.cells 3 (zF [Value.int IntKind.i64 0, Value.string ⟨#[]⟩, Value.slice none 0 0]))).upd 3 (.cells 3 (vecF [.v (.int .i64 ((n : Int))), .v (.string ⟨#[65, 66]⟩), .own 30 0 1 k.1.length]))).upd 30 (.cells k.1.length (cM ints [] k.1))) (fun k => k.1.length ≤ 2 ∧ ∀ g ∈ k.1, Pm n g) (fun k => 2 - k.1.length) ([], d') ⟨by simp, by simp⟩ (Sub.layMp (fun h => if h = 30 then none else some h) (fun h hh => by
    have : h ≠ 30 := fun e => by subst e; exact absurd hh (by decide)
    exact if_neg this) (lay_cons ⟨_, rfl, .ref rfl⟩ (lay_cons ⟨_, rfl, .ref rfl⟩ (lay_cons ⟨_, rfl, .ref rfl⟩ lay_nil))) (layF_nil rfl (layF_upd (g := 3) (n := 3) rfl rfl (fun i hi => ?_) (layF_upd (g := 2) (n := 3) rfl rfl (fun i hi => ?_) (layF_upd (g := 1000000) (n := 3) rfl rfl (fun i hi => ?_) layF_emp)))) ?_) ?_
  · match i, hi with
    | 0, _ => exact .plain trivial
    | 1, _ => exact .plain trivial
    | 2, _ => exact .nil rfl
  · match i, hi with
    | 0, _ => exact .plain trivial
    | 1, _ => exact .plain trivial
    | 2, _ => exact .plain trivial
  · match i, hi with
    | 0, _ => exact .plain trivial
    | 1, _ => exact .plain trivial
    | 2, _ => exact .plain trivial
  · intro x y k hx hy h1 h2
    split at h1
    · cases h1
    · split at h2
      · cases h2
      · simp only [Option.some.injEq] at h1 h2; omega
  rintro ⟨ms, d1⟩ ⟨hk, hms⟩
  dsimp only at hk hms ⊢
  repeat' (first | ((first | refine atF (f := 27) ?_ | refine atQ (f := 27) ?_); (refine callD (by rfl) (dBelow_ok _ _ (by omega)) (by rintro _ ⟨v, _, rfl⟩ _; rfl) (fun r d' hq => ?_); obtain ⟨v, hv, rfl⟩ := hq) <;> simp (maxSteps := 1000000) (dsimp := false) (implicitDefEqProofs := false) (disch := omega) only [wrap64, go_sem]) | refine awp_seqK fun K hK => ?_ | (refine awp_regionK 16843261 rfl ?_; simp only [List.map_cons, List.map_nil]; simp (maxSteps := 1000000) (dsimp := false) (implicitDefEqProofs := false) (disch := omega) only [wrap64, go_sem]) | (refine awp_regionQK 16843261 (by kernel_rfl) (by kernel_rfl) (by kernel_rfl) ?_; simp only [List.map_cons, List.map_nil]; simp (maxSteps := 1000000) (dsimp := false) (implicitDefEqProofs := false) (disch := omega) only [wrap64, go_sem]) | refine awp_block ?_ | (refine awp_skip ?_; simp only [go_sem]) | (refine awp_exit ?_; simp only [go_sem]) | (refine awp_ret ?_; try simp only [go_sem]) | (refine awp_condP rfl ?_; try simp only [go_sem]) | (refine BrP.mk (fun h => ?_) (fun h => ?_) <;> try simp (dsimp := false) (disch := omega) only [wrap64]) | (refine Br.mk (fun h => ?_) (fun h => ?_) <;> try simp (dsimp := false) (disch := omega) only [wrap64]) | refine Ob.mk (by first | omega | (intro _ _; rfl) | trivial | (intros; trivial) | assumption | (intro i hi; have h0 : i = 0 := (by omega); subst h0; first | rfl | trivial) | (intro i hi; have h0 : i = 0 ∨ i = 1 := (by omega); rcases h0 with rfl | rfl <;> rfl) | (intro i hi; have h0 : i = 0 ∨ i = 1 ∨ i = 2 := (by omega); rcases h0 with rfl | rfl | rfl <;> rfl)) ?_ | ((first | ((first | refine atF (f := 45) ?_ | refine atQ (f := 45) ?_); (first | (refine cI (hac := specIdentI_ok (n : Int) (by omega) 20) (hK := ?_)) | (refine cQI (hac := specIdentI_ok (n : Int) (by omega) 20) (hK := ?_))))); simp (maxSteps := 1000000) (dsimp := false) (implicitDefEqProofs := false) (disch := omega) only [wrap64, go_sem]) | apply_assumption -exfalso -symm)
  all_goals (first | (show endQ _ _ _ _ _ _ _; (repeat (rename (∀ (A : Fr) (H : Hp), AWP _ _ _ _ A H → _) => hK; clear hK)); (repeat (rename (Fr → Hp → Prop) => K; clear K))) | (show Exists _; (repeat (rename (∀ (A : Fr) (H : Hp), AWP _ _ _ _ A H → _) => hK; clear hK)); (repeat (rename (Fr → Hp → Prop) => K; clear K))) | skip)
  · obtain ⟨m, hm⟩ : ∃ m : Nat, (m : Int) = 1 + v := ⟨(1 + v).toNat, by omega⟩
    rw [← hm]
    have hid : Pm n (idn n) := Go.Pm.Pm.idn n
    refine awp_loop (ι := Nat × List Int × Dc) (fun k => [(5, .v (.int .i64 ((k.1 : Nat)))), (4, .own 20 0 1 n), (0, .ref 1000000 0), (2, .ref 2 0), (3, .ref 3 0)]) (fun k => ((((Hp.emp.upd 1000000 (.cells 3 (dF .u64 k.2.2))).upd 2 (.cells 3 (zF [Value.int IntKind.i64 0, Value.string ⟨#[]⟩, Value.slice none 0 0]))).upd 3 (.cells 3 (vecF [.v (.int .i64 ((n : Int))), .v (.string ⟨#[65, 66]⟩), .own 30 0 1 ms.length]))).upd 30 (.cells ms.length (cM ints [] ms))).upd 20 (.cells n (cM iv 0 k.2.1))) (fun k => k.1 ≤ 3 ∧ Pm n k.2.1) (fun k => k.1) (m, idn n, d') ⟨by omega, hid⟩ (by
      have e : (idn n).length = n := hid.1
      rw [e]
      exact Sub.toL (by simp only [go_sem] <;> first | trivial | (simp only [Option.some.injEq, AV.v.injEq, AV.own.injEq, AV.list.injEq, Value.int.injEq, Value.bool.injEq, true_and, and_true]; first | omega | (simp; done)) | (simp; done) | (simp; omega)) (by (repeat' (first | exact Hp.le_emp _ | exact Hp.le_refl _ | refine Hp.le_upd ?_ ?_)); all_goals (first | rfl | (simp only [go_sem]; first | rfl | (refine cellsE ?_ ?_ <;> (simp)) | (simp))))) ?_
    rintro ⟨k, g, d2⟩ ⟨hk3, hg⟩
    dsimp only at hk3 hg ⊢
    have hgl := hg.1
    repeat' (first | ((first | refine atF (f := 27) ?_ | refine atQ (f := 27) ?_); (refine callD (by rfl) (dBelow_ok _ _ (by omega)) (by rintro _ ⟨v, _, rfl⟩ _; rfl) (fun r d' hq => ?_); obtain ⟨v, hv, rfl⟩ := hq) <;> simp (maxSteps := 1000000) (dsimp := false) (implicitDefEqProofs := false) (disch := omega) only [wrap64, go_sem]) | refine awp_seqK fun K hK => ?_ | (refine awp_regionK 16843261 rfl ?_; simp only [List.map_cons, List.map_nil]; simp (maxSteps := 1000000) (dsimp := false) (implicitDefEqProofs := false) (disch := omega) only [wrap64, go_sem]) | (refine awp_regionQK 16843261 (by kernel_rfl) (by kernel_rfl) (by kernel_rfl) ?_; simp only [List.map_cons, List.map_nil]; simp (maxSteps := 1000000) (dsimp := false) (implicitDefEqProofs := false) (disch := omega) only [wrap64, go_sem]) | refine awp_block ?_ | (refine awp_skip ?_; simp only [go_sem]) | (refine awp_exit ?_; simp only [go_sem]) | (refine awp_ret ?_; try simp only [go_sem]) | (refine awp_condP rfl ?_; try simp only [go_sem]) | (refine BrP.mk (fun h => ?_) (fun h => ?_) <;> try simp (dsimp := false) (disch := omega) only [wrap64]) | (refine Br.mk (fun h => ?_) (fun h => ?_) <;> try simp (dsimp := false) (disch := omega) only [wrap64]) | refine Ob.mk (by first | omega | (intro _ _; rfl) | trivial | (intros; trivial) | assumption | (intro i hi; have h0 : i = 0 := (by omega); subst h0; first | rfl | trivial) | (intro i hi; have h0 : i = 0 ∨ i = 1 := (by omega); rcases h0 with rfl | rfl <;> rfl) | (intro i hi; have h0 : i = 0 ∨ i = 1 ∨ i = 2 := (by omega); rcases h0 with rfl | rfl | rfl <;> rfl)) ?_ | apply_assumption -exfalso -symm)
    all_goals (first | (show endQ _ _ _ _ _ _ _; (repeat (rename (∀ (A : Fr) (H : Hp), AWP _ _ _ _ A H → _) => hK; clear hK)); (repeat (rename (Fr → Hp → Prop) => K; clear K))) | (show Exists _; (repeat (rename (∀ (A : Fr) (H : Hp), AWP _ _ _ _ A H → _) => hK; clear hK)); (repeat (rename (Fr → Hp → Prop) => K; clear K))) | skip)
    · rename_i v1 hv1
      have hs := pm_swap hg (i := v1.toNat) (j := v.toNat) (by omega) (by omega)
      refine ⟨(k - 1, (g.set v1.toNat (g.getD v.toNat 0)).set v.toNat (g.getD v1.toNat 0), d'), ⟨by omega, hs⟩, by omega, Sub.toLF (by simp only [go_sem] <;> first | trivial | (simp only [Option.some.injEq, AV.v.injEq, AV.own.injEq, AV.list.injEq, Value.int.injEq, Value.bool.injEq, true_and, and_true]; first | omega | (simp; done)) | (simp; done) | (simp; omega)) (leF_upd rfl (bfE rfl (fun i hi => ?_)) (leF_upd rfl (.refl _ _ _) (leF_upd rfl (.refl _ _ _) (leF_upd rfl (.refl _ _ _) (leF_upd rfl (.refl _ _ _) leF_emp id) id) id) id) id)⟩
      rw [setF_iv _ _ _ (by simp; omega)]
    · refine ⟨(ms ++ [g], d2), ⟨by simp; omega, fun x hx => ?_⟩, by simp; omega, ?_⟩
      · rcases List.mem_append.1 hx with h1 | h1
        · exact hms x h1
        · rw [List.mem_singleton.1 h1]; exact hg
      · refine Sub.toFF (fun x => x = 20) (Fr.fit_cons rfl (.refl _) (Fr.fit_cons rfl (.refl _) (Fr.fit_cons rfl (.refl _) (Fr.fit_nil _)))) ?_
        refine leF_upd rfl ⟨by simp, fun i hi => ?_⟩ (leF_upd rfl ⟨rfl, fun i hi => ?_⟩ (leF_upd rfl (.refl _ _ _) (leF_upd rfl (.refl _ _ _) leF_emp (by omega)) (by omega)) (by omega)) (by omega)
        · by_cases hi2 : i < ms.length
          · exact .ofEq (by simp [apF, scF, cM, AV.scrub, List.getD_eq_getElem?_getD, List.getElem?_append, hi2, ints])
          · have hi3 : i = ms.length := by omega
            have e2 : apF ms.length (scF (fun x => x == 30) (cM ints [] ms)) (scF (fun x => x == 30) (setF (zF [Value.slice none 0 0]) 0 (AV.own 20 0 1 n))) i = AV.own 20 0 1 n := by subst hi3; simp [apF, scF, setF, AV.scrub]
            have e3 : cM ints [] (ms ++ [g]) i = ints g := by subst hi3; simp [cM, List.getD_eq_getElem?_getD]
            rw [e2, e3]
            exact fits_I rfl rfl rfl hgl.symm
        · match i, hi with
          | 0, _ => exact .refl _
          | 1, _ => exact .refl _
          | 2, _ => exact .ofEq (by simp [setF, vecF])
  · have hm : ms.length = 2 := by omega
    refine end_postCF (fun x => x = 30) (H' := DH .u64 d1) (g := vecF [.v (.int .i64 ((n : Int))), .v (.string ⟨#[65, 66]⟩), .list false 1 (ms).length (cM ints [] (ms))]) rfl rfl (by simp only [go_sem]; rfl) rfl (fun i hi => ?_) (leF_upd rfl (.refl _ _ _) leF_emp (by omega)) rfl (by omega) ⟨d1, ⟨⟨n, ⟨#[65, 66]⟩, ms⟩, ?_, rfl⟩, rfl⟩
    · match i, hi with
      | 0, _ => exact .refl _
      | 1, _ => exact .refl _
      | 2, _ => exact fits_II rfl rfl rfl rfl
    · have hp : ∀ j, j < ms.length → Pm n (ms.getD j []) := fun j hj => hms _ (Go.Pm.mem_getD hj)
      refine ⟨⟨⟨by show 1 ≤ (n : Int) ∧ (n : Int) ≤ 20; omega, by show ms.length ≤ 8; omega, fun j hj => ⟨by rw [(hp j hj).1], (isPerm_pm _).2 ⟨by rw [(hp j hj).1]; omega, by rw [(hp j hj).1]; exact hp j hj⟩⟩⟩, by show ms.length ≠ 0; omega, ?_, fun i hi => ?_⟩, by show 3 ≤ (n : Int); omega, by show (n : Int) ≤ 5; omega, hm⟩
      · show 2 = ms.length; omega
      · have hi2 : i < 2 := hi
        have e : i = 0 ∨ i = 1 := by omega
        rcases e with rfl | rfl
        · show isName ⟨#[65, 66]⟩ 0
          exact ⟨⟨by decide, by decide⟩, fun k hk => absurd hk (by omega)⟩
        · show isName ⟨#[65, 66]⟩ 1
          refine ⟨⟨by decide, by decide⟩, fun k hk => ?_⟩
          have e : k = 0 := by omega
          subst e; decide
end Go.Proofs.Ytiihgbobdipikaa
end
/- The histogram of a small puzzle: the law in plain form. -/
section
namespace Go.Proofs.Ytiihgbobdipikaa
open Go.Av
set_option linter.unusedSimpArgs false
set_option linter.unusedVariables false
attribute [local irreducible] AWP CallG Ob Br BrP Go.Av.Sub endQ AOps OpV AC thenA blkA opsVC opVC withA withArgs opsQ opQ CallQ withA2 withArgs2
open Go.Pm (Pm comp invp idn img Bf)
theorem smallP.ok {p : Pz} (hp : smallP p) : (XS p).isSome = true ∧ (XA p).st.length ≤ 120 ∧ (XA p).st.length = cntP p := small hp.1 hp.2.2.1
theorem smallP.sz {p : Pz} (hp : smallP p) : p.s.size ≤ 140737488355328 := by
  have h1 := hp.1.2.2.1
  have h2 := hp.2.2.2
  omega
end Go.Proofs.Ytiihgbobdipikaa
end
/- Words and states of dice. -/
section
namespace Go.Proofs.Ytiihgbobdipikaa
open Go.Av
set_option linter.unusedSimpArgs false
set_option linter.unusedVariables false
attribute [local irreducible] AWP CallG Ob Br BrP Go.Av.Sub endQ AOps OpV AC thenA blkA opsVC opVC withA withArgs opsQ opQ CallQ withA2 withArgs2
open Go.Pm (Pm comp invp idn img)
theorem w9Letter_ok (d : Dc) (m : Nat) (hm : 1 ≤ m ∧ m ≤ 8) : AC Try.prog 61 [.ref 1000000 0, .v (.int .i64 ((m : Int)))] (DH .u64 d) pM (postD .u64 fun r => ∃ v : Int, isL m v ∧ r = .v (.int .i64 (v))) := by
  refine ac_of_awp (N := ⟨_, pM, fun h hh => pM_low (Nat.lt_of_lt_of_le hh (by decide))⟩) Try.func61 rfl (by kernel_rfl) Try.ntmps61 (by simp) ?_
  simp only [argsFr, List.zipIdx_cons, List.zipIdx_nil, go_sem]
  unfold DH
  repeat' (first | ((first | refine atF (f := 27) ?_ | refine atQ (f := 27) ?_); (refine callD (by rfl) (dBelow_ok _ _ (by omega)) (by rintro _ ⟨v, _, rfl⟩ _; rfl) (fun r d' hq => ?_); obtain ⟨v, hv, rfl⟩ := hq) <;> simp (maxSteps := 1000000) (dsimp := false) (implicitDefEqProofs := false) (disch := omega) only [wrap64, go_sem]) | refine awp_seqK fun K hK => ?_ | (refine awp_regionK 4147 rfl ?_; simp only [List.map_cons, List.map_nil]; simp (maxSteps := 1000000) (dsimp := false) (implicitDefEqProofs := false) (disch := omega) only [wrap64, go_sem]) | (refine awp_regionQK 4147 (by kernel_rfl) (by kernel_rfl) (by kernel_rfl) ?_; simp only [List.map_cons, List.map_nil]; simp (maxSteps := 1000000) (dsimp := false) (implicitDefEqProofs := false) (disch := omega) only [wrap64, go_sem]) | refine awp_block ?_ | (refine awp_skip ?_; simp only [go_sem]) | (refine awp_exit ?_; simp only [go_sem]) | (refine awp_ret ?_; try simp only [go_sem]) | (refine awp_condP rfl ?_; try simp only [go_sem]) | (refine BrP.mk (fun h => ?_) (fun h => ?_) <;> try simp (dsimp := false) (disch := omega) only [wrap64]) | (refine Br.mk (fun h => ?_) (fun h => ?_) <;> try simp (dsimp := false) (disch := omega) only [wrap64]) | refine Ob.mk (by first | omega | (intro _ _; rfl) | trivial | (intros; trivial) | assumption | (intro i hi; have h0 : i = 0 := (by omega); subst h0; first | rfl | trivial) | (intro i hi; have h0 : i = 0 ∨ i = 1 := (by omega); rcases h0 with rfl | rfl <;> rfl) | (intro i hi; have h0 : i = 0 ∨ i = 1 ∨ i = 2 := (by omega); rcases h0 with rfl | rfl | rfl <;> rfl)) ?_ | apply_assumption -exfalso -symm)
  all_goals (first | (show endQ _ _ _ _ _ _ _; (repeat (rename (∀ (A : Fr) (H : Hp), AWP _ _ _ _ A H → _) => hK; clear hK)); (repeat (rename (Fr → Hp → Prop) => K; clear K))) | (show Exists _; (repeat (rename (∀ (A : Fr) (H : Hp), AWP _ _ _ _ A H → _) => hK; clear hK)); (repeat (rename (Fr → Hp → Prop) => K; clear K))) | skip)
  all_goals exact end_post rfl rfl (Hp.le_refl _) ⟨d', ⟨_, by unfold isL; omega, rfl⟩, rfl⟩
theorem w9Word_ok (d : Dc) (m : Nat) (most : Int) (hm : 1 ≤ m ∧ m ≤ 8) (hmo : 0 ≤ most ∧ most ≤ 190) : AC Try.prog 22 [.ref 1000000 0, .v (.int .i64 ((m : Int))), .v (.int .i64 (most))] (DH .u64 d) pM (postD .u64 fun r => ∃ w : List Int, (isW (m : Int) w ∧ (w.length : Int) ≤ most) ∧ r = ints w) := by
  refine ac_of_awp (N := ⟨_, pM, fun h hh => pM_low (Nat.lt_of_lt_of_le hh (by decide))⟩) Try.func22 rfl (by kernel_rfl) Try.ntmps22 (by simp) ?_
  simp only [argsFr, List.zipIdx_cons, List.zipIdx_nil, go_sem]
  unfold DH
  repeat' (first | ((first | refine atF (f := 27) ?_ | refine atQ (f := 27) ?_); (refine callD (by rfl) (dBelow_ok _ _ (by omega)) (by rintro _ ⟨v, _, rfl⟩ _; rfl) (fun r d' hq => ?_); obtain ⟨v, hv, rfl⟩ := hq) <;> simp (maxSteps := 1000000) (dsimp := false) (implicitDefEqProofs := false) (disch := omega) only [wrap64, go_sem]) | refine awp_seqK fun K hK => ?_ | (refine awp_regionK 33223 rfl ?_; simp only [List.map_cons, List.map_nil]; simp (maxSteps := 1000000) (dsimp := false) (implicitDefEqProofs := false) (disch := omega) only [wrap64, go_sem]) | (refine awp_regionQK 33223 (by kernel_rfl) (by kernel_rfl) (by kernel_rfl) ?_; simp only [List.map_cons, List.map_nil]; simp (maxSteps := 1000000) (dsimp := false) (implicitDefEqProofs := false) (disch := omega) only [wrap64, go_sem]) | refine awp_block ?_ | (refine awp_skip ?_; simp only [go_sem]) | (refine awp_exit ?_; simp only [go_sem]) | (refine awp_ret ?_; try simp only [go_sem]) | (refine awp_condP rfl ?_; try simp only [go_sem]) | (refine BrP.mk (fun h => ?_) (fun h => ?_) <;> try simp (dsimp := false) (disch := omega) only [wrap64]) | (refine Br.mk (fun h => ?_) (fun h => ?_) <;> try simp (dsimp := false) (disch := omega) only [wrap64]) | refine Ob.mk (by first | omega | (intro _ _; rfl) | trivial | (intros; trivial) | assumption | (intro i hi; have h0 : i = 0 := (by omega); subst h0; first | rfl | trivial) | (intro i hi; have h0 : i = 0 ∨ i = 1 := (by omega); rcases h0 with rfl | rfl <;> rfl) | (intro i hi; have h0 : i = 0 ∨ i = 1 ∨ i = 2 := (by omega); rcases h0 with rfl | rfl | rfl <;> rfl)) ?_ | apply_assumption -exfalso -symm)
  all_goals (first | (show endQ _ _ _ _ _ _ _; (repeat (rename (∀ (A : Fr) (H : Hp), AWP _ _ _ _ A H → _) => hK; clear hK)); (repeat (rename (Fr → Hp → Prop) => K; clear K))) | (show Exists _; (repeat (rename (∀ (A : Fr) (H : Hp), AWP _ _ _ _ A H → _) => hK; clear hK)); (repeat (rename (Fr → Hp → Prop) => K; clear K))) | skip)
  obtain ⟨n, rfl⟩ := Int.eq_ofNat_of_zero_le hv.1
  refine awp_loop (ι := Nat × List Int × Dc) (fun k => [(8, .v (.int .i64 ((k.1 : Nat)))), (7, .own 9 0 1 k.2.1.length), (0, .ref 1000000 0), (1, .v (.int .i64 ((m : Int))))]) (fun k => (Hp.emp.upd 1000000 (.cells 3 (dF .u64 k.2.2))).upd 9 (.cells k.2.1.length (cM iv 0 k.2.1))) (fun k => k.1 + k.2.1.length ≤ n ∧ ∀ x ∈ k.2.1, isL (m : Int) x) (fun k => k.1) (n, [], d') ⟨by simp, by simp⟩ (Sub.toL (by simp only [go_sem] <;> first | trivial | (simp only [Option.some.injEq, AV.v.injEq, AV.own.injEq, AV.list.injEq, Value.int.injEq, Value.bool.injEq, true_and, and_true]; first | omega | (simp; done)) | (simp; done) | (simp; omega)) (by (repeat' (first | exact Hp.le_emp _ | exact Hp.le_refl _ | refine Hp.le_upd ?_ ?_)); all_goals (first | rfl | (simp only [go_sem]; first | rfl | (refine cellsE ?_ ?_ <;> (simp)) | (simp))))) ?_
  rintro ⟨k, w, d1⟩ ⟨hk, hw⟩
  dsimp only at hk hw ⊢
  repeat' (first | ((first | refine atF (f := 61) ?_ | refine atQ (f := 61) ?_); (refine callD (by rfl) (w9Letter_ok _ _ hm) (by rintro _ ⟨v, _, rfl⟩ _; rfl) (fun r d2 hq => ?_); obtain ⟨v, hv2, rfl⟩ := hq) <;> simp (maxSteps := 1000000) (dsimp := false) (implicitDefEqProofs := false) (disch := omega) only [wrap64, go_sem]) | refine awp_seqK fun K hK => ?_ | (refine awp_regionK 33223 rfl ?_; simp only [List.map_cons, List.map_nil]; simp (maxSteps := 1000000) (dsimp := false) (implicitDefEqProofs := false) (disch := omega) only [wrap64, go_sem]) | (refine awp_regionQK 33223 (by kernel_rfl) (by kernel_rfl) (by kernel_rfl) ?_; simp only [List.map_cons, List.map_nil]; simp (maxSteps := 1000000) (dsimp := false) (implicitDefEqProofs := false) (disch := omega) only [wrap64, go_sem]) | refine awp_block ?_ | (refine awp_skip ?_; simp only [go_sem]) | (refine awp_exit ?_; simp only [go_sem]) | (refine awp_ret ?_; try simp only [go_sem]) | (refine awp_condP rfl ?_; try simp only [go_sem]) | (refine BrP.mk (fun h => ?_) (fun h => ?_) <;> try simp (dsimp := false) (disch := omega) only [wrap64]) | (refine Br.mk (fun h => ?_) (fun h => ?_) <;> try simp (dsimp := false) (disch := omega) only [wrap64]) | refine Ob.mk (by first | omega | (intro _ _; rfl) | trivial | (intros; trivial) | assumption | (intro i hi; have h0 : i = 0 := (by omega); subst h0; first | rfl | trivial) | (intro i hi; have h0 : i = 0 ∨ i = 1 := (by omega); rcases h0 with rfl | rfl <;> rfl) | (intro i hi; have h0 : i = 0 ∨ i = 1 ∨ i = 2 := (by omega); rcases h0 with rfl | rfl | rfl <;> rfl)) ?_ | apply_assumption -exfalso -symm)
  all_goals (first | (show endQ _ _ _ _ _ _ _; (repeat (rename (∀ (A : Fr) (H : Hp), AWP _ _ _ _ A H → _) => hK; clear hK)); (repeat (rename (Fr → Hp → Prop) => K; clear K))) | (show Exists _; (repeat (rename (∀ (A : Fr) (H : Hp), AWP _ _ _ _ A H → _) => hK; clear hK)); (repeat (rename (Fr → Hp → Prop) => K; clear K))) | skip)
  · refine ⟨(k - 1, w ++ [v], d2), ⟨by simp; omega, fun x hx => ?_⟩, by omega, Sub.toL (by simp only [go_sem] <;> first | trivial | (simp only [Option.some.injEq, AV.v.injEq, AV.own.injEq, AV.list.injEq, Value.int.injEq, Value.bool.injEq, true_and, and_true]; first | omega | (simp; done)) | (simp; done) | (simp; omega)) (by (repeat' (first | exact Hp.le_emp _ | exact Hp.le_refl _ | refine Hp.le_upd ?_ ?_)); all_goals (first | rfl | (simp only [go_sem]; first | rfl | (refine cellsE ?_ ?_ <;> (simp)) | (simp))))⟩
    rcases List.mem_append.1 hx with h1 | h1
    · exact hw x h1
    · rw [List.mem_singleton.1 h1]; exact hv2
  · refine end_postS (H' := DH .u64 d1) rfl (Sub.toFF (fun x => x = 9) (Fr.fit_cons rfl (fits_I rfl rfl rfl rfl) (Fr.fit_nil _)) (leF_upd rfl (.refl _ _ _) leF_emp (by omega))) ⟨d1, ⟨w, ⟨⟨by omega, fun j hj => hw _ ?_⟩, by omega⟩, rfl⟩, rfl⟩
    rw [List.getD_eq_getElem?_getD, List.getElem?_eq_getElem hj]; exact List.getElem_mem hj
theorem lets_all : ∀ (m : Nat) (l : Int), l ≠ 0 → -(m : Int) ≤ l → l ≤ m → l ∈ lets m
  | 0, l, h, h1, h2 => by omega
  | m + 1, l, h, h1, h2 => by
    unfold lets
    rw [List.mem_append]
    by_cases e : -(m : Int) ≤ l ∧ l ≤ m
    · exact .inl (lets_all m l h e.1 e.2)
    · refine .inr ?_
      simp only [List.mem_cons, List.not_mem_nil, or_false]
      omega
/-- A word leads from a row to a row. -/
theorem app_mem {p : Pz} (h : (XS p).isSome = true) {s w : List Int} (hs : s ∈ (XA p).st) (hw : isW p.m.length w) : appW p s w = (appP p s w, true) ∧ appP p s w ∈ (XA p).st := by
  obtain ⟨hz, hwh, hx⟩ := XA_whole h
  have hst := XA_isSt h hs
  refine ⟨if_pos ⟨hst, hw⟩, ?_⟩
  have hl : ∀ x ∈ w, isL p.m.length x := fun x hx => by
    obtain ⟨j, hj, rfl⟩ := List.mem_iff_getElem.1 hx
    have := hw.2 j hj
    rwa [List.getD_eq_getElem?_getD, List.getElem?_eq_getElem hj] at this
  have hL : ∀ l ∈ w.map (fun l => (l, letP p.m l)), l ∈ lsP p := fun l hm => by
    obtain ⟨x, hx, rfl⟩ := List.mem_map.1 hm
    have := hl x hx
    unfold isL at this
    exact List.mem_map.2 ⟨x, lets_all _ _ this.1 (by omega) (by omega), rfl⟩
  have h1 := (hwh.far (w.map fun l => (l, letP p.m l)) s hs hL).1
  rw [Go.Pm.act_comp (lsP_pm hz) _ s hst.pm hL, act_ev] at h1
  exact h1
theorem XA_idn {p : Pz} (h : (XS p).isSome = true) : idn p.n.toNat ∈ (XA p).st := (XA_whole h).2.1.idn_mem.1
theorem w9State_ok (d : Dc) (p : Pz) (hp : smallP p) : AC Try.prog 11 [.ref 1000000 0, pz p] (DH .u64 d) pM (postD .u64 fun r => ∃ s : List Int, s ∈ (XA p).st ∧ r = ints s) := by
  have h := (small hp.1 hp.2.2.1).1
  have hn := hp.2.1
  have hn5 := hp.2.2.1
  have hm := hp.2.2.2
  refine ac_of_awp (N := ⟨_, pM, fun h hh => pM_low (Nat.lt_of_lt_of_le hh (by decide))⟩) Try.func11 rfl (by kernel_rfl) Try.ntmps11 (by simp) ?_
  simp only [argsFr, List.zipIdx_cons, List.zipIdx_nil, go_sem]
  unfold DH
  repeat' (first | ((refine callDD (by rfl) (w9Word_ok _ 2 8 (by omega) (by omega)) (by rintro _ ⟨v, _, rfl⟩ _; rfl) (fun r d2 hq => ?_); obtain ⟨w, ⟨hw, _⟩, rfl⟩ := hq) <;> simp (maxSteps := 1000000) (dsimp := false) (implicitDefEqProofs := false) (disch := omega) only [wrap64, go_sem]) | (refine awp_regionDK 59 1 5 (by kernel_rfl) (by kernel_rfl) (by kernel_rfl) ?_; simp only [List.map_cons, List.map_nil, opsD, List.take_succ_cons, List.take_zero, List.drop_succ_cons, List.drop_zero]; simp (maxSteps := 1000000) (dsimp := false) (implicitDefEqProofs := false) (disch := omega) only [wrap64, go_sem]) | refine awp_seqK fun K hK => ?_ | (refine awp_regionK 59 rfl ?_; simp only [List.map_cons, List.map_nil]; simp (maxSteps := 1000000) (dsimp := false) (implicitDefEqProofs := false) (disch := omega) only [wrap64, go_sem]) | (refine awp_regionQK 59 (by kernel_rfl) (by kernel_rfl) (by kernel_rfl) ?_; simp only [List.map_cons, List.map_nil]; simp (maxSteps := 1000000) (dsimp := false) (implicitDefEqProofs := false) (disch := omega) only [wrap64, go_sem]) | refine awp_block ?_ | (refine awp_skip ?_; simp only [go_sem]) | (refine awp_exit ?_; simp only [go_sem]) | (refine awp_ret ?_; try simp only [go_sem]) | (refine awp_condP rfl ?_; try simp only [go_sem]) | (refine BrP.mk (fun h => ?_) (fun h => ?_) <;> try simp (dsimp := false) (disch := omega) only [wrap64]) | (refine Br.mk (fun h => ?_) (fun h => ?_) <;> try simp (dsimp := false) (disch := omega) only [wrap64]) | refine Ob.mk (by first | omega | (intro _ _; rfl) | trivial | (intros; trivial) | assumption | (intro i hi; have h0 : i = 0 := (by omega); subst h0; first | rfl | trivial) | (intro i hi; have h0 : i = 0 ∨ i = 1 := (by omega); rcases h0 with rfl | rfl <;> rfl) | (intro i hi; have h0 : i = 0 ∨ i = 1 ∨ i = 2 := (by omega); rcases h0 with rfl | rfl | rfl <;> rfl)) ?_ | ((first | ((first | refine atF (f := 45) ?_ | refine atQ (f := 45) ?_); (first | (refine cFI (hac := specIdentI_ok p.n (by omega) 20) (hK := ?_)) | (refine cQI (hac := specIdentI_ok p.n (by omega) 20) (hK := ?_)))) | ((first | refine atF (f := 14) ?_ | refine atQ (f := 14) ?_); (first | (refine cIBf (hac := specApplyWord_ok p (idn p.n.toNat) w 21) (hK := ?_)) | (refine cQIB (hac := specApplyWord_ok p (idn p.n.toNat) w 21) (hK := ?_)) | (refine cFIB (hac := specApplyWord_ok p (idn p.n.toNat) w 21) (hK := ?_))))); simp (maxSteps := 1000000) (dsimp := false) (implicitDefEqProofs := false) (disch := omega) only [wrap64, go_sem]) | apply_assumption -exfalso -symm)
  all_goals (first | (show endQ _ _ _ _ _ _ _; (repeat (rename (∀ (A : Fr) (H : Hp), AWP _ _ _ _ A H → _) => hK; clear hK)); (repeat (rename (Fr → Hp → Prop) => K; clear K))) | (show Exists _; (repeat (rename (∀ (A : Fr) (H : Hp), AWP _ _ _ _ A H → _) => hK; clear hK)); (repeat (rename (Fr → Hp → Prop) => K; clear K))) | skip)
  · obtain ⟨a1, a2⟩ := app_mem h (XA_idn h) (w := w) (by rw [hm]; exact hw)
    rw [a1]
    exact end_post rfl rfl (Hp.le_upd rfl (Hp.le_emp _)) ⟨d2, ⟨_, a2, rfl⟩, rfl⟩
end Go.Proofs.Ytiihgbobdipikaa
end
/- Which of two words is less. -/
section
namespace Go.Proofs.Ytiihgbobdipikaa
open Go.Av
set_option linter.unusedSimpArgs false
set_option linter.unusedVariables false
attribute [local irreducible] AWP CallG Ob Br BrP Go.Av.Sub endQ AOps OpV AC thenA blkA opsVC opVC withA withArgs opsQ opQ CallQ withA2 withArgs2
def rk (x : Int) : Int := if x < 0 then -2 * x - 1 else 2 * x - 2
theorem letterRank_ok (x : Int) (hx : -100 ≤ x ∧ x ≤ 100) : AC Try.prog 99 [.v (.int .i64 (x))] Hp.emp (fun _ => false) (retV (.v (.int .i64 (rk x)))) := by
  refine ac_of_awp (N := ⟨_, fun _ => false, fun _ _ => rfl⟩) Try.func99 rfl (by kernel_rfl) Try.ntmps99 (by simp) ?_
  simp only [argsFr, List.zipIdx_cons, List.zipIdx_nil, go_sem]
  repeat' (first | refine awp_seqK fun K hK => ?_ | (refine awp_regionK 21 rfl ?_; simp only [List.map_cons, List.map_nil]; simp (maxSteps := 1000000) (dsimp := false) (implicitDefEqProofs := false) (disch := omega) only [wrap64, go_sem]) | (refine awp_regionQK 21 (by kernel_rfl) (by kernel_rfl) (by kernel_rfl) ?_; simp only [List.map_cons, List.map_nil]; simp (maxSteps := 1000000) (dsimp := false) (implicitDefEqProofs := false) (disch := omega) only [wrap64, go_sem]) | refine awp_block ?_ | (refine awp_skip ?_; simp only [go_sem]) | (refine awp_exit ?_; simp only [go_sem]) | (refine awp_ret ?_; try simp only [go_sem]) | (refine awp_condP rfl ?_; try simp only [go_sem]) | (refine BrP.mk (fun h => ?_) (fun h => ?_) <;> try simp (dsimp := false) (disch := omega) only [wrap64]) | (refine Br.mk (fun h => ?_) (fun h => ?_) <;> try simp (dsimp := false) (disch := omega) only [wrap64]) | refine Ob.mk (by first | omega | (intro _ _; rfl) | trivial | (intros; trivial) | assumption | (intro i hi; have h0 : i = 0 := (by omega); subst h0; first | rfl | trivial) | (intro i hi; have h0 : i = 0 ∨ i = 1 := (by omega); rcases h0 with rfl | rfl <;> rfl) | (intro i hi; have h0 : i = 0 ∨ i = 1 ∨ i = 2 := (by omega); rcases h0 with rfl | rfl | rfl <;> rfl)) ?_ | apply_assumption -exfalso -symm)
  all_goals (first | (show endQ _ _ _ _ _ _ _; (repeat (rename (∀ (A : Fr) (H : Hp), AWP _ _ _ _ A H → _) => hK; clear hK)); (repeat (rename (Fr → Hp → Prop) => K; clear K))) | (show Exists _; (repeat (rename (∀ (A : Fr) (H : Hp), AWP _ _ _ _ A H → _) => hK; clear hK)); (repeat (rename (Fr → Hp → Prop) => K; clear K))) | skip)
  · rw [show rk x = -2 * x - 1 from if_pos h]
    exact end_retV' rfl rfl rfl
  · rw [show rk x = 2 * x - 2 from if_neg h]
    exact end_retV' rfl rfl rfl
theorem wordLess_no (a b : List Int) (hl : a.length = b.length) (ha : isW 8 a) (hb : isW 8 b) (hno : Hold (∀ k, k < a.length → (∀ j, j < k → a.getD j 0 = b.getD j 0) → rk (b.getD k 0) ≤ rk (a.getD k 0))) : AC Try.prog 63 [ints a, ints b] Hp.emp (fun _ => false) (retV (.v (.bool (false)))) := by
  have hla := ha.1
  refine ac_of_awp (N := ⟨_, fun _ => false, fun _ _ => rfl⟩) Try.func63 rfl (by kernel_rfl) Try.ntmps63 (by simp) ?_
  simp only [argsFr, List.zipIdx_cons, List.zipIdx_nil, go_sem]
  repeat' (first | refine awp_seqK fun K hK => ?_ | (refine awp_regionK 1074267187 rfl ?_; simp only [List.map_cons, List.map_nil]; simp (maxSteps := 1000000) (dsimp := false) (implicitDefEqProofs := false) (disch := omega) only [wrap64, go_sem]) | (refine awp_regionQK 1074267187 (by kernel_rfl) (by kernel_rfl) (by kernel_rfl) ?_; simp only [List.map_cons, List.map_nil]; simp (maxSteps := 1000000) (dsimp := false) (implicitDefEqProofs := false) (disch := omega) only [wrap64, go_sem]) | refine awp_block ?_ | (refine awp_skip ?_; simp only [go_sem]) | (refine awp_exit ?_; simp only [go_sem]) | (refine awp_ret ?_; try simp only [go_sem]) | (refine awp_condP rfl ?_; try simp only [go_sem]) | (refine BrP.mk (fun h => ?_) (fun h => ?_) <;> try simp (dsimp := false) (disch := omega) only [wrap64]) | (refine Br.mk (fun h => ?_) (fun h => ?_) <;> try simp (dsimp := false) (disch := omega) only [wrap64]) | refine Ob.mk (by first | omega | (intro _ _; rfl) | trivial | (intros; trivial) | assumption | (intro i hi; have h0 : i = 0 := (by omega); subst h0; first | rfl | trivial) | (intro i hi; have h0 : i = 0 ∨ i = 1 := (by omega); rcases h0 with rfl | rfl <;> rfl) | (intro i hi; have h0 : i = 0 ∨ i = 1 ∨ i = 2 := (by omega); rcases h0 with rfl | rfl | rfl <;> rfl)) ?_ | apply_assumption -exfalso -symm)
  all_goals (first | (show endQ _ _ _ _ _ _ _; (repeat (rename (∀ (A : Fr) (H : Hp), AWP _ _ _ _ A H → _) => hK; clear hK)); (repeat (rename (Fr → Hp → Prop) => K; clear K))) | (show Exists _; (repeat (rename (∀ (A : Fr) (H : Hp), AWP _ _ _ _ A H → _) => hK; clear hK)); (repeat (rename (Fr → Hp → Prop) => K; clear K))) | skip)
  · refine awp_loop (ι := Nat) (fun k => [(5, .v (.int .i64 (k))), (0, .list false 1 (a).length (cM iv 0 (a))), (1, .list false 1 (b).length (cM iv 0 (b)))]) (fun k => Hp.emp) (fun k => k ≤ a.length ∧ ∀ j, j < k → a.getD j 0 = b.getD j 0) (fun k => a.length - k) 0 ?_ (Sub.toL (by simp only [go_sem] <;> first | trivial | (simp only [Option.some.injEq, AV.v.injEq, AV.own.injEq, AV.list.injEq, Value.int.injEq, Value.bool.injEq, true_and, and_true]; first | omega | (simp; done)) | (simp; done) | (simp; omega)) (by (repeat' (first | exact Hp.le_emp _ | exact Hp.le_refl _ | refine Hp.le_upd ?_ ?_)); all_goals (first | rfl | (simp only [go_sem]; first | rfl | (refine cellsE ?_ ?_ <;> (simp)) | (simp))))) ?_
    · exact ⟨Nat.zero_le _, fun j h => absurd h (Nat.not_lt_zero _)⟩
    intro k hk
    have hka := fun h : k < a.length => ha.2 k h
    have hkb := fun h : k < a.length => hb.2 k (hl ▸ h)
    have hkn := fun h : k < a.length => hno.h k h hk.2
    unfold isL at hka hkb
    repeat' (first | refine awp_seqK fun K hK => ?_ | (refine awp_regionK 1074267187 rfl ?_; simp only [List.map_cons, List.map_nil]; simp (maxSteps := 1000000) (dsimp := false) (implicitDefEqProofs := false) (disch := omega) only [wrap64, go_sem]) | (refine awp_regionQK 1074267187 (by kernel_rfl) (by kernel_rfl) (by kernel_rfl) ?_; simp only [List.map_cons, List.map_nil]; simp (maxSteps := 1000000) (dsimp := false) (implicitDefEqProofs := false) (disch := omega) only [wrap64, go_sem]) | refine awp_block ?_ | (refine awp_skip ?_; simp only [go_sem]) | (refine awp_exit ?_; simp only [go_sem]) | (refine awp_ret ?_; try simp only [go_sem]) | (refine awp_condP rfl ?_; try simp only [go_sem]) | (refine BrP.mk (fun h => ?_) (fun h => ?_) <;> try simp (dsimp := false) (disch := omega) only [wrap64]) | (refine Br.mk (fun h => ?_) (fun h => ?_) <;> try simp (dsimp := false) (disch := omega) only [wrap64]) | refine Ob.mk (by first | omega | (intro _ _; rfl) | trivial | (intros; trivial) | assumption | (intro i hi; have h0 : i = 0 := (by omega); subst h0; first | rfl | trivial) | (intro i hi; have h0 : i = 0 ∨ i = 1 := (by omega); rcases h0 with rfl | rfl <;> rfl) | (intro i hi; have h0 : i = 0 ∨ i = 1 ∨ i = 2 := (by omega); rcases h0 with rfl | rfl | rfl <;> rfl)) ?_ | ((first | ((first | refine atF (f := 99) ?_ | refine atQ (f := 99) ?_); (first | (refine cV (hac := letterRank_ok (a.getD k 0) (by omega)) (hK := ?_)) | (refine cQV (hac := letterRank_ok (a.getD k 0) (by omega)) (hK := ?_)))) | ((first | refine atF (f := 99) ?_ | refine atQ (f := 99) ?_); (first | (refine cV (hac := letterRank_ok (b.getD k 0) (by omega)) (hK := ?_)) | (refine cQV (hac := letterRank_ok (b.getD k 0) (by omega)) (hK := ?_))))); simp (maxSteps := 1000000) (dsimp := false) (implicitDefEqProofs := false) (disch := omega) only [wrap64, go_sem]) | apply_assumption -exfalso -symm)
    all_goals (first | (show endQ _ _ _ _ _ _ _; (repeat (rename (∀ (A : Fr) (H : Hp), AWP _ _ _ _ A H → _) => hK; clear hK)); (repeat (rename (Fr → Hp → Prop) => K; clear K))) | (show Exists _; (repeat (rename (∀ (A : Fr) (H : Hp), AWP _ _ _ _ A H → _) => hK; clear hK)); (repeat (rename (Fr → Hp → Prop) => K; clear K))) | skip)
    · refine ⟨k + 1, ?_, ?_, Sub.toL (by simp only [go_sem] <;> first | trivial | (simp only [Option.some.injEq, AV.v.injEq, AV.own.injEq, AV.list.injEq, Value.int.injEq, Value.bool.injEq, true_and, and_true]; first | omega | (simp; done)) | (simp; done) | (simp; omega)) (by (repeat' (first | exact Hp.le_emp _ | exact Hp.le_refl _ | refine Hp.le_upd ?_ ?_)); all_goals (first | rfl | (simp only [go_sem]; first | rfl | (refine cellsE ?_ ?_ <;> (simp)) | (simp))))⟩
      · refine ⟨by omega, fun j hj => ?_⟩
        by_cases e : j = k
        · subst e; assumption
        · exact hk.2 j (by omega)
      · omega
    · have e := hkn (by omega)
      rw [show decide (rk (a.getD k 0) < rk (b.getD k 0)) = false from decide_eq_false (by omega)]
      exact end_retV rfl rfl
    · exact end_retV rfl rfl

theorem WordLess_no (a b : List Int) (hl : a.length = b.length) (ha : isW 8 a) (hb : isW 8 b) (hno : Hold (∀ k, k < a.length → (∀ j, j < k → a.getD j 0 = b.getD j 0) → rk (b.getD k 0) ≤ rk (a.getD k 0))) : AC Try.prog 23 [ints a, ints b] Hp.emp (fun _ => false) (retV (.v (.bool (false)))) := by
  refine ac_of_awp (N := ⟨_, fun _ => false, fun _ _ => rfl⟩) Try.func23 rfl (by kernel_rfl) Try.ntmps23 (by simp) ?_
  simp only [argsFr, List.zipIdx_cons, List.zipIdx_nil, go_sem]
  repeat' (first | refine awp_seqK fun K hK => ?_ | (refine awp_regionK 19 rfl ?_; simp only [List.map_cons, List.map_nil]; simp (maxSteps := 1000000) (dsimp := false) (implicitDefEqProofs := false) (disch := omega) only [wrap64, go_sem]) | (refine awp_regionQK 19 (by kernel_rfl) (by kernel_rfl) (by kernel_rfl) ?_; simp only [List.map_cons, List.map_nil]; simp (maxSteps := 1000000) (dsimp := false) (implicitDefEqProofs := false) (disch := omega) only [wrap64, go_sem]) | refine awp_block ?_ | (refine awp_skip ?_; simp only [go_sem]) | (refine awp_exit ?_; simp only [go_sem]) | (refine awp_ret ?_; try simp only [go_sem]) | (refine awp_condP rfl ?_; try simp only [go_sem]) | (refine BrP.mk (fun h => ?_) (fun h => ?_) <;> try simp (dsimp := false) (disch := omega) only [wrap64]) | (refine Br.mk (fun h => ?_) (fun h => ?_) <;> try simp (dsimp := false) (disch := omega) only [wrap64]) | refine Ob.mk (by first | omega | (intro _ _; rfl) | trivial | (intros; trivial) | assumption | (intro i hi; have h0 : i = 0 := (by omega); subst h0; first | rfl | trivial) | (intro i hi; have h0 : i = 0 ∨ i = 1 := (by omega); rcases h0 with rfl | rfl <;> rfl) | (intro i hi; have h0 : i = 0 ∨ i = 1 ∨ i = 2 := (by omega); rcases h0 with rfl | rfl | rfl <;> rfl)) ?_ | ((first | ((first | refine atF (f := 62) ?_ | refine atQ (f := 62) ?_); (first | (refine cV (hac := isWord_ok a) (hK := ?_)) | (refine cQV (hac := isWord_ok a) (hK := ?_)))) | ((first | refine atF (f := 62) ?_ | refine atQ (f := 62) ?_); (first | (refine cV (hac := isWord_ok b) (hK := ?_)) | (refine cQV (hac := isWord_ok b) (hK := ?_)))) | ((first | refine atF (f := 63) ?_ | refine atQ (f := 63) ?_); (first | (refine cV (hac := wordLess_no a b hl ha hb hno) (hK := ?_)) | (refine cQV (hac := wordLess_no a b hl ha hb hno) (hK := ?_))))); simp (maxSteps := 1000000) (dsimp := false) (implicitDefEqProofs := false) (disch := omega) only [wrap64, go_sem]) | apply_assumption -exfalso -symm)
  all_goals (first | (show endQ _ _ _ _ _ _ _; (repeat (rename (∀ (A : Fr) (H : Hp), AWP _ _ _ _ A H → _) => hK; clear hK)); (repeat (rename (Fr → Hp → Prop) => K; clear K))) | (show Exists _; (repeat (rename (∀ (A : Fr) (H : Hp), AWP _ _ _ _ A H → _) => hK; clear hK)); (repeat (rename (Fr → Hp → Prop) => K; clear K))) | skip)
  all_goals exact end_retV rfl rfl
end Go.Proofs.Ytiihgbobdipikaa
end
/- Shortest words: the least of them is the program's; plain. -/
section
namespace Go.Proofs.Ytiihgbobdipikaa
open Go.Av
set_option linter.unusedSimpArgs false
set_option linter.unusedVariables false
attribute [local irreducible] AWP CallG Ob Br BrP Go.Av.Sub endQ AOps OpV AC thenA blkA opsVC opVC withA withArgs opsQ opQ CallQ withA2 withArgs2
open Go.Pm (Pm comp invp idn img Bf act)
theorem rk_lets : ∀ (m i : Nat), i < 2 * m → rk ((lets m).getD i 0) = (i : Int)
  | 0, i, h => by omega
  | m + 1, i, h => by
    have hl := lets_length m
    unfold lets
    by_cases e : i < 2 * m
    · rw [List.getD_eq_getElem?_getD, List.getElem?_append_left (by omega), ← List.getD_eq_getElem?_getD]
      exact rk_lets m i e
    · have e2 : i = 2 * m ∨ i = 2 * m + 1 := by omega
      rcases e2 with rfl | rfl
      · rw [List.getD_eq_getElem?_getD, List.getElem?_append_right (by omega), hl, Nat.sub_self]
        show rk ((m : Int) + 1) = _
        unfold rk; rw [if_neg (by omega)]; omega
      · rw [List.getD_eq_getElem?_getD, List.getElem?_append_right (by omega), hl, show 2 * m + 1 - 2 * m = 1 by omega]
        show rk (-((m : Int) + 1)) = _
        unfold rk; rw [if_pos (by omega)]; omega
section
variable {Ls : List (Int × List Int)} {n : Nat} {B : Bf}
/-- A word takes off at most as many depths as it has letters. -/
theorem near_ok (h : Bf.Whole n Ls (idn n) B) (hG : ∀ g ∈ Ls.map (·.2), Pm n g) (hI : Go.Pm.InvL n Ls) : ∀ (w : List (Int × List Int)) (s : List Int), s ∈ B.st → (∀ l ∈ w, l ∈ Ls) → act s w ∈ B.st ∧ B.dp.getD (B.st.idxOf s) 0 ≤ B.dp.getD (B.st.idxOf (act s w)) 0 + w.length
  | [], s, hs, _ => ⟨hs, by simp [act]⟩
  | l :: w, s, hs, hw => by
    have hl := hw l (by simp)
    have h1 := h.cl s hs l hl
    obtain ⟨h2, h3⟩ := near_ok h hG hI w (comp s l.2) h1 (fun x hx => hw x (by simp [hx]))
    have h4 := h.low hG hI (List.idxOf_lt_length_iff.2 hs) hl
    rw [Go.Pm.getD_idx hs] at h4
    refine ⟨h2, ?_⟩
    show B.dp.getD (B.st.idxOf s) 0 ≤ B.dp.getD (B.st.idxOf (act (comp s l.2) w)) 0 + ((w.length + 1 : Nat) : Int)
    omega
theorem fst_le {k i m : Nat} (hi : i < m) (hd : B.dn k i = true) : B.fst m k ≤ i := by
  obtain ⟨j, h1, h2, h3⟩ := Go.Pm.first_of hi hd
  rw [Bf.fst_eq h1 h2 h3]
  rcases Nat.lt_or_ge i j with h | h
  · rw [h3 i h] at hd; cases hd
  · exact h
end
/-- The letters of a word that solves a row are not less than the program's. -/
theorem ow_least {p : Pz} (h : (XS p).isSome = true) {s o : List Int} (hs : s ∈ (XA p).st) (ho : isW p.m.length o) (hsol : appP p s o = idn p.n.toNat) (hlen : (o.length : Int) ≤ (XA p).dst s) :
    (o.length : Int) = (XA p).dst s ∧ ∀ k, k < o.length → (∀ j, j < k → o.getD j 0 = (wdB p (XA p) ((XA p).st.idxOf s)).getD j 0) → rk ((wdB p (XA p) ((XA p).st.idxOf s)).getD k 0) ≤ rk (o.getD k 0) := by
  obtain ⟨hz, hw, hx⟩ := XA_whole h
  have hG := lsP_pm hz
  have hI := lsP_inv hz
  have hst := XA_isSt h hs
  have hk0 := List.idxOf_lt_length_iff.2 hs
  obtain ⟨k0, hk⟩ : ∃ k, k = (XA p).st.idxOf s := ⟨_, rfl⟩
  have hds : (XA p).dst s = (XA p).dp.getD k0 0 := by rw [hk]; rfl
  rw [← hk] at hk0 ⊢
  have hsk : (XA p).st.getD k0 [] = s := by rw [hk]; exact Go.Pm.getD_idx hs
  have hl : ∀ x ∈ o, isL p.m.length x := fun x hx => by
    obtain ⟨j, hj, rfl⟩ := List.mem_iff_getElem.1 hx
    have := ho.2 j hj
    rwa [List.getD_eq_getElem?_getD, List.getElem?_eq_getElem hj] at this
  obtain ⟨W, hW⟩ : ∃ W, W = o.map fun l => (l, letP p.m l) := ⟨_, rfl⟩
  have hL : ∀ l ∈ W, l ∈ lsP p := fun l hm => by
    rw [hW] at hm
    obtain ⟨x, hx, rfl⟩ := List.mem_map.1 hm
    have := hl x hx
    unfold isL at this
    exact List.mem_map.2 ⟨x, lets_all _ _ this.1 (by omega) (by omega), rfl⟩
  have hWl : W.length = o.length := by rw [hW, List.length_map]
  have hact : act s W = idn p.n.toNat := by
    rw [Go.Pm.act_comp hG W s hst.pm hL, hW, act_ev]
    exact hsol
  have hid := hw.idn_mem
  have hnear := near_ok hw hG hI W s hs hL
  rw [hact, hid.2, hw.z, ← hk, hWl] at hnear
  have heq : (o.length : Int) = (XA p).dst s := by rw [hds] at hlen ⊢; omega
  refine ⟨heq, fun k hko hpre => ?_⟩
  rw [hds] at heq
  -- the row behind the first k letters
  obtain ⟨i1, i2⟩ := hw.itr hG hI hk0 k (by omega)
  have hwd : (wdB p (XA p) k0).length = o.length := by
    unfold wdB
    rw [Bf.wrd_length]; omega
  have htk : W.take k = (List.range k).map fun u => (lsP p).getD ((XA p).fst (lsP p).length ((XA p).itr (lsP p).length k0 u)) (0, []) := by
    have e1 := congrArg (List.take k) (wd_ls hw hz hk0)
    rw [← List.map_take, List.take_range, Nat.min_eq_left (by omega), ← List.map_take] at e1
    rw [e1, hW, ← List.map_take]
    congr 1
    refine List.ext_getElem (by rw [List.length_take, List.length_take, hwd]) fun j h1 h2 => ?_
    rw [List.length_take] at h1
    have := hpre j (by omega)
    rw [List.getD_eq_getElem?_getD, List.getD_eq_getElem?_getD, List.getElem?_eq_getElem (show j < o.length by omega), List.getElem?_eq_getElem (show j < (wdB p (XA p) k0).length by omega)] at this
    rw [List.getElem_take, List.getElem_take]
    exact this
  have hxk : act s (W.take k) = (XA p).st.getD ((XA p).itr (lsP p).length k0 k) [] := by
    rw [htk, ← hsk]
    exact hw.solves hG hI hk0 k (by omega)
  obtain ⟨q, hq⟩ : ∃ q, q = (XA p).itr (lsP p).length k0 k := ⟨_, rfl⟩
  rw [← hq] at hxk i1 i2
  -- the letter
  have hWk : W.drop k = (o.getD k 0, letP p.m (o.getD k 0)) :: W.drop (k + 1) := by
    rw [List.drop_eq_getElem_cons (show k < W.length by omega)]
    congr 1
    simp only [hW, List.getElem_map]
    rw [List.getD_eq_getElem?_getD, List.getElem?_eq_getElem hko]; rfl
  have hmem : (o.getD k 0, letP p.m (o.getD k 0)) ∈ lsP p := hL _ (by rw [← List.take_append_drop k W, hWk]; simp)
  obtain ⟨i, hi, hie⟩ := List.mem_iff_getElem.1 hmem
  have hll := lsP_length p
  have hlg := lsP_get p i (by omega)
  rw [List.getD_eq_getElem?_getD, List.getElem?_eq_getElem hi, Option.getD_some, hie, Prod.mk.injEq] at hlg
  have hsplit : act s W = act (comp (act s (W.take k)) (letP p.m (o.getD k 0))) (W.drop (k + 1)) := by
    have e : act s W = act (act s (W.take k)) (W.drop k) := by
      unfold Go.Pm.act
      rw [← List.foldl_append, List.take_append_drop]
    rw [e, hWk]; rfl
  have hin := hw.cl _ (Go.Pm.mem_getD i1) _ hmem
  have hn2 := near_ok hw hG hI (W.drop (k + 1)) _ hin (fun l hl => hL l (List.mem_of_mem_drop hl))
  rw [← hxk] at hn2
  dsimp only at hn2
  rw [← hsplit, hact, hid.2, hw.z, List.length_drop, hWl, hxk] at hn2
  have hdn : (XA p).dn q i = true := by
    unfold Bf.dn
    refine decide_eq_true ?_
    rw [(hw.nx q i1).2 i hi, Int.toNat_natCast, lsP_get p i (by omega)]
    dsimp only
    rw [← hlg.1]
    omega
  have hfl := fst_le hi hdn
  have hwk : (wdB p (XA p) k0).getD k 0 = (lets p.m.length).getD ((XA p).fst (lsP p).length q) 0 := by
    unfold wdB Bf.wrd
    rw [hq, List.getD_eq_getElem?_getD, List.getElem?_map, List.getElem?_range (by omega)]; rfl
  rw [hwk, hlg.1, rk_lets _ _ (by omega), rk_lets _ _ (by omega)]
  omega
theorem XA_sv' {p : Pz} (h : (XS p).isSome = true) : isSv p (idn p.n.toNat) := by
  refine ⟨XA_isSt h (XA_idn h), ?_⟩
  rw [Go.Pm.idn_length, idn_marks]
/-- What the program answers for a row of a small puzzle. -/
theorem ow_law {p : Pz} (hp : smallP p) {s : List Int} (hs : s ∈ (XA p).st) : (owP p s).2 = true ∧ (0 ≤ dstP p s ∧ dstP p s ≤ 120) ∧ (((owP p s).1.length : Nat) : Int) = dstP p s ∧ isW p.m.length (owP p s).1 ∧ appW p s (owP p s).1 = (idn p.n.toNat, true) ∧ isSv p (idn p.n.toNat) ∧ isPerm s ∧ dstP p (invp s) = dstP p s ∧ ioP p s (owP p s).1
    ∧ (oflP p s).length ≤ 1048576 ∧ (0 < dstP p s → 0 < (oflP p s).length ∧ (oflP p s).getD 0 0 = (owP p s).1.getD 0 0)
    ∧ ∀ o, isW p.m.length o → (o.length : Int) ≤ dstP p s → (appW p s o).2 = true ∧ (appW p s o).1.length ≤ 20 ∧ (isSv p (appW p s o).1 → (o.length : Int) = dstP p s ∧ Hold (∀ k, k < o.length → (∀ j, j < k → o.getD j 0 = (owP p s).1.getD j 0) → rk ((owP p s).1.getD k 0) ≤ rk (o.getD k 0))) := by
  obtain ⟨h, h120, hc⟩ := hp.ok
  obtain ⟨hz, hw, hx⟩ := XA_whole h
  have hG := lsP_pm hz
  have hI := lsP_inv hz
  have hst := XA_isSt h hs
  have hk := List.idxOf_lt_length_iff.2 hs
  have hd := dst_small h h120 hs
  have e0 := dstP_dst h hst hs
  have e : owP p s = (wdB p (XA p) ((XA p).st.idxOf s), true) := by
    unfold owP
    rw [if_pos ⟨by omega, by omega⟩]
  have hl : (wdB p (XA p) ((XA p).st.idxOf s)).length = ((XA p).dst s).toNat := Bf.wrd_length _ _ _ _ _
  have hW : isW p.m.length (wdB p (XA p) ((XA p).st.idxOf s)) := by
    refine ⟨by omega, fun j hj => ?_⟩
    have h1 : (wdB p (XA p) ((XA p).st.idxOf s)).getD j 0 ∈ wdB p (XA p) ((XA p).st.idxOf s) := by
      rw [List.getD_eq_getElem?_getD, List.getElem?_eq_getElem hj]; exact List.getElem_mem hj
    have h2 := wd_isL hw hz hk _ h1
    unfold inL at h2
    unfold isL
    have hm := hz.1.2.1
    omega
  have hsol := wd_solves hw hz hs hst.pm
  have happ : appW p s (wdB p (XA p) ((XA p).st.idxOf s)) = (idn p.n.toNat, true) := by
    unfold appW
    rw [if_pos ⟨hst, hW⟩]
    unfold appP
    rw [hsol]
  have hsv : isSv p (idn p.n.toNat) := by
    have := XA_sv' h
    exact this
  obtain ⟨hv1, hv2⟩ := hw.dst_inv hG hI hs hst.pm
  rw [e]
  dsimp only
  refine ⟨rfl, by omega, by rw [hl]; omega, hW, happ, hsv, hst.2.2, ?_, ⟨by omega, hW, by rw [hl]; omega, ?_⟩, ?_, fun h0 => ?_, fun o ho hol => ?_⟩
  · rw [dstP_dst h (XA_isSt h hv1) hv1, e0, hv2]
  · rw [hsol, hst.pm.1, ← idn_marks]
  · unfold oflP
    rw [if_pos (by omega)]
    have := (XA p).clF_le (lets p.m.length) ((XA p).st.idxOf s) (lsP p).length
    have h2 := lsP_length p
    have hm := hz.1.2.1
    omega
  · rw [e0] at h0
    have h0' : 0 < (XA p).dp.getD ((XA p).st.idxOf s) 0 := h0
    obtain ⟨f1, f2, f3, f4, f5⟩ := hw.fst hG hI hk h0'
    have eo : oflP p s = (XA p).clF (lets p.m.length) ((XA p).st.idxOf s) (lsP p).length := by
      unfold oflP; rw [if_pos (by omega)]
    rw [eo]
    refine ⟨by rw [clF_cls]; exact f3, ?_⟩
    rw [Bf.clF_0 f3]
    unfold wdB Bf.wrd
    rw [List.getD_eq_getElem?_getD, List.getD_eq_getElem?_getD, List.getElem?_map, List.getElem?_range (by omega)]
    show _ = (some _).getD 0
    rw [← List.getD_eq_getElem?_getD]; rfl
  · obtain ⟨a1, a2⟩ := app_mem h hs ho
    rw [a1]
    have ha := XA_isSt h a2
    have hn := ha.pm
    have hn5 := hp.2.2.1
    refine ⟨rfl, by dsimp only; rw [hn.1]; omega, fun hsv2 => ?_⟩
    have hid : appP p s o = idn p.n.toNat := by
      have := hsv2.2
      dsimp only at this
      rw [hn.1, ← idn_marks] at this
      exact this
    obtain ⟨b1, b2⟩ := ow_least h hs ho hid (by rw [← e0]; exact hol)
    exact ⟨by rw [b1, e0], ⟨b2⟩⟩
end Go.Proofs.Ytiihgbobdipikaa
end

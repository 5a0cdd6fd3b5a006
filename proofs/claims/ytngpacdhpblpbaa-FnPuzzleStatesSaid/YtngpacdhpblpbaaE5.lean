import Derived.Test.YtngpacdhpblpbaaE4
import Derived.RangeFuncNested
import Derived.RangeFuncBound
import Derived.RangeFuncCalls
import Derived.RangeFuncLeaves
import Derived.RangeFuncBox
import Derived.Shelf.Abstract
import Derived.Shelf.RegionOpen
import Derived.WalkKit
import Derived.OwnWalkIn
import Derived.TacticsInMore
import Derived.LoopNIn
import Derived.LoopIn
import Derived.Maps.AppendAt
import Derived.Test.YtngpacdhpblpbaaChecked
import Derived.Test.YtngpacdhpblpbaaE2
import Derived.Test.YtngpacdhpblpbaaE3
section
namespace Go.Proofs.Ytngpacdhpblpbaa
open Go.Av
set_option linter.unusedSimpArgs false
set_option linter.unusedVariables false
attribute [local irreducible] AWP CallG Ob Br BrP Go.Av.Sub endQ AOps OpV AC thenA blkA opsVC opVC withA withArgs opsQ opQ CallQ withA2 withArgs2

/- PatternOf -/
def pick (s l : List Int) : List Int := l.map fun x => s.getD x.toNat 0
theorem pick_length (s l : List Int) : (pick s l).length = l.length := by simp [pick]
theorem pick_step (s l : List Int) (k : Nat) (h : k < l.length) : pick s (l.take k) ++ [s.getD (l.getD k 0).toNat 0] = pick s (l.take (k + 1)) := by
  have e : l.getD k 0 = l[k] := by simp [h]
  rw [e, List.take_succ_eq_append_getElem h]
  unfold pick
  rw [List.map_append]
  rfl
theorem pick_set (s l : List Int) (k : Nat) (h : k < l.length) : (pick s (l.take k) ++ List.replicate (l.length - k) 0).set k (s.getD (l.getD k 0).toNat 0) = pick s (l.take (k + 1)) ++ List.replicate (l.length - (k + 1)) 0 := by
  rw [← pick_step s l k h, List.set_append_right _ _ (by simp [pick]; omega)]
  simp only [pick_length, List.length_take, Nat.min_eq_left (Nat.le_of_lt h), Nat.sub_self, List.append_assoc]
  rw [show l.length - k = (l.length - (k + 1)) + 1 by omega, List.replicate_succ, List.set_cons_zero]
  rfl

end Go.Proofs.Ytngpacdhpblpbaa
end
/- impl.inverseWord, walked on the kit's own level: a range over slices.Backward. -/
section
namespace Go.Proofs.Ytngpacdhpblpbaa
open Go.RowKit Go.Shelf
set_option linter.unusedVariables false
set_option linter.unusedSimpArgs false
attribute [local go_sem] Oper.semAt_some

/-- What has come when k rounds are over: f 0, .., f (k - 1). -/
def upto {α : Type} (f : Nat → α) (k : Nat) : List α := (List.range k).map f
theorem upto_succ {α : Type} (f : Nat → α) (k : Nat) : upto f (k + 1) = upto f k ++ [f k] := by simp [upto, List.range_succ]
theorem upto_length {α : Type} (f : Nat → α) (k : Nat) : (upto f k).length = k := by simp [upto]

/-- The slice value sv holds the numbers zs, in a block below n₀; or it is nil and there are none. -/
def BackInts (n₀ : Nat) (W : World) (sv : Value) (zs : List Int) : Prop :=
  ((∃ a cap, sv = .slice a 0 cap) ∧ zs = []) ∨ ∃ b off cap, sv = .slice (some ⟨b, off, none⟩) zs.length cap ∧ b < n₀ ∧ ∀ j, j < zs.length → W.cell? ⟨b, off + j, none⟩ = some (.int .i64 (zs[j]?.getD 0))
theorem BackInts.below {n₀ : Nat} {A B : World} (h : Below n₀ A B) {sv : Value} {zs : List Int} : BackInts n₀ A sv zs → BackInts n₀ B sv zs
  | .inl e => .inl e
  | .inr ⟨b, off, cap, e, hb, hc⟩ => .inr ⟨b, off, cap, e, hb, fun j hj => (h.cell (p := ⟨b, off + j, none⟩) hb).trans (hc j hj)⟩

/-- The pairs that come, the last first. -/
def bk (len : Nat) (zs : List Int) (j : Nat) : Nat × Int := (len - 1 - j, zs[len - 1 - j]?.getD 0)

/-- What a round keeps: whatever lay below n₀, and the block Bs. -/
def Kp (n₀ Bs : Nat) (W W' : World) : Prop := Below n₀ W W' ∧ W'.heap[Bs]? = W.heap[Bs]?
theorem Kp.refl (n₀ Bs : Nat) (W : World) : Kp n₀ Bs W W := ⟨Below.refl _ _, rfl⟩
theorem Kp.trans {n₀ Bs : Nat} {A B C : World} (h : Kp n₀ Bs A B) (k : Kp n₀ Bs B C) : Kp n₀ Bs A C := ⟨h.1.trans k.1, k.2.trans h.2⟩
theorem Kp.box {n₀ Bs : Nat} {A B : World} (h : Kp n₀ Bs A B) {v : Value} {t : TypeId} (hv : Boxed A Bs t v) : Boxed B Bs t v := h.2.trans hv

set_option maxRecDepth 100000 in
set_option maxHeartbeats 2000000 in
theorem back1_in (F : Fence) (n : Nat) (h8 : F.fn 174) (hro : F.round = none) (hn : 1 ≤ n) (l Bs n₀ b off len cap : Nat) (zs : List Int) (hreach : len * 8 ≤ 140737488351232) (hb : b < n₀) (J Jx : List (Nat × Int) → World → Prop)
    (hY : ∀ pre x W, J pre W → pre.length < len → YieldAt F (n - 1) Try.prog l #[.int .i64 (x.1 : Int), .int .i64 x.2] W fun e W' =>
      (e = .returned (.bool true) ∧ J (pre ++ [x]) W' ∧ Kp n₀ Bs W W') ∨ (e = .returned (.bool false) ∧ Jx (pre ++ [x]) W'))
    (W : World) (hBs : Boxed W Bs 27 (.slice (some ⟨b, off, none⟩) len cap)) (hc : ∀ j, j < len → W.cell? ⟨b, off + j, none⟩ = some (.int .i64 (zs[j]?.getD 0))) (h0 : J [] W) :
    CallsIn F n Try.prog 174 #[.func (.yield l) #[] #[], .pointer (some ⟨Bs, 0, none⟩)] W fun e W' => (∃ v, e = .returned v) ∧
      ((∃ ys, ys = upto (bk len zs) len ∧ J ys W') ∨ (∃ pre, (∃ k, k ≤ len ∧ pre = upto (bk len zs) k) ∧ Jx pre W')) := by
  refine callsIn_of_wp Try.func174 rfl h8 ?_ hro
  simp only [Try.ntmps174, List.size_toArray, List.length_cons, List.length_nil, Nat.reduceAdd, Nat.reduceSub, Array.replicate_succ, Array.replicate_zero, List.push_toArray, List.append_toArray, List.nil_append, List.cons_append]
  have hBc := hBs.cell
  gi_wp2
  gi_loopw [3] (fun i wr => ∃ r : Nat, r ≤ len ∧ i = .int .i64 ((r : Int) - 1) ∧ J (upto (bk len zs) (len - r)) wr ∧ Kp n₀ Bs W wr)
    (fun i _ => (intOf i + 1).toNat)
  case atStart => exact ⟨len, Nat.le_refl _, rfl, by rw [Nat.sub_self]; exact h0, Kp.refl _ _ _⟩
  case round =>
    obtain ⟨r, hr, rfl, hJs, hnx⟩ := hrel
    have hBs' := (hnx.box hBs).cell
    cases r with
    | zero =>
      rw [show (((0 : Nat) : Int) - 1) = -1 from rfl]
      gi_wp2
      go_end0
      exact ⟨⟨_, rfl⟩, .inl ⟨_, rfl, by simpa using hJs⟩⟩
    | succ m =>
      rw [show (((m + 1 : Nat) : Int) - 1) = (m : Int) by omega]
      have hcx : wr.cell? ⟨b, off + m, none⟩ = some (.int .i64 (zs[m]?.getD 0)) := (hnx.1.cell (p := ⟨b, off + m, none⟩) hb).trans (hc m (by omega))
      obtain ⟨fn, tmps, assign, body, hy, hR⟩ := hY _ (m, zs[m]?.getD 0) wr hJs (by rw [upto_length]; omega)
      dsimp only at hy
      have hlt : m < len := by omega
      have e1 : upto (bk len zs) (len - (m + 1)) ++ [(m, zs[m]?.getD 0)] = upto (bk len zs) (len - m) := by
        rw [show len - m = (len - (m + 1)) + 1 by omega, upto_succ]
        congr 2
        unfold bk
        rw [show len - 1 - (len - (m + 1)) = m by omega]
      rw [e1] at hR
      gi_wp2
      refine hR.mono ?_
      rintro e W3 (⟨rfl, hJ3, hk3⟩ | ⟨rfl, hJx3⟩)
      · gi_wp2
        go_roundw
        case rel => exact ⟨m, by omega, by simp, hJ3, hnx.trans hk3⟩
        case measure => simp [intOf]
      · gi_wp2
        refine bodyPost_ret (results_none rfl _ _ _) rfl ?_
        exact ⟨⟨_, rfl⟩, .inr ⟨_, ⟨len - m, by omega, rfl⟩, hJx3⟩⟩

set_option maxRecDepth 100000 in
set_option maxHeartbeats 1000000 in
theorem back1_nil_in (F : Fence) (n : Nat) (h8 : F.fn 174) (hro : F.round = none) (l Bs : Nat) (J : List (Nat × Int) → World → Prop) (W : World) (a : Option Addr) (cap : Nat) (hBs : Boxed W Bs 27 (.slice a 0 cap)) (h0 : J [] W) :
    CallsIn F n Try.prog 174 #[.func (.yield l) #[] #[], .pointer (some ⟨Bs, 0, none⟩)] W fun e W' => (∃ v, e = .returned v) ∧ J [] W' := by
  refine callsIn_of_wp Try.func174 rfl h8 ?_ hro
  simp only [Try.ntmps174, List.size_toArray, List.length_cons, List.length_nil, Nat.reduceAdd, Nat.reduceSub, Array.replicate_succ, Array.replicate_zero, List.push_toArray, List.append_toArray, List.nil_append, List.cons_append]
  have hBc := hBs.cell
  gi_wp2
  gi_loopw [3] (fun i wr => i = .int .i64 (-1) ∧ J [] wr) (fun _ _ => 0)
  case atStart => exact ⟨rfl, h0⟩
  case round =>
    obtain ⟨rfl, hJs⟩ := hrel
    gi_wp2
    go_end0
    exact ⟨⟨_, rfl⟩, hJs⟩

set_option maxHeartbeats 1000000 in
theorem backward_in (F : Fence) (n : Nat) (h6 : F.fn 137) (hro : F.round = none) (a : Option Addr) (len cap : Nat) (w : World) :
    CallsIn F n Try.prog 137 #[.slice a len cap] w fun e w' => e = .returned (.func (.func 174) #[] #[.pointer (some ⟨w.heap.size, 0, none⟩)]) ∧ w' = w.alloc (.cells #[.slice a len cap] 27) := by
  refine callsIn_of_wp Try.func137 rfl h6 ?_ hro
  simp only [Try.ntmps137, List.size_toArray, List.length_cons, List.length_nil, Nat.reduceAdd, Nat.reduceSub, Array.replicate_succ, Array.replicate_zero, List.push_toArray, List.append_toArray, List.nil_append, List.cons_append]
  gi_wp2
  go_ret
  exact ⟨rfl, rfl⟩

theorem back_stops (F : Fence) (n : Nat) (h8 : F.fn 174) (hro : F.round = none) (hn : 1 ≤ n) (Bs n₀ : Nat) (sv : Value) (zs : List Int) (hreach : zs.length * 8 ≤ 140737488351232) (w : World) (hn₀ : n₀ ≤ w.heap.size)
    (hc : Boxed w Bs 27 sv) (hI : BackInts n₀ w sv zs) :
    SeqStopsK F n Try.prog 174 #[.pointer (some ⟨Bs, 0, none⟩)] (fun x : Nat × Int => #[Value.int .i64 (x.1 : Int), Value.int .i64 x.2]) (Kp n₀ Bs) (fun ys => ys = upto (bk zs.length zs) zs.length)
      (fun pre => ∃ k, k ≤ zs.length ∧ pre = upto (bk zs.length zs) k) zs.length w := fun l J Jx W hW _ _ hY h0 => by
  have hc' : Boxed W Bs 27 sv := (hW.block Bs hc.lt).trans hc
  rcases hI.below (hW.mono hn₀) with ⟨⟨a, cap, rfl⟩, rfl⟩ | ⟨b, off, cap, rfl, hb, hcs⟩
  · exact (back1_nil_in F n h8 hro l Bs J W a cap hc' h0).mono fun e W' ⟨he, hj⟩ => ⟨he, .inl ⟨_, rfl, hj⟩⟩
  · exact back1_in F n h8 hro hn l Bs n₀ b off zs.length cap zs hreach hb J Jx hY W hc' hcs h0

theorem info_i64 : (Try.prog.info? 2).map (fun i => (i.zero, i.size, i.bytes)) = some (some (.int .i64 0), 1, 8) := by kernel_rfl

def negs (pre : List (Nat × Int)) : List Int := pre.map fun x => Go.RowKit.wrap64 (-x.2)
theorem negs_snoc (pre : List (Nat × Int)) (x : Nat × Int) : negs (pre ++ [x]) = negs pre ++ [Go.RowKit.wrap64 (-x.2)] := by simp [negs]

set_option maxRecDepth 100000 in
set_option maxHeartbeats 2000000 in
theorem inverseWord_in (F : Fence) (n : Nat) (h3 : F.fn 73) (h4 : F.fn 137) (h5 : F.fn 174) (hro : F.round = none) (hn : 3 ≤ n) (a : Option Addr) (len cap : Nat) (zs : List Int) (hlen : zs.length ≤ 1048576) (w : World) (hI : BackInts w.heap.size w (.slice a len cap) zs) :
    CallsIn F n Try.prog 73 #[.slice a len cap] w fun e W' => ∃ v, e = .returned v ∧ W'.ownsRow w.heap.size 2 1 v zs.length ((negs (upto (bk zs.length zs) zs.length)).map (Value.int .i64)) ∧ (v = .slice none 0 0 ↔ zs = []) ∧ Below w.heap.size w W' := by
  have h1 : 1 ≤ n := by omega
  obtain ⟨i0, hi, hz0, hz1, hz2⟩ := info_parts info_i64
  refine callsIn_of_wp_marks Try.func73 rfl h3 ?_ hro
  simp only [Try.ntmps73, List.size_toArray, List.length_cons, List.length_nil, Nat.reduceAdd, Nat.reduceSub, Array.replicate_succ, Array.replicate_zero, List.push_toArray, List.append_toArray, List.nil_append, List.cons_append]
  gi_wp2_with (gi_at_call 137; refine (backward_in F (n - 1) h4 hro _ _ _ _).mono ?_; rintro e w' ⟨rfl, rfl⟩)
  have bO := Boxed.new w 27 (.slice none 0 0)
  have bN := Boxed.new (w.alloc (.cells #[.slice none 0 0] 27)) 27 (.slice a len cap)
  rw [World.size_alloc] at bN
  have hB0 : Below w.heap.size w ((w.alloc (.cells #[.slice none 0 0] 27)).alloc (.cells #[.slice a len cap] 27)) := ((Below.refl _ w).alloc (Nat.le_refl _) _).alloc (by simp) _
  refine wpIn_rangeFunc_ownG hro h1 (gf := 174) (lb := #[.pointer (some ⟨w.heap.size + 1, 0, none⟩)]) rfl h5 (enters_of Try.func174 (by kernel_rfl) rfl)
    (back_stops F (n - 1) h5 hro (by omega) (w.heap.size + 1) w.heap.size (.slice a len cap) zs (by omega) _ (by simp; omega) bN (hI.below hB0)) (fun h k => h.trans k)
    (fun W l o o' hl ho h1 h2 => ⟨belowK_b (w := w) (Nat.le_refl _) W l o o' (by simp at hl; omega) ho h1 h2, World.putObj_heap_other (by simp at hl; omega)⟩) (Below.refl _ _) (fun _ => rfl)
    (fun pre W => ((∃ v, Boxed W w.heap.size 27 v ∧ W.ownsRow w.heap.size 2 1 v pre.length ((negs pre).map (Value.int .i64)) ∧ (v = .slice none 0 0 ↔ pre = [])) ∧ Boxed W (w.heap.size + 1) 27 (.slice a len cap)) ∧ Below w.heap.size w W)
    (fun _ _ _ => False)
    (OwnFrom.and (Own.from (fun s A B row hs hg hr => ⟨holdsRow_own w.heap.size w.heap.size 27 2 1 (fun pre : List (Nat × Int) => pre.length) (fun pre => (negs pre).map (Value.int .i64)) (fun pre v => v = .slice none 0 0 ↔ pre = []) s A B row hs.1 hg hr, boxed_own (β := List (Nat × Int)) (w.heap.size + 1) 27 (fun _ => .slice a len cap) s A B row hs.2 hg hr⟩) _) (ownFrom_below (Nat.le_refl _) (by simp; omega)))
    (fun _ _ _ _ _ hs _ _ => hs)
    ⟨⟨⟨_, bO.alloc _, World.ownsRow_nil _ _ _ _, by simp⟩, bN⟩, hB0⟩
    (fun x => { tmps := #[.slice a len cap, undef, .slice none 0 0, .pointer (some ⟨w.heap.size, 0, none⟩), undef, .int .i64 x.2, .slice a len cap, .func (.func 174) #[] #[.pointer (some ⟨w.heap.size + 1, 0, none⟩)], .int .i64 (x.1 : Int), .int .i64 x.2, undef, undef, undef, undef, undef, undef], defers := [] }) ?assign ?body ?done ?stop
  case assign =>
    intro l x W K hK
    gi_wp2
    exact hK
  case body =>
    rintro l pre x W ⟨⟨⟨v, hv, hrow, hnil⟩, hbs⟩, hB⟩ hlt
    have hc := hv.cell
    have hml : pre.length + 1 ≤ Go.maxLen := by unfold Go.maxLen; omega
    gi_wp2_with (gi_at_builtin; refine wpListIn_append_own _ rfl _ _ 27 rfl w.heap.size 2 i0 (.int .i64 0) 1 8 Try.underlying27 hi hz0 hz1 hz2 rfl (by decide) _ _ _ rfl (hrow.alloc _) ⟨W.heap.size, 0, none⟩ 1 1 [.int .i64 (Go.RowKit.wrap64 (-x.2))] rfl rfl (cell_one_new _ _ _) (by simp [Value.oneCell']) (by omega) (by omega) (by have := hB.size; simp; omega) ?_; intro v' w1 hown' hgrow _; obtain ⟨g', cap', rfl⟩ := ownsRow_succ hown'; obtain ⟨hv1, hv2, hr2, hk2, hb2⟩ := hv.appended (by decide) hrow hB.size (Nat.le_refl _) hown' hgrow; have hc1 := hv1.cell; have hf1 := hv1.frozen)
    have hbs1 := (hbs.alloc (.cells #[.int .i64 (Go.RowKit.wrap64 (-x.2))] 2)).kept hgrow (hbs.not_row (by decide) hrow)
    have hbs2 := hbs1.kept (grownBy_setCell' w1 w.heap.size (.slice (some ⟨g', 0, none⟩) (pre.length + 1) cap')) (by simp)
    exact ⟨hk2.from _, ⟨hb2, hbs2.trans hbs.symm⟩, ⟨⟨_, hv2, by rw [negs_snoc]; simpa using hr2, by simp⟩, hbs2⟩, hB.trans hb2⟩
  case done =>
    rintro D ys W hD rfl ⟨⟨⟨v, hv, hrow, hnil⟩, hbs⟩, hB⟩ hK
    have hc := hv.cell
    gi_wp2
    refine ⟨by simp, .inl ⟨_, _, rfl, run_takeDeferred hK, ?_⟩⟩
    rw [upto_length] at hrow
    exact ⟨_, results_tmp rfl _ _ _, v, rfl, ownsRow_putObj hrow _ hK rfl, hnil.trans (by rw [← List.length_eq_zero_iff, upto_length, List.length_eq_zero_iff]), hB.trans (belowK_b (w := w) (Nat.le_refl _) W D _ _ (by simp at hD; omega) hK rfl rfl)⟩
  case stop =>
    rintro D c pre W _ _ h _
    exact h.elim
end Go.Proofs.Ytngpacdhpblpbaa
end
/- impl.inverseWord's contract over abstract values. -/
section
namespace Go.Proofs.Ytngpacdhpblpbaa
open Go.Av
set_option linter.unusedSimpArgs false
set_option linter.unusedVariables false

theorem back_negs (zs : List Int) (hb : ∀ j, -1000 ≤ zs.getD j 0 ∧ zs.getD j 0 ≤ 1000) : negs (upto (bk zs.length zs) zs.length) = inv zs := by
  refine List.ext_getElem (by simp [negs, upto, inv]) fun i h1 h2 => ?_
  have hi : i < zs.length := by simpa [negs, upto] using h1
  have h3 := hb (zs.length - 1 - i)
  rw [List.getD_eq_getElem?_getD, List.getElem?_eq_getElem (show zs.length - 1 - i < zs.length by omega)] at h3
  simp only [Option.getD_some] at h3
  have e : Go.RowKit.wrap64 (-zs[zs.length - 1 - i]) = -zs[zs.length - 1 - i] := by
    unfold Go.RowKit.wrap64; omega
  simp [negs, upto, inv, bk, e, show zs.length - 1 - i < zs.length by omega]

/-- Each letter turned, the machine's way, in reverse order. -/
def invG (zs : List Int) : List Int := negs (upto (bk zs.length zs) zs.length)
theorem invG_length (zs : List Int) : (invG zs).length = zs.length := by simp [invG, negs, upto]
theorem inverseWordG_ok (zs : List Int) (hz : zs.length ≤ 1048576) (d : Nat) : AC Try.prog 73 [ints zs] Hp.emp (fun _ => false) (retI d (invG zs)) := by
  refine ⟨by kernel_rfl, fun S w L vs hS hpin s hargs => ?_⟩
  obtain ⟨h1, h2⟩ := hargs
  obtain ⟨u, k1, a, cap, rfl, k2, _, k3, k4⟩ := h2 0 _ rfl
  have hvs : vs = #[.slice a zs.length cap] := by
    refine Array.ext (by simpa using h1) fun i hi _ => ?_
    have : i = 0 := by simp at h1; omega
    subst this
    simpa using (Array.getElem?_eq_some_iff.1 k1).2
  subst hvs
  have hI : BackInts w.heap.size w (.slice a zs.length cap) zs := by
    by_cases hn : zs = []
    · subst hn; exact .inl ⟨⟨_, _, rfl⟩, rfl⟩
    · have hl : 0 < zs.length := by
        cases zs with
        | nil => exact absurd rfl hn
        | cons => simp
      cases a with
      | none => have := (k3 rfl).1; omega
      | some p =>
        obtain ⟨e0, _, c0, e2, _⟩ := k4 p rfl 0 (by omega)
        have hp : p = ⟨p.block, p.off, none⟩ := by cases p; simp_all
        refine .inr ⟨p.block, p.off, cap, by rw [← hp], World.block_lt_of_cell? w ⟨p.block, p.off + 0, none⟩ e2, fun j hj => ?_⟩
        obtain ⟨_, _, c, e3, e4⟩ := k4 p rfl j (by omega)
        have := e4 L
        simp only [cM_iv_app, Rd] at this
        rw [e3, this, List.getD_eq_getElem?_getD]
  refine (callsIn_wide.1 (inverseWord_in Fence.wide 3 trivial trivial trivial rfl (Nat.le_refl _) a zs.length cap zs hz w hI)).mono ?_
  rintro e w' ⟨v, rfl, hrow, hnil, hB⟩
  rw [show negs (upto (bk zs.length zs) zs.length) = invG zs from rfl] at hrow
  have hkeep : Keep w S.wr w' := ⟨hB.os, hB.tape, hB.output, hB.size, fun b hb _ => hB.block b hb, fun b cs e fz hb => ⟨cs, by rw [hB.block b (Array.getElem?_eq_some_iff.1 hb).1]; exact hb, rfl⟩⟩
  have hp : ∀ h l, S.pin h = some l → False := fun h l hl => by rw [hpin h rfl] at hl; cases hl
  rcases hrow.2 with ⟨rfl, h0⟩ | ⟨g, cap', cur, rfl, hg, hgb, hc1, hc2, hc3, hc4⟩
  · have hz0 : zs = [] := List.length_eq_zero_iff.1 h0
    subst hz0
    refine ⟨_, fun _ => none, .own d 0 1 0, Hp.emp.upd d (.cells 0 (cM iv 0 [])), rfl, ⟨hkeep, rfl, fun i a h => by simp [Fr.get] at h, fun h B hB => ?_, fun h q _ hq => (by cases hq), fun h g q r _ _ hq => (by cases hq), fun h l hl => (hp h l hl).elim⟩, ⟨rfl, rfl⟩, rfl, rfl⟩
    obtain ⟨rfl, rfl⟩ := upd_some hB
    rfl
  · have hil := invG_length zs
    refine ⟨_, fun h => if h = d then some (g, 0) else none, .own d 0 1 zs.length, Hp.emp.upd d (.cells (invG zs).length (cM iv 0 (invG zs))), rfl, ⟨hkeep, rfl, fun i a h => by simp [Fr.get] at h, fun h B hB => ?_, fun h q hn hq => ?_, fun h k q r hn hm _ _ _ => ?_, fun h l hl => (hp h l hl).elim⟩, ?_, by rw [hil], rfl⟩
    · obtain ⟨rfl, rfl⟩ := upd_some hB
      simp only [if_true]
      refine ⟨cur, _, .of hgb, by omega, fun i hi => ?_⟩
      have hlt : i < cur.size := by omega
      refine ⟨cur[i], by simp [hlt], ?_⟩
      have h5 := congrArg (fun l : List Value => l[i]?) hc4
      simp only [Nat.mul_one] at h5
      rw [List.getElem?_take_of_lt (by omega), List.getElem?_map] at h5
      have h6 : (invG zs)[i]? = some ((invG zs).getD i 0) := by
        rw [List.getElem?_eq_getElem hi, List.getD_eq_getElem?_getD, List.getElem?_eq_getElem hi]; rfl
      rw [h6] at h5
      simp only [Array.getElem?_toList, Option.map_some] at h5
      rw [Array.getElem?_eq_getElem hlt] at h5
      simp only [Option.some.injEq] at h5
      exact h5
    · by_cases hd : h = d
      · simp only [hd, if_true, Option.some.injEq] at hq
        subst hq
        exact hS _ hg
      · simp [hd] at hq
    · have hd1 : h = d := Classical.byContradiction fun hc => hn (by simp [Hp.upd, hc, Hp.emp])
      have hd2 : k = d := Classical.byContradiction fun hc => hm (by simp [Hp.upd, hc, Hp.emp])
      rw [hd1, hd2]
    · simp only [Rd, if_true]
      exact ⟨_, cap', rfl, hc1, hc2, rfl, rfl, fun _ => rfl, cur, _, .of hgb, by omega⟩
theorem inverseWord_ok (zs : List Int) (hz : zs.length ≤ 1048576) (hb : ∀ j, -1000 ≤ zs.getD j 0 ∧ zs.getD j 0 ≤ 1000) (d : Nat) : AC Try.prog 73 [ints zs] Hp.emp (fun _ => false) (retI d (inv zs)) := by
  have := inverseWordG_ok zs hz d
  rwa [show invG zs = inv zs from back_negs zs hb] at this
end Go.Proofs.Ytngpacdhpblpbaa
end
section
namespace Go.Proofs.Ytngpacdhpblpbaa
open Go.Av
set_option linter.unusedSimpArgs false
set_option linter.unusedVariables false
attribute [local irreducible] AWP CallG Ob Br BrP Go.Av.Sub endQ AOps OpV AC thenA blkA opsVC opVC withA withArgs opsQ opQ CallQ withA2 withArgs2

/- impl.IsValidWord -/
theorem indexFuncI_ok (xs : List Int) (g : FuncId) (c : AV) (p : Int → Bool) (hx : xs.length ≤ 140737488355328)
    (hg : ∀ j, j < xs.length → AC Try.prog g [.v (.int .i64 (xs.getD j 0)), c] Hp.emp (fun _ => false) (retV (.v (.bool (p (xs.getD j 0)))))) :
    AC Try.prog 189 [ints xs, .clo g 1 (fun _ => c)] Hp.emp (fun _ => false) (retV (.v (.int .i64 (fidx p xs)))) := by
  refine ac_of_awp (N := ⟨_, fun _ => false, fun _ _ => rfl⟩) Try.func189 rfl (by kernel_rfl) Try.ntmps189 (by simp) ?_
  simp only [argsFr, List.zipIdx_cons, List.zipIdx_nil, go_sem]
  repeat' (first | refine awp_seqK fun K hK => ?_ | (refine awp_regionK 66483 rfl ?_; simp only [List.map_cons, List.map_nil]; simp (maxSteps := 1000000) (dsimp := false) (implicitDefEqProofs := false) (disch := omega) only [wrap64, go_sem]) | (refine awp_regionQK 66483 (by kernel_rfl) (by kernel_rfl) (by kernel_rfl) ?_; simp only [List.map_cons, List.map_nil]; simp (maxSteps := 1000000) (dsimp := false) (implicitDefEqProofs := false) (disch := omega) only [wrap64, go_sem]) | refine awp_block ?_ | (refine awp_skip ?_; simp only [go_sem]) | (refine awp_exit ?_; simp only [go_sem]) | (refine awp_ret ?_; try simp only [go_sem]) | (refine awp_condP rfl ?_; try simp only [go_sem]) | (refine BrP.mk (fun h => ?_) (fun h => ?_) <;> try simp (dsimp := false) (disch := omega) only [wrap64]) | (refine Br.mk (fun h => ?_) (fun h => ?_) <;> try simp (dsimp := false) (disch := omega) only [wrap64]) | refine Ob.mk (by first | omega | (intro _ _; rfl) | trivial | (intros; trivial) | assumption | (intro i hi; have h0 : i = 0 := (by omega); subst h0; first | rfl | trivial) | (intro i hi; have h0 : i = 0 ∨ i = 1 := (by omega); rcases h0 with rfl | rfl <;> rfl) | (intro i hi; have h0 : i = 0 ∨ i = 1 ∨ i = 2 := (by omega); rcases h0 with rfl | rfl | rfl <;> rfl)) ?_ | apply_assumption -exfalso -symm)
  all_goals (first | (show endQ _ _ _ _ _ _ _; (repeat (rename (∀ (A : Fr) (H : Hp), AWP _ _ _ _ A H → _) => hK; clear hK)); (repeat (rename (Fr → Hp → Prop) => K; clear K))) | (show Exists _; (repeat (rename (∀ (A : Fr) (H : Hp), AWP _ _ _ _ A H → _) => hK; clear hK)); (repeat (rename (Fr → Hp → Prop) => K; clear K))) | skip)
  refine awp_loop (ι := Nat) (fun k => [(8, .v (.int .i64 (k))), (7, .v (.int .i64 (xs.length))), (0, .list false 1 (xs).length (cM iv 0 (xs))), (1, .clo g 1 (fun _ => c))]) (fun k => Hp.emp) (fun k => k ≤ xs.length ∧ ∀ j, j < k → p (xs.getD j 0) = false) (fun k => xs.length - k) 0 ?_ (Sub.toL (by simp only [go_sem] <;> first | trivial | (simp only [Option.some.injEq, AV.v.injEq, AV.own.injEq, AV.list.injEq, Value.int.injEq, Value.bool.injEq, true_and, and_true]; first | omega | (simp; done)) | (simp; done) | (simp; omega)) (by (repeat' (first | exact Hp.le_emp _ | exact Hp.le_refl _ | refine Hp.le_upd ?_ ?_)); all_goals (first | rfl | (simp only [go_sem]; first | rfl | (refine cellsE ?_ ?_ <;> (simp)) | (simp))))) ?_
  · exact ⟨Nat.zero_le _, fun j h => absurd h (Nat.not_lt_zero _)⟩
  intro k hk
  repeat' (first | refine awp_seqK fun K hK => ?_ | (refine awp_regionK 66483 rfl ?_; simp only [List.map_cons, List.map_nil]; simp (maxSteps := 1000000) (dsimp := false) (implicitDefEqProofs := false) (disch := omega) only [wrap64, go_sem]) | (refine awp_regionQK 66483 (by kernel_rfl) (by kernel_rfl) (by kernel_rfl) ?_; simp only [List.map_cons, List.map_nil]; simp (maxSteps := 1000000) (dsimp := false) (implicitDefEqProofs := false) (disch := omega) only [wrap64, go_sem]) | refine awp_block ?_ | (refine awp_skip ?_; simp only [go_sem]) | (refine awp_exit ?_; simp only [go_sem]) | (refine awp_ret ?_; try simp only [go_sem]) | (refine awp_condP rfl ?_; try simp only [go_sem]) | (refine BrP.mk (fun h => ?_) (fun h => ?_) <;> try simp (dsimp := false) (disch := omega) only [wrap64]) | (refine Br.mk (fun h => ?_) (fun h => ?_) <;> try simp (dsimp := false) (disch := omega) only [wrap64]) | refine Ob.mk (by first | omega | (intro _ _; rfl) | trivial | (intros; trivial) | assumption | (intro i hi; have h0 : i = 0 := (by omega); subst h0; first | rfl | trivial) | (intro i hi; have h0 : i = 0 ∨ i = 1 := (by omega); rcases h0 with rfl | rfl <;> rfl) | (intro i hi; have h0 : i = 0 ∨ i = 1 ∨ i = 2 := (by omega); rcases h0 with rfl | rfl | rfl <;> rfl)) ?_ | ((first | (refine cV (hac := hg k (by omega)) (hK := ?_)) | (refine cQV (hac := hg k (by omega)) (hK := ?_))); simp (maxSteps := 1000000) (dsimp := false) (implicitDefEqProofs := false) (disch := omega) only [wrap64, go_sem]) | apply_assumption -exfalso -symm)
  all_goals (first | (show endQ _ _ _ _ _ _ _; (repeat (rename (∀ (A : Fr) (H : Hp), AWP _ _ _ _ A H → _) => hK; clear hK)); (repeat (rename (Fr → Hp → Prop) => K; clear K))) | (show Exists _; (repeat (rename (∀ (A : Fr) (H : Hp), AWP _ _ _ _ A H → _) => hK; clear hK)); (repeat (rename (Fr → Hp → Prop) => K; clear K))) | skip)
  · exact end_retN rfl rfl (fidx_hit p xs 0 k (by omega) hk.2 ‹_›).symm
  · refine ⟨k + 1, ?_, ?_, Sub.toL (by simp only [go_sem] <;> first | trivial | (simp only [Option.some.injEq, AV.v.injEq, AV.own.injEq, AV.list.injEq, Value.int.injEq, Value.bool.injEq, true_and, and_true]; first | omega | (simp; done)) | (simp; done) | (simp; omega)) (by (repeat' (first | exact Hp.le_emp _ | exact Hp.le_refl _ | refine Hp.le_upd ?_ ?_)); all_goals (first | rfl | (simp only [go_sem]; first | rfl | (refine cellsE ?_ ?_ <;> (simp)) | (simp))))⟩
    · refine ⟨by omega, fun j hj => ?_⟩
      by_cases h' : j = k
      · subst h'; assumption
      · exact hk.2 j (by omega)
    · omega
  · exact end_retN rfl rfl (fidx_none p xs 0 fun j hj => hk.2 j (by omega)).symm

theorem containsFuncI_ok (xs : List Int) (g : FuncId) (c : AV) (p : Int → Bool) (hx : xs.length ≤ 140737488355328)
    (hg : ∀ j, j < xs.length → AC Try.prog g [.v (.int .i64 (xs.getD j 0)), c] Hp.emp (fun _ => false) (retV (.v (.bool (p (xs.getD j 0)))))) :
    AC Try.prog 171 [ints xs, .clo g 1 (fun _ => c)] Hp.emp (fun _ => false) (retV (.v (.bool (xs.any p)))) := by
  refine ac_of_awp (N := ⟨_, fun _ => false, fun _ _ => rfl⟩) Try.func171 rfl (by kernel_rfl) Try.ntmps171 (by simp) ?_
  simp only [argsFr, List.zipIdx_cons, List.zipIdx_nil, go_sem]
  repeat' (first | refine awp_seqK fun K hK => ?_ | (refine awp_regionK 19 rfl ?_; simp only [List.map_cons, List.map_nil]; simp (maxSteps := 1000000) (dsimp := false) (implicitDefEqProofs := false) (disch := omega) only [wrap64, go_sem]) | (refine awp_regionQK 19 (by kernel_rfl) (by kernel_rfl) (by kernel_rfl) ?_; simp only [List.map_cons, List.map_nil]; simp (maxSteps := 1000000) (dsimp := false) (implicitDefEqProofs := false) (disch := omega) only [wrap64, go_sem]) | refine awp_block ?_ | (refine awp_skip ?_; simp only [go_sem]) | (refine awp_exit ?_; simp only [go_sem]) | (refine awp_ret ?_; try simp only [go_sem]) | (refine awp_condP rfl ?_; try simp only [go_sem]) | (refine BrP.mk (fun h => ?_) (fun h => ?_) <;> try simp (dsimp := false) (disch := omega) only [wrap64]) | (refine Br.mk (fun h => ?_) (fun h => ?_) <;> try simp (dsimp := false) (disch := omega) only [wrap64]) | refine Ob.mk (by first | omega | (intro _ _; rfl) | trivial | (intros; trivial) | assumption | (intro i hi; have h0 : i = 0 := (by omega); subst h0; first | rfl | trivial) | (intro i hi; have h0 : i = 0 ∨ i = 1 := (by omega); rcases h0 with rfl | rfl <;> rfl) | (intro i hi; have h0 : i = 0 ∨ i = 1 ∨ i = 2 := (by omega); rcases h0 with rfl | rfl | rfl <;> rfl)) ?_ | ((first | ((first | refine atF (f := 189) ?_ | refine atQ (f := 189) ?_); (first | (refine cV (hac := indexFuncI_ok xs g c p hx hg) (hK := ?_)) | (refine cQV (hac := indexFuncI_ok xs g c p hx hg) (hK := ?_))))); simp (maxSteps := 1000000) (dsimp := false) (implicitDefEqProofs := false) (disch := omega) only [wrap64, go_sem]) | apply_assumption -exfalso -symm)
  all_goals (first | (show endQ _ _ _ _ _ _ _; (repeat (rename (∀ (A : Fr) (H : Hp), AWP _ _ _ _ A H → _) => hK; clear hK)); (repeat (rename (Fr → Hp → Prop) => K; clear K))) | (show Exists _; (repeat (rename (∀ (A : Fr) (H : Hp), AWP _ _ _ _ A H → _) => hK; clear hK)); (repeat (rename (Fr → Hp → Prop) => K; clear K))) | skip)
  refine end_retV' rfl rfl ?_
  congr 2
  have := fidx_nonneg p xs
  cases hh : xs.any p
  · simp [hh] at this; simp; omega
  · simp [hh] at this; simpa using this

theorem setF_rep1 (a b : Int) : setF (cM iv 0 (List.replicate 1 a)) 0 (.v (.int .i64 b)) = cM iv 0 [b] := by
  have := setF_iv [a] 0 b (by simp)
  simpa using this
def badL (most x : Int) : Bool := decide (x = 0) || !decide (-most ≤ x ∧ x ≤ most)
theorem wordClo_ok (x most : Int) (hm2 : -9223372036854775807 ≤ most ∧ most ≤ 9223372036854775807) : AC Try.prog 172 [.v (.int .i64 (x)), .ptr 1 (cM iv 0 [most])] Hp.emp (fun _ => false) (retV (.v (.bool (badL most x)))) := by
  refine ac_of_awp (N := ⟨_, fun _ => false, fun _ _ => rfl⟩) Try.func172 rfl (by kernel_rfl) Try.ntmps172 (by simp) ?_
  simp only [argsFr, List.zipIdx_cons, List.zipIdx_nil, go_sem]
  repeat' (first | refine awp_seqK fun K hK => ?_ | (refine awp_regionK 11 rfl ?_; simp only [List.map_cons, List.map_nil]; simp (maxSteps := 1000000) (dsimp := false) (implicitDefEqProofs := false) (disch := omega) only [wrap64, go_sem]) | (refine awp_regionQK 11 (by kernel_rfl) (by kernel_rfl) (by kernel_rfl) ?_; simp only [List.map_cons, List.map_nil]; simp (maxSteps := 1000000) (dsimp := false) (implicitDefEqProofs := false) (disch := omega) only [wrap64, go_sem]) | refine awp_block ?_ | (refine awp_skip ?_; simp only [go_sem]) | (refine awp_exit ?_; simp only [go_sem]) | (refine awp_ret ?_; try simp only [go_sem]) | (refine awp_condP rfl ?_; try simp only [go_sem]) | (refine BrP.mk (fun h => ?_) (fun h => ?_) <;> try simp (dsimp := false) (disch := omega) only [wrap64]) | (refine Br.mk (fun h => ?_) (fun h => ?_) <;> try simp (dsimp := false) (disch := omega) only [wrap64]) | refine Ob.mk (by first | omega | (intro _ _; rfl) | trivial | (intros; trivial) | assumption | (intro i hi; have h0 : i = 0 := (by omega); subst h0; first | rfl | trivial) | (intro i hi; have h0 : i = 0 ∨ i = 1 := (by omega); rcases h0 with rfl | rfl <;> rfl) | (intro i hi; have h0 : i = 0 ∨ i = 1 ∨ i = 2 := (by omega); rcases h0 with rfl | rfl | rfl <;> rfl)) ?_ | ((first | ((first | refine atF (f := 96) ?_ | refine atQ (f := 96) ?_); (first | (refine cV (hac := within_ok _ _ _) (hK := ?_)) | (refine cQV (hac := within_ok _ _ _) (hK := ?_))))); simp (maxSteps := 1000000) (dsimp := false) (implicitDefEqProofs := false) (disch := omega) only [wrap64, go_sem]) | apply_assumption -exfalso -symm)
  all_goals (first | (show endQ _ _ _ _ _ _ _; (repeat (rename (∀ (A : Fr) (H : Hp), AWP _ _ _ _ A H → _) => hK; clear hK)); (repeat (rename (Fr → Hp → Prop) => K; clear K))) | (show Exists _; (repeat (rename (∀ (A : Fr) (H : Hp), AWP _ _ _ _ A H → _) => hK; clear hK)); (repeat (rename (Fr → Hp → Prop) => K; clear K))) | skip)
  · exact end_retV' rfl rfl (by simp only [badL, *, decide_true, Bool.true_or])
  · refine end_retV' rfl rfl ?_
    unfold badL
    rw [Int.zero_sub]
    simp only [*, decide_false, Bool.false_or]

theorem any_bad (g : Int) (w : List Int) : (w.any (badL (min g 8))) = false ↔ ∀ j, j < w.length → isL g (w.getD j 0) := by
  have key : ∀ x, badL (min g 8) x = false ↔ isL g x := by
    intro x; unfold badL isL; simp only [Bool.or_eq_false_iff, decide_eq_false_iff_not, Bool.not_eq_false', decide_eq_true_eq]; omega
  rw [List.any_eq_false]
  constructor
  · intro h j hj
    have := h _ (List.getElem_mem hj)
    have e : w.getD j 0 = w[j] := by simp [hj]
    rw [e, ← key]; simpa using this
  · intro h x hx
    obtain ⟨i, hi, rfl⟩ := List.getElem_of_mem hx
    have := h i hi
    have e : w.getD i 0 = w[i] := by simp [hi]
    rw [e, ← key] at this; simpa using this

theorem implIsValidWord_ok (g : Int) (w : List Int) (hg : -9223372036854775807 ≤ g) : AC Try.prog 131 [.v (.int .i64 (g)), ints w] Hp.emp (fun _ => false) (retV (.v (.bool (decide (isW g w))))) := by
  refine ac_of_awp (N := ⟨_, fun _ => false, fun _ _ => rfl⟩) Try.func131 rfl (by kernel_rfl) Try.ntmps131 (by simp) ?_
  simp only [argsFr, List.zipIdx_cons, List.zipIdx_nil, go_sem]
  repeat' (first | refine awp_seqK fun K hK => ?_ | (refine awp_regionK 51 rfl ?_; simp only [List.map_cons, List.map_nil]; simp (maxSteps := 1000000) (dsimp := false) (implicitDefEqProofs := false) (disch := omega) only [wrap64, go_sem, setF_rep1]) | (refine awp_regionQK 51 (by kernel_rfl) (by kernel_rfl) (by kernel_rfl) ?_; simp only [List.map_cons, List.map_nil]; simp (maxSteps := 1000000) (dsimp := false) (implicitDefEqProofs := false) (disch := omega) only [wrap64, go_sem, setF_rep1]) | refine awp_block ?_ | (refine awp_skip ?_; simp only [go_sem, setF_rep1]) | (refine awp_exit ?_; simp only [go_sem, setF_rep1]) | (refine awp_ret ?_; try simp only [go_sem, setF_rep1]) | (refine awp_condP rfl ?_; try simp only [go_sem, setF_rep1]) | (refine BrP.mk (fun h => ?_) (fun h => ?_) <;> try simp (dsimp := false) (disch := omega) only [wrap64]) | (refine Br.mk (fun h => ?_) (fun h => ?_) <;> try simp (dsimp := false) (disch := omega) only [wrap64]) | refine Ob.mk (by first | omega | (intro _ _; rfl) | trivial | (intros; trivial) | assumption | (intro i hi; have h0 : i = 0 := (by omega); subst h0; first | rfl | trivial) | (intro i hi; have h0 : i = 0 ∨ i = 1 := (by omega); rcases h0 with rfl | rfl <;> rfl) | (intro i hi; have h0 : i = 0 ∨ i = 1 ∨ i = 2 := (by omega); rcases h0 with rfl | rfl | rfl <;> rfl)) ?_ | ((first | ((first | refine atF (f := 171) ?_ | refine atQ (f := 171) ?_); (first | (refine cV (hac := containsFuncI_ok w _ (.ptr 1 (cM iv 0 [min g 8])) (badL (min g 8)) (by omega) (fun j _ => wordClo_ok _ _ (by omega))) (hK := ?_)) | (refine cQV (hac := containsFuncI_ok w _ (.ptr 1 (cM iv 0 [min g 8])) (badL (min g 8)) (by omega) (fun j _ => wordClo_ok _ _ (by omega))) (hK := ?_))))); simp (maxSteps := 1000000) (dsimp := false) (implicitDefEqProofs := false) (disch := omega) only [wrap64, go_sem, setF_rep1]) | apply_assumption -exfalso -symm)
  all_goals (first | (show endQ _ _ _ _ _ _ _; (repeat (rename (∀ (A : Fr) (H : Hp), AWP _ _ _ _ A H → _) => hK; clear hK)); (repeat (rename (Fr → Hp → Prop) => K; clear K))) | (show Exists _; (repeat (rename (∀ (A : Fr) (H : Hp), AWP _ _ _ _ A H → _) => hK; clear hK)); (repeat (rename (Fr → Hp → Prop) => K; clear K))) | skip)
  · refine end_retB rfl rfl ?_
    rw [Bool.not_eq_true', any_bad]
    exact ⟨fun h => ⟨by omega, h⟩, fun h => h.2⟩
  all_goals (refine end_retB rfl rfl ?_; simp only [Bool.false_eq_true, false_iff, isW]; omega)
theorem implIsWord_ok (w : List Int) : AC Try.prog 72 [ints w] Hp.emp (fun _ => false) (retV (.v (.bool (decide (isW 8 w))))) := by
  refine ac_of_awp (N := ⟨_, fun _ => false, fun _ _ => rfl⟩) Try.func72 rfl (by kernel_rfl) Try.ntmps72 (by simp) ?_
  simp only [argsFr, List.zipIdx_cons, List.zipIdx_nil, go_sem]
  repeat' (first | refine awp_seqK fun K hK => ?_ | (refine awp_regionK 5 rfl ?_; simp only [List.map_cons, List.map_nil]; simp (maxSteps := 1000000) (dsimp := false) (implicitDefEqProofs := false) (disch := omega) only [wrap64, go_sem]) | (refine awp_regionQK 5 (by kernel_rfl) (by kernel_rfl) (by kernel_rfl) ?_; simp only [List.map_cons, List.map_nil]; simp (maxSteps := 1000000) (dsimp := false) (implicitDefEqProofs := false) (disch := omega) only [wrap64, go_sem]) | refine awp_block ?_ | (refine awp_skip ?_; simp only [go_sem]) | (refine awp_exit ?_; simp only [go_sem]) | (refine awp_ret ?_; try simp only [go_sem]) | (refine awp_condP rfl ?_; try simp only [go_sem]) | (refine BrP.mk (fun h => ?_) (fun h => ?_) <;> try simp (dsimp := false) (disch := omega) only [wrap64]) | (refine Br.mk (fun h => ?_) (fun h => ?_) <;> try simp (dsimp := false) (disch := omega) only [wrap64]) | refine Ob.mk (by first | omega | (intro _ _; rfl) | trivial | (intros; trivial) | assumption | (intro i hi; have h0 : i = 0 := (by omega); subst h0; first | rfl | trivial) | (intro i hi; have h0 : i = 0 ∨ i = 1 := (by omega); rcases h0 with rfl | rfl <;> rfl) | (intro i hi; have h0 : i = 0 ∨ i = 1 ∨ i = 2 := (by omega); rcases h0 with rfl | rfl | rfl <;> rfl)) ?_ | ((first | ((first | refine atF (f := 131) ?_ | refine atQ (f := 131) ?_); (first | (refine cV (hac := implIsValidWord_ok 8 w (by omega)) (hK := ?_)) | (refine cQV (hac := implIsValidWord_ok 8 w (by omega)) (hK := ?_))))); simp (maxSteps := 1000000) (dsimp := false) (implicitDefEqProofs := false) (disch := omega) only [wrap64, go_sem]) | apply_assumption -exfalso -symm)
  all_goals (first | (show endQ _ _ _ _ _ _ _; (repeat (rename (∀ (A : Fr) (H : Hp), AWP _ _ _ _ A H → _) => hK; clear hK)); (repeat (rename (Fr → Hp → Prop) => K; clear K))) | (show Exists _; (repeat (rename (∀ (A : Fr) (H : Hp), AWP _ _ _ _ A H → _) => hK; clear hK)); (repeat (rename (Fr → Hp → Prop) => K; clear K))) | skip)
  exact end_retV rfl rfl
theorem lengthII_ok (xss : List (List Int)) : AC Try.prog 112 [intss xss] Hp.emp (fun _ => false) (retV (.v (.int .i64 (xss.length)))) := by
  refine ac_of_awp (N := ⟨_, fun _ => false, fun _ _ => rfl⟩) Try.func112 rfl (by kernel_rfl) Try.ntmps112 (by simp) ?_
  simp only [argsFr, List.zipIdx_cons, List.zipIdx_nil, go_sem]
  repeat' (first | refine awp_seqK fun K hK => ?_ | (refine awp_regionK 5 rfl ?_; simp only [List.map_cons, List.map_nil]; simp (maxSteps := 1000000) (dsimp := false) (implicitDefEqProofs := false) (disch := omega) only [wrap64, go_sem]) | (refine awp_regionQK 5 (by kernel_rfl) (by kernel_rfl) (by kernel_rfl) ?_; simp only [List.map_cons, List.map_nil]; simp (maxSteps := 1000000) (dsimp := false) (implicitDefEqProofs := false) (disch := omega) only [wrap64, go_sem]) | refine awp_block ?_ | (refine awp_skip ?_; simp only [go_sem]) | (refine awp_exit ?_; simp only [go_sem]) | (refine awp_ret ?_; try simp only [go_sem]) | (refine awp_condP rfl ?_; try simp only [go_sem]) | (refine BrP.mk (fun h => ?_) (fun h => ?_) <;> try simp (dsimp := false) (disch := omega) only [wrap64]) | (refine Br.mk (fun h => ?_) (fun h => ?_) <;> try simp (dsimp := false) (disch := omega) only [wrap64]) | refine Ob.mk (by first | omega | (intro _ _; rfl) | trivial | (intros; trivial) | assumption | (intro i hi; have h0 : i = 0 := (by omega); subst h0; first | rfl | trivial) | (intro i hi; have h0 : i = 0 ∨ i = 1 := (by omega); rcases h0 with rfl | rfl <;> rfl) | (intro i hi; have h0 : i = 0 ∨ i = 1 ∨ i = 2 := (by omega); rcases h0 with rfl | rfl | rfl <;> rfl)) ?_ | apply_assumption -exfalso -symm)
  all_goals (first | (show endQ _ _ _ _ _ _ _; (repeat (rename (∀ (A : Fr) (H : Hp), AWP _ _ _ _ A H → _) => hK; clear hK)); (repeat (rename (Fr → Hp → Prop) => K; clear K))) | (show Exists _; (repeat (rename (∀ (A : Fr) (H : Hp), AWP _ _ _ _ A H → _) => hK; clear hK)); (repeat (rename (Fr → Hp → Prop) => K; clear K))) | skip)
  exact end_retV rfl rfl
theorem puzIsWord_ok (p : Pz) (w : List Int) : AC Try.prog 63 [pz p, ints w] Hp.emp (fun _ => false) (retV (.v (.bool (decide (isW p.m.length w))))) := by
  refine ac_of_awp (N := ⟨_, fun _ => false, fun _ _ => rfl⟩) Try.func63 rfl (by kernel_rfl) Try.ntmps63 (by simp) ?_
  simp only [argsFr, List.zipIdx_cons, List.zipIdx_nil, go_sem]
  repeat' (first | refine awp_seqK fun K hK => ?_ | (refine awp_regionK 23 rfl ?_; simp only [List.map_cons, List.map_nil]; simp (maxSteps := 1000000) (dsimp := false) (implicitDefEqProofs := false) (disch := omega) only [wrap64, go_sem]) | (refine awp_regionQK 23 (by kernel_rfl) (by kernel_rfl) (by kernel_rfl) ?_; simp only [List.map_cons, List.map_nil]; simp (maxSteps := 1000000) (dsimp := false) (implicitDefEqProofs := false) (disch := omega) only [wrap64, go_sem]) | refine awp_block ?_ | (refine awp_skip ?_; simp only [go_sem]) | (refine awp_exit ?_; simp only [go_sem]) | (refine awp_ret ?_; try simp only [go_sem]) | (refine awp_condP rfl ?_; try simp only [go_sem]) | (refine BrP.mk (fun h => ?_) (fun h => ?_) <;> try simp (dsimp := false) (disch := omega) only [wrap64]) | (refine Br.mk (fun h => ?_) (fun h => ?_) <;> try simp (dsimp := false) (disch := omega) only [wrap64]) | refine Ob.mk (by first | omega | (intro _ _; rfl) | trivial | (intros; trivial) | assumption | (intro i hi; have h0 : i = 0 := (by omega); subst h0; first | rfl | trivial) | (intro i hi; have h0 : i = 0 ∨ i = 1 := (by omega); rcases h0 with rfl | rfl <;> rfl) | (intro i hi; have h0 : i = 0 ∨ i = 1 ∨ i = 2 := (by omega); rcases h0 with rfl | rfl | rfl <;> rfl)) ?_ | ((first | ((first | refine atF (f := 112) ?_ | refine atQ (f := 112) ?_); (first | (refine cV (hac := lengthII_ok _) (hK := ?_)) | (refine cQV (hac := lengthII_ok _) (hK := ?_)))) | ((first | refine atF (f := 131) ?_ | refine atQ (f := 131) ?_); (first | (refine cV (hac := implIsValidWord_ok _ w (by omega)) (hK := ?_)) | (refine cQV (hac := implIsValidWord_ok _ w (by omega)) (hK := ?_))))); simp (maxSteps := 1000000) (dsimp := false) (implicitDefEqProofs := false) (disch := omega) only [wrap64, go_sem]) | apply_assumption -exfalso -symm)
  all_goals (first | (show endQ _ _ _ _ _ _ _; (repeat (rename (∀ (A : Fr) (H : Hp), AWP _ _ _ _ A H → _) => hK; clear hK)); (repeat (rename (Fr → Hp → Prop) => K; clear K))) | (show Exists _; (repeat (rename (∀ (A : Fr) (H : Hp), AWP _ _ _ _ A H → _) => hK; clear hK)); (repeat (rename (Fr → Hp → Prop) => K; clear K))) | skip)
  exact end_retV rfl rfl
end Go.Proofs.Ytngpacdhpblpbaa
end
section
namespace Go.Proofs.Ytngpacdhpblpbaa
open Go.Av
set_option linter.unusedSimpArgs false
set_option linter.unusedVariables false
attribute [local irreducible] AWP CallG Ob Br BrP Go.Av.Sub endQ AOps OpV AC thenA blkA opsVC opVC withA withArgs opsQ opQ CallQ withA2 withArgs2

/- slices.Repeat -/
def rep (u : List Int) (k : Nat) : List Int := (List.replicate k u).flatten
theorem rep_length (u : List Int) (k : Nat) : (rep u k).length = k * u.length := by simp [rep]
end Go.Proofs.Ytngpacdhpblpbaa
end
section
namespace Go.Proofs.Ytngpacdhpblpbaa
open Go.Av
set_option linter.unusedSimpArgs false
set_option linter.unusedVariables false
attribute [local irreducible] AWP CallG Ob Br BrP Go.Av.Sub endQ AOps OpV AC thenA blkA opsVC opVC withA withArgs opsQ opQ CallQ withA2 withArgs2
open Go.Pm (Pm comp invp idn img)

/- Permutations: the program's and the reference's functions -/
theorem idn_marks (n : Nat) : idn n = marks 0 n := by simp [idn, marks]
theorem isPerm_pm (p : List Int) : isPerm p ↔ (1 ≤ p.length ∧ p.length ≤ 20) ∧ Pm p.length p := by
  unfold isPerm
  refine and_congr_right fun h1 => ?_
  constructor
  · intro h
    refine ⟨rfl, fun j hj => by have := (h j hj).1; omega, fun i j hi hj e => ?_⟩
    have key : ∀ i j, i < j → j < p.length → p.getD i 0 ≠ p.getD j 0 := fun i j hij hj e => by
      refine (h j hj).2 (mem_getD.2 ⟨i, by simp; omega, ?_⟩)
      rw [← e]
      simp [List.getD_eq_getElem?_getD, List.getElem?_take, hij]
    rcases Nat.lt_trichotomy i j with hl | he | hl
    · exact absurd e (key i j hl hj)
    · exact he
    · exact absurd e.symm (key j i hl hi)
  · rintro ⟨_, h2, h3⟩ j hj
    refine ⟨by have := h2 j hj; omega, fun hm => ?_⟩
    obtain ⟨i, hi, e⟩ := mem_getD.1 hm
    simp only [List.length_take] at hi
    have e' : p.getD i 0 = p.getD j 0 := by
      rw [← e]
      simp [List.getD_eq_getElem?_getD, List.getElem?_take, show i < j by omega]
    have := h3 i j (by omega) hj e'
    omega

theorem implCompose_ok (p q : List Int) (hp : p.length ≤ 1048576) (hb : ∀ j, j < p.length → 0 ≤ p.getD j 0 ∧ p.getD j 0 < q.length) (d : Nat) : AC Try.prog 132 [ints p, ints q] Hp.emp (fun _ => false) (retI d (comp p q)) := by
  show AC _ _ _ _ _ (retI d (pick q p))
  refine ac_of_awp (N := ⟨_, fun _ => false, fun _ _ => rfl⟩) Try.func132 rfl (by kernel_rfl) Try.ntmps132 (by simp) ?_
  simp only [argsFr, List.zipIdx_cons, List.zipIdx_nil, go_sem]
  repeat' (first | refine awp_seqK fun K hK => ?_ | (refine awp_regionK 30963 rfl ?_; simp only [List.map_cons, List.map_nil]; simp (maxSteps := 1000000) (dsimp := false) (implicitDefEqProofs := false) (disch := omega) only [wrap64, go_sem]) | (refine awp_regionQK 30963 (by kernel_rfl) (by kernel_rfl) (by kernel_rfl) ?_; simp only [List.map_cons, List.map_nil]; simp (maxSteps := 1000000) (dsimp := false) (implicitDefEqProofs := false) (disch := omega) only [wrap64, go_sem]) | refine awp_block ?_ | (refine awp_skip ?_; simp only [go_sem]) | (refine awp_exit ?_; simp only [go_sem]) | (refine awp_ret ?_; try simp only [go_sem]) | (refine awp_condP rfl ?_; try simp only [go_sem]) | (refine BrP.mk (fun h => ?_) (fun h => ?_) <;> try simp (dsimp := false) (disch := omega) only [wrap64]) | (refine Br.mk (fun h => ?_) (fun h => ?_) <;> try simp (dsimp := false) (disch := omega) only [wrap64]) | refine Ob.mk (by first | omega | (intro _ _; rfl) | trivial | (intros; trivial) | assumption | (intro i hi; have h0 : i = 0 := (by omega); subst h0; first | rfl | trivial) | (intro i hi; have h0 : i = 0 ∨ i = 1 := (by omega); rcases h0 with rfl | rfl <;> rfl) | (intro i hi; have h0 : i = 0 ∨ i = 1 ∨ i = 2 := (by omega); rcases h0 with rfl | rfl | rfl <;> rfl)) ?_ | apply_assumption -exfalso -symm)
  all_goals (first | (show endQ _ _ _ _ _ _ _; (repeat (rename (∀ (A : Fr) (H : Hp), AWP _ _ _ _ A H → _) => hK; clear hK)); (repeat (rename (Fr → Hp → Prop) => K; clear K))) | (show Exists _; (repeat (rename (∀ (A : Fr) (H : Hp), AWP _ _ _ _ A H → _) => hK; clear hK)); (repeat (rename (Fr → Hp → Prop) => K; clear K))) | skip)
  refine awp_loop (ι := Nat) (fun k => [(13, .v (.int .i64 (k))), (12, .v (.int .i64 (p.length))), (11, .list false 1 (p).length (cM iv 0 (p))), (5, .own 10 0 1 p.length), (1, .list false 1 (q).length (cM iv 0 (q)))]) (fun k => Hp.emp.upd 10 (.cells p.length (cM iv 0 (pick q (p.take k) ++ List.replicate (p.length - k) 0)))) (fun k => k ≤ p.length) (fun k => p.length - k) 0 ?_ (Sub.toL (by simp only [go_sem] <;> first | trivial | (simp only [Option.some.injEq, AV.v.injEq, AV.own.injEq, AV.list.injEq, Value.int.injEq, Value.bool.injEq, true_and, and_true]; first | omega | (simp [pick]; done)) | (simp [pick]; done) | (simp [pick]; omega)) (by (repeat' (first | exact Hp.le_emp _ | exact Hp.le_refl _ | refine Hp.le_upd ?_ ?_)); all_goals (first | rfl | (simp only [go_sem]; first | rfl | (refine cellsE ?_ ?_ <;> (simp [pick])) | (simp [pick]))))) ?_
  · exact Nat.zero_le _
  intro k hk
  have hc := hb k
  have h1 : (pick q (p.take k) ++ List.replicate (p.length - k) 0).length = p.length := by simp [pick]; omega
  repeat' (first | refine awp_seqK fun K hK => ?_ | (refine awp_regionK 30963 rfl ?_; simp only [List.map_cons, List.map_nil]; simp (maxSteps := 1000000) (dsimp := false) (implicitDefEqProofs := false) (disch := omega) only [wrap64, go_sem]) | (refine awp_regionQK 30963 (by kernel_rfl) (by kernel_rfl) (by kernel_rfl) ?_; simp only [List.map_cons, List.map_nil]; simp (maxSteps := 1000000) (dsimp := false) (implicitDefEqProofs := false) (disch := omega) only [wrap64, go_sem]) | refine awp_block ?_ | (refine awp_skip ?_; simp only [go_sem]) | (refine awp_exit ?_; simp only [go_sem]) | (refine awp_ret ?_; try simp only [go_sem]) | (refine awp_condP rfl ?_; try simp only [go_sem]) | (refine BrP.mk (fun h => ?_) (fun h => ?_) <;> try simp (dsimp := false) (disch := omega) only [wrap64]) | (refine Br.mk (fun h => ?_) (fun h => ?_) <;> try simp (dsimp := false) (disch := omega) only [wrap64]) | refine Ob.mk (by first | omega | (intro _ _; rfl) | trivial | (intros; trivial) | assumption | (intro i hi; have h0 : i = 0 := (by omega); subst h0; first | rfl | trivial) | (intro i hi; have h0 : i = 0 ∨ i = 1 := (by omega); rcases h0 with rfl | rfl <;> rfl) | (intro i hi; have h0 : i = 0 ∨ i = 1 ∨ i = 2 := (by omega); rcases h0 with rfl | rfl | rfl <;> rfl)) ?_ | apply_assumption -exfalso -symm)
  all_goals (first | (show endQ _ _ _ _ _ _ _; (repeat (rename (∀ (A : Fr) (H : Hp), AWP _ _ _ _ A H → _) => hK; clear hK)); (repeat (rename (Fr → Hp → Prop) => K; clear K))) | (show Exists _; (repeat (rename (∀ (A : Fr) (H : Hp), AWP _ _ _ _ A H → _) => hK; clear hK)); (repeat (rename (Fr → Hp → Prop) => K; clear K))) | skip)
  · refine ⟨k + 1, ?_, ?_, Sub.toL (by simp only [go_sem] <;> first | trivial | (simp only [Option.some.injEq, AV.v.injEq, AV.own.injEq, AV.list.injEq, Value.int.injEq, Value.bool.injEq, true_and, and_true]; first | omega | (simp; done)) | (simp; done) | (simp; omega)) (by (repeat' (first | exact Hp.le_emp _ | exact Hp.le_refl _ | refine Hp.le_upd ?_ ?_)); all_goals (first | rfl | (simp only [go_sem]; first | rfl | (refine cellsE ?_ ?_ <;> (rw [pick_set q p k (by omega)])) | (rw [pick_set q p k (by omega)]))))⟩
    all_goals omega
  · have e : k = p.length := by omega
    subst e
    exact end_retI rfl rfl (by simp [Hp.upd]) (pick_length q p).symm rfl

theorem specCompose_ok (p q : List Int) (hp : p.length ≤ 1048576) (hb : ∀ j, j < p.length → 0 ≤ p.getD j 0 ∧ p.getD j 0 < q.length) (d : Nat) : AC Try.prog 66 [ints p, ints q] Hp.emp (fun _ => false) (retI d (comp p q)) := by
  show AC _ _ _ _ _ (retI d (pick q p))
  refine ac_of_awp (N := ⟨_, fun _ => false, fun _ _ => rfl⟩) Try.func66 rfl (by kernel_rfl) Try.ntmps66 (by simp) ?_
  simp only [argsFr, List.zipIdx_cons, List.zipIdx_nil, go_sem]
  repeat' (first | refine awp_seqK fun K hK => ?_ | (refine awp_regionK 2163 rfl ?_; simp only [List.map_cons, List.map_nil]; simp (maxSteps := 1000000) (dsimp := false) (implicitDefEqProofs := false) (disch := omega) only [wrap64, go_sem]) | (refine awp_regionQK 2163 (by kernel_rfl) (by kernel_rfl) (by kernel_rfl) ?_; simp only [List.map_cons, List.map_nil]; simp (maxSteps := 1000000) (dsimp := false) (implicitDefEqProofs := false) (disch := omega) only [wrap64, go_sem]) | refine awp_block ?_ | (refine awp_skip ?_; simp only [go_sem]) | (refine awp_exit ?_; simp only [go_sem]) | (refine awp_ret ?_; try simp only [go_sem]) | (refine awp_condP rfl ?_; try simp only [go_sem]) | (refine BrP.mk (fun h => ?_) (fun h => ?_) <;> try simp (dsimp := false) (disch := omega) only [wrap64]) | (refine Br.mk (fun h => ?_) (fun h => ?_) <;> try simp (dsimp := false) (disch := omega) only [wrap64]) | refine Ob.mk (by first | omega | (intro _ _; rfl) | trivial | (intros; trivial) | assumption | (intro i hi; have h0 : i = 0 := (by omega); subst h0; first | rfl | trivial) | (intro i hi; have h0 : i = 0 ∨ i = 1 := (by omega); rcases h0 with rfl | rfl <;> rfl) | (intro i hi; have h0 : i = 0 ∨ i = 1 ∨ i = 2 := (by omega); rcases h0 with rfl | rfl | rfl <;> rfl)) ?_ | apply_assumption -exfalso -symm)
  all_goals (first | (show endQ _ _ _ _ _ _ _; (repeat (rename (∀ (A : Fr) (H : Hp), AWP _ _ _ _ A H → _) => hK; clear hK)); (repeat (rename (Fr → Hp → Prop) => K; clear K))) | (show Exists _; (repeat (rename (∀ (A : Fr) (H : Hp), AWP _ _ _ _ A H → _) => hK; clear hK)); (repeat (rename (Fr → Hp → Prop) => K; clear K))) | skip)
  refine awp_loop (ι := Nat) (fun k => [(6, .v (.int .i64 (k))), (5, .own 7 0 1 (pick q (p.take k)).length), (0, .list false 1 (p).length (cM iv 0 (p))), (1, .list false 1 (q).length (cM iv 0 (q)))]) (fun k => Hp.emp.upd 7 (.cells (pick q (p.take k)).length (cM iv 0 (pick q (p.take k))))) (fun k => k ≤ p.length) (fun k => p.length - k) 0 ?_ (Sub.toL (by simp only [go_sem] <;> first | trivial | (simp only [Option.some.injEq, AV.v.injEq, AV.own.injEq, AV.list.injEq, Value.int.injEq, Value.bool.injEq, true_and, and_true]; first | omega | (simp [pick]; done)) | (simp [pick]; done) | (simp [pick]; omega)) (by (repeat' (first | exact Hp.le_emp _ | exact Hp.le_refl _ | refine Hp.le_upd ?_ ?_)); all_goals (first | rfl | (simp only [go_sem]; first | rfl | (refine cellsE ?_ ?_ <;> (simp [pick])) | (simp [pick]))))) ?_
  · exact Nat.zero_le _
  intro k hk
  have hc := hb k
  have h1 := pick_length q (p.take k)
  have h2 := pick_length q (p.take (k + 1))
  rw [List.length_take] at h1 h2
  have h3 := pick_step q p k
  repeat' (first | refine awp_seqK fun K hK => ?_ | (refine awp_regionK 2163 rfl ?_; simp only [List.map_cons, List.map_nil]; simp (maxSteps := 1000000) (dsimp := false) (implicitDefEqProofs := false) (disch := omega) only [wrap64, go_sem]) | (refine awp_regionQK 2163 (by kernel_rfl) (by kernel_rfl) (by kernel_rfl) ?_; simp only [List.map_cons, List.map_nil]; simp (maxSteps := 1000000) (dsimp := false) (implicitDefEqProofs := false) (disch := omega) only [wrap64, go_sem]) | refine awp_block ?_ | (refine awp_skip ?_; simp only [go_sem]) | (refine awp_exit ?_; simp only [go_sem]) | (refine awp_ret ?_; try simp only [go_sem]) | (refine awp_condP rfl ?_; try simp only [go_sem]) | (refine BrP.mk (fun h => ?_) (fun h => ?_) <;> try simp (dsimp := false) (disch := omega) only [wrap64]) | (refine Br.mk (fun h => ?_) (fun h => ?_) <;> try simp (dsimp := false) (disch := omega) only [wrap64]) | refine Ob.mk (by first | omega | (intro _ _; rfl) | trivial | (intros; trivial) | assumption | (intro i hi; have h0 : i = 0 := (by omega); subst h0; first | rfl | trivial) | (intro i hi; have h0 : i = 0 ∨ i = 1 := (by omega); rcases h0 with rfl | rfl <;> rfl) | (intro i hi; have h0 : i = 0 ∨ i = 1 ∨ i = 2 := (by omega); rcases h0 with rfl | rfl | rfl <;> rfl)) ?_ | apply_assumption -exfalso -symm)
  all_goals (first | (show endQ _ _ _ _ _ _ _; (repeat (rename (∀ (A : Fr) (H : Hp), AWP _ _ _ _ A H → _) => hK; clear hK)); (repeat (rename (Fr → Hp → Prop) => K; clear K))) | (show Exists _; (repeat (rename (∀ (A : Fr) (H : Hp), AWP _ _ _ _ A H → _) => hK; clear hK)); (repeat (rename (Fr → Hp → Prop) => K; clear K))) | skip)
  · refine ⟨k + 1, ?_, ?_, Sub.toL (by simp only [go_sem] <;> first | trivial | (simp only [Option.some.injEq, AV.v.injEq, AV.own.injEq, AV.list.injEq, Value.int.injEq, Value.bool.injEq, true_and, and_true]; first | omega | (simp; done)) | (simp; done) | (simp; omega)) (by (repeat' (first | exact Hp.le_emp _ | exact Hp.le_refl _ | refine Hp.le_upd ?_ ?_)); all_goals (first | rfl | (simp only [go_sem]; first | rfl | (refine cellsE ?_ ?_ <;> (first | omega | exact h3 (by omega))) | (first | omega | exact h3 (by omega)))))⟩
    all_goals omega
  · have e : k = p.length := by omega
    subst e
    rw [List.take_length]
    exact end_retI' rfl rfl rfl rfl rfl rfl

/-- The inverse, k of its entries laid. -/
def invK (p : List Int) (k : Nat) : List Int := (List.range p.length).map fun i : Nat => if (p.findIdx fun x => decide (x = (i : Int))) < k then ((p.findIdx fun x => decide (x = (i : Int)) : Nat) : Int) else 0
theorem invK_length (p : List Int) (k : Nat) : (invK p k).length = p.length := by simp [invK]
theorem invK_zero (p : List Int) : invK p 0 = List.replicate p.length 0 := by
  refine List.ext_getElem (by simp [invK]) fun i h1 h2 => ?_
  simp [invK]
theorem findIdx_img {n : Nat} {p : List Int} (h : Pm n p) {k : Nat} (hk : k < n) : (p.findIdx fun x => decide (x = ((img p k : Nat) : Int))) = k := by
  obtain ⟨h1, h2⟩ := h.find (h.img_lt hk)
  exact h.inj h1 hk h2
theorem invK_step {n : Nat} {p : List Int} (h : Pm n p) {k : Nat} (hk : k < n) : (invK p k).set (p.getD k 0).toNat k = invK p (k + 1) := by
  have e0 : (p.getD k 0).toNat = img p k := rfl
  rw [e0]
  refine List.ext_getElem (by simp [invK]) fun i h1 h2 => ?_
  have hi : i < n := by simpa [invK, h.1] using h1
  rw [List.getElem_set]
  by_cases e : img p k = i
  · subst e
    rw [if_pos rfl]
    simp [invK, findIdx_img h hk]
  · rw [if_neg e]
    simp only [invK, List.getElem_map, List.getElem_range]
    have hne : (p.findIdx fun x => decide (x = (i : Int))) ≠ k := fun e2 => e (by rw [← e2]; exact (h.find hi).2)
    by_cases h3 : (p.findIdx fun x => decide (x = (i : Int))) < k
    · rw [if_pos h3, if_pos (by omega)]
    · rw [if_neg h3, if_neg (by omega)]
theorem invK_all {n : Nat} {p : List Int} (h : Pm n p) : invK p p.length = invp p := by
  unfold invK invp
  refine List.map_congr_left fun i hi => ?_
  rw [if_pos]
  rw [h.1] at hi ⊢
  exact (h.find (by simpa using hi)).1

theorem implInverse_ok (p : List Int) (hp : p.length ≤ 1048576) (hpm : Pm p.length p) (d : Nat) : AC Try.prog 139 [ints p] Hp.emp (fun _ => false) (retI d (invp p)) := by
  refine ac_of_awp (N := ⟨_, fun _ => false, fun _ _ => rfl⟩) Try.func139 rfl (by kernel_rfl) Try.ntmps139 (by simp) ?_
  simp only [argsFr, List.zipIdx_cons, List.zipIdx_nil, go_sem]
  repeat' (first | refine awp_seqK fun K hK => ?_ | (refine awp_regionK 7741 rfl ?_; simp only [List.map_cons, List.map_nil]; simp (maxSteps := 1000000) (dsimp := false) (implicitDefEqProofs := false) (disch := omega) only [wrap64, go_sem]) | (refine awp_regionQK 7741 (by kernel_rfl) (by kernel_rfl) (by kernel_rfl) ?_; simp only [List.map_cons, List.map_nil]; simp (maxSteps := 1000000) (dsimp := false) (implicitDefEqProofs := false) (disch := omega) only [wrap64, go_sem]) | refine awp_block ?_ | (refine awp_skip ?_; simp only [go_sem]) | (refine awp_exit ?_; simp only [go_sem]) | (refine awp_ret ?_; try simp only [go_sem]) | (refine awp_condP rfl ?_; try simp only [go_sem]) | (refine BrP.mk (fun h => ?_) (fun h => ?_) <;> try simp (dsimp := false) (disch := omega) only [wrap64]) | (refine Br.mk (fun h => ?_) (fun h => ?_) <;> try simp (dsimp := false) (disch := omega) only [wrap64]) | refine Ob.mk (by first | omega | (intro _ _; rfl) | trivial | (intros; trivial) | assumption | (intro i hi; have h0 : i = 0 := (by omega); subst h0; first | rfl | trivial) | (intro i hi; have h0 : i = 0 ∨ i = 1 := (by omega); rcases h0 with rfl | rfl <;> rfl) | (intro i hi; have h0 : i = 0 ∨ i = 1 ∨ i = 2 := (by omega); rcases h0 with rfl | rfl | rfl <;> rfl)) ?_ | apply_assumption -exfalso -symm)
  all_goals (first | (show endQ _ _ _ _ _ _ _; (repeat (rename (∀ (A : Fr) (H : Hp), AWP _ _ _ _ A H → _) => hK; clear hK)); (repeat (rename (Fr → Hp → Prop) => K; clear K))) | (show Exists _; (repeat (rename (∀ (A : Fr) (H : Hp), AWP _ _ _ _ A H → _) => hK; clear hK)); (repeat (rename (Fr → Hp → Prop) => K; clear K))) | skip)
  refine awp_loop (ι := Nat) (fun k => [(11, .v (.int .i64 (k))), (10, .v (.int .i64 (p.length))), (9, .list false 1 (p).length (cM iv 0 (p))), (3, .own 8 0 1 p.length)]) (fun k => Hp.emp.upd 8 (.cells p.length (cM iv 0 (invK p k)))) (fun k => k ≤ p.length) (fun k => p.length - k) 0 ?_ (Sub.toL (by simp only [go_sem] <;> first | trivial | (simp only [Option.some.injEq, AV.v.injEq, AV.own.injEq, AV.list.injEq, Value.int.injEq, Value.bool.injEq, true_and, and_true]; first | omega | (simp [invK_zero]; done)) | (simp [invK_zero]; done) | (simp [invK_zero]; omega)) (by (repeat' (first | exact Hp.le_emp _ | exact Hp.le_refl _ | refine Hp.le_upd ?_ ?_)); all_goals (first | rfl | (simp only [go_sem]; first | rfl | (refine cellsE ?_ ?_ <;> (simp [invK_zero])) | (simp [invK_zero]))))) ?_
  · exact Nat.zero_le _
  intro k hk
  have hc := hpm.2.1 k
  have h1 := invK_length p k
  repeat' (first | refine awp_seqK fun K hK => ?_ | (refine awp_regionK 7741 rfl ?_; simp only [List.map_cons, List.map_nil]; simp (maxSteps := 1000000) (dsimp := false) (implicitDefEqProofs := false) (disch := omega) only [wrap64, go_sem]) | (refine awp_regionQK 7741 (by kernel_rfl) (by kernel_rfl) (by kernel_rfl) ?_; simp only [List.map_cons, List.map_nil]; simp (maxSteps := 1000000) (dsimp := false) (implicitDefEqProofs := false) (disch := omega) only [wrap64, go_sem]) | refine awp_block ?_ | (refine awp_skip ?_; simp only [go_sem]) | (refine awp_exit ?_; simp only [go_sem]) | (refine awp_ret ?_; try simp only [go_sem]) | (refine awp_condP rfl ?_; try simp only [go_sem]) | (refine BrP.mk (fun h => ?_) (fun h => ?_) <;> try simp (dsimp := false) (disch := omega) only [wrap64]) | (refine Br.mk (fun h => ?_) (fun h => ?_) <;> try simp (dsimp := false) (disch := omega) only [wrap64]) | refine Ob.mk (by first | omega | (intro _ _; rfl) | trivial | (intros; trivial) | assumption | (intro i hi; have h0 : i = 0 := (by omega); subst h0; first | rfl | trivial) | (intro i hi; have h0 : i = 0 ∨ i = 1 := (by omega); rcases h0 with rfl | rfl <;> rfl) | (intro i hi; have h0 : i = 0 ∨ i = 1 ∨ i = 2 := (by omega); rcases h0 with rfl | rfl | rfl <;> rfl)) ?_ | apply_assumption -exfalso -symm)
  all_goals (first | (show endQ _ _ _ _ _ _ _; (repeat (rename (∀ (A : Fr) (H : Hp), AWP _ _ _ _ A H → _) => hK; clear hK)); (repeat (rename (Fr → Hp → Prop) => K; clear K))) | (show Exists _; (repeat (rename (∀ (A : Fr) (H : Hp), AWP _ _ _ _ A H → _) => hK; clear hK)); (repeat (rename (Fr → Hp → Prop) => K; clear K))) | skip)
  · refine ⟨k + 1, ?_, ?_, Sub.toL (by simp only [go_sem] <;> first | trivial | (simp only [Option.some.injEq, AV.v.injEq, AV.own.injEq, AV.list.injEq, Value.int.injEq, Value.bool.injEq, true_and, and_true]; first | omega | (simp; done)) | (simp; done) | (simp; omega)) (by (repeat' (first | exact Hp.le_emp _ | exact Hp.le_refl _ | refine Hp.le_upd ?_ ?_)); all_goals (first | rfl | (simp only [go_sem]; first | rfl | (refine cellsE ?_ ?_ <;> (rw [invK_step hpm (by omega)])) | (rw [invK_step hpm (by omega)]))))⟩
    all_goals omega
  · have e : k = p.length := by omega
    subst e
    rw [invK_all hpm]
    exact end_retI rfl rfl (by simp [Hp.upd]) (by rw [← invK_all hpm, invK_length]) rfl

theorem specInverse_ok (p : List Int) (hp : p.length ≤ 1048576) (hpm : Pm p.length p) (d : Nat) : AC Try.prog 91 [ints p] Hp.emp (fun _ => false) (retI d (invp p)) := by
  refine ac_of_awp (N := ⟨_, fun _ => false, fun _ _ => rfl⟩) Try.func91 rfl (by kernel_rfl) Try.ntmps91 (by simp) ?_
  simp only [argsFr, List.zipIdx_cons, List.zipIdx_nil, go_sem]
  repeat' (first | refine awp_seqK fun K hK => ?_ | (refine awp_regionK 2077 rfl ?_; simp only [List.map_cons, List.map_nil]; simp (maxSteps := 1000000) (dsimp := false) (implicitDefEqProofs := false) (disch := omega) only [wrap64, go_sem]) | (refine awp_regionQK 2077 (by kernel_rfl) (by kernel_rfl) (by kernel_rfl) ?_; simp only [List.map_cons, List.map_nil]; simp (maxSteps := 1000000) (dsimp := false) (implicitDefEqProofs := false) (disch := omega) only [wrap64, go_sem]) | refine awp_block ?_ | (refine awp_skip ?_; simp only [go_sem]) | (refine awp_exit ?_; simp only [go_sem]) | (refine awp_ret ?_; try simp only [go_sem]) | (refine awp_condP rfl ?_; try simp only [go_sem]) | (refine BrP.mk (fun h => ?_) (fun h => ?_) <;> try simp (dsimp := false) (disch := omega) only [wrap64]) | (refine Br.mk (fun h => ?_) (fun h => ?_) <;> try simp (dsimp := false) (disch := omega) only [wrap64]) | refine Ob.mk (by first | omega | (intro _ _; rfl) | trivial | (intros; trivial) | assumption | (intro i hi; have h0 : i = 0 := (by omega); subst h0; first | rfl | trivial) | (intro i hi; have h0 : i = 0 ∨ i = 1 := (by omega); rcases h0 with rfl | rfl <;> rfl) | (intro i hi; have h0 : i = 0 ∨ i = 1 ∨ i = 2 := (by omega); rcases h0 with rfl | rfl | rfl <;> rfl)) ?_ | apply_assumption -exfalso -symm)
  all_goals (first | (show endQ _ _ _ _ _ _ _; (repeat (rename (∀ (A : Fr) (H : Hp), AWP _ _ _ _ A H → _) => hK; clear hK)); (repeat (rename (Fr → Hp → Prop) => K; clear K))) | (show Exists _; (repeat (rename (∀ (A : Fr) (H : Hp), AWP _ _ _ _ A H → _) => hK; clear hK)); (repeat (rename (Fr → Hp → Prop) => K; clear K))) | skip)
  refine awp_loop (ι := Nat) (fun k => [(4, .v (.int .i64 (k))), (0, .list false 1 (p).length (cM iv 0 (p))), (3, .own 7 0 1 p.length)]) (fun k => Hp.emp.upd 7 (.cells p.length (cM iv 0 (invK p k)))) (fun k => k ≤ p.length) (fun k => p.length - k) 0 ?_ (Sub.toL (by simp only [go_sem] <;> first | trivial | (simp only [Option.some.injEq, AV.v.injEq, AV.own.injEq, AV.list.injEq, Value.int.injEq, Value.bool.injEq, true_and, and_true]; first | omega | (simp [invK_zero]; done)) | (simp [invK_zero]; done) | (simp [invK_zero]; omega)) (by (repeat' (first | exact Hp.le_emp _ | exact Hp.le_refl _ | refine Hp.le_upd ?_ ?_)); all_goals (first | rfl | (simp only [go_sem]; first | rfl | (refine cellsE ?_ ?_ <;> (simp [invK_zero])) | (simp [invK_zero]))))) ?_
  · exact Nat.zero_le _
  intro k hk
  have hc := hpm.2.1 k
  have h1 := invK_length p k
  repeat' (first | refine awp_seqK fun K hK => ?_ | (refine awp_regionK 2077 rfl ?_; simp only [List.map_cons, List.map_nil]; simp (maxSteps := 1000000) (dsimp := false) (implicitDefEqProofs := false) (disch := omega) only [wrap64, go_sem]) | (refine awp_regionQK 2077 (by kernel_rfl) (by kernel_rfl) (by kernel_rfl) ?_; simp only [List.map_cons, List.map_nil]; simp (maxSteps := 1000000) (dsimp := false) (implicitDefEqProofs := false) (disch := omega) only [wrap64, go_sem]) | refine awp_block ?_ | (refine awp_skip ?_; simp only [go_sem]) | (refine awp_exit ?_; simp only [go_sem]) | (refine awp_ret ?_; try simp only [go_sem]) | (refine awp_condP rfl ?_; try simp only [go_sem]) | (refine BrP.mk (fun h => ?_) (fun h => ?_) <;> try simp (dsimp := false) (disch := omega) only [wrap64]) | (refine Br.mk (fun h => ?_) (fun h => ?_) <;> try simp (dsimp := false) (disch := omega) only [wrap64]) | refine Ob.mk (by first | omega | (intro _ _; rfl) | trivial | (intros; trivial) | assumption | (intro i hi; have h0 : i = 0 := (by omega); subst h0; first | rfl | trivial) | (intro i hi; have h0 : i = 0 ∨ i = 1 := (by omega); rcases h0 with rfl | rfl <;> rfl) | (intro i hi; have h0 : i = 0 ∨ i = 1 ∨ i = 2 := (by omega); rcases h0 with rfl | rfl | rfl <;> rfl)) ?_ | apply_assumption -exfalso -symm)
  all_goals (first | (show endQ _ _ _ _ _ _ _; (repeat (rename (∀ (A : Fr) (H : Hp), AWP _ _ _ _ A H → _) => hK; clear hK)); (repeat (rename (Fr → Hp → Prop) => K; clear K))) | (show Exists _; (repeat (rename (∀ (A : Fr) (H : Hp), AWP _ _ _ _ A H → _) => hK; clear hK)); (repeat (rename (Fr → Hp → Prop) => K; clear K))) | skip)
  · refine ⟨k + 1, ?_, ?_, Sub.toL (by simp only [go_sem] <;> first | trivial | (simp only [Option.some.injEq, AV.v.injEq, AV.own.injEq, AV.list.injEq, Value.int.injEq, Value.bool.injEq, true_and, and_true]; first | omega | (simp; done)) | (simp; done) | (simp; omega)) (by (repeat' (first | exact Hp.le_emp _ | exact Hp.le_refl _ | refine Hp.le_upd ?_ ?_)); all_goals (first | rfl | (simp only [go_sem]; first | rfl | (refine cellsE ?_ ?_ <;> (rw [invK_step hpm (by omega)])) | (rw [invK_step hpm (by omega)]))))⟩
    all_goals omega
  · have e : k = p.length := by omega
    subst e
    rw [invK_all hpm]
    exact end_retI rfl rfl (by simp [Hp.upd]) (by rw [← invK_all hpm, invK_length]) rfl

theorem implIdentity_ok (n : Nat) (hn : n ≤ 1048576) (d : Nat) : AC Try.prog 98 [.v (.int .i64 (n))] Hp.emp (fun _ => false) (retI d (idn n)) := by
  refine ac_of_awp (N := ⟨_, fun _ => false, fun _ _ => rfl⟩) Try.func98 rfl (by kernel_rfl) Try.ntmps98 (by simp) ?_
  simp only [argsFr, List.zipIdx_cons, List.zipIdx_nil, go_sem]
  repeat' (first | refine awp_seqK fun K hK => ?_ | (refine awp_regionK 1821 rfl ?_; simp only [List.map_cons, List.map_nil]; simp (maxSteps := 1000000) (dsimp := false) (implicitDefEqProofs := false) (disch := omega) only [wrap64, go_sem]) | (refine awp_regionQK 1821 (by kernel_rfl) (by kernel_rfl) (by kernel_rfl) ?_; simp only [List.map_cons, List.map_nil]; simp (maxSteps := 1000000) (dsimp := false) (implicitDefEqProofs := false) (disch := omega) only [wrap64, go_sem]) | refine awp_block ?_ | (refine awp_skip ?_; simp only [go_sem]) | (refine awp_exit ?_; simp only [go_sem]) | (refine awp_ret ?_; try simp only [go_sem]) | (refine awp_condP rfl ?_; try simp only [go_sem]) | (refine BrP.mk (fun h => ?_) (fun h => ?_) <;> try simp (dsimp := false) (disch := omega) only [wrap64]) | (refine Br.mk (fun h => ?_) (fun h => ?_) <;> try simp (dsimp := false) (disch := omega) only [wrap64]) | refine Ob.mk (by first | omega | (intro _ _; rfl) | trivial | (intros; trivial) | assumption | (intro i hi; have h0 : i = 0 := (by omega); subst h0; first | rfl | trivial) | (intro i hi; have h0 : i = 0 ∨ i = 1 := (by omega); rcases h0 with rfl | rfl <;> rfl) | (intro i hi; have h0 : i = 0 ∨ i = 1 ∨ i = 2 := (by omega); rcases h0 with rfl | rfl | rfl <;> rfl)) ?_ | apply_assumption -exfalso -symm)
  all_goals (first | (show endQ _ _ _ _ _ _ _; (repeat (rename (∀ (A : Fr) (H : Hp), AWP _ _ _ _ A H → _) => hK; clear hK)); (repeat (rename (Fr → Hp → Prop) => K; clear K))) | (show Exists _; (repeat (rename (∀ (A : Fr) (H : Hp), AWP _ _ _ _ A H → _) => hK; clear hK)); (repeat (rename (Fr → Hp → Prop) => K; clear K))) | skip)
  refine awp_loop (ι := Nat) (fun k => [(9, .v (.int .i64 (k))), (8, .v (.int .i64 (n))), (3, .own 6 0 1 n)]) (fun k => Hp.emp.upd 6 (.cells n (cM iv 0 (idn k ++ List.replicate (n - k) 0)))) (fun k => k ≤ n) (fun k => n - k) 0 ?_ (Sub.toL (by simp only [go_sem] <;> first | trivial | (simp only [Option.some.injEq, AV.v.injEq, AV.own.injEq, AV.list.injEq, Value.int.injEq, Value.bool.injEq, true_and, and_true]; first | omega | (simp [idn]; done)) | (simp [idn]; done) | (simp [idn]; omega)) (by (repeat' (first | exact Hp.le_emp _ | exact Hp.le_refl _ | refine Hp.le_upd ?_ ?_)); all_goals (first | rfl | (simp only [go_sem]; first | rfl | (refine cellsE ?_ ?_ <;> (simp [idn])) | (simp [idn]))))) ?_
  · exact Nat.zero_le _
  intro k hk
  have h1 : (idn k ++ List.replicate (n - k) 0).length = n := by simp [idn]; omega
  have h2 : k < n → (idn k ++ List.replicate (n - k) 0).set k k = idn (k + 1) ++ List.replicate (n - (k + 1)) 0 := fun h => by
    rw [List.set_append_right _ _ (by simp [idn])]
    simp only [Go.Pm.idn_length, Nat.sub_self]
    rw [show n - k = (n - (k + 1)) + 1 by omega, List.replicate_succ, List.set_cons_zero]
    simp [idn, List.range_succ]
  repeat' (first | refine awp_seqK fun K hK => ?_ | (refine awp_regionK 1821 rfl ?_; simp only [List.map_cons, List.map_nil]; simp (maxSteps := 1000000) (dsimp := false) (implicitDefEqProofs := false) (disch := omega) only [wrap64, go_sem]) | (refine awp_regionQK 1821 (by kernel_rfl) (by kernel_rfl) (by kernel_rfl) ?_; simp only [List.map_cons, List.map_nil]; simp (maxSteps := 1000000) (dsimp := false) (implicitDefEqProofs := false) (disch := omega) only [wrap64, go_sem]) | refine awp_block ?_ | (refine awp_skip ?_; simp only [go_sem]) | (refine awp_exit ?_; simp only [go_sem]) | (refine awp_ret ?_; try simp only [go_sem]) | (refine awp_condP rfl ?_; try simp only [go_sem]) | (refine BrP.mk (fun h => ?_) (fun h => ?_) <;> try simp (dsimp := false) (disch := omega) only [wrap64]) | (refine Br.mk (fun h => ?_) (fun h => ?_) <;> try simp (dsimp := false) (disch := omega) only [wrap64]) | refine Ob.mk (by first | omega | (intro _ _; rfl) | trivial | (intros; trivial) | assumption | (intro i hi; have h0 : i = 0 := (by omega); subst h0; first | rfl | trivial) | (intro i hi; have h0 : i = 0 ∨ i = 1 := (by omega); rcases h0 with rfl | rfl <;> rfl) | (intro i hi; have h0 : i = 0 ∨ i = 1 ∨ i = 2 := (by omega); rcases h0 with rfl | rfl | rfl <;> rfl)) ?_ | apply_assumption -exfalso -symm)
  all_goals (first | (show endQ _ _ _ _ _ _ _; (repeat (rename (∀ (A : Fr) (H : Hp), AWP _ _ _ _ A H → _) => hK; clear hK)); (repeat (rename (Fr → Hp → Prop) => K; clear K))) | (show Exists _; (repeat (rename (∀ (A : Fr) (H : Hp), AWP _ _ _ _ A H → _) => hK; clear hK)); (repeat (rename (Fr → Hp → Prop) => K; clear K))) | skip)
  · refine ⟨k + 1, ?_, ?_, Sub.toL (by simp only [go_sem] <;> first | trivial | (simp only [Option.some.injEq, AV.v.injEq, AV.own.injEq, AV.list.injEq, Value.int.injEq, Value.bool.injEq, true_and, and_true]; first | omega | (simp; done)) | (simp; done) | (simp; omega)) (by (repeat' (first | exact Hp.le_emp _ | exact Hp.le_refl _ | refine Hp.le_upd ?_ ?_)); all_goals (first | rfl | (simp only [go_sem]; first | rfl | (refine cellsE ?_ ?_ <;> (first | omega | (rw [h2 (by omega)]))) | (first | omega | (rw [h2 (by omega)])))))⟩
    all_goals omega
  · have e : k = n := by omega
    subst e
    exact end_retI rfl rfl (by simp [Hp.upd]) (by simp [idn]) rfl

/- letters and words -/
def letP (g : List (List Int)) (l : Int) : List Int := if 0 < l then g.getD (l - 1).toNat [] else invp (g.getD (-l - 1).toNat [])
/-- The generators are permutations of n points. -/
def gensP (n : Nat) (g : List (List Int)) : Prop := g.length ≤ 1048576 ∧ n ≤ 20 ∧ ∀ j, j < g.length → Pm n (g.getD j [])
theorem gensP.of {n : Int} {g : List (List Int)} (h : isGens n g) : gensP n.toNat g := by
  refine ⟨by have := h.2.1; omega, by have := h.1; omega, fun j hj => ?_⟩
  obtain ⟨h1, h2⟩ := h.2.2 j hj
  have := ((isPerm_pm _).1 h2).2
  rwa [show (g.getD j []).length = n.toNat by omega] at this
def inL (g : List (List Int)) (l : Int) : Prop := l ≠ 0 ∧ -(g.length : Int) ≤ l ∧ l ≤ g.length
theorem letP_pm {n : Nat} {g : List (List Int)} {l : Int} (hg : gensP n g) (hl : inL g l) : Pm n (letP g l) := by
  unfold letP inL at *
  split
  · exact hg.2.2 _ (by omega)
  · exact (hg.2.2 _ (by omega)).inv
theorem implLetterOf_ok (n : Nat) (g : List (List Int)) (l : Int) (hg : gensP n g) (hl : inL g l) : AC Try.prog 173 [intss g, .v (.int .i64 (l))] Hp.emp (fun _ => false) (retV (ints (letP g l))) := by
  unfold inL at hl
  have h3 := hg.1
  refine ac_of_awp (N := ⟨_, fun _ => false, fun _ _ => rfl⟩) Try.func173 rfl (by kernel_rfl) Try.ntmps173 (by simp) ?_
  simp only [argsFr, List.zipIdx_cons, List.zipIdx_nil, go_sem]
  repeat' (first | refine awp_seqK fun K hK => ?_ | (refine awp_regionK 83 rfl ?_; simp only [List.map_cons, List.map_nil]; simp (maxSteps := 1000000) (dsimp := false) (implicitDefEqProofs := false) (disch := omega) only [wrap64, go_sem, Int.zero_sub]) | (refine awp_regionQK 83 (by kernel_rfl) (by kernel_rfl) (by kernel_rfl) ?_; simp only [List.map_cons, List.map_nil]; simp (maxSteps := 1000000) (dsimp := false) (implicitDefEqProofs := false) (disch := omega) only [wrap64, go_sem, Int.zero_sub]) | refine awp_block ?_ | (refine awp_skip ?_; simp only [go_sem, Int.zero_sub]) | (refine awp_exit ?_; simp only [go_sem, Int.zero_sub]) | (refine awp_ret ?_; try simp only [go_sem, Int.zero_sub]) | (refine awp_condP rfl ?_; try simp only [go_sem, Int.zero_sub]) | (refine BrP.mk (fun h => ?_) (fun h => ?_) <;> try simp (dsimp := false) (disch := omega) only [wrap64]) | (refine Br.mk (fun h => ?_) (fun h => ?_) <;> try simp (dsimp := false) (disch := omega) only [wrap64]) | refine Ob.mk (by first | omega | (intro _ _; rfl) | trivial | (intros; trivial) | assumption | (intro i hi; have h0 : i = 0 := (by omega); subst h0; first | rfl | trivial) | (intro i hi; have h0 : i = 0 ∨ i = 1 := (by omega); rcases h0 with rfl | rfl <;> rfl) | (intro i hi; have h0 : i = 0 ∨ i = 1 ∨ i = 2 := (by omega); rcases h0 with rfl | rfl | rfl <;> rfl)) ?_ | ((first | ((first | refine atF (f := 139) ?_ | refine atQ (f := 139) ?_); (first | (refine cI (hac := implInverse_ok (g.getD (-l - 1).toNat []) (by rw [(hg.2.2 _ (by omega)).1]; have := hg.2.1; omega) (by have := hg.2.2 (-l - 1).toNat (by omega); rwa [← this.1] at this) 18) (hK := ?_)) | (refine cQI (hac := implInverse_ok (g.getD (-l - 1).toNat []) (by rw [(hg.2.2 _ (by omega)).1]; have := hg.2.1; omega) (by have := hg.2.2 (-l - 1).toNat (by omega); rwa [← this.1] at this) 18) (hK := ?_))))); simp (maxSteps := 1000000) (dsimp := false) (implicitDefEqProofs := false) (disch := omega) only [wrap64, go_sem, Int.zero_sub]) | apply_assumption -exfalso -symm)
  all_goals (first | (show endQ _ _ _ _ _ _ _; (repeat (rename (∀ (A : Fr) (H : Hp), AWP _ _ _ _ A H → _) => hK; clear hK)); (repeat (rename (Fr → Hp → Prop) => K; clear K))) | (show Exists _; (repeat (rename (∀ (A : Fr) (H : Hp), AWP _ _ _ _ A H → _) => hK; clear hK)); (repeat (rename (Fr → Hp → Prop) => K; clear K))) | skip)
  · refine end_retF rfl rfl ?_
    unfold letP
    rw [if_pos (by assumption)]
    exact .refl _
  · refine end_retF rfl rfl ?_
    unfold letP
    rw [if_neg (by assumption)]
    exact fits_I rfl trivial rfl rfl
theorem specLetterPermutation_ok (n : Nat) (g : List (List Int)) (l : Int) (hg : gensP n g) (hl : inL g l) : AC Try.prog 134 [intss g, .v (.int .i64 (l))] Hp.emp (fun _ => false) (retV (ints (letP g l))) := by
  unfold inL at hl
  have h3 := hg.1
  refine ac_of_awp (N := ⟨_, fun _ => false, fun _ _ => rfl⟩) Try.func134 rfl (by kernel_rfl) Try.ntmps134 (by simp) ?_
  simp only [argsFr, List.zipIdx_cons, List.zipIdx_nil, go_sem]
  repeat' (first | refine awp_seqK fun K hK => ?_ | (refine awp_regionK 83 rfl ?_; simp only [List.map_cons, List.map_nil]; simp (maxSteps := 1000000) (dsimp := false) (implicitDefEqProofs := false) (disch := omega) only [wrap64, go_sem, Int.zero_sub]) | (refine awp_regionQK 83 (by kernel_rfl) (by kernel_rfl) (by kernel_rfl) ?_; simp only [List.map_cons, List.map_nil]; simp (maxSteps := 1000000) (dsimp := false) (implicitDefEqProofs := false) (disch := omega) only [wrap64, go_sem, Int.zero_sub]) | refine awp_block ?_ | (refine awp_skip ?_; simp only [go_sem, Int.zero_sub]) | (refine awp_exit ?_; simp only [go_sem, Int.zero_sub]) | (refine awp_ret ?_; try simp only [go_sem, Int.zero_sub]) | (refine awp_condP rfl ?_; try simp only [go_sem, Int.zero_sub]) | (refine BrP.mk (fun h => ?_) (fun h => ?_) <;> try simp (dsimp := false) (disch := omega) only [wrap64]) | (refine Br.mk (fun h => ?_) (fun h => ?_) <;> try simp (dsimp := false) (disch := omega) only [wrap64]) | refine Ob.mk (by first | omega | (intro _ _; rfl) | trivial | (intros; trivial) | assumption | (intro i hi; have h0 : i = 0 := (by omega); subst h0; first | rfl | trivial) | (intro i hi; have h0 : i = 0 ∨ i = 1 := (by omega); rcases h0 with rfl | rfl <;> rfl) | (intro i hi; have h0 : i = 0 ∨ i = 1 ∨ i = 2 := (by omega); rcases h0 with rfl | rfl | rfl <;> rfl)) ?_ | ((first | ((first | refine atF (f := 91) ?_ | refine atQ (f := 91) ?_); (first | (refine cI (hac := specInverse_ok (g.getD (-l - 1).toNat []) (by rw [(hg.2.2 _ (by omega)).1]; have := hg.2.1; omega) (by have := hg.2.2 (-l - 1).toNat (by omega); rwa [← this.1] at this) 13) (hK := ?_)) | (refine cQI (hac := specInverse_ok (g.getD (-l - 1).toNat []) (by rw [(hg.2.2 _ (by omega)).1]; have := hg.2.1; omega) (by have := hg.2.2 (-l - 1).toNat (by omega); rwa [← this.1] at this) 13) (hK := ?_))))); simp (maxSteps := 1000000) (dsimp := false) (implicitDefEqProofs := false) (disch := omega) only [wrap64, go_sem, Int.zero_sub]) | apply_assumption -exfalso -symm)
  all_goals (first | (show endQ _ _ _ _ _ _ _; (repeat (rename (∀ (A : Fr) (H : Hp), AWP _ _ _ _ A H → _) => hK; clear hK)); (repeat (rename (Fr → Hp → Prop) => K; clear K))) | (show Exists _; (repeat (rename (∀ (A : Fr) (H : Hp), AWP _ _ _ _ A H → _) => hK; clear hK)); (repeat (rename (Fr → Hp → Prop) => K; clear K))) | skip)
  · refine end_retF rfl rfl ?_
    unfold letP
    rw [if_neg (by omega)]
    exact fits_I rfl trivial rfl rfl
  · refine end_retF rfl rfl ?_
    unfold letP
    rw [if_pos (by omega)]
    exact .refl _

def evalP (n : Nat) (g : List (List Int)) (w : List Int) : List Int := w.foldl (fun p l => comp p (letP g l)) (idn n)
theorem evalP_snoc (n : Nat) (g : List (List Int)) (w : List Int) (k : Nat) (h : k < w.length) : comp (evalP n g (w.take k)) (letP g (w.getD k 0)) = evalP n g (w.take (k + 1)) := by
  have e : w.getD k 0 = w[k] := by simp [h]
  rw [e, List.take_succ_eq_append_getElem h]
  unfold evalP
  rw [List.foldl_append]
  rfl
def wordP (g : List (List Int)) (w : List Int) : Prop := ∀ j, j < w.length → inL g (w.getD j 0)
theorem wordP.of {g : List (List Int)} {w : List Int} (h : isW g.length w) : wordP g w := fun j hj => by
  have := h.2 j hj
  unfold isL at this; unfold inL; omega
theorem evalP_pm {n : Nat} {g : List (List Int)} {w : List Int} (hg : gensP n g) (hw : wordP g w) : ∀ k, k ≤ w.length → Pm n (evalP n g (w.take k))
  | 0, _ => by rw [List.take_zero]; exact .idn n
  | k + 1, h => by
    rw [← evalP_snoc n g w k (by omega)]
    exact (evalP_pm hg hw k (by omega)).comp (letP_pm hg (hw k (by omega)))
theorem pm_lt {n : Nat} {p q : List Int} (hp : Pm n p) (hq : Pm n q) : ∀ j, j < p.length → 0 ≤ p.getD j 0 ∧ p.getD j 0 < q.length := fun j hj => by
  rw [hp.1] at hj
  have := hp.2.1 j hj
  rw [hq.1]; omega
theorem implEvaluate_ok (n : Nat) (g : List (List Int)) (w : List Int) (hg : gensP n g) (hw : wordP g w) (hl : w.length ≤ 1048576) : AC Try.prog 133 [.v (.int .i64 (n)), intss g, ints w] Hp.emp (fun _ => false) (retV (ints (evalP n g w))) := by
  have hn := hg.2.1
  refine ac_of_awp (N := ⟨_, fun _ => false, fun _ _ => rfl⟩) Try.func133 rfl (by kernel_rfl) Try.ntmps133 (by simp) ?_
  simp only [argsFr, List.zipIdx_cons, List.zipIdx_nil, go_sem]
  repeat' (first | refine awp_seqK fun K hK => ?_ | (refine awp_regionK 62151 rfl ?_; simp only [List.map_cons, List.map_nil]; simp (maxSteps := 1000000) (dsimp := false) (implicitDefEqProofs := false) (disch := omega) only [wrap64, go_sem]) | (refine awp_regionQK 62151 (by kernel_rfl) (by kernel_rfl) (by kernel_rfl) ?_; simp only [List.map_cons, List.map_nil]; simp (maxSteps := 1000000) (dsimp := false) (implicitDefEqProofs := false) (disch := omega) only [wrap64, go_sem]) | refine awp_block ?_ | (refine awp_skip ?_; simp only [go_sem]) | (refine awp_exit ?_; simp only [go_sem]) | (refine awp_ret ?_; try simp only [go_sem]) | (refine awp_condP rfl ?_; try simp only [go_sem]) | (refine BrP.mk (fun h => ?_) (fun h => ?_) <;> try simp (dsimp := false) (disch := omega) only [wrap64]) | (refine Br.mk (fun h => ?_) (fun h => ?_) <;> try simp (dsimp := false) (disch := omega) only [wrap64]) | refine Ob.mk (by first | omega | (intro _ _; rfl) | trivial | (intros; trivial) | assumption | (intro i hi; have h0 : i = 0 := (by omega); subst h0; first | rfl | trivial) | (intro i hi; have h0 : i = 0 ∨ i = 1 := (by omega); rcases h0 with rfl | rfl <;> rfl) | (intro i hi; have h0 : i = 0 ∨ i = 1 ∨ i = 2 := (by omega); rcases h0 with rfl | rfl | rfl <;> rfl)) ?_ | ((first | ((first | refine atF (f := 98) ?_ | refine atQ (f := 98) ?_); (first | (refine cFI (hac := implIdentity_ok n (by omega) 11) (hK := ?_)) | (refine cQI (hac := implIdentity_ok n (by omega) 11) (hK := ?_))))); simp (maxSteps := 1000000) (dsimp := false) (implicitDefEqProofs := false) (disch := omega) only [wrap64, go_sem]) | apply_assumption -exfalso -symm)
  all_goals (first | (show endQ _ _ _ _ _ _ _; (repeat (rename (∀ (A : Fr) (H : Hp), AWP _ _ _ _ A H → _) => hK; clear hK)); (repeat (rename (Fr → Hp → Prop) => K; clear K))) | (show Exists _; (repeat (rename (∀ (A : Fr) (H : Hp), AWP _ _ _ _ A H → _) => hK; clear hK)); (repeat (rename (Fr → Hp → Prop) => K; clear K))) | skip)
  refine awp_loop (ι := Nat) (fun k => [(14, .v (.int .i64 (k))), (13, .v (.int .i64 (w.length))), (12, .list false 1 (w).length (cM iv 0 (w))), (7, .list false 1 (evalP n g (w.take k)).length (cM iv 0 (evalP n g (w.take k)))), (1, .list false 1 (g).length (cM ints [] (g)))]) (fun k => Hp.emp) (fun k => k ≤ w.length) (fun k => w.length - k) 0 ?_ (Sub.toL (by simp only [go_sem] <;> first | trivial | (simp only [Option.some.injEq, AV.v.injEq, AV.own.injEq, AV.list.injEq, Value.int.injEq, Value.bool.injEq, true_and, and_true]; first | omega | (simp [evalP]; done)) | (simp [evalP]; done) | (simp [evalP]; omega)) (by (repeat' (first | exact Hp.le_emp _ | exact Hp.le_refl _ | refine Hp.le_upd ?_ ?_)); all_goals (first | rfl | (simp only [go_sem]; first | rfl | (refine cellsE ?_ ?_ <;> (simp [evalP])) | (simp [evalP]))))) ?_
  · exact Nat.zero_le _
  intro k hk
  have hp := evalP_pm hg hw k hk
  have hl1 := hp.1
  repeat' (first | refine awp_seqK fun K hK => ?_ | (refine awp_regionK 62151 rfl ?_; simp only [List.map_cons, List.map_nil]; simp (maxSteps := 1000000) (dsimp := false) (implicitDefEqProofs := false) (disch := omega) only [wrap64, go_sem]) | (refine awp_regionQK 62151 (by kernel_rfl) (by kernel_rfl) (by kernel_rfl) ?_; simp only [List.map_cons, List.map_nil]; simp (maxSteps := 1000000) (dsimp := false) (implicitDefEqProofs := false) (disch := omega) only [wrap64, go_sem]) | refine awp_block ?_ | (refine awp_skip ?_; simp only [go_sem]) | (refine awp_exit ?_; simp only [go_sem]) | (refine awp_ret ?_; try simp only [go_sem]) | (refine awp_condP rfl ?_; try simp only [go_sem]) | (refine BrP.mk (fun h => ?_) (fun h => ?_) <;> try simp (dsimp := false) (disch := omega) only [wrap64]) | (refine Br.mk (fun h => ?_) (fun h => ?_) <;> try simp (dsimp := false) (disch := omega) only [wrap64]) | refine Ob.mk (by first | omega | (intro _ _; rfl) | trivial | (intros; trivial) | assumption | (intro i hi; have h0 : i = 0 := (by omega); subst h0; first | rfl | trivial) | (intro i hi; have h0 : i = 0 ∨ i = 1 := (by omega); rcases h0 with rfl | rfl <;> rfl) | (intro i hi; have h0 : i = 0 ∨ i = 1 ∨ i = 2 := (by omega); rcases h0 with rfl | rfl | rfl <;> rfl)) ?_ | ((first | ((first | refine atF (f := 173) ?_ | refine atQ (f := 173) ?_); (first | (refine cR (hac := implLetterOf_ok n g (w.getD k 0) hg (hw k (by omega))) (hK := ?_)) | (refine cQR (hac := implLetterOf_ok n g (w.getD k 0) hg (hw k (by omega))) (hK := ?_)))) | ((first | refine atF (f := 132) ?_ | refine atQ (f := 132) ?_); (first | (refine cFI (hac := implCompose_ok (evalP n g (w.take k)) (letP g (w.getD k 0)) (by omega) (pm_lt hp (letP_pm hg (hw k (by omega)))) 22) (hK := ?_)) | (refine cQI (hac := implCompose_ok (evalP n g (w.take k)) (letP g (w.getD k 0)) (by omega) (pm_lt hp (letP_pm hg (hw k (by omega)))) 22) (hK := ?_))))); simp (maxSteps := 1000000) (dsimp := false) (implicitDefEqProofs := false) (disch := omega) only [wrap64, go_sem]) | apply_assumption -exfalso -symm)
  all_goals (first | (show endQ _ _ _ _ _ _ _; (repeat (rename (∀ (A : Fr) (H : Hp), AWP _ _ _ _ A H → _) => hK; clear hK)); (repeat (rename (Fr → Hp → Prop) => K; clear K))) | (show Exists _; (repeat (rename (∀ (A : Fr) (H : Hp), AWP _ _ _ _ A H → _) => hK; clear hK)); (repeat (rename (Fr → Hp → Prop) => K; clear K))) | skip)
  · rw [evalP_snoc n g w k (by omega)]
    refine ⟨k + 1, ?_, ?_, Sub.toL (by simp only [go_sem] <;> first | trivial | (simp only [Option.some.injEq, AV.v.injEq, AV.own.injEq, AV.list.injEq, Value.int.injEq, Value.bool.injEq, true_and, and_true]; first | omega | (simp; done)) | (simp; done) | (simp; omega)) (by (repeat' (first | exact Hp.le_emp _ | exact Hp.le_refl _ | refine Hp.le_upd ?_ ?_)); all_goals (first | rfl | (simp only [go_sem]; first | rfl | (refine cellsE ?_ ?_ <;> (simp)) | (simp))))⟩
    all_goals omega
  · have e : k = w.length := by omega
    subst e
    rw [List.take_length]
    exact end_retV rfl rfl
theorem specEvaluate_ok (n : Nat) (g : List (List Int)) (w : List Int) (hg : gensP n g) (hw : wordP g w) (hl : w.length ≤ 1048576) : AC Try.prog 67 [.v (.int .i64 (n)), intss g, ints w] Hp.emp (fun _ => false) (retV (ints (evalP n g w))) := by
  have hn := hg.2.1
  have hid : AC Try.prog 81 [.v (.int .i64 (n))] Hp.emp (fun _ => false) (retI 10 (idn n)) := by rw [idn_marks]; exact specIdentity_ok n (by omega) 10
  refine ac_of_awp (N := ⟨_, fun _ => false, fun _ _ => rfl⟩) Try.func67 rfl (by kernel_rfl) Try.ntmps67 (by simp) ?_
  simp only [argsFr, List.zipIdx_cons, List.zipIdx_nil, go_sem]
  repeat' (first | refine awp_seqK fun K hK => ?_ | (refine awp_regionK 16839 rfl ?_; simp only [List.map_cons, List.map_nil]; simp (maxSteps := 1000000) (dsimp := false) (implicitDefEqProofs := false) (disch := omega) only [wrap64, go_sem]) | (refine awp_regionQK 16839 (by kernel_rfl) (by kernel_rfl) (by kernel_rfl) ?_; simp only [List.map_cons, List.map_nil]; simp (maxSteps := 1000000) (dsimp := false) (implicitDefEqProofs := false) (disch := omega) only [wrap64, go_sem]) | refine awp_block ?_ | (refine awp_skip ?_; simp only [go_sem]) | (refine awp_exit ?_; simp only [go_sem]) | (refine awp_ret ?_; try simp only [go_sem]) | (refine awp_condP rfl ?_; try simp only [go_sem]) | (refine BrP.mk (fun h => ?_) (fun h => ?_) <;> try simp (dsimp := false) (disch := omega) only [wrap64]) | (refine Br.mk (fun h => ?_) (fun h => ?_) <;> try simp (dsimp := false) (disch := omega) only [wrap64]) | refine Ob.mk (by first | omega | (intro _ _; rfl) | trivial | (intros; trivial) | assumption | (intro i hi; have h0 : i = 0 := (by omega); subst h0; first | rfl | trivial) | (intro i hi; have h0 : i = 0 ∨ i = 1 := (by omega); rcases h0 with rfl | rfl <;> rfl) | (intro i hi; have h0 : i = 0 ∨ i = 1 ∨ i = 2 := (by omega); rcases h0 with rfl | rfl | rfl <;> rfl)) ?_ | ((first | (refine cFI (hac := hid) (hK := ?_)) | (refine cQI (hac := hid) (hK := ?_))); simp (maxSteps := 1000000) (dsimp := false) (implicitDefEqProofs := false) (disch := omega) only [wrap64, go_sem]) | apply_assumption -exfalso -symm)
  all_goals (first | (show endQ _ _ _ _ _ _ _; (repeat (rename (∀ (A : Fr) (H : Hp), AWP _ _ _ _ A H → _) => hK; clear hK)); (repeat (rename (Fr → Hp → Prop) => K; clear K))) | (show Exists _; (repeat (rename (∀ (A : Fr) (H : Hp), AWP _ _ _ _ A H → _) => hK; clear hK)); (repeat (rename (Fr → Hp → Prop) => K; clear K))) | skip)
  refine awp_loop (ι := Nat) (fun k => [(8, .v (.int .i64 (k))), (2, .list false 1 (w).length (cM iv 0 (w))), (7, .list false 1 (evalP n g (w.take k)).length (cM iv 0 (evalP n g (w.take k)))), (1, .list false 1 (g).length (cM ints [] (g)))]) (fun k => Hp.emp) (fun k => k ≤ w.length) (fun k => w.length - k) 0 ?_ (Sub.toL (by simp only [go_sem] <;> first | trivial | (simp only [Option.some.injEq, AV.v.injEq, AV.own.injEq, AV.list.injEq, Value.int.injEq, Value.bool.injEq, true_and, and_true]; first | omega | (simp [evalP]; done)) | (simp [evalP]; done) | (simp [evalP]; omega)) (by (repeat' (first | exact Hp.le_emp _ | exact Hp.le_refl _ | refine Hp.le_upd ?_ ?_)); all_goals (first | rfl | (simp only [go_sem]; first | rfl | (refine cellsE ?_ ?_ <;> (simp [evalP])) | (simp [evalP]))))) ?_
  · exact Nat.zero_le _
  intro k hk
  have hp := evalP_pm hg hw k hk
  have hl1 := hp.1
  repeat' (first | refine awp_seqK fun K hK => ?_ | (refine awp_regionK 16839 rfl ?_; simp only [List.map_cons, List.map_nil]; simp (maxSteps := 1000000) (dsimp := false) (implicitDefEqProofs := false) (disch := omega) only [wrap64, go_sem]) | (refine awp_regionQK 16839 (by kernel_rfl) (by kernel_rfl) (by kernel_rfl) ?_; simp only [List.map_cons, List.map_nil]; simp (maxSteps := 1000000) (dsimp := false) (implicitDefEqProofs := false) (disch := omega) only [wrap64, go_sem]) | refine awp_block ?_ | (refine awp_skip ?_; simp only [go_sem]) | (refine awp_exit ?_; simp only [go_sem]) | (refine awp_ret ?_; try simp only [go_sem]) | (refine awp_condP rfl ?_; try simp only [go_sem]) | (refine BrP.mk (fun h => ?_) (fun h => ?_) <;> try simp (dsimp := false) (disch := omega) only [wrap64]) | (refine Br.mk (fun h => ?_) (fun h => ?_) <;> try simp (dsimp := false) (disch := omega) only [wrap64]) | refine Ob.mk (by first | omega | (intro _ _; rfl) | trivial | (intros; trivial) | assumption | (intro i hi; have h0 : i = 0 := (by omega); subst h0; first | rfl | trivial) | (intro i hi; have h0 : i = 0 ∨ i = 1 := (by omega); rcases h0 with rfl | rfl <;> rfl) | (intro i hi; have h0 : i = 0 ∨ i = 1 ∨ i = 2 := (by omega); rcases h0 with rfl | rfl | rfl <;> rfl)) ?_ | ((first | ((first | refine atF (f := 134) ?_ | refine atQ (f := 134) ?_); (first | (refine cR (hac := specLetterPermutation_ok n g (w.getD k 0) hg (hw k (by omega))) (hK := ?_)) | (refine cQR (hac := specLetterPermutation_ok n g (w.getD k 0) hg (hw k (by omega))) (hK := ?_)))) | ((first | refine atF (f := 66) ?_ | refine atQ (f := 66) ?_); (first | (refine cFI (hac := specCompose_ok (evalP n g (w.take k)) (letP g (w.getD k 0)) (by omega) (pm_lt hp (letP_pm hg (hw k (by omega)))) 24) (hK := ?_)) | (refine cQI (hac := specCompose_ok (evalP n g (w.take k)) (letP g (w.getD k 0)) (by omega) (pm_lt hp (letP_pm hg (hw k (by omega)))) 24) (hK := ?_))))); simp (maxSteps := 1000000) (dsimp := false) (implicitDefEqProofs := false) (disch := omega) only [wrap64, go_sem]) | apply_assumption -exfalso -symm)
  all_goals (first | (show endQ _ _ _ _ _ _ _; (repeat (rename (∀ (A : Fr) (H : Hp), AWP _ _ _ _ A H → _) => hK; clear hK)); (repeat (rename (Fr → Hp → Prop) => K; clear K))) | (show Exists _; (repeat (rename (∀ (A : Fr) (H : Hp), AWP _ _ _ _ A H → _) => hK; clear hK)); (repeat (rename (Fr → Hp → Prop) => K; clear K))) | skip)
  · rw [evalP_snoc n g w k (by omega)]
    refine ⟨k + 1, ?_, ?_, Sub.toL (by simp only [go_sem] <;> first | trivial | (simp only [Option.some.injEq, AV.v.injEq, AV.own.injEq, AV.list.injEq, Value.int.injEq, Value.bool.injEq, true_and, and_true]; first | omega | (simp; done)) | (simp; done) | (simp; omega)) (by (repeat' (first | exact Hp.le_emp _ | exact Hp.le_refl _ | refine Hp.le_upd ?_ ?_)); all_goals (first | rfl | (simp only [go_sem]; first | rfl | (refine cellsE ?_ ?_ <;> (simp)) | (simp))))⟩
    all_goals omega
  · have e : k = w.length := by omega
    subst e
    rw [List.take_length]
    exact end_retV rfl rfl
theorem evalP_all {n : Nat} {g : List (List Int)} {w : List Int} (hg : gensP n g) (hw : wordP g w) : Pm n (evalP n g w) := by
  have := evalP_pm hg hw w.length (Nat.le_refl _)
  rwa [List.take_length] at this
end Go.Proofs.Ytngpacdhpblpbaa
end
section
namespace Go.Proofs.Ytngpacdhpblpbaa
open Go.Av
set_option linter.unusedSimpArgs false
set_option linter.unusedVariables false
attribute [local irreducible] AWP CallG Ob Br BrP Go.Av.Sub endQ AOps OpV AC thenA blkA opsVC opVC withA withArgs opsQ opQ CallQ withA2 withArgs2
open Go.Pm (Pm comp invp idn img)

/- ApplyWord -/
theorem isPz.gens {p : Pz} (h : isPz p) : gensP p.n.toNat p.m := .of h.1
theorem isPz.cast {p : Pz} (h : isPz p) : ((p.n.toNat : Nat) : Int) = p.n := by have := h.n; omega
theorem implEvaluate_okP (p : Pz) (w : List Int) (h : isPz p) (hw : isW p.m.length w) : AC Try.prog 133 [.v (.int .i64 (p.n)), intss p.m, ints w] Hp.emp (fun _ => false) (retV (ints (evalP p.n.toNat p.m w))) := by
  have := implEvaluate_ok p.n.toNat p.m w h.gens (.of hw) (by have := hw.1; omega)
  rwa [h.cast] at this
theorem specEvaluate_okP (p : Pz) (w : List Int) (h : isPz p) (hw : isW p.m.length w) : AC Try.prog 67 [.v (.int .i64 (p.n)), intss p.m, ints w] Hp.emp (fun _ => false) (retV (ints (evalP p.n.toNat p.m w))) := by
  have := specEvaluate_ok p.n.toNat p.m w h.gens (.of hw) (by have := hw.1; omega)
  rwa [h.cast] at this
theorem isSt.pm {p : Pz} {s : List Int} (h : isSt p s) : Pm p.n.toNat s := by
  have h1 := ((isPerm_pm s).1 h.2.2).2
  rwa [show s.length = p.n.toNat by have := h.2.1; omega] at h1
def appP (p : Pz) (s w : List Int) : List Int := comp s (evalP p.n.toNat p.m w)
theorem appP_pm {p : Pz} {s w : List Int} (h : isSt p s) (hw : isW p.m.length w) : Pm p.n.toNat (appP p s w) := h.pm.comp (evalP_all h.1.gens (.of hw))
theorem puzApply_ok (p : Pz) (s w : List Int) (h : isSt p s) (hw : isW p.m.length w) (d : Nat) : AC Try.prog 64 [pz p, ints s, ints w] Hp.emp (fun _ => false) (retI d (appP p s w)) := by
  have hl := (isSt_len h).1
  have hl2 := (isSt_len h).2
  refine ac_of_awp (N := ⟨_, fun _ => false, fun _ _ => rfl⟩) Try.func64 rfl (by kernel_rfl) Try.ntmps64 (by simp) ?_
  simp only [argsFr, List.zipIdx_cons, List.zipIdx_nil, go_sem]
  repeat' (first | refine awp_seqK fun K hK => ?_ | (refine awp_regionK 79 rfl ?_; simp only [List.map_cons, List.map_nil]; simp (maxSteps := 1000000) (dsimp := false) (implicitDefEqProofs := false) (disch := omega) only [wrap64, go_sem]) | (refine awp_regionQK 79 (by kernel_rfl) (by kernel_rfl) (by kernel_rfl) ?_; simp only [List.map_cons, List.map_nil]; simp (maxSteps := 1000000) (dsimp := false) (implicitDefEqProofs := false) (disch := omega) only [wrap64, go_sem]) | refine awp_block ?_ | (refine awp_skip ?_; simp only [go_sem]) | (refine awp_exit ?_; simp only [go_sem]) | (refine awp_ret ?_; try simp only [go_sem]) | (refine awp_condP rfl ?_; try simp only [go_sem]) | (refine BrP.mk (fun h => ?_) (fun h => ?_) <;> try simp (dsimp := false) (disch := omega) only [wrap64]) | (refine Br.mk (fun h => ?_) (fun h => ?_) <;> try simp (dsimp := false) (disch := omega) only [wrap64]) | refine Ob.mk (by first | omega | (intro _ _; rfl) | trivial | (intros; trivial) | assumption | (intro i hi; have h0 : i = 0 := (by omega); subst h0; first | rfl | trivial) | (intro i hi; have h0 : i = 0 ∨ i = 1 := (by omega); rcases h0 with rfl | rfl <;> rfl) | (intro i hi; have h0 : i = 0 ∨ i = 1 ∨ i = 2 := (by omega); rcases h0 with rfl | rfl | rfl <;> rfl)) ?_ | ((first | ((first | refine atF (f := 133) ?_ | refine atQ (f := 133) ?_); (first | (refine cR (hac := implEvaluate_okP p w h.1 hw) (hK := ?_)) | (refine cQR (hac := implEvaluate_okP p w h.1 hw) (hK := ?_)))) | ((first | refine atF (f := 132) ?_ | refine atQ (f := 132) ?_); (first | (refine cI (hac := implCompose_ok s (evalP p.n.toNat p.m w) (by omega) (pm_lt h.pm (evalP_all h.1.gens (.of hw))) 14) (hK := ?_)) | (refine cQI (hac := implCompose_ok s (evalP p.n.toNat p.m w) (by omega) (pm_lt h.pm (evalP_all h.1.gens (.of hw))) 14) (hK := ?_))))); simp (maxSteps := 1000000) (dsimp := false) (implicitDefEqProofs := false) (disch := omega) only [wrap64, go_sem]) | apply_assumption -exfalso -symm)
  all_goals (first | (show endQ _ _ _ _ _ _ _; (repeat (rename (∀ (A : Fr) (H : Hp), AWP _ _ _ _ A H → _) => hK; clear hK)); (repeat (rename (Fr → Hp → Prop) => K; clear K))) | (show Exists _; (repeat (rename (∀ (A : Fr) (H : Hp), AWP _ _ _ _ A H → _) => hK; clear hK)); (repeat (rename (Fr → Hp → Prop) => K; clear K))) | skip)
  exact end_retI' rfl rfl rfl rfl rfl rfl
def appW (p : Pz) (s w : List Int) : List Int × Bool := if isSt p s ∧ isW p.m.length w then (appP p s w, true) else ([], false)
theorem implApplyWord_ok (p : Pz) (s w : List Int) (hs : p.s.size ≤ 140737488355328) (d : Nat) : AC Try.prog 11 [pz p, ints s, ints w] Hp.emp (fun _ => false) (retIB d (appW p s w).1 (appW p s w).2) := by
  refine ac_of_awp (N := ⟨_, fun _ => false, fun _ _ => rfl⟩) Try.func11 rfl (by kernel_rfl) Try.ntmps11 (by simp) ?_
  simp only [argsFr, List.zipIdx_cons, List.zipIdx_nil, go_sem]
  repeat' (first | refine awp_seqK fun K hK => ?_ | (refine awp_regionK 131279 rfl ?_; simp only [List.map_cons, List.map_nil]; simp (maxSteps := 1000000) (dsimp := false) (implicitDefEqProofs := false) (disch := omega) only [wrap64, go_sem]) | (refine awp_regionQK 131279 (by kernel_rfl) (by kernel_rfl) (by kernel_rfl) ?_; simp only [List.map_cons, List.map_nil]; simp (maxSteps := 1000000) (dsimp := false) (implicitDefEqProofs := false) (disch := omega) only [wrap64, go_sem]) | refine awp_block ?_ | (refine awp_skip ?_; simp only [go_sem]) | (refine awp_exit ?_; simp only [go_sem]) | (refine awp_ret ?_; try simp only [go_sem]) | (refine awp_condP rfl ?_; try simp only [go_sem]) | (refine BrP.mk (fun h => ?_) (fun h => ?_) <;> try simp (dsimp := false) (disch := omega) only [wrap64]) | (refine Br.mk (fun h => ?_) (fun h => ?_) <;> try simp (dsimp := false) (disch := omega) only [wrap64]) | refine Ob.mk (by first | omega | (intro _ _; rfl) | trivial | (intros; trivial) | assumption | (intro i hi; have h0 : i = 0 := (by omega); subst h0; first | rfl | trivial) | (intro i hi; have h0 : i = 0 ∨ i = 1 := (by omega); rcases h0 with rfl | rfl <;> rfl) | (intro i hi; have h0 : i = 0 ∨ i = 1 ∨ i = 2 := (by omega); rcases h0 with rfl | rfl | rfl <;> rfl)) ?_ | ((first | ((first | refine atF (f := 14) ?_ | refine atQ (f := 14) ?_); (first | (refine cV (hac := implIsState_ok p s hs) (hK := ?_)) | (refine cQV (hac := implIsState_ok p s hs) (hK := ?_)))) | ((first | refine atF (f := 63) ?_ | refine atQ (f := 63) ?_); (first | (refine cV (hac := puzIsWord_ok p w) (hK := ?_)) | (refine cQV (hac := puzIsWord_ok p w) (hK := ?_)))) | ((first | refine atF (f := 64) ?_ | refine atQ (f := 64) ?_); (first | (refine cI (hac := puzApply_ok p s w (by assumption) (by assumption) 21) (hK := ?_)) | (refine cQI (hac := puzApply_ok p s w (by assumption) (by assumption) 21) (hK := ?_))))); simp (maxSteps := 1000000) (dsimp := false) (implicitDefEqProofs := false) (disch := omega) only [wrap64, go_sem]) | apply_assumption -exfalso -symm)
  all_goals (first | (show endQ _ _ _ _ _ _ _; (repeat (rename (∀ (A : Fr) (H : Hp), AWP _ _ _ _ A H → _) => hK; clear hK)); (repeat (rename (Fr → Hp → Prop) => K; clear K))) | (show Exists _; (repeat (rename (∀ (A : Fr) (H : Hp), AWP _ _ _ _ A H → _) => hK; clear hK)); (repeat (rename (Fr → Hp → Prop) => K; clear K))) | skip)
  all_goals
    (first | refine end_retIB' rfl rfl rfl rfl ?_ (by decide) rfl rfl | refine end_retIB_nil' rfl rfl rfl ?_ (by decide) rfl)
    unfold appW
    first
    | (rw [if_pos ⟨by assumption, by assumption⟩]; done)
    | (rw [if_neg (by simp_all)]; first | done | rfl)
theorem specApplyWord_ok (p : Pz) (s w : List Int) (d : Nat) : AC Try.prog 12 [pz p, ints s, ints w] Hp.emp (fun _ => false) (retIB d (appW p s w).1 (appW p s w).2) := by
  refine ac_of_awp (N := ⟨_, fun _ => false, fun _ _ => rfl⟩) Try.func12 rfl (by kernel_rfl) Try.ntmps12 (by simp) ?_
  simp only [argsFr, List.zipIdx_cons, List.zipIdx_nil, go_sem]
  repeat' (first | refine awp_seqK fun K hK => ?_ | (refine awp_regionK 524495 rfl ?_; simp only [List.map_cons, List.map_nil]; simp (maxSteps := 1000000) (dsimp := false) (implicitDefEqProofs := false) (disch := omega) only [wrap64, go_sem]) | (refine awp_regionQK 524495 (by kernel_rfl) (by kernel_rfl) (by kernel_rfl) ?_; simp only [List.map_cons, List.map_nil]; simp (maxSteps := 1000000) (dsimp := false) (implicitDefEqProofs := false) (disch := omega) only [wrap64, go_sem]) | refine awp_block ?_ | (refine awp_skip ?_; simp only [go_sem]) | (refine awp_exit ?_; simp only [go_sem]) | (refine awp_ret ?_; try simp only [go_sem]) | (refine awp_condP rfl ?_; try simp only [go_sem]) | (refine BrP.mk (fun h => ?_) (fun h => ?_) <;> try simp (dsimp := false) (disch := omega) only [wrap64]) | (refine Br.mk (fun h => ?_) (fun h => ?_) <;> try simp (dsimp := false) (disch := omega) only [wrap64]) | refine Ob.mk (by first | omega | (intro _ _; rfl) | trivial | (intros; trivial) | assumption | (intro i hi; have h0 : i = 0 := (by omega); subst h0; first | rfl | trivial) | (intro i hi; have h0 : i = 0 ∨ i = 1 := (by omega); rcases h0 with rfl | rfl <;> rfl) | (intro i hi; have h0 : i = 0 ∨ i = 1 ∨ i = 2 := (by omega); rcases h0 with rfl | rfl | rfl <;> rfl)) ?_ | ((first | ((first | refine atF (f := 15) ?_ | refine atQ (f := 15) ?_); (first | (refine cV (hac := specIsState_ok p s) (hK := ?_)) | (refine cQV (hac := specIsState_ok p s) (hK := ?_)))) | ((first | refine atF (f := 65) ?_ | refine atQ (f := 65) ?_); (first | (refine cV (hac := isWordOf_ok _ _) (hK := ?_)) | (refine cQV (hac := isWordOf_ok _ _) (hK := ?_)))) | ((first | refine atF (f := 67) ?_ | refine atQ (f := 67) ?_); (first | (refine cR (hac := specEvaluate_okP p w (And.left (by assumption)) (by assumption)) (hK := ?_)) | (refine cQR (hac := specEvaluate_okP p w (And.left (by assumption)) (by assumption)) (hK := ?_)))) | ((first | refine atF (f := 66) ?_ | refine atQ (f := 66) ?_); (first | (refine cI (hac := specCompose_ok s (evalP p.n.toNat p.m w) (by have := isSt_len (by assumption); omega) (pm_lt (isSt.pm (by assumption)) (evalP_all (isPz.gens (And.left (by assumption))) (.of (by assumption)))) 28) (hK := ?_)) | (refine cQI (hac := specCompose_ok s (evalP p.n.toNat p.m w) (by have := isSt_len (by assumption); omega) (pm_lt (isSt.pm (by assumption)) (evalP_all (isPz.gens (And.left (by assumption))) (.of (by assumption)))) 28) (hK := ?_))))); simp (maxSteps := 1000000) (dsimp := false) (implicitDefEqProofs := false) (disch := omega) only [wrap64, go_sem]) | apply_assumption -exfalso -symm)
  all_goals (first | (show endQ _ _ _ _ _ _ _; (repeat (rename (∀ (A : Fr) (H : Hp), AWP _ _ _ _ A H → _) => hK; clear hK)); (repeat (rename (Fr → Hp → Prop) => K; clear K))) | (show Exists _; (repeat (rename (∀ (A : Fr) (H : Hp), AWP _ _ _ _ A H → _) => hK; clear hK)); (repeat (rename (Fr → Hp → Prop) => K; clear K))) | skip)
  all_goals
    (first | refine end_retIB' rfl rfl rfl rfl ?_ (by decide) rfl rfl | refine end_retIB_nil' rfl rfl rfl ?_ (by decide) rfl)
    unfold appW
    first
    | (rw [if_pos ⟨by assumption, by assumption⟩]; first | done | rfl)
    | (rw [if_neg (by simp_all)]; first | done | rfl)
theorem specCopyInts_ok (xs : List Int) (hx : xs.length ≤ 1048576) (d : Nat) : AC Try.prog 152 [ints xs] Hp.emp (fun _ => false) (retI d xs) := by
  have e : apF 0 (cM iv 0 (List.replicate 0 (0 : Int))) (cM iv 0 xs) = cM iv 0 xs := by funext j; simp [apF]
  refine ac_of_awp (N := ⟨_, fun _ => false, fun _ _ => rfl⟩) Try.func152 rfl (by kernel_rfl) Try.ntmps152 (by simp) ?_
  simp only [argsFr, List.zipIdx_cons, List.zipIdx_nil, go_sem]
  repeat' (first | refine awp_seqK fun K hK => ?_ | (refine awp_regionK 5 rfl ?_; simp only [List.map_cons, List.map_nil]; simp (maxSteps := 1000000) (dsimp := false) (implicitDefEqProofs := false) (disch := omega) only [wrap64, go_sem]) | (refine awp_regionQK 5 (by kernel_rfl) (by kernel_rfl) (by kernel_rfl) ?_; simp only [List.map_cons, List.map_nil]; simp (maxSteps := 1000000) (dsimp := false) (implicitDefEqProofs := false) (disch := omega) only [wrap64, go_sem]) | refine awp_block ?_ | (refine awp_skip ?_; simp only [go_sem]) | (refine awp_exit ?_; simp only [go_sem]) | (refine awp_ret ?_; try simp only [go_sem]) | (refine awp_condP rfl ?_; try simp only [go_sem]) | (refine BrP.mk (fun h => ?_) (fun h => ?_) <;> try simp (dsimp := false) (disch := omega) only [wrap64]) | (refine Br.mk (fun h => ?_) (fun h => ?_) <;> try simp (dsimp := false) (disch := omega) only [wrap64]) | refine Ob.mk (by first | omega | (intro _ _; rfl) | trivial | (intros; trivial) | assumption | (intro i hi; have h0 : i = 0 := (by omega); subst h0; first | rfl | trivial) | (intro i hi; have h0 : i = 0 ∨ i = 1 := (by omega); rcases h0 with rfl | rfl <;> rfl) | (intro i hi; have h0 : i = 0 ∨ i = 1 ∨ i = 2 := (by omega); rcases h0 with rfl | rfl | rfl <;> rfl)) ?_ | apply_assumption -exfalso -symm)
  all_goals (first | (show endQ _ _ _ _ _ _ _; (repeat (rename (∀ (A : Fr) (H : Hp), AWP _ _ _ _ A H → _) => hK; clear hK)); (repeat (rename (Fr → Hp → Prop) => K; clear K))) | (show Exists _; (repeat (rename (∀ (A : Fr) (H : Hp), AWP _ _ _ _ A H → _) => hK; clear hK)); (repeat (rename (Fr → Hp → Prop) => K; clear K))) | skip)
  rw [e]
  exact end_retI' rfl rfl rfl rfl rfl rfl
end Go.Proofs.Ytngpacdhpblpbaa
end
section
namespace Go.Proofs.Ytngpacdhpblpbaa
open Go.Av
set_option linter.unusedSimpArgs false
set_option linter.unusedVariables false
attribute [local irreducible] AWP CallG Ob Br BrP Go.Av.Sub endQ AOps OpV AC thenA blkA opsVC opVC withA withArgs opsQ opQ CallQ withA2 withArgs2

theorem isW_bd {g : Int} {w : List Int} (h : isW g w) : ∀ j, -1000 ≤ w.getD j 0 ∧ w.getD j 0 ≤ 1000 := by
  intro j
  by_cases hj : j < w.length
  · have := h.2 j hj; unfold isL at this; omega
  · have : w.getD j 0 = 0 := by simp [List.getElem?_eq_none (by omega : w.length ≤ j)]
    omega

end Go.Proofs.Ytngpacdhpblpbaa
end
section
namespace Go.Proofs.Ytngpacdhpblpbaa
open Go.Av
set_option linter.unusedSimpArgs false
set_option linter.unusedVariables false
attribute [local irreducible] AWP CallG Ob Br BrP Go.Av.Sub endQ AOps OpV AC thenA blkA opsVC opVC withA withArgs opsQ opQ CallQ withA2 withArgs2

/- RepeatWord -/
theorem inverseWord_okW (w : List Int) (h : isW 8 w) (d : Nat) : AC Try.prog 73 [ints w] Hp.emp (fun _ => false) (retI d (inv w)) := inverseWord_ok w (by have := h.1; omega) (isW_bd h) d
end Go.Proofs.Ytngpacdhpblpbaa
end
section
namespace Go.Proofs.Ytngpacdhpblpbaa
open Go.Av
set_option linter.unusedSimpArgs false
set_option linter.unusedVariables false
attribute [local irreducible] AWP CallG Ob Br BrP Go.Av.Sub endQ AOps OpV AC thenA blkA opsVC opVC withA withArgs opsQ opQ CallQ withA2 withArgs2
open Go.Pm (Pm comp invp idn img)

theorem Sub.cellsE {N : Cx} {A : Fr} {H : Hp} (h : Nat) (g : Nat → AV) {n : Nat} {f : Nat → AV} (hH : H h = some (.cells n f)) (hg : ∀ i, i < n → f i = g i) : Sub N A H A (H.upd h (.cells n g)) := by
  refine Sub.fits (fun _ => False) (fun i c hc => ⟨c, hc, .refl c⟩) fun x B hB => ⟨id, ?_⟩
  unfold Hp.upd at hB
  split at hB
  · rename_i e
    subst e
    simp only [Option.some.injEq] at hB
    subst hB
    exact ⟨_, hH, rfl, fun i hi => by rw [hg i hi]; exact .refl _⟩
  · exact ⟨B, hB, BFits.refl _ _ _⟩
end Go.Proofs.Ytngpacdhpblpbaa
end

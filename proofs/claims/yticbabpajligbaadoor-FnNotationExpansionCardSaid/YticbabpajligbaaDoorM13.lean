import Derived.Test.YticbabpajligbaaDoorM3
import Derived.Test.YticbabpajligbaaDoorM12
import Derived.Lib.Join
import Derived.Lib.Strings
import Derived.Test.YticbabpajligbaaDoorM4
/- The texts of syntax trees; plain. -/
section
namespace Go.Nt
set_option linter.unusedVariables false
set_option linter.unusedSimpArgs false
/-- Texts joined, the first k. -/
def jnS (sep : ByteArray) (ws : List ByteArray) : Nat → ByteArray
  | 0 => ⟨#[]⟩
  | k + 1 => (if 0 < k then jnS sep ws k ++ sep else jnS sep ws k) ++ ws.getD k ByteArray.empty
def jn (ws : List ByteArray) : ByteArray := jnS ⟨#[32]⟩ ws ws.length
def sumS (ws : List ByteArray) : Nat := (ws.map fun w => w.size + 1).sum
theorem sumS_app (a b : List ByteArray) : sumS (a ++ b) = sumS a + sumS b := by simp [sumS]
theorem jnS_take {ws : List ByteArray} : ∀ k, k ≤ ws.length → (jnS ⟨#[32]⟩ ws k).size ≤ sumS (ws.take k)
  | 0, _ => Nat.zero_le _
  | k + 1, h => by
    have ih := jnS_take (ws := ws) k (by omega)
    have e : ws.take (k + 1) = ws.take k ++ [ws.getD k ByteArray.empty] := by
      rw [List.getD_eq_getElem?_getD, List.getElem?_eq_getElem (show k < ws.length by omega), ← List.take_append_getElem (show k < ws.length by omega)]; rfl
    have e1 : (⟨#[32]⟩ : ByteArray).size = 1 := rfl
    have e2 : sumS [ws.getD k ByteArray.empty] = (ws.getD k ByteArray.empty).size + 1 := by simp [sumS]
    rw [e, sumS_app, e2]
    unfold jnS
    rw [ByteArray.size_append]
    split
    · rw [ByteArray.size_append]; omega
    · omega
theorem jn_size (ws : List ByteArray) : (jn ws).size ≤ sumS ws := by
  have := jnS_take (ws := ws) ws.length (Nat.le_refl _)
  rwa [List.take_length] at this
/-- A node's text, count and inverse aside. -/
def inT (names : ByteArray) (x : Nd) (ts : List ByteArray) : ByteArray :=
  if x.kind = 1 then names.extract x.move.toNat (x.move + 1).toNat
  else if x.kind = 2 then (⟨#[40]⟩ : ByteArray) ++ jn ts ++ ⟨#[41]⟩
  else if x.kind = 3 then (⟨#[91]⟩ : ByteArray) ++ jn (ts.take x.split.toNat) ++ ⟨#[44]⟩ ++ jn (ts.drop x.split.toNat) ++ ⟨#[93]⟩
  else (⟨#[91]⟩ : ByteArray) ++ jn (ts.take x.split.toNat) ++ ⟨#[58]⟩ ++ jn (ts.drop x.split.toNat) ++ ⟨#[93]⟩
/-- A node's text; fm: how a number reads. -/
def ndT (fm : Nat → ByteArray) (names : ByteArray) (x : Nd) (ts : List ByteArray) : ByteArray :=
  if x.inv = 1 then (if 1 < x.count then inT names x ts ++ fm x.count.toNat else inT names x ts) ++ ⟨#[39]⟩ else (if 1 < x.count then inT names x ts ++ fm x.count.toNat else inT names x ts)
theorem inT_size (names : ByteArray) (x : Nd) (ts : List ByteArray) (hm : 0 ≤ x.move) : (inT names x ts).size ≤ sumS ts + 3 := by
  have h1 := jn_size ts
  have h2 := jn_size (ts.take x.split.toNat)
  have h3 := jn_size (ts.drop x.split.toNat)
  have h4 : sumS (ts.take x.split.toNat) + sumS (ts.drop x.split.toNat) = sumS ts := by rw [← sumS_app, List.take_append_drop]
  have e1 : ∀ b : UInt8, (⟨#[b]⟩ : ByteArray).size = 1 := fun _ => rfl
  unfold inT
  split
  · rw [ByteArray.size_extract]; omega
  · split
    · rw [ByteArray.size_append, ByteArray.size_append, e1, e1]; omega
    · split <;> (rw [ByteArray.size_append, ByteArray.size_append, ByteArray.size_append, ByteArray.size_append, e1, e1, e1]; omega)
theorem ndT_size (fm : Nat → ByteArray) (hf : ∀ k, (fm k).size ≤ 3) (names : ByteArray) (x : Nd) (ts : List ByteArray) (hm : 0 ≤ x.move) : (ndT fm names x ts).size ≤ sumS ts + 7 := by
  have h1 := inT_size names x ts hm
  have h2 := hf x.count.toNat
  have e1 : (⟨#[39]⟩ : ByteArray).size = 1 := rfl
  unfold ndT
  split <;> split <;> (try simp only [ByteArray.size_append, e1]) <;> omega
def txF (fm : Nat → ByteArray) (names : ByteArray) (xs : List Nd) : Nat → Nat → ByteArray
  | 0, _ => ⟨#[]⟩
  | f + 1, i => ndT fm names (xs.getD i nd0) ((kd xs i).map fun c => txF fm names xs f c.toNat)
/-- The text of a node. -/
def tx (fm : Nat → ByteArray) (names : ByteArray) (xs : List Nd) (i : Nat) : ByteArray := txF fm names xs (i + 1) i
/-- The texts of a node's children. -/
def kdT (fm : Nat → ByteArray) (names : ByteArray) (xs : List Nd) (i : Nat) : List ByteArray := (kd xs i).map fun c => tx fm names xs c.toNat
section
variable {fm : Nat → ByteArray} {names : ByteArray} {xs : List Nd} {n : Nat}
theorem txF_eq (h : sz xs (n - 1) = some n) : ∀ (i f : Nat), i < n → i < f → txF fm names xs f i = tx fm names xs i := by
  intro i
  induction i using Nat.strongRecOn with
  | _ i ih =>
    intro f hn hf
    obtain ⟨g, rfl⟩ : ∃ g, f = g + 1 := ⟨f - 1, by omega⟩
    show ndT fm names _ _ = ndT fm names _ _
    congr 1
    refine List.map_congr_left fun c hc => ?_
    obtain ⟨m, hm⟩ := sz_all h i hn
    obtain ⟨q, m', e, hq, _⟩ := (sz_mem hm).1 c hc
    have hc : c.toNat = q := by omega
    rw [hc, ih q hq g (by omega) (by omega), ih q hq i (by omega) hq]
theorem tx_eq (h : sz xs (n - 1) = some n) {i : Nat} (hi : i < n) : tx fm names xs i = ndT fm names (xs.getD i nd0) (kdT fm names xs i) := by
  show ndT fm names _ _ = _
  congr 1
  refine List.map_congr_left fun c hc => ?_
  obtain ⟨m, hm⟩ := sz_all h i hi
  obtain ⟨q, m', e, hq, _⟩ := (sz_mem hm).1 c hc
  have hc : c.toNat = q := by omega
  rw [hc]
  exact txF_eq h q i (by omega) hq
theorem szK_sum {xs : List Nd} : ∀ (cs : List Int) (p m0 m : Nat), szK (sz xs) cs p m0 = some m → m = m0 + (cs.map fun c => (sz xs c.toNat).getD 0).sum
  | [], p, m0, m, h => by simp only [szK, Option.some.injEq] at h; simp [h]
  | c :: cs, p, m0, m, h => by
    unfold szK at h
    split at h
    · rename_i hc
      cases e : sz xs (p - 1) with
      | none => rw [e] at h; cases h
      | some n =>
        rw [e] at h
        have := szK_sum cs _ _ _ h
        have hcn : c.toNat = p - 1 := by omega
        simp only [List.map_cons, List.sum_cons, hcn, e, Option.getD_some]
        omega
    · cases h
theorem sum_rev (l : List Nat) : l.reverse.sum = l.sum := by
  induction l with
  | nil => rfl
  | cons a l ih => simp [ih]; omega
theorem sz_sum {xs : List Nd} {i m : Nat} (h : sz xs i = some m) : m = 1 + ((kd xs i).map fun c => (sz xs c.toNat).getD 0).sum := by
  rw [sz_eq] at h
  have := szK_sum _ _ _ _ h
  rwa [List.map_reverse, sum_rev] at this
theorem sumS_le {t : Int → ByteArray} {v : Int → Nat} : ∀ (cs : List Int), (∀ c ∈ cs, (t c).size + 1 ≤ 9 * v c) → sumS (cs.map t) ≤ 9 * (cs.map v).sum
  | [], _ => by simp [sumS]
  | c :: cs, h => by
    have h1 := sumS_le cs fun x hx => h x (List.mem_cons_of_mem _ hx)
    have h2 := h c (List.mem_cons_self ..)
    simp only [sumS, List.map_cons, List.sum_cons] at h1 ⊢
    omega
theorem tx_sz (hf : ∀ k, (fm k).size ≤ 3) (h : sz xs (n - 1) = some n) (hm : ∀ i, i < n → 0 ≤ (xs.getD i nd0).move) : ∀ (i m : Nat), i < n → sz xs i = some m → (tx fm names xs i).size + 1 ≤ 9 * m := by
  intro i
  induction i using Nat.strongRecOn with
  | _ i ih =>
    intro m hi hs
    rw [tx_eq h hi]
    have h1 := ndT_size fm hf names (xs.getD i nd0) (kdT fm names xs i) (hm i hi)
    have h2 := sz_sum hs
    have h3 : sumS (kdT fm names xs i) ≤ 9 * ((kd xs i).map fun c => (sz xs c.toNat).getD 0).sum := sumS_le _ fun c hc => by
      obtain ⟨q, m', e, hq, hsq⟩ := (sz_mem hs).1 c hc
      have hc : c.toNat = q := by omega
      rw [hc, hsq]
      exact ih q hq m' (by omega) hsq
    omega
theorem kdT_sum (hf : ∀ k, (fm k).size ≤ 3) (h : sz xs (n - 1) = some n) (hn : n ≤ 200) (hm : ∀ i, i < n → 0 ≤ (xs.getD i nd0).move) (i : Nat) (hi : i < n) : sumS (kdT fm names xs i) ≤ 1800 := by
  obtain ⟨m, hs⟩ := sz_all h i hi
  have h2 := sz_run xs i m hs
  have h4 := sz_sum hs
  have h3 : sumS (kdT fm names xs i) ≤ 9 * ((kd xs i).map fun c => (sz xs c.toNat).getD 0).sum := sumS_le _ fun c hc => by
    obtain ⟨q, m', e, hq, hsq⟩ := (sz_mem hs).1 c hc
    have hc : c.toNat = q := by omega
    rw [hc, hsq]
    exact tx_sz hf h hm q m' (by omega) hsq
  omega
end
end Go.Nt
end
/- Small numbers as texts, by both texts. -/
section
namespace Go.Proofs.YticbabpajligbaaDoor
open Go.Av
set_option linter.unusedSimpArgs false
set_option linter.unusedVariables false
attribute [local irreducible] AWP CallG Ob Br BrP Go.Av.Sub endQ AOps OpV AC thenA blkA opsVC opVC withA withArgs opsQ opQ CallQ withA2 withArgs2
/-- A row of texts. -/
@[go_sem] def strs (ws : List ByteArray) : AV := .list false 1 ws.length (cM sv ByteArray.empty ws)
@[go_sem] theorem cM_sv (ws : List ByteArray) (i : Nat) : cM sv ByteArray.empty ws i = .v (.string (ws.getD i ByteArray.empty)) := rfl
/-- One digit's text. -/
def dg1 (d : Nat) : ByteArray := strOf 1 (setF (zF [.int .u8 0]) 0 (.v (.int .u8 ((48 + d : Nat) : Int))))
/-- The last k digits. -/
def dgS (v : Nat) : Nat → ByteArray
  | 0 => ⟨#[]⟩
  | k + 1 => dg1 (v / 10 ^ k % 10) ++ dgS v k
theorem dgS_size (v : Nat) : ∀ k, (dgS v k).size = k
  | 0 => rfl
  | k + 1 => by
    have := dgS_size v k
    have h1 : (dg1 (v / 10 ^ k % 10)).size = 1 := rfl
    unfold dgS
    rw [ByteArray.size_append, this, h1]
    omega
def ndS (v : Nat) : Nat := if v < 10 then 1 else if v < 100 then 2 else 3
/-- The text of a small number. -/
def fmS (v : Nat) : ByteArray := dgS v (ndS v)
theorem fmS_size (v : Nat) : (fmS v).size ≤ 3 := by
  unfold fmS; rw [dgS_size]; unfold ndS; split <;> (try split) <;> omega
theorem all100 {p : Nat → Prop} [DecidablePred p] (h : ((List.range 100).all fun v => decide (p v)) = true) (v : Nat) (hv : v < 100) : p v := by
  have := List.all_eq_true.1 h v (List.mem_range.2 hv)
  exact of_decide_eq_true this
theorem fmS_le (v : Nat) : (fmS v).size ≤ 3 := fmS_size v
set_option maxRecDepth 100000 in
theorem small_ok (v : Nat) (hv : v < 100) : AC Tryd.prog 110 [.v (.int .i64 ((v : Nat)))] Hp.emp (fun _ => false) (retV (.v (.string (fmS v)))) := by
  refine ac_of_awp (N := ⟨_, fun _ => false, fun _ _ => rfl, true⟩) Tryd.func110 rfl (by kernel_rfl) Tryd.ntmps110 (by simp) ?_
  simp only [argsFr, List.zipIdx_cons, List.zipIdx_nil, go_sem]
  repeat' (first | (refine Ob.mk (by show _ ≤ ((36 : Nat) : Int); omega) ?_) | (refine Ob.mk (by show _ ≤ ((200 : Nat) : Int); omega) ?_) | refine awp_seqK fun K hK => ?_ | (refine awp_regionK 21 rfl ?_; simp only [List.map_cons, List.map_nil]; simp (maxSteps := 1000000) (dsimp := false) (implicitDefEqProofs := false) (disch := omega) only [wrap64, go_sem]) | (refine awp_regionQK 21 (by kernel_rfl) (by kernel_rfl) (by kernel_rfl) ?_; simp only [List.map_cons, List.map_nil]; simp (maxSteps := 1000000) (dsimp := false) (implicitDefEqProofs := false) (disch := omega) only [wrap64, go_sem]) | refine awp_block ?_ | (refine awp_skip ?_; simp only [go_sem]) | (refine awp_exit ?_; simp only [go_sem]) | (refine awp_ret ?_; try simp only [go_sem]) | (refine awp_condP rfl ?_; try simp only [go_sem]) | (refine BrP.mk (fun h => ?_) (fun h => ?_) <;> try simp (dsimp := false) (disch := omega) only [wrap64]) | (refine Br.mk (fun h => ?_) (fun h => ?_) <;> try simp (dsimp := false) (disch := omega) only [wrap64]) | refine Ob.mk (by first | omega | (intro _ _; rfl) | trivial | (intros; trivial) | assumption | (intro i hi; have h0 : i = 0 := (by omega); subst h0; first | rfl | trivial) | (intro i hi; have h0 : i = 0 ∨ i = 1 := (by omega); rcases h0 with rfl | rfl <;> rfl) | (intro i hi; have h0 : i = 0 ∨ i = 1 ∨ i = 2 := (by omega); rcases h0 with rfl | rfl | rfl <;> rfl)) ?_ | apply_assumption -exfalso -symm)
  all_goals (first | (show endQ _ _ _ _ _ _ _; (repeat (rename (∀ (A : Fr) (H : Hp), AWP _ _ _ _ A H → _) => hK; clear hK)); (repeat (rename (Fr → Hp → Prop) => K; clear K))) | (show Exists _; (repeat (rename (∀ (A : Fr) (H : Hp), AWP _ _ _ _ A H → _) => hK; clear hK)); (repeat (rename (Fr → Hp → Prop) => K; clear K))) | skip)
  all_goals refine end_retV' rfl rfl (congrArg (fun s => AV.v (.string s)) ?_)
  all_goals (revert v; exact all100 (by kernel_rfl))
theorem fmtIntern_ok (v : Nat) (hv : v < 100) : AC Tryd.prog 94 [.v (.int .i64 ((v : Nat))), .v (.int .i64 (10))] Hp.emp (fun _ => false) (retV (.v (.string (fmS v)))) := by
  refine ac_of_awp (N := ⟨_, fun _ => false, fun _ _ => rfl, true⟩) Tryd.func94 rfl (by kernel_rfl) Tryd.ntmps94 (by simp) ?_
  simp only [argsFr, List.zipIdx_cons, List.zipIdx_nil, go_sem]
  repeat' (first | refine awp_seqK fun K hK => ?_ | (refine awp_regionK 17188391667 rfl ?_; simp only [List.map_cons, List.map_nil]; simp (maxSteps := 1000000) (dsimp := false) (implicitDefEqProofs := false) (disch := omega) only [wrap64, go_sem]) | (refine awp_regionQK 17188391667 (by kernel_rfl) (by kernel_rfl) (by kernel_rfl) ?_; simp only [List.map_cons, List.map_nil]; simp (maxSteps := 1000000) (dsimp := false) (implicitDefEqProofs := false) (disch := omega) only [wrap64, go_sem]) | refine awp_block ?_ | (refine awp_skip ?_; simp only [go_sem]) | (refine awp_exit ?_; simp only [go_sem]) | (refine awp_ret ?_; try simp only [go_sem]) | (refine awp_condP rfl ?_; try simp only [go_sem]) | (refine BrP.mk (fun h => ?_) (fun h => ?_) <;> try simp (dsimp := false) (disch := omega) only [wrap64]) | (refine Br.mk (fun h => ?_) (fun h => ?_) <;> try simp (dsimp := false) (disch := omega) only [wrap64]) | refine Ob.mk (by first | omega | (intro _ _; rfl) | trivial | (intros; trivial) | assumption | (intro i hi; have h0 : i = 0 := (by omega); subst h0; first | rfl | trivial) | (intro i hi; have h0 : i = 0 ∨ i = 1 := (by omega); rcases h0 with rfl | rfl <;> rfl) | (intro i hi; have h0 : i = 0 ∨ i = 1 ∨ i = 2 := (by omega); rcases h0 with rfl | rfl | rfl <;> rfl)) ?_ | ((first | ((first | refine atF (f := 110) ?_ | refine atQ (f := 110) ?_); (first | (refine cV (hac := small_ok v hv) (hK := ?_)) | (refine cQV (hac := small_ok v hv) (hK := ?_))))); simp (maxSteps := 1000000) (dsimp := false) (implicitDefEqProofs := false) (disch := omega) only [wrap64, go_sem]) | apply_assumption -exfalso -symm)
  all_goals (first | (show endQ _ _ _ _ _ _ _; (repeat (rename (∀ (A : Fr) (H : Hp), AWP _ _ _ _ A H → _) => hK; clear hK)); (repeat (rename (Fr → Hp → Prop) => K; clear K))) | (show Exists _; (repeat (rename (∀ (A : Fr) (H : Hp), AWP _ _ _ _ A H → _) => hK; clear hK)); (repeat (rename (Fr → Hp → Prop) => K; clear K))) | skip)
  all_goals first | omega | exact end_retV rfl rfl
theorem fmtPub_ok (v : Nat) (hv : v < 100) : AC Tryd.prog 75 [.v (.int .i64 ((v : Nat))), .v (.int .i64 (10))] Hp.emp (fun _ => false) (retV (.v (.string (fmS v)))) := by
  refine ac_of_awp (N := ⟨_, fun _ => false, fun _ _ => rfl, true⟩) Tryd.func75 rfl (by kernel_rfl) Tryd.ntmps75 (by simp) ?_
  simp only [argsFr, List.zipIdx_cons, List.zipIdx_nil, go_sem]
  repeat' (first | refine awp_seqK fun K hK => ?_ | (refine awp_regionK 19 rfl ?_; simp only [List.map_cons, List.map_nil]; simp (maxSteps := 1000000) (dsimp := false) (implicitDefEqProofs := false) (disch := omega) only [wrap64, go_sem]) | (refine awp_regionQK 19 (by kernel_rfl) (by kernel_rfl) (by kernel_rfl) ?_; simp only [List.map_cons, List.map_nil]; simp (maxSteps := 1000000) (dsimp := false) (implicitDefEqProofs := false) (disch := omega) only [wrap64, go_sem]) | refine awp_block ?_ | (refine awp_skip ?_; simp only [go_sem]) | (refine awp_exit ?_; simp only [go_sem]) | (refine awp_ret ?_; try simp only [go_sem]) | (refine awp_condP rfl ?_; try simp only [go_sem]) | (refine BrP.mk (fun h => ?_) (fun h => ?_) <;> try simp (dsimp := false) (disch := omega) only [wrap64]) | (refine Br.mk (fun h => ?_) (fun h => ?_) <;> try simp (dsimp := false) (disch := omega) only [wrap64]) | refine Ob.mk (by first | omega | (intro _ _; rfl) | trivial | (intros; trivial) | assumption | (intro i hi; have h0 : i = 0 := (by omega); subst h0; first | rfl | trivial) | (intro i hi; have h0 : i = 0 ∨ i = 1 := (by omega); rcases h0 with rfl | rfl <;> rfl) | (intro i hi; have h0 : i = 0 ∨ i = 1 ∨ i = 2 := (by omega); rcases h0 with rfl | rfl | rfl <;> rfl)) ?_ | ((first | ((first | refine atF (f := 94) ?_ | refine atQ (f := 94) ?_); (first | (refine cV (hac := fmtIntern_ok v hv) (hK := ?_)) | (refine cQV (hac := fmtIntern_ok v hv) (hK := ?_))))); simp (maxSteps := 1000000) (dsimp := false) (implicitDefEqProofs := false) (disch := omega) only [wrap64, go_sem]) | apply_assumption -exfalso -symm)
  all_goals (first | (show endQ _ _ _ _ _ _ _; (repeat (rename (∀ (A : Fr) (H : Hp), AWP _ _ _ _ A H → _) => hK; clear hK)); (repeat (rename (Fr → Hp → Prop) => K; clear K))) | (show Exists _; (repeat (rename (∀ (A : Fr) (H : Hp), AWP _ _ _ _ A H → _) => hK; clear hK)); (repeat (rename (Fr → Hp → Prop) => K; clear K))) | skip)
  exact end_retV rfl rfl
theorem decimal_ok (v : Nat) (hv : v < 100) : AC Tryd.prog 42 [.v (.int .i64 ((v : Nat)))] Hp.emp (fun _ => false) (retV (.v (.string (fmS v)))) := by
  refine ac_of_awp (N := ⟨_, fun _ => false, fun _ _ => rfl, true⟩) Tryd.func42 rfl (by kernel_rfl) Tryd.ntmps42 (by simp) ?_
  simp only [argsFr, List.zipIdx_cons, List.zipIdx_nil, go_sem]
  repeat' (first | refine awp_seqK fun K hK => ?_ | (refine awp_regionK 5 rfl ?_; simp only [List.map_cons, List.map_nil]; simp (maxSteps := 1000000) (dsimp := false) (implicitDefEqProofs := false) (disch := omega) only [wrap64, go_sem]) | (refine awp_regionQK 5 (by kernel_rfl) (by kernel_rfl) (by kernel_rfl) ?_; simp only [List.map_cons, List.map_nil]; simp (maxSteps := 1000000) (dsimp := false) (implicitDefEqProofs := false) (disch := omega) only [wrap64, go_sem]) | refine awp_block ?_ | (refine awp_skip ?_; simp only [go_sem]) | (refine awp_exit ?_; simp only [go_sem]) | (refine awp_ret ?_; try simp only [go_sem]) | (refine awp_condP rfl ?_; try simp only [go_sem]) | (refine BrP.mk (fun h => ?_) (fun h => ?_) <;> try simp (dsimp := false) (disch := omega) only [wrap64]) | (refine Br.mk (fun h => ?_) (fun h => ?_) <;> try simp (dsimp := false) (disch := omega) only [wrap64]) | refine Ob.mk (by first | omega | (intro _ _; rfl) | trivial | (intros; trivial) | assumption | (intro i hi; have h0 : i = 0 := (by omega); subst h0; first | rfl | trivial) | (intro i hi; have h0 : i = 0 ∨ i = 1 := (by omega); rcases h0 with rfl | rfl <;> rfl) | (intro i hi; have h0 : i = 0 ∨ i = 1 ∨ i = 2 := (by omega); rcases h0 with rfl | rfl | rfl <;> rfl)) ?_ | ((first | ((first | refine atF (f := 75) ?_ | refine atQ (f := 75) ?_); (first | (refine cV (hac := fmtPub_ok v hv) (hK := ?_)) | (refine cQV (hac := fmtPub_ok v hv) (hK := ?_))))); simp (maxSteps := 1000000) (dsimp := false) (implicitDefEqProofs := false) (disch := omega) only [wrap64, go_sem]) | apply_assumption -exfalso -symm)
  all_goals (first | (show endQ _ _ _ _ _ _ _; (repeat (rename (∀ (A : Fr) (H : Hp), AWP _ _ _ _ A H → _) => hK; clear hK)); (repeat (rename (Fr → Hp → Prop) => K; clear K))) | (show Exists _; (repeat (rename (∀ (A : Fr) (H : Hp), AWP _ _ _ _ A H → _) => hK; clear hK)); (repeat (rename (Fr → Hp → Prop) => K; clear K))) | skip)
  exact end_retV rfl rfl
end Go.Proofs.YticbabpajligbaaDoor
end
/- Reading a notation: what both texts' parsers answer; plain. -/
section
namespace Go.Nt
set_option linter.unusedVariables false
set_option linter.unusedSimpArgs false
/-- What a parser answers: no more fuel, the offset of an error, or the place behind and the nodes. -/
inductive Pr (α : Type) where
  | out
  | bad (w : Nat)
  | ok (p : Nat) (l : List Nd) (a : α)
/-- The byte at a place, 0 behind the end. -/
def bt (s : ByteArray) (p : Nat) : Nat := if p < s.size then (s.data.toList.getD p 0).toNat else 0
/-- The first place of a byte. -/
def liF (names : ByteArray) (c : Nat) : Nat → Option Nat
  | 0 => none
  | k + 1 => match liF names c k with
    | some i => some i
    | none => if (names.data.toList.getD k 0).toNat = c then some k else none
def li (names : ByteArray) (c : Nat) : Option Nat := liF names c names.size
def dig (c : Nat) : Prop := 48 ≤ c ∧ c ≤ 57
instance (c : Nat) : Decidable (dig c) := by unfold dig; infer_instance
def pInv (s : ByteArray) (p : Nat) (l : List Nd) (x : Nd) (n : Int) : Pr Unit :=
  if bt s p = 39 then .ok (p + 1) (l ++ [{ x with count := n, inv := 1 }]) () else .ok p (l ++ [{ x with count := n }]) ()
def pSuf (s : ByteArray) (p : Nat) (l : List Nd) (x : Nd) : Pr Unit :=
  if ¬ dig (bt s p) then pInv s p l x 1
  else if bt s p = 48 then .bad p
  else if dig (bt s (p + 1)) then pInv s (p + 2) l x (10 * ((bt s p : Int) - 48) + ((bt s (p + 1) : Int) - 48))
  else if bt s p = 49 then .bad (p + 1)
  else pInv s (p + 1) l x ((bt s p : Int) - 48)
mutual
def pItem (names s : ByteArray) : Nat → Nat → List Nd → Pr Unit
  | 0, _, _ => .out
  | f + 1, p, l =>
    match li names (bt s p) with
    | some m => pSuf s (p + 1) l ⟨1, (m : Int), 0, 0, 0, []⟩
    | none =>
      if bt s p = 40 then
        match pSeq names s f (p + 1) l [] with
        | .out => .out
        | .bad w => .bad w
        | .ok q l' ks => if bt s q = 41 then pSuf s (q + 1) l' ⟨2, 0, 0, 0, 0, ks⟩ else .bad q
      else if bt s p = 91 then
        match pSeq names s f (p + 1) l [] with
        | .out => .out
        | .bad w => .bad w
        | .ok q l1 a =>
          if bt s q = 58 ∨ bt s q = 44 then
            match pSeq names s f (q + 1) l1 [] with
            | .out => .out
            | .bad w => .bad w
            | .ok r l2 b => if bt s r = 93 then pSuf s (r + 1) l2 ⟨if bt s q = 58 then 4 else 3, 0, 0, 0, (a.length : Int), a ++ b⟩ else .bad r
          else .bad q
      else .bad p
def pSeq (names s : ByteArray) : Nat → Nat → List Nd → List Int → Pr (List Int)
  | 0, _, _, _ => .out
  | f + 1, p, l, ks =>
    match pItem names s f p l with
    | .out => .out
    | .bad w => .bad w
    | .ok q l' _ => if bt s q = 32 then pSeq names s f (q + 1) l' (ks ++ [(l'.length : Int) - 1]) else .ok q l' (ks ++ [(l'.length : Int) - 1])
end
theorem bt_lt {s : ByteArray} {p : Nat} (h : bt s p ≠ 0) : p < s.size := by
  unfold bt at h; split at h
  · assumption
  · exact absurd rfl h
theorem liF_some {names : ByteArray} {c : Nat} : ∀ {k i : Nat}, liF names c k = some i → i < k ∧ (names.data.toList.getD i 0).toNat = c ∧ ∀ j, j < i → (names.data.toList.getD j 0).toNat ≠ c
  | 0, i, h => by cases h
  | k + 1, i, h => by
    unfold liF at h
    cases e : liF names c k with
    | some j => rw [e] at h; simp only [Option.some.injEq] at h; subst h; obtain ⟨a, b⟩ := liF_some e; exact ⟨by omega, b⟩
    | none =>
      rw [e] at h
      dsimp only at h
      split at h
      · rename_i hc
        simp only [Option.some.injEq] at h; subst h
        refine ⟨by omega, hc, fun j hj hjc => ?_⟩
        have : ∀ m, j < m → liF names c m ≠ none := fun m => by
          induction m with
          | zero => intro h; omega
          | succ m ih =>
            intro hm
            unfold liF
            by_cases hjm : j < m
            · cases e2 : liF names c m with
              | some x => simp
              | none => exact absurd e2 (ih hjm)
            · cases e2 : liF names c m with
              | some x => simp
              | none =>
                have : j = m := by omega
                subst this
                simp only [hjc, if_true]; simp
        exact this k hj e
      · cases h
theorem liF_none {names : ByteArray} {c : Nat} : ∀ {k : Nat}, liF names c k = none → ∀ j, j < k → (names.data.toList.getD j 0).toNat ≠ c
  | 0, h, j, hj => by omega
  | k + 1, h, j, hj => by
    unfold liF at h
    cases e : liF names c k with
    | some i => rw [e] at h; cases h
    | none =>
      rw [e] at h
      dsimp only at h
      split at h
      · cases h
      · rename_i hc
        by_cases hk : j = k
        · subst hk; exact hc
        · exact liF_none e j (by omega)
/-- Names do not hold the byte 0. -/
def nmOk (names : ByteArray) : Prop := names.size ≤ 8 ∧ ∀ j, j < names.size → 65 ≤ (names.data.toList.getD j 0).toNat ∧ (names.data.toList.getD j 0).toNat ≤ 90
theorem li_byte {names : ByteArray} (h : nmOk names) {c m : Nat} (e : li names c = some m) : m < names.size ∧ 65 ≤ c ∧ c ≤ 90 := by
  obtain ⟨a, b, _⟩ := liF_some e
  have := h.2 m a
  rw [b] at this
  exact ⟨a, this⟩
theorem pInv_ok {s : ByteArray} {p : Nat} {l : List Nd} {x : Nd} {n : Int} (hp : p ≤ s.size) : ∃ q y, pInv s p l x n = .ok q (l ++ [y]) () ∧ p ≤ q ∧ q ≤ s.size ∧ y.kids = x.kids := by
  unfold pInv
  split
  · rename_i h
    have := bt_lt (s := s) (p := p) (by omega)
    exact ⟨_, _, rfl, by omega, by omega, rfl⟩
  · exact ⟨_, _, rfl, by omega, by omega, rfl⟩
theorem pSuf_ok {s : ByteArray} {p : Nat} {l : List Nd} {x : Nd} (hp : p ≤ s.size) : (∃ w, pSuf s p l x = .bad w ∧ p ≤ w ∧ w ≤ s.size) ∨ ∃ q y, pSuf s p l x = .ok q (l ++ [y]) () ∧ p ≤ q ∧ q ≤ s.size ∧ y.kids = x.kids := by
  unfold pSuf
  split
  · exact .inr (pInv_ok hp)
  · rename_i h
    have h : dig (bt s p) := Classical.byContradiction h
    unfold dig at h
    have hp1 := bt_lt (s := s) (p := p) (by omega)
    split
    · exact .inl ⟨_, rfl, by omega, by omega⟩
    · split
      · rename_i h2
        unfold dig at h2
        have hp2 := bt_lt (s := s) (p := p + 1) (by omega)
        obtain ⟨q, y, a, b, c⟩ := pInv_ok (l := l) (x := x) (n := 10 * ((bt s p : Int) - 48) + ((bt s (p + 1) : Int) - 48)) (show p + 2 ≤ s.size by omega)
        exact .inr ⟨q, y, a, by omega, c⟩
      · split
        · exact .inl ⟨_, rfl, by omega, by omega⟩
        · obtain ⟨q, y, a, b, c⟩ := pInv_ok (l := l) (x := x) (n := (bt s p : Int) - 48) (show p + 1 ≤ s.size by omega)
          exact .inr ⟨q, y, a, by omega, c⟩
/-- What the parsers leave: the place is further on, at most a node a byte is laid. -/
structure Goes (s : ByteArray) (p : Nat) (l : List Nd) (q : Nat) (l' : List Nd) : Prop where
  lt : p < q
  le : q ≤ s.size
  pre : ∃ m, l' = l ++ m ∧ 1 ≤ m.length ∧ m.length ≤ q - p
theorem Goes.len {s : ByteArray} {p q : Nat} {l l' : List Nd} (h : Goes s p l q l') : l.length < l'.length ∧ l'.length + p ≤ l.length + q := by
  obtain ⟨m, rfl, h1, h2⟩ := h.pre
  have := h.lt
  rw [List.length_append]; omega
theorem Goes.trans {s : ByteArray} {p q r : Nat} {l l1 l2 : List Nd} (h : Goes s p l q l1) {q' : Nat} (hq : q ≤ q') (k : Goes s q' l1 r l2) : Goes s p l r l2 := by
  obtain ⟨m, rfl, h1, h2⟩ := h.pre
  obtain ⟨m2, rfl, k1, k2⟩ := k.pre
  have := h.lt
  have := k.lt
  exact ⟨by omega, k.le, m ++ m2, by rw [List.append_assoc], by rw [List.length_append]; omega, by rw [List.length_append]; omega⟩
theorem pSuf_goes {s : ByteArray} {p0 p : Nat} {l0 l : List Nd} {x : Nd} (h0 : p0 < p) (hp : p ≤ s.size) (hl : l0 = l ∨ ∃ q, q < p ∧ Goes s p0 l0 q l) : (∃ w, pSuf s p l x = .bad w ∧ p0 ≤ w ∧ w ≤ s.size) ∨ ∃ q l', pSuf s p l x = .ok q l' () ∧ Goes s p0 l0 q l' := by
  rcases pSuf_ok (l := l) (x := x) hp with ⟨w, a, b, c⟩ | ⟨q, y, a, b, c, _⟩
  · exact .inl ⟨w, a, by omega, c⟩
  · refine .inr ⟨q, _, a, ?_⟩
    rcases hl with rfl | ⟨r, hr, hg⟩
    · exact ⟨by omega, c, [y], rfl, Nat.le_refl _, by show 1 ≤ _; omega⟩
    · obtain ⟨m, rfl, h1, h2⟩ := hg.pre
      have := hg.lt
      exact ⟨by omega, c, m ++ [y], by rw [List.append_assoc], by simp, by rw [List.length_append, List.length_singleton]; omega⟩
mutual
theorem pItem_goes (names s : ByteArray) (hn : nmOk names) : ∀ (f p : Nat) (l : List Nd), p ≤ s.size → 2 * (s.size - p) + 1 ≤ f → (∃ w, pItem names s f p l = .bad w ∧ p ≤ w ∧ w ≤ s.size) ∨ ∃ q l', pItem names s f p l = .ok q l' () ∧ Goes s p l q l'
  | 0, p, l, hp, hf => by omega
  | f + 1, p, l, hp, hf => by
    unfold pItem
    cases e : li names (bt s p) with
    | some m =>
      have h1 := (li_byte hn e).2
      have h2 := bt_lt (s := s) (p := p) (by omega)
      exact pSuf_goes (Nat.lt_succ_self p) (by omega) (.inl rfl)
    | none =>
      dsimp only
      split
      · rename_i hc
        have h2 := bt_lt (s := s) (p := p) (by omega)
        rcases pSeq_goes names s hn f (p + 1) l [] (by omega) (by omega) with ⟨w, a, b, c⟩ | ⟨q, l', ks, a, hg⟩
        · rw [a]; exact .inl ⟨w, rfl, by omega, c⟩
        · rw [a]; dsimp only
          have g1 := hg.lt
          have g2 := hg.le
          split
          · rename_i hq
            have h3 := bt_lt (s := s) (p := q) (by omega)
            refine pSuf_goes (by omega) (by omega) (.inr ⟨q, by omega, by omega, g2, ?_⟩)
            obtain ⟨m, e1, e2, e3⟩ := hg.pre
            exact ⟨m, e1, e2, by omega⟩
          · exact .inl ⟨q, rfl, by omega, g2⟩
      · split
        · rename_i hc
          have h2 := bt_lt (s := s) (p := p) (by omega)
          rcases pSeq_goes names s hn f (p + 1) l [] (by omega) (by omega) with ⟨w, a, b, c⟩ | ⟨q, l1, ks, a, hg⟩
          · rw [a]; exact .inl ⟨w, rfl, by omega, c⟩
          · rw [a]; dsimp only
            have g1 := hg.lt
            have g2 := hg.le
            split
            · rename_i hq
              have h3 := bt_lt (s := s) (p := q) (by omega)
              rcases pSeq_goes names s hn f (q + 1) l1 [] (by omega) (by omega) with ⟨w, a2, b, c⟩ | ⟨r, l2, ks2, a2, hg2⟩
              · rw [a2]; exact .inl ⟨w, rfl, by omega, c⟩
              · rw [a2]; dsimp only
                have hg3 := hg.trans (by omega : q ≤ q + 1) hg2
                have g3 := hg3.lt
                have g4 := hg3.le
                split
                · rename_i hr
                  have h4 := bt_lt (s := s) (p := r) (by omega)
                  refine pSuf_goes (by omega) (by omega) (.inr ⟨r, by omega, by omega, g4, ?_⟩)
                  obtain ⟨m, e1, e2, e3⟩ := hg3.pre
                  exact ⟨m, e1, e2, by omega⟩
                · exact .inl ⟨r, rfl, by omega, g4⟩
            · exact .inl ⟨q, rfl, by omega, g2⟩
        · exact .inl ⟨p, rfl, Nat.le_refl _, hp⟩
theorem pSeq_goes (names s : ByteArray) (hn : nmOk names) : ∀ (f p : Nat) (l : List Nd) (ks : List Int), p ≤ s.size → 2 * (s.size - p) + 2 ≤ f → (∃ w, pSeq names s f p l ks = .bad w ∧ p ≤ w ∧ w ≤ s.size) ∨ ∃ q l' ks', pSeq names s f p l ks = .ok q l' ks' ∧ Goes s p l q l'
  | 0, p, l, ks, hp, hf => by omega
  | f + 1, p, l, ks, hp, hf => by
    unfold pSeq
    rcases pItem_goes names s hn f p l hp (by omega) with ⟨w, a, b, c⟩ | ⟨q, l', a, hg⟩
    · rw [a]; exact .inl ⟨w, rfl, b, c⟩
    · rw [a]; dsimp only
      have g1 := hg.lt
      have g2 := hg.le
      split
      · rename_i hq
        have h3 := bt_lt (s := s) (p := q) (by omega)
        rcases pSeq_goes names s hn f (q + 1) l' (ks ++ [(l'.length : Int) - 1]) (by omega) (by omega) with ⟨w, a2, b, c⟩ | ⟨r, l2, ks2, a2, hg2⟩
        · exact .inl ⟨w, a2, by omega, c⟩
        · exact .inr ⟨r, l2, ks2, a2, hg.trans (by omega) hg2⟩
      · exact .inr ⟨q, l', _, rfl, hg⟩
end
end Go.Nt
end
/- The reference's parser of notations: its state, the bytes, the suffix. -/
section
namespace Go.Proofs.YticbabpajligbaaDoor
open Go.Av
set_option linter.unusedSimpArgs false
set_option linter.unusedVariables false
attribute [local irreducible] AWP CallG Ob Br BrP Go.Av.Sub endQ AOps OpV AC thenA blkA opsVC opVC withA withArgs opsQ opQ CallQ withA2 withArgs2
open Go.Nt (Nd nd0 kd li liF dig pInv pSuf pItem pSeq Pr Goes)
/-- The parser's state, its nodes lying in a row of our own. -/
abbrev ps (names s : ByteArray) (p : Nat) (l : List Nd) (w : Int) : AV := .agg 5 (vecF [.v (.string (names)), .v (.string (s)), .v (.int .i64 ((p : Nat))), .own 1000000 0 6 l.length, .v (.int .i64 (w))])
abbrev hN (l : List Nd) : Hp := Hp.emp.upd 1000000 (.cells (l.length * 6) (ndF l))
theorem all5 {p : Nat → Prop} (h0 : p 0) (h1 : p 1) (h2 : p 2) (h3 : p 3) (h4 : p 4) : ∀ i, i < 5 → p i := fun i hi => by
  match i, hi with
  | 0, _ => exact h0
  | 1, _ => exact h1
  | 2, _ => exact h2
  | 3, _ => exact h3
  | 4, _ => exact h4
section
variable {P : Program} {N : Cx} {A A' : Fr} {H H' : Hp}
end
section
variable {P : Program} {N : Cx} {A A' : Fr} {H H' : Hp}
end
theorem set5_2 (a b c d e x : AV) : setF (vecF [a, b, c, d, e]) 2 x = vecF [a, b, x, d, e] := by
  funext j
  match j with
  | 0 => rfl
  | 1 => rfl
  | 2 => rfl
  | 3 => rfl
  | 4 => rfl
  | j + 5 => rfl
theorem set5_3 (a b c d e x : AV) : setF (vecF [a, b, c, d, e]) 3 x = vecF [a, b, c, x, e] := by
  funext j
  match j with
  | 0 => rfl
  | 1 => rfl
  | 2 => rfl
  | 3 => rfl
  | 4 => rfl
  | j + 5 => rfl
theorem set5_4 (a b c d e x : AV) : setF (vecF [a, b, c, d, e]) 4 x = vecF [a, b, c, d, x] := by
  funext j
  match j with
  | 0 => rfl
  | 1 => rfl
  | 2 => rfl
  | 3 => rfl
  | 4 => rfl
  | j + 5 => rfl
theorem set6_2 (a b c d e f x : AV) : setF (vecF [a, b, c, d, e, f]) 2 x = vecF [a, b, x, d, e, f] := by
  funext j
  match j with
  | 0 => rfl
  | 1 => rfl
  | 2 => rfl
  | 3 => rfl
  | 4 => rfl
  | 5 => rfl
  | j + 6 => rfl
theorem set6_3 (a b c d e f x : AV) : setF (vecF [a, b, c, d, e, f]) 3 x = vecF [a, b, c, x, e, f] := by
  funext j
  match j with
  | 0 => rfl
  | 1 => rfl
  | 2 => rfl
  | 3 => rfl
  | 4 => rfl
  | 5 => rfl
  | j + 6 => rfl
theorem wrap8' {x : Int} (h : 0 ≤ x ∧ x < 256) : IntKind.u8.wrap x = x := by
  unfold IntKind.wrap
  rw [show (2 : Int) ^ IntKind.u8.bits = 256 from rfl, show IntKind.u8.signed = false from rfl]
  simp only [Bool.false_and, Bool.false_eq_true, if_false]
  omega
theorem bt_in (s : ByteArray) (p : Nat) : (Go.Nt.bt s p = 0 ∨ p < s.size) ∧ Go.Nt.bt s p < 256 := by
  unfold Go.Nt.bt
  split
  · exact ⟨.inr (by assumption), UInt8.toNat_lt _⟩
  · exact ⟨.inl rfl, by decide⟩
end Go.Proofs.YticbabpajligbaaDoor
end
/- Names of moves: places of letters, name strings, both texts. -/
section
namespace Go.Proofs.YticbabpajligbaaDoor
open Go.Av
set_option linter.unusedSimpArgs false
set_option linter.unusedVariables false
attribute [local irreducible] AWP CallG Ob Br BrP Go.Av.Sub endQ AOps OpV AC thenA blkA opsVC opVC withA withArgs opsQ opQ CallQ withA2 withArgs2
open Go.Nt (Nd nd0 kd li liF)
def liI (names : ByteArray) (c : Nat) : Int := match li names c with
  | some m => (m : Int)
  | none => -1
/-- A name string. -/
def nmP (s : ByteArray) : Prop := (1 ≤ s.size ∧ s.size ≤ 8) ∧ ∀ i, i < s.size → isName s i
instance (s : ByteArray) : Decidable (nmP s) := by unfold nmP; infer_instance
end Go.Proofs.YticbabpajligbaaDoor
end

import Derived.Test.YticbabpajligbaaDoorM3
import Derived.Test.YticbabpajligbaaDoorM24
import Derived.Test.YticbabpajligbaaDoorM12
import Derived.Test.YticbabpajligbaaDoorM28
import Derived.Test.YticbabpajligbaaDoorM27
/- The expansion of syntax trees; plain. -/
section
namespace Go.Nt
set_option linter.unusedVariables false
set_option linter.unusedSimpArgs false
open Go.Wd (inv)
/-- What a node says, count and inverse aside; a, b: its children's words. -/
def bas (x : Nd) (a b : List Int) : List Int := (if x.kind = 1 then [x.move + 1] else []) ++ a ++ b ++ (if x.kind = 3 ∨ x.kind = 4 then inv a else []) ++ (if x.kind = 3 then inv b else [])
/-- So often. -/
def repW (w : List Int) (k : Nat) : List Int := (List.replicate k w).flatten
/-- What a node says; none if it is too long. -/
def ndW (x : Nd) (ws : List (List Int)) : Option (List Int) :=
  if 200 < (bas x (ws.take x.split.toNat).flatten (ws.drop x.split.toNat).flatten).length * x.count.toNat then none
  else some (if x.inv = 1 then inv (repW (bas x (ws.take x.split.toNat).flatten (ws.drop x.split.toNat).flatten) x.count.toNat) else repW (bas x (ws.take x.split.toNat).flatten (ws.drop x.split.toNat).flatten) x.count.toNat)
def kidsO (r : Nat → Option (List Int)) : List Int → Option (List (List Int))
  | [] => some []
  | c :: cs => match r c.toNat with
    | none => none
    | some w => match kidsO r cs with
      | none => none
      | some ws => some (w :: ws)
def exF (xs : List Nd) : Nat → Nat → Option (List Int)
  | 0, _ => none
  | f + 1, i => match kidsO (exF xs f) (kd xs i) with
    | none => none
    | some ws => ndW (xs.getD i nd0) ws
/-- The expansion of a node. -/
def ex (xs : List Nd) (i : Nat) : Option (List Int) := exF xs (i + 1) i
theorem kidsO_congr {r r' : Nat → Option (List Int)} : ∀ (cs : List Int), (∀ c ∈ cs, r c.toNat = r' c.toNat) → kidsO r cs = kidsO r' cs
  | [], _ => rfl
  | c :: cs, h => by
    unfold kidsO
    rw [h c (List.mem_cons_self ..), kidsO_congr cs fun x hx => h x (List.mem_cons_of_mem _ hx)]
/-- Children stand before. -/
def kidsB (xs : List Nd) (i : Nat) : Prop := ∀ c ∈ kd xs i, 0 ≤ c ∧ c < i
theorem exF_eq {xs : List Nd} {n : Nat} (hk : ∀ i, i < n → kidsB xs i) : ∀ (i f : Nat), i < n → i < f → exF xs f i = ex xs i := by
  intro i
  induction i using Nat.strongRecOn with
  | _ i ih =>
    intro f hn hf
    obtain ⟨g, rfl⟩ : ∃ g, f = g + 1 := ⟨f - 1, by omega⟩
    have e : kidsO (exF xs g) (kd xs i) = kidsO (exF xs i) (kd xs i) := kidsO_congr _ fun c hc => by
      have := hk i hn c hc
      rw [ih c.toNat (by omega) g (by omega) (by omega), ih c.toNat (by omega) i (by omega) (by omega)]
    show (match kidsO (exF xs g) (kd xs i) with | none => none | some ws => ndW (xs.getD i nd0) ws) = (match kidsO (exF xs i) (kd xs i) with | none => none | some ws => ndW (xs.getD i nd0) ws)
    rw [e]
theorem ex_eq {xs : List Nd} {n : Nat} (hk : ∀ i, i < n → kidsB xs i) {i : Nat} (hi : i < n) : ex xs i = (match kidsO (ex xs) (kd xs i) with | none => none | some ws => ndW (xs.getD i nd0) ws) := by
  have e : kidsO (exF xs i) (kd xs i) = kidsO (ex xs) (kd xs i) := kidsO_congr _ fun c hc => by
    have := hk i hi c hc
    exact exF_eq hk c.toNat i (by omega) (by omega)
  show (match kidsO (exF xs i) (kd xs i) with | none => none | some ws => ndW (xs.getD i nd0) ws) = _
  rw [e]
theorem kidsO_some {r : Nat → Option (List Int)} : ∀ (cs : List Int) (ws : List (List Int)), ws.length = cs.length → (∀ k, k < cs.length → r (cs.getD k 0).toNat = some (ws.getD k [])) → kidsO r cs = some ws
  | [], ws, hl, _ => by
    have : ws = [] := List.eq_nil_of_length_eq_zero hl
    rw [this]; rfl
  | c :: cs, [], hl, _ => by simp at hl
  | c :: cs, w :: ws, hl, h => by
    have h0 := h 0 (by simp)
    have ih := kidsO_some (r := r) cs ws (by simpa using hl) fun k hk => by
      have := h (k + 1) (by simp; omega)
      simpa using this
    unfold kidsO
    have h0' : r c.toNat = some w := by simpa using h0
    rw [h0', ih]
theorem kidsO_none {r : Nat → Option (List Int)} : ∀ (cs : List Int) (k : Nat), k < cs.length → r (cs.getD k 0).toNat = none → kidsO r cs = none
  | [], k, hk, _ => by simp at hk
  | c :: cs, 0, _, h => by
    have h0 : r c.toNat = none := by simpa using h
    unfold kidsO; rw [h0]
  | c :: cs, k + 1, hk, h => by
    have ih := kidsO_none (r := r) cs k (by simpa using hk) (by simpa using h)
    unfold kidsO
    rw [ih]
    cases r c.toNat <;> rfl
/-- All nodes from the first on. -/
def tab (xs : List Nd) : Nat → Option (List (List Int))
  | 0 => some []
  | k + 1 => match tab xs k with
    | none => none
    | some out => match ndW (xs.getD k nd0) ((kd xs k).map fun c => out.getD c.toNat []) with
      | none => none
      | some w => some (out ++ [w])
theorem kidsB_of {xs : List Nd} {n : Nat} (h : sz xs (n - 1) = some n) : ∀ i, i < n → kidsB xs i := fun i hi c hc => by
  obtain ⟨k, hk, e⟩ := List.mem_iff_getElem.1 hc
  have := kid_lt h hi hk
  rw [List.getD_eq_getElem?_getD, List.getElem?_eq_getElem hk, Option.getD_some, e] at this
  exact this
theorem flat_len {L : Nat} : ∀ (ws : List (List Int)), (∀ w ∈ ws, w.length ≤ L) → ws.flatten.length ≤ L * ws.length
  | [], _ => by simp
  | w :: ws, h => by
    have h1 := h w (List.mem_cons_self ..)
    have h2 := flat_len ws fun x hx => h x (List.mem_cons_of_mem _ hx)
    simp only [List.flatten_cons, List.length_append, List.length_cons]
    rw [Nat.mul_succ]; omega
theorem ex_none {xs : List Nd} {n : Nat} (hk : ∀ i, i < n → kidsB xs i) {i : Nat} (hi : i < n) {k : Nat} (hkk : k < (kd xs i).length) (h : ex xs ((kd xs i).getD k 0).toNat = none) : ex xs i = none := by
  rw [ex_eq hk hi, kidsO_none _ k hkk h]
theorem ex_some {xs : List Nd} {n : Nat} (hk : ∀ i, i < n → kidsB xs i) {i : Nat} (hi : i < n) {ws : List (List Int)} (hl : ws.length = (kd xs i).length) (h : ∀ k, k < (kd xs i).length → ex xs ((kd xs i).getD k 0).toNat = some (ws.getD k [])) : ex xs i = ndW (xs.getD i nd0) ws := by
  rw [ex_eq hk hi, kidsO_some _ ws hl h]
theorem repW_len (w : List Int) (k : Nat) : (repW w k).length = k * w.length := by simp [repW]
theorem ndW_len {x : Nd} {ws : List (List Int)} {w : List Int} (h : ndW x ws = some w) : w.length ≤ 200 := by
  unfold ndW at h
  split at h
  · cases h
  · rename_i hc
    simp only [Option.some.injEq] at h
    subst h
    split
    · simp only [inv, List.length_reverse, List.length_map]; rw [repW_len, Nat.mul_comm]; omega
    · rw [repW_len, Nat.mul_comm]; omega
theorem bas_len (x : Nd) (a b : List Int) : (bas x a b).length ≤ 1 + 2 * (a.length + b.length) := by
  have i1 : (inv a).length = a.length := by simp [inv]
  have i2 : (inv b).length = b.length := by simp [inv]
  unfold bas
  simp only [List.length_append]
  split <;> split <;> split <;> simp only [i1, i2, List.length_nil, List.length_singleton] <;> omega
def sm (w : List Int) : Prop := ∀ y ∈ w, -8 ≤ y ∧ y ≤ 8
theorem sm_app {a b : List Int} (ha : sm a) (hb : sm b) : sm (a ++ b) := fun y hy => (List.mem_append.1 hy).elim (ha y) (hb y)
theorem sm_inv {a : List Int} (ha : sm a) : sm (inv a) := fun y hy => by
  simp only [inv, List.mem_reverse, List.mem_map] at hy
  obtain ⟨z, hz, rfl⟩ := hy
  have := ha z hz; omega
theorem sm_flat {ws : List (List Int)} (h : ∀ w ∈ ws, sm w) : sm ws.flatten := fun y hy => by
  obtain ⟨w, hw, h2⟩ := List.mem_flatten.1 hy
  exact h w hw y h2
theorem sm_nil : sm [] := fun y hy => by cases hy
theorem sm_bas {x : Nd} {a b : List Int} (hx : x.kind = 1 → 0 ≤ x.move ∧ x.move ≤ 7) (ha : sm a) (hb : sm b) : sm (bas x a b) := by
  unfold bas
  refine sm_app (sm_app (sm_app (sm_app ?_ ha) hb) ?_) ?_
  · split
    · rename_i h; intro y hy; rw [List.mem_singleton.1 hy]; have := hx h; omega
    · exact sm_nil
  · split
    · exact sm_inv ha
    · exact sm_nil
  · split
    · exact sm_inv hb
    · exact sm_nil
theorem sm_repW {w : List Int} (h : sm w) (k : Nat) : sm (repW w k) := sm_flat fun v hv => by rw [List.eq_of_mem_replicate hv]; exact h
theorem kidsO_all {r : Nat → Option (List Int)} : ∀ (cs : List Int) (ws : List (List Int)), kidsO r cs = some ws → ∀ w ∈ ws, ∃ c ∈ cs, r c.toNat = some w
  | [], ws, h, w, hw => by
    simp only [kidsO, Option.some.injEq] at h
    subst h; cases hw
  | c :: cs, ws, h, w, hw => by
    unfold kidsO at h
    cases e : r c.toNat with
    | none => rw [e] at h; cases h
    | some v =>
      rw [e] at h
      cases e2 : kidsO r cs with
      | none => rw [e2] at h; cases h
      | some ws' =>
        rw [e2] at h
        simp only [Option.some.injEq] at h
        subst h
        rcases List.mem_cons.1 hw with rfl | hw
        · exact ⟨c, List.mem_cons_self .., e⟩
        · obtain ⟨c', h1, h2⟩ := kidsO_all cs ws' e2 w hw
          exact ⟨c', List.mem_cons_of_mem _ h1, h2⟩
theorem nd_move {m : Int} {x : Nd} {l : Bool} (h : ndOk m x l) (hk : x.kind = 1) : 0 ≤ x.move ∧ x.move ≤ m - 1 := by
  rcases h.2.2 with ⟨_, h2, _⟩ | ⟨_, h2 | h2 | h2⟩ <;> omega
theorem ex_small {xs : List Nd} (hv : isNt 8 xs) : ∀ i, i < xs.length → ∀ w, ex xs i = some w → sm w := by
  have hk := kidsB_of hv.2.2.2
  intro i
  induction i using Nat.strongRecOn with
  | _ i ih =>
    intro hi w hw
    rw [ex_eq hk hi] at hw
    cases e : kidsO (ex xs) (kd xs i) with
    | none => rw [e] at hw; cases hw
    | some ws =>
      rw [e] at hw
      have hws : ∀ w ∈ ws, sm w := fun v hv => by
        obtain ⟨c, hc, h2⟩ := kidsO_all _ _ e v hv
        have := hk i hi c hc
        exact ih c.toNat (by omega) (by omega) v h2
      have hb : sm (bas (xs.getD i nd0) (ws.take (xs.getD i nd0).split.toNat).flatten (ws.drop (xs.getD i nd0).split.toNat).flatten) := sm_bas (fun h => by have := nd_move (hv.2.2.1 i hi) h; omega) (sm_flat fun v hv => hws v (List.mem_of_mem_take hv)) (sm_flat fun v hv => hws v (List.mem_of_mem_drop hv))
      simp only [ndW] at hw
      split at hw
      · cases hw
      · simp only [Option.some.injEq] at hw
        subst hw
        split
        · exact sm_inv (sm_repW hb _)
        · exact sm_repW hb _
theorem ex_len {xs : List Nd} {i : Nat} {w : List Int} (h : ex xs i = some w) : w.length ≤ 200 := by
  unfold ex exF at h
  split at h
  · cases h
  · exact ndW_len h
end Go.Nt
end
/- The expansion of a node, the program's text. -/
section
namespace Go.Proofs.YticbabpajligbaaDoor
open Go.Av
set_option linter.unusedSimpArgs false
set_option linter.unusedVariables false
attribute [local irreducible] AWP CallG Ob Br BrP Go.Av.Sub endQ AOps OpV AC thenA blkA opsVC opVC withA withArgs opsQ opQ CallQ withA2 withArgs2
open Go.Nt (Nd nd0 kd ndOk sz isNt ex ndW bas kidsO)
/-- What expand answers. -/
def exP (xs : List Nd) (i : Nat) : List Int × Bool := match ex xs i with
  | some w => (w, true)
  | none => ([], false)
theorem sm_get {w : List Int} (h : Go.Nt.sm w) (j : Nat) : -1000 ≤ w.getD j 0 ∧ w.getD j 0 ≤ 1000 := by
  by_cases hj : j < w.length
  · have := h _ (mem_getD.2 ⟨j, hj, rfl⟩); omega
  · rw [List.getD_eq_getElem?_getD, List.getElem?_eq_none (by omega)]; exact ⟨by decide, by decide⟩
theorem exP_len (xs : List Nd) (i : Nat) : (exP xs i).1.length ≤ 200 := by
  unfold exP
  split
  · rename_i w h; exact Go.Nt.ex_len h
  · simp
theorem exP_some {xs : List Nd} {i : Nat} (h : (exP xs i).2 = true) : ex xs i = some (exP xs i).1 := by
  unfold exP at h ⊢
  cases e : ex xs i with
  | none => rw [e] at h; cases h
  | some w => rfl
theorem exP_none {xs : List Nd} {i : Nat} (h : ¬ (exP xs i).2 = true) : ex xs i = none := by
  unfold exP at h
  cases e : ex xs i with
  | none => rfl
  | some w => rw [e] at h; exact absurd rfl h
set_option maxHeartbeats 8000000 in
theorem implExpand_ok (xs : List Nd) (hv : isNt 8 xs) : ∀ i, i < xs.length → ∀ d, AC Tryd.prog 83 [nds xs, .v (.int .i64 ((i : Nat)))] Hp.emp (fun _ => false) (retIB d (exP xs i).1 (exP xs i).2) := by
  intro i
  induction i using Nat.strongRecOn with
  | _ i ih =>
    intro hi d
    have hn := ndF_is xs i
    have h0 := hn.h0
    have h1 := hn.h1
    have h2 := hn.h2
    have h3 := hn.h3
    have h4 := hn.h4
    have h5 := hn.h5
    clear hn
    have hl := hv.2.1
    refine ac_of_awp (N := ⟨_, fun _ => false, fun _ _ => rfl, true⟩) Tryd.func83 rfl (by kernel_rfl) Tryd.ntmps83 (by simp) ?_
    simp only [argsFr, List.zipIdx_cons, List.zipIdx_nil, go_sem]
    repeat' (first | (refine Ob.mk (all6 (by simp only [scF_app, h0]; rfl) (by simp only [scF_app, h1]; rfl) (by simp only [scF_app, h2]; rfl) (by simp only [scF_app, h3]; rfl) (by simp only [scF_app, h4]; rfl) (by simp only [scF_app, h5]; rfl)) ?_) | refine awp_seqK fun K hK => ?_ | (refine awp_regionK 623806313806934970683899891 rfl ?_; simp only [List.map_cons, List.map_nil]; simp (maxSteps := 1000000) (dsimp := false) (implicitDefEqProofs := false) (disch := omega) only [wrap64, go_sem, scF_app, h0, h1, h2, h3, h4, h5]) | (refine awp_regionQK 623806313806934970683899891 (by kernel_rfl) (by kernel_rfl) (by kernel_rfl) ?_; simp only [List.map_cons, List.map_nil]; simp (maxSteps := 1000000) (dsimp := false) (implicitDefEqProofs := false) (disch := omega) only [wrap64, go_sem, scF_app, h0, h1, h2, h3, h4, h5]) | refine awp_block ?_ | (refine awp_skip ?_; simp only [go_sem, scF_app, h0, h1, h2, h3, h4, h5]) | (refine awp_exit ?_; simp only [go_sem, scF_app, h0, h1, h2, h3, h4, h5]) | (refine awp_ret ?_; try simp only [go_sem, scF_app, h0, h1, h2, h3, h4, h5]) | (refine awp_condP rfl ?_; try simp only [go_sem, scF_app, h0, h1, h2, h3, h4, h5]) | (refine BrP.mk (fun h => ?_) (fun h => ?_) <;> try simp (dsimp := false) (disch := omega) only [wrap64]) | (refine Br.mk (fun h => ?_) (fun h => ?_) <;> try simp (dsimp := false) (disch := omega) only [wrap64]) | refine Ob.mk (by first | omega | (intro _ _; rfl) | trivial | (intros; trivial) | assumption | (intro i hi; have h0 : i = 0 := (by omega); subst h0; first | rfl | trivial) | (intro i hi; have h0 : i = 0 ∨ i = 1 := (by omega); rcases h0 with rfl | rfl <;> rfl) | (intro i hi; have h0 : i = 0 ∨ i = 1 ∨ i = 2 := (by omega); rcases h0 with rfl | rfl | rfl <;> rfl)) ?_ | apply_assumption -exfalso -symm)
    all_goals (first | (show endQ _ _ _ _ _ _ _; (repeat (rename (∀ (A : Fr) (H : Hp), AWP _ _ _ _ A H → _) => hK; clear hK)); (repeat (rename (Fr → Hp → Prop) => K; clear K))) | (show Exists _; (repeat (rename (∀ (A : Fr) (H : Hp), AWP _ _ _ _ A H → _) => hK; clear hK)); (repeat (rename (Fr → Hp → Prop) => K; clear K))) | skip)
    have hkb := Go.Nt.kidsB_of hv.2.2.2
    have hkl := Go.Nt.kids_len hv.2.2.2 hi
    obtain ⟨ks, eks⟩ : ∃ ks, ks = kd xs i := ⟨_, rfl⟩
    have hkb' : ∀ c ∈ ks, 0 ≤ c ∧ c < i := by rw [eks]; exact hkb i hi
    have h5' : ndF xs (i * 6 + 5) = .list false 1 (ks).length (cM iv 0 (ks)) := by rw [eks]; exact h5
    show AWP _ _ _ _ ((21, .v (.int .i64 (0))) :: (20, .v (.int .i64 ((kd xs i).length))) :: (19, .list false 1 (kd xs i).length (cM iv 0 (kd xs i))) :: _) _
    rw [← eks]
    have hsc : ∀ q, scF q (fun j => ndF xs (i * 6 + j)) = fun j => ndF xs (i * 6 + j) := fun q => by funext j; exact (ndF_plain xs _).2 q
    rw [hsc]
    obtain ⟨sp, esp⟩ : ∃ sp : Nat, sp = if (xs.getD i nd0).split = 0 then ks.length else (xs.getD i nd0).split.toNat := ⟨_, rfl⟩
    refine awp_loop (ι := List (List Int)) (fun ws => [(21, .v (.int .i64 (ws.length))), (20, .v (.int .i64 (ks.length))), (19, .list false 1 (ks).length (cM iv 0 (ks))), (8, .own 48 0 1 (ws.drop sp).flatten.length), (7, .own 45 0 1 (ws.take sp).flatten.length), (6, .ref 6 0), (0, nds xs)]) (fun ws => ((Hp.emp.upd 6 (.cells 6 (fun j => ndF xs (i * 6 + j)))).upd 45 (.cells (ws.take sp).flatten.length (cM iv 0 (ws.take sp).flatten))).upd 48 (.cells (ws.drop sp).flatten.length (cM iv 0 (ws.drop sp).flatten))) (fun ws => ws.length ≤ ks.length ∧ (∀ w ∈ ws, w.length ≤ 200) ∧ ∀ k, k < ws.length → ex xs (ks.getD k 0).toNat = some (ws.getD k [])) (fun ws => ks.length - ws.length) [] ⟨Nat.zero_le _, by simp, fun k hk => absurd hk (by simp)⟩ ?_ ?_
    · simp only [List.take_nil, List.drop_nil, List.flatten_nil, List.length_nil]
      refine Sub.trans (Sub.nil (i := 8) 48 1 (cM iv 0 []) rfl rfl) (Sub.trans (Sub.nil (i := 7) 45 1 (cM iv 0 []) rfl rfl) (Sub.toL (by simp only [go_sem] <;> first | trivial | (simp only [Option.some.injEq, AV.v.injEq, AV.own.injEq, AV.list.injEq, Value.int.injEq, Value.bool.injEq, true_and, and_true]; first | omega | (simp; done)) | (simp; done) | (simp; omega)) (Hp.le_upd ?_ (Hp.le_upd ?_ (Hp.le_upd ?_ (Hp.le_emp _)))))) <;> simp only [go_sem, hsc]
    rintro ws ⟨hw1, hw2, hw3⟩
    have hbt := Go.Nt.flat_len (L := 200) (ws.take sp) fun w hw => hw2 w (List.mem_of_mem_take hw)
    have hbd := Go.Nt.flat_len (L := 200) (ws.drop sp) fun w hw => hw2 w (List.mem_of_mem_drop hw)
    rw [List.length_take] at hbt
    rw [List.length_drop] at hbd
    have hx := hv.2.2.1 i hi
    obtain ⟨A, eA⟩ : ∃ A, A = (ws.take sp).flatten := ⟨_, rfl⟩
    obtain ⟨B, eB⟩ : ∃ B, B = (ws.drop sp).flatten := ⟨_, rfl⟩
    rw [← eA] at hbt ⊢
    rw [← eB] at hbd ⊢
    obtain ⟨c, ec⟩ : ∃ c : Nat, c = (ks.getD ws.length 0).toNat := ⟨_, rfl⟩
    have hc : ws.length < ks.length → ks.getD ws.length 0 = (c : Int) ∧ c < i := fun h => by
      have hm : ks.getD ws.length 0 ∈ ks := by rw [List.getD_eq_getElem?_getD, List.getElem?_eq_getElem h]; exact List.getElem_mem _
      have := hkb' _ hm
      omega
    have hcc : ks.getD ws.length 0 = (c : Int) ∨ ks.length ≤ ws.length := by
      rcases Nat.lt_or_ge ws.length ks.length with h | h
      · exact .inl (hc h).1
      · exact .inr h
    have hc1 : ws.length < ks.length → ks.getD ws.length 0 = (c : Int) := fun h => (hc h).1
    have hks : ks.length ≤ 199 := by rw [eks]; omega
    have hyl := exP_len xs c
    obtain ⟨x, ex⟩ : ∃ x, x = xs.getD i nd0 := ⟨_, rfl⟩
    rw [← ex] at h0 h1 h2 h3 h4 hx esp
    have h0' : ndF xs (i * 6) = .v (.int .i64 (x.kind)) := h0
    have hct : 1 ≤ x.count ∧ x.count ≤ 99 := hx.1
    have hmv : x.kind = 1 → 0 ≤ x.move ∧ x.move ≤ 7 := fun h => by
      rcases hx.2.2 with ⟨_, h2, _⟩ | ⟨_, h2 | h2 | h2⟩ <;> omega
    have esp' := esp
    have hspl : 0 ≤ x.split ∧ x.split ≤ 1000 := by
      have hxk : x.kids.length = ks.length := by rw [ex, eks]
      rcases hx.2.2 with ⟨_, _, _, _, _, h2⟩ | ⟨_, h2 | h2 | h2⟩ <;> omega
    have hAl : A.length ≤ 40000 := by have := Nat.min_le_right sp ws.length; omega
    have hBl : B.length ≤ 40000 := by omega
    have hws : ∀ w ∈ ws, Go.Nt.sm w := fun w hw => by
      obtain ⟨k, hk, e⟩ := List.mem_iff_getElem.1 hw
      have h2 := hw3 k hk
      rw [List.getD_eq_getElem?_getD (l := ws), List.getElem?_eq_getElem hk, Option.getD_some, e] at h2
      have hm : ks.getD k 0 ∈ ks := by rw [List.getD_eq_getElem?_getD, List.getElem?_eq_getElem (by omega)]; exact List.getElem_mem _
      have := hkb' _ hm
      exact Go.Nt.ex_small hv _ (by omega) w h2
    have sA : Go.Nt.sm A := by rw [eA]; exact Go.Nt.sm_flat fun v hv => hws v (List.mem_of_mem_take hv)
    have sB : Go.Nt.sm B := by rw [eB]; exact Go.Nt.sm_flat fun v hv => hws v (List.mem_of_mem_drop hv)
    have hsA := sm_get sA
    have hsB := sm_get sB
    obtain ⟨bw, ebw⟩ : ∃ bw, bw = bas x (ws.take x.split.toNat).flatten (ws.drop x.split.toNat).flatten := ⟨_, rfl⟩
    have hxk : x.kids.length = ks.length := by rw [ex, eks]
    have hsame : x.split ≠ 0 → bw = bas x A B := fun h => by rw [ebw, eA, eB, esp', if_neg h]
    have hb1 : ¬ ((ws.length : Int) < ks.length) → x.kind = 1 → bw = [x.move + 1] := fun _ h => by
      have h0 : ws = [] := by
        have : ws.length = 0 := by rcases hx.2.2 with ⟨_, h2, _⟩ | ⟨_, h2 | h2 | h2⟩ <;> omega
        exact List.eq_nil_of_length_eq_zero this
      rw [ebw, h0]; unfold bas; rw [if_pos h, if_neg (by omega), if_neg (by omega)]; simp
    have hb3 : x.kind = 3 → bw = [A, B, inv A, inv B].flatten := fun h => by
      rw [hsame (by rcases hx.2.2 with ⟨_, h2, _⟩ | ⟨_, h2 | h2 | h2⟩ <;> omega)]
      unfold bas; rw [if_neg (by omega), if_pos (.inl h), if_pos h]; simp [inv, Go.Wd.inv]
    have hb4 : x.kind = 4 → bw = [A, B, inv A].flatten := fun h => by
      rw [hsame (by rcases hx.2.2 with ⟨_, h2, _⟩ | ⟨_, h2 | h2 | h2⟩ <;> omega)]
      unfold bas; rw [if_neg (by omega), if_pos (.inr h), if_neg (by omega)]; simp [inv, Go.Wd.inv]
    have hb2 : ¬ ((ws.length : Int) < ks.length) → ¬ x.kind = 1 → ¬ x.kind = 3 → ¬ x.kind = 4 → bw = A := fun hl h1 h3 h4 => by
      have hs0 : x.split = 0 := by rcases hx.2.2 with ⟨_, _, _, _, _, h2⟩ | ⟨_, h2 | h2 | h2⟩ <;> omega
      rw [ebw, eA, esp', if_pos hs0, hs0, List.take_of_length_le (by omega : ws.length ≤ ks.length)]
      unfold bas; rw [if_neg h1, if_neg (by omega), if_neg h3]; simp
    have hbl : bw.length ≤ 160001 := by
      by_cases hs : x.split = 0
      · have h9 := Go.Nt.flat_len (L := 200) ws hw2
        have h8 := Go.Nt.bas_len x [] ws.flatten
        have e9 : bw = bas x [] ws.flatten := by rw [ebw, hs]; rfl
        rw [e9]
        have : ([] : List Int).length = 0 := rfl
        omega
      · rw [hsame hs]
        have := Go.Nt.bas_len x A B
        omega
    have sbw : Go.Nt.sm bw := by
      rw [ebw]
      exact Go.Nt.sm_bas hmv (Go.Nt.sm_flat fun v hv => hws v (List.mem_of_mem_take hv)) (Go.Nt.sm_flat fun v hv => hws v (List.mem_of_mem_drop hv))
    obtain ⟨m, em⟩ : ∃ m, m = bw.length * x.count.toNat := ⟨_, rfl⟩
    have hm1 : m ≤ 160001 * 99 := by rw [em]; exact Nat.mul_le_mul hbl (by omega)
    have hm2 : bw.length ≤ m := by rw [em]; exact Nat.le_mul_of_pos_right _ (by omega)
    have em' : (bw.length : Int) * x.count = (m : Int) := by
      rw [em, Int.natCast_mul]; congr 1; omega
    have hrl : (rep bw x.count.toNat).length = m := by rw [rep_length, em, Nat.mul_comm]
    have hrb := sm_get (Go.Nt.sm_repW sbw x.count.toNat)
    have hc4 : [A, B, inv A, inv B].flatten.length ≤ 1048576 := by simp [inv]; omega
    have hc3 : [A, B, inv A].flatten.length ≤ 1048576 := by simp [inv]; omega
    obtain ⟨y, ey⟩ : ∃ y, y = (exP xs c).1 := ⟨_, rfl⟩
    have hA1 : ws.length < sp → ((ws ++ [y]).take sp).flatten = A ++ y ∧ ((ws ++ [y]).drop sp).flatten = B := fun h => by
      rw [eA, eB, List.take_of_length_le (by simp; omega), List.take_of_length_le (by omega), List.drop_eq_nil_of_le (by simp; omega), List.drop_eq_nil_of_le (by omega)]
      simp
    have hB1 : sp ≤ ws.length → ((ws ++ [y]).take sp).flatten = A ∧ ((ws ++ [y]).drop sp).flatten = B ++ y := fun h => by
      rw [eA, eB, List.take_append_of_le_length h, List.drop_append_of_le_length h]
      simp
    have hnew : ((ws.length : Int) < ks.length) → (exP xs c).2 = true → (ws ++ [y]).length ≤ ks.length ∧ (∀ w ∈ ws ++ [y], w.length ≤ 200) ∧ ∀ k, k < (ws ++ [y]).length → Go.Nt.ex xs (ks.getD k 0).toNat = some ((ws ++ [y]).getD k []) := fun h1 h2 => by
      refine ⟨by simp; omega, fun w hw => ?_, fun k hk => ?_⟩
      · rcases List.mem_append.1 hw with h | h
        · exact hw2 w h
        · rw [List.mem_singleton.1 h, ey]; exact hyl
      · rw [List.length_append, List.length_singleton] at hk
        by_cases hkw : k < ws.length
        · rw [hw3 k hkw, List.getD_eq_getElem?_getD, List.getD_eq_getElem?_getD, List.getElem?_append_left hkw]
        · have e : k = ws.length := by omega
          subst e
          rw [← ec, exP_some h2, ← ey]
          simp [List.getD_eq_getElem?_getD]
    have hspc : (x.split = 0 → sp = ks.length) ∧ (x.split ≠ 0 → sp = x.split.toNat) := ⟨fun h => by rw [esp', if_pos h], fun h => by rw [esp', if_neg h]⟩
    have hexn : ((ws.length : Int) < ks.length) → ¬ (exP xs c).2 = true → exP xs i = ([], false) := fun h1 h2 => by
      have := Go.Nt.ex_none (Go.Nt.kidsB_of hv.2.2.2) hi (k := ws.length) (by rw [← eks]; omega) (by rw [← eks, ← ec]; exact exP_none h2)
      unfold exP; rw [this]
    have hexi : ¬ ((ws.length : Int) < ks.length) → exP xs i = if 200 < m then ([], false) else (if x.inv = 1 then inv (rep bw x.count.toNat) else rep bw x.count.toNat, true) := fun h => by
      have hl2 : ws.length = ks.length := by omega
      have := Go.Nt.ex_some (Go.Nt.kidsB_of hv.2.2.2) hi (ws := ws) (by rw [hl2, eks]) (by rw [← eks]; intro k hk; exact hw3 k (by omega))
      unfold exP; rw [this, ← ex]
      unfold ndW
      rw [← ebw, ← em]
      by_cases hm : 200 < m
      · rw [if_pos hm, if_pos hm]
      · rw [if_neg hm, if_neg hm]; rfl
    repeat' (first | (refine awp_cutR 13 22 (A' := [(8, ints B), (7, ints A), (6, .ref 6 0)]) (H' := Hp.emp.upd 6 (.cells 6 (fun j => ndF xs (i * 6 + j)))) (Sub.toFF (fun x => x = 45 ∨ x = 48) (Fr.fit_cons rfl (fits_I rfl (.inr rfl) rfl rfl) (Fr.fit_cons rfl (fits_I rfl (.inl rfl) rfl rfl) (Fr.fit_cons rfl (.refl _) (Fr.fit_nil _)))) (leF_upd rfl (.refl _ _ _) leF_emp (by omega))) ?_) | (first | (refine awp_cutR 21 13 (A' := [(13, ints bw), (6, .ref 6 0)]) (H' := Hp.emp.upd 6 (.cells 6 (fun j => ndF xs (i * 6 + j)))) (by rw [hb1 (by assumption) (by assumption)]; exact Sub.toFF (fun x => x = 58) (Fr.fit_cons rfl (fits_I rfl rfl rfl rfl) (Fr.fit_cons rfl (.refl _) (Fr.fit_nil _))) (leF_upd rfl (.refl _ _ _) leF_emp (by omega))) ?_) | (refine awp_cutR 21 13 (A' := [(13, ints bw), (6, .ref 6 0)]) (H' := Hp.emp.upd 6 (.cells 6 (fun j => ndF xs (i * 6 + j)))) (by rw [hb3 (by assumption)]; exact Sub.toFF (fun x => x = 60) (Fr.fit_cons rfl (fits_I rfl rfl rfl rfl) (Fr.fit_cons rfl (.refl _) (Fr.fit_nil _))) (leF_upd rfl (.refl _ _ _) leF_emp (by omega))) ?_) | (refine awp_cutR 21 13 (A' := [(13, ints bw), (6, .ref 6 0)]) (H' := Hp.emp.upd 6 (.cells 6 (fun j => ndF xs (i * 6 + j)))) (by rw [hb4 (by assumption)]; exact Sub.toFF (fun x => x = 60) (Fr.fit_cons rfl (fits_I rfl rfl rfl rfl) (Fr.fit_cons rfl (.refl _) (Fr.fit_nil _))) (leF_upd rfl (.refl _ _ _) leF_emp (by omega))) ?_) | (refine awp_cutR 21 69 (A' := [(13, ints bw), (6, .ref 6 0)]) (H' := Hp.emp.upd 6 (.cells 6 (fun j => ndF xs (i * 6 + j)))) (by rw [hb2 (by assumption) (by assumption) (by assumption) (by assumption)]; exact Sub.toFF (fun x => x = 60) (Fr.fit_cons rfl (.refl _) (Fr.fit_cons rfl (.refl _) (Fr.fit_nil _))) (leF_upd rfl (.refl _ _ _) leF_emp (by omega))) ?_)) | refine awp_seqK fun K hK => ?_ | (refine awp_regionK 623806313806934970683899891 rfl ?_; simp only [List.map_cons, List.map_nil]; simp (maxSteps := 2000000) (dsimp := false) (implicitDefEqProofs := false) (disch := omega) only [wrap64, go_sem, hc1, hsc, Nat.le_refl, em', h0', h0, h1, h2, h3, h4]) | (refine awp_regionQK 623806313806934970683899891 (by kernel_rfl) (by kernel_rfl) (by kernel_rfl) ?_; simp only [List.map_cons, List.map_nil]; simp (maxSteps := 2000000) (dsimp := false) (implicitDefEqProofs := false) (disch := omega) only [wrap64, go_sem, hc1, hsc, Nat.le_refl, em', h0', h0, h1, h2, h3, h4]) | refine awp_block ?_ | (refine awp_skip ?_; simp only [go_sem, hc1, hsc, Nat.le_refl, em', h0', h0, h1, h2, h3, h4]) | (refine awp_exit ?_; simp only [go_sem, hc1, hsc, Nat.le_refl, em', h0', h0, h1, h2, h3, h4]) | (refine awp_ret ?_; try simp only [go_sem, hc1, hsc, Nat.le_refl, em', h0', h0, h1, h2, h3, h4]) | (refine awp_condP rfl ?_; try simp only [go_sem, hc1, hsc, Nat.le_refl, em', h0', h0, h1, h2, h3, h4]) | (refine BrP.mk (fun h => ?_) (fun h => ?_) <;> try simp (dsimp := false) (disch := omega) only [wrap64]) | (refine Br.mk (fun h => ?_) (fun h => ?_) <;> try simp (dsimp := false) (disch := omega) only [wrap64]) | refine Ob.mk (by first | omega | (intro _ _; rfl) | trivial | (intros; trivial) | assumption | (intro i hi; have h0 : i = 0 := (by omega); subst h0; first | rfl | trivial) | (intro i hi; have h0 : i = 0 ∨ i = 1 := (by omega); rcases h0 with rfl | rfl <;> rfl) | (intro i hi; have h0 : i = 0 ∨ i = 1 ∨ i = 2 := (by omega); rcases h0 with rfl | rfl | rfl <;> rfl)) ?_ | ((first | ((first | refine atF (f := 83) ?_ | refine atQ (f := 83) ?_); (refine cIB (hac := ih c (hc (by omega)).2 (by omega) 40) (hK := ?_))) | ((first | refine atF (f := 101) ?_ | refine atQ (f := 101) ?_); (first | (refine cFI (hac := inverseWord_ok A (by omega) hsA 61) (hK := ?_)) | (refine cQI (hac := inverseWord_ok A (by omega) hsA 61) (hK := ?_)))) | ((first | refine atF (f := 101) ?_ | refine atQ (f := 101) ?_); (first | (refine cFI (hac := inverseWord_ok B (by omega) hsB 62) (hK := ?_)) | (refine cQI (hac := inverseWord_ok B (by omega) hsB 62) (hK := ?_)))) | ((first | refine atF (f := 100) ?_ | refine atQ (f := 100) ?_); (first | refine cI (hfit := FitsL.cons (fits_lit4 rfl trivial) .nil) (hac := sliceConcat_ok [A, B, inv A, inv B] (by simp) hc4 60) (hK := ?_) | refine cI (hfit := FitsL.cons (fits_lit3 rfl trivial) .nil) (hac := sliceConcat_ok [A, B, inv A] (by simp) hc3 60) (hK := ?_))) | ((first | refine atF (f := 43) ?_ | refine atQ (f := 43) ?_); (first | (refine cV (hac := length_ok bw) (hK := ?_)) | (refine cQV (hac := length_ok bw) (hK := ?_)))) | ((first | refine atF (f := 102) ?_ | refine atQ (f := 102) ?_); (refine cI (hac := sliceRepeatI_ok bw x.count (by omega) (by omega) (by rw [Nat.mul_comm, ← em]; omega) 63) (hK := ?_))) | ((first | refine atF (f := 101) ?_ | refine atQ (f := 101) ?_); (refine cI (hac := inverseWord_ok (rep bw x.count.toNat) (by omega) hrb 64) (hK := ?_)))); simp (maxSteps := 2000000) (dsimp := false) (implicitDefEqProofs := false) (disch := omega) only [wrap64, go_sem, hc1, hsc, Nat.le_refl, em', h0', h0, h1, h2, h3, h4]) | apply_assumption -exfalso -symm)
    all_goals (first | (show endQ _ _ _ _ _ _ _; (repeat (rename (∀ (A : Fr) (H : Hp), AWP _ _ _ _ A H → _) => hK; clear hK)); (repeat (rename (Fr → Hp → Prop) => K; clear K))) | (show Exists _; (repeat (rename (∀ (A : Fr) (H : Hp), AWP _ _ _ _ A H → _) => hK; clear hK)); (repeat (rename (Fr → Hp → Prop) => K; clear K))) | skip)
    · obtain ⟨q1, q2⟩ := hA1 (by have := hspc.1; have := hspc.2; omega)
      refine ⟨ws ++ [y], hnew (by assumption) (by assumption), by simp; omega, ?_⟩
      rw [q1, q2, List.length_append, List.length_singleton, List.length_append, ey]
      exact Sub.toL (by simp only [go_sem] <;> first | trivial | (simp only [Option.some.injEq, AV.v.injEq, AV.own.injEq, AV.list.injEq, Value.int.injEq, Value.bool.injEq, true_and, and_true]; first | omega | (simp; done)) | (simp; done) | (simp; omega)) (by (repeat' (first | exact Hp.le_emp _ | exact Hp.le_refl _ | refine Hp.le_upd ?_ ?_)); all_goals (first | rfl | (simp only [go_sem]; first | rfl | (refine cellsE ?_ ?_ <;> (simp)) | (simp))))
    · obtain ⟨q1, q2⟩ := hA1 (by have := hspc.1; have := hspc.2; omega)
      refine ⟨ws ++ [y], hnew (by assumption) (by assumption), by simp; omega, ?_⟩
      rw [q1, q2, List.length_append, List.length_singleton, List.length_append, ey]
      exact Sub.toL (by simp only [go_sem] <;> first | trivial | (simp only [Option.some.injEq, AV.v.injEq, AV.own.injEq, AV.list.injEq, Value.int.injEq, Value.bool.injEq, true_and, and_true]; first | omega | (simp; done)) | (simp; done) | (simp; omega)) (by (repeat' (first | exact Hp.le_emp _ | exact Hp.le_refl _ | refine Hp.le_upd ?_ ?_)); all_goals (first | rfl | (simp only [go_sem]; first | rfl | (refine cellsE ?_ ?_ <;> (simp)) | (simp))))
    · obtain ⟨q1, q2⟩ := hB1 (by have := hspc.1; have := hspc.2; omega)
      refine ⟨ws ++ [y], hnew (by assumption) (by assumption), by simp; omega, ?_⟩
      rw [q1, q2, List.length_append, List.length_singleton, List.length_append, ey]
      exact Sub.toL (by simp only [go_sem] <;> first | trivial | (simp only [Option.some.injEq, AV.v.injEq, AV.own.injEq, AV.list.injEq, Value.int.injEq, Value.bool.injEq, true_and, and_true]; first | omega | (simp; done)) | (simp; done) | (simp; omega)) (by (repeat' (first | exact Hp.le_emp _ | exact Hp.le_refl _ | refine Hp.le_upd ?_ ?_)); all_goals (first | rfl | (simp only [go_sem]; first | rfl | (refine cellsE ?_ ?_ <;> (simp)) | (simp))))
    · have e := hexn (by assumption) (by first | assumption | (rw [Bool.not_eq_true]; assumption) | (intro hh; simp [hh] at *; done))
      exact end_retIB_nil' rfl rfl rfl e (by decide) rfl
    all_goals
      have e := hexi (by assumption)
      (first | refine end_retIB' rfl rfl rfl rfl ?_ (by decide) rfl rfl | refine end_retIB_nil' rfl rfl rfl ?_ (by decide) rfl)
      rw [e]
      first
      | (rw [if_pos (by omega)]; done)
      | (rw [if_neg (by omega), if_pos (by omega)]; done)
      | (rw [if_neg (by omega), if_neg (by omega)]; done)
end Go.Proofs.YticbabpajligbaaDoor
end

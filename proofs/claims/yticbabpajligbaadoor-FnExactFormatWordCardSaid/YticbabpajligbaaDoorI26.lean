import Derived.Test.YticbabpajligbaaDoorI24
import Derived.Test.YticbabpajligbaaDoorI25
import Derived.Test.YticbabpajligbaaDoorI15
import Derived.Test.YticbabpajligbaaDoorI13
import Derived.Test.YticbabpajligbaaDoorI4
import Derived.Test.YticbabpajligbaaDoorI17
/- FormatWord, by the program. -/
section
namespace Go.Proofs.YticbabpajligbaaDoor
open Go.Av
set_option linter.unusedSimpArgs false
set_option linter.unusedVariables false
attribute [local irreducible] AWP CallG Ob Br BrP Go.Av.Sub endQ AOps OpV AC thenA blkA opsVC opVC withA withArgs opsQ opQ CallQ withA2 withArgs2
open Go.Nt (jn jnS)
open Go.Wd (tks runs chs)
/-- A token's text. -/
def tkT (names : ByteArray) (x : Int) (n : Nat) : ByteArray :=
  let s := names.extract (max x (0 - x) - 1).toNat (max x (0 - x)).toNat
  let t := if 1 < n then s ++ fmS n else s
  if x < 0 then t ++ ⟨#[39]⟩ else t
theorem eqLetters_ok (x y : Int) : AC Tryd.prog 40 [.v (.int .i64 (x)), .v (.int .i64 (y))] Hp.emp (fun _ => false) (retV (.v (.bool (Go.Wd.kf id x y)))) := by
  refine ac_of_awp (N := ⟨_, fun _ => false, fun _ _ => rfl, true⟩) Tryd.func40 rfl (by kernel_rfl) Tryd.ntmps40 (by simp) ?_
  simp only [argsFr, List.zipIdx_cons, List.zipIdx_nil, go_sem]
  repeat' (first | refine awp_seqK fun K hK => ?_ | (refine awp_regionK 19 rfl ?_; simp only [List.map_cons, List.map_nil]; simp (maxSteps := 1000000) (dsimp := false) (implicitDefEqProofs := false) (disch := omega) only [wrap64, go_sem]) | (refine awp_regionQK 19 (by kernel_rfl) (by kernel_rfl) (by kernel_rfl) ?_; simp only [List.map_cons, List.map_nil]; simp (maxSteps := 1000000) (dsimp := false) (implicitDefEqProofs := false) (disch := omega) only [wrap64, go_sem]) | refine awp_block ?_ | (refine awp_skip ?_; simp only [go_sem]) | (refine awp_exit ?_; simp only [go_sem]) | (refine awp_ret ?_; try simp only [go_sem]) | (refine awp_condP rfl ?_; try simp only [go_sem]) | (refine BrP.mk (fun h => ?_) (fun h => ?_) <;> try simp (dsimp := false) (disch := omega) only [wrap64]) | (refine Br.mk (fun h => ?_) (fun h => ?_) <;> try simp (dsimp := false) (disch := omega) only [wrap64]) | refine Ob.mk (by first | omega | (intro _ _; rfl) | trivial | (intros; trivial) | assumption | (intro i hi; have h0 : i = 0 := (by omega); subst h0; first | rfl | trivial) | (intro i hi; have h0 : i = 0 ∨ i = 1 := (by omega); rcases h0 with rfl | rfl <;> rfl) | (intro i hi; have h0 : i = 0 ∨ i = 1 ∨ i = 2 := (by omega); rcases h0 with rfl | rfl | rfl <;> rfl)) ?_ | apply_assumption -exfalso -symm)
  all_goals (first | (show endQ _ _ _ _ _ _ _; (repeat (rename (∀ (A : Fr) (H : Hp), AWP _ _ _ _ A H → _) => hK; clear hK)); (repeat (rename (Fr → Hp → Prop) => K; clear K))) | (show Exists _; (repeat (rename (∀ (A : Fr) (H : Hp), AWP _ _ _ _ A H → _) => hK; clear hK)); (repeat (rename (Fr → Hp → Prop) => K; clear K))) | skip)
  exact end_retV rfl rfl
/-- The texts of the tokens of the first k runs. -/
def tI (names : ByteArray) (rs : List (List Int)) (k : Nat) : List ByteArray := (rs.take k).flatMap fun r => (chs r.length).map fun m => tkT names (r.getD 0 0) m
def fwH (names : ByteArray) (ws : List ByteArray) : Hp := ((Hp.emp.upd 1000002 (.cells 1 fun _ => .v (.string (names)))).upd 1000005 (.cells 1 fun _ => .own 30 0 1 ws.length)).upd 30 (.cells ws.length (cM sv ByteArray.empty ws))
def rhoF (h : Nat) : Option Nat := if h = 1000002 then some 2 else if h = 1000005 then some 5 else none
theorem fwH_ne {names : ByteArray} {ws : List ByteArray} {h : Nat} (hn : fwH names ws h ≠ none) : h = 30 ∨ h = 1000005 ∨ h = 1000002 := by
  unfold fwH Hp.upd at hn
  by_cases e1 : h = 30
  · exact .inl e1
  · rw [if_neg e1] at hn
    by_cases e2 : h = 1000005
    · exact .inr (.inl e2)
    · rw [if_neg e2] at hn
      by_cases e3 : h = 1000002
      · exact .inr (.inr e3)
      · rw [if_neg e3] at hn; exact absurd rfl hn
theorem enterF {N : Cx} {A : Fr} {H : Hp} {names : ByteArray} {i m : Int} {rs : AV} (hr : rs.plain) (h24 : A.get 24 = some (.v (.int .i64 (i)))) (h23 : A.get 23 = some (.v (.int .i64 (m)))) (h22 : A.get 22 = some rs) (h5 : A.get 5 = some (.ref 5 0)) (h2 : A.get 2 = some (.ref 2 0))
    (hB : H 2 = some (.cells 1 fun _ => .v (.string (names)))) (hC : H 5 = some (.cells 1 (zF [.slice none 0 0]))) (hpn : N.pn = fun _ => false) : Sub N A H [(24, .v (.int .i64 (i))), (23, .v (.int .i64 (m))), (22, rs), (5, .ref 1000005 0), (2, .ref 1000002 0)] (fwH names []) := by
  refine Sub.layM rhoF hpn (lay_cons ⟨_, h24, .plain trivial⟩ (lay_cons ⟨_, h23, .plain trivial⟩ (lay_cons ⟨_, h22, .plain hr⟩ (lay_cons ⟨_, h5, .ref rfl⟩ (lay_cons ⟨_, h2, .ref rfl⟩ lay_nil))))) (layF_nil rfl (layF_upd (g := 5) rfl hC (fun i hi => ?_) (layF_upd (g := 2) rfl hB (fun i hi => .plain trivial) layF_emp))) (fun x y k hx hy e1 e2 => ?_)
  · obtain rfl : i = 0 := by omega
    exact .nil rfl
  · have a := fwH_ne hx
    have b := fwH_ne hy
    unfold rhoF at e1 e2
    rcases a with rfl | rfl | rfl <;> rcases b with rfl | rfl | rfl <;> simp at e1 e2 <;> omega
theorem ckB_7 : ckB 7 = false := rfl
theorem ckB_30 : ckB 30 = false := rfl
theorem ckB_A : ckB 1000002 = false := rfl
theorem ckB_B : ckB 1000005 = false := rfl
def pnF (h : Nat) : Bool := h == 1000002 || h == 1000005 || h == 1000007
theorem pnF_low {h : Nat} (hh : h < 65) : pnF h = false := by
  unfold pnF
  simp only [Bool.or_eq_false_iff, beq_eq_false_iff_ne, ne_eq]
  omega
/-- A round's frame: the boxes stay where they are. -/
abbrev N2 : Cx := { n := 65, pn := pnF, low := fun _ hh => pnF_low hh, out := false }
def fwL (names : ByteArray) (ws : List ByteArray) (r : List Int) : Hp := (fwH names ws).upd 1000007 (.cells 1 fun _ => ints r)
def fwA (i m : Int) (rs : AV) : Fr := [(24, .v (.int .i64 (i))), (23, .v (.int .i64 (m))), (22, rs), (5, .ref 1000005 0), (2, .ref 1000002 0), (7, .ref 1000007 0)]
theorem fwL_ne {names : ByteArray} {ws : List ByteArray} {r : List Int} {h : Nat} (hn : fwL names ws r h ≠ none) : h = 30 ∨ h = 1000005 ∨ h = 1000002 ∨ h = 1000007 := by
  unfold fwL at hn
  by_cases e : h = 1000007
  · exact .inr (.inr (.inr e))
  · have : (fwH names ws).upd 1000007 (.cells 1 fun _ => ints r) h = fwH names ws h := if_neg e
    rw [this] at hn
    rcases fwH_ne hn with h | h | h
    · exact .inl h
    · exact .inr (.inl h)
    · exact .inr (.inr (.inl h))
theorem fwL_cells {names : ByteArray} {ws : List ByteArray} {r : List Int} {h : Nat} {B : Blk} (hB : fwL names ws r h = some B) : ∃ n f, B = .cells n f := by
  unfold fwL fwH Hp.upd at hB
  by_cases e0 : h = 1000007
  · rw [if_pos e0] at hB; exact ⟨_, _, (Option.some.inj hB).symm⟩
  · rw [if_neg e0] at hB
    by_cases e1 : h = 30
    · rw [if_pos e1] at hB; exact ⟨_, _, (Option.some.inj hB).symm⟩
    · rw [if_neg e1] at hB
      by_cases e2 : h = 1000005
      · rw [if_pos e2] at hB; exact ⟨_, _, (Option.some.inj hB).symm⟩
      · rw [if_neg e2] at hB
        by_cases e3 : h = 1000002
        · rw [if_pos e3] at hB; exact ⟨_, _, (Option.some.inj hB).symm⟩
        · rw [if_neg e3] at hB; cases hB
def rhoG9 (h : Nat) : Option Nat := if h = 1000007 then some 7 else some h
theorem Fr.all_get {p : AV → Prop} : ∀ (A : Fr), (∀ x ∈ A, p x.2) → ∀ i a, A.get i = some a → p a
  | [], _, i, a, h => by simp [Fr.get] at h
  | (k, b) :: r, hA, i, a, h => by
    simp only [Fr.get] at h
    split at h
    · simp only [Option.some.injEq] at h; subst h; exact hA _ (List.mem_cons_self ..)
    · exact Fr.all_get r (fun x hx => hA x (List.mem_cons_of_mem _ hx)) i a h
theorem fits_chunk {H : Hp} {D : Nat → Prop} (r : List Int) (j : Nat) : Fits H D (chA 99 r.length (cM iv 0 r) j) (ints ((r.drop (99 * j)).take 99)) := by
  have e : ((r.drop (99 * j)).take 99).length = min 99 (r.length - 99 * j) := by rw [List.length_take, List.length_drop]
  unfold ints chA
  rw [e]
  refine .list (fun h => by cases h) (fun i hi => trivial) (fun i hi => .ofEq ?_)
  rw [Nat.mul_one] at hi
  show iv (r.getD (99 * j + i) 0) = iv (((r.drop (99 * j)).take 99).getD i 0)
  congr 1
  simp only [List.getD_eq_getElem?_getD, List.getElem?_take, List.getElem?_drop]
  rw [if_pos (by omega)]
theorem fw_chunks {N : Cx} {id : Nat} {asg : Oper} {body : Code} {Q : Exit → Fr → Hp → Prop} {A : Fr} {H : Hp} {names : ByteArray} {ws : List ByteArray} {r : List Int} {i m : Int} {rs : AV} {F7 : Nat → AV} (T : Nat → ByteArray)
    (hrs : rs.plain) (hrc : ∀ p, rs.scrub p = rs) (hrl : 1 ≤ r.length ∧ r.length ≤ 1048576) (hN : N.n = 65) (hpn : N.pn = fun _ => false) (hout : N.out = true) (hop : asg.op = .assign (.tmp 30)) (had : asg.dst = some 8) (hag : asg.guard = none)
    (h29 : A.get 29 = some (.clo 74 2 (vecF [.ref 2 0, .ref 3 0]))) (h24 : A.get 24 = some (.v (.int .i64 (i)))) (h23 : A.get 23 = some (.v (.int .i64 (m)))) (h22 : A.get 22 = some rs) (h5 : A.get 5 = some (.ref 1000005 0)) (h2 : A.get 2 = some (.ref 1000002 0)) (h7 : A.get 7 = some (.ref 7 0))
    (g2 : H 2 = some (.cells 1 fun _ => ints r)) (g3 : H 3 = some (.cells 1 fun _ => .v (.int .i64 (99)))) (g7 : H 7 = some (.cells 1 F7)) (e7 : F7 0 = ints r) (gA : H 1000002 = some (.cells 1 fun _ => .v (.string (names)))) (gB : H 1000005 = some (.cells 1 fun _ => .own 30 0 1 ws.length)) (gC : H 30 = some (.cells ws.length (cM sv ByteArray.empty ws)))
    (hbody : ∀ (pre : List Nat) (j : Nat), pre.length < nch 99 r.length → AWP Tryd.prog N2 body (fun e A H => e = .normal ∧ Sub N2 A H [] (fwL names (ws ++ (pre ++ [j]).map T) r)) ((8, ints ((r.drop (99 * j)).take 99)) :: fwA i m rs) (fwL names (ws ++ pre.map T) r))
    (hdone : Q .normal (fwA i m rs) (fwL names (ws ++ (List.range (nch 99 r.length)).map T) r)) : AWP Tryd.prog N (.rangeFunc (.tmp 29) #[30] (.region id #[asg] false) body) Q A H := by
  have hsub : Sub N A H ((29, .clo 74 2 (vecF [.ref 2 0, .ref 3 0])) :: fwA i m rs) (((fwL names ws r).upd 2 (.cells 1 fun _ => ints r)).upd 3 (.cells 1 fun _ => .v (.int .i64 (99)))) := by
    refine Sub.layM rhoG9 hpn (lay_cons ⟨_, h29, .clo fun i hi => ?_⟩ (lay_cons ⟨_, h24, .plain trivial⟩ (lay_cons ⟨_, h23, .plain trivial⟩ (lay_cons ⟨_, h22, .plain hrs⟩ (lay_cons ⟨_, h5, .ref rfl⟩ (lay_cons ⟨_, h2, .ref rfl⟩ (lay_cons ⟨_, h7, .ref rfl⟩ lay_nil)))))))
      (layF_upd (g := 3) rfl g3 (fun _ _ => .plain trivial) (layF_upd (g := 2) rfl g2 (fun _ _ => .plain trivial) (layF_upd (g := 7) rfl g7 (fun i hi => ?_) (layF_upd (g := 30) rfl gC (fun _ _ => .plain trivial) (layF_upd (g := 1000005) rfl gB (fun _ _ => .own rfl) (layF_upd (g := 1000002) rfl gA (fun _ _ => .plain trivial) layF_emp)))))) (fun x y k hx hy e1 e2 => ?_)
    · match i, hi with
      | 0, _ => exact .ref rfl
      | 1, _ => exact .ref rfl
    · obtain rfl : i = 0 := by omega
      rw [e7]; exact .plain trivial
    · have live : ∀ x, (((fwL names ws r).upd 2 (.cells 1 fun _ => ints r)).upd 3 (.cells 1 fun _ => .v (.int .i64 (99)))) x ≠ none → x ≠ 7 := fun x hx e => by
        subst e
        exact hx rfl
      have a := live x hx
      have b := live y hy
      unfold rhoG9 at e1 e2
      split at e1 <;> split at e2 <;> simp only [Option.some.injEq] at e1 e2 <;> omega
  refine awp_sub hsub (awp_chunks (N' := N2) (u := 8) (h1 := 2) (o1 := 0) (h2 := 3) (o2 := 0) (nn := false) (len := r.length) (f := cM iv 0 r) (fwA i m rs) (fun pre => fwL names (ws ++ pre.map T) r) chunk_it (by kernel_rfl) hout hN.symm rfl (fun h hh => by rw [hpn] at hh; cases hh) (by rw [hN]; decide) (by rw [hN]; decide) hop had hag rfl rfl rfl rfl (by decide) rfl hrl rfl (by decide) rfl ?_ ?_ ?_ rfl rfl (fun pre h kv hh => by obtain ⟨n, f, e⟩ := fwL_cells hh; cases e) (fun pre j hp => ?_) hdone)
  · exact Fr.sub_get _ _ ⟨rfl, rfl, rfl, rfl, rfl, rfl, trivial⟩
  · refine Fr.all_get _ ?_
    unfold fwA
    simp only [List.forall_mem_cons]
    exact ⟨rfl, rfl, hrc _, rfl, rfl, rfl, fun _ h => by cases h⟩
  · intro h B hB
    have e : fwL names (ws ++ [].map T) r = fwL names ws r := by rw [List.map_nil, List.append_nil]
    rw [e] at hB
    have hn : h ≠ 2 ∧ h ≠ 3 := by
      have := fwL_ne (h := h) (by rw [hB]; simp)
      omega
    show Hp.upd _ _ _ h = _
    unfold Hp.upd
    rw [if_neg hn.2, if_neg hn.1]
    exact hB
  · refine awp_sub (Sub.toFF (fun _ => False) (Fr.fit_cons rfl (fits_chunk r j) (Fr.fit_cons rfl (.refl _) (Fr.fit_cons rfl (.refl _) (Fr.fit_cons rfl (.refl _) (Fr.fit_cons rfl (.refl _) (Fr.fit_cons rfl (.refl _) (Fr.fit_cons rfl (.refl _) (Fr.fit_nil _)))))))) (fun x B h => ⟨fun h => h, B, h, BFits.refl _ _ _⟩)) (hbody pre j hp)
theorem tI_len (names : ByteArray) (rs : List (List Int)) (k : Nat) : (tI names rs k).length ≤ rs.flatten.length := by
  have key : ∀ l : List (List Int), (l.flatMap fun r => (chs r.length).map fun m => tkT names (r.getD 0 0) m).length ≤ l.flatten.length := by
    intro l
    induction l with
    | nil => simp
    | cons a l ih =>
      have : (chs a.length).length ≤ a.length := by unfold chs nch; rw [List.length_map, List.length_range]; omega
      rw [List.flatMap_cons, List.flatten_cons, List.length_append, List.length_append, List.length_map]
      omega
  have h1 := key (rs.take k)
  have h2 : (rs.take k).flatten.length ≤ rs.flatten.length := by
    have := congrArg (fun l => l.flatten.length) (List.take_append_drop k rs)
    simp only [List.flatten_append, List.length_append] at this
    omega
  unfold tI; omega
theorem tI_succ {names : ByteArray} {rs : List (List Int)} {k : Nat} (hk : k < rs.length) : tI names rs (k + 1) = tI names rs k ++ (List.range (nch 99 (rs.getD k []).length)).map fun j => tkT names ((rs.getD k []).getD 0 0) (min 99 ((rs.getD k []).length - 99 * j)) := by
  unfold tI
  rw [List.take_add_one, List.getElem?_eq_getElem hk, List.flatMap_append]
  congr 1
  simp only [Option.toList_some, List.flatMap_cons, List.flatMap_nil, List.append_nil]
  have e : rs.getD k [] = rs[k] := by simp [List.getD_eq_getElem?_getD, hk]
  rw [e]
  unfold chs
  rw [List.map_map]
  rfl
theorem tkT_size (names : ByteArray) (hn : names.size ≤ 8) (x : Int) (n : Nat) : (tkT names x n).size ≤ 12 := by
  have h1 : (names.extract (max x (0 - x) - 1).toNat (max x (0 - x)).toNat).size ≤ 8 := by rw [ByteArray.size_extract]; omega
  have h2 := fmS_size n
  have h3 : (⟨#[39]⟩ : ByteArray).size = 1 := rfl
  unfold tkT
  dsimp only
  split <;> split <;> (try rw [ByteArray.size_append]) <;> (try rw [ByteArray.size_append]) <;> omega
theorem sumS_mul {c : Nat} : ∀ (l : List ByteArray), (∀ x ∈ l, x.size ≤ c) → Go.Nt.sumS l ≤ (c + 1) * l.length
  | [], _ => by simp [Go.Nt.sumS]
  | a :: l, h => by
    have h1 := sumS_mul l fun x hx => h x (List.mem_cons_of_mem _ hx)
    have h2 := h a (List.mem_cons_self ..)
    simp only [Go.Nt.sumS, List.map_cons, List.sum_cons, List.length_cons] at h1 ⊢
    rw [Nat.mul_succ]
    omega
theorem fits_Ss {H : Hp} {D : Nat → Prop} {h : Nat} {ws : List ByteArray} (hH : H h = some (.cells ws.length (cM sv ByteArray.empty ws))) (hD : D h) : Fits H D (.own h 0 1 ws.length) (strs ws) :=
  .own hH hD (by omega) (fun _ _ => trivial) fun i hi => by rw [Nat.zero_add]; exact .refl _
theorem fw_back {A : Fr} {H : Hp} {names X : ByteArray} {vs us : List ByteArray} {r : List Int} {F5 G : Nat → AV} {p : Nat → Bool} (eu : us = vs ++ [X]) (hB : H 1000002 = some (.cells 1 fun _ => .v (.string (names)))) (hC : H 1000005 = some (.cells 1 F5)) (hF5 : F5 0 = .own 30 0 1 (vs.length + 1))
    (hR : H 30 = some (.cells (vs.length + 1) (apF vs.length (scF p (cM sv ByteArray.empty vs)) (scF p G)))) (hG : G 0 = .v (.string (X))) (h7 : H 1000007 = some (.cells 1 fun _ => ints r)) : Sub N2 A H [] (fwL names us r) := by
  have el : us.length = vs.length + 1 := by rw [eu, List.length_append]; rfl
  refine Sub.toFF (fun _ => False) (Fr.fit_nil _) (leF_upd h7 (bfE rfl fun _ _ => rfl) (leF_upd hR (bfE el.symm fun i hi => ?_) (leF_upd hC (bfE rfl fun i hi => ?_) (leF_upd hB (bfE rfl fun _ _ => rfl) leF_emp id) id) id) id)
  · rw [eu]
    unfold apF cM
    by_cases h : i < vs.length
    · rw [if_pos h]
      show (sv (vs.getD i _)).scrub p = _
      simp [List.getD_eq_getElem?_getD, List.getElem?_append_left h, sv, AV.scrub]
    · have : i = vs.length := by omega
      subst this
      rw [if_neg h, Nat.sub_self]
      show (G 0).scrub p = _
      rw [hG]
      simp [List.getD_eq_getElem?_getD, sv, AV.scrub]
  · obtain rfl : i = 0 := by omega
    rw [hF5, el]
theorem fw_out {N : Cx} {A : Fr} {H : Hp} {names : ByteArray} {us : List ByteArray} {i m : Int} {rs : AV} (h24 : A.get 24 = some (.v (.int .i64 (i)))) (h23 : A.get 23 = some (.v (.int .i64 (m)))) (h22 : A.get 22 = some rs) (h5 : A.get 5 = some (.ref 1000005 0)) (h2 : A.get 2 = some (.ref 1000002 0))
    (hB : H 1000002 = some (.cells 1 fun _ => .v (.string (names)))) (hC : H 1000005 = some (.cells 1 fun _ => .own 30 0 1 us.length)) (hR : H 30 = some (.cells us.length (cM sv ByteArray.empty us))) : Sub N A H [(24, .v (.int .i64 (i))), (23, .v (.int .i64 (m))), (22, rs), (5, .ref 1000005 0), (2, .ref 1000002 0)] (fwH names us) :=
  Sub.toFF (fun _ => False) (Fr.fit_cons h24 (.refl _) (Fr.fit_cons h23 (.refl _) (Fr.fit_cons h22 (.refl _) (Fr.fit_cons h5 (.refl _) (Fr.fit_cons h2 (.refl _) (Fr.fit_nil _)))))) (leF_upd hR (bfE rfl fun _ _ => rfl) (leF_upd hC (bfE rfl fun _ _ => rfl) (leF_upd hB (bfE rfl fun _ _ => rfl) leF_emp id) id) id)
/-- What FormatWord answers. -/
def fwP (names : ByteArray) (w : List Int) : ByteArray := if nmP names ∧ isW names.size w then jn ((tks w).map fun p => tkT names p.1 p.2) else ⟨#[]⟩
theorem fwP_yes {names : ByteArray} {w : List Int} (h : nmP names) (h2 : isW names.size w) : fwP names w = jn ((tks w).map fun p => tkT names p.1 p.2) := if_pos ⟨h, h2⟩
theorem fwP_no {names : ByteArray} {w : List Int} (h : ¬ (nmP names ∧ isW names.size w)) : fwP names w = ⟨#[]⟩ := if_neg h
theorem tI_all (names : ByteArray) (w : List Int) : tI names (Go.Wd.runsK (Go.Wd.kf id) w w.length) (Go.Wd.runsK (Go.Wd.kf id) w w.length).length = (tks w).map fun p => tkT names p.1 p.2 := by
  unfold tI Go.Wd.tks Go.Wd.tkR
  rw [List.take_length, List.drop_zero, List.map_flatMap]
  show _ = List.flatMap _ _
  congr 1
  funext r
  rw [List.map_map]
  rfl
theorem run_facts {g : Int} {w : List Int} {rs : List (List Int)} (ers : rs = Go.Wd.runsK (Go.Wd.kf id) w w.length) (h2 : isW g w) (k : Nat) (hk : k < rs.length) : (1 ≤ (rs.getD k []).length ∧ (rs.getD k []).length ≤ 1048576) ∧ isL g ((rs.getD k []).getD 0 0) := by
  have e : rs = Go.Wd.runs id w := ers
  subst e
  obtain ⟨h3, _, h4⟩ := Go.Wd.run_end hk
  have h5 := h3 0 h4
  rw [Nat.add_zero] at h5
  have h6 := len_flat (Go.Wd.runs id w) k
  rw [Go.Wd.runs_flat] at h6
  have h7 := h2.1
  refine ⟨⟨h4, by omega⟩, ?_⟩
  rw [← h5.2.1]; exact h2.2 _ h5.1
set_option maxHeartbeats 4000000 in
theorem implFormatWord_ok (names : ByteArray) (w : List Int) (hs : names.size ≤ 1048576) (hw : w.length ≤ 1048576) : AC Tryd.prog 10 [.v (.string (names)), ints w] Hp.emp (fun _ => false) (retV (.v (.string (fwP names w)))) := by
  have hnm := isNames_ok names (by omega)
  have hvl := implIsValidWord_ok names.size w (by omega)
  by_cases h1 : (1 ≤ names.size ∧ names.size ≤ 8) ∧ ∀ i, i < names.size → isName names i
  · rw [decide_eq_true h1] at hnm
    by_cases h2 : isW names.size w
    · rw [decide_eq_true h2] at hvl
      have hrn := runs_okA w 40 (Go.Wd.kf id) hw (fun i j _ _ => eqLetters_ok _ _)
      obtain ⟨rs, ers⟩ : ∃ rs, rs = Go.Wd.runsK (Go.Wd.kf id) w w.length := ⟨_, rfl⟩
      rw [← ers] at hrn
      have hnm := Hold.mk hnm
      have hvl := Hold.mk hvl
      have hrn := Hold.mk hrn
      refine ac_of_awp (N := ⟨_, fun _ => false, fun _ _ => rfl, true⟩) Tryd.func10 rfl (by kernel_rfl) Tryd.ntmps10 (by simp) ?_
      simp only [argsFr, List.zipIdx_cons, List.zipIdx_nil, go_sem]
      repeat' (first | refine awp_seqK fun K hK => ?_ | (refine awp_regionK 36099167437719479 rfl ?_; simp only [List.map_cons, List.map_nil]; simp (maxSteps := 1000000) (dsimp := false) (implicitDefEqProofs := false) (disch := omega) only [wrap64, go_sem]) | (refine awp_regionQK 36099167437719479 (by kernel_rfl) (by kernel_rfl) (by kernel_rfl) ?_; simp only [List.map_cons, List.map_nil]; simp (maxSteps := 1000000) (dsimp := false) (implicitDefEqProofs := false) (disch := omega) only [wrap64, go_sem]) | refine awp_block ?_ | (refine awp_skip ?_; simp only [go_sem]) | (refine awp_exit ?_; simp only [go_sem]) | (refine awp_ret ?_; try simp only [go_sem]) | (refine awp_condP rfl ?_; try simp only [go_sem]) | (refine BrP.mk (fun h => ?_) (fun h => ?_) <;> try simp (dsimp := false) (disch := omega) only [wrap64]) | (refine Br.mk (fun h => ?_) (fun h => ?_) <;> try simp (dsimp := false) (disch := omega) only [wrap64]) | refine Ob.mk (by first | omega | (intro _ _; rfl) | trivial | (intros; trivial) | assumption | (intro i hi; have h0 : i = 0 := (by omega); subst h0; first | rfl | trivial) | (intro i hi; have h0 : i = 0 ∨ i = 1 := (by omega); rcases h0 with rfl | rfl <;> rfl) | (intro i hi; have h0 : i = 0 ∨ i = 1 ∨ i = 2 := (by omega); rcases h0 with rfl | rfl | rfl <;> rfl)) ?_ | ((first | ((first | refine atF (f := 37) ?_ | refine atQ (f := 37) ?_); (first | refine cV (hfit := .cons (.refl _) .nil) (hac := hnm.h) (hK := ?_) | refine cQV (hfit := .cons (.refl _) .nil) (hac := hnm.h) (hK := ?_))) | ((first | refine atF (f := 38) ?_ | refine atQ (f := 38) ?_); (first | refine cV (hfit := .cons (.refl _) (.cons (.refl _) .nil)) (hac := hvl.h) (hK := ?_) | refine cQV (hfit := .cons (.refl _) (.cons (.refl _) .nil)) (hac := hvl.h) (hK := ?_))) | ((first | refine atF (f := 39) ?_ | refine atQ (f := 39) ?_); (refine cR (hac := hrn.h) (hs := by rfl) (hK := ?_)))); simp (maxSteps := 1000000) (dsimp := false) (implicitDefEqProofs := false) (disch := omega) only [wrap64, go_sem]) | apply_assumption -exfalso -symm)
      all_goals (first | (show endQ _ _ _ _ _ _ _; (repeat (rename (∀ (A : Fr) (H : Hp), AWP _ _ _ _ A H → _) => hK; clear hK)); (repeat (rename (Fr → Hp → Prop) => K; clear K))) | (show Exists _; (repeat (rename (∀ (A : Fr) (H : Hp), AWP _ _ _ _ A H → _) => hK; clear hK)); (repeat (rename (Fr → Hp → Prop) => K; clear K))) | skip)
      have hrl2 : rs.length ≤ w.length := by rw [ers]; exact (Go.Wd.runsK_pos _ w _).2
      have hw2 := h2.1
      refine awp_loop (ι := Nat) (fun k => [(24, .v (.int .i64 (k))), (23, .v (.int .i64 (rs.length))), (22, intss rs), (5, .ref 1000005 0), (2, .ref 1000002 0)]) (fun k => fwH names (tI names rs k)) (fun k => k ≤ rs.length) (fun k => rs.length - k) 0 (Nat.zero_le _) (enterF trivial rfl rfl rfl rfl rfl rfl rfl rfl) ?_
      intro k hk
      obtain ⟨ws, ews⟩ : ∃ ws, ws = tI names rs k := ⟨_, rfl⟩
      rw [← ews]
      unfold fwH
      have hrun := run_facts ers h2 k
      have hrl : k < rs.length → 1 ≤ (rs.getD k []).length ∧ (rs.getD k []).length ≤ 1048576 := fun h => (hrun h).1
      repeat' (first | (refine fw_chunks (names := names) (ws := ws) (r := rs.getD k []) (rs := intss rs) (fun j => tkT names ((rs.getD k []).getD 0 0) (min 99 ((rs.getD k []).length - 99 * j))) trivial (fun _ => rfl) (hrl (by omega)) rfl rfl rfl rfl rfl rfl rfl rfl rfl rfl rfl rfl rfl rfl rfl rfl rfl rfl rfl rfl ?_ ?_; rotate_left; unfold fwA fwL fwH; simp only [go_sem]; rotate_right) | refine awp_seqK fun K hK => ?_ | (refine awp_regionK 36099167437719479 rfl ?_; simp only [List.map_cons, List.map_nil]; simp (maxSteps := 1000000) (dsimp := false) (implicitDefEqProofs := false) (disch := omega) only [wrap64, go_sem, ckB_7, ckB_30, ckB_A, ckB_B, Bool.false_eq_true]) | (refine awp_regionQK 36099167437719479 (by kernel_rfl) (by kernel_rfl) (by kernel_rfl) ?_; simp only [List.map_cons, List.map_nil]; simp (maxSteps := 1000000) (dsimp := false) (implicitDefEqProofs := false) (disch := omega) only [wrap64, go_sem, ckB_7, ckB_30, ckB_A, ckB_B, Bool.false_eq_true]) | refine awp_block ?_ | (refine awp_skip ?_; simp only [go_sem, ckB_7, ckB_30, ckB_A, ckB_B, Bool.false_eq_true]) | (refine awp_exit ?_; simp only [go_sem, ckB_7, ckB_30, ckB_A, ckB_B, Bool.false_eq_true]) | (refine awp_ret ?_; try simp only [go_sem, ckB_7, ckB_30, ckB_A, ckB_B, Bool.false_eq_true]) | (refine awp_condP rfl ?_; try simp only [go_sem, ckB_7, ckB_30, ckB_A, ckB_B, Bool.false_eq_true]) | (refine BrP.mk (fun h => ?_) (fun h => ?_) <;> try simp (dsimp := false) (disch := omega) only [wrap64]) | (refine Br.mk (fun h => ?_) (fun h => ?_) <;> try simp (dsimp := false) (disch := omega) only [wrap64]) | refine Ob.mk (by first | omega | (intro _ _; rfl) | trivial | (intros; trivial) | assumption | (intro i hi; have h0 : i = 0 := (by omega); subst h0; first | rfl | trivial) | (intro i hi; have h0 : i = 0 ∨ i = 1 := (by omega); rcases h0 with rfl | rfl <;> rfl) | (intro i hi; have h0 : i = 0 ∨ i = 1 ∨ i = 2 := (by omega); rcases h0 with rfl | rfl | rfl <;> rfl)) ?_ | ((first | ((first | refine atF (f := 41) ?_ | refine atQ (f := 41) ?_); (refine callCk (hac := chunk_ok _) (fun _ => rfl) (fun _ => rfl) (fun h hh => by cases hh) ?_))); simp (maxSteps := 1000000) (dsimp := false) (implicitDefEqProofs := false) (disch := omega) only [wrap64, go_sem, ckB_7, ckB_30, ckB_A, ckB_B, Bool.false_eq_true]) | apply_assumption -exfalso -symm)
      all_goals (first | (show endQ _ _ _ _ _ _ _; (repeat (rename (∀ (A : Fr) (H : Hp), AWP _ _ _ _ A H → _) => hK; clear hK)); (repeat (rename (Fr → Hp → Prop) => K; clear K))) | (show Exists _; (repeat (rename (∀ (A : Fr) (H : Hp), AWP _ _ _ _ A H → _) => hK; clear hK)); (repeat (rename (Fr → Hp → Prop) => K; clear K))) | skip)
      · intro pre j hp
        obtain ⟨r, er⟩ : ∃ r, r = rs.getD k [] := ⟨_, rfl⟩
        have hr := hrun (by omega)
        rw [← er] at hp hr ⊢
        obtain ⟨⟨hr1, hr2⟩, hx0, hx1, hx2, hx3⟩ := hr
        obtain ⟨vs, evs⟩ : ∃ vs, vs = ws ++ pre.map (fun j => tkT names (r.getD 0 0) (min 99 (r.length - 99 * j))) := ⟨_, rfl⟩
        rw [← evs]
        have hck : ((r.drop (99 * j)).take 99).length = min 99 (r.length - 99 * j) := by rw [List.length_take, List.length_drop]
        obtain ⟨ck, eck⟩ : ∃ ck, ck = (r.drop (99 * j)).take 99 := ⟨_, rfl⟩
        rw [← eck] at hck ⊢
        obtain ⟨x, ex⟩ : ∃ x, x = r.getD 0 0 := ⟨_, rfl⟩
        have e0 : r.getD (Int.toNat 0) 0 = x := ex.symm
        rw [← ex] at hx0 hx1 hx2 hx3 ⊢
        have hvl2 : vs.length ≤ 3000000 := by
          have h5 := tI_len names rs k
          rw [← ews] at h5
          have h6 : rs.flatten = w := by rw [ers]; exact Go.Wd.runs_flat id w
          have h7 : nch 99 r.length ≤ r.length := by unfold nch; omega
          rw [evs, List.length_append, List.length_map]
          rw [h6] at h5
          omega
        have hdec := decimal_ok ck.length (by omega)
        obtain ⟨F, eF⟩ : ∃ F, F = fmS ck.length := ⟨_, rfl⟩
        have hF : F.size ≤ 3 := by rw [eF]; exact fmS_size _
        rw [← eF] at hdec
        obtain ⟨s, es⟩ : ∃ s, names.extract (max x (0 - x) - 1).toNat (max x (0 - x)).toNat = s := ⟨_, rfl⟩
        have hs1 : s.size ≤ 8 := by rw [← es, ByteArray.size_extract]; omega
        have etk : tkT names x (min 99 (r.length - 99 * j)) = if x < 0 then (if 1 < ck.length then s ++ F else s) ++ ⟨#[39]⟩ else (if 1 < ck.length then s ++ F else s) := by unfold tkT; rw [es, eF, hck]
        have hdec := Hold.mk hdec
        unfold fwA fwL fwH
        repeat' (first | refine awp_seqK fun K hK => ?_ | (refine awp_regionK 36099167437719479 rfl ?_; simp only [List.map_cons, List.map_nil]; simp (maxSteps := 1000000) (dsimp := false) (implicitDefEqProofs := false) (disch := omega) only [wrap64, go_sem, e0, es]) | (refine awp_regionQK 36099167437719479 (by kernel_rfl) (by kernel_rfl) (by kernel_rfl) ?_; simp only [List.map_cons, List.map_nil]; simp (maxSteps := 1000000) (dsimp := false) (implicitDefEqProofs := false) (disch := omega) only [wrap64, go_sem, e0, es]) | refine awp_block ?_ | (refine awp_skip ?_; simp only [go_sem, e0, es]) | (refine awp_exit ?_; simp only [go_sem, e0, es]) | (refine awp_ret ?_; try simp only [go_sem, e0, es]) | (refine awp_condP rfl ?_; try simp only [go_sem, e0, es]) | (refine BrP.mk (fun h => ?_) (fun h => ?_) <;> try simp (dsimp := false) (disch := omega) only [wrap64]) | (refine Br.mk (fun h => ?_) (fun h => ?_) <;> try simp (dsimp := false) (disch := omega) only [wrap64]) | refine Ob.mk (by first | omega | (intro _ _; rfl) | trivial | (intros; trivial) | assumption | (intro i hi; have h0 : i = 0 := (by omega); subst h0; first | rfl | trivial) | (intro i hi; have h0 : i = 0 ∨ i = 1 := (by omega); rcases h0 with rfl | rfl <;> rfl) | (intro i hi; have h0 : i = 0 ∨ i = 1 ∨ i = 2 := (by omega); rcases h0 with rfl | rfl | rfl <;> rfl)) ?_ | ((first | ((first | refine atF (f := 43) ?_ | refine atQ (f := 43) ?_); (first | (refine cV (hac := length_ok ck) (hK := ?_)) | (refine cQV (hac := length_ok ck) (hK := ?_)))) | ((first | refine atF (f := 42) ?_ | refine atQ (f := 42) ?_); (refine cV (hfit := .cons (.refl _) .nil) (hac := hdec.h) (hK := ?_)))); simp (maxSteps := 1000000) (dsimp := false) (implicitDefEqProofs := false) (disch := omega) only [wrap64, go_sem, e0, es]) | apply_assumption -exfalso -symm)
        all_goals (first | (show endQ _ _ _ _ _ _ _; (repeat (rename (∀ (A : Fr) (H : Hp), AWP _ _ _ _ A H → _) => hK; clear hK)); (repeat (rename (Fr → Hp → Prop) => K; clear K))) | (show Exists _; (repeat (rename (∀ (A : Fr) (H : Hp), AWP _ _ _ _ A H → _) => hK; clear hK)); (repeat (rename (Fr → Hp → Prop) => K; clear K))) | skip)
        all_goals first
          | (refine fw_back (X := tkT names x (min 99 (r.length - 99 * j))) ?_ rfl rfl rfl rfl ?_ rfl
             · rw [evs, ← ex, List.map_append, ← List.append_assoc]; rfl
             · rw [etk]; first | (rw [if_pos (by omega), if_pos (by omega)]; rfl) | (rw [if_pos (by omega), if_neg (by omega)]; rfl) | (rw [if_neg (by omega), if_pos (by omega)]; rfl) | (rw [if_neg (by omega), if_neg (by omega)]; rfl))
      · refine ⟨k + 1, by omega, by omega, ?_⟩
        have e := tI_succ (names := names) (rs := rs) (k := k) (by omega)
        rw [← ews] at e
        rw [e]
        exact fw_out rfl rfl rfl rfl rfl rfl rfl rfl
      · have e : k = rs.length := by omega
        subst e
        have hsz : (jn ws).size ≤ 140737488355328 ∧ ws.length ≤ 1048576 := by
          have a1 := Go.Nt.jn_size ws
          have a2 := tI_len names rs rs.length
          have a3 : rs.flatten = w := by rw [ers]; exact Go.Wd.runs_flat id w
          rw [← ews, a3] at a2
          have a4 := sumS_mul (c := 12) ws fun x hx => by
            rw [ews] at hx
            unfold tI at hx
            obtain ⟨r, _, hx⟩ := List.mem_flatMap.1 hx
            obtain ⟨m, _, rfl⟩ := List.mem_map.1 hx
            exact tkT_size names h1.1.2 _ _
          omega
        have hjn := join_ok ws hsz.2 hsz.1
        repeat' (first | refine awp_seqK fun K hK => ?_ | (refine awp_regionK 36099167437719479 rfl ?_; simp only [List.map_cons, List.map_nil]; simp (maxSteps := 1000000) (dsimp := false) (implicitDefEqProofs := false) (disch := omega) only [wrap64, go_sem]) | (refine awp_regionQK 36099167437719479 (by kernel_rfl) (by kernel_rfl) (by kernel_rfl) ?_; simp only [List.map_cons, List.map_nil]; simp (maxSteps := 1000000) (dsimp := false) (implicitDefEqProofs := false) (disch := omega) only [wrap64, go_sem]) | refine awp_block ?_ | (refine awp_skip ?_; simp only [go_sem]) | (refine awp_exit ?_; simp only [go_sem]) | (refine awp_ret ?_; try simp only [go_sem]) | (refine awp_condP rfl ?_; try simp only [go_sem]) | (refine BrP.mk (fun h => ?_) (fun h => ?_) <;> try simp (dsimp := false) (disch := omega) only [wrap64]) | (refine Br.mk (fun h => ?_) (fun h => ?_) <;> try simp (dsimp := false) (disch := omega) only [wrap64]) | refine Ob.mk (by first | omega | (intro _ _; rfl) | trivial | (intros; trivial) | assumption | (intro i hi; have h0 : i = 0 := (by omega); subst h0; first | rfl | trivial) | (intro i hi; have h0 : i = 0 ∨ i = 1 := (by omega); rcases h0 with rfl | rfl <;> rfl) | (intro i hi; have h0 : i = 0 ∨ i = 1 ∨ i = 2 := (by omega); rcases h0 with rfl | rfl | rfl <;> rfl)) ?_ | ((first | ((first | refine atF (f := 44) ?_ | refine atQ (f := 44) ?_); (refine cV (hfit := .cons (fits_Ss rfl trivial) (.cons (.refl _) .nil)) (hac := hjn) (hK := ?_)))); simp (maxSteps := 1000000) (dsimp := false) (implicitDefEqProofs := false) (disch := omega) only [wrap64, go_sem]) | apply_assumption -exfalso -symm)
        all_goals (first | (show endQ _ _ _ _ _ _ _; (repeat (rename (∀ (A : Fr) (H : Hp), AWP _ _ _ _ A H → _) => hK; clear hK)); (repeat (rename (Fr → Hp → Prop) => K; clear K))) | (show Exists _; (repeat (rename (∀ (A : Fr) (H : Hp), AWP _ _ _ _ A H → _) => hK; clear hK)); (repeat (rename (Fr → Hp → Prop) => K; clear K))) | skip)
        refine end_retV' rfl rfl ?_
        rw [fwP_yes h1 h2, ews, ers, tI_all]
    · rw [decide_eq_false h2] at hvl
      rw [fwP_no (fun h => h2 h.2)]
      have hnm := Hold.mk hnm
      have hvl := Hold.mk hvl
      clear h1 h2
      refine ac_of_awp (N := ⟨_, fun _ => false, fun _ _ => rfl, true⟩) Tryd.func10 rfl (by kernel_rfl) Tryd.ntmps10 (by simp) ?_
      simp only [argsFr, List.zipIdx_cons, List.zipIdx_nil, go_sem]
      repeat' (first | refine awp_seqK fun K hK => ?_ | (refine awp_regionK 36099167437719479 rfl ?_; simp only [List.map_cons, List.map_nil]; simp (maxSteps := 1000000) (dsimp := false) (implicitDefEqProofs := false) (disch := omega) only [wrap64, go_sem]) | (refine awp_regionQK 36099167437719479 (by kernel_rfl) (by kernel_rfl) (by kernel_rfl) ?_; simp only [List.map_cons, List.map_nil]; simp (maxSteps := 1000000) (dsimp := false) (implicitDefEqProofs := false) (disch := omega) only [wrap64, go_sem]) | refine awp_block ?_ | (refine awp_skip ?_; simp only [go_sem]) | (refine awp_exit ?_; simp only [go_sem]) | (refine awp_ret ?_; try simp only [go_sem]) | (refine awp_condP rfl ?_; try simp only [go_sem]) | (refine BrP.mk (fun h => ?_) (fun h => ?_) <;> try simp (dsimp := false) (disch := omega) only [wrap64]) | (refine Br.mk (fun h => ?_) (fun h => ?_) <;> try simp (dsimp := false) (disch := omega) only [wrap64]) | refine Ob.mk (by first | omega | (intro _ _; rfl) | trivial | (intros; trivial) | assumption | (intro i hi; have h0 : i = 0 := (by omega); subst h0; first | rfl | trivial) | (intro i hi; have h0 : i = 0 ∨ i = 1 := (by omega); rcases h0 with rfl | rfl <;> rfl) | (intro i hi; have h0 : i = 0 ∨ i = 1 ∨ i = 2 := (by omega); rcases h0 with rfl | rfl | rfl <;> rfl)) ?_ | ((first | ((first | refine atF (f := 37) ?_ | refine atQ (f := 37) ?_); (first | refine cV (hfit := .cons (.refl _) .nil) (hac := hnm.h) (hK := ?_) | refine cQV (hfit := .cons (.refl _) .nil) (hac := hnm.h) (hK := ?_))) | ((first | refine atF (f := 38) ?_ | refine atQ (f := 38) ?_); (first | refine cV (hfit := .cons (.refl _) (.cons (.refl _) .nil)) (hac := hvl.h) (hK := ?_) | refine cQV (hfit := .cons (.refl _) (.cons (.refl _) .nil)) (hac := hvl.h) (hK := ?_)))); simp (maxSteps := 1000000) (dsimp := false) (implicitDefEqProofs := false) (disch := omega) only [wrap64, go_sem]) | apply_assumption -exfalso -symm)
      all_goals (first | (show endQ _ _ _ _ _ _ _; (repeat (rename (∀ (A : Fr) (H : Hp), AWP _ _ _ _ A H → _) => hK; clear hK)); (repeat (rename (Fr → Hp → Prop) => K; clear K))) | (show Exists _; (repeat (rename (∀ (A : Fr) (H : Hp), AWP _ _ _ _ A H → _) => hK; clear hK)); (repeat (rename (Fr → Hp → Prop) => K; clear K))) | skip)
      all_goals first | exact end_retV rfl rfl
  · rw [decide_eq_false h1] at hnm
    rw [fwP_no (fun h => h1 h.1)]
    have hnm := Hold.mk hnm
    clear h1 hvl
    refine ac_of_awp (N := ⟨_, fun _ => false, fun _ _ => rfl, true⟩) Tryd.func10 rfl (by kernel_rfl) Tryd.ntmps10 (by simp) ?_
    simp only [argsFr, List.zipIdx_cons, List.zipIdx_nil, go_sem]
    repeat' (first | refine awp_seqK fun K hK => ?_ | (refine awp_regionK 36099167437719479 rfl ?_; simp only [List.map_cons, List.map_nil]; simp (maxSteps := 1000000) (dsimp := false) (implicitDefEqProofs := false) (disch := omega) only [wrap64, go_sem]) | (refine awp_regionQK 36099167437719479 (by kernel_rfl) (by kernel_rfl) (by kernel_rfl) ?_; simp only [List.map_cons, List.map_nil]; simp (maxSteps := 1000000) (dsimp := false) (implicitDefEqProofs := false) (disch := omega) only [wrap64, go_sem]) | refine awp_block ?_ | (refine awp_skip ?_; simp only [go_sem]) | (refine awp_exit ?_; simp only [go_sem]) | (refine awp_ret ?_; try simp only [go_sem]) | (refine awp_condP rfl ?_; try simp only [go_sem]) | (refine BrP.mk (fun h => ?_) (fun h => ?_) <;> try simp (dsimp := false) (disch := omega) only [wrap64]) | (refine Br.mk (fun h => ?_) (fun h => ?_) <;> try simp (dsimp := false) (disch := omega) only [wrap64]) | refine Ob.mk (by first | omega | (intro _ _; rfl) | trivial | (intros; trivial) | assumption | (intro i hi; have h0 : i = 0 := (by omega); subst h0; first | rfl | trivial) | (intro i hi; have h0 : i = 0 ∨ i = 1 := (by omega); rcases h0 with rfl | rfl <;> rfl) | (intro i hi; have h0 : i = 0 ∨ i = 1 ∨ i = 2 := (by omega); rcases h0 with rfl | rfl | rfl <;> rfl)) ?_ | ((first | ((first | refine atF (f := 37) ?_ | refine atQ (f := 37) ?_); (first | refine cV (hfit := .cons (.refl _) .nil) (hac := hnm.h) (hK := ?_) | refine cQV (hfit := .cons (.refl _) .nil) (hac := hnm.h) (hK := ?_)))); simp (maxSteps := 1000000) (dsimp := false) (implicitDefEqProofs := false) (disch := omega) only [wrap64, go_sem]) | apply_assumption -exfalso -symm)
    all_goals (first | (show endQ _ _ _ _ _ _ _; (repeat (rename (∀ (A : Fr) (H : Hp), AWP _ _ _ _ A H → _) => hK; clear hK)); (repeat (rename (Fr → Hp → Prop) => K; clear K))) | (show Exists _; (repeat (rename (∀ (A : Fr) (H : Hp), AWP _ _ _ _ A H → _) => hK; clear hK)); (repeat (rename (Fr → Hp → Prop) => K; clear K))) | skip)
    all_goals first | exact end_retV rfl rfl
end Go.Proofs.YticbabpajligbaaDoor
end
/- FormatWord, by the reference. -/
section
namespace Go.Proofs.YticbabpajligbaaDoor
open Go.Av
set_option linter.unusedSimpArgs false
set_option linter.unusedVariables false
attribute [local irreducible] AWP CallG Ob Br BrP Go.Av.Sub endQ AOps OpV AC thenA blkA opsVC opVC withA withArgs opsQ opQ CallQ withA2 withArgs2
open Go.Nt (jn jnS)
open Go.Wd (tks RL Tk)
theorem runLength_ok (w : List Int) (a n : Nat) (hw : w.length ≤ 1048576) (ha : a < w.length) (h : RL w a n) : AC Tryd.prog 35 [ints w, .v (.int .i64 (a))] Hp.emp (fun _ => false) (retV (.v (.int .i64 (n)))) := by
  obtain ⟨hle, hal, hst⟩ := h
  have hst := Hold.mk hst
  have hal := Hold.mk hal
  refine ac_of_awp (N := ⟨_, fun _ => false, fun _ _ => rfl, true⟩) Tryd.func35 rfl (by kernel_rfl) Tryd.ntmps35 (by simp) ?_
  simp only [argsFr, List.zipIdx_cons, List.zipIdx_nil, go_sem]
  repeat' (first | refine awp_seqK fun K hK => ?_ | (refine awp_regionK 268435507 rfl ?_; simp only [List.map_cons, List.map_nil]; simp (maxSteps := 1000000) (dsimp := false) (implicitDefEqProofs := false) (disch := omega) only [wrap64, go_sem]) | (refine awp_regionQK 268435507 (by kernel_rfl) (by kernel_rfl) (by kernel_rfl) ?_; simp only [List.map_cons, List.map_nil]; simp (maxSteps := 1000000) (dsimp := false) (implicitDefEqProofs := false) (disch := omega) only [wrap64, go_sem]) | refine awp_block ?_ | (refine awp_skip ?_; simp only [go_sem]) | (refine awp_exit ?_; simp only [go_sem]) | (refine awp_ret ?_; try simp only [go_sem]) | (refine awp_condP rfl ?_; try simp only [go_sem]) | (refine BrP.mk (fun h => ?_) (fun h => ?_) <;> try simp (dsimp := false) (disch := omega) only [wrap64]) | (refine Br.mk (fun h => ?_) (fun h => ?_) <;> try simp (dsimp := false) (disch := omega) only [wrap64]) | refine Ob.mk (by first | omega | (intro _ _; rfl) | trivial | (intros; trivial) | assumption | (intro i hi; have h0 : i = 0 := (by omega); subst h0; first | rfl | trivial) | (intro i hi; have h0 : i = 0 ∨ i = 1 := (by omega); rcases h0 with rfl | rfl <;> rfl) | (intro i hi; have h0 : i = 0 ∨ i = 1 ∨ i = 2 := (by omega); rcases h0 with rfl | rfl | rfl <;> rfl)) ?_ | apply_assumption -exfalso -symm)
  all_goals (first | (show endQ _ _ _ _ _ _ _; (repeat (rename (∀ (A : Fr) (H : Hp), AWP _ _ _ _ A H → _) => hK; clear hK)); (repeat (rename (Fr → Hp → Prop) => K; clear K))) | (show Exists _; (repeat (rename (∀ (A : Fr) (H : Hp), AWP _ _ _ _ A H → _) => hK; clear hK)); (repeat (rename (Fr → Hp → Prop) => K; clear K))) | skip)
  refine awp_loop (ι := Nat) (fun k => [(5, .v (.int .i64 (k))), (0, .list false 1 (w).length (cM iv 0 (w))), (1, .v (.int .i64 (a)))]) (fun k => Hp.emp) (fun k => k ≤ n) (fun k => n - k) 0 ?_ (Sub.toL (by simp only [go_sem] <;> first | trivial | (simp only [Option.some.injEq, AV.v.injEq, AV.own.injEq, AV.list.injEq, Value.int.injEq, Value.bool.injEq, true_and, and_true]; first | omega | (simp; done)) | (simp; done) | (simp; omega)) (by (repeat' (first | exact Hp.le_emp _ | exact Hp.le_refl _ | refine Hp.le_upd ?_ ?_)); all_goals (first | rfl | (simp only [go_sem]; first | rfl | (refine cellsE ?_ ?_ <;> (simp)) | (simp))))) ?_
  · exact Nat.zero_le _
  intro k hk
  have e1 : ((a : Int) + (k : Int)).toNat = a + k := by omega
  repeat' (first | refine awp_seqK fun K hK => ?_ | (refine awp_regionK 268435507 rfl ?_; simp only [List.map_cons, List.map_nil]; simp (maxSteps := 1000000) (dsimp := false) (implicitDefEqProofs := false) (disch := omega) only [wrap64, go_sem, e1]) | (refine awp_regionQK 268435507 (by kernel_rfl) (by kernel_rfl) (by kernel_rfl) ?_; simp only [List.map_cons, List.map_nil]; simp (maxSteps := 1000000) (dsimp := false) (implicitDefEqProofs := false) (disch := omega) only [wrap64, go_sem, e1]) | refine awp_block ?_ | (refine awp_skip ?_; simp only [go_sem, e1]) | (refine awp_exit ?_; simp only [go_sem, e1]) | (refine awp_ret ?_; try simp only [go_sem, e1]) | (refine awp_condP rfl ?_; try simp only [go_sem, e1]) | (refine BrP.mk (fun h => ?_) (fun h => ?_) <;> try simp (dsimp := false) (disch := omega) only [wrap64]) | (refine Br.mk (fun h => ?_) (fun h => ?_) <;> try simp (dsimp := false) (disch := omega) only [wrap64]) | refine Ob.mk (by first | omega | (intro _ _; rfl) | trivial | (intros; trivial) | assumption | (intro i hi; have h0 : i = 0 := (by omega); subst h0; first | rfl | trivial) | (intro i hi; have h0 : i = 0 ∨ i = 1 := (by omega); rcases h0 with rfl | rfl <;> rfl) | (intro i hi; have h0 : i = 0 ∨ i = 1 ∨ i = 2 := (by omega); rcases h0 with rfl | rfl | rfl <;> rfl)) ?_ | apply_assumption -exfalso -symm)
  all_goals (first | (show endQ _ _ _ _ _ _ _; (repeat (rename (∀ (A : Fr) (H : Hp), AWP _ _ _ _ A H → _) => hK; clear hK)); (repeat (rename (Fr → Hp → Prop) => K; clear K))) | (show Exists _; (repeat (rename (∀ (A : Fr) (H : Hp), AWP _ _ _ _ A H → _) => hK; clear hK)); (repeat (rename (Fr → Hp → Prop) => K; clear K))) | skip)
  · have : k < n := by
      by_cases e : k < n
      · exact e
      · have e : k = n := by omega
        subst e
        exact absurd ‹w.getD (a + k) 0 = w.getD a 0› (hst.h (by omega) (by omega))
    refine ⟨k + 1, ?_, ?_, Sub.toL (by simp only [go_sem] <;> first | trivial | (simp only [Option.some.injEq, AV.v.injEq, AV.own.injEq, AV.list.injEq, Value.int.injEq, Value.bool.injEq, true_and, and_true]; first | omega | (simp; done)) | (simp; done) | (simp; omega)) (by (repeat' (first | exact Hp.le_emp _ | exact Hp.le_refl _ | refine Hp.le_upd ?_ ?_)); all_goals (first | rfl | (simp only [go_sem]; first | rfl | (refine cellsE ?_ ?_ <;> (simp)) | (simp))))⟩
    all_goals omega
  all_goals
    refine end_retV' rfl rfl ?_
    have : k = n := by
      by_cases e : k < n
      · have := hal.h k e
        first | omega | exact absurd this.2 ‹¬w.getD (a + k) 0 = w.getD a 0›
      · omega
    rw [this]
theorem tk_drop {w : List Int} {a : Nat} {ts : List (Int × Nat)} {j : Nat} (h : Tk w a (ts.drop j)) (hj : j < ts.length) : a < w.length ∧ w.getD a 0 = (ts.getD j (0, 0)).1 ∧ 1 ≤ (ts.getD j (0, 0)).2 ∧ RL w a (ts.getD j (0, 0)).2 ∧ Tk w (a + (ts.getD j (0, 0)).2) (ts.drop (j + 1)) := by
  rw [List.drop_eq_getElem_cons hj] at h
  have e : ts.getD j (0, 0) = ts[j] := by simp [List.getD_eq_getElem?_getD, hj]
  rw [e]
  exact h
theorem tk_len {w : List Int} : ∀ (ts : List (Int × Nat)) (a : Nat), Tk w a ts → a + ts.length ≤ w.length
  | [], a, h => by rw [show a = w.length from h]; exact Nat.le_refl _
  | (x, n) :: ts, a, ⟨h1, h2, h3, h4, h5⟩ => by
    have := tk_len ts _ h5
    rw [List.length_cons]; omega
theorem jnS_small {ws : List ByteArray} (h : ∀ j, (ws.getD j ByteArray.empty).size ≤ 12) : ∀ k, (jnS ⟨#[32]⟩ ws k).size ≤ 13 * k
  | 0 => Nat.zero_le _
  | k + 1 => by
    have h1 := jnS_small h k
    have h2 := h k
    have h3 : (⟨#[32]⟩ : ByteArray).size = 1 := rfl
    unfold jnS
    rw [ByteArray.size_append]
    split <;> (try rw [ByteArray.size_append]) <;> omega
set_option maxHeartbeats 4000000 in
theorem specFormatWord_ok (names : ByteArray) (w : List Int) (hs : names.size ≤ 1048576) (hw : w.length ≤ 1048576) : AC Tryd.prog 8 [.v (.string (names)), ints w] Hp.emp (fun _ => false) (retV (.v (.string (fwP names w)))) := by
  have hnm := isNameString_ok names hs
  have hvl := specIsValidWord_ok names.size w
  by_cases h1 : nmP names
  · rw [decide_eq_true h1] at hnm
    by_cases h2 : isW names.size w
    · rw [decide_eq_true h2] at hvl
      have hw2 := h2.1
      have hTk := Go.Wd.tks_tk w
      rw [fwP_yes h1 h2]
      obtain ⟨ts, ets⟩ : ∃ ts, ts = tks w := ⟨_, rfl⟩
      rw [← ets] at hTk ⊢
      have htl := tk_len ts 0 hTk
      obtain ⟨T, eT⟩ : ∃ T, T = ts.map fun p => tkT names p.1 p.2 := ⟨_, rfl⟩
      rw [← eT]
      have hTl : T.length = ts.length := by rw [eT, List.length_map]
      have hTg : ∀ j, j < ts.length → T.getD j ByteArray.empty = tkT names (ts.getD j (0, 0)).1 (ts.getD j (0, 0)).2 := fun j hj => by rw [eT]; simp [List.getD_eq_getElem?_getD, hj]
      have hTs : ∀ j, (T.getD j ByteArray.empty).size ≤ 12 := fun j => by
        by_cases hj : j < ts.length
        · rw [hTg j hj]; exact tkT_size names h1.1.2 _ _
        · rw [List.getD_eq_getElem?_getD, List.getElem?_eq_none (by omega)]; exact Nat.zero_le _
      have hjs := fun k => jnS_small hTs k
      have hnm := Hold.mk hnm
      have hvl := Hold.mk hvl
      have hlet := Hold.mk h2.2
      have hTg := Hold.mk hTg
      clear hTs h2
      refine ac_of_awp (N := ⟨_, fun _ => false, fun _ _ => rfl, true⟩) Tryd.func8 rfl (by kernel_rfl) Tryd.ntmps8 (by simp) ?_
      simp only [argsFr, List.zipIdx_cons, List.zipIdx_nil, go_sem]
      repeat' (first | refine awp_seqK fun K hK => ?_ | (refine awp_regionK 288793326243807731 rfl ?_; simp only [List.map_cons, List.map_nil]; simp (maxSteps := 1000000) (dsimp := false) (implicitDefEqProofs := false) (disch := omega) only [wrap64, go_sem]) | (refine awp_regionQK 288793326243807731 (by kernel_rfl) (by kernel_rfl) (by kernel_rfl) ?_; simp only [List.map_cons, List.map_nil]; simp (maxSteps := 1000000) (dsimp := false) (implicitDefEqProofs := false) (disch := omega) only [wrap64, go_sem]) | refine awp_block ?_ | (refine awp_skip ?_; simp only [go_sem]) | (refine awp_exit ?_; simp only [go_sem]) | (refine awp_ret ?_; try simp only [go_sem]) | (refine awp_condP rfl ?_; try simp only [go_sem]) | (refine BrP.mk (fun h => ?_) (fun h => ?_) <;> try simp (dsimp := false) (disch := omega) only [wrap64]) | (refine Br.mk (fun h => ?_) (fun h => ?_) <;> try simp (dsimp := false) (disch := omega) only [wrap64]) | refine Ob.mk (by first | omega | (intro _ _; rfl) | trivial | (intros; trivial) | assumption | (intro i hi; have h0 : i = 0 := (by omega); subst h0; first | rfl | trivial) | (intro i hi; have h0 : i = 0 ∨ i = 1 := (by omega); rcases h0 with rfl | rfl <;> rfl) | (intro i hi; have h0 : i = 0 ∨ i = 1 ∨ i = 2 := (by omega); rcases h0 with rfl | rfl | rfl <;> rfl)) ?_ | ((first | ((first | refine atF (f := 33) ?_ | refine atQ (f := 33) ?_); (first | refine cV (hfit := .cons (.refl _) .nil) (hac := hnm.h) (hK := ?_) | refine cQV (hfit := .cons (.refl _) .nil) (hac := hnm.h) (hK := ?_))) | ((first | refine atF (f := 34) ?_ | refine atQ (f := 34) ?_); (first | refine cV (hfit := .cons (.refl _) (.cons (.refl _) .nil)) (hac := hvl.h) (hK := ?_) | refine cQV (hfit := .cons (.refl _) (.cons (.refl _) .nil)) (hac := hvl.h) (hK := ?_)))); simp (maxSteps := 1000000) (dsimp := false) (implicitDefEqProofs := false) (disch := omega) only [wrap64, go_sem]) | apply_assumption -exfalso -symm)
      all_goals (first | (show endQ _ _ _ _ _ _ _; (repeat (rename (∀ (A : Fr) (H : Hp), AWP _ _ _ _ A H → _) => hK; clear hK)); (repeat (rename (Fr → Hp → Prop) => K; clear K))) | (show Exists _; (repeat (rename (∀ (A : Fr) (H : Hp), AWP _ _ _ _ A H → _) => hK; clear hK)); (repeat (rename (Fr → Hp → Prop) => K; clear K))) | skip)
      refine awp_loop (ι := Nat × Nat) (fun z => [(6, .v (.int .i64 (z.1))), (5, .v (.string (jnS ⟨#[32]⟩ T z.2))), (0, .v (.string (names))), (1, .list false 1 (w).length (cM iv 0 (w)))]) (fun _ => Hp.emp) (fun z => z.2 ≤ ts.length ∧ Tk w z.1 (ts.drop z.2) ∧ (0 < z.1 ↔ 0 < z.2)) (fun z => ts.length - z.2) (0, 0) ⟨Nat.zero_le _, hTk, by simp⟩ (Sub.toL (by simp only [go_sem] <;> first | trivial | (simp only [Option.some.injEq, AV.v.injEq, AV.own.injEq, AV.list.injEq, Value.int.injEq, Value.bool.injEq, true_and, and_true]; first | omega | (simp; done)) | (simp; done) | (simp; omega)) (Hp.le_refl _)) ?_
      rintro ⟨a, j⟩ ⟨hj, hT, h0⟩
      dsimp only at hj hT h0 ⊢
      by_cases hA : a < w.length
      · have hj' : j < ts.length := by
          by_cases e : j < ts.length
          · exact e
          · rw [List.drop_eq_nil_of_le (by omega)] at hT
            have : a = w.length := hT
            omega
        have hjz := hjs j
        have hja : jnS ⟨#[32]⟩ T (j + 1) = (if 0 < j then jnS ⟨#[32]⟩ T j ++ ⟨#[32]⟩ else jnS ⟨#[32]⟩ T j) ++ tkT names (ts.getD j (0, 0)).1 (ts.getD j (0, 0)).2 := by rw [← hTg.h j hj']; rfl
        obtain ⟨k1, k2, k3, k4, k5⟩ := tk_drop hT hj'
        obtain ⟨n, en⟩ : ∃ n, n = (ts.getD j (0, 0)).2 := ⟨_, rfl⟩
        obtain ⟨x, ex⟩ : ∃ x, x = (ts.getD j (0, 0)).1 := ⟨_, rfl⟩
        rw [← en] at k3 k4 k5 hja
        rw [← ex] at k2 hja
        have hx : x ≠ 0 ∧ (-8 ≤ x ∧ x ≤ 8) ∧ x ≤ names.size ∧ -x ≤ names.size := by rw [← k2]; exact hlet.h a k1
        obtain ⟨S, eS⟩ : ∃ S, S = jnS ⟨#[32]⟩ T j := ⟨_, rfl⟩
        rw [← eS] at hjz hja ⊢
        have hrl := Hold.mk (runLength_ok w a n hw k1 k4)
        have hn1 : n ≤ 99 ∧ a + n ≤ w.length := ⟨k4.le, by have := tk_len _ _ k5; omega⟩
        have hjw : j ≤ 200 := by omega
        have hfi := formatInt_ok n (by omega)
        have hfs := fmS_size n
        obtain ⟨F, eF⟩ : ∃ F, F = fmS n := ⟨_, rfl⟩
        rw [← eF] at hfi hfs
        have hfi := Hold.mk hfi
        obtain ⟨s, es⟩ : ∃ s, names.extract (max x (0 - x) - 1).toNat (max x (0 - x) - 1 + 1).toNat = s := ⟨_, rfl⟩
        have hs1 : s.size ≤ 8 := by rw [← es, ByteArray.size_extract]; have := h1.1.2; omega
        have etk : tkT names x n = if x < 0 then (if 1 < n then s ++ F else s) ++ ⟨#[39]⟩ else (if 1 < n then s ++ F else s) := by unfold tkT; rw [← es, eF, show max x (0 - x) - 1 + 1 = max x (0 - x) by omega]
        rw [etk] at hja
        have hk5 := Hold.mk k5
        have hja := Hold.mk hja
        clear etk h1 hTk hT hjs k4 k5 htl eT ets hTl en ex eF eS hj hs
        repeat' (first | refine awp_seqK fun K hK => ?_ | (refine awp_regionK 288793326243807731 rfl ?_; simp only [List.map_cons, List.map_nil]; simp (maxSteps := 1000000) (dsimp := false) (implicitDefEqProofs := false) (disch := omega) only [wrap64, go_sem, k2, es]) | (refine awp_regionQK 288793326243807731 (by kernel_rfl) (by kernel_rfl) (by kernel_rfl) ?_; simp only [List.map_cons, List.map_nil]; simp (maxSteps := 1000000) (dsimp := false) (implicitDefEqProofs := false) (disch := omega) only [wrap64, go_sem, k2, es]) | refine awp_block ?_ | (refine awp_skip ?_; simp only [go_sem, k2, es]) | (refine awp_exit ?_; simp only [go_sem, k2, es]) | (refine awp_ret ?_; try simp only [go_sem, k2, es]) | (refine awp_condP rfl ?_; try simp only [go_sem, k2, es]) | (refine BrP.mk (fun h => ?_) (fun h => ?_) <;> try simp (dsimp := false) (disch := omega) only [wrap64]) | (refine Br.mk (fun h => ?_) (fun h => ?_) <;> try simp (dsimp := false) (disch := omega) only [wrap64]) | refine Ob.mk (by first | omega | (intro _ _; rfl) | trivial | (intros; trivial) | assumption | (intro i hi; have h0 : i = 0 := (by omega); subst h0; first | rfl | trivial) | (intro i hi; have h0 : i = 0 ∨ i = 1 := (by omega); rcases h0 with rfl | rfl <;> rfl) | (intro i hi; have h0 : i = 0 ∨ i = 1 ∨ i = 2 := (by omega); rcases h0 with rfl | rfl | rfl <;> rfl)) ?_ | ((first | ((first | refine atF (f := 35) ?_ | refine atQ (f := 35) ?_); (refine cV (hfit := .cons (.refl _) (.cons (.refl _) .nil)) (hac := hrl.h) (hK := ?_))) | ((first | refine atF (f := 36) ?_ | refine atQ (f := 36) ?_); (refine cV (hfit := .cons (.refl _) .nil) (hac := hfi.h) (hK := ?_)))); simp (maxSteps := 1000000) (dsimp := false) (implicitDefEqProofs := false) (disch := omega) only [wrap64, go_sem, k2, es]) | apply_assumption -exfalso -symm)
        all_goals (first | (show endQ _ _ _ _ _ _ _; (repeat (rename (∀ (A : Fr) (H : Hp), AWP _ _ _ _ A H → _) => hK; clear hK)); (repeat (rename (Fr → Hp → Prop) => K; clear K))) | (show Exists _; (repeat (rename (∀ (A : Fr) (H : Hp), AWP _ _ _ _ A H → _) => hK; clear hK)); (repeat (rename (Fr → Hp → Prop) => K; clear K))) | skip)
        all_goals first
          | (refine ⟨(a + n, j + 1), ⟨hj', hk5.h, by dsimp only; omega⟩, by dsimp only; omega, ?_⟩
             clear hx hn1 hs1 hfs k2 k3
             dsimp only
             rw [hja.h]
             (first | rw [if_pos (show 0 < j by omega)] | rw [if_neg (show ¬ 0 < j by omega)])
             (first | rw [if_pos (show x < 0 by assumption)] | rw [if_neg (show ¬ x < 0 by assumption)])
             (first | rw [if_pos (show 1 < n by omega)] | rw [if_neg (show ¬ 1 < n by omega)])
             (try simp only [← ByteArray.append_assoc])
             exact Sub.toL (by simp only [go_sem] <;> first | trivial | (simp only [Option.some.injEq, AV.v.injEq, AV.own.injEq, AV.list.injEq, Value.int.injEq, Value.bool.injEq, true_and, and_true]; first | omega | (simp; done)) | (simp; done) | (simp; omega)) (Hp.le_refl _))
          | (exfalso; omega)
      · have e : j = T.length := by
          by_cases hj' : j < ts.length
          · have := (tk_drop hT hj').1; omega
          · omega
        repeat' (first | refine awp_seqK fun K hK => ?_ | (refine awp_regionK 288793326243807731 rfl ?_; simp only [List.map_cons, List.map_nil]; simp (maxSteps := 1000000) (dsimp := false) (implicitDefEqProofs := false) (disch := omega) only [wrap64, go_sem]) | (refine awp_regionQK 288793326243807731 (by kernel_rfl) (by kernel_rfl) (by kernel_rfl) ?_; simp only [List.map_cons, List.map_nil]; simp (maxSteps := 1000000) (dsimp := false) (implicitDefEqProofs := false) (disch := omega) only [wrap64, go_sem]) | refine awp_block ?_ | (refine awp_skip ?_; simp only [go_sem]) | (refine awp_exit ?_; simp only [go_sem]) | (refine awp_ret ?_; try simp only [go_sem]) | (refine awp_condP rfl ?_; try simp only [go_sem]) | (refine BrP.mk (fun h => ?_) (fun h => ?_) <;> try simp (dsimp := false) (disch := omega) only [wrap64]) | (refine Br.mk (fun h => ?_) (fun h => ?_) <;> try simp (dsimp := false) (disch := omega) only [wrap64]) | refine Ob.mk (by first | omega | (intro _ _; rfl) | trivial | (intros; trivial) | assumption | (intro i hi; have h0 : i = 0 := (by omega); subst h0; first | rfl | trivial) | (intro i hi; have h0 : i = 0 ∨ i = 1 := (by omega); rcases h0 with rfl | rfl <;> rfl) | (intro i hi; have h0 : i = 0 ∨ i = 1 ∨ i = 2 := (by omega); rcases h0 with rfl | rfl | rfl <;> rfl)) ?_ | apply_assumption -exfalso -symm)
        all_goals (first | (show endQ _ _ _ _ _ _ _; (repeat (rename (∀ (A : Fr) (H : Hp), AWP _ _ _ _ A H → _) => hK; clear hK)); (repeat (rename (Fr → Hp → Prop) => K; clear K))) | (show Exists _; (repeat (rename (∀ (A : Fr) (H : Hp), AWP _ _ _ _ A H → _) => hK; clear hK)); (repeat (rename (Fr → Hp → Prop) => K; clear K))) | skip)
        all_goals first
          | exact end_retV' rfl rfl (by rw [e]; rfl)
          | (exfalso; omega)
    · rw [decide_eq_false h2] at hvl
      rw [fwP_no (fun h => h2 h.2)]
      have hnm := Hold.mk hnm
      have hvl := Hold.mk hvl
      clear h1 h2
      refine ac_of_awp (N := ⟨_, fun _ => false, fun _ _ => rfl, true⟩) Tryd.func8 rfl (by kernel_rfl) Tryd.ntmps8 (by simp) ?_
      simp only [argsFr, List.zipIdx_cons, List.zipIdx_nil, go_sem]
      repeat' (first | refine awp_seqK fun K hK => ?_ | (refine awp_regionK 288793326243807731 rfl ?_; simp only [List.map_cons, List.map_nil]; simp (maxSteps := 1000000) (dsimp := false) (implicitDefEqProofs := false) (disch := omega) only [wrap64, go_sem]) | (refine awp_regionQK 288793326243807731 (by kernel_rfl) (by kernel_rfl) (by kernel_rfl) ?_; simp only [List.map_cons, List.map_nil]; simp (maxSteps := 1000000) (dsimp := false) (implicitDefEqProofs := false) (disch := omega) only [wrap64, go_sem]) | refine awp_block ?_ | (refine awp_skip ?_; simp only [go_sem]) | (refine awp_exit ?_; simp only [go_sem]) | (refine awp_ret ?_; try simp only [go_sem]) | (refine awp_condP rfl ?_; try simp only [go_sem]) | (refine BrP.mk (fun h => ?_) (fun h => ?_) <;> try simp (dsimp := false) (disch := omega) only [wrap64]) | (refine Br.mk (fun h => ?_) (fun h => ?_) <;> try simp (dsimp := false) (disch := omega) only [wrap64]) | refine Ob.mk (by first | omega | (intro _ _; rfl) | trivial | (intros; trivial) | assumption | (intro i hi; have h0 : i = 0 := (by omega); subst h0; first | rfl | trivial) | (intro i hi; have h0 : i = 0 ∨ i = 1 := (by omega); rcases h0 with rfl | rfl <;> rfl) | (intro i hi; have h0 : i = 0 ∨ i = 1 ∨ i = 2 := (by omega); rcases h0 with rfl | rfl | rfl <;> rfl)) ?_ | ((first | ((first | refine atF (f := 33) ?_ | refine atQ (f := 33) ?_); (first | refine cV (hfit := .cons (.refl _) .nil) (hac := hnm.h) (hK := ?_) | refine cQV (hfit := .cons (.refl _) .nil) (hac := hnm.h) (hK := ?_))) | ((first | refine atF (f := 34) ?_ | refine atQ (f := 34) ?_); (first | refine cV (hfit := .cons (.refl _) (.cons (.refl _) .nil)) (hac := hvl.h) (hK := ?_) | refine cQV (hfit := .cons (.refl _) (.cons (.refl _) .nil)) (hac := hvl.h) (hK := ?_)))); simp (maxSteps := 1000000) (dsimp := false) (implicitDefEqProofs := false) (disch := omega) only [wrap64, go_sem]) | apply_assumption -exfalso -symm)
      all_goals (first | (show endQ _ _ _ _ _ _ _; (repeat (rename (∀ (A : Fr) (H : Hp), AWP _ _ _ _ A H → _) => hK; clear hK)); (repeat (rename (Fr → Hp → Prop) => K; clear K))) | (show Exists _; (repeat (rename (∀ (A : Fr) (H : Hp), AWP _ _ _ _ A H → _) => hK; clear hK)); (repeat (rename (Fr → Hp → Prop) => K; clear K))) | skip)
      all_goals first | exact end_retV rfl rfl
  · rw [decide_eq_false h1] at hnm
    rw [fwP_no (fun h => h1 h.1)]
    have hnm := Hold.mk hnm
    clear h1 hvl
    refine ac_of_awp (N := ⟨_, fun _ => false, fun _ _ => rfl, true⟩) Tryd.func8 rfl (by kernel_rfl) Tryd.ntmps8 (by simp) ?_
    simp only [argsFr, List.zipIdx_cons, List.zipIdx_nil, go_sem]
    repeat' (first | refine awp_seqK fun K hK => ?_ | (refine awp_regionK 288793326243807731 rfl ?_; simp only [List.map_cons, List.map_nil]; simp (maxSteps := 1000000) (dsimp := false) (implicitDefEqProofs := false) (disch := omega) only [wrap64, go_sem]) | (refine awp_regionQK 288793326243807731 (by kernel_rfl) (by kernel_rfl) (by kernel_rfl) ?_; simp only [List.map_cons, List.map_nil]; simp (maxSteps := 1000000) (dsimp := false) (implicitDefEqProofs := false) (disch := omega) only [wrap64, go_sem]) | refine awp_block ?_ | (refine awp_skip ?_; simp only [go_sem]) | (refine awp_exit ?_; simp only [go_sem]) | (refine awp_ret ?_; try simp only [go_sem]) | (refine awp_condP rfl ?_; try simp only [go_sem]) | (refine BrP.mk (fun h => ?_) (fun h => ?_) <;> try simp (dsimp := false) (disch := omega) only [wrap64]) | (refine Br.mk (fun h => ?_) (fun h => ?_) <;> try simp (dsimp := false) (disch := omega) only [wrap64]) | refine Ob.mk (by first | omega | (intro _ _; rfl) | trivial | (intros; trivial) | assumption | (intro i hi; have h0 : i = 0 := (by omega); subst h0; first | rfl | trivial) | (intro i hi; have h0 : i = 0 ∨ i = 1 := (by omega); rcases h0 with rfl | rfl <;> rfl) | (intro i hi; have h0 : i = 0 ∨ i = 1 ∨ i = 2 := (by omega); rcases h0 with rfl | rfl | rfl <;> rfl)) ?_ | ((first | ((first | refine atF (f := 33) ?_ | refine atQ (f := 33) ?_); (first | refine cV (hfit := .cons (.refl _) .nil) (hac := hnm.h) (hK := ?_) | refine cQV (hfit := .cons (.refl _) .nil) (hac := hnm.h) (hK := ?_)))); simp (maxSteps := 1000000) (dsimp := false) (implicitDefEqProofs := false) (disch := omega) only [wrap64, go_sem]) | apply_assumption -exfalso -symm)
    all_goals (first | (show endQ _ _ _ _ _ _ _; (repeat (rename (∀ (A : Fr) (H : Hp), AWP _ _ _ _ A H → _) => hK; clear hK)); (repeat (rename (Fr → Hp → Prop) => K; clear K))) | (show Exists _; (repeat (rename (∀ (A : Fr) (H : Hp), AWP _ _ _ _ A H → _) => hK; clear hK)); (repeat (rename (Fr → Hp → Prop) => K; clear K))) | skip)
    all_goals first | exact end_retV rfl rfl
end Go.Proofs.YticbabpajligbaaDoor
end

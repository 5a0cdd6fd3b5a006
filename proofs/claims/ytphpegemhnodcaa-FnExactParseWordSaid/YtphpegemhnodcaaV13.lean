import Derived.Test.YtphpegemhnodcaaV12
import Derived.Test.YtphpegemhnodcaaV6
import Derived.Test.YtphpegemhnodcaaV3
import Derived.Test.YtphpegemhnodcaaV4
/- The reference's parser of notations: its state, the bytes, the suffix. -/
section
namespace Go.Proofs.Ytphpegemhnodcaa
open Go.Av
set_option linter.unusedSimpArgs false
set_option linter.unusedVariables false
attribute [local irreducible] AWP CallG Ob Br BrP Go.Av.Sub endQ AOps OpV AC thenA blkA opsVC opVC withA withArgs opsQ opQ CallQ withA2 withArgs2
open Go.Nt (Nd nd0 kd li liF dig pInv pSuf pItem pSeq Pr Goes)
/-- The parser's state, its nodes lying in a row of our own. -/
abbrev ps (names s : ByteArray) (p : Nat) (l : List Nd) (w : Int) : AV := .agg 5 (vecF [.v (.string (names)), .v (.string (s)), .v (.int .i64 ((p : Nat))), .own 1000000 0 6 l.length, .v (.int .i64 (w))])
/-- .. of which only the text and the place are looked at. -/
abbrev pd (s : ByteArray) (p : Nat) : AV := .agg 5 (vecF [.dead, .v (.string (s)), .v (.int .i64 ((p : Nat))), .dead, .dead])
abbrev hN (l : List Nd) : Hp := Hp.emp.upd 1000000 (.cells (l.length * 6) (ndF l))
theorem all5 {p : Nat → Prop} (h0 : p 0) (h1 : p 1) (h2 : p 2) (h3 : p 3) (h4 : p 4) : ∀ i, i < 5 → p i := fun i hi => by
  match i, hi with
  | 0, _ => exact h0
  | 1, _ => exact h1
  | 2, _ => exact h2
  | 3, _ => exact h3
  | 4, _ => exact h4
theorem scF_ndF (p : Nat → Bool) (xs : List Nd) : scF p (ndF xs) = ndF xs := by
  funext j
  exact (ndF_plain xs j).2 p
theorem fits_pd {H : Hp} {D : Nat → Prop} {g : Nat → AV} {s : ByteArray} {p : Nat} (h1 : g 1 = .v (.string (s))) (h2 : g 2 = .v (.int .i64 ((p : Nat)))) : Fits H D (.agg 5 g) (pd s p) := by
  refine .agg fun i hi => ?_
  match i, hi with
  | 0, _ => exact .dead _
  | 1, _ => rw [h1]; exact .refl _
  | 2, _ => rw [h2]; exact .refl _
  | 3, _ => exact .dead _
  | 4, _ => exact .dead _
theorem currentByte_ok (s : ByteArray) (p : Nat) (hp : p ≤ s.size) (hs : s.size ≤ 1048576) : AC Try.prog 181 [pd s p] Hp.emp (fun _ => false) (retV (.v (.int .u8 (Go.Nt.bt s p : Nat)))) := by
  have e : (p : Int) < s.size → Go.Nt.bt s p = (s.data.toList.getD p 0).toNat := fun h => if_pos (by omega)
  have e0 : ¬ (p : Int) < s.size → Go.Nt.bt s p = 0 := fun h => if_neg (by omega)
  refine ac_of_awp (N := ⟨_, fun _ => false, fun _ _ => rfl⟩) Try.func181 rfl (by kernel_rfl) Try.ntmps181 (by simp) ?_
  simp only [argsFr, List.zipIdx_cons, List.zipIdx_nil, go_sem]
  repeat' (first | refine awp_seqK fun K hK => ?_ | (refine awp_regionK 263 rfl ?_; simp only [List.map_cons, List.map_nil]; simp (maxSteps := 1000000) (dsimp := false) (implicitDefEqProofs := false) (disch := omega) only [wrap64, go_sem]) | (refine awp_regionQK 263 (by kernel_rfl) (by kernel_rfl) (by kernel_rfl) ?_; simp only [List.map_cons, List.map_nil]; simp (maxSteps := 1000000) (dsimp := false) (implicitDefEqProofs := false) (disch := omega) only [wrap64, go_sem]) | refine awp_block ?_ | (refine awp_skip ?_; simp only [go_sem]) | (refine awp_exit ?_; simp only [go_sem]) | (refine awp_ret ?_; try simp only [go_sem]) | (refine awp_condP rfl ?_; try simp only [go_sem]) | (refine BrP.mk (fun h => ?_) (fun h => ?_) <;> try simp (dsimp := false) (disch := omega) only [wrap64]) | (refine Br.mk (fun h => ?_) (fun h => ?_) <;> try simp (dsimp := false) (disch := omega) only [wrap64]) | refine Ob.mk (by first | omega | (intro _ _; rfl) | trivial | (intros; trivial) | assumption | (intro i hi; have h0 : i = 0 := (by omega); subst h0; first | rfl | trivial) | (intro i hi; have h0 : i = 0 ∨ i = 1 := (by omega); rcases h0 with rfl | rfl <;> rfl) | (intro i hi; have h0 : i = 0 ∨ i = 1 ∨ i = 2 := (by omega); rcases h0 with rfl | rfl | rfl <;> rfl)) ?_ | apply_assumption -exfalso -symm)
  all_goals (first | (show endQ _ _ _ _ _ _ _; (repeat (rename (∀ (A : Fr) (H : Hp), AWP _ _ _ _ A H → _) => hK; clear hK)); (repeat (rename (Fr → Hp → Prop) => K; clear K))) | (show Exists _; (repeat (rename (∀ (A : Fr) (H : Hp), AWP _ _ _ _ A H → _) => hK; clear hK)); (repeat (rename (Fr → Hp → Prop) => K; clear K))) | skip)
  · exact end_retV' rfl rfl (by rw [e (by assumption)])
  · exact end_retV' rfl rfl (by rw [e0 (by assumption)]; rfl)
theorem atDigit_ok (s : ByteArray) (p : Nat) (hp : p ≤ s.size) (hs : s.size ≤ 1048576) : AC Try.prog 248 [pd s p] Hp.emp (fun _ => false) (retV (.v (.bool (decide (48 ≤ Go.Nt.bt s p ∧ Go.Nt.bt s p ≤ 57))))) := by
  refine ac_of_awp (N := ⟨_, fun _ => false, fun _ _ => rfl⟩) Try.func248 rfl (by kernel_rfl) Try.ntmps248 (by simp) ?_
  simp only [argsFr, List.zipIdx_cons, List.zipIdx_nil, go_sem]
  repeat' (first | refine awp_seqK fun K hK => ?_ | (refine awp_regionK 7 rfl ?_; simp only [List.map_cons, List.map_nil]; simp (maxSteps := 1000000) (dsimp := false) (implicitDefEqProofs := false) (disch := omega) only [wrap64, go_sem]) | (refine awp_regionQK 7 (by kernel_rfl) (by kernel_rfl) (by kernel_rfl) ?_; simp only [List.map_cons, List.map_nil]; simp (maxSteps := 1000000) (dsimp := false) (implicitDefEqProofs := false) (disch := omega) only [wrap64, go_sem]) | refine awp_block ?_ | (refine awp_skip ?_; simp only [go_sem]) | (refine awp_exit ?_; simp only [go_sem]) | (refine awp_ret ?_; try simp only [go_sem]) | (refine awp_condP rfl ?_; try simp only [go_sem]) | (refine BrP.mk (fun h => ?_) (fun h => ?_) <;> try simp (dsimp := false) (disch := omega) only [wrap64]) | (refine Br.mk (fun h => ?_) (fun h => ?_) <;> try simp (dsimp := false) (disch := omega) only [wrap64]) | refine Ob.mk (by first | omega | (intro _ _; rfl) | trivial | (intros; trivial) | assumption | (intro i hi; have h0 : i = 0 := (by omega); subst h0; first | rfl | trivial) | (intro i hi; have h0 : i = 0 ∨ i = 1 := (by omega); rcases h0 with rfl | rfl <;> rfl) | (intro i hi; have h0 : i = 0 ∨ i = 1 ∨ i = 2 := (by omega); rcases h0 with rfl | rfl | rfl <;> rfl)) ?_ | ((first | ((first | refine atF (f := 181) ?_ | refine atQ (f := 181) ?_); (first | (refine cV (hac := currentByte_ok s p hp hs) (hK := ?_)) | (refine cQV (hac := currentByte_ok s p hp hs) (hK := ?_))))); simp (maxSteps := 1000000) (dsimp := false) (implicitDefEqProofs := false) (disch := omega) only [wrap64, go_sem]) | apply_assumption -exfalso -symm)
  all_goals (first | (show endQ _ _ _ _ _ _ _; (repeat (rename (∀ (A : Fr) (H : Hp), AWP _ _ _ _ A H → _) => hK; clear hK)); (repeat (rename (Fr → Hp → Prop) => K; clear K))) | (show Exists _; (repeat (rename (∀ (A : Fr) (H : Hp), AWP _ _ _ _ A H → _) => hK; clear hK)); (repeat (rename (Fr → Hp → Prop) => K; clear K))) | skip)
  all_goals
    refine end_retB rfl rfl ?_
    simp only [Bool.false_eq_true, false_iff, decide_eq_true_eq]
    omega
section
variable {P : Program} {N : Cx} {A A' : Fr} {H H' : Hp}
/-- The end of a function that hands back a state. -/
theorem end_ps {fn : Func} {t : Tmp} {ty : TypeId} {h : Nat} {z : List Value} {f : Nat → AV} {names s : ByteArray} {p : Nat} {l : List Nd} {w : Int} {post : AV → Hp → Prop} (hr : fn.results.toList = [.cell t ty]) (hA : A.get t = some (.ref h 0)) (hty : tyOf P ty = some ⟨true, 5, z⟩) (hH : H h = some (.cells 5 f))
    (h0 : f 0 = .v (.string (names))) (h1 : f 1 = .v (.string (s))) (h2 : f 2 = .v (.int .i64 ((p : Nat)))) (h3 : f 3 = .own 1000000 0 6 l.length) (h4 : f 4 = .v (.int .i64 (w))) {n : Nat} {g : Nat → AV} (hl : H 1000000 = some (.cells n g)) (hn : n = l.length * 6) (hg : ∀ i, i < n → g i = ndF l i) (hne : h ≠ 1000000) (hp : post (ps names s p l w) (hN l)) : endQ P N fn post .ret A H := by
  refine end_postC hr hA hty hH (all5 h0 h1 h2 h3 h4) (leF_upd hl (bfE hn hg) leF_emp id) ?_ hp
  unfold Hp.upd; rw [if_neg hne]; rfl
end
theorem failParse_ok (names s : ByteArray) (p : Nat) (l : List Nd) (w : Int) : AC Try.prog 95 [ps names s p l w] (hN l) pM (fun r H => r = ps names s p l (if w < 0 then (p : Nat) else w) ∧ H = hN l) := by
  refine ac_of_awp (N := ⟨_, pM, fun h hh => pM_low (Nat.lt_of_lt_of_le hh (by decide))⟩) Try.func95 rfl (by kernel_rfl) Try.ntmps95 (by simp) ?_
  simp only [argsFr, List.zipIdx_cons, List.zipIdx_nil, go_sem]
  repeat' (first | (refine Ob.mk (all5 rfl rfl rfl rfl rfl) ?_) | refine awp_seqK fun K hK => ?_ | (refine awp_regionK 39 rfl ?_; simp only [List.map_cons, List.map_nil]; simp (maxSteps := 1000000) (dsimp := false) (implicitDefEqProofs := false) (disch := omega) only [wrap64, go_sem, scF_ndF]) | (refine awp_regionQK 39 (by kernel_rfl) (by kernel_rfl) (by kernel_rfl) ?_; simp only [List.map_cons, List.map_nil]; simp (maxSteps := 1000000) (dsimp := false) (implicitDefEqProofs := false) (disch := omega) only [wrap64, go_sem, scF_ndF]) | refine awp_block ?_ | (refine awp_skip ?_; simp only [go_sem, scF_ndF]) | (refine awp_exit ?_; simp only [go_sem, scF_ndF]) | (refine awp_ret ?_; try simp only [go_sem, scF_ndF]) | (refine awp_condP rfl ?_; try simp only [go_sem, scF_ndF]) | (refine BrP.mk (fun h => ?_) (fun h => ?_) <;> try simp (dsimp := false) (disch := omega) only [wrap64]) | (refine Br.mk (fun h => ?_) (fun h => ?_) <;> try simp (dsimp := false) (disch := omega) only [wrap64]) | refine Ob.mk (by first | omega | (intro _ _; rfl) | trivial | (intros; trivial) | assumption | (intro i hi; have h0 : i = 0 := (by omega); subst h0; first | rfl | trivial) | (intro i hi; have h0 : i = 0 ∨ i = 1 := (by omega); rcases h0 with rfl | rfl <;> rfl) | (intro i hi; have h0 : i = 0 ∨ i = 1 ∨ i = 2 := (by omega); rcases h0 with rfl | rfl | rfl <;> rfl)) ?_ | apply_assumption -exfalso -symm)
  all_goals (first | (show endQ _ _ _ _ _ _ _; (repeat (rename (∀ (A : Fr) (H : Hp), AWP _ _ _ _ A H → _) => hK; clear hK)); (repeat (rename (Fr → Hp → Prop) => K; clear K))) | (show Exists _; (repeat (rename (∀ (A : Fr) (H : Hp), AWP _ _ _ _ A H → _) => hK; clear hK)); (repeat (rename (Fr → Hp → Prop) => K; clear K))) | skip)
  · exact end_ps rfl rfl (by simp only [go_sem]; rfl) rfl rfl rfl rfl rfl rfl rfl rfl (fun _ _ => rfl) (by decide) ⟨by rw [if_pos (by assumption)], rfl⟩
  · exact end_ps rfl rfl (by simp only [go_sem]; rfl) rfl rfl rfl rfl rfl rfl rfl rfl (fun _ _ => rfl) (by decide) ⟨by rw [if_neg (by assumption)], rfl⟩
/-- The place and the error behind a byte that is asked for. -/
def xB (s : ByteArray) (c p : Nat) (w : Int) : Nat × Int := if Go.Nt.bt s p = c then (p + 1, w) else (p, if w < 0 then (p : Nat) else w)
section
variable {P : Program} {N : Cx} {A A' : Fr} {H H' : Hp}
theorem hN_ne {l : List Nd} {h : Nat} (hn : hN l h ≠ none) : h = 1000000 := by
  unfold hN Hp.upd at hn
  split at hn
  · assumption
  · exact absurd rfl hn
theorem hN_scr (l : List Nd) (p : Nat → Bool) : (hN l).scrub p = hN l := by
  funext h
  unfold Hp.scrub hN Hp.upd
  split
  · simp only [Option.map_some, Blk.scrub, Option.some.injEq]
    congr 1
    exact scF_ndF p l
  · rfl
/-- A call that leaves the row of nodes as it is. -/
theorem callPs {f : FuncId} {args : List AV} {names s : ByteArray} {p : Nat} {l : List Nd} {w : Int} {K : AV → Fr → Hp → Prop} (hH : H 1000000 = some (.cells (l.length * 6) (ndF l))) (hac : AC P f args (hN l) pM (fun r H => r = ps names s p l w ∧ H = hN l)) (hK : K (ps names s p l w) A H) : CallG P N f args A H K := by
  refine callPn (Hin := hN l) (fun h B hB => ?_) hac (fun h hn => by rw [hN_ne hn]; rfl) ?_ (hN_scr l _) hK
  · unfold hN Hp.upd at hB
    split at hB
    · rename_i e; subst e; rw [hH]; exact hB
    · cases hB
  · have e : liveB (hN l) 1000000 = true := rfl
    simp only [scrub_agg, scF_vecF, List.map_cons, List.map_nil, scrub_v, scrub_own, e, Bool.not_true, Bool.false_eq_true, if_false]
end
theorem expectByte_ok (names s : ByteArray) (c p : Nat) (l : List Nd) (w : Int) (hc : 0 < c) (hp : p ≤ s.size) (hs : s.size ≤ 1048576) : AC Try.prog 224 [ps names s p l w, .v (.int .u8 (c : Nat))] (hN l) pM (fun r H => r = ps names s (xB s c p w).1 l (xB s c p w).2 ∧ H = hN l) := by
  refine ac_of_awp (N := ⟨_, pM, fun h hh => pM_low (Nat.lt_of_lt_of_le hh (by decide))⟩) Try.func224 rfl (by kernel_rfl) Try.ntmps224 (by simp) ?_
  simp only [argsFr, List.zipIdx_cons, List.zipIdx_nil, go_sem]
  repeat' (first | (refine Ob.mk (all5 rfl rfl rfl rfl rfl) ?_) | refine awp_seqK fun K hK => ?_ | (refine awp_regionK 279 rfl ?_; simp only [List.map_cons, List.map_nil]; simp (maxSteps := 1000000) (dsimp := false) (implicitDefEqProofs := false) (disch := omega) only [wrap64, go_sem, scF_ndF]) | (refine awp_regionQK 279 (by kernel_rfl) (by kernel_rfl) (by kernel_rfl) ?_; simp only [List.map_cons, List.map_nil]; simp (maxSteps := 1000000) (dsimp := false) (implicitDefEqProofs := false) (disch := omega) only [wrap64, go_sem, scF_ndF]) | refine awp_block ?_ | (refine awp_skip ?_; simp only [go_sem, scF_ndF]) | (refine awp_exit ?_; simp only [go_sem, scF_ndF]) | (refine awp_ret ?_; try simp only [go_sem, scF_ndF]) | (refine awp_condP rfl ?_; try simp only [go_sem, scF_ndF]) | (refine BrP.mk (fun h => ?_) (fun h => ?_) <;> try simp (dsimp := false) (disch := omega) only [wrap64]) | (refine Br.mk (fun h => ?_) (fun h => ?_) <;> try simp (dsimp := false) (disch := omega) only [wrap64]) | refine Ob.mk (by first | omega | (intro _ _; rfl) | trivial | (intros; trivial) | assumption | (intro i hi; have h0 : i = 0 := (by omega); subst h0; first | rfl | trivial) | (intro i hi; have h0 : i = 0 ∨ i = 1 := (by omega); rcases h0 with rfl | rfl <;> rfl) | (intro i hi; have h0 : i = 0 ∨ i = 1 ∨ i = 2 := (by omega); rcases h0 with rfl | rfl | rfl <;> rfl)) ?_ | ((first | ((first | refine atF (f := 181) ?_ | refine atQ (f := 181) ?_); refine cV (hfit := .cons (fits_pd rfl rfl) .nil) (hac := currentByte_ok s p hp hs) (hK := ?_)) | ((first | refine atF (f := 95) ?_ | refine atQ (f := 95) ?_); refine callPs rfl (failParse_ok names s p l w) ?_)); simp (maxSteps := 1000000) (dsimp := false) (implicitDefEqProofs := false) (disch := omega) only [wrap64, go_sem, scF_ndF]) | apply_assumption -exfalso -symm)
  all_goals (first | (show endQ _ _ _ _ _ _ _; (repeat (rename (∀ (A : Fr) (H : Hp), AWP _ _ _ _ A H → _) => hK; clear hK)); (repeat (rename (Fr → Hp → Prop) => K; clear K))) | (show Exists _; (repeat (rename (∀ (A : Fr) (H : Hp), AWP _ _ _ _ A H → _) => hK; clear hK)); (repeat (rename (Fr → Hp → Prop) => K; clear K))) | skip)
  · have e : Go.Nt.bt s p = c := by omega
    exact end_ps (p := p + 1) rfl rfl (by simp only [go_sem]; rfl) rfl rfl rfl rfl rfl rfl rfl rfl (fun _ _ => rfl) (by decide) ⟨by unfold xB; rw [if_pos e], rfl⟩
  · have e : ¬ Go.Nt.bt s p = c := by omega
    exact end_ps rfl rfl (by simp only [go_sem]; rfl) rfl rfl rfl rfl rfl rfl rfl rfl (fun _ _ => rfl) (by decide) ⟨by unfold xB; rw [if_neg e], rfl⟩
/-- What a parser of an item leaves. -/
def postI (names s : ByteArray) (R : Pr Unit) (r : AV) (H : Hp) : Prop := match R with
  | .out => False
  | .bad w => ∃ q l, q ≤ s.size ∧ r = ps names s q l (w : Nat) ∧ H = hN l
  | .ok q l _ => r = ps names s q l (-1) ∧ H = hN l
theorem set5_2 (a b c d e x : AV) : setF (vecF [a, b, c, d, e]) 2 x = vecF [a, b, x, d, e] := by
  funext j
  match j with
  | 0 => rfl
  | 1 => rfl
  | 2 => rfl
  | 3 => rfl
  | 4 => rfl
  | j + 5 => rfl
theorem set5_3 (a b c d e x : AV) : setF (vecF [a, b, c, d, e]) 3 x = vecF [a, b, c, x, e] := by
  funext j
  match j with
  | 0 => rfl
  | 1 => rfl
  | 2 => rfl
  | 3 => rfl
  | 4 => rfl
  | j + 5 => rfl
theorem set5_4 (a b c d e x : AV) : setF (vecF [a, b, c, d, e]) 4 x = vecF [a, b, c, d, x] := by
  funext j
  match j with
  | 0 => rfl
  | 1 => rfl
  | 2 => rfl
  | 3 => rfl
  | 4 => rfl
  | j + 5 => rfl
theorem set6_2 (a b c d e f x : AV) : setF (vecF [a, b, c, d, e, f]) 2 x = vecF [a, b, x, d, e, f] := by
  funext j
  match j with
  | 0 => rfl
  | 1 => rfl
  | 2 => rfl
  | 3 => rfl
  | 4 => rfl
  | 5 => rfl
  | j + 6 => rfl
theorem set6_3 (a b c d e f x : AV) : setF (vecF [a, b, c, d, e, f]) 3 x = vecF [a, b, c, x, e, f] := by
  funext j
  match j with
  | 0 => rfl
  | 1 => rfl
  | 2 => rfl
  | 3 => rfl
  | 4 => rfl
  | 5 => rfl
  | j + 6 => rfl
theorem wrap8' {x : Int} (h : 0 ≤ x ∧ x < 256) : IntKind.u8.wrap x = x := by
  unfold IntKind.wrap
  rw [show (2 : Int) ^ IntKind.u8.bits = 256 from rfl, show IntKind.u8.signed = false from rfl]
  simp only [Bool.false_and, Bool.false_eq_true, if_false]
  omega
theorem ndF_snoc (l : List Nd) (y : Nd) {g : Nat → AV} (hg : ∀ i, i < 6 → g i = vecF (ndC y) i) : ∀ i, i < (l.length + 1) * 6 → apF (l.length * 6) (ndF l) g i = ndF (l ++ [y]) i := fun i hi => by
  unfold apF
  by_cases h : i < l.length * 6
  · rw [if_pos h]
    unfold ndF
    have : (l ++ [y]).getD (i / 6) nd0 = l.getD (i / 6) nd0 := by simp [List.getD_eq_getElem?_getD, List.getElem?_append, show i / 6 < l.length by omega]
    rw [this]
  · rw [if_neg h, hg _ (by omega)]
    unfold ndF
    have e : i / 6 = l.length := by omega
    have : (l ++ [y]).getD (i / 6) nd0 = y := by rw [e]; simp [List.getD_eq_getElem?_getD]
    rw [this, show i - l.length * 6 = i % 6 by omega]
theorem bt_in (s : ByteArray) (p : Nat) : (Go.Nt.bt s p = 0 ∨ p < s.size) ∧ Go.Nt.bt s p < 256 := by
  unfold Go.Nt.bt
  split
  · exact ⟨.inr (by assumption), UInt8.toNat_lt _⟩
  · exact ⟨.inl rfl, by decide⟩
set_option maxHeartbeats 4000000 in
theorem parseSuffix_ok (names s : ByteArray) (p : Nat) (l : List Nd) (x : Nd) (hp : p ≤ s.size) (hs : s.size ≤ 400) (hl : l.length ≤ p) (hx : x.kids.length ≤ 400) (h0 : x.count = 0 ∧ x.inv = 0) : AC Try.prog 223 [ps names s p l (-1), .agg 6 (vecF (ndC x))] (hN l) (fun _ => false) (postI names s (pSuf s p l x)) := by
  have b0 := bt_in s p
  have b1 := bt_in s (p + 1)
  have b2 := bt_in s (p + 2)
  have k0 : Go.Nt.bt s p = 48 → pSuf s p l x = .bad p := fun h => by unfold pSuf; rw [if_neg (by unfold dig; omega), if_pos h]
  have k1 : Go.Nt.bt s p = 49 → ¬ (48 ≤ Go.Nt.bt s (p + 1) ∧ Go.Nt.bt s (p + 1) ≤ 57) → pSuf s p l x = .bad (p + 1) := fun h h1 => by unfold pSuf; rw [if_neg (by unfold dig; omega), if_neg (by omega), if_neg (by unfold dig; omega), if_pos h]
  have k2 : (48 ≤ Go.Nt.bt s p ∧ Go.Nt.bt s p ≤ 57) → Go.Nt.bt s p ≠ 48 → (48 ≤ Go.Nt.bt s (p + 1) ∧ Go.Nt.bt s (p + 1) ≤ 57) → pSuf s p l x = pInv s (p + 2) l x (10 * ((Go.Nt.bt s p : Int) - 48) + ((Go.Nt.bt s (p + 1) : Int) - 48)) := fun h h1 h2 => by unfold pSuf; rw [if_neg (by unfold dig; omega), if_neg h1, if_pos (by unfold dig; omega)]
  have k3 : (48 ≤ Go.Nt.bt s p ∧ Go.Nt.bt s p ≤ 57) → Go.Nt.bt s p ≠ 48 → ¬ (48 ≤ Go.Nt.bt s (p + 1) ∧ Go.Nt.bt s (p + 1) ≤ 57) → Go.Nt.bt s p ≠ 49 → pSuf s p l x = pInv s (p + 1) l x ((Go.Nt.bt s p : Int) - 48) := fun h h1 h2 h3 => by unfold pSuf; rw [if_neg (by unfold dig; omega), if_neg h1, if_neg (by unfold dig; omega), if_neg h3]
  have k4 : ¬ (48 ≤ Go.Nt.bt s p ∧ Go.Nt.bt s p ≤ 57) → pSuf s p l x = pInv s p l x 1 := fun h => by unfold pSuf; rw [if_pos (by unfold dig; omega)]
  have k5 : ∀ q n, Go.Nt.bt s q = 39 → pInv s q l x n = .ok (q + 1) (l ++ [{ x with count := n, inv := 1 }]) () := fun q n h => if_pos h
  have k6 : ∀ q n, ¬ Go.Nt.bt s q = 39 → pInv s q l x n = .ok q (l ++ [{ x with count := n }]) () := fun q n h => if_neg h
  have k0 := Hold.mk k0
  have k1 := Hold.mk k1
  have k2 := Hold.mk k2
  have k3 := Hold.mk k3
  have k4 := Hold.mk k4
  have k5 := Hold.mk k5
  have k6 := Hold.mk k6
  unfold ndC
  refine ac_of_awp (N := ⟨_, fun _ => false, fun _ _ => rfl⟩) Try.func223 rfl (by kernel_rfl) Try.ntmps223 (by simp) ?_
  simp only [argsFr, List.zipIdx_cons, List.zipIdx_nil, go_sem]
  repeat' (first | (show False; omega) | (refine Ob.mk (all5 rfl rfl rfl rfl rfl) ?_) | (refine Ob.mk (all6 rfl rfl rfl rfl rfl rfl) ?_) | refine awp_seqK fun K hK => ?_ | (refine awp_regionK 281479540115775 rfl ?_; simp only [List.map_cons, List.map_nil]; simp (maxSteps := 1000000) (dsimp := false) (implicitDefEqProofs := false) (disch := omega) only [wrap64, go_sem, scF_ndF, wrap8', set5_2, set5_3, set6_2, set6_3]) | (refine awp_regionQK 281479540115775 (by kernel_rfl) (by kernel_rfl) (by kernel_rfl) ?_; simp only [List.map_cons, List.map_nil]; simp (maxSteps := 1000000) (dsimp := false) (implicitDefEqProofs := false) (disch := omega) only [wrap64, go_sem, scF_ndF, wrap8', set5_2, set5_3, set6_2, set6_3]) | refine awp_block ?_ | (refine awp_skip ?_; simp only [go_sem, scF_ndF, wrap8', set5_2, set5_3, set6_2, set6_3]) | (refine awp_exit ?_; simp only [go_sem, scF_ndF, wrap8', set5_2, set5_3, set6_2, set6_3]) | (refine awp_ret ?_; try simp only [go_sem, scF_ndF, wrap8', set5_2, set5_3, set6_2, set6_3]) | (refine awp_condP rfl ?_; try simp only [go_sem, scF_ndF, wrap8', set5_2, set5_3, set6_2, set6_3]) | (refine BrP.mk (fun h => ?_) (fun h => ?_) <;> try simp (dsimp := false) (disch := omega) only [wrap64]) | (refine Br.mk (fun h => ?_) (fun h => ?_) <;> try simp (dsimp := false) (disch := omega) only [wrap64]) | refine Ob.mk (by first | omega | (intro _ _; rfl) | trivial | (intros; trivial) | assumption | (intro i hi; have h0 : i = 0 := (by omega); subst h0; first | rfl | trivial) | (intro i hi; have h0 : i = 0 ∨ i = 1 := (by omega); rcases h0 with rfl | rfl <;> rfl) | (intro i hi; have h0 : i = 0 ∨ i = 1 ∨ i = 2 := (by omega); rcases h0 with rfl | rfl | rfl <;> rfl)) ?_ | ((first | ((first | refine atF (f := 248) ?_ | refine atQ (f := 248) ?_); first | refine cV (hfit := .cons (fits_pd rfl rfl) .nil) (hac := atDigit_ok s p (by omega) (by omega)) (hK := ?_) | refine cV (hfit := .cons (fits_pd rfl rfl) .nil) (hac := atDigit_ok s (p + 1) (by omega) (by omega)) (hK := ?_)) | ((first | refine atF (f := 181) ?_ | refine atQ (f := 181) ?_); first | refine cV (hfit := .cons (fits_pd rfl rfl) .nil) (hac := currentByte_ok s p (by omega) (by omega)) (hK := ?_) | refine cV (hfit := .cons (fits_pd rfl rfl) .nil) (hac := currentByte_ok s (p + 1) (by omega) (by omega)) (hK := ?_) | refine cV (hfit := .cons (fits_pd rfl rfl) .nil) (hac := currentByte_ok s (p + 2) (by omega) (by omega)) (hK := ?_)) | ((first | refine atF (f := 95) ?_ | refine atQ (f := 95) ?_); first | refine callPs rfl (failParse_ok names s p l _) ?_ | refine callPs rfl (failParse_ok names s (p + 1) l _) ?_)); simp (maxSteps := 1000000) (dsimp := false) (implicitDefEqProofs := false) (disch := omega) only [wrap64, go_sem, scF_ndF, wrap8', set5_2, set5_3, set6_2, set6_3]) | apply_assumption -exfalso -symm)
  all_goals (first | (show endQ _ _ _ _ _ _ _; (repeat (rename (∀ (A : Fr) (H : Hp), AWP _ _ _ _ A H → _) => hK; clear hK)); (repeat (rename (Fr → Hp → Prop) => K; clear K))) | (show Exists _; (repeat (rename (∀ (A : Fr) (H : Hp), AWP _ _ _ _ A H → _) => hK; clear hK)); (repeat (rename (Fr → Hp → Prop) => K; clear K))) | skip)
  all_goals first
  | (rw [k0.h (by omega)]; exact end_ps (p := p) (l := l) (w := (p : Nat)) rfl rfl (by simp only [go_sem]; rfl) rfl rfl rfl rfl rfl rfl rfl rfl (fun _ _ => rfl) (by decide) ⟨p, l, hp, rfl, rfl⟩)
  | (rw [k1.h (by omega) (by omega)]; exact end_ps (p := p + 1) (l := l) (w := ((p + 1 : Nat) : Int)) rfl rfl (by simp only [go_sem]; rfl) rfl rfl rfl rfl rfl rfl rfl rfl (fun _ _ => rfl) (by decide) ⟨p + 1, l, by omega, rfl, rfl⟩)
  | (rw [k2.h (by omega) (by omega) (by omega), k5.h (p + 2) _ (by omega)]; exact end_ps (p := p + 2 + 1) (l := l ++ [{ x with count := 10 * ((Go.Nt.bt s p : Int) - 48) + ((Go.Nt.bt s (p + 1) : Int) - 48), inv := 1 }]) (w := -1) rfl rfl (by simp only [go_sem]; rfl) rfl rfl rfl rfl (by rw [List.length_append, List.length_singleton]; rfl) rfl rfl (by rw [List.length_append, List.length_singleton]) (ndF_snoc l _ (all6 rfl rfl rfl (by first | rfl | exact congrArg (fun z => .v (.int .i64 (z))) h0.2) rfl rfl)) (by decide) ⟨rfl, rfl⟩)
  | (rw [k2.h (by omega) (by omega) (by omega), k6.h (p + 2) _ (by omega)]; exact end_ps (p := p + 2) (l := l ++ [{ x with count := 10 * ((Go.Nt.bt s p : Int) - 48) + ((Go.Nt.bt s (p + 1) : Int) - 48) }]) (w := -1) rfl rfl (by simp only [go_sem]; rfl) rfl rfl rfl rfl (by rw [List.length_append, List.length_singleton]; rfl) rfl rfl (by rw [List.length_append, List.length_singleton]) (ndF_snoc l _ (all6 rfl rfl rfl (by first | rfl | exact congrArg (fun z => .v (.int .i64 (z))) h0.2) rfl rfl)) (by decide) ⟨rfl, rfl⟩)
  | (rw [k3.h (by omega) (by omega) (by omega) (by omega), k5.h (p + 1) _ (by omega)]; exact end_ps (p := p + 1 + 1) (l := l ++ [{ x with count := (Go.Nt.bt s p : Int) - 48, inv := 1 }]) (w := -1) rfl rfl (by simp only [go_sem]; rfl) rfl rfl rfl rfl (by rw [List.length_append, List.length_singleton]; rfl) rfl rfl (by rw [List.length_append, List.length_singleton]) (ndF_snoc l _ (all6 rfl rfl rfl (by first | rfl | exact congrArg (fun z => .v (.int .i64 (z))) h0.2) rfl rfl)) (by decide) ⟨rfl, rfl⟩)
  | (rw [k3.h (by omega) (by omega) (by omega) (by omega), k6.h (p + 1) _ (by omega)]; exact end_ps (p := p + 1) (l := l ++ [{ x with count := (Go.Nt.bt s p : Int) - 48 }]) (w := -1) rfl rfl (by simp only [go_sem]; rfl) rfl rfl rfl rfl (by rw [List.length_append, List.length_singleton]; rfl) rfl rfl (by rw [List.length_append, List.length_singleton]) (ndF_snoc l _ (all6 rfl rfl rfl (by first | rfl | exact congrArg (fun z => .v (.int .i64 (z))) h0.2) rfl rfl)) (by decide) ⟨rfl, rfl⟩)
  | (rw [k4.h (by omega), k5.h p _ (by omega)]; exact end_ps (p := p + 1) (l := l ++ [{ x with count := 1, inv := 1 }]) (w := -1) rfl rfl (by simp only [go_sem]; rfl) rfl rfl rfl rfl (by rw [List.length_append, List.length_singleton]; rfl) rfl rfl (by rw [List.length_append, List.length_singleton]) (ndF_snoc l _ (all6 rfl rfl rfl (by first | rfl | exact congrArg (fun z => .v (.int .i64 (z))) h0.2) rfl rfl)) (by decide) ⟨rfl, rfl⟩)
  | (rw [k4.h (by omega), k6.h p _ (by omega)]; exact end_ps (p := p) (l := l ++ [{ x with count := 1 }]) (w := -1) rfl rfl (by simp only [go_sem]; rfl) rfl rfl rfl rfl (by rw [List.length_append, List.length_singleton]; rfl) rfl rfl (by rw [List.length_append, List.length_singleton]) (ndF_snoc l _ (all6 rfl rfl rfl (by first | rfl | exact congrArg (fun z => .v (.int .i64 (z))) h0.2) rfl rfl)) (by decide) ⟨rfl, rfl⟩)
end Go.Proofs.Ytphpegemhnodcaa
end
/- Names of moves: places of letters, name strings, both texts. -/
section
namespace Go.Proofs.Ytphpegemhnodcaa
open Go.Av
set_option linter.unusedSimpArgs false
set_option linter.unusedVariables false
attribute [local irreducible] AWP CallG Ob Br BrP Go.Av.Sub endQ AOps OpV AC thenA blkA opsVC opVC withA withArgs opsQ opQ CallQ withA2 withArgs2
open Go.Nt (Nd nd0 kd li liF)
theorem liF_hit {names : ByteArray} {c i : Nat} (h1 : (names.data.toList.getD i 0).toNat = c) (h2 : ∀ j, j < i → (names.data.toList.getD j 0).toNat ≠ c) : ∀ k, i < k → liF names c k = some i
  | 0, h => by omega
  | k + 1, h => by
    unfold liF
    by_cases e : i < k
    · rw [liF_hit h1 h2 k e]
    · have e : i = k := by omega
      subst e
      cases e2 : liF names c i with
      | some j =>
        obtain ⟨a, b, _⟩ := Go.Nt.liF_some e2
        exact absurd b (h2 j a)
      | none => simp only [h1, if_true]
theorem li_miss {names : ByteArray} {c : Nat} : ∀ k, (∀ j, j < k → (names.data.toList.getD j 0).toNat ≠ c) → liF names c k = none
  | 0, _ => rfl
  | k + 1, h => by
    unfold liF
    rw [li_miss k (fun j hj => h j (by omega))]
    simp only [h k (by omega), if_false]
def liI (names : ByteArray) (c : Nat) : Int := match li names c with
  | some m => (m : Int)
  | none => -1
theorem liI_hit {names : ByteArray} {c i : Nat} (hi : i < names.size) (h1 : (names.data.toList.getD i 0).toNat = c) (h2 : ∀ j, j < i → (names.data.toList.getD j 0).toNat ≠ c) : liI names c = i := by
  unfold liI li; rw [liF_hit h1 h2 _ hi]
theorem liI_miss {names : ByteArray} {c : Nat} (h : ∀ j, j < names.size → (names.data.toList.getD j 0).toNat ≠ c) : liI names c = -1 := by
  unfold liI li; rw [li_miss _ h]
theorem letterIndex_ok (names : ByteArray) (c : Nat) (hs : names.size ≤ 1048576) : AC Try.prog 179 [.v (.string (names)), .v (.int .u8 (c : Nat))] Hp.emp (fun _ => false) (retV (.v (.int .i64 (liI names c)))) := by
  refine ac_of_awp (N := ⟨_, fun _ => false, fun _ _ => rfl⟩) Try.func179 rfl (by kernel_rfl) Try.ntmps179 (by simp) ?_
  simp only [argsFr, List.zipIdx_cons, List.zipIdx_nil, go_sem]
  repeat' (first | refine awp_seqK fun K hK => ?_ | (refine awp_regionK 66099 rfl ?_; simp only [List.map_cons, List.map_nil]; simp (maxSteps := 1000000) (dsimp := false) (implicitDefEqProofs := false) (disch := omega) only [wrap64, go_sem]) | (refine awp_regionQK 66099 (by kernel_rfl) (by kernel_rfl) (by kernel_rfl) ?_; simp only [List.map_cons, List.map_nil]; simp (maxSteps := 1000000) (dsimp := false) (implicitDefEqProofs := false) (disch := omega) only [wrap64, go_sem]) | refine awp_block ?_ | (refine awp_skip ?_; simp only [go_sem]) | (refine awp_exit ?_; simp only [go_sem]) | (refine awp_ret ?_; try simp only [go_sem]) | (refine awp_condP rfl ?_; try simp only [go_sem]) | (refine BrP.mk (fun h => ?_) (fun h => ?_) <;> try simp (dsimp := false) (disch := omega) only [wrap64]) | (refine Br.mk (fun h => ?_) (fun h => ?_) <;> try simp (dsimp := false) (disch := omega) only [wrap64]) | refine Ob.mk (by first | omega | (intro _ _; rfl) | trivial | (intros; trivial) | assumption | (intro i hi; have h0 : i = 0 := (by omega); subst h0; first | rfl | trivial) | (intro i hi; have h0 : i = 0 ∨ i = 1 := (by omega); rcases h0 with rfl | rfl <;> rfl) | (intro i hi; have h0 : i = 0 ∨ i = 1 ∨ i = 2 := (by omega); rcases h0 with rfl | rfl | rfl <;> rfl)) ?_ | apply_assumption -exfalso -symm)
  all_goals (first | (show endQ _ _ _ _ _ _ _; (repeat (rename (∀ (A : Fr) (H : Hp), AWP _ _ _ _ A H → _) => hK; clear hK)); (repeat (rename (Fr → Hp → Prop) => K; clear K))) | (show Exists _; (repeat (rename (∀ (A : Fr) (H : Hp), AWP _ _ _ _ A H → _) => hK; clear hK)); (repeat (rename (Fr → Hp → Prop) => K; clear K))) | skip)
  refine awp_loop (ι := Nat) (fun k => [(5, .v (.int .i64 (k))), (0, .v (.string (names))), (1, .v (.int .u8 (c : Nat)))]) (fun k => Hp.emp) (fun k => k ≤ names.size ∧ ∀ j, j < k → (names.data.toList.getD j 0).toNat ≠ c) (fun k => names.size - k) 0 ?_ (Sub.toL (by simp only [go_sem] <;> first | trivial | (simp only [Option.some.injEq, AV.v.injEq, AV.own.injEq, AV.list.injEq, Value.int.injEq, Value.bool.injEq, true_and, and_true]; first | omega | (simp; done)) | (simp; done) | (simp; omega)) (by (repeat' (first | exact Hp.le_emp _ | exact Hp.le_refl _ | refine Hp.le_upd ?_ ?_)); all_goals (first | rfl | (simp only [go_sem]; first | rfl | (refine cellsE ?_ ?_ <;> (simp)) | (simp))))) ?_
  · exact ⟨Nat.zero_le _, fun j h => absurd h (Nat.not_lt_zero _)⟩
  intro k hk
  repeat' (first | refine awp_seqK fun K hK => ?_ | (refine awp_regionK 66099 rfl ?_; simp only [List.map_cons, List.map_nil]; simp (maxSteps := 1000000) (dsimp := false) (implicitDefEqProofs := false) (disch := omega) only [wrap64, go_sem]) | (refine awp_regionQK 66099 (by kernel_rfl) (by kernel_rfl) (by kernel_rfl) ?_; simp only [List.map_cons, List.map_nil]; simp (maxSteps := 1000000) (dsimp := false) (implicitDefEqProofs := false) (disch := omega) only [wrap64, go_sem]) | refine awp_block ?_ | (refine awp_skip ?_; simp only [go_sem]) | (refine awp_exit ?_; simp only [go_sem]) | (refine awp_ret ?_; try simp only [go_sem]) | (refine awp_condP rfl ?_; try simp only [go_sem]) | (refine BrP.mk (fun h => ?_) (fun h => ?_) <;> try simp (dsimp := false) (disch := omega) only [wrap64]) | (refine Br.mk (fun h => ?_) (fun h => ?_) <;> try simp (dsimp := false) (disch := omega) only [wrap64]) | refine Ob.mk (by first | omega | (intro _ _; rfl) | trivial | (intros; trivial) | assumption | (intro i hi; have h0 : i = 0 := (by omega); subst h0; first | rfl | trivial) | (intro i hi; have h0 : i = 0 ∨ i = 1 := (by omega); rcases h0 with rfl | rfl <;> rfl) | (intro i hi; have h0 : i = 0 ∨ i = 1 ∨ i = 2 := (by omega); rcases h0 with rfl | rfl | rfl <;> rfl)) ?_ | apply_assumption -exfalso -symm)
  all_goals (first | (show endQ _ _ _ _ _ _ _; (repeat (rename (∀ (A : Fr) (H : Hp), AWP _ _ _ _ A H → _) => hK; clear hK)); (repeat (rename (Fr → Hp → Prop) => K; clear K))) | (show Exists _; (repeat (rename (∀ (A : Fr) (H : Hp), AWP _ _ _ _ A H → _) => hK; clear hK)); (repeat (rename (Fr → Hp → Prop) => K; clear K))) | skip)
  · exact end_retN rfl rfl (liI_hit (by omega) (by omega) hk.2).symm
  · refine ⟨k + 1, ?_, ?_, Sub.toL (by simp only [go_sem] <;> first | trivial | (simp only [Option.some.injEq, AV.v.injEq, AV.own.injEq, AV.list.injEq, Value.int.injEq, Value.bool.injEq, true_and, and_true]; first | omega | (simp; done)) | (simp; done) | (simp; omega)) (by (repeat' (first | exact Hp.le_emp _ | exact Hp.le_refl _ | refine Hp.le_upd ?_ ?_)); all_goals (first | rfl | (simp only [go_sem]; first | rfl | (refine cellsE ?_ ?_ <;> (simp)) | (simp))))⟩
    · refine ⟨by omega, fun j hj => ?_⟩
      by_cases h' : j = k
      · subst h'; omega
      · exact hk.2 j (by omega)
    · omega
  · have e : k = names.size := by omega
    subst e
    exact end_retN rfl rfl (liI_miss hk.2).symm
/-- A name string. -/
def nmP (s : ByteArray) : Prop := (1 ≤ s.size ∧ s.size ≤ 8) ∧ ∀ i, i < s.size → isName s i
instance (s : ByteArray) : Decidable (nmP s) := by unfold nmP; infer_instance
theorem ext_get {s : ByteArray} {i j : Nat} (hj : j < i) : (s.extract 0 i).data.toList.getD j 0 = s.data.toList.getD j 0 := by
  simp [List.getD_eq_getElem?_getD, hj]
theorem liI_ext {s : ByteArray} {i : Nat} (hi : i < s.size) : 0 ≤ liI (s.extract 0 i) (s.data.toList.getD i 0).toNat ↔ ¬ ∀ k, k < i → bt s k ≠ bt s i := by
  have hz : (s.extract 0 i).size = i := by simp; omega
  constructor
  · intro h hn
    rw [liI_miss (fun j hj e => ?_)] at h
    · omega
    · rw [hz] at hj
      rw [ext_get hj] at e
      exact hn j hj (by unfold bt; rw [e])
  · intro h
    have hex : ∃ k, k < i ∧ bt s k = bt s i := Classical.byContradiction fun hc => h fun k hk e => hc ⟨k, hk, e⟩
    unfold liI
    cases e : li (s.extract 0 i) (s.data.toList.getD i 0).toNat with
    | some m => simp only; omega
    | none =>
      obtain ⟨k, hk, e2⟩ := hex
      have := Go.Nt.liF_none e k (by rw [hz]; exact hk)
      rw [ext_get hk] at this
      unfold bt at e2
      exact absurd (by omega) this
theorem isNameString_ok (s : ByteArray) (hs : s.size ≤ 1048576) : AC Try.prog 93 [.v (.string (s))] Hp.emp (fun _ => false) (retV (.v (.bool (decide (nmP s))))) := by
  refine ac_of_awp (N := ⟨_, fun _ => false, fun _ _ => rfl⟩) Try.func93 rfl (by kernel_rfl) Try.ntmps93 (by simp) ?_
  simp only [argsFr, List.zipIdx_cons, List.zipIdx_nil, go_sem]
  repeat' (first | refine awp_seqK fun K hK => ?_ | (refine awp_regionK 8589936781 rfl ?_; simp only [List.map_cons, List.map_nil]; simp (maxSteps := 1000000) (dsimp := false) (implicitDefEqProofs := false) (disch := omega) only [wrap64, go_sem]) | (refine awp_regionQK 8589936781 (by kernel_rfl) (by kernel_rfl) (by kernel_rfl) ?_; simp only [List.map_cons, List.map_nil]; simp (maxSteps := 1000000) (dsimp := false) (implicitDefEqProofs := false) (disch := omega) only [wrap64, go_sem]) | refine awp_block ?_ | (refine awp_skip ?_; simp only [go_sem]) | (refine awp_exit ?_; simp only [go_sem]) | (refine awp_ret ?_; try simp only [go_sem]) | (refine awp_condP rfl ?_; try simp only [go_sem]) | (refine BrP.mk (fun h => ?_) (fun h => ?_) <;> try simp (dsimp := false) (disch := omega) only [wrap64]) | (refine Br.mk (fun h => ?_) (fun h => ?_) <;> try simp (dsimp := false) (disch := omega) only [wrap64]) | refine Ob.mk (by first | omega | (intro _ _; rfl) | trivial | (intros; trivial) | assumption | (intro i hi; have h0 : i = 0 := (by omega); subst h0; first | rfl | trivial) | (intro i hi; have h0 : i = 0 ∨ i = 1 := (by omega); rcases h0 with rfl | rfl <;> rfl) | (intro i hi; have h0 : i = 0 ∨ i = 1 ∨ i = 2 := (by omega); rcases h0 with rfl | rfl | rfl <;> rfl)) ?_ | ((first | ((first | refine atF (f := 119) ?_ | refine atQ (f := 119) ?_); (first | (refine cV (hac := inRange_ok _ _ _) (hK := ?_)) | (refine cQV (hac := inRange_ok _ _ _) (hK := ?_))))); simp (maxSteps := 1000000) (dsimp := false) (implicitDefEqProofs := false) (disch := omega) only [wrap64, go_sem]) | apply_assumption -exfalso -symm)
  all_goals (first | (show endQ _ _ _ _ _ _ _; (repeat (rename (∀ (A : Fr) (H : Hp), AWP _ _ _ _ A H → _) => hK; clear hK)); (repeat (rename (Fr → Hp → Prop) => K; clear K))) | (show Exists _; (repeat (rename (∀ (A : Fr) (H : Hp), AWP _ _ _ _ A H → _) => hK; clear hK)); (repeat (rename (Fr → Hp → Prop) => K; clear K))) | skip)
  · refine awp_loop (ι := Nat) (fun k => [(3, .v (.int .i64 (k))), (0, .v (.string (s)))]) (fun k => Hp.emp) (fun k => k ≤ s.size ∧ ∀ j, j < k → isName s j) (fun k => s.size - k) 0 ?_ (Sub.toL (by simp only [go_sem] <;> first | trivial | (simp only [Option.some.injEq, AV.v.injEq, AV.own.injEq, AV.list.injEq, Value.int.injEq, Value.bool.injEq, true_and, and_true]; first | omega | (simp; done)) | (simp; done) | (simp; omega)) (by (repeat' (first | exact Hp.le_emp _ | exact Hp.le_refl _ | refine Hp.le_upd ?_ ?_)); all_goals (first | rfl | (simp only [go_sem]; first | rfl | (refine cellsE ?_ ?_ <;> (simp)) | (simp))))) ?_
    · exact ⟨Nat.zero_le _, fun j h => absurd h (Nat.not_lt_zero _)⟩
    intro k hk
    have hx := fun h : k < s.size => liI_ext h
    have hx := Hold.mk hx
    have hz : (s.extract 0 k).size ≤ 1048576 := by simp; omega
    repeat' (first | refine awp_seqK fun K hK => ?_ | (refine awp_regionK 8589936781 rfl ?_; simp only [List.map_cons, List.map_nil]; simp (maxSteps := 1000000) (dsimp := false) (implicitDefEqProofs := false) (disch := omega) only [wrap64, go_sem]) | (refine awp_regionQK 8589936781 (by kernel_rfl) (by kernel_rfl) (by kernel_rfl) ?_; simp only [List.map_cons, List.map_nil]; simp (maxSteps := 1000000) (dsimp := false) (implicitDefEqProofs := false) (disch := omega) only [wrap64, go_sem]) | refine awp_block ?_ | (refine awp_skip ?_; simp only [go_sem]) | (refine awp_exit ?_; simp only [go_sem]) | (refine awp_ret ?_; try simp only [go_sem]) | (refine awp_condP rfl ?_; try simp only [go_sem]) | (refine BrP.mk (fun h => ?_) (fun h => ?_) <;> try simp (dsimp := false) (disch := omega) only [wrap64]) | (refine Br.mk (fun h => ?_) (fun h => ?_) <;> try simp (dsimp := false) (disch := omega) only [wrap64]) | refine Ob.mk (by first | omega | (intro _ _; rfl) | trivial | (intros; trivial) | assumption | (intro i hi; have h0 : i = 0 := (by omega); subst h0; first | rfl | trivial) | (intro i hi; have h0 : i = 0 ∨ i = 1 := (by omega); rcases h0 with rfl | rfl <;> rfl) | (intro i hi; have h0 : i = 0 ∨ i = 1 ∨ i = 2 := (by omega); rcases h0 with rfl | rfl | rfl <;> rfl)) ?_ | ((first | ((first | refine atF (f := 179) ?_ | refine atQ (f := 179) ?_); (first | (refine cV (hac := letterIndex_ok (s.extract 0 k) (s.data.toList.getD k 0).toNat hz) (hK := ?_)) | (refine cQV (hac := letterIndex_ok (s.extract 0 k) (s.data.toList.getD k 0).toNat hz) (hK := ?_))))); simp (maxSteps := 1000000) (dsimp := false) (implicitDefEqProofs := false) (disch := omega) only [wrap64, go_sem]) | apply_assumption -exfalso -symm)
    all_goals (first | (show endQ _ _ _ _ _ _ _; (repeat (rename (∀ (A : Fr) (H : Hp), AWP _ _ _ _ A H → _) => hK; clear hK)); (repeat (rename (Fr → Hp → Prop) => K; clear K))) | (show Exists _; (repeat (rename (∀ (A : Fr) (H : Hp), AWP _ _ _ _ A H → _) => hK; clear hK)); (repeat (rename (Fr → Hp → Prop) => K; clear K))) | skip)
    all_goals try omega
    · refine end_retB rfl rfl ?_
      simp only [Bool.false_eq_true, false_iff]
      intro hn
      have := (hn.2 k (by omega)).1
      unfold bt at this; omega
    · refine end_retB rfl rfl ?_
      simp only [Bool.false_eq_true, false_iff]
      intro hn
      have := (hn.2 k (by omega)).1
      unfold bt at this; omega
    · refine end_retB rfl rfl ?_
      simp only [Bool.false_eq_true, false_iff]
      intro hn
      exact (hx.h (by omega)).1 (by assumption) (hn.2 k (by omega)).2
    · refine ⟨k + 1, ?_, ?_, Sub.toL (by simp only [go_sem] <;> first | trivial | (simp only [Option.some.injEq, AV.v.injEq, AV.own.injEq, AV.list.injEq, Value.int.injEq, Value.bool.injEq, true_and, and_true]; first | omega | (simp; done)) | (simp; done) | (simp; omega)) (by (repeat' (first | exact Hp.le_emp _ | exact Hp.le_refl _ | refine Hp.le_upd ?_ ?_)); all_goals (first | rfl | (simp only [go_sem]; first | rfl | (refine cellsE ?_ ?_ <;> (simp)) | (simp))))⟩
      · refine ⟨by omega, fun j hj => ?_⟩
        by_cases h' : j = k
        · subst h'
          refine ⟨by unfold bt; omega, ?_⟩
          exact Classical.byContradiction fun hc => by
            have := (hx.h (by omega)).2 hc
            omega
        · exact hk.2 j (by omega)
      · omega
    · refine end_retB rfl rfl ?_
      simp only [true_iff]
      exact ⟨by omega, fun j hj => hk.2 j (by omega)⟩
  · refine end_retB rfl rfl ?_
    simp only [Bool.false_eq_true, false_iff, nmP]
    omega
end Go.Proofs.Ytphpegemhnodcaa
end
/- The reference's parser of notations: items and sequences. -/
section
namespace Go.Proofs.Ytphpegemhnodcaa
open Go.Av
set_option linter.unusedSimpArgs false
set_option linter.unusedVariables false
attribute [local irreducible] AWP CallG Ob Br BrP Go.Av.Sub endQ AOps OpV AC thenA blkA opsVC opVC withA withArgs opsQ opQ CallQ withA2 withArgs2
open Go.Nt (Nd nd0 kd li liF dig pInv pSuf pItem pSeq Pr Goes nmOk)
/-- What the parser of sequences leaves. -/
abbrev hQ (l : List Nd) (ks : List Int) : Hp := (Hp.emp.upd 1000000 (.cells (l.length * 6) (ndF l))).upd 1000001 (.cells ks.length (cM iv 0 ks))
def postQ (names s : ByteArray) (R : Pr (List Int)) (r : AV) (H : Hp) : Prop := match R with
  | .out => False
  | .bad w => ∃ q l, q ≤ s.size ∧ r = .tup 2 (vecF [ps names s q l (w : Nat), .own 1000001 0 1 ([] : List Int).length]) ∧ H = hQ l []
  | .ok q l ks => r = .tup 2 (vecF [ps names s q l (-1), .own 1000001 0 1 ks.length]) ∧ H = hQ l ks
def pN (h : Nat) : Bool := h == 1000000 || h == 1000001
theorem pN_low {h : Nat} (hh : h < 1000000) : pN h = false := by simp [pN]; omega
theorem pN_0 : pN 1000000 = true := rfl
theorem pN_1 : pN 1000001 = true := rfl
section
variable {P : Program} {N : Cx} {A A' : Fr} {H H' : Hp}
theorem callSt {f : FuncId} {args : List AV} {Hin : Hp} {post : AV → Hp → Prop} {K : AV → Fr → Hp → Prop} (hH : Hp.le Hin H) (hin : ∀ h, Hin h ≠ none → pN h = true) (hac : AC P f args Hin (fun _ => false) post) (hpn : N.pn = fun _ => false)
    (hK : ∀ r H', post r H' → (∀ h, H' h ≠ none → pN h = true) ∧ r.scrub (fun h => !liveB H' h) = r ∧ H'.scrub (fun h => !liveB H' h) = H' ∧ K r (A.scrub pN) (Hp.over H' (H.scrub pN) Hin)) : CallG P N f args A H K := by
  refine callG_of hac pN false hH (FitsL.refl _) (fun _ => rfl) (fun h hn hp => ?_) (by simp [hpn]) fun r H' hp => ?_
  · rw [hin h hn] at hp; cases hp
  · obtain ⟨h1, h2, h3, h4⟩ := hK r H' hp
    refine ⟨fun h hn _ => h1 h hn, fun e => (by cases e), ?_⟩
    rw [h2, h3]; exact h4
theorem hN_le {l : List Nd} (hH : H 1000000 = some (.cells (l.length * 6) (ndF l))) : Hp.le (hN l) H := fun h B hB => by
  unfold hN Hp.upd at hB
  split at hB
  · rename_i e; subst e; rw [hH]; exact hB
  · cases hB
theorem over_1 {X : Hp} {B : Blk} {l : List Nd} : Hp.over (Hp.emp.upd 1000000 B) X (hN l) = X.upd 1000000 B := by
  funext h
  by_cases e : h = 1000000
  · subst e; rfl
  · simp only [Hp.over, Hp.upd, if_neg e, hN, Hp.emp]; rfl
theorem over_2 {X : Hp} {B C : Blk} {l : List Nd} : Hp.over ((Hp.emp.upd 1000000 B).upd 1000001 C) X (hN l) = (X.upd 1000000 B).upd 1000001 C := by
  funext h
  by_cases e : h = 1000000
  · subst e; rfl
  · by_cases e2 : h = 1000001
    · subst e2; rfl
    · simp only [Hp.over, Hp.upd, if_neg e, if_neg e2, hN, Hp.emp]; rfl
theorem ps_scr {names s : ByteArray} {p : Nat} {l : List Nd} {w : Int} {q : Nat → Bool} (hq : q 1000000 = false) : (ps names s p l w).scrub q = ps names s p l w := by
  simp only [scrub_agg, scF_vecF, List.map_cons, List.map_nil, scrub_v, scrub_own, hq, Bool.false_eq_true, if_false]
/-- A call of a parser of items. -/
theorem callIt {f : FuncId} {args : List AV} {names s : ByteArray} {l : List Nd} {R : Pr Unit} {K : AV → Fr → Hp → Prop} (hH : H 1000000 = some (.cells (l.length * 6) (ndF l))) (hac : AC P f args (hN l) (fun _ => false) (postI names s R)) (hpn : N.pn = fun _ => false)
    (h1 : ∀ w q l', R = .bad w → q ≤ s.size → K (ps names s q l' (w : Nat)) (A.scrub pN) ((H.scrub pN).upd 1000000 (.cells (l'.length * 6) (ndF l'))))
    (h2 : ∀ q l' u, R = .ok q l' u → K (ps names s q l' (-1)) (A.scrub pN) ((H.scrub pN).upd 1000000 (.cells (l'.length * 6) (ndF l')))) : CallG P N f args A H K := by
  refine callSt (hN_le hH) (fun h hn => by rw [hN_ne hn]; rfl) hac hpn fun r H' hp => ?_
  have key : ∀ q l' (w : Int), r = ps names s q l' w → H' = hN l' → K (ps names s q l' w) (A.scrub pN) ((H.scrub pN).upd 1000000 (.cells (l'.length * 6) (ndF l'))) → (∀ h, H' h ≠ none → pN h = true) ∧ r.scrub (fun h => !liveB H' h) = r ∧ H'.scrub (fun h => !liveB H' h) = H' ∧ K r (A.scrub pN) (Hp.over H' (H.scrub pN) (hN l)) := by
    intro q l' w e1 e2 hk
    subst e1 e2
    refine ⟨fun h hn => by rw [hN_ne hn]; rfl, ps_scr rfl, hN_scr l' _, ?_⟩
    show K _ _ (Hp.over (Hp.emp.upd 1000000 _) _ _)
    rw [over_1]; exact hk
  unfold postI at hp
  cases R with
  | out => exact hp.elim
  | bad w =>
    obtain ⟨q, l', hq, e1, e2⟩ := hp
    exact key q l' _ e1 e2 (h1 w q l' rfl hq)
  | ok q l' u => exact key q l' _ hp.1 hp.2 (h2 q l' u rfl)
/-- A call of the parser of sequences. -/
theorem callSq {f : FuncId} {args : List AV} {names s : ByteArray} {l : List Nd} {R : Pr (List Int)} {K : AV → Fr → Hp → Prop} (hH : H 1000000 = some (.cells (l.length * 6) (ndF l))) (hac : AC P f args (hN l) (fun _ => false) (postQ names s R)) (hpn : N.pn = fun _ => false)
    (h1 : ∀ w q l', R = .bad w → q ≤ s.size → K (.tup 2 (vecF [ps names s q l' (w : Nat), .own 1000001 0 1 ([] : List Int).length])) (A.scrub pN) (((H.scrub pN).upd 1000000 (.cells (l'.length * 6) (ndF l'))).upd 1000001 (.cells ([] : List Int).length (cM iv 0 []))))
    (h2 : ∀ q l' ks, R = .ok q l' ks → K (.tup 2 (vecF [ps names s q l' (-1), .own 1000001 0 1 ks.length])) (A.scrub pN) (((H.scrub pN).upd 1000000 (.cells (l'.length * 6) (ndF l'))).upd 1000001 (.cells ks.length (cM iv 0 ks)))) : CallG P N f args A H K := by
  refine callSt (hN_le hH) (fun h hn => by rw [hN_ne hn]; rfl) hac hpn fun r H' hp => ?_
  have key : ∀ q l' (w : Int) (ks : List Int), r = .tup 2 (vecF [ps names s q l' w, .own 1000001 0 1 ks.length]) → H' = hQ l' ks → K (.tup 2 (vecF [ps names s q l' w, .own 1000001 0 1 ks.length])) (A.scrub pN) (((H.scrub pN).upd 1000000 (.cells (l'.length * 6) (ndF l'))).upd 1000001 (.cells ks.length (cM iv 0 ks))) → (∀ h, H' h ≠ none → pN h = true) ∧ r.scrub (fun h => !liveB H' h) = r ∧ H'.scrub (fun h => !liveB H' h) = H' ∧ K r (A.scrub pN) (Hp.over H' (H.scrub pN) (hN l)) := by
    intro q l' w ks e1 e2 hk
    subst e1 e2
    refine ⟨fun h hn => ?_, ?_, ?_, ?_⟩
    · unfold hQ Hp.upd at hn
      split at hn
      · rename_i e; subst e; rfl
      · split at hn
        · rename_i e; subst e; rfl
        · exact absurd rfl hn
    · obtain ⟨z, hz⟩ : ∃ z : Nat → Bool, z = fun h => !liveB (hQ l' ks) h := ⟨_, rfl⟩
      have z0 : z 1000000 = false := by rw [hz]; rfl
      have z1 : z 1000001 = false := by rw [hz]; rfl
      rw [← hz]
      rw [scrub_tup, scF_vecF]
      simp only [List.map_cons, List.map_nil, ps_scr z0, scrub_own, z1, Bool.false_eq_true, if_false]
    · unfold hQ
      simp only [Hp.scrub_upd, Hp.scrub_emp, Blk.scrub_cells, scF_ndF, scF_iv]
    · show K _ _ (Hp.over ((Hp.emp.upd 1000000 _).upd 1000001 _) _ _)
      rw [over_2]; exact hk
  unfold postQ at hp
  cases R with
  | out => exact hp.elim
  | bad w =>
    obtain ⟨q, l', hq, e1, e2⟩ := hp
    exact key q l' _ [] e1 e2 (h1 w q l' rfl hq)
  | ok q l' ks => exact key q l' _ ks hp.1 hp.2 (h2 q l' ks rfl)
def rhoQ (e g : Nat) : Option Nat := if g = 1000001 then some e else some g
/-- The end of a function that hands back a state and a row. -/
theorem end_psq {fn : Func} {t u : Tmp} {ty : TypeId} {h e m : Nat} {z : List Value} {f : Nat → AV} {names s : ByteArray} {p : Nat} {l : List Nd} {w : Int} {ks : List Int} {post : AV → Hp → Prop} (hpn : N.pn = fun _ => false) (hr : fn.results.toList = [.cell t ty, .tmp u]) (htu : t ≠ u) (hA : A.get t = some (.ref h 0)) (hu : A.get u = some (.own e 0 1 m)) (hty : tyOf P ty = some ⟨true, 5, z⟩) (hH : H h = some (.cells 5 f))
    (h0 : f 0 = .v (.string (names))) (h1 : f 1 = .v (.string (s))) (h2 : f 2 = .v (.int .i64 ((p : Nat)))) (h3 : f 3 = .own 1000000 0 6 l.length) (h4 : f 4 = .v (.int .i64 (w))) (hl : H 1000000 = some (.cells (l.length * 6) (ndF l))) (he : H e = some (.cells m (cM iv 0 ks))) (hm : m = ks.length) (hh : h < 1000000) (he1 : e < 1000000) (hne : h ≠ e) (hp : post (.tup 2 (vecF [ps names s p l w, .own 1000001 0 1 ks.length])) (hQ l ks)) : endQ P N fn post .ret A H := by
  subst hm
  have hu' : ∀ x, ((hQ l ks).upd h (.cells 5 (vecF [.v (.string (names)), .v (.string (s)), .v (.int .i64 ((p : Nat))), .own 1000000 0 6 l.length, .v (.int .i64 (w))]))) x ≠ none → x = h ∨ x = 1000001 ∨ x = 1000000 := fun x hx => by
    unfold hQ Hp.upd at hx
    split at hx
    · exact .inl ‹_›
    · split at hx
      · exact .inr (.inl ‹_›)
      · split at hx
        · exact .inr (.inr ‹_›)
        · exact absurd rfl hx
  unfold endQ
  refine ⟨[(t, .ref h 0), (u, .own 1000001 0 1 ks.length)], (hQ l ks).upd h (.cells 5 (vecF [.v (.string (names)), .v (.string (s)), .v (.int .i64 ((p : Nat))), .own 1000000 0 6 l.length, .v (.int .i64 (w))])), Sub.layM (rhoQ e) hpn (lay_cons ⟨_, hA, .ref (by unfold rhoQ; rw [if_neg (by omega)])⟩ (lay_cons ⟨_, hu, .own rfl⟩ lay_nil)) (layF_upd (g := h) (by unfold rhoQ; rw [if_neg (by omega)]) hH (all5 ?_ ?_ ?_ ?_ ?_) (layF_upd (g := e) rfl he (fun i hi => .plain trivial) (layF_upd (g := 1000000) rfl hl (fun i hi => .plain (ndF_plain l i).1) layF_emp))) (fun x y k hx hy e1 e2 => ?_), ?_⟩
  · rw [h0]; exact .plain trivial
  · rw [h1]; exact .plain trivial
  · rw [h2]; exact .plain trivial
  · rw [h3]; exact .own rfl
  · rw [h4]; exact .plain trivial
  · unfold rhoQ at e1 e2
    rcases hu' x hx with rfl | rfl | rfl <;> rcases hu' y hy with rfl | rfl | rfl <;> (try rfl) <;> (exfalso; (repeat' split at e1) <;> (repeat' split at e2) <;> simp_all <;> omega)
  · rw [hr]
    simp only [resVC, Fr.get, if_true, withA_some, hty, ldVC, Hp.upd, Ob, htu, if_false]
    refine ⟨by omega, hQ l ks, fun x B hB => ?_, ?_⟩
    · unfold Hp.upd
      split
      · rename_i e3; subst e3
        unfold hQ Hp.upd at hB
        rw [if_neg (by omega), if_neg (by omega)] at hB
        cases hB
      · exact hB
    · have : (fun j => vecF [.v (.string (names)), .v (.string (s)), .v (.int .i64 ((p : Nat))), .own 1000000 0 6 l.length, .v (.int .i64 (w))] (0 + j)) = vecF [.v (.string (names)), .v (.string (s)), .v (.int .i64 ((p : Nat))), .own 1000000 0 6 l.length, .v (.int .i64 (w))] := by funext j; rw [Nat.zero_add]
      rw [this]; exact hp
end
end Go.Proofs.Ytphpegemhnodcaa
end
/- The reference's parser of notations: the walks. -/
section
namespace Go.Proofs.Ytphpegemhnodcaa
open Go.Av
set_option linter.unusedSimpArgs false
set_option linter.unusedVariables false
attribute [local irreducible] AWP CallG Ob Br BrP Go.Av.Sub endQ AOps OpV AC thenA blkA opsVC opVC withA withArgs opsQ opQ CallQ withA2 withArgs2
open Go.Nt (Nd nd0 kd li liF dig pInv pSuf pItem pSeq Pr Goes nmOk pItem_goes pSeq_goes)
def ItOk (names s : ByteArray) (f : Nat) : Prop := ∀ p l, p ≤ s.size → l.length ≤ p → 2 * (s.size - p) + 1 ≤ f → AC Try.prog 180 [ps names s p l (-1)] (hN l) (fun _ => false) (postI names s (pItem names s f p l))
def SqOk (names s : ByteArray) (f : Nat) : Prop := ∀ p l, p ≤ s.size → l.length ≤ p → 2 * (s.size - p) + 2 ≤ f → AC Try.prog 94 [ps names s p l (-1)] (hN l) (fun _ => false) (postQ names s (pSeq names s f p l []))
theorem pSeq_succ (names s : ByteArray) (f p : Nat) (l : List Nd) (ks : List Int) : pSeq names s (f + 1) p l ks = match pItem names s f p l with
    | .out => .out
    | .bad w => .bad w
    | .ok q l' _ => if Go.Nt.bt s q = 32 then pSeq names s f (q + 1) l' (ks ++ [(l'.length : Int) - 1]) else .ok q l' (ks ++ [(l'.length : Int) - 1]) := by
  rw [pSeq]; rfl
theorem it_bd {names s : ByteArray} (hn : nmOk names) {f p q : Nat} {l l' : List Nd} {u : Unit} (hp : p ≤ s.size) (hl : l.length ≤ p) (hf : 2 * (s.size - p) + 1 ≤ f) (e : pItem names s f p l = .ok q l' u) : p < q ∧ q ≤ s.size ∧ l.length < l'.length ∧ l'.length ≤ q := by
  rcases pItem_goes names s hn f p l hp hf with ⟨w, a, _⟩ | ⟨q2, l2, a, hg⟩
  · rw [a] at e; cases e
  · rw [a] at e; cases e
    have := hg.len
    have := hg.lt
    have := hg.le
    omega
theorem sq_bd {names s : ByteArray} (hn : nmOk names) {f p q : Nat} {l l' : List Nd} {ks : List Int} (hp : p ≤ s.size) (hl : l.length ≤ p) (hf : 2 * (s.size - p) + 2 ≤ f) (e : pSeq names s f p l [] = .ok q l' ks) : p < q ∧ q ≤ s.size ∧ l.length < l'.length ∧ l'.length ≤ q := by
  rcases pSeq_goes names s hn f p l [] hp hf with ⟨w, a, _⟩ | ⟨q2, l2, k2, a, hg⟩
  · rw [a] at e; cases e
  · rw [a] at e; cases e
    have := hg.len
    have := hg.lt
    have := hg.le
    omega
theorem sq_ks {names s : ByteArray} (hn : nmOk names) : ∀ (f p : Nat) (l : List Nd) (ks0 : List Int) (q : Nat) (l' : List Nd) (ks : List Int), p ≤ s.size → 2 * (s.size - p) + 2 ≤ f → pSeq names s f p l ks0 = .ok q l' ks → ks.length + l.length ≤ ks0.length + l'.length
  | 0, p, l, ks0, q, l', ks, hp, hf, e => by omega
  | f + 1, p, l, ks0, q, l', ks, hp, hf, e => by
    rw [pSeq_succ] at e
    rcases pItem_goes names s hn f p l hp (by omega) with ⟨w, a, _⟩ | ⟨q2, l2, a, hg⟩
    · rw [a] at e; cases e
    · rw [a] at e
      dsimp only at e
      have h1 := hg.len
      have h2 := hg.lt
      have h3 := hg.le
      split at e
      · rename_i h32
        have h4 := (bt_in s q2).1
        have := sq_ks hn f (q2 + 1) l2 _ q l' ks (by omega) (by omega) e
        rw [List.length_append, List.length_singleton] at this
        omega
      · cases e
        rw [List.length_append, List.length_singleton]
        omega
theorem sq_ks0 {names s : ByteArray} (hn : nmOk names) {f p q : Nat} {l l' : List Nd} {ks : List Int} (hp : p ≤ s.size) (hf : 2 * (s.size - p) + 2 ≤ f) (e : pSeq names s f p l [] = .ok q l' ks) : ks.length + l.length ≤ l'.length := by
  have := sq_ks hn f p l [] q l' ks hp hf e
  rwa [List.length_nil, Nat.zero_add] at this
theorem seq_step {names s : ByteArray} (hn : nmOk names) (hs : s.size ≤ 400) {f : Nat} (hI : ∀ g, g < f → ItOk names s g) : SqOk names s f := by
  intro p l hp hl hf
  refine ac_of_awp (N := ⟨_, fun _ => false, fun _ _ => rfl⟩) Try.func94 rfl (by kernel_rfl) Try.ntmps94 (by simp) ?_
  simp only [argsFr, List.zipIdx_cons, List.zipIdx_nil, go_sem]
  repeat' (first | refine awp_seqK fun K hK => ?_ | (refine awp_regionK 4195359 rfl ?_; simp only [List.map_cons, List.map_nil]; simp (maxSteps := 1000000) (dsimp := false) (implicitDefEqProofs := false) (disch := omega) only [wrap64, go_sem, scF_ndF]) | (refine awp_regionQK 4195359 (by kernel_rfl) (by kernel_rfl) (by kernel_rfl) ?_; simp only [List.map_cons, List.map_nil]; simp (maxSteps := 1000000) (dsimp := false) (implicitDefEqProofs := false) (disch := omega) only [wrap64, go_sem, scF_ndF]) | refine awp_block ?_ | (refine awp_skip ?_; simp only [go_sem, scF_ndF]) | (refine awp_exit ?_; simp only [go_sem, scF_ndF]) | (refine awp_ret ?_; try simp only [go_sem, scF_ndF]) | (refine awp_condP rfl ?_; try simp only [go_sem, scF_ndF]) | (refine BrP.mk (fun h => ?_) (fun h => ?_) <;> try simp (dsimp := false) (disch := omega) only [wrap64]) | (refine Br.mk (fun h => ?_) (fun h => ?_) <;> try simp (dsimp := false) (disch := omega) only [wrap64]) | refine Ob.mk (by first | omega | (intro _ _; rfl) | trivial | (intros; trivial) | assumption | (intro i hi; have h0 : i = 0 := (by omega); subst h0; first | rfl | trivial) | (intro i hi; have h0 : i = 0 ∨ i = 1 := (by omega); rcases h0 with rfl | rfl <;> rfl) | (intro i hi; have h0 : i = 0 ∨ i = 1 ∨ i = 2 := (by omega); rcases h0 with rfl | rfl | rfl <;> rfl)) ?_ | apply_assumption -exfalso -symm)
  all_goals (first | (show endQ _ _ _ _ _ _ _; (repeat (rename (∀ (A : Fr) (H : Hp), AWP _ _ _ _ A H → _) => hK; clear hK)); (repeat (rename (Fr → Hp → Prop) => K; clear K))) | (show Exists _; (repeat (rename (∀ (A : Fr) (H : Hp), AWP _ _ _ _ A H → _) => hK; clear hK)); (repeat (rename (Fr → Hp → Prop) => K; clear K))) | skip)
  refine awp_loop (ι := Nat × Nat × List Nd × List Int) (fun z => [(4, .own 5 0 1 z.2.2.2.length), (2, .ref 2 0), (1, .ref 1 0)]) (fun z => (((Hp.emp.upd 1000000 (.cells (z.2.2.1.length * 6) (ndF z.2.2.1))).upd 1 (.cells 5 (vecF [.v (.string (names)), .v (.string (s)), .v (.int .i64 ((z.2.1 : Nat))), .own 1000000 0 6 z.2.2.1.length, .v (.int .i64 ((-1 : Int)))]))).upd 2 (.cells 5 (zF [.string ⟨#[]⟩, .string ⟨#[]⟩, .int .i64 0, .slice none 0 0, .int .i64 0]))).upd 5 (.cells z.2.2.2.length (cM iv 0 z.2.2.2))) (fun z => pSeq names s f p l [] = pSeq names s z.1 z.2.1 z.2.2.1 z.2.2.2 ∧ z.1 ≤ f ∧ z.2.1 ≤ s.size ∧ z.2.2.1.length ≤ z.2.1 ∧ 2 * (s.size - z.2.1) + 2 ≤ z.1 ∧ z.2.2.2.length ≤ z.2.1) (fun z => z.1) (f, p, l, []) ⟨rfl, Nat.le_refl _, hp, hl, hf, Nat.zero_le _⟩ ?_ ?_
  · exact Sub.toL (by simp only [go_sem] <;> first | trivial | (simp only [Option.some.injEq, AV.v.injEq, AV.own.injEq, AV.list.injEq, Value.int.injEq, Value.bool.injEq, true_and, and_true]; first | omega | (simp; done)) | (simp; done) | (simp; omega)) (by repeat' (first | exact Hp.le_emp _ | exact Hp.le_refl _ | refine Hp.le_upd rfl ?_))
  rintro ⟨g, q, l1, ks⟩ ⟨h1, h2, h3, h4, h5, h6⟩
  dsimp only at h1 h2 h3 h4 h5 h6 ⊢
  obtain ⟨g, rfl⟩ : ∃ g', g = g' + 1 := ⟨g - 1, by omega⟩
  rw [pSeq_succ] at h1
  have h1 := Hold.mk h1
  repeat' (first | (show False; omega) | (refine Ob.mk (all5 rfl rfl rfl rfl rfl) ?_) | ((first | refine atF (f := 180) ?_ | refine atQ (f := 180) ?_); (refine callIt rfl (hI g (by omega) q l1 h3 h4 (by omega)) rfl (fun w q' l' e hq => ?_) (fun q' l' u e => have hb := it_bd hn h3 h4 (by omega) e; ?_)) <;> simp (maxSteps := 1000000) (dsimp := false) (implicitDefEqProofs := false) (disch := omega) only [wrap64, go_sem, scF_ndF, pN_low, pN_0, set5_2]) | refine awp_seqK fun K hK => ?_ | (refine awp_regionK 4195359 rfl ?_; simp only [List.map_cons, List.map_nil]; simp (maxSteps := 1000000) (dsimp := false) (implicitDefEqProofs := false) (disch := omega) only [wrap64, go_sem, scF_ndF, pN_low, pN_0, set5_2]) | (refine awp_regionQK 4195359 (by kernel_rfl) (by kernel_rfl) (by kernel_rfl) ?_; simp only [List.map_cons, List.map_nil]; simp (maxSteps := 1000000) (dsimp := false) (implicitDefEqProofs := false) (disch := omega) only [wrap64, go_sem, scF_ndF, pN_low, pN_0, set5_2]) | refine awp_block ?_ | (refine awp_skip ?_; simp only [go_sem, scF_ndF, pN_low, pN_0, set5_2]) | (refine awp_exit ?_; simp only [go_sem, scF_ndF, pN_low, pN_0, set5_2]) | (refine awp_ret ?_; try simp only [go_sem, scF_ndF, pN_low, pN_0, set5_2]) | (refine awp_condP rfl ?_; try simp only [go_sem, scF_ndF, pN_low, pN_0, set5_2]) | (refine BrP.mk (fun h => ?_) (fun h => ?_) <;> try simp (dsimp := false) (disch := omega) only [wrap64]) | (refine Br.mk (fun h => ?_) (fun h => ?_) <;> try simp (dsimp := false) (disch := omega) only [wrap64]) | refine Ob.mk (by first | omega | (intro _ _; rfl) | trivial | (intros; trivial) | assumption | (intro i hi; have h0 : i = 0 := (by omega); subst h0; first | rfl | trivial) | (intro i hi; have h0 : i = 0 ∨ i = 1 := (by omega); rcases h0 with rfl | rfl <;> rfl) | (intro i hi; have h0 : i = 0 ∨ i = 1 ∨ i = 2 := (by omega); rcases h0 with rfl | rfl | rfl <;> rfl)) ?_ | ((first | ((first | refine atF (f := 181) ?_ | refine atQ (f := 181) ?_); refine cV (hfit := .cons (fits_pd rfl rfl) .nil) (hac := currentByte_ok s _ (by omega) (by omega)) (hK := ?_))); simp (maxSteps := 1000000) (dsimp := false) (implicitDefEqProofs := false) (disch := omega) only [wrap64, go_sem, scF_ndF, pN_low, pN_0, set5_2]) | apply_assumption -exfalso -symm)
  all_goals (first | (show endQ _ _ _ _ _ _ _; (repeat (rename (∀ (A : Fr) (H : Hp), AWP _ _ _ _ A H → _) => hK; clear hK)); (repeat (rename (Fr → Hp → Prop) => K; clear K))) | (show Exists _; (repeat (rename (∀ (A : Fr) (H : Hp), AWP _ _ _ _ A H → _) => hK; clear hK)); (repeat (rename (Fr → Hp → Prop) => K; clear K))) | skip)
  · rename_i e
    have h := h1.h
    rw [e] at h
    rw [h]
    exact end_psq (ks := []) (w := (w : Nat)) rfl rfl (by decide) rfl rfl (by simp only [go_sem]; rfl) rfl rfl rfl rfl rfl rfl rfl rfl rfl (by decide) (by decide) (by decide) ⟨q', l', hq, rfl, rfl⟩
  · have h := h1.h
    have hq := (bt_in s q').1
    have h32 : Go.Nt.bt s q' = 32 := by omega
    rw [e] at h
    dsimp only at h
    rw [if_pos h32] at h
    refine ⟨(g, q' + 1, l', ks ++ [(l'.length : Int) - 1]), ⟨h, by dsimp only; omega, by dsimp only; omega, by dsimp only; omega, by dsimp only; omega, by dsimp only; rw [List.length_append, List.length_singleton]; omega⟩, by dsimp only; omega, Sub.toL (by simp only [go_sem] <;> first | trivial | (simp only [Option.some.injEq, AV.v.injEq, AV.own.injEq, AV.list.injEq, Value.int.injEq, Value.bool.injEq, true_and, and_true]; first | omega | (simp; done)) | (simp; done) | (simp; omega)) (by (repeat' (first | exact Hp.le_emp _ | exact Hp.le_refl _ | refine Hp.le_upd ?_ ?_)); all_goals (first | rfl | (simp only [go_sem]; first | rfl | (refine cellsE ?_ ?_ <;> (simp)) | (simp))))⟩
  · have h := h1.h
    have h32 : ¬ Go.Nt.bt s q' = 32 := by omega
    rw [e] at h
    dsimp only at h
    rw [if_neg h32] at h
    rw [h]
    exact end_psq (ks := ks ++ [(l'.length : Int) - 1]) (w := -1) rfl rfl (by decide) rfl rfl (by simp only [go_sem]; rfl) rfl rfl rfl rfl rfl rfl rfl rfl (by rw [List.length_append, List.length_singleton]) (by decide) (by decide) (by decide) ⟨rfl, rfl⟩
end Go.Proofs.Ytphpegemhnodcaa
end
/- The reference's parser of notations: brackets and items. -/
section
namespace Go.Proofs.Ytphpegemhnodcaa
open Go.Av
set_option linter.unusedSimpArgs false
set_option linter.unusedVariables false
attribute [local irreducible] AWP CallG Ob Br BrP Go.Av.Sub endQ AOps OpV AC thenA blkA opsVC opVC withA withArgs opsQ opQ CallQ withA2 withArgs2
open Go.Nt (Nd nd0 kd li liF dig pInv pSuf pItem pSeq Pr Goes nmOk pItem_goes pSeq_goes)
section
variable {P : Program} {N : Cx} {A A' : Fr} {H H' : Hp}
theorem callEx1 {f : FuncId} {args : List AV} {names s : ByteArray} (c : Nat) {q : Nat} {l : List Nd} {K : AV → Fr → Hp → Prop} (hH : H 1000000 = some (.cells (l.length * 6) (ndF l))) (hac : AC P f args (hN l) pM (fun r H => r = ps names s (xB s c q (-1)).1 l (xB s c q (-1)).2 ∧ H = hN l))
    (h1 : Go.Nt.bt s q = c → K (ps names s (q + 1) l (-1)) A H) (h2 : ¬ Go.Nt.bt s q = c → K (ps names s q l (q : Nat)) A H) : CallG P N f args A H K := by
  refine callPs hH hac ?_
  by_cases h : Go.Nt.bt s q = c
  · have : xB s c q (-1) = (q + 1, -1) := if_pos h
    rw [this]; exact h1 h
  · have : xB s c q (-1) = (q, (q : Int)) := if_neg h
    rw [this]; exact h2 h
theorem callEx2 {f : FuncId} {args : List AV} {names s : ByteArray} (c : Nat) {q w : Nat} {l : List Nd} {K : AV → Fr → Hp → Prop} (hc : 0 < c) (hq : q ≤ s.size) (hH : H 1000000 = some (.cells (l.length * 6) (ndF l))) (hac : AC P f args (hN l) pM (fun r H => r = ps names s (xB s c q (w : Nat)).1 l (xB s c q (w : Nat)).2 ∧ H = hN l))
    (h1 : ∀ q', q' ≤ s.size → K (ps names s q' l (w : Nat)) A H) : CallG P N f args A H K := by
  refine callPs hH hac ?_
  have hb := (bt_in s q).1
  by_cases h : Go.Nt.bt s q = c
  · have : xB s c q (w : Nat) = (q + 1, (w : Int)) := if_pos h
    rw [this]; exact h1 _ (by omega)
  · have : xB s c q (w : Nat) = (q, (w : Int)) := by
      unfold xB
      rw [if_neg h, if_neg (by omega)]
    rw [this]; exact h1 _ hq
end
def pBr (names s : ByteArray) (f p : Nat) (l : List Nd) : Pr Unit := match pSeq names s f p l [] with
  | .out => .out
  | .bad w => .bad w
  | .ok q l1 a =>
    if Go.Nt.bt s q = 58 ∨ Go.Nt.bt s q = 44 then
      match pSeq names s f (q + 1) l1 [] with
      | .out => .out
      | .bad w => .bad w
      | .ok r l2 b => if Go.Nt.bt s r = 93 then pSuf s (r + 1) l2 ⟨if Go.Nt.bt s q = 58 then 4 else 3, 0, 0, 0, (a.length : Int), a ++ b⟩ else .bad r
    else .bad q
section
variable {names s : ByteArray} {f p : Nat} {l : List Nd}
theorem pBr_b1 {w : Nat} (e : pSeq names s f p l [] = .bad w) : pBr names s f p l = .bad w := by unfold pBr; rw [e]
theorem pBr_b2 {q1 w : Nat} {l1 : List Nd} {a : List Int} (e : pSeq names s f p l [] = .ok q1 l1 a) (h : Go.Nt.bt s q1 = 58 ∨ Go.Nt.bt s q1 = 44) (e2 : pSeq names s f (q1 + 1) l1 [] = .bad w) : pBr names s f p l = .bad w := by
  unfold pBr; rw [e]; dsimp only; rw [if_pos h, e2]
theorem pBr_b3 {q1 q2 : Nat} {l1 l2 : List Nd} {a b : List Int} (e : pSeq names s f p l [] = .ok q1 l1 a) (h : Go.Nt.bt s q1 = 58 ∨ Go.Nt.bt s q1 = 44) (e2 : pSeq names s f (q1 + 1) l1 [] = .ok q2 l2 b) (h2 : ¬ Go.Nt.bt s q2 = 93) : pBr names s f p l = .bad q2 := by
  unfold pBr; rw [e]; dsimp only; rw [if_pos h, e2]; dsimp only; rw [if_neg h2]
theorem pBr_b4 {q1 : Nat} {l1 : List Nd} {a : List Int} (e : pSeq names s f p l [] = .ok q1 l1 a) (h : ¬ (Go.Nt.bt s q1 = 58 ∨ Go.Nt.bt s q1 = 44)) : pBr names s f p l = .bad q1 := by
  unfold pBr; rw [e]; dsimp only; rw [if_neg h]
theorem pBr_ok {q1 q2 : Nat} {l1 l2 : List Nd} {a b : List Int} {k : Int} (e : pSeq names s f p l [] = .ok q1 l1 a) (h : Go.Nt.bt s q1 = 58 ∧ k = 4 ∨ ¬ Go.Nt.bt s q1 = 58 ∧ Go.Nt.bt s q1 = 44 ∧ k = 3) (e2 : pSeq names s f (q1 + 1) l1 [] = .ok q2 l2 b) (h2 : Go.Nt.bt s q2 = 93) : pBr names s f p l = pSuf s (q2 + 1) l2 ⟨k, 0, 0, 0, (a.length : Int), a ++ b⟩ := by
  unfold pBr; rw [e]; dsimp only; rw [if_pos (by omega), e2]; dsimp only; rw [if_pos h2]
  have : (if Go.Nt.bt s q1 = 58 then (4 : Int) else 3) = k := by split <;> omega
  rw [this]
end
def rho77 (g : Nat) : Option Nat := if g = 77 then some 1000001 else some g
theorem rho77_inj {x y k : Nat} (hx : x ≠ 1000001) (hy : y ≠ 1000001) (h1 : rho77 x = some k) (h2 : rho77 y = some k) : x = y := by
  unfold rho77 at h1 h2
  split at h1 <;> split at h2 <;> simp only [Option.some.injEq] at h1 h2 <;> omega
def zPs : Nat → AV := zF [.string ⟨#[]⟩, .string ⟨#[]⟩, .int .i64 0, .slice none 0 0, .int .i64 0]
/-- What lies in memory while a bracket is read. -/
def hB1 (names s : ByteArray) (q : Nat) (l : List Nd) (a : List Int) (k : Int) : Hp := ((((Hp.emp.upd 1000000 (.cells (l.length * 6) (ndF l))).upd 77 (.cells a.length (cM iv 0 a))).upd 5 (.cells 6 (vecF [.v (.int .i64 (k)), .v (.int .i64 (0)), .v (.int .i64 (0)), .v (.int .i64 (0)), .v (.int .i64 (a.length)), .v (.slice none 0 0)]))).upd 3 (.cells 5 (vecF [.v (.string (names)), .v (.string (s)), .v (.int .i64 ((q : Nat))), .own 1000000 0 6 l.length, .v (.int .i64 ((-1 : Int)))]))).upd 2 (.cells 5 zPs)
/-- .. once both its parts are read. -/
def hB2 (names s : ByteArray) (q : Nat) (l : List Nd) (a : List Int) (n : Nat) (k : Int) : Hp := (((Hp.emp.upd 1000000 (.cells (l.length * 6) (ndF l))).upd 5 (.cells 6 (vecF [.v (.int .i64 (k)), .v (.int .i64 (0)), .v (.int .i64 (0)), .v (.int .i64 (0)), .v (.int .i64 (n)), .list false 1 (a).length (cM iv 0 (a))]))).upd 6 (.cells 5 (vecF [.v (.string (names)), .v (.string (s)), .v (.int .i64 ((q : Nat))), .own 1000000 0 6 l.length, .v (.int .i64 ((-1 : Int)))]))).upd 2 (.cells 5 zPs)
theorem hB1_ne {names s : ByteArray} {q : Nat} {l : List Nd} {a : List Int} {k : Int} {h : Nat} (hn : hB1 names s q l a k h ≠ none) : h ≠ 1000001 := by
  rintro rfl
  exact hn rfl
set_option maxHeartbeats 4000000 in
theorem br_step {names s : ByteArray} (hn : nmOk names) (hs : s.size ≤ 400) {f : Nat} (hS : SqOk names s f) (p : Nat) (l : List Nd) (hp : p ≤ s.size) (hl : l.length ≤ p) (hf : 2 * (s.size - p) + 2 ≤ f) : AC Try.prog 225 [ps names s p l (-1)] (hN l) (fun _ => false) (postI names s (pBr names s f p l)) := by
  refine ac_of_awp (N := ⟨_, fun _ => false, fun _ _ => rfl⟩) Try.func225 rfl (by kernel_rfl) Try.ntmps225 (by simp) ?_
  simp only [argsFr, List.zipIdx_cons, List.zipIdx_nil, go_sem]
  repeat' (first | (show False; omega) | (refine awp_cutR 9 26 (A' := [(5, .ref 5 0), (4, .own 77 0 1 ks1.length), (3, .ref 3 0), (2, .ref 2 0)]) (H' := hB1 names s (q1 + 1) l1 ks1 4) (Sub.layM rho77 rfl (lay_cons ⟨_, rfl, .ref rfl⟩ (lay_cons ⟨_, rfl, .own rfl⟩ (lay_cons ⟨_, rfl, .ref rfl⟩ (lay_cons ⟨_, rfl, .ref rfl⟩ lay_nil)))) (layF_upd (g := 2) rfl rfl (fun i hi => .plain trivial) (layF_upd (g := 3) rfl rfl (all5 (.plain trivial) (.plain trivial) (.plain trivial) (.own rfl) (.plain trivial)) (layF_upd (g := 5) rfl rfl (all6 (.plain trivial) (.plain trivial) (.plain trivial) (.plain trivial) (.plain trivial) (.plain trivial)) (layF_upd (g := 1000001) rfl rfl (fun _ _ => .plain trivial) (layF_upd (g := 1000000) rfl rfl (fun i hi => .plain (ndF_plain l1 i).1) layF_emp))))) (fun x y k hx hy e1 e2 => rho77_inj (hB1_ne hx) (hB1_ne hy) e1 e2)) ?_; unfold hB1 zPs) | (refine awp_cutR 9 26 (A' := [(5, .ref 5 0), (4, .own 77 0 1 ks1.length), (3, .ref 3 0), (2, .ref 2 0)]) (H' := hB1 names s (q1 + 1) l1 ks1 3) (Sub.layM rho77 rfl (lay_cons ⟨_, rfl, .ref rfl⟩ (lay_cons ⟨_, rfl, .own rfl⟩ (lay_cons ⟨_, rfl, .ref rfl⟩ (lay_cons ⟨_, rfl, .ref rfl⟩ lay_nil)))) (layF_upd (g := 2) rfl rfl (fun i hi => .plain trivial) (layF_upd (g := 3) rfl rfl (all5 (.plain trivial) (.plain trivial) (.plain trivial) (.own rfl) (.plain trivial)) (layF_upd (g := 5) rfl rfl (all6 (.plain trivial) (.plain trivial) (.plain trivial) (.plain trivial) (.plain trivial) (.plain trivial)) (layF_upd (g := 1000001) rfl rfl (fun _ _ => .plain trivial) (layF_upd (g := 1000000) rfl rfl (fun i hi => .plain (ndF_plain l1 i).1) layF_emp))))) (fun x y k hx hy e1 e2 => rho77_inj (hB1_ne hx) (hB1_ne hy) e1 e2)) ?_; unfold hB1 zPs) | (refine awp_cutR 14 37 (A' := [(6, .ref 6 0), (5, .ref 5 0), (2, .ref 2 0)]) (H' := hB2 names s (q2 + 1) l2 (ks1 ++ ks2) ks1.length 4) (Sub.toFF (fun x => x = 77) (Fr.fit_cons rfl (.refl _) (Fr.fit_cons rfl (.refl _) (Fr.fit_cons rfl (.refl _) (Fr.fit_nil _)))) (leF_upd rfl (.refl _ _ _) (leF_upd rfl ⟨rfl, all5 (.refl _) (.refl _) (.refl _) (.refl _) (.refl _)⟩ (leF_upd rfl ⟨rfl, all6 (.refl _) (.refl _) (.refl _) (.refl _) (.refl _) (fits_I rfl rfl rfl (by rw [List.length_append]))⟩ (leF_upd rfl (.refl _ _ _) leF_emp (by decide)) (by decide)) (by decide)) (by decide))) ?_; unfold hB2 zPs) | (refine awp_cutR 14 37 (A' := [(6, .ref 6 0), (5, .ref 5 0), (2, .ref 2 0)]) (H' := hB2 names s (q2 + 1) l2 (ks1 ++ ks2) ks1.length 3) (Sub.toFF (fun x => x = 77) (Fr.fit_cons rfl (.refl _) (Fr.fit_cons rfl (.refl _) (Fr.fit_cons rfl (.refl _) (Fr.fit_nil _)))) (leF_upd rfl (.refl _ _ _) (leF_upd rfl ⟨rfl, all5 (.refl _) (.refl _) (.refl _) (.refl _) (.refl _)⟩ (leF_upd rfl ⟨rfl, all6 (.refl _) (.refl _) (.refl _) (.refl _) (.refl _) (fits_I rfl rfl rfl (by rw [List.length_append]))⟩ (leF_upd rfl (.refl _ _ _) leF_emp (by decide)) (by decide)) (by decide)) (by decide))) ?_; unfold hB2 zPs) | (refine Ob.mk (all5 rfl rfl rfl rfl rfl) ?_) | (refine Ob.mk (all6 rfl rfl rfl rfl rfl rfl) ?_) | ((first | refine atF (f := 94) ?_ | refine atQ (f := 94) ?_); (first | refine callSq rfl (hS p l hp hl hf) rfl (fun w1 q1 l1 e1 hq1 => ?_) (fun q1 l1 ks1 e1 => have hb1 := sq_bd hn hp hl hf e1; have hk1 := sq_ks0 hn hp hf e1; have ht1 := bt_in s q1; ?_) | refine callSq rfl (hS (q1 + 1) l1 (by omega) (by omega) (by omega)) rfl (fun w2 q2 l2 e2 hq2 => ?_) (fun q2 l2 ks2 e2 => have hb2 := sq_bd hn (by omega) (by omega) (by omega) e2; have hk2 := sq_ks0 hn (by omega) (by omega) e2; have ht2 := bt_in s q2; ?_)) <;> simp (maxSteps := 1000000) (dsimp := false) (implicitDefEqProofs := false) (disch := omega) only [wrap64, go_sem, scF_ndF, pN_low, pN_0, pN_1, Nat.le_refl, List.length_nil, List.getElem?_cons_zero, List.getElem?_cons_succ, set5_2]) | ((first | refine atF (f := 224) ?_ | refine atQ (f := 224) ?_); (first | refine callEx1 58 rfl (expectByte_ok names s 58 q1 l1 (-1) (by omega) (by omega) (by omega)) (fun hx1 => ?_) (fun hx1 => ?_) | refine callEx1 44 rfl (expectByte_ok names s 44 q1 l1 (-1) (by omega) (by omega) (by omega)) (fun hx1 => ?_) (fun hx1 => ?_) | refine callEx1 93 rfl (expectByte_ok names s 93 q2 l2 (-1) (by omega) (by omega) (by omega)) (fun hx2 => ?_) (fun hx2 => ?_) | refine callEx2 93 (by omega) hq2 rfl (expectByte_ok names s 93 q2 l2 w2 (by omega) hq2 (by omega)) (fun q4 hq4 => ?_) | refine callEx2 58 (by omega) hq1 rfl (expectByte_ok names s 58 q1 l1 w1 (by omega) hq1 (by omega)) (fun q3 hq3 => ?_) | refine callEx2 44 (by omega) hq1 rfl (expectByte_ok names s 44 q1 l1 w1 (by omega) hq1 (by omega)) (fun q3 hq3 => ?_)) <;> simp (maxSteps := 1000000) (dsimp := false) (implicitDefEqProofs := false) (disch := omega) only [wrap64, go_sem, scF_ndF, pN_low, pN_0, pN_1, Nat.le_refl, List.length_nil, List.getElem?_cons_zero, List.getElem?_cons_succ, set5_2]) | ((first | refine atF (f := 223) ?_ | refine atQ (f := 223) ?_); (first | refine callIt rfl (parseSuffix_ok names s (q2 + 1) l2 ⟨4, 0, 0, 0, (ks1.length : Int), ks1 ++ ks2⟩ (by omega) hs (by omega) (by show (ks1 ++ ks2).length ≤ 400; rw [List.length_append]; omega) ⟨rfl, rfl⟩) rfl (fun w5 q5 l5 e5 hq5 => ?_) (fun q5 l5 u5 e5 => ?_) | refine callIt rfl (parseSuffix_ok names s (q2 + 1) l2 ⟨3, 0, 0, 0, (ks1.length : Int), ks1 ++ ks2⟩ (by omega) hs (by omega) (by show (ks1 ++ ks2).length ≤ 400; rw [List.length_append]; omega) ⟨rfl, rfl⟩) rfl (fun w5 q5 l5 e5 hq5 => ?_) (fun q5 l5 u5 e5 => ?_)) <;> simp (maxSteps := 1000000) (dsimp := false) (implicitDefEqProofs := false) (disch := omega) only [wrap64, go_sem, scF_ndF, pN_low, pN_0, pN_1, Nat.le_refl, List.length_nil, List.getElem?_cons_zero, List.getElem?_cons_succ, set5_2]) | refine awp_seqK fun K hK => ?_ | (refine awp_regionK 137506324735 rfl ?_; simp only [List.map_cons, List.map_nil]; simp (maxSteps := 1000000) (dsimp := false) (implicitDefEqProofs := false) (disch := omega) only [wrap64, go_sem, scF_ndF, pN_low, pN_0, pN_1, Nat.le_refl, List.length_nil, List.getElem?_cons_zero, List.getElem?_cons_succ, set5_2]) | (refine awp_regionQK 137506324735 (by kernel_rfl) (by kernel_rfl) (by kernel_rfl) ?_; simp only [List.map_cons, List.map_nil]; simp (maxSteps := 1000000) (dsimp := false) (implicitDefEqProofs := false) (disch := omega) only [wrap64, go_sem, scF_ndF, pN_low, pN_0, pN_1, Nat.le_refl, List.length_nil, List.getElem?_cons_zero, List.getElem?_cons_succ, set5_2]) | refine awp_block ?_ | (refine awp_skip ?_; simp only [go_sem, scF_ndF, pN_low, pN_0, pN_1, Nat.le_refl, List.length_nil, List.getElem?_cons_zero, List.getElem?_cons_succ, set5_2]) | (refine awp_exit ?_; simp only [go_sem, scF_ndF, pN_low, pN_0, pN_1, Nat.le_refl, List.length_nil, List.getElem?_cons_zero, List.getElem?_cons_succ, set5_2]) | (refine awp_ret ?_; try simp only [go_sem, scF_ndF, pN_low, pN_0, pN_1, Nat.le_refl, List.length_nil, List.getElem?_cons_zero, List.getElem?_cons_succ, set5_2]) | (refine awp_condP rfl ?_; try simp only [go_sem, scF_ndF, pN_low, pN_0, pN_1, Nat.le_refl, List.length_nil, List.getElem?_cons_zero, List.getElem?_cons_succ, set5_2]) | (refine BrP.mk (fun h => ?_) (fun h => ?_) <;> try simp (dsimp := false) (disch := omega) only [wrap64]) | (refine Br.mk (fun h => ?_) (fun h => ?_) <;> try simp (dsimp := false) (disch := omega) only [wrap64]) | refine Ob.mk (by first | omega | (intro _ _; rfl) | trivial | (intros; trivial) | assumption | (intro i hi; have h0 : i = 0 := (by omega); subst h0; first | rfl | trivial) | (intro i hi; have h0 : i = 0 ∨ i = 1 := (by omega); rcases h0 with rfl | rfl <;> rfl) | (intro i hi; have h0 : i = 0 ∨ i = 1 ∨ i = 2 := (by omega); rcases h0 with rfl | rfl | rfl <;> rfl)) ?_ | ((first | ((first | refine atF (f := 181) ?_ | refine atQ (f := 181) ?_); refine cV (hfit := .cons (fits_pd rfl rfl) .nil) (hac := currentByte_ok s _ (by omega) (by omega)) (hK := ?_))); simp (maxSteps := 1000000) (dsimp := false) (implicitDefEqProofs := false) (disch := omega) only [wrap64, go_sem, scF_ndF, pN_low, pN_0, pN_1, Nat.le_refl, List.length_nil, List.getElem?_cons_zero, List.getElem?_cons_succ, set5_2]) | apply_assumption -exfalso -symm)
  all_goals (first | (show endQ _ _ _ _ _ _ _; (repeat (rename (∀ (A : Fr) (H : Hp), AWP _ _ _ _ A H → _) => hK; clear hK)); (repeat (rename (Fr → Hp → Prop) => K; clear K))) | (show Exists _; (repeat (rename (∀ (A : Fr) (H : Hp), AWP _ _ _ _ A H → _) => hK; clear hK)); (repeat (rename (Fr → Hp → Prop) => K; clear K))) | skip)
  all_goals first
  | (rw [pBr_b1 e1]; exact end_ps (p := q3) (l := l1) (w := (w1 : Nat)) rfl rfl (by simp only [go_sem]; rfl) rfl rfl rfl rfl rfl rfl rfl rfl (fun _ _ => rfl) (by decide) ⟨q3, l1, hq3, rfl, rfl⟩)
  | (rw [pBr_b2 e1 (by omega) e2]; exact end_ps (p := q4) (l := l2) (w := (w2 : Nat)) rfl rfl (by simp only [go_sem]; rfl) rfl rfl rfl rfl rfl rfl rfl rfl (fun _ _ => rfl) (by decide) ⟨q4, l2, hq4, rfl, rfl⟩)
  | (rw [pBr_b3 e1 (by omega) e2 (by omega)]; exact end_ps (p := q2) (l := l2) (w := (q2 : Nat)) rfl rfl (by simp only [go_sem]; rfl) rfl rfl rfl rfl rfl rfl rfl rfl (fun _ _ => rfl) (by decide) ⟨q2, l2, by omega, rfl, rfl⟩)
  | (rw [pBr_b4 e1 (by omega)]; exact end_ps (p := q1) (l := l1) (w := (q1 : Nat)) rfl rfl (by simp only [go_sem]; rfl) rfl rfl rfl rfl rfl rfl rfl rfl (fun _ _ => rfl) (by decide) ⟨q1, l1, by omega, rfl, rfl⟩)
  | (rw [pBr_ok (k := 4) e1 (by omega) e2 (by omega), e5]; first | exact end_ps (p := q5) (l := l5) (w := (w5 : Nat)) rfl rfl (by simp only [go_sem]; rfl) rfl rfl rfl rfl rfl rfl rfl rfl (fun _ _ => rfl) (by decide) ⟨q5, l5, hq5, rfl, rfl⟩ | exact end_ps (p := q5) (l := l5) (w := -1) rfl rfl (by simp only [go_sem]; rfl) rfl rfl rfl rfl rfl rfl rfl rfl (fun _ _ => rfl) (by decide) ⟨rfl, rfl⟩)
  | (rw [pBr_ok (k := 3) e1 (by omega) e2 (by omega), e5]; first | exact end_ps (p := q5) (l := l5) (w := (w5 : Nat)) rfl rfl (by simp only [go_sem]; rfl) rfl rfl rfl rfl rfl rfl rfl rfl (fun _ _ => rfl) (by decide) ⟨q5, l5, hq5, rfl, rfl⟩ | exact end_ps (p := q5) (l := l5) (w := -1) rfl rfl (by simp only [go_sem]; rfl) rfl rfl rfl rfl rfl rfl rfl rfl (fun _ _ => rfl) (by decide) ⟨rfl, rfl⟩)
end Go.Proofs.Ytphpegemhnodcaa
end

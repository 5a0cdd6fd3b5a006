import Derived.Test.YtphpegemhnodcaaV13
import Derived.Lib.Strings
import Derived.Lib.Slices
import Derived.Lib.Walk
import Derived.Lib.Bytealg
/- The reference's parser of notations: items; the parser whole. -/
section
namespace Go.Proofs.Ytphpegemhnodcaa
open Go.Av
set_option linter.unusedSimpArgs false
set_option linter.unusedVariables false
attribute [local irreducible] AWP CallG Ob Br BrP Go.Av.Sub endQ AOps OpV AC thenA blkA opsVC opVC withA withArgs opsQ opQ CallQ withA2 withArgs2
open Go.Nt (Nd nd0 kd li liF dig pInv pSuf pItem pSeq Pr Goes nmOk pItem_goes pSeq_goes)
section
variable {P : Program} {N : Cx} {A A' : Fr} {H H' : Hp}
/-- One cell is told as another, or nil as a row without elements. -/
def CellTo (g f : AV) : Prop := f = g ∨ (g = .v (.slice none 0 0) ∧ ∃ sz F, f = .list false sz 0 F)
theorem CellTo.rd {g f : AV} (h : CellTo g f) {w : World} {ok : Nat → Prop} {L : Go.Av.Loc} {u : Value} (hu : Rd w ok L g u) : Rd w ok L f u := by
  rcases h with rfl | ⟨rfl, sz, F, rfl⟩
  · exact hu
  · cases hu
    exact ⟨none, 0, rfl, Nat.le_refl _, by simp, fun _ => ⟨rfl, rfl⟩, by simp⟩
theorem AC.agg2 {F : FuncId} {a : AV} {n : Nat} {f g : Nat → AV} {Hin : Hp} {pn : Nat → Bool} {post : AV → Hp → Prop} (hac : AC P F [a, .agg n f] Hin pn post) (hfg : ∀ i, i < n → CellTo (g i) (f i)) : AC P F [a, .agg n g] Hin pn post := by
  unfold AC at hac ⊢
  refine ⟨hac.1, fun S w L vs h1 h2 h3 h4 => hac.2 S w L vs h1 h2 h3 ⟨h4.1, fun i c hc => ?_⟩⟩
  match i, hc with
  | 0, hc =>
    simp only [List.getElem?_cons_zero, Option.some.injEq] at hc
    subst hc
    exact h4.2 0 _ rfl
  | 1, hc =>
    simp only [List.getElem?_cons_succ, List.getElem?_cons_zero, Option.some.injEq] at hc
    subst hc
    obtain ⟨u, e, cs, rfl, hz, hr⟩ := h4.2 1 _ rfl
    exact ⟨_, e, cs, rfl, hz, fun i hi => let ⟨c, k1, k2⟩ := hr i hi; ⟨c, k1, (hfg i hi).rd k2⟩⟩
  | i + 2, hc => simp at hc
end
section
variable {names s : ByteArray} {f p : Nat} {l : List Nd}
theorem liI_some {c : Nat} (h : 0 ≤ liI names c) : ∃ m, li names c = some m ∧ liI names c = (m : Int) := by
  unfold liI at h ⊢
  cases e : li names c with
  | some m => exact ⟨m, rfl, rfl⟩
  | none => rw [e] at h; simp only at h; omega
theorem liI_none {c : Nat} (h : ¬ 0 ≤ liI names c) : li names c = none := by
  unfold liI at h
  cases e : li names c with
  | some m => rw [e] at h; simp only at h; omega
  | none => rfl
theorem pIt_mv (h : 0 ≤ liI names (Go.Nt.bt s p)) : pItem names s (f + 1) p l = pSuf s (p + 1) l ⟨1, liI names (Go.Nt.bt s p), 0, 0, 0, []⟩ := by
  obtain ⟨m, e1, e2⟩ := liI_some h
  rw [pItem, e1, e2]
theorem pIt_sq (h : ¬ 0 ≤ liI names (Go.Nt.bt s p)) (h2 : Go.Nt.bt s p = 40) : pItem names s (f + 1) p l = match pSeq names s f (p + 1) l [] with
    | .out => .out
    | .bad w => .bad w
    | .ok q l' ks => if Go.Nt.bt s q = 41 then pSuf s (q + 1) l' ⟨2, 0, 0, 0, 0, ks⟩ else .bad q := by
  rw [pItem, liI_none h]; dsimp only; rw [if_pos h2]
  rfl
theorem pIt_s1 (h : ¬ 0 ≤ liI names (Go.Nt.bt s p)) (h2 : Go.Nt.bt s p = 40) {w : Nat} (e : pSeq names s f (p + 1) l [] = .bad w) : pItem names s (f + 1) p l = .bad w := by
  rw [pIt_sq h h2, e]
theorem pIt_s2 (h : ¬ 0 ≤ liI names (Go.Nt.bt s p)) (h2 : Go.Nt.bt s p = 40) {q : Nat} {l' : List Nd} {ks : List Int} (e : pSeq names s f (p + 1) l [] = .ok q l' ks) (h3 : ¬ Go.Nt.bt s q = 41) : pItem names s (f + 1) p l = .bad q := by
  rw [pIt_sq h h2, e]; dsimp only; rw [if_neg h3]
theorem pIt_s3 (h : ¬ 0 ≤ liI names (Go.Nt.bt s p)) (h2 : Go.Nt.bt s p = 40) {q : Nat} {l' : List Nd} {ks : List Int} (e : pSeq names s f (p + 1) l [] = .ok q l' ks) (h3 : Go.Nt.bt s q = 41) : pItem names s (f + 1) p l = pSuf s (q + 1) l' ⟨2, 0, 0, 0, 0, ks⟩ := by
  rw [pIt_sq h h2, e]; dsimp only; rw [if_pos h3]
theorem pIt_br (h : ¬ 0 ≤ liI names (Go.Nt.bt s p)) (h2 : Go.Nt.bt s p = 91) : pItem names s (f + 1) p l = pBr names s f (p + 1) l := by
  rw [pItem, liI_none h]; dsimp only; rw [if_neg (by omega), if_pos h2]
  rfl
theorem pIt_no (h : ¬ 0 ≤ liI names (Go.Nt.bt s p)) (h2 : ¬ Go.Nt.bt s p = 40) (h3 : ¬ Go.Nt.bt s p = 91) : pItem names s (f + 1) p l = .bad p := by
  rw [pItem, liI_none h]; dsimp only; rw [if_neg h2, if_neg h3]
end
/-- What lies in memory when a sequence in parentheses is read. -/
def hP1 (names s : ByteArray) (q : Nat) (l : List Nd) : Hp := ((Hp.emp.upd 1000000 (.cells (l.length * 6) (ndF l))).upd 5 (.cells 5 (vecF [.v (.string (names)), .v (.string (s)), .v (.int .i64 ((q : Nat))), .own 1000000 0 6 l.length, .v (.int .i64 ((-1 : Int)))]))).upd 2 (.cells 5 zPs)
set_option maxHeartbeats 4000000 in
theorem it_step {names s : ByteArray} (hn : nmOk names) (hs : s.size ≤ 400) {f : Nat} (hS : SqOk names s f) : ItOk names s (f + 1) := by
  intro p l hp hl hf
  have hns := hn.1
  have ht0 := bt_in s p
  have hm : 0 ≤ liI names (Go.Nt.bt s p) → p < s.size := fun h => by
    obtain ⟨m, e1, _⟩ := liI_some h
    have := (Go.Nt.li_byte hn e1).2
    omega
  have hm' : p < s.size ∨ ¬ 0 ≤ liI names (Go.Nt.bt s p) := by
    by_cases h : 0 ≤ liI names (Go.Nt.bt s p)
    · exact .inl (hm h)
    · exact .inr h
  clear hm
  refine ac_of_awp (N := ⟨_, fun _ => false, fun _ _ => rfl⟩) Try.func180 rfl (by kernel_rfl) Try.ntmps180 (by simp) ?_
  simp only [argsFr, List.zipIdx_cons, List.zipIdx_nil, go_sem]
  repeat' (first | (show False; omega) | (refine awp_cutR 12 40 (A' := [(6, .list false 1 (ks1).length (cM iv 0 (ks1))), (5, .ref 5 0), (2, .ref 2 0)]) (H' := hP1 names s (q1 + 1) l1) (Sub.toFF (fun x => x = 1000001) (Fr.fit_cons rfl (fits_I rfl rfl rfl rfl) (Fr.fit_cons rfl (.refl _) (Fr.fit_cons rfl (.refl _) (Fr.fit_nil _)))) (leF_upd rfl (.refl _ _ _) (leF_upd rfl ⟨rfl, all5 (.refl _) (.refl _) (.refl _) (.refl _) (.refl _)⟩ (leF_upd rfl (.refl _ _ _) leF_emp (by decide)) (by decide)) (by decide))) ?_; unfold hP1 zPs) | (refine Ob.mk (all5 rfl rfl rfl rfl rfl) ?_) | ((first | refine atF (f := 94) ?_ | refine atQ (f := 94) ?_); (refine callSq rfl (hS (p + 1) l (by omega) (by omega) (by omega)) rfl (fun w1 q1 l1 e1 hq1 => ?_) (fun q1 l1 ks1 e1 => have hb1 := sq_bd hn (by omega) (by omega) (by omega) e1; have hk1 := sq_ks0 hn (by omega) (by omega) e1; have ht1 := bt_in s q1; ?_)) <;> simp (maxSteps := 1000000) (dsimp := false) (implicitDefEqProofs := false) (disch := omega) only [wrap64, go_sem, scF_ndF, pN_low, pN_0, pN_1, Nat.le_refl, List.length_nil, List.getElem?_cons_zero, List.getElem?_cons_succ, set5_2]) | ((first | refine atF (f := 224) ?_ | refine atQ (f := 224) ?_); (first | refine callEx1 41 rfl (expectByte_ok names s 41 q1 l1 (-1) (by omega) (by omega) (by omega)) (fun hx1 => ?_) (fun hx1 => ?_) | refine callEx2 41 (by omega) hq1 rfl (expectByte_ok names s 41 q1 l1 w1 (by omega) hq1 (by omega)) (fun q3 hq3 => ?_)) <;> simp (maxSteps := 1000000) (dsimp := false) (implicitDefEqProofs := false) (disch := omega) only [wrap64, go_sem, scF_ndF, pN_low, pN_0, pN_1, Nat.le_refl, List.length_nil, List.getElem?_cons_zero, List.getElem?_cons_succ, set5_2]) | ((first | refine atF (f := 225) ?_ | refine atQ (f := 225) ?_); (refine callIt rfl (br_step hn hs hS (p + 1) l (by omega) (by omega) (by omega)) rfl (fun w5 q5 l5 e5 hq5 => ?_) (fun q5 l5 u5 e5 => ?_)) <;> simp (maxSteps := 1000000) (dsimp := false) (implicitDefEqProofs := false) (disch := omega) only [wrap64, go_sem, scF_ndF, pN_low, pN_0, pN_1, Nat.le_refl, List.length_nil, List.getElem?_cons_zero, List.getElem?_cons_succ, set5_2]) | ((first | refine atF (f := 223) ?_ | refine atQ (f := 223) ?_); (first | refine callIt rfl (AC.agg2 (parseSuffix_ok names s (p + 1) l ⟨1, liI names (Go.Nt.bt s p), 0, 0, 0, []⟩ (by omega) hs (by omega) (Nat.zero_le _) ⟨rfl, rfl⟩) (all6 (.inl rfl) (.inl rfl) (.inl rfl) (.inl rfl) (.inl rfl) (.inr ⟨rfl, _, _, rfl⟩))) rfl (fun w5 q5 l5 e5 hq5 => ?_) (fun q5 l5 u5 e5 => ?_) | refine callIt rfl (AC.agg2 (parseSuffix_ok names s (q1 + 1) l1 ⟨2, 0, 0, 0, 0, ks1⟩ (by omega) hs (by omega) (by show ks1.length ≤ 400; omega) ⟨rfl, rfl⟩) (all6 (.inl rfl) (.inl rfl) (.inl rfl) (.inl rfl) (.inl rfl) (.inl rfl))) rfl (fun w5 q5 l5 e5 hq5 => ?_) (fun q5 l5 u5 e5 => ?_)) <;> simp (maxSteps := 1000000) (dsimp := false) (implicitDefEqProofs := false) (disch := omega) only [wrap64, go_sem, scF_ndF, pN_low, pN_0, pN_1, Nat.le_refl, List.length_nil, List.getElem?_cons_zero, List.getElem?_cons_succ, set5_2]) | refine awp_seqK fun K hK => ?_ | (refine awp_regionK 71468272590975 rfl ?_; simp only [List.map_cons, List.map_nil]; simp (maxSteps := 1000000) (dsimp := false) (implicitDefEqProofs := false) (disch := omega) only [wrap64, go_sem, scF_ndF, pN_low, pN_0, pN_1, Nat.le_refl, List.length_nil, List.getElem?_cons_zero, List.getElem?_cons_succ, set5_2]) | (refine awp_regionQK 71468272590975 (by kernel_rfl) (by kernel_rfl) (by kernel_rfl) ?_; simp only [List.map_cons, List.map_nil]; simp (maxSteps := 1000000) (dsimp := false) (implicitDefEqProofs := false) (disch := omega) only [wrap64, go_sem, scF_ndF, pN_low, pN_0, pN_1, Nat.le_refl, List.length_nil, List.getElem?_cons_zero, List.getElem?_cons_succ, set5_2]) | refine awp_block ?_ | (refine awp_skip ?_; simp only [go_sem, scF_ndF, pN_low, pN_0, pN_1, Nat.le_refl, List.length_nil, List.getElem?_cons_zero, List.getElem?_cons_succ, set5_2]) | (refine awp_exit ?_; simp only [go_sem, scF_ndF, pN_low, pN_0, pN_1, Nat.le_refl, List.length_nil, List.getElem?_cons_zero, List.getElem?_cons_succ, set5_2]) | (refine awp_ret ?_; try simp only [go_sem, scF_ndF, pN_low, pN_0, pN_1, Nat.le_refl, List.length_nil, List.getElem?_cons_zero, List.getElem?_cons_succ, set5_2]) | (refine awp_condP rfl ?_; try simp only [go_sem, scF_ndF, pN_low, pN_0, pN_1, Nat.le_refl, List.length_nil, List.getElem?_cons_zero, List.getElem?_cons_succ, set5_2]) | (refine BrP.mk (fun h => ?_) (fun h => ?_) <;> try simp (dsimp := false) (disch := omega) only [wrap64]) | (refine Br.mk (fun h => ?_) (fun h => ?_) <;> try simp (dsimp := false) (disch := omega) only [wrap64]) | refine Ob.mk (by first | omega | (intro _ _; rfl) | trivial | (intros; trivial) | assumption | (intro i hi; have h0 : i = 0 := (by omega); subst h0; first | rfl | trivial) | (intro i hi; have h0 : i = 0 ∨ i = 1 := (by omega); rcases h0 with rfl | rfl <;> rfl) | (intro i hi; have h0 : i = 0 ∨ i = 1 ∨ i = 2 := (by omega); rcases h0 with rfl | rfl | rfl <;> rfl)) ?_ | ((first | ((first | refine atF (f := 179) ?_ | refine atQ (f := 179) ?_); (first | (refine cV (hac := letterIndex_ok names (Go.Nt.bt s p) (by omega)) (hK := ?_)) | (refine cQV (hac := letterIndex_ok names (Go.Nt.bt s p) (by omega)) (hK := ?_)))) | ((first | refine atF (f := 181) ?_ | refine atQ (f := 181) ?_); refine cV (hfit := .cons (fits_pd rfl rfl) .nil) (hac := currentByte_ok s _ (by omega) (by omega)) (hK := ?_)) | ((first | refine atF (f := 95) ?_ | refine atQ (f := 95) ?_); refine callPs rfl (failParse_ok names s p l (-1)) ?_)); simp (maxSteps := 1000000) (dsimp := false) (implicitDefEqProofs := false) (disch := omega) only [wrap64, go_sem, scF_ndF, pN_low, pN_0, pN_1, Nat.le_refl, List.length_nil, List.getElem?_cons_zero, List.getElem?_cons_succ, set5_2]) | apply_assumption -exfalso -symm)
  all_goals (first | (show endQ _ _ _ _ _ _ _; (repeat (rename (∀ (A : Fr) (H : Hp), AWP _ _ _ _ A H → _) => hK; clear hK)); (repeat (rename (Fr → Hp → Prop) => K; clear K))) | (show Exists _; (repeat (rename (∀ (A : Fr) (H : Hp), AWP _ _ _ _ A H → _) => hK; clear hK)); (repeat (rename (Fr → Hp → Prop) => K; clear K))) | skip)
  all_goals first
  | (rw [pIt_s1 (by omega) (by omega) e1]; exact end_ps (p := q3) (l := l1) (w := (w1 : Nat)) rfl rfl (by simp only [go_sem]; rfl) rfl rfl rfl rfl rfl rfl rfl rfl (fun _ _ => rfl) (by decide) ⟨q3, l1, hq3, rfl, rfl⟩)
  | (rw [pIt_s2 (by omega) (by omega) e1 (by omega)]; exact end_ps (p := q1) (l := l1) (w := (q1 : Nat)) rfl rfl (by simp only [go_sem]; rfl) rfl rfl rfl rfl rfl rfl rfl rfl (fun _ _ => rfl) (by decide) ⟨q1, l1, by omega, rfl, rfl⟩)
  | (rw [pIt_s3 (by omega) (by omega) e1 (by omega), e5]; first | exact end_ps (p := q5) (l := l5) (w := (w5 : Nat)) rfl rfl (by simp only [go_sem]; rfl) rfl rfl rfl rfl rfl rfl rfl rfl (fun _ _ => rfl) (by decide) ⟨q5, l5, hq5, rfl, rfl⟩ | exact end_ps (p := q5) (l := l5) (w := -1) rfl rfl (by simp only [go_sem]; rfl) rfl rfl rfl rfl rfl rfl rfl rfl (fun _ _ => rfl) (by decide) ⟨rfl, rfl⟩)
  | (rw [pIt_mv (by omega), e5]; first | exact end_ps (p := q5) (l := l5) (w := (w5 : Nat)) rfl rfl (by simp only [go_sem]; rfl) rfl rfl rfl rfl rfl rfl rfl rfl (fun _ _ => rfl) (by decide) ⟨q5, l5, hq5, rfl, rfl⟩ | exact end_ps (p := q5) (l := l5) (w := -1) rfl rfl (by simp only [go_sem]; rfl) rfl rfl rfl rfl rfl rfl rfl rfl (fun _ _ => rfl) (by decide) ⟨rfl, rfl⟩)
  | (rw [pIt_br (by omega) (by omega), e5]; first | exact end_ps (p := q5) (l := l5) (w := (w5 : Nat)) rfl rfl (by simp only [go_sem]; rfl) rfl rfl rfl rfl rfl rfl rfl rfl (fun _ _ => rfl) (by decide) ⟨q5, l5, hq5, rfl, rfl⟩ | exact end_ps (p := q5) (l := l5) (w := -1) rfl rfl (by simp only [go_sem]; rfl) rfl rfl rfl rfl rfl rfl rfl rfl (fun _ _ => rfl) (by decide) ⟨rfl, rfl⟩)
  | (rw [pIt_no (by omega) (by omega) (by omega)]; exact end_ps (p := p) (l := l) (w := (p : Nat)) rfl rfl (by simp only [go_sem]; rfl) rfl rfl rfl rfl rfl rfl rfl rfl (fun _ _ => rfl) (by decide) ⟨p, l, hp, rfl, rfl⟩)
end Go.Proofs.Ytphpegemhnodcaa
end
/- ParseNotation, the reference. -/
section
namespace Go.Proofs.Ytphpegemhnodcaa
open Go.Av
set_option linter.unusedSimpArgs false
set_option linter.unusedVariables false
attribute [local irreducible] AWP CallG Ob Br BrP Go.Av.Sub endQ AOps OpV AC thenA blkA opsVC opVC withA withArgs opsQ opQ CallQ withA2 withArgs2
open Go.Nt (Nd nd0 kd li liF dig pInv pSuf pItem pSeq Pr Goes nmOk pItem_goes pSeq_goes)
theorem nm_ok {names : ByteArray} (h : nmP names) : nmOk names := ⟨h.1.2, fun j hj => by have := (h.2 j hj).1; unfold bt at this; omega⟩
theorem parse_all {names s : ByteArray} (hn : nmOk names) (hs : s.size ≤ 400) : ∀ f, ItOk names s f ∧ SqOk names s f := by
  intro f
  induction f using Nat.strongRecOn with
  | _ f ih =>
    have hI : ItOk names s f := by
      cases f with
      | zero => intro p l hp hl hf; omega
      | succ f => exact it_step hn hs (ih f (by omega)).2
    exact ⟨hI, seq_step hn hs fun g hg => (ih g hg).1⟩
/-- What ParseNotation answers. -/
def parP (names s : ByteArray) : List Nd × Int :=
  if ¬ nmP names ∨ 400 < s.size then ([], -2)
  else if s.size = 0 then ([⟨2, 0, 1, 0, 0, []⟩], -1)
  else match pSeq names s (2 * s.size + 2) 0 [] [] with
    | .out => ([], 0)
    | .bad w => ([], (w : Int))
    | .ok q l ks => if q < s.size then ([], (q : Int)) else if 200 ≤ l.length then ([], -3) else (l ++ [⟨2, 0, 1, 0, 0, ks⟩], -1)
def rho0 (g : Nat) : Option Nat := if g = 1000000 then none else some g
theorem rho0_inj {x y k : Nat} (h1 : rho0 x = some k) (h2 : rho0 y = some k) : x = y := by
  unfold rho0 at h1 h2
  split at h1
  · cases h1
  · split at h2
    · cases h2
    · simp only [Option.some.injEq] at h1 h2; omega
/-- What lies in memory when the reading begins. -/
def hZ (names s : ByteArray) : Hp := (Hp.emp.upd 1000000 (.cells (([] : List Nd).length * 6) (ndF []))).upd 6 (.cells 5 (vecF [.v (.string (names)), .v (.string (s)), .v (.int .i64 (((0 : Nat) : Int))), .own 1000000 0 6 ([] : List Nd).length, .v (.int .i64 ((-1 : Int)))]))
theorem fits_end {D : Nat → Prop} {H : Hp} {l : List Nd} {h n M : Nat} {g : Nat → AV} {x : Nd} (hH : H h = some (.cells M g)) (hD : D h) (hM : (l.length + 1) * 6 ≤ M) (hn : n = l.length + 1) (hg : ∀ i, i < l.length * 6 → g i = ndF l i) (hx : ∀ i, i < 6 → Fits H D (g (l.length * 6 + i)) (vecF (ndC x) i)) : Fits H D (.own h 0 6 n) (nds (l ++ [x])) := by
  subst hn
  have e : (l ++ [x]).length = l.length + 1 := by rw [List.length_append, List.length_singleton]
  unfold nds
  rw [e]
  refine .own hH hD (by omega) (fun i _ => (ndF_plain _ i).1) (fun i hi => ?_)
  rw [Nat.zero_add]
  have hs := ndF_snoc l x (g := vecF (ndC x)) (fun _ _ => rfl) i (by omega)
  rw [← hs]
  unfold apF
  by_cases h2 : i < l.length * 6
  · rw [if_pos h2, hg i h2]; exact .refl _
  · rw [if_neg h2]
    have := hx (i - l.length * 6) (by omega)
    rwa [show l.length * 6 + (i - l.length * 6) = i by omega] at this
theorem fits_end2 {D : Nat → Prop} {H : Hp} {l : List Nd} {h n M : Nat} {g : Nat → AV} {x : Nd} (hH : H h = some (.cells M (apF (l.length * 6) (ndF l) g))) (hD : D h) (hM : (l.length + 1) * 6 ≤ M) (hn : n = l.length + 1) (hx : ∀ i, i < 6 → Fits H D (g i) (vecF (ndC x) i)) : Fits H D (.own h 0 6 n) (nds (l ++ [x])) :=
  fits_end hH hD hM hn (fun i hi => if_pos hi) (fun i hi => by
    have : apF (l.length * 6) (ndF l) g (l.length * 6 + i) = g i := by
      unfold apF; rw [if_neg (by omega), Nat.add_sub_cancel_left]
    rw [this]; exact hx i hi)
theorem fits_no {H : Hp} {h M : Nat} {g : Nat → AV} (hH : H h = some (.cells M g)) : Fits H (fun _ => True) (.own h 0 6 0) (nds []) :=
  .own hH trivial (by omega) (fun i hi => absurd hi (by omega)) (fun i hi => absurd hi (by omega))
theorem fits_nol {H : Hp} {D : Nat → Prop} {b : Bool} {g : Nat → AV} : Fits H D (.list b 6 0 g) (nds []) :=
  .list (fun h => by cases h) (fun i hi => absurd hi (Nat.not_lt_zero _)) (fun i hi => absurd hi (Nat.not_lt_zero _))
theorem ba_empty {s : ByteArray} (h : s.size = 0) : s = ⟨#[]⟩ := by
  cases s with
  | mk d => congr 1; exact Array.eq_empty_of_size_eq_zero h
theorem ba_ne {s : ByteArray} (h : ¬ s.size = 0) : (s.toList == (⟨#[]⟩ : ByteArray).toList) = false := by
  rw [beq_eq_false_iff_ne]
  intro e
  have h2 := congrArg List.length e
  rw [Go.Lib.toList_data, Go.Lib.toList_data] at h2
  simp at h2
  exact h (by simp [ByteArray.size, h2])
set_option maxHeartbeats 4000000 in
theorem specParseNotation_ok (names s : ByteArray) (hn : names.size ≤ 1048576) (hs : s.size ≤ 1048576) : AC Try.prog 22 [.v (.string (names)), .v (.string (s))] Hp.emp (fun _ => false) (retV (.tup 2 (vecF [nds (parP names s).1, .v (.int .i64 ((parP names s).2))]))) := by
  by_cases hN : nmP names
  · have hd : decide (nmP names) = true := decide_eq_true hN
    by_cases h4 : s.size ≤ 400
    · have hcond : ¬ (¬ nmP names ∨ 400 < s.size) := fun h => h.elim (fun h => h hN) (fun h => by omega)
      by_cases h0 : s.size = 0
      · have e0 := ba_empty h0
        subst e0
        have pp : parP names ⟨#[]⟩ = ([] ++ [⟨2, 0, 1, 0, 0, []⟩], -1) := by
          unfold parP; rw [if_neg hcond, if_pos h0]; rfl
        have pp := Hold.mk pp
        clear hcond
        refine ac_of_awp (N := ⟨_, fun _ => false, fun _ _ => rfl⟩) Try.func22 rfl (by kernel_rfl) Try.ntmps22 (by simp) ?_
        simp only [argsFr, List.zipIdx_cons, List.zipIdx_nil, go_sem]
        repeat' (first | (show False; omega) | (refine Ob.mk (all5 rfl rfl rfl rfl rfl) ?_) | (refine Ob.mk (all6 rfl rfl rfl rfl rfl rfl) ?_) | refine awp_seqK fun K hK => ?_ | (refine awp_regionK 567485443113203 rfl ?_; simp only [List.map_cons, List.map_nil]; simp (maxSteps := 1000000) (dsimp := false) (implicitDefEqProofs := false) (disch := omega) only [wrap64, go_sem, hd, List.getElem?_cons_zero, List.getElem?_cons_succ, beq_self_eq_true]) | (refine awp_regionQK 567485443113203 (by kernel_rfl) (by kernel_rfl) (by kernel_rfl) ?_; simp only [List.map_cons, List.map_nil]; simp (maxSteps := 1000000) (dsimp := false) (implicitDefEqProofs := false) (disch := omega) only [wrap64, go_sem, hd, List.getElem?_cons_zero, List.getElem?_cons_succ, beq_self_eq_true]) | refine awp_block ?_ | (refine awp_skip ?_; simp only [go_sem, hd, List.getElem?_cons_zero, List.getElem?_cons_succ, beq_self_eq_true]) | (refine awp_exit ?_; simp only [go_sem, hd, List.getElem?_cons_zero, List.getElem?_cons_succ, beq_self_eq_true]) | (refine awp_ret ?_; try simp only [go_sem, hd, List.getElem?_cons_zero, List.getElem?_cons_succ, beq_self_eq_true]) | (refine awp_condP rfl ?_; try simp only [go_sem, hd, List.getElem?_cons_zero, List.getElem?_cons_succ, beq_self_eq_true]) | (refine BrP.mk (fun h => ?_) (fun h => ?_) <;> try simp (dsimp := false) (disch := omega) only [wrap64]) | (refine Br.mk (fun h => ?_) (fun h => ?_) <;> try simp (dsimp := false) (disch := omega) only [wrap64]) | refine Ob.mk (by first | omega | (intro _ _; rfl) | trivial | (intros; trivial) | assumption | (intro i hi; have h0 : i = 0 := (by omega); subst h0; first | rfl | trivial) | (intro i hi; have h0 : i = 0 ∨ i = 1 := (by omega); rcases h0 with rfl | rfl <;> rfl) | (intro i hi; have h0 : i = 0 ∨ i = 1 ∨ i = 2 := (by omega); rcases h0 with rfl | rfl | rfl <;> rfl)) ?_ | ((first | ((first | refine atF (f := 93) ?_ | refine atQ (f := 93) ?_); (first | (refine cV (hac := isNameString_ok names hn) (hK := ?_)) | (refine cQV (hac := isNameString_ok names hn) (hK := ?_))))); simp (maxSteps := 1000000) (dsimp := false) (implicitDefEqProofs := false) (disch := omega) only [wrap64, go_sem, hd, List.getElem?_cons_zero, List.getElem?_cons_succ, beq_self_eq_true]) | apply_assumption -exfalso -symm)
        all_goals (first | (show endQ _ _ _ _ _ _ _; (repeat (rename (∀ (A : Fr) (H : Hp), AWP _ _ _ _ A H → _) => hK; clear hK)); (repeat (rename (Fr → Hp → Prop) => K; clear K))) | (show Exists _; (repeat (rename (∀ (A : Fr) (H : Hp), AWP _ _ _ _ A H → _) => hK; clear hK)); (repeat (rename (Fr → Hp → Prop) => K; clear K))) | skip)
        rw [pp.h]
        exact end_retF2 rfl (by decide) rfl rfl (fits_end (l := []) rfl trivial (by decide) rfl (fun i hi => absurd hi (Nat.not_lt_zero _)) (all6 (.refl _) (.refl _) (.refl _) (.refl _) (.refl _) (fits_I rfl trivial rfl rfl))) (.refl _)
      · have hne := ba_ne h0
        have hnm := nm_ok hN
        have hS := (parse_all (s := s) hnm h4 (2 * s.size + 2)).2
        have pp : parP names s = match pSeq names s (2 * s.size + 2) 0 [] [] with
            | .out => ([], 0)
            | .bad w => ([], (w : Int))
            | .ok q l ks => if q < s.size then ([], (q : Int)) else if 200 ≤ l.length then ([], -3) else (l ++ [⟨2, 0, 1, 0, 0, ks⟩], -1) := by
          unfold parP; rw [if_neg hcond, if_neg h0]
        have pp := Hold.mk pp
        clear hcond
        refine ac_of_awp (N := ⟨_, fun _ => false, fun _ _ => rfl⟩) Try.func22 rfl (by kernel_rfl) Try.ntmps22 (by simp) ?_
        simp only [argsFr, List.zipIdx_cons, List.zipIdx_nil, go_sem]
        repeat' (first | (show False; omega) | (refine awp_cutR 6 22 (A' := [(6, .ref 6 0), (1, .v (.string (s)))]) (H' := hZ names s) (Sub.layM rho0 rfl (lay_cons ⟨_, rfl, .ref rfl⟩ (lay_cons ⟨_, rfl, .plain trivial⟩ lay_nil)) (layF_upd (g := 6) rfl rfl (all5 (.plain trivial) (.plain trivial) (.plain trivial) (.nil rfl) (.plain trivial)) (layF_nil rfl layF_emp)) (fun x y k hx hy e1 e2 => rho0_inj e1 e2)) ?_; unfold hZ) | (refine Ob.mk (all5 rfl rfl rfl rfl rfl) ?_) | (refine Ob.mk (all6 rfl rfl rfl rfl rfl rfl) ?_) | ((first | refine atF (f := 94) ?_ | refine atQ (f := 94) ?_); (refine callSq rfl (hS 0 [] (Nat.zero_le _) (Nat.zero_le _) (by omega)) rfl (fun w1 q1 l1 e1 hq1 => ?_) (fun q1 l1 ks1 e1 => have hb1 := sq_bd hnm (Nat.zero_le _) (Nat.zero_le _) (by omega) e1; have hk1 := sq_ks0 hnm (Nat.zero_le _) (by omega) e1; ?_)) <;> simp (maxSteps := 1000000) (dsimp := false) (implicitDefEqProofs := false) (disch := omega) only [wrap64, go_sem, hd, hne, List.getElem?_cons_zero, List.getElem?_cons_succ, scF_ndF, pN_low, pN_0, pN_1, Nat.le_refl, List.length_nil]) | refine awp_seqK fun K hK => ?_ | (refine awp_regionK 567485443113203 rfl ?_; simp only [List.map_cons, List.map_nil]; simp (maxSteps := 1000000) (dsimp := false) (implicitDefEqProofs := false) (disch := omega) only [wrap64, go_sem, hd, hne, List.getElem?_cons_zero, List.getElem?_cons_succ, scF_ndF, pN_low, pN_0, pN_1, Nat.le_refl, List.length_nil]) | (refine awp_regionQK 567485443113203 (by kernel_rfl) (by kernel_rfl) (by kernel_rfl) ?_; simp only [List.map_cons, List.map_nil]; simp (maxSteps := 1000000) (dsimp := false) (implicitDefEqProofs := false) (disch := omega) only [wrap64, go_sem, hd, hne, List.getElem?_cons_zero, List.getElem?_cons_succ, scF_ndF, pN_low, pN_0, pN_1, Nat.le_refl, List.length_nil]) | refine awp_block ?_ | (refine awp_skip ?_; simp only [go_sem, hd, hne, List.getElem?_cons_zero, List.getElem?_cons_succ, scF_ndF, pN_low, pN_0, pN_1, Nat.le_refl, List.length_nil]) | (refine awp_exit ?_; simp only [go_sem, hd, hne, List.getElem?_cons_zero, List.getElem?_cons_succ, scF_ndF, pN_low, pN_0, pN_1, Nat.le_refl, List.length_nil]) | (refine awp_ret ?_; try simp only [go_sem, hd, hne, List.getElem?_cons_zero, List.getElem?_cons_succ, scF_ndF, pN_low, pN_0, pN_1, Nat.le_refl, List.length_nil]) | (refine awp_condP rfl ?_; try simp only [go_sem, hd, hne, List.getElem?_cons_zero, List.getElem?_cons_succ, scF_ndF, pN_low, pN_0, pN_1, Nat.le_refl, List.length_nil]) | (refine BrP.mk (fun h => ?_) (fun h => ?_) <;> try simp (dsimp := false) (disch := omega) only [wrap64]) | (refine Br.mk (fun h => ?_) (fun h => ?_) <;> try simp (dsimp := false) (disch := omega) only [wrap64]) | refine Ob.mk (by first | omega | (intro _ _; rfl) | trivial | (intros; trivial) | assumption | (intro i hi; have h0 : i = 0 := (by omega); subst h0; first | rfl | trivial) | (intro i hi; have h0 : i = 0 ∨ i = 1 := (by omega); rcases h0 with rfl | rfl <;> rfl) | (intro i hi; have h0 : i = 0 ∨ i = 1 ∨ i = 2 := (by omega); rcases h0 with rfl | rfl | rfl <;> rfl)) ?_ | ((first | ((first | refine atF (f := 93) ?_ | refine atQ (f := 93) ?_); (first | (refine cV (hac := isNameString_ok names hn) (hK := ?_)) | (refine cQV (hac := isNameString_ok names hn) (hK := ?_)))) | ((first | refine atF (f := 95) ?_ | refine atQ (f := 95) ?_); refine callPs rfl (failParse_ok names s q1 l1 (-1)) ?_)); simp (maxSteps := 1000000) (dsimp := false) (implicitDefEqProofs := false) (disch := omega) only [wrap64, go_sem, hd, hne, List.getElem?_cons_zero, List.getElem?_cons_succ, scF_ndF, pN_low, pN_0, pN_1, Nat.le_refl, List.length_nil]) | apply_assumption -exfalso -symm)
        all_goals (first | (show endQ _ _ _ _ _ _ _; (repeat (rename (∀ (A : Fr) (H : Hp), AWP _ _ _ _ A H → _) => hK; clear hK)); (repeat (rename (Fr → Hp → Prop) => K; clear K))) | (show Exists _; (repeat (rename (∀ (A : Fr) (H : Hp), AWP _ _ _ _ A H → _) => hK; clear hK)); (repeat (rename (Fr → Hp → Prop) => K; clear K))) | skip)
        · rw [pp.h, e1]
          exact end_retF2 rfl (by decide) rfl rfl fits_nol (.refl _)
        · rw [pp.h, e1]; dsimp only; rw [if_pos (by omega)]
          exact end_retF2 rfl (by decide) rfl rfl fits_nol (Fits.ofEq (by rw [if_pos (by decide)]))
        · rw [pp.h, e1]; dsimp only; rw [if_neg (by omega), if_pos (by omega)]
          exact end_retF2 rfl (by decide) rfl rfl (fits_no rfl) (.refl _)
        · rw [pp.h, e1]; dsimp only; rw [if_neg (by omega), if_neg (by omega)]
          exact end_retF2 rfl (by decide) rfl rfl (fits_end2 rfl trivial (by omega) rfl (all6 (.refl _) (.refl _) (.refl _) (.refl _) (.refl _) (fits_I rfl trivial rfl rfl))) (.refl _)
    · have pp : parP names s = ([], -2) := by unfold parP; rw [if_pos (.inr (by omega))]
      refine ac_of_awp (N := ⟨_, fun _ => false, fun _ _ => rfl⟩) Try.func22 rfl (by kernel_rfl) Try.ntmps22 (by simp) ?_
      simp only [argsFr, List.zipIdx_cons, List.zipIdx_nil, go_sem]
      repeat' (first | (show False; omega) | refine awp_seqK fun K hK => ?_ | (refine awp_regionK 567485443113203 rfl ?_; simp only [List.map_cons, List.map_nil]; simp (maxSteps := 1000000) (dsimp := false) (implicitDefEqProofs := false) (disch := omega) only [wrap64, go_sem, hd]) | (refine awp_regionQK 567485443113203 (by kernel_rfl) (by kernel_rfl) (by kernel_rfl) ?_; simp only [List.map_cons, List.map_nil]; simp (maxSteps := 1000000) (dsimp := false) (implicitDefEqProofs := false) (disch := omega) only [wrap64, go_sem, hd]) | refine awp_block ?_ | (refine awp_skip ?_; simp only [go_sem, hd]) | (refine awp_exit ?_; simp only [go_sem, hd]) | (refine awp_ret ?_; try simp only [go_sem, hd]) | (refine awp_condP rfl ?_; try simp only [go_sem, hd]) | (refine BrP.mk (fun h => ?_) (fun h => ?_) <;> try simp (dsimp := false) (disch := omega) only [wrap64]) | (refine Br.mk (fun h => ?_) (fun h => ?_) <;> try simp (dsimp := false) (disch := omega) only [wrap64]) | refine Ob.mk (by first | omega | (intro _ _; rfl) | trivial | (intros; trivial) | assumption | (intro i hi; have h0 : i = 0 := (by omega); subst h0; first | rfl | trivial) | (intro i hi; have h0 : i = 0 ∨ i = 1 := (by omega); rcases h0 with rfl | rfl <;> rfl) | (intro i hi; have h0 : i = 0 ∨ i = 1 ∨ i = 2 := (by omega); rcases h0 with rfl | rfl | rfl <;> rfl)) ?_ | ((first | ((first | refine atF (f := 93) ?_ | refine atQ (f := 93) ?_); (first | (refine cV (hac := isNameString_ok names hn) (hK := ?_)) | (refine cQV (hac := isNameString_ok names hn) (hK := ?_))))); simp (maxSteps := 1000000) (dsimp := false) (implicitDefEqProofs := false) (disch := omega) only [wrap64, go_sem, hd]) | apply_assumption -exfalso -symm)
      all_goals (first | (show endQ _ _ _ _ _ _ _; (repeat (rename (∀ (A : Fr) (H : Hp), AWP _ _ _ _ A H → _) => hK; clear hK)); (repeat (rename (Fr → Hp → Prop) => K; clear K))) | (show Exists _; (repeat (rename (∀ (A : Fr) (H : Hp), AWP _ _ _ _ A H → _) => hK; clear hK)); (repeat (rename (Fr → Hp → Prop) => K; clear K))) | skip)
      rw [pp]
      exact end_retF2 rfl (by decide) rfl rfl (fits_no rfl) (.refl _)
  · have hd : decide (nmP names) = false := decide_eq_false hN
    have pp : parP names s = ([], -2) := by unfold parP; rw [if_pos (.inl hN)]
    refine ac_of_awp (N := ⟨_, fun _ => false, fun _ _ => rfl⟩) Try.func22 rfl (by kernel_rfl) Try.ntmps22 (by simp) ?_
    simp only [argsFr, List.zipIdx_cons, List.zipIdx_nil, go_sem]
    repeat' (first | (show False; omega) | refine awp_seqK fun K hK => ?_ | (refine awp_regionK 567485443113203 rfl ?_; simp only [List.map_cons, List.map_nil]; simp (maxSteps := 1000000) (dsimp := false) (implicitDefEqProofs := false) (disch := omega) only [wrap64, go_sem, hd]) | (refine awp_regionQK 567485443113203 (by kernel_rfl) (by kernel_rfl) (by kernel_rfl) ?_; simp only [List.map_cons, List.map_nil]; simp (maxSteps := 1000000) (dsimp := false) (implicitDefEqProofs := false) (disch := omega) only [wrap64, go_sem, hd]) | refine awp_block ?_ | (refine awp_skip ?_; simp only [go_sem, hd]) | (refine awp_exit ?_; simp only [go_sem, hd]) | (refine awp_ret ?_; try simp only [go_sem, hd]) | (refine awp_condP rfl ?_; try simp only [go_sem, hd]) | (refine BrP.mk (fun h => ?_) (fun h => ?_) <;> try simp (dsimp := false) (disch := omega) only [wrap64]) | (refine Br.mk (fun h => ?_) (fun h => ?_) <;> try simp (dsimp := false) (disch := omega) only [wrap64]) | refine Ob.mk (by first | omega | (intro _ _; rfl) | trivial | (intros; trivial) | assumption | (intro i hi; have h0 : i = 0 := (by omega); subst h0; first | rfl | trivial) | (intro i hi; have h0 : i = 0 ∨ i = 1 := (by omega); rcases h0 with rfl | rfl <;> rfl) | (intro i hi; have h0 : i = 0 ∨ i = 1 ∨ i = 2 := (by omega); rcases h0 with rfl | rfl | rfl <;> rfl)) ?_ | ((first | ((first | refine atF (f := 93) ?_ | refine atQ (f := 93) ?_); (first | (refine cV (hac := isNameString_ok names hn) (hK := ?_)) | (refine cQV (hac := isNameString_ok names hn) (hK := ?_))))); simp (maxSteps := 1000000) (dsimp := false) (implicitDefEqProofs := false) (disch := omega) only [wrap64, go_sem, hd]) | apply_assumption -exfalso -symm)
    all_goals (first | (show endQ _ _ _ _ _ _ _; (repeat (rename (∀ (A : Fr) (H : Hp), AWP _ _ _ _ A H → _) => hK; clear hK)); (repeat (rename (Fr → Hp → Prop) => K; clear K))) | (show Exists _; (repeat (rename (∀ (A : Fr) (H : Hp), AWP _ _ _ _ A H → _) => hK; clear hK)); (repeat (rename (Fr → Hp → Prop) => K; clear K))) | skip)
    rw [pp]
    exact end_retF2 rfl (by decide) rfl rfl (fits_no rfl) (.refl _)
end Go.Proofs.Ytphpegemhnodcaa
end
/- The place of a byte in a text: what the library's own function answers. -/
section
namespace Go.Proofs.Ytphpegemhnodcaa
open Go.Av
open Go.Nt (li liF)
set_option linter.unusedSimpArgs false
set_option linter.unusedVariables false
set_option maxHeartbeats 1000000 in
set_option maxRecDepth 100000 in
theorem slIndexByte (s : ByteArray) (c : Int) (w : World) :
    Calls Try.prog 265 #[.string s, .int .u8 c] w fun e w' => e = .returned (.int .i64 (Lib.indexByte s.data.toList c.toNat.toUInt8)) ∧ w' = w := by
  go_enter Try.func265, Try.ntmps265
  go_wp2
  rw [run_callFunc_extern Try.func273 (by kernel_rfl) (by kernel_rfl) (by kernel_rfl) (e := Extern.BytealgIndexByte.indexByte) (by kernel_rfl), Lib.run_indexByteString]
  simp only [Result.andThen]
  rw [Oper.upon_value]
  go_wp2
  go_ret
  exact ⟨rfl, rfl⟩
theorem ib_hit {c : UInt8} : ∀ (l : List UInt8) (i : Nat), i < l.length → l.getD i 0 = c → (∀ j, j < i → l.getD j 0 ≠ c) → Lib.indexByte l c = (i : Int)
  | [], i, h, _, _ => absurd h (Nat.not_lt_zero _)
  | b :: l, 0, _, h1, _ => by
    have : b = c := h1
    unfold Lib.indexByte
    rw [if_pos (by rw [this]; exact beq_self_eq_true c)]; rfl
  | b :: l, i + 1, h, h1, h2 => by
    have hb : ¬ (b == c) = true := by
      rw [beq_iff_eq]; exact h2 0 (by omega)
    have ih := ib_hit l i (by simpa using h) (by simpa using h1) (fun j hj => by simpa using h2 (j + 1) (by omega))
    unfold Lib.indexByte
    rw [if_neg hb, ih, if_neg (by rw [beq_iff_eq]; omega)]
    rfl
theorem ib_miss {c : UInt8} : ∀ (l : List UInt8), (∀ j, j < l.length → l.getD j 0 ≠ c) → Lib.indexByte l c = -1
  | [], _ => rfl
  | b :: l, h => by
    have hb : ¬ (b == c) = true := by
      rw [beq_iff_eq]; exact h 0 (by simp)
    have ih := ib_miss l (fun j hj => by simpa using h (j + 1) (by simpa using hj))
    unfold Lib.indexByte
    rw [if_neg hb, ih]; rfl
theorem u8_eq {x : UInt8} {c : Nat} (hc : c < 256) : x = c.toUInt8 ↔ x.toNat = c := by
  constructor
  · intro h
    rw [h]
    show (UInt8.ofNat c).toNat = c
    rw [UInt8.toNat_ofNat']
    exact Nat.mod_eq_of_lt hc
  · intro h
    rw [← h]
    exact (UInt8.ofNat_toNat (x := x)).symm
theorem ib_li {names : ByteArray} {c : Nat} (hc : c < 256) : Lib.indexByte names.data.toList c.toUInt8 = liI names c := by
  have hl : names.data.toList.length = names.size := by simp
  unfold liI
  cases e : li names c with
  | some m =>
    obtain ⟨h1, h2, h3⟩ := Go.Nt.liF_some e
    exact ib_hit _ m (by rw [hl]; exact h1) ((u8_eq hc).2 h2) (fun j hj h => h3 j hj ((u8_eq hc).1 h))
  | none => exact ib_miss _ fun j hj h => Go.Nt.liF_none e j (by rw [← hl]; exact hj) ((u8_eq hc).1 h)
theorem AC.of2 {P : Program} {f : FuncId} {x y z : Value} (hc : callable P f = true) (h : ∀ w, Calls P f #[x, y] w fun e w' => e = .returned z ∧ w' = w) : AC P f [.v x, .v y] Hp.emp (fun _ => false) (retV (.v z)) := by
  refine ⟨hc, fun S w L vs h1 h2 s ha => ?_⟩
  obtain ⟨hz, hv⟩ := ha
  have e : vs = #[x, y] := by
    obtain ⟨u, e1, e2⟩ := hv 0 _ rfl
    obtain ⟨v, e3, e4⟩ := hv 1 _ rfl
    cases e2
    cases e4
    refine Array.ext (by simpa using hz) fun i h1 h2 => ?_
    have h2' : i < 2 := h2
    match i, h2' with
    | 0, _ => have := (Array.getElem?_eq_some_iff.1 e1).2; simpa using this
    | 1, _ => have := (Array.getElem?_eq_some_iff.1 e3).2; simpa using this
  subst e
  refine (h w).mono ?_
  rintro e w' ⟨rfl, rfl⟩
  exact ⟨z, L, .v z, Hp.emp, rfl, s, rfl, rfl, rfl⟩
theorem slIndexByte_ok (s : ByteArray) (c : Nat) (hc : c < 256) : AC Try.prog 265 [.v (.string (s)), .v (.int .u8 (c : Nat))] Hp.emp (fun _ => false) (retV (.v (.int .i64 (liI s c)))) := by
  refine AC.of2 (by kernel_rfl) fun w => ?_
  have := slIndexByte s (c : Nat) w
  rw [Int.toNat_natCast, ib_li hc] at this
  exact this
attribute [local irreducible] AWP CallG Ob Br BrP Go.Av.Sub endQ AOps OpV AC thenA blkA opsVC opVC withA withArgs opsQ opQ CallQ withA2 withArgs2
theorem indexByte_ok (s : ByteArray) (c : Nat) (hc : c < 256) : AC Try.prog 249 [.v (.string (s)), .v (.int .u8 (c : Nat))] Hp.emp (fun _ => false) (retV (.v (.int .i64 (liI s c)))) := by
  refine ac_of_awp (N := ⟨_, fun _ => false, fun _ _ => rfl⟩) Try.func249 rfl (by kernel_rfl) Try.ntmps249 (by simp) ?_
  simp only [argsFr, List.zipIdx_cons, List.zipIdx_nil, go_sem]
  repeat' (first | refine awp_seqK fun K hK => ?_ | (refine awp_regionK 19 rfl ?_; simp only [List.map_cons, List.map_nil]; simp (maxSteps := 1000000) (dsimp := false) (implicitDefEqProofs := false) (disch := omega) only [wrap64, go_sem]) | (refine awp_regionQK 19 (by kernel_rfl) (by kernel_rfl) (by kernel_rfl) ?_; simp only [List.map_cons, List.map_nil]; simp (maxSteps := 1000000) (dsimp := false) (implicitDefEqProofs := false) (disch := omega) only [wrap64, go_sem]) | refine awp_block ?_ | (refine awp_skip ?_; simp only [go_sem]) | (refine awp_exit ?_; simp only [go_sem]) | (refine awp_ret ?_; try simp only [go_sem]) | (refine awp_condP rfl ?_; try simp only [go_sem]) | (refine BrP.mk (fun h => ?_) (fun h => ?_) <;> try simp (dsimp := false) (disch := omega) only [wrap64]) | (refine Br.mk (fun h => ?_) (fun h => ?_) <;> try simp (dsimp := false) (disch := omega) only [wrap64]) | refine Ob.mk (by first | omega | (intro _ _; rfl) | trivial | (intros; trivial) | assumption | (intro i hi; have h0 : i = 0 := (by omega); subst h0; first | rfl | trivial) | (intro i hi; have h0 : i = 0 ∨ i = 1 := (by omega); rcases h0 with rfl | rfl <;> rfl) | (intro i hi; have h0 : i = 0 ∨ i = 1 ∨ i = 2 := (by omega); rcases h0 with rfl | rfl | rfl <;> rfl)) ?_ | ((first | ((first | refine atF (f := 265) ?_ | refine atQ (f := 265) ?_); (first | (refine cV (hac := slIndexByte_ok s c hc) (hK := ?_)) | (refine cQV (hac := slIndexByte_ok s c hc) (hK := ?_))))); simp (maxSteps := 1000000) (dsimp := false) (implicitDefEqProofs := false) (disch := omega) only [wrap64, go_sem]) | apply_assumption -exfalso -symm)
  all_goals (first | (show endQ _ _ _ _ _ _ _; (repeat (rename (∀ (A : Fr) (H : Hp), AWP _ _ _ _ A H → _) => hK; clear hK)); (repeat (rename (Fr → Hp → Prop) => K; clear K))) | (show Exists _; (repeat (rename (∀ (A : Fr) (H : Hp), AWP _ _ _ _ A H → _) => hK; clear hK)); (repeat (rename (Fr → Hp → Prop) => K; clear K))) | skip)
  exact end_retV rfl rfl
end Go.Proofs.Ytphpegemhnodcaa
end

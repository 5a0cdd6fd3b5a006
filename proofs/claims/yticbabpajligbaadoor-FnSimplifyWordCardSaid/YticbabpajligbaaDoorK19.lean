import Derived.Test.YticbabpajligbaaDoorK12
import Derived.Test.YticbabpajligbaaDoorK18
import Derived.Test.YticbabpajligbaaDoorK16
import Derived.Test.YticbabpajligbaaDoorK17
/- The program's reader of notations: its state and its small steps. -/
section
namespace Go.Proofs.YticbabpajligbaaDoor
open Go.Av
set_option linter.unusedSimpArgs false
set_option linter.unusedVariables false
attribute [local irreducible] AWP CallG Ob Br BrP Go.Av.Sub endQ AOps OpV AC thenA blkA opsVC opVC withA withArgs opsQ opQ CallQ withA2 withArgs2
open Go.Nt (Nd nd0 kd li liF dig pInv pSuf pItem pSeq Pr Goes nmOk)
/-- The reader's cells, and its state whole: its nodes lie in a row of our own, their children in rows of our own. -/
abbrev rdL (names s : ByteArray) (p : Nat) (fl : Bool) (n : Nat) : List AV := [.v (.string (names)), .v (.string (s)), .v (.int .i64 ((p : Nat))), .v (.bool (fl)), .own 1000000 0 6 n]
abbrev RD (names s : ByteArray) (p : Nat) (fl : Bool) (l : List Nd) : Hp := (NR l l.length l.length).upd 1000001 (.cells 5 (vecF (rdL names s p fl l.length)))
theorem NR_scr0 {xs : List Nd} {k n : Nat} : (NR xs k n).scrub (· == 1000000) = NR xs k n := NR_scrub fun i _ => by
  have := sub_ge 1000000 i; rw [FB_eq] at this
  rw [beq_eq_false_iff_ne]; omega
theorem nmF_scF0 {xs : List Nd} {k : Nat} : scF (· == 1000000) (nmF xs k) = nmF xs k := by
  funext j
  exact nmF_scr (fun i _ => by
    have := sub_ge 1000000 i; rw [FB_eq] at this
    rw [beq_eq_false_iff_ne]; omega) j
def pR (h : Nat) : Bool := decide (1000000 ≤ h) && !(h == 1000001)
theorem pR_low {h : Nat} (hh : h < 1000000) : pR h = false := by simp [pR]; omega
theorem pR_1 : pR 1000001 = false := rfl
theorem pR_0 : pR 1000000 = true := rfl
theorem pR_2 : pR 1000002 = true := rfl
theorem pR_sub (i : Nat) : pR (sub 1000000 i) = true := by
  have := sub_ge 1000000 i; rw [FB_eq] at this
  simp [pR]; omega
section
variable {P : Program} {N : Cx} {A A' : Fr} {H H' : Hp} {names s : ByteArray} {p : Nat} {fl : Bool} {l : List Nd}
theorem RD_names {h : Nat} (hn : RD names s p fl l h ≠ none) : h = 1000001 ∨ h = 1000000 ∨ ∃ i, i < l.length ∧ h = sub 1000000 i := by
  unfold RD Hp.upd at hn
  split at hn
  · exact .inl ‹_›
  · cases e : NR l l.length l.length h with
    | none => exact absurd e hn
    | some B =>
      rcases NR_cases e with ⟨h1, _⟩ | ⟨i, hi, h1, _⟩
      · exact .inr (.inl h1)
      · exact .inr (.inr ⟨i, hi, h1⟩)
theorem RD_scrub {q : Nat → Bool} (h0 : q 1000000 = false) (hs : ∀ i, i < l.length → q (sub 1000000 i) = false) : (RD names s p fl l).scrub q = RD names s p fl l := by
  unfold RD
  rw [Hp.scrub_upd, NR_scrub hs, Blk.scrub_cells, scF_vecF]
  simp only [List.map_cons, List.map_nil, scrub_v, scrub_own, h0, Bool.false_eq_true, if_false]
theorem RD_live {Y : Hp} (hl : l.length ≤ 1048576) (hY : Hp.le (RD names s p fl l) Y) : (RD names s p fl l).scrub (fun h => !liveB Y h) = RD names s p fl l := by
  refine RD_scrub ?_ fun i hi => ?_
  · have : RD names s p fl l 1000000 = some (.cells (l.length * 6) (nmF l l.length)) := rfl
    simp [liveB, hY _ _ this]
  · have : RD names s p fl l (sub 1000000 i) = some (.cells (kd l i).length (cM iv 0 (kd l i))) := by
      have hs := sub_ge 1000000 i; rw [FB_eq] at hs
      unfold RD Hp.upd; rw [if_neg (by omega)]; exact NR_sub hi hl
    simp [liveB, hY _ _ this]
theorem RD_lo : (RD names s p fl l).lo = Hp.emp := by
  funext h
  unfold Hp.lo
  split
  · rename_i hh
    cases e : RD names s p fl l h with
    | none => rfl
    | some B =>
      rcases RD_names (by rw [e]; simp) with h1 | h1 | ⟨i, _, h1⟩
      · omega
      · omega
      · have := sub_ge 1000000 i; rw [FB_eq] at this; omega
  · rfl
theorem RD_low {h : Nat} (hh : h < 1000000) : RD names s p fl l h = none := by
  have := congrFun (RD_lo (names := names) (s := s) (p := p) (fl := fl) (l := l)) h
  unfold Hp.lo at this
  rwa [if_pos hh] at this
/-- A call that reads the reader. -/
theorem callRv {f : FuncId} {args : List AV} {a : Value} {K : AV → Fr → Hp → Prop} (hl : l.length ≤ 1048576) (hH : Hp.le (RD names s p fl l) H) (hac : AC P f args (RD names s p fl l) pM (fun r H => r = .v a ∧ H = RD names s p fl l)) (hK : K (.v a) A H) : CallG P N f args A H K :=
  callPn hH hac (fun h hn => by
    rcases RD_names hn with rfl | rfl | ⟨i, _, rfl⟩
    · rfl
    · rfl
    · exact pM_high (by have := sub_ge 1000000 i; rw [FB_eq] at this; omega)) rfl (RD_live hl (Hp.le_refl _)) hK
theorem RD_over {X : Hp} {p' : Nat} {fl' : Bool} (hX : Hp.le (RD names s p fl l) X) : Hp.over (RD names s p' fl' l) X (RD names s p fl l) = X.upd 1000001 (.cells 5 (vecF (rdL names s p' fl' l.length))) := by
  funext h
  by_cases e : h = 1000001
  · subst e; rfl
  · have e1 : RD names s p' fl' l h = RD names s p fl l h := by unfold RD Hp.upd; rw [if_neg e, if_neg e]
    have e3 : ((X.upd 1000001 (.cells 5 (vecF (rdL names s p' fl' l.length)))) h) = X h := if_neg e
    rw [e3]
    unfold Hp.over
    rw [e1]
    cases e2 : RD names s p fl l h with
    | some B => exact (hX h B e2).symm
    | none => simp
/-- A call that turns the reader's place. -/
theorem callRw {f : FuncId} {args : List AV} {a : AV} {p' : Nat} {fl' : Bool} {K : AV → Fr → Hp → Prop} (hl : l.length ≤ 1048576) (hH : Hp.le (RD names s p fl l) H) (hac : AC P f args (RD names s p fl l) pM (fun r H => r = a ∧ H = RD names s p' fl' l)) (ha : ∀ q, a.scrub q = a) (hK : K a A (H.upd 1000001 (.cells 5 (vecF (rdL names s p' fl' l.length))))) : CallG P N f args A H K := by
  refine callG_of hac (fun _ => false) false hH (FitsL.refl _) (fun _ => rfl) (fun h hn _ => ?_) (by simp) ?_
  · rcases RD_names hn with rfl | rfl | ⟨i, _, rfl⟩
    · rfl
    · rfl
    · exact pM_high (by have := sub_ge 1000000 i; rw [FB_eq] at this; omega)
  · rintro r H' ⟨rfl, rfl⟩
    refine ⟨fun h h1 h2 => ?_, by simp, ?_⟩
    · exfalso
      unfold RD Hp.upd at h1 h2
      split at h2
      · cases h2
      · rename_i e; rw [if_neg e] at h1; exact h1 h2
    · rw [ha, RD_live hl (Hp.le_refl _), Fr.scrub_none, Hp.scrub_none, RD_over hH]
      exact hK
end
/-- The byte that is next. -/
def nxB (s : ByteArray) (p : Nat) (fl : Bool) : Nat := if fl = true then 0 else Go.Nt.bt s p
theorem next_ok (names s : ByteArray) (p : Nat) (fl : Bool) (l : List Nd) (hp : p ≤ s.size) (hs : s.size ≤ 400) (hl : l.length ≤ 1048576) : AC Tryd.prog 99 [.ref 1000001 0] (RD names s p fl l) pM (fun r H => r = .v (.int .u8 (nxB s p fl : Nat)) ∧ H = RD names s p fl l) := by
  have e : (p : Int) ≠ s.size → Go.Nt.bt s p = (s.data.toList.getD p 0).toNat := fun h => if_pos (by omega)
  have e0 : (p : Int) = s.size → Go.Nt.bt s p = 0 := fun h => if_neg (by omega)
  refine ac_of_awp (N := ⟨_, pM, fun h hh => pM_low (Nat.lt_of_lt_of_le hh (by decide)), true⟩) Tryd.func99 rfl (by kernel_rfl) Tryd.ntmps99 (by simp) ?_
  simp only [argsFr, List.zipIdx_cons, List.zipIdx_nil, go_sem]
  cases fl with
  | true =>
    repeat' (first | refine awp_seqK fun K hK => ?_ | (refine awp_regionK 262149 rfl ?_; simp only [List.map_cons, List.map_nil]; simp (maxSteps := 1000000) (dsimp := false) (implicitDefEqProofs := false) (disch := omega) only [wrap64, go_sem]) | (refine awp_regionQK 262149 (by kernel_rfl) (by kernel_rfl) (by kernel_rfl) ?_; simp only [List.map_cons, List.map_nil]; simp (maxSteps := 1000000) (dsimp := false) (implicitDefEqProofs := false) (disch := omega) only [wrap64, go_sem]) | refine awp_block ?_ | (refine awp_skip ?_; simp only [go_sem]) | (refine awp_exit ?_; simp only [go_sem]) | (refine awp_ret ?_; try simp only [go_sem]) | (refine awp_condP rfl ?_; try simp only [go_sem]) | (refine BrP.mk (fun h => ?_) (fun h => ?_) <;> try simp (dsimp := false) (disch := omega) only [wrap64]) | (refine Br.mk (fun h => ?_) (fun h => ?_) <;> try simp (dsimp := false) (disch := omega) only [wrap64]) | refine Ob.mk (by first | omega | (intro _ _; rfl) | trivial | (intros; trivial) | assumption | (intro i hi; have h0 : i = 0 := (by omega); subst h0; first | rfl | trivial) | (intro i hi; have h0 : i = 0 ∨ i = 1 := (by omega); rcases h0 with rfl | rfl <;> rfl) | (intro i hi; have h0 : i = 0 ∨ i = 1 ∨ i = 2 := (by omega); rcases h0 with rfl | rfl | rfl <;> rfl)) ?_ | apply_assumption -exfalso -symm)
    all_goals (first | (show endQ _ _ _ _ _ _ _; (repeat (rename (∀ (A : Fr) (H : Hp), AWP _ _ _ _ A H → _) => hK; clear hK)); (repeat (rename (Fr → Hp → Prop) => K; clear K))) | (show Exists _; (repeat (rename (∀ (A : Fr) (H : Hp), AWP _ _ _ _ A H → _) => hK; clear hK)); (repeat (rename (Fr → Hp → Prop) => K; clear K))) | skip)
    exact end_post rfl rfl (Hp.le_refl _) ⟨rfl, rfl⟩
  | false =>
    repeat' (first | refine awp_seqK fun K hK => ?_ | (refine awp_regionK 262149 rfl ?_; simp only [List.map_cons, List.map_nil]; simp (maxSteps := 1000000) (dsimp := false) (implicitDefEqProofs := false) (disch := omega) only [wrap64, go_sem]) | (refine awp_regionQK 262149 (by kernel_rfl) (by kernel_rfl) (by kernel_rfl) ?_; simp only [List.map_cons, List.map_nil]; simp (maxSteps := 1000000) (dsimp := false) (implicitDefEqProofs := false) (disch := omega) only [wrap64, go_sem]) | refine awp_block ?_ | (refine awp_skip ?_; simp only [go_sem]) | (refine awp_exit ?_; simp only [go_sem]) | (refine awp_ret ?_; try simp only [go_sem]) | (refine awp_condP rfl ?_; try simp only [go_sem]) | (refine BrP.mk (fun h => ?_) (fun h => ?_) <;> try simp (dsimp := false) (disch := omega) only [wrap64]) | (refine Br.mk (fun h => ?_) (fun h => ?_) <;> try simp (dsimp := false) (disch := omega) only [wrap64]) | refine Ob.mk (by first | omega | (intro _ _; rfl) | trivial | (intros; trivial) | assumption | (intro i hi; have h0 : i = 0 := (by omega); subst h0; first | rfl | trivial) | (intro i hi; have h0 : i = 0 ∨ i = 1 := (by omega); rcases h0 with rfl | rfl <;> rfl) | (intro i hi; have h0 : i = 0 ∨ i = 1 ∨ i = 2 := (by omega); rcases h0 with rfl | rfl | rfl <;> rfl)) ?_ | apply_assumption -exfalso -symm)
    all_goals (first | (show endQ _ _ _ _ _ _ _; (repeat (rename (∀ (A : Fr) (H : Hp), AWP _ _ _ _ A H → _) => hK; clear hK)); (repeat (rename (Fr → Hp → Prop) => K; clear K))) | (show Exists _; (repeat (rename (∀ (A : Fr) (H : Hp), AWP _ _ _ _ A H → _) => hK; clear hK)); (repeat (rename (Fr → Hp → Prop) => K; clear K))) | skip)
    · exact end_post rfl rfl (Hp.le_refl _) ⟨by show _ = AV.v (.int .u8 (Go.Nt.bt s p : Nat)); rw [e0 (by omega)]; rfl, rfl⟩
    · exact end_post rfl rfl (Hp.le_refl _) ⟨by show _ = AV.v (.int .u8 (Go.Nt.bt s p : Nat)); rw [e (by omega)], rfl⟩
theorem set5_2' (a b c d e x : AV) : setF (vecF [a, b, c, d, e]) 2 x = vecF [a, b, x, d, e] := set5_2 a b c d e x
theorem set5_3' (a b c d e x : AV) : setF (vecF [a, b, c, d, e]) 3 x = vecF [a, b, c, x, e] := set5_3 a b c d e x
theorem nx_in (s : ByteArray) (p : Nat) (fl : Bool) : (nxB s p fl = 0 ∨ p < s.size) ∧ nxB s p fl < 256 := by
  unfold nxB
  split
  · exact ⟨.inl rfl, by decide⟩
  · exact bt_in s p
theorem take_ok (names s : ByteArray) (p c : Nat) (fl : Bool) (l : List Nd) (hp : p ≤ s.size) (hs : s.size ≤ 400) (hl : l.length ≤ 1048576) (hc : 0 < c) : AC Tryd.prog 82 [.ref 1000001 0, .v (.int .u8 (c : Nat))] (RD names s p fl l) pM (fun r H => r = .v (.bool (decide (nxB s p fl = c))) ∧ H = RD names s (if nxB s p fl = c then p + 1 else p) fl l) := by
  have hx := nx_in s p fl
  refine ac_of_awp (N := ⟨_, pM, fun h hh => pM_low (Nat.lt_of_lt_of_le hh (by decide)), true⟩) Tryd.func82 rfl (by kernel_rfl) Tryd.ntmps82 (by simp) ?_
  simp only [argsFr, List.zipIdx_cons, List.zipIdx_nil, go_sem]
  repeat' (first | (show False; omega) | refine awp_seqK fun K hK => ?_ | (refine awp_regionK 275 rfl ?_; simp only [List.map_cons, List.map_nil]; simp (maxSteps := 1000000) (dsimp := false) (implicitDefEqProofs := false) (disch := omega) only [wrap64, go_sem, set5_2', set5_3']) | (refine awp_regionQK 275 (by kernel_rfl) (by kernel_rfl) (by kernel_rfl) ?_; simp only [List.map_cons, List.map_nil]; simp (maxSteps := 1000000) (dsimp := false) (implicitDefEqProofs := false) (disch := omega) only [wrap64, go_sem, set5_2', set5_3']) | refine awp_block ?_ | (refine awp_skip ?_; simp only [go_sem, set5_2', set5_3']) | (refine awp_exit ?_; simp only [go_sem, set5_2', set5_3']) | (refine awp_ret ?_; try simp only [go_sem, set5_2', set5_3']) | (refine awp_condP rfl ?_; try simp only [go_sem, set5_2', set5_3']) | (refine BrP.mk (fun h => ?_) (fun h => ?_) <;> try simp (dsimp := false) (disch := omega) only [wrap64]) | (refine Br.mk (fun h => ?_) (fun h => ?_) <;> try simp (dsimp := false) (disch := omega) only [wrap64]) | refine Ob.mk (by first | omega | (intro _ _; rfl) | trivial | (intros; trivial) | assumption | (intro i hi; have h0 : i = 0 := (by omega); subst h0; first | rfl | trivial) | (intro i hi; have h0 : i = 0 ∨ i = 1 := (by omega); rcases h0 with rfl | rfl <;> rfl) | (intro i hi; have h0 : i = 0 ∨ i = 1 ∨ i = 2 := (by omega); rcases h0 with rfl | rfl | rfl <;> rfl)) ?_ | ((first | ((first | refine atF (f := 99) ?_ | refine atQ (f := 99) ?_); refine callRv hl (Hp.le_refl _) (next_ok names s p fl l hp hs hl) ?_)); simp (maxSteps := 1000000) (dsimp := false) (implicitDefEqProofs := false) (disch := omega) only [wrap64, go_sem, set5_2', set5_3']) | apply_assumption -exfalso -symm)
  all_goals (first | (show endQ _ _ _ _ _ _ _; (repeat (rename (∀ (A : Fr) (H : Hp), AWP _ _ _ _ A H → _) => hK; clear hK)); (repeat (rename (Fr → Hp → Prop) => K; clear K))) | (show Exists _; (repeat (rename (∀ (A : Fr) (H : Hp), AWP _ _ _ _ A H → _) => hK; clear hK)); (repeat (rename (Fr → Hp → Prop) => K; clear K))) | skip)
  · have e : nxB s p fl = c := by omega
    exact end_post (H' := RD names s (p + 1) fl l) rfl rfl (Hp.le_refl _) ⟨by rw [decide_eq_true e], by rw [if_pos e]⟩
  · have e : ¬ nxB s p fl = c := by omega
    exact end_post rfl rfl (Hp.le_refl _) ⟨by rw [decide_eq_false e], by rw [if_neg e]⟩
section
variable {P : Program} {N : Cx} {A A' : Fr} {H H' : Hp} {names s : ByteArray} {p : Nat} {fl : Bool} {l : List Nd}
theorem callTk {f : FuncId} {args : List AV} (c : Nat) {K : AV → Fr → Hp → Prop} (hl : l.length ≤ 1048576) (hH : Hp.le (RD names s p fl l) H) (hac : AC P f args (RD names s p fl l) pM (fun r H => r = .v (.bool (decide (nxB s p fl = c))) ∧ H = RD names s (if nxB s p fl = c then p + 1 else p) fl l))
    (h1 : nxB s p fl = c → K (.v (.bool (true))) A (H.upd 1000001 (.cells 5 (vecF (rdL names s (p + 1) fl l.length))))) (h2 : ¬ nxB s p fl = c → K (.v (.bool (false))) A (H.upd 1000001 (.cells 5 (vecF (rdL names s p fl l.length))))) : CallG P N f args A H K := by
  refine callRw hl hH hac (fun q => rfl) ?_
  by_cases h : nxB s p fl = c
  · rw [if_pos h, decide_eq_true h]; exact h1 h
  · rw [if_neg h, decide_eq_false h]; exact h2 h
/-- .. of which the byte is known to be another. -/
theorem callTn {f : FuncId} {args : List AV} (c : Nat) {K : AV → Fr → Hp → Prop} (hn : ¬ nxB s p fl = c) (hl : l.length ≤ 1048576) (hH : Hp.le (RD names s p fl l) H) (hac : AC P f args (RD names s p fl l) pM (fun r H => r = .v (.bool (decide (nxB s p fl = c))) ∧ H = RD names s (if nxB s p fl = c then p + 1 else p) fl l))
    (h2 : K (.v (.bool (false))) A (H.upd 1000001 (.cells 5 (vecF (rdL names s p fl l.length))))) : CallG P N f args A H K :=
  callTk c hl hH hac (fun h => absurd h hn) (fun _ => h2)
theorem callEp {f : FuncId} {args : List AV} (c : Nat) {K : AV → Fr → Hp → Prop} (hl : l.length ≤ 1048576) (hH : Hp.le (RD names s p fl l) H) (hac : AC P f args (RD names s p fl l) pM (fun r H => r = .tup 0 (vecF []) ∧ H = RD names s (if nxB s p fl = c then p + 1 else p) (if nxB s p fl = c then fl else true) l))
    (h1 : nxB s p fl = c → K (.tup 0 (vecF [])) A (H.upd 1000001 (.cells 5 (vecF (rdL names s (p + 1) fl l.length))))) (h2 : ¬ nxB s p fl = c → K (.tup 0 (vecF [])) A (H.upd 1000001 (.cells 5 (vecF (rdL names s p true l.length))))) : CallG P N f args A H K := by
  refine callRw hl hH hac (fun q => by rw [scrub_tup, scF_vecF]; rfl) ?_
  by_cases h : nxB s p fl = c
  · simp only [if_pos h]; exact h1 h
  · simp only [if_neg h]; exact h2 h
theorem callEn {f : FuncId} {args : List AV} (c : Nat) {K : AV → Fr → Hp → Prop} (hn : ¬ nxB s p fl = c) (hl : l.length ≤ 1048576) (hH : Hp.le (RD names s p fl l) H) (hac : AC P f args (RD names s p fl l) pM (fun r H => r = .tup 0 (vecF []) ∧ H = RD names s (if nxB s p fl = c then p + 1 else p) (if nxB s p fl = c then fl else true) l))
    (h2 : K (.tup 0 (vecF [])) A (H.upd 1000001 (.cells 5 (vecF (rdL names s p true l.length))))) : CallG P N f args A H K :=
  callEp c hl hH hac (fun h => absurd h hn) (fun _ => h2)
end
theorem end_rd {P : Program} {N : Cx} {A : Fr} {H H' : Hp} {fn : Func} {post : AV → Hp → Prop} (hr : fn.results.toList = []) (hl : Hp.le H' H) (hp : post (.tup 0 (vecF [])) H') : endQ P N fn post .normal A H := by
  unfold endQ
  exact ⟨A, H', Go.Av.Sub.mk (fun _ _ h => h) hl, by rw [hr]; exact hp⟩
theorem expect_ok (names s : ByteArray) (p c : Nat) (fl : Bool) (l : List Nd) (hp : p ≤ s.size) (hs : s.size ≤ 400) (hl : l.length ≤ 1048576) (hc : 0 < c) : AC Tryd.prog 117 [.ref 1000001 0, .v (.int .u8 (c : Nat))] (RD names s p fl l) pM (fun r H => r = .tup 0 (vecF []) ∧ H = RD names s (if nxB s p fl = c then p + 1 else p) (if nxB s p fl = c then fl else true) l) := by
  refine ac_of_awp (N := ⟨_, pM, fun h hh => pM_low (Nat.lt_of_lt_of_le hh (by decide)), true⟩) Tryd.func117 rfl (by kernel_rfl) Tryd.ntmps117 (by simp) ?_
  simp only [argsFr, List.zipIdx_cons, List.zipIdx_nil, go_sem]
  repeat' (first | (show False; omega) | (refine awp_skip ?_) | ((first | refine atF (f := 82) ?_ | refine atQ (f := 82) ?_); (refine callTk c hl (Hp.le_refl _) (take_ok names s p c fl l hp hs hl hc) (fun hx => ?_) (fun hx => ?_)) <;> simp (maxSteps := 1000000) (dsimp := false) (implicitDefEqProofs := false) (disch := omega) only [wrap64, go_sem, set5_2', set5_3']) | refine awp_seqK fun K hK => ?_ | (refine awp_regionK 131 rfl ?_; simp only [List.map_cons, List.map_nil]; simp (maxSteps := 1000000) (dsimp := false) (implicitDefEqProofs := false) (disch := omega) only [wrap64, go_sem, set5_2', set5_3']) | (refine awp_regionQK 131 (by kernel_rfl) (by kernel_rfl) (by kernel_rfl) ?_; simp only [List.map_cons, List.map_nil]; simp (maxSteps := 1000000) (dsimp := false) (implicitDefEqProofs := false) (disch := omega) only [wrap64, go_sem, set5_2', set5_3']) | refine awp_block ?_ | (refine awp_skip ?_; simp only [go_sem, set5_2', set5_3']) | (refine awp_exit ?_; simp only [go_sem, set5_2', set5_3']) | (refine awp_ret ?_; try simp only [go_sem, set5_2', set5_3']) | (refine awp_condP rfl ?_; try simp only [go_sem, set5_2', set5_3']) | (refine BrP.mk (fun h => ?_) (fun h => ?_) <;> try simp (dsimp := false) (disch := omega) only [wrap64]) | (refine Br.mk (fun h => ?_) (fun h => ?_) <;> try simp (dsimp := false) (disch := omega) only [wrap64]) | refine Ob.mk (by first | omega | (intro _ _; rfl) | trivial | (intros; trivial) | assumption | (intro i hi; have h0 : i = 0 := (by omega); subst h0; first | rfl | trivial) | (intro i hi; have h0 : i = 0 ∨ i = 1 := (by omega); rcases h0 with rfl | rfl <;> rfl) | (intro i hi; have h0 : i = 0 ∨ i = 1 ∨ i = 2 := (by omega); rcases h0 with rfl | rfl | rfl <;> rfl)) ?_ | apply_assumption -exfalso -symm)
  all_goals (first | (show endQ _ _ _ _ _ _ _; (repeat (rename (∀ (A : Fr) (H : Hp), AWP _ _ _ _ A H → _) => hK; clear hK)); (repeat (rename (Fr → Hp → Prop) => K; clear K))) | (show Exists _; (repeat (rename (∀ (A : Fr) (H : Hp), AWP _ _ _ _ A H → _) => hK; clear hK)); (repeat (rename (Fr → Hp → Prop) => K; clear K))) | skip)
  · exact end_rd (H' := RD names s (p + 1) fl l) rfl (Hp.le_refl _) ⟨rfl, by rw [if_pos hx, if_pos hx]⟩
  · exact end_rd (H' := RD names s p true l) rfl (Hp.le_refl _) ⟨rfl, by rw [if_neg hx, if_neg hx]⟩
theorem isDigit_ok (c d : Nat) : AC Tryd.prog 118 [.v (.int .u8 (c : Nat)), .v (.int .u8 (d : Nat))] Hp.emp (fun _ => false) (retV (.v (.bool (decide (d ≤ c ∧ c ≤ 57))))) := by
  refine ac_of_awp (N := ⟨_, fun _ => false, fun _ _ => rfl, true⟩) Tryd.func118 rfl (by kernel_rfl) Tryd.ntmps118 (by simp) ?_
  simp only [argsFr, List.zipIdx_cons, List.zipIdx_nil, go_sem]
  repeat' (first | refine awp_seqK fun K hK => ?_ | (refine awp_regionK 19 rfl ?_; simp only [List.map_cons, List.map_nil]; simp (maxSteps := 1000000) (dsimp := false) (implicitDefEqProofs := false) (disch := omega) only [wrap64, go_sem]) | (refine awp_regionQK 19 (by kernel_rfl) (by kernel_rfl) (by kernel_rfl) ?_; simp only [List.map_cons, List.map_nil]; simp (maxSteps := 1000000) (dsimp := false) (implicitDefEqProofs := false) (disch := omega) only [wrap64, go_sem]) | refine awp_block ?_ | (refine awp_skip ?_; simp only [go_sem]) | (refine awp_exit ?_; simp only [go_sem]) | (refine awp_ret ?_; try simp only [go_sem]) | (refine awp_condP rfl ?_; try simp only [go_sem]) | (refine BrP.mk (fun h => ?_) (fun h => ?_) <;> try simp (dsimp := false) (disch := omega) only [wrap64]) | (refine Br.mk (fun h => ?_) (fun h => ?_) <;> try simp (dsimp := false) (disch := omega) only [wrap64]) | refine Ob.mk (by first | omega | (intro _ _; rfl) | trivial | (intros; trivial) | assumption | (intro i hi; have h0 : i = 0 := (by omega); subst h0; first | rfl | trivial) | (intro i hi; have h0 : i = 0 ∨ i = 1 := (by omega); rcases h0 with rfl | rfl <;> rfl) | (intro i hi; have h0 : i = 0 ∨ i = 1 ∨ i = 2 := (by omega); rcases h0 with rfl | rfl | rfl <;> rfl)) ?_ | apply_assumption -exfalso -symm)
  all_goals (first | (show endQ _ _ _ _ _ _ _; (repeat (rename (∀ (A : Fr) (H : Hp), AWP _ _ _ _ A H → _) => hK; clear hK)); (repeat (rename (Fr → Hp → Prop) => K; clear K))) | (show Exists _; (repeat (rename (∀ (A : Fr) (H : Hp), AWP _ _ _ _ A H → _) => hK; clear hK)); (repeat (rename (Fr → Hp → Prop) => K; clear K))) | skip)
  all_goals
    refine end_retB rfl rfl ?_
    simp only [Bool.false_eq_true, false_iff, decide_eq_true_eq]
    omega
/-- What a count comes to. -/
def cntR (s : ByteArray) (p : Nat) (fl : Bool) : Int × Nat × Bool :=
  if ¬ (49 ≤ nxB s p fl ∧ nxB s p fl ≤ 57) then (1, p, fl)
  else if 48 ≤ nxB s (p + 1) fl ∧ nxB s (p + 1) fl ≤ 57 then (10 * ((nxB s p fl : Int) - 48) + ((nxB s (p + 1) fl : Int) - 48), p + 2, fl)
  else if nxB s p fl = 49 then (1, p + 1, true) else ((nxB s p fl : Int) - 48, p + 1, fl)
theorem count_ok (names s : ByteArray) (p : Nat) (fl : Bool) (l : List Nd) (hp : p ≤ s.size) (hs : s.size ≤ 400) (hl : l.length ≤ 1048576) : AC Tryd.prog 98 [.ref 1000001 0] (RD names s p fl l) pM (fun r H => r = .v (.int .i64 ((cntR s p fl).1)) ∧ H = RD names s (cntR s p fl).2.1 (cntR s p fl).2.2 l) := by
  have hx := nx_in s p fl
  have hx1 := nx_in s (p + 1) fl
  refine ac_of_awp (N := ⟨_, pM, fun h hh => pM_low (Nat.lt_of_lt_of_le hh (by decide)), true⟩) Tryd.func98 rfl (by kernel_rfl) Tryd.ntmps98 (by simp) ?_
  simp only [argsFr, List.zipIdx_cons, List.zipIdx_nil, go_sem]
  repeat' (first | (show False; omega) | refine awp_seqK fun K hK => ?_ | (refine awp_regionK 549772592189 rfl ?_; simp only [List.map_cons, List.map_nil]; simp (maxSteps := 1000000) (dsimp := false) (implicitDefEqProofs := false) (disch := omega) only [wrap64, go_sem, set5_2', set5_3', wrap8']) | (refine awp_regionQK 549772592189 (by kernel_rfl) (by kernel_rfl) (by kernel_rfl) ?_; simp only [List.map_cons, List.map_nil]; simp (maxSteps := 1000000) (dsimp := false) (implicitDefEqProofs := false) (disch := omega) only [wrap64, go_sem, set5_2', set5_3', wrap8']) | refine awp_block ?_ | (refine awp_skip ?_; simp only [go_sem, set5_2', set5_3', wrap8']) | (refine awp_exit ?_; simp only [go_sem, set5_2', set5_3', wrap8']) | (refine awp_ret ?_; try simp only [go_sem, set5_2', set5_3', wrap8']) | (refine awp_condP rfl ?_; try simp only [go_sem, set5_2', set5_3', wrap8']) | (refine BrP.mk (fun h => ?_) (fun h => ?_) <;> try simp (dsimp := false) (disch := omega) only [wrap64]) | (refine Br.mk (fun h => ?_) (fun h => ?_) <;> try simp (dsimp := false) (disch := omega) only [wrap64]) | refine Ob.mk (by first | omega | (intro _ _; rfl) | trivial | (intros; trivial) | assumption | (intro i hi; have h0 : i = 0 := (by omega); subst h0; first | rfl | trivial) | (intro i hi; have h0 : i = 0 ∨ i = 1 := (by omega); rcases h0 with rfl | rfl <;> rfl) | (intro i hi; have h0 : i = 0 ∨ i = 1 ∨ i = 2 := (by omega); rcases h0 with rfl | rfl | rfl <;> rfl)) ?_ | ((first | ((first | refine atF (f := 118) ?_ | refine atQ (f := 118) ?_); (first | (refine cV (hac := isDigit_ok (nxB s p fl) 49) (hK := ?_)) | (refine cQV (hac := isDigit_ok (nxB s p fl) 49) (hK := ?_)))) | ((first | refine atF (f := 118) ?_ | refine atQ (f := 118) ?_); (first | (refine cV (hac := isDigit_ok (nxB s (p + 1) fl) 48) (hK := ?_)) | (refine cQV (hac := isDigit_ok (nxB s (p + 1) fl) 48) (hK := ?_)))) | ((first | refine atF (f := 99) ?_ | refine atQ (f := 99) ?_); first | refine callRv hl (Hp.le_refl _) (next_ok names s p fl l hp hs hl) ?_ | refine callRv (p := p + 1) hl (Hp.le_refl _) (next_ok names s (p + 1) fl l (by omega) hs hl) ?_)); simp (maxSteps := 1000000) (dsimp := false) (implicitDefEqProofs := false) (disch := omega) only [wrap64, go_sem, set5_2', set5_3', wrap8']) | apply_assumption -exfalso -symm)
  all_goals (first | (show endQ _ _ _ _ _ _ _; (repeat (rename (∀ (A : Fr) (H : Hp), AWP _ _ _ _ A H → _) => hK; clear hK)); (repeat (rename (Fr → Hp → Prop) => K; clear K))) | (show Exists _; (repeat (rename (∀ (A : Fr) (H : Hp), AWP _ _ _ _ A H → _) => hK; clear hK)); (repeat (rename (Fr → Hp → Prop) => K; clear K))) | skip)
  · have e : cntR s p fl = (10 * ((nxB s p fl : Int) - 48) + ((nxB s (p + 1) fl : Int) - 48), p + 2, fl) := by
      unfold cntR; rw [if_neg (by omega), if_pos (by omega)]
    rw [e]; exact end_post (H' := RD names s (p + 2) fl l) rfl rfl (Hp.le_refl _) ⟨rfl, rfl⟩
  · have e : cntR s p fl = (1, p + 1, true) := by
      unfold cntR; rw [if_neg (by omega), if_neg (by omega), if_pos (by omega)]
    rw [e]; exact end_post (H' := RD names s (p + 1) true l) rfl rfl (Hp.le_refl _) ⟨by congr 2, rfl⟩
  · have e : cntR s p fl = ((nxB s p fl : Int) - 48, p + 1, fl) := by
      unfold cntR; rw [if_neg (by omega), if_neg (by omega), if_neg (by omega)]
    rw [e]; exact end_post (H' := RD names s (p + 1) fl l) rfl rfl (Hp.le_refl _) ⟨rfl, rfl⟩
  · have e : cntR s p fl = (1, p, fl) := by
      unfold cntR; rw [if_pos (by omega)]
    rw [e]; exact end_post (H' := RD names s p fl l) rfl rfl (Hp.le_refl _) ⟨rfl, rfl⟩
end Go.Proofs.YticbabpajligbaaDoor
end
/- The program's reader of notations: what its parts leave, and how they are called. -/
section
namespace Go.Proofs.YticbabpajligbaaDoor
open Go.Av
set_option linter.unusedSimpArgs false
set_option linter.unusedVariables false
attribute [local irreducible] AWP CallG Ob Br BrP Go.Av.Sub endQ AOps OpV AC thenA blkA opsVC opVC withA withArgs opsQ opQ CallQ withA2 withArgs2
open Go.Nt (Nd nd0 kd li liF dig pInv pSuf pItem pSeq Pr Goes nmOk pItem_goes pSeq_goes)
def pBu (names s : ByteArray) (f p : Nat) (l : List Nd) : Pr Nd := match pSeq names s f p l [] with
  | .out => .out
  | .bad w => .bad w
  | .ok q l1 a =>
    if Go.Nt.bt s q = 58 ∨ Go.Nt.bt s q = 44 then
      match pSeq names s f (q + 1) l1 [] with
      | .out => .out
      | .bad w => .bad w
      | .ok r l2 b => if Go.Nt.bt s r = 93 then .ok (r + 1) l2 ⟨if Go.Nt.bt s q = 58 then 4 else 3, 0, 0, 0, (a.length : Int), a ++ b⟩ else .bad r
    else .bad q
def pUn (names s : ByteArray) (f p : Nat) (l : List Nd) : Pr Nd :=
  if 0 ≤ liI names (Go.Nt.bt s p) then .ok (p + 1) l ⟨1, liI names (Go.Nt.bt s p), 0, 0, 0, []⟩
  else if Go.Nt.bt s p = 40 then
    match pSeq names s f (p + 1) l [] with
    | .out => .out
    | .bad w => .bad w
    | .ok q l' ks => if Go.Nt.bt s q = 41 then .ok (q + 1) l' ⟨2, 0, 0, 0, 0, ks⟩ else .bad q
  else if Go.Nt.bt s p = 91 then pBu names s f (p + 1) l
  else .bad p
theorem pIt_un (names s : ByteArray) (f p : Nat) (l : List Nd) : pItem names s (f + 1) p l = match pUn names s f p l with
    | .out => .out
    | .bad w => .bad w
    | .ok q l' x => pSuf s q l' x := by
  unfold pUn
  by_cases h : 0 ≤ liI names (Go.Nt.bt s p)
  · rw [if_pos h, pIt_mv h]
  · rw [if_neg h]
    by_cases h2 : Go.Nt.bt s p = 40
    · rw [if_pos h2, pIt_sq h h2]
      cases pSeq names s f (p + 1) l [] with
      | out => rfl
      | bad w => rfl
      | ok q l' ks =>
        dsimp only
        split <;> rfl
    · rw [if_neg h2]
      by_cases h3 : Go.Nt.bt s p = 91
      · rw [if_pos h3, pIt_br h h3]
        unfold pBr pBu
        cases pSeq names s f (p + 1) l [] with
        | out => rfl
        | bad w => rfl
        | ok q l1 a =>
          dsimp only
          split
          · cases pSeq names s f (q + 1) l1 [] with
            | out => rfl
            | bad w => rfl
            | ok r l2 b =>
              dsimp only
              split <;> rfl
          · rfl
      · rw [if_neg h3, pIt_no h h2 h3]
/-- What the reader's parts leave where they fail. -/
structure Junk (s : ByteArray) (p w : Nat) (fl : Bool) (n n' : Nat) : Prop where
  le : p ≤ w ∧ w ≤ s.size
  st : fl = true ∨ Go.Nt.bt s w = 48
  len : n' ≤ n + (w - p) + 1
theorem nx_bad {s : ByteArray} {w c : Nat} {fl : Bool} (h : fl = true ∨ Go.Nt.bt s w = 48) (h0 : c ≠ 0) (h1 : c ≠ 48) : ¬ nxB s w fl = c := by
  unfold nxB
  intro e
  split at e
  · exact h0 e.symm
  · rcases h with h | h
    · contradiction
    · omega
theorem cnt_bad {s : ByteArray} {w : Nat} {fl : Bool} (h : fl = true ∨ Go.Nt.bt s w = 48) : cntR s w fl = (1, w, fl) := by
  unfold cntR
  rw [if_pos]
  unfold nxB
  split
  · omega
  · rcases h with h | h
    · contradiction
    · omega
abbrev R2 (names s : ByteArray) (p : Nat) (fl : Bool) (l : List Nd) (ks : List Int) : Hp := (RD names s p fl l).upd 1000002 (.cells ks.length (cM iv 0 ks))
def postIm (names s : ByteArray) (p : Nat) (l : List Nd) (R : Pr Unit) (r : AV) (H : Hp) : Prop := match R with
  | .out => False
  | .bad w => ∃ fl l' v, Junk s p w fl l.length l'.length ∧ r = .v (.int .i64 (v)) ∧ H = RD names s w fl l'
  | .ok q l' _ => r = .v (.int .i64 ((l'.length : Int) - 1)) ∧ H = RD names s q false l'
def postSm (names s : ByteArray) (p : Nat) (l : List Nd) (R : Pr (List Int)) (r : AV) (H : Hp) : Prop := match R with
  | .out => False
  | .bad w => ∃ fl l' ks, Junk s p w fl l.length l'.length ∧ ks.length ≤ w - p + 1 ∧ r = .own 1000002 0 1 ks.length ∧ H = R2 names s w fl l' ks
  | .ok q l' ks => r = .own 1000002 0 1 ks.length ∧ H = R2 names s q false l' ks
def postUm (names s : ByteArray) (p : Nat) (l : List Nd) (R : Pr Nd) (r : AV) (H : Hp) : Prop := match R with
  | .out => False
  | .bad w => ∃ fl l' x, (p ≤ w ∧ w ≤ s.size) ∧ (fl = true ∨ Go.Nt.bt s w = 48) ∧ l'.length ≤ l.length + (w - p) ∧ x.kids.length ≤ 2000 ∧ r = .agg 6 (nO (.own 1000002 0 1 x.kids.length) x) ∧ H = R2 names s w fl l' x.kids
  | .ok q l' x => x.kids.length ≤ 2000 ∧ r = .agg 6 (nO (.own 1000002 0 1 x.kids.length) x) ∧ H = R2 names s q false l' x.kids
theorem HasNR.bare {xs : List Nd} (hx : xs.length ≤ 1048576) : HasNR (NR xs xs.length xs.length) xs := ⟨NR_self _ _ _, fun _ hi => NR_sub hi hx⟩
theorem HasNR.updB {H : Hp} {xs : List Nd} {e : Nat} {B : Blk} (h0 : e ≠ 1000000) (he : e < 2097152) (h : HasNR H xs) : HasNR (H.upd e B) xs := by
  obtain ⟨h1, h2⟩ := h
  refine ⟨?_, fun i hi => ?_⟩
  · unfold Hp.upd; rw [if_neg (Ne.symm h0)]; exact h1
  · have := sub_ge 1000000 i; rw [FB_eq] at this
    unfold Hp.upd; rw [if_neg (by omega)]; exact h2 i hi
section
variable {P : Program} {N : Cx} {A A' : Fr} {H H' : Hp} {names s : ByteArray} {p : Nat} {fl : Bool} {l : List Nd}
theorem le_rd (h1 : H 1000001 = some (.cells 5 (vecF (rdL names s p fl l.length)))) (h2 : HasNR H l) : Hp.le (RD names s p fl l) H := fun h B hB => by
  unfold RD Hp.upd at hB
  split at hB
  · rename_i e; subst e; rw [h1]; exact hB
  · rcases NR_cases hB with ⟨rfl, rfl⟩ | ⟨i, hi, rfl, rfl⟩
    · exact h2.top
    · exact h2.row i hi
theorem NR_slo {xs : List Nd} {k n : Nat} {q : Nat → Bool} : ((NR xs k n).scrub q).lo = Hp.emp := by
  funext h
  unfold Hp.lo Hp.scrub
  split
  · rename_i hh; rw [NR_low hh]; rfl
  · rfl
theorem NR_slo' {xs : List Nd} {k n : Nat} : (NR xs k n).lo = Hp.emp := by
  funext h
  unfold Hp.lo
  split
  · rename_i hh; rw [NR_low hh]; rfl
  · rfl
theorem R2_low {ks : List Int} {h : Nat} (hh : h < 1000000) : R2 names s p fl l ks h = none := by
  unfold R2 Hp.upd; rw [if_neg (by omega)]; exact RD_low hh
theorem RD_add {h : Nat} {B : Blk} {X : Hp} (hh : h < 1000000) : (RD names s p fl l).add (X.upd h B) = ((RD names s p fl l).add X).upd h B := add_up (RD_low hh)
theorem R2_add {ks : List Int} {h : Nat} {B : Blk} {X : Hp} (hh : h < 1000000) : (R2 names s p fl l ks).add (X.upd h B) = ((R2 names s p fl l ks).add X).upd h B := add_up (R2_low hh)
/-- A call that reads on. -/
theorem callRr {f : FuncId} {args : List AV} {post : AV → Hp → Prop} {K : AV → Fr → Hp → Prop} (hH : Hp.le (RD names s p fl l) H) (hac : AC P f args (RD names s p fl l) (· == 1000001) post) (hpn : ∀ h, N.pn h = true → h = 1000001)
    (hK : ∀ r H', post r H' → (∀ h, H' h ≠ none → h = 1000001 ∨ pR h = true) ∧ r.scrub (fun h => !liveB H' h) = r ∧ H'.scrub (fun h => !liveB H' h) = H' ∧ K r (A.scrub pR) (H'.add (H.scrub pR).lo)) : CallG P N f args A H K := by
  refine callG_less (callG_of hac pR false hH (FitsL.refl _) (fun _ => rfl) (fun h hn hp => ?_) (fun h hp => ?_) fun r H' hp => ?_)
  · rcases RD_names hn with rfl | rfl | ⟨i, _, rfl⟩
    · rfl
    · cases hp
    · rw [pR_sub] at hp; cases hp
  · rw [hpn h hp]; rfl
  · obtain ⟨h1, h2, h3, h4⟩ := hK r H' hp
    refine ⟨fun h hn h0 => ?_, fun e => (by cases e), H'.add (H.scrub pR).lo, fun h B hB => ?_, by rw [h2]; exact h4⟩
    · rcases h1 h hn with rfl | h5
      · cases h0
      · exact h5
    · rw [h3]
      unfold Hp.add at hB
      unfold Hp.over
      cases e : H' h with
      | some C => rw [e] at hB; exact hB
      | none =>
        rw [e] at hB
        dsimp only at hB ⊢
        unfold Hp.lo at hB
        split at hB
        · rename_i hh
          rw [RD_low hh]; exact hB
        · cases hB
theorem R2_names {ks : List Int} {h : Nat} (hn : R2 names s p fl l ks h ≠ none) : h = 1000001 ∨ pR h = true := by
  unfold R2 Hp.upd at hn
  split at hn
  · rename_i e; subst e; exact .inr rfl
  · rcases RD_names hn with rfl | rfl | ⟨i, _, rfl⟩
    · exact .inl rfl
    · exact .inr rfl
    · exact .inr (pR_sub i)
theorem R2_live {ks : List Int} (hl : l.length ≤ 1048576) : (R2 names s p fl l ks).scrub (fun h => !liveB (R2 names s p fl l ks) h) = R2 names s p fl l ks := by
  have hle : Hp.le (RD names s p fl l) (R2 names s p fl l ks) := fun h B hB => by
    unfold R2 Hp.upd
    split
    · rename_i e; subst e
      rcases RD_names (names := names) (s := s) (p := p) (fl := fl) (l := l) (h := 1000002) (by rw [hB]; simp) with e | e | ⟨i, _, e⟩
      · omega
      · omega
      · have := sub_ge 1000000 i; rw [FB_eq] at this; omega
    · exact hB
  have := RD_live (names := names) (s := s) (p := p) (fl := fl) hl hle
  rw [Hp.scrub_upd, this, Blk.scrub_cells, scF_iv]
theorem callIm {f : FuncId} {args : List AV} {R : Pr Unit} {K : AV → Fr → Hp → Prop} (hs : s.size ≤ 400) (hn : l.length ≤ 1000) (hR : ∀ q l' u, R = .ok q l' u → l'.length ≤ 1048576) (hH : Hp.le (RD names s p fl l) H) (hac : AC P f args (RD names s p fl l) (· == 1000001) (postIm names s p l R)) (hpn : ∀ h, N.pn h = true → h = 1000001)
    (h1 : ∀ w fl' l' v, R = .bad w → Junk s p w fl' l.length l'.length → K (.v (.int .i64 (v))) (A.scrub pR) ((RD names s w fl' l').add (H.scrub pR).lo))
    (h2 : ∀ q l' u, R = .ok q l' u → K (.v (.int .i64 ((l'.length : Int) - 1))) (A.scrub pR) ((RD names s q false l').add (H.scrub pR).lo)) : CallG P N f args A H K := by
  refine callRr hH hac hpn fun r H' hp => ?_
  have key : ∀ (q : Nat) (fl' : Bool) (l' : List Nd) (v : Int), l'.length ≤ 1048576 → r = .v (.int .i64 (v)) → H' = RD names s q fl' l' → K (.v (.int .i64 (v))) (A.scrub pR) ((RD names s q fl' l').add (H.scrub pR).lo) → (∀ h, H' h ≠ none → h = 1000001 ∨ pR h = true) ∧ r.scrub (fun h => !liveB H' h) = r ∧ H'.scrub (fun h => !liveB H' h) = H' ∧ K r (A.scrub pR) (H'.add (H.scrub pR).lo) := by
    intro q fl' l' v hl e1 e2 hk
    subst e1 e2
    refine ⟨fun h hn => ?_, rfl, RD_live hl (Hp.le_refl _), hk⟩
    rcases RD_names hn with rfl | rfl | ⟨i, _, rfl⟩
    · exact .inl rfl
    · exact .inr rfl
    · exact .inr (pR_sub i)
  unfold postIm at hp
  cases R with
  | out => exact hp.elim
  | bad w =>
    obtain ⟨fl', l', v, hj, e1, e2⟩ := hp
    exact key w fl' l' v (by have := hj.len; have := hj.le; omega) e1 e2 (h1 w fl' l' v rfl hj)
  | ok q l' u => exact key q false l' _ (hR q l' u rfl) hp.1 hp.2 (h2 q l' u rfl)
theorem callSm {f : FuncId} {args : List AV} {R : Pr (List Int)} {K : AV → Fr → Hp → Prop} (hs : s.size ≤ 400) (hn : l.length ≤ 1000) (hR : ∀ q l' u, R = .ok q l' u → l'.length ≤ 1048576) (hH : Hp.le (RD names s p fl l) H) (hac : AC P f args (RD names s p fl l) (· == 1000001) (postSm names s p l R)) (hpn : ∀ h, N.pn h = true → h = 1000001)
    (h1 : ∀ w fl' l' ks, R = .bad w → Junk s p w fl' l.length l'.length → ks.length ≤ w - p + 1 → K (.own 1000002 0 1 ks.length) (A.scrub pR) ((R2 names s w fl' l' ks).add (H.scrub pR).lo))
    (h2 : ∀ q l' ks, R = .ok q l' ks → K (.own 1000002 0 1 ks.length) (A.scrub pR) ((R2 names s q false l' ks).add (H.scrub pR).lo)) : CallG P N f args A H K := by
  refine callRr hH hac hpn fun r H' hp => ?_
  have key : ∀ (q : Nat) (fl' : Bool) (l' : List Nd) (ks : List Int), l'.length ≤ 1048576 → r = .own 1000002 0 1 ks.length → H' = R2 names s q fl' l' ks → K (.own 1000002 0 1 ks.length) (A.scrub pR) ((R2 names s q fl' l' ks).add (H.scrub pR).lo) → (∀ h, H' h ≠ none → h = 1000001 ∨ pR h = true) ∧ r.scrub (fun h => !liveB H' h) = r ∧ H'.scrub (fun h => !liveB H' h) = H' ∧ K r (A.scrub pR) (H'.add (H.scrub pR).lo) := by
    intro q fl' l' ks hl e1 e2 hk
    subst e1 e2
    exact ⟨fun h hn => R2_names hn, by rw [scrub_own]; rfl, R2_live hl, hk⟩
  unfold postSm at hp
  cases R with
  | out => exact hp.elim
  | bad w =>
    obtain ⟨fl', l', ks, hj, hk, e1, e2⟩ := hp
    exact key w fl' l' ks (by have := hj.len; have := hj.le; omega) e1 e2 (h1 w fl' l' ks rfl hj hk)
  | ok q l' ks => exact key q false l' ks (hR q l' ks rfl) hp.1 hp.2 (h2 q l' ks rfl)
theorem callUm {f : FuncId} {args : List AV} {R : Pr Nd} {K : AV → Fr → Hp → Prop} (hs : s.size ≤ 400) (hn : l.length ≤ 1000) (hR : ∀ q l' u, R = .ok q l' u → l'.length ≤ 1048576) (hH : Hp.le (RD names s p fl l) H) (hac : AC P f args (RD names s p fl l) (· == 1000001) (postUm names s p l R)) (hpn : ∀ h, N.pn h = true → h = 1000001)
    (h1 : ∀ w fl' l' x, R = .bad w → (p ≤ w ∧ w ≤ s.size) → (fl' = true ∨ Go.Nt.bt s w = 48) → l'.length ≤ l.length + (w - p) → x.kids.length ≤ 2000 → K (.agg 6 (nO (.own 1000002 0 1 x.kids.length) x)) (A.scrub pR) ((R2 names s w fl' l' x.kids).add (H.scrub pR).lo))
    (h2 : ∀ q l' x, R = .ok q l' x → x.kids.length ≤ 2000 → K (.agg 6 (nO (.own 1000002 0 1 x.kids.length) x)) (A.scrub pR) ((R2 names s q false l' x.kids).add (H.scrub pR).lo)) : CallG P N f args A H K := by
  refine callRr hH hac hpn fun r H' hp => ?_
  have key : ∀ (q : Nat) (fl' : Bool) (l' : List Nd) (x : Nd), l'.length ≤ 1048576 → r = .agg 6 (nO (.own 1000002 0 1 x.kids.length) x) → H' = R2 names s q fl' l' x.kids → K (.agg 6 (nO (.own 1000002 0 1 x.kids.length) x)) (A.scrub pR) ((R2 names s q fl' l' x.kids).add (H.scrub pR).lo) → (∀ h, H' h ≠ none → h = 1000001 ∨ pR h = true) ∧ r.scrub (fun h => !liveB H' h) = r ∧ H'.scrub (fun h => !liveB H' h) = H' ∧ K r (A.scrub pR) (H'.add (H.scrub pR).lo) := by
    intro q fl' l' x hl e1 e2 hk
    subst e1 e2
    refine ⟨fun h hn => R2_names hn, ?_, R2_live hl, hk⟩
    unfold nO
    rw [scrub_agg, scF_vecF]
    simp only [List.map_cons, List.map_nil, scrub_v, scrub_own]
    rfl
  unfold postUm at hp
  cases R with
  | out => exact hp.elim
  | bad w =>
    obtain ⟨fl', l', x, hj, h3, h4, h5, e1, e2⟩ := hp
    exact key w fl' l' x (by omega) e1 e2 (h1 w fl' l' x rfl hj h3 h4 h5)
  | ok q l' x => exact key q false l' x (hR q l' x rfl) hp.2.1 hp.2.2 (h2 q l' x rfl hp.1)
end
end Go.Proofs.YticbabpajligbaaDoor
end
/- The program's reader of notations: items. -/
section
namespace Go.Proofs.YticbabpajligbaaDoor
open Go.Av
set_option linter.unusedSimpArgs false
set_option linter.unusedVariables false
attribute [local irreducible] AWP CallG Ob Br BrP Go.Av.Sub endQ AOps OpV AC thenA blkA opsVC opVC withA withArgs opsQ opQ CallQ withA2 withArgs2
open Go.Nt (Nd nd0 kd li liF dig pInv pSuf pItem pSeq Pr Goes nmOk pItem_goes pSeq_goes)
theorem upd_sub {H : Hp} {e i : Nat} {B : Blk} (he : e < 2097152) : (H.upd e B) (sub 1000000 i) = H (sub 1000000 i) := by
  have := sub_ge 1000000 i; rw [FB_eq] at this
  unfold Hp.upd; rw [if_neg (by omega)]
theorem sq_g {names s : ByteArray} (hn : nmOk names) {f p q : Nat} {l l' : List Nd} {ks : List Int} (hp : p ≤ s.size) (hf : 2 * (s.size - p) + 2 ≤ f) (e : pSeq names s f p l [] = .ok q l' ks) : p < q ∧ q ≤ s.size ∧ l.length < l'.length ∧ l'.length + p ≤ l.length + q := by
  rcases pSeq_goes names s hn f p l [] hp hf with ⟨w, a, _⟩ | ⟨q2, l2, k2, a, hg⟩
  · rw [a] at e; cases e
  · rw [a] at e; cases e
    have := hg.len
    have := hg.lt
    have := hg.le
    omega
theorem it_g {names s : ByteArray} (hn : nmOk names) {f p q : Nat} {l l' : List Nd} {u : Unit} (hp : p ≤ s.size) (hf : 2 * (s.size - p) + 1 ≤ f) (e : pItem names s f p l = .ok q l' u) : p < q ∧ q ≤ s.size ∧ l.length < l'.length ∧ l'.length + p ≤ l.length + q := by
  rcases pItem_goes names s hn f p l hp hf with ⟨w, a, _⟩ | ⟨q2, l2, a, hg⟩
  · rw [a] at e; cases e
  · rw [a] at e; cases e
    have := hg.len
    have := hg.lt
    have := hg.le
    omega
theorem bu_g {names s : ByteArray} (hn : nmOk names) {f p q : Nat} {l l' : List Nd} {x : Nd} (hp : p ≤ s.size) (hf : 2 * (s.size - p) + 2 ≤ f) (e : pBu names s f p l = .ok q l' x) : p < q ∧ q ≤ s.size ∧ l'.length + p ≤ l.length + q := by
  unfold pBu at e
  cases e1 : pSeq names s f p l [] with
  | out => rw [e1] at e; cases e
  | bad w => rw [e1] at e; cases e
  | ok q1 l1 a =>
    rw [e1] at e
    dsimp only at e
    have h1 := sq_g hn hp hf e1
    have hb := (bt_in s q1).1
    split at e
    · rename_i h58
      cases e2 : pSeq names s f (q1 + 1) l1 [] with
      | out => rw [e2] at e; cases e
      | bad w => rw [e2] at e; cases e
      | ok q2 l2 b =>
        rw [e2] at e
        dsimp only at e
        have h2 := sq_g hn (by omega) (by omega) e2
        have hb2 := (bt_in s q2).1
        split at e
        · rename_i h93
          cases e
          omega
        · cases e
    · cases e
theorem un_g {names s : ByteArray} (hn : nmOk names) {f p q : Nat} {l l' : List Nd} {x : Nd} (hp : p ≤ s.size) (hf : 2 * (s.size - p) ≤ f) (e : pUn names s f p l = .ok q l' x) : p < q ∧ q ≤ s.size ∧ l'.length + p ≤ l.length + q := by
  have hb := (bt_in s p).1
  unfold pUn at e
  split at e
  · rename_i h
    obtain ⟨m, e1, _⟩ := liI_some h
    have := (Go.Nt.li_byte hn e1).2
    cases e
    omega
  · split at e
    · rename_i h40
      cases e1 : pSeq names s f (p + 1) l [] with
      | out => rw [e1] at e; cases e
      | bad w => rw [e1] at e; cases e
      | ok q1 l1 a =>
        rw [e1] at e
        dsimp only at e
        have h1 := sq_g hn (by omega) (by omega) e1
        have hb := (bt_in s q1).1
        split at e
        · cases e; omega
        · cases e
    · split at e
      · have := bu_g hn (by omega) (by omega) e
        omega
      · cases e
/-- What a count means for the suffix. -/
theorem cnt_suf (s : ByteArray) (q : Nat) (hq : q ≤ s.size) : (∃ v q' fl, cntR s q false = (v, q', fl) ∧ (q ≤ q' ∧ q' ≤ s.size ∧ q' ≤ q + 1) ∧ (fl = true ∨ Go.Nt.bt s q' = 48) ∧ ∀ l x, pSuf s q l x = .bad q') ∨
    ∃ v q', cntR s q false = (v, q', false) ∧ q ≤ q' ∧ q' ≤ s.size ∧ ∀ l x, pSuf s q l x = pInv s q' l x v := by
  have b0 := bt_in s q
  have b1 := bt_in s (q + 1)
  have e0 : nxB s q false = Go.Nt.bt s q := rfl
  have e1 : nxB s (q + 1) false = Go.Nt.bt s (q + 1) := rfl
  unfold cntR
  rw [e0, e1]
  by_cases h1 : 49 ≤ Go.Nt.bt s q ∧ Go.Nt.bt s q ≤ 57
  · rw [if_neg (by omega)]
    by_cases h2 : 48 ≤ Go.Nt.bt s (q + 1) ∧ Go.Nt.bt s (q + 1) ≤ 57
    · rw [if_pos h2]
      refine .inr ⟨_, _, rfl, by omega, by omega, fun l x => ?_⟩
      unfold pSuf; rw [if_neg (by unfold dig; omega), if_neg (by omega), if_pos (by unfold dig; omega)]
    · rw [if_neg h2]
      by_cases h3 : Go.Nt.bt s q = 49
      · rw [if_pos h3]
        refine .inl ⟨_, _, _, rfl, by omega, .inl rfl, fun l x => ?_⟩
        unfold pSuf; rw [if_neg (by unfold dig; omega), if_neg (by omega), if_neg (by unfold dig; omega), if_pos h3]
      · rw [if_neg h3]
        refine .inr ⟨_, _, rfl, by omega, by omega, fun l x => ?_⟩
        unfold pSuf; rw [if_neg (by unfold dig; omega), if_neg (by omega), if_neg (by unfold dig; omega), if_neg h3]
  · rw [if_pos h1]
    by_cases h2 : Go.Nt.bt s q = 48
    · refine .inl ⟨_, _, _, rfl, by omega, .inr h2, fun l x => ?_⟩
      unfold pSuf; rw [if_neg (by unfold dig; omega), if_pos h2]
    · refine .inr ⟨_, _, rfl, Nat.le_refl _, hq, fun l x => ?_⟩
      unfold pSuf; rw [if_pos (by unfold dig; omega)]
section
variable {P : Program} {N : Cx} {A A' : Fr} {H H' : Hp} {names s : ByteArray} {p : Nat} {fl : Bool} {l : List Nd}
theorem callCt {f : FuncId} {args : List AV} {K : AV → Fr → Hp → Prop} (hp : p ≤ s.size) (hl : l.length ≤ 1048576) (hH : Hp.le (RD names s p false l) H) (hac : AC P f args (RD names s p false l) pM (fun r H => r = .v (.int .i64 ((cntR s p false).1)) ∧ H = RD names s (cntR s p false).2.1 (cntR s p false).2.2 l))
    (h1 : ∀ v q' fl', (p ≤ q' ∧ q' ≤ s.size ∧ q' ≤ p + 1) → (fl' = true ∨ Go.Nt.bt s q' = 48) → (∀ l x, pSuf s p l x = .bad q') → K (.v (.int .i64 (v))) A (H.upd 1000001 (.cells 5 (vecF (rdL names s q' fl' l.length)))))
    (h2 : ∀ v q', p ≤ q' → q' ≤ s.size → (∀ l x, pSuf s p l x = pInv s q' l x v) → K (.v (.int .i64 (v))) A (H.upd 1000001 (.cells 5 (vecF (rdL names s q' false l.length))))) : CallG P N f args A H K := by
  refine callRw hl hH hac (fun q => rfl) ?_
  rcases cnt_suf s p hp with ⟨v, q', fl', e, a, b, c⟩ | ⟨v, q', e, a, b, c⟩
  · rw [e]; exact h1 v q' fl' a b c
  · rw [e]; exact h2 v q' a b c
theorem callCb {f : FuncId} {args : List AV} {K : AV → Fr → Hp → Prop} (hb : fl = true ∨ Go.Nt.bt s p = 48) (hl : l.length ≤ 1048576) (hH : Hp.le (RD names s p fl l) H) (hac : AC P f args (RD names s p fl l) pM (fun r H => r = .v (.int .i64 ((cntR s p fl).1)) ∧ H = RD names s (cntR s p fl).2.1 (cntR s p fl).2.2 l))
    (h1 : K (.v (.int .i64 (1))) A (H.upd 1000001 (.cells 5 (vecF (rdL names s p fl l.length))))) : CallG P N f args A H K := by
  refine callRw hl hH hac (fun q => rfl) ?_
  rw [cnt_bad hb]; exact h1
def rhoG (n g : Nat) : Option Nat := if g = sub 1000000 n then some 1000002 else some g
theorem rhoG_lo {n g : Nat} (hg : g < 2097152) : rhoG n g = some g := by
  have := sub_ge 1000000 n; rw [FB_eq] at this
  unfold rhoG; rw [if_neg (by omega)]
theorem end_im {fn : Func} {t : Tmp} {v : Int} {M : Nat} {g : Nat → AV} {y : Nd} {post : AV → Hp → Prop} (hx : l.length ≤ 1000) (hpn : ∀ h, N.pn h = true → h = 1000001) (hr : fn.results.toList = [.tmp t]) (hA : A.get t = some (.v (.int .i64 (v)))) (h0 : H 1000000 = some (.cells M (apF (l.length * 6) (nmF l l.length) g))) (hM : M = (l.length + 1) * 6) (hg : ∀ i, i < 6 → g i = nO (.own 1000002 0 1 y.kids.length) y i)
    (h1 : H 1000001 = some (.cells 5 (vecF (rdL names s p fl (l.length + 1))))) (h2 : H 1000002 = some (.cells y.kids.length (cM iv 0 y.kids))) (h3 : ∀ i, i < l.length → H (sub 1000000 i) = some (.cells (kd l i).length (cM iv 0 (kd l i)))) (hp : post (.v (.int .i64 (v))) (RD names s p fl (l ++ [y]))) : endQ P N fn post .ret A H := by
  subst hM
  have el : (l ++ [y]).length = l.length + 1 := by rw [List.length_append, List.length_singleton]
  have gk : ∀ i, i < l.length → kd (l ++ [y]) i = kd l i := fun i hi => by simp [kd, List.getD_eq_getElem?_getD, List.getElem?_append, hi]
  have gl : kd (l ++ [y]) l.length = y.kids := by simp [kd, List.getD_eq_getElem?_getD]
  have gd : ∀ i, i < l.length → (l ++ [y]).getD i nd0 = l.getD i nd0 := fun i hi => by simp [List.getD_eq_getElem?_getD, List.getElem?_append, hi]
  have gy : (l ++ [y]).getD l.length nd0 = y := by simp [List.getD_eq_getElem?_getD]
  have hi : ∀ i, i < l.length + 1 → i < FB := fun i hi => by rw [FB_eq]; omega
  have hρs : ∀ i, i < l.length → rhoG l.length (sub 1000000 i) = some (sub 1000000 i) := fun i hlt => by
    unfold rhoG; rw [if_neg (fun e => by have := (sub_inj (hi i (by omega)) (hi _ (by omega)) e).2; omega)]
  have hρk : rhoG l.length (sub 1000000 l.length) = some 1000002 := if_pos rfl
  unfold endQ
  refine ⟨[(t, .v (.int .i64 (v)))], RD names s p fl (l ++ [y]), Sub.layP (rhoG l.length) (fun h hh => by rw [hpn h hh]; exact rhoG_lo (by omega)) (lay_cons ⟨_, hA, .plain trivial⟩ lay_nil) (fun h B' hB => .inl ?_) (fun a b k ha hb e1 e2 => ?_), by rw [hr]; simp only [resVC, Fr.get, if_true, withA_some]; exact hp⟩
  · unfold RD Hp.upd at hB
    split at hB
    · rename_i e; subst e
      simp only [Option.some.injEq] at hB
      subst hB
      rw [el]
      refine ⟨1000001, 5, _, _, rhoG_lo (by omega), rfl, h1, fun i hi => ?_⟩
      match i, hi with
      | 0, _ => exact .plain trivial
      | 1, _ => exact .plain trivial
      | 2, _ => exact .plain trivial
      | 3, _ => exact .plain trivial
      | 4, _ => exact .own (rhoG_lo (by omega))
    · rcases NR_cases hB with ⟨rfl, rfl⟩ | ⟨i, hlt, rfl, rfl⟩
      · rw [el]
        refine ⟨1000000, (l.length + 1) * 6, _, _, rhoG_lo (by omega), rfl, h0, fun j hj => ?_⟩
        unfold apF nmF
        rw [if_pos hj]
        by_cases c1 : j < l.length * 6
        · rw [if_pos c1]
          simp only [c1, if_true]
          rw [gk _ (by omega)]
          by_cases c2 : j % 6 = 5
          · simp only [c2, if_true]; exact .own (hρs _ (by omega))
          · simp only [c2, if_false]
            have : ndF (l ++ [y]) j = ndF l j := by unfold ndF; rw [gd _ (by omega)]
            rw [this]; exact .plain (ndF_plain l j).1
        · rw [if_neg c1, hg _ (by omega)]
          have e6 : j / 6 = l.length := by omega
          rw [e6, gl]
          by_cases c2 : j % 6 = 5
          · rw [if_pos c2, show j - l.length * 6 = 5 by omega]; exact .own hρk
          · rw [if_neg c2]
            have e7 : nO (.own 1000002 0 1 y.kids.length) y (j - l.length * 6) = ndF (l ++ [y]) j := by
              unfold ndF
              rw [e6, gy, show j % 6 = j - l.length * 6 by omega]
              have hlt : j - l.length * 6 < 5 := by omega
              match j - l.length * 6, hlt with
              | 0, _ => rfl
              | 1, _ => rfl
              | 2, _ => rfl
              | 3, _ => rfl
              | 4, _ => rfl
            rw [e7]
            exact .plain (ndF_plain _ j).1
      · rw [el] at hlt
        by_cases e : i = l.length
        · subst e
          rw [gl]
          exact ⟨1000002, _, _, _, hρk, rfl, h2, fun j hj => .plain trivial⟩
        · rw [gk i (by omega)]
          exact ⟨sub 1000000 i, _, _, _, hρs i (by omega), rfl, h3 i (by omega), fun j hj => .plain trivial⟩
  · have key : ∀ a, RD names s p fl (l ++ [y]) a ≠ none → a ≠ 1000002 := fun a ha e => by
      subst e
      rcases RD_names ha with e | e | ⟨i, _, e⟩
      · omega
      · omega
      · have := sub_ge 1000000 i; rw [FB_eq] at this; omega
    have k1 := key a ha
    have k2 := key b hb
    unfold rhoG at e1 e2
    split at e1 <;> split at e2 <;> simp only [Option.some.injEq] at e1 e2 <;> first | (subst_vars; rfl) | omega
end
end Go.Proofs.YticbabpajligbaaDoor
end
/- The program's reader of notations: the walk of items. -/
section
namespace Go.Proofs.YticbabpajligbaaDoor
open Go.Av
set_option linter.unusedSimpArgs false
set_option linter.unusedVariables false
attribute [local irreducible] AWP CallG Ob Br BrP Go.Av.Sub endQ AOps OpV AC thenA blkA opsVC opVC withA withArgs opsQ opQ CallQ withA2 withArgs2
open Go.Nt (Nd nd0 kd li liF dig pInv pSuf pItem pSeq Pr Goes nmOk pItem_goes pSeq_goes)
def ImOk (names s : ByteArray) (f : Nat) : Prop := ∀ p l, p ≤ s.size → l.length ≤ p → 2 * (s.size - p) + 1 ≤ f → AC Tryd.prog 81 [.ref 1000001 0] (RD names s p false l) (· == 1000001) (postIm names s p l (pItem names s f p l))
def UmOk (names s : ByteArray) (f : Nat) : Prop := ∀ p l, p ≤ s.size → l.length ≤ p → 2 * (s.size - p) ≤ f → AC Tryd.prog 97 [.ref 1000001 0] (RD names s p false l) (· == 1000001) (postUm names s p l (pUn names s f p l))
def SmOk (names s : ByteArray) (f : Nat) : Prop := ∀ p l, p ≤ s.size → l.length ≤ p → 2 * (s.size - p) + 2 ≤ f → AC Tryd.prog 52 [.ref 1000001 0] (RD names s p false l) (· == 1000001) (postSm names s p l (pSeq names s f p l []))
theorem itemF_ok (names s : ByteArray) (p : Nat) (l : List Nd) : AC Tryd.prog 81 [.ref 1000001 0] (RD names s p true l) pM (fun r H => r = .v (.int .i64 (0)) ∧ H = RD names s p true l) := by
  refine ac_of_awp (N := ⟨_, pM, fun h hh => pM_low (Nat.lt_of_lt_of_le hh (by decide)), true⟩) Tryd.func81 rfl (by kernel_rfl) Tryd.ntmps81 (by simp) ?_
  simp only [argsFr, List.zipIdx_cons, List.zipIdx_nil, go_sem]
  repeat' (first | refine awp_seqK fun K hK => ?_ | (refine awp_regionK 16525 rfl ?_; simp only [List.map_cons, List.map_nil]; simp (maxSteps := 1000000) (dsimp := false) (implicitDefEqProofs := false) (disch := omega) only [wrap64, go_sem]) | (refine awp_regionQK 16525 (by kernel_rfl) (by kernel_rfl) (by kernel_rfl) ?_; simp only [List.map_cons, List.map_nil]; simp (maxSteps := 1000000) (dsimp := false) (implicitDefEqProofs := false) (disch := omega) only [wrap64, go_sem]) | refine awp_block ?_ | (refine awp_skip ?_; simp only [go_sem]) | (refine awp_exit ?_; simp only [go_sem]) | (refine awp_ret ?_; try simp only [go_sem]) | (refine awp_condP rfl ?_; try simp only [go_sem]) | (refine BrP.mk (fun h => ?_) (fun h => ?_) <;> try simp (dsimp := false) (disch := omega) only [wrap64]) | (refine Br.mk (fun h => ?_) (fun h => ?_) <;> try simp (dsimp := false) (disch := omega) only [wrap64]) | refine Ob.mk (by first | omega | (intro _ _; rfl) | trivial | (intros; trivial) | assumption | (intro i hi; have h0 : i = 0 := (by omega); subst h0; first | rfl | trivial) | (intro i hi; have h0 : i = 0 ∨ i = 1 := (by omega); rcases h0 with rfl | rfl <;> rfl) | (intro i hi; have h0 : i = 0 ∨ i = 1 ∨ i = 2 := (by omega); rcases h0 with rfl | rfl | rfl <;> rfl)) ?_ | apply_assumption -exfalso -symm)
  all_goals (first | (show endQ _ _ _ _ _ _ _; (repeat (rename (∀ (A : Fr) (H : Hp), AWP _ _ _ _ A H → _) => hK; clear hK)); (repeat (rename (Fr → Hp → Prop) => K; clear K))) | (show Exists _; (repeat (rename (∀ (A : Fr) (H : Hp), AWP _ _ _ _ A H → _) => hK; clear hK)); (repeat (rename (Fr → Hp → Prop) => K; clear K))) | skip)
  exact end_post rfl rfl (Hp.le_refl _) ⟨rfl, rfl⟩
theorem lenD_ok (n : Nat) : AC Tryd.prog 49 [.list false 6 n (fun _ => .dead)] Hp.emp (fun _ => false) (retV (.v (.int .i64 (n)))) := by
  refine ac_of_awp (N := ⟨_, fun _ => false, fun _ _ => rfl, true⟩) Tryd.func49 rfl (by kernel_rfl) Tryd.ntmps49 (by simp) ?_
  simp only [argsFr, List.zipIdx_cons, List.zipIdx_nil, go_sem]
  repeat' (first | refine awp_seqK fun K hK => ?_ | (refine awp_regionK 5 rfl ?_; simp only [List.map_cons, List.map_nil]; simp (maxSteps := 1000000) (dsimp := false) (implicitDefEqProofs := false) (disch := omega) only [wrap64, go_sem]) | (refine awp_regionQK 5 (by kernel_rfl) (by kernel_rfl) (by kernel_rfl) ?_; simp only [List.map_cons, List.map_nil]; simp (maxSteps := 1000000) (dsimp := false) (implicitDefEqProofs := false) (disch := omega) only [wrap64, go_sem]) | refine awp_block ?_ | (refine awp_skip ?_; simp only [go_sem]) | (refine awp_exit ?_; simp only [go_sem]) | (refine awp_ret ?_; try simp only [go_sem]) | (refine awp_condP rfl ?_; try simp only [go_sem]) | (refine BrP.mk (fun h => ?_) (fun h => ?_) <;> try simp (dsimp := false) (disch := omega) only [wrap64]) | (refine Br.mk (fun h => ?_) (fun h => ?_) <;> try simp (dsimp := false) (disch := omega) only [wrap64]) | refine Ob.mk (by first | omega | (intro _ _; rfl) | trivial | (intros; trivial) | assumption | (intro i hi; have h0 : i = 0 := (by omega); subst h0; first | rfl | trivial) | (intro i hi; have h0 : i = 0 ∨ i = 1 := (by omega); rcases h0 with rfl | rfl <;> rfl) | (intro i hi; have h0 : i = 0 ∨ i = 1 ∨ i = 2 := (by omega); rcases h0 with rfl | rfl | rfl <;> rfl)) ?_ | apply_assumption -exfalso -symm)
  all_goals (first | (show endQ _ _ _ _ _ _ _; (repeat (rename (∀ (A : Fr) (H : Hp), AWP _ _ _ _ A H → _) => hK; clear hK)); (repeat (rename (Fr → Hp → Prop) => K; clear K))) | (show Exists _; (repeat (rename (∀ (A : Fr) (H : Hp), AWP _ _ _ _ A H → _) => hK; clear hK)); (repeat (rename (Fr → Hp → Prop) => K; clear K))) | skip)
  exact end_retV rfl rfl
theorem fits_D {H : Hp} {D : Nat → Prop} {h n M : Nat} {g : Nat → AV} (hH : H h = some (.cells M g)) (hD : D h) (hM : n * 6 ≤ M) : Fits H D (.own h 0 6 n) (.list false 6 n (fun _ => .dead)) :=
  .own hH hD (by omega) (fun _ _ => trivial) (fun _ _ => .dead _)
set_option maxHeartbeats 4000000 in
theorem im_step {names s : ByteArray} (hn : nmOk names) (hs : s.size ≤ 400) {f : Nat} (hU : UmOk names s f) : ImOk names s (f + 1) := by
  intro p l hp hl hf
  refine ac_of_awp (N := ⟨_, (· == 1000001), fun h hh => beq_eq_false_iff_ne.2 (Nat.ne_of_lt (Nat.lt_of_lt_of_le hh (by decide))), true⟩) Tryd.func81 rfl (by kernel_rfl) Tryd.ntmps81 (by simp) ?_
  simp only [argsFr, List.zipIdx_cons, List.zipIdx_nil, go_sem]
  repeat' (first | (show False; omega) | (refine Ob.mk (all6 rfl rfl rfl rfl rfl rfl) ?_) | ((first | refine atF (f := 97) ?_ | refine atQ (f := 97) ?_); (refine callUm hs (by omega) (fun q l' u e => by have := un_g hn hp (by omega) e; omega) (Hp.le_refl _) (hU p l hp hl (by omega)) (fun h hh => beq_iff_eq.1 hh) (fun w fl l1 x e1 hj1 hj2 hj3 hk1 => ?_) (fun q l1 x e1 hk1 => have hb1 := un_g hn hp (by omega) e1; ?_)) <;> simp (maxSteps := 1000000) (dsimp := false) (implicitDefEqProofs := false) (disch := omega) only [wrap64, go_sem, pR_low, pR_1, pR_0, pR_2, NR_slo, lo_upd, lo_high, lo_emp, RD_add, R2_add, add_emp, NR_scr, NR_scr0, nO, set5_2, set5_3, set5_4, nmF_scF0, set6_2, set6_3]) | ((first | refine atF (f := 98) ?_ | refine atQ (f := 98) ?_); (first | refine callCb (fl := fl) hj2 (by omega) (le_rd rfl (by repeat' (first | exact HasNR.bare (by omega) | refine HasNR.updB (by decide) (by decide) ?_))) (count_ok names s w fl l1 (by omega) hs (by omega)) ?_ | refine callCt (by omega) (by omega) (le_rd rfl (by repeat' (first | exact HasNR.bare (by omega) | refine HasNR.updB (by decide) (by decide) ?_))) (count_ok names s q false l1 (by omega) hs (by omega)) (fun v q3 fl3 hc1 hc2 hc3 => ?_) (fun v q3 hc1 hc2 hc3 => ?_)) <;> simp (maxSteps := 1000000) (dsimp := false) (implicitDefEqProofs := false) (disch := omega) only [wrap64, go_sem, pR_low, pR_1, pR_0, pR_2, NR_slo, lo_upd, lo_high, lo_emp, RD_add, R2_add, add_emp, NR_scr, NR_scr0, nO, set5_2, set5_3, set5_4, nmF_scF0, set6_2, set6_3]) | ((first | refine atF (f := 82) ?_ | refine atQ (f := 82) ?_); (first | refine callTn 39 (nx_bad hj2 (by decide) (by decide)) (by omega) (le_rd rfl (by repeat' (first | exact HasNR.bare (by omega) | refine HasNR.updB (by decide) (by decide) ?_))) (take_ok names s w 39 fl l1 (by omega) hs (by omega) (by omega)) ?_ | refine callTn 39 (nx_bad hc2 (by decide) (by decide)) (by omega) (le_rd rfl (by repeat' (first | exact HasNR.bare (by omega) | refine HasNR.updB (by decide) (by decide) ?_))) (take_ok names s q3 39 fl3 l1 (by omega) hs (by omega) (by omega)) ?_ | refine callTk 39 (by omega) (le_rd rfl (by repeat' (first | exact HasNR.bare (by omega) | refine HasNR.updB (by decide) (by decide) ?_))) (take_ok names s q3 39 false l1 (by omega) hs (by omega) (by omega)) (fun hx39 => ?_) (fun hxn => ?_)) <;> simp (maxSteps := 1000000) (dsimp := false) (implicitDefEqProofs := false) (disch := omega) only [wrap64, go_sem, pR_low, pR_1, pR_0, pR_2, NR_slo, lo_upd, lo_high, lo_emp, RD_add, R2_add, add_emp, NR_scr, NR_scr0, nO, set5_2, set5_3, set5_4, nmF_scF0, set6_2, set6_3]) | (refine awp_regionSK (id := 7) 16525 [0,1,2,3,4,5] [6,7,8,9,10] [16,17,18,19,20,21,0,3] [0,1,2,3] [16,17,18,19,0] 1 (have _ := hxn; (Hp.emp.upd 1000001 (.cells 5 (vecF [.v (.string (names)), .v (.string (s)), .v (.int .i64 ((q3 : Nat))), .v (.bool (false)), .own 1000000 0 6 l1.length]))).upd 3 (.cells 6 (vecF [.v (.int .i64 (x.kind)), .v (.int .i64 (x.move)), .v (.int .i64 (v)), .v (.int .i64 (x.inv)), .v (.int .i64 (x.split)), .own 1000002 0 1 x.kids.length]))) (by kernel_rfl) (by kernel_rfl) (by kernel_rfl) ?_; simp only [List.map_cons, List.map_nil, List.take_succ_cons, List.take_zero, List.drop_succ_cons, List.drop_zero, List.cons_append, List.nil_append, opsS, pickL, linkS_nil, linkS_0, linkS_1, linkS_2, gx2VC, gxVC, upd_add, emp_add]; simp (maxSteps := 1000000) (dsimp := false) (implicitDefEqProofs := false) (disch := omega) only [upd_add, emp_add, wrap64, go_sem, pR_low, pR_1, pR_0, pR_2, NR_slo, lo_upd, lo_high, lo_emp, RD_add, R2_add, add_emp, NR_scr, NR_scr0, nO, set5_2, set5_3, set5_4, nmF_scF0, set6_2, set6_3]) | refine Ob.mk (AllH.mk fun _ => ?_) ?_ | exact True.intro | refine obLe ?_ ?_ | exact Hp.le_emp _ | refine Hp.le_upd rfl ?_ | (refine awp_regionSK (id := 7) 16525 [0,1,2,3,4,5] [6,7,8,9,10] [16,17,18,19,20,21,0,3] [0,1,2,3] [16,17,18,19,0] 1 (have _ := hx39; (Hp.emp.upd 1000001 (.cells 5 (vecF [.v (.string (names)), .v (.string (s)), .v (.int .i64 ((q3 + 1 : Nat))), .v (.bool (false)), .own 1000000 0 6 l1.length]))).upd 3 (.cells 6 (vecF [.v (.int .i64 (x.kind)), .v (.int .i64 (x.move)), .v (.int .i64 (v)), .v (.int .i64 (1)), .v (.int .i64 (x.split)), .own 1000002 0 1 x.kids.length]))) (by kernel_rfl) (by kernel_rfl) (by kernel_rfl) ?_; simp only [List.map_cons, List.map_nil, List.take_succ_cons, List.take_zero, List.drop_succ_cons, List.drop_zero, List.cons_append, List.nil_append, opsS, pickL, linkS_nil, linkS_0, linkS_1, linkS_2, gx2VC, gxVC, upd_add, emp_add]; simp (maxSteps := 1000000) (dsimp := false) (implicitDefEqProofs := false) (disch := omega) only [upd_add, emp_add, wrap64, go_sem, pR_low, pR_1, pR_0, pR_2, NR_slo, lo_upd, lo_high, lo_emp, RD_add, R2_add, add_emp, NR_scr, NR_scr0, nO, set5_2, set5_3, set5_4, nmF_scF0, set6_2, set6_3]) | refine Ob.mk (AllH.mk fun _ => ?_) ?_ | exact True.intro | refine obLe ?_ ?_ | exact Hp.le_emp _ | refine Hp.le_upd rfl ?_ | (refine awp_regionSK (id := 7) 16525 [0,1,2,3,4,5] [6,7,8,9,10] [16,17,18,19,20,21,0,3] [0,1,2,3] [16,17,18,19,0] 1 ((Hp.emp.upd 1000001 (.cells 5 (vecF [.v (.string (names)), .v (.string (s)), .v (.int .i64 ((q3 : Nat))), .v (.bool (fl3)), .own 1000000 0 6 l1.length]))).upd 3 (.cells 6 (vecF [.v (.int .i64 (x.kind)), .v (.int .i64 (x.move)), .v (.int .i64 (v)), .v (.int .i64 (x.inv)), .v (.int .i64 (x.split)), .own 1000002 0 1 x.kids.length]))) (by kernel_rfl) (by kernel_rfl) (by kernel_rfl) ?_; simp only [List.map_cons, List.map_nil, List.take_succ_cons, List.take_zero, List.drop_succ_cons, List.drop_zero, List.cons_append, List.nil_append, opsS, pickL, linkS_nil, linkS_0, linkS_1, linkS_2, gx2VC, gxVC, upd_add, emp_add]; simp (maxSteps := 1000000) (dsimp := false) (implicitDefEqProofs := false) (disch := omega) only [upd_add, emp_add, wrap64, go_sem, pR_low, pR_1, pR_0, pR_2, NR_slo, lo_upd, lo_high, lo_emp, RD_add, R2_add, add_emp, NR_scr, NR_scr0, nO, set5_2, set5_3, set5_4, nmF_scF0, set6_2, set6_3]) | refine Ob.mk (AllH.mk fun _ => ?_) ?_ | exact True.intro | refine obLe ?_ ?_ | exact Hp.le_emp _ | refine Hp.le_upd rfl ?_ | (refine awp_regionSK (id := 7) 16525 [0,1,2,3,4,5] [6,7,8,9,10] [16,17,18,19,20,21,0,3] [0,1,2,3] [16,17,18,19,0] 1 ((Hp.emp.upd 1000001 (.cells 5 (vecF [.v (.string (names)), .v (.string (s)), .v (.int .i64 ((w : Nat))), .v (.bool (fl)), .own 1000000 0 6 l1.length]))).upd 3 (.cells 6 (vecF [.v (.int .i64 (x.kind)), .v (.int .i64 (x.move)), .v (.int .i64 (1)), .v (.int .i64 (x.inv)), .v (.int .i64 (x.split)), .own 1000002 0 1 x.kids.length]))) (by kernel_rfl) (by kernel_rfl) (by kernel_rfl) ?_; simp only [List.map_cons, List.map_nil, List.take_succ_cons, List.take_zero, List.drop_succ_cons, List.drop_zero, List.cons_append, List.nil_append, opsS, pickL, linkS_nil, linkS_0, linkS_1, linkS_2, gx2VC, gxVC, upd_add, emp_add]; simp (maxSteps := 1000000) (dsimp := false) (implicitDefEqProofs := false) (disch := omega) only [upd_add, emp_add, wrap64, go_sem, pR_low, pR_1, pR_0, pR_2, NR_slo, lo_upd, lo_high, lo_emp, RD_add, R2_add, add_emp, NR_scr, NR_scr0, nO, set5_2, set5_3, set5_4, nmF_scF0, set6_2, set6_3]) | refine Ob.mk (AllH.mk fun _ => ?_) ?_ | exact True.intro | refine obLe ?_ ?_ | exact Hp.le_emp _ | refine Hp.le_upd rfl ?_ | refine awp_seqK fun K hK => ?_ | (refine awp_regionK 16525 rfl ?_; simp only [List.map_cons, List.map_nil]; simp (maxSteps := 1000000) (dsimp := false) (implicitDefEqProofs := false) (disch := omega) only [wrap64, go_sem, pR_low, pR_1, pR_0, pR_2, NR_slo, lo_upd, lo_high, lo_emp, RD_add, R2_add, add_emp, NR_scr, NR_scr0, nO, set5_2, set5_3, set5_4, nmF_scF0, set6_2, set6_3]) | (refine awp_regionQK 16525 (by kernel_rfl) (by kernel_rfl) (by kernel_rfl) ?_; simp only [List.map_cons, List.map_nil]; simp (maxSteps := 1000000) (dsimp := false) (implicitDefEqProofs := false) (disch := omega) only [wrap64, go_sem, pR_low, pR_1, pR_0, pR_2, NR_slo, lo_upd, lo_high, lo_emp, RD_add, R2_add, add_emp, NR_scr, NR_scr0, nO, set5_2, set5_3, set5_4, nmF_scF0, set6_2, set6_3]) | refine awp_block ?_ | (refine awp_skip ?_; simp only [go_sem, pR_low, pR_1, pR_0, pR_2, NR_slo, lo_upd, lo_high, lo_emp, RD_add, R2_add, add_emp, NR_scr, NR_scr0, nO, set5_2, set5_3, set5_4, nmF_scF0, set6_2, set6_3]) | (refine awp_exit ?_; simp only [go_sem, pR_low, pR_1, pR_0, pR_2, NR_slo, lo_upd, lo_high, lo_emp, RD_add, R2_add, add_emp, NR_scr, NR_scr0, nO, set5_2, set5_3, set5_4, nmF_scF0, set6_2, set6_3]) | (refine awp_ret ?_; try simp only [go_sem, pR_low, pR_1, pR_0, pR_2, NR_slo, lo_upd, lo_high, lo_emp, RD_add, R2_add, add_emp, NR_scr, NR_scr0, nO, set5_2, set5_3, set5_4, nmF_scF0, set6_2, set6_3]) | (refine awp_condP rfl ?_; try simp only [go_sem, pR_low, pR_1, pR_0, pR_2, NR_slo, lo_upd, lo_high, lo_emp, RD_add, R2_add, add_emp, NR_scr, NR_scr0, nO, set5_2, set5_3, set5_4, nmF_scF0, set6_2, set6_3]) | (refine BrP.mk (fun h => ?_) (fun h => ?_) <;> try simp (dsimp := false) (disch := omega) only [wrap64]) | (refine Br.mk (fun h => ?_) (fun h => ?_) <;> try simp (dsimp := false) (disch := omega) only [wrap64]) | refine Ob.mk (by first | omega | (intro _ _; rfl) | trivial | (intros; trivial) | assumption | (intro i hi; have h0 : i = 0 := (by omega); subst h0; first | rfl | trivial) | (intro i hi; have h0 : i = 0 ∨ i = 1 := (by omega); rcases h0 with rfl | rfl <;> rfl) | (intro i hi; have h0 : i = 0 ∨ i = 1 ∨ i = 2 := (by omega); rcases h0 with rfl | rfl | rfl <;> rfl)) ?_ | ((first | ((first | refine atF (f := 49) ?_ | refine atQ (f := 49) ?_); refine cV (hfit := .cons (fits_D rfl trivial (by omega)) .nil) (hac := lenD_ok (l1.length + 1)) (hK := ?_))); simp (maxSteps := 1000000) (dsimp := false) (implicitDefEqProofs := false) (disch := omega) only [wrap64, go_sem, pR_low, pR_1, pR_0, pR_2, NR_slo, lo_upd, lo_high, lo_emp, RD_add, R2_add, add_emp, NR_scr, NR_scr0, nO, set5_2, set5_3, set5_4, nmF_scF0, set6_2, set6_3]) | apply_assumption -exfalso -symm)
  all_goals (first | (show endQ _ _ _ _ _ _ _; (repeat (rename (∀ (A : Fr) (H : Hp), AWP _ _ _ _ A H → _) => hK; clear hK)); (repeat (rename (Fr → Hp → Prop) => K; clear K))) | (show Exists _; (repeat (rename (∀ (A : Fr) (H : Hp), AWP _ _ _ _ A H → _) => hK; clear hK)); (repeat (rename (Fr → Hp → Prop) => K; clear K))) | skip)
  all_goals have e0 := pIt_un names s f p l
  all_goals first
  | (rw [e0, e1]; exact end_im (l := l1) (p := w) (fl := fl) (y := { x with count := 1 }) (by omega) (fun h hh => beq_iff_eq.1 hh) rfl rfl rfl rfl (all6 rfl rfl rfl rfl rfl rfl) rfl rfl (fun i hi => by simp (disch := decide) only [upd_sub]; exact NR_sub hi (by omega)) ⟨fl, l1 ++ [{ x with count := 1 }], _, ⟨hj1, hj2, (by rw [List.length_append, List.length_singleton]; omega)⟩, rfl, rfl⟩)
  | (rw [e0, e1]; dsimp only; rw [hc3]; exact end_im (l := l1) (p := q3) (fl := fl3) (y := { x with count := v }) (by omega) (fun h hh => beq_iff_eq.1 hh) rfl rfl rfl rfl (all6 rfl rfl rfl rfl rfl rfl) rfl rfl (fun i hi => by simp (disch := decide) only [upd_sub]; exact NR_sub hi (by omega)) ⟨fl3, l1 ++ [{ x with count := v }], _, ⟨by omega, hc2, (by rw [List.length_append, List.length_singleton]; omega)⟩, rfl, rfl⟩)
  | (rw [e0, e1]; dsimp only; rw [hc3, show pInv s q3 l1 x v = .ok (q3 + 1) (l1 ++ [{ x with count := v, inv := 1 }]) () from if_pos hx39]; exact end_im (l := l1) (p := q3 + 1) (fl := false) (y := { x with count := v, inv := 1 }) (by omega) (fun h hh => beq_iff_eq.1 hh) rfl rfl rfl rfl (all6 rfl rfl rfl rfl rfl rfl) rfl rfl (fun i hi => by simp (disch := decide) only [upd_sub]; exact NR_sub hi (by omega)) ⟨by rw [List.length_append, List.length_singleton], rfl⟩)
  | (rw [e0, e1]; dsimp only; rw [hc3, show pInv s q3 l1 x v = .ok q3 (l1 ++ [{ x with count := v }]) () from if_neg hxn]; exact end_im (l := l1) (p := q3) (fl := false) (y := { x with count := v }) (by omega) (fun h hh => beq_iff_eq.1 hh) rfl rfl rfl rfl (all6 rfl rfl rfl rfl rfl rfl) rfl rfl (fun i hi => by simp (disch := decide) only [upd_sub]; exact NR_sub hi (by omega)) ⟨by rw [List.length_append, List.length_singleton], rfl⟩)
end Go.Proofs.YticbabpajligbaaDoor
end
/- The program's reader of notations: the walk of sequences. -/
section
namespace Go.Proofs.YticbabpajligbaaDoor
open Go.Av
set_option linter.unusedSimpArgs false
set_option linter.unusedVariables false
attribute [local irreducible] AWP CallG Ob Br BrP Go.Av.Sub endQ AOps OpV AC thenA blkA opsVC opVC withA withArgs opsQ opQ CallQ withA2 withArgs2
open Go.Nt (Nd nd0 kd li liF dig pInv pSuf pItem pSeq Pr Goes nmOk pItem_goes pSeq_goes)
def rho2 (e g : Nat) : Option Nat := if g = 1000002 then some e else some g
theorem rho2_ne {e g : Nat} (h : g ≠ 1000002) : rho2 e g = some g := if_neg h
section
variable {P : Program} {N : Cx} {A A' : Fr} {H H' : Hp} {names s : ByteArray} {p : Nat} {fl : Bool} {l : List Nd}
theorem rd_lay {ρ : Nat → Option Nat} (hρ : ∀ g, g ≠ 1000002 → ρ g = some g) (hle : Hp.le (RD names s p fl l) H) : LayF ρ (RD names s p fl l) H := fun h B hB => .inl (by
  have hH := hle h B hB
  have hs : ∀ i, ρ (sub 1000000 i) = some (sub 1000000 i) := fun i => hρ _ (by have := sub_ge 1000000 i; rw [FB_eq] at this; omega)
  unfold RD Hp.upd at hB
  split at hB
  · rename_i e; subst e
    simp only [Option.some.injEq] at hB
    subst hB
    refine ⟨1000001, 5, _, _, hρ _ (by omega), rfl, hH, all5 (.plain trivial) (.plain trivial) (.plain trivial) (.plain trivial) (.own (hρ _ (by omega)))⟩
  · rcases NR_cases hB with ⟨rfl, rfl⟩ | ⟨i, hi, rfl, rfl⟩
    · refine ⟨1000000, _, _, _, hρ _ (by omega), rfl, hH, fun j hj => ?_⟩
      unfold nmF
      simp only [hj, if_true]
      by_cases c2 : j % 6 = 5
      · simp only [c2, if_true]; exact .own (hs _)
      · simp only [c2, if_false]; exact .plain (ndF_plain l j).1
    · exact ⟨_, _, _, _, hs i, rfl, hH, fun j hj => .plain trivial⟩)
theorem rd_ne2 {h : Nat} (hn : RD names s p fl l h ≠ none) : h ≠ 1000002 := fun e => by
  subst e
  rcases RD_names hn with e | e | ⟨i, _, e⟩
  · omega
  · omega
  · have := sub_ge 1000000 i; rw [FB_eq] at this; omega
theorem rd_low' {h : Nat} (hn : RD names s p fl l h ≠ none) : 1000000 ≤ h := by
  rcases RD_names hn with e | e | ⟨i, _, e⟩
  · omega
  · omega
  · have := sub_ge 1000000 i; rw [FB_eq] at this; omega
/-- The end of a function that hands back a row beside the reader. -/
theorem end_sm {fn : Func} {t : Tmp} {e m : Nat} {ks : List Int} {post : AV → Hp → Prop} (hpn : ∀ h, N.pn h = true → h = 1000001) (hr : fn.results.toList = [.tmp t]) (hA : A.get t = some (.own e 0 1 m)) (he : H e = some (.cells m (cM iv 0 ks))) (hm : m = ks.length) (he1 : e < 1000000)
    (hle : Hp.le (RD names s p fl l) H) (hp : post (.own 1000002 0 1 ks.length) (R2 names s p fl l ks)) : endQ P N fn post .ret A H := by
  subst hm
  unfold endQ
  refine ⟨[(t, .own 1000002 0 1 ks.length)], R2 names s p fl l ks, Sub.layP (rho2 e) (fun h hh => by rw [hpn h hh]; exact rho2_ne (by omega)) (lay_cons ⟨_, hA, .own rfl⟩ lay_nil) (layF_upd (g := e) rfl he (fun i hi => .plain trivial) (rd_lay (fun g hg => rho2_ne hg) hle)) (fun x y k hx hy e1 e2 => ?_), by rw [hr]; simp only [resVC, Fr.get, if_true, withA_some]; exact hp⟩
  have key : ∀ x, R2 names s p fl l ks x ≠ none → x = 1000002 ∨ (x ≠ 1000002 ∧ 1000000 ≤ x) := fun x hx => by
    by_cases h : x = 1000002
    · exact .inl h
    · right
      unfold R2 Hp.upd at hx
      rw [if_neg h] at hx
      exact ⟨h, rd_low' hx⟩
  unfold rho2 at e1 e2
  rcases key x hx with rfl | ⟨h1, h2⟩ <;> rcases key y hy with rfl | ⟨h3, h4⟩
  · rfl
  · rw [if_pos rfl] at e1; rw [if_neg h3] at e2; simp only [Option.some.injEq] at e1 e2; omega
  · rw [if_neg h1] at e1; rw [if_pos rfl] at e2; simp only [Option.some.injEq] at e1 e2; omega
  · rw [if_neg h1] at e1; rw [if_neg h3] at e2; simp only [Option.some.injEq] at e1 e2; omega
end
theorem seqF_ok (names s : ByteArray) (p : Nat) (l : List Nd) (hp : p ≤ s.size) (hs : s.size ≤ 400) (hl : l.length ≤ 1000) : AC Tryd.prog 52 [.ref 1000001 0] (RD names s p true l) (· == 1000001) (fun r H => r = .own 1000002 0 1 ([0] : List Int).length ∧ H = R2 names s p true l [0]) := by
  refine ac_of_awp (N := ⟨_, (· == 1000001), fun h hh => beq_eq_false_iff_ne.2 (Nat.ne_of_lt (Nat.lt_of_lt_of_le hh (by decide))), true⟩) Tryd.func52 rfl (by kernel_rfl) Tryd.ntmps52 (by simp) ?_
  simp only [argsFr, List.zipIdx_cons, List.zipIdx_nil, go_sem]
  repeat' (first | (show False; omega) | refine awp_seqK fun K hK => ?_ | (refine awp_regionK 269 rfl ?_; simp only [List.map_cons, List.map_nil]; simp (maxSteps := 1000000) (dsimp := false) (implicitDefEqProofs := false) (disch := omega) only [wrap64, go_sem, NR_scr]) | (refine awp_regionQK 269 (by kernel_rfl) (by kernel_rfl) (by kernel_rfl) ?_; simp only [List.map_cons, List.map_nil]; simp (maxSteps := 1000000) (dsimp := false) (implicitDefEqProofs := false) (disch := omega) only [wrap64, go_sem, NR_scr]) | refine awp_block ?_ | (refine awp_skip ?_; simp only [go_sem, NR_scr]) | (refine awp_exit ?_; simp only [go_sem, NR_scr]) | (refine awp_ret ?_; try simp only [go_sem, NR_scr]) | (refine awp_condP rfl ?_; try simp only [go_sem, NR_scr]) | (refine BrP.mk (fun h => ?_) (fun h => ?_) <;> try simp (dsimp := false) (disch := omega) only [wrap64]) | (refine Br.mk (fun h => ?_) (fun h => ?_) <;> try simp (dsimp := false) (disch := omega) only [wrap64]) | refine Ob.mk (by first | omega | (intro _ _; rfl) | trivial | (intros; trivial) | assumption | (intro i hi; have h0 : i = 0 := (by omega); subst h0; first | rfl | trivial) | (intro i hi; have h0 : i = 0 ∨ i = 1 := (by omega); rcases h0 with rfl | rfl <;> rfl) | (intro i hi; have h0 : i = 0 ∨ i = 1 ∨ i = 2 := (by omega); rcases h0 with rfl | rfl | rfl <;> rfl)) ?_ | ((first | ((first | refine atF (f := 81) ?_ | refine atQ (f := 81) ?_); refine callRv (by omega) (Hp.le_refl _) (itemF_ok names s p l) ?_)); simp (maxSteps := 1000000) (dsimp := false) (implicitDefEqProofs := false) (disch := omega) only [wrap64, go_sem, NR_scr]) | apply_assumption -exfalso -symm)
  all_goals (first | (show endQ _ _ _ _ _ _ _; (repeat (rename (∀ (A : Fr) (H : Hp), AWP _ _ _ _ A H → _) => hK; clear hK)); (repeat (rename (Fr → Hp → Prop) => K; clear K))) | (show Exists _; (repeat (rename (∀ (A : Fr) (H : Hp), AWP _ _ _ _ A H → _) => hK; clear hK)); (repeat (rename (Fr → Hp → Prop) => K; clear K))) | skip)
  refine awp_loop (ι := Unit) (fun _ => [(3, .own 6 0 1 ([0] : List Int).length), (0, .ref 1000001 0)]) (fun _ => (RD names s p true l).upd 6 (.cells ([0] : List Int).length (cM iv 0 [0]))) (fun _ => True) (fun _ => 0) () trivial (Sub.toL (by simp only [go_sem] <;> first | trivial | (simp only [Option.some.injEq, AV.v.injEq, AV.own.injEq, AV.list.injEq, Value.int.injEq, Value.bool.injEq, true_and, and_true]; first | omega | (simp; done)) | (simp; done) | (simp; omega)) (Hp.le_refl _)) ?_
  intro _ _
  repeat' (first | (show False; omega) | ((first | refine atF (f := 82) ?_ | refine atQ (f := 82) ?_); refine callTn 32 (nx_bad (.inl rfl) (by decide) (by decide)) (by omega) (le_rd rfl (by repeat' (first | exact HasNR.bare (by omega) | refine HasNR.updB (by decide) (by decide) ?_))) (take_ok names s p 32 true l hp hs (by omega) (by omega)) ?_ <;> simp (maxSteps := 1000000) (dsimp := false) (implicitDefEqProofs := false) (disch := omega) only [wrap64, go_sem, NR_scr, set5_2]) | refine awp_seqK fun K hK => ?_ | (refine awp_regionK 269 rfl ?_; simp only [List.map_cons, List.map_nil]; simp (maxSteps := 1000000) (dsimp := false) (implicitDefEqProofs := false) (disch := omega) only [wrap64, go_sem, NR_scr, set5_2]) | (refine awp_regionQK 269 (by kernel_rfl) (by kernel_rfl) (by kernel_rfl) ?_; simp only [List.map_cons, List.map_nil]; simp (maxSteps := 1000000) (dsimp := false) (implicitDefEqProofs := false) (disch := omega) only [wrap64, go_sem, NR_scr, set5_2]) | refine awp_block ?_ | (refine awp_skip ?_; simp only [go_sem, NR_scr, set5_2]) | (refine awp_exit ?_; simp only [go_sem, NR_scr, set5_2]) | (refine awp_ret ?_; try simp only [go_sem, NR_scr, set5_2]) | (refine awp_condP rfl ?_; try simp only [go_sem, NR_scr, set5_2]) | (refine BrP.mk (fun h => ?_) (fun h => ?_) <;> try simp (dsimp := false) (disch := omega) only [wrap64]) | (refine Br.mk (fun h => ?_) (fun h => ?_) <;> try simp (dsimp := false) (disch := omega) only [wrap64]) | refine Ob.mk (by first | omega | (intro _ _; rfl) | trivial | (intros; trivial) | assumption | (intro i hi; have h0 : i = 0 := (by omega); subst h0; first | rfl | trivial) | (intro i hi; have h0 : i = 0 ∨ i = 1 := (by omega); rcases h0 with rfl | rfl <;> rfl) | (intro i hi; have h0 : i = 0 ∨ i = 1 ∨ i = 2 := (by omega); rcases h0 with rfl | rfl | rfl <;> rfl)) ?_ | apply_assumption -exfalso -symm)
  all_goals (first | (show endQ _ _ _ _ _ _ _; (repeat (rename (∀ (A : Fr) (H : Hp), AWP _ _ _ _ A H → _) => hK; clear hK)); (repeat (rename (Fr → Hp → Prop) => K; clear K))) | (show Exists _; (repeat (rename (∀ (A : Fr) (H : Hp), AWP _ _ _ _ A H → _) => hK; clear hK)); (repeat (rename (Fr → Hp → Prop) => K; clear K))) | skip)
  exact end_sm (fun h hh => beq_iff_eq.1 hh) rfl rfl rfl rfl (by decide) (le_rd rfl (by repeat' (first | exact HasNR.bare (by omega) | refine HasNR.updB (by decide) (by decide) ?_))) ⟨rfl, rfl⟩
/-- What holds at the head of the loop over items. -/
def SV (names s : ByteArray) (f p : Nat) (l : List Nd) (z : Nat × Nat × Bool × List Nd × List Int) : Prop :=
  (z.2.2.1 = false ∧ z.1 < f ∧ pSeq names s f p l [] = (if Go.Nt.bt s z.2.1 = 32 then pSeq names s z.1 (z.2.1 + 1) z.2.2.2.1 z.2.2.2.2 else .ok z.2.1 z.2.2.2.1 z.2.2.2.2) ∧ (p < z.2.1 ∧ z.2.1 ≤ s.size) ∧ z.2.2.2.1.length + p ≤ l.length + z.2.1 ∧ z.2.2.2.2.length + p ≤ z.2.1 ∧ 2 * (s.size - z.2.1) ≤ z.1)
  ∨ (pSeq names s f p l [] = .bad z.2.1 ∧ Junk s p z.2.1 z.2.2.1 l.length z.2.2.2.1.length ∧ z.2.2.2.2.length ≤ z.2.1 - p + 1)
theorem sm_step {names s : ByteArray} (hn : nmOk names) (hs : s.size ≤ 400) {f : Nat} (hI : ∀ g, g < f → ImOk names s g) : SmOk names s f := by
  intro p l hp hl hf
  obtain ⟨f, rfl⟩ : ∃ g, f = g + 1 := ⟨f - 1, by omega⟩
  refine ac_of_awp (N := ⟨_, (· == 1000001), fun h hh => beq_eq_false_iff_ne.2 (Nat.ne_of_lt (Nat.lt_of_lt_of_le hh (by decide))), true⟩) Tryd.func52 rfl (by kernel_rfl) Tryd.ntmps52 (by simp) ?_
  simp only [argsFr, List.zipIdx_cons, List.zipIdx_nil, go_sem]
  repeat' (first | (show False; omega) | ((first | refine atF (f := 81) ?_ | refine atQ (f := 81) ?_); (refine callIm hs (by omega) (fun q l' u e => by have := it_g hn hp (by omega) e; omega) (Hp.le_refl _) (hI f (by omega) p l hp hl (by omega)) (fun h hh => beq_iff_eq.1 hh) (fun w fl l1 v e1 hj => ?_) (fun q l1 u e1 => have hb1 := it_g hn hp (by omega) e1; ?_)) <;> simp (maxSteps := 1000000) (dsimp := false) (implicitDefEqProofs := false) (disch := omega) only [wrap64, go_sem, pR_low, pR_1, pR_0, pR_2, NR_slo, lo_upd, lo_high, lo_emp, RD_add, R2_add, add_emp, NR_scr, NR_scr0]) | refine awp_seqK fun K hK => ?_ | (refine awp_regionK 269 rfl ?_; simp only [List.map_cons, List.map_nil]; simp (maxSteps := 1000000) (dsimp := false) (implicitDefEqProofs := false) (disch := omega) only [wrap64, go_sem, pR_low, pR_1, pR_0, pR_2, NR_slo, lo_upd, lo_high, lo_emp, RD_add, R2_add, add_emp, NR_scr, NR_scr0]) | (refine awp_regionQK 269 (by kernel_rfl) (by kernel_rfl) (by kernel_rfl) ?_; simp only [List.map_cons, List.map_nil]; simp (maxSteps := 1000000) (dsimp := false) (implicitDefEqProofs := false) (disch := omega) only [wrap64, go_sem, pR_low, pR_1, pR_0, pR_2, NR_slo, lo_upd, lo_high, lo_emp, RD_add, R2_add, add_emp, NR_scr, NR_scr0]) | refine awp_block ?_ | (refine awp_skip ?_; simp only [go_sem, pR_low, pR_1, pR_0, pR_2, NR_slo, lo_upd, lo_high, lo_emp, RD_add, R2_add, add_emp, NR_scr, NR_scr0]) | (refine awp_exit ?_; simp only [go_sem, pR_low, pR_1, pR_0, pR_2, NR_slo, lo_upd, lo_high, lo_emp, RD_add, R2_add, add_emp, NR_scr, NR_scr0]) | (refine awp_ret ?_; try simp only [go_sem, pR_low, pR_1, pR_0, pR_2, NR_slo, lo_upd, lo_high, lo_emp, RD_add, R2_add, add_emp, NR_scr, NR_scr0]) | (refine awp_condP rfl ?_; try simp only [go_sem, pR_low, pR_1, pR_0, pR_2, NR_slo, lo_upd, lo_high, lo_emp, RD_add, R2_add, add_emp, NR_scr, NR_scr0]) | (refine BrP.mk (fun h => ?_) (fun h => ?_) <;> try simp (dsimp := false) (disch := omega) only [wrap64]) | (refine Br.mk (fun h => ?_) (fun h => ?_) <;> try simp (dsimp := false) (disch := omega) only [wrap64]) | refine Ob.mk (by first | omega | (intro _ _; rfl) | trivial | (intros; trivial) | assumption | (intro i hi; have h0 : i = 0 := (by omega); subst h0; first | rfl | trivial) | (intro i hi; have h0 : i = 0 ∨ i = 1 := (by omega); rcases h0 with rfl | rfl <;> rfl) | (intro i hi; have h0 : i = 0 ∨ i = 1 ∨ i = 2 := (by omega); rcases h0 with rfl | rfl | rfl <;> rfl)) ?_ | apply_assumption -exfalso -symm)
  all_goals (first | (show endQ _ _ _ _ _ _ _; (repeat (rename (∀ (A : Fr) (H : Hp), AWP _ _ _ _ A H → _) => hK; clear hK)); (repeat (rename (Fr → Hp → Prop) => K; clear K))) | (show Exists _; (repeat (rename (∀ (A : Fr) (H : Hp), AWP _ _ _ _ A H → _) => hK; clear hK)); (repeat (rename (Fr → Hp → Prop) => K; clear K))) | skip)
  all_goals first
  | refine awp_loop (ι := Nat × Nat × Bool × List Nd × List Int) (fun z => [(3, .own 6 0 1 z.2.2.2.2.length), (0, .ref 1000001 0)]) (fun z => (RD names s z.2.1 z.2.2.1 z.2.2.2.1).upd 6 (.cells z.2.2.2.2.length (cM iv 0 z.2.2.2.2))) (SV names s (f + 1) p l) (fun z => z.1) (0, w, fl, l1, [v]) (.inr ⟨by rw [pSeq_succ, e1], hj, by have := hj.le; show ([v] : List Int).length ≤ _; rw [List.length_singleton]; omega⟩) (Sub.toL (by simp only [go_sem] <;> first | trivial | (simp only [Option.some.injEq, AV.v.injEq, AV.own.injEq, AV.list.injEq, Value.int.injEq, Value.bool.injEq, true_and, and_true]; first | omega | (simp; done)) | (simp; done) | (simp; omega)) (Hp.le_refl _)) ?_
  | refine awp_loop (ι := Nat × Nat × Bool × List Nd × List Int) (fun z => [(3, .own 6 0 1 z.2.2.2.2.length), (0, .ref 1000001 0)]) (fun z => (RD names s z.2.1 z.2.2.1 z.2.2.2.1).upd 6 (.cells z.2.2.2.2.length (cM iv 0 z.2.2.2.2))) (SV names s (f + 1) p l) (fun z => z.1) (f, q, false, l1, [(l1.length : Int) - 1]) (.inl ⟨rfl, Nat.lt_succ_self _, by rw [pSeq_succ, e1]; rfl, by dsimp only; omega, by dsimp only; omega, by simp only [List.length_singleton]; omega, by dsimp only; omega⟩) (Sub.toL (by simp only [go_sem] <;> first | trivial | (simp only [Option.some.injEq, AV.v.injEq, AV.own.injEq, AV.list.injEq, Value.int.injEq, Value.bool.injEq, true_and, and_true]; first | omega | (simp; done)) | (simp; done) | (simp; omega)) (Hp.le_refl _)) ?_
  all_goals
    clear e1
    rintro ⟨g, q2, fl2, l2, ks⟩ hv
    rcases hv with ⟨h0, h6, h1, h2, h3, h4, h5⟩ | ⟨h1, h2, h3⟩
    · dsimp only at h0 h1 h2 h3 h4 h5 h6 ⊢
      subst h0
      have ht2 := bt_in s q2
      have h1 := Hold.mk h1
      have hx2 : nxB s q2 false = Go.Nt.bt s q2 := rfl
      repeat' (first | (show False; omega) | ((first | refine atF (f := 82) ?_ | refine atQ (f := 82) ?_); refine callTk 32 (by omega) (le_rd rfl (by repeat' (first | exact HasNR.bare (by omega) | refine HasNR.updB (by decide) (by decide) ?_))) (take_ok names s q2 32 false l2 (by omega) hs (by omega) (by omega)) (fun hx => ?_) (fun hx => ?_) <;> simp (maxSteps := 1000000) (dsimp := false) (implicitDefEqProofs := false) (disch := omega) only [wrap64, go_sem, pR_low, pR_1, pR_0, pR_2, NR_slo, NR_slo', lo_upd, lo_high, lo_emp, RD_add, R2_add, add_emp, NR_scr, NR_scr0, set5_2, Nat.le_refl]) | ((first | refine atF (f := 81) ?_ | refine atQ (f := 81) ?_); (refine callIm (l := l2) (p := q2 + 1) hs (by omega) (fun q l' u e => by have := it_g hn (by omega) (by omega) e; omega) (le_rd rfl (by repeat' (first | exact HasNR.bare (by omega) | refine HasNR.updB (by decide) (by decide) ?_))) (hI (g - 1) (by omega) (q2 + 1) l2 (by omega) (by omega) (by omega)) (fun h hh => beq_iff_eq.1 hh) (fun w3 fl3 l3 v3 e3 hj3 => ?_) (fun q3 l3 u3 e3 => have hb3 := it_g hn (by omega) (by omega) e3; ?_)) <;> simp (maxSteps := 1000000) (dsimp := false) (implicitDefEqProofs := false) (disch := omega) only [wrap64, go_sem, pR_low, pR_1, pR_0, pR_2, NR_slo, NR_slo', lo_upd, lo_high, lo_emp, RD_add, R2_add, add_emp, NR_scr, NR_scr0, set5_2, Nat.le_refl]) | refine awp_seqK fun K hK => ?_ | (refine awp_regionK 269 rfl ?_; simp only [List.map_cons, List.map_nil]; simp (maxSteps := 1000000) (dsimp := false) (implicitDefEqProofs := false) (disch := omega) only [wrap64, go_sem, pR_low, pR_1, pR_0, pR_2, NR_slo, NR_slo', lo_upd, lo_high, lo_emp, RD_add, R2_add, add_emp, NR_scr, NR_scr0, set5_2, Nat.le_refl]) | (refine awp_regionQK 269 (by kernel_rfl) (by kernel_rfl) (by kernel_rfl) ?_; simp only [List.map_cons, List.map_nil]; simp (maxSteps := 1000000) (dsimp := false) (implicitDefEqProofs := false) (disch := omega) only [wrap64, go_sem, pR_low, pR_1, pR_0, pR_2, NR_slo, NR_slo', lo_upd, lo_high, lo_emp, RD_add, R2_add, add_emp, NR_scr, NR_scr0, set5_2, Nat.le_refl]) | refine awp_block ?_ | (refine awp_skip ?_; simp only [go_sem, pR_low, pR_1, pR_0, pR_2, NR_slo, NR_slo', lo_upd, lo_high, lo_emp, RD_add, R2_add, add_emp, NR_scr, NR_scr0, set5_2, Nat.le_refl]) | (refine awp_exit ?_; simp only [go_sem, pR_low, pR_1, pR_0, pR_2, NR_slo, NR_slo', lo_upd, lo_high, lo_emp, RD_add, R2_add, add_emp, NR_scr, NR_scr0, set5_2, Nat.le_refl]) | (refine awp_ret ?_; try simp only [go_sem, pR_low, pR_1, pR_0, pR_2, NR_slo, NR_slo', lo_upd, lo_high, lo_emp, RD_add, R2_add, add_emp, NR_scr, NR_scr0, set5_2, Nat.le_refl]) | (refine awp_condP rfl ?_; try simp only [go_sem, pR_low, pR_1, pR_0, pR_2, NR_slo, NR_slo', lo_upd, lo_high, lo_emp, RD_add, R2_add, add_emp, NR_scr, NR_scr0, set5_2, Nat.le_refl]) | (refine BrP.mk (fun h => ?_) (fun h => ?_) <;> try simp (dsimp := false) (disch := omega) only [wrap64]) | (refine Br.mk (fun h => ?_) (fun h => ?_) <;> try simp (dsimp := false) (disch := omega) only [wrap64]) | refine Ob.mk (by first | omega | (intro _ _; rfl) | trivial | (intros; trivial) | assumption | (intro i hi; have h0 : i = 0 := (by omega); subst h0; first | rfl | trivial) | (intro i hi; have h0 : i = 0 ∨ i = 1 := (by omega); rcases h0 with rfl | rfl <;> rfl) | (intro i hi; have h0 : i = 0 ∨ i = 1 ∨ i = 2 := (by omega); rcases h0 with rfl | rfl | rfl <;> rfl)) ?_ | apply_assumption -exfalso -symm)
      all_goals (first | (show endQ _ _ _ _ _ _ _; (repeat (rename (∀ (A : Fr) (H : Hp), AWP _ _ _ _ A H → _) => hK; clear hK)); (repeat (rename (Fr → Hp → Prop) => K; clear K))) | (show Exists _; (repeat (rename (∀ (A : Fr) (H : Hp), AWP _ _ _ _ A H → _) => hK; clear hK)); (repeat (rename (Fr → Hp → Prop) => K; clear K))) | skip)
      all_goals first
      | (rw [h1.h, if_neg (by omega)]; exact end_sm (fun h hh => beq_iff_eq.1 hh) rfl rfl rfl rfl (by decide) (le_rd rfl (by repeat' (first | exact HasNR.bare (by omega) | refine HasNR.updB (by decide) (by decide) ?_))) ⟨rfl, rfl⟩)
      | (obtain ⟨g, rfl⟩ : ∃ g', g = g' + 1 := ⟨g - 1, by omega⟩
         rw [Nat.add_sub_cancel] at e3
         have h7 : pSeq names s (f + 1) p l [] = pSeq names s (g + 1) (q2 + 1) l2 ks := by rw [h1.h, if_pos (by omega)]
         rw [pSeq_succ names s g (q2 + 1) l2 ks, e3] at h7
         have h8 : ∀ v : Int, ks.length + 1 = (ks ++ [v]).length := fun v => by simp only [List.length_append, List.length_singleton]
         first
         | (refine ⟨(0, w3, fl3, l3, ks ++ [v3]), .inr ⟨h7, ⟨by have := hj3.le; dsimp only; omega, hj3.st, by have := hj3.len; have := hj3.le; dsimp only; omega⟩, by have := hj3.le; rw [← h8]; dsimp only; omega⟩, by dsimp only; omega, ?_⟩
            have hj4 := hj3.le; have hj5 := hj3.len; rw [h8 v3]; exact Sub.toL (by simp only [go_sem] <;> first | trivial | (simp only [Option.some.injEq, AV.v.injEq, AV.own.injEq, AV.list.injEq, Value.int.injEq, Value.bool.injEq, true_and, and_true]; first | omega | (simp; done)) | (simp; done) | (simp; omega)) (Hp.le_upd rfl (le_rd (l := l3) rfl (by repeat' (first | exact HasNR.bare (by omega) | refine HasNR.updB (by decide) (by decide) ?_)))))
         | (refine ⟨(g, q3, false, l3, ks ++ [(l3.length:Int)-1]), .inl ⟨rfl, by dsimp only; omega, h7, by dsimp only; omega, by dsimp only; omega, by rw [← h8]; dsimp only; omega, by dsimp only; omega⟩, by dsimp only; omega, ?_⟩
            rw [h8 ((l3.length:Int)-1)]; exact Sub.toL (by simp only [go_sem] <;> first | trivial | (simp only [Option.some.injEq, AV.v.injEq, AV.own.injEq, AV.list.injEq, Value.int.injEq, Value.bool.injEq, true_and, and_true]; first | omega | (simp; done)) | (simp; done) | (simp; omega)) (Hp.le_upd rfl (le_rd (l := l3) rfl (by repeat' (first | exact HasNR.bare (by omega) | refine HasNR.updB (by decide) (by decide) ?_))))))
    · dsimp only at h1 h2 h3 ⊢
      have hj1 := h2.le
      have hj2 := h2.len
      repeat' (first | (show False; omega) | ((first | refine atF (f := 82) ?_ | refine atQ (f := 82) ?_); refine callTn 32 (nx_bad h2.st (by decide) (by decide)) (by omega) (le_rd rfl (by repeat' (first | exact HasNR.bare (by omega) | refine HasNR.updB (by decide) (by decide) ?_))) (take_ok names s q2 32 fl2 l2 (by omega) hs (by omega) (by omega)) ?_ <;> simp (maxSteps := 1000000) (dsimp := false) (implicitDefEqProofs := false) (disch := omega) only [wrap64, go_sem, pR_low, pR_1, pR_0, pR_2, NR_slo, NR_slo', lo_upd, lo_high, lo_emp, RD_add, R2_add, add_emp, NR_scr, NR_scr0, set5_2, Nat.le_refl]) | refine awp_seqK fun K hK => ?_ | (refine awp_regionK 269 rfl ?_; simp only [List.map_cons, List.map_nil]; simp (maxSteps := 1000000) (dsimp := false) (implicitDefEqProofs := false) (disch := omega) only [wrap64, go_sem, pR_low, pR_1, pR_0, pR_2, NR_slo, NR_slo', lo_upd, lo_high, lo_emp, RD_add, R2_add, add_emp, NR_scr, NR_scr0, set5_2, Nat.le_refl]) | (refine awp_regionQK 269 (by kernel_rfl) (by kernel_rfl) (by kernel_rfl) ?_; simp only [List.map_cons, List.map_nil]; simp (maxSteps := 1000000) (dsimp := false) (implicitDefEqProofs := false) (disch := omega) only [wrap64, go_sem, pR_low, pR_1, pR_0, pR_2, NR_slo, NR_slo', lo_upd, lo_high, lo_emp, RD_add, R2_add, add_emp, NR_scr, NR_scr0, set5_2, Nat.le_refl]) | refine awp_block ?_ | (refine awp_skip ?_; simp only [go_sem, pR_low, pR_1, pR_0, pR_2, NR_slo, NR_slo', lo_upd, lo_high, lo_emp, RD_add, R2_add, add_emp, NR_scr, NR_scr0, set5_2, Nat.le_refl]) | (refine awp_exit ?_; simp only [go_sem, pR_low, pR_1, pR_0, pR_2, NR_slo, NR_slo', lo_upd, lo_high, lo_emp, RD_add, R2_add, add_emp, NR_scr, NR_scr0, set5_2, Nat.le_refl]) | (refine awp_ret ?_; try simp only [go_sem, pR_low, pR_1, pR_0, pR_2, NR_slo, NR_slo', lo_upd, lo_high, lo_emp, RD_add, R2_add, add_emp, NR_scr, NR_scr0, set5_2, Nat.le_refl]) | (refine awp_condP rfl ?_; try simp only [go_sem, pR_low, pR_1, pR_0, pR_2, NR_slo, NR_slo', lo_upd, lo_high, lo_emp, RD_add, R2_add, add_emp, NR_scr, NR_scr0, set5_2, Nat.le_refl]) | (refine BrP.mk (fun h => ?_) (fun h => ?_) <;> try simp (dsimp := false) (disch := omega) only [wrap64]) | (refine Br.mk (fun h => ?_) (fun h => ?_) <;> try simp (dsimp := false) (disch := omega) only [wrap64]) | refine Ob.mk (by first | omega | (intro _ _; rfl) | trivial | (intros; trivial) | assumption | (intro i hi; have h0 : i = 0 := (by omega); subst h0; first | rfl | trivial) | (intro i hi; have h0 : i = 0 ∨ i = 1 := (by omega); rcases h0 with rfl | rfl <;> rfl) | (intro i hi; have h0 : i = 0 ∨ i = 1 ∨ i = 2 := (by omega); rcases h0 with rfl | rfl | rfl <;> rfl)) ?_ | apply_assumption -exfalso -symm)
      all_goals (first | (show endQ _ _ _ _ _ _ _; (repeat (rename (∀ (A : Fr) (H : Hp), AWP _ _ _ _ A H → _) => hK; clear hK)); (repeat (rename (Fr → Hp → Prop) => K; clear K))) | (show Exists _; (repeat (rename (∀ (A : Fr) (H : Hp), AWP _ _ _ _ A H → _) => hK; clear hK)); (repeat (rename (Fr → Hp → Prop) => K; clear K))) | skip)
      rw [h1]
      exact end_sm (fun h hh => beq_iff_eq.1 hh) rfl rfl rfl rfl (by decide) (le_rd rfl (by repeat' (first | exact HasNR.bare (by omega) | refine HasNR.updB (by decide) (by decide) ?_))) ⟨fl2, l2, ks, h2, h3, rfl, rfl⟩
end Go.Proofs.YticbabpajligbaaDoor
end

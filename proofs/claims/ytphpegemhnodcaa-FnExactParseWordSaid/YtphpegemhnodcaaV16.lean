import Derived.Test.YtphpegemhnodcaaT117
import Derived.Test.YtphpegemhnodcaaV14
import Derived.Test.YtphpegemhnodcaaV4
import Derived.Test.YtphpegemhnodcaaT102
/- The program's reader of notations: all of it. -/
section
namespace Go.Proofs.Ytphpegemhnodcaa
open Go.Av
set_option linter.unusedSimpArgs false
set_option linter.unusedVariables false
attribute [local irreducible] AWP CallG Ob Br BrP Go.Av.Sub endQ AOps OpV AC thenA blkA opsVC opVC withA withArgs opsQ opQ CallQ withA2 withArgs2
open Go.Nt (Nd nd0 kd li liF dig pInv pSuf pItem pSeq Pr Goes nmOk pItem_goes pSeq_goes)
theorem imp_all {names s : ByteArray} (hn : nmOk names) (hs : s.size ≤ 400) : ∀ f, ImOk names s f ∧ UmOk names s f ∧ SmOk names s f := by
  intro f
  induction f using Nat.strongRecOn with
  | _ f ih =>
    have hI : ImOk names s f := by
      cases f with
      | zero => intro p l hp hl hf; omega
      | succ f => exact im_step hn hs (ih f (by omega)).2.1
    have hS : SmOk names s f := sm_step hn hs fun g hg => (ih g hg).1
    exact ⟨hI, um_step hn hs hS, hS⟩
/-- A row of nodes of our own beside a number. -/
def postP (xs : List Nd) (c : Int) : AV → Hp → Prop := fun r H => r = .tup 2 (vecF [.own 1000000 0 6 xs.length, .v (.int .i64 (c))]) ∧ H = NR xs xs.length xs.length
/-- What lies in memory when the program's reading begins. -/
def hW (names s : ByteArray) : Hp := (RD names s 0 false []).upd 7 (.cells 6 (vecF [.v (.int .i64 (2)), .v (.int .i64 (0)), .v (.int .i64 (1)), .v (.int .i64 (0)), .v (.int .i64 (0)), .v (.slice none 0 0)]))
def rhoW (g : Nat) : Option Nat := if g = 1000001 then some 19 else if g = 1000000 then none else some g
theorem rhoW_inj {x y k : Nat} (hx : x ≠ 19) (hy : y ≠ 19) (h1 : rhoW x = some k) (h2 : rhoW y = some k) : x = y := by
  unfold rhoW at h1 h2
  split at h1 <;> split at h2 <;> (try split at h1) <;> (try split at h2) <;> simp only [Option.some.injEq, reduceCtorEq] at h1 h2 <;> omega
theorem hW_ne {names s : ByteArray} {h : Nat} (hn : hW names s h ≠ none) : h ≠ 19 := by
  rintro rfl
  unfold hW Hp.upd at hn
  rw [if_neg (by decide)] at hn
  have := rd_low' hn
  omega
theorem NR_nil : NR [] 0 0 = Hp.emp.upd 1000000 (.cells 0 (nmF [] 0)) := by
  funext h
  unfold NR Hp.upd Hp.emp
  by_cases e : h = 1000000
  · rw [if_pos e, if_pos e]
  · rw [if_neg e, if_neg e, if_neg (by omega)]
theorem hW_lay {H : Hp} {names s : ByteArray} {f g : Nat → AV} (h19 : H 19 = some (.cells 5 f)) (h7 : H 7 = some (.cells 6 g)) (hf : ∀ i, i < 5 → f i = vecF [.v (.string (names)), .v (.string (s)), .v (.int .i64 (0)), .v (.bool (false)), .v (.slice none 0 0)] i) (hg : ∀ i, i < 6 → g i = vecF [.v (.int .i64 (2)), .v (.int .i64 (0)), .v (.int .i64 (1)), .v (.int .i64 (0)), .v (.int .i64 (0)), .v (.slice none 0 0)] i) : LayF rhoW (hW names s) H := by
  unfold hW RD
  refine layF_upd (g := 7) rfl h7 (fun i hi => ?_) (layF_upd (g := 19) rfl h19 (fun i hi => ?_) (by rw [List.length_nil, NR_nil]; exact layF_nil rfl layF_emp))
  · rw [hg i hi]
    match i, hi with
    | 0, _ => exact .plain trivial
    | 1, _ => exact .plain trivial
    | 2, _ => exact .plain trivial
    | 3, _ => exact .plain trivial
    | 4, _ => exact .plain trivial
    | 5, _ => exact .plain trivial
  · rw [hf i hi]
    match i, hi with
    | 0, _ => exact .plain trivial
    | 1, _ => exact .plain trivial
    | 2, _ => exact .plain trivial
    | 3, _ => exact .plain trivial
    | 4, _ => exact .nil rfl
section
variable {P : Program} {N : Cx} {A A' : Fr} {H H' : Hp} {names s : ByteArray} {l : List Nd}
/-- The end of a reading that fails. -/
theorem end_pb {fn : Func} {t u : Tmp} {c : Int} {post : AV → Hp → Prop} (hpn : N.pn = fun _ => false) (hr : fn.results.toList = [.tmp t, .tmp u]) (htu : t ≠ u) (ht : A.get t = some (.v (.slice none 0 0))) (hu : A.get u = some (.v (.int .i64 (c)))) (hp : post (.tup 2 (vecF [.own 1000000 0 6 ([] : List Nd).length, .v (.int .i64 (c))])) (NR [] 0 0)) : endQ P N fn post .ret A H := by
  unfold endQ
  refine ⟨[(t, .own 1000000 0 6 0), (u, .v (.int .i64 (c)))], NR [] 0 0, Sub.layM rho0 hpn (lay_cons ⟨_, ht, .nil rfl⟩ (lay_cons ⟨_, hu, .plain trivial⟩ lay_nil)) (by rw [NR_nil]; exact layF_nil rfl layF_emp) (fun x y k _ _ e1 e2 => rho0_inj e1 e2), ?_⟩
  rw [hr]
  simp only [resVC, Fr.get, htu, if_true, if_false, withA_some]
  exact hp
/-- The end of a reading that succeeds: the last node's children bear the name e, if they lie anywhere. -/
theorem end_pg {fn : Func} {t u : Tmp} {M : Nat} {g : Nat → AV} {y : Nd} {b : AV} {post : AV → Hp → Prop} (hx : l.length ≤ 1000) (hpn : N.pn = fun _ => false) (hr : fn.results.toList = [.tmp t, .tmp u]) (htu : t ≠ u) (hA : A.get t = some (.own 1000000 0 6 (l.length + 1))) (hu : A.get u = some (.v (.int .i64 (-1)))) (h0 : H 1000000 = some (.cells M (apF (l.length * 6) (nmF l l.length) g))) (hM : M = (l.length + 1) * 6) (hg : ∀ i, i < 6 → g i = nO b y i)
    (hb : (b = .own 1000002 0 1 y.kids.length ∧ H 1000002 = some (.cells y.kids.length (cM iv 0 y.kids))) ∨ (b = .v (.slice none 0 0) ∧ y.kids = [])) (h3 : ∀ i, i < l.length → H (sub 1000000 i) = some (.cells (kd l i).length (cM iv 0 (kd l i)))) (hp : post (.tup 2 (vecF [.own 1000000 0 6 (l ++ [y]).length, .v (.int .i64 (-1))])) (NR (l ++ [y]) (l ++ [y]).length (l ++ [y]).length)) : endQ P N fn post .ret A H := by
  subst hM
  have el : (l ++ [y]).length = l.length + 1 := by rw [List.length_append, List.length_singleton]
  rw [el] at hp
  have gk : ∀ i, i < l.length → kd (l ++ [y]) i = kd l i := fun i hi => by simp [kd, List.getD_eq_getElem?_getD, List.getElem?_append, hi]
  have gl : kd (l ++ [y]) l.length = y.kids := by simp [kd, List.getD_eq_getElem?_getD]
  have gd : ∀ i, i < l.length → (l ++ [y]).getD i nd0 = l.getD i nd0 := fun i hi => by simp [List.getD_eq_getElem?_getD, List.getElem?_append, hi]
  have gy : (l ++ [y]).getD l.length nd0 = y := by simp [List.getD_eq_getElem?_getD]
  have hi : ∀ i, i < l.length + 1 → i < FB := fun i hi => by rw [FB_eq]; omega
  obtain ⟨ρ, hρ1, hρ2, hρ3⟩ : ∃ ρ : Nat → Option Nat, (∀ g, g ≠ sub 1000000 l.length → ρ g = some g) ∧ ((ρ (sub 1000000 l.length) = some 1000002 ∧ b = .own 1000002 0 1 y.kids.length ∧ H 1000002 = some (.cells y.kids.length (cM iv 0 y.kids))) ∨ (ρ (sub 1000000 l.length) = none ∧ b = .v (.slice none 0 0) ∧ y.kids = [])) ∧ True := by
    rcases hb with h | h
    · exact ⟨fun g => if g = sub 1000000 l.length then some 1000002 else some g, fun g hg => if_neg hg, .inl ⟨if_pos rfl, h.1, h.2⟩, trivial⟩
    · exact ⟨fun g => if g = sub 1000000 l.length then none else some g, fun g hg => if_neg hg, .inr ⟨if_pos rfl, h.1, h.2⟩, trivial⟩
  have hsg : sub 1000000 l.length ≠ 1000000 := by have := sub_ge 1000000 l.length; rw [FB_eq] at this; omega
  have hρs : ∀ i, i < l.length → ρ (sub 1000000 i) = some (sub 1000000 i) := fun i hlt => hρ1 _ (fun e => by have := (sub_inj (hi i (by omega)) (hi _ (by omega)) e).2; omega)
  have hρ0 : ρ 1000000 = some 1000000 := hρ1 _ (Ne.symm hsg)
  unfold endQ
  refine ⟨[(t, .own 1000000 0 6 (l.length + 1)), (u, .v (.int .i64 (-1)))], NR (l ++ [y]) (l.length + 1) (l.length + 1), Sub.layM ρ hpn (lay_cons ⟨_, hA, .own hρ0⟩ (lay_cons ⟨_, hu, .plain trivial⟩ lay_nil)) (fun h B' hB => ?_) (fun a b k ha hb e1 e2 => ?_), by rw [hr]; simp only [resVC, Fr.get, htu, if_true, if_false, withA_some]; exact hp⟩
  · rcases NR_cases hB with ⟨rfl, rfl⟩ | ⟨i, hlt, rfl, rfl⟩
    · refine .inl ⟨1000000, (l.length + 1) * 6, _, _, hρ0, rfl, h0, fun j hj => ?_⟩
      unfold apF nmF
      rw [if_pos hj]
      by_cases c1 : j < l.length * 6
      · rw [if_pos c1]
        simp only [c1, if_true]
        rw [gk _ (by omega)]
        by_cases c2 : j % 6 = 5
        · simp only [c2, if_true]; exact .own (hρs _ (by omega))
        · simp only [c2, if_false]
          have : ndF (l ++ [y]) j = ndF l j := by unfold ndF; rw [gd _ (by omega)]
          rw [this]; exact .plain (ndF_plain l j).1
      · rw [if_neg c1, hg _ (by omega)]
        have e6 : j / 6 = l.length := by omega
        rw [e6, gl]
        by_cases c2 : j % 6 = 5
        · rw [if_pos c2, show j - l.length * 6 = 5 by omega]
          rcases hρ2 with ⟨r1, r2, r3⟩ | ⟨r1, r2, r3⟩
          · show Lay ρ b _
            rw [r2]; exact .own r1
          · show Lay ρ b _
            rw [r2, r3]; exact .nil r1
        · rw [if_neg c2]
          have e7 : nO b y (j - l.length * 6) = ndF (l ++ [y]) j := by
            unfold ndF
            rw [e6, gy, show j % 6 = j - l.length * 6 by omega]
            have hlt : j - l.length * 6 < 5 := by omega
            match j - l.length * 6, hlt with
            | 0, _ => rfl
            | 1, _ => rfl
            | 2, _ => rfl
            | 3, _ => rfl
            | 4, _ => rfl
          rw [e7]
          exact .plain (ndF_plain _ j).1
    · by_cases e : i = l.length
      · subst e
        rw [gl]
        rcases hρ2 with ⟨r1, r2, r3⟩ | ⟨r1, r2, r3⟩
        · exact .inl ⟨1000002, _, _, _, r1, rfl, r3, fun j hj => .plain trivial⟩
        · rw [r3]; exact .inr (.inl ⟨r1, _, rfl⟩)
      · rw [gk i (by omega)]
        exact .inl ⟨sub 1000000 i, _, _, _, hρs i (by omega), rfl, h3 i (by omega), fun j hj => .plain trivial⟩
  · have key : ∀ a, NR (l ++ [y]) (l.length + 1) (l.length + 1) a ≠ none → a ≠ 1000002 := fun a ha e => by
      subst e
      cases hB : NR (l ++ [y]) (l.length + 1) (l.length + 1) 1000002 with
      | none => exact ha hB
      | some B =>
        rcases NR_cases hB with ⟨e, _⟩ | ⟨i, _, e, _⟩
        · omega
        · have := sub_ge 1000000 i; rw [FB_eq] at this; omega
    have k1 := key a ha
    have k2 := key b hb
    by_cases c1 : a = sub 1000000 l.length <;> by_cases c2 : b = sub 1000000 l.length
    · rw [c1, c2]
    · rw [c1] at e1; rw [hρ1 b c2] at e2
      rcases hρ2 with ⟨r1, _⟩ | ⟨r1, _⟩ <;> rw [r1] at e1 <;> simp only [Option.some.injEq, reduceCtorEq] at e1 e2
      omega
    · rw [c2] at e2; rw [hρ1 a c1] at e1
      rcases hρ2 with ⟨r1, _⟩ | ⟨r1, _⟩ <;> rw [r1] at e2 <;> simp only [Option.some.injEq, reduceCtorEq] at e1 e2
      omega
    · rw [hρ1 a c1] at e1; rw [hρ1 b c2] at e2; simp only [Option.some.injEq] at e1 e2; omega
end
theorem callS3n {P : Program} {N : Cx} {A : Fr} {H : Hp} {names s : ByteArray} {p : Nat} {l : List Nd} {f : FuncId} {args : List AV} {R : Pr (List Int)} {K : AV → Fr → Hp → Prop} (hs : s.size ≤ 400) (hn : l.length ≤ 1000) (hR : ∀ q l' u, R = .ok q l' u → l'.length ≤ 1048576) (hH : Hp.le (RD names s p false l) H) (hac : AC P f args (RD names s p false l) (· == 1000001) (postSm names s p l R)) (hpn : ∀ h, N.pn h = true → h = 1000001)
    (h1 : ∀ w l' ks, R = .bad w → Junk s p w true l.length l'.length → ks.length ≤ w - p + 1 → K (.own 1000002 0 1 ks.length) (A.scrub pR) ((R2 names s w true l' ks).add (H.scrub pR).lo))
    (h2 : ∀ w l' ks, R = .bad w → w < s.size → Junk s p w false l.length l'.length → ks.length ≤ w - p + 1 → K (.own 1000002 0 1 ks.length) (A.scrub pR) ((R2 names s w false l' ks).add (H.scrub pR).lo))
    (h3 : ∀ q l' ks, R = .ok q l' ks → K (.own 1000002 0 1 ks.length) (A.scrub pR) ((R2 names s q false l' ks).add (H.scrub pR).lo)) : CallG P N f args A H K := by
  refine callSm hs hn hR hH hac hpn (fun w fl l' ks e j k => ?_) h3
  cases fl with
  | true => exact h1 w l' ks e j k
  | false =>
    have h0 := (bt_in s w).1
    rcases j.st with h | h
    · cases h
    · exact h2 w l' ks e (by omega) j k
set_option maxHeartbeats 4000000 in
theorem implParseNotation_ok (names s : ByteArray) (hns : names.size ≤ 1048576) (hs : s.size ≤ 1048576) : AC Try.prog 23 [.v (.string (names)), .v (.string (s))] Hp.emp (fun _ => false) (postP (parP names s).1 (parP names s).2) := by
  by_cases hN : nmP names
  · have hd : decide ((1 ≤ names.size ∧ names.size ≤ 8) ∧ ∀ i, i < names.size → isName names i) = true := decide_eq_true hN
    by_cases h4 : s.size ≤ 400
    · have hcond : ¬ (¬ nmP names ∨ 400 < s.size) := fun h => h.elim (fun h => h hN) (fun h => by omega)
      by_cases h0 : s.size = 0
      · have e0 := ba_empty h0
        subst e0
        have pp : parP names ⟨#[]⟩ = ([] ++ [⟨2, 0, 1, 0, 0, []⟩], -1) := by
          unfold parP; rw [if_neg hcond, if_pos h0]; rfl
        have pp := Hold.mk pp
        clear hcond
        refine ac_of_awp (N := ⟨_, fun _ => false, fun _ _ => rfl⟩) Try.func23 rfl (by kernel_rfl) Try.ntmps23 (by simp) ?_
        simp only [argsFr, List.zipIdx_cons, List.zipIdx_nil, go_sem]
        repeat' (first | (show False; omega) | (refine Ob.mk (all5 rfl rfl rfl rfl rfl) ?_) | (refine Ob.mk (all6 rfl rfl rfl rfl rfl rfl) ?_) | (refine awp_cutR 5 7 (A' := [(6, .ref 1000001 0), (7, .ref 7 0), (1, .v (.string (⟨#[]⟩)))]) (H' := hW names ⟨#[]⟩) (Sub.layM rhoW rfl (lay_cons ⟨_, rfl, .ref rfl⟩ (lay_cons ⟨_, rfl, .ref rfl⟩ (lay_cons ⟨_, rfl, .plain trivial⟩ lay_nil))) (hW_lay rfl rfl (all5 rfl rfl rfl rfl rfl) (all6 rfl rfl rfl rfl rfl rfl)) (fun x y k hx hy e1 e2 => rhoW_inj (hW_ne hx) (hW_ne hy) e1 e2)) ?_; unfold hW) | (refine awp_regionSK (id := 9) 288230651033846003 [0,1,2,3,4,5] [6,7,8,9,10] [43,44,45,46,47,48,6,7] [0,1,2,3] [43,44,45,46,6] 1 ((Hp.emp.upd 1000001 (.cells 5 (vecF [.v (.string (names)), .v (.string (⟨#[]⟩)), .v (.int .i64 ((0 : Nat))), .v (.bool (false)), .own 1000000 0 6 0]))).upd 7 (.cells 6 (vecF [.v (.int .i64 (2)), .v (.int .i64 (0)), .v (.int .i64 (1)), .v (.int .i64 (0)), .v (.int .i64 (0)), .v (.slice none 0 0)]))) (by kernel_rfl) (by kernel_rfl) (by kernel_rfl) ?_; simp only [List.map_cons, List.map_nil, List.take_succ_cons, List.take_zero, List.drop_succ_cons, List.drop_zero, List.cons_append, List.nil_append, opsS, pickL, linkS_nil, linkS_0, linkS_1, gx2VC, gxVC, upd_add, emp_add]; simp (maxSteps := 1000000) (dsimp := false) (implicitDefEqProofs := false) (disch := omega) only [upd_add, emp_add, wrap64, go_sem, pR_low, pR_1, pR_0, pR_2, NR_slo, NR_slo', lo_upd, lo_high, lo_emp, RD_add, R2_add, add_emp, NR_scr, NR_scr0, nmF_scF0, set5_2, set5_3', set5_4, set6_0, set6_4, set6_5, Nat.le_refl, List.getElem?_cons_zero, List.getElem?_cons_succ, hd, beq_self_eq_true, List.length_nil, nO]) | refine Ob.mk (AllH.mk fun _ => ?_) ?_ | exact True.intro | refine obLe ?_ ?_ | exact Hp.le_emp _ | refine Hp.le_upd rfl ?_ | refine awp_seqK fun K hK => ?_ | (refine awp_regionK 288230651033846003 rfl ?_; simp only [List.map_cons, List.map_nil]; simp (maxSteps := 1000000) (dsimp := false) (implicitDefEqProofs := false) (disch := omega) only [wrap64, go_sem, pR_low, pR_1, pR_0, pR_2, NR_slo, NR_slo', lo_upd, lo_high, lo_emp, RD_add, R2_add, add_emp, NR_scr, NR_scr0, nmF_scF0, set5_2, set5_3', set5_4, set6_0, set6_4, set6_5, Nat.le_refl, List.getElem?_cons_zero, List.getElem?_cons_succ, hd, beq_self_eq_true, List.length_nil, nO]) | (refine awp_regionQK 288230651033846003 (by kernel_rfl) (by kernel_rfl) (by kernel_rfl) ?_; simp only [List.map_cons, List.map_nil]; simp (maxSteps := 1000000) (dsimp := false) (implicitDefEqProofs := false) (disch := omega) only [wrap64, go_sem, pR_low, pR_1, pR_0, pR_2, NR_slo, NR_slo', lo_upd, lo_high, lo_emp, RD_add, R2_add, add_emp, NR_scr, NR_scr0, nmF_scF0, set5_2, set5_3', set5_4, set6_0, set6_4, set6_5, Nat.le_refl, List.getElem?_cons_zero, List.getElem?_cons_succ, hd, beq_self_eq_true, List.length_nil, nO]) | refine awp_block ?_ | (refine awp_skip ?_; simp only [go_sem, pR_low, pR_1, pR_0, pR_2, NR_slo, NR_slo', lo_upd, lo_high, lo_emp, RD_add, R2_add, add_emp, NR_scr, NR_scr0, nmF_scF0, set5_2, set5_3', set5_4, set6_0, set6_4, set6_5, Nat.le_refl, List.getElem?_cons_zero, List.getElem?_cons_succ, hd, beq_self_eq_true, List.length_nil, nO]) | (refine awp_exit ?_; simp only [go_sem, pR_low, pR_1, pR_0, pR_2, NR_slo, NR_slo', lo_upd, lo_high, lo_emp, RD_add, R2_add, add_emp, NR_scr, NR_scr0, nmF_scF0, set5_2, set5_3', set5_4, set6_0, set6_4, set6_5, Nat.le_refl, List.getElem?_cons_zero, List.getElem?_cons_succ, hd, beq_self_eq_true, List.length_nil, nO]) | (refine awp_ret ?_; try simp only [go_sem, pR_low, pR_1, pR_0, pR_2, NR_slo, NR_slo', lo_upd, lo_high, lo_emp, RD_add, R2_add, add_emp, NR_scr, NR_scr0, nmF_scF0, set5_2, set5_3', set5_4, set6_0, set6_4, set6_5, Nat.le_refl, List.getElem?_cons_zero, List.getElem?_cons_succ, hd, beq_self_eq_true, List.length_nil, nO]) | (refine awp_condP rfl ?_; try simp only [go_sem, pR_low, pR_1, pR_0, pR_2, NR_slo, NR_slo', lo_upd, lo_high, lo_emp, RD_add, R2_add, add_emp, NR_scr, NR_scr0, nmF_scF0, set5_2, set5_3', set5_4, set6_0, set6_4, set6_5, Nat.le_refl, List.getElem?_cons_zero, List.getElem?_cons_succ, hd, beq_self_eq_true, List.length_nil, nO]) | (refine BrP.mk (fun h => ?_) (fun h => ?_) <;> try simp (dsimp := false) (disch := omega) only [wrap64]) | (refine Br.mk (fun h => ?_) (fun h => ?_) <;> try simp (dsimp := false) (disch := omega) only [wrap64]) | refine Ob.mk (by first | omega | (intro _ _; rfl) | trivial | (intros; trivial) | assumption | (intro i hi; have h0 : i = 0 := (by omega); subst h0; first | rfl | trivial) | (intro i hi; have h0 : i = 0 ∨ i = 1 := (by omega); rcases h0 with rfl | rfl <;> rfl) | (intro i hi; have h0 : i = 0 ∨ i = 1 ∨ i = 2 := (by omega); rcases h0 with rfl | rfl | rfl <;> rfl)) ?_ | ((first | ((first | refine atF (f := 96) ?_ | refine atQ (f := 96) ?_); (first | (refine cV (hac := isNames_ok names (by omega)) (hK := ?_)) | (refine cQV (hac := isNames_ok names (by omega)) (hK := ?_))))); simp (maxSteps := 1000000) (dsimp := false) (implicitDefEqProofs := false) (disch := omega) only [wrap64, go_sem, pR_low, pR_1, pR_0, pR_2, NR_slo, NR_slo', lo_upd, lo_high, lo_emp, RD_add, R2_add, add_emp, NR_scr, NR_scr0, nmF_scF0, set5_2, set5_3', set5_4, set6_0, set6_4, set6_5, Nat.le_refl, List.getElem?_cons_zero, List.getElem?_cons_succ, hd, beq_self_eq_true, List.length_nil, nO]) | apply_assumption -exfalso -symm)
        all_goals (first | (show endQ _ _ _ _ _ _ _; (repeat (rename (∀ (A : Fr) (H : Hp), AWP _ _ _ _ A H → _) => hK; clear hK)); (repeat (rename (Fr → Hp → Prop) => K; clear K))) | (show Exists _; (repeat (rename (∀ (A : Fr) (H : Hp), AWP _ _ _ _ A H → _) => hK; clear hK)); (repeat (rename (Fr → Hp → Prop) => K; clear K))) | skip)
        rw [pp.h]
        exact end_pg (l := []) (y := ⟨2, 0, 1, 0, 0, []⟩) (b := .v (.slice none 0 0)) (by decide) rfl rfl (by decide) rfl rfl rfl rfl (all6 rfl rfl rfl rfl rfl rfl) (.inr ⟨rfl, rfl⟩) (fun i hi => absurd hi (Nat.not_lt_zero _)) ⟨rfl, rfl⟩
      · have hne := ba_ne h0
        have hnm := nm_ok hN
        have hS := (imp_all (s := s) hnm h4 (2 * s.size + 2)).2.2
        have pp : parP names s = match pSeq names s (2 * s.size + 2) 0 [] [] with
            | .out => ([], 0)
            | .bad w => ([], (w : Int))
            | .ok q l ks => if q < s.size then ([], (q : Int)) else if 200 ≤ l.length then ([], -3) else (l ++ [⟨2, 0, 1, 0, 0, ks⟩], -1) := by
          unfold parP; rw [if_neg hcond, if_neg h0]; rfl
        have pp := Hold.mk pp
        clear hcond
        refine ac_of_awp (N := ⟨_, fun _ => false, fun _ _ => rfl⟩) Try.func23 rfl (by kernel_rfl) Try.ntmps23 (by simp) ?_
        simp only [argsFr, List.zipIdx_cons, List.zipIdx_nil, go_sem]
        repeat' (first | (show False; omega) | (refine Ob.mk (all5 rfl rfl rfl rfl rfl) ?_) | (refine Ob.mk (all6 rfl rfl rfl rfl rfl rfl) ?_) | (refine awp_cutR 5 7 (A' := [(6, .ref 1000001 0), (7, .ref 7 0), (1, .v (.string (s)))]) (H' := hW names s) (Sub.layM rhoW rfl (lay_cons ⟨_, rfl, .ref rfl⟩ (lay_cons ⟨_, rfl, .ref rfl⟩ (lay_cons ⟨_, rfl, .plain trivial⟩ lay_nil))) (hW_lay rfl rfl (all5 rfl rfl rfl rfl rfl) (all6 rfl rfl rfl rfl rfl rfl)) (fun x y k hx hy e1 e2 => rhoW_inj (hW_ne hx) (hW_ne hy) e1 e2)) ?_; unfold hW) | ((first | refine atF (f := 97) ?_ | refine atQ (f := 97) ?_); (refine callS3n (p := 0) (l := []) h4 (by decide) (fun q l' u e => by have := sq_g hnm (by omega) (by omega) e; rw [List.length_nil] at this; omega) (le_rd rfl (by repeat' (first | exact HasNR.bare (by omega) | exact HasNR.bare (by decide) | refine HasNR.updB (by decide) (by decide) ?_))) (hS 0 [] (by omega) (by decide) (by omega)) (fun h hh => by simp at hh) (fun w l1 ks e1 hj1 hk => have hb1 : w ≤ s.size ∧ l1.length ≤ w + 1 := (by have h1 := hj1.le; have h2 := hj1.len; simp only [List.length_nil] at h1 h2; omega); ?_) (fun w l1 ks e1 hw hj1 hk => have hb1 : w ≤ s.size ∧ l1.length ≤ w + 1 := (by have h1 := hj1.le; have h2 := hj1.len; simp only [List.length_nil] at h1 h2; omega); ?_) (fun q l1 ks e1 => have hb1 : q ≤ s.size ∧ l1.length ≤ q ∧ ks.length ≤ l1.length := (by have h1 := sq_g hnm (by omega) (by omega) e1; have h2 := sq_ks0 hnm (by omega) (by omega) e1; simp only [List.length_nil] at h1 h2; omega); ?_)) <;> simp (maxSteps := 1000000) (dsimp := false) (implicitDefEqProofs := false) (disch := omega) only [wrap64, go_sem, pR_low, pR_1, pR_0, pR_2, NR_slo, NR_slo', lo_upd, lo_high, lo_emp, RD_add, R2_add, add_emp, NR_scr, NR_scr0, nmF_scF0, set5_2, set5_3', set5_4, set6_0, set6_4, set6_5, Nat.le_refl, List.getElem?_cons_zero, List.getElem?_cons_succ, hd, hne, List.length_nil, nO]) | (refine awp_regionSK (id := 9) 288230651033846003 [0,1,2,3,4,5] [6,7,8,9,10] [43,44,45,46,47,48,6,7] [0,1,2,3] [43,44,45,46,6] 1 ((Hp.emp.upd 1000001 (.cells 5 (vecF [.v (.string (names)), .v (.string (s)), .v (.int .i64 ((q : Nat))), .v (.bool (false)), .own 1000000 0 6 l1.length]))).upd 7 (.cells 6 (vecF [.v (.int .i64 (2)), .v (.int .i64 (0)), .v (.int .i64 (1)), .v (.int .i64 (0)), .v (.int .i64 (0)), .own 1000002 0 1 ks.length]))) (by kernel_rfl) (by kernel_rfl) (by kernel_rfl) ?_; simp only [List.map_cons, List.map_nil, List.take_succ_cons, List.take_zero, List.drop_succ_cons, List.drop_zero, List.cons_append, List.nil_append, opsS, pickL, linkS_nil, linkS_0, linkS_1, gx2VC, gxVC, upd_add, emp_add]; simp (maxSteps := 1000000) (dsimp := false) (implicitDefEqProofs := false) (disch := omega) only [upd_add, emp_add, wrap64, go_sem, pR_low, pR_1, pR_0, pR_2, NR_slo, NR_slo', lo_upd, lo_high, lo_emp, RD_add, R2_add, add_emp, NR_scr, NR_scr0, nmF_scF0, set5_2, set5_3', set5_4, set6_0, set6_4, set6_5, Nat.le_refl, List.getElem?_cons_zero, List.getElem?_cons_succ, hd, hne, List.length_nil, nO]) | refine Ob.mk (AllH.mk fun _ => ?_) ?_ | exact True.intro | refine obLe ?_ ?_ | exact Hp.le_emp _ | refine Hp.le_upd rfl ?_ | refine awp_seqK fun K hK => ?_ | (refine awp_regionK 288230651033846003 rfl ?_; simp only [List.map_cons, List.map_nil]; simp (maxSteps := 1000000) (dsimp := false) (implicitDefEqProofs := false) (disch := omega) only [wrap64, go_sem, pR_low, pR_1, pR_0, pR_2, NR_slo, NR_slo', lo_upd, lo_high, lo_emp, RD_add, R2_add, add_emp, NR_scr, NR_scr0, nmF_scF0, set5_2, set5_3', set5_4, set6_0, set6_4, set6_5, Nat.le_refl, List.getElem?_cons_zero, List.getElem?_cons_succ, hd, hne, List.length_nil, nO]) | (refine awp_regionQK 288230651033846003 (by kernel_rfl) (by kernel_rfl) (by kernel_rfl) ?_; simp only [List.map_cons, List.map_nil]; simp (maxSteps := 1000000) (dsimp := false) (implicitDefEqProofs := false) (disch := omega) only [wrap64, go_sem, pR_low, pR_1, pR_0, pR_2, NR_slo, NR_slo', lo_upd, lo_high, lo_emp, RD_add, R2_add, add_emp, NR_scr, NR_scr0, nmF_scF0, set5_2, set5_3', set5_4, set6_0, set6_4, set6_5, Nat.le_refl, List.getElem?_cons_zero, List.getElem?_cons_succ, hd, hne, List.length_nil, nO]) | refine awp_block ?_ | (refine awp_skip ?_; simp only [go_sem, pR_low, pR_1, pR_0, pR_2, NR_slo, NR_slo', lo_upd, lo_high, lo_emp, RD_add, R2_add, add_emp, NR_scr, NR_scr0, nmF_scF0, set5_2, set5_3', set5_4, set6_0, set6_4, set6_5, Nat.le_refl, List.getElem?_cons_zero, List.getElem?_cons_succ, hd, hne, List.length_nil, nO]) | (refine awp_exit ?_; simp only [go_sem, pR_low, pR_1, pR_0, pR_2, NR_slo, NR_slo', lo_upd, lo_high, lo_emp, RD_add, R2_add, add_emp, NR_scr, NR_scr0, nmF_scF0, set5_2, set5_3', set5_4, set6_0, set6_4, set6_5, Nat.le_refl, List.getElem?_cons_zero, List.getElem?_cons_succ, hd, hne, List.length_nil, nO]) | (refine awp_ret ?_; try simp only [go_sem, pR_low, pR_1, pR_0, pR_2, NR_slo, NR_slo', lo_upd, lo_high, lo_emp, RD_add, R2_add, add_emp, NR_scr, NR_scr0, nmF_scF0, set5_2, set5_3', set5_4, set6_0, set6_4, set6_5, Nat.le_refl, List.getElem?_cons_zero, List.getElem?_cons_succ, hd, hne, List.length_nil, nO]) | (refine awp_condP rfl ?_; try simp only [go_sem, pR_low, pR_1, pR_0, pR_2, NR_slo, NR_slo', lo_upd, lo_high, lo_emp, RD_add, R2_add, add_emp, NR_scr, NR_scr0, nmF_scF0, set5_2, set5_3', set5_4, set6_0, set6_4, set6_5, Nat.le_refl, List.getElem?_cons_zero, List.getElem?_cons_succ, hd, hne, List.length_nil, nO]) | (refine BrP.mk (fun h => ?_) (fun h => ?_) <;> try simp (dsimp := false) (disch := omega) only [wrap64]) | (refine Br.mk (fun h => ?_) (fun h => ?_) <;> try simp (dsimp := false) (disch := omega) only [wrap64]) | refine Ob.mk (by first | omega | (intro _ _; rfl) | trivial | (intros; trivial) | assumption | (intro i hi; have h0 : i = 0 := (by omega); subst h0; first | rfl | trivial) | (intro i hi; have h0 : i = 0 ∨ i = 1 := (by omega); rcases h0 with rfl | rfl <;> rfl) | (intro i hi; have h0 : i = 0 ∨ i = 1 ∨ i = 2 := (by omega); rcases h0 with rfl | rfl | rfl <;> rfl)) ?_ | ((first | ((first | refine atF (f := 96) ?_ | refine atQ (f := 96) ?_); (first | (refine cV (hac := isNames_ok names (by omega)) (hK := ?_)) | (refine cQV (hac := isNames_ok names (by omega)) (hK := ?_))))); simp (maxSteps := 1000000) (dsimp := false) (implicitDefEqProofs := false) (disch := omega) only [wrap64, go_sem, pR_low, pR_1, pR_0, pR_2, NR_slo, NR_slo', lo_upd, lo_high, lo_emp, RD_add, R2_add, add_emp, NR_scr, NR_scr0, nmF_scF0, set5_2, set5_3', set5_4, set6_0, set6_4, set6_5, Nat.le_refl, List.getElem?_cons_zero, List.getElem?_cons_succ, hd, hne, List.length_nil, nO]) | apply_assumption -exfalso -symm)
        all_goals (first | (show endQ _ _ _ _ _ _ _; (repeat (rename (∀ (A : Fr) (H : Hp), AWP _ _ _ _ A H → _) => hK; clear hK)); (repeat (rename (Fr → Hp → Prop) => K; clear K))) | (show Exists _; (repeat (rename (∀ (A : Fr) (H : Hp), AWP _ _ _ _ A H → _) => hK; clear hK)); (repeat (rename (Fr → Hp → Prop) => K; clear K))) | skip)
        all_goals first
        | (rw [pp.h, e1]; exact end_pb rfl rfl (by decide) rfl rfl ⟨rfl, rfl⟩)
        | (rw [pp.h, e1]; dsimp only; rw [if_pos (by omega)]; exact end_pb rfl rfl (by decide) rfl rfl ⟨rfl, rfl⟩)
        | (rw [pp.h, e1]; dsimp only; rw [if_neg (by omega), if_pos (by omega)]; exact end_pb rfl rfl (by decide) rfl rfl ⟨rfl, rfl⟩)
        | (rw [pp.h, e1]; dsimp only; rw [if_neg (by omega), if_neg (by omega)]; exact end_pg (l := l1) (y := ⟨2, 0, 1, 0, 0, ks⟩) (by omega) rfl rfl (by decide) rfl rfl rfl rfl (all6 rfl rfl rfl rfl rfl rfl) (.inl ⟨rfl, rfl⟩) (fun i hi => by simp (disch := decide) only [upd_sub]; exact NR_sub hi (by omega)) ⟨rfl, rfl⟩)
    · have pp : parP names s = ([], -2) := by unfold parP; rw [if_pos (.inr (by omega))]
      refine ac_of_awp (N := ⟨_, fun _ => false, fun _ _ => rfl⟩) Try.func23 rfl (by kernel_rfl) Try.ntmps23 (by simp) ?_
      simp only [argsFr, List.zipIdx_cons, List.zipIdx_nil, go_sem]
      repeat' (first | (show False; omega) | refine awp_seqK fun K hK => ?_ | (refine awp_regionK 288230651033846003 rfl ?_; simp only [List.map_cons, List.map_nil]; simp (maxSteps := 1000000) (dsimp := false) (implicitDefEqProofs := false) (disch := omega) only [wrap64, go_sem, hd]) | (refine awp_regionQK 288230651033846003 (by kernel_rfl) (by kernel_rfl) (by kernel_rfl) ?_; simp only [List.map_cons, List.map_nil]; simp (maxSteps := 1000000) (dsimp := false) (implicitDefEqProofs := false) (disch := omega) only [wrap64, go_sem, hd]) | refine awp_block ?_ | (refine awp_skip ?_; simp only [go_sem, hd]) | (refine awp_exit ?_; simp only [go_sem, hd]) | (refine awp_ret ?_; try simp only [go_sem, hd]) | (refine awp_condP rfl ?_; try simp only [go_sem, hd]) | (refine BrP.mk (fun h => ?_) (fun h => ?_) <;> try simp (dsimp := false) (disch := omega) only [wrap64]) | (refine Br.mk (fun h => ?_) (fun h => ?_) <;> try simp (dsimp := false) (disch := omega) only [wrap64]) | refine Ob.mk (by first | omega | (intro _ _; rfl) | trivial | (intros; trivial) | assumption | (intro i hi; have h0 : i = 0 := (by omega); subst h0; first | rfl | trivial) | (intro i hi; have h0 : i = 0 ∨ i = 1 := (by omega); rcases h0 with rfl | rfl <;> rfl) | (intro i hi; have h0 : i = 0 ∨ i = 1 ∨ i = 2 := (by omega); rcases h0 with rfl | rfl | rfl <;> rfl)) ?_ | ((first | ((first | refine atF (f := 96) ?_ | refine atQ (f := 96) ?_); (first | (refine cV (hac := isNames_ok names (by omega)) (hK := ?_)) | (refine cQV (hac := isNames_ok names (by omega)) (hK := ?_))))); simp (maxSteps := 1000000) (dsimp := false) (implicitDefEqProofs := false) (disch := omega) only [wrap64, go_sem, hd]) | apply_assumption -exfalso -symm)
      all_goals (first | (show endQ _ _ _ _ _ _ _; (repeat (rename (∀ (A : Fr) (H : Hp), AWP _ _ _ _ A H → _) => hK; clear hK)); (repeat (rename (Fr → Hp → Prop) => K; clear K))) | (show Exists _; (repeat (rename (∀ (A : Fr) (H : Hp), AWP _ _ _ _ A H → _) => hK; clear hK)); (repeat (rename (Fr → Hp → Prop) => K; clear K))) | skip)
      rw [pp]
      exact end_pb rfl rfl (by decide) rfl rfl ⟨rfl, rfl⟩
  · have hd : decide ((1 ≤ names.size ∧ names.size ≤ 8) ∧ ∀ i, i < names.size → isName names i) = false := decide_eq_false hN
    have pp : parP names s = ([], -2) := by unfold parP; rw [if_pos (.inl hN)]
    refine ac_of_awp (N := ⟨_, fun _ => false, fun _ _ => rfl⟩) Try.func23 rfl (by kernel_rfl) Try.ntmps23 (by simp) ?_
    simp only [argsFr, List.zipIdx_cons, List.zipIdx_nil, go_sem]
    repeat' (first | (show False; omega) | refine awp_seqK fun K hK => ?_ | (refine awp_regionK 288230651033846003 rfl ?_; simp only [List.map_cons, List.map_nil]; simp (maxSteps := 1000000) (dsimp := false) (implicitDefEqProofs := false) (disch := omega) only [wrap64, go_sem, hd]) | (refine awp_regionQK 288230651033846003 (by kernel_rfl) (by kernel_rfl) (by kernel_rfl) ?_; simp only [List.map_cons, List.map_nil]; simp (maxSteps := 1000000) (dsimp := false) (implicitDefEqProofs := false) (disch := omega) only [wrap64, go_sem, hd]) | refine awp_block ?_ | (refine awp_skip ?_; simp only [go_sem, hd]) | (refine awp_exit ?_; simp only [go_sem, hd]) | (refine awp_ret ?_; try simp only [go_sem, hd]) | (refine awp_condP rfl ?_; try simp only [go_sem, hd]) | (refine BrP.mk (fun h => ?_) (fun h => ?_) <;> try simp (dsimp := false) (disch := omega) only [wrap64]) | (refine Br.mk (fun h => ?_) (fun h => ?_) <;> try simp (dsimp := false) (disch := omega) only [wrap64]) | refine Ob.mk (by first | omega | (intro _ _; rfl) | trivial | (intros; trivial) | assumption | (intro i hi; have h0 : i = 0 := (by omega); subst h0; first | rfl | trivial) | (intro i hi; have h0 : i = 0 ∨ i = 1 := (by omega); rcases h0 with rfl | rfl <;> rfl) | (intro i hi; have h0 : i = 0 ∨ i = 1 ∨ i = 2 := (by omega); rcases h0 with rfl | rfl | rfl <;> rfl)) ?_ | ((first | ((first | refine atF (f := 96) ?_ | refine atQ (f := 96) ?_); (first | (refine cV (hac := isNames_ok names (by omega)) (hK := ?_)) | (refine cQV (hac := isNames_ok names (by omega)) (hK := ?_))))); simp (maxSteps := 1000000) (dsimp := false) (implicitDefEqProofs := false) (disch := omega) only [wrap64, go_sem, hd]) | apply_assumption -exfalso -symm)
    all_goals (first | (show endQ _ _ _ _ _ _ _; (repeat (rename (∀ (A : Fr) (H : Hp), AWP _ _ _ _ A H → _) => hK; clear hK)); (repeat (rename (Fr → Hp → Prop) => K; clear K))) | (show Exists _; (repeat (rename (∀ (A : Fr) (H : Hp), AWP _ _ _ _ A H → _) => hK; clear hK)); (repeat (rename (Fr → Hp → Prop) => K; clear K))) | skip)
    rw [pp]
    exact end_pb rfl rfl (by decide) rfl rfl ⟨rfl, rfl⟩
end Go.Proofs.Ytphpegemhnodcaa
end
/- What is read is small; ParseWord, both texts. -/
section
namespace Go.Proofs.Ytphpegemhnodcaa
open Go.Av
set_option linter.unusedSimpArgs false
set_option linter.unusedVariables false
attribute [local irreducible] AWP CallG Ob Br BrP Go.Av.Sub endQ AOps OpV AC thenA blkA opsVC opVC withA withArgs opsQ opQ CallQ withA2 withArgs2
open Go.Nt (Nd nd0 kd li liF dig pInv pSuf pItem pSeq Pr Goes nmOk pItem_goes pSeq_goes)
/-- No node has many children. -/
def kB (l : List Nd) : Prop := ∀ x ∈ l, x.kids.length ≤ 2000
theorem kB_snoc {l : List Nd} {y : Nd} (h : kB l) (hy : y.kids.length ≤ 2000) : kB (l ++ [y]) := fun x hx => by
  rcases List.mem_append.1 hx with h1 | h1
  · exact h x h1
  · rw [List.mem_singleton] at h1; subst h1; exact hy
theorem kB_kd {l : List Nd} (h : kB l) (j : Nat) : (kd l j).length ≤ 2000 := by
  unfold kd
  by_cases hj : j < l.length
  · rw [List.getD_eq_getElem?_getD, List.getElem?_eq_getElem hj]; exact h _ (List.getElem_mem hj)
  · rw [List.getD_eq_getElem?_getD, List.getElem?_eq_none (by omega)]; exact Nat.zero_le _
def SKB (names s : ByteArray) (f : Nat) : Prop := ∀ p l ks0 q l' ks, p ≤ s.size → 2 * (s.size - p) + 2 ≤ f → pSeq names s f p l ks0 = .ok q l' ks → kB l → kB l'
theorem un_kb {names s : ByteArray} (hn : nmOk names) (hs : s.size ≤ 400) {f : Nat} (hS : SKB names s f) {p q : Nat} {l l' : List Nd} {x : Nd} (hp : p ≤ s.size) (hf : 2 * (s.size - p) ≤ f) (e : pUn names s f p l = .ok q l' x) (hl : kB l) : kB l' ∧ x.kids.length ≤ 2000 := by
  have hb := (bt_in s p).1
  unfold pUn at e
  split at e
  · cases e
    exact ⟨hl, Nat.zero_le _⟩
  · split at e
    · rename_i h40
      cases e1 : pSeq names s f (p + 1) l [] with
      | out => rw [e1] at e; cases e
      | bad w => rw [e1] at e; cases e
      | ok q1 l1 a =>
        rw [e1] at e
        dsimp only at e
        have h1 := sq_g hn (by omega) (by omega) e1
        have h2 := sq_ks0 hn (by omega) (by omega) e1
        have h3 := hS _ _ _ _ _ _ (by omega) (by omega) e1 hl
        split at e
        · cases e; exact ⟨h3, by dsimp only; omega⟩
        · cases e
    · split at e
      · rename_i h91
        unfold pBu at e
        cases e1 : pSeq names s f (p + 1) l [] with
        | out => rw [e1] at e; cases e
        | bad w => rw [e1] at e; cases e
        | ok q1 l1 a =>
          rw [e1] at e
          dsimp only at e
          have h1 := sq_g hn (by omega) (by omega) e1
          have h2 := sq_ks0 hn (by omega) (by omega) e1
          have h3 := hS _ _ _ _ _ _ (by omega) (by omega) e1 hl
          have hb := (bt_in s q1).1
          split at e
          · rename_i h58
            cases e2 : pSeq names s f (q1 + 1) l1 [] with
            | out => rw [e2] at e; cases e
            | bad w => rw [e2] at e; cases e
            | ok q2 l2 b =>
              rw [e2] at e
              dsimp only at e
              have h4 := sq_g hn (by omega) (by omega) e2
              have h5 := sq_ks0 hn (by omega) (by omega) e2
              have h6 := hS _ _ _ _ _ _ (by omega) (by omega) e2 h3
              split at e
              · cases e
                exact ⟨h6, by simp only [List.length_append]; omega⟩
              · cases e
          · cases e
      · cases e
theorem it_kb {names s : ByteArray} (hn : nmOk names) (hs : s.size ≤ 400) {f : Nat} (hS : SKB names s f) {p q : Nat} {l l' : List Nd} {u : Unit} (hp : p ≤ s.size) (hf : 2 * (s.size - p) ≤ f) (e : pItem names s (f + 1) p l = .ok q l' u) (hl : kB l) : kB l' := by
  rw [pIt_un] at e
  cases e1 : pUn names s f p l with
  | out => rw [e1] at e; cases e
  | bad w => rw [e1] at e; cases e
  | ok q1 l1 x =>
    rw [e1] at e
    dsimp only at e
    have h1 := un_kb hn hs hS hp hf e1 hl
    have h2 := un_g hn hp hf e1
    rcases Go.Nt.pSuf_ok (s := s) (p := q1) (l := l1) (x := x) (by omega) with ⟨w, a, _⟩ | ⟨q3, y, a, _, _, hy⟩
    · rw [a] at e; cases e
    · rw [a] at e; cases e
      exact kB_snoc h1.1 (by rw [hy]; exact h1.2)
theorem sq_kb {names s : ByteArray} (hn : nmOk names) (hs : s.size ≤ 400) : ∀ f, SKB names s f := by
  intro f
  induction f using Nat.strongRecOn with
  | _ f ih =>
    intro p l ks0 q l' ks hp hf e hl
    obtain ⟨g, rfl⟩ : ∃ g, f = g + 2 := ⟨f - 2, by omega⟩
    rw [pSeq_succ] at e
    cases e1 : pItem names s (g + 1) p l with
    | out => rw [e1] at e; cases e
    | bad w => rw [e1] at e; cases e
    | ok q1 l1 u =>
      rw [e1] at e
      dsimp only at e
      have h1 := it_kb hn hs (ih g (by omega)) hp (by omega) e1 hl
      have h2 := it_g hn hp (by omega) e1
      have hb := (bt_in s q1).1
      split at e
      · exact ih (g + 1) (by omega) _ _ _ _ _ _ (by omega) (by omega) e h1
      · cases e; exact h1
theorem parP_small (names s : ByteArray) : (parP names s).1.length ≤ 1048576 ∧ kB (parP names s).1 := by
  have k0 : kB [] := fun x hx => by cases hx
  unfold parP
  split
  · exact ⟨Nat.zero_le _, k0⟩
  · rename_i hc
    have hN : nmP names := Classical.byContradiction fun h => hc (.inl h)
    have h4 : s.size ≤ 400 := Nat.le_of_not_lt fun h => hc (.inr h)
    split
    · exact ⟨by simp only [List.length_singleton]; omega, kB_snoc k0 (Nat.zero_le _)⟩
    · cases e : pSeq names s (2 * s.size + 2) 0 [] [] with
      | out => exact ⟨Nat.zero_le _, k0⟩
      | bad w => exact ⟨Nat.zero_le _, k0⟩
      | ok q l ks =>
        dsimp only
        have h1 := sq_g (nm_ok hN) (by omega) (by omega) e
        have h2 := sq_ks0 (nm_ok hN) (by omega) (by omega) e
        have h3 := sq_kb (nm_ok hN) h4 _ _ _ _ _ _ _ (by omega) (by omega) e k0
        split
        · exact ⟨Nat.zero_le _, k0⟩
        · split
          · exact ⟨Nat.zero_le _, k0⟩
          · exact ⟨by rw [List.length_append, List.length_singleton]; omega, kB_snoc h3 (by dsimp only; simp only [List.length_nil] at h1 h2; omega)⟩
/-- A call that hands back a row of nodes beside a number. -/
theorem callPp {P : Program} {N : Cx} {A : Fr} {H : Hp} {f : FuncId} {args : List AV} {xs : List Nd} {c : Int} {K : AV → Fr → Hp → Prop} (_hfree : H 1000000 = none) (hac : AC P f args Hp.emp (fun _ => false) (postP xs c)) (hx : xs.length ≤ 1048576) (hpn : N.pn = fun _ => false)
    (hK : K (.tup 2 (vecF [.own 1000000 0 6 xs.length, .v (.int .i64 (c))])) (A.scrub pM) ((NR xs xs.length xs.length).add (H.scrub pM))) : CallG P N f args A H K := by
  refine callHp hac hpn ?_
  rintro r H' ⟨rfl, rfl⟩
  have hl : ∀ i, i < xs.length → liveB (NR xs xs.length xs.length) (sub 1000000 i) = true := fun i hi => by simp [liveB, NR_sub hi hx]
  refine ⟨fun h hn => NR_high hn, ?_, NR_scrub (fun i hi => by simp [hl i hi]), hK⟩
  rw [scrub_tup, scF_vecF]
  simp only [List.map_cons, List.map_nil, scrub_v, scrub_own, liveB, NR_self, Option.isSome_some, Bool.not_true, Bool.false_eq_true, if_false]
/-- What ParseWord answers. -/
def pwP (names s : ByteArray) : List Int × Bool := if (parP names s).2 = -1 then expaP (parP names s).1 else ([], false)
theorem implParseWord_ok (names s : ByteArray) (hns : names.size ≤ 1048576) (hs : s.size ≤ 1048576) (d : Nat) : AC Try.prog 26 [.v (.string (names)), .v (.string (s))] Hp.emp (fun _ => false) (retIB d (pwP names s).1 (pwP names s).2) := by
  have hsm := parP_small names s
  have hE := implExpandNotation_ok (parP names s).1 hsm.1 (fun j => Nat.le_trans (kB_kd hsm.2 j) (by decide)) 40
  refine ac_of_awp (N := ⟨_, fun _ => false, fun _ _ => rfl⟩) Try.func26 rfl (by kernel_rfl) Try.ntmps26 (by simp) ?_
  simp only [argsFr, List.zipIdx_cons, List.zipIdx_nil, go_sem]
  repeat' (first | refine awp_seqK fun K hK => ?_ | (refine awp_regionK 33011 rfl ?_; simp only [List.map_cons, List.map_nil]; simp (maxSteps := 1000000) (dsimp := false) (implicitDefEqProofs := false) (disch := omega) only [wrap64, go_sem, NR_add_scr, NR_add_self, pM_low]) | (refine awp_regionQK 33011 (by kernel_rfl) (by kernel_rfl) (by kernel_rfl) ?_; simp only [List.map_cons, List.map_nil]; simp (maxSteps := 1000000) (dsimp := false) (implicitDefEqProofs := false) (disch := omega) only [wrap64, go_sem, NR_add_scr, NR_add_self, pM_low]) | refine awp_block ?_ | (refine awp_skip ?_; simp only [go_sem, NR_add_scr, NR_add_self, pM_low]) | (refine awp_exit ?_; simp only [go_sem, NR_add_scr, NR_add_self, pM_low]) | (refine awp_ret ?_; try simp only [go_sem, NR_add_scr, NR_add_self, pM_low]) | (refine awp_condP rfl ?_; try simp only [go_sem, NR_add_scr, NR_add_self, pM_low]) | (refine BrP.mk (fun h => ?_) (fun h => ?_) <;> try simp (dsimp := false) (disch := omega) only [wrap64]) | (refine Br.mk (fun h => ?_) (fun h => ?_) <;> try simp (dsimp := false) (disch := omega) only [wrap64]) | refine Ob.mk (by first | omega | (intro _ _; rfl) | trivial | (intros; trivial) | assumption | (intro i hi; have h0 : i = 0 := (by omega); subst h0; first | rfl | trivial) | (intro i hi; have h0 : i = 0 ∨ i = 1 := (by omega); rcases h0 with rfl | rfl <;> rfl) | (intro i hi; have h0 : i = 0 ∨ i = 1 ∨ i = 2 := (by omega); rcases h0 with rfl | rfl | rfl <;> rfl)) ?_ | ((first | ((first | refine atF (f := 23) ?_ | refine atQ (f := 23) ?_); refine callPp rfl (implParseNotation_ok names s hns hs) hsm.1 rfl ?_) | ((first | refine atF (f := 16) ?_ | refine atQ (f := 16) ?_); refine cIB (hfit := .cons (fits_NR (HasNR.base hsm.1)) .nil) (hac := hE) (hK := ?_))); simp (maxSteps := 1000000) (dsimp := false) (implicitDefEqProofs := false) (disch := omega) only [wrap64, go_sem, NR_add_scr, NR_add_self, pM_low]) | apply_assumption -exfalso -symm)
  all_goals (first | (show endQ _ _ _ _ _ _ _; (repeat (rename (∀ (A : Fr) (H : Hp), AWP _ _ _ _ A H → _) => hK; clear hK)); (repeat (rename (Fr → Hp → Prop) => K; clear K))) | (show Exists _; (repeat (rename (∀ (A : Fr) (H : Hp), AWP _ _ _ _ A H → _) => hK; clear hK)); (repeat (rename (Fr → Hp → Prop) => K; clear K))) | skip)
  all_goals
    (first | refine end_retIB' rfl rfl rfl rfl ?_ (by decide) rfl rfl | refine end_retIB_nil' rfl rfl rfl ?_ (by decide) rfl)
    unfold pwP
    first
    | (rw [if_pos (by omega)]; done)
    | (rw [if_neg (by omega)]; done)
theorem specParseWord_ok (names s : ByteArray) (hns : names.size ≤ 1048576) (hs : s.size ≤ 1048576) : AC Try.prog 25 [.v (.string (names)), .v (.string (s))] Hp.emp (fun _ => false) (retV (.tup 2 (vecF [ints (pwP names s).1, .v (.bool ((pwP names s).2))]))) := by
  have hsm := parP_small names s
  have hE := specExpandNotation_ok (parP names s).1 hsm.1 (fun j => Nat.le_trans (kB_kd hsm.2 j) (by decide))
  refine ac_of_awp (N := ⟨_, fun _ => false, fun _ _ => rfl⟩) Try.func25 rfl (by kernel_rfl) Try.ntmps25 (by simp) ?_
  simp only [argsFr, List.zipIdx_cons, List.zipIdx_nil, go_sem]
  repeat' (first | refine awp_seqK fun K hK => ?_ | (refine awp_regionK 33011 rfl ?_; simp only [List.map_cons, List.map_nil]; simp (maxSteps := 1000000) (dsimp := false) (implicitDefEqProofs := false) (disch := omega) only [wrap64, go_sem]) | (refine awp_regionQK 33011 (by kernel_rfl) (by kernel_rfl) (by kernel_rfl) ?_; simp only [List.map_cons, List.map_nil]; simp (maxSteps := 1000000) (dsimp := false) (implicitDefEqProofs := false) (disch := omega) only [wrap64, go_sem]) | refine awp_block ?_ | (refine awp_skip ?_; simp only [go_sem]) | (refine awp_exit ?_; simp only [go_sem]) | (refine awp_ret ?_; try simp only [go_sem]) | (refine awp_condP rfl ?_; try simp only [go_sem]) | (refine BrP.mk (fun h => ?_) (fun h => ?_) <;> try simp (dsimp := false) (disch := omega) only [wrap64]) | (refine Br.mk (fun h => ?_) (fun h => ?_) <;> try simp (dsimp := false) (disch := omega) only [wrap64]) | refine Ob.mk (by first | omega | (intro _ _; rfl) | trivial | (intros; trivial) | assumption | (intro i hi; have h0 : i = 0 := (by omega); subst h0; first | rfl | trivial) | (intro i hi; have h0 : i = 0 ∨ i = 1 := (by omega); rcases h0 with rfl | rfl <;> rfl) | (intro i hi; have h0 : i = 0 ∨ i = 1 ∨ i = 2 := (by omega); rcases h0 with rfl | rfl | rfl <;> rfl)) ?_ | ((first | ((first | refine atF (f := 22) ?_ | refine atQ (f := 22) ?_); refine cR (hac := specParseNotation_ok names s hns hs) (hK := ?_) (hs := by simp only [scrub_tup, scF_vecF, List.map_cons, List.map_nil]; rfl)) | ((first | refine atF (f := 14) ?_ | refine atQ (f := 14) ?_); refine cR (hac := hE) (hK := ?_) (hs := by simp only [scrub_tup, scF_vecF, List.map_cons, List.map_nil]; rfl))); simp (maxSteps := 1000000) (dsimp := false) (implicitDefEqProofs := false) (disch := omega) only [wrap64, go_sem]) | apply_assumption -exfalso -symm)
  all_goals (first | (show endQ _ _ _ _ _ _ _; (repeat (rename (∀ (A : Fr) (H : Hp), AWP _ _ _ _ A H → _) => hK; clear hK)); (repeat (rename (Fr → Hp → Prop) => K; clear K))) | (show Exists _; (repeat (rename (∀ (A : Fr) (H : Hp), AWP _ _ _ _ A H → _) => hK; clear hK)); (repeat (rename (Fr → Hp → Prop) => K; clear K))) | skip)
  · rw [show pwP names s = expaP (parP names s).1 from if_pos (by omega)]
    exact end_tup2 (H' := Hp.emp) rfl (by decide) (Sub.toFF (fun _ => True) (Fr.fit_cons rfl (.refl _) (Fr.fit_cons rfl (.refl _) (Fr.fit_nil _))) leF_emp) ⟨rfl, rfl⟩
  · rw [show pwP names s = ([], false) from if_neg (by omega)]
    exact end_tup2 (H' := Hp.emp) rfl (by decide) (Sub.toFF (fun _ => True) (Fr.fit_cons rfl (fits_I rfl trivial rfl rfl) (Fr.fit_cons rfl (.refl _) (Fr.fit_nil _))) leF_emp) ⟨rfl, rfl⟩
end Go.Proofs.Ytphpegemhnodcaa
end

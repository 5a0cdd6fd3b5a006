import Derived.Test.YtphpegemhnodcaaT116
import Derived.Test.YtphpegemhnodcaaV4
/- The program's reader of notations: the walk of units. -/
namespace Go.Proofs.Ytphpegemhnodcaa
open Go.Av
set_option linter.unusedSimpArgs false
set_option linter.unusedVariables false
attribute [local irreducible] AWP CallG Ob Br BrP Go.Av.Sub endQ AOps OpV AC thenA blkA opsVC opVC withA withArgs opsQ opQ CallQ withA2 withArgs2
open Go.Nt (Nd nd0 kd li liF dig pInv pSuf pItem pSeq Pr Goes nmOk pItem_goes pSeq_goes)
theorem set6_0 (a b c d e f x : AV) : setF (vecF [a, b, c, d, e, f]) 0 x = vecF [x, b, c, d, e, f] := by
  funext i; unfold setF; match i with
  | 0 => rfl
  | 1 => rfl
  | 2 => rfl
  | 3 => rfl
  | 4 => rfl
  | 5 => rfl
  | (k + 6) => rfl
theorem set6_4 (a b c d e f x : AV) : setF (vecF [a, b, c, d, e, f]) 4 x = vecF [a, b, c, d, x, f] := by
  funext i; unfold setF; match i with
  | 0 => rfl
  | 1 => rfl
  | 2 => rfl
  | 3 => rfl
  | 4 => rfl
  | 5 => rfl
  | (k + 6) => rfl
theorem set6_5 (a b c d e f x : AV) : setF (vecF [a, b, c, d, e, f]) 5 x = vecF [a, b, c, d, e, x] := by
  funext i; unfold setF; match i with
  | 0 => rfl
  | 1 => rfl
  | 2 => rfl
  | 3 => rfl
  | 4 => rfl
  | 5 => rfl
  | (k + 6) => rfl
def zNd : Nat → AV := zF [.int .i64 0, .int .i64 0, .int .i64 0, .int .i64 0, .int .i64 0, .slice none 0 0]
/-- What lies in memory while a unit is read: the reader, a row of children, the result's cells, a node's cells. -/
def hU (names s : ByteArray) (q : Nat) (fl : Bool) (l : List Nd) (e : Nat) (ks : List Int) (slot : Nat) (k sp : Int) : Hp := (((RD names s q fl l).upd e (.cells ks.length (cM iv 0 ks))).upd 2 (.cells 6 zNd)).upd slot (.cells 6 (vecF [.v (.int .i64 (k)), .v (.int .i64 (0)), .v (.int .i64 (0)), .v (.int .i64 (0)), .v (.int .i64 (sp)), .own e 0 1 ks.length]))
def rho78 (g : Nat) : Option Nat := if g = 78 then some 1000002 else some g
theorem rho78_ne {g : Nat} (h : g ≠ 78) : rho78 g = some g := if_neg h
theorem rho78_inj {x y k : Nat} (hx : x ≠ 1000002) (hy : y ≠ 1000002) (h1 : rho78 x = some k) (h2 : rho78 y = some k) : x = y := by
  unfold rho78 at h1 h2
  split at h1 <;> split at h2 <;> simp only [Option.some.injEq] at h1 h2 <;> omega
theorem rd_lay2 {names s : ByteArray} {p : Nat} {fl : Bool} {l : List Nd} {H : Hp} (hle : Hp.le (RD names s p fl l) H) : LayF rho78 (RD names s p fl l) H := fun h B hB => by
  have hs : ∀ i, rho78 (sub 1000000 i) = some (sub 1000000 i) := fun i => rho78_ne (by have := sub_ge 1000000 i; rw [FB_eq] at this; omega)
  refine .inl ?_
  have hH := hle h B hB
  unfold RD Hp.upd at hB
  split at hB
  · rename_i e; subst e
    simp only [Option.some.injEq] at hB
    subst hB
    exact ⟨1000001, 5, _, _, rho78_ne (by omega), rfl, hH, all5 (.plain trivial) (.plain trivial) (.plain trivial) (.plain trivial) (.own (rho78_ne (by omega)))⟩
  · rcases NR_cases hB with ⟨rfl, rfl⟩ | ⟨i, hi, rfl, rfl⟩
    · refine ⟨1000000, _, _, _, rho78_ne (by omega), rfl, hH, fun j hj => ?_⟩
      unfold nmF
      simp only [hj, if_true]
      by_cases c2 : j % 6 = 5
      · simp only [c2, if_true]; exact .own (hs _)
      · simp only [c2, if_false]; exact .plain (ndF_plain l j).1
    · exact ⟨_, _, _, _, hs i, rfl, hH, fun j hj => .plain trivial⟩
theorem hU_ne {names s : ByteArray} {q : Nat} {fl : Bool} {l : List Nd} {ks : List Int} {k sp : Int} {h : Nat} (hn : hU names s q fl l 78 ks 6 k sp h ≠ none) : h ≠ 1000002 := by
  rintro rfl
  unfold hU Hp.upd at hn
  rw [if_neg (by decide), if_neg (by decide), if_neg (by decide)] at hn
  exact rd_ne2 hn rfl
section
variable {P : Program} {N : Cx} {A A' : Fr} {H H' : Hp} {names s : ByteArray} {p : Nat} {fl : Bool} {l : List Nd}
/-- The end of a unit: a node lies in the cells of the result, its children in a row of our own. -/
theorem end_um {fn : Func} {t : Tmp} {ty : TypeId} {e m : Nat} {z : List Value} {g : Nat → AV} {x : Nd} {post : AV → Hp → Prop} (hpn : ∀ h, N.pn h = true → h = 1000001) (hr : fn.results.toList = [.cell t ty]) (hA : A.get t = some (.ref 2 0)) (hty : tyOf P ty = some ⟨true, 6, z⟩) (hH : H 2 = some (.cells 6 g)) (hg : ∀ i, i < 6 → g i = nO (.own e 0 1 m) x i)
    (he : H e = some (.cells m (cM iv 0 x.kids))) (hm : m = x.kids.length) (he2 : e ≠ 2) (he1 : e < 1000000 ∨ e = 1000002) (hle : Hp.le (RD names s p fl l) H) (hp : post (.agg 6 (nO (.own 1000002 0 1 x.kids.length) x)) (R2 names s p fl l x.kids)) : endQ P N fn post .ret A H := by
  subst hm
  have hnn : ∀ h, R2 names s p fl l x.kids h ≠ none → h = 1000002 ∨ (h ≠ 1000002 ∧ 1000000 ≤ h) := fun h hx => by
    by_cases h0 : h = 1000002
    · exact .inl h0
    · right
      unfold R2 Hp.upd at hx
      rw [if_neg h0] at hx
      exact ⟨h0, rd_low' hx⟩
  have key : ∀ h, ((R2 names s p fl l x.kids).upd 2 (.cells 6 (nO (.own 1000002 0 1 x.kids.length) x))) h ≠ none → h = 2 ∨ h = 1000002 ∨ (h ≠ 1000002 ∧ 1000000 ≤ h) := fun h hx => by
    unfold Hp.upd at hx
    split at hx
    · exact .inl ‹_›
    · exact .inr (hnn h hx)
  unfold endQ
  refine ⟨[(t, .ref 2 0)], (R2 names s p fl l x.kids).upd 2 (.cells 6 (nO (.own 1000002 0 1 x.kids.length) x)), Sub.layP (rho2 e) (fun h hh => by rw [hpn h hh]; exact rho2_ne (by omega)) (lay_cons ⟨_, hA, .ref (rho2_ne (by omega))⟩ lay_nil) (layF_upd (g := 2) (rho2_ne (by omega)) hH (fun i hi => by
    rw [hg i hi]
    match i, hi with
    | 0, _ => exact .plain trivial
    | 1, _ => exact .plain trivial
    | 2, _ => exact .plain trivial
    | 3, _ => exact .plain trivial
    | 4, _ => exact .plain trivial
    | 5, _ => exact .own (if_pos rfl)) (layF_upd (g := e) (if_pos rfl) he (fun i hi => .plain trivial) (rd_lay (fun g hg => rho2_ne hg) hle))) (fun x y k hx hy e1 e2 => ?_), ?_⟩
  · unfold rho2 at e1 e2
    rcases key x hx with rfl | rfl | ⟨h1, h2⟩ <;> rcases key y hy with rfl | rfl | ⟨h3, h4⟩ <;> (try rfl) <;> (repeat' split at e1) <;> (repeat' split at e2) <;> simp only [Option.some.injEq] at e1 e2 <;> omega
  · rw [hr]
    simp only [resVC, Fr.get, if_true, withA_some, hty, ldVC, Hp.upd, Ob]
    refine ⟨by omega, R2 names s p fl l x.kids, fun y B hB => ?_, ?_⟩
    · unfold Hp.upd
      split
      · rename_i e3; subst e3
        rcases hnn 2 (by rw [hB]; simp) with h0 | ⟨_, h0⟩ <;> omega
      · exact hB
    · have : (fun j => nO (.own 1000002 0 1 x.kids.length) x (0 + j)) = nO (.own 1000002 0 1 x.kids.length) x := by funext j; rw [Nat.zero_add]
      rw [this]; exact hp
def rhoV (g : Nat) : Option Nat := if g = 1000002 then none else some g
theorem end_umN {fn : Func} {t : Tmp} {ty : TypeId} {z : List Value} {g : Nat → AV} {x : Nd} {post : AV → Hp → Prop} (hpn : ∀ h, N.pn h = true → h = 1000001) (hr : fn.results.toList = [.cell t ty]) (hA : A.get t = some (.ref 2 0)) (hty : tyOf P ty = some ⟨true, 6, z⟩) (hH : H 2 = some (.cells 6 g)) (hg : ∀ i, i < 6 → g i = nO (.v (.slice none 0 0)) x i)
    (hx : x.kids = []) (hle : Hp.le (RD names s p fl l) H) (hp : post (.agg 6 (nO (.own 1000002 0 1 x.kids.length) x)) (R2 names s p fl l x.kids)) : endQ P N fn post .ret A H := by
  have hnn : ∀ h, R2 names s p fl l x.kids h ≠ none → h = 1000002 ∨ (h ≠ 1000002 ∧ 1000000 ≤ h) := fun h hx => by
    by_cases h0 : h = 1000002
    · exact .inl h0
    · right
      unfold R2 Hp.upd at hx
      rw [if_neg h0] at hx
      exact ⟨h0, rd_low' hx⟩
  have ρne : ∀ g, g ≠ 1000002 → rhoV g = some g := fun g hg => if_neg hg
  unfold endQ
  refine ⟨[(t, .ref 2 0)], (R2 names s p fl l x.kids).upd 2 (.cells 6 (nO (.own 1000002 0 1 x.kids.length) x)), Sub.layP rhoV (fun h hh => by rw [hpn h hh]; exact ρne _ (by omega)) (lay_cons ⟨_, hA, .ref (ρne _ (by omega))⟩ lay_nil) (layF_upd (g := 2) (ρne _ (by omega)) hH (fun i hi => by
    rw [hg i hi]
    match i, hi with
    | 0, _ => exact .plain trivial
    | 1, _ => exact .plain trivial
    | 2, _ => exact .plain trivial
    | 3, _ => exact .plain trivial
    | 4, _ => exact .plain trivial
    | 5, _ => show Lay rhoV (.v (.slice none 0 0)) (.own 1000002 0 1 x.kids.length); rw [hx]; exact .nil (if_pos rfl)) (by unfold R2; rw [hx]; exact layF_nil (if_pos rfl) (rd_lay (fun g hg => ρne g hg) hle))) (fun x y k hx hy e1 e2 => ?_), ?_⟩
  · unfold rhoV at e1 e2
    split at e1 <;> split at e2 <;> simp only [Option.some.injEq, reduceCtorEq] at e1 e2
    omega
  · rw [hr]
    simp only [resVC, Fr.get, if_true, withA_some, hty, ldVC, Hp.upd, Ob]
    refine ⟨by omega, R2 names s p fl l x.kids, fun y B hB => ?_, ?_⟩
    · unfold Hp.upd
      split
      · rename_i e3; subst e3
        rcases hnn 2 (by rw [hB]; simp) with h0 | ⟨_, h0⟩ <;> omega
      · exact hB
    · have : (fun j => nO (.own 1000002 0 1 x.kids.length) x (0 + j)) = nO (.own 1000002 0 1 x.kids.length) x := by funext j; rw [Nat.zero_add]
      rw [this]; exact hp
theorem pUn_no {f : Nat} (h1 : ¬ 0 ≤ liI names (Go.Nt.bt s p)) (h2 : ¬ Go.Nt.bt s p = 40) (h3 : ¬ Go.Nt.bt s p = 91) : pUn names s f p l = .bad p := by
  unfold pUn; rw [if_neg h1, if_neg h2, if_neg h3]
theorem pUn_mv {f : Nat} (h1 : 0 ≤ liI names (Go.Nt.bt s p)) : pUn names s f p l = .ok (p + 1) l ⟨1, liI names (Go.Nt.bt s p), 0, 0, 0, []⟩ := by
  unfold pUn; rw [if_pos h1]
theorem pUn_s0 {f w : Nat} (h1 : ¬ 0 ≤ liI names (Go.Nt.bt s p)) (h2 : Go.Nt.bt s p = 40) (e1 : pSeq names s f (p + 1) l [] = .bad w) : pUn names s f p l = .bad w := by
  unfold pUn; rw [if_neg h1, if_pos h2, e1]
theorem pUn_s1 {f q : Nat} {l1 : List Nd} {ks : List Int} (h1 : ¬ 0 ≤ liI names (Go.Nt.bt s p)) (h2 : Go.Nt.bt s p = 40) (e1 : pSeq names s f (p + 1) l [] = .ok q l1 ks) (h3 : Go.Nt.bt s q = 41) : pUn names s f p l = .ok (q + 1) l1 ⟨2, 0, 0, 0, 0, ks⟩ := by
  unfold pUn; rw [if_neg h1, if_pos h2, e1]; dsimp only; rw [if_pos h3]
theorem pUn_s2 {f q : Nat} {l1 : List Nd} {ks : List Int} (h1 : ¬ 0 ≤ liI names (Go.Nt.bt s p)) (h2 : Go.Nt.bt s p = 40) (e1 : pSeq names s f (p + 1) l [] = .ok q l1 ks) (h3 : ¬ Go.Nt.bt s q = 41) : pUn names s f p l = .bad q := by
  unfold pUn; rw [if_neg h1, if_pos h2, e1]; dsimp only; rw [if_neg h3]
theorem pUn_br {f : Nat} (h1 : ¬ 0 ≤ liI names (Go.Nt.bt s p)) (h2 : Go.Nt.bt s p = 91) : pUn names s f p l = pBu names s f (p + 1) l := by
  unfold pUn; rw [if_neg h1, if_neg (by omega), if_pos h2]
theorem pBu_0 {f w : Nat} (e1 : pSeq names s f p l [] = .bad w) : pBu names s f p l = .bad w := by
  unfold pBu; rw [e1]
theorem pBu_1 {f q : Nat} {l1 : List Nd} {ks : List Int} (e1 : pSeq names s f p l [] = .ok q l1 ks) (h3 : ¬ (Go.Nt.bt s q = 58 ∨ Go.Nt.bt s q = 44)) : pBu names s f p l = .bad q := by
  unfold pBu; rw [e1]; dsimp only; rw [if_neg h3]
theorem pBu_2 {f q w : Nat} {l1 : List Nd} {ks : List Int} (e1 : pSeq names s f p l [] = .ok q l1 ks) (h3 : Go.Nt.bt s q = 58 ∨ Go.Nt.bt s q = 44) (e2 : pSeq names s f (q + 1) l1 [] = .bad w) : pBu names s f p l = .bad w := by
  unfold pBu; rw [e1]; dsimp only; rw [if_pos h3, e2]
theorem pBu_3 {f q q2 : Nat} {l1 l2 : List Nd} {ks k2 : List Int} (e1 : pSeq names s f p l [] = .ok q l1 ks) (h3 : Go.Nt.bt s q = 58 ∨ Go.Nt.bt s q = 44) (e2 : pSeq names s f (q + 1) l1 [] = .ok q2 l2 k2) (h4 : ¬ Go.Nt.bt s q2 = 93) : pBu names s f p l = .bad q2 := by
  unfold pBu; rw [e1]; dsimp only; rw [if_pos h3, e2]; dsimp only; rw [if_neg h4]
theorem pBu_4 {f q q2 : Nat} {l1 l2 : List Nd} {ks k2 : List Int} (e1 : pSeq names s f p l [] = .ok q l1 ks) (h3 : Go.Nt.bt s q = 58) (e2 : pSeq names s f (q + 1) l1 [] = .ok q2 l2 k2) (h4 : Go.Nt.bt s q2 = 93) : pBu names s f p l = .ok (q2 + 1) l2 ⟨4, 0, 0, 0, (ks.length : Int), ks ++ k2⟩ := by
  unfold pBu; rw [e1]; dsimp only; rw [if_pos (.inl h3), e2]; dsimp only; rw [if_pos h4, if_pos h3]
theorem pBu_5 {f q q2 : Nat} {l1 l2 : List Nd} {ks k2 : List Int} (e1 : pSeq names s f p l [] = .ok q l1 ks) (h3 : Go.Nt.bt s q = 44) (e2 : pSeq names s f (q + 1) l1 [] = .ok q2 l2 k2) (h4 : Go.Nt.bt s q2 = 93) : pBu names s f p l = .ok (q2 + 1) l2 ⟨3, 0, 0, 0, (ks.length : Int), ks ++ k2⟩ := by
  unfold pBu; rw [e1]; dsimp only; rw [if_pos (.inr h3), e2]; dsimp only; rw [if_pos h4, if_neg (by omega)]
/-- Calls of the sequence in a chain. -/
theorem callSP {f : FuncId} {args : List AV} {R : Pr (List Int)} {K : AV → (Nat → Bool) → Hp → Prop} (hs : s.size ≤ 400) (hn : l.length ≤ 1000) (hR : ∀ q l' u, R = .ok q l' u → l'.length ≤ 1048576) (hH : Hp.le (RD names s p fl l) H) (hac : AC P f args (RD names s p fl l) (· == 1000001) (postSm names s p l R)) (hpn : ∀ h, N.pn h = true → h = 1000001)
    (h1 : ∀ w fl' l' ks, R = .bad w → Junk s p w fl' l.length l'.length → ks.length ≤ w - p + 1 → K (.own 1000002 0 1 ks.length) pR ((R2 names s w fl' l' ks).add (H.scrub pR).lo))
    (h2 : ∀ q l' ks, R = .ok q l' ks → K (.own 1000002 0 1 ks.length) pR ((R2 names s q false l' ks).add (H.scrub pR).lo)) : CallPP P N f args H K :=
  ⟨pR, fun _ => callSm hs hn hR hH hac hpn (fun w fl' l' ks e j k => ⟨rfl, h1 w fl' l' ks e j k⟩) (fun q l' ks e => ⟨rfl, h2 q l' ks e⟩)⟩
theorem callSF {f : FuncId} {args : List AV} {K : AV → (Nat → Bool) → Hp → Prop} (hn : l.length ≤ 1048576) (hH : Hp.le (RD names s p fl l) H) (hac : AC P f args (RD names s p fl l) (· == 1000001) (fun r H => r = .own 1000002 0 1 ([0] : List Int).length ∧ H = R2 names s p fl l [0])) (hpn : ∀ h, N.pn h = true → h = 1000001)
    (h1 : K (.own 1000002 0 1 ([0] : List Int).length) pR ((R2 names s p fl l [0]).add (H.scrub pR).lo)) : CallPP P N f args H K :=
  ⟨pR, fun _ => callRr hH hac hpn fun r H' hp => by
    obtain ⟨rfl, rfl⟩ := hp
    exact ⟨fun h hn => R2_names hn, by rw [scrub_own]; rfl, R2_live hn, rfl, h1⟩⟩
end
set_option maxHeartbeats 4000000 in
theorem um_step {names s : ByteArray} (hn : nmOk names) (hs : s.size ≤ 400) {f : Nat} (hS : SmOk names s f) : UmOk names s f := by
  intro p l hp hl hf
  have ht := bt_in s p
  have hx0 : nxB s p false = Go.Nt.bt s p := rfl
  have hx0' : liI names (nxB s p false) = liI names (Go.Nt.bt s p) := rfl
  have hz : 0 < Go.Nt.bt s p ∨ liI names (Go.Nt.bt s p) < 0 := by
    by_cases h : 0 ≤ liI names (Go.Nt.bt s p)
    · obtain ⟨m, e1, _⟩ := liI_some h
      exact .inl (by have := (Go.Nt.li_byte hn e1).2; omega)
    · exact .inr (by omega)
  refine ac_of_awp (N := ⟨_, (· == 1000001), fun h hh => beq_eq_false_iff_ne.2 (Nat.ne_of_lt (Nat.lt_of_lt_of_le hh (by decide)))⟩) Try.func226 rfl (by kernel_rfl) Try.ntmps226 (by simp) ?_
  simp only [argsFr, List.zipIdx_cons, List.zipIdx_nil, go_sem]
  repeat' (first | (show False; omega) | (refine Ob.mk (all6 rfl rfl rfl rfl rfl rfl) ?_) | (refine awp_cutR 8 5 (A' := [(2, .ref 2 0), (5, .ref 5 0), (0, .ref 1000001 0)]) (H' := hU names s w fl l1 1000002 ks 5 2 0) (Sub.layP (fun g => some g) (fun h hh => rfl) (lay_cons ⟨_, rfl, .ref rfl⟩ (lay_cons ⟨_, rfl, .ref rfl⟩ (lay_cons ⟨_, rfl, .ref rfl⟩ lay_nil))) (layF_upd (g := 5) rfl rfl (all6 (.plain trivial) (.plain trivial) (.plain trivial) (.plain trivial) (.plain trivial) (.own rfl)) (layF_upd (g := 2) rfl rfl (fun i hi => .plain trivial) (layF_upd (g := 1000002) rfl rfl (fun i hi => .plain trivial) (rd_lay (fun g _ => rfl) (le_rd rfl (by repeat' (first | exact HasNR.bare (by omega) | refine HasNR.updB (by decide) (by decide) ?_))))))) (fun x y k hx hy e1 e2 => Option.some.inj (e1.trans e2.symm))) ?_; unfold hU zNd) | (refine awp_cutR 8 5 (A' := [(2, .ref 2 0), (5, .ref 5 0), (0, .ref 1000001 0)]) (H' := hU names s q false l1 1000002 ks 5 2 0) (Sub.layP (fun g => some g) (fun h hh => rfl) (lay_cons ⟨_, rfl, .ref rfl⟩ (lay_cons ⟨_, rfl, .ref rfl⟩ (lay_cons ⟨_, rfl, .ref rfl⟩ lay_nil))) (layF_upd (g := 5) rfl rfl (all6 (.plain trivial) (.plain trivial) (.plain trivial) (.plain trivial) (.plain trivial) (.own rfl)) (layF_upd (g := 2) rfl rfl (fun i hi => .plain trivial) (layF_upd (g := 1000002) rfl rfl (fun i hi => .plain trivial) (rd_lay (fun g _ => rfl) (le_rd rfl (by repeat' (first | exact HasNR.bare (by omega) | refine HasNR.updB (by decide) (by decide) ?_))))))) (fun x y k hx hy e1 e2 => Option.some.inj (e1.trans e2.symm))) ?_; unfold hU zNd) | (refine awp_cutR 12 6 (A' := [(2, .ref 2 0), (6, .ref 6 0), (0, .ref 1000001 0)]) (H' := hU names s w fl l1 1000002 ks 6 3 0) (Sub.layP (fun g => some g) (fun h hh => rfl) (lay_cons ⟨_, rfl, .ref rfl⟩ (lay_cons ⟨_, rfl, .ref rfl⟩ (lay_cons ⟨_, rfl, .ref rfl⟩ lay_nil))) (layF_upd (g := 6) rfl rfl (all6 (.plain trivial) (.plain trivial) (.plain trivial) (.plain trivial) (.plain trivial) (.own rfl)) (layF_upd (g := 2) rfl rfl (fun i hi => .plain trivial) (layF_upd (g := 1000002) rfl rfl (fun i hi => .plain trivial) (rd_lay (fun g _ => rfl) (le_rd rfl (by repeat' (first | exact HasNR.bare (by omega) | refine HasNR.updB (by decide) (by decide) ?_))))))) (fun x y k hx hy e1 e2 => Option.some.inj (e1.trans e2.symm))) ?_; unfold hU zNd) | (refine awp_cutR 12 6 (A' := [(2, .ref 2 0), (6, .ref 6 0), (0, .ref 1000001 0)]) (H' := hU names s q false l1 1000002 ks 6 3 0) (Sub.layP (fun g => some g) (fun h hh => rfl) (lay_cons ⟨_, rfl, .ref rfl⟩ (lay_cons ⟨_, rfl, .ref rfl⟩ (lay_cons ⟨_, rfl, .ref rfl⟩ lay_nil))) (layF_upd (g := 6) rfl rfl (all6 (.plain trivial) (.plain trivial) (.plain trivial) (.plain trivial) (.plain trivial) (.own rfl)) (layF_upd (g := 2) rfl rfl (fun i hi => .plain trivial) (layF_upd (g := 1000002) rfl rfl (fun i hi => .plain trivial) (rd_lay (fun g _ => rfl) (le_rd rfl (by repeat' (first | exact HasNR.bare (by omega) | refine HasNR.updB (by decide) (by decide) ?_))))))) (fun x y k hx hy e1 e2 => Option.some.inj (e1.trans e2.symm))) ?_; unfold hU zNd) | (refine awp_cutR 16 51 (A' := [(2, .ref 2 0), (6, .ref 6 0), (0, .ref 1000001 0)]) (H' := hU names s (q + 1) false l1 78 ks 6 3 ks.length) (Sub.layP rho78 (fun h hh => by rw [beq_iff_eq.1 hh]; rfl) (lay_cons ⟨_, rfl, .ref rfl⟩ (lay_cons ⟨_, rfl, .ref rfl⟩ (lay_cons ⟨_, rfl, .ref rfl⟩ lay_nil))) (layF_upd (g := 6) rfl rfl (all6 (.plain trivial) (.plain trivial) (.plain trivial) (.plain trivial) (.plain trivial) (.own rfl)) (layF_upd (g := 2) rfl rfl (fun i hi => .plain trivial) (layF_upd (g := 1000002) rfl rfl (fun i hi => .plain trivial) (rd_lay2 (le_rd rfl (by repeat' (first | exact HasNR.bare (by omega) | refine HasNR.updB (by decide) (by decide) ?_))))))) (fun x y k hx hy e1 e2 => rho78_inj (hU_ne hx) (hU_ne hy) e1 e2)) ?_; unfold hU zNd) | (refine awp_cutR 16 51 (A' := [(2, .ref 2 0), (6, .ref 6 0), (0, .ref 1000001 0)]) (H' := hU names s (q + 1) false l1 78 ks 6 4 ks.length) (Sub.layP rho78 (fun h hh => by rw [beq_iff_eq.1 hh]; rfl) (lay_cons ⟨_, rfl, .ref rfl⟩ (lay_cons ⟨_, rfl, .ref rfl⟩ (lay_cons ⟨_, rfl, .ref rfl⟩ lay_nil))) (layF_upd (g := 6) rfl rfl (all6 (.plain trivial) (.plain trivial) (.plain trivial) (.plain trivial) (.plain trivial) (.own rfl)) (layF_upd (g := 2) rfl rfl (fun i hi => .plain trivial) (layF_upd (g := 1000002) rfl rfl (fun i hi => .plain trivial) (rd_lay2 (le_rd rfl (by repeat' (first | exact HasNR.bare (by omega) | refine HasNR.updB (by decide) (by decide) ?_))))))) (fun x y k hx hy e1 e2 => rho78_inj (hU_ne hx) (hU_ne hy) e1 e2)) ?_; unfold hU zNd) | (refine awp_cutR 16 51 (A' := [(2, .ref 2 0), (6, .ref 6 0), (0, .ref 1000001 0)]) (H' := hU names s q true l1 78 ks 6 4 ks.length) (Sub.layP rho78 (fun h hh => by rw [beq_iff_eq.1 hh]; rfl) (lay_cons ⟨_, rfl, .ref rfl⟩ (lay_cons ⟨_, rfl, .ref rfl⟩ (lay_cons ⟨_, rfl, .ref rfl⟩ lay_nil))) (layF_upd (g := 6) rfl rfl (all6 (.plain trivial) (.plain trivial) (.plain trivial) (.plain trivial) (.plain trivial) (.own rfl)) (layF_upd (g := 2) rfl rfl (fun i hi => .plain trivial) (layF_upd (g := 1000002) rfl rfl (fun i hi => .plain trivial) (rd_lay2 (le_rd rfl (by repeat' (first | exact HasNR.bare (by omega) | refine HasNR.updB (by decide) (by decide) ?_))))))) (fun x y k hx hy e1 e2 => rho78_inj (hU_ne hx) (hU_ne hy) e1 e2)) ?_; unfold hU zNd) | (refine awp_cutR 16 51 (A' := [(2, .ref 2 0), (6, .ref 6 0), (0, .ref 1000001 0)]) (H' := hU names s w true l1 78 ks 6 4 ks.length) (Sub.layP rho78 (fun h hh => by rw [beq_iff_eq.1 hh]; rfl) (lay_cons ⟨_, rfl, .ref rfl⟩ (lay_cons ⟨_, rfl, .ref rfl⟩ (lay_cons ⟨_, rfl, .ref rfl⟩ lay_nil))) (layF_upd (g := 6) rfl rfl (all6 (.plain trivial) (.plain trivial) (.plain trivial) (.plain trivial) (.plain trivial) (.own rfl)) (layF_upd (g := 2) rfl rfl (fun i hi => .plain trivial) (layF_upd (g := 1000002) rfl rfl (fun i hi => .plain trivial) (rd_lay2 (le_rd rfl (by repeat' (first | exact HasNR.bare (by omega) | refine HasNR.updB (by decide) (by decide) ?_))))))) (fun x y k hx hy e1 e2 => rho78_inj (hU_ne hx) (hU_ne hy) e1 e2)) ?_; unfold hU zNd) | ((first | refine atF (f := 183) ?_ | refine atQ (f := 183) ?_); (first | refine callTk 40 (by omega) (le_rd rfl (by repeat' (first | exact HasNR.bare (by omega) | refine HasNR.updB (by decide) (by decide) ?_))) (take_ok names s p 40 false l (by omega) hs (by omega) (by omega)) (fun hx40 => ?_) (fun hxn40 => ?_) | refine callTk 91 (by omega) (le_rd rfl (by repeat' (first | exact HasNR.bare (by omega) | refine HasNR.updB (by decide) (by decide) ?_))) (take_ok names s p 91 false l (by omega) hs (by omega) (by omega)) (fun hx91 => ?_) (fun hxn91 => ?_) | refine callTk 44 (by omega) (le_rd rfl (by repeat' (first | exact HasNR.bare (by omega) | refine HasNR.updB (by decide) (by decide) ?_))) (take_ok names s q 44 false l1 (by omega) hs (by omega) (by omega)) (fun hx44 => ?_) (fun hxn44 => ?_) | refine callTn 44 (nx_bad hj1.st (by decide) (by decide)) (by omega) (le_rd rfl (by repeat' (first | exact HasNR.bare (by omega) | refine HasNR.updB (by decide) (by decide) ?_))) (take_ok names s w 44 fl l1 (by omega) hs (by omega) (by omega)) ?_) <;> simp (maxSteps := 1000000) (dsimp := false) (implicitDefEqProofs := false) (disch := omega) only [wrap64, go_sem, pR_low, pR_1, pR_0, pR_2, NR_slo, NR_slo', lo_upd, lo_high, lo_emp, RD_add, R2_add, add_emp, NR_scr, NR_scr0, set5_2, set5_3', set6_0, set6_4, set6_5, Nat.le_refl]) | (refine atP (f := 97) ?_; (first | refine callSP (p := q + 1) (l := l1) hs (by omega) (fun q l' u e => by have := sq_g hn (by omega) (by omega) e; omega) (le_rd rfl (by repeat' (first | exact HasNR.bare (by omega) | refine HasNR.updB (by decide) (by decide) ?_))) (hS (q + 1) l1 (by omega) (by omega) (by omega)) (fun h hh => beq_iff_eq.1 hh) (fun w2 fl2 l2 k2 e2 hj2 hk2 => have hb3 := hj2.le; have hb4 := hj2.len; ?_) (fun q2 l2 k2 e2 => have hb3 := sq_g hn (by omega) (by omega) e2; have hks2 := sq_ks0 hn (by omega) (by omega) e2; have ht2 := bt_in s q2; have hx2 : nxB s q2 false = Go.Nt.bt s q2 := rfl; ?_) | refine callSF (fl := true) (p := q) (l := l1) (by omega) (le_rd rfl (by repeat' (first | exact HasNR.bare (by omega) | refine HasNR.updB (by decide) (by decide) ?_))) (seqF_ok names s q l1 (by omega) hs (by omega)) (fun h hh => beq_iff_eq.1 hh) ?_ | refine callSF (fl := true) (p := w) (l := l1) (by omega) (le_rd rfl (by repeat' (first | exact HasNR.bare (by omega) | refine HasNR.updB (by decide) (by decide) ?_))) (seqF_ok names s w l1 (by omega) hs (by omega)) (fun h hh => beq_iff_eq.1 hh) ?_) <;> simp (maxSteps := 1000000) (dsimp := false) (implicitDefEqProofs := false) (disch := omega) only [wrap64, go_sem, pR_low, pR_1, pR_0, pR_2, NR_slo, NR_slo', lo_upd, lo_high, lo_emp, RD_add, R2_add, add_emp, NR_scr, NR_scr0, set5_2, set5_3', set6_0, set6_4, set6_5, Nat.le_refl]) | ((first | refine atF (f := 97) ?_ | refine atQ (f := 97) ?_); (refine callSm (p := p + 1) (l := l) hs (by omega) (fun q l' u e => by have := sq_g hn (by omega) (by omega) e; omega) (le_rd rfl (by repeat' (first | exact HasNR.bare (by omega) | refine HasNR.updB (by decide) (by decide) ?_))) (hS (p + 1) l (by omega) (by omega) (by omega)) (fun h hh => beq_iff_eq.1 hh) (fun w fl l1 ks e1 hj1 hk => have hb1 := hj1.le; have hb2 := hj1.len; ?_) (fun q l1 ks e1 => have hb1 := sq_g hn (by omega) (by omega) e1; have hks1 := sq_ks0 hn (by omega) (by omega) e1; have ht1 := bt_in s q; have hx1 : nxB s q false = Go.Nt.bt s q := rfl; ?_)) <;> simp (maxSteps := 1000000) (dsimp := false) (implicitDefEqProofs := false) (disch := omega) only [wrap64, go_sem, pR_low, pR_1, pR_0, pR_2, NR_slo, NR_slo', lo_upd, lo_high, lo_emp, RD_add, R2_add, add_emp, NR_scr, NR_scr0, set5_2, set5_3', set6_0, set6_4, set6_5, Nat.le_refl]) | ((first | refine atF (f := 250) ?_ | refine atQ (f := 250) ?_); (first | refine callEp 93 (by omega) (le_rd rfl (by repeat' (first | exact HasNR.bare (by omega) | refine HasNR.updB (by decide) (by decide) ?_))) (expect_ok names s q2 93 false l2 (by omega) hs (by omega) (by omega)) (fun hx93 => ?_) (fun hxn93 => ?_) | refine callEn 93 (fl := fl2) (p := w2) (nx_bad hj2.st (by decide) (by decide)) (by omega) (le_rd rfl (by repeat' (first | exact HasNR.bare (by omega) | refine HasNR.updB (by decide) (by decide) ?_))) (expect_ok names s w2 93 fl2 l2 (by omega) hs (by omega) (by omega)) ?_ | refine callEn 93 (fl := true) (p := q) (nx_bad (.inl rfl) (by decide) (by decide)) (by omega) (le_rd rfl (by repeat' (first | exact HasNR.bare (by omega) | refine HasNR.updB (by decide) (by decide) ?_))) (expect_ok names s q 93 true l1 (by omega) hs (by omega) (by omega)) ?_ | refine callEn 93 (fl := true) (p := w) (nx_bad (.inl rfl) (by decide) (by decide)) (by omega) (le_rd rfl (by repeat' (first | exact HasNR.bare (by omega) | refine HasNR.updB (by decide) (by decide) ?_))) (expect_ok names s w 93 true l1 (by omega) hs (by omega) (by omega)) ?_ | refine callEn 41 (fl := fl) (p := w) (nx_bad hj1.st (by decide) (by decide)) (by omega) (le_rd rfl (by repeat' (first | exact HasNR.bare (by omega) | refine HasNR.updB (by decide) (by decide) ?_))) (expect_ok names s w 41 fl l1 (by omega) hs (by omega) (by omega)) ?_ | refine callEp 41 (by omega) (le_rd rfl (by repeat' (first | exact HasNR.bare (by omega) | refine HasNR.updB (by decide) (by decide) ?_))) (expect_ok names s q 41 false l1 (by omega) hs (by omega) (by omega)) (fun hx41 => ?_) (fun hxn41 => ?_) | refine callEn 58 (fl := fl) (p := w) (nx_bad hj1.st (by decide) (by decide)) (by omega) (le_rd rfl (by repeat' (first | exact HasNR.bare (by omega) | refine HasNR.updB (by decide) (by decide) ?_))) (expect_ok names s w 58 fl l1 (by omega) hs (by omega) (by omega)) ?_ | refine callEp 58 (by omega) (le_rd rfl (by repeat' (first | exact HasNR.bare (by omega) | refine HasNR.updB (by decide) (by decide) ?_))) (expect_ok names s q 58 false l1 (by omega) hs (by omega) (by omega)) (fun hx58 => ?_) (fun hxn58 => ?_)) <;> simp (maxSteps := 1000000) (dsimp := false) (implicitDefEqProofs := false) (disch := omega) only [wrap64, go_sem, pR_low, pR_1, pR_0, pR_2, NR_slo, NR_slo', lo_upd, lo_high, lo_emp, RD_add, R2_add, add_emp, NR_scr, NR_scr0, set5_2, set5_3', set6_0, set6_4, set6_5, Nat.le_refl]) | (refine awp_regionSK (id := 16) 2252350644289661 [0,1,2] [3,4,5,6] [55,56,57,6,0] [0,2] [55,57,6,0] 1 (have _ := hx44; (Hp.emp.upd 6 (.cells 6 (vecF [.v (.int .i64 (3)), .v (.int .i64 (0)), .v (.int .i64 (0)), .v (.int .i64 (0)), .v (.int .i64 (ks.length)), .own 78 0 1 ks.length])))) (by kernel_rfl) (by kernel_rfl) (by kernel_rfl) ?_; simp only [List.map_cons, List.map_nil, List.take_succ_cons, List.take_zero, List.drop_succ_cons, List.drop_zero, List.cons_append, List.nil_append, opsS, pickL, linkS_nil, linkS_0, linkS_1, gx2VC, gxVC, upd_add, emp_add]; simp (maxSteps := 1000000) (dsimp := false) (implicitDefEqProofs := false) (disch := omega) only [upd_add, emp_add, wrap64, go_sem, pR_low, pR_1, pR_0, pR_2, NR_slo, NR_slo', lo_upd, lo_high, lo_emp, RD_add, R2_add, add_emp, NR_scr, NR_scr0, set5_2, set5_3', set6_0, set6_4, set6_5, Nat.le_refl]) | refine Ob.mk (AllH.mk fun _ => ?_) ?_ | exact True.intro | refine obLe ?_ ?_ | exact Hp.le_emp _ | refine Hp.le_upd rfl ?_ | (refine awp_regionSK (id := 16) 2252350644289661 [0,1,2] [3,4,5,6] [55,56,57,6,0] [0,2] [55,57,6,0] 1 ((Hp.emp.upd 6 (.cells 6 (vecF [.v (.int .i64 (4)), .v (.int .i64 (0)), .v (.int .i64 (0)), .v (.int .i64 (0)), .v (.int .i64 (ks.length)), .own 78 0 1 ks.length])))) (by kernel_rfl) (by kernel_rfl) (by kernel_rfl) ?_; simp only [List.map_cons, List.map_nil, List.take_succ_cons, List.take_zero, List.drop_succ_cons, List.drop_zero, List.cons_append, List.nil_append, opsS, pickL, linkS_nil, linkS_0, linkS_1, gx2VC, gxVC, upd_add, emp_add]; simp (maxSteps := 1000000) (dsimp := false) (implicitDefEqProofs := false) (disch := omega) only [upd_add, emp_add, wrap64, go_sem, pR_low, pR_1, pR_0, pR_2, NR_slo, NR_slo', lo_upd, lo_high, lo_emp, RD_add, R2_add, add_emp, NR_scr, NR_scr0, set5_2, set5_3', set6_0, set6_4, set6_5, Nat.le_refl]) | refine Ob.mk (AllH.mk fun _ => ?_) ?_ | exact True.intro | refine obLe ?_ ?_ | exact Hp.le_emp _ | refine Hp.le_upd rfl ?_ | refine awp_seqK fun K hK => ?_ | (refine awp_regionK 2252350644289661 rfl ?_; simp only [List.map_cons, List.map_nil]; simp (maxSteps := 1000000) (dsimp := false) (implicitDefEqProofs := false) (disch := omega) only [wrap64, go_sem, pR_low, pR_1, pR_0, pR_2, NR_slo, NR_slo', lo_upd, lo_high, lo_emp, RD_add, R2_add, add_emp, NR_scr, NR_scr0, set5_2, set5_3', set6_0, set6_4, set6_5, Nat.le_refl]) | (refine awp_regionQK 2252350644289661 (by kernel_rfl) (by kernel_rfl) (by kernel_rfl) ?_; simp only [List.map_cons, List.map_nil]; simp (maxSteps := 1000000) (dsimp := false) (implicitDefEqProofs := false) (disch := omega) only [wrap64, go_sem, pR_low, pR_1, pR_0, pR_2, NR_slo, NR_slo', lo_upd, lo_high, lo_emp, RD_add, R2_add, add_emp, NR_scr, NR_scr0, set5_2, set5_3', set6_0, set6_4, set6_5, Nat.le_refl]) | refine awp_block ?_ | (refine awp_skip ?_; simp only [go_sem, pR_low, pR_1, pR_0, pR_2, NR_slo, NR_slo', lo_upd, lo_high, lo_emp, RD_add, R2_add, add_emp, NR_scr, NR_scr0, set5_2, set5_3', set6_0, set6_4, set6_5, Nat.le_refl]) | (refine awp_exit ?_; simp only [go_sem, pR_low, pR_1, pR_0, pR_2, NR_slo, NR_slo', lo_upd, lo_high, lo_emp, RD_add, R2_add, add_emp, NR_scr, NR_scr0, set5_2, set5_3', set6_0, set6_4, set6_5, Nat.le_refl]) | (refine awp_ret ?_; try simp only [go_sem, pR_low, pR_1, pR_0, pR_2, NR_slo, NR_slo', lo_upd, lo_high, lo_emp, RD_add, R2_add, add_emp, NR_scr, NR_scr0, set5_2, set5_3', set6_0, set6_4, set6_5, Nat.le_refl]) | (refine awp_condP rfl ?_; try simp only [go_sem, pR_low, pR_1, pR_0, pR_2, NR_slo, NR_slo', lo_upd, lo_high, lo_emp, RD_add, R2_add, add_emp, NR_scr, NR_scr0, set5_2, set5_3', set6_0, set6_4, set6_5, Nat.le_refl]) | (refine BrP.mk (fun h => ?_) (fun h => ?_) <;> try simp (dsimp := false) (disch := omega) only [wrap64]) | (refine Br.mk (fun h => ?_) (fun h => ?_) <;> try simp (dsimp := false) (disch := omega) only [wrap64]) | refine Ob.mk (by first | omega | (intro _ _; rfl) | trivial | (intros; trivial) | assumption | (intro i hi; have h0 : i = 0 := (by omega); subst h0; first | rfl | trivial) | (intro i hi; have h0 : i = 0 ∨ i = 1 := (by omega); rcases h0 with rfl | rfl <;> rfl) | (intro i hi; have h0 : i = 0 ∨ i = 1 ∨ i = 2 := (by omega); rcases h0 with rfl | rfl | rfl <;> rfl)) ?_ | ((first | ((first | refine atF (f := 228) ?_ | refine atQ (f := 228) ?_); refine callRv (by omega) (le_rd rfl (by repeat' (first | exact HasNR.bare (by omega) | refine HasNR.updB (by decide) (by decide) ?_))) (next_ok names s p false l hp hs (by omega)) ?_) | ((first | refine atF (f := 249) ?_ | refine atQ (f := 249) ?_); (first | (refine cV (hac := indexByte_ok names (nxB s p false) ht.2) (hK := ?_)) | (refine cQV (hac := indexByte_ok names (nxB s p false) ht.2) (hK := ?_)))) | ((first | refine atF (f := 116) ?_ | refine atQ (f := 116) ?_); (first | (refine cV (hac := length_ok ks) (hK := ?_)) | (refine cQV (hac := length_ok ks) (hK := ?_))))); simp (maxSteps := 1000000) (dsimp := false) (implicitDefEqProofs := false) (disch := omega) only [wrap64, go_sem, pR_low, pR_1, pR_0, pR_2, NR_slo, NR_slo', lo_upd, lo_high, lo_emp, RD_add, R2_add, add_emp, NR_scr, NR_scr0, set5_2, set5_3', set6_0, set6_4, set6_5, Nat.le_refl]) | apply_assumption -exfalso -symm)
  all_goals (first | (show endQ _ _ _ _ _ _ _; (repeat (rename (∀ (A : Fr) (H : Hp), AWP _ _ _ _ A H → _) => hK; clear hK)); (repeat (rename (Fr → Hp → Prop) => K; clear K))) | (show Exists _; (repeat (rename (∀ (A : Fr) (H : Hp), AWP _ _ _ _ A H → _) => hK; clear hK)); (repeat (rename (Fr → Hp → Prop) => K; clear K))) | skip)
  all_goals first
  | (rw [pUn_no (by omega) (by omega) (by omega)]; exact end_umN (x := ⟨0, 0, 0, 0, 0, []⟩) (l := l) (p := p) (fl := true) (fun h hh => beq_iff_eq.1 hh) rfl rfl (by simp only [go_sem]; rfl) rfl (all6 rfl rfl rfl rfl rfl rfl) rfl (le_rd rfl (by repeat' (first | exact HasNR.bare (by omega) | refine HasNR.updB (by decide) (by decide) ?_))) ⟨true, l, ⟨0, 0, 0, 0, 0, []⟩, by omega, .inl rfl, by omega, by decide, rfl, rfl⟩)
  | (rw [pUn_mv (by omega)]; exact end_umN (x := ⟨1, liI names (Go.Nt.bt s p), 0, 0, 0, []⟩) (l := l) (p := p + 1) (fl := false) (fun h hh => beq_iff_eq.1 hh) rfl rfl (by simp only [go_sem]; rfl) rfl (all6 rfl rfl rfl rfl rfl rfl) rfl (le_rd rfl (by repeat' (first | exact HasNR.bare (by omega) | refine HasNR.updB (by decide) (by decide) ?_))) ⟨Nat.zero_le _, rfl, rfl⟩)
  | (rw [pUn_s0 (by omega) (by omega) e1]; exact end_um (e := 1000002) (x := ⟨2, 0, 0, 0, 0, ks⟩) (l := l1) (p := w) (fl := true) (fun h hh => beq_iff_eq.1 hh) rfl rfl (by simp only [go_sem]; rfl) rfl (all6 rfl rfl rfl rfl rfl rfl) rfl (by simp only [List.length_append, List.length_singleton]) (by decide) (.inr rfl) (le_rd rfl (by repeat' (first | exact HasNR.bare (by omega) | refine HasNR.updB (by decide) (by decide) ?_))) ⟨true, l1, ⟨2, 0, 0, 0, 0, ks⟩, by omega, .inl rfl, by omega, by simp only [List.length_append, List.length_singleton]; omega, rfl, rfl⟩)
  | (rw [pUn_s1 (by omega) (by omega) e1 (by omega)]; exact end_um (e := 1000002) (x := ⟨2, 0, 0, 0, 0, ks⟩) (l := l1) (p := q + 1) (fl := false) (fun h hh => beq_iff_eq.1 hh) rfl rfl (by simp only [go_sem]; rfl) rfl (all6 rfl rfl rfl rfl rfl rfl) rfl (by simp only [List.length_append, List.length_singleton]) (by decide) (.inr rfl) (le_rd rfl (by repeat' (first | exact HasNR.bare (by omega) | refine HasNR.updB (by decide) (by decide) ?_))) ⟨by simp only [List.length_append, List.length_singleton]; omega, rfl, rfl⟩)
  | (rw [pUn_s2 (by omega) (by omega) e1 (by omega)]; exact end_um (e := 1000002) (x := ⟨2, 0, 0, 0, 0, ks⟩) (l := l1) (p := q) (fl := true) (fun h hh => beq_iff_eq.1 hh) rfl rfl (by simp only [go_sem]; rfl) rfl (all6 rfl rfl rfl rfl rfl rfl) rfl (by simp only [List.length_append, List.length_singleton]) (by decide) (.inr rfl) (le_rd rfl (by repeat' (first | exact HasNR.bare (by omega) | refine HasNR.updB (by decide) (by decide) ?_))) ⟨true, l1, ⟨2, 0, 0, 0, 0, ks⟩, by omega, .inl rfl, by omega, by simp only [List.length_append, List.length_singleton]; omega, rfl, rfl⟩)
  | (rw [pUn_br (by omega) (by omega), pBu_0 e1]; exact end_um (e := 78) (x := ⟨4, 0, 0, 0, (ks.length : Int), ks ++ [0]⟩) (l := l1) (p := w) (fl := true) (fun h hh => beq_iff_eq.1 hh) rfl rfl (by simp only [go_sem]; rfl) rfl (all6 rfl rfl rfl rfl rfl rfl) rfl (by simp only [List.length_append, List.length_singleton]) (by decide) (.inl (by decide)) (le_rd rfl (by repeat' (first | exact HasNR.bare (by omega) | refine HasNR.updB (by decide) (by decide) ?_))) ⟨true, l1, ⟨4, 0, 0, 0, (ks.length : Int), ks ++ [0]⟩, by omega, .inl rfl, by omega, by simp only [List.length_append, List.length_singleton]; omega, rfl, rfl⟩)
  | (rw [pUn_br (by omega) (by omega), pBu_1 e1 (by omega)]; exact end_um (e := 78) (x := ⟨4, 0, 0, 0, (ks.length : Int), ks ++ [0]⟩) (l := l1) (p := q) (fl := true) (fun h hh => beq_iff_eq.1 hh) rfl rfl (by simp only [go_sem]; rfl) rfl (all6 rfl rfl rfl rfl rfl rfl) rfl (by simp only [List.length_append, List.length_singleton]) (by decide) (.inl (by decide)) (le_rd rfl (by repeat' (first | exact HasNR.bare (by omega) | refine HasNR.updB (by decide) (by decide) ?_))) ⟨true, l1, ⟨4, 0, 0, 0, (ks.length : Int), ks ++ [0]⟩, by omega, .inl rfl, by omega, by simp only [List.length_append, List.length_singleton]; omega, rfl, rfl⟩)
  | (rw [pUn_br (by omega) (by omega), pBu_2 e1 (by omega) e2]; exact end_um (e := 78) (x := ⟨3, 0, 0, 0, (ks.length : Int), ks ++ k2⟩) (l := l2) (p := w2) (fl := true) (fun h hh => beq_iff_eq.1 hh) rfl rfl (by simp only [go_sem]; rfl) rfl (all6 rfl rfl rfl rfl rfl rfl) rfl (by simp only [List.length_append, List.length_singleton]) (by decide) (.inl (by decide)) (le_rd rfl (by repeat' (first | exact HasNR.bare (by omega) | refine HasNR.updB (by decide) (by decide) ?_))) ⟨true, l2, ⟨3, 0, 0, 0, (ks.length : Int), ks ++ k2⟩, by omega, .inl rfl, by omega, by simp only [List.length_append, List.length_singleton]; omega, rfl, rfl⟩)
  | (rw [pUn_br (by omega) (by omega), pBu_3 e1 (by omega) e2 (by omega)]; exact end_um (e := 78) (x := ⟨3, 0, 0, 0, (ks.length : Int), ks ++ k2⟩) (l := l2) (p := q2) (fl := true) (fun h hh => beq_iff_eq.1 hh) rfl rfl (by simp only [go_sem]; rfl) rfl (all6 rfl rfl rfl rfl rfl rfl) rfl (by simp only [List.length_append, List.length_singleton]) (by decide) (.inl (by decide)) (le_rd rfl (by repeat' (first | exact HasNR.bare (by omega) | refine HasNR.updB (by decide) (by decide) ?_))) ⟨true, l2, ⟨3, 0, 0, 0, (ks.length : Int), ks ++ k2⟩, by omega, .inl rfl, by omega, by simp only [List.length_append, List.length_singleton]; omega, rfl, rfl⟩)
  | (rw [pUn_br (by omega) (by omega), pBu_5 e1 (by omega) e2 (by omega)]; exact end_um (e := 78) (x := ⟨3, 0, 0, 0, (ks.length : Int), ks ++ k2⟩) (l := l2) (p := q2 + 1) (fl := false) (fun h hh => beq_iff_eq.1 hh) rfl rfl (by simp only [go_sem]; rfl) rfl (all6 rfl rfl rfl rfl rfl rfl) rfl (by simp only [List.length_append, List.length_singleton]) (by decide) (.inl (by decide)) (le_rd rfl (by repeat' (first | exact HasNR.bare (by omega) | refine HasNR.updB (by decide) (by decide) ?_))) ⟨by simp only [List.length_append, List.length_singleton]; omega, rfl, rfl⟩)
  | (rw [pUn_br (by omega) (by omega), pBu_2 e1 (by omega) e2]; exact end_um (e := 78) (x := ⟨4, 0, 0, 0, (ks.length : Int), ks ++ k2⟩) (l := l2) (p := w2) (fl := true) (fun h hh => beq_iff_eq.1 hh) rfl rfl (by simp only [go_sem]; rfl) rfl (all6 rfl rfl rfl rfl rfl rfl) rfl (by simp only [List.length_append, List.length_singleton]) (by decide) (.inl (by decide)) (le_rd rfl (by repeat' (first | exact HasNR.bare (by omega) | refine HasNR.updB (by decide) (by decide) ?_))) ⟨true, l2, ⟨4, 0, 0, 0, (ks.length : Int), ks ++ k2⟩, by omega, .inl rfl, by omega, by simp only [List.length_append, List.length_singleton]; omega, rfl, rfl⟩)
  | (rw [pUn_br (by omega) (by omega), pBu_3 e1 (by omega) e2 (by omega)]; exact end_um (e := 78) (x := ⟨4, 0, 0, 0, (ks.length : Int), ks ++ k2⟩) (l := l2) (p := q2) (fl := true) (fun h hh => beq_iff_eq.1 hh) rfl rfl (by simp only [go_sem]; rfl) rfl (all6 rfl rfl rfl rfl rfl rfl) rfl (by simp only [List.length_append, List.length_singleton]) (by decide) (.inl (by decide)) (le_rd rfl (by repeat' (first | exact HasNR.bare (by omega) | refine HasNR.updB (by decide) (by decide) ?_))) ⟨true, l2, ⟨4, 0, 0, 0, (ks.length : Int), ks ++ k2⟩, by omega, .inl rfl, by omega, by simp only [List.length_append, List.length_singleton]; omega, rfl, rfl⟩)
  | (rw [pUn_br (by omega) (by omega), pBu_4 e1 (by omega) e2 (by omega)]; exact end_um (e := 78) (x := ⟨4, 0, 0, 0, (ks.length : Int), ks ++ k2⟩) (l := l2) (p := q2 + 1) (fl := false) (fun h hh => beq_iff_eq.1 hh) rfl rfl (by simp only [go_sem]; rfl) rfl (all6 rfl rfl rfl rfl rfl rfl) rfl (by simp only [List.length_append, List.length_singleton]) (by decide) (.inl (by decide)) (le_rd rfl (by repeat' (first | exact HasNR.bare (by omega) | refine HasNR.updB (by decide) (by decide) ?_))) ⟨by simp only [List.length_append, List.length_singleton]; omega, rfl, rfl⟩)
end Go.Proofs.Ytphpegemhnodcaa

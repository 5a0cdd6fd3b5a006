import Derived.Test.YticbabpajligbaaDoorM19
import Derived.Test.YticbabpajligbaaDoorM4
import Derived.Test.YticbabpajligbaaDoorM18
import Derived.Lib.Strings
/- The program's reader of notations: the walk of units. -/
section
namespace Go.Proofs.YticbabpajligbaaDoor
open Go.Av
set_option linter.unusedSimpArgs false
set_option linter.unusedVariables false
attribute [local irreducible] AWP CallG Ob Br BrP Go.Av.Sub endQ AOps OpV AC thenA blkA opsVC opVC withA withArgs opsQ opQ CallQ withA2 withArgs2
open Go.Nt (Nd nd0 kd li liF dig pInv pSuf pItem pSeq Pr Goes nmOk pItem_goes pSeq_goes)
theorem set6_0 (a b c d e f x : AV) : setF (vecF [a, b, c, d, e, f]) 0 x = vecF [x, b, c, d, e, f] := by
  funext i; unfold setF; match i with
  | 0 => rfl
  | 1 => rfl
  | 2 => rfl
  | 3 => rfl
  | 4 => rfl
  | 5 => rfl
  | (k + 6) => rfl
theorem set6_4 (a b c d e f x : AV) : setF (vecF [a, b, c, d, e, f]) 4 x = vecF [a, b, c, d, x, f] := by
  funext i; unfold setF; match i with
  | 0 => rfl
  | 1 => rfl
  | 2 => rfl
  | 3 => rfl
  | 4 => rfl
  | 5 => rfl
  | (k + 6) => rfl
theorem set6_5 (a b c d e f x : AV) : setF (vecF [a, b, c, d, e, f]) 5 x = vecF [a, b, c, d, e, x] := by
  funext i; unfold setF; match i with
  | 0 => rfl
  | 1 => rfl
  | 2 => rfl
  | 3 => rfl
  | 4 => rfl
  | 5 => rfl
  | (k + 6) => rfl
def zNd : Nat → AV := zF [.int .i64 0, .int .i64 0, .int .i64 0, .int .i64 0, .int .i64 0, .slice none 0 0]
/-- What lies in memory while a unit is read: the reader, a row of children, the result's cells, a node's cells. -/
def hU (names s : ByteArray) (q : Nat) (fl : Bool) (l : List Nd) (e : Nat) (ks : List Int) (slot : Nat) (k sp : Int) : Hp := (((RD names s q fl l).upd e (.cells ks.length (cM iv 0 ks))).upd 2 (.cells 6 zNd)).upd slot (.cells 6 (vecF [.v (.int .i64 (k)), .v (.int .i64 (0)), .v (.int .i64 (0)), .v (.int .i64 (0)), .v (.int .i64 (sp)), .own e 0 1 ks.length]))
def rho78 (g : Nat) : Option Nat := if g = 78 then some 1000002 else some g
theorem rho78_ne {g : Nat} (h : g ≠ 78) : rho78 g = some g := if_neg h
theorem rho78_inj {x y k : Nat} (hx : x ≠ 1000002) (hy : y ≠ 1000002) (h1 : rho78 x = some k) (h2 : rho78 y = some k) : x = y := by
  unfold rho78 at h1 h2
  split at h1 <;> split at h2 <;> simp only [Option.some.injEq] at h1 h2 <;> omega
theorem rd_lay2 {names s : ByteArray} {p : Nat} {fl : Bool} {l : List Nd} {H : Hp} (hle : Hp.le (RD names s p fl l) H) : LayF rho78 (RD names s p fl l) H := fun h B hB => by
  have hs : ∀ i, rho78 (sub 1000000 i) = some (sub 1000000 i) := fun i => rho78_ne (by have := sub_ge 1000000 i; rw [FB_eq] at this; omega)
  refine .inl ?_
  have hH := hle h B hB
  unfold RD Hp.upd at hB
  split at hB
  · rename_i e; subst e
    simp only [Option.some.injEq] at hB
    subst hB
    exact ⟨1000001, 5, _, _, rho78_ne (by omega), rfl, hH, all5 (.plain trivial) (.plain trivial) (.plain trivial) (.plain trivial) (.own (rho78_ne (by omega)))⟩
  · rcases NR_cases hB with ⟨rfl, rfl⟩ | ⟨i, hi, rfl, rfl⟩
    · refine ⟨1000000, _, _, _, rho78_ne (by omega), rfl, hH, fun j hj => ?_⟩
      unfold nmF
      simp only [hj, if_true]
      by_cases c2 : j % 6 = 5
      · simp only [c2, if_true]; exact .own (hs _)
      · simp only [c2, if_false]; exact .plain (ndF_plain l j).1
    · exact ⟨_, _, _, _, hs i, rfl, hH, fun j hj => .plain trivial⟩
theorem hU_ne {names s : ByteArray} {q : Nat} {fl : Bool} {l : List Nd} {ks : List Int} {k sp : Int} {h : Nat} (hn : hU names s q fl l 78 ks 6 k sp h ≠ none) : h ≠ 1000002 := by
  rintro rfl
  unfold hU Hp.upd at hn
  rw [if_neg (by decide), if_neg (by decide), if_neg (by decide)] at hn
  exact rd_ne2 hn rfl
section
variable {P : Program} {N : Cx} {A A' : Fr} {H H' : Hp} {names s : ByteArray} {p : Nat} {fl : Bool} {l : List Nd}
/-- The end of a unit: a node lies in the cells of the result, its children in a row of our own. -/
theorem end_um {fn : Func} {t : Tmp} {ty : TypeId} {e m : Nat} {z : List Value} {g : Nat → AV} {x : Nd} {post : AV → Hp → Prop} (hpn : ∀ h, N.pn h = true → h = 1000001) (hr : fn.results.toList = [.cell t ty]) (hA : A.get t = some (.ref 2 0)) (hty : tyOf P ty = some ⟨true, 6, z⟩) (hH : H 2 = some (.cells 6 g)) (hg : ∀ i, i < 6 → g i = nO (.own e 0 1 m) x i)
    (he : H e = some (.cells m (cM iv 0 x.kids))) (hm : m = x.kids.length) (he2 : e ≠ 2) (he1 : e < 1000000 ∨ e = 1000002) (hle : Hp.le (RD names s p fl l) H) (hp : post (.agg 6 (nO (.own 1000002 0 1 x.kids.length) x)) (R2 names s p fl l x.kids)) : endQ P N fn post .ret A H := by
  subst hm
  have hnn : ∀ h, R2 names s p fl l x.kids h ≠ none → h = 1000002 ∨ (h ≠ 1000002 ∧ 1000000 ≤ h) := fun h hx => by
    by_cases h0 : h = 1000002
    · exact .inl h0
    · right
      unfold R2 Hp.upd at hx
      rw [if_neg h0] at hx
      exact ⟨h0, rd_low' hx⟩
  have key : ∀ h, ((R2 names s p fl l x.kids).upd 2 (.cells 6 (nO (.own 1000002 0 1 x.kids.length) x))) h ≠ none → h = 2 ∨ h = 1000002 ∨ (h ≠ 1000002 ∧ 1000000 ≤ h) := fun h hx => by
    unfold Hp.upd at hx
    split at hx
    · exact .inl ‹_›
    · exact .inr (hnn h hx)
  unfold endQ
  refine ⟨[(t, .ref 2 0)], (R2 names s p fl l x.kids).upd 2 (.cells 6 (nO (.own 1000002 0 1 x.kids.length) x)), Sub.layP (rho2 e) (fun h hh => by rw [hpn h hh]; exact rho2_ne (by omega)) (lay_cons ⟨_, hA, .ref (rho2_ne (by omega))⟩ lay_nil) (layF_upd (g := 2) (rho2_ne (by omega)) hH (fun i hi => by
    rw [hg i hi]
    match i, hi with
    | 0, _ => exact .plain trivial
    | 1, _ => exact .plain trivial
    | 2, _ => exact .plain trivial
    | 3, _ => exact .plain trivial
    | 4, _ => exact .plain trivial
    | 5, _ => exact .own (if_pos rfl)) (layF_upd (g := e) (if_pos rfl) he (fun i hi => .plain trivial) (rd_lay (fun g hg => rho2_ne hg) hle))) (fun x y k hx hy e1 e2 => ?_), ?_⟩
  · unfold rho2 at e1 e2
    rcases key x hx with rfl | rfl | ⟨h1, h2⟩ <;> rcases key y hy with rfl | rfl | ⟨h3, h4⟩ <;> (try rfl) <;> (repeat' split at e1) <;> (repeat' split at e2) <;> simp only [Option.some.injEq] at e1 e2 <;> omega
  · rw [hr]
    simp only [resVC, Fr.get, if_true, withA_some, hty, ldVC, Hp.upd, Ob]
    refine ⟨by omega, R2 names s p fl l x.kids, fun y B hB => ?_, ?_⟩
    · unfold Hp.upd
      split
      · rename_i e3; subst e3
        rcases hnn 2 (by rw [hB]; simp) with h0 | ⟨_, h0⟩ <;> omega
      · exact hB
    · have : (fun j => nO (.own 1000002 0 1 x.kids.length) x (0 + j)) = nO (.own 1000002 0 1 x.kids.length) x := by funext j; rw [Nat.zero_add]
      rw [this]; exact hp
def rhoV (g : Nat) : Option Nat := if g = 1000002 then none else some g
theorem end_umN {fn : Func} {t : Tmp} {ty : TypeId} {z : List Value} {g : Nat → AV} {x : Nd} {post : AV → Hp → Prop} (hpn : ∀ h, N.pn h = true → h = 1000001) (hr : fn.results.toList = [.cell t ty]) (hA : A.get t = some (.ref 2 0)) (hty : tyOf P ty = some ⟨true, 6, z⟩) (hH : H 2 = some (.cells 6 g)) (hg : ∀ i, i < 6 → g i = nO (.v (.slice none 0 0)) x i)
    (hx : x.kids = []) (hle : Hp.le (RD names s p fl l) H) (hp : post (.agg 6 (nO (.own 1000002 0 1 x.kids.length) x)) (R2 names s p fl l x.kids)) : endQ P N fn post .ret A H := by
  have hnn : ∀ h, R2 names s p fl l x.kids h ≠ none → h = 1000002 ∨ (h ≠ 1000002 ∧ 1000000 ≤ h) := fun h hx => by
    by_cases h0 : h = 1000002
    · exact .inl h0
    · right
      unfold R2 Hp.upd at hx
      rw [if_neg h0] at hx
      exact ⟨h0, rd_low' hx⟩
  have ρne : ∀ g, g ≠ 1000002 → rhoV g = some g := fun g hg => if_neg hg
  unfold endQ
  refine ⟨[(t, .ref 2 0)], (R2 names s p fl l x.kids).upd 2 (.cells 6 (nO (.own 1000002 0 1 x.kids.length) x)), Sub.layP rhoV (fun h hh => by rw [hpn h hh]; exact ρne _ (by omega)) (lay_cons ⟨_, hA, .ref (ρne _ (by omega))⟩ lay_nil) (layF_upd (g := 2) (ρne _ (by omega)) hH (fun i hi => by
    rw [hg i hi]
    match i, hi with
    | 0, _ => exact .plain trivial
    | 1, _ => exact .plain trivial
    | 2, _ => exact .plain trivial
    | 3, _ => exact .plain trivial
    | 4, _ => exact .plain trivial
    | 5, _ => show Lay rhoV (.v (.slice none 0 0)) (.own 1000002 0 1 x.kids.length); rw [hx]; exact .nil (if_pos rfl)) (by unfold R2; rw [hx]; exact layF_nil (if_pos rfl) (rd_lay (fun g hg => ρne g hg) hle))) (fun x y k hx hy e1 e2 => ?_), ?_⟩
  · unfold rhoV at e1 e2
    split at e1 <;> split at e2 <;> simp only [Option.some.injEq, reduceCtorEq] at e1 e2
    omega
  · rw [hr]
    simp only [resVC, Fr.get, if_true, withA_some, hty, ldVC, Hp.upd, Ob]
    refine ⟨by omega, R2 names s p fl l x.kids, fun y B hB => ?_, ?_⟩
    · unfold Hp.upd
      split
      · rename_i e3; subst e3
        rcases hnn 2 (by rw [hB]; simp) with h0 | ⟨_, h0⟩ <;> omega
      · exact hB
    · have : (fun j => nO (.own 1000002 0 1 x.kids.length) x (0 + j)) = nO (.own 1000002 0 1 x.kids.length) x := by funext j; rw [Nat.zero_add]
      rw [this]; exact hp
theorem pUn_no {f : Nat} (h1 : ¬ 0 ≤ liI names (Go.Nt.bt s p)) (h2 : ¬ Go.Nt.bt s p = 40) (h3 : ¬ Go.Nt.bt s p = 91) : pUn names s f p l = .bad p := by
  unfold pUn; rw [if_neg h1, if_neg h2, if_neg h3]
theorem pUn_mv {f : Nat} (h1 : 0 ≤ liI names (Go.Nt.bt s p)) : pUn names s f p l = .ok (p + 1) l ⟨1, liI names (Go.Nt.bt s p), 0, 0, 0, []⟩ := by
  unfold pUn; rw [if_pos h1]
theorem pUn_s0 {f w : Nat} (h1 : ¬ 0 ≤ liI names (Go.Nt.bt s p)) (h2 : Go.Nt.bt s p = 40) (e1 : pSeq names s f (p + 1) l [] = .bad w) : pUn names s f p l = .bad w := by
  unfold pUn; rw [if_neg h1, if_pos h2, e1]
theorem pUn_s1 {f q : Nat} {l1 : List Nd} {ks : List Int} (h1 : ¬ 0 ≤ liI names (Go.Nt.bt s p)) (h2 : Go.Nt.bt s p = 40) (e1 : pSeq names s f (p + 1) l [] = .ok q l1 ks) (h3 : Go.Nt.bt s q = 41) : pUn names s f p l = .ok (q + 1) l1 ⟨2, 0, 0, 0, 0, ks⟩ := by
  unfold pUn; rw [if_neg h1, if_pos h2, e1]; dsimp only; rw [if_pos h3]
theorem pUn_s2 {f q : Nat} {l1 : List Nd} {ks : List Int} (h1 : ¬ 0 ≤ liI names (Go.Nt.bt s p)) (h2 : Go.Nt.bt s p = 40) (e1 : pSeq names s f (p + 1) l [] = .ok q l1 ks) (h3 : ¬ Go.Nt.bt s q = 41) : pUn names s f p l = .bad q := by
  unfold pUn; rw [if_neg h1, if_pos h2, e1]; dsimp only; rw [if_neg h3]
theorem pUn_br {f : Nat} (h1 : ¬ 0 ≤ liI names (Go.Nt.bt s p)) (h2 : Go.Nt.bt s p = 91) : pUn names s f p l = pBu names s f (p + 1) l := by
  unfold pUn; rw [if_neg h1, if_neg (by omega), if_pos h2]
theorem pBu_0 {f w : Nat} (e1 : pSeq names s f p l [] = .bad w) : pBu names s f p l = .bad w := by
  unfold pBu; rw [e1]
theorem pBu_1 {f q : Nat} {l1 : List Nd} {ks : List Int} (e1 : pSeq names s f p l [] = .ok q l1 ks) (h3 : ¬ (Go.Nt.bt s q = 58 ∨ Go.Nt.bt s q = 44)) : pBu names s f p l = .bad q := by
  unfold pBu; rw [e1]; dsimp only; rw [if_neg h3]
theorem pBu_2 {f q w : Nat} {l1 : List Nd} {ks : List Int} (e1 : pSeq names s f p l [] = .ok q l1 ks) (h3 : Go.Nt.bt s q = 58 ∨ Go.Nt.bt s q = 44) (e2 : pSeq names s f (q + 1) l1 [] = .bad w) : pBu names s f p l = .bad w := by
  unfold pBu; rw [e1]; dsimp only; rw [if_pos h3, e2]
theorem pBu_3 {f q q2 : Nat} {l1 l2 : List Nd} {ks k2 : List Int} (e1 : pSeq names s f p l [] = .ok q l1 ks) (h3 : Go.Nt.bt s q = 58 ∨ Go.Nt.bt s q = 44) (e2 : pSeq names s f (q + 1) l1 [] = .ok q2 l2 k2) (h4 : ¬ Go.Nt.bt s q2 = 93) : pBu names s f p l = .bad q2 := by
  unfold pBu; rw [e1]; dsimp only; rw [if_pos h3, e2]; dsimp only; rw [if_neg h4]
theorem pBu_4 {f q q2 : Nat} {l1 l2 : List Nd} {ks k2 : List Int} (e1 : pSeq names s f p l [] = .ok q l1 ks) (h3 : Go.Nt.bt s q = 58) (e2 : pSeq names s f (q + 1) l1 [] = .ok q2 l2 k2) (h4 : Go.Nt.bt s q2 = 93) : pBu names s f p l = .ok (q2 + 1) l2 ⟨4, 0, 0, 0, (ks.length : Int), ks ++ k2⟩ := by
  unfold pBu; rw [e1]; dsimp only; rw [if_pos (.inl h3), e2]; dsimp only; rw [if_pos h4, if_pos h3]
theorem pBu_5 {f q q2 : Nat} {l1 l2 : List Nd} {ks k2 : List Int} (e1 : pSeq names s f p l [] = .ok q l1 ks) (h3 : Go.Nt.bt s q = 44) (e2 : pSeq names s f (q + 1) l1 [] = .ok q2 l2 k2) (h4 : Go.Nt.bt s q2 = 93) : pBu names s f p l = .ok (q2 + 1) l2 ⟨3, 0, 0, 0, (ks.length : Int), ks ++ k2⟩ := by
  unfold pBu; rw [e1]; dsimp only; rw [if_pos (.inr h3), e2]; dsimp only; rw [if_pos h4, if_neg (by omega)]
/-- Calls of the sequence in a chain. -/
theorem callSP {f : FuncId} {args : List AV} {R : Pr (List Int)} {K : AV → (Nat → Bool) → Hp → Prop} (hs : s.size ≤ 400) (hn : l.length ≤ 1000) (hR : ∀ q l' u, R = .ok q l' u → l'.length ≤ 1048576) (hH : Hp.le (RD names s p fl l) H) (hac : AC P f args (RD names s p fl l) (· == 1000001) (postSm names s p l R)) (hpn : ∀ h, N.pn h = true → h = 1000001)
    (h1 : ∀ w fl' l' ks, R = .bad w → Junk s p w fl' l.length l'.length → ks.length ≤ w - p + 1 → K (.own 1000002 0 1 ks.length) pR ((R2 names s w fl' l' ks).add (H.scrub pR).lo))
    (h2 : ∀ q l' ks, R = .ok q l' ks → K (.own 1000002 0 1 ks.length) pR ((R2 names s q false l' ks).add (H.scrub pR).lo)) : CallPP P N f args H K :=
  ⟨pR, fun _ => callSm hs hn hR hH hac hpn (fun w fl' l' ks e j k => ⟨rfl, h1 w fl' l' ks e j k⟩) (fun q l' ks e => ⟨rfl, h2 q l' ks e⟩)⟩
theorem callSF {f : FuncId} {args : List AV} {K : AV → (Nat → Bool) → Hp → Prop} (hn : l.length ≤ 1048576) (hH : Hp.le (RD names s p fl l) H) (hac : AC P f args (RD names s p fl l) (· == 1000001) (fun r H => r = .own 1000002 0 1 ([0] : List Int).length ∧ H = R2 names s p fl l [0])) (hpn : ∀ h, N.pn h = true → h = 1000001)
    (h1 : K (.own 1000002 0 1 ([0] : List Int).length) pR ((R2 names s p fl l [0]).add (H.scrub pR).lo)) : CallPP P N f args H K :=
  ⟨pR, fun _ => callRr hH hac hpn fun r H' hp => by
    obtain ⟨rfl, rfl⟩ := hp
    exact ⟨fun h hn => R2_names hn, by rw [scrub_own]; rfl, R2_live hn, rfl, h1⟩⟩
end
set_option maxHeartbeats 4000000 in
theorem um_step {names s : ByteArray} (hn : nmOk names) (hs : s.size ≤ 400) {f : Nat} (hS : SmOk names s f) : UmOk names s f := by
  intro p l hp hl hf
  have ht := bt_in s p
  have hx0 : nxB s p false = Go.Nt.bt s p := rfl
  have hx0' : liI names (nxB s p false) = liI names (Go.Nt.bt s p) := rfl
  have hz : 0 < Go.Nt.bt s p ∨ liI names (Go.Nt.bt s p) < 0 := by
    by_cases h : 0 ≤ liI names (Go.Nt.bt s p)
    · obtain ⟨m, e1, _⟩ := liI_some h
      exact .inl (by have := (Go.Nt.li_byte hn e1).2; omega)
    · exact .inr (by omega)
  refine ac_of_awp (N := ⟨_, (· == 1000001), fun h hh => beq_eq_false_iff_ne.2 (Nat.ne_of_lt (Nat.lt_of_lt_of_le hh (by decide))), true⟩) Tryd.func97 rfl (by kernel_rfl) Tryd.ntmps97 (by simp) ?_
  simp only [argsFr, List.zipIdx_cons, List.zipIdx_nil, go_sem]
  repeat' (first | (show False; omega) | (refine Ob.mk (all6 rfl rfl rfl rfl rfl rfl) ?_) | (refine awp_cutR 8 5 (A' := [(2, .ref 2 0), (5, .ref 5 0), (0, .ref 1000001 0)]) (H' := hU names s w fl l1 1000002 ks 5 2 0) (Sub.layP (fun g => some g) (fun h hh => rfl) (lay_cons ⟨_, rfl, .ref rfl⟩ (lay_cons ⟨_, rfl, .ref rfl⟩ (lay_cons ⟨_, rfl, .ref rfl⟩ lay_nil))) (layF_upd (g := 5) rfl rfl (all6 (.plain trivial) (.plain trivial) (.plain trivial) (.plain trivial) (.plain trivial) (.own rfl)) (layF_upd (g := 2) rfl rfl (fun i hi => .plain trivial) (layF_upd (g := 1000002) rfl rfl (fun i hi => .plain trivial) (rd_lay (fun g _ => rfl) (le_rd rfl (by repeat' (first | exact HasNR.bare (by omega) | refine HasNR.updB (by decide) (by decide) ?_))))))) (fun x y k hx hy e1 e2 => Option.some.inj (e1.trans e2.symm))) ?_; unfold hU zNd) | (refine awp_cutR 8 5 (A' := [(2, .ref 2 0), (5, .ref 5 0), (0, .ref 1000001 0)]) (H' := hU names s q false l1 1000002 ks 5 2 0) (Sub.layP (fun g => some g) (fun h hh => rfl) (lay_cons ⟨_, rfl, .ref rfl⟩ (lay_cons ⟨_, rfl, .ref rfl⟩ (lay_cons ⟨_, rfl, .ref rfl⟩ lay_nil))) (layF_upd (g := 5) rfl rfl (all6 (.plain trivial) (.plain trivial) (.plain trivial) (.plain trivial) (.plain trivial) (.own rfl)) (layF_upd (g := 2) rfl rfl (fun i hi => .plain trivial) (layF_upd (g := 1000002) rfl rfl (fun i hi => .plain trivial) (rd_lay (fun g _ => rfl) (le_rd rfl (by repeat' (first | exact HasNR.bare (by omega) | refine HasNR.updB (by decide) (by decide) ?_))))))) (fun x y k hx hy e1 e2 => Option.some.inj (e1.trans e2.symm))) ?_; unfold hU zNd) | (refine awp_cutR 12 6 (A' := [(2, .ref 2 0), (6, .ref 6 0), (0, .ref 1000001 0)]) (H' := hU names s w fl l1 1000002 ks 6 3 0) (Sub.layP (fun g => some g) (fun h hh => rfl) (lay_cons ⟨_, rfl, .ref rfl⟩ (lay_cons ⟨_, rfl, .ref rfl⟩ (lay_cons ⟨_, rfl, .ref rfl⟩ lay_nil))) (layF_upd (g := 6) rfl rfl (all6 (.plain trivial) (.plain trivial) (.plain trivial) (.plain trivial) (.plain trivial) (.own rfl)) (layF_upd (g := 2) rfl rfl (fun i hi => .plain trivial) (layF_upd (g := 1000002) rfl rfl (fun i hi => .plain trivial) (rd_lay (fun g _ => rfl) (le_rd rfl (by repeat' (first | exact HasNR.bare (by omega) | refine HasNR.updB (by decide) (by decide) ?_))))))) (fun x y k hx hy e1 e2 => Option.some.inj (e1.trans e2.symm))) ?_; unfold hU zNd) | (refine awp_cutR 12 6 (A' := [(2, .ref 2 0), (6, .ref 6 0), (0, .ref 1000001 0)]) (H' := hU names s q false l1 1000002 ks 6 3 0) (Sub.layP (fun g => some g) (fun h hh => rfl) (lay_cons ⟨_, rfl, .ref rfl⟩ (lay_cons ⟨_, rfl, .ref rfl⟩ (lay_cons ⟨_, rfl, .ref rfl⟩ lay_nil))) (layF_upd (g := 6) rfl rfl (all6 (.plain trivial) (.plain trivial) (.plain trivial) (.plain trivial) (.plain trivial) (.own rfl)) (layF_upd (g := 2) rfl rfl (fun i hi => .plain trivial) (layF_upd (g := 1000002) rfl rfl (fun i hi => .plain trivial) (rd_lay (fun g _ => rfl) (le_rd rfl (by repeat' (first | exact HasNR.bare (by omega) | refine HasNR.updB (by decide) (by decide) ?_))))))) (fun x y k hx hy e1 e2 => Option.some.inj (e1.trans e2.symm))) ?_; unfold hU zNd) | (refine awp_cutR 16 51 (A' := [(2, .ref 2 0), (6, .ref 6 0), (0, .ref 1000001 0)]) (H' := hU names s (q + 1) false l1 78 ks 6 3 ks.length) (Sub.layP rho78 (fun h hh => by rw [beq_iff_eq.1 hh]; rfl) (lay_cons ⟨_, rfl, .ref rfl⟩ (lay_cons ⟨_, rfl, .ref rfl⟩ (lay_cons ⟨_, rfl, .ref rfl⟩ lay_nil))) (layF_upd (g := 6) rfl rfl (all6 (.plain trivial) (.plain trivial) (.plain trivial) (.plain trivial) (.plain trivial) (.own rfl)) (layF_upd (g := 2) rfl rfl (fun i hi => .plain trivial) (layF_upd (g := 1000002) rfl rfl (fun i hi => .plain trivial) (rd_lay2 (le_rd rfl (by repeat' (first | exact HasNR.bare (by omega) | refine HasNR.updB (by decide) (by decide) ?_))))))) (fun x y k hx hy e1 e2 => rho78_inj (hU_ne hx) (hU_ne hy) e1 e2)) ?_; unfold hU zNd) | (refine awp_cutR 16 51 (A' := [(2, .ref 2 0), (6, .ref 6 0), (0, .ref 1000001 0)]) (H' := hU names s (q + 1) false l1 78 ks 6 4 ks.length) (Sub.layP rho78 (fun h hh => by rw [beq_iff_eq.1 hh]; rfl) (lay_cons ⟨_, rfl, .ref rfl⟩ (lay_cons ⟨_, rfl, .ref rfl⟩ (lay_cons ⟨_, rfl, .ref rfl⟩ lay_nil))) (layF_upd (g := 6) rfl rfl (all6 (.plain trivial) (.plain trivial) (.plain trivial) (.plain trivial) (.plain trivial) (.own rfl)) (layF_upd (g := 2) rfl rfl (fun i hi => .plain trivial) (layF_upd (g := 1000002) rfl rfl (fun i hi => .plain trivial) (rd_lay2 (le_rd rfl (by repeat' (first | exact HasNR.bare (by omega) | refine HasNR.updB (by decide) (by decide) ?_))))))) (fun x y k hx hy e1 e2 => rho78_inj (hU_ne hx) (hU_ne hy) e1 e2)) ?_; unfold hU zNd) | (refine awp_cutR 16 51 (A' := [(2, .ref 2 0), (6, .ref 6 0), (0, .ref 1000001 0)]) (H' := hU names s q true l1 78 ks 6 4 ks.length) (Sub.layP rho78 (fun h hh => by rw [beq_iff_eq.1 hh]; rfl) (lay_cons ⟨_, rfl, .ref rfl⟩ (lay_cons ⟨_, rfl, .ref rfl⟩ (lay_cons ⟨_, rfl, .ref rfl⟩ lay_nil))) (layF_upd (g := 6) rfl rfl (all6 (.plain trivial) (.plain trivial) (.plain trivial) (.plain trivial) (.plain trivial) (.own rfl)) (layF_upd (g := 2) rfl rfl (fun i hi => .plain trivial) (layF_upd (g := 1000002) rfl rfl (fun i hi => .plain trivial) (rd_lay2 (le_rd rfl (by repeat' (first | exact HasNR.bare (by omega) | refine HasNR.updB (by decide) (by decide) ?_))))))) (fun x y k hx hy e1 e2 => rho78_inj (hU_ne hx) (hU_ne hy) e1 e2)) ?_; unfold hU zNd) | (refine awp_cutR 16 51 (A' := [(2, .ref 2 0), (6, .ref 6 0), (0, .ref 1000001 0)]) (H' := hU names s w true l1 78 ks 6 4 ks.length) (Sub.layP rho78 (fun h hh => by rw [beq_iff_eq.1 hh]; rfl) (lay_cons ⟨_, rfl, .ref rfl⟩ (lay_cons ⟨_, rfl, .ref rfl⟩ (lay_cons ⟨_, rfl, .ref rfl⟩ lay_nil))) (layF_upd (g := 6) rfl rfl (all6 (.plain trivial) (.plain trivial) (.plain trivial) (.plain trivial) (.plain trivial) (.own rfl)) (layF_upd (g := 2) rfl rfl (fun i hi => .plain trivial) (layF_upd (g := 1000002) rfl rfl (fun i hi => .plain trivial) (rd_lay2 (le_rd rfl (by repeat' (first | exact HasNR.bare (by omega) | refine HasNR.updB (by decide) (by decide) ?_))))))) (fun x y k hx hy e1 e2 => rho78_inj (hU_ne hx) (hU_ne hy) e1 e2)) ?_; unfold hU zNd) | ((first | refine atF (f := 82) ?_ | refine atQ (f := 82) ?_); (first | refine callTk 40 (by omega) (le_rd rfl (by repeat' (first | exact HasNR.bare (by omega) | refine HasNR.updB (by decide) (by decide) ?_))) (take_ok names s p 40 false l (by omega) hs (by omega) (by omega)) (fun hx40 => ?_) (fun hxn40 => ?_) | refine callTk 91 (by omega) (le_rd rfl (by repeat' (first | exact HasNR.bare (by omega) | refine HasNR.updB (by decide) (by decide) ?_))) (take_ok names s p 91 false l (by omega) hs (by omega) (by omega)) (fun hx91 => ?_) (fun hxn91 => ?_) | refine callTk 44 (by omega) (le_rd rfl (by repeat' (first | exact HasNR.bare (by omega) | refine HasNR.updB (by decide) (by decide) ?_))) (take_ok names s q 44 false l1 (by omega) hs (by omega) (by omega)) (fun hx44 => ?_) (fun hxn44 => ?_) | refine callTn 44 (nx_bad hj1.st (by decide) (by decide)) (by omega) (le_rd rfl (by repeat' (first | exact HasNR.bare (by omega) | refine HasNR.updB (by decide) (by decide) ?_))) (take_ok names s w 44 fl l1 (by omega) hs (by omega) (by omega)) ?_) <;> simp (maxSteps := 1000000) (dsimp := false) (implicitDefEqProofs := false) (disch := omega) only [wrap64, go_sem, pR_low, pR_1, pR_0, pR_2, NR_slo, NR_slo', lo_upd, lo_high, lo_emp, RD_add, R2_add, add_emp, NR_scr, NR_scr0, set5_2, set5_3', set6_0, set6_4, set6_5, Nat.le_refl]) | (refine atP (f := 52) ?_; (first | refine callSP (p := q + 1) (l := l1) hs (by omega) (fun q l' u e => by have := sq_g hn (by omega) (by omega) e; omega) (le_rd rfl (by repeat' (first | exact HasNR.bare (by omega) | refine HasNR.updB (by decide) (by decide) ?_))) (hS (q + 1) l1 (by omega) (by omega) (by omega)) (fun h hh => beq_iff_eq.1 hh) (fun w2 fl2 l2 k2 e2 hj2 hk2 => have hb3 := hj2.le; have hb4 := hj2.len; ?_) (fun q2 l2 k2 e2 => have hb3 := sq_g hn (by omega) (by omega) e2; have hks2 := sq_ks0 hn (by omega) (by omega) e2; have ht2 := bt_in s q2; have hx2 : nxB s q2 false = Go.Nt.bt s q2 := rfl; ?_) | refine callSF (fl := true) (p := q) (l := l1) (by omega) (le_rd rfl (by repeat' (first | exact HasNR.bare (by omega) | refine HasNR.updB (by decide) (by decide) ?_))) (seqF_ok names s q l1 (by omega) hs (by omega)) (fun h hh => beq_iff_eq.1 hh) ?_ | refine callSF (fl := true) (p := w) (l := l1) (by omega) (le_rd rfl (by repeat' (first | exact HasNR.bare (by omega) | refine HasNR.updB (by decide) (by decide) ?_))) (seqF_ok names s w l1 (by omega) hs (by omega)) (fun h hh => beq_iff_eq.1 hh) ?_) <;> simp (maxSteps := 1000000) (dsimp := false) (implicitDefEqProofs := false) (disch := omega) only [wrap64, go_sem, pR_low, pR_1, pR_0, pR_2, NR_slo, NR_slo', lo_upd, lo_high, lo_emp, RD_add, R2_add, add_emp, NR_scr, NR_scr0, set5_2, set5_3', set6_0, set6_4, set6_5, Nat.le_refl]) | ((first | refine atF (f := 52) ?_ | refine atQ (f := 52) ?_); (refine callSm (p := p + 1) (l := l) hs (by omega) (fun q l' u e => by have := sq_g hn (by omega) (by omega) e; omega) (le_rd rfl (by repeat' (first | exact HasNR.bare (by omega) | refine HasNR.updB (by decide) (by decide) ?_))) (hS (p + 1) l (by omega) (by omega) (by omega)) (fun h hh => beq_iff_eq.1 hh) (fun w fl l1 ks e1 hj1 hk => have hb1 := hj1.le; have hb2 := hj1.len; ?_) (fun q l1 ks e1 => have hb1 := sq_g hn (by omega) (by omega) e1; have hks1 := sq_ks0 hn (by omega) (by omega) e1; have ht1 := bt_in s q; have hx1 : nxB s q false = Go.Nt.bt s q := rfl; ?_)) <;> simp (maxSteps := 1000000) (dsimp := false) (implicitDefEqProofs := false) (disch := omega) only [wrap64, go_sem, pR_low, pR_1, pR_0, pR_2, NR_slo, NR_slo', lo_upd, lo_high, lo_emp, RD_add, R2_add, add_emp, NR_scr, NR_scr0, set5_2, set5_3', set6_0, set6_4, set6_5, Nat.le_refl]) | ((first | refine atF (f := 117) ?_ | refine atQ (f := 117) ?_); (first | refine callEp 93 (by omega) (le_rd rfl (by repeat' (first | exact HasNR.bare (by omega) | refine HasNR.updB (by decide) (by decide) ?_))) (expect_ok names s q2 93 false l2 (by omega) hs (by omega) (by omega)) (fun hx93 => ?_) (fun hxn93 => ?_) | refine callEn 93 (fl := fl2) (p := w2) (nx_bad hj2.st (by decide) (by decide)) (by omega) (le_rd rfl (by repeat' (first | exact HasNR.bare (by omega) | refine HasNR.updB (by decide) (by decide) ?_))) (expect_ok names s w2 93 fl2 l2 (by omega) hs (by omega) (by omega)) ?_ | refine callEn 93 (fl := true) (p := q) (nx_bad (.inl rfl) (by decide) (by decide)) (by omega) (le_rd rfl (by repeat' (first | exact HasNR.bare (by omega) | refine HasNR.updB (by decide) (by decide) ?_))) (expect_ok names s q 93 true l1 (by omega) hs (by omega) (by omega)) ?_ | refine callEn 93 (fl := true) (p := w) (nx_bad (.inl rfl) (by decide) (by decide)) (by omega) (le_rd rfl (by repeat' (first | exact HasNR.bare (by omega) | refine HasNR.updB (by decide) (by decide) ?_))) (expect_ok names s w 93 true l1 (by omega) hs (by omega) (by omega)) ?_ | refine callEn 41 (fl := fl) (p := w) (nx_bad hj1.st (by decide) (by decide)) (by omega) (le_rd rfl (by repeat' (first | exact HasNR.bare (by omega) | refine HasNR.updB (by decide) (by decide) ?_))) (expect_ok names s w 41 fl l1 (by omega) hs (by omega) (by omega)) ?_ | refine callEp 41 (by omega) (le_rd rfl (by repeat' (first | exact HasNR.bare (by omega) | refine HasNR.updB (by decide) (by decide) ?_))) (expect_ok names s q 41 false l1 (by omega) hs (by omega) (by omega)) (fun hx41 => ?_) (fun hxn41 => ?_) | refine callEn 58 (fl := fl) (p := w) (nx_bad hj1.st (by decide) (by decide)) (by omega) (le_rd rfl (by repeat' (first | exact HasNR.bare (by omega) | refine HasNR.updB (by decide) (by decide) ?_))) (expect_ok names s w 58 fl l1 (by omega) hs (by omega) (by omega)) ?_ | refine callEp 58 (by omega) (le_rd rfl (by repeat' (first | exact HasNR.bare (by omega) | refine HasNR.updB (by decide) (by decide) ?_))) (expect_ok names s q 58 false l1 (by omega) hs (by omega) (by omega)) (fun hx58 => ?_) (fun hxn58 => ?_)) <;> simp (maxSteps := 1000000) (dsimp := false) (implicitDefEqProofs := false) (disch := omega) only [wrap64, go_sem, pR_low, pR_1, pR_0, pR_2, NR_slo, NR_slo', lo_upd, lo_high, lo_emp, RD_add, R2_add, add_emp, NR_scr, NR_scr0, set5_2, set5_3', set6_0, set6_4, set6_5, Nat.le_refl]) | (refine awp_regionSK (id := 16) 2252350644289661 [0,1,2] [3,4,5,6] [55,56,57,6,0] [0,2] [55,57,6,0] 1 (have _ := hx44; (Hp.emp.upd 6 (.cells 6 (vecF [.v (.int .i64 (3)), .v (.int .i64 (0)), .v (.int .i64 (0)), .v (.int .i64 (0)), .v (.int .i64 (ks.length)), .own 78 0 1 ks.length])))) (by kernel_rfl) (by kernel_rfl) (by kernel_rfl) ?_; simp only [List.map_cons, List.map_nil, List.take_succ_cons, List.take_zero, List.drop_succ_cons, List.drop_zero, List.cons_append, List.nil_append, opsS, pickL, linkS_nil, linkS_0, linkS_1, linkS_2, gx2VC, gxVC, upd_add, emp_add]; simp (maxSteps := 1000000) (dsimp := false) (implicitDefEqProofs := false) (disch := omega) only [upd_add, emp_add, wrap64, go_sem, pR_low, pR_1, pR_0, pR_2, NR_slo, NR_slo', lo_upd, lo_high, lo_emp, RD_add, R2_add, add_emp, NR_scr, NR_scr0, set5_2, set5_3', set6_0, set6_4, set6_5, Nat.le_refl]) | refine Ob.mk (AllH.mk fun _ => ?_) ?_ | exact True.intro | refine obLe ?_ ?_ | exact Hp.le_emp _ | refine Hp.le_upd rfl ?_ | (refine awp_regionSK (id := 16) 2252350644289661 [0,1,2] [3,4,5,6] [55,56,57,6,0] [0,2] [55,57,6,0] 1 ((Hp.emp.upd 6 (.cells 6 (vecF [.v (.int .i64 (4)), .v (.int .i64 (0)), .v (.int .i64 (0)), .v (.int .i64 (0)), .v (.int .i64 (ks.length)), .own 78 0 1 ks.length])))) (by kernel_rfl) (by kernel_rfl) (by kernel_rfl) ?_; simp only [List.map_cons, List.map_nil, List.take_succ_cons, List.take_zero, List.drop_succ_cons, List.drop_zero, List.cons_append, List.nil_append, opsS, pickL, linkS_nil, linkS_0, linkS_1, linkS_2, gx2VC, gxVC, upd_add, emp_add]; simp (maxSteps := 1000000) (dsimp := false) (implicitDefEqProofs := false) (disch := omega) only [upd_add, emp_add, wrap64, go_sem, pR_low, pR_1, pR_0, pR_2, NR_slo, NR_slo', lo_upd, lo_high, lo_emp, RD_add, R2_add, add_emp, NR_scr, NR_scr0, set5_2, set5_3', set6_0, set6_4, set6_5, Nat.le_refl]) | refine Ob.mk (AllH.mk fun _ => ?_) ?_ | exact True.intro | refine obLe ?_ ?_ | exact Hp.le_emp _ | refine Hp.le_upd rfl ?_ | refine awp_seqK fun K hK => ?_ | (refine awp_regionK 2252350644289661 rfl ?_; simp only [List.map_cons, List.map_nil]; simp (maxSteps := 1000000) (dsimp := false) (implicitDefEqProofs := false) (disch := omega) only [wrap64, go_sem, pR_low, pR_1, pR_0, pR_2, NR_slo, NR_slo', lo_upd, lo_high, lo_emp, RD_add, R2_add, add_emp, NR_scr, NR_scr0, set5_2, set5_3', set6_0, set6_4, set6_5, Nat.le_refl]) | (refine awp_regionQK 2252350644289661 (by kernel_rfl) (by kernel_rfl) (by kernel_rfl) ?_; simp only [List.map_cons, List.map_nil]; simp (maxSteps := 1000000) (dsimp := false) (implicitDefEqProofs := false) (disch := omega) only [wrap64, go_sem, pR_low, pR_1, pR_0, pR_2, NR_slo, NR_slo', lo_upd, lo_high, lo_emp, RD_add, R2_add, add_emp, NR_scr, NR_scr0, set5_2, set5_3', set6_0, set6_4, set6_5, Nat.le_refl]) | refine awp_block ?_ | (refine awp_skip ?_; simp only [go_sem, pR_low, pR_1, pR_0, pR_2, NR_slo, NR_slo', lo_upd, lo_high, lo_emp, RD_add, R2_add, add_emp, NR_scr, NR_scr0, set5_2, set5_3', set6_0, set6_4, set6_5, Nat.le_refl]) | (refine awp_exit ?_; simp only [go_sem, pR_low, pR_1, pR_0, pR_2, NR_slo, NR_slo', lo_upd, lo_high, lo_emp, RD_add, R2_add, add_emp, NR_scr, NR_scr0, set5_2, set5_3', set6_0, set6_4, set6_5, Nat.le_refl]) | (refine awp_ret ?_; try simp only [go_sem, pR_low, pR_1, pR_0, pR_2, NR_slo, NR_slo', lo_upd, lo_high, lo_emp, RD_add, R2_add, add_emp, NR_scr, NR_scr0, set5_2, set5_3', set6_0, set6_4, set6_5, Nat.le_refl]) | (refine awp_condP rfl ?_; try simp only [go_sem, pR_low, pR_1, pR_0, pR_2, NR_slo, NR_slo', lo_upd, lo_high, lo_emp, RD_add, R2_add, add_emp, NR_scr, NR_scr0, set5_2, set5_3', set6_0, set6_4, set6_5, Nat.le_refl]) | (refine BrP.mk (fun h => ?_) (fun h => ?_) <;> try simp (dsimp := false) (disch := omega) only [wrap64]) | (refine Br.mk (fun h => ?_) (fun h => ?_) <;> try simp (dsimp := false) (disch := omega) only [wrap64]) | refine Ob.mk (by first | omega | (intro _ _; rfl) | trivial | (intros; trivial) | assumption | (intro i hi; have h0 : i = 0 := (by omega); subst h0; first | rfl | trivial) | (intro i hi; have h0 : i = 0 ∨ i = 1 := (by omega); rcases h0 with rfl | rfl <;> rfl) | (intro i hi; have h0 : i = 0 ∨ i = 1 ∨ i = 2 := (by omega); rcases h0 with rfl | rfl | rfl <;> rfl)) ?_ | ((first | ((first | refine atF (f := 99) ?_ | refine atQ (f := 99) ?_); refine callRv (by omega) (le_rd rfl (by repeat' (first | exact HasNR.bare (by omega) | refine HasNR.updB (by decide) (by decide) ?_))) (next_ok names s p false l hp hs (by omega)) ?_) | ((first | refine atF (f := 116) ?_ | refine atQ (f := 116) ?_); (first | (refine cV (hac := indexByte_ok names (nxB s p false) ht.2) (hK := ?_)) | (refine cQV (hac := indexByte_ok names (nxB s p false) ht.2) (hK := ?_)))) | ((first | refine atF (f := 43) ?_ | refine atQ (f := 43) ?_); (first | (refine cV (hac := length_ok ks) (hK := ?_)) | (refine cQV (hac := length_ok ks) (hK := ?_))))); simp (maxSteps := 1000000) (dsimp := false) (implicitDefEqProofs := false) (disch := omega) only [wrap64, go_sem, pR_low, pR_1, pR_0, pR_2, NR_slo, NR_slo', lo_upd, lo_high, lo_emp, RD_add, R2_add, add_emp, NR_scr, NR_scr0, set5_2, set5_3', set6_0, set6_4, set6_5, Nat.le_refl]) | apply_assumption -exfalso -symm)
  all_goals (first | (show endQ _ _ _ _ _ _ _; (repeat (rename (∀ (A : Fr) (H : Hp), AWP _ _ _ _ A H → _) => hK; clear hK)); (repeat (rename (Fr → Hp → Prop) => K; clear K))) | (show Exists _; (repeat (rename (∀ (A : Fr) (H : Hp), AWP _ _ _ _ A H → _) => hK; clear hK)); (repeat (rename (Fr → Hp → Prop) => K; clear K))) | skip)
  all_goals first
  | (rw [pUn_no (by omega) (by omega) (by omega)]; exact end_umN (x := ⟨0, 0, 0, 0, 0, []⟩) (l := l) (p := p) (fl := true) (fun h hh => beq_iff_eq.1 hh) rfl rfl (by simp only [go_sem]; rfl) rfl (all6 rfl rfl rfl rfl rfl rfl) rfl (le_rd rfl (by repeat' (first | exact HasNR.bare (by omega) | refine HasNR.updB (by decide) (by decide) ?_))) ⟨true, l, ⟨0, 0, 0, 0, 0, []⟩, by omega, .inl rfl, by omega, by decide, rfl, rfl⟩)
  | (rw [pUn_mv (by omega)]; exact end_umN (x := ⟨1, liI names (Go.Nt.bt s p), 0, 0, 0, []⟩) (l := l) (p := p + 1) (fl := false) (fun h hh => beq_iff_eq.1 hh) rfl rfl (by simp only [go_sem]; rfl) rfl (all6 rfl rfl rfl rfl rfl rfl) rfl (le_rd rfl (by repeat' (first | exact HasNR.bare (by omega) | refine HasNR.updB (by decide) (by decide) ?_))) ⟨Nat.zero_le _, rfl, rfl⟩)
  | (rw [pUn_s0 (by omega) (by omega) e1]; exact end_um (e := 1000002) (x := ⟨2, 0, 0, 0, 0, ks⟩) (l := l1) (p := w) (fl := true) (fun h hh => beq_iff_eq.1 hh) rfl rfl (by simp only [go_sem]; rfl) rfl (all6 rfl rfl rfl rfl rfl rfl) rfl (by simp only [List.length_append, List.length_singleton]) (by decide) (.inr rfl) (le_rd rfl (by repeat' (first | exact HasNR.bare (by omega) | refine HasNR.updB (by decide) (by decide) ?_))) ⟨true, l1, ⟨2, 0, 0, 0, 0, ks⟩, by omega, .inl rfl, by omega, by simp only [List.length_append, List.length_singleton]; omega, rfl, rfl⟩)
  | (rw [pUn_s1 (by omega) (by omega) e1 (by omega)]; exact end_um (e := 1000002) (x := ⟨2, 0, 0, 0, 0, ks⟩) (l := l1) (p := q + 1) (fl := false) (fun h hh => beq_iff_eq.1 hh) rfl rfl (by simp only [go_sem]; rfl) rfl (all6 rfl rfl rfl rfl rfl rfl) rfl (by simp only [List.length_append, List.length_singleton]) (by decide) (.inr rfl) (le_rd rfl (by repeat' (first | exact HasNR.bare (by omega) | refine HasNR.updB (by decide) (by decide) ?_))) ⟨by simp only [List.length_append, List.length_singleton]; omega, rfl, rfl⟩)
  | (rw [pUn_s2 (by omega) (by omega) e1 (by omega)]; exact end_um (e := 1000002) (x := ⟨2, 0, 0, 0, 0, ks⟩) (l := l1) (p := q) (fl := true) (fun h hh => beq_iff_eq.1 hh) rfl rfl (by simp only [go_sem]; rfl) rfl (all6 rfl rfl rfl rfl rfl rfl) rfl (by simp only [List.length_append, List.length_singleton]) (by decide) (.inr rfl) (le_rd rfl (by repeat' (first | exact HasNR.bare (by omega) | refine HasNR.updB (by decide) (by decide) ?_))) ⟨true, l1, ⟨2, 0, 0, 0, 0, ks⟩, by omega, .inl rfl, by omega, by simp only [List.length_append, List.length_singleton]; omega, rfl, rfl⟩)
  | (rw [pUn_br (by omega) (by omega), pBu_0 e1]; exact end_um (e := 78) (x := ⟨4, 0, 0, 0, (ks.length : Int), ks ++ [0]⟩) (l := l1) (p := w) (fl := true) (fun h hh => beq_iff_eq.1 hh) rfl rfl (by simp only [go_sem]; rfl) rfl (all6 rfl rfl rfl rfl rfl rfl) rfl (by simp only [List.length_append, List.length_singleton]) (by decide) (.inl (by decide)) (le_rd rfl (by repeat' (first | exact HasNR.bare (by omega) | refine HasNR.updB (by decide) (by decide) ?_))) ⟨true, l1, ⟨4, 0, 0, 0, (ks.length : Int), ks ++ [0]⟩, by omega, .inl rfl, by omega, by simp only [List.length_append, List.length_singleton]; omega, rfl, rfl⟩)
  | (rw [pUn_br (by omega) (by omega), pBu_1 e1 (by omega)]; exact end_um (e := 78) (x := ⟨4, 0, 0, 0, (ks.length : Int), ks ++ [0]⟩) (l := l1) (p := q) (fl := true) (fun h hh => beq_iff_eq.1 hh) rfl rfl (by simp only [go_sem]; rfl) rfl (all6 rfl rfl rfl rfl rfl rfl) rfl (by simp only [List.length_append, List.length_singleton]) (by decide) (.inl (by decide)) (le_rd rfl (by repeat' (first | exact HasNR.bare (by omega) | refine HasNR.updB (by decide) (by decide) ?_))) ⟨true, l1, ⟨4, 0, 0, 0, (ks.length : Int), ks ++ [0]⟩, by omega, .inl rfl, by omega, by simp only [List.length_append, List.length_singleton]; omega, rfl, rfl⟩)
  | (rw [pUn_br (by omega) (by omega), pBu_2 e1 (by omega) e2]; exact end_um (e := 78) (x := ⟨3, 0, 0, 0, (ks.length : Int), ks ++ k2⟩) (l := l2) (p := w2) (fl := true) (fun h hh => beq_iff_eq.1 hh) rfl rfl (by simp only [go_sem]; rfl) rfl (all6 rfl rfl rfl rfl rfl rfl) rfl (by simp only [List.length_append, List.length_singleton]) (by decide) (.inl (by decide)) (le_rd rfl (by repeat' (first | exact HasNR.bare (by omega) | refine HasNR.updB (by decide) (by decide) ?_))) ⟨true, l2, ⟨3, 0, 0, 0, (ks.length : Int), ks ++ k2⟩, by omega, .inl rfl, by omega, by simp only [List.length_append, List.length_singleton]; omega, rfl, rfl⟩)
  | (rw [pUn_br (by omega) (by omega), pBu_3 e1 (by omega) e2 (by omega)]; exact end_um (e := 78) (x := ⟨3, 0, 0, 0, (ks.length : Int), ks ++ k2⟩) (l := l2) (p := q2) (fl := true) (fun h hh => beq_iff_eq.1 hh) rfl rfl (by simp only [go_sem]; rfl) rfl (all6 rfl rfl rfl rfl rfl rfl) rfl (by simp only [List.length_append, List.length_singleton]) (by decide) (.inl (by decide)) (le_rd rfl (by repeat' (first | exact HasNR.bare (by omega) | refine HasNR.updB (by decide) (by decide) ?_))) ⟨true, l2, ⟨3, 0, 0, 0, (ks.length : Int), ks ++ k2⟩, by omega, .inl rfl, by omega, by simp only [List.length_append, List.length_singleton]; omega, rfl, rfl⟩)
  | (rw [pUn_br (by omega) (by omega), pBu_5 e1 (by omega) e2 (by omega)]; exact end_um (e := 78) (x := ⟨3, 0, 0, 0, (ks.length : Int), ks ++ k2⟩) (l := l2) (p := q2 + 1) (fl := false) (fun h hh => beq_iff_eq.1 hh) rfl rfl (by simp only [go_sem]; rfl) rfl (all6 rfl rfl rfl rfl rfl rfl) rfl (by simp only [List.length_append, List.length_singleton]) (by decide) (.inl (by decide)) (le_rd rfl (by repeat' (first | exact HasNR.bare (by omega) | refine HasNR.updB (by decide) (by decide) ?_))) ⟨by simp only [List.length_append, List.length_singleton]; omega, rfl, rfl⟩)
  | (rw [pUn_br (by omega) (by omega), pBu_2 e1 (by omega) e2]; exact end_um (e := 78) (x := ⟨4, 0, 0, 0, (ks.length : Int), ks ++ k2⟩) (l := l2) (p := w2) (fl := true) (fun h hh => beq_iff_eq.1 hh) rfl rfl (by simp only [go_sem]; rfl) rfl (all6 rfl rfl rfl rfl rfl rfl) rfl (by simp only [List.length_append, List.length_singleton]) (by decide) (.inl (by decide)) (le_rd rfl (by repeat' (first | exact HasNR.bare (by omega) | refine HasNR.updB (by decide) (by decide) ?_))) ⟨true, l2, ⟨4, 0, 0, 0, (ks.length : Int), ks ++ k2⟩, by omega, .inl rfl, by omega, by simp only [List.length_append, List.length_singleton]; omega, rfl, rfl⟩)
  | (rw [pUn_br (by omega) (by omega), pBu_3 e1 (by omega) e2 (by omega)]; exact end_um (e := 78) (x := ⟨4, 0, 0, 0, (ks.length : Int), ks ++ k2⟩) (l := l2) (p := q2) (fl := true) (fun h hh => beq_iff_eq.1 hh) rfl rfl (by simp only [go_sem]; rfl) rfl (all6 rfl rfl rfl rfl rfl rfl) rfl (by simp only [List.length_append, List.length_singleton]) (by decide) (.inl (by decide)) (le_rd rfl (by repeat' (first | exact HasNR.bare (by omega) | refine HasNR.updB (by decide) (by decide) ?_))) ⟨true, l2, ⟨4, 0, 0, 0, (ks.length : Int), ks ++ k2⟩, by omega, .inl rfl, by omega, by simp only [List.length_append, List.length_singleton]; omega, rfl, rfl⟩)
  | (rw [pUn_br (by omega) (by omega), pBu_4 e1 (by omega) e2 (by omega)]; exact end_um (e := 78) (x := ⟨4, 0, 0, 0, (ks.length : Int), ks ++ k2⟩) (l := l2) (p := q2 + 1) (fl := false) (fun h hh => beq_iff_eq.1 hh) rfl rfl (by simp only [go_sem]; rfl) rfl (all6 rfl rfl rfl rfl rfl rfl) rfl (by simp only [List.length_append, List.length_singleton]) (by decide) (.inl (by decide)) (le_rd rfl (by repeat' (first | exact HasNR.bare (by omega) | refine HasNR.updB (by decide) (by decide) ?_))) ⟨by simp only [List.length_append, List.length_singleton]; omega, rfl, rfl⟩)
end Go.Proofs.YticbabpajligbaaDoor
end
/- ParseNotation, the reference. -/
section
namespace Go.Proofs.YticbabpajligbaaDoor
open Go.Av
set_option linter.unusedSimpArgs false
set_option linter.unusedVariables false
attribute [local irreducible] AWP CallG Ob Br BrP Go.Av.Sub endQ AOps OpV AC thenA blkA opsVC opVC withA withArgs opsQ opQ CallQ withA2 withArgs2
open Go.Nt (Nd nd0 kd li liF dig pInv pSuf pItem pSeq Pr Goes nmOk pItem_goes pSeq_goes)
theorem nm_ok {names : ByteArray} (h : nmP names) : nmOk names := ⟨h.1.2, fun j hj => by have := (h.2 j hj).1; unfold bt at this; omega⟩
/-- What ParseNotation answers. -/
def parP (names s : ByteArray) : List Nd × Int :=
  if ¬ nmP names ∨ 400 < s.size then ([], -2)
  else if s.size = 0 then ([⟨2, 0, 1, 0, 0, []⟩], -1)
  else match pSeq names s (2 * s.size + 2) 0 [] [] with
    | .out => ([], 0)
    | .bad w => ([], (w : Int))
    | .ok q l ks => if q < s.size then ([], (q : Int)) else if 200 ≤ l.length then ([], -3) else (l ++ [⟨2, 0, 1, 0, 0, ks⟩], -1)
def rho0 (g : Nat) : Option Nat := if g = 1000000 then none else some g
theorem rho0_inj {x y k : Nat} (h1 : rho0 x = some k) (h2 : rho0 y = some k) : x = y := by
  unfold rho0 at h1 h2
  split at h1
  · cases h1
  · split at h2
    · cases h2
    · simp only [Option.some.injEq] at h1 h2; omega
theorem ba_empty {s : ByteArray} (h : s.size = 0) : s = ⟨#[]⟩ := by
  cases s with
  | mk d => congr 1; exact Array.eq_empty_of_size_eq_zero h
theorem ba_ne {s : ByteArray} (h : ¬ s.size = 0) : (s.toList == (⟨#[]⟩ : ByteArray).toList) = false := by
  rw [beq_eq_false_iff_ne]
  intro e
  have h2 := congrArg List.length e
  rw [Go.Lib.toList_data, Go.Lib.toList_data] at h2
  simp at h2
  exact h (by simp [ByteArray.size, h2])
end Go.Proofs.YticbabpajligbaaDoor
end
/- The program's reader of notations: all of it. -/
section
namespace Go.Proofs.YticbabpajligbaaDoor
open Go.Av
set_option linter.unusedSimpArgs false
set_option linter.unusedVariables false
attribute [local irreducible] AWP CallG Ob Br BrP Go.Av.Sub endQ AOps OpV AC thenA blkA opsVC opVC withA withArgs opsQ opQ CallQ withA2 withArgs2
open Go.Nt (Nd nd0 kd li liF dig pInv pSuf pItem pSeq Pr Goes nmOk pItem_goes pSeq_goes)
theorem imp_all {names s : ByteArray} (hn : nmOk names) (hs : s.size ≤ 400) : ∀ f, ImOk names s f ∧ UmOk names s f ∧ SmOk names s f := by
  intro f
  induction f using Nat.strongRecOn with
  | _ f ih =>
    have hI : ImOk names s f := by
      cases f with
      | zero => intro p l hp hl hf; omega
      | succ f => exact im_step hn hs (ih f (by omega)).2.1
    have hS : SmOk names s f := sm_step hn hs fun g hg => (ih g hg).1
    exact ⟨hI, um_step hn hs hS, hS⟩
/-- A row of nodes of our own beside a number. -/
def postP (xs : List Nd) (c : Int) : AV → Hp → Prop := fun r H => r = .tup 2 (vecF [.own 1000000 0 6 xs.length, .v (.int .i64 (c))]) ∧ H = NR xs xs.length xs.length
/-- What lies in memory when the program's reading begins. -/
def hW (names s : ByteArray) : Hp := (RD names s 0 false []).upd 7 (.cells 6 (vecF [.v (.int .i64 (2)), .v (.int .i64 (0)), .v (.int .i64 (1)), .v (.int .i64 (0)), .v (.int .i64 (0)), .v (.slice none 0 0)]))
def rhoW (g : Nat) : Option Nat := if g = 1000001 then some 19 else if g = 1000000 then none else some g
theorem rhoW_inj {x y k : Nat} (hx : x ≠ 19) (hy : y ≠ 19) (h1 : rhoW x = some k) (h2 : rhoW y = some k) : x = y := by
  unfold rhoW at h1 h2
  split at h1 <;> split at h2 <;> (try split at h1) <;> (try split at h2) <;> simp only [Option.some.injEq, reduceCtorEq] at h1 h2 <;> omega
theorem hW_ne {names s : ByteArray} {h : Nat} (hn : hW names s h ≠ none) : h ≠ 19 := by
  rintro rfl
  unfold hW Hp.upd at hn
  rw [if_neg (by decide)] at hn
  have := rd_low' hn
  omega
theorem NR_nil : NR [] 0 0 = Hp.emp.upd 1000000 (.cells 0 (nmF [] 0)) := by
  funext h
  unfold NR Hp.upd Hp.emp
  by_cases e : h = 1000000
  · rw [if_pos e, if_pos e]
  · rw [if_neg e, if_neg e, if_neg (by omega)]
theorem hW_lay {H : Hp} {names s : ByteArray} {f g : Nat → AV} (h19 : H 19 = some (.cells 5 f)) (h7 : H 7 = some (.cells 6 g)) (hf : ∀ i, i < 5 → f i = vecF [.v (.string (names)), .v (.string (s)), .v (.int .i64 (0)), .v (.bool (false)), .v (.slice none 0 0)] i) (hg : ∀ i, i < 6 → g i = vecF [.v (.int .i64 (2)), .v (.int .i64 (0)), .v (.int .i64 (1)), .v (.int .i64 (0)), .v (.int .i64 (0)), .v (.slice none 0 0)] i) : LayF rhoW (hW names s) H := by
  unfold hW RD
  refine layF_upd (g := 7) rfl h7 (fun i hi => ?_) (layF_upd (g := 19) rfl h19 (fun i hi => ?_) (by rw [List.length_nil, NR_nil]; exact layF_nil rfl layF_emp))
  · rw [hg i hi]
    match i, hi with
    | 0, _ => exact .plain trivial
    | 1, _ => exact .plain trivial
    | 2, _ => exact .plain trivial
    | 3, _ => exact .plain trivial
    | 4, _ => exact .plain trivial
    | 5, _ => exact .plain trivial
  · rw [hf i hi]
    match i, hi with
    | 0, _ => exact .plain trivial
    | 1, _ => exact .plain trivial
    | 2, _ => exact .plain trivial
    | 3, _ => exact .plain trivial
    | 4, _ => exact .nil rfl
section
variable {P : Program} {N : Cx} {A A' : Fr} {H H' : Hp} {names s : ByteArray} {l : List Nd}
/-- The end of a reading that fails. -/
theorem end_pb {fn : Func} {t u : Tmp} {c : Int} {post : AV → Hp → Prop} (hpn : N.pn = fun _ => false) (hr : fn.results.toList = [.tmp t, .tmp u]) (htu : t ≠ u) (ht : A.get t = some (.v (.slice none 0 0))) (hu : A.get u = some (.v (.int .i64 (c)))) (hp : post (.tup 2 (vecF [.own 1000000 0 6 ([] : List Nd).length, .v (.int .i64 (c))])) (NR [] 0 0)) : endQ P N fn post .ret A H := by
  unfold endQ
  refine ⟨[(t, .own 1000000 0 6 0), (u, .v (.int .i64 (c)))], NR [] 0 0, Sub.layM rho0 hpn (lay_cons ⟨_, ht, .nil rfl⟩ (lay_cons ⟨_, hu, .plain trivial⟩ lay_nil)) (by rw [NR_nil]; exact layF_nil rfl layF_emp) (fun x y k _ _ e1 e2 => rho0_inj e1 e2), ?_⟩
  rw [hr]
  simp only [resVC, Fr.get, htu, if_true, if_false, withA_some]
  exact hp
/-- The end of a reading that succeeds: the last node's children bear the name e, if they lie anywhere. -/
theorem end_pg {fn : Func} {t u : Tmp} {M : Nat} {g : Nat → AV} {y : Nd} {b : AV} {post : AV → Hp → Prop} (hx : l.length ≤ 1000) (hpn : N.pn = fun _ => false) (hr : fn.results.toList = [.tmp t, .tmp u]) (htu : t ≠ u) (hA : A.get t = some (.own 1000000 0 6 (l.length + 1))) (hu : A.get u = some (.v (.int .i64 (-1)))) (h0 : H 1000000 = some (.cells M (apF (l.length * 6) (nmF l l.length) g))) (hM : M = (l.length + 1) * 6) (hg : ∀ i, i < 6 → g i = nO b y i)
    (hb : (b = .own 1000002 0 1 y.kids.length ∧ H 1000002 = some (.cells y.kids.length (cM iv 0 y.kids))) ∨ (b = .v (.slice none 0 0) ∧ y.kids = [])) (h3 : ∀ i, i < l.length → H (sub 1000000 i) = some (.cells (kd l i).length (cM iv 0 (kd l i)))) (hp : post (.tup 2 (vecF [.own 1000000 0 6 (l ++ [y]).length, .v (.int .i64 (-1))])) (NR (l ++ [y]) (l ++ [y]).length (l ++ [y]).length)) : endQ P N fn post .ret A H := by
  subst hM
  have el : (l ++ [y]).length = l.length + 1 := by rw [List.length_append, List.length_singleton]
  rw [el] at hp
  have gk : ∀ i, i < l.length → kd (l ++ [y]) i = kd l i := fun i hi => by simp [kd, List.getD_eq_getElem?_getD, List.getElem?_append, hi]
  have gl : kd (l ++ [y]) l.length = y.kids := by simp [kd, List.getD_eq_getElem?_getD]
  have gd : ∀ i, i < l.length → (l ++ [y]).getD i nd0 = l.getD i nd0 := fun i hi => by simp [List.getD_eq_getElem?_getD, List.getElem?_append, hi]
  have gy : (l ++ [y]).getD l.length nd0 = y := by simp [List.getD_eq_getElem?_getD]
  have hi : ∀ i, i < l.length + 1 → i < FB := fun i hi => by rw [FB_eq]; omega
  obtain ⟨ρ, hρ1, hρ2, hρ3⟩ : ∃ ρ : Nat → Option Nat, (∀ g, g ≠ sub 1000000 l.length → ρ g = some g) ∧ ((ρ (sub 1000000 l.length) = some 1000002 ∧ b = .own 1000002 0 1 y.kids.length ∧ H 1000002 = some (.cells y.kids.length (cM iv 0 y.kids))) ∨ (ρ (sub 1000000 l.length) = none ∧ b = .v (.slice none 0 0) ∧ y.kids = [])) ∧ True := by
    rcases hb with h | h
    · exact ⟨fun g => if g = sub 1000000 l.length then some 1000002 else some g, fun g hg => if_neg hg, .inl ⟨if_pos rfl, h.1, h.2⟩, trivial⟩
    · exact ⟨fun g => if g = sub 1000000 l.length then none else some g, fun g hg => if_neg hg, .inr ⟨if_pos rfl, h.1, h.2⟩, trivial⟩
  have hsg : sub 1000000 l.length ≠ 1000000 := by have := sub_ge 1000000 l.length; rw [FB_eq] at this; omega
  have hρs : ∀ i, i < l.length → ρ (sub 1000000 i) = some (sub 1000000 i) := fun i hlt => hρ1 _ (fun e => by have := (sub_inj (hi i (by omega)) (hi _ (by omega)) e).2; omega)
  have hρ0 : ρ 1000000 = some 1000000 := hρ1 _ (Ne.symm hsg)
  unfold endQ
  refine ⟨[(t, .own 1000000 0 6 (l.length + 1)), (u, .v (.int .i64 (-1)))], NR (l ++ [y]) (l.length + 1) (l.length + 1), Sub.layM ρ hpn (lay_cons ⟨_, hA, .own hρ0⟩ (lay_cons ⟨_, hu, .plain trivial⟩ lay_nil)) (fun h B' hB => ?_) (fun a b k ha hb e1 e2 => ?_), by rw [hr]; simp only [resVC, Fr.get, htu, if_true, if_false, withA_some]; exact hp⟩
  · rcases NR_cases hB with ⟨rfl, rfl⟩ | ⟨i, hlt, rfl, rfl⟩
    · refine .inl ⟨1000000, (l.length + 1) * 6, _, _, hρ0, rfl, h0, fun j hj => ?_⟩
      unfold apF nmF
      rw [if_pos hj]
      by_cases c1 : j < l.length * 6
      · rw [if_pos c1]
        simp only [c1, if_true]
        rw [gk _ (by omega)]
        by_cases c2 : j % 6 = 5
        · simp only [c2, if_true]; exact .own (hρs _ (by omega))
        · simp only [c2, if_false]
          have : ndF (l ++ [y]) j = ndF l j := by unfold ndF; rw [gd _ (by omega)]
          rw [this]; exact .plain (ndF_plain l j).1
      · rw [if_neg c1, hg _ (by omega)]
        have e6 : j / 6 = l.length := by omega
        rw [e6, gl]
        by_cases c2 : j % 6 = 5
        · rw [if_pos c2, show j - l.length * 6 = 5 by omega]
          rcases hρ2 with ⟨r1, r2, r3⟩ | ⟨r1, r2, r3⟩
          · show Lay ρ b _
            rw [r2]; exact .own r1
          · show Lay ρ b _
            rw [r2, r3]; exact .nil r1
        · rw [if_neg c2]
          have e7 : nO b y (j - l.length * 6) = ndF (l ++ [y]) j := by
            unfold ndF
            rw [e6, gy, show j % 6 = j - l.length * 6 by omega]
            have hlt : j - l.length * 6 < 5 := by omega
            match j - l.length * 6, hlt with
            | 0, _ => rfl
            | 1, _ => rfl
            | 2, _ => rfl
            | 3, _ => rfl
            | 4, _ => rfl
          rw [e7]
          exact .plain (ndF_plain _ j).1
    · by_cases e : i = l.length
      · subst e
        rw [gl]
        rcases hρ2 with ⟨r1, r2, r3⟩ | ⟨r1, r2, r3⟩
        · exact .inl ⟨1000002, _, _, _, r1, rfl, r3, fun j hj => .plain trivial⟩
        · rw [r3]; exact .inr (.inl ⟨r1, _, rfl⟩)
      · rw [gk i (by omega)]
        exact .inl ⟨sub 1000000 i, _, _, _, hρs i (by omega), rfl, h3 i (by omega), fun j hj => .plain trivial⟩
  · have key : ∀ a, NR (l ++ [y]) (l.length + 1) (l.length + 1) a ≠ none → a ≠ 1000002 := fun a ha e => by
      subst e
      cases hB : NR (l ++ [y]) (l.length + 1) (l.length + 1) 1000002 with
      | none => exact ha hB
      | some B =>
        rcases NR_cases hB with ⟨e, _⟩ | ⟨i, _, e, _⟩
        · omega
        · have := sub_ge 1000000 i; rw [FB_eq] at this; omega
    have k1 := key a ha
    have k2 := key b hb
    by_cases c1 : a = sub 1000000 l.length <;> by_cases c2 : b = sub 1000000 l.length
    · rw [c1, c2]
    · rw [c1] at e1; rw [hρ1 b c2] at e2
      rcases hρ2 with ⟨r1, _⟩ | ⟨r1, _⟩ <;> rw [r1] at e1 <;> simp only [Option.some.injEq, reduceCtorEq] at e1 e2
      omega
    · rw [c2] at e2; rw [hρ1 a c1] at e1
      rcases hρ2 with ⟨r1, _⟩ | ⟨r1, _⟩ <;> rw [r1] at e2 <;> simp only [Option.some.injEq, reduceCtorEq] at e1 e2
      omega
    · rw [hρ1 a c1] at e1; rw [hρ1 b c2] at e2; simp only [Option.some.injEq] at e1 e2; omega
end
theorem callS3n {P : Program} {N : Cx} {A : Fr} {H : Hp} {names s : ByteArray} {p : Nat} {l : List Nd} {f : FuncId} {args : List AV} {R : Pr (List Int)} {K : AV → Fr → Hp → Prop} (hs : s.size ≤ 400) (hn : l.length ≤ 1000) (hR : ∀ q l' u, R = .ok q l' u → l'.length ≤ 1048576) (hH : Hp.le (RD names s p false l) H) (hac : AC P f args (RD names s p false l) (· == 1000001) (postSm names s p l R)) (hpn : ∀ h, N.pn h = true → h = 1000001)
    (h1 : ∀ w l' ks, R = .bad w → Junk s p w true l.length l'.length → ks.length ≤ w - p + 1 → K (.own 1000002 0 1 ks.length) (A.scrub pR) ((R2 names s w true l' ks).add (H.scrub pR).lo))
    (h2 : ∀ w l' ks, R = .bad w → w < s.size → Junk s p w false l.length l'.length → ks.length ≤ w - p + 1 → K (.own 1000002 0 1 ks.length) (A.scrub pR) ((R2 names s w false l' ks).add (H.scrub pR).lo))
    (h3 : ∀ q l' ks, R = .ok q l' ks → K (.own 1000002 0 1 ks.length) (A.scrub pR) ((R2 names s q false l' ks).add (H.scrub pR).lo)) : CallG P N f args A H K := by
  refine callSm hs hn hR hH hac hpn (fun w fl l' ks e j k => ?_) h3
  cases fl with
  | true => exact h1 w l' ks e j k
  | false =>
    have h0 := (bt_in s w).1
    rcases j.st with h | h
    · cases h
    · exact h2 w l' ks e (by omega) j k
set_option maxHeartbeats 4000000 in
theorem implParseNotation_ok (names s : ByteArray) (hns : names.size ≤ 1048576) (hs : s.size ≤ 1048576) : AC Tryd.prog 20 [.v (.string (names)), .v (.string (s))] Hp.emp (fun _ => false) (postP (parP names s).1 (parP names s).2) := by
  by_cases hN : nmP names
  · have hd : decide ((1 ≤ names.size ∧ names.size ≤ 8) ∧ ∀ i, i < names.size → isName names i) = true := decide_eq_true hN
    by_cases h4 : s.size ≤ 400
    · have hcond : ¬ (¬ nmP names ∨ 400 < s.size) := fun h => h.elim (fun h => h hN) (fun h => by omega)
      by_cases h0 : s.size = 0
      · have e0 := ba_empty h0
        subst e0
        have pp : parP names ⟨#[]⟩ = ([] ++ [⟨2, 0, 1, 0, 0, []⟩], -1) := by
          unfold parP; rw [if_neg hcond, if_pos h0]; rfl
        have pp := Hold.mk pp
        clear hcond
        refine ac_of_awp (N := ⟨_, fun _ => false, fun _ _ => rfl, true⟩) Tryd.func20 rfl (by kernel_rfl) Tryd.ntmps20 (by simp) ?_
        simp only [argsFr, List.zipIdx_cons, List.zipIdx_nil, go_sem]
        repeat' (first | (show False; omega) | (refine Ob.mk (all5 rfl rfl rfl rfl rfl) ?_) | (refine Ob.mk (all6 rfl rfl rfl rfl rfl rfl) ?_) | (refine awp_cutR 5 7 (A' := [(6, .ref 1000001 0), (7, .ref 7 0), (1, .v (.string (⟨#[]⟩)))]) (H' := hW names ⟨#[]⟩) (Sub.layM rhoW rfl (lay_cons ⟨_, rfl, .ref rfl⟩ (lay_cons ⟨_, rfl, .ref rfl⟩ (lay_cons ⟨_, rfl, .plain trivial⟩ lay_nil))) (hW_lay rfl rfl (all5 rfl rfl rfl rfl rfl) (all6 rfl rfl rfl rfl rfl rfl)) (fun x y k hx hy e1 e2 => rhoW_inj (hW_ne hx) (hW_ne hy) e1 e2)) ?_; unfold hW) | (refine awp_regionSK (id := 9) 288230651033846003 [0,1,2,3,4,5] [6,7,8,9,10] [43,44,45,46,47,48,6,7] [0,1,2,3] [43,44,45,46,6] 1 ((Hp.emp.upd 1000001 (.cells 5 (vecF [.v (.string (names)), .v (.string (⟨#[]⟩)), .v (.int .i64 ((0 : Nat))), .v (.bool (false)), .own 1000000 0 6 0]))).upd 7 (.cells 6 (vecF [.v (.int .i64 (2)), .v (.int .i64 (0)), .v (.int .i64 (1)), .v (.int .i64 (0)), .v (.int .i64 (0)), .v (.slice none 0 0)]))) (by kernel_rfl) (by kernel_rfl) (by kernel_rfl) ?_; simp only [List.map_cons, List.map_nil, List.take_succ_cons, List.take_zero, List.drop_succ_cons, List.drop_zero, List.cons_append, List.nil_append, opsS, pickL, linkS_nil, linkS_0, linkS_1, linkS_2, gx2VC, gxVC, upd_add, emp_add]; simp (maxSteps := 1000000) (dsimp := false) (implicitDefEqProofs := false) (disch := omega) only [upd_add, emp_add, wrap64, go_sem, pR_low, pR_1, pR_0, pR_2, NR_slo, NR_slo', lo_upd, lo_high, lo_emp, RD_add, R2_add, add_emp, NR_scr, NR_scr0, nmF_scF0, set5_2, set5_3', set5_4, set6_0, set6_4, set6_5, Nat.le_refl, List.getElem?_cons_zero, List.getElem?_cons_succ, hd, beq_self_eq_true, List.length_nil, nO]) | refine Ob.mk (AllH.mk fun _ => ?_) ?_ | exact True.intro | refine obLe ?_ ?_ | exact Hp.le_emp _ | refine Hp.le_upd rfl ?_ | refine awp_seqK fun K hK => ?_ | (refine awp_regionK 288230651033846003 rfl ?_; simp only [List.map_cons, List.map_nil]; simp (maxSteps := 1000000) (dsimp := false) (implicitDefEqProofs := false) (disch := omega) only [wrap64, go_sem, pR_low, pR_1, pR_0, pR_2, NR_slo, NR_slo', lo_upd, lo_high, lo_emp, RD_add, R2_add, add_emp, NR_scr, NR_scr0, nmF_scF0, set5_2, set5_3', set5_4, set6_0, set6_4, set6_5, Nat.le_refl, List.getElem?_cons_zero, List.getElem?_cons_succ, hd, beq_self_eq_true, List.length_nil, nO]) | (refine awp_regionQK 288230651033846003 (by kernel_rfl) (by kernel_rfl) (by kernel_rfl) ?_; simp only [List.map_cons, List.map_nil]; simp (maxSteps := 1000000) (dsimp := false) (implicitDefEqProofs := false) (disch := omega) only [wrap64, go_sem, pR_low, pR_1, pR_0, pR_2, NR_slo, NR_slo', lo_upd, lo_high, lo_emp, RD_add, R2_add, add_emp, NR_scr, NR_scr0, nmF_scF0, set5_2, set5_3', set5_4, set6_0, set6_4, set6_5, Nat.le_refl, List.getElem?_cons_zero, List.getElem?_cons_succ, hd, beq_self_eq_true, List.length_nil, nO]) | refine awp_block ?_ | (refine awp_skip ?_; simp only [go_sem, pR_low, pR_1, pR_0, pR_2, NR_slo, NR_slo', lo_upd, lo_high, lo_emp, RD_add, R2_add, add_emp, NR_scr, NR_scr0, nmF_scF0, set5_2, set5_3', set5_4, set6_0, set6_4, set6_5, Nat.le_refl, List.getElem?_cons_zero, List.getElem?_cons_succ, hd, beq_self_eq_true, List.length_nil, nO]) | (refine awp_exit ?_; simp only [go_sem, pR_low, pR_1, pR_0, pR_2, NR_slo, NR_slo', lo_upd, lo_high, lo_emp, RD_add, R2_add, add_emp, NR_scr, NR_scr0, nmF_scF0, set5_2, set5_3', set5_4, set6_0, set6_4, set6_5, Nat.le_refl, List.getElem?_cons_zero, List.getElem?_cons_succ, hd, beq_self_eq_true, List.length_nil, nO]) | (refine awp_ret ?_; try simp only [go_sem, pR_low, pR_1, pR_0, pR_2, NR_slo, NR_slo', lo_upd, lo_high, lo_emp, RD_add, R2_add, add_emp, NR_scr, NR_scr0, nmF_scF0, set5_2, set5_3', set5_4, set6_0, set6_4, set6_5, Nat.le_refl, List.getElem?_cons_zero, List.getElem?_cons_succ, hd, beq_self_eq_true, List.length_nil, nO]) | (refine awp_condP rfl ?_; try simp only [go_sem, pR_low, pR_1, pR_0, pR_2, NR_slo, NR_slo', lo_upd, lo_high, lo_emp, RD_add, R2_add, add_emp, NR_scr, NR_scr0, nmF_scF0, set5_2, set5_3', set5_4, set6_0, set6_4, set6_5, Nat.le_refl, List.getElem?_cons_zero, List.getElem?_cons_succ, hd, beq_self_eq_true, List.length_nil, nO]) | (refine BrP.mk (fun h => ?_) (fun h => ?_) <;> try simp (dsimp := false) (disch := omega) only [wrap64]) | (refine Br.mk (fun h => ?_) (fun h => ?_) <;> try simp (dsimp := false) (disch := omega) only [wrap64]) | refine Ob.mk (by first | omega | (intro _ _; rfl) | trivial | (intros; trivial) | assumption | (intro i hi; have h0 : i = 0 := (by omega); subst h0; first | rfl | trivial) | (intro i hi; have h0 : i = 0 ∨ i = 1 := (by omega); rcases h0 with rfl | rfl <;> rfl) | (intro i hi; have h0 : i = 0 ∨ i = 1 ∨ i = 2 := (by omega); rcases h0 with rfl | rfl | rfl <;> rfl)) ?_ | ((first | ((first | refine atF (f := 37) ?_ | refine atQ (f := 37) ?_); (first | (refine cV (hac := isNames_ok names (by omega)) (hK := ?_)) | (refine cQV (hac := isNames_ok names (by omega)) (hK := ?_))))); simp (maxSteps := 1000000) (dsimp := false) (implicitDefEqProofs := false) (disch := omega) only [wrap64, go_sem, pR_low, pR_1, pR_0, pR_2, NR_slo, NR_slo', lo_upd, lo_high, lo_emp, RD_add, R2_add, add_emp, NR_scr, NR_scr0, nmF_scF0, set5_2, set5_3', set5_4, set6_0, set6_4, set6_5, Nat.le_refl, List.getElem?_cons_zero, List.getElem?_cons_succ, hd, beq_self_eq_true, List.length_nil, nO]) | apply_assumption -exfalso -symm)
        all_goals (first | (show endQ _ _ _ _ _ _ _; (repeat (rename (∀ (A : Fr) (H : Hp), AWP _ _ _ _ A H → _) => hK; clear hK)); (repeat (rename (Fr → Hp → Prop) => K; clear K))) | (show Exists _; (repeat (rename (∀ (A : Fr) (H : Hp), AWP _ _ _ _ A H → _) => hK; clear hK)); (repeat (rename (Fr → Hp → Prop) => K; clear K))) | skip)
        rw [pp.h]
        exact end_pg (l := []) (y := ⟨2, 0, 1, 0, 0, []⟩) (b := .v (.slice none 0 0)) (by decide) rfl rfl (by decide) rfl rfl rfl rfl (all6 rfl rfl rfl rfl rfl rfl) (.inr ⟨rfl, rfl⟩) (fun i hi => absurd hi (Nat.not_lt_zero _)) ⟨rfl, rfl⟩
      · have hne := ba_ne h0
        have hnm := nm_ok hN
        have hS := (imp_all (s := s) hnm h4 (2 * s.size + 2)).2.2
        have pp : parP names s = match pSeq names s (2 * s.size + 2) 0 [] [] with
            | .out => ([], 0)
            | .bad w => ([], (w : Int))
            | .ok q l ks => if q < s.size then ([], (q : Int)) else if 200 ≤ l.length then ([], -3) else (l ++ [⟨2, 0, 1, 0, 0, ks⟩], -1) := by
          (unfold parP; rw [if_neg hcond, if_neg h0]) <;> rfl
        have pp := Hold.mk pp
        clear hcond
        refine ac_of_awp (N := ⟨_, fun _ => false, fun _ _ => rfl, true⟩) Tryd.func20 rfl (by kernel_rfl) Tryd.ntmps20 (by simp) ?_
        simp only [argsFr, List.zipIdx_cons, List.zipIdx_nil, go_sem]
        repeat' (first | (show False; omega) | (refine Ob.mk (all5 rfl rfl rfl rfl rfl) ?_) | (refine Ob.mk (all6 rfl rfl rfl rfl rfl rfl) ?_) | (refine awp_cutR 5 7 (A' := [(6, .ref 1000001 0), (7, .ref 7 0), (1, .v (.string (s)))]) (H' := hW names s) (Sub.layM rhoW rfl (lay_cons ⟨_, rfl, .ref rfl⟩ (lay_cons ⟨_, rfl, .ref rfl⟩ (lay_cons ⟨_, rfl, .plain trivial⟩ lay_nil))) (hW_lay rfl rfl (all5 rfl rfl rfl rfl rfl) (all6 rfl rfl rfl rfl rfl rfl)) (fun x y k hx hy e1 e2 => rhoW_inj (hW_ne hx) (hW_ne hy) e1 e2)) ?_; unfold hW) | ((first | refine atF (f := 52) ?_ | refine atQ (f := 52) ?_); (refine callS3n (p := 0) (l := []) h4 (by decide) (fun q l' u e => by have := sq_g hnm (by omega) (by omega) e; rw [List.length_nil] at this; omega) (le_rd rfl (by repeat' (first | exact HasNR.bare (by omega) | exact HasNR.bare (by decide) | refine HasNR.updB (by decide) (by decide) ?_))) (hS 0 [] (by omega) (by decide) (by omega)) (fun h hh => by simp at hh) (fun w l1 ks e1 hj1 hk => have hb1 : w ≤ s.size ∧ l1.length ≤ w + 1 := (by have h1 := hj1.le; have h2 := hj1.len; simp only [List.length_nil] at h1 h2; omega); ?_) (fun w l1 ks e1 hw hj1 hk => have hb1 : w ≤ s.size ∧ l1.length ≤ w + 1 := (by have h1 := hj1.le; have h2 := hj1.len; simp only [List.length_nil] at h1 h2; omega); ?_) (fun q l1 ks e1 => have hb1 : q ≤ s.size ∧ l1.length ≤ q ∧ ks.length ≤ l1.length := (by have h1 := sq_g hnm (by omega) (by omega) e1; have h2 := sq_ks0 hnm (by omega) (by omega) e1; simp only [List.length_nil] at h1 h2; omega); ?_)) <;> simp (maxSteps := 1000000) (dsimp := false) (implicitDefEqProofs := false) (disch := omega) only [wrap64, go_sem, pR_low, pR_1, pR_0, pR_2, NR_slo, NR_slo', lo_upd, lo_high, lo_emp, RD_add, R2_add, add_emp, NR_scr, NR_scr0, nmF_scF0, set5_2, set5_3', set5_4, set6_0, set6_4, set6_5, Nat.le_refl, List.getElem?_cons_zero, List.getElem?_cons_succ, hd, hne, List.length_nil, nO]) | (refine awp_regionSK (id := 9) 288230651033846003 [0,1,2,3,4,5] [6,7,8,9,10] [43,44,45,46,47,48,6,7] [0,1,2,3] [43,44,45,46,6] 1 ((Hp.emp.upd 1000001 (.cells 5 (vecF [.v (.string (names)), .v (.string (s)), .v (.int .i64 ((q : Nat))), .v (.bool (false)), .own 1000000 0 6 l1.length]))).upd 7 (.cells 6 (vecF [.v (.int .i64 (2)), .v (.int .i64 (0)), .v (.int .i64 (1)), .v (.int .i64 (0)), .v (.int .i64 (0)), .own 1000002 0 1 ks.length]))) (by kernel_rfl) (by kernel_rfl) (by kernel_rfl) ?_; simp only [List.map_cons, List.map_nil, List.take_succ_cons, List.take_zero, List.drop_succ_cons, List.drop_zero, List.cons_append, List.nil_append, opsS, pickL, linkS_nil, linkS_0, linkS_1, linkS_2, gx2VC, gxVC, upd_add, emp_add]; simp (maxSteps := 1000000) (dsimp := false) (implicitDefEqProofs := false) (disch := omega) only [upd_add, emp_add, wrap64, go_sem, pR_low, pR_1, pR_0, pR_2, NR_slo, NR_slo', lo_upd, lo_high, lo_emp, RD_add, R2_add, add_emp, NR_scr, NR_scr0, nmF_scF0, set5_2, set5_3', set5_4, set6_0, set6_4, set6_5, Nat.le_refl, List.getElem?_cons_zero, List.getElem?_cons_succ, hd, hne, List.length_nil, nO]) | refine Ob.mk (AllH.mk fun _ => ?_) ?_ | exact True.intro | refine obLe ?_ ?_ | exact Hp.le_emp _ | refine Hp.le_upd rfl ?_ | refine awp_seqK fun K hK => ?_ | (refine awp_regionK 288230651033846003 rfl ?_; simp only [List.map_cons, List.map_nil]; simp (maxSteps := 1000000) (dsimp := false) (implicitDefEqProofs := false) (disch := omega) only [wrap64, go_sem, pR_low, pR_1, pR_0, pR_2, NR_slo, NR_slo', lo_upd, lo_high, lo_emp, RD_add, R2_add, add_emp, NR_scr, NR_scr0, nmF_scF0, set5_2, set5_3', set5_4, set6_0, set6_4, set6_5, Nat.le_refl, List.getElem?_cons_zero, List.getElem?_cons_succ, hd, hne, List.length_nil, nO]) | (refine awp_regionQK 288230651033846003 (by kernel_rfl) (by kernel_rfl) (by kernel_rfl) ?_; simp only [List.map_cons, List.map_nil]; simp (maxSteps := 1000000) (dsimp := false) (implicitDefEqProofs := false) (disch := omega) only [wrap64, go_sem, pR_low, pR_1, pR_0, pR_2, NR_slo, NR_slo', lo_upd, lo_high, lo_emp, RD_add, R2_add, add_emp, NR_scr, NR_scr0, nmF_scF0, set5_2, set5_3', set5_4, set6_0, set6_4, set6_5, Nat.le_refl, List.getElem?_cons_zero, List.getElem?_cons_succ, hd, hne, List.length_nil, nO]) | refine awp_block ?_ | (refine awp_skip ?_; simp only [go_sem, pR_low, pR_1, pR_0, pR_2, NR_slo, NR_slo', lo_upd, lo_high, lo_emp, RD_add, R2_add, add_emp, NR_scr, NR_scr0, nmF_scF0, set5_2, set5_3', set5_4, set6_0, set6_4, set6_5, Nat.le_refl, List.getElem?_cons_zero, List.getElem?_cons_succ, hd, hne, List.length_nil, nO]) | (refine awp_exit ?_; simp only [go_sem, pR_low, pR_1, pR_0, pR_2, NR_slo, NR_slo', lo_upd, lo_high, lo_emp, RD_add, R2_add, add_emp, NR_scr, NR_scr0, nmF_scF0, set5_2, set5_3', set5_4, set6_0, set6_4, set6_5, Nat.le_refl, List.getElem?_cons_zero, List.getElem?_cons_succ, hd, hne, List.length_nil, nO]) | (refine awp_ret ?_; try simp only [go_sem, pR_low, pR_1, pR_0, pR_2, NR_slo, NR_slo', lo_upd, lo_high, lo_emp, RD_add, R2_add, add_emp, NR_scr, NR_scr0, nmF_scF0, set5_2, set5_3', set5_4, set6_0, set6_4, set6_5, Nat.le_refl, List.getElem?_cons_zero, List.getElem?_cons_succ, hd, hne, List.length_nil, nO]) | (refine awp_condP rfl ?_; try simp only [go_sem, pR_low, pR_1, pR_0, pR_2, NR_slo, NR_slo', lo_upd, lo_high, lo_emp, RD_add, R2_add, add_emp, NR_scr, NR_scr0, nmF_scF0, set5_2, set5_3', set5_4, set6_0, set6_4, set6_5, Nat.le_refl, List.getElem?_cons_zero, List.getElem?_cons_succ, hd, hne, List.length_nil, nO]) | (refine BrP.mk (fun h => ?_) (fun h => ?_) <;> try simp (dsimp := false) (disch := omega) only [wrap64]) | (refine Br.mk (fun h => ?_) (fun h => ?_) <;> try simp (dsimp := false) (disch := omega) only [wrap64]) | refine Ob.mk (by first | omega | (intro _ _; rfl) | trivial | (intros; trivial) | assumption | (intro i hi; have h0 : i = 0 := (by omega); subst h0; first | rfl | trivial) | (intro i hi; have h0 : i = 0 ∨ i = 1 := (by omega); rcases h0 with rfl | rfl <;> rfl) | (intro i hi; have h0 : i = 0 ∨ i = 1 ∨ i = 2 := (by omega); rcases h0 with rfl | rfl | rfl <;> rfl)) ?_ | ((first | ((first | refine atF (f := 37) ?_ | refine atQ (f := 37) ?_); (first | (refine cV (hac := isNames_ok names (by omega)) (hK := ?_)) | (refine cQV (hac := isNames_ok names (by omega)) (hK := ?_))))); simp (maxSteps := 1000000) (dsimp := false) (implicitDefEqProofs := false) (disch := omega) only [wrap64, go_sem, pR_low, pR_1, pR_0, pR_2, NR_slo, NR_slo', lo_upd, lo_high, lo_emp, RD_add, R2_add, add_emp, NR_scr, NR_scr0, nmF_scF0, set5_2, set5_3', set5_4, set6_0, set6_4, set6_5, Nat.le_refl, List.getElem?_cons_zero, List.getElem?_cons_succ, hd, hne, List.length_nil, nO]) | apply_assumption -exfalso -symm)
        all_goals (first | (show endQ _ _ _ _ _ _ _; (repeat (rename (∀ (A : Fr) (H : Hp), AWP _ _ _ _ A H → _) => hK; clear hK)); (repeat (rename (Fr → Hp → Prop) => K; clear K))) | (show Exists _; (repeat (rename (∀ (A : Fr) (H : Hp), AWP _ _ _ _ A H → _) => hK; clear hK)); (repeat (rename (Fr → Hp → Prop) => K; clear K))) | skip)
        all_goals first
        | (rw [pp.h, e1]; exact end_pb rfl rfl (by decide) rfl rfl ⟨rfl, rfl⟩)
        | (rw [pp.h, e1]; dsimp only; rw [if_pos (by omega)]; exact end_pb rfl rfl (by decide) rfl rfl ⟨rfl, rfl⟩)
        | (rw [pp.h, e1]; dsimp only; rw [if_neg (by omega), if_pos (by omega)]; exact end_pb rfl rfl (by decide) rfl rfl ⟨rfl, rfl⟩)
        | (rw [pp.h, e1]; dsimp only; rw [if_neg (by omega), if_neg (by omega)]; exact end_pg (l := l1) (y := ⟨2, 0, 1, 0, 0, ks⟩) (by omega) rfl rfl (by decide) rfl rfl rfl rfl (all6 rfl rfl rfl rfl rfl rfl) (.inl ⟨rfl, rfl⟩) (fun i hi => by simp (disch := decide) only [upd_sub]; exact NR_sub hi (by omega)) ⟨rfl, rfl⟩)
    · have pp : parP names s = ([], -2) := by unfold parP; rw [if_pos (.inr (by omega))]
      refine ac_of_awp (N := ⟨_, fun _ => false, fun _ _ => rfl, true⟩) Tryd.func20 rfl (by kernel_rfl) Tryd.ntmps20 (by simp) ?_
      simp only [argsFr, List.zipIdx_cons, List.zipIdx_nil, go_sem]
      repeat' (first | (show False; omega) | refine awp_seqK fun K hK => ?_ | (refine awp_regionK 288230651033846003 rfl ?_; simp only [List.map_cons, List.map_nil]; simp (maxSteps := 1000000) (dsimp := false) (implicitDefEqProofs := false) (disch := omega) only [wrap64, go_sem, hd]) | (refine awp_regionQK 288230651033846003 (by kernel_rfl) (by kernel_rfl) (by kernel_rfl) ?_; simp only [List.map_cons, List.map_nil]; simp (maxSteps := 1000000) (dsimp := false) (implicitDefEqProofs := false) (disch := omega) only [wrap64, go_sem, hd]) | refine awp_block ?_ | (refine awp_skip ?_; simp only [go_sem, hd]) | (refine awp_exit ?_; simp only [go_sem, hd]) | (refine awp_ret ?_; try simp only [go_sem, hd]) | (refine awp_condP rfl ?_; try simp only [go_sem, hd]) | (refine BrP.mk (fun h => ?_) (fun h => ?_) <;> try simp (dsimp := false) (disch := omega) only [wrap64]) | (refine Br.mk (fun h => ?_) (fun h => ?_) <;> try simp (dsimp := false) (disch := omega) only [wrap64]) | refine Ob.mk (by first | omega | (intro _ _; rfl) | trivial | (intros; trivial) | assumption | (intro i hi; have h0 : i = 0 := (by omega); subst h0; first | rfl | trivial) | (intro i hi; have h0 : i = 0 ∨ i = 1 := (by omega); rcases h0 with rfl | rfl <;> rfl) | (intro i hi; have h0 : i = 0 ∨ i = 1 ∨ i = 2 := (by omega); rcases h0 with rfl | rfl | rfl <;> rfl)) ?_ | ((first | ((first | refine atF (f := 37) ?_ | refine atQ (f := 37) ?_); (first | (refine cV (hac := isNames_ok names (by omega)) (hK := ?_)) | (refine cQV (hac := isNames_ok names (by omega)) (hK := ?_))))); simp (maxSteps := 1000000) (dsimp := false) (implicitDefEqProofs := false) (disch := omega) only [wrap64, go_sem, hd]) | apply_assumption -exfalso -symm)
      all_goals (first | (show endQ _ _ _ _ _ _ _; (repeat (rename (∀ (A : Fr) (H : Hp), AWP _ _ _ _ A H → _) => hK; clear hK)); (repeat (rename (Fr → Hp → Prop) => K; clear K))) | (show Exists _; (repeat (rename (∀ (A : Fr) (H : Hp), AWP _ _ _ _ A H → _) => hK; clear hK)); (repeat (rename (Fr → Hp → Prop) => K; clear K))) | skip)
      rw [pp]
      exact end_pb rfl rfl (by decide) rfl rfl ⟨rfl, rfl⟩
  · have hd : decide ((1 ≤ names.size ∧ names.size ≤ 8) ∧ ∀ i, i < names.size → isName names i) = false := decide_eq_false hN
    have pp : parP names s = ([], -2) := by unfold parP; rw [if_pos (.inl hN)]
    refine ac_of_awp (N := ⟨_, fun _ => false, fun _ _ => rfl, true⟩) Tryd.func20 rfl (by kernel_rfl) Tryd.ntmps20 (by simp) ?_
    simp only [argsFr, List.zipIdx_cons, List.zipIdx_nil, go_sem]
    repeat' (first | (show False; omega) | refine awp_seqK fun K hK => ?_ | (refine awp_regionK 288230651033846003 rfl ?_; simp only [List.map_cons, List.map_nil]; simp (maxSteps := 1000000) (dsimp := false) (implicitDefEqProofs := false) (disch := omega) only [wrap64, go_sem, hd]) | (refine awp_regionQK 288230651033846003 (by kernel_rfl) (by kernel_rfl) (by kernel_rfl) ?_; simp only [List.map_cons, List.map_nil]; simp (maxSteps := 1000000) (dsimp := false) (implicitDefEqProofs := false) (disch := omega) only [wrap64, go_sem, hd]) | refine awp_block ?_ | (refine awp_skip ?_; simp only [go_sem, hd]) | (refine awp_exit ?_; simp only [go_sem, hd]) | (refine awp_ret ?_; try simp only [go_sem, hd]) | (refine awp_condP rfl ?_; try simp only [go_sem, hd]) | (refine BrP.mk (fun h => ?_) (fun h => ?_) <;> try simp (dsimp := false) (disch := omega) only [wrap64]) | (refine Br.mk (fun h => ?_) (fun h => ?_) <;> try simp (dsimp := false) (disch := omega) only [wrap64]) | refine Ob.mk (by first | omega | (intro _ _; rfl) | trivial | (intros; trivial) | assumption | (intro i hi; have h0 : i = 0 := (by omega); subst h0; first | rfl | trivial) | (intro i hi; have h0 : i = 0 ∨ i = 1 := (by omega); rcases h0 with rfl | rfl <;> rfl) | (intro i hi; have h0 : i = 0 ∨ i = 1 ∨ i = 2 := (by omega); rcases h0 with rfl | rfl | rfl <;> rfl)) ?_ | ((first | ((first | refine atF (f := 37) ?_ | refine atQ (f := 37) ?_); (first | (refine cV (hac := isNames_ok names (by omega)) (hK := ?_)) | (refine cQV (hac := isNames_ok names (by omega)) (hK := ?_))))); simp (maxSteps := 1000000) (dsimp := false) (implicitDefEqProofs := false) (disch := omega) only [wrap64, go_sem, hd]) | apply_assumption -exfalso -symm)
    all_goals (first | (show endQ _ _ _ _ _ _ _; (repeat (rename (∀ (A : Fr) (H : Hp), AWP _ _ _ _ A H → _) => hK; clear hK)); (repeat (rename (Fr → Hp → Prop) => K; clear K))) | (show Exists _; (repeat (rename (∀ (A : Fr) (H : Hp), AWP _ _ _ _ A H → _) => hK; clear hK)); (repeat (rename (Fr → Hp → Prop) => K; clear K))) | skip)
    rw [pp]
    exact end_pb rfl rfl (by decide) rfl rfl ⟨rfl, rfl⟩
end Go.Proofs.YticbabpajligbaaDoor
end

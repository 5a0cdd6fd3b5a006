import Derived.Test.YticbabpajligbaaDoorK2
import Derived.Test.YticbabpajligbaaDoorK3
/- Permutations as rows of numbers: composition, inverse, what generators generate. -/
section
namespace Go.Pm

/-- p is a permutation of n points. -/
def Pm (n : Nat) (p : List Int) : Prop := p.length = n ∧ (∀ j, j < n → 0 ≤ p.getD j 0 ∧ p.getD j 0 < n) ∧ ∀ i j, i < n → j < n → p.getD i 0 = p.getD j 0 → i = j

def img (p : List Int) (i : Nat) : Nat := (p.getD i 0).toNat
def comp (p q : List Int) : List Int := p.map fun x => q.getD x.toNat 0
def idn (n : Nat) : List Int := (List.range n).map fun i : Nat => (i : Int)
def invp (p : List Int) : List Int := (List.range p.length).map fun i : Nat => ((p.findIdx fun x => decide (x = (i : Int)) : Nat) : Int)

theorem ext {p q : List Int} (hl : p.length = q.length) (h : ∀ j, j < p.length → p.getD j 0 = q.getD j 0) : p = q := by
  refine List.ext_getElem hl fun i h1 h2 => ?_
  have := h i h1
  simpa [List.getD_eq_getElem?_getD, h1, h2] using this

theorem comp_length (p q : List Int) : (comp p q).length = p.length := by simp [comp]
theorem comp_get (p q : List Int) {i : Nat} (h : i < p.length) : (comp p q).getD i 0 = q.getD (img p i) 0 := by
  simp [comp, img, List.getD_eq_getElem?_getD, h]
theorem idn_length (n : Nat) : (idn n).length = n := by simp [idn]
theorem idn_get {n i : Nat} (h : i < n) : (idn n).getD i 0 = i := by simp [idn, List.getD_eq_getElem?_getD, h]
theorem img_idn {n i : Nat} (h : i < n) : img (idn n) i = i := by unfold img; rw [idn_get h]; rfl
theorem img_comp (p q : List Int) {i : Nat} (h : i < p.length) : img (comp p q) i = img q (img p i) := by
  unfold img; rw [comp_get p q h]; rfl

namespace Pm
variable {n : Nat} {p q r : List Int}
theorem img_lt (h : Pm n p) {i : Nat} (hi : i < n) : img p i < n := by
  have := h.2.1 i hi
  unfold Pm.img; omega
theorem get_eq (h : Pm n p) {i : Nat} (hi : i < n) : p.getD i 0 = (img p i : Int) := by
  have := h.2.1 i hi
  unfold Pm.img; omega
theorem inj (h : Pm n p) {i j : Nat} (hi : i < n) (hj : j < n) (e : img p i = img p j) : i = j :=
  h.2.2 i j hi hj (by rw [h.get_eq hi, h.get_eq hj, e])
theorem ext_img (h : Pm n p) (k : Pm n q) (e : ∀ i, i < n → img p i = img q i) : p = q :=
  Go.Pm.ext (h.1.trans k.1.symm) fun j hj => by
    rw [h.1] at hj
    rw [h.get_eq hj, k.get_eq hj, e j hj]
theorem idn (n : Nat) : Pm n (idn n) :=
  ⟨idn_length n, fun j hj => by rw [idn_get hj]; omega, fun i j hi hj e => by rw [idn_get hi, idn_get hj] at e; omega⟩
theorem mk' (hl : p.length = n) (h1 : ∀ j, j < n → ∃ k, k < n ∧ p.getD j 0 = (k : Int)) (h2 : ∀ i j, i < n → j < n → img p i = img p j → i = j) : Pm n p :=
  ⟨hl, fun j hj => by obtain ⟨k, h3, h4⟩ := h1 j hj; omega, fun i j hi hj e => h2 i j hi hj (by unfold Pm.img; rw [e])⟩
theorem comp (h : Pm n p) (k : Pm n q) : Pm n (comp p q) := by
  refine mk' (by rw [comp_length]; exact h.1) (fun j hj => ⟨img q (img p j), k.img_lt (h.img_lt hj), ?_⟩) fun i j hi hj e => ?_
  · rw [comp_get _ _ (by rw [h.1]; exact hj), k.get_eq (h.img_lt hj)]
  · rw [img_comp _ _ (by rw [h.1]; exact hi), img_comp _ _ (by rw [h.1]; exact hj)] at e
    exact h.inj hi hj (k.inj (h.img_lt hi) (h.img_lt hj) e)
theorem cimg (h : Pm n p) {i : Nat} (hi : i < n) : img (Go.Pm.comp p q) i = img q (img p i) := img_comp _ _ (by rw [h.1]; exact hi)

/-- Every point is met. -/
theorem surj (h : Pm n p) {i : Nat} (hi : i < n) : ∃ j, j < n ∧ img p j = i := by
  have hn : ((List.range n).map (img p)).Nodup := by
    rw [List.nodup_iff_pairwise_ne, List.pairwise_map]
    refine List.Pairwise.imp_of_mem (R := fun a b => a ≠ b) ?_ (List.nodup_iff_pairwise_ne.1 List.nodup_range)
    intro a b ha hb hne e
    exact hne (h.inj (by simpa using ha) (by simpa using hb) e)
  have := (Go.Plain.nodup_iff_all (l := (List.range n).map (img p)) (n := n) (by simp) (fun x hx => by
    obtain ⟨j, hj, rfl⟩ := List.mem_map.1 hx
    exact h.img_lt (by simpa using hj))).1 hn i hi
  obtain ⟨j, hj, e⟩ := List.mem_map.1 this
  exact ⟨j, by simpa using hj, e⟩

theorem find (h : Pm n p) {i : Nat} (hi : i < n) : p.findIdx (fun x => decide (x = (i : Int))) < n ∧ img p (p.findIdx fun x => decide (x = (i : Int))) = i := by
  obtain ⟨j, hj, e⟩ := h.surj hi
  have hlt : p.findIdx (fun x => decide (x = (i : Int))) < p.length := by
    rw [List.findIdx_lt_length]
    refine ⟨p.getD j 0, ?_, ?_⟩
    · have hj' : j < p.length := by rw [h.1]; exact hj
      rw [List.getD_eq_getElem?_getD, List.getElem?_eq_getElem hj']
      exact List.getElem_mem hj'
    · rw [h.get_eq hj, e]; simp
  have := List.findIdx_getElem (w := hlt)
  refine ⟨by rw [← h.1]; exact hlt, ?_⟩
  simp only [decide_eq_true_eq] at this
  unfold Pm.img
  rw [List.getD_eq_getElem?_getD, List.getElem?_eq_getElem hlt, Option.getD_some, this]
  simp
theorem inv_get (h : Pm n p) {i : Nat} (hi : i < n) : (invp p).getD i 0 = ((p.findIdx fun x => decide (x = (i : Int)) : Nat) : Int) := by
  have : i < p.length := by rw [h.1]; exact hi
  simp [invp, List.getD_eq_getElem?_getD, this]
theorem inv_img (h : Pm n p) {i : Nat} (hi : i < n) : img p (img (invp p) i) = i := by
  have : img (invp p) i = p.findIdx fun x => decide (x = (i : Int)) := by unfold Pm.img; rw [h.inv_get hi]; rfl
  rw [this]; exact (h.find hi).2
theorem inv (h : Pm n p) : Pm n (invp p) := by
  refine mk' (by simp [invp, h.1]) (fun j hj => ⟨_, (h.find hj).1, h.inv_get hj⟩) fun i j hi hj e => ?_
  rw [← h.inv_img hi, ← h.inv_img hj, e]
theorem img_inv (h : Pm n p) {i : Nat} (hi : i < n) : img (invp p) (img p i) = i :=
  h.inj (h.inv.img_lt (h.img_lt hi)) hi (h.inv_img (h.img_lt hi))

theorem comp_inv (h : Pm n p) : Go.Pm.comp p (invp p) = Go.Pm.idn n :=
  (h.comp h.inv).ext_img (.idn n) fun i hi => by rw [h.cimg hi, h.img_inv hi, img_idn hi]
theorem inv_comp (h : Pm n p) : Go.Pm.comp (invp p) p = Go.Pm.idn n :=
  (h.inv.comp h).ext_img (.idn n) fun i hi => by rw [h.inv.cimg hi, h.inv_img hi, img_idn hi]
theorem comp_idn (h : Pm n p) : Go.Pm.comp p (Go.Pm.idn n) = p :=
  (h.comp (.idn n)).ext_img h fun i hi => by rw [h.cimg hi, img_idn (h.img_lt hi)]
theorem idn_comp (h : Pm n p) : Go.Pm.comp (Go.Pm.idn n) p = p :=
  ((Pm.idn n).comp h).ext_img h fun i hi => by rw [(Pm.idn n).cimg hi, img_idn hi]
theorem assoc (h : Pm n p) (k : Pm n q) (l : Pm n r) : Go.Pm.comp (Go.Pm.comp p q) r = Go.Pm.comp p (Go.Pm.comp q r) :=
  ((h.comp k).comp l).ext_img (h.comp (k.comp l)) fun i hi => by
    rw [(h.comp k).cimg hi, h.cimg hi, h.cimg hi, k.cimg (h.img_lt hi)]
theorem cancel (h : Pm n p) (k : Pm n q) : Go.Pm.comp (Go.Pm.comp p q) (invp q) = p := by
  rw [h.assoc k k.inv, k.comp_inv, h.comp_idn]
theorem right_inj (h : Pm n p) (k : Pm n q) (l : Pm n r) (e : Go.Pm.comp p r = Go.Pm.comp q r) : p = q := by
  rw [← h.cancel l, e, k.cancel l]
theorem inv_inv (h : Pm n p) : invp (invp p) = p := by
  refine h.inv.inv.right_inj h h.inv ?_
  rw [h.inv.inv_comp, h.comp_inv]
end Pm

/-- What is generated (products of generators, applied one after the other). -/
inductive Gen (n : Nat) (S : List (List Int)) : List Int → Prop
  | one : Gen n S (idn n)
  | mul {p g : List Int} : Gen n S p → g ∈ S → Gen n S (comp p g)

section
variable {n : Nat} {S S' : List (List Int)} {p q : List Int}
theorem Gen.pm (hS : ∀ g ∈ S, Pm n g) (h : Gen n S p) : Pm n p := by
  induction h with
  | one => exact .idn n
  | mul _ hg ih => exact ih.comp (hS _ hg)
theorem Gen.prod (hS : ∀ g ∈ S, Pm n g) (h : Gen n S p) (k : Gen n S q) : Gen n S (comp p q) := by
  induction k with
  | one => rw [(h.pm hS).comp_idn]; exact h
  | mul k hg ih => rw [← (h.pm hS).assoc (k.pm hS) (hS _ hg)]; exact ih.mul hg
theorem Gen.of (hS : ∀ g ∈ S, Pm n g) (h : p ∈ S) : Gen n S p := by
  have := (Gen.one (n := n) (S := S)).mul h
  rwa [(hS _ h).idn_comp] at this
theorem Gen.sub (hS : ∀ g ∈ S', Pm n g) (hs : ∀ g ∈ S, Gen n S' g) (h : Gen n S p) : Gen n S' p := by
  induction h with
  | one => exact .one
  | mul _ hg ih => exact ih.prod hS (hs _ hg)
theorem Gen.mono (hs : ∀ g ∈ S, g ∈ S') (h : Gen n S p) : Gen n S' p := by
  induction h with
  | one => exact .one
  | mul _ hg ih => exact ih.mul (hs _ hg)
end
end Go.Pm
end
/- The heap told anew beside names that stay; less told of the heap. -/
section
namespace Go.Av
section
variable {N : Cx} {A A' : Fr} {H H' : Hp}
theorem Sub.layP (ρ : Nat → Option Nat) (hpn : ∀ h, N.pn h = true → ρ h = some h) (hA : ∀ i c, A'.get i = some c → ∃ a, A.get i = some a ∧ Lay ρ a c)
    (hH : LayF ρ H' H) (hinj : ∀ h g k, H' h ≠ none → H' g ≠ none → ρ h = some k → ρ g = some k → h = g) : Sub N A H A' H' := by
  intro w0 S hS w tm L s
  have live : ∀ h k, H' h ≠ none → ρ h = some k → H k ≠ none := by
    intro h k hn e
    cases hB : H' h with
    | none => exact absurd hB hn
    | some B =>
      rcases hH h B hB with ⟨g, n, f, f', e1, _, e2, _⟩ | ⟨e1, _⟩ | ⟨g, kv, e1, _, e2, _⟩
      · rw [e] at e1; simp only [Option.some.injEq] at e1; subst e1; rw [e2]; simp
      · rw [e] at e1; simp at e1
      · rw [e] at e1; simp only [Option.some.injEq] at e1; subst e1; rw [e2]; simp
  have dec : ∀ h q, ((ρ h).bind L) = some q → ∃ k, ρ h = some k ∧ L k = some q := by
    intro h q hq
    cases e : ρ h with
    | none => rw [e] at hq; simp at hq
    | some k => rw [e] at hq; exact ⟨k, rfl, hq⟩
  have hok : ∀ b, okb S H L b → okb S H' (fun h => (ρ h).bind L) b := fun b hb => ⟨hb.1, fun h q hn hq => by
    obtain ⟨k, e1, e2⟩ := dec h q hq
    exact hb.2 k q (live h k hn e1) e2⟩
  refine ⟨fun h => (ρ h).bind L, s.keep, s.size, fun i c hc => ?_, fun h B hB => ?_, fun h q hn hq => ?_, fun h g q r hn hm hq hr e => ?_, fun h l hl => ?_⟩
  · obtain ⟨a, h1, h2⟩ := hA i c hc
    exact Rd.mono (fun b _ hb => hok b hb) (h2.rd _ (s.slot i a h1))
  · rcases hH h B hB with ⟨g, n, f, f', e1, rfl, e2, e3⟩ | ⟨e1, f, rfl⟩ | ⟨g, kv, e1, rfl, e2, e3⟩
    · have hb := s.blk g _ e2
      simp only [e1, Option.bind_some]
      cases hl : L g with
      | none => rw [hl] at hb; exact hb
      | some q =>
        rw [hl] at hb
        obtain ⟨cs, e, k1, k2, k3⟩ := hb
        exact ⟨cs, e, k1, k2, fun i hi => let ⟨c, k4, k5⟩ := k3 i hi; ⟨c, k4, Rd.mono (fun b _ hb => hok b hb) ((e3 i hi).rd _ k5)⟩⟩
    · simp only [e1, Option.bind_none]; rfl
    · have hb := s.blk g _ e2
      simp only [e1, Option.bind_some]
      cases hl : L g with
      | none => rw [hl] at hb; exact hb.elim
      | some q =>
        rw [hl] at hb
        obtain ⟨es, clock, k1, k2, k3⟩ := hb
        exact ⟨es, clock, k1, k2, fun i e he => let ⟨a, k4, k5⟩ := k3 i e he; ⟨a, k4, Rd.mono (fun b _ hb => hok b hb) (Rd.plain a _ _ _ (e3 _ (List.mem_of_getElem? k4)) k5)⟩⟩
  · obtain ⟨k, e1, e2⟩ := dec h q hq
    exact s.own k q (live h k hn e1) e2
  · obtain ⟨k1, e1, e2⟩ := dec h q hq
    obtain ⟨k2, e3, e4⟩ := dec g r hr
    have := s.inj k1 k2 q r (live h k1 hn e1) (live g k2 hm e3) e2 e4 e
    subst this
    exact hinj h g k1 hn hm e1 e3
  · by_cases hp : N.pn h = true
    · show (ρ h).bind L = _
      rw [hpn h hp]; exact s.pin h l hl
    · rw [hS.free h (by simpa using hp)] at hl; simp at hl
/-- Less may be told of the heap. -/
theorem Sim.less {n : Nat} {w0 : World} {S : Rg} {w : World} {tm : Array Value} {L : Loc} (s : Sim n w0 S w tm L A H) (h : Hp.le H' H) : Sim n w0 S w tm L A H' := by
  have live : ∀ x, H' x ≠ none → H x ≠ none := fun x hx => by
    cases e : H' x with
    | none => exact absurd e hx
    | some B => rw [h x B e]; simp
  have hok : ∀ b, okb S H L b → okb S H' L b := fun b hb => ⟨hb.1, fun x q hn hq => hb.2 x q (live x hn) hq⟩
  refine ⟨s.keep, s.size, fun i a ha => Rd.mono (fun b _ hb => hok b hb) (s.slot i a ha), fun x B hB => ?_, fun x q hn hq => s.own x q (live x hn) hq, fun x g q r hn hm hq hr e => s.inj x g q r (live x hn) (live g hm) hq hr e, s.pin⟩
  have := BlkOk.step (w := w) (w' := w) (wh := w) (wh' := w) (ok := okb S H L) (ok' := okb S H' L) (L := L) (L' := L) (p := fun _ => false) (fun b _ hb => ⟨hok b hb, rfl⟩) (Shape.refl w) (fun _ _ => rfl) (fun _ _ => rfl) (s.blk x B (h x B hB))
  rwa [Blk.scrub_none] at this
/-- A call behind which less is told of the heap. -/
theorem callG_less {P : Program} {f : FuncId} {args : List AV} {K : AV → Fr → Hp → Prop} (h : CallG P N f args A H (fun r A' H' => ∃ H1, Hp.le H1 H' ∧ K r A' H1)) : CallG P N f args A H K := by
  refine ⟨h.1, fun w0 S hS w tm L s vs hvs => (h.2 w0 S hS w tm L s vs hvs).mono ?_⟩
  rintro e w' ⟨u, r, L', A', H', he, s', hr, H1, hle, hk⟩
  have live : ∀ x, H1 x ≠ none → H' x ≠ none := fun x hx => by
    cases e : H1 x with
    | none => exact absurd e hx
    | some B => rw [hle x B e]; simp
  exact ⟨u, r, L', A', H1, he, s'.less hle, Rd.mono (fun b _ hb => ⟨hb.1, fun x q hn hq => hb.2 x q (live x hn) hq⟩) hr, hk⟩
/-- The low names. -/
def Hp.lo (H : Hp) : Hp := fun h => if h < 1000000 then H h else none
theorem lo_emp : Hp.emp.lo = Hp.emp := by funext h; unfold Hp.lo Hp.emp; split <;> rfl
theorem lo_upd {h : Nat} {B : Blk} (hh : h < 1000000) : (H.upd h B).lo = H.lo.upd h B := by
  funext g
  unfold Hp.lo Hp.upd
  by_cases e : g = h
  · subst e; simp [hh]
  · simp [e]
theorem lo_high {h : Nat} {B : Blk} (hh : ¬ h < 1000000) : (H.upd h B).lo = H.lo := by
  funext g
  unfold Hp.lo Hp.upd
  by_cases e : g = h
  · subst e; rw [if_neg hh, if_neg hh]
  · rw [if_neg e]
theorem add_up {X : Hp} {h : Nat} {B : Blk} (hh : X h = none) : X.add (H.upd h B) = (X.add H).upd h B := by
  funext g
  unfold Hp.add Hp.upd
  by_cases e : g = h
  · subst e; rw [hh]; simp
  · simp [e]
theorem add_emp (X : Hp) : X.add Hp.emp = X := by
  funext g
  unfold Hp.add Hp.emp
  cases X g <;> rfl
end
end Go.Av
end
/- Regions of open order: a chain of operations that turn memory, each ahead of the next, and operations that may come at any time. -/
section
namespace Go.Av
section
variable {P : Program} {N : Cx} {H : Hp}
theorem OpV.mono {o : Oper} {A : Fr} {K K' : AV → Fr → Hp → Prop} (h : OpV P N o A H K) (k : ∀ r A' H', K r A' H' → K' r A' H') : OpV P N o A H K' :=
  fun w0 S hS w a L s next Q' hn => h w0 S hS w a L s next Q' fun u r L' A' H' w' s' hr hk => hn u r L' A' H' w' s' hr (k _ _ _ hk)
variable (P N) in
/-- A call, whatever the frame is: what it yields, which names it turns, what the heap is behind it. -/
def CallPP (f : FuncId) (args : List AV) (H : Hp) (K : AV → (Nat → Bool) → Hp → Prop) : Prop := ∃ p : Nat → Bool, ∀ B : Fr, CallG P N f args B H fun r A' H' => A' = B.scrub p ∧ K r p H'
theorem CallPP_congr (f : FuncId) (args args' : List AV) (H H' : Hp) (K : AV → (Nat → Bool) → Hp → Prop) (h1 : args = args') (h2 : H = H') : CallPP P N f args H K = CallPP P N f args' H' K := by subst h1 h2; rfl
variable (P N) in
/-- An operation of the chain. -/
def gxVC (d : Nat) (op : Op) (A : Fr) (H : Hp) (K : AV → (Nat → Bool) → Hp → Prop) : Prop :=
  match op with
  | .call { callee := .value f, args, argTypes := _ } => (match calleeOf (A.ev f) with
    | some (g, caps) => withArgs (evArgs A args.toList) fun l => CallPP P N g (l ++ caps) H K
    | none => False)
  | .assign x => withA (A.ev x) fun a => K a (fun _ => false) H
  | .move x => withA (A.ev x) fun a => K a (fun _ => false) H
  | .call { callee := .builtin .append, args, argTypes } => pivVC P N d (.call { callee := .builtin .append, args, argTypes }) A H K
  | .store t x y => pivVC P N d (.store t x y) A H K
  | _ => False
theorem gxVC_ok {o : Oper} {A : Fr} {K : AV → (Nat → Bool) → Hp → Prop} (h : gxVC P N (o.dst.getD 0) o.op A H K) : ∃ p : Nat → Bool, ∀ B : Fr, (∀ x ∈ o.op.operands, B.ev x = A.ev x) → OpV P N o B H fun r A' H' => A' = B.scrub p ∧ K r p H' := by
  have piv : pivVC P N (o.dst.getD 0) o.op A H K → ∃ p : Nat → Bool, ∀ B : Fr, (∀ x ∈ o.op.operands, B.ev x = A.ev x) → OpV P N o B H fun r A' H' => A' = B.scrub p ∧ K r p H' := fun h => by
    obtain ⟨r, p, H', hK, hp⟩ := piv_ok h
    exact ⟨p, fun B hB => (hp B hB).mono fun r' A' H'' e => by obtain ⟨rfl, rfl, rfl⟩ := e; exact ⟨rfl, hK⟩⟩
  unfold gxVC at h
  split at h
  · rename_i f args tys ho
    split at h
    · rename_i g caps hc
      obtain ⟨l, hl, p, h⟩ := withArgs_ok h
      refine ⟨p, fun B hB => opVC_sound ?_⟩
      have hf : B.ev f = A.ev f := hB f (by rw [ho]; simp [Op.operands, Call.operands])
      have ha : evArgs B args.toList = evArgs A args.toList := evArgs_congr fun x hx => hB x (by rw [ho]; simp [Op.operands, Call.operands]; first | exact .inr (by simpa using hx) | (right; simpa using hx))
      rw [ho]
      simp only [opVC, hf, ha]
      rw [hc, hl]
      exact h B
    · exact h.elim
  · rename_i x ho
    obtain ⟨a, ha, h⟩ := withA_ok h
    refine ⟨fun _ => false, fun B hB => opVC_sound ?_⟩
    have hx : B.ev x = A.ev x := hB x (by rw [ho]; simp [Op.operands])
    rw [ho]
    simp only [opVC, hx, ha, withA]
    exact ⟨(Fr.scrub_none B).symm, h⟩
  · rename_i x ho
    obtain ⟨a, ha, h⟩ := withA_ok h
    refine ⟨fun _ => false, fun B hB => opVC_sound ?_⟩
    have hx : B.ev x = A.ev x := hB x (by rw [ho]; simp [Op.operands])
    rw [ho]
    simp only [opVC, hx, ha, withA]
    exact ⟨(Fr.scrub_none B).symm, h⟩
  · rename_i ho
    rw [← ho] at h; exact piv h
  · rename_i ho
    rw [← ho] at h; exact piv h
  · exact h.elim
/-- Operations at places. -/
def pickL : List Nat → List Oper → List Oper
  | [], _ => []
  | k :: ks, l => (l.drop k).take 1 ++ pickL ks l
theorem pickL_get {l : List Oper} : ∀ (ks : List Nat), (∀ k ∈ ks, k < l.length) → ∀ j : Nat, (pickL ks l)[j]? = (ks[j]?).bind fun k : Nat => l[k]?
  | [], _, j => by simp [pickL]
  | k :: ks, h, j => by
    have hk := h k (List.mem_cons_self ..)
    have e : (l.drop k).take 1 = [l[k]] := by rw [List.drop_eq_getElem_cons hk]; rfl
    have ih := pickL_get ks (fun x hx => h x (List.mem_cons_of_mem _ hx))
    simp only [pickL, e]
    cases j with
    | zero => simp [hk]
    | succ j => simpa using ih j
theorem pickL_len {l : List Oper} : ∀ (ks : List Nat), (∀ k ∈ ks, k < l.length) → (pickL ks l).length = ks.length
  | [], _ => rfl
  | k :: ks, h => by
    have hk := h k (List.mem_cons_self ..)
    have e : (l.drop k).take 1 = [l[k]] := by rw [List.drop_eq_getElem_cons hk]; rfl
    simp [pickL, e, pickL_len ks (fun x hx => h x (List.mem_cons_of_mem _ hx))]
variable (P N) in
/-- The chain. -/
def linkVC (T : List (Option Tmp)) (Q : Fr → Hp → Prop) : List Oper → Fr → Hp → Prop
  | [], A, H => Q A H
  | o :: l, A, H => gxVC P N (o.dst.getD 0) o.op A H fun r p H' => Ob (sameG (A.scrub p) A T) (linkVC T Q l (putd o.dst r (A.scrub p)) H')
/-- Whatever the heap is. -/
def AllH (p : Hp → Prop) : Prop := ∀ H, p H
variable (P N) in
def opsG (fs cs T : List Nat) (Q : Fr → Hp → Prop) (l : List Oper) (A : Fr) (H : Hp) : Prop :=
  opsQ P N (l.map (·.dst)) (fun A1 => Ob (AllH fun H' => opsQ P N (l.map (·.dst)) (fun A2 => sameG A2 A1 (T.map some)) (pickL fs l) A H') (linkVC P N (T.map some) Q (pickL cs l) A1 H)) (pickL fs l) A H
def chPre (ops : Array Oper) : List Nat → Bool
  | [] => true
  | c :: r => r.all (fun d => preB ops ops.size d c) && chPre ops r
theorem chPre_app {ops : Array Oper} {r : List Nat} : ∀ (l : List Nat), chPre ops (l ++ r) = true → chPre ops r = true
  | [], h => h
  | _ :: l, h => by
    simp only [List.cons_append, chPre, Bool.and_eq_true] at h
    exact chPre_app l h.2
def incB : List Nat → Bool
  | [] => true
  | c :: r => r.all (fun d => decide (c < d)) && incB r
def chOk0 (ops : Array Oper) (fs cs T : List Nat) : Bool :=
  anyOk ops && ops.toList.all (fun o => o.guard.isNone) && (List.range ops.size).all (fun k => fs.contains k || cs.contains k) && incB fs && incB cs && cs.all (fun c => decide (c < ops.size) && !fs.contains c) &&
  fs.all fun f => match ops[f]? with
    | none => false
    | some o => o.after.all (fun e => !Region.binds .any e || !cs.contains e.on) && (match o.dst with
      | none => false
      | some d => T.contains d && (List.range ops.size).all fun k => match ops[k]? with
        | none => true
        | some ok => !(ok.looksAt ops).contains d || (k != f && !(o.after.any fun e => Region.binds .any e && e.on == k))) && (o.looksAt ops).all fun t => T.contains t
def chOk (ops : Array Oper) (fs cs T : List Nat) : Bool := chOk0 ops fs cs T && chPre ops cs
theorem incB_ok : ∀ {l : List Nat}, incB l = true → ∀ i j, i < j → j < l.length → l.getD i 0 < l.getD j 0
  | [], _, i, j, _, h => by simp at h
  | c :: r, h, i, j, hij, hj => by
    simp only [incB, Bool.and_eq_true, List.all_eq_true, decide_eq_true_eq] at h
    have hj' : j - 1 < r.length := by simp at hj; omega
    have ej : (c :: r).getD j 0 = r.getD (j - 1) 0 := by
      cases j with
      | zero => omega
      | succ j => simp
    rw [ej]
    cases i with
    | zero =>
      have : r.getD (j - 1) 0 ∈ r := by rw [List.getD_eq_getElem?_getD, List.getElem?_eq_getElem hj']; exact List.getElem_mem hj'
      simpa using h.1 _ this
    | succ i =>
      have := incB_ok h.2 i (j - 1) (by omega) hj'
      simpa using this
structure ChOk0 (ops : Array Oper) (fs cs T : List Nat) : Prop where
  any : anyOk ops = true
  guard : ∀ (k : Nat) (o : Oper), ops[k]? = some o → o.guard = none
  all : ∀ k, k < ops.size → k ∈ fs ∨ k ∈ cs
  finc : incB fs = true
  cinc : incB cs = true
  clt : ∀ c ∈ cs, c < ops.size ∧ c ∉ fs
  flt : ∀ f ∈ fs, f < ops.size
  fc : ∀ f ∈ fs, ∀ o : Oper, ops[f]? = some o → ∀ e ∈ o.after, Region.binds .any e = true → e.on ∉ cs
  fd : ∀ f ∈ fs, ∀ o : Oper, ops[f]? = some o → ∃ d, o.dst = some d ∧ d ∈ T
  fr : ∀ f ∈ fs, ∀ o : Oper, ops[f]? = some o → ∀ d, o.dst = some d → ∀ (k : Nat) (ok : Oper), ops[k]? = some ok → d ∈ ok.looksAt ops → k ≠ f ∧ ∀ e ∈ o.after, Region.binds .any e = true → e.on ≠ k
  ft : ∀ f ∈ fs, ∀ o : Oper, ops[f]? = some o → ∀ t ∈ o.looksAt ops, t ∈ T
structure ChOk (ops : Array Oper) (fs cs T : List Nat) : Prop extends ChOk0 ops fs cs T where
  pre : chPre ops cs = true
theorem chOk0_ok {ops : Array Oper} {fs cs T : List Nat} (h : chOk0 ops fs cs T = true) : ChOk0 ops fs cs T := by
  simp only [chOk0, Bool.and_eq_true, List.all_eq_true, List.mem_range, Bool.or_eq_true, List.contains_iff_mem, decide_eq_true_eq, Bool.not_eq_true'] at h
  obtain ⟨⟨⟨⟨⟨⟨h1, h2⟩, h3⟩, h4⟩, h5⟩, h7⟩, h8⟩ := h
  have at' : ∀ f ∈ fs, ∃ o : Oper, ops[f]? = some o ∧ (∀ e ∈ o.after, Region.binds .any e = true → e.on ∉ cs) ∧ (∃ d, o.dst = some d ∧ d ∈ T ∧ ∀ (k : Nat) (ok : Oper), ops[k]? = some ok → d ∈ ok.looksAt ops → k ≠ f ∧ ∀ e ∈ o.after, Region.binds .any e = true → e.on ≠ k) ∧ ∀ t ∈ o.looksAt ops, t ∈ T := fun f hf => by
    have h := h8 f hf
    split at h
    · cases h
    · rename_i o ho
      simp only [Bool.and_eq_true, Array.all_eq_true', List.all_eq_true, Bool.or_eq_true, Bool.not_eq_true', List.contains_iff_mem] at h
      obtain ⟨⟨k1, k2⟩, k3⟩ := h
      refine ⟨o, ho, fun e he hb hc => ?_, ?_, k3⟩
      · rcases k1 e he with h | h
        · rw [hb] at h; cases h
        · have : cs.contains e.on = true := by simpa using hc
          rw [this] at h; cases h
      · split at k2
        · cases k2
        · rename_i d hd
          simp only [Bool.and_eq_true, List.all_eq_true, List.mem_range, List.contains_iff_mem] at k2
          refine ⟨d, hd, k2.1, fun k ok hok hdk => ?_⟩
          have hk := (Array.getElem?_eq_some_iff.1 hok).1
          have h := k2.2 k hk
          rw [hok] at h
          simp only [Bool.or_eq_true, Bool.not_eq_true', Bool.and_eq_true, bne_iff_ne] at h
          rcases h with h | h
          · have : (ok.looksAt ops).contains d = true := by simpa using hdk
            rw [this] at h; cases h
          · refine ⟨h.1, fun e he hb ek => ?_⟩
            have : (o.after.any fun e => Region.binds .any e && e.on == k) = true := Array.any_eq_true'.2 ⟨e, he, by simp [hb, ek]⟩
            rw [this] at h; cases h.2
  have un : ∀ f ∈ fs, ∀ o : Oper, ops[f]? = some o → (∀ e ∈ o.after, Region.binds .any e = true → e.on ∉ cs) ∧ (∃ d, o.dst = some d ∧ d ∈ T ∧ ∀ (k : Nat) (ok : Oper), ops[k]? = some ok → d ∈ ok.looksAt ops → k ≠ f ∧ ∀ e ∈ o.after, Region.binds .any e = true → e.on ≠ k) ∧ ∀ t ∈ o.looksAt ops, t ∈ T := fun f hf o ho => by
    obtain ⟨o', ho', h⟩ := at' f hf
    rw [ho] at ho'; simp only [Option.some.injEq] at ho'; subst ho'; exact h
  refine ⟨h1, fun k o ho => ?_, h3, h4, h5, fun c hc => ⟨(h7 c hc).1, fun hf => ?_⟩, fun f hf => ?_, fun f hf o ho => (un f hf o ho).1, fun f hf o ho => ?_, fun f hf o ho d hd => ?_, fun f hf o ho => (un f hf o ho).2.2⟩
  · have := h2 o (by rw [Array.mem_toList_iff]; exact Array.mem_of_getElem? ho)
    simpa using this
  · have h := (h7 c hc).2
    have : fs.contains c = true := by simpa using hf
    rw [this] at h; cases h
  · obtain ⟨o, ho, _⟩ := at' f hf
    exact (Array.getElem?_eq_some_iff.1 ho).1
  · obtain ⟨d, h1, h2, _⟩ := (un f hf o ho).2.1
    exact ⟨d, h1, h2⟩
  · obtain ⟨d', h1, h2, h3⟩ := (un f hf o ho).2.1
    rw [hd] at h1; simp only [Option.some.injEq] at h1; subst h1; exact h3
theorem chOk_ok {ops : Array Oper} {fs cs T : List Nat} (h : chOk ops fs cs T = true) : ChOk ops fs cs T := by
  simp only [chOk, Bool.and_eq_true] at h
  exact ⟨chOk0_ok h.1, h.2⟩
theorem AllH.mk {p : Hp → Prop} (h : ∀ H, p H) : AllH p := h
theorem atP {f : FuncId} {args : List AV} {K : AV → (Nat → Bool) → Hp → Prop} (h : CallPP P N f args H K) : CallPP P N f args H K := h
end
attribute [congr] CallPP_congr
attribute [go_sem] opsG linkVC gxVC pickL
end Go.Av
end

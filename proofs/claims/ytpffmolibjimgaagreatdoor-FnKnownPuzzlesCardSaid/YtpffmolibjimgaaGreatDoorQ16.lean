import Derived.Test.YtpffmolibjimgaaGreatDoorQ2
import Derived.Test.YtpffmolibjimgaaGreatDoorQ3
/- Permutations as rows of numbers: composition, inverse, what generators generate. -/
section
namespace Go.Pm

/-- p is a permutation of n points. -/
def Pm (n : Nat) (p : List Int) : Prop := p.length = n ∧ (∀ j, j < n → 0 ≤ p.getD j 0 ∧ p.getD j 0 < n) ∧ ∀ i j, i < n → j < n → p.getD i 0 = p.getD j 0 → i = j

def img (p : List Int) (i : Nat) : Nat := (p.getD i 0).toNat
def comp (p q : List Int) : List Int := p.map fun x => q.getD x.toNat 0
def idn (n : Nat) : List Int := (List.range n).map fun i : Nat => (i : Int)
def invp (p : List Int) : List Int := (List.range p.length).map fun i : Nat => ((p.findIdx fun x => decide (x = (i : Int)) : Nat) : Int)

theorem ext {p q : List Int} (hl : p.length = q.length) (h : ∀ j, j < p.length → p.getD j 0 = q.getD j 0) : p = q := by
  refine List.ext_getElem hl fun i h1 h2 => ?_
  have := h i h1
  simpa [List.getD_eq_getElem?_getD, h1, h2] using this

theorem comp_length (p q : List Int) : (comp p q).length = p.length := by simp [comp]
theorem comp_get (p q : List Int) {i : Nat} (h : i < p.length) : (comp p q).getD i 0 = q.getD (img p i) 0 := by
  simp [comp, img, List.getD_eq_getElem?_getD, h]
theorem idn_length (n : Nat) : (idn n).length = n := by simp [idn]
theorem idn_get {n i : Nat} (h : i < n) : (idn n).getD i 0 = i := by simp [idn, List.getD_eq_getElem?_getD, h]
theorem img_idn {n i : Nat} (h : i < n) : img (idn n) i = i := by unfold img; rw [idn_get h]; rfl
theorem img_comp (p q : List Int) {i : Nat} (h : i < p.length) : img (comp p q) i = img q (img p i) := by
  unfold img; rw [comp_get p q h]; rfl

namespace Pm
variable {n : Nat} {p q r : List Int}
theorem img_lt (h : Pm n p) {i : Nat} (hi : i < n) : img p i < n := by
  have := h.2.1 i hi
  unfold Pm.img; omega
theorem get_eq (h : Pm n p) {i : Nat} (hi : i < n) : p.getD i 0 = (img p i : Int) := by
  have := h.2.1 i hi
  unfold Pm.img; omega
theorem inj (h : Pm n p) {i j : Nat} (hi : i < n) (hj : j < n) (e : img p i = img p j) : i = j :=
  h.2.2 i j hi hj (by rw [h.get_eq hi, h.get_eq hj, e])
theorem ext_img (h : Pm n p) (k : Pm n q) (e : ∀ i, i < n → img p i = img q i) : p = q :=
  Go.Pm.ext (h.1.trans k.1.symm) fun j hj => by
    rw [h.1] at hj
    rw [h.get_eq hj, k.get_eq hj, e j hj]
theorem idn (n : Nat) : Pm n (idn n) :=
  ⟨idn_length n, fun j hj => by rw [idn_get hj]; omega, fun i j hi hj e => by rw [idn_get hi, idn_get hj] at e; omega⟩
theorem mk' (hl : p.length = n) (h1 : ∀ j, j < n → ∃ k, k < n ∧ p.getD j 0 = (k : Int)) (h2 : ∀ i j, i < n → j < n → img p i = img p j → i = j) : Pm n p :=
  ⟨hl, fun j hj => by obtain ⟨k, h3, h4⟩ := h1 j hj; omega, fun i j hi hj e => h2 i j hi hj (by unfold Pm.img; rw [e])⟩
theorem comp (h : Pm n p) (k : Pm n q) : Pm n (comp p q) := by
  refine mk' (by rw [comp_length]; exact h.1) (fun j hj => ⟨img q (img p j), k.img_lt (h.img_lt hj), ?_⟩) fun i j hi hj e => ?_
  · rw [comp_get _ _ (by rw [h.1]; exact hj), k.get_eq (h.img_lt hj)]
  · rw [img_comp _ _ (by rw [h.1]; exact hi), img_comp _ _ (by rw [h.1]; exact hj)] at e
    exact h.inj hi hj (k.inj (h.img_lt hi) (h.img_lt hj) e)
theorem cimg (h : Pm n p) {i : Nat} (hi : i < n) : img (Go.Pm.comp p q) i = img q (img p i) := img_comp _ _ (by rw [h.1]; exact hi)

/-- Every point is met. -/
theorem surj (h : Pm n p) {i : Nat} (hi : i < n) : ∃ j, j < n ∧ img p j = i := by
  have hn : ((List.range n).map (img p)).Nodup := by
    rw [List.nodup_iff_pairwise_ne, List.pairwise_map]
    refine List.Pairwise.imp_of_mem (R := fun a b => a ≠ b) ?_ (List.nodup_iff_pairwise_ne.1 List.nodup_range)
    intro a b ha hb hne e
    exact hne (h.inj (by simpa using ha) (by simpa using hb) e)
  have := (Go.Plain.nodup_iff_all (l := (List.range n).map (img p)) (n := n) (by simp) (fun x hx => by
    obtain ⟨j, hj, rfl⟩ := List.mem_map.1 hx
    exact h.img_lt (by simpa using hj))).1 hn i hi
  obtain ⟨j, hj, e⟩ := List.mem_map.1 this
  exact ⟨j, by simpa using hj, e⟩

theorem find (h : Pm n p) {i : Nat} (hi : i < n) : p.findIdx (fun x => decide (x = (i : Int))) < n ∧ img p (p.findIdx fun x => decide (x = (i : Int))) = i := by
  obtain ⟨j, hj, e⟩ := h.surj hi
  have hlt : p.findIdx (fun x => decide (x = (i : Int))) < p.length := by
    rw [List.findIdx_lt_length]
    refine ⟨p.getD j 0, ?_, ?_⟩
    · have hj' : j < p.length := by rw [h.1]; exact hj
      rw [List.getD_eq_getElem?_getD, List.getElem?_eq_getElem hj']
      exact List.getElem_mem hj'
    · rw [h.get_eq hj, e]; simp
  have := List.findIdx_getElem (w := hlt)
  refine ⟨by rw [← h.1]; exact hlt, ?_⟩
  simp only [decide_eq_true_eq] at this
  unfold Pm.img
  rw [List.getD_eq_getElem?_getD, List.getElem?_eq_getElem hlt, Option.getD_some, this]
  simp
theorem inv_get (h : Pm n p) {i : Nat} (hi : i < n) : (invp p).getD i 0 = ((p.findIdx fun x => decide (x = (i : Int)) : Nat) : Int) := by
  have : i < p.length := by rw [h.1]; exact hi
  simp [invp, List.getD_eq_getElem?_getD, this]
theorem inv_img (h : Pm n p) {i : Nat} (hi : i < n) : img p (img (invp p) i) = i := by
  have : img (invp p) i = p.findIdx fun x => decide (x = (i : Int)) := by unfold Pm.img; rw [h.inv_get hi]; rfl
  rw [this]; exact (h.find hi).2
theorem inv (h : Pm n p) : Pm n (invp p) := by
  refine mk' (by simp [invp, h.1]) (fun j hj => ⟨_, (h.find hj).1, h.inv_get hj⟩) fun i j hi hj e => ?_
  rw [← h.inv_img hi, ← h.inv_img hj, e]
theorem img_inv (h : Pm n p) {i : Nat} (hi : i < n) : img (invp p) (img p i) = i :=
  h.inj (h.inv.img_lt (h.img_lt hi)) hi (h.inv_img (h.img_lt hi))

theorem comp_inv (h : Pm n p) : Go.Pm.comp p (invp p) = Go.Pm.idn n :=
  (h.comp h.inv).ext_img (.idn n) fun i hi => by rw [h.cimg hi, h.img_inv hi, img_idn hi]
theorem inv_comp (h : Pm n p) : Go.Pm.comp (invp p) p = Go.Pm.idn n :=
  (h.inv.comp h).ext_img (.idn n) fun i hi => by rw [h.inv.cimg hi, h.inv_img hi, img_idn hi]
theorem comp_idn (h : Pm n p) : Go.Pm.comp p (Go.Pm.idn n) = p :=
  (h.comp (.idn n)).ext_img h fun i hi => by rw [h.cimg hi, img_idn (h.img_lt hi)]
theorem idn_comp (h : Pm n p) : Go.Pm.comp (Go.Pm.idn n) p = p :=
  ((Pm.idn n).comp h).ext_img h fun i hi => by rw [(Pm.idn n).cimg hi, img_idn hi]
theorem assoc (h : Pm n p) (k : Pm n q) (l : Pm n r) : Go.Pm.comp (Go.Pm.comp p q) r = Go.Pm.comp p (Go.Pm.comp q r) :=
  ((h.comp k).comp l).ext_img (h.comp (k.comp l)) fun i hi => by
    rw [(h.comp k).cimg hi, h.cimg hi, h.cimg hi, k.cimg (h.img_lt hi)]
theorem cancel (h : Pm n p) (k : Pm n q) : Go.Pm.comp (Go.Pm.comp p q) (invp q) = p := by
  rw [h.assoc k k.inv, k.comp_inv, h.comp_idn]
theorem cancel' (h : Pm n p) (k : Pm n q) : Go.Pm.comp (Go.Pm.comp p (invp q)) q = p := by
  rw [h.assoc k.inv k, k.inv_comp, h.comp_idn]
theorem right_inj (h : Pm n p) (k : Pm n q) (l : Pm n r) (e : Go.Pm.comp p r = Go.Pm.comp q r) : p = q := by
  rw [← h.cancel l, e, k.cancel l]
theorem inv_of_comp (h : Pm n p) (k : Pm n q) (e : Go.Pm.comp p q = Go.Pm.idn n) : p = invp q := by
  refine h.right_inj k.inv k ?_
  rw [e, k.inv_comp]
end Pm

/-- What is generated (products of generators, applied one after the other). -/
inductive Gen (n : Nat) (S : List (List Int)) : List Int → Prop
  | one : Gen n S (idn n)
  | mul {p g : List Int} : Gen n S p → g ∈ S → Gen n S (comp p g)

section
variable {n : Nat} {S S' : List (List Int)} {p q : List Int}
theorem Gen.pm (hS : ∀ g ∈ S, Pm n g) (h : Gen n S p) : Pm n p := by
  induction h with
  | one => exact .idn n
  | mul _ hg ih => exact ih.comp (hS _ hg)
theorem Gen.prod (hS : ∀ g ∈ S, Pm n g) (h : Gen n S p) (k : Gen n S q) : Gen n S (comp p q) := by
  induction k with
  | one => rw [(h.pm hS).comp_idn]; exact h
  | mul k hg ih => rw [← (h.pm hS).assoc (k.pm hS) (hS _ hg)]; exact ih.mul hg
theorem Gen.of (hS : ∀ g ∈ S, Pm n g) (h : p ∈ S) : Gen n S p := by
  have := (Gen.one (n := n) (S := S)).mul h
  rwa [(hS _ h).idn_comp] at this
theorem Gen.sub (hS : ∀ g ∈ S', Pm n g) (hs : ∀ g ∈ S, Gen n S' g) (h : Gen n S p) : Gen n S' p := by
  induction h with
  | one => exact .one
  | mul _ hg ih => exact ih.prod hS (hs _ hg)
theorem Gen.mono (hs : ∀ g ∈ S, g ∈ S') (h : Gen n S p) : Gen n S' p := by
  induction h with
  | one => exact .one
  | mul _ hg ih => exact ih.mul (hs _ hg)
end
end Go.Pm
end
/- The heap told anew beside names that stay; less told of the heap. -/
section
namespace Go.Av
section
variable {N : Cx} {A A' : Fr} {H H' : Hp}
/-- Less may be told of the heap. -/
theorem Sim.less {n : Nat} {w0 : World} {S : Rg} {w : World} {tm : Array Value} {L : Loc} (s : Sim n w0 S w tm L A H) (h : Hp.le H' H) : Sim n w0 S w tm L A H' := by
  have live : ∀ x, H' x ≠ none → H x ≠ none := fun x hx => by
    cases e : H' x with
    | none => exact absurd e hx
    | some B => rw [h x B e]; simp
  have hok : ∀ b, okb S H L b → okb S H' L b := fun b hb => ⟨hb.1, fun x q hn hq => hb.2 x q (live x hn) hq⟩
  refine ⟨s.keep, s.size, fun i a ha => Rd.mono (fun b _ hb => hok b hb) (s.slot i a ha), fun x B hB => ?_, fun x q hn hq => s.own x q (live x hn) hq, fun x g q r hn hm hq hr e => s.inj x g q r (live x hn) (live g hm) hq hr e, s.pin⟩
  have := BlkOk.step (w := w) (w' := w) (wh := w) (wh' := w) (ok := okb S H L) (ok' := okb S H' L) (L := L) (L' := L) (p := fun _ => false) (fun b _ hb => ⟨hok b hb, rfl⟩) (Shape.refl w) (fun _ _ => rfl) (fun _ _ => rfl) (s.blk x B (h x B hB))
  rwa [Blk.scrub_none] at this
/-- The low names. -/
def Hp.lo (H : Hp) : Hp := fun h => if h < 1000000 then H h else none
end
end Go.Av
end
/- Regions of open order: a chain of operations that turn memory, each ahead of the next, and operations that may come at any time. -/
section
namespace Go.Av
section
variable {P : Program} {N : Cx} {H : Hp}
theorem OpV.mono {o : Oper} {A : Fr} {K K' : AV → Fr → Hp → Prop} (h : OpV P N o A H K) (k : ∀ r A' H', K r A' H' → K' r A' H') : OpV P N o A H K' :=
  fun w0 S hS w a L s next Q' hn => h w0 S hS w a L s next Q' fun u r L' A' H' w' s' hr hk => hn u r L' A' H' w' s' hr (k _ _ _ hk)
variable (P N) in
/-- A call, whatever the frame is: what it yields, which names it turns, what the heap is behind it. -/
def CallPP (f : FuncId) (args : List AV) (H : Hp) (K : AV → (Nat → Bool) → Hp → Prop) : Prop := ∃ p : Nat → Bool, ∀ B : Fr, CallG P N f args B H fun r A' H' => A' = B.scrub p ∧ K r p H'
theorem CallPP_congr (f : FuncId) (args args' : List AV) (H H' : Hp) (K : AV → (Nat → Bool) → Hp → Prop) (h1 : args = args') (h2 : H = H') : CallPP P N f args H K = CallPP P N f args' H' K := by subst h1 h2; rfl
variable (P N) in
/-- An operation of the chain. -/
def gxVC (d : Nat) (op : Op) (A : Fr) (H : Hp) (K : AV → (Nat → Bool) → Hp → Prop) : Prop :=
  match op with
  | .call { callee := .value f, args, argTypes := _ } => (match calleeOf (A.ev f) with
    | some (g, caps) => withArgs (evArgs A args.toList) fun l => CallPP P N g (l ++ caps) H K
    | none => False)
  | .assign x => withA (A.ev x) fun a => K a (fun _ => false) H
  | .move x => withA (A.ev x) fun a => K a (fun _ => false) H
  | .call { callee := .builtin .append, args, argTypes } => pivVC P N d (.call { callee := .builtin .append, args, argTypes }) A H K
  | .store t x y => pivVC P N d (.store t x y) A H K
  | _ => False
/-- Operations at places. -/
def pickL : List Nat → List Oper → List Oper
  | [], _ => []
  | k :: ks, l => (l.drop k).take 1 ++ pickL ks l
variable (P N) in
/-- The chain. -/
def linkVC (T : List (Option Tmp)) (Q : Fr → Hp → Prop) : List Oper → Fr → Hp → Prop
  | [], A, H => Q A H
  | o :: l, A, H => gxVC P N (o.dst.getD 0) o.op A H fun r p H' => Ob (sameG (A.scrub p) A T) (linkVC T Q l (putd o.dst r (A.scrub p)) H')
/-- Whatever the heap is. -/
def AllH (p : Hp → Prop) : Prop := ∀ H, p H
variable (P N) in
def opsG (fs cs T : List Nat) (Q : Fr → Hp → Prop) (l : List Oper) (A : Fr) (H : Hp) : Prop :=
  opsQ P N (l.map (·.dst)) (fun A1 => Ob (AllH fun H' => opsQ P N (l.map (·.dst)) (fun A2 => sameG A2 A1 (T.map some)) (pickL fs l) A H') (linkVC P N (T.map some) Q (pickL cs l) A1 H)) (pickL fs l) A H
def chPre (ops : Array Oper) : List Nat → Bool
  | [] => true
  | c :: r => r.all (fun d => preB ops ops.size d c) && chPre ops r
def incB : List Nat → Bool
  | [] => true
  | c :: r => r.all (fun d => decide (c < d)) && incB r
structure ChOk0 (ops : Array Oper) (fs cs T : List Nat) : Prop where
  any : anyOk ops = true
  guard : ∀ (k : Nat) (o : Oper), ops[k]? = some o → o.guard = none
  all : ∀ k, k < ops.size → k ∈ fs ∨ k ∈ cs
  finc : incB fs = true
  cinc : incB cs = true
  clt : ∀ c ∈ cs, c < ops.size ∧ c ∉ fs
  flt : ∀ f ∈ fs, f < ops.size
  fc : ∀ f ∈ fs, ∀ o : Oper, ops[f]? = some o → ∀ e ∈ o.after, Region.binds .any e = true → e.on ∉ cs
  fd : ∀ f ∈ fs, ∀ o : Oper, ops[f]? = some o → ∃ d, o.dst = some d ∧ d ∈ T
  fr : ∀ f ∈ fs, ∀ o : Oper, ops[f]? = some o → ∀ d, o.dst = some d → ∀ (k : Nat) (ok : Oper), ops[k]? = some ok → d ∈ ok.looksAt ops → k ≠ f ∧ ∀ e ∈ o.after, Region.binds .any e = true → e.on ≠ k
  ft : ∀ f ∈ fs, ∀ o : Oper, ops[f]? = some o → ∀ t ∈ o.looksAt ops, t ∈ T
structure ChOk (ops : Array Oper) (fs cs T : List Nat) : Prop extends ChOk0 ops fs cs T where
  pre : chPre ops cs = true
theorem AllH.mk {p : Hp → Prop} (h : ∀ H, p H) : AllH p := h
end
attribute [congr] CallPP_congr
attribute [go_sem] opsG linkVC gxVC pickL
end Go.Av
end

import Derived.Test.YtpffmolibjimgaaGreatDoorS2
import Derived.Test.YtpffmolibjimgaaGreatDoorS3
/- Permutations as rows of numbers: composition, inverse, what generators generate. -/
section
namespace Go.Pm

/-- p is a permutation of n points. -/
def Pm (n : Nat) (p : List Int) : Prop := p.length = n ∧ (∀ j, j < n → 0 ≤ p.getD j 0 ∧ p.getD j 0 < n) ∧ ∀ i j, i < n → j < n → p.getD i 0 = p.getD j 0 → i = j

def img (p : List Int) (i : Nat) : Nat := (p.getD i 0).toNat
def comp (p q : List Int) : List Int := p.map fun x => q.getD x.toNat 0
def idn (n : Nat) : List Int := (List.range n).map fun i : Nat => (i : Int)
def invp (p : List Int) : List Int := (List.range p.length).map fun i : Nat => ((p.findIdx fun x => decide (x = (i : Int)) : Nat) : Int)

theorem ext {p q : List Int} (hl : p.length = q.length) (h : ∀ j, j < p.length → p.getD j 0 = q.getD j 0) : p = q := by
  refine List.ext_getElem hl fun i h1 h2 => ?_
  have := h i h1
  simpa [List.getD_eq_getElem?_getD, h1, h2] using this

theorem comp_length (p q : List Int) : (comp p q).length = p.length := by simp [comp]
theorem comp_get (p q : List Int) {i : Nat} (h : i < p.length) : (comp p q).getD i 0 = q.getD (img p i) 0 := by
  simp [comp, img, List.getD_eq_getElem?_getD, h]
theorem idn_length (n : Nat) : (idn n).length = n := by simp [idn]
theorem idn_get {n i : Nat} (h : i < n) : (idn n).getD i 0 = i := by simp [idn, List.getD_eq_getElem?_getD, h]
theorem img_idn {n i : Nat} (h : i < n) : img (idn n) i = i := by unfold img; rw [idn_get h]; rfl
theorem img_comp (p q : List Int) {i : Nat} (h : i < p.length) : img (comp p q) i = img q (img p i) := by
  unfold img; rw [comp_get p q h]; rfl

namespace Pm
variable {n : Nat} {p q r : List Int}
theorem img_lt (h : Pm n p) {i : Nat} (hi : i < n) : img p i < n := by
  have := h.2.1 i hi
  unfold Pm.img; omega
theorem get_eq (h : Pm n p) {i : Nat} (hi : i < n) : p.getD i 0 = (img p i : Int) := by
  have := h.2.1 i hi
  unfold Pm.img; omega
theorem inj (h : Pm n p) {i j : Nat} (hi : i < n) (hj : j < n) (e : img p i = img p j) : i = j :=
  h.2.2 i j hi hj (by rw [h.get_eq hi, h.get_eq hj, e])
theorem ext_img (h : Pm n p) (k : Pm n q) (e : ∀ i, i < n → img p i = img q i) : p = q :=
  Go.Pm.ext (h.1.trans k.1.symm) fun j hj => by
    rw [h.1] at hj
    rw [h.get_eq hj, k.get_eq hj, e j hj]
theorem idn (n : Nat) : Pm n (idn n) :=
  ⟨idn_length n, fun j hj => by rw [idn_get hj]; omega, fun i j hi hj e => by rw [idn_get hi, idn_get hj] at e; omega⟩
theorem mk' (hl : p.length = n) (h1 : ∀ j, j < n → ∃ k, k < n ∧ p.getD j 0 = (k : Int)) (h2 : ∀ i j, i < n → j < n → img p i = img p j → i = j) : Pm n p :=
  ⟨hl, fun j hj => by obtain ⟨k, h3, h4⟩ := h1 j hj; omega, fun i j hi hj e => h2 i j hi hj (by unfold Pm.img; rw [e])⟩
theorem comp (h : Pm n p) (k : Pm n q) : Pm n (comp p q) := by
  refine mk' (by rw [comp_length]; exact h.1) (fun j hj => ⟨img q (img p j), k.img_lt (h.img_lt hj), ?_⟩) fun i j hi hj e => ?_
  · rw [comp_get _ _ (by rw [h.1]; exact hj), k.get_eq (h.img_lt hj)]
  · rw [img_comp _ _ (by rw [h.1]; exact hi), img_comp _ _ (by rw [h.1]; exact hj)] at e
    exact h.inj hi hj (k.inj (h.img_lt hi) (h.img_lt hj) e)
theorem cimg (h : Pm n p) {i : Nat} (hi : i < n) : img (Go.Pm.comp p q) i = img q (img p i) := img_comp _ _ (by rw [h.1]; exact hi)

/-- Every point is met. -/
theorem surj (h : Pm n p) {i : Nat} (hi : i < n) : ∃ j, j < n ∧ img p j = i := by
  have hn : ((List.range n).map (img p)).Nodup := by
    rw [List.nodup_iff_pairwise_ne, List.pairwise_map]
    refine List.Pairwise.imp_of_mem (R := fun a b => a ≠ b) ?_ (List.nodup_iff_pairwise_ne.1 List.nodup_range)
    intro a b ha hb hne e
    exact hne (h.inj (by simpa using ha) (by simpa using hb) e)
  have := (Go.Plain.nodup_iff_all (l := (List.range n).map (img p)) (n := n) (by simp) (fun x hx => by
    obtain ⟨j, hj, rfl⟩ := List.mem_map.1 hx
    exact h.img_lt (by simpa using hj))).1 hn i hi
  obtain ⟨j, hj, e⟩ := List.mem_map.1 this
  exact ⟨j, by simpa using hj, e⟩

theorem find (h : Pm n p) {i : Nat} (hi : i < n) : p.findIdx (fun x => decide (x = (i : Int))) < n ∧ img p (p.findIdx fun x => decide (x = (i : Int))) = i := by
  obtain ⟨j, hj, e⟩ := h.surj hi
  have hlt : p.findIdx (fun x => decide (x = (i : Int))) < p.length := by
    rw [List.findIdx_lt_length]
    refine ⟨p.getD j 0, ?_, ?_⟩
    · have hj' : j < p.length := by rw [h.1]; exact hj
      rw [List.getD_eq_getElem?_getD, List.getElem?_eq_getElem hj']
      exact List.getElem_mem hj'
    · rw [h.get_eq hj, e]; simp
  have := List.findIdx_getElem (w := hlt)
  refine ⟨by rw [← h.1]; exact hlt, ?_⟩
  simp only [decide_eq_true_eq] at this
  unfold Pm.img
  rw [List.getD_eq_getElem?_getD, List.getElem?_eq_getElem hlt, Option.getD_some, this]
  simp
theorem inv_get (h : Pm n p) {i : Nat} (hi : i < n) : (invp p).getD i 0 = ((p.findIdx fun x => decide (x = (i : Int)) : Nat) : Int) := by
  have : i < p.length := by rw [h.1]; exact hi
  simp [invp, List.getD_eq_getElem?_getD, this]
theorem inv_img (h : Pm n p) {i : Nat} (hi : i < n) : img p (img (invp p) i) = i := by
  have : img (invp p) i = p.findIdx fun x => decide (x = (i : Int)) := by unfold Pm.img; rw [h.inv_get hi]; rfl
  rw [this]; exact (h.find hi).2
theorem inv (h : Pm n p) : Pm n (invp p) := by
  refine mk' (by simp [invp, h.1]) (fun j hj => ⟨_, (h.find hj).1, h.inv_get hj⟩) fun i j hi hj e => ?_
  rw [← h.inv_img hi, ← h.inv_img hj, e]
theorem comp_idn (h : Pm n p) : Go.Pm.comp p (Go.Pm.idn n) = p :=
  (h.comp (.idn n)).ext_img h fun i hi => by rw [h.cimg hi, img_idn (h.img_lt hi)]
theorem idn_comp (h : Pm n p) : Go.Pm.comp (Go.Pm.idn n) p = p :=
  ((Pm.idn n).comp h).ext_img h fun i hi => by rw [(Pm.idn n).cimg hi, img_idn hi]
theorem assoc (h : Pm n p) (k : Pm n q) (l : Pm n r) : Go.Pm.comp (Go.Pm.comp p q) r = Go.Pm.comp p (Go.Pm.comp q r) :=
  ((h.comp k).comp l).ext_img (h.comp (k.comp l)) fun i hi => by
    rw [(h.comp k).cimg hi, h.cimg hi, h.cimg hi, k.cimg (h.img_lt hi)]
end Pm

/-- What is generated (products of generators, applied one after the other). -/
inductive Gen (n : Nat) (S : List (List Int)) : List Int → Prop
  | one : Gen n S (idn n)
  | mul {p g : List Int} : Gen n S p → g ∈ S → Gen n S (comp p g)

section
variable {n : Nat} {S S' : List (List Int)} {p q : List Int}
theorem Gen.pm (hS : ∀ g ∈ S, Pm n g) (h : Gen n S p) : Pm n p := by
  induction h with
  | one => exact .idn n
  | mul _ hg ih => exact ih.comp (hS _ hg)
theorem Gen.prod (hS : ∀ g ∈ S, Pm n g) (h : Gen n S p) (k : Gen n S q) : Gen n S (comp p q) := by
  induction k with
  | one => rw [(h.pm hS).comp_idn]; exact h
  | mul k hg ih => rw [← (h.pm hS).assoc (k.pm hS) (hS _ hg)]; exact ih.mul hg
theorem Gen.of (hS : ∀ g ∈ S, Pm n g) (h : p ∈ S) : Gen n S p := by
  have := (Gen.one (n := n) (S := S)).mul h
  rwa [(hS _ h).idn_comp] at this
theorem Gen.sub (hS : ∀ g ∈ S', Pm n g) (hs : ∀ g ∈ S, Gen n S' g) (h : Gen n S p) : Gen n S' p := by
  induction h with
  | one => exact .one
  | mul _ hg ih => exact ih.prod hS (hs _ hg)
theorem Gen.mono (hs : ∀ g ∈ S, g ∈ S') (h : Gen n S p) : Gen n S' p := by
  induction h with
  | one => exact .one
  | mul _ hg ih => exact ih.mul (hs _ hg)
end
end Go.Pm
end
/- The heap told anew beside names that stay; less told of the heap. -/
section
namespace Go.Av
section
variable {N : Cx} {A A' : Fr} {H H' : Hp}
/-- Less may be told of the heap. -/
theorem Sim.less {n : Nat} {w0 : World} {S : Rg} {w : World} {tm : Array Value} {L : Loc} (s : Sim n w0 S w tm L A H) (h : Hp.le H' H) : Sim n w0 S w tm L A H' := by
  have live : ∀ x, H' x ≠ none → H x ≠ none := fun x hx => by
    cases e : H' x with
    | none => exact absurd e hx
    | some B => rw [h x B e]; simp
  have hok : ∀ b, okb S H L b → okb S H' L b := fun b hb => ⟨hb.1, fun x q hn hq => hb.2 x q (live x hn) hq⟩
  refine ⟨s.keep, s.size, fun i a ha => Rd.mono (fun b _ hb => hok b hb) (s.slot i a ha), fun x B hB => ?_, fun x q hn hq => s.own x q (live x hn) hq, fun x g q r hn hm hq hr e => s.inj x g q r (live x hn) (live g hm) hq hr e, s.pin⟩
  have := BlkOk.step (w := w) (w' := w) (wh := w) (wh' := w) (ok := okb S H L) (ok' := okb S H' L) (L := L) (L' := L) (p := fun _ => false) (fun b _ hb => ⟨hok b hb, rfl⟩) (Shape.refl w) (fun _ _ => rfl) (fun _ _ => rfl) (s.blk x B (h x B hB))
  rwa [Blk.scrub_none] at this
/-- The low names. -/
def Hp.lo (H : Hp) : Hp := fun h => if h < 1000000 then H h else none
end
end Go.Av
end
/- Regions of open order: a chain of operations that turn memory, each ahead of the next, and operations that may come at any time. -/
section
namespace Go.Av
section
variable {P : Program} {N : Cx} {H : Hp}
theorem OpV.mono {o : Oper} {A : Fr} {K K' : AV → Fr → Hp → Prop} (h : OpV P N o A H K) (k : ∀ r A' H', K r A' H' → K' r A' H') : OpV P N o A H K' :=
  fun w0 S hS w a L s next Q' hn => h w0 S hS w a L s next Q' fun u r L' A' H' w' s' hr hk => hn u r L' A' H' w' s' hr (k _ _ _ hk)
variable (P N) in
/-- A call, whatever the frame is: what it yields, which names it turns, what the heap is behind it. -/
def CallPP (f : FuncId) (args : List AV) (H : Hp) (K : AV → (Nat → Bool) → Hp → Prop) : Prop := ∃ p : Nat → Bool, ∀ B : Fr, CallG P N f args B H fun r A' H' => A' = B.scrub p ∧ K r p H'
theorem CallPP_congr (f : FuncId) (args args' : List AV) (H H' : Hp) (K : AV → (Nat → Bool) → Hp → Prop) (h1 : args = args') (h2 : H = H') : CallPP P N f args H K = CallPP P N f args' H' K := by subst h1 h2; rfl
variable (P N) in
/-- An operation of the chain. -/
def gxVC (d : Nat) (op : Op) (A : Fr) (H : Hp) (K : AV → (Nat → Bool) → Hp → Prop) : Prop :=
  match op with
  | .call { callee := .value f, args, argTypes := _ } => (match calleeOf (A.ev f) with
    | some (g, caps) => withArgs (evArgs A args.toList) fun l => CallPP P N g (l ++ caps) H K
    | none => False)
  | .assign x => withA (A.ev x) fun a => K a (fun _ => false) H
  | .move x => withA (A.ev x) fun a => K a (fun _ => false) H
  | .call { callee := .builtin .append, args, argTypes } => pivVC P N d (.call { callee := .builtin .append, args, argTypes }) A H K
  | .store t x y => pivVC P N d (.store t x y) A H K
  | _ => False
theorem gxVC_ok {o : Oper} {A : Fr} {K : AV → (Nat → Bool) → Hp → Prop} (h : gxVC P N (o.dst.getD 0) o.op A H K) : ∃ p : Nat → Bool, ∀ B : Fr, (∀ x ∈ o.op.operands, B.ev x = A.ev x) → OpV P N o B H fun r A' H' => A' = B.scrub p ∧ K r p H' := by
  have piv : pivVC P N (o.dst.getD 0) o.op A H K → ∃ p : Nat → Bool, ∀ B : Fr, (∀ x ∈ o.op.operands, B.ev x = A.ev x) → OpV P N o B H fun r A' H' => A' = B.scrub p ∧ K r p H' := fun h => by
    obtain ⟨r, p, H', hK, hp⟩ := piv_ok h
    exact ⟨p, fun B hB => (hp B hB).mono fun r' A' H'' e => by obtain ⟨rfl, rfl, rfl⟩ := e; exact ⟨rfl, hK⟩⟩
  unfold gxVC at h
  split at h
  · rename_i f args tys ho
    split at h
    · rename_i g caps hc
      obtain ⟨l, hl, p, h⟩ := withArgs_ok h
      refine ⟨p, fun B hB => opVC_sound ?_⟩
      have hf : B.ev f = A.ev f := hB f (by rw [ho]; simp [Op.operands, Call.operands])
      have ha : evArgs B args.toList = evArgs A args.toList := evArgs_congr fun x hx => hB x (by rw [ho]; simp [Op.operands, Call.operands]; first | exact .inr (by simpa using hx) | (right; simpa using hx))
      rw [ho]
      simp only [opVC, hf, ha]
      rw [hc, hl]
      exact h B
    · exact h.elim
  · rename_i x ho
    obtain ⟨a, ha, h⟩ := withA_ok h
    refine ⟨fun _ => false, fun B hB => opVC_sound ?_⟩
    have hx : B.ev x = A.ev x := hB x (by rw [ho]; simp [Op.operands])
    rw [ho]
    simp only [opVC, hx, ha, withA]
    exact ⟨(Fr.scrub_none B).symm, h⟩
  · rename_i x ho
    obtain ⟨a, ha, h⟩ := withA_ok h
    refine ⟨fun _ => false, fun B hB => opVC_sound ?_⟩
    have hx : B.ev x = A.ev x := hB x (by rw [ho]; simp [Op.operands])
    rw [ho]
    simp only [opVC, hx, ha, withA]
    exact ⟨(Fr.scrub_none B).symm, h⟩
  · rename_i ho
    rw [← ho] at h; exact piv h
  · rename_i ho
    rw [← ho] at h; exact piv h
  · exact h.elim
/-- Operations at places. -/
def pickL : List Nat → List Oper → List Oper
  | [], _ => []
  | k :: ks, l => (l.drop k).take 1 ++ pickL ks l
theorem pickL_get {l : List Oper} : ∀ (ks : List Nat), (∀ k ∈ ks, k < l.length) → ∀ j : Nat, (pickL ks l)[j]? = (ks[j]?).bind fun k : Nat => l[k]?
  | [], _, j => by simp [pickL]
  | k :: ks, h, j => by
    have hk := h k (List.mem_cons_self ..)
    have e : (l.drop k).take 1 = [l[k]] := by rw [List.drop_eq_getElem_cons hk]; rfl
    have ih := pickL_get ks (fun x hx => h x (List.mem_cons_of_mem _ hx))
    simp only [pickL, e]
    cases j with
    | zero => simp [hk]
    | succ j => simpa using ih j
theorem pickL_len {l : List Oper} : ∀ (ks : List Nat), (∀ k ∈ ks, k < l.length) → (pickL ks l).length = ks.length
  | [], _ => rfl
  | k :: ks, h => by
    have hk := h k (List.mem_cons_self ..)
    have e : (l.drop k).take 1 = [l[k]] := by rw [List.drop_eq_getElem_cons hk]; rfl
    simp [pickL, e, pickL_len ks (fun x hx => h x (List.mem_cons_of_mem _ hx))]
variable (P N) in
/-- The chain. -/
def linkVC (T : List (Option Tmp)) (Q : Fr → Hp → Prop) : List Oper → Fr → Hp → Prop
  | [], A, H => Q A H
  | o :: l, A, H => gxVC P N (o.dst.getD 0) o.op A H fun r p H' => Ob (sameG (A.scrub p) A T) (linkVC T Q l (putd o.dst r (A.scrub p)) H')
/-- Whatever the heap is. -/
def AllH (p : Hp → Prop) : Prop := ∀ H, p H
variable (P N) in
def opsG (fs cs T : List Nat) (Q : Fr → Hp → Prop) (l : List Oper) (A : Fr) (H : Hp) : Prop :=
  opsQ P N (l.map (·.dst)) (fun A1 => Ob (AllH fun H' => opsQ P N (l.map (·.dst)) (fun A2 => sameG A2 A1 (T.map some)) (pickL fs l) A H') (linkVC P N (T.map some) Q (pickL cs l) A1 H)) (pickL fs l) A H
def chPre (ops : Array Oper) : List Nat → Bool
  | [] => true
  | c :: r => r.all (fun d => preB ops ops.size d c) && chPre ops r
theorem chPre_app {ops : Array Oper} {r : List Nat} : ∀ (l : List Nat), chPre ops (l ++ r) = true → chPre ops r = true
  | [], h => h
  | _ :: l, h => by
    simp only [List.cons_append, chPre, Bool.and_eq_true] at h
    exact chPre_app l h.2
def incB : List Nat → Bool
  | [] => true
  | c :: r => r.all (fun d => decide (c < d)) && incB r
def chOk0 (ops : Array Oper) (fs cs T : List Nat) : Bool :=
  anyOk ops && ops.toList.all (fun o => o.guard.isNone) && (List.range ops.size).all (fun k => fs.contains k || cs.contains k) && incB fs && incB cs && cs.all (fun c => decide (c < ops.size) && !fs.contains c) &&
  fs.all fun f => match ops[f]? with
    | none => false
    | some o => o.after.all (fun e => !Region.binds .any e || !cs.contains e.on) && (match o.dst with
      | none => false
      | some d => T.contains d && (List.range ops.size).all fun k => match ops[k]? with
        | none => true
        | some ok => !(ok.looksAt ops).contains d || (k != f && !(o.after.any fun e => Region.binds .any e && e.on == k))) && (o.looksAt ops).all fun t => T.contains t
def chOk (ops : Array Oper) (fs cs T : List Nat) : Bool := chOk0 ops fs cs T && chPre ops cs
theorem incB_ok : ∀ {l : List Nat}, incB l = true → ∀ i j, i < j → j < l.length → l.getD i 0 < l.getD j 0
  | [], _, i, j, _, h => by simp at h
  | c :: r, h, i, j, hij, hj => by
    simp only [incB, Bool.and_eq_true, List.all_eq_true, decide_eq_true_eq] at h
    have hj' : j - 1 < r.length := by simp at hj; omega
    have ej : (c :: r).getD j 0 = r.getD (j - 1) 0 := by
      cases j with
      | zero => omega
      | succ j => simp
    rw [ej]
    cases i with
    | zero =>
      have : r.getD (j - 1) 0 ∈ r := by rw [List.getD_eq_getElem?_getD, List.getElem?_eq_getElem hj']; exact List.getElem_mem hj'
      simpa using h.1 _ this
    | succ i =>
      have := incB_ok h.2 i (j - 1) (by omega) hj'
      simpa using this
structure ChOk0 (ops : Array Oper) (fs cs T : List Nat) : Prop where
  any : anyOk ops = true
  guard : ∀ (k : Nat) (o : Oper), ops[k]? = some o → o.guard = none
  all : ∀ k, k < ops.size → k ∈ fs ∨ k ∈ cs
  finc : incB fs = true
  cinc : incB cs = true
  clt : ∀ c ∈ cs, c < ops.size ∧ c ∉ fs
  flt : ∀ f ∈ fs, f < ops.size
  fc : ∀ f ∈ fs, ∀ o : Oper, ops[f]? = some o → ∀ e ∈ o.after, Region.binds .any e = true → e.on ∉ cs
  fd : ∀ f ∈ fs, ∀ o : Oper, ops[f]? = some o → ∃ d, o.dst = some d ∧ d ∈ T
  fr : ∀ f ∈ fs, ∀ o : Oper, ops[f]? = some o → ∀ d, o.dst = some d → ∀ (k : Nat) (ok : Oper), ops[k]? = some ok → d ∈ ok.looksAt ops → k ≠ f ∧ ∀ e ∈ o.after, Region.binds .any e = true → e.on ≠ k
  ft : ∀ f ∈ fs, ∀ o : Oper, ops[f]? = some o → ∀ t ∈ o.looksAt ops, t ∈ T
structure ChOk (ops : Array Oper) (fs cs T : List Nat) : Prop extends ChOk0 ops fs cs T where
  pre : chPre ops cs = true
theorem chOk0_ok {ops : Array Oper} {fs cs T : List Nat} (h : chOk0 ops fs cs T = true) : ChOk0 ops fs cs T := by
  simp only [chOk0, Bool.and_eq_true, List.all_eq_true, List.mem_range, Bool.or_eq_true, List.contains_iff_mem, decide_eq_true_eq, Bool.not_eq_true'] at h
  obtain ⟨⟨⟨⟨⟨⟨h1, h2⟩, h3⟩, h4⟩, h5⟩, h7⟩, h8⟩ := h
  have at' : ∀ f ∈ fs, ∃ o : Oper, ops[f]? = some o ∧ (∀ e ∈ o.after, Region.binds .any e = true → e.on ∉ cs) ∧ (∃ d, o.dst = some d ∧ d ∈ T ∧ ∀ (k : Nat) (ok : Oper), ops[k]? = some ok → d ∈ ok.looksAt ops → k ≠ f ∧ ∀ e ∈ o.after, Region.binds .any e = true → e.on ≠ k) ∧ ∀ t ∈ o.looksAt ops, t ∈ T := fun f hf => by
    have h := h8 f hf
    split at h
    · cases h
    · rename_i o ho
      simp only [Bool.and_eq_true, Array.all_eq_true', List.all_eq_true, Bool.or_eq_true, Bool.not_eq_true', List.contains_iff_mem] at h
      obtain ⟨⟨k1, k2⟩, k3⟩ := h
      refine ⟨o, ho, fun e he hb hc => ?_, ?_, k3⟩
      · rcases k1 e he with h | h
        · rw [hb] at h; cases h
        · have : cs.contains e.on = true := by simpa using hc
          rw [this] at h; cases h
      · split at k2
        · cases k2
        · rename_i d hd
          simp only [Bool.and_eq_true, List.all_eq_true, List.mem_range, List.contains_iff_mem] at k2
          refine ⟨d, hd, k2.1, fun k ok hok hdk => ?_⟩
          have hk := (Array.getElem?_eq_some_iff.1 hok).1
          have h := k2.2 k hk
          rw [hok] at h
          simp only [Bool.or_eq_true, Bool.not_eq_true', Bool.and_eq_true, bne_iff_ne] at h
          rcases h with h | h
          · have : (ok.looksAt ops).contains d = true := by simpa using hdk
            rw [this] at h; cases h
          · refine ⟨h.1, fun e he hb ek => ?_⟩
            have : (o.after.any fun e => Region.binds .any e && e.on == k) = true := Array.any_eq_true'.2 ⟨e, he, by simp [hb, ek]⟩
            rw [this] at h; cases h.2
  have un : ∀ f ∈ fs, ∀ o : Oper, ops[f]? = some o → (∀ e ∈ o.after, Region.binds .any e = true → e.on ∉ cs) ∧ (∃ d, o.dst = some d ∧ d ∈ T ∧ ∀ (k : Nat) (ok : Oper), ops[k]? = some ok → d ∈ ok.looksAt ops → k ≠ f ∧ ∀ e ∈ o.after, Region.binds .any e = true → e.on ≠ k) ∧ ∀ t ∈ o.looksAt ops, t ∈ T := fun f hf o ho => by
    obtain ⟨o', ho', h⟩ := at' f hf
    rw [ho] at ho'; simp only [Option.some.injEq] at ho'; subst ho'; exact h
  refine ⟨h1, fun k o ho => ?_, h3, h4, h5, fun c hc => ⟨(h7 c hc).1, fun hf => ?_⟩, fun f hf => ?_, fun f hf o ho => (un f hf o ho).1, fun f hf o ho => ?_, fun f hf o ho d hd => ?_, fun f hf o ho => (un f hf o ho).2.2⟩
  · have := h2 o (by rw [Array.mem_toList_iff]; exact Array.mem_of_getElem? ho)
    simpa using this
  · have h := (h7 c hc).2
    have : fs.contains c = true := by simpa using hf
    rw [this] at h; cases h
  · obtain ⟨o, ho, _⟩ := at' f hf
    exact (Array.getElem?_eq_some_iff.1 ho).1
  · obtain ⟨d, h1, h2, _⟩ := (un f hf o ho).2.1
    exact ⟨d, h1, h2⟩
  · obtain ⟨d', h1, h2, h3⟩ := (un f hf o ho).2.1
    rw [hd] at h1; simp only [Option.some.injEq] at h1; subst h1; exact h3
theorem chOk_ok {ops : Array Oper} {fs cs T : List Nat} (h : chOk ops fs cs T = true) : ChOk ops fs cs T := by
  simp only [chOk, Bool.and_eq_true] at h
  exact ⟨chOk0_ok h.1, h.2⟩
theorem link_sound {ds : List Deferred} {ops : Array Oper} {fs cs T : List Nat} {Q' : Exit → Act → World → Prop} {QF : Fr → Hp → Prop} {A0 A1 : Fr} {rs : List AV} {w0 : World} {S : Rg} (hS : Good N w0 S) (hok : ChOk ops fs cs T)
    (hN : ∀ (j t : Nat) (o : Oper), ops[j]? = some o → o.dst = some t → t < N.n)
    (hl : rs.length = (pickL fs ops.toList).length)
    (hA1 : ∀ t, A1.get t = valL (pickL fs ops.toList) rs A0.get (pickL fs ops.toList).length t)
    (hstep : ∀ H' j o, (pickL fs ops.toList)[j]? = some o → ∃ Aj : Fr, (∀ t, Aj.get t = valL (pickL fs ops.toList) rs A0.get j t) ∧ OpOK P N o Aj H' (rs.getD j .dead))
    (hQ : ∀ (A : Fr) (H : Hp) (a : Act) (w : World) (L : Loc), Sim N.n w0 S w a.tmps L A H → a.defers = ds → QF A H → Q' .normal a w) :
    ∀ (fuel : Nat) (listed : Array Bool) (s : List Nat) (a : Act) (w : World) (A Ac : Fr) (L : Loc) (Hc : Hp) (done rest : List Nat), listed.size = ops.size → s.Nodup → (∀ k, k ∈ s ↔ listed.getD k false = true) → s.length + fuel = ops.size →
      (∀ (k : Nat) (o : Oper) (e : Edge), listed.getD k false = true → ops[k]? = some o → e ∈ o.after → Region.binds .any e = true → listed.getD e.on false = true) → a.defers = ds →
      Sim N.n w0 S w a.tmps L A Hc → cs = done ++ rest → (∀ c ∈ done, listed.getD c false = true) → (∀ c ∈ rest, ¬ listed.getD c false = true) →
      (∀ t, (∀ f ∈ fs, ∀ o : Oper, ops[f]? = some o → ¬ listed.getD f false = true → o.dst ≠ some t) → A.get t = Ac.get t) →
      (∀ t, t ∈ T → (∀ c ∈ done, ∀ o : Oper, ops[c]? = some o → o.dst ≠ some t) → Ac.get t = A1.get t) →
      linkVC P N (T.map some) QF (pickL rest ops.toList) Ac Hc →
      wpAny P .any ops Q' fuel listed a w := by
  obtain ⟨hinj, hback, hdep⟩ := anyOk_ok hok.any
  have tl : ∀ j : Nat, ops.toList[j]? = ops[j]? := fun j => Array.getElem?_toList
  have flt : ∀ f ∈ fs, f < ops.toList.length := fun f hf => by simpa using hok.flt f hf
  have len : (pickL fs ops.toList).length = fs.length := pickL_len fs flt
  have pk : ∀ j, (pickL fs ops.toList)[j]? = (fs[j]?).bind fun k : Nat => ops[k]? := fun j => by
    rw [pickL_get fs flt j]
    cases fs[j]? with
    | none => rfl
    | some k => exact tl k
  have pko : ∀ j o, (pickL fs ops.toList)[j]? = some o → ∃ f, fs[j]? = some f ∧ f ∈ fs ∧ ops[f]? = some o := fun j o h => by
    rw [pk j] at h
    cases hf : fs[j]? with
    | none => rw [hf] at h; cases h
    | some f => rw [hf] at h; exact ⟨f, hf, List.mem_of_getElem? hf, h⟩
  have inc : ∀ i j f g : Nat, fs[i]? = some f → fs[j]? = some g → f < g → i < j := fun i j f g hf hg hfg => by
    have hj := (List.getElem?_eq_some_iff.1 hg).1
    have hi := (List.getElem?_eq_some_iff.1 hf).1
    refine Nat.lt_of_not_le fun h => ?_
    rcases Nat.lt_or_eq_of_le h with h | h
    · have := incB_ok hok.finc j i h hi
      rw [List.getD_eq_getElem?_getD, List.getD_eq_getElem?_getD, hf, hg] at this
      simp only [Option.getD_some] at this; omega
    · subst h; rw [hf] at hg; simp only [Option.some.injEq] at hg; omega
  have posu : ∀ i j f : Nat, fs[i]? = some f → fs[j]? = some f → i = j := fun i j f hf hg => by
    have hj := (List.getElem?_eq_some_iff.1 hg).1
    have hi := (List.getElem?_eq_some_iff.1 hf).1
    rcases Nat.lt_trichotomy i j with h | h | h
    · have := incB_ok hok.finc i j h hj
      rw [List.getD_eq_getElem?_getD, List.getD_eq_getElem?_getD, hf, hg] at this
      simp only [Option.getD_some] at this; omega
    · exact h
    · have := incB_ok hok.finc j i h hi
      rw [List.getD_eq_getElem?_getD, List.getD_eq_getElem?_getD, hf, hg] at this
      simp only [Option.getD_some] at this; omega
  have uniq : ∀ (k t : Nat) (o : Oper) (k' : Nat) (o' : Oper), ops[k]? = some o → o.dst = some t → ops[k']? = some o' → o'.dst = some t → k' = k := fun k t o k' o' ho hdt ho' hd' => hinj k' k t o' o ho' ho hd' hdt
  -- what the walk's frames say
  have hit : ∀ i j f t o, fs[i]? = some f → i < j → ops[f]? = some o → o.dst = some t → valL (pickL fs ops.toList) rs A0.get j t = some (rs.getD i .dead) := fun i j f t o hf hij ho hd =>
    valL_hit _ rs _ j t i o hl hij (by rw [pk, hf]; exact ho) hd fun k' o' ho' hd' => by
      obtain ⟨f', h1, h2, h3⟩ := pko k' o' ho'
      have := uniq f t o f' o' ho hd h3 hd'
      subst this; exact posu _ _ _ h1 hf
  have miss : ∀ j t, (∀ f ∈ fs, ∀ o : Oper, ops[f]? = some o → o.dst ≠ some t) → valL (pickL fs ops.toList) rs A0.get j t = A0.get t := fun j t h =>
    valL_miss _ rs _ j t fun k o hk ho => by
      obtain ⟨f, h1, h2, h3⟩ := pko k o ho
      exact h f h2 o h3
  intro fuel
  induction fuel with
  | zero =>
    intro listed s a w A Ac L Hc done rest hsz hn hs hc hcl hd sim hcs hdone hrest hA hI hv
    have hlt : ∀ k ∈ s, k < ops.size := fun k hk => by
      have := (hs k).1 hk
      rcases Nat.lt_or_ge k listed.size with h | h
      · omega
      · simp [Array.getD, show ¬ k < listed.size by omega] at this
    have hall : ∀ k, k < ops.size → listed.getD k false = true := fun k hk => (hs k).1 ((Go.Plain.nodup_iff_all (by omega) hlt).1 hn k hk)
    have hr : rest = [] := by
      cases rest with
      | nil => rfl
      | cons c r =>
        have hc : c ∈ cs := by rw [hcs]; simp
        exact absurd (hall c (hok.clt c hc).1) (hrest c (List.mem_cons_self ..))
    subst hr
    refine ⟨?_, ?_⟩
    · refine List.eq_nil_iff_forall_not_mem.2 fun j hj => ?_
      obtain ⟨h1, o, ho, _⟩ := mem_ready.1 hj
      have hj' : j < ops.size := (Array.getElem?_eq_some_iff.1 ho).1
      have := hall j hj'
      simp [Array.getD, hsz, hj'] at h1 this
      rw [h1] at this; cases this
    · refine hQ Ac Hc a w L (sim.sub fun t x hx => ?_) hd hv
      rw [hA t fun f hf o ho hu => absurd (hall f (hok.flt f hf)) hu]; exact hx
  | succ fuel ih =>
    intro listed s a w A Ac L Hc done rest hsz hn hs hc hcl hd sim hcs hdone hrest hA hI hv
    have ld : ∀ k, k < ops.size → (listed.getD k true = false ↔ ¬ listed.getD k false = true) := by
      intro k hk
      simp [Array.getD, hsz, hk]
    have hex : ∃ k, k < ops.size ∧ ¬ listed.getD k false = true := by
      refine Classical.byContradiction fun hno => ?_
      have : ∀ x ∈ List.range ops.size, x ∈ s := fun x hx => (hs x).2 (Classical.byContradiction fun h => hno ⟨x, by simpa using hx, h⟩)
      have := Go.Plain.nodup_le s (List.range ops.size) List.nodup_range this
      simp at this; omega
    refine ⟨fun h => absurd h (ready_ne hsz hback hex), fun i hi => ?_⟩
    obtain ⟨hun0, oi, hoi, hall⟩ := mem_ready.1 hi
    have hi' : i < ops.size := (Array.getElem?_eq_some_iff.1 hoi).1
    have hun := (ld i hi').1 hun0
    have g1 : ∀ k, (listed.setIfInBounds i true).getD k false = true ↔ (k = i ∨ listed.getD k false = true) := by
      intro k
      by_cases hk : k = i
      · subst hk; simp [Array.getD, hsz, hi']
      · rw [getD_set_ne false (Ne.symm hk)]; simp [hk]
    have nd1 : (i :: s).Nodup := List.nodup_cons.2 ⟨fun h => hun ((hs i).1 h), hn⟩
    have hs1 : ∀ k, k ∈ i :: s ↔ (listed.setIfInBounds i true).getD k false = true := fun k => by rw [g1, List.mem_cons, hs]
    have hcl1 : ∀ (k : Nat) (o : Oper) (e : Edge), (listed.setIfInBounds i true).getD k false = true → ops[k]? = some o → e ∈ o.after → Region.binds .any e = true → (listed.setIfInBounds i true).getD e.on false = true := by
      intro k o e hk ho he hb
      rw [g1] at hk ⊢
      rcases hk with rfl | hk
      · rw [hoi] at ho; simp only [Option.some.injEq] at ho; subst ho
        exact .inr (hall e he hb)
      · exact .inr (hcl k o e hk ho he hb)
    have hNi := fun t h => hN i t oi hoi h
    unfold wpOp
    simp only [hoi]
    rw [if_pos (by simp [Region.wanted, hok.guard i oi hoi])]
    left
    have looks : ∀ (B : Fr), (∀ t, t ∈ oi.looksAt ops → A.get t = B.get t) → ∀ x ∈ oi.op.operands, A.ev x = B.ev x := by
      intro B hB x hx
      cases x with
      | tmp t => exact hB t (List.mem_append_left _ (List.mem_filterMap.2 ⟨.tmp t, by simpa using hx, rfl⟩))
      | const v => rfl
      | global g => rfl
      | func f => rfl
    rcases hok.all i hi' with hif | hic
    · -- one that may come at any time
      obtain ⟨j, hj⟩ := List.getElem?_of_mem hif
      obtain ⟨Aj, hAj, hop⟩ := hstep Hc j oi (by rw [pk, hj]; exact hoi)
      obtain ⟨di, hdi, hdT⟩ := hok.fd i hif oi hoi
      have nochain : ∀ c ∈ done, ∀ o : Oper, ops[c]? = some o → o.dst ≠ some di := fun c hc o ho hdt => by
        have := uniq i di oi c o hoi hdi ho hdt
        subst this
        exact (hok.clt c (by rw [hcs]; exact List.mem_append_left _ hc)).2 hif
      refine hop A (looks Aj fun t ht => ?_) w0 S hS w a L sim _ Q' ?_
      · have htT := hok.ft i hif oi hoi t ht
        rw [hAj]
        by_cases hx : ∃ (k : Nat) (o : Oper), ops[k]? = some o ∧ o.dst = some t
        · obtain ⟨k, o, ho, hdt⟩ := hx
          have hk' := (Array.getElem?_eq_some_iff.1 ho).1
          rcases hok.all k hk' with hkf | hkc
          · obtain ⟨hne, hno⟩ := hok.fr k hkf o ho t hdt i oi hoi ht
            rcases hdep k i t o oi (fun e => hne e.symm) ho hoi hdt ht with ⟨e, he, hb, rfl⟩ | ⟨e, he, hb, he2⟩
            · have hlk := hall e he hb
              have hlt := hback i oi e hoi he hb
              obtain ⟨j', hj'⟩ := List.getElem?_of_mem hkf
              have hjj := inc j' j e.on i hj' hj hlt
              have hjl : j' < (pickL fs ops.toList).length := by rw [len]; exact (List.getElem?_eq_some_iff.1 hj').1
              rw [hit j' j e.on t o hj' hjj ho hdt, hA t fun f hf o' ho' hu hd' => by
                have := uniq e.on t o f o' ho hdt ho' hd'; subst this; exact hu hlk]
              rw [hI t htT fun c hc o' ho' hd' => by
                have := uniq e.on t o c o' ho hdt ho' hd'; subst this
                exact (hok.clt e.on (by rw [hcs]; exact List.mem_append_left _ hc)).2 hkf]
              rw [hA1, hit j' _ e.on t o hj' hjl ho hdt]
            · exact absurd he2 (hno e he hb)
          · have hnf : ∀ f ∈ fs, ∀ o' : Oper, ops[f]? = some o' → o'.dst ≠ some t := fun f hf o' ho' hd' => by
              have := uniq k t o f o' ho hdt ho' hd'; subst this; exact (hok.clt f hkc).2 hf
            have hki : k ≠ i := fun e => by subst e; exact (hok.clt k hkc).2 hif
            rcases hdep k i t o oi hki ho hoi hdt ht with ⟨e, he, hb, rfl⟩ | ⟨e, he, hb, rfl⟩
            · exact absurd hkc (hok.fc i hif oi hoi e he hb)
            · have hkd : k ∉ done := fun hk => hun (hcl k o e (hdone k hk) ho he hb)
              rw [miss j t hnf, hA t fun f hf o' ho' _ => hnf f hf o' ho', hI t htT fun c hc o' ho' hd' => by
                have := uniq k t o c o' ho hdt ho' hd'; subst this; exact hkd hc]
              rw [hA1, miss _ t hnf]
        · have hno : ∀ (k : Nat) (o : Oper), ops[k]? = some o → o.dst ≠ some t := fun k o ho e => hx ⟨k, o, ho, e⟩
          rw [miss j t fun f _ o ho => hno f o ho, hA t fun f _ o ho _ => hno f o ho, hI t htT fun c _ o ho => hno c o ho, hA1, miss _ t fun f _ o ho => hno f o ho]
      · rintro u rr L' A' H4 w' s' hr ⟨rfl, rfl, rfl⟩
        refine ih (listed.setIfInBounds i true) (i :: s) _ w' (putd oi.dst (rs.getD j .dead) A') Ac L' H4 done rest (by simp [hsz]) nd1 hs1 (by simp only [List.length_cons]; omega) hcl1 (by rw [put_defers]; exact hd) (s'.putd hNi hr) hcs (fun c hc => (g1 c).2 (.inr (hdone c hc))) (fun c hc h => ?_) (fun t ht => ?_) hI hv
        · rcases (g1 c).1 h with rfl | h
          · exact (hok.clt c (by rw [hcs]; exact List.mem_append_right _ hc)).2 hif
          · exact hrest c hc h
        · rw [putd_get]
          by_cases e : oi.dst = some t
          · rw [if_pos e]
            rw [hdi] at e; simp only [Option.some.injEq] at e; subst e
            rw [hI di hdT nochain, hA1, hit j _ i di oi hj (by rw [len]; exact (List.getElem?_eq_some_iff.1 hj).1) hoi hdi]
          · rw [if_neg e]
            refine hA t fun f hf o ho hu => ?_
            by_cases hfi : f = i
            · subst hfi; rw [hoi] at ho; simp only [Option.some.injEq] at ho; subst ho; exact e
            · exact ht f hf o ho fun h => ((g1 f).1 h).elim hfi hu
    · -- the next of the chain
      have hir : i ∈ rest := by
        rw [hcs] at hic
        rcases List.mem_append.1 hic with h | h
        · exact absurd (hdone i h) hun
        · exact h
      obtain ⟨c, r, rfl⟩ : ∃ c r, rest = c :: r := by
        cases rest with
        | nil => cases hir
        | cons c r => exact ⟨c, r, rfl⟩
      have hci : c = i := by
        rcases List.mem_cons.1 hir with h | h
        · exact h.symm
        · have hp : chPre ops (c :: r) = true := by
            have hp := hok.pre
            rw [hcs] at hp
            exact chPre_app done hp
          simp only [chPre, Bool.and_eq_true, List.all_eq_true] at hp
          exact absurd (pre_ready hcl hoi hall (hp.1 i h)) (hrest c (List.mem_cons_self ..))
      subst hci
      have e1 : pickL (c :: r) ops.toList = oi :: pickL r ops.toList := by
        have hk : c < ops.toList.length := by simpa using hi'
        have e2 : ops.toList[c] = oi := by
          have := Array.getElem?_eq_some_iff.1 hoi
          obtain ⟨_, e⟩ := this
          simpa using e
        simp only [pickL]
        rw [List.drop_eq_getElem_cons hk, e2]; rfl
      rw [e1] at hv
      simp only [linkVC] at hv
      obtain ⟨p, hp⟩ := gxVC_ok hv
      refine hp A (looks Ac fun t ht => hA t fun f hf o ho hu hdt => ?_) w0 S hS w a L sim _ Q' ?_
      · obtain ⟨hne, hno⟩ := hok.fr f hf o ho t hdt c oi hoi ht
        rcases hdep f c t o oi (fun e => hne e.symm) ho hoi hdt ht with ⟨e, he, hb, rfl⟩ | ⟨e, he, hb, he2⟩
        · exact hu (hall e he hb)
        · exact hno e he hb he2
      · rintro u rr L' A' H4 w' s' hr ⟨rfl, hsame, hv'⟩
        refine ih (listed.setIfInBounds c true) (c :: s) _ w' (putd oi.dst rr (A.scrub p)) (putd oi.dst rr (Ac.scrub p)) L' H4 (done ++ [c]) r (by simp [hsz]) nd1 hs1 (by simp only [List.length_cons]; omega) hcl1 (by rw [put_defers]; exact hd) (s'.putd hNi hr) (by rw [hcs]; simp) (fun x hx => ?_) (fun x hx h => ?_) (fun t ht => ?_) (fun t htT ht => ?_) hv'
        · rcases List.mem_append.1 hx with h | h
          · exact (g1 x).2 (.inr (hdone x h))
          · rw [List.mem_singleton.1 h]; exact (g1 c).2 (.inl rfl)
        · rcases (g1 x).1 h with rfl | h
          · have := hok.cinc
            rw [hcs] at this
            have hpos := List.getElem?_of_mem hx
            obtain ⟨j, hj⟩ := hpos
            have hjl := (List.getElem?_eq_some_iff.1 hj).1
            have := incB_ok this done.length (done.length + 1 + j) (by omega) (by simp; omega)
            rw [List.getD_eq_getElem?_getD, List.getD_eq_getElem?_getD, List.getElem?_append_right (Nat.le_refl _), List.getElem?_append_right (by omega)] at this
            rw [show done.length + 1 + j - done.length = j + 1 by omega, Nat.sub_self] at this
            simp only [List.getElem?_cons_zero, List.getElem?_cons_succ, hj, Option.getD_some] at this
            omega
          · exact hrest x (List.mem_cons_of_mem _ hx) h
        · rw [putd_get, putd_get]
          by_cases e : oi.dst = some t
          · rw [if_pos e, if_pos e]
          · rw [if_neg e, if_neg e, Fr.get_scrub, Fr.get_scrub, hA t fun f hf o ho hu => ht f hf o ho fun h => ((g1 f).1 h).elim (fun e => by subst e; exact (hok.clt f hic).2 hf) hu]
        · rw [putd_get, if_neg (ht c (by simp) oi hoi)]
          have := sameG_ok _ hsame t (List.mem_map.2 ⟨t, htT, rfl⟩)
          rw [this]
          exact hI t htT fun x hx o ho => ht x (List.mem_append_left _ hx) o ho
theorem awp_regionG {A : Fr} (fs cs T : List Nat) {id : Nat} {l : List Oper} {Q : Exit → Fr → Hp → Prop} (hm : P.follows .mixedOrders = true) (hB : chOk l.toArray fs cs T = true) (hN : dstsOk N l = true)
    (h : opsG P N fs cs T (Q .normal) l A H) : AWP P N (.region id l.toArray true) Q A H := by
  have hmem := dstsOk_mem hN
  have hok := chOk_ok hB
  obtain ⟨hinj, _, _⟩ := anyOk_ok hok.any
  have flt : ∀ f ∈ fs, f < l.length := fun f hf => by simpa using hok.flt f hf
  have pko : ∀ j o, (pickL fs l)[j]? = some o → ∃ f, fs[j]? = some f ∧ f ∈ fs ∧ l[f]? = some o := fun j o h => by
    rw [pickL_get fs flt j] at h
    cases hf : fs[j]? with
    | none => rw [hf] at h; cases h
    | some f => rw [hf] at h; exact ⟨f, hf, List.mem_of_getElem? hf, h⟩
  unfold opsG at h
  obtain ⟨rs, hlex⟩ := lex_of_opsQ _ A h
  obtain ⟨k1, k2, A1, k3, k4, k5⟩ := LexL_get (pickL fs l) A rs A.get (fun _ => rfl) hlex
  have uni : ∀ (j k : Nat) (o o' : Oper) (t : Nat), (pickL fs l)[j]? = some o → o.dst = some t → (pickL fs l)[k]? = some o' → o'.dst = some t → k = j := fun j k o o' t hj hdt hk hd' => by
    obtain ⟨f, h1, h2, h3⟩ := pko j o hj
    obtain ⟨g, h4, h5, h6⟩ := pko k o' hk
    have := hinj g f t o' o (by simpa using h6) (by simpa using h3) hd' hdt
    subst this
    have hj := (List.getElem?_eq_some_iff.1 h1).1
    have hk := (List.getElem?_eq_some_iff.1 h4).1
    rcases Nat.lt_trichotomy k j with h | h | h
    · have := incB_ok hok.finc k j h hj
      rw [List.getD_eq_getElem?_getD, List.getD_eq_getElem?_getD, h1, h4] at this
      simp only [Option.getD_some] at this; omega
    · exact h
    · have := incB_ok hok.finc j k h hk
      rw [List.getD_eq_getElem?_getD, List.getD_eq_getElem?_getD, h1, h4] at this
      simp only [Option.getD_some] at this; omega
  refine awp_ex fun w0 S hS w a L s ds hd => ?_
  have s1 : Sim N.n w0 S w.drew a.tmps L A H := s.drew
  refine wp_region_any hm ?_
  refine link_sound (ops := l.toArray) (fs := fs) (cs := cs) (T := T) (A0 := A) (A1 := A1) (rs := rs) (QF := Q .normal) hS hok (fun j t o ho hdt => hmem o (List.mem_of_getElem? (by simpa using ho)) t hdt) k1 k3 (fun H' j o ho => ?_) ?_ l.toArray.size _ [] a _ A A1 L H [] cs (by simp) List.nodup_nil (fun k => ?_) (by simp) (fun k o e hk => ?_) hd s1 rfl (fun c hc => by cases hc) (fun c _ hk => ?_) (fun t ht => ?_) (fun t _ _ => rfl) k5
  · rw [List.toList_toArray] at ho
    obtain ⟨rs2, hlex2⟩ := lex_of_opsQ _ A (k4 H')
    obtain ⟨j1, j2, A2, j3, j4⟩ := LexL_get (pickL fs l) A rs2 A.get (fun _ => rfl) hlex2
    have er : rs2 = rs := by
      refine List.ext_getElem (by rw [j1, k1]) fun k h1 h2 => ?_
      have hk : k < (pickL fs l).length := by omega
      have hko : (pickL fs l)[k]? = some (pickL fs l)[k] := List.getElem?_eq_getElem hk
      obtain ⟨f, q1, q2, q3⟩ := pko k _ hko
      obtain ⟨d, hdd, hdT⟩ := hok.fd f q2 _ (by simpa using q3)
      have e := sameG_ok _ j4 d (List.mem_map.2 ⟨d, hdT, rfl⟩)
      rw [j3, k3, valL_hit _ rs2 _ _ d k _ j1 hk hko hdd (fun k' o' ho' hd' => uni k k' _ o' d hko hdd ho' hd'), valL_hit _ rs _ _ d k _ k1 hk hko hdd (fun k' o' ho' hd' => uni k k' _ o' d hko hdd ho' hd')] at e
      simpa [List.getD_eq_getElem?_getD, h1, h2] using e
    subst er
    obtain ⟨Aj, h1, h2⟩ := j2 j o ho
    refine ⟨Aj, by rw [List.toList_toArray]; exact h1, ?_⟩
    unfold StepOK at h2
    obtain ⟨f, q1, q2, q3⟩ := pko j o ho
    rw [hok.guard f o (by simpa using q3)] at h2
    exact h2
  · intro A' H3 a' w' L' s' hd' hq
    exact ⟨L', A', H3, s', hd', hq⟩
  · simp [Array.getD]
  · simp [Array.getD] at hk
  · simp [Array.getD] at hk
  · have hno : ∀ f ∈ fs, ∀ o : Oper, l[f]? = some o → o.dst ≠ some t := fun f hf o ho => ht f hf o (by simpa using ho) (by simp [Array.getD])
    rw [k3, valL_miss _ _ _ _ _ fun k o _ ho => by obtain ⟨f, q1, q2, q3⟩ := pko k o ho; exact hno f q2 o q3]
theorem awp_regionGK {A : Fr} (ks : Nat) (fs cs T : List Nat) {id : Nat} {l : List Oper} {Q : Exit → Fr → Hp → Prop} (hm : P.follows .mixedOrders = true) (hB : chOk l.toArray fs cs T = true) (hN : dstsOk N l = true)
    (h : opsG P N fs cs T (keepQ ks Q .normal) l A H) : AWP P N (.region id l.toArray true) Q A H :=
  awp_weak (awp_regionG fs cs T hm hB hN h) keepQ_weak
theorem AllH.mk {p : Hp → Prop} (h : ∀ H, p H) : AllH p := h
/-- A call that hands back a new row of numbers, in a chain. -/
theorem callPI {f : FuncId} {args args' : List AV} {d : Nat} {xs : List Int} {pn : Nat → Bool} {K : AV → (Nat → Bool) → Hp → Prop} (hfit : FitsL H (fun _ => True) args args') (hac : AC P f args' Hp.emp pn (retI d xs)) (hd : N.pn d = false)
    (hK : K (.own d 0 1 xs.length) (· == d) ((H.scrub (· == d)).upd d (.cells xs.length (cM iv 0 xs)))) : CallPP P N f args H K := ⟨(· == d), fun _ => callI hfit hac hd ⟨rfl, hK⟩⟩
theorem atP {f : FuncId} {args : List AV} {K : AV → (Nat → Bool) → Hp → Prop} (h : CallPP P N f args H K) : CallPP P N f args H K := h
/-- A source, and one row of our own under a new name. -/
theorem Sub.mvD {α : Type} {g : α → AV} {z : α} {k : IntKind} (e e' : Nat) {A A' : Fr} {d : Dc} {xs : List α} {n : Nat} {f : Nat → AV} (hA : ∀ i c, A'.get i = some c → ∃ a, A.get i = some a ∧ Lay (fun h => if h = e then some e' else some h) a c) (hd : H 1000000 = some (.cells 3 (dF k d))) (hH : H e' = some (.cells n f)) (hf : ∀ i, i < n → f i = cM g z xs i)
    (hpn : N.pn = pM) (he : e < 1000000) (he' : e' ≠ 1000000) (hp : ∀ x, (g x).plain) : Sub N A H A' ((DH k d).upd e (.cells n (cM g z xs))) := by
  refine Sub.layMp (fun h => if h = e then some e' else some h) (fun h hh => ?_) hA ?_ (fun x y j hx hy h1 h2 => ?_)
  · rw [hpn] at hh
    have : h ≠ e := fun e2 => by rw [e2] at hh; rw [pM_low (by omega)] at hh; cases hh
    exact if_neg this
  · refine layF_upd (g := e') (f := f) (by simp) hH (fun i hi => ?_) (layF_upd (g := 1000000) (n := 3) (by rw [if_neg (by omega)]) hd (fun i hi => ?_) layF_emp)
    · rw [hf i hi]; exact .plain (hp _)
    · match i, hi with
      | 0, _ => exact .plain trivial
      | 1, _ => exact .plain trivial
      | 2, _ => exact .plain trivial
  · have live : ∀ x, ((DH k d).upd e (.cells n (cM g z xs))) x ≠ none → x = e ∨ x = 1000000 := fun x hx => by
      unfold DH Hp.upd at hx
      by_cases e1 : x = e
      · exact .inl e1
      · rw [if_neg e1] at hx
        by_cases e2 : x = 1000000
        · exact .inr e2
        · rw [if_neg e2] at hx; exact absurd rfl hx
    rcases live x hx with rfl | rfl <;> rcases live y hy with rfl | rfl
    · rfl
    · rw [if_pos rfl] at h1; rw [if_neg (by omega)] at h2
      simp only [Option.some.injEq] at h1 h2; omega
    · rw [if_neg (by omega)] at h1; rw [if_pos rfl] at h2
      simp only [Option.some.injEq] at h1 h2; omega
    · rfl
end
attribute [congr] CallPP_congr
attribute [go_sem] opsG linkVC gxVC pickL
end Go.Av
end

import Derived.Test.YtdllbnchcjgcdaaH2
import Derived.ProofKit
import Derived.OpenShut
import Derived.ShutString
import Derived.ChangeOld
import Derived.Below
import Derived.Carry
import Derived.Deep.Slices
import Derived.Lib.SmallJoins
/- From a law's contract over abstract values to its row: how Go's data read. -/
section
namespace Go.Av
open Go.ChangeShapes Go.WideShapes Go.ChangeAt Go.RowKit

section
variable {P : Program} {H : Type} {enc : TypeId × Value → H} {w : World} {base : Nat} {spare : Nat → Bool} {held : Bool} {L : Loc}

/-- Every block may be read. -/
abbrev All : Nat → Prop := fun _ => True

theorem law_calls {f : FuncId} {args : List AV} {vs : Array Value} (hac : AC P f args Hp.emp (fun _ => false) (retV (.v (.bool true)))) (hr : RdArgs w All (fun _ => none) args vs) :
    Calls P f vs w fun e w' => e = .returned (.bool true) ∧ Below w.heap.size w w' := by
  let S : Rg := ⟨fun b => w.heap.size ≤ b, fun _ => True, fun _ _ => trivial, fun _ => none⟩
  have s0 : Sim 0 w S w #[] (fun _ => none) [] Hp.emp := ⟨Keep.refl w _, rfl, fun i a h => by simp [Fr.get] at h, fun h B hB => by simp [Hp.emp] at hB, fun h q hn => by simp [Hp.emp] at hn, fun h g q r hn => by simp [Hp.emp] at hn, fun h l hl => by simp [S] at hl⟩
  refine (hac.2 S w (fun _ => none) vs (fun b h => h) (fun h _ => rfl) s0 ⟨hr.1, fun i a hi => ?_⟩).mono ?_
  · obtain ⟨u, k1, k2⟩ := hr.2 i a hi
    exact ⟨u, k1, Rd.mono (fun b _ _ => ⟨trivial, fun h q hn => by simp [Hp.emp] at hn⟩) k2⟩
  · rintro e w' ⟨u, L', r, H', rfl, s2, hr, rfl, rfl⟩
    have hu : u = .bool true := hr
    subst hu
    exact ⟨rfl, ⟨s2.keep.os, s2.keep.tape, s2.keep.output, s2.keep.size, fun k hk => s2.keep.blk k hk (by show ¬ w.heap.size ≤ k; omega)⟩⟩

theorem cells_spot {a : Addr} {n : Nat} {V : Nat → Value} (h : ∀ i, i < n → w.cell? (a.add i) = some (V i)) : ∀ i, i < n → a.spot = none ∧ w.cell? ⟨a.block, a.off + i, none⟩ = some (V i) := by
  intro i hi
  have h0 := h 0 (by omega)
  have hs : a.spot = none := by
    have e : a.add 0 = a := by simp [Addr.add]
    rw [e] at h0
    unfold World.cell? at h0
    cases hsp : a.spot with
    | none => rfl
    | some k =>
      simp only [hsp] at h0
      split at h0 <;> simp at h0
  refine ⟨hs, ?_⟩
  have := h i hi
  rwa [Addr_eq hs, Addr_add] at this

/-- What an int64 may be. -/
def In64 (n : Int) : Prop := -9223372036854775808 ≤ n ∧ n ≤ 9223372036854775807
theorem in64_wf {n : Int} (h : (Lit.int .i64 n).wf = true) : In64 n := by
  simp [Lit.wf, IntKind.min, IntKind.max] at h
  unfold In64
  revert h
  simp only [show IntKind.i64.signed = true from rfl, show IntKind.i64.bits = 64 from rfl]
  intro h
  simp at h
  omega

theorem rd_int {t : TypeId} {fuel : Nat} {cs : List Value} {x : DataW H × List MemPlace} (ht : P.underlying t = some (.int .i64)) (h : DataW.trod enc P w base spare held fuel t cs = some x) :
    ∃ n : Int, cs = [.int .i64 n] ∧ In64 n := by
  obtain ⟨a, e, _, hw⟩ := DataW.trod_int ht h
  exact ⟨a, e, in64_wf hw⟩

theorem rd_string {t : TypeId} {fuel : Nat} {cs : List Value} {x : DataW H × List MemPlace} (ht : P.underlying t = some .string) (h : DataW.trod enc P w base spare held fuel t cs = some x) :
    ∃ s : ByteArray, cs = [.string s] ∧ s.size ≤ 9223372036854775807 := by
  obtain ⟨s, e, _, hs⟩ := DataW.trod_string ht h
  exact ⟨s, e, by have : maxLen = 9223372036854775807 := by decide
                  omega⟩

theorem rd_list {α : Type} (g : α → AV) (d : α) {xs : List α} {a : Addr} {len cap : Nat} {V : Nat → Value} (hl : xs.length = len) (hc : len ≤ cap) (h : ∀ i, i < len → w.cell? (a.add i) = some (V i)) (hr : ∀ i, i < len → ∀ L', Rd w All L' (g (xs.getD i d)) (V i)) :
    Rd w All L (.list false 1 xs.length (cM g d xs)) (.slice (some a) len cap) := by
  subst hl
  refine ⟨some a, cap, rfl, hc, by simp, by simp, fun p hp i hi => ?_⟩
  simp only [Option.some.injEq] at hp
  subst hp
  rw [Nat.mul_one] at hi
  obtain ⟨k1, k2⟩ := cells_spot h i hi
  exact ⟨k1, trivial, V i, k2, hr i hi⟩

theorem rd_ints {t e : TypeId} {fuel : Nat} {cs : List Value} {x : DataW H × List MemPlace} (ht : P.underlying t = some (.slice e)) (he : P.underlying e = some (.int .i64)) (hc : P.cellsOf e = 1) (h : DataW.trod enc P w base spare held fuel t cs = some x) :
    ∃ (v : Value) (xs : List Int), cs = [v] ∧ (∀ L, Rd w All L (ints xs) v) ∧ xs.length ≤ 9223372036854775807 ∧ ∀ n ∈ xs, In64 n := by
  have hm : maxLen = 9223372036854775807 := by decide
  rcases open_ints ht he hc h with ⟨rfl, _⟩ | ⟨a, len, cap, zs, rfl, _, hl, hmx, hz, _, hcell, hwf⟩
  · exact ⟨_, [], rfl, fun L => ⟨none, 0, rfl, Nat.le_refl _, by simp, fun _ => ⟨rfl, rfl⟩, by simp⟩, by simp, by simp⟩
  · have hlen : len ≤ zs.length := by rw [hz]; split <;> omega
    refine ⟨_, zs.take len, rfl, fun L => rd_list iv 0 (V := fun i => .int .i64 (zs.getD i 0)) (by simp; omega) hl (fun i hi => hcell i (by omega)) (fun i hi L' => ?_), by simp; omega, fun n hn => in64_wf (hwf n (List.mem_of_mem_take hn))⟩
    have e : (zs.take len).getD i 0 = zs.getD i 0 := by simp [hi]
    rw [e]; rfl

theorem rd_intss {t e q : TypeId} {fuel : Nat} {cs : List Value} {x : DataW H × List MemPlace} (ht : P.underlying t = some (.slice e)) (he : P.underlying e = some (.slice q)) (hq : P.underlying q = some (.int .i64)) (ce : P.cellsOf e = 1) (cq : P.cellsOf q = 1)
    (h : DataW.trod enc P w base spare held fuel t cs = some x) :
    ∃ (v : Value) (xss : List (List Int)), cs = [v] ∧ (∀ L, Rd w All L (intss xss) v) ∧ xss.length ≤ 9223372036854775807 ∧ (∀ j, (xss.getD j []).length ≤ 9223372036854775807) ∧ ∀ xs ∈ xss, ∀ n ∈ xs, In64 n := by
  have hm : maxLen = 9223372036854775807 := by decide
  rcases Go.Deep.open_slice1 ht ce h with ⟨rfl, _⟩ | ⟨a, len, cap, m, n, V, D, Pl, rfl, _, hl, hmx, hmm, _, hel⟩
  · exact ⟨_, [], rfl, fun L => ⟨none, 0, rfl, Nat.le_refl _, by simp, fun _ => ⟨rfl, rfl⟩, by simp⟩, by simp, by simp, by simp⟩
  · have hlm : len ≤ m := by rw [hmm]; split <;> omega
    have hex : ∀ i, ∃ xs : List Int, i < len → (∀ L, Rd w All L (ints xs) (V i)) ∧ xs.length ≤ 9223372036854775807 ∧ ∀ n ∈ xs, In64 n := by
      intro i
      by_cases hi : i < len
      · obtain ⟨v, xs, e, h1, h2, h3⟩ := rd_ints (enc := enc) he hq cq (hel i (by omega)).2
        simp only [List.cons.injEq, and_true] at e
        subst e
        exact ⟨xs, fun _ => ⟨h1, h2, h3⟩⟩
      · exact ⟨[], fun h => absurd h hi⟩
    obtain ⟨X, hX⟩ := Classical.axiomOfChoice hex
    have gd : ∀ i, i < len → ((List.range len).map X).getD i [] = X i := by intro i hi; simp [hi]
    refine ⟨_, (List.range len).map X, rfl, fun L => rd_list ints [] (V := V) (by simp) hl (fun i hi => (hel i (by omega)).1) (fun i hi L' => ?_), by simp; omega, fun j => ?_, fun xs hxs n hn => ?_⟩
    · rw [gd i hi]; exact (hX i hi).1 L'
    · by_cases hj : j < len
      · rw [gd j hj]; exact (hX j hj).2.1
      · rw [List.getD_eq_getElem?_getD, List.getElem?_eq_none (by simp; omega)]; simp
    · simp only [List.mem_map, List.mem_range] at hxs
      obtain ⟨i, hi, rfl⟩ := hxs
      exact (hX i hi).2.2 n hn

theorem rd_pz {r : Reach} {b0 : Nat} {t t0 t1 t2 e q : TypeId} {f0 f1 f2 : Field} {v : Value} {d : DataW H} {p : List MemPlace} (hs : P.underlying t = some (.struct #[f0, f1, f2])) (hone : Go.Deep.oneCellFields P #[f0, f1, f2] = true) (hC : P.cellsOf t = 3)
    (e0 : f0.type = t0) (e1 : f1.type = t1) (e2 : f2.type = t2) (h0 : P.underlying t0 = some (.int .i64)) (h1 : P.underlying t1 = some .string) (h2 : P.underlying t2 = some (.slice e)) (he : P.underlying e = some (.slice q)) (hq : P.underlying q = some (.int .i64)) (ce : P.cellsOf e = 1) (cq : P.cellsOf q = 1)
    (hv : Value.okWide P w r b0 t v) (h : DataW.Trod enc P w base spare held t v d p) :
    ∃ z : Pz, Rd w All L (pz z) v ∧ In64 z.n ∧ z.s.size ≤ 9223372036854775807 ∧ z.m.length ≤ 9223372036854775807 ∧ (∀ j, (z.m.getD j []).length ≤ 9223372036854775807) ∧ ∀ xs ∈ z.m, ∀ n ∈ xs, In64 n := by
  subst e0 e1 e2
  obtain ⟨v0, v1, v2, y0, y1, y2, n, rfl, _, _, k0, k1, k2⟩ := Go.Joins.open_agg3 hs hone hC hv h
  obtain ⟨a, ea, ha⟩ := rd_int h0 k0
  obtain ⟨s, es, hss⟩ := rd_string h1 k1
  obtain ⟨u, xss, eu, hu1, hu2, hu3, hu4⟩ := rd_intss h2 he hq ce cq k2
  simp only [List.cons.injEq, and_true] at ea es eu
  subst ea es eu
  refine ⟨⟨a, s, xss⟩, ⟨_, rfl, rfl, fun i hi => ?_⟩, ha, hss, hu2, hu3, hu4⟩
  match i, hi with
  | 0, _ => exact ⟨_, rfl, rfl⟩
  | 1, _ => exact ⟨_, rfl, rfl⟩
  | 2, _ => exact ⟨_, rfl, hu1 L⟩

theorem trod_cs {t : TypeId} {v : Value} {d : DataW H} {p : List MemPlace} (h : DataW.Trod enc P w base spare held t v d p) (hv : v.cells = #[v]) : ∃ fuel, DataW.trod enc P w base spare held fuel t [v] = some (d, p) := by
  obtain ⟨fuel, hf⟩ := h
  exact ⟨fuel, by rw [hv] at hf; exact hf⟩

theorem rdArgs_list {ok : Nat → Prop} : ∀ (as : List AV) (vs : List Value), as.length = vs.length → (∀ (i : Nat) (a : AV) (v : Value), as[i]? = some a → vs[i]? = some v → Rd w ok L a v) → RdArgs w ok L as vs.toArray := by
  intro as vs hl h
  refine ⟨by simp [hl], fun i a hi => ?_⟩
  have hlt := (List.getElem?_eq_some_iff.1 hi).1
  exact ⟨vs[i]'(by omega), by simp, h i a _ hi (by simp)⟩
theorem rdArgs2 {ok : Nat → Prop} {a b : AV} {u v : Value} (h : Rd w ok L a u) (k : Rd w ok L b v) : RdArgs w ok L [a, b] #[u, v] := rdArgs_list [a, b] [u, v] rfl fun i a' v' h1 h2 => by
  match i with
  | 0 => simp at h1 h2; subst h1 h2; exact h
  | 1 => simp at h1 h2; subst h1 h2; exact k
  | i + 2 => simp at h1
theorem rdArgs3 {ok : Nat → Prop} {a b c : AV} {u v x : Value} (h : Rd w ok L a u) (k : Rd w ok L b v) (l : Rd w ok L c x) : RdArgs w ok L [a, b, c] #[u, v, x] := rdArgs_list [a, b, c] [u, v, x] rfl fun i a' v' h1 h2 => by
  match i with
  | 0 => simp at h1 h2; subst h1 h2; exact h
  | 1 => simp at h1 h2; subst h1 h2; exact k
  | 2 => simp at h1 h2; subst h1 h2; exact l
  | i + 3 => simp at h1
end
end Go.Av
end
/- Permutations as rows of numbers: composition, inverse, what generators generate. -/
section
namespace Go.Pm

/-- p is a permutation of n points. -/
def Pm (n : Nat) (p : List Int) : Prop := p.length = n ∧ (∀ j, j < n → 0 ≤ p.getD j 0 ∧ p.getD j 0 < n) ∧ ∀ i j, i < n → j < n → p.getD i 0 = p.getD j 0 → i = j

def img (p : List Int) (i : Nat) : Nat := (p.getD i 0).toNat
def comp (p q : List Int) : List Int := p.map fun x => q.getD x.toNat 0
def idn (n : Nat) : List Int := (List.range n).map fun i : Nat => (i : Int)
def invp (p : List Int) : List Int := (List.range p.length).map fun i : Nat => ((p.findIdx fun x => decide (x = (i : Int)) : Nat) : Int)

theorem ext {p q : List Int} (hl : p.length = q.length) (h : ∀ j, j < p.length → p.getD j 0 = q.getD j 0) : p = q := by
  refine List.ext_getElem hl fun i h1 h2 => ?_
  have := h i h1
  simpa [List.getD_eq_getElem?_getD, h1, h2] using this

theorem comp_length (p q : List Int) : (comp p q).length = p.length := by simp [comp]
theorem comp_get (p q : List Int) {i : Nat} (h : i < p.length) : (comp p q).getD i 0 = q.getD (img p i) 0 := by
  simp [comp, img, List.getD_eq_getElem?_getD, h]
theorem idn_length (n : Nat) : (idn n).length = n := by simp [idn]
theorem idn_get {n i : Nat} (h : i < n) : (idn n).getD i 0 = i := by simp [idn, List.getD_eq_getElem?_getD, h]
theorem img_idn {n i : Nat} (h : i < n) : img (idn n) i = i := by unfold img; rw [idn_get h]; rfl
theorem img_comp (p q : List Int) {i : Nat} (h : i < p.length) : img (comp p q) i = img q (img p i) := by
  unfold img; rw [comp_get p q h]; rfl

namespace Pm
variable {n : Nat} {p q r : List Int}
theorem img_lt (h : Pm n p) {i : Nat} (hi : i < n) : img p i < n := by
  have := h.2.1 i hi
  unfold Pm.img; omega
theorem get_eq (h : Pm n p) {i : Nat} (hi : i < n) : p.getD i 0 = (img p i : Int) := by
  have := h.2.1 i hi
  unfold Pm.img; omega
theorem inj (h : Pm n p) {i j : Nat} (hi : i < n) (hj : j < n) (e : img p i = img p j) : i = j :=
  h.2.2 i j hi hj (by rw [h.get_eq hi, h.get_eq hj, e])
theorem ext_img (h : Pm n p) (k : Pm n q) (e : ∀ i, i < n → img p i = img q i) : p = q :=
  Go.Pm.ext (h.1.trans k.1.symm) fun j hj => by
    rw [h.1] at hj
    rw [h.get_eq hj, k.get_eq hj, e j hj]
theorem idn (n : Nat) : Pm n (idn n) :=
  ⟨idn_length n, fun j hj => by rw [idn_get hj]; omega, fun i j hi hj e => by rw [idn_get hi, idn_get hj] at e; omega⟩
theorem mk' (hl : p.length = n) (h1 : ∀ j, j < n → ∃ k, k < n ∧ p.getD j 0 = (k : Int)) (h2 : ∀ i j, i < n → j < n → img p i = img p j → i = j) : Pm n p :=
  ⟨hl, fun j hj => by obtain ⟨k, h3, h4⟩ := h1 j hj; omega, fun i j hi hj e => h2 i j hi hj (by unfold Pm.img; rw [e])⟩
theorem comp (h : Pm n p) (k : Pm n q) : Pm n (comp p q) := by
  refine mk' (by rw [comp_length]; exact h.1) (fun j hj => ⟨img q (img p j), k.img_lt (h.img_lt hj), ?_⟩) fun i j hi hj e => ?_
  · rw [comp_get _ _ (by rw [h.1]; exact hj), k.get_eq (h.img_lt hj)]
  · rw [img_comp _ _ (by rw [h.1]; exact hi), img_comp _ _ (by rw [h.1]; exact hj)] at e
    exact h.inj hi hj (k.inj (h.img_lt hi) (h.img_lt hj) e)
theorem cimg (h : Pm n p) {i : Nat} (hi : i < n) : img (Go.Pm.comp p q) i = img q (img p i) := img_comp _ _ (by rw [h.1]; exact hi)

/-- Every point is met. -/
theorem surj (h : Pm n p) {i : Nat} (hi : i < n) : ∃ j, j < n ∧ img p j = i := by
  have hn : ((List.range n).map (img p)).Nodup := by
    rw [List.nodup_iff_pairwise_ne, List.pairwise_map]
    refine List.Pairwise.imp_of_mem (R := fun a b => a ≠ b) ?_ (List.nodup_iff_pairwise_ne.1 List.nodup_range)
    intro a b ha hb hne e
    exact hne (h.inj (by simpa using ha) (by simpa using hb) e)
  have := (Go.Plain.nodup_iff_all (l := (List.range n).map (img p)) (n := n) (by simp) (fun x hx => by
    obtain ⟨j, hj, rfl⟩ := List.mem_map.1 hx
    exact h.img_lt (by simpa using hj))).1 hn i hi
  obtain ⟨j, hj, e⟩ := List.mem_map.1 this
  exact ⟨j, by simpa using hj, e⟩

theorem find (h : Pm n p) {i : Nat} (hi : i < n) : p.findIdx (fun x => decide (x = (i : Int))) < n ∧ img p (p.findIdx fun x => decide (x = (i : Int))) = i := by
  obtain ⟨j, hj, e⟩ := h.surj hi
  have hlt : p.findIdx (fun x => decide (x = (i : Int))) < p.length := by
    rw [List.findIdx_lt_length]
    refine ⟨p.getD j 0, ?_, ?_⟩
    · have hj' : j < p.length := by rw [h.1]; exact hj
      rw [List.getD_eq_getElem?_getD, List.getElem?_eq_getElem hj']
      exact List.getElem_mem hj'
    · rw [h.get_eq hj, e]; simp
  have := List.findIdx_getElem (w := hlt)
  refine ⟨by rw [← h.1]; exact hlt, ?_⟩
  simp only [decide_eq_true_eq] at this
  unfold Pm.img
  rw [List.getD_eq_getElem?_getD, List.getElem?_eq_getElem hlt, Option.getD_some, this]
  simp
theorem inv_get (h : Pm n p) {i : Nat} (hi : i < n) : (invp p).getD i 0 = ((p.findIdx fun x => decide (x = (i : Int)) : Nat) : Int) := by
  have : i < p.length := by rw [h.1]; exact hi
  simp [invp, List.getD_eq_getElem?_getD, this]
theorem inv_img (h : Pm n p) {i : Nat} (hi : i < n) : img p (img (invp p) i) = i := by
  have : img (invp p) i = p.findIdx fun x => decide (x = (i : Int)) := by unfold Pm.img; rw [h.inv_get hi]; rfl
  rw [this]; exact (h.find hi).2
theorem inv (h : Pm n p) : Pm n (invp p) := by
  refine mk' (by simp [invp, h.1]) (fun j hj => ⟨_, (h.find hj).1, h.inv_get hj⟩) fun i j hi hj e => ?_
  rw [← h.inv_img hi, ← h.inv_img hj, e]
theorem img_inv (h : Pm n p) {i : Nat} (hi : i < n) : img (invp p) (img p i) = i :=
  h.inj (h.inv.img_lt (h.img_lt hi)) hi (h.inv_img (h.img_lt hi))

theorem comp_inv (h : Pm n p) : Go.Pm.comp p (invp p) = Go.Pm.idn n :=
  (h.comp h.inv).ext_img (.idn n) fun i hi => by rw [h.cimg hi, h.img_inv hi, img_idn hi]
theorem inv_comp (h : Pm n p) : Go.Pm.comp (invp p) p = Go.Pm.idn n :=
  (h.inv.comp h).ext_img (.idn n) fun i hi => by rw [h.inv.cimg hi, h.inv_img hi, img_idn hi]
theorem comp_idn (h : Pm n p) : Go.Pm.comp p (Go.Pm.idn n) = p :=
  (h.comp (.idn n)).ext_img h fun i hi => by rw [h.cimg hi, img_idn (h.img_lt hi)]
theorem idn_comp (h : Pm n p) : Go.Pm.comp (Go.Pm.idn n) p = p :=
  ((Pm.idn n).comp h).ext_img h fun i hi => by rw [(Pm.idn n).cimg hi, img_idn hi]
theorem assoc (h : Pm n p) (k : Pm n q) (l : Pm n r) : Go.Pm.comp (Go.Pm.comp p q) r = Go.Pm.comp p (Go.Pm.comp q r) :=
  ((h.comp k).comp l).ext_img (h.comp (k.comp l)) fun i hi => by
    rw [(h.comp k).cimg hi, h.cimg hi, h.cimg hi, k.cimg (h.img_lt hi)]
theorem cancel (h : Pm n p) (k : Pm n q) : Go.Pm.comp (Go.Pm.comp p q) (invp q) = p := by
  rw [h.assoc k k.inv, k.comp_inv, h.comp_idn]
theorem cancel' (h : Pm n p) (k : Pm n q) : Go.Pm.comp (Go.Pm.comp p (invp q)) q = p := by
  rw [h.assoc k.inv k, k.inv_comp, h.comp_idn]
theorem right_inj (h : Pm n p) (k : Pm n q) (l : Pm n r) (e : Go.Pm.comp p r = Go.Pm.comp q r) : p = q := by
  rw [← h.cancel l, e, k.cancel l]
theorem inv_of_comp (h : Pm n p) (k : Pm n q) (e : Go.Pm.comp p q = Go.Pm.idn n) : p = invp q := by
  refine h.right_inj k.inv k ?_
  rw [e, k.inv_comp]
end Pm

/-- What is generated (products of generators, applied one after the other). -/
inductive Gen (n : Nat) (S : List (List Int)) : List Int → Prop
  | one : Gen n S (idn n)
  | mul {p g : List Int} : Gen n S p → g ∈ S → Gen n S (comp p g)

section
variable {n : Nat} {S S' : List (List Int)} {p q : List Int}
theorem Gen.pm (hS : ∀ g ∈ S, Pm n g) (h : Gen n S p) : Pm n p := by
  induction h with
  | one => exact .idn n
  | mul _ hg ih => exact ih.comp (hS _ hg)
theorem Gen.prod (hS : ∀ g ∈ S, Pm n g) (h : Gen n S p) (k : Gen n S q) : Gen n S (comp p q) := by
  induction k with
  | one => rw [(h.pm hS).comp_idn]; exact h
  | mul k hg ih => rw [← (h.pm hS).assoc (k.pm hS) (hS _ hg)]; exact ih.mul hg
theorem Gen.of (hS : ∀ g ∈ S, Pm n g) (h : p ∈ S) : Gen n S p := by
  have := (Gen.one (n := n) (S := S)).mul h
  rwa [(hS _ h).idn_comp] at this
theorem Gen.sub (hS : ∀ g ∈ S', Pm n g) (hs : ∀ g ∈ S, Gen n S' g) (h : Gen n S p) : Gen n S' p := by
  induction h with
  | one => exact .one
  | mul _ hg ih => exact ih.prod hS (hs _ hg)
theorem Gen.mono (hs : ∀ g ∈ S, g ∈ S') (h : Gen n S p) : Gen n S' p := by
  induction h with
  | one => exact .one
  | mul _ hg ih => exact ih.mul (hs _ hg)
end
end Go.Pm
end
/- Chains of stabilizers: what they hold, and how many. -/
section
namespace Go.Pm

structure Ch where
  S : Nat → List (List Int)
  T : Nat → Nat → Option (List Int)

/-- The points before i stay. -/
def fixB (i : Nat) (p : List Int) : Prop := ∀ j, j < i → img p j = j

/-- Sifting: k levels from level i on. -/
def Ch.has (C : Ch) : Nat → Nat → List Int → Bool
  | 0, _, _ => true
  | k + 1, i, p => match C.T i (img p i) with
    | none => false
    | some t => C.has k (i + 1) (comp p (invp t))

structure Ch.WF (C : Ch) (n : Nat) : Prop where
  t1 : ∀ i y t, i < n → C.T i y = some t → Pm n t ∧ fixB i t ∧ img t i = y
  t0 : ∀ i, i < n → C.T i i = some (idn n)
  s1 : ∀ i g, g ∈ C.S i → Pm n g ∧ fixB i g

/-- The level j is done. -/
structure Ch.Ok (C : Ch) (n j : Nat) : Prop where
  cl : ∀ y t g, C.T j y = some t → g ∈ C.S j → ∃ u, C.T j (img g y) = some u ∧ C.has (n - (j + 1)) (j + 1) (comp (comp t g) (invp u)) = true
  tg : ∀ y t, C.T j y = some t → Gen n (C.S j) t
  sg : ∀ g, g ∈ C.S (j + 1) → Gen n (C.S j) g

def Ch.Full (C : Ch) (n i : Nat) : Prop := ∀ j, i ≤ j → j < n → C.Ok n j

theorem fixB.idn (n i : Nat) (h : i ≤ n) : fixB i (idn n) := fun j hj => img_idn (by omega)
theorem fixB.comp {n i : Nat} {p q : List Int} (hp : Pm n p) (hi : i ≤ n) (h : fixB i p) (k : fixB i q) : fixB i (comp p q) := fun j hj => by
  rw [hp.cimg (by omega), h j hj, k j hj]
theorem fixB.inv {n i : Nat} {p : List Int} (hp : Pm n p) (hi : i ≤ n) (h : fixB i p) : fixB i (invp p) := fun j hj => by
  have := hp.img_inv (i := j) (by omega)
  rwa [h j hj] at this
/-- A quotient that fixes one point more. -/
theorem fixB.quot {n i : Nat} {p t : List Int} (hp : Pm n p) (ht : Pm n t) (hi : i < n) (h : fixB i p) (k : fixB i t) (e : img t i = img p i) : fixB (i + 1) (Go.Pm.comp p (invp t)) := fun j hj => by
  by_cases hji : j = i
  · subst hji
    rw [hp.cimg hi, ← e, ht.img_inv hi]
  · exact fixB.comp hp (by omega) h (k.inv ht (by omega)) j (by omega)
theorem fixB.all {n : Nat} {p : List Int} (hp : Pm n p) (h : fixB n p) : p = Go.Pm.idn n :=
  hp.ext_img (.idn n) fun i hi => by rw [h i hi, img_idn hi]

section
variable {C C' : Ch} {n : Nat}

theorem Ch.WF.gpm (w : C.WF n) (i : Nat) : ∀ g ∈ C.S i, Pm n g := fun g hg => (w.s1 i g hg).1

theorem Gen.fix {n i : Nat} {S : List (List Int)} {p : List Int} (hi : i ≤ n) (hS : ∀ g ∈ S, Pm n g ∧ fixB i g) (h : Gen n S p) : fixB i p := by
  induction h with
  | one => exact .idn n i hi
  | mul h hg ih => exact fixB.comp (h.pm fun g hg => (hS g hg).1) hi ih (hS _ hg).2

/-- What a full chain holds is what its generators generate. -/
theorem Ch.has_iff (w : C.WF n) : ∀ (k i : Nat), i + k = n → C.Full n i → ∀ p, Pm n p → fixB i p → (C.has k i p = true ↔ Gen n (C.S i) p)
  | 0, i, hi, _, p, hp, hf => by
    have : i = n := by omega
    subst this
    rw [hf.all hp]
    exact ⟨fun _ => .one, fun _ => rfl⟩
  | k + 1, i, hi, hF, p, hp, hf => by
    have hin : i < n := by omega
    have ih := Ch.has_iff w k (i + 1) (by omega) (fun j h1 h2 => hF j (by omega) h2)
    have hok := hF i (Nat.le_refl _) hin
    have e : n - (i + 1) = k := by omega
    have hq : ∀ q t, Pm n q → fixB i q → C.T i (img q i) = some t → Pm n (comp q (invp t)) ∧ fixB (i + 1) (comp q (invp t)) := fun q t hq hfq ht => by
      obtain ⟨h1, h2, h3⟩ := w.t1 i _ t hin ht
      exact ⟨hq.comp h1.inv, fixB.quot hq h1 hin hfq h2 h3⟩
    constructor
    · intro h
      simp only [Ch.has] at h
      split at h
      · cases h
      · rename_i t ht
        obtain ⟨h1, h2⟩ := hq p t hp hf ht
        have h3 := (ih _ h1 h2).1 h
        have h4 : Gen n (C.S i) (comp p (invp t)) := h3.sub (w.gpm i) hok.sg
        have := h4.prod (w.gpm i) (hok.tg _ t ht)
        rwa [hp.cancel' (w.t1 i _ t hin ht).1] at this
    · intro h
      clear hp hf
      induction h with
      | one =>
        simp only [Ch.has]
        rw [img_idn hin, w.t0 i hin]
        simp only
        rw [(Pm.idn n).comp_inv]
        exact (ih _ (.idn n) (.idn n _ (by omega))).2 .one
      | @mul p g h hg ihp =>
        have hp : Pm n p := h.pm (w.gpm i)
        have hf : fixB i p := h.fix (by omega) (w.s1 i)
        obtain ⟨gp, gf⟩ := w.s1 i g hg
        simp only [Ch.has] at ihp ⊢
        rw [hp.cimg hin]
        split at ihp
        · cases ihp
        · rename_i t ht
          obtain ⟨u, hu, hs⟩ := hok.cl _ t g ht hg
          rw [e] at hs
          rw [hu]
          simp only
          obtain ⟨t1, t2, t3⟩ := w.t1 i _ t hin ht
          obtain ⟨u1, u2, u3⟩ := w.t1 i _ u hin hu
          obtain ⟨a1, a2⟩ := hq p t hp hf ht
          have b1 : Pm n (comp (comp t g) (invp u)) := (t1.comp gp).comp u1.inv
          have b2 : fixB (i + 1) (comp (comp t g) (invp u)) := fixB.quot (t1.comp gp) u1 hin (t2.comp t1 (by omega) gf) u2 (by rw [u3, t1.cimg hin, t3])
          have c1 := (ih _ a1 a2).1 ihp
          have c2 := (ih _ b1 b2).1 hs
          have c3 := c1.prod (w.gpm (i + 1)) c2
          have eq : comp (comp p (invp t)) (comp (comp t g) (invp u)) = comp (comp p g) (invp u) := by
            rw [← (hp.comp t1.inv).assoc (t1.comp gp) u1.inv, ← (hp.comp t1.inv).assoc t1 gp, hp.cancel' t1]
          rw [eq] at c3
          have d1 : Pm n (comp (comp p g) (invp u)) := (hp.comp gp).comp u1.inv
          have d2 : fixB (i + 1) (comp (comp p g) (invp u)) := fixB.quot (hp.comp gp) u1 hin (hf.comp hp (by omega) gf) u2 (by rw [u3, hp.cimg hin])
          exact (ih _ d1 d2).2 c3

/-- What a chain holds, a chain of more generators holds. -/
theorem Ch.has_mono (w : C.WF n) (w' : C'.WF n) {k i : Nat} (hi : i + k = n) (hF : C.Full n i) (hF' : C'.Full n i) (hs : ∀ g, g ∈ C.S i → g ∈ C'.S i) {p : List Int} (hp : Pm n p) (hf : fixB i p) (h : C.has k i p = true) : C'.has k i p = true :=
  (Ch.has_iff w' k i hi hF' p hp hf).2 (((Ch.has_iff w k i hi hF p hp hf).1 h).mono hs)

/-- Sifting looks at the levels from i on alone. -/
theorem Ch.has_congr : ∀ (k i : Nat) (p : List Int), (∀ j, i ≤ j → C'.T j = C.T j) → C'.has k i p = C.has k i p
  | 0, _, _, _ => rfl
  | k + 1, i, p, h => by
    simp only [Ch.has]
    rw [h i (Nat.le_refl _)]
    cases C.T i (img p i) with
    | none => rfl
    | some t => exact Ch.has_congr k (i + 1) _ fun j hj => h j (by omega)

def fact : Nat → Nat
  | 0 => 1
  | k + 1 => (k + 1) * fact k

end

/-- In a finite set that right multiplication leaves, inverses can be reached. -/
theorem Gen.inv_mem {n : Nat} {S L : List (List Int)} (hS : ∀ g ∈ S, Pm n g) (hL : ∀ p, p ∈ L ↔ Gen n S p) (hn : L.Nodup) {g : List Int} (hg : Gen n S g) : Gen n S (invp g) := by
  have gp := hg.pm hS
  have h1 : (L.map fun p => comp p g).Nodup := by
    rw [List.nodup_iff_pairwise_ne, List.pairwise_map]
    refine List.Pairwise.imp_of_mem (R := fun a b => a ≠ b) ?_ (List.nodup_iff_pairwise_ne.1 hn)
    intro a b ha hb hne e
    exact hne ((((hL a).1 ha).pm hS).right_inj (((hL b).1 hb).pm hS) gp e)
  have h2 : ∀ x ∈ (L.map fun p => comp p g), x ∈ L := by
    intro x hx
    obtain ⟨p, hp, rfl⟩ := List.mem_map.1 hx
    exact (hL _).2 (((hL p).1 hp).prod hS hg)
  have h3 : idn n ∈ (L.map fun p => comp p g) := by
    refine Classical.byContradiction fun hc => ?_
    have := Go.Plain.nodup_le L (idn n :: L.map fun p => comp p g) (List.nodup_cons.2 ⟨hc, h1⟩) (fun x hx => by
      simp only [List.mem_cons] at hx
      rcases hx with rfl | hx
      · exact (hL _).2 .one
      · exact h2 x hx)
    simp at this
    omega
  obtain ⟨p, hp, e⟩ := List.mem_map.1 h3
  have := ((hL p).1 hp)
  rwa [(this.pm hS).inv_of_comp gp e] at this
end Go.Pm
end
/- Breadth-first search over rows of positions: what both texts compute. -/
section
namespace Go.Pm
set_option linter.unusedVariables false

structure Bf where
  st : List (List Int)
  dp : List Int
  pa : List Int
  bl : List Int
  nx : List (List Int)

/-- One letter at the state number k. -/
def Bf.meet (k : Nat) (x : Bf × List Int) (l : Int × List Int) : Bf × List Int :=
  if comp (x.1.st.getD k []) l.2 ∈ x.1.st then (x.1, x.2 ++ [((x.1.st.idxOf (comp (x.1.st.getD k []) l.2) : Nat) : Int)])
  else ({ x.1 with st := x.1.st ++ [comp (x.1.st.getD k []) l.2], dp := x.1.dp ++ [x.1.dp.getD k 0 + 1], pa := x.1.pa ++ [(k : Int)], bl := x.1.bl ++ [l.1] }, x.2 ++ [(x.1.st.length : Int)])
def Bf.rows (Ls : List (Int × List Int)) (k : Nat) (B : Bf) (j : Nat) : Bf × List Int := (Ls.take j).foldl (Bf.meet k) (B, [])
def Bf.step (Ls : List (Int × List Int)) (k : Nat) (B : Bf) : Bf := { (B.rows Ls k Ls.length).1 with nx := B.nx ++ [(B.rows Ls k Ls.length).2] }
def Bf.run (Ls : List (Int × List Int)) (s0 : List Int) : Nat → Bf
  | 0 => ⟨[s0], [0], [0], [0], []⟩
  | k + 1 => (Bf.run Ls s0 k).step Ls k

section
variable {Ls : List (Int × List Int)} {s0 : List Int} {n : Nat}

theorem Bf.rows_succ (k : Nat) (B : Bf) {j : Nat} (h : j < Ls.length) : B.rows Ls k (j + 1) = Bf.meet k (B.rows Ls k j) (Ls.getD j (0, [])) := by
  unfold Bf.rows
  rw [List.take_succ_eq_append_getElem h, List.foldl_append]
  simp [List.getD_eq_getElem?_getD, h]

/-- y comes of x by more states. -/
structure Bf.More (x y : Bf) : Prop where
  st : x.st <+: y.st
  dp : x.dp <+: y.dp
  pa : x.pa <+: y.pa
  bl : x.bl <+: y.bl
  nx : x.nx <+: y.nx
theorem Bf.More.refl (x : Bf) : Bf.More x x := ⟨List.prefix_refl _, List.prefix_refl _, List.prefix_refl _, List.prefix_refl _, List.prefix_refl _⟩
theorem Bf.More.trans {x y z : Bf} (h : Bf.More x y) (k : Bf.More y z) : Bf.More x z := ⟨h.st.trans k.st, h.dp.trans k.dp, h.pa.trans k.pa, h.bl.trans k.bl, h.nx.trans k.nx⟩
theorem Bf.meet_more (k : Nat) (x : Bf × List Int) (l : Int × List Int) : Bf.More x.1 (Bf.meet k x l).1 := by
  unfold Bf.meet
  split
  · exact .refl _
  · exact ⟨List.prefix_append _ _, List.prefix_append _ _, List.prefix_append _ _, List.prefix_append _ _, List.prefix_refl _⟩
theorem Bf.rows_more (k : Nat) (B : Bf) : ∀ j, j ≤ Ls.length → Bf.More B (B.rows Ls k j).1
  | 0, _ => .refl _
  | j + 1, h => by
    rw [Bf.rows_succ k B (by omega)]
    exact (Bf.rows_more k B j (by omega)).trans (Bf.meet_more _ _ _)
theorem Bf.rows_len (k : Nat) (B : Bf) : ∀ j, j ≤ Ls.length → (B.rows Ls k j).2.length = j
  | 0, _ => rfl
  | j + 1, h => by
    rw [Bf.rows_succ k B (by omega)]
    have := Bf.rows_len k B j (by omega)
    unfold Bf.meet
    split <;> simp [this]
theorem Bf.step_more (k : Nat) (B : Bf) : Bf.More B (B.step Ls k) := by
  have := Bf.rows_more (Ls := Ls) k B Ls.length (Nat.le_refl _)
  exact ⟨this.st, this.dp, this.pa, this.bl, List.prefix_append _ _⟩
theorem Bf.run_more {j k : Nat} (h : j ≤ k) : Bf.More (Bf.run Ls s0 j) (Bf.run Ls s0 k) := by
  induction k with
  | zero => rw [show j = 0 by omega]; exact .refl _
  | succ k ih =>
    by_cases e : j = k + 1
    · rw [e]; exact .refl _
    · exact (ih (by omega)).trans (Bf.step_more _ _)
theorem pre_getD {α : Type} {l m : List α} (h : l <+: m) {i : Nat} (hi : i < l.length) (d : α) : m.getD i d = l.getD i d := by
  obtain ⟨r, rfl⟩ := h
  simp [List.getD_eq_getElem?_getD, List.getElem?_append_left hi]

/-- What holds of every state of the search. -/
structure Bf.J (n : Nat) (Ls : List (Int × List Int)) (s0 : List Int) (B : Bf) : Prop where
  nd : B.st.Nodup
  ne : B.st.getD 0 [] = s0 ∧ 0 < B.st.length
  gen : ∀ s ∈ B.st, ∃ g, Gen n (Ls.map (·.2)) g ∧ s = comp s0 g
  ld : B.dp.length = B.st.length
  lp : B.pa.length = B.st.length
  lb : B.bl.length = B.st.length

theorem comp_assoc {p q r : List Int} {n : Nat} (hp : ∀ j, j < p.length → img p j < n) (hq : Pm n q) : comp (comp p q) r = comp p (comp q r) := by
  refine ext (by simp [comp]) fun j hj => ?_
  rw [comp_length, comp_length] at hj
  rw [comp_get _ _ (by rw [comp_length]; exact hj), comp_get _ _ hj, img_comp _ _ hj, comp_get _ _ (by rw [hq.1]; exact hp j hj)]

theorem mem_getD_of_lt {α : Type} {l : List α} {i : Nat} (d : α) (h : i < l.length) : l.getD i d ∈ l := by
  rw [List.getD_eq_getElem?_getD, List.getElem?_eq_getElem h]
  exact List.getElem_mem h

theorem Bf.J.meet (h0 : ∀ j, j < s0.length → img s0 j < n) (hG : ∀ g ∈ Ls.map (·.2), Pm n g) {k : Nat} {x : Bf × List Int} {l : Int × List Int} (hl : l ∈ Ls) (hk : k < x.1.st.length) (h : Bf.J n Ls s0 x.1) : Bf.J n Ls s0 (Bf.meet k x l).1 := by
  unfold Bf.meet
  split
  · exact h
  · rename_i hn
    have hm : x.1.st.getD k [] ∈ x.1.st := mem_getD_of_lt _ hk
    refine ⟨?_, ⟨?_, by simp⟩, ?_, by simp [h.ld], by simp [h.lp], by simp [h.lb]⟩
    · refine List.nodup_append.2 ⟨h.nd, by simp, ?_⟩
      intro a ha b hb
      simp only [List.mem_singleton] at hb
      subst hb
      intro e; exact hn (e ▸ ha)
    · have := h.ne
      rw [pre_getD (List.prefix_append _ _) this.2]; exact this.1
    · intro s hs
      simp only [List.mem_append, List.mem_singleton] at hs
      rcases hs with hs | rfl
      · exact h.gen s hs
      · obtain ⟨g, hg, e⟩ := h.gen _ hm
        refine ⟨comp g l.2, hg.mul (List.mem_map.2 ⟨l, hl, rfl⟩), ?_⟩
        rw [e, comp_assoc h0 (hg.pm hG)]
theorem Bf.J.rows (h0 : ∀ j, j < s0.length → img s0 j < n) (hG : ∀ g ∈ Ls.map (·.2), Pm n g) {k : Nat} {B : Bf} (hk : k < B.st.length) (h : Bf.J n Ls s0 B) : ∀ j, j ≤ Ls.length → Bf.J n Ls s0 (B.rows Ls k j).1
  | 0, _ => h
  | j + 1, hj => by
    rw [Bf.rows_succ k B (by omega)]
    have h1 := Bf.J.rows h0 hG hk h j (by omega)
    refine Bf.J.meet h0 hG (mem_getD_of_lt _ (by omega)) ?_ h1
    exact Nat.lt_of_lt_of_le hk ((Bf.rows_more k B j (by omega)).st.length_le)
theorem Bf.J.start (hG : ∀ g ∈ Ls.map (·.2), Pm n g) (hs : ∀ j, j < s0.length → 0 ≤ s0.getD j 0 ∧ s0.getD j 0 < n) : Bf.J n Ls s0 (Bf.run Ls s0 0) := by
  refine ⟨by simp [Bf.run], ⟨rfl, by simp [Bf.run]⟩, ?_, rfl, rfl, rfl⟩
  intro s h
  simp only [Bf.run, List.mem_singleton] at h
  subst h
  refine ⟨idn n, .one, ext (by simp [comp]) fun j hj => ?_⟩
  rw [comp_get _ _ hj]
  have := hs j hj
  rw [idn_get (by unfold img; omega)]
  unfold img; omega
theorem Bf.J.run (hG : ∀ g ∈ Ls.map (·.2), Pm n g) (hs : ∀ j, j < s0.length → 0 ≤ s0.getD j 0 ∧ s0.getD j 0 < n) : ∀ k, (∀ j, j < k → j < (Bf.run Ls s0 j).st.length) → Bf.J n Ls s0 (Bf.run Ls s0 k)
  | 0, _ => Bf.J.start hG hs
  | k + 1, h => by
    have ih := Bf.J.run hG hs k (fun j hj => h j (by omega))
    have h1 := Bf.J.rows (fun j hj => by have := hs j hj; unfold img; omega) hG (h k (by omega)) ih Ls.length (Nat.le_refl _)
    exact ⟨h1.nd, h1.ne, h1.gen, h1.ld, h1.lp, h1.lb⟩

/-- At the state number k behind j letters, the first j of its neighbors are there, and the row tells where. -/
theorem Bf.rows_row {k : Nat} {B : Bf} (hk : k < B.st.length) : ∀ j, j ≤ Ls.length → ∀ i, i < j → comp (B.st.getD k []) (Ls.getD i (0, [])).2 ∈ (B.rows Ls k j).1.st ∧
    (B.rows Ls k j).2.getD i 0 = (((B.rows Ls k j).1.st.idxOf (comp (B.st.getD k []) (Ls.getD i (0, [])).2) : Nat) : Int)
  | 0, _, i, hi => by omega
  | j + 1, hj, i, hi => by
    have hm := Bf.rows_more (Ls := Ls) k B j (by omega)
    have hl := Bf.rows_len (Ls := Ls) k B j (by omega)
    have e0 : (B.rows Ls k j).1.st.getD k [] = B.st.getD k [] := pre_getD hm.st hk []
    rw [Bf.rows_succ k B (by omega)]
    by_cases hij : i = j
    · subst hij
      unfold Bf.meet
      rw [e0]
      split
      · rename_i h
        refine ⟨h, ?_⟩
        rw [Go.Av.getD_append, if_neg (by omega), hl, Nat.sub_self]; rfl
      · rename_i h
        refine ⟨by simp, ?_⟩
        simp only
        rw [Go.Av.getD_append, if_neg (by omega), hl, Nat.sub_self, List.idxOf_append, if_neg h]
        simp
    · obtain ⟨h1, h2⟩ := Bf.rows_row hk j (by omega) i (by omega)
      have hm2 := Bf.meet_more k (B.rows Ls k j) (Ls.getD j (0, []))
      refine ⟨hm2.st.subset h1, ?_⟩
      have e1 : (Bf.meet k (B.rows Ls k j) (Ls.getD j (0, []))).1.st.idxOf (comp (B.st.getD k []) (Ls.getD i (0, [])).2) = (B.rows Ls k j).1.st.idxOf (comp (B.st.getD k []) (Ls.getD i (0, [])).2) := by
        obtain ⟨r, hr⟩ := hm2.st
        rw [← hr, List.idxOf_append, if_pos h1]
      rw [e1, ← h2]
      unfold Bf.meet
      split <;> (simp only; rw [Go.Av.getD_append, if_pos (by omega)])

/-- The search is over. -/
def Bf.Done (Ls : List (Int × List Int)) (s0 : List Int) (k : Nat) : Prop := k = (Bf.run Ls s0 k).st.length ∧ ∀ j, j < k → j < (Bf.run Ls s0 j).st.length

theorem Bf.Done.uniq {j k : Nat} (h : Bf.Done Ls s0 j) (h' : Bf.Done Ls s0 k) : j = k := by
  rcases Nat.lt_trichotomy j k with hl | he | hl
  · have := h'.2 j hl; have := h.1; omega
  · exact he
  · have := h.2 k hl; have := h'.1; omega

theorem Bf.Done.closed {k : Nat} (h : Bf.Done Ls s0 k) {s : List Int} (hs : s ∈ (Bf.run Ls s0 k).st) {l : Int × List Int} (hl : l ∈ Ls) : comp s l.2 ∈ (Bf.run Ls s0 k).st := by
  obtain ⟨i, hi, e⟩ := List.getElem_of_mem hs
  have hik : i < k := by rw [h.1]; exact hi
  have hi' := h.2 i hik
  have hm := Bf.run_more (Ls := Ls) (s0 := s0) (show i ≤ k by omega)
  have e1 : (Bf.run Ls s0 i).st.getD i [] = s := by
    rw [← pre_getD hm.st hi' [], List.getD_eq_getElem?_getD, List.getElem?_eq_getElem hi]; exact e
  obtain ⟨j, hj, ej⟩ := List.getElem_of_mem hl
  have h1 := (Bf.rows_row (Ls := Ls) hi' Ls.length (Nat.le_refl _) j hj).1
  rw [e1, List.getD_eq_getElem?_getD, List.getElem?_eq_getElem hj, Option.getD_some, ej] at h1
  have hm2 := Bf.run_more (Ls := Ls) (s0 := s0) (show i + 1 ≤ k by omega)
  exact hm2.st.subset h1

theorem Bf.Done.mem (hG : ∀ g ∈ Ls.map (·.2), Pm n g) (hs : ∀ j, j < s0.length → 0 ≤ s0.getD j 0 ∧ s0.getD j 0 < n) {k : Nat} (h : Bf.Done Ls s0 k) (s : List Int) : s ∈ (Bf.run Ls s0 k).st ↔ ∃ g, Gen n (Ls.map (·.2)) g ∧ s = comp s0 g := by
  constructor
  · exact (Bf.J.run hG hs k h.2).gen s
  · rintro ⟨g, hg, rfl⟩
    induction hg with
    | one =>
      have h1 := (Bf.J.run hG hs k h.2).ne
      have : comp s0 (idn n) = s0 := by
        refine ext (by simp [comp]) fun j hj => ?_
        rw [comp_length] at hj
        rw [comp_get _ _ hj]
        have := hs j hj
        rw [idn_get (by unfold img; omega)]
        unfold img; omega
      rw [this]
      have h2 := mem_getD_of_lt (l := (Bf.run Ls s0 k).st) [] h1.2
      rwa [h1.1] at h2
    | @mul p g hp hg ih =>
      obtain ⟨l, hl, rfl⟩ := List.mem_map.1 hg
      rw [← comp_assoc (fun j hj => by have := hs j hj; unfold img; omega) (hp.pm hG)]
      exact h.closed ih hl

end
end Go.Pm
end
/- Extending a stabilizer chain: what the loops keep. -/
section
namespace Go.Pm
set_option linter.unusedVariables false

def rowsOf (n : Nat) : Nat → List (List Int)
  | 0 => [[]]
  | k + 1 => (List.range n).flatMap fun i : Nat => (rowsOf n k).map fun r => (i : Int) :: r
theorem rowsOf_mem (n : Nat) : ∀ (r : List Int), (∀ x, x ∈ r → ∃ i : Nat, i < n ∧ x = (i : Int)) → r ∈ rowsOf n r.length
  | [], _ => by simp [rowsOf]
  | x :: r, h => by
    obtain ⟨i, hi, rfl⟩ := h x (by simp)
    have := rowsOf_mem n r (fun y hy => h y (List.mem_cons_of_mem _ hy))
    simp only [List.length_cons, rowsOf, List.mem_flatMap, List.mem_range, List.mem_map]
    exact ⟨i, hi, r, this, rfl⟩
theorem nodup_of {α : Type} (L : List α) : ∃ M : List α, M.Nodup ∧ ∀ x, x ∈ M ↔ x ∈ L := by
  induction L with
  | nil => exact ⟨[], List.nodup_nil, fun x => Iff.rfl⟩
  | cons a L ih =>
    obtain ⟨M, h1, h2⟩ := ih
    by_cases h : a ∈ M
    · exact ⟨M, h1, fun x => by rw [h2, List.mem_cons]; constructor
                                · exact .inr
                                · rintro (rfl | hx)
                                  · exact (h2 _).1 h
                                  · exact hx⟩
    · exact ⟨a :: M, List.nodup_cons.2 ⟨h, h1⟩, fun x => by rw [List.mem_cons, List.mem_cons, h2]⟩
/-- In a finite group inverses are products. -/
theorem Gen.inv {n : Nat} {S : List (List Int)} (hS : ∀ g ∈ S, Pm n g) {g : List Int} (hg : Gen n S g) : Gen n S (invp g) := by
  obtain ⟨M, h1, h2⟩ := nodup_of (rowsOf n n)
  have dec : ∀ p, Decidable (Gen n S p) := fun p => Classical.propDecidable _
  refine Gen.inv_mem (L := M.filter fun p => @decide (Gen n S p) (dec p)) hS (fun p => ?_) (h1.filter _) hg
  rw [List.mem_filter, h2]
  constructor
  · rintro ⟨_, h⟩; exact @of_decide_eq_true _ (dec p) h
  · intro h
    refine ⟨?_, @decide_eq_true _ (dec p) h⟩
    have hp := h.pm hS
    have := rowsOf_mem n p (fun x hx => by
      obtain ⟨j, hj, rfl⟩ := List.mem_iff_getElem.1 hx
      have h3 := hp.2.1 j (by rw [← hp.1]; exact hj)
      rw [List.getD_eq_getElem?_getD, List.getElem?_eq_getElem hj] at h3
      simp only [Option.getD_some] at h3
      exact ⟨(p[j]).toNat, by omega, by omega⟩)
    rwa [hp.1] at this

/-- No generator lies in what those before it generate. -/
def Ind (n : Nat) (S : List (List Int)) : Prop := ∀ k, k < S.length → ¬ Gen n (S.take k) (S.getD k [])
theorem Ind.nil (n : Nat) : Ind n [] := fun k hk => by simp at hk
theorem Ind.snoc {n : Nat} {S : List (List Int)} {p : List Int} (h : Ind n S) (hp : ¬ Gen n S p) : Ind n (S ++ [p]) := fun k hk => by
  simp only [List.length_append, List.length_singleton] at hk
  by_cases e : k = S.length
  · subst e
    rw [List.take_left', List.getD_eq_getElem?_getD, List.getElem?_append_right (Nat.le_refl _)]
    · simpa using hp
    · rfl
  · have h1 := h k (by omega)
    rw [List.take_append_of_le_length (by omega), List.getD_eq_getElem?_getD, List.getElem?_append_left (by omega), ← List.getD_eq_getElem?_getD]
    exact h1
theorem Ind.many {n : Nat} {S : List (List Int)} (hS : ∀ g ∈ S, Pm n g) (h : Ind n S) : ∀ k, k ≤ S.length → ∃ L : List (List Int), L.Nodup ∧ 2 ^ k ≤ L.length ∧ ∀ x ∈ L, Gen n (S.take k) x
  | 0, _ => ⟨[idn n], by simp, by simp, fun x hx => by rw [List.mem_singleton] at hx; subst hx; exact .one⟩
  | k + 1, hk => by
    obtain ⟨L, h1, h2, h3⟩ := Ind.many hS h k (by omega)
    have e : S.take (k + 1) = S.take k ++ [S.getD k []] := by
      rw [List.take_succ_eq_append_getElem (by omega)]; simp [List.getD_eq_getElem?_getD, List.getElem?_eq_getElem (show k < S.length by omega)]
    have hg : S.getD k [] ∈ S := by
      rw [List.getD_eq_getElem?_getD, List.getElem?_eq_getElem (show k < S.length by omega)]; exact List.getElem_mem _
    have gp := hS _ hg
    have hSk : ∀ g ∈ S.take k, Pm n g := fun g hg => hS g (List.mem_of_mem_take hg)
    have hnot := h k (by omega)
    refine ⟨L ++ L.map fun x => comp x (S.getD k []), ?_, ?_, ?_⟩
    · refine List.nodup_append.2 ⟨h1, ?_, ?_⟩
      · rw [List.nodup_iff_pairwise_ne, List.pairwise_map]
        refine List.Pairwise.imp_of_mem (R := fun a b => a ≠ b) ?_ (List.nodup_iff_pairwise_ne.1 h1)
        intro a b ha hb hne e
        exact hne (((h3 a ha).pm hSk).right_inj ((h3 b hb).pm hSk) gp e)
      · intro x hx y hy exy
        obtain ⟨z, hz, rfl⟩ := List.mem_map.1 hy
        subst exy
        refine hnot ?_
        have zp := (h3 z hz).pm hSk
        have := Gen.prod hSk (Gen.inv hSk (h3 z hz)) (h3 _ hx)
        rwa [← zp.inv.assoc zp gp, zp.inv_comp, gp.idn_comp] at this
    · rw [List.length_append, List.length_map, Nat.pow_succ]; omega
    · intro x hx
      rw [e]
      rcases List.mem_append.1 hx with hx | hx
      · exact (h3 x hx).mono fun g hg => List.mem_append_left _ hg
      · obtain ⟨z, hz, rfl⟩ := List.mem_map.1 hx
        exact Gen.mul ((h3 z hz).mono fun g hg => List.mem_append_left _ hg) (by simp)
def Ch.Ind (C : Ch) (n : Nat) : Prop := ∀ j, j < n → Go.Pm.Ind n (C.S j)

def Ch.addS (C : Ch) (i : Nat) (p : List Int) : Ch := ⟨fun j => if j = i then C.S i ++ [p] else C.S j, C.T⟩
def Ch.setT (C : Ch) (i k : Nat) (p : List Int) : Ch := ⟨C.S, fun j => if j = i then (fun y => if y = k then some p else C.T i y) else C.T j⟩
theorem Ch.addS_self (C : Ch) (i : Nat) (p : List Int) : (C.addS i p).S i = C.S i ++ [p] := by simp [Ch.addS]
theorem Ch.addS_ne (C : Ch) {i j : Nat} (p : List Int) (h : j ≠ i) : (C.addS i p).S j = C.S j := by simp [Ch.addS, h]
theorem Ch.setT_self (C : Ch) (i k : Nat) (p : List Int) (y : Nat) : (C.setT i k p).T i y = if y = k then some p else C.T i y := by simp [Ch.setT]
theorem Ch.setT_ne (C : Ch) {i j : Nat} (k : Nat) (p : List Int) (h : j ≠ i) : (C.setT i k p).T j = C.T j := by simp [Ch.setT, h]

/-- What adding p at the level l gives. -/
structure Ch.Add (n l : Nat) (C : Ch) (p : List Int) (C' : Ch) : Prop where
  eT : ∀ i, i < l → C'.T i = C.T i
  eS : ∀ i, i < l → C'.S i = C.S i
  wf : C'.WF n
  full : C'.Full n l
  mono : ∀ g, g ∈ C.S l → g ∈ C'.S l
  new : ∀ g, g ∈ C'.S l → g ∈ C.S l ∨ g = p
  has : C'.has (n - l) l p = true
  ind : C.Ind n → C'.Ind n

section
variable {C C0 C1 : Ch} {n l : Nat} {p : List Int} {q : List Int}

theorem Ch.WF.addS (w : C.WF n) (hp : Pm n p) (hf : fixB l p) : (C.addS l p).WF n :=
  ⟨w.t1, w.t0, fun i g hg => by
    by_cases h : i = l
    · subst h
      rw [Ch.addS_self] at hg
      rcases List.mem_append.1 hg with h | h
      · exact w.s1 _ _ h
      · rw [List.mem_singleton] at h; subst h; exact ⟨hp, hf⟩
    · rw [Ch.addS_ne _ _ h] at hg; exact w.s1 _ _ hg⟩
theorem Ch.WF.setT (w : C.WF n) {k : Nat} {t : List Int} (hk : k ≠ l) (ht : Pm n t) (hf : fixB l t) (he : img t l = k) : (C.setT l k t).WF n :=
  ⟨fun i y u hi hu => by
    by_cases h : i = l
    · subst h
      rw [Ch.setT_self] at hu
      split at hu
      · rename_i e; subst e; simp only [Option.some.injEq] at hu; subst hu; exact ⟨ht, hf, he⟩
      · exact w.t1 _ _ _ hi hu
    · rw [Ch.setT_ne _ _ _ h] at hu; exact w.t1 _ _ _ hi hu,
  fun i hi => by
    by_cases h : i = l
    · subst h; rw [Ch.setT_self, if_neg (fun e => hk e.symm)]; exact w.t0 _ hi
    · rw [Ch.setT_ne _ _ _ h]; exact w.t0 _ hi, w.s1⟩

/-- A new generator lies outside. -/
theorem Ch.Ind.addS (w : C.WF n) (hI : C.Ind n) (hF : C.Full n l) (hl : l < n) (hp : Pm n p) (hf : fixB l p) (hh : C.has (n - l) l p = false) : (C.addS l p).Ind n := fun j hj => by
  by_cases e : j = l
  · subst e
    rw [Ch.addS_self]
    refine (hI j hj).snoc fun hg => ?_
    rw [(Ch.has_iff w (n - j) j (by omega) hF p hp hf).2 hg] at hh
    simp at hh
  · rw [Ch.addS_ne _ _ e]; exact hI j hj
/-- The orbit grows: q are the points that are still to be looked at. -/
structure Ph1 (n l : Nat) (C0 C : Ch) (q : List Int) : Prop where
  wf : C.WF n
  eT : ∀ i, i ≠ l → C.T i = C0.T i
  eS : C.S = C0.S
  tg : ∀ y t, C.T l y = some t → Gen n (C0.S l) t
  q1 : ∀ x, x ∈ q → ∃ y : Nat, y < n ∧ x = (y : Int) ∧ (C.T l y).isSome = true
  cl : ∀ y, (C.T l y).isSome = true → (y : Int) ∈ q ∨ ∀ g, g ∈ C0.S l → (C.T l (img g y)).isSome = true

theorem Ph1.lt (h : Ph1 n l C0 C q) (hl : l < n) {y : Nat} (hy : (C.T l y).isSome = true) : y < n := by
  cases e : C.T l y with
  | none => rw [e] at hy; simp at hy
  | some t => obtain ⟨h1, _, h3⟩ := h.wf.t1 l y t hl e; rw [← h3]; exact h1.img_lt hl
theorem Ph1.push (h : Ph1 n l C0 C q) (hl : l < n) {y : Nat} {t g : List Int} (ht : C.T l y = some t) (hg : g ∈ C0.S l) (hn : C.T l (img g y) = none) : Ph1 n l C0 (C.setT l (img g y) (comp t g)) (q ++ [((img g y : Nat) : Int)]) := by
  obtain ⟨t1, t2, t3⟩ := h.wf.t1 l y t hl ht
  obtain ⟨g1, g2⟩ := h.wf.s1 l g (by rw [h.eS]; exact hg)
  have hyn : y < n := h.lt hl (by rw [ht]; rfl)
  have hSp : ∀ x, x ∈ C0.S l → Pm n x := fun x hx => (h.wf.s1 l x (by rw [h.eS]; exact hx)).1
  have hne : img g y ≠ l := fun e => by rw [e, h.wf.t0 l hl] at hn; simp at hn
  refine ⟨h.wf.setT hne (t1.comp g1) (fixB.comp t1 (by omega) t2 g2) (by rw [t1.cimg hl, t3]), fun i hi => by rw [Ch.setT_ne _ _ _ hi]; exact h.eT i hi, h.eS, ?_, ?_, ?_⟩
  · intro z u hu
    rw [Ch.setT_self] at hu
    split at hu
    · simp only [Option.some.injEq] at hu; subst hu
      exact Gen.prod hSp (h.tg y t ht) (Gen.of hSp hg)
    · exact h.tg z u hu
  · intro x hx
    rcases List.mem_append.1 hx with hx | hx
    · obtain ⟨z, h1, h2, h3⟩ := h.q1 x hx
      refine ⟨z, h1, h2, ?_⟩
      rw [Ch.setT_self]; split
      · rfl
      · exact h3
    · rw [List.mem_singleton] at hx
      exact ⟨_, g1.img_lt hyn, hx, by rw [Ch.setT_self, if_pos rfl]; rfl⟩
  · intro z hz
    rw [Ch.setT_self] at hz
    split at hz
    · rename_i e; subst e; exact .inl (List.mem_append_right _ (by simp))
    · rcases h.cl z hz with h1 | h1
      · exact .inl (List.mem_append_left _ h1)
      · refine .inr fun x hx => ?_
        rw [Ch.setT_self]; split
        · rfl
        · exact h1 x hx
/-- The quotient that a point and a generator give. -/
def Ch.quo (C : Ch) (l y : Nat) (g : List Int) : List Int := comp (comp ((C.T l y).getD []) g) (invp ((C.T l (img g y)).getD []))

/-- The orbit stands; the quotients are added one by one. -/
structure Ph2 (n l : Nat) (C0 C : Ch) : Prop where
  wf : C.WF n
  eT : ∀ i, i ≤ l → C.T i = C0.T i
  eS : ∀ i, i ≤ l → C.S i = C0.S i
  full : C.Full n (l + 1)
  tg : ∀ y t, C0.T l y = some t → Gen n (C0.S l) t
  cl : ∀ y g, (C0.T l y).isSome = true → g ∈ C0.S l → (C0.T l (img g y)).isSome = true
  sg : ∀ g, g ∈ C.S (l + 1) → Gen n (C0.S l) g
  ind : C.Ind n

theorem Ch.Full.of_eq (h : C0.Full n l) (eT : ∀ i, l ≤ i → C.T i = C0.T i) (eS : ∀ i, l ≤ i → C.S i = C0.S i) : C.Full n l := fun j hj hjn => by
  have o := h j hj hjn
  refine ⟨?_, ?_, ?_⟩
  · intro y t g ht hg
    rw [eT j hj] at ht ⊢
    rw [eS j hj] at hg
    obtain ⟨u, h1, h2⟩ := o.cl y t g ht hg
    exact ⟨u, h1, by rw [Ch.has_congr _ _ _ (fun i hi => eT i (by omega))]; exact h2⟩
  · intro y t ht
    rw [eT j hj] at ht
    rw [eS j hj]
    exact o.tg y t ht
  · intro g hg
    rw [eS (j + 1) (by omega)] at hg
    rw [eS j hj]
    exact o.sg g hg

/-- One quotient more. -/
theorem Ph2.step (h : Ph2 n l C0 C) {x : List Int} (hx : Gen n (C0.S l) x) (a : Ch.Add n (l + 1) C x C1) : Ph2 n l C0 C1 :=
  ⟨a.wf, fun i hi => by rw [a.eT i (by omega)]; exact h.eT i hi, fun i hi => by rw [a.eS i (by omega)]; exact h.eS i hi, a.full, h.tg, h.cl, fun g hg => by
    rcases a.new g hg with h1 | rfl
    · exact h.sg g h1
    · exact hx, a.ind h.ind⟩
theorem Ph2.keep (h : Ph2 n l C0 C) (hl : l < n) {x : List Int} (a : Ch.Add n (l + 1) C x C1) {z : List Int} (hz : Pm n z) (hf : fixB (l + 1) z) (hh : C.has (n - (l + 1)) (l + 1) z = true) : C1.has (n - (l + 1)) (l + 1) z = true :=
  Ch.has_mono h.wf a.wf (by omega) h.full a.full a.mono hz hf hh
/-- The end: all quotients are there. -/
theorem Ph2.fin (h : Ph2 n l C0 C) (hl : l < n) (hd : ∀ y g, (C0.T l y).isSome = true → g ∈ C0.S l → C.has (n - (l + 1)) (l + 1) (C0.quo l y g) = true) : C.Full n l := fun j hj hjn => by
  by_cases e : j = l
  · subst e
    refine ⟨?_, ?_, ?_⟩
    · intro y t g ht hg
      rw [h.eT j (Nat.le_refl _)] at ht
      rw [h.eS j (Nat.le_refl _)] at hg
      have h1 := h.cl y g (by rw [ht]; rfl) hg
      have h2 := hd y g (by rw [ht]; rfl) hg
      cases e2 : C0.T j (img g y) with
      | none => rw [e2] at h1; simp at h1
      | some u =>
        unfold Ch.quo at h2
        rw [ht, e2] at h2
        exact ⟨u, by rw [h.eT j (Nat.le_refl _)]; exact e2, h2⟩
    · intro y t ht
      rw [h.eT j (Nat.le_refl _)] at ht
      rw [h.eS j (Nat.le_refl _)]
      exact h.tg y t ht
    · intro g hg
      rw [h.eS j (Nat.le_refl _)]
      exact h.sg g hg
  · exact h.full j (by omega) hjn
/-- What was asked for. -/
theorem Ph2.add {C2 : Ch} (w0 : C1.WF n) (hl : l < n) (hp : Pm n p) (hf : fixB l p) (h1 : Ph1 n l (C1.addS l p) C0 []) (h : Ph2 n l C0 C2) (hF : C2.Full n l) : Ch.Add n l C1 p C2 := by
  have hS : C2.S l = C1.S l ++ [p] := by rw [h.eS l (Nat.le_refl _), h1.eS, Ch.addS_self]
  refine ⟨fun i hi => by rw [h.eT i (by omega), h1.eT i (by omega)]; rfl, fun i hi => by rw [h.eS i (by omega), h1.eS, Ch.addS_ne _ _ (by omega)], h.wf, hF, fun g hg => by rw [hS]; exact List.mem_append_left _ hg, fun g hg => by rw [hS] at hg; simpa using hg, ?_, fun _ => h.ind⟩
  refine (Ch.has_iff h.wf (n - l) l (by omega) hF p hp hf).2 (Gen.of (h.wf.gpm l) (by rw [hS]; simp))
theorem Ch.Add.none (w : C.WF n) (hF : C.Full n l) (h : C.has (n - l) l p = true) : Ch.Add n l C p C :=
  ⟨fun _ _ => rfl, fun _ _ => rfl, w, hF, fun _ h => h, fun _ h => .inl h, h, id⟩
theorem Ch.Add.gen {S : List (List Int)} (a : Ch.Add n 0 C p C1) (hp : Pm n p) (hS : ∀ g ∈ S, Pm n g) (h : ∀ g, Gen n S g ↔ Gen n (C.S 0) g) : ∀ g, Gen n (S ++ [p]) g ↔ Gen n (C1.S 0) g := by
  have hS1 : ∀ g ∈ S ++ [p], Pm n g := fun g hg => by
    rcases List.mem_append.1 hg with hg | hg
    · exact hS g hg
    · rw [List.mem_singleton] at hg; subst hg; exact hp
  intro g
  constructor
  · intro hg
    refine hg.sub (a.wf.gpm 0) fun x hx => ?_
    rcases List.mem_append.1 hx with hx | hx
    · exact ((h x).1 (Gen.of hS hx)).mono a.mono
    · rw [List.mem_singleton] at hx; subst hx
      exact (Ch.has_iff a.wf n 0 (by omega) a.full _ hp (fun j hj => by omega)).1 a.has
  · intro hg
    refine hg.sub hS1 fun x hx => ?_
    rcases a.new x hx with hx | rfl
    · refine ((h x).2 ?_).mono fun y hy => List.mem_append_left _ hy
      refine Gen.of (fun y hy => ?_) hx
      exact a.wf.gpm 0 y (a.mono y hy)
    · exact Gen.of hS1 (by simp)
end
end Go.Pm
end
/- Extending a stabilizer chain product by product. -/
section
namespace Go.Pm
set_option linter.unusedVariables false

/-- The chain is sound from level l on, and full below it. -/
structure Spc (n l : Nat) (C : Ch) : Prop where
  wf : C.WF n
  full : C.Full n (l + 1)
  ind : C.Ind n
  tg : ∀ y t, C.T l y = some t → Gen n (C.S l) t
  sg : ∀ g, g ∈ C.S (l + 1) → Gen n (C.S l) g

/-- C' comes of C by products at level l. -/
structure Run (n l : Nat) (C C' : Ch) : Prop where
  eT : ∀ i, i < l → C'.T i = C.T i
  eS : ∀ i, i ≤ l → C'.S i = C.S i
  ok : Spc n l C'
  ext : ∀ y t, C.T l y = some t → C'.T l y = some t
  mono : ∀ g, g ∈ C.S (l + 1) → g ∈ C'.S (l + 1)
  newd : ∀ y t g, C'.T l y = some t → C.T l y = none → g ∈ C.S l → C'.has (n - l) l (comp t g) = true

section
variable {n l : Nat} {C C' C'' : Ch} {x z : List Int}

theorem Ch.has_step (C : Ch) (hl : l < n) (z : List Int) : C.has (n - l) l z = match C.T l (img z l) with | none => false | some t => C.has (n - (l + 1)) (l + 1) (comp z (invp t)) := by
  rw [show n - l = (n - (l + 1)) + 1 by omega]; rfl
theorem Run.refl (h : Spc n l C) : Run n l C C := ⟨fun _ _ => rfl, fun _ _ => rfl, h, fun _ _ h => h, fun _ h => h, fun y t g h1 h2 => by rw [h1] at h2; simp at h2⟩
theorem Run.keep (r : Run n l C C') (h : Spc n l C) (hl : l < n) (hz : Pm n z) (hf : fixB l z) (hh : C.has (n - l) l z = true) : C'.has (n - l) l z = true := by
  rw [Ch.has_step C hl] at hh
  rw [Ch.has_step C' hl]
  cases e : C.T l (img z l) with
  | none => rw [e] at hh; simp at hh
  | some t =>
    rw [e] at hh
    rw [r.ext _ _ e]
    obtain ⟨t1, t2, t3⟩ := h.wf.t1 l _ t hl e
    exact Ch.has_mono h.wf r.ok.wf (by omega) h.full r.ok.full r.mono (hz.comp t1.inv) (fixB.quot hz t1 hl hf t2 t3) hh
theorem Run.trans (r : Run n l C C') (q : Run n l C' C'') (hl : l < n) : Run n l C C'' := by
  refine ⟨fun i hi => by rw [q.eT i hi, r.eT i hi], fun i hi => by rw [q.eS i hi, r.eS i hi], q.ok, fun y t h => q.ext y t (r.ext y t h), fun g hg => q.mono g (r.mono g hg), ?_⟩
  intro y t g h1 h2 hg
  have hg' : g ∈ C'.S l := by rw [r.eS l (Nat.le_refl _)]; exact hg
  cases e : C'.T l y with
  | none => exact q.newd y t g h1 e hg'
  | some t' =>
    have e2 := q.ext y t' e
    rw [h1] at e2
    simp only [Option.some.injEq] at e2
    subst e2
    obtain ⟨t1, t2, _⟩ := r.ok.wf.t1 l y t hl e
    obtain ⟨g1, g2⟩ := r.ok.wf.s1 l g hg'
    exact q.keep r.ok hl (t1.comp g1) (fixB.comp t1 (by omega) t2 g2) (r.newd y t g e h2 hg)
theorem Spc.gpm (h : Spc n l C) : ∀ g ∈ C.S l, Pm n g := h.wf.gpm l
/-- The quotient by a representative that is there. -/
theorem Spc.quo (h : Spc n l C) (hl : l < n) (hx : Pm n x) (hf : fixB l x) (hg : Gen n (C.S l) x) {t : List Int} (ht : C.T l (img x l) = some t) : Pm n (comp x (invp t)) ∧ fixB (l + 1) (comp x (invp t)) ∧ Gen n (C.S l) (comp x (invp t)) := by
  obtain ⟨t1, t2, t3⟩ := h.wf.t1 l _ t hl ht
  exact ⟨hx.comp t1.inv, fixB.quot hx t1 hl hf t2 t3, Gen.prod h.gpm hg (Gen.inv h.gpm (h.tg _ _ ht))⟩
/-- .. given to the level above. -/
theorem Run.up (h : Spc n l C) (hl : l < n) {t : List Int} (ht : C.T l (img x l) = some t) (hg : Gen n (C.S l) (comp x (invp t))) (a : Ch.Add n (l + 1) C (comp x (invp t)) C') : Run n l C C' ∧ C'.has (n - l) l x = true := by
  have eT : C'.T l = C.T l := a.eT l (by omega)
  have eS : C'.S l = C.S l := a.eS l (by omega)
  refine ⟨⟨fun i hi => a.eT i (by omega), fun i hi => a.eS i (by omega), ⟨a.wf, a.full, a.ind h.ind, fun y u hu => ?_, fun g hg' => ?_⟩, fun y u hu => by rw [eT]; exact hu, a.mono, fun y u g h1 h2 => by rw [eT, h2] at h1; simp at h1⟩, ?_⟩
  · rw [eT] at hu; rw [eS]; exact h.tg y u hu
  · rw [eS]
    rcases a.new g hg' with h1 | rfl
    · exact h.sg g h1
    · exact hg
  · rw [Ch.has_step C' hl, eT, ht]; exact a.has
/-- A new representative. -/
theorem Spc.set (h : Spc n l C) (hl : l < n) (hx : Pm n x) (hf : fixB l x) (hg : Gen n (C.S l) x) (hn : C.T l (img x l) = none) : Spc n l (C.setT l (img x l) x) := by
  have hne : img x l ≠ l := fun e => by rw [e, h.wf.t0 l hl] at hn; simp at hn
  refine ⟨h.wf.setT hne hx hf rfl, h.full.of_eq (fun i hi => Ch.setT_ne _ _ _ (by omega)) (fun _ _ => rfl), h.ind, fun y t ht => ?_, h.sg⟩
  rw [Ch.setT_self] at ht
  split at ht
  · simp only [Option.some.injEq] at ht; subst ht; exact hg
  · exact h.tg y t ht
theorem Ch.has_idn (w : C.WF n) (hF : C.Full n (l + 1)) (hl : l < n) : C.has (n - (l + 1)) (l + 1) (idn n) = true :=
  (Ch.has_iff w (n - (l + 1)) (l + 1) (by omega) hF _ (.idn n) (fixB.idn n _ (by omega))).2 .one
/-- .. and all its products. -/
theorem Run.set (h : Spc n l C) (hl : l < n) (hx : Pm n x) (hf : fixB l x) (hn : C.T l (img x l) = none) (r : Run n l (C.setT l (img x l) x) C') (hd : ∀ g, g ∈ C.S l → C'.has (n - l) l (comp x g) = true) : Run n l C C' ∧ C'.has (n - l) l x = true := by
  have hx' : C'.T l (img x l) = some x := r.ext _ _ (by rw [Ch.setT_self, if_pos rfl])
  refine ⟨⟨fun i hi => by rw [r.eT i hi, Ch.setT_ne _ _ _ (by omega)], r.eS, r.ok, fun y t ht => r.ext y t ?_, r.mono, ?_⟩, ?_⟩
  · rw [Ch.setT_self, if_neg (fun e => by rw [e, hn] at ht; simp at ht)]; exact ht
  · intro y t g h1 h2 hg
    by_cases e : y = img x l
    · subst e
      rw [hx'] at h1
      simp only [Option.some.injEq] at h1
      subst h1
      exact hd g hg
    · exact r.newd y t g h1 (by rw [Ch.setT_self, if_neg e]; exact h2) hg
  · rw [Ch.has_step C' hl, hx']
    dsimp only
    rw [hx.comp_inv]
    exact Ch.has_idn r.ok.wf r.ok.full hl
/-- The chain with one generator more, before the products. -/
theorem Spc.start {p : List Int} (w : C.WF n) (hF : C.Full n l) (hI : C.Ind n) (hl : l < n) (hp : Pm n p) (hf : fixB l p) (hh : C.has (n - l) l p = false) : Spc n l (C.addS l p) := by
  have e2 : ∀ i, l + 1 ≤ i → (C.addS l p).S i = C.S i := fun i hi => Ch.addS_ne _ _ (by omega)
  refine ⟨w.addS hp hf, Ch.Full.of_eq (fun j hj hjn => hF j (by omega) hjn) (fun _ _ => rfl) e2, hI.addS w hF hl hp hf hh, fun y t ht => ?_, fun g hg => ?_⟩
  · exact ((hF l (Nat.le_refl _) hl).tg y t ht).mono fun g hg => by rw [Ch.addS_self]; exact List.mem_append_left _ hg
  · rw [e2 (l + 1) (by omega)] at hg
    exact ((hF l (Nat.le_refl _) hl).sg g hg).mono fun g hg => by rw [Ch.addS_self]; exact List.mem_append_left _ hg
/-- The products of all old representatives with the new generator are there: the generator is in. -/
theorem Run.fin {p : List Int} (w : C.WF n) (hF : C.Full n l) (hl : l < n) (hp : Pm n p) (hf : fixB l p) (s : Spc n l (C.addS l p)) (r : Run n l (C.addS l p) C') (hd : ∀ y t, C.T l y = some t → C'.has (n - l) l (comp t p) = true) : Ch.Add n l C p C' := by
  have hS : C'.S l = C.S l ++ [p] := by rw [r.eS l (Nat.le_refl _), Ch.addS_self]
  have hFull : C'.Full n l := fun j hj hjn => by
    by_cases e : j = l
    · subst e
      have key : ∀ y t g, C'.T j y = some t → g ∈ C'.S j → C'.has (n - j) j (comp t g) = true := by
        intro y t g ht hg
        cases e1 : C.T j y with
        | none => exact r.newd y t g ht e1 (by rw [Ch.addS_self, ← hS]; exact hg)
        | some t0 =>
          have e2 := r.ext y t0 e1
          rw [ht] at e2
          simp only [Option.some.injEq] at e2
          subst e2
          rw [hS] at hg
          rcases List.mem_append.1 hg with hg | hg
          · obtain ⟨u, h1, h2⟩ := (hF j (Nat.le_refl _) hjn).cl y t g e1 hg
            obtain ⟨t1, t2, t3⟩ := w.t1 j y t hjn e1
            obtain ⟨g1, g2⟩ := w.s1 j g hg
            have h3 : (C.addS j p).has (n - j) j (comp t g) = true := by
              rw [Ch.has_step _ hjn, t1.cimg hjn, t3]
              show (match C.T j (img g y) with | none => false | some t' => _) = true
              rw [h1]
              dsimp only
              refine Ch.has_mono w s.wf (by omega) (fun i hi hin => hF i (by omega) hin) s.full (fun g hg => by rw [Ch.addS_ne _ _ (by omega)]; exact hg) ?_ ?_ h2
              · exact (t1.comp g1).comp (w.t1 j _ u hjn h1).1.inv
              · exact fixB.quot (t1.comp g1) (w.t1 j _ u hjn h1).1 hjn (fixB.comp t1 (by omega) t2 g2) (w.t1 j _ u hjn h1).2.1 (by rw [(w.t1 j _ u hjn h1).2.2, t1.cimg hjn, t3])
            exact r.keep s hjn (t1.comp g1) (fixB.comp t1 (by omega) t2 g2) h3
          · rw [List.mem_singleton] at hg; subst hg
            exact hd y t e1
      refine ⟨fun y t g ht hg => ?_, r.ok.tg, r.ok.sg⟩
      have h1 := key y t g ht hg
      obtain ⟨t1, t2, t3⟩ := r.ok.wf.t1 j y t hjn ht
      rw [Ch.has_step _ hjn, t1.cimg hjn, t3] at h1
      cases e3 : C'.T j (img g y) with
      | none => rw [e3] at h1; simp at h1
      | some u => rw [e3] at h1; exact ⟨u, rfl, h1⟩
    · exact r.ok.full j (by omega) hjn
  refine ⟨r.eT, fun i hi => by rw [r.eS i (by omega), Ch.addS_ne _ _ (by omega)], r.ok.wf, hFull, fun g hg => by rw [hS]; exact List.mem_append_left _ hg, fun g hg => by rw [hS] at hg; simpa using hg, ?_, fun _ => r.ok.ind⟩
  exact (Ch.has_iff r.ok.wf (n - l) l (by omega) hFull p hp hf).2 (Gen.of (r.ok.wf.gpm l) (by rw [hS]; simp))
end
end Go.Pm
end
/- Sorted indices over rows of numbers: the order of rows, where a row stands, how one is put in. -/
section
namespace Go.Pm
set_option linter.unusedVariables false
set_option linter.unusedSimpArgs false

def lx : List Int → List Int → Bool
  | x :: xs, y :: ys => if x = y then lx xs ys else decide (x < y)
  | _, _ => false
theorem lx_irr : ∀ a : List Int, lx a a = false
  | [] => rfl
  | x :: xs => by simp [lx, lx_irr xs]
theorem lx_trans : ∀ {a b c : List Int}, lx a b = true → lx b c = true → lx a c = true
  | [], _, _, h, _ => by simp [lx] at h
  | _ :: _, [], _, h, _ => by simp [lx] at h
  | _ :: _, _ :: _, [], _, h => by simp [lx] at h
  | x :: xs, y :: ys, z :: zs, h, k => by
    unfold lx at h k ⊢
    by_cases h1 : x = y
    · subst h1
      by_cases h2 : x = z
      · subst h2; simp only [if_true] at h k ⊢; exact lx_trans h k
      · simp only [if_true, if_neg h2] at k ⊢; exact k
    · simp only [if_neg h1, decide_eq_true_eq] at h
      by_cases h2 : y = z
      · subst h2; rw [if_neg h1]; simpa using h
      · simp only [if_neg h2, decide_eq_true_eq] at k
        rw [if_neg (by omega)]; simp; omega
theorem lx_tri : ∀ {a b : List Int}, a.length = b.length → lx a b = false → lx b a = false → a = b
  | [], [], _, _, _ => rfl
  | [], _ :: _, h, _, _ => by simp at h
  | _ :: _, [], h, _, _ => by simp at h
  | x :: xs, y :: ys, h, h1, h2 => by
    unfold lx at h1 h2
    by_cases e : x = y
    · subst e
      simp only [if_true] at h1 h2
      rw [lx_tri (by simpa using h) h1 h2]
    · rw [if_neg e] at h1
      rw [if_neg (fun e' => e e'.symm)] at h2
      simp only [decide_eq_false_iff_not] at h1 h2
      omega
/-- The walk through two rows that agree so far. -/
theorem lx_drop {a b : List Int} (hl : a.length = b.length) {i : Nat} (h : i < a.length) (e : a.getD i 0 = b.getD i 0) : lx (a.drop i) (b.drop i) = lx (a.drop (i + 1)) (b.drop (i + 1)) := by
  have hb : i < b.length := by omega
  rw [List.drop_eq_getElem_cons h, List.drop_eq_getElem_cons hb]
  have : a[i] = b[i] := by simpa [List.getD_eq_getElem?_getD, h, hb] using e
  conv => lhs; unfold lx
  rw [if_pos this]
theorem lx_drop_ne {a b : List Int} (hl : a.length = b.length) {i : Nat} (h : i < a.length) (e : a.getD i 0 ≠ b.getD i 0) : lx (a.drop i) (b.drop i) = decide (a.getD i 0 < b.getD i 0) := by
  have hb : i < b.length := by omega
  rw [List.drop_eq_getElem_cons h, List.drop_eq_getElem_cons hb]
  have e1 : a.getD i 0 = a[i] := by simp [List.getD_eq_getElem?_getD, h]
  have e2 : b.getD i 0 = b[i] := by simp [List.getD_eq_getElem?_getD, hb]
  rw [e1, e2] at e ⊢
  conv => lhs; unfold lx
  rw [if_neg e]
theorem lx_drop_end {a b : List Int} {i : Nat} (h : a.length ≤ i) : lx (a.drop i) (b.drop i) = false := by
  rw [List.drop_eq_nil_of_le h]; rfl

/-- The j-th row in the sorted order. -/
def srow (xs : List (List Int)) (so : List Int) (j : Nat) : List Int := xs.getD (so.getD j 0).toNat []
structure Srt (m : Nat) (xs : List (List Int)) (so : List Int) : Prop where
  len : so.length = xs.length
  same : ∀ s ∈ xs, s.length = m
  rng : ∀ i, i < so.length → 0 ≤ so.getD i 0 ∧ so.getD i 0 < xs.length
  inc : ∀ i j, i < j → j < so.length → lx (srow xs so i) (srow xs so j) = true
  sur : ∀ k : Nat, k < xs.length → ∃ i, i < so.length ∧ so.getD i 0 = (k : Int)
/-- Where a row stands or would stand. -/
structure Slot (xs : List (List Int)) (so : List Int) (s : List Int) (a : Nat) : Prop where
  le : a ≤ so.length
  lo : ∀ i, i < a → lx (srow xs so i) s = true
  hi : ∀ i, a ≤ i → i < so.length → lx (srow xs so i) s = false
def slot (xs : List (List Int)) (so : List Int) (s : List Int) : Nat := so.findIdx fun j => !lx (xs.getD j.toNat []) s
/-- The index of a row, or -1. -/
def sidx (xs : List (List Int)) (s : List Int) : Int := if s ∈ xs then (xs.idxOf s : Int) else -1
section
variable {m : Nat} {xs : List (List Int)} {so : List Int} {s : List Int}
theorem Slot.eq {a : Nat} (h : Slot xs so s a) : slot xs so s = a := by
  unfold slot
  by_cases e : a < so.length
  · refine (List.findIdx_eq e).2 ⟨?_, fun j hj => ?_⟩
    · have := h.hi a (Nat.le_refl _) e
      unfold srow at this
      rw [List.getD_eq_getElem?_getD (l := so), List.getElem?_eq_getElem e, Option.getD_some] at this
      rw [this]; rfl
    · have := h.lo j hj
      have hj' : j < so.length := by omega
      unfold srow at this
      rw [List.getD_eq_getElem?_getD (l := so), List.getElem?_eq_getElem hj', Option.getD_some] at this
      rw [this]; rfl
  · have ha : a = so.length := by have := h.le; omega
    subst ha
    refine List.findIdx_eq_length.2 fun j hj => ?_
    obtain ⟨i, hi, rfl⟩ := List.getElem_of_mem hj
    have := h.lo i hi
    unfold srow at this
    rw [List.getD_eq_getElem?_getD (l := so), List.getElem?_eq_getElem hi, Option.getD_some] at this
    rw [this]; rfl
theorem mem_getD {l : List (List Int)} {i : Nat} (h : i < l.length) : l.getD i [] ∈ l := by
  rw [List.getD_eq_getElem?_getD, List.getElem?_eq_getElem h]; exact List.getElem_mem h
theorem Srt.row (h : Srt m xs so) {i : Nat} (hi : i < so.length) : srow xs so i ∈ xs := by
  have := h.rng i hi
  exact mem_getD (by omega)
theorem Srt.slot (h : Srt m xs so) (s : List Int) : Slot xs so s (Go.Pm.slot xs so s) := by
  unfold Go.Pm.slot
  have g : ∀ i, i < so.length → so.getD i 0 = so[i]! := fun i hi => by simp [List.getD_eq_getElem?_getD, hi]
  refine ⟨List.findIdx_le_length, fun i hi => ?_, fun i hi hl => ?_⟩
  · have hl : i < so.length := Nat.lt_of_lt_of_le hi List.findIdx_le_length
    have := List.not_of_lt_findIdx hi
    unfold srow
    rw [List.getD_eq_getElem?_getD (l := so), List.getElem?_eq_getElem hl, Option.getD_some]
    simpa using this
  · have hf : so.findIdx (fun j => !lx (xs.getD j.toNat []) s) < so.length := by omega
    have h1 := List.findIdx_getElem (w := hf)
    have h2 : lx (srow xs so (so.findIdx fun j => !lx (xs.getD j.toNat []) s)) s = false := by
      unfold srow
      rw [List.getD_eq_getElem?_getD (l := so), List.getElem?_eq_getElem hf, Option.getD_some]
      simpa using h1
    rcases Nat.lt_or_eq_of_le hi with h3 | h3
    · cases e : lx (srow xs so i) s with
      | false => rfl
      | true => have := lx_trans (h.inc _ _ h3 hl) e; rw [h2] at this; cases this
    · rw [← h3]; exact h2
theorem Srt.below (h : Srt m xs so) {k : Nat} (hk : k < so.length) (e : lx (srow xs so k) s = true) : ∀ i, i < k + 1 → lx (srow xs so i) s = true := fun i hi => by
  by_cases h1 : i = k
  · subst h1; exact e
  · exact lx_trans (h.inc i k (by omega) hk) e
theorem Srt.above (h : Srt m xs so) {k : Nat} (e : lx (srow xs so k) s = false) : ∀ i, k ≤ i → i < so.length → lx (srow xs so i) s = false := fun i h1 h2 => by
  by_cases h3 : i = k
  · subst h3; exact e
  · cases e2 : lx (srow xs so i) s with
    | false => rfl
    | true => have := lx_trans (h.inc k i (by omega) h2) e2; rw [e] at this; cases this
/-- The row is met at its slot, or not at all. -/
theorem Srt.found (h : Srt m xs so) (nd : xs.Nodup) (hs : s.length = m) {a : Nat} (ha : Slot xs so s a) : (a < so.length ∧ srow xs so a = s → so.getD a 0 = sidx xs s) ∧ (¬ (a < so.length ∧ srow xs so a = s) → sidx xs s = -1) := by
  constructor
  · rintro ⟨h1, h2⟩
    have h3 := h.rng a h1
    have hm : s ∈ xs := h2 ▸ h.row h1
    unfold sidx
    rw [if_pos hm]
    unfold srow at h2
    have hlt : (so.getD a 0).toNat < xs.length := by omega
    rw [List.getD_eq_getElem?_getD (l := xs), List.getElem?_eq_getElem hlt, Option.getD_some] at h2
    have := nd.idxOf_getElem _ hlt
    rw [h2] at this
    omega
  · intro hn
    unfold sidx
    rw [if_neg]
    intro hm
    refine hn ?_
    obtain ⟨k, hk, e⟩ := List.getElem_of_mem hm
    obtain ⟨i, hi, ei⟩ := h.sur k hk
    have e1 : srow xs so i = s := by
      unfold srow; rw [ei, Int.toNat_natCast, List.getD_eq_getElem?_getD, List.getElem?_eq_getElem hk]; exact e
    have h1 : a ≤ i := by
      refine Nat.le_of_not_lt fun hl => ?_
      have := ha.lo i hl
      rw [e1, lx_irr] at this; cases this
    have h2 : i ≤ a := by
      refine Nat.le_of_not_lt fun hl => ?_
      have h3 := ha.hi a (Nat.le_refl _) (by omega)
      have h4 := h.inc a i hl hi
      rw [e1, h3] at h4; cases h4
    have : a = i := by omega
    subst this
    exact ⟨hi, e1⟩
def insAt (so : List Int) (a : Nat) (n : Int) : List Int := so.take a ++ n :: so.drop a
theorem insAt_length (so : List Int) (a : Nat) (n : Int) (ha : a ≤ so.length) : (insAt so a n).length = so.length + 1 := by
  simp [insAt]; omega
theorem insAt_get (so : List Int) (a : Nat) (n : Int) (ha : a ≤ so.length) (i : Nat) : (insAt so a n).getD i 0 = if i < a then so.getD i 0 else if i = a then n else so.getD (i - 1) 0 := by
  unfold insAt
  rw [Go.Av.getD_append, List.length_take, Nat.min_eq_left ha]
  split
  · rw [List.getD_eq_getElem?_getD, List.getElem?_take_of_lt ‹_›, ← List.getD_eq_getElem?_getD]
  · split
    · rename_i e; rw [e, Nat.sub_self]; rfl
    · obtain ⟨d, hd⟩ : ∃ d, i - a = d + 1 := ⟨i - a - 1, by omega⟩
      rw [hd]
      simp only [List.getD_eq_getElem?_getD, List.getElem?_cons_succ, List.getElem?_drop]
      rw [show a + d = i - 1 by omega]
theorem srow_snoc (hr : ∀ i, i < so.length → 0 ≤ so.getD i 0 ∧ so.getD i 0 < xs.length) {i : Nat} (hi : i < so.length) : (xs ++ [s]).getD (so.getD i 0).toNat [] = srow xs so i := by
  have := hr i hi
  rw [Go.Av.getD_append, if_pos (by omega)]; rfl
theorem Srt.ins (h : Srt m xs so) (hs : s.length = m) (hn : s ∉ xs) {a : Nat} (ha : Slot xs so s a) : Srt m (xs ++ [s]) (insAt so a (xs.length : Int)) := by
  have hl := insAt_length so a (xs.length : Int) ha.le
  have hg := insAt_get so a (xs.length : Int) ha.le
  have hr : ∀ i, i < so.length + 1 → srow (xs ++ [s]) (insAt so a (xs.length : Int)) i = if i < a then srow xs so i else if i = a then s else srow xs so (i - 1) := by
    intro i hi
    have hal := ha.le
    show (xs ++ [s]).getD ((insAt so a (xs.length : Int)).getD i 0).toNat [] = _
    rw [hg]
    split
    · exact srow_snoc h.rng (by omega)
    · split
      · rw [Int.toNat_natCast, Go.Av.getD_append, if_neg (by omega), Nat.sub_self]; rfl
      · exact srow_snoc h.rng (by omega)
  have hgt : ∀ i, a ≤ i → i < so.length → lx s (srow xs so i) = true := fun i h1 h2 => by
    cases e : lx s (srow xs so i) with
    | true => rfl
    | false =>
      have := lx_tri (hs.trans (h.same _ (h.row h2)).symm) e (ha.hi i h1 h2)
      exact absurd (this ▸ h.row h2) hn
  refine ⟨by rw [hl, h.len]; simp, ?_, ?_, ?_, ?_⟩
  · intro t ht
    rcases List.mem_append.1 ht with h1 | h1
    · exact h.same t h1
    · rw [List.mem_singleton.1 h1]; exact hs
  · intro i hi
    rw [hl] at hi
    rw [hg, List.length_append]
    have hal := ha.le
    have hln := h.len
    simp only [List.length_cons, List.length_nil]
    split
    · have := h.rng i (by omega); omega
    · split
      · omega
      · have := h.rng (i - 1) (by omega); omega
  · intro i j hij hj
    rw [hl] at hj
    have hal := ha.le
    rw [hr i (by omega), hr j hj]
    by_cases h1 : j < a
    · rw [if_pos (by omega), if_pos h1]; exact h.inc i j hij (by omega)
    · rw [if_neg h1]
      by_cases h2 : j = a
      · rw [if_pos h2, if_pos (by omega)]; exact ha.lo i (by omega)
      · rw [if_neg h2]
        by_cases h3 : i < a
        · rw [if_pos h3]; exact h.inc i (j - 1) (by omega) (by omega)
        · rw [if_neg h3]
          by_cases h4 : i = a
          · rw [if_pos h4]; exact hgt (j - 1) (by omega) (by omega)
          · rw [if_neg h4]; exact h.inc (i - 1) (j - 1) (by omega) (by omega)
  · intro k hk
    have hal := ha.le
    rw [List.length_append] at hk
    simp only [List.length_cons, List.length_nil] at hk
    rw [hl]
    by_cases e : k = xs.length
    · subst e
      exact ⟨a, by omega, by rw [hg, if_neg (by omega), if_pos rfl]⟩
    · obtain ⟨i, hi, ei⟩ := h.sur k (by omega)
      by_cases h1 : i < a
      · exact ⟨i, by omega, by rw [hg, if_pos h1]; exact ei⟩
      · exact ⟨i + 1, by omega, by rw [hg, if_neg (by omega), if_neg (by omega)]; exact ei⟩
theorem Srt.one (s0 : List Int) : Srt s0.length [s0] [0] := by
  refine ⟨rfl, by simp, ?_, ?_, ?_⟩
  · intro i hi; simp at hi; subst hi; simp
  · intro i j hij hj; simp at hj; omega
  · intro k hk; simp at hk; subst hk; exact ⟨0, by simp, rfl⟩
end
end Go.Pm
end
/- The whole search: depths, neighbors, how many rows there are; the order of a group. -/
section
namespace Go.Pm
set_option linter.unusedVariables false
set_option linter.unusedSimpArgs false

section
variable {Ls : List (Int × List Int)} {s0 : List Int} {n : Nat}
/-- Depths: they do not fall; beside the state number k they are at most one more; each but the first has a parent. -/
structure Bf.Dp (Ls : List (Int × List Int)) (k : Nat) (B : Bf) : Prop where
  ld : B.dp.length = B.st.length
  z : B.dp.getD 0 0 = 0
  mono : ∀ i j, i ≤ j → j < B.st.length → B.dp.getD i 0 ≤ B.dp.getD j 0
  bd : k < B.st.length → ∀ j, j < B.st.length → B.dp.getD j 0 ≤ B.dp.getD k 0 + 1
  par : ∀ j, 0 < j → j < B.st.length → ∃ q l, q < j ∧ l ∈ Ls ∧ B.st.getD j [] = comp (B.st.getD q []) l.2 ∧ B.dp.getD j 0 = B.dp.getD q 0 + 1
theorem Bf.Dp.meet {k : Nat} {x : Bf × List Int} {l : Int × List Int} (hl : l ∈ Ls) (hk : k < x.1.st.length) (h : Bf.Dp Ls k x.1) : Bf.Dp Ls k (Bf.meet k x l).1 := by
  unfold Bf.meet
  split
  · exact h
  · have hld := h.ld
    have g : ∀ j, j < x.1.st.length → (x.1.dp ++ [x.1.dp.getD k 0 + 1]).getD j 0 = x.1.dp.getD j 0 := fun j hj => by
      rw [Go.Av.getD_append, if_pos (by omega)]
    have g1 : (x.1.dp ++ [x.1.dp.getD k 0 + 1]).getD x.1.st.length 0 = x.1.dp.getD k 0 + 1 := by
      rw [Go.Av.getD_append, if_neg (by omega), hld, Nat.sub_self]; rfl
    have s : ∀ j, j < x.1.st.length → (x.1.st ++ [comp (x.1.st.getD k []) l.2]).getD j [] = x.1.st.getD j [] := fun j hj => by
      rw [Go.Av.getD_append, if_pos (by omega)]
    refine ⟨by simp [hld], ?_, ?_, ?_, ?_⟩
    · rw [g 0 (by omega)]; exact h.z
    · intro i j hij hj
      simp only [List.length_append, List.length_cons, List.length_nil] at hj
      by_cases e : j = x.1.st.length
      · subst e
        rw [g1]
        by_cases e2 : i = x.1.st.length
        · subst e2; rw [g1]; exact Int.le_refl _
        · rw [g i (by omega)]; exact h.bd hk i (by omega)
      · rw [g i (by omega), g j (by omega)]; exact h.mono i j hij (by omega)
    · intro _ j hj
      simp only [List.length_append, List.length_cons, List.length_nil] at hj
      rw [g k hk]
      by_cases e : j = x.1.st.length
      · subst e; rw [g1]; exact Int.le_refl _
      · rw [g j (by omega)]; exact h.bd hk j (by omega)
    · intro j h0 hj
      simp only [List.length_append, List.length_cons, List.length_nil] at hj
      by_cases e : j = x.1.st.length
      · subst e
        refine ⟨k, l, hk, hl, ?_, by rw [g1, g k hk]⟩
        dsimp only
        rw [s k hk, Go.Av.getD_append, if_neg (by omega), Nat.sub_self]; rfl
      · obtain ⟨q, l', h1, h2, h3, h4⟩ := h.par j h0 (by omega)
        refine ⟨q, l', h1, h2, ?_, by rw [g j (by omega), g q (by omega)]; exact h4⟩
        dsimp only
        rw [s j (by omega), s q (by omega)]; exact h3
theorem Bf.Dp.rows {k : Nat} {B : Bf} (hk : k < B.st.length) (h : Bf.Dp Ls k B) : ∀ j, j ≤ Ls.length → Bf.Dp Ls k (B.rows Ls k j).1
  | 0, _ => h
  | j + 1, hj => by
    rw [Bf.rows_succ k B (by omega)]
    exact Bf.Dp.meet (mem_getD_of_lt _ (by omega)) (Nat.lt_of_lt_of_le hk ((Bf.rows_more k B j (by omega)).st.length_le)) (Bf.Dp.rows hk h j (by omega))
theorem Bf.Dp.next {k : Nat} {B : Bf} (hk : k < B.st.length) (h : Bf.Dp Ls k B) : Bf.Dp Ls (k + 1) (B.step Ls k) := by
  have h1 := Bf.Dp.rows hk h Ls.length (Nat.le_refl _)
  have h2 := (Bf.rows_more (Ls := Ls) k B Ls.length (Nat.le_refl _)).st.length_le
  refine ⟨h1.ld, h1.z, h1.mono, fun hk1 j hj => ?_, h1.par⟩
  have h3 := h1.bd (by omega) j hj
  have h4 := h1.mono k (k + 1) (by omega) hk1
  show (B.rows Ls k Ls.length).1.dp.getD j 0 ≤ (B.rows Ls k Ls.length).1.dp.getD (k + 1) 0 + 1
  omega
theorem Bf.Dp.run : ∀ k, (∀ j, j < k → j < (Bf.run Ls s0 j).st.length) → Bf.Dp Ls k (Bf.run Ls s0 k)
  | 0, _ => by
    refine ⟨rfl, rfl, ?_, ?_, ?_⟩
    · intro i j hij hj; simp [Bf.run] at hj; subst hj; obtain rfl : i = 0 := by omega
      exact Int.le_refl _
    · intro _ j hj; simp [Bf.run] at hj; subst hj; simp [Bf.run]
    · intro j h0 hj; simp [Bf.run] at hj; omega
  | k + 1, h => Bf.Dp.next (h k (by omega)) (Bf.Dp.run k fun j hj => h j (by omega))
theorem Bf.rows_yes {k i : Nat} {B : Bf} (hi : i < Ls.length) (hy : comp ((B.rows Ls k i).1.st.getD k []) (Ls.getD i (0, [])).2 ∈ (B.rows Ls k i).1.st) : (B.rows Ls k (i + 1)).1.st = (B.rows Ls k i).1.st ∧ (B.rows Ls k (i + 1)).1.dp = (B.rows Ls k i).1.dp ∧ (B.rows Ls k (i + 1)).2 = (B.rows Ls k i).2 ++ [(((B.rows Ls k i).1.st.idxOf (comp ((B.rows Ls k i).1.st.getD k []) (Ls.getD i (0, [])).2) : Nat) : Int)] := by
  rw [Bf.rows_succ k B hi]
  unfold Bf.meet
  rw [if_pos hy]
  exact ⟨rfl, rfl, rfl⟩
theorem Bf.rows_no {k i : Nat} {B : Bf} (hi : i < Ls.length) (hy : comp ((B.rows Ls k i).1.st.getD k []) (Ls.getD i (0, [])).2 ∉ (B.rows Ls k i).1.st) : (B.rows Ls k (i + 1)).1.st = (B.rows Ls k i).1.st ++ [comp ((B.rows Ls k i).1.st.getD k []) (Ls.getD i (0, [])).2] ∧ (B.rows Ls k (i + 1)).1.dp = (B.rows Ls k i).1.dp ++ [(B.rows Ls k i).1.dp.getD k 0 + 1] ∧ (B.rows Ls k (i + 1)).2 = (B.rows Ls k i).2 ++ [((B.rows Ls k i).1.st.length : Int)] := by
  rw [Bf.rows_succ k B hi]
  unfold Bf.meet
  rw [if_neg hy]
  exact ⟨rfl, rfl, rfl⟩
/-- What the whole search gives. -/
structure Bf.Whole (n : Nat) (Ls : List (Int × List Int)) (s0 : List Int) (B : Bf) : Prop where
  nd : B.st.Nodup
  pos : 0 < B.st.length
  st0 : B.st.getD 0 [] = s0
  len : ∀ s ∈ B.st, s.length = s0.length
  rng : ∀ s ∈ B.st, ∀ j, j < s.length → 0 ≤ s.getD j 0 ∧ s.getD j 0 < n
  ld : B.dp.length = B.st.length
  z : B.dp.getD 0 0 = 0
  mono : ∀ i j, i ≤ j → j < B.st.length → B.dp.getD i 0 ≤ B.dp.getD j 0
  par : ∀ j, 0 < j → j < B.st.length → ∃ q l, q < j ∧ l ∈ Ls ∧ B.st.getD j [] = comp (B.st.getD q []) l.2 ∧ B.dp.getD j 0 = B.dp.getD q 0 + 1
  cl : ∀ s ∈ B.st, ∀ l ∈ Ls, comp s l.2 ∈ B.st
  up : ∀ k, k < B.st.length → ∀ l ∈ Ls, B.dp.getD (B.st.idxOf (comp (B.st.getD k []) l.2)) 0 ≤ B.dp.getD k 0 + 1
  nl : B.nx.length = B.st.length
  nx : ∀ k, k < B.st.length → (B.nx.getD k []).length = Ls.length ∧ ∀ i, i < Ls.length → (B.nx.getD k []).getD i 0 = ((B.st.idxOf (comp (B.st.getD k []) (Ls.getD i (0, [])).2) : Nat) : Int)
theorem Bf.nx_len : ∀ k, (∀ j, j < k → j < (Bf.run Ls s0 j).st.length) → (Bf.run Ls s0 k).nx.length = k
  | 0, _ => rfl
  | k + 1, h => by
    have ih := Bf.nx_len k fun j hj => h j (by omega)
    show ((Bf.run Ls s0 k).nx ++ [_]).length = k + 1
    rw [List.length_append, ih]; rfl
theorem Bf.nx_get : ∀ k i, i < k → (∀ j, j < k → j < (Bf.run Ls s0 j).st.length) → (Bf.run Ls s0 k).nx.getD i [] = ((Bf.run Ls s0 i).rows Ls i Ls.length).2
  | 0, i, hi, _ => by omega
  | k + 1, i, hi, h => by
    have hl := Bf.nx_len k fun j hj => h j (by omega)
    show ((Bf.run Ls s0 k).nx ++ [((Bf.run Ls s0 k).rows Ls k Ls.length).2]).getD i [] = _
    rw [Go.Av.getD_append]
    split
    · exact Bf.nx_get k i (by omega) fun j hj => h j (by omega)
    · rw [show i = k by omega, hl, Nat.sub_self]; rfl
theorem Bf.Done.whole (hG : ∀ g ∈ Ls.map (·.2), Pm n g) (hs : ∀ j, j < s0.length → 0 ≤ s0.getD j 0 ∧ s0.getD j 0 < n) {K : Nat} (h : Bf.Done Ls s0 K) : Bf.Whole n Ls s0 (Bf.run Ls s0 K) := by
  have hJ := Bf.J.run hG hs K h.2
  have hD := Bf.Dp.run (Ls := Ls) (s0 := s0) K h.2
  have hlen : ∀ s ∈ (Bf.run Ls s0 K).st, s.length = s0.length := fun s hm => by
    obtain ⟨g, hg, rfl⟩ := hJ.gen s hm
    exact comp_length _ _
  have hrow : ∀ k, k < K → ∀ i, i < Ls.length → comp ((Bf.run Ls s0 K).st.getD k []) (Ls.getD i (0, [])).2 ∈ (Bf.run Ls s0 (k + 1)).st ∧
      ((Bf.run Ls s0 k).rows Ls k Ls.length).2.getD i 0 = (((Bf.run Ls s0 K).st.idxOf (comp ((Bf.run Ls s0 K).st.getD k []) (Ls.getD i (0, [])).2) : Nat) : Int) := fun k hk i hi => by
    have hk1 := h.2 k hk
    obtain ⟨h1, h2⟩ := Bf.rows_row (Ls := Ls) hk1 Ls.length (Nat.le_refl _) i hi
    have e0 : (Bf.run Ls s0 K).st.getD k [] = (Bf.run Ls s0 k).st.getD k [] := pre_getD (Bf.run_more (show k ≤ K by omega)).st hk1 []
    rw [e0]
    refine ⟨h1, h2.trans ?_⟩
    have hm := (Bf.run_more (Ls := Ls) (s0 := s0) (show k + 1 ≤ K by omega)).st
    obtain ⟨r, hr⟩ := hm
    have h1' : comp ((Bf.run Ls s0 k).st.getD k []) (Ls.getD i (0, [])).2 ∈ (Bf.run Ls s0 (k + 1)).st := h1
    rw [← hr, List.idxOf_append, if_pos h1']; rfl
  have hKl := h.1
  refine ⟨hJ.nd, hJ.ne.2, hJ.ne.1, hlen, ?_, hD.ld, hD.z, hD.mono, hD.par, fun s hm l hl => h.closed hm hl, ?_, ?_, ?_⟩
  · intro s hm j hj
    obtain ⟨g, hg, rfl⟩ := hJ.gen s hm
    have hgp := hg.pm hG
    rw [comp_length] at hj
    rw [comp_get _ _ hj]
    have := hs j hj
    exact hgp.2.1 _ (by unfold img; omega)
  · intro k hk l hl
    obtain ⟨i, hi, rfl⟩ := List.getElem_of_mem hl
    have hkK : k < K := by omega
    obtain ⟨h1, h2⟩ := hrow k hkK i hi
    have eL : (Ls.getD i (0, [])) = Ls[i] := by rw [List.getD_eq_getElem?_getD, List.getElem?_eq_getElem hi]; rfl
    rw [eL] at h1
    have hD1 := Bf.Dp.run (Ls := Ls) (s0 := s0) k fun j hj => h.2 j (by omega)
    have hD2 := Bf.Dp.rows (Ls := Ls) (h.2 k hkK) hD1 Ls.length (Nat.le_refl _)
    have hl2 := (Bf.rows_more (Ls := Ls) k (Bf.run Ls s0 k) Ls.length (Nat.le_refl _)).st.length_le
    have hk1 := h.2 k hkK
    have hm := (Bf.run_more (Ls := Ls) (s0 := s0) (show k + 1 ≤ K by omega))
    obtain ⟨r, hr⟩ := hm.st
    have hx : (Bf.run Ls s0 K).st.idxOf (comp ((Bf.run Ls s0 K).st.getD k []) Ls[i].2) = (Bf.run Ls s0 (k + 1)).st.idxOf (comp ((Bf.run Ls s0 K).st.getD k []) Ls[i].2) := by
      rw [← hr] at h1 ⊢
      rw [List.idxOf_append, if_pos h1]
    have hlt : (Bf.run Ls s0 (k + 1)).st.idxOf (comp ((Bf.run Ls s0 K).st.getD k []) Ls[i].2) < (Bf.run Ls s0 (k + 1)).st.length := List.idxOf_lt_length_iff.2 h1
    rw [hx, pre_getD hm.dp (by show _ < ((Bf.run Ls s0 k).rows Ls k Ls.length).1.dp.length; rw [hD2.ld]; exact hlt) 0, pre_getD hm.dp (by show _ < ((Bf.run Ls s0 k).rows Ls k Ls.length).1.dp.length; rw [hD2.ld]; omega) 0]
    exact hD2.bd (by omega) _ hlt
  · rw [Bf.nx_len K h.2]; exact hKl
  · intro k hk
    rw [Bf.nx_get K k (by omega) h.2]
    exact ⟨Bf.rows_len k _ Ls.length (Nat.le_refl _), fun i hi => (hrow k (by omega) i hi).2⟩

/-- The search, if it ends with at most 3000 rows. -/
def Bf.Fin (Ls : List (Int × List Int)) (s0 : List Int) (B : Bf) : Prop := ∃ K, Bf.Done Ls s0 K ∧ K ≤ 3000 ∧ B = Bf.run Ls s0 K
theorem Bf.Fin.uniq {B B' : Bf} (h : Bf.Fin Ls s0 B) (h' : Bf.Fin Ls s0 B') : B = B' := by
  obtain ⟨K, h1, _, rfl⟩ := h
  obtain ⟨K', h2, _, rfl⟩ := h'
  rw [h1.uniq h2]
noncomputable def srch (Ls : List (Int × List Int)) (s0 : List Int) : Option Bf := @dite _ (∃ B, Bf.Fin Ls s0 B) (Classical.propDecidable _) (fun h => some h.choose) (fun _ => none)
theorem srch_some {B : Bf} (h : Bf.Fin Ls s0 B) : srch Ls s0 = some B := by
  have h' : ∃ B, Bf.Fin Ls s0 B := ⟨B, h⟩
  unfold srch
  rw [dif_pos h', h'.choose_spec.uniq h]
theorem srch_none (h : ∀ K, Bf.Done Ls s0 K → 3000 < K) : srch Ls s0 = none := by
  unfold srch
  rw [dif_neg]
  rintro ⟨B, K, h1, h2, _⟩
  have := h K h1; omega
theorem srch_fin {B : Bf} (h : srch Ls s0 = some B) : Bf.Fin Ls s0 B := by
  unfold srch at h
  split at h
  · rename_i h'
    simp only [Option.some.injEq] at h
    subst h
    exact h'.choose_spec
  · cases h
/-- The search is cut: there are more rows. -/
theorem Bf.cut {k i : Nat} (h : ∀ j, j ≤ k → j < (Bf.run Ls s0 j).st.length) (hi : i < Ls.length) (hn : comp (((Bf.run Ls s0 k).rows Ls k i).1.st.getD k []) (Ls.getD i (0, [])).2 ∉ ((Bf.run Ls s0 k).rows Ls k i).1.st) (h3 : 3000 ≤ ((Bf.run Ls s0 k).rows Ls k i).1.st.length) : srch Ls s0 = none := by
  refine srch_none fun K hK => ?_
  have hkK : k < K := by
    refine Nat.lt_of_not_le fun hle => ?_
    have := h K hle
    have := hK.1
    omega
  have h1 : ((Bf.run Ls s0 k).rows Ls k (i + 1)).1.st.length = ((Bf.run Ls s0 k).rows Ls k i).1.st.length + 1 := by
    rw [Bf.rows_succ k _ hi]
    unfold Bf.meet
    rw [if_neg hn]; simp
  have h2 : ∀ a b, a ≤ b → b ≤ Ls.length → ((Bf.run Ls s0 k).rows Ls k a).1.st.length ≤ ((Bf.run Ls s0 k).rows Ls k b).1.st.length := by
    intro a b hab
    induction b with
    | zero => intro _; rw [show a = 0 by omega]; exact Nat.le_refl _
    | succ b ih =>
      intro hb
      by_cases e : a = b + 1
      · rw [e]; exact Nat.le_refl _
      · have := ih (by omega) (by omega)
        rw [Bf.rows_succ k _ (by omega)]
        exact Nat.le_trans this (Bf.meet_more _ _ _).st.length_le
  have h4 := h2 (i + 1) Ls.length (by omega) (Nat.le_refl _)
  have h5 := (Bf.run_more (Ls := Ls) (s0 := s0) (show k + 1 ≤ K by omega)).st.length_le
  have h6 : (Bf.run Ls s0 (k + 1)).st.length = ((Bf.run Ls s0 k).rows Ls k Ls.length).1.st.length := rfl
  have := hK.1
  omega
theorem Bf.rows_mono {k a b : Nat} {B : Bf} (hab : a ≤ b) (hb : b ≤ Ls.length) : (B.rows Ls k a).1.st <+: (B.rows Ls k b).1.st := by
  induction b with
  | zero => rw [show a = 0 by omega]; exact List.prefix_refl _
  | succ b ih =>
    by_cases e : a = b + 1
    · rw [e]; exact List.prefix_refl _
    · refine (ih (by omega) (by omega)).trans ?_
      rw [Bf.rows_succ k _ (by omega)]
      exact (Bf.meet_more _ _ _).st
/-- Where the search is cut. -/
def Bf.CutAt (Ls : List (Int × List Int)) (s0 : List Int) (k i : Nat) : Prop := (∀ j, j ≤ k → j < (Bf.run Ls s0 j).st.length) ∧ i < Ls.length ∧ comp (((Bf.run Ls s0 k).rows Ls k i).1.st.getD k []) (Ls.getD i (0, [])).2 ∉ ((Bf.run Ls s0 k).rows Ls k i).1.st ∧ ((Bf.run Ls s0 k).rows Ls k i).1.st.length = 3000
theorem Bf.CutAt.more {k i k' i' : Nat} (h : Bf.CutAt Ls s0 k i) (hi : i' ≤ Ls.length) (hl : k < k' ∨ (k = k' ∧ i < i')) : 3000 < ((Bf.run Ls s0 k').rows Ls k' i').1.st.length := by
  obtain ⟨h1, h2, h3, h4⟩ := h
  have e : ((Bf.run Ls s0 k).rows Ls k (i + 1)).1.st.length = 3001 := by
    rw [Bf.rows_succ k _ h2]
    unfold Bf.meet
    rw [if_neg h3]; simp [h4]
  rcases hl with hl | ⟨rfl, hl⟩
  · have a1 := (Bf.rows_mono (Ls := Ls) (k := k) (B := Bf.run Ls s0 k) (show i + 1 ≤ Ls.length by omega) (Nat.le_refl _)).length_le
    have a2 : (Bf.run Ls s0 (k + 1)).st.length = ((Bf.run Ls s0 k).rows Ls k Ls.length).1.st.length := rfl
    have a3 := (Bf.run_more (Ls := Ls) (s0 := s0) (show k + 1 ≤ k' by omega)).st.length_le
    have a4 := (Bf.rows_mono (Ls := Ls) (k := k') (B := Bf.run Ls s0 k') (Nat.zero_le i') hi).length_le
    have a5 : ((Bf.run Ls s0 k').rows Ls k' 0).1.st.length = (Bf.run Ls s0 k').st.length := rfl
    omega
  · have a1 := (Bf.rows_mono (Ls := Ls) (k := k) (B := Bf.run Ls s0 k) (show i + 1 ≤ i' by omega) hi).length_le
    omega
theorem Bf.CutAt.uniq {k i k' i' : Nat} (h : Bf.CutAt Ls s0 k i) (h' : Bf.CutAt Ls s0 k' i') : k = k' ∧ i = i' := by
  rcases Nat.lt_trichotomy k k' with h1 | h1 | h1
  · have := h.more (i' := i') (Nat.le_of_lt h'.2.1) (.inl h1); have := h'.2.2.2; omega
  · refine ⟨h1, ?_⟩
    rcases Nat.lt_trichotomy i i' with h2 | h2 | h2
    · have := h.more (i' := i') (Nat.le_of_lt h'.2.1) (.inr ⟨h1, h2⟩); have := h'.2.2.2; omega
    · exact h2
    · have := h'.more (i' := i) (Nat.le_of_lt h.2.1) (.inr ⟨h1.symm, h2⟩); have := h.2.2.2; omega
  · have := h'.more (i' := i) (Nat.le_of_lt h.2.1) (.inl h1); have := h.2.2.2; omega
noncomputable def cutB (Ls : List (Int × List Int)) (s0 : List Int) : Bf := @dite _ (∃ X : Bf, ∃ k i, Bf.CutAt Ls s0 k i ∧ X = ((Bf.run Ls s0 k).rows Ls k i).1) (Classical.propDecidable _) (fun h => h.choose) (fun _ => ⟨[], [], [], [], []⟩)
theorem cutB_eq {k i : Nat} (h : Bf.CutAt Ls s0 k i) : cutB Ls s0 = ((Bf.run Ls s0 k).rows Ls k i).1 := by
  have h' : ∃ X : Bf, ∃ k i, Bf.CutAt Ls s0 k i ∧ X = ((Bf.run Ls s0 k).rows Ls k i).1 := ⟨_, k, i, h, rfl⟩
  unfold cutB
  rw [dif_pos h']
  obtain ⟨k', i', h1, e⟩ := h'.choose_spec
  obtain ⟨rfl, rfl⟩ := h1.uniq h
  exact e
theorem cutB_basic (hG : ∀ g ∈ Ls.map (·.2), Pm n g) (hs : ∀ j, j < s0.length → 0 ≤ s0.getD j 0 ∧ s0.getD j 0 < n) : (cutB Ls s0).st.length ≤ 3000 ∧ (cutB Ls s0).dp.length = (cutB Ls s0).st.length := by
  by_cases h : ∃ X : Bf, ∃ k i, Bf.CutAt Ls s0 k i ∧ X = ((Bf.run Ls s0 k).rows Ls k i).1
  · obtain ⟨X, k, i, hc, _⟩ := h
    rw [cutB_eq hc]
    obtain ⟨h1, h2, h3, h4⟩ := hc
    have hJ := Bf.J.run hG hs k fun j hj => h1 j (by omega)
    have hJ2 := Bf.J.rows (fun j hj => by have := hs j hj; unfold img; omega) hG (h1 k (Nat.le_refl _)) hJ i (Nat.le_of_lt h2)
    exact ⟨by omega, hJ2.ld⟩
  · unfold cutB
    rw [dif_neg h]
    exact ⟨by simp, rfl⟩
end

section
variable {Ls : List (Int × List Int)} {s0 : List Int} {n : Nat}
theorem Bf.Dp.le {k : Nat} {B : Bf} (h : Bf.Dp Ls k B) : ∀ j, j < B.st.length → 0 ≤ B.dp.getD j 0 ∧ B.dp.getD j 0 ≤ j := by
  intro j
  induction j using Nat.strongRecOn with
  | _ j ih =>
    intro hj
    by_cases e : j = 0
    · subst e; rw [h.z]; omega
    · obtain ⟨q, l, h1, _, _, h4⟩ := h.par j (by omega) hj
      have := ih q h1 (by omega)
      omega
theorem Bf.Whole.le {B : Bf} (h : Bf.Whole n Ls s0 B) : ∀ j, j < B.st.length → 0 ≤ B.dp.getD j 0 ∧ B.dp.getD j 0 ≤ j := by
  intro j
  induction j using Nat.strongRecOn with
  | _ j ih =>
    intro hj
    by_cases e : j = 0
    · subst e; rw [h.z]; omega
    · obtain ⟨q, l, h1, _, _, h4⟩ := h.par j (by omega) hj
      have := ih q h1 (by omega)
      omega
/-- The sorted indices of rows. -/
def srtN (xs : List (List Int)) : Nat → List Int
  | 0 => []
  | k + 1 => insAt (srtN xs k) (slot (xs.take k) (srtN xs k) (xs.getD k [])) k
def sorts (xs : List (List Int)) : List Int := srtN xs xs.length
theorem srtN_app (xs ys : List (List Int)) : ∀ k, k ≤ xs.length → srtN (xs ++ ys) k = srtN xs k
  | 0, _ => rfl
  | k + 1, h => by
    unfold srtN
    rw [srtN_app xs ys k (by omega), List.take_append_of_le_length (by omega), Go.Av.getD_append, if_pos (by omega)]
theorem sorts_snoc (xs : List (List Int)) (s : List Int) : sorts (xs ++ [s]) = insAt (sorts xs) (slot xs (sorts xs) s) xs.length := by
  unfold sorts
  rw [List.length_append]
  have e : srtN (xs ++ [s]) (xs.length + 1) = insAt (srtN (xs ++ [s]) xs.length) (slot ((xs ++ [s]).take xs.length) (srtN (xs ++ [s]) xs.length) ((xs ++ [s]).getD xs.length [])) xs.length := rfl
  rw [show [s].length = 1 from rfl, e, srtN_app xs [s] _ (Nat.le_refl _), Go.Av.getD_append, if_neg (by omega), Nat.sub_self, List.take_append_of_le_length (Nat.le_refl _), List.take_length]
  rfl
theorem sorts_srt {m : Nat} : ∀ (xs : List (List Int)), xs.Nodup → (∀ s ∈ xs, s.length = m) → Srt m xs (sorts xs) := by
  have key : ∀ (k : Nat) (xs : List (List Int)), xs.length = k → xs.Nodup → (∀ s ∈ xs, s.length = m) → Srt m xs (sorts xs) := by
    intro k
    induction k with
    | zero =>
      intro xs hl _ _
      obtain rfl : xs = [] := List.eq_nil_of_length_eq_zero hl
      exact ⟨rfl, by simp, fun i hi => absurd hi (Nat.not_lt_zero _), fun i j _ hj => absurd hj (Nat.not_lt_zero _), fun k hk => absurd hk (Nat.not_lt_zero _)⟩
    | succ k ih =>
      intro xs hl nd hs
      have hne : xs ≠ [] := by intro e; rw [e] at hl; simp at hl
      obtain ⟨ys, y, rfl⟩ : ∃ ys y, xs = ys ++ [y] := ⟨xs.dropLast, xs.getLast hne, (List.dropLast_concat_getLast hne).symm⟩
      rw [List.length_append] at hl
      simp only [List.length_cons, List.length_nil] at hl
      have nd' := List.nodup_append.1 nd
      have h1 := ih ys (by omega) nd'.1 (fun s h => hs s (List.mem_append_left _ h))
      rw [sorts_snoc]
      refine h1.ins (hs y (by simp)) (fun h => ?_) (h1.slot y)
      exact nd'.2.2 y h y (by simp) rfl
  exact fun xs => key xs.length xs rfl
/-- What holds while the search goes on. -/
theorem Bf.mid (hG : ∀ g ∈ Ls.map (·.2), Pm n g) (hs : ∀ j, j < s0.length → 0 ≤ s0.getD j 0 ∧ s0.getD j 0 < n) {k : Nat} (h : ∀ j, j ≤ k → j < (Bf.run Ls s0 j).st.length) {i : Nat} (hi : i ≤ Ls.length) :
    Bf.J n Ls s0 ((Bf.run Ls s0 k).rows Ls k i).1 ∧ Bf.Dp Ls k ((Bf.run Ls s0 k).rows Ls k i).1 ∧ k < ((Bf.run Ls s0 k).rows Ls k i).1.st.length ∧ (∀ s ∈ ((Bf.run Ls s0 k).rows Ls k i).1.st, s.length = s0.length ∧ ∀ j, j < s.length → 0 ≤ s.getD j 0 ∧ s.getD j 0 < n) := by
  have h1 := Bf.J.run hG hs k fun j hj => h j (by omega)
  have h2 := Bf.J.rows (fun j hj => by have := hs j hj; unfold img; omega) hG (h k (Nat.le_refl _)) h1 i hi
  have h3 := Bf.Dp.rows (Ls := Ls) (h k (Nat.le_refl _)) (Bf.Dp.run (Ls := Ls) (s0 := s0) k fun j hj => h j (by omega)) i hi
  refine ⟨h2, h3, Nat.lt_of_lt_of_le (h k (Nat.le_refl _)) (Bf.rows_more (Ls := Ls) k (Bf.run Ls s0 k) i hi).st.length_le, fun s hm => ?_⟩
  obtain ⟨g, hg, rfl⟩ := h2.gen s hm
  refine ⟨comp_length _ _, fun j hj => ?_⟩
  rw [comp_length] at hj
  rw [comp_get _ _ hj]
  have := hs j hj
  exact (hg.pm hG).2.1 _ (by unfold img; omega)
end
end Go.Pm
end
/- Which neighbors of a row lie nearer: shortest words, and how many there are. -/
section
namespace Go.Pm
set_option linter.unusedVariables false
set_option linter.unusedSimpArgs false
section
variable {Ls : List (Int × List Int)} {s0 : List Int} {n : Nat}
/-- Letters have inverse letters. -/
def InvL (n : Nat) (Ls : List (Int × List Int)) : Prop := ∀ l ∈ Ls, ∃ l' ∈ Ls, comp l.2 l'.2 = idn n
theorem Bf.Whole.idx {B : Bf} (h : Bf.Whole n Ls s0 B) {k : Nat} (hk : k < B.st.length) : B.st.idxOf (B.st.getD k []) = k := by
  rw [List.getD_eq_getElem?_getD, List.getElem?_eq_getElem hk]
  exact h.nd.idxOf_getElem k hk
theorem getD_idx {xs : List (List Int)} {s : List Int} (h : s ∈ xs) : xs.getD (xs.idxOf s) [] = s := by
  have := List.idxOf_lt_length_iff.2 h
  rw [List.getD_eq_getElem?_getD, List.getElem?_eq_getElem this]
  exact List.getElem_idxOf this
theorem comp_idn {s : List Int} (hs : ∀ j, j < s.length → 0 ≤ s.getD j 0 ∧ s.getD j 0 < n) : comp s (idn n) = s := by
  refine ext (comp_length _ _) fun j hj => ?_
  rw [comp_length] at hj
  have := hs j hj
  rw [comp_get _ _ hj]
  show (idn n).getD _ 0 = _
  rw [idn_get (by unfold img; omega)]
  unfold img; omega
theorem Bf.Whole.back {B : Bf} (h : Bf.Whole n Ls s0 B) (hG : ∀ g ∈ Ls.map (·.2), Pm n g) {s : List Int} (hs : s ∈ B.st) {l l' : Int × List Int} (hl : l ∈ Ls) (e : comp l.2 l'.2 = idn n) : comp (comp s l.2) l'.2 = s := by
  have hr := h.rng s hs
  rw [comp_assoc (n := n) (fun j hj => by have := hr j hj; unfold img; omega) (hG _ (List.mem_map_of_mem hl)), e]
  exact comp_idn hr
/-- A neighbor is at most one nearer. -/
theorem Bf.Whole.low {B : Bf} (h : Bf.Whole n Ls s0 B) (hG : ∀ g ∈ Ls.map (·.2), Pm n g) (hI : InvL n Ls) {k : Nat} (hk : k < B.st.length) {l : Int × List Int} (hl : l ∈ Ls) : B.dp.getD k 0 ≤ B.dp.getD (B.st.idxOf (comp (B.st.getD k []) l.2)) 0 + 1 := by
  have hm := mem_getD hk
  obtain ⟨l', hl', e⟩ := hI l hl
  have ht := h.cl _ hm l hl
  have h1 := h.up _ (List.idxOf_lt_length_iff.2 ht) l' hl'
  rw [getD_idx ht, h.back hG hm hl e, h.idx hk] at h1
  exact h1
end
end Go.Pm
end

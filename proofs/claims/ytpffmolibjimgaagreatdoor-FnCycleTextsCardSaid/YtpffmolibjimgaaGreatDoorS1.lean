import Derived.Calls
import Derived.Laws.AppendOwn
import Derived.Laws.MakeOwn
import Derived.Laws.CopyRow
import Derived.Laws.Tables
import Derived.Laws.Rows
import Derived.Deep.Quiet
import Derived.OrdersIn
import Derived.TacticsIn
import Derived.RangeFuncLeaves
import Derived.RangeFuncRecord
import Derived.Laws.Entries
import Derived.Laws.Wrap64
import Derived.Laws.BitsLemmas
import Derived.Laws.Slices
import Derived.Laws.IdiomStrings
import Derived.Laws.BytesString
import Derived.MapKept
import Derived.Lib.AppendZerosOnto
import Derived.RangeFuncOwn
/- Abstract values for the walk: what a slot or a cell is good for, without addresses or worlds; and the relation of such a frame with the machine's own. -/
section
namespace Go.Av

/-- What a value is good for. `v`: just this value. `list`: a slice that is only read. `own`: a slice over a block that the walk owns, by the block's name. `ref`: a pointer into such a block. `ptr`: a pointer to cells that are only read. -/
inductive AV where
  | v (x : Value)
  | list (nn : Bool) (sz n : Nat) (f : Nat → AV)
  | own (h off sz n : Nat)
  | ref (h off : Nat)
  | ptr (n : Nat) (f : Nat → AV)
  | agg (n : Nat) (f : Nat → AV)
  | tup (n : Nat) (f : Nat → AV)
  | clo (fn : FuncId) (n : Nat) (f : Nat → AV)
  | map (h : Nat)
  | dead

inductive Blk where
  | cells (n : Nat) (f : Nat → AV)
  | mp (kv : List (Value × AV))

abbrev Loc := Nat → Option (Nat × Nat)
abbrev Hp := Nat → Option Blk

/-- A block of cells none of which is frozen. -/
def RowAt (w : World) (b : Nat) (cs : Array Value) (e : TypeId) : Prop := ∃ fz : Nat × Nat, w.heap[b]? = some (.cells cs e fz) ∧ (fz = (0, 0) ∨ cs.size ≤ fz.1)
theorem RowAt.of {w : World} {b : Nat} {cs : Array Value} {e : TypeId} (h : w.heap[b]? = some (.cells cs e (0, 0))) : RowAt w b cs e := ⟨_, h, .inl rfl⟩

def Rd (w : World) (ok : Nat → Prop) : Loc → AV → Value → Prop
  | _, .v x, u => u = x
  | _, .list nn sz n f, u => ∃ a cap, u = .slice a n cap ∧ n ≤ cap ∧ (nn = true → a ≠ none) ∧ (a = none → n = 0 ∧ cap = 0) ∧
      ∀ p, a = some p → ∀ i, i < n * sz → p.spot = none ∧ ok p.block ∧ ∃ c, w.cell? ⟨p.block, p.off + i, none⟩ = some c ∧ ∀ L', Rd w ok L' (f i) c
  | L, .own h off sz n, u =>
      match L h with
      | none => u = .slice none 0 0 ∧ n = 0
      | some (b, s) => ∃ a cap, u = .slice (some a) n cap ∧ n ≤ cap ∧ cap ≤ maxLen ∧ a.block = b ∧ a.spot = none ∧ (0 < cap → a.off = s + off) ∧
          ∃ cs e, RowAt w b cs e ∧ s + off + cap * sz ≤ cs.size
  | L, .ref h off, u => ∃ b s, L h = some (b, s) ∧ u = .pointer (some ⟨b, s + off, none⟩)
  | _, .ptr n f, u => ∃ p, u = .pointer (some p) ∧ p.spot = none ∧ ∀ i, i < n → ok p.block ∧ ∃ c, w.cell? ⟨p.block, p.off + i, none⟩ = some c ∧ ∀ L', Rd w ok L' (f i) c
  | L, .agg n f, u => ∃ cs, u = .agg cs ∧ cs.size = n ∧ ∀ i, i < n → ∃ c, cs[i]? = some c ∧ Rd w ok L (f i) c
  | L, .tup n f, u => ∃ cs, u = .tuple cs ∧ cs.size = n ∧ ∀ i, i < n → ∃ c, cs[i]? = some c ∧ Rd w ok L (f i) c
  | L, .clo fn n f, u => ∃ cs, u = .func (.func fn) #[] cs ∧ cs.size = n ∧ ∀ i, i < n → ∃ c, cs[i]? = some c ∧ Rd w ok L (f i) c
  | L, .map h, u => ∃ b s, L h = some (b, s) ∧ u = .map (some b)
  | _, .dead, _ => True

def AV.scrub (p : Nat → Bool) : AV → AV
  | .own h off sz n => if p h then .dead else .own h off sz n
  | .ref h off => if p h then .dead else .ref h off
  | .map h => if p h then .dead else .map h
  | .agg n f => .agg n fun i => (f i).scrub p
  | .tup n f => .tup n fun i => (f i).scrub p
  | .clo g n f => .clo g n fun i => (f i).scrub p
  | a => a

def Blk.scrub (p : Nat → Bool) : Blk → Blk
  | .cells n f => .cells n fun i => (f i).scrub p
  | .mp kv => .mp (kv.map fun x => (x.1, x.2.scrub p))

theorem AV.scrub_none (a : AV) : a.scrub (fun _ => false) = a := by
  induction a <;> simp_all [AV.scrub]

/-- The shapes of the blocks of cells stay. -/
def Shape (w w' : World) : Prop := ∀ (b : Nat) (cs : Array Value) (e : TypeId) (fz : Nat × Nat), w.heap[b]? = some (.cells cs e fz) → ∃ cs', w'.heap[b]? = some (.cells cs' e fz) ∧ cs'.size = cs.size

theorem Shape.refl (w : World) : Shape w w := fun _ cs _ _ h => ⟨cs, h, rfl⟩
theorem Shape.trans {a b c : World} (h : Shape a b) (k : Shape b c) : Shape a c := fun i cs e fz hi =>
  let ⟨cs', h1, h2⟩ := h i cs e fz hi
  let ⟨cs'', h3, h4⟩ := k i cs' e fz h1
  ⟨cs'', h3, h4.trans h2⟩

/-- A block of cells. -/
def CellB (w : World) (b : Nat) : Prop := ∃ cs e fz, w.heap[b]? = some (.cells cs e fz)
theorem CellB.of {w : World} {b o : Nat} {c : Value} (h : w.cell? ⟨b, o, none⟩ = some c) : CellB w b := by
  unfold World.cell? at h
  split at h
  · rename_i cs e fz hb; exact ⟨cs, e, fz, hb⟩
  · cases h
theorem CellB.lt {w : World} {b : Nat} : CellB w b → b < w.heap.size := fun ⟨_, _, _, h⟩ => (Array.getElem?_eq_some_iff.1 h).1
theorem Rd.stepC {w w' : World} {ok ok' : Nat → Prop} (hok : ∀ b, CellB w b → ok b → ok' b ∧ w'.heap[b]? = w.heap[b]?) (hs : Shape w w') :
    ∀ {p : Nat → Bool} (a : AV) (L L' : Loc) (u : Value), (∀ h, p h = false → L' h = L h) → Rd w ok L a u → Rd w' ok' L' (a.scrub p) u := by
  have cell : ∀ (b o : Nat) (c : Value), ok b → w.cell? ⟨b, o, none⟩ = some c → ok' b ∧ w'.cell? ⟨b, o, none⟩ = some c := by
    intro b o c hb hc
    obtain ⟨h1, h2⟩ := hok b (.of hc) hb
    exact ⟨h1, by rw [World.cell?_of_block (w := w) (a := ⟨b, o, none⟩) h2]; exact hc⟩
  intro p a
  induction a generalizing p with
  | v x => intro L L' u _ h; exact h
  | list nn sz n f ih =>
    rintro L L' u _ ⟨a, cap, hu, h1, h2, h3, h4⟩
    refine ⟨a, cap, hu, h1, h2, h3, fun q hq i hi => ?_⟩
    obtain ⟨k0, k1, c, k2, k3⟩ := h4 q hq i hi
    refine ⟨k0, (cell _ _ _ k1 k2).1, c, (cell _ _ _ k1 k2).2, fun L' => ?_⟩
    have := ih i (p := fun _ => false) L' L' c (fun _ _ => rfl) (k3 L')
    rwa [AV.scrub_none] at this
  | own h off sz n =>
    intro L L' u hL hu
    simp only [AV.scrub]
    by_cases hp : p h = true
    · simp only [hp, if_true]; trivial
    · simp only [hp, Bool.false_eq_true, if_false]
      simp only [Rd] at hu ⊢
      rw [hL h (by simpa using hp)]
      cases hl : L h with
      | none => simpa [hl] using hu
      | some q =>
        obtain ⟨b, s⟩ := q
        simp only [hl] at hu ⊢
        obtain ⟨a, cap, h1, h2, h3, h4, h5, h6, cs, e, h7, h8⟩ := hu
        obtain ⟨fz, h7, h7'⟩ := h7
        obtain ⟨cs', h9, h10⟩ := hs b cs e fz h7
        exact ⟨a, cap, h1, h2, h3, h4, h5, h6, cs', e, ⟨fz, h9, h10 ▸ h7'⟩, by omega⟩
  | ref h off =>
    intro L L' u hL hu
    simp only [AV.scrub]
    by_cases hp : p h = true
    · simp only [hp, if_true]; trivial
    · simp only [hp, Bool.false_eq_true, if_false]
      obtain ⟨b, s, h1, h2⟩ := hu
      exact ⟨b, s, by rw [hL h (by simpa using hp)]; exact h1, h2⟩
  | ptr n f ih =>
    rintro L L' u _ ⟨q, hu, h1, h2⟩
    refine ⟨q, hu, h1, fun i hi => ?_⟩
    obtain ⟨k1, c, k2, k3⟩ := h2 i hi
    refine ⟨(cell _ _ _ k1 k2).1, c, (cell _ _ _ k1 k2).2, fun L' => ?_⟩
    have := ih i (p := fun _ => false) L' L' c (fun _ _ => rfl) (k3 L')
    rwa [AV.scrub_none] at this
  | agg n f ih => rintro L L' u hL ⟨cs, hu, h1, h2⟩; exact ⟨cs, hu, h1, fun i hi => let ⟨c, k1, k2⟩ := h2 i hi; ⟨c, k1, ih i L L' _ hL k2⟩⟩
  | tup n f ih => rintro L L' u hL ⟨cs, hu, h1, h2⟩; exact ⟨cs, hu, h1, fun i hi => let ⟨c, k1, k2⟩ := h2 i hi; ⟨c, k1, ih i L L' _ hL k2⟩⟩
  | clo g n f ih => rintro L L' u hL ⟨cs, hu, h1, h2⟩; exact ⟨cs, hu, h1, fun i hi => let ⟨c, k1, k2⟩ := h2 i hi; ⟨c, k1, ih i L L' _ hL k2⟩⟩
  | map h =>
    intro L L' u hL hu
    simp only [AV.scrub]
    by_cases hp : p h = true
    · simp only [hp, if_true]; trivial
    · simp only [hp, Bool.false_eq_true, if_false]
      obtain ⟨b, s, h1, h2⟩ := hu
      exact ⟨b, s, by rw [hL h (by simpa using hp)]; exact h1, h2⟩
  | dead => intro L L' u _ _; trivial

theorem Rd.step {w w' : World} {ok ok' : Nat → Prop} (hok : ∀ b, b < w.heap.size → ok b → ok' b ∧ w'.heap[b]? = w.heap[b]?) (hs : Shape w w') :
    ∀ {p : Nat → Bool} (a : AV) (L L' : Loc) (u : Value), (∀ h, p h = false → L' h = L h) → Rd w ok L a u → Rd w' ok' L' (a.scrub p) u :=
  Rd.stepC (fun b hb => hok b hb.lt) hs

/-- No name stands in it. -/
def AV.plain : AV → Prop
  | .own .. | .ref .. | .map _ => False
  | .agg n f | .tup n f | .clo _ n f => ∀ i, i < n → (f i).plain
  | _ => True

theorem Rd.plain {w : World} {ok : Nat → Prop} : ∀ (a : AV) (L L' : Loc) (u : Value), a.plain → Rd w ok L a u → Rd w ok L' a u := by
  intro a
  induction a with
  | v x => intro L L' u _ h; exact h
  | list nn sz n f ih => intro L L' u _ h; exact h
  | own h off sz n => intro L L' u hp _; exact hp.elim
  | ref h off => intro L L' u hp _; exact hp.elim
  | ptr n f ih => intro L L' u _ h; exact h
  | agg n f ih => rintro L L' u hp ⟨cs, hu, h1, h2⟩; exact ⟨cs, hu, h1, fun i hi => let ⟨c, k1, k2⟩ := h2 i hi; ⟨c, k1, ih i L L' _ (hp i hi) k2⟩⟩
  | tup n f ih => rintro L L' u hp ⟨cs, hu, h1, h2⟩; exact ⟨cs, hu, h1, fun i hi => let ⟨c, k1, k2⟩ := h2 i hi; ⟨c, k1, ih i L L' _ (hp i hi) k2⟩⟩
  | clo g n f ih => rintro L L' u hp ⟨cs, hu, h1, h2⟩; exact ⟨cs, hu, h1, fun i hi => let ⟨c, k1, k2⟩ := h2 i hi; ⟨c, k1, ih i L L' _ (hp i hi) k2⟩⟩
  | map h => intro L L' u hp _; exact hp.elim
  | dead => intro L L' u _ _; trivial

theorem Blk.scrub_none (b : Blk) : b.scrub (fun _ => false) = b := by
  cases b with
  | cells n f => simp [Blk.scrub, AV.scrub_none]
  | mp kv => simp [Blk.scrub, AV.scrub_none]

end Go.Av
end
/- The relation of an abstract frame and an abstract heap with the machine's own, and the steps that keep it. -/
section
namespace Go.Av

abbrev Fr := List (Nat × AV)
def Fr.get : Fr → Nat → Option AV
  | [], _ => none
  | (i, a) :: r, k => if i = k then some a else Fr.get r k
def Fr.scrub (p : Nat → Bool) (A : Fr) : Fr := A.map fun x => (x.1, x.2.scrub p)

def Hp.upd (H : Hp) (h : Nat) (b : Blk) : Hp := fun g => if g = h then some b else H g
def Hp.scrub (p : Nat → Bool) (H : Hp) : Hp := fun g => (H g).map (Blk.scrub p)
def Hp.kill (p : Nat → Bool) (H : Hp) : Hp := fun g => if p g then none else H g
def Hp.emp : Hp := fun _ => none

theorem Fr.get_scrub (p : Nat → Bool) (A : Fr) (i : Nat) : (A.scrub p).get i = (A.get i).map (AV.scrub p) := by
  induction A with
  | nil => rfl
  | cons x r ih =>
    obtain ⟨j, a⟩ := x
    simp only [Fr.scrub, List.map_cons, Fr.get] at ih ⊢
    split
    · rfl
    · exact ih

theorem Fr.scrub_none (A : Fr) : A.scrub (fun _ => false) = A := by
  simp [Fr.scrub, AV.scrub_none]
theorem Hp.scrub_none (H : Hp) : H.scrub (fun _ => false) = H := by
  funext g
  cases h : H g <;> simp [Hp.scrub, h, Blk.scrub_none]

/-- Which blocks may be written, and which may be read; which names are to stay where they are. -/
structure Rg where
  wr : Nat → Prop
  ok : Nat → Prop
  sub : ∀ b, wr b → ok b
  pin : Nat → Option (Option (Nat × Nat))

/-- Block b may be read, and belongs to no name. -/
def okb (S : Rg) (H : Hp) (L : Loc) (b : Nat) : Prop := S.ok b ∧ ∀ h q, H h ≠ none → L h = some q → q.1 ≠ b

/-- The block of a name holds what is said of it (the block's cells in the world wh, what they read as in w). -/
def BlkOk (w wh : World) (ok : Nat → Prop) (L : Loc) (l : Option (Nat × Nat)) : Blk → Prop
  | .cells n f =>
    match l with
    | none => n = 0
    | some (b, s) => ∃ cs e, RowAt wh b cs e ∧ s + n ≤ cs.size ∧ ∀ i, i < n → ∃ c, cs[s + i]? = some c ∧ Rd w ok L (f i) c
  | .mp kv =>
    match l with
    | none => False
    | some (b, _) => ∃ (es : Array MapEntry) (clock : Nat), wh.heap[b]? = some (.map es clock) ∧ es.size = kv.length ∧ ∀ (i : Nat) (e : MapEntry), es[i]? = some e → ∃ a, kv[i]? = some (e.key, a) ∧ Rd w ok L a e.val

theorem BlkOk.lt {w wh : World} {ok : Nat → Prop} {L : Loc} {b s : Nat} {B : Blk} (h : BlkOk w wh ok L (some (b, s)) B) : b < wh.heap.size := by
  cases B with
  | cells n f => obtain ⟨cs, e, ⟨_, h1, _⟩, _⟩ := h; exact (Array.getElem?_eq_some_iff.1 h1).1
  | mp kv => obtain ⟨es, c, h1, _⟩ := h; exact (Array.getElem?_eq_some_iff.1 h1).1

/-- What a call may leave: the streams as they were, the blocks outside S as they were, no block gone, no shape turned. -/
structure Keep (w0 : World) (S : Nat → Prop) (w : World) : Prop where
  os : w.os = w0.os
  tape : w.tape = w0.tape
  output : w.output = w0.output
  size : w0.heap.size ≤ w.heap.size
  blk : ∀ b, b < w0.heap.size → ¬ S b → w.heap[b]? = w0.heap[b]?
  shape : Shape w0 w

theorem Keep.refl (w : World) (S : Nat → Prop) : Keep w S w := ⟨rfl, rfl, rfl, Nat.le_refl _, fun _ _ _ => rfl, Shape.refl w⟩
theorem Keep.trans {a b c : World} {S : Nat → Prop} (h : Keep a S b) (k : Keep b S c) : Keep a S c :=
  ⟨k.os.trans h.os, k.tape.trans h.tape, k.output.trans h.output, Nat.le_trans h.size k.size,
    fun i hi hn => (k.blk i (Nat.lt_of_lt_of_le hi h.size) hn).trans (h.blk i hi hn), h.shape.trans k.shape⟩
theorem Keep.mono {a b : World} {S S' : Nat → Prop} (h : Keep a S b) (hs : ∀ k, k < a.heap.size → S k → S' k) : Keep a S' b :=
  ⟨h.os, h.tape, h.output, h.size, fun i hi hn => h.blk i hi (fun hS => hn (hs i hi hS)), h.shape⟩

structure Sim (N : Nat) (w0 : World) (S : Rg) (w : World) (tm : Array Value) (L : Loc) (A : Fr) (H : Hp) : Prop where
  keep : Keep w0 S.wr w
  size : tm.size = N
  slot : ∀ i a, A.get i = some a → Rd w (okb S H L) L a (tm.getD i undef)
  blk : ∀ h B, H h = some B → BlkOk w w (okb S H L) L (L h) B
  own : ∀ h q, H h ≠ none → L h = some q → S.wr q.1
  inj : ∀ h g q r, H h ≠ none → H g ≠ none → L h = some q → L g = some r → q.1 = r.1 → h = g
  pin : ∀ h l, S.pin h = some l → L h = l

section
variable {N : Nat} {w0 : World} {S : Rg} {w w' : World} {tm : Array Value} {L L' : Loc} {A : Fr} {H H' : Hp} {p : Nat → Bool}

theorem BlkOk.stepC {wh wh' : World} {ok ok' : Nat → Prop} {l : Option (Nat × Nat)} {B : Blk}
    (hok : ∀ b, CellB w b → ok b → ok' b ∧ w'.heap[b]? = w.heap[b]?) (hs : Shape w w') (hL : ∀ h, p h = false → L' h = L h)
    (hb : ∀ q, l = some q → wh'.heap[q.1]? = wh.heap[q.1]?) (h : BlkOk w wh ok L l B) : BlkOk w' wh' ok' L' l (B.scrub p) := by
  cases B with
  | cells n f =>
    cases l with
    | none => simpa [BlkOk, Blk.scrub] using h
    | some q =>
      obtain ⟨b, s⟩ := q
      obtain ⟨cs, e, ⟨fz, h1, h1'⟩, h2, h3⟩ := h
      exact ⟨cs, e, ⟨fz, (hb (b, s) rfl).trans h1, h1'⟩, h2, fun i hi => let ⟨c, k1, k2⟩ := h3 i hi; ⟨c, k1, Rd.stepC hok hs _ L L' _ hL k2⟩⟩
  | mp kv =>
    cases l with
    | none => exact h.elim
    | some q =>
      obtain ⟨b, s⟩ := q
      obtain ⟨es, c, h1, h2, h3⟩ := h
      refine ⟨es, c, (hb (b, s) rfl).trans h1, by simpa using h2, fun i e he => ?_⟩
      obtain ⟨a, k1, k2⟩ := h3 i e he
      exact ⟨a.scrub p, by simp [k1], Rd.stepC hok hs _ L L' _ hL k2⟩

theorem BlkOk.step {wh wh' : World} {ok ok' : Nat → Prop} {l : Option (Nat × Nat)} {B : Blk}
    (hok : ∀ b, b < w.heap.size → ok b → ok' b ∧ w'.heap[b]? = w.heap[b]?) (hs : Shape w w') (hL : ∀ h, p h = false → L' h = L h)
    (hb : ∀ q, l = some q → wh'.heap[q.1]? = wh.heap[q.1]?) (h : BlkOk w wh ok L l B) : BlkOk w' wh' ok' L' l (B.scrub p) :=
  BlkOk.stepC (fun b hb => hok b hb.lt) hs hL hb h

/-- More memory; an object that no name means is turned. -/
theorem Sim.grew {row : Option Nat} (s : Sim N w0 S w tm L A H) (hg : w.grownBy w' row)
    (hr : ∀ r, row = some r → w0.heap.size ≤ r ∧ (∃ o, w.heap[r]? = some o ∧ ∀ cs e fz, o ≠ .cells cs e fz) ∧ ∀ h kv q, H h = some (.mp kv) → L h = some q → q.1 ≠ r) : Sim N w0 S w' tm L A H := by
  have hcell : ∀ b, CellB w b → w'.heap[b]? = w.heap[b]? := fun b hb => hg.block b hb.lt fun e => by
    obtain ⟨_, ⟨o, h1, h2⟩, _⟩ := hr b e.symm
    obtain ⟨cs, e, fz, h3⟩ := hb
    rw [h1] at h3
    exact h2 _ _ _ (Option.some.inj h3)
  have hsh : Shape w w' := fun b cs e fz hb => ⟨cs, (hcell b ⟨cs, e, fz, hb⟩).trans hb, rfl⟩
  have hok : ∀ b, CellB w b → okb S H L b → okb S H L b ∧ w'.heap[b]? = w.heap[b]? := fun b hb h => ⟨h, hcell b hb⟩
  refine ⟨⟨hg.os.trans s.keep.os, hg.tape.trans s.keep.tape, hg.output.trans s.keep.output, Nat.le_trans s.keep.size hg.size, fun b hb hn => ?_, s.keep.shape.trans hsh⟩, s.size, fun i a h => ?_, fun h B hB => ?_, s.own, s.inj, s.pin⟩
  · exact (hg.block b (Nat.lt_of_lt_of_le hb s.keep.size) fun e => by have := (hr b e.symm).1; omega).trans (s.keep.blk b hb hn)
  · have := Rd.stepC (p := fun _ => false) hok hsh a L L _ (fun _ _ => rfl) (s.slot i a h)
    rwa [AV.scrub_none] at this
  · have := BlkOk.stepC (wh := w) (wh' := w') (p := fun _ => false) hok hsh (L := L) (L' := L) (fun _ _ => rfl) (fun q hq => ?_) (s.blk h B hB)
    · rwa [Blk.scrub_none] at this
    · have hb := s.blk h B hB
      rw [hq] at hb
      cases B with
      | cells n f => obtain ⟨cs, e, ⟨fz, e1, _⟩, _⟩ := hb; exact hcell q.1 ⟨cs, e, fz, e1⟩
      | mp kv =>
        obtain ⟨es, c, e1, _⟩ := hb
        exact hg.block q.1 (Array.getElem?_eq_some_iff.1 e1).1 fun e => (hr q.1 e.symm).2.2 h kv q hB hq rfl

/-- The general step. -/
theorem Sim.step (s : Sim N w0 S w tm L A H) (hk : Keep w S.wr w')
    (hsame : ∀ b, b < w.heap.size → okb S H L b → okb S H' L' b ∧ w'.heap[b]? = w.heap[b]?)
    (hL : ∀ h, p h = false → L' h = L h) (hpin : ∀ h l, S.pin h = some l → L' h = L h)
    (hblk : ∀ h B, H' h = some B → BlkOk w' w' (okb S H' L') L' (L' h) B)
    (hown : ∀ h q, H' h ≠ none → L' h = some q → S.wr q.1)
    (hinj : ∀ h g q r, H' h ≠ none → H' g ≠ none → L' h = some q → L' g = some r → q.1 = r.1 → h = g) :
    Sim N w0 S w' tm L' (A.scrub p) H' where
  keep := s.keep.trans hk
  size := s.size
  slot := by
    intro i a ha
    rw [Fr.get_scrub] at ha
    cases hg : A.get i with
    | none => simp [hg] at ha
    | some a0 =>
      simp only [hg, Option.map_some, Option.some.injEq] at ha
      subst ha
      exact Rd.step hsame hk.shape a0 L L' _ hL (s.slot i a0 hg)
  blk := hblk
  own := hown
  inj := hinj
  pin h l hl := (hpin h l hl).trans (s.pin h l hl)

/-- A block is written anew, moved, or made: its name g then means this block. -/
theorem Sim.put_blk (s : Sim N w0 S w tm L A H) (hS : ∀ b, w0.heap.size ≤ b → S.wr b) (g : Nat) (b s' : Nat) (B : Blk)
    (hw : Keep w (fun k => k = b) w')
    (hold : ∀ k, k < w.heap.size → k ≠ b → w'.heap[k]? = w.heap[k]?)
    (hb : b = w.heap.size ∨ (H g ≠ none ∧ ∃ o, L g = some (b, o)))
    (hB : BlkOk w w' (okb S H L) L (some (b, s')) B)
    (hp : ∀ h, p h = false → h = g → L h = some (b, s')) (hpin : S.pin g = none ∨ L g = some (b, s')) :
    Sim N w0 S w' tm (fun h => if h = g then some (b, s') else L h) (A.scrub p) ((H.upd g B).scrub p) := by
  have hbS : S.wr b := by
    rcases hb with rfl | ⟨hg, o, ho⟩
    · exact hS _ s.keep.size
    · exact s.own g _ hg ho
  have live : ∀ h, ((H.upd g B).scrub p) h ≠ none ↔ (h = g ∨ H h ≠ none) := by
    intro h
    simp only [Hp.scrub, Hp.upd]
    by_cases hh : h = g
    · simp [hh]
    · simp [hh]
  have hlt : ∀ h q, H h ≠ none → L h = some q → q.1 < w.heap.size := by
    intro h q hn hq
    cases hH : H h with
    | none => exact absurd hH hn
    | some B' =>
      have := s.blk h B' hH
      rw [hq] at this
      exact BlkOk.lt (b := q.1) (s := q.2) this
  have hne : ∀ h q, h ≠ g → H h ≠ none → L h = some q → q.1 ≠ b := by
    intro h q hh hn hq
    rcases hb with rfl | ⟨hg, o, ho⟩
    · exact Nat.ne_of_lt (hlt h q hn hq)
    · exact fun e => hh (s.inj h g q (b, o) hn hg hq ho e)
  have hsame : ∀ k, k < w.heap.size → okb S H L k → okb S ((H.upd g B).scrub p) (fun h => if h = g then some (b, s') else L h) k ∧ w'.heap[k]? = w.heap[k]? := by
    intro k hk ho
    have hkb : k ≠ b := by
      rcases hb with rfl | ⟨hg, o, hgo⟩
      · exact Nat.ne_of_lt hk
      · exact fun e => ho.2 g _ hg hgo e.symm
    refine ⟨⟨ho.1, fun h q hn hq => ?_⟩, hold k hk hkb⟩
    by_cases hh : h = g
    · simp only [hh, if_true, Option.some.injEq] at hq
      subst hq
      exact fun e => hkb e.symm
    · simp only [hh, if_false] at hq
      exact ho.2 h q (((live h).1 hn).resolve_left hh) hq
  have hL : ∀ h, p h = false → (fun h => if h = g then some (b, s') else L h) h = L h := by
    intro h hph
    by_cases hh : h = g
    · simp only [hh, if_true]; exact (hh ▸ hp h hph hh).symm
    · simp [hh]
  have hk : Keep w S.wr w' := hw.mono fun k _ e => e ▸ hbS
  refine s.step hk hsame hL ?_ ?_ ?_ ?_
  · intro h l hl
    by_cases hh : h = g
    · subst hh
      rcases hpin with e | e
      · simp [e] at hl
      · simp [e]
    · simp [hh]
  · intro h B' hB'
    by_cases hh : h = g
    · subst hh
      simp only [Hp.scrub, Hp.upd, if_true, Option.map_some, Option.some.injEq] at hB' ⊢
      subst hB'
      exact BlkOk.step hsame hk.shape hL (fun _ _ => rfl) hB
    · simp only [Hp.scrub, Hp.upd, hh, if_false] at hB' ⊢
      cases hH : H h with
      | none => simp [hH] at hB'
      | some B0 =>
        simp only [hH, Option.map_some, Option.some.injEq] at hB'
        subst hB'
        refine BlkOk.step hsame hk.shape hL (fun q hq => hold q.1 (hlt h q (by simp [hH]) hq) (hne h q hh (by simp [hH]) hq)) (s.blk h B0 hH)
  · intro h q hn hq
    by_cases hh : h = g
    · simp only [hh, if_true, Option.some.injEq] at hq
      subst hq
      exact hbS
    · simp only [hh, if_false] at hq
      exact s.own h q (((live h).1 hn).resolve_left hh) hq
  · intro h k q r hn hm hq hr e
    by_cases hh : h = g <;> by_cases hg : k = g
    · rw [hh, hg]
    · simp only [hh, if_true, Option.some.injEq] at hq
      simp only [hg, if_false] at hr
      subst hq
      exact absurd e.symm (hne k r hg (((live k).1 hm).resolve_left hg) hr)
    · simp only [hg, if_true, Option.some.injEq] at hr
      simp only [hh, if_false] at hq
      subst hr
      exact absurd e (hne h q hh (((live h).1 hn).resolve_left hh) hq)
    · simp only [hh, if_false] at hq
      simp only [hg, if_false] at hr
      exact s.inj h k q r (((live h).1 hn).resolve_left hh) (((live k).1 hm).resolve_left hg) hq hr e

/-- A slot takes a value. -/
theorem Sim.put (s : Sim N w0 S w tm L A H) {d : Nat} (hd : d < N) {a : AV} {u : Value} (hr : Rd w (okb S H L) L a u) :
    Sim N w0 S w (tm.setIfInBounds d u) L ((d, a) :: A) H where
  keep := s.keep
  size := by simp [s.size]
  slot := by
    intro i b hb
    simp only [Fr.get] at hb
    by_cases hi : d = i
    · subst hi
      simp only [if_true, Option.some.injEq] at hb
      subst hb
      have : (tm.setIfInBounds d u).getD d undef = u := by simp [Array.getD, s.size, hd]
      rw [this]; exact hr
    · simp only [hi, if_false] at hb
      have : (tm.setIfInBounds d u).getD i undef = tm.getD i undef := by
        by_cases hlt : i < tm.size
        · simp [Array.getD, hlt, hi]
        · simp [Array.getD, hlt]
      rw [this]; exact s.slot i b hb
  blk := s.blk
  own := s.own
  inj := s.inj
  pin := s.pin

/-- What is known of a slot may be forgotten. -/
theorem Sim.sub (s : Sim N w0 S w tm L A H) {A' : Fr} (h : ∀ i a, A'.get i = some a → A.get i = some a) : Sim N w0 S w tm L A' H :=
  ⟨s.keep, s.size, fun i a ha => s.slot i a (h i a ha), s.blk, s.own, s.inj, s.pin⟩

/-- A draw turns nothing. -/
theorem Sim.drew (s : Sim N w0 S w tm L A H) : Sim N w0 S w.drew tm L A H := by
  have h := s.step (w' := w.drew) (L' := L) (H' := H) (p := fun _ => false) ⟨rfl, rfl, rfl, Nat.le_refl _, fun _ _ _ => rfl, Shape.refl w⟩ (fun b _ h => ⟨h, rfl⟩) (fun _ _ => rfl) (fun _ _ _ => rfl)
    (fun h B hB => by
      have := BlkOk.step (w := w) (w' := w.drew) (p := fun _ => false) (L' := L) (wh := w) (wh' := w.drew) (ok' := okb S H L) (fun b _ h => ⟨h, rfl⟩) (Shape.refl w) (fun _ _ => rfl) (fun _ _ => rfl) (s.blk h B hB)
      rwa [Blk.scrub_none] at this) s.own s.inj
  rwa [Fr.scrub_none] at h

end
end Go.Av
end
/- What is known of the package variables that the library reads: nothing writes them. -/
section
namespace Go.Av
set_option linter.unusedVariables false
/-- How many blocks, from the first on, are package variables' own. -/
def envN : Nat := 8
/-- What they hold. -/
def EnvF (W : World) : Prop := (∃ m, W.cell? ⟨0, 0, none⟩ = some (.int .i64 m)) ∧ (∃ ev, W.cell? ⟨4, 0, none⟩ = some ev ∧ (ev = .nilIface ∨ ∃ te pe, ev = .iface te pe)) ∧ (∃ ev, W.cell? ⟨5, 0, none⟩ = some ev ∧ (ev = .nilIface ∨ ∃ te pe, ev = .iface te pe)) ∧ (∃ e fz, W.heap[1]? = some (.cells ((List.range 20).map fun i : Nat => Value.int .u64 ((10 : Int) ^ i)).toArray e fz))
/-- The variables hold that, and nobody may write them. -/
def Env (S : Rg) (w : World) : Prop := ∃ W0 : World, EnvF W0 ∧ ∀ g, g < envN → ¬ S.wr g ∧ g < w.heap.size ∧ w.heap[g]? = W0.heap[g]?
theorem Env.step {S : Rg} {w w' : World} (h : Env S w) (k : Keep w S.wr w') : Env S w' := by
  obtain ⟨W0, h0, h1⟩ := h
  refine ⟨W0, h0, fun g hg => ?_⟩
  obtain ⟨a, b, c⟩ := h1 g hg
  exact ⟨a, Nat.lt_of_lt_of_le b k.size, (k.blk g b a).trans c⟩
theorem Env.call {S S' : Rg} {w : World} (h : Env S w) (hw : ∀ b, b < w.heap.size → S'.wr b → S.wr b) : Env S' w := by
  obtain ⟨W0, h0, h1⟩ := h
  refine ⟨W0, h0, fun g hg => ?_⟩
  obtain ⟨a, b, c⟩ := h1 g hg
  exact ⟨fun hx => a (hw g b hx), b, c⟩
end Go.Av
end
/- The logic over abstract frames: code, regions, calls. -/
section
namespace Go.Av
set_option linter.unusedVariables false

/- Code in a plain frame (g), or in a plain frame and in a round of a range over a function all at once. -/
/-- No fence; the frame's round. -/
abbrev FF (ro : Option Nat) : Fence := { Fence.wide with round := ro }
def gwp (g : Bool) (P : Program) (c : Code) (Q : Exit → Act → World → Prop) (a : Act) (w : World) : Prop := ∀ ro n, (g = true → ro = none) → c.wpIn (FF ro) n P Q a w
/-- .. whatever the frame. -/
abbrev cwp := gwp false
def owp (P : Program) (o : Oper) (a : Act) (w : World) (next : Act → World → Prop) (Q : Exit → Act → World → Prop) : Prop := ∀ ro n, o.wpIn (FF ro) n P a w next Q
section
variable {P : Program} {Q : Exit → Act → World → Prop} {a : Act} {w : World}
theorem wp_mono {g : Bool} {c : Code} {Q' : Exit → Act → World → Prop} (h : gwp g P c Q a w) (hq : ∀ e a w, Q e a w → Q' e a w) : gwp g P c Q' a w := fun ro n hg => wpIn_mono (h ro n hg) hq
theorem wp_skip {g : Bool} (h : Q .normal a w) : gwp g P .skip Q a w := fun _ _ _ => wpIn_skip h
theorem wp_ret {g : Bool} (h : Q .ret a w) : gwp g P .ret Q a w := fun _ _ _ => wpIn_ret h
theorem wp_exit {g : Bool} {id : Nat} (h : Q (.exit id) a w) : gwp g P (.exit id) Q a w := fun _ _ _ => wpIn_exit h
theorem wp_seq {g : Bool} {x y : Code} (h : gwp g P x (Exit.then (gwp g P y Q) Q) a w) : gwp g P (.seq x y) Q a w := fun ro n hg => wpIn_seq (wpIn_mono (h ro n hg) fun e a w hq => by
  cases e <;> first
    | exact hq ro n hg
    | exact hq)
theorem wp_block {g : Bool} {id : Nat} {c : Code} (h : gwp g P c (Exit.inBlock id Q) a w) : gwp g P (.block id c) Q a w := fun ro n hg => wpIn_block (h ro n hg)
theorem wp_cond_true {g : Bool} {c : Operand} {x y : Code} (hc : a.eval c = .bool true) (h : gwp g P x Q a w) : gwp g P (.cond c x y) Q a w := fun ro n hg => wpIn_cond_true hc (h ro n hg)
theorem wp_cond_false {g : Bool} {c : Operand} {x y : Code} (hc : a.eval c = .bool false) (h : gwp g P y Q a w) : gwp g P (.cond c x y) Q a w := fun ro n hg => wpIn_cond_false hc (h ro n hg)
theorem not_defer {ρ : Operand → Value} {o : Oper} {x : Next} {w' : World} (h : (execOp ρ o).run P w = .ok x w') (hx : ∀ d, x ≠ .defer d) : ∀ c, o.op ≠ .defer c := by
  intro c hc
  simp only [execOp, hc, Sem.run_bind] at h
  cases hr : (resolve ρ c o.type).run P w with
  | ok d w1 => rw [hr] at h; simp [Result.andThen] at h; exact hx _ h.1.symm
  | halt x w1 => rw [hr] at h; simp [Result.andThen] at h
theorem owp_ok {o : Oper} {x : Next} {w' : World} {next : Act → World → Prop} (h : (execOp a.eval o).run P w = .ok x w') (hx : ∀ d, x ≠ .defer d) (hn : ∀ F n, o.uponIn F n P a next Q (.ok x w')) : owp P o a w next Q := fun ro n =>
  ⟨fun _ _ => trivial, by rw [Oper.semAt_eq _ _ _ (not_defer h hx), h]; exact hn _ _⟩
theorem owp_val {o : Oper} {u : Value} {w' : World} {next : Act → World → Prop} (h : (execOp a.eval o).run P w = .ok (.value u) w') (hn : next (a.put o.dst u) w') : owp P o a w next Q := owp_ok h (fun _ e => by cases e) fun _ _ => hn
theorem owp_skip {o : Oper} {w' : World} {next : Act → World → Prop} (h : (execOp a.eval o).run P w = .ok .skip w') (hn : next (a.put o.dst undef) w') : owp P o a w next Q := owp_ok h (fun _ e => by cases e) fun _ _ => hn
theorem callsFF {ro : Option Nat} {n : Nat} {f : FuncId} {vs : Array Value} {R : Ending → World → Prop} : CallsIn (FF ro) n P f vs w R ↔ Calls P f vs w R :=
  callsIn_wide (n := n)
theorem owp_enter {o : Oper} {f : FuncId} {vs : Array Value} {w' : World} {next : Act → World → Prop} (h : (execOp a.eval o).run P w = .ok (.enter f vs) w') (hn : Calls P f vs w' fun e w'' => ∃ v, e = .returned v ∧ next (a.put o.dst v) w'') : owp P o a w next Q := fun ro n =>
  ⟨fun _ _ => trivial, by
    rw [Oper.semAt_eq _ _ _ (not_defer h (fun _ e => by cases e)), h, Oper.uponIn_enter]
    refine ⟨fun hd => (by cases hd), callsFF.2 (hn.mono ?_)⟩
    rintro e w'' ⟨v, rfl, hv⟩
    exact hv⟩
def wpList (P : Program) (ops : Array Oper) (Q : Exit → Act → World → Prop) (l : List Oper) (a : Act) (w : World) : Prop := ∀ ro n, wpListIn (FF ro) n P ops Q l a w
theorem wp_region_lit {id : Nat} {l : List Oper} (h : wpList P l.toArray Q l a w) : cwp P (.region id l.toArray false) Q a w := fun ro n _ => wpIn_region_lit (h ro n)
theorem wpList_step {ops : Array Oper} {o : Oper} {rest : List Oper}
    (h : ∀ K : Act → World → Prop, (∀ a w, wpList P ops Q rest a w → K a w) → if Region.wanted o (yielded ops a.tmps) then owp P o a w K Q else K (a.put o.dst undef) w) : wpList P ops Q (o :: rest) a w := by
  intro ro n
  refine wpListIn_step fun K hK => ?_
  have := h (fun a w => wpListIn (FF ro) n P ops Q rest a w) (fun a w h => h ro n)
  by_cases hw : Region.wanted o (yielded ops a.tmps) = true
  · rw [if_pos hw] at this ⊢
    exact Oper.wpIn_mono hK (this ro n)
  · rw [if_neg hw] at this ⊢
    exact ⟨fun _ _ => trivial, hK _ _ this⟩
theorem wpList_plain {ops : Array Oper} {o : Oper} {rest : List Oper} (hg : o.guard = none) (h : ∀ K : Act → World → Prop, (∀ a w, wpList P ops Q rest a w → K a w) → owp P o a w K Q) : wpList P ops Q (o :: rest) a w :=
  wpList_step fun K hK => by rw [if_pos (by simp [Region.wanted, hg])]; exact h K hK
def wpOp (P : Program) (ops : Array Oper) (Q : Exit → Act → World → Prop) (i : Nat) (K : Act → World → Prop) (a : Act) (w : World) : Prop :=
  match ops[i]? with
  | none => K a w
  | some o => if Region.wanted o (yielded ops a.tmps) then owp P o a w K Q ∨ False else K (a.put o.dst undef) w
def wpAny (P : Program) (md : Region.Mode) (ops : Array Oper) (Q : Exit → Act → World → Prop) : Nat → Array Bool → Act → World → Prop
  | 0, listed, a, w => Region.ready md ops listed = [] ∧ Q .normal a w
  | fuel + 1, listed, a, w =>
    (Region.ready md ops listed = [] → Q .normal a w) ∧
    ∀ i ∈ Region.ready md ops listed, wpOp P ops Q i (wpAny P md ops Q fuel (listed.setIfInBounds i true)) a w
theorem wpAny_in {md : Region.Mode} {ops : Array Oper} {ro : Option Nat} {n : Nat} : ∀ (fuel : Nat) (listed : Array Bool) (a : Act) (w : World), wpAny P md ops Q fuel listed a w → wpAnyIn (FF ro) n P md ops Q fuel listed a w
  | 0, _, _, _, h => h
  | fuel + 1, listed, a, w, h => ⟨h.1, fun i hi => by
    have := h.2 i hi
    unfold wpOp at this
    unfold wpOpIn
    cases ho : ops[i]? with
    | none =>
      rw [ho] at this
      exact wpAny_in fuel _ _ _ this
    | some o =>
      rw [ho] at this
      dsimp only at this ⊢
      by_cases hw : Region.wanted o (yielded ops a.tmps) = true
      · rw [if_pos hw] at this ⊢
        exact Oper.wpIn_mono (fun a w => wpAny_in fuel _ a w) ((this.resolve_right id) ro n)
      · rw [if_neg hw] at this ⊢
        exact ⟨fun _ _ => trivial, wpAny_in fuel _ _ _ this⟩⟩
theorem wp_region_any {id : Nat} {ops : Array Oper} (hm : P.follows .mixedOrders = true)
    (h : wpAny P .any ops Q ops.size (Array.replicate ops.size false) a { w with drawn := w.drawn + 1 }) : cwp P (.region id ops true) Q a w := fun ro n _ => wpIn_region_any hm (wpAny_in _ _ _ _ h)
end

/-- A mark among the deferred calls: a range over a function leaves it. -/
abbrev markD (D : Nat) : Deferred := { target := .collected D, args := #[] }
/-- Marks, each of a block of its own that holds no call. -/
def Mks (B : Nat) (w : World) (ms : List Deferred) : Prop := (∀ d ∈ ms, ∃ D, B ≤ D ∧ d = markD D ∧ w.heap[D]? = some (.deferred (some []))) ∧ ms.Nodup
theorem Mks.nil (B : Nat) (w : World) : Mks B w [] := ⟨fun _ h => (by cases h), List.nodup_nil⟩

/-- How many slots; which names are to stay where they are (no slot's own name is one of them). -/
structure Cx where
  n : Nat
  pn : Nat → Bool
  low : ∀ h, h < n → pn h = false
  /-- A function's own frame; else a round's may be meant, too. -/
  out : Bool := true

/-- What is asked of the writable blocks and the names that stay. -/
structure Good (N : Cx) (w0 : World) (S : Rg) : Prop where
  new : ∀ b, w0.heap.size ≤ b → S.wr b
  free : ∀ h, N.pn h = false → S.pin h = none
  env : Env S w0

/-- From the abstract frame and heap (A, H) one may pass to (A', H'). -/
def Sub (N : Cx) (A : Fr) (H : Hp) (A' : Fr) (H' : Hp) : Prop :=
  ∀ w0 S, Good N w0 S → ∀ w tm L, Sim N.n w0 S w tm L A H → ∃ L', Sim N.n w0 S w tm L' A' H'

def PostW (N : Cx) (w0 : World) (S : Rg) (ds : List Deferred) (Q : Exit → Fr → Hp → Prop) (e : Exit) (a : Act) (w : World) : Prop :=
  ∃ L A H, Sim N.n w0 S w a.tmps L A H ∧ a.defers = ds ∧ Q e A H
/-- .. with marks ahead of the deferred calls that there were. -/
def PostD (N : Cx) (w0 : World) (S : Rg) (ds : List Deferred) (Q : Exit → Fr → Hp → Prop) (e : Exit) (a : Act) (w : World) : Prop :=
  ∃ L A H, Sim N.n w0 S w a.tmps L A H ∧ (∃ ms, a.defers = ms ++ ds ∧ Mks w0.heap.size w ms) ∧ Q e A H

/-- From every state that the abstract frame and heap fit, the code ends in one that some abstract frame and heap with Q fit. -/
def AWP (P : Program) (N : Cx) (c : Code) (Q : Exit → Fr → Hp → Prop) (A : Fr) (H : Hp) : Prop :=
  ∀ w0 S, Good N w0 S → ∀ w (a : Act) L, Sim N.n w0 S w a.tmps L A H → gwp N.out P c (PostD N w0 S a.defers Q) a w
/-- Code that leaves no mark. -/
theorem awp_ex {P : Program} {N : Cx} {c : Code} {Q : Exit → Fr → Hp → Prop} {A : Fr} {H : Hp}
    (h : ∀ w0 S, Good N w0 S → ∀ w (a : Act) L, Sim N.n w0 S w a.tmps L A H → ∀ ds, a.defers = ds → cwp P c (PostW N w0 S ds Q) a w) : AWP P N c Q A H := fun w0 S hS w a L s =>
  fun ro n _ => wpIn_mono (h w0 S hS w a L s _ rfl ro n fun h => by cases h) fun e a' w' ⟨L', A', H', s', hd, hq⟩ => ⟨L', A', H', s', ⟨[], hd, Mks.nil _ _⟩, hq⟩
/-- The blocks that may be written from here on: those of the names, and new ones. -/
def Rg.tight (S : Rg) {w0 : World} {N : Cx} (hS : Good N w0 S) {w : World} {tm : Array Value} {L : Loc} {A : Fr} {H : Hp} (s : Sim N.n w0 S w tm L A H) : Rg where
  wr b := w.heap.size ≤ b ∨ ∃ h q, H h ≠ none ∧ L h = some q ∧ q.1 = b
  ok := S.ok
  sub b hb := S.sub b (hb.elim (fun h => hS.new b (Nat.le_trans s.keep.size h)) fun ⟨h, q, h1, h2, h3⟩ => h3 ▸ s.own h q h1 h2)
  pin := S.pin
section
variable {N : Cx} {w0 : World} {S : Rg} {w w' : World} {tm tm' : Array Value} {L L' : Loc} {A A' : Fr} {H H' : Hp}
theorem tight_wr (hS : Good N w0 S) (s : Sim N.n w0 S w tm L A H) {b : Nat} (hb : (S.tight hS s).wr b) : S.wr b :=
  hb.elim (fun h => hS.new b (Nat.le_trans s.keep.size h)) fun ⟨h, q, h1, h2, h3⟩ => h3 ▸ s.own h q h1 h2
theorem tight_good (hS : Good N w0 S) (s : Sim N.n w0 S w tm L A H) : Good N w (S.tight hS s) := ⟨fun _ h => .inl h, hS.free, (hS.env.step s.keep).call fun _ _ hb => tight_wr hS s hb⟩
theorem tight_sim (hS : Good N w0 S) (s : Sim N.n w0 S w tm L A H) : Sim N.n w (S.tight hS s) w tm L A H :=
  ⟨Keep.refl _ _, s.size, s.slot, s.blk, fun h q h1 h2 => .inr ⟨h, q, h1, h2, rfl⟩, s.inj, s.pin⟩
theorem tight_back (hS : Good N w0 S) (s : Sim N.n w0 S w tm L A H) (s' : Sim N.n w (S.tight hS s) w' tm' L' A' H') : Sim N.n w0 S w' tm' L' A' H' :=
  ⟨s.keep.trans (s'.keep.mono fun _ _ h => tight_wr hS s h), s'.size, s'.slot, s'.blk, fun h q h1 h2 => tight_wr hS s (s'.own h q h1 h2), s'.inj, s'.pin⟩
/-- An object that is neither cells nor a map stays. -/
theorem tight_same (hS : Good N w0 S) (s : Sim N.n w0 S w tm L A H) (s' : Sim N.n w (S.tight hS s) w' tm' L' A' H') {D : Nat} {o : Obj} (h : w.heap[D]? = some o) (h1 : ∀ cs e fz, o ≠ .cells cs e fz) (h2 : ∀ es c, o ≠ .map es c) : w'.heap[D]? = some o := by
  have hlt := (Array.getElem?_eq_some_iff.1 h).1
  rw [s'.keep.blk D hlt ?_, h]
  rintro (hge | ⟨g, q, k1, k2, rfl⟩)
  · omega
  · cases hB : H g with
    | none => exact k1 hB
    | some B =>
      have hb := s.blk g B hB
      rw [k2] at hb
      cases B with
      | cells n f => obtain ⟨cs, e, ⟨fz, e1, _⟩, _⟩ := hb; rw [h] at e1; exact h1 _ _ _ (Option.some.inj e1)
      | mp kv => obtain ⟨es, c, e1, _⟩ := hb; rw [h] at e1; exact h2 _ _ (Option.some.inj e1)
/-- What comes behind code that left marks. -/
theorem postD_then {Q : Exit → Fr → Hp → Prop} {ds ms : List Deferred} {e : Exit} {a' : Act} (hS : Good N w0 S) (s : Sim N.n w0 S w tm L A H) (hm : Mks w0.heap.size w ms)
    (h : PostD N w (S.tight hS s) (ms ++ ds) Q e a' w') : PostD N w0 S ds Q e a' w' := by
  obtain ⟨L', A', H', s', ⟨ms', e1, hm'⟩, hq⟩ := h
  refine ⟨L', A', H', tight_back hS s s', ⟨ms' ++ ms, by rw [e1, List.append_assoc], ?_, ?_⟩, hq⟩
  · intro d hd
    rcases List.mem_append.1 hd with hd | hd
    · obtain ⟨D, h1, h2, h3⟩ := hm'.1 d hd
      exact ⟨D, Nat.le_trans s.keep.size h1, h2, h3⟩
    · obtain ⟨D, h1, h2, h3⟩ := hm.1 d hd
      exact ⟨D, h1, h2, tight_same hS s s' h3 (fun _ _ _ e => by cases e) (fun _ _ e => by cases e)⟩
  · refine List.nodup_append.2 ⟨hm'.2, hm.2, fun d hd d2 hd2 e => ?_⟩
    subst e
    obtain ⟨D, h1, h2, h3⟩ := hm'.1 d hd
    obtain ⟨D2, k1, k2, k3⟩ := hm.1 d hd2
    have : D = D2 := by rw [h2] at k2; injection k2 with k2; injection k2
    subst this
    have := (Array.getElem?_eq_some_iff.1 k3).1
    omega
end

/-- What follows: `next` behind a normal end, else Q. -/
def thenA (next : Fr → Hp → Prop) (Q : Exit → Fr → Hp → Prop) : Exit → Fr → Hp → Prop
  | .normal, A, H => next A H
  | e, A, H => Q e A H

def blkA (id : Nat) (Q : Exit → Fr → Hp → Prop) : Exit → Fr → Hp → Prop
  | .exit i, A, H => if i = id then Q .normal A H else Q (.exit i) A H
  | e, A, H => Q e A H

section
variable {P : Program} {N : Cx} {Q : Exit → Fr → Hp → Prop} {A : Fr} {H : Hp}

theorem awp_seq {x y : Code} (h : AWP P N x (thenA (AWP P N y Q) Q) A H) : AWP P N (.seq x y) Q A H := by
  intro w0 S hS w a L s
  refine wp_seq (wp_mono (h w0 S hS w a L s) ?_)
  rintro e a' w ⟨L, A, H, s, ⟨ms, hd, hm⟩, hq⟩
  cases e <;> first
    | (have := hq w (S.tight hS s) (tight_good hS s) w a' L (tight_sim hS s)
       rw [hd] at this
       exact wp_mono this fun e a'' w'' hp => postD_then hS s hm hp)
    | exact ⟨L, A, H, s, ⟨ms, hd, hm⟩, hq⟩
theorem awp_skip (h : Q .normal A H) : AWP P N .skip Q A H := fun _ _ _ _ _ L s => wp_skip ⟨L, A, H, s, ⟨[], rfl, Mks.nil _ _⟩, h⟩
theorem awp_ret (h : Q .ret A H) : AWP P N .ret Q A H := fun _ _ _ _ _ L s => wp_ret ⟨L, A, H, s, ⟨[], rfl, Mks.nil _ _⟩, h⟩
theorem awp_exit {id : Nat} (h : Q (.exit id) A H) : AWP P N (.exit id) Q A H := fun _ _ _ _ _ L s => wp_exit ⟨L, A, H, s, ⟨[], rfl, Mks.nil _ _⟩, h⟩
theorem awp_block {id : Nat} {c : Code} (h : AWP P N c (blkA id Q) A H) : AWP P N (.block id c) Q A H := by
  intro w0 S hS w a L s
  refine wp_block (wp_mono (h w0 S hS w a L s) ?_)
  rintro e a w ⟨L, A, H, s, hd, hq⟩
  cases e with
  | exit i =>
    simp only [blkA] at hq
    simp only [Exit.inBlock]
    split
    · rename_i hi; rw [if_pos hi] at hq; exact ⟨L, A, H, s, hd, hq⟩
    · rename_i hi; rw [if_neg hi] at hq; exact ⟨L, A, H, s, hd, hq⟩
  | _ => exact ⟨L, A, H, s, hd, hq⟩
def Fr.ev (A : Fr) : Operand → Option AV
  | .tmp t => A.get t
  | .const v => some (.v v)
  | .global _ => none
  | .func f => some (.v (.func (.func f) #[] #[]))
theorem Sim.ev {w0 : World} {S : Rg} {w : World} {a : Act} {L : Loc} (s : Sim N.n w0 S w a.tmps L A H) {x : Operand} {r : AV} (h : A.ev x = some r) : Rd w (okb S H L) L r (a.eval x) := by
  cases x with
  | tmp t => exact s.slot t r h
  | const v => simp [Fr.ev] at h; subst h; rfl
  | global g => simp [Fr.ev] at h
  | func f => simp [Fr.ev] at h; subst h; rfl
theorem awp_cond {c : Operand} {x y : Code} {t : Bool} (hc : A.ev c = some (.v (.bool t))) (ht : t = true → AWP P N x Q A H) (hf : t = false → AWP P N y Q A H) :
    AWP P N (.cond c x y) Q A H := by
  intro w0 S hS w a L s
  have he : a.eval c = .bool t := s.ev hc
  cases t with
  | true => exact wp_cond_true he (ht rfl w0 S hS w a L s)
  | false => exact wp_cond_false he (hf rfl w0 S hS w a L s)
theorem wp_loop_rank {g : Bool} {c : Code} {Q : Exit → Act → World → Prop} {a : Act} {w : World} (I : Nat → Act → World → Prop) (n : Nat) (h₀ : I n a w)
    (round : ∀ n a w, I n a w → gwp g P c (Exit.then (fun a' w' => ∃ m, m < n ∧ I m a' w') Q) a w) : gwp g P (.loop c) Q a w := by
  intro ro nn hg b k cs hro hb hr
  have key : ∀ n a w, I n a w →
      ∃ e a' w', Q e a' w' ∧ ArrivesIn (Machine.fenced P (FF ro)) P (lone (b.atR a (.code c :: .inLoop c :: k)) cs w) b k cs e a' w' := by
    intro n
    induction n using Nat.strongRecOn with
    | _ n ih =>
      intro a w hI
      obtain ⟨e, a₁, w₁, hq, harr⟩ := round n a w hI ro nn hg b (.inLoop c :: k) cs hro hb hr
      cases e with
      | normal =>
        obtain ⟨m, hlt, hI₁⟩ := hq
        obtain ⟨e₂, a₂, w₂, hq₂, harr₂⟩ := ih m hlt a₁ w₁ hI₁
        exact ⟨e₂, a₂, w₂, hq₂, .of_steps (StepsIn.trans harr (.one (fenced_calm hb hr rfl) stepR_inLoop)) harr₂⟩
      | exit id => exact ⟨_, a₁, w₁, hq, .pass (x := .inLoop c) rfl (fun _ _ => .inl (by simp)) harr⟩
      | goto l => exact ⟨_, a₁, w₁, hq, .pass (x := .inLoop c) rfl (fun _ _ => .inl (by simp)) harr⟩
      | ret => exact ⟨_, a₁, w₁, hq, .pass (x := .inLoop c) rfl (fun _ _ => .inl (by simp)) harr⟩
      | panic ch => exact ⟨_, a₁, w₁, hq, .pass (x := .inLoop c) rfl (fun _ _ => .inl (by simp)) harr⟩
      | outgrown => exact ⟨_, a₁, w₁, hq, .pass (x := .inLoop c) rfl (fun _ _ => .inl (by simp)) harr⟩
  obtain ⟨e, a', w', hq, harr⟩ := key n a w h₀
  exact ⟨e, a', w', hq, .of_steps (.one (fenced_calm hb hr rfl) stepR_loop) harr⟩

/-- A loop: `F`, `G` the frame and the heap at the head of a round, by what has been done (i); `V` which i come up; `μ` goes down. -/
theorem awp_loop {ι : Type} {body : Code} (F : ι → Fr) (G : ι → Hp) (V : ι → Prop) (μ : ι → Nat) (i0 : ι) (h0 : V i0) (hs : Sub N A H (F i0) (G i0))
    (round : ∀ i, V i → AWP P N body (thenA (fun A H => ∃ j, V j ∧ μ j < μ i ∧ Sub N A H (F j) (G j)) Q) (F i) (G i)) :
    AWP P N (.loop body) Q A H := by
  intro w0 S hS w a L s
  obtain ⟨L', s'⟩ := hs w0 S hS w a.tmps L s
  obtain ⟨ds, hds⟩ : ∃ ds, a.defers = ds := ⟨_, rfl⟩
  rw [hds]
  refine wp_loop_rank (fun n a w => ∃ i L ms, V i ∧ μ i = n ∧ Sim N.n w0 S w a.tmps L (F i) (G i) ∧ a.defers = ms ++ ds ∧ Mks w0.heap.size w ms) (μ i0) ⟨i0, L', [], h0, rfl, s', hds, Mks.nil _ _⟩ ?_
  rintro n a w ⟨i, L, ms, hv, rfl, s, hd, hm⟩
  have hr := round i hv w (S.tight hS s) (tight_good hS s) w a L (tight_sim hS s)
  rw [hd] at hr
  refine wp_mono hr ?_
  intro e a' w' hp
  obtain ⟨L, A, H, s, ⟨ms, hd, hm⟩, hq⟩ := postD_then hS s hm hp
  cases e with
  | normal =>
    obtain ⟨j, hj, hlt, hsub⟩ := hq
    obtain ⟨L', s'⟩ := hsub w0 S hS w' a'.tmps L s
    exact ⟨μ j, hlt, j, L', ms, hj, rfl, s', hd, hm⟩
  | _ => exact ⟨L, A, H, s, ⟨ms, hd, hm⟩, hq⟩

/-- One operation: whatever follows it. -/
def OpV (P : Program) (N : Cx) (o : Oper) (A : Fr) (H : Hp) (K : AV → Fr → Hp → Prop) : Prop :=
  ∀ w0 S, Good N w0 S → ∀ w (a : Act) L, Sim N.n w0 S w a.tmps L A H → ∀ (next : Act → World → Prop) (Q' : Exit → Act → World → Prop),
    (∀ u r L' A' H' w', Sim N.n w0 S w' a.tmps L' A' H' → Rd w' (okb S H' L') L' r u → K r A' H' → next (a.put o.dst u) w') → owp P o a w next Q'

def AOps (P : Program) (N : Cx) (ops : Array Oper) (l : List Oper) (Q : Fr → Hp → Prop) (A : Fr) (H : Hp) : Prop :=
  ∀ w0 S, Good N w0 S → ∀ w (a : Act) L, Sim N.n w0 S w a.tmps L A H → ∀ ds, a.defers = ds →
    wpList P ops (PostW N w0 S ds (fun e A H => e = .normal ∧ Q A H)) l a w

theorem awp_region {id : Nat} {l : List Oper} (h : AOps P N l.toArray l (Q .normal) A H) : AWP P N (.region id l.toArray false) Q A H := by
  refine awp_ex fun w0 S hS w a L s ds hd => ?_
  refine wp_mono (wp_region_lit (h w0 S hS w a L s ds hd)) ?_
  rintro e a w ⟨L, A, H, s, hd, rfl, hq⟩
  exact ⟨L, A, H, s, hd, hq⟩

def putd (d : Option Tmp) (r : AV) (A : Fr) : Fr :=
  match d with
  | some d => (d, r) :: A
  | none => A

theorem Sim.putd {w0 : World} {S : Rg} {w : World} {a : Act} {L : Loc} {d : Option Tmp} (hd : ∀ t, d = some t → t < N.n) (s : Sim N.n w0 S w a.tmps L A H) {r : AV} {u : Value} (hr : Rd w (okb S H L) L r u) :
    Sim N.n w0 S w (a.put d u).tmps L (putd d r A) H := by
  cases d with
  | none => exact s
  | some t => exact s.put (hd t rfl) hr

theorem aops_nil {ops : Array Oper} {Q : Fr → Hp → Prop} (h : Q A H) : AOps P N ops [] Q A H := fun _ _ _ _ _ L s ds hd _ _ => ⟨L, A, H, s, hd, rfl, h⟩

theorem aops_cons {ops : Array Oper} {o : Oper} {rest : List Oper} {Q : Fr → Hp → Prop} (hg : o.guard = none) (hN : ∀ t, o.dst = some t → t < N.n)
    (h : OpV P N o A H fun r A' H' => AOps P N ops rest Q (putd o.dst r A') H') : AOps P N ops (o :: rest) Q A H := by
  intro w0 S hS w a L s ds hd
  refine wpList_plain hg fun K hK => h w0 S hS w a L s K _ ?_
  intro u r L' A' H' w' s' hr hk
  refine hK _ _ (hk w0 S hS w' (a.put o.dst u) L' (s'.putd hN hr) ds ?_)
  cases o.dst <;> exact hd

theorem put_defers (a : Act) (d : Option Tmp) (u : Value) : (a.put d u).defers = a.defers := by cases d <;> rfl

/-- A guarded operation, the guard's bit known. -/
theorem aops_guard {ops : Array Oper} {o : Oper} {rest : List Oper} {Q : Fr → Hp → Prop} {j : Nat} {want : Bool} {t : Tmp} {b : Bool} (hg : o.guard = some (j, want)) (hj : (ops[j]?).bind (·.dst) = some t) (ht : t < N.n)
    (hb : A.get t = some (.v (.bool b))) (hN : ∀ t, o.dst = some t → t < N.n)
    (hyes : b = want → OpV P N o A H fun r A' H' => AOps P N ops rest Q (putd o.dst r A') H') (hno : b = !want → AOps P N ops rest Q (putd o.dst (.v (.tuple #[])) A) H) : AOps P N ops (o :: rest) Q A H := by
  intro w0 S hS w a L s ds hd
  have hy : yielded ops a.tmps j = some b := by
    have h1 : a.tmps.getD t undef = .bool b := s.slot t _ hb
    have hlt : t < a.tmps.size := by rw [s.size]; exact ht
    have h2 : a.tmps[t]? = some (.bool b) := by
      simp [Array.getD, hlt] at h1
      simp [hlt, h1]
    simp [yielded, hj, h2]
  refine wpList_step fun K hK => ?_
  by_cases hbw : b = want
  · have hw : Region.wanted o (yielded ops a.tmps) = true := by simp [Region.wanted, hg, hy, hbw]
    rw [if_pos hw]
    refine hyes hbw w0 S hS w a L s K _ ?_
    intro u r L' A' H' w' s' hr hk
    exact hK _ _ (hk w0 S hS w' (a.put o.dst u) L' (s'.putd hN hr) ds (by rw [put_defers]; exact hd))
  · have hw : ¬ Region.wanted o (yielded ops a.tmps) = true := by simp [Region.wanted, hg, hy, hbw]
    rw [if_neg hw]
    refine hK _ _ (hno (by cases b <;> cases want <;> simp_all) w0 S hS w (a.put o.dst undef) L (s.putd hN (r := .v (.tuple #[])) rfl) ds (by rw [put_defers]; exact hd))

/-- .. the guard's own operation passed by. -/
theorem aops_skip {ops : Array Oper} {o : Oper} {rest : List Oper} {Q : Fr → Hp → Prop} {j : Nat} {want : Bool} {t : Tmp} {xs : Array Value} (hg : o.guard = some (j, want)) (hj : (ops[j]?).bind (·.dst) = some t) (ht : t < N.n)
    (hb : A.get t = some (.v (.tuple xs))) (hN : ∀ t, o.dst = some t → t < N.n)
    (hno : AOps P N ops rest Q (putd o.dst (.v (.tuple #[])) A) H) : AOps P N ops (o :: rest) Q A H := by
  intro w0 S hS w a L s ds hd
  have hy : yielded ops a.tmps j = none := by
    have h1 : a.tmps.getD t undef = .tuple xs := s.slot t _ hb
    have hlt : t < a.tmps.size := by rw [s.size]; exact ht
    have h2 : a.tmps[t]? = some (.tuple xs) := by
      simp [Array.getD, hlt] at h1
      simp [hlt, h1]
    simp [yielded, hj, h2]
  refine wpList_step fun K hK => ?_
  have hw : ¬ Region.wanted o (yielded ops a.tmps) = true := by simp [Region.wanted, hg, hy]
  rw [if_neg hw]
  exact hK _ _ (hno w0 S hS w (a.put o.dst undef) L (s.putd hN (r := .v (.tuple #[])) rfl) ds (by rw [put_defers]; exact hd))

/- calls -/
def RdArgs (w : World) (ok : Nat → Prop) (L : Loc) (args : List AV) (vs : Array Value) : Prop :=
  vs.size = args.length ∧ ∀ (i : Nat) (a : AV), args[i]? = some a → ∃ u, vs[i]? = some u ∧ Rd w ok L a u

def callable (P : Program) (f : FuncId) : Bool :=
  match P.funcs[f]? with
  | some fn => !(fn.name == "runtime.NumGoroutine") && fn.body.isSome
  | none => false

/-- The call of function f, whatever follows. -/
def CallG (P : Program) (N : Cx) (f : FuncId) (args : List AV) (A : Fr) (H : Hp) (K : AV → Fr → Hp → Prop) : Prop :=
  callable P f = true ∧
  ∀ w0 S, Good N w0 S → ∀ w tm L, Sim N.n w0 S w tm L A H → ∀ vs, RdArgs w (okb S H L) L args vs →
    Calls P f vs w fun e w' => ∃ u r L' A' H', e = .returned u ∧ Sim N.n w0 S w' tm L' A' H' ∧ Rd w' (okb S H' L') L' r u ∧ K r A' H'

theorem run_callFunc {f : FuncId} {vs : Array Value} {w : World} (h : callable P f = true) : (callFunc f vs).run P w = .ok (.enter f vs) w := by
  unfold callable at h
  unfold callFunc
  simp only [Sem.run_bind, run_program, Result.andThen_ok]
  cases hf : P.funcs[f]? with
  | none => simp [hf] at h
  | some fn =>
    simp only [hf, Bool.and_eq_true, Bool.not_eq_true'] at h
    obtain ⟨h1, h2⟩ := h
    have h3 : fn.body.isNone = false := by cases hb : fn.body <;> simp [hb] at h2 ⊢
    simp [h1, h3]

end
end Go.Av
end
/- What each operation asks and gives, over abstract frames: operations that turn no memory. -/
section
namespace Go.Av

def Ob (p q : Prop) : Prop := p ∧ q
theorem Ob.mk {p q : Prop} (h : p) (k : q) : Ob p q := ⟨h, k⟩
def Br (b : Bool) (x y : Prop) : Prop := (b = true → x) ∧ (b = false → y)
def BrP (p : Prop) (x y : Prop) : Prop := (p → x) ∧ (¬ p → y)
theorem Br.mk {b : Bool} {x y : Prop} (h : b = true → x) (k : b = false → y) : Br b x y := ⟨h, k⟩
theorem BrP.mk {p x y : Prop} (h : p → x) (k : ¬ p → y) : BrP p x y := ⟨h, k⟩
@[go_sem] theorem Br_true (x y : Prop) : Br true x y = x := by simp [Br]
@[go_sem] theorem Br_false (x y : Prop) : Br false x y = y := by simp [Br]
@[go_sem] theorem Br_decide (p : Prop) [Decidable p] (x y : Prop) : Br (decide p) x y = BrP p x y := by simp [Br, BrP]
@[go_sem] theorem Br_not (b : Bool) (x y : Prop) : Br (!b) x y = Br b y x := by cases b <;> simp [Br]

def withA (a : Option AV) (K : AV → Prop) : Prop :=
  match a with
  | some a => K a
  | none => False
@[go_sem] theorem withA_some (a : AV) (K : AV → Prop) : withA (some a) K = K a := rfl

section
variable {P : Program} {N : Cx} {A : Fr} {H : Hp} {K : AV → Fr → Hp → Prop}

theorem opv_val {o : Oper} (r : AV) (hK : K r A H)
    (hrun : ∀ w0 S w (a : Act) L, Sim N.n w0 S w a.tmps L A H → ∃ u, (execOp a.eval o).run P w = .ok (.value u) w ∧ Rd w (okb S H L) L r u) : OpV P N o A H K := by
  intro w0 S hS w a L s next Q' hn
  obtain ⟨u, h1, h2⟩ := hrun w0 S w a L s
  refine owp_val h1 ?_
  exact hn u r L A H w s h2 hK

/- arithmetic -/
def intVC (op : BinOp) (k : IntKind) (m n : Int) (K : AV → Prop) : Prop :=
  match op with
  | .add => K (.v (.int k (k.wrap (m + n))))
  | .sub => K (.v (.int k (k.wrap (m - n))))
  | .mul => K (.v (.int k (k.wrap (m * n))))
  | .quo => Ob (n ≠ 0) (K (.v (.int k (k.wrap (m.tdiv n)))))
  | .rem => Ob (n ≠ 0) (K (.v (.int k (m.tmod n))))
  | .and => K (.v (.int k (k.wrap (BitVec.ofInt k.bits m &&& BitVec.ofInt k.bits n).toNat)))
  | .or => K (.v (.int k (k.wrap (BitVec.ofInt k.bits m ||| BitVec.ofInt k.bits n).toNat)))
  | .xor => K (.v (.int k (k.wrap (BitVec.ofInt k.bits m ^^^ BitVec.ofInt k.bits n).toNat)))
  | .andNot => K (.v (.int k (k.wrap (BitVec.ofInt k.bits m &&& ~~~ BitVec.ofInt k.bits n).toNat)))
  | .eql => K (.v (.bool (decide (m = n))))
  | .neq => K (.v (.bool (!decide (m = n))))
  | .lss => K (.v (.bool (decide (m < n))))
  | .leq => K (.v (.bool (decide (m ≤ n))))
  | .gtr => K (.v (.bool (decide (n < m))))
  | .geq => K (.v (.bool (decide (n ≤ m))))
  | _ => False

def shVC (op : BinOp) (k : IntKind) (m n : Int) (K : AV → Prop) : Prop :=
  match op with
  | .shl => Ob (0 ≤ n) (K (.v (.int k (k.wrap (m * 2 ^ min n.toNat k.bits)))))
  | .shr => Ob (0 ≤ n) (K (.v (.int k (m.fdiv (2 ^ min n.toNat k.bits)))))
  | _ => False

def strVC (op : BinOp) (s t : ByteArray) (K : AV → Prop) : Prop :=
  match op with
  | .add => Ob (s.size + t.size ≤ 9223372036854775807) (K (.v (.string (s ++ t))))
  | .eql => K (.v (.bool (s.toList == t.toList)))
  | .neq => K (.v (.bool (!(s.toList == t.toList))))
  | _ => False

/-- Is this type's underlying type of the kind that '==' against nil, or on bools, wants? -/
inductive EqT | bool | slice | ptr | other
  deriving DecidableEq
def eqT (P : Program) (t : TypeId) : EqT :=
  match P.underlying t with
  | some .bool => .bool
  | some (.slice _) => .slice
  | some (.pointer _) => .ptr
  | _ => .other

def boolVC (P : Program) (op : BinOp) (t : TypeId) (a b : Bool) (K : AV → Prop) : Prop :=
  match op with
  | .eql => Ob (eqT P t = .bool) (K (.v (.bool (a == b))))
  | .neq => Ob (eqT P t = .bool) (K (.v (.bool (!(a == b)))))
  | _ => False

/-- Is this slice, this pointer nil? (`none`: not known) -/
def nilSl : AV → Option Bool
  | .v (.slice none _ _) => some true
  | .list nn _ n _ => if nn || 0 < n then some false else none
  | .own _ _ _ n => if 0 < n then some false else none
  | _ => none
def nilPt : AV → Option Bool
  | .v (.pointer none) => some true
  | .ref _ _ => some false
  | .ptr _ _ => some false
  | _ => none

def nilVC (op : BinOp) (a : Option Bool) (K : AV → Prop) : Prop :=
  match op, a with
  | .eql, some b => K (.v (.bool b))
  | .neq, some b => K (.v (.bool (!b)))
  | _, _ => False

def binVC (P : Program) (op : BinOp) (t : TypeId) (a b : AV) (K : AV → Prop) : Prop :=
  match a, b with
  | .v (.int k m), .v (.int k' n) =>
    match op with
    | .shl => shVC .shl k m n K
    | .shr => shVC .shr k m n K
    | op => Ob (k = k') (intVC op k m n K)
  | .v (.string s), .v (.string r) => strVC op s r K
  | .v (.bool x), .v (.bool y) => boolVC P op t x y K
  | a, .v (.slice none _ _) => Ob (eqT P t = .slice) (nilVC op (nilSl a) K)
  | a, .v (.pointer none) => Ob (eqT P t = .ptr) (nilVC op (nilPt a) K)
  | _, _ => False

def unVC (op : UnOp) (a : AV) (K : AV → Prop) : Prop :=
  match op, a with
  | .neg, .v (.int k n) => K (.v (.int k (k.wrap (0 - n))))
  | .not, .v (.bool b) => K (.v (.bool !b))
  | _, _ => False

theorem run_binOp_int (op : BinOp) (t : TypeId) (k k' : IntKind) (m n : Int) (K : AV → Prop) (h : binVC P op t (.v (.int k m)) (.v (.int k' n)) K) :
    ∃ u, (∀ w, (binOp op t (.int k m) (.int k' n)).run P w = .ok u w) ∧ K (.v u) := by
  cases op <;> simp only [binVC, shVC, intVC, Ob] at h
  case shl =>
    obtain ⟨h1, h2⟩ := h
    exact ⟨_, fun w => by simp [binOp, Op.shift, Int.not_lt.2 h1], h2⟩
  case shr =>
    obtain ⟨h1, h2⟩ := h
    exact ⟨_, fun w => by simp [binOp, Op.shift, Int.not_lt.2 h1], h2⟩
  case quo =>
    obtain ⟨rfl, h1, h2⟩ := h
    exact ⟨_, fun w => by simp [binOp, Op.intDiv, h1], h2⟩
  case rem =>
    obtain ⟨rfl, h1, h2⟩ := h
    exact ⟨_, fun w => by simp [binOp, Op.intDiv, h1], h2⟩
  all_goals
    obtain ⟨rfl, h2⟩ := h
    refine ⟨_, fun w => ?_, h2⟩
    simp [binOp, Op.intArith, Op.intBits, Op.intCmp]
  all_goals first | rfl | (rw [Bool.eq_iff_iff]; simp)

theorem run_eqGuard (op : BinOp) (t : TypeId) (x y : Operand) (a b : Value) (w : World) (h1 : ∀ cs, a ≠ .agg cs) (h2 : a ≠ .nilIface) : (eqGuard op t x y a b).run P w = .ok () w := by
  unfold eqGuard
  cases op <;> simp <;> (cases a <;> simp_all)

theorem run_binOp_str (op : BinOp) (t : TypeId) (s r : ByteArray) (K : AV → Prop) (h : binVC P op t (.v (.string s)) (.v (.string r)) K) :
    ∃ u, (∀ w, (binOp op t (.string s) (.string r)).run P w = .ok u w) ∧ K (.v u) := by
  cases op <;> simp only [binVC, strVC, Ob] at h
  case add =>
    obtain ⟨h1, h2⟩ := h
    refine ⟨_, fun w => ?_, h2⟩
    have : ¬ (IntKind.i64.max < ((s.size : Int) + (r.size : Int))) := by
      have : IntKind.i64.max = 9223372036854775807 := by decide
      omega
    simpa [binOp, Op.stringOp] using this
  all_goals exact ⟨_, fun w => by simp [binOp, Op.stringOp], h⟩

theorem eqT_bool {t : TypeId} (h : eqT P t = .bool) : P.underlying t = some .bool := by
  unfold eqT at h
  split at h <;> simp_all
theorem eqT_slice {t : TypeId} (h : eqT P t = .slice) : ∃ e, P.underlying t = some (.slice e) := by
  unfold eqT at h
  split at h <;> simp_all
theorem eqT_ptr {t : TypeId} (h : eqT P t = .ptr) : ∃ e, P.underlying t = some (.pointer e) := by
  unfold eqT at h
  split at h <;> simp_all

theorem run_equalIn_bool' (d : Nat) (t : TypeId) (a b : Bool) (w : World) (h : P.underlying t = some .bool) : (Op.equalIn (d + 1) t (.bool a) (.bool b)).run P w = .ok (a == b) w := by
  simp [Op.equalIn, run_underlying h]
theorem run_equal_bool' (t : TypeId) (a b : Bool) (w : World) (h : P.underlying t = some .bool) : (Op.equal t (.bool a) (.bool b)).run P w = .ok (a == b) w := run_equalIn_bool' 9999 t a b w h
theorem run_equalIn_slice' (d : Nat) (t e : TypeId) (a : Option Addr) (n c n' c' : Nat) (w : World) (h : P.underlying t = some (.slice e)) :
    (Op.equalIn (d + 1) t (.slice a n c) (.slice none n' c')).run P w = .ok a.isNone w := by
  cases a <;> simp [Op.equalIn, run_underlying h]
theorem run_equal_slice' (t e : TypeId) (a : Option Addr) (n c n' c' : Nat) (w : World) (h : P.underlying t = some (.slice e)) :
    (Op.equal t (.slice a n c) (.slice none n' c')).run P w = .ok a.isNone w := run_equalIn_slice' 9999 t e a n c n' c' w h
theorem run_equalIn_pointer' (d : Nat) (t e : TypeId) (a : Option Addr) (w : World) (h : P.underlying t = some (.pointer e)) :
    (Op.equalIn (d + 1) t (.pointer a) (.pointer none)).run P w = .ok a.isNone w := by
  cases a <;> simp [Op.equalIn, run_underlying h]
theorem run_equal_pointer' (t e : TypeId) (a : Option Addr) (w : World) (h : P.underlying t = some (.pointer e)) :
    (Op.equal t (.pointer a) (.pointer none)).run P w = .ok a.isNone w := run_equalIn_pointer' 9999 t e a w h

theorem run_binOp_bool (op : BinOp) (t : TypeId) (a b : Bool) (K : AV → Prop) (h : binVC P op t (.v (.bool a)) (.v (.bool b)) K) :
    ∃ u, (∀ w, (binOp op t (.bool a) (.bool b)).run P w = .ok u w) ∧ K (.v u) := by
  cases op <;> simp only [binVC, boolVC, Ob] at h
  all_goals
    obtain ⟨h1, h2⟩ := h
    have h3 := fun w => run_equal_bool' t a b w (eqT_bool h1)
    refine ⟨_, fun w => ?_, h2⟩
    simp [binOp, h3]

theorem nilSl_ok {a : AV} {b : Bool} (h : nilSl a = some b) {w : World} {ok : Nat → Prop} {L : Loc} {u : Value} (hu : Rd w ok L a u) : ∃ x n c, u = .slice x n c ∧ x.isNone = b := by
  unfold nilSl at h
  split at h
  · simp only [Option.some.injEq] at h; subst h; exact ⟨_, _, _, hu, rfl⟩
  · rename_i nn sz n f
    obtain ⟨x, cap, h1, h2, h3, h4, _⟩ := hu
    refine ⟨x, n, cap, h1, ?_⟩
    split at h
    · rename_i hc
      simp only [Option.some.injEq] at h
      subst h
      cases x with
      | some x => rfl
      | none =>
        simp at hc
        rcases hc with hc | hc
        · exact absurd rfl (h3 hc)
        · have := (h4 rfl).1; omega
    · simp at h
  · rename_i h0 off sz n
    split at h
    · rename_i hc
      simp only [Option.some.injEq] at h
      subst h
      simp only [Rd] at hu
      split at hu
      · omega
      · obtain ⟨x, cap, h1, _⟩ := hu
        exact ⟨some x, n, cap, h1, rfl⟩
    · simp at h
  · simp at h
theorem nilPt_ok {a : AV} {b : Bool} (h : nilPt a = some b) {w : World} {ok : Nat → Prop} {L : Loc} {u : Value} (hu : Rd w ok L a u) : ∃ x, u = .pointer x ∧ x.isNone = b := by
  unfold nilPt at h
  split at h <;> simp only [Option.some.injEq, reduceCtorEq] at h
  · subst h; exact ⟨_, hu, rfl⟩
  · subst h; obtain ⟨b, s, _, h2⟩ := hu; exact ⟨_, h2, rfl⟩
  · subst h; obtain ⟨p, h1, _⟩ := hu; exact ⟨_, h1, rfl⟩

theorem run_binOp (op : BinOp) (t : TypeId) (x y : Operand) (a b : AV) (K : AV → Prop) (w : World) {ok : Nat → Prop} {L : Loc} {u v : Value} (hu : Rd w ok L a u) (hv : Rd w ok L b v)
    (h : binVC P op t a b K) : ∃ r, (∀ w, (do eqGuard op t x y u v; binOp op t u v : Sem Value).run P w = .ok r w) ∧ K (.v r) := by
  have fin : ∀ r, (∀ cs, u ≠ .agg cs) → u ≠ .nilIface → (∀ w, (binOp op t u v).run P w = .ok r w) → ∀ w, (do eqGuard op t x y u v; binOp op t u v : Sem Value).run P w = .ok r w := by
    intro r h1 h2 h3 w
    simp [run_eqGuard op t x y u v w h1 h2, h3]
  unfold binVC at h
  split at h
  · obtain ⟨r, h1, h2⟩ := run_binOp_int op t _ _ _ _ K h
    cases hu; cases hv
    exact ⟨r, fin r (by simp) (by simp) h1, h2⟩
  · obtain ⟨r, h1, h2⟩ := run_binOp_str op t _ _ K h
    cases hu; cases hv
    exact ⟨r, fin r (by simp) (by simp) h1, h2⟩
  · obtain ⟨r, h1, h2⟩ := run_binOp_bool op t _ _ K h
    cases hu; cases hv
    exact ⟨r, fin r (by simp) (by simp) h1, h2⟩
  · obtain ⟨h1, h2⟩ := h
    obtain ⟨e, he⟩ := eqT_slice h1
    cases hv
    cases hn : nilSl a with
    | none => cases op <;> simp [nilVC, hn] at h2
    | some c =>
      obtain ⟨x, n, cc, rfl, rfl⟩ := nilSl_ok hn hu
      have hr := fun n' c' w => run_equal_slice' t e x n cc n' c' w he
      cases op <;> simp only [nilVC, hn] at h2
      all_goals exact ⟨_, fin _ (by simp) (by simp) (fun w => by simp [binOp, hr]), h2⟩
  · obtain ⟨h1, h2⟩ := h
    obtain ⟨e, he⟩ := eqT_ptr h1
    cases hv
    cases hn : nilPt a with
    | none => cases op <;> simp [nilVC, hn] at h2
    | some c =>
      obtain ⟨x, rfl, rfl⟩ := nilPt_ok hn hu
      have hr := fun w => run_equal_pointer' t e x w he
      cases op <;> simp only [nilVC, hn] at h2
      all_goals exact ⟨_, fin _ (by simp) (by simp) (fun w => by simp [binOp, hr]), h2⟩
  · exact h.elim

/-- A value of an interface type against the literal nil. -/
def ifT (P : Program) (t : TypeId) : Bool :=
  match P.underlying t with
  | some (.interface _) => true
  | _ => false
def nilIfVC (op : BinOp) (b : Bool) (K : AV → Prop) : Prop :=
  match op with
  | .eql => K (.v (.bool b))
  | .neq => K (.v (.bool !b))
  | _ => False
def bin2VC (P : Program) (op : BinOp) (t : TypeId) (y : Operand) (a b : AV) (K : AV → Prop) : Prop :=
  match y, a with
  | .const .nilIface, .v .nilIface => Ob (ifT P t = true) (nilIfVC op true K)
  | .const .nilIface, .v (.iface _ _) => Ob (ifT P t = true) (nilIfVC op false K)
  | _, a => binVC P op t a b K
theorem ifT_ok {P : Program} {t : TypeId} (h : ifT P t = true) : ∃ ms, P.underlying t = some (.interface ms) := by
  unfold ifT at h
  split at h
  · exact ⟨_, ‹_›⟩
  · cases h
theorem run_equalIn_nil {P : Program} (d : Nat) (t : TypeId) (ms : _) (w : World) (h : P.underlying t = some (.interface ms)) : (Op.equalIn (d + 1) t .nilIface .nilIface).run P w = .ok true w := by
  simp [Op.equalIn, run_underlying h]
theorem run_equalIn_if {P : Program} (d : Nat) (t te : TypeId) (pe : Value) (ms : _) (w : World) (h : P.underlying t = some (.interface ms)) : (Op.equalIn (d + 1) t (.iface te pe) .nilIface).run P w = .ok false w := by
  simp [Op.equalIn, run_underlying h]
theorem run_equal_nil {P : Program} (t : TypeId) (ms : _) (w : World) (h : P.underlying t = some (.interface ms)) : (Op.equal t .nilIface .nilIface).run P w = .ok true w := run_equalIn_nil 9999 t ms w h
theorem run_equal_if {P : Program} (t te : TypeId) (pe : Value) (ms : _) (w : World) (h : P.underlying t = some (.interface ms)) : (Op.equal t (.iface te pe) .nilIface).run P w = .ok false w := run_equalIn_if 9999 t te pe ms w h
theorem run_bin2 {P : Program} (op : BinOp) (t : TypeId) (x y : Operand) (a b : AV) (K : AV → Prop) (w : World) {ok : Nat → Prop} {L : Loc} {u v : Value} (hu : Rd w ok L a u) (hv : Rd w ok L b v) (hy : ∀ c, y = .const c → v = c)
    (h : bin2VC P op t y a b K) : ∃ r, (∀ w, (do eqGuard op t x y u v; binOp op t u v : Sem Value).run P w = .ok r w) ∧ K (.v r) := by
  unfold bin2VC at h
  split at h
  · obtain ⟨h1, h2⟩ := h
    obtain ⟨ms, hm⟩ := ifT_ok h1
    have e := hy _ rfl
    subst e
    cases hu
    have hr := fun w => run_equal_nil t ms w hm
    cases op <;> simp only [nilIfVC] at h2
    all_goals exact ⟨_, fun w => by simp [eqGuard, binOp, hr], h2⟩
  · obtain ⟨h1, h2⟩ := h
    obtain ⟨ms, hm⟩ := ifT_ok h1
    have e := hy _ rfl
    subst e
    cases hu
    have hr := fun te pe w => run_equal_if t te pe ms w hm
    cases op <;> simp only [nilIfVC] at h2
    all_goals exact ⟨_, fun w => by simp [eqGuard, binOp, hr], h2⟩
  · exact run_binOp op t x y _ _ K w hu hv h

theorem run_unary (op : UnOp) (a : AV) (K : AV → Prop) (w : World) {ok : Nat → Prop} {L : Loc} {u : Value} (hu : Rd w ok L a u) (h : unVC op a K) : ∃ r, (∀ w, (Op.unary op u).run P w = .ok r w) ∧ K (.v r) := by
  unfold unVC at h
  split at h
  · cases hu; exact ⟨_, fun w => by simp [Op.unary, Op.intArith], h⟩
  · cases hu; exact ⟨_, fun w => by simp [Op.unary], h⟩
  · exact h.elim

end
end Go.Av
end
/- What each operation asks and gives, over abstract frames: reads, places, lengths. -/
section
namespace Go.Av

/-- A slice type's element type: its number, its cells, its bytes, its zero value's cells. -/
structure SE where
  e : TypeId
  size : Nat
  bytes : Nat
  zero : List Value

def selOf (P : Program) (t : TypeId) : Option SE :=
  match P.underlying t with
  | some (.slice e) =>
    match P.info? e with
    | some i =>
      match i.zero with
      | some z => if z.cells.size = i.size then some ⟨e, i.size, i.bytes, z.cells.toList⟩ else none
      | none => none
    | none => none
  | _ => none

theorem selOf_ok {P : Program} {t : TypeId} {se : SE} (h : selOf P t = some se) :
    P.underlying t = some (.slice se.e) ∧ ∃ i z, P.info? se.e = some i ∧ i.size = se.size ∧ i.bytes = se.bytes ∧ i.zero = some z ∧ z.cells.toList = se.zero ∧ z.cells.size = i.size := by
  unfold selOf at h
  split at h
  · rename_i e hu
    split at h
    · rename_i i hi
      split at h
      · rename_i z hz
        split at h
        · rename_i hs
          simp only [Option.some.injEq] at h
          subst h
          exact ⟨hu, i, z, hi, rfl, rfl, hz, rfl, hs⟩
        · simp at h
      · simp at h
    · simp at h
  · simp at h

/-- A variable's type: is it a struct or an array? how many cells? its zero value's cells. -/
structure TY where
  agg : Bool
  size : Nat
  zero : List Value

def isAggD : TypeDesc → Bool
  | .struct _ | .array _ _ => true
  | _ => false

def tyOf (P : Program) (t : TypeId) : Option TY :=
  match P.underlying t, P.info? t with
  | some d, some i =>
    match i.zero with
    | some z => if z.cells.size = i.size then some ⟨isAggD d, i.size, z.cells.toList⟩ else none
    | none => none
  | _, _ => none

theorem tyOf_ok {P : Program} {t : TypeId} {ty : TY} (h : tyOf P t = some ty) :
    (∀ w, (isAgg t).run P w = .ok ty.agg w) ∧ (∀ w, (sizeOf t).run P w = .ok ty.size w) ∧ ∃ z, (∀ w, (zeroValue t).run P w = .ok z w) ∧ z.cells.toList = ty.zero ∧ ty.zero.length = ty.size := by
  unfold tyOf at h
  split at h
  · rename_i d i hu hi
    split at h
    · rename_i z hz
      split at h
      · rename_i hs
        simp only [Option.some.injEq] at h
        subst h
        refine ⟨fun w => ?_, fun w => by simp [sizeOf, typeInfo, hi], z, fun w => by simp [zeroValue, typeInfo, hi, hz], rfl, by simp [hs]⟩
        simp [isAgg, run_underlying hu, isAggD]
        cases d <;> rfl
      · simp at h
    · simp at h
  · simp at h

section
variable {P : Program} {N : Cx} {A : Fr} {H : Hp} {K : AV → Fr → Hp → Prop}

/- len, cap -/
def lenVC (a : AV) (K : AV → Prop) : Prop :=
  match a with
  | .list _ _ n _ => K (.v (.int .i64 n))
  | .own _ _ _ n => K (.v (.int .i64 n))
  | .v (.slice _ n _) => K (.v (.int .i64 n))
  | .v (.string s) => K (.v (.int .i64 s.size))
  | _ => False

/-- What len asks of a type. -/
inductive LenT | str | slice | other
  deriving DecidableEq
def lenT (P : Program) (t : TypeId) : LenT :=
  match P.underlying t with
  | some .string => .str
  | some (.slice _) => .slice
  | _ => .other
def lenTOk : LenT → AV → Bool
  | .str, .v (.string _) => true
  | .slice, .list .. => true
  | .slice, .own .. => true
  | .slice, .v (.slice ..) => true
  | _, _ => false

theorem own_form {w : World} {ok : Nat → Prop} {L : Loc} {h off sz n : Nat} {u : Value} (hu : Rd w ok L (.own h off sz n) u) : ∃ x cap, u = .slice x n cap ∧ n ≤ cap := by
  simp only [Rd] at hu
  split at hu
  · obtain ⟨rfl, rfl⟩ := hu; exact ⟨none, 0, rfl, Nat.le_refl _⟩
  · obtain ⟨x, cap, h1, h2, _⟩ := hu; exact ⟨some x, cap, h1, h2⟩

theorem run_len {t ty : TypeId} {a : AV} {u : Value} {w : World} {ok : Nat → Prop} {L : Loc} (K : AV → Prop) (ht : lenTOk (lenT P t) a = true) (hu : Rd w ok L a u) (h : lenVC a K) :
    ∃ r, (∀ w, (Builtin.len_ #[t] ty #[u]).run P w = .ok r w) ∧ K (.v r) := by
  have hs : lenT P t = .slice → ∃ e, P.underlying t = some (.slice e) := by
    intro h; unfold lenT at h; split at h <;> simp_all
  have hstr : lenT P t = .str → P.underlying t = some .string := by
    intro h; unfold lenT at h; split at h <;> simp_all
  unfold lenTOk at ht
  split at ht
  · rename_i hq
    cases hu
    exact ⟨_, fun w => by simp [Builtin.len_, goInt, run_underlying (hstr hq)], h⟩
  · rename_i hq
    obtain ⟨e, he⟩ := hs hq
    obtain ⟨x, cap, rfl, _⟩ := hu
    exact ⟨_, fun w => by simp [Builtin.len_, goInt, run_underlying he], h⟩
  · rename_i hq
    obtain ⟨e, he⟩ := hs hq
    obtain ⟨x, cap, rfl, _⟩ := own_form hu
    exact ⟨_, fun w => by simp [Builtin.len_, goInt, run_underlying he], h⟩
  · rename_i hq
    obtain ⟨e, he⟩ := hs hq
    cases hu
    exact ⟨_, fun w => by simp [Builtin.len_, goInt, run_underlying he], h⟩
  · simp at ht

/- places -/
/-- What an index reaches: a slice's elements, or those of an array's variable (so many), and their cells. -/
inductive IX where
  | sl (size : Nat)
  | arr (len size : Nat)
def ixOf (P : Program) (t : TypeId) : Option IX :=
  match P.underlying t with
  | some (.slice e) =>
    match P.info? e with
    | some i => some (.sl i.size)
    | none => none
  | some (.array n e) =>
    match P.info? e with
    | some i => some (.arr n i.size)
    | none => none
  | _ => none
theorem ixOf_sl {P : Program} {t : TypeId} {s : Nat} (h : ixOf P t = some (.sl s)) : ∃ e i, P.underlying t = some (.slice e) ∧ P.info? e = some i ∧ i.size = s := by
  unfold ixOf at h
  split at h
  · rename_i e hu
    split at h
    · rename_i i hi
      simp only [Option.some.injEq, IX.sl.injEq] at h
      exact ⟨e, i, hu, hi, h⟩
    · simp at h
  · split at h <;> simp at h
  · simp at h
theorem ixOf_arr {P : Program} {t : TypeId} {m s : Nat} (h : ixOf P t = some (.arr m s)) : ∃ e i, P.underlying t = some (.array m e) ∧ P.info? e = some i ∧ i.size = s := by
  unfold ixOf at h
  split at h
  · split at h <;> simp at h
  · rename_i n e hu
    split at h
    · rename_i i hi
      simp only [Option.some.injEq, IX.arr.injEq] at h
      obtain ⟨rfl, h⟩ := h
      exact ⟨e, i, hu, hi, h⟩
    · simp at h
  · simp at h
def ixVC (ix : Option IX) (a b : AV) (K : AV → Prop) : Prop :=
  match ix, a, b with
  | some (.sl s), .list _ sz n f, .v (.int _ i) => Ob (sz = s ∧ 0 < sz) (Ob (0 ≤ i ∧ i < n) (K (.ptr sz fun j => f (i.toNat * sz + j))))
  | some (.sl s), .own h off sz n, .v (.int _ i) => Ob (sz = s ∧ 0 < sz) (Ob (0 ≤ i ∧ i < n) (K (.ref h (off + i.toNat * sz))))
  | some (.arr m s), .ref h off, .v (.int _ i) => Ob (0 ≤ i ∧ i < m) (K (.ref h (off + i.toNat * s)))
  | some (.arr m s), .ptr n f, .v (.int _ i) => Ob (0 ≤ i ∧ i < m) (K (.ptr (n - i.toNat * s) fun j => f (i.toNat * s + j)))
  | _, _, _ => False

theorem Addr_add (b o k : Nat) : (⟨b, o, none⟩ : Addr).add k = ⟨b, o + k, none⟩ := by
  unfold Addr.add; split <;> simp_all
theorem Addr_eq {p : Addr} (h : p.spot = none) : p = ⟨p.block, p.off, none⟩ := by cases p; simp_all

theorem run_indexAt {t : TypeId} {a b : AV} {u v : Value} {w : World} {ok : Nat → Prop} {L : Loc} (K : AV → Prop) (hu : Rd w ok L a u) (hv : Rd w ok L b v) (h : ixVC (ixOf P t) a b K) :
    ∃ r x, (∀ w, (Instr.indexAt t u v).run P w = .ok r w) ∧ Rd w ok L x r ∧ K x := by
  unfold ixVC at h
  split at h
  · rename_i s nn sz n f k i hse
    obtain ⟨e, ii, hut, hi, hsz⟩ := ixOf_sl hse
    obtain ⟨⟨e1, e1'⟩, ⟨e2, e3⟩, hK⟩ := h
    obtain ⟨x, cap, rfl, h1, h2, h3, h4⟩ := hu
    cases hv
    have hn : 0 < n := by omega
    cases x with
    | none => exact absurd (h3 rfl).1 (by omega)
    | some p =>
      have hc := h4 p rfl
      have hp : p.spot = none := (hc (i.toNat * sz) (Nat.mul_lt_mul_of_pos_right (by omega) e1')).1
      refine ⟨_, _, fun w => by simp [Instr.indexAt, run_underlying hut, asIntOf, e2, e3, sizeOf, typeInfo, hi]; rfl, ?_, hK⟩
      rw [Addr_eq hp, Addr_add, hsz, ← e1]
      refine ⟨_, rfl, rfl, fun j hj => ?_⟩
      have hb : i.toNat * sz + j < n * sz := by
        have h5 : i.toNat + 1 ≤ n := by omega
        have h6 := Nat.mul_le_mul_right sz h5
        rw [Nat.succ_mul] at h6
        omega
      have := (hc _ hb).2
      simpa [Nat.add_assoc] using this
  · rename_i s hh off sz n k i hse
    obtain ⟨e, ii, hut, hi, hsz⟩ := ixOf_sl hse
    obtain ⟨⟨e1, e1'⟩, ⟨e2, e3⟩, hK⟩ := h
    cases hv
    simp only [Rd] at hu
    split at hu
    · obtain ⟨_, h0⟩ := hu; omega
    · rename_i b s hl
      obtain ⟨p, cap, rfl, h1, h2, h3, h4, h5, _⟩ := hu
      refine ⟨_, _, fun w => by simp [Instr.indexAt, run_underlying hut, asIntOf, e2, e3, sizeOf, typeInfo, hi]; rfl, ?_, hK⟩
      rw [Addr_eq h4, Addr_add, hsz, ← e1, h3, h5 (by omega)]
      exact ⟨b, s, hl, by simp [Nat.add_assoc]⟩
  · rename_i m s hh off k i hse
    obtain ⟨e, ii, hut, hi, hsz⟩ := ixOf_arr hse
    obtain ⟨⟨e2, e3⟩, hK⟩ := h
    cases hv
    obtain ⟨b, s', hl, rfl⟩ := hu
    refine ⟨_, _, fun w => by simp [Instr.indexAt, Instr.sureAddr, run_underlying hut, asIntOf, e2, e3, sizeOf, typeInfo, hi]; rfl, ?_, hK⟩
    rw [Addr_add, hsz]
    exact ⟨b, s', hl, by simp [Nat.add_assoc]⟩
  · rename_i m s n f k i hse
    obtain ⟨e, ii, hut, hi, hsz⟩ := ixOf_arr hse
    obtain ⟨⟨e2, e3⟩, hK⟩ := h
    cases hv
    obtain ⟨p, rfl, hp, hc⟩ := hu
    refine ⟨_, _, fun w => by simp [Instr.indexAt, Instr.sureAddr, run_underlying hut, asIntOf, e2, e3, sizeOf, typeInfo, hi]; rfl, ?_, hK⟩
    rw [Addr_eq hp, Addr_add, hsz]
    refine ⟨_, rfl, rfl, fun j hj => ?_⟩
    have := hc (i.toNat * s + j) (by omega)
    simpa [Nat.add_assoc] using this
  · exact h.elim

/- loads -/
def ldVC (ty : Option TY) (H : Hp) (a : AV) (K : AV → Prop) : Prop :=
  match ty, a with
  | some ⟨false, _, _⟩, .ptr n f => Ob (0 < n) (K (f 0))
  | some ⟨true, s, _⟩, .ptr n f => Ob (s ≤ n) (K (.agg s f))
  | some ⟨false, _, _⟩, .ref h off =>
    match H h with
    | some (.cells n f) => Ob (off < n) (K (f off))
    | _ => False
  | some ⟨true, s, _⟩, .ref h off =>
    match H h with
    | some (.cells n f) => Ob (off + s ≤ n) (K (.agg s fun j => f (off + j)))
    | _ => False
  | _, _ => False

theorem run_loadCells_rd {w : World} {ok : Nat → Prop} {L : Loc} (b o n : Nat) (f : Nat → AV) (h : ∀ i, i < n → ∃ c, w.cell? ⟨b, o + i, none⟩ = some c ∧ Rd w ok L (f i) c) :
    ∃ cs, (loadCells ⟨b, o, none⟩ n).run P w = .ok cs w ∧ cs.size = n ∧ ∀ i, i < n → ∃ c, cs[i]? = some c ∧ Rd w ok L (f i) c ∧ w.cell? ⟨b, o + i, none⟩ = some c := by
  have hf : ∀ i, ∃ c, i < n → w.cell? ⟨b, o + i, none⟩ = some c ∧ Rd w ok L (f i) c := fun i => by
    by_cases hi : i < n
    · obtain ⟨c, hc⟩ := h i hi; exact ⟨c, fun _ => hc⟩
    · exact ⟨undef, fun h => absurd h hi⟩
  have hg := Classical.axiomOfChoice hf
  obtain ⟨g, hg⟩ := hg
  refine ⟨_, run_loadCells w ⟨b, o, none⟩ n g (fun j hj => by rw [Addr_add]; exact (hg j hj).1), by simp, fun i hi => ?_⟩
  exact ⟨g i, by simp [hi], (hg i hi).2, (hg i hi).1⟩

theorem run_loadAt {t : TypeId} {a : AV} {u : Value} {w0 : World} {S : Rg} {w : World} {tm : Array Value} {L : Loc} (s : Sim N.n w0 S w tm L A H) (K : AV → Prop) (hu : Rd w (okb S H L) L a u) (h : ldVC (tyOf P t) H a K) :
    ∃ r x, (∀ w', (∀ b, b < w.heap.size → w'.heap[b]? = w.heap[b]?) → (Instr.loadAt t u).run P w' = .ok r w') ∧ Rd w (okb S H L) L x r ∧ K x := by
  have same : ∀ (w' : World), (∀ b, b < w.heap.size → w'.heap[b]? = w.heap[b]?) → ∀ (b o : Nat) (c : Value), w.cell? ⟨b, o, none⟩ = some c → w'.cell? ⟨b, o, none⟩ = some c := by
    intro w' hw b o c hc
    have hlt := World.block_lt_of_cell? w _ hc
    rw [World.cell?_of_block (w := w) (a := ⟨b, o, none⟩) (hw b hlt)]; exact hc
  have sameL : ∀ (w' : World), (∀ b, b < w.heap.size → w'.heap[b]? = w.heap[b]?) → ∀ (b o n : Nat) (cs : Array Value), cs.size = n → (∀ i, i < n → ∃ c, cs[i]? = some c ∧ w.cell? ⟨b, o + i, none⟩ = some c) → (loadCells ⟨b, o, none⟩ n).run P w' = .ok cs w' := by
    intro w' hw b o n cs hn hc
    have := run_loadCells_list (P := P) w' ⟨b, o, none⟩ cs.toList (fun j v hj => by
      have hjl : j < n := by have := (List.getElem?_eq_some_iff.1 hj).1; simp at this; omega
      obtain ⟨c, h1, h2⟩ := hc j hjl
      rw [Addr_add]
      simp only [Array.getElem?_toList] at hj
      rw [h1] at hj
      simp only [Option.some.injEq] at hj
      subst hj
      exact same w' hw _ _ _ h2)
    simpa [hn] using this
  unfold ldVC at h
  split at h
  · rename_i sz z n f hty
    obtain ⟨hag, _⟩ := tyOf_ok hty
    obtain ⟨p, rfl, hp, hc⟩ := hu
    obtain ⟨h1, hK⟩ := h
    obtain ⟨_, c, hc1, hc2⟩ := hc 0 h1
    rw [Addr_eq hp]
    exact ⟨c, _, fun w' hw => by simp only [Nat.add_zero] at hc1; simp [Instr.loadAt, Instr.sureAddr, loadVar, hag, same w' hw _ _ _ hc1], hc2 L, hK⟩
  · rename_i sz z n f hty
    obtain ⟨hag, hsz, _⟩ := tyOf_ok hty
    obtain ⟨p, rfl, hp, hc⟩ := hu
    obtain ⟨h1, hK⟩ := h
    rw [Addr_eq hp]
    obtain ⟨cs, k1, k2, k3⟩ := run_loadCells_rd (P := P) (w := w) (ok := okb S H L) (L := L) p.block p.off sz f (fun i hi => let ⟨_, c, k1, k2⟩ := hc i (by omega); ⟨c, k1, k2 L⟩)
    exact ⟨.agg cs, .agg sz f, fun w' hw => by simp [Instr.loadAt, Instr.sureAddr, loadVar, hag, hsz, sameL w' hw _ _ _ cs k2 (fun i hi => let ⟨c, k4, _, k6⟩ := k3 i hi; ⟨c, k4, k6⟩)], ⟨cs, rfl, k2, fun i hi => let ⟨c, k4, k5, _⟩ := k3 i hi; ⟨c, k4, k5⟩⟩, hK⟩
  · rename_i sz z hh off hty
    obtain ⟨hag, _⟩ := tyOf_ok hty
    split at h
    · rename_i n f hH
      obtain ⟨h1, hK⟩ := h
      obtain ⟨b, s', hl, rfl⟩ := hu
      have hb := s.blk hh _ hH
      rw [hl] at hb
      obtain ⟨cs, e, ⟨fz, k1, _⟩, k2, k3⟩ := hb
      obtain ⟨c, k4, k5⟩ := k3 off h1
      have hcell : w.cell? ⟨b, s' + off, none⟩ = some c := by simp [World.cell?, k1, k4]
      exact ⟨c, _, fun w' hw => by simp [Instr.loadAt, Instr.sureAddr, loadVar, hag, same w' hw _ _ _ hcell], k5, hK⟩
    · exact h.elim
  · rename_i sz z hh off hty
    obtain ⟨hag, hsz, _⟩ := tyOf_ok hty
    split at h
    · rename_i n f hH
      obtain ⟨h1, hK⟩ := h
      obtain ⟨b, s', hl, rfl⟩ := hu
      have hb := s.blk hh _ hH
      rw [hl] at hb
      obtain ⟨cs, e, ⟨fz, k1, _⟩, k2, k3⟩ := hb
      obtain ⟨cs', j1, j2, j3⟩ := run_loadCells_rd (P := P) (w := w) (ok := okb S H L) (L := L) b (s' + off) sz (fun j => f (off + j)) (fun i hi => by
        obtain ⟨c, k4, k5⟩ := k3 (off + i) (by omega)
        exact ⟨c, by simp [World.cell?, k1, Nat.add_assoc, k4], k5⟩)
      exact ⟨.agg cs', .agg sz fun j => f (off + j), fun w' hw => by simp [Instr.loadAt, Instr.sureAddr, loadVar, hag, hsz, sameL w' hw _ _ _ cs' j2 (fun i hi => let ⟨c, k4, _, k6⟩ := j3 i hi; ⟨c, k4, k6⟩)], ⟨cs', rfl, j2, fun i hi => let ⟨c, k4, k5, _⟩ := j3 i hi; ⟨c, k4, k5⟩⟩, hK⟩
    · exact h.elim
  · exact h.elim

end
end Go.Av
end
/- What each operation asks and gives, over abstract frames: stores, new blocks, append, copy. -/
section
namespace Go.Av

def setF (f : Nat → AV) (i : Nat) (x : AV) : Nat → AV := fun j => if j = i then x else f j
def setsF (f : Nat → AV) (off n : Nat) (g : Nat → AV) : Nat → AV := fun j => if off ≤ j ∧ j < off + n then g (j - off) else f j
def apF (n : Nat) (f g : Nat → AV) : Nat → AV := fun j => if j < n then f j else g (j - n)
def shF (k : Nat) (f : Nat → AV) : Nat → AV := fun j => f (k + j)
def zF (zs : List Value) : Nat → AV := fun i => .v (zs.getD (i % zs.length) undef)
def vecF (l : List AV) : Nat → AV := fun i => l.getD i .dead

def AV.one : AV → Bool
  | .v x => x.oneCell'
  | .agg .. | .tup .. | .dead => false
  | _ => true

theorem Rd.one {w : World} {ok : Nat → Prop} {L : Loc} {a : AV} {u : Value} (h : a.one = true) (hu : Rd w ok L a u) : u.oneCell' = true := by
  cases a <;> simp only [AV.one, Bool.false_eq_true] at h
  case v x => cases hu; exact h
  case list => obtain ⟨x, cap, rfl, _⟩ := hu; rfl
  case own => obtain ⟨x, cap, rfl, _⟩ := own_form hu; rfl
  case ref => obtain ⟨b, s, _, rfl⟩ := hu; rfl
  case ptr => obtain ⟨p, rfl, _⟩ := hu; rfl
  case clo => obtain ⟨cs, rfl, _⟩ := hu; rfl
  case map => obtain ⟨b, s, _, rfl⟩ := hu; rfl

theorem oneCell_cells {u : Value} (h : u.oneCell' = true) : u.cells = #[u] := by cases u <;> first | rfl | simp [Value.oneCell'] at h

section
variable {N : Cx} {w0 : World} {S : Rg} {w w' : World} {tm : Array Value} {L L' : Loc} {A : Fr} {H H' : Hp}

theorem keep_setRow {b : Nat} {cs cs' : Array Value} {e : TypeId} {fz : Nat × Nat} (h : w.heap[b]? = some (.cells cs e fz)) (hs : cs'.size = cs.size) : Keep w (fun k => k = b) (w.setRow b cs') where
  os := rfl
  tape := rfl
  output := rfl
  size := by simp
  blk k _ hk := setRow_other w b k cs' hk
  shape k c' e' fz' hk := by
    by_cases hkb : k = b
    · subst hkb
      rw [h] at hk
      simp only [Option.some.injEq, Obj.cells.injEq] at hk
      obtain ⟨rfl, rfl, rfl⟩ := hk
      exact ⟨cs', setRow_heap w k cs cs' e fz h, hs⟩
    · exact ⟨c', (setRow_other w b k cs' hkb).trans hk, rfl⟩

theorem keep_alloc (o : Obj) (w1 : World) (h1 : w1 = w.alloc o) : Keep w (fun k => k = w.heap.size) w1 := by
  subst h1
  refine ⟨rfl, rfl, rfl, by simp, fun k hk _ => heap_alloc_old w o (h := hk), fun k cs e fz hk => ⟨cs, ?_, rfl⟩⟩
  rw [heap_alloc_old w o (h := (Array.getElem?_eq_some_iff.1 hk).1)]; exact hk

/-- A block of a name is written: the name stays where it is. -/
theorem Sim.write (s : Sim N.n w0 S w tm L A H) (hS : Good N w0 S) {h b o : Nat} {B : Blk} (hH : H h ≠ none) (hl : L h = some (b, o))
    (hw : Keep w (fun k => k = b) w') (hB : BlkOk w w' (okb S H L) L (some (b, o)) B) : Sim N.n w0 S w' tm L A (H.upd h B) := by
  have := s.put_blk hS.new h b o B hw (fun k hk hne => hw.blk k hk hne) (.inr ⟨hH, o, hl⟩) hB (p := fun _ => false) (fun g _ hg => hg ▸ hl) (.inr hl)
  rw [Fr.scrub_none, Hp.scrub_none] at this
  have hL : (fun g => if g = h then some (b, o) else L g) = L := by
    funext g
    by_cases hg : g = h
    · simp [hg, hl]
    · simp [hg]
  rwa [hL] at this

/-- A new block of cells, by the name d. -/
theorem Sim.alloc (s : Sim N.n w0 S w tm L A H) (hS : Good N w0 S) (d : Nat) (cs : Array Value) (e : TypeId) {n : Nat} {f : Nat → AV} (hn : n ≤ cs.size)
    (hf : ∀ i, i < n → ∃ c, cs[i]? = some c ∧ Rd w (okb S H L) L (f i) c) (hd : N.pn d = false) :
    Sim N.n w0 S (w.alloc (.cells cs e)) tm (fun h => if h = d then some (w.heap.size, 0) else L h) (A.scrub (· == d)) ((H.upd d (.cells n f)).scrub (· == d)) := by
  refine s.put_blk hS.new d w.heap.size 0 (.cells n f) (keep_alloc _ _ rfl) (fun k hk _ => heap_alloc_old w _ (h := hk)) (.inl rfl) ⟨cs, e, .of (heap_alloc_new w _), by omega, fun i hi => by simpa using hf i hi⟩ ?_ (.inl (hS.free d hd))
  intro h hp hd
  simp [hd] at hp

/-- The name d means nothing yet: a nil slice. -/
theorem Sim.nil (s : Sim N.n w0 S w tm L A H) (hS : Good N w0 S) (d : Nat) (f : Nat → AV) (hpn : N.pn d = false) :
    Sim N.n w0 S w tm (fun h => if h = d then none else L h) (A.scrub (· == d)) ((H.upd d (.cells 0 f)).scrub (· == d)) := by
  have live : ∀ h, ((H.upd d (.cells 0 f)).scrub (· == d)) h ≠ none → h ≠ d → H h ≠ none := by
    intro h hn hd
    simpa [Hp.scrub, Hp.upd, hd] using hn
  have hsame : ∀ b, b < w.heap.size → okb S H L b → okb S ((H.upd d (.cells 0 f)).scrub (· == d)) (fun h => if h = d then none else L h) b ∧ w.heap[b]? = w.heap[b]? := by
    intro b _ ho
    refine ⟨⟨ho.1, fun h q hn hq => ?_⟩, rfl⟩
    by_cases hd : h = d
    · simp [hd] at hq
    · simp only [hd, if_false] at hq
      exact ho.2 h q (live h hn hd) hq
  have hL : ∀ h, (h == d) = false → (fun h => if h = d then none else L h) h = L h := by
    intro h hh
    simp at hh
    simp [hh]
  refine s.step (Keep.refl w S.wr) hsame hL ?_ ?_ ?_ ?_
  · intro h l hl
    by_cases hd : h = d
    · subst hd; simp [hS.free h hpn] at hl
    · simp [hd]
  · intro h B hB
    by_cases hd : h = d
    · subst hd
      simp [Hp.scrub, Hp.upd] at hB
      subst hB
      simp [BlkOk, Blk.scrub]
    · simp only [Hp.scrub, Hp.upd, hd, if_false] at hB ⊢
      cases hH : H h with
      | none => simp [hH] at hB
      | some B0 =>
        simp only [hH, Option.map_some, Option.some.injEq] at hB
        subst hB
        exact BlkOk.step hsame (Shape.refl w) hL (fun _ _ => rfl) (s.blk h B0 hH)
  · intro h q hn hq
    by_cases hd : h = d
    · simp [hd] at hq
    · simp only [hd, if_false] at hq
      exact s.own h q (live h hn hd) hq
  · intro h g q r hn hm hq hr e
    by_cases hd : h = d
    · simp [hd] at hq
    · by_cases hg : g = d
      · simp [hg] at hr
      · simp only [hd, hg, if_false] at hq hr
        exact s.inj h g q r (live h hn hd) (live g hm hg) hq hr e

end

section
variable {P : Program} {N : Cx} {A : Fr} {H : Hp} {K : AV → Fr → Hp → Prop}

/-- An operation that may turn memory. -/
theorem opv_mem {o : Oper} (hrun : ∀ w0 S, Good N w0 S → ∀ w (a : Act) L, Sim N.n w0 S w a.tmps L A H →
      ∃ u w' L' r A' H', (execOp a.eval o).run P w = .ok (.value u) w' ∧ Sim N.n w0 S w' a.tmps L' A' H' ∧ Rd w' (okb S H' L') L' r u ∧ K r A' H') : OpV P N o A H K := by
  intro w0 S hS w a L s next Q' hn
  obtain ⟨u, w', L', r, A', H', h1, h2, h3, h4⟩ := hrun w0 S hS w a L s
  refine owp_val h1 ?_
  exact hn u r L' A' H' w' h2 h3 h4

theorem opv_skip {o : Oper} (hrun : ∀ w0 S, Good N w0 S → ∀ w (a : Act) L, Sim N.n w0 S w a.tmps L A H →
      ∃ w' L' A' H', (execOp a.eval o).run P w = .ok .skip w' ∧ Sim N.n w0 S w' a.tmps L' A' H' ∧ K .dead A' H') : OpV P N o A H K := by
  intro w0 S hS w a L s next Q' hn
  obtain ⟨w', L', A', H', h1, h2, h4⟩ := hrun w0 S hS w a L s
  refine owp_skip h1 ?_
  exact hn undef .dead L' A' H' w' h2 trivial h4

/- stores -/
def aggOf : AV → Option (Nat × (Nat → AV))
  | .agg n f => some (n, f)
  | .v (.agg cs) => some (cs.size, fun i => .v (cs.getD i undef))
  | _ => none

def stVC (ty : Option TY) (H : Hp) (a x : AV) (K : Hp → Prop) : Prop :=
  match ty, a with
  | some ⟨false, s, _⟩, .ref h off =>
    match H h with
    | some (.cells n f) => Ob (s = 1 ∧ x.one = true) (Ob (off < n) (K (H.upd h (.cells n (setF f off x)))))
    | _ => False
  | some ⟨true, s, _⟩, .ref h off =>
    match H h, aggOf x with
    | some (.cells n f), some (m, g) => Ob (s = m ∧ off + s ≤ n) (Ob (∀ i, i < m → (g i).one = true) (K (H.upd h (.cells n (if off = 0 ∧ m = n then g else setsF f off m g)))))
    | _, _ => False
  | _, _ => False

theorem aggOf_ok {x : AV} {m : Nat} {g : Nat → AV} (h : aggOf x = some (m, g)) {w : World} {ok : Nat → Prop} {L : Loc} {u : Value} (hu : Rd w ok L x u) :
    ∃ cs, u = .agg cs ∧ cs.size = m ∧ ∀ i, i < m → ∃ c, cs[i]? = some c ∧ Rd w ok L (g i) c := by
  unfold aggOf at h
  split at h
  · simp only [Option.some.injEq, Prod.mk.injEq] at h
    obtain ⟨rfl, rfl⟩ := h
    exact hu
  · simp only [Option.some.injEq, Prod.mk.injEq] at h
    obtain ⟨rfl, rfl⟩ := h
    cases hu
    refine ⟨_, rfl, rfl, fun i hi => ⟨_, Array.getElem?_eq_getElem hi, ?_⟩⟩
    simp [Rd, Array.getD, hi]
  · simp at h

theorem seg_get {cs : List Value} {us : List Value} {o i : Nat} (h : o + us.length ≤ cs.length) :
    (cs.take o ++ us ++ cs.drop (o + us.length))[i]? = if i < o then cs[i]? else if i < o + us.length then us[i - o]? else cs[i]? := by
  by_cases h1 : i < o
  · simp only [h1, if_true]
    rw [List.append_assoc, List.getElem?_append_left (by simp; omega), List.getElem?_take, if_pos h1]
  · simp only [h1, if_false]
    have hl : (cs.take o).length = o := by simp; omega
    by_cases h2 : i < o + us.length
    · simp only [h2, if_true]
      rw [List.append_assoc, List.getElem?_append_right (by omega), hl, List.getElem?_append_left (by omega)]
    · simp only [h2, if_false]
      rw [List.getElem?_append_right (by simp; omega), List.length_append, hl, List.getElem?_drop]
      congr 1
      omega

theorem run_storeCells_atC (P : Program) (g o : Nat) (t : TypeId) (fz : Nat × Nat) : ∀ (vs : List Value) (i : Nat) (cur : Array Value) (w : World), w.heap[g]? = some (.cells cur t fz) → (fz = (0, 0) ∨ cur.size ≤ fz.1) → o + i + vs.length ≤ cur.size → (∀ v ∈ vs, v.oneCell' = true) →
    (Go.storeCells ⟨g, o, none⟩ vs i).run P w = .ok () (w.setRow g (cur.toList.take (o + i) ++ vs ++ cur.toList.drop (o + i + vs.length)).toArray)
  | [], i, cur, w, hg, _, _, _ => by
    simp only [Go.storeCells, List.append_nil, List.length_nil, Nat.add_zero, List.take_append_drop, Array.toArray_toList]
    rw [setRow_self w g cur t fz hg]
    rfl
  | v :: rest, i, cur, w, hg, hfz, hl, h1 => by
    have hi : o + i < cur.size := by simp at hl; omega
    have hadd : (⟨g, o, none⟩ : Addr).add i = ⟨g, o + i, none⟩ := by unfold Addr.add; split <;> simp_all
    have hcell : w.cell? ⟨g, o + i, none⟩ = some cur[o + i] := by simp [World.cell?, hg, hi]
    have hfro : w.frozen? ⟨g, o + i, none⟩ = false := by
      obtain ⟨lo, hi'⟩ := fz
      simp only [World.frozen?, hg, Bool.and_eq_false_iff, decide_eq_false_iff_not]
      rcases hfz with h | h
      · cases h; right; omega
      · left; simp only at h; omega
    have hst : (store ((⟨g, o, none⟩ : Addr).add i) v).run P w = .ok () (w.setRow g (cur.setIfInBounds (o + i) v)) := by
      rw [hadd, run_store P w _ v _ (h1 v (by simp)), hcell]
      simp [hfro, setCell_eq_setRow w g (o + i) cur t fz v hg]
    have ih := run_storeCells_atC P g o t fz rest (i + 1) (cur.setIfInBounds (o + i) v) (w.setRow g (cur.setIfInBounds (o + i) v)) (setRow_heap w g cur _ t _ hg) (hfz.imp id fun h => by simpa using h) (by simp at hl ⊢; omega) (fun x hx => h1 x (by simp [hx]))
    simp only [Go.storeCells, Sem.run_bind, hst, Result.andThen_ok, ih, setRow_setRow]
    congr 3
    have e := list_seg_step cur.toList (o + i) v rest (by simp at hl ⊢; omega)
    simpa [Array.toList_setIfInBounds, Nat.add_assoc] using e

/-- Values are stored into an owned block. -/
theorem Sim.storeCells {w0 : World} {S : Rg} {w : World} {tm : Array Value} {L : Loc} (s : Sim N.n w0 S w tm L A H) (hS : Good N w0 S) {h b o off n m : Nat} {f g : Nat → AV}
    (hH : H h = some (.cells n f)) (hl : L h = some (b, o)) (us : List Value) (hm : us.length = m) (hfit : off + m ≤ n) (h1 : ∀ v ∈ us, v.oneCell' = true)
    (hg : ∀ i, i < m → ∃ c, us[i]? = some c ∧ Rd w (okb S H L) L (g i) c) :
    ∃ w', (Go.storeCells ⟨b, o + off, none⟩ us).run P w = .ok () w' ∧ Sim N.n w0 S w' tm L A (H.upd h (.cells n (setsF f off m g))) := by
  have hb := s.blk h _ hH
  rw [hl] at hb
  obtain ⟨cs, e, ⟨fz, k1, k1'⟩, k2, k3⟩ := hb
  have hst := run_storeCells_atC P b (o + off) e fz us 0 cs w k1 k1' (by omega) h1
  simp only [Nat.add_zero] at hst
  refine ⟨_, hst, s.write hS (by simp [hH]) hl (keep_setRow k1 (by simp; omega)) ⟨_, e, ⟨fz, setRow_heap w b cs _ e fz k1, k1'.imp id fun h => by simp; omega⟩, by simp; omega, fun i hi => ?_⟩⟩
  have hseg := seg_get (cs := cs.toList) (us := us) (o := o + off) (i := o + i) (by simp; omega)
  simp only [Array.getElem?_toList] at hseg
  simp only [List.getElem?_toArray, hseg, setsF]
  by_cases c1 : i < off
  · rw [if_pos (by omega), if_neg (by omega)]
    exact k3 i hi
  · rw [if_neg (by omega)]
    by_cases c2 : i < off + m
    · rw [if_pos (by omega), if_pos (by omega)]
      have := hg (i - off) (by omega)
      rwa [show o + i - (o + off) = i - off by omega]
    · rw [if_neg (by omega), if_neg (by omega)]
      exact k3 i hi

theorem setsF_one (f : Nat → AV) (off : Nat) (g : Nat → AV) : setsF f off 1 g = setF f off (g 0) := by
  funext j
  unfold setsF setF
  by_cases h : j = off
  · subst h; simp
  · rw [if_neg h, if_neg (by omega)]

theorem Sim.blk_eq {w0 : World} {S : Rg} {w : World} {tm : Array Value} {L : Loc} {h n : Nat} {f f' : Nat → AV} (he : ∀ i, i < n → f i = f' i) (s : Sim N.n w0 S w tm L A (H.upd h (.cells n f))) : Sim N.n w0 S w tm L A (H.upd h (.cells n f')) := by
  have live : ∀ g, (H.upd h (.cells n f')) g ≠ none ↔ (H.upd h (.cells n f)) g ≠ none := by
    intro g; simp only [Hp.upd]; split <;> simp
  have hok : okb S (H.upd h (.cells n f')) L = okb S (H.upd h (.cells n f)) L := by
    funext b; simp only [okb, live]
  refine ⟨s.keep, s.size, fun i a ha => by rw [hok]; exact s.slot i a ha, fun g B hB => ?_, fun g q hn hq => s.own g q ((live g).1 hn) hq, fun g k q r hn hm hq hr e => s.inj g k q r ((live g).1 hn) ((live k).1 hm) hq hr e, s.pin⟩
  rw [hok]
  by_cases hg : g = h
  · subst hg
    have hb := s.blk g (.cells n f) (by simp [Hp.upd])
    simp only [Hp.upd, if_true, Option.some.injEq] at hB
    subst hB
    cases hl : L g with
    | none => rw [hl] at hb; exact hb
    | some q =>
      rw [hl] at hb
      obtain ⟨cs, e, h1, h2, h3⟩ := hb
      exact ⟨cs, e, h1, h2, fun i hi => by rw [← he i hi]; exact h3 i hi⟩
  · refine s.blk g B ?_
    simp only [Hp.upd, hg, if_false] at hB ⊢
    exact hB

theorem run_storeAt {t : TypeId} {a x : AV} {u v : Value} {w0 : World} {S : Rg} {w : World} {tm : Array Value} {L : Loc} (s : Sim N.n w0 S w tm L A H) (hS : Good N w0 S) (K : Hp → Prop)
    (hu : Rd w (okb S H L) L a u) (hv : Rd w (okb S H L) L x v) (h : stVC (tyOf P t) H a x K) :
    ∃ w' H', (Instr.storeAt t u v).run P w = .ok () w' ∧ Sim N.n w0 S w' tm L A H' ∧ K H' := by
  unfold stVC at h
  split at h
  · rename_i sz z hh off hty
    obtain ⟨_, hsz, _⟩ := tyOf_ok hty
    split at h
    · rename_i n f hH
      obtain ⟨⟨rfl, h2⟩, h3, hK⟩ := h
      obtain ⟨b, o, hl, rfl⟩ := hu
      have hone := hv.one h2
      obtain ⟨w', r1, r2⟩ := s.storeCells (P := P) (off := off) hS hH hl [v] rfl (by omega) (by simpa using hone) (g := fun _ => x) (m := 1) (by intro i hi; exact ⟨v, by simp [show i = 0 by omega], hv⟩)
      rw [setsF_one] at r2
      exact ⟨w', _, by simp [Instr.storeAt, Instr.sureAddr, storeVar, hsz, oneCell_cells hone, r1], r2, hK⟩
    · exact h.elim
  · rename_i sz z hh off hty
    obtain ⟨_, hsz, _⟩ := tyOf_ok hty
    split at h
    · rename_i n f m g hH hx
      obtain ⟨⟨rfl, h2⟩, h3, hK⟩ := h
      obtain ⟨b, o, hl, rfl⟩ := hu
      obtain ⟨cs, rfl, k1, k2⟩ := aggOf_ok hx hv
      obtain ⟨w', r1, r2⟩ := s.storeCells (P := P) (off := off) hS hH hl cs.toList (by simpa using k1) h2 (by
        intro v hv
        obtain ⟨i, hi, rfl⟩ := List.mem_iff_getElem.1 hv
        have hi' : i < cs.size := by simpa using hi
        obtain ⟨c, k3, k4⟩ := k2 i (by omega)
        have := k4.one (h3 i (by omega))
        rw [Array.getElem?_eq_getElem hi'] at k3
        simp only [Option.some.injEq] at k3
        simpa [k3] using this) (g := g) (by
        intro i hi
        obtain ⟨c, k3, k4⟩ := k2 i hi
        exact ⟨c, by simpa using k3, k4⟩)
      refine ⟨w', _, by simp [Instr.storeAt, Instr.sureAddr, storeVar, hsz, Value.cells, k1, r1], r2.blk_eq (fun i hi => ?_), hK⟩
      split
      · rename_i e
        simp only [setsF]
        rw [if_pos (by omega), e.1]; rfl
      · rfl
    · exact h.elim
  · exact h.elim

end
end Go.Av
end
/- What each operation asks and gives, over abstract frames: new blocks, append, copy. -/
section
namespace Go.Av

section
variable {P : Program} {N : Cx} {A : Fr} {H : Hp} {K : AV → Fr → Hp → Prop}

/- what is appended or copied -/
def srcOf (H : Hp) (sz : Nat) (b : AV) : Option (Nat × (Nat → AV)) :=
  match b with
  | .list _ sz' m g => if sz' = sz then some (m, g) else none
  | .own h off sz' m =>
    match H h with
    | some (.cells n f) => if sz' = sz ∧ off + m * sz ≤ n then some (m, shF off f) else none
    | _ => none
  | .v (.slice none 0 _) => some (0, fun _ => .dead)
  | _ => none

theorem choose_fn {n : Nat} {p : Nat → Value → Prop} (h : ∀ i, i < n → ∃ c, p i c) : ∃ g : Nat → Value, ∀ i, i < n → p i (g i) := by
  have hf : ∀ i, ∃ c, i < n → p i c := fun i => by
    by_cases hi : i < n
    · obtain ⟨c, hc⟩ := h i hi; exact ⟨c, fun _ => hc⟩
    · exact ⟨undef, fun h => absurd h hi⟩
  obtain ⟨g, hg⟩ := Classical.axiomOfChoice hf
  exact ⟨g, hg⟩

theorem srcOf_ok {sz m : Nat} {b : AV} {g : Nat → AV} (h : srcOf H sz b = some (m, g)) {w0 : World} {S : Rg} {w : World} {tm : Array Value} {L : Loc} (s : Sim N.n w0 S w tm L A H) {v : Value} (hv : Rd w (okb S H L) L b v) :
    ∃ (x : Option Addr) (c : Nat) (us : List Value), v = .slice x m c ∧ (x = none → m = 0) ∧ us.length = m * sz ∧ (∀ p, x = some p → ∀ j u, us[j]? = some u → w.cell? (p.add j) = some u) ∧
      ∀ i, i < m * sz → ∃ u, us[i]? = some u ∧ Rd w (okb S H L) L (g i) u := by
  unfold srcOf at h
  split at h
  · rename_i nn sz' m' g'
    split at h
    · rename_i e
      simp only [Option.some.injEq, Prod.mk.injEq] at h
      obtain ⟨rfl, rfl⟩ := h
      subst e
      obtain ⟨x, cap, rfl, h1, h2, h3, h4⟩ := hv
      cases x with
      | none =>
        have := (h3 rfl).1
        subst this
        exact ⟨none, cap, [], rfl, fun _ => rfl, by simp, by simp, by simp⟩
      | some p =>
        have hc := h4 p rfl
        obtain ⟨f, hf⟩ := choose_fn (p := fun i c => w.cell? ⟨p.block, p.off + i, none⟩ = some c ∧ ∀ L', Rd w (okb S H L) L' (g' i) c) (fun i hi => (hc i hi).2.2)
        refine ⟨some p, cap, (List.range (m' * sz')).map f, rfl, by simp, by simp, ?_, fun i hi => ⟨f i, by simp [hi], (hf i hi).2 L⟩⟩
        intro q hq j u hj
        simp only [Option.some.injEq] at hq
        subst hq
        by_cases hjl : j < m' * sz'
        · rw [Addr_eq (hc j hjl).1, Addr_add]
          simp [hjl] at hj
          subst hj
          exact (hf j hjl).1
        · simp [hjl] at hj
    · simp at h
  · rename_i hh off sz' m'
    split at h
    · rename_i n f hH
      split at h
      · rename_i e
        simp only [Option.some.injEq, Prod.mk.injEq] at h
        obtain ⟨rfl, rfl⟩ := h
        obtain ⟨rfl, e2⟩ := e
        have hb := s.blk hh _ hH
        simp only [Rd] at hv
        split at hv
        · obtain ⟨rfl, rfl⟩ := hv
          exact ⟨none, 0, [], rfl, fun _ => rfl, by simp, by simp, by simp⟩
        · rename_i b' s' hl
          obtain ⟨p, cap, rfl, h1, h2, h3, h4, h5, _⟩ := hv
          rw [hl] at hb
          obtain ⟨cs, e, ⟨fz, k1, _⟩, k2, k3⟩ := hb
          obtain ⟨f', hf⟩ := choose_fn (n := m' * sz') (p := fun i c => cs[s' + (off + i)]? = some c ∧ Rd w (okb S H L) L (f (off + i)) c) (fun i hi => k3 (off + i) (by omega))
          refine ⟨some p, cap, (List.range (m' * sz')).map f', rfl, by simp, by simp, ?_, fun i hi => ⟨f' i, by simp [hi], (hf i hi).2⟩⟩
          intro q hq j u hj
          simp only [Option.some.injEq] at hq
          subst hq
          by_cases hjl : j < m' * sz'
          · simp [hjl] at hj
            subst hj
            have hm : 0 < m' := by
              rcases Nat.eq_zero_or_pos m' with rfl | h
              · simp at hjl
              · exact h
            rw [Addr_eq h4, Addr_add, h3, h5 (by omega)]
            have := (hf j hjl).1
            simp [World.cell?, k1, Nat.add_assoc, this]
          · simp [hjl] at hj
      · simp at h
    · simp at h
  · simp only [Option.some.injEq, Prod.mk.injEq] at h
    obtain ⟨rfl, rfl⟩ := h
    cases hv
    exact ⟨none, _, [], rfl, fun _ => rfl, by simp, by simp, by simp⟩
  · simp at h

/- append -/
def apVC (pn : Nat → Bool) (se : Option SE) (d : Nat) (A : Fr) (H : Hp) (a b : AV) (K : AV → Fr → Hp → Prop) : Prop :=
  match se, a with
  | some se, .own h off sz n =>
    match H h, srcOf H sz b with
    | some (.cells N f), some (m, g) =>
      Ob (pn h = false) (Ob (sz = se.size ∧ 0 < sz ∧ off + n * sz ≤ N) (Ob ((n + m) * se.bytes ≤ 140737488355328 ∧ n + m ≤ 140737488355328) (Ob (∀ i, i < m * sz → (g i).one = true)
        (K (.own h 0 sz (n + m)) (A.scrub (· == h)) ((H.upd h (.cells ((n + m) * sz) (apF (n * sz) (shF off f) g))).scrub (· == h))))))
    | _, _ => False
  | some se, .v (.slice none 0 0) =>
    match srcOf H se.size b with
    | some (m, g) =>
      Ob (pn d = false) (Ob (0 < se.size) (Ob (m * se.bytes ≤ 140737488355328 ∧ m ≤ 140737488355328) (Ob (∀ i, i < m * se.size → (g i).one = true)
        (K (.own d 0 se.size m) (A.scrub (· == d)) ((H.upd d (.cells (m * se.size) g)).scrub (· == d))))))
    | _ => False
  | _, _ => False

theorem run_append_room' (w : World) (t ty e : TypeId) (i : TypeInfo) (ht : P.underlying t = some (.slice e)) (hi : P.info? e = some i)
    (g o sLen sCap : Nat) (cur : Array Value) (ce : TypeId) {fz : Nat × Nat} (hg : w.heap[g]? = some (.cells cur ce fz)) (hfz : fz = (0, 0) ∨ cur.size ≤ fz.1)
    (x : Option Addr) (m c : Nat) (news : List Value) (hl : news.length = m * i.size) (hx : x = none → m = 0) (hnews : ∀ p, x = some p → ∀ j u, news[j]? = some u → w.cell? (p.add j) = some u) (h1 : ∀ u ∈ news, u.oneCell' = true)
    (hroom : sLen + m ≤ sCap) (hfit : o + sLen * i.size + news.length ≤ cur.size) :
    (Builtin.append_ #[t, t] ty #[.slice (some ⟨g, o, none⟩) sLen sCap, .slice x m c]).run P w =
      .ok (.slice (some ⟨g, o, none⟩) (sLen + m) sCap) (w.setRow g (cur.toList.take (o + sLen * i.size) ++ news ++ cur.toList.drop (o + sLen * i.size + news.length)).toArray) := by
  have hf : (Builtin.firstCells i.size m (.slice x m c)).run P w = .ok news.toArray w := by
    cases x with
    | none =>
      have := hx rfl
      subst this
      have hn : news = [] := List.eq_nil_of_length_eq_zero (by simpa using hl)
      subst hn
      simp [Builtin.firstCells]
    | some p => exact run_firstCells_some (P := P) w i.size m p m c news hl (hnews p rfl)
  have hst := run_storeCells_atC P g (o + sLen * i.size) ce fz news 0 cur w hg hfz (by omega) h1
  simp only [Nat.add_zero] at hst
  simp [Builtin.append_, run_underlying ht, sizeOf, typeInfo, hi, Builtin.lenOf, hroom, hf, Addr_add, hst]

theorem grow_size (w : World) (need old : Nat) (e : TypeId) (z : Array Value) (sz : Nat) (us : Array Value) (hz : z.size = sz) (hu : us.size = need * sz) :
    (us ++ Builtin.zeroCells z (grownCap w need old e - need)).size = grownCap w need old e * sz := by
  have hge := grownCap_ge w need old e
  simp only [Array.size_append, size_zeroCells, hz, hu, ← Nat.add_mul]
  congr 1
  omega

theorem apF_rd {w : World} {ok : Nat → Prop} {L : Loc} {n m : Nat} {f g : Nat → AV} {us vs : List Value} (hn : us.length = n) (hm : vs.length = m) (rest : List Value)
    (hf : ∀ i, i < n → ∃ c, us[i]? = some c ∧ Rd w ok L (f i) c) (hg : ∀ i, i < m → ∃ c, vs[i]? = some c ∧ Rd w ok L (g i) c) :
    ∀ i, i < n + m → ∃ c, (us ++ vs ++ rest)[i]? = some c ∧ Rd w ok L (apF n f g i) c := by
  intro i hi
  unfold apF
  by_cases h1 : i < n
  · obtain ⟨c, k1, k2⟩ := hf i h1
    refine ⟨c, ?_, by rw [if_pos h1]; exact k2⟩
    rw [List.append_assoc, List.getElem?_append_left (by omega)]; exact k1
  · obtain ⟨c, k1, k2⟩ := hg (i - n) (by omega)
    refine ⟨c, ?_, by rw [if_neg h1]; exact k2⟩
    rw [List.append_assoc, List.getElem?_append_right (by omega), List.getElem?_append_left (by omega), hn]; exact k1

theorem Rd.drew {w : World} {ok : Nat → Prop} {L : Loc} {a : AV} {u : Value} (h : Rd w ok L a u) : Rd w.drew ok L a u := by
  have := Rd.step (w := w) (w' := w.drew) (ok := ok) (ok' := ok) (p := fun _ => false) (fun b _ h => ⟨h, rfl⟩) (Shape.refl w) a L L u (fun _ _ => rfl) h
  rwa [AV.scrub_none] at this

/-- A grown row: n elements in a new block of capacity `grownCap`. -/
theorem Sim.grown {w0 : World} {S : Rg} {w : World} {tm : Array Value} {L : Loc} (s : Sim N.n w0 S w tm L A H) (hS : Good N w0 S) (d old n : Nat) (e : TypeId) (z : Array Value) (sz : Nat) (us : List Value) (f : Nat → AV)
    (hz : z.size = sz) (hu : us.length = n * sz) (hlen : n ≤ 140737488355328) (hf : ∀ i, i < n * sz → ∃ c, us[i]? = some c ∧ Rd w (okb S H L) L (f i) c) (hd : N.pn d = false) :
    ∃ L', Sim N.n w0 S (w.drew.alloc (.cells (us.toArray ++ Builtin.zeroCells z (grownCap w n old e - n)) e)) tm L' (A.scrub (· == d)) ((H.upd d (.cells (n * sz) f)).scrub (· == d)) ∧
      ∀ ok, Rd (w.drew.alloc (.cells (us.toArray ++ Builtin.zeroCells z (grownCap w n old e - n)) e)) ok L' (.own d 0 sz n) (.slice (some ⟨w.heap.size, 0, none⟩) n (grownCap w n old e)) := by
  have hsz := grow_size w n old e z sz us.toArray hz (by simpa using hu)
  have hge := grownCap_ge w n old e
  refine ⟨_, s.drew.alloc hS d (us.toArray ++ Builtin.zeroCells z (grownCap w n old e - n)) e (n := n * sz) (f := f) (by rw [hsz]; exact Nat.mul_le_mul_right _ hge) (fun i hi => ?_) hd, fun ok => ?_⟩
  · obtain ⟨c, k1, k2⟩ := hf i hi
    refine ⟨c, ?_, k2.drew⟩
    rw [Array.getElem?_append_left (by simpa [hu] using hi)]
    simpa using k1
  · simp only [Rd, if_true]
    exact ⟨⟨w.heap.size, 0, none⟩, grownCap w n old e, rfl, hge, grownCap_le_maxLen w n old e (by simp only [maxLen]; omega), rfl, rfl, fun _ => rfl, _, e, .of (heap_alloc_new w.drew _), by rw [hsz]; omega⟩

theorem one_of {w : World} {ok : Nat → Prop} {L : Loc} {us : List Value} {m : Nat} {g : Nat → AV} (hm : us.length = m) (hg : ∀ i, i < m → ∃ u, us[i]? = some u ∧ Rd w ok L (g i) u) (h1 : ∀ i, i < m → (g i).one = true) :
    ∀ u ∈ us, u.oneCell' = true := by
  intro u hu
  obtain ⟨i, hi, rfl⟩ := List.mem_iff_getElem.1 hu
  obtain ⟨c, k1, k2⟩ := hg i (by omega)
  rw [List.getElem?_eq_getElem hi] at k1
  simp only [Option.some.injEq] at k1
  rw [k1]
  exact k2.one (h1 i (by omega))

theorem run_append_none (w : World) (t ty e : TypeId) (i : TypeInfo) (ht : P.underlying t = some (.slice e)) (hi : P.info? e = some i) (x y : Option Addr) (c c' : Nat) :
    (Builtin.append_ #[t, t] ty #[.slice y 0 c', .slice x 0 c]).run P w = .ok (.slice y 0 c') w := by
  cases x <;> cases y <;> simp [Builtin.append_, run_underlying ht, sizeOf, typeInfo, hi, Builtin.lenOf, Builtin.firstCells, loadCells, loadCellsFrom, storeCells]

/-- append onto what a name means. -/
theorem run_append_own' {t ty : TypeId} {hh off sz n NN m : Nat} {f g : Nat → AV} {se : SE} {b : AV} {u v : Value} {w0 : World} {S : Rg} {w : World} {tm : Array Value} {L : Loc} (s : Sim N.n w0 S w tm L A H) (hS : Good N w0 S)
    (hse : selOf P t = some se) (hH : H hh = some (.cells NN f)) (hsrc : srcOf H sz b = some (m, g)) (hsz1 : sz = se.size) (hsz : 0 < sz) (hfit : off + n * sz ≤ NN)
    (hby : (n + m) * se.bytes ≤ 140737488355328) (hlen : n + m ≤ 140737488355328) (hone : ∀ i, i < m * sz → (g i).one = true)
    (hu : Rd w (okb S H L) L (.own hh off sz n) u) (hv : Rd w (okb S H L) L b v) (hpn : N.pn hh = false) :
    ∃ r w' L', (Builtin.append_ #[t, t] ty #[u, v]).run P w = .ok r w' ∧
      Sim N.n w0 S w' tm L' (A.scrub (· == hh)) ((H.upd hh (.cells ((n + m) * sz) (apF (n * sz) (shF off f) g))).scrub (· == hh)) ∧
      ∀ ok, Rd w' ok L' (.own hh 0 sz (n + m)) r := by
  subst hsz1
  obtain ⟨hut, ti, z, hi, e1, e2, e3, e4, e5⟩ := selOf_ok hse
  obtain ⟨x, c, us, rfl, hx, hul, hcell, hrd⟩ := srcOf_ok hsrc s hv
  have hone' := one_of hul hrd hone
  have hb := s.blk hh _ hH
  simp only [Rd] at hu
  split at hu
  · -- a nil slice
    rename_i hl
    obtain ⟨rfl, rfl⟩ := hu
    rcases Nat.eq_zero_or_pos m with rfl | hm
    · have h0 : (0 + 0) * se.size = 0 := by simp
      rw [h0]
      exact ⟨_, _, _, run_append_none w t ty se.e ti hut hi x none c 0, s.nil hS hh _ hpn, fun ok => by simp [Rd]⟩
    · cases x with
      | none => exact absurd (hx rfl) (by omega)
      | some p =>
        have hr := run_append_nil (P := P) w t ty se.e ti z hut hi e3 p m c us (by rw [hul, e1]) (hcell p rfl) (by omega) (by omega) (by rw [e2]; simp only [Nat.zero_add] at hby; omega)
        obtain ⟨L', k1, k2⟩ := s.grown hS hh 0 m se.e z.cells se.size us (apF (0 * se.size) (shF off f) g) (by omega) hul (by omega) (by
          intro i hi
          obtain ⟨c', k1, k2⟩ := hrd i hi
          exact ⟨c', k1, by simpa [apF] using k2⟩) hpn
        rw [Nat.zero_add]
        exact ⟨_, _, L', hr, k1, k2⟩
  · rename_i b' s' hl
    obtain ⟨p, cap, rfl, q1, q2, q3, q4, q5, cs', e', ⟨fz, q6, q6'⟩, q7⟩ := hu
    rw [hl] at hb
    obtain ⟨cs, e, ⟨fz', k1, _⟩, k2, k3⟩ := hb
    rw [q6] at k1
    simp only [Option.some.injEq, Obj.cells.injEq] at k1
    obtain ⟨rfl, rfl, _⟩ := k1
    have hpe : p = ⟨b', p.off, none⟩ := by rw [← q3]; exact Addr_eq q4
    by_cases hroom : n + m ≤ cap
    · rcases Nat.eq_zero_or_pos cap with hc0 | hc0
      · -- nothing is appended to nothing
        have hn0 : n = 0 := by omega
        have hm0 : m = 0 := by omega
        subst hn0 hm0
        have h0 : (0 + 0) * se.size = 0 := by simp
        rw [h0]
        have hp := s.put_blk hS.new hh b' (s' + off) (.cells 0 (apF 0 (shF off f) g)) (Keep.refl w _) (fun _ _ _ => rfl) (.inr ⟨by simp [hH], s', hl⟩) ⟨cs', e', ⟨fz, q6, q6'⟩, by omega, by simp⟩ (p := (· == hh)) (by intro h hp he; simp [he] at hp) (.inl (hS.free hh hpn))
        refine ⟨_, _, _, run_append_none w t ty se.e ti hut hi x _ c cap, hp, fun ok => ?_⟩
        simp only [Rd, if_true]
        exact ⟨p, cap, rfl, by omega, q2, q3, q4, fun h => by omega, cs', e', ⟨fz, q6, q6'⟩, by omega⟩
      · have hoff := q5 hc0
        rw [hoff] at hpe
        subst hpe
        have hfit' : s' + off + n * se.size + us.length ≤ cs'.size := by
          rw [hul, Nat.add_assoc, ← Nat.add_mul]
          have := Nat.mul_le_mul_right se.size hroom
          omega
        have hr := run_append_room' (P := P) w t ty se.e ti hut hi b' (s' + off) n cap cs' e' q6 q6' x m c us (by rw [hul, e1]) hx hcell hone' hroom (by rw [e1]; exact hfit')
        rw [e1] at hr
        have hks := keep_setRow (cs' := (cs'.toList.take (s' + off + n * se.size) ++ us ++ cs'.toList.drop (s' + off + n * se.size + us.length)).toArray) q6 (by simp; omega)
        have hp := s.put_blk hS.new hh b' (s' + off) (.cells ((n + m) * se.size) (apF (n * se.size) (shF off f) g)) hks (fun k hk hne => hks.blk k hk hne) (.inr ⟨by simp [hH], s', hl⟩)
          ⟨_, e', ⟨fz, setRow_heap w b' cs' _ e' fz q6, q6'.imp id fun h => by simp; omega⟩, by rw [Nat.add_mul]; simp; omega, fun i hi => by
            have hseg := seg_get (cs := cs'.toList) (us := us) (o := s' + off + n * se.size) (i := s' + off + i) (by simp; omega)
            simp only [Array.getElem?_toList] at hseg
            simp only [List.getElem?_toArray, hseg, apF, shF]
            rw [Nat.add_mul] at hi
            by_cases c1 : i < n * se.size
            · rw [if_pos (by omega), if_pos c1]
              have := k3 (off + i) (by omega)
              rwa [← Nat.add_assoc] at this
            · rw [if_neg (by omega), if_pos (by omega), if_neg c1]
              have := hrd (i - n * se.size) (by omega)
              rwa [show s' + off + i - (s' + off + n * se.size) = i - n * se.size by omega]⟩ (p := (· == hh)) (by intro h hp he; simp [he] at hp) (.inl (hS.free hh hpn))
        refine ⟨_, _, _, hr, hp, fun ok => ?_⟩
        simp only [Rd, if_true]
        exact ⟨_, cap, rfl, by omega, q2, rfl, rfl, fun _ => rfl, _, e', ⟨fz, setRow_heap w b' cs' _ e' fz q6, q6'.imp id fun h => by simp; omega⟩, by simp; omega⟩
    · -- it grows
      have hold : ∀ j u, ((List.range (n * se.size)).map fun j => cs'.getD (s' + off + j) undef)[j]? = some u → w.cell? (p.add j) = some u := by
        intro j u hj
        by_cases hjl : j < n * se.size
        · have hn : 0 < cap := by
            rcases Nat.eq_zero_or_pos n with rfl | h
            · simp at hjl
            · omega
          simp [hjl] at hj
          subst hj
          rw [hpe, q5 hn, Addr_add]
          have hlt : s' + off + j < cs'.size := by have := Nat.mul_le_mul_right se.size q1; omega
          simp [World.cell?, q6, hlt]
        · simp [hjl] at hj
      cases x with
      | none => exact absurd (hx rfl) (by omega)
      | some px =>
        have hr := run_append_grow (P := P) w t ty se.e ti z hut hi e3 p n cap _ (by simp [e1]) hold px m c us (by rw [hul, e1]) (hcell px rfl) (by omega) (by omega) (growslice_fits (by omega) (by rw [e2]; exact hby))
        obtain ⟨L', j1, j2⟩ := s.grown hS hh cap (n + m) se.e z.cells se.size (((List.range (n * se.size)).map fun j => cs'.getD (s' + off + j) undef) ++ us) (apF (n * se.size) (shF off f) g) (by omega) (by simp [hul, Nat.add_mul]) (by omega) (by
          intro i hi
          have := apF_rd (w := w) (ok := okb S H L) (L := L) (n := n * se.size) (m := m * se.size) (f := shF off f) (g := g) (us := (List.range (n * se.size)).map fun j => cs'.getD (s' + off + j) undef) (vs := us) (by simp) hul [] (by
            intro i hi
            obtain ⟨c', j1, j2⟩ := k3 (off + i) (by omega)
            refine ⟨c', ?_, j2⟩
            rw [← Nat.add_assoc] at j1
            simp [hi, Array.getD]
            obtain ⟨h3, h4⟩ := Array.getElem?_eq_some_iff.1 j1
            simp [h3, h4]) hrd i (by rw [Nat.add_mul] at hi; exact hi)
          simpa using this) hpn
        simp only [List.append_toArray] at hr
        exact ⟨_, _, L', hr, j1, j2⟩

theorem run_append {t ty : TypeId} {d : Nat} {a b : AV} {u v : Value} {w0 : World} {S : Rg} {w : World} {tm : Array Value} {L : Loc} (s : Sim N.n w0 S w tm L A H) (hS : Good N w0 S)
    (hu : Rd w (okb S H L) L a u) (hv : Rd w (okb S H L) L b v) (h : apVC N.pn (selOf P t) d A H a b K) :
    ∃ r w' L' x A' H', (Builtin.append_ #[t, t] ty #[u, v]).run P w = .ok r w' ∧ Sim N.n w0 S w' tm L' A' H' ∧ Rd w' (okb S H' L') L' x r ∧ K x A' H' := by
  unfold apVC at h
  split at h
  · rename_i se hh off sz n hse
    split at h
    · rename_i NN f m g hH hsrc
      obtain ⟨hpn, ⟨h1, h2, h3⟩, ⟨h4, h5⟩, h6, hK⟩ := h
      obtain ⟨r, w', L', k1, k2, k3⟩ := run_append_own' (P := P) (ty := ty) s hS hse hH hsrc h1 h2 h3 h4 h5 h6 hu hv hpn
      exact ⟨r, w', L', _, _, _, k1, k2, k3 _, hK⟩
    · exact h.elim
  · rename_i se hse
    split at h
    · rename_i m g hsrc
      obtain ⟨hpn, h2, ⟨h4, h5⟩, h6, hK⟩ := h
      cases hu
      obtain ⟨hut, ti, z, hi, e1, e2, e3, e4, e5⟩ := selOf_ok hse
      obtain ⟨x, c, us, rfl, hx, hul, hcell, hrd⟩ := srcOf_ok hsrc s hv
      rcases Nat.eq_zero_or_pos m with rfl | hm
      · refine ⟨_, w, _, .own d 0 se.size 0, _, _, run_append_none w t ty se.e ti hut hi x none c 0, s.nil hS d g hpn, by simp [Rd], by simpa using hK⟩
      · cases x with
        | none => exact absurd (hx rfl) (by omega)
        | some p =>
          have hr := run_append_nil (P := P) w t ty se.e ti z hut hi e3 p m c us (by rw [hul, e1]) (hcell p rfl) (by omega) (by omega) (by rw [e2]; omega)
          obtain ⟨L', k1, k2⟩ := s.grown hS d 0 m se.e z.cells se.size us g (by omega) hul (by omega) hrd hpn
          exact ⟨_, _, L', _, _, _, hr, k1, k2 _, hK⟩
    · exact h.elim
  · exact h.elim

end
end Go.Av
end
/- What each operation asks and gives, over abstract frames: make, literals, variables, copy, slices of slices, fields, strings. -/
section
namespace Go.Av

section
variable {P : Program} {N : Cx} {A : Fr} {H : Hp} {K : AV → Fr → Hp → Prop}

theorem zF_get {zs : List Value} {z : Array Value} (hz : z.toList = zs) (i : Nat) (h0 : 0 < z.size) : zF zs i = .v (z[i % z.size]!) := by
  subst hz
  have hlt : i % z.size < z.size := Nat.mod_lt _ h0
  simp [zF, hlt]

/- make -/
def mkVC (pn : Nat → Bool) (se : Option SE) (d : Nat) (A : Fr) (H : Hp) (l c : AV) (K : AV → Fr → Hp → Prop) : Prop :=
  match se, l, c with
  | some se, .v (.int _ l), .v (.int _ c) =>
    Ob (pn d = false ∧ 0 ≤ l ∧ l ≤ c) (Ob (se.bytes * c ≤ 281474976710656 ∧ c ≤ 281474976710656) (K (.own d 0 se.size l.toNat) (A.scrub (· == d)) ((H.upd d (.cells (c.toNat * se.size) (zF se.zero))).scrub (· == d))))
  | _, _, _ => False

theorem run_mk {t : TypeId} {d : Nat} {a b : AV} {u v : Value} {w0 : World} {S : Rg} {w : World} {tm : Array Value} {L : Loc} (s : Sim N.n w0 S w tm L A H) (hS : Good N w0 S)
    (hu : Rd w (okb S H L) L a u) (hv : Rd w (okb S H L) L b v) (h : mkVC N.pn (selOf P t) d A H a b K) :
    ∃ r w' L' x A' H', (Instr.makeSlice t u v).run P w = .ok r w' ∧ Sim N.n w0 S w' tm L' A' H' ∧ Rd w' (okb S H' L') L' x r ∧ K x A' H' := by
  unfold mkVC at h
  split at h
  · rename_i se kl l kc c hse
    obtain ⟨⟨hpn, h1, h2⟩, ⟨h3, h4⟩, hK⟩ := h
    cases hu; cases hv
    obtain ⟨hut, ti, z, hi, e1, e2, e3, e4, e5⟩ := selOf_ok hse
    have hr := run_make (P := P) w t se.e ti z hut hi e3 kl kc l c h1 h2 (by rw [e2]; exact h3) (by omega)
    rw [e1] at hr
    have hsz := size_madeCells z.cells (c.toNat * se.size)
    have hal := s.alloc hS d (madeCells z.cells (c.toNat * se.size)) se.e (n := c.toNat * se.size) (f := zF se.zero) (by omega) (by
      intro i hi
      have h0 : 0 < z.cells.size := by
        rcases Nat.eq_zero_or_pos se.size with h | h
        · rw [h] at hi; omega
        · omega
      rw [zF_get e4 i h0]
      exact ⟨_, by simp [madeCells, hi], rfl⟩) hpn
    refine ⟨_, _, _, _, _, _, hr, hal, ?_, hK⟩
    simp only [Rd, if_true]
    refine ⟨_, c.toNat, rfl, by omega, by simp only [maxLen]; omega, rfl, rfl, fun _ => rfl, _, se.e, .of (heap_alloc_new w _), ?_⟩
    rw [hsz]; omega
  · exact h.elim

/- new variables -/
def alVC (pn : Nat → Bool) (ty : Option TY) (d : Nat) (A : Fr) (H : Hp) (K : AV → Fr → Hp → Prop) : Prop :=
  match ty with
  | some ty => Ob (pn d = false) <| K (.ref d 0) (A.scrub (· == d)) ((H.upd d (.cells ty.size (zF ty.zero))).scrub (· == d))
  | none => False

theorem run_al {t : TypeId} {d : Nat} {x : Value} {w0 : World} {S : Rg} {w : World} {tm : Array Value} {L : Loc} (s : Sim N.n w0 S w tm L A H) (hS : Good N w0 S) (h : alVC N.pn (tyOf P t) d A H K) :
    ∃ r w' L' x' A' H', (Instr.alloc t true x).run P w = .ok r w' ∧ Sim N.n w0 S w' tm L' A' H' ∧ Rd w' (okb S H' L') L' x' r ∧ K x' A' H' := by
  unfold alVC at h
  split at h
  · rename_i ty hty
    obtain ⟨hpn, h⟩ := h
    obtain ⟨_, _, z, hz, e1, e2⟩ := tyOf_ok hty
    have hzs : z.cells.size = ty.size := by rw [← e2, ← e1]; simp
    have hal := s.alloc hS d z.cells t (n := ty.size) (f := zF ty.zero) (by omega) (by
      intro i hi
      rw [zF_get e1 i (by omega), Nat.mod_eq_of_lt (by omega)]
      exact ⟨z.cells[i]!, by simp [hzs, hi], rfl⟩) hpn
    refine ⟨.pointer (some ⟨w.heap.size, 0, none⟩), _, _, .ref d 0, _, _, ?_, hal, ?_, h⟩
    · simp [Instr.alloc, hz, newVar, newRow]
    · exact ⟨w.heap.size, 0, by simp, rfl⟩
  · exact h.elim

def boxVC (pn : Nat → Bool) (d : Nat) (A : Fr) (H : Hp) (x : AV) (K : AV → Fr → Hp → Prop) : Prop :=
  Ob (pn d = false) <| match aggOf x with
  | some (n, g) => K (.ref d 0) (A.scrub (· == d)) ((H.upd d (.cells n g)).scrub (· == d))
  | none => Ob (x.one = true) (K (.ref d 0) (A.scrub (· == d)) ((H.upd d (.cells 1 fun _ => x)).scrub (· == d)))

theorem run_bx {t : TypeId} {d : Nat} {x : AV} {u : Value} {w0 : World} {S : Rg} {w : World} {tm : Array Value} {L : Loc} (s : Sim N.n w0 S w tm L A H) (hS : Good N w0 S)
    (hu : Rd w (okb S H L) L x u) (h : boxVC N.pn d A H x K) :
    ∃ r w' L' x' A' H', (Instr.box t u).run P w = .ok r w' ∧ Sim N.n w0 S w' tm L' A' H' ∧ Rd w' (okb S H' L') L' x' r ∧ K x' A' H' := by
  unfold boxVC at h
  obtain ⟨hpn, h⟩ := h
  split at h
  · rename_i n g hx
    obtain ⟨cs, rfl, h1, h2⟩ := aggOf_ok hx hu
    have hal := s.alloc hS d cs t (n := n) (f := g) (by omega) h2 hpn
    exact ⟨.pointer (some ⟨w.heap.size, 0, none⟩), _, _, .ref d 0, _, _, by simp [Instr.box, newVar, newRow, Value.cells], hal, ⟨w.heap.size, 0, by simp, rfl⟩, h⟩
  · obtain ⟨h1, hK⟩ := h
    have hone := hu.one h1
    have hal := s.alloc hS d #[u] t (n := 1) (f := fun _ => x) (by simp) (fun i hi => ⟨u, by simp [show i = 0 by omega], hu⟩) hpn
    exact ⟨.pointer (some ⟨w.heap.size, 0, none⟩), _, _, .ref d 0, _, _, by simp [Instr.box, newVar, newRow, oneCell_cells hone], hal, ⟨w.heap.size, 0, by simp, rfl⟩, hK⟩

/- literals -/
/-- The cells of a part. -/
def partF (f : Nat → AV) (off : Nat) (x : AV) : Nat → AV :=
  match aggOf x with
  | some (n, g) => setsF f off n g
  | none => setF f off x
def partW (x : AV) : Option Nat :=
  match aggOf x with
  | some (n, _) => some n
  | none => if x.one then some 1 else none
def fillF (place : Nat → Option (Nat × Nat)) : List (Nat × AV) → (Nat → AV) → Nat → AV
  | [], f => f
  | (i, x) :: r, f =>
    match place i with
    | some (off, _) => fillF place r (partF f off x)
    | none => f
def fillOk (place : Nat → Option (Nat × Nat)) (n : Nat) : List (Nat × AV) → Prop
  | [] => True
  | (i, x) :: r =>
    match place i, partW x with
    | some (off, size), some k => (k = size ∧ off + size ≤ n) ∧ fillOk place n r
    | _, _ => False

theorem part_cells {x : AV} {k : Nat} (hk : partW x = some k) {w : World} {ok : Nat → Prop} {L : Loc} {u : Value} (hu : Rd w ok L x u) (f : Nat → AV) (off : Nat) :
    u.cells.size = k ∧ ∀ j, (∀ i, i < k → ∃ c, u.cells[i]? = some c ∧ (off + i = j → Rd w ok L (partF f off x j) c)) ∧ (¬ (off ≤ j ∧ j < off + k) → partF f off x j = f j) := by
  unfold partW at hk
  unfold partF
  split at hk
  · rename_i n g hx
    simp only [Option.some.injEq] at hk
    subst hk
    obtain ⟨cs, rfl, h1, h2⟩ := aggOf_ok hx hu
    refine ⟨h1, fun j => ⟨fun i hi => ?_, fun hn => ?_⟩⟩
    · obtain ⟨c, k1, k2⟩ := h2 i hi
      refine ⟨c, k1, fun e => ?_⟩
      subst e
      simp only [hx, setsF]
      rw [if_pos (by omega), Nat.add_sub_cancel_left]
      exact k2
    · simp only [hx, setsF]
      rw [if_neg hn]
  · rename_i hx
    split at hk
    · rename_i h1
      simp only [Option.some.injEq] at hk
      subst hk
      have hc := oneCell_cells (hu.one h1)
      refine ⟨by simp [hc], fun j => ⟨fun i hi => ⟨u, by simp [hc, show i = 0 by omega], fun e => ?_⟩, fun hn => ?_⟩⟩
      · simp only [hx, setF]
        rw [if_pos (by omega)]
        exact hu
      · simp only [hx, setF]
        rw [if_neg (by omega)]
    · simp at hk

theorem foldl_set (off : Nat) : ∀ (vs : List Value) (s : Nat) (cells : Array Value), off + s + vs.length ≤ cells.size →
    ((vs.zipIdx s).foldl (fun cs (x : Value × Nat) => cs.setIfInBounds (off + x.2) x.1) cells).size = cells.size ∧
    ∀ k, ((vs.zipIdx s).foldl (fun cs (x : Value × Nat) => cs.setIfInBounds (off + x.2) x.1) cells)[k]? = if off + s ≤ k ∧ k < off + s + vs.length then vs[k - (off + s)]? else cells[k]?
  | [], s, cells, _ => by
    refine ⟨rfl, fun k => ?_⟩
    rw [if_neg (fun h => by simp at h; omega)]
    rfl
  | v :: vs, s, cells, h => by
    simp only [List.zipIdx_cons, List.foldl_cons]
    simp only [List.length_cons] at h
    obtain ⟨h1, h2⟩ := foldl_set off vs (s + 1) (cells.setIfInBounds (off + s) v) (by simp; omega)
    refine ⟨by simpa using h1, fun k => ?_⟩
    rw [h2 k]
    by_cases c1 : off + (s + 1) ≤ k ∧ k < off + (s + 1) + vs.length
    · rw [if_pos c1, if_pos (by simp only [List.length_cons]; omega), show k - (off + s) = k - (off + (s + 1)) + 1 by omega]
      rfl
    · rw [if_neg c1]
      by_cases c2 : k = off + s
      · subst c2
        rw [if_pos (by simp only [List.length_cons]; omega)]
        have hlt : off + s < cells.size := by omega
        simp [hlt]
      · rw [if_neg (by simp only [List.length_cons]; omega)]
        simp [show ¬ off + s = k by omega]

theorem fill_ok {w : World} {ok : Nat → Prop} {L : Loc} (place : Nat → Option (Nat × Nat)) : ∀ (parts : List (Nat × AV)) (vs : List (Nat × Value)) (f : Nat → AV) (cells : Array Value),
    parts.length = vs.length → (∀ (k : Nat) (p : Nat × AV) (q : Nat × Value), parts[k]? = some p → vs[k]? = some q → p.1 = q.1 ∧ Rd w ok L p.2 q.2) → fillOk place cells.size parts →
    (∀ i, i < cells.size → ∃ c, cells[i]? = some c ∧ Rd w ok L (f i) c) →
    ∃ r, Instr.fill place cells vs = some r ∧ r.size = cells.size ∧ ∀ i, i < cells.size → ∃ c, r[i]? = some c ∧ Rd w ok L (fillF place parts f i) c
  | [], [], f, cells, _, _, _, hf => ⟨cells, rfl, rfl, hf⟩
  | [], _ :: _, _, _, h, _, _, _ => by simp at h
  | _ :: _, [], _, _, h, _, _, _ => by simp at h
  | (i, x) :: parts, (i', u) :: vs, f, cells, hl, hr, hok, hf => by
    obtain ⟨e, hx⟩ := hr 0 (i, x) (i', u) rfl rfl
    simp only at e hx
    subst e
    simp only [fillOk] at hok
    split at hok
    · rename_i off size k hp hk
      obtain ⟨⟨rfl, hfit⟩, hok⟩ := hok
      obtain ⟨hcs, hpt⟩ := part_cells hk hx f off
      have hfold := foldl_set off u.cells.toList 0 cells (by simp; omega)
      simp only [Nat.add_zero, Array.length_toList] at hfold
      have hzip : (u.cells.zipIdx.foldl (fun cs (x : Value × Nat) => cs.setIfInBounds (off + x.2) x.1) cells) = (u.cells.toList.zipIdx 0).foldl (fun cs (x : Value × Nat) => cs.setIfInBounds (off + x.2) x.1) cells := by
        rw [← Array.foldl_toList]; simp
      obtain ⟨r, r1, r2, r3⟩ := fill_ok place parts vs (partF f off x) ((u.cells.toList.zipIdx 0).foldl (fun cs (x : Value × Nat) => cs.setIfInBounds (off + x.2) x.1) cells) (by simpa using hl)
        (fun k p q h1 h2 => hr (k + 1) p q h1 h2) (by rw [hfold.1]; exact hok) (by
          intro j hj
          rw [hfold.1] at hj
          rw [hfold.2 j]
          by_cases c1 : off ≤ j ∧ j < off + u.cells.size
          · rw [if_pos c1]
            obtain ⟨c, k1, k2⟩ := (hpt j).1 (j - off) (by omega)
            exact ⟨c, by simpa using k1, k2 (by omega)⟩
          · rw [if_neg c1, (hpt j).2 (by omega)]
            exact hf j hj)
      refine ⟨r, ?_, r2.trans hfold.1, fun j hj => ?_⟩
      · simp only [Instr.fill, hp]
        rw [if_neg (by simp; omega), hzip]
        exact r1
      · simp only [fillF, hp]
        exact r3 j (by rw [hfold.1]; exact hj)
    · exact hok.elim

def evParts (A : Fr) : List (Nat × Operand) → Option (List (Nat × AV))
  | [] => some []
  | (i, x) :: r =>
    match A.ev x, evParts A r with
    | some a, some l => some ((i, a) :: l)
    | _, _ => none

theorem evParts_ok {w0 : World} {S : Rg} {w : World} {a : Act} {L : Loc} (s : Sim N.n w0 S w a.tmps L A H) : ∀ (ps : List (Nat × Operand)) (l : List (Nat × AV)), evParts A ps = some l →
    l.length = (ps.map fun (i, x) => (i, a.eval x)).length ∧ ∀ (k : Nat) (p : Nat × AV) (q : Nat × Value), l[k]? = some p → (ps.map fun (i, x) => (i, a.eval x))[k]? = some q → p.1 = q.1 ∧ Rd w (okb S H L) L p.2 q.2
  | [], l, h => by simp [evParts] at h; subst h; simp
  | (i, x) :: r, l, h => by
    simp only [evParts] at h
    split at h
    · rename_i b l' hb hl
      simp only [Option.some.injEq] at h
      subst h
      obtain ⟨h1, h2⟩ := evParts_ok s r l' hl
      refine ⟨by simpa using h1, fun k p q hp hq => ?_⟩
      cases k with
      | zero =>
        simp at hp hq
        subst hp hq
        exact ⟨rfl, s.ev hb⟩
      | succ k => exact h2 k p q (by simpa using hp) (by simpa using hq)
    · simp at h

def bsVC (pn : Nat → Bool) (se : Option SE) (d : Nat) (A : Fr) (H : Hp) (len : Nat) (parts : Option (List (Nat × AV))) (K : AV → Fr → Hp → Prop) : Prop :=
  match se, parts with
  | some se, some ps =>
    Ob ((pn d = false ∧ 0 < se.size ∧ len * se.size ≤ 16777216) ∧ fillOk (fun i => some (i * se.size, se.size)) (len * se.size) ps)
      (K (.own d 0 se.size len) (A.scrub (· == d)) ((H.upd d (.cells (len * se.size) (fillF (fun i => some (i * se.size, se.size)) ps (zF se.zero)))).scrub (· == d)))
  | _, _ => False

theorem run_bs {t : TypeId} {d len : Nat} {ps : List (Nat × Operand)} {w0 : World} {S : Rg} {w : World} {a : Act} {L : Loc} (s : Sim N.n w0 S w a.tmps L A H) (hS : Good N w0 S)
    (h : bsVC N.pn (selOf P t) d A H len (evParts A ps) K) :
    ∃ r w' L' x' A' H', (Instr.buildSlice t len (ps.toArray.map fun (i, x) => (i, a.eval x))).run P w = .ok r w' ∧ Sim N.n w0 S w' a.tmps L' A' H' ∧ Rd w' (okb S H' L') L' x' r ∧ K x' A' H' := by
  unfold bsVC at h
  split at h
  · rename_i se l hse hl
    obtain ⟨⟨⟨hpn, h01, h1⟩, h2⟩, hK⟩ := h
    obtain ⟨hut, ti, z, hi, e1, e2, e3, e4, e5⟩ := selOf_ok hse
    obtain ⟨p1, p2⟩ := evParts_ok s ps l hl
    have hex : ∃ zc : Array Value, (if len * se.size = 0 then pure #[] else (do pure (← zeroValue se.e).cells) : Sem (Array Value)).run P w = .ok zc w ∧ (0 < len * se.size → zc = z.cells) := by
      by_cases h0 : len * se.size = 0
      · exact ⟨#[], by simp [h0], fun h => by omega⟩
      · exact ⟨z.cells, by simp only [h0, if_false]; simp [zeroValue, typeInfo, hi, e3], fun _ => rfl⟩
    obtain ⟨zc, hz, hzc⟩ := hex
    obtain ⟨r, r1, r2, r3⟩ := fill_ok (w := w) (ok := okb S H L) (L := L) (fun i => some (i * se.size, se.size)) l (ps.map fun (i, x) => (i, a.eval x)) (zF se.zero)
      ((Array.range (len * se.size)).map (zc[· % zc.size]!)) p1 p2 (by simpa using h2) (by
        intro i hi
        simp at hi
        have := hzc (by omega)
        subst this
        have hz0 : 0 < z.cells.size := by omega
        rw [zF_get e4 i hz0]
        exact ⟨_, by simp [hi], rfl⟩)
    simp at r2
    have hal := s.alloc hS d r se.e (n := len * se.size) (f := fillF (fun i => some (i * se.size, se.size)) l (zF se.zero)) (by omega) (fun i hi => r3 i (by simpa using hi)) hpn
    refine ⟨.slice (some ⟨w.heap.size, 0, none⟩) len len, _, _, .own d 0 se.size len, _, _, ?_, hal, ?_, hK⟩
    · have hnot : ¬ (16777216 < len * se.size) := by omega
      have hso : (sizeOf se.e).run P w = .ok se.size w := by simp [sizeOf, typeInfo, hi, e1]
      by_cases h0 : len * se.size = 0
      · have hzc0 : zc = #[] := by simpa [h0] using hz.symm
        subst hzc0
        simp only [h0] at r1
        unfold Instr.buildSlice
        have e0 : ∀ (f : Nat → Value), Array.map f (Array.range 0) = #[] := fun f => Array.eq_empty_of_size_eq_zero (by simp)
        rw [e0] at r1
        simp only [Sem.run_bind, run_underlying hut, Result.andThen_ok, hso, h0]
        simp [r1, newRow, e0]
      · have hzc1 := hzc (by omega)
        subst hzc1
        have hzz : (zeroValue se.e).run P w = .ok z w := by simp [zeroValue, typeInfo, hi, e3]
        unfold Instr.buildSlice
        simp only [Sem.run_bind, run_underlying hut, Result.andThen_ok, hso, Sem.run_ite, h0, if_false, hzz]
        simp [hnot, r1, newRow]
    · simp only [Rd, if_true]
      exact ⟨_, len, rfl, Nat.le_refl _, by simp only [maxLen]; have := Nat.le_mul_of_pos_right len h01; omega, rfl, rfl, fun _ => rfl, _, se.e, .of (heap_alloc_new w _), by omega⟩
  · exact h.elim

end
end Go.Av
end
/- What each operation asks and gives, over abstract frames: copy, slices of slices, fields, strings, conversions. -/
section
namespace Go.Av

section
variable {P : Program} {N : Cx} {A : Fr} {H : Hp} {K : AV → Fr → Hp → Prop}

/- copy -/
def cpVC (se : Option SE) (H : Hp) (a b : AV) (K : AV → Hp → Prop) : Prop :=
  match se, a with
  | some se, .own h off sz n =>
    match H h, srcOf H sz b with
    | some (.cells N f), some (m, g) =>
      Ob (sz = se.size ∧ 0 < sz ∧ off + n * sz ≤ N) (Ob (∀ i, i < m * sz → (g i).one = true)
        (K (.v (.int .i64 (min m n : Nat))) (H.upd h (.cells N (setsF f off (min m n * sz) g)))))
    | _, _ => False
  | _, _ => False

theorem run_firstCells_src {sz m n : Nat} {x : Option Addr} {c : Nat} {us : List Value} (w : World) (hn : n ≤ m) (hx : x = none → m = 0) (hul : us.length = m * sz)
    (hcell : ∀ p, x = some p → ∀ j u, us[j]? = some u → w.cell? (p.add j) = some u) : (Builtin.firstCells sz n (.slice x m c)).run P w = .ok (us.take (n * sz)).toArray w := by
  have h1 := Nat.mul_le_mul_right sz hn
  cases x with
  | none =>
    have := hx rfl
    subst this
    have hus : us = [] := List.eq_nil_of_length_eq_zero (by simpa using hul)
    simp [Builtin.firstCells, hus]
  | some p =>
    refine run_firstCells_some (P := P) w sz n p m c _ (by simp; omega) ?_
    intro j v hj
    rw [List.getElem?_take] at hj
    split at hj
    · exact hcell p rfl j v hj
    · simp at hj

theorem run_cp {t t' ty : TypeId} {a b : AV} {u v : Value} {w0 : World} {S : Rg} {w : World} {tm : Array Value} {L : Loc} (s : Sim N.n w0 S w tm L A H) (hS : Good N w0 S) (K : AV → Hp → Prop)
    (hu : Rd w (okb S H L) L a u) (hv : Rd w (okb S H L) L b v) (h : cpVC (selOf P t) H a b K) :
    ∃ r w' H', (Builtin.copy_ #[t, t'] ty #[u, v]).run P w = .ok r w' ∧ Sim N.n w0 S w' tm L A H' ∧ K (.v r) H' := by
  unfold cpVC at h
  split at h
  · rename_i se hh off sz n hse
    split at h
    · rename_i NN f m g hH hsrc
      obtain ⟨⟨h1, h2, h3⟩, h6, hK⟩ := h
      obtain ⟨hut, ti, z, hi, e1, e2, e3, e4, e5⟩ := selOf_ok hse
      obtain ⟨x, c, us, rfl, hx, hul, hcell, hrd⟩ := srcOf_ok hsrc s hv
      subst h1
      have hfc := run_firstCells_src (P := P) (n := min m n) (c := c) w (Nat.min_le_left _ _) hx hul hcell
      have hone := one_of hul hrd h6
      have hso : (sizeOf se.e).run P w = .ok se.size w := by simp [sizeOf, typeInfo, hi, e1]
      have hlen : (us.take (min m n * se.size)).length = min m n * se.size := by
        have := Nat.mul_le_mul_right se.size (Nat.min_le_left m n)
        simp; omega
      simp only [Rd] at hu
      split at hu
      · rename_i hl
        obtain ⟨rfl, rfl⟩ := hu
        have hb := s.blk hh _ hH
        rw [hl] at hb
        simp only [BlkOk] at hb
        subst hb
        have hs2 := s
        refine ⟨.int .i64 (min m 0 : Nat), w, _, ?_, ?_, hK⟩
        · simp only [Nat.min_zero, Nat.zero_mul, List.take_zero] at hfc
          simp [Builtin.copy_, run_underlying hut, Builtin.lenOf, hso, hfc, goInt]
        · have e : H.upd hh (.cells 0 (setsF f off (min m 0 * se.size) g)) = H := by
            funext k
            simp only [Hp.upd]
            split
            · rename_i hk
              subst hk
              rw [hH]
              congr 2
              funext j
              simp [setsF]
              intro h1 h2
              omega
            · rfl
          rw [e]; exact s
      · rename_i b' s' hl
        obtain ⟨p, cap, rfl, q1, q2, q3, q4, q5, cs', e', q6, q7⟩ := hu
        have hpe : p = ⟨b', p.off, none⟩ := by rw [← q3]; exact Addr_eq q4
        have hfit : off + min m n * se.size ≤ NN := by
          have := Nat.mul_le_mul_right se.size (Nat.min_le_right m n)
          omega
        obtain ⟨w', r1, r2⟩ := s.storeCells (P := P) (off := off) (m := min m n * se.size) hS hH hl (us.take (min m n * se.size)) hlen hfit
          (fun v hv => hone v (List.mem_of_mem_take hv)) (g := g) (by
            intro i hi
            obtain ⟨c, k1, k2⟩ := hrd i (by have := Nat.mul_le_mul_right se.size (Nat.min_le_left m n); omega)
            exact ⟨c, by rw [List.getElem?_take, if_pos hi]; exact k1, k2⟩)
        have hst : (storeCells p (us.take (min m n * se.size))).run P w = .ok () w' := by
          rcases Nat.eq_zero_or_pos cap with h0 | h0
          · have hn0 : n = 0 := by omega
            subst hn0
            simp only [Nat.min_zero, Nat.zero_mul, List.take_zero, Go.storeCells] at r1 ⊢
            exact r1
          · rw [hpe, q5 h0]; exact r1
        refine ⟨.int .i64 (min m n : Nat), w', _, ?_, r2, hK⟩
        have hmin : Nat.min m n = min m n := rfl
        simp [Builtin.copy_, run_underlying hut, Builtin.lenOf, hso, hmin, hfc, hst, goInt]
    · exact h.elim
  · exact h.elim

/- x[lo:hi] -/
def boundOf (dflt : Nat) (x : Option (Option AV)) : Option Int :=
  match x with
  | none => some dflt
  | some (some (.v (.int _ i))) => some i
  | _ => none

inductive SlT | str | slice (size : Nat) | other
def slT (P : Program) (t : TypeId) : SlT :=
  match P.underlying t with
  | some .string => .str
  | some (.slice e) => (match P.info? e with | some i => .slice i.size | none => .other)
  | _ => .other

def slVC (st : SlT) (a : AV) (lo hi : Option (Option AV)) (K : AV → Prop) : Prop :=
  match st, a with
  | .str, .v (.string s) =>
    match boundOf 0 lo, boundOf s.size hi with
    | some l, some h => Ob (0 ≤ l ∧ l ≤ h ∧ h ≤ s.size) (K (.v (.string (s.extract l.toNat h.toNat))))
    | _, _ => False
  | .slice size, .list nn sz n f =>
    match boundOf 0 lo, boundOf n hi with
    | some l, some h => Ob (sz = size) (Ob (0 ≤ l ∧ l ≤ h ∧ h ≤ n) (K (.list nn sz (h.toNat - l.toNat) (shF (l.toNat * sz) f))))
    | _, _ => False
  | .slice size, .own hh off sz n =>
    match boundOf 0 lo, boundOf n hi with
    | some l, some h => Ob (sz = size) (Ob (0 ≤ l ∧ l ≤ h ∧ h ≤ n) (K (.own hh (off + l.toNat * sz) sz (h.toNat - l.toNat))))
    | _, _ => False
  | .slice _, .v (.slice none 0 0) =>
    match boundOf 0 lo, boundOf 0 hi with
    | some l, some h => Ob (0 ≤ l ∧ l ≤ h ∧ h ≤ (0 : Nat)) (K (.v (.slice none 0 0)))
    | _, _ => False
  | _, _ => False

/-- The values of the bounds. -/
def Bnd (x : Option (Option AV)) (v : Option Value) : Prop :=
  match x, v with
  | none, none => True
  | some (some (.v (.int k i))), some (.int k' i') => k = k' ∧ i = i'
  | some (some (.v (.int _ _))), _ => False
  | some _, some _ => True
  | _, _ => False

theorem bound_cases {d : Nat} {x : Option (Option AV)} {v : Option Value} {l : Int} (h1 : Bnd x v) (h2 : boundOf d x = some l) : (v = none ∧ l = d) ∨ ∃ k, v = some (.int k l) := by
  unfold boundOf at h2
  split at h2
  · simp only [Option.some.injEq] at h2
    cases v with
    | none => exact .inl ⟨rfl, h2.symm⟩
    | some v => simp [Bnd] at h1
  · simp only [Option.some.injEq] at h2
    subst h2
    cases v with
    | none => simp [Bnd] at h1
    | some v =>
      cases v <;> simp only [Bnd] at h1
      obtain ⟨rfl, rfl⟩ := h1
      exact .inr ⟨_, rfl⟩
  · simp at h2

theorem run_bounds (w : World) (sl : Bool) (len cap : Nat) (lo hi : Option (Option AV)) (lv hv : Option Value) (l h : Int) (h1 : Bnd lo lv) (h2 : Bnd hi hv) (hl : boundOf 0 lo = some l) (hh : boundOf len hi = some h)
    (hb : 0 ≤ l ∧ l ≤ h ∧ h ≤ len) (hc : len ≤ cap) : (Instr.sliceBounds sl len cap lv hv none).run P w = .ok (l.toNat, h.toNat, cap) w := by
  obtain ⟨b1, b2, b3⟩ := hb
  rcases bound_cases h1 hl with ⟨rfl, rfl⟩ | ⟨k, rfl⟩ <;> rcases bound_cases h2 hh with ⟨rfl, rfl⟩ | ⟨k', rfl⟩
  · simp [Instr.sliceBounds]
  · have r1 := fun code => run_sliceBound (P := P) w k' h cap code (by omega) (by omega)
    simp [Instr.sliceBounds, r1]
  · have r1 := fun code => run_sliceBound (P := P) w k l len code (by omega) (by omega)
    simp [Instr.sliceBounds, r1]
  · have r1 := fun code => run_sliceBound (P := P) w k' h cap code (by omega) (by omega)
    have r2 := fun code => run_sliceBound (P := P) w k l h.toNat code (by omega) (by omega)
    simp [Instr.sliceBounds, r1, r2]

theorem run_sl {t : TypeId} {a : AV} {u : Value} {lo hi : Option (Option AV)} {lv hv : Option Value} {w : World} {ok : Nat → Prop} {L : Loc} (K : AV → Prop) (hu : Rd w ok L a u) (h1 : Bnd lo lv) (h2 : Bnd hi hv)
    (h : slVC (slT P t) a lo hi K) : ∃ r x, (∀ w, (Instr.sliceAt t u lv hv none).run P w = .ok r w) ∧ Rd w ok L x r ∧ K x := by
  have hsl : ∀ size, slT P t = .slice size → ∃ e i, P.underlying t = some (.slice e) ∧ P.info? e = some i ∧ i.size = size := by
    intro size hs
    unfold slT at hs
    split at hs
    · simp at hs
    · rename_i e he
      split at hs
      · rename_i i hi
        simp only [SlT.slice.injEq] at hs
        exact ⟨e, i, he, hi, hs⟩
      · simp at hs
    · simp at hs
  have hst : slT P t = .str → P.underlying t = some .string := by
    intro hs
    unfold slT at hs
    split at hs
    · assumption
    · split at hs <;> simp at hs
    · simp at hs
  unfold slVC at h
  split at h
  · rename_i st s e
    have hut := hst e
    split at h
    · rename_i l hh hl hhi
      obtain ⟨hb, hK⟩ := h
      cases hu
      have hr := fun w => run_bounds (P := P) w false s.size s.size lo hi lv hv l hh h1 h2 hl hhi hb (Nat.le_refl _)
      exact ⟨_, .v (.string (s.extract l.toNat hh.toNat)), fun w => by simp only [Instr.sliceAt, Instr.slice, Sem.run_bind, run_underlying hut, Result.andThen_ok, Option.isSome_none, Bool.false_eq_true, if_false, Sem.run_pure, hr], rfl, hK⟩
    · exact h.elim
  · rename_i size nn sz n f e
    obtain ⟨el, i, hut, hi', hsz⟩ := hsl _ e
    split at h
    · rename_i l hh hl hhi
      obtain ⟨rfl, hb, hK⟩ := h
      obtain ⟨x, cap, rfl, k1, k2, k3, k4⟩ := hu
      have hr := fun w => run_bounds (P := P) w true n cap lo hi lv hv l hh h1 h2 hl hhi hb k1
      have hso : ∀ w, (sizeOf el).run P w = .ok sz w := fun w => by simp [sizeOf, typeInfo, hi', hsz]
      refine ⟨_, .list nn sz (hh.toNat - l.toNat) (shF (l.toNat * sz) f), fun w => by simp only [Instr.sliceAt, Instr.slice, Sem.run_bind, run_underlying hut, Result.andThen_ok, Sem.run_pure, hr, hso]; rfl, ?_, hK⟩
      refine ⟨_, _, rfl, by omega, ?_, ?_, ?_⟩
      · intro hn hx
        have := k2 hn
        split at hx
        · exact this hx
        · simp at hx; exact this hx
      · intro hx
        have hx' : x = none := by
          split at hx
          · exact hx
          · simpa using hx
        have := k3 hx'
        omega
      · intro p hp i hi
        by_cases hc : cap = l.toNat
        · rw [if_pos hc] at hp
          have h0 : hh.toNat - l.toNat = 0 := by omega
          rw [h0] at hi
          omega
        · rw [if_neg hc] at hp
          cases x with
          | none => simp at hp
          | some q =>
            simp only [Option.map_some, Option.some.injEq] at hp
            subst hp
            have q2 := k4 q rfl
            have hlt : l.toNat * sz + i < n * sz := by
              have h5 : hh.toNat ≤ n := by omega
              have h6 := Nat.mul_le_mul_right sz h5
              rw [Nat.sub_mul] at hi
              omega
            rw [Addr_eq (q2 _ hlt).1, Addr_add]
            refine ⟨rfl, ?_⟩
            have := (q2 (l.toNat * sz + i) hlt).2
            simpa [shF, Nat.add_assoc] using this
    · exact h.elim
  · rename_i size g off sz n e
    obtain ⟨el, i, hut, hi', hsz⟩ := hsl _ e
    split at h
    · rename_i l hh hl hhi
      obtain ⟨rfl, hb, hK⟩ := h
      have hso : ∀ w, (sizeOf el).run P w = .ok sz w := fun w => by simp [sizeOf, typeInfo, hi', hsz]
      simp only [Rd] at hu
      split at hu
      · rename_i hlg
        obtain ⟨rfl, rfl⟩ := hu
        have hr := fun w => run_bounds (P := P) w true 0 0 lo hi lv hv l hh h1 h2 hl hhi hb (Nat.le_refl _)
        refine ⟨.slice none 0 0, .own g (off + l.toNat * sz) sz (hh.toNat - l.toNat), ?_, ?_, hK⟩
        · intro w
          simp only [Instr.sliceAt, Instr.slice, Sem.run_bind, run_underlying hut, Result.andThen_ok, Sem.run_pure, hr, hso]
          simp
          omega
        · simp only [Rd, hlg]
          exact ⟨trivial, by omega⟩
      · rename_i b s hlg
        obtain ⟨p, cap, rfl, q1, q2, q3, q4, q5, cs, ce, q6, q7⟩ := hu
        have hr := fun w => run_bounds (P := P) w true n cap lo hi lv hv l hh h1 h2 hl hhi hb q1
        refine ⟨_, .own g (off + l.toNat * sz) sz (hh.toNat - l.toNat), fun w => by simp only [Instr.sliceAt, Instr.slice, Sem.run_bind, run_underlying hut, Result.andThen_ok, Sem.run_pure, hr, hso]; rfl, ?_, hK⟩
        simp only [Rd, hlg]
        by_cases hc : cap = l.toNat
        · refine ⟨p, cap - l.toNat, by simp [hc], by omega, by omega, q3, q4, fun h => by omega, cs, ce, q6, ?_⟩
          have h0 : cap - l.toNat = 0 := by omega
          rw [h0, ← hc]
          omega
        · refine ⟨p.add (l.toNat * sz), cap - l.toNat, by simp [hc], by omega, by omega, ?_, ?_, fun h => ?_, cs, ce, q6, ?_⟩
          · rw [Addr_eq q4, Addr_add]; exact q3
          · rw [Addr_eq q4, Addr_add]
          · rw [Addr_eq q4, Addr_add, q5 (by omega)]
            simp [Nat.add_assoc]
          · rw [Nat.sub_mul]
            have h5 : l.toNat ≤ cap := by omega
            have h6 := Nat.mul_le_mul_right sz h5
            omega
    · exact h.elim
  · rename_i size e
    obtain ⟨el, i, hut, hi', hsz⟩ := hsl _ e
    split at h
    · rename_i l hh hl hhi
      obtain ⟨hb, hK⟩ := h
      have hso : ∀ w, (sizeOf el).run P w = .ok size w := fun w => by simp [sizeOf, typeInfo, hi', hsz]
      cases hu
      have hr := fun w => run_bounds (P := P) w true 0 0 lo hi lv hv l hh h1 h2 hl hhi hb (Nat.le_refl _)
      refine ⟨.slice none 0 0, .v (.slice none 0 0), ?_, rfl, hK⟩
      intro w
      simp only [Instr.sliceAt, Instr.slice, Sem.run_bind, run_underlying hut, Result.andThen_ok, Sem.run_pure, hr, hso]
      simp
      omega
    · exact h.elim
  · exact h.elim

end
end Go.Av
end
/- What each operation asks and gives, over abstract frames: fields, structs, strings, conversions; and all operations together. -/
section
namespace Go.Av

/-- The worlds that a quiet region may come to: new blocks apart, as w. -/
def Cw (w w' : World) : Prop := Keep w (fun b => w.heap.size ≤ b) w'

theorem Cw.blk {w w' : World} (h : Cw w w') : ∀ b, b < w.heap.size → w'.heap[b]? = w.heap[b]? := fun b hb => Keep.blk h b hb (by omega)

section
variable {P : Program} {N : Cx} {A : Fr} {H : Hp} {K : AV → Fr → Hp → Prop}

/- fields -/
structure FD where
  off : Nat
  size : Nat
  agg : Bool

def fldOf (P : Program) (s : TypeId) (i : Nat) : Option FD :=
  match P.underlying s with
  | some (.struct fields) =>
    match fields[i]? with
    | some f =>
      match tyOf P f.type with
      | some ty => if ty.size = 0 then none else some ⟨f.offset, ty.size, ty.agg⟩
      | none => none
    | none => none
  | _ => none

theorem fldOf_ok {s : TypeId} {i : Nat} {fd : FD} (h : fldOf P s i = some fd) :
    ∃ fields f, P.underlying s = some (.struct fields) ∧ fields[i]? = some f ∧ f.offset = fd.off ∧ (∀ w, (sizeOf f.type).run P w = .ok fd.size w) ∧ (∀ w, (isAgg f.type).run P w = .ok fd.agg w) ∧ 0 < fd.size := by
  unfold fldOf at h
  split at h
  · rename_i fields hu
    split at h
    · rename_i f hf
      split at h
      · rename_i ty hty
        split at h
        · simp at h
        · rename_i h0
          simp only [Option.some.injEq] at h
          subst h
          obtain ⟨k1, k2, _⟩ := tyOf_ok hty
          exact ⟨fields, f, hu, hf, rfl, k2, k1, by show 0 < ty.size; omega⟩
      · simp at h
    · simp at h
  · simp at h

def faVC (fd : Option FD) (a : AV) (K : AV → Prop) : Prop :=
  match fd, a with
  | some fd, .ref h off => K (.ref h (off + fd.off))
  | some fd, .ptr n f => Ob (fd.off ≤ n) (K (.ptr (n - fd.off) (shF fd.off f)))
  | _, _ => False

theorem run_fa {t : TypeId} {i : Nat} {a : AV} {u : Value} {w : World} {ok : Nat → Prop} {L : Loc} (K : AV → Prop) (hu : Rd w ok L a u) (h : faVC (fldOf P t i) a K) :
    ∃ r x, (∀ w, (Instr.fieldAt t u i).run P w = .ok r w) ∧ Rd w ok L x r ∧ K x := by
  unfold faVC at h
  split at h
  · rename_i fd g off hfd
    obtain ⟨fields, f, k1, k2, k3, k4, _, k5⟩ := fldOf_ok hfd
    obtain ⟨b, s, hl, rfl⟩ := hu
    refine ⟨.pointer (some ((⟨b, s + off, none⟩ : Addr).add f.offset)), .ref g (off + fd.off), ?_, ⟨b, s, hl, by rw [Addr_add, k3, Nat.add_assoc]⟩, h⟩
    intro w; simp [Instr.fieldAt, run_underlying k1, k2, Instr.sureAddr, fieldPlace, k4, show ¬ fd.size = 0 by omega]
  · rename_i fd n f hfd
    obtain ⟨hle, hK⟩ := h
    obtain ⟨fields, ff, k1, k2, k3, k4, _, k5⟩ := fldOf_ok hfd
    obtain ⟨p, rfl, h1, h2⟩ := hu
    refine ⟨.pointer (some (p.add ff.offset)), .ptr (n - fd.off) (shF fd.off f), ?_, ⟨_, rfl, by rw [Addr_eq h1, Addr_add], fun j hj => ?_⟩, hK⟩
    · intro w; simp [Instr.fieldAt, run_underlying k1, k2, Instr.sureAddr, fieldPlace, k4, show ¬ fd.size = 0 by omega]
    · rw [Addr_eq h1, Addr_add, k3]
      have := h2 (fd.off + j) (by omega)
      simpa [shF, Nat.add_assoc] using this
  · exact h.elim

def fdVC (fd : Option FD) (a : AV) (K : AV → Prop) : Prop :=
  match fd, aggOf a with
  | some fd, some (n, g) => Ob (fd.off + fd.size ≤ n) (K (if fd.agg then .agg fd.size (shF fd.off g) else g fd.off))
  | _, _ => False

theorem run_fd {t : TypeId} {i : Nat} {a : AV} {u : Value} {w : World} {ok : Nat → Prop} {L : Loc} (K : AV → Prop) (hu : Rd w ok L a u) (h : fdVC (fldOf P t i) a K) :
    ∃ r x, (∀ w, (Instr.field t u i).run P w = .ok r w) ∧ Rd w ok L x r ∧ K x := by
  unfold fdVC at h
  split at h
  · rename_i fd n g hfd hg
    obtain ⟨hle, hK⟩ := h
    obtain ⟨fields, f, k1, k2, k3, k4, k6, k5⟩ := fldOf_ok hfd
    obtain ⟨cs, rfl, c1, c2⟩ := aggOf_ok hg hu
    cases hag : fd.agg with
    | true =>
      rw [hag] at hK
      refine ⟨.agg (cs.extract fd.off (fd.off + fd.size)), .agg fd.size (shF fd.off g), ?_, ⟨_, rfl, by simp; omega, fun j hj => ?_⟩, hK⟩
      · intro w; simp [Instr.field, run_underlying k1, k2, asAgg, part, k6, hag, k4, k3]
      · obtain ⟨c, d1, d2⟩ := c2 (fd.off + j) (by omega)
        refine ⟨c, ?_, d2⟩
        rw [Array.getElem?_extract, if_pos (by omega)]
        exact d1
    | false =>
      rw [hag] at hK
      obtain ⟨c, d1, d2⟩ := c2 fd.off (by omega)
      exact ⟨c, g fd.off, fun w => by simp [Instr.field, run_underlying k1, k2, asAgg, part, k6, hag, k3, d1], d2, hK⟩
  · exact h.elim

/- struct literals -/
structure BD where
  size : Nat
  zero : List Value
  places : List (Nat × Nat)

def bldOf (P : Program) (t : TypeId) : Option BD :=
  match P.underlying t, P.info? t with
  | some (.struct fields), some it =>
    match it.zero, fields.toList.mapM (fun f => (P.info? f.type).map fun i => (f.offset, i.size)) with
    | some z, some places => some ⟨z.cells.size, z.cells.toList, places⟩
    | _, _ => none
  | some (.array n e), some it =>
    match it.zero, P.info? e with
    | some z, some ie => some ⟨z.cells.size, z.cells.toList, (List.range n).map fun i => (i * ie.size, ie.size)⟩
    | _, _ => none
  | _, _ => none
theorem fill_le {place place' : Nat → Option (Nat × Nat)} (h : ∀ i p, place i = some p → place' i = some p) : ∀ (vs : List (Nat × Value)) (cells r : Array Value), Instr.fill place cells vs = some r → Instr.fill place' cells vs = some r
  | [], _, _, k => k
  | (i, v) :: vs, cells, r, k => by
    unfold Instr.fill at k ⊢
    cases e : place i with
    | none => rw [e] at k; cases k
    | some p =>
      rw [e] at k
      rw [h i p e]
      dsimp only at k ⊢
      split at k
      · cases k
      · rename_i hs; rw [if_neg hs]; exact fill_le h vs _ _ k

def bdVC (bd : Option BD) (parts : Option (List (Nat × AV))) (K : AV → Prop) : Prop :=
  match bd, parts with
  | some bd, some ps => Ob (fillOk (fun i => bd.places[i]?) bd.size ps) (K (.agg bd.size (fillF (fun i => bd.places[i]?) ps (zF bd.zero))))
  | _, _ => False

theorem run_bd {t : TypeId} {ps : List (Nat × Operand)} {w0 : World} {S : Rg} {w : World} {a : Act} {L : Loc} (s : Sim N.n w0 S w a.tmps L A H) (K : AV → Prop)
    (h : bdVC (bldOf P t) (evParts A ps) K) : ∃ r x, (Instr.build t (ps.toArray.map fun (i, x) => (i, a.eval x))).run P w = .ok r w ∧ Rd w (okb S H L) L x r ∧ K x := by
  unfold bdVC at h
  split at h
  · rename_i bd l hbd hl
    obtain ⟨h2, hK⟩ := h
    obtain ⟨p1, p2⟩ := evParts_ok s ps l hl
    unfold bldOf at hbd
    split at hbd
    · rename_i fields it hu hi
      split at hbd
      · rename_i z places hz hp
        simp only [Option.some.injEq] at hbd
        subst hbd
        obtain ⟨r, r1, r2, r3⟩ := fill_ok (w := w) (ok := okb S H L) (L := L) (fun i => places[i]?) l (ps.map fun (i, x) => (i, a.eval x)) (zF z.cells.toList) z.cells p1 p2 h2 (by
          intro i hi
          rw [zF_get rfl i (by omega), Nat.mod_eq_of_lt hi]
          exact ⟨z.cells[i]!, by simp [hi], rfl⟩)
        refine ⟨.agg r, .agg z.cells.size (fillF (fun i => places[i]?) l (zF z.cells.toList)), ?_, ⟨r, rfl, r2, fun i hi => r3 i hi⟩, hK⟩
        refine run_build w t _ r ?_
        unfold Program.built
        rw [hi, hu]
        simp only [hz, hp]
        simpa using r1
      · simp at hbd
    · rename_i n e it hu hi
      split at hbd
      · rename_i z ie hz hie
        simp only [Option.some.injEq] at hbd
        subst hbd
        obtain ⟨r, r1, r2, r3⟩ := fill_ok (w := w) (ok := okb S H L) (L := L) (fun i => ((List.range n).map fun i => (i * ie.size, ie.size))[i]?) l (ps.map fun (i, x) => (i, a.eval x)) (zF z.cells.toList) z.cells p1 p2 h2 (by
          intro i hi
          rw [zF_get rfl i (by omega), Nat.mod_eq_of_lt hi]
          exact ⟨z.cells[i]!, by simp [hi], rfl⟩)
        refine ⟨.agg r, .agg z.cells.size (fillF (fun i => ((List.range n).map fun i => (i * ie.size, ie.size))[i]?) l (zF z.cells.toList)), ?_, ⟨r, rfl, r2, fun i hi => r3 i hi⟩, hK⟩
        refine run_build w t _ r ?_
        unfold Program.built
        rw [hi, hu]
        simp only [hz, hie]
        refine fill_le (place := fun i => ((List.range n).map fun i => (i * ie.size, ie.size))[i]?) (fun i p hp => ?_) _ _ _ (by simpa using r1)
        rw [List.getElem?_map] at hp
        cases hr : (List.range n)[i]? with
        | none => rw [hr] at hp; cases hp
        | some j =>
          rw [hr] at hp
          obtain ⟨h1, h2⟩ := List.getElem?_eq_some_iff.1 hr
          simp only [Option.map_some, Option.some.injEq] at hp
          rw [List.getElem_range] at h2
          rw [← hp, ← h2]
      · simp at hbd
    · simp at hbd
  · exact h.elim

/- s[i] of a string -/
def isStr (P : Program) (t : TypeId) : Bool :=
  match P.underlying t with
  | some .string => true
  | _ => false
def chVC (st : Bool) (a b : AV) (K : AV → Prop) : Prop :=
  match st, a, b with
  | true, .v (.string s), .v (.int _ i) => Ob (0 ≤ i ∧ i < s.size) (K (.v (.int .u8 (s.data.toList.getD i.toNat 0).toNat)))
  | _, _, _ => False

theorem run_ch {t : TypeId} {a b : AV} {u v : Value} {w : World} {ok : Nat → Prop} {L : Loc} (K : AV → Prop) (hu : Rd w ok L a u) (hv : Rd w ok L b v) (h : chVC (isStr P t) a b K) :
    ∃ r, (∀ w, (Instr.index t u v).run P w = .ok r w) ∧ K (.v r) := by
  unfold chVC at h
  split at h
  · rename_i st s k i hst
    obtain ⟨⟨h1, h2⟩, hK⟩ := h
    cases hu; cases hv
    have hut : P.underlying t = some .string := by
      unfold isStr at hst
      split at hst
      · assumption
      · simp at hst
    have hlt : i.toNat < s.size := by omega
    refine ⟨_, fun w => ?_, hK⟩
    have hg : s[i.toNat]? = some (s.data.toList.getD i.toNat 0) := by
      have hlt' : i.toNat < s.data.size := hlt
      rw [getElem?_pos s i.toNat hlt]
      have e : s[i.toNat] = s.data[i.toNat] := rfl
      rw [e, List.getD_eq_getElem?_getD, Array.getElem?_toList, Array.getElem?_eq_getElem hlt']
      rfl
    simp [Instr.index, run_underlying hut, asIntOf, h1, hg]
  · exact h.elim

/- conversions -/
theorem Sim.of_Cw {w0 : World} {S : Rg} {w w' : World} {tm : Array Value} {L : Loc} (s : Sim N.n w0 S w tm L A H) (_hS : Good N w0 S) (h : Cw w w') : Sim N.n w0 S w' tm L A H := by
  have hk : Keep w S.wr w' := Keep.mono h fun b hb hw => absurd hw (by omega)
  have hsame : ∀ b, b < w.heap.size → okb S H L b → okb S H L b ∧ w'.heap[b]? = w.heap[b]? := fun b hb ho => ⟨ho, h.blk b hb⟩
  have := s.step (p := fun _ => false) (L' := L) (H' := H) hk hsame (fun _ _ => rfl) (fun _ _ _ => rfl) (fun h' B hB => by
    have hb := s.blk h' B hB
    have := BlkOk.step (p := fun _ => false) (L' := L) (wh' := w') hsame hk.shape (fun _ _ => rfl) (fun q hq => h.blk q.1 (by rw [hq] at hb; exact BlkOk.lt (b := q.1) (s := q.2) hb)) hb
    rwa [Blk.scrub_none] at this) s.own s.inj
  rwa [Fr.scrub_none] at this


inductive CvT | int (k : IntKind) | same | bytes (e : TypeId) | str | other
def cvT (P : Program) (s d : TypeId) : CvT :=
  match P.underlying s, P.underlying d with
  | some (.int _), some (.int k) => .int k
  | some .string, some .string => .same
  | some .string, some (.slice e) => (match P.underlying e with | some (.int .u8) => .bytes e | _ => .other)
  | some (.slice e), some .string => (match P.underlying e with | some (.int .u8) => .str | _ => .other)
  | _, _ => .other

/-- A byte's cell. -/
def byteOf (a : AV) : UInt8 :=
  match a with
  | .v (.int .u8 n) => UInt8.ofNat n.toNat
  | _ => 0
/-- The text that a row of bytes is. -/
def strOf (n : Nat) (f : Nat → AV) : ByteArray := ⟨((List.range n).map fun i => byteOf (f i)).toArray⟩
def isByte (a : AV) : Prop := ∃ n : Int, a = .v (.int .u8 n)
def cvVC (ct : CvT) (H : Hp) (a : AV) (K : AV → Prop) : Prop :=
  match ct, a with
  | .int k, .v (.int _ n) => K (.v (.int k (k.wrap n)))
  | .same, .v (.string s) => K (.v (.string s))
  | .bytes _, .v (.string s) => K (.list true 1 s.size fun i => .v (.int .u8 (s.data.toList.getD i 0).toNat))
  | .str, a =>
    match srcOf H 1 a with
    | some (n, f) => Ob (∀ i, i < n → isByte (f i)) (K (.v (.string (strOf n f))))
    | none => False
  | _, _ => False

theorem Keep.drewAlloc (w : World) (o : Obj) : Cw w (w.drew.alloc o) := by
  have h := keep_alloc (w := w.drew) o _ rfl
  exact ⟨h.os, h.tape, h.output, h.size, fun b hb hn => h.blk b hb (fun e => hn (Nat.le_of_eq e.symm)), h.shape⟩

theorem run_cv {s d : TypeId} {a : AV} {u : Value} {w0 : World} {S : Rg} {w : World} {tm : Array Value} {L : Loc} (sm : Sim N.n w0 S w tm L A H) (hS : Good N w0 S) (K : AV → Prop) (hu : Rd w (okb S H L) L a u) (h : cvVC (cvT P s d) H a K) :
    ∃ r w' x, (convert s d u).run P w = .ok r w' ∧ Sim N.n w0 S w' tm L A H ∧ Rd w' (okb S H L) L x r ∧ K x := by
  unfold cvVC at h
  split at h
  · rename_i _ _ k j n hct
    cases hu
    unfold cvT at hct
    split at hct
    · rename_i hs hd
      simp only [CvT.int.injEq] at hct
      subst hct
      exact ⟨_, w, .v (.int _ (IntKind.wrap _ n)), by simp only [convert, Sem.run_bind, run_underlying hs, run_underlying hd, Result.andThen_ok]; rfl, sm, rfl, h⟩
    · simp at hct
    · split at hct <;> simp at hct
    · split at hct <;> simp at hct
    · simp at hct
  · rename_i _ _ s hct
    cases hu
    unfold cvT at hct
    split at hct
    · simp at hct
    · rename_i hs hd
      exact ⟨_, w, .v (.string s), by simp [convert, run_underlying hs, run_underlying hd], sm, rfl, h⟩
    · split at hct <;> simp at hct
    · split at hct <;> simp at hct
    · simp at hct
  · rename_i _ _ e st hct
    cases hu
    have hty : P.underlying s = some .string ∧ P.underlying d = some (.slice e) ∧ P.underlying e = some (.int .u8) := by
      unfold cvT at hct
      split at hct
      · simp at hct
      · simp at hct
      · rename_i e' hs hd
        split at hct
        · rename_i he
          simp only [CvT.bytes.injEq] at hct
          subst hct
          exact ⟨hs, hd, he⟩
        · simp at hct
      · split at hct <;> simp at hct
      · simp at hct
    obtain ⟨hs, hd, he⟩ := hty
    have hrun := run_bytes_of_string (P := P) w s d e st hs hd he
    have hcw : Cw w (w.drew.alloc (.cells (bytesRow st (grownCap w st.size 0 e)) e ((bytesRow st (grownCap w st.size 0 e)).size, (bytesRow st (grownCap w st.size 0 e)).size + 1))) := Keep.drewAlloc w _
    refine ⟨_, _, _, hrun, sm.of_Cw hS hcw, ?_, h⟩
    refine ⟨some ⟨w.heap.size, 0, none⟩, _, rfl, grownCap_ge w st.size 0 e, by simp, by simp, fun p hp i hi => ?_⟩
    simp only [Option.some.injEq] at hp
    subst hp
    rw [Nat.mul_one] at hi
    refine ⟨rfl, ?_, .int .u8 (st.data.toList.getD i 0).toNat, ?_, fun L' => rfl⟩
    · refine ⟨S.sub _ (hS.new _ sm.keep.size), fun g q hn hq hqe => ?_⟩
      cases hB : H g with
      | none => exact absurd hB hn
      | some B =>
        have hb := sm.blk g B hB
        rw [hq] at hb
        have h1 := BlkOk.lt (b := q.1) (s := q.2) hb
        have h2 : q.1 = w.heap.size := hqe
        omega
    · have e1 : (w.drew.alloc (.cells (bytesRow st (grownCap w st.size 0 e)) e ((bytesRow st (grownCap w st.size 0 e)).size, (bytesRow st (grownCap w st.size 0 e)).size + 1))).heap[w.heap.size]? = some (.cells (bytesRow st (grownCap w st.size 0 e)) e ((bytesRow st (grownCap w st.size 0 e)).size, (bytesRow st (grownCap w st.size 0 e)).size + 1)) := heap_alloc_new w.drew _
      simp only [World.cell?, Nat.zero_add, e1]
      have hi2 : i < st.size := hi
      simp [bytesRow, Array.getElem?_append, hi2]
  · rename_i a' hct
    split at h
    · rename_i n f hsrc
      obtain ⟨hby, hK⟩ := h
      have hty : ∃ e, P.underlying s = some (.slice e) ∧ P.underlying e = some (.int .u8) ∧ P.underlying d = some .string := by
        unfold cvT at hct
        split at hct
        · simp at hct
        · simp at hct
        · split at hct <;> simp at hct
        · rename_i e' hs hd
          split at hct
          · rename_i he; exact ⟨e', hs, he, hd⟩
          · simp at hct
        · simp at hct
      obtain ⟨e, hs, he, hd⟩ := hty
      obtain ⟨x, c, us, rfl, hx, hul, hcell, hrd⟩ := srcOf_ok hsrc sm hu
      rw [Nat.mul_one] at hul hrd
      have hstr : (convert s d (.slice x n c)).run P w = .ok (.string (strOf n f)) w := by
        have bytes : us = ((List.range n).map fun i => match f i with | .v (.int .u8 k) => k | _ => 0).map (Value.int .u8) := by
          refine List.ext_getElem? fun i => ?_
          by_cases hi : i < n
          · obtain ⟨v, h1, h2⟩ := hrd i hi
            obtain ⟨k, hk⟩ := hby i hi
            rw [hk] at h2
            cases h2
            rw [h1]
            simp [hi, hk]
          · rw [List.getElem?_eq_none (by omega), List.getElem?_eq_none (by simp; omega)]
        have fold : ∀ (l : List Nat) (r : ByteArray), ((l.map fun i => match f i with | .v (.int .u8 k) => k | _ => 0).foldl (fun r n => r.push (UInt8.ofNat n.toNat)) r) = ⟨r.data ++ (l.map fun i => byteOf (f i)).toArray⟩ := by
          intro l
          induction l with
          | nil => intro r; simp
          | cons a l ih =>
            intro r
            simp only [List.map_cons, List.foldl_cons]
            rw [ih]
            have : UInt8.ofNat (match f a with | .v (.int .u8 k) => k | _ => 0).toNat = byteOf (f a) := by
              unfold byteOf
              split <;> simp_all
            rw [this]
            simp [ByteArray.push]
        cases x with
        | none =>
          have hn := hx rfl
          subst hn
          rw [run_convert_bytes_string w s d e none 0 c hs he hd]
          simp [Conv.bytesToString, strOf]
          rfl
        | some p =>
          rw [run_convert_bytes_string w s d e (some p) n c hs he hd]
          have hl := run_loadCells_list (P := P) w p us (fun j v hj => hcell p rfl j v hj)
          rw [hul] at hl
          have hl2 : (loadCells p n).run P w = .ok (((List.range n).map fun i => match f i with | .v (.int .u8 k) => k | _ => 0).map (Value.int .u8)).toArray w := by rw [← bytes]; exact hl
          rw [run_bytesToString w p n c _ hl2, fold]
          have e0 : ByteArray.empty.data = #[] := rfl
          rw [e0, Array.empty_append]
          rfl
      exact ⟨_, w, .v (.string (strOf n f)), hstr, sm, rfl, hK⟩
    · exact h.elim
  · exact h.elim

/- min, max of two ints -/
def mmVC (mx : Bool) (a b : AV) (K : AV → Prop) : Prop :=
  match a, b with
  | .v (.int k m), .v (.int k' n) => Ob (k = k') (K (.v (.int k (if mx then max m n else min m n))))
  | _, _ => False

theorem run_min {tys : Array TypeId} {ty : TypeId} {a b : AV} {u v : Value} {w : World} {ok : Nat → Prop} {L : Loc} (K : AV → Prop) (hu : Rd w ok L a u) (hv : Rd w ok L b v) (h : mmVC false a b K) :
    ∃ r, (∀ w, (Builtin.min_ tys ty #[u, v]).run P w = .ok r w) ∧ K (.v r) := by
  unfold mmVC at h
  split at h
  · rename_i k m k' n
    obtain ⟨rfl, hK⟩ := h
    cases hu; cases hv
    refine ⟨_, fun w => ?_, hK⟩
    have : (if n < m then n else m) = min m n := by split <;> omega
    simp [Builtin.min_, Builtin.min2, this]
  · exact h.elim
theorem run_max {tys : Array TypeId} {ty : TypeId} {a b : AV} {u v : Value} {w : World} {ok : Nat → Prop} {L : Loc} (K : AV → Prop) (hu : Rd w ok L a u) (hv : Rd w ok L b v) (h : mmVC true a b K) :
    ∃ r, (∀ w, (Builtin.max_ tys ty #[u, v]).run P w = .ok r w) ∧ K (.v r) := by
  unfold mmVC at h
  split at h
  · rename_i k m k' n
    obtain ⟨rfl, hK⟩ := h
    cases hu; cases hv
    refine ⟨_, fun w => ?_, hK⟩
    have h1 : (if m < n then n else m) = max m n := by split <;> omega
    simp [Builtin.max_, Builtin.max2, h1]
  · exact h.elim

end
end Go.Av
end
/- What each operation asks and gives, over abstract frames: maps whose keys are strings. -/
section
namespace Go.Av

def keyIs (s : ByteArray) : Value → Bool
  | .string t => s == t
  | _ => false
def isStrV : Value → Bool
  | .string _ => true
  | _ => false
def kvStr (kv : List (Value × AV)) : Bool := kv.all fun x => isStrV x.1
def kvGet (s : ByteArray) (z : AV) : List (Value × AV) → AV
  | [] => z
  | (k, a) :: r => cond (keyIs s k) a (kvGet s z r)
def kvHas (s : ByteArray) : List (Value × AV) → Bool
  | [] => false
  | (k, _) :: r => keyIs s k || kvHas s r

def keyIsI (n : Int) : Value → Bool
  | .int .i64 m => n == m
  | _ => false
def isIntV : Value → Bool
  | .int .i64 _ => true
  | _ => false
def kvInt (kv : List (Value × AV)) : Bool := kv.all fun x => isIntV x.1
def kiGet (n : Int) (z : AV) : List (Value × AV) → AV
  | [] => z
  | (k, a) :: r => cond (keyIsI n k) a (kiGet n z r)
def kiHas (n : Int) : List (Value × AV) → Bool
  | [] => false
  | (k, _) :: r => keyIsI n k || kiHas n r
/-- A map's type: its keys numbers, its elements of this zero value. -/
def mapOfI (P : Program) (t : TypeId) : Option Value :=
  match P.underlying t with
  | some (.map k e) =>
    match P.underlying k with
    | some (.int .i64) =>
      match P.info? e with
      | some i => i.zero
      | none => none
    | _ => none
  | _ => none
theorem mapOfI_ok {P : Program} {t : TypeId} {z : Value} (h : mapOfI P t = some z) :
    ∃ k e, P.underlying t = some (.map k e) ∧ P.underlying k = some (.int .i64) ∧ ∀ w, (zeroValue e).run P w = .ok z w := by
  unfold mapOfI at h
  split at h
  · rename_i k e hu
    split at h
    · rename_i hk
      split at h
      · rename_i i hi
        exact ⟨k, e, hu, hk, fun w => by simp [zeroValue, typeInfo, hi, h]⟩
      · cases h
    · cases h
  · cases h
/-- A map's type: its keys strings, its elements of this zero value. -/
def mapOf (P : Program) (t : TypeId) : Option Value :=
  match P.underlying t with
  | some (.map k e) =>
    match P.underlying k with
    | some .string =>
      match P.info? e with
      | some i => i.zero
      | none => none
    | _ => none
  | _ => none
theorem mapOf_ok {P : Program} {t : TypeId} {z : Value} (h : mapOf P t = some z) :
    ∃ k e, P.underlying t = some (.map k e) ∧ P.underlying k = some .string ∧ ∀ w, (zeroValue e).run P w = .ok z w := by
  unfold mapOf at h
  split at h
  · rename_i k e hu
    split at h
    · rename_i hk
      split at h
      · rename_i i hi
        exact ⟨k, e, hu, hk, fun w => by simp [zeroValue, typeInfo, hi, h]⟩
      · cases h
    · cases h
  · cases h

section
variable {P : Program} {N : Cx} {A : Fr} {H : Hp} {K : AV → Fr → Hp → Prop}

/-- Finding a key among the entries, as the abstract list says. -/
theorem find_kv {w : World} {ok : Nat → Prop} {L : Loc} (s : ByteArray) (z : AV) : ∀ (es : List MapEntry) (kv : List (Value × AV)) (i : Nat), es.length = kv.length → kvStr kv = true →
    (∀ (j : Nat) (e : MapEntry), es[j]? = some e → ∃ a, kv[j]? = some (e.key, a) ∧ Rd w ok L a e.val) →
    (kvHas s kv = false ∧ kvGet s z kv = z ∧ Instr.findNow .string (.string s) es i = some none) ∨
    ∃ j v, kvHas s kv = true ∧ Instr.findNow .string (.string s) es i = some (some (j, v)) ∧ Rd w ok L (kvGet s z kv) v
  | [], kv, i, hl, _, _ => by
    cases kv with
    | nil => exact .inl ⟨rfl, rfl, rfl⟩
    | cons => simp at hl
  | e :: es, kv, i, hl, hs, h => by
    cases kv with
    | nil => simp at hl
    | cons x kv =>
      obtain ⟨k, a⟩ := x
      obtain ⟨a', h1, h2⟩ := h 0 e rfl
      simp only [List.getElem?_cons_zero, Option.some.injEq, Prod.mk.injEq] at h1
      obtain ⟨rfl, rfl⟩ := h1
      simp only [kvStr, List.all_cons, Bool.and_eq_true] at hs
      have hk : ∃ t, e.key = .string t := by
        have := hs.1
        cases hk : e.key <;> simp [hk, isStrV] at this
        exact ⟨_, rfl⟩
      obtain ⟨t, ht⟩ := hk
      have ih := find_kv s z es kv (i + 1) (by simpa using hl) hs.2 (fun j e hj => by simpa using h (j + 1) e (by simpa using hj))
      simp only [kvHas, kvGet, Instr.findNow, ht, Instr.sameNow, keyIs]
      cases hst : (s == t) with
      | true => exact .inr ⟨i, e.val, rfl, rfl, h2⟩
      | false => simpa using ih

theorem find_ki {w : World} {ok : Nat → Prop} {L : Loc} (s : Int) (z : AV) : ∀ (es : List MapEntry) (kv : List (Value × AV)) (i : Nat), es.length = kv.length → kvInt kv = true →
    (∀ (j : Nat) (e : MapEntry), es[j]? = some e → ∃ a, kv[j]? = some (e.key, a) ∧ Rd w ok L a e.val) →
    (kiHas s kv = false ∧ kiGet s z kv = z ∧ Instr.findNow (.int .i64) (.int .i64 s) es i = some none) ∨
    ∃ j v, kiHas s kv = true ∧ Instr.findNow (.int .i64) (.int .i64 s) es i = some (some (j, v)) ∧ Rd w ok L (kiGet s z kv) v
  | [], kv, i, hl, _, _ => by
    cases kv with
    | nil => exact .inl ⟨rfl, rfl, rfl⟩
    | cons => simp at hl
  | e :: es, kv, i, hl, hs, h => by
    cases kv with
    | nil => simp at hl
    | cons x kv =>
      obtain ⟨k, a⟩ := x
      obtain ⟨a', h1, h2⟩ := h 0 e rfl
      simp only [List.getElem?_cons_zero, Option.some.injEq, Prod.mk.injEq] at h1
      obtain ⟨rfl, rfl⟩ := h1
      simp only [kvInt, List.all_cons, Bool.and_eq_true] at hs
      have hk : ∃ t, e.key = .int .i64 t := by
        have := hs.1
        unfold isIntV at this
        split at this
        · exact ⟨_, by assumption⟩
        · cases this
      obtain ⟨t, ht⟩ := hk
      have ih := find_ki s z es kv (i + 1) (by simpa using hl) hs.2 (fun j e hj => by simpa using h (j + 1) e (by simpa using hj))
      simp only [kiHas, kiGet, Instr.findNow, ht, Instr.sameNow, keyIsI, if_true]
      cases hst : (s == t) with
      | true => exact .inr ⟨i, e.val, rfl, rfl, h2⟩
      | false => simpa using ih

/-- .. by a string (ty: the map's zero value), by a number. -/
def lksVC (mt : Option Value) (H : Hp) (a : AV) (s : ByteArray) (ok : Bool) (K : AV → Prop) : Prop :=
  match mt, a with
  | some z, .map h =>
    match H h with
    | some (.mp kv) => Ob (kvStr kv = true) (if ok then K (.tup 2 (vecF [kvGet s (.v z) kv, .v (.bool (kvHas s kv))])) else K (kvGet s (.v z) kv))
    | _ => False
  | _, _ => False
def lkiVC (mi : Option Value) (H : Hp) (a : AV) (n : Int) (ok : Bool) (K : AV → Prop) : Prop :=
  match mi, a with
  | some z, .map h =>
    match H h with
    | some (.mp kv) => Ob (kvInt kv = true) (if ok then K (.tup 2 (vecF [kiGet n (.v z) kv, .v (.bool (kiHas n kv))])) else K (kiGet n (.v z) kv))
    | _ => False
  | _, _ => False
def lkVC (mt mi : Option Value) (H : Hp) (a b : AV) (ok : Bool) (K : AV → Prop) : Prop :=
  match b with
  | .v (.string s) => lksVC mt H a s ok K
  | .v (.int .i64 n) => lkiVC mi H a n ok K
  | _ => False

theorem run_lks {t : TypeId} {a : AV} {sk : ByteArray} {ok : Bool} {u : Value} {w0 : World} {S : Rg} {w : World} {tm : Array Value} {L : Loc} (s : Sim N.n w0 S w tm L A H) (K : AV → Prop) (hu : Rd w (okb S H L) L a u) (h : lksVC (mapOf P t) H a sk ok K) :
    ∃ r x, (Instr.lookup t u (.string sk) ok).run P w = .ok r w ∧ Rd w (okb S H L) L x r ∧ K x := by
  unfold lksVC at h
  split at h
  · rename_i z h0 hm
    split at h
    · rename_i kv hH
      obtain ⟨hs, hK⟩ := h
      obtain ⟨k, e, hu1, hu2, hz⟩ := mapOf_ok hm
      obtain ⟨bb, so, hl, rfl⟩ := hu
      have hb := s.blk h0 _ hH
      rw [hl] at hb
      obtain ⟨es, clock, hb1, hb2, hb3⟩ := hb
      have hc : ∀ x, (Instr.checkKey x 10000 k (.string sk)).run P w = .ok () w := fun x => MapKept.run_checkKey (k := .string sk) hu2 (by simp [MapKept.IsKey]) x 9999
      rcases find_kv sk (.v z) es.toList kv 0 (by simpa using hb2) hs (fun j e hj => hb3 j e (by simpa using hj)) with ⟨h1, h2, h3⟩ | ⟨j, x, h1, h3, h2⟩
      · rw [h1, h2] at hK
        cases ok with
        | false => exact ⟨z, .v z, by simp [Instr.lookup, run_underlying hu1, MapKept.run_getObj_map hb1, hc, MapKept.run_findKey hu2 h3, hz, Result.andThen], rfl, by simpa using hK⟩
        | true =>
          refine ⟨.tuple #[z, .bool false], _, by simp [Instr.lookup, run_underlying hu1, MapKept.run_getObj_map hb1, hc, MapKept.run_findKey hu2 h3, hz, Result.andThen], ?_, by simpa using hK⟩
          refine ⟨_, rfl, rfl, fun i hi => ?_⟩
          match i, hi with
          | 0, _ => exact ⟨_, rfl, rfl⟩
          | 1, _ => exact ⟨_, rfl, rfl⟩
      · rw [h1] at hK
        cases ok with
        | false => exact ⟨x, _, by simp [Instr.lookup, run_underlying hu1, MapKept.run_getObj_map hb1, hc, MapKept.run_findKey hu2 h3, Result.andThen], h2, by simpa using hK⟩
        | true =>
          refine ⟨.tuple #[x, .bool true], _, by simp [Instr.lookup, run_underlying hu1, MapKept.run_getObj_map hb1, hc, MapKept.run_findKey hu2 h3, Result.andThen], ?_, by simpa using hK⟩
          refine ⟨_, rfl, rfl, fun i hi => ?_⟩
          match i, hi with
          | 0, _ => exact ⟨_, rfl, h2⟩
          | 1, _ => exact ⟨_, rfl, rfl⟩
    · exact h.elim
  · exact h.elim

theorem run_lki {t : TypeId} {a : AV} {sk : Int} {ok : Bool} {u : Value} {w0 : World} {S : Rg} {w : World} {tm : Array Value} {L : Loc} (s : Sim N.n w0 S w tm L A H) (K : AV → Prop) (hu : Rd w (okb S H L) L a u) (h : lkiVC (mapOfI P t) H a sk ok K) :
    ∃ r x, (Instr.lookup t u (.int .i64 sk) ok).run P w = .ok r w ∧ Rd w (okb S H L) L x r ∧ K x := by
  unfold lkiVC at h
  split at h
  · rename_i z h0 hm
    split at h
    · rename_i kv hH
      obtain ⟨hs, hK⟩ := h
      obtain ⟨k, e, hu1, hu2, hz⟩ := mapOfI_ok hm
      obtain ⟨bb, so, hl, rfl⟩ := hu
      have hb := s.blk h0 _ hH
      rw [hl] at hb
      obtain ⟨es, clock, hb1, hb2, hb3⟩ := hb
      have hc : ∀ x, (Instr.checkKey x 10000 k (.int .i64 sk)).run P w = .ok () w := fun x => MapKept.run_checkKey (k := .int .i64 sk) hu2 (by simp [MapKept.IsKey]) x 9999
      rcases find_ki sk (.v z) es.toList kv 0 (by simpa using hb2) hs (fun j e hj => hb3 j e (by simpa using hj)) with ⟨h1, h2, h3⟩ | ⟨j, x, h1, h3, h2⟩
      · rw [h1, h2] at hK
        cases ok with
        | false => exact ⟨z, .v z, by simp [Instr.lookup, run_underlying hu1, MapKept.run_getObj_map hb1, hc, MapKept.run_findKey hu2 h3, hz, Result.andThen], rfl, by simpa using hK⟩
        | true =>
          refine ⟨.tuple #[z, .bool false], _, by simp [Instr.lookup, run_underlying hu1, MapKept.run_getObj_map hb1, hc, MapKept.run_findKey hu2 h3, hz, Result.andThen], ?_, by simpa using hK⟩
          refine ⟨_, rfl, rfl, fun i hi => ?_⟩
          match i, hi with
          | 0, _ => exact ⟨_, rfl, rfl⟩
          | 1, _ => exact ⟨_, rfl, rfl⟩
      · rw [h1] at hK
        cases ok with
        | false => exact ⟨x, _, by simp [Instr.lookup, run_underlying hu1, MapKept.run_getObj_map hb1, hc, MapKept.run_findKey hu2 h3, Result.andThen], h2, by simpa using hK⟩
        | true =>
          refine ⟨.tuple #[x, .bool true], _, by simp [Instr.lookup, run_underlying hu1, MapKept.run_getObj_map hb1, hc, MapKept.run_findKey hu2 h3, Result.andThen], ?_, by simpa using hK⟩
          refine ⟨_, rfl, rfl, fun i hi => ?_⟩
          match i, hi with
          | 0, _ => exact ⟨_, rfl, h2⟩
          | 1, _ => exact ⟨_, rfl, rfl⟩
    · exact h.elim
  · exact h.elim

theorem run_lk {t : TypeId} {a b : AV} {ok : Bool} {u v : Value} {w0 : World} {S : Rg} {w : World} {tm : Array Value} {L : Loc} (s : Sim N.n w0 S w tm L A H) (K : AV → Prop) (hu : Rd w (okb S H L) L a u) (hv : Rd w (okb S H L) L b v) (h : lkVC (mapOf P t) (mapOfI P t) H a b ok K) :
    ∃ r x, (Instr.lookup t u v ok).run P w = .ok r w ∧ Rd w (okb S H L) L x r ∧ K x := by
  unfold lkVC at h
  split at h
  · have hv' := hv
    cases hv'
    exact run_lks s K hu h
  · have hv' := hv
    cases hv'
    exact run_lki s K hu h
  · exact h.elim

/-- A key that is not there yet. -/
def musVC (mt : Option Value) (H : Hp) (a : AV) (s : ByteArray) (x : AV) (K : Hp → Prop) : Prop :=
  match mt, a with
  | some _, .map h =>
    match H h with
    | some (.mp kv) => Ob (kvStr kv = true) (Ob (kvHas s kv = false) (K (H.upd h (.mp (kv ++ [(.string s, x)])))))
    | _ => False
  | _, _ => False
def muiVC (mi : Option Value) (H : Hp) (a : AV) (n : Int) (x : AV) (K : Hp → Prop) : Prop :=
  match mi, a with
  | some _, .map h =>
    match H h with
    | some (.mp kv) => Ob (kvInt kv = true) (Ob (kiHas n kv = false) (K (H.upd h (.mp (kv ++ [(.int .i64 n, x)])))))
    | _ => False
  | _, _ => False
def muVC (mt mi : Option Value) (H : Hp) (a b x : AV) (K : Hp → Prop) : Prop :=
  match b with
  | .v (.string s) => musVC mt H a s x K
  | .v (.int .i64 n) => muiVC mi H a n x K
  | _ => False

theorem keep_setMap {w : World} {b : Nat} {es es' : Array MapEntry} {c c' : Nat} (h : w.heap[b]? = some (.map es c)) : Keep w (fun k => k = b) { w with heap := w.heap.setIfInBounds b (.map es' c') } where
  os := rfl
  tape := rfl
  output := rfl
  size := by simp
  blk k _ hk := (MapKept.heap_set h).2 k hk
  shape k cs e fz hk := by
    have hne : k ≠ b := by
      intro e; subst e; rw [h] at hk; cases hk
    exact ⟨cs, ((MapKept.heap_set h).2 k hne).trans hk, rfl⟩

theorem run_mus {t : TypeId} {a x : AV} {sk : ByteArray} {u y : Value} {w0 : World} {S : Rg} {w : World} {tm : Array Value} {L : Loc} (s : Sim N.n w0 S w tm L A H) (hS : Good N w0 S) (K : Hp → Prop) (hu : Rd w (okb S H L) L a u) (hy : Rd w (okb S H L) L x y) (h : musVC (mapOf P t) H a sk x K) :
    ∃ w' H', (Instr.mapUpdate t u (.string sk) y).run P w = .ok () w' ∧ Sim N.n w0 S w' tm L A H' ∧ K H' := by
  unfold musVC at h
  split at h
  · rename_i z h0 hm
    split at h
    · rename_i kv hH
      obtain ⟨hs, hn, hK⟩ := h
      obtain ⟨k, e, hu1, hu2, hz⟩ := mapOf_ok hm
      obtain ⟨bb, so, hl, rfl⟩ := hu
      have hb := s.blk h0 _ hH
      rw [hl] at hb
      obtain ⟨es, clock, hb1, hb2, hb3⟩ := hb
      have hc : ∀ x, (Instr.checkKey x 10000 k (.string sk)).run P w = .ok () w := fun x => MapKept.run_checkKey (k := .string sk) hu2 (by simp [MapKept.IsKey]) x 9999
      rcases find_kv sk (.v z) es.toList kv 0 (by simpa using hb2) hs (fun j e hj => hb3 j e (by simpa using hj)) with ⟨h1, h2, h3⟩ | ⟨j, x, h1, h3, h2⟩
      · refine ⟨_, _, by simp [Instr.mapUpdate, run_underlying hu1, MapKept.run_getObj_map hb1, hc, MapKept.run_findKey hu2 h3, MapKept.run_setObj_map _ hb1, Result.andThen]; rfl, ?_, hK⟩
        refine s.write hS (by rw [hH]; simp) hl (keep_setMap hb1) ⟨_, _, (MapKept.heap_set hb1).1, by simp [hb2], fun i e he => ?_⟩
        rw [Array.getElem?_push] at he
        split at he
        · rename_i hi
          simp only [Option.some.injEq] at he
          subst he
          refine ⟨x, ?_, hy⟩
          rw [List.getElem?_append_right (by omega)]
          simp [hi, hb2]
        · obtain ⟨a, k1, k2⟩ := hb3 i e he
          refine ⟨a, ?_, k2⟩
          rw [List.getElem?_append_left (List.getElem?_eq_some_iff.1 k1).1]; exact k1
      · rw [h1] at hn; cases hn
    · exact h.elim
  · exact h.elim

theorem run_mui {t : TypeId} {a x : AV} {sk : Int} {u y : Value} {w0 : World} {S : Rg} {w : World} {tm : Array Value} {L : Loc} (s : Sim N.n w0 S w tm L A H) (hS : Good N w0 S) (K : Hp → Prop) (hu : Rd w (okb S H L) L a u) (hy : Rd w (okb S H L) L x y) (h : muiVC (mapOfI P t) H a sk x K) :
    ∃ w' H', (Instr.mapUpdate t u (.int .i64 sk) y).run P w = .ok () w' ∧ Sim N.n w0 S w' tm L A H' ∧ K H' := by
  unfold muiVC at h
  split at h
  · rename_i z h0 hm
    split at h
    · rename_i kv hH
      obtain ⟨hs, hn, hK⟩ := h
      obtain ⟨k, e, hu1, hu2, hz⟩ := mapOfI_ok hm
      obtain ⟨bb, so, hl, rfl⟩ := hu
      have hb := s.blk h0 _ hH
      rw [hl] at hb
      obtain ⟨es, clock, hb1, hb2, hb3⟩ := hb
      have hc : ∀ x, (Instr.checkKey x 10000 k (.int .i64 sk)).run P w = .ok () w := fun x => MapKept.run_checkKey (k := .int .i64 sk) hu2 (by simp [MapKept.IsKey]) x 9999
      rcases find_ki sk (.v z) es.toList kv 0 (by simpa using hb2) hs (fun j e hj => hb3 j e (by simpa using hj)) with ⟨h1, h2, h3⟩ | ⟨j, x, h1, h3, h2⟩
      · refine ⟨_, _, by simp [Instr.mapUpdate, run_underlying hu1, MapKept.run_getObj_map hb1, hc, MapKept.run_findKey hu2 h3, MapKept.run_setObj_map _ hb1, Result.andThen]; rfl, ?_, hK⟩
        refine s.write hS (by rw [hH]; simp) hl (keep_setMap hb1) ⟨_, _, (MapKept.heap_set hb1).1, by simp [hb2], fun i e he => ?_⟩
        rw [Array.getElem?_push] at he
        split at he
        · rename_i hi
          simp only [Option.some.injEq] at he
          subst he
          refine ⟨x, ?_, hy⟩
          rw [List.getElem?_append_right (by omega)]
          simp [hi, hb2]
        · obtain ⟨a, k1, k2⟩ := hb3 i e he
          refine ⟨a, ?_, k2⟩
          rw [List.getElem?_append_left (List.getElem?_eq_some_iff.1 k1).1]; exact k1
      · rw [h1] at hn; cases hn
    · exact h.elim
  · exact h.elim

theorem run_mu {t : TypeId} {a b x : AV} {u v y : Value} {w0 : World} {S : Rg} {w : World} {tm : Array Value} {L : Loc} (s : Sim N.n w0 S w tm L A H) (hS : Good N w0 S) (K : Hp → Prop) (hu : Rd w (okb S H L) L a u) (hv : Rd w (okb S H L) L b v) (hy : Rd w (okb S H L) L x y) (h : muVC (mapOf P t) (mapOfI P t) H a b x K) :
    ∃ w' H', (Instr.mapUpdate t u v y).run P w = .ok () w' ∧ Sim N.n w0 S w' tm L A H' ∧ K H' := by
  unfold muVC at h
  split at h
  · have hv' := hv
    cases hv'
    exact run_mus s hS K hu hy h
  · have hv' := hv
    cases hv'
    exact run_mui s hS K hu hy h
  · exact h.elim

def mmkVC (pn : Nat → Bool) (mt mi : Option Value) (d : Nat) (A : Fr) (H : Hp) (K : AV → Fr → Hp → Prop) : Prop :=
  match mt with
  | some _ => Ob (pn d = false) (K (.map d) (A.scrub (· == d)) ((H.upd d (.mp [])).scrub (· == d)))
  | none => match mi with
    | some _ => Ob (pn d = false) (K (.map d) (A.scrub (· == d)) ((H.upd d (.mp [])).scrub (· == d)))
    | none => False

theorem run_mmk {t : TypeId} {d : Nat} {rs : Option Value} {w0 : World} {S : Rg} {w : World} {tm : Array Value} {L : Loc} (s : Sim N.n w0 S w tm L A H) (hS : Good N w0 S) (hr : ∀ v, rs = some v → ∃ k n, v = .int k n) (h : mmkVC N.pn (mapOf P t) (mapOfI P t) d A H K) :
    ∃ r w' L' x' A' H', (Instr.makeMap t rs).run P w = .ok r w' ∧ Sim N.n w0 S w' tm L' A' H' ∧ Rd w' (okb S H' L') L' x' r ∧ K x' A' H' := by
  have fin : ∀ k e, P.underlying t = some (.map k e) → N.pn d = false → K (.map d) (A.scrub (· == d)) ((H.upd d (.mp [])).scrub (· == d)) →
      ∃ r w' L' x' A' H', (Instr.makeMap t rs).run P w = .ok r w' ∧ Sim N.n w0 S w' tm L' A' H' ∧ Rd w' (okb S H' L') L' x' r ∧ K x' A' H' := by
    intro k e hu1 hpn hK
    have hal := s.put_blk (w' := w.alloc (.map #[] 0)) hS.new d w.heap.size 0 (.mp []) (keep_alloc _ _ rfl) (fun k hk _ => heap_alloc_old w _ (h := hk)) (.inl rfl) (p := (· == d))
      ⟨#[], 0, heap_alloc_new w _, rfl, fun i e he => by simp at he⟩ (fun h hp hd => by simp [hd] at hp) (.inl (hS.free d hpn))
    refine ⟨.map (some w.heap.size), _, _, .map d, _, _, ?_, hal, ⟨w.heap.size, 0, by simp, rfl⟩, hK⟩
    cases rs with
    | none => rfl
    | some v =>
      obtain ⟨k, n, rfl⟩ := hr v rfl
      simp [Instr.makeMap, run_underlying hu1, asInt, asIntOf, Result.andThen]
  unfold mmkVC at h
  split at h
  · rename_i z hm
    obtain ⟨k, e, hu1, _⟩ := mapOf_ok hm
    exact fin k e hu1 h.1 h.2
  · split at h
    · rename_i z hm
      obtain ⟨k, e, hu1, _⟩ := mapOfI_ok hm
      exact fin k e hu1 h.1 h.2
    · exact h.elim

/- append of a make, onto nil -/
/-- An integer type. -/
def isIntT (P : Program) (t : TypeId) : Bool :=
  match P.underlying t with
  | some (.int _) => true
  | _ => false
theorem isIntT_ok {P : Program} {t : TypeId} (h : isIntT P t = true) : ∃ k, P.underlying t = some (.int k) := by
  unfold isIntT at h
  split at h
  · exact ⟨_, by assumption⟩
  · cases h
def azVC (P : Program) (pn : Nat → Bool) (se : Option SE) (t' : TypeId) (d : Nat) (A : Fr) (H : Hp) (a : AV) (k : Int) (K : AV → Fr → Hp → Prop) : Prop :=
  match se, a with
  | some se, .v (.slice none 0 0) =>
    Ob (isIntT P t' = true) (Ob (pn d = false) (Ob (0 < se.size) (Ob (0 < k ∧ k * se.bytes ≤ 140737488355328 ∧ k ≤ 140737488355328)
      (K (.own d 0 se.size k.toNat) (A.scrub (· == d)) ((H.upd d (.cells (k.toNat * se.size) (zF se.zero))).scrub (· == d))))))
  | _, _ => False

theorem run_az {t t' ty : TypeId} {d : Nat} {a : AV} {kk : IntKind} {k : Int} {u : Value} {w0 : World} {S : Rg} {w : World} {tm : Array Value} {L : Loc} (s : Sim N.n w0 S w tm L A H) (hS : Good N w0 S)
    (hu : Rd w (okb S H L) L a u) (h : azVC P N.pn (selOf P t) t' d A H a k K) :
    ∃ r w' L' x A' H', (Builtin.append_ #[t, t'] ty #[u, .int kk k]).run P w = .ok r w' ∧ Sim N.n w0 S w' tm L' A' H' ∧ Rd w' (okb S H' L') L' x r ∧ K x A' H' := by
  unfold azVC at h
  split at h
  · rename_i se hse
    obtain ⟨hit, hpn, h2, ⟨h3, h4, h5⟩, hK⟩ := h
    cases hu
    obtain ⟨kn, hkn⟩ := isIntT_ok hit
    obtain ⟨hut, ti, z, hi, e1, e2, e3, e4, e5⟩ := selOf_ok hse
    obtain ⟨n, rfl⟩ : ∃ n : Nat, k = n := ⟨k.toNat, by omega⟩
    have hzs : z.cells.size = se.size := by rw [e5, e1]
    have hbb : n * se.bytes ≤ 140737488355328 := by rw [← Int.natCast_mul] at h4; omega
    have h4' : (0 + n) * ti.bytes ≤ 140737488355328 := by rw [e2, Nat.zero_add]; exact hbb
    have hfit : Builtin.nextslicecap (0 + n) 0 * ti.bytes ≤ 281474976710656 := growslice_fits (by omega) h4'
    rw [Nat.zero_add] at h4'
    have hr := Lib.run_append_grow_zeros w t t' ty se.e ti z kk kn hut hkn hi e3 none 0 0 [] (run_firstCells_none w.drew ti.size 0 0 0) n (by omega) (by omega) (by omega) (by omega) (by omega) hfit
    have hzn : (Builtin.zeroCells z.cells n).size = n * se.size := by rw [size_zeroCells, hzs]
    obtain ⟨L', k1, k2⟩ := s.grown hS d 0 n se.e z.cells se.size (Builtin.zeroCells z.cells n).toList (zF se.zero) hzs (by rw [Array.length_toList]; exact hzn) (by omega) (fun i hi => by
      have hlt : i < (Builtin.zeroCells z.cells n).size := by rw [hzn]; exact hi
      refine ⟨(Builtin.zeroCells z.cells n)[i], by simp [hlt], ?_⟩
      rw [zF_get e4 i (by omega)]
      show _ = _
      simp [Builtin.zeroCells]) hpn
    simp only [Nat.zero_add, Array.empty_append, Array.toArray_toList] at hr k1 k2
    refine ⟨_, _, L', _, _, _, hr, k1, k2 _, ?_⟩
    simpa using hK
  · exact h.elim

/- maps by lists -/
/-- A list of keys and contents. -/
def mS {α : Type} (g : α → AV) (l : List (ByteArray × α)) : List (Value × AV) := l.map fun x => (.string x.1, g x.2)
def lkO {α : Type} (s : ByteArray) : List (ByteArray × α) → Option α
  | [] => none
  | (k, a) :: r => cond (s == k) (some a) (lkO s r)
theorem kvStr_mS {α : Type} (g : α → AV) (l : List (ByteArray × α)) : kvStr (mS g l) = true := by
  unfold kvStr mS
  rw [List.all_map, List.all_eq_true]
  intro x _; rfl
theorem kvGet_mS {α : Type} (g : α → AV) (s : ByteArray) (d : α) : ∀ l : List (ByteArray × α), kvGet s (g d) (mS g l) = g ((lkO s l).getD d)
  | [] => rfl
  | (k, a) :: r => by
    have ih := kvGet_mS g s d r
    unfold mS at ih ⊢
    simp only [List.map_cons, kvGet, keyIs, lkO]
    cases (s == k) with
    | true => rfl
    | false => exact ih
theorem kvHas_mS {α : Type} (g : α → AV) (s : ByteArray) : ∀ l : List (ByteArray × α), kvHas s (mS g l) = (lkO s l).isSome
  | [] => rfl
  | (k, a) :: r => by
    have ih := kvHas_mS g s r
    unfold mS at ih ⊢
    simp only [List.map_cons, kvHas, keyIs, lkO, ih]
    cases (s == k) <;> simp
theorem mS_snoc {α : Type} (g : α → AV) (l : List (ByteArray × α)) (s : ByteArray) (x : α) : mS g l ++ [(.string s, g x)] = mS g (l ++ [(s, x)]) := by
  simp [mS]
/-- A list of numbers and contents. -/
def mI {α : Type} (g : α → AV) (l : List (Int × α)) : List (Value × AV) := l.map fun x => (.int .i64 x.1, g x.2)
def lkI {α : Type} (s : Int) : List (Int × α) → Option α
  | [] => none
  | (k, a) :: r => cond (s == k) (some a) (lkI s r)
theorem kvInt_mI {α : Type} (g : α → AV) (l : List (Int × α)) : kvInt (mI g l) = true := by
  unfold kvInt mI
  rw [List.all_map, List.all_eq_true]
  intro x _; rfl
theorem kiGet_mI {α : Type} (g : α → AV) (s : Int) (d : α) : ∀ l : List (Int × α), kiGet s (g d) (mI g l) = g ((lkI s l).getD d)
  | [] => rfl
  | (k, a) :: r => by
    have ih := kiGet_mI g s d r
    unfold mI at ih ⊢
    simp only [List.map_cons, kiGet, keyIsI, lkI]
    cases (s == k) with
    | true => rfl
    | false => exact ih
theorem kiHas_mI {α : Type} (g : α → AV) (s : Int) : ∀ l : List (Int × α), kiHas s (mI g l) = (lkI s l).isSome
  | [] => rfl
  | (k, a) :: r => by
    have ih := kiHas_mI g s r
    unfold mI at ih ⊢
    simp only [List.map_cons, kiHas, keyIsI, lkI, ih]
    cases (s == k) <;> simp
theorem mI_snoc {α : Type} (g : α → AV) (l : List (Int × α)) (s : Int) (x : α) : mI g l ++ [(.int .i64 s, g x)] = mI g (l ++ [(s, x)]) := by
  simp [mI]
end
end Go.Av
end
/- All operations together: what a region asks, as one proposition that is worked out by rewriting. -/
section
namespace Go.Av

def ptrOk : AV → Bool
  | .ref .. | .ptr .. | .clo .. => true
  | _ => false

section
variable (P : Program) (N : Cx)

def evArgs (A : Fr) : List Operand → Option (List AV)
  | [] => some []
  | x :: r =>
    match A.ev x, evArgs A r with
    | some a, some l => some (a :: l)
    | _, _ => none

/-- Who is called. -/
def calleeOf (a : Option AV) : Option (FuncId × List AV) :=
  match a with
  | some (.v (.func fn a b)) => (match fn with | .func f => if a.size = 0 ∧ b.size = 0 then some (f, []) else none | _ => none)
  | some (.clo f n g) => some (f, (List.range n).map g)
  | _ => none

def withArgs (l : Option (List AV)) (K : List AV → Prop) : Prop :=
  match l with
  | some l => K l
  | none => False

def opOpt (A : Fr) (x : Option Operand) : Option (Option AV) := x.map A.ev

def bcallVC (d : Nat) (b : Builtin) (tys : Array TypeId) (A : Fr) (H : Hp) (args : List AV) (K : AV → Fr → Hp → Prop) : Prop :=
  match b, args, tys.toList with
  | .len, [a], [t] => Ob (lenTOk (lenT P t) a = true) (lenVC a fun r => K r A H)
  | .append, [a, .v (.int _ k)], [t, t'] => azVC P N.pn (selOf P t) t' d A H a k K
  | .append, [a, b], [t, t'] => Ob (t' = t) (apVC N.pn (selOf P t) d A H a b K)
  | .cap, [.v (.slice none 0 0)], [t] => Ob (lenT P t = .slice) (K (.v (.int .i64 0)) A H)
  | .copy, [a, b], [t, _] => cpVC (selOf P t) H a b fun r H => K r A H
  | .min, [a, b], _ => mmVC false a b fun r => K r A H
  | .max, [a, b], _ => mmVC true a b fun r => K r A H
  | _, _, _ => False

def opVC (d : Nat) (op : Op) (A : Fr) (H : Hp) (K : AV → Fr → Hp → Prop) : Prop :=
  match op with
  | .move x => withA (A.ev x) fun r => K r A H
  | .assign x => withA (A.ev x) fun r => K r A H
  | .pick c a b => withA (A.ev c) fun c => match c with
    | .v (.bool t) => Br t (withA (A.ev a) fun r => K r A H) (withA (A.ev b) fun r => K r A H)
    | _ => False
  | .binOp op t x y _ => withA (A.ev x) fun a => withA (A.ev y) fun b => bin2VC P op t y a b fun r => K r A H
  | .unOp op _ x => withA (A.ev x) fun a => unVC op a fun r => K r A H
  | .convert s t x => withA (A.ev x) fun a => cvVC (cvT P s t) H a fun r => K r A H
  | .extract t i => withA (A.ev t) fun a => match a with
    | .tup n f => Ob (i < n) (K (f i) A H)
    | _ => False
  | .indexAddr t x i => withA (A.ev x) fun a => withA (A.ev i) fun b => ixVC (ixOf P t) a b fun r => K r A H
  | .index t x i => withA (A.ev x) fun a => withA (A.ev i) fun b => chVC (isStr P t) a b fun r => K r A H
  | .load t x => withA (A.ev x) fun a => ldVC (tyOf P t) H a fun r => K r A H
  | .store t x y => withA (A.ev x) fun a => withA (A.ev y) fun b => stVC (tyOf P t) H a b fun H => K .dead A H
  | .makeSlice t l c => withA (A.ev l) fun a => withA (A.ev c) fun b => mkVC N.pn (selOf P t) d A H a b K
  | .buildSlice t len parts => bsVC N.pn (selOf P t) d A H len (evParts A parts.toList) K
  | .build t parts => bdVC (bldOf P t) (evParts A parts.toList) fun r => K r A H
  | .alloc t => alVC N.pn (tyOf P t) d A H K
  | .box _ x => withA (A.ev x) fun a => boxVC N.pn d A H a K
  | .slice t x lo hi mx =>
    match mx with
    | none => withA (A.ev x) fun a => slVC (slT P t) a (opOpt A lo) (opOpt A hi) fun r => K r A H
    | some _ => False
  | .fieldAddr t x i => withA (A.ev x) fun a => faVC (fldOf P t i) a fun r => K r A H
  | .field t x i => withA (A.ev x) fun a => fdVC (fldOf P t i) a fun r => K r A H
  | .nilCheck x => withA (A.ev x) fun a => Ob (ptrOk a = true) (K a A H)
  | .lookup t x i ok => withA (A.ev x) fun a => withA (A.ev i) fun b => lkVC (mapOf P t) (mapOfI P t) H a b ok fun r => K r A H
  | .mapUpdate t m k x => withA (A.ev m) fun a => withA (A.ev k) fun b => withA (A.ev x) fun c => muVC (mapOf P t) (mapOfI P t) H a b c fun H => K .dead A H
  | .insert t m k x => withA (A.ev m) fun a => withA (A.ev k) fun b => withA (A.ev x) fun c => muVC (mapOf P t) (mapOfI P t) H a b c fun H => K .dead A H
  | .makeMap t rs =>
    match rs with
    | none => mmkVC N.pn (mapOf P t) (mapOfI P t) d A H K
    | some x => withA (A.ev x) fun a => match a with
      | .v (.int _ _) => mmkVC N.pn (mapOf P t) (mapOfI P t) d A H K
      | _ => False
  | .makeFunc fn first caps =>
    match fn with
    | .func f => Ob (first = #[]) (withArgs (evArgs A caps.toList) fun l => K (.clo f l.length (vecF l)) A H)
    | _ => False
  | .call c =>
    match c.callee with
    | .builtin b => withArgs (evArgs A c.args.toList) fun l => bcallVC P N d b c.argTypes A H l K
    | .value f =>
      match calleeOf (A.ev f) with
      | some (g, caps) => withArgs (evArgs A c.args.toList) fun l => CallG P N g (l ++ caps) A H K
      | none => False
    | .invoke _ _ => False
  | _ => False

end

section
variable {P : Program} {N : Cx} {A : Fr} {H : Hp} {K : AV → Fr → Hp → Prop}

theorem withA_ok {a : Option AV} {K : AV → Prop} (h : withA a K) : ∃ r, a = some r ∧ K r := by
  cases a with
  | none => exact h.elim
  | some a => exact ⟨a, rfl, h⟩
theorem withArgs_ok {a : Option (List AV)} {K : List AV → Prop} (h : withArgs a K) : ∃ r, a = some r ∧ K r := by
  cases a with
  | none => exact h.elim
  | some a => exact ⟨a, rfl, h⟩

theorem evArgs_ok {w0 : World} {S : Rg} {w : World} {a : Act} {L : Loc} (s : Sim N.n w0 S w a.tmps L A H) : ∀ (xs : List Operand) (l : List AV), evArgs A xs = some l →
    RdArgs w (okb S H L) L l (xs.map a.eval).toArray
  | [], l, h => by simp [evArgs] at h; subst h; simp [RdArgs]
  | x :: r, l, h => by
    simp only [evArgs] at h
    split at h
    · rename_i b l' hb hl
      simp only [Option.some.injEq] at h
      subst h
      obtain ⟨h1, h2⟩ := evArgs_ok s r l' hl
      refine ⟨by simpa using h1, fun i a' hi => ?_⟩
      cases i with
      | zero => simp at hi; subst hi; exact ⟨_, by simp, s.ev hb⟩
      | succ i =>
        obtain ⟨u, k1, k2⟩ := h2 i a' (by simpa using hi)
        exact ⟨u, by simpa using k1, k2⟩
    · simp at h

theorem opv_calls {o : Oper} {f : FuncId} {args : List AV} (h : CallG P N f args A H K)
    (hrun : ∀ w0 S w (a : Act) L, Sim N.n w0 S w a.tmps L A H → ∃ vs, (execOp a.eval o).run P w = .ok (.enter f vs) w ∧ RdArgs w (okb S H L) L args vs) : OpV P N o A H K := by
  intro w0 S hS w a L s next Q' hn
  obtain ⟨vs, h1, h2⟩ := hrun w0 S w a L s
  obtain ⟨hc, h⟩ := h
  refine owp_enter h1 ((h w0 S hS w a.tmps L s vs h2).mono ?_)
  rintro e w' ⟨u, r, L', A', H', rfl, s', hr, hk⟩
  exact ⟨u, rfl, hn u r L' A' H' w' s' hr hk⟩

theorem run_builtin {o : Oper} {b : Builtin} {args : Array Operand} {tys : Array TypeId} (ho : o.op = .call { callee := .builtin b, args, argTypes := tys }) (ρ : Operand → Value) (w : World) :
    ∃ cs, (execOp ρ o).run P w = (Go.builtin b tys o.type cs (args.map ρ)).run P w :=
  ⟨_, by simp [execOp, ho, resolve, invoke]; rfl⟩

theorem bcall_ok {o : Oper} {b : Builtin} {args : Array Operand} {tys : Array TypeId} {l : List AV} (ho : o.op = .call { callee := .builtin b, args, argTypes := tys }) (hl : evArgs A args.toList = some l)
    (h : bcallVC P N (o.dst.getD 0) b tys A H l K) : OpV P N o A H K := by
  have args_of : ∀ {w0 : World} {S : Rg} {w : World} {a : Act} {L : Loc}, Sim N.n w0 S w a.tmps L A H → RdArgs w (okb S H L) L l (args.map a.eval) := by
    intro w0 S w a L s
    have := evArgs_ok s args.toList l hl
    have e : (args.toList.map a.eval).toArray = args.map a.eval := by rw [← Array.toList_map, Array.toArray_toList]
    rwa [e] at this
  have one : ∀ {w : World} {ok : Nat → Prop} {L : Loc} {x : AV} {vs : Array Value}, RdArgs w ok L [x] vs → ∃ u, vs = #[u] ∧ Rd w ok L x u := by
    rintro w ok L x vs ⟨h1, h2⟩
    obtain ⟨u, k1, k2⟩ := h2 0 x rfl
    refine ⟨u, ?_, k2⟩
    apply Array.ext_getElem?
    intro i
    cases i with
    | zero => simpa using k1
    | succ i => rw [Array.getElem?_eq_none (by simp at h1; omega), Array.getElem?_eq_none (by simp)]
  have two : ∀ {w : World} {ok : Nat → Prop} {L : Loc} {x y : AV} {vs : Array Value}, RdArgs w ok L [x, y] vs → ∃ u v, vs = #[u, v] ∧ Rd w ok L x u ∧ Rd w ok L y v := by
    rintro w ok L x y vs ⟨h1, h2⟩
    obtain ⟨u, k1, k2⟩ := h2 0 x rfl
    obtain ⟨v, k3, k4⟩ := h2 1 y rfl
    refine ⟨u, v, ?_, k2, k4⟩
    apply Array.ext_getElem?
    intro i
    match i with
    | 0 => simpa using k1
    | 1 => simpa using k3
    | i + 2 => rw [Array.getElem?_eq_none (by simp at h1; omega), Array.getElem?_eq_none (by simp)]
  have rb : ∀ (t : Array TypeId) (w : World) (a : Act) (r : Value) (w' : World) (f : Array TypeId → TypeId → Array Value → Sem Value), o.op = .call { callee := .builtin b, args, argTypes := t } →
      (∀ cs vs, Go.builtin b t o.type cs vs = (do pure (.value (← f t o.type vs)))) → (f t o.type (args.map a.eval)).run P w = .ok r w' → (execOp a.eval o).run P w = .ok (.value r) w' := by
    intro t w a r w' f ho hb hf
    obtain ⟨cs, h1⟩ := run_builtin (P := P) ho a.eval w
    rw [h1, hb, Sem.run_bind, hf]
    rfl
  unfold bcallVC at h
  split at h
  · -- len
    rename_i x t hts
    obtain ⟨h2, h3⟩ := h
    have h1 : tys = #[t] := by rw [← hts]
    rw [h1] at ho
    refine opv_mem fun w0 S hS w a L s => ?_
    obtain ⟨u, k1, k2⟩ := one (args_of s)
    obtain ⟨r, k3, k4⟩ := run_len (P := P) (ty := o.type) (fun r => K r A H) h2 k2 h3
    exact ⟨r, w, L, .v r, A, H, rb _ w a r w Builtin.len_ ho (fun _ _ => rfl) (by rw [k1]; exact k3 w), s, rfl, k4⟩
  · -- append of a make
    rename_i x kk k t t' hts
    have h1 : tys = #[t, t'] := by rw [← hts]
    rw [h1] at ho
    refine opv_mem fun w0 S hS w a L s => ?_
    obtain ⟨u, v, k1, k2, k3⟩ := two (args_of s)
    have k3' : v = .int kk k := k3
    subst k3'
    obtain ⟨r, w', L', x', A', H', e1, e2, e3, e4⟩ := run_az (P := P) (ty := o.type) (kk := kk) s hS k2 h
    exact ⟨r, w', L', x', A', H', rb _ w a r w' Builtin.append_ ho (fun _ _ => rfl) (by rw [k1]; exact e1), e2, e3, e4⟩
  · -- append
    rename_i x y t t' _ hts
    obtain ⟨rfl, h3⟩ := h
    have h1 : tys = #[t', t'] := by rw [← hts]
    rw [h1] at ho
    refine opv_mem fun w0 S hS w a L s => ?_
    obtain ⟨u, v, k1, k2, k3⟩ := two (args_of s)
    obtain ⟨r, w', L', x', A', H', e1, e2, e3, e4⟩ := run_append (P := P) (ty := o.type) s hS k2 k3 h3
    exact ⟨r, w', L', x', A', H', rb _ w a r w' Builtin.append_ ho (fun _ _ => rfl) (by rw [k1]; exact e1), e2, e3, e4⟩
  · -- cap
    rename_i t hts
    obtain ⟨h2, h3⟩ := h
    have h1 : tys = #[t] := by rw [← hts]
    rw [h1] at ho
    refine opv_mem fun w0 S hS w a L s => ?_
    obtain ⟨u, k1, k2⟩ := one (args_of s)
    have k2' : u = .slice none 0 0 := k2
    subst k2'
    have hut : ∃ e, P.underlying t = some (.slice e) := by
      unfold lenT at h2
      split at h2
      · cases h2
      · exact ⟨_, by assumption⟩
      · cases h2
    obtain ⟨e, he⟩ := hut
    exact ⟨.int .i64 0, w, L, .v (.int .i64 0), A, H, rb _ w a _ w Builtin.cap_ ho (fun _ _ => rfl) (by rw [k1]; simp [Builtin.cap_, run_underlying he, goInt]), s, rfl, h3⟩
  · -- copy
    rename_i x y t t' hts
    have h3 := h
    have h1 : tys = #[t, t'] := by rw [← hts]
    rw [h1] at ho
    refine opv_mem fun w0 S hS w a L s => ?_
    obtain ⟨u, v, k1, k2, k3⟩ := two (args_of s)
    obtain ⟨r, w', H', e1, e2, e3⟩ := run_cp (P := P) (t' := t') (ty := o.type) s hS (fun r H => K r A H) k2 k3 h3
    exact ⟨r, w', L, .v r, A, H', rb _ w a r w' Builtin.copy_ ho (fun _ _ => rfl) (by rw [k1]; exact e1), e2, rfl, e3⟩
  · -- min
    rename_i x y _
    refine opv_mem fun w0 S hS w a L s => ?_
    obtain ⟨u, v, k1, k2, k3⟩ := two (args_of s)
    obtain ⟨r, e1, e2⟩ := run_min (P := P) (tys := tys) (ty := o.type) (w := w) (fun r => K r A H) k2 k3 h
    exact ⟨r, w, L, .v r, A, H, rb _ w a r w Builtin.min_ ho (fun _ _ => rfl) (by rw [k1]; exact e1 w), s, rfl, e2⟩
  · -- max
    rename_i x y _
    refine opv_mem fun w0 S hS w a L s => ?_
    obtain ⟨u, v, k1, k2, k3⟩ := two (args_of s)
    obtain ⟨r, e1, e2⟩ := run_max (P := P) (tys := tys) (ty := o.type) (w := w) (fun r => K r A H) k2 k3 h
    exact ⟨r, w, L, .v r, A, H, rb _ w a r w Builtin.max_ ho (fun _ _ => rfl) (by rw [k1]; exact e1 w), s, rfl, e2⟩
  · exact h.elim

theorem Bnd_ok {w0 : World} {S : Rg} {w : World} {a : Act} {L : Loc} (s : Sim N.n w0 S w a.tmps L A H) (x : Option Operand) : (∀ k i, opOpt A x = some (some (.v (.int k i))) → Bnd (opOpt A x) (x.map a.eval)) := by
  intro k i h
  cases x with
  | none => simp [opOpt] at h
  | some x =>
    simp only [opOpt, Option.map_some, Option.some.injEq] at h
    have := s.ev h
    simp only [Rd] at this
    simp [opOpt, h, this, Bnd]

theorem bound_bnd {w0 : World} {S : Rg} {w : World} {a : Act} {L : Loc} (s : Sim N.n w0 S w a.tmps L A H) {d : Nat} (x : Option Operand) {l : Int} (h : boundOf d (opOpt A x) = some l) : Bnd (opOpt A x) (x.map a.eval) := by
  cases hx : opOpt A x with
  | none =>
    cases x with
    | none => simp [Bnd]
    | some x => simp [opOpt] at hx
  | some y =>
    rw [hx] at h
    cases y with
    | none => simp [boundOf] at h
    | some b =>
      have hb : ∃ k i, b = .v (.int k i) := by
        unfold boundOf at h
        split at h
        · simp_all
        · rename_i hq; simp at hq; exact ⟨_, _, hq⟩
        · simp at h
      obtain ⟨k, i, rfl⟩ := hb
      have := Bnd_ok s x k i hx
      rwa [hx] at this

theorem slVC_bnd {st : SlT} {a : AV} {lo hi : Option (Option AV)} {K : AV → Prop} (h : slVC st a lo hi K) : ∃ d l d' h', boundOf d lo = some l ∧ boundOf d' hi = some h' := by
  unfold slVC at h
  split at h <;> first | exact h.elim | skip
  all_goals
    split at h
    · rename_i l hh h1 h2; exact ⟨_, l, _, hh, h1, h2⟩
    · exact h.elim

theorem opVC_sound {o : Oper} (h : opVC P N (o.dst.getD 0) o.op A H K) : OpV P N o A H K := by
  cases ho : o.op <;> rw [ho] at h <;> simp only [opVC] at h <;> try exact h.elim
  case move x =>
    obtain ⟨r, hx, hK⟩ := withA_ok h
    exact opv_val r hK fun w0 S w a L s => ⟨_, by simp [execOp, ho], s.ev hx⟩
  case assign x =>
    obtain ⟨r, hx, hK⟩ := withA_ok h
    exact opv_val r hK fun w0 S w a L s => ⟨_, by simp [execOp, ho], s.ev hx⟩
  case pick c x y =>
    obtain ⟨rc, hc, hK⟩ := withA_ok h
    split at hK
    · rename_i t
      cases t with
      | true =>
        obtain ⟨r, hx, hK⟩ := withA_ok (hK.1 rfl)
        refine opv_val r hK fun w0 S w a L s => ⟨_, ?_, s.ev hx⟩
        have : a.eval c = .bool true := s.ev hc
        simp [execOp, ho, this, asBool]
      | false =>
        obtain ⟨r, hx, hK⟩ := withA_ok (hK.2 rfl)
        refine opv_val r hK fun w0 S w a L s => ⟨_, ?_, s.ev hx⟩
        have : a.eval c = .bool false := s.ev hc
        simp [execOp, ho, this, asBool]
    · exact hK.elim
  case alloc t =>
    refine opv_mem fun w0 S hS w a L s => ?_
    obtain ⟨r, w', L', x', A', H', e1, e2, e3, e4⟩ := run_al (P := P) (x := .tuple #[]) s hS h
    exact ⟨r, w', L', x', A', H', by simp [execOp, ho, e1], e2, e3, e4⟩
  case box t x =>
    obtain ⟨rx, hx, hK⟩ := withA_ok h
    refine opv_mem fun w0 S hS w a L s => ?_
    obtain ⟨r, w', L', x', A', H', e1, e2, e3, e4⟩ := run_bx (P := P) (t := t) s hS (s.ev hx) hK
    exact ⟨r, w', L', x', A', H', by simp [execOp, ho, e1], e2, e3, e4⟩
  case build t parts =>
    refine opv_mem fun w0 S hS w a L s => ?_
    obtain ⟨r, x, e1, e2, e3⟩ := run_bd (P := P) (t := t) s (fun r => K r A H) h
    exact ⟨r, w, L, x, A, H, by simp only [Array.toArray_toList] at e1; simp [execOp, ho, e1], s, e2, e3⟩
  case buildSlice t len parts =>
    refine opv_mem fun w0 S hS w a L s => ?_
    obtain ⟨r, w', L', x', A', H', e1, e2, e3, e4⟩ := run_bs (P := P) (t := t) s hS h
    exact ⟨r, w', L', x', A', H', by simp only [Array.toArray_toList] at e1; simp [execOp, ho, e1], e2, e3, e4⟩
  case load t x =>
    obtain ⟨rx, hx, hK⟩ := withA_ok h
    refine opv_mem fun w0 S hS w a L s => ?_
    obtain ⟨r, x', e1, e2, e3⟩ := run_loadAt (P := P) (t := t) s (fun r => K r A H) (s.ev hx) hK
    exact ⟨r, w, L, x', A, H, by simp [execOp, ho, e1 w (fun _ _ => rfl)], s, e2, e3⟩
  case store t x y =>
    obtain ⟨rx, hx, hK⟩ := withA_ok h
    obtain ⟨ry, hy, hK⟩ := withA_ok hK
    refine opv_skip fun w0 S hS w a L s => ?_
    obtain ⟨w', H', e1, e2, e3⟩ := run_storeAt (P := P) (t := t) s hS (fun H => K .dead A H) (s.ev hx) (s.ev hy) hK
    exact ⟨w', L, A, H', by simp [execOp, ho, e1], e2, e3⟩
  case nilCheck x =>
    obtain ⟨r, hx, hp, hK⟩ := withA_ok h
    refine opv_val r hK fun w0 S w a L s => ⟨a.eval x, ?_, s.ev hx⟩
    have hr := s.ev hx
    cases r <;> simp only [ptrOk, Bool.false_eq_true] at hp
    case ref => obtain ⟨b, s', _, e⟩ := hr; simp [execOp, ho, e]
    case ptr => obtain ⟨p, e, _⟩ := hr; simp [execOp, ho, e]
    case clo => obtain ⟨cs, e, _⟩ := hr; simp [execOp, ho, e]
  case binOp op t x y yt =>
    obtain ⟨rx, hx, hK⟩ := withA_ok h
    obtain ⟨ry, hy, hK⟩ := withA_ok hK
    refine opv_mem fun w0 S hS w a L s => ?_
    obtain ⟨r, e1, e2⟩ := run_bin2 (P := P) op t x y rx ry (fun r => K r A H) w (s.ev hx) (s.ev hy) (fun c e => by subst e; rfl) hK
    exact ⟨r, w, L, .v r, A, H, by simp only [execOp, ho]; rw [Sem.run_bind, e1]; rfl, s, rfl, e2⟩
  case unOp op t x =>
    obtain ⟨rx, hx, hK⟩ := withA_ok h
    refine opv_mem fun w0 S hS w a L s => ?_
    obtain ⟨r, e1, e2⟩ := run_unary (P := P) op rx (fun r => K r A H) w (s.ev hx) hK
    exact ⟨r, w, L, .v r, A, H, by simp [execOp, ho, e1], s, rfl, e2⟩
  case convert sT dT x =>
    obtain ⟨rx, hx, hK⟩ := withA_ok h
    refine opv_mem fun w0 S hS w a L s => ?_
    obtain ⟨r, w', x', e1, e2, e3, e4⟩ := run_cv (P := P) s hS (fun r => K r A H) (s.ev hx) hK
    exact ⟨r, w', L, x', A, H, by simp [execOp, ho, e1], e2, e3, e4⟩
  case lookup t x i ok =>
    obtain ⟨rx, hx, hK⟩ := withA_ok h
    obtain ⟨ry, hy, hK⟩ := withA_ok hK
    refine opv_mem fun w0 S hS w a L s => ?_
    obtain ⟨r, x', e1, e2, e3⟩ := run_lk (P := P) (t := t) s (fun r => K r A H) (s.ev hx) (s.ev hy) hK
    exact ⟨r, w, L, x', A, H, by simp [execOp, ho, e1], s, e2, e3⟩
  case mapUpdate t m k x =>
    obtain ⟨rx, hx, hK⟩ := withA_ok h
    obtain ⟨ry, hy, hK⟩ := withA_ok hK
    obtain ⟨rz, hz, hK⟩ := withA_ok hK
    refine opv_skip fun w0 S hS w a L s => ?_
    obtain ⟨w', H', e1, e2, e3⟩ := run_mu (P := P) (t := t) s hS (fun H => K .dead A H) (s.ev hx) (s.ev hy) (s.ev hz) hK
    exact ⟨w', L, A, H', by simp [execOp, ho, e1], e2, e3⟩
  case insert t m k x =>
    obtain ⟨rx, hx, hK⟩ := withA_ok h
    obtain ⟨ry, hy, hK⟩ := withA_ok hK
    obtain ⟨rz, hz, hK⟩ := withA_ok hK
    refine opv_skip fun w0 S hS w a L s => ?_
    obtain ⟨w', H', e1, e2, e3⟩ := run_mu (P := P) (t := t) s hS (fun H => K .dead A H) (s.ev hx) (s.ev hy) (s.ev hz) hK
    exact ⟨w', L, A, H', by simp [execOp, ho, e1], e2, e3⟩
  case makeMap t rs =>
    cases rs with
    | none =>
      refine opv_mem fun w0 S hS w a L s => ?_
      obtain ⟨r, w', L', x', A', H', e1, e2, e3, e4⟩ := run_mmk (P := P) (t := t) (rs := none) s hS (fun v hv => by cases hv) h
      exact ⟨r, w', L', x', A', H', by simp [execOp, ho, e1], e2, e3, e4⟩
    | some x =>
      obtain ⟨rx, hx, hK⟩ := withA_ok h
      split at hK
      · rename_i kk n
        refine opv_mem fun w0 S hS w a L s => ?_
        have hev : a.eval x = .int kk n := s.ev hx
        obtain ⟨r, w', L', x', A', H', e1, e2, e3, e4⟩ := run_mmk (P := P) (t := t) (rs := some (.int kk n)) s hS (fun v hv => by cases hv; exact ⟨_, _, rfl⟩) hK
        exact ⟨r, w', L', x', A', H', by simp [execOp, ho, hev, e1], e2, e3, e4⟩
      · exact hK.elim
  case makeFunc fn first caps =>
    split at h
    all_goals first | exact h.elim | skip
    rename_i f
    obtain ⟨rfl, h⟩ := h
    obtain ⟨l, hl, hK⟩ := withArgs_ok h
    refine opv_val _ hK fun w0 S w a L s => ⟨_, by simp [execOp, ho, Instr.makeFunc]; rfl, ?_⟩
    obtain ⟨h1, h2⟩ := evArgs_ok s caps.toList l hl
    refine ⟨_, rfl, by simpa using h1, fun i hi => ?_⟩
    obtain ⟨u, k1, k2⟩ := h2 i l[i] (by simp [hi])
    refine ⟨u, by simpa using k1, ?_⟩
    have : vecF l i = l[i] := by simp [vecF, hi]
    rw [this]; exact k2
  case makeSlice t l c =>
    obtain ⟨rx, hx, hK⟩ := withA_ok h
    obtain ⟨ry, hy, hK⟩ := withA_ok hK
    refine opv_mem fun w0 S hS w a L s => ?_
    obtain ⟨r, w', L', x', A', H', e1, e2, e3, e4⟩ := run_mk (P := P) (t := t) s hS (s.ev hx) (s.ev hy) hK
    exact ⟨r, w', L', x', A', H', by simp [execOp, ho, e1], e2, e3, e4⟩
  case slice t x lo hi mx =>
    split at h
    all_goals first | exact h.elim | skip
    obtain ⟨rx, hx, hK⟩ := withA_ok h
    obtain ⟨d1, l1, d2, h1', b1, b2⟩ := slVC_bnd hK
    refine opv_mem fun w0 S hS w a L s => ?_
    obtain ⟨r, x', e1, e2, e3⟩ := run_sl (P := P) (t := t) (fun r => K r A H) (s.ev hx) (bound_bnd s lo b1) (bound_bnd s hi b2) hK
    exact ⟨r, w, L, x', A, H, by simp [execOp, ho, e1], s, e2, e3⟩
  case fieldAddr t x i =>
    obtain ⟨rx, hx, hK⟩ := withA_ok h
    refine opv_mem fun w0 S hS w a L s => ?_
    obtain ⟨r, x', e1, e2, e3⟩ := run_fa (P := P) (w := w) (fun r => K r A H) (s.ev hx) hK
    exact ⟨r, w, L, x', A, H, by simp [execOp, ho, e1], s, e2, e3⟩
  case field t x i =>
    obtain ⟨rx, hx, hK⟩ := withA_ok h
    refine opv_mem fun w0 S hS w a L s => ?_
    obtain ⟨r, x', e1, e2, e3⟩ := run_fd (P := P) (w := w) (fun r => K r A H) (s.ev hx) hK
    exact ⟨r, w, L, x', A, H, by simp [execOp, ho, e1], s, e2, e3⟩
  case indexAddr t x i =>
    obtain ⟨rx, hx, hK⟩ := withA_ok h
    obtain ⟨ry, hy, hK⟩ := withA_ok hK
    refine opv_mem fun w0 S hS w a L s => ?_
    obtain ⟨r, x', e1, e2, e3⟩ := run_indexAt (P := P) (w := w) (fun r => K r A H) (s.ev hx) (s.ev hy) hK
    exact ⟨r, w, L, x', A, H, by simp [execOp, ho, e1], s, e2, e3⟩
  case index t x i =>
    obtain ⟨rx, hx, hK⟩ := withA_ok h
    obtain ⟨ry, hy, hK⟩ := withA_ok hK
    refine opv_mem fun w0 S hS w a L s => ?_
    obtain ⟨r, e1, e3⟩ := run_ch (P := P) (w := w) (fun r => K r A H) (s.ev hx) (s.ev hy) hK
    exact ⟨r, w, L, .v r, A, H, by simp [execOp, ho, e1], s, rfl, e3⟩
  case extract t i =>
    obtain ⟨rx, hx, hK⟩ := withA_ok h
    split at hK
    · rename_i n f
      obtain ⟨hi, hK⟩ := hK
      refine opv_mem fun w0 S hS w a L s => ?_
      obtain ⟨cs, e1, e2, e3⟩ := s.ev hx
      obtain ⟨c, e4, e5⟩ := e3 i hi
      exact ⟨c, w, L, f i, A, H, by simp [execOp, ho, e1, Instr.extract, e4], s, e5, hK⟩
    · exact hK.elim
  case call c =>
    obtain ⟨callee, args, tys⟩ := c
    cases callee with
    | builtin b =>
      obtain ⟨l, hl, hK⟩ := withArgs_ok h
      exact bcall_ok ho hl hK
    | invoke r m => exact h.elim
    | value f =>
      simp only at h
      split at h
      · rename_i g caps hg
        obtain ⟨l, hl, hK⟩ := withArgs_ok h
        refine opv_calls hK fun w0 S w a L s => ?_
        obtain ⟨h1, h2⟩ := evArgs_ok s args.toList l hl
        unfold calleeOf at hg
        split at hg
        · rename_i fn xa xb he
          split at hg
          case h_2 => simp at hg
          rename_i f'
          split at hg
          case isFalse => simp at hg
          rename_i hz
          have e1 : xa = #[] := Array.eq_empty_of_size_eq_zero hz.1
          have e2 : xb = #[] := Array.eq_empty_of_size_eq_zero hz.2
          subst e1 e2
          simp only [Option.some.injEq, Prod.mk.injEq] at hg
          obtain ⟨rfl, rfl⟩ := hg
          have hev : a.eval f = .func (.func f') #[] #[] := s.ev he
          refine ⟨args.map a.eval, ?_, by simpa [RdArgs] using And.intro h1 h2⟩
          simp [execOp, ho, resolve, hev, Deferred.ofValue, invoke, run_callFunc hK.1]
        · rename_i f' n gg he
          simp only [Option.some.injEq, Prod.mk.injEq] at hg
          obtain ⟨rfl, rfl⟩ := hg
          obtain ⟨cs, hev, c1, c2⟩ := s.ev he
          refine ⟨args.map a.eval ++ cs, ?_, ?_⟩
          · simp [execOp, ho, resolve, hev, Deferred.ofValue, invoke, run_callFunc hK.1]
          · refine ⟨by simp at h1 ⊢; omega, fun i x hi => ?_⟩
            simp at h1
            by_cases hlt : i < l.length
            · rw [List.getElem?_append_left hlt] at hi
              obtain ⟨u, k1, k2⟩ := h2 i x hi
              refine ⟨u, ?_, k2⟩
              rw [Array.getElem?_append_left (by simp; omega)]
              simpa using k1
            · rw [List.getElem?_append_right (by omega)] at hi
              have hn : i - l.length < n := by
                have := (List.getElem?_eq_some_iff.1 hi).1
                simpa using this
              simp [hn] at hi
              subst hi
              obtain ⟨c, k1, k2⟩ := c2 (i - l.length) hn
              refine ⟨c, ?_, k2⟩
              rw [Array.getElem?_append_right (by simp; omega)]
              simpa [h1] using k1
        · simp at hg
      · exact h.elim

end
end Go.Av
end
/- Regions as one proposition; contracts; entry and end of a function; what may be forgotten, frozen, renamed. -/
section
namespace Go.Av

section
variable (P : Program) (N : Cx)

/-- What a list of operations asks: `ds` the slots of the whole region's operations. -/
def opsVC (ds : List (Option Tmp)) (Q : Fr → Hp → Prop) : List Oper → Fr → Hp → Prop
  | [], A, H => Q A H
  | o :: rest, A, H =>
    match o.guard with
    | none => opVC P N (o.dst.getD 0) o.op A H fun r A H => opsVC ds Q rest (putd o.dst r A) H
    | some (j, want) =>
      match ds.getD j none with
      | some t => withA (A.get t) fun g => match g with
        | .v (.bool b) =>
          Br b (if want then opVC P N (o.dst.getD 0) o.op ((t, .v (.bool true)) :: A) H fun r A H => opsVC ds Q rest (putd o.dst r A) H else opsVC ds Q rest (putd o.dst (.v (.tuple #[])) ((t, .v (.bool true)) :: A)) H)
               (if want then opsVC ds Q rest (putd o.dst (.v (.tuple #[])) ((t, .v (.bool false)) :: A)) H else opVC P N (o.dst.getD 0) o.op ((t, .v (.bool false)) :: A) H fun r A H => opsVC ds Q rest (putd o.dst r A) H)
        | .v (.tuple _) => opsVC ds Q rest (putd o.dst (.v (.tuple #[])) A) H
        | _ => False
      | none => False

def dstsOk : List Oper → Bool
  | [] => true
  | o :: r => (match o.dst with | some t => decide (t < N.n) | none => true) && dstsOk r

end

section
variable {P : Program} {N : Cx} {A : Fr} {H : Hp}

theorem dstsOk_mem {l : List Oper} (h : dstsOk N l = true) : ∀ o ∈ l, ∀ t, o.dst = some t → t < N.n := by
  induction l with
  | nil => intro o ho; cases ho
  | cons a r ih =>
    simp only [dstsOk, Bool.and_eq_true] at h
    intro o ho t ht
    cases ho with
    | head => rw [ht] at h; simpa using h.1
    | tail _ hr => exact ih h.2 o hr t ht

theorem OpV_sub {o : Oper} {K : AV → Fr → Hp → Prop} {A' : Fr} (h : OpV P N o A' H K) (hs : ∀ w0 S w tm L, Sim N.n w0 S w tm L A H → Sim N.n w0 S w tm L A' H) : OpV P N o A H K :=
  fun w0 S hS w a L s next Q' hn => h w0 S hS w a L (hs w0 S w a.tmps L s) next Q' hn

theorem AOps_sub {ops : Array Oper} {l : List Oper} {Q : Fr → Hp → Prop} {A' : Fr} (h : AOps P N ops l Q A' H) (hs : ∀ w0 S w tm L, Sim N.n w0 S w tm L A H → Sim N.n w0 S w tm L A' H) : AOps P N ops l Q A H :=
  fun w0 S hS w a L s hd => h w0 S hS w a L (hs w0 S w a.tmps L s) hd

/-- What a slot holds may be said once more. -/
theorem Sim.again {w0 : World} {S : Rg} {w : World} {tm : Array Value} {L : Loc} (s : Sim N.n w0 S w tm L A H) {t : Tmp} {r : AV} (h : A.get t = some r) : Sim N.n w0 S w tm L ((t, r) :: A) H := by
  refine s.sub fun i a ha => ?_
  simp only [Fr.get] at ha
  split at ha
  · rename_i e; subst e; rw [h]; exact ha
  · exact ha

theorem opsVC_sound {ops : Array Oper} {Q : Fr → Hp → Prop} : ∀ (l : List Oper) (A : Fr) (H : Hp), (∀ o ∈ l, ∀ t, o.dst = some t → t < N.n) → (∀ j t, (ops.toList.map (·.dst)).getD j none = some t → t < N.n) →
    opsVC P N (ops.toList.map (·.dst)) Q l A H → AOps P N ops l Q A H
  | [], A, H, _, _, h => aops_nil h
  | o :: rest, A, H, hN, hds, h => by
    have ih : ∀ A H, opsVC P N (ops.toList.map (·.dst)) Q rest A H → AOps P N ops rest Q A H := fun A H => opsVC_sound rest A H (fun o ho => hN o (List.mem_cons_of_mem _ ho)) hds
    have hNo := hN o List.mem_cons_self
    simp only [opsVC] at h
    cases hg : o.guard with
    | none =>
      rw [hg] at h
      refine aops_cons hg hNo ?_
      intro w0 S hS w a L s next Q' hn
      exact opVC_sound h w0 S hS w a L s next Q' fun u r L' A' H' w' s' hr hk => hn u r L' A' H' w' s' hr (ih _ _ hk)
    | some q =>
      obtain ⟨j, want⟩ := q
      rw [hg] at h
      simp only at h
      split at h
      · rename_i t hj
        obtain ⟨g, hget, h⟩ := withA_ok h
        have hj' : (ops[j]?).bind (·.dst) = some t := by
          simp only [List.getD_eq_getElem?_getD, List.getElem?_map, Array.getElem?_toList] at hj
          cases ho : ops[j]? with
          | none => simp [ho] at hj
          | some x => simpa [ho] using hj
        split at h
        · rename_i b
          refine aops_guard hg hj' (hds j t hj) hget hNo ?_ ?_
          · intro hb
            subst hb
            cases b with
            | true =>
              have h1 := h.1 rfl
              simp only [if_true] at h1
              refine OpV_sub ?_ fun w0 S w tm L s => s.again hget
              intro w0 S hS w a L s next Q' hn
              exact opVC_sound h1 w0 S hS w a L s next Q' fun u r L' A' H' w' s' hr hk => hn u r L' A' H' w' s' hr (ih _ _ hk)
            | false =>
              have h1 := h.2 rfl
              simp only [Bool.false_eq_true, if_false] at h1
              refine OpV_sub ?_ fun w0 S w tm L s => s.again hget
              intro w0 S hS w a L s next Q' hn
              exact opVC_sound h1 w0 S hS w a L s next Q' fun u r L' A' H' w' s' hr hk => hn u r L' A' H' w' s' hr (ih _ _ hk)
          · intro hb
            have key : ∀ c, b = c → opsVC P N (ops.toList.map (·.dst)) Q rest (putd o.dst (.v (.tuple #[])) ((t, .v (.bool c)) :: A)) H → AOps P N ops rest Q (putd o.dst (.v (.tuple #[])) A) H := by
              intro c hc hv
              subst hc
              refine AOps_sub (ih _ _ hv) fun w0 S w tm L s => ?_
              cases hd : o.dst with
              | none => simp only [putd, hd] at s ⊢; exact s.again hget
              | some d =>
                simp only [putd, hd] at s ⊢
                refine s.sub fun i a ha => ?_
                simp only [Fr.get] at ha ⊢
                split
                · rename_i e; simpa [e] using ha
                · rename_i e
                  simp only [e, if_false] at ha
                  split at ha
                  · rename_i e2; subst e2; rw [hget]; exact ha
                  · exact ha
            cases b with
            | true =>
              have h1 := h.1 rfl
              cases want <;> simp at hb
              simp only [Bool.false_eq_true, if_false] at h1
              exact key true rfl h1
            | false =>
              have h1 := h.2 rfl
              cases want <;> simp at hb
              simp only [if_true] at h1
              exact key false rfl h1
        · exact aops_skip hg hj' (hds j t hj) hget hNo (ih _ _ h)
        · exact h.elim
      · exact h.elim

/-- A region whose order is not open. -/
theorem awp_region' {id : Nat} {l : List Oper} {Q : Exit → Fr → Hp → Prop} (hN : dstsOk N l = true) (h : opsVC P N (l.map (·.dst)) (Q .normal) l A H) : AWP P N (.region id l.toArray false) Q A H := by
  have hm := dstsOk_mem hN
  refine awp_region (opsVC_sound l A H hm ?_ (by simpa using h))
  intro j t ht
  simp only [List.getD_eq_getElem?_getD, List.getElem?_map] at ht
  cases ho : l[j]? with
  | none => simp [ho] at ht
  | some x => exact hm x (List.mem_of_getElem? ho) t (by simpa [ho] using ht)

/- contracts -/
/-- Called with arguments that read as `args`, the names of `Hin` meaning what `Hin` says, the function returns a value and names that `post` tells; the names of pn stay where they are. -/
def AC (P : Program) (f : FuncId) (args : List AV) (Hin : Hp) (pn : Nat → Bool) (post : AV → Hp → Prop) : Prop :=
  callable P f = true ∧
  ∀ (S : Rg) w L vs, (∀ b, w.heap.size ≤ b → S.wr b) → (∀ h, pn h = false → S.pin h = none) → Env S w → Sim 0 w S w #[] L [] Hin → RdArgs w (okb S Hin L) L args vs →
    Calls P f vs w fun e w' => ∃ u L' r H', e = .returned u ∧ Sim 0 w S w' #[] L' [] H' ∧ Rd w' (okb S H' L') L' r u ∧ post r H'

def argsFr (args : List AV) : Fr := args.zipIdx.map fun x => (x.2, x.1)

theorem argsFr_get : ∀ (args : List AV) (k i : Nat) (a : AV), Fr.get ((args.zipIdx k).map fun x => (x.2, x.1)) i = some a → k ≤ i ∧ args[i - k]? = some a
  | [], k, i, a, h => by simp [Fr.get] at h
  | x :: r, k, i, a, h => by
    simp only [List.zipIdx_cons, List.map_cons, Fr.get] at h
    split at h
    · rename_i e; subst e; simpa using h
    · rename_i e
      obtain ⟨h1, h2⟩ := argsFr_get r (k + 1) i a h
      refine ⟨by omega, ?_⟩
      rw [show i - k = (i - (k + 1)) + 1 by omega]
      simpa using h2

def Hp.le (H' H : Hp) : Prop := ∀ h B, H' h = some B → H h = some B
theorem Hp.le_emp (H : Hp) : Hp.le Hp.emp H := fun h B hB => by simp [Hp.emp] at hB
theorem Hp.le_refl (H : Hp) : Hp.le H H := fun _ _ h => h
/-- Of the heap may be forgotten. -/
theorem okb_le {S : Rg} {H H' : Hp} {L : Loc} (hl : Hp.le H' H) {b : Nat} (h : okb S H L b) : okb S H' L b :=
  ⟨h.1, fun g q hn hq => h.2 g q (by
    cases e : H' g with
    | none => exact absurd e hn
    | some B => rw [hl g B e]; simp) hq⟩
theorem Rd.okm {w : World} {ok ok' : Nat → Prop} (hok : ∀ b, ok b → ok' b) {a : AV} {L : Loc} {u : Value} (h : Rd w ok L a u) : Rd w ok' L a u := by
  have := Rd.step (w := w) (w' := w) (ok := ok) (ok' := ok') (p := fun _ => false) (fun b _ h => ⟨hok b h, rfl⟩) (Shape.refl w) a L L u (fun _ _ => rfl) h
  rwa [AV.scrub_none] at this
theorem Sim.le {n : Nat} {w0 : World} {S : Rg} {w : World} {L : Loc} {H H' : Hp} (s : Sim n w0 S w #[] L [] H) (hl : Hp.le H' H) : Sim n w0 S w #[] L [] H' := by
  have live : ∀ g, H' g ≠ none → H g ≠ none := fun g hn => by
    cases e : H' g with
    | none => exact absurd e hn
    | some B => rw [hl g B e]; simp
  refine ⟨s.keep, s.size, fun i a h => by simp [Fr.get] at h, fun h B hB => ?_, fun h q hn hq => s.own h q (live h hn) hq, fun h g q r hn hm hq hr e => s.inj h g q r (live h hn) (live g hm) hq hr e, s.pin⟩
  have := BlkOk.step (w := w) (w' := w) (wh := w) (wh' := w) (ok := okb S H L) (ok' := okb S H' L) (L := L) (L' := L) (p := fun _ => false) (fun b _ hb => ⟨okb_le hl hb, rfl⟩) (Shape.refl w) (fun _ _ => rfl) (fun _ _ => rfl) (s.blk h B (hl h B hB))
  rwa [Blk.scrub_none] at this

/-- What the results of a function read as. -/
def resVC (P : Program) (rs : List ResultVar) (A : Fr) (H : Hp) (post : AV → Hp → Prop) : Prop :=
  match rs with
  | [] => post (.tup 0 (vecF [])) H
  | [.tmp t] => withA (A.get t) fun r => post r H
  | [.tmp t, .tmp u] => withA (A.get t) fun r => withA (A.get u) fun q => post (.tup 2 (vecF [r, q])) H
  | [.tmp t, .tmp u, .tmp v] => withA (A.get t) fun r => withA (A.get u) fun q => withA (A.get v) fun p => post (.tup 3 (vecF [r, q, p])) H
  | [.cell t ty] => withA (A.get t) fun p => ldVC (tyOf P ty) H p fun r => ∃ H', Hp.le H' H ∧ post r H'
  | [.cell t ty, .tmp u] => withA (A.get t) fun p => ldVC (tyOf P ty) H p fun r => withA (A.get u) fun q => ∃ H', Hp.le H' H ∧ post (.tup 2 (vecF [r, q])) H'
  | [.cell t ty, .tmp u, .tmp v] => withA (A.get t) fun p => ldVC (tyOf P ty) H p fun r => withA (A.get u) fun q => withA (A.get v) fun s => ∃ H', Hp.le H' H ∧ post (.tup 3 (vecF [r, q, s])) H'
  | _ => False

def endQ (P : Program) (N : Cx) (fn : Func) (post : AV → Hp → Prop) : Exit → Fr → Hp → Prop
  | .normal, A, H => ∃ A' H', Sub N A H A' H' ∧ resVC P fn.results.toList A' H' post
  | .ret, A, H => ∃ A' H', Sub N A H A' H' ∧ resVC P fn.results.toList A' H' post
  | _, _, _ => False

theorem ldVC_ptr {t : Option TY} {a : AV} {K : AV → Prop} (h : ldVC t H a K) {w : World} {ok : Nat → Prop} {L : Loc} {u : Value} (hu : Rd w ok L a u) : ∃ q, u = .pointer (some q) := by
  unfold ldVC at h
  split at h
  · obtain ⟨q, rfl, _⟩ := hu; exact ⟨q, rfl⟩
  · obtain ⟨q, rfl, _⟩ := hu; exact ⟨q, rfl⟩
  · obtain ⟨b, s, _, rfl⟩ := hu; exact ⟨_, rfl⟩
  · obtain ⟨b, s, _, rfl⟩ := hu; exact ⟨_, rfl⟩
  · exact h.elim

theorem resVC_ok {fn : Func} {post : AV → Hp → Prop} {w0 : World} {S : Rg} {w : World} {tm : Array Value} {L : Loc} (s : Sim N.n w0 S w tm L A H) (h : resVC P fn.results.toList A H post) :
    ∃ u r H', Hp.le H' H ∧ (results fn tm).run P w = .ok u w ∧ Rd w (okb S H' L) L r u ∧ post r H' := by
  unfold resVC at h
  have hr : ∀ l, fn.results.toList = l → fn.results = l.toArray := fun l e => by rw [← e]
  split at h
  · rename_i e
    exact ⟨_, .tup 0 (vecF []), H, Hp.le_refl H, results_none (hr _ e) _ _ _, ⟨#[], rfl, rfl, by simp⟩, h⟩
  · rename_i t e
    obtain ⟨r, h1, h2⟩ := withA_ok h
    exact ⟨_, r, H, Hp.le_refl H, results_tmp (hr _ e) _ _ _, s.slot t r h1, h2⟩
  · rename_i t u e
    obtain ⟨r, h1, h⟩ := withA_ok h
    obtain ⟨q, h2, h⟩ := withA_ok h
    refine ⟨_, .tup 2 (vecF [r, q]), H, Hp.le_refl H, results_tmp2 (hr _ e) _ _ _, ⟨_, rfl, rfl, fun i hi => ?_⟩, h⟩
    match i, hi with
    | 0, _ => exact ⟨_, rfl, s.slot t r h1⟩
    | 1, _ => exact ⟨_, rfl, s.slot u q h2⟩
  · rename_i t u v e
    obtain ⟨r, h1, h⟩ := withA_ok h
    obtain ⟨q, h2, h⟩ := withA_ok h
    obtain ⟨p, h3, h⟩ := withA_ok h
    refine ⟨.tuple #[tm.getD t undef, tm.getD u undef, tm.getD v undef], .tup 3 (vecF [r, q, p]), H, Hp.le_refl H, by simp [results, hr _ e], ⟨_, rfl, rfl, fun i hi => ?_⟩, h⟩
    match i, hi with
    | 0, _ => exact ⟨_, rfl, s.slot t r h1⟩
    | 1, _ => exact ⟨_, rfl, s.slot u q h2⟩
    | 2, _ => exact ⟨_, rfl, s.slot v p h3⟩
  · rename_i t ty e
    obtain ⟨p, h1, h⟩ := withA_ok h
    have hu := s.slot t p h1
    obtain ⟨q, hq⟩ := ldVC_ptr h hu
    obtain ⟨r, x, e1, e2, e3⟩ := run_loadAt (P := P) s (fun r => ∃ H', Hp.le H' H ∧ post r H') hu h
    have e4 := e1 w (fun _ _ => rfl)
    rw [hq] at e4
    simp only [Instr.loadAt, Instr.sureAddr] at e4
    obtain ⟨H2, hl2, e3⟩ := e3
    refine ⟨r, x, H2, hl2, ?_, Rd.okm (fun b hb => okb_le hl2 hb) e2, e3⟩
    simp only [results, hr _ e]
    have hq' : tm[t]?.getD undef = .pointer (some q) := by simpa using hq
    simp at e4 ⊢
    rw [hq']
    simp [asAddr, e4]
  · rename_i t ty u e
    obtain ⟨p, h1, h⟩ := withA_ok h
    have hu := s.slot t p h1
    obtain ⟨q, hq⟩ := ldVC_ptr h hu
    obtain ⟨r, x, e1, e2, h⟩ := run_loadAt (P := P) s (fun r => withA (A.get u) fun q => ∃ H', Hp.le H' H ∧ post (.tup 2 (vecF [r, q])) H') hu h
    obtain ⟨y, h2, H2, hl2, h⟩ := withA_ok h
    have e4 := e1 w (fun _ _ => rfl)
    rw [hq] at e4
    simp only [Instr.loadAt, Instr.sureAddr] at e4
    refine ⟨.tuple #[r, tm.getD u undef], .tup 2 (vecF [x, y]), H2, hl2, ?_, ⟨_, rfl, rfl, fun i hi => ?_⟩, h⟩
    · simp only [results, hr _ e]
      have hq' : tm[t]?.getD undef = .pointer (some q) := by simpa using hq
      simp at e4 ⊢
      rw [hq']
      simp [asAddr, e4]
    · match i, hi with
      | 0, _ => exact ⟨_, rfl, Rd.okm (fun b hb => okb_le hl2 hb) e2⟩
      | 1, _ => exact ⟨_, rfl, Rd.okm (fun b hb => okb_le hl2 hb) (s.slot u y h2)⟩
  · rename_i t ty u v e
    obtain ⟨p, h1, h⟩ := withA_ok h
    have hu := s.slot t p h1
    obtain ⟨q, hq⟩ := ldVC_ptr h hu
    obtain ⟨r, x, e1, e2, h⟩ := run_loadAt (P := P) s (fun r => withA (A.get u) fun q => withA (A.get v) fun s => ∃ H', Hp.le H' H ∧ post (.tup 3 (vecF [r, q, s])) H') hu h
    obtain ⟨y, h2, h⟩ := withA_ok h
    obtain ⟨z, h3, H2, hl2, h⟩ := withA_ok h
    have e4 := e1 w (fun _ _ => rfl)
    rw [hq] at e4
    simp only [Instr.loadAt, Instr.sureAddr] at e4
    refine ⟨.tuple #[r, tm.getD u undef, tm.getD v undef], .tup 3 (vecF [x, y, z]), H2, hl2, ?_, ⟨_, rfl, rfl, fun i hi => ?_⟩, h⟩
    · simp only [results, hr _ e]
      have hq' : tm[t]?.getD undef = .pointer (some q) := by simpa using hq
      simp at e4 ⊢
      rw [hq']
      simp [asAddr, e4]
    · match i, hi with
      | 0, _ => exact ⟨_, rfl, Rd.okm (fun b hb => okb_le hl2 hb) e2⟩
      | 1, _ => exact ⟨_, rfl, Rd.okm (fun b hb => okb_le hl2 hb) (s.slot u y h2)⟩
      | 2, _ => exact ⟨_, rfl, Rd.okm (fun b hb => okb_le hl2 hb) (s.slot v z h3)⟩
  · exact h.elim

theorem Sim.noFr {w0 : World} {S : Rg} {w : World} {tm : Array Value} {L : Loc} {n : Nat} (s : Sim n w0 S w tm L A H) : Sim 0 w0 S w #[] L [] H :=
  ⟨s.keep, rfl, fun i a h => by simp [Fr.get] at h, s.blk, s.own, s.inj, s.pin⟩

/-- The marks are taken. -/
def taken : List Deferred → World → World
  | [], w => w
  | d :: ms, w => match d.target with
    | .collected D => taken ms (w.putObj D (.deferred none))
    | _ => w
theorem Mks.next {B D : Nat} {w : World} {ms : List Deferred} (h : Mks B w (markD D :: ms)) : Mks B (w.putObj D (.deferred none)) ms :=
  ⟨fun d hd => by
    obtain ⟨D', h1, h2, h3⟩ := h.1 d (List.mem_cons_of_mem _ hd)
    refine ⟨D', h1, h2, (World.putObj_heap_other fun e => ?_).trans h3⟩
    subst e
    exact (List.nodup_cons.1 h.2).1 (h2 ▸ hd), (List.nodup_cons.1 h.2).2⟩
theorem Mks.head {B : Nat} {w : World} {d : Deferred} {ms : List Deferred} (h : Mks B w (d :: ms)) : ∃ D, B ≤ D ∧ d = markD D ∧ w.heap[D]? = some (.deferred (some [])) := h.1 d (List.mem_cons_self ..)
def leaveP (P : Program) (fn : Func) (R : Ending → World → Prop) (B : Nat) : Exit → Act → World → Prop
  | .normal, a, w | .ret, a, w => Mks B w a.defers ∧ ∃ v, (results fn a.tmps).run P (taken a.defers w) = .ok v (taken a.defers w) ∧ R (.returned v) (taken a.defers w)
  | _, _, _ => False
theorem leaves_marks {F : Fence} {n B : Nat} {fn : Func} {tmps : Array Value} {R : Ending → World → Prop} : ∀ (ms : List Deferred) (w : World), Mks B w ms → (∃ v, (results fn tmps).run P (taken ms w) = .ok v (taken ms w) ∧ R (.returned v) (taken ms w)) → LeavesInM F n P fn tmps R ms .returning w
  | [], w, _, h => h
  | d :: ms, w, hm, h => by
    obtain ⟨D, _, rfl, hD⟩ := hm.head
    exact ⟨by simp, .inl ⟨D, _, rfl, run_takeDeferred hD, leaves_marks ms _ hm.next h⟩⟩
theorem calls_of_cwp {B : Nat} {f : FuncId} {fn : Func} {c : Code} {args : Array Value} {w : World} {R : Ending → World → Prop} (hf : P.funcs[f]? = some fn) (hb : fn.body = some c)
    {g : Bool} (h : gwp g P c (leaveP P fn R B) { tmps := args ++ Array.replicate (fn.ntmps - args.size) undef, defers := [] } w) : Calls P f args w R :=
  callsFF.1 (callsIn_of_wp_marks (F := FF none) (n := 0) hf hb trivial (wpIn_mono (h none 0 fun _ => rfl) fun e a w hq => by
    cases e with
    | normal => exact leaves_marks _ _ hq.1 hq.2
    | ret => exact leaves_marks _ _ hq.1 hq.2
    | _ => exact hq.elim))
theorem Sim.marks {w0 : World} {S : Rg} {tm : Array Value} {L : Loc} : ∀ (ms : List Deferred) (w : World), Mks w0.heap.size w ms → Sim N.n w0 S w tm L A H → Sim N.n w0 S (taken ms w) tm L A H
  | [], _, _, s => s
  | d :: ms, w, hm, s => by
    obtain ⟨D, hB, rfl, hD⟩ := hm.head
    refine Sim.marks ms _ hm.next (s.grew (grownBy_putObj' w D _) fun r e => ?_)
    cases e
    refine ⟨hB, ⟨_, hD, fun _ _ _ e => by cases e⟩, fun h kv q h1 h2 e => ?_⟩
    have hb := s.blk h _ h1
    rw [h2] at hb
    obtain ⟨es, c, e1, _⟩ := hb
    rw [e, hD] at e1
    cases e1
/-- A function's contract, out of its body. -/
theorem ac_of_awp {f : FuncId} {fn : Func} {c : Code} {args : List AV} {Hin : Hp} {post : AV → Hp → Prop} (hf : P.funcs[f]? = some fn) (hb : fn.body = some c) (hc : callable P f = true) (hn : fn.ntmps = N.n) (ha : args.length ≤ N.n)
    (h : AWP P N c (endQ P N fn post) (argsFr args) Hin) : AC P f args Hin N.pn post := by
  refine ⟨hc, fun S w L vs hS hpin henv s hargs => ?_⟩
  refine calls_of_cwp (B := w.heap.size) (g := N.out) hf hb ?_
  obtain ⟨hsz, hrd⟩ := hargs
  have s' : Sim N.n w S w (vs ++ Array.replicate (fn.ntmps - vs.size) undef) L (argsFr args) Hin := by
    refine ⟨s.keep, by simp; omega, fun i a hi => ?_, s.blk, s.own, s.inj, s.pin⟩
    obtain ⟨_, h2⟩ := argsFr_get args 0 i a hi
    obtain ⟨u, k1, k2⟩ := hrd i a (by simpa using h2)
    have hlt := (Array.getElem?_eq_some_iff.1 k1).1
    have : (vs ++ Array.replicate (fn.ntmps - vs.size) undef).getD i undef = u := by
      simp [Array.getD]
      rw [dif_pos (by omega)]
      rw [Array.getElem_append_left hlt]
      obtain ⟨_, e⟩ := Array.getElem?_eq_some_iff.1 k1
      exact e
    rw [this]; exact k2
  refine wp_mono (h w S ⟨hS, hpin, henv⟩ w ⟨_, []⟩ L s') ?_
  rintro e a w' ⟨L', A', H', s2, ⟨ms, hd, hm⟩, hq⟩
  rw [List.append_nil] at hd
  subst hd
  have hend : (∃ A3 H3, Sub N A' H' A3 H3 ∧ resVC P fn.results.toList A3 H3 post) → leaveP P fn (fun e w' => ∃ u L' r H', e = .returned u ∧ Sim 0 w S w' #[] L' [] H' ∧ Rd w' (okb S H' L') L' r u ∧ post r H') w.heap.size .ret a w' := fun hq => by
    have s2' : Sim N.n w S (taken a.defers w') a.tmps L' A' H' := s2.marks _ _ hm
    obtain ⟨A3, H3, hsub, hq⟩ := hq
    obtain ⟨L3, s3⟩ := hsub _ _ ⟨hS, hpin, henv⟩ _ _ _ s2'
    obtain ⟨u, r, H4, k0, k1, k2, k3⟩ := resVC_ok (P := P) s3 hq
    exact ⟨hm, u, k1, u, L3, r, H4, rfl, s3.noFr.le k0, k2, k3⟩
  cases e with
  | normal => exact hend hq
  | ret => exact hend hq
  | _ => exact hq.elim

end
end Go.Av
end
/- Calls by contract; forgetting, freezing, renaming. -/
section
namespace Go.Av

/-- No slice that is only read stands in it. -/
def AV.solid : AV → Prop
  | .list .. | .ptr .. => False
  | .agg n f | .tup n f | .clo _ n f => ∀ i, i < n → (f i).solid
  | _ => True

theorem Rd.solid {w : World} {ok ok' : Nat → Prop} : ∀ (a : AV) (L : Loc) (u : Value), a.solid → Rd w ok L a u → Rd w ok' L a u := by
  intro a
  induction a with
  | v x => intro L u _ h; exact h
  | list nn sz n f ih => intro L u h; exact h.elim
  | own h off sz n => intro L u _ h; exact h
  | ref h off => intro L u _ h; exact h
  | ptr n f ih => intro L u h; exact h.elim
  | agg n f ih => rintro L u hp ⟨cs, hu, h1, h2⟩; exact ⟨cs, hu, h1, fun i hi => let ⟨c, k1, k2⟩ := h2 i hi; ⟨c, k1, ih i L _ (hp i hi) k2⟩⟩
  | tup n f ih => rintro L u hp ⟨cs, hu, h1, h2⟩; exact ⟨cs, hu, h1, fun i hi => let ⟨c, k1, k2⟩ := h2 i hi; ⟨c, k1, ih i L _ (hp i hi) k2⟩⟩
  | clo g n f ih => rintro L u hp ⟨cs, hu, h1, h2⟩; exact ⟨cs, hu, h1, fun i hi => let ⟨c, k1, k2⟩ := h2 i hi; ⟨c, k1, ih i L _ (hp i hi) k2⟩⟩
  | map h => intro L u _ h; exact h
  | dead => intro L u _ _; trivial

def Blk.solid : Blk → Prop
  | .cells n f => ∀ i, i < n → (f i).solid
  | .mp kv => ∀ x ∈ kv, x.2.solid

theorem BlkOk.solid {w wh : World} {ok ok' : Nat → Prop} {L : Loc} {l : Option (Nat × Nat)} {B : Blk} (hB : B.solid) (h : BlkOk w wh ok L l B) : BlkOk w wh ok' L l B := by
  cases B with
  | cells n f =>
    cases l with
    | none => exact h
    | some q => obtain ⟨cs, e, h1, h2, h3⟩ := h; exact ⟨cs, e, h1, h2, fun i hi => let ⟨c, k1, k2⟩ := h3 i hi; ⟨c, k1, Rd.solid _ _ _ (hB i hi) k2⟩⟩
  | mp kv =>
    cases l with
    | none => exact h
    | some q =>
      obtain ⟨es, c, h1, h2, h3⟩ := h
      exact ⟨es, c, h1, h2, fun i e he => let ⟨a, k1, k2⟩ := h3 i e he; ⟨a, k1, Rd.solid _ _ _ (hB _ (List.mem_of_getElem? k1)) k2⟩⟩

/-- What is read at more places. -/
theorem Rd.mono {w : World} {ok ok' : Nat → Prop} (hok : ∀ b, b < w.heap.size → ok b → ok' b) {a : AV} {L : Loc} {u : Value} (h : Rd w ok L a u) : Rd w ok' L a u := by
  have := Rd.step (w := w) (w' := w) (ok := ok) (ok' := ok') (p := fun _ => false) (fun b hb h => ⟨hok b hb h, rfl⟩) (Shape.refl w) a L L u (fun _ _ => rfl) h
  rwa [AV.scrub_none] at this

/-- A value of our own may be handed over to be read: `Fits H D a c`: what reads as a reads as c while the names of D are left alone. -/
inductive Fits (H : Hp) (D : Nat → Prop) : AV → AV → Prop
  | refl (a : AV) : Fits H D a a
  | own {h off sz n M : Nat} {g f : Nat → AV} : H h = some (.cells M g) → D h → off + n * sz ≤ M → (∀ i, i < n * sz → (f i).plain) → (∀ i, i < n * sz → Fits H D (g (off + i)) (f i)) → Fits H D (.own h off sz n) (.list false sz n f)
  | list {nn nn' : Bool} {sz n : Nat} {g f : Nat → AV} : (nn' = true → nn = true ∨ 0 < n) → (∀ i, i < n * sz → (f i).plain) → (∀ i, i < n * sz → Fits H D (g i) (f i)) → Fits H D (.list nn sz n g) (.list nn' sz n f)
  | nil {sz : Nat} {f : Nat → AV} : Fits H D (.v (.slice none 0 0)) (.list false sz 0 f)
  | agg {n : Nat} {g f : Nat → AV} : (∀ i, i < n → Fits H D (g i) (f i)) → Fits H D (.agg n g) (.agg n f)
  | ref {h off n M : Nat} {g f : Nat → AV} : H h = some (.cells M g) → D h → off + n ≤ M → (∀ i, i < n → (f i).plain) → (∀ i, i < n → Fits H D (g (off + i)) (f i)) → Fits H D (.ref h off) (.ptr n f)
  | clo {k n : Nat} {g f : Nat → AV} : (∀ i, i < n → Fits H D (g i) (f i)) → Fits H D (.clo k n g) (.clo k n f)
  | tup {n : Nat} {g f : Nat → AV} : (∀ i, i < n → Fits H D (g i) (f i)) → Fits H D (.tup n g) (.tup n f)
  | nonnil {sz n : Nat} {f : Nat → AV} {a : AV} : 0 < n → Fits H D a (.list false sz n f) → Fits H D a (.list true sz n f)
  | dead (a : AV) : Fits H D a .dead

/-- The blocks of the names of D, beside those that belong to nobody. -/
def okD (S : Rg) (H : Hp) (L : Loc) (D : Nat → Prop) (b : Nat) : Prop := S.ok b ∧ ∀ h q, H h ≠ none → ¬ D h → L h = some q → q.1 ≠ b

section
variable {P : Program} {N : Cx} {A : Fr} {H : Hp}

theorem Fits.rd {D : Nat → Prop} {w0 : World} {S : Rg} {w : World} {tm : Array Value} {L : Loc} {n : Nat} (s : Sim n w0 S w tm L A H) {a c : AV} (h : Fits H D a c) : ∀ u, Rd w (okb S H L) L a u → Rd w (okD S H L D) L c u := by
  have okd : ∀ b, okb S H L b → okD S H L D b := fun b hb => ⟨hb.1, fun h q hn _ hq => hb.2 h q hn hq⟩
  have okn : ∀ h b o, H h ≠ none → D h → L h = some (b, o) → okD S H L D b := by
    intro h b o hn hD hl
    refine ⟨S.sub b (s.own h _ hn hl), fun g q hg hnD hq e => hnD ?_⟩
    have := s.inj g h q (b, o) hg hn hq hl e
    exact this ▸ hD
  induction h with
  | refl a => intro u hu; exact Rd.mono (fun b _ h => okd b h) hu
  | @own h off sz n M g f hH hD hle hf _ ih =>
    intro u hu
    have hb := s.blk h _ hH
    simp only [Rd] at hu
    split at hu
    · obtain ⟨rfl, rfl⟩ := hu
      exact ⟨none, 0, rfl, Nat.le_refl _, by simp, fun _ => ⟨rfl, rfl⟩, by simp⟩
    · rename_i b o hl
      obtain ⟨p, cap, rfl, h1, h2, h3, h4, h5, _⟩ := hu
      rw [hl] at hb
      obtain ⟨cs, e, ⟨fz, k1, _⟩, k2, k3⟩ := hb
      refine ⟨some p, cap, rfl, h1, by simp, by simp, fun q hq i hi => ?_⟩
      simp only [Option.some.injEq] at hq
      subst hq
      refine ⟨h4, ?_⟩
      have hn : 0 < n := by
        rcases Nat.eq_zero_or_pos n with rfl | h
        · simp at hi
        · exact h
      rw [h3, h5 (by omega)]
      obtain ⟨c, k4, k5⟩ := k3 (off + i) (by omega)
      refine ⟨okn h b o (by simp [hH]) hD hl, c, by simp [World.cell?, k1, Nat.add_assoc, k4], fun L' => ?_⟩
      exact Rd.plain _ _ _ _ (hf i hi) (ih i hi _ k5)
  | @list nn nn' sz n g f hnn hf _ ih =>
    rintro u ⟨x, cap, rfl, h1, h2, h3, h4⟩
    refine ⟨x, cap, rfl, h1, fun h => ?_, h3, fun p hp i hi => ?_⟩
    · rcases hnn h with h | h
      · exact h2 h
      · intro e; have := (h3 e).1; omega
    · obtain ⟨k0, k1, c, k2, k3⟩ := h4 p hp i hi
      exact ⟨k0, okd _ k1, c, k2, fun L' => Rd.plain _ _ _ _ (hf i hi) (ih i hi _ (k3 L))⟩
  | nil => rintro u rfl; exact ⟨none, 0, rfl, Nat.le_refl _, by simp, fun _ => ⟨rfl, rfl⟩, by simp⟩
  | @agg n g f _ ih => rintro u ⟨cs, hu, h1, h2⟩; exact ⟨cs, hu, h1, fun i hi => let ⟨c, k1, k2⟩ := h2 i hi; ⟨c, k1, ih i hi _ k2⟩⟩
  | @ref h off n M g f hH hD hle hf _ ih =>
    rintro u ⟨b, o, hl, rfl⟩
    have hb := s.blk h _ hH
    rw [hl] at hb
    obtain ⟨cs, e, ⟨fz, k1, _⟩, k2, k3⟩ := hb
    refine ⟨_, rfl, rfl, fun i hi => ?_⟩
    obtain ⟨c, k4, k5⟩ := k3 (off + i) (by omega)
    exact ⟨okn h b o (by simp [hH]) hD hl, c, by simp [World.cell?, k1, Nat.add_assoc, k4], fun L' => Rd.plain _ _ _ _ (hf i hi) (ih i hi _ k5)⟩
  | @clo k n g f _ ih => rintro u ⟨cs, hu, h1, h2⟩; exact ⟨cs, hu, h1, fun i hi => let ⟨c, k1, k2⟩ := h2 i hi; ⟨c, k1, ih i hi _ k2⟩⟩
  | @tup n g f _ ih => rintro u ⟨cs, hu, h1, h2⟩; exact ⟨cs, hu, h1, fun i hi => let ⟨c, k1, k2⟩ := h2 i hi; ⟨c, k1, ih i hi _ k2⟩⟩
  | dead a => intro u _; trivial
  | @nonnil sz n f a hn _ ih =>
    intro u hu
    obtain ⟨x, cap, rfl, h1, h2, h3, h4⟩ := ih u hu
    exact ⟨x, cap, rfl, h1, fun _ e => by have := (h3 e).1; omega, h3, h4⟩

inductive FitsL (H : Hp) (D : Nat → Prop) : List AV → List AV → Prop
  | nil : FitsL H D [] []
  | cons {a c : AV} {l r : List AV} : Fits H D a c → FitsL H D l r → FitsL H D (a :: l) (c :: r)

theorem FitsL.refl {H : Hp} {D : Nat → Prop} : ∀ l : List AV, FitsL H D l l
  | [] => .nil
  | a :: l => .cons (.refl a) (FitsL.refl l)

theorem FitsL.args {D : Nat → Prop} {w0 : World} {S : Rg} {w : World} {tm : Array Value} {L : Loc} {n : Nat} (s : Sim n w0 S w tm L A H) {l r : List AV} (h : FitsL H D l r) : ∀ {vs : Array Value}, RdArgs w (okb S H L) L l vs → RdArgs w (okD S H L D) L r vs := by
  have key : ∀ (l r : List AV), FitsL H D l r → l.length = r.length ∧ ∀ (i : Nat) (c : AV), r[i]? = some c → ∃ a, l[i]? = some a ∧ Fits H D a c := by
    intro l r h
    induction h with
    | nil => exact ⟨rfl, fun i c h => by simp at h⟩
    | cons h _ ih =>
      refine ⟨by simp [ih.1], fun i c hc => ?_⟩
      cases i with
      | zero => simp at hc; subst hc; exact ⟨_, rfl, h⟩
      | succ i => simpa using ih.2 i c (by simpa using hc)
  rintro vs ⟨h1, h2⟩
  obtain ⟨k1, k2⟩ := key l r h
  refine ⟨by omega, fun i c hc => ?_⟩
  obtain ⟨a, j1, j2⟩ := k2 i c hc
  obtain ⟨u, j3, j4⟩ := h2 i a j1
  exact ⟨u, j3, j2.rd s u j4⟩

/-- The heap behind a call: what the callee's names mean, and beside it ours. -/
def Hp.over (H' H Hin : Hp) : Hp := fun h => match H' h with
  | some B => some B
  | none => if (Hin h).isSome then none else H h

def liveB (H : Hp) (h : Nat) : Bool := (H h).isSome

/-- A call by a contract. `p`: the names that may mean another block behind it. `fresh`: what is handed back is all new, and holds no slice that is only read; else nothing of ours was handed over to be read. -/
theorem callG_of {f : FuncId} {args args' : List AV} {Hin : Hp} {pn : Nat → Bool} {post : AV → Hp → Prop} {K : AV → Fr → Hp → Prop} (hac : AC P f args' Hin pn post) (p : Nat → Bool) (fresh : Bool)
    (hin : ∀ h B, Hin h = some B → H h = some B)
    (hfit : FitsL H (fun h => Hin h = none) args args')
    (hfr : fresh = false → args = args')
    (hp1 : ∀ h, Hin h ≠ none → p h = false → pn h = true)
    (hp2 : ∀ h, N.pn h = true → p h = false)
    (hK : ∀ r H', post r H' → (∀ h, H' h ≠ none → Hin h = none → p h = true) ∧ (fresh = true → r.solid ∧ ∀ h B, H' h = some B → B.solid) ∧
      K (r.scrub fun h => !liveB H' h) (A.scrub p) (Hp.over (H'.scrub fun h => !liveB H' h) (H.scrub p) Hin)) :
    CallG P N f args A H K := by
  refine ⟨hac.1, fun w0 S hS w tm L s vs hvs => ?_⟩
  -- the callee's own regions
  let G : Nat → Prop := fun b => if fresh = true then True else okb S H L b
  let wr : Nat → Prop := fun b => w.heap.size ≤ b ∨ ∃ h q, Hin h ≠ none ∧ L h = some q ∧ q.1 = b
  let S' : Rg := ⟨wr, fun b => G b ∨ wr b, fun b h => .inr h, fun h => if pn h = true then some (L h) else none⟩
  have hwr : ∀ b, wr b → S.wr b := by
    rintro b (h | ⟨h, q, h1, h2, rfl⟩)
    · exact hS.new b (Nat.le_trans s.keep.size h)
    · cases hh : Hin h with
      | none => exact absurd hh h1
      | some B => exact s.own h q (by rw [hin h B hh]; simp) h2
  have hlive : ∀ h, Hin h ≠ none → H h ≠ none := by
    intro h hn
    cases hh : Hin h with
    | none => exact absurd hh hn
    | some B => rw [hin h B hh]; simp
  have hlt : ∀ h q, H h ≠ none → L h = some q → q.1 < w.heap.size := by
    intro h q hn hq
    cases hH : H h with
    | none => exact absurd hH hn
    | some B' =>
      have := s.blk h B' hH
      rw [hq] at this
      exact BlkOk.lt (b := q.1) (s := q.2) this
  -- what belongs to nobody may be read by the callee
  have hokb : ∀ b, okb S H L b → okb S' Hin L b := by
    intro b hb
    refine ⟨?_, fun h q hn hq => hb.2 h q (hlive h hn) hq⟩
    show G b ∨ wr b
    left
    show if fresh = true then True else okb S H L b
    split
    · trivial
    · exact hb
  have s' : Sim 0 w S' w #[] L [] Hin := by
    refine ⟨Keep.refl w _, rfl, fun i a h => by simp [Fr.get] at h, ?_, ?_, ?_, ?_⟩
    · intro h B hB
      have := BlkOk.step (w := w) (w' := w) (wh := w) (wh' := w) (ok := okb S H L) (ok' := okb S' Hin L) (L := L) (L' := L) (p := fun _ => false) (fun b _ hb => ⟨hokb b hb, rfl⟩) (Shape.refl w) (fun _ _ => rfl) (fun _ _ => rfl) (s.blk h B (hin h B hB))
      rwa [Blk.scrub_none] at this
    · intro h q hn hq; exact .inr ⟨h, q, hn, hq, rfl⟩
    · intro h g q r hn hm hq hr e; exact s.inj h g q r (hlive h hn) (hlive g hm) hq hr e
    · intro h l hl
      simp only [S'] at hl
      split at hl
      · simpa using hl
      · simp at hl
  have hargs : RdArgs w (okb S' Hin L) L args' vs := by
    cases hf : fresh with
    | true =>
      obtain ⟨k1, k2⟩ := hfit.args s hvs
      refine ⟨k1, fun i a hi => ?_⟩
      obtain ⟨u, k3, k4⟩ := k2 i a hi
      refine ⟨u, k3, Rd.mono (fun b _ hb => ⟨?_, fun h q hn hq => hb.2 h q (hlive h hn) hn hq⟩) k4⟩
      show G b ∨ wr b
      left
      show if fresh = true then True else _
      rw [if_pos hf]; trivial
    | false =>
      rw [← hfr hf]
      obtain ⟨k1, k2⟩ := hvs
      exact ⟨k1, fun i a hi => let ⟨u, k3, k4⟩ := k2 i a hi; ⟨u, k3, Rd.mono (fun b _ hb => hokb b hb) k4⟩⟩
  refine (hac.2 S' w L vs (fun b h => .inl h) (fun h hh => by simp [S', hh]) ((hS.env.step s.keep).call fun b _ hb => hwr b hb) s' hargs).mono ?_
  rintro e w' ⟨u, L', r, H', rfl, s2, hr, hpost⟩
  obtain ⟨hnew, hsolid, hk⟩ := hK r H' hpost
  -- where the names lie behind the call
  let q : Nat → Bool := fun h => !liveB H' h
  let L2 : Loc := fun h => if liveB H' h = true then L' h else L h
  let H2 : Hp := Hp.over (H'.scrub q) (H.scrub p) Hin
  have hkeep : Keep w S.wr w' := s2.keep.mono fun b _ h => hwr b h
  have hpinned : ∀ h, pn h = true → L' h = L h := fun h hh => s2.pin h (L h) (by simp [S', hh])
  have live2 : ∀ h, H2 h ≠ none ↔ (H' h ≠ none ∨ (Hin h = none ∧ H h ≠ none)) := by
    intro h
    simp only [H2, Hp.over, Hp.scrub]
    cases h1 : H' h with
    | some B => simp
    | none =>
      cases h2 : Hin h with
      | some B => simp
      | none => simp
  have lb : ∀ h, liveB H' h = true ↔ H' h ≠ none := by
    intro h; simp only [liveB]; cases H' h <;> simp
  have L2in : ∀ h, H' h ≠ none → L2 h = L' h := fun h hh => by simp only [L2]; rw [if_pos ((lb h).2 hh)]
  have L2out : ∀ h, H' h = none → L2 h = L h := fun h hh => by
    simp only [L2]; rw [if_neg (by rw [lb]; simpa using hh)]
  have hL : ∀ h, p h = false → L2 h = L h := by
    intro h hp
    by_cases hh : H' h = none
    · exact L2out h hh
    · rw [L2in h hh]
      by_cases hi : Hin h = none
      · have := hnew h hh hi; simp [hp] at this
      · exact hpinned h (hp1 h hi hp)
  -- blocks of the callee's names: old ones of Hin, or new ones
  have hblk' : ∀ h q, H' h ≠ none → L' h = some q → wr q.1 := fun h q hn hq => s2.own h q hn hq
  have hrest : ∀ h q, H' h = none → Hin h = none → H h ≠ none → L h = some q → ¬ wr q.1 := by
    rintro h q h1 h2 h3 h4 (hw | ⟨g, r, hg, hr, e⟩)
    · have := hlt h q h3 h4; omega
    · have := s.inj g h r q (hlive g hg) h3 hr h4 e
      exact hg (this ▸ h2)
  have hsame : ∀ b, b < w.heap.size → okb S H L b → okb S H2 L2 b ∧ w'.heap[b]? = w.heap[b]? := by
    intro b hb ho
    have hnw : ¬ wr b := by
      rintro (h | ⟨h, r, hh, hr, e⟩)
      · omega
      · exact ho.2 h r (hlive h hh) hr e
    refine ⟨⟨ho.1, fun h r hn hr e => ?_⟩, s2.keep.blk b hb hnw⟩
    by_cases hh : H' h = none
    · rw [L2out h hh] at hr
      exact ho.2 h r (((live2 h).1 hn).resolve_left (by simpa using hh)).2 hr e
    · rw [L2in h hh] at hr
      exact hnw (e ▸ hblk' h r hh hr)
  -- what the callee's names and its result read as, for us
  have conv : ∀ b, b < w'.heap.size → okb S' H' L' b → fresh = false → okb S H2 L2 b := by
    intro b hb ho hf
    have hGw : okb S H L b ∨ wr b := by
      have := ho.1
      rcases this with h | h
      · left
        have h' : (if fresh = true then True else okb S H L b) := h
        rwa [if_neg (by simp [hf])] at h'
      · exact .inr h
    refine ⟨?_, fun h r hn hr e => ?_⟩
    · rcases hGw with h | h
      · exact h.1
      · exact S.sub b (hwr b h)
    · by_cases hh : H' h = none
      · rw [L2out h hh] at hr
        obtain ⟨h1, h2⟩ := ((live2 h).1 hn).resolve_left (by simpa using hh)
        rcases hGw with hg | hg
        · exact hg.2 h r h2 hr e
        · exact hrest h r hh h1 h2 hr (e ▸ hg)
      · rw [L2in h hh] at hr
        exact ho.2 h r hh hr e
  have hq : ∀ h, q h = false → L2 h = L' h := by
    intro h hh
    simp only [q, Bool.not_eq_false'] at hh
    exact L2in h ((lb h).1 hh)
  have s3 : Sim N.n w0 S w' tm L2 (A.scrub p) H2 := by
    refine s.step hkeep hsame hL ?_ ?_ ?_ ?_
    · intro h l hl
      by_cases hnp : N.pn h = true
      · exact hL h (hp2 h hnp)
      · simp [hS.free h (by simpa using hnp)] at hl
    · intro h B hB
      by_cases hh : H' h = none
      · have hB' : Hin h = none ∧ (H h).map (Blk.scrub p) = some B := by
          simp only [H2, Hp.over, Hp.scrub, hh, Option.map_none] at hB
          split at hB
          · simp at hB
          · rename_i hi; exact ⟨by simpa using hi, hB⟩
        obtain ⟨hi, hB'⟩ := hB'
        rw [L2out h hh]
        cases hH : H h with
        | none => simp [hH] at hB'
        | some B0 =>
          simp only [hH, Option.map_some, Option.some.injEq] at hB'
          subst hB'
          refine BlkOk.step hsame hkeep.shape hL (fun r hr => ?_) (s.blk h B0 hH)
          exact s2.keep.blk r.1 (hlt h r (by simp [hH]) hr) (hrest h r hh hi (by simp [hH]) hr)
      · rw [L2in h hh]
        cases hH' : H' h with
        | none => exact absurd hH' hh
        | some B0 =>
          simp only [H2, Hp.over, Hp.scrub, hH', Option.map_some, Option.some.injEq] at hB
          subst hB
          have hb0 := s2.blk h B0 hH'
          have hb1 : BlkOk w' w' (okb S H2 L2) L' (L' h) B0 := by
            cases hf : fresh with
            | true => exact hb0.solid ((hsolid hf).2 h B0 hH')
            | false =>
              have := BlkOk.step (w := w') (w' := w') (wh := w') (wh' := w') (ok := okb S' H' L') (ok' := okb S H2 L2) (L := L') (L' := L') (p := fun _ => false) (fun b hb ho => ⟨conv b hb ho hf, rfl⟩) (Shape.refl w') (fun _ _ => rfl) (fun _ _ => rfl) hb0
              rwa [Blk.scrub_none] at this
          exact BlkOk.step (p := q) (fun b _ hb => ⟨hb, rfl⟩) (Shape.refl w') hq (fun _ _ => rfl) hb1
    · intro h r hn hr
      by_cases hh : H' h = none
      · rw [L2out h hh] at hr
        exact s.own h r (((live2 h).1 hn).resolve_left (by simpa using hh)).2 hr
      · rw [L2in h hh] at hr
        exact hwr _ (hblk' h r hh hr)
    · intro h g r t hn hm hr ht e
      by_cases hh : H' h = none <;> by_cases hg : H' g = none
      · rw [L2out h hh] at hr; rw [L2out g hg] at ht
        exact s.inj h g r t (((live2 h).1 hn).resolve_left (by simpa using hh)).2 (((live2 g).1 hm).resolve_left (by simpa using hg)).2 hr ht e
      · rw [L2out h hh] at hr; rw [L2in g hg] at ht
        obtain ⟨h1, h2⟩ := ((live2 h).1 hn).resolve_left (by simpa using hh)
        exact absurd (e ▸ hblk' g t hg ht) (hrest h r hh h1 h2 hr)
      · rw [L2in h hh] at hr; rw [L2out g hg] at ht
        obtain ⟨h1, h2⟩ := ((live2 g).1 hm).resolve_left (by simpa using hg)
        exact absurd (e ▸ hblk' h r hh hr) (hrest g t hg h1 h2 ht)
      · rw [L2in h hh] at hr; rw [L2in g hg] at ht
        exact s2.inj h g r t hh hg hr ht e
  refine ⟨u, _, L2, _, H2, rfl, s3, ?_, hk⟩
  have hr1 : Rd w' (okb S H2 L2) L' r u := by
    cases hf : fresh with
    | true => exact Rd.solid _ _ _ (hsolid hf).1 hr
    | false => exact Rd.mono (fun b hb ho => conv b hb ho hf) hr
  exact Rd.step (p := q) (fun b _ hb => ⟨hb, rfl⟩) (Shape.refl w') r L' L2 u hq hr1

end
end Go.Av
end
/- What may be forgotten, frozen, renamed; contents of blocks by lists. -/
section
namespace Go.Av

def BFits (H : Hp) (D : Nat → Prop) : Blk → Blk → Prop
  | .cells n g, .cells m f => n = m ∧ ∀ i, i < n → Fits H D (g i) (f i)
  | .mp kv, .mp kv' => kv = kv'
  | _, _ => False

theorem BFits.refl (H : Hp) (D : Nat → Prop) (B : Blk) : BFits H D B B := by
  cases B with
  | cells n f => exact ⟨rfl, fun i _ => .refl _⟩
  | mp kv => rfl

def AV.ren (ρ : Nat → Nat) : AV → AV
  | .own h off sz n => .own (ρ h) off sz n
  | .ref h off => .ref (ρ h) off
  | .map h => .map (ρ h)
  | .agg n f => .agg n fun i => (f i).ren ρ
  | .tup n f => .tup n fun i => (f i).ren ρ
  | .clo g n f => .clo g n fun i => (f i).ren ρ
  | a => a
def Blk.ren (ρ : Nat → Nat) : Blk → Blk
  | .cells n f => .cells n fun i => (f i).ren ρ
  | .mp kv => .mp (kv.map fun x => (x.1, x.2.ren ρ))

theorem Rd.ren {w : World} {ok : Nat → Prop} {L : Loc} (ρ : Nat → Nat) : ∀ (a : AV) (u : Value), Rd w ok L (a.ren ρ) u → Rd w ok (fun h => L (ρ h)) a u := by
  intro a
  induction a with
  | v x => intro u h; exact h
  | list nn sz n f ih => intro u h; exact h
  | own h off sz n => intro u h; exact h
  | ref h off => intro u h; exact h
  | ptr n f ih => intro u h; exact h
  | agg n f ih => rintro u ⟨cs, hu, h1, h2⟩; exact ⟨cs, hu, h1, fun i hi => let ⟨c, k1, k2⟩ := h2 i hi; ⟨c, k1, ih i _ k2⟩⟩
  | tup n f ih => rintro u ⟨cs, hu, h1, h2⟩; exact ⟨cs, hu, h1, fun i hi => let ⟨c, k1, k2⟩ := h2 i hi; ⟨c, k1, ih i _ k2⟩⟩
  | clo g n f ih => rintro u ⟨cs, hu, h1, h2⟩; exact ⟨cs, hu, h1, fun i hi => let ⟨c, k1, k2⟩ := h2 i hi; ⟨c, k1, ih i _ k2⟩⟩
  | map h => intro u h; exact h
  | dead => intro u _; trivial

section
variable {N : Cx} {A A' : Fr} {H H' : Hp}

theorem Sub.refl (N : Cx) (A : Fr) (H : Hp) : Sub N A H A H := fun _ _ _ _ _ L s => ⟨L, s⟩
theorem Sub.trans {A2 : Fr} {H2 : Hp} (h : Sub N A H A2 H2) (k : Sub N A2 H2 A' H') : Sub N A H A' H' := fun w0 S hS w tm L s =>
  let ⟨L1, s1⟩ := h w0 S hS w tm L s
  k w0 S hS w tm L1 s1

/-- Forget, and freeze the names of D. -/
theorem Sub.fits (D : Nat → Prop) (hA : ∀ i c, A'.get i = some c → ∃ a, A.get i = some a ∧ Fits H D a c) (hH : ∀ h B', H' h = some B' → ¬ D h ∧ ∃ B, H h = some B ∧ BFits H D B B') : Sub N A H A' H' := by
  intro w0 S hS w tm L s
  have live : ∀ h, H' h ≠ none → ¬ D h ∧ H h ≠ none := by
    intro h hn
    cases hB : H' h with
    | none => exact absurd hB hn
    | some B => obtain ⟨h1, B0, h2, _⟩ := hH h B hB; exact ⟨h1, by simp [h2]⟩
  have hok : ∀ b, okD S H L D b → okb S H' L b := fun b hb => ⟨hb.1, fun h q hn hq => hb.2 h q (live h hn).2 (live h hn).1 hq⟩
  have hok' : ∀ b, okb S H L b → okb S H' L b := fun b hb => ⟨hb.1, fun h q hn hq => hb.2 h q (live h hn).2 hq⟩
  refine ⟨L, s.keep, s.size, fun i c hc => ?_, fun h B' hB' => ?_, fun h q hn hq => s.own h q (live h hn).2 hq, fun h g q r hn hm hq hr e => s.inj h g q r (live h hn).2 (live g hm).2 hq hr e, s.pin⟩
  · obtain ⟨a, h1, h2⟩ := hA i c hc
    exact Rd.mono (fun b _ hb => hok b hb) (h2.rd s _ (s.slot i a h1))
  · obtain ⟨_, B, h1, h2⟩ := hH h B' hB'
    have hb := s.blk h B h1
    cases B with
    | cells n g =>
      cases B' with
      | cells m f =>
        obtain ⟨rfl, hf⟩ := h2
        cases hl : L h with
        | none => rw [hl] at hb; exact hb
        | some q =>
          rw [hl] at hb
          obtain ⟨cs, e, k1, k2, k3⟩ := hb
          exact ⟨cs, e, k1, k2, fun i hi => let ⟨c, k4, k5⟩ := k3 i hi; ⟨c, k4, Rd.mono (fun b _ hb => hok b hb) ((hf i hi).rd s _ k5)⟩⟩
      | mp kv => exact h2.elim
    | mp kv =>
      cases B' with
      | cells m f => exact h2.elim
      | mp kv' =>
        have e : kv = kv' := h2
        subst e
        have := BlkOk.step (w := w) (w' := w) (wh := w) (wh' := w) (ok := okb S H L) (ok' := okb S H' L) (L := L) (L' := L) (p := fun _ => false) (fun b _ hb => ⟨hok' b hb, rfl⟩) (Shape.refl w) (fun _ _ => rfl) (fun _ _ => rfl) hb
        rwa [Blk.scrub_none] at this

/-- Forget. -/
theorem Sub.mk (hA : ∀ i c, A'.get i = some c → A.get i = some c) (hH : ∀ h B, H' h = some B → H h = some B) : Sub N A H A' H' :=
  Sub.fits (fun _ => False) (fun i c hc => ⟨c, hA i c hc, .refl c⟩) (fun h B hB => ⟨id, B, hH h B hB, BFits.refl _ _ _⟩)

/-- Every pair of a frame stands in another. -/
def Fr.sub (A : Fr) : Fr → Prop
  | [] => True
  | (i, a) :: r => A.get i = some a ∧ Fr.sub A r
theorem Fr.sub_get : ∀ (A' : Fr) (A : Fr), Fr.sub A A' → ∀ i c, A'.get i = some c → A.get i = some c
  | [], A, _, i, c, h => by simp [Fr.get] at h
  | (j, a) :: r, A, h, i, c, hc => by
    simp only [Fr.get] at hc
    split at hc
    · rename_i e; subst e; simp only [Option.some.injEq] at hc; subst hc; exact h.1
    · exact Fr.sub_get r A h.2 i c hc

/-- Each pair of a frame fits one of another. -/
def Fr.fit (H : Hp) (D : Nat → Prop) (A : Fr) : Fr → Prop
  | [] => True
  | (i, c) :: r => (∃ a, A.get i = some a ∧ Fits H D a c) ∧ Fr.fit H D A r
theorem Fr.fit_get {D : Nat → Prop} : ∀ (A' : Fr) (A : Fr), Fr.fit H D A A' → ∀ i c, A'.get i = some c → ∃ a, A.get i = some a ∧ Fits H D a c
  | [], A, _, i, c, h => by simp [Fr.get] at h
  | (j, a) :: r, A, h, i, c, hc => by
    simp only [Fr.get] at hc
    split at hc
    · rename_i e; subst e; simp only [Option.some.injEq] at hc; subst hc; exact h.1
    · exact Fr.fit_get r A h.2 i c hc

theorem Sub.to (hA : Fr.sub A A') (hH : ∀ h B, H' h = some B → H h = some B) : Sub N A H A' H' := Sub.mk (Fr.sub_get A' A hA) hH
/-- Forget, the heap staying. -/
theorem Sub.fr (hA : Fr.sub A A') : Sub N A H A' H := Sub.to hA fun _ _ h => h

/-- Names turned: the name h now means what ρ h meant. -/
theorem Sub.ren (ρ : Nat → Nat) (hA : ∀ i c, A'.get i = some c → A.get i = some (c.ren ρ)) (hH : ∀ h B, H' h = some B → H (ρ h) = some (B.ren ρ))
    (hinj : ∀ h g, H' h ≠ none → H' g ≠ none → ρ h = ρ g → h = g) (hpn : ∀ h, N.pn h = true → ρ h = h) : Sub N A H A' H' := by
  intro w0 S hS w tm L s
  have live : ∀ h, H' h ≠ none → H (ρ h) ≠ none := by
    intro h hn
    cases hB : H' h with
    | none => exact absurd hB hn
    | some B => rw [hH h B hB]; simp
  have hok : ∀ b, okb S H L b → okb S H' (fun h => L (ρ h)) b := fun b hb => ⟨hb.1, fun h q hn hq => hb.2 (ρ h) q (live h hn) hq⟩
  refine ⟨fun h => L (ρ h), s.keep, s.size, fun i c hc => ?_, fun h B hB => ?_, fun h q hn hq => s.own (ρ h) q (live h hn) hq,
    fun h g q r hn hm hq hr e => hinj h g hn hm (s.inj (ρ h) (ρ g) q r (live h hn) (live g hm) hq hr e), fun h l hl => ?_⟩
  · exact Rd.mono (fun b _ hb => hok b hb) (Rd.ren ρ c _ (s.slot i _ (hA i c hc)))
  · have hb := s.blk (ρ h) _ (hH h B hB)
    cases B with
    | cells n f =>
      cases hl : L (ρ h) with
      | none => simp only [hl, BlkOk, Blk.ren] at hb; simp only [BlkOk]; exact hb
      | some q =>
        rw [hl] at hb
        obtain ⟨cs, e, k1, k2, k3⟩ := hb
        exact ⟨cs, e, k1, k2, fun i hi => let ⟨c, k4, k5⟩ := k3 i hi; ⟨c, k4, Rd.mono (fun b _ hb => hok b hb) (Rd.ren ρ _ _ k5)⟩⟩
    | mp kv =>
      cases hl : L (ρ h) with
      | none => rw [hl] at hb; exact hb.elim
      | some q =>
        rw [hl] at hb
        obtain ⟨es, c, k1, k2, k3⟩ := hb
        refine ⟨es, c, k1, by simpa using k2, fun i e he => ?_⟩
        obtain ⟨a, k4, k5⟩ := k3 i e he
        simp only [List.getElem?_map] at k4
        cases hk : kv[i]? with
        | none => simp [hk] at k4
        | some x =>
          simp only [hk, Option.map_some, Option.some.injEq, Prod.mk.injEq] at k4
          obtain ⟨k6, k7⟩ := k4
          subst k7
          exact ⟨x.2, by simp [← k6], Rd.mono (fun b _ hb => hok b hb) (Rd.ren ρ _ _ k5)⟩
  · by_cases hn : N.pn h = true
    · rw [hpn h hn]; exact s.pin h l hl
    · simp [hS.free h (by simpa using hn)] at hl

/-- A slot that holds nil: a slice of our own, with nothing in it. -/
theorem Sub.nil {i : Nat} (d sz : Nat) (f : Nat → AV) (hi : A.get i = some (.v (.slice none 0 0))) (hd : N.pn d = false) :
    Sub N A H ((i, .own d 0 sz 0) :: A.scrub (· == d)) ((H.upd d (.cells 0 f)).scrub (· == d)) := by
  intro w0 S hS w tm L s
  have s2 := s.nil hS d f hd
  refine ⟨_, s2.keep, s2.size, fun j a hj => ?_, s2.blk, s2.own, s2.inj, s2.pin⟩
  simp only [Fr.get] at hj
  split at hj
  · rename_i e
    subst e
    simp only [Option.some.injEq] at hj
    subst hj
    have : tm.getD i undef = .slice none 0 0 := s.slot i _ hi
    simp [Rd, this]
  · exact s2.slot j a hj

end

/- contents by lists -/
def cM {α : Type} (g : α → AV) (d : α) (xs : List α) : Nat → AV := fun i => g (xs.getD i d)
def iv (n : Int) : AV := .v (.int .i64 n)
def bv (b : Bool) : AV := .v (.bool b)
def sv (s : ByteArray) : AV := .v (.string s)
def uv (n : UInt8) : AV := .v (.int .u8 n.toNat)
/-- A slice of int64 that is only read. -/
def ints (xs : List Int) : AV := .list false 1 xs.length (cM iv 0 xs)
/-- A slice of slices of int64 that is only read. -/
def intss (xss : List (List Int)) : AV := .list false 1 xss.length (cM ints [] xss)

theorem getD_append {α : Type} (xs ys : List α) (d : α) (j : Nat) : (xs ++ ys).getD j d = if j < xs.length then xs.getD j d else ys.getD (j - xs.length) d := by
  simp only [List.getD_eq_getElem?_getD, List.getElem?_append]
  split <;> rfl
theorem apF_cM {α : Type} (g : α → AV) (d : α) (xs ys : List α) : apF xs.length (cM g d xs) (cM g d ys) = cM g d (xs ++ ys) := by
  funext j
  simp only [apF, cM, getD_append]
  split <;> rfl
theorem shF_zero (f : Nat → AV) : shF 0 f = f := by funext j; simp [shF]
theorem shF_cM {α : Type} (g : α → AV) (d : α) (xs : List α) (k : Nat) : shF k (cM g d xs) = cM g d (xs.drop k) := by
  funext j; simp [shF, cM, List.getD_eq_getElem?_getD, List.getElem?_drop]
theorem setF_cM {α : Type} (g : α → AV) (d : α) (xs : List α) (i : Nat) (x : α) (h : i < xs.length) : setF (cM g d xs) i (g x) = cM g d (xs.set i x) := by
  funext j
  simp only [setF, cM, List.getD_eq_getElem?_getD, List.getElem?_set]
  by_cases hj : j = i
  · subst hj; simp [h]
  · rw [if_neg hj, if_neg (by omega)]

end Go.Av
end
/- The set of rewriting rules by which a region's proposition is worked out. -/
section
namespace Go.Av

@[go_sem] theorem Ob_true (q : Prop) : Ob True q = q := by simp [Ob]
@[go_sem] theorem Ob_and (p q r : Prop) : Ob (p ∧ q) r = Ob p (Ob q r) := by simp [Ob, and_assoc]
@[go_sem] theorem BrP_true (x y : Prop) : BrP True x y = x := by simp [BrP]
@[go_sem] theorem BrP_false (x y : Prop) : BrP False x y = y := by simp [BrP]
@[go_sem] theorem Br_beq {α : Type} [BEq α] [LawfulBEq α] (a b : α) (x y : Prop) : Br (a == b) x y = BrP (a = b) x y := by
  by_cases h : a = b
  · simp [h, Br, BrP]
  · simp [h, Br, BrP]

theorem Hp.upd_app (H : Hp) (h : Nat) (b : Blk) (g : Nat) : (H.upd h b) g = if g = h then some b else H g := rfl
theorem Hp.emp_app (g : Nat) : Hp.emp g = none := rfl
theorem Hp.scrub_upd (H : Hp) (h : Nat) (b : Blk) (p : Nat → Bool) : (H.upd h b).scrub p = (H.scrub p).upd h (b.scrub p) := by
  funext g; simp only [Hp.scrub, Hp.upd]; split <;> rfl
theorem Hp.scrub_emp (p : Nat → Bool) : Hp.emp.scrub p = Hp.emp := rfl
theorem Hp.upd_upd (H : Hp) (h : Nat) (b c : Blk) : (H.upd h b).upd h c = H.upd h c := by
  funext g; simp only [Hp.upd]; split <;> rfl

/-- The cells of a block, each without the names of p. -/
def scF (p : Nat → Bool) (f : Nat → AV) : Nat → AV := fun i => (f i).scrub p
theorem Blk.scrub_cells (p : Nat → Bool) (n : Nat) (f : Nat → AV) : (Blk.cells n f).scrub p = .cells n (scF p f) := rfl
theorem scF_iv (p : Nat → Bool) (d : Int) (xs : List (Int)) : scF p (cM iv d xs) = cM iv d xs := rfl
theorem scF_bv (p : Nat → Bool) (d : Bool) (xs : List (Bool)) : scF p (cM bv d xs) = cM bv d xs := rfl
theorem scF_sv (p : Nat → Bool) (d : ByteArray) (xs : List (ByteArray)) : scF p (cM sv d xs) = cM sv d xs := rfl
theorem scF_uv (p : Nat → Bool) (d : UInt8) (xs : List (UInt8)) : scF p (cM uv d xs) = cM uv d xs := rfl
theorem scF_ints (p : Nat → Bool) (d : List Int) (xs : List (List Int)) : scF p (cM ints d xs) = cM ints d xs := rfl
theorem scF_intss (p : Nat → Bool) (d : List (List Int)) (xs : List (List (List Int))) : scF p (cM intss d xs) = cM intss d xs := rfl
theorem scF_zF (p : Nat → Bool) (zs : List Value) : scF p (zF zs) = zF zs := rfl
theorem scF_setF (p : Nat → Bool) (f : Nat → AV) (i : Nat) (x : AV) : scF p (setF f i x) = setF (scF p f) i (x.scrub p) := by
  funext j; simp only [scF, setF]; split <;> rfl
theorem scF_setsF (p : Nat → Bool) (f : Nat → AV) (i n : Nat) (g : Nat → AV) : scF p (setsF f i n g) = setsF (scF p f) i n (scF p g) := by
  funext j; simp only [scF, setsF]; split <;> rfl
theorem scF_apF (p : Nat → Bool) (n : Nat) (f g : Nat → AV) : scF p (apF n f g) = apF n (scF p f) (scF p g) := by
  funext j; simp only [scF, apF]; split <;> rfl
theorem scF_shF (p : Nat → Bool) (n : Nat) (f : Nat → AV) : scF p (shF n f) = shF n (scF p f) := rfl
theorem scF_const (p : Nat → Bool) (x : AV) : scF p (fun _ => x) = fun _ => x.scrub p := rfl

theorem cM_iv_app (xs : List Int) (i : Nat) : cM iv 0 xs i = .v (.int .i64 (xs.getD i 0)) := rfl
theorem cM_bv_app (xs : List Bool) (i : Nat) : cM bv false xs i = .v (.bool (xs.getD i false)) := rfl
theorem cM_ints_app (xs : List (List Int)) (i : Nat) : cM ints [] xs i = .list false 1 (xs.getD i []).length (cM iv 0 (xs.getD i [])) := rfl

theorem cM_rep {α : Type} (g : α → AV) (d : α) (n : Nat) : cM g d (List.replicate n d) = fun _ => g d := by
  funext i
  simp only [cM, List.getD_eq_getElem?_getD, List.getElem?_replicate]
  split <;> rfl
/-- A block that make lays: zeros. -/
theorem zF_iv (n : Nat) : Blk.cells n (zF [.int .i64 0]) = .cells n (cM iv 0 (List.replicate n 0)) := by
  rw [cM_rep]; congr 1; funext i; simp [zF, iv, Nat.mod_one]
theorem zF_bv (n : Nat) : Blk.cells n (zF [.bool false]) = .cells n (cM bv false (List.replicate n false)) := by
  rw [cM_rep]; congr 1; funext i; simp [zF, bv, Nat.mod_one]

/-- Literal rows. -/
theorem lit1 (a : Int) : setF (zF [.int .i64 0]) 0 (.v (.int .i64 a)) = cM iv 0 [a] := by
  funext j
  match j with
  | 0 => rfl
  | j + 1 => simp [setF, zF, cM, iv, Nat.mod_one]
theorem lit2 (a b : Int) : setF (cM iv 0 [a]) 1 (.v (.int .i64 b)) = cM iv 0 [a, b] := by
  funext j
  match j with
  | 0 => rfl
  | 1 => rfl
  | j + 2 => simp [setF, cM, iv]
theorem setF_iv (xs : List Int) (i : Nat) (x : Int) (h : i < xs.length) : setF (cM iv 0 xs) i (.v (.int .i64 x)) = cM iv 0 (xs.set i x) := setF_cM iv 0 xs i x h
theorem setF_bv (xs : List Bool) (i : Nat) (x : Bool) (h : i < xs.length) : setF (cM bv false xs) i (.v (.bool x)) = cM bv false (xs.set i x) := setF_cM bv false xs i x h

theorem wrap64 {x : Int} (h : -9223372036854775808 ≤ x ∧ x ≤ 9223372036854775807) : IntKind.i64.wrap x = x := by
  rw [IntKind.wrap_i64]; omega

theorem vecF_0 (a : AV) (l : List AV) : vecF (a :: l) 0 = a := rfl
theorem vecF_1 (a b : AV) (l : List AV) : vecF (a :: b :: l) 1 = b := rfl
theorem vecF_2 (a b c : AV) (l : List AV) : vecF (a :: b :: c :: l) 2 = c := rfl
theorem withArgs_some (l : List AV) (K : List AV → Prop) : withArgs (some l) K = K l := rfl

/-- A sequence, what follows behind a name. -/
theorem awp_seqK {P : Program} {N : Cx} {Q : Exit → Fr → Hp → Prop} {A : Fr} {H : Hp} {x y : Code} (h : ∀ K : Fr → Hp → Prop, (∀ A H, AWP P N y Q A H → K A H) → AWP P N x (thenA K Q) A H) : AWP P N (.seq x y) Q A H :=
  awp_seq (h _ fun _ _ h => h)

theorem thenA_normal (K : Fr → Hp → Prop) (Q : Exit → Fr → Hp → Prop) (A : Fr) (H : Hp) : thenA K Q .normal A H = K A H := rfl
theorem thenA_ret (K : Fr → Hp → Prop) (Q : Exit → Fr → Hp → Prop) (A : Fr) (H : Hp) : thenA K Q .ret A H = Q .ret A H := rfl
theorem thenA_exit (K : Fr → Hp → Prop) (Q : Exit → Fr → Hp → Prop) (i : Nat) (A : Fr) (H : Hp) : thenA K Q (.exit i) A H = Q (.exit i) A H := rfl
theorem blkA_normal (i : Nat) (Q : Exit → Fr → Hp → Prop) (A : Fr) (H : Hp) : blkA i Q .normal A H = Q .normal A H := rfl
theorem blkA_ret (i : Nat) (Q : Exit → Fr → Hp → Prop) (A : Fr) (H : Hp) : blkA i Q .ret A H = Q .ret A H := rfl
theorem blkA_exit (i j : Nat) (Q : Exit → Fr → Hp → Prop) (A : Fr) (H : Hp) : blkA i Q (.exit j) A H = if j = i then Q .normal A H else Q (.exit j) A H := rfl

theorem awp_condP {P : Program} {N : Cx} {Q : Exit → Fr → Hp → Prop} {A : Fr} {H : Hp} {c : Operand} {x y : Code} {t : Bool} (hc : A.ev c = some (.v (.bool t))) (h : Br t (AWP P N x Q A H) (AWP P N y Q A H)) : AWP P N (.cond c x y) Q A H :=
  awp_cond hc h.1 h.2

attribute [go_sem] thenA_normal thenA_ret thenA_exit blkA_normal blkA_ret blkA_exit
theorem Fr_scrub_nil (p : Nat → Bool) : Fr.scrub p [] = [] := rfl
theorem Fr_scrub_cons (p : Nat → Bool) (i : Tmp) (a : AV) (r : Fr) : Fr.scrub p ((i, a) :: r) = (i, a.scrub p) :: Fr.scrub p r := rfl
theorem scrub_v (p : Nat → Bool) (x : Value) : AV.scrub p (.v x) = .v x := rfl
theorem scrub_list (p : Nat → Bool) (nn : Bool) (sz n : Nat) (f : Nat → AV) : AV.scrub p (.list nn sz n f) = .list nn sz n f := rfl
theorem scrub_own (p : Nat → Bool) (h off sz n : Nat) : AV.scrub p (.own h off sz n) = if p h then .dead else .own h off sz n := rfl
theorem scrub_ref (p : Nat → Bool) (h off : Nat) : AV.scrub p (.ref h off) = if p h then .dead else .ref h off := rfl
theorem scrub_ptr (p : Nat → Bool) (n : Nat) (f : Nat → AV) : AV.scrub p (.ptr n f) = .ptr n f := rfl
theorem scrub_map (p : Nat → Bool) (h : Nat) : AV.scrub p (.map h) = if p h then .dead else .map h := rfl
theorem scrub_dead (p : Nat → Bool) : AV.scrub p .dead = .dead := rfl
theorem scrub_agg (p : Nat → Bool) (n : Nat) (f : Nat → AV) : AV.scrub p (.agg n f) = .agg n (scF p f) := rfl
theorem scrub_tup (p : Nat → Bool) (n : Nat) (f : Nat → AV) : AV.scrub p (.tup n f) = .tup n (scF p f) := rfl
theorem scrub_clo (p : Nat → Bool) (g n : Nat) (f : Nat → AV) : AV.scrub p (.clo g n f) = .clo g n (scF p f) := rfl
attribute [go_sem] Fr_scrub_nil Fr_scrub_cons scrub_v scrub_list scrub_own scrub_ref scrub_ptr scrub_map scrub_dead scrub_agg scrub_tup scrub_clo
attribute [go_sem] opsVC opVC bcallVC evArgs Fr.ev Fr.get putd calleeOf bin2VC nilIfVC binVC intVC shVC strVC boolVC nilVC nilSl nilPt unVC lenVC lenTOk ixVC ldVC stVC aggOf AV.one Value.oneCell' srcOf apVC cpVC mkVC alVC boxVC
  partF partW fillF fillOk evParts bsVC boundOf opOpt slVC faVC fdVC bdVC chVC cvVC mmVC ptrOk resVC Fr.sub
attribute [go_sem] Hp.upd_app Hp.emp_app Hp.scrub_upd Hp.scrub_emp Hp.upd_upd Blk.scrub_cells scF_iv scF_bv scF_sv scF_uv scF_ints scF_intss scF_zF scF_setF scF_setsF scF_apF scF_shF scF_const
  cM_iv_app cM_bv_app cM_ints_app zF_iv zF_bv lit1 lit2 setF_iv setF_bv apF_cM shF_zero shF_cM vecF_0 vecF_1 vecF_2 withArgs_some
  List.map_cons List.map_nil List.getD_cons_zero List.getD_cons_succ Option.getD_some Option.getD_none Option.map_some Option.map_none Nat.mul_one Nat.add_zero Nat.zero_add Nat.zero_mul Int.toNat_natCast
  and_true true_and Bool.not_true Bool.not_false and_self

theorem kvGet_iv (s : ByteArray) (l : List (ByteArray × Int)) : kvGet s (.v (.int .i64 0)) (mS iv l) = .v (.int .i64 ((lkO s l).getD 0)) := kvGet_mS iv s 0 l
theorem kiGet_iv (s : Int) (l : List (Int × Int)) : kiGet s (.v (.int .i64 0)) (mI iv l) = .v (.int .i64 ((lkI s l).getD 0)) := kiGet_mI iv s 0 l
theorem kvGet_bv (s : ByteArray) (l : List (ByteArray × Bool)) : kvGet s (.v (.bool false)) (mS bv l) = .v (.bool ((lkO s l).getD false)) := kvGet_mS bv s false l
theorem mS_snoc_iv (l : List (ByteArray × Int)) (s : ByteArray) (x : Int) : mS iv l ++ [(.string s, .v (.int .i64 x))] = mS iv (l ++ [(s, x)]) := mS_snoc iv l s x
theorem mS_snoc_bv (l : List (ByteArray × Bool)) (s : ByteArray) (x : Bool) : mS bv l ++ [(.string s, .v (.bool x))] = mS bv (l ++ [(s, x)]) := mS_snoc bv l s x
theorem mI_snoc_iv (l : List (Int × Int)) (s : Int) (x : Int) : mI iv l ++ [(.int .i64 s, .v (.int .i64 x))] = mI iv (l ++ [(s, x)]) := mI_snoc iv l s x
theorem mI_scrub_iv (p : Nat → Bool) (l : List (Int × Int)) : (mI iv l).map (fun x => (x.1, x.2.scrub p)) = mI iv l := by
  unfold mI; rw [List.map_map]; rfl
theorem Blk.scrub_mp (p : Nat → Bool) (kv : List (Value × AV)) : (Blk.mp kv).scrub p = .mp (kv.map fun x => (x.1, x.2.scrub p)) := rfl
theorem mS_scrub_iv (p : Nat → Bool) (l : List (ByteArray × Int)) : (mS iv l).map (fun x => (x.1, x.2.scrub p)) = mS iv l := by
  unfold mS; rw [List.map_map]; rfl
theorem mS_scrub_bv (p : Nat → Bool) (l : List (ByteArray × Bool)) : (mS bv l).map (fun x => (x.1, x.2.scrub p)) = mS bv l := by
  unfold mS; rw [List.map_map]; rfl
attribute [go_sem] lkVC lksVC lkiVC muVC musVC muiVC mmkVC azVC kvInt_mI kiGet_iv kiHas_mI mI_snoc_iv mI_scrub_iv kvStr_mS kvGet_iv kvGet_bv kvHas_mS mS_snoc_iv mS_snoc_bv Blk.scrub_mp mS_scrub_iv mS_scrub_bv

end Go.Av
end
/- Ends of functions, calls: the usual forms. -/
section
namespace Go.Av

theorem CallG_congr {P : Program} {N : Cx} {f : FuncId} {args args' : List AV} {A : Fr} {H : Hp} {K : AV → Fr → Hp → Prop} (h : args = args') : CallG P N f args A H K = CallG P N f args' A H K := by rw [h]
attribute [congr] CallG_congr
theorem AWP_congr {P : Program} {N : Cx} {c : Code} {Q : Exit → Fr → Hp → Prop} {A A' : Fr} {H H' : Hp} (h : A = A') (k : H = H') : AWP P N c Q A H = AWP P N c Q A' H' := by rw [h, k]
attribute [congr] AWP_congr

/-- A result that holds no name, and no memory of its own. -/
def retV (a : AV) : AV → Hp → Prop := fun r H => r = a ∧ H = Hp.emp
/-- A new row of int64. -/
def retI (d : Nat) (xs : List Int) : AV → Hp → Prop := fun r H => r = .own d 0 1 xs.length ∧ H = Hp.emp.upd d (.cells xs.length (cM iv 0 xs))
/-- A new row of int64, and a bool. -/
def retIB (d : Nat) (xs : List Int) (b : Bool) : AV → Hp → Prop := fun r H => r = .tup 2 (vecF [.own d 0 1 xs.length, .v (.bool b)]) ∧ H = Hp.emp.upd d (.cells xs.length (cM iv 0 xs))

section
variable {P : Program} {N : Cx} {A : Fr} {H : Hp} {fn : Func}

theorem Sub.kill (N : Cx) (A : Fr) (H : Hp) : Sub N A H A Hp.emp := Sub.mk (fun _ _ h => h) (fun h B hB => by simp [Hp.emp] at hB)

theorem end_retV {t : Tmp} {a : AV} (hr : fn.results.toList = [.tmp t]) (h : A.get t = some a) : endQ P N fn (retV a) .ret A H :=
  ⟨A, Hp.emp, Sub.kill N A H, by rw [hr]; simp only [resVC, h]; exact ⟨rfl, rfl⟩⟩
theorem upd_some {h d : Nat} {b B : Blk} (k : (Hp.emp.upd d b) h = some B) : h = d ∧ B = b := by
  simp only [Hp.upd, Hp.emp] at k
  split at k
  · simp only [Option.some.injEq] at k; exact ⟨by assumption, k.symm⟩
  · simp at k

/-- A name's row under another name: all else forgotten. -/
theorem Sub.one {i : Nat} {h n m d : Nat} {f : Nat → AV} (hA : A.get i = some (.own h 0 1 n)) (hH : H h = some (.cells m f)) (hf : ∀ ρ, (Blk.cells m f).ren ρ = .cells m f) (hpn : N.pn = fun _ => false) :
    Sub N A H [(i, .own d 0 1 n)] (Hp.emp.upd d (.cells m f)) := by
  refine Sub.ren (fun g => if g = d then h else g) ?_ ?_ ?_ ?_
  · intro j c hc
    simp only [Fr.get] at hc
    split at hc
    · rename_i e; subst e; simp only [Option.some.injEq] at hc; subst hc; simpa [AV.ren] using hA
    · simp at hc
  · intro g B hB
    obtain ⟨rfl, rfl⟩ := upd_some hB
    simp only [if_true, hf]; exact hH
  · intro g g' h1 h2 _
    cases e1 : (Hp.emp.upd d (.cells m f)) g with
    | none => exact absurd e1 h1
    | some B =>
      cases e2 : (Hp.emp.upd d (.cells m f)) g' with
      | none => exact absurd e2 h2
      | some B' => rw [(upd_some e1).1, (upd_some e2).1]
  · intro g hg; simp [hpn] at hg

theorem end_retI {t : Tmp} {h d m : Nat} {xs : List Int} (hr : fn.results.toList = [.tmp t]) (hA : A.get t = some (.own h 0 1 m)) (hH : H h = some (.cells m (cM iv 0 xs))) (hm : m = xs.length) (hpn : N.pn = fun _ => false) :
    endQ P N fn (retI d xs) .ret A H := by
  subst hm
  refine ⟨_, _, Sub.one (d := d) hA hH (fun _ => rfl) hpn, ?_⟩
  rw [hr]; simp only [resVC, Fr.get]; exact ⟨rfl, rfl⟩

theorem Sub.one' {i j : Nat} {h n m d : Nat} {b : Bool} {f : Nat → AV} (hA : A.get i = some (.own h 0 1 n)) (hB : A.get j = some (.v (.bool b))) (hH : H h = some (.cells m f)) (hf : ∀ ρ, (Blk.cells m f).ren ρ = .cells m f) (hpn : N.pn = fun _ => false) :
    Sub N A H [(i, .own d 0 1 n), (j, .v (.bool b))] (Hp.emp.upd d (.cells m f)) := by
  refine Sub.ren (fun g => if g = d then h else g) ?_ ?_ ?_ ?_
  · intro k c hc
    simp only [Fr.get] at hc
    split at hc
    · rename_i e; subst e; simp only [Option.some.injEq] at hc; subst hc; simpa [AV.ren] using hA
    · split at hc
      · rename_i e; subst e; simp only [Option.some.injEq] at hc; subst hc; simpa [AV.ren] using hB
      · simp at hc
  · intro g B hB
    obtain ⟨rfl, rfl⟩ := upd_some hB
    simp only [if_true, hf]; exact hH
  · intro g g' h1 h2 _
    cases e1 : (Hp.emp.upd d (.cells m f)) g with
    | none => exact absurd e1 h1
    | some B =>
      cases e2 : (Hp.emp.upd d (.cells m f)) g' with
      | none => exact absurd e2 h2
      | some B' => rw [(upd_some e1).1, (upd_some e2).1]
  · intro g hg; simp [hpn] at hg

theorem end_retIB {t u : Tmp} {h d m : Nat} {b : Bool} {xs : List Int} (hr : fn.results.toList = [.tmp t, .tmp u]) (htu : t ≠ u) (hA : A.get t = some (.own h 0 1 m)) (hB : A.get u = some (.v (.bool b))) (hH : H h = some (.cells m (cM iv 0 xs))) (hm : m = xs.length) (hpn : N.pn = fun _ => false) :
    endQ P N fn (retIB d xs b) .ret A H := by
  subst hm
  refine ⟨_, _, Sub.one' (d := d) hA hB hH (fun _ => rfl) hpn, ?_⟩
  rw [hr]; simp only [resVC, Fr.get, htu, if_true, if_false, withA_some]; exact ⟨rfl, rfl⟩
theorem end_retIB_nil {t u : Tmp} {d : Nat} {b : Bool} (hr : fn.results.toList = [.tmp t, .tmp u]) (htu : t ≠ u) (hA : A.get t = some (.v (.slice none 0 0))) (hB : A.get u = some (.v (.bool b))) (hpn : N.pn = fun _ => false) : endQ P N fn (retIB d [] b) .ret A H := by
  refine ⟨[(t, .own d 0 1 0), (u, .v (.bool b))], _, (Sub.nil (N := N) d 1 (cM iv 0 []) hA (by simp [hpn])).trans (Sub.to (H' := Hp.emp.upd d (.cells 0 (cM iv 0 []))) ?_ ?_), ?_⟩
  · simp only [Fr.sub, Fr.get, Fr.get_scrub, htu, if_true, if_false, hB, Option.map_some, AV.scrub, and_self]
  · intro h B hB
    obtain ⟨rfl, rfl⟩ := upd_some hB
    simp [Hp.scrub, Hp.upd, Blk.scrub, cM, iv, AV.scrub]
    rfl
  · rw [hr]; simp only [resVC, Fr.get, htu, if_true, if_false, withA_some]; exact ⟨rfl, rfl⟩

/- calls -/
theorem over_emp (p : Nat → Bool) (H : Hp) : Hp.over (Hp.emp.scrub p) H Hp.emp = H := by
  funext h; simp [Hp.over, Hp.scrub, Hp.emp]

/-- A call that hands back a value without memory of its own; what we own may be handed over to be read. -/
theorem call_V {f : FuncId} {args args' : List AV} {a : AV} {pn : Nat → Bool} {K : AV → Fr → Hp → Prop} (hac : AC P f args' Hp.emp pn (retV a)) (ha : a.solid) (hpl : a.scrub (fun _ => true) = a) (hfit : FitsL H (fun _ => True) args args')
    (hK : K a A H) : CallG P N f args A H K := by
  refine callG_of hac (fun _ => false) true (by simp [Hp.emp]) (by simpa [Hp.emp] using hfit) (by simp) (by simp [Hp.emp]) (by simp) ?_
  rintro r H' ⟨rfl, rfl⟩
  refine ⟨by simp [Hp.emp], fun _ => ⟨ha, by simp [Hp.emp]⟩, ?_⟩
  have e1 : (fun h => !liveB Hp.emp h) = fun _ => true := by funext h; simp [liveB, Hp.emp]
  rw [e1, hpl, Fr.scrub_none, Hp.scrub_none]
  have e2 : Hp.over (Hp.emp.scrub fun _ => true) H Hp.emp = H := over_emp _ H
  rw [e2]; exact hK

theorem over_upd (H : Hp) (d : Nat) (B : Blk) (q : Nat → Bool) : Hp.over ((Hp.emp.upd d B).scrub q) H Hp.emp = H.upd d (B.scrub q) := by
  funext h
  simp only [Hp.over, Hp.scrub, Hp.upd, Hp.emp]
  by_cases hd : h = d <;> simp [hd]

theorem call_I {f : FuncId} {args args' : List AV} {d : Nat} {xs : List Int} {pn : Nat → Bool} {K : AV → Fr → Hp → Prop} (hac : AC P f args' Hp.emp pn (retI d xs)) (hd : N.pn d = false) (hfit : FitsL H (fun _ => True) args args')
    (hK : K (.own d 0 1 xs.length) (A.scrub (· == d)) ((H.scrub (· == d)).upd d (.cells xs.length (cM iv 0 xs)))) : CallG P N f args A H K := by
  refine callG_of hac (· == d) true (by simp [Hp.emp]) (by simpa [Hp.emp] using hfit) (by simp) (by simp [Hp.emp]) (by intro h hh; simp; rintro rfl; simp [hd] at hh) ?_
  rintro r H' ⟨rfl, rfl⟩
  have live : ∀ h, (Hp.emp.upd d (.cells xs.length (cM iv 0 xs))) h ≠ none → h = d := by
    intro h hn
    cases e : (Hp.emp.upd d (.cells xs.length (cM iv 0 xs))) h with
    | none => exact absurd e hn
    | some B => exact (upd_some e).1
  refine ⟨fun h hn _ => by simp [live h hn], fun _ => ⟨trivial, fun h B hB => ?_⟩, ?_⟩
  · obtain ⟨rfl, rfl⟩ := upd_some hB
    intro i hi; trivial
  · rw [over_upd]
    have : (AV.own d 0 1 xs.length).scrub (fun h => !liveB (Hp.emp.upd d (.cells xs.length (cM iv 0 xs))) h) = .own d 0 1 xs.length := by simp [AV.scrub, liveB, Hp.upd]
    rw [this]; exact hK

/-- A row of our own, handed over to be read. -/
theorem fits_I {D : Nat → Prop} {h off n : Nat} {xs : List Int} (hH : H h = some (.cells n (cM iv 0 xs))) (hD : D h) (ho : off = 0) (hn : n = xs.length) : Fits H D (.own h off 1 n) (ints xs) := by
  subst ho hn
  refine .own hH hD (by omega) (fun _ _ => trivial) (fun i _ => ?_)
  simp only [Nat.zero_add]; exact .refl _

end
end Go.Av
end

/- Abstract values for the walk: what a slot or a cell is good for, without addresses or worlds; and the relation of such a frame with the machine's own. -/
import Derived.Calls
import Derived.Laws.AppendOwn
import Derived.Laws.MakeOwn
import Derived.Laws.CopyRow
import Derived.Laws.Tables
import Derived.Laws.Rows
namespace Go.Av

/-- What a value is good for. `v`: just this value. `list`: a slice that is only read. `own`: a slice over a block that the walk owns, by the block's name. `ref`: a pointer into such a block. `ptr`: a pointer to cells that are only read. -/
inductive AV where
  | v (x : Value)
  | list (nn : Bool) (sz n : Nat) (f : Nat → AV)
  | own (h off sz n : Nat)
  | ref (h off : Nat)
  | ptr (n : Nat) (f : Nat → AV)
  | agg (n : Nat) (f : Nat → AV)
  | tup (n : Nat) (f : Nat → AV)
  | clo (fn : FuncId) (n : Nat) (f : Nat → AV)
  | map (h : Nat)
  | dead

inductive Blk where
  | cells (n : Nat) (f : Nat → AV)
  | mp (kv : List (Value × AV))

abbrev Loc := Nat → Option (Nat × Nat)
abbrev Hp := Nat → Option Blk

def Rd (w : World) (ok : Nat → Prop) : Loc → AV → Value → Prop
  | _, .v x, u => u = x
  | _, .list nn sz n f, u => ∃ a cap, u = .slice a n cap ∧ n ≤ cap ∧ (nn = true → a ≠ none) ∧ (a = none → n = 0 ∧ cap = 0) ∧
      ∀ p, a = some p → ∀ i, i < n * sz → p.spot = none ∧ ok p.block ∧ ∃ c, w.cell? ⟨p.block, p.off + i, none⟩ = some c ∧ ∀ L', Rd w ok L' (f i) c
  | L, .own h off sz n, u =>
      match L h with
      | none => u = .slice none 0 0 ∧ n = 0
      | some (b, s) => ∃ a cap, u = .slice (some a) n cap ∧ n ≤ cap ∧ cap ≤ maxLen ∧ a.block = b ∧ a.spot = none ∧ (0 < cap → a.off = s + off) ∧
          ∃ cs e, w.heap[b]? = some (.cells cs e (0, 0)) ∧ s + off + cap * sz ≤ cs.size
  | L, .ref h off, u => ∃ b s, L h = some (b, s) ∧ u = .pointer (some ⟨b, s + off, none⟩)
  | _, .ptr n f, u => ∃ p, u = .pointer (some p) ∧ p.spot = none ∧ ∀ i, i < n → ok p.block ∧ ∃ c, w.cell? ⟨p.block, p.off + i, none⟩ = some c ∧ ∀ L', Rd w ok L' (f i) c
  | L, .agg n f, u => ∃ cs, u = .agg cs ∧ cs.size = n ∧ ∀ i, i < n → ∃ c, cs[i]? = some c ∧ Rd w ok L (f i) c
  | L, .tup n f, u => ∃ cs, u = .tuple cs ∧ cs.size = n ∧ ∀ i, i < n → ∃ c, cs[i]? = some c ∧ Rd w ok L (f i) c
  | L, .clo fn n f, u => ∃ cs, u = .func (.func fn) #[] cs ∧ cs.size = n ∧ ∀ i, i < n → ∃ c, cs[i]? = some c ∧ Rd w ok L (f i) c
  | L, .map h, u => ∃ b s, L h = some (b, s) ∧ u = .map (some b)
  | _, .dead, _ => True

def AV.scrub (p : Nat → Bool) : AV → AV
  | .own h off sz n => if p h then .dead else .own h off sz n
  | .ref h off => if p h then .dead else .ref h off
  | .map h => if p h then .dead else .map h
  | .agg n f => .agg n fun i => (f i).scrub p
  | .tup n f => .tup n fun i => (f i).scrub p
  | .clo g n f => .clo g n fun i => (f i).scrub p
  | a => a

def Blk.scrub (p : Nat → Bool) : Blk → Blk
  | .cells n f => .cells n fun i => (f i).scrub p
  | .mp kv => .mp (kv.map fun x => (x.1, x.2.scrub p))

theorem AV.scrub_none (a : AV) : a.scrub (fun _ => false) = a := by
  induction a <;> simp_all [AV.scrub]

/-- The shapes of the blocks of cells stay. -/
def Shape (w w' : World) : Prop := ∀ (b : Nat) (cs : Array Value) (e : TypeId) (fz : Nat × Nat), w.heap[b]? = some (.cells cs e fz) → ∃ cs', w'.heap[b]? = some (.cells cs' e fz) ∧ cs'.size = cs.size

theorem Shape.refl (w : World) : Shape w w := fun _ cs _ _ h => ⟨cs, h, rfl⟩
theorem Shape.trans {a b c : World} (h : Shape a b) (k : Shape b c) : Shape a c := fun i cs e fz hi =>
  let ⟨cs', h1, h2⟩ := h i cs e fz hi
  let ⟨cs'', h3, h4⟩ := k i cs' e fz h1
  ⟨cs'', h3, h4.trans h2⟩

theorem Rd.step {w w' : World} {ok ok' : Nat → Prop} (hok : ∀ b, b < w.heap.size → ok b → ok' b ∧ w'.heap[b]? = w.heap[b]?) (hs : Shape w w') :
    ∀ {p : Nat → Bool} (a : AV) (L L' : Loc) (u : Value), (∀ h, p h = false → L' h = L h) → Rd w ok L a u → Rd w' ok' L' (a.scrub p) u := by
  have cell : ∀ (b o : Nat) (c : Value), ok b → w.cell? ⟨b, o, none⟩ = some c → ok' b ∧ w'.cell? ⟨b, o, none⟩ = some c := by
    intro b o c hb hc
    have hlt := World.block_lt_of_cell? w _ hc
    obtain ⟨h1, h2⟩ := hok b hlt hb
    exact ⟨h1, by rw [World.cell?_of_block (w := w) (a := ⟨b, o, none⟩) h2]; exact hc⟩
  intro p a
  induction a generalizing p with
  | v x => intro L L' u _ h; exact h
  | list nn sz n f ih =>
    rintro L L' u _ ⟨a, cap, hu, h1, h2, h3, h4⟩
    refine ⟨a, cap, hu, h1, h2, h3, fun q hq i hi => ?_⟩
    obtain ⟨k0, k1, c, k2, k3⟩ := h4 q hq i hi
    refine ⟨k0, (cell _ _ _ k1 k2).1, c, (cell _ _ _ k1 k2).2, fun L' => ?_⟩
    have := ih i (p := fun _ => false) L' L' c (fun _ _ => rfl) (k3 L')
    rwa [AV.scrub_none] at this
  | own h off sz n =>
    intro L L' u hL hu
    simp only [AV.scrub]
    by_cases hp : p h = true
    · simp only [hp, if_true]; trivial
    · simp only [hp, Bool.false_eq_true, if_false]
      simp only [Rd] at hu ⊢
      rw [hL h (by simpa using hp)]
      cases hl : L h with
      | none => simpa [hl] using hu
      | some q =>
        obtain ⟨b, s⟩ := q
        simp only [hl] at hu ⊢
        obtain ⟨a, cap, h1, h2, h3, h4, h5, h6, cs, e, h7, h8⟩ := hu
        obtain ⟨cs', h9, h10⟩ := hs b cs e (0, 0) h7
        exact ⟨a, cap, h1, h2, h3, h4, h5, h6, cs', e, h9, by omega⟩
  | ref h off =>
    intro L L' u hL hu
    simp only [AV.scrub]
    by_cases hp : p h = true
    · simp only [hp, if_true]; trivial
    · simp only [hp, Bool.false_eq_true, if_false]
      obtain ⟨b, s, h1, h2⟩ := hu
      exact ⟨b, s, by rw [hL h (by simpa using hp)]; exact h1, h2⟩
  | ptr n f ih =>
    rintro L L' u _ ⟨q, hu, h1, h2⟩
    refine ⟨q, hu, h1, fun i hi => ?_⟩
    obtain ⟨k1, c, k2, k3⟩ := h2 i hi
    refine ⟨(cell _ _ _ k1 k2).1, c, (cell _ _ _ k1 k2).2, fun L' => ?_⟩
    have := ih i (p := fun _ => false) L' L' c (fun _ _ => rfl) (k3 L')
    rwa [AV.scrub_none] at this
  | agg n f ih => rintro L L' u hL ⟨cs, hu, h1, h2⟩; exact ⟨cs, hu, h1, fun i hi => let ⟨c, k1, k2⟩ := h2 i hi; ⟨c, k1, ih i L L' _ hL k2⟩⟩
  | tup n f ih => rintro L L' u hL ⟨cs, hu, h1, h2⟩; exact ⟨cs, hu, h1, fun i hi => let ⟨c, k1, k2⟩ := h2 i hi; ⟨c, k1, ih i L L' _ hL k2⟩⟩
  | clo g n f ih => rintro L L' u hL ⟨cs, hu, h1, h2⟩; exact ⟨cs, hu, h1, fun i hi => let ⟨c, k1, k2⟩ := h2 i hi; ⟨c, k1, ih i L L' _ hL k2⟩⟩
  | map h =>
    intro L L' u hL hu
    simp only [AV.scrub]
    by_cases hp : p h = true
    · simp only [hp, if_true]; trivial
    · simp only [hp, Bool.false_eq_true, if_false]
      obtain ⟨b, s, h1, h2⟩ := hu
      exact ⟨b, s, by rw [hL h (by simpa using hp)]; exact h1, h2⟩
  | dead => intro L L' u _ _; trivial

/-- No name stands in it. -/
def AV.plain : AV → Prop
  | .own .. | .ref .. | .map _ => False
  | .agg n f | .tup n f | .clo _ n f => ∀ i, i < n → (f i).plain
  | _ => True

theorem Rd.plain {w : World} {ok : Nat → Prop} : ∀ (a : AV) (L L' : Loc) (u : Value), a.plain → Rd w ok L a u → Rd w ok L' a u := by
  intro a
  induction a with
  | v x => intro L L' u _ h; exact h
  | list nn sz n f ih => intro L L' u _ h; exact h
  | own h off sz n => intro L L' u hp _; exact hp.elim
  | ref h off => intro L L' u hp _; exact hp.elim
  | ptr n f ih => intro L L' u _ h; exact h
  | agg n f ih => rintro L L' u hp ⟨cs, hu, h1, h2⟩; exact ⟨cs, hu, h1, fun i hi => let ⟨c, k1, k2⟩ := h2 i hi; ⟨c, k1, ih i L L' _ (hp i hi) k2⟩⟩
  | tup n f ih => rintro L L' u hp ⟨cs, hu, h1, h2⟩; exact ⟨cs, hu, h1, fun i hi => let ⟨c, k1, k2⟩ := h2 i hi; ⟨c, k1, ih i L L' _ (hp i hi) k2⟩⟩
  | clo g n f ih => rintro L L' u hp ⟨cs, hu, h1, h2⟩; exact ⟨cs, hu, h1, fun i hi => let ⟨c, k1, k2⟩ := h2 i hi; ⟨c, k1, ih i L L' _ (hp i hi) k2⟩⟩
  | map h => intro L L' u hp _; exact hp.elim
  | dead => intro L L' u _ _; trivial

theorem Blk.scrub_none (b : Blk) : b.scrub (fun _ => false) = b := by
  cases b with
  | cells n f => simp [Blk.scrub, AV.scrub_none]
  | mp kv => simp [Blk.scrub, AV.scrub_none]

end Go.Av

/- The relation of an abstract frame and an abstract heap with the machine's own, and the steps that keep it. -/
import Derived.Test.YtfgblelbhlpfjaaAv1
namespace Go.Av

abbrev Fr := List (Nat × AV)
def Fr.get : Fr → Nat → Option AV
  | [], _ => none
  | (i, a) :: r, k => if i = k then some a else Fr.get r k
def Fr.scrub (p : Nat → Bool) (A : Fr) : Fr := A.map fun x => (x.1, x.2.scrub p)

def Hp.upd (H : Hp) (h : Nat) (b : Blk) : Hp := fun g => if g = h then some b else H g
def Hp.scrub (p : Nat → Bool) (H : Hp) : Hp := fun g => (H g).map (Blk.scrub p)
def Hp.kill (p : Nat → Bool) (H : Hp) : Hp := fun g => if p g then none else H g
def Hp.emp : Hp := fun _ => none

theorem Fr.get_scrub (p : Nat → Bool) (A : Fr) (i : Nat) : (A.scrub p).get i = (A.get i).map (AV.scrub p) := by
  induction A with
  | nil => rfl
  | cons x r ih =>
    obtain ⟨j, a⟩ := x
    simp only [Fr.scrub, List.map_cons, Fr.get] at ih ⊢
    split
    · rfl
    · exact ih

theorem Fr.scrub_none (A : Fr) : A.scrub (fun _ => false) = A := by
  simp [Fr.scrub, AV.scrub_none]
theorem Hp.scrub_none (H : Hp) : H.scrub (fun _ => false) = H := by
  funext g
  cases h : H g <;> simp [Hp.scrub, h, Blk.scrub_none]

/-- Which blocks may be written, and which may be read; which names are to stay where they are. -/
structure Rg where
  wr : Nat → Prop
  ok : Nat → Prop
  sub : ∀ b, wr b → ok b
  pin : Nat → Option (Option (Nat × Nat))

/-- Block b may be read, and belongs to no name. -/
def okb (S : Rg) (H : Hp) (L : Loc) (b : Nat) : Prop := S.ok b ∧ ∀ h q, H h ≠ none → L h = some q → q.1 ≠ b

/-- The block of a name holds what is said of it (the block's cells in the world wh, what they read as in w). -/
def BlkOk (w wh : World) (ok : Nat → Prop) (L : Loc) (l : Option (Nat × Nat)) : Blk → Prop
  | .cells n f =>
    match l with
    | none => n = 0
    | some (b, s) => ∃ cs e, wh.heap[b]? = some (.cells cs e (0, 0)) ∧ s + n ≤ cs.size ∧ ∀ i, i < n → ∃ c, cs[s + i]? = some c ∧ Rd w ok L (f i) c
  | .mp kv =>
    match l with
    | none => False
    | some (b, _) => ∃ (es : Array MapEntry) (clock : Nat), wh.heap[b]? = some (.map es clock) ∧ es.size = kv.length ∧ ∀ (i : Nat) (e : MapEntry), es[i]? = some e → ∃ a, kv[i]? = some (e.key, a) ∧ Rd w ok L a e.val

theorem BlkOk.lt {w wh : World} {ok : Nat → Prop} {L : Loc} {b s : Nat} {B : Blk} (h : BlkOk w wh ok L (some (b, s)) B) : b < wh.heap.size := by
  cases B with
  | cells n f => obtain ⟨cs, e, h1, _⟩ := h; exact (Array.getElem?_eq_some_iff.1 h1).1
  | mp kv => obtain ⟨es, c, h1, _⟩ := h; exact (Array.getElem?_eq_some_iff.1 h1).1

/-- What a call may leave: the streams as they were, the blocks outside S as they were, no block gone, no shape turned. -/
structure Keep (w0 : World) (S : Nat → Prop) (w : World) : Prop where
  os : w.os = w0.os
  tape : w.tape = w0.tape
  output : w.output = w0.output
  size : w0.heap.size ≤ w.heap.size
  blk : ∀ b, b < w0.heap.size → ¬ S b → w.heap[b]? = w0.heap[b]?
  shape : Shape w0 w

theorem Keep.refl (w : World) (S : Nat → Prop) : Keep w S w := ⟨rfl, rfl, rfl, Nat.le_refl _, fun _ _ _ => rfl, Shape.refl w⟩
theorem Keep.trans {a b c : World} {S : Nat → Prop} (h : Keep a S b) (k : Keep b S c) : Keep a S c :=
  ⟨k.os.trans h.os, k.tape.trans h.tape, k.output.trans h.output, Nat.le_trans h.size k.size,
    fun i hi hn => (k.blk i (Nat.lt_of_lt_of_le hi h.size) hn).trans (h.blk i hi hn), h.shape.trans k.shape⟩
theorem Keep.mono {a b : World} {S S' : Nat → Prop} (h : Keep a S b) (hs : ∀ k, k < a.heap.size → S k → S' k) : Keep a S' b :=
  ⟨h.os, h.tape, h.output, h.size, fun i hi hn => h.blk i hi (fun hS => hn (hs i hi hS)), h.shape⟩

structure Sim (N : Nat) (w0 : World) (S : Rg) (w : World) (tm : Array Value) (L : Loc) (A : Fr) (H : Hp) : Prop where
  keep : Keep w0 S.wr w
  size : tm.size = N
  slot : ∀ i a, A.get i = some a → Rd w (okb S H L) L a (tm.getD i undef)
  blk : ∀ h B, H h = some B → BlkOk w w (okb S H L) L (L h) B
  own : ∀ h q, H h ≠ none → L h = some q → S.wr q.1
  inj : ∀ h g q r, H h ≠ none → H g ≠ none → L h = some q → L g = some r → q.1 = r.1 → h = g
  pin : ∀ h l, S.pin h = some l → L h = l

section
variable {N : Nat} {w0 : World} {S : Rg} {w w' : World} {tm : Array Value} {L L' : Loc} {A : Fr} {H H' : Hp} {p : Nat → Bool}

theorem BlkOk.step {wh wh' : World} {ok ok' : Nat → Prop} {l : Option (Nat × Nat)} {B : Blk}
    (hok : ∀ b, b < w.heap.size → ok b → ok' b ∧ w'.heap[b]? = w.heap[b]?) (hs : Shape w w') (hL : ∀ h, p h = false → L' h = L h)
    (hb : ∀ q, l = some q → wh'.heap[q.1]? = wh.heap[q.1]?) (h : BlkOk w wh ok L l B) : BlkOk w' wh' ok' L' l (B.scrub p) := by
  cases B with
  | cells n f =>
    cases l with
    | none => simpa [BlkOk, Blk.scrub] using h
    | some q =>
      obtain ⟨b, s⟩ := q
      obtain ⟨cs, e, h1, h2, h3⟩ := h
      exact ⟨cs, e, (hb (b, s) rfl).trans h1, h2, fun i hi => let ⟨c, k1, k2⟩ := h3 i hi; ⟨c, k1, Rd.step hok hs _ L L' _ hL k2⟩⟩
  | mp kv =>
    cases l with
    | none => exact h.elim
    | some q =>
      obtain ⟨b, s⟩ := q
      obtain ⟨es, c, h1, h2, h3⟩ := h
      refine ⟨es, c, (hb (b, s) rfl).trans h1, by simpa using h2, fun i e he => ?_⟩
      obtain ⟨a, k1, k2⟩ := h3 i e he
      exact ⟨a.scrub p, by simp [k1], Rd.step hok hs _ L L' _ hL k2⟩

/-- The general step. -/
theorem Sim.step (s : Sim N w0 S w tm L A H) (hk : Keep w S.wr w')
    (hsame : ∀ b, b < w.heap.size → okb S H L b → okb S H' L' b ∧ w'.heap[b]? = w.heap[b]?)
    (hL : ∀ h, p h = false → L' h = L h) (hpin : ∀ h l, S.pin h = some l → L' h = L h)
    (hblk : ∀ h B, H' h = some B → BlkOk w' w' (okb S H' L') L' (L' h) B)
    (hown : ∀ h q, H' h ≠ none → L' h = some q → S.wr q.1)
    (hinj : ∀ h g q r, H' h ≠ none → H' g ≠ none → L' h = some q → L' g = some r → q.1 = r.1 → h = g) :
    Sim N w0 S w' tm L' (A.scrub p) H' where
  keep := s.keep.trans hk
  size := s.size
  slot := by
    intro i a ha
    rw [Fr.get_scrub] at ha
    cases hg : A.get i with
    | none => simp [hg] at ha
    | some a0 =>
      simp only [hg, Option.map_some, Option.some.injEq] at ha
      subst ha
      exact Rd.step hsame hk.shape a0 L L' _ hL (s.slot i a0 hg)
  blk := hblk
  own := hown
  inj := hinj
  pin h l hl := (hpin h l hl).trans (s.pin h l hl)

/-- A block is written anew, moved, or made: its name g then means this block. -/
theorem Sim.put_blk (s : Sim N w0 S w tm L A H) (hS : ∀ b, w0.heap.size ≤ b → S.wr b) (g : Nat) (b s' : Nat) (B : Blk)
    (hw : Keep w (fun k => k = b) w')
    (hold : ∀ k, k < w.heap.size → k ≠ b → w'.heap[k]? = w.heap[k]?)
    (hb : b = w.heap.size ∨ (H g ≠ none ∧ ∃ o, L g = some (b, o)))
    (hB : BlkOk w w' (okb S H L) L (some (b, s')) B)
    (hp : ∀ h, p h = false → h = g → L h = some (b, s')) (hpin : S.pin g = none ∨ L g = some (b, s')) :
    Sim N w0 S w' tm (fun h => if h = g then some (b, s') else L h) (A.scrub p) ((H.upd g B).scrub p) := by
  have hbS : S.wr b := by
    rcases hb with rfl | ⟨hg, o, ho⟩
    · exact hS _ s.keep.size
    · exact s.own g _ hg ho
  have live : ∀ h, ((H.upd g B).scrub p) h ≠ none ↔ (h = g ∨ H h ≠ none) := by
    intro h
    simp only [Hp.scrub, Hp.upd]
    by_cases hh : h = g
    · simp [hh]
    · simp [hh]
  have hlt : ∀ h q, H h ≠ none → L h = some q → q.1 < w.heap.size := by
    intro h q hn hq
    cases hH : H h with
    | none => exact absurd hH hn
    | some B' =>
      have := s.blk h B' hH
      rw [hq] at this
      exact BlkOk.lt (b := q.1) (s := q.2) this
  have hne : ∀ h q, h ≠ g → H h ≠ none → L h = some q → q.1 ≠ b := by
    intro h q hh hn hq
    rcases hb with rfl | ⟨hg, o, ho⟩
    · exact Nat.ne_of_lt (hlt h q hn hq)
    · exact fun e => hh (s.inj h g q (b, o) hn hg hq ho e)
  have hsame : ∀ k, k < w.heap.size → okb S H L k → okb S ((H.upd g B).scrub p) (fun h => if h = g then some (b, s') else L h) k ∧ w'.heap[k]? = w.heap[k]? := by
    intro k hk ho
    have hkb : k ≠ b := by
      rcases hb with rfl | ⟨hg, o, hgo⟩
      · exact Nat.ne_of_lt hk
      · exact fun e => ho.2 g _ hg hgo e.symm
    refine ⟨⟨ho.1, fun h q hn hq => ?_⟩, hold k hk hkb⟩
    by_cases hh : h = g
    · simp only [hh, if_true, Option.some.injEq] at hq
      subst hq
      exact fun e => hkb e.symm
    · simp only [hh, if_false] at hq
      exact ho.2 h q (((live h).1 hn).resolve_left hh) hq
  have hL : ∀ h, p h = false → (fun h => if h = g then some (b, s') else L h) h = L h := by
    intro h hph
    by_cases hh : h = g
    · simp only [hh, if_true]; exact (hh ▸ hp h hph hh).symm
    · simp [hh]
  have hk : Keep w S.wr w' := hw.mono fun k _ e => e ▸ hbS
  refine s.step hk hsame hL ?_ ?_ ?_ ?_
  · intro h l hl
    by_cases hh : h = g
    · subst hh
      rcases hpin with e | e
      · simp [e] at hl
      · simp [e]
    · simp [hh]
  · intro h B' hB'
    by_cases hh : h = g
    · subst hh
      simp only [Hp.scrub, Hp.upd, if_true, Option.map_some, Option.some.injEq] at hB' ⊢
      subst hB'
      exact BlkOk.step hsame hk.shape hL (fun _ _ => rfl) hB
    · simp only [Hp.scrub, Hp.upd, hh, if_false] at hB' ⊢
      cases hH : H h with
      | none => simp [hH] at hB'
      | some B0 =>
        simp only [hH, Option.map_some, Option.some.injEq] at hB'
        subst hB'
        refine BlkOk.step hsame hk.shape hL (fun q hq => hold q.1 (hlt h q (by simp [hH]) hq) (hne h q hh (by simp [hH]) hq)) (s.blk h B0 hH)
  · intro h q hn hq
    by_cases hh : h = g
    · simp only [hh, if_true, Option.some.injEq] at hq
      subst hq
      exact hbS
    · simp only [hh, if_false] at hq
      exact s.own h q (((live h).1 hn).resolve_left hh) hq
  · intro h k q r hn hm hq hr e
    by_cases hh : h = g <;> by_cases hg : k = g
    · rw [hh, hg]
    · simp only [hh, if_true, Option.some.injEq] at hq
      simp only [hg, if_false] at hr
      subst hq
      exact absurd e.symm (hne k r hg (((live k).1 hm).resolve_left hg) hr)
    · simp only [hg, if_true, Option.some.injEq] at hr
      simp only [hh, if_false] at hq
      subst hr
      exact absurd e (hne h q hh (((live h).1 hn).resolve_left hh) hq)
    · simp only [hh, if_false] at hq
      simp only [hg, if_false] at hr
      exact s.inj h k q r (((live h).1 hn).resolve_left hh) (((live k).1 hm).resolve_left hg) hq hr e

/-- A slot takes a value. -/
theorem Sim.put (s : Sim N w0 S w tm L A H) {d : Nat} (hd : d < N) {a : AV} {u : Value} (hr : Rd w (okb S H L) L a u) :
    Sim N w0 S w (tm.setIfInBounds d u) L ((d, a) :: A) H where
  keep := s.keep
  size := by simp [s.size]
  slot := by
    intro i b hb
    simp only [Fr.get] at hb
    by_cases hi : d = i
    · subst hi
      simp only [if_true, Option.some.injEq] at hb
      subst hb
      have : (tm.setIfInBounds d u).getD d undef = u := by simp [Array.getD, s.size, hd]
      rw [this]; exact hr
    · simp only [hi, if_false] at hb
      have : (tm.setIfInBounds d u).getD i undef = tm.getD i undef := by
        by_cases hlt : i < tm.size
        · simp [Array.getD, hlt, hi]
        · simp [Array.getD, hlt]
      rw [this]; exact s.slot i b hb
  blk := s.blk
  own := s.own
  inj := s.inj
  pin := s.pin

/-- What is known of a slot may be forgotten. -/
theorem Sim.sub (s : Sim N w0 S w tm L A H) {A' : Fr} (h : ∀ i a, A'.get i = some a → A.get i = some a) : Sim N w0 S w tm L A' H :=
  ⟨s.keep, s.size, fun i a ha => s.slot i a (h i a ha), s.blk, s.own, s.inj, s.pin⟩

/-- A draw turns nothing. -/
theorem Sim.drew (s : Sim N w0 S w tm L A H) : Sim N w0 S w.drew tm L A H := by
  have h := s.step (w' := w.drew) (L' := L) (H' := H) (p := fun _ => false) ⟨rfl, rfl, rfl, Nat.le_refl _, fun _ _ _ => rfl, Shape.refl w⟩ (fun b _ h => ⟨h, rfl⟩) (fun _ _ => rfl) (fun _ _ _ => rfl)
    (fun h B hB => by
      have := BlkOk.step (w := w) (w' := w.drew) (p := fun _ => false) (L' := L) (wh := w) (wh' := w.drew) (ok' := okb S H L) (fun b _ h => ⟨h, rfl⟩) (Shape.refl w) (fun _ _ => rfl) (fun _ _ => rfl) (s.blk h B hB)
      rwa [Blk.scrub_none] at this) s.own s.inj
  rwa [Fr.scrub_none] at h

end
end Go.Av

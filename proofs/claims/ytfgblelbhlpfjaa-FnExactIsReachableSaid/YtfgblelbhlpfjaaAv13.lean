/- Calls by contract; forgetting, freezing, renaming. -/
import Derived.Test.YtfgblelbhlpfjaaAv12
namespace Go.Av

/-- No slice that is only read stands in it. -/
def AV.solid : AV → Prop
  | .list .. | .ptr .. => False
  | .agg n f | .tup n f | .clo _ n f => ∀ i, i < n → (f i).solid
  | _ => True

theorem Rd.solid {w : World} {ok ok' : Nat → Prop} : ∀ (a : AV) (L : Loc) (u : Value), a.solid → Rd w ok L a u → Rd w ok' L a u := by
  intro a
  induction a with
  | v x => intro L u _ h; exact h
  | list nn sz n f ih => intro L u h; exact h.elim
  | own h off sz n => intro L u _ h; exact h
  | ref h off => intro L u _ h; exact h
  | ptr n f ih => intro L u h; exact h.elim
  | agg n f ih => rintro L u hp ⟨cs, hu, h1, h2⟩; exact ⟨cs, hu, h1, fun i hi => let ⟨c, k1, k2⟩ := h2 i hi; ⟨c, k1, ih i L _ (hp i hi) k2⟩⟩
  | tup n f ih => rintro L u hp ⟨cs, hu, h1, h2⟩; exact ⟨cs, hu, h1, fun i hi => let ⟨c, k1, k2⟩ := h2 i hi; ⟨c, k1, ih i L _ (hp i hi) k2⟩⟩
  | clo g n f ih => rintro L u hp ⟨cs, hu, h1, h2⟩; exact ⟨cs, hu, h1, fun i hi => let ⟨c, k1, k2⟩ := h2 i hi; ⟨c, k1, ih i L _ (hp i hi) k2⟩⟩
  | map h => intro L u _ h; exact h
  | dead => intro L u _ _; trivial

def Blk.solid : Blk → Prop
  | .cells n f => ∀ i, i < n → (f i).solid
  | .mp kv => ∀ x ∈ kv, x.2.solid

theorem BlkOk.solid {w wh : World} {ok ok' : Nat → Prop} {L : Loc} {l : Option (Nat × Nat)} {B : Blk} (hB : B.solid) (h : BlkOk w wh ok L l B) : BlkOk w wh ok' L l B := by
  cases B with
  | cells n f =>
    cases l with
    | none => exact h
    | some q => obtain ⟨cs, e, h1, h2, h3⟩ := h; exact ⟨cs, e, h1, h2, fun i hi => let ⟨c, k1, k2⟩ := h3 i hi; ⟨c, k1, Rd.solid _ _ _ (hB i hi) k2⟩⟩
  | mp kv =>
    cases l with
    | none => exact h
    | some q =>
      obtain ⟨es, c, h1, h2, h3⟩ := h
      exact ⟨es, c, h1, h2, fun i e he => let ⟨a, k1, k2⟩ := h3 i e he; ⟨a, k1, Rd.solid _ _ _ (hB _ (List.mem_of_getElem? k1)) k2⟩⟩

/-- What is read at more places. -/
theorem Rd.mono {w : World} {ok ok' : Nat → Prop} (hok : ∀ b, b < w.heap.size → ok b → ok' b) {a : AV} {L : Loc} {u : Value} (h : Rd w ok L a u) : Rd w ok' L a u := by
  have := Rd.step (w := w) (w' := w) (ok := ok) (ok' := ok') (p := fun _ => false) (fun b hb h => ⟨hok b hb h, rfl⟩) (Shape.refl w) a L L u (fun _ _ => rfl) h
  rwa [AV.scrub_none] at this

/-- A value of our own may be handed over to be read: `Fits H D a c`: what reads as a reads as c while the names of D are left alone. -/
inductive Fits (H : Hp) (D : Nat → Prop) : AV → AV → Prop
  | refl (a : AV) : Fits H D a a
  | own {h off sz n M : Nat} {g f : Nat → AV} : H h = some (.cells M g) → D h → off + n * sz ≤ M → (∀ i, i < n * sz → (f i).plain) → (∀ i, i < n * sz → Fits H D (g (off + i)) (f i)) → Fits H D (.own h off sz n) (.list false sz n f)
  | list {nn nn' : Bool} {sz n : Nat} {g f : Nat → AV} : (nn' = true → nn = true ∨ 0 < n) → (∀ i, i < n * sz → (f i).plain) → (∀ i, i < n * sz → Fits H D (g i) (f i)) → Fits H D (.list nn sz n g) (.list nn' sz n f)
  | nil {sz : Nat} {f : Nat → AV} : Fits H D (.v (.slice none 0 0)) (.list false sz 0 f)
  | agg {n : Nat} {g f : Nat → AV} : (∀ i, i < n → Fits H D (g i) (f i)) → Fits H D (.agg n g) (.agg n f)
  | ref {h off n M : Nat} {g f : Nat → AV} : H h = some (.cells M g) → D h → off + n ≤ M → (∀ i, i < n → (f i).plain) → (∀ i, i < n → Fits H D (g (off + i)) (f i)) → Fits H D (.ref h off) (.ptr n f)
  | clo {k n : Nat} {g f : Nat → AV} : (∀ i, i < n → Fits H D (g i) (f i)) → Fits H D (.clo k n g) (.clo k n f)
  | tup {n : Nat} {g f : Nat → AV} : (∀ i, i < n → Fits H D (g i) (f i)) → Fits H D (.tup n g) (.tup n f)
  | nonnil {sz n : Nat} {f : Nat → AV} {a : AV} : 0 < n → Fits H D a (.list false sz n f) → Fits H D a (.list true sz n f)

/-- The blocks of the names of D, beside those that belong to nobody. -/
def okD (S : Rg) (H : Hp) (L : Loc) (D : Nat → Prop) (b : Nat) : Prop := S.ok b ∧ ∀ h q, H h ≠ none → ¬ D h → L h = some q → q.1 ≠ b

section
variable {P : Program} {N : Cx} {A : Fr} {H : Hp}

theorem Fits.rd {D : Nat → Prop} {w0 : World} {S : Rg} {w : World} {tm : Array Value} {L : Loc} {n : Nat} (s : Sim n w0 S w tm L A H) {a c : AV} (h : Fits H D a c) : ∀ u, Rd w (okb S H L) L a u → Rd w (okD S H L D) L c u := by
  have okd : ∀ b, okb S H L b → okD S H L D b := fun b hb => ⟨hb.1, fun h q hn _ hq => hb.2 h q hn hq⟩
  have okn : ∀ h b o, H h ≠ none → D h → L h = some (b, o) → okD S H L D b := by
    intro h b o hn hD hl
    refine ⟨S.sub b (s.own h _ hn hl), fun g q hg hnD hq e => hnD ?_⟩
    have := s.inj g h q (b, o) hg hn hq hl e
    exact this ▸ hD
  induction h with
  | refl a => intro u hu; exact Rd.mono (fun b _ h => okd b h) hu
  | @own h off sz n M g f hH hD hle hf _ ih =>
    intro u hu
    have hb := s.blk h _ hH
    simp only [Rd] at hu
    split at hu
    · obtain ⟨rfl, rfl⟩ := hu
      exact ⟨none, 0, rfl, Nat.le_refl _, by simp, fun _ => ⟨rfl, rfl⟩, by simp⟩
    · rename_i b o hl
      obtain ⟨p, cap, rfl, h1, h2, h3, h4, h5, _⟩ := hu
      rw [hl] at hb
      obtain ⟨cs, e, k1, k2, k3⟩ := hb
      refine ⟨some p, cap, rfl, h1, by simp, by simp, fun q hq i hi => ?_⟩
      simp only [Option.some.injEq] at hq
      subst hq
      refine ⟨h4, ?_⟩
      have hn : 0 < n := by
        rcases Nat.eq_zero_or_pos n with rfl | h
        · simp at hi
        · exact h
      rw [h3, h5 (by omega)]
      obtain ⟨c, k4, k5⟩ := k3 (off + i) (by omega)
      refine ⟨okn h b o (by simp [hH]) hD hl, c, by simp [World.cell?, k1, Nat.add_assoc, k4], fun L' => ?_⟩
      exact Rd.plain _ _ _ _ (hf i hi) (ih i hi _ k5)
  | @list nn nn' sz n g f hnn hf _ ih =>
    rintro u ⟨x, cap, rfl, h1, h2, h3, h4⟩
    refine ⟨x, cap, rfl, h1, fun h => ?_, h3, fun p hp i hi => ?_⟩
    · rcases hnn h with h | h
      · exact h2 h
      · intro e; have := (h3 e).1; omega
    · obtain ⟨k0, k1, c, k2, k3⟩ := h4 p hp i hi
      exact ⟨k0, okd _ k1, c, k2, fun L' => Rd.plain _ _ _ _ (hf i hi) (ih i hi _ (k3 L))⟩
  | nil => rintro u rfl; exact ⟨none, 0, rfl, Nat.le_refl _, by simp, fun _ => ⟨rfl, rfl⟩, by simp⟩
  | @agg n g f _ ih => rintro u ⟨cs, hu, h1, h2⟩; exact ⟨cs, hu, h1, fun i hi => let ⟨c, k1, k2⟩ := h2 i hi; ⟨c, k1, ih i hi _ k2⟩⟩
  | @ref h off n M g f hH hD hle hf _ ih =>
    rintro u ⟨b, o, hl, rfl⟩
    have hb := s.blk h _ hH
    rw [hl] at hb
    obtain ⟨cs, e, k1, k2, k3⟩ := hb
    refine ⟨_, rfl, rfl, fun i hi => ?_⟩
    obtain ⟨c, k4, k5⟩ := k3 (off + i) (by omega)
    exact ⟨okn h b o (by simp [hH]) hD hl, c, by simp [World.cell?, k1, Nat.add_assoc, k4], fun L' => Rd.plain _ _ _ _ (hf i hi) (ih i hi _ k5)⟩
  | @clo k n g f _ ih => rintro u ⟨cs, hu, h1, h2⟩; exact ⟨cs, hu, h1, fun i hi => let ⟨c, k1, k2⟩ := h2 i hi; ⟨c, k1, ih i hi _ k2⟩⟩
  | @tup n g f _ ih => rintro u ⟨cs, hu, h1, h2⟩; exact ⟨cs, hu, h1, fun i hi => let ⟨c, k1, k2⟩ := h2 i hi; ⟨c, k1, ih i hi _ k2⟩⟩
  | @nonnil sz n f a hn _ ih =>
    intro u hu
    obtain ⟨x, cap, rfl, h1, h2, h3, h4⟩ := ih u hu
    exact ⟨x, cap, rfl, h1, fun _ e => by have := (h3 e).1; omega, h3, h4⟩

inductive FitsL (H : Hp) (D : Nat → Prop) : List AV → List AV → Prop
  | nil : FitsL H D [] []
  | cons {a c : AV} {l r : List AV} : Fits H D a c → FitsL H D l r → FitsL H D (a :: l) (c :: r)

theorem FitsL.refl {H : Hp} {D : Nat → Prop} : ∀ l : List AV, FitsL H D l l
  | [] => .nil
  | a :: l => .cons (.refl a) (FitsL.refl l)

theorem FitsL.args {D : Nat → Prop} {w0 : World} {S : Rg} {w : World} {tm : Array Value} {L : Loc} {n : Nat} (s : Sim n w0 S w tm L A H) {l r : List AV} (h : FitsL H D l r) : ∀ {vs : Array Value}, RdArgs w (okb S H L) L l vs → RdArgs w (okD S H L D) L r vs := by
  have key : ∀ (l r : List AV), FitsL H D l r → l.length = r.length ∧ ∀ (i : Nat) (c : AV), r[i]? = some c → ∃ a, l[i]? = some a ∧ Fits H D a c := by
    intro l r h
    induction h with
    | nil => exact ⟨rfl, fun i c h => by simp at h⟩
    | cons h _ ih =>
      refine ⟨by simp [ih.1], fun i c hc => ?_⟩
      cases i with
      | zero => simp at hc; subst hc; exact ⟨_, rfl, h⟩
      | succ i => simpa using ih.2 i c (by simpa using hc)
  rintro vs ⟨h1, h2⟩
  obtain ⟨k1, k2⟩ := key l r h
  refine ⟨by omega, fun i c hc => ?_⟩
  obtain ⟨a, j1, j2⟩ := k2 i c hc
  obtain ⟨u, j3, j4⟩ := h2 i a j1
  exact ⟨u, j3, j2.rd s u j4⟩

/-- The heap behind a call: what the callee's names mean, and beside it ours. -/
def Hp.over (H' H Hin : Hp) : Hp := fun h => match H' h with
  | some B => some B
  | none => if (Hin h).isSome then none else H h

def liveB (H : Hp) (h : Nat) : Bool := (H h).isSome

/-- A call by a contract. `p`: the names that may mean another block behind it. `fresh`: what is handed back is all new, and holds no slice that is only read; else nothing of ours was handed over to be read. -/
theorem callG_of {f : FuncId} {args args' : List AV} {Hin : Hp} {pn : Nat → Bool} {post : AV → Hp → Prop} {K : AV → Fr → Hp → Prop} (hac : AC P f args' Hin pn post) (p : Nat → Bool) (fresh : Bool)
    (hin : ∀ h B, Hin h = some B → H h = some B)
    (hfit : FitsL H (fun h => Hin h = none) args args')
    (hfr : fresh = false → args = args')
    (hp1 : ∀ h, Hin h ≠ none → p h = false → pn h = true)
    (hp2 : ∀ h, N.pn h = true → p h = false)
    (hK : ∀ r H', post r H' → (∀ h, H' h ≠ none → Hin h = none → p h = true) ∧ (fresh = true → r.solid ∧ ∀ h B, H' h = some B → B.solid) ∧
      K (r.scrub fun h => !liveB H' h) (A.scrub p) (Hp.over (H'.scrub fun h => !liveB H' h) (H.scrub p) Hin)) :
    CallG P N f args A H K := by
  refine ⟨hac.1, fun w0 S hS w tm L s vs hvs => ?_⟩
  -- the callee's own regions
  let G : Nat → Prop := fun b => if fresh = true then True else okb S H L b
  let wr : Nat → Prop := fun b => w.heap.size ≤ b ∨ ∃ h q, Hin h ≠ none ∧ L h = some q ∧ q.1 = b
  let S' : Rg := ⟨wr, fun b => G b ∨ wr b, fun b h => .inr h, fun h => if pn h = true then some (L h) else none⟩
  have hwr : ∀ b, wr b → S.wr b := by
    rintro b (h | ⟨h, q, h1, h2, rfl⟩)
    · exact hS.new b (Nat.le_trans s.keep.size h)
    · cases hh : Hin h with
      | none => exact absurd hh h1
      | some B => exact s.own h q (by rw [hin h B hh]; simp) h2
  have hlive : ∀ h, Hin h ≠ none → H h ≠ none := by
    intro h hn
    cases hh : Hin h with
    | none => exact absurd hh hn
    | some B => rw [hin h B hh]; simp
  have hlt : ∀ h q, H h ≠ none → L h = some q → q.1 < w.heap.size := by
    intro h q hn hq
    cases hH : H h with
    | none => exact absurd hH hn
    | some B' =>
      have := s.blk h B' hH
      rw [hq] at this
      exact BlkOk.lt (b := q.1) (s := q.2) this
  -- what belongs to nobody may be read by the callee
  have hokb : ∀ b, okb S H L b → okb S' Hin L b := by
    intro b hb
    refine ⟨?_, fun h q hn hq => hb.2 h q (hlive h hn) hq⟩
    show G b ∨ wr b
    left
    show if fresh = true then True else okb S H L b
    split
    · trivial
    · exact hb
  have s' : Sim 0 w S' w #[] L [] Hin := by
    refine ⟨Keep.refl w _, rfl, fun i a h => by simp [Fr.get] at h, ?_, ?_, ?_, ?_⟩
    · intro h B hB
      have := BlkOk.step (w := w) (w' := w) (wh := w) (wh' := w) (ok := okb S H L) (ok' := okb S' Hin L) (L := L) (L' := L) (p := fun _ => false) (fun b _ hb => ⟨hokb b hb, rfl⟩) (Shape.refl w) (fun _ _ => rfl) (fun _ _ => rfl) (s.blk h B (hin h B hB))
      rwa [Blk.scrub_none] at this
    · intro h q hn hq; exact .inr ⟨h, q, hn, hq, rfl⟩
    · intro h g q r hn hm hq hr e; exact s.inj h g q r (hlive h hn) (hlive g hm) hq hr e
    · intro h l hl
      simp only [S'] at hl
      split at hl
      · simpa using hl
      · simp at hl
  have hargs : RdArgs w (okb S' Hin L) L args' vs := by
    cases hf : fresh with
    | true =>
      obtain ⟨k1, k2⟩ := hfit.args s hvs
      refine ⟨k1, fun i a hi => ?_⟩
      obtain ⟨u, k3, k4⟩ := k2 i a hi
      refine ⟨u, k3, Rd.mono (fun b _ hb => ⟨?_, fun h q hn hq => hb.2 h q (hlive h hn) hn hq⟩) k4⟩
      show G b ∨ wr b
      left
      show if fresh = true then True else _
      rw [if_pos hf]; trivial
    | false =>
      rw [← hfr hf]
      obtain ⟨k1, k2⟩ := hvs
      exact ⟨k1, fun i a hi => let ⟨u, k3, k4⟩ := k2 i a hi; ⟨u, k3, Rd.mono (fun b _ hb => hokb b hb) k4⟩⟩
  refine (hac.2 S' w L vs (fun b h => .inl h) (fun h hh => by simp [S', hh]) s' hargs).mono ?_
  rintro e w' ⟨u, L', r, H', rfl, s2, hr, hpost⟩
  obtain ⟨hnew, hsolid, hk⟩ := hK r H' hpost
  -- where the names lie behind the call
  let q : Nat → Bool := fun h => !liveB H' h
  let L2 : Loc := fun h => if liveB H' h = true then L' h else L h
  let H2 : Hp := Hp.over (H'.scrub q) (H.scrub p) Hin
  have hkeep : Keep w S.wr w' := s2.keep.mono fun b _ h => hwr b h
  have hpinned : ∀ h, pn h = true → L' h = L h := fun h hh => s2.pin h (L h) (by simp [S', hh])
  have live2 : ∀ h, H2 h ≠ none ↔ (H' h ≠ none ∨ (Hin h = none ∧ H h ≠ none)) := by
    intro h
    simp only [H2, Hp.over, Hp.scrub]
    cases h1 : H' h with
    | some B => simp
    | none =>
      cases h2 : Hin h with
      | some B => simp
      | none => simp
  have lb : ∀ h, liveB H' h = true ↔ H' h ≠ none := by
    intro h; simp only [liveB]; cases H' h <;> simp
  have L2in : ∀ h, H' h ≠ none → L2 h = L' h := fun h hh => by simp only [L2]; rw [if_pos ((lb h).2 hh)]
  have L2out : ∀ h, H' h = none → L2 h = L h := fun h hh => by
    simp only [L2]; rw [if_neg (by rw [lb]; simpa using hh)]
  have hL : ∀ h, p h = false → L2 h = L h := by
    intro h hp
    by_cases hh : H' h = none
    · exact L2out h hh
    · rw [L2in h hh]
      by_cases hi : Hin h = none
      · have := hnew h hh hi; simp [hp] at this
      · exact hpinned h (hp1 h hi hp)
  -- blocks of the callee's names: old ones of Hin, or new ones
  have hblk' : ∀ h q, H' h ≠ none → L' h = some q → wr q.1 := fun h q hn hq => s2.own h q hn hq
  have hrest : ∀ h q, H' h = none → Hin h = none → H h ≠ none → L h = some q → ¬ wr q.1 := by
    rintro h q h1 h2 h3 h4 (hw | ⟨g, r, hg, hr, e⟩)
    · have := hlt h q h3 h4; omega
    · have := s.inj g h r q (hlive g hg) h3 hr h4 e
      exact hg (this ▸ h2)
  have hsame : ∀ b, b < w.heap.size → okb S H L b → okb S H2 L2 b ∧ w'.heap[b]? = w.heap[b]? := by
    intro b hb ho
    have hnw : ¬ wr b := by
      rintro (h | ⟨h, r, hh, hr, e⟩)
      · omega
      · exact ho.2 h r (hlive h hh) hr e
    refine ⟨⟨ho.1, fun h r hn hr e => ?_⟩, s2.keep.blk b hb hnw⟩
    by_cases hh : H' h = none
    · rw [L2out h hh] at hr
      exact ho.2 h r (((live2 h).1 hn).resolve_left (by simpa using hh)).2 hr e
    · rw [L2in h hh] at hr
      exact hnw (e ▸ hblk' h r hh hr)
  -- what the callee's names and its result read as, for us
  have conv : ∀ b, b < w'.heap.size → okb S' H' L' b → fresh = false → okb S H2 L2 b := by
    intro b hb ho hf
    have hGw : okb S H L b ∨ wr b := by
      have := ho.1
      rcases this with h | h
      · left
        have h' : (if fresh = true then True else okb S H L b) := h
        rwa [if_neg (by simp [hf])] at h'
      · exact .inr h
    refine ⟨?_, fun h r hn hr e => ?_⟩
    · rcases hGw with h | h
      · exact h.1
      · exact S.sub b (hwr b h)
    · by_cases hh : H' h = none
      · rw [L2out h hh] at hr
        obtain ⟨h1, h2⟩ := ((live2 h).1 hn).resolve_left (by simpa using hh)
        rcases hGw with hg | hg
        · exact hg.2 h r h2 hr e
        · exact hrest h r hh h1 h2 hr (e ▸ hg)
      · rw [L2in h hh] at hr
        exact ho.2 h r hh hr e
  have hq : ∀ h, q h = false → L2 h = L' h := by
    intro h hh
    simp only [q, Bool.not_eq_false'] at hh
    exact L2in h ((lb h).1 hh)
  have s3 : Sim N.n w0 S w' tm L2 (A.scrub p) H2 := by
    refine s.step hkeep hsame hL ?_ ?_ ?_ ?_
    · intro h l hl
      by_cases hnp : N.pn h = true
      · exact hL h (hp2 h hnp)
      · simp [hS.free h (by simpa using hnp)] at hl
    · intro h B hB
      by_cases hh : H' h = none
      · have hB' : Hin h = none ∧ (H h).map (Blk.scrub p) = some B := by
          simp only [H2, Hp.over, Hp.scrub, hh, Option.map_none] at hB
          split at hB
          · simp at hB
          · rename_i hi; exact ⟨by simpa using hi, hB⟩
        obtain ⟨hi, hB'⟩ := hB'
        rw [L2out h hh]
        cases hH : H h with
        | none => simp [hH] at hB'
        | some B0 =>
          simp only [hH, Option.map_some, Option.some.injEq] at hB'
          subst hB'
          refine BlkOk.step hsame hkeep.shape hL (fun r hr => ?_) (s.blk h B0 hH)
          exact s2.keep.blk r.1 (hlt h r (by simp [hH]) hr) (hrest h r hh hi (by simp [hH]) hr)
      · rw [L2in h hh]
        cases hH' : H' h with
        | none => exact absurd hH' hh
        | some B0 =>
          simp only [H2, Hp.over, Hp.scrub, hH', Option.map_some, Option.some.injEq] at hB
          subst hB
          have hb0 := s2.blk h B0 hH'
          have hb1 : BlkOk w' w' (okb S H2 L2) L' (L' h) B0 := by
            cases hf : fresh with
            | true => exact hb0.solid ((hsolid hf).2 h B0 hH')
            | false =>
              have := BlkOk.step (w := w') (w' := w') (wh := w') (wh' := w') (ok := okb S' H' L') (ok' := okb S H2 L2) (L := L') (L' := L') (p := fun _ => false) (fun b hb ho => ⟨conv b hb ho hf, rfl⟩) (Shape.refl w') (fun _ _ => rfl) (fun _ _ => rfl) hb0
              rwa [Blk.scrub_none] at this
          exact BlkOk.step (p := q) (fun b _ hb => ⟨hb, rfl⟩) (Shape.refl w') hq (fun _ _ => rfl) hb1
    · intro h r hn hr
      by_cases hh : H' h = none
      · rw [L2out h hh] at hr
        exact s.own h r (((live2 h).1 hn).resolve_left (by simpa using hh)).2 hr
      · rw [L2in h hh] at hr
        exact hwr _ (hblk' h r hh hr)
    · intro h g r t hn hm hr ht e
      by_cases hh : H' h = none <;> by_cases hg : H' g = none
      · rw [L2out h hh] at hr; rw [L2out g hg] at ht
        exact s.inj h g r t (((live2 h).1 hn).resolve_left (by simpa using hh)).2 (((live2 g).1 hm).resolve_left (by simpa using hg)).2 hr ht e
      · rw [L2out h hh] at hr; rw [L2in g hg] at ht
        obtain ⟨h1, h2⟩ := ((live2 h).1 hn).resolve_left (by simpa using hh)
        exact absurd (e ▸ hblk' g t hg ht) (hrest h r hh h1 h2 hr)
      · rw [L2in h hh] at hr; rw [L2out g hg] at ht
        obtain ⟨h1, h2⟩ := ((live2 g).1 hm).resolve_left (by simpa using hg)
        exact absurd (e ▸ hblk' h r hh hr) (hrest g t hg h1 h2 ht)
      · rw [L2in h hh] at hr; rw [L2in g hg] at ht
        exact s2.inj h g r t hh hg hr ht e
  refine ⟨u, _, L2, _, H2, rfl, s3, ?_, hk⟩
  have hr1 : Rd w' (okb S H2 L2) L' r u := by
    cases hf : fresh with
    | true => exact Rd.solid _ _ _ (hsolid hf).1 hr
    | false => exact Rd.mono (fun b hb ho => conv b hb ho hf) hr
  exact Rd.step (p := q) (fun b _ hb => ⟨hb, rfl⟩) (Shape.refl w') r L' L2 u hq hr1

end
end Go.Av

/- What may be forgotten, frozen, renamed; contents of blocks by lists. -/
import Derived.Test.YtfgblelbhlpfjaaAv13
namespace Go.Av

def BFits (H : Hp) (D : Nat → Prop) : Blk → Blk → Prop
  | .cells n g, .cells m f => n = m ∧ ∀ i, i < n → Fits H D (g i) (f i)
  | .mp kv, .mp kv' => kv = kv'
  | _, _ => False

theorem BFits.refl (H : Hp) (D : Nat → Prop) (B : Blk) : BFits H D B B := by
  cases B with
  | cells n f => exact ⟨rfl, fun i _ => .refl _⟩
  | mp kv => rfl

def AV.ren (ρ : Nat → Nat) : AV → AV
  | .own h off sz n => .own (ρ h) off sz n
  | .ref h off => .ref (ρ h) off
  | .map h => .map (ρ h)
  | .agg n f => .agg n fun i => (f i).ren ρ
  | .tup n f => .tup n fun i => (f i).ren ρ
  | .clo g n f => .clo g n fun i => (f i).ren ρ
  | a => a
def Blk.ren (ρ : Nat → Nat) : Blk → Blk
  | .cells n f => .cells n fun i => (f i).ren ρ
  | .mp kv => .mp (kv.map fun x => (x.1, x.2.ren ρ))

theorem Rd.ren {w : World} {ok : Nat → Prop} {L : Loc} (ρ : Nat → Nat) : ∀ (a : AV) (u : Value), Rd w ok L (a.ren ρ) u → Rd w ok (fun h => L (ρ h)) a u := by
  intro a
  induction a with
  | v x => intro u h; exact h
  | list nn sz n f ih => intro u h; exact h
  | own h off sz n => intro u h; exact h
  | ref h off => intro u h; exact h
  | ptr n f ih => intro u h; exact h
  | agg n f ih => rintro u ⟨cs, hu, h1, h2⟩; exact ⟨cs, hu, h1, fun i hi => let ⟨c, k1, k2⟩ := h2 i hi; ⟨c, k1, ih i _ k2⟩⟩
  | tup n f ih => rintro u ⟨cs, hu, h1, h2⟩; exact ⟨cs, hu, h1, fun i hi => let ⟨c, k1, k2⟩ := h2 i hi; ⟨c, k1, ih i _ k2⟩⟩
  | clo g n f ih => rintro u ⟨cs, hu, h1, h2⟩; exact ⟨cs, hu, h1, fun i hi => let ⟨c, k1, k2⟩ := h2 i hi; ⟨c, k1, ih i _ k2⟩⟩
  | map h => intro u h; exact h
  | dead => intro u _; trivial

section
variable {N : Cx} {A A' : Fr} {H H' : Hp}

theorem Sub.refl (N : Cx) (A : Fr) (H : Hp) : Sub N A H A H := fun _ _ _ _ _ L s => ⟨L, s⟩
theorem Sub.trans {A2 : Fr} {H2 : Hp} (h : Sub N A H A2 H2) (k : Sub N A2 H2 A' H') : Sub N A H A' H' := fun w0 S hS w tm L s =>
  let ⟨L1, s1⟩ := h w0 S hS w tm L s
  k w0 S hS w tm L1 s1

/-- Forget, and freeze the names of D. -/
theorem Sub.fits (D : Nat → Prop) (hA : ∀ i c, A'.get i = some c → ∃ a, A.get i = some a ∧ Fits H D a c) (hH : ∀ h B', H' h = some B' → ¬ D h ∧ ∃ B, H h = some B ∧ BFits H D B B') : Sub N A H A' H' := by
  intro w0 S hS w tm L s
  have live : ∀ h, H' h ≠ none → ¬ D h ∧ H h ≠ none := by
    intro h hn
    cases hB : H' h with
    | none => exact absurd hB hn
    | some B => obtain ⟨h1, B0, h2, _⟩ := hH h B hB; exact ⟨h1, by simp [h2]⟩
  have hok : ∀ b, okD S H L D b → okb S H' L b := fun b hb => ⟨hb.1, fun h q hn hq => hb.2 h q (live h hn).2 (live h hn).1 hq⟩
  have hok' : ∀ b, okb S H L b → okb S H' L b := fun b hb => ⟨hb.1, fun h q hn hq => hb.2 h q (live h hn).2 hq⟩
  refine ⟨L, s.keep, s.size, fun i c hc => ?_, fun h B' hB' => ?_, fun h q hn hq => s.own h q (live h hn).2 hq, fun h g q r hn hm hq hr e => s.inj h g q r (live h hn).2 (live g hm).2 hq hr e, s.pin⟩
  · obtain ⟨a, h1, h2⟩ := hA i c hc
    exact Rd.mono (fun b _ hb => hok b hb) (h2.rd s _ (s.slot i a h1))
  · obtain ⟨_, B, h1, h2⟩ := hH h B' hB'
    have hb := s.blk h B h1
    cases B with
    | cells n g =>
      cases B' with
      | cells m f =>
        obtain ⟨rfl, hf⟩ := h2
        cases hl : L h with
        | none => rw [hl] at hb; exact hb
        | some q =>
          rw [hl] at hb
          obtain ⟨cs, e, k1, k2, k3⟩ := hb
          exact ⟨cs, e, k1, k2, fun i hi => let ⟨c, k4, k5⟩ := k3 i hi; ⟨c, k4, Rd.mono (fun b _ hb => hok b hb) ((hf i hi).rd s _ k5)⟩⟩
      | mp kv => exact h2.elim
    | mp kv =>
      cases B' with
      | cells m f => exact h2.elim
      | mp kv' =>
        have e : kv = kv' := h2
        subst e
        have := BlkOk.step (w := w) (w' := w) (wh := w) (wh' := w) (ok := okb S H L) (ok' := okb S H' L) (L := L) (L' := L) (p := fun _ => false) (fun b _ hb => ⟨hok' b hb, rfl⟩) (Shape.refl w) (fun _ _ => rfl) (fun _ _ => rfl) hb
        rwa [Blk.scrub_none] at this

/-- Forget. -/
theorem Sub.mk (hA : ∀ i c, A'.get i = some c → A.get i = some c) (hH : ∀ h B, H' h = some B → H h = some B) : Sub N A H A' H' :=
  Sub.fits (fun _ => False) (fun i c hc => ⟨c, hA i c hc, .refl c⟩) (fun h B hB => ⟨id, B, hH h B hB, BFits.refl _ _ _⟩)

/-- Every pair of a frame stands in another. -/
def Fr.sub (A : Fr) : Fr → Prop
  | [] => True
  | (i, a) :: r => A.get i = some a ∧ Fr.sub A r
theorem Fr.sub_get : ∀ (A' : Fr) (A : Fr), Fr.sub A A' → ∀ i c, A'.get i = some c → A.get i = some c
  | [], A, _, i, c, h => by simp [Fr.get] at h
  | (j, a) :: r, A, h, i, c, hc => by
    simp only [Fr.get] at hc
    split at hc
    · rename_i e; subst e; simp only [Option.some.injEq] at hc; subst hc; exact h.1
    · exact Fr.sub_get r A h.2 i c hc

/-- Each pair of a frame fits one of another. -/
def Fr.fit (H : Hp) (D : Nat → Prop) (A : Fr) : Fr → Prop
  | [] => True
  | (i, c) :: r => (∃ a, A.get i = some a ∧ Fits H D a c) ∧ Fr.fit H D A r
theorem Fr.fit_get {D : Nat → Prop} : ∀ (A' : Fr) (A : Fr), Fr.fit H D A A' → ∀ i c, A'.get i = some c → ∃ a, A.get i = some a ∧ Fits H D a c
  | [], A, _, i, c, h => by simp [Fr.get] at h
  | (j, a) :: r, A, h, i, c, hc => by
    simp only [Fr.get] at hc
    split at hc
    · rename_i e; subst e; simp only [Option.some.injEq] at hc; subst hc; exact h.1
    · exact Fr.fit_get r A h.2 i c hc

theorem Sub.to (hA : Fr.sub A A') (hH : ∀ h B, H' h = some B → H h = some B) : Sub N A H A' H' := Sub.mk (Fr.sub_get A' A hA) hH
/-- Forget, the heap staying. -/
theorem Sub.fr (hA : Fr.sub A A') : Sub N A H A' H := Sub.to hA fun _ _ h => h

/-- Names turned: the name h now means what ρ h meant. -/
theorem Sub.ren (ρ : Nat → Nat) (hA : ∀ i c, A'.get i = some c → A.get i = some (c.ren ρ)) (hH : ∀ h B, H' h = some B → H (ρ h) = some (B.ren ρ))
    (hinj : ∀ h g, H' h ≠ none → H' g ≠ none → ρ h = ρ g → h = g) (hpn : ∀ h, N.pn h = true → ρ h = h) : Sub N A H A' H' := by
  intro w0 S hS w tm L s
  have live : ∀ h, H' h ≠ none → H (ρ h) ≠ none := by
    intro h hn
    cases hB : H' h with
    | none => exact absurd hB hn
    | some B => rw [hH h B hB]; simp
  have hok : ∀ b, okb S H L b → okb S H' (fun h => L (ρ h)) b := fun b hb => ⟨hb.1, fun h q hn hq => hb.2 (ρ h) q (live h hn) hq⟩
  refine ⟨fun h => L (ρ h), s.keep, s.size, fun i c hc => ?_, fun h B hB => ?_, fun h q hn hq => s.own (ρ h) q (live h hn) hq,
    fun h g q r hn hm hq hr e => hinj h g hn hm (s.inj (ρ h) (ρ g) q r (live h hn) (live g hm) hq hr e), fun h l hl => ?_⟩
  · exact Rd.mono (fun b _ hb => hok b hb) (Rd.ren ρ c _ (s.slot i _ (hA i c hc)))
  · have hb := s.blk (ρ h) _ (hH h B hB)
    cases B with
    | cells n f =>
      cases hl : L (ρ h) with
      | none => simp only [hl, BlkOk, Blk.ren] at hb; simp only [BlkOk]; exact hb
      | some q =>
        rw [hl] at hb
        obtain ⟨cs, e, k1, k2, k3⟩ := hb
        exact ⟨cs, e, k1, k2, fun i hi => let ⟨c, k4, k5⟩ := k3 i hi; ⟨c, k4, Rd.mono (fun b _ hb => hok b hb) (Rd.ren ρ _ _ k5)⟩⟩
    | mp kv =>
      cases hl : L (ρ h) with
      | none => rw [hl] at hb; exact hb.elim
      | some q =>
        rw [hl] at hb
        obtain ⟨es, c, k1, k2, k3⟩ := hb
        refine ⟨es, c, k1, by simpa using k2, fun i e he => ?_⟩
        obtain ⟨a, k4, k5⟩ := k3 i e he
        simp only [List.getElem?_map] at k4
        cases hk : kv[i]? with
        | none => simp [hk] at k4
        | some x =>
          simp only [hk, Option.map_some, Option.some.injEq, Prod.mk.injEq] at k4
          obtain ⟨k6, k7⟩ := k4
          subst k7
          exact ⟨x.2, by simp [← k6], Rd.mono (fun b _ hb => hok b hb) (Rd.ren ρ _ _ k5)⟩
  · by_cases hn : N.pn h = true
    · rw [hpn h hn]; exact s.pin h l hl
    · simp [hS.free h (by simpa using hn)] at hl

/-- A slot that holds nil: a slice of our own, with nothing in it. -/
theorem Sub.nil {i : Nat} (d sz : Nat) (f : Nat → AV) (hi : A.get i = some (.v (.slice none 0 0))) (hd : N.pn d = false) :
    Sub N A H ((i, .own d 0 sz 0) :: A.scrub (· == d)) ((H.upd d (.cells 0 f)).scrub (· == d)) := by
  intro w0 S hS w tm L s
  have s2 := s.nil hS d f hd
  refine ⟨_, s2.keep, s2.size, fun j a hj => ?_, s2.blk, s2.own, s2.inj, s2.pin⟩
  simp only [Fr.get] at hj
  split at hj
  · rename_i e
    subst e
    simp only [Option.some.injEq] at hj
    subst hj
    have : tm.getD i undef = .slice none 0 0 := s.slot i _ hi
    simp [Rd, this]
  · exact s2.slot j a hj

end

/- contents by lists -/
def cM {α : Type} (g : α → AV) (d : α) (xs : List α) : Nat → AV := fun i => g (xs.getD i d)
theorem cM_app {α : Type} (g : α → AV) (d : α) (xs : List α) (i : Nat) : cM g d xs i = g (xs.getD i d) := rfl
def iv (n : Int) : AV := .v (.int .i64 n)
def bv (b : Bool) : AV := .v (.bool b)
def sv (s : ByteArray) : AV := .v (.string s)
def uv (n : UInt8) : AV := .v (.int .u8 n.toNat)
/-- A slice of int64 that is only read. -/
def ints (xs : List Int) : AV := .list false 1 xs.length (cM iv 0 xs)
/-- A slice of slices of int64 that is only read. -/
def intss (xss : List (List Int)) : AV := .list false 1 xss.length (cM ints [] xss)

theorem getD_append {α : Type} (xs ys : List α) (d : α) (j : Nat) : (xs ++ ys).getD j d = if j < xs.length then xs.getD j d else ys.getD (j - xs.length) d := by
  simp only [List.getD_eq_getElem?_getD, List.getElem?_append]
  split <;> rfl
theorem apF_cM {α : Type} (g : α → AV) (d : α) (xs ys : List α) : apF xs.length (cM g d xs) (cM g d ys) = cM g d (xs ++ ys) := by
  funext j
  simp only [apF, cM, getD_append]
  split <;> rfl
theorem shF_zero (f : Nat → AV) : shF 0 f = f := by funext j; simp [shF]
theorem shF_cM {α : Type} (g : α → AV) (d : α) (xs : List α) (k : Nat) : shF k (cM g d xs) = cM g d (xs.drop k) := by
  funext j; simp [shF, cM, List.getD_eq_getElem?_getD, List.getElem?_drop]
theorem setF_cM {α : Type} (g : α → AV) (d : α) (xs : List α) (i : Nat) (x : α) (h : i < xs.length) : setF (cM g d xs) i (g x) = cM g d (xs.set i x) := by
  funext j
  simp only [setF, cM, List.getD_eq_getElem?_getD, List.getElem?_set]
  by_cases hj : j = i
  · subst hj; simp [h]
  · rw [if_neg hj, if_neg (by omega)]

end Go.Av

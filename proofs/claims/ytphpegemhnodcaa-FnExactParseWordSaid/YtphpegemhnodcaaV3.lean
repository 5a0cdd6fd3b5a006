import Derived.Test.YtphpegemhnodcaaV2
import Derived.ProofKit
import Derived.OpenShut
import Derived.ShutString
import Derived.ChangeOld
import Derived.Below
import Derived.Carry
import Derived.Deep.Slices
import Derived.Lib.SmallJoins
import Derived.Calls
/- The heap told anew: names turned, nil told as a slice of our own, and cells told one by one. -/
section
namespace Go.Av
/-- A hypothesis that the walk is not to see. -/
structure Hold (p : Prop) : Prop where
  h : p
section
variable {N : Cx} {A A' : Fr} {H H' : Hp}
/-- How what is told before (by old names) is told afterwards (by new ones): ρ gives the old name of a new one; a new name without an old one is a nil slice. -/
inductive Lay (ρ : Nat → Option Nat) : AV → AV → Prop
  | own {h g off sz n : Nat} : ρ h = some g → Lay ρ (.own g off sz n) (.own h off sz n)
  | ref {h g off : Nat} : ρ h = some g → Lay ρ (.ref g off) (.ref h off)
  | nil {h sz : Nat} : ρ h = none → Lay ρ (.v (.slice none 0 0)) (.own h 0 sz 0)
  | plain {a : AV} : a.plain → Lay ρ a a
  | agg {n : Nat} {f g : Nat → AV} : (∀ i, i < n → Lay ρ (f i) (g i)) → Lay ρ (.agg n f) (.agg n g)
  | map {h g : Nat} : ρ h = some g → Lay ρ (.map g) (.map h)
  | dead (a : AV) : Lay ρ a .dead
theorem Lay.rd {ρ : Nat → Option Nat} {w : World} {ok : Nat → Prop} {L : Loc} {a c : AV} (h : Lay ρ a c) : ∀ u, Rd w ok L a u → Rd w ok (fun h => (ρ h).bind L) c u := by
  induction h with
  | @own h g off sz n e => intro u hu; simp only [Rd, e, Option.bind_some] at hu ⊢; exact hu
  | @ref h g off e => intro u hu; simp only [Rd, e, Option.bind_some] at hu ⊢; exact hu
  | @nil h sz e => intro u hu; simp only [Rd, e, Option.bind_none] at hu ⊢; exact ⟨hu, trivial⟩
  | @plain a hp => intro u hu; exact Rd.plain a _ _ u hp hu
  | @agg n f g _ ih => rintro u ⟨cs, h1, h2, h3⟩; exact ⟨cs, h1, h2, fun i hi => let ⟨c, k1, k2⟩ := h3 i hi; ⟨c, k1, ih i hi _ k2⟩⟩
  | @map h g e => intro u hu; simp only [Rd, e, Option.bind_some] at hu ⊢; exact hu
  | dead a => intro u _; trivial
/-- .. where some blocks are maps. -/
theorem Sub.layM (ρ : Nat → Option Nat) (hpn : N.pn = fun _ => false) (hA : ∀ i c, A'.get i = some c → ∃ a, A.get i = some a ∧ Lay ρ a c)
    (hH : ∀ h B', H' h = some B' → (∃ g n f f', ρ h = some g ∧ B' = .cells n f' ∧ H g = some (.cells n f) ∧ ∀ i, i < n → Lay ρ (f i) (f' i)) ∨ (ρ h = none ∧ ∃ f, B' = .cells 0 f) ∨ (∃ g kv, ρ h = some g ∧ B' = .mp kv ∧ H g = some (.mp kv) ∧ ∀ x ∈ kv, x.2.plain))
    (hinj : ∀ h g k, H' h ≠ none → H' g ≠ none → ρ h = some k → ρ g = some k → h = g) : Sub N A H A' H' := by
  intro w0 S hS w tm L s
  have live : ∀ h k, H' h ≠ none → ρ h = some k → H k ≠ none := by
    intro h k hn e
    cases hB : H' h with
    | none => exact absurd hB hn
    | some B =>
      rcases hH h B hB with ⟨g, n, f, f', e1, _, e2, _⟩ | ⟨e1, _⟩ | ⟨g, kv, e1, _, e2, _⟩
      · rw [e] at e1; simp only [Option.some.injEq] at e1; subst e1; rw [e2]; simp
      · rw [e] at e1; simp at e1
      · rw [e] at e1; simp only [Option.some.injEq] at e1; subst e1; rw [e2]; simp
  have dec : ∀ h q, ((ρ h).bind L) = some q → ∃ k, ρ h = some k ∧ L k = some q := by
    intro h q hq
    cases e : ρ h with
    | none => rw [e] at hq; simp at hq
    | some k => rw [e] at hq; exact ⟨k, rfl, hq⟩
  have hok : ∀ b, okb S H L b → okb S H' (fun h => (ρ h).bind L) b := fun b hb => ⟨hb.1, fun h q hn hq => by
    obtain ⟨k, e1, e2⟩ := dec h q hq
    exact hb.2 k q (live h k hn e1) e2⟩
  refine ⟨fun h => (ρ h).bind L, s.keep, s.size, fun i c hc => ?_, fun h B hB => ?_, fun h q hn hq => ?_, fun h g q r hn hm hq hr e => ?_, fun h l hl => ?_⟩
  · obtain ⟨a, h1, h2⟩ := hA i c hc
    exact Rd.mono (fun b _ hb => hok b hb) (h2.rd _ (s.slot i a h1))
  · rcases hH h B hB with ⟨g, n, f, f', e1, rfl, e2, e3⟩ | ⟨e1, f, rfl⟩ | ⟨g, kv, e1, rfl, e2, e3⟩
    · have hb := s.blk g _ e2
      simp only [e1, Option.bind_some]
      cases hl : L g with
      | none => rw [hl] at hb; exact hb
      | some q =>
        rw [hl] at hb
        obtain ⟨cs, e, k1, k2, k3⟩ := hb
        exact ⟨cs, e, k1, k2, fun i hi => let ⟨c, k4, k5⟩ := k3 i hi; ⟨c, k4, Rd.mono (fun b _ hb => hok b hb) ((e3 i hi).rd _ k5)⟩⟩
    · simp only [e1, Option.bind_none]; rfl
    · have hb := s.blk g _ e2
      simp only [e1, Option.bind_some]
      cases hl : L g with
      | none => rw [hl] at hb; exact hb.elim
      | some q =>
        rw [hl] at hb
        obtain ⟨es, clock, k1, k2, k3⟩ := hb
        exact ⟨es, clock, k1, k2, fun i e he => let ⟨a, k4, k5⟩ := k3 i e he; ⟨a, k4, Rd.mono (fun b _ hb => hok b hb) (Rd.plain a _ _ _ (e3 _ (List.mem_of_getElem? k4)) k5)⟩⟩
  · obtain ⟨k, e1, e2⟩ := dec h q hq
    exact s.own k q (live h k hn e1) e2
  · obtain ⟨k1, e1, e2⟩ := dec h q hq
    obtain ⟨k2, e3, e4⟩ := dec g r hr
    have := s.inj k1 k2 q r (live h k1 hn e1) (live g k2 hm e3) e2 e4 e
    subst this
    exact hinj h g k1 hn hm e1 e3
  · rw [hS.free h (by rw [hpn])] at hl; simp at hl
theorem Sub.lay (ρ : Nat → Option Nat) (hpn : N.pn = fun _ => false) (hA : ∀ i c, A'.get i = some c → ∃ a, A.get i = some a ∧ Lay ρ a c)
    (hH : ∀ h B', H' h = some B' → (∃ g n f f', ρ h = some g ∧ B' = .cells n f' ∧ H g = some (.cells n f) ∧ ∀ i, i < n → Lay ρ (f i) (f' i)) ∨ (ρ h = none ∧ ∃ f, B' = .cells 0 f))
    (hinj : ∀ h g k, H' h ≠ none → H' g ≠ none → ρ h = some k → ρ g = some k → h = g) : Sub N A H A' H' :=
  Sub.layM ρ hpn hA (fun h B' hB => (hH h B' hB).elim .inl (fun k => .inr (.inl k))) hinj
theorem lay_nil {ρ : Nat → Option Nat} : ∀ i c, Fr.get [] i = some c → ∃ a, A.get i = some a ∧ Lay ρ a c := fun i c h => by simp [Fr.get] at h
theorem lay_cons {ρ : Nat → Option Nat} {t : Nat} {a : AV} {r : Fr} (h0 : ∃ b, A.get t = some b ∧ Lay ρ b a) (h : ∀ i c, Fr.get r i = some c → ∃ a, A.get i = some a ∧ Lay ρ a c) : ∀ i c, Fr.get ((t, a) :: r) i = some c → ∃ a, A.get i = some a ∧ Lay ρ a c := fun i c e => by
  simp only [Fr.get] at e
  split at e
  · rename_i e1; subst e1; simp only [Option.some.injEq] at e; subst e; exact h0
  · exact h i c e
theorem end_post {P : Program} {fn : Func} {t : Tmp} {a : AV} {post : AV → Hp → Prop} (hr : fn.results.toList = [.tmp t]) (hA : A.get t = some a) (hl : Hp.le H' H) (hp : post a H') : endQ P N fn post .ret A H :=
  ⟨A, H', Sub.mk (fun _ _ h => h) hl, by rw [hr]; simp only [resVC, hA]; exact hp⟩
/-- Each block told in H1 stands in H, and fits what is told of it (the names of D are frozen). -/
def LeF (D : Nat → Prop) (H1 H : Hp) : Prop := ∀ x B, H1 x = some B → ¬ D x ∧ ∃ B', H x = some B' ∧ BFits H D B' B
theorem leF_emp {D : Nat → Prop} : LeF D Hp.emp H := fun x B h => by simp [Hp.emp] at h
theorem leF_upd {D : Nat → Prop} {h : Nat} {B B' : Blk} (k : H h = some B') (e : BFits H D B' B) (r : LeF D H' H) (hD : ¬ D h) : LeF D (H'.upd h B) H := fun x C hC => by
  unfold Hp.upd at hC
  split at hC
  · rename_i e1; subst e1; simp only [Option.some.injEq] at hC; subst hC; exact ⟨hD, B', k, e⟩
  · exact r x C hC
theorem bfE {D : Nat → Prop} {n m : Nat} {f g : Nat → AV} (hn : n = m) (h : ∀ i, i < n → f i = g i) : BFits H D (.cells n f) (.cells m g) := ⟨hn, fun i hi => by rw [h i hi]; exact .refl _⟩
theorem Sub.toLF (hA : Fr.sub A A') (hH : LeF (fun _ => False) H' H) : Sub N A H A' H' := Sub.fits (fun _ => False) (fun i c hc => ⟨c, Fr.sub_get A' A hA i c hc, .refl c⟩) hH
theorem Sub.toFF (D : Nat → Prop) (hA : Fr.fit H D A A') (hH : LeF D H' H) : Sub N A H A' H' := Sub.fits D (Fr.fit_get A' A hA) hH
/-- The end of a function whose result lies in a cell. -/
theorem end_postC {P : Program} {fn : Func} {t : Tmp} {ty : TypeId} {h n : Nat} {z : List Value} {f g : Nat → AV} {post : AV → Hp → Prop} (hr : fn.results.toList = [.cell t ty]) (hA : A.get t = some (.ref h 0)) (hty : tyOf P ty = some ⟨true, n, z⟩) (hH : H h = some (.cells n f)) (hg : ∀ i, i < n → f i = g i)
    (hl : LeF (fun _ => False) H' H) (hne : H' h = none) (hp : post (.agg n g) H') : endQ P N fn post .ret A H := by
  refine ⟨A, H'.upd h (.cells n g), Sub.fits (fun _ => False) (fun i c hc => ⟨c, hc, .refl c⟩) (leF_upd hH (bfE rfl hg) hl id), ?_⟩
  rw [hr]
  simp only [resVC, hA, withA_some, hty, ldVC, Hp.upd, if_true, Ob]
  refine ⟨by omega, H', fun x B hB => ?_, ?_⟩
  · unfold Hp.upd
    split
    · rename_i e; subst e; rw [hne] at hB; cases hB
    · exact hB
  · have : (fun j => g (0 + j)) = g := by funext j; rw [Nat.zero_add]
    rw [this]; exact hp
/-- Each block told in H1 by new names stands in H by old ones. -/
def LayF (ρ : Nat → Option Nat) (H1 H : Hp) : Prop := ∀ h B', H1 h = some B' → (∃ g n f f', ρ h = some g ∧ B' = .cells n f' ∧ H g = some (.cells n f) ∧ ∀ i, i < n → Lay ρ (f i) (f' i)) ∨ (ρ h = none ∧ ∃ f, B' = .cells 0 f) ∨ (∃ g kv, ρ h = some g ∧ B' = .mp kv ∧ H g = some (.mp kv) ∧ ∀ x ∈ kv, x.2.plain)
theorem layF_emp {ρ : Nat → Option Nat} : LayF ρ Hp.emp H := fun x B h => by simp [Hp.emp] at h
theorem layF_upd {ρ : Nat → Option Nat} {h g n : Nat} {f f' : Nat → AV} (e : ρ h = some g) (k : H g = some (.cells n f)) (l : ∀ i, i < n → Lay ρ (f i) (f' i)) (r : LayF ρ H' H) : LayF ρ (H'.upd h (.cells n f')) H := fun x C hC => by
  unfold Hp.upd at hC
  split at hC
  · rename_i e1; subst e1; simp only [Option.some.injEq] at hC; subst hC; exact .inl ⟨g, n, f, f', e, rfl, k, l⟩
  · exact r x C hC
theorem layF_nil {ρ : Nat → Option Nat} {h : Nat} {f' : Nat → AV} (e : ρ h = none) (r : LayF ρ H' H) : LayF ρ (H'.upd h (.cells 0 f')) H := fun x C hC => by
  unfold Hp.upd at hC
  split at hC
  · rename_i e1; subst e1; simp only [Option.some.injEq] at hC; subst hC; exact .inr (.inl ⟨e, f', rfl⟩)
  · exact r x C hC
theorem end_retF2 {P : Program} {fn : Func} {t u : Tmp} {a b a' b' : AV} (hr : fn.results.toList = [.tmp t, .tmp u]) (htu : t ≠ u) (hA : A.get t = some a') (hB : A.get u = some b') (ea : Fits H (fun _ => True) a' a) (eb : Fits H (fun _ => True) b' b) : endQ P N fn (retV (.tup 2 (vecF [a, b]))) .ret A H :=
  ⟨[(t, a), (u, b)], Hp.emp, Sub.fits (fun _ => True) (fun i c hc => by
      simp only [Fr.get] at hc
      split at hc
      · rename_i e1; subst e1; simp only [Option.some.injEq] at hc; subst hc; exact ⟨a', hA, ea⟩
      · split at hc
        · rename_i e1; subst e1; simp only [Option.some.injEq] at hc; subst hc; exact ⟨b', hB, eb⟩
        · simp at hc) (fun h B hB => by simp [Hp.emp] at hB), by rw [hr]; simp only [resVC, Fr.get, if_true, withA_some, htu, if_false]; exact ⟨rfl, rfl⟩⟩
theorem AC.mono {P : Program} {f : FuncId} {args : List AV} {Hin : Hp} {pn : Nat → Bool} {post post' : AV → Hp → Prop} (h : AC P f args Hin pn post) (hq : ∀ r H, post r H → post' r H) : AC P f args Hin pn post' := by
  refine ⟨h.1, fun S w L vs hS hpin s hargs => (h.2 S w L vs hS hpin s hargs).mono ?_⟩
  rintro e w' ⟨u, L', r, H', rfl, s2, hr, hp⟩
  exact ⟨u, L', r, H', rfl, s2, hr, hq r H' hp⟩
end
end Go.Av
end
/- Regions whose order is open and that lay several new blocks: each operation reads what was there before, or lays a block of its own. -/
section
namespace Go.Av
section
variable {P : Program} {N : Cx} {A : Fr} {H H0 : Hp}

theorem Fits.up {D : Nat → Prop} (hle : Hp.le H0 H) {a c : AV} (h : Fits H0 D a c) : Fits H D a c := by
  induction h with
  | refl a => exact .refl a
  | own h1 h2 h3 h4 _ ih => exact .own (hle _ _ h1) h2 h3 h4 ih
  | list h1 h2 _ ih => exact .list h1 h2 ih
  | nil => exact .nil
  | agg _ ih => exact .agg ih
  | ref h1 h2 h3 h4 _ ih => exact .ref (hle _ _ h1) h2 h3 h4 ih
  | clo _ ih => exact .clo ih
  | tup _ ih => exact .tup ih
  | nonnil h1 _ ih => exact .nonnil h1 ih
  | dead a => exact .dead a
theorem FitsL.up {D : Nat → Prop} (hle : Hp.le H0 H) {l r : List AV} (h : FitsL H0 D l r) : FitsL H D l r := by
  induction h with
  | nil => exact .nil
  | cons h _ ih => exact .cons (h.up hle) ih
variable (P N) in
/-- An operation that reads what was there before (H0), or lays a block of its own; M: what is known of the new blocks when it comes. -/
def opF (d : Nat) (op : Op) (A : Fr) (H0 M : Hp) (K : AV → Option (Nat × Blk) → Prop) : Prop :=
  match op with
  | .buildSlice t len ps => match selOf P t, evParts A ps.toList with
    | some se, some l => Ob ((N.pn d = false ∧ 0 < se.size ∧ len * se.size ≤ 16777216) ∧ fillOk (fun i => some (i * se.size, se.size)) (len * se.size) l)
        (K (.own d 0 se.size len) (some (d, .cells (len * se.size) (fillF (fun i => some (i * se.size, se.size)) l (zF se.zero)))))
    | _, _ => False
  | .makeMap t none => match mapOf P t with
    | some _ => Ob (N.pn d = false) (K (.map d) (some (d, .mp [])))
    | none => False
  | .insert t m k x => withA (A.ev m) fun a => withA (A.ev k) fun b => withA (A.ev x) fun c => match mapOf P t, a, b with
    | some _, .map h, .v (.string s) => (match M h with
      | some (.mp kv) => Ob (kvStr kv = true) (Ob (kvHas s kv = false) (K .dead (some (h, .mp (kv ++ [(.string s, c)])))))
      | _ => False)
    | _, _, _ => False
  | .box _ x => withA (A.ev x) fun a => Ob (N.pn d = false) (match aggOf a with
    | some (n, g) => K (.ref d 0) (some (d, .cells n g))
    | none => Ob (a.one = true) (K (.ref d 0) (some (d, .cells 1 fun _ => a))))
  | .alloc t => match tyOf P t with
    | some ty => Ob (N.pn d = false) (K (.ref d 0) (some (d, .cells ty.size (zF ty.zero))))
    | none => False
  | op => opQ P N d op A H0 fun r => K r none

section
variable {bs : List (Option (Nat × Blk))} {li li' : Nat → Bool}
end
def bad (tg a : List Nat) (h : Nat) : Bool := tg.contains h && !a.contains h
def badB (tg a : List Nat) (d h : Nat) : Bool := tg.contains h && (!a.contains h || h == d)
variable (P N) in
/-- The free part, read in its order. -/
def opsF (tg : List Nat) (Q : Fr → Hp → Prop) : List Oper → List (List Nat) → Fr → Hp → Hp → Prop
  | [], _, A, _, M => Q A M
  | o :: l, an, A, H0, M => opF P N (o.dst.getD 0) o.op A H0 M fun r b => Ob (r.scrub (bad tg (an.headD [])) = r) (match b with
    | none => opsF tg Q l an.tail (putd o.dst r A) H0 M
    | some (d, B) => Ob ((an.headD []).contains d = true ∧ B.scrub (badB tg (an.headD []) d) = B) (opsF tg Q l an.tail (putd o.dst r A) H0 (M.upd d B)))
section
variable (d : Nat) (A : Fr) (H0 M : Hp) (K : AV → Option (Nat × Blk) → Prop)
theorem opF_move (x : Operand) : opF P N d (.move x) A H0 M K = opQ P N d (.move x) A H0 fun r => K r none := rfl
theorem opF_load (t : TypeId) (x : Operand) : opF P N d (.load t x) A H0 M K = opQ P N d (.load t x) A H0 fun r => K r none := rfl
theorem opF_fieldAddr (t : TypeId) (x : Operand) (i : Nat) : opF P N d (.fieldAddr t x i) A H0 M K = opQ P N d (.fieldAddr t x i) A H0 fun r => K r none := rfl
theorem opF_indexAddr (t : TypeId) (x y : Operand) : opF P N d (.indexAddr t x y) A H0 M K = opQ P N d (.indexAddr t x y) A H0 fun r => K r none := rfl
theorem opF_nilCheck (x : Operand) : opF P N d (.nilCheck x) A H0 M K = opQ P N d (.nilCheck x) A H0 fun r => K r none := rfl
theorem opF_call (c : Call) : opF P N d (.call c) A H0 M K = opQ P N d (.call c) A H0 fun r => K r none := rfl
theorem opF_binOp (o : BinOp) (t : TypeId) (x y : Operand) (u : TypeId) : opF P N d (.binOp o t x y u) A H0 M K = opQ P N d (.binOp o t x y u) A H0 fun r => K r none := rfl
theorem opF_build (t : TypeId) (ps : Array (Nat × Operand)) : opF P N d (.build t ps) A H0 M K = opQ P N d (.build t ps) A H0 fun r => K r none := rfl
theorem opF_bs (t : TypeId) (len : Nat) (ps : Array (Nat × Operand)) : opF P N d (.buildSlice t len ps) A H0 M K = (match selOf P t, evParts A ps.toList with
    | some se, some l => Ob ((N.pn d = false ∧ 0 < se.size ∧ len * se.size ≤ 16777216) ∧ fillOk (fun i => some (i * se.size, se.size)) (len * se.size) l)
        (K (.own d 0 se.size len) (some (d, .cells (len * se.size) (fillF (fun i => some (i * se.size, se.size)) l (zF se.zero)))))
    | _, _ => False) := rfl
theorem opF_mk (t : TypeId) : opF P N d (.makeMap t none) A H0 M K = (match mapOf P t with
    | some _ => Ob (N.pn d = false) (K (.map d) (some (d, .mp [])))
    | none => False) := rfl
theorem opF_ins (t : TypeId) (m k x : Operand) : opF P N d (.insert t m k x) A H0 M K = (withA (A.ev m) fun a => withA (A.ev k) fun b => withA (A.ev x) fun c => match mapOf P t, a, b with
    | some _, .map h, .v (.string s) => (match M h with
      | some (.mp kv) => Ob (kvStr kv = true) (Ob (kvHas s kv = false) (K .dead (some (h, .mp (kv ++ [(.string s, c)])))))
      | _ => False)
    | _, _, _ => False) := rfl
theorem opF_box (t : TypeId) (x : Operand) : opF P N d (.box t x) A H0 M K = (withA (A.ev x) fun a => Ob (N.pn d = false) (match aggOf a with
    | some (n, g) => K (.ref d 0) (some (d, .cells n g))
    | none => Ob (a.one = true) (K (.ref d 0) (some (d, .cells 1 fun _ => a))))) := rfl
theorem opF_alloc (t : TypeId) : opF P N d (.alloc t) A H0 M K = (match tyOf P t with
    | some ty => Ob (N.pn d = false) (K (.ref d 0) (some (d, .cells ty.size (zF ty.zero))))
    | none => False) := rfl
theorem opsF_nil (tg : List Nat) (Q : Fr → Hp → Prop) (an : List (List Nat)) : opsF P N tg Q [] an A H0 M = Q A M := rfl
theorem opsF_some (tg : List Nat) (Q : Fr → Hp → Prop) (op : Op) (ty : TypeId) (pos : String) (aft : Array Edge) (l : List Oper) (a : List Nat) (an : List (List Nat)) : opsF P N tg Q (⟨some d, op, ty, pos, aft, none⟩ :: l) (a :: an) A H0 M = opF P N d op A H0 M fun r b => Ob (r.scrub (bad tg a) = r) (match b with
    | none => opsF P N tg Q l an ((d, r) :: A) H0 M
    | some (d', B) => Ob (a.contains d' = true ∧ B.scrub (badB tg a d') = B) (opsF P N tg Q l an ((d, r) :: A) H0 (M.upd d' B))) := rfl
theorem opsF_none (tg : List Nat) (Q : Fr → Hp → Prop) (op : Op) (ty : TypeId) (pos : String) (aft : Array Edge) (l : List Oper) (a : List Nat) (an : List (List Nat)) : opsF P N tg Q (⟨none, op, ty, pos, aft, none⟩ :: l) (a :: an) A H0 M = opF P N 0 op A H0 M fun r b => Ob (r.scrub (bad tg a) = r) (match b with
    | none => opsF P N tg Q l an A H0 M
    | some (d', B) => Ob (a.contains d' = true ∧ B.scrub (badB tg a d') = B) (opsF P N tg Q l an A H0 (M.upd d' B))) := rfl
end
attribute [go_sem ↓] opF_move opF_load opF_fieldAddr opF_indexAddr opF_nilCheck opF_call opF_binOp opF_build opF_bs opF_mk opF_ins opF_box opF_alloc opsF_nil opsF_some opsF_none
end
end Go.Av
end
/- Results that stand over blocks of our own; calls that read such blocks. -/
section
namespace Go.Av
section
variable {N : Cx} {A A' : Fr} {H H' : Hp}
theorem end_tup2 {P : Program} {fn : Func} {t u : Tmp} {a b : AV} {post : AV → Hp → Prop} (hr : fn.results.toList = [.tmp t, .tmp u]) (htu : t ≠ u) (s : Sub N A H [(t, a), (u, b)] H') (hp : post (.tup 2 (vecF [a, b])) H') : endQ P N fn post .ret A H :=
  ⟨_, _, s, by rw [hr]; simp only [resVC, Fr.get, if_true, withA_some, htu, if_false]; exact hp⟩
/-- What is told is told anew before a region, if slot t was told last. -/
theorem awp_cutR {P : Program} (id t : Nat) {l : Array Oper} {b : Bool} {x : AV} {A0 : Fr} {Q : Exit → Fr → Hp → Prop} (hs : Sub N ((t, x) :: A0) H A' H') (h : AWP P N (.region id l b) Q A' H') : AWP P N (.region id l b) Q ((t, x) :: A0) H := awp_sub hs h
/-- Names that a contract's results may bear. -/
def pM (h : Nat) : Bool := decide (1000000 ≤ h)
theorem pM_low {h : Nat} (hh : h < 1000000) : pM h = false := by simp [pM]; omega
theorem pM_high {h : Nat} (hh : 1000000 ≤ h) : pM h = true := by simp [pM, hh]
/-- A call that hands back a result over blocks of its own. -/
theorem callHp {P : Program} {f : FuncId} {args : List AV} {pn : Nat → Bool} {post : AV → Hp → Prop} {K : AV → Fr → Hp → Prop} (hac : AC P f args Hp.emp pn post) (hpn : N.pn = fun _ => false)
    (hK : ∀ r H', post r H' → (∀ h, H' h ≠ none → 1000000 ≤ h) ∧ r.scrub (fun h => !liveB H' h) = r ∧ H'.scrub (fun h => !liveB H' h) = H' ∧ K r (A.scrub pM) (H'.add (H.scrub pM))) : CallG P N f args A H K := by
  refine callG_of hac pM false (by simp [Hp.emp]) (FitsL.refl _) (fun _ => rfl) (by simp [Hp.emp]) (by simp [hpn]) ?_
  intro r H' hp
  obtain ⟨h1, h2, h3, h4⟩ := hK r H' hp
  refine ⟨fun h hn _ => pM_high (h1 h hn), by simp, ?_⟩
  rw [h2, h3]
  have e : Hp.over H' (H.scrub pM) Hp.emp = H'.add (H.scrub pM) := by
    funext h
    unfold Hp.over Hp.add
    cases H' h with
    | some B => rfl
    | none => simp [Hp.emp]
  rw [e]; exact h4
/-- A call that reads blocks that are pinned, and hands back a value. -/
theorem callPn {P : Program} {f : FuncId} {args : List AV} {Hin : Hp} {pn : Nat → Bool} {a : AV} {K : AV → Fr → Hp → Prop} (hH : Hp.le Hin H) (hac : AC P f args Hin pn (fun r H => r = a ∧ H = Hin)) (hp : ∀ h, Hin h ≠ none → pn h = true)
    (ha : a.scrub (fun h => !liveB Hin h) = a) (hs : Hin.scrub (fun h => !liveB Hin h) = Hin) (hK : K a A H) : CallG P N f args A H K := by
  refine callG_of hac (fun _ => false) false hH (FitsL.refl _) (fun _ => rfl) (fun h hn _ => hp h hn) (by simp) ?_
  rintro r H' ⟨rfl, rfl⟩
  refine ⟨fun h h1 h2 => absurd h2 h1, by simp, ?_⟩
  rw [ha, hs, Fr.scrub_none, Hp.scrub_none]
  have e : Hp.over H' H H' = H := by
    funext h
    unfold Hp.over
    cases e2 : H' h with
    | some B => exact (hH h B e2).symm
    | none => simp
  rw [e]; exact hK
theorem upd_add (X R : Hp) (h : Nat) (B : Blk) : (X.upd h B).add R = (X.add R).upd h B := by
  funext g
  unfold Hp.add Hp.upd
  by_cases e : g = h <;> simp [e]
theorem emp_add (R : Hp) : Hp.emp.add R = R := rfl
end
end Go.Av
end
/- Calls that read pinned blocks, and hand back new rows beside them. -/
section
namespace Go.Av
section
variable {P : Program} {N : Cx} {A : Fr} {H : Hp}
end
end Go.Av
end
/- Rows of rows, a row and a bool handed back at once. -/
section
namespace Go.Av
def nIIB (d e h : Nat) : Bool := famB d h || h == e
theorem nIIB_lit {d e h : Nat} (hh : h < 2097152) (h1 : h ≠ d) (h2 : h ≠ e) : nIIB d e h = false := by
  unfold nIIB
  rw [famB_lit hh, beq_eq_false_iff_ne.2 h1, beq_eq_false_iff_ne.2 h2]; rfl
theorem nIIB_d {d e : Nat} : nIIB d e d = true := by unfold nIIB famB; simp
theorem nIIB_e {d e : Nat} : nIIB d e e = true := by unfold nIIB; simp
section
variable {P : Program} {N : Cx} {A : Fr} {H : Hp}
theorem Hp.scrub_IIB {d e g k n : Nat} {xss : List (List Int)} (hd : d < 2097152) (he : e < 2097152) (_hg : g < 2097152) (hk : k ≤ 2097152) (hne : g ≠ d) (_hne2 : g ≠ e) : ((PR g xss k n).add H).scrub (nIIB d e) = (PR g xss k n).add (H.scrub (nIIB d e)) := by
  have hs : ∀ i, i < k → nIIB d e (sub g i) = false := fun i hi => by
    have h1 := sub_ge g i; rw [FB_eq] at h1
    have h2 : i < FB := by rw [FB_eq]; omega
    have h3 : sub g i ≠ e := by omega
    have h4 : sub g i ≠ d := by omega
    simp [nIIB, famB, h3, h4, sub_div h2, hne]
  funext x
  simp only [Hp.scrub, Hp.add]
  cases hx : (PR g xss k n) x with
  | none => rfl
  | some B =>
    simp only [Option.map_some, Option.some.injEq]
    unfold PR at hx
    split at hx
    · simp only [Option.some.injEq] at hx; subst hx
      simp only [Blk.scrub]
      congr 1
      funext i
      exact mixF_plain_scrub hs i
    · split at hx
      · simp only [Option.some.injEq] at hx; subst hx; rfl
      · simp at hx
end
attribute [go_sem] nIIB_lit nIIB_d nIIB_e Hp.scrub_IIB
end Go.Av
end
/- Regions of open order: the first operations in any order, then a sequence, and a last operation that sets a constant, anywhere. -/
section
namespace Go.Av
section
variable {P : Program} {N : Cx} {A : Fr} {H : Hp}
variable (P N) in
end
end Go.Av
end
/- Dice and sources: a struct of bytes, a place and a number, pinned; calls that throw them. -/
section
namespace Go.Av
/-- Dice: the code's bytes, how many are used up, a number. -/
structure Dc where
  xs : List Int
  i : Nat
  h : Int
  hi : i ≤ xs.length
  hx : ∀ j, 0 ≤ xs.getD j 0 ∧ xs.getD j 0 ≤ 255
  hl : xs.length ≤ 4096
def u8v (n : Int) : AV := .v (.int .u8 n)
abbrev bts (xs : List Int) : AV := .list false 1 xs.length (cM u8v 0 xs)
def dF (k : IntKind) (d : Dc) : Nat → AV := vecF [bts d.xs, .v (.int .i64 (d.i)), .v (.int k d.h)]
@[go_sem] theorem scF_dF (p : Nat → Bool) (k : IntKind) (d : Dc) : scF p (dF k d) = dF k d := by
  unfold dF; rw [scF_vecF]; rfl
section
variable {P : Program} {N : Cx} {A A' : Fr} {H H' : Hp}
end
end Go.Av
end
/- Regions of open order with one call that writes blocks of its own: what comes behind it may come in any order. -/
section
namespace Go.Av
section
variable {P : Program} {N : Cx} {H : Hp}
variable {Kd : AV → Hp → Prop}
variable (P N) in
/-- A call that leaves the frame as it is, whatever that is. -/
def CallDP (f : FuncId) (args : List AV) (H : Hp) (K : AV → Hp → Prop) : Prop := ∀ B : Fr, CallG P N f args B H fun r A' H' => A' = B ∧ K r H'
theorem CallDP_congr (f : FuncId) (args args' : List AV) (H H' : Hp) (K : AV → Hp → Prop) (h1 : args = args') (h2 : H = H') : CallDP P N f args H K = CallDP P N f args' H' K := by subst h1 h2; rfl
variable (P N) in
def pivD (op : Op) (A : Fr) (H : Hp) (K : AV → Hp → Prop) : Prop :=
  match op with
  | .call { callee := .value f, args, argTypes := _ } => (match calleeOf (A.ev f) with
    | some (g, caps) => withArgs (evArgs A args.toList) fun l => CallDP P N g (l ++ caps) H K
    | none => False)
  | _ => False
variable (P N) in
def opsD (nf m : Nat) (Q : Fr → Hp → Prop) (l : List Oper) (A : Fr) (H : Hp) : Prop :=
  match l.drop m with
  | o :: lr => opsQ P N (l.map (·.dst)) (fun A1 => pivD P N o.op A1 H fun r H' =>
      opsQ P N (l.map (·.dst)) (fun A2 => Ob (sameG A2 A1 ((l.take nf).map (·.dst))) (opsQ P N (l.map (·.dst)) (fun A3 => Q A3 H') lr (putd o.dst r A1) H')) (l.take nf) A H') (l.take m) A H
  | [] => False
end
attribute [congr] CallDP_congr
attribute [go_sem] opsD pivD
end Go.Av
end
/- Sources: calls that draw and hand back a row of their own; rows cut shorter. -/
section
namespace Go.Av
section
variable {P : Program} {N : Cx} {A A' : Fr} {H H' : Hp}
theorem Sub.shrink {h n m : Nat} {f : Nat → AV} (hH : H h = some (.cells n f)) (hm : m ≤ n) : Sub N A H A (H.upd h (.cells m f)) := by
  intro w0 S hS w tm L s
  have nn : ∀ x, (H.upd h (.cells m f)) x ≠ none → H x ≠ none := fun x hx => by
    unfold Hp.upd at hx
    by_cases e : x = h
    · subst e; rw [hH]; simp
    · rwa [if_neg e] at hx
  have ok : ∀ b, okb S H L b → okb S (H.upd h (.cells m f)) L b := fun b hb => ⟨hb.1, fun x q hx hq => hb.2 x q (nn x hx) hq⟩
  refine ⟨L, s.keep, s.size, fun i a hi => Rd.mono (fun b _ hb => ok b hb) (s.slot i a hi), fun x B hB => ?_, fun x q hx hq => s.own x q (nn x hx) hq, fun x y q r hx hy => s.inj x y q r (nn x hx) (nn y hy), s.pin⟩
  unfold Hp.upd at hB
  split at hB
  · rename_i e; subst e
    simp only [Option.some.injEq] at hB; subst hB
    have hb := s.blk x _ hH
    cases hl : L x with
    | none => rw [hl] at hb; simp only [BlkOk] at hb ⊢; omega
    | some q =>
      rw [hl] at hb
      obtain ⟨cs, e, k1, k2, k3⟩ := hb
      exact ⟨cs, e, k1, by omega, fun i hi => let ⟨c, k4, k5⟩ := k3 i (by omega); ⟨c, k4, Rd.mono (fun b _ hb => ok b hb) k5⟩⟩
  · have hb := s.blk x B hB
    have := BlkOk.step (w := w) (w' := w) (wh := w) (wh' := w) (ok := okb S H L) (ok' := okb S (H.upd h (.cells m f)) L) (L := L) (L' := L) (p := fun _ => false) (fun b _ hb => ⟨ok b hb, rfl⟩) (Shape.refl w) (fun _ _ => rfl) (fun _ _ => rfl) hb
    rwa [Blk.scrub_none] at this
end
end Go.Av
end
/- Calls whose result is told by a property, and that leave nothing. -/
section
namespace Go.Av
section
variable {P : Program} {N : Cx} {A A' : Fr} {H H' : Hp}
theorem endQ_sub {fn : Func} {post : AV → Hp → Prop} (s : Sub N A H A' H') (h : endQ P N fn post .ret A' H') : endQ P N fn post .ret A H :=
  let ⟨A2, H2, s2, h2⟩ := h
  ⟨A2, H2, s.trans s2, h2⟩
end
end Go.Av
end
/- Regions of open order: a chain of operations that turn memory, each ahead of the next, and operations that may come at any time. -/
section
namespace Go.Av
section
variable {P : Program} {N : Cx} {H : Hp}
theorem OpV.mono {o : Oper} {A : Fr} {K K' : AV → Fr → Hp → Prop} (h : OpV P N o A H K) (k : ∀ r A' H', K r A' H' → K' r A' H') : OpV P N o A H K' :=
  fun w0 S hS w a L s next Q' hn => h w0 S hS w a L s next Q' fun u r L' A' H' w' s' hr hk => hn u r L' A' H' w' s' hr (k _ _ _ hk)
variable (P N) in
/-- A call, whatever the frame is: what it yields, which names it turns, what the heap is behind it. -/
def CallPP (f : FuncId) (args : List AV) (H : Hp) (K : AV → (Nat → Bool) → Hp → Prop) : Prop := ∃ p : Nat → Bool, ∀ B : Fr, CallG P N f args B H fun r A' H' => A' = B.scrub p ∧ K r p H'
theorem CallPP_congr (f : FuncId) (args args' : List AV) (H H' : Hp) (K : AV → (Nat → Bool) → Hp → Prop) (h1 : args = args') (h2 : H = H') : CallPP P N f args H K = CallPP P N f args' H' K := by subst h1 h2; rfl
variable (P N) in
/-- An operation of the chain. -/
def gxVC (d : Nat) (op : Op) (A : Fr) (H : Hp) (K : AV → (Nat → Bool) → Hp → Prop) : Prop :=
  match op with
  | .call { callee := .value f, args, argTypes := _ } => (match calleeOf (A.ev f) with
    | some (g, caps) => withArgs (evArgs A args.toList) fun l => CallPP P N g (l ++ caps) H K
    | none => False)
  | .assign x => withA (A.ev x) fun a => K a (fun _ => false) H
  | .move x => withA (A.ev x) fun a => K a (fun _ => false) H
  | .call { callee := .builtin .append, args, argTypes } => pivVC P N d (.call { callee := .builtin .append, args, argTypes }) A H K
  | .store t x y => pivVC P N d (.store t x y) A H K
  | _ => False
theorem gxVC_ok {o : Oper} {A : Fr} {K : AV → (Nat → Bool) → Hp → Prop} (h : gxVC P N (o.dst.getD 0) o.op A H K) : ∃ p : Nat → Bool, ∀ B : Fr, (∀ x ∈ o.op.operands, B.ev x = A.ev x) → OpV P N o B H fun r A' H' => A' = B.scrub p ∧ K r p H' := by
  have piv : pivVC P N (o.dst.getD 0) o.op A H K → ∃ p : Nat → Bool, ∀ B : Fr, (∀ x ∈ o.op.operands, B.ev x = A.ev x) → OpV P N o B H fun r A' H' => A' = B.scrub p ∧ K r p H' := fun h => by
    obtain ⟨r, p, H', hK, hp⟩ := piv_ok h
    exact ⟨p, fun B hB => (hp B hB).mono fun r' A' H'' e => by obtain ⟨rfl, rfl, rfl⟩ := e; exact ⟨rfl, hK⟩⟩
  unfold gxVC at h
  split at h
  · rename_i f args tys ho
    split at h
    · rename_i g caps hc
      obtain ⟨l, hl, p, h⟩ := withArgs_ok h
      refine ⟨p, fun B hB => opVC_sound ?_⟩
      have hf : B.ev f = A.ev f := hB f (by rw [ho]; simp [Op.operands, Call.operands])
      have ha : evArgs B args.toList = evArgs A args.toList := evArgs_congr fun x hx => hB x (by rw [ho]; simp [Op.operands, Call.operands]; first | exact .inr (by simpa using hx) | (right; simpa using hx))
      rw [ho]
      simp only [opVC, hf, ha]
      rw [hc, hl]
      exact h B
    · exact h.elim
  · rename_i x ho
    obtain ⟨a, ha, h⟩ := withA_ok h
    refine ⟨fun _ => false, fun B hB => opVC_sound ?_⟩
    have hx : B.ev x = A.ev x := hB x (by rw [ho]; simp [Op.operands])
    rw [ho]
    simp only [opVC, hx, ha, withA]
    exact ⟨(Fr.scrub_none B).symm, h⟩
  · rename_i x ho
    obtain ⟨a, ha, h⟩ := withA_ok h
    refine ⟨fun _ => false, fun B hB => opVC_sound ?_⟩
    have hx : B.ev x = A.ev x := hB x (by rw [ho]; simp [Op.operands])
    rw [ho]
    simp only [opVC, hx, ha, withA]
    exact ⟨(Fr.scrub_none B).symm, h⟩
  · rename_i ho
    rw [← ho] at h; exact piv h
  · rename_i ho
    rw [← ho] at h; exact piv h
  · exact h.elim
/-- Operations at places. -/
def pickL : List Nat → List Oper → List Oper
  | [], _ => []
  | k :: ks, l => (l.drop k).take 1 ++ pickL ks l
theorem pickL_get {l : List Oper} : ∀ (ks : List Nat), (∀ k ∈ ks, k < l.length) → ∀ j : Nat, (pickL ks l)[j]? = (ks[j]?).bind fun k : Nat => l[k]?
  | [], _, j => by simp [pickL]
  | k :: ks, h, j => by
    have hk := h k (List.mem_cons_self ..)
    have e : (l.drop k).take 1 = [l[k]] := by rw [List.drop_eq_getElem_cons hk]; rfl
    have ih := pickL_get ks (fun x hx => h x (List.mem_cons_of_mem _ hx))
    simp only [pickL, e]
    cases j with
    | zero => simp [hk]
    | succ j => simpa using ih j
theorem pickL_len {l : List Oper} : ∀ (ks : List Nat), (∀ k ∈ ks, k < l.length) → (pickL ks l).length = ks.length
  | [], _ => rfl
  | k :: ks, h => by
    have hk := h k (List.mem_cons_self ..)
    have e : (l.drop k).take 1 = [l[k]] := by rw [List.drop_eq_getElem_cons hk]; rfl
    simp [pickL, e, pickL_len ks (fun x hx => h x (List.mem_cons_of_mem _ hx))]
variable (P N) in
/-- The chain. -/
def linkVC (T : List (Option Tmp)) (Q : Fr → Hp → Prop) : List Oper → Fr → Hp → Prop
  | [], A, H => Q A H
  | o :: l, A, H => gxVC P N (o.dst.getD 0) o.op A H fun r p H' => Ob (sameG (A.scrub p) A T) (linkVC T Q l (putd o.dst r (A.scrub p)) H')
/-- Whatever the heap is. -/
def AllH (p : Hp → Prop) : Prop := ∀ H, p H
variable (P N) in
def opsG (fs cs T : List Nat) (Q : Fr → Hp → Prop) (l : List Oper) (A : Fr) (H : Hp) : Prop :=
  opsQ P N (l.map (·.dst)) (fun A1 => Ob (AllH fun H' => opsQ P N (l.map (·.dst)) (fun A2 => sameG A2 A1 (T.map some)) (pickL fs l) A H') (linkVC P N (T.map some) Q (pickL cs l) A1 H)) (pickL fs l) A H
def chPre (ops : Array Oper) : List Nat → Bool
  | [] => true
  | c :: r => r.all (fun d => preB ops ops.size d c) && chPre ops r
theorem chPre_app {ops : Array Oper} {r : List Nat} : ∀ (l : List Nat), chPre ops (l ++ r) = true → chPre ops r = true
  | [], h => h
  | _ :: l, h => by
    simp only [List.cons_append, chPre, Bool.and_eq_true] at h
    exact chPre_app l h.2
def incB : List Nat → Bool
  | [] => true
  | c :: r => r.all (fun d => decide (c < d)) && incB r
def chOk (ops : Array Oper) (fs cs T : List Nat) : Bool :=
  anyOk ops && ops.toList.all (fun o => o.guard.isNone) && (List.range ops.size).all (fun k => fs.contains k || cs.contains k) && incB fs && incB cs && chPre ops cs && cs.all (fun c => decide (c < ops.size) && !fs.contains c) &&
  fs.all fun f => match ops[f]? with
    | none => false
    | some o => o.after.all (fun e => !Region.binds .any e || !cs.contains e.on) && (match o.dst with
      | none => false
      | some d => T.contains d && (List.range ops.size).all fun k => match ops[k]? with
        | none => true
        | some ok => !(ok.looksAt ops).contains d || (k != f && !(o.after.any fun e => Region.binds .any e && e.on == k))) && (o.looksAt ops).all fun t => T.contains t
theorem incB_ok : ∀ {l : List Nat}, incB l = true → ∀ i j, i < j → j < l.length → l.getD i 0 < l.getD j 0
  | [], _, i, j, _, h => by simp at h
  | c :: r, h, i, j, hij, hj => by
    simp only [incB, Bool.and_eq_true, List.all_eq_true, decide_eq_true_eq] at h
    have hj' : j - 1 < r.length := by simp at hj; omega
    have ej : (c :: r).getD j 0 = r.getD (j - 1) 0 := by
      cases j with
      | zero => omega
      | succ j => simp
    rw [ej]
    cases i with
    | zero =>
      have : r.getD (j - 1) 0 ∈ r := by rw [List.getD_eq_getElem?_getD, List.getElem?_eq_getElem hj']; exact List.getElem_mem hj'
      simpa using h.1 _ this
    | succ i =>
      have := incB_ok h.2 i (j - 1) (by omega) hj'
      simpa using this
structure ChOk (ops : Array Oper) (fs cs T : List Nat) : Prop where
  any : anyOk ops = true
  guard : ∀ (k : Nat) (o : Oper), ops[k]? = some o → o.guard = none
  all : ∀ k, k < ops.size → k ∈ fs ∨ k ∈ cs
  finc : incB fs = true
  cinc : incB cs = true
  pre : chPre ops cs = true
  clt : ∀ c ∈ cs, c < ops.size ∧ c ∉ fs
  flt : ∀ f ∈ fs, f < ops.size
  fc : ∀ f ∈ fs, ∀ o : Oper, ops[f]? = some o → ∀ e ∈ o.after, Region.binds .any e = true → e.on ∉ cs
  fd : ∀ f ∈ fs, ∀ o : Oper, ops[f]? = some o → ∃ d, o.dst = some d ∧ d ∈ T
  fr : ∀ f ∈ fs, ∀ o : Oper, ops[f]? = some o → ∀ d, o.dst = some d → ∀ (k : Nat) (ok : Oper), ops[k]? = some ok → d ∈ ok.looksAt ops → k ≠ f ∧ ∀ e ∈ o.after, Region.binds .any e = true → e.on ≠ k
  ft : ∀ f ∈ fs, ∀ o : Oper, ops[f]? = some o → ∀ t ∈ o.looksAt ops, t ∈ T
theorem chOk_ok {ops : Array Oper} {fs cs T : List Nat} (h : chOk ops fs cs T = true) : ChOk ops fs cs T := by
  simp only [chOk, Bool.and_eq_true, List.all_eq_true, List.mem_range, Bool.or_eq_true, List.contains_iff_mem, decide_eq_true_eq, Bool.not_eq_true'] at h
  obtain ⟨⟨⟨⟨⟨⟨⟨h1, h2⟩, h3⟩, h4⟩, h5⟩, h6⟩, h7⟩, h8⟩ := h
  have at' : ∀ f ∈ fs, ∃ o : Oper, ops[f]? = some o ∧ (∀ e ∈ o.after, Region.binds .any e = true → e.on ∉ cs) ∧ (∃ d, o.dst = some d ∧ d ∈ T ∧ ∀ (k : Nat) (ok : Oper), ops[k]? = some ok → d ∈ ok.looksAt ops → k ≠ f ∧ ∀ e ∈ o.after, Region.binds .any e = true → e.on ≠ k) ∧ ∀ t ∈ o.looksAt ops, t ∈ T := fun f hf => by
    have h := h8 f hf
    split at h
    · cases h
    · rename_i o ho
      simp only [Bool.and_eq_true, Array.all_eq_true', List.all_eq_true, Bool.or_eq_true, Bool.not_eq_true', List.contains_iff_mem] at h
      obtain ⟨⟨k1, k2⟩, k3⟩ := h
      refine ⟨o, ho, fun e he hb hc => ?_, ?_, k3⟩
      · rcases k1 e he with h | h
        · rw [hb] at h; cases h
        · have : cs.contains e.on = true := by simpa using hc
          rw [this] at h; cases h
      · split at k2
        · cases k2
        · rename_i d hd
          simp only [Bool.and_eq_true, List.all_eq_true, List.mem_range, List.contains_iff_mem] at k2
          refine ⟨d, hd, k2.1, fun k ok hok hdk => ?_⟩
          have hk := (Array.getElem?_eq_some_iff.1 hok).1
          have h := k2.2 k hk
          rw [hok] at h
          simp only [Bool.or_eq_true, Bool.not_eq_true', Bool.and_eq_true, bne_iff_ne] at h
          rcases h with h | h
          · have : (ok.looksAt ops).contains d = true := by simpa using hdk
            rw [this] at h; cases h
          · refine ⟨h.1, fun e he hb ek => ?_⟩
            have : (o.after.any fun e => Region.binds .any e && e.on == k) = true := Array.any_eq_true'.2 ⟨e, he, by simp [hb, ek]⟩
            rw [this] at h; cases h.2
  have un : ∀ f ∈ fs, ∀ o : Oper, ops[f]? = some o → (∀ e ∈ o.after, Region.binds .any e = true → e.on ∉ cs) ∧ (∃ d, o.dst = some d ∧ d ∈ T ∧ ∀ (k : Nat) (ok : Oper), ops[k]? = some ok → d ∈ ok.looksAt ops → k ≠ f ∧ ∀ e ∈ o.after, Region.binds .any e = true → e.on ≠ k) ∧ ∀ t ∈ o.looksAt ops, t ∈ T := fun f hf o ho => by
    obtain ⟨o', ho', h⟩ := at' f hf
    rw [ho] at ho'; simp only [Option.some.injEq] at ho'; subst ho'; exact h
  refine ⟨h1, fun k o ho => ?_, h3, h4, h5, h6, fun c hc => ⟨(h7 c hc).1, fun hf => ?_⟩, fun f hf => ?_, fun f hf o ho => (un f hf o ho).1, fun f hf o ho => ?_, fun f hf o ho d hd => ?_, fun f hf o ho => (un f hf o ho).2.2⟩
  · have := h2 o (by rw [Array.mem_toList_iff]; exact Array.mem_of_getElem? ho)
    simpa using this
  · have h := (h7 c hc).2
    have : fs.contains c = true := by simpa using hf
    rw [this] at h; cases h
  · obtain ⟨o, ho, _⟩ := at' f hf
    exact (Array.getElem?_eq_some_iff.1 ho).1
  · obtain ⟨d, h1, h2, _⟩ := (un f hf o ho).2.1
    exact ⟨d, h1, h2⟩
  · obtain ⟨d', h1, h2, h3⟩ := (un f hf o ho).2.1
    rw [hd] at h1; simp only [Option.some.injEq] at h1; subst h1; exact h3
theorem AllH.mk {p : Hp → Prop} (h : ∀ H, p H) : AllH p := h
theorem atP {f : FuncId} {args : List AV} {K : AV → (Nat → Bool) → Hp → Prop} (h : CallPP P N f args H K) : CallPP P N f args H K := h
end
attribute [congr] CallPP_congr
attribute [go_sem] opsG linkVC gxVC pickL
end Go.Av
end
/- From a law's contract over abstract values to its row: how Go's data read. -/
section
namespace Go.Av
open Go.ChangeShapes Go.WideShapes Go.ChangeAt Go.RowKit

section
variable {P : Program} {H : Type} {enc : TypeId × Value → H} {w : World} {base : Nat} {spare : Nat → Bool} {held : Bool} {L : Loc}

/-- Every block may be read. -/
abbrev All : Nat → Prop := fun _ => True

theorem law_calls {f : FuncId} {args : List AV} {vs : Array Value} (hac : AC P f args Hp.emp (fun _ => false) (retV (.v (.bool true)))) (hr : RdArgs w All (fun _ => none) args vs) :
    Calls P f vs w fun e w' => e = .returned (.bool true) ∧ Below w.heap.size w w' := by
  let S : Rg := ⟨fun b => w.heap.size ≤ b, fun _ => True, fun _ _ => trivial, fun _ => none⟩
  have s0 : Sim 0 w S w #[] (fun _ => none) [] Hp.emp := ⟨Keep.refl w _, rfl, fun i a h => by simp [Fr.get] at h, fun h B hB => by simp [Hp.emp] at hB, fun h q hn => by simp [Hp.emp] at hn, fun h g q r hn => by simp [Hp.emp] at hn, fun h l hl => by simp [S] at hl⟩
  refine (hac.2 S w (fun _ => none) vs (fun b h => h) (fun h _ => rfl) s0 ⟨hr.1, fun i a hi => ?_⟩).mono ?_
  · obtain ⟨u, k1, k2⟩ := hr.2 i a hi
    exact ⟨u, k1, Rd.mono (fun b _ _ => ⟨trivial, fun h q hn => by simp [Hp.emp] at hn⟩) k2⟩
  · rintro e w' ⟨u, L', r, H', rfl, s2, hr, rfl, rfl⟩
    have hu : u = .bool true := hr
    subst hu
    exact ⟨rfl, ⟨s2.keep.os, s2.keep.tape, s2.keep.output, s2.keep.size, fun k hk => s2.keep.blk k hk (by show ¬ w.heap.size ≤ k; omega)⟩⟩

theorem rdArgs_list {ok : Nat → Prop} : ∀ (as : List AV) (vs : List Value), as.length = vs.length → (∀ (i : Nat) (a : AV) (v : Value), as[i]? = some a → vs[i]? = some v → Rd w ok L a v) → RdArgs w ok L as vs.toArray := by
  intro as vs hl h
  refine ⟨by simp [hl], fun i a hi => ?_⟩
  have hlt := (List.getElem?_eq_some_iff.1 hi).1
  exact ⟨vs[i]'(by omega), by simp, h i a _ hi (by simp)⟩
theorem rdArgs2 {ok : Nat → Prop} {a b : AV} {u v : Value} (h : Rd w ok L a u) (k : Rd w ok L b v) : RdArgs w ok L [a, b] #[u, v] := rdArgs_list [a, b] [u, v] rfl fun i a' v' h1 h2 => by
  match i with
  | 0 => simp at h1 h2; subst h1 h2; exact h
  | 1 => simp at h1 h2; subst h1 h2; exact k
  | i + 2 => simp at h1
end
end Go.Av
end
/- How bytes read. -/
section
namespace Go.Av
open Go.ChangeShapes Go.WideShapes Go.ChangeAt Go.RowKit
section
variable {P : Program} {H : Type} {enc : TypeId × Value → H} {w : World} {base : Nat} {spare : Nat → Bool} {held : Bool} {L : Loc}
end
end Go.Av
end
/- Permutations as rows of numbers: composition, inverse, what generators generate. -/
section
namespace Go.Pm

/-- p is a permutation of n points. -/
def Pm (n : Nat) (p : List Int) : Prop := p.length = n ∧ (∀ j, j < n → 0 ≤ p.getD j 0 ∧ p.getD j 0 < n) ∧ ∀ i j, i < n → j < n → p.getD i 0 = p.getD j 0 → i = j

def img (p : List Int) (i : Nat) : Nat := (p.getD i 0).toNat
def comp (p q : List Int) : List Int := p.map fun x => q.getD x.toNat 0
def idn (n : Nat) : List Int := (List.range n).map fun i : Nat => (i : Int)
def invp (p : List Int) : List Int := (List.range p.length).map fun i : Nat => ((p.findIdx fun x => decide (x = (i : Int)) : Nat) : Int)

theorem ext {p q : List Int} (hl : p.length = q.length) (h : ∀ j, j < p.length → p.getD j 0 = q.getD j 0) : p = q := by
  refine List.ext_getElem hl fun i h1 h2 => ?_
  have := h i h1
  simpa [List.getD_eq_getElem?_getD, h1, h2] using this

theorem comp_length (p q : List Int) : (comp p q).length = p.length := by simp [comp]
theorem comp_get (p q : List Int) {i : Nat} (h : i < p.length) : (comp p q).getD i 0 = q.getD (img p i) 0 := by
  simp [comp, img, List.getD_eq_getElem?_getD, h]
theorem idn_length (n : Nat) : (idn n).length = n := by simp [idn]
theorem idn_get {n i : Nat} (h : i < n) : (idn n).getD i 0 = i := by simp [idn, List.getD_eq_getElem?_getD, h]
theorem img_idn {n i : Nat} (h : i < n) : img (idn n) i = i := by unfold img; rw [idn_get h]; rfl
theorem img_comp (p q : List Int) {i : Nat} (h : i < p.length) : img (comp p q) i = img q (img p i) := by
  unfold img; rw [comp_get p q h]; rfl

namespace Pm
variable {n : Nat} {p q r : List Int}
theorem img_lt (h : Pm n p) {i : Nat} (hi : i < n) : img p i < n := by
  have := h.2.1 i hi
  unfold Pm.img; omega
theorem get_eq (h : Pm n p) {i : Nat} (hi : i < n) : p.getD i 0 = (img p i : Int) := by
  have := h.2.1 i hi
  unfold Pm.img; omega
theorem inj (h : Pm n p) {i j : Nat} (hi : i < n) (hj : j < n) (e : img p i = img p j) : i = j :=
  h.2.2 i j hi hj (by rw [h.get_eq hi, h.get_eq hj, e])
theorem ext_img (h : Pm n p) (k : Pm n q) (e : ∀ i, i < n → img p i = img q i) : p = q :=
  Go.Pm.ext (h.1.trans k.1.symm) fun j hj => by
    rw [h.1] at hj
    rw [h.get_eq hj, k.get_eq hj, e j hj]
theorem idn (n : Nat) : Pm n (idn n) :=
  ⟨idn_length n, fun j hj => by rw [idn_get hj]; omega, fun i j hi hj e => by rw [idn_get hi, idn_get hj] at e; omega⟩
theorem mk' (hl : p.length = n) (h1 : ∀ j, j < n → ∃ k, k < n ∧ p.getD j 0 = (k : Int)) (h2 : ∀ i j, i < n → j < n → img p i = img p j → i = j) : Pm n p :=
  ⟨hl, fun j hj => by obtain ⟨k, h3, h4⟩ := h1 j hj; omega, fun i j hi hj e => h2 i j hi hj (by unfold Pm.img; rw [e])⟩
theorem comp (h : Pm n p) (k : Pm n q) : Pm n (comp p q) := by
  refine mk' (by rw [comp_length]; exact h.1) (fun j hj => ⟨img q (img p j), k.img_lt (h.img_lt hj), ?_⟩) fun i j hi hj e => ?_
  · rw [comp_get _ _ (by rw [h.1]; exact hj), k.get_eq (h.img_lt hj)]
  · rw [img_comp _ _ (by rw [h.1]; exact hi), img_comp _ _ (by rw [h.1]; exact hj)] at e
    exact h.inj hi hj (k.inj (h.img_lt hi) (h.img_lt hj) e)
theorem cimg (h : Pm n p) {i : Nat} (hi : i < n) : img (Go.Pm.comp p q) i = img q (img p i) := img_comp _ _ (by rw [h.1]; exact hi)

/-- Every point is met. -/
theorem surj (h : Pm n p) {i : Nat} (hi : i < n) : ∃ j, j < n ∧ img p j = i := by
  have hn : ((List.range n).map (img p)).Nodup := by
    rw [List.nodup_iff_pairwise_ne, List.pairwise_map]
    refine List.Pairwise.imp_of_mem (R := fun a b => a ≠ b) ?_ (List.nodup_iff_pairwise_ne.1 List.nodup_range)
    intro a b ha hb hne e
    exact hne (h.inj (by simpa using ha) (by simpa using hb) e)
  have := (Go.Plain.nodup_iff_all (l := (List.range n).map (img p)) (n := n) (by simp) (fun x hx => by
    obtain ⟨j, hj, rfl⟩ := List.mem_map.1 hx
    exact h.img_lt (by simpa using hj))).1 hn i hi
  obtain ⟨j, hj, e⟩ := List.mem_map.1 this
  exact ⟨j, by simpa using hj, e⟩

theorem find (h : Pm n p) {i : Nat} (hi : i < n) : p.findIdx (fun x => decide (x = (i : Int))) < n ∧ img p (p.findIdx fun x => decide (x = (i : Int))) = i := by
  obtain ⟨j, hj, e⟩ := h.surj hi
  have hlt : p.findIdx (fun x => decide (x = (i : Int))) < p.length := by
    rw [List.findIdx_lt_length]
    refine ⟨p.getD j 0, ?_, ?_⟩
    · have hj' : j < p.length := by rw [h.1]; exact hj
      rw [List.getD_eq_getElem?_getD, List.getElem?_eq_getElem hj']
      exact List.getElem_mem hj'
    · rw [h.get_eq hj, e]; simp
  have := List.findIdx_getElem (w := hlt)
  refine ⟨by rw [← h.1]; exact hlt, ?_⟩
  simp only [decide_eq_true_eq] at this
  unfold Pm.img
  rw [List.getD_eq_getElem?_getD, List.getElem?_eq_getElem hlt, Option.getD_some, this]
  simp
theorem inv_get (h : Pm n p) {i : Nat} (hi : i < n) : (invp p).getD i 0 = ((p.findIdx fun x => decide (x = (i : Int)) : Nat) : Int) := by
  have : i < p.length := by rw [h.1]; exact hi
  simp [invp, List.getD_eq_getElem?_getD, this]
theorem inv_img (h : Pm n p) {i : Nat} (hi : i < n) : img p (img (invp p) i) = i := by
  have : img (invp p) i = p.findIdx fun x => decide (x = (i : Int)) := by unfold Pm.img; rw [h.inv_get hi]; rfl
  rw [this]; exact (h.find hi).2
theorem inv (h : Pm n p) : Pm n (invp p) := by
  refine mk' (by simp [invp, h.1]) (fun j hj => ⟨_, (h.find hj).1, h.inv_get hj⟩) fun i j hi hj e => ?_
  rw [← h.inv_img hi, ← h.inv_img hj, e]
theorem comp_idn (h : Pm n p) : Go.Pm.comp p (Go.Pm.idn n) = p :=
  (h.comp (.idn n)).ext_img h fun i hi => by rw [h.cimg hi, img_idn (h.img_lt hi)]
theorem idn_comp (h : Pm n p) : Go.Pm.comp (Go.Pm.idn n) p = p :=
  ((Pm.idn n).comp h).ext_img h fun i hi => by rw [(Pm.idn n).cimg hi, img_idn hi]
theorem assoc (h : Pm n p) (k : Pm n q) (l : Pm n r) : Go.Pm.comp (Go.Pm.comp p q) r = Go.Pm.comp p (Go.Pm.comp q r) :=
  ((h.comp k).comp l).ext_img (h.comp (k.comp l)) fun i hi => by
    rw [(h.comp k).cimg hi, h.cimg hi, h.cimg hi, k.cimg (h.img_lt hi)]
end Pm

/-- What is generated (products of generators, applied one after the other). -/
inductive Gen (n : Nat) (S : List (List Int)) : List Int → Prop
  | one : Gen n S (idn n)
  | mul {p g : List Int} : Gen n S p → g ∈ S → Gen n S (comp p g)

section
variable {n : Nat} {S S' : List (List Int)} {p q : List Int}
theorem Gen.pm (hS : ∀ g ∈ S, Pm n g) (h : Gen n S p) : Pm n p := by
  induction h with
  | one => exact .idn n
  | mul _ hg ih => exact ih.comp (hS _ hg)
theorem Gen.prod (hS : ∀ g ∈ S, Pm n g) (h : Gen n S p) (k : Gen n S q) : Gen n S (comp p q) := by
  induction k with
  | one => rw [(h.pm hS).comp_idn]; exact h
  | mul k hg ih => rw [← (h.pm hS).assoc (k.pm hS) (hS _ hg)]; exact ih.mul hg
theorem Gen.of (hS : ∀ g ∈ S, Pm n g) (h : p ∈ S) : Gen n S p := by
  have := (Gen.one (n := n) (S := S)).mul h
  rwa [(hS _ h).idn_comp] at this
theorem Gen.sub (hS : ∀ g ∈ S', Pm n g) (hs : ∀ g ∈ S, Gen n S' g) (h : Gen n S p) : Gen n S' p := by
  induction h with
  | one => exact .one
  | mul _ hg ih => exact ih.prod hS (hs _ hg)
theorem Gen.mono (hs : ∀ g ∈ S, g ∈ S') (h : Gen n S p) : Gen n S' p := by
  induction h with
  | one => exact .one
  | mul _ hg ih => exact ih.mul (hs _ hg)
end
end Go.Pm
end
/- Words: free reduction, runs of letters, their lengths; plain. -/
section
namespace Go.Wd
set_option linter.unusedVariables false
set_option linter.unusedSimpArgs false
/-- One letter more: it is taken off with its inverse, or laid on. -/
def frS (o : List Int) (l : Int) : List Int := if 0 < o.length ∧ o.getD (o.length - 1) 0 = -l then o.take (o.length - 1) else o ++ [l]
def fr (w : List Int) : List Int := w.foldl frS []
def inv (w : List Int) : List Int := (w.map (- ·)).reverse
/-- The runs of the first k letters. -/
def runsK (al : Int → Int → Bool) (w : List Int) : Nat → List (List Int)
  | 0 => []
  | k + 1 => if 0 < k ∧ al (w.getD (k - 1) 0) (w.getD k 0) = true then (runsK al w k).set ((runsK al w k).length - 1) ((runsK al w k).getD ((runsK al w k).length - 1) [] ++ [w.getD k 0]) else runsK al w k ++ [[w.getD k 0]]
theorem runsK_pos (al : Int → Int → Bool) (w : List Int) : ∀ k, (0 < k → 0 < (runsK al w k).length) ∧ (runsK al w k).length ≤ k
  | 0 => ⟨fun h => absurd h (by omega), Nat.le_refl _⟩
  | k + 1 => by
    have ih := runsK_pos al w k
    unfold runsK
    split
    · rename_i h; rw [List.length_set]; exact ⟨fun _ => ih.1 h.1, by omega⟩
    · simp; exact ih.2
theorem set_flatten : ∀ (xs : List (List Int)) (l : Int), 0 < xs.length → (xs.set (xs.length - 1) (xs.getD (xs.length - 1) [] ++ [l])).flatten = xs.flatten ++ [l]
  | [], l, h => absurd h (by simp)
  | [x], l, h => by simp
  | x :: y :: t, l, h => by
    have ih := set_flatten (y :: t) l (by simp)
    simp only [List.length_cons, Nat.add_sub_cancel] at ih ⊢
    rw [List.set_cons_succ, List.flatten_cons, List.getD_cons_succ, ih]
    simp only [List.flatten_cons, List.append_assoc]
theorem runsK_flat (al : Int → Int → Bool) (w : List Int) : ∀ k, k ≤ w.length → (runsK al w k).flatten = w.take k
  | 0, _ => by simp [runsK]
  | k + 1, hk => by
    have ih := runsK_flat al w k (by omega)
    have e : w.take (k + 1) = w.take k ++ [w.getD k 0] := by
      rw [List.take_add_one]; simp [List.getD_eq_getElem?_getD, show k < w.length by omega]
    unfold runsK
    split
    · rename_i h
      rw [set_flatten _ _ ((runsK_pos al w k).1 h.1), ih, e]
    · simp [ih, e]
end Go.Wd
end
/- Runs of letters that a key finds alike: where they lie, and that they are greatest; words made short; plain. -/
section
namespace Go.Wd
set_option linter.unusedVariables false
set_option linter.unusedSimpArgs false
def kf (f : Int → Int) (a b : Int) : Bool := decide (f a = f b)
/-- What runs are. -/
structure Runs (f : Int → Int) (xs : List (List Int)) : Prop where
  ne : ∀ j, j < xs.length → xs.getD j [] ≠ []
  al : ∀ j, j < xs.length → ∀ y ∈ xs.getD j [], f y = f ((xs.getD j []).getD 0 0)
  nx : ∀ j, j + 1 < xs.length → f ((xs.getD j []).getD 0 0) ≠ f ((xs.getD (j + 1) []).getD 0 0)
theorem getD_set {α : Type} {xs : List α} {i j : Nat} {d x : α} (hi : i < xs.length) : (xs.set i x).getD j d = if j = i then x else xs.getD j d := by
  by_cases h : j = i
  · subst h; simp [List.getD_eq_getElem?_getD, hi]
  · rw [if_neg h]; simp [List.getD_eq_getElem?_getD, List.getElem?_set, Ne.symm h]
theorem getD_snoc {α : Type} {xs : List α} {j : Nat} {d x : α} : (xs ++ [x]).getD j d = if j = xs.length then x else xs.getD j d := by
  by_cases h : j = xs.length
  · subst h; simp [List.getD_eq_getElem?_getD]
  · rw [if_neg h]
    by_cases h2 : j < xs.length
    · simp [List.getD_eq_getElem?_getD, List.getElem?_append_left h2]
    · simp [List.getD_eq_getElem?_getD, List.getElem?_eq_none (show (xs ++ [x]).length ≤ j by simp; omega), List.getElem?_eq_none (show xs.length ≤ j by omega)]
theorem hd_app {a b : List Int} (h : a ≠ []) : (a ++ b).getD 0 0 = a.getD 0 0 := by
  cases a with
  | nil => exact absurd rfl h
  | cons x t => rfl
theorem runsK_ok (f : Int → Int) (w : List Int) : ∀ k, Runs f (runsK (kf f) w k) ∧ (0 < k → f (((runsK (kf f) w k).getD ((runsK (kf f) w k).length - 1) []).getD 0 0) = f (w.getD (k - 1) 0))
  | 0 => ⟨⟨fun j h => absurd h (by simp [runsK]), fun j h => absurd h (by simp [runsK]), fun j h => absurd h (by simp [runsK])⟩, fun h => absurd h (by omega)⟩
  | k + 1 => by
    obtain ⟨⟨ih1, ih2, ih3⟩, ih4⟩ := runsK_ok f w k
    obtain ⟨xs, hx⟩ : ∃ xs, xs = runsK (kf f) w k := ⟨_, rfl⟩
    have hp := (runsK_pos (kf f) w k).1
    rw [← hx] at ih1 ih2 ih3 ih4 hp
    unfold runsK
    rw [← hx]
    by_cases hc : 0 < k ∧ kf f (w.getD (k - 1) 0) (w.getD k 0) = true
    · rw [if_pos hc]
      have h0 := hp hc.1
      have h4 := ih4 hc.1
      have hw : f (w.getD (k - 1) 0) = f (w.getD k 0) := by simpa [kf] using hc.2
      have hd : ∀ j, j < xs.length → ((xs.set (xs.length - 1) (xs.getD (xs.length - 1) [] ++ [w.getD k 0])).getD j []).getD 0 0 = (xs.getD j []).getD 0 0 := fun j hj => by
        rw [getD_set (by omega)]
        split
        · rename_i e; rw [e, hd_app (ih1 _ (by omega))]
        · rfl
      refine ⟨⟨fun j hj => ?_, fun j hj y hy => ?_, fun j hj => ?_⟩, fun _ => ?_⟩
      · rw [List.length_set] at hj
        rw [getD_set (by omega)]
        split
        · simp
        · exact ih1 j hj
      · rw [List.length_set] at hj
        rw [hd j hj]
        rw [getD_set (by omega)] at hy
        split at hy
        · rename_i e; subst e
          rcases List.mem_append.1 hy with hy | hy
          · exact ih2 _ hj y hy
          · rw [List.mem_singleton.1 hy, h4, hw]
        · exact ih2 j hj y hy
      · rw [List.length_set] at hj
        rw [hd j (by omega), hd (j + 1) hj]
        exact ih3 j hj
      · rw [List.length_set, hd _ (by omega), h4, hw]; rfl
    · rw [if_neg hc]
      refine ⟨⟨fun j hj => ?_, fun j hj y hy => ?_, fun j hj => ?_⟩, fun _ => ?_⟩
      · rw [List.length_append, List.length_singleton] at hj
        rw [getD_snoc]
        split
        · simp
        · exact ih1 j (by omega)
      · rw [List.length_append, List.length_singleton] at hj
        rw [getD_snoc] at hy ⊢
        split at hy
        · rename_i e; rw [if_pos e, List.mem_singleton.1 hy]; rfl
        · rename_i e; rw [if_neg e]; exact ih2 j (by omega) y hy
      · rw [List.length_append, List.length_singleton] at hj
        rw [getD_snoc, if_neg (by omega), getD_snoc]
        split
        · rename_i e
          have hk : 0 < k := by
            rcases Nat.eq_zero_or_pos k with h | h
            · subst h; rw [hx] at e; simp [runsK] at e
            · exact h
          have h4 := ih4 hk
          rw [show xs.length - 1 = j by omega] at h4
          rw [h4]
          intro he
          exact hc ⟨hk, by simpa [kf] using he⟩
        · exact ih3 j (by omega)
      · rw [List.length_append, List.length_singleton, Nat.add_sub_cancel, getD_snoc, if_pos rfl]; rfl
/-- The runs of a word. -/
def runs (f : Int → Int) (w : List Int) : List (List Int) := runsK (kf f) w w.length
theorem runs_ok (f : Int → Int) (w : List Int) : Runs f (runs f w) := (runsK_ok f w _).1
theorem runs_flat (f : Int → Int) (w : List Int) : (runs f w).flatten = w := by
  have := runsK_flat (kf f) w w.length (Nat.le_refl _)
  rwa [List.take_length] at this
/-- Where a run begins. -/
def offs (xs : List (List Int)) (j : Nat) : Nat := (xs.take j).flatten.length
/-- The remainder that is least, the positive one of two. -/
def sres (k d : Int) : Int := if 2 * (k % d) > d then k % d - d else k % d
/-- So many letters of a move, or of its inverse. -/
def lets (m n : Int) : List Int := if 0 ≤ n then List.replicate n.toNat m else List.replicate (-n).toNat (-m)
theorem lets_len (m n : Int) : (lets m n).length = n.natAbs := by
  unfold lets; split <;> simp <;> omega
def sgn (l : Int) : Int := if l < 0 then -1 else 1
def sumS (r : List Int) : Int := (r.map sgn).sum
def absI (l : Int) : Int := (l.natAbs : Int)
/-- A run made short; od: the order of a move. -/
def shortR (od : Int → Int) (r : List Int) : List Int := lets (absI (r.getD 0 0)) (sres (sumS r) (od (absI (r.getD 0 0))))
def shortK (od : Int → Int) (w : List Int) (k : Nat) : List Int := (((runs absI w).take k).map (shortR od)).flatten
def short (od : Int → Int) (w : List Int) : List Int := ((runs absI w).map (shortR od)).flatten
theorem sres_ok {k d : Int} (hd : 0 < d) : (sres k d).natAbs ≤ k.natAbs ∧ -d < 2 * sres k d ∧ 2 * sres k d ≤ d ∧ ∃ q, sres k d = k + d * q := by
  have h1 := Int.emod_nonneg k (by omega : d ≠ 0)
  have h2 := Int.emod_lt_of_pos k hd
  have h3 := Int.mul_ediv_add_emod k d
  have key : ∀ r, (r = k % d ∨ r = k % d - d) → -d < 2 * r → 2 * r ≤ d → r.natAbs ≤ k.natAbs := by
    intro r hr a b
    obtain ⟨q, hq⟩ : ∃ q, k = r + d * q := by
      rcases hr with e | e
      · exact ⟨k / d, by rw [e]; omega⟩
      · refine ⟨k / d + 1, ?_⟩
        rw [e, Int.mul_add, Int.mul_one]; omega
    rcases Int.lt_trichotomy q 0 with hq0 | hq0 | hq0
    · have : d * q ≤ d * (-1) := Int.mul_le_mul_of_nonneg_left (by omega) (by omega)
      omega
    · subst hq0; simp at hq; omega
    · have : d * 1 ≤ d * q := Int.mul_le_mul_of_nonneg_left (by omega) (by omega)
      omega
  unfold sres
  split
  · rename_i h
    refine ⟨key _ (.inr rfl) (by omega) (by omega), by omega, by omega, -(k / d) - 1, ?_⟩
    rw [Int.mul_sub, Int.mul_neg, Int.mul_one]; omega
  · refine ⟨key _ (.inl rfl) (by omega) (by omega), by omega, by omega, -(k / d), ?_⟩
    rw [Int.mul_neg]; omega
theorem sumS_abs : ∀ r, (sumS r).natAbs ≤ r.length
  | [] => by simp [sumS]
  | l :: r => by
    have ih := sumS_abs r
    have e : sumS (l :: r) = sgn l + sumS r := by simp [sumS]
    have h1 : sgn l = -1 ∨ sgn l = 1 := by unfold sgn; split <;> simp
    rw [e, List.length_cons]
    omega
end Go.Wd
end
/- The cycles of a permutation, and its order; plain. -/
section
namespace Go.Pm
set_option linter.unusedVariables false
set_option linter.unusedSimpArgs false
/-- Where a point is behind k steps. -/
def itr (p : List Int) (i : Nat) : Nat → Nat
  | 0 => i
  | k + 1 => img p (itr p i k)
/-- How long the cycle of a point is. -/
def clen (p : List Int) (i : Nat) : Nat := (List.range p.length).findIdx (fun k => decide (itr p i (k + 1) = i)) + 1
/-- The cycle of a point, the point first. -/
def cyc (p : List Int) (i : Nat) : List Int := (List.range (clen p i)).map fun k => ((itr p i k : Nat) : Int)
/-- The point is the least of its cycle. -/
def isMn (p : List Int) (i : Nat) : Bool := decide (∀ k, k < clen p i → i ≤ itr p i k)
def cycs (p : List Int) : List (List Int) := ((List.range p.length).filter fun i => isMn p i && decide (1 < clen p i)).map (cyc p)
def lcmL (l : List Nat) : Nat := l.foldl Nat.lcm 1
/-- The order of a permutation. -/
def ord (p : List Int) : Nat := lcmL ((List.range p.length).map (clen p))
section
variable {n : Nat} {p : List Int} {i j : Nat}
end
section
variable {n : Nat} {p : List Int} {i j : Nat}
end
end Go.Pm
end
/- Words made short: they end, and what they do stays; plain. -/
section
namespace Go.Wd
open Go.Pm (Pm comp invp idn img itr)
set_option linter.unusedVariables false
set_option linter.unusedSimpArgs false
def neg (w : List Int) : Nat := w.countP fun x => decide (x < 0)
theorem neg_le (w : List Int) : neg w ≤ w.length := List.countP_le_length
theorem neg_app (a b : List Int) : neg (a ++ b) = neg a + neg b := List.countP_append
/-- The letters of a run: one move. -/
def isRun (a : Int) (r : List Int) : Prop := ∀ x ∈ r, x = a ∨ x = -a
theorem all_same {a : Int} (ha : 0 < a) : ∀ {r : List Int}, isRun a r → (sumS r = r.length → r = List.replicate r.length a) ∧ (sumS r = -r.length → r = List.replicate r.length (-a))
  | [], h => ⟨fun _ => rfl, fun _ => rfl⟩
  | x :: r, h => by
    obtain ⟨i1, i2⟩ := all_same ha (r := r) fun y hy => h y (by simp [hy])
    have hs := sumS_abs r
    have e : sumS (x :: r) = sgn x + sumS r := by simp [sumS]
    have hx := h x (by simp)
    rw [e, List.length_cons, List.replicate_succ, List.replicate_succ]
    constructor
    · intro h1
      rcases hx with rfl | rfl
      · rw [← i1 (by rw [show sgn x = 1 from if_neg (by omega)] at h1; omega)]
      · rw [show sgn (-a) = -1 from if_pos (by omega)] at h1; omega
    · intro h1
      rcases hx with rfl | rfl
      · rw [show sgn x = 1 from if_neg (by omega)] at h1; omega
      · rw [← i2 (by rw [show sgn (-a) = -1 from if_pos (by omega)] at h1; omega)]
theorem neg_lets {a : Int} (ha : 0 < a) (n : Int) : neg (lets a n) = if 0 ≤ n then 0 else n.natAbs := by
  unfold lets neg
  split
  · rw [List.countP_replicate]; simp; omega
  · rw [List.countP_replicate, if_pos (by simp; omega)]; omega
/-- A run that does not get shorter stays, or has fewer inverse letters. -/
theorem shortR_same {od : Int → Int} {a : Int} (ha : 0 < a) (hd : 0 < od a) {r : List Int} (hr : isRun a r) (h0 : absI (r.getD 0 0) = a) (hne : r ≠ []) :
    (shortR od r).length ≤ r.length ∧ ((shortR od r).length = r.length → shortR od r = r ∨ neg (shortR od r) < neg r) := by
  have hL : 0 < r.length := by cases r with
    | nil => exact absurd rfl hne
    | cons => simp
  unfold shortR
  rw [h0, lets_len]
  obtain ⟨s1, s2, s3, q, s4⟩ := sres_ok (k := sumS r) hd
  have h2 := sumS_abs r
  refine ⟨by omega, fun e => ?_⟩
  have hsum : sumS r = r.length ∨ sumS r = -(r.length : Int) := by omega
  obtain ⟨n, hn⟩ : ∃ n, n = sres (sumS r) (od a) := ⟨_, rfl⟩
  rw [← hn] at s1 s2 s3 s4 e ⊢
  rcases hsum with h3 | h3
  · have hr2 := (all_same ha hr).1 h3
    rcases Int.le_total 0 n with h4 | h4
    · left
      unfold lets
      rw [if_pos h4, show n.toNat = r.length by omega]; exact hr2.symm
    · exfalso
      rw [h3] at s4
      have e2 : od a * q = -2 * r.length := by omega
      rcases Int.lt_trichotomy q 0 with hq | hq | hq
      · have : od a * q ≤ od a * (-1) := Int.mul_le_mul_of_nonneg_left (by omega) (by omega)
        omega
      · subst hq; simp at e2; omega
      · have : od a * 1 ≤ od a * q := Int.mul_le_mul_of_nonneg_left (by omega) (by omega)
        omega
  · have hr2 := (all_same ha hr).2 h3
    rcases (show n < 0 ∨ 0 ≤ n by omega) with h4 | h4
    · left
      unfold lets
      rw [if_neg (by omega), show (-n).toNat = r.length by omega]; exact hr2.symm
    · right
      rw [neg_lets ha, if_pos h4, hr2]
      unfold neg
      rw [List.countP_replicate, if_pos (by simp; omega)]
      exact hL
theorem flat_same (f : List Int → List Int) : ∀ (xs : List (List Int)), (∀ r ∈ xs, (f r).length ≤ r.length ∧ ((f r).length = r.length → f r = r ∨ neg (f r) < neg r)) →
    (xs.map f).flatten.length ≤ xs.flatten.length ∧ ((xs.map f).flatten.length = xs.flatten.length → (xs.map f).flatten = xs.flatten ∨ neg (xs.map f).flatten < neg xs.flatten) ∧ ((xs.map f).flatten.length = xs.flatten.length → neg (xs.map f).flatten ≤ neg xs.flatten)
  | [], h => ⟨Nat.le_refl _, fun _ => .inl rfl, fun _ => Nat.le_refl _⟩
  | r :: xs, h => by
    obtain ⟨i1, i2, i3⟩ := flat_same f xs fun y hy => h y (by simp [hy])
    obtain ⟨k1, k2⟩ := h r (by simp)
    simp only [List.map_cons, List.flatten_cons, List.length_append, neg_app]
    refine ⟨by omega, fun e => ?_, fun e => ?_⟩
    · rcases k2 (by omega) with a | a
      · rcases i2 (by omega) with b | b
        · left; rw [a, b]
        · right; rw [a]; omega
      · right
        have := i3 (by omega)
        omega
    · have := i3 (by omega)
      rcases k2 (by omega) with a | a
      · rw [a]; omega
      · omega
/-- The letters of valid words. -/
def okW (w : List Int) : Prop := ∀ x ∈ w, x ≠ 0
theorem absI_pos {x : Int} (h : x ≠ 0) : 0 < absI x := by unfold absI; omega
theorem absI_or (x : Int) : x = absI x ∨ x = -absI x := by unfold absI; omega
theorem run_of {w : List Int} (hw : okW w) {r : List Int} (hr : r ∈ runs absI w) : r ≠ [] ∧ 0 < absI (r.getD 0 0) ∧ isRun (absI (r.getD 0 0)) r ∧ ∀ x ∈ r, x ∈ w := by
  obtain ⟨j, hj, rfl⟩ := List.mem_iff_getElem.1 hr
  have ho := runs_ok absI w
  have e : (runs absI w).getD j [] = (runs absI w)[j] := by simp [List.getD_eq_getElem?_getD, hj]
  have h1 := ho.ne j hj
  have h2 := ho.al j hj
  rw [e] at h1 h2
  have hin : ∀ x ∈ (runs absI w)[j], x ∈ w := fun x hx => by
    rw [← runs_flat absI w]
    exact List.mem_flatten.2 ⟨_, List.getElem_mem hj, hx⟩
  have h0 : (runs absI w)[j].getD 0 0 ∈ (runs absI w)[j] := by
    rw [List.getD_eq_getElem?_getD, List.getElem?_eq_getElem (List.length_pos_iff.2 h1)]
    exact List.getElem_mem _
  refine ⟨h1, absI_pos (hw _ (hin _ h0)), fun x hx => ?_, hin⟩
  rw [← h2 x hx]
  exact absI_or x
/-- How far a word is from its end. -/
def mu (w : List Int) : Nat := w.length * 201 + neg w
theorem short_same {od : Int → Int} {w : List Int} (hw : okW w) (hd : ∀ x ∈ w, 0 < od (absI x)) :
    (short od w).length ≤ w.length ∧ (w.length ≤ 200 → short od w ≠ w → mu (short od w) < mu w) := by
  have key := flat_same (shortR od) (runs absI w) fun r hr => by
    obtain ⟨h1, h2, h3, h4⟩ := run_of hw hr
    refine shortR_same h2 ?_ h3 rfl h1
    refine hd _ (h4 _ ?_)
    rw [List.getD_eq_getElem?_getD, List.getElem?_eq_getElem (List.length_pos_iff.2 h1)]
    exact List.getElem_mem _
  rw [runs_flat] at key
  obtain ⟨k1, k2, k3⟩ := key
  refine ⟨k1, fun hl hne => ?_⟩
  unfold mu
  by_cases e : (short od w).length = w.length
  · rcases k2 e with h | h
    · exact absurd h hne
    · have h' : neg (short od w) < neg w := h
      rw [e]; omega
  · have h1 : (short od w).length ≤ w.length := k1
    have h2 := neg_le (short od w)
    omega
theorem mem_lets {m n x : Int} (h : x ∈ lets m n) : x = m ∨ x = -m := by
  unfold lets at h
  split at h
  · exact .inl (List.eq_of_mem_replicate h)
  · exact .inr (List.eq_of_mem_replicate h)
/-- Each letter left is of a move that the word has. -/
theorem mem_short {od : Int → Int} {w : List Int} (hw : okW w) {x : Int} (h : x ∈ short od w) : ∃ y ∈ w, absI x = absI y ∧ x ≠ 0 := by
  unfold short at h
  obtain ⟨l, hl, hx⟩ := List.mem_flatten.1 h
  obtain ⟨r, hr, rfl⟩ := List.mem_map.1 hl
  obtain ⟨h1, h2, h3, h4⟩ := run_of hw hr
  have h0 : r.getD 0 0 ∈ r := by
    rw [List.getD_eq_getElem?_getD, List.getElem?_eq_getElem (List.length_pos_iff.2 h1)]
    exact List.getElem_mem _
  refine ⟨_, h4 _ h0, ?_⟩
  unfold shortR at hx
  have := mem_lets hx
  unfold absI at *
  omega
section
variable {n : Nat} {q : List Int} {i : Nat}
end
/-- What the letters denote. -/
structure Lts (n : Nat) (L : Int → List Int) (ok : Int → Prop) : Prop where
  pm : ∀ a, ok a → Pm n (L a)
  inv : ∀ a, ok a → L (-a) = invp (L a)
def ev (L : Int → List Int) (P : List Int) (w : List Int) : List Int := w.foldl (fun p l => comp p (L l)) P
section
variable {n : Nat} {L : Int → List Int} {ok : Int → Prop}
end
end Go.Wd
end
/- What a walk over the cycles of a permutation has met; plain. -/
section
namespace Go.Pm
set_option linter.unusedVariables false
set_option linter.unusedSimpArgs false
/-- A point is met by the cycles of the points below i. -/
def sn (p : List Int) (i x : Nat) : Bool := decide (∃ j, j < i ∧ ∃ m, m < clen p j ∧ itr p j m = x)
/-- What is met: the cycles of the points below i, and k steps of the next. -/
def snK (p : List Int) (i k : Nat) : List Bool := (List.range p.length).map fun x => sn p i x || decide (∃ m, m < k ∧ itr p i m = x)
/-- So many steps are made from i. -/
def stK (p : List Int) (i : Nat) : Nat := if sn p i i = true then 0 else clen p i
def cycsK (p : List Int) (i : Nat) : List (List Int) := ((List.range i).filter fun i => isMn p i && decide (1 < clen p i)).map (cyc p)
section
variable {n : Nat} {p : List Int} {i : Nat}
end
end Go.Pm
end
/- Words made short until they stay as they are; plain. -/
section
namespace Go.Wd
set_option linter.unusedVariables false
set_option linter.unusedSimpArgs false
/-- Words that may be made short. -/
structure SW (od : Int → Int) (w : List Int) : Prop where
  nz : okW w
  od : ∀ x ∈ w, 0 < od (absI x)
  len : w.length ≤ 200
theorem SW.short {od : Int → Int} {w : List Int} (h : SW od w) : SW od (short od w) ∧ (Go.Wd.short od w ≠ w → mu (Go.Wd.short od w) < mu w) := by
  have h1 := short_same h.nz h.od
  refine ⟨⟨fun x hx => ?_, fun x hx => ?_, by have := h.len; omega⟩, fun hne => h1.2 h.len hne⟩
  · obtain ⟨y, _, _, h2⟩ := mem_short h.nz hx; exact h2
  · obtain ⟨y, hy, e, _⟩ := mem_short h.nz hx
    rw [e]; exact h.od y hy
end Go.Wd
end
/- Syntax trees in postorder: the sizes of subtrees, and the stack that meets them; plain. -/
section
namespace Go.Nt
set_option linter.unusedVariables false
set_option linter.unusedSimpArgs false
structure Nd where
  kind : Int
  move : Int
  count : Int
  inv : Int
  split : Int
  kids : List Int
  deriving DecidableEq
def nd0 : Nd := ⟨0, 0, 0, 0, 0, []⟩
abbrev kd (xs : List Nd) (i : Nat) : List Int := (xs.getD i nd0).kids
/-- The sizes of the subtrees that end below p, from the last to the first; m nodes so far. -/
def szK (r : Nat → Option Nat) : List Int → Nat → Nat → Option Nat
  | [], _, m => some m
  | c :: cs, p, m => if 0 < p ∧ c = (p : Int) - 1 then (match r (p - 1) with | none => none | some n => szK r cs (p - n) (m + n)) else none
def szF (xs : List Nd) : Nat → Nat → Option Nat
  | 0, _ => none
  | f + 1, i => szK (szF xs f) (kd xs i).reverse i 1
def sz (xs : List Nd) (i : Nat) : Option Nat := szF xs (i + 1) i
theorem szK_congr {r r' : Nat → Option Nat} : ∀ (cs : List Int) (p m : Nat), (∀ j, j < p → r j = r' j) → szK r cs p m = szK r' cs p m
  | [], p, m, h => rfl
  | c :: cs, p, m, h => by
    unfold szK
    split
    · rename_i hc
      rw [h (p - 1) (by omega)]
      cases e : r' (p - 1) with
      | none => rfl
      | some n => exact szK_congr cs (p - n) (m + n) fun j hj => h j (by omega)
    · rfl
theorem szF_eq (xs : List Nd) : ∀ (i f : Nat), i < f → szF xs f i = sz xs i := by
  intro i
  induction i using Nat.strongRecOn with
  | _ i ih =>
    intro f hf
    obtain ⟨g, rfl⟩ : ∃ g, f = g + 1 := ⟨f - 1, by omega⟩
    show szK (szF xs g) _ _ _ = szK (szF xs i) _ _ _
    refine szK_congr _ _ _ fun j hj => ?_
    rw [ih j hj g (by omega), ih j hj i hj]
theorem sz_eq (xs : List Nd) (i : Nat) : sz xs i = szK (sz xs) (kd xs i).reverse i 1 := by
  show szK (szF xs i) _ _ _ = _
  exact szK_congr _ _ _ fun j hj => szF_eq xs j i hj
/-- One node meets its children on top of the stack. -/
def stp (xs : List Nd) (i : Nat) (st : List Int) : Option (List Int) :=
  if (kd xs i).length ≤ st.length ∧ st.drop (st.length - (kd xs i).length) = kd xs i then some (st.take (st.length - (kd xs i).length) ++ [(i : Int)]) else none
def runF (xs : List Nd) (a : Nat) : Nat → List Int → Option (List Int)
  | 0, st => some st
  | k + 1, st => (runF xs a k st).bind (stp xs (a + k))
theorem runF_add (xs : List Nd) (a : Nat) : ∀ (l k : Nat) (st : List Int), runF xs a (k + l) st = (runF xs a k st).bind (runF xs (a + k) l)
  | 0, k, st => by
    rw [Nat.add_zero]
    cases runF xs a k st with
    | none => rfl
    | some s => rfl
  | l + 1, k, st => by
    show (runF xs a (k + l) st).bind (stp xs (a + (k + l))) = _
    rw [runF_add xs a l k st]
    cases runF xs a k st with
    | none => rfl
    | some s =>
      show (runF xs (a + k) l s).bind (stp xs (a + (k + l))) = (runF xs (a + k) l s).bind (stp xs (a + k + l))
      rw [Nat.add_assoc]
theorem szK_run {xs : List Nd} {i : Nat} (ih : ∀ j n, j < i → sz xs j = some n → 1 ≤ n ∧ n ≤ j + 1 ∧ ∀ st, runF xs (j + 1 - n) n st = some (st ++ [(j : Int)])) :
    ∀ (cs : List Int) (p m0 m : Nat), p ≤ i → szK (sz xs) cs p m0 = some m → m0 + cs.length ≤ m ∧ m - m0 ≤ p ∧ ∀ st, runF xs (p - (m - m0)) (m - m0) st = some (st ++ cs.reverse)
  | [], p, m0, m, hp, h => by
    simp only [szK, Option.some.injEq] at h
    subst h
    exact ⟨by simp, by omega, fun st => by rw [Nat.sub_self]; simp [runF]⟩
  | c :: cs, p, m0, m, hp, h => by
    unfold szK at h
    split at h
    · rename_i hc
      cases e : sz xs (p - 1) with
      | none => rw [e] at h; cases h
      | some n =>
        rw [e] at h
        obtain ⟨i1, i2, i3⟩ := ih (p - 1) n (by omega) e
        obtain ⟨k1, k2, k3⟩ := szK_run ih cs (p - n) (m0 + n) m (by omega) h
        refine ⟨by rw [List.length_cons]; omega, by omega, fun st => ?_⟩
        have e1 : runF xs (p - (m - m0)) (m - m0) st = runF xs (p - n - (m - (m0 + n))) ((m - (m0 + n)) + n) st := by congr 1 <;> omega
        rw [e1, runF_add, k3 st]
        show runF xs (p - n - (m - (m0 + n)) + (m - (m0 + n))) n (st ++ cs.reverse) = _
        rw [show p - n - (m - (m0 + n)) + (m - (m0 + n)) = p - 1 + 1 - n by omega, i3, List.reverse_cons, ← List.append_assoc, hc.2, show ((p - 1 : Nat) : Int) = (p : Int) - 1 by omega]
    · cases h
theorem sz_run (xs : List Nd) : ∀ (i n : Nat), sz xs i = some n → (1 ≤ n ∧ (kd xs i).length < n) ∧ n ≤ i + 1 ∧ ∀ st, runF xs (i + 1 - n) n st = some (st ++ [(i : Int)]) := by
  intro i
  induction i using Nat.strongRecOn with
  | _ i ih =>
    intro n h
    rw [sz_eq] at h
    obtain ⟨k1, k2, k3⟩ := szK_run (i := i) (fun j m hj hm => let ⟨a, b, c⟩ := ih j hj m hm; ⟨a.1, b, c⟩) _ i 1 n (Nat.le_refl _) h
    rw [List.length_reverse] at k1
    refine ⟨⟨by omega, by omega⟩, by omega, fun st => ?_⟩
    obtain ⟨l, rfl⟩ : ∃ l, n = l + 1 := ⟨n - 1, by omega⟩
    have e : runF xs (i - l) l st = some (st ++ kd xs i) := by
      have := k3 st
      rwa [List.reverse_reverse, Nat.add_sub_cancel] at this
    show (runF xs (i + 1 - (l + 1)) l st).bind (stp xs (i + 1 - (l + 1) + l)) = _
    rw [show i + 1 - (l + 1) = i - l by omega, e]
    show stp xs (i - l + l) (st ++ kd xs i) = _
    rw [Nat.sub_add_cancel (by omega)]
    unfold stp
    have hl : (st ++ kd xs i).length - (kd xs i).length = st.length := by simp
    rw [hl, List.take_left, List.drop_left, if_pos ⟨by simp, rfl⟩]
/-- The stack, from its top: each entry is a node whose subtree lies between the entry below and itself. -/
inductive Chain (xs : List Nd) : Nat → List Int → Prop
  | nil : Chain xs 0 []
  | cons {p n : Nat} {cs : List Int} : sz xs p = some n → n ≤ p + 1 → Chain xs (p + 1 - n) cs → Chain xs (p + 1) ((p : Int) :: cs)
theorem chain_nil {xs : List Nd} {k : Nat} (h : Chain xs k []) : k = 0 := by cases h; rfl
theorem chain_szK {xs : List Nd} : ∀ (cs rest : List Int) (p m : Nat), Chain xs p (cs ++ rest) → ∃ q, q ≤ p ∧ szK (sz xs) cs p m = some (m + (p - q)) ∧ Chain xs q rest
  | [], rest, p, m, h => ⟨p, Nat.le_refl _, by simp [szK], h⟩
  | c :: cs, rest, p, m, h => by
    rw [List.cons_append] at h
    cases h with
    | @cons p n _ h1 h2 h3 =>
      obtain ⟨q, hq, e, h4⟩ := chain_szK cs rest _ (m + n) h3
      have hn := (sz_run xs p n h1).1.1
      refine ⟨q, by omega, ?_, h4⟩
      unfold szK
      rw [if_pos ⟨by omega, by omega⟩, show p + 1 - 1 = p from rfl, h1]
      show szK (sz xs) cs (p + 1 - n) (m + n) = _
      rw [e]; congr 1; omega
theorem stp_chain {xs : List Nd} {i : Nat} {st st' : List Int} (h : Chain xs i st.reverse) (e : stp xs i st = some st') : Chain xs (i + 1) st'.reverse := by
  unfold stp at e
  split at e
  · rename_i hc
    simp only [Option.some.injEq] at e
    subst e
    have es : st.reverse = (kd xs i).reverse ++ (st.take (st.length - (kd xs i).length)).reverse := by
      have := List.take_append_drop (st.length - (kd xs i).length) st
      rw [hc.2] at this
      rw [← List.reverse_append, this]
    rw [es] at h
    obtain ⟨q, hq, e1, h2⟩ := chain_szK _ _ i 1 h
    rw [List.reverse_append]
    show Chain xs (i + 1) ((i : Int) :: _)
    have e2 : sz xs i = some (1 + (i - q)) := by rw [sz_eq]; exact e1
    refine .cons e2 (by omega) ?_
    rw [show i + 1 - (1 + (i - q)) = q by omega]; exact h2
  · cases e
theorem run_chain {xs : List Nd} : ∀ (k : Nat) (st : List Int), runF xs 0 k [] = some st → Chain xs k st.reverse
  | 0, st, h => by simp only [runF, Option.some.injEq] at h; subst h; exact .nil
  | k + 1, st, h => by
    unfold runF at h
    cases e : runF xs 0 k [] with
    | none => rw [e] at h; cases h
    | some s =>
      rw [e, Nat.zero_add] at h
      exact stp_chain (run_chain k s e) h
theorem chain_one {xs : List Nd} {n : Nat} {c : Int} (h : Chain xs n [c]) : sz xs (n - 1) = some n := by
  cases h with
  | @cons p m _ h1 h2 h3 =>
    have := chain_nil h3
    rw [show p + 1 - 1 = p from rfl, h1]; congr 1; omega
theorem valid_iff (xs : List Nd) (n : Nat) (hn : 0 < n) : sz xs (n - 1) = some n ↔ ∃ st, runF xs 0 n [] = some st ∧ st.length = 1 := by
  constructor
  · intro h
    obtain ⟨_, _, k⟩ := sz_run xs _ _ h
    have := k []
    rw [show n - 1 + 1 - n = 0 by omega] at this
    exact ⟨_, this, rfl⟩
  · rintro ⟨st, h, hl⟩
    have hc := run_chain n st h
    obtain ⟨c, rfl⟩ : ∃ c, st = [c] := by
      match st, hl with
      | [c], _ => exact ⟨c, rfl⟩
    rw [List.reverse_singleton] at hc
    exact chain_one hc
/-- The children are nodes before, and their subtrees cover what lies before. -/
theorem szK_mem {xs : List Nd} : ∀ (cs : List Int) (p m0 m : Nat), szK (sz xs) cs p m0 = some m → m0 ≤ m ∧ (∀ c ∈ cs, ∃ q n : Nat, c = (q : Int) ∧ q < p ∧ sz xs q = some n) ∧
      ∀ q, p - (m - m0) ≤ q → q < p → ∃ j n : Nat, (j : Int) ∈ cs ∧ sz xs j = some n ∧ j + 1 - n ≤ q ∧ q ≤ j
  | [], p, m0, m, h => by
    simp only [szK, Option.some.injEq] at h
    subst h
    exact ⟨Nat.le_refl _, fun c hc => absurd hc (by simp), fun q h1 h2 => by omega⟩
  | c :: cs, p, m0, m, h => by
    unfold szK at h
    split at h
    · rename_i hc
      cases e : sz xs (p - 1) with
      | none => rw [e] at h; cases h
      | some n =>
        rw [e] at h
        obtain ⟨k0, k1, k2⟩ := szK_mem cs (p - n) (m0 + n) m h
        refine ⟨by omega, fun x hx => ?_, fun q h1 h2 => ?_⟩
        · rcases List.mem_cons.1 hx with rfl | hx
          · exact ⟨p - 1, n, by omega, by omega, e⟩
          · obtain ⟨q, l, a, b, d⟩ := k1 x hx
            exact ⟨q, l, a, by omega, d⟩
        · by_cases hq : q < p - n
          · obtain ⟨j, l, a, b⟩ := k2 q (by omega) hq
            exact ⟨j, l, List.mem_cons_of_mem _ a, b⟩
          · exact ⟨p - 1, n, by rw [List.mem_cons]; left; omega, e, by omega, by omega⟩
    · cases h
theorem sz_mem {xs : List Nd} {i n : Nat} (h : sz xs i = some n) : (∀ c ∈ kd xs i, ∃ q m : Nat, c = (q : Int) ∧ q < i ∧ sz xs q = some m) ∧
    ∀ q, i + 1 - n ≤ q → q < i → ∃ j m : Nat, (j : Int) ∈ kd xs i ∧ j < i ∧ sz xs j = some m ∧ j + 1 - m ≤ q ∧ q ≤ j := by
  rw [sz_eq] at h
  obtain ⟨h0, h1, h2⟩ := szK_mem _ _ _ _ h
  refine ⟨fun c hc => h1 c (List.mem_reverse.2 hc), fun q a b => ?_⟩
  obtain ⟨j, m, c, d⟩ := h2 q (by omega) b
  obtain ⟨q', m', e1, e2, _⟩ := h1 _ c
  exact ⟨j, m, List.mem_reverse.1 c, by omega, d⟩
/-- What goes down from a node to its children holds of all nodes of its subtree. -/
theorem below {xs : List Nd} (Q : Nat → Prop) (step : ∀ i, Q i → ∀ j : Nat, (j : Int) ∈ kd xs i → Q j) : ∀ (i n : Nat), sz xs i = some n → Q i → ∀ q, i + 1 - n ≤ q → q ≤ i → Q q := by
  intro i
  induction i using Nat.strongRecOn with
  | _ i ih =>
    intro n h hi q h1 h2
    by_cases e : q = i
    · subst e; exact hi
    · obtain ⟨j, m, a, b, c, d⟩ := (sz_mem h).2 q h1 (by omega)
      exact ih j b m c (step i hi j a) q d.1 d.2
theorem sz_all {xs : List Nd} {n : Nat} (h : sz xs (n - 1) = some n) : ∀ q, q < n → ∃ m, sz xs q = some m := by
  intro q hq
  refine below (fun q => ∃ m, sz xs q = some m) (fun i ⟨m, hm⟩ j hj => ?_) (n - 1) n h ⟨n, h⟩ q (by omega) (by omega)
  obtain ⟨q', m', e1, _, e2⟩ := (sz_mem hm).1 _ hj
  have : j = q' := by omega
  subst this; exact ⟨m', e2⟩
theorem kid_lt {xs : List Nd} {n : Nat} (h : sz xs (n - 1) = some n) {q : Nat} (hq : q < n) {k : Nat} (hk : k < (kd xs q).length) : 0 ≤ (kd xs q).getD k 0 ∧ (kd xs q).getD k 0 < q := by
  obtain ⟨m, hm⟩ := sz_all h q hq
  have hmem : (kd xs q).getD k 0 ∈ kd xs q := by
    rw [List.getD_eq_getElem?_getD, List.getElem?_eq_getElem hk]; exact List.getElem_mem hk
  obtain ⟨j, _, e, hj, _⟩ := (sz_mem hm).1 _ hmem
  omega
theorem kids_len {xs : List Nd} {n : Nat} (h : sz xs (n - 1) = some n) {q : Nat} (hq : q < n) : (kd xs q).length ≤ q := by
  obtain ⟨m, hm⟩ := sz_all h q hq
  have := sz_run xs q m hm
  omega
/-- A node's fields are valid; apart from the order of its children. -/
def ndOk (many : Int) (x : Nd) (last : Bool) : Prop :=
  (1 ≤ x.count ∧ x.count ≤ 99) ∧ (0 ≤ x.inv ∧ x.inv ≤ 1) ∧
  ((last = true ∧ x.kind = 2 ∧ x.count = 1 ∧ x.inv = 0 ∧ x.move = 0 ∧ x.split = 0) ∨
   (last = false ∧ ((x.kind = 1 ∧ (0 ≤ x.move ∧ x.move ≤ many - 1) ∧ x.split = 0 ∧ x.kids.length = 0) ∨ (x.kind = 2 ∧ x.move = 0 ∧ x.split = 0 ∧ 0 < x.kids.length) ∨
     ((x.kind = 3 ∨ x.kind = 4) ∧ x.move = 0 ∧ 1 ≤ x.split ∧ x.split ≤ (x.kids.length : Int) - 1))))
instance (many : Int) (x : Nd) (last : Bool) : Decidable (ndOk many x last) := by unfold ndOk; infer_instance
/-- A syntax tree. -/
def isNt (many : Int) (xs : List Nd) : Prop :=
  (1 ≤ many ∧ many ≤ 8) ∧ (1 ≤ xs.length ∧ xs.length ≤ 200) ∧ (∀ i, i < xs.length → ndOk many (xs.getD i nd0) (decide (i + 1 = xs.length))) ∧ sz xs (xs.length - 1) = some xs.length
instance (many : Int) (xs : List Nd) : Decidable (isNt many xs) := by unfold isNt; infer_instance
end Go.Nt
end
/- The expansion of syntax trees; plain. -/
section
namespace Go.Nt
set_option linter.unusedVariables false
set_option linter.unusedSimpArgs false
open Go.Wd (inv)
/-- What a node says, count and inverse aside; a, b: its children's words. -/
def bas (x : Nd) (a b : List Int) : List Int := (if x.kind = 1 then [x.move + 1] else []) ++ a ++ b ++ (if x.kind = 3 ∨ x.kind = 4 then inv a else []) ++ (if x.kind = 3 then inv b else [])
/-- So often. -/
def repW (w : List Int) (k : Nat) : List Int := (List.replicate k w).flatten
/-- What a node says; none if it is too long. -/
def ndW (x : Nd) (ws : List (List Int)) : Option (List Int) :=
  if 200 < (bas x (ws.take x.split.toNat).flatten (ws.drop x.split.toNat).flatten).length * x.count.toNat then none
  else some (if x.inv = 1 then inv (repW (bas x (ws.take x.split.toNat).flatten (ws.drop x.split.toNat).flatten) x.count.toNat) else repW (bas x (ws.take x.split.toNat).flatten (ws.drop x.split.toNat).flatten) x.count.toNat)
def kidsO (r : Nat → Option (List Int)) : List Int → Option (List (List Int))
  | [] => some []
  | c :: cs => match r c.toNat with
    | none => none
    | some w => match kidsO r cs with
      | none => none
      | some ws => some (w :: ws)
def exF (xs : List Nd) : Nat → Nat → Option (List Int)
  | 0, _ => none
  | f + 1, i => match kidsO (exF xs f) (kd xs i) with
    | none => none
    | some ws => ndW (xs.getD i nd0) ws
/-- The expansion of a node. -/
def ex (xs : List Nd) (i : Nat) : Option (List Int) := exF xs (i + 1) i
theorem kidsO_congr {r r' : Nat → Option (List Int)} : ∀ (cs : List Int), (∀ c ∈ cs, r c.toNat = r' c.toNat) → kidsO r cs = kidsO r' cs
  | [], _ => rfl
  | c :: cs, h => by
    unfold kidsO
    rw [h c (List.mem_cons_self ..), kidsO_congr cs fun x hx => h x (List.mem_cons_of_mem _ hx)]
/-- Children stand before. -/
def kidsB (xs : List Nd) (i : Nat) : Prop := ∀ c ∈ kd xs i, 0 ≤ c ∧ c < i
theorem exF_eq {xs : List Nd} {n : Nat} (hk : ∀ i, i < n → kidsB xs i) : ∀ (i f : Nat), i < n → i < f → exF xs f i = ex xs i := by
  intro i
  induction i using Nat.strongRecOn with
  | _ i ih =>
    intro f hn hf
    obtain ⟨g, rfl⟩ : ∃ g, f = g + 1 := ⟨f - 1, by omega⟩
    have e : kidsO (exF xs g) (kd xs i) = kidsO (exF xs i) (kd xs i) := kidsO_congr _ fun c hc => by
      have := hk i hn c hc
      rw [ih c.toNat (by omega) g (by omega) (by omega), ih c.toNat (by omega) i (by omega) (by omega)]
    show (match kidsO (exF xs g) (kd xs i) with | none => none | some ws => ndW (xs.getD i nd0) ws) = (match kidsO (exF xs i) (kd xs i) with | none => none | some ws => ndW (xs.getD i nd0) ws)
    rw [e]
theorem ex_eq {xs : List Nd} {n : Nat} (hk : ∀ i, i < n → kidsB xs i) {i : Nat} (hi : i < n) : ex xs i = (match kidsO (ex xs) (kd xs i) with | none => none | some ws => ndW (xs.getD i nd0) ws) := by
  have e : kidsO (exF xs i) (kd xs i) = kidsO (ex xs) (kd xs i) := kidsO_congr _ fun c hc => by
    have := hk i hi c hc
    exact exF_eq hk c.toNat i (by omega) (by omega)
  show (match kidsO (exF xs i) (kd xs i) with | none => none | some ws => ndW (xs.getD i nd0) ws) = _
  rw [e]
theorem kidsO_some {r : Nat → Option (List Int)} : ∀ (cs : List Int) (ws : List (List Int)), ws.length = cs.length → (∀ k, k < cs.length → r (cs.getD k 0).toNat = some (ws.getD k [])) → kidsO r cs = some ws
  | [], ws, hl, _ => by
    have : ws = [] := List.eq_nil_of_length_eq_zero hl
    rw [this]; rfl
  | c :: cs, [], hl, _ => by simp at hl
  | c :: cs, w :: ws, hl, h => by
    have h0 := h 0 (by simp)
    have ih := kidsO_some (r := r) cs ws (by simpa using hl) fun k hk => by
      have := h (k + 1) (by simp; omega)
      simpa using this
    unfold kidsO
    have h0' : r c.toNat = some w := by simpa using h0
    rw [h0', ih]
theorem kidsO_none {r : Nat → Option (List Int)} : ∀ (cs : List Int) (k : Nat), k < cs.length → r (cs.getD k 0).toNat = none → kidsO r cs = none
  | [], k, hk, _ => by simp at hk
  | c :: cs, 0, _, h => by
    have h0 : r c.toNat = none := by simpa using h
    unfold kidsO; rw [h0]
  | c :: cs, k + 1, hk, h => by
    have ih := kidsO_none (r := r) cs k (by simpa using hk) (by simpa using h)
    unfold kidsO
    rw [ih]
    cases r c.toNat <;> rfl
theorem kidsO_inv {r : Nat → Option (List Int)} : ∀ (cs : List Int) (ws : List (List Int)), kidsO r cs = some ws → ∀ c ∈ cs, ∃ w, r c.toNat = some w
  | [], _, _, c, hc => by cases hc
  | c :: cs, ws, h, x, hx => by
    unfold kidsO at h
    cases e : r c.toNat with
    | none => rw [e] at h; cases h
    | some w =>
      rw [e] at h
      cases e2 : kidsO r cs with
      | none => rw [e2] at h; cases h
      | some ws' =>
        rcases List.mem_cons.1 hx with rfl | hx
        · exact ⟨w, e⟩
        · exact kidsO_inv cs ws' e2 x hx
/-- All nodes from the first on. -/
def tab (xs : List Nd) : Nat → Option (List (List Int))
  | 0 => some []
  | k + 1 => match tab xs k with
    | none => none
    | some out => match ndW (xs.getD k nd0) ((kd xs k).map fun c => out.getD c.toNat []) with
      | none => none
      | some w => some (out ++ [w])
theorem tab_ok {xs : List Nd} {n : Nat} (hk : ∀ i, i < n → kidsB xs i) : ∀ k, k ≤ n → match tab xs k with
    | some out => out.length = k ∧ ∀ i, i < k → ex xs i = some (out.getD i [])
    | none => ∃ i, i < k ∧ ex xs i = none
  | 0, _ => by simp only [tab]; exact ⟨rfl, fun i h => absurd h (by omega)⟩
  | k + 1, hn => by
    have ih := tab_ok hk k (by omega)
    simp only [tab]
    cases e : tab xs k with
    | none =>
      rw [e] at ih
      obtain ⟨i, hi, h⟩ := ih
      exact ⟨i, by omega, h⟩
    | some out =>
      rw [e] at ih
      obtain ⟨hl, ho⟩ := ih
      have hkk := hk k (by omega)
      have e2 : kidsO (ex xs) (kd xs k) = some ((kd xs k).map fun c => out.getD c.toNat []) := kidsO_some _ _ (by simp) fun j hj => by
        have hm : (kd xs k).getD j 0 ∈ kd xs k := by rw [List.getD_eq_getElem?_getD, List.getElem?_eq_getElem hj]; exact List.getElem_mem hj
        have := hkk _ hm
        rw [ho _ (by omega)]
        simp [List.getD_eq_getElem?_getD, hj]
      have e3 := ex_eq hk (i := k) (by omega)
      rw [e2] at e3
      simp only at e3 ⊢
      cases e4 : ndW (xs.getD k nd0) ((kd xs k).map fun c => out.getD c.toNat []) with
      | none => rw [e4] at e3; exact ⟨k, by omega, e3⟩
      | some w =>
        rw [e4] at e3
        refine ⟨by simp [hl], fun i hi => ?_⟩
        by_cases hik : i = k
        · subst hik
          rw [e3, List.getD_eq_getElem?_getD, List.getElem?_append_right (by omega), hl, Nat.sub_self]; rfl
        · rw [ho i (by omega), List.getD_eq_getElem?_getD, List.getD_eq_getElem?_getD, List.getElem?_append_left (by omega)]
theorem tab_none {xs : List Nd} {k : Nat} (h : tab xs k = none) : ∀ d, tab xs (k + d) = none
  | 0 => h
  | d + 1 => by
    have ih := tab_none h d
    show tab xs (k + d + 1) = none
    simp only [tab]
    rw [ih]
theorem kidsB_of {xs : List Nd} {n : Nat} (h : sz xs (n - 1) = some n) : ∀ i, i < n → kidsB xs i := fun i hi c hc => by
  obtain ⟨k, hk, e⟩ := List.mem_iff_getElem.1 hc
  have := kid_lt h hi hk
  rw [List.getD_eq_getElem?_getD, List.getElem?_eq_getElem hk, Option.getD_some, e] at this
  exact this
/-- All nodes have an expansion if the root has one. -/
theorem ex_below {xs : List Nd} {n : Nat} (hn : 0 < n) (h : sz xs (n - 1) = some n) {w : List Int} (hw : ex xs (n - 1) = some w) : ∀ i, i < n → ∃ w, ex xs i = some w := by
  have hk := kidsB_of h
  intro i hi
  refine (below (fun q => q < n ∧ ∃ w, ex xs q = some w) (fun q ⟨hq, w, hw⟩ j hj => ?_) (n - 1) n h ⟨by omega, w, hw⟩ i (by omega) (by omega)).2
  have hb := hk q hq _ hj
  refine ⟨by omega, ?_⟩
  rw [ex_eq hk hq] at hw
  cases e : kidsO (ex xs) (kd xs q) with
  | none => rw [e] at hw; cases hw
  | some ws =>
    obtain ⟨v, hv⟩ := kidsO_inv _ _ e _ hj
    exact ⟨v, by simpa using hv⟩
theorem tab_ex {xs : List Nd} {n : Nat} (hn : 0 < n) (h : sz xs (n - 1) = some n) : ex xs (n - 1) = (tab xs n).map fun out => out.getD (n - 1) [] := by
  have hk := kidsB_of h
  have ht := tab_ok hk n (Nat.le_refl _)
  cases e : tab xs n with
  | some out => rw [e] at ht; exact ht.2 _ (by omega)
  | none =>
    rw [e] at ht
    obtain ⟨i, hi, h2⟩ := ht
    cases e2 : ex xs (n - 1) with
    | none => rfl
    | some w =>
      obtain ⟨v, hv⟩ := ex_below hn h e2 i hi
      rw [h2] at hv; cases hv
theorem flat_len {L : Nat} : ∀ (ws : List (List Int)), (∀ w ∈ ws, w.length ≤ L) → ws.flatten.length ≤ L * ws.length
  | [], _ => by simp
  | w :: ws, h => by
    have h1 := h w (List.mem_cons_self ..)
    have h2 := flat_len ws fun x hx => h x (List.mem_cons_of_mem _ hx)
    simp only [List.flatten_cons, List.length_append, List.length_cons]
    rw [Nat.mul_succ]; omega
theorem ex_none {xs : List Nd} {n : Nat} (hk : ∀ i, i < n → kidsB xs i) {i : Nat} (hi : i < n) {k : Nat} (hkk : k < (kd xs i).length) (h : ex xs ((kd xs i).getD k 0).toNat = none) : ex xs i = none := by
  rw [ex_eq hk hi, kidsO_none _ k hkk h]
theorem ex_some {xs : List Nd} {n : Nat} (hk : ∀ i, i < n → kidsB xs i) {i : Nat} (hi : i < n) {ws : List (List Int)} (hl : ws.length = (kd xs i).length) (h : ∀ k, k < (kd xs i).length → ex xs ((kd xs i).getD k 0).toNat = some (ws.getD k [])) : ex xs i = ndW (xs.getD i nd0) ws := by
  rw [ex_eq hk hi, kidsO_some _ ws hl h]
theorem repW_len (w : List Int) (k : Nat) : (repW w k).length = k * w.length := by simp [repW]
theorem ndW_len {x : Nd} {ws : List (List Int)} {w : List Int} (h : ndW x ws = some w) : w.length ≤ 200 := by
  unfold ndW at h
  split at h
  · cases h
  · rename_i hc
    simp only [Option.some.injEq] at h
    subst h
    split
    · simp only [inv, List.length_reverse, List.length_map]; rw [repW_len, Nat.mul_comm]; omega
    · rw [repW_len, Nat.mul_comm]; omega
theorem bas_len (x : Nd) (a b : List Int) : (bas x a b).length ≤ 1 + 2 * (a.length + b.length) := by
  have i1 : (inv a).length = a.length := by simp [inv]
  have i2 : (inv b).length = b.length := by simp [inv]
  unfold bas
  simp only [List.length_append]
  split <;> split <;> split <;> simp only [i1, i2, List.length_nil, List.length_singleton] <;> omega
def sm (w : List Int) : Prop := ∀ y ∈ w, -8 ≤ y ∧ y ≤ 8
theorem sm_app {a b : List Int} (ha : sm a) (hb : sm b) : sm (a ++ b) := fun y hy => (List.mem_append.1 hy).elim (ha y) (hb y)
theorem sm_inv {a : List Int} (ha : sm a) : sm (inv a) := fun y hy => by
  simp only [inv, List.mem_reverse, List.mem_map] at hy
  obtain ⟨z, hz, rfl⟩ := hy
  have := ha z hz; omega
theorem sm_flat {ws : List (List Int)} (h : ∀ w ∈ ws, sm w) : sm ws.flatten := fun y hy => by
  obtain ⟨w, hw, h2⟩ := List.mem_flatten.1 hy
  exact h w hw y h2
theorem sm_nil : sm [] := fun y hy => by cases hy
theorem sm_bas {x : Nd} {a b : List Int} (hx : x.kind = 1 → 0 ≤ x.move ∧ x.move ≤ 7) (ha : sm a) (hb : sm b) : sm (bas x a b) := by
  unfold bas
  refine sm_app (sm_app (sm_app (sm_app ?_ ha) hb) ?_) ?_
  · split
    · rename_i h; intro y hy; rw [List.mem_singleton.1 hy]; have := hx h; omega
    · exact sm_nil
  · split
    · exact sm_inv ha
    · exact sm_nil
  · split
    · exact sm_inv hb
    · exact sm_nil
theorem sm_repW {w : List Int} (h : sm w) (k : Nat) : sm (repW w k) := sm_flat fun v hv => by rw [List.eq_of_mem_replicate hv]; exact h
theorem kidsO_all {r : Nat → Option (List Int)} : ∀ (cs : List Int) (ws : List (List Int)), kidsO r cs = some ws → ∀ w ∈ ws, ∃ c ∈ cs, r c.toNat = some w
  | [], ws, h, w, hw => by
    simp only [kidsO, Option.some.injEq] at h
    subst h; cases hw
  | c :: cs, ws, h, w, hw => by
    unfold kidsO at h
    cases e : r c.toNat with
    | none => rw [e] at h; cases h
    | some v =>
      rw [e] at h
      cases e2 : kidsO r cs with
      | none => rw [e2] at h; cases h
      | some ws' =>
        rw [e2] at h
        simp only [Option.some.injEq] at h
        subst h
        rcases List.mem_cons.1 hw with rfl | hw
        · exact ⟨c, List.mem_cons_self .., e⟩
        · obtain ⟨c', h1, h2⟩ := kidsO_all cs ws' e2 w hw
          exact ⟨c', List.mem_cons_of_mem _ h1, h2⟩
theorem nd_move {m : Int} {x : Nd} {l : Bool} (h : ndOk m x l) (hk : x.kind = 1) : 0 ≤ x.move ∧ x.move ≤ m - 1 := by
  rcases h.2.2 with ⟨_, h2, _⟩ | ⟨_, h2 | h2 | h2⟩ <;> omega
theorem ex_small {xs : List Nd} (hv : isNt 8 xs) : ∀ i, i < xs.length → ∀ w, ex xs i = some w → sm w := by
  have hk := kidsB_of hv.2.2.2
  intro i
  induction i using Nat.strongRecOn with
  | _ i ih =>
    intro hi w hw
    rw [ex_eq hk hi] at hw
    cases e : kidsO (ex xs) (kd xs i) with
    | none => rw [e] at hw; cases hw
    | some ws =>
      rw [e] at hw
      have hws : ∀ w ∈ ws, sm w := fun v hv => by
        obtain ⟨c, hc, h2⟩ := kidsO_all _ _ e v hv
        have := hk i hi c hc
        exact ih c.toNat (by omega) (by omega) v h2
      have hb : sm (bas (xs.getD i nd0) (ws.take (xs.getD i nd0).split.toNat).flatten (ws.drop (xs.getD i nd0).split.toNat).flatten) := sm_bas (fun h => by have := nd_move (hv.2.2.1 i hi) h; omega) (sm_flat fun v hv => hws v (List.mem_of_mem_take hv)) (sm_flat fun v hv => hws v (List.mem_of_mem_drop hv))
      simp only [ndW] at hw
      split at hw
      · cases hw
      · simp only [Option.some.injEq] at hw
        subst hw
        split
        · exact sm_inv (sm_repW hb _)
        · exact sm_repW hb _
theorem ex_len {xs : List Nd} {i : Nat} {w : List Int} (h : ex xs i = some w) : w.length ≤ 200 := by
  unfold ex exF at h
  split at h
  · cases h
  · exact ndW_len h
end Go.Nt
end

import Derived.Test.YtcfnbahpdlmcpaaX2
import Derived.ProofKit
import Derived.OpenShut
import Derived.ShutString
import Derived.ChangeOld
import Derived.Below
import Derived.Carry
import Derived.Deep.Slices
import Derived.Lib.SmallJoins
import Derived.Calls
/- The heap told anew: names turned, nil told as a slice of our own, and cells told one by one. -/
section
namespace Go.Av
/-- A hypothesis that the walk is not to see. -/
structure Hold (p : Prop) : Prop where
  h : p
section
variable {N : Cx} {A A' : Fr} {H H' : Hp}
/-- How what is told before (by old names) is told afterwards (by new ones): ρ gives the old name of a new one; a new name without an old one is a nil slice. -/
inductive Lay (ρ : Nat → Option Nat) : AV → AV → Prop
  | own {h g off sz n : Nat} : ρ h = some g → Lay ρ (.own g off sz n) (.own h off sz n)
  | ref {h g off : Nat} : ρ h = some g → Lay ρ (.ref g off) (.ref h off)
  | nil {h sz : Nat} : ρ h = none → Lay ρ (.v (.slice none 0 0)) (.own h 0 sz 0)
  | plain {a : AV} : a.plain → Lay ρ a a
  | agg {n : Nat} {f g : Nat → AV} : (∀ i, i < n → Lay ρ (f i) (g i)) → Lay ρ (.agg n f) (.agg n g)
  | map {h g : Nat} : ρ h = some g → Lay ρ (.map g) (.map h)
  | dead (a : AV) : Lay ρ a .dead
theorem Lay.rd {ρ : Nat → Option Nat} {w : World} {ok : Nat → Prop} {L : Loc} {a c : AV} (h : Lay ρ a c) : ∀ u, Rd w ok L a u → Rd w ok (fun h => (ρ h).bind L) c u := by
  induction h with
  | @own h g off sz n e => intro u hu; simp only [Rd, e, Option.bind_some] at hu ⊢; exact hu
  | @ref h g off e => intro u hu; simp only [Rd, e, Option.bind_some] at hu ⊢; exact hu
  | @nil h sz e => intro u hu; simp only [Rd, e, Option.bind_none] at hu ⊢; exact ⟨hu, trivial⟩
  | @plain a hp => intro u hu; exact Rd.plain a _ _ u hp hu
  | @agg n f g _ ih => rintro u ⟨cs, h1, h2, h3⟩; exact ⟨cs, h1, h2, fun i hi => let ⟨c, k1, k2⟩ := h3 i hi; ⟨c, k1, ih i hi _ k2⟩⟩
  | @map h g e => intro u hu; simp only [Rd, e, Option.bind_some] at hu ⊢; exact hu
  | dead a => intro u _; trivial
/-- .. where some blocks are maps. -/
theorem Sub.layM (ρ : Nat → Option Nat) (hpn : N.pn = fun _ => false) (hA : ∀ i c, A'.get i = some c → ∃ a, A.get i = some a ∧ Lay ρ a c)
    (hH : ∀ h B', H' h = some B' → (∃ g n f f', ρ h = some g ∧ B' = .cells n f' ∧ H g = some (.cells n f) ∧ ∀ i, i < n → Lay ρ (f i) (f' i)) ∨ (ρ h = none ∧ ∃ f, B' = .cells 0 f) ∨ (∃ g kv, ρ h = some g ∧ B' = .mp kv ∧ H g = some (.mp kv) ∧ ∀ x ∈ kv, x.2.plain))
    (hinj : ∀ h g k, H' h ≠ none → H' g ≠ none → ρ h = some k → ρ g = some k → h = g) : Sub N A H A' H' := by
  intro w0 S hS w tm L s
  have live : ∀ h k, H' h ≠ none → ρ h = some k → H k ≠ none := by
    intro h k hn e
    cases hB : H' h with
    | none => exact absurd hB hn
    | some B =>
      rcases hH h B hB with ⟨g, n, f, f', e1, _, e2, _⟩ | ⟨e1, _⟩ | ⟨g, kv, e1, _, e2, _⟩
      · rw [e] at e1; simp only [Option.some.injEq] at e1; subst e1; rw [e2]; simp
      · rw [e] at e1; simp at e1
      · rw [e] at e1; simp only [Option.some.injEq] at e1; subst e1; rw [e2]; simp
  have dec : ∀ h q, ((ρ h).bind L) = some q → ∃ k, ρ h = some k ∧ L k = some q := by
    intro h q hq
    cases e : ρ h with
    | none => rw [e] at hq; simp at hq
    | some k => rw [e] at hq; exact ⟨k, rfl, hq⟩
  have hok : ∀ b, okb S H L b → okb S H' (fun h => (ρ h).bind L) b := fun b hb => ⟨hb.1, fun h q hn hq => by
    obtain ⟨k, e1, e2⟩ := dec h q hq
    exact hb.2 k q (live h k hn e1) e2⟩
  refine ⟨fun h => (ρ h).bind L, s.keep, s.size, fun i c hc => ?_, fun h B hB => ?_, fun h q hn hq => ?_, fun h g q r hn hm hq hr e => ?_, fun h l hl => ?_⟩
  · obtain ⟨a, h1, h2⟩ := hA i c hc
    exact Rd.mono (fun b _ hb => hok b hb) (h2.rd _ (s.slot i a h1))
  · rcases hH h B hB with ⟨g, n, f, f', e1, rfl, e2, e3⟩ | ⟨e1, f, rfl⟩ | ⟨g, kv, e1, rfl, e2, e3⟩
    · have hb := s.blk g _ e2
      simp only [e1, Option.bind_some]
      cases hl : L g with
      | none => rw [hl] at hb; exact hb
      | some q =>
        rw [hl] at hb
        obtain ⟨cs, e, k1, k2, k3⟩ := hb
        exact ⟨cs, e, k1, k2, fun i hi => let ⟨c, k4, k5⟩ := k3 i hi; ⟨c, k4, Rd.mono (fun b _ hb => hok b hb) ((e3 i hi).rd _ k5)⟩⟩
    · simp only [e1, Option.bind_none]; rfl
    · have hb := s.blk g _ e2
      simp only [e1, Option.bind_some]
      cases hl : L g with
      | none => rw [hl] at hb; exact hb.elim
      | some q =>
        rw [hl] at hb
        obtain ⟨es, clock, k1, k2, k3⟩ := hb
        exact ⟨es, clock, k1, k2, fun i e he => let ⟨a, k4, k5⟩ := k3 i e he; ⟨a, k4, Rd.mono (fun b _ hb => hok b hb) (Rd.plain a _ _ _ (e3 _ (List.mem_of_getElem? k4)) k5)⟩⟩
  · obtain ⟨k, e1, e2⟩ := dec h q hq
    exact s.own k q (live h k hn e1) e2
  · obtain ⟨k1, e1, e2⟩ := dec h q hq
    obtain ⟨k2, e3, e4⟩ := dec g r hr
    have := s.inj k1 k2 q r (live h k1 hn e1) (live g k2 hm e3) e2 e4 e
    subst this
    exact hinj h g k1 hn hm e1 e3
  · rw [hS.free h (by rw [hpn])] at hl; simp at hl
theorem Sub.lay (ρ : Nat → Option Nat) (hpn : N.pn = fun _ => false) (hA : ∀ i c, A'.get i = some c → ∃ a, A.get i = some a ∧ Lay ρ a c)
    (hH : ∀ h B', H' h = some B' → (∃ g n f f', ρ h = some g ∧ B' = .cells n f' ∧ H g = some (.cells n f) ∧ ∀ i, i < n → Lay ρ (f i) (f' i)) ∨ (ρ h = none ∧ ∃ f, B' = .cells 0 f))
    (hinj : ∀ h g k, H' h ≠ none → H' g ≠ none → ρ h = some k → ρ g = some k → h = g) : Sub N A H A' H' :=
  Sub.layM ρ hpn hA (fun h B' hB => (hH h B' hB).elim .inl (fun k => .inr (.inl k))) hinj
theorem lay_nil {ρ : Nat → Option Nat} : ∀ i c, Fr.get [] i = some c → ∃ a, A.get i = some a ∧ Lay ρ a c := fun i c h => by simp [Fr.get] at h
theorem lay_cons {ρ : Nat → Option Nat} {t : Nat} {a : AV} {r : Fr} (h0 : ∃ b, A.get t = some b ∧ Lay ρ b a) (h : ∀ i c, Fr.get r i = some c → ∃ a, A.get i = some a ∧ Lay ρ a c) : ∀ i c, Fr.get ((t, a) :: r) i = some c → ∃ a, A.get i = some a ∧ Lay ρ a c := fun i c e => by
  simp only [Fr.get] at e
  split at e
  · rename_i e1; subst e1; simp only [Option.some.injEq] at e; subst e; exact h0
  · exact h i c e
/-- Each block told in H1 stands in H, and fits what is told of it (the names of D are frozen). -/
def LeF (D : Nat → Prop) (H1 H : Hp) : Prop := ∀ x B, H1 x = some B → ¬ D x ∧ ∃ B', H x = some B' ∧ BFits H D B' B
theorem leF_emp {D : Nat → Prop} : LeF D Hp.emp H := fun x B h => by simp [Hp.emp] at h
theorem leF_upd {D : Nat → Prop} {h : Nat} {B B' : Blk} (k : H h = some B') (e : BFits H D B' B) (r : LeF D H' H) (hD : ¬ D h) : LeF D (H'.upd h B) H := fun x C hC => by
  unfold Hp.upd at hC
  split at hC
  · rename_i e1; subst e1; simp only [Option.some.injEq] at hC; subst hC; exact ⟨hD, B', k, e⟩
  · exact r x C hC
theorem bfE {D : Nat → Prop} {n m : Nat} {f g : Nat → AV} (hn : n = m) (h : ∀ i, i < n → f i = g i) : BFits H D (.cells n f) (.cells m g) := ⟨hn, fun i hi => by rw [h i hi]; exact .refl _⟩
theorem Sub.toLF (hA : Fr.sub A A') (hH : LeF (fun _ => False) H' H) : Sub N A H A' H' := Sub.fits (fun _ => False) (fun i c hc => ⟨c, Fr.sub_get A' A hA i c hc, .refl c⟩) hH
theorem Sub.toFF (D : Nat → Prop) (hA : Fr.fit H D A A') (hH : LeF D H' H) : Sub N A H A' H' := Sub.fits D (Fr.fit_get A' A hA) hH
/-- Each block told in H1 by new names stands in H by old ones. -/
def LayF (ρ : Nat → Option Nat) (H1 H : Hp) : Prop := ∀ h B', H1 h = some B' → (∃ g n f f', ρ h = some g ∧ B' = .cells n f' ∧ H g = some (.cells n f) ∧ ∀ i, i < n → Lay ρ (f i) (f' i)) ∨ (ρ h = none ∧ ∃ f, B' = .cells 0 f) ∨ (∃ g kv, ρ h = some g ∧ B' = .mp kv ∧ H g = some (.mp kv) ∧ ∀ x ∈ kv, x.2.plain)
theorem layF_emp {ρ : Nat → Option Nat} : LayF ρ Hp.emp H := fun x B h => by simp [Hp.emp] at h
theorem layF_upd {ρ : Nat → Option Nat} {h g n : Nat} {f f' : Nat → AV} (e : ρ h = some g) (k : H g = some (.cells n f)) (l : ∀ i, i < n → Lay ρ (f i) (f' i)) (r : LayF ρ H' H) : LayF ρ (H'.upd h (.cells n f')) H := fun x C hC => by
  unfold Hp.upd at hC
  split at hC
  · rename_i e1; subst e1; simp only [Option.some.injEq] at hC; subst hC; exact .inl ⟨g, n, f, f', e, rfl, k, l⟩
  · exact r x C hC
theorem layF_nil {ρ : Nat → Option Nat} {h : Nat} {f' : Nat → AV} (e : ρ h = none) (r : LayF ρ H' H) : LayF ρ (H'.upd h (.cells 0 f')) H := fun x C hC => by
  unfold Hp.upd at hC
  split at hC
  · rename_i e1; subst e1; simp only [Option.some.injEq] at hC; subst hC; exact .inr (.inl ⟨e, f', rfl⟩)
  · exact r x C hC
theorem AC.mono {P : Program} {f : FuncId} {args : List AV} {Hin : Hp} {pn : Nat → Bool} {post post' : AV → Hp → Prop} (h : AC P f args Hin pn post) (hq : ∀ r H, post r H → post' r H) : AC P f args Hin pn post' := by
  refine ⟨h.1, fun S w L vs hS hpin s hargs => (h.2 S w L vs hS hpin s hargs).mono ?_⟩
  rintro e w' ⟨u, L', r, H', rfl, s2, hr, hp⟩
  exact ⟨u, L', r, H', rfl, s2, hr, hq r H' hp⟩
end
end Go.Av
end
/- Regions whose order is open and that lay several new blocks: each operation reads what was there before, or lays a block of its own. -/
section
namespace Go.Av
section
variable {P : Program} {N : Cx} {A : Fr} {H H0 : Hp}

theorem Fits.up {D : Nat → Prop} (hle : Hp.le H0 H) {a c : AV} (h : Fits H0 D a c) : Fits H D a c := by
  induction h with
  | refl a => exact .refl a
  | own h1 h2 h3 h4 _ ih => exact .own (hle _ _ h1) h2 h3 h4 ih
  | list h1 h2 _ ih => exact .list h1 h2 ih
  | nil => exact .nil
  | agg _ ih => exact .agg ih
  | ref h1 h2 h3 h4 _ ih => exact .ref (hle _ _ h1) h2 h3 h4 ih
  | clo _ ih => exact .clo ih
  | tup _ ih => exact .tup ih
  | nonnil h1 _ ih => exact .nonnil h1 ih
  | dead a => exact .dead a
theorem FitsL.up {D : Nat → Prop} (hle : Hp.le H0 H) {l r : List AV} (h : FitsL H0 D l r) : FitsL H D l r := by
  induction h with
  | nil => exact .nil
  | cons h _ ih => exact .cons (h.up hle) ih
variable (P N) in
/-- An operation that reads what was there before (H0), or lays a block of its own; M: what is known of the new blocks when it comes. -/
def opF (d : Nat) (op : Op) (A : Fr) (H0 M : Hp) (K : AV → Option (Nat × Blk) → Prop) : Prop :=
  match op with
  | .buildSlice t len ps => match selOf P t, evParts A ps.toList with
    | some se, some l => Ob ((N.pn d = false ∧ 0 < se.size ∧ len * se.size ≤ 16777216) ∧ fillOk (fun i => some (i * se.size, se.size)) (len * se.size) l)
        (K (.own d 0 se.size len) (some (d, .cells (len * se.size) (fillF (fun i => some (i * se.size, se.size)) l (zF se.zero)))))
    | _, _ => False
  | .makeMap t none => match mapOf P t with
    | some _ => Ob (N.pn d = false) (K (.map d) (some (d, .mp [])))
    | none => False
  | .insert t m k x => withA (A.ev m) fun a => withA (A.ev k) fun b => withA (A.ev x) fun c => match mapOf P t, a, b with
    | some _, .map h, .v (.string s) => (match M h with
      | some (.mp kv) => Ob (kvStr kv = true) (Ob (kvHas s kv = false) (K .dead (some (h, .mp (kv ++ [(.string s, c)])))))
      | _ => False)
    | _, _, _ => False
  | .box _ x => withA (A.ev x) fun a => Ob (N.pn d = false) (match aggOf a with
    | some (n, g) => K (.ref d 0) (some (d, .cells n g))
    | none => Ob (a.one = true) (K (.ref d 0) (some (d, .cells 1 fun _ => a))))
  | .alloc t => match tyOf P t with
    | some ty => Ob (N.pn d = false) (K (.ref d 0) (some (d, .cells ty.size (zF ty.zero))))
    | none => False
  | op => opQ P N d op A H0 fun r => K r none

section
variable {bs : List (Option (Nat × Blk))} {li li' : Nat → Bool}
end
def bad (tg a : List Nat) (h : Nat) : Bool := tg.contains h && !a.contains h
def badB (tg a : List Nat) (d h : Nat) : Bool := tg.contains h && (!a.contains h || h == d)
variable (P N) in
/-- The free part, read in its order. -/
def opsF (tg : List Nat) (Q : Fr → Hp → Prop) : List Oper → List (List Nat) → Fr → Hp → Hp → Prop
  | [], _, A, _, M => Q A M
  | o :: l, an, A, H0, M => opF P N (o.dst.getD 0) o.op A H0 M fun r b => Ob (r.scrub (bad tg (an.headD [])) = r) (match b with
    | none => opsF tg Q l an.tail (putd o.dst r A) H0 M
    | some (d, B) => Ob ((an.headD []).contains d = true ∧ B.scrub (badB tg (an.headD []) d) = B) (opsF tg Q l an.tail (putd o.dst r A) H0 (M.upd d B)))
section
variable (d : Nat) (A : Fr) (H0 M : Hp) (K : AV → Option (Nat × Blk) → Prop)
theorem opF_move (x : Operand) : opF P N d (.move x) A H0 M K = opQ P N d (.move x) A H0 fun r => K r none := rfl
theorem opF_load (t : TypeId) (x : Operand) : opF P N d (.load t x) A H0 M K = opQ P N d (.load t x) A H0 fun r => K r none := rfl
theorem opF_fieldAddr (t : TypeId) (x : Operand) (i : Nat) : opF P N d (.fieldAddr t x i) A H0 M K = opQ P N d (.fieldAddr t x i) A H0 fun r => K r none := rfl
theorem opF_indexAddr (t : TypeId) (x y : Operand) : opF P N d (.indexAddr t x y) A H0 M K = opQ P N d (.indexAddr t x y) A H0 fun r => K r none := rfl
theorem opF_nilCheck (x : Operand) : opF P N d (.nilCheck x) A H0 M K = opQ P N d (.nilCheck x) A H0 fun r => K r none := rfl
theorem opF_call (c : Call) : opF P N d (.call c) A H0 M K = opQ P N d (.call c) A H0 fun r => K r none := rfl
theorem opF_binOp (o : BinOp) (t : TypeId) (x y : Operand) (u : TypeId) : opF P N d (.binOp o t x y u) A H0 M K = opQ P N d (.binOp o t x y u) A H0 fun r => K r none := rfl
theorem opF_build (t : TypeId) (ps : Array (Nat × Operand)) : opF P N d (.build t ps) A H0 M K = opQ P N d (.build t ps) A H0 fun r => K r none := rfl
theorem opF_bs (t : TypeId) (len : Nat) (ps : Array (Nat × Operand)) : opF P N d (.buildSlice t len ps) A H0 M K = (match selOf P t, evParts A ps.toList with
    | some se, some l => Ob ((N.pn d = false ∧ 0 < se.size ∧ len * se.size ≤ 16777216) ∧ fillOk (fun i => some (i * se.size, se.size)) (len * se.size) l)
        (K (.own d 0 se.size len) (some (d, .cells (len * se.size) (fillF (fun i => some (i * se.size, se.size)) l (zF se.zero)))))
    | _, _ => False) := rfl
theorem opF_mk (t : TypeId) : opF P N d (.makeMap t none) A H0 M K = (match mapOf P t with
    | some _ => Ob (N.pn d = false) (K (.map d) (some (d, .mp [])))
    | none => False) := rfl
theorem opF_ins (t : TypeId) (m k x : Operand) : opF P N d (.insert t m k x) A H0 M K = (withA (A.ev m) fun a => withA (A.ev k) fun b => withA (A.ev x) fun c => match mapOf P t, a, b with
    | some _, .map h, .v (.string s) => (match M h with
      | some (.mp kv) => Ob (kvStr kv = true) (Ob (kvHas s kv = false) (K .dead (some (h, .mp (kv ++ [(.string s, c)])))))
      | _ => False)
    | _, _, _ => False) := rfl
theorem opF_box (t : TypeId) (x : Operand) : opF P N d (.box t x) A H0 M K = (withA (A.ev x) fun a => Ob (N.pn d = false) (match aggOf a with
    | some (n, g) => K (.ref d 0) (some (d, .cells n g))
    | none => Ob (a.one = true) (K (.ref d 0) (some (d, .cells 1 fun _ => a))))) := rfl
theorem opF_alloc (t : TypeId) : opF P N d (.alloc t) A H0 M K = (match tyOf P t with
    | some ty => Ob (N.pn d = false) (K (.ref d 0) (some (d, .cells ty.size (zF ty.zero))))
    | none => False) := rfl
theorem opsF_nil (tg : List Nat) (Q : Fr → Hp → Prop) (an : List (List Nat)) : opsF P N tg Q [] an A H0 M = Q A M := rfl
theorem opsF_some (tg : List Nat) (Q : Fr → Hp → Prop) (op : Op) (ty : TypeId) (pos : String) (aft : Array Edge) (l : List Oper) (a : List Nat) (an : List (List Nat)) : opsF P N tg Q (⟨some d, op, ty, pos, aft, none⟩ :: l) (a :: an) A H0 M = opF P N d op A H0 M fun r b => Ob (r.scrub (bad tg a) = r) (match b with
    | none => opsF P N tg Q l an ((d, r) :: A) H0 M
    | some (d', B) => Ob (a.contains d' = true ∧ B.scrub (badB tg a d') = B) (opsF P N tg Q l an ((d, r) :: A) H0 (M.upd d' B))) := rfl
theorem opsF_none (tg : List Nat) (Q : Fr → Hp → Prop) (op : Op) (ty : TypeId) (pos : String) (aft : Array Edge) (l : List Oper) (a : List Nat) (an : List (List Nat)) : opsF P N tg Q (⟨none, op, ty, pos, aft, none⟩ :: l) (a :: an) A H0 M = opF P N 0 op A H0 M fun r b => Ob (r.scrub (bad tg a) = r) (match b with
    | none => opsF P N tg Q l an A H0 M
    | some (d', B) => Ob (a.contains d' = true ∧ B.scrub (badB tg a d') = B) (opsF P N tg Q l an A H0 (M.upd d' B))) := rfl
end
attribute [go_sem ↓] opF_move opF_load opF_fieldAddr opF_indexAddr opF_nilCheck opF_call opF_binOp opF_build opF_bs opF_mk opF_ins opF_box opF_alloc opsF_nil opsF_some opsF_none
end
end Go.Av
end
/- Results that stand over blocks of our own; calls that read such blocks. -/
section
namespace Go.Av
section
variable {N : Cx} {A A' : Fr} {H H' : Hp}
theorem emp_add (R : Hp) : Hp.emp.add R = R := rfl
end
end Go.Av
end
/- Calls that read pinned blocks, and hand back new rows beside them. -/
section
namespace Go.Av
section
variable {P : Program} {N : Cx} {A : Fr} {H : Hp}
end
end Go.Av
end
/- Rows of rows, a row and a bool handed back at once. -/
section
namespace Go.Av
def nIIB (d e h : Nat) : Bool := famB d h || h == e
theorem nIIB_lit {d e h : Nat} (hh : h < 2097152) (h1 : h ≠ d) (h2 : h ≠ e) : nIIB d e h = false := by
  unfold nIIB
  rw [famB_lit hh, beq_eq_false_iff_ne.2 h1, beq_eq_false_iff_ne.2 h2]; rfl
theorem nIIB_d {d e : Nat} : nIIB d e d = true := by unfold nIIB famB; simp
theorem nIIB_e {d e : Nat} : nIIB d e e = true := by unfold nIIB; simp
section
variable {P : Program} {N : Cx} {A : Fr} {H : Hp}
theorem Hp.scrub_IIB {d e g k n : Nat} {xss : List (List Int)} (hd : d < 2097152) (he : e < 2097152) (_hg : g < 2097152) (hk : k ≤ 2097152) (hne : g ≠ d) (_hne2 : g ≠ e) : ((PR g xss k n).add H).scrub (nIIB d e) = (PR g xss k n).add (H.scrub (nIIB d e)) := by
  have hs : ∀ i, i < k → nIIB d e (sub g i) = false := fun i hi => by
    have h1 := sub_ge g i; rw [FB_eq] at h1
    have h2 : i < FB := by rw [FB_eq]; omega
    have h3 : sub g i ≠ e := by omega
    have h4 : sub g i ≠ d := by omega
    simp [nIIB, famB, h3, h4, sub_div h2, hne]
  funext x
  simp only [Hp.scrub, Hp.add]
  cases hx : (PR g xss k n) x with
  | none => rfl
  | some B =>
    simp only [Option.map_some, Option.some.injEq]
    unfold PR at hx
    split at hx
    · simp only [Option.some.injEq] at hx; subst hx
      simp only [Blk.scrub]
      congr 1
      funext i
      exact mixF_plain_scrub hs i
    · split at hx
      · simp only [Option.some.injEq] at hx; subst hx; rfl
      · simp at hx
end
attribute [go_sem] nIIB_lit nIIB_d nIIB_e Hp.scrub_IIB
end Go.Av
end
/- Regions of open order: the first operations in any order, then a sequence, and a last operation that sets a constant, anywhere. -/
section
namespace Go.Av
section
variable {P : Program} {N : Cx} {A : Fr} {H : Hp}
variable (P N) in
end
end Go.Av
end
/- Dice and sources: a struct of bytes, a place and a number, pinned; calls that throw them. -/
section
namespace Go.Av
/-- Dice: the code's bytes, how many are used up, a number. -/
structure Dc where
  xs : List Int
  i : Nat
  h : Int
  hi : i ≤ xs.length
  hx : ∀ j, 0 ≤ xs.getD j 0 ∧ xs.getD j 0 ≤ 255
  hl : xs.length ≤ 4096
def u8v (n : Int) : AV := .v (.int .u8 n)
abbrev bts (xs : List Int) : AV := .list false 1 xs.length (cM u8v 0 xs)
def dF (k : IntKind) (d : Dc) : Nat → AV := vecF [bts d.xs, .v (.int .i64 (d.i)), .v (.int k d.h)]
@[go_sem] theorem scF_dF (p : Nat → Bool) (k : IntKind) (d : Dc) : scF p (dF k d) = dF k d := by
  unfold dF; rw [scF_vecF]; rfl
section
variable {P : Program} {N : Cx} {A A' : Fr} {H H' : Hp}
end
end Go.Av
end
/- Regions of open order with one call that writes blocks of its own: what comes behind it may come in any order. -/
section
namespace Go.Av
section
variable {P : Program} {N : Cx} {H : Hp}
variable {Kd : AV → Hp → Prop}
variable (P N) in
/-- A call that leaves the frame as it is, whatever that is. -/
def CallDP (f : FuncId) (args : List AV) (H : Hp) (K : AV → Hp → Prop) : Prop := ∀ B : Fr, CallG P N f args B H fun r A' H' => A' = B ∧ K r H'
theorem CallDP_congr (f : FuncId) (args args' : List AV) (H H' : Hp) (K : AV → Hp → Prop) (h1 : args = args') (h2 : H = H') : CallDP P N f args H K = CallDP P N f args' H' K := by subst h1 h2; rfl
variable (P N) in
def pivD (op : Op) (A : Fr) (H : Hp) (K : AV → Hp → Prop) : Prop :=
  match op with
  | .call { callee := .value f, args, argTypes := _ } => (match calleeOf (A.ev f) with
    | some (g, caps) => withArgs (evArgs A args.toList) fun l => CallDP P N g (l ++ caps) H K
    | none => False)
  | _ => False
variable (P N) in
def opsD (nf m : Nat) (Q : Fr → Hp → Prop) (l : List Oper) (A : Fr) (H : Hp) : Prop :=
  match l.drop m with
  | o :: lr => opsQ P N (l.map (·.dst)) (fun A1 => pivD P N o.op A1 H fun r H' =>
      opsQ P N (l.map (·.dst)) (fun A2 => Ob (sameG A2 A1 ((l.take nf).map (·.dst))) (opsQ P N (l.map (·.dst)) (fun A3 => Q A3 H') lr (putd o.dst r A1) H')) (l.take nf) A H') (l.take m) A H
  | [] => False
end
attribute [congr] CallDP_congr
attribute [go_sem] opsD pivD
end Go.Av
end
/- Sources: calls that draw and hand back a row of their own; rows cut shorter. -/
section
namespace Go.Av
section
variable {P : Program} {N : Cx} {A A' : Fr} {H H' : Hp}
end
end Go.Av
end
/- Calls whose result is told by a property, and that leave nothing. -/
section
namespace Go.Av
section
variable {P : Program} {N : Cx} {A A' : Fr} {H H' : Hp}
end
end Go.Av
end
/- Regions of open order: a chain of operations that turn memory, each ahead of the next, and operations that may come at any time. -/
section
namespace Go.Av
section
variable {P : Program} {N : Cx} {H : Hp}
theorem OpV.mono {o : Oper} {A : Fr} {K K' : AV → Fr → Hp → Prop} (h : OpV P N o A H K) (k : ∀ r A' H', K r A' H' → K' r A' H') : OpV P N o A H K' :=
  fun w0 S hS w a L s next Q' hn => h w0 S hS w a L s next Q' fun u r L' A' H' w' s' hr hk => hn u r L' A' H' w' s' hr (k _ _ _ hk)
variable (P N) in
/-- A call, whatever the frame is: what it yields, which names it turns, what the heap is behind it. -/
def CallPP (f : FuncId) (args : List AV) (H : Hp) (K : AV → (Nat → Bool) → Hp → Prop) : Prop := ∃ p : Nat → Bool, ∀ B : Fr, CallG P N f args B H fun r A' H' => A' = B.scrub p ∧ K r p H'
theorem CallPP_congr (f : FuncId) (args args' : List AV) (H H' : Hp) (K : AV → (Nat → Bool) → Hp → Prop) (h1 : args = args') (h2 : H = H') : CallPP P N f args H K = CallPP P N f args' H' K := by subst h1 h2; rfl
variable (P N) in
/-- An operation of the chain. -/
def gxVC (d : Nat) (op : Op) (A : Fr) (H : Hp) (K : AV → (Nat → Bool) → Hp → Prop) : Prop :=
  match op with
  | .call { callee := .value f, args, argTypes := _ } => (match calleeOf (A.ev f) with
    | some (g, caps) => withArgs (evArgs A args.toList) fun l => CallPP P N g (l ++ caps) H K
    | none => False)
  | .assign x => withA (A.ev x) fun a => K a (fun _ => false) H
  | .move x => withA (A.ev x) fun a => K a (fun _ => false) H
  | .call { callee := .builtin .append, args, argTypes } => pivVC P N d (.call { callee := .builtin .append, args, argTypes }) A H K
  | .store t x y => pivVC P N d (.store t x y) A H K
  | _ => False
/-- Operations at places. -/
def pickL : List Nat → List Oper → List Oper
  | [], _ => []
  | k :: ks, l => (l.drop k).take 1 ++ pickL ks l
variable (P N) in
/-- The chain. -/
def linkVC (T : List (Option Tmp)) (Q : Fr → Hp → Prop) : List Oper → Fr → Hp → Prop
  | [], A, H => Q A H
  | o :: l, A, H => gxVC P N (o.dst.getD 0) o.op A H fun r p H' => Ob (sameG (A.scrub p) A T) (linkVC T Q l (putd o.dst r (A.scrub p)) H')
/-- Whatever the heap is. -/
def AllH (p : Hp → Prop) : Prop := ∀ H, p H
variable (P N) in
def opsG (fs cs T : List Nat) (Q : Fr → Hp → Prop) (l : List Oper) (A : Fr) (H : Hp) : Prop :=
  opsQ P N (l.map (·.dst)) (fun A1 => Ob (AllH fun H' => opsQ P N (l.map (·.dst)) (fun A2 => sameG A2 A1 (T.map some)) (pickL fs l) A H') (linkVC P N (T.map some) Q (pickL cs l) A1 H)) (pickL fs l) A H
def chPre (ops : Array Oper) : List Nat → Bool
  | [] => true
  | c :: r => r.all (fun d => preB ops ops.size d c) && chPre ops r
def incB : List Nat → Bool
  | [] => true
  | c :: r => r.all (fun d => decide (c < d)) && incB r
structure ChOk (ops : Array Oper) (fs cs T : List Nat) : Prop where
  any : anyOk ops = true
  guard : ∀ (k : Nat) (o : Oper), ops[k]? = some o → o.guard = none
  all : ∀ k, k < ops.size → k ∈ fs ∨ k ∈ cs
  finc : incB fs = true
  cinc : incB cs = true
  pre : chPre ops cs = true
  clt : ∀ c ∈ cs, c < ops.size ∧ c ∉ fs
  flt : ∀ f ∈ fs, f < ops.size
  fc : ∀ f ∈ fs, ∀ o : Oper, ops[f]? = some o → ∀ e ∈ o.after, Region.binds .any e = true → e.on ∉ cs
  fd : ∀ f ∈ fs, ∀ o : Oper, ops[f]? = some o → ∃ d, o.dst = some d ∧ d ∈ T
  fr : ∀ f ∈ fs, ∀ o : Oper, ops[f]? = some o → ∀ d, o.dst = some d → ∀ (k : Nat) (ok : Oper), ops[k]? = some ok → d ∈ ok.looksAt ops → k ≠ f ∧ ∀ e ∈ o.after, Region.binds .any e = true → e.on ≠ k
  ft : ∀ f ∈ fs, ∀ o : Oper, ops[f]? = some o → ∀ t ∈ o.looksAt ops, t ∈ T
theorem AllH.mk {p : Hp → Prop} (h : ∀ H, p H) : AllH p := h
end
attribute [congr] CallPP_congr
attribute [go_sem] opsG linkVC gxVC pickL
end Go.Av
end
/- From a law's contract over abstract values to its row: how Go's data read. -/
section
namespace Go.Av
open Go.ChangeShapes Go.WideShapes Go.ChangeAt Go.RowKit

section
variable {P : Program} {H : Type} {enc : TypeId × Value → H} {w : World} {base : Nat} {spare : Nat → Bool} {held : Bool} {L : Loc}

/-- Every block may be read. -/
abbrev All : Nat → Prop := fun _ => True

theorem law_calls {f : FuncId} {args : List AV} {vs : Array Value} (hac : AC P f args Hp.emp (fun _ => false) (retV (.v (.bool true)))) (hr : RdArgs w All (fun _ => none) args vs) :
    Calls P f vs w fun e w' => e = .returned (.bool true) ∧ Below w.heap.size w w' := by
  let S : Rg := ⟨fun b => w.heap.size ≤ b, fun _ => True, fun _ _ => trivial, fun _ => none⟩
  have s0 : Sim 0 w S w #[] (fun _ => none) [] Hp.emp := ⟨Keep.refl w _, rfl, fun i a h => by simp [Fr.get] at h, fun h B hB => by simp [Hp.emp] at hB, fun h q hn => by simp [Hp.emp] at hn, fun h g q r hn => by simp [Hp.emp] at hn, fun h l hl => by simp [S] at hl⟩
  refine (hac.2 S w (fun _ => none) vs (fun b h => h) (fun h _ => rfl) s0 ⟨hr.1, fun i a hi => ?_⟩).mono ?_
  · obtain ⟨u, k1, k2⟩ := hr.2 i a hi
    exact ⟨u, k1, Rd.mono (fun b _ _ => ⟨trivial, fun h q hn => by simp [Hp.emp] at hn⟩) k2⟩
  · rintro e w' ⟨u, L', r, H', rfl, s2, hr, rfl, rfl⟩
    have hu : u = .bool true := hr
    subst hu
    exact ⟨rfl, ⟨s2.keep.os, s2.keep.tape, s2.keep.output, s2.keep.size, fun k hk => s2.keep.blk k hk (by show ¬ w.heap.size ≤ k; omega)⟩⟩

theorem cells_spot {a : Addr} {n : Nat} {V : Nat → Value} (h : ∀ i, i < n → w.cell? (a.add i) = some (V i)) : ∀ i, i < n → a.spot = none ∧ w.cell? ⟨a.block, a.off + i, none⟩ = some (V i) := by
  intro i hi
  have h0 := h 0 (by omega)
  have hs : a.spot = none := by
    have e : a.add 0 = a := by simp [Addr.add]
    rw [e] at h0
    unfold World.cell? at h0
    cases hsp : a.spot with
    | none => rfl
    | some k =>
      simp only [hsp] at h0
      split at h0 <;> simp at h0
  refine ⟨hs, ?_⟩
  have := h i hi
  rwa [Addr_eq hs, Addr_add] at this

/-- What an int64 may be. -/
def In64 (n : Int) : Prop := -9223372036854775808 ≤ n ∧ n ≤ 9223372036854775807
theorem in64_wf {n : Int} (h : (Lit.int .i64 n).wf = true) : In64 n := by
  simp [Lit.wf, IntKind.min, IntKind.max] at h
  unfold In64
  revert h
  simp only [show IntKind.i64.signed = true from rfl, show IntKind.i64.bits = 64 from rfl]
  intro h
  simp at h
  omega

theorem rd_int {t : TypeId} {fuel : Nat} {cs : List Value} {x : DataW H × List MemPlace} (ht : P.underlying t = some (.int .i64)) (h : DataW.trod enc P w base spare held fuel t cs = some x) :
    ∃ n : Int, cs = [.int .i64 n] ∧ In64 n := by
  obtain ⟨a, e, _, hw⟩ := DataW.trod_int ht h
  exact ⟨a, e, in64_wf hw⟩

theorem rd_string {t : TypeId} {fuel : Nat} {cs : List Value} {x : DataW H × List MemPlace} (ht : P.underlying t = some .string) (h : DataW.trod enc P w base spare held fuel t cs = some x) :
    ∃ s : ByteArray, cs = [.string s] ∧ s.size ≤ 9223372036854775807 := by
  obtain ⟨s, e, _, hs⟩ := DataW.trod_string ht h
  exact ⟨s, e, by have : maxLen = 9223372036854775807 := by decide
                  omega⟩

theorem rd_list {α : Type} (g : α → AV) (d : α) {xs : List α} {a : Addr} {len cap : Nat} {V : Nat → Value} (hl : xs.length = len) (hc : len ≤ cap) (h : ∀ i, i < len → w.cell? (a.add i) = some (V i)) (hr : ∀ i, i < len → ∀ L', Rd w All L' (g (xs.getD i d)) (V i)) :
    Rd w All L (.list false 1 xs.length (cM g d xs)) (.slice (some a) len cap) := by
  subst hl
  refine ⟨some a, cap, rfl, hc, by simp, by simp, fun p hp i hi => ?_⟩
  simp only [Option.some.injEq] at hp
  subst hp
  rw [Nat.mul_one] at hi
  obtain ⟨k1, k2⟩ := cells_spot h i hi
  exact ⟨k1, trivial, V i, k2, hr i hi⟩

theorem rd_ints {t e : TypeId} {fuel : Nat} {cs : List Value} {x : DataW H × List MemPlace} (ht : P.underlying t = some (.slice e)) (he : P.underlying e = some (.int .i64)) (hc : P.cellsOf e = 1) (h : DataW.trod enc P w base spare held fuel t cs = some x) :
    ∃ (v : Value) (xs : List Int), cs = [v] ∧ (∀ L, Rd w All L (ints xs) v) ∧ xs.length ≤ 9223372036854775807 ∧ ∀ n ∈ xs, In64 n := by
  have hm : maxLen = 9223372036854775807 := by decide
  rcases open_ints ht he hc h with ⟨rfl, _⟩ | ⟨a, len, cap, zs, rfl, _, hl, hmx, hz, _, hcell, hwf⟩
  · exact ⟨_, [], rfl, fun L => ⟨none, 0, rfl, Nat.le_refl _, by simp, fun _ => ⟨rfl, rfl⟩, by simp⟩, by simp, by simp⟩
  · have hlen : len ≤ zs.length := by rw [hz]; split <;> omega
    refine ⟨_, zs.take len, rfl, fun L => rd_list iv 0 (V := fun i => .int .i64 (zs.getD i 0)) (by simp; omega) hl (fun i hi => hcell i (by omega)) (fun i hi L' => ?_), by simp; omega, fun n hn => in64_wf (hwf n (List.mem_of_mem_take hn))⟩
    have e : (zs.take len).getD i 0 = zs.getD i 0 := by simp [hi]
    rw [e]; rfl

theorem rd_intss {t e q : TypeId} {fuel : Nat} {cs : List Value} {x : DataW H × List MemPlace} (ht : P.underlying t = some (.slice e)) (he : P.underlying e = some (.slice q)) (hq : P.underlying q = some (.int .i64)) (ce : P.cellsOf e = 1) (cq : P.cellsOf q = 1)
    (h : DataW.trod enc P w base spare held fuel t cs = some x) :
    ∃ (v : Value) (xss : List (List Int)), cs = [v] ∧ (∀ L, Rd w All L (intss xss) v) ∧ xss.length ≤ 9223372036854775807 ∧ (∀ j, (xss.getD j []).length ≤ 9223372036854775807) ∧ ∀ xs ∈ xss, ∀ n ∈ xs, In64 n := by
  have hm : maxLen = 9223372036854775807 := by decide
  rcases Go.Deep.open_slice1 ht ce h with ⟨rfl, _⟩ | ⟨a, len, cap, m, n, V, D, Pl, rfl, _, hl, hmx, hmm, _, hel⟩
  · exact ⟨_, [], rfl, fun L => ⟨none, 0, rfl, Nat.le_refl _, by simp, fun _ => ⟨rfl, rfl⟩, by simp⟩, by simp, by simp, by simp⟩
  · have hlm : len ≤ m := by rw [hmm]; split <;> omega
    have hex : ∀ i, ∃ xs : List Int, i < len → (∀ L, Rd w All L (ints xs) (V i)) ∧ xs.length ≤ 9223372036854775807 ∧ ∀ n ∈ xs, In64 n := by
      intro i
      by_cases hi : i < len
      · obtain ⟨v, xs, e, h1, h2, h3⟩ := rd_ints (enc := enc) he hq cq (hel i (by omega)).2
        simp only [List.cons.injEq, and_true] at e
        subst e
        exact ⟨xs, fun _ => ⟨h1, h2, h3⟩⟩
      · exact ⟨[], fun h => absurd h hi⟩
    obtain ⟨X, hX⟩ := Classical.axiomOfChoice hex
    have gd : ∀ i, i < len → ((List.range len).map X).getD i [] = X i := by intro i hi; simp [hi]
    refine ⟨_, (List.range len).map X, rfl, fun L => rd_list ints [] (V := V) (by simp) hl (fun i hi => (hel i (by omega)).1) (fun i hi L' => ?_), by simp; omega, fun j => ?_, fun xs hxs n hn => ?_⟩
    · rw [gd i hi]; exact (hX i hi).1 L'
    · by_cases hj : j < len
      · rw [gd j hj]; exact (hX j hj).2.1
      · rw [List.getD_eq_getElem?_getD, List.getElem?_eq_none (by simp; omega)]; simp
    · simp only [List.mem_map, List.mem_range] at hxs
      obtain ⟨i, hi, rfl⟩ := hxs
      exact (hX i hi).2.2 n hn

theorem rd_pz {r : Reach} {b0 : Nat} {t t0 t1 t2 e q : TypeId} {f0 f1 f2 : Field} {v : Value} {d : DataW H} {p : List MemPlace} (hs : P.underlying t = some (.struct #[f0, f1, f2])) (hone : Go.Deep.oneCellFields P #[f0, f1, f2] = true) (hC : P.cellsOf t = 3)
    (e0 : f0.type = t0) (e1 : f1.type = t1) (e2 : f2.type = t2) (h0 : P.underlying t0 = some (.int .i64)) (h1 : P.underlying t1 = some .string) (h2 : P.underlying t2 = some (.slice e)) (he : P.underlying e = some (.slice q)) (hq : P.underlying q = some (.int .i64)) (ce : P.cellsOf e = 1) (cq : P.cellsOf q = 1)
    (hv : Value.okWide P w r b0 t v) (h : DataW.Trod enc P w base spare held t v d p) :
    ∃ z : Pz, Rd w All L (pz z) v ∧ In64 z.n ∧ z.s.size ≤ 9223372036854775807 ∧ z.m.length ≤ 9223372036854775807 ∧ (∀ j, (z.m.getD j []).length ≤ 9223372036854775807) ∧ ∀ xs ∈ z.m, ∀ n ∈ xs, In64 n := by
  subst e0 e1 e2
  obtain ⟨v0, v1, v2, y0, y1, y2, n, rfl, _, _, k0, k1, k2⟩ := Go.Joins.open_agg3 hs hone hC hv h
  obtain ⟨a, ea, ha⟩ := rd_int h0 k0
  obtain ⟨s, es, hss⟩ := rd_string h1 k1
  obtain ⟨u, xss, eu, hu1, hu2, hu3, hu4⟩ := rd_intss h2 he hq ce cq k2
  simp only [List.cons.injEq, and_true] at ea es eu
  subst ea es eu
  refine ⟨⟨a, s, xss⟩, ⟨_, rfl, rfl, fun i hi => ?_⟩, ha, hss, hu2, hu3, hu4⟩
  match i, hi with
  | 0, _ => exact ⟨_, rfl, rfl⟩
  | 1, _ => exact ⟨_, rfl, rfl⟩
  | 2, _ => exact ⟨_, rfl, hu1 L⟩

theorem trod_cs {t : TypeId} {v : Value} {d : DataW H} {p : List MemPlace} (h : DataW.Trod enc P w base spare held t v d p) (hv : v.cells = #[v]) : ∃ fuel, DataW.trod enc P w base spare held fuel t [v] = some (d, p) := by
  obtain ⟨fuel, hf⟩ := h
  exact ⟨fuel, by rw [hv] at hf; exact hf⟩

theorem rdArgs_list {ok : Nat → Prop} : ∀ (as : List AV) (vs : List Value), as.length = vs.length → (∀ (i : Nat) (a : AV) (v : Value), as[i]? = some a → vs[i]? = some v → Rd w ok L a v) → RdArgs w ok L as vs.toArray := by
  intro as vs hl h
  refine ⟨by simp [hl], fun i a hi => ?_⟩
  have hlt := (List.getElem?_eq_some_iff.1 hi).1
  exact ⟨vs[i]'(by omega), by simp, h i a _ hi (by simp)⟩
theorem rdArgs2 {ok : Nat → Prop} {a b : AV} {u v : Value} (h : Rd w ok L a u) (k : Rd w ok L b v) : RdArgs w ok L [a, b] #[u, v] := rdArgs_list [a, b] [u, v] rfl fun i a' v' h1 h2 => by
  match i with
  | 0 => simp at h1 h2; subst h1 h2; exact h
  | 1 => simp at h1 h2; subst h1 h2; exact k
  | i + 2 => simp at h1
end
end Go.Av
end
/- How bytes read. -/
section
namespace Go.Av
open Go.ChangeShapes Go.WideShapes Go.ChangeAt Go.RowKit
section
variable {P : Program} {H : Type} {enc : TypeId × Value → H} {w : World} {base : Nat} {spare : Nat → Bool} {held : Bool} {L : Loc}
end
end Go.Av
end
/- Permutations as rows of numbers: composition, inverse, what generators generate. -/
section
namespace Go.Pm

/-- p is a permutation of n points. -/
def Pm (n : Nat) (p : List Int) : Prop := p.length = n ∧ (∀ j, j < n → 0 ≤ p.getD j 0 ∧ p.getD j 0 < n) ∧ ∀ i j, i < n → j < n → p.getD i 0 = p.getD j 0 → i = j

def img (p : List Int) (i : Nat) : Nat := (p.getD i 0).toNat
def comp (p q : List Int) : List Int := p.map fun x => q.getD x.toNat 0
def idn (n : Nat) : List Int := (List.range n).map fun i : Nat => (i : Int)
def invp (p : List Int) : List Int := (List.range p.length).map fun i : Nat => ((p.findIdx fun x => decide (x = (i : Int)) : Nat) : Int)

theorem ext {p q : List Int} (hl : p.length = q.length) (h : ∀ j, j < p.length → p.getD j 0 = q.getD j 0) : p = q := by
  refine List.ext_getElem hl fun i h1 h2 => ?_
  have := h i h1
  simpa [List.getD_eq_getElem?_getD, h1, h2] using this

theorem comp_length (p q : List Int) : (comp p q).length = p.length := by simp [comp]
theorem comp_get (p q : List Int) {i : Nat} (h : i < p.length) : (comp p q).getD i 0 = q.getD (img p i) 0 := by
  simp [comp, img, List.getD_eq_getElem?_getD, h]
theorem idn_length (n : Nat) : (idn n).length = n := by simp [idn]
theorem idn_get {n i : Nat} (h : i < n) : (idn n).getD i 0 = i := by simp [idn, List.getD_eq_getElem?_getD, h]
theorem img_idn {n i : Nat} (h : i < n) : img (idn n) i = i := by unfold img; rw [idn_get h]; rfl
theorem img_comp (p q : List Int) {i : Nat} (h : i < p.length) : img (comp p q) i = img q (img p i) := by
  unfold img; rw [comp_get p q h]; rfl

namespace Pm
variable {n : Nat} {p q r : List Int}
theorem img_lt (h : Pm n p) {i : Nat} (hi : i < n) : img p i < n := by
  have := h.2.1 i hi
  unfold Pm.img; omega
theorem get_eq (h : Pm n p) {i : Nat} (hi : i < n) : p.getD i 0 = (img p i : Int) := by
  have := h.2.1 i hi
  unfold Pm.img; omega
theorem inj (h : Pm n p) {i j : Nat} (hi : i < n) (hj : j < n) (e : img p i = img p j) : i = j :=
  h.2.2 i j hi hj (by rw [h.get_eq hi, h.get_eq hj, e])
theorem ext_img (h : Pm n p) (k : Pm n q) (e : ∀ i, i < n → img p i = img q i) : p = q :=
  Go.Pm.ext (h.1.trans k.1.symm) fun j hj => by
    rw [h.1] at hj
    rw [h.get_eq hj, k.get_eq hj, e j hj]
theorem idn (n : Nat) : Pm n (idn n) :=
  ⟨idn_length n, fun j hj => by rw [idn_get hj]; omega, fun i j hi hj e => by rw [idn_get hi, idn_get hj] at e; omega⟩
theorem mk' (hl : p.length = n) (h1 : ∀ j, j < n → ∃ k, k < n ∧ p.getD j 0 = (k : Int)) (h2 : ∀ i j, i < n → j < n → img p i = img p j → i = j) : Pm n p :=
  ⟨hl, fun j hj => by obtain ⟨k, h3, h4⟩ := h1 j hj; omega, fun i j hi hj e => h2 i j hi hj (by unfold Pm.img; rw [e])⟩
theorem comp (h : Pm n p) (k : Pm n q) : Pm n (comp p q) := by
  refine mk' (by rw [comp_length]; exact h.1) (fun j hj => ⟨img q (img p j), k.img_lt (h.img_lt hj), ?_⟩) fun i j hi hj e => ?_
  · rw [comp_get _ _ (by rw [h.1]; exact hj), k.get_eq (h.img_lt hj)]
  · rw [img_comp _ _ (by rw [h.1]; exact hi), img_comp _ _ (by rw [h.1]; exact hj)] at e
    exact h.inj hi hj (k.inj (h.img_lt hi) (h.img_lt hj) e)
theorem cimg (h : Pm n p) {i : Nat} (hi : i < n) : img (Go.Pm.comp p q) i = img q (img p i) := img_comp _ _ (by rw [h.1]; exact hi)

/-- Every point is met. -/
theorem surj (h : Pm n p) {i : Nat} (hi : i < n) : ∃ j, j < n ∧ img p j = i := by
  have hn : ((List.range n).map (img p)).Nodup := by
    rw [List.nodup_iff_pairwise_ne, List.pairwise_map]
    refine List.Pairwise.imp_of_mem (R := fun a b => a ≠ b) ?_ (List.nodup_iff_pairwise_ne.1 List.nodup_range)
    intro a b ha hb hne e
    exact hne (h.inj (by simpa using ha) (by simpa using hb) e)
  have := (Go.Plain.nodup_iff_all (l := (List.range n).map (img p)) (n := n) (by simp) (fun x hx => by
    obtain ⟨j, hj, rfl⟩ := List.mem_map.1 hx
    exact h.img_lt (by simpa using hj))).1 hn i hi
  obtain ⟨j, hj, e⟩ := List.mem_map.1 this
  exact ⟨j, by simpa using hj, e⟩

theorem find (h : Pm n p) {i : Nat} (hi : i < n) : p.findIdx (fun x => decide (x = (i : Int))) < n ∧ img p (p.findIdx fun x => decide (x = (i : Int))) = i := by
  obtain ⟨j, hj, e⟩ := h.surj hi
  have hlt : p.findIdx (fun x => decide (x = (i : Int))) < p.length := by
    rw [List.findIdx_lt_length]
    refine ⟨p.getD j 0, ?_, ?_⟩
    · have hj' : j < p.length := by rw [h.1]; exact hj
      rw [List.getD_eq_getElem?_getD, List.getElem?_eq_getElem hj']
      exact List.getElem_mem hj'
    · rw [h.get_eq hj, e]; simp
  have := List.findIdx_getElem (w := hlt)
  refine ⟨by rw [← h.1]; exact hlt, ?_⟩
  simp only [decide_eq_true_eq] at this
  unfold Pm.img
  rw [List.getD_eq_getElem?_getD, List.getElem?_eq_getElem hlt, Option.getD_some, this]
  simp
theorem inv_get (h : Pm n p) {i : Nat} (hi : i < n) : (invp p).getD i 0 = ((p.findIdx fun x => decide (x = (i : Int)) : Nat) : Int) := by
  have : i < p.length := by rw [h.1]; exact hi
  simp [invp, List.getD_eq_getElem?_getD, this]
theorem inv_img (h : Pm n p) {i : Nat} (hi : i < n) : img p (img (invp p) i) = i := by
  have : img (invp p) i = p.findIdx fun x => decide (x = (i : Int)) := by unfold Pm.img; rw [h.inv_get hi]; rfl
  rw [this]; exact (h.find hi).2
theorem inv (h : Pm n p) : Pm n (invp p) := by
  refine mk' (by simp [invp, h.1]) (fun j hj => ⟨_, (h.find hj).1, h.inv_get hj⟩) fun i j hi hj e => ?_
  rw [← h.inv_img hi, ← h.inv_img hj, e]
theorem comp_idn (h : Pm n p) : Go.Pm.comp p (Go.Pm.idn n) = p :=
  (h.comp (.idn n)).ext_img h fun i hi => by rw [h.cimg hi, img_idn (h.img_lt hi)]
theorem idn_comp (h : Pm n p) : Go.Pm.comp (Go.Pm.idn n) p = p :=
  ((Pm.idn n).comp h).ext_img h fun i hi => by rw [(Pm.idn n).cimg hi, img_idn hi]
theorem assoc (h : Pm n p) (k : Pm n q) (l : Pm n r) : Go.Pm.comp (Go.Pm.comp p q) r = Go.Pm.comp p (Go.Pm.comp q r) :=
  ((h.comp k).comp l).ext_img (h.comp (k.comp l)) fun i hi => by
    rw [(h.comp k).cimg hi, h.cimg hi, h.cimg hi, k.cimg (h.img_lt hi)]
end Pm

/-- What is generated (products of generators, applied one after the other). -/
inductive Gen (n : Nat) (S : List (List Int)) : List Int → Prop
  | one : Gen n S (idn n)
  | mul {p g : List Int} : Gen n S p → g ∈ S → Gen n S (comp p g)

section
variable {n : Nat} {S S' : List (List Int)} {p q : List Int}
theorem Gen.pm (hS : ∀ g ∈ S, Pm n g) (h : Gen n S p) : Pm n p := by
  induction h with
  | one => exact .idn n
  | mul _ hg ih => exact ih.comp (hS _ hg)
theorem Gen.prod (hS : ∀ g ∈ S, Pm n g) (h : Gen n S p) (k : Gen n S q) : Gen n S (comp p q) := by
  induction k with
  | one => rw [(h.pm hS).comp_idn]; exact h
  | mul k hg ih => rw [← (h.pm hS).assoc (k.pm hS) (hS _ hg)]; exact ih.mul hg
theorem Gen.of (hS : ∀ g ∈ S, Pm n g) (h : p ∈ S) : Gen n S p := by
  have := (Gen.one (n := n) (S := S)).mul h
  rwa [(hS _ h).idn_comp] at this
theorem Gen.sub (hS : ∀ g ∈ S', Pm n g) (hs : ∀ g ∈ S, Gen n S' g) (h : Gen n S p) : Gen n S' p := by
  induction h with
  | one => exact .one
  | mul _ hg ih => exact ih.prod hS (hs _ hg)
theorem Gen.mono (hs : ∀ g ∈ S, g ∈ S') (h : Gen n S p) : Gen n S' p := by
  induction h with
  | one => exact .one
  | mul _ hg ih => exact ih.mul (hs _ hg)
end
end Go.Pm
end
/- Words: free reduction, runs of letters, their lengths; plain. -/
section
namespace Go.Wd
set_option linter.unusedVariables false
set_option linter.unusedSimpArgs false
/-- One letter more: it is taken off with its inverse, or laid on. -/
def frS (o : List Int) (l : Int) : List Int := if 0 < o.length ∧ o.getD (o.length - 1) 0 = -l then o.take (o.length - 1) else o ++ [l]
def fr (w : List Int) : List Int := w.foldl frS []
def inv (w : List Int) : List Int := (w.map (- ·)).reverse
/-- The runs of the first k letters. -/
def runsK (al : Int → Int → Bool) (w : List Int) : Nat → List (List Int)
  | 0 => []
  | k + 1 => if 0 < k ∧ al (w.getD (k - 1) 0) (w.getD k 0) = true then (runsK al w k).set ((runsK al w k).length - 1) ((runsK al w k).getD ((runsK al w k).length - 1) [] ++ [w.getD k 0]) else runsK al w k ++ [[w.getD k 0]]
theorem runsK_pos (al : Int → Int → Bool) (w : List Int) : ∀ k, (0 < k → 0 < (runsK al w k).length) ∧ (runsK al w k).length ≤ k
  | 0 => ⟨fun h => absurd h (by omega), Nat.le_refl _⟩
  | k + 1 => by
    have ih := runsK_pos al w k
    unfold runsK
    split
    · rename_i h; rw [List.length_set]; exact ⟨fun _ => ih.1 h.1, by omega⟩
    · simp; exact ih.2
theorem set_flatten : ∀ (xs : List (List Int)) (l : Int), 0 < xs.length → (xs.set (xs.length - 1) (xs.getD (xs.length - 1) [] ++ [l])).flatten = xs.flatten ++ [l]
  | [], l, h => absurd h (by simp)
  | [x], l, h => by simp
  | x :: y :: t, l, h => by
    have ih := set_flatten (y :: t) l (by simp)
    simp only [List.length_cons, Nat.add_sub_cancel] at ih ⊢
    rw [List.set_cons_succ, List.flatten_cons, List.getD_cons_succ, ih]
    simp only [List.flatten_cons, List.append_assoc]
theorem runsK_flat (al : Int → Int → Bool) (w : List Int) : ∀ k, k ≤ w.length → (runsK al w k).flatten = w.take k
  | 0, _ => by simp [runsK]
  | k + 1, hk => by
    have ih := runsK_flat al w k (by omega)
    have e : w.take (k + 1) = w.take k ++ [w.getD k 0] := by
      rw [List.take_add_one]; simp [List.getD_eq_getElem?_getD, show k < w.length by omega]
    unfold runsK
    split
    · rename_i h
      rw [set_flatten _ _ ((runsK_pos al w k).1 h.1), ih, e]
    · simp [ih, e]
/-- How many of the first k letters begin a run. -/
def runN (al : Int → Int → Bool) (w : List Int) : Nat → Nat
  | 0 => 0
  | k + 1 => if 0 < k ∧ al (w.getD (k - 1) 0) (w.getD k 0) = true then runN al w k else runN al w k + 1
theorem runsK_len (al : Int → Int → Bool) (w : List Int) : ∀ k, (runsK al w k).length = runN al w k
  | 0 => rfl
  | k + 1 => by
    have ih := runsK_len al w k
    unfold runsK runN
    split
    · rw [List.length_set, ih]
    · simp [ih]
theorem runN_le (al : Int → Int → Bool) (w : List Int) (k : Nat) : runN al w k ≤ k := by rw [← runsK_len]; exact (runsK_pos al w k).2
end Go.Wd
end
/- Runs of letters that a key finds alike: where they lie, and that they are greatest; words made short; plain. -/
section
namespace Go.Wd
set_option linter.unusedVariables false
set_option linter.unusedSimpArgs false
def kf (f : Int → Int) (a b : Int) : Bool := decide (f a = f b)
/-- What runs are. -/
structure Runs (f : Int → Int) (xs : List (List Int)) : Prop where
  ne : ∀ j, j < xs.length → xs.getD j [] ≠ []
  al : ∀ j, j < xs.length → ∀ y ∈ xs.getD j [], f y = f ((xs.getD j []).getD 0 0)
  nx : ∀ j, j + 1 < xs.length → f ((xs.getD j []).getD 0 0) ≠ f ((xs.getD (j + 1) []).getD 0 0)
theorem getD_set {α : Type} {xs : List α} {i j : Nat} {d x : α} (hi : i < xs.length) : (xs.set i x).getD j d = if j = i then x else xs.getD j d := by
  by_cases h : j = i
  · subst h; simp [List.getD_eq_getElem?_getD, hi]
  · rw [if_neg h]; simp [List.getD_eq_getElem?_getD, List.getElem?_set, Ne.symm h]
theorem getD_snoc {α : Type} {xs : List α} {j : Nat} {d x : α} : (xs ++ [x]).getD j d = if j = xs.length then x else xs.getD j d := by
  by_cases h : j = xs.length
  · subst h; simp [List.getD_eq_getElem?_getD]
  · rw [if_neg h]
    by_cases h2 : j < xs.length
    · simp [List.getD_eq_getElem?_getD, List.getElem?_append_left h2]
    · simp [List.getD_eq_getElem?_getD, List.getElem?_eq_none (show (xs ++ [x]).length ≤ j by simp; omega), List.getElem?_eq_none (show xs.length ≤ j by omega)]
theorem hd_app {a b : List Int} (h : a ≠ []) : (a ++ b).getD 0 0 = a.getD 0 0 := by
  cases a with
  | nil => exact absurd rfl h
  | cons x t => rfl
theorem runsK_ok (f : Int → Int) (w : List Int) : ∀ k, Runs f (runsK (kf f) w k) ∧ (0 < k → f (((runsK (kf f) w k).getD ((runsK (kf f) w k).length - 1) []).getD 0 0) = f (w.getD (k - 1) 0))
  | 0 => ⟨⟨fun j h => absurd h (by simp [runsK]), fun j h => absurd h (by simp [runsK]), fun j h => absurd h (by simp [runsK])⟩, fun h => absurd h (by omega)⟩
  | k + 1 => by
    obtain ⟨⟨ih1, ih2, ih3⟩, ih4⟩ := runsK_ok f w k
    obtain ⟨xs, hx⟩ : ∃ xs, xs = runsK (kf f) w k := ⟨_, rfl⟩
    have hp := (runsK_pos (kf f) w k).1
    rw [← hx] at ih1 ih2 ih3 ih4 hp
    unfold runsK
    rw [← hx]
    by_cases hc : 0 < k ∧ kf f (w.getD (k - 1) 0) (w.getD k 0) = true
    · rw [if_pos hc]
      have h0 := hp hc.1
      have h4 := ih4 hc.1
      have hw : f (w.getD (k - 1) 0) = f (w.getD k 0) := by simpa [kf] using hc.2
      have hd : ∀ j, j < xs.length → ((xs.set (xs.length - 1) (xs.getD (xs.length - 1) [] ++ [w.getD k 0])).getD j []).getD 0 0 = (xs.getD j []).getD 0 0 := fun j hj => by
        rw [getD_set (by omega)]
        split
        · rename_i e; rw [e, hd_app (ih1 _ (by omega))]
        · rfl
      refine ⟨⟨fun j hj => ?_, fun j hj y hy => ?_, fun j hj => ?_⟩, fun _ => ?_⟩
      · rw [List.length_set] at hj
        rw [getD_set (by omega)]
        split
        · simp
        · exact ih1 j hj
      · rw [List.length_set] at hj
        rw [hd j hj]
        rw [getD_set (by omega)] at hy
        split at hy
        · rename_i e; subst e
          rcases List.mem_append.1 hy with hy | hy
          · exact ih2 _ hj y hy
          · rw [List.mem_singleton.1 hy, h4, hw]
        · exact ih2 j hj y hy
      · rw [List.length_set] at hj
        rw [hd j (by omega), hd (j + 1) hj]
        exact ih3 j hj
      · rw [List.length_set, hd _ (by omega), h4, hw]; rfl
    · rw [if_neg hc]
      refine ⟨⟨fun j hj => ?_, fun j hj y hy => ?_, fun j hj => ?_⟩, fun _ => ?_⟩
      · rw [List.length_append, List.length_singleton] at hj
        rw [getD_snoc]
        split
        · simp
        · exact ih1 j (by omega)
      · rw [List.length_append, List.length_singleton] at hj
        rw [getD_snoc] at hy ⊢
        split at hy
        · rename_i e; rw [if_pos e, List.mem_singleton.1 hy]; rfl
        · rename_i e; rw [if_neg e]; exact ih2 j (by omega) y hy
      · rw [List.length_append, List.length_singleton] at hj
        rw [getD_snoc, if_neg (by omega), getD_snoc]
        split
        · rename_i e
          have hk : 0 < k := by
            rcases Nat.eq_zero_or_pos k with h | h
            · subst h; rw [hx] at e; simp [runsK] at e
            · exact h
          have h4 := ih4 hk
          rw [show xs.length - 1 = j by omega] at h4
          rw [h4]
          intro he
          exact hc ⟨hk, by simpa [kf] using he⟩
        · exact ih3 j (by omega)
      · rw [List.length_append, List.length_singleton, Nat.add_sub_cancel, getD_snoc, if_pos rfl]; rfl
/-- The runs of a word. -/
def runs (f : Int → Int) (w : List Int) : List (List Int) := runsK (kf f) w w.length
theorem runs_ok (f : Int → Int) (w : List Int) : Runs f (runs f w) := (runsK_ok f w _).1
theorem runs_flat (f : Int → Int) (w : List Int) : (runs f w).flatten = w := by
  have := runsK_flat (kf f) w w.length (Nat.le_refl _)
  rwa [List.take_length] at this
/-- Where a run begins. -/
def offs (xs : List (List Int)) (j : Nat) : Nat := (xs.take j).flatten.length
theorem offs_succ {xs : List (List Int)} {j : Nat} (h : j < xs.length) : offs xs (j + 1) = offs xs j + (xs.getD j []).length := by
  unfold offs
  rw [List.take_add_one, List.flatten_append, List.length_append, List.getD_eq_getElem?_getD, List.getElem?_eq_getElem h]
  simp only [Option.toList_some, List.flatten_cons, List.flatten_nil, List.append_nil, Option.getD_some]
theorem offs_all (xs : List (List Int)) : offs xs xs.length = xs.flatten.length := by unfold offs; rw [List.take_length]
theorem flat_split (xs : List (List Int)) {j : Nat} (h : j < xs.length) : xs.flatten = (xs.take j).flatten ++ (xs.getD j [] ++ (xs.drop (j + 1)).flatten) := by
  conv => lhs; rw [← List.take_append_drop j xs]
  rw [List.flatten_append, List.drop_eq_getElem_cons h, List.flatten_cons]
  simp [List.getD_eq_getElem?_getD, h]
theorem flat_get {xs : List (List Int)} {j i : Nat} (h : j < xs.length) (hi : i < (xs.getD j []).length) : xs.flatten.getD (offs xs j + i) 0 = (xs.getD j []).getD i 0 := by
  rw [flat_split xs h]
  unfold offs
  rw [List.getD_eq_getElem?_getD, List.getElem?_append_right (by omega), Nat.add_sub_cancel_left, List.getElem?_append_left hi, ← List.getD_eq_getElem?_getD]
theorem offs_le {xs : List (List Int)} {j : Nat} (h : j < xs.length) : offs xs j + (xs.getD j []).length ≤ xs.flatten.length := by
  have e := congrArg List.length (flat_split xs h)
  simp only [List.length_append] at e
  unfold offs; omega
/-- Behind a run the word ends, or a letter of another key follows. -/
theorem run_end {f : Int → Int} {w : List Int} {j : Nat} (h : j < (runs f w).length) :
    (∀ i, i < ((runs f w).getD j []).length → offs (runs f w) j + i < w.length ∧ w.getD (offs (runs f w) j + i) 0 = ((runs f w).getD j []).getD i 0 ∧ f (w.getD (offs (runs f w) j + i) 0) = f (w.getD (offs (runs f w) j) 0)) ∧
    (offs (runs f w) (j + 1) < w.length → f (w.getD (offs (runs f w) (j + 1)) 0) ≠ f (w.getD (offs (runs f w) j) 0)) ∧ 0 < ((runs f w).getD j []).length := by
  have hr := runs_ok f w
  have hf := runs_flat f w
  have hne : ∀ k, k < (runs f w).length → 0 < ((runs f w).getD k []).length := fun k hk => by
    have := hr.ne k hk
    cases e : (runs f w).getD k [] with
    | nil => exact absurd e this
    | cons a t => simp
  have h0 : ∀ k, k < (runs f w).length → w.getD (offs (runs f w) k) 0 = ((runs f w).getD k []).getD 0 0 := fun k hk => by
    have := flat_get (i := 0) hk (hne k hk)
    rwa [hf, Nat.add_zero] at this
  refine ⟨fun i hi => ?_, fun hl => ?_, hne j h⟩
  · have h1 := flat_get h hi
    have h2 := offs_le h
    rw [hf] at h1 h2
    refine ⟨by omega, h1, ?_⟩
    rw [h1, h0 j h]
    refine hr.al j h _ ?_
    rw [List.getD_eq_getElem?_getD (l := (runs f w).getD j []), List.getElem?_eq_getElem hi]
    exact List.getElem_mem hi
  · rcases Nat.lt_or_ge (j + 1) (runs f w).length with h1 | h1
    · rw [h0 _ h1, h0 j h]
      exact (hr.nx j h1).symm
    · have e : j + 1 = (runs f w).length := by omega
      rw [e, offs_all, hf] at hl
      omega
theorem offs_mono {f : Int → Int} {w : List Int} {j : Nat} (h : j < (runs f w).length) : offs (runs f w) j < w.length := by
  obtain ⟨h1, _, h3⟩ := run_end h
  have := (h1 0 h3).1
  omega
/-- The remainder that is least, the positive one of two. -/
def sres (k d : Int) : Int := if 2 * (k % d) > d then k % d - d else k % d
/-- So many letters of a move, or of its inverse. -/
def lets (m n : Int) : List Int := if 0 ≤ n then List.replicate n.toNat m else List.replicate (-n).toNat (-m)
theorem lets_len (m n : Int) : (lets m n).length = n.natAbs := by
  unfold lets; split <;> simp <;> omega
def sgn (l : Int) : Int := if l < 0 then -1 else 1
def sumS (r : List Int) : Int := (r.map sgn).sum
def absI (l : Int) : Int := (l.natAbs : Int)
/-- A run made short; od: the order of a move. -/
def shortR (od : Int → Int) (r : List Int) : List Int := lets (absI (r.getD 0 0)) (sres (sumS r) (od (absI (r.getD 0 0))))
def shortK (od : Int → Int) (w : List Int) (k : Nat) : List Int := (((runs absI w).take k).map (shortR od)).flatten
def short (od : Int → Int) (w : List Int) : List Int := ((runs absI w).map (shortR od)).flatten
theorem shortK_all (od : Int → Int) (w : List Int) : shortK od w (runs absI w).length = short od w := by unfold shortK short; rw [List.take_length]
theorem shortK_succ (od : Int → Int) (w : List Int) {k : Nat} (h : k < (runs absI w).length) : shortK od w (k + 1) = shortK od w k ++ shortR od ((runs absI w).getD k []) := by
  unfold shortK
  rw [List.take_add_one, List.map_append, List.flatten_append, List.getD_eq_getElem?_getD, List.getElem?_eq_getElem h]
  simp only [Option.toList_some, List.map_cons, List.map_nil, List.flatten_cons, List.flatten_nil, List.append_nil, Option.getD_some]
theorem sres_ok {k d : Int} (hd : 0 < d) : (sres k d).natAbs ≤ k.natAbs ∧ -d < 2 * sres k d ∧ 2 * sres k d ≤ d ∧ ∃ q, sres k d = k + d * q := by
  have h1 := Int.emod_nonneg k (by omega : d ≠ 0)
  have h2 := Int.emod_lt_of_pos k hd
  have h3 := Int.mul_ediv_add_emod k d
  have key : ∀ r, (r = k % d ∨ r = k % d - d) → -d < 2 * r → 2 * r ≤ d → r.natAbs ≤ k.natAbs := by
    intro r hr a b
    obtain ⟨q, hq⟩ : ∃ q, k = r + d * q := by
      rcases hr with e | e
      · exact ⟨k / d, by rw [e]; omega⟩
      · refine ⟨k / d + 1, ?_⟩
        rw [e, Int.mul_add, Int.mul_one]; omega
    rcases Int.lt_trichotomy q 0 with hq0 | hq0 | hq0
    · have : d * q ≤ d * (-1) := Int.mul_le_mul_of_nonneg_left (by omega) (by omega)
      omega
    · subst hq0; simp at hq; omega
    · have : d * 1 ≤ d * q := Int.mul_le_mul_of_nonneg_left (by omega) (by omega)
      omega
  unfold sres
  split
  · rename_i h
    refine ⟨key _ (.inr rfl) (by omega) (by omega), by omega, by omega, -(k / d) - 1, ?_⟩
    rw [Int.mul_sub, Int.mul_neg, Int.mul_one]; omega
  · refine ⟨key _ (.inl rfl) (by omega) (by omega), by omega, by omega, -(k / d), ?_⟩
    rw [Int.mul_neg]; omega
theorem sumS_abs : ∀ r, (sumS r).natAbs ≤ r.length
  | [] => by simp [sumS]
  | l :: r => by
    have ih := sumS_abs r
    have e : sumS (l :: r) = sgn l + sumS r := by simp [sumS]
    have h1 : sgn l = -1 ∨ sgn l = 1 := by unfold sgn; split <;> simp
    rw [e, List.length_cons]
    omega
theorem shortR_len {od : Int → Int} {r : List Int} (hd : 0 < od (absI (r.getD 0 0))) : (shortR od r).length ≤ r.length := by
  unfold shortR
  rw [lets_len]
  have h1 := (sres_ok (k := sumS r) hd).1
  have h2 := sumS_abs r
  omega
end Go.Wd
end
/- The cycles of a permutation, and its order; plain. -/
section
namespace Go.Pm
set_option linter.unusedVariables false
set_option linter.unusedSimpArgs false
/-- Where a point is behind k steps. -/
def itr (p : List Int) (i : Nat) : Nat → Nat
  | 0 => i
  | k + 1 => img p (itr p i k)
/-- How long the cycle of a point is. -/
def clen (p : List Int) (i : Nat) : Nat := (List.range p.length).findIdx (fun k => decide (itr p i (k + 1) = i)) + 1
/-- The cycle of a point, the point first. -/
def cyc (p : List Int) (i : Nat) : List Int := (List.range (clen p i)).map fun k => ((itr p i k : Nat) : Int)
/-- The point is the least of its cycle. -/
def isMn (p : List Int) (i : Nat) : Bool := decide (∀ k, k < clen p i → i ≤ itr p i k)
def cycs (p : List Int) : List (List Int) := ((List.range p.length).filter fun i => isMn p i && decide (1 < clen p i)).map (cyc p)
def lcmL (l : List Nat) : Nat := l.foldl Nat.lcm 1
/-- The order of a permutation. -/
def ord (p : List Int) : Nat := lcmL ((List.range p.length).map (clen p))
theorem cyc_length (p : List Int) (i : Nat) : (cyc p i).length = clen p i := by simp [cyc]
theorem clen_pos (p : List Int) (i : Nat) : 0 < clen p i := Nat.succ_pos _
theorem itr_add (p : List Int) (i a : Nat) : ∀ b, itr p i (a + b) = itr p (itr p i a) b
  | 0 => rfl
  | b + 1 => by
    show img p (itr p i (a + b)) = img p (itr p (itr p i a) b)
    rw [itr_add p i a b]
section
variable {n : Nat} {p : List Int} {i j : Nat}
theorem itr_lt (h : Pm n p) (hi : i < n) : ∀ k, itr p i k < n
  | 0 => hi
  | k + 1 => h.img_lt (itr_lt h hi k)
theorem itr_inj (h : Pm n p) (hi : i < n) (hj : j < n) : ∀ k, itr p i k = itr p j k → i = j
  | 0, e => e
  | k + 1, e => itr_inj h hi hj k (h.inj (itr_lt h hi k) (itr_lt h hj k) e)
theorem itr_sub (h : Pm n p) (hi : i < n) {a b : Nat} (hab : a ≤ b) (e : itr p i a = itr p i b) : itr p i (b - a) = i := by
  have e1 : itr p i b = itr p (itr p i (b - a)) a := by rw [← itr_add, Nat.sub_add_cancel hab]
  exact (itr_inj h hi (itr_lt h hi _) a (e.trans e1)).symm
theorem itr_ret (h : Pm n p) (hi : i < n) : ∃ k, k < n ∧ itr p i (k + 1) = i := by
  refine Classical.byContradiction fun hc => ?_
  have hno : ∀ k, 0 < k → k ≤ n → itr p i k ≠ i := fun k h0 hk e => hc ⟨k - 1, by omega, by rw [Nat.sub_add_cancel h0]; exact e⟩
  have hnd : ((List.range (n + 1)).map (itr p i)).Nodup := by
    rw [List.nodup_iff_pairwise_ne, List.pairwise_map]
    refine List.Pairwise.imp_of_mem (R := fun a b => a ≠ b) ?_ (List.nodup_iff_pairwise_ne.1 List.nodup_range)
    intro a b ha hb hne e
    have ha' : a < n + 1 := by simpa using ha
    have hb' : b < n + 1 := by simpa using hb
    rcases Nat.lt_or_gt_of_ne hne with hl | hl
    · exact hno (b - a) (by omega) (by omega) (itr_sub h hi (by omega) e)
    · exact hno (a - b) (by omega) (by omega) (itr_sub h hi (by omega) e.symm)
  have := Go.Plain.nodup_le (List.range n) _ hnd fun x hx => by
    obtain ⟨k, _, rfl⟩ := List.mem_map.1 hx
    exact List.mem_range.2 (itr_lt h hi k)
  simp at this
  omega
theorem clen_ok (h : Pm n p) (hi : i < n) : clen p i ≤ n ∧ itr p i (clen p i) = i ∧ ∀ k, 0 < k → k < clen p i → itr p i k ≠ i := by
  obtain ⟨k, hk, e⟩ := itr_ret h hi
  have hlt : (List.range p.length).findIdx (fun k => decide (itr p i (k + 1) = i)) < (List.range p.length).length := by
    rw [List.findIdx_lt_length]
    exact ⟨k, List.mem_range.2 (by rw [h.1]; exact hk), by simpa using e⟩
  have hget := List.findIdx_getElem (w := hlt)
  simp only [List.getElem_range, decide_eq_true_eq] at hget
  refine ⟨?_, hget, fun m h0 hm e => ?_⟩
  · rw [List.length_range] at hlt
    have := h.1
    unfold clen; omega
  · unfold clen at hm
    have h1 := List.not_of_lt_findIdx (p := fun k => decide (itr p i (k + 1) = i)) (xs := List.range p.length) (i := m - 1) (by omega)
    simp only [List.getElem_range, decide_eq_true_eq] at h1
    rw [Nat.sub_add_cancel h0] at h1
    simp [e] at h1
theorem itr_mul (h : Pm n p) (hi : i < n) : ∀ q, itr p i (clen p i * q) = i
  | 0 => rfl
  | q + 1 => by rw [Nat.mul_succ, itr_add, itr_mul h hi q]; exact (clen_ok h hi).2.1
theorem itr_mod (h : Pm n p) (hi : i < n) (k : Nat) : itr p i k = itr p i (k % clen p i) := by
  conv => lhs; rw [← Nat.div_add_mod k (clen p i), itr_add, itr_mul h hi]
theorem clen_dvd (h : Pm n p) (hi : i < n) (m : Nat) : itr p i m = i ↔ clen p i ∣ m := by
  constructor
  · intro e
    rw [itr_mod h hi] at e
    rcases Nat.eq_zero_or_pos (m % clen p i) with h0 | h0
    · exact Nat.dvd_of_mod_eq_zero h0
    · exact absurd e ((clen_ok h hi).2.2 _ h0 (Nat.mod_lt _ (clen_pos p i)))
  · rintro ⟨q, rfl⟩; exact itr_mul h hi q
theorem clen_itr (h : Pm n p) (hi : i < n) (k : Nat) : clen p (itr p i k) = clen p i := by
  have key : ∀ m, itr p (itr p i k) m = itr p i k ↔ itr p i m = i := fun m => by
    rw [← itr_add, Nat.add_comm, itr_add]
    exact ⟨fun e => itr_inj h (itr_lt h hi _) hi k e, fun e => by rw [e]⟩
  refine Nat.dvd_antisymm ?_ ?_
  · rw [← clen_dvd h (itr_lt h hi k), key, clen_dvd h hi]; exact Nat.dvd_refl _
  · rw [← clen_dvd h hi, ← key, clen_dvd h (itr_lt h hi k)]; exact Nat.dvd_refl _
theorem cyc_inj (h : Pm n p) (hi : i < n) {a b : Nat} (ha : a < clen p i) (hb : b < clen p i) (e : itr p i a = itr p i b) : a = b := by
  rcases Nat.lt_trichotomy a b with hl | he | hl
  · exact absurd (itr_sub h hi (by omega) e) ((clen_ok h hi).2.2 _ (by omega) (by omega))
  · exact he
  · exact absurd (itr_sub h hi (by omega) e.symm) ((clen_ok h hi).2.2 _ (by omega) (by omega))
theorem itr_back (h : Pm n p) (hi : i < n) (k : Nat) : ∃ m, itr p (itr p i k) m = i := by
  refine ⟨clen p i * (k + 1) - k, ?_⟩
  have : k ≤ clen p i * (k + 1) := Nat.le_trans (Nat.le_succ k) (Nat.le_mul_of_pos_left _ (clen_pos p i))
  rw [← itr_add, Nat.add_sub_cancel' this, itr_mul h hi]
theorem isMn_iff (h : Pm n p) (hi : i < n) : isMn p i = true ↔ ∀ k, i ≤ itr p i k := by
  unfold isMn
  rw [decide_eq_true_eq]
  exact ⟨fun hm k => by rw [itr_mod h hi]; exact hm _ (Nat.mod_lt _ (clen_pos p i)), fun hm k _ => hm k⟩
theorem min_ex (h : Pm n p) : ∀ i, i < n → ∃ k, isMn p (itr p i k) = true := by
  intro i
  induction i using Nat.strongRecOn with
  | _ i ih =>
    intro hi
    by_cases hm : isMn p i = true
    · exact ⟨0, hm⟩
    · have : ∃ k, itr p i k < i := Classical.byContradiction fun hc => hm ((isMn_iff h hi).2 fun k => Nat.le_of_not_lt fun hl => hc ⟨k, hl⟩)
      obtain ⟨k, hk⟩ := this
      obtain ⟨m, hm⟩ := ih _ hk (itr_lt h hi k)
      exact ⟨k + m, by rw [itr_add]; exact hm⟩
end
theorem foldl_lcm (l : List Nat) : ∀ (o m : Nat), l.foldl Nat.lcm o ∣ m ↔ o ∣ m ∧ ∀ x ∈ l, x ∣ m := by
  induction l with
  | nil => intro o m; simp
  | cons a l ih =>
    intro o m
    rw [List.foldl_cons, ih]
    constructor
    · rintro ⟨h1, h2⟩
      exact ⟨Nat.dvd_trans (Nat.dvd_lcm_left _ _) h1, fun x hx => by
        rcases List.mem_cons.1 hx with rfl | hx
        · exact Nat.dvd_trans (Nat.dvd_lcm_right _ _) h1
        · exact h2 x hx⟩
    · rintro ⟨h1, h2⟩
      exact ⟨Nat.lcm_dvd h1 (h2 a (by simp)), fun x hx => h2 x (by simp [hx])⟩
theorem lcmL_dvd (l : List Nat) (m : Nat) : lcmL l ∣ m ↔ ∀ x ∈ l, x ∣ m := by
  unfold lcmL
  rw [foldl_lcm]
  exact ⟨fun h => h.2, fun h => ⟨Nat.one_dvd m, h⟩⟩
theorem lcmL_snoc (l : List Nat) (k : Nat) (h : k < l.length) : lcmL (l.take (k + 1)) = Nat.lcm (lcmL (l.take k)) (l.getD k 0) := by
  unfold lcmL
  rw [List.take_add_one, List.foldl_append, List.getElem?_eq_getElem h, List.getD_eq_getElem?_getD, List.getElem?_eq_getElem h]
  rfl
theorem lcm_div (o m : Nat) : o / Nat.gcd o m * m = Nat.lcm o m := by
  obtain ⟨q, hq⟩ := Nat.gcd_dvd_left o m
  rcases Nat.eq_zero_or_pos (Nat.gcd o m) with h0 | h0
  · have h1 : o = 0 := by rw [hq, h0, Nat.zero_mul]
    subst h1; simp
  · have e1 : o / Nat.gcd o m = q := by
      conv => lhs; lhs; rw [hq]
      exact Nat.mul_div_cancel_left q h0
    have e2 : o * m = Nat.gcd o m * (q * m) := by rw [← Nat.mul_assoc, ← hq]
    unfold Nat.lcm
    rw [e1, e2, Nat.mul_div_cancel_left _ h0]
section
variable {n : Nat} {p : List Int} {i j : Nat}
theorem clen_ord (h : Pm n p) (hi : i < n) : clen p i ∣ ord p :=
  (lcmL_dvd _ _).1 (Nat.dvd_refl (ord p)) _ (List.mem_map.2 ⟨i, List.mem_range.2 (by rw [h.1]; exact hi), rfl⟩)
theorem dvd_20 : ∀ k, k < 21 → 0 < k → k ∣ 232792560 := by decide
theorem lcm_20 {l : List Nat} (hl : ∀ x ∈ l, 0 < x ∧ x ≤ 20) : 0 < lcmL l ∧ lcmL l ≤ 232792560 := by
  have hd : lcmL l ∣ 232792560 := (lcmL_dvd _ _).2 fun x hx => dvd_20 x (by have := (hl x hx).2; omega) (hl x hx).1
  exact ⟨Nat.pos_of_dvd_of_pos hd (by decide), Nat.le_of_dvd (by decide) hd⟩
theorem ord_20 (h : Pm n p) (hn : n ≤ 20) : 0 < ord p ∧ ord p ≤ 232792560 := lcm_20 fun x hx => by
  obtain ⟨i, hi, rfl⟩ := List.mem_map.1 hx
  have := (clen_ok h (by rw [← h.1]; exact List.mem_range.1 hi)).1
  exact ⟨clen_pos p i, by omega⟩
theorem mem_cycs (h : Pm n p) (c : List Int) : c ∈ cycs p ↔ ∃ i, i < n ∧ isMn p i = true ∧ 1 < clen p i ∧ c = cyc p i := by
  unfold cycs
  simp only [List.mem_map, List.mem_filter, List.mem_range, Bool.and_eq_true, decide_eq_true_eq, h.1]
  exact ⟨fun ⟨i, ⟨a, b, c⟩, d⟩ => ⟨i, a, b, c, d.symm⟩, fun ⟨i, a, b, c, d⟩ => ⟨i, ⟨a, b, c⟩, d.symm⟩⟩
/-- The cycles of two points and more tell the order. -/
theorem ord_cycs (h : Pm n p) : lcmL ((cycs p).map List.length) = ord p := by
  refine Nat.dvd_antisymm ((lcmL_dvd _ _).2 fun x hx => ?_) ((lcmL_dvd _ _).2 fun x hx => ?_)
  · obtain ⟨c, hc, rfl⟩ := List.mem_map.1 hx
    obtain ⟨i, hi, _, _, rfl⟩ := (mem_cycs h c).1 hc
    rw [cyc_length]; exact clen_ord h hi
  · obtain ⟨i, hi, rfl⟩ := List.mem_map.1 hx
    rw [List.mem_range, h.1] at hi
    obtain ⟨k, hk⟩ := min_ex h i hi
    rw [← clen_itr h hi k]
    by_cases h1 : 1 < clen p (itr p i k)
    · refine (lcmL_dvd _ _).1 (Nat.dvd_refl _) _ (List.mem_map.2 ⟨cyc p (itr p i k), (mem_cycs h _).2 ⟨_, itr_lt h hi k, hk, h1, rfl⟩, cyc_length _ _⟩)
    · have := clen_pos p (itr p i k)
      rw [show clen p (itr p i k) = 1 by omega]
      exact Nat.one_dvd _
end
end Go.Pm
end
/- Words made short: they end, and what they do stays; plain. -/
section
namespace Go.Wd
open Go.Pm (Pm comp invp idn img itr)
set_option linter.unusedVariables false
set_option linter.unusedSimpArgs false
def neg (w : List Int) : Nat := w.countP fun x => decide (x < 0)
theorem neg_le (w : List Int) : neg w ≤ w.length := List.countP_le_length
theorem neg_app (a b : List Int) : neg (a ++ b) = neg a + neg b := List.countP_append
theorem sumS_app (a b : List Int) : sumS (a ++ b) = sumS a + sumS b := by simp [sumS, List.sum_append]
/-- The letters of a run: one move. -/
def isRun (a : Int) (r : List Int) : Prop := ∀ x ∈ r, x = a ∨ x = -a
theorem all_same {a : Int} (ha : 0 < a) : ∀ {r : List Int}, isRun a r → (sumS r = r.length → r = List.replicate r.length a) ∧ (sumS r = -r.length → r = List.replicate r.length (-a))
  | [], h => ⟨fun _ => rfl, fun _ => rfl⟩
  | x :: r, h => by
    obtain ⟨i1, i2⟩ := all_same ha (r := r) fun y hy => h y (by simp [hy])
    have hs := sumS_abs r
    have e : sumS (x :: r) = sgn x + sumS r := by simp [sumS]
    have hx := h x (by simp)
    rw [e, List.length_cons, List.replicate_succ, List.replicate_succ]
    constructor
    · intro h1
      rcases hx with rfl | rfl
      · rw [← i1 (by rw [show sgn x = 1 from if_neg (by omega)] at h1; omega)]
      · rw [show sgn (-a) = -1 from if_pos (by omega)] at h1; omega
    · intro h1
      rcases hx with rfl | rfl
      · rw [show sgn x = 1 from if_neg (by omega)] at h1; omega
      · rw [← i2 (by rw [show sgn (-a) = -1 from if_pos (by omega)] at h1; omega)]
theorem neg_lets {a : Int} (ha : 0 < a) (n : Int) : neg (lets a n) = if 0 ≤ n then 0 else n.natAbs := by
  unfold lets neg
  split
  · rw [List.countP_replicate]; simp; omega
  · rw [List.countP_replicate, if_pos (by simp; omega)]; omega
/-- A run that does not get shorter stays, or has fewer inverse letters. -/
theorem shortR_same {od : Int → Int} {a : Int} (ha : 0 < a) (hd : 0 < od a) {r : List Int} (hr : isRun a r) (h0 : absI (r.getD 0 0) = a) (hne : r ≠ []) :
    (shortR od r).length ≤ r.length ∧ ((shortR od r).length = r.length → shortR od r = r ∨ neg (shortR od r) < neg r) := by
  have hL : 0 < r.length := by cases r with
    | nil => exact absurd rfl hne
    | cons => simp
  unfold shortR
  rw [h0, lets_len]
  obtain ⟨s1, s2, s3, q, s4⟩ := sres_ok (k := sumS r) hd
  have h2 := sumS_abs r
  refine ⟨by omega, fun e => ?_⟩
  have hsum : sumS r = r.length ∨ sumS r = -(r.length : Int) := by omega
  obtain ⟨n, hn⟩ : ∃ n, n = sres (sumS r) (od a) := ⟨_, rfl⟩
  rw [← hn] at s1 s2 s3 s4 e ⊢
  rcases hsum with h3 | h3
  · have hr2 := (all_same ha hr).1 h3
    rcases Int.le_total 0 n with h4 | h4
    · left
      unfold lets
      rw [if_pos h4, show n.toNat = r.length by omega]; exact hr2.symm
    · exfalso
      rw [h3] at s4
      have e2 : od a * q = -2 * r.length := by omega
      rcases Int.lt_trichotomy q 0 with hq | hq | hq
      · have : od a * q ≤ od a * (-1) := Int.mul_le_mul_of_nonneg_left (by omega) (by omega)
        omega
      · subst hq; simp at e2; omega
      · have : od a * 1 ≤ od a * q := Int.mul_le_mul_of_nonneg_left (by omega) (by omega)
        omega
  · have hr2 := (all_same ha hr).2 h3
    rcases (show n < 0 ∨ 0 ≤ n by omega) with h4 | h4
    · left
      unfold lets
      rw [if_neg (by omega), show (-n).toNat = r.length by omega]; exact hr2.symm
    · right
      rw [neg_lets ha, if_pos h4, hr2]
      unfold neg
      rw [List.countP_replicate, if_pos (by simp; omega)]
      exact hL
theorem flat_same (f : List Int → List Int) : ∀ (xs : List (List Int)), (∀ r ∈ xs, (f r).length ≤ r.length ∧ ((f r).length = r.length → f r = r ∨ neg (f r) < neg r)) →
    (xs.map f).flatten.length ≤ xs.flatten.length ∧ ((xs.map f).flatten.length = xs.flatten.length → (xs.map f).flatten = xs.flatten ∨ neg (xs.map f).flatten < neg xs.flatten) ∧ ((xs.map f).flatten.length = xs.flatten.length → neg (xs.map f).flatten ≤ neg xs.flatten)
  | [], h => ⟨Nat.le_refl _, fun _ => .inl rfl, fun _ => Nat.le_refl _⟩
  | r :: xs, h => by
    obtain ⟨i1, i2, i3⟩ := flat_same f xs fun y hy => h y (by simp [hy])
    obtain ⟨k1, k2⟩ := h r (by simp)
    simp only [List.map_cons, List.flatten_cons, List.length_append, neg_app]
    refine ⟨by omega, fun e => ?_, fun e => ?_⟩
    · rcases k2 (by omega) with a | a
      · rcases i2 (by omega) with b | b
        · left; rw [a, b]
        · right; rw [a]; omega
      · right
        have := i3 (by omega)
        omega
    · have := i3 (by omega)
      rcases k2 (by omega) with a | a
      · rw [a]; omega
      · omega
/-- The letters of valid words. -/
def okW (w : List Int) : Prop := ∀ x ∈ w, x ≠ 0
theorem absI_pos {x : Int} (h : x ≠ 0) : 0 < absI x := by unfold absI; omega
theorem absI_or (x : Int) : x = absI x ∨ x = -absI x := by unfold absI; omega
theorem run_of {w : List Int} (hw : okW w) {r : List Int} (hr : r ∈ runs absI w) : r ≠ [] ∧ 0 < absI (r.getD 0 0) ∧ isRun (absI (r.getD 0 0)) r ∧ ∀ x ∈ r, x ∈ w := by
  obtain ⟨j, hj, rfl⟩ := List.mem_iff_getElem.1 hr
  have ho := runs_ok absI w
  have e : (runs absI w).getD j [] = (runs absI w)[j] := by simp [List.getD_eq_getElem?_getD, hj]
  have h1 := ho.ne j hj
  have h2 := ho.al j hj
  rw [e] at h1 h2
  have hin : ∀ x ∈ (runs absI w)[j], x ∈ w := fun x hx => by
    rw [← runs_flat absI w]
    exact List.mem_flatten.2 ⟨_, List.getElem_mem hj, hx⟩
  have h0 : (runs absI w)[j].getD 0 0 ∈ (runs absI w)[j] := by
    rw [List.getD_eq_getElem?_getD, List.getElem?_eq_getElem (List.length_pos_iff.2 h1)]
    exact List.getElem_mem _
  refine ⟨h1, absI_pos (hw _ (hin _ h0)), fun x hx => ?_, hin⟩
  rw [← h2 x hx]
  exact absI_or x
/-- How far a word is from its end. -/
def mu (w : List Int) : Nat := w.length * 201 + neg w
theorem short_same {od : Int → Int} {w : List Int} (hw : okW w) (hd : ∀ x ∈ w, 0 < od (absI x)) :
    (short od w).length ≤ w.length ∧ (w.length ≤ 200 → short od w ≠ w → mu (short od w) < mu w) := by
  have key := flat_same (shortR od) (runs absI w) fun r hr => by
    obtain ⟨h1, h2, h3, h4⟩ := run_of hw hr
    refine shortR_same h2 ?_ h3 rfl h1
    refine hd _ (h4 _ ?_)
    rw [List.getD_eq_getElem?_getD, List.getElem?_eq_getElem (List.length_pos_iff.2 h1)]
    exact List.getElem_mem _
  rw [runs_flat] at key
  obtain ⟨k1, k2, k3⟩ := key
  refine ⟨k1, fun hl hne => ?_⟩
  unfold mu
  by_cases e : (short od w).length = w.length
  · rcases k2 e with h | h
    · exact absurd h hne
    · have h' : neg (short od w) < neg w := h
      rw [e]; omega
  · have h1 : (short od w).length ≤ w.length := k1
    have h2 := neg_le (short od w)
    omega
theorem mem_lets {m n x : Int} (h : x ∈ lets m n) : x = m ∨ x = -m := by
  unfold lets at h
  split at h
  · exact .inl (List.eq_of_mem_replicate h)
  · exact .inr (List.eq_of_mem_replicate h)
/-- Each letter left is of a move that the word has. -/
theorem mem_short {od : Int → Int} {w : List Int} (hw : okW w) {x : Int} (h : x ∈ short od w) : ∃ y ∈ w, absI x = absI y ∧ x ≠ 0 := by
  unfold short at h
  obtain ⟨l, hl, hx⟩ := List.mem_flatten.1 h
  obtain ⟨r, hr, rfl⟩ := List.mem_map.1 hl
  obtain ⟨h1, h2, h3, h4⟩ := run_of hw hr
  have h0 : r.getD 0 0 ∈ r := by
    rw [List.getD_eq_getElem?_getD, List.getElem?_eq_getElem (List.length_pos_iff.2 h1)]
    exact List.getElem_mem _
  refine ⟨_, h4 _ h0, ?_⟩
  unfold shortR at hx
  have := mem_lets hx
  unfold absI at *
  omega
section
variable {n : Nat} {q : List Int} {i : Nat}
end
/-- What the letters denote. -/
structure Lts (n : Nat) (L : Int → List Int) (ok : Int → Prop) : Prop where
  pm : ∀ a, ok a → Pm n (L a)
  inv : ∀ a, ok a → L (-a) = invp (L a)
def ev (L : Int → List Int) (P : List Int) (w : List Int) : List Int := w.foldl (fun p l => comp p (L l)) P
section
variable {n : Nat} {L : Int → List Int} {ok : Int → Prop}
end
end Go.Wd
end
/- What a walk over the cycles of a permutation has met; plain. -/
section
namespace Go.Pm
set_option linter.unusedVariables false
set_option linter.unusedSimpArgs false
/-- A point is met by the cycles of the points below i. -/
def sn (p : List Int) (i x : Nat) : Bool := decide (∃ j, j < i ∧ ∃ m, m < clen p j ∧ itr p j m = x)
/-- What is met: the cycles of the points below i, and k steps of the next. -/
def snK (p : List Int) (i k : Nat) : List Bool := (List.range p.length).map fun x => sn p i x || decide (∃ m, m < k ∧ itr p i m = x)
/-- So many steps are made from i. -/
def stK (p : List Int) (i : Nat) : Nat := if sn p i i = true then 0 else clen p i
def cycsK (p : List Int) (i : Nat) : List (List Int) := ((List.range i).filter fun i => isMn p i && decide (1 < clen p i)).map (cyc p)
theorem snK_len (p : List Int) (i k : Nat) : (snK p i k).length = p.length := by simp [snK]
theorem snK_zero (p : List Int) : snK p 0 0 = List.replicate p.length false := by
  refine List.ext_getElem (by simp [snK]) fun i h1 h2 => ?_
  simp [snK, sn]
theorem snK_get (p : List Int) (i k : Nat) {x : Nat} (hx : x < p.length) : (snK p i k).getD x false = (sn p i x || decide (∃ m, m < k ∧ itr p i m = x)) := by
  simp [snK, List.getD_eq_getElem?_getD, hx]
theorem snK_set (p : List Int) (i k : Nat) : (snK p i k).set (itr p i k) true = snK p i (k + 1) := by
  refine List.ext_getElem (by simp [snK]) fun x h1 h2 => ?_
  have hx : x < p.length := by rw [snK_len] at h2; exact h2
  rw [List.getElem_set]
  simp only [snK, List.getElem_map, List.getElem_range]
  by_cases e : itr p i k = x
  · rw [if_pos e]
    have : (∃ m, m < k + 1 ∧ itr p i m = x) := ⟨k, Nat.lt_succ_self k, e⟩
    simp [this]
  · rw [if_neg e]
    congr 1
    refine decide_eq_decide.2 ⟨fun ⟨m, h, e2⟩ => ⟨m, by omega, e2⟩, fun ⟨m, h, e2⟩ => ⟨m, ?_, e2⟩⟩
    rcases Nat.lt_or_ge m k with h3 | h3
    · exact h3
    · have : m = k := by omega
      subst this; exact absurd e2 e
section
variable {n : Nat} {p : List Int} {i : Nat}
theorem sn_iff (h : Pm n p) (hi : i ≤ n) (x : Nat) : sn p i x = true ↔ ∃ j, j < i ∧ ∃ m, itr p j m = x := by
  unfold sn
  rw [decide_eq_true_eq]
  constructor
  · rintro ⟨j, hj, m, _, e⟩; exact ⟨j, hj, m, e⟩
  · rintro ⟨j, hj, m, e⟩
    exact ⟨j, hj, m % clen p j, Nat.mod_lt _ (clen_pos p j), by rw [← itr_mod h (by omega), e]⟩
theorem sn_mn (h : Pm n p) (hi : i < n) : sn p i i = true ↔ ¬ isMn p i = true := by
  rw [sn_iff h (by omega), isMn_iff h hi]
  constructor
  · rintro ⟨j, hj, m, e⟩ hc
    obtain ⟨m', e'⟩ := itr_back h (show j < n by omega) m
    rw [e] at e'
    have := hc m'
    omega
  · intro hc
    obtain ⟨k, hk⟩ : ∃ k, ¬ i ≤ itr p i k := Classical.byContradiction fun h => hc fun k => Classical.byContradiction fun h2 => h ⟨k, h2⟩
    obtain ⟨m, e⟩ := itr_back h hi k
    exact ⟨itr p i k, by omega, m, e⟩
theorem st_iff (h : Pm n p) (hi : i < n) {k : Nat} (hk : k ≤ stK p i) : (snK p i k).getD (itr p i k) false = true ↔ k = stK p i := by
  have hb := itr_lt h hi k
  rw [snK_get p i k (by rw [h.1]; exact hb), Bool.or_eq_true, decide_eq_true_eq]
  unfold stK at hk ⊢
  by_cases hs : sn p i i = true
  · rw [if_pos hs] at hk ⊢
    have : k = 0 := by omega
    subst this
    exact ⟨fun _ => rfl, fun _ => .inl hs⟩
  · rw [if_neg hs] at hk ⊢
    constructor
    · rintro (h1 | ⟨m, hm, e⟩)
      · obtain ⟨j, hj, m, e⟩ := (sn_iff h (by omega) _).1 h1
        obtain ⟨m', e'⟩ := itr_back h hi k
        refine absurd ((sn_iff h (by omega) _).2 ⟨j, hj, m + m', ?_⟩) hs
        rw [itr_add, e, e']
      · rcases Nat.lt_or_ge k (clen p i) with h2 | h2
        · have := cyc_inj h hi (show m < clen p i by omega) h2 e
          omega
        · omega
    · intro e
      refine .inr ⟨0, by have := clen_pos p i; omega, ?_⟩
      rw [e, (clen_ok h hi).2.1]; rfl
theorem snK_next (h : Pm n p) (hi : i < n) : snK p i (stK p i) = snK p (i + 1) 0 := by
  unfold snK
  refine List.map_congr_left fun x hx => ?_
  rw [Bool.eq_iff_iff, Bool.or_eq_true, Bool.or_eq_true, decide_eq_true_eq, decide_eq_true_eq, sn_iff h (by omega), sn_iff h (by omega)]
  constructor
  · rintro (⟨j, hj, m, e⟩ | ⟨m, _, e⟩)
    · exact .inl ⟨j, by omega, m, e⟩
    · exact .inl ⟨i, by omega, m, e⟩
  · rintro (⟨j, hj, m, e⟩ | ⟨m, hm, _⟩)
    · by_cases hji : j = i
      · subst hji
        unfold stK
        by_cases hs : sn p j j = true
        · obtain ⟨l, hl, m', e'⟩ := (sn_iff h (by omega) _).1 hs
          exact .inl ⟨l, hl, m' + m, by rw [itr_add, e', e]⟩
        · rw [if_neg hs]
          exact .inr ⟨m % clen p j, Nat.mod_lt _ (clen_pos p j), by rw [← itr_mod h hi, e]⟩
      · exact .inl ⟨j, by omega, m, e⟩
    · omega
theorem cycsK_succ (h : Pm n p) (hi : i < n) : cycsK p (i + 1) = if 1 < stK p i then cycsK p i ++ [(cyc p i).take (stK p i)] else cycsK p i := by
  have e : cycsK p (i + 1) = cycsK p i ++ (if isMn p i && decide (1 < clen p i) then [cyc p i] else []) := by
    unfold cycsK
    rw [List.range_succ, List.filter_append, List.map_append]
    congr 1
    by_cases hc : (isMn p i && decide (1 < clen p i)) = true
    · rw [if_pos hc]; simp [hc]
    · rw [if_neg hc]; simp [hc]
  rw [e]
  unfold stK
  by_cases hs : sn p i i = true
  · have hm := (sn_mn h hi).1 hs
    rw [if_pos hs, if_neg (show ¬ 1 < 0 by omega), if_neg (by simp [hm]), List.append_nil]
  · have hm : isMn p i = true := Classical.byContradiction fun hc => hs ((sn_mn h hi).2 hc)
    rw [if_neg hs]
    have ec : (cyc p i).take (clen p i) = cyc p i := by rw [← cyc_length, List.take_length]
    by_cases h1 : 1 < clen p i
    · rw [if_pos h1, if_pos (by simp [hm, h1]), ec]
    · rw [if_neg h1, if_neg (by simp [h1]), List.append_nil]
theorem cycsK_all (h : Pm n p) : cycsK p n = cycs p := by unfold cycsK cycs; rw [h.1]
theorem cycsK_len (p : List Int) (i : Nat) : (cycsK p i).length ≤ i := by
  unfold cycsK
  rw [List.length_map]
  exact Nat.le_trans (List.length_filter_le _ _) (by simp)
theorem stK_le (h : Pm n p) (hi : i < n) : stK p i ≤ clen p i := by unfold stK; split <;> omega
end
end Go.Pm
end
/- Words made short until they stay as they are; plain. -/
section
namespace Go.Wd
set_option linter.unusedVariables false
set_option linter.unusedSimpArgs false
def smpF (od : Int → Int) : Nat → List Int → List Int
  | 0, w => w
  | f + 1, w => if short od w = w then w else smpF od f (short od w)
/-- A word made short until it stays. -/
def smp (od : Int → Int) (w : List Int) : List Int := smpF od (mu w + 1) w
/-- Words that may be made short. -/
structure SW (od : Int → Int) (w : List Int) : Prop where
  nz : okW w
  od : ∀ x ∈ w, 0 < od (absI x)
  len : w.length ≤ 200
theorem SW.short {od : Int → Int} {w : List Int} (h : SW od w) : SW od (short od w) ∧ (Go.Wd.short od w ≠ w → mu (Go.Wd.short od w) < mu w) := by
  have h1 := short_same h.nz h.od
  refine ⟨⟨fun x hx => ?_, fun x hx => ?_, by have := h.len; omega⟩, fun hne => h1.2 h.len hne⟩
  · obtain ⟨y, _, _, h2⟩ := mem_short h.nz hx; exact h2
  · obtain ⟨y, hy, e, _⟩ := mem_short h.nz hx
    rw [e]; exact h.od y hy
theorem smpF_enough {od : Int → Int} : ∀ (f g : Nat) (w : List Int), SW od w → mu w < f → mu w < g → smpF od f w = smpF od g w
  | 0, _, _, _, h, _ => absurd h (by omega)
  | _, 0, _, _, _, h => absurd h (by omega)
  | f + 1, g + 1, w, hw, hf, hg => by
    simp only [smpF]
    by_cases e : short od w = w
    · rw [if_pos e, if_pos e]
    · rw [if_neg e, if_neg e]
      have := hw.short.2 e
      exact smpF_enough f g _ hw.short.1 (by omega) (by omega)
theorem smp_stay {od : Int → Int} {w : List Int} (e : short od w = w) : smp od w = w := by simp only [smp, smpF, if_pos e]
theorem smp_step {od : Int → Int} {w : List Int} (h : SW od w) (e : short od w ≠ w) : smp od (short od w) = smp od w := by
  show smpF od _ (short od w) = smpF od _ w
  have e2 : smpF od (mu w + 1) w = smpF od (mu w) (short od w) := by simp only [smpF, if_neg e]
  rw [e2]
  have := h.short.2 e
  exact smpF_enough _ _ _ h.short.1 (by omega) (by omega)
theorem smp_len {od : Int → Int} : ∀ (f : Nat) (w : List Int), SW od w → (smpF od f w).length ≤ 200
  | 0, w, h => h.len
  | f + 1, w, h => by
    simp only [smpF]
    split
    · exact h.len
    · exact smp_len f _ h.short.1
theorem sumS_take {r : List Int} {i : Nat} (h : i < r.length) : sumS (r.take (i + 1)) = sumS (r.take i) + sgn (r.getD i 0) := by
  rw [List.take_succ_eq_append_getElem h, sumS_app]
  simp [sumS, List.getD_eq_getElem?_getD, h]
theorem sumS_bd (r : List Int) (i : Nat) : -(r.length : Int) ≤ sumS (r.take i) ∧ sumS (r.take i) ≤ r.length := by
  have := sumS_abs (r.take i)
  rw [List.length_take] at this
  omega
theorem lets_split (m n : Int) : lets m n = List.replicate n.toNat m ++ List.replicate (-n).toNat (-m) := by
  unfold lets
  split
  · rw [show (-n).toNat = 0 by omega]; simp
  · rw [show n.toNat = 0 by omega]; simp
theorem shortK_len {od : Int → Int} {w : List Int} (hd : ∀ x ∈ w, 0 < od (absI x)) : ∀ k, k ≤ (runs absI w).length → (shortK od w k).length ≤ offs (runs absI w) k
  | 0, _ => by simp [shortK]
  | k + 1, h => by
    have ih := shortK_len hd k (by omega)
    rw [shortK_succ od w (by omega), List.length_append, offs_succ (by omega)]
    obtain ⟨q1, _, q3⟩ := run_end (f := absI) (w := w) (j := k) (by omega)
    obtain ⟨k1, k2, _⟩ := q1 0 q3
    have hm : ((runs absI w).getD k []).getD 0 0 ∈ w := by
      rw [← k2, List.getD_eq_getElem?_getD, List.getElem?_eq_getElem k1]; exact List.getElem_mem _
    have := shortR_len (od := od) (r := (runs absI w).getD k []) (hd _ hm)
    omega
end Go.Wd
end

import Derived.Test.YtcfnbahpdlmcpaaL2
import Derived.ProofKit
import Derived.OpenShut
import Derived.ShutString
import Derived.ChangeOld
import Derived.Below
import Derived.Carry
import Derived.Deep.Slices
import Derived.Lib.SmallJoins
import Derived.Calls
/- The heap told anew: names turned, nil told as a slice of our own, and cells told one by one. -/
section
namespace Go.Av
/-- A hypothesis that the walk is not to see. -/
structure Hold (p : Prop) : Prop where
  h : p
section
variable {N : Cx} {A A' : Fr} {H H' : Hp}
/-- How what is told before (by old names) is told afterwards (by new ones): ρ gives the old name of a new one; a new name without an old one is a nil slice. -/
inductive Lay (ρ : Nat → Option Nat) : AV → AV → Prop
  | own {h g off sz n : Nat} : ρ h = some g → Lay ρ (.own g off sz n) (.own h off sz n)
  | ref {h g off : Nat} : ρ h = some g → Lay ρ (.ref g off) (.ref h off)
  | nil {h sz : Nat} : ρ h = none → Lay ρ (.v (.slice none 0 0)) (.own h 0 sz 0)
  | plain {a : AV} : a.plain → Lay ρ a a
  | agg {n : Nat} {f g : Nat → AV} : (∀ i, i < n → Lay ρ (f i) (g i)) → Lay ρ (.agg n f) (.agg n g)
  | map {h g : Nat} : ρ h = some g → Lay ρ (.map g) (.map h)
  | dead (a : AV) : Lay ρ a .dead
theorem Lay.rd {ρ : Nat → Option Nat} {w : World} {ok : Nat → Prop} {L : Loc} {a c : AV} (h : Lay ρ a c) : ∀ u, Rd w ok L a u → Rd w ok (fun h => (ρ h).bind L) c u := by
  induction h with
  | @own h g off sz n e => intro u hu; simp only [Rd, e, Option.bind_some] at hu ⊢; exact hu
  | @ref h g off e => intro u hu; simp only [Rd, e, Option.bind_some] at hu ⊢; exact hu
  | @nil h sz e => intro u hu; simp only [Rd, e, Option.bind_none] at hu ⊢; exact ⟨hu, trivial⟩
  | @plain a hp => intro u hu; exact Rd.plain a _ _ u hp hu
  | @agg n f g _ ih => rintro u ⟨cs, h1, h2, h3⟩; exact ⟨cs, h1, h2, fun i hi => let ⟨c, k1, k2⟩ := h3 i hi; ⟨c, k1, ih i hi _ k2⟩⟩
  | @map h g e => intro u hu; simp only [Rd, e, Option.bind_some] at hu ⊢; exact hu
  | dead a => intro u _; trivial
/-- .. where some blocks are maps. -/
theorem Sub.layM (ρ : Nat → Option Nat) (hpn : N.pn = fun _ => false) (hA : ∀ i c, A'.get i = some c → ∃ a, A.get i = some a ∧ Lay ρ a c)
    (hH : ∀ h B', H' h = some B' → (∃ g n f f', ρ h = some g ∧ B' = .cells n f' ∧ H g = some (.cells n f) ∧ ∀ i, i < n → Lay ρ (f i) (f' i)) ∨ (ρ h = none ∧ ∃ f, B' = .cells 0 f) ∨ (∃ g kv, ρ h = some g ∧ B' = .mp kv ∧ H g = some (.mp kv) ∧ ∀ x ∈ kv, x.2.plain))
    (hinj : ∀ h g k, H' h ≠ none → H' g ≠ none → ρ h = some k → ρ g = some k → h = g) : Sub N A H A' H' := by
  intro w0 S hS w tm L s
  have live : ∀ h k, H' h ≠ none → ρ h = some k → H k ≠ none := by
    intro h k hn e
    cases hB : H' h with
    | none => exact absurd hB hn
    | some B =>
      rcases hH h B hB with ⟨g, n, f, f', e1, _, e2, _⟩ | ⟨e1, _⟩ | ⟨g, kv, e1, _, e2, _⟩
      · rw [e] at e1; simp only [Option.some.injEq] at e1; subst e1; rw [e2]; simp
      · rw [e] at e1; simp at e1
      · rw [e] at e1; simp only [Option.some.injEq] at e1; subst e1; rw [e2]; simp
  have dec : ∀ h q, ((ρ h).bind L) = some q → ∃ k, ρ h = some k ∧ L k = some q := by
    intro h q hq
    cases e : ρ h with
    | none => rw [e] at hq; simp at hq
    | some k => rw [e] at hq; exact ⟨k, rfl, hq⟩
  have hok : ∀ b, okb S H L b → okb S H' (fun h => (ρ h).bind L) b := fun b hb => ⟨hb.1, fun h q hn hq => by
    obtain ⟨k, e1, e2⟩ := dec h q hq
    exact hb.2 k q (live h k hn e1) e2⟩
  refine ⟨fun h => (ρ h).bind L, s.keep, s.size, fun i c hc => ?_, fun h B hB => ?_, fun h q hn hq => ?_, fun h g q r hn hm hq hr e => ?_, fun h l hl => ?_⟩
  · obtain ⟨a, h1, h2⟩ := hA i c hc
    exact Rd.mono (fun b _ hb => hok b hb) (h2.rd _ (s.slot i a h1))
  · rcases hH h B hB with ⟨g, n, f, f', e1, rfl, e2, e3⟩ | ⟨e1, f, rfl⟩ | ⟨g, kv, e1, rfl, e2, e3⟩
    · have hb := s.blk g _ e2
      simp only [e1, Option.bind_some]
      cases hl : L g with
      | none => rw [hl] at hb; exact hb
      | some q =>
        rw [hl] at hb
        obtain ⟨cs, e, k1, k2, k3⟩ := hb
        exact ⟨cs, e, k1, k2, fun i hi => let ⟨c, k4, k5⟩ := k3 i hi; ⟨c, k4, Rd.mono (fun b _ hb => hok b hb) ((e3 i hi).rd _ k5)⟩⟩
    · simp only [e1, Option.bind_none]; rfl
    · have hb := s.blk g _ e2
      simp only [e1, Option.bind_some]
      cases hl : L g with
      | none => rw [hl] at hb; exact hb.elim
      | some q =>
        rw [hl] at hb
        obtain ⟨es, clock, k1, k2, k3⟩ := hb
        exact ⟨es, clock, k1, k2, fun i e he => let ⟨a, k4, k5⟩ := k3 i e he; ⟨a, k4, Rd.mono (fun b _ hb => hok b hb) (Rd.plain a _ _ _ (e3 _ (List.mem_of_getElem? k4)) k5)⟩⟩
  · obtain ⟨k, e1, e2⟩ := dec h q hq
    exact s.own k q (live h k hn e1) e2
  · obtain ⟨k1, e1, e2⟩ := dec h q hq
    obtain ⟨k2, e3, e4⟩ := dec g r hr
    have := s.inj k1 k2 q r (live h k1 hn e1) (live g k2 hm e3) e2 e4 e
    subst this
    exact hinj h g k1 hn hm e1 e3
  · rw [hS.free h (by rw [hpn])] at hl; simp at hl
theorem Sub.lay (ρ : Nat → Option Nat) (hpn : N.pn = fun _ => false) (hA : ∀ i c, A'.get i = some c → ∃ a, A.get i = some a ∧ Lay ρ a c)
    (hH : ∀ h B', H' h = some B' → (∃ g n f f', ρ h = some g ∧ B' = .cells n f' ∧ H g = some (.cells n f) ∧ ∀ i, i < n → Lay ρ (f i) (f' i)) ∨ (ρ h = none ∧ ∃ f, B' = .cells 0 f))
    (hinj : ∀ h g k, H' h ≠ none → H' g ≠ none → ρ h = some k → ρ g = some k → h = g) : Sub N A H A' H' :=
  Sub.layM ρ hpn hA (fun h B' hB => (hH h B' hB).elim .inl (fun k => .inr (.inl k))) hinj
theorem lay_nil {ρ : Nat → Option Nat} : ∀ i c, Fr.get [] i = some c → ∃ a, A.get i = some a ∧ Lay ρ a c := fun i c h => by simp [Fr.get] at h
theorem lay_cons {ρ : Nat → Option Nat} {t : Nat} {a : AV} {r : Fr} (h0 : ∃ b, A.get t = some b ∧ Lay ρ b a) (h : ∀ i c, Fr.get r i = some c → ∃ a, A.get i = some a ∧ Lay ρ a c) : ∀ i c, Fr.get ((t, a) :: r) i = some c → ∃ a, A.get i = some a ∧ Lay ρ a c := fun i c e => by
  simp only [Fr.get] at e
  split at e
  · rename_i e1; subst e1; simp only [Option.some.injEq] at e; subst e; exact h0
  · exact h i c e
theorem end_post {P : Program} {fn : Func} {t : Tmp} {a : AV} {post : AV → Hp → Prop} (hr : fn.results.toList = [.tmp t]) (hA : A.get t = some a) (hl : Hp.le H' H) (hp : post a H') : endQ P N fn post .ret A H :=
  ⟨A, H', Sub.mk (fun _ _ h => h) hl, by rw [hr]; simp only [resVC, hA]; exact hp⟩
/-- Each block told in H1 stands in H, and fits what is told of it (the names of D are frozen). -/
def LeF (D : Nat → Prop) (H1 H : Hp) : Prop := ∀ x B, H1 x = some B → ¬ D x ∧ ∃ B', H x = some B' ∧ BFits H D B' B
theorem leF_emp {D : Nat → Prop} : LeF D Hp.emp H := fun x B h => by simp [Hp.emp] at h
theorem leF_upd {D : Nat → Prop} {h : Nat} {B B' : Blk} (k : H h = some B') (e : BFits H D B' B) (r : LeF D H' H) (hD : ¬ D h) : LeF D (H'.upd h B) H := fun x C hC => by
  unfold Hp.upd at hC
  split at hC
  · rename_i e1; subst e1; simp only [Option.some.injEq] at hC; subst hC; exact ⟨hD, B', k, e⟩
  · exact r x C hC
theorem bfE {D : Nat → Prop} {n m : Nat} {f g : Nat → AV} (hn : n = m) (h : ∀ i, i < n → f i = g i) : BFits H D (.cells n f) (.cells m g) := ⟨hn, fun i hi => by rw [h i hi]; exact .refl _⟩
theorem Sub.toLF (hA : Fr.sub A A') (hH : LeF (fun _ => False) H' H) : Sub N A H A' H' := Sub.fits (fun _ => False) (fun i c hc => ⟨c, Fr.sub_get A' A hA i c hc, .refl c⟩) hH
theorem Sub.toFF (D : Nat → Prop) (hA : Fr.fit H D A A') (hH : LeF D H' H) : Sub N A H A' H' := Sub.fits D (Fr.fit_get A' A hA) hH
/-- Each block told in H1 by new names stands in H by old ones. -/
def LayF (ρ : Nat → Option Nat) (H1 H : Hp) : Prop := ∀ h B', H1 h = some B' → (∃ g n f f', ρ h = some g ∧ B' = .cells n f' ∧ H g = some (.cells n f) ∧ ∀ i, i < n → Lay ρ (f i) (f' i)) ∨ (ρ h = none ∧ ∃ f, B' = .cells 0 f) ∨ (∃ g kv, ρ h = some g ∧ B' = .mp kv ∧ H g = some (.mp kv) ∧ ∀ x ∈ kv, x.2.plain)
theorem layF_emp {ρ : Nat → Option Nat} : LayF ρ Hp.emp H := fun x B h => by simp [Hp.emp] at h
theorem layF_upd {ρ : Nat → Option Nat} {h g n : Nat} {f f' : Nat → AV} (e : ρ h = some g) (k : H g = some (.cells n f)) (l : ∀ i, i < n → Lay ρ (f i) (f' i)) (r : LayF ρ H' H) : LayF ρ (H'.upd h (.cells n f')) H := fun x C hC => by
  unfold Hp.upd at hC
  split at hC
  · rename_i e1; subst e1; simp only [Option.some.injEq] at hC; subst hC; exact .inl ⟨g, n, f, f', e, rfl, k, l⟩
  · exact r x C hC
theorem layF_nil {ρ : Nat → Option Nat} {h : Nat} {f' : Nat → AV} (e : ρ h = none) (r : LayF ρ H' H) : LayF ρ (H'.upd h (.cells 0 f')) H := fun x C hC => by
  unfold Hp.upd at hC
  split at hC
  · rename_i e1; subst e1; simp only [Option.some.injEq] at hC; subst hC; exact .inr (.inl ⟨e, f', rfl⟩)
  · exact r x C hC
theorem AC.mono {P : Program} {f : FuncId} {args : List AV} {Hin : Hp} {pn : Nat → Bool} {post post' : AV → Hp → Prop} (h : AC P f args Hin pn post) (hq : ∀ r H, post r H → post' r H) : AC P f args Hin pn post' := by
  refine ⟨h.1, fun S w L vs hS hpin s hargs => (h.2 S w L vs hS hpin s hargs).mono ?_⟩
  rintro e w' ⟨u, L', r, H', rfl, s2, hr, hp⟩
  exact ⟨u, L', r, H', rfl, s2, hr, hq r H' hp⟩
end
end Go.Av
end
/- Regions whose order is open and that lay several new blocks: each operation reads what was there before, or lays a block of its own. -/
section
namespace Go.Av
section
variable {P : Program} {N : Cx} {A : Fr} {H H0 : Hp}

theorem Fits.up {D : Nat → Prop} (hle : Hp.le H0 H) {a c : AV} (h : Fits H0 D a c) : Fits H D a c := by
  induction h with
  | refl a => exact .refl a
  | own h1 h2 h3 h4 _ ih => exact .own (hle _ _ h1) h2 h3 h4 ih
  | list h1 h2 _ ih => exact .list h1 h2 ih
  | nil => exact .nil
  | agg _ ih => exact .agg ih
  | ref h1 h2 h3 h4 _ ih => exact .ref (hle _ _ h1) h2 h3 h4 ih
  | clo _ ih => exact .clo ih
  | tup _ ih => exact .tup ih
  | nonnil h1 _ ih => exact .nonnil h1 ih
  | dead a => exact .dead a
theorem FitsL.up {D : Nat → Prop} (hle : Hp.le H0 H) {l r : List AV} (h : FitsL H0 D l r) : FitsL H D l r := by
  induction h with
  | nil => exact .nil
  | cons h _ ih => exact .cons (h.up hle) ih
variable (P N) in
/-- An operation that reads what was there before (H0), or lays a block of its own; M: what is known of the new blocks when it comes. -/
def opF (d : Nat) (op : Op) (A : Fr) (H0 M : Hp) (K : AV → Option (Nat × Blk) → Prop) : Prop :=
  match op with
  | .buildSlice t len ps => match selOf P t, evParts A ps.toList with
    | some se, some l => Ob ((N.pn d = false ∧ 0 < se.size ∧ len * se.size ≤ 16777216) ∧ fillOk (fun i => some (i * se.size, se.size)) (len * se.size) l)
        (K (.own d 0 se.size len) (some (d, .cells (len * se.size) (fillF (fun i => some (i * se.size, se.size)) l (zF se.zero)))))
    | _, _ => False
  | .makeMap t none => match mapOf P t with
    | some _ => Ob (N.pn d = false) (K (.map d) (some (d, .mp [])))
    | none => False
  | .insert t m k x => withA (A.ev m) fun a => withA (A.ev k) fun b => withA (A.ev x) fun c => match mapOf P t, a, b with
    | some _, .map h, .v (.string s) => (match M h with
      | some (.mp kv) => Ob (kvStr kv = true) (Ob (kvHas s kv = false) (K .dead (some (h, .mp (kv ++ [(.string s, c)])))))
      | _ => False)
    | _, _, _ => False
  | .box _ x => withA (A.ev x) fun a => Ob (N.pn d = false) (match aggOf a with
    | some (n, g) => K (.ref d 0) (some (d, .cells n g))
    | none => Ob (a.one = true) (K (.ref d 0) (some (d, .cells 1 fun _ => a))))
  | .alloc t => match tyOf P t with
    | some ty => Ob (N.pn d = false) (K (.ref d 0) (some (d, .cells ty.size (zF ty.zero))))
    | none => False
  | op => opQ P N d op A H0 fun r => K r none

section
variable {bs : List (Option (Nat × Blk))} {li li' : Nat → Bool}
end
def bad (tg a : List Nat) (h : Nat) : Bool := tg.contains h && !a.contains h
def badB (tg a : List Nat) (d h : Nat) : Bool := tg.contains h && (!a.contains h || h == d)
variable (P N) in
/-- The free part, read in its order. -/
def opsF (tg : List Nat) (Q : Fr → Hp → Prop) : List Oper → List (List Nat) → Fr → Hp → Hp → Prop
  | [], _, A, _, M => Q A M
  | o :: l, an, A, H0, M => opF P N (o.dst.getD 0) o.op A H0 M fun r b => Ob (r.scrub (bad tg (an.headD [])) = r) (match b with
    | none => opsF tg Q l an.tail (putd o.dst r A) H0 M
    | some (d, B) => Ob ((an.headD []).contains d = true ∧ B.scrub (badB tg (an.headD []) d) = B) (opsF tg Q l an.tail (putd o.dst r A) H0 (M.upd d B)))
section
variable (d : Nat) (A : Fr) (H0 M : Hp) (K : AV → Option (Nat × Blk) → Prop)
theorem opF_move (x : Operand) : opF P N d (.move x) A H0 M K = opQ P N d (.move x) A H0 fun r => K r none := rfl
theorem opF_load (t : TypeId) (x : Operand) : opF P N d (.load t x) A H0 M K = opQ P N d (.load t x) A H0 fun r => K r none := rfl
theorem opF_fieldAddr (t : TypeId) (x : Operand) (i : Nat) : opF P N d (.fieldAddr t x i) A H0 M K = opQ P N d (.fieldAddr t x i) A H0 fun r => K r none := rfl
theorem opF_indexAddr (t : TypeId) (x y : Operand) : opF P N d (.indexAddr t x y) A H0 M K = opQ P N d (.indexAddr t x y) A H0 fun r => K r none := rfl
theorem opF_nilCheck (x : Operand) : opF P N d (.nilCheck x) A H0 M K = opQ P N d (.nilCheck x) A H0 fun r => K r none := rfl
theorem opF_call (c : Call) : opF P N d (.call c) A H0 M K = opQ P N d (.call c) A H0 fun r => K r none := rfl
theorem opF_binOp (o : BinOp) (t : TypeId) (x y : Operand) (u : TypeId) : opF P N d (.binOp o t x y u) A H0 M K = opQ P N d (.binOp o t x y u) A H0 fun r => K r none := rfl
theorem opF_build (t : TypeId) (ps : Array (Nat × Operand)) : opF P N d (.build t ps) A H0 M K = opQ P N d (.build t ps) A H0 fun r => K r none := rfl
theorem opF_bs (t : TypeId) (len : Nat) (ps : Array (Nat × Operand)) : opF P N d (.buildSlice t len ps) A H0 M K = (match selOf P t, evParts A ps.toList with
    | some se, some l => Ob ((N.pn d = false ∧ 0 < se.size ∧ len * se.size ≤ 16777216) ∧ fillOk (fun i => some (i * se.size, se.size)) (len * se.size) l)
        (K (.own d 0 se.size len) (some (d, .cells (len * se.size) (fillF (fun i => some (i * se.size, se.size)) l (zF se.zero)))))
    | _, _ => False) := rfl
theorem opF_mk (t : TypeId) : opF P N d (.makeMap t none) A H0 M K = (match mapOf P t with
    | some _ => Ob (N.pn d = false) (K (.map d) (some (d, .mp [])))
    | none => False) := rfl
theorem opF_ins (t : TypeId) (m k x : Operand) : opF P N d (.insert t m k x) A H0 M K = (withA (A.ev m) fun a => withA (A.ev k) fun b => withA (A.ev x) fun c => match mapOf P t, a, b with
    | some _, .map h, .v (.string s) => (match M h with
      | some (.mp kv) => Ob (kvStr kv = true) (Ob (kvHas s kv = false) (K .dead (some (h, .mp (kv ++ [(.string s, c)])))))
      | _ => False)
    | _, _, _ => False) := rfl
theorem opF_box (t : TypeId) (x : Operand) : opF P N d (.box t x) A H0 M K = (withA (A.ev x) fun a => Ob (N.pn d = false) (match aggOf a with
    | some (n, g) => K (.ref d 0) (some (d, .cells n g))
    | none => Ob (a.one = true) (K (.ref d 0) (some (d, .cells 1 fun _ => a))))) := rfl
theorem opF_alloc (t : TypeId) : opF P N d (.alloc t) A H0 M K = (match tyOf P t with
    | some ty => Ob (N.pn d = false) (K (.ref d 0) (some (d, .cells ty.size (zF ty.zero))))
    | none => False) := rfl
theorem opsF_nil (tg : List Nat) (Q : Fr → Hp → Prop) (an : List (List Nat)) : opsF P N tg Q [] an A H0 M = Q A M := rfl
theorem opsF_some (tg : List Nat) (Q : Fr → Hp → Prop) (op : Op) (ty : TypeId) (pos : String) (aft : Array Edge) (l : List Oper) (a : List Nat) (an : List (List Nat)) : opsF P N tg Q (⟨some d, op, ty, pos, aft, none⟩ :: l) (a :: an) A H0 M = opF P N d op A H0 M fun r b => Ob (r.scrub (bad tg a) = r) (match b with
    | none => opsF P N tg Q l an ((d, r) :: A) H0 M
    | some (d', B) => Ob (a.contains d' = true ∧ B.scrub (badB tg a d') = B) (opsF P N tg Q l an ((d, r) :: A) H0 (M.upd d' B))) := rfl
theorem opsF_none (tg : List Nat) (Q : Fr → Hp → Prop) (op : Op) (ty : TypeId) (pos : String) (aft : Array Edge) (l : List Oper) (a : List Nat) (an : List (List Nat)) : opsF P N tg Q (⟨none, op, ty, pos, aft, none⟩ :: l) (a :: an) A H0 M = opF P N 0 op A H0 M fun r b => Ob (r.scrub (bad tg a) = r) (match b with
    | none => opsF P N tg Q l an A H0 M
    | some (d', B) => Ob (a.contains d' = true ∧ B.scrub (badB tg a d') = B) (opsF P N tg Q l an A H0 (M.upd d' B))) := rfl
end
attribute [go_sem ↓] opF_move opF_load opF_fieldAddr opF_indexAddr opF_nilCheck opF_call opF_binOp opF_build opF_bs opF_mk opF_ins opF_box opF_alloc opsF_nil opsF_some opsF_none
end
end Go.Av
end
/- Results that stand over blocks of our own; calls that read such blocks. -/
section
namespace Go.Av
section
variable {N : Cx} {A A' : Fr} {H H' : Hp}
theorem end_tup2 {P : Program} {fn : Func} {t u : Tmp} {a b : AV} {post : AV → Hp → Prop} (hr : fn.results.toList = [.tmp t, .tmp u]) (htu : t ≠ u) (s : Sub N A H [(t, a), (u, b)] H') (hp : post (.tup 2 (vecF [a, b])) H') : endQ P N fn post .ret A H :=
  ⟨_, _, s, by rw [hr]; simp only [resVC, Fr.get, if_true, withA_some, htu, if_false]; exact hp⟩
/-- Names that a contract's results may bear. -/
def pM (h : Nat) : Bool := decide (1000000 ≤ h)
theorem pM_low {h : Nat} (hh : h < 1000000) : pM h = false := by simp [pM]; omega
theorem pM_high {h : Nat} (hh : 1000000 ≤ h) : pM h = true := by simp [pM, hh]
/-- A call that hands back a result over blocks of its own. -/
theorem callHp {P : Program} {f : FuncId} {args : List AV} {pn : Nat → Bool} {post : AV → Hp → Prop} {K : AV → Fr → Hp → Prop} (hac : AC P f args Hp.emp pn post) (hpn : N.pn = fun _ => false)
    (hK : ∀ r H', post r H' → (∀ h, H' h ≠ none → 1000000 ≤ h) ∧ r.scrub (fun h => !liveB H' h) = r ∧ H'.scrub (fun h => !liveB H' h) = H' ∧ K r (A.scrub pM) (H'.add (H.scrub pM))) : CallG P N f args A H K := by
  refine callG_of hac pM false (by simp [Hp.emp]) (FitsL.refl _) (fun _ => rfl) (by simp [Hp.emp]) (by simp [hpn]) ?_
  intro r H' hp
  obtain ⟨h1, h2, h3, h4⟩ := hK r H' hp
  refine ⟨fun h hn _ => pM_high (h1 h hn), by simp, ?_⟩
  rw [h2, h3]
  have e : Hp.over H' (H.scrub pM) Hp.emp = H'.add (H.scrub pM) := by
    funext h
    unfold Hp.over Hp.add
    cases H' h with
    | some B => rfl
    | none => simp [Hp.emp]
  rw [e]; exact h4
theorem upd_add (X R : Hp) (h : Nat) (B : Blk) : (X.upd h B).add R = (X.add R).upd h B := by
  funext g
  unfold Hp.add Hp.upd
  by_cases e : g = h <;> simp [e]
theorem emp_add (R : Hp) : Hp.emp.add R = R := rfl
end
end Go.Av
end
/- Calls that read pinned blocks, and hand back new rows beside them. -/
section
namespace Go.Av
section
variable {P : Program} {N : Cx} {A : Fr} {H : Hp}
end
end Go.Av
end
/- Rows of rows, a row and a bool handed back at once. -/
section
namespace Go.Av
def nIIB (d e h : Nat) : Bool := famB d h || h == e
theorem nIIB_lit {d e h : Nat} (hh : h < 2097152) (h1 : h ≠ d) (h2 : h ≠ e) : nIIB d e h = false := by
  unfold nIIB
  rw [famB_lit hh, beq_eq_false_iff_ne.2 h1, beq_eq_false_iff_ne.2 h2]; rfl
theorem nIIB_d {d e : Nat} : nIIB d e d = true := by unfold nIIB famB; simp
theorem nIIB_e {d e : Nat} : nIIB d e e = true := by unfold nIIB; simp
section
variable {P : Program} {N : Cx} {A : Fr} {H : Hp}
theorem Hp.scrub_IIB {d e g k n : Nat} {xss : List (List Int)} (hd : d < 2097152) (he : e < 2097152) (_hg : g < 2097152) (hk : k ≤ 2097152) (hne : g ≠ d) (_hne2 : g ≠ e) : ((PR g xss k n).add H).scrub (nIIB d e) = (PR g xss k n).add (H.scrub (nIIB d e)) := by
  have hs : ∀ i, i < k → nIIB d e (sub g i) = false := fun i hi => by
    have h1 := sub_ge g i; rw [FB_eq] at h1
    have h2 : i < FB := by rw [FB_eq]; omega
    have h3 : sub g i ≠ e := by omega
    have h4 : sub g i ≠ d := by omega
    simp [nIIB, famB, h3, h4, sub_div h2, hne]
  funext x
  simp only [Hp.scrub, Hp.add]
  cases hx : (PR g xss k n) x with
  | none => rfl
  | some B =>
    simp only [Option.map_some, Option.some.injEq]
    unfold PR at hx
    split at hx
    · simp only [Option.some.injEq] at hx; subst hx
      simp only [Blk.scrub]
      congr 1
      funext i
      exact mixF_plain_scrub hs i
    · split at hx
      · simp only [Option.some.injEq] at hx; subst hx; rfl
      · simp at hx
end
attribute [go_sem] nIIB_lit nIIB_d nIIB_e Hp.scrub_IIB
end Go.Av
end
/- Regions of open order: the first operations in any order, then a sequence, and a last operation that sets a constant, anywhere. -/
section
namespace Go.Av
section
variable {P : Program} {N : Cx} {A : Fr} {H : Hp}
variable (P N) in
end
end Go.Av
end
/- Dice and sources: a struct of bytes, a place and a number, pinned; calls that throw them. -/
section
namespace Go.Av
/-- Dice: the code's bytes, how many are used up, a number. -/
structure Dc where
  xs : List Int
  i : Nat
  h : Int
  hi : i ≤ xs.length
  hx : ∀ j, 0 ≤ xs.getD j 0 ∧ xs.getD j 0 ≤ 255
  hl : xs.length ≤ 4096
def u8v (n : Int) : AV := .v (.int .u8 n)
abbrev bts (xs : List Int) : AV := .list false 1 xs.length (cM u8v 0 xs)
def dF (k : IntKind) (d : Dc) : Nat → AV := vecF [bts d.xs, .v (.int .i64 (d.i)), .v (.int k d.h)]
@[go_sem] theorem scF_dF (p : Nat → Bool) (k : IntKind) (d : Dc) : scF p (dF k d) = dF k d := by
  unfold dF; rw [scF_vecF]; rfl
def DH (k : IntKind) (d : Dc) : Hp := Hp.emp.upd 1000000 (.cells 3 (dF k d))
/-- Dice again, and a result. -/
def postD (k : IntKind) (Q : AV → Prop) (r : AV) (H : Hp) : Prop := ∃ d : Dc, Q r ∧ H = DH k d
section
variable {P : Program} {N : Cx} {A A' : Fr} {H H' : Hp}
/-- Names turned, those that stay left where they are. -/
theorem Sub.layMp (ρ : Nat → Option Nat) (hpn : ∀ h, N.pn h = true → ρ h = some h) (hA : ∀ i c, A'.get i = some c → ∃ a, A.get i = some a ∧ Lay ρ a c)
    (hH : ∀ h B', H' h = some B' → (∃ g n f f', ρ h = some g ∧ B' = .cells n f' ∧ H g = some (.cells n f) ∧ ∀ i, i < n → Lay ρ (f i) (f' i)) ∨ (ρ h = none ∧ ∃ f, B' = .cells 0 f) ∨ (∃ g kv, ρ h = some g ∧ B' = .mp kv ∧ H g = some (.mp kv) ∧ ∀ x ∈ kv, x.2.plain))
    (hinj : ∀ h g k, H' h ≠ none → H' g ≠ none → ρ h = some k → ρ g = some k → h = g) : Sub N A H A' H' := by
  intro w0 S hS w tm L s
  have live : ∀ h k, H' h ≠ none → ρ h = some k → H k ≠ none := by
    intro h k hn e
    cases hB : H' h with
    | none => exact absurd hB hn
    | some B =>
      rcases hH h B hB with ⟨g, n, f, f', e1, _, e2, _⟩ | ⟨e1, _⟩ | ⟨g, kv, e1, _, e2, _⟩
      · rw [e] at e1; simp only [Option.some.injEq] at e1; subst e1; rw [e2]; simp
      · rw [e] at e1; simp at e1
      · rw [e] at e1; simp only [Option.some.injEq] at e1; subst e1; rw [e2]; simp
  have dec : ∀ h q, ((ρ h).bind L) = some q → ∃ k, ρ h = some k ∧ L k = some q := by
    intro h q hq
    cases e : ρ h with
    | none => rw [e] at hq; simp at hq
    | some k => rw [e] at hq; exact ⟨k, rfl, hq⟩
  have hok : ∀ b, okb S H L b → okb S H' (fun h => (ρ h).bind L) b := fun b hb => ⟨hb.1, fun h q hn hq => by
    obtain ⟨k, e1, e2⟩ := dec h q hq
    exact hb.2 k q (live h k hn e1) e2⟩
  refine ⟨fun h => (ρ h).bind L, s.keep, s.size, fun i c hc => ?_, fun h B hB => ?_, fun h q hn hq => ?_, fun h g q r hn hm hq hr e => ?_, fun h l hl => ?_⟩
  · obtain ⟨a, h1, h2⟩ := hA i c hc
    exact Rd.mono (fun b _ hb => hok b hb) (h2.rd _ (s.slot i a h1))
  · rcases hH h B hB with ⟨g, n, f, f', e1, rfl, e2, e3⟩ | ⟨e1, f, rfl⟩ | ⟨g, kv, e1, rfl, e2, e3⟩
    · have hb := s.blk g _ e2
      simp only [e1, Option.bind_some]
      cases hl : L g with
      | none => rw [hl] at hb; exact hb
      | some q =>
        rw [hl] at hb
        obtain ⟨cs, e, k1, k2, k3⟩ := hb
        exact ⟨cs, e, k1, k2, fun i hi => let ⟨c, k4, k5⟩ := k3 i hi; ⟨c, k4, Rd.mono (fun b _ hb => hok b hb) ((e3 i hi).rd _ k5)⟩⟩
    · simp only [e1, Option.bind_none]; rfl
    · have hb := s.blk g _ e2
      simp only [e1, Option.bind_some]
      cases hl : L g with
      | none => rw [hl] at hb; exact hb.elim
      | some q =>
        rw [hl] at hb
        obtain ⟨es, clock, k1, k2, k3⟩ := hb
        exact ⟨es, clock, k1, k2, fun i e he => let ⟨a, k4, k5⟩ := k3 i e he; ⟨a, k4, Rd.mono (fun b _ hb => hok b hb) (Rd.plain a _ _ _ (e3 _ (List.mem_of_getElem? k4)) k5)⟩⟩
  · obtain ⟨k, e1, e2⟩ := dec h q hq
    exact s.own k q (live h k hn e1) e2
  · obtain ⟨k1, e1, e2⟩ := dec h q hq
    obtain ⟨k2, e3, e4⟩ := dec g r hr
    have := s.inj k1 k2 q r (live h k1 hn e1) (live g k2 hm e3) e2 e4 e
    subst this
    exact hinj h g k1 hn hm e1 e3
  · cases e : N.pn h with
    | false => rw [hS.free h e] at hl; simp at hl
    | true => show (ρ h).bind L = l; rw [hpn h e]; exact s.pin h l hl
/-- A call that throws dice. -/
theorem callD {f : FuncId} {args : List AV} {k : IntKind} {d : Dc} {Q : AV → Prop} {K : AV → Fr → Hp → Prop} (hH : H 1000000 = some (.cells 3 (dF k d))) (hac : AC P f args (DH k d) pM (postD k Q)) (hQ : ∀ r, Q r → ∀ p, r.scrub p = r)
    (hK : ∀ r d', Q r → K r A (H.upd 1000000 (.cells 3 (dF k d')))) : CallG P N f args A H K := by
  have hle : Hp.le (DH k d) H := Hp.le_upd hH (Hp.le_emp _)
  have hpm : ∀ h, DH k d h ≠ none → h = 1000000 := fun h hn => by
    unfold DH Hp.upd at hn
    by_cases e : h = 1000000
    · exact e
    · rw [if_neg e] at hn; exact absurd rfl hn
  refine callG_of hac (fun _ => false) false hle (FitsL.refl _) (fun _ => rfl) (fun h hn _ => by rw [hpm h hn]; rfl) (by simp) ?_
  rintro r H' ⟨d', hq, rfl⟩
  have hsame : ∀ h, DH k d' h ≠ none → h = 1000000 := fun h hn => by
    unfold DH Hp.upd at hn
    by_cases e : h = 1000000
    · exact e
    · rw [if_neg e] at hn; exact absurd rfl hn
  refine ⟨fun h h1 h2 => ?_, by simp, ?_⟩
  · rw [hsame h h1] at h2; exact absurd h2 (by unfold DH Hp.upd; simp)
  rw [hQ r hq, Fr.scrub_none, Hp.scrub_none]
  have e : Hp.over ((DH k d').scrub fun h => !liveB (DH k d') h) H (DH k d) = H.upd 1000000 (.cells 3 (dF k d')) := by
    unfold DH
    rw [Hp.scrub_upd, Blk.scrub_cells, scF_dF]
    funext h
    unfold Hp.over Hp.upd
    by_cases e : h = 1000000
    · simp only [if_pos e]
    · simp only [if_neg e]
      simp [Hp.scrub, Hp.emp]
  rw [e]; exact hK r d' hq
theorem end_postS {fn : Func} {t : Tmp} {a : AV} {H' : Hp} {post : AV → Hp → Prop} (hr : fn.results.toList = [.tmp t]) (s : Sub N A H [(t, a)] H') (hp : post a H') : endQ P N fn post .ret A H :=
  ⟨_, _, s, by rw [hr]; simp only [resVC, Fr.get, if_true]; exact hp⟩
/-- A call that makes dice. -/
theorem callRoll {f : FuncId} {args : List AV} {k : IntKind} {pn : Nat → Bool} {K : AV → Fr → Hp → Prop} (hac : AC P f args Hp.emp pn (postD k fun r => r = .ref 1000000 0)) (hpn : N.pn = fun _ => false) (hK : ∀ d, K (.ref 1000000 0) (A.scrub pM) ((H.scrub pM).upd 1000000 (.cells 3 (dF k d)))) : CallG P N f args A H K := by
  refine callHp hac hpn fun r H' hp => ?_
  obtain ⟨d, rfl, rfl⟩ := hp
  have hl : liveB (DH k d) 1000000 = true := rfl
  refine ⟨fun h hn => ?_, ?_, ?_, ?_⟩
  · unfold DH Hp.upd at hn
    by_cases e : h = 1000000
    · omega
    · rw [if_neg e] at hn; exact absurd rfl hn
  · simp [AV.scrub, hl]
  · unfold DH
    rw [Hp.scrub_upd, Blk.scrub_cells, scF_dF]
    rfl
  · have e : (DH k d).add (H.scrub pM) = (H.scrub pM).upd 1000000 (.cells 3 (dF k d)) := by
      unfold DH; rw [upd_add, emp_add]
    rw [e]; exact hK d
end
end Go.Av
end
/- Regions of open order with one call that writes blocks of its own: what comes behind it may come in any order. -/
section
namespace Go.Av
section
variable {P : Program} {N : Cx} {H : Hp}
variable {Kd : AV → Hp → Prop}
variable (P N) in
/-- A call that leaves the frame as it is, whatever that is. -/
def CallDP (f : FuncId) (args : List AV) (H : Hp) (K : AV → Hp → Prop) : Prop := ∀ B : Fr, CallG P N f args B H fun r A' H' => A' = B ∧ K r H'
theorem CallDP_congr (f : FuncId) (args args' : List AV) (H H' : Hp) (K : AV → Hp → Prop) (h1 : args = args') (h2 : H = H') : CallDP P N f args H K = CallDP P N f args' H' K := by subst h1 h2; rfl
variable (P N) in
def pivD (op : Op) (A : Fr) (H : Hp) (K : AV → Hp → Prop) : Prop :=
  match op with
  | .call { callee := .value f, args, argTypes := _ } => (match calleeOf (A.ev f) with
    | some (g, caps) => withArgs (evArgs A args.toList) fun l => CallDP P N g (l ++ caps) H K
    | none => False)
  | _ => False
variable (P N) in
def opsD (nf m : Nat) (Q : Fr → Hp → Prop) (l : List Oper) (A : Fr) (H : Hp) : Prop :=
  match l.drop m with
  | o :: lr => opsQ P N (l.map (·.dst)) (fun A1 => pivD P N o.op A1 H fun r H' =>
      opsQ P N (l.map (·.dst)) (fun A2 => Ob (sameG A2 A1 ((l.take nf).map (·.dst))) (opsQ P N (l.map (·.dst)) (fun A3 => Q A3 H') lr (putd o.dst r A1) H')) (l.take nf) A H') (l.take m) A H
  | [] => False
theorem getD_left {xs ys : List AV} {k : Nat} (h : k < xs.length) : (xs ++ ys).getD k .dead = xs.getD k .dead := by
  simp [List.getD_eq_getElem?_getD, List.getElem?_append, h]
end
attribute [congr] CallDP_congr
attribute [go_sem] opsD pivD
end Go.Av
end
/- Sources: calls that draw and hand back a row of their own; rows cut shorter. -/
section
namespace Go.Av
/-- A source, and a new row of our own. -/
def postDI {α : Type} (g : α → AV) (z : α) (k : IntKind) (e : Nat) (Q : List α → Prop) (r : AV) (H : Hp) : Prop := ∃ (d : Dc) (xs : List α), Q xs ∧ r = .own e 0 1 xs.length ∧ H = (DH k d).upd e (.cells xs.length (cM g z xs))
section
variable {P : Program} {N : Cx} {A A' : Fr} {H H' : Hp}
theorem Sub.shrink {h n m : Nat} {f : Nat → AV} (hH : H h = some (.cells n f)) (hm : m ≤ n) : Sub N A H A (H.upd h (.cells m f)) := by
  intro w0 S hS w tm L s
  have nn : ∀ x, (H.upd h (.cells m f)) x ≠ none → H x ≠ none := fun x hx => by
    unfold Hp.upd at hx
    by_cases e : x = h
    · subst e; rw [hH]; simp
    · rwa [if_neg e] at hx
  have ok : ∀ b, okb S H L b → okb S (H.upd h (.cells m f)) L b := fun b hb => ⟨hb.1, fun x q hx hq => hb.2 x q (nn x hx) hq⟩
  refine ⟨L, s.keep, s.size, fun i a hi => Rd.mono (fun b _ hb => ok b hb) (s.slot i a hi), fun x B hB => ?_, fun x q hx hq => s.own x q (nn x hx) hq, fun x y q r hx hy => s.inj x y q r (nn x hx) (nn y hy), s.pin⟩
  unfold Hp.upd at hB
  split at hB
  · rename_i e; subst e
    simp only [Option.some.injEq] at hB; subst hB
    have hb := s.blk x _ hH
    cases hl : L x with
    | none => rw [hl] at hb; simp only [BlkOk] at hb ⊢; omega
    | some q =>
      rw [hl] at hb
      obtain ⟨cs, e, k1, k2, k3⟩ := hb
      exact ⟨cs, e, k1, by omega, fun i hi => let ⟨c, k4, k5⟩ := k3 i (by omega); ⟨c, k4, Rd.mono (fun b _ hb => ok b hb) k5⟩⟩
  · have hb := s.blk x B hB
    have := BlkOk.step (w := w) (w' := w) (wh := w) (wh' := w) (ok := okb S H L) (ok' := okb S (H.upd h (.cells m f)) L) (L := L) (L' := L) (p := fun _ => false) (fun b _ hb => ⟨ok b hb, rfl⟩) (Shape.refl w) (fun _ _ => rfl) (fun _ _ => rfl) hb
    rwa [Blk.scrub_none] at this
/-- A call that draws and hands back a row of its own. -/
theorem callDI {α : Type} {g : α → AV} {z : α} {f : FuncId} {args : List AV} {k : IntKind} {d : Dc} {e : Nat} {Q : List α → Prop} {K : AV → Fr → Hp → Prop} (hH : H 1000000 = some (.cells 3 (dF k d))) (hac : AC P f args (DH k d) pM (postDI g z k e Q)) (hg : ∀ x p, (g x).scrub p = g x) (he : e ≠ 1000000) (hpn : N.pn e = false)
    (hK : ∀ d' xs, Q xs → K (.own e 0 1 xs.length) (A.scrub (· == e)) (((H.scrub (· == e)).upd 1000000 (.cells 3 (dF k d'))).upd e (.cells xs.length (cM g z xs)))) : CallG P N f args A H K := by
  have hle : Hp.le (DH k d) H := Hp.le_upd hH (Hp.le_emp _)
  have hpm : ∀ h, DH k d h ≠ none → h = 1000000 := fun h hn => by
    unfold DH Hp.upd at hn
    by_cases e : h = 1000000
    · exact e
    · rw [if_neg e] at hn; exact absurd rfl hn
  refine callG_of hac (· == e) false hle (FitsL.refl _) (fun _ => rfl) (fun h hn _ => by rw [hpm h hn]; rfl) (fun h hh => ?_) ?_
  · by_cases e2 : h = e
    · subst e2; rw [hpn] at hh; cases hh
    · simp [e2]
  rintro r H' ⟨d', xs, hq, rfl, rfl⟩
  have hl : liveB ((DH k d').upd e (.cells xs.length (cM g z xs))) e = true := by simp [liveB, Hp.upd]
  have hcs : ∀ p, scF p (cM g z xs) = cM g z xs := fun p => by funext i; exact hg _ p
  refine ⟨fun h h1 h2 => ?_, by simp, ?_⟩
  · by_cases e2 : h = e
    · simp [e2]
    · have h3 : DH k d' h ≠ none := by unfold Hp.upd at h1; rwa [if_neg e2] at h1
      rw [hpm h (by
        have h4 : h = 1000000 := by
          unfold DH Hp.upd at h3
          by_cases e : h = 1000000
          · exact e
          · rw [if_neg e] at h3; exact absurd rfl h3
        rw [h4]; unfold DH Hp.upd; simp)] at h2
      exact absurd h2 (by unfold DH Hp.upd; simp)
  have e1 : (AV.own e 0 1 xs.length).scrub (fun h => !liveB ((DH k d').upd e (.cells xs.length (cM g z xs))) h) = .own e 0 1 xs.length := by simp [AV.scrub, hl]
  have e2 : Hp.over (((DH k d').upd e (.cells xs.length (cM g z xs))).scrub fun h => !liveB ((DH k d').upd e (.cells xs.length (cM g z xs))) h) (H.scrub (· == e)) (DH k d) = ((H.scrub (· == e)).upd 1000000 (.cells 3 (dF k d'))).upd e (.cells xs.length (cM g z xs)) := by
    unfold DH
    rw [Hp.scrub_upd, Hp.scrub_upd, Blk.scrub_cells, Blk.scrub_cells, scF_dF, hcs]
    funext h
    unfold Hp.over Hp.upd
    by_cases h1 : h = e
    · simp only [if_pos h1]
    · simp only [if_neg h1]
      by_cases h2 : h = 1000000
      · simp only [if_pos h2]
      · simp only [if_neg h2]
        simp [Hp.scrub, Hp.emp]
  rw [e1, e2]; exact hK d' xs hq
theorem end_DI {α : Type} {g : α → AV} {z : α} {k : IntKind} {e e' : Nat} {fn : Func} {t : Tmp} {d : Dc} {xs : List α} {n : Nat} {f : Nat → AV} {Q : List α → Prop} (hr : fn.results.toList = [.tmp t]) (hA : A.get t = some (.own e' 0 1 n)) (hd : H 1000000 = some (.cells 3 (dF k d))) (hH : H e' = some (.cells n f)) (hn : n = xs.length) (hf : ∀ i, i < n → f i = cM g z xs i)
    (hpn : N.pn = pM) (he : e < 1000000) (he' : e' ≠ 1000000) (hp : ∀ x, (g x).plain) (hq : Q xs) : endQ P N fn (postDI g z k e Q) .ret A H := by
  subst hn
  refine end_postS (a := .own e 0 1 xs.length) (H' := (DH k d).upd e (.cells xs.length (cM g z xs))) hr (Sub.layMp (fun h => if h = e then some e' else some h) (fun h hh => ?_) (lay_cons ⟨_, hA, .own (by simp)⟩ lay_nil) ?_ (fun x y j hx hy h1 h2 => ?_)) ⟨d, xs, hq, rfl, rfl⟩
  · rw [hpn] at hh
    have : h ≠ e := fun e2 => by rw [e2] at hh; rw [pM_low (by omega)] at hh; cases hh
    exact if_neg this
  · refine layF_upd (g := e') (f := f) (by simp) hH (fun i hi => ?_) (layF_upd (g := 1000000) (n := 3) (by rw [if_neg (by omega)]) hd (fun i hi => ?_) layF_emp)
    · rw [hf i hi]; exact .plain (hp _)
    · match i, hi with
      | 0, _ => exact .plain trivial
      | 1, _ => exact .plain trivial
      | 2, _ => exact .plain trivial
  · have live : ∀ x, ((DH k d).upd e (.cells xs.length (cM g z xs))) x ≠ none → x = e ∨ x = 1000000 := fun x hx => by
      unfold DH Hp.upd at hx
      by_cases e1 : x = e
      · exact .inl e1
      · rw [if_neg e1] at hx
        by_cases e2 : x = 1000000
        · exact .inr e2
        · rw [if_neg e2] at hx; exact absurd rfl hx
    rcases live x hx with rfl | rfl <;> rcases live y hy with rfl | rfl
    · rfl
    · rw [if_pos rfl] at h1; rw [if_neg (by omega)] at h2
      simp only [Option.some.injEq] at h1 h2; omega
    · rw [if_neg (by omega)] at h1; rw [if_pos rfl] at h2
      simp only [Option.some.injEq] at h1 h2; omega
    · rfl
/-- The end of a function that draws, its result frozen. -/
theorem end_DF {k : IntKind} {fn : Func} {t : Tmp} {d : Dc} {D : Nat → Prop} {a b : AV} {Q : AV → Prop} (hr : fn.results.toList = [.tmp t]) (hA : A.get t = some a) (hd : H 1000000 = some (.cells 3 (dF k d))) (hf : Fits H D a b) (hD : ¬ D 1000000) (hq : Q b) : endQ P N fn (postD k Q) .ret A H :=
  end_postS (a := b) (H' := DH k d) hr (Sub.toFF D (Fr.fit_cons hA hf (Fr.fit_nil _)) (leF_upd hd (.refl _ _ _) leF_emp hD)) ⟨d, hq, rfl⟩
end
end Go.Av
end
/- Calls whose result is told by a property, and that leave nothing. -/
section
namespace Go.Av
/-- A result with Q, and nothing of our own. -/
def postX (Q : AV → Prop) (r : AV) (H : Hp) : Prop := Q r ∧ H = Hp.emp
section
variable {P : Program} {N : Cx} {A A' : Fr} {H H' : Hp}
theorem callX {f : FuncId} {args : List AV} {pn : Nat → Bool} {Q : AV → Prop} {K : AV → Fr → Hp → Prop} (hac : AC P f args Hp.emp pn (postX Q)) (hQ : ∀ r, Q r → ∀ p, r.scrub p = r) (hK : ∀ r, Q r → K r A H) : CallG P N f args A H K := by
  refine callG_of hac (fun _ => false) false (by simp [Hp.emp]) (FitsL.refl _) (fun _ => rfl) (by simp [Hp.emp]) (by simp) ?_
  rintro r H' ⟨hq, rfl⟩
  refine ⟨fun h h1 => absurd rfl h1, by simp, ?_⟩
  rw [hQ r hq, Fr.scrub_none, Hp.scrub_none]
  have e : Hp.over (Hp.emp.scrub fun h => !liveB Hp.emp h) H Hp.emp = H := by
    funext h; simp [Hp.over, Hp.scrub, Hp.emp]
  rw [e]; exact hK r hq
theorem endQ_sub {fn : Func} {post : AV → Hp → Prop} (s : Sub N A H A' H') (h : endQ P N fn post .ret A' H') : endQ P N fn post .ret A H :=
  let ⟨A2, H2, s2, h2⟩ := h
  ⟨A2, H2, s.trans s2, h2⟩
theorem end_X {fn : Func} {t : Tmp} {a b : AV} {Q : AV → Prop} (hr : fn.results.toList = [.tmp t]) (hA : A.get t = some a) (hf : Fits H (fun _ => True) a b) (hq : Q b) : endQ P N fn (postX Q) .ret A H :=
  end_postS (a := b) (H' := Hp.emp) hr (Sub.toFF (fun _ => True) (Fr.fit_cons hA hf (Fr.fit_nil _)) leF_emp) ⟨hq, rfl⟩
theorem end_X2 {fn : Func} {t u : Tmp} {a b a' b' : AV} {Q : AV → Prop} (hr : fn.results.toList = [.tmp t, .tmp u]) (htu : t ≠ u) (hA : A.get t = some a) (hB : A.get u = some a') (hf : Fits H (fun _ => True) a b) (hf' : Fits H (fun _ => True) a' b') (hq : Q (.tup 2 (vecF [b, b']))) : endQ P N fn (postX Q) .ret A H :=
  end_tup2 (H' := Hp.emp) hr htu (Sub.toFF (fun _ => True) (Fr.fit_cons hA hf (Fr.fit_cons hB hf' (Fr.fit_nil _))) leF_emp) ⟨hq, rfl⟩
end
end Go.Av
end
/- From a law's contract over abstract values to its row: how Go's data read. -/
section
namespace Go.Av
open Go.ChangeShapes Go.WideShapes Go.ChangeAt Go.RowKit

section
variable {P : Program} {H : Type} {enc : TypeId × Value → H} {w : World} {base : Nat} {spare : Nat → Bool} {held : Bool} {L : Loc}

/-- Every block may be read. -/
abbrev All : Nat → Prop := fun _ => True

theorem law_calls {f : FuncId} {args : List AV} {vs : Array Value} (hac : AC P f args Hp.emp (fun _ => false) (retV (.v (.bool true)))) (hr : RdArgs w All (fun _ => none) args vs) :
    Calls P f vs w fun e w' => e = .returned (.bool true) ∧ Below w.heap.size w w' := by
  let S : Rg := ⟨fun b => w.heap.size ≤ b, fun _ => True, fun _ _ => trivial, fun _ => none⟩
  have s0 : Sim 0 w S w #[] (fun _ => none) [] Hp.emp := ⟨Keep.refl w _, rfl, fun i a h => by simp [Fr.get] at h, fun h B hB => by simp [Hp.emp] at hB, fun h q hn => by simp [Hp.emp] at hn, fun h g q r hn => by simp [Hp.emp] at hn, fun h l hl => by simp [S] at hl⟩
  refine (hac.2 S w (fun _ => none) vs (fun b h => h) (fun h _ => rfl) s0 ⟨hr.1, fun i a hi => ?_⟩).mono ?_
  · obtain ⟨u, k1, k2⟩ := hr.2 i a hi
    exact ⟨u, k1, Rd.mono (fun b _ _ => ⟨trivial, fun h q hn => by simp [Hp.emp] at hn⟩) k2⟩
  · rintro e w' ⟨u, L', r, H', rfl, s2, hr, rfl, rfl⟩
    have hu : u = .bool true := hr
    subst hu
    exact ⟨rfl, ⟨s2.keep.os, s2.keep.tape, s2.keep.output, s2.keep.size, fun k hk => s2.keep.blk k hk (by show ¬ w.heap.size ≤ k; omega)⟩⟩

theorem cells_spot {a : Addr} {n : Nat} {V : Nat → Value} (h : ∀ i, i < n → w.cell? (a.add i) = some (V i)) : ∀ i, i < n → a.spot = none ∧ w.cell? ⟨a.block, a.off + i, none⟩ = some (V i) := by
  intro i hi
  have h0 := h 0 (by omega)
  have hs : a.spot = none := by
    have e : a.add 0 = a := by simp [Addr.add]
    rw [e] at h0
    unfold World.cell? at h0
    cases hsp : a.spot with
    | none => rfl
    | some k =>
      simp only [hsp] at h0
      split at h0 <;> simp at h0
  refine ⟨hs, ?_⟩
  have := h i hi
  rwa [Addr_eq hs, Addr_add] at this

theorem rd_list {α : Type} (g : α → AV) (d : α) {xs : List α} {a : Addr} {len cap : Nat} {V : Nat → Value} (hl : xs.length = len) (hc : len ≤ cap) (h : ∀ i, i < len → w.cell? (a.add i) = some (V i)) (hr : ∀ i, i < len → ∀ L', Rd w All L' (g (xs.getD i d)) (V i)) :
    Rd w All L (.list false 1 xs.length (cM g d xs)) (.slice (some a) len cap) := by
  subst hl
  refine ⟨some a, cap, rfl, hc, by simp, by simp, fun p hp i hi => ?_⟩
  simp only [Option.some.injEq] at hp
  subst hp
  rw [Nat.mul_one] at hi
  obtain ⟨k1, k2⟩ := cells_spot h i hi
  exact ⟨k1, trivial, V i, k2, hr i hi⟩

theorem trod_cs {t : TypeId} {v : Value} {d : DataW H} {p : List MemPlace} (h : DataW.Trod enc P w base spare held t v d p) (hv : v.cells = #[v]) : ∃ fuel, DataW.trod enc P w base spare held fuel t [v] = some (d, p) := by
  obtain ⟨fuel, hf⟩ := h
  exact ⟨fuel, by rw [hv] at hf; exact hf⟩

theorem rdArgs_list {ok : Nat → Prop} : ∀ (as : List AV) (vs : List Value), as.length = vs.length → (∀ (i : Nat) (a : AV) (v : Value), as[i]? = some a → vs[i]? = some v → Rd w ok L a v) → RdArgs w ok L as vs.toArray := by
  intro as vs hl h
  refine ⟨by simp [hl], fun i a hi => ?_⟩
  have hlt := (List.getElem?_eq_some_iff.1 hi).1
  exact ⟨vs[i]'(by omega), by simp, h i a _ hi (by simp)⟩
theorem rdArgs1 {ok : Nat → Prop} {a : AV} {v : Value} (h : Rd w ok L a v) : RdArgs w ok L [a] #[v] := rdArgs_list [a] [v] rfl fun i a' v' h1 h2 => by
  match i with
  | 0 => simp at h1 h2; subst h1 h2; exact h
  | i + 1 => simp at h1
end
end Go.Av
end
/- How bytes read. -/
section
namespace Go.Av
open Go.ChangeShapes Go.WideShapes Go.ChangeAt Go.RowKit
section
variable {P : Program} {H : Type} {enc : TypeId × Value → H} {w : World} {base : Nat} {spare : Nat → Bool} {held : Bool} {L : Loc}
theorem in8_wf {n : Int} (h : (Lit.int .u8 n).wf = true) : 0 ≤ n ∧ n ≤ 255 := by
  simp [Lit.wf, IntKind.min, IntKind.max] at h
  revert h
  simp only [show IntKind.u8.signed = false from rfl, show IntKind.u8.bits = 8 from rfl]
  intro h
  simp at h
  omega
theorem rd_bytes {t e : TypeId} {fuel : Nat} {cs : List Value} {x : DataW H × List MemPlace} (ht : P.underlying t = some (.slice e)) (he : P.underlying e = some (.int .u8)) (hc : P.cellsOf e = 1) (h : DataW.trod enc P w base spare held fuel t cs = some x) :
    ∃ (v : Value) (xs : List Int), cs = [v] ∧ (∀ L, Rd w All L (bts xs) v) ∧ xs.length ≤ 9223372036854775807 ∧ ∀ j, 0 ≤ xs.getD j 0 ∧ xs.getD j 0 ≤ 255 := by
  have hm : maxLen = 9223372036854775807 := by decide
  rcases open_ints ht he hc h with ⟨rfl, _⟩ | ⟨a, len, cap, zs, rfl, _, hl, hmx, hz, _, hcell, hwf⟩
  · exact ⟨_, [], rfl, fun L => ⟨none, 0, rfl, Nat.le_refl _, by simp, fun _ => ⟨rfl, rfl⟩, by simp⟩, by simp, by simp⟩
  · have hlen : len ≤ zs.length := by rw [hz]; split <;> omega
    refine ⟨_, zs.take len, rfl, fun L => rd_list u8v 0 (V := fun i => .int .u8 (zs.getD i 0)) (by simp; omega) hl (fun i hi => hcell i (by omega)) (fun i hi L' => ?_), by simp; omega, fun j => ?_⟩
    · have e : (zs.take len).getD i 0 = zs.getD i 0 := by simp [hi]
      rw [e]; rfl
    · by_cases hj : j < (zs.take len).length
      · rw [List.getD_eq_getElem?_getD, List.getElem?_eq_getElem hj, Option.getD_some]
        exact in8_wf (hwf _ (List.mem_of_mem_take (List.getElem_mem hj)))
      · rw [List.getD_eq_getElem?_getD, List.getElem?_eq_none (by omega), Option.getD_none]; omega
end
end Go.Av
end
/- Permutations as rows of numbers: composition, inverse, what generators generate. -/
section
namespace Go.Pm

/-- p is a permutation of n points. -/
def Pm (n : Nat) (p : List Int) : Prop := p.length = n ∧ (∀ j, j < n → 0 ≤ p.getD j 0 ∧ p.getD j 0 < n) ∧ ∀ i j, i < n → j < n → p.getD i 0 = p.getD j 0 → i = j

def img (p : List Int) (i : Nat) : Nat := (p.getD i 0).toNat
def comp (p q : List Int) : List Int := p.map fun x => q.getD x.toNat 0
def idn (n : Nat) : List Int := (List.range n).map fun i : Nat => (i : Int)
def invp (p : List Int) : List Int := (List.range p.length).map fun i : Nat => ((p.findIdx fun x => decide (x = (i : Int)) : Nat) : Int)

theorem ext {p q : List Int} (hl : p.length = q.length) (h : ∀ j, j < p.length → p.getD j 0 = q.getD j 0) : p = q := by
  refine List.ext_getElem hl fun i h1 h2 => ?_
  have := h i h1
  simpa [List.getD_eq_getElem?_getD, h1, h2] using this

theorem comp_length (p q : List Int) : (comp p q).length = p.length := by simp [comp]
theorem comp_get (p q : List Int) {i : Nat} (h : i < p.length) : (comp p q).getD i 0 = q.getD (img p i) 0 := by
  simp [comp, img, List.getD_eq_getElem?_getD, h]
theorem idn_length (n : Nat) : (idn n).length = n := by simp [idn]
theorem idn_get {n i : Nat} (h : i < n) : (idn n).getD i 0 = i := by simp [idn, List.getD_eq_getElem?_getD, h]
theorem img_idn {n i : Nat} (h : i < n) : img (idn n) i = i := by unfold img; rw [idn_get h]; rfl
theorem img_comp (p q : List Int) {i : Nat} (h : i < p.length) : img (comp p q) i = img q (img p i) := by
  unfold img; rw [comp_get p q h]; rfl

namespace Pm
variable {n : Nat} {p q r : List Int}
theorem img_lt (h : Pm n p) {i : Nat} (hi : i < n) : img p i < n := by
  have := h.2.1 i hi
  unfold Pm.img; omega
theorem get_eq (h : Pm n p) {i : Nat} (hi : i < n) : p.getD i 0 = (img p i : Int) := by
  have := h.2.1 i hi
  unfold Pm.img; omega
theorem inj (h : Pm n p) {i j : Nat} (hi : i < n) (hj : j < n) (e : img p i = img p j) : i = j :=
  h.2.2 i j hi hj (by rw [h.get_eq hi, h.get_eq hj, e])
theorem ext_img (h : Pm n p) (k : Pm n q) (e : ∀ i, i < n → img p i = img q i) : p = q :=
  Go.Pm.ext (h.1.trans k.1.symm) fun j hj => by
    rw [h.1] at hj
    rw [h.get_eq hj, k.get_eq hj, e j hj]
theorem idn (n : Nat) : Pm n (idn n) :=
  ⟨idn_length n, fun j hj => by rw [idn_get hj]; omega, fun i j hi hj e => by rw [idn_get hi, idn_get hj] at e; omega⟩
theorem mk' (hl : p.length = n) (h1 : ∀ j, j < n → ∃ k, k < n ∧ p.getD j 0 = (k : Int)) (h2 : ∀ i j, i < n → j < n → img p i = img p j → i = j) : Pm n p :=
  ⟨hl, fun j hj => by obtain ⟨k, h3, h4⟩ := h1 j hj; omega, fun i j hi hj e => h2 i j hi hj (by unfold Pm.img; rw [e])⟩
theorem comp (h : Pm n p) (k : Pm n q) : Pm n (comp p q) := by
  refine mk' (by rw [comp_length]; exact h.1) (fun j hj => ⟨img q (img p j), k.img_lt (h.img_lt hj), ?_⟩) fun i j hi hj e => ?_
  · rw [comp_get _ _ (by rw [h.1]; exact hj), k.get_eq (h.img_lt hj)]
  · rw [img_comp _ _ (by rw [h.1]; exact hi), img_comp _ _ (by rw [h.1]; exact hj)] at e
    exact h.inj hi hj (k.inj (h.img_lt hi) (h.img_lt hj) e)
theorem cimg (h : Pm n p) {i : Nat} (hi : i < n) : img (Go.Pm.comp p q) i = img q (img p i) := img_comp _ _ (by rw [h.1]; exact hi)

/-- Every point is met. -/
theorem surj (h : Pm n p) {i : Nat} (hi : i < n) : ∃ j, j < n ∧ img p j = i := by
  have hn : ((List.range n).map (img p)).Nodup := by
    rw [List.nodup_iff_pairwise_ne, List.pairwise_map]
    refine List.Pairwise.imp_of_mem (R := fun a b => a ≠ b) ?_ (List.nodup_iff_pairwise_ne.1 List.nodup_range)
    intro a b ha hb hne e
    exact hne (h.inj (by simpa using ha) (by simpa using hb) e)
  have := (Go.Plain.nodup_iff_all (l := (List.range n).map (img p)) (n := n) (by simp) (fun x hx => by
    obtain ⟨j, hj, rfl⟩ := List.mem_map.1 hx
    exact h.img_lt (by simpa using hj))).1 hn i hi
  obtain ⟨j, hj, e⟩ := List.mem_map.1 this
  exact ⟨j, by simpa using hj, e⟩

theorem find (h : Pm n p) {i : Nat} (hi : i < n) : p.findIdx (fun x => decide (x = (i : Int))) < n ∧ img p (p.findIdx fun x => decide (x = (i : Int))) = i := by
  obtain ⟨j, hj, e⟩ := h.surj hi
  have hlt : p.findIdx (fun x => decide (x = (i : Int))) < p.length := by
    rw [List.findIdx_lt_length]
    refine ⟨p.getD j 0, ?_, ?_⟩
    · have hj' : j < p.length := by rw [h.1]; exact hj
      rw [List.getD_eq_getElem?_getD, List.getElem?_eq_getElem hj']
      exact List.getElem_mem hj'
    · rw [h.get_eq hj, e]; simp
  have := List.findIdx_getElem (w := hlt)
  refine ⟨by rw [← h.1]; exact hlt, ?_⟩
  simp only [decide_eq_true_eq] at this
  unfold Pm.img
  rw [List.getD_eq_getElem?_getD, List.getElem?_eq_getElem hlt, Option.getD_some, this]
  simp
theorem inv_get (h : Pm n p) {i : Nat} (hi : i < n) : (invp p).getD i 0 = ((p.findIdx fun x => decide (x = (i : Int)) : Nat) : Int) := by
  have : i < p.length := by rw [h.1]; exact hi
  simp [invp, List.getD_eq_getElem?_getD, this]
theorem inv_img (h : Pm n p) {i : Nat} (hi : i < n) : img p (img (invp p) i) = i := by
  have : img (invp p) i = p.findIdx fun x => decide (x = (i : Int)) := by unfold Pm.img; rw [h.inv_get hi]; rfl
  rw [this]; exact (h.find hi).2
theorem inv (h : Pm n p) : Pm n (invp p) := by
  refine mk' (by simp [invp, h.1]) (fun j hj => ⟨_, (h.find hj).1, h.inv_get hj⟩) fun i j hi hj e => ?_
  rw [← h.inv_img hi, ← h.inv_img hj, e]
theorem comp_idn (h : Pm n p) : Go.Pm.comp p (Go.Pm.idn n) = p :=
  (h.comp (.idn n)).ext_img h fun i hi => by rw [h.cimg hi, img_idn (h.img_lt hi)]
theorem idn_comp (h : Pm n p) : Go.Pm.comp (Go.Pm.idn n) p = p :=
  ((Pm.idn n).comp h).ext_img h fun i hi => by rw [(Pm.idn n).cimg hi, img_idn hi]
theorem assoc (h : Pm n p) (k : Pm n q) (l : Pm n r) : Go.Pm.comp (Go.Pm.comp p q) r = Go.Pm.comp p (Go.Pm.comp q r) :=
  ((h.comp k).comp l).ext_img (h.comp (k.comp l)) fun i hi => by
    rw [(h.comp k).cimg hi, h.cimg hi, h.cimg hi, k.cimg (h.img_lt hi)]
end Pm

/-- What is generated (products of generators, applied one after the other). -/
inductive Gen (n : Nat) (S : List (List Int)) : List Int → Prop
  | one : Gen n S (idn n)
  | mul {p g : List Int} : Gen n S p → g ∈ S → Gen n S (comp p g)

section
variable {n : Nat} {S S' : List (List Int)} {p q : List Int}
theorem Gen.pm (hS : ∀ g ∈ S, Pm n g) (h : Gen n S p) : Pm n p := by
  induction h with
  | one => exact .idn n
  | mul _ hg ih => exact ih.comp (hS _ hg)
theorem Gen.prod (hS : ∀ g ∈ S, Pm n g) (h : Gen n S p) (k : Gen n S q) : Gen n S (comp p q) := by
  induction k with
  | one => rw [(h.pm hS).comp_idn]; exact h
  | mul k hg ih => rw [← (h.pm hS).assoc (k.pm hS) (hS _ hg)]; exact ih.mul hg
theorem Gen.of (hS : ∀ g ∈ S, Pm n g) (h : p ∈ S) : Gen n S p := by
  have := (Gen.one (n := n) (S := S)).mul h
  rwa [(hS _ h).idn_comp] at this
theorem Gen.sub (hS : ∀ g ∈ S', Pm n g) (hs : ∀ g ∈ S, Gen n S' g) (h : Gen n S p) : Gen n S' p := by
  induction h with
  | one => exact .one
  | mul _ hg ih => exact ih.prod hS (hs _ hg)
theorem Gen.mono (hs : ∀ g ∈ S, g ∈ S') (h : Gen n S p) : Gen n S' p := by
  induction h with
  | one => exact .one
  | mul _ hg ih => exact ih.mul (hs _ hg)
end
end Go.Pm
end
/- Words: free reduction, runs of letters, their lengths; plain. -/
section
namespace Go.Wd
set_option linter.unusedVariables false
set_option linter.unusedSimpArgs false
/-- One letter more: it is taken off with its inverse, or laid on. -/
def frS (o : List Int) (l : Int) : List Int := if 0 < o.length ∧ o.getD (o.length - 1) 0 = -l then o.take (o.length - 1) else o ++ [l]
def fr (w : List Int) : List Int := w.foldl frS []
def inv (w : List Int) : List Int := (w.map (- ·)).reverse
/-- No letter stands beside its inverse. -/
def red (o : List Int) : Prop := ∀ i, i + 1 < o.length → o.getD i 0 ≠ -(o.getD (i + 1) 0)
theorem getD_take (o : List Int) {i k : Nat} (h : i < k) : (o.take k).getD i 0 = o.getD i 0 := by
  simp [List.getD_eq_getElem?_getD, List.getElem?_take, h]
theorem getD_left (o p : List Int) {i : Nat} (h : i < o.length) : (o ++ p).getD i 0 = o.getD i 0 := by
  simp [List.getD_eq_getElem?_getD, List.getElem?_append_left h]
theorem getD_last (o : List Int) (l : Int) : (o ++ [l]).getD o.length 0 = l := by simp [List.getD_eq_getElem?_getD]
theorem red_nil : red [] := fun i h => absurd h (by simp)
theorem red_take {o : List Int} (h : red o) (k : Nat) : red (o.take k) := fun i hi => by
  rw [List.length_take] at hi
  rw [getD_take o (by omega), getD_take o (by omega)]
  exact h i (by omega)
theorem red_frS {o : List Int} (h : red o) (l : Int) : red (frS o l) := by
  unfold frS
  split
  · exact red_take h _
  · rename_i hn
    intro i hi
    rw [List.length_append, List.length_singleton] at hi
    by_cases e : i + 1 < o.length
    · rw [getD_left _ _ (by omega), getD_left _ _ e]; exact h i e
    · have e2 : i + 1 = o.length := by omega
      rw [getD_left _ _ (by omega), e2, getD_last]
      intro hc
      exact hn ⟨by omega, by rw [show o.length - 1 = i by omega]; exact hc⟩
theorem red_foldl : ∀ (w o : List Int), red o → red (w.foldl frS o)
  | [], o, h => h
  | l :: w, o, h => red_foldl w _ (red_frS h l)
theorem red_fr (w : List Int) : red (fr w) := red_foldl w [] red_nil
theorem fr_snoc (w : List Int) (k : Nat) (h : k < w.length) : fr (w.take (k + 1)) = frS (fr (w.take k)) (w.getD k 0) := by
  unfold fr
  rw [List.take_add_one, List.foldl_append]
  simp [List.getD_eq_getElem?_getD, h]
theorem fr_red {w : List Int} (h : red w) : ∀ k, k ≤ w.length → fr (w.take k) = w.take k
  | 0, _ => by simp [fr]
  | k + 1, hk => by
    rw [fr_snoc w k (by omega), fr_red h k (by omega)]
    unfold frS
    rw [if_neg, List.take_add_one]
    · simp [List.getD_eq_getElem?_getD, show k < w.length by omega]
    · rintro ⟨h1, h2⟩
      rw [List.length_take, Nat.min_eq_left (by omega)] at h1 h2
      rw [getD_take w (by omega)] at h2
      have := h (k - 1) (by omega)
      rw [show k - 1 + 1 = k by omega] at this
      exact this h2
theorem fr_of_red {w : List Int} (h : red w) : fr w = w := by
  have := fr_red h w.length (Nat.le_refl _)
  rwa [List.take_length] at this
theorem frS_len (o : List Int) (l : Int) : (frS o l).length ≤ o.length + 1 := by
  unfold frS; split
  · rw [List.length_take]; omega
  · simp
theorem foldl_len : ∀ (w o : List Int), (w.foldl frS o).length ≤ o.length + w.length
  | [], o => by simp
  | l :: w, o => by
    have h1 := foldl_len w (frS o l)
    have h2 := frS_len o l
    simp only [List.foldl_cons, List.length_cons]; omega
theorem fr_len (w : List Int) : (fr w).length ≤ w.length := by simpa [fr] using foldl_len w []
theorem frS_back {o : List Int} (h : red o) (l : Int) : frS (frS o l) (-l) = o := by
  by_cases hc : 0 < o.length ∧ o.getD (o.length - 1) 0 = -l
  · rw [show frS o l = o.take (o.length - 1) from if_pos hc]
    have hl : (o.take (o.length - 1)).length = o.length - 1 := by rw [List.length_take]; omega
    unfold frS
    rw [if_neg]
    · rw [← hc.2]
      have e : o = o.take (o.length - 1) ++ o.drop (o.length - 1) := (List.take_append_drop _ _).symm
      have e2 : o.drop (o.length - 1) = [o.getD (o.length - 1) 0] := by
        rw [List.drop_eq_getElem_cons (by omega), List.drop_eq_nil_of_le (by omega)]
        simp [List.getD_eq_getElem?_getD, show o.length - 1 < o.length by omega]
      rw [e2] at e; exact e.symm
    · rintro ⟨h1, h2⟩
      rw [hl] at h1 h2
      rw [getD_take o (by omega)] at h2
      have := h (o.length - 1 - 1) (by omega)
      rw [show o.length - 1 - 1 + 1 = o.length - 1 by omega, hc.2] at this
      exact this h2
  · rw [show frS o l = o ++ [l] from if_neg hc]
    unfold frS
    rw [if_pos]
    · rw [List.length_append, List.length_singleton, Nat.add_sub_cancel, List.take_left]
    · rw [List.length_append, List.length_singleton, Nat.add_sub_cancel, getD_last]
      exact ⟨by omega, by omega⟩
theorem foldl_inv : ∀ (w o : List Int), red o → (inv w).foldl frS (w.foldl frS o) = o
  | [], o, h => rfl
  | l :: w, o, h => by
    have e : inv (l :: w) = inv w ++ [-l] := by simp [inv]
    rw [e, List.foldl_append, List.foldl_cons (l := w), foldl_inv w _ (red_frS h l)]
    exact frS_back h l
theorem fr_inv (w : List Int) : fr (w ++ inv w) = [] := by
  unfold fr
  rw [List.foldl_append]
  exact foldl_inv w [] red_nil
theorem mem_frS {o : List Int} {l x : Int} (h : x ∈ frS o l) : x ∈ o ∨ x = l := by
  unfold frS at h
  split at h
  · exact .inl (List.mem_of_mem_take h)
  · rcases List.mem_append.1 h with h | h
    · exact .inl h
    · exact .inr (by simpa using h)
theorem mem_foldl {x : Int} : ∀ (w o : List Int), x ∈ w.foldl frS o → x ∈ o ∨ x ∈ w
  | [], o, h => .inl h
  | l :: w, o, h => by
    rcases mem_foldl w _ h with h | h
    · rcases mem_frS h with h | h
      · exact .inl h
      · exact .inr (by rw [h]; simp)
    · exact .inr (by simp [h])
theorem mem_fr {w : List Int} {x : Int} (h : x ∈ fr w) : x ∈ w := by
  rcases mem_foldl w [] h with h | h
  · simp at h
  · exact h
/-- The runs of the first k letters. -/
def runsK (al : Int → Int → Bool) (w : List Int) : Nat → List (List Int)
  | 0 => []
  | k + 1 => if 0 < k ∧ al (w.getD (k - 1) 0) (w.getD k 0) = true then (runsK al w k).set ((runsK al w k).length - 1) ((runsK al w k).getD ((runsK al w k).length - 1) [] ++ [w.getD k 0]) else runsK al w k ++ [[w.getD k 0]]
theorem runsK_pos (al : Int → Int → Bool) (w : List Int) : ∀ k, (0 < k → 0 < (runsK al w k).length) ∧ (runsK al w k).length ≤ k
  | 0 => ⟨fun h => absurd h (by omega), Nat.le_refl _⟩
  | k + 1 => by
    have ih := runsK_pos al w k
    unfold runsK
    split
    · rename_i h; rw [List.length_set]; exact ⟨fun _ => ih.1 h.1, by omega⟩
    · simp; exact ih.2
theorem set_flatten : ∀ (xs : List (List Int)) (l : Int), 0 < xs.length → (xs.set (xs.length - 1) (xs.getD (xs.length - 1) [] ++ [l])).flatten = xs.flatten ++ [l]
  | [], l, h => absurd h (by simp)
  | [x], l, h => by simp
  | x :: y :: t, l, h => by
    have ih := set_flatten (y :: t) l (by simp)
    simp only [List.length_cons, Nat.add_sub_cancel] at ih ⊢
    rw [List.set_cons_succ, List.flatten_cons, List.getD_cons_succ, ih]
    simp only [List.flatten_cons, List.append_assoc]
theorem runsK_flat (al : Int → Int → Bool) (w : List Int) : ∀ k, k ≤ w.length → (runsK al w k).flatten = w.take k
  | 0, _ => by simp [runsK]
  | k + 1, hk => by
    have ih := runsK_flat al w k (by omega)
    have e : w.take (k + 1) = w.take k ++ [w.getD k 0] := by
      rw [List.take_add_one]; simp [List.getD_eq_getElem?_getD, show k < w.length by omega]
    unfold runsK
    split
    · rename_i h
      rw [set_flatten _ _ ((runsK_pos al w k).1 h.1), ih, e]
    · simp [ih, e]
/-- How many of the first k letters begin a run. -/
def runN (al : Int → Int → Bool) (w : List Int) : Nat → Nat
  | 0 => 0
  | k + 1 => if 0 < k ∧ al (w.getD (k - 1) 0) (w.getD k 0) = true then runN al w k else runN al w k + 1
theorem runsK_len (al : Int → Int → Bool) (w : List Int) : ∀ k, (runsK al w k).length = runN al w k
  | 0 => rfl
  | k + 1 => by
    have ih := runsK_len al w k
    unfold runsK runN
    split
    · rw [List.length_set, ih]
    · simp [ih]
theorem runN_le (al : Int → Int → Bool) (w : List Int) (k : Nat) : runN al w k ≤ k := by rw [← runsK_len]; exact (runsK_pos al w k).2
end Go.Wd
end

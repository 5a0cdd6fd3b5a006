import Derived.Test.YticbabpajligbaaDoorK2
import Derived.ProofKit
import Derived.OpenShut
import Derived.ShutString
import Derived.ChangeOld
import Derived.Below
import Derived.Carry
import Derived.Deep.Slices
import Derived.Lib.SmallJoins
/- The heap told anew: names turned, nil told as a slice of our own, and cells told one by one. -/
section
namespace Go.Av
/-- A hypothesis that the walk is not to see. -/
structure Hold (p : Prop) : Prop where
  h : p
section
variable {N : Cx} {A A' : Fr} {H H' : Hp}
/-- How what is told before (by old names) is told afterwards (by new ones): ρ gives the old name of a new one; a new name without an old one is a nil slice. -/
inductive Lay (ρ : Nat → Option Nat) : AV → AV → Prop
  | own {h g off sz n : Nat} : ρ h = some g → Lay ρ (.own g off sz n) (.own h off sz n)
  | ref {h g off : Nat} : ρ h = some g → Lay ρ (.ref g off) (.ref h off)
  | nil {h sz : Nat} : ρ h = none → Lay ρ (.v (.slice none 0 0)) (.own h 0 sz 0)
  | plain {a : AV} : a.plain → Lay ρ a a
  | agg {n : Nat} {f g : Nat → AV} : (∀ i, i < n → Lay ρ (f i) (g i)) → Lay ρ (.agg n f) (.agg n g)
  | map {h g : Nat} : ρ h = some g → Lay ρ (.map g) (.map h)
  | clo {gf n : Nat} {f g : Nat → AV} : (∀ i, i < n → Lay ρ (f i) (g i)) → Lay ρ (.clo gf n f) (.clo gf n g)
  | dead (a : AV) : Lay ρ a .dead
theorem Lay.rd {ρ : Nat → Option Nat} {w : World} {ok : Nat → Prop} {L : Loc} {a c : AV} (h : Lay ρ a c) : ∀ u, Rd w ok L a u → Rd w ok (fun h => (ρ h).bind L) c u := by
  induction h with
  | @own h g off sz n e => intro u hu; simp only [Rd, e, Option.bind_some] at hu ⊢; exact hu
  | @ref h g off e => intro u hu; simp only [Rd, e, Option.bind_some] at hu ⊢; exact hu
  | @nil h sz e => intro u hu; simp only [Rd, e, Option.bind_none] at hu ⊢; exact ⟨hu, trivial⟩
  | @plain a hp => intro u hu; exact Rd.plain a _ _ u hp hu
  | @agg n f g _ ih => rintro u ⟨cs, h1, h2, h3⟩; exact ⟨cs, h1, h2, fun i hi => let ⟨c, k1, k2⟩ := h3 i hi; ⟨c, k1, ih i hi _ k2⟩⟩
  | @clo gf n f g _ ih => rintro u ⟨cs, h1, h2, h3⟩; exact ⟨cs, h1, h2, fun i hi => let ⟨c, k1, k2⟩ := h3 i hi; ⟨c, k1, ih i hi _ k2⟩⟩
  | @map h g e => intro u hu; simp only [Rd, e, Option.bind_some] at hu ⊢; exact hu
  | dead a => intro u _; trivial
/-- .. where some blocks are maps. -/
theorem Sub.layM (ρ : Nat → Option Nat) (hpn : N.pn = fun _ => false) (hA : ∀ i c, A'.get i = some c → ∃ a, A.get i = some a ∧ Lay ρ a c)
    (hH : ∀ h B', H' h = some B' → (∃ g n f f', ρ h = some g ∧ B' = .cells n f' ∧ H g = some (.cells n f) ∧ ∀ i, i < n → Lay ρ (f i) (f' i)) ∨ (ρ h = none ∧ ∃ f, B' = .cells 0 f) ∨ (∃ g kv, ρ h = some g ∧ B' = .mp kv ∧ H g = some (.mp kv) ∧ ∀ x ∈ kv, x.2.plain))
    (hinj : ∀ h g k, H' h ≠ none → H' g ≠ none → ρ h = some k → ρ g = some k → h = g) : Sub N A H A' H' := by
  intro w0 S hS w tm L s
  have live : ∀ h k, H' h ≠ none → ρ h = some k → H k ≠ none := by
    intro h k hn e
    cases hB : H' h with
    | none => exact absurd hB hn
    | some B =>
      rcases hH h B hB with ⟨g, n, f, f', e1, _, e2, _⟩ | ⟨e1, _⟩ | ⟨g, kv, e1, _, e2, _⟩
      · rw [e] at e1; simp only [Option.some.injEq] at e1; subst e1; rw [e2]; simp
      · rw [e] at e1; simp at e1
      · rw [e] at e1; simp only [Option.some.injEq] at e1; subst e1; rw [e2]; simp
  have dec : ∀ h q, ((ρ h).bind L) = some q → ∃ k, ρ h = some k ∧ L k = some q := by
    intro h q hq
    cases e : ρ h with
    | none => rw [e] at hq; simp at hq
    | some k => rw [e] at hq; exact ⟨k, rfl, hq⟩
  have hok : ∀ b, okb S H L b → okb S H' (fun h => (ρ h).bind L) b := fun b hb => ⟨hb.1, fun h q hn hq => by
    obtain ⟨k, e1, e2⟩ := dec h q hq
    exact hb.2 k q (live h k hn e1) e2⟩
  refine ⟨fun h => (ρ h).bind L, s.keep, s.size, fun i c hc => ?_, fun h B hB => ?_, fun h q hn hq => ?_, fun h g q r hn hm hq hr e => ?_, fun h l hl => ?_⟩
  · obtain ⟨a, h1, h2⟩ := hA i c hc
    exact Rd.mono (fun b _ hb => hok b hb) (h2.rd _ (s.slot i a h1))
  · rcases hH h B hB with ⟨g, n, f, f', e1, rfl, e2, e3⟩ | ⟨e1, f, rfl⟩ | ⟨g, kv, e1, rfl, e2, e3⟩
    · have hb := s.blk g _ e2
      simp only [e1, Option.bind_some]
      cases hl : L g with
      | none => rw [hl] at hb; exact hb
      | some q =>
        rw [hl] at hb
        obtain ⟨cs, e, k1, k2, k3⟩ := hb
        exact ⟨cs, e, k1, k2, fun i hi => let ⟨c, k4, k5⟩ := k3 i hi; ⟨c, k4, Rd.mono (fun b _ hb => hok b hb) ((e3 i hi).rd _ k5)⟩⟩
    · simp only [e1, Option.bind_none]; rfl
    · have hb := s.blk g _ e2
      simp only [e1, Option.bind_some]
      cases hl : L g with
      | none => rw [hl] at hb; exact hb.elim
      | some q =>
        rw [hl] at hb
        obtain ⟨es, clock, k1, k2, k3⟩ := hb
        exact ⟨es, clock, k1, k2, fun i e he => let ⟨a, k4, k5⟩ := k3 i e he; ⟨a, k4, Rd.mono (fun b _ hb => hok b hb) (Rd.plain a _ _ _ (e3 _ (List.mem_of_getElem? k4)) k5)⟩⟩
  · obtain ⟨k, e1, e2⟩ := dec h q hq
    exact s.own k q (live h k hn e1) e2
  · obtain ⟨k1, e1, e2⟩ := dec h q hq
    obtain ⟨k2, e3, e4⟩ := dec g r hr
    have := s.inj k1 k2 q r (live h k1 hn e1) (live g k2 hm e3) e2 e4 e
    subst this
    exact hinj h g k1 hn hm e1 e3
  · rw [hS.free h (by rw [hpn])] at hl; simp at hl
theorem Sub.lay (ρ : Nat → Option Nat) (hpn : N.pn = fun _ => false) (hA : ∀ i c, A'.get i = some c → ∃ a, A.get i = some a ∧ Lay ρ a c)
    (hH : ∀ h B', H' h = some B' → (∃ g n f f', ρ h = some g ∧ B' = .cells n f' ∧ H g = some (.cells n f) ∧ ∀ i, i < n → Lay ρ (f i) (f' i)) ∨ (ρ h = none ∧ ∃ f, B' = .cells 0 f))
    (hinj : ∀ h g k, H' h ≠ none → H' g ≠ none → ρ h = some k → ρ g = some k → h = g) : Sub N A H A' H' :=
  Sub.layM ρ hpn hA (fun h B' hB => (hH h B' hB).elim .inl (fun k => .inr (.inl k))) hinj
theorem lay_nil {ρ : Nat → Option Nat} : ∀ i c, Fr.get [] i = some c → ∃ a, A.get i = some a ∧ Lay ρ a c := fun i c h => by simp [Fr.get] at h
theorem lay_cons {ρ : Nat → Option Nat} {t : Nat} {a : AV} {r : Fr} (h0 : ∃ b, A.get t = some b ∧ Lay ρ b a) (h : ∀ i c, Fr.get r i = some c → ∃ a, A.get i = some a ∧ Lay ρ a c) : ∀ i c, Fr.get ((t, a) :: r) i = some c → ∃ a, A.get i = some a ∧ Lay ρ a c := fun i c e => by
  simp only [Fr.get] at e
  split at e
  · rename_i e1; subst e1; simp only [Option.some.injEq] at e; subst e; exact h0
  · exact h i c e
theorem end_post {P : Program} {fn : Func} {t : Tmp} {a : AV} {post : AV → Hp → Prop} (hr : fn.results.toList = [.tmp t]) (hA : A.get t = some a) (hl : Hp.le H' H) (hp : post a H') : endQ P N fn post .ret A H :=
  ⟨A, H', Sub.mk (fun _ _ h => h) hl, by rw [hr]; simp only [resVC, hA]; exact hp⟩
/-- Each block told in H1 stands in H, and fits what is told of it (the names of D are frozen). -/
def LeF (D : Nat → Prop) (H1 H : Hp) : Prop := ∀ x B, H1 x = some B → ¬ D x ∧ ∃ B', H x = some B' ∧ BFits H D B' B
theorem leF_emp {D : Nat → Prop} : LeF D Hp.emp H := fun x B h => by simp [Hp.emp] at h
theorem leF_upd {D : Nat → Prop} {h : Nat} {B B' : Blk} (k : H h = some B') (e : BFits H D B' B) (r : LeF D H' H) (hD : ¬ D h) : LeF D (H'.upd h B) H := fun x C hC => by
  unfold Hp.upd at hC
  split at hC
  · rename_i e1; subst e1; simp only [Option.some.injEq] at hC; subst hC; exact ⟨hD, B', k, e⟩
  · exact r x C hC
theorem bfE {D : Nat → Prop} {n m : Nat} {f g : Nat → AV} (hn : n = m) (h : ∀ i, i < n → f i = g i) : BFits H D (.cells n f) (.cells m g) := ⟨hn, fun i hi => by rw [h i hi]; exact .refl _⟩
theorem Sub.toLF (hA : Fr.sub A A') (hH : LeF (fun _ => False) H' H) : Sub N A H A' H' := Sub.fits (fun _ => False) (fun i c hc => ⟨c, Fr.sub_get A' A hA i c hc, .refl c⟩) hH
theorem Sub.toFF (D : Nat → Prop) (hA : Fr.fit H D A A') (hH : LeF D H' H) : Sub N A H A' H' := Sub.fits D (Fr.fit_get A' A hA) hH
/-- Each block told in H1 by new names stands in H by old ones. -/
def LayF (ρ : Nat → Option Nat) (H1 H : Hp) : Prop := ∀ h B', H1 h = some B' → (∃ g n f f', ρ h = some g ∧ B' = .cells n f' ∧ H g = some (.cells n f) ∧ ∀ i, i < n → Lay ρ (f i) (f' i)) ∨ (ρ h = none ∧ ∃ f, B' = .cells 0 f) ∨ (∃ g kv, ρ h = some g ∧ B' = .mp kv ∧ H g = some (.mp kv) ∧ ∀ x ∈ kv, x.2.plain)
theorem layF_emp {ρ : Nat → Option Nat} : LayF ρ Hp.emp H := fun x B h => by simp [Hp.emp] at h
theorem layF_upd {ρ : Nat → Option Nat} {h g n : Nat} {f f' : Nat → AV} (e : ρ h = some g) (k : H g = some (.cells n f)) (l : ∀ i, i < n → Lay ρ (f i) (f' i)) (r : LayF ρ H' H) : LayF ρ (H'.upd h (.cells n f')) H := fun x C hC => by
  unfold Hp.upd at hC
  split at hC
  · rename_i e1; subst e1; simp only [Option.some.injEq] at hC; subst hC; exact .inl ⟨g, n, f, f', e, rfl, k, l⟩
  · exact r x C hC
theorem layF_nil {ρ : Nat → Option Nat} {h : Nat} {f' : Nat → AV} (e : ρ h = none) (r : LayF ρ H' H) : LayF ρ (H'.upd h (.cells 0 f')) H := fun x C hC => by
  unfold Hp.upd at hC
  split at hC
  · rename_i e1; subst e1; simp only [Option.some.injEq] at hC; subst hC; exact .inr (.inl ⟨e, f', rfl⟩)
  · exact r x C hC
theorem AC.mono {P : Program} {f : FuncId} {args : List AV} {Hin : Hp} {pn : Nat → Bool} {post post' : AV → Hp → Prop} (h : AC P f args Hin pn post) (hq : ∀ r H, post r H → post' r H) : AC P f args Hin pn post' := by
  refine ⟨h.1, fun S w L vs hS hpin s hargs => (h.2 S w L vs hS hpin s hargs).mono ?_⟩
  rintro e w' ⟨u, L', r, H', rfl, s2, hr, hp⟩
  exact ⟨u, L', r, H', rfl, s2, hr, hq r H' hp⟩
end
end Go.Av
end
/- Regions whose order is open and that lay several new blocks: each operation reads what was there before, or lays a block of its own. -/
section
namespace Go.Av
section
variable {P : Program} {N : Cx} {A : Fr} {H H0 : Hp}

theorem Fits.up {D : Nat → Prop} (hle : Hp.le H0 H) {a c : AV} (h : Fits H0 D a c) : Fits H D a c := by
  induction h with
  | refl a => exact .refl a
  | own h1 h2 h3 h4 _ ih => exact .own (hle _ _ h1) h2 h3 h4 ih
  | list h1 h2 _ ih => exact .list h1 h2 ih
  | nil => exact .nil
  | agg _ ih => exact .agg ih
  | ref h1 h2 h3 h4 _ ih => exact .ref (hle _ _ h1) h2 h3 h4 ih
  | clo _ ih => exact .clo ih
  | tup _ ih => exact .tup ih
  | nonnil h1 _ ih => exact .nonnil h1 ih
  | dead a => exact .dead a
theorem FitsL.up {D : Nat → Prop} (hle : Hp.le H0 H) {l r : List AV} (h : FitsL H0 D l r) : FitsL H D l r := by
  induction h with
  | nil => exact .nil
  | cons h _ ih => exact .cons (h.up hle) ih
variable (P N) in
/-- An operation that reads what was there before (H0), or lays a block of its own; M: what is known of the new blocks when it comes. -/
def opF (d : Nat) (op : Op) (A : Fr) (H0 M : Hp) (K : AV → Option (Nat × Blk) → Prop) : Prop :=
  match op with
  | .buildSlice t len ps => match selOf P t, evParts A ps.toList with
    | some se, some l => Ob ((N.pn d = false ∧ 0 < se.size ∧ len * se.size ≤ 16777216) ∧ fillOk (fun i => some (i * se.size, se.size)) (len * se.size) l)
        (K (.own d 0 se.size len) (some (d, .cells (len * se.size) (fillF (fun i => some (i * se.size, se.size)) l (zF se.zero)))))
    | _, _ => False
  | .makeMap t none => match mapOf P t with
    | some _ => Ob (N.pn d = false) (K (.map d) (some (d, .mp [])))
    | none => False
  | .insert t m k x => withA (A.ev m) fun a => withA (A.ev k) fun b => withA (A.ev x) fun c => match mapOf P t, a, b with
    | some _, .map h, .v (.string s) => (match M h with
      | some (.mp kv) => Ob (kvStr kv = true) (Ob (kvHas s kv = false) (K .dead (some (h, .mp (kv ++ [(.string s, c)])))))
      | _ => False)
    | _, _, _ => False
  | .box _ x => withA (A.ev x) fun a => Ob (N.pn d = false) (match aggOf a with
    | some (n, g) => K (.ref d 0) (some (d, .cells n g))
    | none => Ob (a.one = true) (K (.ref d 0) (some (d, .cells 1 fun _ => a))))
  | .alloc t => match tyOf P t with
    | some ty => Ob (N.pn d = false) (K (.ref d 0) (some (d, .cells ty.size (zF ty.zero))))
    | none => False
  | op => opQ P N d op A H0 fun r => K r none

section
variable {bs : List (Option (Nat × Blk))} {li li' : Nat → Bool}
end
def bad (tg a : List Nat) (h : Nat) : Bool := tg.contains h && !a.contains h
def badB (tg a : List Nat) (d h : Nat) : Bool := tg.contains h && (!a.contains h || h == d)
variable (P N) in
/-- The free part, read in its order. -/
def opsF (tg : List Nat) (Q : Fr → Hp → Prop) : List Oper → List (List Nat) → Fr → Hp → Hp → Prop
  | [], _, A, _, M => Q A M
  | o :: l, an, A, H0, M => opF P N (o.dst.getD 0) o.op A H0 M fun r b => Ob (r.scrub (bad tg (an.headD [])) = r) (match b with
    | none => opsF tg Q l an.tail (putd o.dst r A) H0 M
    | some (d, B) => Ob ((an.headD []).contains d = true ∧ B.scrub (badB tg (an.headD []) d) = B) (opsF tg Q l an.tail (putd o.dst r A) H0 (M.upd d B)))
section
variable (d : Nat) (A : Fr) (H0 M : Hp) (K : AV → Option (Nat × Blk) → Prop)
theorem opF_move (x : Operand) : opF P N d (.move x) A H0 M K = opQ P N d (.move x) A H0 fun r => K r none := rfl
theorem opF_load (t : TypeId) (x : Operand) : opF P N d (.load t x) A H0 M K = opQ P N d (.load t x) A H0 fun r => K r none := rfl
theorem opF_fieldAddr (t : TypeId) (x : Operand) (i : Nat) : opF P N d (.fieldAddr t x i) A H0 M K = opQ P N d (.fieldAddr t x i) A H0 fun r => K r none := rfl
theorem opF_indexAddr (t : TypeId) (x y : Operand) : opF P N d (.indexAddr t x y) A H0 M K = opQ P N d (.indexAddr t x y) A H0 fun r => K r none := rfl
theorem opF_nilCheck (x : Operand) : opF P N d (.nilCheck x) A H0 M K = opQ P N d (.nilCheck x) A H0 fun r => K r none := rfl
theorem opF_call (c : Call) : opF P N d (.call c) A H0 M K = opQ P N d (.call c) A H0 fun r => K r none := rfl
theorem opF_binOp (o : BinOp) (t : TypeId) (x y : Operand) (u : TypeId) : opF P N d (.binOp o t x y u) A H0 M K = opQ P N d (.binOp o t x y u) A H0 fun r => K r none := rfl
theorem opF_build (t : TypeId) (ps : Array (Nat × Operand)) : opF P N d (.build t ps) A H0 M K = opQ P N d (.build t ps) A H0 fun r => K r none := rfl
theorem opF_bs (t : TypeId) (len : Nat) (ps : Array (Nat × Operand)) : opF P N d (.buildSlice t len ps) A H0 M K = (match selOf P t, evParts A ps.toList with
    | some se, some l => Ob ((N.pn d = false ∧ 0 < se.size ∧ len * se.size ≤ 16777216) ∧ fillOk (fun i => some (i * se.size, se.size)) (len * se.size) l)
        (K (.own d 0 se.size len) (some (d, .cells (len * se.size) (fillF (fun i => some (i * se.size, se.size)) l (zF se.zero)))))
    | _, _ => False) := rfl
theorem opF_mk (t : TypeId) : opF P N d (.makeMap t none) A H0 M K = (match mapOf P t with
    | some _ => Ob (N.pn d = false) (K (.map d) (some (d, .mp [])))
    | none => False) := rfl
theorem opF_ins (t : TypeId) (m k x : Operand) : opF P N d (.insert t m k x) A H0 M K = (withA (A.ev m) fun a => withA (A.ev k) fun b => withA (A.ev x) fun c => match mapOf P t, a, b with
    | some _, .map h, .v (.string s) => (match M h with
      | some (.mp kv) => Ob (kvStr kv = true) (Ob (kvHas s kv = false) (K .dead (some (h, .mp (kv ++ [(.string s, c)])))))
      | _ => False)
    | _, _, _ => False) := rfl
theorem opF_box (t : TypeId) (x : Operand) : opF P N d (.box t x) A H0 M K = (withA (A.ev x) fun a => Ob (N.pn d = false) (match aggOf a with
    | some (n, g) => K (.ref d 0) (some (d, .cells n g))
    | none => Ob (a.one = true) (K (.ref d 0) (some (d, .cells 1 fun _ => a))))) := rfl
theorem opF_alloc (t : TypeId) : opF P N d (.alloc t) A H0 M K = (match tyOf P t with
    | some ty => Ob (N.pn d = false) (K (.ref d 0) (some (d, .cells ty.size (zF ty.zero))))
    | none => False) := rfl
theorem opsF_nil (tg : List Nat) (Q : Fr → Hp → Prop) (an : List (List Nat)) : opsF P N tg Q [] an A H0 M = Q A M := rfl
theorem opsF_some (tg : List Nat) (Q : Fr → Hp → Prop) (op : Op) (ty : TypeId) (pos : String) (aft : Array Edge) (l : List Oper) (a : List Nat) (an : List (List Nat)) : opsF P N tg Q (⟨some d, op, ty, pos, aft, none⟩ :: l) (a :: an) A H0 M = opF P N d op A H0 M fun r b => Ob (r.scrub (bad tg a) = r) (match b with
    | none => opsF P N tg Q l an ((d, r) :: A) H0 M
    | some (d', B) => Ob (a.contains d' = true ∧ B.scrub (badB tg a d') = B) (opsF P N tg Q l an ((d, r) :: A) H0 (M.upd d' B))) := rfl
theorem opsF_none (tg : List Nat) (Q : Fr → Hp → Prop) (op : Op) (ty : TypeId) (pos : String) (aft : Array Edge) (l : List Oper) (a : List Nat) (an : List (List Nat)) : opsF P N tg Q (⟨none, op, ty, pos, aft, none⟩ :: l) (a :: an) A H0 M = opF P N 0 op A H0 M fun r b => Ob (r.scrub (bad tg a) = r) (match b with
    | none => opsF P N tg Q l an A H0 M
    | some (d', B) => Ob (a.contains d' = true ∧ B.scrub (badB tg a d') = B) (opsF P N tg Q l an A H0 (M.upd d' B))) := rfl
end
attribute [go_sem ↓] opF_move opF_load opF_fieldAddr opF_indexAddr opF_nilCheck opF_call opF_binOp opF_build opF_bs opF_mk opF_ins opF_box opF_alloc opsF_nil opsF_some opsF_none
end
end Go.Av
end
/- Results that stand over blocks of our own; calls that read such blocks. -/
section
namespace Go.Av
section
variable {N : Cx} {A A' : Fr} {H H' : Hp}
theorem end_tup2 {P : Program} {fn : Func} {t u : Tmp} {a b : AV} {post : AV → Hp → Prop} (hr : fn.results.toList = [.tmp t, .tmp u]) (htu : t ≠ u) (s : Sub N A H [(t, a), (u, b)] H') (hp : post (.tup 2 (vecF [a, b])) H') : endQ P N fn post .ret A H :=
  ⟨_, _, s, by rw [hr]; simp only [resVC, Fr.get, if_true, withA_some, htu, if_false]; exact hp⟩
/-- What is told is told anew before a region, if slot t was told last. -/
theorem awp_cutR {P : Program} (id t : Nat) {l : Array Oper} {b : Bool} {x : AV} {A0 : Fr} {Q : Exit → Fr → Hp → Prop} (hs : Sub N ((t, x) :: A0) H A' H') (h : AWP P N (.region id l b) Q A' H') : AWP P N (.region id l b) Q ((t, x) :: A0) H := awp_sub hs h
/-- Names that a contract's results may bear. -/
def pM (h : Nat) : Bool := decide (1000000 ≤ h)
theorem pM_low {h : Nat} (hh : h < 1000000) : pM h = false := by simp [pM]; omega
theorem pM_high {h : Nat} (hh : 1000000 ≤ h) : pM h = true := by simp [pM, hh]
/-- A call that hands back a result over blocks of its own. -/
theorem callHp {P : Program} {f : FuncId} {args : List AV} {pn : Nat → Bool} {post : AV → Hp → Prop} {K : AV → Fr → Hp → Prop} (hac : AC P f args Hp.emp pn post) (hpn : N.pn = fun _ => false)
    (hK : ∀ r H', post r H' → (∀ h, H' h ≠ none → 1000000 ≤ h) ∧ r.scrub (fun h => !liveB H' h) = r ∧ H'.scrub (fun h => !liveB H' h) = H' ∧ K r (A.scrub pM) (H'.add (H.scrub pM))) : CallG P N f args A H K := by
  refine callG_of hac pM false (by simp [Hp.emp]) (FitsL.refl _) (fun _ => rfl) (by simp [Hp.emp]) (by simp [hpn]) ?_
  intro r H' hp
  obtain ⟨h1, h2, h3, h4⟩ := hK r H' hp
  refine ⟨fun h hn _ => pM_high (h1 h hn), by simp, ?_⟩
  rw [h2, h3]
  have e : Hp.over H' (H.scrub pM) Hp.emp = H'.add (H.scrub pM) := by
    funext h
    unfold Hp.over Hp.add
    cases H' h with
    | some B => rfl
    | none => simp [Hp.emp]
  rw [e]; exact h4
/-- A call that reads blocks that are pinned, and hands back a value. -/
theorem callPn {P : Program} {f : FuncId} {args : List AV} {Hin : Hp} {pn : Nat → Bool} {a : AV} {K : AV → Fr → Hp → Prop} (hH : Hp.le Hin H) (hac : AC P f args Hin pn (fun r H => r = a ∧ H = Hin)) (hp : ∀ h, Hin h ≠ none → pn h = true)
    (ha : a.scrub (fun h => !liveB Hin h) = a) (hs : Hin.scrub (fun h => !liveB Hin h) = Hin) (hK : K a A H) : CallG P N f args A H K := by
  refine callG_of hac (fun _ => false) false hH (FitsL.refl _) (fun _ => rfl) (fun h hn _ => hp h hn) (by simp) ?_
  rintro r H' ⟨rfl, rfl⟩
  refine ⟨fun h h1 h2 => absurd h2 h1, by simp, ?_⟩
  rw [ha, hs, Fr.scrub_none, Hp.scrub_none]
  have e : Hp.over H' H H' = H := by
    funext h
    unfold Hp.over
    cases e2 : H' h with
    | some B => exact (hH h B e2).symm
    | none => simp
  rw [e]; exact hK
theorem upd_add (X R : Hp) (h : Nat) (B : Blk) : (X.upd h B).add R = (X.add R).upd h B := by
  funext g
  unfold Hp.add Hp.upd
  by_cases e : g = h <;> simp [e]
theorem emp_add (R : Hp) : Hp.emp.add R = R := rfl
end
end Go.Av
end
/- Calls that read pinned blocks, and hand back new rows beside them. -/
section
namespace Go.Av
section
variable {P : Program} {N : Cx} {A : Fr} {H : Hp}
end
end Go.Av
end
/- Rows of rows, a row and a bool handed back at once. -/
section
namespace Go.Av
def nIIB (d e h : Nat) : Bool := famB d h || h == e
theorem nIIB_lit {d e h : Nat} (hh : h < 2097152) (h1 : h ≠ d) (h2 : h ≠ e) : nIIB d e h = false := by
  unfold nIIB
  rw [famB_lit hh, beq_eq_false_iff_ne.2 h1, beq_eq_false_iff_ne.2 h2]; rfl
theorem nIIB_d {d e : Nat} : nIIB d e d = true := by unfold nIIB famB; simp
theorem nIIB_e {d e : Nat} : nIIB d e e = true := by unfold nIIB; simp
section
variable {P : Program} {N : Cx} {A : Fr} {H : Hp}
theorem Hp.scrub_IIB {d e g k n : Nat} {xss : List (List Int)} (hd : d < 2097152) (he : e < 2097152) (_hg : g < 2097152) (hk : k ≤ 2097152) (hne : g ≠ d) (_hne2 : g ≠ e) : ((PR g xss k n).add H).scrub (nIIB d e) = (PR g xss k n).add (H.scrub (nIIB d e)) := by
  have hs : ∀ i, i < k → nIIB d e (sub g i) = false := fun i hi => by
    have h1 := sub_ge g i; rw [FB_eq] at h1
    have h2 : i < FB := by rw [FB_eq]; omega
    have h3 : sub g i ≠ e := by omega
    have h4 : sub g i ≠ d := by omega
    simp [nIIB, famB, h3, h4, sub_div h2, hne]
  funext x
  simp only [Hp.scrub, Hp.add]
  cases hx : (PR g xss k n) x with
  | none => rfl
  | some B =>
    simp only [Option.map_some, Option.some.injEq]
    unfold PR at hx
    split at hx
    · simp only [Option.some.injEq] at hx; subst hx
      simp only [Blk.scrub]
      congr 1
      funext i
      exact mixF_plain_scrub hs i
    · split at hx
      · simp only [Option.some.injEq] at hx; subst hx; rfl
      · simp at hx
end
attribute [go_sem] nIIB_lit nIIB_d nIIB_e Hp.scrub_IIB
end Go.Av
end
/- Regions of open order: the first operations in any order, then a sequence, and a last operation that sets a constant, anywhere. -/
section
namespace Go.Av
section
variable {P : Program} {N : Cx} {A : Fr} {H : Hp}
variable (P N) in
end
end Go.Av
end
/- Dice and sources: a struct of bytes, a place and a number, pinned; calls that throw them. -/
section
namespace Go.Av
/-- Dice: the code's bytes, how many are used up, a number. -/
structure Dc where
  xs : List Int
  i : Nat
  h : Int
  hi : i ≤ xs.length
  hx : ∀ j, 0 ≤ xs.getD j 0 ∧ xs.getD j 0 ≤ 255
  hl : xs.length ≤ 4096
def u8v (n : Int) : AV := .v (.int .u8 n)
abbrev bts (xs : List Int) : AV := .list false 1 xs.length (cM u8v 0 xs)
def dF (k : IntKind) (d : Dc) : Nat → AV := vecF [bts d.xs, .v (.int .i64 (d.i)), .v (.int k d.h)]
@[go_sem] theorem scF_dF (p : Nat → Bool) (k : IntKind) (d : Dc) : scF p (dF k d) = dF k d := by
  unfold dF; rw [scF_vecF]; rfl
def DH (k : IntKind) (d : Dc) : Hp := Hp.emp.upd 1000000 (.cells 3 (dF k d))
/-- Dice again, and a result. -/
def postD (k : IntKind) (Q : AV → Prop) (r : AV) (H : Hp) : Prop := ∃ d : Dc, Q r ∧ H = DH k d
section
variable {P : Program} {N : Cx} {A A' : Fr} {H H' : Hp}
/-- Names turned, those that stay left where they are. -/
theorem Sub.layMp (ρ : Nat → Option Nat) (hpn : ∀ h, N.pn h = true → ρ h = some h) (hA : ∀ i c, A'.get i = some c → ∃ a, A.get i = some a ∧ Lay ρ a c)
    (hH : ∀ h B', H' h = some B' → (∃ g n f f', ρ h = some g ∧ B' = .cells n f' ∧ H g = some (.cells n f) ∧ ∀ i, i < n → Lay ρ (f i) (f' i)) ∨ (ρ h = none ∧ ∃ f, B' = .cells 0 f) ∨ (∃ g kv, ρ h = some g ∧ B' = .mp kv ∧ H g = some (.mp kv) ∧ ∀ x ∈ kv, x.2.plain))
    (hinj : ∀ h g k, H' h ≠ none → H' g ≠ none → ρ h = some k → ρ g = some k → h = g) : Sub N A H A' H' := by
  intro w0 S hS w tm L s
  have live : ∀ h k, H' h ≠ none → ρ h = some k → H k ≠ none := by
    intro h k hn e
    cases hB : H' h with
    | none => exact absurd hB hn
    | some B =>
      rcases hH h B hB with ⟨g, n, f, f', e1, _, e2, _⟩ | ⟨e1, _⟩ | ⟨g, kv, e1, _, e2, _⟩
      · rw [e] at e1; simp only [Option.some.injEq] at e1; subst e1; rw [e2]; simp
      · rw [e] at e1; simp at e1
      · rw [e] at e1; simp only [Option.some.injEq] at e1; subst e1; rw [e2]; simp
  have dec : ∀ h q, ((ρ h).bind L) = some q → ∃ k, ρ h = some k ∧ L k = some q := by
    intro h q hq
    cases e : ρ h with
    | none => rw [e] at hq; simp at hq
    | some k => rw [e] at hq; exact ⟨k, rfl, hq⟩
  have hok : ∀ b, okb S H L b → okb S H' (fun h => (ρ h).bind L) b := fun b hb => ⟨hb.1, fun h q hn hq => by
    obtain ⟨k, e1, e2⟩ := dec h q hq
    exact hb.2 k q (live h k hn e1) e2⟩
  refine ⟨fun h => (ρ h).bind L, s.keep, s.size, fun i c hc => ?_, fun h B hB => ?_, fun h q hn hq => ?_, fun h g q r hn hm hq hr e => ?_, fun h l hl => ?_⟩
  · obtain ⟨a, h1, h2⟩ := hA i c hc
    exact Rd.mono (fun b _ hb => hok b hb) (h2.rd _ (s.slot i a h1))
  · rcases hH h B hB with ⟨g, n, f, f', e1, rfl, e2, e3⟩ | ⟨e1, f, rfl⟩ | ⟨g, kv, e1, rfl, e2, e3⟩
    · have hb := s.blk g _ e2
      simp only [e1, Option.bind_some]
      cases hl : L g with
      | none => rw [hl] at hb; exact hb
      | some q =>
        rw [hl] at hb
        obtain ⟨cs, e, k1, k2, k3⟩ := hb
        exact ⟨cs, e, k1, k2, fun i hi => let ⟨c, k4, k5⟩ := k3 i hi; ⟨c, k4, Rd.mono (fun b _ hb => hok b hb) ((e3 i hi).rd _ k5)⟩⟩
    · simp only [e1, Option.bind_none]; rfl
    · have hb := s.blk g _ e2
      simp only [e1, Option.bind_some]
      cases hl : L g with
      | none => rw [hl] at hb; exact hb.elim
      | some q =>
        rw [hl] at hb
        obtain ⟨es, clock, k1, k2, k3⟩ := hb
        exact ⟨es, clock, k1, k2, fun i e he => let ⟨a, k4, k5⟩ := k3 i e he; ⟨a, k4, Rd.mono (fun b _ hb => hok b hb) (Rd.plain a _ _ _ (e3 _ (List.mem_of_getElem? k4)) k5)⟩⟩
  · obtain ⟨k, e1, e2⟩ := dec h q hq
    exact s.own k q (live h k hn e1) e2
  · obtain ⟨k1, e1, e2⟩ := dec h q hq
    obtain ⟨k2, e3, e4⟩ := dec g r hr
    have := s.inj k1 k2 q r (live h k1 hn e1) (live g k2 hm e3) e2 e4 e
    subst this
    exact hinj h g k1 hn hm e1 e3
  · cases e : N.pn h with
    | false => rw [hS.free h e] at hl; simp at hl
    | true => show (ρ h).bind L = l; rw [hpn h e]; exact s.pin h l hl
/-- A call that throws dice. -/
theorem callD {f : FuncId} {args : List AV} {k : IntKind} {d : Dc} {Q : AV → Prop} {K : AV → Fr → Hp → Prop} (hH : H 1000000 = some (.cells 3 (dF k d))) (hac : AC P f args (DH k d) pM (postD k Q)) (hQ : ∀ r, Q r → ∀ p, r.scrub p = r)
    (hK : ∀ r d', Q r → K r A (H.upd 1000000 (.cells 3 (dF k d')))) : CallG P N f args A H K := by
  have hle : Hp.le (DH k d) H := Hp.le_upd hH (Hp.le_emp _)
  have hpm : ∀ h, DH k d h ≠ none → h = 1000000 := fun h hn => by
    unfold DH Hp.upd at hn
    by_cases e : h = 1000000
    · exact e
    · rw [if_neg e] at hn; exact absurd rfl hn
  refine callG_of hac (fun _ => false) false hle (FitsL.refl _) (fun _ => rfl) (fun h hn _ => by rw [hpm h hn]; rfl) (by simp) ?_
  rintro r H' ⟨d', hq, rfl⟩
  have hsame : ∀ h, DH k d' h ≠ none → h = 1000000 := fun h hn => by
    unfold DH Hp.upd at hn
    by_cases e : h = 1000000
    · exact e
    · rw [if_neg e] at hn; exact absurd rfl hn
  refine ⟨fun h h1 h2 => ?_, by simp, ?_⟩
  · rw [hsame h h1] at h2; exact absurd h2 (by unfold DH Hp.upd; simp)
  rw [hQ r hq, Fr.scrub_none, Hp.scrub_none]
  have e : Hp.over ((DH k d').scrub fun h => !liveB (DH k d') h) H (DH k d) = H.upd 1000000 (.cells 3 (dF k d')) := by
    unfold DH
    rw [Hp.scrub_upd, Blk.scrub_cells, scF_dF]
    funext h
    unfold Hp.over Hp.upd
    by_cases e : h = 1000000
    · simp only [if_pos e]
    · simp only [if_neg e]
      simp [Hp.scrub, Hp.emp]
  rw [e]; exact hK r d' hq
theorem end_postS {fn : Func} {t : Tmp} {a : AV} {H' : Hp} {post : AV → Hp → Prop} (hr : fn.results.toList = [.tmp t]) (s : Sub N A H [(t, a)] H') (hp : post a H') : endQ P N fn post .ret A H :=
  ⟨_, _, s, by rw [hr]; simp only [resVC, Fr.get, if_true]; exact hp⟩
/-- A call that makes dice. -/
theorem callRoll {f : FuncId} {args : List AV} {k : IntKind} {pn : Nat → Bool} {K : AV → Fr → Hp → Prop} (hac : AC P f args Hp.emp pn (postD k fun r => r = .ref 1000000 0)) (hpn : N.pn = fun _ => false) (hK : ∀ d, K (.ref 1000000 0) (A.scrub pM) ((H.scrub pM).upd 1000000 (.cells 3 (dF k d)))) : CallG P N f args A H K := by
  refine callHp hac hpn fun r H' hp => ?_
  obtain ⟨d, rfl, rfl⟩ := hp
  have hl : liveB (DH k d) 1000000 = true := rfl
  refine ⟨fun h hn => ?_, ?_, ?_, ?_⟩
  · unfold DH Hp.upd at hn
    by_cases e : h = 1000000
    · omega
    · rw [if_neg e] at hn; exact absurd rfl hn
  · simp [AV.scrub, hl]
  · unfold DH
    rw [Hp.scrub_upd, Blk.scrub_cells, scF_dF]
    rfl
  · have e : (DH k d).add (H.scrub pM) = (H.scrub pM).upd 1000000 (.cells 3 (dF k d)) := by
      unfold DH; rw [upd_add, emp_add]
    rw [e]; exact hK d
/-- The end of a function whose result lies in a cell; what it holds is frozen. -/
theorem end_postCF (D : Nat → Prop) {fn : Func} {t : Tmp} {ty : TypeId} {h n : Nat} {z : List Value} {f g : Nat → AV} {H' : Hp} {post : AV → Hp → Prop} (hr : fn.results.toList = [.cell t ty]) (hA : A.get t = some (.ref h 0)) (hty : tyOf P ty = some ⟨true, n, z⟩) (hH : H h = some (.cells n f)) (hg : ∀ i, i < n → Fits H D (f i) (g i))
    (hl : LeF D H' H) (hne : H' h = none) (hD : ¬ D h) (hp : post (.agg n g) H') : endQ P N fn post .ret A H := by
  refine ⟨[(t, .ref h 0)], H'.upd h (.cells n g), Sub.fits D (fun i c hc => ?_) (leF_upd hH ⟨rfl, hg⟩ hl hD), ?_⟩
  · simp only [Fr.get] at hc
    split at hc
    · rename_i e; subst e; cases hc; exact ⟨_, hA, .refl _⟩
    · cases hc
  rw [hr]
  simp only [resVC, Fr.get, if_true, withA_some, hty, ldVC, Hp.upd, Ob]
  refine ⟨by omega, H', fun x B hB => ?_, ?_⟩
  · unfold Hp.upd
    split
    · rename_i e; subst e; rw [hne] at hB; cases hB
    · exact hB
  · have : (fun j => g (0 + j)) = g := by funext j; rw [Nat.zero_add]
    rw [this]; exact hp
end
end Go.Av
end
/- Sources: calls that draw and hand back a row of their own; rows cut shorter. -/
section
namespace Go.Av
section
variable {P : Program} {N : Cx} {A A' : Fr} {H H' : Hp}
theorem Sub.shrink {h n m : Nat} {f : Nat → AV} (hH : H h = some (.cells n f)) (hm : m ≤ n) : Sub N A H A (H.upd h (.cells m f)) := by
  intro w0 S hS w tm L s
  have nn : ∀ x, (H.upd h (.cells m f)) x ≠ none → H x ≠ none := fun x hx => by
    unfold Hp.upd at hx
    by_cases e : x = h
    · subst e; rw [hH]; simp
    · rwa [if_neg e] at hx
  have ok : ∀ b, okb S H L b → okb S (H.upd h (.cells m f)) L b := fun b hb => ⟨hb.1, fun x q hx hq => hb.2 x q (nn x hx) hq⟩
  refine ⟨L, s.keep, s.size, fun i a hi => Rd.mono (fun b _ hb => ok b hb) (s.slot i a hi), fun x B hB => ?_, fun x q hx hq => s.own x q (nn x hx) hq, fun x y q r hx hy => s.inj x y q r (nn x hx) (nn y hy), s.pin⟩
  unfold Hp.upd at hB
  split at hB
  · rename_i e; subst e
    simp only [Option.some.injEq] at hB; subst hB
    have hb := s.blk x _ hH
    cases hl : L x with
    | none => rw [hl] at hb; simp only [BlkOk] at hb ⊢; omega
    | some q =>
      rw [hl] at hb
      obtain ⟨cs, e, k1, k2, k3⟩ := hb
      exact ⟨cs, e, k1, by omega, fun i hi => let ⟨c, k4, k5⟩ := k3 i (by omega); ⟨c, k4, Rd.mono (fun b _ hb => ok b hb) k5⟩⟩
  · have hb := s.blk x B hB
    have := BlkOk.step (w := w) (w' := w) (wh := w) (wh' := w) (ok := okb S H L) (ok' := okb S (H.upd h (.cells m f)) L) (L := L) (L' := L) (p := fun _ => false) (fun b _ hb => ⟨ok b hb, rfl⟩) (Shape.refl w) (fun _ _ => rfl) (fun _ _ => rfl) hb
    rwa [Blk.scrub_none] at this
end
end Go.Av
end
/- Calls whose result is told by a property, and that leave nothing. -/
section
namespace Go.Av
section
variable {P : Program} {N : Cx} {A A' : Fr} {H H' : Hp}
theorem endQ_sub {fn : Func} {post : AV → Hp → Prop} (s : Sub N A H A' H') (h : endQ P N fn post .ret A' H') : endQ P N fn post .ret A H :=
  let ⟨A2, H2, s2, h2⟩ := h
  ⟨A2, H2, s.trans s2, h2⟩
end
end Go.Av
end
/- From a law's contract over abstract values to its row: how Go's data read. -/
section
namespace Go.Av
open Go.ChangeShapes Go.WideShapes Go.ChangeAt Go.RowKit

section
variable {P : Program} {H : Type} {enc : TypeId × Value → H} {w : World} {base : Nat} {spare : Nat → Bool} {held : Bool} {L : Loc}

/-- Every block may be read. -/
abbrev All : Nat → Prop := fun _ => True

theorem law_calls {f : FuncId} {args : List AV} {vs : Array Value} (hac : AC P f args Hp.emp (fun _ => false) (retV (.v (.bool true)))) (hr : RdArgs w All (fun _ => none) args vs) :
    Calls P f vs w fun e w' => e = .returned (.bool true) ∧ Below w.heap.size w w' := by
  let S : Rg := ⟨fun b => w.heap.size ≤ b, fun _ => True, fun _ _ => trivial, fun _ => none⟩
  have s0 : Sim 0 w S w #[] (fun _ => none) [] Hp.emp := ⟨Keep.refl w _, rfl, fun i a h => by simp [Fr.get] at h, fun h B hB => by simp [Hp.emp] at hB, fun h q hn => by simp [Hp.emp] at hn, fun h g q r hn => by simp [Hp.emp] at hn, fun h l hl => by simp [S] at hl⟩
  refine (hac.2 S w (fun _ => none) vs (fun b h => h) (fun h _ => rfl) s0 ⟨hr.1, fun i a hi => ?_⟩).mono ?_
  · obtain ⟨u, k1, k2⟩ := hr.2 i a hi
    exact ⟨u, k1, Rd.mono (fun b _ _ => ⟨trivial, fun h q hn => by simp [Hp.emp] at hn⟩) k2⟩
  · rintro e w' ⟨u, L', r, H', rfl, s2, hr, rfl, rfl⟩
    have hu : u = .bool true := hr
    subst hu
    exact ⟨rfl, ⟨s2.keep.os, s2.keep.tape, s2.keep.output, s2.keep.size, fun k hk => s2.keep.blk k hk (by show ¬ w.heap.size ≤ k; omega)⟩⟩

theorem cells_spot {a : Addr} {n : Nat} {V : Nat → Value} (h : ∀ i, i < n → w.cell? (a.add i) = some (V i)) : ∀ i, i < n → a.spot = none ∧ w.cell? ⟨a.block, a.off + i, none⟩ = some (V i) := by
  intro i hi
  have h0 := h 0 (by omega)
  have hs : a.spot = none := by
    have e : a.add 0 = a := by simp [Addr.add]
    rw [e] at h0
    unfold World.cell? at h0
    cases hsp : a.spot with
    | none => rfl
    | some k =>
      simp only [hsp] at h0
      split at h0 <;> simp at h0
  refine ⟨hs, ?_⟩
  have := h i hi
  rwa [Addr_eq hs, Addr_add] at this

theorem rd_list {α : Type} (g : α → AV) (d : α) {xs : List α} {a : Addr} {len cap : Nat} {V : Nat → Value} (hl : xs.length = len) (hc : len ≤ cap) (h : ∀ i, i < len → w.cell? (a.add i) = some (V i)) (hr : ∀ i, i < len → ∀ L', Rd w All L' (g (xs.getD i d)) (V i)) :
    Rd w All L (.list false 1 xs.length (cM g d xs)) (.slice (some a) len cap) := by
  subst hl
  refine ⟨some a, cap, rfl, hc, by simp, by simp, fun p hp i hi => ?_⟩
  simp only [Option.some.injEq] at hp
  subst hp
  rw [Nat.mul_one] at hi
  obtain ⟨k1, k2⟩ := cells_spot h i hi
  exact ⟨k1, trivial, V i, k2, hr i hi⟩

theorem trod_cs {t : TypeId} {v : Value} {d : DataW H} {p : List MemPlace} (h : DataW.Trod enc P w base spare held t v d p) (hv : v.cells = #[v]) : ∃ fuel, DataW.trod enc P w base spare held fuel t [v] = some (d, p) := by
  obtain ⟨fuel, hf⟩ := h
  exact ⟨fuel, by rw [hv] at hf; exact hf⟩

theorem rdArgs_list {ok : Nat → Prop} : ∀ (as : List AV) (vs : List Value), as.length = vs.length → (∀ (i : Nat) (a : AV) (v : Value), as[i]? = some a → vs[i]? = some v → Rd w ok L a v) → RdArgs w ok L as vs.toArray := by
  intro as vs hl h
  refine ⟨by simp [hl], fun i a hi => ?_⟩
  have hlt := (List.getElem?_eq_some_iff.1 hi).1
  exact ⟨vs[i]'(by omega), by simp, h i a _ hi (by simp)⟩
theorem rdArgs1 {ok : Nat → Prop} {a : AV} {v : Value} (h : Rd w ok L a v) : RdArgs w ok L [a] #[v] := rdArgs_list [a] [v] rfl fun i a' v' h1 h2 => by
  match i with
  | 0 => simp at h1 h2; subst h1 h2; exact h
  | i + 1 => simp at h1
end
end Go.Av
end
/- Syntax trees in postorder: the sizes of subtrees, and the stack that meets them; plain. -/
section
namespace Go.Nt
set_option linter.unusedVariables false
set_option linter.unusedSimpArgs false
structure Nd where
  kind : Int
  move : Int
  count : Int
  inv : Int
  split : Int
  kids : List Int
  deriving DecidableEq
def nd0 : Nd := ⟨0, 0, 0, 0, 0, []⟩
abbrev kd (xs : List Nd) (i : Nat) : List Int := (xs.getD i nd0).kids
/-- The sizes of the subtrees that end below p, from the last to the first; m nodes so far. -/
def szK (r : Nat → Option Nat) : List Int → Nat → Nat → Option Nat
  | [], _, m => some m
  | c :: cs, p, m => if 0 < p ∧ c = (p : Int) - 1 then (match r (p - 1) with | none => none | some n => szK r cs (p - n) (m + n)) else none
def szF (xs : List Nd) : Nat → Nat → Option Nat
  | 0, _ => none
  | f + 1, i => szK (szF xs f) (kd xs i).reverse i 1
def sz (xs : List Nd) (i : Nat) : Option Nat := szF xs (i + 1) i
theorem szK_congr {r r' : Nat → Option Nat} : ∀ (cs : List Int) (p m : Nat), (∀ j, j < p → r j = r' j) → szK r cs p m = szK r' cs p m
  | [], p, m, h => rfl
  | c :: cs, p, m, h => by
    unfold szK
    split
    · rename_i hc
      rw [h (p - 1) (by omega)]
      cases e : r' (p - 1) with
      | none => rfl
      | some n => exact szK_congr cs (p - n) (m + n) fun j hj => h j (by omega)
    · rfl
theorem szF_eq (xs : List Nd) : ∀ (i f : Nat), i < f → szF xs f i = sz xs i := by
  intro i
  induction i using Nat.strongRecOn with
  | _ i ih =>
    intro f hf
    obtain ⟨g, rfl⟩ : ∃ g, f = g + 1 := ⟨f - 1, by omega⟩
    show szK (szF xs g) _ _ _ = szK (szF xs i) _ _ _
    refine szK_congr _ _ _ fun j hj => ?_
    rw [ih j hj g (by omega), ih j hj i hj]
theorem sz_eq (xs : List Nd) (i : Nat) : sz xs i = szK (sz xs) (kd xs i).reverse i 1 := by
  show szK (szF xs i) _ _ _ = _
  exact szK_congr _ _ _ fun j hj => szF_eq xs j i hj
/-- One node meets its children on top of the stack. -/
def stp (xs : List Nd) (i : Nat) (st : List Int) : Option (List Int) :=
  if (kd xs i).length ≤ st.length ∧ st.drop (st.length - (kd xs i).length) = kd xs i then some (st.take (st.length - (kd xs i).length) ++ [(i : Int)]) else none
def runF (xs : List Nd) (a : Nat) : Nat → List Int → Option (List Int)
  | 0, st => some st
  | k + 1, st => (runF xs a k st).bind (stp xs (a + k))
theorem runF_add (xs : List Nd) (a : Nat) : ∀ (l k : Nat) (st : List Int), runF xs a (k + l) st = (runF xs a k st).bind (runF xs (a + k) l)
  | 0, k, st => by
    rw [Nat.add_zero]
    cases runF xs a k st with
    | none => rfl
    | some s => rfl
  | l + 1, k, st => by
    show (runF xs a (k + l) st).bind (stp xs (a + (k + l))) = _
    rw [runF_add xs a l k st]
    cases runF xs a k st with
    | none => rfl
    | some s =>
      show (runF xs (a + k) l s).bind (stp xs (a + (k + l))) = (runF xs (a + k) l s).bind (stp xs (a + k + l))
      rw [Nat.add_assoc]
theorem szK_run {xs : List Nd} {i : Nat} (ih : ∀ j n, j < i → sz xs j = some n → 1 ≤ n ∧ n ≤ j + 1 ∧ ∀ st, runF xs (j + 1 - n) n st = some (st ++ [(j : Int)])) :
    ∀ (cs : List Int) (p m0 m : Nat), p ≤ i → szK (sz xs) cs p m0 = some m → m0 + cs.length ≤ m ∧ m - m0 ≤ p ∧ ∀ st, runF xs (p - (m - m0)) (m - m0) st = some (st ++ cs.reverse)
  | [], p, m0, m, hp, h => by
    simp only [szK, Option.some.injEq] at h
    subst h
    exact ⟨by simp, by omega, fun st => by rw [Nat.sub_self]; simp [runF]⟩
  | c :: cs, p, m0, m, hp, h => by
    unfold szK at h
    split at h
    · rename_i hc
      cases e : sz xs (p - 1) with
      | none => rw [e] at h; cases h
      | some n =>
        rw [e] at h
        obtain ⟨i1, i2, i3⟩ := ih (p - 1) n (by omega) e
        obtain ⟨k1, k2, k3⟩ := szK_run ih cs (p - n) (m0 + n) m (by omega) h
        refine ⟨by rw [List.length_cons]; omega, by omega, fun st => ?_⟩
        have e1 : runF xs (p - (m - m0)) (m - m0) st = runF xs (p - n - (m - (m0 + n))) ((m - (m0 + n)) + n) st := by congr 1 <;> omega
        rw [e1, runF_add, k3 st]
        show runF xs (p - n - (m - (m0 + n)) + (m - (m0 + n))) n (st ++ cs.reverse) = _
        rw [show p - n - (m - (m0 + n)) + (m - (m0 + n)) = p - 1 + 1 - n by omega, i3, List.reverse_cons, ← List.append_assoc, hc.2, show ((p - 1 : Nat) : Int) = (p : Int) - 1 by omega]
    · cases h
theorem sz_run (xs : List Nd) : ∀ (i n : Nat), sz xs i = some n → (1 ≤ n ∧ (kd xs i).length < n) ∧ n ≤ i + 1 ∧ ∀ st, runF xs (i + 1 - n) n st = some (st ++ [(i : Int)]) := by
  intro i
  induction i using Nat.strongRecOn with
  | _ i ih =>
    intro n h
    rw [sz_eq] at h
    obtain ⟨k1, k2, k3⟩ := szK_run (i := i) (fun j m hj hm => let ⟨a, b, c⟩ := ih j hj m hm; ⟨a.1, b, c⟩) _ i 1 n (Nat.le_refl _) h
    rw [List.length_reverse] at k1
    refine ⟨⟨by omega, by omega⟩, by omega, fun st => ?_⟩
    obtain ⟨l, rfl⟩ : ∃ l, n = l + 1 := ⟨n - 1, by omega⟩
    have e : runF xs (i - l) l st = some (st ++ kd xs i) := by
      have := k3 st
      rwa [List.reverse_reverse, Nat.add_sub_cancel] at this
    show (runF xs (i + 1 - (l + 1)) l st).bind (stp xs (i + 1 - (l + 1) + l)) = _
    rw [show i + 1 - (l + 1) = i - l by omega, e]
    show stp xs (i - l + l) (st ++ kd xs i) = _
    rw [Nat.sub_add_cancel (by omega)]
    unfold stp
    have hl : (st ++ kd xs i).length - (kd xs i).length = st.length := by simp
    rw [hl, List.take_left, List.drop_left, if_pos ⟨by simp, rfl⟩]
/-- The stack, from its top: each entry is a node whose subtree lies between the entry below and itself. -/
inductive Chain (xs : List Nd) : Nat → List Int → Prop
  | nil : Chain xs 0 []
  | cons {p n : Nat} {cs : List Int} : sz xs p = some n → n ≤ p + 1 → Chain xs (p + 1 - n) cs → Chain xs (p + 1) ((p : Int) :: cs)
theorem chain_nil {xs : List Nd} {k : Nat} (h : Chain xs k []) : k = 0 := by cases h; rfl
theorem chain_szK {xs : List Nd} : ∀ (cs rest : List Int) (p m : Nat), Chain xs p (cs ++ rest) → ∃ q, q ≤ p ∧ szK (sz xs) cs p m = some (m + (p - q)) ∧ Chain xs q rest
  | [], rest, p, m, h => ⟨p, Nat.le_refl _, by simp [szK], h⟩
  | c :: cs, rest, p, m, h => by
    rw [List.cons_append] at h
    cases h with
    | @cons p n _ h1 h2 h3 =>
      obtain ⟨q, hq, e, h4⟩ := chain_szK cs rest _ (m + n) h3
      have hn := (sz_run xs p n h1).1.1
      refine ⟨q, by omega, ?_, h4⟩
      unfold szK
      rw [if_pos ⟨by omega, by omega⟩, show p + 1 - 1 = p from rfl, h1]
      show szK (sz xs) cs (p + 1 - n) (m + n) = _
      rw [e]; congr 1; omega
theorem stp_chain {xs : List Nd} {i : Nat} {st st' : List Int} (h : Chain xs i st.reverse) (e : stp xs i st = some st') : Chain xs (i + 1) st'.reverse := by
  unfold stp at e
  split at e
  · rename_i hc
    simp only [Option.some.injEq] at e
    subst e
    have es : st.reverse = (kd xs i).reverse ++ (st.take (st.length - (kd xs i).length)).reverse := by
      have := List.take_append_drop (st.length - (kd xs i).length) st
      rw [hc.2] at this
      rw [← List.reverse_append, this]
    rw [es] at h
    obtain ⟨q, hq, e1, h2⟩ := chain_szK _ _ i 1 h
    rw [List.reverse_append]
    show Chain xs (i + 1) ((i : Int) :: _)
    have e2 : sz xs i = some (1 + (i - q)) := by rw [sz_eq]; exact e1
    refine .cons e2 (by omega) ?_
    rw [show i + 1 - (1 + (i - q)) = q by omega]; exact h2
  · cases e
theorem run_chain {xs : List Nd} : ∀ (k : Nat) (st : List Int), runF xs 0 k [] = some st → Chain xs k st.reverse
  | 0, st, h => by simp only [runF, Option.some.injEq] at h; subst h; exact .nil
  | k + 1, st, h => by
    unfold runF at h
    cases e : runF xs 0 k [] with
    | none => rw [e] at h; cases h
    | some s =>
      rw [e, Nat.zero_add] at h
      exact stp_chain (run_chain k s e) h
theorem chain_one {xs : List Nd} {n : Nat} {c : Int} (h : Chain xs n [c]) : sz xs (n - 1) = some n := by
  cases h with
  | @cons p m _ h1 h2 h3 =>
    have := chain_nil h3
    rw [show p + 1 - 1 = p from rfl, h1]; congr 1; omega
theorem valid_iff (xs : List Nd) (n : Nat) (hn : 0 < n) : sz xs (n - 1) = some n ↔ ∃ st, runF xs 0 n [] = some st ∧ st.length = 1 := by
  constructor
  · intro h
    obtain ⟨_, _, k⟩ := sz_run xs _ _ h
    have := k []
    rw [show n - 1 + 1 - n = 0 by omega] at this
    exact ⟨_, this, rfl⟩
  · rintro ⟨st, h, hl⟩
    have hc := run_chain n st h
    obtain ⟨c, rfl⟩ : ∃ c, st = [c] := by
      match st, hl with
      | [c], _ => exact ⟨c, rfl⟩
    rw [List.reverse_singleton] at hc
    exact chain_one hc
/-- The children are nodes before, and their subtrees cover what lies before. -/
theorem szK_mem {xs : List Nd} : ∀ (cs : List Int) (p m0 m : Nat), szK (sz xs) cs p m0 = some m → m0 ≤ m ∧ (∀ c ∈ cs, ∃ q n : Nat, c = (q : Int) ∧ q < p ∧ sz xs q = some n) ∧
      ∀ q, p - (m - m0) ≤ q → q < p → ∃ j n : Nat, (j : Int) ∈ cs ∧ sz xs j = some n ∧ j + 1 - n ≤ q ∧ q ≤ j
  | [], p, m0, m, h => by
    simp only [szK, Option.some.injEq] at h
    subst h
    exact ⟨Nat.le_refl _, fun c hc => absurd hc (by simp), fun q h1 h2 => by omega⟩
  | c :: cs, p, m0, m, h => by
    unfold szK at h
    split at h
    · rename_i hc
      cases e : sz xs (p - 1) with
      | none => rw [e] at h; cases h
      | some n =>
        rw [e] at h
        obtain ⟨k0, k1, k2⟩ := szK_mem cs (p - n) (m0 + n) m h
        refine ⟨by omega, fun x hx => ?_, fun q h1 h2 => ?_⟩
        · rcases List.mem_cons.1 hx with rfl | hx
          · exact ⟨p - 1, n, by omega, by omega, e⟩
          · obtain ⟨q, l, a, b, d⟩ := k1 x hx
            exact ⟨q, l, a, by omega, d⟩
        · by_cases hq : q < p - n
          · obtain ⟨j, l, a, b⟩ := k2 q (by omega) hq
            exact ⟨j, l, List.mem_cons_of_mem _ a, b⟩
          · exact ⟨p - 1, n, by rw [List.mem_cons]; left; omega, e, by omega, by omega⟩
    · cases h
theorem sz_mem {xs : List Nd} {i n : Nat} (h : sz xs i = some n) : (∀ c ∈ kd xs i, ∃ q m : Nat, c = (q : Int) ∧ q < i ∧ sz xs q = some m) ∧
    ∀ q, i + 1 - n ≤ q → q < i → ∃ j m : Nat, (j : Int) ∈ kd xs i ∧ j < i ∧ sz xs j = some m ∧ j + 1 - m ≤ q ∧ q ≤ j := by
  rw [sz_eq] at h
  obtain ⟨h0, h1, h2⟩ := szK_mem _ _ _ _ h
  refine ⟨fun c hc => h1 c (List.mem_reverse.2 hc), fun q a b => ?_⟩
  obtain ⟨j, m, c, d⟩ := h2 q (by omega) b
  obtain ⟨q', m', e1, e2, _⟩ := h1 _ c
  exact ⟨j, m, List.mem_reverse.1 c, by omega, d⟩
/-- What goes down from a node to its children holds of all nodes of its subtree. -/
theorem below {xs : List Nd} (Q : Nat → Prop) (step : ∀ i, Q i → ∀ j : Nat, (j : Int) ∈ kd xs i → Q j) : ∀ (i n : Nat), sz xs i = some n → Q i → ∀ q, i + 1 - n ≤ q → q ≤ i → Q q := by
  intro i
  induction i using Nat.strongRecOn with
  | _ i ih =>
    intro n h hi q h1 h2
    by_cases e : q = i
    · subst e; exact hi
    · obtain ⟨j, m, a, b, c, d⟩ := (sz_mem h).2 q h1 (by omega)
      exact ih j b m c (step i hi j a) q d.1 d.2
theorem sz_all {xs : List Nd} {n : Nat} (h : sz xs (n - 1) = some n) : ∀ q, q < n → ∃ m, sz xs q = some m := by
  intro q hq
  refine below (fun q => ∃ m, sz xs q = some m) (fun i ⟨m, hm⟩ j hj => ?_) (n - 1) n h ⟨n, h⟩ q (by omega) (by omega)
  obtain ⟨q', m', e1, _, e2⟩ := (sz_mem hm).1 _ hj
  have : j = q' := by omega
  subst this; exact ⟨m', e2⟩
theorem kid_lt {xs : List Nd} {n : Nat} (h : sz xs (n - 1) = some n) {q : Nat} (hq : q < n) {k : Nat} (hk : k < (kd xs q).length) : 0 ≤ (kd xs q).getD k 0 ∧ (kd xs q).getD k 0 < q := by
  obtain ⟨m, hm⟩ := sz_all h q hq
  have hmem : (kd xs q).getD k 0 ∈ kd xs q := by
    rw [List.getD_eq_getElem?_getD, List.getElem?_eq_getElem hk]; exact List.getElem_mem hk
  obtain ⟨j, _, e, hj, _⟩ := (sz_mem hm).1 _ hmem
  omega
theorem kids_len {xs : List Nd} {n : Nat} (h : sz xs (n - 1) = some n) {q : Nat} (hq : q < n) : (kd xs q).length ≤ q := by
  obtain ⟨m, hm⟩ := sz_all h q hq
  have := sz_run xs q m hm
  omega
/-- A node's fields are valid; apart from the order of its children. -/
def ndOk (many : Int) (x : Nd) (last : Bool) : Prop :=
  (1 ≤ x.count ∧ x.count ≤ 99) ∧ (0 ≤ x.inv ∧ x.inv ≤ 1) ∧
  ((last = true ∧ x.kind = 2 ∧ x.count = 1 ∧ x.inv = 0 ∧ x.move = 0 ∧ x.split = 0) ∨
   (last = false ∧ ((x.kind = 1 ∧ (0 ≤ x.move ∧ x.move ≤ many - 1) ∧ x.split = 0 ∧ x.kids.length = 0) ∨ (x.kind = 2 ∧ x.move = 0 ∧ x.split = 0 ∧ 0 < x.kids.length) ∨
     ((x.kind = 3 ∨ x.kind = 4) ∧ x.move = 0 ∧ 1 ≤ x.split ∧ x.split ≤ (x.kids.length : Int) - 1))))
instance (many : Int) (x : Nd) (last : Bool) : Decidable (ndOk many x last) := by unfold ndOk; infer_instance
/-- A syntax tree. -/
def isNt (many : Int) (xs : List Nd) : Prop :=
  (1 ≤ many ∧ many ≤ 8) ∧ (1 ≤ xs.length ∧ xs.length ≤ 200) ∧ (∀ i, i < xs.length → ndOk many (xs.getD i nd0) (decide (i + 1 = xs.length))) ∧ sz xs (xs.length - 1) = some xs.length
instance (many : Int) (xs : List Nd) : Decidable (isNt many xs) := by unfold isNt; infer_instance
end Go.Nt
end

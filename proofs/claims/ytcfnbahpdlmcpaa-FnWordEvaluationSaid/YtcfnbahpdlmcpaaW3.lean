import Derived.Test.YtcfnbahpdlmcpaaW2
import Derived.ProofKit
import Derived.OpenShut
import Derived.ShutString
import Derived.ChangeOld
import Derived.Below
import Derived.Carry
import Derived.Deep.Slices
import Derived.Lib.SmallJoins
import Derived.Calls
/- The heap told anew: names turned, nil told as a slice of our own, and cells told one by one. -/
section
namespace Go.Av
/-- A hypothesis that the walk is not to see. -/
structure Hold (p : Prop) : Prop where
  h : p
section
variable {N : Cx} {A A' : Fr} {H H' : Hp}
/-- How what is told before (by old names) is told afterwards (by new ones): ρ gives the old name of a new one; a new name without an old one is a nil slice. -/
inductive Lay (ρ : Nat → Option Nat) : AV → AV → Prop
  | own {h g off sz n : Nat} : ρ h = some g → Lay ρ (.own g off sz n) (.own h off sz n)
  | ref {h g off : Nat} : ρ h = some g → Lay ρ (.ref g off) (.ref h off)
  | nil {h sz : Nat} : ρ h = none → Lay ρ (.v (.slice none 0 0)) (.own h 0 sz 0)
  | plain {a : AV} : a.plain → Lay ρ a a
  | agg {n : Nat} {f g : Nat → AV} : (∀ i, i < n → Lay ρ (f i) (g i)) → Lay ρ (.agg n f) (.agg n g)
  | map {h g : Nat} : ρ h = some g → Lay ρ (.map g) (.map h)
  | dead (a : AV) : Lay ρ a .dead
theorem Lay.rd {ρ : Nat → Option Nat} {w : World} {ok : Nat → Prop} {L : Loc} {a c : AV} (h : Lay ρ a c) : ∀ u, Rd w ok L a u → Rd w ok (fun h => (ρ h).bind L) c u := by
  induction h with
  | @own h g off sz n e => intro u hu; simp only [Rd, e, Option.bind_some] at hu ⊢; exact hu
  | @ref h g off e => intro u hu; simp only [Rd, e, Option.bind_some] at hu ⊢; exact hu
  | @nil h sz e => intro u hu; simp only [Rd, e, Option.bind_none] at hu ⊢; exact ⟨hu, trivial⟩
  | @plain a hp => intro u hu; exact Rd.plain a _ _ u hp hu
  | @agg n f g _ ih => rintro u ⟨cs, h1, h2, h3⟩; exact ⟨cs, h1, h2, fun i hi => let ⟨c, k1, k2⟩ := h3 i hi; ⟨c, k1, ih i hi _ k2⟩⟩
  | @map h g e => intro u hu; simp only [Rd, e, Option.bind_some] at hu ⊢; exact hu
  | dead a => intro u _; trivial
/-- .. where some blocks are maps. -/
theorem Sub.layM (ρ : Nat → Option Nat) (hpn : N.pn = fun _ => false) (hA : ∀ i c, A'.get i = some c → ∃ a, A.get i = some a ∧ Lay ρ a c)
    (hH : ∀ h B', H' h = some B' → (∃ g n f f', ρ h = some g ∧ B' = .cells n f' ∧ H g = some (.cells n f) ∧ ∀ i, i < n → Lay ρ (f i) (f' i)) ∨ (ρ h = none ∧ ∃ f, B' = .cells 0 f) ∨ (∃ g kv, ρ h = some g ∧ B' = .mp kv ∧ H g = some (.mp kv) ∧ ∀ x ∈ kv, x.2.plain))
    (hinj : ∀ h g k, H' h ≠ none → H' g ≠ none → ρ h = some k → ρ g = some k → h = g) : Sub N A H A' H' := by
  intro w0 S hS w tm L s
  have live : ∀ h k, H' h ≠ none → ρ h = some k → H k ≠ none := by
    intro h k hn e
    cases hB : H' h with
    | none => exact absurd hB hn
    | some B =>
      rcases hH h B hB with ⟨g, n, f, f', e1, _, e2, _⟩ | ⟨e1, _⟩ | ⟨g, kv, e1, _, e2, _⟩
      · rw [e] at e1; simp only [Option.some.injEq] at e1; subst e1; rw [e2]; simp
      · rw [e] at e1; simp at e1
      · rw [e] at e1; simp only [Option.some.injEq] at e1; subst e1; rw [e2]; simp
  have dec : ∀ h q, ((ρ h).bind L) = some q → ∃ k, ρ h = some k ∧ L k = some q := by
    intro h q hq
    cases e : ρ h with
    | none => rw [e] at hq; simp at hq
    | some k => rw [e] at hq; exact ⟨k, rfl, hq⟩
  have hok : ∀ b, okb S H L b → okb S H' (fun h => (ρ h).bind L) b := fun b hb => ⟨hb.1, fun h q hn hq => by
    obtain ⟨k, e1, e2⟩ := dec h q hq
    exact hb.2 k q (live h k hn e1) e2⟩
  refine ⟨fun h => (ρ h).bind L, s.keep, s.size, fun i c hc => ?_, fun h B hB => ?_, fun h q hn hq => ?_, fun h g q r hn hm hq hr e => ?_, fun h l hl => ?_⟩
  · obtain ⟨a, h1, h2⟩ := hA i c hc
    exact Rd.mono (fun b _ hb => hok b hb) (h2.rd _ (s.slot i a h1))
  · rcases hH h B hB with ⟨g, n, f, f', e1, rfl, e2, e3⟩ | ⟨e1, f, rfl⟩ | ⟨g, kv, e1, rfl, e2, e3⟩
    · have hb := s.blk g _ e2
      simp only [e1, Option.bind_some]
      cases hl : L g with
      | none => rw [hl] at hb; exact hb
      | some q =>
        rw [hl] at hb
        obtain ⟨cs, e, k1, k2, k3⟩ := hb
        exact ⟨cs, e, k1, k2, fun i hi => let ⟨c, k4, k5⟩ := k3 i hi; ⟨c, k4, Rd.mono (fun b _ hb => hok b hb) ((e3 i hi).rd _ k5)⟩⟩
    · simp only [e1, Option.bind_none]; rfl
    · have hb := s.blk g _ e2
      simp only [e1, Option.bind_some]
      cases hl : L g with
      | none => rw [hl] at hb; exact hb.elim
      | some q =>
        rw [hl] at hb
        obtain ⟨es, clock, k1, k2, k3⟩ := hb
        exact ⟨es, clock, k1, k2, fun i e he => let ⟨a, k4, k5⟩ := k3 i e he; ⟨a, k4, Rd.mono (fun b _ hb => hok b hb) (Rd.plain a _ _ _ (e3 _ (List.mem_of_getElem? k4)) k5)⟩⟩
  · obtain ⟨k, e1, e2⟩ := dec h q hq
    exact s.own k q (live h k hn e1) e2
  · obtain ⟨k1, e1, e2⟩ := dec h q hq
    obtain ⟨k2, e3, e4⟩ := dec g r hr
    have := s.inj k1 k2 q r (live h k1 hn e1) (live g k2 hm e3) e2 e4 e
    subst this
    exact hinj h g k1 hn hm e1 e3
  · rw [hS.free h (by rw [hpn])] at hl; simp at hl
theorem Sub.lay (ρ : Nat → Option Nat) (hpn : N.pn = fun _ => false) (hA : ∀ i c, A'.get i = some c → ∃ a, A.get i = some a ∧ Lay ρ a c)
    (hH : ∀ h B', H' h = some B' → (∃ g n f f', ρ h = some g ∧ B' = .cells n f' ∧ H g = some (.cells n f) ∧ ∀ i, i < n → Lay ρ (f i) (f' i)) ∨ (ρ h = none ∧ ∃ f, B' = .cells 0 f))
    (hinj : ∀ h g k, H' h ≠ none → H' g ≠ none → ρ h = some k → ρ g = some k → h = g) : Sub N A H A' H' :=
  Sub.layM ρ hpn hA (fun h B' hB => (hH h B' hB).elim .inl (fun k => .inr (.inl k))) hinj
theorem lay_nil {ρ : Nat → Option Nat} : ∀ i c, Fr.get [] i = some c → ∃ a, A.get i = some a ∧ Lay ρ a c := fun i c h => by simp [Fr.get] at h
theorem lay_cons {ρ : Nat → Option Nat} {t : Nat} {a : AV} {r : Fr} (h0 : ∃ b, A.get t = some b ∧ Lay ρ b a) (h : ∀ i c, Fr.get r i = some c → ∃ a, A.get i = some a ∧ Lay ρ a c) : ∀ i c, Fr.get ((t, a) :: r) i = some c → ∃ a, A.get i = some a ∧ Lay ρ a c := fun i c e => by
  simp only [Fr.get] at e
  split at e
  · rename_i e1; subst e1; simp only [Option.some.injEq] at e; subst e; exact h0
  · exact h i c e
theorem end_post {P : Program} {fn : Func} {t : Tmp} {a : AV} {post : AV → Hp → Prop} (hr : fn.results.toList = [.tmp t]) (hA : A.get t = some a) (hl : Hp.le H' H) (hp : post a H') : endQ P N fn post .ret A H :=
  ⟨A, H', Sub.mk (fun _ _ h => h) hl, by rw [hr]; simp only [resVC, hA]; exact hp⟩
/-- Each block told in H1 stands in H, and fits what is told of it (the names of D are frozen). -/
def LeF (D : Nat → Prop) (H1 H : Hp) : Prop := ∀ x B, H1 x = some B → ¬ D x ∧ ∃ B', H x = some B' ∧ BFits H D B' B
theorem leF_emp {D : Nat → Prop} : LeF D Hp.emp H := fun x B h => by simp [Hp.emp] at h
theorem leF_upd {D : Nat → Prop} {h : Nat} {B B' : Blk} (k : H h = some B') (e : BFits H D B' B) (r : LeF D H' H) (hD : ¬ D h) : LeF D (H'.upd h B) H := fun x C hC => by
  unfold Hp.upd at hC
  split at hC
  · rename_i e1; subst e1; simp only [Option.some.injEq] at hC; subst hC; exact ⟨hD, B', k, e⟩
  · exact r x C hC
theorem bfE {D : Nat → Prop} {n m : Nat} {f g : Nat → AV} (hn : n = m) (h : ∀ i, i < n → f i = g i) : BFits H D (.cells n f) (.cells m g) := ⟨hn, fun i hi => by rw [h i hi]; exact .refl _⟩
theorem Sub.toLF (hA : Fr.sub A A') (hH : LeF (fun _ => False) H' H) : Sub N A H A' H' := Sub.fits (fun _ => False) (fun i c hc => ⟨c, Fr.sub_get A' A hA i c hc, .refl c⟩) hH
theorem Sub.toFF (D : Nat → Prop) (hA : Fr.fit H D A A') (hH : LeF D H' H) : Sub N A H A' H' := Sub.fits D (Fr.fit_get A' A hA) hH
/-- Each block told in H1 by new names stands in H by old ones. -/
def LayF (ρ : Nat → Option Nat) (H1 H : Hp) : Prop := ∀ h B', H1 h = some B' → (∃ g n f f', ρ h = some g ∧ B' = .cells n f' ∧ H g = some (.cells n f) ∧ ∀ i, i < n → Lay ρ (f i) (f' i)) ∨ (ρ h = none ∧ ∃ f, B' = .cells 0 f) ∨ (∃ g kv, ρ h = some g ∧ B' = .mp kv ∧ H g = some (.mp kv) ∧ ∀ x ∈ kv, x.2.plain)
theorem layF_emp {ρ : Nat → Option Nat} : LayF ρ Hp.emp H := fun x B h => by simp [Hp.emp] at h
theorem layF_upd {ρ : Nat → Option Nat} {h g n : Nat} {f f' : Nat → AV} (e : ρ h = some g) (k : H g = some (.cells n f)) (l : ∀ i, i < n → Lay ρ (f i) (f' i)) (r : LayF ρ H' H) : LayF ρ (H'.upd h (.cells n f')) H := fun x C hC => by
  unfold Hp.upd at hC
  split at hC
  · rename_i e1; subst e1; simp only [Option.some.injEq] at hC; subst hC; exact .inl ⟨g, n, f, f', e, rfl, k, l⟩
  · exact r x C hC
theorem AC.mono {P : Program} {f : FuncId} {args : List AV} {Hin : Hp} {pn : Nat → Bool} {post post' : AV → Hp → Prop} (h : AC P f args Hin pn post) (hq : ∀ r H, post r H → post' r H) : AC P f args Hin pn post' := by
  refine ⟨h.1, fun S w L vs hS hpin s hargs => (h.2 S w L vs hS hpin s hargs).mono ?_⟩
  rintro e w' ⟨u, L', r, H', rfl, s2, hr, hp⟩
  exact ⟨u, L', r, H', rfl, s2, hr, hq r H' hp⟩
end
end Go.Av
end
/- Regions whose order is open and that lay several new blocks: each operation reads what was there before, or lays a block of its own. -/
section
namespace Go.Av
section
variable {P : Program} {N : Cx} {A : Fr} {H H0 : Hp}

theorem Fits.up {D : Nat → Prop} (hle : Hp.le H0 H) {a c : AV} (h : Fits H0 D a c) : Fits H D a c := by
  induction h with
  | refl a => exact .refl a
  | own h1 h2 h3 h4 _ ih => exact .own (hle _ _ h1) h2 h3 h4 ih
  | list h1 h2 _ ih => exact .list h1 h2 ih
  | nil => exact .nil
  | agg _ ih => exact .agg ih
  | ref h1 h2 h3 h4 _ ih => exact .ref (hle _ _ h1) h2 h3 h4 ih
  | clo _ ih => exact .clo ih
  | tup _ ih => exact .tup ih
  | nonnil h1 _ ih => exact .nonnil h1 ih
  | dead a => exact .dead a
theorem FitsL.up {D : Nat → Prop} (hle : Hp.le H0 H) {l r : List AV} (h : FitsL H0 D l r) : FitsL H D l r := by
  induction h with
  | nil => exact .nil
  | cons h _ ih => exact .cons (h.up hle) ih
variable (P N) in
/-- An operation that reads what was there before (H0), or lays a block of its own; M: what is known of the new blocks when it comes. -/
def opF (d : Nat) (op : Op) (A : Fr) (H0 M : Hp) (K : AV → Option (Nat × Blk) → Prop) : Prop :=
  match op with
  | .buildSlice t len ps => match selOf P t, evParts A ps.toList with
    | some se, some l => Ob ((N.pn d = false ∧ 0 < se.size ∧ len * se.size ≤ 16777216) ∧ fillOk (fun i => some (i * se.size, se.size)) (len * se.size) l)
        (K (.own d 0 se.size len) (some (d, .cells (len * se.size) (fillF (fun i => some (i * se.size, se.size)) l (zF se.zero)))))
    | _, _ => False
  | .makeMap t none => match mapOf P t with
    | some _ => Ob (N.pn d = false) (K (.map d) (some (d, .mp [])))
    | none => False
  | .insert t m k x => withA (A.ev m) fun a => withA (A.ev k) fun b => withA (A.ev x) fun c => match mapOf P t, a, b with
    | some _, .map h, .v (.string s) => (match M h with
      | some (.mp kv) => Ob (kvStr kv = true) (Ob (kvHas s kv = false) (K .dead (some (h, .mp (kv ++ [(.string s, c)])))))
      | _ => False)
    | _, _, _ => False
  | .box _ x => withA (A.ev x) fun a => Ob (N.pn d = false) (match aggOf a with
    | some (n, g) => K (.ref d 0) (some (d, .cells n g))
    | none => Ob (a.one = true) (K (.ref d 0) (some (d, .cells 1 fun _ => a))))
  | .alloc t => match tyOf P t with
    | some ty => Ob (N.pn d = false) (K (.ref d 0) (some (d, .cells ty.size (zF ty.zero))))
    | none => False
  | op => opQ P N d op A H0 fun r => K r none

section
variable {bs : List (Option (Nat × Blk))} {li li' : Nat → Bool}
end
def bad (tg a : List Nat) (h : Nat) : Bool := tg.contains h && !a.contains h
def badB (tg a : List Nat) (d h : Nat) : Bool := tg.contains h && (!a.contains h || h == d)
variable (P N) in
/-- The free part, read in its order. -/
def opsF (tg : List Nat) (Q : Fr → Hp → Prop) : List Oper → List (List Nat) → Fr → Hp → Hp → Prop
  | [], _, A, _, M => Q A M
  | o :: l, an, A, H0, M => opF P N (o.dst.getD 0) o.op A H0 M fun r b => Ob (r.scrub (bad tg (an.headD [])) = r) (match b with
    | none => opsF tg Q l an.tail (putd o.dst r A) H0 M
    | some (d, B) => Ob ((an.headD []).contains d = true ∧ B.scrub (badB tg (an.headD []) d) = B) (opsF tg Q l an.tail (putd o.dst r A) H0 (M.upd d B)))
section
variable (d : Nat) (A : Fr) (H0 M : Hp) (K : AV → Option (Nat × Blk) → Prop)
theorem opF_move (x : Operand) : opF P N d (.move x) A H0 M K = opQ P N d (.move x) A H0 fun r => K r none := rfl
theorem opF_load (t : TypeId) (x : Operand) : opF P N d (.load t x) A H0 M K = opQ P N d (.load t x) A H0 fun r => K r none := rfl
theorem opF_fieldAddr (t : TypeId) (x : Operand) (i : Nat) : opF P N d (.fieldAddr t x i) A H0 M K = opQ P N d (.fieldAddr t x i) A H0 fun r => K r none := rfl
theorem opF_indexAddr (t : TypeId) (x y : Operand) : opF P N d (.indexAddr t x y) A H0 M K = opQ P N d (.indexAddr t x y) A H0 fun r => K r none := rfl
theorem opF_nilCheck (x : Operand) : opF P N d (.nilCheck x) A H0 M K = opQ P N d (.nilCheck x) A H0 fun r => K r none := rfl
theorem opF_call (c : Call) : opF P N d (.call c) A H0 M K = opQ P N d (.call c) A H0 fun r => K r none := rfl
theorem opF_binOp (o : BinOp) (t : TypeId) (x y : Operand) (u : TypeId) : opF P N d (.binOp o t x y u) A H0 M K = opQ P N d (.binOp o t x y u) A H0 fun r => K r none := rfl
theorem opF_build (t : TypeId) (ps : Array (Nat × Operand)) : opF P N d (.build t ps) A H0 M K = opQ P N d (.build t ps) A H0 fun r => K r none := rfl
theorem opF_bs (t : TypeId) (len : Nat) (ps : Array (Nat × Operand)) : opF P N d (.buildSlice t len ps) A H0 M K = (match selOf P t, evParts A ps.toList with
    | some se, some l => Ob ((N.pn d = false ∧ 0 < se.size ∧ len * se.size ≤ 16777216) ∧ fillOk (fun i => some (i * se.size, se.size)) (len * se.size) l)
        (K (.own d 0 se.size len) (some (d, .cells (len * se.size) (fillF (fun i => some (i * se.size, se.size)) l (zF se.zero)))))
    | _, _ => False) := rfl
theorem opF_mk (t : TypeId) : opF P N d (.makeMap t none) A H0 M K = (match mapOf P t with
    | some _ => Ob (N.pn d = false) (K (.map d) (some (d, .mp [])))
    | none => False) := rfl
theorem opF_ins (t : TypeId) (m k x : Operand) : opF P N d (.insert t m k x) A H0 M K = (withA (A.ev m) fun a => withA (A.ev k) fun b => withA (A.ev x) fun c => match mapOf P t, a, b with
    | some _, .map h, .v (.string s) => (match M h with
      | some (.mp kv) => Ob (kvStr kv = true) (Ob (kvHas s kv = false) (K .dead (some (h, .mp (kv ++ [(.string s, c)])))))
      | _ => False)
    | _, _, _ => False) := rfl
theorem opF_box (t : TypeId) (x : Operand) : opF P N d (.box t x) A H0 M K = (withA (A.ev x) fun a => Ob (N.pn d = false) (match aggOf a with
    | some (n, g) => K (.ref d 0) (some (d, .cells n g))
    | none => Ob (a.one = true) (K (.ref d 0) (some (d, .cells 1 fun _ => a))))) := rfl
theorem opF_alloc (t : TypeId) : opF P N d (.alloc t) A H0 M K = (match tyOf P t with
    | some ty => Ob (N.pn d = false) (K (.ref d 0) (some (d, .cells ty.size (zF ty.zero))))
    | none => False) := rfl
theorem opsF_nil (tg : List Nat) (Q : Fr → Hp → Prop) (an : List (List Nat)) : opsF P N tg Q [] an A H0 M = Q A M := rfl
theorem opsF_some (tg : List Nat) (Q : Fr → Hp → Prop) (op : Op) (ty : TypeId) (pos : String) (aft : Array Edge) (l : List Oper) (a : List Nat) (an : List (List Nat)) : opsF P N tg Q (⟨some d, op, ty, pos, aft, none⟩ :: l) (a :: an) A H0 M = opF P N d op A H0 M fun r b => Ob (r.scrub (bad tg a) = r) (match b with
    | none => opsF P N tg Q l an ((d, r) :: A) H0 M
    | some (d', B) => Ob (a.contains d' = true ∧ B.scrub (badB tg a d') = B) (opsF P N tg Q l an ((d, r) :: A) H0 (M.upd d' B))) := rfl
theorem opsF_none (tg : List Nat) (Q : Fr → Hp → Prop) (op : Op) (ty : TypeId) (pos : String) (aft : Array Edge) (l : List Oper) (a : List Nat) (an : List (List Nat)) : opsF P N tg Q (⟨none, op, ty, pos, aft, none⟩ :: l) (a :: an) A H0 M = opF P N 0 op A H0 M fun r b => Ob (r.scrub (bad tg a) = r) (match b with
    | none => opsF P N tg Q l an A H0 M
    | some (d', B) => Ob (a.contains d' = true ∧ B.scrub (badB tg a d') = B) (opsF P N tg Q l an A H0 (M.upd d' B))) := rfl
end
attribute [go_sem ↓] opF_move opF_load opF_fieldAddr opF_indexAddr opF_nilCheck opF_call opF_binOp opF_build opF_bs opF_mk opF_ins opF_box opF_alloc opsF_nil opsF_some opsF_none
end
end Go.Av
end
/- Results that stand over blocks of our own; calls that read such blocks. -/
section
namespace Go.Av
section
variable {N : Cx} {A A' : Fr} {H H' : Hp}
theorem end_tup2 {P : Program} {fn : Func} {t u : Tmp} {a b : AV} {post : AV → Hp → Prop} (hr : fn.results.toList = [.tmp t, .tmp u]) (htu : t ≠ u) (s : Sub N A H [(t, a), (u, b)] H') (hp : post (.tup 2 (vecF [a, b])) H') : endQ P N fn post .ret A H :=
  ⟨_, _, s, by rw [hr]; simp only [resVC, Fr.get, if_true, withA_some, htu, if_false]; exact hp⟩
theorem end_tup3 {P : Program} {fn : Func} {t u v : Tmp} {a b c : AV} {post : AV → Hp → Prop} (hr : fn.results.toList = [.tmp t, .tmp u, .tmp v]) (htu : t ≠ u) (htv : t ≠ v) (huv : u ≠ v) (s : Sub N A H [(t, a), (u, b), (v, c)] H') (hp : post (.tup 3 (vecF [a, b, c])) H') : endQ P N fn post .ret A H :=
  ⟨_, _, s, by rw [hr]; simp only [resVC, Fr.get, if_true, withA_some, htu, htv, huv, if_false]; exact hp⟩
theorem ap_ints (xs : List (List Int)) (y : List Int) : ∀ i, i < xs.length + 1 → apF xs.length (cM ints [] xs) (setF (zF [.slice none 0 0]) 0 (ints y)) i = cM ints [] (xs ++ [y]) i := fun i hi => by
  by_cases h : i < xs.length
  · simp [apF, cM, List.getD_eq_getElem?_getD, List.getElem?_append, h]
  · have e : i = xs.length := by omega
    subst e
    simp [apF, setF, cM, List.getD_eq_getElem?_getD]
/-- Names that a contract's results may bear. -/
def pM (h : Nat) : Bool := decide (1000000 ≤ h)
theorem pM_low {h : Nat} (hh : h < 1000000) : pM h = false := by simp [pM]; omega
theorem pM_high {h : Nat} (hh : 1000000 ≤ h) : pM h = true := by simp [pM, hh]
/-- A call that hands back a result over blocks of its own. -/
theorem callHp {P : Program} {f : FuncId} {args : List AV} {pn : Nat → Bool} {post : AV → Hp → Prop} {K : AV → Fr → Hp → Prop} (hac : AC P f args Hp.emp pn post) (hpn : N.pn = fun _ => false)
    (hK : ∀ r H', post r H' → (∀ h, H' h ≠ none → 1000000 ≤ h) ∧ r.scrub (fun h => !liveB H' h) = r ∧ H'.scrub (fun h => !liveB H' h) = H' ∧ K r (A.scrub pM) (H'.add (H.scrub pM))) : CallG P N f args A H K := by
  refine callG_of hac pM false (by simp [Hp.emp]) (FitsL.refl _) (fun _ => rfl) (by simp [Hp.emp]) (by simp [hpn]) ?_
  intro r H' hp
  obtain ⟨h1, h2, h3, h4⟩ := hK r H' hp
  refine ⟨fun h hn _ => pM_high (h1 h hn), by simp, ?_⟩
  rw [h2, h3]
  have e : Hp.over H' (H.scrub pM) Hp.emp = H'.add (H.scrub pM) := by
    funext h
    unfold Hp.over Hp.add
    cases H' h with
    | some B => rfl
    | none => simp [Hp.emp]
  rw [e]; exact h4
theorem upd_add (X R : Hp) (h : Nat) (B : Blk) : (X.upd h B).add R = (X.add R).upd h B := by
  funext g
  unfold Hp.add Hp.upd
  by_cases e : g = h <;> simp [e]
theorem emp_add (R : Hp) : Hp.emp.add R = R := rfl
end
end Go.Av
end
/- Calls that read pinned blocks, and hand back new rows beside them. -/
section
namespace Go.Av
section
variable {P : Program} {N : Cx} {A : Fr} {H : Hp}
end
end Go.Av
end
/- Rows of rows, a row and a bool handed back at once. -/
section
namespace Go.Av
def nIIB (d e h : Nat) : Bool := famB d h || h == e
theorem nIIB_lit {d e h : Nat} (hh : h < 2097152) (h1 : h ≠ d) (h2 : h ≠ e) : nIIB d e h = false := by
  unfold nIIB
  rw [famB_lit hh, beq_eq_false_iff_ne.2 h1, beq_eq_false_iff_ne.2 h2]; rfl
theorem nIIB_d {d e : Nat} : nIIB d e d = true := by unfold nIIB famB; simp
theorem nIIB_e {d e : Nat} : nIIB d e e = true := by unfold nIIB; simp
section
variable {P : Program} {N : Cx} {A : Fr} {H : Hp}
theorem Hp.scrub_IIB {d e g k n : Nat} {xss : List (List Int)} (hd : d < 2097152) (he : e < 2097152) (_hg : g < 2097152) (hk : k ≤ 2097152) (hne : g ≠ d) (_hne2 : g ≠ e) : ((PR g xss k n).add H).scrub (nIIB d e) = (PR g xss k n).add (H.scrub (nIIB d e)) := by
  have hs : ∀ i, i < k → nIIB d e (sub g i) = false := fun i hi => by
    have h1 := sub_ge g i; rw [FB_eq] at h1
    have h2 : i < FB := by rw [FB_eq]; omega
    have h3 : sub g i ≠ e := by omega
    have h4 : sub g i ≠ d := by omega
    simp [nIIB, famB, h3, h4, sub_div h2, hne]
  funext x
  simp only [Hp.scrub, Hp.add]
  cases hx : (PR g xss k n) x with
  | none => rfl
  | some B =>
    simp only [Option.map_some, Option.some.injEq]
    unfold PR at hx
    split at hx
    · simp only [Option.some.injEq] at hx; subst hx
      simp only [Blk.scrub]
      congr 1
      funext i
      exact mixF_plain_scrub hs i
    · split at hx
      · simp only [Option.some.injEq] at hx; subst hx; rfl
      · simp at hx
end
attribute [go_sem] nIIB_lit nIIB_d nIIB_e Hp.scrub_IIB
end Go.Av
end
/- Regions of open order: the first operations in any order, then a sequence, and a last operation that sets a constant, anywhere. -/
section
namespace Go.Av
section
variable {P : Program} {N : Cx} {A : Fr} {H : Hp}
variable (P N) in
end
end Go.Av
end
/- Dice and sources: a struct of bytes, a place and a number, pinned; calls that throw them. -/
section
namespace Go.Av
/-- Dice: the code's bytes, how many are used up, a number. -/
structure Dc where
  xs : List Int
  i : Nat
  h : Int
  hi : i ≤ xs.length
  hx : ∀ j, 0 ≤ xs.getD j 0 ∧ xs.getD j 0 ≤ 255
  hl : xs.length ≤ 4096
def u8v (n : Int) : AV := .v (.int .u8 n)
abbrev bts (xs : List Int) : AV := .list false 1 xs.length (cM u8v 0 xs)
def dF (k : IntKind) (d : Dc) : Nat → AV := vecF [bts d.xs, .v (.int .i64 (d.i)), .v (.int k d.h)]
@[go_sem] theorem scF_dF (p : Nat → Bool) (k : IntKind) (d : Dc) : scF p (dF k d) = dF k d := by
  unfold dF; rw [scF_vecF]; rfl
def DH (k : IntKind) (d : Dc) : Hp := Hp.emp.upd 1000000 (.cells 3 (dF k d))
/-- Dice again, and a result. -/
def postD (k : IntKind) (Q : AV → Prop) (r : AV) (H : Hp) : Prop := ∃ d : Dc, Q r ∧ H = DH k d
section
variable {P : Program} {N : Cx} {A A' : Fr} {H H' : Hp}
/-- Names turned, those that stay left where they are. -/
theorem Sub.layMp (ρ : Nat → Option Nat) (hpn : ∀ h, N.pn h = true → ρ h = some h) (hA : ∀ i c, A'.get i = some c → ∃ a, A.get i = some a ∧ Lay ρ a c)
    (hH : ∀ h B', H' h = some B' → (∃ g n f f', ρ h = some g ∧ B' = .cells n f' ∧ H g = some (.cells n f) ∧ ∀ i, i < n → Lay ρ (f i) (f' i)) ∨ (ρ h = none ∧ ∃ f, B' = .cells 0 f) ∨ (∃ g kv, ρ h = some g ∧ B' = .mp kv ∧ H g = some (.mp kv) ∧ ∀ x ∈ kv, x.2.plain))
    (hinj : ∀ h g k, H' h ≠ none → H' g ≠ none → ρ h = some k → ρ g = some k → h = g) : Sub N A H A' H' := by
  intro w0 S hS w tm L s
  have live : ∀ h k, H' h ≠ none → ρ h = some k → H k ≠ none := by
    intro h k hn e
    cases hB : H' h with
    | none => exact absurd hB hn
    | some B =>
      rcases hH h B hB with ⟨g, n, f, f', e1, _, e2, _⟩ | ⟨e1, _⟩ | ⟨g, kv, e1, _, e2, _⟩
      · rw [e] at e1; simp only [Option.some.injEq] at e1; subst e1; rw [e2]; simp
      · rw [e] at e1; simp at e1
      · rw [e] at e1; simp only [Option.some.injEq] at e1; subst e1; rw [e2]; simp
  have dec : ∀ h q, ((ρ h).bind L) = some q → ∃ k, ρ h = some k ∧ L k = some q := by
    intro h q hq
    cases e : ρ h with
    | none => rw [e] at hq; simp at hq
    | some k => rw [e] at hq; exact ⟨k, rfl, hq⟩
  have hok : ∀ b, okb S H L b → okb S H' (fun h => (ρ h).bind L) b := fun b hb => ⟨hb.1, fun h q hn hq => by
    obtain ⟨k, e1, e2⟩ := dec h q hq
    exact hb.2 k q (live h k hn e1) e2⟩
  refine ⟨fun h => (ρ h).bind L, s.keep, s.size, fun i c hc => ?_, fun h B hB => ?_, fun h q hn hq => ?_, fun h g q r hn hm hq hr e => ?_, fun h l hl => ?_⟩
  · obtain ⟨a, h1, h2⟩ := hA i c hc
    exact Rd.mono (fun b _ hb => hok b hb) (h2.rd _ (s.slot i a h1))
  · rcases hH h B hB with ⟨g, n, f, f', e1, rfl, e2, e3⟩ | ⟨e1, f, rfl⟩ | ⟨g, kv, e1, rfl, e2, e3⟩
    · have hb := s.blk g _ e2
      simp only [e1, Option.bind_some]
      cases hl : L g with
      | none => rw [hl] at hb; exact hb
      | some q =>
        rw [hl] at hb
        obtain ⟨cs, e, k1, k2, k3⟩ := hb
        exact ⟨cs, e, k1, k2, fun i hi => let ⟨c, k4, k5⟩ := k3 i hi; ⟨c, k4, Rd.mono (fun b _ hb => hok b hb) ((e3 i hi).rd _ k5)⟩⟩
    · simp only [e1, Option.bind_none]; rfl
    · have hb := s.blk g _ e2
      simp only [e1, Option.bind_some]
      cases hl : L g with
      | none => rw [hl] at hb; exact hb.elim
      | some q =>
        rw [hl] at hb
        obtain ⟨es, clock, k1, k2, k3⟩ := hb
        exact ⟨es, clock, k1, k2, fun i e he => let ⟨a, k4, k5⟩ := k3 i e he; ⟨a, k4, Rd.mono (fun b _ hb => hok b hb) (Rd.plain a _ _ _ (e3 _ (List.mem_of_getElem? k4)) k5)⟩⟩
  · obtain ⟨k, e1, e2⟩ := dec h q hq
    exact s.own k q (live h k hn e1) e2
  · obtain ⟨k1, e1, e2⟩ := dec h q hq
    obtain ⟨k2, e3, e4⟩ := dec g r hr
    have := s.inj k1 k2 q r (live h k1 hn e1) (live g k2 hm e3) e2 e4 e
    subst this
    exact hinj h g k1 hn hm e1 e3
  · cases e : N.pn h with
    | false => rw [hS.free h e] at hl; simp at hl
    | true => show (ρ h).bind L = l; rw [hpn h e]; exact s.pin h l hl
/-- A call that throws dice. -/
theorem callD {f : FuncId} {args : List AV} {k : IntKind} {d : Dc} {Q : AV → Prop} {K : AV → Fr → Hp → Prop} (hH : H 1000000 = some (.cells 3 (dF k d))) (hac : AC P f args (DH k d) pM (postD k Q)) (hQ : ∀ r, Q r → ∀ p, r.scrub p = r)
    (hK : ∀ r d', Q r → K r A (H.upd 1000000 (.cells 3 (dF k d')))) : CallG P N f args A H K := by
  have hle : Hp.le (DH k d) H := Hp.le_upd hH (Hp.le_emp _)
  have hpm : ∀ h, DH k d h ≠ none → h = 1000000 := fun h hn => by
    unfold DH Hp.upd at hn
    by_cases e : h = 1000000
    · exact e
    · rw [if_neg e] at hn; exact absurd rfl hn
  refine callG_of hac (fun _ => false) false hle (FitsL.refl _) (fun _ => rfl) (fun h hn _ => by rw [hpm h hn]; rfl) (by simp) ?_
  rintro r H' ⟨d', hq, rfl⟩
  have hsame : ∀ h, DH k d' h ≠ none → h = 1000000 := fun h hn => by
    unfold DH Hp.upd at hn
    by_cases e : h = 1000000
    · exact e
    · rw [if_neg e] at hn; exact absurd rfl hn
  refine ⟨fun h h1 h2 => ?_, by simp, ?_⟩
  · rw [hsame h h1] at h2; exact absurd h2 (by unfold DH Hp.upd; simp)
  rw [hQ r hq, Fr.scrub_none, Hp.scrub_none]
  have e : Hp.over ((DH k d').scrub fun h => !liveB (DH k d') h) H (DH k d) = H.upd 1000000 (.cells 3 (dF k d')) := by
    unfold DH
    rw [Hp.scrub_upd, Blk.scrub_cells, scF_dF]
    funext h
    unfold Hp.over Hp.upd
    by_cases e : h = 1000000
    · simp only [if_pos e]
    · simp only [if_neg e]
      simp [Hp.scrub, Hp.emp]
  rw [e]; exact hK r d' hq
theorem end_postS {fn : Func} {t : Tmp} {a : AV} {H' : Hp} {post : AV → Hp → Prop} (hr : fn.results.toList = [.tmp t]) (s : Sub N A H [(t, a)] H') (hp : post a H') : endQ P N fn post .ret A H :=
  ⟨_, _, s, by rw [hr]; simp only [resVC, Fr.get, if_true]; exact hp⟩
/-- A call that makes dice. -/
theorem callRoll {f : FuncId} {args : List AV} {k : IntKind} {pn : Nat → Bool} {K : AV → Fr → Hp → Prop} (hac : AC P f args Hp.emp pn (postD k fun r => r = .ref 1000000 0)) (hpn : N.pn = fun _ => false) (hK : ∀ d, K (.ref 1000000 0) (A.scrub pM) ((H.scrub pM).upd 1000000 (.cells 3 (dF k d)))) : CallG P N f args A H K := by
  refine callHp hac hpn fun r H' hp => ?_
  obtain ⟨d, rfl, rfl⟩ := hp
  have hl : liveB (DH k d) 1000000 = true := rfl
  refine ⟨fun h hn => ?_, ?_, ?_, ?_⟩
  · unfold DH Hp.upd at hn
    by_cases e : h = 1000000
    · omega
    · rw [if_neg e] at hn; exact absurd rfl hn
  · simp [AV.scrub, hl]
  · unfold DH
    rw [Hp.scrub_upd, Blk.scrub_cells, scF_dF]
    rfl
  · have e : (DH k d).add (H.scrub pM) = (H.scrub pM).upd 1000000 (.cells 3 (dF k d)) := by
      unfold DH; rw [upd_add, emp_add]
    rw [e]; exact hK d
end
end Go.Av
end
/- Regions of open order with one call that writes blocks of its own: what comes behind it may come in any order. -/
section
namespace Go.Av
section
variable {P : Program} {N : Cx} {H : Hp}
variable {Kd : AV → Hp → Prop}
variable (P N) in
/-- A call that leaves the frame as it is, whatever that is. -/
def CallDP (f : FuncId) (args : List AV) (H : Hp) (K : AV → Hp → Prop) : Prop := ∀ B : Fr, CallG P N f args B H fun r A' H' => A' = B ∧ K r H'
theorem CallDP_congr (f : FuncId) (args args' : List AV) (H H' : Hp) (K : AV → Hp → Prop) (h1 : args = args') (h2 : H = H') : CallDP P N f args H K = CallDP P N f args' H' K := by subst h1 h2; rfl
variable (P N) in
def pivD (op : Op) (A : Fr) (H : Hp) (K : AV → Hp → Prop) : Prop :=
  match op with
  | .call { callee := .value f, args, argTypes := _ } => (match calleeOf (A.ev f) with
    | some (g, caps) => withArgs (evArgs A args.toList) fun l => CallDP P N g (l ++ caps) H K
    | none => False)
  | _ => False
variable (P N) in
def opsD (nf m : Nat) (Q : Fr → Hp → Prop) (l : List Oper) (A : Fr) (H : Hp) : Prop :=
  match l.drop m with
  | o :: lr => opsQ P N (l.map (·.dst)) (fun A1 => pivD P N o.op A1 H fun r H' =>
      opsQ P N (l.map (·.dst)) (fun A2 => Ob (sameG A2 A1 ((l.take nf).map (·.dst))) (opsQ P N (l.map (·.dst)) (fun A3 => Q A3 H') lr (putd o.dst r A1) H')) (l.take nf) A H') (l.take m) A H
  | [] => False
end
attribute [congr] CallDP_congr
attribute [go_sem] opsD pivD
end Go.Av
end
/- Sources: calls that draw and hand back a row of their own; rows cut shorter. -/
section
namespace Go.Av
/-- A source, and a new row of our own. -/
def postDI {α : Type} (g : α → AV) (z : α) (k : IntKind) (e : Nat) (Q : List α → Prop) (r : AV) (H : Hp) : Prop := ∃ (d : Dc) (xs : List α), Q xs ∧ r = .own e 0 1 xs.length ∧ H = (DH k d).upd e (.cells xs.length (cM g z xs))
section
variable {P : Program} {N : Cx} {A A' : Fr} {H H' : Hp}
theorem Sub.shrink {h n m : Nat} {f : Nat → AV} (hH : H h = some (.cells n f)) (hm : m ≤ n) : Sub N A H A (H.upd h (.cells m f)) := by
  intro w0 S hS w tm L s
  have nn : ∀ x, (H.upd h (.cells m f)) x ≠ none → H x ≠ none := fun x hx => by
    unfold Hp.upd at hx
    by_cases e : x = h
    · subst e; rw [hH]; simp
    · rwa [if_neg e] at hx
  have ok : ∀ b, okb S H L b → okb S (H.upd h (.cells m f)) L b := fun b hb => ⟨hb.1, fun x q hx hq => hb.2 x q (nn x hx) hq⟩
  refine ⟨L, s.keep, s.size, fun i a hi => Rd.mono (fun b _ hb => ok b hb) (s.slot i a hi), fun x B hB => ?_, fun x q hx hq => s.own x q (nn x hx) hq, fun x y q r hx hy => s.inj x y q r (nn x hx) (nn y hy), s.pin⟩
  unfold Hp.upd at hB
  split at hB
  · rename_i e; subst e
    simp only [Option.some.injEq] at hB; subst hB
    have hb := s.blk x _ hH
    cases hl : L x with
    | none => rw [hl] at hb; simp only [BlkOk] at hb ⊢; omega
    | some q =>
      rw [hl] at hb
      obtain ⟨cs, e, k1, k2, k3⟩ := hb
      exact ⟨cs, e, k1, by omega, fun i hi => let ⟨c, k4, k5⟩ := k3 i (by omega); ⟨c, k4, Rd.mono (fun b _ hb => ok b hb) k5⟩⟩
  · have hb := s.blk x B hB
    have := BlkOk.step (w := w) (w' := w) (wh := w) (wh' := w) (ok := okb S H L) (ok' := okb S (H.upd h (.cells m f)) L) (L := L) (L' := L) (p := fun _ => false) (fun b _ hb => ⟨ok b hb, rfl⟩) (Shape.refl w) (fun _ _ => rfl) (fun _ _ => rfl) hb
    rwa [Blk.scrub_none] at this
/-- A call that draws and hands back a row of its own. -/
theorem callDI {α : Type} {g : α → AV} {z : α} {f : FuncId} {args : List AV} {k : IntKind} {d : Dc} {e : Nat} {Q : List α → Prop} {K : AV → Fr → Hp → Prop} (hH : H 1000000 = some (.cells 3 (dF k d))) (hac : AC P f args (DH k d) pM (postDI g z k e Q)) (hg : ∀ x p, (g x).scrub p = g x) (he : e ≠ 1000000) (hpn : N.pn e = false)
    (hK : ∀ d' xs, Q xs → K (.own e 0 1 xs.length) (A.scrub (· == e)) (((H.scrub (· == e)).upd 1000000 (.cells 3 (dF k d'))).upd e (.cells xs.length (cM g z xs)))) : CallG P N f args A H K := by
  have hle : Hp.le (DH k d) H := Hp.le_upd hH (Hp.le_emp _)
  have hpm : ∀ h, DH k d h ≠ none → h = 1000000 := fun h hn => by
    unfold DH Hp.upd at hn
    by_cases e : h = 1000000
    · exact e
    · rw [if_neg e] at hn; exact absurd rfl hn
  refine callG_of hac (· == e) false hle (FitsL.refl _) (fun _ => rfl) (fun h hn _ => by rw [hpm h hn]; rfl) (fun h hh => ?_) ?_
  · by_cases e2 : h = e
    · subst e2; rw [hpn] at hh; cases hh
    · simp [e2]
  rintro r H' ⟨d', xs, hq, rfl, rfl⟩
  have hl : liveB ((DH k d').upd e (.cells xs.length (cM g z xs))) e = true := by simp [liveB, Hp.upd]
  have hcs : ∀ p, scF p (cM g z xs) = cM g z xs := fun p => by funext i; exact hg _ p
  refine ⟨fun h h1 h2 => ?_, by simp, ?_⟩
  · by_cases e2 : h = e
    · simp [e2]
    · have h3 : DH k d' h ≠ none := by unfold Hp.upd at h1; rwa [if_neg e2] at h1
      rw [hpm h (by
        have h4 : h = 1000000 := by
          unfold DH Hp.upd at h3
          by_cases e : h = 1000000
          · exact e
          · rw [if_neg e] at h3; exact absurd rfl h3
        rw [h4]; unfold DH Hp.upd; simp)] at h2
      exact absurd h2 (by unfold DH Hp.upd; simp)
  have e1 : (AV.own e 0 1 xs.length).scrub (fun h => !liveB ((DH k d').upd e (.cells xs.length (cM g z xs))) h) = .own e 0 1 xs.length := by simp [AV.scrub, hl]
  have e2 : Hp.over (((DH k d').upd e (.cells xs.length (cM g z xs))).scrub fun h => !liveB ((DH k d').upd e (.cells xs.length (cM g z xs))) h) (H.scrub (· == e)) (DH k d) = ((H.scrub (· == e)).upd 1000000 (.cells 3 (dF k d'))).upd e (.cells xs.length (cM g z xs)) := by
    unfold DH
    rw [Hp.scrub_upd, Hp.scrub_upd, Blk.scrub_cells, Blk.scrub_cells, scF_dF, hcs]
    funext h
    unfold Hp.over Hp.upd
    by_cases h1 : h = e
    · simp only [if_pos h1]
    · simp only [if_neg h1]
      by_cases h2 : h = 1000000
      · simp only [if_pos h2]
      · simp only [if_neg h2]
        simp [Hp.scrub, Hp.emp]
  rw [e1, e2]; exact hK d' xs hq
theorem end_DI {α : Type} {g : α → AV} {z : α} {k : IntKind} {e e' : Nat} {fn : Func} {t : Tmp} {d : Dc} {xs : List α} {n : Nat} {f : Nat → AV} {Q : List α → Prop} (hr : fn.results.toList = [.tmp t]) (hA : A.get t = some (.own e' 0 1 n)) (hd : H 1000000 = some (.cells 3 (dF k d))) (hH : H e' = some (.cells n f)) (hn : n = xs.length) (hf : ∀ i, i < n → f i = cM g z xs i)
    (hpn : N.pn = pM) (he : e < 1000000) (he' : e' ≠ 1000000) (hp : ∀ x, (g x).plain) (hq : Q xs) : endQ P N fn (postDI g z k e Q) .ret A H := by
  subst hn
  refine end_postS (a := .own e 0 1 xs.length) (H' := (DH k d).upd e (.cells xs.length (cM g z xs))) hr (Sub.layMp (fun h => if h = e then some e' else some h) (fun h hh => ?_) (lay_cons ⟨_, hA, .own (by simp)⟩ lay_nil) ?_ (fun x y j hx hy h1 h2 => ?_)) ⟨d, xs, hq, rfl, rfl⟩
  · rw [hpn] at hh
    have : h ≠ e := fun e2 => by rw [e2] at hh; rw [pM_low (by omega)] at hh; cases hh
    exact if_neg this
  · refine layF_upd (g := e') (f := f) (by simp) hH (fun i hi => ?_) (layF_upd (g := 1000000) (n := 3) (by rw [if_neg (by omega)]) hd (fun i hi => ?_) layF_emp)
    · rw [hf i hi]; exact .plain (hp _)
    · match i, hi with
      | 0, _ => exact .plain trivial
      | 1, _ => exact .plain trivial
      | 2, _ => exact .plain trivial
  · have live : ∀ x, ((DH k d).upd e (.cells xs.length (cM g z xs))) x ≠ none → x = e ∨ x = 1000000 := fun x hx => by
      unfold DH Hp.upd at hx
      by_cases e1 : x = e
      · exact .inl e1
      · rw [if_neg e1] at hx
        by_cases e2 : x = 1000000
        · exact .inr e2
        · rw [if_neg e2] at hx; exact absurd rfl hx
    rcases live x hx with rfl | rfl <;> rcases live y hy with rfl | rfl
    · rfl
    · rw [if_pos rfl] at h1; rw [if_neg (by omega)] at h2
      simp only [Option.some.injEq] at h1 h2; omega
    · rw [if_neg (by omega)] at h1; rw [if_pos rfl] at h2
      simp only [Option.some.injEq] at h1 h2; omega
    · rfl
/-- The end of a function that draws, its result frozen. -/
theorem end_DF {k : IntKind} {fn : Func} {t : Tmp} {d : Dc} {D : Nat → Prop} {a b : AV} {Q : AV → Prop} (hr : fn.results.toList = [.tmp t]) (hA : A.get t = some a) (hd : H 1000000 = some (.cells 3 (dF k d))) (hf : Fits H D a b) (hD : ¬ D 1000000) (hq : Q b) : endQ P N fn (postD k Q) .ret A H :=
  end_postS (a := b) (H' := DH k d) hr (Sub.toFF D (Fr.fit_cons hA hf (Fr.fit_nil _)) (leF_upd hd (.refl _ _ _) leF_emp hD)) ⟨d, hq, rfl⟩
end
end Go.Av
end
/- Calls whose result is told by a property, and that leave nothing. -/
section
namespace Go.Av
/-- A result with Q, and nothing of our own. -/
def postX (Q : AV → Prop) (r : AV) (H : Hp) : Prop := Q r ∧ H = Hp.emp
section
variable {P : Program} {N : Cx} {A A' : Fr} {H H' : Hp}
theorem callX {f : FuncId} {args : List AV} {pn : Nat → Bool} {Q : AV → Prop} {K : AV → Fr → Hp → Prop} (hac : AC P f args Hp.emp pn (postX Q)) (hQ : ∀ r, Q r → ∀ p, r.scrub p = r) (hK : ∀ r, Q r → K r A H) : CallG P N f args A H K := by
  refine callG_of hac (fun _ => false) false (by simp [Hp.emp]) (FitsL.refl _) (fun _ => rfl) (by simp [Hp.emp]) (by simp) ?_
  rintro r H' ⟨hq, rfl⟩
  refine ⟨fun h h1 => absurd rfl h1, by simp, ?_⟩
  rw [hQ r hq, Fr.scrub_none, Hp.scrub_none]
  have e : Hp.over (Hp.emp.scrub fun h => !liveB Hp.emp h) H Hp.emp = H := by
    funext h; simp [Hp.over, Hp.scrub, Hp.emp]
  rw [e]; exact hK r hq
theorem end_X3 {fn : Func} {t u v : Tmp} {a b c a' b' c' : AV} {Q : AV → Prop} (hr : fn.results.toList = [.tmp t, .tmp u, .tmp v]) (htu : t ≠ u) (htv : t ≠ v) (huv : u ≠ v) (hA : A.get t = some a) (hB : A.get u = some b) (hC : A.get v = some c) (hf : Fits H (fun _ => True) a a') (hf' : Fits H (fun _ => True) b b') (hf'' : Fits H (fun _ => True) c c') (hq : Q (.tup 3 (vecF [a', b', c']))) : endQ P N fn (postX Q) .ret A H :=
  end_tup3 (H' := Hp.emp) hr htu htv huv (Sub.toFF (fun _ => True) (Fr.fit_cons hA hf (Fr.fit_cons hB hf' (Fr.fit_cons hC hf'' (Fr.fit_nil _)))) leF_emp) ⟨hq, rfl⟩
end
end Go.Av
end
/- Regions of open order: a chain of operations that turn memory, each ahead of the next, and operations that may come at any time. -/
section
namespace Go.Av
section
variable {P : Program} {N : Cx} {H : Hp}
theorem OpV.mono {o : Oper} {A : Fr} {K K' : AV → Fr → Hp → Prop} (h : OpV P N o A H K) (k : ∀ r A' H', K r A' H' → K' r A' H') : OpV P N o A H K' :=
  fun w0 S hS w a L s next Q' hn => h w0 S hS w a L s next Q' fun u r L' A' H' w' s' hr hk => hn u r L' A' H' w' s' hr (k _ _ _ hk)
variable (P N) in
/-- A call, whatever the frame is: what it yields, which names it turns, what the heap is behind it. -/
def CallPP (f : FuncId) (args : List AV) (H : Hp) (K : AV → (Nat → Bool) → Hp → Prop) : Prop := ∃ p : Nat → Bool, ∀ B : Fr, CallG P N f args B H fun r A' H' => A' = B.scrub p ∧ K r p H'
theorem CallPP_congr (f : FuncId) (args args' : List AV) (H H' : Hp) (K : AV → (Nat → Bool) → Hp → Prop) (h1 : args = args') (h2 : H = H') : CallPP P N f args H K = CallPP P N f args' H' K := by subst h1 h2; rfl
variable (P N) in
/-- An operation of the chain. -/
def gxVC (d : Nat) (op : Op) (A : Fr) (H : Hp) (K : AV → (Nat → Bool) → Hp → Prop) : Prop :=
  match op with
  | .call { callee := .value f, args, argTypes := _ } => (match calleeOf (A.ev f) with
    | some (g, caps) => withArgs (evArgs A args.toList) fun l => CallPP P N g (l ++ caps) H K
    | none => False)
  | .assign x => withA (A.ev x) fun a => K a (fun _ => false) H
  | .move x => withA (A.ev x) fun a => K a (fun _ => false) H
  | .call { callee := .builtin .append, args, argTypes } => pivVC P N d (.call { callee := .builtin .append, args, argTypes }) A H K
  | .store t x y => pivVC P N d (.store t x y) A H K
  | _ => False
theorem gxVC_ok {o : Oper} {A : Fr} {K : AV → (Nat → Bool) → Hp → Prop} (h : gxVC P N (o.dst.getD 0) o.op A H K) : ∃ p : Nat → Bool, ∀ B : Fr, (∀ x ∈ o.op.operands, B.ev x = A.ev x) → OpV P N o B H fun r A' H' => A' = B.scrub p ∧ K r p H' := by
  have piv : pivVC P N (o.dst.getD 0) o.op A H K → ∃ p : Nat → Bool, ∀ B : Fr, (∀ x ∈ o.op.operands, B.ev x = A.ev x) → OpV P N o B H fun r A' H' => A' = B.scrub p ∧ K r p H' := fun h => by
    obtain ⟨r, p, H', hK, hp⟩ := piv_ok h
    exact ⟨p, fun B hB => (hp B hB).mono fun r' A' H'' e => by obtain ⟨rfl, rfl, rfl⟩ := e; exact ⟨rfl, hK⟩⟩
  unfold gxVC at h
  split at h
  · rename_i f args tys ho
    split at h
    · rename_i g caps hc
      obtain ⟨l, hl, p, h⟩ := withArgs_ok h
      refine ⟨p, fun B hB => opVC_sound ?_⟩
      have hf : B.ev f = A.ev f := hB f (by rw [ho]; simp [Op.operands, Call.operands])
      have ha : evArgs B args.toList = evArgs A args.toList := evArgs_congr fun x hx => hB x (by rw [ho]; simp [Op.operands, Call.operands]; first | exact .inr (by simpa using hx) | (right; simpa using hx))
      rw [ho]
      simp only [opVC, hf, ha]
      rw [hc, hl]
      exact h B
    · exact h.elim
  · rename_i x ho
    obtain ⟨a, ha, h⟩ := withA_ok h
    refine ⟨fun _ => false, fun B hB => opVC_sound ?_⟩
    have hx : B.ev x = A.ev x := hB x (by rw [ho]; simp [Op.operands])
    rw [ho]
    simp only [opVC, hx, ha, withA]
    exact ⟨(Fr.scrub_none B).symm, h⟩
  · rename_i x ho
    obtain ⟨a, ha, h⟩ := withA_ok h
    refine ⟨fun _ => false, fun B hB => opVC_sound ?_⟩
    have hx : B.ev x = A.ev x := hB x (by rw [ho]; simp [Op.operands])
    rw [ho]
    simp only [opVC, hx, ha, withA]
    exact ⟨(Fr.scrub_none B).symm, h⟩
  · rename_i ho
    rw [← ho] at h; exact piv h
  · rename_i ho
    rw [← ho] at h; exact piv h
  · exact h.elim
/-- Operations at places. -/
def pickL : List Nat → List Oper → List Oper
  | [], _ => []
  | k :: ks, l => (l.drop k).take 1 ++ pickL ks l
theorem pickL_get {l : List Oper} : ∀ (ks : List Nat), (∀ k ∈ ks, k < l.length) → ∀ j : Nat, (pickL ks l)[j]? = (ks[j]?).bind fun k : Nat => l[k]?
  | [], _, j => by simp [pickL]
  | k :: ks, h, j => by
    have hk := h k (List.mem_cons_self ..)
    have e : (l.drop k).take 1 = [l[k]] := by rw [List.drop_eq_getElem_cons hk]; rfl
    have ih := pickL_get ks (fun x hx => h x (List.mem_cons_of_mem _ hx))
    simp only [pickL, e]
    cases j with
    | zero => simp [hk]
    | succ j => simpa using ih j
theorem pickL_len {l : List Oper} : ∀ (ks : List Nat), (∀ k ∈ ks, k < l.length) → (pickL ks l).length = ks.length
  | [], _ => rfl
  | k :: ks, h => by
    have hk := h k (List.mem_cons_self ..)
    have e : (l.drop k).take 1 = [l[k]] := by rw [List.drop_eq_getElem_cons hk]; rfl
    simp [pickL, e, pickL_len ks (fun x hx => h x (List.mem_cons_of_mem _ hx))]
variable (P N) in
/-- The chain. -/
def linkVC (T : List (Option Tmp)) (Q : Fr → Hp → Prop) : List Oper → Fr → Hp → Prop
  | [], A, H => Q A H
  | o :: l, A, H => gxVC P N (o.dst.getD 0) o.op A H fun r p H' => Ob (sameG (A.scrub p) A T) (linkVC T Q l (putd o.dst r (A.scrub p)) H')
/-- Whatever the heap is. -/
def AllH (p : Hp → Prop) : Prop := ∀ H, p H
variable (P N) in
def opsG (fs cs T : List Nat) (Q : Fr → Hp → Prop) (l : List Oper) (A : Fr) (H : Hp) : Prop :=
  opsQ P N (l.map (·.dst)) (fun A1 => Ob (AllH fun H' => opsQ P N (l.map (·.dst)) (fun A2 => sameG A2 A1 (T.map some)) (pickL fs l) A H') (linkVC P N (T.map some) Q (pickL cs l) A1 H)) (pickL fs l) A H
def chPre (ops : Array Oper) : List Nat → Bool
  | [] => true
  | c :: r => r.all (fun d => preB ops ops.size d c) && chPre ops r
theorem chPre_app {ops : Array Oper} {r : List Nat} : ∀ (l : List Nat), chPre ops (l ++ r) = true → chPre ops r = true
  | [], h => h
  | _ :: l, h => by
    simp only [List.cons_append, chPre, Bool.and_eq_true] at h
    exact chPre_app l h.2
def incB : List Nat → Bool
  | [] => true
  | c :: r => r.all (fun d => decide (c < d)) && incB r
def chOk (ops : Array Oper) (fs cs T : List Nat) : Bool :=
  anyOk ops && ops.toList.all (fun o => o.guard.isNone) && (List.range ops.size).all (fun k => fs.contains k || cs.contains k) && incB fs && incB cs && chPre ops cs && cs.all (fun c => decide (c < ops.size) && !fs.contains c) &&
  fs.all fun f => match ops[f]? with
    | none => false
    | some o => o.after.all (fun e => !Region.binds .any e || !cs.contains e.on) && (match o.dst with
      | none => false
      | some d => T.contains d && (List.range ops.size).all fun k => match ops[k]? with
        | none => true
        | some ok => !(ok.looksAt ops).contains d || (k != f && !(o.after.any fun e => Region.binds .any e && e.on == k))) && (o.looksAt ops).all fun t => T.contains t
theorem incB_ok : ∀ {l : List Nat}, incB l = true → ∀ i j, i < j → j < l.length → l.getD i 0 < l.getD j 0
  | [], _, i, j, _, h => by simp at h
  | c :: r, h, i, j, hij, hj => by
    simp only [incB, Bool.and_eq_true, List.all_eq_true, decide_eq_true_eq] at h
    have hj' : j - 1 < r.length := by simp at hj; omega
    have ej : (c :: r).getD j 0 = r.getD (j - 1) 0 := by
      cases j with
      | zero => omega
      | succ j => simp
    rw [ej]
    cases i with
    | zero =>
      have : r.getD (j - 1) 0 ∈ r := by rw [List.getD_eq_getElem?_getD, List.getElem?_eq_getElem hj']; exact List.getElem_mem hj'
      simpa using h.1 _ this
    | succ i =>
      have := incB_ok h.2 i (j - 1) (by omega) hj'
      simpa using this
structure ChOk (ops : Array Oper) (fs cs T : List Nat) : Prop where
  any : anyOk ops = true
  guard : ∀ (k : Nat) (o : Oper), ops[k]? = some o → o.guard = none
  all : ∀ k, k < ops.size → k ∈ fs ∨ k ∈ cs
  finc : incB fs = true
  cinc : incB cs = true
  pre : chPre ops cs = true
  clt : ∀ c ∈ cs, c < ops.size ∧ c ∉ fs
  flt : ∀ f ∈ fs, f < ops.size
  fc : ∀ f ∈ fs, ∀ o : Oper, ops[f]? = some o → ∀ e ∈ o.after, Region.binds .any e = true → e.on ∉ cs
  fd : ∀ f ∈ fs, ∀ o : Oper, ops[f]? = some o → ∃ d, o.dst = some d ∧ d ∈ T
  fr : ∀ f ∈ fs, ∀ o : Oper, ops[f]? = some o → ∀ d, o.dst = some d → ∀ (k : Nat) (ok : Oper), ops[k]? = some ok → d ∈ ok.looksAt ops → k ≠ f ∧ ∀ e ∈ o.after, Region.binds .any e = true → e.on ≠ k
  ft : ∀ f ∈ fs, ∀ o : Oper, ops[f]? = some o → ∀ t ∈ o.looksAt ops, t ∈ T
theorem chOk_ok {ops : Array Oper} {fs cs T : List Nat} (h : chOk ops fs cs T = true) : ChOk ops fs cs T := by
  simp only [chOk, Bool.and_eq_true, List.all_eq_true, List.mem_range, Bool.or_eq_true, List.contains_iff_mem, decide_eq_true_eq, Bool.not_eq_true'] at h
  obtain ⟨⟨⟨⟨⟨⟨⟨h1, h2⟩, h3⟩, h4⟩, h5⟩, h6⟩, h7⟩, h8⟩ := h
  have at' : ∀ f ∈ fs, ∃ o : Oper, ops[f]? = some o ∧ (∀ e ∈ o.after, Region.binds .any e = true → e.on ∉ cs) ∧ (∃ d, o.dst = some d ∧ d ∈ T ∧ ∀ (k : Nat) (ok : Oper), ops[k]? = some ok → d ∈ ok.looksAt ops → k ≠ f ∧ ∀ e ∈ o.after, Region.binds .any e = true → e.on ≠ k) ∧ ∀ t ∈ o.looksAt ops, t ∈ T := fun f hf => by
    have h := h8 f hf
    split at h
    · cases h
    · rename_i o ho
      simp only [Bool.and_eq_true, Array.all_eq_true', List.all_eq_true, Bool.or_eq_true, Bool.not_eq_true', List.contains_iff_mem] at h
      obtain ⟨⟨k1, k2⟩, k3⟩ := h
      refine ⟨o, ho, fun e he hb hc => ?_, ?_, k3⟩
      · rcases k1 e he with h | h
        · rw [hb] at h; cases h
        · have : cs.contains e.on = true := by simpa using hc
          rw [this] at h; cases h
      · split at k2
        · cases k2
        · rename_i d hd
          simp only [Bool.and_eq_true, List.all_eq_true, List.mem_range, List.contains_iff_mem] at k2
          refine ⟨d, hd, k2.1, fun k ok hok hdk => ?_⟩
          have hk := (Array.getElem?_eq_some_iff.1 hok).1
          have h := k2.2 k hk
          rw [hok] at h
          simp only [Bool.or_eq_true, Bool.not_eq_true', Bool.and_eq_true, bne_iff_ne] at h
          rcases h with h | h
          · have : (ok.looksAt ops).contains d = true := by simpa using hdk
            rw [this] at h; cases h
          · refine ⟨h.1, fun e he hb ek => ?_⟩
            have : (o.after.any fun e => Region.binds .any e && e.on == k) = true := Array.any_eq_true'.2 ⟨e, he, by simp [hb, ek]⟩
            rw [this] at h; cases h.2
  have un : ∀ f ∈ fs, ∀ o : Oper, ops[f]? = some o → (∀ e ∈ o.after, Region.binds .any e = true → e.on ∉ cs) ∧ (∃ d, o.dst = some d ∧ d ∈ T ∧ ∀ (k : Nat) (ok : Oper), ops[k]? = some ok → d ∈ ok.looksAt ops → k ≠ f ∧ ∀ e ∈ o.after, Region.binds .any e = true → e.on ≠ k) ∧ ∀ t ∈ o.looksAt ops, t ∈ T := fun f hf o ho => by
    obtain ⟨o', ho', h⟩ := at' f hf
    rw [ho] at ho'; simp only [Option.some.injEq] at ho'; subst ho'; exact h
  refine ⟨h1, fun k o ho => ?_, h3, h4, h5, h6, fun c hc => ⟨(h7 c hc).1, fun hf => ?_⟩, fun f hf => ?_, fun f hf o ho => (un f hf o ho).1, fun f hf o ho => ?_, fun f hf o ho d hd => ?_, fun f hf o ho => (un f hf o ho).2.2⟩
  · have := h2 o (by rw [Array.mem_toList_iff]; exact Array.mem_of_getElem? ho)
    simpa using this
  · have h := (h7 c hc).2
    have : fs.contains c = true := by simpa using hf
    rw [this] at h; cases h
  · obtain ⟨o, ho, _⟩ := at' f hf
    exact (Array.getElem?_eq_some_iff.1 ho).1
  · obtain ⟨d, h1, h2, _⟩ := (un f hf o ho).2.1
    exact ⟨d, h1, h2⟩
  · obtain ⟨d', h1, h2, h3⟩ := (un f hf o ho).2.1
    rw [hd] at h1; simp only [Option.some.injEq] at h1; subst h1; exact h3
theorem link_sound {ops : Array Oper} {fs cs T : List Nat} {Q' : Exit → Act → World → Prop} {QF : Fr → Hp → Prop} {A0 A1 : Fr} {rs : List AV} {w0 : World} {S : Rg} (hS : Good N w0 S) (hok : ChOk ops fs cs T)
    (hN : ∀ (j t : Nat) (o : Oper), ops[j]? = some o → o.dst = some t → t < N.n)
    (hl : rs.length = (pickL fs ops.toList).length)
    (hA1 : ∀ t, A1.get t = valL (pickL fs ops.toList) rs A0.get (pickL fs ops.toList).length t)
    (hstep : ∀ H' j o, (pickL fs ops.toList)[j]? = some o → ∃ Aj : Fr, (∀ t, Aj.get t = valL (pickL fs ops.toList) rs A0.get j t) ∧ OpOK P N o Aj H' (rs.getD j .dead))
    (hQ : ∀ (A : Fr) (H : Hp) (a : Act) (w : World) (L : Loc), Sim N.n w0 S w a.tmps L A H → a.defers = [] → QF A H → Q' .normal a w) :
    ∀ (fuel : Nat) (listed : Array Bool) (s : List Nat) (a : Act) (w : World) (A Ac : Fr) (L : Loc) (Hc : Hp) (done rest : List Nat), listed.size = ops.size → s.Nodup → (∀ k, k ∈ s ↔ listed.getD k false = true) → s.length + fuel = ops.size →
      (∀ (k : Nat) (o : Oper) (e : Edge), listed.getD k false = true → ops[k]? = some o → e ∈ o.after → Region.binds .any e = true → listed.getD e.on false = true) → a.defers = [] →
      Sim N.n w0 S w a.tmps L A Hc → cs = done ++ rest → (∀ c ∈ done, listed.getD c false = true) → (∀ c ∈ rest, ¬ listed.getD c false = true) →
      (∀ t, (∀ f ∈ fs, ∀ o : Oper, ops[f]? = some o → ¬ listed.getD f false = true → o.dst ≠ some t) → A.get t = Ac.get t) →
      (∀ t, t ∈ T → (∀ c ∈ done, ∀ o : Oper, ops[c]? = some o → o.dst ≠ some t) → Ac.get t = A1.get t) →
      linkVC P N (T.map some) QF (pickL rest ops.toList) Ac Hc →
      wpAny P .any ops Q' fuel listed a w := by
  obtain ⟨hinj, hback, hdep⟩ := anyOk_ok hok.any
  have tl : ∀ j : Nat, ops.toList[j]? = ops[j]? := fun j => Array.getElem?_toList
  have flt : ∀ f ∈ fs, f < ops.toList.length := fun f hf => by simpa using hok.flt f hf
  have len : (pickL fs ops.toList).length = fs.length := pickL_len fs flt
  have pk : ∀ j, (pickL fs ops.toList)[j]? = (fs[j]?).bind fun k : Nat => ops[k]? := fun j => by
    rw [pickL_get fs flt j]
    cases fs[j]? with
    | none => rfl
    | some k => exact tl k
  have pko : ∀ j o, (pickL fs ops.toList)[j]? = some o → ∃ f, fs[j]? = some f ∧ f ∈ fs ∧ ops[f]? = some o := fun j o h => by
    rw [pk j] at h
    cases hf : fs[j]? with
    | none => rw [hf] at h; cases h
    | some f => rw [hf] at h; exact ⟨f, hf, List.mem_of_getElem? hf, h⟩
  have inc : ∀ i j f g : Nat, fs[i]? = some f → fs[j]? = some g → f < g → i < j := fun i j f g hf hg hfg => by
    have hj := (List.getElem?_eq_some_iff.1 hg).1
    have hi := (List.getElem?_eq_some_iff.1 hf).1
    refine Nat.lt_of_not_le fun h => ?_
    rcases Nat.lt_or_eq_of_le h with h | h
    · have := incB_ok hok.finc j i h hi
      rw [List.getD_eq_getElem?_getD, List.getD_eq_getElem?_getD, hf, hg] at this
      simp only [Option.getD_some] at this; omega
    · subst h; rw [hf] at hg; simp only [Option.some.injEq] at hg; omega
  have posu : ∀ i j f : Nat, fs[i]? = some f → fs[j]? = some f → i = j := fun i j f hf hg => by
    have hj := (List.getElem?_eq_some_iff.1 hg).1
    have hi := (List.getElem?_eq_some_iff.1 hf).1
    rcases Nat.lt_trichotomy i j with h | h | h
    · have := incB_ok hok.finc i j h hj
      rw [List.getD_eq_getElem?_getD, List.getD_eq_getElem?_getD, hf, hg] at this
      simp only [Option.getD_some] at this; omega
    · exact h
    · have := incB_ok hok.finc j i h hi
      rw [List.getD_eq_getElem?_getD, List.getD_eq_getElem?_getD, hf, hg] at this
      simp only [Option.getD_some] at this; omega
  have uniq : ∀ (k t : Nat) (o : Oper) (k' : Nat) (o' : Oper), ops[k]? = some o → o.dst = some t → ops[k']? = some o' → o'.dst = some t → k' = k := fun k t o k' o' ho hdt ho' hd' => hinj k' k t o' o ho' ho hd' hdt
  -- what the walk's frames say
  have hit : ∀ i j f t o, fs[i]? = some f → i < j → ops[f]? = some o → o.dst = some t → valL (pickL fs ops.toList) rs A0.get j t = some (rs.getD i .dead) := fun i j f t o hf hij ho hd =>
    valL_hit _ rs _ j t i o hl hij (by rw [pk, hf]; exact ho) hd fun k' o' ho' hd' => by
      obtain ⟨f', h1, h2, h3⟩ := pko k' o' ho'
      have := uniq f t o f' o' ho hd h3 hd'
      subst this; exact posu _ _ _ h1 hf
  have miss : ∀ j t, (∀ f ∈ fs, ∀ o : Oper, ops[f]? = some o → o.dst ≠ some t) → valL (pickL fs ops.toList) rs A0.get j t = A0.get t := fun j t h =>
    valL_miss _ rs _ j t fun k o hk ho => by
      obtain ⟨f, h1, h2, h3⟩ := pko k o ho
      exact h f h2 o h3
  intro fuel
  induction fuel with
  | zero =>
    intro listed s a w A Ac L Hc done rest hsz hn hs hc hcl hd sim hcs hdone hrest hA hI hv
    have hlt : ∀ k ∈ s, k < ops.size := fun k hk => by
      have := (hs k).1 hk
      rcases Nat.lt_or_ge k listed.size with h | h
      · omega
      · simp [Array.getD, show ¬ k < listed.size by omega] at this
    have hall : ∀ k, k < ops.size → listed.getD k false = true := fun k hk => (hs k).1 ((Go.Plain.nodup_iff_all (by omega) hlt).1 hn k hk)
    have hr : rest = [] := by
      cases rest with
      | nil => rfl
      | cons c r =>
        have hc : c ∈ cs := by rw [hcs]; simp
        exact absurd (hall c (hok.clt c hc).1) (hrest c (List.mem_cons_self ..))
    subst hr
    refine ⟨?_, ?_⟩
    · refine List.eq_nil_iff_forall_not_mem.2 fun j hj => ?_
      obtain ⟨h1, o, ho, _⟩ := mem_ready.1 hj
      have hj' : j < ops.size := (Array.getElem?_eq_some_iff.1 ho).1
      have := hall j hj'
      simp [Array.getD, hsz, hj'] at h1 this
      rw [h1] at this; cases this
    · refine hQ Ac Hc a w L (sim.sub fun t x hx => ?_) hd hv
      rw [hA t fun f hf o ho hu => absurd (hall f (hok.flt f hf)) hu]; exact hx
  | succ fuel ih =>
    intro listed s a w A Ac L Hc done rest hsz hn hs hc hcl hd sim hcs hdone hrest hA hI hv
    have ld : ∀ k, k < ops.size → (listed.getD k true = false ↔ ¬ listed.getD k false = true) := by
      intro k hk
      simp [Array.getD, hsz, hk]
    have hex : ∃ k, k < ops.size ∧ ¬ listed.getD k false = true := by
      refine Classical.byContradiction fun hno => ?_
      have : ∀ x ∈ List.range ops.size, x ∈ s := fun x hx => (hs x).2 (Classical.byContradiction fun h => hno ⟨x, by simpa using hx, h⟩)
      have := Go.Plain.nodup_le s (List.range ops.size) List.nodup_range this
      simp at this; omega
    refine ⟨fun h => absurd h (ready_ne hsz hback hex), fun i hi => ?_⟩
    obtain ⟨hun0, oi, hoi, hall⟩ := mem_ready.1 hi
    have hi' : i < ops.size := (Array.getElem?_eq_some_iff.1 hoi).1
    have hun := (ld i hi').1 hun0
    have g1 : ∀ k, (listed.setIfInBounds i true).getD k false = true ↔ (k = i ∨ listed.getD k false = true) := by
      intro k
      by_cases hk : k = i
      · subst hk; simp [Array.getD, hsz, hi']
      · rw [getD_set_ne false (Ne.symm hk)]; simp [hk]
    have nd1 : (i :: s).Nodup := List.nodup_cons.2 ⟨fun h => hun ((hs i).1 h), hn⟩
    have hs1 : ∀ k, k ∈ i :: s ↔ (listed.setIfInBounds i true).getD k false = true := fun k => by rw [g1, List.mem_cons, hs]
    have hcl1 : ∀ (k : Nat) (o : Oper) (e : Edge), (listed.setIfInBounds i true).getD k false = true → ops[k]? = some o → e ∈ o.after → Region.binds .any e = true → (listed.setIfInBounds i true).getD e.on false = true := by
      intro k o e hk ho he hb
      rw [g1] at hk ⊢
      rcases hk with rfl | hk
      · rw [hoi] at ho; simp only [Option.some.injEq] at ho; subst ho
        exact .inr (hall e he hb)
      · exact .inr (hcl k o e hk ho he hb)
    have hNi := fun t h => hN i t oi hoi h
    unfold wpOp
    simp only [hoi]
    rw [if_pos (by simp [Region.wanted, hok.guard i oi hoi])]
    left
    have looks : ∀ (B : Fr), (∀ t, t ∈ oi.looksAt ops → A.get t = B.get t) → ∀ x ∈ oi.op.operands, A.ev x = B.ev x := by
      intro B hB x hx
      cases x with
      | tmp t => exact hB t (List.mem_append_left _ (List.mem_filterMap.2 ⟨.tmp t, by simpa using hx, rfl⟩))
      | const v => rfl
      | global g => rfl
      | func f => rfl
    rcases hok.all i hi' with hif | hic
    · -- one that may come at any time
      obtain ⟨j, hj⟩ := List.getElem?_of_mem hif
      obtain ⟨Aj, hAj, hop⟩ := hstep Hc j oi (by rw [pk, hj]; exact hoi)
      obtain ⟨di, hdi, hdT⟩ := hok.fd i hif oi hoi
      have nochain : ∀ c ∈ done, ∀ o : Oper, ops[c]? = some o → o.dst ≠ some di := fun c hc o ho hdt => by
        have := uniq i di oi c o hoi hdi ho hdt
        subst this
        exact (hok.clt c (by rw [hcs]; exact List.mem_append_left _ hc)).2 hif
      refine hop A (looks Aj fun t ht => ?_) w0 S hS w a L sim _ Q' ?_
      · have htT := hok.ft i hif oi hoi t ht
        rw [hAj]
        by_cases hx : ∃ (k : Nat) (o : Oper), ops[k]? = some o ∧ o.dst = some t
        · obtain ⟨k, o, ho, hdt⟩ := hx
          have hk' := (Array.getElem?_eq_some_iff.1 ho).1
          rcases hok.all k hk' with hkf | hkc
          · obtain ⟨hne, hno⟩ := hok.fr k hkf o ho t hdt i oi hoi ht
            rcases hdep k i t o oi (fun e => hne e.symm) ho hoi hdt ht with ⟨e, he, hb, rfl⟩ | ⟨e, he, hb, he2⟩
            · have hlk := hall e he hb
              have hlt := hback i oi e hoi he hb
              obtain ⟨j', hj'⟩ := List.getElem?_of_mem hkf
              have hjj := inc j' j e.on i hj' hj hlt
              have hjl : j' < (pickL fs ops.toList).length := by rw [len]; exact (List.getElem?_eq_some_iff.1 hj').1
              rw [hit j' j e.on t o hj' hjj ho hdt, hA t fun f hf o' ho' hu hd' => by
                have := uniq e.on t o f o' ho hdt ho' hd'; subst this; exact hu hlk]
              rw [hI t htT fun c hc o' ho' hd' => by
                have := uniq e.on t o c o' ho hdt ho' hd'; subst this
                exact (hok.clt e.on (by rw [hcs]; exact List.mem_append_left _ hc)).2 hkf]
              rw [hA1, hit j' _ e.on t o hj' hjl ho hdt]
            · exact absurd he2 (hno e he hb)
          · have hnf : ∀ f ∈ fs, ∀ o' : Oper, ops[f]? = some o' → o'.dst ≠ some t := fun f hf o' ho' hd' => by
              have := uniq k t o f o' ho hdt ho' hd'; subst this; exact (hok.clt f hkc).2 hf
            have hki : k ≠ i := fun e => by subst e; exact (hok.clt k hkc).2 hif
            rcases hdep k i t o oi hki ho hoi hdt ht with ⟨e, he, hb, rfl⟩ | ⟨e, he, hb, rfl⟩
            · exact absurd hkc (hok.fc i hif oi hoi e he hb)
            · have hkd : k ∉ done := fun hk => hun (hcl k o e (hdone k hk) ho he hb)
              rw [miss j t hnf, hA t fun f hf o' ho' _ => hnf f hf o' ho', hI t htT fun c hc o' ho' hd' => by
                have := uniq k t o c o' ho hdt ho' hd'; subst this; exact hkd hc]
              rw [hA1, miss _ t hnf]
        · have hno : ∀ (k : Nat) (o : Oper), ops[k]? = some o → o.dst ≠ some t := fun k o ho e => hx ⟨k, o, ho, e⟩
          rw [miss j t fun f _ o ho => hno f o ho, hA t fun f _ o ho _ => hno f o ho, hI t htT fun c _ o ho => hno c o ho, hA1, miss _ t fun f _ o ho => hno f o ho]
      · rintro u rr L' A' H4 w' s' hr ⟨rfl, rfl, rfl⟩
        refine ih (listed.setIfInBounds i true) (i :: s) _ w' (putd oi.dst (rs.getD j .dead) A') Ac L' H4 done rest (by simp [hsz]) nd1 hs1 (by simp only [List.length_cons]; omega) hcl1 (by rw [put_defers]; exact hd) (s'.putd hNi hr) hcs (fun c hc => (g1 c).2 (.inr (hdone c hc))) (fun c hc h => ?_) (fun t ht => ?_) hI hv
        · rcases (g1 c).1 h with rfl | h
          · exact (hok.clt c (by rw [hcs]; exact List.mem_append_right _ hc)).2 hif
          · exact hrest c hc h
        · rw [putd_get]
          by_cases e : oi.dst = some t
          · rw [if_pos e]
            rw [hdi] at e; simp only [Option.some.injEq] at e; subst e
            rw [hI di hdT nochain, hA1, hit j _ i di oi hj (by rw [len]; exact (List.getElem?_eq_some_iff.1 hj).1) hoi hdi]
          · rw [if_neg e]
            refine hA t fun f hf o ho hu => ?_
            by_cases hfi : f = i
            · subst hfi; rw [hoi] at ho; simp only [Option.some.injEq] at ho; subst ho; exact e
            · exact ht f hf o ho fun h => ((g1 f).1 h).elim hfi hu
    · -- the next of the chain
      have hir : i ∈ rest := by
        rw [hcs] at hic
        rcases List.mem_append.1 hic with h | h
        · exact absurd (hdone i h) hun
        · exact h
      obtain ⟨c, r, rfl⟩ : ∃ c r, rest = c :: r := by
        cases rest with
        | nil => cases hir
        | cons c r => exact ⟨c, r, rfl⟩
      have hci : c = i := by
        rcases List.mem_cons.1 hir with h | h
        · exact h.symm
        · have hp : chPre ops (c :: r) = true := by
            have hp := hok.pre
            rw [hcs] at hp
            exact chPre_app done hp
          simp only [chPre, Bool.and_eq_true, List.all_eq_true] at hp
          exact absurd (pre_ready hcl hoi hall (hp.1 i h)) (hrest c (List.mem_cons_self ..))
      subst hci
      have e1 : pickL (c :: r) ops.toList = oi :: pickL r ops.toList := by
        have hk : c < ops.toList.length := by simpa using hi'
        have e2 : ops.toList[c] = oi := by
          have := Array.getElem?_eq_some_iff.1 hoi
          obtain ⟨_, e⟩ := this
          simpa using e
        simp only [pickL]
        rw [List.drop_eq_getElem_cons hk, e2]; rfl
      rw [e1] at hv
      simp only [linkVC] at hv
      obtain ⟨p, hp⟩ := gxVC_ok hv
      refine hp A (looks Ac fun t ht => hA t fun f hf o ho hu hdt => ?_) w0 S hS w a L sim _ Q' ?_
      · obtain ⟨hne, hno⟩ := hok.fr f hf o ho t hdt c oi hoi ht
        rcases hdep f c t o oi (fun e => hne e.symm) ho hoi hdt ht with ⟨e, he, hb, rfl⟩ | ⟨e, he, hb, he2⟩
        · exact hu (hall e he hb)
        · exact hno e he hb he2
      · rintro u rr L' A' H4 w' s' hr ⟨rfl, hsame, hv'⟩
        refine ih (listed.setIfInBounds c true) (c :: s) _ w' (putd oi.dst rr (A.scrub p)) (putd oi.dst rr (Ac.scrub p)) L' H4 (done ++ [c]) r (by simp [hsz]) nd1 hs1 (by simp only [List.length_cons]; omega) hcl1 (by rw [put_defers]; exact hd) (s'.putd hNi hr) (by rw [hcs]; simp) (fun x hx => ?_) (fun x hx h => ?_) (fun t ht => ?_) (fun t htT ht => ?_) hv'
        · rcases List.mem_append.1 hx with h | h
          · exact (g1 x).2 (.inr (hdone x h))
          · rw [List.mem_singleton.1 h]; exact (g1 c).2 (.inl rfl)
        · rcases (g1 x).1 h with rfl | h
          · have := hok.cinc
            rw [hcs] at this
            have hpos := List.getElem?_of_mem hx
            obtain ⟨j, hj⟩ := hpos
            have hjl := (List.getElem?_eq_some_iff.1 hj).1
            have := incB_ok this done.length (done.length + 1 + j) (by omega) (by simp; omega)
            rw [List.getD_eq_getElem?_getD, List.getD_eq_getElem?_getD, List.getElem?_append_right (Nat.le_refl _), List.getElem?_append_right (by omega)] at this
            rw [show done.length + 1 + j - done.length = j + 1 by omega, Nat.sub_self] at this
            simp only [List.getElem?_cons_zero, List.getElem?_cons_succ, hj, Option.getD_some] at this
            omega
          · exact hrest x (List.mem_cons_of_mem _ hx) h
        · rw [putd_get, putd_get]
          by_cases e : oi.dst = some t
          · rw [if_pos e, if_pos e]
          · rw [if_neg e, if_neg e, Fr.get_scrub, Fr.get_scrub, hA t fun f hf o ho hu => ht f hf o ho fun h => ((g1 f).1 h).elim (fun e => by subst e; exact (hok.clt f hic).2 hf) hu]
        · rw [putd_get, if_neg (ht c (by simp) oi hoi)]
          have := sameG_ok _ hsame t (List.mem_map.2 ⟨t, htT, rfl⟩)
          rw [this]
          exact hI t htT fun x hx o ho => ht x (List.mem_append_left _ hx) o ho
theorem awp_regionG {A : Fr} (fs cs T : List Nat) {id : Nat} {l : List Oper} {Q : Exit → Fr → Hp → Prop} (hm : P.follows .mixedOrders = true) (hB : chOk l.toArray fs cs T = true) (hN : dstsOk N l = true)
    (h : opsG P N fs cs T (Q .normal) l A H) : AWP P N (.region id l.toArray true) Q A H := by
  have hmem := dstsOk_mem hN
  have hok := chOk_ok hB
  obtain ⟨hinj, _, _⟩ := anyOk_ok hok.any
  have flt : ∀ f ∈ fs, f < l.length := fun f hf => by simpa using hok.flt f hf
  have pko : ∀ j o, (pickL fs l)[j]? = some o → ∃ f, fs[j]? = some f ∧ f ∈ fs ∧ l[f]? = some o := fun j o h => by
    rw [pickL_get fs flt j] at h
    cases hf : fs[j]? with
    | none => rw [hf] at h; cases h
    | some f => rw [hf] at h; exact ⟨f, hf, List.mem_of_getElem? hf, h⟩
  unfold opsG at h
  obtain ⟨rs, hlex⟩ := lex_of_opsQ _ A h
  obtain ⟨k1, k2, A1, k3, k4, k5⟩ := LexL_get (pickL fs l) A rs A.get (fun _ => rfl) hlex
  have uni : ∀ (j k : Nat) (o o' : Oper) (t : Nat), (pickL fs l)[j]? = some o → o.dst = some t → (pickL fs l)[k]? = some o' → o'.dst = some t → k = j := fun j k o o' t hj hdt hk hd' => by
    obtain ⟨f, h1, h2, h3⟩ := pko j o hj
    obtain ⟨g, h4, h5, h6⟩ := pko k o' hk
    have := hinj g f t o' o (by simpa using h6) (by simpa using h3) hd' hdt
    subst this
    have hj := (List.getElem?_eq_some_iff.1 h1).1
    have hk := (List.getElem?_eq_some_iff.1 h4).1
    rcases Nat.lt_trichotomy k j with h | h | h
    · have := incB_ok hok.finc k j h hj
      rw [List.getD_eq_getElem?_getD, List.getD_eq_getElem?_getD, h1, h4] at this
      simp only [Option.getD_some] at this; omega
    · exact h
    · have := incB_ok hok.finc j k h hk
      rw [List.getD_eq_getElem?_getD, List.getD_eq_getElem?_getD, h1, h4] at this
      simp only [Option.getD_some] at this; omega
  intro w0 S hS w a L s hd
  have s1 : Sim N.n w0 S w.drew a.tmps L A H := s.drew
  refine wp_region_any hm ?_
  refine link_sound (ops := l.toArray) (fs := fs) (cs := cs) (T := T) (A0 := A) (A1 := A1) (rs := rs) (QF := Q .normal) hS hok (fun j t o ho hdt => hmem o (List.mem_of_getElem? (by simpa using ho)) t hdt) k1 k3 (fun H' j o ho => ?_) ?_ l.toArray.size _ [] a _ A A1 L H [] cs (by simp) List.nodup_nil (fun k => ?_) (by simp) (fun k o e hk => ?_) hd s1 rfl (fun c hc => by cases hc) (fun c _ hk => ?_) (fun t ht => ?_) (fun t _ _ => rfl) k5
  · rw [List.toList_toArray] at ho
    obtain ⟨rs2, hlex2⟩ := lex_of_opsQ _ A (k4 H')
    obtain ⟨j1, j2, A2, j3, j4⟩ := LexL_get (pickL fs l) A rs2 A.get (fun _ => rfl) hlex2
    have er : rs2 = rs := by
      refine List.ext_getElem (by rw [j1, k1]) fun k h1 h2 => ?_
      have hk : k < (pickL fs l).length := by omega
      have hko : (pickL fs l)[k]? = some (pickL fs l)[k] := List.getElem?_eq_getElem hk
      obtain ⟨f, q1, q2, q3⟩ := pko k _ hko
      obtain ⟨d, hdd, hdT⟩ := hok.fd f q2 _ (by simpa using q3)
      have e := sameG_ok _ j4 d (List.mem_map.2 ⟨d, hdT, rfl⟩)
      rw [j3, k3, valL_hit _ rs2 _ _ d k _ j1 hk hko hdd (fun k' o' ho' hd' => uni k k' _ o' d hko hdd ho' hd'), valL_hit _ rs _ _ d k _ k1 hk hko hdd (fun k' o' ho' hd' => uni k k' _ o' d hko hdd ho' hd')] at e
      simpa [List.getD_eq_getElem?_getD, h1, h2] using e
    subst er
    obtain ⟨Aj, h1, h2⟩ := j2 j o ho
    refine ⟨Aj, by rw [List.toList_toArray]; exact h1, ?_⟩
    unfold StepOK at h2
    obtain ⟨f, q1, q2, q3⟩ := pko j o ho
    rw [hok.guard f o (by simpa using q3)] at h2
    exact h2
  · intro A' H3 a' w' L' s' hd' hq
    exact ⟨L', A', H3, s', hd', hq⟩
  · simp [Array.getD]
  · simp [Array.getD] at hk
  · simp [Array.getD] at hk
  · have hno : ∀ f ∈ fs, ∀ o : Oper, l[f]? = some o → o.dst ≠ some t := fun f hf o ho => ht f hf o (by simpa using ho) (by simp [Array.getD])
    rw [k3, valL_miss _ _ _ _ _ fun k o _ ho => by obtain ⟨f, q1, q2, q3⟩ := pko k o ho; exact hno f q2 o q3]
theorem awp_regionGK {A : Fr} (ks : Nat) (fs cs T : List Nat) {id : Nat} {l : List Oper} {Q : Exit → Fr → Hp → Prop} (hm : P.follows .mixedOrders = true) (hB : chOk l.toArray fs cs T = true) (hN : dstsOk N l = true)
    (h : opsG P N fs cs T (keepQ ks Q .normal) l A H) : AWP P N (.region id l.toArray true) Q A H :=
  awp_weak (awp_regionG fs cs T hm hB hN h) keepQ_weak
theorem AllH.mk {p : Hp → Prop} (h : ∀ H, p H) : AllH p := h
/-- A call that hands back a new row of numbers, in a chain. -/
theorem callPI {f : FuncId} {args args' : List AV} {d : Nat} {xs : List Int} {pn : Nat → Bool} {K : AV → (Nat → Bool) → Hp → Prop} (hfit : FitsL H (fun _ => True) args args') (hac : AC P f args' Hp.emp pn (retI d xs)) (hd : N.pn d = false)
    (hK : K (.own d 0 1 xs.length) (· == d) ((H.scrub (· == d)).upd d (.cells xs.length (cM iv 0 xs)))) : CallPP P N f args H K := ⟨(· == d), fun _ => callI hfit hac hd ⟨rfl, hK⟩⟩
theorem atP {f : FuncId} {args : List AV} {K : AV → (Nat → Bool) → Hp → Prop} (h : CallPP P N f args H K) : CallPP P N f args H K := h
/-- A source, and one row of our own under a new name. -/
theorem Sub.mvD {α : Type} {g : α → AV} {z : α} {k : IntKind} (e e' : Nat) {A A' : Fr} {d : Dc} {xs : List α} {n : Nat} {f : Nat → AV} (hA : ∀ i c, A'.get i = some c → ∃ a, A.get i = some a ∧ Lay (fun h => if h = e then some e' else some h) a c) (hd : H 1000000 = some (.cells 3 (dF k d))) (hH : H e' = some (.cells n f)) (hf : ∀ i, i < n → f i = cM g z xs i)
    (hpn : N.pn = pM) (he : e < 1000000) (he' : e' ≠ 1000000) (hp : ∀ x, (g x).plain) : Sub N A H A' ((DH k d).upd e (.cells n (cM g z xs))) := by
  refine Sub.layMp (fun h => if h = e then some e' else some h) (fun h hh => ?_) hA ?_ (fun x y j hx hy h1 h2 => ?_)
  · rw [hpn] at hh
    have : h ≠ e := fun e2 => by rw [e2] at hh; rw [pM_low (by omega)] at hh; cases hh
    exact if_neg this
  · refine layF_upd (g := e') (f := f) (by simp) hH (fun i hi => ?_) (layF_upd (g := 1000000) (n := 3) (by rw [if_neg (by omega)]) hd (fun i hi => ?_) layF_emp)
    · rw [hf i hi]; exact .plain (hp _)
    · match i, hi with
      | 0, _ => exact .plain trivial
      | 1, _ => exact .plain trivial
      | 2, _ => exact .plain trivial
  · have live : ∀ x, ((DH k d).upd e (.cells n (cM g z xs))) x ≠ none → x = e ∨ x = 1000000 := fun x hx => by
      unfold DH Hp.upd at hx
      by_cases e1 : x = e
      · exact .inl e1
      · rw [if_neg e1] at hx
        by_cases e2 : x = 1000000
        · exact .inr e2
        · rw [if_neg e2] at hx; exact absurd rfl hx
    rcases live x hx with rfl | rfl <;> rcases live y hy with rfl | rfl
    · rfl
    · rw [if_pos rfl] at h1; rw [if_neg (by omega)] at h2
      simp only [Option.some.injEq] at h1 h2; omega
    · rw [if_neg (by omega)] at h1; rw [if_pos rfl] at h2
      simp only [Option.some.injEq] at h1 h2; omega
    · rfl
end
attribute [congr] CallPP_congr
attribute [go_sem] opsG linkVC gxVC pickL
end Go.Av
end
/- From a law's contract over abstract values to its row: how Go's data read. -/
section
namespace Go.Av
open Go.ChangeShapes Go.WideShapes Go.ChangeAt Go.RowKit

section
variable {P : Program} {H : Type} {enc : TypeId × Value → H} {w : World} {base : Nat} {spare : Nat → Bool} {held : Bool} {L : Loc}

/-- Every block may be read. -/
abbrev All : Nat → Prop := fun _ => True

theorem law_calls {f : FuncId} {args : List AV} {vs : Array Value} (hac : AC P f args Hp.emp (fun _ => false) (retV (.v (.bool true)))) (hr : RdArgs w All (fun _ => none) args vs) :
    Calls P f vs w fun e w' => e = .returned (.bool true) ∧ Below w.heap.size w w' := by
  let S : Rg := ⟨fun b => w.heap.size ≤ b, fun _ => True, fun _ _ => trivial, fun _ => none⟩
  have s0 : Sim 0 w S w #[] (fun _ => none) [] Hp.emp := ⟨Keep.refl w _, rfl, fun i a h => by simp [Fr.get] at h, fun h B hB => by simp [Hp.emp] at hB, fun h q hn => by simp [Hp.emp] at hn, fun h g q r hn => by simp [Hp.emp] at hn, fun h l hl => by simp [S] at hl⟩
  refine (hac.2 S w (fun _ => none) vs (fun b h => h) (fun h _ => rfl) s0 ⟨hr.1, fun i a hi => ?_⟩).mono ?_
  · obtain ⟨u, k1, k2⟩ := hr.2 i a hi
    exact ⟨u, k1, Rd.mono (fun b _ _ => ⟨trivial, fun h q hn => by simp [Hp.emp] at hn⟩) k2⟩
  · rintro e w' ⟨u, L', r, H', rfl, s2, hr, rfl, rfl⟩
    have hu : u = .bool true := hr
    subst hu
    exact ⟨rfl, ⟨s2.keep.os, s2.keep.tape, s2.keep.output, s2.keep.size, fun k hk => s2.keep.blk k hk (by show ¬ w.heap.size ≤ k; omega)⟩⟩

theorem cells_spot {a : Addr} {n : Nat} {V : Nat → Value} (h : ∀ i, i < n → w.cell? (a.add i) = some (V i)) : ∀ i, i < n → a.spot = none ∧ w.cell? ⟨a.block, a.off + i, none⟩ = some (V i) := by
  intro i hi
  have h0 := h 0 (by omega)
  have hs : a.spot = none := by
    have e : a.add 0 = a := by simp [Addr.add]
    rw [e] at h0
    unfold World.cell? at h0
    cases hsp : a.spot with
    | none => rfl
    | some k =>
      simp only [hsp] at h0
      split at h0 <;> simp at h0
  refine ⟨hs, ?_⟩
  have := h i hi
  rwa [Addr_eq hs, Addr_add] at this

theorem rd_list {α : Type} (g : α → AV) (d : α) {xs : List α} {a : Addr} {len cap : Nat} {V : Nat → Value} (hl : xs.length = len) (hc : len ≤ cap) (h : ∀ i, i < len → w.cell? (a.add i) = some (V i)) (hr : ∀ i, i < len → ∀ L', Rd w All L' (g (xs.getD i d)) (V i)) :
    Rd w All L (.list false 1 xs.length (cM g d xs)) (.slice (some a) len cap) := by
  subst hl
  refine ⟨some a, cap, rfl, hc, by simp, by simp, fun p hp i hi => ?_⟩
  simp only [Option.some.injEq] at hp
  subst hp
  rw [Nat.mul_one] at hi
  obtain ⟨k1, k2⟩ := cells_spot h i hi
  exact ⟨k1, trivial, V i, k2, hr i hi⟩

theorem trod_cs {t : TypeId} {v : Value} {d : DataW H} {p : List MemPlace} (h : DataW.Trod enc P w base spare held t v d p) (hv : v.cells = #[v]) : ∃ fuel, DataW.trod enc P w base spare held fuel t [v] = some (d, p) := by
  obtain ⟨fuel, hf⟩ := h
  exact ⟨fuel, by rw [hv] at hf; exact hf⟩

theorem rdArgs_list {ok : Nat → Prop} : ∀ (as : List AV) (vs : List Value), as.length = vs.length → (∀ (i : Nat) (a : AV) (v : Value), as[i]? = some a → vs[i]? = some v → Rd w ok L a v) → RdArgs w ok L as vs.toArray := by
  intro as vs hl h
  refine ⟨by simp [hl], fun i a hi => ?_⟩
  have hlt := (List.getElem?_eq_some_iff.1 hi).1
  exact ⟨vs[i]'(by omega), by simp, h i a _ hi (by simp)⟩
theorem rdArgs1 {ok : Nat → Prop} {a : AV} {v : Value} (h : Rd w ok L a v) : RdArgs w ok L [a] #[v] := rdArgs_list [a] [v] rfl fun i a' v' h1 h2 => by
  match i with
  | 0 => simp at h1 h2; subst h1 h2; exact h
  | i + 1 => simp at h1
end
end Go.Av
end
/- How bytes read. -/
section
namespace Go.Av
open Go.ChangeShapes Go.WideShapes Go.ChangeAt Go.RowKit
section
variable {P : Program} {H : Type} {enc : TypeId × Value → H} {w : World} {base : Nat} {spare : Nat → Bool} {held : Bool} {L : Loc}
theorem in8_wf {n : Int} (h : (Lit.int .u8 n).wf = true) : 0 ≤ n ∧ n ≤ 255 := by
  simp [Lit.wf, IntKind.min, IntKind.max] at h
  revert h
  simp only [show IntKind.u8.signed = false from rfl, show IntKind.u8.bits = 8 from rfl]
  intro h
  simp at h
  omega
theorem rd_bytes {t e : TypeId} {fuel : Nat} {cs : List Value} {x : DataW H × List MemPlace} (ht : P.underlying t = some (.slice e)) (he : P.underlying e = some (.int .u8)) (hc : P.cellsOf e = 1) (h : DataW.trod enc P w base spare held fuel t cs = some x) :
    ∃ (v : Value) (xs : List Int), cs = [v] ∧ (∀ L, Rd w All L (bts xs) v) ∧ xs.length ≤ 9223372036854775807 ∧ ∀ j, 0 ≤ xs.getD j 0 ∧ xs.getD j 0 ≤ 255 := by
  have hm : maxLen = 9223372036854775807 := by decide
  rcases open_ints ht he hc h with ⟨rfl, _⟩ | ⟨a, len, cap, zs, rfl, _, hl, hmx, hz, _, hcell, hwf⟩
  · exact ⟨_, [], rfl, fun L => ⟨none, 0, rfl, Nat.le_refl _, by simp, fun _ => ⟨rfl, rfl⟩, by simp⟩, by simp, by simp⟩
  · have hlen : len ≤ zs.length := by rw [hz]; split <;> omega
    refine ⟨_, zs.take len, rfl, fun L => rd_list u8v 0 (V := fun i => .int .u8 (zs.getD i 0)) (by simp; omega) hl (fun i hi => hcell i (by omega)) (fun i hi L' => ?_), by simp; omega, fun j => ?_⟩
    · have e : (zs.take len).getD i 0 = zs.getD i 0 := by simp [hi]
      rw [e]; rfl
    · by_cases hj : j < (zs.take len).length
      · rw [List.getD_eq_getElem?_getD, List.getElem?_eq_getElem hj, Option.getD_some]
        exact in8_wf (hwf _ (List.mem_of_mem_take (List.getElem_mem hj)))
      · rw [List.getD_eq_getElem?_getD, List.getElem?_eq_none (by omega), Option.getD_none]; omega
end
end Go.Av
end
/- Permutations as rows of numbers: composition, inverse, what generators generate. -/
section
namespace Go.Pm

/-- p is a permutation of n points. -/
def Pm (n : Nat) (p : List Int) : Prop := p.length = n ∧ (∀ j, j < n → 0 ≤ p.getD j 0 ∧ p.getD j 0 < n) ∧ ∀ i j, i < n → j < n → p.getD i 0 = p.getD j 0 → i = j

def img (p : List Int) (i : Nat) : Nat := (p.getD i 0).toNat
def comp (p q : List Int) : List Int := p.map fun x => q.getD x.toNat 0
def idn (n : Nat) : List Int := (List.range n).map fun i : Nat => (i : Int)
def invp (p : List Int) : List Int := (List.range p.length).map fun i : Nat => ((p.findIdx fun x => decide (x = (i : Int)) : Nat) : Int)

theorem ext {p q : List Int} (hl : p.length = q.length) (h : ∀ j, j < p.length → p.getD j 0 = q.getD j 0) : p = q := by
  refine List.ext_getElem hl fun i h1 h2 => ?_
  have := h i h1
  simpa [List.getD_eq_getElem?_getD, h1, h2] using this

theorem comp_length (p q : List Int) : (comp p q).length = p.length := by simp [comp]
theorem comp_get (p q : List Int) {i : Nat} (h : i < p.length) : (comp p q).getD i 0 = q.getD (img p i) 0 := by
  simp [comp, img, List.getD_eq_getElem?_getD, h]
theorem idn_length (n : Nat) : (idn n).length = n := by simp [idn]
theorem idn_get {n i : Nat} (h : i < n) : (idn n).getD i 0 = i := by simp [idn, List.getD_eq_getElem?_getD, h]
theorem img_idn {n i : Nat} (h : i < n) : img (idn n) i = i := by unfold img; rw [idn_get h]; rfl
theorem img_comp (p q : List Int) {i : Nat} (h : i < p.length) : img (comp p q) i = img q (img p i) := by
  unfold img; rw [comp_get p q h]; rfl

namespace Pm
variable {n : Nat} {p q r : List Int}
theorem img_lt (h : Pm n p) {i : Nat} (hi : i < n) : img p i < n := by
  have := h.2.1 i hi
  unfold Pm.img; omega
theorem get_eq (h : Pm n p) {i : Nat} (hi : i < n) : p.getD i 0 = (img p i : Int) := by
  have := h.2.1 i hi
  unfold Pm.img; omega
theorem inj (h : Pm n p) {i j : Nat} (hi : i < n) (hj : j < n) (e : img p i = img p j) : i = j :=
  h.2.2 i j hi hj (by rw [h.get_eq hi, h.get_eq hj, e])
theorem ext_img (h : Pm n p) (k : Pm n q) (e : ∀ i, i < n → img p i = img q i) : p = q :=
  Go.Pm.ext (h.1.trans k.1.symm) fun j hj => by
    rw [h.1] at hj
    rw [h.get_eq hj, k.get_eq hj, e j hj]
theorem idn (n : Nat) : Pm n (idn n) :=
  ⟨idn_length n, fun j hj => by rw [idn_get hj]; omega, fun i j hi hj e => by rw [idn_get hi, idn_get hj] at e; omega⟩
theorem mk' (hl : p.length = n) (h1 : ∀ j, j < n → ∃ k, k < n ∧ p.getD j 0 = (k : Int)) (h2 : ∀ i j, i < n → j < n → img p i = img p j → i = j) : Pm n p :=
  ⟨hl, fun j hj => by obtain ⟨k, h3, h4⟩ := h1 j hj; omega, fun i j hi hj e => h2 i j hi hj (by unfold Pm.img; rw [e])⟩
theorem comp (h : Pm n p) (k : Pm n q) : Pm n (comp p q) := by
  refine mk' (by rw [comp_length]; exact h.1) (fun j hj => ⟨img q (img p j), k.img_lt (h.img_lt hj), ?_⟩) fun i j hi hj e => ?_
  · rw [comp_get _ _ (by rw [h.1]; exact hj), k.get_eq (h.img_lt hj)]
  · rw [img_comp _ _ (by rw [h.1]; exact hi), img_comp _ _ (by rw [h.1]; exact hj)] at e
    exact h.inj hi hj (k.inj (h.img_lt hi) (h.img_lt hj) e)
theorem cimg (h : Pm n p) {i : Nat} (hi : i < n) : img (Go.Pm.comp p q) i = img q (img p i) := img_comp _ _ (by rw [h.1]; exact hi)

/-- Every point is met. -/
theorem surj (h : Pm n p) {i : Nat} (hi : i < n) : ∃ j, j < n ∧ img p j = i := by
  have hn : ((List.range n).map (img p)).Nodup := by
    rw [List.nodup_iff_pairwise_ne, List.pairwise_map]
    refine List.Pairwise.imp_of_mem (R := fun a b => a ≠ b) ?_ (List.nodup_iff_pairwise_ne.1 List.nodup_range)
    intro a b ha hb hne e
    exact hne (h.inj (by simpa using ha) (by simpa using hb) e)
  have := (Go.Plain.nodup_iff_all (l := (List.range n).map (img p)) (n := n) (by simp) (fun x hx => by
    obtain ⟨j, hj, rfl⟩ := List.mem_map.1 hx
    exact h.img_lt (by simpa using hj))).1 hn i hi
  obtain ⟨j, hj, e⟩ := List.mem_map.1 this
  exact ⟨j, by simpa using hj, e⟩

theorem find (h : Pm n p) {i : Nat} (hi : i < n) : p.findIdx (fun x => decide (x = (i : Int))) < n ∧ img p (p.findIdx fun x => decide (x = (i : Int))) = i := by
  obtain ⟨j, hj, e⟩ := h.surj hi
  have hlt : p.findIdx (fun x => decide (x = (i : Int))) < p.length := by
    rw [List.findIdx_lt_length]
    refine ⟨p.getD j 0, ?_, ?_⟩
    · have hj' : j < p.length := by rw [h.1]; exact hj
      rw [List.getD_eq_getElem?_getD, List.getElem?_eq_getElem hj']
      exact List.getElem_mem hj'
    · rw [h.get_eq hj, e]; simp
  have := List.findIdx_getElem (w := hlt)
  refine ⟨by rw [← h.1]; exact hlt, ?_⟩
  simp only [decide_eq_true_eq] at this
  unfold Pm.img
  rw [List.getD_eq_getElem?_getD, List.getElem?_eq_getElem hlt, Option.getD_some, this]
  simp
theorem inv_get (h : Pm n p) {i : Nat} (hi : i < n) : (invp p).getD i 0 = ((p.findIdx fun x => decide (x = (i : Int)) : Nat) : Int) := by
  have : i < p.length := by rw [h.1]; exact hi
  simp [invp, List.getD_eq_getElem?_getD, this]
theorem inv_img (h : Pm n p) {i : Nat} (hi : i < n) : img p (img (invp p) i) = i := by
  have : img (invp p) i = p.findIdx fun x => decide (x = (i : Int)) := by unfold Pm.img; rw [h.inv_get hi]; rfl
  rw [this]; exact (h.find hi).2
theorem inv (h : Pm n p) : Pm n (invp p) := by
  refine mk' (by simp [invp, h.1]) (fun j hj => ⟨_, (h.find hj).1, h.inv_get hj⟩) fun i j hi hj e => ?_
  rw [← h.inv_img hi, ← h.inv_img hj, e]
theorem img_inv (h : Pm n p) {i : Nat} (hi : i < n) : img (invp p) (img p i) = i :=
  h.inj (h.inv.img_lt (h.img_lt hi)) hi (h.inv_img (h.img_lt hi))

theorem comp_inv (h : Pm n p) : Go.Pm.comp p (invp p) = Go.Pm.idn n :=
  (h.comp h.inv).ext_img (.idn n) fun i hi => by rw [h.cimg hi, h.img_inv hi, img_idn hi]
theorem inv_comp (h : Pm n p) : Go.Pm.comp (invp p) p = Go.Pm.idn n :=
  (h.inv.comp h).ext_img (.idn n) fun i hi => by rw [h.inv.cimg hi, h.inv_img hi, img_idn hi]
theorem comp_idn (h : Pm n p) : Go.Pm.comp p (Go.Pm.idn n) = p :=
  (h.comp (.idn n)).ext_img h fun i hi => by rw [h.cimg hi, img_idn (h.img_lt hi)]
theorem idn_comp (h : Pm n p) : Go.Pm.comp (Go.Pm.idn n) p = p :=
  ((Pm.idn n).comp h).ext_img h fun i hi => by rw [(Pm.idn n).cimg hi, img_idn hi]
theorem assoc (h : Pm n p) (k : Pm n q) (l : Pm n r) : Go.Pm.comp (Go.Pm.comp p q) r = Go.Pm.comp p (Go.Pm.comp q r) :=
  ((h.comp k).comp l).ext_img (h.comp (k.comp l)) fun i hi => by
    rw [(h.comp k).cimg hi, h.cimg hi, h.cimg hi, k.cimg (h.img_lt hi)]
theorem cancel (h : Pm n p) (k : Pm n q) : Go.Pm.comp (Go.Pm.comp p q) (invp q) = p := by
  rw [h.assoc k k.inv, k.comp_inv, h.comp_idn]
theorem cancel' (h : Pm n p) (k : Pm n q) : Go.Pm.comp (Go.Pm.comp p (invp q)) q = p := by
  rw [h.assoc k.inv k, k.inv_comp, h.comp_idn]
theorem right_inj (h : Pm n p) (k : Pm n q) (l : Pm n r) (e : Go.Pm.comp p r = Go.Pm.comp q r) : p = q := by
  rw [← h.cancel l, e, k.cancel l]
theorem inv_idn (n : Nat) : invp (Go.Pm.idn n) = Go.Pm.idn n := by
  have h := Pm.idn n
  have := h.comp_inv
  rwa [h.inv.idn_comp] at this
theorem inv_inv (h : Pm n p) : invp (invp p) = p := by
  refine h.inv.inv.right_inj h h.inv ?_
  rw [h.inv.inv_comp, h.comp_inv]
theorem inv_of_comp (h : Pm n p) (k : Pm n q) (e : Go.Pm.comp p q = Go.Pm.idn n) : p = invp q := by
  refine h.right_inj k.inv k ?_
  rw [e, k.inv_comp]
end Pm

/-- What is generated (products of generators, applied one after the other). -/
inductive Gen (n : Nat) (S : List (List Int)) : List Int → Prop
  | one : Gen n S (idn n)
  | mul {p g : List Int} : Gen n S p → g ∈ S → Gen n S (comp p g)

section
variable {n : Nat} {S S' : List (List Int)} {p q : List Int}
theorem Gen.pm (hS : ∀ g ∈ S, Pm n g) (h : Gen n S p) : Pm n p := by
  induction h with
  | one => exact .idn n
  | mul _ hg ih => exact ih.comp (hS _ hg)
theorem Gen.prod (hS : ∀ g ∈ S, Pm n g) (h : Gen n S p) (k : Gen n S q) : Gen n S (comp p q) := by
  induction k with
  | one => rw [(h.pm hS).comp_idn]; exact h
  | mul k hg ih => rw [← (h.pm hS).assoc (k.pm hS) (hS _ hg)]; exact ih.mul hg
theorem Gen.of (hS : ∀ g ∈ S, Pm n g) (h : p ∈ S) : Gen n S p := by
  have := (Gen.one (n := n) (S := S)).mul h
  rwa [(hS _ h).idn_comp] at this
theorem Gen.sub (hS : ∀ g ∈ S', Pm n g) (hs : ∀ g ∈ S, Gen n S' g) (h : Gen n S p) : Gen n S' p := by
  induction h with
  | one => exact .one
  | mul _ hg ih => exact ih.prod hS (hs _ hg)
theorem Gen.mono (hs : ∀ g ∈ S, g ∈ S') (h : Gen n S p) : Gen n S' p := by
  induction h with
  | one => exact .one
  | mul _ hg ih => exact ih.mul (hs _ hg)
end
end Go.Pm
end
/- Words: free reduction, runs of letters, their lengths; plain. -/
section
namespace Go.Wd
set_option linter.unusedVariables false
set_option linter.unusedSimpArgs false
/-- One letter more: it is taken off with its inverse, or laid on. -/
def frS (o : List Int) (l : Int) : List Int := if 0 < o.length ∧ o.getD (o.length - 1) 0 = -l then o.take (o.length - 1) else o ++ [l]
def fr (w : List Int) : List Int := w.foldl frS []
def inv (w : List Int) : List Int := (w.map (- ·)).reverse
theorem getD_take (o : List Int) {i k : Nat} (h : i < k) : (o.take k).getD i 0 = o.getD i 0 := by
  simp [List.getD_eq_getElem?_getD, List.getElem?_take, h]
theorem fr_snoc (w : List Int) (k : Nat) (h : k < w.length) : fr (w.take (k + 1)) = frS (fr (w.take k)) (w.getD k 0) := by
  unfold fr
  rw [List.take_add_one, List.foldl_append]
  simp [List.getD_eq_getElem?_getD, h]
theorem frS_len (o : List Int) (l : Int) : (frS o l).length ≤ o.length + 1 := by
  unfold frS; split
  · rw [List.length_take]; omega
  · simp
theorem foldl_len : ∀ (w o : List Int), (w.foldl frS o).length ≤ o.length + w.length
  | [], o => by simp
  | l :: w, o => by
    have h1 := foldl_len w (frS o l)
    have h2 := frS_len o l
    simp only [List.foldl_cons, List.length_cons]; omega
theorem fr_len (w : List Int) : (fr w).length ≤ w.length := by simpa [fr] using foldl_len w []
theorem mem_frS {o : List Int} {l x : Int} (h : x ∈ frS o l) : x ∈ o ∨ x = l := by
  unfold frS at h
  split at h
  · exact .inl (List.mem_of_mem_take h)
  · rcases List.mem_append.1 h with h | h
    · exact .inl h
    · exact .inr (by simpa using h)
theorem mem_foldl {x : Int} : ∀ (w o : List Int), x ∈ w.foldl frS o → x ∈ o ∨ x ∈ w
  | [], o, h => .inl h
  | l :: w, o, h => by
    rcases mem_foldl w _ h with h | h
    · rcases mem_frS h with h | h
      · exact .inl h
      · exact .inr (by rw [h]; simp)
    · exact .inr (by simp [h])
theorem mem_fr {w : List Int} {x : Int} (h : x ∈ fr w) : x ∈ w := by
  rcases mem_foldl w [] h with h | h
  · simp at h
  · exact h
/-- The runs of the first k letters. -/
def runsK (al : Int → Int → Bool) (w : List Int) : Nat → List (List Int)
  | 0 => []
  | k + 1 => if 0 < k ∧ al (w.getD (k - 1) 0) (w.getD k 0) = true then (runsK al w k).set ((runsK al w k).length - 1) ((runsK al w k).getD ((runsK al w k).length - 1) [] ++ [w.getD k 0]) else runsK al w k ++ [[w.getD k 0]]
end Go.Wd
end

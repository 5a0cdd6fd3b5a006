import Derived.Test.YtngpacdhpblpbaaE2
import Derived.ProofKit
import Derived.OpenShut
import Derived.ShutString
import Derived.ChangeOld
import Derived.Below
import Derived.Carry
import Derived.Deep.Slices
import Derived.Lib.SmallJoins
import Derived.Calls
/- The heap told anew: names turned, nil told as a slice of our own, and cells told one by one. -/
section
namespace Go.Av
/-- A hypothesis that the walk is not to see. -/
structure Hold (p : Prop) : Prop where
  h : p
section
variable {N : Cx} {A A' : Fr} {H H' : Hp}
/-- How what is told before (by old names) is told afterwards (by new ones): ρ gives the old name of a new one; a new name without an old one is a nil slice. -/
inductive Lay (ρ : Nat → Option Nat) : AV → AV → Prop
  | own {h g off sz n : Nat} : ρ h = some g → Lay ρ (.own g off sz n) (.own h off sz n)
  | ref {h g off : Nat} : ρ h = some g → Lay ρ (.ref g off) (.ref h off)
  | nil {h sz : Nat} : ρ h = none → Lay ρ (.v (.slice none 0 0)) (.own h 0 sz 0)
  | plain {a : AV} : a.plain → Lay ρ a a
  | agg {n : Nat} {f g : Nat → AV} : (∀ i, i < n → Lay ρ (f i) (g i)) → Lay ρ (.agg n f) (.agg n g)
  | map {h g : Nat} : ρ h = some g → Lay ρ (.map g) (.map h)
  | dead (a : AV) : Lay ρ a .dead
theorem Lay.rd {ρ : Nat → Option Nat} {w : World} {ok : Nat → Prop} {L : Loc} {a c : AV} (h : Lay ρ a c) : ∀ u, Rd w ok L a u → Rd w ok (fun h => (ρ h).bind L) c u := by
  induction h with
  | @own h g off sz n e => intro u hu; simp only [Rd, e, Option.bind_some] at hu ⊢; exact hu
  | @ref h g off e => intro u hu; simp only [Rd, e, Option.bind_some] at hu ⊢; exact hu
  | @nil h sz e => intro u hu; simp only [Rd, e, Option.bind_none] at hu ⊢; exact ⟨hu, trivial⟩
  | @plain a hp => intro u hu; exact Rd.plain a _ _ u hp hu
  | @agg n f g _ ih => rintro u ⟨cs, h1, h2, h3⟩; exact ⟨cs, h1, h2, fun i hi => let ⟨c, k1, k2⟩ := h3 i hi; ⟨c, k1, ih i hi _ k2⟩⟩
  | @map h g e => intro u hu; simp only [Rd, e, Option.bind_some] at hu ⊢; exact hu
  | dead a => intro u _; trivial
/-- .. where some blocks are maps. -/
theorem Sub.layM (ρ : Nat → Option Nat) (hpn : N.pn = fun _ => false) (hA : ∀ i c, A'.get i = some c → ∃ a, A.get i = some a ∧ Lay ρ a c)
    (hH : ∀ h B', H' h = some B' → (∃ g n f f', ρ h = some g ∧ B' = .cells n f' ∧ H g = some (.cells n f) ∧ ∀ i, i < n → Lay ρ (f i) (f' i)) ∨ (ρ h = none ∧ ∃ f, B' = .cells 0 f) ∨ (∃ g kv, ρ h = some g ∧ B' = .mp kv ∧ H g = some (.mp kv) ∧ ∀ x ∈ kv, x.2.plain))
    (hinj : ∀ h g k, H' h ≠ none → H' g ≠ none → ρ h = some k → ρ g = some k → h = g) : Sub N A H A' H' := by
  intro w0 S hS w tm L s
  have live : ∀ h k, H' h ≠ none → ρ h = some k → H k ≠ none := by
    intro h k hn e
    cases hB : H' h with
    | none => exact absurd hB hn
    | some B =>
      rcases hH h B hB with ⟨g, n, f, f', e1, _, e2, _⟩ | ⟨e1, _⟩ | ⟨g, kv, e1, _, e2, _⟩
      · rw [e] at e1; simp only [Option.some.injEq] at e1; subst e1; rw [e2]; simp
      · rw [e] at e1; simp at e1
      · rw [e] at e1; simp only [Option.some.injEq] at e1; subst e1; rw [e2]; simp
  have dec : ∀ h q, ((ρ h).bind L) = some q → ∃ k, ρ h = some k ∧ L k = some q := by
    intro h q hq
    cases e : ρ h with
    | none => rw [e] at hq; simp at hq
    | some k => rw [e] at hq; exact ⟨k, rfl, hq⟩
  have hok : ∀ b, okb S H L b → okb S H' (fun h => (ρ h).bind L) b := fun b hb => ⟨hb.1, fun h q hn hq => by
    obtain ⟨k, e1, e2⟩ := dec h q hq
    exact hb.2 k q (live h k hn e1) e2⟩
  refine ⟨fun h => (ρ h).bind L, s.keep, s.size, fun i c hc => ?_, fun h B hB => ?_, fun h q hn hq => ?_, fun h g q r hn hm hq hr e => ?_, fun h l hl => ?_⟩
  · obtain ⟨a, h1, h2⟩ := hA i c hc
    exact Rd.mono (fun b _ hb => hok b hb) (h2.rd _ (s.slot i a h1))
  · rcases hH h B hB with ⟨g, n, f, f', e1, rfl, e2, e3⟩ | ⟨e1, f, rfl⟩ | ⟨g, kv, e1, rfl, e2, e3⟩
    · have hb := s.blk g _ e2
      simp only [e1, Option.bind_some]
      cases hl : L g with
      | none => rw [hl] at hb; exact hb
      | some q =>
        rw [hl] at hb
        obtain ⟨cs, e, k1, k2, k3⟩ := hb
        exact ⟨cs, e, k1, k2, fun i hi => let ⟨c, k4, k5⟩ := k3 i hi; ⟨c, k4, Rd.mono (fun b _ hb => hok b hb) ((e3 i hi).rd _ k5)⟩⟩
    · simp only [e1, Option.bind_none]; rfl
    · have hb := s.blk g _ e2
      simp only [e1, Option.bind_some]
      cases hl : L g with
      | none => rw [hl] at hb; exact hb.elim
      | some q =>
        rw [hl] at hb
        obtain ⟨es, clock, k1, k2, k3⟩ := hb
        exact ⟨es, clock, k1, k2, fun i e he => let ⟨a, k4, k5⟩ := k3 i e he; ⟨a, k4, Rd.mono (fun b _ hb => hok b hb) (Rd.plain a _ _ _ (e3 _ (List.mem_of_getElem? k4)) k5)⟩⟩
  · obtain ⟨k, e1, e2⟩ := dec h q hq
    exact s.own k q (live h k hn e1) e2
  · obtain ⟨k1, e1, e2⟩ := dec h q hq
    obtain ⟨k2, e3, e4⟩ := dec g r hr
    have := s.inj k1 k2 q r (live h k1 hn e1) (live g k2 hm e3) e2 e4 e
    subst this
    exact hinj h g k1 hn hm e1 e3
  · rw [hS.free h (by rw [hpn])] at hl; simp at hl
theorem Sub.lay (ρ : Nat → Option Nat) (hpn : N.pn = fun _ => false) (hA : ∀ i c, A'.get i = some c → ∃ a, A.get i = some a ∧ Lay ρ a c)
    (hH : ∀ h B', H' h = some B' → (∃ g n f f', ρ h = some g ∧ B' = .cells n f' ∧ H g = some (.cells n f) ∧ ∀ i, i < n → Lay ρ (f i) (f' i)) ∨ (ρ h = none ∧ ∃ f, B' = .cells 0 f))
    (hinj : ∀ h g k, H' h ≠ none → H' g ≠ none → ρ h = some k → ρ g = some k → h = g) : Sub N A H A' H' :=
  Sub.layM ρ hpn hA (fun h B' hB => (hH h B' hB).elim .inl (fun k => .inr (.inl k))) hinj
theorem lay_nil {ρ : Nat → Option Nat} : ∀ i c, Fr.get [] i = some c → ∃ a, A.get i = some a ∧ Lay ρ a c := fun i c h => by simp [Fr.get] at h
theorem lay_cons {ρ : Nat → Option Nat} {t : Nat} {a : AV} {r : Fr} (h0 : ∃ b, A.get t = some b ∧ Lay ρ b a) (h : ∀ i c, Fr.get r i = some c → ∃ a, A.get i = some a ∧ Lay ρ a c) : ∀ i c, Fr.get ((t, a) :: r) i = some c → ∃ a, A.get i = some a ∧ Lay ρ a c := fun i c e => by
  simp only [Fr.get] at e
  split at e
  · rename_i e1; subst e1; simp only [Option.some.injEq] at e; subst e; exact h0
  · exact h i c e
theorem end_post {P : Program} {fn : Func} {t : Tmp} {a : AV} {post : AV → Hp → Prop} (hr : fn.results.toList = [.tmp t]) (hA : A.get t = some a) (hl : Hp.le H' H) (hp : post a H') : endQ P N fn post .ret A H :=
  ⟨A, H', Sub.mk (fun _ _ h => h) hl, by rw [hr]; simp only [resVC, hA]; exact hp⟩
/-- Each block told in H1 stands in H, and fits what is told of it (the names of D are frozen). -/
def LeF (D : Nat → Prop) (H1 H : Hp) : Prop := ∀ x B, H1 x = some B → ¬ D x ∧ ∃ B', H x = some B' ∧ BFits H D B' B
theorem leF_emp {D : Nat → Prop} : LeF D Hp.emp H := fun x B h => by simp [Hp.emp] at h
theorem leF_upd {D : Nat → Prop} {h : Nat} {B B' : Blk} (k : H h = some B') (e : BFits H D B' B) (r : LeF D H' H) (hD : ¬ D h) : LeF D (H'.upd h B) H := fun x C hC => by
  unfold Hp.upd at hC
  split at hC
  · rename_i e1; subst e1; simp only [Option.some.injEq] at hC; subst hC; exact ⟨hD, B', k, e⟩
  · exact r x C hC
theorem bfE {D : Nat → Prop} {n m : Nat} {f g : Nat → AV} (hn : n = m) (h : ∀ i, i < n → f i = g i) : BFits H D (.cells n f) (.cells m g) := ⟨hn, fun i hi => by rw [h i hi]; exact .refl _⟩
theorem Sub.toLF (hA : Fr.sub A A') (hH : LeF (fun _ => False) H' H) : Sub N A H A' H' := Sub.fits (fun _ => False) (fun i c hc => ⟨c, Fr.sub_get A' A hA i c hc, .refl c⟩) hH
theorem Sub.toFF (D : Nat → Prop) (hA : Fr.fit H D A A') (hH : LeF D H' H) : Sub N A H A' H' := Sub.fits D (Fr.fit_get A' A hA) hH
/-- The end of a function whose result lies in a cell. -/
theorem end_postC {P : Program} {fn : Func} {t : Tmp} {ty : TypeId} {h n : Nat} {z : List Value} {f g : Nat → AV} {post : AV → Hp → Prop} (hr : fn.results.toList = [.cell t ty]) (hA : A.get t = some (.ref h 0)) (hty : tyOf P ty = some ⟨true, n, z⟩) (hH : H h = some (.cells n f)) (hg : ∀ i, i < n → f i = g i)
    (hl : LeF (fun _ => False) H' H) (hne : H' h = none) (hp : post (.agg n g) H') : endQ P N fn post .ret A H := by
  refine ⟨A, H'.upd h (.cells n g), Sub.fits (fun _ => False) (fun i c hc => ⟨c, hc, .refl c⟩) (leF_upd hH (bfE rfl hg) hl id), ?_⟩
  rw [hr]
  simp only [resVC, hA, withA_some, hty, ldVC, Hp.upd, if_true, Ob]
  refine ⟨by omega, H', fun x B hB => ?_, ?_⟩
  · unfold Hp.upd
    split
    · rename_i e; subst e; rw [hne] at hB; cases hB
    · exact hB
  · have : (fun j => g (0 + j)) = g := by funext j; rw [Nat.zero_add]
    rw [this]; exact hp
/-- Each block told in H1 by new names stands in H by old ones. -/
def LayF (ρ : Nat → Option Nat) (H1 H : Hp) : Prop := ∀ h B', H1 h = some B' → (∃ g n f f', ρ h = some g ∧ B' = .cells n f' ∧ H g = some (.cells n f) ∧ ∀ i, i < n → Lay ρ (f i) (f' i)) ∨ (ρ h = none ∧ ∃ f, B' = .cells 0 f) ∨ (∃ g kv, ρ h = some g ∧ B' = .mp kv ∧ H g = some (.mp kv) ∧ ∀ x ∈ kv, x.2.plain)
theorem layF_emp {ρ : Nat → Option Nat} : LayF ρ Hp.emp H := fun x B h => by simp [Hp.emp] at h
theorem layF_upd {ρ : Nat → Option Nat} {h g n : Nat} {f f' : Nat → AV} (e : ρ h = some g) (k : H g = some (.cells n f)) (l : ∀ i, i < n → Lay ρ (f i) (f' i)) (r : LayF ρ H' H) : LayF ρ (H'.upd h (.cells n f')) H := fun x C hC => by
  unfold Hp.upd at hC
  split at hC
  · rename_i e1; subst e1; simp only [Option.some.injEq] at hC; subst hC; exact .inl ⟨g, n, f, f', e, rfl, k, l⟩
  · exact r x C hC
theorem AC.mono {P : Program} {f : FuncId} {args : List AV} {Hin : Hp} {pn : Nat → Bool} {post post' : AV → Hp → Prop} (h : AC P f args Hin pn post) (hq : ∀ r H, post r H → post' r H) : AC P f args Hin pn post' := by
  refine ⟨h.1, fun S w L vs hS hpin s hargs => (h.2 S w L vs hS hpin s hargs).mono ?_⟩
  rintro e w' ⟨u, L', r, H', rfl, s2, hr, hp⟩
  exact ⟨u, L', r, H', rfl, s2, hr, hq r H' hp⟩
end
end Go.Av
end
/- Regions whose order is open and that lay several new blocks: each operation reads what was there before, or lays a block of its own. -/
section
namespace Go.Av
section
variable {P : Program} {N : Cx} {A : Fr} {H H0 : Hp}

theorem Fits.up {D : Nat → Prop} (hle : Hp.le H0 H) {a c : AV} (h : Fits H0 D a c) : Fits H D a c := by
  induction h with
  | refl a => exact .refl a
  | own h1 h2 h3 h4 _ ih => exact .own (hle _ _ h1) h2 h3 h4 ih
  | list h1 h2 _ ih => exact .list h1 h2 ih
  | nil => exact .nil
  | agg _ ih => exact .agg ih
  | ref h1 h2 h3 h4 _ ih => exact .ref (hle _ _ h1) h2 h3 h4 ih
  | clo _ ih => exact .clo ih
  | tup _ ih => exact .tup ih
  | nonnil h1 _ ih => exact .nonnil h1 ih
  | dead a => exact .dead a
theorem FitsL.up {D : Nat → Prop} (hle : Hp.le H0 H) {l r : List AV} (h : FitsL H0 D l r) : FitsL H D l r := by
  induction h with
  | nil => exact .nil
  | cons h _ ih => exact .cons (h.up hle) ih
variable (P N) in
/-- An operation that reads what was there before (H0), or lays a block of its own; M: what is known of the new blocks when it comes. -/
def opF (d : Nat) (op : Op) (A : Fr) (H0 M : Hp) (K : AV → Option (Nat × Blk) → Prop) : Prop :=
  match op with
  | .buildSlice t len ps => match selOf P t, evParts A ps.toList with
    | some se, some l => Ob ((N.pn d = false ∧ 0 < se.size ∧ len * se.size ≤ 16777216) ∧ fillOk (fun i => some (i * se.size, se.size)) (len * se.size) l)
        (K (.own d 0 se.size len) (some (d, .cells (len * se.size) (fillF (fun i => some (i * se.size, se.size)) l (zF se.zero)))))
    | _, _ => False
  | .makeMap t none => match mapOf P t with
    | some _ => Ob (N.pn d = false) (K (.map d) (some (d, .mp [])))
    | none => False
  | .insert t m k x => withA (A.ev m) fun a => withA (A.ev k) fun b => withA (A.ev x) fun c => match mapOf P t, a, b with
    | some _, .map h, .v (.string s) => (match M h with
      | some (.mp kv) => Ob (kvStr kv = true) (Ob (kvHas s kv = false) (K .dead (some (h, .mp (kv ++ [(.string s, c)])))))
      | _ => False)
    | _, _, _ => False
  | .box _ x => withA (A.ev x) fun a => Ob (N.pn d = false) (match aggOf a with
    | some (n, g) => K (.ref d 0) (some (d, .cells n g))
    | none => Ob (a.one = true) (K (.ref d 0) (some (d, .cells 1 fun _ => a))))
  | .alloc t => match tyOf P t with
    | some ty => Ob (N.pn d = false) (K (.ref d 0) (some (d, .cells ty.size (zF ty.zero))))
    | none => False
  | op => opQ P N d op A H0 fun r => K r none

section
variable {bs : List (Option (Nat × Blk))} {li li' : Nat → Bool}
end
def bad (tg a : List Nat) (h : Nat) : Bool := tg.contains h && !a.contains h
def badB (tg a : List Nat) (d h : Nat) : Bool := tg.contains h && (!a.contains h || h == d)
variable (P N) in
/-- The free part, read in its order. -/
def opsF (tg : List Nat) (Q : Fr → Hp → Prop) : List Oper → List (List Nat) → Fr → Hp → Hp → Prop
  | [], _, A, _, M => Q A M
  | o :: l, an, A, H0, M => opF P N (o.dst.getD 0) o.op A H0 M fun r b => Ob (r.scrub (bad tg (an.headD [])) = r) (match b with
    | none => opsF tg Q l an.tail (putd o.dst r A) H0 M
    | some (d, B) => Ob ((an.headD []).contains d = true ∧ B.scrub (badB tg (an.headD []) d) = B) (opsF tg Q l an.tail (putd o.dst r A) H0 (M.upd d B)))
section
variable (d : Nat) (A : Fr) (H0 M : Hp) (K : AV → Option (Nat × Blk) → Prop)
theorem opF_move (x : Operand) : opF P N d (.move x) A H0 M K = opQ P N d (.move x) A H0 fun r => K r none := rfl
theorem opF_load (t : TypeId) (x : Operand) : opF P N d (.load t x) A H0 M K = opQ P N d (.load t x) A H0 fun r => K r none := rfl
theorem opF_fieldAddr (t : TypeId) (x : Operand) (i : Nat) : opF P N d (.fieldAddr t x i) A H0 M K = opQ P N d (.fieldAddr t x i) A H0 fun r => K r none := rfl
theorem opF_indexAddr (t : TypeId) (x y : Operand) : opF P N d (.indexAddr t x y) A H0 M K = opQ P N d (.indexAddr t x y) A H0 fun r => K r none := rfl
theorem opF_nilCheck (x : Operand) : opF P N d (.nilCheck x) A H0 M K = opQ P N d (.nilCheck x) A H0 fun r => K r none := rfl
theorem opF_call (c : Call) : opF P N d (.call c) A H0 M K = opQ P N d (.call c) A H0 fun r => K r none := rfl
theorem opF_binOp (o : BinOp) (t : TypeId) (x y : Operand) (u : TypeId) : opF P N d (.binOp o t x y u) A H0 M K = opQ P N d (.binOp o t x y u) A H0 fun r => K r none := rfl
theorem opF_build (t : TypeId) (ps : Array (Nat × Operand)) : opF P N d (.build t ps) A H0 M K = opQ P N d (.build t ps) A H0 fun r => K r none := rfl
theorem opF_bs (t : TypeId) (len : Nat) (ps : Array (Nat × Operand)) : opF P N d (.buildSlice t len ps) A H0 M K = (match selOf P t, evParts A ps.toList with
    | some se, some l => Ob ((N.pn d = false ∧ 0 < se.size ∧ len * se.size ≤ 16777216) ∧ fillOk (fun i => some (i * se.size, se.size)) (len * se.size) l)
        (K (.own d 0 se.size len) (some (d, .cells (len * se.size) (fillF (fun i => some (i * se.size, se.size)) l (zF se.zero)))))
    | _, _ => False) := rfl
theorem opF_mk (t : TypeId) : opF P N d (.makeMap t none) A H0 M K = (match mapOf P t with
    | some _ => Ob (N.pn d = false) (K (.map d) (some (d, .mp [])))
    | none => False) := rfl
theorem opF_ins (t : TypeId) (m k x : Operand) : opF P N d (.insert t m k x) A H0 M K = (withA (A.ev m) fun a => withA (A.ev k) fun b => withA (A.ev x) fun c => match mapOf P t, a, b with
    | some _, .map h, .v (.string s) => (match M h with
      | some (.mp kv) => Ob (kvStr kv = true) (Ob (kvHas s kv = false) (K .dead (some (h, .mp (kv ++ [(.string s, c)])))))
      | _ => False)
    | _, _, _ => False) := rfl
theorem opF_box (t : TypeId) (x : Operand) : opF P N d (.box t x) A H0 M K = (withA (A.ev x) fun a => Ob (N.pn d = false) (match aggOf a with
    | some (n, g) => K (.ref d 0) (some (d, .cells n g))
    | none => Ob (a.one = true) (K (.ref d 0) (some (d, .cells 1 fun _ => a))))) := rfl
theorem opF_alloc (t : TypeId) : opF P N d (.alloc t) A H0 M K = (match tyOf P t with
    | some ty => Ob (N.pn d = false) (K (.ref d 0) (some (d, .cells ty.size (zF ty.zero))))
    | none => False) := rfl
theorem opsF_nil (tg : List Nat) (Q : Fr → Hp → Prop) (an : List (List Nat)) : opsF P N tg Q [] an A H0 M = Q A M := rfl
theorem opsF_some (tg : List Nat) (Q : Fr → Hp → Prop) (op : Op) (ty : TypeId) (pos : String) (aft : Array Edge) (l : List Oper) (a : List Nat) (an : List (List Nat)) : opsF P N tg Q (⟨some d, op, ty, pos, aft, none⟩ :: l) (a :: an) A H0 M = opF P N d op A H0 M fun r b => Ob (r.scrub (bad tg a) = r) (match b with
    | none => opsF P N tg Q l an ((d, r) :: A) H0 M
    | some (d', B) => Ob (a.contains d' = true ∧ B.scrub (badB tg a d') = B) (opsF P N tg Q l an ((d, r) :: A) H0 (M.upd d' B))) := rfl
theorem opsF_none (tg : List Nat) (Q : Fr → Hp → Prop) (op : Op) (ty : TypeId) (pos : String) (aft : Array Edge) (l : List Oper) (a : List Nat) (an : List (List Nat)) : opsF P N tg Q (⟨none, op, ty, pos, aft, none⟩ :: l) (a :: an) A H0 M = opF P N 0 op A H0 M fun r b => Ob (r.scrub (bad tg a) = r) (match b with
    | none => opsF P N tg Q l an A H0 M
    | some (d', B) => Ob (a.contains d' = true ∧ B.scrub (badB tg a d') = B) (opsF P N tg Q l an A H0 (M.upd d' B))) := rfl
end
attribute [go_sem ↓] opF_move opF_load opF_fieldAddr opF_indexAddr opF_nilCheck opF_call opF_binOp opF_build opF_bs opF_mk opF_ins opF_box opF_alloc opsF_nil opsF_some opsF_none
end
end Go.Av
end
/- Results that stand over blocks of our own; calls that read such blocks. -/
section
namespace Go.Av
section
variable {N : Cx} {A A' : Fr} {H H' : Hp}
theorem end_tup2 {P : Program} {fn : Func} {t u : Tmp} {a b : AV} {post : AV → Hp → Prop} (hr : fn.results.toList = [.tmp t, .tmp u]) (htu : t ≠ u) (s : Sub N A H [(t, a), (u, b)] H') (hp : post (.tup 2 (vecF [a, b])) H') : endQ P N fn post .ret A H :=
  ⟨_, _, s, by rw [hr]; simp only [resVC, Fr.get, if_true, withA_some, htu, if_false]; exact hp⟩
theorem ap_ints (xs : List (List Int)) (y : List Int) : ∀ i, i < xs.length + 1 → apF xs.length (cM ints [] xs) (setF (zF [.slice none 0 0]) 0 (ints y)) i = cM ints [] (xs ++ [y]) i := fun i hi => by
  by_cases h : i < xs.length
  · simp [apF, cM, List.getD_eq_getElem?_getD, List.getElem?_append, h]
  · have e : i = xs.length := by omega
    subst e
    simp [apF, setF, cM, List.getD_eq_getElem?_getD]
/-- Names that a contract's results may bear. -/
def pM (h : Nat) : Bool := decide (1000000 ≤ h)
theorem pM_low {h : Nat} (hh : h < 1000000) : pM h = false := by simp [pM]; omega
theorem pM_high {h : Nat} (hh : 1000000 ≤ h) : pM h = true := by simp [pM, hh]
/-- A call that hands back a result over blocks of its own. -/
theorem callHp {P : Program} {f : FuncId} {args : List AV} {pn : Nat → Bool} {post : AV → Hp → Prop} {K : AV → Fr → Hp → Prop} (hac : AC P f args Hp.emp pn post) (hpn : N.pn = fun _ => false)
    (hK : ∀ r H', post r H' → (∀ h, H' h ≠ none → 1000000 ≤ h) ∧ r.scrub (fun h => !liveB H' h) = r ∧ H'.scrub (fun h => !liveB H' h) = H' ∧ K r (A.scrub pM) (H'.add (H.scrub pM))) : CallG P N f args A H K := by
  refine callG_of hac pM false (by simp [Hp.emp]) (FitsL.refl _) (fun _ => rfl) (by simp [Hp.emp]) (by simp [hpn]) ?_
  intro r H' hp
  obtain ⟨h1, h2, h3, h4⟩ := hK r H' hp
  refine ⟨fun h hn _ => pM_high (h1 h hn), by simp, ?_⟩
  rw [h2, h3]
  have e : Hp.over H' (H.scrub pM) Hp.emp = H'.add (H.scrub pM) := by
    funext h
    unfold Hp.over Hp.add
    cases H' h with
    | some B => rfl
    | none => simp [Hp.emp]
  rw [e]; exact h4
theorem upd_add (X R : Hp) (h : Nat) (B : Blk) : (X.upd h B).add R = (X.add R).upd h B := by
  funext g
  unfold Hp.add Hp.upd
  by_cases e : g = h <;> simp [e]
theorem emp_add (R : Hp) : Hp.emp.add R = R := rfl
end
end Go.Av
end
/- Calls that read pinned blocks, and hand back new rows beside them. -/
section
namespace Go.Av
section
variable {P : Program} {N : Cx} {A : Fr} {H : Hp}
end
end Go.Av
end
/- Rows of rows, a row and a bool handed back at once. -/
section
namespace Go.Av
def nIIB (d e h : Nat) : Bool := famB d h || h == e
theorem nIIB_lit {d e h : Nat} (hh : h < 2097152) (h1 : h ≠ d) (h2 : h ≠ e) : nIIB d e h = false := by
  unfold nIIB
  rw [famB_lit hh, beq_eq_false_iff_ne.2 h1, beq_eq_false_iff_ne.2 h2]; rfl
theorem nIIB_d {d e : Nat} : nIIB d e d = true := by unfold nIIB famB; simp
theorem nIIB_e {d e : Nat} : nIIB d e e = true := by unfold nIIB; simp
section
variable {P : Program} {N : Cx} {A : Fr} {H : Hp}
theorem Hp.scrub_IIB {d e g k n : Nat} {xss : List (List Int)} (hd : d < 2097152) (he : e < 2097152) (_hg : g < 2097152) (hk : k ≤ 2097152) (hne : g ≠ d) (_hne2 : g ≠ e) : ((PR g xss k n).add H).scrub (nIIB d e) = (PR g xss k n).add (H.scrub (nIIB d e)) := by
  have hs : ∀ i, i < k → nIIB d e (sub g i) = false := fun i hi => by
    have h1 := sub_ge g i; rw [FB_eq] at h1
    have h2 : i < FB := by rw [FB_eq]; omega
    have h3 : sub g i ≠ e := by omega
    have h4 : sub g i ≠ d := by omega
    simp [nIIB, famB, h3, h4, sub_div h2, hne]
  funext x
  simp only [Hp.scrub, Hp.add]
  cases hx : (PR g xss k n) x with
  | none => rfl
  | some B =>
    simp only [Option.map_some, Option.some.injEq]
    unfold PR at hx
    split at hx
    · simp only [Option.some.injEq] at hx; subst hx
      simp only [Blk.scrub]
      congr 1
      funext i
      exact mixF_plain_scrub hs i
    · split at hx
      · simp only [Option.some.injEq] at hx; subst hx; rfl
      · simp at hx
end
attribute [go_sem] nIIB_lit nIIB_d nIIB_e Hp.scrub_IIB
end Go.Av
end
/- Regions of open order: the first operations in any order, then a sequence, and a last operation that sets a constant, anywhere. -/
section
namespace Go.Av
section
variable {P : Program} {N : Cx} {A : Fr} {H : Hp}
variable (P N) in
end
end Go.Av
end
/- Dice and sources: a struct of bytes, a place and a number, pinned; calls that throw them. -/
section
namespace Go.Av
/-- Dice: the code's bytes, how many are used up, a number. -/
structure Dc where
  xs : List Int
  i : Nat
  h : Int
  hi : i ≤ xs.length
  hx : ∀ j, 0 ≤ xs.getD j 0 ∧ xs.getD j 0 ≤ 255
  hl : xs.length ≤ 4096
def u8v (n : Int) : AV := .v (.int .u8 n)
abbrev bts (xs : List Int) : AV := .list false 1 xs.length (cM u8v 0 xs)
def dF (k : IntKind) (d : Dc) : Nat → AV := vecF [bts d.xs, .v (.int .i64 (d.i)), .v (.int k d.h)]
@[go_sem] theorem scF_dF (p : Nat → Bool) (k : IntKind) (d : Dc) : scF p (dF k d) = dF k d := by
  unfold dF; rw [scF_vecF]; rfl
def DH (k : IntKind) (d : Dc) : Hp := Hp.emp.upd 1000000 (.cells 3 (dF k d))
/-- Dice again, and a result. -/
def postD (k : IntKind) (Q : AV → Prop) (r : AV) (H : Hp) : Prop := ∃ d : Dc, Q r ∧ H = DH k d
section
variable {P : Program} {N : Cx} {A A' : Fr} {H H' : Hp}
/-- Names turned, those that stay left where they are. -/
theorem Sub.layMp (ρ : Nat → Option Nat) (hpn : ∀ h, N.pn h = true → ρ h = some h) (hA : ∀ i c, A'.get i = some c → ∃ a, A.get i = some a ∧ Lay ρ a c)
    (hH : ∀ h B', H' h = some B' → (∃ g n f f', ρ h = some g ∧ B' = .cells n f' ∧ H g = some (.cells n f) ∧ ∀ i, i < n → Lay ρ (f i) (f' i)) ∨ (ρ h = none ∧ ∃ f, B' = .cells 0 f) ∨ (∃ g kv, ρ h = some g ∧ B' = .mp kv ∧ H g = some (.mp kv) ∧ ∀ x ∈ kv, x.2.plain))
    (hinj : ∀ h g k, H' h ≠ none → H' g ≠ none → ρ h = some k → ρ g = some k → h = g) : Sub N A H A' H' := by
  intro w0 S hS w tm L s
  have live : ∀ h k, H' h ≠ none → ρ h = some k → H k ≠ none := by
    intro h k hn e
    cases hB : H' h with
    | none => exact absurd hB hn
    | some B =>
      rcases hH h B hB with ⟨g, n, f, f', e1, _, e2, _⟩ | ⟨e1, _⟩ | ⟨g, kv, e1, _, e2, _⟩
      · rw [e] at e1; simp only [Option.some.injEq] at e1; subst e1; rw [e2]; simp
      · rw [e] at e1; simp at e1
      · rw [e] at e1; simp only [Option.some.injEq] at e1; subst e1; rw [e2]; simp
  have dec : ∀ h q, ((ρ h).bind L) = some q → ∃ k, ρ h = some k ∧ L k = some q := by
    intro h q hq
    cases e : ρ h with
    | none => rw [e] at hq; simp at hq
    | some k => rw [e] at hq; exact ⟨k, rfl, hq⟩
  have hok : ∀ b, okb S H L b → okb S H' (fun h => (ρ h).bind L) b := fun b hb => ⟨hb.1, fun h q hn hq => by
    obtain ⟨k, e1, e2⟩ := dec h q hq
    exact hb.2 k q (live h k hn e1) e2⟩
  refine ⟨fun h => (ρ h).bind L, s.keep, s.size, fun i c hc => ?_, fun h B hB => ?_, fun h q hn hq => ?_, fun h g q r hn hm hq hr e => ?_, fun h l hl => ?_⟩
  · obtain ⟨a, h1, h2⟩ := hA i c hc
    exact Rd.mono (fun b _ hb => hok b hb) (h2.rd _ (s.slot i a h1))
  · rcases hH h B hB with ⟨g, n, f, f', e1, rfl, e2, e3⟩ | ⟨e1, f, rfl⟩ | ⟨g, kv, e1, rfl, e2, e3⟩
    · have hb := s.blk g _ e2
      simp only [e1, Option.bind_some]
      cases hl : L g with
      | none => rw [hl] at hb; exact hb
      | some q =>
        rw [hl] at hb
        obtain ⟨cs, e, k1, k2, k3⟩ := hb
        exact ⟨cs, e, k1, k2, fun i hi => let ⟨c, k4, k5⟩ := k3 i hi; ⟨c, k4, Rd.mono (fun b _ hb => hok b hb) ((e3 i hi).rd _ k5)⟩⟩
    · simp only [e1, Option.bind_none]; rfl
    · have hb := s.blk g _ e2
      simp only [e1, Option.bind_some]
      cases hl : L g with
      | none => rw [hl] at hb; exact hb.elim
      | some q =>
        rw [hl] at hb
        obtain ⟨es, clock, k1, k2, k3⟩ := hb
        exact ⟨es, clock, k1, k2, fun i e he => let ⟨a, k4, k5⟩ := k3 i e he; ⟨a, k4, Rd.mono (fun b _ hb => hok b hb) (Rd.plain a _ _ _ (e3 _ (List.mem_of_getElem? k4)) k5)⟩⟩
  · obtain ⟨k, e1, e2⟩ := dec h q hq
    exact s.own k q (live h k hn e1) e2
  · obtain ⟨k1, e1, e2⟩ := dec h q hq
    obtain ⟨k2, e3, e4⟩ := dec g r hr
    have := s.inj k1 k2 q r (live h k1 hn e1) (live g k2 hm e3) e2 e4 e
    subst this
    exact hinj h g k1 hn hm e1 e3
  · cases e : N.pn h with
    | false => rw [hS.free h e] at hl; simp at hl
    | true => show (ρ h).bind L = l; rw [hpn h e]; exact s.pin h l hl
/-- A call that throws dice. -/
theorem callD {f : FuncId} {args : List AV} {k : IntKind} {d : Dc} {Q : AV → Prop} {K : AV → Fr → Hp → Prop} (hH : H 1000000 = some (.cells 3 (dF k d))) (hac : AC P f args (DH k d) pM (postD k Q)) (hQ : ∀ r, Q r → ∀ p, r.scrub p = r)
    (hK : ∀ r d', Q r → K r A (H.upd 1000000 (.cells 3 (dF k d')))) : CallG P N f args A H K := by
  have hle : Hp.le (DH k d) H := Hp.le_upd hH (Hp.le_emp _)
  have hpm : ∀ h, DH k d h ≠ none → h = 1000000 := fun h hn => by
    unfold DH Hp.upd at hn
    by_cases e : h = 1000000
    · exact e
    · rw [if_neg e] at hn; exact absurd rfl hn
  refine callG_of hac (fun _ => false) false hle (FitsL.refl _) (fun _ => rfl) (fun h hn _ => by rw [hpm h hn]; rfl) (by simp) ?_
  rintro r H' ⟨d', hq, rfl⟩
  have hsame : ∀ h, DH k d' h ≠ none → h = 1000000 := fun h hn => by
    unfold DH Hp.upd at hn
    by_cases e : h = 1000000
    · exact e
    · rw [if_neg e] at hn; exact absurd rfl hn
  refine ⟨fun h h1 h2 => ?_, by simp, ?_⟩
  · rw [hsame h h1] at h2; exact absurd h2 (by unfold DH Hp.upd; simp)
  rw [hQ r hq, Fr.scrub_none, Hp.scrub_none]
  have e : Hp.over ((DH k d').scrub fun h => !liveB (DH k d') h) H (DH k d) = H.upd 1000000 (.cells 3 (dF k d')) := by
    unfold DH
    rw [Hp.scrub_upd, Blk.scrub_cells, scF_dF]
    funext h
    unfold Hp.over Hp.upd
    by_cases e : h = 1000000
    · simp only [if_pos e]
    · simp only [if_neg e]
      simp [Hp.scrub, Hp.emp]
  rw [e]; exact hK r d' hq
theorem end_postS {fn : Func} {t : Tmp} {a : AV} {H' : Hp} {post : AV → Hp → Prop} (hr : fn.results.toList = [.tmp t]) (s : Sub N A H [(t, a)] H') (hp : post a H') : endQ P N fn post .ret A H :=
  ⟨_, _, s, by rw [hr]; simp only [resVC, Fr.get, if_true]; exact hp⟩
/-- A call that makes dice. -/
theorem callRoll {f : FuncId} {args : List AV} {k : IntKind} {pn : Nat → Bool} {K : AV → Fr → Hp → Prop} (hac : AC P f args Hp.emp pn (postD k fun r => r = .ref 1000000 0)) (hpn : N.pn = fun _ => false) (hK : ∀ d, K (.ref 1000000 0) (A.scrub pM) ((H.scrub pM).upd 1000000 (.cells 3 (dF k d)))) : CallG P N f args A H K := by
  refine callHp hac hpn fun r H' hp => ?_
  obtain ⟨d, rfl, rfl⟩ := hp
  have hl : liveB (DH k d) 1000000 = true := rfl
  refine ⟨fun h hn => ?_, ?_, ?_, ?_⟩
  · unfold DH Hp.upd at hn
    by_cases e : h = 1000000
    · omega
    · rw [if_neg e] at hn; exact absurd rfl hn
  · simp [AV.scrub, hl]
  · unfold DH
    rw [Hp.scrub_upd, Blk.scrub_cells, scF_dF]
    rfl
  · have e : (DH k d).add (H.scrub pM) = (H.scrub pM).upd 1000000 (.cells 3 (dF k d)) := by
      unfold DH; rw [upd_add, emp_add]
    rw [e]; exact hK d
/-- The end of a function whose result lies in a cell; what it holds is frozen. -/
theorem end_postCF (D : Nat → Prop) {fn : Func} {t : Tmp} {ty : TypeId} {h n : Nat} {z : List Value} {f g : Nat → AV} {H' : Hp} {post : AV → Hp → Prop} (hr : fn.results.toList = [.cell t ty]) (hA : A.get t = some (.ref h 0)) (hty : tyOf P ty = some ⟨true, n, z⟩) (hH : H h = some (.cells n f)) (hg : ∀ i, i < n → Fits H D (f i) (g i))
    (hl : LeF D H' H) (hne : H' h = none) (hD : ¬ D h) (hp : post (.agg n g) H') : endQ P N fn post .ret A H := by
  refine ⟨[(t, .ref h 0)], H'.upd h (.cells n g), Sub.fits D (fun i c hc => ?_) (leF_upd hH ⟨rfl, hg⟩ hl hD), ?_⟩
  · simp only [Fr.get] at hc
    split at hc
    · rename_i e; subst e; cases hc; exact ⟨_, hA, .refl _⟩
    · cases hc
  rw [hr]
  simp only [resVC, Fr.get, if_true, withA_some, hty, ldVC, Hp.upd, Ob]
  refine ⟨by omega, H', fun x B hB => ?_, ?_⟩
  · unfold Hp.upd
    split
    · rename_i e; subst e; rw [hne] at hB; cases hB
    · exact hB
  · have : (fun j => g (0 + j)) = g := by funext j; rw [Nat.zero_add]
    rw [this]; exact hp
end
end Go.Av
end
/- Sources: calls that draw and hand back a row of their own; rows cut shorter. -/
section
namespace Go.Av
/-- A source, and a new row of our own. -/
def postDI {α : Type} (g : α → AV) (z : α) (k : IntKind) (e : Nat) (Q : List α → Prop) (r : AV) (H : Hp) : Prop := ∃ (d : Dc) (xs : List α), Q xs ∧ r = .own e 0 1 xs.length ∧ H = (DH k d).upd e (.cells xs.length (cM g z xs))
section
variable {P : Program} {N : Cx} {A A' : Fr} {H H' : Hp}
/-- A call that draws and hands back a row of its own. -/
theorem callDI {α : Type} {g : α → AV} {z : α} {f : FuncId} {args : List AV} {k : IntKind} {d : Dc} {e : Nat} {Q : List α → Prop} {K : AV → Fr → Hp → Prop} (hH : H 1000000 = some (.cells 3 (dF k d))) (hac : AC P f args (DH k d) pM (postDI g z k e Q)) (hg : ∀ x p, (g x).scrub p = g x) (he : e ≠ 1000000) (hpn : N.pn e = false)
    (hK : ∀ d' xs, Q xs → K (.own e 0 1 xs.length) (A.scrub (· == e)) (((H.scrub (· == e)).upd 1000000 (.cells 3 (dF k d'))).upd e (.cells xs.length (cM g z xs)))) : CallG P N f args A H K := by
  have hle : Hp.le (DH k d) H := Hp.le_upd hH (Hp.le_emp _)
  have hpm : ∀ h, DH k d h ≠ none → h = 1000000 := fun h hn => by
    unfold DH Hp.upd at hn
    by_cases e : h = 1000000
    · exact e
    · rw [if_neg e] at hn; exact absurd rfl hn
  refine callG_of hac (· == e) false hle (FitsL.refl _) (fun _ => rfl) (fun h hn _ => by rw [hpm h hn]; rfl) (fun h hh => ?_) ?_
  · by_cases e2 : h = e
    · subst e2; rw [hpn] at hh; cases hh
    · simp [e2]
  rintro r H' ⟨d', xs, hq, rfl, rfl⟩
  have hl : liveB ((DH k d').upd e (.cells xs.length (cM g z xs))) e = true := by simp [liveB, Hp.upd]
  have hcs : ∀ p, scF p (cM g z xs) = cM g z xs := fun p => by funext i; exact hg _ p
  refine ⟨fun h h1 h2 => ?_, by simp, ?_⟩
  · by_cases e2 : h = e
    · simp [e2]
    · have h3 : DH k d' h ≠ none := by unfold Hp.upd at h1; rwa [if_neg e2] at h1
      rw [hpm h (by
        have h4 : h = 1000000 := by
          unfold DH Hp.upd at h3
          by_cases e : h = 1000000
          · exact e
          · rw [if_neg e] at h3; exact absurd rfl h3
        rw [h4]; unfold DH Hp.upd; simp)] at h2
      exact absurd h2 (by unfold DH Hp.upd; simp)
  have e1 : (AV.own e 0 1 xs.length).scrub (fun h => !liveB ((DH k d').upd e (.cells xs.length (cM g z xs))) h) = .own e 0 1 xs.length := by simp [AV.scrub, hl]
  have e2 : Hp.over (((DH k d').upd e (.cells xs.length (cM g z xs))).scrub fun h => !liveB ((DH k d').upd e (.cells xs.length (cM g z xs))) h) (H.scrub (· == e)) (DH k d) = ((H.scrub (· == e)).upd 1000000 (.cells 3 (dF k d'))).upd e (.cells xs.length (cM g z xs)) := by
    unfold DH
    rw [Hp.scrub_upd, Hp.scrub_upd, Blk.scrub_cells, Blk.scrub_cells, scF_dF, hcs]
    funext h
    unfold Hp.over Hp.upd
    by_cases h1 : h = e
    · simp only [if_pos h1]
    · simp only [if_neg h1]
      by_cases h2 : h = 1000000
      · simp only [if_pos h2]
      · simp only [if_neg h2]
        simp [Hp.scrub, Hp.emp]
  rw [e1, e2]; exact hK d' xs hq
theorem end_DI {α : Type} {g : α → AV} {z : α} {k : IntKind} {e e' : Nat} {fn : Func} {t : Tmp} {d : Dc} {xs : List α} {n : Nat} {f : Nat → AV} {Q : List α → Prop} (hr : fn.results.toList = [.tmp t]) (hA : A.get t = some (.own e' 0 1 n)) (hd : H 1000000 = some (.cells 3 (dF k d))) (hH : H e' = some (.cells n f)) (hn : n = xs.length) (hf : ∀ i, i < n → f i = cM g z xs i)
    (hpn : N.pn = pM) (he : e < 1000000) (he' : e' ≠ 1000000) (hp : ∀ x, (g x).plain) (hq : Q xs) : endQ P N fn (postDI g z k e Q) .ret A H := by
  subst hn
  refine end_postS (a := .own e 0 1 xs.length) (H' := (DH k d).upd e (.cells xs.length (cM g z xs))) hr (Sub.layMp (fun h => if h = e then some e' else some h) (fun h hh => ?_) (lay_cons ⟨_, hA, .own (by simp)⟩ lay_nil) ?_ (fun x y j hx hy h1 h2 => ?_)) ⟨d, xs, hq, rfl, rfl⟩
  · rw [hpn] at hh
    have : h ≠ e := fun e2 => by rw [e2] at hh; rw [pM_low (by omega)] at hh; cases hh
    exact if_neg this
  · refine layF_upd (g := e') (f := f) (by simp) hH (fun i hi => ?_) (layF_upd (g := 1000000) (n := 3) (by rw [if_neg (by omega)]) hd (fun i hi => ?_) layF_emp)
    · rw [hf i hi]; exact .plain (hp _)
    · match i, hi with
      | 0, _ => exact .plain trivial
      | 1, _ => exact .plain trivial
      | 2, _ => exact .plain trivial
  · have live : ∀ x, ((DH k d).upd e (.cells xs.length (cM g z xs))) x ≠ none → x = e ∨ x = 1000000 := fun x hx => by
      unfold DH Hp.upd at hx
      by_cases e1 : x = e
      · exact .inl e1
      · rw [if_neg e1] at hx
        by_cases e2 : x = 1000000
        · exact .inr e2
        · rw [if_neg e2] at hx; exact absurd rfl hx
    rcases live x hx with rfl | rfl <;> rcases live y hy with rfl | rfl
    · rfl
    · rw [if_pos rfl] at h1; rw [if_neg (by omega)] at h2
      simp only [Option.some.injEq] at h1 h2; omega
    · rw [if_neg (by omega)] at h1; rw [if_pos rfl] at h2
      simp only [Option.some.injEq] at h1 h2; omega
    · rfl
/-- The end of a function that draws, its result frozen. -/
theorem end_DF {k : IntKind} {fn : Func} {t : Tmp} {d : Dc} {D : Nat → Prop} {a b : AV} {Q : AV → Prop} (hr : fn.results.toList = [.tmp t]) (hA : A.get t = some a) (hd : H 1000000 = some (.cells 3 (dF k d))) (hf : Fits H D a b) (hD : ¬ D 1000000) (hq : Q b) : endQ P N fn (postD k Q) .ret A H :=
  end_postS (a := b) (H' := DH k d) hr (Sub.toFF D (Fr.fit_cons hA hf (Fr.fit_nil _)) (leF_upd hd (.refl _ _ _) leF_emp hD)) ⟨d, hq, rfl⟩
end
end Go.Av
end
/- Calls whose result is told by a property, and that leave nothing. -/
section
namespace Go.Av
/-- A result with Q, and nothing of our own. -/
def postX (Q : AV → Prop) (r : AV) (H : Hp) : Prop := Q r ∧ H = Hp.emp
section
variable {P : Program} {N : Cx} {A A' : Fr} {H H' : Hp}
theorem callX {f : FuncId} {args : List AV} {pn : Nat → Bool} {Q : AV → Prop} {K : AV → Fr → Hp → Prop} (hac : AC P f args Hp.emp pn (postX Q)) (hQ : ∀ r, Q r → ∀ p, r.scrub p = r) (hK : ∀ r, Q r → K r A H) : CallG P N f args A H K := by
  refine callG_of hac (fun _ => false) false (by simp [Hp.emp]) (FitsL.refl _) (fun _ => rfl) (by simp [Hp.emp]) (by simp) ?_
  rintro r H' ⟨hq, rfl⟩
  refine ⟨fun h h1 => absurd rfl h1, by simp, ?_⟩
  rw [hQ r hq, Fr.scrub_none, Hp.scrub_none]
  have e : Hp.over (Hp.emp.scrub fun h => !liveB Hp.emp h) H Hp.emp = H := by
    funext h; simp [Hp.over, Hp.scrub, Hp.emp]
  rw [e]; exact hK r hq
theorem end_X2 {fn : Func} {t u : Tmp} {a b a' b' : AV} {Q : AV → Prop} (hr : fn.results.toList = [.tmp t, .tmp u]) (htu : t ≠ u) (hA : A.get t = some a) (hB : A.get u = some a') (hf : Fits H (fun _ => True) a b) (hf' : Fits H (fun _ => True) a' b') (hq : Q (.tup 2 (vecF [b, b']))) : endQ P N fn (postX Q) .ret A H :=
  end_tup2 (H' := Hp.emp) hr htu (Sub.toFF (fun _ => True) (Fr.fit_cons hA hf (Fr.fit_cons hB hf' (Fr.fit_nil _))) leF_emp) ⟨hq, rfl⟩
end
end Go.Av
end
/- Regions of open order: a chain of operations that turn memory, each ahead of the next, and operations that may come at any time. -/
section
namespace Go.Av
section
variable {P : Program} {N : Cx} {H : Hp}
theorem OpV.mono {o : Oper} {A : Fr} {K K' : AV → Fr → Hp → Prop} (h : OpV P N o A H K) (k : ∀ r A' H', K r A' H' → K' r A' H') : OpV P N o A H K' :=
  fun w0 S hS w a L s next Q' hn => h w0 S hS w a L s next Q' fun u r L' A' H' w' s' hr hk => hn u r L' A' H' w' s' hr (k _ _ _ hk)
variable (P N) in
/-- A call, whatever the frame is: what it yields, which names it turns, what the heap is behind it. -/
def CallPP (f : FuncId) (args : List AV) (H : Hp) (K : AV → (Nat → Bool) → Hp → Prop) : Prop := ∃ p : Nat → Bool, ∀ B : Fr, CallG P N f args B H fun r A' H' => A' = B.scrub p ∧ K r p H'
theorem CallPP_congr (f : FuncId) (args args' : List AV) (H H' : Hp) (K : AV → (Nat → Bool) → Hp → Prop) (h1 : args = args') (h2 : H = H') : CallPP P N f args H K = CallPP P N f args' H' K := by subst h1 h2; rfl
variable (P N) in
/-- An operation of the chain. -/
def gxVC (d : Nat) (op : Op) (A : Fr) (H : Hp) (K : AV → (Nat → Bool) → Hp → Prop) : Prop :=
  match op with
  | .call { callee := .value f, args, argTypes := _ } => (match calleeOf (A.ev f) with
    | some (g, caps) => withArgs (evArgs A args.toList) fun l => CallPP P N g (l ++ caps) H K
    | none => False)
  | .assign x => withA (A.ev x) fun a => K a (fun _ => false) H
  | .move x => withA (A.ev x) fun a => K a (fun _ => false) H
  | .call { callee := .builtin .append, args, argTypes } => pivVC P N d (.call { callee := .builtin .append, args, argTypes }) A H K
  | .store t x y => pivVC P N d (.store t x y) A H K
  | _ => False
theorem gxVC_ok {o : Oper} {A : Fr} {K : AV → (Nat → Bool) → Hp → Prop} (h : gxVC P N (o.dst.getD 0) o.op A H K) : ∃ p : Nat → Bool, ∀ B : Fr, (∀ x ∈ o.op.operands, B.ev x = A.ev x) → OpV P N o B H fun r A' H' => A' = B.scrub p ∧ K r p H' := by
  have piv : pivVC P N (o.dst.getD 0) o.op A H K → ∃ p : Nat → Bool, ∀ B : Fr, (∀ x ∈ o.op.operands, B.ev x = A.ev x) → OpV P N o B H fun r A' H' => A' = B.scrub p ∧ K r p H' := fun h => by
    obtain ⟨r, p, H', hK, hp⟩ := piv_ok h
    exact ⟨p, fun B hB => (hp B hB).mono fun r' A' H'' e => by obtain ⟨rfl, rfl, rfl⟩ := e; exact ⟨rfl, hK⟩⟩
  unfold gxVC at h
  split at h
  · rename_i f args tys ho
    split at h
    · rename_i g caps hc
      obtain ⟨l, hl, p, h⟩ := withArgs_ok h
      refine ⟨p, fun B hB => opVC_sound ?_⟩
      have hf : B.ev f = A.ev f := hB f (by rw [ho]; simp [Op.operands, Call.operands])
      have ha : evArgs B args.toList = evArgs A args.toList := evArgs_congr fun x hx => hB x (by rw [ho]; simp [Op.operands, Call.operands]; first | exact .inr (by simpa using hx) | (right; simpa using hx))
      rw [ho]
      simp only [opVC, hf, ha]
      rw [hc, hl]
      exact h B
    · exact h.elim
  · rename_i x ho
    obtain ⟨a, ha, h⟩ := withA_ok h
    refine ⟨fun _ => false, fun B hB => opVC_sound ?_⟩
    have hx : B.ev x = A.ev x := hB x (by rw [ho]; simp [Op.operands])
    rw [ho]
    simp only [opVC, hx, ha, withA]
    exact ⟨(Fr.scrub_none B).symm, h⟩
  · rename_i x ho
    obtain ⟨a, ha, h⟩ := withA_ok h
    refine ⟨fun _ => false, fun B hB => opVC_sound ?_⟩
    have hx : B.ev x = A.ev x := hB x (by rw [ho]; simp [Op.operands])
    rw [ho]
    simp only [opVC, hx, ha, withA]
    exact ⟨(Fr.scrub_none B).symm, h⟩
  · rename_i ho
    rw [← ho] at h; exact piv h
  · rename_i ho
    rw [← ho] at h; exact piv h
  · exact h.elim
/-- Operations at places. -/
def pickL : List Nat → List Oper → List Oper
  | [], _ => []
  | k :: ks, l => (l.drop k).take 1 ++ pickL ks l
theorem pickL_get {l : List Oper} : ∀ (ks : List Nat), (∀ k ∈ ks, k < l.length) → ∀ j : Nat, (pickL ks l)[j]? = (ks[j]?).bind fun k : Nat => l[k]?
  | [], _, j => by simp [pickL]
  | k :: ks, h, j => by
    have hk := h k (List.mem_cons_self ..)
    have e : (l.drop k).take 1 = [l[k]] := by rw [List.drop_eq_getElem_cons hk]; rfl
    have ih := pickL_get ks (fun x hx => h x (List.mem_cons_of_mem _ hx))
    simp only [pickL, e]
    cases j with
    | zero => simp [hk]
    | succ j => simpa using ih j
theorem pickL_len {l : List Oper} : ∀ (ks : List Nat), (∀ k ∈ ks, k < l.length) → (pickL ks l).length = ks.length
  | [], _ => rfl
  | k :: ks, h => by
    have hk := h k (List.mem_cons_self ..)
    have e : (l.drop k).take 1 = [l[k]] := by rw [List.drop_eq_getElem_cons hk]; rfl
    simp [pickL, e, pickL_len ks (fun x hx => h x (List.mem_cons_of_mem _ hx))]
variable (P N) in
/-- The chain. -/
def linkVC (T : List (Option Tmp)) (Q : Fr → Hp → Prop) : List Oper → Fr → Hp → Prop
  | [], A, H => Q A H
  | o :: l, A, H => gxVC P N (o.dst.getD 0) o.op A H fun r p H' => Ob (sameG (A.scrub p) A T) (linkVC T Q l (putd o.dst r (A.scrub p)) H')
/-- Whatever the heap is. -/
def AllH (p : Hp → Prop) : Prop := ∀ H, p H
variable (P N) in
def opsG (fs cs T : List Nat) (Q : Fr → Hp → Prop) (l : List Oper) (A : Fr) (H : Hp) : Prop :=
  opsQ P N (l.map (·.dst)) (fun A1 => Ob (AllH fun H' => opsQ P N (l.map (·.dst)) (fun A2 => sameG A2 A1 (T.map some)) (pickL fs l) A H') (linkVC P N (T.map some) Q (pickL cs l) A1 H)) (pickL fs l) A H
def chPre (ops : Array Oper) : List Nat → Bool
  | [] => true
  | c :: r => r.all (fun d => preB ops ops.size d c) && chPre ops r
theorem chPre_app {ops : Array Oper} {r : List Nat} : ∀ (l : List Nat), chPre ops (l ++ r) = true → chPre ops r = true
  | [], h => h
  | _ :: l, h => by
    simp only [List.cons_append, chPre, Bool.and_eq_true] at h
    exact chPre_app l h.2
def incB : List Nat → Bool
  | [] => true
  | c :: r => r.all (fun d => decide (c < d)) && incB r
def chOk0 (ops : Array Oper) (fs cs T : List Nat) : Bool :=
  anyOk ops && ops.toList.all (fun o => o.guard.isNone) && (List.range ops.size).all (fun k => fs.contains k || cs.contains k) && incB fs && incB cs && cs.all (fun c => decide (c < ops.size) && !fs.contains c) &&
  fs.all fun f => match ops[f]? with
    | none => false
    | some o => o.after.all (fun e => !Region.binds .any e || !cs.contains e.on) && (match o.dst with
      | none => false
      | some d => T.contains d && (List.range ops.size).all fun k => match ops[k]? with
        | none => true
        | some ok => !(ok.looksAt ops).contains d || (k != f && !(o.after.any fun e => Region.binds .any e && e.on == k))) && (o.looksAt ops).all fun t => T.contains t
def chOk (ops : Array Oper) (fs cs T : List Nat) : Bool := chOk0 ops fs cs T && chPre ops cs
theorem incB_ok : ∀ {l : List Nat}, incB l = true → ∀ i j, i < j → j < l.length → l.getD i 0 < l.getD j 0
  | [], _, i, j, _, h => by simp at h
  | c :: r, h, i, j, hij, hj => by
    simp only [incB, Bool.and_eq_true, List.all_eq_true, decide_eq_true_eq] at h
    have hj' : j - 1 < r.length := by simp at hj; omega
    have ej : (c :: r).getD j 0 = r.getD (j - 1) 0 := by
      cases j with
      | zero => omega
      | succ j => simp
    rw [ej]
    cases i with
    | zero =>
      have : r.getD (j - 1) 0 ∈ r := by rw [List.getD_eq_getElem?_getD, List.getElem?_eq_getElem hj']; exact List.getElem_mem hj'
      simpa using h.1 _ this
    | succ i =>
      have := incB_ok h.2 i (j - 1) (by omega) hj'
      simpa using this
structure ChOk0 (ops : Array Oper) (fs cs T : List Nat) : Prop where
  any : anyOk ops = true
  guard : ∀ (k : Nat) (o : Oper), ops[k]? = some o → o.guard = none
  all : ∀ k, k < ops.size → k ∈ fs ∨ k ∈ cs
  finc : incB fs = true
  cinc : incB cs = true
  clt : ∀ c ∈ cs, c < ops.size ∧ c ∉ fs
  flt : ∀ f ∈ fs, f < ops.size
  fc : ∀ f ∈ fs, ∀ o : Oper, ops[f]? = some o → ∀ e ∈ o.after, Region.binds .any e = true → e.on ∉ cs
  fd : ∀ f ∈ fs, ∀ o : Oper, ops[f]? = some o → ∃ d, o.dst = some d ∧ d ∈ T
  fr : ∀ f ∈ fs, ∀ o : Oper, ops[f]? = some o → ∀ d, o.dst = some d → ∀ (k : Nat) (ok : Oper), ops[k]? = some ok → d ∈ ok.looksAt ops → k ≠ f ∧ ∀ e ∈ o.after, Region.binds .any e = true → e.on ≠ k
  ft : ∀ f ∈ fs, ∀ o : Oper, ops[f]? = some o → ∀ t ∈ o.looksAt ops, t ∈ T
structure ChOk (ops : Array Oper) (fs cs T : List Nat) : Prop extends ChOk0 ops fs cs T where
  pre : chPre ops cs = true
theorem chOk0_ok {ops : Array Oper} {fs cs T : List Nat} (h : chOk0 ops fs cs T = true) : ChOk0 ops fs cs T := by
  simp only [chOk0, Bool.and_eq_true, List.all_eq_true, List.mem_range, Bool.or_eq_true, List.contains_iff_mem, decide_eq_true_eq, Bool.not_eq_true'] at h
  obtain ⟨⟨⟨⟨⟨⟨h1, h2⟩, h3⟩, h4⟩, h5⟩, h7⟩, h8⟩ := h
  have at' : ∀ f ∈ fs, ∃ o : Oper, ops[f]? = some o ∧ (∀ e ∈ o.after, Region.binds .any e = true → e.on ∉ cs) ∧ (∃ d, o.dst = some d ∧ d ∈ T ∧ ∀ (k : Nat) (ok : Oper), ops[k]? = some ok → d ∈ ok.looksAt ops → k ≠ f ∧ ∀ e ∈ o.after, Region.binds .any e = true → e.on ≠ k) ∧ ∀ t ∈ o.looksAt ops, t ∈ T := fun f hf => by
    have h := h8 f hf
    split at h
    · cases h
    · rename_i o ho
      simp only [Bool.and_eq_true, Array.all_eq_true', List.all_eq_true, Bool.or_eq_true, Bool.not_eq_true', List.contains_iff_mem] at h
      obtain ⟨⟨k1, k2⟩, k3⟩ := h
      refine ⟨o, ho, fun e he hb hc => ?_, ?_, k3⟩
      · rcases k1 e he with h | h
        · rw [hb] at h; cases h
        · have : cs.contains e.on = true := by simpa using hc
          rw [this] at h; cases h
      · split at k2
        · cases k2
        · rename_i d hd
          simp only [Bool.and_eq_true, List.all_eq_true, List.mem_range, List.contains_iff_mem] at k2
          refine ⟨d, hd, k2.1, fun k ok hok hdk => ?_⟩
          have hk := (Array.getElem?_eq_some_iff.1 hok).1
          have h := k2.2 k hk
          rw [hok] at h
          simp only [Bool.or_eq_true, Bool.not_eq_true', Bool.and_eq_true, bne_iff_ne] at h
          rcases h with h | h
          · have : (ok.looksAt ops).contains d = true := by simpa using hdk
            rw [this] at h; cases h
          · refine ⟨h.1, fun e he hb ek => ?_⟩
            have : (o.after.any fun e => Region.binds .any e && e.on == k) = true := Array.any_eq_true'.2 ⟨e, he, by simp [hb, ek]⟩
            rw [this] at h; cases h.2
  have un : ∀ f ∈ fs, ∀ o : Oper, ops[f]? = some o → (∀ e ∈ o.after, Region.binds .any e = true → e.on ∉ cs) ∧ (∃ d, o.dst = some d ∧ d ∈ T ∧ ∀ (k : Nat) (ok : Oper), ops[k]? = some ok → d ∈ ok.looksAt ops → k ≠ f ∧ ∀ e ∈ o.after, Region.binds .any e = true → e.on ≠ k) ∧ ∀ t ∈ o.looksAt ops, t ∈ T := fun f hf o ho => by
    obtain ⟨o', ho', h⟩ := at' f hf
    rw [ho] at ho'; simp only [Option.some.injEq] at ho'; subst ho'; exact h
  refine ⟨h1, fun k o ho => ?_, h3, h4, h5, fun c hc => ⟨(h7 c hc).1, fun hf => ?_⟩, fun f hf => ?_, fun f hf o ho => (un f hf o ho).1, fun f hf o ho => ?_, fun f hf o ho d hd => ?_, fun f hf o ho => (un f hf o ho).2.2⟩
  · have := h2 o (by rw [Array.mem_toList_iff]; exact Array.mem_of_getElem? ho)
    simpa using this
  · have h := (h7 c hc).2
    have : fs.contains c = true := by simpa using hf
    rw [this] at h; cases h
  · obtain ⟨o, ho, _⟩ := at' f hf
    exact (Array.getElem?_eq_some_iff.1 ho).1
  · obtain ⟨d, h1, h2, _⟩ := (un f hf o ho).2.1
    exact ⟨d, h1, h2⟩
  · obtain ⟨d', h1, h2, h3⟩ := (un f hf o ho).2.1
    rw [hd] at h1; simp only [Option.some.injEq] at h1; subst h1; exact h3
theorem chOk_ok {ops : Array Oper} {fs cs T : List Nat} (h : chOk ops fs cs T = true) : ChOk ops fs cs T := by
  simp only [chOk, Bool.and_eq_true] at h
  exact ⟨chOk0_ok h.1, h.2⟩
theorem link_sound {ops : Array Oper} {fs cs T : List Nat} {Q' : Exit → Act → World → Prop} {QF : Fr → Hp → Prop} {A0 A1 : Fr} {rs : List AV} {w0 : World} {S : Rg} (hS : Good N w0 S) (hok : ChOk ops fs cs T)
    (hN : ∀ (j t : Nat) (o : Oper), ops[j]? = some o → o.dst = some t → t < N.n)
    (hl : rs.length = (pickL fs ops.toList).length)
    (hA1 : ∀ t, A1.get t = valL (pickL fs ops.toList) rs A0.get (pickL fs ops.toList).length t)
    (hstep : ∀ H' j o, (pickL fs ops.toList)[j]? = some o → ∃ Aj : Fr, (∀ t, Aj.get t = valL (pickL fs ops.toList) rs A0.get j t) ∧ OpOK P N o Aj H' (rs.getD j .dead))
    (hQ : ∀ (A : Fr) (H : Hp) (a : Act) (w : World) (L : Loc), Sim N.n w0 S w a.tmps L A H → a.defers = [] → QF A H → Q' .normal a w) :
    ∀ (fuel : Nat) (listed : Array Bool) (s : List Nat) (a : Act) (w : World) (A Ac : Fr) (L : Loc) (Hc : Hp) (done rest : List Nat), listed.size = ops.size → s.Nodup → (∀ k, k ∈ s ↔ listed.getD k false = true) → s.length + fuel = ops.size →
      (∀ (k : Nat) (o : Oper) (e : Edge), listed.getD k false = true → ops[k]? = some o → e ∈ o.after → Region.binds .any e = true → listed.getD e.on false = true) → a.defers = [] →
      Sim N.n w0 S w a.tmps L A Hc → cs = done ++ rest → (∀ c ∈ done, listed.getD c false = true) → (∀ c ∈ rest, ¬ listed.getD c false = true) →
      (∀ t, (∀ f ∈ fs, ∀ o : Oper, ops[f]? = some o → ¬ listed.getD f false = true → o.dst ≠ some t) → A.get t = Ac.get t) →
      (∀ t, t ∈ T → (∀ c ∈ done, ∀ o : Oper, ops[c]? = some o → o.dst ≠ some t) → Ac.get t = A1.get t) →
      linkVC P N (T.map some) QF (pickL rest ops.toList) Ac Hc →
      wpAny P .any ops Q' fuel listed a w := by
  obtain ⟨hinj, hback, hdep⟩ := anyOk_ok hok.any
  have tl : ∀ j : Nat, ops.toList[j]? = ops[j]? := fun j => Array.getElem?_toList
  have flt : ∀ f ∈ fs, f < ops.toList.length := fun f hf => by simpa using hok.flt f hf
  have len : (pickL fs ops.toList).length = fs.length := pickL_len fs flt
  have pk : ∀ j, (pickL fs ops.toList)[j]? = (fs[j]?).bind fun k : Nat => ops[k]? := fun j => by
    rw [pickL_get fs flt j]
    cases fs[j]? with
    | none => rfl
    | some k => exact tl k
  have pko : ∀ j o, (pickL fs ops.toList)[j]? = some o → ∃ f, fs[j]? = some f ∧ f ∈ fs ∧ ops[f]? = some o := fun j o h => by
    rw [pk j] at h
    cases hf : fs[j]? with
    | none => rw [hf] at h; cases h
    | some f => rw [hf] at h; exact ⟨f, hf, List.mem_of_getElem? hf, h⟩
  have inc : ∀ i j f g : Nat, fs[i]? = some f → fs[j]? = some g → f < g → i < j := fun i j f g hf hg hfg => by
    have hj := (List.getElem?_eq_some_iff.1 hg).1
    have hi := (List.getElem?_eq_some_iff.1 hf).1
    refine Nat.lt_of_not_le fun h => ?_
    rcases Nat.lt_or_eq_of_le h with h | h
    · have := incB_ok hok.finc j i h hi
      rw [List.getD_eq_getElem?_getD, List.getD_eq_getElem?_getD, hf, hg] at this
      simp only [Option.getD_some] at this; omega
    · subst h; rw [hf] at hg; simp only [Option.some.injEq] at hg; omega
  have posu : ∀ i j f : Nat, fs[i]? = some f → fs[j]? = some f → i = j := fun i j f hf hg => by
    have hj := (List.getElem?_eq_some_iff.1 hg).1
    have hi := (List.getElem?_eq_some_iff.1 hf).1
    rcases Nat.lt_trichotomy i j with h | h | h
    · have := incB_ok hok.finc i j h hj
      rw [List.getD_eq_getElem?_getD, List.getD_eq_getElem?_getD, hf, hg] at this
      simp only [Option.getD_some] at this; omega
    · exact h
    · have := incB_ok hok.finc j i h hi
      rw [List.getD_eq_getElem?_getD, List.getD_eq_getElem?_getD, hf, hg] at this
      simp only [Option.getD_some] at this; omega
  have uniq : ∀ (k t : Nat) (o : Oper) (k' : Nat) (o' : Oper), ops[k]? = some o → o.dst = some t → ops[k']? = some o' → o'.dst = some t → k' = k := fun k t o k' o' ho hdt ho' hd' => hinj k' k t o' o ho' ho hd' hdt
  -- what the walk's frames say
  have hit : ∀ i j f t o, fs[i]? = some f → i < j → ops[f]? = some o → o.dst = some t → valL (pickL fs ops.toList) rs A0.get j t = some (rs.getD i .dead) := fun i j f t o hf hij ho hd =>
    valL_hit _ rs _ j t i o hl hij (by rw [pk, hf]; exact ho) hd fun k' o' ho' hd' => by
      obtain ⟨f', h1, h2, h3⟩ := pko k' o' ho'
      have := uniq f t o f' o' ho hd h3 hd'
      subst this; exact posu _ _ _ h1 hf
  have miss : ∀ j t, (∀ f ∈ fs, ∀ o : Oper, ops[f]? = some o → o.dst ≠ some t) → valL (pickL fs ops.toList) rs A0.get j t = A0.get t := fun j t h =>
    valL_miss _ rs _ j t fun k o hk ho => by
      obtain ⟨f, h1, h2, h3⟩ := pko k o ho
      exact h f h2 o h3
  intro fuel
  induction fuel with
  | zero =>
    intro listed s a w A Ac L Hc done rest hsz hn hs hc hcl hd sim hcs hdone hrest hA hI hv
    have hlt : ∀ k ∈ s, k < ops.size := fun k hk => by
      have := (hs k).1 hk
      rcases Nat.lt_or_ge k listed.size with h | h
      · omega
      · simp [Array.getD, show ¬ k < listed.size by omega] at this
    have hall : ∀ k, k < ops.size → listed.getD k false = true := fun k hk => (hs k).1 ((Go.Plain.nodup_iff_all (by omega) hlt).1 hn k hk)
    have hr : rest = [] := by
      cases rest with
      | nil => rfl
      | cons c r =>
        have hc : c ∈ cs := by rw [hcs]; simp
        exact absurd (hall c (hok.clt c hc).1) (hrest c (List.mem_cons_self ..))
    subst hr
    refine ⟨?_, ?_⟩
    · refine List.eq_nil_iff_forall_not_mem.2 fun j hj => ?_
      obtain ⟨h1, o, ho, _⟩ := mem_ready.1 hj
      have hj' : j < ops.size := (Array.getElem?_eq_some_iff.1 ho).1
      have := hall j hj'
      simp [Array.getD, hsz, hj'] at h1 this
      rw [h1] at this; cases this
    · refine hQ Ac Hc a w L (sim.sub fun t x hx => ?_) hd hv
      rw [hA t fun f hf o ho hu => absurd (hall f (hok.flt f hf)) hu]; exact hx
  | succ fuel ih =>
    intro listed s a w A Ac L Hc done rest hsz hn hs hc hcl hd sim hcs hdone hrest hA hI hv
    have ld : ∀ k, k < ops.size → (listed.getD k true = false ↔ ¬ listed.getD k false = true) := by
      intro k hk
      simp [Array.getD, hsz, hk]
    have hex : ∃ k, k < ops.size ∧ ¬ listed.getD k false = true := by
      refine Classical.byContradiction fun hno => ?_
      have : ∀ x ∈ List.range ops.size, x ∈ s := fun x hx => (hs x).2 (Classical.byContradiction fun h => hno ⟨x, by simpa using hx, h⟩)
      have := Go.Plain.nodup_le s (List.range ops.size) List.nodup_range this
      simp at this; omega
    refine ⟨fun h => absurd h (ready_ne hsz hback hex), fun i hi => ?_⟩
    obtain ⟨hun0, oi, hoi, hall⟩ := mem_ready.1 hi
    have hi' : i < ops.size := (Array.getElem?_eq_some_iff.1 hoi).1
    have hun := (ld i hi').1 hun0
    have g1 : ∀ k, (listed.setIfInBounds i true).getD k false = true ↔ (k = i ∨ listed.getD k false = true) := by
      intro k
      by_cases hk : k = i
      · subst hk; simp [Array.getD, hsz, hi']
      · rw [getD_set_ne false (Ne.symm hk)]; simp [hk]
    have nd1 : (i :: s).Nodup := List.nodup_cons.2 ⟨fun h => hun ((hs i).1 h), hn⟩
    have hs1 : ∀ k, k ∈ i :: s ↔ (listed.setIfInBounds i true).getD k false = true := fun k => by rw [g1, List.mem_cons, hs]
    have hcl1 : ∀ (k : Nat) (o : Oper) (e : Edge), (listed.setIfInBounds i true).getD k false = true → ops[k]? = some o → e ∈ o.after → Region.binds .any e = true → (listed.setIfInBounds i true).getD e.on false = true := by
      intro k o e hk ho he hb
      rw [g1] at hk ⊢
      rcases hk with rfl | hk
      · rw [hoi] at ho; simp only [Option.some.injEq] at ho; subst ho
        exact .inr (hall e he hb)
      · exact .inr (hcl k o e hk ho he hb)
    have hNi := fun t h => hN i t oi hoi h
    unfold wpOp
    simp only [hoi]
    rw [if_pos (by simp [Region.wanted, hok.guard i oi hoi])]
    left
    have looks : ∀ (B : Fr), (∀ t, t ∈ oi.looksAt ops → A.get t = B.get t) → ∀ x ∈ oi.op.operands, A.ev x = B.ev x := by
      intro B hB x hx
      cases x with
      | tmp t => exact hB t (List.mem_append_left _ (List.mem_filterMap.2 ⟨.tmp t, by simpa using hx, rfl⟩))
      | const v => rfl
      | global g => rfl
      | func f => rfl
    rcases hok.all i hi' with hif | hic
    · -- one that may come at any time
      obtain ⟨j, hj⟩ := List.getElem?_of_mem hif
      obtain ⟨Aj, hAj, hop⟩ := hstep Hc j oi (by rw [pk, hj]; exact hoi)
      obtain ⟨di, hdi, hdT⟩ := hok.fd i hif oi hoi
      have nochain : ∀ c ∈ done, ∀ o : Oper, ops[c]? = some o → o.dst ≠ some di := fun c hc o ho hdt => by
        have := uniq i di oi c o hoi hdi ho hdt
        subst this
        exact (hok.clt c (by rw [hcs]; exact List.mem_append_left _ hc)).2 hif
      refine hop A (looks Aj fun t ht => ?_) w0 S hS w a L sim _ Q' ?_
      · have htT := hok.ft i hif oi hoi t ht
        rw [hAj]
        by_cases hx : ∃ (k : Nat) (o : Oper), ops[k]? = some o ∧ o.dst = some t
        · obtain ⟨k, o, ho, hdt⟩ := hx
          have hk' := (Array.getElem?_eq_some_iff.1 ho).1
          rcases hok.all k hk' with hkf | hkc
          · obtain ⟨hne, hno⟩ := hok.fr k hkf o ho t hdt i oi hoi ht
            rcases hdep k i t o oi (fun e => hne e.symm) ho hoi hdt ht with ⟨e, he, hb, rfl⟩ | ⟨e, he, hb, he2⟩
            · have hlk := hall e he hb
              have hlt := hback i oi e hoi he hb
              obtain ⟨j', hj'⟩ := List.getElem?_of_mem hkf
              have hjj := inc j' j e.on i hj' hj hlt
              have hjl : j' < (pickL fs ops.toList).length := by rw [len]; exact (List.getElem?_eq_some_iff.1 hj').1
              rw [hit j' j e.on t o hj' hjj ho hdt, hA t fun f hf o' ho' hu hd' => by
                have := uniq e.on t o f o' ho hdt ho' hd'; subst this; exact hu hlk]
              rw [hI t htT fun c hc o' ho' hd' => by
                have := uniq e.on t o c o' ho hdt ho' hd'; subst this
                exact (hok.clt e.on (by rw [hcs]; exact List.mem_append_left _ hc)).2 hkf]
              rw [hA1, hit j' _ e.on t o hj' hjl ho hdt]
            · exact absurd he2 (hno e he hb)
          · have hnf : ∀ f ∈ fs, ∀ o' : Oper, ops[f]? = some o' → o'.dst ≠ some t := fun f hf o' ho' hd' => by
              have := uniq k t o f o' ho hdt ho' hd'; subst this; exact (hok.clt f hkc).2 hf
            have hki : k ≠ i := fun e => by subst e; exact (hok.clt k hkc).2 hif
            rcases hdep k i t o oi hki ho hoi hdt ht with ⟨e, he, hb, rfl⟩ | ⟨e, he, hb, rfl⟩
            · exact absurd hkc (hok.fc i hif oi hoi e he hb)
            · have hkd : k ∉ done := fun hk => hun (hcl k o e (hdone k hk) ho he hb)
              rw [miss j t hnf, hA t fun f hf o' ho' _ => hnf f hf o' ho', hI t htT fun c hc o' ho' hd' => by
                have := uniq k t o c o' ho hdt ho' hd'; subst this; exact hkd hc]
              rw [hA1, miss _ t hnf]
        · have hno : ∀ (k : Nat) (o : Oper), ops[k]? = some o → o.dst ≠ some t := fun k o ho e => hx ⟨k, o, ho, e⟩
          rw [miss j t fun f _ o ho => hno f o ho, hA t fun f _ o ho _ => hno f o ho, hI t htT fun c _ o ho => hno c o ho, hA1, miss _ t fun f _ o ho => hno f o ho]
      · rintro u rr L' A' H4 w' s' hr ⟨rfl, rfl, rfl⟩
        refine ih (listed.setIfInBounds i true) (i :: s) _ w' (putd oi.dst (rs.getD j .dead) A') Ac L' H4 done rest (by simp [hsz]) nd1 hs1 (by simp only [List.length_cons]; omega) hcl1 (by rw [put_defers]; exact hd) (s'.putd hNi hr) hcs (fun c hc => (g1 c).2 (.inr (hdone c hc))) (fun c hc h => ?_) (fun t ht => ?_) hI hv
        · rcases (g1 c).1 h with rfl | h
          · exact (hok.clt c (by rw [hcs]; exact List.mem_append_right _ hc)).2 hif
          · exact hrest c hc h
        · rw [putd_get]
          by_cases e : oi.dst = some t
          · rw [if_pos e]
            rw [hdi] at e; simp only [Option.some.injEq] at e; subst e
            rw [hI di hdT nochain, hA1, hit j _ i di oi hj (by rw [len]; exact (List.getElem?_eq_some_iff.1 hj).1) hoi hdi]
          · rw [if_neg e]
            refine hA t fun f hf o ho hu => ?_
            by_cases hfi : f = i
            · subst hfi; rw [hoi] at ho; simp only [Option.some.injEq] at ho; subst ho; exact e
            · exact ht f hf o ho fun h => ((g1 f).1 h).elim hfi hu
    · -- the next of the chain
      have hir : i ∈ rest := by
        rw [hcs] at hic
        rcases List.mem_append.1 hic with h | h
        · exact absurd (hdone i h) hun
        · exact h
      obtain ⟨c, r, rfl⟩ : ∃ c r, rest = c :: r := by
        cases rest with
        | nil => cases hir
        | cons c r => exact ⟨c, r, rfl⟩
      have hci : c = i := by
        rcases List.mem_cons.1 hir with h | h
        · exact h.symm
        · have hp : chPre ops (c :: r) = true := by
            have hp := hok.pre
            rw [hcs] at hp
            exact chPre_app done hp
          simp only [chPre, Bool.and_eq_true, List.all_eq_true] at hp
          exact absurd (pre_ready hcl hoi hall (hp.1 i h)) (hrest c (List.mem_cons_self ..))
      subst hci
      have e1 : pickL (c :: r) ops.toList = oi :: pickL r ops.toList := by
        have hk : c < ops.toList.length := by simpa using hi'
        have e2 : ops.toList[c] = oi := by
          have := Array.getElem?_eq_some_iff.1 hoi
          obtain ⟨_, e⟩ := this
          simpa using e
        simp only [pickL]
        rw [List.drop_eq_getElem_cons hk, e2]; rfl
      rw [e1] at hv
      simp only [linkVC] at hv
      obtain ⟨p, hp⟩ := gxVC_ok hv
      refine hp A (looks Ac fun t ht => hA t fun f hf o ho hu hdt => ?_) w0 S hS w a L sim _ Q' ?_
      · obtain ⟨hne, hno⟩ := hok.fr f hf o ho t hdt c oi hoi ht
        rcases hdep f c t o oi (fun e => hne e.symm) ho hoi hdt ht with ⟨e, he, hb, rfl⟩ | ⟨e, he, hb, he2⟩
        · exact hu (hall e he hb)
        · exact hno e he hb he2
      · rintro u rr L' A' H4 w' s' hr ⟨rfl, hsame, hv'⟩
        refine ih (listed.setIfInBounds c true) (c :: s) _ w' (putd oi.dst rr (A.scrub p)) (putd oi.dst rr (Ac.scrub p)) L' H4 (done ++ [c]) r (by simp [hsz]) nd1 hs1 (by simp only [List.length_cons]; omega) hcl1 (by rw [put_defers]; exact hd) (s'.putd hNi hr) (by rw [hcs]; simp) (fun x hx => ?_) (fun x hx h => ?_) (fun t ht => ?_) (fun t htT ht => ?_) hv'
        · rcases List.mem_append.1 hx with h | h
          · exact (g1 x).2 (.inr (hdone x h))
          · rw [List.mem_singleton.1 h]; exact (g1 c).2 (.inl rfl)
        · rcases (g1 x).1 h with rfl | h
          · have := hok.cinc
            rw [hcs] at this
            have hpos := List.getElem?_of_mem hx
            obtain ⟨j, hj⟩ := hpos
            have hjl := (List.getElem?_eq_some_iff.1 hj).1
            have := incB_ok this done.length (done.length + 1 + j) (by omega) (by simp; omega)
            rw [List.getD_eq_getElem?_getD, List.getD_eq_getElem?_getD, List.getElem?_append_right (Nat.le_refl _), List.getElem?_append_right (by omega)] at this
            rw [show done.length + 1 + j - done.length = j + 1 by omega, Nat.sub_self] at this
            simp only [List.getElem?_cons_zero, List.getElem?_cons_succ, hj, Option.getD_some] at this
            omega
          · exact hrest x (List.mem_cons_of_mem _ hx) h
        · rw [putd_get, putd_get]
          by_cases e : oi.dst = some t
          · rw [if_pos e, if_pos e]
          · rw [if_neg e, if_neg e, Fr.get_scrub, Fr.get_scrub, hA t fun f hf o ho hu => ht f hf o ho fun h => ((g1 f).1 h).elim (fun e => by subst e; exact (hok.clt f hic).2 hf) hu]
        · rw [putd_get, if_neg (ht c (by simp) oi hoi)]
          have := sameG_ok _ hsame t (List.mem_map.2 ⟨t, htT, rfl⟩)
          rw [this]
          exact hI t htT fun x hx o ho => ht x (List.mem_append_left _ hx) o ho
theorem awp_regionG {A : Fr} (fs cs T : List Nat) {id : Nat} {l : List Oper} {Q : Exit → Fr → Hp → Prop} (hm : P.follows .mixedOrders = true) (hB : chOk l.toArray fs cs T = true) (hN : dstsOk N l = true)
    (h : opsG P N fs cs T (Q .normal) l A H) : AWP P N (.region id l.toArray true) Q A H := by
  have hmem := dstsOk_mem hN
  have hok := chOk_ok hB
  obtain ⟨hinj, _, _⟩ := anyOk_ok hok.any
  have flt : ∀ f ∈ fs, f < l.length := fun f hf => by simpa using hok.flt f hf
  have pko : ∀ j o, (pickL fs l)[j]? = some o → ∃ f, fs[j]? = some f ∧ f ∈ fs ∧ l[f]? = some o := fun j o h => by
    rw [pickL_get fs flt j] at h
    cases hf : fs[j]? with
    | none => rw [hf] at h; cases h
    | some f => rw [hf] at h; exact ⟨f, hf, List.mem_of_getElem? hf, h⟩
  unfold opsG at h
  obtain ⟨rs, hlex⟩ := lex_of_opsQ _ A h
  obtain ⟨k1, k2, A1, k3, k4, k5⟩ := LexL_get (pickL fs l) A rs A.get (fun _ => rfl) hlex
  have uni : ∀ (j k : Nat) (o o' : Oper) (t : Nat), (pickL fs l)[j]? = some o → o.dst = some t → (pickL fs l)[k]? = some o' → o'.dst = some t → k = j := fun j k o o' t hj hdt hk hd' => by
    obtain ⟨f, h1, h2, h3⟩ := pko j o hj
    obtain ⟨g, h4, h5, h6⟩ := pko k o' hk
    have := hinj g f t o' o (by simpa using h6) (by simpa using h3) hd' hdt
    subst this
    have hj := (List.getElem?_eq_some_iff.1 h1).1
    have hk := (List.getElem?_eq_some_iff.1 h4).1
    rcases Nat.lt_trichotomy k j with h | h | h
    · have := incB_ok hok.finc k j h hj
      rw [List.getD_eq_getElem?_getD, List.getD_eq_getElem?_getD, h1, h4] at this
      simp only [Option.getD_some] at this; omega
    · exact h
    · have := incB_ok hok.finc j k h hk
      rw [List.getD_eq_getElem?_getD, List.getD_eq_getElem?_getD, h1, h4] at this
      simp only [Option.getD_some] at this; omega
  intro w0 S hS w a L s hd
  have s1 : Sim N.n w0 S w.drew a.tmps L A H := s.drew
  refine wp_region_any hm ?_
  refine link_sound (ops := l.toArray) (fs := fs) (cs := cs) (T := T) (A0 := A) (A1 := A1) (rs := rs) (QF := Q .normal) hS hok (fun j t o ho hdt => hmem o (List.mem_of_getElem? (by simpa using ho)) t hdt) k1 k3 (fun H' j o ho => ?_) ?_ l.toArray.size _ [] a _ A A1 L H [] cs (by simp) List.nodup_nil (fun k => ?_) (by simp) (fun k o e hk => ?_) hd s1 rfl (fun c hc => by cases hc) (fun c _ hk => ?_) (fun t ht => ?_) (fun t _ _ => rfl) k5
  · rw [List.toList_toArray] at ho
    obtain ⟨rs2, hlex2⟩ := lex_of_opsQ _ A (k4 H')
    obtain ⟨j1, j2, A2, j3, j4⟩ := LexL_get (pickL fs l) A rs2 A.get (fun _ => rfl) hlex2
    have er : rs2 = rs := by
      refine List.ext_getElem (by rw [j1, k1]) fun k h1 h2 => ?_
      have hk : k < (pickL fs l).length := by omega
      have hko : (pickL fs l)[k]? = some (pickL fs l)[k] := List.getElem?_eq_getElem hk
      obtain ⟨f, q1, q2, q3⟩ := pko k _ hko
      obtain ⟨d, hdd, hdT⟩ := hok.fd f q2 _ (by simpa using q3)
      have e := sameG_ok _ j4 d (List.mem_map.2 ⟨d, hdT, rfl⟩)
      rw [j3, k3, valL_hit _ rs2 _ _ d k _ j1 hk hko hdd (fun k' o' ho' hd' => uni k k' _ o' d hko hdd ho' hd'), valL_hit _ rs _ _ d k _ k1 hk hko hdd (fun k' o' ho' hd' => uni k k' _ o' d hko hdd ho' hd')] at e
      simpa [List.getD_eq_getElem?_getD, h1, h2] using e
    subst er
    obtain ⟨Aj, h1, h2⟩ := j2 j o ho
    refine ⟨Aj, by rw [List.toList_toArray]; exact h1, ?_⟩
    unfold StepOK at h2
    obtain ⟨f, q1, q2, q3⟩ := pko j o ho
    rw [hok.guard f o (by simpa using q3)] at h2
    exact h2
  · intro A' H3 a' w' L' s' hd' hq
    exact ⟨L', A', H3, s', hd', hq⟩
  · simp [Array.getD]
  · simp [Array.getD] at hk
  · simp [Array.getD] at hk
  · have hno : ∀ f ∈ fs, ∀ o : Oper, l[f]? = some o → o.dst ≠ some t := fun f hf o ho => ht f hf o (by simpa using ho) (by simp [Array.getD])
    rw [k3, valL_miss _ _ _ _ _ fun k o _ ho => by obtain ⟨f, q1, q2, q3⟩ := pko k o ho; exact hno f q2 o q3]
theorem awp_regionGK {A : Fr} (ks : Nat) (fs cs T : List Nat) {id : Nat} {l : List Oper} {Q : Exit → Fr → Hp → Prop} (hm : P.follows .mixedOrders = true) (hB : chOk l.toArray fs cs T = true) (hN : dstsOk N l = true)
    (h : opsG P N fs cs T (keepQ ks Q .normal) l A H) : AWP P N (.region id l.toArray true) Q A H :=
  awp_weak (awp_regionG fs cs T hm hB hN h) keepQ_weak
theorem AllH.mk {p : Hp → Prop} (h : ∀ H, p H) : AllH p := h
/-- A call that hands back a new row of numbers, in a chain. -/
theorem callPI {f : FuncId} {args args' : List AV} {d : Nat} {xs : List Int} {pn : Nat → Bool} {K : AV → (Nat → Bool) → Hp → Prop} (hfit : FitsL H (fun _ => True) args args') (hac : AC P f args' Hp.emp pn (retI d xs)) (hd : N.pn d = false)
    (hK : K (.own d 0 1 xs.length) (· == d) ((H.scrub (· == d)).upd d (.cells xs.length (cM iv 0 xs)))) : CallPP P N f args H K := ⟨(· == d), fun _ => callI hfit hac hd ⟨rfl, hK⟩⟩
theorem atP {f : FuncId} {args : List AV} {K : AV → (Nat → Bool) → Hp → Prop} (h : CallPP P N f args H K) : CallPP P N f args H K := h
/-- A source, and one row of our own under a new name. -/
theorem Sub.mvD {α : Type} {g : α → AV} {z : α} {k : IntKind} (e e' : Nat) {A A' : Fr} {d : Dc} {xs : List α} {n : Nat} {f : Nat → AV} (hA : ∀ i c, A'.get i = some c → ∃ a, A.get i = some a ∧ Lay (fun h => if h = e then some e' else some h) a c) (hd : H 1000000 = some (.cells 3 (dF k d))) (hH : H e' = some (.cells n f)) (hf : ∀ i, i < n → f i = cM g z xs i)
    (hpn : N.pn = pM) (he : e < 1000000) (he' : e' ≠ 1000000) (hp : ∀ x, (g x).plain) : Sub N A H A' ((DH k d).upd e (.cells n (cM g z xs))) := by
  refine Sub.layMp (fun h => if h = e then some e' else some h) (fun h hh => ?_) hA ?_ (fun x y j hx hy h1 h2 => ?_)
  · rw [hpn] at hh
    have : h ≠ e := fun e2 => by rw [e2] at hh; rw [pM_low (by omega)] at hh; cases hh
    exact if_neg this
  · refine layF_upd (g := e') (f := f) (by simp) hH (fun i hi => ?_) (layF_upd (g := 1000000) (n := 3) (by rw [if_neg (by omega)]) hd (fun i hi => ?_) layF_emp)
    · rw [hf i hi]; exact .plain (hp _)
    · match i, hi with
      | 0, _ => exact .plain trivial
      | 1, _ => exact .plain trivial
      | 2, _ => exact .plain trivial
  · have live : ∀ x, ((DH k d).upd e (.cells n (cM g z xs))) x ≠ none → x = e ∨ x = 1000000 := fun x hx => by
      unfold DH Hp.upd at hx
      by_cases e1 : x = e
      · exact .inl e1
      · rw [if_neg e1] at hx
        by_cases e2 : x = 1000000
        · exact .inr e2
        · rw [if_neg e2] at hx; exact absurd rfl hx
    rcases live x hx with rfl | rfl <;> rcases live y hy with rfl | rfl
    · rfl
    · rw [if_pos rfl] at h1; rw [if_neg (by omega)] at h2
      simp only [Option.some.injEq] at h1 h2; omega
    · rw [if_neg (by omega)] at h1; rw [if_pos rfl] at h2
      simp only [Option.some.injEq] at h1 h2; omega
    · rfl
end
attribute [congr] CallPP_congr
attribute [go_sem] opsG linkVC gxVC pickL
end Go.Av
end
/- The heap told anew beside names that stay; less told of the heap. -/
section
namespace Go.Av
section
variable {N : Cx} {A A' : Fr} {H H' : Hp}
/-- Less may be told of the heap. -/
theorem Sim.less {n : Nat} {w0 : World} {S : Rg} {w : World} {tm : Array Value} {L : Loc} (s : Sim n w0 S w tm L A H) (h : Hp.le H' H) : Sim n w0 S w tm L A H' := by
  have live : ∀ x, H' x ≠ none → H x ≠ none := fun x hx => by
    cases e : H' x with
    | none => exact absurd e hx
    | some B => rw [h x B e]; simp
  have hok : ∀ b, okb S H L b → okb S H' L b := fun b hb => ⟨hb.1, fun x q hn hq => hb.2 x q (live x hn) hq⟩
  refine ⟨s.keep, s.size, fun i a ha => Rd.mono (fun b _ hb => hok b hb) (s.slot i a ha), fun x B hB => ?_, fun x q hn hq => s.own x q (live x hn) hq, fun x g q r hn hm hq hr e => s.inj x g q r (live x hn) (live g hm) hq hr e, s.pin⟩
  have := BlkOk.step (w := w) (w' := w) (wh := w) (wh' := w) (ok := okb S H L) (ok' := okb S H' L) (L := L) (L' := L) (p := fun _ => false) (fun b _ hb => ⟨hok b hb, rfl⟩) (Shape.refl w) (fun _ _ => rfl) (fun _ _ => rfl) (s.blk x B (h x B hB))
  rwa [Blk.scrub_none] at this
/-- The low names. -/
def Hp.lo (H : Hp) : Hp := fun h => if h < 1000000 then H h else none
end
end Go.Av
end
/- Regions of open order: a chain of operations that turn memory, and operations that may come at any time before what needs them; some of these look at what the chain's first operations leave as it is. -/
section
namespace Go.Av
set_option linter.unusedVariables false
set_option linter.unusedSimpArgs false
section
variable {P : Program} {N : Cx} {H : Hp}
variable (P N) in
/-- An operation of the chain; a literal of our own may be one. -/
def gx2VC (d : Nat) (op : Op) (A : Fr) (H : Hp) (K : AV → (Nat → Bool) → Hp → Prop) : Prop :=
  match op with
  | .buildSlice t len ps => (match selOf P t, evParts A ps.toList with
    | some se, some l => Ob ((N.pn d = false ∧ 0 < se.size ∧ len * se.size ≤ 16777216) ∧ fillOk (fun i => some (i * se.size, se.size)) (len * se.size) l)
        (K (.own d 0 se.size len) (· == d) ((H.upd d (.cells (len * se.size) (fillF (fun i => some (i * se.size, se.size)) l (zF se.zero)))).scrub (· == d)))
    | _, _ => False)
  | .nilCheck x => withA (A.ev x) fun a => Ob (ptrOk a = true) (K a (fun _ => false) H)
  | .fieldAddr t x i => withA (A.ev x) fun a => faVC (fldOf P t i) a fun r => K r (fun _ => false) H
  | .indexAddr t x i => withA (A.ev x) fun a => withA (A.ev i) fun b => ixVC (ixOf P t) a b fun r => K r (fun _ => false) H
  | .index t x i => withA (A.ev x) fun a => withA (A.ev i) fun b => chVC (isStr P t) a b fun r => K r (fun _ => false) H
  | op => gxVC P N d op A H K
theorem gx2VC_ok {o : Oper} {A : Fr} {K : AV → (Nat → Bool) → Hp → Prop} (h : gx2VC P N (o.dst.getD 0) o.op A H K) : ∃ p : Nat → Bool, ∀ B : Fr, (∀ x ∈ o.op.operands, B.ev x = A.ev x) → OpV P N o B H fun r A' H' => A' = B.scrub p ∧ K r p H' := by
  unfold gx2VC at h
  split at h
  · rename_i t len ps ho
    split at h
    · rename_i se l hse hl
      refine ⟨(· == o.dst.getD 0), fun B hB => opVC_sound ?_⟩
      have hB' : evParts B ps.toList = some l := by
        rw [evParts_congr fun x hx => hB x (by rw [ho]; simpa [Op.operands] using hx), hl]
      rw [ho]
      simp only [opVC, bsVC, hse, hB']
      exact ⟨h.1, trivial, h.2⟩
    · exact h.elim
  · rename_i x ho
    obtain ⟨a, ha, h⟩ := withA_ok h
    refine ⟨fun _ => false, fun B hB => opVC_sound ?_⟩
    have hx : B.ev x = some a := by rw [hB x (by rw [ho]; simp [Op.operands]), ha]
    rw [ho]
    simp only [opVC, hx, withA, Fr.scrub_none, true_and]
    exact h
  · rename_i t x i ho
    obtain ⟨a, ha, h⟩ := withA_ok h
    refine ⟨fun _ => false, fun B hB => opVC_sound ?_⟩
    have hx : B.ev x = some a := by rw [hB x (by rw [ho]; simp [Op.operands]), ha]
    rw [ho]
    simp only [opVC, hx, withA, Fr.scrub_none, true_and]
    exact h
  · rename_i t x i ho
    obtain ⟨a, ha, h⟩ := withA_ok h
    obtain ⟨b, hb, h⟩ := withA_ok h
    refine ⟨fun _ => false, fun B hB => opVC_sound ?_⟩
    have hx : B.ev x = some a := by rw [hB x (by rw [ho]; simp [Op.operands]), ha]
    have hy : B.ev i = some b := by rw [hB i (by rw [ho]; simp [Op.operands]), hb]
    rw [ho]
    simp only [opVC, hx, hy, withA, Fr.scrub_none, true_and]
    exact h
  · rename_i t x i ho
    obtain ⟨a, ha, h⟩ := withA_ok h
    obtain ⟨b, hb, h⟩ := withA_ok h
    refine ⟨fun _ => false, fun B hB => opVC_sound ?_⟩
    have hx : B.ev x = some a := by rw [hB x (by rw [ho]; simp [Op.operands]), ha]
    have hy : B.ev i = some b := by rw [hB i (by rw [ho]; simp [Op.operands]), hb]
    rw [ho]
    simp only [opVC, hx, hy, withA, Fr.scrub_none, true_and]
    exact h
  · exact gxVC_ok h
def keepK (k : Nat) (Hk H : Hp) : Prop := match k with
  | 0 => True
  | _ + 1 => Hp.le Hk H
variable (P N) in
/-- The chain; behind its first k operations Hk still holds. -/
def linkS (Hk : Hp) (T T1 : List (Option Tmp)) (Q : Fr → Hp → Prop) : Nat → List Oper → Fr → Hp → Prop
  | _, [], A, H => Q A H
  | k, o :: l, A, H => gx2VC P N (o.dst.getD 0) o.op A H fun r p H' => Ob (sameG (A.scrub p) A (match k with
    | 0 => T1
    | _ + 1 => T)) (Ob (keepK k Hk H') (linkS Hk T T1 Q (k - 1) l (putd o.dst r (A.scrub p)) H'))
variable (P N) in
def opsS (fs cs T f1 T1 : List Nat) (k : Nat) (Hk : Hp) (Q : Fr → Hp → Prop) (l : List Oper) (A : Fr) (H : Hp) : Prop :=
  opsQ P N (l.map (·.dst)) (fun A1 => Ob (AllH fun H' => opsQ P N (l.map (·.dst)) (fun A2 => sameG A2 A1 (T1.map some)) (pickL f1 l) A H')
    (Ob (AllH fun X => opsQ P N (l.map (·.dst)) (fun A2 => sameG A2 A1 (T.map some)) (pickL fs l) A (Hk.add X)) (Ob (Hp.le Hk H) (linkS P N Hk (T.map some) (T1.map some) Q k (pickL cs l) A1 H)))) (pickL fs l) A H
def chOkS (ops : Array Oper) (fs cs T f1 T1 : List Nat) (k : Nat) : Bool :=
  chOk ops fs cs T && f1.all (fun f => fs.contains f) && incB f1 && fs.all (fun f => f1.contains f || (match cs[k]? with
    | some c => preB ops ops.size c f
    | none => false)) && f1.all (fun f => match ops[f]? with
    | some o => (match o.dst with
      | some d => T1.contains d
      | none => false) && (o.looksAt ops).all fun t => T1.contains t && (List.range ops.size).all fun g => match ops[g]? with
        | some og => og.dst != some t || f1.contains g
        | none => true
    | none => false) && T1.all (fun t => T.contains t)
theorem linkS_sound {ops : Array Oper} {fs cs T f1 T1 : List Nat} {k0 : Nat} {Hk : Hp} {Q' : Exit → Act → World → Prop} {QF : Fr → Hp → Prop} {A0 A1 : Fr} {rs : List AV} {w0 : World} {S : Rg} (hS : Good N w0 S) (hok : ChOk ops fs cs T) (hT1 : ∀ f ∈ f1, ∀ o : Oper, ops[f]? = some o → ∀ t, t ∈ o.looksAt ops ∨ o.dst = some t → t ∈ T1) (hTT : ∀ t ∈ T1, t ∈ T) (hkS : ∀ f ∈ fs, f ∉ f1 → ∃ c, cs[k0]? = some c ∧ preB ops ops.size c f = true)
    (hN : ∀ (j t : Nat) (o : Oper), ops[j]? = some o → o.dst = some t → t < N.n)
    (hl : rs.length = (pickL fs ops.toList).length)
    (hA1 : ∀ t, A1.get t = valL (pickL fs ops.toList) rs A0.get (pickL fs ops.toList).length t)
    (hstep : ∀ H' j o, (pickL fs ops.toList)[j]? = some o → ((∃ f, fs[j]? = some f ∧ f ∈ f1) ∨ Hp.le Hk H') → ∃ Aj : Fr, (∀ t ∈ o.looksAt ops, Aj.get t = valL (pickL fs ops.toList) rs A0.get j t) ∧ OpOK P N o Aj H' (rs.getD j .dead))
    (hQ : ∀ (A : Fr) (H : Hp) (a : Act) (w : World) (L : Loc), Sim N.n w0 S w a.tmps L A H → a.defers = [] → QF A H → Q' .normal a w) :
    ∀ (fuel : Nat) (listed : Array Bool) (s : List Nat) (a : Act) (w : World) (A Ac : Fr) (L : Loc) (Hc : Hp) (done rest : List Nat), listed.size = ops.size → s.Nodup → (∀ k, k ∈ s ↔ listed.getD k false = true) → s.length + fuel = ops.size →
      (∀ (k : Nat) (o : Oper) (e : Edge), listed.getD k false = true → ops[k]? = some o → e ∈ o.after → Region.binds .any e = true → listed.getD e.on false = true) → a.defers = [] →
      Sim N.n w0 S w a.tmps L A Hc → cs = done ++ rest → (∀ c ∈ done, listed.getD c false = true) → (∀ c ∈ rest, ¬ listed.getD c false = true) → (done.length ≤ k0 → Hp.le Hk Hc) → (k0 < done.length → ∀ f ∈ fs, f ∉ f1 → listed.getD f false = true) →
      (∀ t, (∀ f ∈ fs, ∀ o : Oper, ops[f]? = some o → ¬ listed.getD f false = true → o.dst ≠ some t) → A.get t = Ac.get t) →
      (∀ t, t ∈ T1 ∨ (done.length ≤ k0 ∧ t ∈ T) → (∀ c ∈ done, ∀ o : Oper, ops[c]? = some o → o.dst ≠ some t) → Ac.get t = A1.get t) →
      linkS P N Hk (T.map some) (T1.map some) QF (k0 - done.length) (pickL rest ops.toList) Ac Hc →
      wpAny P .any ops Q' fuel listed a w := by
  obtain ⟨hinj, hback, hdep⟩ := anyOk_ok hok.any
  have tl : ∀ j : Nat, ops.toList[j]? = ops[j]? := fun j => Array.getElem?_toList
  have flt : ∀ f ∈ fs, f < ops.toList.length := fun f hf => by simpa using hok.flt f hf
  have len : (pickL fs ops.toList).length = fs.length := pickL_len fs flt
  have pk : ∀ j, (pickL fs ops.toList)[j]? = (fs[j]?).bind fun k : Nat => ops[k]? := fun j => by
    rw [pickL_get fs flt j]
    cases fs[j]? with
    | none => rfl
    | some k => exact tl k
  have pko : ∀ j o, (pickL fs ops.toList)[j]? = some o → ∃ f, fs[j]? = some f ∧ f ∈ fs ∧ ops[f]? = some o := fun j o h => by
    rw [pk j] at h
    cases hf : fs[j]? with
    | none => rw [hf] at h; cases h
    | some f => rw [hf] at h; exact ⟨f, hf, List.mem_of_getElem? hf, h⟩
  have inc : ∀ i j f g : Nat, fs[i]? = some f → fs[j]? = some g → f < g → i < j := fun i j f g hf hg hfg => by
    have hj := (List.getElem?_eq_some_iff.1 hg).1
    have hi := (List.getElem?_eq_some_iff.1 hf).1
    refine Nat.lt_of_not_le fun h => ?_
    rcases Nat.lt_or_eq_of_le h with h | h
    · have := incB_ok hok.finc j i h hi
      rw [List.getD_eq_getElem?_getD, List.getD_eq_getElem?_getD, hf, hg] at this
      simp only [Option.getD_some] at this; omega
    · subst h; rw [hf] at hg; simp only [Option.some.injEq] at hg; omega
  have posu : ∀ i j f : Nat, fs[i]? = some f → fs[j]? = some f → i = j := fun i j f hf hg => by
    have hj := (List.getElem?_eq_some_iff.1 hg).1
    have hi := (List.getElem?_eq_some_iff.1 hf).1
    rcases Nat.lt_trichotomy i j with h | h | h
    · have := incB_ok hok.finc i j h hj
      rw [List.getD_eq_getElem?_getD, List.getD_eq_getElem?_getD, hf, hg] at this
      simp only [Option.getD_some] at this; omega
    · exact h
    · have := incB_ok hok.finc j i h hi
      rw [List.getD_eq_getElem?_getD, List.getD_eq_getElem?_getD, hf, hg] at this
      simp only [Option.getD_some] at this; omega
  have uniq : ∀ (k t : Nat) (o : Oper) (k' : Nat) (o' : Oper), ops[k]? = some o → o.dst = some t → ops[k']? = some o' → o'.dst = some t → k' = k := fun k t o k' o' ho hdt ho' hd' => hinj k' k t o' o ho' ho hd' hdt
  -- what the walk's frames say
  have hit : ∀ i j f t o, fs[i]? = some f → i < j → ops[f]? = some o → o.dst = some t → valL (pickL fs ops.toList) rs A0.get j t = some (rs.getD i .dead) := fun i j f t o hf hij ho hd =>
    valL_hit _ rs _ j t i o hl hij (by rw [pk, hf]; exact ho) hd fun k' o' ho' hd' => by
      obtain ⟨f', h1, h2, h3⟩ := pko k' o' ho'
      have := uniq f t o f' o' ho hd h3 hd'
      subst this; exact posu _ _ _ h1 hf
  have miss : ∀ j t, (∀ f ∈ fs, ∀ o : Oper, ops[f]? = some o → o.dst ≠ some t) → valL (pickL fs ops.toList) rs A0.get j t = A0.get t := fun j t h =>
    valL_miss _ rs _ j t fun k o hk ho => by
      obtain ⟨f, h1, h2, h3⟩ := pko k o ho
      exact h f h2 o h3
  intro fuel
  induction fuel with
  | zero =>
    intro listed s a w A Ac L Hc done rest hsz hn hs hc hcl hd sim hcs hdone hrest hK hF hA hI hv
    have hlt : ∀ k ∈ s, k < ops.size := fun k hk => by
      have := (hs k).1 hk
      rcases Nat.lt_or_ge k listed.size with h | h
      · omega
      · simp [Array.getD, show ¬ k < listed.size by omega] at this
    have hall : ∀ k, k < ops.size → listed.getD k false = true := fun k hk => (hs k).1 ((Go.Plain.nodup_iff_all (by omega) hlt).1 hn k hk)
    have hr : rest = [] := by
      cases rest with
      | nil => rfl
      | cons c r =>
        have hc : c ∈ cs := by rw [hcs]; simp
        exact absurd (hall c (hok.clt c hc).1) (hrest c (List.mem_cons_self ..))
    subst hr
    refine ⟨?_, ?_⟩
    · refine List.eq_nil_iff_forall_not_mem.2 fun j hj => ?_
      obtain ⟨h1, o, ho, _⟩ := mem_ready.1 hj
      have hj' : j < ops.size := (Array.getElem?_eq_some_iff.1 ho).1
      have := hall j hj'
      simp [Array.getD, hsz, hj'] at h1 this
      rw [h1] at this; cases this
    · refine hQ Ac Hc a w L (sim.sub fun t x hx => ?_) hd hv
      rw [hA t fun f hf o ho hu => absurd (hall f (hok.flt f hf)) hu]; exact hx
  | succ fuel ih =>
    intro listed s a w A Ac L Hc done rest hsz hn hs hc hcl hd sim hcs hdone hrest hK hF hA hI hv
    have ld : ∀ k, k < ops.size → (listed.getD k true = false ↔ ¬ listed.getD k false = true) := by
      intro k hk
      simp [Array.getD, hsz, hk]
    have hex : ∃ k, k < ops.size ∧ ¬ listed.getD k false = true := by
      refine Classical.byContradiction fun hno => ?_
      have : ∀ x ∈ List.range ops.size, x ∈ s := fun x hx => (hs x).2 (Classical.byContradiction fun h => hno ⟨x, by simpa using hx, h⟩)
      have := Go.Plain.nodup_le s (List.range ops.size) List.nodup_range this
      simp at this; omega
    refine ⟨fun h => absurd h (ready_ne hsz hback hex), fun i hi => ?_⟩
    obtain ⟨hun0, oi, hoi, hall⟩ := mem_ready.1 hi
    have hi' : i < ops.size := (Array.getElem?_eq_some_iff.1 hoi).1
    have hun := (ld i hi').1 hun0
    have g1 : ∀ k, (listed.setIfInBounds i true).getD k false = true ↔ (k = i ∨ listed.getD k false = true) := by
      intro k
      by_cases hk : k = i
      · subst hk; simp [Array.getD, hsz, hi']
      · rw [getD_set_ne false (Ne.symm hk)]; simp [hk]
    have nd1 : (i :: s).Nodup := List.nodup_cons.2 ⟨fun h => hun ((hs i).1 h), hn⟩
    have hs1 : ∀ k, k ∈ i :: s ↔ (listed.setIfInBounds i true).getD k false = true := fun k => by rw [g1, List.mem_cons, hs]
    have hcl1 : ∀ (k : Nat) (o : Oper) (e : Edge), (listed.setIfInBounds i true).getD k false = true → ops[k]? = some o → e ∈ o.after → Region.binds .any e = true → (listed.setIfInBounds i true).getD e.on false = true := by
      intro k o e hk ho he hb
      rw [g1] at hk ⊢
      rcases hk with rfl | hk
      · rw [hoi] at ho; simp only [Option.some.injEq] at ho; subst ho
        exact .inr (hall e he hb)
      · exact .inr (hcl k o e hk ho he hb)
    have hNi := fun t h => hN i t oi hoi h
    unfold wpOp
    simp only [hoi]
    rw [if_pos (by simp [Region.wanted, hok.guard i oi hoi])]
    left
    have looks : ∀ (B : Fr), (∀ t, t ∈ oi.looksAt ops → A.get t = B.get t) → ∀ x ∈ oi.op.operands, A.ev x = B.ev x := by
      intro B hB x hx
      cases x with
      | tmp t => exact hB t (List.mem_append_left _ (List.mem_filterMap.2 ⟨.tmp t, by simpa using hx, rfl⟩))
      | const v => rfl
      | global g => rfl
      | func f => rfl
    rcases hok.all i hi' with hif | hic
    · -- one that may come at any time
      obtain ⟨j, hj⟩ := List.getElem?_of_mem hif
      have hcase : (∃ f, fs[j]? = some f ∧ f ∈ f1) ∨ Hp.le Hk Hc := by
        by_cases h1 : i ∈ f1
        · exact .inl ⟨i, hj, h1⟩
        · by_cases h2 : done.length ≤ k0
          · exact .inr (hK h2)
          · exact absurd (hF (by omega) i hif h1) hun
      obtain ⟨Aj, hAj, hop⟩ := hstep Hc j oi (by rw [pk, hj]; exact hoi) hcase
      obtain ⟨di, hdi, hdT0⟩ := hok.fd i hif oi hoi
      have hTi : ∀ t, t ∈ oi.looksAt ops ∨ oi.dst = some t → t ∈ T1 ∨ (done.length ≤ k0 ∧ t ∈ T) := fun t ht => by
        by_cases h1 : i ∈ f1
        · exact .inl (hT1 i h1 oi hoi t ht)
        · by_cases h2 : done.length ≤ k0
          · refine .inr ⟨h2, ?_⟩
            rcases ht with ht | ht
            · exact hok.ft i hif oi hoi t ht
            · rw [hdi] at ht; simp only [Option.some.injEq] at ht; subst ht; exact hdT0
          · exact absurd (hF (by omega) i hif h1) hun
      have hdT := hTi di (.inr hdi)
      have nochain : ∀ c ∈ done, ∀ o : Oper, ops[c]? = some o → o.dst ≠ some di := fun c hc o ho hdt => by
        have := uniq i di oi c o hoi hdi ho hdt
        subst this
        exact (hok.clt c (by rw [hcs]; exact List.mem_append_left _ hc)).2 hif
      refine hop A (looks Aj fun t ht => ?_) w0 S hS w a L sim _ Q' ?_
      · have htT := hTi t (.inl ht)
        rw [hAj t ht]
        by_cases hx : ∃ (k : Nat) (o : Oper), ops[k]? = some o ∧ o.dst = some t
        · obtain ⟨k, o, ho, hdt⟩ := hx
          have hk' := (Array.getElem?_eq_some_iff.1 ho).1
          rcases hok.all k hk' with hkf | hkc
          · obtain ⟨hne, hno⟩ := hok.fr k hkf o ho t hdt i oi hoi ht
            rcases hdep k i t o oi (fun e => hne e.symm) ho hoi hdt ht with ⟨e, he, hb, rfl⟩ | ⟨e, he, hb, he2⟩
            · have hlk := hall e he hb
              have hlt := hback i oi e hoi he hb
              obtain ⟨j', hj'⟩ := List.getElem?_of_mem hkf
              have hjj := inc j' j e.on i hj' hj hlt
              have hjl : j' < (pickL fs ops.toList).length := by rw [len]; exact (List.getElem?_eq_some_iff.1 hj').1
              rw [hit j' j e.on t o hj' hjj ho hdt, hA t fun f hf o' ho' hu hd' => by
                have := uniq e.on t o f o' ho hdt ho' hd'; subst this; exact hu hlk]
              rw [hI t htT fun c hc o' ho' hd' => by
                have := uniq e.on t o c o' ho hdt ho' hd'; subst this
                exact (hok.clt e.on (by rw [hcs]; exact List.mem_append_left _ hc)).2 hkf]
              rw [hA1, hit j' _ e.on t o hj' hjl ho hdt]
            · exact absurd he2 (hno e he hb)
          · have hnf : ∀ f ∈ fs, ∀ o' : Oper, ops[f]? = some o' → o'.dst ≠ some t := fun f hf o' ho' hd' => by
              have := uniq k t o f o' ho hdt ho' hd'; subst this; exact (hok.clt f hkc).2 hf
            have hki : k ≠ i := fun e => by subst e; exact (hok.clt k hkc).2 hif
            rcases hdep k i t o oi hki ho hoi hdt ht with ⟨e, he, hb, rfl⟩ | ⟨e, he, hb, rfl⟩
            · exact absurd hkc (hok.fc i hif oi hoi e he hb)
            · have hkd : k ∉ done := fun hk => hun (hcl k o e (hdone k hk) ho he hb)
              rw [miss j t hnf, hA t fun f hf o' ho' _ => hnf f hf o' ho', hI t htT fun c hc o' ho' hd' => by
                have := uniq k t o c o' ho hdt ho' hd'; subst this; exact hkd hc]
              rw [hA1, miss _ t hnf]
        · have hno : ∀ (k : Nat) (o : Oper), ops[k]? = some o → o.dst ≠ some t := fun k o ho e => hx ⟨k, o, ho, e⟩
          rw [miss j t fun f _ o ho => hno f o ho, hA t fun f _ o ho _ => hno f o ho, hI t htT fun c _ o ho => hno c o ho, hA1, miss _ t fun f _ o ho => hno f o ho]
      · rintro u rr L' A' H4 w' s' hr ⟨rfl, rfl, rfl⟩
        refine ih (listed.setIfInBounds i true) (i :: s) _ w' (putd oi.dst (rs.getD j .dead) A') Ac L' H4 done rest (by simp [hsz]) nd1 hs1 (by simp only [List.length_cons]; omega) hcl1 (by rw [put_defers]; exact hd) (s'.putd hNi hr) hcs (fun c hc => (g1 c).2 (.inr (hdone c hc))) (fun c hc h => ?_) hK (fun h f hf h1 => (g1 f).2 (.inr (hF h f hf h1))) (fun t ht => ?_) hI hv
        · rcases (g1 c).1 h with rfl | h
          · exact (hok.clt c (by rw [hcs]; exact List.mem_append_right _ hc)).2 hif
          · exact hrest c hc h
        · rw [putd_get]
          by_cases e : oi.dst = some t
          · rw [if_pos e]
            rw [hdi] at e; simp only [Option.some.injEq] at e; subst e
            rw [hI di hdT nochain, hA1, hit j _ i di oi hj (by rw [len]; exact (List.getElem?_eq_some_iff.1 hj).1) hoi hdi]
          · rw [if_neg e]
            refine hA t fun f hf o ho hu => ?_
            by_cases hfi : f = i
            · subst hfi; rw [hoi] at ho; simp only [Option.some.injEq] at ho; subst ho; exact e
            · exact ht f hf o ho fun h => ((g1 f).1 h).elim hfi hu
    · -- the next of the chain
      have hir : i ∈ rest := by
        rw [hcs] at hic
        rcases List.mem_append.1 hic with h | h
        · exact absurd (hdone i h) hun
        · exact h
      obtain ⟨c, r, rfl⟩ : ∃ c r, rest = c :: r := by
        cases rest with
        | nil => cases hir
        | cons c r => exact ⟨c, r, rfl⟩
      have hci : c = i := by
        rcases List.mem_cons.1 hir with h | h
        · exact h.symm
        · have hp : chPre ops (c :: r) = true := by
            have hp := hok.pre
            rw [hcs] at hp
            exact chPre_app done hp
          simp only [chPre, Bool.and_eq_true, List.all_eq_true] at hp
          exact absurd (pre_ready hcl hoi hall (hp.1 i h)) (hrest c (List.mem_cons_self ..))
      subst hci
      have e1 : pickL (c :: r) ops.toList = oi :: pickL r ops.toList := by
        have hk : c < ops.toList.length := by simpa using hi'
        have e2 : ops.toList[c] = oi := by
          have := Array.getElem?_eq_some_iff.1 hoi
          obtain ⟨_, e⟩ := this
          simpa using e
        simp only [pickL]
        rw [List.drop_eq_getElem_cons hk, e2]; rfl
      rw [e1] at hv
      simp only [linkS] at hv
      obtain ⟨p, hp⟩ := gx2VC_ok hv
      refine hp A (looks Ac fun t ht => hA t fun f hf o ho hu hdt => ?_) w0 S hS w a L sim _ Q' ?_
      · obtain ⟨hne, hno⟩ := hok.fr f hf o ho t hdt c oi hoi ht
        rcases hdep f c t o oi (fun e => hne e.symm) ho hoi hdt ht with ⟨e, he, hb, rfl⟩ | ⟨e, he, hb, he2⟩
        · exact hu (hall e he hb)
        · exact hno e he hb he2
      · rintro u rr L' A' H4 w' s' hr ⟨rfl, hsame, hkk, hv'⟩
        refine ih (listed.setIfInBounds c true) (c :: s) _ w' (putd oi.dst rr (A.scrub p)) (putd oi.dst rr (Ac.scrub p)) L' H4 (done ++ [c]) r (by simp [hsz]) nd1 hs1 (by simp only [List.length_cons]; omega) hcl1 (by rw [put_defers]; exact hd) (s'.putd hNi hr) (by rw [hcs]; simp) (fun x hx => ?_) (fun x hx h => ?_) (fun hlk => ?_) (fun hlk f hf hf1 => ?_) (fun t ht => ?_) (fun t htT ht => ?_) (by rw [List.length_append, List.length_singleton, ← Nat.sub_sub]; exact hv')
        · rcases List.mem_append.1 hx with h | h
          · exact (g1 x).2 (.inr (hdone x h))
          · rw [List.mem_singleton.1 h]; exact (g1 c).2 (.inl rfl)
        · rcases (g1 x).1 h with rfl | h
          · have := hok.cinc
            rw [hcs] at this
            have hpos := List.getElem?_of_mem hx
            obtain ⟨j, hj⟩ := hpos
            have hjl := (List.getElem?_eq_some_iff.1 hj).1
            have := incB_ok this done.length (done.length + 1 + j) (by omega) (by simp; omega)
            rw [List.getD_eq_getElem?_getD, List.getD_eq_getElem?_getD, List.getElem?_append_right (Nat.le_refl _), List.getElem?_append_right (by omega)] at this
            rw [show done.length + 1 + j - done.length = j + 1 by omega, Nat.sub_self] at this
            simp only [List.getElem?_cons_zero, List.getElem?_cons_succ, hj, Option.getD_some] at this
            omega
          · exact hrest x (List.mem_cons_of_mem _ hx) h
        · rw [List.length_append, List.length_singleton] at hlk
          obtain ⟨m, hm⟩ : ∃ m, k0 - done.length = m + 1 := ⟨k0 - done.length - 1, by omega⟩
          rw [hm] at hkk
          exact hkk
        · rw [List.length_append, List.length_singleton] at hlk
          refine (g1 f).2 (.inr ?_)
          by_cases hlt : k0 < done.length
          · exact hF hlt f hf hf1
          · have hke : k0 = done.length := by omega
            obtain ⟨c', hc', hpre⟩ := hkS f hf hf1
            have : c' = c := by
              rw [hcs, hke, List.getElem?_append_right (Nat.le_refl _), Nat.sub_self] at hc'
              simpa using hc'.symm
            subst this
            exact pre_ready hcl hoi hall hpre
        · rw [putd_get, putd_get]
          by_cases e : oi.dst = some t
          · rw [if_pos e, if_pos e]
          · rw [if_neg e, if_neg e, Fr.get_scrub, Fr.get_scrub, hA t fun f hf o ho hu => ht f hf o ho fun h => ((g1 f).1 h).elim (fun e => by subst e; exact (hok.clt f hic).2 hf) hu]
        · rw [putd_get, if_neg (ht c (by simp) oi hoi)]
          rw [List.length_append, List.length_singleton] at htT
          have hm : some t ∈ (match k0 - done.length with
              | 0 => T1.map some
              | _ + 1 => T.map some) := by
            cases hk : k0 - done.length with
            | zero =>
              rcases htT with h | h
              · exact List.mem_map.2 ⟨t, h, rfl⟩
              · omega
            | succ m =>
              rcases htT with h | h
              · exact List.mem_map.2 ⟨t, hTT t h, rfl⟩
              · exact List.mem_map.2 ⟨t, h.2, rfl⟩
          have := sameG_ok _ hsame t hm
          rw [this]
          exact hI t (htT.imp id fun h => ⟨by omega, h.2⟩) fun x hx o ho => ht x (List.mem_append_left _ hx) o ho
theorem awp_regionS {A : Fr} (fs cs T f1 T1 : List Nat) (k : Nat) (Hk : Hp) {id : Nat} {l : List Oper} {Q : Exit → Fr → Hp → Prop} (hm : P.follows .mixedOrders = true) (hBS : chOkS l.toArray fs cs T f1 T1 k = true) (hN : dstsOk N l = true)
    (h : opsS P N fs cs T f1 T1 k Hk (Q .normal) l A H) : AWP P N (.region id l.toArray true) Q A H := by
  have hmem := dstsOk_mem hN
  simp only [chOkS, Bool.and_eq_true, List.all_eq_true, Bool.or_eq_true, List.contains_iff_mem] at hBS
  obtain ⟨⟨⟨⟨⟨hB, hf1⟩, hinc1⟩, hkS0⟩, hcl1⟩, hTT⟩ := hBS
  have hok := chOk_ok hB
  have hkS : ∀ f ∈ fs, f ∉ f1 → ∃ c, cs[k]? = some c ∧ preB l.toArray l.toArray.size c f = true := fun f hf h1 => by
    rcases hkS0 f hf with h | h
    · exact absurd h h1
    · split at h
      · rename_i c hc; exact ⟨c, hc, h⟩
      · cases h
  obtain ⟨hinj, _, _⟩ := anyOk_ok hok.any
  have flt : ∀ f ∈ fs, f < l.length := fun f hf => by simpa using hok.flt f hf
  have pko : ∀ j o, (pickL fs l)[j]? = some o → ∃ f, fs[j]? = some f ∧ f ∈ fs ∧ l[f]? = some o := fun j o h => by
    rw [pickL_get fs flt j] at h
    cases hf : fs[j]? with
    | none => rw [hf] at h; cases h
    | some f => rw [hf] at h; exact ⟨f, hf, List.mem_of_getElem? hf, h⟩
  unfold opsS at h
  obtain ⟨rs, hlex⟩ := lex_of_opsQ _ A h
  obtain ⟨k1, k2, A1, k3, k6, k4, k7, k5⟩ := LexL_get (pickL fs l) A rs A.get (fun _ => rfl) hlex
  have uni : ∀ (j k : Nat) (o o' : Oper) (t : Nat), (pickL fs l)[j]? = some o → o.dst = some t → (pickL fs l)[k]? = some o' → o'.dst = some t → k = j := fun j k o o' t hj hdt hk hd' => by
    obtain ⟨f, h1, h2, h3⟩ := pko j o hj
    obtain ⟨g, h4, h5, h6⟩ := pko k o' hk
    have := hinj g f t o' o (by simpa using h6) (by simpa using h3) hd' hdt
    subst this
    have hj := (List.getElem?_eq_some_iff.1 h1).1
    have hk := (List.getElem?_eq_some_iff.1 h4).1
    rcases Nat.lt_trichotomy k j with h | h | h
    · have := incB_ok hok.finc k j h hj
      rw [List.getD_eq_getElem?_getD, List.getD_eq_getElem?_getD, h1, h4] at this
      simp only [Option.getD_some] at this; omega
    · exact h
    · have := incB_ok hok.finc j k h hk
      rw [List.getD_eq_getElem?_getD, List.getD_eq_getElem?_getD, h1, h4] at this
      simp only [Option.getD_some] at this; omega
  intro w0 S hS w a L s hd
  have s1 : Sim N.n w0 S w.drew a.tmps L A H := s.drew
  refine wp_region_any hm ?_
  have f1lt : ∀ f ∈ f1, f < l.length := fun f hf => flt f (hf1 f hf)
  have pk1 : ∀ j o, (pickL f1 l)[j]? = some o → ∃ f, f1[j]? = some f ∧ f ∈ f1 ∧ l[f]? = some o := fun j o h => by
    rw [pickL_get f1 f1lt j] at h
    cases hf : f1[j]? with
    | none => rw [hf] at h; cases h
    | some f => rw [hf] at h; exact ⟨f, hf, List.mem_of_getElem? hf, h⟩
  have inc1 : ∀ i j f g : Nat, f1[i]? = some f → f1[j]? = some g → f < g → i < j := fun i j f g hf hg hfg => by
    have hj := (List.getElem?_eq_some_iff.1 hg).1
    have hi := (List.getElem?_eq_some_iff.1 hf).1
    refine Nat.lt_of_not_le fun h => ?_
    rcases Nat.lt_or_eq_of_le h with h | h
    · have := incB_ok hinc1 j i h hi
      rw [List.getD_eq_getElem?_getD, List.getD_eq_getElem?_getD, hf, hg] at this
      simp only [Option.getD_some] at this; omega
    · subst h; rw [hf] at hg; simp only [Option.some.injEq] at hg; omega
  have inc0 : ∀ i j f g : Nat, fs[i]? = some f → fs[j]? = some g → f < g → i < j := fun i j f g hf hg hfg => by
    have hj := (List.getElem?_eq_some_iff.1 hg).1
    have hi := (List.getElem?_eq_some_iff.1 hf).1
    refine Nat.lt_of_not_le fun h => ?_
    rcases Nat.lt_or_eq_of_le h with h | h
    · have := incB_ok hok.finc j i h hi
      rw [List.getD_eq_getElem?_getD, List.getD_eq_getElem?_getD, hf, hg] at this
      simp only [Option.getD_some] at this; omega
    · subst h; rw [hf] at hg; simp only [Option.some.injEq] at hg; omega
  have uni1 : ∀ (j k : Nat) (o o' : Oper) (t : Nat), (pickL f1 l)[j]? = some o → o.dst = some t → (pickL f1 l)[k]? = some o' → o'.dst = some t → k = j := fun j k o o' t hj hdt hk hd' => by
    obtain ⟨f, h1, h2, h3⟩ := pk1 j o hj
    obtain ⟨g, h4, h5, h6⟩ := pk1 k o' hk
    have := hinj g f t o' o (by simpa using h6) (by simpa using h3) hd' hdt
    subst this
    rcases Nat.lt_trichotomy k j with h | h | h
    · have hjl := (List.getElem?_eq_some_iff.1 h1).1
      have := incB_ok hinc1 k j h hjl
      rw [List.getD_eq_getElem?_getD, List.getD_eq_getElem?_getD, h1, h4] at this
      simp only [Option.getD_some] at this; omega
    · exact h
    · have hkl := (List.getElem?_eq_some_iff.1 h4).1
      have := incB_ok hinc1 j k h hkl
      rw [List.getD_eq_getElem?_getD, List.getD_eq_getElem?_getD, h1, h4] at this
      simp only [Option.getD_some] at this; omega
  have hT1 : ∀ f ∈ f1, ∀ o : Oper, l.toArray[f]? = some o → ∀ t, t ∈ o.looksAt l.toArray ∨ o.dst = some t → t ∈ T1 := fun f hf o ho t ht => by
    have hc := hcl1 f hf
    rw [ho] at hc
    simp only [Bool.and_eq_true, List.all_eq_true] at hc
    rcases ht with ht | ht
    · have := (hc.2 t (by simpa using ht)).1
      simpa using this
    · have h1 := hc.1
      rw [ht] at h1
      simpa using h1
  refine linkS_sound (ops := l.toArray) (fs := fs) (cs := cs) (T := T) (f1 := f1) (T1 := T1) (k0 := k) (Hk := Hk) (A0 := A) (A1 := A1) (rs := rs) (QF := Q .normal) hS hok hT1 (fun t ht => by simpa using hTT t ht) hkS (fun j t o ho hdt => hmem o (List.mem_of_getElem? (by simpa using ho)) t hdt) k1 k3 (fun H' j o ho hcase => ?_) ?_ l.toArray.size _ [] a _ A A1 L H [] cs (by simp) List.nodup_nil (fun k => ?_) (by simp) (fun k o e hk => ?_) hd s1 rfl (fun c hc => by cases hc) (fun c _ hk => ?_) (fun _ => k7) (fun h => absurd h (Nat.not_lt_zero _)) (fun t ht => ?_) (fun t _ _ => rfl) (by simpa using k5)
  · rw [List.toList_toArray] at ho
    obtain ⟨f, q1, q2, q3⟩ := pko j o ho
    have fin : ∀ (B : Fr) (r : AV), StepOK P N (l.map (·.dst)) o B H' r → OpOK P N o B H' r := fun B r h2 => by
      unfold StepOK at h2
      rw [hok.guard f o (by simpa using q3)] at h2
      exact h2
    by_cases hle : Hp.le Hk H'
    · have eX : Hk.add H' = H' := by
        funext x
        unfold Hp.add
        cases e : Hk x with
        | none => rfl
        | some B => exact (hle x B e).symm
      have k4' : opsQ P N (l.map (·.dst)) (fun A2 => sameG A2 A1 (T.map some)) (pickL fs l) A (Hk.add H') := k4 H'
      rw [eX] at k4'
      obtain ⟨rs2, hlex2⟩ := lex_of_opsQ _ A k4'
      obtain ⟨j1, j2, A2, j3, j4⟩ := LexL_get (pickL fs l) A rs2 A.get (fun _ => rfl) hlex2
      have er : rs2 = rs := by
        refine List.ext_getElem (by rw [j1, k1]) fun k h1 h2 => ?_
        have hk : k < (pickL fs l).length := by omega
        have hko : (pickL fs l)[k]? = some (pickL fs l)[k] := List.getElem?_eq_getElem hk
        obtain ⟨f, q1, q2, q3⟩ := pko k _ hko
        obtain ⟨d, hdd, hdT⟩ := hok.fd f q2 _ (by simpa using q3)
        have e := sameG_ok _ j4 d (List.mem_map.2 ⟨d, hdT, rfl⟩)
        rw [j3, k3, valL_hit _ rs2 _ _ d k _ j1 hk hko hdd (fun k' o' ho' hd' => uni k k' _ o' d hko hdd ho' hd'), valL_hit _ rs _ _ d k _ k1 hk hko hdd (fun k' o' ho' hd' => uni k k' _ o' d hko hdd ho' hd')] at e
        simpa [List.getD_eq_getElem?_getD, h1, h2] using e
      subst er
      obtain ⟨Aj, h1, h2⟩ := j2 j o ho
      exact ⟨Aj, fun t _ => by rw [List.toList_toArray]; exact h1 t, fin Aj _ h2⟩
    · obtain ⟨f', e1, hff⟩ := hcase.resolve_right hle
      have : f' = f := by rw [q1] at e1; simpa using e1.symm
      subst this
      obtain ⟨rs1, hlex1⟩ := lex_of_opsQ _ A (k6 H')
      obtain ⟨j1, j2, A2, j3, j4⟩ := LexL_get (pickL f1 l) A rs1 A.get (fun _ => rfl) hlex1
      -- results are the same in both
      have same : ∀ (g i1 i0 : Nat), f1[i1]? = some g → fs[i0]? = some g → rs1.getD i1 .dead = rs.getD i0 .dead := fun g i1 i0 h1 h0 => by
        have hg1 : g ∈ f1 := List.mem_of_getElem? h1
        obtain ⟨og, hog⟩ : ∃ og, l[g]? = some og := ⟨l[g]'(f1lt g hg1), List.getElem?_eq_getElem _⟩
        have hc := hcl1 g hg1
        rw [show l.toArray[g]? = some og by simpa using hog] at hc
        simp only [Bool.and_eq_true] at hc
        obtain ⟨hc1, _⟩ := hc
        split at hc1
        · rename_i d hd
          have hdT1 : d ∈ T1 := by simpa using hc1
          have e := sameG_ok _ j4 d (List.mem_map.2 ⟨d, hdT1, rfl⟩)
          have p1 : (pickL f1 l)[i1]? = some og := by rw [pickL_get f1 f1lt, h1]; exact hog
          have p0 : (pickL fs l)[i0]? = some og := by rw [pickL_get fs flt, h0]; exact hog
          rw [j3, k3, valL_hit _ rs1 _ _ d i1 og j1 (List.getElem?_eq_some_iff.1 p1).1 p1 hd (fun k' o' ho' hd' => uni1 i1 k' og o' d p1 hd ho' hd'), valL_hit _ rs _ _ d i0 og k1 (List.getElem?_eq_some_iff.1 p0).1 p0 hd (fun k' o' ho' hd' => uni i0 k' og o' d p0 hd ho' hd')] at e
          simpa using e
        · cases hc1
      obtain ⟨i1, hi1⟩ := List.getElem?_of_mem hff
      have p1 : (pickL f1 l)[i1]? = some o := by rw [pickL_get f1 f1lt, hi1]; exact q3
      obtain ⟨Aj, h1, h2⟩ := j2 i1 o p1
      rw [same f' i1 j hi1 q1] at h2
      refine ⟨Aj, fun t ht => ?_, fin Aj _ h2⟩
      rw [List.toList_toArray, h1]
      have hc := hcl1 f' hff
      rw [show l.toArray[f']? = some o by simpa using q3] at hc
      simp only [Bool.and_eq_true, List.all_eq_true, List.mem_range, Bool.or_eq_true, bne_iff_ne] at hc
      have hcl := (hc.2 t (by simpa using ht)).2
      by_cases hx : ∃ (g : Nat) (og : Oper), l[g]? = some og ∧ og.dst = some t
      · obtain ⟨g, og, hog, hdt⟩ := hx
        have hgl := (List.getElem?_eq_some_iff.1 hog).1
        have hg1 : g ∈ f1 := by
          have := hcl g (by simpa using hgl)
          rw [show l.toArray[g]? = some og by simpa using hog] at this
          simp only [Bool.or_eq_true, bne_iff_ne] at this
          rcases this with h | h
          · exact absurd hdt h
          · simpa using h
        obtain ⟨m1, hm1⟩ := List.getElem?_of_mem hg1
        obtain ⟨m0, hm0⟩ := List.getElem?_of_mem (hf1 g hg1)
        have pm1 : (pickL f1 l)[m1]? = some og := by rw [pickL_get f1 f1lt, hm1]; exact hog
        have pm0 : (pickL fs l)[m0]? = some og := by rw [pickL_get fs flt, hm0]; exact hog
        rcases Nat.lt_trichotomy g f' with hl | hl | hl
        · rw [valL_hit _ rs1 _ i1 t m1 og j1 (inc1 m1 i1 g f' hm1 hi1 hl) pm1 hdt (fun k' o' ho' hd' => uni1 m1 k' og o' t pm1 hdt ho' hd'), valL_hit _ rs _ j t m0 og k1 (inc0 m0 j g f' hm0 q1 hl) pm0 hdt (fun k' o' ho' hd' => uni m0 k' og o' t pm0 hdt ho' hd'), same g m1 m0 hm1 hm0]
        · have ef : m1 = i1 := by
            subst hl
            exact uni1 i1 m1 og og t (by rw [pickL_get f1 f1lt, hi1]; exact hog) hdt pm1 hdt
          have ef0 : m0 = j := by
            subst hl
            exact uni j m0 og og t (by rw [pickL_get fs flt, q1]; exact hog) hdt pm0 hdt
          rw [valL_miss _ rs1 _ i1 t fun k' o' hk' ho' hd' => by have := uni1 m1 k' og o' t pm1 hdt ho' hd'; omega, valL_miss _ rs _ j t fun k' o' hk' ho' hd' => by have := uni m0 k' og o' t pm0 hdt ho' hd'; omega]
        · have hl1 := inc1 i1 m1 f' g hi1 hm1 hl
          have hl0 := inc0 j m0 f' g q1 hm0 hl
          rw [valL_miss _ rs1 _ i1 t fun k' o' hk' ho' hd' => by have := uni1 m1 k' og o' t pm1 hdt ho' hd'; omega, valL_miss _ rs _ j t fun k' o' hk' ho' hd' => by have := uni m0 k' og o' t pm0 hdt ho' hd'; omega]
      · have hno : ∀ (k : Nat) (o : Oper), l[k]? = some o → o.dst ≠ some t := fun k o ho e => hx ⟨k, o, ho, e⟩
        rw [valL_miss _ rs1 _ i1 t fun k' o' _ ho' => by obtain ⟨g, _, _, h6⟩ := pk1 k' o' ho'; exact hno g o' h6, valL_miss _ rs _ j t fun k' o' _ ho' => by obtain ⟨g, _, _, h6⟩ := pko k' o' ho'; exact hno g o' h6]
  · intro A' H3 a' w' L' s' hd' hq
    exact ⟨L', A', H3, s', hd', hq⟩
  · simp [Array.getD]
  · simp [Array.getD] at hk
  · simp [Array.getD] at hk
  · have hno : ∀ f ∈ fs, ∀ o : Oper, l[f]? = some o → o.dst ≠ some t := fun f hf o ho => ht f hf o (by simpa using ho) (by simp [Array.getD])
    rw [k3, valL_miss _ _ _ _ _ fun k o _ ho => by obtain ⟨f, q1, q2, q3⟩ := pko k o ho; exact hno f q2 o q3]
theorem obLe {a b : Hp} {p : Prop} (h : Hp.le a b) (k : p) : Ob (Hp.le a b) p := Ob.mk h k
theorem linkS_nil (Hk : Hp) (T T1 : List (Option Tmp)) (Q : Fr → Hp → Prop) (k : Nat) (A : Fr) : linkS P N Hk T T1 Q k [] A H = Q A H := by
  cases k <;> rfl
theorem linkS_0 (Hk : Hp) (T T1 : List (Option Tmp)) (Q : Fr → Hp → Prop) (o : Oper) (l : List Oper) (A : Fr) : linkS P N Hk T T1 Q 0 (o :: l) A H = gx2VC P N (o.dst.getD 0) o.op A H fun r p H' => Ob (sameG (A.scrub p) A T1) (Ob True (linkS P N Hk T T1 Q 0 l (putd o.dst r (A.scrub p)) H')) := rfl
theorem linkS_1 (Hk : Hp) (T T1 : List (Option Tmp)) (Q : Fr → Hp → Prop) (o : Oper) (l : List Oper) (A : Fr) : linkS P N Hk T T1 Q 1 (o :: l) A H = gx2VC P N (o.dst.getD 0) o.op A H fun r p H' => Ob (sameG (A.scrub p) A T) (Ob (Hp.le Hk H') (linkS P N Hk T T1 Q 0 l (putd o.dst r (A.scrub p)) H')) := rfl
theorem linkS_2 (Hk : Hp) (T T1 : List (Option Tmp)) (Q : Fr → Hp → Prop) (o : Oper) (l : List Oper) (A : Fr) : linkS P N Hk T T1 Q 2 (o :: l) A H = gx2VC P N (o.dst.getD 0) o.op A H fun r p H' => Ob (sameG (A.scrub p) A T) (Ob (Hp.le Hk H') (linkS P N Hk T T1 Q 1 l (putd o.dst r (A.scrub p)) H')) := rfl
theorem awp_regionSK {A : Fr} (ks : Nat) (fs cs T f1 T1 : List Nat) (k : Nat) (Hk : Hp) {id : Nat} {l : List Oper} {Q : Exit → Fr → Hp → Prop} (hm : P.follows .mixedOrders = true) (hB : chOkS l.toArray fs cs T f1 T1 k = true) (hN : dstsOk N l = true)
    (h : opsS P N fs cs T f1 T1 k Hk (keepQ ks Q .normal) l A H) : AWP P N (.region id l.toArray true) Q A H :=
  awp_weak (awp_regionS fs cs T f1 T1 k Hk hm hB hN h) keepQ_weak
end
attribute [go_sem] opsS linkS_nil linkS_0 linkS_1 linkS_2 gx2VC
end Go.Av
end
/- Regions in sequence of which the first operations only read, and lay literals that nobody writes. -/
section
namespace Go.Av
section
variable {P : Program} {N : Cx} {A A' : Fr} {H H' : Hp}
def opsJ (P : Program) (N : Cx) (ds : List (Option Tmp)) (Q : Fr → Hp → Prop) : Nat → List Oper → Fr → Hp → Prop
  | 0, l, A, H => opsVC P N ds Q l A H
  | m + 1, o :: l, A, H => opQ P N (o.dst.getD 0) o.op A H fun r => opsJ P N ds Q m l (putd o.dst r A) H
  | _ + 1, [], _, _ => False
theorem opsJ_0 (ds : List (Option Tmp)) (Q : Fr → Hp → Prop) (l : List Oper) (A : Fr) (H : Hp) : opsJ P N ds Q 0 l A H = opsVC P N ds Q l A H := rfl
theorem opsJ_succ (ds : List (Option Tmp)) (Q : Fr → Hp → Prop) (m : Nat) (o : Oper) (l : List Oper) (A : Fr) (H : Hp) : opsJ P N ds Q (m + 1) (o :: l) A H = opQ P N (o.dst.getD 0) o.op A H fun r => opsJ P N ds Q m l (putd o.dst r A) H := rfl
theorem opsJ_sound {ops : Array Oper} {Q : Fr → Hp → Prop} (hds : ∀ j t, (ops.toList.map (·.dst)).getD j none = some t → t < N.n) : ∀ (m : Nat) (l : List Oper) (A : Fr) (H : Hp), (∀ o ∈ l.take m, o.guard = none) → (∀ o ∈ l, ∀ t, o.dst = some t → t < N.n) →
    opsJ P N (ops.toList.map (·.dst)) Q m l A H → AOps P N ops l Q A H
  | 0, l, A, H, _, hN, h => opsVC_sound l A H hN hds h
  | m + 1, [], A, H, _, _, h => h.elim
  | m + 1, o :: l, A, H, hG, hN, h => by
    rw [opsJ_succ] at h
    obtain ⟨r, hK, hr⟩ := opQ_ok (N := N) h
    refine aops_cons (hG o (by simp)) (hN o List.mem_cons_self) ?_
    have ih := opsJ_sound hds m l (putd o.dst r A) H (fun p hp => hG p (by rw [List.take_succ_cons]; exact List.mem_cons_of_mem _ hp)) (fun p hp => hN p (List.mem_cons_of_mem _ hp)) hK
    refine (hr A fun _ _ => rfl).mono fun r' A' H' hk => ?_
    obtain ⟨rfl, rfl, rfl⟩ := hk
    exact ih
theorem awp_regionJK {A : Fr} {H : Hp} (ks m : Nat) {id : Nat} {l : List Oper} {Q : Exit → Fr → Hp → Prop} (hG : ((l.take m).all fun o => o.guard.isNone) = true) (hN : dstsOk N l = true)
    (h : opsJ P N (l.map (·.dst)) (keepQ ks Q .normal) m l A H) : AWP P N (.region id l.toArray false) Q A H := by
  have hm := dstsOk_mem hN
  refine awp_weak (awp_region (opsJ_sound (fun j t ht => ?_) m l A H (fun o ho => ?_) hm (by simpa using h))) keepQ_weak
  · simp only [List.getD_eq_getElem?_getD, List.getElem?_map] at ht
    cases ho : l[j]? with
    | none => simp [ho] at ht
    | some x => exact hm x (List.mem_of_getElem? ho) t (by simpa [ho] using ht)
  · have := List.all_eq_true.1 hG o ho
    simpa using this
end
end Go.Av
end
/- Rows of our own whose elements are frozen rows. -/
section
namespace Go.Av
section
variable {P : Program} {N : Cx} {A : Fr} {H : Hp}
end
end Go.Av
end
/- From a law's contract over abstract values to its row: how Go's data read. -/
section
namespace Go.Av
open Go.ChangeShapes Go.WideShapes Go.ChangeAt Go.RowKit

section
variable {P : Program} {H : Type} {enc : TypeId × Value → H} {w : World} {base : Nat} {spare : Nat → Bool} {held : Bool} {L : Loc}

/-- Every block may be read. -/
abbrev All : Nat → Prop := fun _ => True

theorem law_calls {f : FuncId} {args : List AV} {vs : Array Value} (hac : AC P f args Hp.emp (fun _ => false) (retV (.v (.bool true)))) (hr : RdArgs w All (fun _ => none) args vs) :
    Calls P f vs w fun e w' => e = .returned (.bool true) ∧ Below w.heap.size w w' := by
  let S : Rg := ⟨fun b => w.heap.size ≤ b, fun _ => True, fun _ _ => trivial, fun _ => none⟩
  have s0 : Sim 0 w S w #[] (fun _ => none) [] Hp.emp := ⟨Keep.refl w _, rfl, fun i a h => by simp [Fr.get] at h, fun h B hB => by simp [Hp.emp] at hB, fun h q hn => by simp [Hp.emp] at hn, fun h g q r hn => by simp [Hp.emp] at hn, fun h l hl => by simp [S] at hl⟩
  refine (hac.2 S w (fun _ => none) vs (fun b h => h) (fun h _ => rfl) s0 ⟨hr.1, fun i a hi => ?_⟩).mono ?_
  · obtain ⟨u, k1, k2⟩ := hr.2 i a hi
    exact ⟨u, k1, Rd.mono (fun b _ _ => ⟨trivial, fun h q hn => by simp [Hp.emp] at hn⟩) k2⟩
  · rintro e w' ⟨u, L', r, H', rfl, s2, hr, rfl, rfl⟩
    have hu : u = .bool true := hr
    subst hu
    exact ⟨rfl, ⟨s2.keep.os, s2.keep.tape, s2.keep.output, s2.keep.size, fun k hk => s2.keep.blk k hk (by show ¬ w.heap.size ≤ k; omega)⟩⟩

theorem cells_spot {a : Addr} {n : Nat} {V : Nat → Value} (h : ∀ i, i < n → w.cell? (a.add i) = some (V i)) : ∀ i, i < n → a.spot = none ∧ w.cell? ⟨a.block, a.off + i, none⟩ = some (V i) := by
  intro i hi
  have h0 := h 0 (by omega)
  have hs : a.spot = none := by
    have e : a.add 0 = a := by simp [Addr.add]
    rw [e] at h0
    unfold World.cell? at h0
    cases hsp : a.spot with
    | none => rfl
    | some k =>
      simp only [hsp] at h0
      split at h0 <;> simp at h0
  refine ⟨hs, ?_⟩
  have := h i hi
  rwa [Addr_eq hs, Addr_add] at this

theorem rd_list {α : Type} (g : α → AV) (d : α) {xs : List α} {a : Addr} {len cap : Nat} {V : Nat → Value} (hl : xs.length = len) (hc : len ≤ cap) (h : ∀ i, i < len → w.cell? (a.add i) = some (V i)) (hr : ∀ i, i < len → ∀ L', Rd w All L' (g (xs.getD i d)) (V i)) :
    Rd w All L (.list false 1 xs.length (cM g d xs)) (.slice (some a) len cap) := by
  subst hl
  refine ⟨some a, cap, rfl, hc, by simp, by simp, fun p hp i hi => ?_⟩
  simp only [Option.some.injEq] at hp
  subst hp
  rw [Nat.mul_one] at hi
  obtain ⟨k1, k2⟩ := cells_spot h i hi
  exact ⟨k1, trivial, V i, k2, hr i hi⟩

theorem trod_cs {t : TypeId} {v : Value} {d : DataW H} {p : List MemPlace} (h : DataW.Trod enc P w base spare held t v d p) (hv : v.cells = #[v]) : ∃ fuel, DataW.trod enc P w base spare held fuel t [v] = some (d, p) := by
  obtain ⟨fuel, hf⟩ := h
  exact ⟨fuel, by rw [hv] at hf; exact hf⟩

theorem rdArgs_list {ok : Nat → Prop} : ∀ (as : List AV) (vs : List Value), as.length = vs.length → (∀ (i : Nat) (a : AV) (v : Value), as[i]? = some a → vs[i]? = some v → Rd w ok L a v) → RdArgs w ok L as vs.toArray := by
  intro as vs hl h
  refine ⟨by simp [hl], fun i a hi => ?_⟩
  have hlt := (List.getElem?_eq_some_iff.1 hi).1
  exact ⟨vs[i]'(by omega), by simp, h i a _ hi (by simp)⟩
theorem rdArgs1 {ok : Nat → Prop} {a : AV} {v : Value} (h : Rd w ok L a v) : RdArgs w ok L [a] #[v] := rdArgs_list [a] [v] rfl fun i a' v' h1 h2 => by
  match i with
  | 0 => simp at h1 h2; subst h1 h2; exact h
  | i + 1 => simp at h1
end
end Go.Av
end
/- How bytes read. -/
section
namespace Go.Av
open Go.ChangeShapes Go.WideShapes Go.ChangeAt Go.RowKit
section
variable {P : Program} {H : Type} {enc : TypeId × Value → H} {w : World} {base : Nat} {spare : Nat → Bool} {held : Bool} {L : Loc}
theorem in8_wf {n : Int} (h : (Lit.int .u8 n).wf = true) : 0 ≤ n ∧ n ≤ 255 := by
  simp [Lit.wf, IntKind.min, IntKind.max] at h
  revert h
  simp only [show IntKind.u8.signed = false from rfl, show IntKind.u8.bits = 8 from rfl]
  intro h
  simp at h
  omega
theorem rd_bytes {t e : TypeId} {fuel : Nat} {cs : List Value} {x : DataW H × List MemPlace} (ht : P.underlying t = some (.slice e)) (he : P.underlying e = some (.int .u8)) (hc : P.cellsOf e = 1) (h : DataW.trod enc P w base spare held fuel t cs = some x) :
    ∃ (v : Value) (xs : List Int), cs = [v] ∧ (∀ L, Rd w All L (bts xs) v) ∧ xs.length ≤ 9223372036854775807 ∧ ∀ j, 0 ≤ xs.getD j 0 ∧ xs.getD j 0 ≤ 255 := by
  have hm : maxLen = 9223372036854775807 := by decide
  rcases open_ints ht he hc h with ⟨rfl, _⟩ | ⟨a, len, cap, zs, rfl, _, hl, hmx, hz, _, hcell, hwf⟩
  · exact ⟨_, [], rfl, fun L => ⟨none, 0, rfl, Nat.le_refl _, by simp, fun _ => ⟨rfl, rfl⟩, by simp⟩, by simp, by simp⟩
  · have hlen : len ≤ zs.length := by rw [hz]; split <;> omega
    refine ⟨_, zs.take len, rfl, fun L => rd_list u8v 0 (V := fun i => .int .u8 (zs.getD i 0)) (by simp; omega) hl (fun i hi => hcell i (by omega)) (fun i hi L' => ?_), by simp; omega, fun j => ?_⟩
    · have e : (zs.take len).getD i 0 = zs.getD i 0 := by simp [hi]
      rw [e]; rfl
    · by_cases hj : j < (zs.take len).length
      · rw [List.getD_eq_getElem?_getD, List.getElem?_eq_getElem hj, Option.getD_some]
        exact in8_wf (hwf _ (List.mem_of_mem_take (List.getElem_mem hj)))
      · rw [List.getD_eq_getElem?_getD, List.getElem?_eq_none (by omega), Option.getD_none]; omega
end
end Go.Av
end
/- Permutations as rows of numbers: composition, inverse, what generators generate. -/
section
namespace Go.Pm

/-- p is a permutation of n points. -/
def Pm (n : Nat) (p : List Int) : Prop := p.length = n ∧ (∀ j, j < n → 0 ≤ p.getD j 0 ∧ p.getD j 0 < n) ∧ ∀ i j, i < n → j < n → p.getD i 0 = p.getD j 0 → i = j

def img (p : List Int) (i : Nat) : Nat := (p.getD i 0).toNat
def comp (p q : List Int) : List Int := p.map fun x => q.getD x.toNat 0
def idn (n : Nat) : List Int := (List.range n).map fun i : Nat => (i : Int)
def invp (p : List Int) : List Int := (List.range p.length).map fun i : Nat => ((p.findIdx fun x => decide (x = (i : Int)) : Nat) : Int)

theorem ext {p q : List Int} (hl : p.length = q.length) (h : ∀ j, j < p.length → p.getD j 0 = q.getD j 0) : p = q := by
  refine List.ext_getElem hl fun i h1 h2 => ?_
  have := h i h1
  simpa [List.getD_eq_getElem?_getD, h1, h2] using this

theorem comp_length (p q : List Int) : (comp p q).length = p.length := by simp [comp]
theorem comp_get (p q : List Int) {i : Nat} (h : i < p.length) : (comp p q).getD i 0 = q.getD (img p i) 0 := by
  simp [comp, img, List.getD_eq_getElem?_getD, h]
theorem idn_length (n : Nat) : (idn n).length = n := by simp [idn]
theorem idn_get {n i : Nat} (h : i < n) : (idn n).getD i 0 = i := by simp [idn, List.getD_eq_getElem?_getD, h]
theorem img_idn {n i : Nat} (h : i < n) : img (idn n) i = i := by unfold img; rw [idn_get h]; rfl
theorem img_comp (p q : List Int) {i : Nat} (h : i < p.length) : img (comp p q) i = img q (img p i) := by
  unfold img; rw [comp_get p q h]; rfl

namespace Pm
variable {n : Nat} {p q r : List Int}
theorem img_lt (h : Pm n p) {i : Nat} (hi : i < n) : img p i < n := by
  have := h.2.1 i hi
  unfold Pm.img; omega
theorem get_eq (h : Pm n p) {i : Nat} (hi : i < n) : p.getD i 0 = (img p i : Int) := by
  have := h.2.1 i hi
  unfold Pm.img; omega
theorem inj (h : Pm n p) {i j : Nat} (hi : i < n) (hj : j < n) (e : img p i = img p j) : i = j :=
  h.2.2 i j hi hj (by rw [h.get_eq hi, h.get_eq hj, e])
theorem ext_img (h : Pm n p) (k : Pm n q) (e : ∀ i, i < n → img p i = img q i) : p = q :=
  Go.Pm.ext (h.1.trans k.1.symm) fun j hj => by
    rw [h.1] at hj
    rw [h.get_eq hj, k.get_eq hj, e j hj]
theorem idn (n : Nat) : Pm n (idn n) :=
  ⟨idn_length n, fun j hj => by rw [idn_get hj]; omega, fun i j hi hj e => by rw [idn_get hi, idn_get hj] at e; omega⟩
theorem mk' (hl : p.length = n) (h1 : ∀ j, j < n → ∃ k, k < n ∧ p.getD j 0 = (k : Int)) (h2 : ∀ i j, i < n → j < n → img p i = img p j → i = j) : Pm n p :=
  ⟨hl, fun j hj => by obtain ⟨k, h3, h4⟩ := h1 j hj; omega, fun i j hi hj e => h2 i j hi hj (by unfold Pm.img; rw [e])⟩
theorem comp (h : Pm n p) (k : Pm n q) : Pm n (comp p q) := by
  refine mk' (by rw [comp_length]; exact h.1) (fun j hj => ⟨img q (img p j), k.img_lt (h.img_lt hj), ?_⟩) fun i j hi hj e => ?_
  · rw [comp_get _ _ (by rw [h.1]; exact hj), k.get_eq (h.img_lt hj)]
  · rw [img_comp _ _ (by rw [h.1]; exact hi), img_comp _ _ (by rw [h.1]; exact hj)] at e
    exact h.inj hi hj (k.inj (h.img_lt hi) (h.img_lt hj) e)
theorem cimg (h : Pm n p) {i : Nat} (hi : i < n) : img (Go.Pm.comp p q) i = img q (img p i) := img_comp _ _ (by rw [h.1]; exact hi)

/-- Every point is met. -/
theorem surj (h : Pm n p) {i : Nat} (hi : i < n) : ∃ j, j < n ∧ img p j = i := by
  have hn : ((List.range n).map (img p)).Nodup := by
    rw [List.nodup_iff_pairwise_ne, List.pairwise_map]
    refine List.Pairwise.imp_of_mem (R := fun a b => a ≠ b) ?_ (List.nodup_iff_pairwise_ne.1 List.nodup_range)
    intro a b ha hb hne e
    exact hne (h.inj (by simpa using ha) (by simpa using hb) e)
  have := (Go.Plain.nodup_iff_all (l := (List.range n).map (img p)) (n := n) (by simp) (fun x hx => by
    obtain ⟨j, hj, rfl⟩ := List.mem_map.1 hx
    exact h.img_lt (by simpa using hj))).1 hn i hi
  obtain ⟨j, hj, e⟩ := List.mem_map.1 this
  exact ⟨j, by simpa using hj, e⟩

theorem find (h : Pm n p) {i : Nat} (hi : i < n) : p.findIdx (fun x => decide (x = (i : Int))) < n ∧ img p (p.findIdx fun x => decide (x = (i : Int))) = i := by
  obtain ⟨j, hj, e⟩ := h.surj hi
  have hlt : p.findIdx (fun x => decide (x = (i : Int))) < p.length := by
    rw [List.findIdx_lt_length]
    refine ⟨p.getD j 0, ?_, ?_⟩
    · have hj' : j < p.length := by rw [h.1]; exact hj
      rw [List.getD_eq_getElem?_getD, List.getElem?_eq_getElem hj']
      exact List.getElem_mem hj'
    · rw [h.get_eq hj, e]; simp
  have := List.findIdx_getElem (w := hlt)
  refine ⟨by rw [← h.1]; exact hlt, ?_⟩
  simp only [decide_eq_true_eq] at this
  unfold Pm.img
  rw [List.getD_eq_getElem?_getD, List.getElem?_eq_getElem hlt, Option.getD_some, this]
  simp
theorem inv_get (h : Pm n p) {i : Nat} (hi : i < n) : (invp p).getD i 0 = ((p.findIdx fun x => decide (x = (i : Int)) : Nat) : Int) := by
  have : i < p.length := by rw [h.1]; exact hi
  simp [invp, List.getD_eq_getElem?_getD, this]
theorem inv_img (h : Pm n p) {i : Nat} (hi : i < n) : img p (img (invp p) i) = i := by
  have : img (invp p) i = p.findIdx fun x => decide (x = (i : Int)) := by unfold Pm.img; rw [h.inv_get hi]; rfl
  rw [this]; exact (h.find hi).2
theorem inv (h : Pm n p) : Pm n (invp p) := by
  refine mk' (by simp [invp, h.1]) (fun j hj => ⟨_, (h.find hj).1, h.inv_get hj⟩) fun i j hi hj e => ?_
  rw [← h.inv_img hi, ← h.inv_img hj, e]
theorem img_inv (h : Pm n p) {i : Nat} (hi : i < n) : img (invp p) (img p i) = i :=
  h.inj (h.inv.img_lt (h.img_lt hi)) hi (h.inv_img (h.img_lt hi))

theorem comp_inv (h : Pm n p) : Go.Pm.comp p (invp p) = Go.Pm.idn n :=
  (h.comp h.inv).ext_img (.idn n) fun i hi => by rw [h.cimg hi, h.img_inv hi, img_idn hi]
theorem inv_comp (h : Pm n p) : Go.Pm.comp (invp p) p = Go.Pm.idn n :=
  (h.inv.comp h).ext_img (.idn n) fun i hi => by rw [h.inv.cimg hi, h.inv_img hi, img_idn hi]
theorem comp_idn (h : Pm n p) : Go.Pm.comp p (Go.Pm.idn n) = p :=
  (h.comp (.idn n)).ext_img h fun i hi => by rw [h.cimg hi, img_idn (h.img_lt hi)]
theorem idn_comp (h : Pm n p) : Go.Pm.comp (Go.Pm.idn n) p = p :=
  ((Pm.idn n).comp h).ext_img h fun i hi => by rw [(Pm.idn n).cimg hi, img_idn hi]
theorem assoc (h : Pm n p) (k : Pm n q) (l : Pm n r) : Go.Pm.comp (Go.Pm.comp p q) r = Go.Pm.comp p (Go.Pm.comp q r) :=
  ((h.comp k).comp l).ext_img (h.comp (k.comp l)) fun i hi => by
    rw [(h.comp k).cimg hi, h.cimg hi, h.cimg hi, k.cimg (h.img_lt hi)]
theorem cancel (h : Pm n p) (k : Pm n q) : Go.Pm.comp (Go.Pm.comp p q) (invp q) = p := by
  rw [h.assoc k k.inv, k.comp_inv, h.comp_idn]
theorem cancel' (h : Pm n p) (k : Pm n q) : Go.Pm.comp (Go.Pm.comp p (invp q)) q = p := by
  rw [h.assoc k.inv k, k.inv_comp, h.comp_idn]
theorem right_inj (h : Pm n p) (k : Pm n q) (l : Pm n r) (e : Go.Pm.comp p r = Go.Pm.comp q r) : p = q := by
  rw [← h.cancel l, e, k.cancel l]
theorem inv_idn (n : Nat) : invp (Go.Pm.idn n) = Go.Pm.idn n := by
  have h := Pm.idn n
  have := h.comp_inv
  rwa [h.inv.idn_comp] at this
theorem inv_inv (h : Pm n p) : invp (invp p) = p := by
  refine h.inv.inv.right_inj h h.inv ?_
  rw [h.inv.inv_comp, h.comp_inv]
theorem inv_of_comp (h : Pm n p) (k : Pm n q) (e : Go.Pm.comp p q = Go.Pm.idn n) : p = invp q := by
  refine h.right_inj k.inv k ?_
  rw [e, k.inv_comp]
end Pm

/-- What is generated (products of generators, applied one after the other). -/
inductive Gen (n : Nat) (S : List (List Int)) : List Int → Prop
  | one : Gen n S (idn n)
  | mul {p g : List Int} : Gen n S p → g ∈ S → Gen n S (comp p g)

section
variable {n : Nat} {S S' : List (List Int)} {p q : List Int}
theorem Gen.pm (hS : ∀ g ∈ S, Pm n g) (h : Gen n S p) : Pm n p := by
  induction h with
  | one => exact .idn n
  | mul _ hg ih => exact ih.comp (hS _ hg)
theorem Gen.prod (hS : ∀ g ∈ S, Pm n g) (h : Gen n S p) (k : Gen n S q) : Gen n S (comp p q) := by
  induction k with
  | one => rw [(h.pm hS).comp_idn]; exact h
  | mul k hg ih => rw [← (h.pm hS).assoc (k.pm hS) (hS _ hg)]; exact ih.mul hg
theorem Gen.of (hS : ∀ g ∈ S, Pm n g) (h : p ∈ S) : Gen n S p := by
  have := (Gen.one (n := n) (S := S)).mul h
  rwa [(hS _ h).idn_comp] at this
theorem Gen.sub (hS : ∀ g ∈ S', Pm n g) (hs : ∀ g ∈ S, Gen n S' g) (h : Gen n S p) : Gen n S' p := by
  induction h with
  | one => exact .one
  | mul _ hg ih => exact ih.prod hS (hs _ hg)
theorem Gen.mono (hs : ∀ g ∈ S, g ∈ S') (h : Gen n S p) : Gen n S' p := by
  induction h with
  | one => exact .one
  | mul _ hg ih => exact ih.mul (hs _ hg)
end
end Go.Pm
end
/- Words: free reduction, runs of letters, their lengths; plain. -/
section
namespace Go.Wd
set_option linter.unusedVariables false
set_option linter.unusedSimpArgs false
/-- One letter more: it is taken off with its inverse, or laid on. -/
def frS (o : List Int) (l : Int) : List Int := if 0 < o.length ∧ o.getD (o.length - 1) 0 = -l then o.take (o.length - 1) else o ++ [l]
def fr (w : List Int) : List Int := w.foldl frS []
def inv (w : List Int) : List Int := (w.map (- ·)).reverse
/-- The runs of the first k letters. -/
def runsK (al : Int → Int → Bool) (w : List Int) : Nat → List (List Int)
  | 0 => []
  | k + 1 => if 0 < k ∧ al (w.getD (k - 1) 0) (w.getD k 0) = true then (runsK al w k).set ((runsK al w k).length - 1) ((runsK al w k).getD ((runsK al w k).length - 1) [] ++ [w.getD k 0]) else runsK al w k ++ [[w.getD k 0]]
end Go.Wd
end
/- The cycles of a permutation, and its order; plain. -/
section
namespace Go.Pm
set_option linter.unusedVariables false
set_option linter.unusedSimpArgs false
/-- Where a point is behind k steps. -/
def itr (p : List Int) (i : Nat) : Nat → Nat
  | 0 => i
  | k + 1 => img p (itr p i k)
/-- How long the cycle of a point is. -/
def clen (p : List Int) (i : Nat) : Nat := (List.range p.length).findIdx (fun k => decide (itr p i (k + 1) = i)) + 1
/-- The cycle of a point, the point first. -/
def cyc (p : List Int) (i : Nat) : List Int := (List.range (clen p i)).map fun k => ((itr p i k : Nat) : Int)
/-- The point is the least of its cycle. -/
def isMn (p : List Int) (i : Nat) : Bool := decide (∀ k, k < clen p i → i ≤ itr p i k)
def cycs (p : List Int) : List (List Int) := ((List.range p.length).filter fun i => isMn p i && decide (1 < clen p i)).map (cyc p)
def lcmL (l : List Nat) : Nat := l.foldl Nat.lcm 1
/-- The order of a permutation. -/
def ord (p : List Int) : Nat := lcmL ((List.range p.length).map (clen p))
theorem cyc_length (p : List Int) (i : Nat) : (cyc p i).length = clen p i := by simp [cyc]
theorem clen_pos (p : List Int) (i : Nat) : 0 < clen p i := Nat.succ_pos _
theorem cyc_get (p : List Int) (i : Nat) {k : Nat} (h : k < clen p i) : (cyc p i).getD k 0 = ((itr p i k : Nat) : Int) := by
  simp [cyc, List.getD_eq_getElem?_getD, h]
theorem itr_add (p : List Int) (i a : Nat) : ∀ b, itr p i (a + b) = itr p (itr p i a) b
  | 0 => rfl
  | b + 1 => by
    show img p (itr p i (a + b)) = img p (itr p (itr p i a) b)
    rw [itr_add p i a b]
section
variable {n : Nat} {p : List Int} {i j : Nat}
theorem itr_lt (h : Pm n p) (hi : i < n) : ∀ k, itr p i k < n
  | 0 => hi
  | k + 1 => h.img_lt (itr_lt h hi k)
theorem itr_inj (h : Pm n p) (hi : i < n) (hj : j < n) : ∀ k, itr p i k = itr p j k → i = j
  | 0, e => e
  | k + 1, e => itr_inj h hi hj k (h.inj (itr_lt h hi k) (itr_lt h hj k) e)
theorem itr_sub (h : Pm n p) (hi : i < n) {a b : Nat} (hab : a ≤ b) (e : itr p i a = itr p i b) : itr p i (b - a) = i := by
  have e1 : itr p i b = itr p (itr p i (b - a)) a := by rw [← itr_add, Nat.sub_add_cancel hab]
  exact (itr_inj h hi (itr_lt h hi _) a (e.trans e1)).symm
theorem itr_ret (h : Pm n p) (hi : i < n) : ∃ k, k < n ∧ itr p i (k + 1) = i := by
  refine Classical.byContradiction fun hc => ?_
  have hno : ∀ k, 0 < k → k ≤ n → itr p i k ≠ i := fun k h0 hk e => hc ⟨k - 1, by omega, by rw [Nat.sub_add_cancel h0]; exact e⟩
  have hnd : ((List.range (n + 1)).map (itr p i)).Nodup := by
    rw [List.nodup_iff_pairwise_ne, List.pairwise_map]
    refine List.Pairwise.imp_of_mem (R := fun a b => a ≠ b) ?_ (List.nodup_iff_pairwise_ne.1 List.nodup_range)
    intro a b ha hb hne e
    have ha' : a < n + 1 := by simpa using ha
    have hb' : b < n + 1 := by simpa using hb
    rcases Nat.lt_or_gt_of_ne hne with hl | hl
    · exact hno (b - a) (by omega) (by omega) (itr_sub h hi (by omega) e)
    · exact hno (a - b) (by omega) (by omega) (itr_sub h hi (by omega) e.symm)
  have := Go.Plain.nodup_le (List.range n) _ hnd fun x hx => by
    obtain ⟨k, _, rfl⟩ := List.mem_map.1 hx
    exact List.mem_range.2 (itr_lt h hi k)
  simp at this
  omega
theorem clen_ok (h : Pm n p) (hi : i < n) : clen p i ≤ n ∧ itr p i (clen p i) = i ∧ ∀ k, 0 < k → k < clen p i → itr p i k ≠ i := by
  obtain ⟨k, hk, e⟩ := itr_ret h hi
  have hlt : (List.range p.length).findIdx (fun k => decide (itr p i (k + 1) = i)) < (List.range p.length).length := by
    rw [List.findIdx_lt_length]
    exact ⟨k, List.mem_range.2 (by rw [h.1]; exact hk), by simpa using e⟩
  have hget := List.findIdx_getElem (w := hlt)
  simp only [List.getElem_range, decide_eq_true_eq] at hget
  refine ⟨?_, hget, fun m h0 hm e => ?_⟩
  · rw [List.length_range] at hlt
    have := h.1
    unfold clen; omega
  · unfold clen at hm
    have h1 := List.not_of_lt_findIdx (p := fun k => decide (itr p i (k + 1) = i)) (xs := List.range p.length) (i := m - 1) (by omega)
    simp only [List.getElem_range, decide_eq_true_eq] at h1
    rw [Nat.sub_add_cancel h0] at h1
    simp [e] at h1
theorem itr_mul (h : Pm n p) (hi : i < n) : ∀ q, itr p i (clen p i * q) = i
  | 0 => rfl
  | q + 1 => by rw [Nat.mul_succ, itr_add, itr_mul h hi q]; exact (clen_ok h hi).2.1
theorem itr_back (h : Pm n p) (hi : i < n) (k : Nat) : ∃ m, itr p (itr p i k) m = i := by
  refine ⟨clen p i * (k + 1) - k, ?_⟩
  have : k ≤ clen p i * (k + 1) := Nat.le_trans (Nat.le_succ k) (Nat.le_mul_of_pos_left _ (clen_pos p i))
  rw [← itr_add, Nat.add_sub_cancel' this, itr_mul h hi]
end
section
variable {n : Nat} {p : List Int} {i j : Nat}
end
end Go.Pm
end
/- Orbits of points: where generators bring a point; the search by generators; orbits in order; plain. -/
section
namespace Go.Pm
set_option linter.unusedVariables false
set_option linter.unusedSimpArgs false
/-- Where a point comes by generators. -/
inductive Rch (gs : List (List Int)) (x : Nat) : Nat → Prop
  | refl : Rch gs x x
  | step {y : Nat} {g : List Int} : Rch gs x y → g ∈ gs → Rch gs x (img g y)
section
variable {n : Nat} {gs : List (List Int)} {x y z : Nat}
theorem Rch.lt (hg : ∀ g ∈ gs, Pm n g) (hx : x < n) (h : Rch gs x y) : y < n := by
  induction h with
  | refl => exact hx
  | step _ hm ih => exact (hg _ hm).img_lt ih
theorem Rch.trans (h : Rch gs x y) (k : Rch gs y z) : Rch gs x z := by
  induction k with
  | refl => exact h
  | step _ hm ih => exact .step ih hm
theorem Rch.itr {g : List Int} (hm : g ∈ gs) (h : Rch gs x y) : ∀ k, Rch gs x (itr g y k)
  | 0 => h
  | k + 1 => .step (Rch.itr hm h k) hm
theorem Rch.back {g : List Int} (hg : ∀ g ∈ gs, Pm n g) (hy : y < n) (hm : g ∈ gs) : Rch gs (img g y) y := by
  obtain ⟨m, hm2⟩ := itr_back (hg g hm) hy 1
  have := Rch.itr hm (.refl (x := img g y)) m
  have e : Go.Pm.itr g (img g y) m = y := hm2
  rwa [e] at this
theorem Rch.symm (hg : ∀ g ∈ gs, Pm n g) (hx : x < n) (h : Rch gs x y) : Rch gs y x := by
  induction h with
  | refl => exact .refl
  | step h hm ih => exact (Rch.back hg (h.lt hg hx) hm).trans ih
theorem Rch.inv {g : List Int} (hg : ∀ g ∈ gs, Pm n g) (hy : y < n) (hm : g ∈ gs) (h : Rch gs x y) : Rch gs x (img (invp g) y) := by
  have hp := hg g hm
  have h1 : img (invp g) y < n := hp.inv.img_lt hy
  have h2 := Rch.back hg h1 hm
  rw [hp.inv_img hy] at h2
  exact h.trans h2
end
/-- The class of a point by a relation, in order. -/
noncomputable def clsN (n : Nat) (R : Nat → Nat → Prop) (x : Nat) : List Nat := (List.range n).filter fun y => @decide (R x y) (Classical.propDecidable _)
noncomputable def clsF (n : Nat) (R : Nat → Nat → Prop) (x : Nat) : List Int := (clsN n R x).map fun y : Nat => (y : Int)
/-- The point is the least of its class. -/
noncomputable def loR (R : Nat → Nat → Prop) (x : Nat) : Bool := @decide (∀ y, y < x → ¬ R y x) (Classical.propDecidable _)
/-- All classes whose least points are below k. -/
noncomputable def partK (n : Nat) (R : Nat → Nat → Prop) (k : Nat) : List (List Int) := ((List.range k).filter (loR R)).map (clsF n R)
section
variable {n : Nat} {R R' : Nat → Nat → Prop} {x y : Nat}
theorem mem_clsN : y ∈ clsN n R x ↔ y < n ∧ R x y := by unfold clsN; rw [List.mem_filter, List.mem_range]; simp
theorem clsN_len : (clsN n R x).length ≤ n := by
  have := List.length_filter_le (fun y => @decide (R x y) (Classical.propDecidable _)) (List.range n)
  rwa [List.length_range] at this
theorem clsF_len : (clsF n R x).length ≤ n := by unfold clsF; rw [List.length_map]; exact clsN_len
theorem mem_clsF {v : Int} : v ∈ clsF n R x ↔ ∃ y : Nat, v = (y : Int) ∧ y < n ∧ R x y := by
  unfold clsF
  rw [List.mem_map]
  exact ⟨fun ⟨y, h, e⟩ => ⟨y, e.symm, mem_clsN.1 h⟩, fun ⟨y, e, h⟩ => ⟨y, mem_clsN.2 h, e.symm⟩⟩
theorem clsF_asc : (clsF n R x).Pairwise (· < ·) := by
  unfold clsF
  rw [List.pairwise_map]
  have : (clsN n R x).Pairwise (· < ·) := List.pairwise_lt_range.filter _
  exact this.imp fun h => by omega
theorem clsF_congr (h : ∀ y, y < n → (R x y ↔ R' x y)) : clsF n R x = clsF n R' x := by
  unfold clsF clsN
  congr 1
  refine List.filter_congr fun y hy => ?_
  have := h y (List.mem_range.1 hy)
  exact Bool.eq_iff_iff.2 ((@decide_eq_true_iff _ (Classical.propDecidable _)).trans (this.trans (@decide_eq_true_iff _ (Classical.propDecidable _)).symm))
theorem loR_iff (R : Nat → Nat → Prop) (x : Nat) : loR R x = true ↔ ∀ y, y < x → ¬ R y x := by unfold loR; exact @decide_eq_true_iff _ (Classical.propDecidable _)
theorem partK_succ (n : Nat) (R : Nat → Nat → Prop) (k : Nat) : partK n R (k + 1) = if loR R k = true then partK n R k ++ [clsF n R k] else partK n R k := by
  unfold partK
  rw [List.range_succ, List.filter_append, List.map_append]
  by_cases h : loR R k = true
  · rw [if_pos h]; simp [h]
  · rw [if_neg h]; simp [h]
theorem partK_len (n : Nat) (R : Nat → Nat → Prop) (k : Nat) : (partK n R k).length ≤ k := by
  unfold partK
  rw [List.length_map]
  have := List.length_filter_le (loR R) (List.range k)
  rwa [List.length_range] at this
theorem mem_partK {b : List Int} {k : Nat} : b ∈ partK n R k ↔ ∃ x, x < k ∧ loR R x = true ∧ b = clsF n R x := by
  unfold partK
  rw [List.mem_map]
  exact ⟨fun ⟨x, h, e⟩ => by rw [List.mem_filter, List.mem_range] at h; exact ⟨x, h.1, h.2, e.symm⟩, fun ⟨x, h1, h2, e⟩ => ⟨x, by rw [List.mem_filter, List.mem_range]; exact ⟨h1, h2⟩, e.symm⟩⟩
theorem partK_congr (h : ∀ x y, x < n → y < n → (R x y ↔ R' x y)) {k : Nat} (hk : k ≤ n) : partK n R k = partK n R' k := by
  induction k with
  | zero => rfl
  | succ k ih =>
    rw [partK_succ, partK_succ, ih (by omega), clsF_congr (fun y hy => h k y (by omega) hy)]
    have : loR R k = loR R' k := by
      rw [Bool.eq_iff_iff, loR_iff, loR_iff]
      exact ⟨fun h1 y hy k1 => h1 y hy ((h y k (by omega) (by omega)).2 k1), fun h1 y hy k1 => h1 y hy ((h y k (by omega) (by omega)).1 k1)⟩
    rw [this]
end
/-- The orbit of a point, in order. -/
noncomputable abbrev orbF (n : Nat) (gs : List (List Int)) (x : Nat) : List Int := clsF n (Rch gs) x
/-- Two ascending lists with the same members are one. -/
theorem asc_ext : ∀ {a b : List Int}, a.Pairwise (· < ·) → b.Pairwise (· < ·) → (∀ v, v ∈ a ↔ v ∈ b) → a = b
  | [], [], _, _, _ => rfl
  | [], y :: b, _, _, h => absurd ((h y).2 (List.mem_cons_self ..)) (by simp)
  | x :: a, [], _, _, h => absurd ((h x).1 (List.mem_cons_self ..)) (by simp)
  | x :: a, y :: b, ha, hb, h => by
    obtain ⟨ha1, ha2⟩ := List.pairwise_cons.1 ha
    obtain ⟨hb1, hb2⟩ := List.pairwise_cons.1 hb
    have e : x = y := by
      rcases List.mem_cons.1 ((h x).1 (List.mem_cons_self ..)) with e | h1
      · exact e
      · rcases List.mem_cons.1 ((h y).2 (List.mem_cons_self ..)) with e | h2
        · exact e.symm
        · have := hb1 x h1; have := ha1 y h2; omega
    subst e
    congr 1
    refine asc_ext ha2 hb2 fun v => ⟨fun hv => ?_, fun hv => ?_⟩
    · rcases List.mem_cons.1 ((h v).1 (List.mem_cons_of_mem _ hv)) with e | h1
      · have := ha1 v hv; omega
      · exact h1
    · rcases List.mem_cons.1 ((h v).2 (List.mem_cons_of_mem _ hv)) with e | h1
      · have := hb1 v hv; omega
      · exact h1
/-- A number put in its place. -/
def insS (n : Int) : List Int → List Int
  | [] => [n]
  | v :: l => if v < n then v :: insS n l else if v = n then v :: l else n :: v :: l
def sortS (l : List Int) : List Int := l.foldl (fun o v => insS v o) []
/-- One point's row of the search: its images by the first k generators. -/
def rowO (gs : List (List Int)) (f : List Int) (y : Nat) : Nat → List Int
  | 0 => f
  | k + 1 => if (gs.getD k []).getD y 0 ∈ rowO gs f y k then rowO gs f y k else rowO gs f y k ++ [(gs.getD k []).getD y 0]
/-- The search when i points have had their row. -/
def runO (gs : List (List Int)) (x : Nat) : Nat → List Int
  | 0 => [(x : Int)]
  | i + 1 => if i < (runO gs x i).length then rowO gs (runO gs x i) ((runO gs x i).getD i 0).toNat gs.length else runO gs x i
/-- What holds of the points found, of which i have had their row, the next one that of k generators. -/
structure JO (n : Nat) (gs : List (List Int)) (x i k : Nat) (f : List Int) : Prop where
  nd : f.Nodup
  pts : ∀ v ∈ f, ∃ y : Nat, v = (y : Int) ∧ y < n ∧ Rch gs x y
  x0 : (x : Int) ∈ f
  cl : ∀ j, j < i → ∀ g ∈ gs, g.getD (f.getD j 0).toNat 0 ∈ f
  row : i < f.length → ∀ m, m < k → (gs.getD m []).getD (f.getD i 0).toNat 0 ∈ f
  le : i ≤ f.length
section
variable {n : Nat} {gs : List (List Int)} {x i k : Nat} {f : List Int}
theorem JO.get (h : JO n gs x i k f) {j : Nat} (hj : j < f.length) : ∃ y : Nat, f.getD j 0 = (y : Int) ∧ y < n ∧ Rch gs x y := h.pts _ (by
  rw [List.getD_eq_getElem?_getD, List.getElem?_eq_getElem hj]; exact List.getElem_mem hj)
theorem JO.len (h : JO n gs x i k f) : f.length ≤ n := by
  have := Go.Plain.nodup_le ((List.range n).map fun y : Nat => (y : Int)) f h.nd fun v hv => by
    obtain ⟨y, rfl, hy, _⟩ := h.pts v hv
    exact List.mem_map.2 ⟨y, List.mem_range.2 hy, rfl⟩
  simpa using this
theorem JO.step (hg : ∀ g ∈ gs, Pm n g) (hx : x < n) (h : JO n gs x i k f) (hi : i < f.length) (hk : k < gs.length) :
    JO n gs x i (k + 1) (if (gs.getD k []).getD (f.getD i 0).toNat 0 ∈ f then f else f ++ [(gs.getD k []).getD (f.getD i 0).toNat 0]) := by
  have hgk : gs.getD k [] = gs[k] := by simp [hk]
  have hmem : gs.getD k [] ∈ gs := by rw [hgk]; exact List.getElem_mem hk
  obtain ⟨y, ey, hy, hr⟩ := h.get hi
  have ey2 : (f.getD i 0).toNat = y := by omega
  have hp := hg _ hmem
  split
  · rename_i hm
    refine ⟨h.nd, h.pts, h.x0, h.cl, fun hi m hm2 => ?_, h.le⟩
    by_cases e : m = k
    · subst e; exact hm
    · exact h.row hi m (by omega)
  · rename_i hm
    have gd : ∀ j, j < f.length → (f ++ [(gs.getD k []).getD (f.getD i 0).toNat 0]).getD j 0 = f.getD j 0 := fun j hj => by
      simp [List.getD_eq_getElem?_getD, List.getElem?_append, hj]
    refine ⟨?_, fun v hv => ?_, List.mem_append_left _ h.x0, fun j hj g hgm => ?_, fun _ m hm2 => ?_, by rw [List.length_append]; omega⟩
    · rw [List.nodup_append]
      exact ⟨h.nd, by simp, fun a ha b hb e => by rw [List.mem_singleton] at hb; subst hb; subst e; exact hm ha⟩
    · rcases List.mem_append.1 hv with h1 | h1
      · exact h.pts v h1
      · rw [List.mem_singleton] at h1
        refine ⟨img (gs.getD k []) y, ?_, hp.img_lt hy, .step hr hmem⟩
        rw [h1, ey2]; exact hp.get_eq hy
    · rw [gd j (by have := h.le; omega)]
      exact List.mem_append_left _ (h.cl j hj g hgm)
    · rw [gd i hi]
      by_cases e : m = k
      · subst e; exact List.mem_append_right _ (by simp)
      · exact List.mem_append_left _ (h.row hi m (by omega))
theorem rowO_pre (gs : List (List Int)) (f : List Int) (y : Nat) : ∀ k, ∃ r, rowO gs f y k = f ++ r
  | 0 => ⟨[], by simp [rowO]⟩
  | k + 1 => by
    obtain ⟨r, e⟩ := rowO_pre gs f y k
    unfold rowO
    split
    · exact ⟨r, e⟩
    · exact ⟨r ++ [(gs.getD k []).getD y 0], by rw [e, List.append_assoc]⟩
theorem rowO_get {y : Nat} (k : Nat) {j : Nat} (hj : j < f.length) : (rowO gs f y k).getD j 0 = f.getD j 0 := by
  obtain ⟨r, e⟩ := rowO_pre gs f y k
  rw [e]; simp [List.getD_eq_getElem?_getD, List.getElem?_append, hj]
theorem rowO_len {y : Nat} (k : Nat) : f.length ≤ (rowO gs f y k).length := by
  obtain ⟨r, e⟩ := rowO_pre gs f y k
  rw [e, List.length_append]; omega
theorem JO.rows (hg : ∀ g ∈ gs, Pm n g) (hx : x < n) (h : JO n gs x i 0 f) (hi : i < f.length) : ∀ k, k ≤ gs.length → JO n gs x i k (rowO gs f (f.getD i 0).toNat k)
  | 0, _ => h
  | k + 1, hk => by
    have ih := JO.rows hg hx h hi k (by omega)
    have hl := rowO_len (gs := gs) (f := f) (y := (f.getD i 0).toNat) k
    have := ih.step hg hx (by omega) (by omega)
    rw [rowO_get k hi] at this
    unfold rowO
    exact this
theorem JO.next (h : JO n gs x i gs.length f) (hi : i < f.length) : JO n gs x (i + 1) 0 f := by
  refine ⟨h.nd, h.pts, h.x0, fun j hj g hgm => ?_, fun _ m hm => by omega, by omega⟩
  by_cases e : j = i
  · subst e
    obtain ⟨m, hm, rfl⟩ := List.getElem_of_mem hgm
    have := h.row hi m hm
    rwa [show gs.getD m [] = gs[m] by simp [hm]] at this
  · exact h.cl j (by omega) g hgm
theorem JO.zero (hx : x < n) : JO n gs x 0 0 (runO gs x 0) :=
  ⟨by simp [runO], fun v hv => ⟨x, by simpa [runO] using hv, hx, .refl⟩, by simp [runO], fun j hj => by omega, fun _ m hm => by omega, Nat.zero_le _⟩
end
end Go.Pm
end
/- Labels of points, merging them, and the least relation that goes with generators; plain. -/
section
namespace Go.Pm
set_option linter.unusedVariables false
set_option linter.unusedSimpArgs false
/-- The least relation that holds B and goes with the generators. -/
inductive Cg (gs : List (List Int)) (B : Nat → Nat → Prop) : Nat → Nat → Prop
  | base {a b : Nat} : B a b → Cg gs B a b
  | refl {a : Nat} : Cg gs B a a
  | symm {a b : Nat} : Cg gs B a b → Cg gs B b a
  | trans {a b c : Nat} : Cg gs B a b → Cg gs B b c → Cg gs B a c
  | act {a b : Nat} {g : List Int} : g ∈ gs → Cg gs B a b → Cg gs B (img g a) (img g b)
/-- Two points bear one label. -/
def SL (L : List Int) (i j : Nat) : Prop := L.getD i 0 = L.getD j 0
instance (L : List Int) (i j : Nat) : Decidable (SL L i j) := by unfold SL; infer_instance
/-- All points with label b take the label a. -/
def mrg (L : List Int) (a b : Int) : List Int := L.map fun v => if v = b then a else v
theorem mrg_length (L : List Int) (a b : Int) : (mrg L a b).length = L.length := by simp [mrg]
theorem mrg_get (L : List Int) (a b : Int) {i : Nat} (h : i < L.length) : (mrg L a b).getD i 0 = if L.getD i 0 = b then a else L.getD i 0 := by
  simp [mrg, List.getD_eq_getElem?_getD, h]
/-- Labels of n points, each one of them. -/
structure Lbl (n : Nat) (L : List Int) : Prop where
  len : L.length = n
  rng : ∀ i, i < n → 0 ≤ L.getD i 0 ∧ L.getD i 0 < n
def cntL (n : Nat) (L : List Int) : Nat := ((List.range n).filter fun v : Nat => decide ((v : Int) ∈ L)).length
section
variable {n : Nat} {L : List Int} {gs : List (List Int)} {B : Nat → Nat → Prop} {a b : Int}
theorem Lbl.mrg (h : Lbl n L) (ha : 0 ≤ a ∧ a < n) : Lbl n (mrg L a b) :=
  ⟨by rw [mrg_length, h.len], fun i hi => by rw [mrg_get _ _ _ (by rw [h.len]; exact hi)]; split; exact ha; exact h.rng i hi⟩
theorem Lbl.idn (n : Nat) : Lbl n (idn n) := ⟨idn_length n, fun i hi => by rw [idn_get hi]; omega⟩
theorem Lbl.mem (h : Lbl n L) {i : Nat} (hi : i < n) : L.getD i 0 ∈ L := by
  rw [List.getD_eq_getElem?_getD, List.getElem?_eq_getElem (by rw [h.len]; exact hi)]; exact List.getElem_mem _
theorem cntL_mrg (h : Lbl n L) {i j : Nat} (hi : i < n) (hj : j < n) (hne : L.getD i 0 ≠ L.getD j 0) : cntL n (mrg L (L.getD i 0) (L.getD j 0)) < cntL n L := by
  have hr := h.rng j hj
  have key := Go.Plain.nodup_le ((List.range n).filter fun v : Nat => decide ((v : Int) ∈ L)) ((L.getD j 0).toNat :: (List.range n).filter fun v : Nat => decide ((v : Int) ∈ Go.Pm.mrg L (L.getD i 0) (L.getD j 0)))
    (by
      refine List.nodup_cons.2 ⟨fun hm => ?_, List.nodup_range.filter _⟩
      rw [List.mem_filter, decide_eq_true_eq] at hm
      have h2 := hm.2
      unfold Go.Pm.mrg at h2
      obtain ⟨v, _, e⟩ := List.mem_map.1 h2
      have e1 : (((L.getD j 0).toNat : Nat) : Int) = L.getD j 0 := by omega
      rw [e1] at e
      split at e
      · exact hne e
      · contradiction)
    (fun v hv => by
      rw [List.mem_filter, List.mem_range, decide_eq_true_eq]
      rcases List.mem_cons.1 hv with rfl | hv
      · refine ⟨by omega, ?_⟩
        rw [show (((L.getD j 0).toNat : Nat) : Int) = L.getD j 0 by omega]
        exact h.mem hj
      · rw [List.mem_filter, List.mem_range, decide_eq_true_eq] at hv
        refine ⟨hv.1, ?_⟩
        have h2 := hv.2
        unfold Go.Pm.mrg at h2
        obtain ⟨u, hu, e⟩ := List.mem_map.1 h2
        split at e
        · rw [← e]; exact h.mem hi
        · rw [← e]; exact hu)
  unfold cntL
  simp only [List.length_cons] at key
  omega
/-- Points of one label are related. -/
def Snd (n : Nat) (gs : List (List Int)) (B : Nat → Nat → Prop) (L : List Int) : Prop := ∀ i j, i < n → j < n → SL L i j → Cg gs B i j
theorem Snd.idn : Snd n gs B (idn n) := fun i j hi hj e => by
  unfold SL at e
  rw [idn_get hi, idn_get hj] at e
  have : i = j := by omega
  subst this; exact .refl
theorem Snd.mrg (h : Snd n gs B L) (hl : L.length = n) {u v : Nat} (hu : u < n) (hv : v < n) (hr : Cg gs B u v) : Snd n gs B (mrg L (L.getD u 0) (L.getD v 0)) := fun i j hi hj e => by
  unfold SL at e
  rw [mrg_get _ _ _ (by omega), mrg_get _ _ _ (by omega)] at e
  have hv' : ∀ i, i < n → L.getD i 0 = L.getD v 0 → Cg gs B i u := fun i hi e => (h i v hi hv e).trans hr.symm
  split at e
  · rename_i e1
    split at e
    · rename_i e2; exact (hv' i hi e1).trans (hv' j hj e2).symm
    · exact (hv' i hi e1).trans (h u j hu hj e)
  · split at e
    · rename_i e2; exact (h i u hi hu e).trans (hv' j hj e2).symm
    · exact h i j hi hj e
theorem SL.mrg (hl : L.length = n) {i j : Nat} (hi : i < n) (hj : j < n) (h : SL L i j) (a b : Int) : SL (mrg L a b) i j := by
  unfold SL at *
  rw [mrg_get _ _ _ (by omega), mrg_get _ _ _ (by omega), h]
theorem SL.made (hl : L.length = n) {i j : Nat} (hi : i < n) (hj : j < n) : SL (Go.Pm.mrg L (L.getD i 0) (L.getD j 0)) i j := by
  unfold SL
  rw [mrg_get _ _ _ (by omega), mrg_get _ _ _ (by omega), if_pos rfl]
  split
  · rfl
  · rfl
/-- Labels that hold B and go with the generators name the least such relation. -/
theorem Cg.iff (hg : ∀ g ∈ gs, Pm n g) (hB : ∀ a b, B a b → a < n ∧ b < n ∧ SL L a b) (hs : Snd n gs B L) (hc : ∀ g ∈ gs, ∀ i j, i < n → j < n → SL L i j → SL L (img g i) (img g j)) {i j : Nat} (hi : i < n) (hj : j < n) :
    SL L i j ↔ Cg gs B i j := by
  refine ⟨hs i j hi hj, fun h => ?_⟩
  have key : ∀ {a b : Nat}, Cg gs B a b → a = b ∨ (a < n ∧ b < n ∧ SL L a b) := by
    intro a b h
    induction h with
    | base h => exact .inr (hB _ _ h)
    | refl => exact .inl rfl
    | symm _ ih =>
      rcases ih with rfl | ⟨h1, h2, h3⟩
      · exact .inl rfl
      · exact .inr ⟨h2, h1, h3.symm⟩
    | trans _ _ ih1 ih2 =>
      rcases ih1 with rfl | ⟨h1, h2, h3⟩
      · exact ih2
      · rcases ih2 with rfl | ⟨k1, k2, k3⟩
        · exact .inr ⟨h1, h2, h3⟩
        · exact .inr ⟨h1, k2, h3.trans k3⟩
    | act hm _ ih =>
      rcases ih with rfl | ⟨h1, h2, h3⟩
      · exact .inl rfl
      · exact .inr ⟨(hg _ hm).img_lt h1, (hg _ hm).img_lt h2, hc _ hm _ _ h1 h2 h3⟩
  rcases key h with rfl | h
  · rfl
  · exact h.2.2
end
/-- Points of one block. -/
def SB (bs : List (List Int)) (i j : Nat) : Prop := ∃ b ∈ bs, (i : Int) ∈ b ∧ (j : Int) ∈ b
/-- The blocks part the points 0 .. n-1, each block and the blocks' first points ascending. -/
structure IsPart (n : Nat) (bs : List (List Int)) : Prop where
  ne : ∀ b ∈ bs, b ≠ []
  asc : ∀ b ∈ bs, b.Pairwise (· < ·)
  rng : ∀ b ∈ bs, ∀ v ∈ b, 0 ≤ v ∧ v < n
  fst : ∀ i, i + 1 < bs.length → (bs.getD i []).getD 0 0 < (bs.getD (i + 1) []).getD 0 0
  dis : ∀ i j, i < bs.length → j < bs.length → ∀ v, v ∈ bs.getD i [] → v ∈ bs.getD j [] → i = j
  all : ∀ x, x < n → ∃ b ∈ bs, (x : Int) ∈ b
structure Eqv (n : Nat) (R : Nat → Nat → Prop) : Prop where
  refl : ∀ x, x < n → R x x
  symm : ∀ x y, x < n → y < n → R x y → R y x
  trans : ∀ x y z, x < n → y < n → z < n → R x y → R y z → R x z
section
variable {n : Nat} {bs : List (List Int)} {R : Nat → Nat → Prop}
theorem head_lt : ∀ {b : List Int}, b.Pairwise (· < ·) → ∀ v ∈ b, b.getD 0 0 ≤ v
  | [], _, v, h => by cases h
  | u :: b, h, v, hv => by
    rcases List.mem_cons.1 hv with e | h1
    · subst e; exact Int.le_refl _
    · have := (List.pairwise_cons.1 h).1 v h1
      show u ≤ v
      omega
theorem head_mem : ∀ {b : List Int}, b ≠ [] → b.getD 0 0 ∈ b
  | [], h => absurd rfl h
  | u :: b, _ => List.mem_cons_self ..
theorem fst_lt (h : IsPart n bs) : ∀ {i j : Nat}, i < j → j < bs.length → (bs.getD i []).getD 0 0 < (bs.getD j []).getD 0 0 := by
  intro i j hij
  induction j with
  | zero => omega
  | succ j ih =>
    intro hj
    have h1 := h.fst j hj
    by_cases e : i = j
    · subst e; exact h1
    · have := ih (by omega) (by omega); omega
theorem getD_mem {b : List Int} {i : Nat} (hi : i < bs.length) : bs.getD i [] ∈ bs := by
  rw [List.getD_eq_getElem?_getD, List.getElem?_eq_getElem hi]; exact List.getElem_mem hi
theorem row_at {b : List Int} (h : b ∈ bs) : ∃ i, i < bs.length ∧ bs.getD i [] = b := by
  obtain ⟨i, hi, rfl⟩ := List.getElem_of_mem h
  exact ⟨i, hi, by simp [hi]⟩
theorem IsPart.eqv (h : IsPart n bs) : Eqv n (SB bs) :=
  ⟨fun x hx => let ⟨b, hb, hm⟩ := h.all x hx; ⟨b, hb, hm, hm⟩, fun x y _ _ ⟨b, hb, h1, h2⟩ => ⟨b, hb, h2, h1⟩, fun x y z _ _ _ ⟨b, hb, h1, h2⟩ ⟨c, hc, k1, k2⟩ => by
    obtain ⟨i, hi, rfl⟩ := row_at hb
    obtain ⟨j, hj, rfl⟩ := row_at hc
    have := h.dis i j hi hj y h2 k1
    subst this
    exact ⟨_, hb, h1, k2⟩⟩
/-- The block of a point. -/
theorem IsPart.cls (h : IsPart n bs) {b : List Int} (hb : b ∈ bs) {x : Nat} (hx : (x : Int) ∈ b) : clsF n (SB bs) x = b := by
  refine asc_ext clsF_asc (h.asc b hb) fun v => ⟨fun hv => ?_, fun hv => ?_⟩
  · obtain ⟨y, rfl, hy, c, hc, h1, h2⟩ := mem_clsF.1 hv
    obtain ⟨i, hi, rfl⟩ := row_at hb
    obtain ⟨j, hj, rfl⟩ := row_at hc
    have := h.dis i j hi hj x hx h1
    subst this; exact h2
  · have hr := h.rng b hb v hv
    exact mem_clsF.2 ⟨v.toNat, by omega, by omega, b, hb, hx, by rw [show ((v.toNat : Nat) : Int) = v by omega]; exact hv⟩
theorem asc_list {α : Type} (f : α → Int) : ∀ {a b : List α}, a.Pairwise (fun x y => f x < f y) → b.Pairwise (fun x y => f x < f y) → (∀ v, v ∈ a ↔ v ∈ b) → a = b
  | [], [], _, _, _ => rfl
  | [], y :: b, _, _, h => absurd ((h y).2 (List.mem_cons_self ..)) (by simp)
  | x :: a, [], _, _, h => absurd ((h x).1 (List.mem_cons_self ..)) (by simp)
  | x :: a, y :: b, ha, hb, h => by
    obtain ⟨ha1, ha2⟩ := List.pairwise_cons.1 ha
    obtain ⟨hb1, hb2⟩ := List.pairwise_cons.1 hb
    have e : x = y := by
      rcases List.mem_cons.1 ((h x).1 (List.mem_cons_self ..)) with e | h1
      · exact e
      · rcases List.mem_cons.1 ((h y).2 (List.mem_cons_self ..)) with e | h2
        · exact e.symm
        · have := hb1 x h1; have := ha1 y h2; omega
    subst e
    congr 1
    refine asc_list f ha2 hb2 fun v => ⟨fun hv => ?_, fun hv => ?_⟩
    · rcases List.mem_cons.1 ((h v).1 (List.mem_cons_of_mem _ hv)) with e | h1
      · have := ha1 v hv; subst e; omega
      · exact h1
    · rcases List.mem_cons.1 ((h v).2 (List.mem_cons_of_mem _ hv)) with e | h1
      · have := hb1 v hv; subst e; omega
      · exact h1
theorem Eqv.lo (h : Eqv n R) : ∀ {x : Nat}, x < n → ∃ y, y ≤ x ∧ loR R y = true ∧ R y x := by
  intro x
  induction x using Nat.strongRecOn with
  | _ x ih =>
    intro hx
    by_cases hl : loR R x = true
    · exact ⟨x, Nat.le_refl _, hl, h.refl x hx⟩
    · rw [loR_iff] at hl
      have : ∃ y, y < x ∧ R y x := Classical.byContradiction fun hc => hl fun y hy hr => hc ⟨y, hy, hr⟩
      obtain ⟨y, hy, hr⟩ := this
      obtain ⟨z, hz, hl2, hr2⟩ := ih y hy (by omega)
      exact ⟨z, by omega, hl2, h.trans z y x (by omega) (by omega) hx hr2 hr⟩
theorem Eqv.lo_uniq (h : Eqv n R) {x y : Nat} (hx : x < n) (hy : y < n) (h1 : loR R x = true) (h2 : loR R y = true) (hr : R x y) : x = y := by
  rw [loR_iff] at h1 h2
  rcases Nat.lt_trichotomy x y with hl | e | hl
  · exact absurd hr (h2 x hl)
  · exact e
  · exact absurd (h.symm x y hx hy hr) (h1 y hl)
theorem cls_head (h : Eqv n R) {x : Nat} (hx : x < n) (hl : loR R x = true) : (clsF n R x).getD 0 0 = (x : Int) := by
  have hm : (x : Int) ∈ clsF n R x := mem_clsF.2 ⟨x, rfl, hx, h.refl x hx⟩
  have h1 := head_lt clsF_asc _ hm
  have hne : clsF n R x ≠ [] := fun e => by rw [e] at hm; cases hm
  obtain ⟨y, e, hy, hr⟩ := mem_clsF.1 (head_mem hne)
  rw [e] at h1 ⊢
  by_cases e2 : y = x
  · rw [e2]
  · exact absurd (h.symm x y hx hy hr) ((loR_iff R x).1 hl y (by omega))
theorem partK_sorted (h : Eqv n R) : ∀ {k : Nat}, k ≤ n → (partK n R k).Pairwise (fun a b => a.getD 0 0 < b.getD 0 0) := by
  intro k hk
  unfold partK
  rw [List.pairwise_map]
  have hp : ((List.range k).filter (loR R)).Pairwise (· < ·) := List.pairwise_lt_range.filter _
  refine List.Pairwise.imp_of_mem (fun {a b} ha hb hab => ?_) hp
  rw [List.mem_filter, List.mem_range] at ha hb
  rw [cls_head h (by omega) ha.2, cls_head h (by omega) hb.2]; omega
/-- The classes of a relation are a partition. -/
theorem Eqv.part (h : Eqv n R) : IsPart n (partK n R n) := by
  have hs := partK_sorted h (Nat.le_refl n)
  have gt : ∀ i, i < (partK n R n).length → ∃ x, x < n ∧ loR R x = true ∧ (partK n R n).getD i [] = clsF n R x := fun i hi => mem_partK.1 (getD_mem (b := []) hi)
  refine ⟨fun b hb e => ?_, fun b hb => ?_, fun b hb v hv => ?_, fun i hi => ?_, fun i j hi hj v h1 h2 => ?_, fun x hx => ?_⟩
  · obtain ⟨x, hx, _, rfl⟩ := mem_partK.1 hb
    have : (x : Int) ∈ clsF n R x := mem_clsF.2 ⟨x, rfl, hx, h.refl x hx⟩
    rw [e] at this; cases this
  · obtain ⟨x, hx, _, rfl⟩ := mem_partK.1 hb
    exact clsF_asc
  · obtain ⟨x, hx, _, rfl⟩ := mem_partK.1 hb
    obtain ⟨y, rfl, hy, _⟩ := mem_clsF.1 hv
    omega
  · have := List.pairwise_iff_getElem.1 hs i (i + 1) (by omega) hi (by omega)
    simpa [List.getD_eq_getElem?_getD, hi, show i < (partK n R n).length by omega] using this
  · obtain ⟨x, hx, hl, e1⟩ := gt i hi
    obtain ⟨y, hy, hl2, e2⟩ := gt j hj
    rw [e1] at h1
    rw [e2] at h2
    obtain ⟨z, rfl, hz, r1⟩ := mem_clsF.1 h1
    obtain ⟨z', e, hz', r2⟩ := mem_clsF.1 h2
    have : z' = z := by omega
    subst this
    have hxy := h.lo_uniq hx hy hl hl2 (h.trans x z' y hx hz hy r1 (h.symm y z' hy hz r2))
    subst hxy
    rcases Nat.lt_trichotomy i j with hl | e | hl
    · have := List.pairwise_iff_getElem.1 hs i j hi hj hl
      have e3 : (partK n R n)[i] = (partK n R n).getD i [] := by simp [hi]
      have e4 : (partK n R n)[j] = (partK n R n).getD j [] := by simp [hj]
      rw [e3, e4, e1, e2] at this; omega
    · exact e
    · have := List.pairwise_iff_getElem.1 hs j i hj hi hl
      have e3 : (partK n R n)[i] = (partK n R n).getD i [] := by simp [hi]
      have e4 : (partK n R n)[j] = (partK n R n).getD j [] := by simp [hj]
      rw [e3, e4, e1, e2] at this; omega
  · obtain ⟨y, hy, hl, hr⟩ := h.lo hx
    exact ⟨_, mem_partK.2 ⟨y, by omega, hl, rfl⟩, mem_clsF.2 ⟨x, rfl, hx, hr⟩⟩
/-- A partition is the classes of its own relation. -/
theorem IsPart.eq (h : IsPart n bs) : bs = partK n (SB bs) n := by
  have hE := h.eqv
  refine asc_list (fun b : List Int => b.getD 0 0) ?_ (partK_sorted hE (Nat.le_refl n)) fun b => ⟨fun hb => ?_, fun hb => ?_⟩
  · rw [List.pairwise_iff_getElem]
    intro i j hi hj hij
    have := fst_lt h hij hj
    simpa [List.getD_eq_getElem?_getD, hi, hj] using this
  · have hm := head_mem (h.ne b hb)
    have hr := h.rng b hb _ hm
    have e : (((b.getD 0 0).toNat : Nat) : Int) = b.getD 0 0 := by omega
    refine mem_partK.2 ⟨(b.getD 0 0).toNat, by omega, (loR_iff _ _).2 fun y hy ⟨c, hc, h1, h2⟩ => ?_, (h.cls hb (by rw [e]; exact hm)).symm⟩
    obtain ⟨i, hi, rfl⟩ := row_at hb
    obtain ⟨j, hj, rfl⟩ := row_at hc
    rw [e] at h2
    have := h.dis i j hi hj _ hm h2
    subst this
    have := head_lt (h.asc _ hb) _ h1
    omega
  · obtain ⟨x, hx, hl, rfl⟩ := mem_partK.1 hb
    obtain ⟨c, hc, hm⟩ := h.all x hx
    rw [h.cls hc hm]; exact hc
end
end Go.Pm
end
/- Building partitions point by point; passes that merge labels; plain. -/
section
namespace Go.Pm
set_option linter.unusedVariables false
set_option linter.unusedSimpArgs false
section
variable {n : Nat} {R : Nat → Nat → Prop}
/-- The classes of the first k points. -/
noncomputable abbrev parts (R : Nat → Nat → Prop) (k : Nat) : List (List Int) := partK k R k
end
theorem SL.eqv (n : Nat) (L : List Int) : Eqv n (SL L) := ⟨fun _ _ => rfl, fun _ _ _ _ h => Eq.symm h, fun _ _ _ _ _ _ h k => Eq.trans h k⟩
theorem Cg.eqv (n : Nat) (gs : List (List Int)) (B : Nat → Nat → Prop) : Eqv n (Cg gs B) := ⟨fun _ _ => .refl, fun _ _ _ _ h => h.symm, fun _ _ _ _ _ _ h k => h.trans k⟩
/-- A pass that merges labels: from L0 to L; `ch` tells whether something was merged; Q what has been looked at if nothing was. -/
structure MB (n : Nat) (gs : List (List Int)) (B : Nat → Nat → Prop) (L0 : List Int) (Q : List Int → Prop) (L : List Int) (ch : Bool) : Prop where
  lbl : Lbl n L
  snd : Snd n gs B L
  base : ∀ a b, B a b → a < n ∧ b < n ∧ SL L a b
  le : cntL n L ≤ cntL n L0
  yes : ch = true → cntL n L < cntL n L0
  no : ch = false → L = L0 ∧ Q L
section
variable {n : Nat} {gs : List (List Int)} {B : Nat → Nat → Prop} {L0 L : List Int} {Q Q' : List Int → Prop} {ch : Bool}
theorem MB.hit (h : MB n gs B L0 Q L ch) {u v : Nat} (hu : u < n) (hv : v < n) (hr : Cg gs B u v) (hne : L.getD u 0 ≠ L.getD v 0) : MB n gs B L0 Q' (mrg L (L.getD u 0) (L.getD v 0)) true := by
  have hc := cntL_mrg h.lbl hu hv hne
  have hl := h.le
  refine ⟨h.lbl.mrg (h.lbl.rng u hu), h.snd.mrg h.lbl.len hu hv hr, fun a b hb => ?_, by omega, fun _ => by omega, fun e => by cases e⟩
  obtain ⟨h1, h2, h3⟩ := h.base a b hb
  exact ⟨h1, h2, h3.mrg h.lbl.len h1 h2 _ _⟩
theorem MB.miss (h : MB n gs B L0 Q L ch) (hq : Q L → Q' L) : MB n gs B L0 Q' L ch :=
  ⟨h.lbl, h.snd, h.base, h.le, h.yes, fun e => ⟨(h.no e).1, hq (h.no e).2⟩⟩
theorem MB.start (hl : Lbl n L) (hs : Snd n gs B L) (hb : ∀ a b, B a b → a < n ∧ b < n ∧ SL L a b) (hq : Q L) : MB n gs B L Q L false :=
  ⟨hl, hs, hb, Nat.le_refl _, fun e => (by cases e), fun _ => ⟨rfl, hq⟩⟩
/-- Labels at the end: nothing more is to be merged. -/
theorem MB.done (hg : ∀ g ∈ gs, Pm n g) (h : MB n gs B L0 Q L false) (hq : Q L → ∀ g ∈ gs, ∀ i j, i < n → j < n → SL L i j → SL L (img g i) (img g j)) : parts (SL L) n = parts (Cg gs B) n :=
  partK_congr (fun i j hi hj => Cg.iff hg h.base h.snd (hq (h.no rfl).2) hi hj) (Nat.le_refl n)
/-- Each label is a point that bears it. -/
def Rep (n : Nat) (L : List Int) : Prop := ∀ i, i < n → L.getD (L.getD i 0).toNat 0 = L.getD i 0
theorem Rep.idn (n : Nat) : Rep n (idn n) := fun i hi => by rw [idn_get hi, Int.toNat_natCast, idn_get hi]
theorem Rep.mrg (hl : Lbl n L) (h : Rep n L) {u v : Nat} (hu : u < n) (hv : v < n) : Rep n (mrg L (L.getD u 0) (L.getD v 0)) := fun i hi => by
  have hr := hl.rng i hi
  have hru := hl.rng u hu
  have e := hl.len
  have hi' := h i hi
  have hu' := h u hu
  have e1 := mrg_get L (L.getD u 0) (L.getD v 0) (i := i) (by omega)
  rw [e1]
  split
  · rw [mrg_get _ _ _ (by omega), hu']
    split
    · rfl
    · rfl
  · rename_i hne
    rw [mrg_get _ _ _ (by omega), hi', if_neg hne]
end
end Go.Pm
end
/- Pairs of points under generators; the same orbits by inverse generators; plain. -/
section
namespace Go.Pm
set_option linter.unusedVariables false
set_option linter.unusedSimpArgs false
/-- A permutation of points, on pairs of points: the pair (a, b) bears the number a n + b. -/
def pairP (n : Nat) (g : List Int) : List Int := (List.range (n * n)).map fun c : Nat => ((img g (c / n) * n + img g (c % n) : Nat) : Int)
theorem pairP_get {n : Nat} {g : List Int} {c : Nat} (hc : c < n * n) : (pairP n g).getD c 0 = ((img g (c / n) * n + img g (c % n) : Nat) : Int) := by
  unfold pairP
  simp [List.getD_eq_getElem?_getD, hc]
theorem pair_lt {n a b : Nat} (ha : a < n) (hb : b < n) : a * n + b < n * n := by
  have h1 : (a + 1) * n ≤ n * n := Nat.mul_le_mul_right n ha
  rw [Nat.add_mul, Nat.one_mul] at h1
  omega
theorem pair_div {n a b : Nat} (hb : b < n) : (a * n + b) / n = a := by
  rw [Nat.add_comm, Nat.mul_comm, Nat.add_mul_div_left _ _ (by omega), Nat.div_eq_of_lt hb, Nat.zero_add]
theorem pair_mod {n a b : Nat} (hb : b < n) : (a * n + b) % n = b := by
  rw [Nat.add_comm, Nat.mul_comm, Nat.add_mul_mod_self_left, Nat.mod_eq_of_lt hb]
theorem pair_bd {n c : Nat} (hc : c < n * n) : c / n < n ∧ c % n < n ∧ c / n * n + c % n = c := by
  have hn : 0 < n := by
    rcases Nat.eq_zero_or_pos n with h | h
    · subst h; omega
    · exact h
  exact ⟨(Nat.div_lt_iff_lt_mul hn).2 hc, Nat.mod_lt _ hn, by rw [Nat.mul_comm]; exact Nat.div_add_mod c n⟩
theorem pairP_img {n : Nat} {g : List Int} {c : Nat} (hc : c < n * n) : img (pairP n g) c = img g (c / n) * n + img g (c % n) := by
  show ((pairP n g).getD c 0).toNat = _
  rw [pairP_get hc, Int.toNat_natCast]
theorem pairP_pm {n : Nat} {g : List Int} (hg : Pm n g) : Pm (n * n) (pairP n g) := by
  refine ⟨by unfold pairP; simp, fun c hc => ?_, fun c d hc hd e => ?_⟩
  · obtain ⟨h1, h2, _⟩ := pair_bd hc
    have := pair_lt (hg.img_lt h1) (hg.img_lt h2)
    rw [pairP_get hc]; omega
  · obtain ⟨h1, h2, h3⟩ := pair_bd hc
    obtain ⟨k1, k2, k3⟩ := pair_bd hd
    rw [pairP_get hc, pairP_get hd] at e
    have e' : img g (c / n) * n + img g (c % n) = img g (d / n) * n + img g (d % n) := by omega
    have e1 := congrArg (· / n) e'
    have e2 := congrArg (· % n) e'
    simp only [pair_div (hg.img_lt h2), pair_div (hg.img_lt k2), pair_mod (hg.img_lt h2), pair_mod (hg.img_lt k2)] at e1 e2
    have a1 := hg.inj h1 k1 e1
    have a2 := hg.inj h2 k2 e2
    rw [← h3, ← k3, a1, a2]
end Go.Pm
end
/- Block systems: when blocks are a partition, the blocks' numbers, what a permutation does to blocks; plain. -/
section
namespace Go.Pm
set_option linter.unusedVariables false
set_option linter.unusedSimpArgs false
/-- An ascending row of points, entry by entry. -/
def ptI (n : Int) (b : List Int) : Prop := ∀ i, i < b.length → (0 ≤ b.getD i 0 ∧ b.getD i 0 ≤ n - 1) ∧ (0 < i → b.getD (i - 1) 0 < b.getD i 0)
theorem asc_of_next : ∀ {b : List Int}, (∀ i, i + 1 < b.length → b.getD i 0 < b.getD (i + 1) 0) → b.Pairwise (· < ·)
  | [], _ => List.Pairwise.nil
  | [u], _ => List.pairwise_singleton _ _
  | u :: v :: b, h => by
    have ih : (v :: b).Pairwise (· < ·) := asc_of_next fun i hi => by
      have := h (i + 1) (by simp only [List.length_cons] at hi ⊢; omega)
      simpa using this
    refine List.pairwise_cons.2 ⟨fun w hw => ?_, ih⟩
    have h0 : u < v := by simpa using h 0 (by simp)
    rcases List.mem_cons.1 hw with e | hw
    · omega
    · have := (List.pairwise_cons.1 ih).1 w hw; omega
theorem asc_next {b : List Int} (h : b.Pairwise (· < ·)) {i j : Nat} (hij : i < j) (hj : j < b.length) : b.getD i 0 < b.getD j 0 := by
  have := List.pairwise_iff_getElem.1 h i j (by omega) hj hij
  simpa [List.getD_eq_getElem?_getD, hj, show i < b.length by omega] using this
theorem ptI_iff {n : Int} {b : List Int} : ptI n b ↔ b.Pairwise (· < ·) ∧ ∀ v ∈ b, 0 ≤ v ∧ v < n := by
  constructor
  · intro h
    refine ⟨asc_of_next fun i hi => by simpa using (h (i + 1) hi).2 (by omega), fun v hv => ?_⟩
    obtain ⟨i, hi, rfl⟩ := List.getElem_of_mem hv
    have := (h i hi).1
    rw [show b.getD i 0 = b[i] by simp [hi]] at this
    omega
  · rintro ⟨h1, h2⟩ i hi
    have hm : b.getD i 0 ∈ b := by rw [List.getD_eq_getElem?_getD, List.getElem?_eq_getElem hi]; exact List.getElem_mem hi
    have := h2 _ hm
    exact ⟨by omega, fun h0 => asc_next h1 (by omega) hi⟩
/-- The blocks are a partition, as the programs look at it. -/
def partI (n : Int) (bs : List (List Int)) : Prop :=
  (∀ i, i < bs.length → bs.getD i [] ≠ [] ∧ ptI n (bs.getD i []) ∧ (0 < i → (bs.getD (i - 1) []).getD 0 0 < (bs.getD i []).getD 0 0)) ∧ bs.flatten.Nodup ∧ (bs.flatten.length : Int) = n
theorem IsPart.nodup {n : Nat} {bs : List (List Int)} (h : IsPart n bs) : bs.flatten.Nodup := by
  refine List.pairwise_flatten.2 ⟨fun b hb => (h.asc b hb).imp fun h => by omega, List.pairwise_iff_getElem.2 fun i j hi hj hij x hx y hy e => ?_⟩
  subst e
  have := h.dis i j hi hj x (by rw [show bs.getD i [] = bs[i] by simp [hi]]; exact hx) (by rw [show bs.getD j [] = bs[j] by simp [hj]]; exact hy)
  omega
theorem IsPart.flat_len {n : Nat} {bs : List (List Int)} (h : IsPart n bs) : bs.flatten.length = n := by
  have h1 := Go.Plain.nodup_le ((List.range n).map fun y : Nat => (y : Int)) bs.flatten h.nodup fun v hv => by
    obtain ⟨b, hb, hm⟩ := List.mem_flatten.1 hv
    have := h.rng b hb v hm
    exact List.mem_map.2 ⟨v.toNat, List.mem_range.2 (by omega), by omega⟩
  have h2 := Go.Plain.nodup_le bs.flatten ((List.range n).map fun y : Nat => (y : Int)) (List.pairwise_map.2 (List.nodup_range.imp fun h e => h (by omega))) fun v hv => by
    obtain ⟨y, hy, rfl⟩ := List.mem_map.1 hv
    obtain ⟨b, hb, hm⟩ := h.all y (List.mem_range.1 hy)
    exact List.mem_flatten.2 ⟨b, hb, hm⟩
  rw [List.length_map, List.length_range] at h1 h2
  omega
theorem partI_iff {n : Nat} {bs : List (List Int)} : partI n bs ↔ IsPart n bs := by
  constructor
  · rintro ⟨h1, h2, h3⟩
    have hb : ∀ b ∈ bs, b ≠ [] ∧ b.Pairwise (· < ·) ∧ ∀ v ∈ b, 0 ≤ v ∧ v < n := fun b hb => by
      obtain ⟨i, hi, rfl⟩ := row_at hb
      exact ⟨(h1 i hi).1, (ptI_iff.1 (h1 i hi).2.1).1, (ptI_iff.1 (h1 i hi).2.1).2⟩
    obtain ⟨_, hd⟩ := List.pairwise_flatten.1 h2
    have hd' : ∀ i j, i < j → j < bs.length → ∀ v, v ∈ bs.getD i [] → v ∈ bs.getD j [] → False := fun i j hij hj v k1 k2 => by
      have := List.pairwise_iff_getElem.1 hd i j (by omega) hj hij v (by rwa [show bs.getD i [] = bs[i] by simp [show i < bs.length by omega]] at k1) v (by rwa [show bs.getD j [] = bs[j] by simp [hj]] at k2)
      exact this rfl
    refine ⟨fun b h => (hb b h).1, fun b h => (hb b h).2.1, fun b h => (hb b h).2.2, fun i hi => by simpa using (h1 (i + 1) hi).2.2 (by omega), fun i j hi hj v k1 k2 => ?_, fun x hx => ?_⟩
    · rcases Nat.lt_trichotomy i j with h | h | h
      · exact (hd' i j h hj v k1 k2).elim
      · exact h
      · exact (hd' j i h hi v k2 k1).elim
    · refine Classical.byContradiction fun hc => ?_
      have hx' : (x : Int) ∉ bs.flatten := fun hm => hc (let ⟨b, hb, h⟩ := List.mem_flatten.1 hm; ⟨b, hb, h⟩)
      have := Go.Plain.nodup_le ((List.range n).map fun y : Nat => (y : Int)) ((x : Int) :: bs.flatten) (List.nodup_cons.2 ⟨hx', h2⟩) fun v hv => by
        rcases List.mem_cons.1 hv with rfl | hv
        · exact List.mem_map.2 ⟨x, List.mem_range.2 hx, rfl⟩
        · obtain ⟨b, hbm, hm⟩ := List.mem_flatten.1 hv
          have := (hb b hbm).2.2 v hm
          exact List.mem_map.2 ⟨v.toNat, List.mem_range.2 (by omega), by omega⟩
      rw [List.length_map, List.length_range, List.length_cons] at this
      omega
  · intro h
    refine ⟨fun i hi => ⟨h.ne _ (getD_mem (b := []) hi), ptI_iff.2 ⟨h.asc _ (getD_mem (b := []) hi), h.rng _ (getD_mem (b := []) hi)⟩, fun h0 => ?_⟩, h.nodup, by rw [h.flat_len]⟩
    have := h.fst (i - 1) (by omega)
    rwa [show i - 1 + 1 = i by omega] at this
theorem IsPart.len {n : Nat} {bs : List (List Int)} (h : IsPart n bs) : bs.length ≤ n := by
  rw [h.eq]; exact partK_len _ _ _
/-- The number of each point's block. -/
noncomputable def ixP (n : Nat) (bs : List (List Int)) : List Int := (List.range n).map fun x : Nat => ((bs.findIdx fun b => decide ((x : Int) ∈ b) : Nat) : Int)
section
variable {n : Nat} {bs : List (List Int)}
theorem ixP_len (n : Nat) (bs : List (List Int)) : (ixP n bs).length = n := by unfold ixP; rw [List.length_map, List.length_range]
theorem ixP_get {x : Nat} (hx : x < n) : (ixP n bs).getD x 0 = ((bs.findIdx fun b => decide ((x : Int) ∈ b) : Nat) : Int) := by
  unfold ixP; simp [List.getD_eq_getElem?_getD, hx]
theorem ixP_mem (h : IsPart n bs) {x i : Nat} (hi : i < bs.length) (hx : (x : Int) ∈ bs.getD i []) : (ixP n bs).getD x 0 = (i : Int) := by
  have hr := h.rng _ (getD_mem (b := []) hi) _ hx
  rw [ixP_get (by omega)]
  have hl : (bs.findIdx fun b => decide ((x : Int) ∈ b)) < bs.length := List.findIdx_lt_length.2 ⟨bs.getD i [], getD_mem (b := []) hi, by rw [decide_eq_true_eq]; exact hx⟩
  have hm := List.findIdx_getElem (w := hl)
  rw [decide_eq_true_eq] at hm
  have := h.dis _ i hl hi x (by rw [show ∀ k (hk : k < bs.length), bs.getD k [] = bs[k] from fun k hk => by simp [hk]]; exact hm) hx
  rw [this]
theorem ixP_spec (h : IsPart n bs) {x : Nat} (hx : x < n) : ∃ i, i < bs.length ∧ (x : Int) ∈ bs.getD i [] ∧ (ixP n bs).getD x 0 = (i : Int) := by
  obtain ⟨b, hb, hm⟩ := h.all x hx
  obtain ⟨i, hi, rfl⟩ := row_at hb
  exact ⟨i, hi, hm, ixP_mem h hi hm⟩
/-- A permutation maps each block into one block. -/
def Rsp (n : Nat) (g : List Int) (bs : List (List Int)) : Prop := ∀ x y, x < n → y < n → SB bs x y → SB bs (img g x) (img g y)
/-- .. as the programs look at it. -/
def rspI (n : Nat) (g : List Int) (bs : List (List Int)) : Prop := ∀ i, i < bs.length → ∀ k, k < (bs.getD i []).length →
  (ixP n bs).getD (img g ((bs.getD i []).getD k 0).toNat) 0 = (ixP n bs).getD (img g ((bs.getD i []).getD 0 0).toNat) 0
theorem row_mem {b : List Int} {k : Nat} (hk : k < b.length) : b.getD k 0 ∈ b := by
  rw [List.getD_eq_getElem?_getD, List.getElem?_eq_getElem hk]; exact List.getElem_mem hk
theorem IsPart.entry (h : IsPart n bs) {i k : Nat} (hi : i < bs.length) (hk : k < (bs.getD i []).length) : ∃ x : Nat, (bs.getD i []).getD k 0 = (x : Int) ∧ x < n ∧ (x : Int) ∈ bs.getD i [] := by
  have hm := row_mem hk
  have := h.rng _ (getD_mem (b := []) hi) _ hm
  refine ⟨((bs.getD i []).getD k 0).toNat, by omega, by omega, ?_⟩
  rw [show ((((bs.getD i []).getD k 0).toNat : Nat) : Int) = (bs.getD i []).getD k 0 by omega]
  exact hm
theorem IsPart.pos (h : IsPart n bs) {i : Nat} (hi : i < bs.length) : 0 < (bs.getD i []).length := List.length_pos_iff.2 (h.ne _ (getD_mem (b := []) hi))
theorem Rsp.back {g : List Int} (hg : Pm n g) (h : Rsp n g bs) {x y : Nat} (hx : x < n) (hy : y < n) (hs : SB bs (img g x) (img g y)) : SB bs x y := by
  have hc : x * n + y < n * n := pair_lt hx hy
  obtain ⟨m, hm⟩ := itr_back (pairP_pm hg) hc 1
  have hn : 0 < n := by omega
  have key : ∀ m c, c < n * n → SB bs (c / n) (c % n) → SB bs (itr (pairP n g) c m / n) (itr (pairP n g) c m % n) ∧ itr (pairP n g) c m < n * n := by
    intro m
    induction m with
    | zero => exact fun c hc h => ⟨h, hc⟩
    | succ m ih =>
      intro c hc hb
      obtain ⟨h1, h2⟩ := ih c hc hb
      obtain ⟨k1, k2, _⟩ := pair_bd h2
      show SB bs (img (pairP n g) (itr (pairP n g) c m) / n) (img (pairP n g) (itr (pairP n g) c m) % n) ∧ img (pairP n g) (itr (pairP n g) c m) < n * n
      refine ⟨?_, (pairP_pm hg).img_lt h2⟩
      rw [pairP_img h2, pair_div (hg.img_lt k2), pair_mod (hg.img_lt k2)]
      exact h _ _ k1 k2 h1
  have hc2 : img (pairP n g) (x * n + y) < n * n := (pairP_pm hg).img_lt hc
  have hp : img (pairP n g) (x * n + y) = img g x * n + img g y := by rw [pairP_img hc, pair_div hy, pair_mod hy]
  have := (key m (img (pairP n g) (x * n + y)) hc2 (by rw [hp, pair_div (hg.img_lt hy), pair_mod (hg.img_lt hy)]; exact hs)).1
  have e : itr (pairP n g) (img (pairP n g) (x * n + y)) m = x * n + y := hm
  rw [e, pair_div hy, pair_mod hy] at this
  exact this
theorem Rsp.inv {g : List Int} (hg : Pm n g) (h : Rsp n g bs) : Rsp n (invp g) bs := fun x y hx hy hs => by
  have h1 := hg.inv.img_lt hx
  have h2 := hg.inv.img_lt hy
  refine h.back hg h1 h2 ?_
  rw [hg.inv_img hx, hg.inv_img hy]; exact hs
/-- The permutation of blocks. -/
noncomputable def actP (n : Nat) (bs : List (List Int)) (g : List Int) : List Int := bs.map fun b => (ixP n bs).getD (g.getD (b.getD 0 0).toNat 0).toNat 0
end
end Go.Pm
end

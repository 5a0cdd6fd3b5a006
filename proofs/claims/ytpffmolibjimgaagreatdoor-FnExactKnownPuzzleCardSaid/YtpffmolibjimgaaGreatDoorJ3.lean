import Derived.Test.YtpffmolibjimgaaGreatDoorJ2
import Derived.ProofKit
import Derived.OpenShut
import Derived.ShutString
import Derived.ChangeOld
import Derived.Below
import Derived.Carry
import Derived.Deep.Slices
import Derived.Lib.SmallJoins
/- The heap told anew: names turned, nil told as a slice of our own, and cells told one by one. -/
section
namespace Go.Av
/-- A hypothesis that the walk is not to see. -/
structure Hold (p : Prop) : Prop where
  h : p
section
variable {N : Cx} {A A' : Fr} {H H' : Hp}
/-- How what is told before (by old names) is told afterwards (by new ones): ρ gives the old name of a new one; a new name without an old one is a nil slice. -/
inductive Lay (ρ : Nat → Option Nat) : AV → AV → Prop
  | own {h g off sz n : Nat} : ρ h = some g → Lay ρ (.own g off sz n) (.own h off sz n)
  | ref {h g off : Nat} : ρ h = some g → Lay ρ (.ref g off) (.ref h off)
  | nil {h sz : Nat} : ρ h = none → Lay ρ (.v (.slice none 0 0)) (.own h 0 sz 0)
  | plain {a : AV} : a.plain → Lay ρ a a
  | agg {n : Nat} {f g : Nat → AV} : (∀ i, i < n → Lay ρ (f i) (g i)) → Lay ρ (.agg n f) (.agg n g)
  | map {h g : Nat} : ρ h = some g → Lay ρ (.map g) (.map h)
  | clo {gf n : Nat} {f g : Nat → AV} : (∀ i, i < n → Lay ρ (f i) (g i)) → Lay ρ (.clo gf n f) (.clo gf n g)
  | dead (a : AV) : Lay ρ a .dead
theorem Lay.rd {ρ : Nat → Option Nat} {w : World} {ok : Nat → Prop} {L : Loc} {a c : AV} (h : Lay ρ a c) : ∀ u, Rd w ok L a u → Rd w ok (fun h => (ρ h).bind L) c u := by
  induction h with
  | @own h g off sz n e => intro u hu; simp only [Rd, e, Option.bind_some] at hu ⊢; exact hu
  | @ref h g off e => intro u hu; simp only [Rd, e, Option.bind_some] at hu ⊢; exact hu
  | @nil h sz e => intro u hu; simp only [Rd, e, Option.bind_none] at hu ⊢; exact ⟨hu, trivial⟩
  | @plain a hp => intro u hu; exact Rd.plain a _ _ u hp hu
  | @agg n f g _ ih => rintro u ⟨cs, h1, h2, h3⟩; exact ⟨cs, h1, h2, fun i hi => let ⟨c, k1, k2⟩ := h3 i hi; ⟨c, k1, ih i hi _ k2⟩⟩
  | @clo gf n f g _ ih => rintro u ⟨cs, h1, h2, h3⟩; exact ⟨cs, h1, h2, fun i hi => let ⟨c, k1, k2⟩ := h3 i hi; ⟨c, k1, ih i hi _ k2⟩⟩
  | @map h g e => intro u hu; simp only [Rd, e, Option.bind_some] at hu ⊢; exact hu
  | dead a => intro u _; trivial
/-- .. where some blocks are maps. -/
theorem Sub.layM (ρ : Nat → Option Nat) (hpn : N.pn = fun _ => false) (hA : ∀ i c, A'.get i = some c → ∃ a, A.get i = some a ∧ Lay ρ a c)
    (hH : ∀ h B', H' h = some B' → (∃ g n f f', ρ h = some g ∧ B' = .cells n f' ∧ H g = some (.cells n f) ∧ ∀ i, i < n → Lay ρ (f i) (f' i)) ∨ (ρ h = none ∧ ∃ f, B' = .cells 0 f) ∨ (∃ g kv, ρ h = some g ∧ B' = .mp kv ∧ H g = some (.mp kv) ∧ ∀ x ∈ kv, x.2.plain))
    (hinj : ∀ h g k, H' h ≠ none → H' g ≠ none → ρ h = some k → ρ g = some k → h = g) : Sub N A H A' H' := by
  intro w0 S hS w tm L s
  have live : ∀ h k, H' h ≠ none → ρ h = some k → H k ≠ none := by
    intro h k hn e
    cases hB : H' h with
    | none => exact absurd hB hn
    | some B =>
      rcases hH h B hB with ⟨g, n, f, f', e1, _, e2, _⟩ | ⟨e1, _⟩ | ⟨g, kv, e1, _, e2, _⟩
      · rw [e] at e1; simp only [Option.some.injEq] at e1; subst e1; rw [e2]; simp
      · rw [e] at e1; simp at e1
      · rw [e] at e1; simp only [Option.some.injEq] at e1; subst e1; rw [e2]; simp
  have dec : ∀ h q, ((ρ h).bind L) = some q → ∃ k, ρ h = some k ∧ L k = some q := by
    intro h q hq
    cases e : ρ h with
    | none => rw [e] at hq; simp at hq
    | some k => rw [e] at hq; exact ⟨k, rfl, hq⟩
  have hok : ∀ b, okb S H L b → okb S H' (fun h => (ρ h).bind L) b := fun b hb => ⟨hb.1, fun h q hn hq => by
    obtain ⟨k, e1, e2⟩ := dec h q hq
    exact hb.2 k q (live h k hn e1) e2⟩
  refine ⟨fun h => (ρ h).bind L, s.keep, s.size, fun i c hc => ?_, fun h B hB => ?_, fun h q hn hq => ?_, fun h g q r hn hm hq hr e => ?_, fun h l hl => ?_⟩
  · obtain ⟨a, h1, h2⟩ := hA i c hc
    exact Rd.mono (fun b _ hb => hok b hb) (h2.rd _ (s.slot i a h1))
  · rcases hH h B hB with ⟨g, n, f, f', e1, rfl, e2, e3⟩ | ⟨e1, f, rfl⟩ | ⟨g, kv, e1, rfl, e2, e3⟩
    · have hb := s.blk g _ e2
      simp only [e1, Option.bind_some]
      cases hl : L g with
      | none => rw [hl] at hb; exact hb
      | some q =>
        rw [hl] at hb
        obtain ⟨cs, e, k1, k2, k3⟩ := hb
        exact ⟨cs, e, k1, k2, fun i hi => let ⟨c, k4, k5⟩ := k3 i hi; ⟨c, k4, Rd.mono (fun b _ hb => hok b hb) ((e3 i hi).rd _ k5)⟩⟩
    · simp only [e1, Option.bind_none]; rfl
    · have hb := s.blk g _ e2
      simp only [e1, Option.bind_some]
      cases hl : L g with
      | none => rw [hl] at hb; exact hb.elim
      | some q =>
        rw [hl] at hb
        obtain ⟨es, clock, k1, k2, k3⟩ := hb
        exact ⟨es, clock, k1, k2, fun i e he => let ⟨a, k4, k5⟩ := k3 i e he; ⟨a, k4, Rd.mono (fun b _ hb => hok b hb) (Rd.plain a _ _ _ (e3 _ (List.mem_of_getElem? k4)) k5)⟩⟩
  · obtain ⟨k, e1, e2⟩ := dec h q hq
    exact s.own k q (live h k hn e1) e2
  · obtain ⟨k1, e1, e2⟩ := dec h q hq
    obtain ⟨k2, e3, e4⟩ := dec g r hr
    have := s.inj k1 k2 q r (live h k1 hn e1) (live g k2 hm e3) e2 e4 e
    subst this
    exact hinj h g k1 hn hm e1 e3
  · rw [hS.free h (by rw [hpn])] at hl; simp at hl
theorem Sub.lay (ρ : Nat → Option Nat) (hpn : N.pn = fun _ => false) (hA : ∀ i c, A'.get i = some c → ∃ a, A.get i = some a ∧ Lay ρ a c)
    (hH : ∀ h B', H' h = some B' → (∃ g n f f', ρ h = some g ∧ B' = .cells n f' ∧ H g = some (.cells n f) ∧ ∀ i, i < n → Lay ρ (f i) (f' i)) ∨ (ρ h = none ∧ ∃ f, B' = .cells 0 f))
    (hinj : ∀ h g k, H' h ≠ none → H' g ≠ none → ρ h = some k → ρ g = some k → h = g) : Sub N A H A' H' :=
  Sub.layM ρ hpn hA (fun h B' hB => (hH h B' hB).elim .inl (fun k => .inr (.inl k))) hinj
/-- Each block told in H1 stands in H, and fits what is told of it (the names of D are frozen). -/
def LeF (D : Nat → Prop) (H1 H : Hp) : Prop := ∀ x B, H1 x = some B → ¬ D x ∧ ∃ B', H x = some B' ∧ BFits H D B' B
theorem leF_emp {D : Nat → Prop} : LeF D Hp.emp H := fun x B h => by simp [Hp.emp] at h
theorem leF_upd {D : Nat → Prop} {h : Nat} {B B' : Blk} (k : H h = some B') (e : BFits H D B' B) (r : LeF D H' H) (hD : ¬ D h) : LeF D (H'.upd h B) H := fun x C hC => by
  unfold Hp.upd at hC
  split at hC
  · rename_i e1; subst e1; simp only [Option.some.injEq] at hC; subst hC; exact ⟨hD, B', k, e⟩
  · exact r x C hC
theorem leF_le {D : Nat → Prop} (h : Hp.le H' H) (hD : ∀ x, H' x ≠ none → ¬ D x) : LeF D H' H := fun x B hB => ⟨hD x (by rw [hB]; simp), B, h x B hB, .refl _ _ _⟩
theorem bfE {D : Nat → Prop} {n m : Nat} {f g : Nat → AV} (hn : n = m) (h : ∀ i, i < n → f i = g i) : BFits H D (.cells n f) (.cells m g) := ⟨hn, fun i hi => by rw [h i hi]; exact .refl _⟩
theorem Sub.toFF (D : Nat → Prop) (hA : Fr.fit H D A A') (hH : LeF D H' H) : Sub N A H A' H' := Sub.fits D (Fr.fit_get A' A hA) hH
theorem AC.mono {P : Program} {f : FuncId} {args : List AV} {Hin : Hp} {pn : Nat → Bool} {post post' : AV → Hp → Prop} (h : AC P f args Hin pn post) (hq : ∀ r H, post r H → post' r H) : AC P f args Hin pn post' := by
  refine ⟨h.1, fun S w L vs hS hpin henv s hargs => (h.2 S w L vs hS hpin henv s hargs).mono ?_⟩
  rintro e w' ⟨u, L', r, H', rfl, s2, hr, hp⟩
  exact ⟨u, L', r, H', rfl, s2, hr, hq r H' hp⟩
end
end Go.Av
end
/- Regions whose order is open and that lay several new blocks: each operation reads what was there before, or lays a block of its own. -/
section
namespace Go.Av
section
variable {P : Program} {N : Cx} {A : Fr} {H H0 : Hp}

theorem Fits.up {D : Nat → Prop} (hle : Hp.le H0 H) {a c : AV} (h : Fits H0 D a c) : Fits H D a c := by
  induction h with
  | refl a => exact .refl a
  | own h1 h2 h3 h4 _ ih => exact .own (hle _ _ h1) h2 h3 h4 ih
  | list h1 h2 _ ih => exact .list h1 h2 ih
  | nil => exact .nil
  | agg _ ih => exact .agg ih
  | ref h1 h2 h3 h4 _ ih => exact .ref (hle _ _ h1) h2 h3 h4 ih
  | clo _ ih => exact .clo ih
  | tup _ ih => exact .tup ih
  | nonnil h1 _ ih => exact .nonnil h1 ih
  | dead a => exact .dead a
theorem FitsL.up {D : Nat → Prop} (hle : Hp.le H0 H) {l r : List AV} (h : FitsL H0 D l r) : FitsL H D l r := by
  induction h with
  | nil => exact .nil
  | cons h _ ih => exact .cons (h.up hle) ih
theorem ldVC_up {ty : Option TY} {a : AV} {K : AV → Prop} (hle : Hp.le H0 H) (h : ldVC ty H0 a K) : ldVC ty H a K := by
  unfold ldVC at h ⊢
  split at h
  · exact h
  · exact h
  · split at h
    · rename_i e; rw [hle _ _ e]; exact h
    · exact h.elim
  · split at h
    · rename_i e; rw [hle _ _ e]; exact h
    · exact h.elim
  · exact h.elim
theorem srcOf_up {sz : Nat} {b : AV} {x : Nat × (Nat → AV)} (hle : Hp.le H0 H) (h : srcOf H0 sz b = some x) : srcOf H sz b = some x := by
  unfold srcOf at h ⊢
  split at h
  · exact h
  · rename_i hh off sz' m
    cases e : H0 hh with
    | none => rw [e] at h; cases h
    | some B => rw [e] at h; rw [hle _ _ e]; exact h
  · exact h
  · cases h
theorem cvVC_up {ct : CvT} {a : AV} {K : AV → Prop} (hle : Hp.le H0 H) (h : cvVC ct H0 a K) : cvVC ct H a K := by
  unfold cvVC at h ⊢
  split at h
  · exact h
  · exact h
  · exact h
  · split at h
    · rename_i e; simp only [srcOf_up hle e]; exact h
    · exact h.elim
  · exact h.elim
theorem lkVC_up {mt mi : Option Value} {a b : AV} {ok : Bool} {K : AV → Prop} (hle : Hp.le H0 H) (h : lkVC mt mi H0 a b ok K) : lkVC mt mi H a b ok K := by
  unfold lkVC at h ⊢
  split at h
  · unfold lksVC at h ⊢
    split at h
    · split at h
      · rename_i e; simp only [hle _ _ e]; exact h
      · exact h.elim
    · exact h.elim
  · unfold lkiVC at h ⊢
    split at h
    · split at h
      · rename_i e; simp only [hle _ _ e]; exact h
      · exact h.elim
    · exact h.elim
  · exact h.elim
theorem opVC_up {d : Nat} {op : Op} {r : AV} (hp : pureOp op = true) (hle : Hp.le H0 H) (h : opVC P N d op A H0 (KR r A H0)) : opVC P N d op A H (KR r A H) := by
  have kk : ∀ (H1 : Hp) (x : AV), KR r A H1 x A H1 = (x = r) := fun H1 x => by simp [KR]
  cases op <;> simp only [pureOp, Bool.false_eq_true] at hp <;> simp only [opVC, kk] at h ⊢
  all_goals first | exact h | skip
  case lookup t x i ok =>
    obtain ⟨a, ha, h⟩ := withA_ok h
    obtain ⟨b, hb, h⟩ := withA_ok h
    rw [ha, hb]
    exact lkVC_up hle h
  case load t x =>
    obtain ⟨a, ha, h⟩ := withA_ok h
    rw [ha]; exact ldVC_up hle h
  case convert s t x =>
    obtain ⟨a, ha, h⟩ := withA_ok h
    rw [ha]; exact cvVC_up hle h
  case call c =>
    obtain ⟨callee, args, tys⟩ := c
    cases callee with
    | invoke r m => simp at hp
    | value f => simp at hp
    | builtin b =>
      obtain ⟨l, hl, h⟩ := withArgs_ok h
      simp only [hl, withArgs]
      unfold bcallVC at h ⊢
      split at h <;> simp only [kk] at h ⊢ <;> first | exact h | (rename_i hts; rw [hts]; exact h) | (simp at hp; done) | exact h.elim
theorem opQ_up {o : Oper} {K : AV → Prop} (h : opQ P N (o.dst.getD 0) o.op A H0 K) : ∃ r, K r ∧ ∀ H, Hp.le H0 H → OpOK P N o A H r := by
  unfold opQ at h
  split at h
  · rename_i f args tys ho
    split at h
    · rename_i g caps hg
      obtain ⟨l, hl, hc⟩ := withArgs_ok h
      obtain ⟨a, args', pn, post, h1, h2, h3, h4, hK⟩ := hc
      refine ⟨a, hK, fun H hle A' ha => opVC_sound ?_⟩
      have hc' : CallQ P g (l ++ caps) H (fun x => x = a) := ⟨a, args', pn, post, h1, h2, h3, h4.imp (fun k => ⟨k.1.up hle, k.2⟩) id, rfl⟩
      obtain ⟨r, rfl, hcall⟩ := callQ_run (N := N) hc'
      have hf : A'.ev f = A.ev f := ha f (by rw [ho]; simp [Op.operands, Call.operands])
      have hargs : evArgs A' args.toList = some l := by
        rw [evArgs_congr fun x hx => ha x (by rw [ho]; simp [Op.operands, Call.operands]; exact .inr (by simpa using hx)), hl]
      rw [ho]
      simp only [opVC, hf, hg, hargs, withArgs]
      exact hcall A'
    · exact h.elim
  · rename_i t len parts ho
    cases hl : evParts A parts.toList with
    | none => rw [hl] at h; unfold bsQVC at h; split at h <;> simp_all
    | some l =>
      rw [hl] at h
      have hd : ∃ r, K r ∧ bsQVC (selOf P t) len (some l) (fun x => x = r) := by
        unfold bsQVC at h ⊢
        split at h
        · exact ⟨_, h.2.2, h.1, h.2.1, rfl⟩
        · exact h.elim
      obtain ⟨r, hK, hb⟩ := hd
      refine ⟨r, hK, fun H hle A' ha => ?_⟩
      obtain ⟨r', rfl, h2⟩ := run_bsQ (N := N) (H := H) (ps := parts.toList) hb
      refine opv_mem fun w0 S hS w a L s => ?_
      have hA' : evParts A' parts.toList = some l := by
        rw [evParts_congr fun x hx => ha x (by rw [ho]; simpa [Op.operands] using hx), hl]
      obtain ⟨u, w', e1, e2, e3⟩ := h2 A' hA' w0 S hS w a L s
      exact ⟨u, w', L, _, A', H, by simp only [Array.toArray_toList] at e1; simp [execOp, ho, e1], e2, e3, rfl, rfl, rfl⟩
  · obtain ⟨hp, h⟩ := h
    obtain ⟨r, h1, h2⟩ := opVC_pure hp h
    exact ⟨r, h1, fun H hle A' ha => opVC_sound (opVC_up hp hle (h2 A' ha))⟩

variable (P N) in
/-- An operation that reads what was there before (H0), or lays a block of its own; M: what is known of the new blocks when it comes. -/
def opF (d : Nat) (op : Op) (A : Fr) (H0 M : Hp) (K : AV → Option (Nat × Blk) → Prop) : Prop :=
  match op with
  | .buildSlice t len ps => match selOf P t, evParts A ps.toList with
    | some se, some l => Ob ((N.pn d = false ∧ 0 < se.size ∧ len * se.size ≤ 16777216) ∧ fillOk (fun i => some (i * se.size, se.size)) (len * se.size) l)
        (K (.own d 0 se.size len) (some (d, .cells (len * se.size) (fillF (fun i => some (i * se.size, se.size)) l (zF se.zero)))))
    | _, _ => False
  | .makeMap t none => match mapOf P t with
    | some _ => Ob (N.pn d = false) (K (.map d) (some (d, .mp [])))
    | none => False
  | .insert t m k x => withA (A.ev m) fun a => withA (A.ev k) fun b => withA (A.ev x) fun c => match mapOf P t, a, b with
    | some _, .map h, .v (.string s) => (match M h with
      | some (.mp kv) => Ob (kvStr kv = true) (Ob (kvHas s kv = false) (K .dead (some (h, .mp (kv ++ [(.string s, c)])))))
      | _ => False)
    | _, _, _ => False
  | .box _ x => withA (A.ev x) fun a => Ob (N.pn d = false) (match aggOf a with
    | some (n, g) => K (.ref d 0) (some (d, .cells n g))
    | none => Ob (a.one = true) (K (.ref d 0) (some (d, .cells 1 fun _ => a))))
  | .alloc t => match tyOf P t with
    | some ty => Ob (N.pn d = false) (K (.ref d 0) (some (d, .cells ty.size (zF ty.zero))))
    | none => False
  | op => opQ P N d op A H0 fun r => K r none

def isIns : Op → Bool
  | .insert .. => true
  | _ => false
/-- What it does in every heap that holds H0 (and M at its own name). -/
def FrOK (P : Program) (N : Cx) (o : Oper) (A : Fr) (H0 M : Hp) (r : AV) (b : Option (Nat × Blk)) : Prop :=
  ∀ A' H, (∀ x ∈ o.op.operands, A'.ev x = A.ev x) → Hp.le H0 H → (∀ d B, b = some (d, B) → H d = M d) →
    OpV P N o A' H fun r' A'' H'' => r' = r ∧ match b with
      | none => A'' = A' ∧ H'' = H
      | some (d, B) => if isIns o.op = true then A'' = A' ∧ H'' = H.upd d B else A'' = A'.scrub (· == d) ∧ H'' = (H.upd d B).scrub (· == d)
theorem ins_ok {mt : Option Value} {M : Hp} {a b c : AV} {K : AV → Option (Nat × Blk) → Prop} (h : match mt, a, b with
    | some _, .map h, .v (.string s) => (match M h with
      | some (.mp kv) => Ob (kvStr kv = true) (Ob (kvHas s kv = false) (K .dead (some (h, .mp (kv ++ [(.string s, c)])))))
      | _ => False)
    | _, _, _ => False) : ∃ v hh s kv, mt = some v ∧ a = .map hh ∧ b = .v (.string s) ∧ M hh = some (.mp kv) ∧ kvStr kv = true ∧ kvHas s kv = false ∧ K .dead (some (hh, .mp (kv ++ [(.string s, c)]))) := by
  cases mt with
  | none => exact h.elim
  | some v =>
    cases a with
    | map hh =>
      cases b with
      | v y =>
        cases y with
        | string s =>
          dsimp only at h
          cases e : M hh with
          | none => rw [e] at h; exact h.elim
          | some B =>
            rw [e] at h
            cases B with
            | cells n f => exact h.elim
            | mp kv => exact ⟨v, hh, s, kv, rfl, rfl, rfl, e, h.1, h.2.1, h.2.2⟩
        | _ => exact h.elim
      | _ => exact h.elim
    | _ => exact h.elim
theorem opF_ok {o : Oper} {M : Hp} {K : AV → Option (Nat × Blk) → Prop} (h : opF P N (o.dst.getD 0) o.op A H0 M K) : ∃ r b, K r b ∧ FrOK P N o A H0 M r b ∧ (isIns o.op = false → ∀ d B, b = some (d, B) → d = o.dst.getD 0) := by
  unfold opF at h
  split at h
  · rename_i t len ps ho
    split at h
    · rename_i se l hse hl
      obtain ⟨h1, hK⟩ := h
      refine ⟨_, _, hK, fun A' H ha _ _ => opVC_sound ?_, fun _ d B e => by simp only [Option.some.injEq, Prod.mk.injEq] at e; exact e.1.symm⟩
      rw [ho]
      have hA' : evParts A' ps.toList = some l := by
        rw [evParts_congr fun x hx => ha x (by rw [ho]; simpa [Op.operands] using hx), hl]
      simp only [opVC, bsVC, hse, hA']
      exact ⟨h1, by simp [isIns]⟩
    · exact h.elim
  · rename_i t ho
    split at h
    · rename_i v hv
      obtain ⟨h1, hK⟩ := h
      refine ⟨_, _, hK, fun A' H ha _ _ => opVC_sound ?_, fun _ d B e => by simp only [Option.some.injEq, Prod.mk.injEq] at e; exact e.1.symm⟩
      rw [ho]
      simp only [opVC, mmkVC, hv]
      exact ⟨h1, by simp [isIns]⟩
    · exact h.elim
  · rename_i t m k x ho
    obtain ⟨a, h1, h⟩ := withA_ok h
    obtain ⟨b, h2, h⟩ := withA_ok h
    obtain ⟨c, h3, h⟩ := withA_ok h
    obtain ⟨v, hh, s, kv, hv, rfl, rfl, hM, k1, k2, hK⟩ := ins_ok h
    refine ⟨_, _, hK, fun A' H ha _ hm => opVC_sound ?_, fun e => by rw [ho] at e; cases e⟩
    have e0 : H hh = some (.mp kv) := (hm _ _ rfl).trans hM
    rw [ho]
    have e1 : A'.ev m = some (.map hh) := by rw [ha m (by rw [ho]; simp [Op.operands]), h1]
    have e2 : A'.ev k = some (.v (.string s)) := by rw [ha k (by rw [ho]; simp [Op.operands]), h2]
    have e3 : A'.ev x = some c := by rw [ha x (by rw [ho]; simp [Op.operands]), h3]
    simp only [opVC, muVC, musVC, e1, e2, e3, withA, hv, e0]
    exact ⟨k1, k2, by simp [isIns]⟩
  · rename_i t x ho
    obtain ⟨a, h1, hpn, h⟩ := withA_ok h
    split at h
    · rename_i n g hg
      refine ⟨_, _, h, fun A' H ha _ _ => opVC_sound ?_, fun _ d B e => by simp only [Option.some.injEq, Prod.mk.injEq] at e; exact e.1.symm⟩
      rw [ho]
      have e1 : A'.ev x = some a := by rw [ha x (by rw [ho]; simp [Op.operands]), h1]
      simp only [opVC, e1, withA, boxVC, hg]
      exact ⟨hpn, by simp [isIns]⟩
    · rename_i hg
      obtain ⟨h2, hK⟩ := h
      refine ⟨_, _, hK, fun A' H ha _ _ => opVC_sound ?_, fun _ d B e => by simp only [Option.some.injEq, Prod.mk.injEq] at e; exact e.1.symm⟩
      rw [ho]
      have e1 : A'.ev x = some a := by rw [ha x (by rw [ho]; simp [Op.operands]), h1]
      simp only [opVC, e1, withA, boxVC, hg]
      exact ⟨hpn, h2, by simp [isIns]⟩
  · rename_i t ho
    split at h
    · rename_i ty hty
      obtain ⟨h1, hK⟩ := h
      refine ⟨_, _, hK, fun A' H ha _ _ => opVC_sound ?_, fun _ d B e => by simp only [Option.some.injEq, Prod.mk.injEq] at e; exact e.1.symm⟩
      rw [ho]
      simp only [opVC, alVC, hty]
      exact ⟨h1, by simp [isIns]⟩
    · exact h.elim
  · obtain ⟨r, hK, hr⟩ := opQ_up h
    refine ⟨r, none, hK, fun A' H ha hle _ => ?_, fun _ d B e => by cases e⟩
    intro w0 S hS w a L s next Q' hn
    exact hr H hle A' ha w0 S hS w a L s next Q' fun u r' L' A'' H'' w' s' hrd hk => hn u r' L' A'' H'' w' s' hrd ⟨hk.1, hk.2.1, hk.2.2⟩

theorem AV.scrub_le {p q : Nat → Bool} (h : ∀ x, p x = true → q x = true) : ∀ (a : AV), a.scrub q = a → a.scrub p = a := by
  have no : ∀ x, q x = false → p x = false := fun x hx => by
    cases e : p x with
    | false => rfl
    | true => have := h x e; rw [hx] at this; cases this
  intro a
  induction a with
  | own g off sz n =>
    intro e
    simp only [AV.scrub] at e ⊢
    cases hq : q g with
    | true => rw [hq] at e; simp at e
    | false => rw [no g hq]; rfl
  | ref g off =>
    intro e
    simp only [AV.scrub] at e ⊢
    cases hq : q g with
    | true => rw [hq] at e; simp at e
    | false => rw [no g hq]; rfl
  | map g =>
    intro e
    simp only [AV.scrub] at e ⊢
    cases hq : q g with
    | true => rw [hq] at e; simp at e
    | false => rw [no g hq]; rfl
  | agg n f ih =>
    intro e
    simp only [AV.scrub, AV.agg.injEq, true_and] at e ⊢
    funext i; exact ih i (congrFun e i)
  | tup n f ih =>
    intro e
    simp only [AV.scrub, AV.tup.injEq, true_and] at e ⊢
    funext i; exact ih i (congrFun e i)
  | clo g n f ih =>
    intro e
    simp only [AV.scrub, AV.clo.injEq, true_and] at e ⊢
    funext i; exact ih i (congrFun e i)
  | _ => intro _; rfl
theorem Blk.scrub_le {p q : Nat → Bool} (h : ∀ x, p x = true → q x = true) (B : Blk) (e : B.scrub q = B) : B.scrub p = B := by
  cases B with
  | cells n f =>
    simp only [Blk.scrub, Blk.cells.injEq, true_and] at e ⊢
    funext i; exact AV.scrub_le h _ (congrFun e i)
  | mp kv =>
    simp only [Blk.scrub, Blk.mp.injEq] at e ⊢
    refine (List.map_congr_left (g := id) fun x hx => ?_).trans (List.map_id kv)
    have : ∀ (l : List (Value × AV)), l.map (fun x => (x.1, x.2.scrub q)) = l → ∀ x ∈ l, x.2.scrub q = x.2 := by
      intro l
      induction l with
      | nil => intro _ x hx; cases hx
      | cons y r ih =>
        intro e x hx
        simp only [List.map_cons, List.cons.injEq] at e
        rcases List.mem_cons.1 hx with rfl | hx
        · exact congrArg Prod.snd e.1
        · exact ih e.2 x hx
    have h1 := AV.scrub_le h _ (this kv e x hx)
    simp [h1]

/-- The heap when the operations li have come. -/
def HsV (bs : List (Option (Nat × Blk))) (li : Nat → Bool) (H0 : Hp) : Nat → Hp
  | 0 => H0
  | n + 1 => match bs.getD n none with
    | some (d, B) => if li n then (HsV bs li H0 n).upd d B else HsV bs li H0 n
    | none => HsV bs li H0 n
section
variable {bs : List (Option (Nat × Blk))} {li li' : Nat → Bool}
def HsP (bs : List (Option (Nat × Blk))) (li : Nat → Bool) (H0 : Hp) (n h : Nat) : Prop :=
  (HsV bs li H0 n h = H0 h ∧ ∀ k B, k < n → li k = true → bs.getD k none ≠ some (h, B)) ∨ ∃ k B, k < n ∧ li k = true ∧ bs.getD k none = some (h, B) ∧ HsV bs li H0 n h = some B ∧ ∀ i B', k < i → i < n → li i = true → bs.getD i none ≠ some (h, B')
theorem HsV_val : ∀ n h, HsP bs li H0 n h
  | 0, h => .inl ⟨rfl, fun k _ hk => absurd hk (Nat.not_lt_zero _)⟩
  | n + 1, h => by
    have ih := HsV_val n h
    have same : HsV bs li H0 (n + 1) h = HsV bs li H0 n h → (∀ B, li n = true → bs.getD n none ≠ some (h, B)) → HsP bs li H0 (n + 1) h := fun e hn => by
      rcases ih with ⟨h1, h2⟩ | ⟨k, B, h1, h2, h3, h4, h5⟩
      · exact .inl ⟨e.trans h1, fun k B hk hl => by
          by_cases e2 : k = n
          · subst e2; exact hn B hl
          · exact h2 k B (by omega) hl⟩
      · exact .inr ⟨k, B, by omega, h2, h3, e.trans h4, fun i B' hi hi2 hl => by
          by_cases e2 : i = n
          · subst e2; exact hn B' hl
          · exact h5 i B' hi (by omega) hl⟩
    cases hb : bs.getD n none with
    | none => exact same (by simp only [HsV, hb]) (fun B _ e => by rw [hb] at e; cases e)
    | some x =>
      obtain ⟨d, B⟩ := x
      cases hl : li n with
      | false => exact same (by simp only [HsV, hb, hl]; rfl) (fun B h1 => by rw [hl] at h1; cases h1)
      | true =>
        by_cases e : h = d
        · subst e
          refine .inr ⟨n, B, by omega, hl, hb, by simp only [HsV, hb, hl, if_true, Hp.upd], fun i B' h1 h2 => by omega⟩
        · refine same (by simp only [HsV, hb, hl, if_true, Hp.upd, e, if_false]) (fun B' _ e2 => ?_)
          rw [hb] at e2
          simp only [Option.some.injEq, Prod.mk.injEq] at e2
          exact e e2.1.symm
theorem HsV_last {n j d : Nat} {B : Blk} (hj : j < n) (hl : li j = true) (hb : bs.getD j none = some (d, B)) (ho : ∀ i B', j < i → i < n → li i = true → bs.getD i none ≠ some (d, B')) : HsV bs li H0 n d = some B := by
  rcases HsV_val (H0 := H0) (bs := bs) (li := li) n d with ⟨_, h2⟩ | ⟨k, B', h1, h2, h3, h4, h5⟩
  · exact absurd hb (h2 j B hj hl)
  · rcases Nat.lt_trichotomy j k with h | h | h
    · exact absurd h3 (ho k B' h h1 h2)
    · subst h; rw [hb] at h3; simp only [Option.some.injEq, Prod.mk.injEq, true_and] at h3; rw [h3]; exact h4
    · exact absurd hb (h5 j B h hj hl)
theorem HsV_congr {h : Nat} : ∀ n, (∀ k B, k < n → bs.getD k none = some (h, B) → li k = li' k) → HsV bs li H0 n h = HsV bs li' H0 n h
  | 0, _ => rfl
  | n + 1, hc => by
    have ih := HsV_congr (h := h) n (fun k B hk hb => hc k B (by omega) hb)
    cases hb : bs.getD n none with
    | none => simp only [HsV, hb]; exact ih
    | some x =>
      obtain ⟨d, B⟩ := x
      by_cases e : h = d
      · subst e
        have := hc n B (by omega) hb
        simp only [HsV, hb, this]
        split
        · simp [Hp.upd]
        · exact ih
      · simp only [HsV, hb]
        have e1 : ∀ (b : Bool) (G : Hp), (if b = true then G.upd d B else G) h = G h := fun b G => by
          cases b
          · rfl
          · simp [Hp.upd, e]
        rw [e1, e1]; exact ih
theorem HsV_cut {h j : Nat} : ∀ n, j ≤ n → (∀ k B, j ≤ k → k < n → li k = true → bs.getD k none ≠ some (h, B)) → HsV bs li H0 n h = HsV bs li H0 j h
  | 0, hj, _ => by rw [show j = 0 by omega]
  | n + 1, hj, hc => by
    by_cases e : j = n + 1
    · rw [e]
    · have ih := HsV_cut (h := h) (j := j) n (by omega) (fun k B h1 h2 => hc k B h1 (by omega))
      cases hb : bs.getD n none with
      | none => simp only [HsV, hb]; exact ih
      | some x =>
        obtain ⟨d, B⟩ := x
        cases hl : li n with
        | false => simp only [HsV, hb, hl]; exact ih
        | true =>
          have hd : h ≠ d := fun e2 => by subst e2; exact hc n B (by omega) (by omega) hl hb
          simp only [HsV, hb, hl, if_true, Hp.upd, hd, if_false]; exact ih
end
def bad (tg a : List Nat) (h : Nat) : Bool := tg.contains h && !a.contains h
def badB (tg a : List Nat) (d h : Nat) : Bool := tg.contains h && (!a.contains h || h == d)
/-- What is known of an operation of the free part. -/
def FrFact (P : Program) (N : Cx) (tg a : List Nat) (o : Oper) (A : Fr) (H0 M : Hp) (r : AV) (b : Option (Nat × Blk)) : Prop :=
  FrOK P N o A H0 M r b ∧ (isIns o.op = false → ∀ d B, b = some (d, B) → d = o.dst.getD 0) ∧ r.scrub (bad tg a) = r ∧ ∀ d B, b = some (d, B) → a.contains d = true ∧ B.scrub (badB tg a d) = B
def frOk (ops : Array Oper) (m : Nat) (tg : List Nat) (an : List (List Nat)) : Bool :=
  preOk ops m && an.all (fun a => a.all fun d => tg.contains d) &&
  (List.range m).all fun k => (List.range m).all fun j => match ops[j]?, ops[k]? with
    | some oj, some ok => (isIns oj.op || (oj.dst.isSome && (!(an.getD k []).contains (oj.dst.getD 0) || j == k || preB ops ops.size k j))) && (!(isIns oj.op && isIns ok.op) || decide (k ≤ j) || preB ops ops.size k j)
    | _, _ => true
theorem preB_lt {ops : Array Oper} (hback : ∀ (j : Nat) (oj : Oper) (e : Edge), ops[j]? = some oj → e ∈ oj.after → Region.binds .any e = true → e.on < j) : ∀ (f j i : Nat), preB ops f j i = true → i < j
  | 0, j, i, h => by cases h
  | f + 1, j, i, h => by
    simp only [preB] at h
    split at h
    · cases h
    · rename_i o ho
      obtain ⟨e, he, hb⟩ := Array.any_eq_true'.1 h
      simp only [Bool.and_eq_true, Bool.or_eq_true, beq_iff_eq] at hb
      have h1 := hback j o e ho he hb.1
      rcases hb.2 with rfl | h2
      · exact h1
      · have := preB_lt hback f e.on i h2; omega
theorem frOk_ok {ops : Array Oper} {m : Nat} {tg : List Nat} {an : List (List Nat)} (h : frOk ops m tg an = true) : preOk ops m = true ∧
    (∀ k j oj, k < m → j < m → ops[j]? = some oj → isIns oj.op = false → (an.getD k []).contains (oj.dst.getD 0) = true → j = k ∨ preB ops ops.size k j = true) ∧
    (∀ j k oj ok, j < m → k < m → ops[j]? = some oj → ops[k]? = some ok → isIns oj.op = true → isIns ok.op = true → j < k → preB ops ops.size k j = true) ∧
    (∀ j oj, j < m → ops[j]? = some oj → isIns oj.op = false → oj.dst.isSome = true) ∧
    (∀ k, k < m → ∀ d, (an.getD k []).contains d = true → tg.contains d = true) := by
  simp only [frOk, Bool.and_eq_true, List.all_eq_true, List.mem_range] at h
  obtain ⟨⟨h1, h2⟩, h3⟩ := h
  obtain ⟨_, _, hmo, _⟩ := preOk_ok h1
  have at' : ∀ k, k < m → ∃ ok, ops[k]? = some ok := fun k hk => ⟨ops[k], by simp [show k < ops.size by omega]⟩
  refine ⟨h1, fun k j oj hk hj ho hi hc => ?_, fun j k oj ok hj hk ho hok hi hi2 hl => ?_, fun j oj hj ho hi => ?_, fun k hk d hd => ?_⟩
  · obtain ⟨ok, hok⟩ := at' k hk
    have := h3 k hk j hj
    rw [ho, hok] at this
    simp only [hi, hc, Bool.false_or, Bool.and_eq_true, Bool.or_eq_true, Bool.not_true, beq_iff_eq] at this
    exact this.1.2
  · have := h3 k hk j hj
    rw [ho, hok] at this
    simp only [hi, hi2, Bool.and_eq_true, Bool.or_eq_true, Bool.and_self, Bool.not_true, decide_eq_true_eq] at this
    rcases this.2 with (h | h) | h
    · cases h
    · omega
    · exact h
  · have := h3 j hj j hj
    rw [ho] at this
    simp only [hi, Bool.false_or, Bool.and_eq_true] at this
    exact this.1.1
  · by_cases hl : k < an.length
    · have := h2 (an.getD k []) (by rw [List.getD_eq_getElem?_getD, List.getElem?_eq_getElem hl]; exact List.getElem_mem _) d (by simpa using hd)
      exact this
    · rw [List.getD_eq_getElem?_getD, List.getElem?_eq_none (by omega)] at hd
      simp at hd

theorem fr_sound {ds : List Deferred} {ops : Array Oper} {m : Nat} {tg : List Nat} {an : List (List Nat)} {bs : List (Option (Nat × Blk))} {Q' : Exit → Act → World → Prop} {Qf : Fr → Hp → Prop} {A0 An : Fr} {rs : List AV} {w0 : World} {S : Rg} (hS : Good N w0 S) (hfok : frOk ops m tg an = true)
    (hN : ∀ (j t : Nat) (o : Oper), ops[j]? = some o → o.dst = some t → t < N.n)
    (hl1 : rs.length = m)
    (hstep : ∀ j o, j < m → ops[j]? = some o → ∃ Aj : Fr, (∀ t, Aj.get t = valL (ops.toList.take m) rs A0.get j t) ∧ FrFact P N tg (an.getD j []) o Aj H0 (HsV bs (fun _ => true) H0 j) (rs.getD j .dead) (bs.getD j none))
    (hA0 : ∀ t a, A0.get t = some a → a.scrub (fun x => tg.contains x) = a) (hH0 : ∀ h B, H0 h = some B → B.scrub (fun x => tg.contains x) = B) (hfree : ∀ d, tg.contains d = true → H0 d = none)
    (hAn : ∀ t, An.get t = valL (ops.toList.take m) rs A0.get m t)
    (hrest : opsVC P N (ops.toList.map (·.dst)) Qf (ops.toList.drop m) An (HsV bs (fun _ => true) H0 m))
    (hQ : ∀ (A : Fr) (H : Hp) (a : Act) (w : World) (L : Loc), Sim N.n w0 S w a.tmps L A H → a.defers = ds → Qf A H → Q' .normal a w) :
    ∀ (fuel : Nat) (listed : Array Bool) (s : List Nat) (a : Act) (w : World), listed.size = ops.size → s.Nodup → (∀ k, k ∈ s ↔ listed.getD k false = true) → s.length + fuel = ops.size →
      (∀ (k : Nat) (o : Oper) (e : Edge), listed.getD k false = true → ops[k]? = some o → e ∈ o.after → Region.binds .any e = true → listed.getD e.on false = true) → a.defers = ds →
      ((∃ (A : Fr) (L : Loc), Sim N.n w0 S w a.tmps L A (HsV bs (fun k => listed.getD k false) H0 m) ∧ (∀ k, m ≤ k → ¬ listed.getD k false = true) ∧
          (∀ (k t : Nat) (o : Oper), ops[k]? = some o → listed.getD k false = true → o.dst = some t → A.get t = some (rs.getD k .dead)) ∧
          (∀ t, (∀ (k : Nat) (o : Oper), ops[k]? = some o → listed.getD k false = true → o.dst ≠ some t) → A.get t = A0.get t)) ∨
       ∃ (j : Nat) (A : Fr) (H3 : Hp) (L : Loc), m ≤ j ∧ j ≤ ops.size ∧ (∀ k, listed.getD k false = true ↔ k < j) ∧ Sim N.n w0 S w a.tmps L A H3 ∧ opsVC P N (ops.toList.map (·.dst)) Qf (ops.toList.drop j) A H3) →
      wpAny P .any ops Q' fuel listed a w := by
  obtain ⟨hok, hord, hins, hdst, htg⟩ := frOk_ok hfok
  obtain ⟨hany, hguard, hm, hL⟩ := preOk_ok hok
  obtain ⟨hinj, hback, hdep⟩ := anyOk_ok hany
  have tl : ∀ j : Nat, ops.toList[j]? = ops[j]? := fun j => Array.getElem?_toList
  have tk : ∀ n j o, (ops.toList.take n)[j]? = some o → j < n ∧ ops[j]? = some o := fun n j o h => by
    rw [List.getElem?_take] at h
    split at h
    · rename_i hlt; exact ⟨hlt, by rw [← tl]; exact h⟩
    · cases h
  have tk' : ∀ n j o, j < n → ops[j]? = some o → (ops.toList.take n)[j]? = some o := fun n j o h ho => by
    rw [List.getElem?_take, if_pos h, tl]; exact ho
  have len1 : (ops.toList.take m).length = m := by simp; omega
  have hit1 : ∀ j k t o, k < j → j ≤ m → ops[k]? = some o → o.dst = some t → valL (ops.toList.take m) rs A0.get j t = some (rs.getD k .dead) := fun j k t o hk hj ho hd =>
    valL_hit _ rs _ j t k o (by rw [len1]; exact hl1) hk (tk' m k o (by omega) ho) hd fun k' o' ho' hd' => hinj k' k t o' o (tk m k' o' ho').2 ho hd' hd
  have miss1 : ∀ j t, (∀ k o, k < j → ops[k]? = some o → o.dst ≠ some t) → valL (ops.toList.take m) rs A0.get j t = A0.get t := fun j t h =>
    valL_miss _ rs _ j t fun k o hk ho => h k o hk (tk m k o ho).2
  -- once the first m are through, the frame is the walk's
  have fin : ∀ (listed : Array Bool) (A : Fr), (∀ k, k < m → listed.getD k false = true) → (∀ k, m ≤ k → ¬ listed.getD k false = true) →
      (∀ (k t : Nat) (o : Oper), ops[k]? = some o → listed.getD k false = true → o.dst = some t → A.get t = some (rs.getD k .dead)) →
      (∀ t, (∀ (k : Nat) (o : Oper), ops[k]? = some o → listed.getD k false = true → o.dst ≠ some t) → A.get t = A0.get t) → ∀ t, A.get t = An.get t := by
    intro listed A h1 h2 h3 h4 t
    rw [hAn]
    by_cases hw : ∃ (k : Nat) (o : Oper), k < m ∧ ops[k]? = some o ∧ o.dst = some t
    · obtain ⟨k, o, hk, ho, hdt⟩ := hw
      rw [hit1 m k t o hk (Nat.le_refl _) ho hdt, h3 k t o ho (h1 k hk) hdt]
    · rw [miss1 m t fun k o hk ho hdt => hw ⟨k, o, hk, ho, hdt⟩]
      refine h4 t fun k o ho hl hdt => ?_
      rcases Nat.lt_or_ge k m with h | h
      · exact hw ⟨k, o, h, ho, hdt⟩
      · exact h2 k h hl
  have finH : ∀ (listed : Array Bool), (∀ k, k < m → listed.getD k false = true) → HsV bs (fun k => listed.getD k false) H0 m = HsV bs (fun _ => true) H0 m := fun listed hl => by
    funext h
    exact HsV_congr m fun k B hk _ => hl k hk
  intro fuel
  induction fuel with
  | zero =>
    intro listed s a w hsz hn hs hc hcl hd hst
    have hlt : ∀ k ∈ s, k < ops.size := fun k hk => by
      have := (hs k).1 hk
      rcases Nat.lt_or_ge k listed.size with h | h
      · omega
      · simp [Array.getD, show ¬ k < listed.size by omega] at this
    have hall : ∀ k, k < ops.size → listed.getD k false = true := fun k hk => (hs k).1 ((Go.Plain.nodup_iff_all (by omega) hlt).1 hn k hk)
    refine ⟨?_, ?_⟩
    · refine List.eq_nil_iff_forall_not_mem.2 fun j hj => ?_
      obtain ⟨h1, o, ho, _⟩ := mem_ready.1 hj
      have hj' : j < ops.size := (Array.getElem?_eq_some_iff.1 ho).1
      have := hall j hj'
      simp [Array.getD, hsz, hj'] at h1 this
      rw [h1] at this; cases this
    · rcases hst with ⟨A, L, sim, h2, h3, h4⟩ | ⟨j, A, H3, L, hj1, hj2, hj3, sim, hv⟩
      · have hsize : ops.size = m := by
          rcases Nat.lt_or_ge m ops.size with h | h
          · exact absurd (hall m h) (h2 m (Nat.le_refl _))
          · omega
        rw [List.drop_eq_nil_of_le (by simp; omega)] at hrest
        rw [finH listed fun k hk => hall k (by omega)] at sim
        exact hQ _ _ a w L (sim.sub (A' := An) fun t x hx => by rw [fin listed A (fun k hk => hall k (by omega)) h2 h3 h4 t]; exact hx) hd hrest
      · have : j = ops.size := by
          rcases Nat.lt_or_ge j ops.size with h | h
          · have := (hj3 j).1 (hall j h); omega
          · omega
        rw [List.drop_eq_nil_of_le (by simp; omega)] at hv
        exact hQ A H3 a w L sim hd hv
  | succ fuel ih =>
    intro listed s a w hsz hn hs hc hcl hd hst
    have ld : ∀ k, k < ops.size → (listed.getD k true = false ↔ ¬ listed.getD k false = true) := by
      intro k hk
      simp [Array.getD, hsz, hk]
    have hex : ∃ k, k < ops.size ∧ ¬ listed.getD k false = true := by
      refine Classical.byContradiction fun hno => ?_
      have : ∀ x ∈ List.range ops.size, x ∈ s := fun x hx => (hs x).2 (Classical.byContradiction fun h => hno ⟨x, by simpa using hx, h⟩)
      have := Go.Plain.nodup_le s (List.range ops.size) List.nodup_range this
      simp at this; omega
    refine ⟨fun h => absurd h (ready_ne hsz hback hex), fun i hi => ?_⟩
    obtain ⟨hun0, oi, hoi, hall⟩ := mem_ready.1 hi
    have hi' : i < ops.size := (Array.getElem?_eq_some_iff.1 hoi).1
    have hun := (ld i hi').1 hun0
    have g1 : ∀ k, (listed.setIfInBounds i true).getD k false = true ↔ (k = i ∨ listed.getD k false = true) := by
      intro k
      by_cases hk : k = i
      · subst hk; simp [Array.getD, hsz, hi']
      · rw [getD_set_ne false (Ne.symm hk)]; simp [hk]
    have next := fun (a' : Act) (w' : World) (hd' : a'.defers = ds) => ih (listed.setIfInBounds i true) (i :: s) a' w' (by simp [hsz]) (List.nodup_cons.2 ⟨fun h => hun ((hs i).1 h), hn⟩) (fun k => by rw [g1, List.mem_cons, hs]) (by simp only [List.length_cons]; omega)
      (fun k o e hk ho he hb => by
        rw [g1] at hk ⊢
        rcases hk with rfl | hk
        · rw [hoi] at ho; simp only [Option.some.injEq] at ho; subst ho
          exact .inr (hall e he hb)
        · exact .inr (hcl k o e hk ho he hb)) hd'
    have hNi := fun t h => hN i t oi hoi h
    unfold wpOp
    simp only [hoi]
    rw [if_pos (by simp [Region.wanted, hguard i oi hoi])]
    left
    have right : ∀ (A : Fr) (H3 : Hp) (L : Loc), m ≤ i → (∀ k, listed.getD k false = true ↔ k < i) → Sim N.n w0 S w a.tmps L A H3 → opsVC P N (ops.toList.map (·.dst)) Qf (ops.toList.drop i) A H3 → owp P oi a w (wpAny P .any ops Q' fuel (listed.setIfInBounds i true)) Q' := by
      intro A H3 L hmi hj3 sim hv
      have hd1 : ops.toList.drop i = oi :: ops.toList.drop (i + 1) := by
        rw [List.drop_eq_getElem_cons (by simpa using hi')]
        congr 1
        have := Array.getElem?_eq_some_iff.1 hoi
        obtain ⟨_, e⟩ := this
        simpa using e
      rw [hd1] at hv
      simp only [opsVC, hguard i oi hoi] at hv
      refine opVC_sound hv w0 S hS w a L sim _ Q' ?_
      intro u r L' A' H4 w' s' hr hk
      refine next _ _ (by rw [put_defers]; exact hd) (.inr ⟨i + 1, _, H4, L', by omega, by omega, fun k => ?_, s'.putd hNi hr, hk⟩)
      rw [g1, hj3]; omega
    rcases hst with ⟨A, L, sim, hhi, hlow, hrst⟩ | ⟨j, A, H3, L, hj1, hj2, hj3, sim, hv⟩
    case inr =>
      have hij : i = j := by
        have h1 : ¬ i < j := fun h => hun ((hj3 i).2 h)
        rcases Nat.lt_or_ge j i with h | h
        · have := pre_ready hcl hoi hall (hL i j hi' (by omega) h)
          have := (hj3 j).1 this
          omega
        · omega
      subst hij
      exact right A H3 L hj1 hj3 sim hv
    rcases Nat.lt_or_ge i m with him | him
    · obtain ⟨Ai, hAi, hop, hdi, hsr, hsb⟩ := hstep i oi him hoi
      -- the names that the operation lays
      have hle : Hp.le H0 (HsV bs (fun k => listed.getD k false) H0 m) := fun h B hB => by
        rcases HsV_val (H0 := H0) (bs := bs) (li := fun k => listed.getD k false) m h with ⟨h1, _⟩ | ⟨k, B', h1, h2, h3, h4, _⟩
        · rw [h1]; exact hB
        · obtain ⟨ok, hok'⟩ : ∃ ok, ops[k]? = some ok := ⟨ops[k], by simp [show k < ops.size by omega]⟩
          obtain ⟨_, _, _, _, _, hsb'⟩ := hstep k ok h1 hok'
          have := hfree h (htg k h1 h (hsb' h B' h3).1)
          rw [this] at hB; cases hB
      -- operations of one target come in their order
      have hsame : ∀ k d B B', k < m → k ≠ i → bs.getD i none = some (d, B) → bs.getD k none = some (d, B') → (listed.getD k false = true ↔ k < i) := fun k d B B' hk hki hbi hbk => by
        obtain ⟨ok, hok'⟩ : ∃ ok, ops[k]? = some ok := ⟨ops[k], by simp [show k < ops.size by omega]⟩
        obtain ⟨_, _, _, hdk, _, hsbk⟩ := hstep k ok hk hok'
        have hi1 := (hsb d B hbi).1
        have hk1 := (hsbk d B' hbk).1
        have up : preB ops ops.size i k = true → k < i ∧ listed.getD k false = true := fun h => by
          refine ⟨preB_lt hback ops.size i k h, pre_ready hcl hoi hall h⟩
        have dn : preB ops ops.size k i = true → i < k ∧ ¬ listed.getD k false = true := fun h => ⟨preB_lt hback ops.size k i h, fun hl => hun (pre_listed hcl ops.size k i h hl)⟩
        cases e1 : isIns ok.op with
        | false =>
          have ed := hdk e1 d B' hbk
          rcases hord i k ok him hk hok' e1 (by rw [← ed]; exact hi1) with h | h
          · exact absurd h hki
          · have := up h; exact ⟨fun _ => this.1, fun _ => this.2⟩
        | true =>
          cases e2 : isIns oi.op with
          | false =>
            have ed := hdi e2 d B hbi
            rcases hord k i oi hk him hoi e2 (by rw [← ed]; exact hk1) with h | h
            · exact absurd h.symm hki
            · have := dn h; exact ⟨fun hl => absurd hl this.2, fun hl => by omega⟩
          | true =>
            rcases Nat.lt_or_ge k i with h | h
            · have := up (hins k i ok oi (by omega) him hok' hoi e1 e2 h); exact ⟨fun _ => this.1, fun _ => this.2⟩
            · have := dn (hins i k oi ok (by omega) hk hoi hok' e2 e1 (by omega)); exact ⟨fun hl => absurd hl this.2, fun hl => by omega⟩
      have hat : ∀ d B, bs.getD i none = some (d, B) → HsV bs (fun k => listed.getD k false) H0 m d = HsV bs (fun _ => true) H0 i d := fun d B hbi => by
        rw [HsV_cut (li := fun k => listed.getD k false) (j := i) m (by omega) fun k B' h1 h2 hl hbk => ?_]
        · exact HsV_congr i fun k B' hk hbk => (hsame k d B B' (by omega) (by omega) hbi hbk).2 hk
        · by_cases e : k = i
          · subst e; exact hun hl
          · have := (hsame k d B B' h2 e hbi hbk).1 hl; omega
      have hput : ∀ d B, bs.getD i none = some (d, B) → HsV bs (fun k => (listed.setIfInBounds i true).getD k false) H0 m = (HsV bs (fun k => listed.getD k false) H0 m).upd d B := fun d B hbi => by
        funext h
        by_cases e : h = d
        · subst e
          rw [HsV_last (li := fun k => (listed.setIfInBounds i true).getD k false) him ((g1 i).2 (.inl rfl)) hbi fun k B' h1 h2 hl hbk => ?_]
          · simp [Hp.upd]
          · have hl' := ((g1 k).1 hl).resolve_left (by omega)
            have := (hsame k h B B' h2 (by omega) hbi hbk).1 hl'; omega
        · simp only [Hp.upd, e, if_false]
          refine HsV_congr m fun k B' hk hbk => ?_
          have hki : k ≠ i := fun e2 => by
            subst e2; rw [hbi] at hbk; simp only [Option.some.injEq, Prod.mk.injEq] at hbk; exact e hbk.1.symm
          exact getD_set_ne false (Ne.symm hki)
      have hnone : bs.getD i none = none → HsV bs (fun k => (listed.setIfInBounds i true).getD k false) H0 m = HsV bs (fun k => listed.getD k false) H0 m := fun hbi => by
        funext h
        refine HsV_congr m fun k B' hk hbk => ?_
        have hki : k ≠ i := fun e2 => by subst e2; rw [hbi] at hbk; cases hbk
        exact getD_set_ne false (Ne.symm hki)
      refine hop A _ (fun x hx => ?_) hle (fun d B hb => hat d B hb) w0 S hS w a L sim _ Q' ?_
      · cases x with
        | tmp t =>
          have ht : t ∈ oi.looksAt ops := List.mem_append_left _ (List.mem_filterMap.2 ⟨.tmp t, by simpa using hx, rfl⟩)
          show A.get t = Ai.get t
          rw [hAi]
          by_cases hx : ∃ (k : Nat) (o : Oper), ops[k]? = some o ∧ o.dst = some t
          · obtain ⟨k, o, ho, hdt⟩ := hx
            have free : ¬ listed.getD k false = true → i ≤ k → A.get t = valL (ops.toList.take m) rs A0.get i t := fun h1 h2 => by
              rw [hrst t fun k' o' ho' hl' e => h1 (hinj k' k t o' o ho' ho e hdt ▸ hl'), miss1 i t fun k' o' hk' ho' e => by have := hinj k' k t o' o ho' ho e hdt; omega]
            by_cases hki : k = i
            · subst hki; exact free hun (Nat.le_refl _)
            · rcases hdep k i t o oi hki ho hoi hdt ht with ⟨e, he, hb, rfl⟩ | ⟨e, he, hb, rfl⟩
              · have hk := hback i oi e hoi he hb
                rw [hlow e.on t o ho (hall e he hb) hdt, hit1 i e.on t o hk (by omega) ho hdt]
              · have h2 := hback k o e ho he hb
                exact free (fun h => hun (hcl k o e h ho he hb)) (by omega)
          · rw [hrst t fun k o ho _ e => hx ⟨k, o, ho, e⟩, miss1 i t fun k o _ ho e => hx ⟨k, o, ho, e⟩]
        | const v => rfl
        | global g => rfl
        | func f => rfl
      · rintro u rr L' A' H4 w' s' hr ⟨hrr, hb⟩
        subst hrr
        -- what the frame and the heap say behind it
        have hgo : (∀ t, (∀ (k : Nat) (o : Oper), ops[k]? = some o → listed.getD k false = true → k ≠ i → o.dst = some t → A'.get t = some (rs.getD k .dead))) → (∀ t, (∀ (k : Nat) (o : Oper), ops[k]? = some o → listed.getD k false = true → o.dst ≠ some t) → A'.get t = A0.get t) → H4 = HsV bs (fun k => (listed.setIfInBounds i true).getD k false) H0 m →
            wpAny P .any ops Q' fuel (listed.setIfInBounds i true) (a.put oi.dst u) w' := fun h1 h2 h3 => by
          subst h3
          refine next _ _ (by rw [put_defers]; exact hd) (.inl ⟨_, L', s'.putd hNi hr, fun k hk hl => ?_, fun k t o ho hl hdt => ?_, fun t ht => ?_⟩)
          · rcases (g1 k).1 hl with h | h
            · omega
            · exact hhi k hk h
          · rw [putd_get]
            by_cases hki : k = i
            · subst hki
              rw [hoi] at ho; simp only [Option.some.injEq] at ho; subst ho
              rw [if_pos hdt]
            · rw [if_neg fun e => hki (hinj k i t o oi ho hoi hdt e)]
              exact h1 t k o ho (((g1 k).1 hl).resolve_left hki) hki hdt
          · rw [putd_get, if_neg (ht i oi hoi ((g1 i).2 (.inl rfl)))]
            exact h2 t fun k o ho hk => ht k o ho ((g1 k).2 (.inr hk))
        cases hbi : bs.getD i none with
        | none =>
          rw [hbi] at hb
          obtain ⟨rfl, rfl⟩ := hb
          exact hgo (fun t k o ho hl _ hdt => hlow k t o ho hl hdt) hrst (hnone hbi).symm
        | some x =>
          obtain ⟨d, B⟩ := x
          rw [hbi] at hb
          simp only at hb
          split at hb
          · obtain ⟨rfl, rfl⟩ := hb
            exact hgo (fun t k o ho hl _ hdt => hlow k t o ho hl hdt) hrst (hput d B hbi).symm
          · rename_i hni
            obtain ⟨rfl, rfl⟩ := hb
            have hni' : isIns oi.op = false := by simpa using hni
            have ed := hdi hni' d B hbi
            have hdtg := htg i him d (hsb d B hbi).1
            have hbad : ∀ k, k < m → k ≠ i → listed.getD k false = true → ∀ x, (x == d) = true → bad tg (an.getD k []) x = true := fun k hk hki hl x hx => by
              have hx' : x = d := by simpa using hx
              subst hx'
              unfold bad
              rw [hdtg, Bool.true_and]
              cases e : (an.getD k []).contains x with
              | false => rfl
              | true =>
                rcases hord k i oi hk him hoi hni' (by rw [← ed]; exact e) with h | h
                · exact absurd h.symm hki
                · exact absurd (pre_listed hcl ops.size k i h hl) hun
            have htgd : ∀ x, (x == d) = true → (fun x => tg.contains x) x = true := fun x hx => by
              have hx' : x = d := by simpa using hx
              subst hx'; exact hdtg
            refine hgo (fun t k o ho hl hki hdt => ?_) (fun t ht => ?_) ?_
            · have hk : k < m := by
                rcases Nat.lt_or_ge k m with h | h
                · exact h
                · exact absurd hl (hhi k h)
              rw [Fr.get_scrub, hlow k t o ho hl hdt]
              obtain ⟨_, _, _, _, hsrk, _⟩ := hstep k o hk ho
              simp only [Option.map_some, Option.some.injEq]
              exact AV.scrub_le (hbad k hk hki hl) _ hsrk
            · rw [Fr.get_scrub, hrst t ht]
              cases e : A0.get t with
              | none => rfl
              | some x => simp only [Option.map_some, Option.some.injEq]; exact AV.scrub_le htgd _ (hA0 t x e)
            · rw [hput d B hbi]
              funext h
              unfold Hp.scrub
              by_cases e : h = d
              · subst e
                simp only [Hp.upd, if_true, Option.map_some, Option.some.injEq]
                refine Blk.scrub_le (q := badB tg (an.getD i []) h) (fun x hx => ?_) _ (hsb h B hbi).2
                have hx' : x = h := by simpa using hx
                subst hx'
                unfold badB
                rw [hdtg]; simp
              · simp only [Hp.upd, e, if_false]
                rcases HsV_val (H0 := H0) (bs := bs) (li := fun k => listed.getD k false) m h with ⟨h1, _⟩ | ⟨k, B', h1, h2, h3, h4, _⟩
                · rw [h1]
                  cases e2 : H0 h with
                  | none => rfl
                  | some B2 => simp only [Option.map_some, Option.some.injEq]; exact Blk.scrub_le htgd _ (hH0 h B2 e2)
                · rw [h4]
                  simp only [Option.map_some, Option.some.injEq]
                  have hki : k ≠ i := fun e2 => by subst e2; exact hun h2
                  obtain ⟨ok, hok'⟩ : ∃ ok, ops[k]? = some ok := ⟨ops[k], by simp [show k < ops.size by omega]⟩
                  obtain ⟨_, _, _, _, _, hsbk⟩ := hstep k ok h1 hok'
                  refine Blk.scrub_le (q := badB tg (an.getD k []) h) (fun x hx => ?_) _ (hsbk h B' h3).2
                  have := hbad k h1 hki h2 x hx
                  unfold bad at this
                  unfold badB
                  simp only [Bool.and_eq_true] at this ⊢
                  exact ⟨this.1, by rw [this.2]; rfl⟩
    · have hlw : ∀ k, k < i → listed.getD k false = true := fun k hk => pre_ready hcl hoi hall (hL i k hi' him hk)
      have him1 : i = m := by
        rcases Nat.lt_or_ge m i with h | h
        · exact absurd (hlw m h) (hhi m (Nat.le_refl _))
        · omega
      subst him1
      rw [finH listed hlw] at sim
      refine right An _ L him (fun k => ⟨fun h => ?_, hlw k⟩) (sim.sub fun t x hx => by rw [fin listed A hlw hhi hlow hrst t]; exact hx) hrest
      rcases Nat.lt_or_ge k i with h2 | h2
      · exact h2
      · exact absurd h (hhi k h2)


variable (P N) in
/-- The free part, read in its order. -/
def opsF (tg : List Nat) (Q : Fr → Hp → Prop) : List Oper → List (List Nat) → Fr → Hp → Hp → Prop
  | [], _, A, _, M => Q A M
  | o :: l, an, A, H0, M => opF P N (o.dst.getD 0) o.op A H0 M fun r b => Ob (r.scrub (bad tg (an.headD [])) = r) (match b with
    | none => opsF tg Q l an.tail (putd o.dst r A) H0 M
    | some (d, B) => Ob ((an.headD []).contains d = true ∧ B.scrub (badB tg (an.headD []) d) = B) (opsF tg Q l an.tail (putd o.dst r A) H0 (M.upd d B)))
def LexF (P : Program) (N : Cx) (tg : List Nat) (Q : Fr → Hp → Prop) (H0 : Hp) (l : List Oper) (an : List (List Nat)) (A : Fr) (M : Hp) : Prop :=
    ∃ (rs : List AV) (bs : List (Option (Nat × Blk))) (An : Fr), rs.length = l.length ∧ bs.length = l.length ∧ Q An (HsV bs (fun _ => true) M l.length) ∧ (∀ t, An.get t = valL l rs A.get l.length t) ∧
      ∀ j o, j < l.length → l[j]? = some o → ∃ Aj : Fr, (∀ t, Aj.get t = valL l rs A.get j t) ∧ FrFact P N tg (an.getD j []) o Aj H0 (HsV bs (fun _ => true) M j) (rs.getD j .dead) (bs.getD j none)
theorem HsV_no {bs : List (Option (Nat × Blk))} {li : Nat → Bool} (h : ∀ n, li n = false) : ∀ n, HsV bs li H0 n = H0
  | 0 => rfl
  | n + 1 => by
    simp only [HsV, h n, HsV_no h n]
    split <;> rfl
theorem opsF_lex {tg : List Nat} {Q : Fr → Hp → Prop} : ∀ (l : List Oper) (an : List (List Nat)) (A : Fr) (M : Hp), opsF P N tg Q l an A H0 M → LexF P N tg Q H0 l an A M
  | [], an, A, M, h => ⟨[], [], A, rfl, rfl, h, fun t => rfl, fun j o hj => absurd hj (Nat.not_lt_zero _)⟩
  | o :: l, an, A, M, h => by
    obtain ⟨r, b, h1, h2, h3⟩ := opF_ok h
    obtain ⟨h4, h5⟩ := h1
    have e0 : an.getD 0 [] = an.headD [] := by cases an <;> rfl
    have ej : ∀ j, an.getD (j + 1) [] = an.tail.getD j [] := fun j => by cases an <;> simp
    have shift : ∀ (bs : List (Option (Nat × Blk))) n, HsV (b :: bs) (fun _ => true) M (n + 1) = HsV bs (fun _ => true) (HsV [b] (fun _ => true) M 1) n := by
      intro bs n
      induction n with
      | zero => rfl
      | succ n ih =>
        have e1 : (b :: bs).getD (n + 1) none = bs.getD n none := by simp
        show (match (b :: bs).getD (n + 1) none with
          | some (d, B) => if (fun _ => true) (n + 1) then (HsV (b :: bs) (fun _ => true) M (n + 1)).upd d B else HsV (b :: bs) (fun _ => true) M (n + 1)
          | none => HsV (b :: bs) (fun _ => true) M (n + 1)) = _
        rw [e1, ih]
        rfl
    have key : ∀ M1, M1 = HsV [b] (fun _ => true) M 1 → (∀ d B, b = some (d, B) → (an.headD []).contains d = true ∧ B.scrub (badB tg (an.headD []) d) = B) → opsF P N tg Q l an.tail (putd o.dst r A) H0 M1 → LexF P N tg Q H0 (o :: l) an A M := fun M1 hM hsb hr => by
      obtain ⟨rs, bs, An, k1, k2, k3, k4, k5⟩ := opsF_lex l an.tail _ M1 hr
      subst hM
      have gv : ∀ n t, valL (o :: l) (r :: rs) A.get (n + 1) t = valL l rs (putd o.dst r A).get n t := fun n t => by
        have : (putd o.dst r A).get = fun t => if o.dst = some t then some r else A.get t := by funext t; exact putd_get _ _ _ _
        rw [this]; rfl
      exact ⟨r :: rs, b :: bs, An, by simp [k1], by simp [k2], by rw [List.length_cons, shift]; exact k3, fun t => by rw [List.length_cons, gv]; exact k4 t, fun j o' hj ho' => by
        cases j with
        | zero =>
          simp only [List.getElem?_cons_zero, Option.some.injEq] at ho'
          subst ho'
          refine ⟨A, fun t => rfl, ?_⟩
          rw [e0]
          exact ⟨h2, h3, h4, hsb⟩
        | succ j =>
          obtain ⟨Aj, q1, q2⟩ := k5 j o' (by simpa using hj) (by simpa using ho')
          refine ⟨Aj, fun t => by rw [gv]; exact q1 t, ?_⟩
          rw [ej, shift]
          simpa using q2⟩
    cases hb : b with
    | none =>
      rw [hb] at h5
      exact key M (by rw [hb]; rfl) (fun d B e => by rw [hb] at e; cases e) h5
    | some x =>
      obtain ⟨d, B⟩ := x
      rw [hb] at h5
      exact key (M.upd d B) (by rw [hb]; rfl) (fun d' B' e => by rw [hb] at e; simp only [Option.some.injEq, Prod.mk.injEq] at e; obtain ⟨rfl, rfl⟩ := e; exact h5.1) h5.2

def noneAll (H : Hp) : List Nat → Prop
  | [] => True
  | d :: r => H d = none ∧ noneAll H r
theorem noneAll_ok : ∀ {tg : List Nat}, noneAll H tg → ∀ d, tg.contains d = true → H d = none
  | [], _, d, hd => by simp at hd
  | e :: r, h, d, hd => by
    simp only [List.contains_cons, Bool.or_eq_true, beq_iff_eq] at hd
    rcases hd with rfl | hd
    · exact h.1
    · exact noneAll_ok h.2 d hd
theorem awp_regionF (m : Nat) (tg : List Nat) (an : List (List Nat)) {id : Nat} {l : List Oper} {Q : Exit → Fr → Hp → Prop} (hm : P.follows .mixedOrders = true) (hB : frOk l.toArray m tg an = true) (hN : dstsOk N l = true)
    (hA : A.scrub (fun x => tg.contains x) = A) (hH : H.scrub (fun x => tg.contains x) = H) (hn : noneAll H tg)
    (h : opsF P N tg (fun A1 M => opsVC P N (l.map (·.dst)) (Q .normal) (l.drop m) A1 M) (l.take m) an A H H) : AWP P N (.region id l.toArray true) Q A H := by
  have hmem := dstsOk_mem hN
  obtain ⟨hok, _⟩ := frOk_ok hB
  obtain ⟨hany, hguard, hmm, hL⟩ := preOk_ok hok
  have hml : m ≤ l.length := by simpa using hmm
  obtain ⟨rs, bs, An, k1, k2, k3, k4, k5⟩ := opsF_lex _ _ A H h
  have lm : (l.take m).length = m := by simp; omega
  rw [lm] at k1 k2 k3 k4
  refine awp_ex fun w0 S hS w a L s ds hd => ?_
  have s1 : Sim N.n w0 S w.drew a.tmps L A H := s.drew
  refine wp_region_any hm ?_
  have e0 : HsV bs (fun k => (Array.replicate l.toArray.size false).getD k false) H m = H := HsV_no (fun n => by simp [Array.getD]) m
  refine fr_sound (ops := l.toArray) (A0 := A) (An := An) (rs := rs) (H0 := H) (m := m) (bs := bs) (tg := tg) (an := an) (Qf := Q .normal) hS hB (fun j t o ho hdt => hmem o (List.mem_of_getElem? (by simpa using ho)) t hdt) k1 ?_ ?_ ?_ (noneAll_ok hn) k4 k3 ?_ _ _ [] a _ (by simp) List.nodup_nil ?_ (by simp) ?_ hd (.inl ⟨A, L, by rw [e0]; exact s1, ?_, ?_, ?_⟩)
  · intro j o' hj ho'
    exact k5 j o' (by rw [lm]; exact hj) (by rw [List.getElem?_take, if_pos hj]; simpa using ho')
  · intro t x hx
    have := Fr.get_scrub (fun x => tg.contains x) A t
    rw [hA, hx] at this
    simpa using this.symm
  · intro x B hB
    have := congrFun hH x
    unfold Hp.scrub at this
    rw [hB] at this
    simpa using this
  · intro A' H3 a' w' L' s' hd' hq
    exact ⟨L', A', H3, s', hd', hq⟩
  · intro k; simp [Array.getD]
  · intro k o e hk; simp [Array.getD] at hk
  · intro k _ hk; simp [Array.getD] at hk
  · intro k t o _ hk; simp [Array.getD] at hk
  · intro t _; rfl
theorem awp_regionFK (ks m : Nat) (tg : List Nat) (an : List (List Nat)) {id : Nat} {l : List Oper} {Q : Exit → Fr → Hp → Prop} (hm : P.follows .mixedOrders = true) (hB : frOk l.toArray m tg an = true) (hN : dstsOk N l = true)
    (hA : A.scrub (fun x => tg.contains x) = A) (hH : H.scrub (fun x => tg.contains x) = H) (hn : noneAll H tg)
    (h : opsF P N tg (fun A1 M => opsVC P N (l.map (·.dst)) (keepQ ks Q .normal) (l.drop m) A1 M) (l.take m) an A H H) : AWP P N (.region id l.toArray true) Q A H :=
  awp_weak (awp_regionF m tg an hm hB hN hA hH hn h) keepQ_weak

section
variable (d : Nat) (A : Fr) (H0 M : Hp) (K : AV → Option (Nat × Blk) → Prop)
theorem opF_move (x : Operand) : opF P N d (.move x) A H0 M K = opQ P N d (.move x) A H0 fun r => K r none := rfl
theorem opF_load (t : TypeId) (x : Operand) : opF P N d (.load t x) A H0 M K = opQ P N d (.load t x) A H0 fun r => K r none := rfl
theorem opF_fieldAddr (t : TypeId) (x : Operand) (i : Nat) : opF P N d (.fieldAddr t x i) A H0 M K = opQ P N d (.fieldAddr t x i) A H0 fun r => K r none := rfl
theorem opF_indexAddr (t : TypeId) (x y : Operand) : opF P N d (.indexAddr t x y) A H0 M K = opQ P N d (.indexAddr t x y) A H0 fun r => K r none := rfl
theorem opF_nilCheck (x : Operand) : opF P N d (.nilCheck x) A H0 M K = opQ P N d (.nilCheck x) A H0 fun r => K r none := rfl
theorem opF_call (c : Call) : opF P N d (.call c) A H0 M K = opQ P N d (.call c) A H0 fun r => K r none := rfl
theorem opF_binOp (o : BinOp) (t : TypeId) (x y : Operand) (u : TypeId) : opF P N d (.binOp o t x y u) A H0 M K = opQ P N d (.binOp o t x y u) A H0 fun r => K r none := rfl
theorem opF_build (t : TypeId) (ps : Array (Nat × Operand)) : opF P N d (.build t ps) A H0 M K = opQ P N d (.build t ps) A H0 fun r => K r none := rfl
theorem opF_bs (t : TypeId) (len : Nat) (ps : Array (Nat × Operand)) : opF P N d (.buildSlice t len ps) A H0 M K = (match selOf P t, evParts A ps.toList with
    | some se, some l => Ob ((N.pn d = false ∧ 0 < se.size ∧ len * se.size ≤ 16777216) ∧ fillOk (fun i => some (i * se.size, se.size)) (len * se.size) l)
        (K (.own d 0 se.size len) (some (d, .cells (len * se.size) (fillF (fun i => some (i * se.size, se.size)) l (zF se.zero)))))
    | _, _ => False) := rfl
theorem opF_mk (t : TypeId) : opF P N d (.makeMap t none) A H0 M K = (match mapOf P t with
    | some _ => Ob (N.pn d = false) (K (.map d) (some (d, .mp [])))
    | none => False) := rfl
theorem opF_ins (t : TypeId) (m k x : Operand) : opF P N d (.insert t m k x) A H0 M K = (withA (A.ev m) fun a => withA (A.ev k) fun b => withA (A.ev x) fun c => match mapOf P t, a, b with
    | some _, .map h, .v (.string s) => (match M h with
      | some (.mp kv) => Ob (kvStr kv = true) (Ob (kvHas s kv = false) (K .dead (some (h, .mp (kv ++ [(.string s, c)])))))
      | _ => False)
    | _, _, _ => False) := rfl
theorem opF_box (t : TypeId) (x : Operand) : opF P N d (.box t x) A H0 M K = (withA (A.ev x) fun a => Ob (N.pn d = false) (match aggOf a with
    | some (n, g) => K (.ref d 0) (some (d, .cells n g))
    | none => Ob (a.one = true) (K (.ref d 0) (some (d, .cells 1 fun _ => a))))) := rfl
theorem opF_alloc (t : TypeId) : opF P N d (.alloc t) A H0 M K = (match tyOf P t with
    | some ty => Ob (N.pn d = false) (K (.ref d 0) (some (d, .cells ty.size (zF ty.zero))))
    | none => False) := rfl
theorem opsF_nil (tg : List Nat) (Q : Fr → Hp → Prop) (an : List (List Nat)) : opsF P N tg Q [] an A H0 M = Q A M := rfl
theorem opsF_some (tg : List Nat) (Q : Fr → Hp → Prop) (op : Op) (ty : TypeId) (pos : String) (aft : Array Edge) (l : List Oper) (a : List Nat) (an : List (List Nat)) : opsF P N tg Q (⟨some d, op, ty, pos, aft, none⟩ :: l) (a :: an) A H0 M = opF P N d op A H0 M fun r b => Ob (r.scrub (bad tg a) = r) (match b with
    | none => opsF P N tg Q l an ((d, r) :: A) H0 M
    | some (d', B) => Ob (a.contains d' = true ∧ B.scrub (badB tg a d') = B) (opsF P N tg Q l an ((d, r) :: A) H0 (M.upd d' B))) := rfl
theorem opsF_none (tg : List Nat) (Q : Fr → Hp → Prop) (op : Op) (ty : TypeId) (pos : String) (aft : Array Edge) (l : List Oper) (a : List Nat) (an : List (List Nat)) : opsF P N tg Q (⟨none, op, ty, pos, aft, none⟩ :: l) (a :: an) A H0 M = opF P N 0 op A H0 M fun r b => Ob (r.scrub (bad tg a) = r) (match b with
    | none => opsF P N tg Q l an A H0 M
    | some (d', B) => Ob (a.contains d' = true ∧ B.scrub (badB tg a d') = B) (opsF P N tg Q l an A H0 (M.upd d' B))) := rfl
end
attribute [go_sem ↓] opF_move opF_load opF_fieldAddr opF_indexAddr opF_nilCheck opF_call opF_binOp opF_build opF_bs opF_mk opF_ins opF_box opF_alloc opsF_nil opsF_some opsF_none
end
end Go.Av
end
/- Results that stand over blocks of our own; calls that read such blocks. -/
section
namespace Go.Av
section
variable {N : Cx} {A A' : Fr} {H H' : Hp}
theorem end_tup2 {P : Program} {fn : Func} {t u : Tmp} {a b : AV} {post : AV → Hp → Prop} (hr : fn.results.toList = [.tmp t, .tmp u]) (htu : t ≠ u) (s : Sub N A H [(t, a), (u, b)] H') (hp : post (.tup 2 (vecF [a, b])) H') : endQ P N fn post .ret A H :=
  ⟨_, _, s, by rw [hr]; simp only [resVC, Fr.get, if_true, withA_some, htu, if_false]; exact hp⟩
/-- What is told is told anew before a region, if slot t was told last. -/
theorem awp_cutR {P : Program} (id t : Nat) {l : Array Oper} {b : Bool} {x : AV} {A0 : Fr} {Q : Exit → Fr → Hp → Prop} (hs : Sub N ((t, x) :: A0) H A' H') (h : AWP P N (.region id l b) Q A' H') : AWP P N (.region id l b) Q ((t, x) :: A0) H := awp_sub hs h
theorem c9 {f g : Nat → AV} (h0 : f 0 = g 0) (h1 : f 1 = g 1) (h2 : f 2 = g 2) (h3 : f 3 = g 3) (h4 : f 4 = g 4) (h5 : f 5 = g 5) (h6 : f 6 = g 6) (h7 : f 7 = g 7) (h8 : f 8 = g 8) : ∀ i, i < 9 → f i = g i := fun i hi => by
  match i, hi with
  | 0, _ => exact h0
  | 1, _ => exact h1
  | 2, _ => exact h2
  | 3, _ => exact h3
  | 4, _ => exact h4
  | 5, _ => exact h5
  | 6, _ => exact h6
  | 7, _ => exact h7
  | 8, _ => exact h8
theorem ap_ints (xs : List (List Int)) (y : List Int) : ∀ i, i < xs.length + 1 → apF xs.length (cM ints [] xs) (setF (zF [.slice none 0 0]) 0 (ints y)) i = cM ints [] (xs ++ [y]) i := fun i hi => by
  by_cases h : i < xs.length
  · simp [apF, cM, List.getD_eq_getElem?_getD, List.getElem?_append, h]
  · have e : i = xs.length := by omega
    subst e
    simp [apF, setF, cM, List.getD_eq_getElem?_getD]
theorem emp_add (R : Hp) : Hp.emp.add R = R := rfl
end
end Go.Av
end
/- Calls that read pinned blocks, and hand back new rows beside them. -/
section
namespace Go.Av
section
variable {P : Program} {N : Cx} {A : Fr} {H : Hp}
end
end Go.Av
end
/- Rows of rows, a row and a bool handed back at once. -/
section
namespace Go.Av
def nIIB (d e h : Nat) : Bool := famB d h || h == e
theorem nIIB_lit {d e h : Nat} (hh : h < 2097152) (h1 : h ≠ d) (h2 : h ≠ e) : nIIB d e h = false := by
  unfold nIIB
  rw [famB_lit hh, beq_eq_false_iff_ne.2 h1, beq_eq_false_iff_ne.2 h2]; rfl
theorem nIIB_d {d e : Nat} : nIIB d e d = true := by unfold nIIB famB; simp
theorem nIIB_e {d e : Nat} : nIIB d e e = true := by unfold nIIB; simp
section
variable {P : Program} {N : Cx} {A : Fr} {H : Hp}
theorem Hp.scrub_IIB {d e g k n : Nat} {xss : List (List Int)} (hd : d < 2097152) (he : e < 2097152) (_hg : g < 2097152) (hk : k ≤ 2097152) (hne : g ≠ d) (_hne2 : g ≠ e) : ((PR g xss k n).add H).scrub (nIIB d e) = (PR g xss k n).add (H.scrub (nIIB d e)) := by
  have hs : ∀ i, i < k → nIIB d e (sub g i) = false := fun i hi => by
    have h1 := sub_ge g i; rw [FB_eq] at h1
    have h2 : i < FB := by rw [FB_eq]; omega
    have h3 : sub g i ≠ e := by omega
    have h4 : sub g i ≠ d := by omega
    simp [nIIB, famB, h3, h4, sub_div h2, hne]
  funext x
  simp only [Hp.scrub, Hp.add]
  cases hx : (PR g xss k n) x with
  | none => rfl
  | some B =>
    simp only [Option.map_some, Option.some.injEq]
    unfold PR at hx
    split at hx
    · simp only [Option.some.injEq] at hx; subst hx
      simp only [Blk.scrub]
      congr 1
      funext i
      exact mixF_plain_scrub hs i
    · split at hx
      · simp only [Option.some.injEq] at hx; subst hx; rfl
      · simp at hx
end
attribute [go_sem] nIIB_lit nIIB_d nIIB_e Hp.scrub_IIB
end Go.Av
end
/- Regions of open order: the first operations in any order, then a sequence, and a last operation that sets a constant, anywhere. -/
section
namespace Go.Av
section
variable {P : Program} {N : Cx} {A : Fr} {H : Hp}
variable (P N) in
end
end Go.Av
end
/- Dice and sources: a struct of bytes, a place and a number, pinned; calls that throw them. -/
section
namespace Go.Av
/-- Dice: the code's bytes, how many are used up, a number. -/
structure Dc where
  xs : List Int
  i : Nat
  h : Int
  hi : i ≤ xs.length
  hx : ∀ j, 0 ≤ xs.getD j 0 ∧ xs.getD j 0 ≤ 255
  hl : xs.length ≤ 4096
def u8v (n : Int) : AV := .v (.int .u8 n)
abbrev bts (xs : List Int) : AV := .list false 1 xs.length (cM u8v 0 xs)
def dF (k : IntKind) (d : Dc) : Nat → AV := vecF [bts d.xs, .v (.int .i64 (d.i)), .v (.int k d.h)]
@[go_sem] theorem scF_dF (p : Nat → Bool) (k : IntKind) (d : Dc) : scF p (dF k d) = dF k d := by
  unfold dF; rw [scF_vecF]; rfl
section
variable {P : Program} {N : Cx} {A A' : Fr} {H H' : Hp}
/-- The end of a function whose result lies in a cell; what it holds is frozen. -/
theorem end_postCF (D : Nat → Prop) {fn : Func} {t : Tmp} {ty : TypeId} {h n : Nat} {z : List Value} {f g : Nat → AV} {H' : Hp} {post : AV → Hp → Prop} (hr : fn.results.toList = [.cell t ty]) (hA : A.get t = some (.ref h 0)) (hty : tyOf P ty = some ⟨true, n, z⟩) (hH : H h = some (.cells n f)) (hg : ∀ i, i < n → Fits H D (f i) (g i))
    (hl : LeF D H' H) (hne : H' h = none) (hD : ¬ D h) (hp : post (.agg n g) H') : endQ P N fn post .ret A H := by
  refine ⟨[(t, .ref h 0)], H'.upd h (.cells n g), Sub.fits D (fun i c hc => ?_) (leF_upd hH ⟨rfl, hg⟩ hl hD), ?_⟩
  · simp only [Fr.get] at hc
    split at hc
    · rename_i e; subst e; cases hc; exact ⟨_, hA, .refl _⟩
    · cases hc
  rw [hr]
  simp only [resVC, Fr.get, if_true, withA_some, hty, ldVC, Hp.upd, Ob]
  refine ⟨by omega, H', fun x B hB => ?_, ?_⟩
  · unfold Hp.upd
    split
    · rename_i e; subst e; rw [hne] at hB; cases hB
    · exact hB
  · have : (fun j => g (0 + j)) = g := by funext j; rw [Nat.zero_add]
    rw [this]; exact hp
end
end Go.Av
end
/- Sources: calls that draw and hand back a row of their own; rows cut shorter. -/
section
namespace Go.Av
section
variable {P : Program} {N : Cx} {A A' : Fr} {H H' : Hp}
end
end Go.Av
end
/- Calls whose result is told by a property, and that leave nothing. -/
section
namespace Go.Av
/-- A result with Q, and nothing of our own. -/
def postX (Q : AV → Prop) (r : AV) (H : Hp) : Prop := Q r ∧ H = Hp.emp
section
variable {P : Program} {N : Cx} {A A' : Fr} {H H' : Hp}
theorem callX {f : FuncId} {args : List AV} {pn : Nat → Bool} {Q : AV → Prop} {K : AV → Fr → Hp → Prop} (hac : AC P f args Hp.emp pn (postX Q)) (hQ : ∀ r, Q r → ∀ p, r.scrub p = r) (hK : ∀ r, Q r → K r A H) : CallG P N f args A H K := by
  refine callG_of hac (fun _ => false) false (by simp [Hp.emp]) (FitsL.refl _) (fun _ => rfl) (by simp [Hp.emp]) (by simp) ?_
  rintro r H' ⟨hq, rfl⟩
  refine ⟨fun h h1 => absurd rfl h1, by simp, ?_⟩
  rw [hQ r hq, Fr.scrub_none, Hp.scrub_none]
  have e : Hp.over (Hp.emp.scrub fun h => !liveB Hp.emp h) H Hp.emp = H := by
    funext h; simp [Hp.over, Hp.scrub, Hp.emp]
  rw [e]; exact hK r hq
theorem end_X2 {fn : Func} {t u : Tmp} {a b a' b' : AV} {Q : AV → Prop} (hr : fn.results.toList = [.tmp t, .tmp u]) (htu : t ≠ u) (hA : A.get t = some a) (hB : A.get u = some a') (hf : Fits H (fun _ => True) a b) (hf' : Fits H (fun _ => True) a' b') (hq : Q (.tup 2 (vecF [b, b']))) : endQ P N fn (postX Q) .ret A H :=
  end_tup2 (H' := Hp.emp) hr htu (Sub.toFF (fun _ => True) (Fr.fit_cons hA hf (Fr.fit_cons hB hf' (Fr.fit_nil _))) leF_emp) ⟨hq, rfl⟩
end
theorem end_T2 {P : Program} {N : Cx} {A : Fr} {H : Hp} {fn : Func} {t u : Tmp} {a b a' b' : AV} (hr : fn.results.toList = [.tmp t, .tmp u]) (htu : t ≠ u) (hA : A.get t = some a) (hB : A.get u = some b) (hf : Fits H (fun _ => True) a a') (hf' : Fits H (fun _ => True) b b') : endQ P N fn (retV (.tup 2 (vecF [a', b']))) .ret A H :=
  end_tup2 (H' := Hp.emp) hr htu (Sub.toFF (fun _ => True) (Fr.fit_cons hA hf (Fr.fit_cons hB hf' (Fr.fit_nil _))) leF_emp) ⟨rfl, rfl⟩
end Go.Av
end
/- From a law's contract over abstract values to its row: how Go's data read. -/
section
namespace Go.Av
open Go.ChangeShapes Go.WideShapes Go.ChangeAt Go.RowKit

section
variable {P : Program} {H : Type} {enc : TypeId × Value → H} {w : World} {base : Nat} {spare : Nat → Bool} {held : Bool} {L : Loc}

/-- Every block may be read. -/
abbrev All : Nat → Prop := fun _ => True

theorem law_calls {f : FuncId} {args : List AV} {vs : Array Value} (hac : AC P f args Hp.emp (fun _ => false) (retV (.v (.bool true)))) (hr : RdArgs w All (fun _ => none) args vs) (hE : EnvF w := by exact True.intro) (hN : envN ≤ w.heap.size := by exact Nat.zero_le _) :
    Calls P f vs w fun e w' => e = .returned (.bool true) ∧ Below w.heap.size w w' := by
  let S : Rg := ⟨fun b => w.heap.size ≤ b, fun _ => True, fun _ _ => trivial, fun _ => none⟩
  have s0 : Sim 0 w S w #[] (fun _ => none) [] Hp.emp := ⟨Keep.refl w _, rfl, fun i a h => by simp [Fr.get] at h, fun h B hB => by simp [Hp.emp] at hB, fun h q hn => by simp [Hp.emp] at hn, fun h g q r hn => by simp [Hp.emp] at hn, fun h l hl => by simp [S] at hl⟩
  refine (hac.2 S w (fun _ => none) vs (fun b h => h) (fun h _ => rfl) ⟨w, hE, fun g hg => ⟨by show ¬ w.heap.size ≤ g; omega, by omega, rfl⟩⟩ s0 ⟨hr.1, fun i a hi => ?_⟩).mono ?_
  · obtain ⟨u, k1, k2⟩ := hr.2 i a hi
    exact ⟨u, k1, Rd.mono (fun b _ _ => ⟨trivial, fun h q hn => by simp [Hp.emp] at hn⟩) k2⟩
  · rintro e w' ⟨u, L', r, H', rfl, s2, hr, rfl, rfl⟩
    have hu : u = .bool true := hr
    subst hu
    exact ⟨rfl, ⟨s2.keep.os, s2.keep.tape, s2.keep.output, s2.keep.size, fun k hk => s2.keep.blk k hk (by show ¬ w.heap.size ≤ k; omega)⟩⟩

theorem rdArgs_list {ok : Nat → Prop} : ∀ (as : List AV) (vs : List Value), as.length = vs.length → (∀ (i : Nat) (a : AV) (v : Value), as[i]? = some a → vs[i]? = some v → Rd w ok L a v) → RdArgs w ok L as vs.toArray := by
  intro as vs hl h
  refine ⟨by simp [hl], fun i a hi => ?_⟩
  have hlt := (List.getElem?_eq_some_iff.1 hi).1
  exact ⟨vs[i]'(by omega), by simp, h i a _ hi (by simp)⟩
theorem rdArgs1 {ok : Nat → Prop} {a : AV} {v : Value} (h : Rd w ok L a v) : RdArgs w ok L [a] #[v] := rdArgs_list [a] [v] rfl fun i a' v' h1 h2 => by
  match i with
  | 0 => simp at h1 h2; subst h1 h2; exact h
  | i + 1 => simp at h1
end
end Go.Av
end

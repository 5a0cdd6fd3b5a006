import Derived.Test.YtiihgbobdipikaaK2
import Derived.ProofKit
import Derived.OpenShut
import Derived.ShutString
import Derived.ChangeOld
import Derived.Below
import Derived.Carry
import Derived.Deep.Slices
import Derived.Lib.SmallJoins
/- The heap told anew: names turned, nil told as a slice of our own, and cells told one by one. -/
section
namespace Go.Av
/-- A hypothesis that the walk is not to see. -/
structure Hold (p : Prop) : Prop where
  h : p
section
variable {N : Cx} {A A' : Fr} {H H' : Hp}
/-- How what is told before (by old names) is told afterwards (by new ones): ρ gives the old name of a new one; a new name without an old one is a nil slice. -/
inductive Lay (ρ : Nat → Option Nat) : AV → AV → Prop
  | own {h g off sz n : Nat} : ρ h = some g → Lay ρ (.own g off sz n) (.own h off sz n)
  | ref {h g off : Nat} : ρ h = some g → Lay ρ (.ref g off) (.ref h off)
  | nil {h sz : Nat} : ρ h = none → Lay ρ (.v (.slice none 0 0)) (.own h 0 sz 0)
  | plain {a : AV} : a.plain → Lay ρ a a
  | agg {n : Nat} {f g : Nat → AV} : (∀ i, i < n → Lay ρ (f i) (g i)) → Lay ρ (.agg n f) (.agg n g)
  | map {h g : Nat} : ρ h = some g → Lay ρ (.map g) (.map h)
  | dead (a : AV) : Lay ρ a .dead
theorem Lay.rd {ρ : Nat → Option Nat} {w : World} {ok : Nat → Prop} {L : Loc} {a c : AV} (h : Lay ρ a c) : ∀ u, Rd w ok L a u → Rd w ok (fun h => (ρ h).bind L) c u := by
  induction h with
  | @own h g off sz n e => intro u hu; simp only [Rd, e, Option.bind_some] at hu ⊢; exact hu
  | @ref h g off e => intro u hu; simp only [Rd, e, Option.bind_some] at hu ⊢; exact hu
  | @nil h sz e => intro u hu; simp only [Rd, e, Option.bind_none] at hu ⊢; exact ⟨hu, trivial⟩
  | @plain a hp => intro u hu; exact Rd.plain a _ _ u hp hu
  | @agg n f g _ ih => rintro u ⟨cs, h1, h2, h3⟩; exact ⟨cs, h1, h2, fun i hi => let ⟨c, k1, k2⟩ := h3 i hi; ⟨c, k1, ih i hi _ k2⟩⟩
  | @map h g e => intro u hu; simp only [Rd, e, Option.bind_some] at hu ⊢; exact hu
  | dead a => intro u _; trivial
/-- .. where some blocks are maps. -/
theorem Sub.layM (ρ : Nat → Option Nat) (hpn : N.pn = fun _ => false) (hA : ∀ i c, A'.get i = some c → ∃ a, A.get i = some a ∧ Lay ρ a c)
    (hH : ∀ h B', H' h = some B' → (∃ g n f f', ρ h = some g ∧ B' = .cells n f' ∧ H g = some (.cells n f) ∧ ∀ i, i < n → Lay ρ (f i) (f' i)) ∨ (ρ h = none ∧ ∃ f, B' = .cells 0 f) ∨ (∃ g kv, ρ h = some g ∧ B' = .mp kv ∧ H g = some (.mp kv) ∧ ∀ x ∈ kv, x.2.plain))
    (hinj : ∀ h g k, H' h ≠ none → H' g ≠ none → ρ h = some k → ρ g = some k → h = g) : Sub N A H A' H' := by
  intro w0 S hS w tm L s
  have live : ∀ h k, H' h ≠ none → ρ h = some k → H k ≠ none := by
    intro h k hn e
    cases hB : H' h with
    | none => exact absurd hB hn
    | some B =>
      rcases hH h B hB with ⟨g, n, f, f', e1, _, e2, _⟩ | ⟨e1, _⟩ | ⟨g, kv, e1, _, e2, _⟩
      · rw [e] at e1; simp only [Option.some.injEq] at e1; subst e1; rw [e2]; simp
      · rw [e] at e1; simp at e1
      · rw [e] at e1; simp only [Option.some.injEq] at e1; subst e1; rw [e2]; simp
  have dec : ∀ h q, ((ρ h).bind L) = some q → ∃ k, ρ h = some k ∧ L k = some q := by
    intro h q hq
    cases e : ρ h with
    | none => rw [e] at hq; simp at hq
    | some k => rw [e] at hq; exact ⟨k, rfl, hq⟩
  have hok : ∀ b, okb S H L b → okb S H' (fun h => (ρ h).bind L) b := fun b hb => ⟨hb.1, fun h q hn hq => by
    obtain ⟨k, e1, e2⟩ := dec h q hq
    exact hb.2 k q (live h k hn e1) e2⟩
  refine ⟨fun h => (ρ h).bind L, s.keep, s.size, fun i c hc => ?_, fun h B hB => ?_, fun h q hn hq => ?_, fun h g q r hn hm hq hr e => ?_, fun h l hl => ?_⟩
  · obtain ⟨a, h1, h2⟩ := hA i c hc
    exact Rd.mono (fun b _ hb => hok b hb) (h2.rd _ (s.slot i a h1))
  · rcases hH h B hB with ⟨g, n, f, f', e1, rfl, e2, e3⟩ | ⟨e1, f, rfl⟩ | ⟨g, kv, e1, rfl, e2, e3⟩
    · have hb := s.blk g _ e2
      simp only [e1, Option.bind_some]
      cases hl : L g with
      | none => rw [hl] at hb; exact hb
      | some q =>
        rw [hl] at hb
        obtain ⟨cs, e, k1, k2, k3⟩ := hb
        exact ⟨cs, e, k1, k2, fun i hi => let ⟨c, k4, k5⟩ := k3 i hi; ⟨c, k4, Rd.mono (fun b _ hb => hok b hb) ((e3 i hi).rd _ k5)⟩⟩
    · simp only [e1, Option.bind_none]; rfl
    · have hb := s.blk g _ e2
      simp only [e1, Option.bind_some]
      cases hl : L g with
      | none => rw [hl] at hb; exact hb.elim
      | some q =>
        rw [hl] at hb
        obtain ⟨es, clock, k1, k2, k3⟩ := hb
        exact ⟨es, clock, k1, k2, fun i e he => let ⟨a, k4, k5⟩ := k3 i e he; ⟨a, k4, Rd.mono (fun b _ hb => hok b hb) (Rd.plain a _ _ _ (e3 _ (List.mem_of_getElem? k4)) k5)⟩⟩
  · obtain ⟨k, e1, e2⟩ := dec h q hq
    exact s.own k q (live h k hn e1) e2
  · obtain ⟨k1, e1, e2⟩ := dec h q hq
    obtain ⟨k2, e3, e4⟩ := dec g r hr
    have := s.inj k1 k2 q r (live h k1 hn e1) (live g k2 hm e3) e2 e4 e
    subst this
    exact hinj h g k1 hn hm e1 e3
  · rw [hS.free h (by rw [hpn])] at hl; simp at hl
theorem Sub.lay (ρ : Nat → Option Nat) (hpn : N.pn = fun _ => false) (hA : ∀ i c, A'.get i = some c → ∃ a, A.get i = some a ∧ Lay ρ a c)
    (hH : ∀ h B', H' h = some B' → (∃ g n f f', ρ h = some g ∧ B' = .cells n f' ∧ H g = some (.cells n f) ∧ ∀ i, i < n → Lay ρ (f i) (f' i)) ∨ (ρ h = none ∧ ∃ f, B' = .cells 0 f))
    (hinj : ∀ h g k, H' h ≠ none → H' g ≠ none → ρ h = some k → ρ g = some k → h = g) : Sub N A H A' H' :=
  Sub.layM ρ hpn hA (fun h B' hB => (hH h B' hB).elim .inl (fun k => .inr (.inl k))) hinj
theorem lay_nil {ρ : Nat → Option Nat} : ∀ i c, Fr.get [] i = some c → ∃ a, A.get i = some a ∧ Lay ρ a c := fun i c h => by simp [Fr.get] at h
theorem lay_cons {ρ : Nat → Option Nat} {t : Nat} {a : AV} {r : Fr} (h0 : ∃ b, A.get t = some b ∧ Lay ρ b a) (h : ∀ i c, Fr.get r i = some c → ∃ a, A.get i = some a ∧ Lay ρ a c) : ∀ i c, Fr.get ((t, a) :: r) i = some c → ∃ a, A.get i = some a ∧ Lay ρ a c := fun i c e => by
  simp only [Fr.get] at e
  split at e
  · rename_i e1; subst e1; simp only [Option.some.injEq] at e; subst e; exact h0
  · exact h i c e
theorem end_post {P : Program} {fn : Func} {t : Tmp} {a : AV} {post : AV → Hp → Prop} (hr : fn.results.toList = [.tmp t]) (hA : A.get t = some a) (hl : Hp.le H' H) (hp : post a H') : endQ P N fn post .ret A H :=
  ⟨A, H', Sub.mk (fun _ _ h => h) hl, by rw [hr]; simp only [resVC, hA]; exact hp⟩
/-- Each block told in H1 stands in H, and fits what is told of it (the names of D are frozen). -/
def LeF (D : Nat → Prop) (H1 H : Hp) : Prop := ∀ x B, H1 x = some B → ¬ D x ∧ ∃ B', H x = some B' ∧ BFits H D B' B
theorem leF_emp {D : Nat → Prop} : LeF D Hp.emp H := fun x B h => by simp [Hp.emp] at h
theorem leF_upd {D : Nat → Prop} {h : Nat} {B B' : Blk} (k : H h = some B') (e : BFits H D B' B) (r : LeF D H' H) (hD : ¬ D h) : LeF D (H'.upd h B) H := fun x C hC => by
  unfold Hp.upd at hC
  split at hC
  · rename_i e1; subst e1; simp only [Option.some.injEq] at hC; subst hC; exact ⟨hD, B', k, e⟩
  · exact r x C hC
theorem bfE {D : Nat → Prop} {n m : Nat} {f g : Nat → AV} (hn : n = m) (h : ∀ i, i < n → f i = g i) : BFits H D (.cells n f) (.cells m g) := ⟨hn, fun i hi => by rw [h i hi]; exact .refl _⟩
theorem Sub.toLF (hA : Fr.sub A A') (hH : LeF (fun _ => False) H' H) : Sub N A H A' H' := Sub.fits (fun _ => False) (fun i c hc => ⟨c, Fr.sub_get A' A hA i c hc, .refl c⟩) hH
theorem Sub.toFF (D : Nat → Prop) (hA : Fr.fit H D A A') (hH : LeF D H' H) : Sub N A H A' H' := Sub.fits D (Fr.fit_get A' A hA) hH
/-- Each block told in H1 by new names stands in H by old ones. -/
def LayF (ρ : Nat → Option Nat) (H1 H : Hp) : Prop := ∀ h B', H1 h = some B' → (∃ g n f f', ρ h = some g ∧ B' = .cells n f' ∧ H g = some (.cells n f) ∧ ∀ i, i < n → Lay ρ (f i) (f' i)) ∨ (ρ h = none ∧ ∃ f, B' = .cells 0 f) ∨ (∃ g kv, ρ h = some g ∧ B' = .mp kv ∧ H g = some (.mp kv) ∧ ∀ x ∈ kv, x.2.plain)
theorem layF_emp {ρ : Nat → Option Nat} : LayF ρ Hp.emp H := fun x B h => by simp [Hp.emp] at h
theorem layF_upd {ρ : Nat → Option Nat} {h g n : Nat} {f f' : Nat → AV} (e : ρ h = some g) (k : H g = some (.cells n f)) (l : ∀ i, i < n → Lay ρ (f i) (f' i)) (r : LayF ρ H' H) : LayF ρ (H'.upd h (.cells n f')) H := fun x C hC => by
  unfold Hp.upd at hC
  split at hC
  · rename_i e1; subst e1; simp only [Option.some.injEq] at hC; subst hC; exact .inl ⟨g, n, f, f', e, rfl, k, l⟩
  · exact r x C hC
theorem layF_nil {ρ : Nat → Option Nat} {h : Nat} {f' : Nat → AV} (e : ρ h = none) (r : LayF ρ H' H) : LayF ρ (H'.upd h (.cells 0 f')) H := fun x C hC => by
  unfold Hp.upd at hC
  split at hC
  · rename_i e1; subst e1; simp only [Option.some.injEq] at hC; subst hC; exact .inr (.inl ⟨e, f', rfl⟩)
  · exact r x C hC
theorem layF_map {ρ : Nat → Option Nat} {h g : Nat} {kv : List (Value × AV)} (e : ρ h = some g) (k : H g = some (.mp kv)) (l : ∀ x ∈ kv, x.2.plain) (r : LayF ρ H' H) : LayF ρ (H'.upd h (.mp kv)) H := fun x C hC => by
  unfold Hp.upd at hC
  split at hC
  · rename_i e1; subst e1; simp only [Option.some.injEq] at hC; subst hC; exact .inr (.inr ⟨g, kv, e, rfl, k, l⟩)
  · exact r x C hC
theorem AC.mono {P : Program} {f : FuncId} {args : List AV} {Hin : Hp} {pn : Nat → Bool} {post post' : AV → Hp → Prop} (h : AC P f args Hin pn post) (hq : ∀ r H, post r H → post' r H) : AC P f args Hin pn post' := by
  refine ⟨h.1, fun S w L vs hS hpin s hargs => (h.2 S w L vs hS hpin s hargs).mono ?_⟩
  rintro e w' ⟨u, L', r, H', rfl, s2, hr, hp⟩
  exact ⟨u, L', r, H', rfl, s2, hr, hq r H' hp⟩
end
end Go.Av
end
/- Regions whose order is open and that lay several new blocks: each operation reads what was there before, or lays a block of its own. -/
section
namespace Go.Av
section
variable {P : Program} {N : Cx} {A : Fr} {H H0 : Hp}

theorem Fits.up {D : Nat → Prop} (hle : Hp.le H0 H) {a c : AV} (h : Fits H0 D a c) : Fits H D a c := by
  induction h with
  | refl a => exact .refl a
  | own h1 h2 h3 h4 _ ih => exact .own (hle _ _ h1) h2 h3 h4 ih
  | list h1 h2 _ ih => exact .list h1 h2 ih
  | nil => exact .nil
  | agg _ ih => exact .agg ih
  | ref h1 h2 h3 h4 _ ih => exact .ref (hle _ _ h1) h2 h3 h4 ih
  | clo _ ih => exact .clo ih
  | tup _ ih => exact .tup ih
  | nonnil h1 _ ih => exact .nonnil h1 ih
  | dead a => exact .dead a
theorem FitsL.up {D : Nat → Prop} (hle : Hp.le H0 H) {l r : List AV} (h : FitsL H0 D l r) : FitsL H D l r := by
  induction h with
  | nil => exact .nil
  | cons h _ ih => exact .cons (h.up hle) ih
theorem ldVC_up {ty : Option TY} {a : AV} {K : AV → Prop} (hle : Hp.le H0 H) (h : ldVC ty H0 a K) : ldVC ty H a K := by
  unfold ldVC at h ⊢
  split at h
  · exact h
  · exact h
  · split at h
    · rename_i e; rw [hle _ _ e]; exact h
    · exact h.elim
  · split at h
    · rename_i e; rw [hle _ _ e]; exact h
    · exact h.elim
  · exact h.elim
theorem srcOf_up {sz : Nat} {b : AV} {x : Nat × (Nat → AV)} (hle : Hp.le H0 H) (h : srcOf H0 sz b = some x) : srcOf H sz b = some x := by
  unfold srcOf at h ⊢
  split at h
  · exact h
  · rename_i hh off sz' m
    cases e : H0 hh with
    | none => rw [e] at h; cases h
    | some B => rw [e] at h; rw [hle _ _ e]; exact h
  · exact h
  · cases h
theorem cvVC_up {ct : CvT} {a : AV} {K : AV → Prop} (hle : Hp.le H0 H) (h : cvVC ct H0 a K) : cvVC ct H a K := by
  unfold cvVC at h ⊢
  split at h
  · exact h
  · exact h
  · exact h
  · split at h
    · rename_i e; simp only [srcOf_up hle e]; exact h
    · exact h.elim
  · exact h.elim
theorem lkVC_up {mt : Option Value} {a b : AV} {ok : Bool} {K : AV → Prop} (hle : Hp.le H0 H) (h : lkVC mt H0 a b ok K) : lkVC mt H a b ok K := by
  unfold lkVC at h ⊢
  split at h
  · split at h
    · rename_i e; simp only [hle _ _ e]; exact h
    · exact h.elim
  · exact h.elim
theorem opVC_up {d : Nat} {op : Op} {r : AV} (hp : pureOp op = true) (hle : Hp.le H0 H) (h : opVC P N d op A H0 (KR r A H0)) : opVC P N d op A H (KR r A H) := by
  have kk : ∀ (H1 : Hp) (x : AV), KR r A H1 x A H1 = (x = r) := fun H1 x => by simp [KR]
  cases op <;> simp only [pureOp, Bool.false_eq_true] at hp <;> simp only [opVC, kk] at h ⊢
  all_goals first | exact h | skip
  case lookup t x i ok =>
    obtain ⟨a, ha, h⟩ := withA_ok h
    obtain ⟨b, hb, h⟩ := withA_ok h
    rw [ha, hb]
    exact lkVC_up hle h
  case load t x =>
    obtain ⟨a, ha, h⟩ := withA_ok h
    rw [ha]; exact ldVC_up hle h
  case convert s t x =>
    obtain ⟨a, ha, h⟩ := withA_ok h
    rw [ha]; exact cvVC_up hle h
  case call c =>
    obtain ⟨callee, args, tys⟩ := c
    cases callee with
    | invoke r m => simp at hp
    | value f => simp at hp
    | builtin b =>
      obtain ⟨l, hl, h⟩ := withArgs_ok h
      simp only [hl, withArgs]
      unfold bcallVC at h ⊢
      split at h <;> simp only [kk] at h ⊢ <;> first | exact h | (rename_i hts; rw [hts]; exact h) | (simp at hp; done) | exact h.elim
theorem opQ_up {o : Oper} {K : AV → Prop} (h : opQ P N (o.dst.getD 0) o.op A H0 K) : ∃ r, K r ∧ ∀ H, Hp.le H0 H → OpOK P N o A H r := by
  unfold opQ at h
  split at h
  · rename_i f args tys ho
    split at h
    · rename_i g caps hg
      obtain ⟨l, hl, hc⟩ := withArgs_ok h
      obtain ⟨a, args', pn, post, h1, h2, h3, h4, hK⟩ := hc
      refine ⟨a, hK, fun H hle A' ha => opVC_sound ?_⟩
      have hc' : CallQ P g (l ++ caps) H (fun x => x = a) := ⟨a, args', pn, post, h1, h2, h3, h4.imp (fun k => ⟨k.1.up hle, k.2⟩) id, rfl⟩
      obtain ⟨r, rfl, hcall⟩ := callQ_run (N := N) hc'
      have hf : A'.ev f = A.ev f := ha f (by rw [ho]; simp [Op.operands, Call.operands])
      have hargs : evArgs A' args.toList = some l := by
        rw [evArgs_congr fun x hx => ha x (by rw [ho]; simp [Op.operands, Call.operands]; exact .inr (by simpa using hx)), hl]
      rw [ho]
      simp only [opVC, hf, hg, hargs, withArgs]
      exact hcall A'
    · exact h.elim
  · rename_i t len parts ho
    cases hl : evParts A parts.toList with
    | none => rw [hl] at h; unfold bsQVC at h; split at h <;> simp_all
    | some l =>
      rw [hl] at h
      have hd : ∃ r, K r ∧ bsQVC (selOf P t) len (some l) (fun x => x = r) := by
        unfold bsQVC at h ⊢
        split at h
        · exact ⟨_, h.2.2, h.1, h.2.1, rfl⟩
        · exact h.elim
      obtain ⟨r, hK, hb⟩ := hd
      refine ⟨r, hK, fun H hle A' ha => ?_⟩
      obtain ⟨r', rfl, h2⟩ := run_bsQ (N := N) (H := H) (ps := parts.toList) hb
      refine opv_mem fun w0 S hS w a L s => ?_
      have hA' : evParts A' parts.toList = some l := by
        rw [evParts_congr fun x hx => ha x (by rw [ho]; simpa [Op.operands] using hx), hl]
      obtain ⟨u, w', e1, e2, e3⟩ := h2 A' hA' w0 S hS w a L s
      exact ⟨u, w', L, _, A', H, by simp only [Array.toArray_toList] at e1; simp [execOp, ho, e1], e2, e3, rfl, rfl, rfl⟩
  · obtain ⟨hp, h⟩ := h
    obtain ⟨r, h1, h2⟩ := opVC_pure hp h
    exact ⟨r, h1, fun H hle A' ha => opVC_sound (opVC_up hp hle (h2 A' ha))⟩

variable (P N) in
/-- An operation that reads what was there before (H0), or lays a block of its own; M: what is known of the new blocks when it comes. -/
def opF (d : Nat) (op : Op) (A : Fr) (H0 M : Hp) (K : AV → Option (Nat × Blk) → Prop) : Prop :=
  match op with
  | .buildSlice t len ps => match selOf P t, evParts A ps.toList with
    | some se, some l => Ob ((N.pn d = false ∧ 0 < se.size ∧ len * se.size ≤ 16777216) ∧ fillOk (fun i => some (i * se.size, se.size)) (len * se.size) l)
        (K (.own d 0 se.size len) (some (d, .cells (len * se.size) (fillF (fun i => some (i * se.size, se.size)) l (zF se.zero)))))
    | _, _ => False
  | .makeMap t none => match mapOf P t with
    | some _ => Ob (N.pn d = false) (K (.map d) (some (d, .mp [])))
    | none => False
  | .insert t m k x => withA (A.ev m) fun a => withA (A.ev k) fun b => withA (A.ev x) fun c => match mapOf P t, a, b with
    | some _, .map h, .v (.string s) => (match M h with
      | some (.mp kv) => Ob (kvStr kv = true) (Ob (kvHas s kv = false) (K .dead (some (h, .mp (kv ++ [(.string s, c)])))))
      | _ => False)
    | _, _, _ => False
  | .box _ x => withA (A.ev x) fun a => Ob (N.pn d = false) (match aggOf a with
    | some (n, g) => K (.ref d 0) (some (d, .cells n g))
    | none => Ob (a.one = true) (K (.ref d 0) (some (d, .cells 1 fun _ => a))))
  | .alloc t => match tyOf P t with
    | some ty => Ob (N.pn d = false) (K (.ref d 0) (some (d, .cells ty.size (zF ty.zero))))
    | none => False
  | op => opQ P N d op A H0 fun r => K r none

def isIns : Op → Bool
  | .insert .. => true
  | _ => false
/-- What it does in every heap that holds H0 (and M at its own name). -/
def FrOK (P : Program) (N : Cx) (o : Oper) (A : Fr) (H0 M : Hp) (r : AV) (b : Option (Nat × Blk)) : Prop :=
  ∀ A' H, (∀ x ∈ o.op.operands, A'.ev x = A.ev x) → Hp.le H0 H → (∀ d B, b = some (d, B) → H d = M d) →
    OpV P N o A' H fun r' A'' H'' => r' = r ∧ match b with
      | none => A'' = A' ∧ H'' = H
      | some (d, B) => if isIns o.op = true then A'' = A' ∧ H'' = H.upd d B else A'' = A'.scrub (· == d) ∧ H'' = (H.upd d B).scrub (· == d)
theorem ins_ok {mt : Option Value} {M : Hp} {a b c : AV} {K : AV → Option (Nat × Blk) → Prop} (h : match mt, a, b with
    | some _, .map h, .v (.string s) => (match M h with
      | some (.mp kv) => Ob (kvStr kv = true) (Ob (kvHas s kv = false) (K .dead (some (h, .mp (kv ++ [(.string s, c)])))))
      | _ => False)
    | _, _, _ => False) : ∃ v hh s kv, mt = some v ∧ a = .map hh ∧ b = .v (.string s) ∧ M hh = some (.mp kv) ∧ kvStr kv = true ∧ kvHas s kv = false ∧ K .dead (some (hh, .mp (kv ++ [(.string s, c)]))) := by
  cases mt with
  | none => exact h.elim
  | some v =>
    cases a with
    | map hh =>
      cases b with
      | v y =>
        cases y with
        | string s =>
          dsimp only at h
          cases e : M hh with
          | none => rw [e] at h; exact h.elim
          | some B =>
            rw [e] at h
            cases B with
            | cells n f => exact h.elim
            | mp kv => exact ⟨v, hh, s, kv, rfl, rfl, rfl, e, h.1, h.2.1, h.2.2⟩
        | _ => exact h.elim
      | _ => exact h.elim
    | _ => exact h.elim
theorem opF_ok {o : Oper} {M : Hp} {K : AV → Option (Nat × Blk) → Prop} (h : opF P N (o.dst.getD 0) o.op A H0 M K) : ∃ r b, K r b ∧ FrOK P N o A H0 M r b ∧ (isIns o.op = false → ∀ d B, b = some (d, B) → d = o.dst.getD 0) := by
  unfold opF at h
  split at h
  · rename_i t len ps ho
    split at h
    · rename_i se l hse hl
      obtain ⟨h1, hK⟩ := h
      refine ⟨_, _, hK, fun A' H ha _ _ => opVC_sound ?_, fun _ d B e => by simp only [Option.some.injEq, Prod.mk.injEq] at e; exact e.1.symm⟩
      rw [ho]
      have hA' : evParts A' ps.toList = some l := by
        rw [evParts_congr fun x hx => ha x (by rw [ho]; simpa [Op.operands] using hx), hl]
      simp only [opVC, bsVC, hse, hA']
      exact ⟨h1, by simp [isIns]⟩
    · exact h.elim
  · rename_i t ho
    split at h
    · rename_i v hv
      obtain ⟨h1, hK⟩ := h
      refine ⟨_, _, hK, fun A' H ha _ _ => opVC_sound ?_, fun _ d B e => by simp only [Option.some.injEq, Prod.mk.injEq] at e; exact e.1.symm⟩
      rw [ho]
      simp only [opVC, mmkVC, hv]
      exact ⟨h1, by simp [isIns]⟩
    · exact h.elim
  · rename_i t m k x ho
    obtain ⟨a, h1, h⟩ := withA_ok h
    obtain ⟨b, h2, h⟩ := withA_ok h
    obtain ⟨c, h3, h⟩ := withA_ok h
    obtain ⟨v, hh, s, kv, hv, rfl, rfl, hM, k1, k2, hK⟩ := ins_ok h
    refine ⟨_, _, hK, fun A' H ha _ hm => opVC_sound ?_, fun e => by rw [ho] at e; cases e⟩
    have e0 : H hh = some (.mp kv) := (hm _ _ rfl).trans hM
    rw [ho]
    have e1 : A'.ev m = some (.map hh) := by rw [ha m (by rw [ho]; simp [Op.operands]), h1]
    have e2 : A'.ev k = some (.v (.string s)) := by rw [ha k (by rw [ho]; simp [Op.operands]), h2]
    have e3 : A'.ev x = some c := by rw [ha x (by rw [ho]; simp [Op.operands]), h3]
    simp only [opVC, muVC, e1, e2, e3, withA, hv, e0]
    exact ⟨k1, k2, by simp [isIns]⟩
  · rename_i t x ho
    obtain ⟨a, h1, hpn, h⟩ := withA_ok h
    split at h
    · rename_i n g hg
      refine ⟨_, _, h, fun A' H ha _ _ => opVC_sound ?_, fun _ d B e => by simp only [Option.some.injEq, Prod.mk.injEq] at e; exact e.1.symm⟩
      rw [ho]
      have e1 : A'.ev x = some a := by rw [ha x (by rw [ho]; simp [Op.operands]), h1]
      simp only [opVC, e1, withA, boxVC, hg]
      exact ⟨hpn, by simp [isIns]⟩
    · rename_i hg
      obtain ⟨h2, hK⟩ := h
      refine ⟨_, _, hK, fun A' H ha _ _ => opVC_sound ?_, fun _ d B e => by simp only [Option.some.injEq, Prod.mk.injEq] at e; exact e.1.symm⟩
      rw [ho]
      have e1 : A'.ev x = some a := by rw [ha x (by rw [ho]; simp [Op.operands]), h1]
      simp only [opVC, e1, withA, boxVC, hg]
      exact ⟨hpn, h2, by simp [isIns]⟩
  · rename_i t ho
    split at h
    · rename_i ty hty
      obtain ⟨h1, hK⟩ := h
      refine ⟨_, _, hK, fun A' H ha _ _ => opVC_sound ?_, fun _ d B e => by simp only [Option.some.injEq, Prod.mk.injEq] at e; exact e.1.symm⟩
      rw [ho]
      simp only [opVC, alVC, hty]
      exact ⟨h1, by simp [isIns]⟩
    · exact h.elim
  · obtain ⟨r, hK, hr⟩ := opQ_up h
    refine ⟨r, none, hK, fun A' H ha hle _ => ?_, fun _ d B e => by cases e⟩
    intro w0 S hS w a L s next Q' hn
    exact hr H hle A' ha w0 S hS w a L s next Q' fun u r' L' A'' H'' w' s' hrd hk => hn u r' L' A'' H'' w' s' hrd ⟨hk.1, hk.2.1, hk.2.2⟩

theorem AV.scrub_le {p q : Nat → Bool} (h : ∀ x, p x = true → q x = true) : ∀ (a : AV), a.scrub q = a → a.scrub p = a := by
  have no : ∀ x, q x = false → p x = false := fun x hx => by
    cases e : p x with
    | false => rfl
    | true => have := h x e; rw [hx] at this; cases this
  intro a
  induction a with
  | own g off sz n =>
    intro e
    simp only [AV.scrub] at e ⊢
    cases hq : q g with
    | true => rw [hq] at e; simp at e
    | false => rw [no g hq]; rfl
  | ref g off =>
    intro e
    simp only [AV.scrub] at e ⊢
    cases hq : q g with
    | true => rw [hq] at e; simp at e
    | false => rw [no g hq]; rfl
  | map g =>
    intro e
    simp only [AV.scrub] at e ⊢
    cases hq : q g with
    | true => rw [hq] at e; simp at e
    | false => rw [no g hq]; rfl
  | agg n f ih =>
    intro e
    simp only [AV.scrub, AV.agg.injEq, true_and] at e ⊢
    funext i; exact ih i (congrFun e i)
  | tup n f ih =>
    intro e
    simp only [AV.scrub, AV.tup.injEq, true_and] at e ⊢
    funext i; exact ih i (congrFun e i)
  | clo g n f ih =>
    intro e
    simp only [AV.scrub, AV.clo.injEq, true_and] at e ⊢
    funext i; exact ih i (congrFun e i)
  | _ => intro _; rfl
theorem Blk.scrub_le {p q : Nat → Bool} (h : ∀ x, p x = true → q x = true) (B : Blk) (e : B.scrub q = B) : B.scrub p = B := by
  cases B with
  | cells n f =>
    simp only [Blk.scrub, Blk.cells.injEq, true_and] at e ⊢
    funext i; exact AV.scrub_le h _ (congrFun e i)
  | mp kv =>
    simp only [Blk.scrub, Blk.mp.injEq] at e ⊢
    refine (List.map_congr_left (g := id) fun x hx => ?_).trans (List.map_id kv)
    have : ∀ (l : List (Value × AV)), l.map (fun x => (x.1, x.2.scrub q)) = l → ∀ x ∈ l, x.2.scrub q = x.2 := by
      intro l
      induction l with
      | nil => intro _ x hx; cases hx
      | cons y r ih =>
        intro e x hx
        simp only [List.map_cons, List.cons.injEq] at e
        rcases List.mem_cons.1 hx with rfl | hx
        · exact congrArg Prod.snd e.1
        · exact ih e.2 x hx
    have h1 := AV.scrub_le h _ (this kv e x hx)
    simp [h1]

/-- The heap when the operations li have come. -/
def HsV (bs : List (Option (Nat × Blk))) (li : Nat → Bool) (H0 : Hp) : Nat → Hp
  | 0 => H0
  | n + 1 => match bs.getD n none with
    | some (d, B) => if li n then (HsV bs li H0 n).upd d B else HsV bs li H0 n
    | none => HsV bs li H0 n
section
variable {bs : List (Option (Nat × Blk))} {li li' : Nat → Bool}
def HsP (bs : List (Option (Nat × Blk))) (li : Nat → Bool) (H0 : Hp) (n h : Nat) : Prop :=
  (HsV bs li H0 n h = H0 h ∧ ∀ k B, k < n → li k = true → bs.getD k none ≠ some (h, B)) ∨ ∃ k B, k < n ∧ li k = true ∧ bs.getD k none = some (h, B) ∧ HsV bs li H0 n h = some B ∧ ∀ i B', k < i → i < n → li i = true → bs.getD i none ≠ some (h, B')
theorem HsV_val : ∀ n h, HsP bs li H0 n h
  | 0, h => .inl ⟨rfl, fun k _ hk => absurd hk (Nat.not_lt_zero _)⟩
  | n + 1, h => by
    have ih := HsV_val n h
    have same : HsV bs li H0 (n + 1) h = HsV bs li H0 n h → (∀ B, li n = true → bs.getD n none ≠ some (h, B)) → HsP bs li H0 (n + 1) h := fun e hn => by
      rcases ih with ⟨h1, h2⟩ | ⟨k, B, h1, h2, h3, h4, h5⟩
      · exact .inl ⟨e.trans h1, fun k B hk hl => by
          by_cases e2 : k = n
          · subst e2; exact hn B hl
          · exact h2 k B (by omega) hl⟩
      · exact .inr ⟨k, B, by omega, h2, h3, e.trans h4, fun i B' hi hi2 hl => by
          by_cases e2 : i = n
          · subst e2; exact hn B' hl
          · exact h5 i B' hi (by omega) hl⟩
    cases hb : bs.getD n none with
    | none => exact same (by simp only [HsV, hb]) (fun B _ e => by rw [hb] at e; cases e)
    | some x =>
      obtain ⟨d, B⟩ := x
      cases hl : li n with
      | false => exact same (by simp only [HsV, hb, hl]; rfl) (fun B h1 => by rw [hl] at h1; cases h1)
      | true =>
        by_cases e : h = d
        · subst e
          refine .inr ⟨n, B, by omega, hl, hb, by simp only [HsV, hb, hl, if_true, Hp.upd], fun i B' h1 h2 => by omega⟩
        · refine same (by simp only [HsV, hb, hl, if_true, Hp.upd, e, if_false]) (fun B' _ e2 => ?_)
          rw [hb] at e2
          simp only [Option.some.injEq, Prod.mk.injEq] at e2
          exact e e2.1.symm
theorem HsV_last {n j d : Nat} {B : Blk} (hj : j < n) (hl : li j = true) (hb : bs.getD j none = some (d, B)) (ho : ∀ i B', j < i → i < n → li i = true → bs.getD i none ≠ some (d, B')) : HsV bs li H0 n d = some B := by
  rcases HsV_val (H0 := H0) (bs := bs) (li := li) n d with ⟨_, h2⟩ | ⟨k, B', h1, h2, h3, h4, h5⟩
  · exact absurd hb (h2 j B hj hl)
  · rcases Nat.lt_trichotomy j k with h | h | h
    · exact absurd h3 (ho k B' h h1 h2)
    · subst h; rw [hb] at h3; simp only [Option.some.injEq, Prod.mk.injEq, true_and] at h3; rw [h3]; exact h4
    · exact absurd hb (h5 j B h hj hl)
theorem HsV_congr {h : Nat} : ∀ n, (∀ k B, k < n → bs.getD k none = some (h, B) → li k = li' k) → HsV bs li H0 n h = HsV bs li' H0 n h
  | 0, _ => rfl
  | n + 1, hc => by
    have ih := HsV_congr (h := h) n (fun k B hk hb => hc k B (by omega) hb)
    cases hb : bs.getD n none with
    | none => simp only [HsV, hb]; exact ih
    | some x =>
      obtain ⟨d, B⟩ := x
      by_cases e : h = d
      · subst e
        have := hc n B (by omega) hb
        simp only [HsV, hb, this]
        split
        · simp [Hp.upd]
        · exact ih
      · simp only [HsV, hb]
        have e1 : ∀ (b : Bool) (G : Hp), (if b = true then G.upd d B else G) h = G h := fun b G => by
          cases b
          · rfl
          · simp [Hp.upd, e]
        rw [e1, e1]; exact ih
theorem HsV_cut {h j : Nat} : ∀ n, j ≤ n → (∀ k B, j ≤ k → k < n → li k = true → bs.getD k none ≠ some (h, B)) → HsV bs li H0 n h = HsV bs li H0 j h
  | 0, hj, _ => by rw [show j = 0 by omega]
  | n + 1, hj, hc => by
    by_cases e : j = n + 1
    · rw [e]
    · have ih := HsV_cut (h := h) (j := j) n (by omega) (fun k B h1 h2 => hc k B h1 (by omega))
      cases hb : bs.getD n none with
      | none => simp only [HsV, hb]; exact ih
      | some x =>
        obtain ⟨d, B⟩ := x
        cases hl : li n with
        | false => simp only [HsV, hb, hl]; exact ih
        | true =>
          have hd : h ≠ d := fun e2 => by subst e2; exact hc n B (by omega) (by omega) hl hb
          simp only [HsV, hb, hl, if_true, Hp.upd, hd, if_false]; exact ih
end
def bad (tg a : List Nat) (h : Nat) : Bool := tg.contains h && !a.contains h
def badB (tg a : List Nat) (d h : Nat) : Bool := tg.contains h && (!a.contains h || h == d)
/-- What is known of an operation of the free part. -/
def FrFact (P : Program) (N : Cx) (tg a : List Nat) (o : Oper) (A : Fr) (H0 M : Hp) (r : AV) (b : Option (Nat × Blk)) : Prop :=
  FrOK P N o A H0 M r b ∧ (isIns o.op = false → ∀ d B, b = some (d, B) → d = o.dst.getD 0) ∧ r.scrub (bad tg a) = r ∧ ∀ d B, b = some (d, B) → a.contains d = true ∧ B.scrub (badB tg a d) = B
def frOk (ops : Array Oper) (m : Nat) (tg : List Nat) (an : List (List Nat)) : Bool :=
  preOk ops m && an.all (fun a => a.all fun d => tg.contains d) &&
  (List.range m).all fun k => (List.range m).all fun j => match ops[j]?, ops[k]? with
    | some oj, some ok => (isIns oj.op || (oj.dst.isSome && (!(an.getD k []).contains (oj.dst.getD 0) || j == k || preB ops ops.size k j))) && (!(isIns oj.op && isIns ok.op) || decide (k ≤ j) || preB ops ops.size k j)
    | _, _ => true
theorem preB_lt {ops : Array Oper} (hback : ∀ (j : Nat) (oj : Oper) (e : Edge), ops[j]? = some oj → e ∈ oj.after → Region.binds .any e = true → e.on < j) : ∀ (f j i : Nat), preB ops f j i = true → i < j
  | 0, j, i, h => by cases h
  | f + 1, j, i, h => by
    simp only [preB] at h
    split at h
    · cases h
    · rename_i o ho
      obtain ⟨e, he, hb⟩ := Array.any_eq_true'.1 h
      simp only [Bool.and_eq_true, Bool.or_eq_true, beq_iff_eq] at hb
      have h1 := hback j o e ho he hb.1
      rcases hb.2 with rfl | h2
      · exact h1
      · have := preB_lt hback f e.on i h2; omega
theorem frOk_ok {ops : Array Oper} {m : Nat} {tg : List Nat} {an : List (List Nat)} (h : frOk ops m tg an = true) : preOk ops m = true ∧
    (∀ k j oj, k < m → j < m → ops[j]? = some oj → isIns oj.op = false → (an.getD k []).contains (oj.dst.getD 0) = true → j = k ∨ preB ops ops.size k j = true) ∧
    (∀ j k oj ok, j < m → k < m → ops[j]? = some oj → ops[k]? = some ok → isIns oj.op = true → isIns ok.op = true → j < k → preB ops ops.size k j = true) ∧
    (∀ j oj, j < m → ops[j]? = some oj → isIns oj.op = false → oj.dst.isSome = true) ∧
    (∀ k, k < m → ∀ d, (an.getD k []).contains d = true → tg.contains d = true) := by
  simp only [frOk, Bool.and_eq_true, List.all_eq_true, List.mem_range] at h
  obtain ⟨⟨h1, h2⟩, h3⟩ := h
  obtain ⟨_, _, hmo, _⟩ := preOk_ok h1
  have at' : ∀ k, k < m → ∃ ok, ops[k]? = some ok := fun k hk => ⟨ops[k], by simp [show k < ops.size by omega]⟩
  refine ⟨h1, fun k j oj hk hj ho hi hc => ?_, fun j k oj ok hj hk ho hok hi hi2 hl => ?_, fun j oj hj ho hi => ?_, fun k hk d hd => ?_⟩
  · obtain ⟨ok, hok⟩ := at' k hk
    have := h3 k hk j hj
    rw [ho, hok] at this
    simp only [hi, hc, Bool.false_or, Bool.and_eq_true, Bool.or_eq_true, Bool.not_true, beq_iff_eq] at this
    exact this.1.2
  · have := h3 k hk j hj
    rw [ho, hok] at this
    simp only [hi, hi2, Bool.and_eq_true, Bool.or_eq_true, Bool.and_self, Bool.not_true, decide_eq_true_eq] at this
    rcases this.2 with (h | h) | h
    · cases h
    · omega
    · exact h
  · have := h3 j hj j hj
    rw [ho] at this
    simp only [hi, Bool.false_or, Bool.and_eq_true] at this
    exact this.1.1
  · by_cases hl : k < an.length
    · have := h2 (an.getD k []) (by rw [List.getD_eq_getElem?_getD, List.getElem?_eq_getElem hl]; exact List.getElem_mem _) d (by simpa using hd)
      exact this
    · rw [List.getD_eq_getElem?_getD, List.getElem?_eq_none (by omega)] at hd
      simp at hd

theorem fr_sound {ops : Array Oper} {m : Nat} {tg : List Nat} {an : List (List Nat)} {bs : List (Option (Nat × Blk))} {Q' : Exit → Act → World → Prop} {Qf : Fr → Hp → Prop} {A0 An : Fr} {rs : List AV} {w0 : World} {S : Rg} (hS : Good N w0 S) (hfok : frOk ops m tg an = true)
    (hN : ∀ (j t : Nat) (o : Oper), ops[j]? = some o → o.dst = some t → t < N.n)
    (hl1 : rs.length = m)
    (hstep : ∀ j o, j < m → ops[j]? = some o → ∃ Aj : Fr, (∀ t, Aj.get t = valL (ops.toList.take m) rs A0.get j t) ∧ FrFact P N tg (an.getD j []) o Aj H0 (HsV bs (fun _ => true) H0 j) (rs.getD j .dead) (bs.getD j none))
    (hA0 : ∀ t a, A0.get t = some a → a.scrub (fun x => tg.contains x) = a) (hH0 : ∀ h B, H0 h = some B → B.scrub (fun x => tg.contains x) = B) (hfree : ∀ d, tg.contains d = true → H0 d = none)
    (hAn : ∀ t, An.get t = valL (ops.toList.take m) rs A0.get m t)
    (hrest : opsVC P N (ops.toList.map (·.dst)) Qf (ops.toList.drop m) An (HsV bs (fun _ => true) H0 m))
    (hQ : ∀ (A : Fr) (H : Hp) (a : Act) (w : World) (L : Loc), Sim N.n w0 S w a.tmps L A H → a.defers = [] → Qf A H → Q' .normal a w) :
    ∀ (fuel : Nat) (listed : Array Bool) (s : List Nat) (a : Act) (w : World), listed.size = ops.size → s.Nodup → (∀ k, k ∈ s ↔ listed.getD k false = true) → s.length + fuel = ops.size →
      (∀ (k : Nat) (o : Oper) (e : Edge), listed.getD k false = true → ops[k]? = some o → e ∈ o.after → Region.binds .any e = true → listed.getD e.on false = true) → a.defers = [] →
      ((∃ (A : Fr) (L : Loc), Sim N.n w0 S w a.tmps L A (HsV bs (fun k => listed.getD k false) H0 m) ∧ (∀ k, m ≤ k → ¬ listed.getD k false = true) ∧
          (∀ (k t : Nat) (o : Oper), ops[k]? = some o → listed.getD k false = true → o.dst = some t → A.get t = some (rs.getD k .dead)) ∧
          (∀ t, (∀ (k : Nat) (o : Oper), ops[k]? = some o → listed.getD k false = true → o.dst ≠ some t) → A.get t = A0.get t)) ∨
       ∃ (j : Nat) (A : Fr) (H3 : Hp) (L : Loc), m ≤ j ∧ j ≤ ops.size ∧ (∀ k, listed.getD k false = true ↔ k < j) ∧ Sim N.n w0 S w a.tmps L A H3 ∧ opsVC P N (ops.toList.map (·.dst)) Qf (ops.toList.drop j) A H3) →
      wpAny P .any ops Q' fuel listed a w := by
  obtain ⟨hok, hord, hins, hdst, htg⟩ := frOk_ok hfok
  obtain ⟨hany, hguard, hm, hL⟩ := preOk_ok hok
  obtain ⟨hinj, hback, hdep⟩ := anyOk_ok hany
  have tl : ∀ j : Nat, ops.toList[j]? = ops[j]? := fun j => Array.getElem?_toList
  have tk : ∀ n j o, (ops.toList.take n)[j]? = some o → j < n ∧ ops[j]? = some o := fun n j o h => by
    rw [List.getElem?_take] at h
    split at h
    · rename_i hlt; exact ⟨hlt, by rw [← tl]; exact h⟩
    · cases h
  have tk' : ∀ n j o, j < n → ops[j]? = some o → (ops.toList.take n)[j]? = some o := fun n j o h ho => by
    rw [List.getElem?_take, if_pos h, tl]; exact ho
  have len1 : (ops.toList.take m).length = m := by simp; omega
  have hit1 : ∀ j k t o, k < j → j ≤ m → ops[k]? = some o → o.dst = some t → valL (ops.toList.take m) rs A0.get j t = some (rs.getD k .dead) := fun j k t o hk hj ho hd =>
    valL_hit _ rs _ j t k o (by rw [len1]; exact hl1) hk (tk' m k o (by omega) ho) hd fun k' o' ho' hd' => hinj k' k t o' o (tk m k' o' ho').2 ho hd' hd
  have miss1 : ∀ j t, (∀ k o, k < j → ops[k]? = some o → o.dst ≠ some t) → valL (ops.toList.take m) rs A0.get j t = A0.get t := fun j t h =>
    valL_miss _ rs _ j t fun k o hk ho => h k o hk (tk m k o ho).2
  -- once the first m are through, the frame is the walk's
  have fin : ∀ (listed : Array Bool) (A : Fr), (∀ k, k < m → listed.getD k false = true) → (∀ k, m ≤ k → ¬ listed.getD k false = true) →
      (∀ (k t : Nat) (o : Oper), ops[k]? = some o → listed.getD k false = true → o.dst = some t → A.get t = some (rs.getD k .dead)) →
      (∀ t, (∀ (k : Nat) (o : Oper), ops[k]? = some o → listed.getD k false = true → o.dst ≠ some t) → A.get t = A0.get t) → ∀ t, A.get t = An.get t := by
    intro listed A h1 h2 h3 h4 t
    rw [hAn]
    by_cases hw : ∃ (k : Nat) (o : Oper), k < m ∧ ops[k]? = some o ∧ o.dst = some t
    · obtain ⟨k, o, hk, ho, hdt⟩ := hw
      rw [hit1 m k t o hk (Nat.le_refl _) ho hdt, h3 k t o ho (h1 k hk) hdt]
    · rw [miss1 m t fun k o hk ho hdt => hw ⟨k, o, hk, ho, hdt⟩]
      refine h4 t fun k o ho hl hdt => ?_
      rcases Nat.lt_or_ge k m with h | h
      · exact hw ⟨k, o, h, ho, hdt⟩
      · exact h2 k h hl
  have finH : ∀ (listed : Array Bool), (∀ k, k < m → listed.getD k false = true) → HsV bs (fun k => listed.getD k false) H0 m = HsV bs (fun _ => true) H0 m := fun listed hl => by
    funext h
    exact HsV_congr m fun k B hk _ => hl k hk
  intro fuel
  induction fuel with
  | zero =>
    intro listed s a w hsz hn hs hc hcl hd hst
    have hlt : ∀ k ∈ s, k < ops.size := fun k hk => by
      have := (hs k).1 hk
      rcases Nat.lt_or_ge k listed.size with h | h
      · omega
      · simp [Array.getD, show ¬ k < listed.size by omega] at this
    have hall : ∀ k, k < ops.size → listed.getD k false = true := fun k hk => (hs k).1 ((Go.Plain.nodup_iff_all (by omega) hlt).1 hn k hk)
    refine ⟨?_, ?_⟩
    · refine List.eq_nil_iff_forall_not_mem.2 fun j hj => ?_
      obtain ⟨h1, o, ho, _⟩ := mem_ready.1 hj
      have hj' : j < ops.size := (Array.getElem?_eq_some_iff.1 ho).1
      have := hall j hj'
      simp [Array.getD, hsz, hj'] at h1 this
      rw [h1] at this; cases this
    · rcases hst with ⟨A, L, sim, h2, h3, h4⟩ | ⟨j, A, H3, L, hj1, hj2, hj3, sim, hv⟩
      · have hsize : ops.size = m := by
          rcases Nat.lt_or_ge m ops.size with h | h
          · exact absurd (hall m h) (h2 m (Nat.le_refl _))
          · omega
        rw [List.drop_eq_nil_of_le (by simp; omega)] at hrest
        rw [finH listed fun k hk => hall k (by omega)] at sim
        exact hQ _ _ a w L (sim.sub (A' := An) fun t x hx => by rw [fin listed A (fun k hk => hall k (by omega)) h2 h3 h4 t]; exact hx) hd hrest
      · have : j = ops.size := by
          rcases Nat.lt_or_ge j ops.size with h | h
          · have := (hj3 j).1 (hall j h); omega
          · omega
        rw [List.drop_eq_nil_of_le (by simp; omega)] at hv
        exact hQ A H3 a w L sim hd hv
  | succ fuel ih =>
    intro listed s a w hsz hn hs hc hcl hd hst
    have ld : ∀ k, k < ops.size → (listed.getD k true = false ↔ ¬ listed.getD k false = true) := by
      intro k hk
      simp [Array.getD, hsz, hk]
    have hex : ∃ k, k < ops.size ∧ ¬ listed.getD k false = true := by
      refine Classical.byContradiction fun hno => ?_
      have : ∀ x ∈ List.range ops.size, x ∈ s := fun x hx => (hs x).2 (Classical.byContradiction fun h => hno ⟨x, by simpa using hx, h⟩)
      have := Go.Plain.nodup_le s (List.range ops.size) List.nodup_range this
      simp at this; omega
    refine ⟨fun h => absurd h (ready_ne hsz hback hex), fun i hi => ?_⟩
    obtain ⟨hun0, oi, hoi, hall⟩ := mem_ready.1 hi
    have hi' : i < ops.size := (Array.getElem?_eq_some_iff.1 hoi).1
    have hun := (ld i hi').1 hun0
    have g1 : ∀ k, (listed.setIfInBounds i true).getD k false = true ↔ (k = i ∨ listed.getD k false = true) := by
      intro k
      by_cases hk : k = i
      · subst hk; simp [Array.getD, hsz, hi']
      · rw [getD_set_ne false (Ne.symm hk)]; simp [hk]
    have next := fun (a' : Act) (w' : World) (hd' : a'.defers = []) => ih (listed.setIfInBounds i true) (i :: s) a' w' (by simp [hsz]) (List.nodup_cons.2 ⟨fun h => hun ((hs i).1 h), hn⟩) (fun k => by rw [g1, List.mem_cons, hs]) (by simp only [List.length_cons]; omega)
      (fun k o e hk ho he hb => by
        rw [g1] at hk ⊢
        rcases hk with rfl | hk
        · rw [hoi] at ho; simp only [Option.some.injEq] at ho; subst ho
          exact .inr (hall e he hb)
        · exact .inr (hcl k o e hk ho he hb)) hd'
    have hNi := fun t h => hN i t oi hoi h
    unfold wpOp
    simp only [hoi]
    rw [if_pos (by simp [Region.wanted, hguard i oi hoi])]
    left
    have right : ∀ (A : Fr) (H3 : Hp) (L : Loc), m ≤ i → (∀ k, listed.getD k false = true ↔ k < i) → Sim N.n w0 S w a.tmps L A H3 → opsVC P N (ops.toList.map (·.dst)) Qf (ops.toList.drop i) A H3 → oi.wp P a w (wpAny P .any ops Q' fuel (listed.setIfInBounds i true)) Q' := by
      intro A H3 L hmi hj3 sim hv
      have hd1 : ops.toList.drop i = oi :: ops.toList.drop (i + 1) := by
        rw [List.drop_eq_getElem_cons (by simpa using hi')]
        congr 1
        have := Array.getElem?_eq_some_iff.1 hoi
        obtain ⟨_, e⟩ := this
        simpa using e
      rw [hd1] at hv
      simp only [opsVC, hguard i oi hoi] at hv
      refine opVC_sound hv w0 S hS w a L sim _ Q' ?_
      intro u r L' A' H4 w' s' hr hk
      refine next _ _ (by rw [put_defers]; exact hd) (.inr ⟨i + 1, _, H4, L', by omega, by omega, fun k => ?_, s'.putd hNi hr, hk⟩)
      rw [g1, hj3]; omega
    rcases hst with ⟨A, L, sim, hhi, hlow, hrst⟩ | ⟨j, A, H3, L, hj1, hj2, hj3, sim, hv⟩
    case inr =>
      have hij : i = j := by
        have h1 : ¬ i < j := fun h => hun ((hj3 i).2 h)
        rcases Nat.lt_or_ge j i with h | h
        · have := pre_ready hcl hoi hall (hL i j hi' (by omega) h)
          have := (hj3 j).1 this
          omega
        · omega
      subst hij
      exact right A H3 L hj1 hj3 sim hv
    rcases Nat.lt_or_ge i m with him | him
    · obtain ⟨Ai, hAi, hop, hdi, hsr, hsb⟩ := hstep i oi him hoi
      -- the names that the operation lays
      have hle : Hp.le H0 (HsV bs (fun k => listed.getD k false) H0 m) := fun h B hB => by
        rcases HsV_val (H0 := H0) (bs := bs) (li := fun k => listed.getD k false) m h with ⟨h1, _⟩ | ⟨k, B', h1, h2, h3, h4, _⟩
        · rw [h1]; exact hB
        · obtain ⟨ok, hok'⟩ : ∃ ok, ops[k]? = some ok := ⟨ops[k], by simp [show k < ops.size by omega]⟩
          obtain ⟨_, _, _, _, _, hsb'⟩ := hstep k ok h1 hok'
          have := hfree h (htg k h1 h (hsb' h B' h3).1)
          rw [this] at hB; cases hB
      -- operations of one target come in their order
      have hsame : ∀ k d B B', k < m → k ≠ i → bs.getD i none = some (d, B) → bs.getD k none = some (d, B') → (listed.getD k false = true ↔ k < i) := fun k d B B' hk hki hbi hbk => by
        obtain ⟨ok, hok'⟩ : ∃ ok, ops[k]? = some ok := ⟨ops[k], by simp [show k < ops.size by omega]⟩
        obtain ⟨_, _, _, hdk, _, hsbk⟩ := hstep k ok hk hok'
        have hi1 := (hsb d B hbi).1
        have hk1 := (hsbk d B' hbk).1
        have up : preB ops ops.size i k = true → k < i ∧ listed.getD k false = true := fun h => by
          refine ⟨preB_lt hback ops.size i k h, pre_ready hcl hoi hall h⟩
        have dn : preB ops ops.size k i = true → i < k ∧ ¬ listed.getD k false = true := fun h => ⟨preB_lt hback ops.size k i h, fun hl => hun (pre_listed hcl ops.size k i h hl)⟩
        cases e1 : isIns ok.op with
        | false =>
          have ed := hdk e1 d B' hbk
          rcases hord i k ok him hk hok' e1 (by rw [← ed]; exact hi1) with h | h
          · exact absurd h hki
          · have := up h; exact ⟨fun _ => this.1, fun _ => this.2⟩
        | true =>
          cases e2 : isIns oi.op with
          | false =>
            have ed := hdi e2 d B hbi
            rcases hord k i oi hk him hoi e2 (by rw [← ed]; exact hk1) with h | h
            · exact absurd h.symm hki
            · have := dn h; exact ⟨fun hl => absurd hl this.2, fun hl => by omega⟩
          | true =>
            rcases Nat.lt_or_ge k i with h | h
            · have := up (hins k i ok oi (by omega) him hok' hoi e1 e2 h); exact ⟨fun _ => this.1, fun _ => this.2⟩
            · have := dn (hins i k oi ok (by omega) hk hoi hok' e2 e1 (by omega)); exact ⟨fun hl => absurd hl this.2, fun hl => by omega⟩
      have hat : ∀ d B, bs.getD i none = some (d, B) → HsV bs (fun k => listed.getD k false) H0 m d = HsV bs (fun _ => true) H0 i d := fun d B hbi => by
        rw [HsV_cut (li := fun k => listed.getD k false) (j := i) m (by omega) fun k B' h1 h2 hl hbk => ?_]
        · exact HsV_congr i fun k B' hk hbk => (hsame k d B B' (by omega) (by omega) hbi hbk).2 hk
        · by_cases e : k = i
          · subst e; exact hun hl
          · have := (hsame k d B B' h2 e hbi hbk).1 hl; omega
      have hput : ∀ d B, bs.getD i none = some (d, B) → HsV bs (fun k => (listed.setIfInBounds i true).getD k false) H0 m = (HsV bs (fun k => listed.getD k false) H0 m).upd d B := fun d B hbi => by
        funext h
        by_cases e : h = d
        · subst e
          rw [HsV_last (li := fun k => (listed.setIfInBounds i true).getD k false) him ((g1 i).2 (.inl rfl)) hbi fun k B' h1 h2 hl hbk => ?_]
          · simp [Hp.upd]
          · have hl' := ((g1 k).1 hl).resolve_left (by omega)
            have := (hsame k h B B' h2 (by omega) hbi hbk).1 hl'; omega
        · simp only [Hp.upd, e, if_false]
          refine HsV_congr m fun k B' hk hbk => ?_
          have hki : k ≠ i := fun e2 => by
            subst e2; rw [hbi] at hbk; simp only [Option.some.injEq, Prod.mk.injEq] at hbk; exact e hbk.1.symm
          exact getD_set_ne false (Ne.symm hki)
      have hnone : bs.getD i none = none → HsV bs (fun k => (listed.setIfInBounds i true).getD k false) H0 m = HsV bs (fun k => listed.getD k false) H0 m := fun hbi => by
        funext h
        refine HsV_congr m fun k B' hk hbk => ?_
        have hki : k ≠ i := fun e2 => by subst e2; rw [hbi] at hbk; cases hbk
        exact getD_set_ne false (Ne.symm hki)
      refine hop A _ (fun x hx => ?_) hle (fun d B hb => hat d B hb) w0 S hS w a L sim _ Q' ?_
      · cases x with
        | tmp t =>
          have ht : t ∈ oi.looksAt ops := List.mem_append_left _ (List.mem_filterMap.2 ⟨.tmp t, by simpa using hx, rfl⟩)
          show A.get t = Ai.get t
          rw [hAi]
          by_cases hx : ∃ (k : Nat) (o : Oper), ops[k]? = some o ∧ o.dst = some t
          · obtain ⟨k, o, ho, hdt⟩ := hx
            have free : ¬ listed.getD k false = true → i ≤ k → A.get t = valL (ops.toList.take m) rs A0.get i t := fun h1 h2 => by
              rw [hrst t fun k' o' ho' hl' e => h1 (hinj k' k t o' o ho' ho e hdt ▸ hl'), miss1 i t fun k' o' hk' ho' e => by have := hinj k' k t o' o ho' ho e hdt; omega]
            by_cases hki : k = i
            · subst hki; exact free hun (Nat.le_refl _)
            · rcases hdep k i t o oi hki ho hoi hdt ht with ⟨e, he, hb, rfl⟩ | ⟨e, he, hb, rfl⟩
              · have hk := hback i oi e hoi he hb
                rw [hlow e.on t o ho (hall e he hb) hdt, hit1 i e.on t o hk (by omega) ho hdt]
              · have h2 := hback k o e ho he hb
                exact free (fun h => hun (hcl k o e h ho he hb)) (by omega)
          · rw [hrst t fun k o ho _ e => hx ⟨k, o, ho, e⟩, miss1 i t fun k o _ ho e => hx ⟨k, o, ho, e⟩]
        | const v => rfl
        | global g => rfl
        | func f => rfl
      · rintro u rr L' A' H4 w' s' hr ⟨hrr, hb⟩
        subst hrr
        -- what the frame and the heap say behind it
        have hgo : (∀ t, (∀ (k : Nat) (o : Oper), ops[k]? = some o → listed.getD k false = true → k ≠ i → o.dst = some t → A'.get t = some (rs.getD k .dead))) → (∀ t, (∀ (k : Nat) (o : Oper), ops[k]? = some o → listed.getD k false = true → o.dst ≠ some t) → A'.get t = A0.get t) → H4 = HsV bs (fun k => (listed.setIfInBounds i true).getD k false) H0 m →
            wpAny P .any ops Q' fuel (listed.setIfInBounds i true) (a.put oi.dst u) w' := fun h1 h2 h3 => by
          subst h3
          refine next _ _ (by rw [put_defers]; exact hd) (.inl ⟨_, L', s'.putd hNi hr, fun k hk hl => ?_, fun k t o ho hl hdt => ?_, fun t ht => ?_⟩)
          · rcases (g1 k).1 hl with h | h
            · omega
            · exact hhi k hk h
          · rw [putd_get]
            by_cases hki : k = i
            · subst hki
              rw [hoi] at ho; simp only [Option.some.injEq] at ho; subst ho
              rw [if_pos hdt]
            · rw [if_neg fun e => hki (hinj k i t o oi ho hoi hdt e)]
              exact h1 t k o ho (((g1 k).1 hl).resolve_left hki) hki hdt
          · rw [putd_get, if_neg (ht i oi hoi ((g1 i).2 (.inl rfl)))]
            exact h2 t fun k o ho hk => ht k o ho ((g1 k).2 (.inr hk))
        cases hbi : bs.getD i none with
        | none =>
          rw [hbi] at hb
          obtain ⟨rfl, rfl⟩ := hb
          exact hgo (fun t k o ho hl _ hdt => hlow k t o ho hl hdt) hrst (hnone hbi).symm
        | some x =>
          obtain ⟨d, B⟩ := x
          rw [hbi] at hb
          simp only at hb
          split at hb
          · obtain ⟨rfl, rfl⟩ := hb
            exact hgo (fun t k o ho hl _ hdt => hlow k t o ho hl hdt) hrst (hput d B hbi).symm
          · rename_i hni
            obtain ⟨rfl, rfl⟩ := hb
            have hni' : isIns oi.op = false := by simpa using hni
            have ed := hdi hni' d B hbi
            have hdtg := htg i him d (hsb d B hbi).1
            have hbad : ∀ k, k < m → k ≠ i → listed.getD k false = true → ∀ x, (x == d) = true → bad tg (an.getD k []) x = true := fun k hk hki hl x hx => by
              have hx' : x = d := by simpa using hx
              subst hx'
              unfold bad
              rw [hdtg, Bool.true_and]
              cases e : (an.getD k []).contains x with
              | false => rfl
              | true =>
                rcases hord k i oi hk him hoi hni' (by rw [← ed]; exact e) with h | h
                · exact absurd h.symm hki
                · exact absurd (pre_listed hcl ops.size k i h hl) hun
            have htgd : ∀ x, (x == d) = true → (fun x => tg.contains x) x = true := fun x hx => by
              have hx' : x = d := by simpa using hx
              subst hx'; exact hdtg
            refine hgo (fun t k o ho hl hki hdt => ?_) (fun t ht => ?_) ?_
            · have hk : k < m := by
                rcases Nat.lt_or_ge k m with h | h
                · exact h
                · exact absurd hl (hhi k h)
              rw [Fr.get_scrub, hlow k t o ho hl hdt]
              obtain ⟨_, _, _, _, hsrk, _⟩ := hstep k o hk ho
              simp only [Option.map_some, Option.some.injEq]
              exact AV.scrub_le (hbad k hk hki hl) _ hsrk
            · rw [Fr.get_scrub, hrst t ht]
              cases e : A0.get t with
              | none => rfl
              | some x => simp only [Option.map_some, Option.some.injEq]; exact AV.scrub_le htgd _ (hA0 t x e)
            · rw [hput d B hbi]
              funext h
              unfold Hp.scrub
              by_cases e : h = d
              · subst e
                simp only [Hp.upd, if_true, Option.map_some, Option.some.injEq]
                refine Blk.scrub_le (q := badB tg (an.getD i []) h) (fun x hx => ?_) _ (hsb h B hbi).2
                have hx' : x = h := by simpa using hx
                subst hx'
                unfold badB
                rw [hdtg]; simp
              · simp only [Hp.upd, e, if_false]
                rcases HsV_val (H0 := H0) (bs := bs) (li := fun k => listed.getD k false) m h with ⟨h1, _⟩ | ⟨k, B', h1, h2, h3, h4, _⟩
                · rw [h1]
                  cases e2 : H0 h with
                  | none => rfl
                  | some B2 => simp only [Option.map_some, Option.some.injEq]; exact Blk.scrub_le htgd _ (hH0 h B2 e2)
                · rw [h4]
                  simp only [Option.map_some, Option.some.injEq]
                  have hki : k ≠ i := fun e2 => by subst e2; exact hun h2
                  obtain ⟨ok, hok'⟩ : ∃ ok, ops[k]? = some ok := ⟨ops[k], by simp [show k < ops.size by omega]⟩
                  obtain ⟨_, _, _, _, _, hsbk⟩ := hstep k ok h1 hok'
                  refine Blk.scrub_le (q := badB tg (an.getD k []) h) (fun x hx => ?_) _ (hsbk h B' h3).2
                  have := hbad k h1 hki h2 x hx
                  unfold bad at this
                  unfold badB
                  simp only [Bool.and_eq_true] at this ⊢
                  exact ⟨this.1, by rw [this.2]; rfl⟩
    · have hlw : ∀ k, k < i → listed.getD k false = true := fun k hk => pre_ready hcl hoi hall (hL i k hi' him hk)
      have him1 : i = m := by
        rcases Nat.lt_or_ge m i with h | h
        · exact absurd (hlw m h) (hhi m (Nat.le_refl _))
        · omega
      subst him1
      rw [finH listed hlw] at sim
      refine right An _ L him (fun k => ⟨fun h => ?_, hlw k⟩) (sim.sub fun t x hx => by rw [fin listed A hlw hhi hlow hrst t]; exact hx) hrest
      rcases Nat.lt_or_ge k i with h2 | h2
      · exact h2
      · exact absurd h (hhi k h2)


variable (P N) in
/-- The free part, read in its order. -/
def opsF (tg : List Nat) (Q : Fr → Hp → Prop) : List Oper → List (List Nat) → Fr → Hp → Hp → Prop
  | [], _, A, _, M => Q A M
  | o :: l, an, A, H0, M => opF P N (o.dst.getD 0) o.op A H0 M fun r b => Ob (r.scrub (bad tg (an.headD [])) = r) (match b with
    | none => opsF tg Q l an.tail (putd o.dst r A) H0 M
    | some (d, B) => Ob ((an.headD []).contains d = true ∧ B.scrub (badB tg (an.headD []) d) = B) (opsF tg Q l an.tail (putd o.dst r A) H0 (M.upd d B)))
def LexF (P : Program) (N : Cx) (tg : List Nat) (Q : Fr → Hp → Prop) (H0 : Hp) (l : List Oper) (an : List (List Nat)) (A : Fr) (M : Hp) : Prop :=
    ∃ (rs : List AV) (bs : List (Option (Nat × Blk))) (An : Fr), rs.length = l.length ∧ bs.length = l.length ∧ Q An (HsV bs (fun _ => true) M l.length) ∧ (∀ t, An.get t = valL l rs A.get l.length t) ∧
      ∀ j o, j < l.length → l[j]? = some o → ∃ Aj : Fr, (∀ t, Aj.get t = valL l rs A.get j t) ∧ FrFact P N tg (an.getD j []) o Aj H0 (HsV bs (fun _ => true) M j) (rs.getD j .dead) (bs.getD j none)
theorem HsV_no {bs : List (Option (Nat × Blk))} {li : Nat → Bool} (h : ∀ n, li n = false) : ∀ n, HsV bs li H0 n = H0
  | 0 => rfl
  | n + 1 => by
    simp only [HsV, h n, HsV_no h n]
    split <;> rfl
theorem opsF_lex {tg : List Nat} {Q : Fr → Hp → Prop} : ∀ (l : List Oper) (an : List (List Nat)) (A : Fr) (M : Hp), opsF P N tg Q l an A H0 M → LexF P N tg Q H0 l an A M
  | [], an, A, M, h => ⟨[], [], A, rfl, rfl, h, fun t => rfl, fun j o hj => absurd hj (Nat.not_lt_zero _)⟩
  | o :: l, an, A, M, h => by
    obtain ⟨r, b, h1, h2, h3⟩ := opF_ok h
    obtain ⟨h4, h5⟩ := h1
    have e0 : an.getD 0 [] = an.headD [] := by cases an <;> rfl
    have ej : ∀ j, an.getD (j + 1) [] = an.tail.getD j [] := fun j => by cases an <;> simp
    have shift : ∀ (bs : List (Option (Nat × Blk))) n, HsV (b :: bs) (fun _ => true) M (n + 1) = HsV bs (fun _ => true) (HsV [b] (fun _ => true) M 1) n := by
      intro bs n
      induction n with
      | zero => rfl
      | succ n ih =>
        have e1 : (b :: bs).getD (n + 1) none = bs.getD n none := by simp
        show (match (b :: bs).getD (n + 1) none with
          | some (d, B) => if (fun _ => true) (n + 1) then (HsV (b :: bs) (fun _ => true) M (n + 1)).upd d B else HsV (b :: bs) (fun _ => true) M (n + 1)
          | none => HsV (b :: bs) (fun _ => true) M (n + 1)) = _
        rw [e1, ih]
        rfl
    have key : ∀ M1, M1 = HsV [b] (fun _ => true) M 1 → (∀ d B, b = some (d, B) → (an.headD []).contains d = true ∧ B.scrub (badB tg (an.headD []) d) = B) → opsF P N tg Q l an.tail (putd o.dst r A) H0 M1 → LexF P N tg Q H0 (o :: l) an A M := fun M1 hM hsb hr => by
      obtain ⟨rs, bs, An, k1, k2, k3, k4, k5⟩ := opsF_lex l an.tail _ M1 hr
      subst hM
      have gv : ∀ n t, valL (o :: l) (r :: rs) A.get (n + 1) t = valL l rs (putd o.dst r A).get n t := fun n t => by
        have : (putd o.dst r A).get = fun t => if o.dst = some t then some r else A.get t := by funext t; exact putd_get _ _ _ _
        rw [this]; rfl
      exact ⟨r :: rs, b :: bs, An, by simp [k1], by simp [k2], by rw [List.length_cons, shift]; exact k3, fun t => by rw [List.length_cons, gv]; exact k4 t, fun j o' hj ho' => by
        cases j with
        | zero =>
          simp only [List.getElem?_cons_zero, Option.some.injEq] at ho'
          subst ho'
          refine ⟨A, fun t => rfl, ?_⟩
          rw [e0]
          exact ⟨h2, h3, h4, hsb⟩
        | succ j =>
          obtain ⟨Aj, q1, q2⟩ := k5 j o' (by simpa using hj) (by simpa using ho')
          refine ⟨Aj, fun t => by rw [gv]; exact q1 t, ?_⟩
          rw [ej, shift]
          simpa using q2⟩
    cases hb : b with
    | none =>
      rw [hb] at h5
      exact key M (by rw [hb]; rfl) (fun d B e => by rw [hb] at e; cases e) h5
    | some x =>
      obtain ⟨d, B⟩ := x
      rw [hb] at h5
      exact key (M.upd d B) (by rw [hb]; rfl) (fun d' B' e => by rw [hb] at e; simp only [Option.some.injEq, Prod.mk.injEq] at e; obtain ⟨rfl, rfl⟩ := e; exact h5.1) h5.2

def noneAll (H : Hp) : List Nat → Prop
  | [] => True
  | d :: r => H d = none ∧ noneAll H r
theorem noneAll_ok : ∀ {tg : List Nat}, noneAll H tg → ∀ d, tg.contains d = true → H d = none
  | [], _, d, hd => by simp at hd
  | e :: r, h, d, hd => by
    simp only [List.contains_cons, Bool.or_eq_true, beq_iff_eq] at hd
    rcases hd with rfl | hd
    · exact h.1
    · exact noneAll_ok h.2 d hd
theorem awp_regionF (m : Nat) (tg : List Nat) (an : List (List Nat)) {id : Nat} {l : List Oper} {Q : Exit → Fr → Hp → Prop} (hm : P.follows .mixedOrders = true) (hB : frOk l.toArray m tg an = true) (hN : dstsOk N l = true)
    (hA : A.scrub (fun x => tg.contains x) = A) (hH : H.scrub (fun x => tg.contains x) = H) (hn : noneAll H tg)
    (h : opsF P N tg (fun A1 M => opsVC P N (l.map (·.dst)) (Q .normal) (l.drop m) A1 M) (l.take m) an A H H) : AWP P N (.region id l.toArray true) Q A H := by
  have hmem := dstsOk_mem hN
  obtain ⟨hok, _⟩ := frOk_ok hB
  obtain ⟨hany, hguard, hmm, hL⟩ := preOk_ok hok
  have hml : m ≤ l.length := by simpa using hmm
  obtain ⟨rs, bs, An, k1, k2, k3, k4, k5⟩ := opsF_lex _ _ A H h
  have lm : (l.take m).length = m := by simp; omega
  rw [lm] at k1 k2 k3 k4
  intro w0 S hS w a L s hd
  have s1 : Sim N.n w0 S w.drew a.tmps L A H := s.drew
  refine wp_region_any hm ?_
  have e0 : HsV bs (fun k => (Array.replicate l.toArray.size false).getD k false) H m = H := HsV_no (fun n => by simp [Array.getD]) m
  refine fr_sound (ops := l.toArray) (A0 := A) (An := An) (rs := rs) (H0 := H) (m := m) (bs := bs) (tg := tg) (an := an) (Qf := Q .normal) hS hB (fun j t o ho hdt => hmem o (List.mem_of_getElem? (by simpa using ho)) t hdt) k1 ?_ ?_ ?_ (noneAll_ok hn) k4 k3 ?_ _ _ [] a _ (by simp) List.nodup_nil ?_ (by simp) ?_ hd (.inl ⟨A, L, by rw [e0]; exact s1, ?_, ?_, ?_⟩)
  · intro j o' hj ho'
    exact k5 j o' (by rw [lm]; exact hj) (by rw [List.getElem?_take, if_pos hj]; simpa using ho')
  · intro t x hx
    have := Fr.get_scrub (fun x => tg.contains x) A t
    rw [hA, hx] at this
    simpa using this.symm
  · intro x B hB
    have := congrFun hH x
    unfold Hp.scrub at this
    rw [hB] at this
    simpa using this
  · intro A' H3 a' w' L' s' hd' hq
    exact ⟨L', A', H3, s', hd', hq⟩
  · intro k; simp [Array.getD]
  · intro k o e hk; simp [Array.getD] at hk
  · intro k _ hk; simp [Array.getD] at hk
  · intro k t o _ hk; simp [Array.getD] at hk
  · intro t _; rfl
theorem awp_regionFK (ks m : Nat) (tg : List Nat) (an : List (List Nat)) {id : Nat} {l : List Oper} {Q : Exit → Fr → Hp → Prop} (hm : P.follows .mixedOrders = true) (hB : frOk l.toArray m tg an = true) (hN : dstsOk N l = true)
    (hA : A.scrub (fun x => tg.contains x) = A) (hH : H.scrub (fun x => tg.contains x) = H) (hn : noneAll H tg)
    (h : opsF P N tg (fun A1 M => opsVC P N (l.map (·.dst)) (keepQ ks Q .normal) (l.drop m) A1 M) (l.take m) an A H H) : AWP P N (.region id l.toArray true) Q A H :=
  awp_weak (awp_regionF m tg an hm hB hN hA hH hn h) keepQ_weak

section
variable (d : Nat) (A : Fr) (H0 M : Hp) (K : AV → Option (Nat × Blk) → Prop)
theorem opF_move (x : Operand) : opF P N d (.move x) A H0 M K = opQ P N d (.move x) A H0 fun r => K r none := rfl
theorem opF_load (t : TypeId) (x : Operand) : opF P N d (.load t x) A H0 M K = opQ P N d (.load t x) A H0 fun r => K r none := rfl
theorem opF_fieldAddr (t : TypeId) (x : Operand) (i : Nat) : opF P N d (.fieldAddr t x i) A H0 M K = opQ P N d (.fieldAddr t x i) A H0 fun r => K r none := rfl
theorem opF_indexAddr (t : TypeId) (x y : Operand) : opF P N d (.indexAddr t x y) A H0 M K = opQ P N d (.indexAddr t x y) A H0 fun r => K r none := rfl
theorem opF_nilCheck (x : Operand) : opF P N d (.nilCheck x) A H0 M K = opQ P N d (.nilCheck x) A H0 fun r => K r none := rfl
theorem opF_call (c : Call) : opF P N d (.call c) A H0 M K = opQ P N d (.call c) A H0 fun r => K r none := rfl
theorem opF_binOp (o : BinOp) (t : TypeId) (x y : Operand) (u : TypeId) : opF P N d (.binOp o t x y u) A H0 M K = opQ P N d (.binOp o t x y u) A H0 fun r => K r none := rfl
theorem opF_build (t : TypeId) (ps : Array (Nat × Operand)) : opF P N d (.build t ps) A H0 M K = opQ P N d (.build t ps) A H0 fun r => K r none := rfl
theorem opF_bs (t : TypeId) (len : Nat) (ps : Array (Nat × Operand)) : opF P N d (.buildSlice t len ps) A H0 M K = (match selOf P t, evParts A ps.toList with
    | some se, some l => Ob ((N.pn d = false ∧ 0 < se.size ∧ len * se.size ≤ 16777216) ∧ fillOk (fun i => some (i * se.size, se.size)) (len * se.size) l)
        (K (.own d 0 se.size len) (some (d, .cells (len * se.size) (fillF (fun i => some (i * se.size, se.size)) l (zF se.zero)))))
    | _, _ => False) := rfl
theorem opF_mk (t : TypeId) : opF P N d (.makeMap t none) A H0 M K = (match mapOf P t with
    | some _ => Ob (N.pn d = false) (K (.map d) (some (d, .mp [])))
    | none => False) := rfl
theorem opF_ins (t : TypeId) (m k x : Operand) : opF P N d (.insert t m k x) A H0 M K = (withA (A.ev m) fun a => withA (A.ev k) fun b => withA (A.ev x) fun c => match mapOf P t, a, b with
    | some _, .map h, .v (.string s) => (match M h with
      | some (.mp kv) => Ob (kvStr kv = true) (Ob (kvHas s kv = false) (K .dead (some (h, .mp (kv ++ [(.string s, c)])))))
      | _ => False)
    | _, _, _ => False) := rfl
theorem opF_box (t : TypeId) (x : Operand) : opF P N d (.box t x) A H0 M K = (withA (A.ev x) fun a => Ob (N.pn d = false) (match aggOf a with
    | some (n, g) => K (.ref d 0) (some (d, .cells n g))
    | none => Ob (a.one = true) (K (.ref d 0) (some (d, .cells 1 fun _ => a))))) := rfl
theorem opF_alloc (t : TypeId) : opF P N d (.alloc t) A H0 M K = (match tyOf P t with
    | some ty => Ob (N.pn d = false) (K (.ref d 0) (some (d, .cells ty.size (zF ty.zero))))
    | none => False) := rfl
theorem opsF_nil (tg : List Nat) (Q : Fr → Hp → Prop) (an : List (List Nat)) : opsF P N tg Q [] an A H0 M = Q A M := rfl
theorem opsF_some (tg : List Nat) (Q : Fr → Hp → Prop) (op : Op) (ty : TypeId) (pos : String) (aft : Array Edge) (l : List Oper) (a : List Nat) (an : List (List Nat)) : opsF P N tg Q (⟨some d, op, ty, pos, aft, none⟩ :: l) (a :: an) A H0 M = opF P N d op A H0 M fun r b => Ob (r.scrub (bad tg a) = r) (match b with
    | none => opsF P N tg Q l an ((d, r) :: A) H0 M
    | some (d', B) => Ob (a.contains d' = true ∧ B.scrub (badB tg a d') = B) (opsF P N tg Q l an ((d, r) :: A) H0 (M.upd d' B))) := rfl
theorem opsF_none (tg : List Nat) (Q : Fr → Hp → Prop) (op : Op) (ty : TypeId) (pos : String) (aft : Array Edge) (l : List Oper) (a : List Nat) (an : List (List Nat)) : opsF P N tg Q (⟨none, op, ty, pos, aft, none⟩ :: l) (a :: an) A H0 M = opF P N 0 op A H0 M fun r b => Ob (r.scrub (bad tg a) = r) (match b with
    | none => opsF P N tg Q l an A H0 M
    | some (d', B) => Ob (a.contains d' = true ∧ B.scrub (badB tg a d') = B) (opsF P N tg Q l an A H0 (M.upd d' B))) := rfl
end
attribute [go_sem ↓] opF_move opF_load opF_fieldAddr opF_indexAddr opF_nilCheck opF_call opF_binOp opF_build opF_bs opF_mk opF_ins opF_box opF_alloc opsF_nil opsF_some opsF_none
end
end Go.Av
end
/- Results that stand over blocks of our own; calls that read such blocks. -/
section
namespace Go.Av
section
variable {N : Cx} {A A' : Fr} {H H' : Hp}
theorem end_tup2 {P : Program} {fn : Func} {t u : Tmp} {a b : AV} {post : AV → Hp → Prop} (hr : fn.results.toList = [.tmp t, .tmp u]) (htu : t ≠ u) (s : Sub N A H [(t, a), (u, b)] H') (hp : post (.tup 2 (vecF [a, b])) H') : endQ P N fn post .ret A H :=
  ⟨_, _, s, by rw [hr]; simp only [resVC, Fr.get, if_true, withA_some, htu, if_false]; exact hp⟩
theorem end_tup3 {P : Program} {fn : Func} {t u v : Tmp} {a b c : AV} {post : AV → Hp → Prop} (hr : fn.results.toList = [.tmp t, .tmp u, .tmp v]) (htu : t ≠ u) (htv : t ≠ v) (huv : u ≠ v) (s : Sub N A H [(t, a), (u, b), (v, c)] H') (hp : post (.tup 3 (vecF [a, b, c])) H') : endQ P N fn post .ret A H :=
  ⟨_, _, s, by rw [hr]; simp only [resVC, Fr.get, if_true, withA_some, htu, htv, huv, if_false]; exact hp⟩
/-- What is told is told anew before a region, if slot t was told last. -/
theorem awp_cutR {P : Program} (id t : Nat) {l : Array Oper} {b : Bool} {x : AV} {A0 : Fr} {Q : Exit → Fr → Hp → Prop} (hs : Sub N ((t, x) :: A0) H A' H') (h : AWP P N (.region id l b) Q A' H') : AWP P N (.region id l b) Q ((t, x) :: A0) H := awp_sub hs h
theorem c9 {f g : Nat → AV} (h0 : f 0 = g 0) (h1 : f 1 = g 1) (h2 : f 2 = g 2) (h3 : f 3 = g 3) (h4 : f 4 = g 4) (h5 : f 5 = g 5) (h6 : f 6 = g 6) (h7 : f 7 = g 7) (h8 : f 8 = g 8) : ∀ i, i < 9 → f i = g i := fun i hi => by
  match i, hi with
  | 0, _ => exact h0
  | 1, _ => exact h1
  | 2, _ => exact h2
  | 3, _ => exact h3
  | 4, _ => exact h4
  | 5, _ => exact h5
  | 6, _ => exact h6
  | 7, _ => exact h7
  | 8, _ => exact h8
theorem ap_ints (xs : List (List Int)) (y : List Int) : ∀ i, i < xs.length + 1 → apF xs.length (cM ints [] xs) (setF (zF [.slice none 0 0]) 0 (ints y)) i = cM ints [] (xs ++ [y]) i := fun i hi => by
  by_cases h : i < xs.length
  · simp [apF, cM, List.getD_eq_getElem?_getD, List.getElem?_append, h]
  · have e : i = xs.length := by omega
    subst e
    simp [apF, setF, cM, List.getD_eq_getElem?_getD]
theorem ap_iv (xs : List Int) (y : Int) (f : Nat → AV) (hf : f 0 = .v (.int .i64 y)) : ∀ i, i < xs.length + 1 → apF xs.length (cM iv 0 xs) f i = cM iv 0 (xs ++ [y]) i := fun i hi => by
  by_cases h : i < xs.length
  · simp [apF, cM, List.getD_eq_getElem?_getD, List.getElem?_append, h]
  · have e : i = xs.length := by omega
    subst e
    simp [apF, cM, List.getD_eq_getElem?_getD, hf, iv]
/-- Names that a contract's results may bear. -/
def pM (h : Nat) : Bool := decide (1000000 ≤ h)
theorem pM_low {h : Nat} (hh : h < 1000000) : pM h = false := by simp [pM]; omega
theorem pM_high {h : Nat} (hh : 1000000 ≤ h) : pM h = true := by simp [pM, hh]
/-- A call that hands back a result over blocks of its own. -/
theorem callHp {P : Program} {f : FuncId} {args : List AV} {pn : Nat → Bool} {post : AV → Hp → Prop} {K : AV → Fr → Hp → Prop} (hac : AC P f args Hp.emp pn post) (hpn : N.pn = fun _ => false)
    (hK : ∀ r H', post r H' → (∀ h, H' h ≠ none → 1000000 ≤ h) ∧ r.scrub (fun h => !liveB H' h) = r ∧ H'.scrub (fun h => !liveB H' h) = H' ∧ K r (A.scrub pM) (H'.add (H.scrub pM))) : CallG P N f args A H K := by
  refine callG_of hac pM false (by simp [Hp.emp]) (FitsL.refl _) (fun _ => rfl) (by simp [Hp.emp]) (by simp [hpn]) ?_
  intro r H' hp
  obtain ⟨h1, h2, h3, h4⟩ := hK r H' hp
  refine ⟨fun h hn _ => pM_high (h1 h hn), by simp, ?_⟩
  rw [h2, h3]
  have e : Hp.over H' (H.scrub pM) Hp.emp = H'.add (H.scrub pM) := by
    funext h
    unfold Hp.over Hp.add
    cases H' h with
    | some B => rfl
    | none => simp [Hp.emp]
  rw [e]; exact h4
/-- A call that reads blocks that are pinned, and hands back a value. -/
theorem callPn {P : Program} {f : FuncId} {args : List AV} {Hin : Hp} {pn : Nat → Bool} {a : AV} {K : AV → Fr → Hp → Prop} (hH : Hp.le Hin H) (hac : AC P f args Hin pn (fun r H => r = a ∧ H = Hin)) (hp : ∀ h, Hin h ≠ none → pn h = true)
    (ha : a.scrub (fun h => !liveB Hin h) = a) (hs : Hin.scrub (fun h => !liveB Hin h) = Hin) (hK : K a A H) : CallG P N f args A H K := by
  refine callG_of hac (fun _ => false) false hH (FitsL.refl _) (fun _ => rfl) (fun h hn _ => hp h hn) (by simp) ?_
  rintro r H' ⟨rfl, rfl⟩
  refine ⟨fun h h1 h2 => absurd h2 h1, by simp, ?_⟩
  rw [ha, hs, Fr.scrub_none, Hp.scrub_none]
  have e : Hp.over H' H H' = H := by
    funext h
    unfold Hp.over
    cases e2 : H' h with
    | some B => exact (hH h B e2).symm
    | none => simp
  rw [e]; exact hK
theorem upd_add (X R : Hp) (h : Nat) (B : Blk) : (X.upd h B).add R = (X.add R).upd h B := by
  funext g
  unfold Hp.add Hp.upd
  by_cases e : g = h <;> simp [e]
theorem emp_add (R : Hp) : Hp.emp.add R = R := rfl
end
end Go.Av
end
/- Calls that read pinned blocks, and hand back new rows beside them. -/
section
namespace Go.Av
section
variable {P : Program} {N : Cx} {A : Fr} {H : Hp}
/-- A call that reads blocks that are pinned, and hands back a result over them and over a new block d. -/
theorem callPnD {f : FuncId} {args : List AV} {Hin : Hp} {pn : Nat → Bool} {a : AV} {d : Nat} {B : Blk} {K : AV → Fr → Hp → Prop} (hH : Hp.le Hin H) (hac : AC P f args Hin pn (fun r H' => r = a ∧ H' = Hin.upd d B)) (hp : ∀ h, Hin h ≠ none → pn h = true) (_hd : Hin d = none) (hpd : N.pn d = false)
    (ha : a.scrub (fun h => !liveB (Hin.upd d B) h) = a) (hs : (Hin.upd d B).scrub (fun h => !liveB (Hin.upd d B) h) = Hin.upd d B) (hlv : ∀ h C, Hin h = some C → C.scrub (· == d) = C) (hK : K a (A.scrub (· == d)) ((H.scrub (· == d)).upd d B)) : CallG P N f args A H K := by
  refine callG_of hac (· == d) false hH (FitsL.refl _) (fun _ => rfl) (fun h hn _ => hp h hn) (fun h e => by by_cases k : h = d <;> simp_all) ?_
  rintro r H' ⟨rfl, rfl⟩
  refine ⟨fun h h1 h2 => ?_, by simp, ?_⟩
  · by_cases e : h = d
    · simp [e]
    · exfalso
      apply h1
      simp only [Hp.upd, if_neg e]; exact h2
  rw [ha, hs]
  have e : Hp.over (Hin.upd d B) (H.scrub (· == d)) Hin = (H.scrub (· == d)).upd d B := by
    funext h
    unfold Hp.over Hp.upd
    by_cases e : h = d
    · rw [if_pos e, if_pos e]
    · rw [if_neg e, if_neg e]
      cases e2 : Hin h with
      | some C =>
        have h1 := hH h C e2
        show some C = (H h).map _
        rw [h1, Option.map_some, hlv h C e2]
      | none => simp
  rw [e]; exact hK
end
end Go.Av
end
/- Rows of rows, a row and a bool handed back at once. -/
section
namespace Go.Av
def nIIB (d e h : Nat) : Bool := famB d h || h == e
theorem nIIB_lit {d e h : Nat} (hh : h < 2097152) (h1 : h ≠ d) (h2 : h ≠ e) : nIIB d e h = false := by
  unfold nIIB
  rw [famB_lit hh, beq_eq_false_iff_ne.2 h1, beq_eq_false_iff_ne.2 h2]; rfl
theorem nIIB_d {d e : Nat} : nIIB d e d = true := by unfold nIIB famB; simp
theorem nIIB_e {d e : Nat} : nIIB d e e = true := by unfold nIIB; simp
section
variable {P : Program} {N : Cx} {A : Fr} {H : Hp}
theorem Hp.scrub_IIB {d e g k n : Nat} {xss : List (List Int)} (hd : d < 2097152) (he : e < 2097152) (_hg : g < 2097152) (hk : k ≤ 2097152) (hne : g ≠ d) (_hne2 : g ≠ e) : ((PR g xss k n).add H).scrub (nIIB d e) = (PR g xss k n).add (H.scrub (nIIB d e)) := by
  have hs : ∀ i, i < k → nIIB d e (sub g i) = false := fun i hi => by
    have h1 := sub_ge g i; rw [FB_eq] at h1
    have h2 : i < FB := by rw [FB_eq]; omega
    have h3 : sub g i ≠ e := by omega
    have h4 : sub g i ≠ d := by omega
    simp [nIIB, famB, h3, h4, sub_div h2, hne]
  funext x
  simp only [Hp.scrub, Hp.add]
  cases hx : (PR g xss k n) x with
  | none => rfl
  | some B =>
    simp only [Option.map_some, Option.some.injEq]
    unfold PR at hx
    split at hx
    · simp only [Option.some.injEq] at hx; subst hx
      simp only [Blk.scrub]
      congr 1
      funext i
      exact mixF_plain_scrub hs i
    · split at hx
      · simp only [Option.some.injEq] at hx; subst hx; rfl
      · simp at hx
end
attribute [go_sem] nIIB_lit nIIB_d nIIB_e Hp.scrub_IIB
end Go.Av
end
/- Regions of open order: the first operations in any order, then a sequence, and a last operation that sets a constant, anywhere. -/
section
namespace Go.Av
section
variable {P : Program} {N : Cx} {A : Fr} {H : Hp}
variable (P N) in
end
end Go.Av
end
/- Dice and sources: a struct of bytes, a place and a number, pinned; calls that throw them. -/
section
namespace Go.Av
/-- Dice: the code's bytes, how many are used up, a number. -/
structure Dc where
  xs : List Int
  i : Nat
  h : Int
  hi : i ≤ xs.length
  hx : ∀ j, 0 ≤ xs.getD j 0 ∧ xs.getD j 0 ≤ 255
  hl : xs.length ≤ 4096
def u8v (n : Int) : AV := .v (.int .u8 n)
abbrev bts (xs : List Int) : AV := .list false 1 xs.length (cM u8v 0 xs)
def dF (k : IntKind) (d : Dc) : Nat → AV := vecF [bts d.xs, .v (.int .i64 (d.i)), .v (.int k d.h)]
@[go_sem] theorem scF_dF (p : Nat → Bool) (k : IntKind) (d : Dc) : scF p (dF k d) = dF k d := by
  unfold dF; rw [scF_vecF]; rfl
def DH (k : IntKind) (d : Dc) : Hp := Hp.emp.upd 1000000 (.cells 3 (dF k d))
/-- Dice again, and a result. -/
def postD (k : IntKind) (Q : AV → Prop) (r : AV) (H : Hp) : Prop := ∃ d : Dc, Q r ∧ H = DH k d
section
variable {P : Program} {N : Cx} {A A' : Fr} {H H' : Hp}
/-- Names turned, those that stay left where they are. -/
theorem Sub.layMp (ρ : Nat → Option Nat) (hpn : ∀ h, N.pn h = true → ρ h = some h) (hA : ∀ i c, A'.get i = some c → ∃ a, A.get i = some a ∧ Lay ρ a c)
    (hH : ∀ h B', H' h = some B' → (∃ g n f f', ρ h = some g ∧ B' = .cells n f' ∧ H g = some (.cells n f) ∧ ∀ i, i < n → Lay ρ (f i) (f' i)) ∨ (ρ h = none ∧ ∃ f, B' = .cells 0 f) ∨ (∃ g kv, ρ h = some g ∧ B' = .mp kv ∧ H g = some (.mp kv) ∧ ∀ x ∈ kv, x.2.plain))
    (hinj : ∀ h g k, H' h ≠ none → H' g ≠ none → ρ h = some k → ρ g = some k → h = g) : Sub N A H A' H' := by
  intro w0 S hS w tm L s
  have live : ∀ h k, H' h ≠ none → ρ h = some k → H k ≠ none := by
    intro h k hn e
    cases hB : H' h with
    | none => exact absurd hB hn
    | some B =>
      rcases hH h B hB with ⟨g, n, f, f', e1, _, e2, _⟩ | ⟨e1, _⟩ | ⟨g, kv, e1, _, e2, _⟩
      · rw [e] at e1; simp only [Option.some.injEq] at e1; subst e1; rw [e2]; simp
      · rw [e] at e1; simp at e1
      · rw [e] at e1; simp only [Option.some.injEq] at e1; subst e1; rw [e2]; simp
  have dec : ∀ h q, ((ρ h).bind L) = some q → ∃ k, ρ h = some k ∧ L k = some q := by
    intro h q hq
    cases e : ρ h with
    | none => rw [e] at hq; simp at hq
    | some k => rw [e] at hq; exact ⟨k, rfl, hq⟩
  have hok : ∀ b, okb S H L b → okb S H' (fun h => (ρ h).bind L) b := fun b hb => ⟨hb.1, fun h q hn hq => by
    obtain ⟨k, e1, e2⟩ := dec h q hq
    exact hb.2 k q (live h k hn e1) e2⟩
  refine ⟨fun h => (ρ h).bind L, s.keep, s.size, fun i c hc => ?_, fun h B hB => ?_, fun h q hn hq => ?_, fun h g q r hn hm hq hr e => ?_, fun h l hl => ?_⟩
  · obtain ⟨a, h1, h2⟩ := hA i c hc
    exact Rd.mono (fun b _ hb => hok b hb) (h2.rd _ (s.slot i a h1))
  · rcases hH h B hB with ⟨g, n, f, f', e1, rfl, e2, e3⟩ | ⟨e1, f, rfl⟩ | ⟨g, kv, e1, rfl, e2, e3⟩
    · have hb := s.blk g _ e2
      simp only [e1, Option.bind_some]
      cases hl : L g with
      | none => rw [hl] at hb; exact hb
      | some q =>
        rw [hl] at hb
        obtain ⟨cs, e, k1, k2, k3⟩ := hb
        exact ⟨cs, e, k1, k2, fun i hi => let ⟨c, k4, k5⟩ := k3 i hi; ⟨c, k4, Rd.mono (fun b _ hb => hok b hb) ((e3 i hi).rd _ k5)⟩⟩
    · simp only [e1, Option.bind_none]; rfl
    · have hb := s.blk g _ e2
      simp only [e1, Option.bind_some]
      cases hl : L g with
      | none => rw [hl] at hb; exact hb.elim
      | some q =>
        rw [hl] at hb
        obtain ⟨es, clock, k1, k2, k3⟩ := hb
        exact ⟨es, clock, k1, k2, fun i e he => let ⟨a, k4, k5⟩ := k3 i e he; ⟨a, k4, Rd.mono (fun b _ hb => hok b hb) (Rd.plain a _ _ _ (e3 _ (List.mem_of_getElem? k4)) k5)⟩⟩
  · obtain ⟨k, e1, e2⟩ := dec h q hq
    exact s.own k q (live h k hn e1) e2
  · obtain ⟨k1, e1, e2⟩ := dec h q hq
    obtain ⟨k2, e3, e4⟩ := dec g r hr
    have := s.inj k1 k2 q r (live h k1 hn e1) (live g k2 hm e3) e2 e4 e
    subst this
    exact hinj h g k1 hn hm e1 e3
  · cases e : N.pn h with
    | false => rw [hS.free h e] at hl; simp at hl
    | true => show (ρ h).bind L = l; rw [hpn h e]; exact s.pin h l hl
/-- A call that throws dice. -/
theorem callD {f : FuncId} {args : List AV} {k : IntKind} {d : Dc} {Q : AV → Prop} {K : AV → Fr → Hp → Prop} (hH : H 1000000 = some (.cells 3 (dF k d))) (hac : AC P f args (DH k d) pM (postD k Q)) (hQ : ∀ r, Q r → ∀ p, r.scrub p = r)
    (hK : ∀ r d', Q r → K r A (H.upd 1000000 (.cells 3 (dF k d')))) : CallG P N f args A H K := by
  have hle : Hp.le (DH k d) H := Hp.le_upd hH (Hp.le_emp _)
  have hpm : ∀ h, DH k d h ≠ none → h = 1000000 := fun h hn => by
    unfold DH Hp.upd at hn
    by_cases e : h = 1000000
    · exact e
    · rw [if_neg e] at hn; exact absurd rfl hn
  refine callG_of hac (fun _ => false) false hle (FitsL.refl _) (fun _ => rfl) (fun h hn _ => by rw [hpm h hn]; rfl) (by simp) ?_
  rintro r H' ⟨d', hq, rfl⟩
  have hsame : ∀ h, DH k d' h ≠ none → h = 1000000 := fun h hn => by
    unfold DH Hp.upd at hn
    by_cases e : h = 1000000
    · exact e
    · rw [if_neg e] at hn; exact absurd rfl hn
  refine ⟨fun h h1 h2 => ?_, by simp, ?_⟩
  · rw [hsame h h1] at h2; exact absurd h2 (by unfold DH Hp.upd; simp)
  rw [hQ r hq, Fr.scrub_none, Hp.scrub_none]
  have e : Hp.over ((DH k d').scrub fun h => !liveB (DH k d') h) H (DH k d) = H.upd 1000000 (.cells 3 (dF k d')) := by
    unfold DH
    rw [Hp.scrub_upd, Blk.scrub_cells, scF_dF]
    funext h
    unfold Hp.over Hp.upd
    by_cases e : h = 1000000
    · simp only [if_pos e]
    · simp only [if_neg e]
      simp [Hp.scrub, Hp.emp]
  rw [e]; exact hK r d' hq
theorem end_postS {fn : Func} {t : Tmp} {a : AV} {H' : Hp} {post : AV → Hp → Prop} (hr : fn.results.toList = [.tmp t]) (s : Sub N A H [(t, a)] H') (hp : post a H') : endQ P N fn post .ret A H :=
  ⟨_, _, s, by rw [hr]; simp only [resVC, Fr.get, if_true]; exact hp⟩
/-- A call that makes dice. -/
theorem callRoll {f : FuncId} {args : List AV} {k : IntKind} {pn : Nat → Bool} {K : AV → Fr → Hp → Prop} (hac : AC P f args Hp.emp pn (postD k fun r => r = .ref 1000000 0)) (hpn : N.pn = fun _ => false) (hK : ∀ d, K (.ref 1000000 0) (A.scrub pM) ((H.scrub pM).upd 1000000 (.cells 3 (dF k d)))) : CallG P N f args A H K := by
  refine callHp hac hpn fun r H' hp => ?_
  obtain ⟨d, rfl, rfl⟩ := hp
  have hl : liveB (DH k d) 1000000 = true := rfl
  refine ⟨fun h hn => ?_, ?_, ?_, ?_⟩
  · unfold DH Hp.upd at hn
    by_cases e : h = 1000000
    · omega
    · rw [if_neg e] at hn; exact absurd rfl hn
  · simp [AV.scrub, hl]
  · unfold DH
    rw [Hp.scrub_upd, Blk.scrub_cells, scF_dF]
    rfl
  · have e : (DH k d).add (H.scrub pM) = (H.scrub pM).upd 1000000 (.cells 3 (dF k d)) := by
      unfold DH; rw [upd_add, emp_add]
    rw [e]; exact hK d
/-- The end of a function whose result lies in a cell; what it holds is frozen. -/
theorem end_postCF (D : Nat → Prop) {fn : Func} {t : Tmp} {ty : TypeId} {h n : Nat} {z : List Value} {f g : Nat → AV} {H' : Hp} {post : AV → Hp → Prop} (hr : fn.results.toList = [.cell t ty]) (hA : A.get t = some (.ref h 0)) (hty : tyOf P ty = some ⟨true, n, z⟩) (hH : H h = some (.cells n f)) (hg : ∀ i, i < n → Fits H D (f i) (g i))
    (hl : LeF D H' H) (hne : H' h = none) (hD : ¬ D h) (hp : post (.agg n g) H') : endQ P N fn post .ret A H := by
  refine ⟨[(t, .ref h 0)], H'.upd h (.cells n g), Sub.fits D (fun i c hc => ?_) (leF_upd hH ⟨rfl, hg⟩ hl hD), ?_⟩
  · simp only [Fr.get] at hc
    split at hc
    · rename_i e; subst e; cases hc; exact ⟨_, hA, .refl _⟩
    · cases hc
  rw [hr]
  simp only [resVC, Fr.get, if_true, withA_some, hty, ldVC, Hp.upd, Ob]
  refine ⟨by omega, H', fun x B hB => ?_, ?_⟩
  · unfold Hp.upd
    split
    · rename_i e; subst e; rw [hne] at hB; cases hB
    · exact hB
  · have : (fun j => g (0 + j)) = g := by funext j; rw [Nat.zero_add]
    rw [this]; exact hp
end
end Go.Av
end
/- Regions of open order with one call that writes blocks of its own: what comes behind it may come in any order. -/
section
namespace Go.Av
section
variable {P : Program} {N : Cx} {H : Hp}
theorem any_soundP (pre : Nat → Prop) {ops : Array Oper} {Q' : Exit → Act → World → Prop} {A0 : Fr} {rs : List AV} {w0 : World} {S : Rg} (hS : Good N w0 S) (hok : anyOk ops = true) (hN : ∀ (j t : Nat) (o : Oper), ops[j]? = some o → o.dst = some t → t < N.n)
    (hlen : rs.length = ops.toList.length)
    (hstep : ∀ j o, ¬ pre j → ops.toList[j]? = some o → ∃ Aj : Fr, (∀ t, Aj.get t = valL ops.toList rs A0.get j t) ∧ StepOK P N (ops.toList.map (·.dst)) o Aj H (rs.getD j .dead))
    (hQ : ∀ (A : Fr) (a : Act) (w : World) (L : Loc), Sim N.n w0 S w a.tmps L A H → a.defers = [] → (∀ t, A.get t = valL ops.toList rs A0.get ops.toList.length t) → Q' .normal a w) :
    ∀ (fuel : Nat) (listed : Array Bool) (s : List Nat) (a : Act) (w : World) (A : Fr) (L : Loc), listed.size = ops.size → (∀ k, pre k → listed.getD k false = true) → s.Nodup → (∀ k, k ∈ s ↔ listed.getD k false = true) → s.length + fuel = ops.size →
      (∀ (k : Nat) (o : Oper) (e : Edge), listed.getD k false = true → ops[k]? = some o → e ∈ o.after → Region.binds .any e = true → listed.getD e.on false = true) →
      Sim N.n w0 S w a.tmps L A H → a.defers = [] →
      (∀ (k t : Nat) (o : Oper), ops[k]? = some o → listed.getD k false = true → o.dst = some t → A.get t = some (rs.getD k .dead)) →
      (∀ t, (∀ (k : Nat) (o : Oper), ops[k]? = some o → listed.getD k false = true → o.dst ≠ some t) → A.get t = A0.get t) →
      wpAny P .any ops Q' fuel listed a w := by
  obtain ⟨hinj, hback, hdep⟩ := anyOk_ok hok
  have tl : ∀ j : Nat, ops.toList[j]? = ops[j]? := fun j => Array.getElem?_toList
  intro fuel
  induction fuel with
  | zero =>
    intro listed s a w A L hsz hpre hn hs hc hcl sim hd hl1 hl2
    have hlt : ∀ k ∈ s, k < ops.size := fun k hk => by
      have := (hs k).1 hk
      rcases Nat.lt_or_ge k listed.size with h | h
      · omega
      · simp [Array.getD, show ¬ k < listed.size by omega] at this
    have hall : ∀ k, k < ops.size → listed.getD k false = true := fun k hk => (hs k).1 ((Go.Plain.nodup_iff_all (by omega) hlt).1 hn k hk)
    refine ⟨?_, hQ A a w L sim hd fun t => ?_⟩
    · refine List.eq_nil_iff_forall_not_mem.2 fun j hj => ?_
      obtain ⟨h1, o, ho, _⟩ := mem_ready.1 hj
      have hj' : j < ops.size := (Array.getElem?_eq_some_iff.1 ho).1
      have := hall j hj'
      simp [Array.getD, hsz, hj'] at h1 this
      rw [h1] at this; cases this
    · by_cases hx : ∃ (k : Nat) (o : Oper), ops[k]? = some o ∧ o.dst = some t
      · obtain ⟨k, o, ho, hdt⟩ := hx
        have hk := (Array.getElem?_eq_some_iff.1 ho).1
        rw [hl1 k t o ho (hall k hk) hdt, valL_hit ops.toList rs _ _ t k o hlen (by simpa using hk) (by rw [tl]; exact ho) hdt fun k' o' ho' hd' => hinj k' k t o' o (by rw [← tl]; exact ho') ho hd' hdt]
      · have hm : ∀ (k : Nat) (o : Oper), ops[k]? = some o → o.dst ≠ some t := fun k (o : Oper) ho e => hx ⟨k, o, ho, e⟩
        rw [hl2 t fun k o ho _ => hm k o ho, valL_miss _ _ _ _ _ fun k o _ ho => hm k o (by rw [← tl]; exact ho)]
  | succ fuel ih =>
    intro listed s a w A L hsz hpre hn hs hc hcl sim hd hl1 hl2
    have ld : ∀ k, k < ops.size → (listed.getD k true = false ↔ ¬ listed.getD k false = true) := by
      intro k hk
      simp [Array.getD, hsz, hk]
    -- something is not listed, and the first such may come
    have hex : ∃ k, k < ops.size ∧ ¬ listed.getD k false = true := by
      refine Classical.byContradiction fun hno => ?_
      have : ∀ x ∈ List.range ops.size, x ∈ s := fun x hx => (hs x).2 (Classical.byContradiction fun h => hno ⟨x, by simpa using hx, h⟩)
      have := Go.Plain.nodup_le s (List.range ops.size) List.nodup_range this
      simp at this; omega
    have hready : Region.ready .any ops listed ≠ [] := by
      obtain ⟨k, hk⟩ := hex
      have : ∀ n k, k ≤ n → k < ops.size ∧ ¬ listed.getD k false = true → ∃ j, j ∈ Region.ready .any ops listed := by
        intro n
        induction n with
        | zero =>
          intro k hk ⟨h1, h2⟩
          refine ⟨k, mem_ready.2 ⟨(ld k h1).2 h2, ops[k], by simp [h1], fun e he hb => ?_⟩⟩
          have := hback k ops[k] e (by simp [h1]) he hb
          omega
        | succ n ihn =>
          intro k hk ⟨h1, h2⟩
          by_cases hx : ∃ e ∈ ops[k].after, Region.binds .any e = true ∧ ¬ listed.getD e.on false = true
          · obtain ⟨e, he, hb, hl⟩ := hx
            have := hback k ops[k] e (by simp [h1]) he hb
            exact ihn e.on (by omega) ⟨by omega, hl⟩
          · refine ⟨k, mem_ready.2 ⟨(ld k h1).2 h2, ops[k], by simp [h1], fun e he hb => ?_⟩⟩
            exact Classical.byContradiction fun h => hx ⟨e, he, hb, h⟩
      obtain ⟨j, hj⟩ := this k k (Nat.le_refl k) hk
      exact List.ne_nil_of_mem hj
    refine ⟨fun h => absurd h hready, fun i hi => ?_⟩
    obtain ⟨hun0, oi, hoi, hall⟩ := mem_ready.1 hi
    have hi' : i < ops.size := (Array.getElem?_eq_some_iff.1 hoi).1
    have hun := (ld i hi').1 hun0
    obtain ⟨Ai, hAi, hst⟩ := hstep i oi (fun hp => hun (hpre i hp)) (by rw [tl]; exact hoi)
    -- what it looks at stands in the frame as in the walk
    have look : ∀ t, t ∈ oi.looksAt ops → A.get t = Ai.get t := by
      intro t ht
      rw [hAi]
      by_cases hx : ∃ (k : Nat) (o : Oper), ops[k]? = some o ∧ o.dst = some t
      · obtain ⟨k, o, ho, hdt⟩ := hx
        have huniq : ∀ (k' : Nat) (o' : Oper), ops[k']? = some o' → o'.dst = some t → k' = k := fun k' o' ho' hd' => hinj k' k t o' o ho' ho hd' hdt
        have miss : ¬ listed.getD k false = true → i ≤ k → A.get t = valL ops.toList rs A0.get i t := by
          intro h1 h2
          rw [hl2 t fun k' o' ho' hl' e => h1 (huniq k' o' ho' e ▸ hl'), valL_miss _ _ _ _ _ fun k' o' hk' ho' e => by have := huniq k' o' (by rw [← tl]; exact ho') e; omega]
        by_cases hki : k = i
        · subst hki; exact miss hun (Nat.le_refl _)
        · rcases hdep k i t o oi hki ho hoi hdt ht with ⟨e, he, hb, rfl⟩ | ⟨e, he, hb, rfl⟩
          · have h1 := hall e he hb
            have h2 := hback i oi e hoi he hb
            rw [hl1 _ t o ho h1 hdt, valL_hit ops.toList rs _ i t e.on o hlen h2 (by rw [tl]; exact ho) hdt fun k' o' ho' hd' => huniq k' o' (by rw [← tl]; exact ho') hd']
          · have h2 := hback k o e ho he hb
            refine miss (fun h => ?_) (by omega)
            exact hun (hcl k o e h ho he hb)
      · have hm : ∀ (k : Nat) (o : Oper), ops[k]? = some o → o.dst ≠ some t := fun k (o : Oper) ho e => hx ⟨k, o, ho, e⟩
        rw [hl2 t fun k o ho _ => hm k o ho, valL_miss _ _ _ _ _ fun k o _ ho => hm k o (by rw [← tl]; exact ho)]
    have evs : ∀ x ∈ oi.op.operands, A.ev x = Ai.ev x := by
      intro x hx
      cases x with
      | tmp t => exact look t (List.mem_append_left _ (List.mem_filterMap.2 ⟨.tmp t, by simpa using hx, rfl⟩))
      | const v => rfl
      | global g => rfl
      | func f => rfl
    -- what comes behind it
    have next : ∀ (a' : Act) (w' : World) (L' : Loc), Sim N.n w0 S w' a'.tmps L' (putd oi.dst (rs.getD i .dead) A) H → a'.defers = [] → wpAny P .any ops Q' fuel (listed.setIfInBounds i true) a' w' := by
      intro a' w' L' sim' hd'
      have g1 : ∀ k, (listed.setIfInBounds i true).getD k false = true ↔ (k = i ∨ listed.getD k false = true) := by
        intro k
        by_cases hk : k = i
        · subst hk; simp [Array.getD, hsz, hi']
        · rw [getD_set_ne false (Ne.symm hk)]; simp [hk]
      refine ih (listed.setIfInBounds i true) (i :: s) a' w' (putd oi.dst (rs.getD i .dead) A) L' (by simp [hsz]) (fun k hp => (g1 k).2 (.inr (hpre k hp))) ?_ ?_ (by simp only [List.length_cons]; omega) ?_ sim' hd' ?_ ?_
      · exact List.nodup_cons.2 ⟨fun h => hun ((hs i).1 h), hn⟩
      · intro k; rw [g1, List.mem_cons, hs]
      · intro k o e hk ho he hb
        rw [g1] at hk ⊢
        rcases hk with rfl | hk
        · rw [hoi] at ho; simp only [Option.some.injEq] at ho; subst ho
          exact .inr (hall e he hb)
        · exact .inr (hcl k o e hk ho he hb)
      · intro k t o ho hk hdt
        rw [putd_get]
        rw [g1] at hk
        by_cases hki : k = i
        · subst hki
          rw [hoi] at ho; simp only [Option.some.injEq] at ho; subst ho
          rw [if_pos hdt]
        · rw [if_neg fun e => hki (hinj k i t o oi ho hoi hdt e)]
          exact hl1 k t o ho (hk.resolve_left hki) hdt
      · intro t ht
        rw [putd_get, if_neg (ht i oi hoi ((g1 i).2 (.inl rfl)))]
        exact hl2 t fun k o ho hk => ht k o ho ((g1 k).2 (.inr hk))
    have hNi := fun t h => hN i t oi hoi h
    unfold wpOp
    simp only [hoi]
    have run : OpOK P N oi Ai H (rs.getD i .dead) → oi.wp P a w (wpAny P .any ops Q' fuel (listed.setIfInBounds i true)) Q' := by
      intro hop
      refine hop A evs w0 S hS w a L sim _ Q' ?_
      rintro u r L' A' H' w' s' hr ⟨rfl, rfl, rfl⟩
      exact next _ _ L' (s'.putd hNi hr) (by rw [put_defers]; exact hd)
    unfold StepOK at hst
    split at hst
    · rename_i hg
      rw [if_pos (by simp [Region.wanted, hg])]
      exact .inl (run hst)
    · rename_i g want hg
      obtain ⟨t, h1, hst⟩ := hst
      have hj' : (ops[g]?).bind (·.dst) = some t := by
        simp only [List.getD_eq_getElem?_getD, List.getElem?_map, Array.getElem?_toList] at h1
        cases ho : ops[g]? with
        | none => simp [ho] at h1
        | some x => simpa [ho] using h1
      have hlook : t ∈ oi.looksAt ops := by simp [Oper.looksAt, hg, hj']
      have hgt : t < N.n := by
        cases ho : ops[g]? with
        | none => simp [ho] at hj'
        | some x => exact hN g t x ho (by simpa [ho] using hj')
      rcases hst with ⟨b, h2, h3, h4⟩ | ⟨⟨xs, h2⟩, h4⟩
      case inr =>
        have hget : A.get t = some (.v (.tuple xs)) := by rw [look t hlook]; exact h2
        have hy : yielded ops a.tmps g = none := by
          have e1 : a.tmps.getD t undef = .tuple xs := sim.slot t _ hget
          have hlt : t < a.tmps.size := by rw [sim.size]; exact hgt
          have e2 : a.tmps[t]? = some (.tuple xs) := by
            simp [Array.getD, hlt] at e1
            simp [hlt, e1]
          simp [yielded, hj', e2]
        rw [if_neg (by simp [Region.wanted, hg, hy])]
        exact next _ _ L (sim.putd hNi (r := rs.getD i .dead) (by rw [h4]; rfl)) (by rw [put_defers]; exact hd)
      have hget : A.get t = some (.v (.bool b)) := by rw [look t hlook]; exact h2
      have hy : yielded ops a.tmps g = some b := by
        have e1 : a.tmps.getD t undef = .bool b := sim.slot t _ hget
        have hlt : t < a.tmps.size := by rw [sim.size]; exact hgt
        have e2 : a.tmps[t]? = some (.bool b) := by
          simp [Array.getD, hlt] at e1
          simp [hlt, e1]
        simp [yielded, hj', e2]
      by_cases hbw : b = want
      · rw [if_pos (by simp [Region.wanted, hg, hy, hbw])]
        exact .inl (run (h3 hbw))
      · rw [if_neg (by simp [Region.wanted, hg, hy, hbw])]
        have := h4 (bool_other hbw)
        refine next _ _ L (sim.putd hNi (r := rs.getD i .dead) (by rw [this]; rfl)) (by rw [put_defers]; exact hd)


theorem valL_app : ∀ (l1 : List Oper) (r1 : List AV) (l2 : List Oper) (r2 : List AV) (g : Nat → Option AV) (j : Nat), r1.length = l1.length → valL (l1 ++ l2) (r1 ++ r2) g (l1.length + j) = valL l2 r2 (valL l1 r1 g l1.length) j
  | [], [], l2, r2, g, j, _ => by
    show valL l2 r2 g (0 + j) = valL l2 r2 g j
    rw [Nat.zero_add]
  | [], _ :: _, _, _, _, _, h => by simp at h
  | _ :: _, [], _, _, _, _, h => by simp at h
  | o :: l1, r :: r1, l2, r2, g, j, h => by
    rw [List.length_cons, show l1.length + 1 + j = (l1.length + j) + 1 by omega]
    simp only [List.cons_append, valL]
    exact valL_app l1 r1 l2 r2 _ j (by simpa using h)
theorem valL_pre : ∀ (l1 : List Oper) (r1 : List AV) (l2 : List Oper) (r2 : List AV) (g : Nat → Option AV) (j : Nat), r1.length = l1.length → j ≤ l1.length → valL (l1 ++ l2) (r1 ++ r2) g j = valL l1 r1 g j
  | [], [], l2, r2, g, j, _, h => by
    have : j = 0 := by simpa using h
    subst this
    cases l2 <;> cases r2 <;> rfl
  | [], _ :: _, _, _, _, _, h, _ => by simp at h
  | _ :: _, [], _, _, _, _, h, _ => by simp at h
  | o :: l1, r :: r1, l2, r2, g, 0, h, _ => rfl
  | o :: l1, r :: r1, l2, r2, g, j + 1, h, hj => by
    simp only [List.cons_append, valL]
    exact valL_pre l1 r1 l2 r2 _ j (by simpa using h) (by simpa using hj)
/-- Operation m is the call; the first nf may come on either side of it, the others ahead of it come before it, all others behind it. -/
def pivDok (ops : Array Oper) (nf m : Nat) : Bool :=
  anyOk ops && ops.toList.all (fun o => o.guard.isNone) && decide (nf ≤ m) && decide (m < ops.size) && (ops.toList.take nf).all (fun o => o.dst.isSome) &&
  (List.range m).all (fun g => decide (g < nf) || preB ops ops.size m g) &&
  (List.range ops.size).all fun j => decide (j ≤ m) || preB ops ops.size j m
theorem pivDok_ok {ops : Array Oper} {nf m : Nat} (h : pivDok ops nf m = true) : anyOk ops = true ∧ (∀ (k : Nat) (o : Oper), ops[k]? = some o → o.guard = none) ∧ nf ≤ m ∧ m < ops.size ∧
    (∀ (k : Nat) (o : Oper), k < nf → ops[k]? = some o → ∃ t, o.dst = some t) ∧ (∀ g, g < m → nf ≤ g → preB ops ops.size m g = true) ∧ (∀ j, j < ops.size → m < j → preB ops ops.size j m = true) := by
  simp only [pivDok, Bool.and_eq_true, decide_eq_true_eq, List.all_eq_true, List.mem_range, Bool.or_eq_true] at h
  obtain ⟨⟨⟨⟨⟨⟨h1, h2⟩, h3⟩, h4⟩, h7⟩, h5⟩, h6⟩ := h
  refine ⟨h1, fun k o ho => ?_, h3, h4, fun k o hk ho => ?_, fun g hg hn => ?_, fun j hj hm => ?_⟩
  · have := h2 o (by rw [Array.mem_toList_iff]; exact Array.mem_of_getElem? ho)
    simpa using this
  · have := h7 o (List.mem_of_getElem? (i := k) (by rw [List.getElem?_take, if_pos hk]; simpa using ho))
    exact Option.isSome_iff_exists.1 this
  · rcases h5 g hg with h | h
    · omega
    · exact h
  · rcases h6 j hj with h | h
    · omega
    · exact h
variable {Kd : AV → Hp → Prop}
theorem midD_sound {ops : Array Oper} {nf m : Nat} {Q' : Exit → Act → World → Prop} {QF : Fr → Hp → Prop} {A0 An : Fr} {rs : List AV} {om : Oper} {w0 : World} {S : Rg} (hS : Good N w0 S) (hok : pivDok ops nf m = true)
    (hN : ∀ (j t : Nat) (o : Oper), ops[j]? = some o → o.dst = some t → t < N.n) (hom : ops[m]? = some om)
    (hl1 : rs.length = m)
    (hstep : ∀ j o, j < m → ops[j]? = some o → ∃ Aj : Fr, (∀ t, Aj.get t = valL (ops.toList.take m) rs A0.get j t) ∧ OpOK P N o Aj H (rs.getD j .dead))
    (hAn : ∀ t, An.get t = valL (ops.toList.take m) rs A0.get m t)
    (hpiv : ∀ A : Fr, (∀ x ∈ om.op.operands, A.ev x = An.ev x) → OpV P N om A H fun r A' H' => A' = A ∧ Kd r H')
    (hph : ∀ r H', Kd r H' → ∃ rs3 : List AV, rs3.length = ops.toList.length ∧ (∀ k, k < m → rs3.getD k .dead = rs.getD k .dead) ∧ rs3.getD m .dead = r ∧
      (∀ j o, (j < nf ∨ m < j) → ops.toList[j]? = some o → ∃ Aj : Fr, (∀ t, Aj.get t = valL ops.toList rs3 A0.get j t) ∧ StepOK P N (ops.toList.map (·.dst)) o Aj H' (rs3.getD j .dead)) ∧
      ∃ Af : Fr, (∀ t, Af.get t = valL ops.toList rs3 A0.get ops.toList.length t) ∧ QF Af H')
    (hQ : ∀ (A : Fr) (H : Hp) (a : Act) (w : World) (L : Loc), Sim N.n w0 S w a.tmps L A H → a.defers = [] → QF A H → Q' .normal a w) :
    ∀ (fuel : Nat) (listed : Array Bool) (s : List Nat) (a : Act) (w : World) (A : Fr) (L : Loc), listed.size = ops.size → s.Nodup → (∀ k, k ∈ s ↔ listed.getD k false = true) → s.length + fuel = ops.size →
      (∀ (k : Nat) (o : Oper) (e : Edge), listed.getD k false = true → ops[k]? = some o → e ∈ o.after → Region.binds .any e = true → listed.getD e.on false = true) → a.defers = [] →
      Sim N.n w0 S w a.tmps L A H → (∀ k, listed.getD k false = true → k < m) →
      (∀ (k t : Nat) (o : Oper), ops[k]? = some o → listed.getD k false = true → o.dst = some t → A.get t = some (rs.getD k .dead)) →
      (∀ t, (∀ (k : Nat) (o : Oper), ops[k]? = some o → listed.getD k false = true → o.dst ≠ some t) → A.get t = A0.get t) →
      wpAny P .any ops Q' fuel listed a w := by
  obtain ⟨hany, hguard, hnf, hm, hds, hF, hL⟩ := pivDok_ok hok
  obtain ⟨hinj, hback, hdep⟩ := anyOk_ok hany
  have tl : ∀ j : Nat, ops.toList[j]? = ops[j]? := fun j => Array.getElem?_toList
  have tk : ∀ n j o, (ops.toList.take n)[j]? = some o → j < n ∧ ops[j]? = some o := fun n j o h => by
    rw [List.getElem?_take] at h
    split at h
    · rename_i hlt; exact ⟨hlt, by rw [← tl]; exact h⟩
    · cases h
  have tk' : ∀ n j o, j < n → ops[j]? = some o → (ops.toList.take n)[j]? = some o := fun n j o h ho => by
    rw [List.getElem?_take, if_pos h, tl]; exact ho
  have len1 : (ops.toList.take m).length = m := by simp; omega
  have hit1 : ∀ j k t o, k < j → j ≤ m → ops[k]? = some o → o.dst = some t → valL (ops.toList.take m) rs A0.get j t = some (rs.getD k .dead) := fun j k t o hk hj ho hd =>
    valL_hit _ rs _ j t k o (by rw [len1]; exact hl1) hk (tk' m k o (by omega) ho) hd fun k' o' ho' hd' => hinj k' k t o' o (tk m k' o' ho').2 ho hd' hd
  have miss1 : ∀ j t, (∀ k o, k < j → ops[k]? = some o → o.dst ≠ some t) → valL (ops.toList.take m) rs A0.get j t = A0.get t := fun j t h =>
    valL_miss _ rs _ j t fun k o hk ho => h k o hk (tk m k o ho).2
  intro fuel
  induction fuel with
  | zero =>
    intro listed s a w A L hsz hn hs hc hcl hd sim hlow hl1' hl2'
    have hlt : ∀ k ∈ s, k < ops.size := fun k hk => by have := hlow k ((hs k).1 hk); omega
    have hall : ∀ k, k < ops.size → listed.getD k false = true := fun k hk => (hs k).1 ((Go.Plain.nodup_iff_all (by omega) hlt).1 hn k hk)
    have := hlow m (hall m hm)
    omega
  | succ fuel ih =>
    intro listed s a w A L hsz hn hs hc hcl hd sim hlow hl1' hl2'
    have ld : ∀ k, k < ops.size → (listed.getD k true = false ↔ ¬ listed.getD k false = true) := by
      intro k hk
      simp [Array.getD, hsz, hk]
    have hex : ∃ k, k < ops.size ∧ ¬ listed.getD k false = true := ⟨m, hm, fun h => by have := hlow m h; omega⟩
    refine ⟨fun h => absurd h (ready_ne hsz hback hex), fun i hi => ?_⟩
    obtain ⟨hun0, oi, hoi, hall⟩ := mem_ready.1 hi
    have hi' : i < ops.size := (Array.getElem?_eq_some_iff.1 hoi).1
    have hun := (ld i hi').1 hun0
    have him : i ≤ m := by
      rcases Nat.lt_or_ge m i with h | h
      · have := hlow m (pre_ready hcl hoi hall (hL i hi' h)); omega
      · exact h
    have g1 : ∀ k, (listed.setIfInBounds i true).getD k false = true ↔ (k = i ∨ listed.getD k false = true) := by
      intro k
      by_cases hk : k = i
      · subst hk; simp [Array.getD, hsz, hi']
      · rw [getD_set_ne false (Ne.symm hk)]; simp [hk]
    have nd1 : (i :: s).Nodup := List.nodup_cons.2 ⟨fun h => hun ((hs i).1 h), hn⟩
    have hs1 : ∀ k, k ∈ i :: s ↔ (listed.setIfInBounds i true).getD k false = true := fun k => by rw [g1, List.mem_cons, hs]
    have hcl1 : ∀ (k : Nat) (o : Oper) (e : Edge), (listed.setIfInBounds i true).getD k false = true → ops[k]? = some o → e ∈ o.after → Region.binds .any e = true → (listed.setIfInBounds i true).getD e.on false = true := by
      intro k o e hk ho he hb
      rw [g1] at hk ⊢
      rcases hk with rfl | hk
      · rw [hoi] at ho; simp only [Option.some.injEq] at ho; subst ho
        exact .inr (hall e he hb)
      · exact .inr (hcl k o e hk ho he hb)
    have hNi := fun t h => hN i t oi hoi h
    unfold wpOp
    simp only [hoi]
    rw [if_pos (by simp [Region.wanted, hguard i oi hoi])]
    left
    have look : ∀ B : Fr, (∀ t, B.get t = valL (ops.toList.take m) rs A0.get i t) → ∀ x ∈ oi.op.operands, A.ev x = B.ev x := by
      intro B hB x hx
      cases x with
      | tmp t =>
        have ht : t ∈ oi.looksAt ops := List.mem_append_left _ (List.mem_filterMap.2 ⟨.tmp t, by simpa using hx, rfl⟩)
        show A.get t = B.get t
        rw [hB]
        by_cases hx : ∃ (k : Nat) (o : Oper), ops[k]? = some o ∧ o.dst = some t
        · obtain ⟨k, o, ho, hdt⟩ := hx
          have free : ¬ listed.getD k false = true → i ≤ k → A.get t = valL (ops.toList.take m) rs A0.get i t := fun h1 h2 => by
            rw [hl2' t fun k' o' ho' hl' e => h1 (hinj k' k t o' o ho' ho e hdt ▸ hl'), miss1 i t fun k' o' hk' ho' e => by have := hinj k' k t o' o ho' ho e hdt; omega]
          by_cases hki : k = i
          · subst hki; exact free hun (Nat.le_refl _)
          · rcases hdep k i t o oi hki ho hoi hdt ht with ⟨e, he, hb, rfl⟩ | ⟨e, he, hb, rfl⟩
            · have hk := hback i oi e hoi he hb
              rw [hl1' e.on t o ho (hall e he hb) hdt, hit1 i e.on t o hk him ho hdt]
            · have h2 := hback k o e ho he hb
              exact free (fun h => hun (hcl k o e h ho he hb)) (by omega)
        · rw [hl2' t fun k o ho _ e => hx ⟨k, o, ho, e⟩, miss1 i t fun k o _ ho e => hx ⟨k, o, ho, e⟩]
      | const v => rfl
      | global g => rfl
      | func f => rfl
    rcases Nat.lt_or_ge i m with hlt | hge
    · obtain ⟨Ai, hAi, hop⟩ := hstep i oi hlt hoi
      refine hop A (look Ai hAi) w0 S hS w a L sim _ Q' ?_
      rintro u rr L' A' H4 w' s' hr ⟨rfl, rfl, rfl⟩
      refine ih (listed.setIfInBounds i true) (i :: s) _ w' (putd oi.dst (rs.getD i .dead) A') L' (by simp [hsz]) nd1 hs1 (by simp only [List.length_cons]; omega) hcl1 (by rw [put_defers]; exact hd) (s'.putd hNi hr) ?_ ?_ ?_
      · intro k hk
        rcases (g1 k).1 hk with rfl | h
        · exact hlt
        · exact hlow k h
      · intro k t o ho hk hdt
        rw [putd_get]
        by_cases hki : k = i
        · subst hki
          rw [hoi] at ho; simp only [Option.some.injEq] at ho; subst ho
          rw [if_pos hdt]
        · rw [if_neg fun e => hki (hinj k i t o oi ho hoi hdt e)]
          exact hl1' k t o ho (((g1 k).1 hk).resolve_left hki) hdt
      · intro t ht
        rw [putd_get, if_neg (ht i oi hoi ((g1 i).2 (.inl rfl)))]
        exact hl2' t fun k o ho hk => ht k o ho ((g1 k).2 (.inr hk))
    · have e : i = m := by omega
      subst e
      rw [hom] at hoi; simp only [Option.some.injEq] at hoi; subst hoi
      refine hpiv A (look An hAn) w0 S hS w a L sim _ Q' ?_
      rintro u rr L' A' H4 w' s' hr ⟨rfl, hK⟩
      obtain ⟨rs3, k1, k2, k3, k4, Af, k5, k6⟩ := hph rr H4 hK
      refine any_soundP (fun k => nf ≤ k ∧ k ≤ i) (H := H4) (A0 := A0) (rs := rs3) hS hany hN k1 (fun j o hp ho => k4 j o (by omega) ho) ?_ fuel (listed.setIfInBounds i true) (i :: s) _ w' (putd om.dst rr A') L' (by simp [hsz]) ?_ nd1 hs1 (by simp only [List.length_cons]; omega) hcl1 (s'.putd hNi hr) (by rw [put_defers]; exact hd) ?_ ?_
      · intro B a2 w2 L2 sim2 hd2 hB
        exact hQ Af H4 a2 w2 L2 (sim2.sub fun t b hb => by rw [hB t]; rw [k5 t] at hb; exact hb) hd2 k6
      · rintro k ⟨h1, h2⟩
        rw [g1]
        by_cases hki : k = i
        · exact .inl hki
        · exact .inr (pre_ready hcl hom hall (hF k (by omega) h1))
      · intro k t o ho hk hdt
        rw [putd_get]
        by_cases hki : k = i
        · subst hki
          rw [hom] at ho; simp only [Option.some.injEq] at ho; subst ho
          rw [if_pos hdt, k3]
        · have hk2 := ((g1 k).1 hk).resolve_left hki
          rw [if_neg fun e => hki (hinj k i t o om ho hom hdt e), k2 k (hlow k hk2)]
          exact hl1' k t o ho hk2 hdt
      · intro t ht
        rw [putd_get, if_neg (ht i om hom ((g1 i).2 (.inl rfl)))]
        exact hl2' t fun k o ho hk => ht k o ho ((g1 k).2 (.inr hk))
variable (P N) in
/-- A call that leaves the frame as it is, whatever that is. -/
def CallDP (f : FuncId) (args : List AV) (H : Hp) (K : AV → Hp → Prop) : Prop := ∀ B : Fr, CallG P N f args B H fun r A' H' => A' = B ∧ K r H'
theorem CallDP_congr (f : FuncId) (args args' : List AV) (H H' : Hp) (K : AV → Hp → Prop) (h1 : args = args') (h2 : H = H') : CallDP P N f args H K = CallDP P N f args' H' K := by subst h1 h2; rfl
variable (P N) in
def pivD (op : Op) (A : Fr) (H : Hp) (K : AV → Hp → Prop) : Prop :=
  match op with
  | .call { callee := .value f, args, argTypes := _ } => (match calleeOf (A.ev f) with
    | some (g, caps) => withArgs (evArgs A args.toList) fun l => CallDP P N g (l ++ caps) H K
    | none => False)
  | _ => False
theorem pivD_ok {o : Oper} {A : Fr} {K : AV → Hp → Prop} (h : pivD P N o.op A H K) : ∀ B : Fr, (∀ x ∈ o.op.operands, B.ev x = A.ev x) → OpV P N o B H fun r A' H' => A' = B ∧ K r H' := by
  intro B hB
  unfold pivD at h
  split at h
  · rename_i f args tys ho
    refine opVC_sound ?_
    rw [ho]
    have hf : B.ev f = A.ev f := hB f (by rw [ho]; simp [Op.operands, Call.operands])
    have ha : evArgs B args.toList = evArgs A args.toList := evArgs_congr fun x hx => hB x (by rw [ho]; simp [Op.operands, Call.operands]; first | exact .inr (by simpa using hx) | (right; simpa using hx))
    simp only [opVC, hf, ha]
    split at h
    · rename_i g caps hc
      obtain ⟨l, hl, h⟩ := withArgs_ok h
      rw [hc, hl]
      exact h B
    · exact h.elim
  · exact h.elim
variable (P N) in
def opsD (nf m : Nat) (Q : Fr → Hp → Prop) (l : List Oper) (A : Fr) (H : Hp) : Prop :=
  match l.drop m with
  | o :: lr => opsQ P N (l.map (·.dst)) (fun A1 => pivD P N o.op A1 H fun r H' =>
      opsQ P N (l.map (·.dst)) (fun A2 => Ob (sameG A2 A1 ((l.take nf).map (·.dst))) (opsQ P N (l.map (·.dst)) (fun A3 => Q A3 H') lr (putd o.dst r A1) H')) (l.take nf) A H') (l.take m) A H
  | [] => False
theorem getD_left {xs ys : List AV} {k : Nat} (h : k < xs.length) : (xs ++ ys).getD k .dead = xs.getD k .dead := by
  simp [List.getD_eq_getElem?_getD, List.getElem?_append, h]
theorem getD_right {xs ys : List AV} {k : Nat} : (xs ++ ys).getD (xs.length + k) .dead = ys.getD k .dead := by
  rw [List.getD_eq_getElem?_getD, List.getD_eq_getElem?_getD, List.getElem?_append_right (by omega), Nat.add_sub_cancel_left]
theorem awp_regionD {A : Fr} (nf m : Nat) {id : Nat} {l : List Oper} {Q : Exit → Fr → Hp → Prop} (hm : P.follows .mixedOrders = true) (hB : pivDok l.toArray nf m = true) (hN : dstsOk N l = true)
    (h : opsD P N nf m (Q .normal) l A H) : AWP P N (.region id l.toArray true) Q A H := by
  have hmem := dstsOk_mem hN
  obtain ⟨hany, hguard, hnf, hmm, hds, hF, hL⟩ := pivDok_ok hB
  obtain ⟨hinj, _, _⟩ := anyOk_ok hany
  have hml : m < l.length := by simpa using hmm
  unfold opsD at h
  split at h
  · rename_i o lr hdrop
    have hom : l[m]? = some o := by
      have := congrArg (fun x : List Oper => x[0]?) hdrop
      simpa using this
    have hl : l = l.take m ++ o :: lr := by rw [← hdrop, List.take_append_drop]
    have hlr : ∀ i : Nat, lr[i]? = l[m + 1 + i]? := fun i => by
      have e : l.drop (m + 1) = lr := by
        have := congrArg List.tail hdrop
        simpa using this
      rw [← e, List.getElem?_drop]
    obtain ⟨rs, hlex⟩ := lex_of_opsQ _ A h
    obtain ⟨k1, k2, An, k3, k4⟩ := LexL_get (l.take m) A rs A.get (fun _ => rfl) hlex
    have lm : (l.take m).length = m := by simp; omega
    have ln : (l.take nf).length = nf := by simp; omega
    rw [lm] at k3 k1
    have gno : ∀ (k : Nat) (o : Oper), l[k]? = some o → o.guard = none := fun k o ho => hguard k o (by simpa using ho)
    intro w0 S hS w a L s hd
    have s1 : Sim N.n w0 S w.drew a.tmps L A H := s.drew
    refine wp_region_any hm ?_
    refine midD_sound (ops := l.toArray) (A0 := A) (An := An) (rs := rs) (om := o) (nf := nf) (m := m) (QF := Q .normal) (Kd := fun r H' => opsQ P N (l.map (·.dst)) (fun A2 => Ob (sameG A2 An ((l.take nf).map (·.dst))) (opsQ P N (l.map (·.dst)) (fun A3 => Q .normal A3 H') lr (putd o.dst r An) H')) (l.take nf) A H') hS hB (fun j t o ho hdt => hmem o (List.mem_of_getElem? (by simpa using ho)) t hdt) (by simpa using hom) k1 ?_ k3 (pivD_ok k4) ?_ ?_ _ _ [] a _ A L (by simp) List.nodup_nil ?_ (by simp) ?_ hd s1 ?_ ?_ ?_
    · intro j o' hj ho'
      obtain ⟨Aj, h1, h2⟩ := k2 j o' (by rw [List.getElem?_take, if_pos hj]; simpa using ho')
      unfold StepOK at h2
      rw [gno j o' (by simpa using ho')] at h2
      exact ⟨Aj, h1, h2⟩
    · intro r H' hK
      obtain ⟨rs2, hlex2⟩ := lex_of_opsQ (H := H') _ A hK
      obtain ⟨j1, j2, A2, j3, j4, j5⟩ := LexL_get (l.take nf) A rs2 A.get (fun _ => rfl) hlex2
      rw [ln] at j3 j1
      have e2 : ∀ k, k < nf → rs2.getD k .dead = rs.getD k .dead := fun k hk => by
        have hkl : k < l.length := by omega
        obtain ⟨t, hdt⟩ := hds k l[k] hk (by simp)
        have e := sameG_ok _ j4 t (List.mem_map.2 ⟨l[k], List.mem_of_getElem? (i := k) (by rw [List.getElem?_take, if_pos hk]; simp), hdt⟩)
        have un : ∀ n k' o'', (l.take n)[k']? = some o'' → o''.dst = some t → k' = k := fun n k' o'' hk' hd' => by
          rw [List.getElem?_take] at hk'
          split at hk'
          · exact hinj k' k t o'' l[k] (by simpa using hk') (by simp) hd' hdt
          · cases hk'
        rw [j3, valL_hit _ rs2 _ nf t k l[k] (by rw [ln]; exact j1) hk (by rw [List.getElem?_take, if_pos hk]; simp) hdt (un nf), k3, valL_hit _ rs _ m t k l[k] (by rw [lm]; exact k1) (by omega) (by rw [List.getElem?_take, if_pos (by omega)]; simp) hdt (un m)] at e
        simpa using e
      have er : rs2 = rs.take nf := by
        refine List.ext_getElem (by rw [List.length_take]; omega) fun k h1 h2 => ?_
        have := e2 k (by omega)
        rw [List.getD_eq_getElem?_getD, List.getD_eq_getElem?_getD, List.getElem?_eq_getElem h1, List.getElem?_eq_getElem (show k < rs.length by omega)] at this
        rw [List.getElem_take]
        exact this
      obtain ⟨rs', hlex3⟩ := lex_of_opsQ (H := H') _ _ j5
      obtain ⟨l1, l2, Af, l3, l4⟩ := LexL_get lr (putd o.dst r An) rs' (putd o.dst r An).get (fun _ => rfl) hlex3
      have hgo : (fun t => (putd o.dst r An).get t) = valL (l.take m ++ [o]) (rs ++ [r]) A.get (m + 1) := by
        have e := valL_app (l.take m) rs [o] [r] A.get 1 (by rw [lm]; exact k1)
        rw [lm] at e
        rw [e]
        funext t
        rw [putd_get, k3]; rfl
      have hl2 : l = (l.take m ++ [o]) ++ lr := by rw [List.append_assoc]; exact hl
      have len2 : (l.take m ++ [o]).length = m + 1 := by rw [List.length_append, lm]; rfl
      have hback : ∀ i t, valL l (rs ++ r :: rs') A.get (m + 1 + i) t = valL lr rs' (putd o.dst r An).get i t := fun i t => by
        have e := valL_app (l.take m ++ [o]) (rs ++ [r]) lr rs' A.get i (by rw [len2, List.length_append, k1]; rfl)
        rw [len2, ← hl2, List.append_assoc] at e
        rw [show rs ++ r :: rs' = rs ++ ([r] ++ rs') from rfl, e, ← hgo]
      have hllen : l.length = m + 1 + lr.length := by
        have := congrArg List.length hl2
        rw [List.length_append, len2] at this
        exact this
      refine ⟨rs ++ r :: rs', by simp only [List.length_append, List.length_cons]; omega, fun k hk => getD_left (by omega), by have := getD_right (xs := rs) (ys := r :: rs') (k := 0); rw [k1] at this; simpa using this, ?_, Af, ?_, l4⟩
      · intro j o' hj ho'
        rw [List.toList_toArray] at ho'
        rcases hj with hj | hj
        · obtain ⟨Aj, h1, h2⟩ := j2 j o' (by rw [List.getElem?_take, if_pos hj]; exact ho')
          refine ⟨Aj, fun t => ?_, ?_⟩
          · rw [h1, List.toList_toArray]
            have e := valL_pre (l.take nf) rs2 (l.drop nf) (rs.drop nf ++ r :: rs') A.get j (by rw [ln]; exact j1) (by omega)
            rw [List.take_append_drop, er, ← List.append_assoc, List.take_append_drop] at e
            rw [e, er]
          · rw [List.toList_toArray, getD_left (by omega), ← e2 j hj]; exact h2
        · obtain ⟨i, rfl⟩ : ∃ i, j = m + 1 + i := ⟨j - (m + 1), by omega⟩
          obtain ⟨Aj, h1, h2⟩ := l2 i o' (by rw [hlr]; exact ho')
          refine ⟨Aj, fun t => by rw [h1, List.toList_toArray, hback], ?_⟩
          have e := getD_right (xs := rs) (ys := r :: rs') (k := 1 + i)
          rw [k1, ← Nat.add_assoc, show (r :: rs').getD (1 + i) .dead = rs'.getD i .dead by rw [Nat.add_comm]; simp [List.getD_eq_getElem?_getD]] at e
          rw [List.toList_toArray, e]; exact h2
      · intro t
        rw [l3, List.toList_toArray, hllen, hback]
    · intro A' H3 a' w' L' s' hd' hq
      exact ⟨L', A', H3, s', hd', hq⟩
    · intro k; simp [Array.getD]
    · intro k o e hk; simp [Array.getD] at hk
    · intro k hk; simp [Array.getD] at hk
    · intro k t o _ hk; simp [Array.getD] at hk
    · intro t _; rfl
  · exact h.elim
theorem awp_regionDK {A : Fr} (ks nf m : Nat) {id : Nat} {l : List Oper} {Q : Exit → Fr → Hp → Prop} (hm : P.follows .mixedOrders = true) (hB : pivDok l.toArray nf m = true) (hN : dstsOk N l = true)
    (h : opsD P N nf m (keepQ ks Q .normal) l A H) : AWP P N (.region id l.toArray true) Q A H :=
  awp_weak (awp_regionD nf m hm hB hN h) keepQ_weak
/-- A call that throws dice, there. -/
theorem callDD {f : FuncId} {args : List AV} {k : IntKind} {d : Dc} {Q : AV → Prop} {K : AV → Hp → Prop} (hH : H 1000000 = some (.cells 3 (dF k d))) (hac : AC P f args (DH k d) pM (postD k Q)) (hQ : ∀ r, Q r → ∀ p, r.scrub p = r)
    (hK : ∀ r d', Q r → K r (H.upd 1000000 (.cells 3 (dF k d')))) : CallDP P N f args H K := fun _ => callD hH hac hQ fun r d' hq => ⟨rfl, hK r d' hq⟩
end
attribute [congr] CallDP_congr
attribute [go_sem] opsD pivD
end Go.Av
end
/- From a law's contract over abstract values to its row: how Go's data read. -/
section
namespace Go.Av
open Go.ChangeShapes Go.WideShapes Go.ChangeAt Go.RowKit

section
variable {P : Program} {H : Type} {enc : TypeId × Value → H} {w : World} {base : Nat} {spare : Nat → Bool} {held : Bool} {L : Loc}

/-- Every block may be read. -/
abbrev All : Nat → Prop := fun _ => True

theorem law_calls {f : FuncId} {args : List AV} {vs : Array Value} (hac : AC P f args Hp.emp (fun _ => false) (retV (.v (.bool true)))) (hr : RdArgs w All (fun _ => none) args vs) :
    Calls P f vs w fun e w' => e = .returned (.bool true) ∧ Below w.heap.size w w' := by
  let S : Rg := ⟨fun b => w.heap.size ≤ b, fun _ => True, fun _ _ => trivial, fun _ => none⟩
  have s0 : Sim 0 w S w #[] (fun _ => none) [] Hp.emp := ⟨Keep.refl w _, rfl, fun i a h => by simp [Fr.get] at h, fun h B hB => by simp [Hp.emp] at hB, fun h q hn => by simp [Hp.emp] at hn, fun h g q r hn => by simp [Hp.emp] at hn, fun h l hl => by simp [S] at hl⟩
  refine (hac.2 S w (fun _ => none) vs (fun b h => h) (fun h _ => rfl) s0 ⟨hr.1, fun i a hi => ?_⟩).mono ?_
  · obtain ⟨u, k1, k2⟩ := hr.2 i a hi
    exact ⟨u, k1, Rd.mono (fun b _ _ => ⟨trivial, fun h q hn => by simp [Hp.emp] at hn⟩) k2⟩
  · rintro e w' ⟨u, L', r, H', rfl, s2, hr, rfl, rfl⟩
    have hu : u = .bool true := hr
    subst hu
    exact ⟨rfl, ⟨s2.keep.os, s2.keep.tape, s2.keep.output, s2.keep.size, fun k hk => s2.keep.blk k hk (by show ¬ w.heap.size ≤ k; omega)⟩⟩

theorem cells_spot {a : Addr} {n : Nat} {V : Nat → Value} (h : ∀ i, i < n → w.cell? (a.add i) = some (V i)) : ∀ i, i < n → a.spot = none ∧ w.cell? ⟨a.block, a.off + i, none⟩ = some (V i) := by
  intro i hi
  have h0 := h 0 (by omega)
  have hs : a.spot = none := by
    have e : a.add 0 = a := by simp [Addr.add]
    rw [e] at h0
    unfold World.cell? at h0
    cases hsp : a.spot with
    | none => rfl
    | some k =>
      simp only [hsp] at h0
      split at h0 <;> simp at h0
  refine ⟨hs, ?_⟩
  have := h i hi
  rwa [Addr_eq hs, Addr_add] at this

theorem rd_list {α : Type} (g : α → AV) (d : α) {xs : List α} {a : Addr} {len cap : Nat} {V : Nat → Value} (hl : xs.length = len) (hc : len ≤ cap) (h : ∀ i, i < len → w.cell? (a.add i) = some (V i)) (hr : ∀ i, i < len → ∀ L', Rd w All L' (g (xs.getD i d)) (V i)) :
    Rd w All L (.list false 1 xs.length (cM g d xs)) (.slice (some a) len cap) := by
  subst hl
  refine ⟨some a, cap, rfl, hc, by simp, by simp, fun p hp i hi => ?_⟩
  simp only [Option.some.injEq] at hp
  subst hp
  rw [Nat.mul_one] at hi
  obtain ⟨k1, k2⟩ := cells_spot h i hi
  exact ⟨k1, trivial, V i, k2, hr i hi⟩

theorem trod_cs {t : TypeId} {v : Value} {d : DataW H} {p : List MemPlace} (h : DataW.Trod enc P w base spare held t v d p) (hv : v.cells = #[v]) : ∃ fuel, DataW.trod enc P w base spare held fuel t [v] = some (d, p) := by
  obtain ⟨fuel, hf⟩ := h
  exact ⟨fuel, by rw [hv] at hf; exact hf⟩

theorem rdArgs_list {ok : Nat → Prop} : ∀ (as : List AV) (vs : List Value), as.length = vs.length → (∀ (i : Nat) (a : AV) (v : Value), as[i]? = some a → vs[i]? = some v → Rd w ok L a v) → RdArgs w ok L as vs.toArray := by
  intro as vs hl h
  refine ⟨by simp [hl], fun i a hi => ?_⟩
  have hlt := (List.getElem?_eq_some_iff.1 hi).1
  exact ⟨vs[i]'(by omega), by simp, h i a _ hi (by simp)⟩
theorem rdArgs1 {ok : Nat → Prop} {a : AV} {v : Value} (h : Rd w ok L a v) : RdArgs w ok L [a] #[v] := rdArgs_list [a] [v] rfl fun i a' v' h1 h2 => by
  match i with
  | 0 => simp at h1 h2; subst h1 h2; exact h
  | i + 1 => simp at h1
end
end Go.Av
end
/- How bytes read. -/
section
namespace Go.Av
open Go.ChangeShapes Go.WideShapes Go.ChangeAt Go.RowKit
section
variable {P : Program} {H : Type} {enc : TypeId × Value → H} {w : World} {base : Nat} {spare : Nat → Bool} {held : Bool} {L : Loc}
theorem in8_wf {n : Int} (h : (Lit.int .u8 n).wf = true) : 0 ≤ n ∧ n ≤ 255 := by
  simp [Lit.wf, IntKind.min, IntKind.max] at h
  revert h
  simp only [show IntKind.u8.signed = false from rfl, show IntKind.u8.bits = 8 from rfl]
  intro h
  simp at h
  omega
theorem rd_bytes {t e : TypeId} {fuel : Nat} {cs : List Value} {x : DataW H × List MemPlace} (ht : P.underlying t = some (.slice e)) (he : P.underlying e = some (.int .u8)) (hc : P.cellsOf e = 1) (h : DataW.trod enc P w base spare held fuel t cs = some x) :
    ∃ (v : Value) (xs : List Int), cs = [v] ∧ (∀ L, Rd w All L (bts xs) v) ∧ xs.length ≤ 9223372036854775807 ∧ ∀ j, 0 ≤ xs.getD j 0 ∧ xs.getD j 0 ≤ 255 := by
  have hm : maxLen = 9223372036854775807 := by decide
  rcases open_ints ht he hc h with ⟨rfl, _⟩ | ⟨a, len, cap, zs, rfl, _, hl, hmx, hz, _, hcell, hwf⟩
  · exact ⟨_, [], rfl, fun L => ⟨none, 0, rfl, Nat.le_refl _, by simp, fun _ => ⟨rfl, rfl⟩, by simp⟩, by simp, by simp⟩
  · have hlen : len ≤ zs.length := by rw [hz]; split <;> omega
    refine ⟨_, zs.take len, rfl, fun L => rd_list u8v 0 (V := fun i => .int .u8 (zs.getD i 0)) (by simp; omega) hl (fun i hi => hcell i (by omega)) (fun i hi L' => ?_), by simp; omega, fun j => ?_⟩
    · have e : (zs.take len).getD i 0 = zs.getD i 0 := by simp [hi]
      rw [e]; rfl
    · by_cases hj : j < (zs.take len).length
      · rw [List.getD_eq_getElem?_getD, List.getElem?_eq_getElem hj, Option.getD_some]
        exact in8_wf (hwf _ (List.mem_of_mem_take (List.getElem_mem hj)))
      · rw [List.getD_eq_getElem?_getD, List.getElem?_eq_none (by omega), Option.getD_none]; omega
end
end Go.Av
end
/- Permutations as rows of numbers: composition, inverse, what generators generate. -/
section
namespace Go.Pm

/-- p is a permutation of n points. -/
def Pm (n : Nat) (p : List Int) : Prop := p.length = n ∧ (∀ j, j < n → 0 ≤ p.getD j 0 ∧ p.getD j 0 < n) ∧ ∀ i j, i < n → j < n → p.getD i 0 = p.getD j 0 → i = j

def img (p : List Int) (i : Nat) : Nat := (p.getD i 0).toNat
def comp (p q : List Int) : List Int := p.map fun x => q.getD x.toNat 0
def idn (n : Nat) : List Int := (List.range n).map fun i : Nat => (i : Int)
def invp (p : List Int) : List Int := (List.range p.length).map fun i : Nat => ((p.findIdx fun x => decide (x = (i : Int)) : Nat) : Int)

theorem ext {p q : List Int} (hl : p.length = q.length) (h : ∀ j, j < p.length → p.getD j 0 = q.getD j 0) : p = q := by
  refine List.ext_getElem hl fun i h1 h2 => ?_
  have := h i h1
  simpa [List.getD_eq_getElem?_getD, h1, h2] using this

theorem comp_length (p q : List Int) : (comp p q).length = p.length := by simp [comp]
theorem comp_get (p q : List Int) {i : Nat} (h : i < p.length) : (comp p q).getD i 0 = q.getD (img p i) 0 := by
  simp [comp, img, List.getD_eq_getElem?_getD, h]
theorem idn_length (n : Nat) : (idn n).length = n := by simp [idn]
theorem idn_get {n i : Nat} (h : i < n) : (idn n).getD i 0 = i := by simp [idn, List.getD_eq_getElem?_getD, h]
theorem img_idn {n i : Nat} (h : i < n) : img (idn n) i = i := by unfold img; rw [idn_get h]; rfl
theorem img_comp (p q : List Int) {i : Nat} (h : i < p.length) : img (comp p q) i = img q (img p i) := by
  unfold img; rw [comp_get p q h]; rfl

namespace Pm
variable {n : Nat} {p q r : List Int}
theorem img_lt (h : Pm n p) {i : Nat} (hi : i < n) : img p i < n := by
  have := h.2.1 i hi
  unfold Pm.img; omega
theorem get_eq (h : Pm n p) {i : Nat} (hi : i < n) : p.getD i 0 = (img p i : Int) := by
  have := h.2.1 i hi
  unfold Pm.img; omega
theorem inj (h : Pm n p) {i j : Nat} (hi : i < n) (hj : j < n) (e : img p i = img p j) : i = j :=
  h.2.2 i j hi hj (by rw [h.get_eq hi, h.get_eq hj, e])
theorem ext_img (h : Pm n p) (k : Pm n q) (e : ∀ i, i < n → img p i = img q i) : p = q :=
  Go.Pm.ext (h.1.trans k.1.symm) fun j hj => by
    rw [h.1] at hj
    rw [h.get_eq hj, k.get_eq hj, e j hj]
theorem idn (n : Nat) : Pm n (idn n) :=
  ⟨idn_length n, fun j hj => by rw [idn_get hj]; omega, fun i j hi hj e => by rw [idn_get hi, idn_get hj] at e; omega⟩
theorem mk' (hl : p.length = n) (h1 : ∀ j, j < n → ∃ k, k < n ∧ p.getD j 0 = (k : Int)) (h2 : ∀ i j, i < n → j < n → img p i = img p j → i = j) : Pm n p :=
  ⟨hl, fun j hj => by obtain ⟨k, h3, h4⟩ := h1 j hj; omega, fun i j hi hj e => h2 i j hi hj (by unfold Pm.img; rw [e])⟩
theorem comp (h : Pm n p) (k : Pm n q) : Pm n (comp p q) := by
  refine mk' (by rw [comp_length]; exact h.1) (fun j hj => ⟨img q (img p j), k.img_lt (h.img_lt hj), ?_⟩) fun i j hi hj e => ?_
  · rw [comp_get _ _ (by rw [h.1]; exact hj), k.get_eq (h.img_lt hj)]
  · rw [img_comp _ _ (by rw [h.1]; exact hi), img_comp _ _ (by rw [h.1]; exact hj)] at e
    exact h.inj hi hj (k.inj (h.img_lt hi) (h.img_lt hj) e)
theorem cimg (h : Pm n p) {i : Nat} (hi : i < n) : img (Go.Pm.comp p q) i = img q (img p i) := img_comp _ _ (by rw [h.1]; exact hi)

/-- Every point is met. -/
theorem surj (h : Pm n p) {i : Nat} (hi : i < n) : ∃ j, j < n ∧ img p j = i := by
  have hn : ((List.range n).map (img p)).Nodup := by
    rw [List.nodup_iff_pairwise_ne, List.pairwise_map]
    refine List.Pairwise.imp_of_mem (R := fun a b => a ≠ b) ?_ (List.nodup_iff_pairwise_ne.1 List.nodup_range)
    intro a b ha hb hne e
    exact hne (h.inj (by simpa using ha) (by simpa using hb) e)
  have := (Go.Plain.nodup_iff_all (l := (List.range n).map (img p)) (n := n) (by simp) (fun x hx => by
    obtain ⟨j, hj, rfl⟩ := List.mem_map.1 hx
    exact h.img_lt (by simpa using hj))).1 hn i hi
  obtain ⟨j, hj, e⟩ := List.mem_map.1 this
  exact ⟨j, by simpa using hj, e⟩

theorem find (h : Pm n p) {i : Nat} (hi : i < n) : p.findIdx (fun x => decide (x = (i : Int))) < n ∧ img p (p.findIdx fun x => decide (x = (i : Int))) = i := by
  obtain ⟨j, hj, e⟩ := h.surj hi
  have hlt : p.findIdx (fun x => decide (x = (i : Int))) < p.length := by
    rw [List.findIdx_lt_length]
    refine ⟨p.getD j 0, ?_, ?_⟩
    · have hj' : j < p.length := by rw [h.1]; exact hj
      rw [List.getD_eq_getElem?_getD, List.getElem?_eq_getElem hj']
      exact List.getElem_mem hj'
    · rw [h.get_eq hj, e]; simp
  have := List.findIdx_getElem (w := hlt)
  refine ⟨by rw [← h.1]; exact hlt, ?_⟩
  simp only [decide_eq_true_eq] at this
  unfold Pm.img
  rw [List.getD_eq_getElem?_getD, List.getElem?_eq_getElem hlt, Option.getD_some, this]
  simp
theorem inv_get (h : Pm n p) {i : Nat} (hi : i < n) : (invp p).getD i 0 = ((p.findIdx fun x => decide (x = (i : Int)) : Nat) : Int) := by
  have : i < p.length := by rw [h.1]; exact hi
  simp [invp, List.getD_eq_getElem?_getD, this]
theorem inv_img (h : Pm n p) {i : Nat} (hi : i < n) : img p (img (invp p) i) = i := by
  have : img (invp p) i = p.findIdx fun x => decide (x = (i : Int)) := by unfold Pm.img; rw [h.inv_get hi]; rfl
  rw [this]; exact (h.find hi).2
theorem inv (h : Pm n p) : Pm n (invp p) := by
  refine mk' (by simp [invp, h.1]) (fun j hj => ⟨_, (h.find hj).1, h.inv_get hj⟩) fun i j hi hj e => ?_
  rw [← h.inv_img hi, ← h.inv_img hj, e]
theorem img_inv (h : Pm n p) {i : Nat} (hi : i < n) : img (invp p) (img p i) = i :=
  h.inj (h.inv.img_lt (h.img_lt hi)) hi (h.inv_img (h.img_lt hi))

theorem comp_inv (h : Pm n p) : Go.Pm.comp p (invp p) = Go.Pm.idn n :=
  (h.comp h.inv).ext_img (.idn n) fun i hi => by rw [h.cimg hi, h.img_inv hi, img_idn hi]
theorem inv_comp (h : Pm n p) : Go.Pm.comp (invp p) p = Go.Pm.idn n :=
  (h.inv.comp h).ext_img (.idn n) fun i hi => by rw [h.inv.cimg hi, h.inv_img hi, img_idn hi]
theorem comp_idn (h : Pm n p) : Go.Pm.comp p (Go.Pm.idn n) = p :=
  (h.comp (.idn n)).ext_img h fun i hi => by rw [h.cimg hi, img_idn (h.img_lt hi)]
theorem idn_comp (h : Pm n p) : Go.Pm.comp (Go.Pm.idn n) p = p :=
  ((Pm.idn n).comp h).ext_img h fun i hi => by rw [(Pm.idn n).cimg hi, img_idn hi]
theorem assoc (h : Pm n p) (k : Pm n q) (l : Pm n r) : Go.Pm.comp (Go.Pm.comp p q) r = Go.Pm.comp p (Go.Pm.comp q r) :=
  ((h.comp k).comp l).ext_img (h.comp (k.comp l)) fun i hi => by
    rw [(h.comp k).cimg hi, h.cimg hi, h.cimg hi, k.cimg (h.img_lt hi)]
theorem cancel (h : Pm n p) (k : Pm n q) : Go.Pm.comp (Go.Pm.comp p q) (invp q) = p := by
  rw [h.assoc k k.inv, k.comp_inv, h.comp_idn]
theorem cancel' (h : Pm n p) (k : Pm n q) : Go.Pm.comp (Go.Pm.comp p (invp q)) q = p := by
  rw [h.assoc k.inv k, k.inv_comp, h.comp_idn]
theorem right_inj (h : Pm n p) (k : Pm n q) (l : Pm n r) (e : Go.Pm.comp p r = Go.Pm.comp q r) : p = q := by
  rw [← h.cancel l, e, k.cancel l]
theorem inv_idn (n : Nat) : invp (Go.Pm.idn n) = Go.Pm.idn n := by
  have h := Pm.idn n
  have := h.comp_inv
  rwa [h.inv.idn_comp] at this
theorem inv_inv (h : Pm n p) : invp (invp p) = p := by
  refine h.inv.inv.right_inj h h.inv ?_
  rw [h.inv.inv_comp, h.comp_inv]
theorem inv_of_comp (h : Pm n p) (k : Pm n q) (e : Go.Pm.comp p q = Go.Pm.idn n) : p = invp q := by
  refine h.right_inj k.inv k ?_
  rw [e, k.inv_comp]
end Pm

/-- What is generated (products of generators, applied one after the other). -/
inductive Gen (n : Nat) (S : List (List Int)) : List Int → Prop
  | one : Gen n S (idn n)
  | mul {p g : List Int} : Gen n S p → g ∈ S → Gen n S (comp p g)

section
variable {n : Nat} {S S' : List (List Int)} {p q : List Int}
theorem Gen.pm (hS : ∀ g ∈ S, Pm n g) (h : Gen n S p) : Pm n p := by
  induction h with
  | one => exact .idn n
  | mul _ hg ih => exact ih.comp (hS _ hg)
theorem Gen.prod (hS : ∀ g ∈ S, Pm n g) (h : Gen n S p) (k : Gen n S q) : Gen n S (comp p q) := by
  induction k with
  | one => rw [(h.pm hS).comp_idn]; exact h
  | mul k hg ih => rw [← (h.pm hS).assoc (k.pm hS) (hS _ hg)]; exact ih.mul hg
theorem Gen.of (hS : ∀ g ∈ S, Pm n g) (h : p ∈ S) : Gen n S p := by
  have := (Gen.one (n := n) (S := S)).mul h
  rwa [(hS _ h).idn_comp] at this
theorem Gen.sub (hS : ∀ g ∈ S', Pm n g) (hs : ∀ g ∈ S, Gen n S' g) (h : Gen n S p) : Gen n S' p := by
  induction h with
  | one => exact .one
  | mul _ hg ih => exact ih.prod hS (hs _ hg)
theorem Gen.mono (hs : ∀ g ∈ S, g ∈ S') (h : Gen n S p) : Gen n S' p := by
  induction h with
  | one => exact .one
  | mul _ hg ih => exact ih.mul (hs _ hg)
end
end Go.Pm
end
/- Chains of stabilizers: what they hold, and how many. -/
section
namespace Go.Pm

structure Ch where
  S : Nat → List (List Int)
  T : Nat → Nat → Option (List Int)

/-- The points before i stay. -/
def fixB (i : Nat) (p : List Int) : Prop := ∀ j, j < i → img p j = j

/-- Sifting: k levels from level i on. -/
def Ch.has (C : Ch) : Nat → Nat → List Int → Bool
  | 0, _, _ => true
  | k + 1, i, p => match C.T i (img p i) with
    | none => false
    | some t => C.has k (i + 1) (comp p (invp t))

structure Ch.WF (C : Ch) (n : Nat) : Prop where
  t1 : ∀ i y t, i < n → C.T i y = some t → Pm n t ∧ fixB i t ∧ img t i = y
  t0 : ∀ i, i < n → C.T i i = some (idn n)
  s1 : ∀ i g, g ∈ C.S i → Pm n g ∧ fixB i g

/-- The level j is done. -/
structure Ch.Ok (C : Ch) (n j : Nat) : Prop where
  cl : ∀ y t g, C.T j y = some t → g ∈ C.S j → ∃ u, C.T j (img g y) = some u ∧ C.has (n - (j + 1)) (j + 1) (comp (comp t g) (invp u)) = true
  tg : ∀ y t, C.T j y = some t → Gen n (C.S j) t
  sg : ∀ g, g ∈ C.S (j + 1) → Gen n (C.S j) g

def Ch.Full (C : Ch) (n i : Nat) : Prop := ∀ j, i ≤ j → j < n → C.Ok n j

theorem fixB.idn (n i : Nat) (h : i ≤ n) : fixB i (idn n) := fun j hj => img_idn (by omega)
theorem fixB.comp {n i : Nat} {p q : List Int} (hp : Pm n p) (hi : i ≤ n) (h : fixB i p) (k : fixB i q) : fixB i (comp p q) := fun j hj => by
  rw [hp.cimg (by omega), h j hj, k j hj]
theorem fixB.inv {n i : Nat} {p : List Int} (hp : Pm n p) (hi : i ≤ n) (h : fixB i p) : fixB i (invp p) := fun j hj => by
  have := hp.img_inv (i := j) (by omega)
  rwa [h j hj] at this
/-- A quotient that fixes one point more. -/
theorem fixB.quot {n i : Nat} {p t : List Int} (hp : Pm n p) (ht : Pm n t) (hi : i < n) (h : fixB i p) (k : fixB i t) (e : img t i = img p i) : fixB (i + 1) (Go.Pm.comp p (invp t)) := fun j hj => by
  by_cases hji : j = i
  · subst hji
    rw [hp.cimg hi, ← e, ht.img_inv hi]
  · exact fixB.comp hp (by omega) h (k.inv ht (by omega)) j (by omega)
theorem fixB.all {n : Nat} {p : List Int} (hp : Pm n p) (h : fixB n p) : p = Go.Pm.idn n :=
  hp.ext_img (.idn n) fun i hi => by rw [h i hi, img_idn hi]

section
variable {C C' : Ch} {n : Nat}

theorem Ch.WF.gpm (w : C.WF n) (i : Nat) : ∀ g ∈ C.S i, Pm n g := fun g hg => (w.s1 i g hg).1

theorem Gen.fix {n i : Nat} {S : List (List Int)} {p : List Int} (hi : i ≤ n) (hS : ∀ g ∈ S, Pm n g ∧ fixB i g) (h : Gen n S p) : fixB i p := by
  induction h with
  | one => exact .idn n i hi
  | mul h hg ih => exact fixB.comp (h.pm fun g hg => (hS g hg).1) hi ih (hS _ hg).2

/-- What a full chain holds is what its generators generate. -/
theorem Ch.has_iff (w : C.WF n) : ∀ (k i : Nat), i + k = n → C.Full n i → ∀ p, Pm n p → fixB i p → (C.has k i p = true ↔ Gen n (C.S i) p)
  | 0, i, hi, _, p, hp, hf => by
    have : i = n := by omega
    subst this
    rw [hf.all hp]
    exact ⟨fun _ => .one, fun _ => rfl⟩
  | k + 1, i, hi, hF, p, hp, hf => by
    have hin : i < n := by omega
    have ih := Ch.has_iff w k (i + 1) (by omega) (fun j h1 h2 => hF j (by omega) h2)
    have hok := hF i (Nat.le_refl _) hin
    have e : n - (i + 1) = k := by omega
    have hq : ∀ q t, Pm n q → fixB i q → C.T i (img q i) = some t → Pm n (comp q (invp t)) ∧ fixB (i + 1) (comp q (invp t)) := fun q t hq hfq ht => by
      obtain ⟨h1, h2, h3⟩ := w.t1 i _ t hin ht
      exact ⟨hq.comp h1.inv, fixB.quot hq h1 hin hfq h2 h3⟩
    constructor
    · intro h
      simp only [Ch.has] at h
      split at h
      · cases h
      · rename_i t ht
        obtain ⟨h1, h2⟩ := hq p t hp hf ht
        have h3 := (ih _ h1 h2).1 h
        have h4 : Gen n (C.S i) (comp p (invp t)) := h3.sub (w.gpm i) hok.sg
        have := h4.prod (w.gpm i) (hok.tg _ t ht)
        rwa [hp.cancel' (w.t1 i _ t hin ht).1] at this
    · intro h
      clear hp hf
      induction h with
      | one =>
        simp only [Ch.has]
        rw [img_idn hin, w.t0 i hin]
        simp only
        rw [(Pm.idn n).comp_inv]
        exact (ih _ (.idn n) (.idn n _ (by omega))).2 .one
      | @mul p g h hg ihp =>
        have hp : Pm n p := h.pm (w.gpm i)
        have hf : fixB i p := h.fix (by omega) (w.s1 i)
        obtain ⟨gp, gf⟩ := w.s1 i g hg
        simp only [Ch.has] at ihp ⊢
        rw [hp.cimg hin]
        split at ihp
        · cases ihp
        · rename_i t ht
          obtain ⟨u, hu, hs⟩ := hok.cl _ t g ht hg
          rw [e] at hs
          rw [hu]
          simp only
          obtain ⟨t1, t2, t3⟩ := w.t1 i _ t hin ht
          obtain ⟨u1, u2, u3⟩ := w.t1 i _ u hin hu
          obtain ⟨a1, a2⟩ := hq p t hp hf ht
          have b1 : Pm n (comp (comp t g) (invp u)) := (t1.comp gp).comp u1.inv
          have b2 : fixB (i + 1) (comp (comp t g) (invp u)) := fixB.quot (t1.comp gp) u1 hin (t2.comp t1 (by omega) gf) u2 (by rw [u3, t1.cimg hin, t3])
          have c1 := (ih _ a1 a2).1 ihp
          have c2 := (ih _ b1 b2).1 hs
          have c3 := c1.prod (w.gpm (i + 1)) c2
          have eq : comp (comp p (invp t)) (comp (comp t g) (invp u)) = comp (comp p g) (invp u) := by
            rw [← (hp.comp t1.inv).assoc (t1.comp gp) u1.inv, ← (hp.comp t1.inv).assoc t1 gp, hp.cancel' t1]
          rw [eq] at c3
          have d1 : Pm n (comp (comp p g) (invp u)) := (hp.comp gp).comp u1.inv
          have d2 : fixB (i + 1) (comp (comp p g) (invp u)) := fixB.quot (hp.comp gp) u1 hin (hf.comp hp (by omega) gf) u2 (by rw [u3, hp.cimg hin])
          exact (ih _ d1 d2).2 c3

/-- What a chain holds, a chain of more generators holds. -/
theorem Ch.has_mono (w : C.WF n) (w' : C'.WF n) {k i : Nat} (hi : i + k = n) (hF : C.Full n i) (hF' : C'.Full n i) (hs : ∀ g, g ∈ C.S i → g ∈ C'.S i) {p : List Int} (hp : Pm n p) (hf : fixB i p) (h : C.has k i p = true) : C'.has k i p = true :=
  (Ch.has_iff w' k i hi hF' p hp hf).2 (((Ch.has_iff w k i hi hF p hp hf).1 h).mono hs)

/-- Sifting looks at the levels from i on alone. -/
theorem Ch.has_congr : ∀ (k i : Nat) (p : List Int), (∀ j, i ≤ j → C'.T j = C.T j) → C'.has k i p = C.has k i p
  | 0, _, _, _ => rfl
  | k + 1, i, p, h => by
    simp only [Ch.has]
    rw [h i (Nat.le_refl _)]
    cases C.T i (img p i) with
    | none => rfl
    | some t => exact Ch.has_congr k (i + 1) _ fun j hj => h j (by omega)

/-- How many points the orbit of level i has. -/
def Ch.cnt (C : Ch) (n i : Nat) : Nat := (List.range n).countP fun y => (C.T i y).isSome
def Ch.ord (C : Ch) (n : Nat) : Nat → Nat → Nat
  | 0, _ => 1
  | k + 1, i => C.cnt n i * C.ord n k (i + 1)
def Ch.enum (C : Ch) (n : Nat) : Nat → Nat → List (List Int)
  | 0, _ => [idn n]
  | k + 1, i => (List.range n).flatMap fun y => match C.T i y with
    | none => []
    | some t => (C.enum n k (i + 1)).map fun p => comp p t

theorem Ch.enum_mem (w : C.WF n) : ∀ (k i : Nat), i + k = n → ∀ p, p ∈ C.enum n k i ↔ (Pm n p ∧ fixB i p ∧ C.has k i p = true)
  | 0, i, hi, p => by
    have : i = n := by omega
    subst this
    simp only [Ch.enum, List.mem_singleton, Ch.has, and_true]
    exact ⟨fun h => by rw [h]; exact ⟨.idn _, .idn _ _ (Nat.le_refl _)⟩, fun h => h.2.all h.1⟩
  | k + 1, i, hi, p => by
    have hin : i < n := by omega
    have ih := Ch.enum_mem w k (i + 1) (by omega)
    simp only [Ch.enum, List.mem_flatMap, List.mem_range]
    constructor
    · rintro ⟨y, hy, h⟩
      split at h
      · cases h
      · rename_i t ht
        obtain ⟨q, hq, rfl⟩ := List.mem_map.1 h
        obtain ⟨q1, q2, q3⟩ := (ih q).1 hq
        obtain ⟨t1, t2, t3⟩ := w.t1 i y t hin ht
        refine ⟨q1.comp t1, fixB.comp q1 (by omega) (fun j hj => q2 j (by omega)) t2, ?_⟩
        simp only [Ch.has]
        rw [q1.cimg hin, q2 i (by omega), t3, ht]
        simp only
        rw [q1.cancel t1]; exact q3
    · rintro ⟨h1, h2, h3⟩
      refine ⟨img p i, h1.img_lt hin, ?_⟩
      simp only [Ch.has] at h3
      split at h3
      · cases h3
      · rename_i t ht
        obtain ⟨t1, t2, t3⟩ := w.t1 i _ t hin ht
        first | rw [ht] | skip
        exact List.mem_map.2 ⟨comp p (invp t), (ih _).2 ⟨h1.comp t1.inv, fixB.quot h1 t1 hin h2 t2 t3, h3⟩, h1.cancel' t1⟩

theorem Ch.enum_nodup (w : C.WF n) : ∀ (k i : Nat), i + k = n → (C.enum n k i).Nodup
  | 0, _, _ => by simp [Ch.enum]
  | k + 1, i, hi => by
    have hin : i < n := by omega
    have ih := Ch.enum_nodup w k (i + 1) (by omega)
    have im := Ch.enum_mem w k (i + 1) (by omega)
    rw [Ch.enum, List.nodup_iff_pairwise_ne, List.pairwise_flatMap]
    refine ⟨fun y hy => ?_, ?_⟩
    · split
      · exact List.Pairwise.nil
      · rename_i t ht
        rw [List.pairwise_map]
        refine List.Pairwise.imp_of_mem (R := fun a b => a ≠ b) ?_ (List.nodup_iff_pairwise_ne.1 ih)
        intro a b ha hb hne e
        exact hne (((im a).1 ha).1.right_inj ((im b).1 hb).1 (w.t1 i y t hin ht).1 e)
    · refine List.Pairwise.imp_of_mem (R := fun a b => a ≠ b) ?_ (List.nodup_iff_pairwise_ne.1 List.nodup_range)
      intro a b _ _ hne x hx y hy e
      split at hx
      · cases hx
      · rename_i t ht
        split at hy
        · cases hy
        · rename_i u hu
          obtain ⟨q, hq, rfl⟩ := List.mem_map.1 hx
          obtain ⟨r, hr, rfl⟩ := List.mem_map.1 hy
          obtain ⟨q1, q2, _⟩ := (im q).1 hq
          obtain ⟨r1, r2, _⟩ := (im r).1 hr
          have h1 := congrArg (fun p => img p i) e
          rw [q1.cimg hin, r1.cimg hin, q2 i (by omega), r2 i (by omega), (w.t1 i a t hin ht).2.2, (w.t1 i b u hin hu).2.2] at h1
          exact hne h1

theorem Ch.enum_length : ∀ (k i : Nat), (C.enum n k i).length = C.ord n k i
  | 0, _ => rfl
  | k + 1, i => by
    have ih := Ch.enum_length k (i + 1)
    have key : ∀ l : List Nat, (l.flatMap fun y => match C.T i y with
      | none => []
      | some t => (C.enum n k (i + 1)).map fun p => comp p t).length = (l.countP fun y => (C.T i y).isSome) * C.ord n k (i + 1) := by
      intro l
      induction l with
      | nil => simp
      | cons y l ihl =>
        rw [List.flatMap_cons, List.length_append, ihl, List.countP_cons]
        cases C.T i y with
        | none => simp
        | some t => simp [ih, Nat.add_mul, Nat.add_comm]
    simpa [Ch.enum, Ch.ord, Ch.cnt] using key (List.range n)

/-- The members of the group, each once. -/
theorem Ch.members (w : C.WF n) (hF : C.Full n 0) : ∃ L : List (List Int), L.Nodup ∧ L.length = C.ord n n 0 ∧ ∀ p, p ∈ L ↔ Gen n (C.S 0) p := by
  refine ⟨C.enum n n 0, Ch.enum_nodup w n 0 (by omega), Ch.enum_length n 0, fun p => ?_⟩
  rw [Ch.enum_mem w n 0 (by omega)]
  constructor
  · rintro ⟨h1, h2, h3⟩
    exact (Ch.has_iff w n 0 (by omega) hF p h1 h2).1 h3
  · intro h
    have hp := h.pm (w.gpm 0)
    have hf : fixB 0 p := fun j hj => by omega
    exact ⟨hp, hf, (Ch.has_iff w n 0 (by omega) hF p hp hf).2 h⟩

def fact : Nat → Nat
  | 0 => 1
  | k + 1 => (k + 1) * fact k

theorem Ch.cnt_le (w : C.WF n) {i : Nat} (hi : i < n) : C.cnt n i ≤ n - i := by
  have h1 : ∀ y, y < i → (C.T i y).isSome = false := by
    intro y hy
    cases ht : C.T i y with
    | none => rfl
    | some t =>
      obtain ⟨t1, t2, t3⟩ := w.t1 i y t hi ht
      have := t1.inj (i := i) (j := y) hi (by omega) (by rw [t3, t2 y hy])
      omega
  have h2 : (List.range n) = List.range i ++ (List.range (n - i)).map (i + ·) := by
    rw [← List.range_add]; congr 1; omega
  unfold Ch.cnt
  rw [h2, List.countP_append]
  have h3 : (List.range i).countP (fun y => (C.T i y).isSome) = 0 := by
    rw [List.countP_eq_zero]
    intro y hy
    simp [h1 y (by simpa using hy)]
  have h4 : ((List.range (n - i)).map (i + ·)).countP (fun y => (C.T i y).isSome) ≤ n - i := by
    have := List.countP_le_length (p := fun y => (C.T i y).isSome) (l := (List.range (n - i)).map (i + ·))
    simpa using this
  omega
theorem Ch.ord_le (w : C.WF n) : ∀ (k i : Nat), i + k = n → C.ord n k i ≤ fact k
  | 0, _, _ => Nat.le_refl _
  | k + 1, i, hi => by
    have h1 := Ch.cnt_le w (i := i) (by omega)
    have h2 := Ch.ord_le w k (i + 1) (by omega)
    rw [show n - i = k + 1 by omega] at h1
    exact Nat.mul_le_mul h1 h2
theorem fact_mono {k m : Nat} (h : k ≤ m) : fact k ≤ fact m := by
  induction m with
  | zero => rw [show k = 0 by omega]; exact Nat.le_refl _
  | succ m ih =>
    by_cases e : k = m + 1
    · rw [e]; exact Nat.le_refl _
    · have := ih (by omega)
      have h2 : fact m ≤ (m + 1) * fact m := by
        have := Nat.mul_le_mul_right (fact m) (show 1 ≤ m + 1 by omega)
        omega
      exact Nat.le_trans this h2
theorem fact_20 : fact 20 = 2432902008176640000 := by decide

end

/-- In a finite set that right multiplication leaves, inverses can be reached. -/
theorem Gen.inv_mem {n : Nat} {S L : List (List Int)} (hS : ∀ g ∈ S, Pm n g) (hL : ∀ p, p ∈ L ↔ Gen n S p) (hn : L.Nodup) {g : List Int} (hg : Gen n S g) : Gen n S (invp g) := by
  have gp := hg.pm hS
  have h1 : (L.map fun p => comp p g).Nodup := by
    rw [List.nodup_iff_pairwise_ne, List.pairwise_map]
    refine List.Pairwise.imp_of_mem (R := fun a b => a ≠ b) ?_ (List.nodup_iff_pairwise_ne.1 hn)
    intro a b ha hb hne e
    exact hne ((((hL a).1 ha).pm hS).right_inj (((hL b).1 hb).pm hS) gp e)
  have h2 : ∀ x ∈ (L.map fun p => comp p g), x ∈ L := by
    intro x hx
    obtain ⟨p, hp, rfl⟩ := List.mem_map.1 hx
    exact (hL _).2 (((hL p).1 hp).prod hS hg)
  have h3 : idn n ∈ (L.map fun p => comp p g) := by
    refine Classical.byContradiction fun hc => ?_
    have := Go.Plain.nodup_le L (idn n :: L.map fun p => comp p g) (List.nodup_cons.2 ⟨hc, h1⟩) (fun x hx => by
      simp only [List.mem_cons] at hx
      rcases hx with rfl | hx
      · exact (hL _).2 .one
      · exact h2 x hx)
    simp at this
    omega
  obtain ⟨p, hp, e⟩ := List.mem_map.1 h3
  have := ((hL p).1 hp)
  rwa [(this.pm hS).inv_of_comp gp e] at this
end Go.Pm
end
/- Breadth-first search over rows of positions: what both texts compute. -/
section
namespace Go.Pm
set_option linter.unusedVariables false

structure Bf where
  st : List (List Int)
  dp : List Int
  pa : List Int
  bl : List Int
  nx : List (List Int)

/-- One letter at the state number k. -/
def Bf.meet (k : Nat) (x : Bf × List Int) (l : Int × List Int) : Bf × List Int :=
  if comp (x.1.st.getD k []) l.2 ∈ x.1.st then (x.1, x.2 ++ [((x.1.st.idxOf (comp (x.1.st.getD k []) l.2) : Nat) : Int)])
  else ({ x.1 with st := x.1.st ++ [comp (x.1.st.getD k []) l.2], dp := x.1.dp ++ [x.1.dp.getD k 0 + 1], pa := x.1.pa ++ [(k : Int)], bl := x.1.bl ++ [l.1] }, x.2 ++ [(x.1.st.length : Int)])
def Bf.rows (Ls : List (Int × List Int)) (k : Nat) (B : Bf) (j : Nat) : Bf × List Int := (Ls.take j).foldl (Bf.meet k) (B, [])
def Bf.step (Ls : List (Int × List Int)) (k : Nat) (B : Bf) : Bf := { (B.rows Ls k Ls.length).1 with nx := B.nx ++ [(B.rows Ls k Ls.length).2] }
def Bf.run (Ls : List (Int × List Int)) (s0 : List Int) : Nat → Bf
  | 0 => ⟨[s0], [0], [0], [0], []⟩
  | k + 1 => (Bf.run Ls s0 k).step Ls k

section
variable {Ls : List (Int × List Int)} {s0 : List Int} {n : Nat}

theorem Bf.rows_zero (k : Nat) (B : Bf) : B.rows Ls k 0 = (B, []) := rfl
theorem Bf.rows_succ (k : Nat) (B : Bf) {j : Nat} (h : j < Ls.length) : B.rows Ls k (j + 1) = Bf.meet k (B.rows Ls k j) (Ls.getD j (0, [])) := by
  unfold Bf.rows
  rw [List.take_succ_eq_append_getElem h, List.foldl_append]
  simp [List.getD_eq_getElem?_getD, h]

/-- y comes of x by more states. -/
structure Bf.More (x y : Bf) : Prop where
  st : x.st <+: y.st
  dp : x.dp <+: y.dp
  pa : x.pa <+: y.pa
  bl : x.bl <+: y.bl
  nx : x.nx <+: y.nx
theorem Bf.More.refl (x : Bf) : Bf.More x x := ⟨List.prefix_refl _, List.prefix_refl _, List.prefix_refl _, List.prefix_refl _, List.prefix_refl _⟩
theorem Bf.More.trans {x y z : Bf} (h : Bf.More x y) (k : Bf.More y z) : Bf.More x z := ⟨h.st.trans k.st, h.dp.trans k.dp, h.pa.trans k.pa, h.bl.trans k.bl, h.nx.trans k.nx⟩
theorem Bf.meet_more (k : Nat) (x : Bf × List Int) (l : Int × List Int) : Bf.More x.1 (Bf.meet k x l).1 := by
  unfold Bf.meet
  split
  · exact .refl _
  · exact ⟨List.prefix_append _ _, List.prefix_append _ _, List.prefix_append _ _, List.prefix_append _ _, List.prefix_refl _⟩
theorem Bf.meet_nx (k : Nat) (x : Bf × List Int) (l : Int × List Int) : (Bf.meet k x l).1.nx = x.1.nx := by
  unfold Bf.meet; split <;> rfl
theorem Bf.rows_more (k : Nat) (B : Bf) : ∀ j, j ≤ Ls.length → Bf.More B (B.rows Ls k j).1
  | 0, _ => .refl _
  | j + 1, h => by
    rw [Bf.rows_succ k B (by omega)]
    exact (Bf.rows_more k B j (by omega)).trans (Bf.meet_more _ _ _)
theorem Bf.rows_nx (k : Nat) (B : Bf) : ∀ j, j ≤ Ls.length → (B.rows Ls k j).1.nx = B.nx
  | 0, _ => rfl
  | j + 1, h => by
    rw [Bf.rows_succ k B (by omega), Bf.meet_nx]
    exact Bf.rows_nx k B j (by omega)
theorem Bf.rows_len (k : Nat) (B : Bf) : ∀ j, j ≤ Ls.length → (B.rows Ls k j).2.length = j
  | 0, _ => rfl
  | j + 1, h => by
    rw [Bf.rows_succ k B (by omega)]
    have := Bf.rows_len k B j (by omega)
    unfold Bf.meet
    split <;> simp [this]
theorem Bf.step_more (k : Nat) (B : Bf) : Bf.More B (B.step Ls k) := by
  have := Bf.rows_more (Ls := Ls) k B Ls.length (Nat.le_refl _)
  exact ⟨this.st, this.dp, this.pa, this.bl, List.prefix_append _ _⟩
theorem Bf.run_more {j k : Nat} (h : j ≤ k) : Bf.More (Bf.run Ls s0 j) (Bf.run Ls s0 k) := by
  induction k with
  | zero => rw [show j = 0 by omega]; exact .refl _
  | succ k ih =>
    by_cases e : j = k + 1
    · rw [e]; exact .refl _
    · exact (ih (by omega)).trans (Bf.step_more _ _)
theorem pre_getD {α : Type} {l m : List α} (h : l <+: m) {i : Nat} (hi : i < l.length) (d : α) : m.getD i d = l.getD i d := by
  obtain ⟨r, rfl⟩ := h
  simp [List.getD_eq_getElem?_getD, List.getElem?_append_left hi]

/-- What holds of every state of the search. -/
structure Bf.J (n : Nat) (Ls : List (Int × List Int)) (s0 : List Int) (B : Bf) : Prop where
  nd : B.st.Nodup
  ne : B.st.getD 0 [] = s0 ∧ 0 < B.st.length
  gen : ∀ s ∈ B.st, ∃ g, Gen n (Ls.map (·.2)) g ∧ s = comp s0 g
  ld : B.dp.length = B.st.length
  lp : B.pa.length = B.st.length
  lb : B.bl.length = B.st.length

theorem comp_assoc {p q r : List Int} {n : Nat} (hp : ∀ j, j < p.length → img p j < n) (hq : Pm n q) : comp (comp p q) r = comp p (comp q r) := by
  refine ext (by simp [comp]) fun j hj => ?_
  rw [comp_length, comp_length] at hj
  rw [comp_get _ _ (by rw [comp_length]; exact hj), comp_get _ _ hj, img_comp _ _ hj, comp_get _ _ (by rw [hq.1]; exact hp j hj)]

theorem mem_getD_of_lt {α : Type} {l : List α} {i : Nat} (d : α) (h : i < l.length) : l.getD i d ∈ l := by
  rw [List.getD_eq_getElem?_getD, List.getElem?_eq_getElem h]
  exact List.getElem_mem h

theorem Bf.J.meet (h0 : ∀ j, j < s0.length → img s0 j < n) (hG : ∀ g ∈ Ls.map (·.2), Pm n g) {k : Nat} {x : Bf × List Int} {l : Int × List Int} (hl : l ∈ Ls) (hk : k < x.1.st.length) (h : Bf.J n Ls s0 x.1) : Bf.J n Ls s0 (Bf.meet k x l).1 := by
  unfold Bf.meet
  split
  · exact h
  · rename_i hn
    have hm : x.1.st.getD k [] ∈ x.1.st := mem_getD_of_lt _ hk
    refine ⟨?_, ⟨?_, by simp⟩, ?_, by simp [h.ld], by simp [h.lp], by simp [h.lb]⟩
    · refine List.nodup_append.2 ⟨h.nd, by simp, ?_⟩
      intro a ha b hb
      simp only [List.mem_singleton] at hb
      subst hb
      intro e; exact hn (e ▸ ha)
    · have := h.ne
      rw [pre_getD (List.prefix_append _ _) this.2]; exact this.1
    · intro s hs
      simp only [List.mem_append, List.mem_singleton] at hs
      rcases hs with hs | rfl
      · exact h.gen s hs
      · obtain ⟨g, hg, e⟩ := h.gen _ hm
        refine ⟨comp g l.2, hg.mul (List.mem_map.2 ⟨l, hl, rfl⟩), ?_⟩
        rw [e, comp_assoc h0 (hg.pm hG)]
theorem Bf.J.rows (h0 : ∀ j, j < s0.length → img s0 j < n) (hG : ∀ g ∈ Ls.map (·.2), Pm n g) {k : Nat} {B : Bf} (hk : k < B.st.length) (h : Bf.J n Ls s0 B) : ∀ j, j ≤ Ls.length → Bf.J n Ls s0 (B.rows Ls k j).1
  | 0, _ => h
  | j + 1, hj => by
    rw [Bf.rows_succ k B (by omega)]
    have h1 := Bf.J.rows h0 hG hk h j (by omega)
    refine Bf.J.meet h0 hG (mem_getD_of_lt _ (by omega)) ?_ h1
    exact Nat.lt_of_lt_of_le hk ((Bf.rows_more k B j (by omega)).st.length_le)
theorem Bf.J.start (hG : ∀ g ∈ Ls.map (·.2), Pm n g) (hs : ∀ j, j < s0.length → 0 ≤ s0.getD j 0 ∧ s0.getD j 0 < n) : Bf.J n Ls s0 (Bf.run Ls s0 0) := by
  refine ⟨by simp [Bf.run], ⟨rfl, by simp [Bf.run]⟩, ?_, rfl, rfl, rfl⟩
  intro s h
  simp only [Bf.run, List.mem_singleton] at h
  subst h
  refine ⟨idn n, .one, ext (by simp [comp]) fun j hj => ?_⟩
  rw [comp_get _ _ hj]
  have := hs j hj
  rw [idn_get (by unfold img; omega)]
  unfold img; omega
theorem Bf.J.run (hG : ∀ g ∈ Ls.map (·.2), Pm n g) (hs : ∀ j, j < s0.length → 0 ≤ s0.getD j 0 ∧ s0.getD j 0 < n) : ∀ k, (∀ j, j < k → j < (Bf.run Ls s0 j).st.length) → Bf.J n Ls s0 (Bf.run Ls s0 k)
  | 0, _ => Bf.J.start hG hs
  | k + 1, h => by
    have ih := Bf.J.run hG hs k (fun j hj => h j (by omega))
    have h1 := Bf.J.rows (fun j hj => by have := hs j hj; unfold img; omega) hG (h k (by omega)) ih Ls.length (Nat.le_refl _)
    exact ⟨h1.nd, h1.ne, h1.gen, h1.ld, h1.lp, h1.lb⟩

/-- At the state number k behind j letters, the first j of its neighbors are there, and the row tells where. -/
theorem Bf.rows_row {k : Nat} {B : Bf} (hk : k < B.st.length) : ∀ j, j ≤ Ls.length → ∀ i, i < j → comp (B.st.getD k []) (Ls.getD i (0, [])).2 ∈ (B.rows Ls k j).1.st ∧
    (B.rows Ls k j).2.getD i 0 = (((B.rows Ls k j).1.st.idxOf (comp (B.st.getD k []) (Ls.getD i (0, [])).2) : Nat) : Int)
  | 0, _, i, hi => by omega
  | j + 1, hj, i, hi => by
    have hm := Bf.rows_more (Ls := Ls) k B j (by omega)
    have hl := Bf.rows_len (Ls := Ls) k B j (by omega)
    have e0 : (B.rows Ls k j).1.st.getD k [] = B.st.getD k [] := pre_getD hm.st hk []
    rw [Bf.rows_succ k B (by omega)]
    by_cases hij : i = j
    · subst hij
      unfold Bf.meet
      rw [e0]
      split
      · rename_i h
        refine ⟨h, ?_⟩
        rw [Go.Av.getD_append, if_neg (by omega), hl, Nat.sub_self]; rfl
      · rename_i h
        refine ⟨by simp, ?_⟩
        simp only
        rw [Go.Av.getD_append, if_neg (by omega), hl, Nat.sub_self, List.idxOf_append, if_neg h]
        simp
    · obtain ⟨h1, h2⟩ := Bf.rows_row hk j (by omega) i (by omega)
      have hm2 := Bf.meet_more k (B.rows Ls k j) (Ls.getD j (0, []))
      refine ⟨hm2.st.subset h1, ?_⟩
      have e1 : (Bf.meet k (B.rows Ls k j) (Ls.getD j (0, []))).1.st.idxOf (comp (B.st.getD k []) (Ls.getD i (0, [])).2) = (B.rows Ls k j).1.st.idxOf (comp (B.st.getD k []) (Ls.getD i (0, [])).2) := by
        obtain ⟨r, hr⟩ := hm2.st
        rw [← hr, List.idxOf_append, if_pos h1]
      rw [e1, ← h2]
      unfold Bf.meet
      split <;> (simp only; rw [Go.Av.getD_append, if_pos (by omega)])

/-- The search is over. -/
def Bf.Done (Ls : List (Int × List Int)) (s0 : List Int) (k : Nat) : Prop := k = (Bf.run Ls s0 k).st.length ∧ ∀ j, j < k → j < (Bf.run Ls s0 j).st.length

theorem Bf.Done.uniq {j k : Nat} (h : Bf.Done Ls s0 j) (h' : Bf.Done Ls s0 k) : j = k := by
  rcases Nat.lt_trichotomy j k with hl | he | hl
  · have := h'.2 j hl; have := h.1; omega
  · exact he
  · have := h.2 k hl; have := h'.1; omega

theorem Bf.Done.closed {k : Nat} (h : Bf.Done Ls s0 k) {s : List Int} (hs : s ∈ (Bf.run Ls s0 k).st) {l : Int × List Int} (hl : l ∈ Ls) : comp s l.2 ∈ (Bf.run Ls s0 k).st := by
  obtain ⟨i, hi, e⟩ := List.getElem_of_mem hs
  have hik : i < k := by rw [h.1]; exact hi
  have hi' := h.2 i hik
  have hm := Bf.run_more (Ls := Ls) (s0 := s0) (show i ≤ k by omega)
  have e1 : (Bf.run Ls s0 i).st.getD i [] = s := by
    rw [← pre_getD hm.st hi' [], List.getD_eq_getElem?_getD, List.getElem?_eq_getElem hi]; exact e
  obtain ⟨j, hj, ej⟩ := List.getElem_of_mem hl
  have h1 := (Bf.rows_row (Ls := Ls) hi' Ls.length (Nat.le_refl _) j hj).1
  rw [e1, List.getD_eq_getElem?_getD, List.getElem?_eq_getElem hj, Option.getD_some, ej] at h1
  have hm2 := Bf.run_more (Ls := Ls) (s0 := s0) (show i + 1 ≤ k by omega)
  exact hm2.st.subset h1

theorem Bf.Done.mem (hG : ∀ g ∈ Ls.map (·.2), Pm n g) (hs : ∀ j, j < s0.length → 0 ≤ s0.getD j 0 ∧ s0.getD j 0 < n) {k : Nat} (h : Bf.Done Ls s0 k) (s : List Int) : s ∈ (Bf.run Ls s0 k).st ↔ ∃ g, Gen n (Ls.map (·.2)) g ∧ s = comp s0 g := by
  constructor
  · exact (Bf.J.run hG hs k h.2).gen s
  · rintro ⟨g, hg, rfl⟩
    induction hg with
    | one =>
      have h1 := (Bf.J.run hG hs k h.2).ne
      have : comp s0 (idn n) = s0 := by
        refine ext (by simp [comp]) fun j hj => ?_
        rw [comp_length] at hj
        rw [comp_get _ _ hj]
        have := hs j hj
        rw [idn_get (by unfold img; omega)]
        unfold img; omega
      rw [this]
      have h2 := mem_getD_of_lt (l := (Bf.run Ls s0 k).st) [] h1.2
      rwa [h1.1] at h2
    | @mul p g hp hg ih =>
      obtain ⟨l, hl, rfl⟩ := List.mem_map.1 hg
      rw [← comp_assoc (fun j hj => by have := hs j hj; unfold img; omega) (hp.pm hG)]
      exact h.closed ih hl

/-- The search comes to its end, if there are finitely many states. -/
theorem Bf.done_of_bound (hG : ∀ g ∈ Ls.map (·.2), Pm n g) (hs : ∀ j, j < s0.length → 0 ≤ s0.getD j 0 ∧ s0.getD j 0 < n) {L : List (List Int)} (hL : ∀ g, Gen n (Ls.map (·.2)) g → comp s0 g ∈ L) : ∃ k, Bf.Done Ls s0 k := by
  have key : ∀ m k, m + k = L.length + 1 → (∀ j, j < k → j < (Bf.run Ls s0 j).st.length) → ∃ k, Bf.Done Ls s0 k := by
    intro m
    induction m with
    | zero =>
      intro k hk h
      have h1 := Bf.J.run hG hs k h
      have h2 := Go.Plain.nodup_le L _ h1.nd (fun x hx => by obtain ⟨g, hg, rfl⟩ := h1.gen x hx; exact hL g hg)
      by_cases e : k = (Bf.run Ls s0 k).st.length
      · exact ⟨k, e, h⟩
      · have h3 := h (k - 1) (by omega)
        have h4 := (Bf.run_more (Ls := Ls) (s0 := s0) (show k - 1 ≤ k by omega)).st.length_le
        omega
    | succ m ih =>
      intro k hk h
      by_cases e : k < (Bf.run Ls s0 k).st.length
      · refine ih (k + 1) (by omega) fun j hj => ?_
        by_cases hjk : j = k
        · subst hjk; exact e
        · exact h j (by omega)
      · refine ⟨k, ?_, h⟩
        by_cases hk0 : k = 0
        · subst hk0; simp [Bf.run] at e
        · have h3 := h (k - 1) (by omega)
          have h4 := (Bf.run_more (Ls := Ls) (s0 := s0) (show k - 1 ≤ k by omega)).st.length_le
          omega
  exact key (L.length + 1) 0 (by omega) (fun j hj => by omega)
end
end Go.Pm
end
/- Extending a stabilizer chain: what the loops keep. -/
section
namespace Go.Pm
set_option linter.unusedVariables false

def rowsOf (n : Nat) : Nat → List (List Int)
  | 0 => [[]]
  | k + 1 => (List.range n).flatMap fun i : Nat => (rowsOf n k).map fun r => (i : Int) :: r
theorem rowsOf_mem (n : Nat) : ∀ (r : List Int), (∀ x, x ∈ r → ∃ i : Nat, i < n ∧ x = (i : Int)) → r ∈ rowsOf n r.length
  | [], _ => by simp [rowsOf]
  | x :: r, h => by
    obtain ⟨i, hi, rfl⟩ := h x (by simp)
    have := rowsOf_mem n r (fun y hy => h y (List.mem_cons_of_mem _ hy))
    simp only [List.length_cons, rowsOf, List.mem_flatMap, List.mem_range, List.mem_map]
    exact ⟨i, hi, r, this, rfl⟩
theorem nodup_of {α : Type} (L : List α) : ∃ M : List α, M.Nodup ∧ ∀ x, x ∈ M ↔ x ∈ L := by
  induction L with
  | nil => exact ⟨[], List.nodup_nil, fun x => Iff.rfl⟩
  | cons a L ih =>
    obtain ⟨M, h1, h2⟩ := ih
    by_cases h : a ∈ M
    · exact ⟨M, h1, fun x => by rw [h2, List.mem_cons]; constructor
                                · exact .inr
                                · rintro (rfl | hx)
                                  · exact (h2 _).1 h
                                  · exact hx⟩
    · exact ⟨a :: M, List.nodup_cons.2 ⟨h, h1⟩, fun x => by rw [List.mem_cons, List.mem_cons, h2]⟩
/-- In a finite group inverses are products. -/
theorem Gen.inv {n : Nat} {S : List (List Int)} (hS : ∀ g ∈ S, Pm n g) {g : List Int} (hg : Gen n S g) : Gen n S (invp g) := by
  obtain ⟨M, h1, h2⟩ := nodup_of (rowsOf n n)
  have dec : ∀ p, Decidable (Gen n S p) := fun p => Classical.propDecidable _
  refine Gen.inv_mem (L := M.filter fun p => @decide (Gen n S p) (dec p)) hS (fun p => ?_) (h1.filter _) hg
  rw [List.mem_filter, h2]
  constructor
  · rintro ⟨_, h⟩; exact @of_decide_eq_true _ (dec p) h
  · intro h
    refine ⟨?_, @decide_eq_true _ (dec p) h⟩
    have hp := h.pm hS
    have := rowsOf_mem n p (fun x hx => by
      obtain ⟨j, hj, rfl⟩ := List.mem_iff_getElem.1 hx
      have h3 := hp.2.1 j (by rw [← hp.1]; exact hj)
      rw [List.getD_eq_getElem?_getD, List.getElem?_eq_getElem hj] at h3
      simp only [Option.getD_some] at h3
      exact ⟨(p[j]).toNat, by omega, by omega⟩)
    rwa [hp.1] at this

/-- No generator lies in what those before it generate. -/
def Ind (n : Nat) (S : List (List Int)) : Prop := ∀ k, k < S.length → ¬ Gen n (S.take k) (S.getD k [])
theorem Ind.nil (n : Nat) : Ind n [] := fun k hk => by simp at hk
theorem Ind.snoc {n : Nat} {S : List (List Int)} {p : List Int} (h : Ind n S) (hp : ¬ Gen n S p) : Ind n (S ++ [p]) := fun k hk => by
  simp only [List.length_append, List.length_singleton] at hk
  by_cases e : k = S.length
  · subst e
    rw [List.take_left', List.getD_eq_getElem?_getD, List.getElem?_append_right (Nat.le_refl _)]
    · simpa using hp
    · rfl
  · have h1 := h k (by omega)
    rw [List.take_append_of_le_length (by omega), List.getD_eq_getElem?_getD, List.getElem?_append_left (by omega), ← List.getD_eq_getElem?_getD]
    exact h1
theorem rowsOf_length (n : Nat) : ∀ k, (rowsOf n k).length = n ^ k
  | 0 => rfl
  | k + 1 => by
    have ih := rowsOf_length n k
    have key : ∀ L : List Nat, (L.flatMap fun i : Nat => (rowsOf n k).map fun r => (i : Int) :: r).length = L.length * n ^ k := by
      intro L
      induction L with
      | nil => simp
      | cons a L h => rw [List.flatMap_cons, List.length_append, h, List.length_map, ih, List.length_cons, Nat.succ_mul]; omega
    rw [rowsOf, key, List.length_range, Nat.pow_succ, Nat.mul_comm]
theorem pm_rows {n : Nat} {p : List Int} (hp : Pm n p) : p ∈ rowsOf n n := by
  have := rowsOf_mem n p (fun x hx => by
    obtain ⟨j, hj, rfl⟩ := List.mem_iff_getElem.1 hx
    have h3 := hp.2.1 j (by rw [← hp.1]; exact hj)
    rw [List.getD_eq_getElem?_getD, List.getElem?_eq_getElem hj] at h3
    simp only [Option.getD_some] at h3
    exact ⟨(p[j]).toNat, by omega, by omega⟩)
  rwa [hp.1] at this
theorem Ind.many {n : Nat} {S : List (List Int)} (hS : ∀ g ∈ S, Pm n g) (h : Ind n S) : ∀ k, k ≤ S.length → ∃ L : List (List Int), L.Nodup ∧ 2 ^ k ≤ L.length ∧ ∀ x ∈ L, Gen n (S.take k) x
  | 0, _ => ⟨[idn n], by simp, by simp, fun x hx => by rw [List.mem_singleton] at hx; subst hx; exact .one⟩
  | k + 1, hk => by
    obtain ⟨L, h1, h2, h3⟩ := Ind.many hS h k (by omega)
    have e : S.take (k + 1) = S.take k ++ [S.getD k []] := by
      rw [List.take_succ_eq_append_getElem (by omega)]; simp [List.getD_eq_getElem?_getD, List.getElem?_eq_getElem (show k < S.length by omega)]
    have hg : S.getD k [] ∈ S := by
      rw [List.getD_eq_getElem?_getD, List.getElem?_eq_getElem (show k < S.length by omega)]; exact List.getElem_mem _
    have gp := hS _ hg
    have hSk : ∀ g ∈ S.take k, Pm n g := fun g hg => hS g (List.mem_of_mem_take hg)
    have hnot := h k (by omega)
    refine ⟨L ++ L.map fun x => comp x (S.getD k []), ?_, ?_, ?_⟩
    · refine List.nodup_append.2 ⟨h1, ?_, ?_⟩
      · rw [List.nodup_iff_pairwise_ne, List.pairwise_map]
        refine List.Pairwise.imp_of_mem (R := fun a b => a ≠ b) ?_ (List.nodup_iff_pairwise_ne.1 h1)
        intro a b ha hb hne e
        exact hne (((h3 a ha).pm hSk).right_inj ((h3 b hb).pm hSk) gp e)
      · intro x hx y hy exy
        obtain ⟨z, hz, rfl⟩ := List.mem_map.1 hy
        subst exy
        refine hnot ?_
        have zp := (h3 z hz).pm hSk
        have := Gen.prod hSk (Gen.inv hSk (h3 z hz)) (h3 _ hx)
        rwa [← zp.inv.assoc zp gp, zp.inv_comp, gp.idn_comp] at this
    · rw [List.length_append, List.length_map, Nat.pow_succ]; omega
    · intro x hx
      rw [e]
      rcases List.mem_append.1 hx with hx | hx
      · exact (h3 x hx).mono fun g hg => List.mem_append_left _ hg
      · obtain ⟨z, hz, rfl⟩ := List.mem_map.1 hx
        exact Gen.mul ((h3 z hz).mono fun g hg => List.mem_append_left _ hg) (by simp)
/-- A chain's rows of generators are short. -/
theorem Ind.short {n : Nat} {S : List (List Int)} (hn : n ≤ 20) (hS : ∀ g ∈ S, Pm n g) (h : Ind n S) : S.length ≤ 86 := by
  obtain ⟨L, h1, h2, h3⟩ := h.many hS S.length (Nat.le_refl _)
  have h4 := Go.Plain.nodup_le (rowsOf n n) L h1 (fun x hx => by
    have := (h3 x hx).pm (fun g hg => hS g (List.mem_of_mem_take hg))
    exact pm_rows this)
  rw [rowsOf_length] at h4
  have h5 : n ^ n ≤ 20 ^ 20 := Nat.le_trans (Nat.pow_le_pow_left hn n) (Nat.pow_le_pow_right (by decide) hn)
  refine Classical.byContradiction fun hc => ?_
  have h6 : 2 ^ 87 ≤ 2 ^ S.length := Nat.pow_le_pow_right (by decide) (by omega)
  have h7 : (20 : Nat) ^ 20 < 2 ^ 87 := by decide
  omega
def Ch.Ind (C : Ch) (n : Nat) : Prop := ∀ j, j < n → Go.Pm.Ind n (C.S j)

def Ch.addS (C : Ch) (i : Nat) (p : List Int) : Ch := ⟨fun j => if j = i then C.S i ++ [p] else C.S j, C.T⟩
def Ch.setT (C : Ch) (i k : Nat) (p : List Int) : Ch := ⟨C.S, fun j => if j = i then (fun y => if y = k then some p else C.T i y) else C.T j⟩
theorem Ch.addS_self (C : Ch) (i : Nat) (p : List Int) : (C.addS i p).S i = C.S i ++ [p] := by simp [Ch.addS]
theorem Ch.addS_ne (C : Ch) {i j : Nat} (p : List Int) (h : j ≠ i) : (C.addS i p).S j = C.S j := by simp [Ch.addS, h]
theorem Ch.setT_self (C : Ch) (i k : Nat) (p : List Int) (y : Nat) : (C.setT i k p).T i y = if y = k then some p else C.T i y := by simp [Ch.setT]
theorem Ch.setT_ne (C : Ch) {i j : Nat} (k : Nat) (p : List Int) (h : j ≠ i) : (C.setT i k p).T j = C.T j := by simp [Ch.setT, h]

/-- What adding p at the level l gives. -/
structure Ch.Add (n l : Nat) (C : Ch) (p : List Int) (C' : Ch) : Prop where
  eT : ∀ i, i < l → C'.T i = C.T i
  eS : ∀ i, i < l → C'.S i = C.S i
  wf : C'.WF n
  full : C'.Full n l
  mono : ∀ g, g ∈ C.S l → g ∈ C'.S l
  new : ∀ g, g ∈ C'.S l → g ∈ C.S l ∨ g = p
  has : C'.has (n - l) l p = true
  ind : C.Ind n → C'.Ind n

section
variable {C C0 C1 : Ch} {n l : Nat} {p : List Int} {q : List Int}

theorem Ch.WF.addS (w : C.WF n) (hp : Pm n p) (hf : fixB l p) : (C.addS l p).WF n :=
  ⟨w.t1, w.t0, fun i g hg => by
    by_cases h : i = l
    · subst h
      rw [Ch.addS_self] at hg
      rcases List.mem_append.1 hg with h | h
      · exact w.s1 _ _ h
      · rw [List.mem_singleton] at h; subst h; exact ⟨hp, hf⟩
    · rw [Ch.addS_ne _ _ h] at hg; exact w.s1 _ _ hg⟩
theorem Ch.WF.setT (w : C.WF n) {k : Nat} {t : List Int} (hk : k ≠ l) (ht : Pm n t) (hf : fixB l t) (he : img t l = k) : (C.setT l k t).WF n :=
  ⟨fun i y u hi hu => by
    by_cases h : i = l
    · subst h
      rw [Ch.setT_self] at hu
      split at hu
      · rename_i e; subst e; simp only [Option.some.injEq] at hu; subst hu; exact ⟨ht, hf, he⟩
      · exact w.t1 _ _ _ hi hu
    · rw [Ch.setT_ne _ _ _ h] at hu; exact w.t1 _ _ _ hi hu,
  fun i hi => by
    by_cases h : i = l
    · subst h; rw [Ch.setT_self, if_neg (fun e => hk e.symm)]; exact w.t0 _ hi
    · rw [Ch.setT_ne _ _ _ h]; exact w.t0 _ hi, w.s1⟩

/-- A new generator lies outside. -/
theorem Ch.Ind.addS (w : C.WF n) (hI : C.Ind n) (hF : C.Full n l) (hl : l < n) (hp : Pm n p) (hf : fixB l p) (hh : C.has (n - l) l p = false) : (C.addS l p).Ind n := fun j hj => by
  by_cases e : j = l
  · subst e
    rw [Ch.addS_self]
    refine (hI j hj).snoc fun hg => ?_
    rw [(Ch.has_iff w (n - j) j (by omega) hF p hp hf).2 hg] at hh
    simp at hh
  · rw [Ch.addS_ne _ _ e]; exact hI j hj
theorem Ch.Ind.short (w : C.WF n) (hI : C.Ind n) (hn : n ≤ 20) (hl : l < n) : (C.S l).length ≤ 86 := (hI l hl).short hn (w.gpm l)
theorem Ch.cnt_setT {k : Nat} {t : List Int} (hk : k < n) (h0 : C.T l k = none) : (C.setT l k t).cnt n l = C.cnt n l + 1 := by
  have key : ∀ m, (List.range m).countP (fun y => ((C.setT l k t).T l y).isSome) = (List.range m).countP (fun y => (C.T l y).isSome) + if k < m then 1 else 0 := by
    intro m
    induction m with
    | zero => simp
    | succ m ih =>
      rw [List.range_succ, List.countP_append, List.countP_append, ih]
      simp only [List.countP_cons, List.countP_nil, Ch.setT_self]
      by_cases h1 : m = k
      · subst h1; simp [h0]
      · simp only [if_neg h1]
        by_cases h2 : k < m
        · simp only [if_pos h2, if_pos (show k < m + 1 by omega)]; omega
        · simp only [if_neg h2, if_neg (show ¬ k < m + 1 by omega)]; omega
  unfold Ch.cnt
  rw [key, if_pos hk]
theorem Ch.cnt_le_n : C.cnt n l ≤ n := by
  unfold Ch.cnt
  exact Nat.le_trans List.countP_le_length (by simp)

/-- The orbit grows: q are the points that are still to be looked at. -/
structure Ph1 (n l : Nat) (C0 C : Ch) (q : List Int) : Prop where
  wf : C.WF n
  eT : ∀ i, i ≠ l → C.T i = C0.T i
  eS : C.S = C0.S
  tg : ∀ y t, C.T l y = some t → Gen n (C0.S l) t
  q1 : ∀ x, x ∈ q → ∃ y : Nat, y < n ∧ x = (y : Int) ∧ (C.T l y).isSome = true
  cl : ∀ y, (C.T l y).isSome = true → (y : Int) ∈ q ∨ ∀ g, g ∈ C0.S l → (C.T l (img g y)).isSome = true

theorem Ph1.lt (h : Ph1 n l C0 C q) (hl : l < n) {y : Nat} (hy : (C.T l y).isSome = true) : y < n := by
  cases e : C.T l y with
  | none => rw [e] at hy; simp at hy
  | some t => obtain ⟨h1, _, h3⟩ := h.wf.t1 l y t hl e; rw [← h3]; exact h1.img_lt hl
theorem Ph1.init (w : C.WF n) (hF : C.Full n l) (hl : l < n) (hp : Pm n p) (hf : fixB l p) (hq : ∀ x, x ∈ q ↔ ∃ y : Nat, y < n ∧ x = (y : Int) ∧ (C.T l y).isSome = true) : Ph1 n l (C.addS l p) (C.addS l p) q :=
  ⟨w.addS hp hf, fun _ _ => rfl, rfl, fun y t ht => ((hF l (Nat.le_refl _) hl).tg y t ht).mono (fun g hg => by rw [Ch.addS_self]; exact List.mem_append_left _ hg),
    fun x hx => (hq x).1 hx, fun y hy => .inl ((hq y).2 ⟨y, by
      cases e : C.T l y with
      | none => have : (C.T l y).isSome = true := hy; rw [e] at this; simp at this
      | some t => obtain ⟨h1, _, h3⟩ := w.t1 l y t hl e; rw [← h3]; exact h1.img_lt hl, rfl, hy⟩)⟩
theorem Ph1.push (h : Ph1 n l C0 C q) (hl : l < n) {y : Nat} {t g : List Int} (ht : C.T l y = some t) (hg : g ∈ C0.S l) (hn : C.T l (img g y) = none) : Ph1 n l C0 (C.setT l (img g y) (comp t g)) (q ++ [((img g y : Nat) : Int)]) := by
  obtain ⟨t1, t2, t3⟩ := h.wf.t1 l y t hl ht
  obtain ⟨g1, g2⟩ := h.wf.s1 l g (by rw [h.eS]; exact hg)
  have hyn : y < n := h.lt hl (by rw [ht]; rfl)
  have hSp : ∀ x, x ∈ C0.S l → Pm n x := fun x hx => (h.wf.s1 l x (by rw [h.eS]; exact hx)).1
  have hne : img g y ≠ l := fun e => by rw [e, h.wf.t0 l hl] at hn; simp at hn
  refine ⟨h.wf.setT hne (t1.comp g1) (fixB.comp t1 (by omega) t2 g2) (by rw [t1.cimg hl, t3]), fun i hi => by rw [Ch.setT_ne _ _ _ hi]; exact h.eT i hi, h.eS, ?_, ?_, ?_⟩
  · intro z u hu
    rw [Ch.setT_self] at hu
    split at hu
    · simp only [Option.some.injEq] at hu; subst hu
      exact Gen.prod hSp (h.tg y t ht) (Gen.of hSp hg)
    · exact h.tg z u hu
  · intro x hx
    rcases List.mem_append.1 hx with hx | hx
    · obtain ⟨z, h1, h2, h3⟩ := h.q1 x hx
      refine ⟨z, h1, h2, ?_⟩
      rw [Ch.setT_self]; split
      · rfl
      · exact h3
    · rw [List.mem_singleton] at hx
      exact ⟨_, g1.img_lt hyn, hx, by rw [Ch.setT_self, if_pos rfl]; rfl⟩
  · intro z hz
    rw [Ch.setT_self] at hz
    split at hz
    · rename_i e; subst e; exact .inl (List.mem_append_right _ (by simp))
    · rcases h.cl z hz with h1 | h1
      · exact .inl (List.mem_append_left _ h1)
      · refine .inr fun x hx => ?_
        rw [Ch.setT_self]; split
        · rfl
        · exact h1 x hx
theorem Ph1.pop {y : Nat} (h : Ph1 n l C0 C ((y : Int) :: q)) (hd : ∀ g, g ∈ C0.S l → (C.T l (img g y)).isSome = true) : Ph1 n l C0 C q :=
  ⟨h.wf, h.eT, h.eS, h.tg, fun x hx => h.q1 x (List.mem_cons_of_mem _ hx), fun z hz => by
    rcases h.cl z hz with h1 | h1
    · rcases List.mem_cons.1 h1 with h2 | h2
      · have e : z = y := by omega
        subst e; exact .inr hd
      · exact .inl h2
    · exact .inr h1⟩

/-- The quotient that a point and a generator give. -/
def Ch.quo (C : Ch) (l y : Nat) (g : List Int) : List Int := comp (comp ((C.T l y).getD []) g) (invp ((C.T l (img g y)).getD []))

/-- The orbit stands; the quotients are added one by one. -/
structure Ph2 (n l : Nat) (C0 C : Ch) : Prop where
  wf : C.WF n
  eT : ∀ i, i ≤ l → C.T i = C0.T i
  eS : ∀ i, i ≤ l → C.S i = C0.S i
  full : C.Full n (l + 1)
  tg : ∀ y t, C0.T l y = some t → Gen n (C0.S l) t
  cl : ∀ y g, (C0.T l y).isSome = true → g ∈ C0.S l → (C0.T l (img g y)).isSome = true
  sg : ∀ g, g ∈ C.S (l + 1) → Gen n (C0.S l) g
  ind : C.Ind n

theorem Ch.Full.of_eq (h : C0.Full n l) (eT : ∀ i, l ≤ i → C.T i = C0.T i) (eS : ∀ i, l ≤ i → C.S i = C0.S i) : C.Full n l := fun j hj hjn => by
  have o := h j hj hjn
  refine ⟨?_, ?_, ?_⟩
  · intro y t g ht hg
    rw [eT j hj] at ht ⊢
    rw [eS j hj] at hg
    obtain ⟨u, h1, h2⟩ := o.cl y t g ht hg
    exact ⟨u, h1, by rw [Ch.has_congr _ _ _ (fun i hi => eT i (by omega))]; exact h2⟩
  · intro y t ht
    rw [eT j hj] at ht
    rw [eS j hj]
    exact o.tg y t ht
  · intro g hg
    rw [eS (j + 1) (by omega)] at hg
    rw [eS j hj]
    exact o.sg g hg

/-- The start: C1 is the chain with the generator, C the one whose orbit is closed. -/
theorem Ph2.init (w0 : C1.WF n) (hF : C1.Full n l) (hl : l < n) (hp : Pm n p) (hf : fixB l p) (hI : (C1.addS l p).Ind n) (h : Ph1 n l (C1.addS l p) C []) : Ph2 n l C C := by
  have e1 : ∀ i, l + 1 ≤ i → C.T i = C1.T i := fun i hi => h.eT i (by omega)
  have e2 : ∀ i, l + 1 ≤ i → C.S i = C1.S i := fun i hi => by rw [h.eS, Ch.addS_ne _ _ (by omega)]
  have hS : C.S l = C1.S l ++ [p] := by rw [h.eS, Ch.addS_self]
  have hF1 : C1.Full n (l + 1) := fun j hj hjn => hF j (by omega) hjn
  refine ⟨h.wf, fun _ _ => rfl, fun _ _ => rfl, hF1.of_eq e1 e2, ?_, ?_, ?_, ?_⟩
  · intro y t ht; rw [h.eS]; exact h.tg y t ht
  · intro y g hy hg
    rcases h.cl y hy with h1 | h1
    · simp at h1
    · exact h1 g (by rw [← h.eS]; exact hg)
  · intro g hg
    rw [e2 (l + 1) (by omega)] at hg
    rw [hS]
    exact ((hF l (Nat.le_refl _) hl).sg g hg).mono fun x hx => List.mem_append_left _ hx
  · intro j hj; rw [h.eS]; exact hI j hj

theorem Ph2.quo_fix (h : Ph2 n l C0 C) (hl : l < n) {y : Nat} {g : List Int} (hy : (C0.T l y).isSome = true) (hg : g ∈ C0.S l) : Pm n (C0.quo l y g) ∧ fixB (l + 1) (C0.quo l y g) ∧ Gen n (C0.S l) (C0.quo l y g) := by
  have hu := h.cl y g hy hg
  have hpmS : ∀ x, x ∈ C0.S l → Pm n x := fun x hx => (h.wf.s1 l x (by rw [h.eS l (Nat.le_refl _)]; exact hx)).1
  cases e : C0.T l y with
  | none => rw [e] at hy; simp at hy
  | some t =>
    cases e2 : C0.T l (img g y) with
    | none => rw [e2] at hu; simp at hu
    | some u =>
      have w1 := h.wf.t1 l y t hl (by rw [h.eT l (Nat.le_refl _)]; exact e)
      have w2 := h.wf.t1 l _ u hl (by rw [h.eT l (Nat.le_refl _)]; exact e2)
      have wg := h.wf.s1 l g (by rw [h.eS l (Nat.le_refl _)]; exact hg)
      unfold Ch.quo
      rw [e, e2]
      simp only [Option.getD_some]
      refine ⟨(w1.1.comp wg.1).comp w2.1.inv, fixB.quot (w1.1.comp wg.1) w2.1 hl (fixB.comp w1.1 (by omega) w1.2.1 wg.2) w2.2.1 (by rw [w2.2.2, w1.1.cimg hl, w1.2.2]), ?_⟩
      exact Gen.prod hpmS (Gen.prod hpmS (h.tg y t e) (Gen.of hpmS hg)) (Gen.inv hpmS (h.tg _ u e2))
/-- One quotient more. -/
theorem Ph2.step (h : Ph2 n l C0 C) {x : List Int} (hx : Gen n (C0.S l) x) (a : Ch.Add n (l + 1) C x C1) : Ph2 n l C0 C1 :=
  ⟨a.wf, fun i hi => by rw [a.eT i (by omega)]; exact h.eT i hi, fun i hi => by rw [a.eS i (by omega)]; exact h.eS i hi, a.full, h.tg, h.cl, fun g hg => by
    rcases a.new g hg with h1 | rfl
    · exact h.sg g h1
    · exact hx, a.ind h.ind⟩
theorem Ph2.keep (h : Ph2 n l C0 C) (hl : l < n) {x : List Int} (a : Ch.Add n (l + 1) C x C1) {z : List Int} (hz : Pm n z) (hf : fixB (l + 1) z) (hh : C.has (n - (l + 1)) (l + 1) z = true) : C1.has (n - (l + 1)) (l + 1) z = true :=
  Ch.has_mono h.wf a.wf (by omega) h.full a.full a.mono hz hf hh
/-- The end: all quotients are there. -/
theorem Ph2.fin (h : Ph2 n l C0 C) (hl : l < n) (hd : ∀ y g, (C0.T l y).isSome = true → g ∈ C0.S l → C.has (n - (l + 1)) (l + 1) (C0.quo l y g) = true) : C.Full n l := fun j hj hjn => by
  by_cases e : j = l
  · subst e
    refine ⟨?_, ?_, ?_⟩
    · intro y t g ht hg
      rw [h.eT j (Nat.le_refl _)] at ht
      rw [h.eS j (Nat.le_refl _)] at hg
      have h1 := h.cl y g (by rw [ht]; rfl) hg
      have h2 := hd y g (by rw [ht]; rfl) hg
      cases e2 : C0.T j (img g y) with
      | none => rw [e2] at h1; simp at h1
      | some u =>
        unfold Ch.quo at h2
        rw [ht, e2] at h2
        exact ⟨u, by rw [h.eT j (Nat.le_refl _)]; exact e2, h2⟩
    · intro y t ht
      rw [h.eT j (Nat.le_refl _)] at ht
      rw [h.eS j (Nat.le_refl _)]
      exact h.tg y t ht
    · intro g hg
      rw [h.eS j (Nat.le_refl _)]
      exact h.sg g hg
  · exact h.full j (by omega) hjn
/-- What was asked for. -/
theorem Ph2.add {C2 : Ch} (w0 : C1.WF n) (hl : l < n) (hp : Pm n p) (hf : fixB l p) (h1 : Ph1 n l (C1.addS l p) C0 []) (h : Ph2 n l C0 C2) (hF : C2.Full n l) : Ch.Add n l C1 p C2 := by
  have hS : C2.S l = C1.S l ++ [p] := by rw [h.eS l (Nat.le_refl _), h1.eS, Ch.addS_self]
  refine ⟨fun i hi => by rw [h.eT i (by omega), h1.eT i (by omega)]; rfl, fun i hi => by rw [h.eS i (by omega), h1.eS, Ch.addS_ne _ _ (by omega)], h.wf, hF, fun g hg => by rw [hS]; exact List.mem_append_left _ hg, fun g hg => by rw [hS] at hg; simpa using hg, ?_, fun _ => h.ind⟩
  refine (Ch.has_iff h.wf (n - l) l (by omega) hF p hp hf).2 (Gen.of (h.wf.gpm l) (by rw [hS]; simp))
theorem Ch.Add.none (w : C.WF n) (hF : C.Full n l) (h : C.has (n - l) l p = true) : Ch.Add n l C p C :=
  ⟨fun _ _ => rfl, fun _ _ => rfl, w, hF, fun _ h => h, fun _ h => .inl h, h, id⟩
theorem Ch.Add.gen {S : List (List Int)} (a : Ch.Add n 0 C p C1) (hp : Pm n p) (hS : ∀ g ∈ S, Pm n g) (h : ∀ g, Gen n S g ↔ Gen n (C.S 0) g) : ∀ g, Gen n (S ++ [p]) g ↔ Gen n (C1.S 0) g := by
  have hS1 : ∀ g ∈ S ++ [p], Pm n g := fun g hg => by
    rcases List.mem_append.1 hg with hg | hg
    · exact hS g hg
    · rw [List.mem_singleton] at hg; subst hg; exact hp
  intro g
  constructor
  · intro hg
    refine hg.sub (a.wf.gpm 0) fun x hx => ?_
    rcases List.mem_append.1 hx with hx | hx
    · exact ((h x).1 (Gen.of hS hx)).mono a.mono
    · rw [List.mem_singleton] at hx; subst hx
      exact (Ch.has_iff a.wf n 0 (by omega) a.full _ hp (fun j hj => by omega)).1 a.has
  · intro hg
    refine hg.sub hS1 fun x hx => ?_
    rcases a.new x hx with hx | rfl
    · refine ((h x).2 ?_).mono fun y hy => List.mem_append_left _ hy
      refine Gen.of (fun y hy => ?_) hx
      exact a.wf.gpm 0 y (a.mono y hy)
    · exact Gen.of hS1 (by simp)
end
end Go.Pm
end
/- Extending a stabilizer chain product by product. -/
section
namespace Go.Pm
set_option linter.unusedVariables false

/-- The chain is sound from level l on, and full below it. -/
structure Spc (n l : Nat) (C : Ch) : Prop where
  wf : C.WF n
  full : C.Full n (l + 1)
  ind : C.Ind n
  tg : ∀ y t, C.T l y = some t → Gen n (C.S l) t
  sg : ∀ g, g ∈ C.S (l + 1) → Gen n (C.S l) g

/-- C' comes of C by products at level l. -/
structure Run (n l : Nat) (C C' : Ch) : Prop where
  eT : ∀ i, i < l → C'.T i = C.T i
  eS : ∀ i, i ≤ l → C'.S i = C.S i
  ok : Spc n l C'
  ext : ∀ y t, C.T l y = some t → C'.T l y = some t
  mono : ∀ g, g ∈ C.S (l + 1) → g ∈ C'.S (l + 1)
  newd : ∀ y t g, C'.T l y = some t → C.T l y = none → g ∈ C.S l → C'.has (n - l) l (comp t g) = true

section
variable {n l : Nat} {C C' C'' : Ch} {x z : List Int}

theorem Ch.has_step (C : Ch) (hl : l < n) (z : List Int) : C.has (n - l) l z = match C.T l (img z l) with | none => false | some t => C.has (n - (l + 1)) (l + 1) (comp z (invp t)) := by
  rw [show n - l = (n - (l + 1)) + 1 by omega]; rfl
theorem Run.refl (h : Spc n l C) : Run n l C C := ⟨fun _ _ => rfl, fun _ _ => rfl, h, fun _ _ h => h, fun _ h => h, fun y t g h1 h2 => by rw [h1] at h2; simp at h2⟩
theorem Run.keep (r : Run n l C C') (h : Spc n l C) (hl : l < n) (hz : Pm n z) (hf : fixB l z) (hh : C.has (n - l) l z = true) : C'.has (n - l) l z = true := by
  rw [Ch.has_step C hl] at hh
  rw [Ch.has_step C' hl]
  cases e : C.T l (img z l) with
  | none => rw [e] at hh; simp at hh
  | some t =>
    rw [e] at hh
    rw [r.ext _ _ e]
    obtain ⟨t1, t2, t3⟩ := h.wf.t1 l _ t hl e
    exact Ch.has_mono h.wf r.ok.wf (by omega) h.full r.ok.full r.mono (hz.comp t1.inv) (fixB.quot hz t1 hl hf t2 t3) hh
theorem Run.trans (r : Run n l C C') (q : Run n l C' C'') (hl : l < n) : Run n l C C'' := by
  refine ⟨fun i hi => by rw [q.eT i hi, r.eT i hi], fun i hi => by rw [q.eS i hi, r.eS i hi], q.ok, fun y t h => q.ext y t (r.ext y t h), fun g hg => q.mono g (r.mono g hg), ?_⟩
  intro y t g h1 h2 hg
  have hg' : g ∈ C'.S l := by rw [r.eS l (Nat.le_refl _)]; exact hg
  cases e : C'.T l y with
  | none => exact q.newd y t g h1 e hg'
  | some t' =>
    have e2 := q.ext y t' e
    rw [h1] at e2
    simp only [Option.some.injEq] at e2
    subst e2
    obtain ⟨t1, t2, _⟩ := r.ok.wf.t1 l y t hl e
    obtain ⟨g1, g2⟩ := r.ok.wf.s1 l g hg'
    exact q.keep r.ok hl (t1.comp g1) (fixB.comp t1 (by omega) t2 g2) (r.newd y t g e h2 hg)
theorem Spc.gpm (h : Spc n l C) : ∀ g ∈ C.S l, Pm n g := h.wf.gpm l
/-- The quotient by a representative that is there. -/
theorem Spc.quo (h : Spc n l C) (hl : l < n) (hx : Pm n x) (hf : fixB l x) (hg : Gen n (C.S l) x) {t : List Int} (ht : C.T l (img x l) = some t) : Pm n (comp x (invp t)) ∧ fixB (l + 1) (comp x (invp t)) ∧ Gen n (C.S l) (comp x (invp t)) := by
  obtain ⟨t1, t2, t3⟩ := h.wf.t1 l _ t hl ht
  exact ⟨hx.comp t1.inv, fixB.quot hx t1 hl hf t2 t3, Gen.prod h.gpm hg (Gen.inv h.gpm (h.tg _ _ ht))⟩
/-- .. given to the level above. -/
theorem Run.up (h : Spc n l C) (hl : l < n) {t : List Int} (ht : C.T l (img x l) = some t) (hg : Gen n (C.S l) (comp x (invp t))) (a : Ch.Add n (l + 1) C (comp x (invp t)) C') : Run n l C C' ∧ C'.has (n - l) l x = true := by
  have eT : C'.T l = C.T l := a.eT l (by omega)
  have eS : C'.S l = C.S l := a.eS l (by omega)
  refine ⟨⟨fun i hi => a.eT i (by omega), fun i hi => a.eS i (by omega), ⟨a.wf, a.full, a.ind h.ind, fun y u hu => ?_, fun g hg' => ?_⟩, fun y u hu => by rw [eT]; exact hu, a.mono, fun y u g h1 h2 => by rw [eT, h2] at h1; simp at h1⟩, ?_⟩
  · rw [eT] at hu; rw [eS]; exact h.tg y u hu
  · rw [eS]
    rcases a.new g hg' with h1 | rfl
    · exact h.sg g h1
    · exact hg
  · rw [Ch.has_step C' hl, eT, ht]; exact a.has
/-- A new representative. -/
theorem Spc.set (h : Spc n l C) (hl : l < n) (hx : Pm n x) (hf : fixB l x) (hg : Gen n (C.S l) x) (hn : C.T l (img x l) = none) : Spc n l (C.setT l (img x l) x) := by
  have hne : img x l ≠ l := fun e => by rw [e, h.wf.t0 l hl] at hn; simp at hn
  refine ⟨h.wf.setT hne hx hf rfl, h.full.of_eq (fun i hi => Ch.setT_ne _ _ _ (by omega)) (fun _ _ => rfl), h.ind, fun y t ht => ?_, h.sg⟩
  rw [Ch.setT_self] at ht
  split at ht
  · simp only [Option.some.injEq] at ht; subst ht; exact hg
  · exact h.tg y t ht
theorem Ch.has_idn (w : C.WF n) (hF : C.Full n (l + 1)) (hl : l < n) : C.has (n - (l + 1)) (l + 1) (idn n) = true :=
  (Ch.has_iff w (n - (l + 1)) (l + 1) (by omega) hF _ (.idn n) (fixB.idn n _ (by omega))).2 .one
/-- .. and all its products. -/
theorem Run.set (h : Spc n l C) (hl : l < n) (hx : Pm n x) (hf : fixB l x) (hn : C.T l (img x l) = none) (r : Run n l (C.setT l (img x l) x) C') (hd : ∀ g, g ∈ C.S l → C'.has (n - l) l (comp x g) = true) : Run n l C C' ∧ C'.has (n - l) l x = true := by
  have hx' : C'.T l (img x l) = some x := r.ext _ _ (by rw [Ch.setT_self, if_pos rfl])
  refine ⟨⟨fun i hi => by rw [r.eT i hi, Ch.setT_ne _ _ _ (by omega)], r.eS, r.ok, fun y t ht => r.ext y t ?_, r.mono, ?_⟩, ?_⟩
  · rw [Ch.setT_self, if_neg (fun e => by rw [e, hn] at ht; simp at ht)]; exact ht
  · intro y t g h1 h2 hg
    by_cases e : y = img x l
    · subst e
      rw [hx'] at h1
      simp only [Option.some.injEq] at h1
      subst h1
      exact hd g hg
    · exact r.newd y t g h1 (by rw [Ch.setT_self, if_neg e]; exact h2) hg
  · rw [Ch.has_step C' hl, hx']
    dsimp only
    rw [hx.comp_inv]
    exact Ch.has_idn r.ok.wf r.ok.full hl
theorem Run.cnt (r : Run n l C C') : C.cnt n l ≤ C'.cnt n l := by
  unfold Ch.cnt
  refine List.countP_mono_left fun y _ hy => ?_
  obtain ⟨t, ht⟩ := Option.isSome_iff_exists.1 hy
  rw [r.ext y t ht]; rfl

/-- The chain with one generator more, before the products. -/
theorem Spc.start {p : List Int} (w : C.WF n) (hF : C.Full n l) (hI : C.Ind n) (hl : l < n) (hp : Pm n p) (hf : fixB l p) (hh : C.has (n - l) l p = false) : Spc n l (C.addS l p) := by
  have e2 : ∀ i, l + 1 ≤ i → (C.addS l p).S i = C.S i := fun i hi => Ch.addS_ne _ _ (by omega)
  refine ⟨w.addS hp hf, Ch.Full.of_eq (fun j hj hjn => hF j (by omega) hjn) (fun _ _ => rfl) e2, hI.addS w hF hl hp hf hh, fun y t ht => ?_, fun g hg => ?_⟩
  · exact ((hF l (Nat.le_refl _) hl).tg y t ht).mono fun g hg => by rw [Ch.addS_self]; exact List.mem_append_left _ hg
  · rw [e2 (l + 1) (by omega)] at hg
    exact ((hF l (Nat.le_refl _) hl).sg g hg).mono fun g hg => by rw [Ch.addS_self]; exact List.mem_append_left _ hg
/-- The products of all old representatives with the new generator are there: the generator is in. -/
theorem Run.fin {p : List Int} (w : C.WF n) (hF : C.Full n l) (hl : l < n) (hp : Pm n p) (hf : fixB l p) (s : Spc n l (C.addS l p)) (r : Run n l (C.addS l p) C') (hd : ∀ y t, C.T l y = some t → C'.has (n - l) l (comp t p) = true) : Ch.Add n l C p C' := by
  have hS : C'.S l = C.S l ++ [p] := by rw [r.eS l (Nat.le_refl _), Ch.addS_self]
  have hFull : C'.Full n l := fun j hj hjn => by
    by_cases e : j = l
    · subst e
      have key : ∀ y t g, C'.T j y = some t → g ∈ C'.S j → C'.has (n - j) j (comp t g) = true := by
        intro y t g ht hg
        cases e1 : C.T j y with
        | none => exact r.newd y t g ht e1 (by rw [Ch.addS_self, ← hS]; exact hg)
        | some t0 =>
          have e2 := r.ext y t0 e1
          rw [ht] at e2
          simp only [Option.some.injEq] at e2
          subst e2
          rw [hS] at hg
          rcases List.mem_append.1 hg with hg | hg
          · obtain ⟨u, h1, h2⟩ := (hF j (Nat.le_refl _) hjn).cl y t g e1 hg
            obtain ⟨t1, t2, t3⟩ := w.t1 j y t hjn e1
            obtain ⟨g1, g2⟩ := w.s1 j g hg
            have h3 : (C.addS j p).has (n - j) j (comp t g) = true := by
              rw [Ch.has_step _ hjn, t1.cimg hjn, t3]
              show (match C.T j (img g y) with | none => false | some t' => _) = true
              rw [h1]
              dsimp only
              refine Ch.has_mono w s.wf (by omega) (fun i hi hin => hF i (by omega) hin) s.full (fun g hg => by rw [Ch.addS_ne _ _ (by omega)]; exact hg) ?_ ?_ h2
              · exact (t1.comp g1).comp (w.t1 j _ u hjn h1).1.inv
              · exact fixB.quot (t1.comp g1) (w.t1 j _ u hjn h1).1 hjn (fixB.comp t1 (by omega) t2 g2) (w.t1 j _ u hjn h1).2.1 (by rw [(w.t1 j _ u hjn h1).2.2, t1.cimg hjn, t3])
            exact r.keep s hjn (t1.comp g1) (fixB.comp t1 (by omega) t2 g2) h3
          · rw [List.mem_singleton] at hg; subst hg
            exact hd y t e1
      refine ⟨fun y t g ht hg => ?_, r.ok.tg, r.ok.sg⟩
      have h1 := key y t g ht hg
      obtain ⟨t1, t2, t3⟩ := r.ok.wf.t1 j y t hjn ht
      rw [Ch.has_step _ hjn, t1.cimg hjn, t3] at h1
      cases e3 : C'.T j (img g y) with
      | none => rw [e3] at h1; simp at h1
      | some u => rw [e3] at h1; exact ⟨u, rfl, h1⟩
    · exact r.ok.full j (by omega) hjn
  refine ⟨r.eT, fun i hi => by rw [r.eS i (by omega), Ch.addS_ne _ _ (by omega)], r.ok.wf, hFull, fun g hg => by rw [hS]; exact List.mem_append_left _ hg, fun g hg => by rw [hS] at hg; simpa using hg, ?_, fun _ => r.ok.ind⟩
  exact (Ch.has_iff r.ok.wf (n - l) l (by omega) hFull p hp hf).2 (Gen.of (r.ok.wf.gpm l) (by rw [hS]; simp))
end
end Go.Pm
end
/- Sorted indices over rows of numbers: the order of rows, where a row stands, how one is put in. -/
section
namespace Go.Pm
set_option linter.unusedVariables false
set_option linter.unusedSimpArgs false

def lx : List Int → List Int → Bool
  | x :: xs, y :: ys => if x = y then lx xs ys else decide (x < y)
  | _, _ => false
theorem lx_trans : ∀ {a b c : List Int}, lx a b = true → lx b c = true → lx a c = true
  | [], _, _, h, _ => by simp [lx] at h
  | _ :: _, [], _, h, _ => by simp [lx] at h
  | _ :: _, _ :: _, [], _, h => by simp [lx] at h
  | x :: xs, y :: ys, z :: zs, h, k => by
    unfold lx at h k ⊢
    by_cases h1 : x = y
    · subst h1
      by_cases h2 : x = z
      · subst h2; simp only [if_true] at h k ⊢; exact lx_trans h k
      · simp only [if_true, if_neg h2] at k ⊢; exact k
    · simp only [if_neg h1, decide_eq_true_eq] at h
      by_cases h2 : y = z
      · subst h2; rw [if_neg h1]; simpa using h
      · simp only [if_neg h2, decide_eq_true_eq] at k
        rw [if_neg (by omega)]; simp; omega
/-- The walk through two rows that agree so far. -/
theorem lx_drop {a b : List Int} (hl : a.length = b.length) {i : Nat} (h : i < a.length) (e : a.getD i 0 = b.getD i 0) : lx (a.drop i) (b.drop i) = lx (a.drop (i + 1)) (b.drop (i + 1)) := by
  have hb : i < b.length := by omega
  rw [List.drop_eq_getElem_cons h, List.drop_eq_getElem_cons hb]
  have : a[i] = b[i] := by simpa [List.getD_eq_getElem?_getD, h, hb] using e
  conv => lhs; unfold lx
  rw [if_pos this]
theorem lx_drop_ne {a b : List Int} (hl : a.length = b.length) {i : Nat} (h : i < a.length) (e : a.getD i 0 ≠ b.getD i 0) : lx (a.drop i) (b.drop i) = decide (a.getD i 0 < b.getD i 0) := by
  have hb : i < b.length := by omega
  rw [List.drop_eq_getElem_cons h, List.drop_eq_getElem_cons hb]
  have e1 : a.getD i 0 = a[i] := by simp [List.getD_eq_getElem?_getD, h]
  have e2 : b.getD i 0 = b[i] := by simp [List.getD_eq_getElem?_getD, hb]
  rw [e1, e2] at e ⊢
  conv => lhs; unfold lx
  rw [if_neg e]
theorem lx_drop_end {a b : List Int} {i : Nat} (h : a.length ≤ i) : lx (a.drop i) (b.drop i) = false := by
  rw [List.drop_eq_nil_of_le h]; rfl

/-- The j-th row in the sorted order. -/
def srow (xs : List (List Int)) (so : List Int) (j : Nat) : List Int := xs.getD (so.getD j 0).toNat []
structure Srt (m : Nat) (xs : List (List Int)) (so : List Int) : Prop where
  len : so.length = xs.length
  same : ∀ s ∈ xs, s.length = m
  rng : ∀ i, i < so.length → 0 ≤ so.getD i 0 ∧ so.getD i 0 < xs.length
  inc : ∀ i j, i < j → j < so.length → lx (srow xs so i) (srow xs so j) = true
  sur : ∀ k : Nat, k < xs.length → ∃ i, i < so.length ∧ so.getD i 0 = (k : Int)
/-- Where a row stands or would stand. -/
structure Slot (xs : List (List Int)) (so : List Int) (s : List Int) (a : Nat) : Prop where
  le : a ≤ so.length
  lo : ∀ i, i < a → lx (srow xs so i) s = true
  hi : ∀ i, a ≤ i → i < so.length → lx (srow xs so i) s = false
def slot (xs : List (List Int)) (so : List Int) (s : List Int) : Nat := so.findIdx fun j => !lx (xs.getD j.toNat []) s
/-- The index of a row, or -1. -/
def sidx (xs : List (List Int)) (s : List Int) : Int := if s ∈ xs then (xs.idxOf s : Int) else -1
section
variable {m : Nat} {xs : List (List Int)} {so : List Int} {s : List Int}
theorem Slot.eq {a : Nat} (h : Slot xs so s a) : slot xs so s = a := by
  unfold slot
  by_cases e : a < so.length
  · refine (List.findIdx_eq e).2 ⟨?_, fun j hj => ?_⟩
    · have := h.hi a (Nat.le_refl _) e
      unfold srow at this
      rw [List.getD_eq_getElem?_getD (l := so), List.getElem?_eq_getElem e, Option.getD_some] at this
      rw [this]; rfl
    · have := h.lo j hj
      have hj' : j < so.length := by omega
      unfold srow at this
      rw [List.getD_eq_getElem?_getD (l := so), List.getElem?_eq_getElem hj', Option.getD_some] at this
      rw [this]; rfl
  · have ha : a = so.length := by have := h.le; omega
    subst ha
    refine List.findIdx_eq_length.2 fun j hj => ?_
    obtain ⟨i, hi, rfl⟩ := List.getElem_of_mem hj
    have := h.lo i hi
    unfold srow at this
    rw [List.getD_eq_getElem?_getD (l := so), List.getElem?_eq_getElem hi, Option.getD_some] at this
    rw [this]; rfl
theorem mem_getD {l : List (List Int)} {i : Nat} (h : i < l.length) : l.getD i [] ∈ l := by
  rw [List.getD_eq_getElem?_getD, List.getElem?_eq_getElem h]; exact List.getElem_mem h
theorem Srt.row (h : Srt m xs so) {i : Nat} (hi : i < so.length) : srow xs so i ∈ xs := by
  have := h.rng i hi
  exact mem_getD (by omega)
theorem Srt.slot (h : Srt m xs so) (s : List Int) : Slot xs so s (Go.Pm.slot xs so s) := by
  unfold Go.Pm.slot
  have g : ∀ i, i < so.length → so.getD i 0 = so[i]! := fun i hi => by simp [List.getD_eq_getElem?_getD, hi]
  refine ⟨List.findIdx_le_length, fun i hi => ?_, fun i hi hl => ?_⟩
  · have hl : i < so.length := Nat.lt_of_lt_of_le hi List.findIdx_le_length
    have := List.not_of_lt_findIdx hi
    unfold srow
    rw [List.getD_eq_getElem?_getD (l := so), List.getElem?_eq_getElem hl, Option.getD_some]
    simpa using this
  · have hf : so.findIdx (fun j => !lx (xs.getD j.toNat []) s) < so.length := by omega
    have h1 := List.findIdx_getElem (w := hf)
    have h2 : lx (srow xs so (so.findIdx fun j => !lx (xs.getD j.toNat []) s)) s = false := by
      unfold srow
      rw [List.getD_eq_getElem?_getD (l := so), List.getElem?_eq_getElem hf, Option.getD_some]
      simpa using h1
    rcases Nat.lt_or_eq_of_le hi with h3 | h3
    · cases e : lx (srow xs so i) s with
      | false => rfl
      | true => have := lx_trans (h.inc _ _ h3 hl) e; rw [h2] at this; cases this
    · rw [← h3]; exact h2
theorem Srt.below (h : Srt m xs so) {k : Nat} (hk : k < so.length) (e : lx (srow xs so k) s = true) : ∀ i, i < k + 1 → lx (srow xs so i) s = true := fun i hi => by
  by_cases h1 : i = k
  · subst h1; exact e
  · exact lx_trans (h.inc i k (by omega) hk) e
theorem Srt.above (h : Srt m xs so) {k : Nat} (e : lx (srow xs so k) s = false) : ∀ i, k ≤ i → i < so.length → lx (srow xs so i) s = false := fun i h1 h2 => by
  by_cases h3 : i = k
  · subst h3; exact e
  · cases e2 : lx (srow xs so i) s with
    | false => rfl
    | true => have := lx_trans (h.inc k i (by omega) h2) e2; rw [e] at this; cases this
def insAt (so : List Int) (a : Nat) (n : Int) : List Int := so.take a ++ n :: so.drop a
theorem Srt.one (s0 : List Int) : Srt s0.length [s0] [0] := by
  refine ⟨rfl, by simp, ?_, ?_, ?_⟩
  · intro i hi; simp at hi; subst hi; simp
  · intro i j hij hj; simp at hj; omega
  · intro k hk; simp at hk; subst hk; exact ⟨0, by simp, rfl⟩
end
end Go.Pm
end
/- The whole search: depths, neighbors, how many rows there are; the order of a group. -/
section
namespace Go.Pm
set_option linter.unusedVariables false
set_option linter.unusedSimpArgs false

section
variable {Ls : List (Int × List Int)} {s0 : List Int} {n : Nat}
/-- Depths: they do not fall; beside the state number k they are at most one more; each but the first has a parent. -/
structure Bf.Dp (Ls : List (Int × List Int)) (k : Nat) (B : Bf) : Prop where
  ld : B.dp.length = B.st.length
  z : B.dp.getD 0 0 = 0
  mono : ∀ i j, i ≤ j → j < B.st.length → B.dp.getD i 0 ≤ B.dp.getD j 0
  bd : k < B.st.length → ∀ j, j < B.st.length → B.dp.getD j 0 ≤ B.dp.getD k 0 + 1
  par : ∀ j, 0 < j → j < B.st.length → ∃ q l, q < j ∧ l ∈ Ls ∧ B.st.getD j [] = comp (B.st.getD q []) l.2 ∧ B.dp.getD j 0 = B.dp.getD q 0 + 1
theorem Bf.Dp.meet {k : Nat} {x : Bf × List Int} {l : Int × List Int} (hl : l ∈ Ls) (hk : k < x.1.st.length) (h : Bf.Dp Ls k x.1) : Bf.Dp Ls k (Bf.meet k x l).1 := by
  unfold Bf.meet
  split
  · exact h
  · have hld := h.ld
    have g : ∀ j, j < x.1.st.length → (x.1.dp ++ [x.1.dp.getD k 0 + 1]).getD j 0 = x.1.dp.getD j 0 := fun j hj => by
      rw [Go.Av.getD_append, if_pos (by omega)]
    have g1 : (x.1.dp ++ [x.1.dp.getD k 0 + 1]).getD x.1.st.length 0 = x.1.dp.getD k 0 + 1 := by
      rw [Go.Av.getD_append, if_neg (by omega), hld, Nat.sub_self]; rfl
    have s : ∀ j, j < x.1.st.length → (x.1.st ++ [comp (x.1.st.getD k []) l.2]).getD j [] = x.1.st.getD j [] := fun j hj => by
      rw [Go.Av.getD_append, if_pos (by omega)]
    refine ⟨by simp [hld], ?_, ?_, ?_, ?_⟩
    · rw [g 0 (by omega)]; exact h.z
    · intro i j hij hj
      simp only [List.length_append, List.length_cons, List.length_nil] at hj
      by_cases e : j = x.1.st.length
      · subst e
        rw [g1]
        by_cases e2 : i = x.1.st.length
        · subst e2; rw [g1]; exact Int.le_refl _
        · rw [g i (by omega)]; exact h.bd hk i (by omega)
      · rw [g i (by omega), g j (by omega)]; exact h.mono i j hij (by omega)
    · intro _ j hj
      simp only [List.length_append, List.length_cons, List.length_nil] at hj
      rw [g k hk]
      by_cases e : j = x.1.st.length
      · subst e; rw [g1]; exact Int.le_refl _
      · rw [g j (by omega)]; exact h.bd hk j (by omega)
    · intro j h0 hj
      simp only [List.length_append, List.length_cons, List.length_nil] at hj
      by_cases e : j = x.1.st.length
      · subst e
        refine ⟨k, l, hk, hl, ?_, by rw [g1, g k hk]⟩
        dsimp only
        rw [s k hk, Go.Av.getD_append, if_neg (by omega), Nat.sub_self]; rfl
      · obtain ⟨q, l', h1, h2, h3, h4⟩ := h.par j h0 (by omega)
        refine ⟨q, l', h1, h2, ?_, by rw [g j (by omega), g q (by omega)]; exact h4⟩
        dsimp only
        rw [s j (by omega), s q (by omega)]; exact h3
theorem Bf.Dp.rows {k : Nat} {B : Bf} (hk : k < B.st.length) (h : Bf.Dp Ls k B) : ∀ j, j ≤ Ls.length → Bf.Dp Ls k (B.rows Ls k j).1
  | 0, _ => h
  | j + 1, hj => by
    rw [Bf.rows_succ k B (by omega)]
    exact Bf.Dp.meet (mem_getD_of_lt _ (by omega)) (Nat.lt_of_lt_of_le hk ((Bf.rows_more k B j (by omega)).st.length_le)) (Bf.Dp.rows hk h j (by omega))
theorem Bf.Dp.next {k : Nat} {B : Bf} (hk : k < B.st.length) (h : Bf.Dp Ls k B) : Bf.Dp Ls (k + 1) (B.step Ls k) := by
  have h1 := Bf.Dp.rows hk h Ls.length (Nat.le_refl _)
  have h2 := (Bf.rows_more (Ls := Ls) k B Ls.length (Nat.le_refl _)).st.length_le
  refine ⟨h1.ld, h1.z, h1.mono, fun hk1 j hj => ?_, h1.par⟩
  have h3 := h1.bd (by omega) j hj
  have h4 := h1.mono k (k + 1) (by omega) hk1
  show (B.rows Ls k Ls.length).1.dp.getD j 0 ≤ (B.rows Ls k Ls.length).1.dp.getD (k + 1) 0 + 1
  omega
theorem Bf.Dp.run : ∀ k, (∀ j, j < k → j < (Bf.run Ls s0 j).st.length) → Bf.Dp Ls k (Bf.run Ls s0 k)
  | 0, _ => by
    refine ⟨rfl, rfl, ?_, ?_, ?_⟩
    · intro i j hij hj; simp [Bf.run] at hj; subst hj; obtain rfl : i = 0 := by omega
      exact Int.le_refl _
    · intro _ j hj; simp [Bf.run] at hj; subst hj; simp [Bf.run]
    · intro j h0 hj; simp [Bf.run] at hj; omega
  | k + 1, h => Bf.Dp.next (h k (by omega)) (Bf.Dp.run k fun j hj => h j (by omega))
/-- What the whole search gives. -/
structure Bf.Whole (n : Nat) (Ls : List (Int × List Int)) (s0 : List Int) (B : Bf) : Prop where
  nd : B.st.Nodup
  pos : 0 < B.st.length
  st0 : B.st.getD 0 [] = s0
  len : ∀ s ∈ B.st, s.length = s0.length
  rng : ∀ s ∈ B.st, ∀ j, j < s.length → 0 ≤ s.getD j 0 ∧ s.getD j 0 < n
  ld : B.dp.length = B.st.length
  z : B.dp.getD 0 0 = 0
  mono : ∀ i j, i ≤ j → j < B.st.length → B.dp.getD i 0 ≤ B.dp.getD j 0
  par : ∀ j, 0 < j → j < B.st.length → ∃ q l, q < j ∧ l ∈ Ls ∧ B.st.getD j [] = comp (B.st.getD q []) l.2 ∧ B.dp.getD j 0 = B.dp.getD q 0 + 1
  cl : ∀ s ∈ B.st, ∀ l ∈ Ls, comp s l.2 ∈ B.st
  up : ∀ k, k < B.st.length → ∀ l ∈ Ls, B.dp.getD (B.st.idxOf (comp (B.st.getD k []) l.2)) 0 ≤ B.dp.getD k 0 + 1
  nl : B.nx.length = B.st.length
  nx : ∀ k, k < B.st.length → (B.nx.getD k []).length = Ls.length ∧ ∀ i, i < Ls.length → (B.nx.getD k []).getD i 0 = ((B.st.idxOf (comp (B.st.getD k []) (Ls.getD i (0, [])).2) : Nat) : Int)
theorem Bf.nx_len : ∀ k, (∀ j, j < k → j < (Bf.run Ls s0 j).st.length) → (Bf.run Ls s0 k).nx.length = k
  | 0, _ => rfl
  | k + 1, h => by
    have ih := Bf.nx_len k fun j hj => h j (by omega)
    show ((Bf.run Ls s0 k).nx ++ [_]).length = k + 1
    rw [List.length_append, ih]; rfl
theorem Bf.nx_get : ∀ k i, i < k → (∀ j, j < k → j < (Bf.run Ls s0 j).st.length) → (Bf.run Ls s0 k).nx.getD i [] = ((Bf.run Ls s0 i).rows Ls i Ls.length).2
  | 0, i, hi, _ => by omega
  | k + 1, i, hi, h => by
    have hl := Bf.nx_len k fun j hj => h j (by omega)
    show ((Bf.run Ls s0 k).nx ++ [((Bf.run Ls s0 k).rows Ls k Ls.length).2]).getD i [] = _
    rw [Go.Av.getD_append]
    split
    · exact Bf.nx_get k i (by omega) fun j hj => h j (by omega)
    · rw [show i = k by omega, hl, Nat.sub_self]; rfl
theorem Bf.Done.whole (hG : ∀ g ∈ Ls.map (·.2), Pm n g) (hs : ∀ j, j < s0.length → 0 ≤ s0.getD j 0 ∧ s0.getD j 0 < n) {K : Nat} (h : Bf.Done Ls s0 K) : Bf.Whole n Ls s0 (Bf.run Ls s0 K) := by
  have hJ := Bf.J.run hG hs K h.2
  have hD := Bf.Dp.run (Ls := Ls) (s0 := s0) K h.2
  have hlen : ∀ s ∈ (Bf.run Ls s0 K).st, s.length = s0.length := fun s hm => by
    obtain ⟨g, hg, rfl⟩ := hJ.gen s hm
    exact comp_length _ _
  have hrow : ∀ k, k < K → ∀ i, i < Ls.length → comp ((Bf.run Ls s0 K).st.getD k []) (Ls.getD i (0, [])).2 ∈ (Bf.run Ls s0 (k + 1)).st ∧
      ((Bf.run Ls s0 k).rows Ls k Ls.length).2.getD i 0 = (((Bf.run Ls s0 K).st.idxOf (comp ((Bf.run Ls s0 K).st.getD k []) (Ls.getD i (0, [])).2) : Nat) : Int) := fun k hk i hi => by
    have hk1 := h.2 k hk
    obtain ⟨h1, h2⟩ := Bf.rows_row (Ls := Ls) hk1 Ls.length (Nat.le_refl _) i hi
    have e0 : (Bf.run Ls s0 K).st.getD k [] = (Bf.run Ls s0 k).st.getD k [] := pre_getD (Bf.run_more (show k ≤ K by omega)).st hk1 []
    rw [e0]
    refine ⟨h1, h2.trans ?_⟩
    have hm := (Bf.run_more (Ls := Ls) (s0 := s0) (show k + 1 ≤ K by omega)).st
    obtain ⟨r, hr⟩ := hm
    have h1' : comp ((Bf.run Ls s0 k).st.getD k []) (Ls.getD i (0, [])).2 ∈ (Bf.run Ls s0 (k + 1)).st := h1
    rw [← hr, List.idxOf_append, if_pos h1']; rfl
  have hKl := h.1
  refine ⟨hJ.nd, hJ.ne.2, hJ.ne.1, hlen, ?_, hD.ld, hD.z, hD.mono, hD.par, fun s hm l hl => h.closed hm hl, ?_, ?_, ?_⟩
  · intro s hm j hj
    obtain ⟨g, hg, rfl⟩ := hJ.gen s hm
    have hgp := hg.pm hG
    rw [comp_length] at hj
    rw [comp_get _ _ hj]
    have := hs j hj
    exact hgp.2.1 _ (by unfold img; omega)
  · intro k hk l hl
    obtain ⟨i, hi, rfl⟩ := List.getElem_of_mem hl
    have hkK : k < K := by omega
    obtain ⟨h1, h2⟩ := hrow k hkK i hi
    have eL : (Ls.getD i (0, [])) = Ls[i] := by rw [List.getD_eq_getElem?_getD, List.getElem?_eq_getElem hi]; rfl
    rw [eL] at h1
    have hD1 := Bf.Dp.run (Ls := Ls) (s0 := s0) k fun j hj => h.2 j (by omega)
    have hD2 := Bf.Dp.rows (Ls := Ls) (h.2 k hkK) hD1 Ls.length (Nat.le_refl _)
    have hl2 := (Bf.rows_more (Ls := Ls) k (Bf.run Ls s0 k) Ls.length (Nat.le_refl _)).st.length_le
    have hk1 := h.2 k hkK
    have hm := (Bf.run_more (Ls := Ls) (s0 := s0) (show k + 1 ≤ K by omega))
    obtain ⟨r, hr⟩ := hm.st
    have hx : (Bf.run Ls s0 K).st.idxOf (comp ((Bf.run Ls s0 K).st.getD k []) Ls[i].2) = (Bf.run Ls s0 (k + 1)).st.idxOf (comp ((Bf.run Ls s0 K).st.getD k []) Ls[i].2) := by
      rw [← hr] at h1 ⊢
      rw [List.idxOf_append, if_pos h1]
    have hlt : (Bf.run Ls s0 (k + 1)).st.idxOf (comp ((Bf.run Ls s0 K).st.getD k []) Ls[i].2) < (Bf.run Ls s0 (k + 1)).st.length := List.idxOf_lt_length_iff.2 h1
    rw [hx, pre_getD hm.dp (by show _ < ((Bf.run Ls s0 k).rows Ls k Ls.length).1.dp.length; rw [hD2.ld]; exact hlt) 0, pre_getD hm.dp (by show _ < ((Bf.run Ls s0 k).rows Ls k Ls.length).1.dp.length; rw [hD2.ld]; omega) 0]
    exact hD2.bd (by omega) _ hlt
  · rw [Bf.nx_len K h.2]; exact hKl
  · intro k hk
    rw [Bf.nx_get K k (by omega) h.2]
    exact ⟨Bf.rows_len k _ Ls.length (Nat.le_refl _), fun i hi => (hrow k (by omega) i hi).2⟩

/-- The search, if it ends with at most 3000 rows. -/
def Bf.Fin (Ls : List (Int × List Int)) (s0 : List Int) (B : Bf) : Prop := ∃ K, Bf.Done Ls s0 K ∧ K ≤ 3000 ∧ B = Bf.run Ls s0 K
theorem Bf.Fin.uniq {B B' : Bf} (h : Bf.Fin Ls s0 B) (h' : Bf.Fin Ls s0 B') : B = B' := by
  obtain ⟨K, h1, _, rfl⟩ := h
  obtain ⟨K', h2, _, rfl⟩ := h'
  rw [h1.uniq h2]
noncomputable def srch (Ls : List (Int × List Int)) (s0 : List Int) : Option Bf := @dite _ (∃ B, Bf.Fin Ls s0 B) (Classical.propDecidable _) (fun h => some h.choose) (fun _ => none)
theorem srch_some {B : Bf} (h : Bf.Fin Ls s0 B) : srch Ls s0 = some B := by
  have h' : ∃ B, Bf.Fin Ls s0 B := ⟨B, h⟩
  unfold srch
  rw [dif_pos h', h'.choose_spec.uniq h]
theorem srch_none (h : ∀ K, Bf.Done Ls s0 K → 3000 < K) : srch Ls s0 = none := by
  unfold srch
  rw [dif_neg]
  rintro ⟨B, K, h1, h2, _⟩
  have := h K h1; omega
theorem srch_fin {B : Bf} (h : srch Ls s0 = some B) : Bf.Fin Ls s0 B := by
  unfold srch at h
  split at h
  · rename_i h'
    simp only [Option.some.injEq] at h
    subst h
    exact h'.choose_spec
  · cases h
/-- The search is cut: there are more rows. -/
theorem Bf.cut {k i : Nat} (h : ∀ j, j ≤ k → j < (Bf.run Ls s0 j).st.length) (hi : i < Ls.length) (hn : comp (((Bf.run Ls s0 k).rows Ls k i).1.st.getD k []) (Ls.getD i (0, [])).2 ∉ ((Bf.run Ls s0 k).rows Ls k i).1.st) (h3 : 3000 ≤ ((Bf.run Ls s0 k).rows Ls k i).1.st.length) : srch Ls s0 = none := by
  refine srch_none fun K hK => ?_
  have hkK : k < K := by
    refine Nat.lt_of_not_le fun hle => ?_
    have := h K hle
    have := hK.1
    omega
  have h1 : ((Bf.run Ls s0 k).rows Ls k (i + 1)).1.st.length = ((Bf.run Ls s0 k).rows Ls k i).1.st.length + 1 := by
    rw [Bf.rows_succ k _ hi]
    unfold Bf.meet
    rw [if_neg hn]; simp
  have h2 : ∀ a b, a ≤ b → b ≤ Ls.length → ((Bf.run Ls s0 k).rows Ls k a).1.st.length ≤ ((Bf.run Ls s0 k).rows Ls k b).1.st.length := by
    intro a b hab
    induction b with
    | zero => intro _; rw [show a = 0 by omega]; exact Nat.le_refl _
    | succ b ih =>
      intro hb
      by_cases e : a = b + 1
      · rw [e]; exact Nat.le_refl _
      · have := ih (by omega) (by omega)
        rw [Bf.rows_succ k _ (by omega)]
        exact Nat.le_trans this (Bf.meet_more _ _ _).st.length_le
  have h4 := h2 (i + 1) Ls.length (by omega) (Nat.le_refl _)
  have h5 := (Bf.run_more (Ls := Ls) (s0 := s0) (show k + 1 ≤ K by omega)).st.length_le
  have h6 : (Bf.run Ls s0 (k + 1)).st.length = ((Bf.run Ls s0 k).rows Ls k Ls.length).1.st.length := rfl
  have := hK.1
  omega
theorem Bf.rows_mono {k a b : Nat} {B : Bf} (hab : a ≤ b) (hb : b ≤ Ls.length) : (B.rows Ls k a).1.st <+: (B.rows Ls k b).1.st := by
  induction b with
  | zero => rw [show a = 0 by omega]; exact List.prefix_refl _
  | succ b ih =>
    by_cases e : a = b + 1
    · rw [e]; exact List.prefix_refl _
    · refine (ih (by omega) (by omega)).trans ?_
      rw [Bf.rows_succ k _ (by omega)]
      exact (Bf.meet_more _ _ _).st
/-- Where the search is cut. -/
def Bf.CutAt (Ls : List (Int × List Int)) (s0 : List Int) (k i : Nat) : Prop := (∀ j, j ≤ k → j < (Bf.run Ls s0 j).st.length) ∧ i < Ls.length ∧ comp (((Bf.run Ls s0 k).rows Ls k i).1.st.getD k []) (Ls.getD i (0, [])).2 ∉ ((Bf.run Ls s0 k).rows Ls k i).1.st ∧ ((Bf.run Ls s0 k).rows Ls k i).1.st.length = 3000
theorem Bf.CutAt.more {k i k' i' : Nat} (h : Bf.CutAt Ls s0 k i) (hi : i' ≤ Ls.length) (hl : k < k' ∨ (k = k' ∧ i < i')) : 3000 < ((Bf.run Ls s0 k').rows Ls k' i').1.st.length := by
  obtain ⟨h1, h2, h3, h4⟩ := h
  have e : ((Bf.run Ls s0 k).rows Ls k (i + 1)).1.st.length = 3001 := by
    rw [Bf.rows_succ k _ h2]
    unfold Bf.meet
    rw [if_neg h3]; simp [h4]
  rcases hl with hl | ⟨rfl, hl⟩
  · have a1 := (Bf.rows_mono (Ls := Ls) (k := k) (B := Bf.run Ls s0 k) (show i + 1 ≤ Ls.length by omega) (Nat.le_refl _)).length_le
    have a2 : (Bf.run Ls s0 (k + 1)).st.length = ((Bf.run Ls s0 k).rows Ls k Ls.length).1.st.length := rfl
    have a3 := (Bf.run_more (Ls := Ls) (s0 := s0) (show k + 1 ≤ k' by omega)).st.length_le
    have a4 := (Bf.rows_mono (Ls := Ls) (k := k') (B := Bf.run Ls s0 k') (Nat.zero_le i') hi).length_le
    have a5 : ((Bf.run Ls s0 k').rows Ls k' 0).1.st.length = (Bf.run Ls s0 k').st.length := rfl
    omega
  · have a1 := (Bf.rows_mono (Ls := Ls) (k := k) (B := Bf.run Ls s0 k) (show i + 1 ≤ i' by omega) hi).length_le
    omega
theorem Bf.CutAt.uniq {k i k' i' : Nat} (h : Bf.CutAt Ls s0 k i) (h' : Bf.CutAt Ls s0 k' i') : k = k' ∧ i = i' := by
  rcases Nat.lt_trichotomy k k' with h1 | h1 | h1
  · have := h.more (i' := i') (Nat.le_of_lt h'.2.1) (.inl h1); have := h'.2.2.2; omega
  · refine ⟨h1, ?_⟩
    rcases Nat.lt_trichotomy i i' with h2 | h2 | h2
    · have := h.more (i' := i') (Nat.le_of_lt h'.2.1) (.inr ⟨h1, h2⟩); have := h'.2.2.2; omega
    · exact h2
    · have := h'.more (i' := i) (Nat.le_of_lt h.2.1) (.inr ⟨h1.symm, h2⟩); have := h.2.2.2; omega
  · have := h'.more (i' := i) (Nat.le_of_lt h.2.1) (.inl h1); have := h.2.2.2; omega
noncomputable def cutB (Ls : List (Int × List Int)) (s0 : List Int) : Bf := @dite _ (∃ X : Bf, ∃ k i, Bf.CutAt Ls s0 k i ∧ X = ((Bf.run Ls s0 k).rows Ls k i).1) (Classical.propDecidable _) (fun h => h.choose) (fun _ => ⟨[], [], [], [], []⟩)
theorem cutB_eq {k i : Nat} (h : Bf.CutAt Ls s0 k i) : cutB Ls s0 = ((Bf.run Ls s0 k).rows Ls k i).1 := by
  have h' : ∃ X : Bf, ∃ k i, Bf.CutAt Ls s0 k i ∧ X = ((Bf.run Ls s0 k).rows Ls k i).1 := ⟨_, k, i, h, rfl⟩
  unfold cutB
  rw [dif_pos h']
  obtain ⟨k', i', h1, e⟩ := h'.choose_spec
  obtain ⟨rfl, rfl⟩ := h1.uniq h
  exact e
theorem cutB_basic (hG : ∀ g ∈ Ls.map (·.2), Pm n g) (hs : ∀ j, j < s0.length → 0 ≤ s0.getD j 0 ∧ s0.getD j 0 < n) : (cutB Ls s0).st.length ≤ 3000 ∧ (cutB Ls s0).dp.length = (cutB Ls s0).st.length := by
  by_cases h : ∃ X : Bf, ∃ k i, Bf.CutAt Ls s0 k i ∧ X = ((Bf.run Ls s0 k).rows Ls k i).1
  · obtain ⟨X, k, i, hc, _⟩ := h
    rw [cutB_eq hc]
    obtain ⟨h1, h2, h3, h4⟩ := hc
    have hJ := Bf.J.run hG hs k fun j hj => h1 j (by omega)
    have hJ2 := Bf.J.rows (fun j hj => by have := hs j hj; unfold img; omega) hG (h1 k (Nat.le_refl _)) hJ i (Nat.le_of_lt h2)
    exact ⟨by omega, hJ2.ld⟩
  · unfold cutB
    rw [dif_neg h]
    exact ⟨by simp, rfl⟩
/-- Rows beside the search: at most as many as there are members. -/
theorem Bf.rows_le (hG : ∀ g ∈ Ls.map (·.2), Pm n g) {L : List (List Int)} (hL : ∀ g, Gen n (Ls.map (·.2)) g → g ∈ L) {k j : Nat} (h : ∀ j, j ≤ k → j < (Bf.run Ls (idn n) j).st.length) (hj : j ≤ Ls.length) : ((Bf.run Ls (idn n) k).rows Ls k j).1.st.length ≤ L.length := by
  have hs : ∀ j, j < (idn n).length → 0 ≤ (idn n).getD j 0 ∧ (idn n).getD j 0 < n := fun j hj => by
    rw [idn_length] at hj; rw [idn_get hj]; omega
  have h1 := Bf.J.run hG hs k fun j hj => h j (by omega)
  have h2 := Bf.J.rows (fun j hj => by have := hs j hj; unfold img; omega) hG (h k (Nat.le_refl _)) h1 j hj
  refine Go.Plain.nodup_le L _ h2.nd fun x hx => ?_
  obtain ⟨g, hg, rfl⟩ := h2.gen x hx
  rw [(hg.pm hG).idn_comp]
  exact hL g hg
theorem srch_group (hG : ∀ g ∈ Ls.map (·.2), Pm n g) {L : List (List Int)} (nd : L.Nodup) (hL : ∀ g, g ∈ L ↔ Gen n (Ls.map (·.2)) g) : (L.length ≤ 3000 → ∃ B, srch Ls (idn n) = some B ∧ B.st.length = L.length) ∧ (3000 < L.length → srch Ls (idn n) = none) := by
  have hs : ∀ j, j < (idn n).length → 0 ≤ (idn n).getD j 0 ∧ (idn n).getD j 0 < n := fun j hj => by
    rw [idn_length] at hj; rw [idn_get hj]; omega
  obtain ⟨K, hK⟩ := Bf.done_of_bound (L := L) hG hs fun g hg => by rw [(hg.pm hG).idn_comp]; exact (hL g).2 hg
  have hJ := Bf.J.run hG hs K hK.2
  have hm : ∀ s, s ∈ (Bf.run Ls (idn n) K).st ↔ s ∈ L := fun s => by
    rw [hK.mem hG hs s, hL]
    constructor
    · rintro ⟨g, hg, rfl⟩; rw [(hg.pm hG).idn_comp]; exact hg
    · intro hg; exact ⟨s, hg, ((hg.pm hG).idn_comp).symm⟩
  have h1 := Go.Plain.nodup_le L _ hJ.nd fun x hx => (hm x).1 hx
  have h2 := Go.Plain.nodup_le (Bf.run Ls (idn n) K).st _ nd fun x hx => (hm x).2 hx
  have h3 := hK.1
  refine ⟨fun hl => ⟨_, srch_some ⟨K, hK, by omega, rfl⟩, by omega⟩, fun hl => srch_none fun K' hK' => by rw [hK'.uniq hK]; omega⟩
end

section
variable {Ls : List (Int × List Int)} {s0 : List Int} {n : Nat}
theorem Bf.Dp.le {k : Nat} {B : Bf} (h : Bf.Dp Ls k B) : ∀ j, j < B.st.length → 0 ≤ B.dp.getD j 0 ∧ B.dp.getD j 0 ≤ j := by
  intro j
  induction j using Nat.strongRecOn with
  | _ j ih =>
    intro hj
    by_cases e : j = 0
    · subst e; rw [h.z]; omega
    · obtain ⟨q, l, h1, _, _, h4⟩ := h.par j (by omega) hj
      have := ih q h1 (by omega)
      omega
theorem Bf.Whole.le {B : Bf} (h : Bf.Whole n Ls s0 B) : ∀ j, j < B.st.length → 0 ≤ B.dp.getD j 0 ∧ B.dp.getD j 0 ≤ j := by
  intro j
  induction j using Nat.strongRecOn with
  | _ j ih =>
    intro hj
    by_cases e : j = 0
    · subst e; rw [h.z]; omega
    · obtain ⟨q, l, h1, _, _, h4⟩ := h.par j (by omega) hj
      have := ih q h1 (by omega)
      omega
/-- The sorted indices of rows. -/
def srtN (xs : List (List Int)) : Nat → List Int
  | 0 => []
  | k + 1 => insAt (srtN xs k) (slot (xs.take k) (srtN xs k) (xs.getD k [])) k
def sorts (xs : List (List Int)) : List Int := srtN xs xs.length
/-- What holds while the search goes on. -/
theorem Bf.mid (hG : ∀ g ∈ Ls.map (·.2), Pm n g) (hs : ∀ j, j < s0.length → 0 ≤ s0.getD j 0 ∧ s0.getD j 0 < n) {k : Nat} (h : ∀ j, j ≤ k → j < (Bf.run Ls s0 j).st.length) {i : Nat} (hi : i ≤ Ls.length) :
    Bf.J n Ls s0 ((Bf.run Ls s0 k).rows Ls k i).1 ∧ Bf.Dp Ls k ((Bf.run Ls s0 k).rows Ls k i).1 ∧ k < ((Bf.run Ls s0 k).rows Ls k i).1.st.length ∧ (∀ s ∈ ((Bf.run Ls s0 k).rows Ls k i).1.st, s.length = s0.length ∧ ∀ j, j < s.length → 0 ≤ s.getD j 0 ∧ s.getD j 0 < n) := by
  have h1 := Bf.J.run hG hs k fun j hj => h j (by omega)
  have h2 := Bf.J.rows (fun j hj => by have := hs j hj; unfold img; omega) hG (h k (Nat.le_refl _)) h1 i hi
  have h3 := Bf.Dp.rows (Ls := Ls) (h k (Nat.le_refl _)) (Bf.Dp.run (Ls := Ls) (s0 := s0) k fun j hj => h j (by omega)) i hi
  refine ⟨h2, h3, Nat.lt_of_lt_of_le (h k (Nat.le_refl _)) (Bf.rows_more (Ls := Ls) k (Bf.run Ls s0 k) i hi).st.length_le, fun s hm => ?_⟩
  obtain ⟨g, hg, rfl⟩ := h2.gen s hm
  refine ⟨comp_length _ _, fun j hj => ?_⟩
  rw [comp_length] at hj
  rw [comp_get _ _ hj]
  have := hs j hj
  exact (hg.pm hG).2.1 _ (by unfold img; omega)
end
/-- How many members a group has. -/
noncomputable def ordG (n : Nat) (S : List (List Int)) : Nat := @dite _ (∃ m : Nat, ∃ L : List (List Int), L.Nodup ∧ L.length = m ∧ ∀ g, g ∈ L ↔ Gen n S g) (Classical.propDecidable _) (fun h => h.choose) (fun _ => 0)
theorem ordG_eq {n : Nat} {S L : List (List Int)} (nd : L.Nodup) (hL : ∀ g, g ∈ L ↔ Gen n S g) : ordG n S = L.length := by
  have h : ∃ m : Nat, ∃ L : List (List Int), L.Nodup ∧ L.length = m ∧ ∀ g, g ∈ L ↔ Gen n S g := ⟨_, L, nd, rfl, hL⟩
  unfold ordG
  rw [dif_pos h]
  obtain ⟨L', nd', e, hL'⟩ := h.choose_spec
  rw [← e]
  exact Nat.le_antisymm (Go.Plain.nodup_le L L' nd' fun x hx => (hL x).2 ((hL' x).1 hx)) (Go.Plain.nodup_le L' L nd fun x hx => (hL' x).2 ((hL x).1 hx))
theorem ordG_chain {n : Nat} {S : List (List Int)} {C : Ch} (w : C.WF n) (hF : C.Full n 0) (h : ∀ g, Gen n S g ↔ Gen n (C.S 0) g) : ordG n S = C.ord n n 0 := by
  obtain ⟨L, nd, e, hL⟩ := Ch.members w hF
  rw [← e]
  exact ordG_eq nd fun g => (hL g).trans (h g).symm
theorem ordG_list {n : Nat} {S : List (List Int)} (hS : ∀ g ∈ S, Pm n g) : ∃ L : List (List Int), L.Nodup ∧ L.length = ordG n S ∧ ∀ g, g ∈ L ↔ Gen n S g := by
  classical
  obtain ⟨M, nd, hM⟩ := nodup_of ((rowsOf n n).filter fun g => decide (Gen n S g))
  have hM' : ∀ g, g ∈ M ↔ Gen n S g := fun g => by
    rw [hM, List.mem_filter, decide_eq_true_eq]
    exact ⟨fun h => h.2, fun h => ⟨pm_rows (h.pm hS), h⟩⟩
  exact ⟨M, nd, (ordG_eq nd hM').symm, hM'⟩
end Go.Pm
end
/- Which neighbors of a row lie nearer: shortest words, and how many there are. -/
section
namespace Go.Pm
set_option linter.unusedVariables false
set_option linter.unusedSimpArgs false
theorem filter_range_succ (P : Nat → Bool) (m : Nat) : (List.range (m + 1)).filter P = (List.range m).filter P ++ if P m then [m] else [] := by
  rw [List.range_succ, List.filter_append]
  congr 1
  by_cases h : P m = true
  · rw [List.filter_cons_of_pos h, if_pos h]; rfl
  · rw [List.filter_cons_of_neg h, if_neg h]; rfl
theorem filter_range_none {P : Nat → Bool} : ∀ {m : Nat}, (∀ j, j < m → P j = false) → (List.range m).filter P = []
  | 0, _ => rfl
  | m + 1, h => by
    rw [filter_range_succ, filter_range_none fun j hj => h j (by omega), h m (by omega)]; rfl
theorem filter_range_head {P : Nat → Bool} {i : Nat} (hP : P i = true) (hn : ∀ j, j < i → P j = false) : ∀ {m : Nat}, i < m → ∃ r, (List.range m).filter P = i :: r
  | 0, h => by omega
  | m + 1, h => by
    rw [filter_range_succ]
    by_cases e : i = m
    · subst e
      rw [filter_range_none hn, hP]; exact ⟨[], rfl⟩
    · obtain ⟨r, hr⟩ := filter_range_head hP hn (show i < m by omega)
      rw [hr]; exact ⟨_, rfl⟩
section
variable {Ls : List (Int × List Int)} {s0 : List Int} {n : Nat}
/-- Whether letter number i leads from row k to one of a smaller depth. -/
def Bf.dn (B : Bf) (k i : Nat) : Bool := decide (B.dp.getD ((B.nx.getD k []).getD i 0).toNat 0 < B.dp.getD k 0)
/-- The numbers of these letters, of the first j. -/
def Bf.cls (B : Bf) (k j : Nat) : List Nat := (List.range j).filter (B.dn k)
def Bf.clF (B : Bf) (L : List Int) (k j : Nat) : List Int := (B.cls k j).map fun i => L.getD i 0
def Bf.clS (B : Bf) (k j : Nat) : List Int := (B.cls k j).map fun i => (B.nx.getD k []).getD i 0
theorem Bf.clF_succ (B : Bf) (L : List Int) (k j : Nat) : B.clF L k (j + 1) = B.clF L k j ++ if B.dn k j then [L.getD j 0] else [] := by
  unfold Bf.clF Bf.cls
  rw [filter_range_succ, List.map_append]
  congr 1
  split <;> rfl
theorem Bf.clS_succ (B : Bf) (k j : Nat) : B.clS k (j + 1) = B.clS k j ++ if B.dn k j then [(B.nx.getD k []).getD j 0] else [] := by
  unfold Bf.clS Bf.cls
  rw [filter_range_succ, List.map_append]
  congr 1
  split <;> rfl
theorem Bf.clF_le (B : Bf) (L : List Int) (k j : Nat) : (B.clF L k j).length ≤ j := by
  unfold Bf.clF Bf.cls; rw [List.length_map]; exact Nat.le_trans (List.length_filter_le _ _) (by simp)
theorem Bf.clS_len (B : Bf) (L : List Int) (k j : Nat) : (B.clS k j).length = (B.clF L k j).length := by
  unfold Bf.clF Bf.clS; rw [List.length_map, List.length_map]
/-- Letters have inverse letters. -/
def InvL (n : Nat) (Ls : List (Int × List Int)) : Prop := ∀ l ∈ Ls, ∃ l' ∈ Ls, comp l.2 l'.2 = idn n
theorem Bf.Whole.idx {B : Bf} (h : Bf.Whole n Ls s0 B) {k : Nat} (hk : k < B.st.length) : B.st.idxOf (B.st.getD k []) = k := by
  rw [List.getD_eq_getElem?_getD, List.getElem?_eq_getElem hk]
  exact h.nd.idxOf_getElem k hk
theorem getD_idx {xs : List (List Int)} {s : List Int} (h : s ∈ xs) : xs.getD (xs.idxOf s) [] = s := by
  have := List.idxOf_lt_length_iff.2 h
  rw [List.getD_eq_getElem?_getD, List.getElem?_eq_getElem this]
  exact List.getElem_idxOf this
theorem comp_idn {s : List Int} (hs : ∀ j, j < s.length → 0 ≤ s.getD j 0 ∧ s.getD j 0 < n) : comp s (idn n) = s := by
  refine ext (comp_length _ _) fun j hj => ?_
  rw [comp_length] at hj
  have := hs j hj
  rw [comp_get _ _ hj]
  show (idn n).getD _ 0 = _
  rw [idn_get (by unfold img; omega)]
  unfold img; omega
theorem Bf.Whole.back {B : Bf} (h : Bf.Whole n Ls s0 B) (hG : ∀ g ∈ Ls.map (·.2), Pm n g) {s : List Int} (hs : s ∈ B.st) {l l' : Int × List Int} (hl : l ∈ Ls) (e : comp l.2 l'.2 = idn n) : comp (comp s l.2) l'.2 = s := by
  have hr := h.rng s hs
  rw [comp_assoc (n := n) (fun j hj => by have := hr j hj; unfold img; omega) (hG _ (List.mem_map_of_mem hl)), e]
  exact comp_idn hr
/-- A neighbor is at most one nearer. -/
theorem Bf.Whole.low {B : Bf} (h : Bf.Whole n Ls s0 B) (hG : ∀ g ∈ Ls.map (·.2), Pm n g) (hI : InvL n Ls) {k : Nat} (hk : k < B.st.length) {l : Int × List Int} (hl : l ∈ Ls) : B.dp.getD k 0 ≤ B.dp.getD (B.st.idxOf (comp (B.st.getD k []) l.2)) 0 + 1 := by
  have hm := mem_getD hk
  obtain ⟨l', hl', e⟩ := hI l hl
  have ht := h.cl _ hm l hl
  have h1 := h.up _ (List.idxOf_lt_length_iff.2 ht) l' hl'
  rw [getD_idx ht, h.back hG hm hl e, h.idx hk] at h1
  exact h1
theorem Bf.Whole.dn_iff {B : Bf} (h : Bf.Whole n Ls s0 B) (hG : ∀ g ∈ Ls.map (·.2), Pm n g) (hI : InvL n Ls) {k : Nat} (hk : k < B.st.length) {i : Nat} (hi : i < Ls.length) : B.dn k i = true ↔ B.dp.getD (B.st.idxOf (comp (B.st.getD k []) (Ls.getD i (0, [])).2)) 0 = B.dp.getD k 0 - 1 := by
  have h1 := h.low hG hI hk (mem_getD_of_lt (0, []) hi)
  unfold Bf.dn
  rw [(h.nx k hk).2 i hi, Int.toNat_natCast, decide_eq_true_eq]
  omega
/-- Each row but the first has a nearer neighbor. -/
theorem Bf.Whole.ex {B : Bf} (h : Bf.Whole n Ls s0 B) (hG : ∀ g ∈ Ls.map (·.2), Pm n g) (hI : InvL n Ls) {k : Nat} (hk : k < B.st.length) (h0 : 0 < B.dp.getD k 0) : ∃ i, i < Ls.length ∧ B.dn k i = true := by
  have hk0 : 0 < k := by
    refine Nat.pos_of_ne_zero fun e => ?_
    rw [e, h.z] at h0; omega
  obtain ⟨q, l, h1, h2, h3, h4⟩ := h.par k hk0 hk
  obtain ⟨l', hl', e⟩ := hI l h2
  obtain ⟨i, hi, hi'⟩ := List.getElem_of_mem hl'
  have hq := mem_getD (show q < B.st.length by omega)
  refine ⟨i, hi, (h.dn_iff hG hI hk hi).2 ?_⟩
  have e1 : Ls.getD i (0, []) = l' := by rw [List.getD_eq_getElem?_getD, List.getElem?_eq_getElem hi, Option.getD_some, hi']
  rw [e1, h3, h.back hG hq h2 e, h.idx (by omega), h4]
  omega
theorem Bf.Whole.nxb {B : Bf} (h : Bf.Whole n Ls s0 B) {k : Nat} (hk : k < B.st.length) {i : Nat} (hi : i < Ls.length) : 0 ≤ (B.nx.getD k []).getD i 0 ∧ ((B.nx.getD k []).getD i 0).toNat < B.st.length := by
  rw [(h.nx k hk).2 i hi, Int.toNat_natCast]
  exact ⟨by omega, List.idxOf_lt_length_iff.2 (h.cl _ (mem_getD hk) _ (mem_getD_of_lt _ hi))⟩
/-- The first of these letters, and where it leads. -/
def Bf.fst (B : Bf) (m k : Nat) : Nat := (B.cls k m).getD 0 0
def Bf.fnx (B : Bf) (m k : Nat) : Nat := ((B.nx.getD k []).getD (B.fst m k) 0).toNat
theorem Bf.fst_eq {B : Bf} {m k i : Nat} (hi : i < m) (h : B.dn k i = true) (hn : ∀ j, j < i → B.dn k j = false) : B.fst m k = i := by
  obtain ⟨r, hr⟩ := filter_range_head h hn hi
  unfold Bf.fst Bf.cls
  rw [hr]; rfl
theorem first_of {P : Nat → Bool} : ∀ {m i : Nat}, i < m → P i = true → ∃ j, j < m ∧ P j = true ∧ ∀ t, t < j → P t = false := by
  intro m i
  induction i using Nat.strongRecOn with
  | _ i ih =>
    intro hi hp
    by_cases h : ∃ t, t < i ∧ P t = true
    · obtain ⟨t, h1, h2⟩ := h
      exact ih t h1 (by omega) h2
    · exact ⟨i, hi, hp, fun t ht => by
        cases e : P t with
        | false => rfl
        | true => exact absurd ⟨t, ht, e⟩ h⟩
theorem Bf.Whole.fst {B : Bf} (h : Bf.Whole n Ls s0 B) (hG : ∀ g ∈ Ls.map (·.2), Pm n g) (hI : InvL n Ls) {k : Nat} (hk : k < B.st.length) (h0 : 0 < B.dp.getD k 0) : B.fst Ls.length k < Ls.length ∧ B.dn k (B.fst Ls.length k) = true ∧ 0 < (B.cls k Ls.length).length ∧ B.fnx Ls.length k < B.st.length ∧ B.dp.getD (B.fnx Ls.length k) 0 = B.dp.getD k 0 - 1 := by
  obtain ⟨i, hi, hd⟩ := h.ex hG hI hk h0
  obtain ⟨j, h1, h2, h3⟩ := first_of hi hd
  have e := Bf.fst_eq h1 h2 h3
  have e2 := (h.nxb hk h1).2
  have e3 := (h.dn_iff hG hI hk h1).1 h2
  rw [← Int.toNat_natCast (B.st.idxOf _), ← (h.nx k hk).2 j h1] at e3
  have e4 : B.fnx Ls.length k = ((B.nx.getD k []).getD j 0).toNat := by unfold Bf.fnx; rw [e]
  refine ⟨by rw [e]; exact h1, by rw [e]; exact h2, ?_, by rw [e4]; exact e2, by rw [e4]; exact e3⟩
  obtain ⟨r, hr⟩ := filter_range_head h2 h3 h1
  unfold Bf.cls; rw [hr]; simp
theorem Bf.clF_0 {B : Bf} {L : List Int} {m k : Nat} (h : 0 < (B.cls k m).length) : (B.clF L k m).getD 0 0 = L.getD (B.fst m k) 0 := by
  unfold Bf.clF Bf.fst
  cases e : B.cls k m with
  | nil => rw [e] at h; simp at h
  | cons a r => rfl
theorem Bf.clS_0 {B : Bf} {m k : Nat} (h : 0 < (B.cls k m).length) : (B.clS k m).getD 0 0 = (B.nx.getD k []).getD (B.fst m k) 0 := by
  unfold Bf.clS Bf.fst
  cases e : B.cls k m with
  | nil => rw [e] at h; simp at h
  | cons a r => rfl
/-- Where the first t letters of the least shortest word lead, and these letters. -/
def Bf.itr (B : Bf) (m k : Nat) : Nat → Nat
  | 0 => k
  | t + 1 => B.fnx m (B.itr m k t)
def Bf.wrd (B : Bf) (L : List Int) (m k t : Nat) : List Int := (List.range t).map fun u => L.getD (B.fst m (B.itr m k u)) 0
theorem Bf.wrd_succ (B : Bf) (L : List Int) (m k t : Nat) : B.wrd L m k (t + 1) = B.wrd L m k t ++ [L.getD (B.fst m (B.itr m k t)) 0] := by
  unfold Bf.wrd
  rw [List.range_succ, List.map_append]; rfl
theorem Bf.wrd_length (B : Bf) (L : List Int) (m k t : Nat) : (B.wrd L m k t).length = t := by simp [Bf.wrd]
theorem Bf.Whole.itr {B : Bf} (h : Bf.Whole n Ls s0 B) (hG : ∀ g ∈ Ls.map (·.2), Pm n g) (hI : InvL n Ls) {k : Nat} (hk : k < B.st.length) : ∀ t : Nat, (t : Int) ≤ B.dp.getD k 0 → B.itr Ls.length k t < B.st.length ∧ B.dp.getD (B.itr Ls.length k t) 0 = B.dp.getD k 0 - t
  | 0, _ => ⟨hk, by show B.dp.getD k 0 = _; omega⟩
  | t + 1, ht => by
    obtain ⟨h1, h2⟩ := h.itr hG hI hk t (by omega)
    obtain ⟨_, _, _, h3, h4⟩ := h.fst hG hI h1 (by omega)
    exact ⟨h3, by show B.dp.getD (B.fnx Ls.length (B.itr Ls.length k t)) 0 = _; omega⟩
end
/- sums over rows -/
def sumS (c xs : List Int) : Int := (xs.map fun t => c.getD t.toNat 0).sum
def capM (x : Int) : Int := if x ≤ 1000000000001 then x else 1000000000001
/-- How many shortest words the first k + 1 rows have, at most 1000000000001. -/
def Bf.cnt (B : Bf) (m : Nat) : Nat → List Int
  | 0 => [1]
  | k + 1 => B.cnt m k ++ [capM (sumS (B.cnt m k) (B.clS (k + 1) m))]
end Go.Pm
end
/- Depths are lengths of words. -/
section
namespace Go.Pm
set_option linter.unusedVariables false
set_option linter.unusedSimpArgs false
section
variable {Ls : List (Int × List Int)} {n : Nat}
/-- A state behind some letters. -/
def act (s : List Int) (w : List (Int × List Int)) : List Int := w.foldl (fun s l => comp s l.2) s
theorem act_nil (s : List Int) : act s [] = s := rfl
theorem act_snoc (s : List Int) (w : List (Int × List Int)) (l : Int × List Int) : act s (w ++ [l]) = comp (act s w) l.2 := by
  unfold act; rw [List.foldl_append]; rfl
theorem act_cons (s : List Int) (w : List (Int × List Int)) (l : Int × List Int) : act s (l :: w) = act (comp s l.2) w := rfl
theorem act_pm (hG : ∀ g ∈ Ls.map (·.2), Pm n g) : ∀ (w : List (Int × List Int)) (s : List Int), Pm n s → (∀ l ∈ w, l ∈ Ls) → Pm n (act s w)
  | [], s, hs, _ => hs
  | l :: w, s, hs, hw => act_pm hG w _ (hs.comp (hG _ (List.mem_map_of_mem (hw l List.mem_cons_self)))) fun x hx => hw x (List.mem_cons_of_mem _ hx)
theorem act_comp (hG : ∀ g ∈ Ls.map (·.2), Pm n g) : ∀ (w : List (Int × List Int)) (s : List Int), Pm n s → (∀ l ∈ w, l ∈ Ls) → act s w = comp s (act (idn n) w)
  | [], s, hs, _ => by rw [act_nil, act_nil, hs.comp_idn]
  | l :: w, s, hs, hw => by
    have hl := hG _ (List.mem_map_of_mem (hw l List.mem_cons_self))
    have hw' : ∀ x ∈ w, x ∈ Ls := fun x hx => hw x (List.mem_cons_of_mem _ hx)
    rw [act_cons, act_cons, act_comp hG w _ (hs.comp hl) hw', act_comp hG w _ ((Pm.idn n).comp hl) hw', hl.idn_comp]
    exact comp_assoc (n := n) (fun j hj => by have := hs.2.1 j (by rw [← hs.1]; exact hj); unfold img; omega) hl
/-- Some word leads to each row, of as many letters as its depth. -/
theorem Bf.Whole.word {B : Bf} (h : Bf.Whole n Ls (idn n) B) : ∀ k, k < B.st.length → ∃ w : List (Int × List Int), (∀ l ∈ w, l ∈ Ls) ∧ (w.length : Int) = B.dp.getD k 0 ∧ act (idn n) w = B.st.getD k [] := by
  intro k
  induction k using Nat.strongRecOn with
  | _ k ih =>
    intro hk
    by_cases e : k = 0
    · subst e
      exact ⟨[], fun l hl => (List.not_mem_nil hl).elim, by rw [h.z]; rfl, by rw [h.st0]; rfl⟩
    · obtain ⟨q, l, h1, h2, h3, h4⟩ := h.par k (by omega) hk
      obtain ⟨w, w1, w2, w3⟩ := ih q h1 (by omega)
      refine ⟨w ++ [l], fun x hx => ?_, ?_, by rw [act_snoc, w3, h3]⟩
      · rcases List.mem_append.1 hx with hx | hx
        · exact w1 x hx
        · rw [List.mem_singleton.1 hx]; exact h2
      · rw [List.length_append, h4, Int.natCast_add, w2]; rfl
/-- No word leads farther than it has letters. -/
theorem Bf.Whole.far {B : Bf} (h : Bf.Whole n Ls (idn n) B) : ∀ (w : List (Int × List Int)) (s : List Int), s ∈ B.st → (∀ l ∈ w, l ∈ Ls) → act s w ∈ B.st ∧ B.dp.getD (B.st.idxOf (act s w)) 0 ≤ B.dp.getD (B.st.idxOf s) 0 + w.length
  | [], s, hs, _ => ⟨hs, by rw [act_nil]; simp⟩
  | l :: w, s, hs, hw => by
    have hl := hw l List.mem_cons_self
    have hm := h.cl s hs l hl
    obtain ⟨h1, h2⟩ := h.far w _ hm fun x hx => hw x (List.mem_cons_of_mem _ hx)
    have h3 := h.up _ (List.idxOf_lt_length_iff.2 hs) l hl
    rw [getD_idx hs] at h3
    rw [act_cons]
    refine ⟨h1, ?_⟩
    rw [List.length_cons]
    omega
theorem Bf.Whole.idn_mem {B : Bf} (h : Bf.Whole n Ls (idn n) B) : idn n ∈ B.st ∧ B.st.idxOf (idn n) = 0 := by
  have h1 := mem_getD h.pos
  rw [h.st0] at h1
  refine ⟨h1, ?_⟩
  have := h.idx h.pos
  rwa [h.st0] at this
/-- The depth of a state. -/
def Bf.dst (B : Bf) (s : List Int) : Int := B.dp.getD (B.st.idxOf s) 0
theorem Bf.Whole.dst_word {B : Bf} (h : Bf.Whole n Ls (idn n) B) {s : List Int} (hs : s ∈ B.st) : ∃ w : List (Int × List Int), (∀ l ∈ w, l ∈ Ls) ∧ (w.length : Int) = B.dst s ∧ act (idn n) w = s := by
  obtain ⟨w, h1, h2, h3⟩ := h.word _ (List.idxOf_lt_length_iff.2 hs)
  rw [getD_idx hs] at h3
  exact ⟨w, h1, h2, h3⟩
theorem Bf.Whole.dst_le {B : Bf} (h : Bf.Whole n Ls (idn n) B) (w : List (Int × List Int)) (hw : ∀ l ∈ w, l ∈ Ls) : act (idn n) w ∈ B.st ∧ B.dst (act (idn n) w) ≤ w.length := by
  obtain ⟨h1, h2⟩ := h.idn_mem
  obtain ⟨h3, h4⟩ := h.far w (idn n) h1 hw
  refine ⟨h3, ?_⟩
  rw [h2, h.z] at h4
  unfold Bf.dst; omega
/-- The inverse letters, the last first. -/
theorem inv_word (hG : ∀ g ∈ Ls.map (·.2), Pm n g) (hI : InvL n Ls) : ∀ (w : List (Int × List Int)), (∀ l ∈ w, l ∈ Ls) → ∃ w' : List (Int × List Int), (∀ l ∈ w', l ∈ Ls) ∧ w'.length = w.length ∧ act (idn n) w' = invp (act (idn n) w)
  | [], _ => ⟨[], fun l hl => (List.not_mem_nil hl).elim, rfl, (Pm.inv_idn n).symm⟩
  | l :: w, hw => by
    have hl := hw l List.mem_cons_self
    have hw' : ∀ x ∈ w, x ∈ Ls := fun x hx => hw x (List.mem_cons_of_mem _ hx)
    obtain ⟨w', h1, h2, h3⟩ := inv_word hG hI w hw'
    obtain ⟨l', hl', e⟩ := hI l hl
    have pl := hG _ (List.mem_map_of_mem hl)
    have pl' := hG _ (List.mem_map_of_mem hl')
    have pw := act_pm hG w (idn n) (Pm.idn n) hw'
    have pw' := act_pm hG w' (idn n) (Pm.idn n) h1
    refine ⟨w' ++ [l'], fun x hx => ?_, by simp [h2], ?_⟩
    · rcases List.mem_append.1 hx with hx | hx
      · exact h1 x hx
      · rw [List.mem_singleton.1 hx]; exact hl'
    · rw [act_snoc, h3, act_cons, act_comp hG w _ ((Pm.idn n).comp pl) hw', pl.idn_comp]
      -- (l w)^-1 = w^-1 l^-1
      have b : ∀ {q : List Int}, Pm n q → ∀ j, j < q.length → img q j < n := fun hq j hj => by
        have := hq.2.1 j (by rw [← hq.1]; exact hj); unfold img; omega
      refine Pm.inv_of_comp (n := n) (pw.inv.comp pl') (pl.comp pw) ?_
      have e1 : comp l'.2 l.2 = idn n := by
        have e2 : l'.2 = invp l.2 := by
          have h5 := Pm.inv_of_comp (n := n) pl pl' e
          rw [h5, pl'.inv_inv]
        rw [e2]; exact pl.inv_comp
      rw [comp_assoc (n := n) (b pw.inv) pl', ← comp_assoc (n := n) (b pl') pl, e1, pw.idn_comp]
      exact pw.inv_comp
theorem Bf.Whole.dst_inv {B : Bf} (h : Bf.Whole n Ls (idn n) B) (hG : ∀ g ∈ Ls.map (·.2), Pm n g) (hI : InvL n Ls) {s : List Int} (hs : s ∈ B.st) (hp : Pm n s) : invp s ∈ B.st ∧ B.dst (invp s) = B.dst s := by
  have key : ∀ {s}, s ∈ B.st → invp s ∈ B.st ∧ B.dst (invp s) ≤ B.dst s := fun {s} hs => by
    obtain ⟨w, h1, h2, h3⟩ := h.dst_word hs
    obtain ⟨w', j1, j2, j3⟩ := inv_word hG hI w h1
    have h4 := h.dst_le w' j1
    rw [j3, h3, j2] at h4
    exact ⟨h4.1, by omega⟩
  obtain ⟨k1, k2⟩ := key hs
  obtain ⟨k3, k4⟩ := key k1
  rw [hp.inv_inv] at k4
  exact ⟨k1, by omega⟩
theorem Bf.Whole.dst_comp {B : Bf} (h : Bf.Whole n Ls (idn n) B) (hG : ∀ g ∈ Ls.map (·.2), Pm n g) {s t : List Int} (hs : s ∈ B.st) (ht : t ∈ B.st) (hp : Pm n s) : comp s t ∈ B.st ∧ B.dst (comp s t) ≤ B.dst s + B.dst t := by
  obtain ⟨w, h1, h2, h3⟩ := h.dst_word hs
  obtain ⟨v, j1, j2, j3⟩ := h.dst_word ht
  have e : act (idn n) (w ++ v) = comp s t := by
    have e1 : act (idn n) (w ++ v) = act (act (idn n) w) v := by unfold act; rw [List.foldl_append]
    rw [e1, h3, act_comp hG v s hp j1, j3]
  have h4 := h.dst_le (w ++ v) fun x hx => (List.mem_append.1 hx).elim (h1 x) (j1 x)
  rw [e, List.length_append, Int.natCast_add, h2, j2] at h4
  exact h4
/-- The distance of two states. -/
theorem Bf.Whole.dst_sym {B : Bf} (h : Bf.Whole n Ls (idn n) B) (hG : ∀ g ∈ Ls.map (·.2), Pm n g) (hI : InvL n Ls) {a b : List Int} (ha : Pm n a) (hb : Pm n b) (hm : comp (invp b) a ∈ B.st) : B.dst (comp (invp a) b) = B.dst (comp (invp b) a) := by
  have h1 := h.dst_inv hG hI hm (hb.inv.comp ha)
  have bd : ∀ {q : List Int}, Pm n q → ∀ j, j < q.length → img q j < n := fun hq j hj => by
    have := hq.2.1 j (by rw [← hq.1]; exact hj); unfold img; omega
  have e : invp (comp (invp b) a) = comp (invp a) b := by
    refine (Pm.inv_of_comp (n := n) (ha.inv.comp hb) (hb.inv.comp ha) ?_).symm
    rw [comp_assoc (n := n) (bd ha.inv) hb, ← comp_assoc (n := n) (bd hb) hb.inv, hb.comp_inv, ha.idn_comp]
    exact ha.inv_comp
  rw [e] at h1
  exact h1.2
theorem Bf.Whole.dst_tri {B : Bf} (h : Bf.Whole n Ls (idn n) B) (hG : ∀ g ∈ Ls.map (·.2), Pm n g) {a b c : List Int} (ha : Pm n a) (hb : Pm n b) (hc : Pm n c) (h1 : comp (invp b) a ∈ B.st) (h2 : comp (invp c) b ∈ B.st) : B.dst (comp (invp c) a) ≤ B.dst (comp (invp b) a) + B.dst (comp (invp c) b) := by
  have bd : ∀ {q : List Int}, Pm n q → ∀ j, j < q.length → img q j < n := fun hq j hj => by
    have := hq.2.1 j (by rw [← hq.1]; exact hj); unfold img; omega
  have e : comp (comp (invp c) b) (comp (invp b) a) = comp (invp c) a := by
    rw [comp_assoc (n := n) (bd hc.inv) hb, ← comp_assoc (n := n) (bd hb) hb.inv, hb.comp_inv, ha.idn_comp]
  have h3 := h.dst_comp hG h2 h1 (hc.inv.comp hb)
  rw [e] at h3
  have := h3.2
  omega
/-- The letters of the least shortest word lead to the first row. -/
theorem Bf.Whole.solves {B : Bf} (h : Bf.Whole n Ls (idn n) B) (hG : ∀ g ∈ Ls.map (·.2), Pm n g) (hI : InvL n Ls) {k : Nat} (hk : k < B.st.length) : ∀ t : Nat, (t : Int) ≤ B.dp.getD k 0 → act (B.st.getD k []) ((List.range t).map fun u => Ls.getD (B.fst Ls.length (B.itr Ls.length k u)) (0, [])) = B.st.getD (B.itr Ls.length k t) []
  | 0, _ => rfl
  | t + 1, ht => by
    have ih := h.solves hG hI hk t (by omega)
    obtain ⟨h1, h2⟩ := h.itr hG hI hk t (by omega)
    obtain ⟨f1, f2, f3, f4, f5⟩ := h.fst hG hI h1 (by omega)
    rw [List.range_succ, List.map_append, List.map_cons, List.map_nil, act_snoc, ih]
    have h3 := (h.nx _ h1).2 _ f1
    have h4 : B.itr Ls.length k (t + 1) = B.st.idxOf (comp (B.st.getD (B.itr Ls.length k t) []) (Ls.getD (B.fst Ls.length (B.itr Ls.length k t)) (0, [])).2) := by
      show B.fnx Ls.length (B.itr Ls.length k t) = _
      unfold Bf.fnx
      rw [h3]; rfl
    rw [h4, getD_idx (h.cl _ (mem_getD h1) _ (mem_getD_of_lt _ f1))]
theorem Bf.Whole.zero {B : Bf} (h : Bf.Whole n Ls (idn n) B) {k : Nat} (hk : k < B.st.length) (hz : B.dp.getD k 0 = 0) : k = 0 := by
  refine Classical.byContradiction fun e => ?_
  obtain ⟨q, l, h1, h2, h3, h4⟩ := h.par k (by omega) hk
  have := (h.le q (by omega)).1
  omega
theorem Bf.Whole.solved {B : Bf} (h : Bf.Whole n Ls (idn n) B) (hG : ∀ g ∈ Ls.map (·.2), Pm n g) (hI : InvL n Ls) {k : Nat} (hk : k < B.st.length) : act (B.st.getD k []) ((List.range (B.dp.getD k 0).toNat).map fun u => Ls.getD (B.fst Ls.length (B.itr Ls.length k u)) (0, [])) = idn n := by
  have h0 := (h.le k hk).1
  rw [h.solves hG hI hk _ (by omega)]
  obtain ⟨h1, h2⟩ := h.itr hG hI hk (B.dp.getD k 0).toNat (by omega)
  rw [h.zero h1 (by omega), h.st0]
end
end Go.Pm
end

/- Extending a stabilizer chain product by product. -/
import Derived.Test.YtfgblelbhlpfjaaG4
namespace Go.Pm
set_option linter.unusedVariables false

/-- The chain is sound from level l on, and full below it. -/
structure Spc (n l : Nat) (C : Ch) : Prop where
  wf : C.WF n
  full : C.Full n (l + 1)
  ind : C.Ind n
  tg : ∀ y t, C.T l y = some t → Gen n (C.S l) t
  sg : ∀ g, g ∈ C.S (l + 1) → Gen n (C.S l) g

/-- C' comes of C by products at level l. -/
structure Run (n l : Nat) (C C' : Ch) : Prop where
  eT : ∀ i, i < l → C'.T i = C.T i
  eS : ∀ i, i ≤ l → C'.S i = C.S i
  ok : Spc n l C'
  ext : ∀ y t, C.T l y = some t → C'.T l y = some t
  mono : ∀ g, g ∈ C.S (l + 1) → g ∈ C'.S (l + 1)
  newd : ∀ y t g, C'.T l y = some t → C.T l y = none → g ∈ C.S l → C'.has (n - l) l (comp t g) = true

section
variable {n l : Nat} {C C' C'' : Ch} {x z : List Int}

theorem Ch.has_step (C : Ch) (hl : l < n) (z : List Int) : C.has (n - l) l z = match C.T l (img z l) with | none => false | some t => C.has (n - (l + 1)) (l + 1) (comp z (invp t)) := by
  rw [show n - l = (n - (l + 1)) + 1 by omega]; rfl
theorem Run.refl (h : Spc n l C) : Run n l C C := ⟨fun _ _ => rfl, fun _ _ => rfl, h, fun _ _ h => h, fun _ h => h, fun y t g h1 h2 => by rw [h1] at h2; simp at h2⟩
theorem Run.keep (r : Run n l C C') (h : Spc n l C) (hl : l < n) (hz : Pm n z) (hf : fixB l z) (hh : C.has (n - l) l z = true) : C'.has (n - l) l z = true := by
  rw [Ch.has_step C hl] at hh
  rw [Ch.has_step C' hl]
  cases e : C.T l (img z l) with
  | none => rw [e] at hh; simp at hh
  | some t =>
    rw [e] at hh
    rw [r.ext _ _ e]
    obtain ⟨t1, t2, t3⟩ := h.wf.t1 l _ t hl e
    exact Ch.has_mono h.wf r.ok.wf (by omega) h.full r.ok.full r.mono (hz.comp t1.inv) (fixB.quot hz t1 hl hf t2 t3) hh
theorem Run.trans (r : Run n l C C') (q : Run n l C' C'') (hl : l < n) : Run n l C C'' := by
  refine ⟨fun i hi => by rw [q.eT i hi, r.eT i hi], fun i hi => by rw [q.eS i hi, r.eS i hi], q.ok, fun y t h => q.ext y t (r.ext y t h), fun g hg => q.mono g (r.mono g hg), ?_⟩
  intro y t g h1 h2 hg
  have hg' : g ∈ C'.S l := by rw [r.eS l (Nat.le_refl _)]; exact hg
  cases e : C'.T l y with
  | none => exact q.newd y t g h1 e hg'
  | some t' =>
    have e2 := q.ext y t' e
    rw [h1] at e2
    simp only [Option.some.injEq] at e2
    subst e2
    obtain ⟨t1, t2, _⟩ := r.ok.wf.t1 l y t hl e
    obtain ⟨g1, g2⟩ := r.ok.wf.s1 l g hg'
    exact q.keep r.ok hl (t1.comp g1) (fixB.comp t1 (by omega) t2 g2) (r.newd y t g e h2 hg)
theorem Spc.gpm (h : Spc n l C) : ∀ g ∈ C.S l, Pm n g := h.wf.gpm l
/-- The quotient by a representative that is there. -/
theorem Spc.quo (h : Spc n l C) (hl : l < n) (hx : Pm n x) (hf : fixB l x) (hg : Gen n (C.S l) x) {t : List Int} (ht : C.T l (img x l) = some t) : Pm n (comp x (invp t)) ∧ fixB (l + 1) (comp x (invp t)) ∧ Gen n (C.S l) (comp x (invp t)) := by
  obtain ⟨t1, t2, t3⟩ := h.wf.t1 l _ t hl ht
  exact ⟨hx.comp t1.inv, fixB.quot hx t1 hl hf t2 t3, Gen.prod h.gpm hg (Gen.inv h.gpm (h.tg _ _ ht))⟩
/-- .. given to the level above. -/
theorem Run.up (h : Spc n l C) (hl : l < n) {t : List Int} (ht : C.T l (img x l) = some t) (hg : Gen n (C.S l) (comp x (invp t))) (a : Ch.Add n (l + 1) C (comp x (invp t)) C') : Run n l C C' ∧ C'.has (n - l) l x = true := by
  have eT : C'.T l = C.T l := a.eT l (by omega)
  have eS : C'.S l = C.S l := a.eS l (by omega)
  refine ⟨⟨fun i hi => a.eT i (by omega), fun i hi => a.eS i (by omega), ⟨a.wf, a.full, a.ind h.ind, fun y u hu => ?_, fun g hg' => ?_⟩, fun y u hu => by rw [eT]; exact hu, a.mono, fun y u g h1 h2 => by rw [eT, h2] at h1; simp at h1⟩, ?_⟩
  · rw [eT] at hu; rw [eS]; exact h.tg y u hu
  · rw [eS]
    rcases a.new g hg' with h1 | rfl
    · exact h.sg g h1
    · exact hg
  · rw [Ch.has_step C' hl, eT, ht]; exact a.has
/-- A new representative. -/
theorem Spc.set (h : Spc n l C) (hl : l < n) (hx : Pm n x) (hf : fixB l x) (hg : Gen n (C.S l) x) (hn : C.T l (img x l) = none) : Spc n l (C.setT l (img x l) x) := by
  have hne : img x l ≠ l := fun e => by rw [e, h.wf.t0 l hl] at hn; simp at hn
  refine ⟨h.wf.setT hne hx hf rfl, h.full.of_eq (fun i hi => Ch.setT_ne _ _ _ (by omega)) (fun _ _ => rfl), h.ind, fun y t ht => ?_, h.sg⟩
  rw [Ch.setT_self] at ht
  split at ht
  · simp only [Option.some.injEq] at ht; subst ht; exact hg
  · exact h.tg y t ht
theorem Ch.has_idn (w : C.WF n) (hF : C.Full n (l + 1)) (hl : l < n) : C.has (n - (l + 1)) (l + 1) (idn n) = true :=
  (Ch.has_iff w (n - (l + 1)) (l + 1) (by omega) hF _ (.idn n) (fixB.idn n _ (by omega))).2 .one
/-- .. and all its products. -/
theorem Run.set (h : Spc n l C) (hl : l < n) (hx : Pm n x) (hf : fixB l x) (hn : C.T l (img x l) = none) (r : Run n l (C.setT l (img x l) x) C') (hd : ∀ g, g ∈ C.S l → C'.has (n - l) l (comp x g) = true) : Run n l C C' ∧ C'.has (n - l) l x = true := by
  have hx' : C'.T l (img x l) = some x := r.ext _ _ (by rw [Ch.setT_self, if_pos rfl])
  refine ⟨⟨fun i hi => by rw [r.eT i hi, Ch.setT_ne _ _ _ (by omega)], r.eS, r.ok, fun y t ht => r.ext y t ?_, r.mono, ?_⟩, ?_⟩
  · rw [Ch.setT_self, if_neg (fun e => by rw [e, hn] at ht; simp at ht)]; exact ht
  · intro y t g h1 h2 hg
    by_cases e : y = img x l
    · subst e
      rw [hx'] at h1
      simp only [Option.some.injEq] at h1
      subst h1
      exact hd g hg
    · exact r.newd y t g h1 (by rw [Ch.setT_self, if_neg e]; exact h2) hg
  · rw [Ch.has_step C' hl, hx']
    dsimp only
    rw [hx.comp_inv]
    exact Ch.has_idn r.ok.wf r.ok.full hl
theorem Run.cnt (r : Run n l C C') : C.cnt n l ≤ C'.cnt n l := by
  unfold Ch.cnt
  refine List.countP_mono_left fun y _ hy => ?_
  obtain ⟨t, ht⟩ := Option.isSome_iff_exists.1 hy
  rw [r.ext y t ht]; rfl

/-- The chain with one generator more, before the products. -/
theorem Spc.start {p : List Int} (w : C.WF n) (hF : C.Full n l) (hI : C.Ind n) (hl : l < n) (hp : Pm n p) (hf : fixB l p) (hh : C.has (n - l) l p = false) : Spc n l (C.addS l p) := by
  have e2 : ∀ i, l + 1 ≤ i → (C.addS l p).S i = C.S i := fun i hi => Ch.addS_ne _ _ (by omega)
  refine ⟨w.addS hp hf, Ch.Full.of_eq (fun j hj hjn => hF j (by omega) hjn) (fun _ _ => rfl) e2, hI.addS w hF hl hp hf hh, fun y t ht => ?_, fun g hg => ?_⟩
  · exact ((hF l (Nat.le_refl _) hl).tg y t ht).mono fun g hg => by rw [Ch.addS_self]; exact List.mem_append_left _ hg
  · rw [e2 (l + 1) (by omega)] at hg
    exact ((hF l (Nat.le_refl _) hl).sg g hg).mono fun g hg => by rw [Ch.addS_self]; exact List.mem_append_left _ hg
/-- The products of all old representatives with the new generator are there: the generator is in. -/
theorem Run.fin {p : List Int} (w : C.WF n) (hF : C.Full n l) (hl : l < n) (hp : Pm n p) (hf : fixB l p) (s : Spc n l (C.addS l p)) (r : Run n l (C.addS l p) C') (hd : ∀ y t, C.T l y = some t → C'.has (n - l) l (comp t p) = true) : Ch.Add n l C p C' := by
  have hS : C'.S l = C.S l ++ [p] := by rw [r.eS l (Nat.le_refl _), Ch.addS_self]
  have hFull : C'.Full n l := fun j hj hjn => by
    by_cases e : j = l
    · subst e
      have key : ∀ y t g, C'.T j y = some t → g ∈ C'.S j → C'.has (n - j) j (comp t g) = true := by
        intro y t g ht hg
        cases e1 : C.T j y with
        | none => exact r.newd y t g ht e1 (by rw [Ch.addS_self, ← hS]; exact hg)
        | some t0 =>
          have e2 := r.ext y t0 e1
          rw [ht] at e2
          simp only [Option.some.injEq] at e2
          subst e2
          rw [hS] at hg
          rcases List.mem_append.1 hg with hg | hg
          · obtain ⟨u, h1, h2⟩ := (hF j (Nat.le_refl _) hjn).cl y t g e1 hg
            obtain ⟨t1, t2, t3⟩ := w.t1 j y t hjn e1
            obtain ⟨g1, g2⟩ := w.s1 j g hg
            have h3 : (C.addS j p).has (n - j) j (comp t g) = true := by
              rw [Ch.has_step _ hjn, t1.cimg hjn, t3]
              show (match C.T j (img g y) with | none => false | some t' => _) = true
              rw [h1]
              dsimp only
              refine Ch.has_mono w s.wf (by omega) (fun i hi hin => hF i (by omega) hin) s.full (fun g hg => by rw [Ch.addS_ne _ _ (by omega)]; exact hg) ?_ ?_ h2
              · exact (t1.comp g1).comp (w.t1 j _ u hjn h1).1.inv
              · exact fixB.quot (t1.comp g1) (w.t1 j _ u hjn h1).1 hjn (fixB.comp t1 (by omega) t2 g2) (w.t1 j _ u hjn h1).2.1 (by rw [(w.t1 j _ u hjn h1).2.2, t1.cimg hjn, t3])
            exact r.keep s hjn (t1.comp g1) (fixB.comp t1 (by omega) t2 g2) h3
          · rw [List.mem_singleton] at hg; subst hg
            exact hd y t e1
      refine ⟨fun y t g ht hg => ?_, r.ok.tg, r.ok.sg⟩
      have h1 := key y t g ht hg
      obtain ⟨t1, t2, t3⟩ := r.ok.wf.t1 j y t hjn ht
      rw [Ch.has_step _ hjn, t1.cimg hjn, t3] at h1
      cases e3 : C'.T j (img g y) with
      | none => rw [e3] at h1; simp at h1
      | some u => rw [e3] at h1; exact ⟨u, rfl, h1⟩
    · exact r.ok.full j (by omega) hjn
  refine ⟨r.eT, fun i hi => by rw [r.eS i (by omega), Ch.addS_ne _ _ (by omega)], r.ok.wf, hFull, fun g hg => by rw [hS]; exact List.mem_append_left _ hg, fun g hg => by rw [hS] at hg; simpa using hg, ?_, fun _ => r.ok.ind⟩
  exact (Ch.has_iff r.ok.wf (n - l) l (by omega) hFull p hp hf).2 (Gen.of (r.ok.wf.gpm l) (by rw [hS]; simp))
end
end Go.Pm

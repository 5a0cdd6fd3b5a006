/- What each operation asks and gives, over abstract frames: copy, slices of slices, fields, strings, conversions. -/
import Derived.Test.YtfgblelbhlpfjaaAv8
namespace Go.Av

section
variable {P : Program} {N : Cx} {A : Fr} {H : Hp} {K : AV → Fr → Hp → Prop}

/- copy -/
def cpVC (se : Option SE) (H : Hp) (a b : AV) (K : AV → Hp → Prop) : Prop :=
  match se, a with
  | some se, .own h off sz n =>
    match H h, srcOf H sz b with
    | some (.cells N f), some (m, g) =>
      Ob (sz = se.size ∧ 0 < sz ∧ off + n * sz ≤ N) (Ob (∀ i, i < m * sz → (g i).one = true)
        (K (.v (.int .i64 (min m n : Nat))) (H.upd h (.cells N (setsF f off (min m n * sz) g)))))
    | _, _ => False
  | _, _ => False

theorem run_firstCells_src {sz m n : Nat} {x : Option Addr} {c : Nat} {us : List Value} (w : World) (hn : n ≤ m) (hx : x = none → m = 0) (hul : us.length = m * sz)
    (hcell : ∀ p, x = some p → ∀ j u, us[j]? = some u → w.cell? (p.add j) = some u) : (Builtin.firstCells sz n (.slice x m c)).run P w = .ok (us.take (n * sz)).toArray w := by
  have h1 := Nat.mul_le_mul_right sz hn
  cases x with
  | none =>
    have := hx rfl
    subst this
    have hus : us = [] := List.eq_nil_of_length_eq_zero (by simpa using hul)
    simp [Builtin.firstCells, hus]
  | some p =>
    refine run_firstCells_some (P := P) w sz n p m c _ (by simp; omega) ?_
    intro j v hj
    rw [List.getElem?_take] at hj
    split at hj
    · exact hcell p rfl j v hj
    · simp at hj

theorem run_cp {t t' ty : TypeId} {a b : AV} {u v : Value} {w0 : World} {S : Rg} {w : World} {tm : Array Value} {L : Loc} (s : Sim N.n w0 S w tm L A H) (hS : Good N w0 S) (K : AV → Hp → Prop)
    (hu : Rd w (okb S H L) L a u) (hv : Rd w (okb S H L) L b v) (h : cpVC (selOf P t) H a b K) :
    ∃ r w' H', (Builtin.copy_ #[t, t'] ty #[u, v]).run P w = .ok r w' ∧ Sim N.n w0 S w' tm L A H' ∧ K (.v r) H' := by
  unfold cpVC at h
  split at h
  · rename_i se hh off sz n hse
    split at h
    · rename_i NN f m g hH hsrc
      obtain ⟨⟨h1, h2, h3⟩, h6, hK⟩ := h
      obtain ⟨hut, ti, z, hi, e1, e2, e3, e4, e5⟩ := selOf_ok hse
      obtain ⟨x, c, us, rfl, hx, hul, hcell, hrd⟩ := srcOf_ok hsrc s hv
      subst h1
      have hfc := run_firstCells_src (P := P) (n := min m n) (c := c) w (Nat.min_le_left _ _) hx hul hcell
      have hone := one_of hul hrd h6
      have hso : (sizeOf se.e).run P w = .ok se.size w := by simp [sizeOf, typeInfo, hi, e1]
      have hlen : (us.take (min m n * se.size)).length = min m n * se.size := by
        have := Nat.mul_le_mul_right se.size (Nat.min_le_left m n)
        simp; omega
      simp only [Rd] at hu
      split at hu
      · rename_i hl
        obtain ⟨rfl, rfl⟩ := hu
        have hb := s.blk hh _ hH
        rw [hl] at hb
        simp only [BlkOk] at hb
        subst hb
        have hs2 := s
        refine ⟨.int .i64 (min m 0 : Nat), w, _, ?_, ?_, hK⟩
        · simp only [Nat.min_zero, Nat.zero_mul, List.take_zero] at hfc
          simp [Builtin.copy_, run_underlying hut, Builtin.lenOf, hso, hfc, goInt]
        · have e : H.upd hh (.cells 0 (setsF f off (min m 0 * se.size) g)) = H := by
            funext k
            simp only [Hp.upd]
            split
            · rename_i hk
              subst hk
              rw [hH]
              congr 2
              funext j
              simp [setsF]
              intro h1 h2
              omega
            · rfl
          rw [e]; exact s
      · rename_i b' s' hl
        obtain ⟨p, cap, rfl, q1, q2, q3, q4, q5, cs', e', q6, q7⟩ := hu
        have hpe : p = ⟨b', p.off, none⟩ := by rw [← q3]; exact Addr_eq q4
        have hfit : off + min m n * se.size ≤ NN := by
          have := Nat.mul_le_mul_right se.size (Nat.min_le_right m n)
          omega
        obtain ⟨w', r1, r2⟩ := s.storeCells (P := P) (off := off) (m := min m n * se.size) hS hH hl (us.take (min m n * se.size)) hlen hfit
          (fun v hv => hone v (List.mem_of_mem_take hv)) (g := g) (by
            intro i hi
            obtain ⟨c, k1, k2⟩ := hrd i (by have := Nat.mul_le_mul_right se.size (Nat.min_le_left m n); omega)
            exact ⟨c, by rw [List.getElem?_take, if_pos hi]; exact k1, k2⟩)
        have hst : (storeCells p (us.take (min m n * se.size))).run P w = .ok () w' := by
          rcases Nat.eq_zero_or_pos cap with h0 | h0
          · have hn0 : n = 0 := by omega
            subst hn0
            simp only [Nat.min_zero, Nat.zero_mul, List.take_zero, Go.storeCells] at r1 ⊢
            exact r1
          · rw [hpe, q5 h0]; exact r1
        refine ⟨.int .i64 (min m n : Nat), w', _, ?_, r2, hK⟩
        have hmin : Nat.min m n = min m n := rfl
        simp [Builtin.copy_, run_underlying hut, Builtin.lenOf, hso, hmin, hfc, hst, goInt]
    · exact h.elim
  · exact h.elim

/- x[lo:hi] -/
def boundOf (dflt : Nat) (x : Option (Option AV)) : Option Int :=
  match x with
  | none => some dflt
  | some (some (.v (.int _ i))) => some i
  | _ => none

inductive SlT | str | slice (size : Nat) | other
def slT (P : Program) (t : TypeId) : SlT :=
  match P.underlying t with
  | some .string => .str
  | some (.slice e) => (match P.info? e with | some i => .slice i.size | none => .other)
  | _ => .other

def slVC (st : SlT) (a : AV) (lo hi : Option (Option AV)) (K : AV → Prop) : Prop :=
  match st, a with
  | .str, .v (.string s) =>
    match boundOf 0 lo, boundOf s.size hi with
    | some l, some h => Ob (0 ≤ l ∧ l ≤ h ∧ h ≤ s.size) (K (.v (.string (s.extract l.toNat h.toNat))))
    | _, _ => False
  | .slice size, .list nn sz n f =>
    match boundOf 0 lo, boundOf n hi with
    | some l, some h => Ob (sz = size) (Ob (0 ≤ l ∧ l ≤ h ∧ h ≤ n) (K (.list nn sz (h.toNat - l.toNat) (shF (l.toNat * sz) f))))
    | _, _ => False
  | .slice size, .own hh off sz n =>
    match boundOf 0 lo, boundOf n hi with
    | some l, some h => Ob (sz = size) (Ob (0 ≤ l ∧ l ≤ h ∧ h ≤ n) (K (.own hh (off + l.toNat * sz) sz (h.toNat - l.toNat))))
    | _, _ => False
  | .slice _, .v (.slice none 0 0) =>
    match boundOf 0 lo, boundOf 0 hi with
    | some l, some h => Ob (0 ≤ l ∧ l ≤ h ∧ h ≤ (0 : Nat)) (K (.v (.slice none 0 0)))
    | _, _ => False
  | _, _ => False

/-- The values of the bounds. -/
def Bnd (x : Option (Option AV)) (v : Option Value) : Prop :=
  match x, v with
  | none, none => True
  | some (some (.v (.int k i))), some (.int k' i') => k = k' ∧ i = i'
  | some (some (.v (.int _ _))), _ => False
  | some _, some _ => True
  | _, _ => False

theorem bound_cases {d : Nat} {x : Option (Option AV)} {v : Option Value} {l : Int} (h1 : Bnd x v) (h2 : boundOf d x = some l) : (v = none ∧ l = d) ∨ ∃ k, v = some (.int k l) := by
  unfold boundOf at h2
  split at h2
  · simp only [Option.some.injEq] at h2
    cases v with
    | none => exact .inl ⟨rfl, h2.symm⟩
    | some v => simp [Bnd] at h1
  · simp only [Option.some.injEq] at h2
    subst h2
    cases v with
    | none => simp [Bnd] at h1
    | some v =>
      cases v <;> simp only [Bnd] at h1
      obtain ⟨rfl, rfl⟩ := h1
      exact .inr ⟨_, rfl⟩
  · simp at h2

theorem run_bounds (w : World) (sl : Bool) (len cap : Nat) (lo hi : Option (Option AV)) (lv hv : Option Value) (l h : Int) (h1 : Bnd lo lv) (h2 : Bnd hi hv) (hl : boundOf 0 lo = some l) (hh : boundOf len hi = some h)
    (hb : 0 ≤ l ∧ l ≤ h ∧ h ≤ len) (hc : len ≤ cap) : (Instr.sliceBounds sl len cap lv hv none).run P w = .ok (l.toNat, h.toNat, cap) w := by
  obtain ⟨b1, b2, b3⟩ := hb
  rcases bound_cases h1 hl with ⟨rfl, rfl⟩ | ⟨k, rfl⟩ <;> rcases bound_cases h2 hh with ⟨rfl, rfl⟩ | ⟨k', rfl⟩
  · simp [Instr.sliceBounds]
  · have r1 := fun code => run_sliceBound (P := P) w k' h cap code (by omega) (by omega)
    simp [Instr.sliceBounds, r1]
  · have r1 := fun code => run_sliceBound (P := P) w k l len code (by omega) (by omega)
    simp [Instr.sliceBounds, r1]
  · have r1 := fun code => run_sliceBound (P := P) w k' h cap code (by omega) (by omega)
    have r2 := fun code => run_sliceBound (P := P) w k l h.toNat code (by omega) (by omega)
    simp [Instr.sliceBounds, r1, r2]

theorem run_sl {t : TypeId} {a : AV} {u : Value} {lo hi : Option (Option AV)} {lv hv : Option Value} {w : World} {ok : Nat → Prop} {L : Loc} (K : AV → Prop) (hu : Rd w ok L a u) (h1 : Bnd lo lv) (h2 : Bnd hi hv)
    (h : slVC (slT P t) a lo hi K) : ∃ r x, (∀ w, (Instr.sliceAt t u lv hv none).run P w = .ok r w) ∧ Rd w ok L x r ∧ K x := by
  have hsl : ∀ size, slT P t = .slice size → ∃ e i, P.underlying t = some (.slice e) ∧ P.info? e = some i ∧ i.size = size := by
    intro size hs
    unfold slT at hs
    split at hs
    · simp at hs
    · rename_i e he
      split at hs
      · rename_i i hi
        simp only [SlT.slice.injEq] at hs
        exact ⟨e, i, he, hi, hs⟩
      · simp at hs
    · simp at hs
  have hst : slT P t = .str → P.underlying t = some .string := by
    intro hs
    unfold slT at hs
    split at hs
    · assumption
    · split at hs <;> simp at hs
    · simp at hs
  unfold slVC at h
  split at h
  · rename_i st s e
    have hut := hst e
    split at h
    · rename_i l hh hl hhi
      obtain ⟨hb, hK⟩ := h
      cases hu
      have hr := fun w => run_bounds (P := P) w false s.size s.size lo hi lv hv l hh h1 h2 hl hhi hb (Nat.le_refl _)
      exact ⟨_, .v (.string (s.extract l.toNat hh.toNat)), fun w => by simp only [Instr.sliceAt, Instr.slice, Sem.run_bind, run_underlying hut, Result.andThen_ok, Option.isSome_none, Bool.false_eq_true, if_false, Sem.run_pure, hr], rfl, hK⟩
    · exact h.elim
  · rename_i size nn sz n f e
    obtain ⟨el, i, hut, hi', hsz⟩ := hsl _ e
    split at h
    · rename_i l hh hl hhi
      obtain ⟨rfl, hb, hK⟩ := h
      obtain ⟨x, cap, rfl, k1, k2, k3, k4⟩ := hu
      have hr := fun w => run_bounds (P := P) w true n cap lo hi lv hv l hh h1 h2 hl hhi hb k1
      have hso : ∀ w, (sizeOf el).run P w = .ok sz w := fun w => by simp [sizeOf, typeInfo, hi', hsz]
      refine ⟨_, .list nn sz (hh.toNat - l.toNat) (shF (l.toNat * sz) f), fun w => by simp only [Instr.sliceAt, Instr.slice, Sem.run_bind, run_underlying hut, Result.andThen_ok, Sem.run_pure, hr, hso]; rfl, ?_, hK⟩
      refine ⟨_, _, rfl, by omega, ?_, ?_, ?_⟩
      · intro hn hx
        have := k2 hn
        split at hx
        · exact this hx
        · simp at hx; exact this hx
      · intro hx
        have hx' : x = none := by
          split at hx
          · exact hx
          · simpa using hx
        have := k3 hx'
        omega
      · intro p hp i hi
        by_cases hc : cap = l.toNat
        · rw [if_pos hc] at hp
          have h0 : hh.toNat - l.toNat = 0 := by omega
          rw [h0] at hi
          omega
        · rw [if_neg hc] at hp
          cases x with
          | none => simp at hp
          | some q =>
            simp only [Option.map_some, Option.some.injEq] at hp
            subst hp
            have q2 := k4 q rfl
            have hlt : l.toNat * sz + i < n * sz := by
              have h5 : hh.toNat ≤ n := by omega
              have h6 := Nat.mul_le_mul_right sz h5
              rw [Nat.sub_mul] at hi
              omega
            rw [Addr_eq (q2 _ hlt).1, Addr_add]
            refine ⟨rfl, ?_⟩
            have := (q2 (l.toNat * sz + i) hlt).2
            simpa [shF, Nat.add_assoc] using this
    · exact h.elim
  · rename_i size g off sz n e
    obtain ⟨el, i, hut, hi', hsz⟩ := hsl _ e
    split at h
    · rename_i l hh hl hhi
      obtain ⟨rfl, hb, hK⟩ := h
      have hso : ∀ w, (sizeOf el).run P w = .ok sz w := fun w => by simp [sizeOf, typeInfo, hi', hsz]
      simp only [Rd] at hu
      split at hu
      · rename_i hlg
        obtain ⟨rfl, rfl⟩ := hu
        have hr := fun w => run_bounds (P := P) w true 0 0 lo hi lv hv l hh h1 h2 hl hhi hb (Nat.le_refl _)
        refine ⟨.slice none 0 0, .own g (off + l.toNat * sz) sz (hh.toNat - l.toNat), ?_, ?_, hK⟩
        · intro w
          simp only [Instr.sliceAt, Instr.slice, Sem.run_bind, run_underlying hut, Result.andThen_ok, Sem.run_pure, hr, hso]
          simp
          omega
        · simp only [Rd, hlg]
          exact ⟨trivial, by omega⟩
      · rename_i b s hlg
        obtain ⟨p, cap, rfl, q1, q2, q3, q4, q5, cs, ce, q6, q7⟩ := hu
        have hr := fun w => run_bounds (P := P) w true n cap lo hi lv hv l hh h1 h2 hl hhi hb q1
        refine ⟨_, .own g (off + l.toNat * sz) sz (hh.toNat - l.toNat), fun w => by simp only [Instr.sliceAt, Instr.slice, Sem.run_bind, run_underlying hut, Result.andThen_ok, Sem.run_pure, hr, hso]; rfl, ?_, hK⟩
        simp only [Rd, hlg]
        by_cases hc : cap = l.toNat
        · refine ⟨p, cap - l.toNat, by simp [hc], by omega, by omega, q3, q4, fun h => by omega, cs, ce, q6, ?_⟩
          have h0 : cap - l.toNat = 0 := by omega
          rw [h0, ← hc]
          omega
        · refine ⟨p.add (l.toNat * sz), cap - l.toNat, by simp [hc], by omega, by omega, ?_, ?_, fun h => ?_, cs, ce, q6, ?_⟩
          · rw [Addr_eq q4, Addr_add]; exact q3
          · rw [Addr_eq q4, Addr_add]
          · rw [Addr_eq q4, Addr_add, q5 (by omega)]
            simp [Nat.add_assoc]
          · rw [Nat.sub_mul]
            have h5 : l.toNat ≤ cap := by omega
            have h6 := Nat.mul_le_mul_right sz h5
            omega
    · exact h.elim
  · rename_i size e
    obtain ⟨el, i, hut, hi', hsz⟩ := hsl _ e
    split at h
    · rename_i l hh hl hhi
      obtain ⟨hb, hK⟩ := h
      have hso : ∀ w, (sizeOf el).run P w = .ok size w := fun w => by simp [sizeOf, typeInfo, hi', hsz]
      cases hu
      have hr := fun w => run_bounds (P := P) w true 0 0 lo hi lv hv l hh h1 h2 hl hhi hb (Nat.le_refl _)
      refine ⟨.slice none 0 0, .v (.slice none 0 0), ?_, rfl, hK⟩
      intro w
      simp only [Instr.sliceAt, Instr.slice, Sem.run_bind, run_underlying hut, Result.andThen_ok, Sem.run_pure, hr, hso]
      simp
      omega
    · exact h.elim
  · exact h.elim

end
end Go.Av

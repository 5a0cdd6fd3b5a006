/- What each operation asks and gives, over abstract frames: make, literals, variables, copy, slices of slices, fields, strings. -/
import Derived.Test.YtfgblelbhlpfjaaAv7
namespace Go.Av

section
variable {P : Program} {N : Cx} {A : Fr} {H : Hp} {K : AV → Fr → Hp → Prop}

theorem zF_get {zs : List Value} {z : Array Value} (hz : z.toList = zs) (i : Nat) (h0 : 0 < z.size) : zF zs i = .v (z[i % z.size]!) := by
  subst hz
  have hlt : i % z.size < z.size := Nat.mod_lt _ h0
  simp [zF, hlt]

/- make -/
def mkVC (pn : Nat → Bool) (se : Option SE) (d : Nat) (A : Fr) (H : Hp) (l c : AV) (K : AV → Fr → Hp → Prop) : Prop :=
  match se, l, c with
  | some se, .v (.int _ l), .v (.int _ c) =>
    Ob (pn d = false ∧ 0 ≤ l ∧ l ≤ c) (Ob (se.bytes * c ≤ 281474976710656 ∧ c ≤ 281474976710656) (K (.own d 0 se.size l.toNat) (A.scrub (· == d)) ((H.upd d (.cells (c.toNat * se.size) (zF se.zero))).scrub (· == d))))
  | _, _, _ => False

theorem run_mk {t : TypeId} {d : Nat} {a b : AV} {u v : Value} {w0 : World} {S : Rg} {w : World} {tm : Array Value} {L : Loc} (s : Sim N.n w0 S w tm L A H) (hS : Good N w0 S)
    (hu : Rd w (okb S H L) L a u) (hv : Rd w (okb S H L) L b v) (h : mkVC N.pn (selOf P t) d A H a b K) :
    ∃ r w' L' x A' H', (Instr.makeSlice t u v).run P w = .ok r w' ∧ Sim N.n w0 S w' tm L' A' H' ∧ Rd w' (okb S H' L') L' x r ∧ K x A' H' := by
  unfold mkVC at h
  split at h
  · rename_i se kl l kc c hse
    obtain ⟨⟨hpn, h1, h2⟩, ⟨h3, h4⟩, hK⟩ := h
    cases hu; cases hv
    obtain ⟨hut, ti, z, hi, e1, e2, e3, e4, e5⟩ := selOf_ok hse
    have hr := run_make (P := P) w t se.e ti z hut hi e3 kl kc l c h1 h2 (by rw [e2]; exact h3) (by omega)
    rw [e1] at hr
    have hsz := size_madeCells z.cells (c.toNat * se.size)
    have hal := s.alloc hS d (madeCells z.cells (c.toNat * se.size)) se.e (n := c.toNat * se.size) (f := zF se.zero) (by omega) (by
      intro i hi
      have h0 : 0 < z.cells.size := by
        rcases Nat.eq_zero_or_pos se.size with h | h
        · rw [h] at hi; omega
        · omega
      rw [zF_get e4 i h0]
      exact ⟨_, by simp [madeCells, hi], rfl⟩) hpn
    refine ⟨_, _, _, _, _, _, hr, hal, ?_, hK⟩
    simp only [Rd, if_true]
    refine ⟨_, c.toNat, rfl, by omega, by simp only [maxLen]; omega, rfl, rfl, fun _ => rfl, _, se.e, heap_alloc_new w _, ?_⟩
    rw [hsz]; omega
  · exact h.elim

/- new variables -/
def alVC (pn : Nat → Bool) (ty : Option TY) (d : Nat) (A : Fr) (H : Hp) (K : AV → Fr → Hp → Prop) : Prop :=
  match ty with
  | some ty => Ob (pn d = false) <| K (.ref d 0) (A.scrub (· == d)) ((H.upd d (.cells ty.size (zF ty.zero))).scrub (· == d))
  | none => False

theorem run_al {t : TypeId} {d : Nat} {x : Value} {w0 : World} {S : Rg} {w : World} {tm : Array Value} {L : Loc} (s : Sim N.n w0 S w tm L A H) (hS : Good N w0 S) (h : alVC N.pn (tyOf P t) d A H K) :
    ∃ r w' L' x' A' H', (Instr.alloc t true x).run P w = .ok r w' ∧ Sim N.n w0 S w' tm L' A' H' ∧ Rd w' (okb S H' L') L' x' r ∧ K x' A' H' := by
  unfold alVC at h
  split at h
  · rename_i ty hty
    obtain ⟨hpn, h⟩ := h
    obtain ⟨_, _, z, hz, e1, e2⟩ := tyOf_ok hty
    have hzs : z.cells.size = ty.size := by rw [← e2, ← e1]; simp
    have hal := s.alloc hS d z.cells t (n := ty.size) (f := zF ty.zero) (by omega) (by
      intro i hi
      rw [zF_get e1 i (by omega), Nat.mod_eq_of_lt (by omega)]
      exact ⟨z.cells[i]!, by simp [hzs, hi], rfl⟩) hpn
    refine ⟨.pointer (some ⟨w.heap.size, 0, none⟩), _, _, .ref d 0, _, _, ?_, hal, ?_, h⟩
    · simp [Instr.alloc, hz, newVar, newRow]
    · exact ⟨w.heap.size, 0, by simp, rfl⟩
  · exact h.elim

def boxVC (pn : Nat → Bool) (d : Nat) (A : Fr) (H : Hp) (x : AV) (K : AV → Fr → Hp → Prop) : Prop :=
  Ob (pn d = false) <| match aggOf x with
  | some (n, g) => K (.ref d 0) (A.scrub (· == d)) ((H.upd d (.cells n g)).scrub (· == d))
  | none => Ob (x.one = true) (K (.ref d 0) (A.scrub (· == d)) ((H.upd d (.cells 1 fun _ => x)).scrub (· == d)))

theorem run_bx {t : TypeId} {d : Nat} {x : AV} {u : Value} {w0 : World} {S : Rg} {w : World} {tm : Array Value} {L : Loc} (s : Sim N.n w0 S w tm L A H) (hS : Good N w0 S)
    (hu : Rd w (okb S H L) L x u) (h : boxVC N.pn d A H x K) :
    ∃ r w' L' x' A' H', (Instr.box t u).run P w = .ok r w' ∧ Sim N.n w0 S w' tm L' A' H' ∧ Rd w' (okb S H' L') L' x' r ∧ K x' A' H' := by
  unfold boxVC at h
  obtain ⟨hpn, h⟩ := h
  split at h
  · rename_i n g hx
    obtain ⟨cs, rfl, h1, h2⟩ := aggOf_ok hx hu
    have hal := s.alloc hS d cs t (n := n) (f := g) (by omega) h2 hpn
    exact ⟨.pointer (some ⟨w.heap.size, 0, none⟩), _, _, .ref d 0, _, _, by simp [Instr.box, newVar, newRow, Value.cells], hal, ⟨w.heap.size, 0, by simp, rfl⟩, h⟩
  · obtain ⟨h1, hK⟩ := h
    have hone := hu.one h1
    have hal := s.alloc hS d #[u] t (n := 1) (f := fun _ => x) (by simp) (fun i hi => ⟨u, by simp [show i = 0 by omega], hu⟩) hpn
    exact ⟨.pointer (some ⟨w.heap.size, 0, none⟩), _, _, .ref d 0, _, _, by simp [Instr.box, newVar, newRow, oneCell_cells hone], hal, ⟨w.heap.size, 0, by simp, rfl⟩, hK⟩

/- literals -/
/-- The cells of a part. -/
def partF (f : Nat → AV) (off : Nat) (x : AV) : Nat → AV :=
  match aggOf x with
  | some (n, g) => setsF f off n g
  | none => setF f off x
def partW (x : AV) : Option Nat :=
  match aggOf x with
  | some (n, _) => some n
  | none => if x.one then some 1 else none
def fillF (place : Nat → Option (Nat × Nat)) : List (Nat × AV) → (Nat → AV) → Nat → AV
  | [], f => f
  | (i, x) :: r, f =>
    match place i with
    | some (off, _) => fillF place r (partF f off x)
    | none => f
def fillOk (place : Nat → Option (Nat × Nat)) (n : Nat) : List (Nat × AV) → Prop
  | [] => True
  | (i, x) :: r =>
    match place i, partW x with
    | some (off, size), some k => (k = size ∧ off + size ≤ n) ∧ fillOk place n r
    | _, _ => False

theorem part_cells {x : AV} {k : Nat} (hk : partW x = some k) {w : World} {ok : Nat → Prop} {L : Loc} {u : Value} (hu : Rd w ok L x u) (f : Nat → AV) (off : Nat) :
    u.cells.size = k ∧ ∀ j, (∀ i, i < k → ∃ c, u.cells[i]? = some c ∧ (off + i = j → Rd w ok L (partF f off x j) c)) ∧ (¬ (off ≤ j ∧ j < off + k) → partF f off x j = f j) := by
  unfold partW at hk
  unfold partF
  split at hk
  · rename_i n g hx
    simp only [Option.some.injEq] at hk
    subst hk
    obtain ⟨cs, rfl, h1, h2⟩ := aggOf_ok hx hu
    refine ⟨h1, fun j => ⟨fun i hi => ?_, fun hn => ?_⟩⟩
    · obtain ⟨c, k1, k2⟩ := h2 i hi
      refine ⟨c, k1, fun e => ?_⟩
      subst e
      simp only [hx, setsF]
      rw [if_pos (by omega), Nat.add_sub_cancel_left]
      exact k2
    · simp only [hx, setsF]
      rw [if_neg hn]
  · rename_i hx
    split at hk
    · rename_i h1
      simp only [Option.some.injEq] at hk
      subst hk
      have hc := oneCell_cells (hu.one h1)
      refine ⟨by simp [hc], fun j => ⟨fun i hi => ⟨u, by simp [hc, show i = 0 by omega], fun e => ?_⟩, fun hn => ?_⟩⟩
      · simp only [hx, setF]
        rw [if_pos (by omega)]
        exact hu
      · simp only [hx, setF]
        rw [if_neg (by omega)]
    · simp at hk

theorem foldl_set (off : Nat) : ∀ (vs : List Value) (s : Nat) (cells : Array Value), off + s + vs.length ≤ cells.size →
    ((vs.zipIdx s).foldl (fun cs (x : Value × Nat) => cs.setIfInBounds (off + x.2) x.1) cells).size = cells.size ∧
    ∀ k, ((vs.zipIdx s).foldl (fun cs (x : Value × Nat) => cs.setIfInBounds (off + x.2) x.1) cells)[k]? = if off + s ≤ k ∧ k < off + s + vs.length then vs[k - (off + s)]? else cells[k]?
  | [], s, cells, _ => by
    refine ⟨rfl, fun k => ?_⟩
    rw [if_neg (fun h => by simp at h; omega)]
    rfl
  | v :: vs, s, cells, h => by
    simp only [List.zipIdx_cons, List.foldl_cons]
    simp only [List.length_cons] at h
    obtain ⟨h1, h2⟩ := foldl_set off vs (s + 1) (cells.setIfInBounds (off + s) v) (by simp; omega)
    refine ⟨by simpa using h1, fun k => ?_⟩
    rw [h2 k]
    by_cases c1 : off + (s + 1) ≤ k ∧ k < off + (s + 1) + vs.length
    · rw [if_pos c1, if_pos (by simp only [List.length_cons]; omega), show k - (off + s) = k - (off + (s + 1)) + 1 by omega]
      rfl
    · rw [if_neg c1]
      by_cases c2 : k = off + s
      · subst c2
        rw [if_pos (by simp only [List.length_cons]; omega)]
        have hlt : off + s < cells.size := by omega
        simp [hlt]
      · rw [if_neg (by simp only [List.length_cons]; omega)]
        simp [show ¬ off + s = k by omega]

theorem fill_ok {w : World} {ok : Nat → Prop} {L : Loc} (place : Nat → Option (Nat × Nat)) : ∀ (parts : List (Nat × AV)) (vs : List (Nat × Value)) (f : Nat → AV) (cells : Array Value),
    parts.length = vs.length → (∀ (k : Nat) (p : Nat × AV) (q : Nat × Value), parts[k]? = some p → vs[k]? = some q → p.1 = q.1 ∧ Rd w ok L p.2 q.2) → fillOk place cells.size parts →
    (∀ i, i < cells.size → ∃ c, cells[i]? = some c ∧ Rd w ok L (f i) c) →
    ∃ r, Instr.fill place cells vs = some r ∧ r.size = cells.size ∧ ∀ i, i < cells.size → ∃ c, r[i]? = some c ∧ Rd w ok L (fillF place parts f i) c
  | [], [], f, cells, _, _, _, hf => ⟨cells, rfl, rfl, hf⟩
  | [], _ :: _, _, _, h, _, _, _ => by simp at h
  | _ :: _, [], _, _, h, _, _, _ => by simp at h
  | (i, x) :: parts, (i', u) :: vs, f, cells, hl, hr, hok, hf => by
    obtain ⟨e, hx⟩ := hr 0 (i, x) (i', u) rfl rfl
    simp only at e hx
    subst e
    simp only [fillOk] at hok
    split at hok
    · rename_i off size k hp hk
      obtain ⟨⟨rfl, hfit⟩, hok⟩ := hok
      obtain ⟨hcs, hpt⟩ := part_cells hk hx f off
      have hfold := foldl_set off u.cells.toList 0 cells (by simp; omega)
      simp only [Nat.add_zero, Array.length_toList] at hfold
      have hzip : (u.cells.zipIdx.foldl (fun cs (x : Value × Nat) => cs.setIfInBounds (off + x.2) x.1) cells) = (u.cells.toList.zipIdx 0).foldl (fun cs (x : Value × Nat) => cs.setIfInBounds (off + x.2) x.1) cells := by
        rw [← Array.foldl_toList]; simp
      obtain ⟨r, r1, r2, r3⟩ := fill_ok place parts vs (partF f off x) ((u.cells.toList.zipIdx 0).foldl (fun cs (x : Value × Nat) => cs.setIfInBounds (off + x.2) x.1) cells) (by simpa using hl)
        (fun k p q h1 h2 => hr (k + 1) p q h1 h2) (by rw [hfold.1]; exact hok) (by
          intro j hj
          rw [hfold.1] at hj
          rw [hfold.2 j]
          by_cases c1 : off ≤ j ∧ j < off + u.cells.size
          · rw [if_pos c1]
            obtain ⟨c, k1, k2⟩ := (hpt j).1 (j - off) (by omega)
            exact ⟨c, by simpa using k1, k2 (by omega)⟩
          · rw [if_neg c1, (hpt j).2 (by omega)]
            exact hf j hj)
      refine ⟨r, ?_, r2.trans hfold.1, fun j hj => ?_⟩
      · simp only [Instr.fill, hp]
        rw [if_neg (by simp; omega), hzip]
        exact r1
      · simp only [fillF, hp]
        exact r3 j (by rw [hfold.1]; exact hj)
    · exact hok.elim

def evParts (A : Fr) : List (Nat × Operand) → Option (List (Nat × AV))
  | [] => some []
  | (i, x) :: r =>
    match A.ev x, evParts A r with
    | some a, some l => some ((i, a) :: l)
    | _, _ => none

theorem evParts_ok {w0 : World} {S : Rg} {w : World} {a : Act} {L : Loc} (s : Sim N.n w0 S w a.tmps L A H) : ∀ (ps : List (Nat × Operand)) (l : List (Nat × AV)), evParts A ps = some l →
    l.length = (ps.map fun (i, x) => (i, a.eval x)).length ∧ ∀ (k : Nat) (p : Nat × AV) (q : Nat × Value), l[k]? = some p → (ps.map fun (i, x) => (i, a.eval x))[k]? = some q → p.1 = q.1 ∧ Rd w (okb S H L) L p.2 q.2
  | [], l, h => by simp [evParts] at h; subst h; simp
  | (i, x) :: r, l, h => by
    simp only [evParts] at h
    split at h
    · rename_i b l' hb hl
      simp only [Option.some.injEq] at h
      subst h
      obtain ⟨h1, h2⟩ := evParts_ok s r l' hl
      refine ⟨by simpa using h1, fun k p q hp hq => ?_⟩
      cases k with
      | zero =>
        simp at hp hq
        subst hp hq
        exact ⟨rfl, s.ev hb⟩
      | succ k => exact h2 k p q (by simpa using hp) (by simpa using hq)
    · simp at h

def bsVC (pn : Nat → Bool) (se : Option SE) (d : Nat) (A : Fr) (H : Hp) (len : Nat) (parts : Option (List (Nat × AV))) (K : AV → Fr → Hp → Prop) : Prop :=
  match se, parts with
  | some se, some ps =>
    Ob ((pn d = false ∧ 0 < se.size ∧ len * se.size ≤ 16777216) ∧ fillOk (fun i => some (i * se.size, se.size)) (len * se.size) ps)
      (K (.own d 0 se.size len) (A.scrub (· == d)) ((H.upd d (.cells (len * se.size) (fillF (fun i => some (i * se.size, se.size)) ps (zF se.zero)))).scrub (· == d)))
  | _, _ => False

theorem run_bs {t : TypeId} {d len : Nat} {ps : List (Nat × Operand)} {w0 : World} {S : Rg} {w : World} {a : Act} {L : Loc} (s : Sim N.n w0 S w a.tmps L A H) (hS : Good N w0 S)
    (h : bsVC N.pn (selOf P t) d A H len (evParts A ps) K) :
    ∃ r w' L' x' A' H', (Instr.buildSlice t len (ps.toArray.map fun (i, x) => (i, a.eval x))).run P w = .ok r w' ∧ Sim N.n w0 S w' a.tmps L' A' H' ∧ Rd w' (okb S H' L') L' x' r ∧ K x' A' H' := by
  unfold bsVC at h
  split at h
  · rename_i se l hse hl
    obtain ⟨⟨⟨hpn, h01, h1⟩, h2⟩, hK⟩ := h
    obtain ⟨hut, ti, z, hi, e1, e2, e3, e4, e5⟩ := selOf_ok hse
    obtain ⟨p1, p2⟩ := evParts_ok s ps l hl
    have hex : ∃ zc : Array Value, (if len * se.size = 0 then pure #[] else (do pure (← zeroValue se.e).cells) : Sem (Array Value)).run P w = .ok zc w ∧ (0 < len * se.size → zc = z.cells) := by
      by_cases h0 : len * se.size = 0
      · exact ⟨#[], by simp [h0], fun h => by omega⟩
      · exact ⟨z.cells, by simp only [h0, if_false]; simp [zeroValue, typeInfo, hi, e3], fun _ => rfl⟩
    obtain ⟨zc, hz, hzc⟩ := hex
    obtain ⟨r, r1, r2, r3⟩ := fill_ok (w := w) (ok := okb S H L) (L := L) (fun i => some (i * se.size, se.size)) l (ps.map fun (i, x) => (i, a.eval x)) (zF se.zero)
      ((Array.range (len * se.size)).map (zc[· % zc.size]!)) p1 p2 (by simpa using h2) (by
        intro i hi
        simp at hi
        have := hzc (by omega)
        subst this
        have hz0 : 0 < z.cells.size := by omega
        rw [zF_get e4 i hz0]
        exact ⟨_, by simp [hi], rfl⟩)
    simp at r2
    have hal := s.alloc hS d r se.e (n := len * se.size) (f := fillF (fun i => some (i * se.size, se.size)) l (zF se.zero)) (by omega) (fun i hi => r3 i (by simpa using hi)) hpn
    refine ⟨.slice (some ⟨w.heap.size, 0, none⟩) len len, _, _, .own d 0 se.size len, _, _, ?_, hal, ?_, hK⟩
    · have hnot : ¬ (16777216 < len * se.size) := by omega
      have hso : (sizeOf se.e).run P w = .ok se.size w := by simp [sizeOf, typeInfo, hi, e1]
      by_cases h0 : len * se.size = 0
      · have hzc0 : zc = #[] := by simpa [h0] using hz.symm
        subst hzc0
        simp only [h0] at r1
        unfold Instr.buildSlice
        have e0 : ∀ (f : Nat → Value), Array.map f (Array.range 0) = #[] := fun f => Array.eq_empty_of_size_eq_zero (by simp)
        rw [e0] at r1
        simp only [Sem.run_bind, run_underlying hut, Result.andThen_ok, hso, h0]
        simp [r1, newRow, e0]
      · have hzc1 := hzc (by omega)
        subst hzc1
        have hzz : (zeroValue se.e).run P w = .ok z w := by simp [zeroValue, typeInfo, hi, e3]
        unfold Instr.buildSlice
        simp only [Sem.run_bind, run_underlying hut, Result.andThen_ok, hso, Sem.run_ite, h0, if_false, hzz]
        simp [hnot, r1, newRow]
    · simp only [Rd, if_true]
      exact ⟨_, len, rfl, Nat.le_refl _, by simp only [maxLen]; have := Nat.le_mul_of_pos_right len h01; omega, rfl, rfl, fun _ => rfl, _, se.e, heap_alloc_new w _, by omega⟩
  · exact h.elim

end
end Go.Av

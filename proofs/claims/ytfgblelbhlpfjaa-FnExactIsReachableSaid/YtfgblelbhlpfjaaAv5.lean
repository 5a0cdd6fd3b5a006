/- What each operation asks and gives, over abstract frames: reads, places, lengths. -/
import Derived.Test.YtfgblelbhlpfjaaAv4
import Derived.Laws.Slices
namespace Go.Av

/-- A slice type's element type: its number, its cells, its bytes, its zero value's cells. -/
structure SE where
  e : TypeId
  size : Nat
  bytes : Nat
  zero : List Value

def selOf (P : Program) (t : TypeId) : Option SE :=
  match P.underlying t with
  | some (.slice e) =>
    match P.info? e with
    | some i =>
      match i.zero with
      | some z => if z.cells.size = i.size then some ⟨e, i.size, i.bytes, z.cells.toList⟩ else none
      | none => none
    | none => none
  | _ => none

theorem selOf_ok {P : Program} {t : TypeId} {se : SE} (h : selOf P t = some se) :
    P.underlying t = some (.slice se.e) ∧ ∃ i z, P.info? se.e = some i ∧ i.size = se.size ∧ i.bytes = se.bytes ∧ i.zero = some z ∧ z.cells.toList = se.zero ∧ z.cells.size = i.size := by
  unfold selOf at h
  split at h
  · rename_i e hu
    split at h
    · rename_i i hi
      split at h
      · rename_i z hz
        split at h
        · rename_i hs
          simp only [Option.some.injEq] at h
          subst h
          exact ⟨hu, i, z, hi, rfl, rfl, hz, rfl, hs⟩
        · simp at h
      · simp at h
    · simp at h
  · simp at h

/-- A variable's type: is it a struct or an array? how many cells? its zero value's cells. -/
structure TY where
  agg : Bool
  size : Nat
  zero : List Value

def isAggD : TypeDesc → Bool
  | .struct _ | .array _ _ => true
  | _ => false

def tyOf (P : Program) (t : TypeId) : Option TY :=
  match P.underlying t, P.info? t with
  | some d, some i =>
    match i.zero with
    | some z => if z.cells.size = i.size then some ⟨isAggD d, i.size, z.cells.toList⟩ else none
    | none => none
  | _, _ => none

theorem tyOf_ok {P : Program} {t : TypeId} {ty : TY} (h : tyOf P t = some ty) :
    (∀ w, (isAgg t).run P w = .ok ty.agg w) ∧ (∀ w, (sizeOf t).run P w = .ok ty.size w) ∧ ∃ z, (∀ w, (zeroValue t).run P w = .ok z w) ∧ z.cells.toList = ty.zero ∧ ty.zero.length = ty.size := by
  unfold tyOf at h
  split at h
  · rename_i d i hu hi
    split at h
    · rename_i z hz
      split at h
      · rename_i hs
        simp only [Option.some.injEq] at h
        subst h
        refine ⟨fun w => ?_, fun w => by simp [sizeOf, typeInfo, hi], z, fun w => by simp [zeroValue, typeInfo, hi, hz], rfl, by simp [hs]⟩
        simp [isAgg, run_underlying hu, isAggD]
        cases d <;> rfl
      · simp at h
    · simp at h
  · simp at h

section
variable {P : Program} {N : Cx} {A : Fr} {H : Hp} {K : AV → Fr → Hp → Prop}

/- len, cap -/
def lenVC (a : AV) (K : AV → Prop) : Prop :=
  match a with
  | .list _ _ n _ => K (.v (.int .i64 n))
  | .own _ _ _ n => K (.v (.int .i64 n))
  | .v (.slice _ n _) => K (.v (.int .i64 n))
  | .v (.string s) => K (.v (.int .i64 s.size))
  | _ => False

/-- What len asks of a type. -/
inductive LenT | str | slice | other
  deriving DecidableEq
def lenT (P : Program) (t : TypeId) : LenT :=
  match P.underlying t with
  | some .string => .str
  | some (.slice _) => .slice
  | _ => .other
def lenTOk : LenT → AV → Bool
  | .str, .v (.string _) => true
  | .slice, .list .. => true
  | .slice, .own .. => true
  | .slice, .v (.slice ..) => true
  | _, _ => false

theorem own_form {w : World} {ok : Nat → Prop} {L : Loc} {h off sz n : Nat} {u : Value} (hu : Rd w ok L (.own h off sz n) u) : ∃ x cap, u = .slice x n cap ∧ n ≤ cap := by
  simp only [Rd] at hu
  split at hu
  · obtain ⟨rfl, rfl⟩ := hu; exact ⟨none, 0, rfl, Nat.le_refl _⟩
  · obtain ⟨x, cap, h1, h2, _⟩ := hu; exact ⟨some x, cap, h1, h2⟩

theorem run_len {t ty : TypeId} {a : AV} {u : Value} {w : World} {ok : Nat → Prop} {L : Loc} (K : AV → Prop) (ht : lenTOk (lenT P t) a = true) (hu : Rd w ok L a u) (h : lenVC a K) :
    ∃ r, (∀ w, (Builtin.len_ #[t] ty #[u]).run P w = .ok r w) ∧ K (.v r) := by
  have hs : lenT P t = .slice → ∃ e, P.underlying t = some (.slice e) := by
    intro h; unfold lenT at h; split at h <;> simp_all
  have hstr : lenT P t = .str → P.underlying t = some .string := by
    intro h; unfold lenT at h; split at h <;> simp_all
  unfold lenTOk at ht
  split at ht
  · rename_i hq
    cases hu
    exact ⟨_, fun w => by simp [Builtin.len_, goInt, run_underlying (hstr hq)], h⟩
  · rename_i hq
    obtain ⟨e, he⟩ := hs hq
    obtain ⟨x, cap, rfl, _⟩ := hu
    exact ⟨_, fun w => by simp [Builtin.len_, goInt, run_underlying he], h⟩
  · rename_i hq
    obtain ⟨e, he⟩ := hs hq
    obtain ⟨x, cap, rfl, _⟩ := own_form hu
    exact ⟨_, fun w => by simp [Builtin.len_, goInt, run_underlying he], h⟩
  · rename_i hq
    obtain ⟨e, he⟩ := hs hq
    cases hu
    exact ⟨_, fun w => by simp [Builtin.len_, goInt, run_underlying he], h⟩
  · simp at ht

/- places -/
def ixVC (se : Option SE) (a b : AV) (K : AV → Prop) : Prop :=
  match se, a, b with
  | some se, .list _ sz n f, .v (.int _ i) => Ob (sz = se.size ∧ 0 < sz) (Ob (0 ≤ i ∧ i < n) (K (.ptr sz fun j => f (i.toNat * sz + j))))
  | some se, .own h off sz n, .v (.int _ i) => Ob (sz = se.size ∧ 0 < sz) (Ob (0 ≤ i ∧ i < n) (K (.ref h (off + i.toNat * sz))))
  | _, _, _ => False

theorem Addr_add (b o k : Nat) : (⟨b, o, none⟩ : Addr).add k = ⟨b, o + k, none⟩ := by
  unfold Addr.add; split <;> simp_all
theorem Addr_eq {p : Addr} (h : p.spot = none) : p = ⟨p.block, p.off, none⟩ := by cases p; simp_all

theorem run_indexAt {t : TypeId} {a b : AV} {u v : Value} {w : World} {ok : Nat → Prop} {L : Loc} (K : AV → Prop) (hu : Rd w ok L a u) (hv : Rd w ok L b v) (h : ixVC (selOf P t) a b K) :
    ∃ r x, (∀ w, (Instr.indexAt t u v).run P w = .ok r w) ∧ Rd w ok L x r ∧ K x := by
  unfold ixVC at h
  split at h
  · rename_i se nn sz n f k i hse
    obtain ⟨hut, ii, z, hi, hsz, _⟩ := selOf_ok hse
    obtain ⟨⟨e1, e1'⟩, ⟨e2, e3⟩, hK⟩ := h
    obtain ⟨x, cap, rfl, h1, h2, h3, h4⟩ := hu
    cases hv
    have hn : 0 < n := by omega
    cases x with
    | none => exact absurd (h3 rfl).1 (by omega)
    | some p =>
      have hc := h4 p rfl
      have hp : p.spot = none := (hc (i.toNat * sz) (Nat.mul_lt_mul_of_pos_right (by omega) e1')).1
      refine ⟨_, _, fun w => by simp [Instr.indexAt, run_underlying hut, asIntOf, e2, e3, sizeOf, typeInfo, hi]; rfl, ?_, hK⟩
      rw [Addr_eq hp, Addr_add, hsz, ← e1]
      refine ⟨_, rfl, rfl, fun j hj => ?_⟩
      have hb : i.toNat * sz + j < n * sz := by
        have h5 : i.toNat + 1 ≤ n := by omega
        have h6 := Nat.mul_le_mul_right sz h5
        rw [Nat.succ_mul] at h6
        omega
      have := (hc _ hb).2
      simpa [Nat.add_assoc] using this
  · rename_i se hh off sz n k i hse
    obtain ⟨hut, ii, z, hi, hsz, _⟩ := selOf_ok hse
    obtain ⟨⟨e1, e1'⟩, ⟨e2, e3⟩, hK⟩ := h
    cases hv
    simp only [Rd] at hu
    split at hu
    · obtain ⟨_, h0⟩ := hu; omega
    · rename_i b s hl
      obtain ⟨p, cap, rfl, h1, h2, h3, h4, h5, _⟩ := hu
      refine ⟨_, _, fun w => by simp [Instr.indexAt, run_underlying hut, asIntOf, e2, e3, sizeOf, typeInfo, hi]; rfl, ?_, hK⟩
      rw [Addr_eq h4, Addr_add, hsz, ← e1, h3, h5 (by omega)]
      exact ⟨b, s, hl, by simp [Nat.add_assoc]⟩
  · exact h.elim

/- loads -/
def ldVC (ty : Option TY) (H : Hp) (a : AV) (K : AV → Prop) : Prop :=
  match ty, a with
  | some ⟨false, _, _⟩, .ptr n f => Ob (0 < n) (K (f 0))
  | some ⟨true, s, _⟩, .ptr n f => Ob (s ≤ n) (K (.agg s f))
  | some ⟨false, _, _⟩, .ref h off =>
    match H h with
    | some (.cells n f) => Ob (off < n) (K (f off))
    | _ => False
  | some ⟨true, s, _⟩, .ref h off =>
    match H h with
    | some (.cells n f) => Ob (off + s ≤ n) (K (.agg s fun j => f (off + j)))
    | _ => False
  | _, _ => False

theorem run_loadCells_rd {w : World} {ok : Nat → Prop} {L : Loc} (b o n : Nat) (f : Nat → AV) (h : ∀ i, i < n → ∃ c, w.cell? ⟨b, o + i, none⟩ = some c ∧ Rd w ok L (f i) c) :
    ∃ cs, (loadCells ⟨b, o, none⟩ n).run P w = .ok cs w ∧ cs.size = n ∧ ∀ i, i < n → ∃ c, cs[i]? = some c ∧ Rd w ok L (f i) c ∧ w.cell? ⟨b, o + i, none⟩ = some c := by
  have hf : ∀ i, ∃ c, i < n → w.cell? ⟨b, o + i, none⟩ = some c ∧ Rd w ok L (f i) c := fun i => by
    by_cases hi : i < n
    · obtain ⟨c, hc⟩ := h i hi; exact ⟨c, fun _ => hc⟩
    · exact ⟨undef, fun h => absurd h hi⟩
  have hg := Classical.axiomOfChoice hf
  obtain ⟨g, hg⟩ := hg
  refine ⟨_, run_loadCells w ⟨b, o, none⟩ n g (fun j hj => by rw [Addr_add]; exact (hg j hj).1), by simp, fun i hi => ?_⟩
  exact ⟨g i, by simp [hi], (hg i hi).2, (hg i hi).1⟩

theorem run_loadAt {t : TypeId} {a : AV} {u : Value} {w0 : World} {S : Rg} {w : World} {tm : Array Value} {L : Loc} (s : Sim N.n w0 S w tm L A H) (K : AV → Prop) (hu : Rd w (okb S H L) L a u) (h : ldVC (tyOf P t) H a K) :
    ∃ r x, (∀ w', (∀ b, b < w.heap.size → w'.heap[b]? = w.heap[b]?) → (Instr.loadAt t u).run P w' = .ok r w') ∧ Rd w (okb S H L) L x r ∧ K x := by
  have same : ∀ (w' : World), (∀ b, b < w.heap.size → w'.heap[b]? = w.heap[b]?) → ∀ (b o : Nat) (c : Value), w.cell? ⟨b, o, none⟩ = some c → w'.cell? ⟨b, o, none⟩ = some c := by
    intro w' hw b o c hc
    have hlt := World.block_lt_of_cell? w _ hc
    rw [World.cell?_of_block (w := w) (a := ⟨b, o, none⟩) (hw b hlt)]; exact hc
  have sameL : ∀ (w' : World), (∀ b, b < w.heap.size → w'.heap[b]? = w.heap[b]?) → ∀ (b o n : Nat) (cs : Array Value), cs.size = n → (∀ i, i < n → ∃ c, cs[i]? = some c ∧ w.cell? ⟨b, o + i, none⟩ = some c) → (loadCells ⟨b, o, none⟩ n).run P w' = .ok cs w' := by
    intro w' hw b o n cs hn hc
    have := run_loadCells_list (P := P) w' ⟨b, o, none⟩ cs.toList (fun j v hj => by
      have hjl : j < n := by have := (List.getElem?_eq_some_iff.1 hj).1; simp at this; omega
      obtain ⟨c, h1, h2⟩ := hc j hjl
      rw [Addr_add]
      simp only [Array.getElem?_toList] at hj
      rw [h1] at hj
      simp only [Option.some.injEq] at hj
      subst hj
      exact same w' hw _ _ _ h2)
    simpa [hn] using this
  unfold ldVC at h
  split at h
  · rename_i sz z n f hty
    obtain ⟨hag, _⟩ := tyOf_ok hty
    obtain ⟨p, rfl, hp, hc⟩ := hu
    obtain ⟨h1, hK⟩ := h
    obtain ⟨_, c, hc1, hc2⟩ := hc 0 h1
    rw [Addr_eq hp]
    exact ⟨c, _, fun w' hw => by simp only [Nat.add_zero] at hc1; simp [Instr.loadAt, Instr.sureAddr, loadVar, hag, same w' hw _ _ _ hc1], hc2 L, hK⟩
  · rename_i sz z n f hty
    obtain ⟨hag, hsz, _⟩ := tyOf_ok hty
    obtain ⟨p, rfl, hp, hc⟩ := hu
    obtain ⟨h1, hK⟩ := h
    rw [Addr_eq hp]
    obtain ⟨cs, k1, k2, k3⟩ := run_loadCells_rd (P := P) (w := w) (ok := okb S H L) (L := L) p.block p.off sz f (fun i hi => let ⟨_, c, k1, k2⟩ := hc i (by omega); ⟨c, k1, k2 L⟩)
    exact ⟨.agg cs, .agg sz f, fun w' hw => by simp [Instr.loadAt, Instr.sureAddr, loadVar, hag, hsz, sameL w' hw _ _ _ cs k2 (fun i hi => let ⟨c, k4, _, k6⟩ := k3 i hi; ⟨c, k4, k6⟩)], ⟨cs, rfl, k2, fun i hi => let ⟨c, k4, k5, _⟩ := k3 i hi; ⟨c, k4, k5⟩⟩, hK⟩
  · rename_i sz z hh off hty
    obtain ⟨hag, _⟩ := tyOf_ok hty
    split at h
    · rename_i n f hH
      obtain ⟨h1, hK⟩ := h
      obtain ⟨b, s', hl, rfl⟩ := hu
      have hb := s.blk hh _ hH
      rw [hl] at hb
      obtain ⟨cs, e, k1, k2, k3⟩ := hb
      obtain ⟨c, k4, k5⟩ := k3 off h1
      have hcell : w.cell? ⟨b, s' + off, none⟩ = some c := by simp [World.cell?, k1, k4]
      exact ⟨c, _, fun w' hw => by simp [Instr.loadAt, Instr.sureAddr, loadVar, hag, same w' hw _ _ _ hcell], k5, hK⟩
    · exact h.elim
  · rename_i sz z hh off hty
    obtain ⟨hag, hsz, _⟩ := tyOf_ok hty
    split at h
    · rename_i n f hH
      obtain ⟨h1, hK⟩ := h
      obtain ⟨b, s', hl, rfl⟩ := hu
      have hb := s.blk hh _ hH
      rw [hl] at hb
      obtain ⟨cs, e, k1, k2, k3⟩ := hb
      obtain ⟨cs', j1, j2, j3⟩ := run_loadCells_rd (P := P) (w := w) (ok := okb S H L) (L := L) b (s' + off) sz (fun j => f (off + j)) (fun i hi => by
        obtain ⟨c, k4, k5⟩ := k3 (off + i) (by omega)
        exact ⟨c, by simp [World.cell?, k1, Nat.add_assoc, k4], k5⟩)
      exact ⟨.agg cs', .agg sz fun j => f (off + j), fun w' hw => by simp [Instr.loadAt, Instr.sureAddr, loadVar, hag, hsz, sameL w' hw _ _ _ cs' j2 (fun i hi => let ⟨c, k4, _, k6⟩ := j3 i hi; ⟨c, k4, k6⟩)], ⟨cs', rfl, j2, fun i hi => let ⟨c, k4, k5, _⟩ := j3 i hi; ⟨c, k4, k5⟩⟩, hK⟩
    · exact h.elim
  · exact h.elim

end
end Go.Av

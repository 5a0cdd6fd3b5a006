/- What each operation asks and gives, over abstract frames: fields, structs, strings, conversions; and all operations together. -/
import Derived.Test.YtfgblelbhlpfjaaAv9
import Derived.Laws.IdiomStrings
import Derived.Laws.BytesString
namespace Go.Av

/-- The worlds that a quiet region may come to: new blocks apart, as w. -/
def Cw (w w' : World) : Prop := Keep w (fun b => w.heap.size ≤ b) w'

theorem Cw.blk {w w' : World} (h : Cw w w') : ∀ b, b < w.heap.size → w'.heap[b]? = w.heap[b]? := fun b hb => Keep.blk h b hb (by omega)

section
variable {P : Program} {N : Cx} {A : Fr} {H : Hp} {K : AV → Fr → Hp → Prop}

/- fields -/
structure FD where
  off : Nat
  size : Nat
  agg : Bool

def fldOf (P : Program) (s : TypeId) (i : Nat) : Option FD :=
  match P.underlying s with
  | some (.struct fields) =>
    match fields[i]? with
    | some f =>
      match tyOf P f.type with
      | some ty => if ty.size = 0 then none else some ⟨f.offset, ty.size, ty.agg⟩
      | none => none
    | none => none
  | _ => none

theorem fldOf_ok {s : TypeId} {i : Nat} {fd : FD} (h : fldOf P s i = some fd) :
    ∃ fields f, P.underlying s = some (.struct fields) ∧ fields[i]? = some f ∧ f.offset = fd.off ∧ (∀ w, (sizeOf f.type).run P w = .ok fd.size w) ∧ (∀ w, (isAgg f.type).run P w = .ok fd.agg w) ∧ 0 < fd.size := by
  unfold fldOf at h
  split at h
  · rename_i fields hu
    split at h
    · rename_i f hf
      split at h
      · rename_i ty hty
        split at h
        · simp at h
        · rename_i h0
          simp only [Option.some.injEq] at h
          subst h
          obtain ⟨k1, k2, _⟩ := tyOf_ok hty
          exact ⟨fields, f, hu, hf, rfl, k2, k1, by show 0 < ty.size; omega⟩
      · simp at h
    · simp at h
  · simp at h

def faVC (fd : Option FD) (a : AV) (K : AV → Prop) : Prop :=
  match fd, a with
  | some fd, .ref h off => K (.ref h (off + fd.off))
  | some fd, .ptr n f => Ob (fd.off ≤ n) (K (.ptr (n - fd.off) (shF fd.off f)))
  | _, _ => False

theorem run_fa {t : TypeId} {i : Nat} {a : AV} {u : Value} {w : World} {ok : Nat → Prop} {L : Loc} (K : AV → Prop) (hu : Rd w ok L a u) (h : faVC (fldOf P t i) a K) :
    ∃ r x, (∀ w, (Instr.fieldAt t u i).run P w = .ok r w) ∧ Rd w ok L x r ∧ K x := by
  unfold faVC at h
  split at h
  · rename_i fd g off hfd
    obtain ⟨fields, f, k1, k2, k3, k4, _, k5⟩ := fldOf_ok hfd
    obtain ⟨b, s, hl, rfl⟩ := hu
    refine ⟨.pointer (some ((⟨b, s + off, none⟩ : Addr).add f.offset)), .ref g (off + fd.off), ?_, ⟨b, s, hl, by rw [Addr_add, k3, Nat.add_assoc]⟩, h⟩
    intro w; simp [Instr.fieldAt, run_underlying k1, k2, Instr.sureAddr, fieldPlace, k4, show ¬ fd.size = 0 by omega]
  · rename_i fd n f hfd
    obtain ⟨hle, hK⟩ := h
    obtain ⟨fields, ff, k1, k2, k3, k4, _, k5⟩ := fldOf_ok hfd
    obtain ⟨p, rfl, h1, h2⟩ := hu
    refine ⟨.pointer (some (p.add ff.offset)), .ptr (n - fd.off) (shF fd.off f), ?_, ⟨_, rfl, by rw [Addr_eq h1, Addr_add], fun j hj => ?_⟩, hK⟩
    · intro w; simp [Instr.fieldAt, run_underlying k1, k2, Instr.sureAddr, fieldPlace, k4, show ¬ fd.size = 0 by omega]
    · rw [Addr_eq h1, Addr_add, k3]
      have := h2 (fd.off + j) (by omega)
      simpa [shF, Nat.add_assoc] using this
  · exact h.elim

def fdVC (fd : Option FD) (a : AV) (K : AV → Prop) : Prop :=
  match fd, aggOf a with
  | some fd, some (n, g) => Ob (fd.off + fd.size ≤ n) (K (if fd.agg then .agg fd.size (shF fd.off g) else g fd.off))
  | _, _ => False

theorem run_fd {t : TypeId} {i : Nat} {a : AV} {u : Value} {w : World} {ok : Nat → Prop} {L : Loc} (K : AV → Prop) (hu : Rd w ok L a u) (h : fdVC (fldOf P t i) a K) :
    ∃ r x, (∀ w, (Instr.field t u i).run P w = .ok r w) ∧ Rd w ok L x r ∧ K x := by
  unfold fdVC at h
  split at h
  · rename_i fd n g hfd hg
    obtain ⟨hle, hK⟩ := h
    obtain ⟨fields, f, k1, k2, k3, k4, k6, k5⟩ := fldOf_ok hfd
    obtain ⟨cs, rfl, c1, c2⟩ := aggOf_ok hg hu
    cases hag : fd.agg with
    | true =>
      rw [hag] at hK
      refine ⟨.agg (cs.extract fd.off (fd.off + fd.size)), .agg fd.size (shF fd.off g), ?_, ⟨_, rfl, by simp; omega, fun j hj => ?_⟩, hK⟩
      · intro w; simp [Instr.field, run_underlying k1, k2, asAgg, part, k6, hag, k4, k3]
      · obtain ⟨c, d1, d2⟩ := c2 (fd.off + j) (by omega)
        refine ⟨c, ?_, d2⟩
        rw [Array.getElem?_extract, if_pos (by omega)]
        exact d1
    | false =>
      rw [hag] at hK
      obtain ⟨c, d1, d2⟩ := c2 fd.off (by omega)
      exact ⟨c, g fd.off, fun w => by simp [Instr.field, run_underlying k1, k2, asAgg, part, k6, hag, k3, d1], d2, hK⟩
  · exact h.elim

/- struct literals -/
structure BD where
  size : Nat
  zero : List Value
  places : List (Nat × Nat)

def bldOf (P : Program) (t : TypeId) : Option BD :=
  match P.underlying t, P.info? t with
  | some (.struct fields), some it =>
    match it.zero, fields.toList.mapM (fun f => (P.info? f.type).map fun i => (f.offset, i.size)) with
    | some z, some places => some ⟨z.cells.size, z.cells.toList, places⟩
    | _, _ => none
  | _, _ => none

def bdVC (bd : Option BD) (parts : Option (List (Nat × AV))) (K : AV → Prop) : Prop :=
  match bd, parts with
  | some bd, some ps => Ob (fillOk (fun i => bd.places[i]?) bd.size ps) (K (.agg bd.size (fillF (fun i => bd.places[i]?) ps (zF bd.zero))))
  | _, _ => False

theorem run_bd {t : TypeId} {ps : List (Nat × Operand)} {w0 : World} {S : Rg} {w : World} {a : Act} {L : Loc} (s : Sim N.n w0 S w a.tmps L A H) (K : AV → Prop)
    (h : bdVC (bldOf P t) (evParts A ps) K) : ∃ r x, (Instr.build t (ps.toArray.map fun (i, x) => (i, a.eval x))).run P w = .ok r w ∧ Rd w (okb S H L) L x r ∧ K x := by
  unfold bdVC at h
  split at h
  · rename_i bd l hbd hl
    obtain ⟨h2, hK⟩ := h
    obtain ⟨p1, p2⟩ := evParts_ok s ps l hl
    unfold bldOf at hbd
    split at hbd
    · rename_i fields it hu hi
      split at hbd
      · rename_i z places hz hp
        simp only [Option.some.injEq] at hbd
        subst hbd
        obtain ⟨r, r1, r2, r3⟩ := fill_ok (w := w) (ok := okb S H L) (L := L) (fun i => places[i]?) l (ps.map fun (i, x) => (i, a.eval x)) (zF z.cells.toList) z.cells p1 p2 h2 (by
          intro i hi
          rw [zF_get rfl i (by omega), Nat.mod_eq_of_lt hi]
          exact ⟨z.cells[i]!, by simp [hi], rfl⟩)
        refine ⟨.agg r, .agg z.cells.size (fillF (fun i => places[i]?) l (zF z.cells.toList)), ?_, ⟨r, rfl, r2, fun i hi => r3 i hi⟩, hK⟩
        refine run_build w t _ r ?_
        unfold Program.built
        rw [hi, hu]
        simp only [hz, hp]
        simpa using r1
      · simp at hbd
    · simp at hbd
  · exact h.elim

/- s[i] of a string -/
def isStr (P : Program) (t : TypeId) : Bool :=
  match P.underlying t with
  | some .string => true
  | _ => false
def chVC (st : Bool) (a b : AV) (K : AV → Prop) : Prop :=
  match st, a, b with
  | true, .v (.string s), .v (.int _ i) => Ob (0 ≤ i ∧ i < s.size) (K (.v (.int .u8 (s.data.toList.getD i.toNat 0).toNat)))
  | _, _, _ => False

theorem run_ch {t : TypeId} {a b : AV} {u v : Value} {w : World} {ok : Nat → Prop} {L : Loc} (K : AV → Prop) (hu : Rd w ok L a u) (hv : Rd w ok L b v) (h : chVC (isStr P t) a b K) :
    ∃ r, (∀ w, (Instr.index t u v).run P w = .ok r w) ∧ K (.v r) := by
  unfold chVC at h
  split at h
  · rename_i st s k i hst
    obtain ⟨⟨h1, h2⟩, hK⟩ := h
    cases hu; cases hv
    have hut : P.underlying t = some .string := by
      unfold isStr at hst
      split at hst
      · assumption
      · simp at hst
    have hlt : i.toNat < s.size := by omega
    refine ⟨_, fun w => ?_, hK⟩
    have hg : s[i.toNat]? = some (s.data.toList.getD i.toNat 0) := by
      have hlt' : i.toNat < s.data.size := hlt
      rw [getElem?_pos s i.toNat hlt]
      have e : s[i.toNat] = s.data[i.toNat] := rfl
      rw [e, List.getD_eq_getElem?_getD, Array.getElem?_toList, Array.getElem?_eq_getElem hlt']
      rfl
    simp [Instr.index, run_underlying hut, asIntOf, h1, hg]
  · exact h.elim

/- conversions -/
theorem Sim.of_Cw {w0 : World} {S : Rg} {w w' : World} {tm : Array Value} {L : Loc} (s : Sim N.n w0 S w tm L A H) (_hS : Good N w0 S) (h : Cw w w') : Sim N.n w0 S w' tm L A H := by
  have hk : Keep w S.wr w' := Keep.mono h fun b hb hw => absurd hw (by omega)
  have hsame : ∀ b, b < w.heap.size → okb S H L b → okb S H L b ∧ w'.heap[b]? = w.heap[b]? := fun b hb ho => ⟨ho, h.blk b hb⟩
  have := s.step (p := fun _ => false) (L' := L) (H' := H) hk hsame (fun _ _ => rfl) (fun _ _ _ => rfl) (fun h' B hB => by
    have hb := s.blk h' B hB
    have := BlkOk.step (p := fun _ => false) (L' := L) (wh' := w') hsame hk.shape (fun _ _ => rfl) (fun q hq => h.blk q.1 (by rw [hq] at hb; exact BlkOk.lt (b := q.1) (s := q.2) hb)) hb
    rwa [Blk.scrub_none] at this) s.own s.inj
  rwa [Fr.scrub_none] at this


inductive CvT | int (k : IntKind) | same | bytes (e : TypeId) | str | other
def cvT (P : Program) (s d : TypeId) : CvT :=
  match P.underlying s, P.underlying d with
  | some (.int _), some (.int k) => .int k
  | some .string, some .string => .same
  | some .string, some (.slice e) => (match P.underlying e with | some (.int .u8) => .bytes e | _ => .other)
  | some (.slice e), some .string => (match P.underlying e with | some (.int .u8) => .str | _ => .other)
  | _, _ => .other

/-- A byte's cell. -/
def byteOf (a : AV) : UInt8 :=
  match a with
  | .v (.int .u8 n) => UInt8.ofNat n.toNat
  | _ => 0
/-- The text that a row of bytes is. -/
def strOf (n : Nat) (f : Nat → AV) : ByteArray := ⟨((List.range n).map fun i => byteOf (f i)).toArray⟩
def isByte (a : AV) : Prop := ∃ n : Int, a = .v (.int .u8 n)
def cvVC (ct : CvT) (H : Hp) (a : AV) (K : AV → Prop) : Prop :=
  match ct, a with
  | .int k, .v (.int _ n) => K (.v (.int k (k.wrap n)))
  | .same, .v (.string s) => K (.v (.string s))
  | .bytes _, .v (.string s) => K (.list true 1 s.size fun i => .v (.int .u8 (s.data.toList.getD i 0).toNat))
  | .str, a =>
    match srcOf H 1 a with
    | some (n, f) => Ob (∀ i, i < n → isByte (f i)) (K (.v (.string (strOf n f))))
    | none => False
  | _, _ => False

theorem Keep.drewAlloc (w : World) (o : Obj) : Cw w (w.drew.alloc o) := by
  have h := keep_alloc (w := w.drew) o _ rfl
  exact ⟨h.os, h.tape, h.output, h.size, fun b hb hn => h.blk b hb (fun e => hn (Nat.le_of_eq e.symm)), h.shape⟩

theorem run_cv {s d : TypeId} {a : AV} {u : Value} {w0 : World} {S : Rg} {w : World} {tm : Array Value} {L : Loc} (sm : Sim N.n w0 S w tm L A H) (hS : Good N w0 S) (K : AV → Prop) (hu : Rd w (okb S H L) L a u) (h : cvVC (cvT P s d) H a K) :
    ∃ r w' x, (convert s d u).run P w = .ok r w' ∧ Sim N.n w0 S w' tm L A H ∧ Rd w' (okb S H L) L x r ∧ K x := by
  unfold cvVC at h
  split at h
  · rename_i _ _ k j n hct
    cases hu
    unfold cvT at hct
    split at hct
    · rename_i hs hd
      simp only [CvT.int.injEq] at hct
      subst hct
      exact ⟨_, w, .v (.int _ (IntKind.wrap _ n)), by simp only [convert, Sem.run_bind, run_underlying hs, run_underlying hd, Result.andThen_ok]; rfl, sm, rfl, h⟩
    · simp at hct
    · split at hct <;> simp at hct
    · split at hct <;> simp at hct
    · simp at hct
  · rename_i _ _ s hct
    cases hu
    unfold cvT at hct
    split at hct
    · simp at hct
    · rename_i hs hd
      exact ⟨_, w, .v (.string s), by simp [convert, run_underlying hs, run_underlying hd], sm, rfl, h⟩
    · split at hct <;> simp at hct
    · split at hct <;> simp at hct
    · simp at hct
  · rename_i _ _ e st hct
    cases hu
    have hty : P.underlying s = some .string ∧ P.underlying d = some (.slice e) ∧ P.underlying e = some (.int .u8) := by
      unfold cvT at hct
      split at hct
      · simp at hct
      · simp at hct
      · rename_i e' hs hd
        split at hct
        · rename_i he
          simp only [CvT.bytes.injEq] at hct
          subst hct
          exact ⟨hs, hd, he⟩
        · simp at hct
      · split at hct <;> simp at hct
      · simp at hct
    obtain ⟨hs, hd, he⟩ := hty
    have hrun := run_bytes_of_string (P := P) w s d e st hs hd he
    have hcw : Cw w (w.drew.alloc (.cells (bytesRow st (grownCap w st.size 0 e)) e ((bytesRow st (grownCap w st.size 0 e)).size, (bytesRow st (grownCap w st.size 0 e)).size + 1))) := Keep.drewAlloc w _
    refine ⟨_, _, _, hrun, sm.of_Cw hS hcw, ?_, h⟩
    refine ⟨some ⟨w.heap.size, 0, none⟩, _, rfl, grownCap_ge w st.size 0 e, by simp, by simp, fun p hp i hi => ?_⟩
    simp only [Option.some.injEq] at hp
    subst hp
    rw [Nat.mul_one] at hi
    refine ⟨rfl, ?_, .int .u8 (st.data.toList.getD i 0).toNat, ?_, fun L' => rfl⟩
    · refine ⟨S.sub _ (hS.new _ sm.keep.size), fun g q hn hq hqe => ?_⟩
      cases hB : H g with
      | none => exact absurd hB hn
      | some B =>
        have hb := sm.blk g B hB
        rw [hq] at hb
        have h1 := BlkOk.lt (b := q.1) (s := q.2) hb
        have h2 : q.1 = w.heap.size := hqe
        omega
    · have e1 : (w.drew.alloc (.cells (bytesRow st (grownCap w st.size 0 e)) e ((bytesRow st (grownCap w st.size 0 e)).size, (bytesRow st (grownCap w st.size 0 e)).size + 1))).heap[w.heap.size]? = some (.cells (bytesRow st (grownCap w st.size 0 e)) e ((bytesRow st (grownCap w st.size 0 e)).size, (bytesRow st (grownCap w st.size 0 e)).size + 1)) := heap_alloc_new w.drew _
      simp only [World.cell?, Nat.zero_add, e1]
      have hi2 : i < st.size := hi
      simp [bytesRow, Array.getElem?_append, hi2]
  · rename_i a' hct
    split at h
    · rename_i n f hsrc
      obtain ⟨hby, hK⟩ := h
      have hty : ∃ e, P.underlying s = some (.slice e) ∧ P.underlying e = some (.int .u8) ∧ P.underlying d = some .string := by
        unfold cvT at hct
        split at hct
        · simp at hct
        · simp at hct
        · split at hct <;> simp at hct
        · rename_i e' hs hd
          split at hct
          · rename_i he; exact ⟨e', hs, he, hd⟩
          · simp at hct
        · simp at hct
      obtain ⟨e, hs, he, hd⟩ := hty
      obtain ⟨x, c, us, rfl, hx, hul, hcell, hrd⟩ := srcOf_ok hsrc sm hu
      rw [Nat.mul_one] at hul hrd
      have hstr : (convert s d (.slice x n c)).run P w = .ok (.string (strOf n f)) w := by
        have bytes : us = ((List.range n).map fun i => match f i with | .v (.int .u8 k) => k | _ => 0).map (Value.int .u8) := by
          refine List.ext_getElem? fun i => ?_
          by_cases hi : i < n
          · obtain ⟨v, h1, h2⟩ := hrd i hi
            obtain ⟨k, hk⟩ := hby i hi
            rw [hk] at h2
            cases h2
            rw [h1]
            simp [hi, hk]
          · rw [List.getElem?_eq_none (by omega), List.getElem?_eq_none (by simp; omega)]
        have fold : ∀ (l : List Nat) (r : ByteArray), ((l.map fun i => match f i with | .v (.int .u8 k) => k | _ => 0).foldl (fun r n => r.push (UInt8.ofNat n.toNat)) r) = ⟨r.data ++ (l.map fun i => byteOf (f i)).toArray⟩ := by
          intro l
          induction l with
          | nil => intro r; simp
          | cons a l ih =>
            intro r
            simp only [List.map_cons, List.foldl_cons]
            rw [ih]
            have : UInt8.ofNat (match f a with | .v (.int .u8 k) => k | _ => 0).toNat = byteOf (f a) := by
              unfold byteOf
              split <;> simp_all
            rw [this]
            simp [ByteArray.push]
        cases x with
        | none =>
          have hn := hx rfl
          subst hn
          rw [run_convert_bytes_string w s d e none 0 c hs he hd]
          simp [Conv.bytesToString, strOf]
          rfl
        | some p =>
          rw [run_convert_bytes_string w s d e (some p) n c hs he hd]
          have hl := run_loadCells_list (P := P) w p us (fun j v hj => hcell p rfl j v hj)
          rw [hul] at hl
          have hl2 : (loadCells p n).run P w = .ok (((List.range n).map fun i => match f i with | .v (.int .u8 k) => k | _ => 0).map (Value.int .u8)).toArray w := by rw [← bytes]; exact hl
          rw [run_bytesToString w p n c _ hl2, fold]
          have e0 : ByteArray.empty.data = #[] := rfl
          rw [e0, Array.empty_append]
          rfl
      exact ⟨_, w, .v (.string (strOf n f)), hstr, sm, rfl, hK⟩
    · exact h.elim
  · exact h.elim

/- min, max of two ints -/
def mmVC (mx : Bool) (a b : AV) (K : AV → Prop) : Prop :=
  match a, b with
  | .v (.int k m), .v (.int k' n) => Ob (k = k') (K (.v (.int k (if mx then max m n else min m n))))
  | _, _ => False

theorem run_min {tys : Array TypeId} {ty : TypeId} {a b : AV} {u v : Value} {w : World} {ok : Nat → Prop} {L : Loc} (K : AV → Prop) (hu : Rd w ok L a u) (hv : Rd w ok L b v) (h : mmVC false a b K) :
    ∃ r, (∀ w, (Builtin.min_ tys ty #[u, v]).run P w = .ok r w) ∧ K (.v r) := by
  unfold mmVC at h
  split at h
  · rename_i k m k' n
    obtain ⟨rfl, hK⟩ := h
    cases hu; cases hv
    refine ⟨_, fun w => ?_, hK⟩
    have : (if n < m then n else m) = min m n := by split <;> omega
    simp [Builtin.min_, Builtin.min2, this]
  · exact h.elim
theorem run_max {tys : Array TypeId} {ty : TypeId} {a b : AV} {u v : Value} {w : World} {ok : Nat → Prop} {L : Loc} (K : AV → Prop) (hu : Rd w ok L a u) (hv : Rd w ok L b v) (h : mmVC true a b K) :
    ∃ r, (∀ w, (Builtin.max_ tys ty #[u, v]).run P w = .ok r w) ∧ K (.v r) := by
  unfold mmVC at h
  split at h
  · rename_i k m k' n
    obtain ⟨rfl, hK⟩ := h
    cases hu; cases hv
    refine ⟨_, fun w => ?_, hK⟩
    have h1 : (if m < n then n else m) = max m n := by split <;> omega
    simp [Builtin.max_, Builtin.max2, h1]
  · exact h.elim

end
end Go.Av

/- What each operation asks and gives, over abstract frames: maps whose keys are strings. -/
import Derived.Test.YtfgblelbhlpfjaaAv10
import Derived.MapKept
import Derived.Lib.AppendZerosOnto
namespace Go.Av

def keyIs (s : ByteArray) : Value → Bool
  | .string t => s == t
  | _ => false
def isStrV : Value → Bool
  | .string _ => true
  | _ => false
def kvStr (kv : List (Value × AV)) : Bool := kv.all fun x => isStrV x.1
def kvGet (s : ByteArray) (z : AV) : List (Value × AV) → AV
  | [] => z
  | (k, a) :: r => cond (keyIs s k) a (kvGet s z r)
def kvHas (s : ByteArray) : List (Value × AV) → Bool
  | [] => false
  | (k, _) :: r => keyIs s k || kvHas s r

/-- A map's type: its keys strings, its elements of this zero value. -/
def mapOf (P : Program) (t : TypeId) : Option Value :=
  match P.underlying t with
  | some (.map k e) =>
    match P.underlying k with
    | some .string =>
      match P.info? e with
      | some i => i.zero
      | none => none
    | _ => none
  | _ => none
theorem mapOf_ok {P : Program} {t : TypeId} {z : Value} (h : mapOf P t = some z) :
    ∃ k e, P.underlying t = some (.map k e) ∧ P.underlying k = some .string ∧ ∀ w, (zeroValue e).run P w = .ok z w := by
  unfold mapOf at h
  split at h
  · rename_i k e hu
    split at h
    · rename_i hk
      split at h
      · rename_i i hi
        exact ⟨k, e, hu, hk, fun w => by simp [zeroValue, typeInfo, hi, h]⟩
      · cases h
    · cases h
  · cases h

section
variable {P : Program} {N : Cx} {A : Fr} {H : Hp} {K : AV → Fr → Hp → Prop}

theorem isKey_str {k : Value} (h : isStrV k = true) : MapKept.IsKey .string k := by
  cases k <;> simp_all [isStrV, MapKept.IsKey]

/-- Finding a key among the entries, as the abstract list says. -/
theorem find_kv {w : World} {ok : Nat → Prop} {L : Loc} (s : ByteArray) (z : AV) : ∀ (es : List MapEntry) (kv : List (Value × AV)) (i : Nat), es.length = kv.length → kvStr kv = true →
    (∀ (j : Nat) (e : MapEntry), es[j]? = some e → ∃ a, kv[j]? = some (e.key, a) ∧ Rd w ok L a e.val) →
    (kvHas s kv = false ∧ kvGet s z kv = z ∧ Instr.findNow .string (.string s) es i = some none) ∨
    ∃ j v, kvHas s kv = true ∧ Instr.findNow .string (.string s) es i = some (some (j, v)) ∧ Rd w ok L (kvGet s z kv) v
  | [], kv, i, hl, _, _ => by
    cases kv with
    | nil => exact .inl ⟨rfl, rfl, rfl⟩
    | cons => simp at hl
  | e :: es, kv, i, hl, hs, h => by
    cases kv with
    | nil => simp at hl
    | cons x kv =>
      obtain ⟨k, a⟩ := x
      obtain ⟨a', h1, h2⟩ := h 0 e rfl
      simp only [List.getElem?_cons_zero, Option.some.injEq, Prod.mk.injEq] at h1
      obtain ⟨rfl, rfl⟩ := h1
      simp only [kvStr, List.all_cons, Bool.and_eq_true] at hs
      have hk : ∃ t, e.key = .string t := by
        have := hs.1
        cases hk : e.key <;> simp [hk, isStrV] at this
        exact ⟨_, rfl⟩
      obtain ⟨t, ht⟩ := hk
      have ih := find_kv s z es kv (i + 1) (by simpa using hl) hs.2 (fun j e hj => by simpa using h (j + 1) e (by simpa using hj))
      simp only [kvHas, kvGet, Instr.findNow, ht, Instr.sameNow, keyIs]
      cases hst : (s == t) with
      | true => exact .inr ⟨i, e.val, rfl, rfl, h2⟩
      | false => simpa using ih

def lkVC (mt : Option Value) (H : Hp) (a b : AV) (ok : Bool) (K : AV → Prop) : Prop :=
  match mt, a, b with
  | some z, .map h, .v (.string s) =>
    match H h with
    | some (.mp kv) => Ob (kvStr kv = true) (if ok then K (.tup 2 (vecF [kvGet s (.v z) kv, .v (.bool (kvHas s kv))])) else K (kvGet s (.v z) kv))
    | _ => False
  | _, _, _ => False

theorem run_lk {t : TypeId} {a b : AV} {ok : Bool} {u v : Value} {w0 : World} {S : Rg} {w : World} {tm : Array Value} {L : Loc} (s : Sim N.n w0 S w tm L A H) (K : AV → Prop) (hu : Rd w (okb S H L) L a u) (hv : Rd w (okb S H L) L b v) (h : lkVC (mapOf P t) H a b ok K) :
    ∃ r x, (Instr.lookup t u v ok).run P w = .ok r w ∧ Rd w (okb S H L) L x r ∧ K x := by
  unfold lkVC at h
  split at h
  · rename_i z h0 sk hm
    split at h
    · rename_i kv hH
      obtain ⟨hs, hK⟩ := h
      obtain ⟨k, e, hu1, hu2, hz⟩ := mapOf_ok hm
      obtain ⟨bb, so, hl, rfl⟩ := hu
      have hv' : v = .string sk := hv
      subst hv'
      have hb := s.blk h0 _ hH
      rw [hl] at hb
      obtain ⟨es, clock, hb1, hb2, hb3⟩ := hb
      have hc : ∀ x, (Instr.checkKey x 10000 k (.string sk)).run P w = .ok () w := fun x => MapKept.run_checkKey (k := .string sk) hu2 (by simp [MapKept.IsKey]) x 9999
      rcases find_kv sk (.v z) es.toList kv 0 (by simpa using hb2) hs (fun j e hj => hb3 j e (by simpa using hj)) with ⟨h1, h2, h3⟩ | ⟨j, x, h1, h3, h2⟩
      · rw [h1, h2] at hK
        cases ok with
        | false => exact ⟨z, .v z, by simp [Instr.lookup, run_underlying hu1, MapKept.run_getObj_map hb1, hc, MapKept.run_findKey hu2 h3, hz, Result.andThen], rfl, by simpa using hK⟩
        | true =>
          refine ⟨.tuple #[z, .bool false], _, by simp [Instr.lookup, run_underlying hu1, MapKept.run_getObj_map hb1, hc, MapKept.run_findKey hu2 h3, hz, Result.andThen], ?_, by simpa using hK⟩
          refine ⟨_, rfl, rfl, fun i hi => ?_⟩
          match i, hi with
          | 0, _ => exact ⟨_, rfl, rfl⟩
          | 1, _ => exact ⟨_, rfl, rfl⟩
      · rw [h1] at hK
        cases ok with
        | false => exact ⟨x, _, by simp [Instr.lookup, run_underlying hu1, MapKept.run_getObj_map hb1, hc, MapKept.run_findKey hu2 h3, Result.andThen], h2, by simpa using hK⟩
        | true =>
          refine ⟨.tuple #[x, .bool true], _, by simp [Instr.lookup, run_underlying hu1, MapKept.run_getObj_map hb1, hc, MapKept.run_findKey hu2 h3, Result.andThen], ?_, by simpa using hK⟩
          refine ⟨_, rfl, rfl, fun i hi => ?_⟩
          match i, hi with
          | 0, _ => exact ⟨_, rfl, h2⟩
          | 1, _ => exact ⟨_, rfl, rfl⟩
    · exact h.elim
  · exact h.elim

/-- A key that is not there yet. -/
def muVC (mt : Option Value) (H : Hp) (a b x : AV) (K : Hp → Prop) : Prop :=
  match mt, a, b with
  | some _, .map h, .v (.string s) =>
    match H h with
    | some (.mp kv) => Ob (kvStr kv = true) (Ob (kvHas s kv = false) (K (H.upd h (.mp (kv ++ [(.string s, x)])))))
    | _ => False
  | _, _, _ => False

theorem keep_setMap {w : World} {b : Nat} {es es' : Array MapEntry} {c c' : Nat} (h : w.heap[b]? = some (.map es c)) : Keep w (fun k => k = b) { w with heap := w.heap.setIfInBounds b (.map es' c') } where
  os := rfl
  tape := rfl
  output := rfl
  size := by simp
  blk k _ hk := (MapKept.heap_set h).2 k hk
  shape k cs e fz hk := by
    have hne : k ≠ b := by
      intro e; subst e; rw [h] at hk; cases hk
    exact ⟨cs, ((MapKept.heap_set h).2 k hne).trans hk, rfl⟩

theorem run_mu {t : TypeId} {a b x : AV} {u v y : Value} {w0 : World} {S : Rg} {w : World} {tm : Array Value} {L : Loc} (s : Sim N.n w0 S w tm L A H) (hS : Good N w0 S) (K : Hp → Prop) (hu : Rd w (okb S H L) L a u) (hv : Rd w (okb S H L) L b v) (hy : Rd w (okb S H L) L x y) (h : muVC (mapOf P t) H a b x K) :
    ∃ w' H', (Instr.mapUpdate t u v y).run P w = .ok () w' ∧ Sim N.n w0 S w' tm L A H' ∧ K H' := by
  unfold muVC at h
  split at h
  · rename_i z h0 sk hm
    split at h
    · rename_i kv hH
      obtain ⟨hs, hn, hK⟩ := h
      obtain ⟨k, e, hu1, hu2, hz⟩ := mapOf_ok hm
      obtain ⟨bb, so, hl, rfl⟩ := hu
      have hv' : v = .string sk := hv
      subst hv'
      have hb := s.blk h0 _ hH
      rw [hl] at hb
      obtain ⟨es, clock, hb1, hb2, hb3⟩ := hb
      have hc : ∀ x, (Instr.checkKey x 10000 k (.string sk)).run P w = .ok () w := fun x => MapKept.run_checkKey (k := .string sk) hu2 (by simp [MapKept.IsKey]) x 9999
      rcases find_kv sk (.v z) es.toList kv 0 (by simpa using hb2) hs (fun j e hj => hb3 j e (by simpa using hj)) with ⟨h1, h2, h3⟩ | ⟨j, x, h1, h3, h2⟩
      · refine ⟨_, _, by simp [Instr.mapUpdate, run_underlying hu1, MapKept.run_getObj_map hb1, hc, MapKept.run_findKey hu2 h3, MapKept.run_setObj_map _ hb1, Result.andThen]; rfl, ?_, hK⟩
        refine s.write hS (by rw [hH]; simp) hl (keep_setMap hb1) ⟨_, _, (MapKept.heap_set hb1).1, by simp [hb2], fun i e he => ?_⟩
        rw [Array.getElem?_push] at he
        split at he
        · rename_i hi
          simp only [Option.some.injEq] at he
          subst he
          refine ⟨x, ?_, hy⟩
          rw [List.getElem?_append_right (by omega)]
          simp [hi, hb2]
        · obtain ⟨a, k1, k2⟩ := hb3 i e he
          refine ⟨a, ?_, k2⟩
          rw [List.getElem?_append_left (List.getElem?_eq_some_iff.1 k1).1]; exact k1
      · rw [h1] at hn; cases hn
    · exact h.elim
  · exact h.elim

def mmkVC (pn : Nat → Bool) (mt : Option Value) (d : Nat) (A : Fr) (H : Hp) (K : AV → Fr → Hp → Prop) : Prop :=
  match mt with
  | some _ => Ob (pn d = false) (K (.map d) (A.scrub (· == d)) ((H.upd d (.mp [])).scrub (· == d)))
  | none => False

theorem run_mmk {t : TypeId} {d : Nat} {rs : Option Value} {w0 : World} {S : Rg} {w : World} {tm : Array Value} {L : Loc} (s : Sim N.n w0 S w tm L A H) (hS : Good N w0 S) (hr : ∀ v, rs = some v → ∃ k n, v = .int k n) (h : mmkVC N.pn (mapOf P t) d A H K) :
    ∃ r w' L' x' A' H', (Instr.makeMap t rs).run P w = .ok r w' ∧ Sim N.n w0 S w' tm L' A' H' ∧ Rd w' (okb S H' L') L' x' r ∧ K x' A' H' := by
  unfold mmkVC at h
  split at h
  · rename_i z hm
    obtain ⟨hpn, hK⟩ := h
    obtain ⟨k, e, hu1, hu2, hz⟩ := mapOf_ok hm
    have hal := s.put_blk (w' := w.alloc (.map #[] 0)) hS.new d w.heap.size 0 (.mp []) (keep_alloc _ _ rfl) (fun k hk _ => heap_alloc_old w _ k hk) (.inl rfl) (p := (· == d))
      ⟨#[], 0, heap_alloc_new w _, rfl, fun i e he => by simp at he⟩ (fun h hp hd => by simp [hd] at hp) (.inl (hS.free d hpn))
    refine ⟨.map (some w.heap.size), _, _, .map d, _, _, ?_, hal, ⟨w.heap.size, 0, by simp, rfl⟩, hK⟩
    cases rs with
    | none => rfl
    | some v =>
      obtain ⟨k, n, rfl⟩ := hr v rfl
      simp [Instr.makeMap, run_underlying hu1, asInt, asIntOf, Result.andThen]
  · exact h.elim

/- append of a make, onto nil -/
/-- An integer type. -/
def isIntT (P : Program) (t : TypeId) : Bool :=
  match P.underlying t with
  | some (.int _) => true
  | _ => false
theorem isIntT_ok {P : Program} {t : TypeId} (h : isIntT P t = true) : ∃ k, P.underlying t = some (.int k) := by
  unfold isIntT at h
  split at h
  · exact ⟨_, by assumption⟩
  · cases h
def azVC (P : Program) (pn : Nat → Bool) (se : Option SE) (t' : TypeId) (d : Nat) (A : Fr) (H : Hp) (a : AV) (k : Int) (K : AV → Fr → Hp → Prop) : Prop :=
  match se, a with
  | some se, .v (.slice none 0 0) =>
    Ob (isIntT P t' = true) (Ob (pn d = false) (Ob (0 < se.size) (Ob (0 < k ∧ k * se.bytes ≤ 140737488355328 ∧ k ≤ 140737488355328)
      (K (.own d 0 se.size k.toNat) (A.scrub (· == d)) ((H.upd d (.cells (k.toNat * se.size) (zF se.zero))).scrub (· == d))))))
  | _, _ => False

theorem run_az {t t' ty : TypeId} {d : Nat} {a : AV} {kk : IntKind} {k : Int} {u : Value} {w0 : World} {S : Rg} {w : World} {tm : Array Value} {L : Loc} (s : Sim N.n w0 S w tm L A H) (hS : Good N w0 S)
    (hu : Rd w (okb S H L) L a u) (h : azVC P N.pn (selOf P t) t' d A H a k K) :
    ∃ r w' L' x A' H', (Builtin.append_ #[t, t'] ty #[u, .int kk k]).run P w = .ok r w' ∧ Sim N.n w0 S w' tm L' A' H' ∧ Rd w' (okb S H' L') L' x r ∧ K x A' H' := by
  unfold azVC at h
  split at h
  · rename_i se hse
    obtain ⟨hit, hpn, h2, ⟨h3, h4, h5⟩, hK⟩ := h
    cases hu
    obtain ⟨kn, hkn⟩ := isIntT_ok hit
    obtain ⟨hut, ti, z, hi, e1, e2, e3, e4, e5⟩ := selOf_ok hse
    obtain ⟨n, rfl⟩ : ∃ n : Nat, k = n := ⟨k.toNat, by omega⟩
    have hzs : z.cells.size = se.size := by rw [e5, e1]
    have hbb : n * se.bytes ≤ 140737488355328 := by rw [← Int.natCast_mul] at h4; omega
    have h4' : (0 + n) * ti.bytes ≤ 140737488355328 := by rw [e2, Nat.zero_add]; exact hbb
    have hfit : Builtin.nextslicecap (0 + n) 0 * ti.bytes ≤ 281474976710656 := growslice_fits (by omega) h4'
    rw [Nat.zero_add] at h4'
    have hr := Lib.run_append_grow_zeros w t t' ty se.e ti z kk kn hut hkn hi e3 none 0 0 [] (run_firstCells_none w.drew ti.size 0 0 0) n (by omega) (by omega) (by omega) (by omega) (by omega) hfit
    have hzn : (Builtin.zeroCells z.cells n).size = n * se.size := by rw [size_zeroCells, hzs]
    obtain ⟨L', k1, k2⟩ := s.grown hS d 0 n se.e z.cells se.size (Builtin.zeroCells z.cells n).toList (zF se.zero) hzs (by rw [Array.length_toList]; exact hzn) (by omega) (fun i hi => by
      have hlt : i < (Builtin.zeroCells z.cells n).size := by rw [hzn]; exact hi
      refine ⟨(Builtin.zeroCells z.cells n)[i], by simp [hlt], ?_⟩
      rw [zF_get e4 i (by omega)]
      show _ = _
      simp [Builtin.zeroCells]) hpn
    simp only [Nat.zero_add, Array.empty_append, Array.toArray_toList] at hr k1 k2
    refine ⟨_, _, L', _, _, _, hr, k1, k2 _, ?_⟩
    simpa using hK
  · exact h.elim

/- maps by lists -/
/-- A list of keys and contents. -/
def mS {α : Type} (g : α → AV) (l : List (ByteArray × α)) : List (Value × AV) := l.map fun x => (.string x.1, g x.2)
def lkO {α : Type} (s : ByteArray) : List (ByteArray × α) → Option α
  | [] => none
  | (k, a) :: r => cond (s == k) (some a) (lkO s r)
theorem kvStr_mS {α : Type} (g : α → AV) (l : List (ByteArray × α)) : kvStr (mS g l) = true := by
  unfold kvStr mS
  rw [List.all_map, List.all_eq_true]
  intro x _; rfl
theorem kvGet_mS {α : Type} (g : α → AV) (s : ByteArray) (d : α) : ∀ l : List (ByteArray × α), kvGet s (g d) (mS g l) = g ((lkO s l).getD d)
  | [] => rfl
  | (k, a) :: r => by
    have ih := kvGet_mS g s d r
    unfold mS at ih ⊢
    simp only [List.map_cons, kvGet, keyIs, lkO]
    cases (s == k) with
    | true => rfl
    | false => exact ih
theorem kvHas_mS {α : Type} (g : α → AV) (s : ByteArray) : ∀ l : List (ByteArray × α), kvHas s (mS g l) = (lkO s l).isSome
  | [] => rfl
  | (k, a) :: r => by
    have ih := kvHas_mS g s r
    unfold mS at ih ⊢
    simp only [List.map_cons, kvHas, keyIs, lkO, ih]
    cases (s == k) <;> simp
theorem mS_snoc {α : Type} (g : α → AV) (l : List (ByteArray × α)) (s : ByteArray) (x : α) : mS g l ++ [(.string s, g x)] = mS g (l ++ [(s, x)]) := by
  simp [mS]
theorem mS_nil {α : Type} (g : α → AV) : mS g [] = [] := rfl
end
end Go.Av

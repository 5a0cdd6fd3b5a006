/- What each operation asks and gives, over abstract frames: stores, new blocks, append, copy. -/
import Derived.Test.YtfgblelbhlpfjaaAv5
namespace Go.Av

def setF (f : Nat → AV) (i : Nat) (x : AV) : Nat → AV := fun j => if j = i then x else f j
def setsF (f : Nat → AV) (off n : Nat) (g : Nat → AV) : Nat → AV := fun j => if off ≤ j ∧ j < off + n then g (j - off) else f j
def apF (n : Nat) (f g : Nat → AV) : Nat → AV := fun j => if j < n then f j else g (j - n)
def shF (k : Nat) (f : Nat → AV) : Nat → AV := fun j => f (k + j)
def zF (zs : List Value) : Nat → AV := fun i => .v (zs.getD (i % zs.length) undef)
def vecF (l : List AV) : Nat → AV := fun i => l.getD i .dead

def AV.one : AV → Bool
  | .v x => x.oneCell'
  | .agg .. | .tup .. | .dead => false
  | _ => true

theorem Rd.one {w : World} {ok : Nat → Prop} {L : Loc} {a : AV} {u : Value} (h : a.one = true) (hu : Rd w ok L a u) : u.oneCell' = true := by
  cases a <;> simp only [AV.one, Bool.false_eq_true] at h
  case v x => cases hu; exact h
  case list => obtain ⟨x, cap, rfl, _⟩ := hu; rfl
  case own => obtain ⟨x, cap, rfl, _⟩ := own_form hu; rfl
  case ref => obtain ⟨b, s, _, rfl⟩ := hu; rfl
  case ptr => obtain ⟨p, rfl, _⟩ := hu; rfl
  case clo => obtain ⟨cs, rfl, _⟩ := hu; rfl
  case map => obtain ⟨b, s, _, rfl⟩ := hu; rfl

theorem oneCell_cells {u : Value} (h : u.oneCell' = true) : u.cells = #[u] := by cases u <;> first | rfl | simp [Value.oneCell'] at h

section
variable {N : Cx} {w0 : World} {S : Rg} {w w' : World} {tm : Array Value} {L L' : Loc} {A : Fr} {H H' : Hp}

theorem keep_setRow {b : Nat} {cs cs' : Array Value} {e : TypeId} {fz : Nat × Nat} (h : w.heap[b]? = some (.cells cs e fz)) (hs : cs'.size = cs.size) : Keep w (fun k => k = b) (w.setRow b cs') where
  os := rfl
  tape := rfl
  output := rfl
  size := by simp
  blk k _ hk := setRow_other w b k cs' hk
  shape k c' e' fz' hk := by
    by_cases hkb : k = b
    · subst hkb
      rw [h] at hk
      simp only [Option.some.injEq, Obj.cells.injEq] at hk
      obtain ⟨rfl, rfl, rfl⟩ := hk
      exact ⟨cs', setRow_heap w k cs cs' e fz h, hs⟩
    · exact ⟨c', (setRow_other w b k cs' hkb).trans hk, rfl⟩

theorem keep_alloc (o : Obj) (w1 : World) (h1 : w1 = w.alloc o) : Keep w (fun k => k = w.heap.size) w1 := by
  subst h1
  refine ⟨rfl, rfl, rfl, by simp, fun k hk _ => heap_alloc_old w o k hk, fun k cs e fz hk => ⟨cs, ?_, rfl⟩⟩
  rw [heap_alloc_old w o k (Array.getElem?_eq_some_iff.1 hk).1]; exact hk

/-- A block of a name is written: the name stays where it is. -/
theorem Sim.write (s : Sim N.n w0 S w tm L A H) (hS : Good N w0 S) {h b o : Nat} {B : Blk} (hH : H h ≠ none) (hl : L h = some (b, o))
    (hw : Keep w (fun k => k = b) w') (hB : BlkOk w w' (okb S H L) L (some (b, o)) B) : Sim N.n w0 S w' tm L A (H.upd h B) := by
  have := s.put_blk hS.new h b o B hw (fun k hk hne => hw.blk k hk hne) (.inr ⟨hH, o, hl⟩) hB (p := fun _ => false) (fun g _ hg => hg ▸ hl) (.inr hl)
  rw [Fr.scrub_none, Hp.scrub_none] at this
  have hL : (fun g => if g = h then some (b, o) else L g) = L := by
    funext g
    by_cases hg : g = h
    · simp [hg, hl]
    · simp [hg]
  rwa [hL] at this

/-- A new block of cells, by the name d. -/
theorem Sim.alloc (s : Sim N.n w0 S w tm L A H) (hS : Good N w0 S) (d : Nat) (cs : Array Value) (e : TypeId) {n : Nat} {f : Nat → AV} (hn : n ≤ cs.size)
    (hf : ∀ i, i < n → ∃ c, cs[i]? = some c ∧ Rd w (okb S H L) L (f i) c) (hd : N.pn d = false) :
    Sim N.n w0 S (w.alloc (.cells cs e)) tm (fun h => if h = d then some (w.heap.size, 0) else L h) (A.scrub (· == d)) ((H.upd d (.cells n f)).scrub (· == d)) := by
  refine s.put_blk hS.new d w.heap.size 0 (.cells n f) (keep_alloc _ _ rfl) (fun k hk _ => heap_alloc_old w _ k hk) (.inl rfl) ⟨cs, e, heap_alloc_new w _, by omega, fun i hi => by simpa using hf i hi⟩ ?_ (.inl (hS.free d hd))
  intro h hp hd
  simp [hd] at hp

/-- The name d means nothing yet: a nil slice. -/
theorem Sim.nil (s : Sim N.n w0 S w tm L A H) (hS : Good N w0 S) (d : Nat) (f : Nat → AV) (hpn : N.pn d = false) :
    Sim N.n w0 S w tm (fun h => if h = d then none else L h) (A.scrub (· == d)) ((H.upd d (.cells 0 f)).scrub (· == d)) := by
  have live : ∀ h, ((H.upd d (.cells 0 f)).scrub (· == d)) h ≠ none → h ≠ d → H h ≠ none := by
    intro h hn hd
    simpa [Hp.scrub, Hp.upd, hd] using hn
  have hsame : ∀ b, b < w.heap.size → okb S H L b → okb S ((H.upd d (.cells 0 f)).scrub (· == d)) (fun h => if h = d then none else L h) b ∧ w.heap[b]? = w.heap[b]? := by
    intro b _ ho
    refine ⟨⟨ho.1, fun h q hn hq => ?_⟩, rfl⟩
    by_cases hd : h = d
    · simp [hd] at hq
    · simp only [hd, if_false] at hq
      exact ho.2 h q (live h hn hd) hq
  have hL : ∀ h, (h == d) = false → (fun h => if h = d then none else L h) h = L h := by
    intro h hh
    simp at hh
    simp [hh]
  refine s.step (Keep.refl w S.wr) hsame hL ?_ ?_ ?_ ?_
  · intro h l hl
    by_cases hd : h = d
    · subst hd; simp [hS.free h hpn] at hl
    · simp [hd]
  · intro h B hB
    by_cases hd : h = d
    · subst hd
      simp [Hp.scrub, Hp.upd] at hB
      subst hB
      simp [BlkOk, Blk.scrub]
    · simp only [Hp.scrub, Hp.upd, hd, if_false] at hB ⊢
      cases hH : H h with
      | none => simp [hH] at hB
      | some B0 =>
        simp only [hH, Option.map_some, Option.some.injEq] at hB
        subst hB
        exact BlkOk.step hsame (Shape.refl w) hL (fun _ _ => rfl) (s.blk h B0 hH)
  · intro h q hn hq
    by_cases hd : h = d
    · simp [hd] at hq
    · simp only [hd, if_false] at hq
      exact s.own h q (live h hn hd) hq
  · intro h g q r hn hm hq hr e
    by_cases hd : h = d
    · simp [hd] at hq
    · by_cases hg : g = d
      · simp [hg] at hr
      · simp only [hd, hg, if_false] at hq hr
        exact s.inj h g q r (live h hn hd) (live g hm hg) hq hr e

end

section
variable {P : Program} {N : Cx} {A : Fr} {H : Hp} {K : AV → Fr → Hp → Prop}

/-- An operation that may turn memory. -/
theorem opv_mem {o : Oper} (hrun : ∀ w0 S, Good N w0 S → ∀ w (a : Act) L, Sim N.n w0 S w a.tmps L A H →
      ∃ u w' L' r A' H', (execOp a.eval o).run P w = .ok (.value u) w' ∧ Sim N.n w0 S w' a.tmps L' A' H' ∧ Rd w' (okb S H' L') L' r u ∧ K r A' H') : OpV P N o A H K := by
  intro w0 S hS w a L s next Q' hn
  obtain ⟨u, w', L', r, A', H', h1, h2, h3, h4⟩ := hrun w0 S hS w a L s
  unfold Oper.wp
  rw [h1]
  exact hn u r L' A' H' w' h2 h3 h4

theorem opv_skip {o : Oper} (hrun : ∀ w0 S, Good N w0 S → ∀ w (a : Act) L, Sim N.n w0 S w a.tmps L A H →
      ∃ w' L' A' H', (execOp a.eval o).run P w = .ok .skip w' ∧ Sim N.n w0 S w' a.tmps L' A' H' ∧ K .dead A' H') : OpV P N o A H K := by
  intro w0 S hS w a L s next Q' hn
  obtain ⟨w', L', A', H', h1, h2, h4⟩ := hrun w0 S hS w a L s
  unfold Oper.wp
  rw [h1]
  exact hn undef .dead L' A' H' w' h2 trivial h4

/- stores -/
def aggOf : AV → Option (Nat × (Nat → AV))
  | .agg n f => some (n, f)
  | .v (.agg cs) => some (cs.size, fun i => .v (cs.getD i undef))
  | _ => none

def stVC (ty : Option TY) (H : Hp) (a x : AV) (K : Hp → Prop) : Prop :=
  match ty, a with
  | some ⟨false, s, _⟩, .ref h off =>
    match H h with
    | some (.cells n f) => Ob (s = 1 ∧ x.one = true) (Ob (off < n) (K (H.upd h (.cells n (setF f off x)))))
    | _ => False
  | some ⟨true, s, _⟩, .ref h off =>
    match H h, aggOf x with
    | some (.cells n f), some (m, g) => Ob (s = m ∧ off + s ≤ n) (Ob (∀ i, i < m → (g i).one = true) (K (H.upd h (.cells n (if off = 0 ∧ m = n then g else setsF f off m g)))))
    | _, _ => False
  | _, _ => False

theorem aggOf_ok {x : AV} {m : Nat} {g : Nat → AV} (h : aggOf x = some (m, g)) {w : World} {ok : Nat → Prop} {L : Loc} {u : Value} (hu : Rd w ok L x u) :
    ∃ cs, u = .agg cs ∧ cs.size = m ∧ ∀ i, i < m → ∃ c, cs[i]? = some c ∧ Rd w ok L (g i) c := by
  unfold aggOf at h
  split at h
  · simp only [Option.some.injEq, Prod.mk.injEq] at h
    obtain ⟨rfl, rfl⟩ := h
    exact hu
  · simp only [Option.some.injEq, Prod.mk.injEq] at h
    obtain ⟨rfl, rfl⟩ := h
    cases hu
    refine ⟨_, rfl, rfl, fun i hi => ⟨_, Array.getElem?_eq_getElem hi, ?_⟩⟩
    simp [Rd, Array.getD, hi]
  · simp at h

theorem seg_get {cs : List Value} {us : List Value} {o i : Nat} (h : o + us.length ≤ cs.length) :
    (cs.take o ++ us ++ cs.drop (o + us.length))[i]? = if i < o then cs[i]? else if i < o + us.length then us[i - o]? else cs[i]? := by
  by_cases h1 : i < o
  · simp only [h1, if_true]
    rw [List.append_assoc, List.getElem?_append_left (by simp; omega), List.getElem?_take, if_pos h1]
  · simp only [h1, if_false]
    have hl : (cs.take o).length = o := by simp; omega
    by_cases h2 : i < o + us.length
    · simp only [h2, if_true]
      rw [List.append_assoc, List.getElem?_append_right (by omega), hl, List.getElem?_append_left (by omega)]
    · simp only [h2, if_false]
      rw [List.getElem?_append_right (by simp; omega), List.length_append, hl, List.getElem?_drop]
      congr 1
      omega

/-- Values are stored into an owned block. -/
theorem Sim.storeCells {w0 : World} {S : Rg} {w : World} {tm : Array Value} {L : Loc} (s : Sim N.n w0 S w tm L A H) (hS : Good N w0 S) {h b o off n m : Nat} {f g : Nat → AV}
    (hH : H h = some (.cells n f)) (hl : L h = some (b, o)) (us : List Value) (hm : us.length = m) (hfit : off + m ≤ n) (h1 : ∀ v ∈ us, v.oneCell' = true)
    (hg : ∀ i, i < m → ∃ c, us[i]? = some c ∧ Rd w (okb S H L) L (g i) c) :
    ∃ w', (Go.storeCells ⟨b, o + off, none⟩ us).run P w = .ok () w' ∧ Sim N.n w0 S w' tm L A (H.upd h (.cells n (setsF f off m g))) := by
  have hb := s.blk h _ hH
  rw [hl] at hb
  obtain ⟨cs, e, k1, k2, k3⟩ := hb
  have hst := run_storeCells_at P b (o + off) e us 0 cs w k1 (by omega) h1
  simp only [Nat.add_zero] at hst
  refine ⟨_, hst, s.write hS (by simp [hH]) hl (keep_setRow k1 (by simp; omega)) ⟨_, e, setRow_heap w b cs _ e (0, 0) k1, by simp; omega, fun i hi => ?_⟩⟩
  have hseg := seg_get (cs := cs.toList) (us := us) (o := o + off) (i := o + i) (by simp; omega)
  simp only [Array.getElem?_toList] at hseg
  simp only [List.getElem?_toArray, hseg, setsF]
  by_cases c1 : i < off
  · rw [if_pos (by omega), if_neg (by omega)]
    exact k3 i hi
  · rw [if_neg (by omega)]
    by_cases c2 : i < off + m
    · rw [if_pos (by omega), if_pos (by omega)]
      have := hg (i - off) (by omega)
      rwa [show o + i - (o + off) = i - off by omega]
    · rw [if_neg (by omega), if_neg (by omega)]
      exact k3 i hi

theorem setsF_one (f : Nat → AV) (off : Nat) (g : Nat → AV) : setsF f off 1 g = setF f off (g 0) := by
  funext j
  unfold setsF setF
  by_cases h : j = off
  · subst h; simp
  · rw [if_neg h, if_neg (by omega)]

theorem Sim.blk_eq {w0 : World} {S : Rg} {w : World} {tm : Array Value} {L : Loc} {h n : Nat} {f f' : Nat → AV} (he : ∀ i, i < n → f i = f' i) (s : Sim N.n w0 S w tm L A (H.upd h (.cells n f))) : Sim N.n w0 S w tm L A (H.upd h (.cells n f')) := by
  have live : ∀ g, (H.upd h (.cells n f')) g ≠ none ↔ (H.upd h (.cells n f)) g ≠ none := by
    intro g; simp only [Hp.upd]; split <;> simp
  have hok : okb S (H.upd h (.cells n f')) L = okb S (H.upd h (.cells n f)) L := by
    funext b; simp only [okb, live]
  refine ⟨s.keep, s.size, fun i a ha => by rw [hok]; exact s.slot i a ha, fun g B hB => ?_, fun g q hn hq => s.own g q ((live g).1 hn) hq, fun g k q r hn hm hq hr e => s.inj g k q r ((live g).1 hn) ((live k).1 hm) hq hr e, s.pin⟩
  rw [hok]
  by_cases hg : g = h
  · subst hg
    have hb := s.blk g (.cells n f) (by simp [Hp.upd])
    simp only [Hp.upd, if_true, Option.some.injEq] at hB
    subst hB
    cases hl : L g with
    | none => rw [hl] at hb; exact hb
    | some q =>
      rw [hl] at hb
      obtain ⟨cs, e, h1, h2, h3⟩ := hb
      exact ⟨cs, e, h1, h2, fun i hi => by rw [← he i hi]; exact h3 i hi⟩
  · refine s.blk g B ?_
    simp only [Hp.upd, hg, if_false] at hB ⊢
    exact hB

theorem run_storeAt {t : TypeId} {a x : AV} {u v : Value} {w0 : World} {S : Rg} {w : World} {tm : Array Value} {L : Loc} (s : Sim N.n w0 S w tm L A H) (hS : Good N w0 S) (K : Hp → Prop)
    (hu : Rd w (okb S H L) L a u) (hv : Rd w (okb S H L) L x v) (h : stVC (tyOf P t) H a x K) :
    ∃ w' H', (Instr.storeAt t u v).run P w = .ok () w' ∧ Sim N.n w0 S w' tm L A H' ∧ K H' := by
  unfold stVC at h
  split at h
  · rename_i sz z hh off hty
    obtain ⟨_, hsz, _⟩ := tyOf_ok hty
    split at h
    · rename_i n f hH
      obtain ⟨⟨rfl, h2⟩, h3, hK⟩ := h
      obtain ⟨b, o, hl, rfl⟩ := hu
      have hone := hv.one h2
      obtain ⟨w', r1, r2⟩ := s.storeCells (P := P) (off := off) hS hH hl [v] rfl (by omega) (by simpa using hone) (g := fun _ => x) (m := 1) (by intro i hi; exact ⟨v, by simp [show i = 0 by omega], hv⟩)
      rw [setsF_one] at r2
      exact ⟨w', _, by simp [Instr.storeAt, Instr.sureAddr, storeVar, hsz, oneCell_cells hone, r1], r2, hK⟩
    · exact h.elim
  · rename_i sz z hh off hty
    obtain ⟨_, hsz, _⟩ := tyOf_ok hty
    split at h
    · rename_i n f m g hH hx
      obtain ⟨⟨rfl, h2⟩, h3, hK⟩ := h
      obtain ⟨b, o, hl, rfl⟩ := hu
      obtain ⟨cs, rfl, k1, k2⟩ := aggOf_ok hx hv
      obtain ⟨w', r1, r2⟩ := s.storeCells (P := P) (off := off) hS hH hl cs.toList (by simpa using k1) h2 (by
        intro v hv
        obtain ⟨i, hi, rfl⟩ := List.mem_iff_getElem.1 hv
        have hi' : i < cs.size := by simpa using hi
        obtain ⟨c, k3, k4⟩ := k2 i (by omega)
        have := k4.one (h3 i (by omega))
        rw [Array.getElem?_eq_getElem hi'] at k3
        simp only [Option.some.injEq] at k3
        simpa [k3] using this) (g := g) (by
        intro i hi
        obtain ⟨c, k3, k4⟩ := k2 i hi
        exact ⟨c, by simpa using k3, k4⟩)
      refine ⟨w', _, by simp [Instr.storeAt, Instr.sureAddr, storeVar, hsz, Value.cells, k1, r1], r2.blk_eq (fun i hi => ?_), hK⟩
      split
      · rename_i e
        simp only [setsF]
        rw [if_pos (by omega), e.1]; rfl
      · rfl
    · exact h.elim
  · exact h.elim

end
end Go.Av

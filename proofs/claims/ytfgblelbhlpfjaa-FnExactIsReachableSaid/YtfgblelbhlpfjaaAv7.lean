/- What each operation asks and gives, over abstract frames: new blocks, append, copy. -/
import Derived.Test.YtfgblelbhlpfjaaAv6
namespace Go.Av

section
variable {P : Program} {N : Cx} {A : Fr} {H : Hp} {K : AV → Fr → Hp → Prop}

/- what is appended or copied -/
def srcOf (H : Hp) (sz : Nat) (b : AV) : Option (Nat × (Nat → AV)) :=
  match b with
  | .list _ sz' m g => if sz' = sz then some (m, g) else none
  | .own h off sz' m =>
    match H h with
    | some (.cells n f) => if sz' = sz ∧ off + m * sz ≤ n then some (m, shF off f) else none
    | _ => none
  | .v (.slice none 0 _) => some (0, fun _ => .dead)
  | _ => none

theorem choose_fn {n : Nat} {p : Nat → Value → Prop} (h : ∀ i, i < n → ∃ c, p i c) : ∃ g : Nat → Value, ∀ i, i < n → p i (g i) := by
  have hf : ∀ i, ∃ c, i < n → p i c := fun i => by
    by_cases hi : i < n
    · obtain ⟨c, hc⟩ := h i hi; exact ⟨c, fun _ => hc⟩
    · exact ⟨undef, fun h => absurd h hi⟩
  obtain ⟨g, hg⟩ := Classical.axiomOfChoice hf
  exact ⟨g, hg⟩

theorem srcOf_ok {sz m : Nat} {b : AV} {g : Nat → AV} (h : srcOf H sz b = some (m, g)) {w0 : World} {S : Rg} {w : World} {tm : Array Value} {L : Loc} (s : Sim N.n w0 S w tm L A H) {v : Value} (hv : Rd w (okb S H L) L b v) :
    ∃ (x : Option Addr) (c : Nat) (us : List Value), v = .slice x m c ∧ (x = none → m = 0) ∧ us.length = m * sz ∧ (∀ p, x = some p → ∀ j u, us[j]? = some u → w.cell? (p.add j) = some u) ∧
      ∀ i, i < m * sz → ∃ u, us[i]? = some u ∧ Rd w (okb S H L) L (g i) u := by
  unfold srcOf at h
  split at h
  · rename_i nn sz' m' g'
    split at h
    · rename_i e
      simp only [Option.some.injEq, Prod.mk.injEq] at h
      obtain ⟨rfl, rfl⟩ := h
      subst e
      obtain ⟨x, cap, rfl, h1, h2, h3, h4⟩ := hv
      cases x with
      | none =>
        have := (h3 rfl).1
        subst this
        exact ⟨none, cap, [], rfl, fun _ => rfl, by simp, by simp, by simp⟩
      | some p =>
        have hc := h4 p rfl
        obtain ⟨f, hf⟩ := choose_fn (p := fun i c => w.cell? ⟨p.block, p.off + i, none⟩ = some c ∧ ∀ L', Rd w (okb S H L) L' (g' i) c) (fun i hi => (hc i hi).2.2)
        refine ⟨some p, cap, (List.range (m' * sz')).map f, rfl, by simp, by simp, ?_, fun i hi => ⟨f i, by simp [hi], (hf i hi).2 L⟩⟩
        intro q hq j u hj
        simp only [Option.some.injEq] at hq
        subst hq
        by_cases hjl : j < m' * sz'
        · rw [Addr_eq (hc j hjl).1, Addr_add]
          simp [hjl] at hj
          subst hj
          exact (hf j hjl).1
        · simp [hjl] at hj
    · simp at h
  · rename_i hh off sz' m'
    split at h
    · rename_i n f hH
      split at h
      · rename_i e
        simp only [Option.some.injEq, Prod.mk.injEq] at h
        obtain ⟨rfl, rfl⟩ := h
        obtain ⟨rfl, e2⟩ := e
        have hb := s.blk hh _ hH
        simp only [Rd] at hv
        split at hv
        · obtain ⟨rfl, rfl⟩ := hv
          exact ⟨none, 0, [], rfl, fun _ => rfl, by simp, by simp, by simp⟩
        · rename_i b' s' hl
          obtain ⟨p, cap, rfl, h1, h2, h3, h4, h5, _⟩ := hv
          rw [hl] at hb
          obtain ⟨cs, e, k1, k2, k3⟩ := hb
          obtain ⟨f', hf⟩ := choose_fn (n := m' * sz') (p := fun i c => cs[s' + (off + i)]? = some c ∧ Rd w (okb S H L) L (f (off + i)) c) (fun i hi => k3 (off + i) (by omega))
          refine ⟨some p, cap, (List.range (m' * sz')).map f', rfl, by simp, by simp, ?_, fun i hi => ⟨f' i, by simp [hi], (hf i hi).2⟩⟩
          intro q hq j u hj
          simp only [Option.some.injEq] at hq
          subst hq
          by_cases hjl : j < m' * sz'
          · simp [hjl] at hj
            subst hj
            have hm : 0 < m' := by
              rcases Nat.eq_zero_or_pos m' with rfl | h
              · simp at hjl
              · exact h
            rw [Addr_eq h4, Addr_add, h3, h5 (by omega)]
            have := (hf j hjl).1
            simp [World.cell?, k1, Nat.add_assoc, this]
          · simp [hjl] at hj
      · simp at h
    · simp at h
  · simp only [Option.some.injEq, Prod.mk.injEq] at h
    obtain ⟨rfl, rfl⟩ := h
    cases hv
    exact ⟨none, _, [], rfl, fun _ => rfl, by simp, by simp, by simp⟩
  · simp at h

/- append -/
def apVC (pn : Nat → Bool) (se : Option SE) (d : Nat) (A : Fr) (H : Hp) (a b : AV) (K : AV → Fr → Hp → Prop) : Prop :=
  match se, a with
  | some se, .own h off sz n =>
    match H h, srcOf H sz b with
    | some (.cells N f), some (m, g) =>
      Ob (pn h = false) (Ob (sz = se.size ∧ 0 < sz ∧ off + n * sz ≤ N) (Ob ((n + m) * se.bytes ≤ 140737488355328 ∧ n + m ≤ 140737488355328) (Ob (∀ i, i < m * sz → (g i).one = true)
        (K (.own h 0 sz (n + m)) (A.scrub (· == h)) ((H.upd h (.cells ((n + m) * sz) (apF (n * sz) (shF off f) g))).scrub (· == h))))))
    | _, _ => False
  | some se, .v (.slice none 0 0) =>
    match srcOf H se.size b with
    | some (m, g) =>
      Ob (pn d = false) (Ob (0 < se.size) (Ob (m * se.bytes ≤ 140737488355328 ∧ m ≤ 140737488355328) (Ob (∀ i, i < m * se.size → (g i).one = true)
        (K (.own d 0 se.size m) (A.scrub (· == d)) ((H.upd d (.cells (m * se.size) g)).scrub (· == d))))))
    | _ => False
  | _, _ => False

theorem run_append_room' (w : World) (t ty e : TypeId) (i : TypeInfo) (ht : P.underlying t = some (.slice e)) (hi : P.info? e = some i)
    (g o sLen sCap : Nat) (cur : Array Value) (ce : TypeId) (hg : w.heap[g]? = some (.cells cur ce (0, 0)))
    (x : Option Addr) (m c : Nat) (news : List Value) (hl : news.length = m * i.size) (hx : x = none → m = 0) (hnews : ∀ p, x = some p → ∀ j u, news[j]? = some u → w.cell? (p.add j) = some u) (h1 : ∀ u ∈ news, u.oneCell' = true)
    (hroom : sLen + m ≤ sCap) (hfit : o + sLen * i.size + news.length ≤ cur.size) :
    (Builtin.append_ #[t, t] ty #[.slice (some ⟨g, o, none⟩) sLen sCap, .slice x m c]).run P w =
      .ok (.slice (some ⟨g, o, none⟩) (sLen + m) sCap) (w.setRow g (cur.toList.take (o + sLen * i.size) ++ news ++ cur.toList.drop (o + sLen * i.size + news.length)).toArray) := by
  have hf : (Builtin.firstCells i.size m (.slice x m c)).run P w = .ok news.toArray w := by
    cases x with
    | none =>
      have := hx rfl
      subst this
      have hn : news = [] := List.eq_nil_of_length_eq_zero (by simpa using hl)
      subst hn
      simp [Builtin.firstCells]
    | some p => exact run_firstCells_some (P := P) w i.size m p m c news hl (hnews p rfl)
  have hst := run_storeCells_at P g (o + sLen * i.size) ce news 0 cur w hg (by omega) h1
  simp only [Nat.add_zero] at hst
  simp [Builtin.append_, run_underlying ht, sizeOf, typeInfo, hi, Builtin.lenOf, hroom, hf, Addr_add, hst]

theorem grow_size (w : World) (need old : Nat) (e : TypeId) (z : Array Value) (sz : Nat) (us : Array Value) (hz : z.size = sz) (hu : us.size = need * sz) :
    (us ++ Builtin.zeroCells z (grownCap w need old e - need)).size = grownCap w need old e * sz := by
  have hge := grownCap_ge w need old e
  simp only [Array.size_append, size_zeroCells, hz, hu, ← Nat.add_mul]
  congr 1
  omega

theorem apF_rd {w : World} {ok : Nat → Prop} {L : Loc} {n m : Nat} {f g : Nat → AV} {us vs : List Value} (hn : us.length = n) (hm : vs.length = m) (rest : List Value)
    (hf : ∀ i, i < n → ∃ c, us[i]? = some c ∧ Rd w ok L (f i) c) (hg : ∀ i, i < m → ∃ c, vs[i]? = some c ∧ Rd w ok L (g i) c) :
    ∀ i, i < n + m → ∃ c, (us ++ vs ++ rest)[i]? = some c ∧ Rd w ok L (apF n f g i) c := by
  intro i hi
  unfold apF
  by_cases h1 : i < n
  · obtain ⟨c, k1, k2⟩ := hf i h1
    refine ⟨c, ?_, by rw [if_pos h1]; exact k2⟩
    rw [List.append_assoc, List.getElem?_append_left (by omega)]; exact k1
  · obtain ⟨c, k1, k2⟩ := hg (i - n) (by omega)
    refine ⟨c, ?_, by rw [if_neg h1]; exact k2⟩
    rw [List.append_assoc, List.getElem?_append_right (by omega), List.getElem?_append_left (by omega), hn]; exact k1

theorem Rd.drew {w : World} {ok : Nat → Prop} {L : Loc} {a : AV} {u : Value} (h : Rd w ok L a u) : Rd w.drew ok L a u := by
  have := Rd.step (w := w) (w' := w.drew) (ok := ok) (ok' := ok) (p := fun _ => false) (fun b _ h => ⟨h, rfl⟩) (Shape.refl w) a L L u (fun _ _ => rfl) h
  rwa [AV.scrub_none] at this

/-- A grown row: n elements in a new block of capacity `grownCap`. -/
theorem Sim.grown {w0 : World} {S : Rg} {w : World} {tm : Array Value} {L : Loc} (s : Sim N.n w0 S w tm L A H) (hS : Good N w0 S) (d old n : Nat) (e : TypeId) (z : Array Value) (sz : Nat) (us : List Value) (f : Nat → AV)
    (hz : z.size = sz) (hu : us.length = n * sz) (hlen : n ≤ 140737488355328) (hf : ∀ i, i < n * sz → ∃ c, us[i]? = some c ∧ Rd w (okb S H L) L (f i) c) (hd : N.pn d = false) :
    ∃ L', Sim N.n w0 S (w.drew.alloc (.cells (us.toArray ++ Builtin.zeroCells z (grownCap w n old e - n)) e)) tm L' (A.scrub (· == d)) ((H.upd d (.cells (n * sz) f)).scrub (· == d)) ∧
      ∀ ok, Rd (w.drew.alloc (.cells (us.toArray ++ Builtin.zeroCells z (grownCap w n old e - n)) e)) ok L' (.own d 0 sz n) (.slice (some ⟨w.heap.size, 0, none⟩) n (grownCap w n old e)) := by
  have hsz := grow_size w n old e z sz us.toArray hz (by simpa using hu)
  have hge := grownCap_ge w n old e
  refine ⟨_, s.drew.alloc hS d (us.toArray ++ Builtin.zeroCells z (grownCap w n old e - n)) e (n := n * sz) (f := f) (by rw [hsz]; exact Nat.mul_le_mul_right _ hge) (fun i hi => ?_) hd, fun ok => ?_⟩
  · obtain ⟨c, k1, k2⟩ := hf i hi
    refine ⟨c, ?_, k2.drew⟩
    rw [Array.getElem?_append_left (by simpa [hu] using hi)]
    simpa using k1
  · simp only [Rd, if_true]
    exact ⟨⟨w.heap.size, 0, none⟩, grownCap w n old e, rfl, hge, grownCap_le_maxLen w n old e (by simp only [maxLen]; omega), rfl, rfl, fun _ => rfl, _, e, heap_alloc_new w.drew _, by rw [hsz]; omega⟩

theorem one_of {w : World} {ok : Nat → Prop} {L : Loc} {us : List Value} {m : Nat} {g : Nat → AV} (hm : us.length = m) (hg : ∀ i, i < m → ∃ u, us[i]? = some u ∧ Rd w ok L (g i) u) (h1 : ∀ i, i < m → (g i).one = true) :
    ∀ u ∈ us, u.oneCell' = true := by
  intro u hu
  obtain ⟨i, hi, rfl⟩ := List.mem_iff_getElem.1 hu
  obtain ⟨c, k1, k2⟩ := hg i (by omega)
  rw [List.getElem?_eq_getElem hi] at k1
  simp only [Option.some.injEq] at k1
  rw [k1]
  exact k2.one (h1 i (by omega))

theorem run_append_none (w : World) (t ty e : TypeId) (i : TypeInfo) (ht : P.underlying t = some (.slice e)) (hi : P.info? e = some i) (x y : Option Addr) (c c' : Nat) :
    (Builtin.append_ #[t, t] ty #[.slice y 0 c', .slice x 0 c]).run P w = .ok (.slice y 0 c') w := by
  cases x <;> cases y <;> simp [Builtin.append_, run_underlying ht, sizeOf, typeInfo, hi, Builtin.lenOf, Builtin.firstCells, loadCells, loadCellsFrom, storeCells]

/-- append onto what a name means. -/
theorem run_append_own' {t ty : TypeId} {hh off sz n NN m : Nat} {f g : Nat → AV} {se : SE} {b : AV} {u v : Value} {w0 : World} {S : Rg} {w : World} {tm : Array Value} {L : Loc} (s : Sim N.n w0 S w tm L A H) (hS : Good N w0 S)
    (hse : selOf P t = some se) (hH : H hh = some (.cells NN f)) (hsrc : srcOf H sz b = some (m, g)) (hsz1 : sz = se.size) (hsz : 0 < sz) (hfit : off + n * sz ≤ NN)
    (hby : (n + m) * se.bytes ≤ 140737488355328) (hlen : n + m ≤ 140737488355328) (hone : ∀ i, i < m * sz → (g i).one = true)
    (hu : Rd w (okb S H L) L (.own hh off sz n) u) (hv : Rd w (okb S H L) L b v) (hpn : N.pn hh = false) :
    ∃ r w' L', (Builtin.append_ #[t, t] ty #[u, v]).run P w = .ok r w' ∧
      Sim N.n w0 S w' tm L' (A.scrub (· == hh)) ((H.upd hh (.cells ((n + m) * sz) (apF (n * sz) (shF off f) g))).scrub (· == hh)) ∧
      ∀ ok, Rd w' ok L' (.own hh 0 sz (n + m)) r := by
  subst hsz1
  obtain ⟨hut, ti, z, hi, e1, e2, e3, e4, e5⟩ := selOf_ok hse
  obtain ⟨x, c, us, rfl, hx, hul, hcell, hrd⟩ := srcOf_ok hsrc s hv
  have hone' := one_of hul hrd hone
  have hb := s.blk hh _ hH
  simp only [Rd] at hu
  split at hu
  · -- a nil slice
    rename_i hl
    obtain ⟨rfl, rfl⟩ := hu
    rcases Nat.eq_zero_or_pos m with rfl | hm
    · have h0 : (0 + 0) * se.size = 0 := by simp
      rw [h0]
      exact ⟨_, _, _, run_append_none w t ty se.e ti hut hi x none c 0, s.nil hS hh _ hpn, fun ok => by simp [Rd]⟩
    · cases x with
      | none => exact absurd (hx rfl) (by omega)
      | some p =>
        have hr := run_append_nil (P := P) w t ty se.e ti z hut hi e3 p m c us (by rw [hul, e1]) (hcell p rfl) (by omega) (by omega) (by rw [e2]; simp only [Nat.zero_add] at hby; omega)
        obtain ⟨L', k1, k2⟩ := s.grown hS hh 0 m se.e z.cells se.size us (apF (0 * se.size) (shF off f) g) (by omega) hul (by omega) (by
          intro i hi
          obtain ⟨c', k1, k2⟩ := hrd i hi
          exact ⟨c', k1, by simpa [apF] using k2⟩) hpn
        rw [Nat.zero_add]
        exact ⟨_, _, L', hr, k1, k2⟩
  · rename_i b' s' hl
    obtain ⟨p, cap, rfl, q1, q2, q3, q4, q5, cs', e', q6, q7⟩ := hu
    rw [hl] at hb
    obtain ⟨cs, e, k1, k2, k3⟩ := hb
    rw [q6] at k1
    simp only [Option.some.injEq, Obj.cells.injEq] at k1
    obtain ⟨rfl, rfl, _⟩ := k1
    have hpe : p = ⟨b', p.off, none⟩ := by rw [← q3]; exact Addr_eq q4
    by_cases hroom : n + m ≤ cap
    · rcases Nat.eq_zero_or_pos cap with hc0 | hc0
      · -- nothing is appended to nothing
        have hn0 : n = 0 := by omega
        have hm0 : m = 0 := by omega
        subst hn0 hm0
        have h0 : (0 + 0) * se.size = 0 := by simp
        rw [h0]
        have hp := s.put_blk hS.new hh b' (s' + off) (.cells 0 (apF 0 (shF off f) g)) (Keep.refl w _) (fun _ _ _ => rfl) (.inr ⟨by simp [hH], s', hl⟩) ⟨cs', e', q6, by omega, by simp⟩ (p := (· == hh)) (by intro h hp he; simp [he] at hp) (.inl (hS.free hh hpn))
        refine ⟨_, _, _, run_append_none w t ty se.e ti hut hi x _ c cap, hp, fun ok => ?_⟩
        simp only [Rd, if_true]
        exact ⟨p, cap, rfl, by omega, q2, q3, q4, fun h => by omega, cs', e', q6, by omega⟩
      · have hoff := q5 hc0
        rw [hoff] at hpe
        subst hpe
        have hfit' : s' + off + n * se.size + us.length ≤ cs'.size := by
          rw [hul, Nat.add_assoc, ← Nat.add_mul]
          have := Nat.mul_le_mul_right se.size hroom
          omega
        have hr := run_append_room' (P := P) w t ty se.e ti hut hi b' (s' + off) n cap cs' e' q6 x m c us (by rw [hul, e1]) hx hcell hone' hroom (by rw [e1]; exact hfit')
        rw [e1] at hr
        have hks := keep_setRow (cs' := (cs'.toList.take (s' + off + n * se.size) ++ us ++ cs'.toList.drop (s' + off + n * se.size + us.length)).toArray) q6 (by simp; omega)
        have hp := s.put_blk hS.new hh b' (s' + off) (.cells ((n + m) * se.size) (apF (n * se.size) (shF off f) g)) hks (fun k hk hne => hks.blk k hk hne) (.inr ⟨by simp [hH], s', hl⟩)
          ⟨_, e', setRow_heap w b' cs' _ e' (0, 0) q6, by rw [Nat.add_mul]; simp; omega, fun i hi => by
            have hseg := seg_get (cs := cs'.toList) (us := us) (o := s' + off + n * se.size) (i := s' + off + i) (by simp; omega)
            simp only [Array.getElem?_toList] at hseg
            simp only [List.getElem?_toArray, hseg, apF, shF]
            rw [Nat.add_mul] at hi
            by_cases c1 : i < n * se.size
            · rw [if_pos (by omega), if_pos c1]
              have := k3 (off + i) (by omega)
              rwa [← Nat.add_assoc] at this
            · rw [if_neg (by omega), if_pos (by omega), if_neg c1]
              have := hrd (i - n * se.size) (by omega)
              rwa [show s' + off + i - (s' + off + n * se.size) = i - n * se.size by omega]⟩ (p := (· == hh)) (by intro h hp he; simp [he] at hp) (.inl (hS.free hh hpn))
        refine ⟨_, _, _, hr, hp, fun ok => ?_⟩
        simp only [Rd, if_true]
        exact ⟨_, cap, rfl, by omega, q2, rfl, rfl, fun _ => rfl, _, e', setRow_heap w b' cs' _ e' (0, 0) q6, by simp; omega⟩
    · -- it grows
      have hold : ∀ j u, ((List.range (n * se.size)).map fun j => cs'.getD (s' + off + j) undef)[j]? = some u → w.cell? (p.add j) = some u := by
        intro j u hj
        by_cases hjl : j < n * se.size
        · have hn : 0 < cap := by
            rcases Nat.eq_zero_or_pos n with rfl | h
            · simp at hjl
            · omega
          simp [hjl] at hj
          subst hj
          rw [hpe, q5 hn, Addr_add]
          have hlt : s' + off + j < cs'.size := by have := Nat.mul_le_mul_right se.size q1; omega
          simp [World.cell?, q6, hlt]
        · simp [hjl] at hj
      cases x with
      | none => exact absurd (hx rfl) (by omega)
      | some px =>
        have hr := run_append_grow (P := P) w t ty se.e ti z hut hi e3 p n cap _ (by simp [e1]) hold px m c us (by rw [hul, e1]) (hcell px rfl) (by omega) (by omega) (growslice_fits (by omega) (by rw [e2]; exact hby))
        obtain ⟨L', j1, j2⟩ := s.grown hS hh cap (n + m) se.e z.cells se.size (((List.range (n * se.size)).map fun j => cs'.getD (s' + off + j) undef) ++ us) (apF (n * se.size) (shF off f) g) (by omega) (by simp [hul, Nat.add_mul]) (by omega) (by
          intro i hi
          have := apF_rd (w := w) (ok := okb S H L) (L := L) (n := n * se.size) (m := m * se.size) (f := shF off f) (g := g) (us := (List.range (n * se.size)).map fun j => cs'.getD (s' + off + j) undef) (vs := us) (by simp) hul [] (by
            intro i hi
            obtain ⟨c', j1, j2⟩ := k3 (off + i) (by omega)
            refine ⟨c', ?_, j2⟩
            rw [← Nat.add_assoc] at j1
            simp [hi, Array.getD]
            obtain ⟨h3, h4⟩ := Array.getElem?_eq_some_iff.1 j1
            simp [h3, h4]) hrd i (by rw [Nat.add_mul] at hi; exact hi)
          simpa using this) hpn
        simp only [List.append_toArray] at hr
        exact ⟨_, _, L', hr, j1, j2⟩

theorem run_append {t ty : TypeId} {d : Nat} {a b : AV} {u v : Value} {w0 : World} {S : Rg} {w : World} {tm : Array Value} {L : Loc} (s : Sim N.n w0 S w tm L A H) (hS : Good N w0 S)
    (hu : Rd w (okb S H L) L a u) (hv : Rd w (okb S H L) L b v) (h : apVC N.pn (selOf P t) d A H a b K) :
    ∃ r w' L' x A' H', (Builtin.append_ #[t, t] ty #[u, v]).run P w = .ok r w' ∧ Sim N.n w0 S w' tm L' A' H' ∧ Rd w' (okb S H' L') L' x r ∧ K x A' H' := by
  unfold apVC at h
  split at h
  · rename_i se hh off sz n hse
    split at h
    · rename_i NN f m g hH hsrc
      obtain ⟨hpn, ⟨h1, h2, h3⟩, ⟨h4, h5⟩, h6, hK⟩ := h
      obtain ⟨r, w', L', k1, k2, k3⟩ := run_append_own' (P := P) (ty := ty) s hS hse hH hsrc h1 h2 h3 h4 h5 h6 hu hv hpn
      exact ⟨r, w', L', _, _, _, k1, k2, k3 _, hK⟩
    · exact h.elim
  · rename_i se hse
    split at h
    · rename_i m g hsrc
      obtain ⟨hpn, h2, ⟨h4, h5⟩, h6, hK⟩ := h
      cases hu
      obtain ⟨hut, ti, z, hi, e1, e2, e3, e4, e5⟩ := selOf_ok hse
      obtain ⟨x, c, us, rfl, hx, hul, hcell, hrd⟩ := srcOf_ok hsrc s hv
      rcases Nat.eq_zero_or_pos m with rfl | hm
      · refine ⟨_, w, _, .own d 0 se.size 0, _, _, run_append_none w t ty se.e ti hut hi x none c 0, s.nil hS d g hpn, by simp [Rd], by simpa using hK⟩
      · cases x with
        | none => exact absurd (hx rfl) (by omega)
        | some p =>
          have hr := run_append_nil (P := P) w t ty se.e ti z hut hi e3 p m c us (by rw [hul, e1]) (hcell p rfl) (by omega) (by omega) (by rw [e2]; omega)
          obtain ⟨L', k1, k2⟩ := s.grown hS d 0 m se.e z.cells se.size us g (by omega) hul (by omega) hrd hpn
          exact ⟨_, _, L', _, _, _, hr, k1, k2 _, hK⟩
    · exact h.elim
  · exact h.elim

end
end Go.Av

import Derived.Test.YticbabpajligbaaDoorK21
import Derived.Test.YticbabpajligbaaDoorK17
import Derived.Test.YticbabpajligbaaDoorK12
import Derived.Test.YticbabpajligbaaDoorK13
/- What is read is the text of what is answered; plain. -/
section
namespace Go.Nt
set_option linter.unusedVariables false
set_option linter.unusedSimpArgs false
theorem At.mk' {s : ByteArray} {p : Nat} {t : ByteArray} (h : ∀ j, j < t.size → Go.Nt.bt s (p + j) = (t.data.toList.getD j 0).toNat ∧ p + j < s.size) (h0 : p ≤ s.size) : At s p t := by
  refine ⟨?_, fun j hj => ?_⟩
  · by_cases hz : t.size = 0
    · omega
    · have := (h (t.size - 1) (by omega)).2; omega
  · obtain ⟨h1, h2⟩ := h j hj
    unfold Go.Nt.bt at h1
    rw [if_pos h2] at h1
    exact UInt8.toNat_inj.1 h1
theorem At.put {s : ByteArray} {p : Nat} {a b : ByteArray} (h1 : At s p a) (h2 : At s (p + a.size) b) : At s p (a ++ b) := by
  refine ⟨by rw [ByteArray.size_append]; have := h2.1; omega, fun j hj => ?_⟩
  rw [ByteArray.size_append] at hj
  rw [app_getD]
  by_cases hja : j < a.size
  · rw [if_pos hja]; exact h1.2 j hja
  · rw [if_neg hja, ← h2.2 (j - a.size) (by omega), show p + a.size + (j - a.size) = p + j by omega]
theorem At.nil {s : ByteArray} {p : Nat} (h : p ≤ s.size) : At s p ⟨#[]⟩ := ⟨h, fun j hj => absurd hj (Nat.not_lt_zero _)⟩
section
variable {fm : Nat → ByteArray} {names s : ByteArray} {xs : List Nd}
theorem txF_own : ∀ (i f m : Nat), sz xs i = some m → i < f → txF fm names xs f i = tx fm names xs i := by
  intro i
  induction i using Nat.strongRecOn with
  | _ i ih =>
    intro f m hm hf
    obtain ⟨g, rfl⟩ : ∃ g, f = g + 1 := ⟨f - 1, by omega⟩
    show ndT fm names _ _ = ndT fm names _ _
    congr 1
    refine List.map_congr_left fun c hc => ?_
    obtain ⟨q, m', e, hq, hs⟩ := (sz_mem hm).1 c hc
    have hc : c.toNat = q := by omega
    rw [hc, ih q hq g m' hs (by omega), ih q hq i m' hs hq]
theorem tx_own {i m : Nat} (h : sz xs i = some m) : tx fm names xs i = ndT fm names (xs.getD i nd0) (kdT fm names xs i) := by
  show ndT fm names _ _ = _
  congr 1
  refine List.map_congr_left fun c hc => ?_
  obtain ⟨q, m', e, hq, hs⟩ := (sz_mem h).1 c hc
  have hc : c.toNat = q := by omega
  rw [hc]
  exact txF_own q i m' hs hq
theorem seg_szK : ∀ (rs : List Int) (a p m0 : Nat), Seg xs a rs.reverse p → a ≤ p ∧ szK (sz xs) rs p m0 = some (m0 + (p - a))
  | [], a, p, m0, h => by
    obtain rfl : a = p := h
    exact ⟨Nat.le_refl _, by simp [szK]⟩
  | c :: rs, a, p, m0, h => by
    rw [List.reverse_cons] at h
    obtain ⟨b, h1, m, h2, h3, h4, h5⟩ := Seg.app.1 h
    obtain rfl : c.toNat + 1 = p := h5
    have hr := sz_run xs _ m h2
    obtain ⟨k1, k2⟩ := seg_szK rs a b (m0 + m) h1
    refine ⟨by omega, ?_⟩
    unfold szK
    rw [if_pos ⟨by omega, by omega⟩, show c.toNat + 1 - 1 = c.toNat by omega, h2]
    dsimp only
    rw [show c.toNat + 1 - m = b by omega, k2]
    congr 1
    omega
theorem seg_sz {i a : Nat} (h : Seg xs a (kd xs i) i) : a ≤ i ∧ sz xs i = some (i + 1 - a) := by
  have := seg_szK (kd xs i).reverse a i 1 (by rwa [List.reverse_reverse])
  refine ⟨this.1, ?_⟩
  rw [sz_eq, this.2]
  congr 1
  omega
theorem pre_at {l xs : List Nd} {y : Nd} (h : l ++ [y] <+: xs) : xs.getD l.length nd0 = y := by
  obtain ⟨r, rfl⟩ := h
  simp [List.getD_eq_getElem?_getD]
end
end Go.Nt
end
/- Notations read back, whole or cut short; plain. -/
section
namespace Go.Nt
set_option linter.unusedVariables false
set_option linter.unusedSimpArgs false
section
variable {fm : Nat → ByteArray} {names : ByteArray} {xs : List Nd}
/-- The last node. -/
abbrev rtN (ks : List Int) : Nd := ⟨2, 0, 1, 0, 0, ks⟩
/-- The whole text. -/
def allT (fm : Nat → ByteArray) (names : ByteArray) (xs : List Nd) : ByteArray := jn (kdT fm names xs (xs.length - 1))
theorem bt_end (s : ByteArray) : bt s s.size = 0 := by unfold bt; rw [if_neg (by omega)]
theorem At.self (s : ByteArray) : At s 0 s := ⟨by omega, fun j hj => by rw [Nat.zero_add]⟩
theorem At.eq {s t : ByteArray} (h : At s 0 t) (hs : t.size = s.size) : t = s := by
  apply ByteArray.ext
  refine Array.ext hs fun i h1 h2 => ?_
  have := h.2 i h1
  rw [Nat.zero_add, List.getD_eq_getElem?_getD, List.getD_eq_getElem?_getD, Array.getElem?_toList, Array.getElem?_toList, Array.getElem?_eq_getElem h1, Array.getElem?_eq_getElem h2] at this
  simpa using this.symm
theorem root_eq (hv : isNt names.size xs) : xs = xs.take (xs.length - 1) ++ [⟨2, 0, 1, 0, 0, kd xs (xs.length - 1)⟩] := by
  have hl := hv.2.1
  have hx := hv.2.2.1 (xs.length - 1) (by omega)
  have h1 := take_snoc (xs := xs) (i := xs.length - 1) (by omega)
  rw [show xs.length - 1 + 1 = xs.length by omega, List.take_length] at h1
  rw [decide_eq_true (by omega : xs.length - 1 + 1 = xs.length)] at hx
  obtain ⟨_, _, h | h⟩ := hx
  · obtain ⟨_, k1, k2, k3, k4, k5⟩ := h
    have e : xs.getD (xs.length - 1) nd0 = ⟨2, 0, 1, 0, 0, kd xs (xs.length - 1)⟩ := by
      have hk : kd xs (xs.length - 1) = (xs.getD (xs.length - 1) nd0).kids := rfl
      rw [hk]
      cases h : xs.getD (xs.length - 1) nd0
      rw [h] at k1 k2 k3 k4 k5
      simp only at k1 k2 k3 k4 k5
      simp only [Nd.mk.injEq, and_true]
      exact ⟨k1, k4, k2, k3, k5⟩
    rw [e] at h1; exact h1
  · exact absurd h.1 (by decide)
theorem par_tree (hf : FmOk fm) (hn : NmD names) (hv : isNt names.size xs) (hk : kd xs (xs.length - 1) ≠ []) (f : Nat) (hfu : 2 * (allT fm names xs).size + 2 ≤ f) : pSeq names (allT fm names xs) f 0 [] [] = .ok (allT fm names xs).size (xs.take (xs.length - 1)) (kd xs (xs.length - 1)) := by
  have hl := hv.2.1
  obtain ⟨h1, h2, hsg⟩ := sz_seg hv.2.2.2
  rw [show xs.length - 1 + 1 - xs.length = 0 by omega] at hsg
  obtain ⟨t, et⟩ : ∃ t, t = allT fm names xs := ⟨_, rfl⟩
  have et2 : allT fm names xs = jn ((kd xs (xs.length - 1)).map (tT fm names xs)) := rfl
  have hit : ∀ c ∈ kd xs (xs.length - 1), ItemOK fm names t xs c.toNat ∧ c.toNat < xs.length := fun c hc => by
    obtain ⟨q, mq, e, hq, _⟩ := (sz_mem hv.2.2.2).1 c hc
    exact ⟨item_read hf hn hv c.toNat (by omega), by omega⟩
  rw [← et] at et2 hfu ⊢
  cases hc : kd xs (xs.length - 1) with
  | nil => exact absurd hc hk
  | cons c0 cs =>
    rw [hc] at et2 hsg hit
    have hend : bt t (0 + (jn ((c0 :: cs).map (tT fm names xs))).size) = 0 := by rw [← et2, Nat.zero_add]; exact bt_end t
    have := seq_read (fm := fm) (s := t) cs c0 0 (xs.length - 1) f 0 [] hsg hit (by rw [← et2]; exact .self t) (by rw [hend]; exact .inl rfl) (by rw [hend]; decide) (by omega)
    rw [← et2, Nat.zero_add] at this
    exact this
theorem part_ok (hn8 : 1 ≤ names.size ∧ names.size ≤ 8) {l : List Nd} {ks : List Int} (hl : l.length < 200) (hsg : Seg (l ++ [rtN ks]) 0 ks l.length) (hnd : ∀ j, 0 ≤ j → j < l.length → ndOk names.size ((l ++ [rtN ks]).getD j nd0) false) : isNt names.size (l ++ [rtN ks]) ∧ kd (l ++ [rtN ks]) l.length = ks := by
  have hx : (l ++ [rtN ks]).getD l.length nd0 = rtN ks := pre_at (List.prefix_refl _)
  have hkd : kd (l ++ [rtN ks]) l.length = ks := by unfold kd; rw [hx]
  have hz := seg_sz (i := l.length) (by rw [hkd]; exact hsg)
  have hlen : (l ++ [rtN ks]).length = l.length + 1 := by rw [List.length_append]; rfl
  refine ⟨⟨by omega, by omega, fun i hi => ?_, ?_⟩, hkd⟩
  · rw [hlen] at hi ⊢
    by_cases h : i < l.length
    · rw [decide_eq_false (by omega)]; exact hnd i (Nat.zero_le _) h
    · obtain rfl : i = l.length := by omega
      rw [decide_eq_true rfl, hx]
      exact ⟨(by show 1 ≤ (1 : Int) ∧ (1 : Int) ≤ 99; decide), (by show 0 ≤ (0 : Int) ∧ (0 : Int) ≤ 1; decide), .inl ⟨rfl, rfl, rfl, rfl, rfl, rfl⟩⟩
  · rw [hlen, Nat.add_sub_cancel, hz.2]; congr 1
end
end Go.Nt
end
/- Trees that are drawn: their shapes and the lengths of their texts; plain. -/
section
namespace Go.Nt
set_option linter.unusedVariables false
set_option linter.unusedSimpArgs false
section
variable {fm : Nat → ByteArray} {names : ByteArray}
theorem jnS_tight {ws : List ByteArray} : ∀ k, 1 ≤ k → k ≤ ws.length → (jnS ⟨#[32]⟩ ws k).size + 1 ≤ sumS (ws.take k)
  | 0, h, _ => by omega
  | k + 1, _, h => by
    have e : ws.take (k + 1) = ws.take k ++ [ws.getD k ByteArray.empty] := by
      rw [List.getD_eq_getElem?_getD, List.getElem?_eq_getElem (show k < ws.length by omega), ← List.take_append_getElem (show k < ws.length by omega)]; rfl
    have e1 : (⟨#[32]⟩ : ByteArray).size = 1 := rfl
    have e2 : sumS [ws.getD k ByteArray.empty] = (ws.getD k ByteArray.empty).size + 1 := by simp [sumS]
    rw [e, sumS_app, e2]
    unfold jnS
    rw [ByteArray.size_append]
    split
    · have := jnS_tight (ws := ws) k (by omega) (by omega)
      rw [ByteArray.size_append]; omega
    · have : k = 0 := by omega
      subst this
      show (⟨#[]⟩ : ByteArray).size + _ + 1 ≤ _
      have : (⟨#[]⟩ : ByteArray).size = 0 := rfl
      omega
theorem jn_tight {ws : List ByteArray} (h : ws ≠ []) : (jn ws).size + 1 ≤ sumS ws := by
  have := jnS_tight (ws := ws) ws.length (by have := List.length_pos_iff.2 h; omega) (Nat.le_refl _)
  rwa [List.take_length] at this
theorem inT_tight {x : Nd} {ts : List ByteArray} {many : Int} (hx : ndOk many x false) (hl : ts.length = x.kids.length) : (inT names x ts).size ≤ sumS ts + 1 := by
  have e1 : ∀ b : UInt8, (⟨#[b]⟩ : ByteArray).size = 1 := fun _ => rfl
  obtain ⟨_, _, h | ⟨_, ⟨k1, k2, k3, k4⟩ | ⟨k1, k2, k3, k4⟩ | ⟨k1, k2, k3, k4⟩⟩⟩ := hx
  · exact absurd h.1 (by decide)
  · unfold inT
    rw [if_pos k1, ByteArray.size_extract]; omega
  · have h1 := jn_tight (ws := ts) (List.length_pos_iff.1 (by omega))
    unfold inT
    rw [if_neg (by omega), if_pos k1, ByteArray.size_append, ByteArray.size_append, e1, e1]; omega
  · have h1 := jn_tight (ws := ts.take x.split.toNat) (List.length_pos_iff.1 (by rw [List.length_take]; omega))
    have h2 := jn_tight (ws := ts.drop x.split.toNat) (List.length_pos_iff.1 (by rw [List.length_drop]; omega))
    have h4 : sumS (ts.take x.split.toNat) + sumS (ts.drop x.split.toNat) = sumS ts := by rw [← sumS_app, List.take_append_drop]
    unfold inT
    rw [if_neg (by omega), if_neg (by omega)]
    split <;> (rw [ByteArray.size_append, ByteArray.size_append, ByteArray.size_append, ByteArray.size_append, e1, e1, e1]; omega)
theorem ndT_tight (hf : FmOk fm) {x : Nd} {ts : List ByteArray} {many : Int} (hx : ndOk many x false) (hl : ts.length = x.kids.length) (hc : x.count < 10) : (ndT fm names x ts).size ≤ sumS ts + 3 := by
  have h1 := inT_tight (names := names) hx hl
  have e1 : (⟨#[39]⟩ : ByteArray).size = 1 := rfl
  have h2 : 1 < x.count → (fm x.count.toNat).size = 1 := fun h => (hf.one x.count.toNat (by omega) (by omega)).1
  unfold ndT
  by_cases hc1 : 1 < x.count
  · have := h2 hc1
    simp only [if_pos hc1]
    split <;> (try simp only [ByteArray.size_append, e1]) <;> omega
  · simp only [if_neg hc1]
    split <;> (try simp only [ByteArray.size_append, e1]) <;> omega
/-- A subtree that is drawn. -/
structure DrI (fm : Nat → ByteArray) (names : ByteArray) (B M : Nat) (l l' : List Nd) : Prop where
  pre : l <+: l'
  lt : l.length < l'.length
  le : l'.length ≤ l.length + M
  ok : ∀ xs, l' <+: xs → sz xs (l'.length - 1) = some (l'.length - l.length) ∧ (∀ j, l.length ≤ j → j < l'.length → ndOk names.size (xs.getD j nd0) false) ∧ (tx fm names xs (l'.length - 1)).size ≤ B
/-- Subtrees that are drawn one after another. -/
structure DrS (fm : Nat → ByteArray) (names : ByteArray) (B M : Nat) (l : List Nd) (cs : List Int) (l' : List Nd) : Prop where
  pre : l <+: l'
  le : l'.length ≤ l.length + cs.length * M
  ok : ∀ xs, l' <+: xs → Seg xs l.length cs l'.length ∧ (∀ j, l.length ≤ j → j < l'.length → ndOk names.size (xs.getD j nd0) false) ∧ sumS (cs.map (tT fm names xs)) ≤ cs.length * (B + 1)
variable {B M : Nat} {l l1 l2 : List Nd} {cs : List Int}
theorem DrI.mono {B' M' : Nat} (h : DrI fm names B M l l1) (hB : B ≤ B') (hM : M ≤ M') : DrI fm names B' M' l l1 :=
  ⟨h.pre, h.lt, by have := h.le; omega, fun xs hx => let ⟨a, b, c⟩ := h.ok xs hx; ⟨a, b, by omega⟩⟩
theorem DrS.nil (l : List Nd) : DrS fm names B M l [] l := ⟨List.prefix_refl _, by simp, fun xs hx => ⟨rfl, fun j h1 h2 => by omega, by simp [sumS]⟩⟩
theorem DrI.node (hf : FmOk fm) (h : DrS fm names B M l cs l1) {y : Nd} (hk : y.kids = cs) (hy : ndOk names.size y false) (hc : y.count < 10) : DrI fm names (cs.length * (B + 1) + 3) (cs.length * M + 1) l (l1 ++ [y]) := by
  have hll := h.pre.length_le
  have hlen : (l1 ++ [y]).length = l1.length + 1 := by rw [List.length_append]; rfl
  refine ⟨h.pre.trans (List.prefix_append ..), by omega, by rw [hlen]; have := h.le; omega, fun xs hx => ?_⟩
  obtain ⟨a1, a2, a3⟩ := h.ok xs ((List.prefix_append ..).trans hx)
  have hat := pre_at hx
  have hkx : kd xs l1.length = cs := by unfold kd; rw [hat, hk]
  obtain ⟨z1, z2⟩ := seg_sz (i := l1.length) (by rw [hkx]; exact a1)
  rw [hlen, Nat.add_sub_cancel]
  refine ⟨z2, fun j h1 h2 => ?_, ?_⟩
  · by_cases hj : j < l1.length
    · exact a2 j h1 hj
    · obtain rfl : j = l1.length := by omega
      rw [hat]; exact hy
  · rw [tx_own z2, hat, show kdT fm names xs l1.length = (kd xs l1.length).map (tT fm names xs) from rfl, hkx]
    have := ndT_tight (names := names) hf hy (ts := cs.map (tT fm names xs)) (by rw [List.length_map, hk]) hc
    omega
/-- A whole tree that is drawn. -/
theorem DrS.tree (hn8 : 1 ≤ names.size ∧ names.size ≤ 8) (h : DrS fm names B M [] cs l1) (hM : cs.length * M < 200) : isNt names.size (l1 ++ [rtN cs]) ∧ kd (l1 ++ [rtN cs]) l1.length = cs ∧ (allT fm names (l1 ++ [rtN cs])).size ≤ cs.length * (B + 1) ∧ (cs ≠ [] → (allT fm names (l1 ++ [rtN cs])).size + 1 ≤ cs.length * (B + 1)) := by
  have hle := h.le
  rw [List.length_nil, Nat.zero_add] at hle
  obtain ⟨a1, a2, a3⟩ := h.ok (l1 ++ [rtN cs]) (List.prefix_append ..)
  obtain ⟨v1, v2⟩ := part_ok hn8 (by omega) a1 a2
  have hlen : (l1 ++ [rtN cs]).length - 1 = l1.length := by rw [List.length_append]; rfl
  have e : allT fm names (l1 ++ [rtN cs]) = jn (cs.map (tT fm names (l1 ++ [rtN cs]))) := by
    unfold allT
    rw [hlen, show kdT fm names (l1 ++ [rtN cs]) l1.length = (kd (l1 ++ [rtN cs]) l1.length).map (tT fm names _) from rfl, v2]
  refine ⟨v1, v2, ?_, fun hc => ?_⟩
  · rw [e]; have := jn_size (cs.map (tT fm names (l1 ++ [rtN cs]))); omega
  · rw [e]; have := jn_tight (ws := cs.map (tT fm names (l1 ++ [rtN cs]))) (by simpa using hc); omega
end
end Go.Nt
end
/- Drawn syntax trees: w9Node. -/
section
namespace Go.Proofs.YticbabpajligbaaDoor
open Go.Av
set_option linter.unusedSimpArgs false
set_option linter.unusedVariables false
attribute [local irreducible] AWP CallG Ob Br BrP Go.Av.Sub endQ AOps OpV AC thenA blkA opsVC opVC withA withArgs opsQ opQ CallQ withA2 withArgs2
open Go.Nt (Nd nd0 kd ndOk sz isNt DrI DrS rtN)
/-- A source and a row of nodes. -/
def hL (d : Dc) (l : List Nd) : Hp := (DH .u64 d).upd 500000 (.cells (l.length * 6) (ndF l))
theorem fmS_ok : Go.Nt.FmOk fmS := by
  have h := all100 (p := fun v => (2 ≤ v → v < 10 → (fmS v).size = 1 ∧ ((fmS v).data.toList.getD 0 0).toNat = 48 + v) ∧ (10 ≤ v → (fmS v).size = 2 ∧ ((fmS v).data.toList.getD 0 0).toNat = 48 + v / 10 ∧ ((fmS v).data.toList.getD 1 0).toNat = 48 + v % 10)) (by kernel_rfl)
  exact ⟨fun v h1 h2 => (h v (by omega)).1 h1 h2, fun v h1 h2 => (h v h2).2 h1⟩
end Go.Proofs.YticbabpajligbaaDoor
end

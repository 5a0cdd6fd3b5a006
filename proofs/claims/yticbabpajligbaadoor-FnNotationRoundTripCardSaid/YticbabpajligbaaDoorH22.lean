import Derived.Test.YticbabpajligbaaDoorH21
import Derived.Test.YticbabpajligbaaDoorH17
import Derived.Test.YticbabpajligbaaDoorH12
import Derived.Test.YticbabpajligbaaDoorH13
/- What is read is the text of what is answered; plain. -/
section
namespace Go.Nt
set_option linter.unusedVariables false
set_option linter.unusedSimpArgs false
theorem At.mk' {s : ByteArray} {p : Nat} {t : ByteArray} (h : ∀ j, j < t.size → Go.Nt.bt s (p + j) = (t.data.toList.getD j 0).toNat ∧ p + j < s.size) (h0 : p ≤ s.size) : At s p t := by
  refine ⟨?_, fun j hj => ?_⟩
  · by_cases hz : t.size = 0
    · omega
    · have := (h (t.size - 1) (by omega)).2; omega
  · obtain ⟨h1, h2⟩ := h j hj
    unfold Go.Nt.bt at h1
    rw [if_pos h2] at h1
    exact UInt8.toNat_inj.1 h1
theorem At.put {s : ByteArray} {p : Nat} {a b : ByteArray} (h1 : At s p a) (h2 : At s (p + a.size) b) : At s p (a ++ b) := by
  refine ⟨by rw [ByteArray.size_append]; have := h2.1; omega, fun j hj => ?_⟩
  rw [ByteArray.size_append] at hj
  rw [app_getD]
  by_cases hja : j < a.size
  · rw [if_pos hja]; exact h1.2 j hja
  · rw [if_neg hja, ← h2.2 (j - a.size) (by omega), show p + a.size + (j - a.size) = p + j by omega]
theorem At.sing {s : ByteArray} {p : Nat} {b : UInt8} (h : Go.Nt.bt s p = b.toNat) (hb : b.toNat ≠ 0) : At s p ⟨#[b]⟩ := by
  have hp := bt_lt (s := s) (p := p) (by omega)
  refine .mk' (fun j hj => ?_) (by omega)
  have e1 : (⟨#[b]⟩ : ByteArray).size = 1 := rfl
  obtain rfl : j = 0 := by omega
  rw [Nat.add_zero]
  exact ⟨by rw [h]; rfl, hp⟩
theorem At.nil {s : ByteArray} {p : Nat} (h : p ≤ s.size) : At s p ⟨#[]⟩ := ⟨h, fun j hj => absurd hj (Nat.not_lt_zero _)⟩
/-- A suffix that is read. -/
theorem inv_text {s : ByteArray} {p q : Nat} {l l' : List Nd} {y : Nd} {n : Int} (hy : y.inv = 0) (h : pInv s p l y n = .ok q l' ()) : ∃ v : Int, l' = l ++ [{ y with count := n, inv := v }] ∧ ((v = 1 ∧ At s p ⟨#[39]⟩ ∧ q = p + 1) ∨ (v = 0 ∧ q = p)) := by
  unfold pInv at h
  split at h
  · rename_i h1
    cases h
    exact ⟨1, rfl, .inl ⟨rfl, .sing h1 (by decide), rfl⟩⟩
  · cases h
    exact ⟨0, by cases y; simp_all, .inr ⟨rfl, rfl⟩⟩
theorem suf_text {fm : Nat → ByteArray} (hf : FmOk fm) {s : ByteArray} {p q : Nat} {l l' : List Nd} {y : Nd} (hy : y.inv = 0) (h : pSuf s p l y = .ok q l' ()) : ∃ (n v : Int) (p1 : Nat), l' = l ++ [{ y with count := n, inv := v }] ∧ (1 ≤ n ∧ n ≤ 99) ∧ ((1 < n ∧ At s p (fm n.toNat) ∧ p1 = p + (fm n.toNat).size) ∨ (n = 1 ∧ p1 = p)) ∧ ((v = 1 ∧ At s p1 ⟨#[39]⟩ ∧ q = p1 + 1) ∨ (v = 0 ∧ q = p1)) := by
  unfold pSuf at h
  split at h
  · obtain ⟨v, h1, h2⟩ := inv_text hy h
    exact ⟨1, v, p, h1, by omega, .inr ⟨rfl, rfl⟩, h2⟩
  · rename_i hd
    have hd : dig (bt s p) := Classical.byContradiction hd
    have hp := bt_lt (s := s) (p := p) (by unfold dig at hd; omega)
    split at h
    · cases h
    · rename_i h48
      split at h
      · rename_i h1
        have hp1 := bt_lt (s := s) (p := p + 1) (by unfold dig at h1; omega)
        obtain ⟨v, h2, h3⟩ := inv_text hy h
        unfold dig at hd h1
        obtain ⟨w, ew⟩ : ∃ w : Nat, w = 10 * (bt s p - 48) + (bt s (p + 1) - 48) := ⟨_, rfl⟩
        have e : (10 * ((bt s p : Int) - 48) + ((bt s (p + 1) : Int) - 48)) = (w : Int) := by omega
        rw [e] at h2
        obtain ⟨z1, z2, z3⟩ := hf.two w (by omega) (by omega)
        refine ⟨w, v, p + 2, h2, by omega, .inl ⟨by omega, ?_, by rw [Int.toNat_natCast, z1]⟩, h3⟩
        rw [Int.toNat_natCast]
        refine .mk' (fun j hj => ?_) (by omega)
        have : j = 0 ∨ j = 1 := by omega
        rcases this with rfl | rfl
        · rw [z2, Nat.add_zero]; exact ⟨by omega, hp⟩
        · rw [z3]; exact ⟨by omega, hp1⟩
      · split at h
        · cases h
        · rename_i h49
          obtain ⟨v, h2, h3⟩ := inv_text hy h
          unfold dig at hd
          obtain ⟨w, ew⟩ : ∃ w : Nat, w = bt s p - 48 := ⟨_, rfl⟩
          have e : ((bt s p : Int) - 48) = (w : Int) := by omega
          rw [e] at h2
          obtain ⟨z1, z2⟩ := hf.one w (by omega) (by omega)
          refine ⟨w, v, p + 1, h2, by omega, .inl ⟨by omega, ?_, by rw [Int.toNat_natCast, z1]⟩, h3⟩
          rw [Int.toNat_natCast]
          refine .mk' (fun j hj => ?_) (by omega)
          obtain rfl : j = 0 := by omega
          rw [z2, Nat.add_zero]; exact ⟨by omega, hp⟩
theorem ndT_put {fm : Nat → ByteArray} {names s : ByteArray} {x : Nd} {ts : List ByteArray} {p p1 q : Nat} (hin : At s p (inT names x ts)) (hn : (1 < x.count ∧ At s (p + (inT names x ts).size) (fm x.count.toNat) ∧ p1 = p + (inT names x ts).size + (fm x.count.toNat).size) ∨ (x.count = 1 ∧ p1 = p + (inT names x ts).size))
    (hv : (x.inv = 1 ∧ At s p1 ⟨#[39]⟩ ∧ q = p1 + 1) ∨ (x.inv = 0 ∧ q = p1)) : At s p (ndT fm names x ts) ∧ q = p + (ndT fm names x ts).size := by
  have e1 : (⟨#[39]⟩ : ByteArray).size = 1 := rfl
  have hcm : x.count = 1 → ¬ 1 < x.count := fun h => by omega
  have hvm : x.inv = 0 → ¬ x.inv = 1 := fun h => by omega
  unfold ndT
  rcases hn with ⟨c1, c2, rfl⟩ | ⟨c1, rfl⟩
  · simp only [if_pos c1]
    have h1 := hin.put c2
    rcases hv with ⟨v1, v2, rfl⟩ | ⟨v1, rfl⟩
    · rw [if_pos v1]
      refine ⟨h1.put (by rwa [ByteArray.size_append, ← Nat.add_assoc]), ?_⟩
      rw [ByteArray.size_append, ByteArray.size_append, e1]; omega
    · rw [if_neg (hvm v1)]
      exact ⟨h1, by rw [ByteArray.size_append]; omega⟩
  · simp only [if_neg (hcm c1)]
    rcases hv with ⟨v1, v2, rfl⟩ | ⟨v1, rfl⟩
    · rw [if_pos v1]
      exact ⟨hin.put v2, by rw [ByteArray.size_append, e1]; omega⟩
    · rw [if_neg (hvm v1)]
      exact ⟨hin, rfl⟩
section
variable {fm : Nat → ByteArray} {names s : ByteArray} {xs : List Nd}
theorem txF_own : ∀ (i f m : Nat), sz xs i = some m → i < f → txF fm names xs f i = tx fm names xs i := by
  intro i
  induction i using Nat.strongRecOn with
  | _ i ih =>
    intro f m hm hf
    obtain ⟨g, rfl⟩ : ∃ g, f = g + 1 := ⟨f - 1, by omega⟩
    show ndT fm names _ _ = ndT fm names _ _
    congr 1
    refine List.map_congr_left fun c hc => ?_
    obtain ⟨q, m', e, hq, hs⟩ := (sz_mem hm).1 c hc
    have hc : c.toNat = q := by omega
    rw [hc, ih q hq g m' hs (by omega), ih q hq i m' hs hq]
theorem tx_own {i m : Nat} (h : sz xs i = some m) : tx fm names xs i = ndT fm names (xs.getD i nd0) (kdT fm names xs i) := by
  show ndT fm names _ _ = _
  congr 1
  refine List.map_congr_left fun c hc => ?_
  obtain ⟨q, m', e, hq, hs⟩ := (sz_mem h).1 c hc
  have hc : c.toNat = q := by omega
  rw [hc]
  exact txF_own q i m' hs hq
theorem seg_szK : ∀ (rs : List Int) (a p m0 : Nat), Seg xs a rs.reverse p → a ≤ p ∧ szK (sz xs) rs p m0 = some (m0 + (p - a))
  | [], a, p, m0, h => by
    obtain rfl : a = p := h
    exact ⟨Nat.le_refl _, by simp [szK]⟩
  | c :: rs, a, p, m0, h => by
    rw [List.reverse_cons] at h
    obtain ⟨b, h1, m, h2, h3, h4, h5⟩ := Seg.app.1 h
    obtain rfl : c.toNat + 1 = p := h5
    have hr := sz_run xs _ m h2
    obtain ⟨k1, k2⟩ := seg_szK rs a b (m0 + m) h1
    refine ⟨by omega, ?_⟩
    unfold szK
    rw [if_pos ⟨by omega, by omega⟩, show c.toNat + 1 - 1 = c.toNat by omega, h2]
    dsimp only
    rw [show c.toNat + 1 - m = b by omega, k2]
    congr 1
    omega
theorem seg_sz {i a : Nat} (h : Seg xs a (kd xs i) i) : a ≤ i ∧ sz xs i = some (i + 1 - a) := by
  have := seg_szK (kd xs i).reverse a i 1 (by rwa [List.reverse_reverse])
  refine ⟨this.1, ?_⟩
  rw [sz_eq, this.2]
  congr 1
  omega
theorem jn_snoc_cons (w : ByteArray) (ws : List ByteArray) (h : ws ≠ []) : jn (w :: ws) = w ++ ⟨#[32]⟩ ++ jn ws := by
  cases ws with
  | nil => exact absurd rfl h
  | cons v r => exact jn_cons w v r
def TxI (fm : Nat → ByteArray) (names s : ByteArray) (f : Nat) : Prop := ∀ p l q l', pItem names s f p l = .ok q l' () → l.length < l'.length ∧ l <+: l' ∧ ∀ xs, l' <+: xs →
  sz xs (l'.length - 1) = some (l'.length - l.length) ∧ (∀ j, l.length ≤ j → j < l'.length → ndOk names.size (xs.getD j nd0) false) ∧ At s p (tx fm names xs (l'.length - 1)) ∧ q = p + (tx fm names xs (l'.length - 1)).size
def TxS (fm : Nat → ByteArray) (names s : ByteArray) (f : Nat) : Prop := ∀ p l ks q l' ks', pSeq names s f p l ks = .ok q l' ks' → ∃ cs, cs ≠ [] ∧ ks' = ks ++ cs ∧ l.length < l'.length ∧ l <+: l' ∧ ∀ xs, l' <+: xs →
  Seg xs l.length cs l'.length ∧ (∀ j, l.length ≤ j → j < l'.length → ndOk names.size (xs.getD j nd0) false) ∧ At s p (jn (cs.map (tT fm names xs))) ∧ q = p + (jn (cs.map (tT fm names xs))).size
theorem pre_at {l xs : List Nd} {y : Nd} (h : l ++ [y] <+: xs) : xs.getD l.length nd0 = y := by
  obtain ⟨r, rfl⟩ := h
  simp [List.getD_eq_getElem?_getD]
theorem node_text (hf : FmOk fm) {p p0 q : Nat} {l l0 l' : List Nd} {y : Nd} (hy : y.inv = 0) (hl : l <+: l0) (h : pSuf s p0 l0 y = .ok q l' ()) (hkd : ∀ xs : List Nd, l0 <+: xs → Seg xs l.length y.kids l0.length ∧ (∀ j, l.length ≤ j → j < l0.length → ndOk names.size (xs.getD j nd0) false) ∧ (∀ n v : Int, At s p (inT names { y with count := n, inv := v } (y.kids.map (tT fm names xs))) ∧ p0 = p + (inT names { y with count := n, inv := v } (y.kids.map (tT fm names xs))).size))
    (hok : ∀ n v : Int, 1 ≤ n → n ≤ 99 → v = 0 ∨ v = 1 → ndOk names.size { y with count := n, inv := v } false) :
    l.length < l'.length ∧ l <+: l' ∧ ∀ xs, l' <+: xs → sz xs (l'.length - 1) = some (l'.length - l.length) ∧ (∀ j, l.length ≤ j → j < l'.length → ndOk names.size (xs.getD j nd0) false) ∧ At s p (tx fm names xs (l'.length - 1)) ∧ q = p + (tx fm names xs (l'.length - 1)).size := by
  obtain ⟨n, v, p1, rfl, hn, hp1, hv⟩ := suf_text hf hy h
  have hll := hl.length_le
  have hlen : (l0 ++ [{ y with count := n, inv := v }]).length = l0.length + 1 := by rw [List.length_append]; rfl
  rw [hlen]
  refine ⟨by omega, hl.trans (List.prefix_append ..), fun xs hxs => ?_⟩
  have h0 : l0 <+: xs := (List.prefix_append ..).trans hxs
  obtain ⟨h1, h2, h3⟩ := hkd xs h0
  have hx := pre_at hxs
  rw [show l0.length + 1 - 1 = l0.length by omega]
  have hkx : kd xs l0.length = y.kids := by unfold kd; rw [hx]
  obtain ⟨ha, hs⟩ := seg_sz (i := l0.length) (by rw [hkx]; exact h1)
  refine ⟨hs, fun j hj1 hj2 => ?_, ?_⟩
  · by_cases hj : j < l0.length
    · exact h2 j hj1 hj
    · obtain rfl : j = l0.length := by omega
      rw [hx]
      exact hok n v hn.1 hn.2 (by rcases hv with ⟨h, _⟩ | ⟨h, _⟩ <;> omega)
  · rw [tx_own hs, hx, show kdT fm names xs l0.length = (kd xs l0.length).map (tT fm names xs) from rfl, hkx]
    obtain ⟨g1, g2⟩ := h3 n v
    exact ndT_put g1 (by rw [← g2]; exact hp1) hv
theorem read_text (hf : FmOk fm) (hn : NmD names) (hsz : names.size ≤ 8) : ∀ f, TxI fm names s f ∧ TxS fm names s f
  | 0 => ⟨fun p l q l' h => (by unfold pItem at h; cases h), fun p l ks q l' ks' h => (by unfold pSeq at h; cases h)⟩
  | f + 1 => by
    obtain ⟨hI, hS⟩ := read_text hf hn hsz f
    have e1 : ∀ b : UInt8, (⟨#[b]⟩ : ByteArray).size = 1 := fun _ => rfl
    constructor
    · intro p l q l' h
      unfold pItem at h
      cases e : li names (bt s p) with
      | some m =>
        rw [e] at h
        dsimp only at h
        obtain ⟨hm1, hm2, _⟩ := liF_some e
        have hby := hn.ok.2 m hm1
        have hp := bt_lt (s := s) (p := p) (by rw [← hm2]; omega)
        refine node_text hf rfl (List.prefix_refl l) h (fun xs hxs => ⟨rfl, fun j h1 h2 => by omega, fun n v => ?_⟩) (fun n v h1 h2 h3 => ⟨⟨h1, h2⟩, by show 0 ≤ v ∧ v ≤ 1; omega, .inr ⟨rfl, .inl ⟨rfl, ⟨by show 0 ≤ (m : Int); omega, by show (m : Int) ≤ names.size - 1; omega⟩, rfl, rfl⟩⟩⟩)
        have eI : ∀ ts, inT names { kind := 1, move := (m : Int), count := n, inv := v, split := 0, kids := [] } ts = names.extract m (m + 1) := fun ts => by
          unfold inT; rw [if_pos rfl]; congr 1
        rw [eI]
        have ez : (names.extract m (m + 1)).size = 1 := by rw [ByteArray.size_extract]; omega
        refine ⟨.mk' (fun j hj => ?_) (by omega), by rw [ez]⟩
        obtain rfl : j = 0 := by omega
        have eb : (names.extract m (m + 1)).data.toList.getD 0 0 = names.data.toList.getD m 0 := by
          simp [List.getD_eq_getElem?_getD, List.getElem?_take]
        rw [eb, Nat.add_zero]
        exact ⟨hm2.symm, hp⟩
      | none =>
        rw [e] at h
        dsimp only at h
        split at h
        · rename_i h40
          cases e2 : pSeq names s f (p + 1) l [] with
          | out => rw [e2] at h; cases h
          | bad w => rw [e2] at h; cases h
          | ok q0 l0 k0 =>
            rw [e2] at h
            dsimp only at h
            split at h
            · rename_i h41
              obtain ⟨cs, c1, c2, c3, c4, c5⟩ := hS _ _ _ _ _ _ e2
              rw [List.nil_append] at c2
              subst c2
              refine node_text hf rfl c4 h (fun xs hxs => ?_) (fun n v h1 h2 h3 => ⟨⟨h1, h2⟩, by show 0 ≤ v ∧ v ≤ 1; omega, .inr ⟨rfl, .inr (.inl ⟨rfl, rfl, rfl, List.length_pos_iff.2 c1⟩)⟩⟩)
              obtain ⟨d1, d2, d3, d4⟩ := c5 xs hxs
              refine ⟨d1, d2, fun n v => ?_⟩
              have eI : ∀ ts, inT names { kind := 2, move := 0, count := n, inv := v, split := 0, kids := k0 } ts = (⟨#[40]⟩ : ByteArray) ++ jn ts ++ ⟨#[41]⟩ := fun ts => by
                unfold inT; rw [if_neg (by show ¬ (2 : Int) = 1; decide), if_pos rfl]
              show At s p (inT names _ (k0.map (tT fm names xs))) ∧ q0 + 1 = p + (inT names _ (k0.map (tT fm names xs))).size
              rw [eI, ByteArray.size_append, ByteArray.size_append, e1, e1]
              refine ⟨((At.sing h40 (by decide)).put (by rw [e1]; exact d3)).put ?_, by omega⟩
              rw [ByteArray.size_append, e1, show p + (1 + (jn (k0.map (tT fm names xs))).size) = q0 by omega]
              exact .sing h41 (by decide)
            · cases h
        · split at h
          · rename_i h91
            cases e2 : pSeq names s f (p + 1) l [] with
            | out => rw [e2] at h; cases h
            | bad w => rw [e2] at h; cases h
            | ok q0 l0 k0 =>
              rw [e2] at h
              dsimp only at h
              split at h
              · rename_i hc
                cases e3 : pSeq names s f (q0 + 1) l0 [] with
                | out => rw [e3] at h; cases h
                | bad w => rw [e3] at h; cases h
                | ok q1 l1 k1 =>
                  rw [e3] at h
                  dsimp only at h
                  split at h
                  · rename_i h93
                    obtain ⟨cs, c1, c2, c3, c4, c5⟩ := hS _ _ _ _ _ _ e2
                    obtain ⟨ds, b1, b2, b3, b4, b5⟩ := hS _ _ _ _ _ _ e3
                    rw [List.nil_append] at c2 b2
                    subst c2 b2
                    have hk0 := List.length_pos_iff.2 c1
                    have hk1 := List.length_pos_iff.2 b1
                    obtain ⟨kk, ekk⟩ : ∃ kk : Int, kk = if bt s q0 = 58 then 4 else 3 := ⟨_, rfl⟩
                    have hkk : kk = 3 ∨ kk = 4 := by rw [ekk]; split <;> omega
                    rw [← ekk] at h
                    refine node_text hf rfl (c4.trans b4) h (fun xs hxs => ?_) (fun n v h1 h2 h3 => ⟨⟨h1, h2⟩, by show 0 ≤ v ∧ v ≤ 1; omega, .inr ⟨rfl, .inr (.inr ⟨hkk, rfl, by show 1 ≤ (k0.length : Int); omega, by show (k0.length : Int) ≤ ((k0 ++ k1).length : Int) - 1; rw [List.length_append]; omega⟩)⟩⟩)
                    obtain ⟨d1, d2, d3, d4⟩ := c5 xs (b4.trans hxs)
                    obtain ⟨g1, g2, g3, g4⟩ := b5 xs hxs
                    refine ⟨Seg.app.2 ⟨_, d1, g1⟩, fun j hj1 hj2 => ?_, fun n v => ?_⟩
                    · by_cases hj : j < l0.length
                      · exact d2 j hj1 hj
                      · exact g2 j (by omega) hj2
                    · obtain ⟨cc, ecc⟩ : ∃ cc : UInt8, cc = if kk = 3 then 44 else 58 := ⟨_, rfl⟩
                      have eI : inT names { kind := kk, move := 0, count := n, inv := v, split := (k0.length : Int), kids := k0 ++ k1 } ((k0 ++ k1).map (tT fm names xs)) = (⟨#[91]⟩ : ByteArray) ++ jn (k0.map (tT fm names xs)) ++ ⟨#[cc]⟩ ++ jn (k1.map (tT fm names xs)) ++ ⟨#[93]⟩ := by
                        have t1 : ((k0 ++ k1).map (tT fm names xs)).take (k0.length : Int).toNat = k0.map (tT fm names xs) := by
                          rw [Int.toNat_natCast, List.map_append, List.take_left' (by rw [List.length_map])]
                        have t2 : ((k0 ++ k1).map (tT fm names xs)).drop (k0.length : Int).toNat = k1.map (tT fm names xs) := by
                          rw [Int.toNat_natCast, List.map_append, List.drop_left' (by rw [List.length_map])]
                        unfold inT
                        dsimp only
                        rw [if_neg (by omega), if_neg (by omega), t1, t2, ecc]
                        by_cases h3 : kk = 3
                        · rw [if_pos h3, if_pos h3]
                        · rw [if_neg h3, if_neg h3]
                      have hcb : bt s q0 = cc.toNat := by
                        rw [ecc]
                        by_cases h58 : bt s q0 = 58
                        · rw [if_pos h58] at ekk
                          rw [if_neg (by omega), h58]; rfl
                        · rw [if_neg h58] at ekk
                          rw [if_pos ekk]
                          rcases hc with h | h
                          · exact absurd h h58
                          · rw [h]; rfl
                      have hcc0 : cc.toNat ≠ 0 := by rw [ecc]; split <;> decide
                      rw [eI, ByteArray.size_append, ByteArray.size_append, ByteArray.size_append, ByteArray.size_append, e1, e1, e1]
                      refine ⟨((((At.sing h91 (by decide)).put (by rw [e1]; exact d3)).put ?_).put ?_).put ?_, by omega⟩
                      · rw [ByteArray.size_append, e1, show p + (1 + (jn (k0.map (tT fm names xs))).size) = q0 by omega]
                        exact .sing hcb hcc0
                      · rw [ByteArray.size_append, ByteArray.size_append, e1, e1, show p + (1 + (jn (k0.map (tT fm names xs))).size + 1) = q0 + 1 by omega]
                        exact g3
                      · rw [ByteArray.size_append, ByteArray.size_append, ByteArray.size_append, e1, e1, show p + (1 + (jn (k0.map (tT fm names xs))).size + 1 + (jn (k1.map (tT fm names xs))).size) = q1 by omega]
                        exact .sing h93 (by decide)
                  · cases h
              · cases h
          · cases h
    · intro p l ks q l' ks' h
      unfold pSeq at h
      cases e2 : pItem names s f p l with
      | out => rw [e2] at h; cases h
      | bad w => rw [e2] at h; cases h
      | ok q0 l0 u =>
        rw [e2] at h
        dsimp only at h
        obtain ⟨c1, c2, c3⟩ := hI _ _ _ _ e2
        have hcn : ((l0.length : Int) - 1).toNat = l0.length - 1 := by omega
        split at h
        · rename_i h32
          obtain ⟨ds, b1, b2, b3, b4, b5⟩ := hS _ _ _ _ _ _ h
          refine ⟨((l0.length : Int) - 1) :: ds, by simp, by rw [b2, List.append_assoc]; rfl, by omega, c2.trans b4, fun xs hxs => ?_⟩
          obtain ⟨d1, d2, d3, d4⟩ := c3 xs (b4.trans hxs)
          obtain ⟨g1, g2, g3, g4⟩ := b5 xs hxs
          refine ⟨⟨l0.length - l.length, by rw [hcn]; exact d1, by omega, by rw [hcn]; omega, by rw [hcn, show l0.length - 1 + 1 = l0.length by omega]; exact g1⟩, fun j hj1 hj2 => ?_, ?_⟩
          · by_cases hj : j < l0.length
            · exact d2 j hj1 hj
            · exact g2 j (by omega) hj2
          · rw [List.map_cons, jn_snoc_cons _ _ (by simpa using b1)]
            have et : tT fm names xs ((l0.length : Int) - 1) = tx fm names xs (l0.length - 1) := by unfold tT; rw [hcn]
            rw [et, ByteArray.size_append, ByteArray.size_append, e1]
            refine ⟨(d3.put (by rw [← d4]; exact .sing h32 (by decide))).put ?_, by omega⟩
            rw [ByteArray.size_append, e1, show p + ((tx fm names xs (l0.length - 1)).size + 1) = q0 + 1 by omega]
            exact g3
        · cases h
          refine ⟨[(l'.length : Int) - 1], by simp, rfl, c1, c2, fun xs hxs => ?_⟩
          obtain ⟨d1, d2, d3, d4⟩ := c3 xs hxs
          have et : tT fm names xs ((l'.length : Int) - 1) = tx fm names xs (l'.length - 1) := by unfold tT; rw [hcn]
          refine ⟨⟨l'.length - l.length, by rw [hcn]; exact d1, by omega, by rw [hcn]; omega, by show ((l'.length : Int) - 1).toNat + 1 = l'.length; omega⟩, d2, ?_⟩
          rw [List.map_cons, List.map_nil, jn_one, et]
          exact ⟨d3, d4⟩
end
end Go.Nt
end
/- Notations read back, whole or cut short; plain. -/
section
namespace Go.Nt
set_option linter.unusedVariables false
set_option linter.unusedSimpArgs false
section
variable {fm : Nat → ByteArray} {names : ByteArray} {xs : List Nd}
/-- The last node. -/
abbrev rtN (ks : List Int) : Nd := ⟨2, 0, 1, 0, 0, ks⟩
/-- The whole text. -/
def allT (fm : Nat → ByteArray) (names : ByteArray) (xs : List Nd) : ByteArray := jn (kdT fm names xs (xs.length - 1))
theorem bt_end (s : ByteArray) : bt s s.size = 0 := by unfold bt; rw [if_neg (by omega)]
theorem At.self (s : ByteArray) : At s 0 s := ⟨by omega, fun j hj => by rw [Nat.zero_add]⟩
theorem At.eq {s t : ByteArray} (h : At s 0 t) (hs : t.size = s.size) : t = s := by
  apply ByteArray.ext
  refine Array.ext hs fun i h1 h2 => ?_
  have := h.2 i h1
  rw [Nat.zero_add, List.getD_eq_getElem?_getD, List.getD_eq_getElem?_getD, Array.getElem?_toList, Array.getElem?_toList, Array.getElem?_eq_getElem h1, Array.getElem?_eq_getElem h2] at this
  simpa using this.symm
theorem root_eq (hv : isNt names.size xs) : xs = xs.take (xs.length - 1) ++ [⟨2, 0, 1, 0, 0, kd xs (xs.length - 1)⟩] := by
  have hl := hv.2.1
  have hx := hv.2.2.1 (xs.length - 1) (by omega)
  have h1 := take_snoc (xs := xs) (i := xs.length - 1) (by omega)
  rw [show xs.length - 1 + 1 = xs.length by omega, List.take_length] at h1
  rw [decide_eq_true (by omega : xs.length - 1 + 1 = xs.length)] at hx
  obtain ⟨_, _, h | h⟩ := hx
  · obtain ⟨_, k1, k2, k3, k4, k5⟩ := h
    have e : xs.getD (xs.length - 1) nd0 = ⟨2, 0, 1, 0, 0, kd xs (xs.length - 1)⟩ := by
      have hk : kd xs (xs.length - 1) = (xs.getD (xs.length - 1) nd0).kids := rfl
      rw [hk]
      cases h : xs.getD (xs.length - 1) nd0
      rw [h] at k1 k2 k3 k4 k5
      simp only at k1 k2 k3 k4 k5
      simp only [Nd.mk.injEq, and_true]
      exact ⟨k1, k4, k2, k3, k5⟩
    rw [e] at h1; exact h1
  · exact absurd h.1 (by decide)
theorem par_tree (hf : FmOk fm) (hn : NmD names) (hv : isNt names.size xs) (hk : kd xs (xs.length - 1) ≠ []) (f : Nat) (hfu : 2 * (allT fm names xs).size + 2 ≤ f) : pSeq names (allT fm names xs) f 0 [] [] = .ok (allT fm names xs).size (xs.take (xs.length - 1)) (kd xs (xs.length - 1)) := by
  have hl := hv.2.1
  obtain ⟨h1, h2, hsg⟩ := sz_seg hv.2.2.2
  rw [show xs.length - 1 + 1 - xs.length = 0 by omega] at hsg
  obtain ⟨t, et⟩ : ∃ t, t = allT fm names xs := ⟨_, rfl⟩
  have et2 : allT fm names xs = jn ((kd xs (xs.length - 1)).map (tT fm names xs)) := rfl
  have hit : ∀ c ∈ kd xs (xs.length - 1), ItemOK fm names t xs c.toNat ∧ c.toNat < xs.length := fun c hc => by
    obtain ⟨q, mq, e, hq, _⟩ := (sz_mem hv.2.2.2).1 c hc
    exact ⟨item_read hf hn hv c.toNat (by omega), by omega⟩
  rw [← et] at et2 hfu ⊢
  cases hc : kd xs (xs.length - 1) with
  | nil => exact absurd hc hk
  | cons c0 cs =>
    rw [hc] at et2 hsg hit
    have hend : bt t (0 + (jn ((c0 :: cs).map (tT fm names xs))).size) = 0 := by rw [← et2, Nat.zero_add]; exact bt_end t
    have := seq_read (fm := fm) (s := t) cs c0 0 (xs.length - 1) f 0 [] hsg hit (by rw [← et2]; exact .self t) (by rw [hend]; exact .inl rfl) (by rw [hend]; decide) (by omega)
    rw [← et2, Nat.zero_add] at this
    exact this
theorem cut_bt {t : ByteArray} {k : Nat} (hk : k ≤ t.size) : ∀ p, p < k → bt (t.extract 0 k) p = bt t p := fun p hp => by
  have hz : (t.extract 0 k).size = k := by rw [ByteArray.size_extract]; omega
  unfold bt
  rw [if_pos (by omega), if_pos (by omega)]
  congr 1
  simp [List.getD_eq_getElem?_getD, List.getElem?_take, hp]
theorem part_ok (hn8 : 1 ≤ names.size ∧ names.size ≤ 8) {l : List Nd} {ks : List Int} (hl : l.length < 200) (hsg : Seg (l ++ [rtN ks]) 0 ks l.length) (hnd : ∀ j, 0 ≤ j → j < l.length → ndOk names.size ((l ++ [rtN ks]).getD j nd0) false) : isNt names.size (l ++ [rtN ks]) ∧ kd (l ++ [rtN ks]) l.length = ks := by
  have hx : (l ++ [rtN ks]).getD l.length nd0 = rtN ks := pre_at (List.prefix_refl _)
  have hkd : kd (l ++ [rtN ks]) l.length = ks := by unfold kd; rw [hx]
  have hz := seg_sz (i := l.length) (by rw [hkd]; exact hsg)
  have hlen : (l ++ [rtN ks]).length = l.length + 1 := by rw [List.length_append]; rfl
  refine ⟨⟨by omega, by omega, fun i hi => ?_, ?_⟩, hkd⟩
  · rw [hlen] at hi ⊢
    by_cases h : i < l.length
    · rw [decide_eq_false (by omega)]; exact hnd i (Nat.zero_le _) h
    · obtain rfl : i = l.length := by omega
      rw [decide_eq_true rfl, hx]
      exact ⟨(by show 1 ≤ (1 : Int) ∧ (1 : Int) ≤ 99; decide), (by show 0 ≤ (0 : Int) ∧ (0 : Int) ≤ 1; decide), .inl ⟨rfl, rfl, rfl, rfl, rfl, rfl⟩⟩
  · rw [hlen, Nat.add_sub_cancel, hz.2]; congr 1
theorem cut_law (hf : FmOk fm) (hn : NmD names) (hn8 : 1 ≤ names.size ∧ names.size ≤ 8) (hv : isNt names.size xs) (hk : kd xs (xs.length - 1) ≠ []) {k : Nat} (hk0 : 0 < k) (hkt : k < (allT fm names xs).size) (hsm : k < 200) :
    pSeq names ((allT fm names xs).extract 0 k) (2 * k + 2) 0 [] [] = .bad k ∨ ∃ l ks, pSeq names ((allT fm names xs).extract 0 k) (2 * k + 2) 0 [] [] = .ok k l ks ∧ l.length < 200 ∧ isNt names.size (l ++ [rtN ks]) ∧ allT fm names (l ++ [rtN ks]) = (allT fm names xs).extract 0 k := by
  obtain ⟨t, et⟩ : ∃ t, t = allT fm names xs := ⟨_, rfl⟩
  have hpar := fun f hfu => par_tree hf hn hv hk f hfu
  rw [← et] at hpar hkt ⊢
  have hz : (t.extract 0 k).size = k := by rw [ByteArray.size_extract]; omega
  obtain ⟨c, ec⟩ : ∃ c, c = t.extract 0 k := ⟨_, rfl⟩
  rw [← ec] at hz ⊢
  have hb : ∀ p, p < k → bt c p = bt t p := by rw [ec]; exact cut_bt (by omega)
  have hloc := (loc (names := names) hb (2 * k + 2)).2 (2 * t.size + 2) (by omega) 0 [] []
  have hp := hpar (2 * t.size + 2) (Nat.le_refl _)
  rcases pSeq_goes names c hn.ok (2 * k + 2) 0 [] [] (Nat.zero_le _) (by omega) with ⟨w, h1, h2, h3⟩ | ⟨q, l, ks, h1, hg⟩
  · left
    by_cases hw : w < k
    · have := hloc.1 w h1 hw
      rw [hp] at this
      cases this
    · rw [h1, show w = k by omega]
  · right
    have g2 := hg.le
    obtain ⟨m, e1, e2, e3⟩ := hg.pre
    rw [List.nil_append] at e1
    subst e1
    by_cases hq : q < k
    · have := hloc.2 q l ks h1 hq
      rw [hp] at this
      simp only [Pr.ok.injEq] at this
      omega
    · have hqk : q = k := by omega
      subst hqk
      obtain ⟨cs, c1, c2, c3, c4, c5⟩ := (read_text (s := c) hf hn hn8.2 (2 * q + 2)).2 _ _ _ _ _ _ h1
      rw [List.nil_append] at c2
      subst c2
      obtain ⟨d1, d2, d3, d4⟩ := c5 (l ++ [rtN ks]) (List.prefix_append ..)
      have hl : l.length < 200 := by omega
      obtain ⟨v1, v2⟩ := part_ok hn8 hl d1 d2
      refine ⟨l, ks, h1, hl, v1, ?_⟩
      have hlen : (l ++ [rtN ks]).length - 1 = l.length := by rw [List.length_append]; rfl
      unfold allT
      rw [hlen, show kdT fm names (l ++ [rtN ks]) l.length = (kd (l ++ [rtN ks]) l.length).map (tT fm names _) from rfl, v2]
      exact d3.eq (by omega)
end
end Go.Nt
end
/- Trees that are drawn: their shapes and the lengths of their texts; plain. -/
section
namespace Go.Nt
set_option linter.unusedVariables false
set_option linter.unusedSimpArgs false
section
variable {fm : Nat → ByteArray} {names : ByteArray}
theorem jnS_tight {ws : List ByteArray} : ∀ k, 1 ≤ k → k ≤ ws.length → (jnS ⟨#[32]⟩ ws k).size + 1 ≤ sumS (ws.take k)
  | 0, h, _ => by omega
  | k + 1, _, h => by
    have e : ws.take (k + 1) = ws.take k ++ [ws.getD k ByteArray.empty] := by
      rw [List.getD_eq_getElem?_getD, List.getElem?_eq_getElem (show k < ws.length by omega), ← List.take_append_getElem (show k < ws.length by omega)]; rfl
    have e1 : (⟨#[32]⟩ : ByteArray).size = 1 := rfl
    have e2 : sumS [ws.getD k ByteArray.empty] = (ws.getD k ByteArray.empty).size + 1 := by simp [sumS]
    rw [e, sumS_app, e2]
    unfold jnS
    rw [ByteArray.size_append]
    split
    · have := jnS_tight (ws := ws) k (by omega) (by omega)
      rw [ByteArray.size_append]; omega
    · have : k = 0 := by omega
      subst this
      show (⟨#[]⟩ : ByteArray).size + _ + 1 ≤ _
      have : (⟨#[]⟩ : ByteArray).size = 0 := rfl
      omega
theorem jn_tight {ws : List ByteArray} (h : ws ≠ []) : (jn ws).size + 1 ≤ sumS ws := by
  have := jnS_tight (ws := ws) ws.length (by have := List.length_pos_iff.2 h; omega) (Nat.le_refl _)
  rwa [List.take_length] at this
theorem inT_tight {x : Nd} {ts : List ByteArray} {many : Int} (hx : ndOk many x false) (hl : ts.length = x.kids.length) : (inT names x ts).size ≤ sumS ts + 1 := by
  have e1 : ∀ b : UInt8, (⟨#[b]⟩ : ByteArray).size = 1 := fun _ => rfl
  obtain ⟨_, _, h | ⟨_, ⟨k1, k2, k3, k4⟩ | ⟨k1, k2, k3, k4⟩ | ⟨k1, k2, k3, k4⟩⟩⟩ := hx
  · exact absurd h.1 (by decide)
  · unfold inT
    rw [if_pos k1, ByteArray.size_extract]; omega
  · have h1 := jn_tight (ws := ts) (List.length_pos_iff.1 (by omega))
    unfold inT
    rw [if_neg (by omega), if_pos k1, ByteArray.size_append, ByteArray.size_append, e1, e1]; omega
  · have h1 := jn_tight (ws := ts.take x.split.toNat) (List.length_pos_iff.1 (by rw [List.length_take]; omega))
    have h2 := jn_tight (ws := ts.drop x.split.toNat) (List.length_pos_iff.1 (by rw [List.length_drop]; omega))
    have h4 : sumS (ts.take x.split.toNat) + sumS (ts.drop x.split.toNat) = sumS ts := by rw [← sumS_app, List.take_append_drop]
    unfold inT
    rw [if_neg (by omega), if_neg (by omega)]
    split <;> (rw [ByteArray.size_append, ByteArray.size_append, ByteArray.size_append, ByteArray.size_append, e1, e1, e1]; omega)
theorem ndT_tight (hf : FmOk fm) {x : Nd} {ts : List ByteArray} {many : Int} (hx : ndOk many x false) (hl : ts.length = x.kids.length) (hc : x.count < 10) : (ndT fm names x ts).size ≤ sumS ts + 3 := by
  have h1 := inT_tight (names := names) hx hl
  have e1 : (⟨#[39]⟩ : ByteArray).size = 1 := rfl
  have h2 : 1 < x.count → (fm x.count.toNat).size = 1 := fun h => (hf.one x.count.toNat (by omega) (by omega)).1
  unfold ndT
  by_cases hc1 : 1 < x.count
  · have := h2 hc1
    simp only [if_pos hc1]
    split <;> (try simp only [ByteArray.size_append, e1]) <;> omega
  · simp only [if_neg hc1]
    split <;> (try simp only [ByteArray.size_append, e1]) <;> omega
/-- A subtree that is drawn. -/
structure DrI (fm : Nat → ByteArray) (names : ByteArray) (B M : Nat) (l l' : List Nd) : Prop where
  pre : l <+: l'
  lt : l.length < l'.length
  le : l'.length ≤ l.length + M
  ok : ∀ xs, l' <+: xs → sz xs (l'.length - 1) = some (l'.length - l.length) ∧ (∀ j, l.length ≤ j → j < l'.length → ndOk names.size (xs.getD j nd0) false) ∧ (tx fm names xs (l'.length - 1)).size ≤ B
/-- Subtrees that are drawn one after another. -/
structure DrS (fm : Nat → ByteArray) (names : ByteArray) (B M : Nat) (l : List Nd) (cs : List Int) (l' : List Nd) : Prop where
  pre : l <+: l'
  le : l'.length ≤ l.length + cs.length * M
  ok : ∀ xs, l' <+: xs → Seg xs l.length cs l'.length ∧ (∀ j, l.length ≤ j → j < l'.length → ndOk names.size (xs.getD j nd0) false) ∧ sumS (cs.map (tT fm names xs)) ≤ cs.length * (B + 1)
variable {B M : Nat} {l l1 l2 : List Nd} {cs : List Int}
theorem DrI.mono {B' M' : Nat} (h : DrI fm names B M l l1) (hB : B ≤ B') (hM : M ≤ M') : DrI fm names B' M' l l1 :=
  ⟨h.pre, h.lt, by have := h.le; omega, fun xs hx => let ⟨a, b, c⟩ := h.ok xs hx; ⟨a, b, by omega⟩⟩
theorem DrS.nil (l : List Nd) : DrS fm names B M l [] l := ⟨List.prefix_refl _, by simp, fun xs hx => ⟨rfl, fun j h1 h2 => by omega, by simp [sumS]⟩⟩
theorem DrS.snoc (h : DrS fm names B M l cs l1) (k : DrI fm names B M l1 l2) : DrS fm names B M l (cs ++ [(l2.length : Int) - 1]) l2 := by
  have hk := k.lt
  have hcn : ((l2.length : Int) - 1).toNat = l2.length - 1 := by omega
  refine ⟨h.pre.trans k.pre, ?_, fun xs hx => ?_⟩
  · rw [List.length_append, List.length_singleton, Nat.add_mul, Nat.one_mul]
    have := h.le; have := k.le; omega
  · obtain ⟨a1, a2, a3⟩ := h.ok xs (k.pre.trans hx)
    obtain ⟨b1, b2, b3⟩ := k.ok xs hx
    refine ⟨Seg.app.2 ⟨_, a1, l2.length - l1.length, by rw [hcn]; exact b1, by omega, by rw [hcn]; omega, by show ((l2.length : Int) - 1).toNat + 1 = l2.length; omega⟩, fun j h1 h2 => ?_, ?_⟩
    · by_cases hj : j < l1.length
      · exact a2 j h1 hj
      · exact b2 j (by omega) h2
    · rw [List.map_append, sumS_app, List.length_append, List.length_singleton, Nat.add_mul, Nat.one_mul]
      have et : tT fm names xs ((l2.length : Int) - 1) = tx fm names xs (l2.length - 1) := by unfold tT; rw [hcn]
      have : sumS ([(l2.length : Int) - 1].map (tT fm names xs)) = (tx fm names xs (l2.length - 1)).size + 1 := by rw [List.map_cons, List.map_nil, et]; simp [sumS]
      omega
theorem DrI.node (hf : FmOk fm) (h : DrS fm names B M l cs l1) {y : Nd} (hk : y.kids = cs) (hy : ndOk names.size y false) (hc : y.count < 10) : DrI fm names (cs.length * (B + 1) + 3) (cs.length * M + 1) l (l1 ++ [y]) := by
  have hll := h.pre.length_le
  have hlen : (l1 ++ [y]).length = l1.length + 1 := by rw [List.length_append]; rfl
  refine ⟨h.pre.trans (List.prefix_append ..), by omega, by rw [hlen]; have := h.le; omega, fun xs hx => ?_⟩
  obtain ⟨a1, a2, a3⟩ := h.ok xs ((List.prefix_append ..).trans hx)
  have hat := pre_at hx
  have hkx : kd xs l1.length = cs := by unfold kd; rw [hat, hk]
  obtain ⟨z1, z2⟩ := seg_sz (i := l1.length) (by rw [hkx]; exact a1)
  rw [hlen, Nat.add_sub_cancel]
  refine ⟨z2, fun j h1 h2 => ?_, ?_⟩
  · by_cases hj : j < l1.length
    · exact a2 j h1 hj
    · obtain rfl : j = l1.length := by omega
      rw [hat]; exact hy
  · rw [tx_own z2, hat, show kdT fm names xs l1.length = (kd xs l1.length).map (tT fm names xs) from rfl, hkx]
    have := ndT_tight (names := names) hf hy (ts := cs.map (tT fm names xs)) (by rw [List.length_map, hk]) hc
    omega
/-- A whole tree that is drawn. -/
theorem DrS.tree (hn8 : 1 ≤ names.size ∧ names.size ≤ 8) (h : DrS fm names B M [] cs l1) (hM : cs.length * M < 200) : isNt names.size (l1 ++ [rtN cs]) ∧ kd (l1 ++ [rtN cs]) l1.length = cs ∧ (allT fm names (l1 ++ [rtN cs])).size ≤ cs.length * (B + 1) ∧ (cs ≠ [] → (allT fm names (l1 ++ [rtN cs])).size + 1 ≤ cs.length * (B + 1)) := by
  have hle := h.le
  rw [List.length_nil, Nat.zero_add] at hle
  obtain ⟨a1, a2, a3⟩ := h.ok (l1 ++ [rtN cs]) (List.prefix_append ..)
  obtain ⟨v1, v2⟩ := part_ok hn8 (by omega) a1 a2
  have hlen : (l1 ++ [rtN cs]).length - 1 = l1.length := by rw [List.length_append]; rfl
  have e : allT fm names (l1 ++ [rtN cs]) = jn (cs.map (tT fm names (l1 ++ [rtN cs]))) := by
    unfold allT
    rw [hlen, show kdT fm names (l1 ++ [rtN cs]) l1.length = (kd (l1 ++ [rtN cs]) l1.length).map (tT fm names _) from rfl, v2]
  refine ⟨v1, v2, ?_, fun hc => ?_⟩
  · rw [e]; have := jn_size (cs.map (tT fm names (l1 ++ [rtN cs]))); omega
  · rw [e]; have := jn_tight (ws := cs.map (tT fm names (l1 ++ [rtN cs]))) (by simpa using hc); omega
end
end Go.Nt
end
/- Drawn syntax trees: w9Node. -/
section
namespace Go.Proofs.YticbabpajligbaaDoor
open Go.Av
set_option linter.unusedSimpArgs false
set_option linter.unusedVariables false
attribute [local irreducible] AWP CallG Ob Br BrP Go.Av.Sub endQ AOps OpV AC thenA blkA opsVC opVC withA withArgs opsQ opQ CallQ withA2 withArgs2
open Go.Nt (Nd nd0 kd ndOk sz isNt DrI DrS rtN)
/-- A source and a row of nodes. -/
def hL (d : Dc) (l : List Nd) : Hp := (DH .u64 d).upd 500000 (.cells (l.length * 6) (ndF l))
theorem scF_ndW (p : Nat → Bool) (l : List Nd) : scF p (ndF l) = ndF l := by funext i; exact (ndF_plain l i).2 p
theorem callL {P : Program} {N : Cx} {A : Fr} {H : Hp} {f : FuncId} {args : List AV} {d : Dc} {l : List Nd} {Q : List Nd → Prop} {K : AV → Fr → Hp → Prop} (hH : H 1000000 = some (.cells 3 (dF .u64 d))) (hE : H 500000 = some (.cells (l.length * 6) (ndF l)))
    (hac : AC P f args (hL d l) pM (fun r H' => ∃ d' l', Q l' ∧ r = .own 500000 0 6 l'.length ∧ H' = hL d' l')) (hpn : N.pn 500000 = false)
    (hK : ∀ d' l', Q l' → K (.own 500000 0 6 l'.length) (A.scrub (· == 500000)) (((H.scrub (· == 500000)).upd 1000000 (.cells 3 (dF .u64 d'))).upd 500000 (.cells (l'.length * 6) (ndF l')))) : CallG P N f args A H K := by
  have hle : Hp.le (hL d l) H := Hp.le_upd hE (Hp.le_upd hH (Hp.le_emp _))
  have hpm : ∀ d l h, hL d l h ≠ none → h = 1000000 ∨ h = 500000 := fun d l h hn => by
    unfold hL DH Hp.upd at hn
    by_cases e : h = 500000
    · exact .inr e
    · rw [if_neg e] at hn
      by_cases e2 : h = 1000000
      · exact .inl e2
      · rw [if_neg e2] at hn; exact absurd rfl hn
  have hsome : ∀ d l h, h = 1000000 ∨ h = 500000 → hL d l h ≠ none := by
    rintro d l h (rfl | rfl) <;> simp [hL, DH, Hp.upd]
  refine callG_of hac (· == 500000) false hle (FitsL.refl _) (fun _ => rfl) (fun h hn hp => ?_) (fun h hh => ?_) ?_
  · rcases hpm d l h hn with rfl | rfl
    · rfl
    · simp at hp
  · by_cases e2 : h = 500000
    · subst e2; rw [hpn] at hh; cases hh
    · simp [e2]
  rintro r H' ⟨d', l', hq, rfl, rfl⟩
  have hl : liveB (hL d' l') 500000 = true := by simp [liveB, hL, Hp.upd]
  have hcs : ∀ p, scF p (ndF l') = ndF l' := fun p => by funext i; exact (ndF_plain l' i).2 p
  refine ⟨fun h h1 h2 => absurd h2 (hsome _ _ _ (hpm d' l' h h1)), by simp, ?_⟩
  have e1 : (AV.own 500000 0 6 l'.length).scrub (fun h => !liveB (hL d' l') h) = .own 500000 0 6 l'.length := by simp [AV.scrub, hl]
  have e2 : Hp.over ((hL d' l').scrub fun h => !liveB (hL d' l') h) (H.scrub (· == 500000)) (hL d l) = ((H.scrub (· == 500000)).upd 1000000 (.cells 3 (dF .u64 d'))).upd 500000 (.cells (l'.length * 6) (ndF l')) := by
    unfold hL DH
    rw [Hp.scrub_upd, Hp.scrub_upd, Blk.scrub_cells, Blk.scrub_cells, scF_dF, hcs]
    funext h
    unfold Hp.over Hp.upd
    by_cases h1 : h = 500000
    · simp only [if_pos h1]
    · simp only [if_neg h1]
      by_cases h2 : h = 1000000
      · simp only [if_pos h2]
      · simp only [if_neg h2]
        simp [Hp.scrub, Hp.emp]
  rw [e1, e2]; exact hK d' l' hq
/-- Text lengths and numbers of nodes by depth. -/
def bdT : Nat → Nat
  | 0 => 3
  | k + 1 => 4 * (bdT k + 1) + 3
def mxN : Nat → Nat
  | 0 => 1
  | k + 1 => 4 * mxN k + 1
def postW (deep : Nat) (l : List Nd) : AV → Hp → Prop := fun r H' => ∃ d' l', DrI fmS ⟨#[65, 66]⟩ (bdT deep) (mxN deep) l l' ∧ r = .own 500000 0 6 l'.length ∧ H' = hL d' l'
theorem bdT_ge : ∀ k, 3 ≤ bdT k ∧ 1 ≤ mxN k
  | 0 => ⟨Nat.le_refl _, Nat.le_refl _⟩
  | k + 1 => by unfold bdT mxN; omega
theorem ndF_lt (l : List Nd) (y : Nd) {j : Nat} (h : j < l.length * 6) : ndF (l ++ [y]) j = ndF l j := by
  unfold ndF
  have : j / 6 < l.length := by omega
  simp [List.getD_eq_getElem?_getD, List.getElem?_append, this]
theorem ndF_ge (l : List Nd) (y : Nd) {i : Nat} (h : i < 6) : ndF (l ++ [y]) (l.length * 6 + i) = vecF (ndC y) i := by
  rw [ndF_at _ _ _ h]
  simp [List.getD_eq_getElem?_getD]
theorem end_W {P : Program} {N : Cx} {A : Fr} {H : Hp} {fn : Func} {t : Tmp} {d : Dc} {l : List Nd} {y : Nd} {F : Nat → AV} {Q : List Nd → Prop} (hr : fn.results.toList = [.tmp t]) (hA : A.get t = some (.own 500000 0 6 (l.length + 1))) (hd : H 1000000 = some (.cells 3 (dF .u64 d))) (hH : H 500000 = some (.cells ((l.length + 1) * 6) F))
    (h1 : ∀ j, j < l.length * 6 → F j = ndF l j) (h2 : ∀ i, i < 6 → Fits H (fun h => h = 31) (F (l.length * 6 + i)) (vecF (ndC y) i)) (hq : Q (l ++ [y])) :
    endQ P N fn (fun r H' => ∃ d' l', Q l' ∧ r = .own 500000 0 6 l'.length ∧ H' = hL d' l') .ret A H := by
  have hl : (l ++ [y]).length = l.length + 1 := by rw [List.length_append]; rfl
  refine end_postS (a := .own 500000 0 6 (l ++ [y]).length) (H' := hL d (l ++ [y])) hr (Sub.toFF (fun h => h = 31) (Fr.fit_cons (by rw [hl]; exact hA) (.refl _) (Fr.fit_nil _)) (leF_upd hH ⟨by rw [hl], fun j hj => ?_⟩ (leF_upd hd (.refl _ _ _) leF_emp (by decide)) (by decide))) ⟨d, l ++ [y], hq, rfl, rfl⟩
  by_cases h : j < l.length * 6
  · rw [ndF_lt l y h, h1 j h]; exact .refl _
  · obtain ⟨i, rfl⟩ : ∃ i, j = l.length * 6 + i := ⟨j - l.length * 6, by omega⟩
    rw [ndF_ge l y (by omega)]
    exact h2 i (by omega)
/-- The heap of the loop: the row of nodes, the node in the making, its children. -/
def lH (d : Dc) (l : List Nd) (cs : List Int) (x : Nd) : Hp := ((hL d l).upd 7 (.cells 6 (vecF [.v (.int .i64 (x.kind)), .v (.int .i64 (x.move)), .v (.int .i64 (x.count)), .v (.int .i64 (x.inv)), .v (.int .i64 (x.split)), .own 31 0 1 cs.length]))).upd 31 (.cells cs.length (cM iv 0 cs))
theorem enterW {N : Cx} {A : Fr} {H : Hp} {d : Dc} {l : List Nd} {x : Nd} {n dp : Int} {F G : Nat → AV} (h8 : A.get 8 = some (.v (.int .i64 (n)))) (h1 : A.get 1 = some (.own 500000 0 6 l.length)) (h7 : A.get 7 = some (.ref 7 0)) (h0 : A.get 0 = some (.ref 1000000 0)) (h2 : A.get 2 = some (.v (.int .i64 (dp))))
    (hd : H 1000000 = some (.cells 3 (dF .u64 d))) (hE : H 500000 = some (.cells (l.length * 6) F)) (hF : ∀ j, j < l.length * 6 → F j = ndF l j) (hG : H 7 = some (.cells 6 G)) (hg : ∀ i, i < 6 → G i = vecF [.v (.int .i64 (x.kind)), .v (.int .i64 (x.move)), .v (.int .i64 (x.count)), .v (.int .i64 (x.inv)), .v (.int .i64 (x.split)), .v (.slice none 0 0)] i) (hpn : N.pn = pM) :
    Sub N A H [(8, .v (.int .i64 (n))), (1, .own 500000 0 6 l.length), (7, .ref 7 0), (0, .ref 1000000 0), (2, .v (.int .i64 (dp)))] (lH d l [] x) := by
  refine Sub.layMp (fun h => if h = 31 then none else some h) (fun h hh => ?_) (lay_cons ⟨_, h8, .plain trivial⟩ (lay_cons ⟨_, h1, .own rfl⟩ (lay_cons ⟨_, h7, .ref rfl⟩ (lay_cons ⟨_, h0, .ref rfl⟩ (lay_cons ⟨_, h2, .plain trivial⟩ lay_nil))))) (layF_nil rfl (layF_upd (g := 7) (f := G) rfl hG (fun i hi => ?_) (layF_upd (g := 500000) (f := F) rfl hE (fun i hi => ?_) (layF_upd (g := 1000000) rfl hd (fun i hi => ?_) layF_emp)))) (fun x y k hx hy e1 e2 => ?_)
  · rw [hpn] at hh
    by_cases e : h = 31
    · subst e; cases hh
    · exact if_neg e
  · rw [hg i hi]
    match i, hi with
    | 0, _ => exact .plain trivial
    | 1, _ => exact .plain trivial
    | 2, _ => exact .plain trivial
    | 3, _ => exact .plain trivial
    | 4, _ => exact .plain trivial
    | 5, _ => exact .nil rfl
  · rw [hF i hi]; exact .plain (ndF_plain l i).1
  · match i, hi with
    | 0, _ => exact .plain trivial
    | 1, _ => exact .plain trivial
    | 2, _ => exact .plain trivial
  · split at e1
    · cases e1
    · split at e2
      · cases e2
      · simp only [Option.some.injEq] at e1 e2; omega
theorem backW {N : Cx} {A : Fr} {H : Hp} {d : Dc} {l : List Nd} {cs : List Int} {K C V S n dp : Int} {m : Nat} {F G : Nat → AV} (h8 : A.get 8 = some (.v (.int .i64 (n)))) (h1 : A.get 1 = some (.own 500000 0 6 l.length)) (h7 : A.get 7 = some (.ref 7 0)) (h0 : A.get 0 = some (.ref 1000000 0)) (h2 : A.get 2 = some (.v (.int .i64 (dp))))
    (hd : H 1000000 = some (.cells 3 (dF .u64 d))) (hE : H 500000 = some (.cells (l.length * 6) (ndF l))) (hG : H 7 = some (.cells 6 G)) (hg : ∀ i, i < 6 → G i = vecF [.v (.int .i64 (K)), .v (.int .i64 (0)), .v (.int .i64 (C)), .v (.int .i64 (V)), .v (.int .i64 (S)), .own 31 0 1 m] i) (hC : H 31 = some (.cells m F)) (hm : m = cs.length) (hF : ∀ i, i < m → F i = cM iv 0 cs i) :
    Sub N A H [(8, .v (.int .i64 (n))), (1, .own 500000 0 6 l.length), (7, .ref 7 0), (0, .ref 1000000 0), (2, .v (.int .i64 (dp)))] (((Hp.emp.upd 1000000 (.cells 3 (dF .u64 d))).upd 500000 (.cells (l.length * 6) (ndF l))).upd 7 (.cells 6 (vecF [.v (.int .i64 (K)), .v (.int .i64 (0)), .v (.int .i64 (C)), .v (.int .i64 (V)), .v (.int .i64 (S)), .own 31 0 1 cs.length])) |>.upd 31 (.cells cs.length (cM iv 0 cs))) := by
  subst hm
  exact Sub.toFF (fun _ => False) (Fr.fit_cons h8 (.refl _) (Fr.fit_cons h1 (.refl _) (Fr.fit_cons h7 (.refl _) (Fr.fit_cons h0 (.refl _) (Fr.fit_cons h2 (.refl _) (Fr.fit_nil _)))))) (leF_upd hC (bfE rfl hF) (leF_upd hG (bfE rfl hg) (leF_upd hE (.refl _ _ _) (leF_upd hd (.refl _ _ _) leF_emp id) id) id) id)
theorem node_ok2 {K C V S M : Int} {cs : List Int} (hC : 1 ≤ C ∧ C ≤ 4) (hV : 0 ≤ V ∧ V < 2) (hk : (K = 1 ∧ (0 ≤ M ∧ M < 2) ∧ S = 0 ∧ cs.length = 0) ∨ (K = 2 ∧ M = 0 ∧ S = 0 ∧ 0 < cs.length) ∨ ((K = 3 ∨ K = 4) ∧ M = 0 ∧ 1 ≤ S ∧ S ≤ (cs.length : Int) - 1)) : ndOk ((⟨#[65, 66]⟩ : ByteArray).size : Nat) ⟨K, M, C, V, S, cs⟩ false := by
  have e : (⟨#[65, 66]⟩ : ByteArray).size = 2 := rfl
  rw [e]
  refine ⟨⟨hC.1, by show C ≤ 99; omega⟩, ⟨hV.1, by show V ≤ 1; omega⟩, .inr ⟨rfl, ?_⟩⟩
  rcases hk with ⟨a, b, c, d⟩ | ⟨a, b, c, d⟩ | ⟨a, b, c, d⟩
  · exact .inl ⟨a, ⟨b.1, by show M ≤ (2 : Int) - 1; omega⟩, c, d⟩
  · exact .inr (.inl ⟨a, b, c, d⟩)
  · exact .inr (.inr ⟨a, b, c, d⟩)
theorem fmS_ok : Go.Nt.FmOk fmS := by
  have h := all100 (p := fun v => (2 ≤ v → v < 10 → (fmS v).size = 1 ∧ ((fmS v).data.toList.getD 0 0).toNat = 48 + v) ∧ (10 ≤ v → (fmS v).size = 2 ∧ ((fmS v).data.toList.getD 0 0).toNat = 48 + v / 10 ∧ ((fmS v).data.toList.getD 1 0).toNat = 48 + v % 10)) (by kernel_rfl)
  exact ⟨fun v h1 h2 => (h v (by omega)).1 h1 h2, fun v h1 h2 => (h v h2).2 h1⟩
theorem end_node {P : Program} {N : Cx} {A : Fr} {H : Hp} {fn : Func} {t : Tmp} {d : Dc} {l0 l : List Nd} {K M C V S : Int} {cs : List Int} {G : Nat → AV} {B Mx : Nat} (hr : fn.results.toList = [.tmp t]) (hA : A.get t = some (.own 500000 0 6 (l.length + 1))) (hd : H 1000000 = some (.cells 3 (dF .u64 d))) (hH : H 500000 = some (.cells ((l.length + 1) * 6) (apF (l.length * 6) (ndF l) G)))
    (g0 : G 0 = .v (.int .i64 (K))) (g1 : G 1 = .v (.int .i64 (M))) (g2 : G 2 = .v (.int .i64 (C))) (g3 : G 3 = .v (.int .i64 (V))) (g4 : G 4 = .v (.int .i64 (S))) (g5 : Fits H (fun h => h = 31) (G 5) (.list false 1 (cs).length (cM iv 0 (cs)))) (hq : DrI fmS ⟨#[65, 66]⟩ B Mx l0 (l ++ [⟨K, M, C, V, S, cs⟩])) :
    endQ P N fn (fun r H' => ∃ d' l', DrI fmS ⟨#[65, 66]⟩ B Mx l0 l' ∧ r = .own 500000 0 6 l'.length ∧ H' = hL d' l') .ret A H := by
  refine end_W (l := l) (y := ⟨K, M, C, V, S, cs⟩) hr hA hd hH (fun j hj => ?_) (fun i hi => ?_) hq
  · show (if j < l.length * 6 then _ else _) = _
    rw [if_pos hj]
  · show Fits _ _ (if l.length * 6 + i < l.length * 6 then _ else _) _
    rw [if_neg (by omega), Nat.add_sub_cancel_left]
    match i, hi with
    | 0, _ => rw [g0]; exact .refl _
    | 1, _ => rw [g1]; exact .refl _
    | 2, _ => rw [g2]; exact .refl _
    | 3, _ => rw [g3]; exact .refl _
    | 4, _ => rw [g4]; exact .refl _
    | 5, _ => exact g5
theorem loopW {P : Program} {N : Cx} {body : Code} {Q : Exit → Fr → Hp → Prop} {A : Fr} {H : Hp} {d0 : Dc} {l : List Nd} {K C V S n0 dp : Int} {B Mx : Nat}
    (hent : Sub N A H [(8, .v (.int .i64 (n0))), (1, .own 500000 0 6 l.length), (7, .ref 7 0), (0, .ref 1000000 0), (2, .v (.int .i64 (dp)))] (lH d0 l [] ⟨K, 0, C, V, S, []⟩)) (hn0 : 0 ≤ n0)
    (round : ∀ (n : Int) (l1 : List Nd) (cs : List Int) (d2 : Dc), DrS fmS ⟨#[65, 66]⟩ B Mx l cs l1 → 0 ≤ n → (cs.length : Int) + n = n0 →
      AWP P N body (thenA (fun A H => ∃ j : Int × List Nd × List Int × Dc, (DrS fmS ⟨#[65, 66]⟩ B Mx l j.2.2.1 j.2.1 ∧ 0 ≤ j.1 ∧ (j.2.2.1.length : Int) + j.1 = n0) ∧ j.1.toNat < n.toNat ∧ Sub N A H [(8, .v (.int .i64 (j.1))), (1, .own 500000 0 6 j.2.1.length), (7, .ref 7 0), (0, .ref 1000000 0), (2, .v (.int .i64 (dp)))] (lH j.2.2.2 j.2.1 j.2.2.1 ⟨K, 0, C, V, S, []⟩)) Q)
        [(8, .v (.int .i64 (n))), (1, .own 500000 0 6 l1.length), (7, .ref 7 0), (0, .ref 1000000 0), (2, .v (.int .i64 (dp)))] (lH d2 l1 cs ⟨K, 0, C, V, S, []⟩)) : AWP P N (.loop body) Q A H :=
  awp_loop (ι := Int × List Nd × List Int × Dc) (fun z => [(8, .v (.int .i64 (z.1))), (1, .own 500000 0 6 z.2.1.length), (7, .ref 7 0), (0, .ref 1000000 0), (2, .v (.int .i64 (dp)))]) (fun z => lH z.2.2.2 z.2.1 z.2.2.1 ⟨K, 0, C, V, S, []⟩) (fun z => DrS fmS ⟨#[65, 66]⟩ B Mx l z.2.2.1 z.2.1 ∧ 0 ≤ z.1 ∧ (z.2.2.1.length : Int) + z.1 = n0) (fun z => z.1.toNat) (n0, l, [], d0) ⟨DrS.nil l, hn0, by simp⟩ hent
    (fun ⟨n, l1, cs, d2⟩ hz => round n l1 cs d2 hz.1 hz.2.1 hz.2.2)
set_option maxHeartbeats 4000000 in
theorem w9Node_step (deep : Nat) (hdp : deep ≤ 2) (ih : ∀ k, k + 1 = deep → ∀ (d : Dc) (l : List Nd), l.length + mxN k ≤ 1000 → AC Tryd.prog 51 [.ref 1000000 0, .own 500000 0 6 l.length, .v (.int .i64 ((k : Nat)))] (hL d l) pM (postW k l)) (d : Dc) (l : List Nd) (hl : l.length + mxN deep ≤ 1000) : AC Tryd.prog 51 [.ref 1000000 0, .own 500000 0 6 l.length, .v (.int .i64 ((deep : Nat)))] (hL d l) pM (postW deep l) := by
  have hge := bdT_ge deep
  have hih : ∀ k, k + 1 = deep → ∀ (d : Dc) (l : List Nd), l.length + mxN k ≤ 1000 → AC Tryd.prog 51 [.ref 1000000 0, .own 500000 0 6 l.length, .v (.int .i64 ((deep : Int) - 1))] (hL d l) pM (fun r H' => ∃ d' l', DrI fmS ⟨#[65, 66]⟩ (bdT k) (mxN k) l l' ∧ r = .own 500000 0 6 l'.length ∧ H' = hL d' l') := fun k hk d l h => by
    have := ih k hk d l h
    rwa [show ((k : Nat) : Int) = (deep : Int) - 1 by omega] at this
  clear ih
  have hih := Hold.mk hih
  have hsc : ∀ p, scF p (ndF l) = ndF l := fun p => by funext i; exact (ndF_plain l i).2 p
  refine ac_of_awp (N := ⟨_, pM, fun h hh => pM_low (Nat.lt_of_lt_of_le hh (by decide))⟩) Tryd.func51 rfl (by kernel_rfl) Tryd.ntmps51 (by simp) ?_
  simp only [argsFr, List.zipIdx_cons, List.zipIdx_nil, go_sem]
  unfold hL DH
  repeat' (first | (refine Ob.mk (all6 rfl rfl rfl rfl rfl rfl) ?_) | ((first | refine atF (f := 24) ?_ | refine atQ (f := 24) ?_); (refine callD (by rfl) (dBelow_ok _ _ (by omega)) (by rintro _ ⟨v, _, rfl⟩ _; rfl) (fun r d1 hq => ?_); obtain ⟨v1, hv1, rfl⟩ := hq) <;> simp (maxSteps := 1000000) (dsimp := false) (implicitDefEqProofs := false) (disch := omega) only [wrap64, go_sem, hsc, List.getElem?_cons_zero, List.getElem?_cons_succ]) | refine awp_seqK fun K hK => ?_ | (refine awp_regionK 141012500545991 rfl ?_; simp only [List.map_cons, List.map_nil]; simp (maxSteps := 1000000) (dsimp := false) (implicitDefEqProofs := false) (disch := omega) only [wrap64, go_sem, hsc, List.getElem?_cons_zero, List.getElem?_cons_succ]) | (refine awp_regionQK 141012500545991 (by kernel_rfl) (by kernel_rfl) (by kernel_rfl) ?_; simp only [List.map_cons, List.map_nil]; simp (maxSteps := 1000000) (dsimp := false) (implicitDefEqProofs := false) (disch := omega) only [wrap64, go_sem, hsc, List.getElem?_cons_zero, List.getElem?_cons_succ]) | refine awp_block ?_ | (refine awp_skip ?_; simp only [go_sem, hsc, List.getElem?_cons_zero, List.getElem?_cons_succ]) | (refine awp_exit ?_; simp only [go_sem, hsc, List.getElem?_cons_zero, List.getElem?_cons_succ]) | (refine awp_ret ?_; try simp only [go_sem, hsc, List.getElem?_cons_zero, List.getElem?_cons_succ]) | (refine awp_condP rfl ?_; try simp only [go_sem, hsc, List.getElem?_cons_zero, List.getElem?_cons_succ]) | (refine BrP.mk (fun h => ?_) (fun h => ?_) <;> try simp (dsimp := false) (disch := omega) only [wrap64]) | (refine Br.mk (fun h => ?_) (fun h => ?_) <;> try simp (dsimp := false) (disch := omega) only [wrap64]) | refine Ob.mk (by first | omega | (intro _ _; rfl) | trivial | (intros; trivial) | assumption | (intro i hi; have h0 : i = 0 := (by omega); subst h0; first | rfl | trivial) | (intro i hi; have h0 : i = 0 ∨ i = 1 := (by omega); rcases h0 with rfl | rfl <;> rfl) | (intro i hi; have h0 : i = 0 ∨ i = 1 ∨ i = 2 := (by omega); rcases h0 with rfl | rfl | rfl <;> rfl)) ?_ | apply_assumption -exfalso -symm)
  all_goals (first | (show endQ _ _ _ _ _ _ _; (repeat (rename (∀ (A : Fr) (H : Hp), AWP _ _ _ _ A H → _) => hK; clear hK)); (repeat (rename (Fr → Hp → Prop) => K; clear K))) | (show Exists _; (repeat (rename (∀ (A : Fr) (H : Hp), AWP _ _ _ _ A H → _) => hK; clear hK)); (repeat (rename (Fr → Hp → Prop) => K; clear K))) | skip)
  all_goals first
    | omega
    | exact end_node rfl rfl rfl rfl rfl rfl rfl rfl rfl .nil ((DrI.node fmS_ok (DrS.nil (B := 0) (M := 0) l) rfl (node_ok2 (by omega) (by omega) (.inl ⟨rfl, by omega, rfl, rfl⟩)) (by dsimp only; omega)).mono (by simp; omega) (by simp; omega))
    | skip
  all_goals
    obtain ⟨k, hk⟩ : ∃ k, k + 1 = deep := ⟨deep - 1, by omega⟩
    have hB : bdT deep = 4 * (bdT k + 1) + 3 := by rw [← hk]; rfl
    have hM : mxN deep = 4 * mxN k + 1 := by rw [← hk]; rfl
    have hih := Hold.mk (hih.h k hk)
    refine loopW (B := bdT k) (Mx := mxN k) (enterW rfl rfl rfl rfl rfl rfl rfl (fun _ _ => rfl) rfl (all6 rfl rfl rfl rfl rfl rfl) rfl) (by omega) ?_
    intro n l1 cs d2 hS hn hcn
    unfold lH hL DH
    dsimp only
    have hcl : cs.length ≤ 4 := by omega
    have hle := hS.le
    have hm1 : cs.length * (bdT k + 1) ≤ 4 * (bdT k + 1) := Nat.mul_le_mul_right _ hcl
    have hm2 : cs.length * mxN k ≤ 4 * mxN k := Nat.mul_le_mul_right _ hcl
    have hm3 : 0 < n → cs.length * mxN k ≤ 3 * mxN k := fun h => Nat.mul_le_mul_right _ (by omega)
    have hroom : 0 < n → l1.length + mxN k ≤ 1000 := fun h => by have := hm3 h; omega
    repeat' (first | (refine Ob.mk (all6 rfl rfl rfl rfl rfl rfl) ?_) | ((first | refine atF (f := 51) ?_ | refine atQ (f := 51) ?_); (refine callL (d := d2) (l := l1) rfl rfl (hih.h d2 l1 (by omega)) rfl (fun d3 l2 hq => ?_); have hq1 := hq.le; have hq2 := hq.lt) <;> simp (maxSteps := 1000000) (dsimp := false) (implicitDefEqProofs := false) (disch := omega) only [wrap64, go_sem, scF_ndW, List.getElem?_cons_zero, List.getElem?_cons_succ]) | refine awp_seqK fun K hK => ?_ | (refine awp_regionK 141012500545991 rfl ?_; simp only [List.map_cons, List.map_nil]; simp (maxSteps := 1000000) (dsimp := false) (implicitDefEqProofs := false) (disch := omega) only [wrap64, go_sem, scF_ndW, List.getElem?_cons_zero, List.getElem?_cons_succ]) | (refine awp_regionQK 141012500545991 (by kernel_rfl) (by kernel_rfl) (by kernel_rfl) ?_; simp only [List.map_cons, List.map_nil]; simp (maxSteps := 1000000) (dsimp := false) (implicitDefEqProofs := false) (disch := omega) only [wrap64, go_sem, scF_ndW, List.getElem?_cons_zero, List.getElem?_cons_succ]) | refine awp_block ?_ | (refine awp_skip ?_; simp only [go_sem, scF_ndW, List.getElem?_cons_zero, List.getElem?_cons_succ]) | (refine awp_exit ?_; simp only [go_sem, scF_ndW, List.getElem?_cons_zero, List.getElem?_cons_succ]) | (refine awp_ret ?_; try simp only [go_sem, scF_ndW, List.getElem?_cons_zero, List.getElem?_cons_succ]) | (refine awp_condP rfl ?_; try simp only [go_sem, scF_ndW, List.getElem?_cons_zero, List.getElem?_cons_succ]) | (refine BrP.mk (fun h => ?_) (fun h => ?_) <;> try simp (dsimp := false) (disch := omega) only [wrap64]) | (refine Br.mk (fun h => ?_) (fun h => ?_) <;> try simp (dsimp := false) (disch := omega) only [wrap64]) | refine Ob.mk (by first | omega | (intro _ _; rfl) | trivial | (intros; trivial) | assumption | (intro i hi; have h0 : i = 0 := (by omega); subst h0; first | rfl | trivial) | (intro i hi; have h0 : i = 0 ∨ i = 1 := (by omega); rcases h0 with rfl | rfl <;> rfl) | (intro i hi; have h0 : i = 0 ∨ i = 1 ∨ i = 2 := (by omega); rcases h0 with rfl | rfl | rfl <;> rfl)) ?_ | apply_assumption -exfalso -symm)
    all_goals (first | (show endQ _ _ _ _ _ _ _; (repeat (rename (∀ (A : Fr) (H : Hp), AWP _ _ _ _ A H → _) => hK; clear hK)); (repeat (rename (Fr → Hp → Prop) => K; clear K))) | (show Exists _; (repeat (rename (∀ (A : Fr) (H : Hp), AWP _ _ _ _ A H → _) => hK; clear hK)); (repeat (rename (Fr → Hp → Prop) => K; clear K))) | skip)
    all_goals first
      | exact end_node rfl rfl rfl rfl rfl rfl rfl rfl rfl (fits_I rfl rfl rfl rfl) ((DrI.node fmS_ok hS rfl (node_ok2 (by omega) (by omega) (.inr (.inl ⟨by omega, rfl, rfl, by omega⟩))) (by dsimp only; omega)).mono (by omega) (by omega))
      | exact end_node rfl rfl rfl rfl rfl rfl rfl rfl rfl (fits_I rfl rfl rfl rfl) ((DrI.node fmS_ok hS rfl (node_ok2 (by omega) (by omega) (.inr (.inr ⟨by omega, rfl, by omega, by omega⟩))) (by dsimp only; omega)).mono (by omega) (by omega))
      | (refine ⟨(n - 1, l2, cs ++ [(l2.length : Int) - 1], d3), ⟨hS.snoc hq, by dsimp only; omega, by dsimp only; rw [List.length_append, List.length_singleton]; omega⟩, by dsimp only; omega, ?_⟩
         dsimp only
         refine backW rfl rfl rfl rfl rfl rfl rfl rfl ?_ rfl (by simp) (fun _ _ => rfl)
         exact all6 rfl rfl rfl rfl rfl rfl)
theorem w9Node_ok : ∀ (deep : Nat), deep ≤ 2 → ∀ (d : Dc) (l : List Nd), l.length + mxN deep ≤ 1000 → AC Tryd.prog 51 [.ref 1000000 0, .own 500000 0 6 l.length, .v (.int .i64 ((deep : Nat)))] (hL d l) pM (postW deep l)
  | 0, h => w9Node_step 0 h fun k hk => by omega
  | deep + 1, h => w9Node_step (deep + 1) h fun k hk => by
    obtain rfl : k = deep := by omega
    exact w9Node_ok k (by omega)
end Go.Proofs.YticbabpajligbaaDoor
end

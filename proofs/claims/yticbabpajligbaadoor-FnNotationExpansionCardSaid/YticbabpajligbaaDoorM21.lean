import Derived.Test.YticbabpajligbaaDoorM13
/- Beginnings of notations: what the parser answers; plain. -/
section
namespace Go.Nt
set_option linter.unusedVariables false
set_option linter.unusedSimpArgs false
section
variable {names s c : ByteArray} {k : Nat}
end
end Go.Nt
end
/- Reading back the texts of syntax trees; plain. -/
section
namespace Go.Nt
set_option linter.unusedVariables false
set_option linter.unusedSimpArgs false
/-- A text stands at a place. -/
def At (s : ByteArray) (p : Nat) (t : ByteArray) : Prop := p + t.size ≤ s.size ∧ ∀ j, j < t.size → s.data.toList.getD (p + j) 0 = t.data.toList.getD j 0
theorem app_getD (a b : ByteArray) (j : Nat) : (a ++ b).data.toList.getD j 0 = if j < a.size then a.data.toList.getD j 0 else b.data.toList.getD (j - a.size) 0 := by
  have e : a.data.toList.length = a.size := by rw [Array.length_toList]; rfl
  rw [ByteArray.data_append, Array.toList_append, List.getD_eq_getElem?_getD, List.getElem?_append, e]
  split <;> rw [List.getD_eq_getElem?_getD]
theorem At.app {s : ByteArray} {p : Nat} {a b : ByteArray} (h : At s p (a ++ b)) : At s p a ∧ At s (p + a.size) b := by
  obtain ⟨h1, h2⟩ := h
  rw [ByteArray.size_append] at h1 h2
  refine ⟨⟨by omega, fun j hj => ?_⟩, ⟨by omega, fun j hj => ?_⟩⟩
  · have := h2 j (by omega)
    rwa [app_getD, if_pos hj] at this
  · have := h2 (a.size + j) (by omega)
    rwa [app_getD, if_neg (by omega), show a.size + j - a.size = j by omega, ← Nat.add_assoc] at this
theorem At.bt {s : ByteArray} {p : Nat} {t : ByteArray} (h : At s p t) {j : Nat} (hj : j < t.size) : bt s (p + j) = (t.data.toList.getD j 0).toNat := by
  have := h.1
  unfold Go.Nt.bt
  rw [if_pos (by omega), h.2 j hj]
theorem At.one {s : ByteArray} {p : Nat} {c : UInt8} (h : At s p ⟨#[c]⟩) : Go.Nt.bt s p = c.toNat := by
  have := h.bt (j := 0) (by show 0 < 1; omega)
  simpa using this
def Sep (c : Nat) : Prop := c = 0 ∨ c = 32 ∨ c = 41 ∨ c = 44 ∨ c = 58 ∨ c = 93
/-- How numbers read. -/
structure FmOk (fm : Nat → ByteArray) : Prop where
  one : ∀ v, 2 ≤ v → v < 10 → (fm v).size = 1 ∧ ((fm v).data.toList.getD 0 0).toNat = 48 + v
  two : ∀ v, 10 ≤ v → v < 100 → (fm v).size = 2 ∧ ((fm v).data.toList.getD 0 0).toNat = 48 + v / 10 ∧ ((fm v).data.toList.getD 1 0).toNat = 48 + v % 10
theorem inv_read {s : ByteArray} {p q : Nat} {l : List Nd} {y x : Nd} (hy : y.inv = 0) (hi : x.inv = 0 ∨ x.inv = 1) (h : (x.inv = 1 ∧ At s p ⟨#[39]⟩ ∧ q = p + 1) ∨ (x.inv = 0 ∧ q = p ∧ Sep (bt s q))) (n : Int) : pInv s p l y n = .ok q (l ++ [{ y with count := n, inv := x.inv }]) () := by
  unfold pInv
  rcases h with ⟨h1, h2, rfl⟩ | ⟨h1, rfl, h2⟩
  · rw [if_pos (show bt s p = 39 from h2.one), h1]
  · rw [if_neg (by rcases h2 with h | h | h | h | h | h <;> rw [h] <;> decide), h1]
    cases y; simp_all
/-- A node's suffix. -/
theorem suf_read {fm : Nat → ByteArray} (hf : FmOk fm) {s : ByteArray} {p p1 q : Nat} {l : List Nd} {y x : Nd} (hy : y.inv = 0) (hc : 1 ≤ x.count ∧ x.count ≤ 99) (hi : x.inv = 0 ∨ x.inv = 1)
    (hn : (1 < x.count ∧ At s p (fm x.count.toNat) ∧ p1 = p + (fm x.count.toNat).size) ∨ (x.count = 1 ∧ p1 = p)) (h : (x.inv = 1 ∧ At s p1 ⟨#[39]⟩ ∧ q = p1 + 1) ∨ (x.inv = 0 ∧ q = p1 ∧ Sep (bt s q))) : pSuf s p l y = .ok q (l ++ [{ y with count := x.count, inv := x.inv }]) () := by
  have hnd : ¬ dig (bt s p1) := by
    rcases h with ⟨_, h2, _⟩ | ⟨_, rfl, h2⟩
    · rw [h2.one]; decide
    · rcases h2 with h | h | h | h | h | h <;> rw [h] <;> decide
  have hr := fun n => inv_read (l := l) hy hi h n
  unfold pSuf
  rcases hn with ⟨h1, h2, h3⟩ | ⟨h1, rfl⟩
  · by_cases hs : x.count < 10
    · obtain ⟨e1, e2⟩ := hf.one x.count.toNat (by omega) (by omega)
      have b0 := h2.bt (j := 0) (by omega)
      rw [Nat.add_zero, e2] at b0
      rw [e1] at h3
      subst h3
      rw [if_neg (by rw [b0]; unfold dig; omega), if_neg (by omega), if_neg hnd, if_neg (by omega), hr]
      congr 3
      rw [b0]
      congr 1
      omega
    · obtain ⟨e1, e2, e3⟩ := hf.two x.count.toNat (by omega) (by omega)
      have b0 := h2.bt (j := 0) (by omega)
      have b1 := h2.bt (j := 1) (by omega)
      rw [Nat.add_zero, e2] at b0
      rw [e3] at b1
      rw [e1] at h3
      subst h3
      rw [if_neg (by rw [b0]; unfold dig; omega), if_neg (by omega), if_pos (by rw [b1]; unfold dig; omega), hr]
      congr 3
      rw [b0, b1]
      congr 1
      omega
  · rw [if_pos hnd, hr, h1]
theorem ndT_at {fm : Nat → ByteArray} {names s : ByteArray} {x : Nd} {ts : List ByteArray} {p : Nat} (hc : 1 ≤ x.count) (hi : x.inv = 0 ∨ x.inv = 1) (h : At s p (ndT fm names x ts)) (hs : Sep (bt s (p + (ndT fm names x ts).size))) :
    At s p (inT names x ts) ∧ ∃ p1, ((1 < x.count ∧ At s (p + (inT names x ts).size) (fm x.count.toNat) ∧ p1 = p + (inT names x ts).size + (fm x.count.toNat).size) ∨ (x.count = 1 ∧ p1 = p + (inT names x ts).size)) ∧ ((x.inv = 1 ∧ At s p1 ⟨#[39]⟩ ∧ p + (ndT fm names x ts).size = p1 + 1) ∨ (x.inv = 0 ∧ p + (ndT fm names x ts).size = p1 ∧ Sep (bt s (p + (ndT fm names x ts).size)))) := by
  have e1 : (⟨#[39]⟩ : ByteArray).size = 1 := rfl
  obtain ⟨T, eT⟩ : ∃ T, T = ndT fm names x ts := ⟨_, rfl⟩
  rw [← eT] at h hs ⊢
  unfold ndT at eT
  by_cases hi1 : x.inv = 1
  · rw [if_pos hi1] at eT
    by_cases hc1 : 1 < x.count
    · rw [if_pos hc1] at eT
      subst eT
      obtain ⟨h1, h2⟩ := h.app
      obtain ⟨h3, h4⟩ := h1.app
      refine ⟨h3, _, .inl ⟨hc1, h4, rfl⟩, .inl ⟨hi1, ?_, ?_⟩⟩
      · rwa [ByteArray.size_append, ← Nat.add_assoc] at h2
      · rw [ByteArray.size_append, ByteArray.size_append, e1]; omega
    · rw [if_neg hc1] at eT
      subst eT
      obtain ⟨h1, h2⟩ := h.app
      exact ⟨h1, _, .inr ⟨by omega, rfl⟩, .inl ⟨hi1, h2, by rw [ByteArray.size_append, e1]; omega⟩⟩
  · rw [if_neg hi1] at eT
    by_cases hc1 : 1 < x.count
    · rw [if_pos hc1] at eT
      subst eT
      obtain ⟨h3, h4⟩ := h.app
      exact ⟨h3, _, .inl ⟨hc1, h4, rfl⟩, .inr ⟨by omega, by rw [ByteArray.size_append]; omega, hs⟩⟩
    · rw [if_neg hc1] at eT
      subst eT
      exact ⟨h, _, .inr ⟨by omega, rfl⟩, .inr ⟨by omega, rfl, hs⟩⟩
/-- Texts joined, from the left. -/
theorem jnS_cons (sep w : ByteArray) (ws : List ByteArray) : ∀ k, 1 ≤ k → jnS sep (w :: ws) (k + 1) = w ++ sep ++ jnS sep ws k
  | 0, h => by omega
  | 1, _ => by
    have e0 : ∀ t : ByteArray, (⟨#[]⟩ : ByteArray) ++ t = t := fun t => by
      apply ByteArray.ext; rw [ByteArray.data_append]; simp
    show (if 0 < 1 then jnS sep (w :: ws) 1 ++ sep else _) ++ _ = _
    rw [if_pos (by omega)]
    show (((if 0 < 0 then _ else (⟨#[]⟩ : ByteArray)) ++ w) ++ sep) ++ ws.getD 0 ByteArray.empty = w ++ sep ++ ((if 0 < 0 then _ else (⟨#[]⟩ : ByteArray)) ++ ws.getD 0 ByteArray.empty)
    rw [if_neg (by omega), if_neg (by omega), e0, e0]
  | k + 2, _ => by
    have ih := jnS_cons sep w ws (k + 1) (by omega)
    show (if 0 < k + 2 then jnS sep (w :: ws) (k + 2) ++ sep else _) ++ ws.getD (k + 1) ByteArray.empty = w ++ sep ++ ((if 0 < k + 1 then jnS sep ws (k + 1) ++ sep else _) ++ ws.getD (k + 1) ByteArray.empty)
    rw [if_pos (by omega), if_pos (by omega), ih, ByteArray.append_assoc, ByteArray.append_assoc, ByteArray.append_assoc, ByteArray.append_assoc, ByteArray.append_assoc]
theorem jn_one (w : ByteArray) : jn [w] = w := by
  show (if 0 < 0 then _ else (⟨#[]⟩ : ByteArray)) ++ w = w
  rw [if_neg (by omega)]
  apply ByteArray.ext; rw [ByteArray.data_append]; simp
theorem jn_cons (w v : ByteArray) (ws : List ByteArray) : jn (w :: v :: ws) = w ++ ⟨#[32]⟩ ++ jn (v :: ws) := jnS_cons _ _ _ _ (by simp)
/-- Children whose subtrees follow one another. -/
def Seg (xs : List Nd) : Nat → List Int → Nat → Prop
  | a, [], b => a = b
  | a, c :: cs, b => ∃ m, sz xs c.toNat = some m ∧ 0 ≤ c ∧ c.toNat + 1 = a + m ∧ Seg xs (c.toNat + 1) cs b
theorem Seg.app {xs : List Nd} : ∀ {a c : Nat} {x y : List Int}, Seg xs a (x ++ y) c ↔ ∃ b, Seg xs a x b ∧ Seg xs b y c
  | a, c, [], y => ⟨fun h => ⟨a, rfl, h⟩, fun ⟨b, e, h⟩ => by cases e; exact h⟩
  | a, c, k :: x, y => by
    constructor
    · rintro ⟨m, h1, h2, h3, h4⟩
      obtain ⟨b, h5, h6⟩ := Seg.app.1 h4
      exact ⟨b, ⟨m, h1, h2, h3, h5⟩, h6⟩
    · rintro ⟨b, ⟨m, h1, h2, h3, h5⟩, h6⟩
      exact ⟨m, h1, h2, h3, Seg.app.2 ⟨b, h5, h6⟩⟩
theorem szK_seg {xs : List Nd} : ∀ (cs : List Int) (p m0 m : Nat), szK (sz xs) cs p m0 = some m → m0 ≤ m ∧ m - m0 ≤ p ∧ Seg xs (p - (m - m0)) cs.reverse p
  | [], p, m0, m, h => by
    simp only [szK, Option.some.injEq] at h
    subst h
    exact ⟨Nat.le_refl _, by omega, by show p - (m0 - m0) = p; omega⟩
  | c :: cs, p, m0, m, h => by
    unfold szK at h
    split at h
    · rename_i hc
      cases e : sz xs (p - 1) with
      | none => rw [e] at h; cases h
      | some n =>
        rw [e] at h
        have hr := sz_run xs _ n e
        obtain ⟨h1, h2, h3⟩ := szK_seg cs _ _ _ h
        refine ⟨by omega, by omega, ?_⟩
        rw [List.reverse_cons]
        refine Seg.app.2 ⟨p - n, ?_, n, ?_, by omega, by omega, by show c.toNat + 1 = p; omega⟩
        · rwa [show p - n - (m - (m0 + n)) = p - (m - m0) by omega] at h3
        · rwa [show c.toNat = p - 1 by omega]
    · cases h
theorem sz_seg {xs : List Nd} {i m : Nat} (h : sz xs i = some m) : 1 ≤ m ∧ m ≤ i + 1 ∧ Seg xs (i + 1 - m) (kd xs i) i := by
  have hr := sz_run xs _ m h
  rw [sz_eq] at h
  obtain ⟨h1, h2, h3⟩ := szK_seg _ _ _ _ h
  rw [List.reverse_reverse, show i - (m - 1) = i + 1 - m by omega] at h3
  exact ⟨h1, hr.2.1, h3⟩
end Go.Nt
end
/- Reading back the texts of syntax trees: what the parser answers; plain. -/
section
namespace Go.Nt
set_option linter.unusedVariables false
set_option linter.unusedSimpArgs false
/-- Names that differ. -/
structure NmD (names : ByteArray) : Prop where
  ok : nmOk names
  ne : ∀ i, i < names.size → ∀ k, k < i → (names.data.toList.getD k 0).toNat ≠ (names.data.toList.getD i 0).toNat
theorem liF_find {names : ByteArray} {c i : Nat} (h1 : (names.data.toList.getD i 0).toNat = c) (h2 : ∀ j, j < i → (names.data.toList.getD j 0).toNat ≠ c) : ∀ k, i < k → liF names c k = some i
  | 0, h => by omega
  | k + 1, h => by
    unfold liF
    by_cases e : i < k
    · rw [liF_find h1 h2 k e]
    · have e : i = k := by omega
      subst e
      cases e2 : liF names c i with
      | some j =>
        obtain ⟨a, b, _⟩ := liF_some e2
        exact absurd b (h2 j a)
      | none => simp only [h1, if_true]
theorem li_hit {names : ByteArray} (h : NmD names) {m : Nat} (hm : m < names.size) : li names (names.data.toList.getD m 0).toNat = some m :=
  liF_find rfl (fun j hj => h.ne m hm j hj) names.size hm
theorem li_no {names : ByteArray} (h : NmD names) {c : Nat} (hc : c < 65 ∨ 90 < c) : li names c = none := by
  cases e : li names c with
  | none => rfl
  | some m => have := (li_byte h.ok e).2; omega
section
variable {fm : Nat → ByteArray} {names s : ByteArray} {xs : List Nd}
def ItemOK (fm : Nat → ByteArray) (names s : ByteArray) (xs : List Nd) (i : Nat) : Prop := ∀ m f p, sz xs i = some m → At s p (tx fm names xs i) → Sep (bt s (p + (tx fm names xs i).size)) → 2 * (s.size - p) + 1 ≤ f →
  pItem names s f p (xs.take (i + 1 - m)) = .ok (p + (tx fm names xs i).size) (xs.take (i + 1)) ()
abbrev tT (fm : Nat → ByteArray) (names : ByteArray) (xs : List Nd) (c : Int) : ByteArray := tx fm names xs c.toNat
theorem seq_read : ∀ (cs : List Int) (c0 : Int) (a b f p : Nat) (ks : List Int), Seg xs a (c0 :: cs) b → (∀ c ∈ c0 :: cs, ItemOK fm names s xs c.toNat ∧ c.toNat < xs.length) → At s p (jn ((c0 :: cs).map (tT fm names xs))) →
    Sep (bt s (p + (jn ((c0 :: cs).map (tT fm names xs))).size)) → bt s (p + (jn ((c0 :: cs).map (tT fm names xs))).size) ≠ 32 → 2 * (s.size - p) + 2 ≤ f →
    pSeq names s f p (xs.take a) ks = .ok (p + (jn ((c0 :: cs).map (tT fm names xs))).size) (xs.take b) (ks ++ c0 :: cs)
  | cs, c0, a, b, 0, p, ks, hsg, hit, hat, hsep, hne, hf => by omega
  | [], c0, a, b, f + 1, p, ks, hsg, hit, hat, hsep, hne, hf => by
    obtain ⟨m, h1, h2, h3, h4⟩ := hsg
    obtain rfl : c0.toNat + 1 = b := h4
    obtain ⟨k1, k2⟩ := hit c0 (List.mem_cons_self ..)
    rw [List.map_cons, List.map_nil, jn_one] at hat hsep hne ⊢
    have h5 := k1 m f p h1 hat hsep (by omega)
    rw [show c0.toNat + 1 - m = a by omega] at h5
    unfold pSeq
    rw [h5]
    dsimp only
    rw [if_neg hne, List.length_take, show min (c0.toNat + 1) xs.length = c0.toNat + 1 by omega, show ((c0.toNat + 1 : Nat) : Int) - 1 = c0 by omega]
  | c1 :: cs, c0, a, b, f + 1, p, ks, hsg, hit, hat, hsep, hne, hf => by
    obtain ⟨m, h1, h2, h3, h4⟩ := hsg
    obtain ⟨k1, k2⟩ := hit c0 (List.mem_cons_self ..)
    have ej : jn ((c0 :: c1 :: cs).map (tT fm names xs)) = tT fm names xs c0 ++ ⟨#[32]⟩ ++ jn ((c1 :: cs).map (tT fm names xs)) := jn_cons _ _ _
    have e1 : (⟨#[32]⟩ : ByteArray).size = 1 := rfl
    rw [ej] at hat hsep hne ⊢
    obtain ⟨a1, a2⟩ := hat.app
    obtain ⟨a3, a4⟩ := a1.app
    have hb : bt s (p + (tT fm names xs c0).size) = 32 := a4.one
    have h5 := k1 m f p h1 a3 (by rw [hb]; exact .inr (.inl rfl)) (by omega)
    rw [show c0.toNat + 1 - m = a by omega] at h5
    rw [ByteArray.size_append, ByteArray.size_append, e1] at hsep hne ⊢
    rw [ByteArray.size_append, e1] at a2
    have hz := a2.1
    have ih := seq_read cs c1 (c0.toNat + 1) b f (p + (tT fm names xs c0).size + 1) (ks ++ [c0]) h4 (fun c hc => hit c (List.mem_cons_of_mem _ hc)) (by rwa [Nat.add_assoc]) (by rwa [show p + (tT fm names xs c0).size + 1 + (jn ((c1 :: cs).map (tT fm names xs))).size = p + ((tT fm names xs c0).size + 1 + (jn ((c1 :: cs).map (tT fm names xs))).size) by omega]) (by rwa [show p + (tT fm names xs c0).size + 1 + (jn ((c1 :: cs).map (tT fm names xs))).size = p + ((tT fm names xs c0).size + 1 + (jn ((c1 :: cs).map (tT fm names xs))).size) by omega]) (by omega)
    unfold pSeq
    rw [h5]
    dsimp only
    rw [if_pos hb, List.length_take, show min (c0.toNat + 1) xs.length = c0.toNat + 1 by omega, show ((c0.toNat + 1 : Nat) : Int) - 1 = c0 by omega, ih]
    rw [List.append_assoc, List.singleton_append, show p + (tT fm names xs c0).size + 1 + (jn ((c1 :: cs).map (tT fm names xs))).size = p + ((tT fm names xs c0).size + 1 + (jn ((c1 :: cs).map (tT fm names xs))).size) by omega]
theorem take_snoc {i : Nat} (h : i < xs.length) : xs.take (i + 1) = xs.take i ++ [xs.getD i nd0] := by
  rw [List.getD_eq_getElem?_getD, List.getElem?_eq_getElem h, ← List.take_append_getElem h]; rfl
theorem item_read (hf : FmOk fm) (hn : NmD names) (hv : isNt names.size xs) : ∀ i, i + 1 < xs.length → ItemOK fm names s xs i := by
  intro i
  induction i using Nat.strongRecOn with
  | _ i ih =>
    intro hi m f p hm hat hsep hfu
    obtain ⟨g, rfl⟩ : ∃ g, f = g + 1 := ⟨f - 1, by omega⟩
    have hx := hv.2.2.1 i (by omega)
    obtain ⟨hm1, hm2, hsg⟩ := sz_seg hm
    have hts := take_snoc (xs := xs) (show i < xs.length by omega)
    have hkid : ∀ c ∈ kd xs i, ItemOK fm names s xs c.toNat ∧ c.toNat < xs.length := fun c hc => by
      obtain ⟨q, mq, e, hq, _⟩ := (sz_mem hm).1 c hc
      exact ⟨ih c.toNat (by omega) (by omega), by omega⟩
    rw [tx_eq hv.2.2.2 (show i < xs.length by omega)] at hat hsep ⊢
    rw [hts]
    have hkx : (xs.getD i nd0).kids = kd xs i := rfl
    obtain ⟨x, ex⟩ : ∃ x, x = xs.getD i nd0 := ⟨_, rfl⟩
    rw [← ex] at hx hat hsep hkx ⊢
    obtain ⟨hc, hi2, hk⟩ := hx
    have hinv : x.inv = 0 ∨ x.inv = 1 := by omega
    obtain ⟨hin, p1, hp1, hp2⟩ := ndT_at hc.1 hinv hat hsep
    have hsuf := fun (l : List Nd) (y : Nd) (hy : y.inv = 0) => suf_read (l := l) hf hy hc hinv hp1 hp2
    have hkT : kdT fm names xs i = (kd xs i).map (tT fm names xs) := rfl
    rw [hkT] at hin hsuf ⊢
    rw [decide_eq_false (by omega : ¬ i + 1 = xs.length)] at hk
    have e1 : ∀ b : UInt8, (⟨#[b]⟩ : ByteArray).size = 1 := fun _ => rfl
    rcases hk with ⟨h, _⟩ | ⟨_, ⟨k1, k2, k3, k4⟩ | ⟨k1, k2, k3, k4⟩ | ⟨k1, k2, k3, k4⟩⟩
    · cases h
    · -- a move
      have hks : kd xs i = [] := by rw [← hkx]; exact List.eq_nil_of_length_eq_zero (by omega)
      have hm0 : m = 1 := by
        rw [hks] at hsg
        have : i + 1 - m = i := hsg
        omega
      have eI : inT names x ((kd xs i).map (tT fm names xs)) = names.extract x.move.toNat (x.move + 1).toNat := if_pos k1
      rw [eI] at hin hsuf
      have ez : (names.extract x.move.toNat (x.move + 1).toNat).size = 1 := by rw [ByteArray.size_extract]; omega
      have hb := hin.bt (j := 0) (by omega)
      have eb : (names.extract x.move.toNat (x.move + 1).toNat).data.toList.getD 0 0 = names.data.toList.getD x.move.toNat 0 := by
        have hlt : x.move.toNat < (x.move + 1).toNat := by omega
        have h0 : 0 < (x.move + 1).toNat - x.move.toNat := by omega
        simp [List.getD_eq_getElem?_getD, List.getElem?_take, h0, hlt]
      rw [Nat.add_zero, eb] at hb
      unfold pItem
      rw [hb, li_hit hn (by omega)]
      dsimp only
      have := hsuf (xs.take i) ⟨1, (x.move.toNat : Int), 0, 0, 0, []⟩ rfl
      rw [ez] at this
      rw [hm0, show i + 1 - 1 = i by omega, this]
      have hxx : ({ kind := 1, move := (x.move.toNat : Int), count := x.count, inv := x.inv, split := 0, kids := [] } : Nd) = x := by
        cases x
        simp only at k1 k2 k3 hkx
        rw [hks] at hkx
        simp only [Nd.mk.injEq, true_and, and_true]
        exact ⟨k1.symm, by omega, k3.symm, hkx.symm⟩
      rw [hxx]
    · -- a sequence
      have eI : inT names x ((kd xs i).map (tT fm names xs)) = (⟨#[40]⟩ : ByteArray) ++ jn ((kd xs i).map (tT fm names xs)) ++ ⟨#[41]⟩ := by unfold inT; rw [if_neg (by omega), if_pos k1]
      rw [eI] at hin hsuf
      rw [ByteArray.size_append, ByteArray.size_append, e1, e1] at hsuf
      obtain ⟨a1, a2⟩ := hin.app
      obtain ⟨a3, a4⟩ := a1.app
      have b0 : bt s p = 40 := a3.one
      rw [ByteArray.size_append, e1] at a2
      have b1 : bt s (p + (1 + (jn ((kd xs i).map (tT fm names xs))).size)) = 41 := a2.one
      rw [e1] at a4
      have hz := a2.1
      rw [e1] at hz
      obtain ⟨c0, cs, hks⟩ : ∃ c0 cs, kd xs i = c0 :: cs := by
        cases h : kd xs i with
        | nil => rw [hkx, h] at k4; exact absurd k4 (Nat.lt_irrefl 0)
        | cons c0 cs => exact ⟨c0, cs, rfl⟩
      rw [hks] at hsg hkid a4 b1 hsuf hz ⊢
      have ea : p + 1 + (jn ((c0 :: cs).map (tT fm names xs))).size = p + (1 + (jn ((c0 :: cs).map (tT fm names xs))).size) := by omega
      have hsq := seq_read (fm := fm) cs c0 _ i g (p + 1) [] hsg hkid a4 (by rw [ea, b1]; exact .inr (.inr (.inl rfl))) (by rw [ea, b1]; decide) (by omega)
      unfold pItem
      rw [b0, li_no hn (by omega)]
      dsimp only
      rw [if_pos rfl, hsq]
      dsimp only
      rw [ea, if_pos b1]
      have := hsuf (xs.take i) ⟨2, 0, 0, 0, 0, c0 :: cs⟩ rfl
      rw [List.nil_append, show p + (1 + (jn ((c0 :: cs).map (tT fm names xs))).size) + 1 = p + (1 + (jn ((c0 :: cs).map (tT fm names xs))).size + 1) by omega, this]
      have hxx : ({ kind := 2, move := 0, count := x.count, inv := x.inv, split := 0, kids := c0 :: cs } : Nd) = x := by
        cases x
        simp only at k1 k2 k3 hkx
        rw [hks] at hkx
        simp only [Nd.mk.injEq, true_and, and_true]
        exact ⟨k1.symm, k2.symm, k3.symm, hkx.symm⟩
      rw [hxx]
    · -- a commutator, a conjugate
      obtain ⟨sp, esp⟩ : ∃ sp : Nat, sp = x.split.toNat := ⟨_, rfl⟩
      have hkl : x.kids.length = (kd xs i).length := by rw [hkx]
      obtain ⟨ks, eks⟩ : ∃ ks, ks = kd xs i := ⟨_, rfl⟩
      rw [← eks] at hkl hsg hkid hin hsuf hkx ⊢
      obtain ⟨cc, ecc⟩ : ∃ cc : UInt8, cc = if x.kind = 3 then 44 else 58 := ⟨_, rfl⟩
      have eI : inT names x (ks.map (tT fm names xs)) = (⟨#[91]⟩ : ByteArray) ++ jn ((ks.take sp).map (tT fm names xs)) ++ ⟨#[cc]⟩ ++ jn ((ks.drop sp).map (tT fm names xs)) ++ ⟨#[93]⟩ := by
        unfold inT
        rw [if_neg (by omega), if_neg (by omega), List.map_take, List.map_drop, ← esp, ecc]
        by_cases h3 : x.kind = 3
        · rw [if_pos h3, if_pos h3]
        · rw [if_neg h3, if_neg h3]
      rw [eI] at hin hsuf
      rw [ByteArray.size_append, ByteArray.size_append, ByteArray.size_append, ByteArray.size_append, e1, e1, e1] at hsuf
      obtain ⟨a1, a2⟩ := hin.app
      obtain ⟨a3, a4⟩ := a1.app
      obtain ⟨a5, a6⟩ := a3.app
      obtain ⟨a7, a8⟩ := a5.app
      rw [ByteArray.size_append, ByteArray.size_append, ByteArray.size_append, e1, e1] at a2
      rw [ByteArray.size_append, ByteArray.size_append, e1, e1] at a4
      rw [ByteArray.size_append, e1] at a6
      rw [e1] at a8
      have b0 : bt s p = 91 := a7.one
      have b1 : bt s (p + (1 + (jn ((ks.take sp).map (tT fm names xs))).size)) = cc.toNat := a6.one
      have b2 := a2.one
      have hz := a2.1
      rw [e1] at hz
      have hsk : ks = ks.take sp ++ ks.drop sp := (List.take_append_drop ..).symm
      obtain ⟨mid, s1, s2⟩ := Seg.app.1 (show Seg xs (i + 1 - m) (ks.take sp ++ ks.drop sp) i by rwa [← hsk])
      obtain ⟨c0, cs, h1⟩ : ∃ c0 cs, ks.take sp = c0 :: cs := by
        cases h : ks.take sp with
        | nil => have := congrArg List.length h; rw [List.length_take, List.length_nil] at this; omega
        | cons c0 cs => exact ⟨c0, cs, rfl⟩
      obtain ⟨d0, ds, h2⟩ : ∃ d0 ds, ks.drop sp = d0 :: ds := by
        cases h : ks.drop sp with
        | nil => have := congrArg List.length h; rw [List.length_drop, List.length_nil] at this; omega
        | cons d0 ds => exact ⟨d0, ds, rfl⟩
      have hl1 : (c0 :: cs).length = sp := by rw [← h1, List.length_take]; omega
      have hk1 : ∀ c ∈ c0 :: cs, ItemOK fm names s xs c.toNat ∧ c.toNat < xs.length := fun c hc => hkid c (by rw [← h1] at hc; exact List.mem_of_mem_take hc)
      have hk2 : ∀ c ∈ d0 :: ds, ItemOK fm names s xs c.toNat ∧ c.toNat < xs.length := fun c hc => hkid c (by rw [← h2] at hc; exact List.mem_of_mem_drop hc)
      have hks : c0 :: cs ++ d0 :: ds = ks := by rw [← h1, ← h2]; exact hsk.symm
      rw [h1] at s1 a8 b1
      rw [h2] at s2
      rw [h1, h2] at a2 b2 hz hsuf
      rw [h1] at a4
      rw [h2] at a4
      obtain ⟨J, eJ⟩ : ∃ J, J = (jn ((c0 :: cs).map (tT fm names xs))).size := ⟨_, rfl⟩
      obtain ⟨K, eK⟩ : ∃ K, K = (jn ((d0 :: ds).map (tT fm names xs))).size := ⟨_, rfl⟩
      have hcc : cc.toNat = 44 ∨ cc.toNat = 58 := by
        rw [ecc]; by_cases h3 : x.kind = 3
        · rw [if_pos h3]; exact .inl rfl
        · rw [if_neg h3]; exact .inr rfl
      have hq1 := seq_read (fm := fm) cs c0 _ mid g (p + 1) [] s1 hk1 a8 (by rw [Nat.add_assoc, b1]; rcases hcc with h | h <;> rw [h] <;> unfold Sep <;> omega) (by rw [Nat.add_assoc, b1]; omega) (by omega)
      rw [← eJ] at hq1 b1 a2 b2 a4 hz hsuf
      rw [← eK] at a2 b2 hz hsuf
      have hb2 : bt s (p + (1 + J + 1) + K) = 93 := by rw [Nat.add_assoc]; exact b2
      have hq2 := seq_read (fm := fm) ds d0 _ i g (p + (1 + J + 1)) [] s2 hk2 a4 (by rw [← eK, hb2]; unfold Sep; omega) (by rw [← eK, hb2]; decide) (by omega)
      rw [← eK] at hq2
      unfold pItem
      rw [b0, li_no hn (by omega)]
      dsimp only
      rw [if_neg (by decide), if_pos rfl, hq1]
      dsimp only
      rw [Nat.add_assoc p 1 J, b1, if_pos (by omega), show p + (1 + J) + 1 = p + (1 + J + 1) by omega, hq2]
      dsimp only
      rw [if_pos hb2]
      have := hsuf (xs.take i) ⟨if cc.toNat = 58 then 4 else 3, 0, 0, 0, ((c0 :: cs).length : Int), c0 :: cs ++ d0 :: ds⟩ rfl
      rw [List.nil_append, List.nil_append, show p + (1 + J + 1) + K + 1 = p + (1 + J + 1 + K + 1) by omega, this]
      have hxx : ({ kind := if cc.toNat = 58 then 4 else 3, move := 0, count := x.count, inv := x.inv, split := ((c0 :: cs).length : Int), kids := c0 :: cs ++ d0 :: ds } : Nd) = x := by
        rw [hks, hl1]
        have hkd3 : (if cc.toNat = 58 then (4 : Int) else 3) = x.kind := by
          rw [ecc]
          by_cases h3 : x.kind = 3
          · rw [if_pos h3, h3]; rfl
          · rw [if_neg h3]; rcases k1 with h | h
            · exact absurd h h3
            · rw [h]; rfl
        rw [hkd3]
        cases x
        simp only at k2 k3 hkx esp
        simp only [Nd.mk.injEq, true_and, and_true]
        exact ⟨k2.symm, by omega, hkx.symm⟩
      rw [hxx]
end
end Go.Nt
end

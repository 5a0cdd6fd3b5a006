import Derived.Lib.Join
import Derived.Lib.SplitLaws
import Derived.Test.YtpffmolibjimgaaGreatDoorS41
import Derived.Test.YtpffmolibjimgaaGreatDoorS26
import Derived.Test.YtpffmolibjimgaaGreatDoorS25
import Derived.Test.YtpffmolibjimgaaGreatDoorS30
/- Texts joined by a separator and split again; plain. -/
section
namespace Go.Sp
open Go.Lib (index index_first index_none occAt occAt_head count count_hit count_miss splitK join join_cons joinTail occAt_iff_take splitB countB splitB_data indexB)
theorem occ_free {w r t : List UInt8} {c : UInt8} (hw : c ∉ w) {j : Nat} (hj : j < w.length) : occAt (w ++ r) (c :: t) j = false := by
  cases h : occAt (w ++ r) (c :: t) j with
  | false => rfl
  | true =>
    have h1 := occAt_head rfl h
    rw [List.getElem?_append_left hj, List.getElem?_eq_getElem hj] at h1
    exact absurd (Option.some.inj h1 ▸ List.getElem_mem hj) hw
theorem index_hit {w r t : List UInt8} {c : UInt8} (hw : c ∉ w) : index (w ++ ((c :: t) ++ r)) (c :: t) = (w.length : Int) := by
  refine index_first (by simp) ?_ (fun j hj => occ_free hw hj)
  rw [occAt_iff_take _ _ _ (by simp)]
  simp
theorem index_no {w t : List UInt8} {c : UInt8} (hw : c ∉ w) : index w (c :: t) = -1 := by
  refine index_none fun j hj => ?_
  by_cases h : j < w.length
  · have := occ_free (r := []) (t := t) hw h
    rwa [List.append_nil] at this
  · cases ho : occAt w (c :: t) j with
    | false => rfl
    | true =>
      have h1 := occAt_head rfl ho
      rw [List.getElem?_eq_none (by omega)] at h1
      cases h1
theorem join_two (x y : List UInt8) (r : List (List UInt8)) (sep : List UInt8) : join (x :: y :: r) sep = x ++ (sep ++ join (y :: r) sep) := by
  rw [join_cons, join_cons]
  simp [joinTail]
theorem drop_two (x s r : List UInt8) : (x ++ (s ++ r)).drop (x.length + s.length) = r := by
  rw [← List.append_assoc, ← List.length_append, List.drop_left]
/-- How often the separator stands in a joined text. -/
theorem count_join {c : UInt8} {t : List UInt8} : ∀ (xs : List (List UInt8)) (x : List UInt8), (∀ y ∈ x :: xs, c ∉ y) → count (join (x :: xs) (c :: t)) (c :: t) = xs.length
  | [], x, h => by
    rw [show join [x] (c :: t) = x from Go.Lib.join_one _ _]
    exact count_miss (index_no (h x (List.mem_cons_self ..)))
  | y :: r, x, h => by
    rw [join_two, count_hit (by simp) (index_hit (h x (List.mem_cons_self ..))), drop_two, count_join r y fun z hz => h z (List.mem_cons_of_mem _ hz)]
    simp; omega
/-- A joined text, split. -/
theorem split_join {c : UInt8} {t : List UInt8} : ∀ (xs : List (List UInt8)) (x : List UInt8), (∀ y ∈ x :: xs, c ∉ y) → splitK (c :: t) 0 xs.length (join (x :: xs) (c :: t)) = x :: xs
  | [], x, h => by rw [show join [x] (c :: t) = x from Go.Lib.join_one _ _]; rfl
  | y :: r, x, h => by
    have hi := index_hit (r := join (y :: r) (c :: t)) (t := t) (h x (List.mem_cons_self ..))
    rw [join_two, List.length_cons, splitK, hi, if_neg (by simp)]
    rw [Int.toNat_natCast, Nat.add_zero, drop_two, split_join r y fun z hz => h z (List.mem_cons_of_mem _ hz), List.take_left]
/-- The same of texts. -/
theorem splitB_join {c : UInt8} {t : List UInt8} {s sep : ByteArray} {x : List UInt8} {xs : List (List UInt8)} (hsep : sep.data.toList = c :: t) (hs : s.data.toList = join (x :: xs) (c :: t)) (h : ∀ y ∈ x :: xs, c ∉ y) : (splitB sep 0 (countB s sep) s).map (·.data.toList) = x :: xs := by
  rw [splitB_data]
  show splitK sep.data.toList 0 (count s.data.toList sep.data.toList) s.data.toList = _
  rw [hsep, hs, count_join xs x h, split_join xs x h]
theorem map_data {ws : List ByteArray} {xs : List (List UInt8)} (h : ws.map (·.data.toList) = xs) : ws = xs.map fun l => (⟨l.toArray⟩ : ByteArray) := by
  subst h
  rw [List.map_map]
  conv => lhs; rw [← List.map_id ws]
  refine List.map_congr_left fun w _ => ?_
  show w = ⟨w.data.toList.toArray⟩
  rw [Array.toArray_toList]
end Go.Sp
end
/- The reference's split of joined texts; the program's too. -/
section
namespace Go.Proofs.YtpffmolibjimgaaGreatDoor
open Go.Av
set_option linter.unusedSimpArgs false
set_option linter.unusedVariables false
attribute [local irreducible] AWP CallG Ob Br BrP Go.Av.Sub endQ AOps OpV AC thenA blkA opsVC opVC withA withArgs opsQ opQ CallQ withA2 withArgs2
open Go.Sp (splitB_join map_data join_two)
open Go.Lib (join)
theorem spS_run (s : ByteArray) (c q : Nat) (P : List ByteArray) (h0 : spS s c q = (P, q)) : ∀ d, q + d ≤ s.size → (∀ j, q ≤ j → j < q + d → (s.data.toList.getD j 0).toNat ≠ c) → spS s c (q + d) = (P, q)
  | 0, _, _ => h0
  | d + 1, h1, h2 => by
    have ih := spS_run s c q P h0 d (by omega) fun j hj hk => h2 j hj (by omega)
    show spS s c (q + d + 1) = _
    unfold spS
    rw [if_neg (by
      rintro (h | h)
      · omega
      · exact h2 (q + d) (by omega) (by omega) h), ih]
theorem ex_mid (s : ByteArray) (A x B : List UInt8) (h : s.data.toList = A ++ (x ++ B)) : (s.extract A.length (A.length + x.length)).data.toList = x := by
  rw [Lib.extract_data, h]
  simp
theorem spS_join (s : ByteArray) (cb : UInt8) : ∀ (xs : List (List UInt8)) (x A : List UInt8) (P : List ByteArray), s.data.toList = A ++ join (x :: xs) [cb] → (∀ y ∈ x :: xs, cb ∉ y) → spS s cb.toNat A.length = (P, A.length) → (spS s cb.toNat (s.size + 1)).1.map (·.data.toList) = P.map (·.data.toList) ++ (x :: xs)
  | [], x, A, P, hs, hf, h0 => by
    rw [show join [x] [cb] = x from Go.Lib.join_one _ _] at hs
    have hsz : s.size = A.length + x.length := by
      have := congrArg List.length hs
      rw [List.length_append] at this
      have e : s.data.toList.length = s.size := by simp
      omega
    have h1 := spS_run s cb.toNat A.length P h0 x.length (by omega) (fun j hj hk he => by
      rw [hs, List.getD_eq_getElem?_getD, List.getElem?_append_right hj, List.getElem?_eq_getElem (show j - A.length < x.length by omega)] at he
      refine hf x (List.mem_cons_self ..) ?_
      have : x[j - A.length]'(by omega) = cb := UInt8.toNat_inj.1 he
      rw [← this]; exact List.getElem_mem _)
    rw [hsz]
    unfold spS
    rw [if_pos (.inl hsz.symm), h1]
    have h2 := ex_mid s A x [] (by simpa using hs)
    rw [List.map_append]
    simp only [List.map_cons, List.map_nil]
    rw [h2]
  | y :: r, x, A, P, hs, hf, h0 => by
    rw [join_two] at hs
    have hsz : s.size = A.length + (x.length + (1 + (join (y :: r) [cb]).length)) := by
      have := congrArg List.length hs
      simp only [List.length_append, List.length_singleton] at this
      have e : s.data.toList.length = s.size := by simp
      omega
    have h1 := spS_run s cb.toNat A.length P h0 x.length (by omega) (fun j hj hk he => by
      rw [hs, List.getD_eq_getElem?_getD, List.getElem?_append_right hj, List.getElem?_append_left (show j - A.length < x.length by omega), List.getElem?_eq_getElem (show j - A.length < x.length by omega)] at he
      refine hf x (List.mem_cons_self ..) ?_
      have : x[j - A.length]'(by omega) = cb := UInt8.toNat_inj.1 he
      rw [← this]; exact List.getElem_mem _)
    have hc : (s.data.toList.getD (A.length + x.length) 0).toNat = cb.toNat := by
      rw [hs, List.getD_eq_getElem?_getD, List.getElem?_append_right (by omega), List.getElem?_append_right (by omega)]
      rw [show A.length + x.length - A.length - x.length = 0 by omega]
      rfl
    have h2 := ex_mid s A x _ hs
    have h3 : spS s cb.toNat (A ++ (x ++ [cb])).length = (P ++ [s.extract A.length (A.length + x.length)], (A ++ (x ++ [cb])).length) := by
      rw [show (A ++ (x ++ [cb])).length = A.length + x.length + 1 by simp; omega]
      conv => lhs; unfold spS
      rw [if_pos (.inr hc), h1]
    have ih := spS_join s cb r y (A ++ (x ++ [cb])) _ (by rw [hs]; simp) (fun z hz => hf z (List.mem_cons_of_mem _ hz)) h3
    rw [ih, List.map_append]
    simp only [List.map_cons, List.map_nil]
    rw [h2]
    simp
/-- The reference's split of a joined text. -/
theorem splitP_join {s : ByteArray} {cb : UInt8} {x : List UInt8} {xs : List (List UInt8)} (hs : s.data.toList = join (x :: xs) [cb]) (h : ∀ y ∈ x :: xs, cb ∉ y) : splitP s cb.toNat = (x :: xs).map fun l => (⟨l.toArray⟩ : ByteArray) :=
  map_data (by
    have := spS_join s cb xs x [] [] (by simpa using hs) h rfl
    simpa [splitP] using this)
/-- The program's. -/
theorem slP_join {s sep : ByteArray} {c : UInt8} {t x : List UInt8} {xs : List (List UInt8)} (hsep : sep.data.toList = c :: t) (hs : s.data.toList = join (x :: xs) (c :: t)) (h : ∀ y ∈ x :: xs, c ∉ y) : slP s sep = (x :: xs).map fun l => (⟨l.toArray⟩ : ByteArray) :=
  map_data (splitB_join hsep hs h)
end Go.Proofs.YtpffmolibjimgaaGreatDoor
end
/- The cycles of a permutation, laid on the identity, give it back. -/
section
namespace Go.Proofs.YtpffmolibjimgaaGreatDoor
open Go.Av
set_option linter.unusedSimpArgs false
set_option linter.unusedVariables false
attribute [local irreducible] AWP CallG Ob Br BrP Go.Av.Sub endQ AOps OpV AC thenA blkA opsVC opVC withA withArgs opsQ opQ CallQ withA2 withArgs2
open Go.Pm (Pm idn cyc cycs clen itr isMn cyc_length cyc_get clen_ok itr_lt mem_cycs min_ex)
theorem gset (L : List Int) (a : Nat) (v : Int) (x : Nat) (ha : a < L.length) : (L.set a v).getD x 0 = if x = a then v else L.getD x 0 := by
  rw [List.getD_eq_getElem?_getD, List.getD_eq_getElem?_getD, List.getElem?_set]
  by_cases h : a = x
  · subst h; simp [ha]
  · rw [if_neg h, if_neg (fun e => h e.symm)]
/-- Each entry as at first or as in the end. -/
def Hlf (p L : List Int) : Prop := ∀ x, x < p.length → L.getD x 0 = (x : Int) ∨ L.getD x 0 = p.getD x 0
theorem pcR_cyc {n : Nat} {p : List Int} (hp : Pm n p) {i : Nat} (hi : i < n) (L : List Int) (hL : L.length = n) (hH : Hlf p L) : ∀ j, j ≤ clen p i → Hlf p (pcR L (cyc p i) j) ∧ (∀ x, L.getD x 0 = p.getD x 0 → (pcR L (cyc p i) j).getD x 0 = p.getD x 0) ∧ ∀ m, m < j → (pcR L (cyc p i) j).getD (itr p i m) 0 = p.getD (itr p i m) 0
  | 0, _ => ⟨hH, fun x h => h, fun m hm => absurd hm (Nat.not_lt_zero _)⟩
  | j + 1, hj => by
    obtain ⟨h1, h2, h3⟩ := pcR_cyc hp hi L hL hH j (by omega)
    have hlen : (pcR L (cyc p i) j).length = n := by rw [pcR_len]; exact hL
    have hb := itr_lt hp hi j
    have e1 : ((cyc p i).getD j 0).toNat = itr p i j := by rw [cyc_get p i (by omega)]; exact Int.toNat_natCast _
    have e2 : (cyc p i).getD ((j + 1) % (cyc p i).length) 0 = p.getD (itr p i j) 0 := by
      rw [cyc_length, hp.get_eq hb]
      by_cases hl : j + 1 < clen p i
      · rw [Nat.mod_eq_of_lt hl, cyc_get p i hl]; rfl
      · rw [show j + 1 = clen p i by omega, Nat.mod_self, cyc_get p i (by omega)]
        have := (clen_ok hp hi).2.1
        rw [show clen p i = j + 1 by omega] at this
        show ((itr p i 0 : Nat) : Int) = ((itr p i (j + 1) : Nat) : Int)
        rw [this]; rfl
    have key : ∀ x, (pcR L (cyc p i) (j + 1)).getD x 0 = if x = itr p i j then p.getD (itr p i j) 0 else (pcR L (cyc p i) j).getD x 0 := fun x => by
      show ((pcR L (cyc p i) j).set ((cyc p i).getD j 0).toNat ((cyc p i).getD ((j + 1) % (cyc p i).length) 0)).getD x 0 = _
      rw [e1, e2, gset _ _ _ _ (by omega)]
    refine ⟨fun x hx => ?_, fun x hx => ?_, fun m hm => ?_⟩
    · rw [key]
      split
      · rename_i e; rw [e]; exact .inr rfl
      · exact h1 x hx
    · rw [key]
      split
      · rename_i e; rw [e]
      · exact h2 x hx
    · rw [key]
      split
      · rename_i e; rw [e]
      · by_cases e : m = j
        · subst e; contradiction
        · exact h3 m (by omega)
/-- The row after k cycles. -/
def cyR (cs : List (List Int)) (L : List Int) : Nat → List Int
  | 0 => L
  | k + 1 => pcR (cyR cs L k) (cs.getD k []) (cs.getD k []).length
theorem cyR_len (cs : List (List Int)) (L : List Int) : ∀ k, (cyR cs L k).length = L.length
  | 0 => rfl
  | k + 1 => by unfold cyR; rw [pcR_len]; exact cyR_len cs L k
theorem idn_get {n x : Nat} (h : x < n) : (idn n).getD x 0 = (x : Int) := by
  simp [idn, List.getD_eq_getElem?_getD, h]
theorem cyR_ok {n : Nat} {p : List Int} (hp : Pm n p) : ∀ k, k ≤ (cycs p).length → Hlf p (cyR (cycs p) (idn n) k) ∧ ∀ j, j < k → ∀ i, i < n → (cycs p).getD j [] = cyc p i → ∀ m, m < clen p i → (cyR (cycs p) (idn n) k).getD (itr p i m) 0 = p.getD (itr p i m) 0
  | 0, _ => ⟨fun x hx => .inl (idn_get (by rw [hp.1] at hx; exact hx)), fun j hj => absurd hj (Nat.not_lt_zero _)⟩
  | k + 1, hk => by
    obtain ⟨h1, h2⟩ := cyR_ok hp k (by omega)
    have hm : (cycs p).getD k [] ∈ cycs p := by rw [List.getD_eq_getElem?_getD, List.getElem?_eq_getElem (by omega)]; exact List.getElem_mem (by omega)
    obtain ⟨i, hi, _, _, e⟩ := (mem_cycs hp _).1 hm
    have hl : (cyR (cycs p) (idn n) k).length = n := by rw [cyR_len, Go.Pm.idn_length]
    obtain ⟨a, b, c⟩ := pcR_cyc hp hi _ hl h1 (clen p i) (Nat.le_refl _)
    have es : cyR (cycs p) (idn n) (k + 1) = pcR (cyR (cycs p) (idn n) k) (cyc p i) (clen p i) := by
      show pcR _ ((cycs p).getD k []) ((cycs p).getD k []).length = _
      rw [e, cyc_length]
    rw [es]
    refine ⟨a, fun j hj i' hi' e' m hm' => ?_⟩
    by_cases ejk : j = k
    · subst ejk
      have e3 : cyc p i' = cyc p i := e'.symm.trans e
      have hcl : clen p i' = clen p i := by rw [← cyc_length, ← cyc_length, e3]
      have : itr p i' m = itr p i m := by
        have := congrArg (fun l => l.getD m 0) e3
        simp only [cyc_get p i' hm', cyc_get p i (hcl ▸ hm')] at this
        omega
      rw [this]
      exact c m (hcl ▸ hm')
    · exact b _ (h2 j (by omega) i' hi' e' m hm')
theorem cyR_all {n : Nat} {p : List Int} (hp : Pm n p) : cyR (cycs p) (idn n) (cycs p).length = p := by
  obtain ⟨h1, h2⟩ := cyR_ok hp _ (Nat.le_refl _)
  have hl : (cyR (cycs p) (idn n) (cycs p).length).length = n := by rw [cyR_len, Go.Pm.idn_length]
  refine eq_of_getD (by rw [hl, hp.1]) fun x hx => ?_
  have hx : x < n := by omega
  rcases h1 x (by rw [hp.1]; exact hx) with e | e
  · obtain ⟨m, hm, k, hk, ek⟩ := Go.Pm.rep_ex hp hx
    obtain ⟨hmn, hmin⟩ := (Go.Pm.mem_reps hp).1 hm
    by_cases hc : 1 < clen p m
    · have hmem : cyc p m ∈ cycs p := (mem_cycs hp _).2 ⟨m, hmn, hmin, hc, rfl⟩
      obtain ⟨j, hj, ej⟩ := List.getElem_of_mem hmem
      have := h2 j hj m hmn (by rw [List.getD_eq_getElem?_getD, List.getElem?_eq_getElem hj]; exact ej) k hk
      rw [ek] at this
      exact this
    · have hpos := Go.Pm.clen_pos p m
      have hk0 : k = 0 := by omega
      subst hk0
      have hxm : m = x := ek
      subst hxm
      have h3 := (clen_ok hp hx).2.1
      rw [show clen p m = 1 by omega] at h3
      have h4 := hp.get_eq hx
      rw [e, h4]
      show (m : Int) = ((itr p m 1 : Nat) : Int)
      rw [h3]
  · exact e
end Go.Proofs.YtpffmolibjimgaaGreatDoor
end
/- The texts of numbers and of cycles, read again. -/
section
namespace Go.Proofs.YtpffmolibjimgaaGreatDoor
open Go.Av
set_option linter.unusedSimpArgs false
set_option linter.unusedVariables false
attribute [local irreducible] AWP CallG Ob Br BrP Go.Av.Sub endQ AOps OpV AC thenA blkA opsVC opVC withA withArgs opsQ opQ CallQ withA2 withArgs2
open Go.Pm (Pm idn cycs)
open Go.Lib (join)
/-- A number's text, as bytes. -/
def nB (x : Int) : List UInt8 := (fmS x.toNat).data.toList
/-- Values that are read as they are written. -/
def Sm (xs : List Int) : Prop := ∀ x ∈ xs, 0 ≤ x ∧ x < 1000
theorem nB_dig {x : Int} (h : 0 ≤ x ∧ x < 1000) : ∀ b ∈ nB x, 48 ≤ b.toNat ∧ b.toNat ≤ 57 := fun b hb => by
  obtain ⟨h1, h2⟩ := fm_ne ⟨x.toNat, by omega⟩
  obtain ⟨j, hj, e⟩ := List.getElem_of_mem hb
  have hl : (nB x).length = (fmS x.toNat).size := by unfold nB; simp
  have := h2 ⟨j, by have := h1.2; dsimp only at this; omega⟩ (by dsimp only; omega)
  have this : 48 ≤ ((nB x).getD j 0).toNat ∧ ((nB x).getD j 0).toNat ≤ 57 := this
  rw [List.getD_eq_getElem?_getD, List.getElem?_eq_getElem hj] at this
  rw [← e]; exact this
theorem fis_join (xs : List Int) : (fisP xs).data.toList = join (xs.map nB) [32] := by
  rw [← fisP_jn]
  have := jnS_join ⟨#[32]⟩ (fisS xs xs.length) (fisS xs xs.length).length (Nat.le_refl _)
  rw [List.take_length] at this
  refine Eq.trans this ?_
  unfold fisS
  rw [List.take_length, List.map_map]
  rfl
theorem join_mem {sep : List UInt8} : ∀ (xs : List (List UInt8)) (b : UInt8), b ∈ join xs sep → b ∈ sep ∨ ∃ x ∈ xs, b ∈ x
  | [], b, h => by rw [show join [] sep = [] from rfl] at h; cases h
  | [x], b, h => by rw [Lib.join_one] at h; exact .inr ⟨x, List.mem_cons_self .., h⟩
  | x :: y :: r, b, h => by
    rw [Go.Sp.join_two, List.mem_append, List.mem_append] at h
    rcases h with h | h | h
    · exact .inr ⟨x, List.mem_cons_self .., h⟩
    · exact .inl h
    · rcases join_mem (y :: r) b h with h | ⟨z, hz, hb⟩
      · exact .inl h
      · exact .inr ⟨z, List.mem_cons_of_mem _ hz, hb⟩
theorem fis_free {xs : List Int} (h : Sm xs) {b : UInt8} (hb : b ∈ (fisP xs).data.toList) : b.toNat = 32 ∨ (48 ≤ b.toNat ∧ b.toNat ≤ 57) := by
  rw [fis_join] at hb
  rcases join_mem _ _ hb with h1 | ⟨l, hl, hbl⟩
  · rw [List.mem_singleton] at h1; subst h1; exact .inl rfl
  · obtain ⟨x, hx, rfl⟩ := List.mem_map.1 hl
    exact .inr (nB_dig (h x hx) b hbl)
theorem nB_no32 {x : Int} (h : 0 ≤ x ∧ x < 1000) : (32 : UInt8) ∉ nB x := fun hb => by
  have := nB_dig h _ hb
  have e : (32 : UInt8).toNat = 32 := rfl
  omega
theorem back_fm (xs : List Int) : (xs.map nB).map (fun l => (⟨l.toArray⟩ : ByteArray)) = xs.map fun x => fmS x.toNat := by
  rw [List.map_map]
  refine List.map_congr_left fun x _ => ?_
  show (⟨(fmS x.toNat).data.toList.toArray⟩ : ByteArray) = _
  rw [Array.toArray_toList]
theorem sl_fis (x : Int) (xs : List Int) (h : Sm (x :: xs)) : slP (fisP (x :: xs)) ⟨#[32]⟩ = (x :: xs).map fun x => fmS x.toNat := by
  rw [← back_fm]
  exact slP_join (c := 32) (t := []) rfl (fis_join _) (fun y hy => by
    obtain ⟨z, hz, rfl⟩ := List.mem_map.1 (show y ∈ (x :: xs).map nB from hy)
    exact nB_no32 (h z hz))
theorem sp_fis (x : Int) (xs : List Int) (h : Sm (x :: xs)) : splitP (fisP (x :: xs)) 32 = (x :: xs).map fun x => fmS x.toNat := by
  rw [← back_fm]
  exact splitP_join (cb := 32) (fis_join _) (fun y hy => by
    obtain ⟨z, hz, rfl⟩ := List.mem_map.1 (show y ∈ (x :: xs).map nB from hy)
    exact nB_no32 (h z hz))
theorem rn_fm {x : Int} (h : 0 ≤ x ∧ x < 1000) : rnP (fmS x.toNat) = some x ∧ okI (fmS x.toNat) ∧ pvP (fmS x.toNat) = x := by
  have := rn_all ⟨x.toNat, by omega⟩
  dsimp only at this
  rwa [show ((x.toNat : Nat) : Int) = x by omega] at this
theorem get_fm (xs : List Int) {j : Nat} (h : j < xs.length) : (xs.map fun x => fmS x.toNat).getD j ByteArray.empty = fmS (xs.getD j 0).toNat := by
  simp [List.getD_eq_getElem?_getD, h]
theorem Sm.get {xs : List Int} (h : Sm xs) {j : Nat} (hj : j < xs.length) : 0 ≤ xs.getD j 0 ∧ xs.getD j 0 < 1000 := h _ (by rw [List.getD_eq_getElem?_getD, List.getElem?_eq_getElem hj]; exact List.getElem_mem hj)
theorem rns_fm (xs : List Int) (h : Sm xs) : rnsP (xs.map fun x => fmS x.toNat) = (xs, true) := by
  unfold rnsP
  rw [if_pos fun j hj => by
    rw [List.length_map] at hj
    rw [get_fm xs hj, (rn_fm (h.get hj)).1]; rfl]
  rw [List.map_map]
  congr 1
  conv => rhs; rw [← List.map_id xs]
  refine List.map_congr_left fun x hx => ?_
  show (rnP (fmS x.toNat)).getD 0 = x
  rw [(rn_fm (h x hx)).1]; rfl
theorem pc_fm (xs : List Int) (h : Sm xs) : pcI (xs.map fun x => fmS x.toNat) xs.length = xs := by
  unfold pcI
  rw [show xs.length = (xs.map fun x => fmS x.toNat).length by simp, List.take_length, List.map_map]
  conv => rhs; rw [← List.map_id xs]
  refine List.map_congr_left fun x hx => ?_
  exact (rn_fm (h x hx)).2.2
theorem pcOk_fm (n : Nat) (xs : List Int) (h : Sm xs) (hn : ∀ x ∈ xs, x < n) : pcOk n (xs.map fun x => fmS x.toNat) := fun j hj => by
  rw [List.length_map] at hj
  rw [get_fm xs hj]
  obtain ⟨_, h2, h3⟩ := rn_fm (h.get hj)
  refine ⟨h2, ?_⟩
  rw [h3]
  exact hn _ (by rw [List.getD_eq_getElem?_getD, List.getElem?_eq_getElem hj]; exact List.getElem_mem hj)
/-- The images' text, read again. -/
theorem im_back {p : List Int} (hok : isPerm p) (h200 : (fimP p).size ≤ 200) : imP (fimP p) = (p, true) := by
  have e : fimP p = fisP p := if_pos hok
  rw [e] at h200 ⊢
  have hs : Sm p := fun x hx => by
    obtain ⟨j, hj, e⟩ := List.getElem_of_mem hx
    have := (perm_rng hok).2 j hj
    rw [List.getD_eq_getElem?_getD, List.getElem?_eq_getElem hj] at this
    rw [← e]; exact this
  have hne : 1 ≤ p.length := hok.1.1
  unfold imP
  rw [if_neg (by omega)]
  match p, hne with
  | x :: xs, _ => rw [sl_fis x xs hs, rns_fm _ hs, if_pos ⟨rfl, hok⟩]
end Go.Proofs.YtpffmolibjimgaaGreatDoor
end
/- The text of a permutation's cycles, read again by both. -/
section
namespace Go.Proofs.YtpffmolibjimgaaGreatDoor
open Go.Av
set_option linter.unusedSimpArgs false
set_option linter.unusedVariables false
attribute [local irreducible] AWP CallG Ob Br BrP Go.Av.Sub endQ AOps OpV AC thenA blkA opsVC opVC withA withArgs opsQ opQ CallQ withA2 withArgs2
open Go.Pm (Pm idn cyc cycs clen itr isMn cyc_length cyc_get clen_ok itr_lt mem_cycs min_ex)
open Go.Lib (join)
/-- A cycle's text, as bytes. -/
def fB (c : List Int) : List UInt8 := (fisP c).data.toList
theorem fc_join (cs : List (List Int)) : ∀ k, k < cs.length → (fcS cs (k + 1)).data.toList = 40 :: (join ((cs.take (k + 1)).map fB) [41, 40] ++ [41])
  | 0, h => by
    match cs, h with
    | c :: r, _ =>
      have e : fcS (c :: r) 1 = (⟨#[]⟩ : ByteArray) ++ ⟨#[40]⟩ ++ fisP c ++ ⟨#[41]⟩ := rfl
      rw [e]
      simp [ByteArray.data_append, Array.toList_append, Lib.join_one, fB]
  | k + 1, h => by
    have ih := fc_join cs k (by omega)
    have e : fcS cs (k + 1 + 1) = fcS cs (k + 1) ++ ⟨#[40]⟩ ++ fisP (cs.getD (k + 1) []) ++ ⟨#[41]⟩ := rfl
    have e2 : cs.take (k + 1 + 1) = cs.take (k + 1) ++ [cs.getD (k + 1) []] := by
      rw [List.getD_eq_getElem?_getD, List.getElem?_eq_getElem h, ← List.take_append_getElem h]; rfl
    rw [e, e2, List.map_append, List.map_cons, List.map_nil, join_snoc _ _ _ (by
      intro h0
      have := congrArg List.length h0
      rw [List.length_map, List.length_take, List.length_nil] at this
      omega)]
    simp only [ByteArray.data_append, Array.toList_append]
    rw [ih]
    simp [fB]
/-- What is between the outer parentheses. -/
theorem fc_mid {cs : List (List Int)} (h : 1 ≤ cs.length) : (fcS cs cs.length).data.toList = 40 :: (join (cs.map fB) [41, 40] ++ [41]) := by
  have := fc_join cs (cs.length - 1) (by omega)
  rwa [show cs.length - 1 + 1 = cs.length by omega, List.take_length] at this
theorem join_shift : ∀ (xs : List (List UInt8)) (x : List UInt8), join (x :: xs) [41, 40] = join (x :: xs.map (40 :: ·)) [41]
  | [], x => by rw [List.map_nil, Lib.join_one, Lib.join_one]
  | y :: r, x => by
    have ih := join_shift r y
    rw [Go.Sp.join_two, ih, List.map_cons, Go.Sp.join_two, Lib.join_cons, Lib.join_cons]
    simp
theorem fB_free {c : List Int} (h : Sm c) : (41 : UInt8) ∉ fB c := fun hb => by
  have := fis_free h hb
  have e : (41 : UInt8).toNat = 41 := rfl
  omega
theorem back_fB (cs : List (List Int)) : (cs.map fB).map (fun l => (⟨l.toArray⟩ : ByteArray)) = cs.map fisP := by
  rw [List.map_map]
  refine List.map_congr_left fun c _ => ?_
  show (⟨(fisP c).data.toList.toArray⟩ : ByteArray) = _
  rw [Array.toArray_toList]
theorem baL_data (l : List UInt8) : (baL l).data.toList = l := by simp [baL]
/-- The parts that the program finds. -/
theorem icS_fc {s : ByteArray} {c : List Int} {cs : List (List Int)} (hs : s.data.toList = 40 :: (join ((c :: cs).map fB) [41, 40] ++ [41])) (h : ∀ d ∈ c :: cs, Sm d) : icS s = (c :: cs).map fisP := by
  have e1 : tpP s ⟨#[40]⟩ = baL (join ((c :: cs).map fB) [41, 40] ++ [41]) := by
    unfold tpP Lib.trimPrefix Lib.hasPrefix
    rw [hs]
    rfl
  have e2 : tsP (tpP s ⟨#[40]⟩) ⟨#[41]⟩ = baL (join ((c :: cs).map fB) [41, 40]) := by
    rw [e1]
    unfold tsP Lib.trimSuffix Lib.hasSuffix
    rw [baL_data]
    have : List.isSuffixOf [(41 : UInt8)] (join ((c :: cs).map fB) [41, 40] ++ [41]) = true := by simp
    rw [if_pos this]
    simp
  unfold icS
  rw [e2, ← back_fB]
  exact slP_join (c := 41) (t := [40]) rfl (baL_data _) (fun y hy => by
    obtain ⟨d, hd, rfl⟩ := List.mem_map.1 (show y ∈ (c :: cs).map fB from hy)
    exact fB_free (h d hd))
theorem get_fis (cs : List (List Int)) {k : Nat} (h : k < cs.length) : (cs.map fisP).getD k ByteArray.empty = fisP (cs.getD k []) := by
  simp [List.getD_eq_getElem?_getD, h]
theorem icK_fc {n : Nat} {cs : List (List Int)} (h : ∀ d ∈ cs, Sm d ∧ 1 ≤ d.length ∧ ∀ x ∈ d, x < n) : ∀ k, k ≤ cs.length → icK n (cs.map fisP) (idn n) k = some (cyR cs (idn n) k)
  | 0, _ => rfl
  | k + 1, hk => by
    have ih := icK_fc h k (by omega)
    unfold icK
    rw [ih]
    dsimp only
    rw [get_fis cs (by omega)]
    have hm : cs.getD k [] ∈ cs := by rw [List.getD_eq_getElem?_getD, List.getElem?_eq_getElem (by omega)]; exact List.getElem_mem (by omega)
    obtain ⟨h1, h2, h3⟩ := h _ hm
    obtain ⟨d, ed⟩ : ∃ d, d = cs.getD k [] := ⟨_, rfl⟩
    show (if _ then _ else _) = some (pcR (cyR cs (idn n) k) (cs.getD k []) (cs.getD k []).length)
    rw [← ed] at h1 h2 h3 ⊢
    match d, h2 with
    | x :: xs, _ =>
      rw [sl_fis x xs h1, rns_fm _ h1, if_pos]
      refine ⟨rfl, fun j hj => ?_⟩
      have := h1.get hj
      have := h3 _ (by show (x :: xs).getD j 0 ∈ (x :: xs); rw [List.getD_eq_getElem?_getD, List.getElem?_eq_getElem hj]; exact List.getElem_mem hj)
      dsimp only
      omega
theorem cyc_facts {n : Nat} {p : List Int} (hp : Pm n p) (hn : n ≤ 20) : ∀ d ∈ cycs p, Sm d ∧ 1 ≤ d.length ∧ ∀ x ∈ d, x < n := fun d hd => by
  obtain ⟨i, hi, _, h1, rfl⟩ := (mem_cycs hp d).1 hd
  have hx : ∀ x ∈ cyc p i, 0 ≤ x ∧ x < n := fun x hx => by
    obtain ⟨k, hk, e⟩ := List.getElem_of_mem hx
    have := cyc_get p i (k := k) (by rw [← cyc_length]; exact hk)
    rw [List.getD_eq_getElem?_getD, List.getElem?_eq_getElem hk] at this
    have h2 := itr_lt hp hi k
    have h3 : x = ((itr p i k : Nat) : Int) := e.symm.trans this
    omega
  exact ⟨fun x h => by have := hx x h; omega, by rw [cyc_length]; omega, fun x h => (hx x h).2⟩
theorem cycs_nil {n : Nat} {p : List Int} (hp : Pm n p) (h : cycs p = []) : p = idn n := by
  have := cyR_all hp
  rw [h] at this
  exact this.symm
end Go.Proofs.YtpffmolibjimgaaGreatDoor
end
/- The round trip of cycles' texts, by the program and by the reference. -/
section
namespace Go.Proofs.YtpffmolibjimgaaGreatDoor
open Go.Av
set_option linter.unusedSimpArgs false
set_option linter.unusedVariables false
attribute [local irreducible] AWP CallG Ob Br BrP Go.Av.Sub endQ AOps OpV AC thenA blkA opsVC opVC withA withArgs opsQ opQ CallQ withA2 withArgs2
open Go.Pm (Pm idn cyc cycs clen cyc_length mem_cycs)
open Go.Lib (join)
theorem fis_sz (xs : List Int) : (fisP xs).size ≤ 4 * xs.length := by
  rw [← fisP_jn]
  refine Nat.le_trans (Go.Nt.jn_size _) ?_
  have key : ∀ (l : List Int), Go.Nt.sumS (l.map fun x => fmS x.toNat) ≤ 4 * l.length := fun l => by
    induction l with
    | nil => exact Nat.le_refl _
    | cons x l ih =>
      have h1 := fmS_size x.toNat
      simp only [Go.Nt.sumS, List.map_cons, List.sum_cons, List.length_cons] at ih ⊢
      omega
  have := key (xs.take xs.length)
  rw [List.take_length] at this
  unfold fisS
  rw [List.take_length]
  exact this
theorem fcS_sz (cs : List (List Int)) (h : ∀ d ∈ cs, 2 ≤ d.length) : ∀ k, k ≤ cs.length → (fcS cs k).size ≤ 5 * ((cs.take k).map List.length).sum
  | 0, _ => Nat.zero_le _
  | k + 1, hk => by
    have ih := fcS_sz cs h k (by omega)
    have h1 := fis_sz (cs.getD k [])
    have hm : cs.getD k [] ∈ cs := by rw [List.getD_eq_getElem?_getD, List.getElem?_eq_getElem (by omega)]; exact List.getElem_mem (by omega)
    have h2 := h _ hm
    have e : fcS cs (k + 1) = fcS cs k ++ ⟨#[40]⟩ ++ fisP (cs.getD k []) ++ ⟨#[41]⟩ := rfl
    have e2 : cs.take (k + 1) = cs.take k ++ [cs.getD k []] := by
      rw [List.getD_eq_getElem?_getD, List.getElem?_eq_getElem (show k < cs.length by omega), ← List.take_append_getElem (show k < cs.length by omega)]; rfl
    have s1 : (⟨#[40]⟩ : ByteArray).size = 1 := rfl
    have s2 : (⟨#[41]⟩ : ByteArray).size = 1 := rfl
    rw [e, e2, List.map_append, List.sum_append, ByteArray.size_append, ByteArray.size_append, ByteArray.size_append, s1, s2]
    simp only [List.map_cons, List.map_nil, List.sum_cons, List.sum_nil]
    omega
theorem fc_sz {n : Nat} {p : List Int} (hp : Pm n p) (hn : n ≤ 20) : (fcS (cycs p) (cycs p).length).size ≤ 100 := by
  have h1 := fcS_sz (cycs p) (fun d hd => by
    obtain ⟨i, _, _, h1, rfl⟩ := (mem_cycs hp d).1 hd
    rw [cyc_length]; omega) _ (Nat.le_refl _)
  rw [List.take_length] at h1
  have h2 := Go.Pm.ones_sum hp
  omega
/-- Both shapes of the text. -/
theorem fcP_or {p : List Int} (hok : isPerm p) : (fcP p = ⟨#[40, 41]⟩ ∧ cycs p = []) ∨ (1 ≤ (cycs p).length ∧ fcP p = fcS (cycs p) (cycs p).length ∧ (fcP p).data.toList = 40 :: (join ((cycs p).map fB) [41, 40] ++ [41])) := by
  rw [fcP_eq hok]
  unfold fcT
  by_cases h : 1 ≤ (cycs p).length
  · have e := fc_mid h
    rw [if_neg (by
      rw [ByteArray.toList_eq, ByteArray.toList_eq, e]
      exact List.cons_ne_nil _ _)]
    exact .inr ⟨h, rfl, e⟩
  · have h0 : cycs p = [] := List.length_eq_zero_iff.1 (by omega)
    rw [h0]
    exact .inl ⟨if_pos rfl, rfl⟩
theorem perm_n {p : List Int} (hok : isPerm p) : (1 ≤ p.length ∧ p.length ≤ 20) ∧ Pm p.length p := (isPerm_pm p).1 hok
theorem fcP_sz {p : List Int} (hok : isPerm p) : 2 ≤ (fcP p).size ∧ (fcP p).size ≤ 100 := by
  obtain ⟨hn, hp⟩ := perm_n hok
  rcases fcP_or hok with ⟨e, _⟩ | ⟨_, e, e2⟩
  · rw [e]; decide
  · have h1 := fc_sz hp hn.2
    rw [← e] at h1
    have h2 := congrArg List.length e2
    have h3 : (fcP p).data.toList.length = (fcP p).size := by simp
    simp only [List.length_cons, List.length_append, List.length_singleton] at h2
    omega
theorem not_unit {p : List Int} (hok : isPerm p) {c : List Int} {cs : List (List Int)} (hc : cycs p = c :: cs) (e2 : (fcP p).data.toList = 40 :: (join ((cycs p).map fB) [41, 40] ++ [41])) : ¬ (fcP p).toList = (⟨#[40, 41]⟩ : ByteArray).toList := by
  obtain ⟨hn, hp⟩ := perm_n hok
  rw [ByteArray.toList_eq, ByteArray.toList_eq, e2, hc]
  intro h
  have h1 := congrArg List.length h
  have h2 : (⟨#[40, 41]⟩ : ByteArray).data.toList.length = 2 := rfl
  rw [h2, List.map_cons, Lib.join_cons] at h1
  simp only [List.length_cons, List.length_append, List.length_singleton] at h1
  obtain ⟨f1, f2, _⟩ := cyc_facts hp hn.2 c (by rw [hc]; exact List.mem_cons_self ..)
  have h3 : 1 ≤ (fB c).length := by
    match c, f2 with
    | x :: xs, _ =>
      unfold fB
      rw [fis_join, List.map_cons, Lib.join_cons, List.length_append]
      have h5 := (fm_ne ⟨x.toNat, by have := f1 x (List.mem_cons_self ..); omega⟩).1.1
      have h6 : (nB x).length = (fmS x.toNat).size := by unfold nB; simp
      dsimp only at h5
      omega
  omega
/-- The program reads back what is written. -/
theorem icP_back {p : List Int} (hok : isPerm p) : icP (p.length : Int) (fcP p) = (p, true) := by
  obtain ⟨hn, hp⟩ := perm_n hok
  obtain ⟨hs1, hs2⟩ := fcP_sz hok
  unfold icP
  rw [if_neg (by rintro (h | h) <;> omega), Int.toNat_natCast]
  rcases fcP_or hok with ⟨e, e0⟩ | ⟨h1, _, e2⟩
  · rw [e, if_pos rfl, ← cycs_nil hp e0]
  · obtain ⟨c, cs, hc⟩ := List.exists_cons_of_length_pos h1
    rw [if_neg (not_unit hok hc e2)]
    have hS : icS (fcP p) = (cycs p).map fisP := by
      rw [hc]
      exact icS_fc (by rw [← hc]; exact e2) (fun d hd => (cyc_facts hp hn.2 d (by rw [hc]; exact hd)).1)
    rw [hS, List.length_map, icK_fc (cyc_facts hp hn.2) _ (Nat.le_refl _), cyR_all hp]
    dsimp only
    rw [if_pos ⟨hok, rfl⟩]
end Go.Proofs.YtpffmolibjimgaaGreatDoor
end
/- The round trip of the reference; both say yes to the same texts. -/
section
namespace Go.Proofs.YtpffmolibjimgaaGreatDoor
open Go.Av
set_option linter.unusedSimpArgs false
set_option linter.unusedVariables false
attribute [local irreducible] AWP CallG Ob Br BrP Go.Av.Sub endQ AOps OpV AC thenA blkA opsVC opVC withA withArgs opsQ opQ CallQ withA2 withArgs2
open Go.Pm (Pm idn cyc cycs clen cyc_length mem_cycs)
open Go.Lib (join)
/-- The reference's parts. -/
def spF (c : List Int) (cs : List (List Int)) : List ByteArray := (fB c :: (cs.map fB).map (40 :: ·)).map fun l => (⟨l.toArray⟩ : ByteArray)
theorem spF_0 (c : List Int) (cs : List (List Int)) : (spF c cs).getD 0 ByteArray.empty = fisP c := by
  show (⟨(fisP c).data.toList.toArray⟩ : ByteArray) = _
  rw [Array.toArray_toList]
theorem spF_s (c : List Int) (cs : List (List Int)) {k : Nat} (h : k < cs.length) : (spF c cs).getD (k + 1) ByteArray.empty = ⟨(40 :: fB (cs.getD k [])).toArray⟩ := by
  simp [spF, List.getD_eq_getElem?_getD, h]
theorem pcB_fc (c : List Int) (cs : List (List Int)) {k : Nat} (h : k < (c :: cs).length) : pcB k ((spF c cs).getD k ByteArray.empty) = some (fisP ((c :: cs).getD k [])) := by
  match k, h with
  | 0, _ =>
    unfold pcB
    rw [if_neg (by omega), spF_0]
    rfl
  | k + 1, h =>
    have h : k < cs.length := by simpa using h
    rw [spF_s c cs h]
    obtain ⟨w, ew⟩ : ∃ w, w = (⟨(40 :: fB (cs.getD k [])).toArray⟩ : ByteArray) := ⟨_, rfl⟩
    have hd : w.data.toList = 40 :: fB (cs.getD k []) := by rw [ew]
    have hz : w.size = (fB (cs.getD k [])).length + 1 := by
      have e : w.data.toList.length = w.size := by simp
      rw [hd, List.length_cons] at e; omega
    rw [← ew]
    unfold pcB
    rw [if_pos (by omega), if_neg (by rw [hd]; rintro (h1 | h1); omega; exact h1 rfl)]
    congr 1
    refine ByteArray.ext (Array.toList_inj.1 ?_)
    have := ex_mid w [40] (fB (cs.getD k [])) [] (by rw [hd]; simp)
    rw [hz]
    rw [show (fB (cs.getD k [])).length + 1 = 1 + (fB (cs.getD k [])).length by omega]
    exact this
theorem pcK_fc {n : Nat} {c : List Int} {cs : List (List Int)} (h : ∀ d ∈ c :: cs, Sm d ∧ 1 ≤ d.length ∧ ∀ x ∈ d, x < n) : ∀ k, k ≤ (c :: cs).length → pcK (spF c cs) (idn n) k = some (cyR (c :: cs) (idn n) k)
  | 0, _ => rfl
  | k + 1, hk => by
    have ih := pcK_fc h k (by omega)
    unfold pcK
    rw [ih]
    dsimp only
    rw [pcB_fc c cs (by omega)]
    dsimp only
    have hm : (c :: cs).getD k [] ∈ c :: cs := by rw [List.getD_eq_getElem?_getD, List.getElem?_eq_getElem (by omega)]; exact List.getElem_mem (by omega)
    obtain ⟨h1, h2, h3⟩ := h _ hm
    show (if _ then _ else _) = some (pcR (cyR (c :: cs) (idn n) k) ((c :: cs).getD k []) ((c :: cs).getD k []).length)
    have hl : (cyR (c :: cs) (idn n) k).length = n := by rw [cyR_len, Go.Pm.idn_length]
    obtain ⟨d, ed⟩ : ∃ d, d = (c :: cs).getD k [] := ⟨_, rfl⟩
    rw [← ed] at h1 h2 h3 ⊢
    match d, h2 with
    | x :: xs, _ =>
      have hok : pcOk (cyR (c :: cs) (idn n) k).length (splitP (fisP (x :: xs)) 32) := by rw [hl, sp_fis x xs h1]; exact pcOk_fm n _ h1 h3
      rw [if_pos hok]
      unfold pcF
      rw [if_pos hok, sp_fis x xs h1, List.length_map, pc_fm _ h1]
/-- The reference reads back what is written. -/
theorem pcsP_back {p : List Int} (hok : isPerm p) : pcsP (p.length : Int) (fcP p) = (p, true) := by
  obtain ⟨hn, hp⟩ := perm_n hok
  obtain ⟨hs1, hs2⟩ := fcP_sz hok
  rcases fcP_or hok with ⟨e, e0⟩ | ⟨h1, _, e2⟩
  · have hid := cycs_nil hp e0
    have hz : ¬ (¬ (1 ≤ (p.length : Int) ∧ (p.length : Int) ≤ 20) ∨ (fcP p).size < 2 ∨ 200 < (fcP p).size ∨ ((fcP p).data.toList.getD 0 0).toNat ≠ 40 ∨ ((fcP p).data.toList.getD ((fcP p).size - 1) 0).toNat ≠ 41) := by
      rw [e]
      rintro (h | h | h | h | h)
      · omega
      · revert h; decide
      · revert h; decide
      · exact h rfl
      · exact h rfl
    unfold pcsP
    rw [if_neg hz, if_pos (by rw [e]), Int.toNat_natCast, ← hid]
    dsimp only
    rw [if_pos rfl]
  · obtain ⟨c, cs, hc⟩ := List.exists_cons_of_length_pos h1
    have hlen : (fcP p).size = 1 + ((join ((cycs p).map fB) [41, 40]).length + 1) := by
      have e : (fcP p).data.toList.length = (fcP p).size := by simp
      rw [e2] at e
      simp only [List.length_cons, List.length_append, List.length_nil] at e
      omega
    have hz : ¬ (¬ (1 ≤ (p.length : Int) ∧ (p.length : Int) ≤ 20) ∨ (fcP p).size < 2 ∨ 200 < (fcP p).size ∨ ((fcP p).data.toList.getD 0 0).toNat ≠ 40 ∨ ((fcP p).data.toList.getD ((fcP p).size - 1) 0).toNat ≠ 41) := by
      rintro (h | h | h | h | h)
      · omega
      · omega
      · omega
      · rw [e2] at h; exact h rfl
      · rw [e2, hlen, List.getD_eq_getElem?_getD, show 1 + ((join ((cycs p).map fB) [41, 40]).length + 1) - 1 = (join ((cycs p).map fB) [41, 40]).length + 1 by omega, List.getElem?_cons_succ, List.getElem?_append_right (Nat.le_refl _), Nat.sub_self] at h
        exact h rfl
    have hmid : ((fcP p).extract 1 ((fcP p).size - 1)).data.toList = join ((cycs p).map fB) [41, 40] := by
      have := ex_mid (fcP p) [40] (join ((cycs p).map fB) [41, 40]) [41] (by rw [e2]; simp)
      rw [hlen]
      rw [show 1 + ((join ((cycs p).map fB) [41, 40]).length + 1) - 1 = 1 + (join ((cycs p).map fB) [41, 40]).length by omega]
      exact this
    have hS : splitP ((fcP p).extract 1 ((fcP p).size - 1)) 41 = spF c cs := by
      rw [hc, List.map_cons, join_shift] at hmid
      exact splitP_join (cb := 41) hmid (fun y hy => by
        rcases List.mem_cons.1 hy with rfl | hy
        · exact fB_free (cyc_facts hp hn.2 c (by rw [hc]; exact List.mem_cons_self ..)).1
        · obtain ⟨z, hz2, rfl⟩ := List.mem_map.1 hy
          obtain ⟨d, hd, rfl⟩ := List.mem_map.1 hz2
          have hf := fB_free (cyc_facts hp hn.2 d (by rw [hc]; exact List.mem_cons_of_mem _ hd)).1
          intro hb
          rcases List.mem_cons.1 hb with hb | hb
          · revert hb; decide
          · exact hf hb)
    have hL : (spF c cs).length = (c :: cs).length := by simp [spF]
    unfold pcsP
    rw [if_neg hz, if_neg (not_unit hok hc e2), Int.toNat_natCast, hS, hL, pcK_fc (by rw [← hc]; exact cyc_facts hp hn.2) _ (Nat.le_refl _), ← hc, cyR_all hp]
    dsimp only
    rw [if_pos rfl]
/-- A yes of the program's names a permutation whose text it was. -/
theorem icP_yes {n : Int} {s : ByteArray} (h : (icP n s).2 = true) : isPerm (icP n s).1 ∧ ((icP n s).1.length : Int) = n ∧ s.toList = (fcP (icP n s).1).toList := by
  have hk : ∀ (ps : List ByteArray) (k : Nat) (M : List Int), icK n ps (idn n.toNat) k = some M → M.length = n.toNat := fun ps k => by
    induction k with
    | zero => intro M h; cases h; exact Go.Pm.idn_length _
    | succ k ih =>
      intro M h
      unfold icK at h
      split at h
      · cases h
      · rename_i M' e
        have h1 := ih M' e
        split at h
        · cases h; rw [pcR_len]; exact h1
        · cases h
  unfold icP at h ⊢
  split at h
  · cases h
  · rename_i hn
    have hn2 : 1 ≤ n ∧ n ≤ 20 := Classical.byContradiction fun h => hn (.inl h)
    rw [if_neg hn]
    split at h
    · rename_i hu
      rw [if_pos hu]
      dsimp only
      have hid : Pm n.toNat (idn n.toNat) := Go.Pm.Pm.idn _
      have hok : isPerm (idn n.toNat) := (isPerm_pm _).2 ⟨by rw [Go.Pm.idn_length]; omega, by rw [Go.Pm.idn_length]; exact hid⟩
      refine ⟨hok, by rw [Go.Pm.idn_length]; omega, ?_⟩
      rw [hu]
      rcases fcP_or hok with ⟨e, _⟩ | ⟨h1, _, _⟩
      · rw [e]
      · have hm : (cycs (idn n.toNat)).getD 0 [] ∈ cycs (idn n.toNat) := by rw [List.getD_eq_getElem?_getD, List.getElem?_eq_getElem (by omega)]; exact List.getElem_mem (by omega)
        obtain ⟨i, hi, _, hc, _⟩ := (mem_cycs hid _).1 hm
        have h3 := (Go.Pm.clen_ok hid hi).2.2 1 (by omega) hc
        have h4 := hid.get_eq hi
        rw [idn_get hi] at h4
        have h5 : (i : Int) = ((Go.Pm.itr (idn n.toNat) i 1 : Nat) : Int) := h4
        exact absurd (by omega) h3
    · rename_i hu
      rw [if_neg hu]
      split at h
      · cases h
      · rename_i M e
        split at h
        · rename_i hM
          rw [if_pos hM]
          exact ⟨hM.1, by have := hk _ _ _ e; dsimp only; omega, hM.2.symm⟩
        · cases h
end Go.Proofs.YtpffmolibjimgaaGreatDoor
end
/- Both parsers say yes to the same texts. -/
section
namespace Go.Proofs.YtpffmolibjimgaaGreatDoor
open Go.Av
set_option linter.unusedSimpArgs false
set_option linter.unusedVariables false
attribute [local irreducible] AWP CallG Ob Br BrP Go.Av.Sub endQ AOps OpV AC thenA blkA opsVC opVC withA withArgs opsQ opQ CallQ withA2 withArgs2
open Go.Pm (Pm idn)
theorem pcsP_yes {n : Int} {s : ByteArray} (h : (pcsP n s).2 = true) : isPerm (pcsP n s).1 ∧ ((pcsP n s).1.length : Int) = n ∧ s.toList = (fcP (pcsP n s).1).toList := by
  unfold pcsP at h ⊢
  split at h
  · cases h
  · rename_i hn
    have hn2 : 1 ≤ n ∧ n ≤ 20 := Classical.byContradiction fun h => hn (.inl h)
    have hs2 : ¬ s.size < 2 := fun h => hn (.inr (.inl h))
    rw [if_neg hn]
    split at h
    · cases h
    · rename_i M e
      split at h
      · rename_i hM
        rw [if_pos hM]
        dsimp only
        have hl : M.length = n.toNat := by
          split at e
          · cases e; exact Go.Pm.idn_length _
          · have := pcK_len _ _ _ _ e
            rw [this, Go.Pm.idn_length]
        have hok : isPerm M := Classical.byContradiction fun h0 => by
          have : fcP M = ⟨#[]⟩ := if_neg h0
          rw [this, ByteArray.toList_eq, ByteArray.toList_eq] at hM
          have h1 := congrArg List.length hM
          have h2 : s.data.toList.length = s.size := by simp
          have h3 : (⟨#[]⟩ : ByteArray).data.toList.length = 0 := rfl
          omega
        exact ⟨hok, by omega, hM.symm⟩
      · cases h
theorem toList_inj {a b : ByteArray} (h : a.toList = b.toList) : a = b := by
  rw [ByteArray.toList_eq, ByteArray.toList_eq] at h
  exact ByteArray.ext (Array.toList_inj.1 h)
/-- Both agree. -/
theorem flags_eq (n : Int) (s : ByteArray) : (icP n s).2 = (pcsP n s).2 := by
  cases h1 : (icP n s).2 with
  | true =>
    obtain ⟨a, b, c⟩ := icP_yes h1
    have e := toList_inj c
    have := pcsP_back a
    rw [← e, b] at this
    rw [this]
  | false =>
    cases h2 : (pcsP n s).2 with
    | false => rfl
    | true =>
      obtain ⟨a, b, c⟩ := pcsP_yes h2
      have e := toList_inj c
      have := icP_back a
      rw [← e, b] at this
      rw [this] at h1
      exact h1.symm
theorem icP_text {n : Int} {s : ByteArray} (h : (icP n s).2 = true) : fcP (icP n s).1 = s := (toList_inj (icP_yes h).2.2).symm
theorem fim_sz {p : List Int} (hok : isPerm p) : (fimP p).size ≤ 80 := by
  rw [show fimP p = fisP p from if_pos hok]
  have := fis_sz p
  have := hok.1.2
  omega
end Go.Proofs.YtpffmolibjimgaaGreatDoor
end
/- Texts are corrupted: bytes written, cut away, set in. -/
section
namespace Go.Proofs.YtpffmolibjimgaaGreatDoor
open Go.Av
set_option linter.unusedSimpArgs false
set_option linter.unusedVariables false
attribute [local irreducible] AWP CallG Ob Br BrP Go.Av.Sub endQ AOps OpV AC thenA blkA opsVC opVC withA withArgs opsQ opQ CallQ withA2 withArgs2
theorem callPD {P : Program} {N : Cx} {H : Hp} {f : FuncId} {args : List AV} {k : IntKind} {d : Dc} {Q : AV → Prop} {K : AV → (Nat → Bool) → Hp → Prop} (hH : H 1000000 = some (.cells 3 (dF k d))) (hac : AC P f args (DH k d) pM (postD k Q)) (hQ : ∀ r, Q r → ∀ p, r.scrub p = r)
    (hK : ∀ r d', Q r → K r (fun _ => false) (H.upd 1000000 (.cells 3 (dF k d')))) : CallPP P N f args H K :=
  ⟨fun _ => false, fun B => callD hH hac hQ fun r d' hq => ⟨(Fr.scrub_none B).symm, hK r d' hq⟩⟩
/-- What a corrupted text is. -/
def corruptC : Prop := ∀ (d : Dc) (s t : ByteArray), s.size ≤ 900 → 1 ≤ t.size ∧ t.size ≤ 1000 → AC Tryz.prog 54 [.ref 1000000 0, .v (.string (s)), .v (.string (t))] (DH .i64 d) pM (postD .i64 fun r => ∃ w : ByteArray, w.size ≤ 1000 ∧ r = .v (.string (w)))
/-- The bytes of cells. -/
def toBs (n : Nat) (f : Nat → AV) : List Int := (List.range n).map fun i => match f i with
  | .v (.int .u8 k) => k
  | _ => 0
theorem toBs_len (n : Nat) (f : Nat → AV) : (toBs n f).length = n := by simp [toBs]
theorem toBs_eq {n : Nat} {f : Nat → AV} (h : ∀ i, i < n → isByte (f i)) : ∀ i, i < n → f i = cM u8v 0 (toBs n f) i := fun i hi => by
  obtain ⟨k, hk⟩ := h i hi
  simp [cM, toBs, List.getD_eq_getElem?_getD, hi, hk, u8v]
theorem byte_cM (xs : List Int) (i : Nat) : isByte (cM u8v 0 xs i) := ⟨_, rfl⟩
theorem byte_z (i : Nat) : isByte (zF [.int .u8 0] i) := ⟨0, by simp [zF, Nat.mod_one]⟩
theorem byte_apF {n : Nat} {f g : Nat → AV} (hf : ∀ i, i < n → isByte (f i)) (hg : ∀ i, isByte (g i)) (i : Nat) : isByte (apF n f g i) := by
  unfold apF
  split
  · exact hf i (by assumption)
  · exact hg _
theorem byte_setF {f : Nat → AV} {k : Nat} {x : AV} (hf : ∀ i, isByte (f i)) (hx : isByte x) (i : Nat) : isByte (setF f k x i) := by
  unfold setF
  split
  · exact hx
  · exact hf i
theorem mvB {N : Cx} {H : Hp} {k : IntKind} (e' : Nat) {A A' : Fr} {d : Dc} {n : Nat} {f : Nat → AV} (hA : ∀ i c, A'.get i = some c → ∃ a, A.get i = some a ∧ Lay (fun h => if h = 30 then some e' else some h) a c) (hd : H 1000000 = some (.cells 3 (dF k d))) (hH : H e' = some (.cells n f)) (hf : ∀ i, i < n → isByte (f i))
    (hpn : N.pn = pM) (he' : e' ≠ 1000000) : Sub N A H A' ((DH k d).upd 30 (.cells (toBs n f).length (cM u8v 0 (toBs n f)))) := by
  have := Sub.mvD 30 e' hA hd hH (toBs_eq hf) hpn (by omega) he' (fun _ => trivial)
  rwa [toBs_len]
theorem cor_back {N : Cx} {A : Fr} {H : Hp} {t : ByteArray} {S n : Int} {e' m' n' : Nat} {f : Nat → AV} {d : Dc} (h7 : A.get 7 = some (.own e' 0 1 m')) (h8 : A.get 8 = some (.v (.int .i64 (n - 1)))) (h0 : A.get 0 = some (.ref 1000000 0)) (h2 : A.get 2 = some (.v (.string (t)))) (hd : H 1000000 = some (.cells 3 (dF .i64 d))) (hH : H e' = some (.cells n' f))
    (hpn : N.pn = pM) (he' : e' ≠ 1000000) (hf : ∀ i, i < n' → isByte (f i)) (hm : m' ≤ n') (hn : 0 < n) (hS : (m' : Int) + n - 1 ≤ S + 2) : ∃ j : Nat × List Int × Dc × Int, (j.fst ≤ j.snd.fst.length ∧ 0 ≤ j.snd.snd.snd ∧ (j.fst : Int) + j.snd.snd.snd ≤ S + 2) ∧ j.snd.snd.snd.toNat < n.toNat ∧
      Av.Sub N A H [(7, .own 30 0 1 j.fst), (8, .v (.int .i64 (j.snd.snd.snd))), (0, .ref 1000000 0), (2, .v (.string (t)))] ((Hp.emp.upd 1000000 (.cells 3 (dF .i64 j.snd.snd.fst))).upd 30 (.cells j.snd.fst.length (cM u8v 0 j.snd.fst))) := by
  refine ⟨(m', toBs n' f, d, n - 1), ⟨by dsimp only; rw [toBs_len]; exact hm, by dsimp only; omega, by dsimp only; omega⟩, by dsimp only; omega, ?_⟩
  exact mvB e' (n := n') (f := f) (d := d) (lay_cons ⟨_, h7, .own (by simp)⟩ (lay_cons ⟨_, h8, .plain trivial⟩ (lay_cons ⟨_, h0, .ref rfl⟩ (lay_cons ⟨_, h2, .plain trivial⟩ lay_nil)))) hd hH hf hpn he'
theorem scU (p : Nat → Bool) (xs : List Int) : scF p (cM u8v 0 xs) = cM u8v 0 xs := rfl
set_option maxHeartbeats 4000000 in
theorem corrupt_ok : corruptC := by
  intro d s t hs ht
  refine ac_of_awp (N := ⟨_, pM, fun h hh => pM_low (Nat.lt_of_lt_of_le hh (by decide)), true⟩) Tryz.func54 rfl (by kernel_rfl) Tryz.ntmps54 (by simp) ?_
  simp only [argsFr, List.zipIdx_cons, List.zipIdx_nil, go_sem]
  unfold DH
  repeat' (first | ((first | refine atF (f := 71) ?_ | refine atQ (f := 71) ?_); (refine callD (by rfl) (sBelowP_ok _ _ (by omega)) (by rintro _ ⟨v, _, rfl⟩ _; rfl) (fun r d1 hq => ?_); obtain ⟨v1, hv1, rfl⟩ := hq) <;> simp (maxSteps := 1000000) (dsimp := false) (implicitDefEqProofs := false) (disch := omega) only [wrap64, go_sem]) | (refine awp_regionBK (id := 1) 144151472765928391 1 (by kernel_rfl) (by kernel_rfl) ?_; simp only [List.map_cons, List.map_nil, opsB_succ, opsB_0, cbVC]; simp (maxSteps := 1000000) (dsimp := false) (implicitDefEqProofs := false) (disch := omega) only [wrap64, go_sem]) | refine awp_seqK fun K hK => ?_ | (refine awp_regionK 144151472765928391 rfl ?_; simp only [List.map_cons, List.map_nil]; simp (maxSteps := 1000000) (dsimp := false) (implicitDefEqProofs := false) (disch := omega) only [wrap64, go_sem]) | (refine awp_regionQK 144151472765928391 (by kernel_rfl) (by kernel_rfl) (by kernel_rfl) ?_; simp only [List.map_cons, List.map_nil]; simp (maxSteps := 1000000) (dsimp := false) (implicitDefEqProofs := false) (disch := omega) only [wrap64, go_sem]) | refine awp_block ?_ | (refine awp_skip ?_; simp only [go_sem]) | (refine awp_exit ?_; simp only [go_sem]) | (refine awp_ret ?_; try simp only [go_sem]) | (refine awp_condP rfl ?_; try simp only [go_sem]) | (refine BrP.mk (fun h => ?_) (fun h => ?_) <;> try simp (dsimp := false) (disch := omega) only [wrap64]) | (refine Br.mk (fun h => ?_) (fun h => ?_) <;> try simp (dsimp := false) (disch := omega) only [wrap64]) | refine Ob.mk (by first | omega | (intro _ _; rfl) | trivial | (intros; trivial) | assumption | (intro i hi; have h0 : i = 0 := (by omega); subst h0; first | rfl | trivial) | (intro i hi; have h0 : i = 0 ∨ i = 1 := (by omega); rcases h0 with rfl | rfl <;> rfl) | (intro i hi; have h0 : i = 0 ∨ i = 1 ∨ i = 2 := (by omega); rcases h0 with rfl | rfl | rfl <;> rfl)) ?_ | apply_assumption -exfalso -symm)
  all_goals (first | (show endQ _ _ _ _ _ _ _; (repeat (rename (∀ (A : Fr) (H : Hp), AWP _ _ _ _ A H → _) => hK; clear hK)); (repeat (rename (Fr → Hp → Prop) => K; clear K))) | (show Exists _; (repeat (rename (∀ (A : Fr) (H : Hp), AWP _ _ _ _ A H → _) => hK; clear hK)); (repeat (rename (Fr → Hp → Prop) => K; clear K))) | skip)
  refine awp_loop (ι := Nat × List Int × Dc × Int) (fun z => [(7, .own 30 0 1 z.1), (8, .v (.int .i64 (z.2.2.2))), (0, .ref 1000000 0), (2, .v (.string (t)))]) (fun z => (DH .i64 z.2.2.1).upd 30 (.cells z.2.1.length (cM u8v 0 z.2.1))) (fun z => z.1 ≤ z.2.1.length ∧ (0 ≤ z.2.2.2 ∧ z.1 + z.2.2.2 ≤ s.size + 2)) (fun z => z.2.2.2.toNat) (s.size, toBs s.size (byF s), d1, v1) ⟨by rw [toBs_len]; exact Nat.le_refl _, by dsimp only; omega⟩ (mvB 11 (n := s.size) (f := byF s) (d := d1) (lay_cons ⟨_, rfl, .own rfl⟩ (lay_cons ⟨_, rfl, .plain trivial⟩ (lay_cons ⟨_, rfl, .ref rfl⟩ (lay_cons ⟨_, rfl, .plain trivial⟩ lay_nil)))) rfl rfl (fun i _ => byF_byte s i) rfl (by omega)) ?_
  rintro ⟨m, xs, d2, n⟩ ⟨hm, hn⟩
  dsimp only at hm hn ⊢
  unfold DH
  have e1 : ∀ k : Nat, k ≤ m → k ≤ xs.length := fun k hk => by omega
  repeat' (first | (refine Ob.mk (fun i _ => byte_cM _ _) ?_) | ((first | refine atF (f := 71) ?_ | refine atQ (f := 71) ?_); (refine callD (by rfl) (sBelowP_ok _ _ (by omega)) (by rintro _ ⟨v, _, rfl⟩ _; rfl) (fun r d3 hq => ?_); obtain ⟨v3, hv3, rfl⟩ := hq) <;> simp (maxSteps := 1000000) (dsimp := false) (implicitDefEqProofs := false) (disch := omega) only [wrap64, go_sem, e1, scU, Nat.sub_zero, hm]) | (refine atP (f := 71) ?_; (refine callPD (by first | rfl | (simp (disch := omega) only [go_sem, add_lit, Nat.reduceEqDiff, ↓reduceIte])) (sBelowP_ok _ _ (by omega)) (by rintro _ ⟨v, _, rfl⟩ _; rfl) (fun r d4 hq => ?_); obtain ⟨v4, hv4, rfl⟩ := hq) <;> simp (maxSteps := 1000000) (dsimp := false) (implicitDefEqProofs := false) (disch := omega) only [wrap64, go_sem, e1, scU, Nat.sub_zero, hm]) | (refine awp_regionT2K (id := 14) 144151472765928391 [1,2,3,5,6,7,8,13,14,15] [0,4,9,10,11,12,16,17] [60,61,62,64,65,66,67,72,73,74,7,9,2,0] (.cons 0 (.cons 4 (.cons 9 (.cons 10 (.cons 11 (.cons 12 (.cons 16 (.cons 17 .nil .nil) .nil) .nil) .nil) .nil) .nil) (.cons 9 (.cons 4 (.cons 10 (.cons 11 (.cons 12 (.cons 16 (.cons 17 .nil .nil) .nil) .nil) .nil) .nil) (.cons 10 (.cons 4 (.cons 11 (.cons 12 (.cons 16 (.cons 17 .nil .nil) .nil) .nil) .nil) (.cons 11 (.cons 4 (.cons 12 (.cons 16 (.cons 17 .nil .nil) .nil) .nil) .nil) .nil)) .nil)) .nil)) (.cons 9 (.cons 0 (.cons 4 (.cons 10 (.cons 11 (.cons 12 (.cons 16 (.cons 17 .nil .nil) .nil) .nil) .nil) .nil) (.cons 10 (.cons 4 (.cons 11 (.cons 12 (.cons 16 (.cons 17 .nil .nil) .nil) .nil) .nil) (.cons 11 (.cons 4 (.cons 12 (.cons 16 (.cons 17 .nil .nil) .nil) .nil) .nil) .nil)) .nil)) (.cons 10 (.cons 0 (.cons 4 (.cons 11 (.cons 12 (.cons 16 (.cons 17 .nil .nil) .nil) .nil) .nil) (.cons 11 (.cons 4 (.cons 12 (.cons 16 (.cons 17 .nil .nil) .nil) .nil) .nil) .nil)) (.cons 11 (.cons 0 (.cons 4 (.cons 12 (.cons 16 (.cons 17 .nil .nil) .nil) .nil) .nil) .nil) .nil)) .nil)) .nil)) (by kernel_rfl) (by kernel_rfl) (by kernel_rfl) ?_; simp only [List.map_cons, List.map_nil, List.take_succ_cons, List.take_zero, List.drop_succ_cons, List.drop_zero, List.cons_append, List.nil_append, opsT2, pickL, trVC_cons, trVC_nil, trVC_end, List.getElem?_cons_succ, List.getElem?_cons_zero, gx2VC, gxVC]; simp (maxSteps := 1000000) (dsimp := false) (implicitDefEqProofs := false) (disch := omega) only [wrap64, go_sem, e1, scU, Nat.sub_zero, hm]) | refine Ob.mk (AllH.mk fun _ => ?_) ?_ | exact True.intro | refine Bth.mk ?_ ?_ | (refine awp_regionT2K (id := 12) 144151472765928391 [1,2,3,5,6,7,8] [0,4,9,10] [48,49,50,52,53,54,55,7,9] (.cons 0 (.cons 4 (.cons 9 (.cons 10 .nil .nil) .nil) .nil) .nil) (by kernel_rfl) (by kernel_rfl) (by kernel_rfl) ?_; simp only [List.map_cons, List.map_nil, List.take_succ_cons, List.take_zero, List.drop_succ_cons, List.drop_zero, List.cons_append, List.nil_append, opsT2, pickL, trVC_cons, trVC_nil, trVC_end, List.getElem?_cons_succ, List.getElem?_cons_zero, gx2VC, gxVC]; simp (maxSteps := 1000000) (dsimp := false) (implicitDefEqProofs := false) (disch := omega) only [wrap64, go_sem, e1, scU, Nat.sub_zero, hm]) | refine Ob.mk (AllH.mk fun _ => ?_) ?_ | exact True.intro | refine Bth.mk ?_ ?_ | refine awp_seqK fun K hK => ?_ | (refine awp_regionK 144151472765928391 rfl ?_; simp only [List.map_cons, List.map_nil]; simp (maxSteps := 1000000) (dsimp := false) (implicitDefEqProofs := false) (disch := omega) only [wrap64, go_sem, e1, scU, Nat.sub_zero, hm]) | (refine awp_regionQK 144151472765928391 (by kernel_rfl) (by kernel_rfl) (by kernel_rfl) ?_; simp only [List.map_cons, List.map_nil]; simp (maxSteps := 1000000) (dsimp := false) (implicitDefEqProofs := false) (disch := omega) only [wrap64, go_sem, e1, scU, Nat.sub_zero, hm]) | refine awp_block ?_ | (refine awp_skip ?_; simp only [go_sem, e1, scU, Nat.sub_zero, hm]) | (refine awp_exit ?_; simp only [go_sem, e1, scU, Nat.sub_zero, hm]) | (refine awp_ret ?_; try simp only [go_sem, e1, scU, Nat.sub_zero, hm]) | (refine awp_condP rfl ?_; try simp only [go_sem, e1, scU, Nat.sub_zero, hm]) | (refine BrP.mk (fun h => ?_) (fun h => ?_) <;> try simp (dsimp := false) (disch := omega) only [wrap64]) | (refine Br.mk (fun h => ?_) (fun h => ?_) <;> try simp (dsimp := false) (disch := omega) only [wrap64]) | refine Ob.mk (by first | omega | (intro _ _; rfl) | trivial | (intros; trivial) | assumption | (intro i hi; have h0 : i = 0 := (by omega); subst h0; first | rfl | trivial) | (intro i hi; have h0 : i = 0 ∨ i = 1 := (by omega); rcases h0 with rfl | rfl <;> rfl) | (intro i hi; have h0 : i = 0 ∨ i = 1 ∨ i = 2 := (by omega); rcases h0 with rfl | rfl | rfl <;> rfl)) ?_ | apply_assumption -exfalso -symm)
  all_goals (first | (show endQ _ _ _ _ _ _ _; (repeat (rename (∀ (A : Fr) (H : Hp), AWP _ _ _ _ A H → _) => hK; clear hK)); (repeat (rename (Fr → Hp → Prop) => K; clear K))) | (show Exists _; (repeat (rename (∀ (A : Fr) (H : Hp), AWP _ _ _ _ A H → _) => hK; clear hK)); (repeat (rename (Fr → Hp → Prop) => K; clear K))) | skip)
  all_goals first
    | omega
    | exact end_DF (D := fun x => x ≠ 1000000) rfl rfl rfl (.refl _) (by simp) ⟨_, by show (Array.size _ : Nat) ≤ 1000; simp; omega, rfl⟩
    | exact cor_back rfl rfl rfl rfl rfl rfl rfl (by decide) (fun i hi => by (repeat' (first | exact byte_cM _ _ | exact byte_z _ | exact ⟨_, rfl⟩ | refine byte_setF (fun _ => ?_) ?_ _ | refine byte_apF (fun _ h0 => absurd h0 (Nat.not_lt_zero _)) (fun _ => ?_) _ | refine byte_apF (fun _ _ => ?_) (fun _ => ?_) _))) (by omega) (by omega) (by omega)
end Go.Proofs.YtpffmolibjimgaaGreatDoor
end
/- The draws of cycles' texts. -/
section
namespace Go.Proofs.YtpffmolibjimgaaGreatDoor
open Go.Av
set_option linter.unusedSimpArgs false
set_option linter.unusedVariables false
attribute [local irreducible] AWP CallG Ob Br BrP Go.Av.Sub endQ AOps OpV AC thenA blkA opsVC opVC withA withArgs opsQ opQ CallQ withA2 withArgs2
theorem drawDegree_ok (d : Dc) : AC Tryz.prog 38 [.ref 1000000 0] (DH .i64 d) pM (postD .i64 fun r => ∃ v : Int, (1 ≤ v ∧ v ≤ 20) ∧ r = .v (.int .i64 (v))) := by
  refine ac_of_awp (N := ⟨_, pM, fun h hh => pM_low (Nat.lt_of_lt_of_le hh (by decide)), true⟩) Tryz.func38 rfl (by kernel_rfl) Tryz.ntmps38 (by simp) ?_
  simp only [argsFr, List.zipIdx_cons, List.zipIdx_nil, go_sem]
  unfold DH
  repeat' (first | ((first | refine atF (f := 52) ?_ | refine atQ (f := 52) ?_); (refine callD (by rfl) (oneIn_ok _ _ (by omega)) (by rintro _ ⟨v, _, rfl⟩ _; rfl) (fun r d2 hq => ?_); obtain ⟨v2, hv2, rfl⟩ := hq) <;> simp (maxSteps := 1000000) (dsimp := false) (implicitDefEqProofs := false) (disch := omega) only [wrap64, go_sem]) | ((first | refine atF (f := 72) ?_ | refine atQ (f := 72) ?_); (refine callD (by rfl) (between_ok _ _ _ (by omega)) (by rintro _ ⟨v, _, rfl⟩ _; rfl) (fun r d3 hq => ?_); obtain ⟨v3, hv3, rfl⟩ := hq) <;> simp (maxSteps := 1000000) (dsimp := false) (implicitDefEqProofs := false) (disch := omega) only [wrap64, go_sem]) | refine awp_seqK fun K hK => ?_ | (refine awp_regionK 21 rfl ?_; simp only [List.map_cons, List.map_nil]; simp (maxSteps := 1000000) (dsimp := false) (implicitDefEqProofs := false) (disch := omega) only [wrap64, go_sem]) | (refine awp_regionQK 21 (by kernel_rfl) (by kernel_rfl) (by kernel_rfl) ?_; simp only [List.map_cons, List.map_nil]; simp (maxSteps := 1000000) (dsimp := false) (implicitDefEqProofs := false) (disch := omega) only [wrap64, go_sem]) | refine awp_block ?_ | (refine awp_skip ?_; simp only [go_sem]) | (refine awp_exit ?_; simp only [go_sem]) | (refine awp_ret ?_; try simp only [go_sem]) | (refine awp_condP rfl ?_; try simp only [go_sem]) | (refine BrP.mk (fun h => ?_) (fun h => ?_) <;> try simp (dsimp := false) (disch := omega) only [wrap64]) | (refine Br.mk (fun h => ?_) (fun h => ?_) <;> try simp (dsimp := false) (disch := omega) only [wrap64]) | refine Ob.mk (by first | omega | (intro _ _; rfl) | trivial | (intros; trivial) | assumption | (intro i hi; have h0 : i = 0 := (by omega); subst h0; first | rfl | trivial) | (intro i hi; have h0 : i = 0 ∨ i = 1 := (by omega); rcases h0 with rfl | rfl <;> rfl) | (intro i hi; have h0 : i = 0 ∨ i = 1 ∨ i = 2 := (by omega); rcases h0 with rfl | rfl | rfl <;> rfl)) ?_ | apply_assumption -exfalso -symm)
  all_goals (first | (show endQ _ _ _ _ _ _ _; (repeat (rename (∀ (A : Fr) (H : Hp), AWP _ _ _ _ A H → _) => hK; clear hK)); (repeat (rename (Fr → Hp → Prop) => K; clear K))) | (show Exists _; (repeat (rename (∀ (A : Fr) (H : Hp), AWP _ _ _ _ A H → _) => hK; clear hK)); (repeat (rename (Fr → Hp → Prop) => K; clear K))) | skip)
  all_goals first
    | omega
    | exact end_post rfl rfl (Hp.le_refl _) ⟨_, ⟨_, by omega, rfl⟩, rfl⟩
theorem drawFormat_ok (xs : List Int) (hx : ∀ j, 0 ≤ xs.getD j 0 ∧ xs.getD j 0 ≤ 255) (hl : xs.length ≤ 4096) : AC Tryz.prog 12 [bts xs] Hp.emp (fun _ => false) (postX fun r => ∃ w : List Int, w.length ≤ 21 ∧ r = ints w) := by
  refine ac_of_awp (N := ⟨_, fun _ => false, fun _ _ => rfl, true⟩) Tryz.func12 rfl (by kernel_rfl) Tryz.ntmps12 (by simp) ?_
  simp only [argsFr, List.zipIdx_cons, List.zipIdx_nil, go_sem]
  repeat' (first | ((first | refine atF (f := 36) ?_ | refine atQ (f := 36) ?_); (refine callRoll (newSource_ok xs hx hl) rfl (fun d0 => ?_)) <;> simp (maxSteps := 1000000) (dsimp := false) (implicitDefEqProofs := false) (disch := omega) only [wrap64, go_sem]) | ((first | refine atF (f := 38) ?_ | refine atQ (f := 38) ?_); (refine callD (by rfl) (drawDegree_ok _) (by rintro _ ⟨v, _, rfl⟩ _; rfl) (fun r d2 hq => ?_); obtain ⟨v2, hv2, rfl⟩ := hq) <;> simp (maxSteps := 1000000) (dsimp := false) (implicitDefEqProofs := false) (disch := omega) only [wrap64, go_sem]) | ((first | refine atF (f := 37) ?_ | refine atQ (f := 37) ?_); (refine callD (by rfl) (drawAnyPerm_ok _ _ (by omega)) (by rintro _ ⟨v, _, rfl⟩ _; rfl) (fun r d3 hq => ?_); obtain ⟨w, hw, rfl⟩ := hq) <;> simp (maxSteps := 1000000) (dsimp := false) (implicitDefEqProofs := false) (disch := omega) only [wrap64, go_sem]) | refine awp_seqK fun K hK => ?_ | (refine awp_regionK 13 rfl ?_; simp only [List.map_cons, List.map_nil]; simp (maxSteps := 1000000) (dsimp := false) (implicitDefEqProofs := false) (disch := omega) only [wrap64, go_sem]) | (refine awp_regionQK 13 (by kernel_rfl) (by kernel_rfl) (by kernel_rfl) ?_; simp only [List.map_cons, List.map_nil]; simp (maxSteps := 1000000) (dsimp := false) (implicitDefEqProofs := false) (disch := omega) only [wrap64, go_sem]) | refine awp_block ?_ | (refine awp_skip ?_; simp only [go_sem]) | (refine awp_exit ?_; simp only [go_sem]) | (refine awp_ret ?_; try simp only [go_sem]) | (refine awp_condP rfl ?_; try simp only [go_sem]) | (refine BrP.mk (fun h => ?_) (fun h => ?_) <;> try simp (dsimp := false) (disch := omega) only [wrap64]) | (refine Br.mk (fun h => ?_) (fun h => ?_) <;> try simp (dsimp := false) (disch := omega) only [wrap64]) | refine Ob.mk (by first | omega | (intro _ _; rfl) | trivial | (intros; trivial) | assumption | (intro i hi; have h0 : i = 0 := (by omega); subst h0; first | rfl | trivial) | (intro i hi; have h0 : i = 0 ∨ i = 1 := (by omega); rcases h0 with rfl | rfl <;> rfl) | (intro i hi; have h0 : i = 0 ∨ i = 1 ∨ i = 2 := (by omega); rcases h0 with rfl | rfl | rfl <;> rfl)) ?_ | apply_assumption -exfalso -symm)
  all_goals (first | (show endQ _ _ _ _ _ _ _; (repeat (rename (∀ (A : Fr) (H : Hp), AWP _ _ _ _ A H → _) => hK; clear hK)); (repeat (rename (Fr → Hp → Prop) => K; clear K))) | (show Exists _; (repeat (rename (∀ (A : Fr) (H : Hp), AWP _ _ _ _ A H → _) => hK; clear hK)); (repeat (rename (Fr → Hp → Prop) => K; clear K))) | skip)
  all_goals first
    | omega
    | exact end_X rfl rfl (.refl _) ⟨_, hw.1, rfl⟩
theorem fcP_small (p : List Int) : (fcP p).size ≤ 100 := by
  by_cases h : isPerm p
  · exact (fcP_sz h).2
  · rw [show fcP p = ⟨#[]⟩ from if_neg h]; decide
theorem drawParse_ok (xs : List Int) (hx : ∀ j, 0 ≤ xs.getD j 0 ∧ xs.getD j 0 ≤ 255) (hl : xs.length ≤ 4096) : AC Tryz.prog 20 [bts xs] Hp.emp (fun _ => false) (postX fun r => ∃ q : Int × ByteArray, (r64 q.1 ∧ q.2.size ≤ 1000) ∧ r = .tup 2 (vecF [.v (.int .i64 (q.1)), .v (.string (q.2))])) := by
  refine ac_of_awp (N := ⟨_, fun _ => false, fun _ _ => rfl, true⟩) Tryz.func20 rfl (by kernel_rfl) Tryz.ntmps20 (by simp) ?_
  simp only [argsFr, List.zipIdx_cons, List.zipIdx_nil, go_sem]
  repeat' (first | ((first | refine atF (f := 36) ?_ | refine atQ (f := 36) ?_); (refine callRoll (newSource_ok xs hx hl) rfl (fun d0 => ?_)) <;> simp (maxSteps := 1000000) (dsimp := false) (implicitDefEqProofs := false) (disch := omega) only [wrap64, go_sem]) | ((first | refine atF (f := 38) ?_ | refine atQ (f := 38) ?_); (refine callD (by rfl) (drawDegree_ok _) (by rintro _ ⟨v, _, rfl⟩ _; rfl) (fun r d2 hq => ?_); obtain ⟨v2, hv2, rfl⟩ := hq) <;> simp (maxSteps := 1000000) (dsimp := false) (implicitDefEqProofs := false) (disch := omega) only [wrap64, go_sem]) | ((first | refine atF (f := 37) ?_ | refine atQ (f := 37) ?_); (refine callD (by rfl) (drawAnyPerm_ok _ _ (by omega)) (by rintro _ ⟨v, _, rfl⟩ _; rfl) (fun r d3 hq => ?_); obtain ⟨w, hw, rfl⟩ := hq) <;> simp (maxSteps := 1000000) (dsimp := false) (implicitDefEqProofs := false) (disch := omega) only [wrap64, go_sem]) | ((first | refine atF (f := 52) ?_ | refine atQ (f := 52) ?_); (refine callD (by rfl) (oneIn_ok _ _ (by omega)) (by rintro _ ⟨v, _, rfl⟩ _; rfl) (fun r d4 hq => ?_); obtain ⟨v4, hv4, rfl⟩ := hq) <;> simp (maxSteps := 1000000) (dsimp := false) (implicitDefEqProofs := false) (disch := omega) only [wrap64, go_sem]) | ((first | refine atF (f := 53) ?_ | refine atQ (f := 53) ?_); (refine callD (by rfl) (numberUpTo_ok _ _ (by omega)) (by rintro _ ⟨v, _, rfl⟩ _; rfl) (fun r d5 hq => ?_); obtain ⟨v5, hv5, rfl⟩ := hq) <;> simp (maxSteps := 1000000) (dsimp := false) (implicitDefEqProofs := false) (disch := omega) only [wrap64, go_sem]) | ((first | refine atF (f := 54) ?_ | refine atQ (f := 54) ?_); (refine callD (by rfl) (corrupt_ok _ _ _ (by have := fcP_small w; omega) (by decide)) (by rintro _ ⟨v, _, rfl⟩ _; rfl) (fun r d6 hq => ?_); obtain ⟨t6, ht6, rfl⟩ := hq) <;> simp (maxSteps := 1000000) (dsimp := false) (implicitDefEqProofs := false) (disch := omega) only [wrap64, go_sem]) | refine awp_seqK fun K hK => ?_ | (refine awp_regionK 1114237 rfl ?_; simp only [List.map_cons, List.map_nil]; simp (maxSteps := 1000000) (dsimp := false) (implicitDefEqProofs := false) (disch := omega) only [wrap64, go_sem]) | (refine awp_regionQK 1114237 (by kernel_rfl) (by kernel_rfl) (by kernel_rfl) ?_; simp only [List.map_cons, List.map_nil]; simp (maxSteps := 1000000) (dsimp := false) (implicitDefEqProofs := false) (disch := omega) only [wrap64, go_sem]) | refine awp_block ?_ | (refine awp_skip ?_; simp only [go_sem]) | (refine awp_exit ?_; simp only [go_sem]) | (refine awp_ret ?_; try simp only [go_sem]) | (refine awp_condP rfl ?_; try simp only [go_sem]) | (refine BrP.mk (fun h => ?_) (fun h => ?_) <;> try simp (dsimp := false) (disch := omega) only [wrap64]) | (refine Br.mk (fun h => ?_) (fun h => ?_) <;> try simp (dsimp := false) (disch := omega) only [wrap64]) | refine Ob.mk (by first | omega | (intro _ _; rfl) | trivial | (intros; trivial) | assumption | (intro i hi; have h0 : i = 0 := (by omega); subst h0; first | rfl | trivial) | (intro i hi; have h0 : i = 0 ∨ i = 1 := (by omega); rcases h0 with rfl | rfl <;> rfl) | (intro i hi; have h0 : i = 0 ∨ i = 1 ∨ i = 2 := (by omega); rcases h0 with rfl | rfl | rfl <;> rfl)) ?_ | ((first | ((first | refine atF (f := 15) ?_ | refine atQ (f := 15) ?_); (first | (refine cV (hac := formatCycles_ok w) (hK := ?_)) | (refine cQV (hac := formatCycles_ok w) (hK := ?_))))); simp (maxSteps := 1000000) (dsimp := false) (implicitDefEqProofs := false) (disch := omega) only [wrap64, go_sem]) | apply_assumption -exfalso -symm)
  all_goals (first | (show endQ _ _ _ _ _ _ _; (repeat (rename (∀ (A : Fr) (H : Hp), AWP _ _ _ _ A H → _) => hK; clear hK)); (repeat (rename (Fr → Hp → Prop) => K; clear K))) | (show Exists _; (repeat (rename (∀ (A : Fr) (H : Hp), AWP _ _ _ _ A H → _) => hK; clear hK)); (repeat (rename (Fr → Hp → Prop) => K; clear K))) | skip)
  all_goals first
    | omega
    | exact end_X2 rfl (by decide) rfl rfl (.refl _) (.refl _) ⟨(_, _), ⟨by dsimp only; first | assumption | (unfold r64; omega), by dsimp only; first | assumption | exact Nat.le_trans (fcP_small _) (by decide)⟩, rfl⟩
end Go.Proofs.YtpffmolibjimgaaGreatDoor
end

import Derived.Test.YticbabpajligbaaDoorM23
import Derived.Test.YticbabpajligbaaDoorM28
import Derived.Test.YticbabpajligbaaDoorM30
/- Texts of words read back (facts, no walk). -/
section
namespace Go.Proofs.YticbabpajligbaaDoor
open Go.Av
set_option linter.unusedSimpArgs false
set_option linter.unusedVariables false
attribute [local irreducible] AWP CallG Ob Br BrP Go.Av.Sub endQ AOps OpV AC thenA blkA opsVC opVC withA withArgs opsQ opQ CallQ withA2 withArgs2
open Go.Nt (Nd nd0 kd ndOk sz isNt jn kdT allT rtN NmD nmOk pSeq bt li ex tkN tkX tkW tkOk treeW treeN ndW up bas ndT inT)
open Go.Wd (tks Tk)
/-- The text of a tree is read as that tree. -/
theorem par_of {xs : List Nd} (hv : isNt 2 xs) (hs : (allT fmS nmAB xs).size ≤ 400) : parP nmAB (allT fmS nmAB xs) = (xs, -1) := by
  have hv2 : isNt nmAB.size xs := hv
  by_cases hk : kd xs (xs.length - 1) = []
  · obtain ⟨e1, e2⟩ := root_one hv2 hk
    rw [e2, e1]
    unfold parP
    rw [if_neg (by rintro (h | h); exact h ab_nm; exact absurd h (by decide))]; exact if_pos rfl
  · have hp := fun f hfu => Go.Nt.par_tree (xs := xs) fmS_ok ab_d hv2 hk f hfu
    have hz : (allT fmS nmAB xs).size ≠ 0 := fun hz => by
      have h2 := hp 2 (by omega)
      rw [ba_empty hz] at h2
      exact p_none _ _ _ h2
    unfold parP
    rw [if_neg (by rintro (h | h); exact h ab_nm; omega), if_neg hz, hp _ (Nat.le_refl _)]
    dsimp only
    rw [if_neg (by omega)]
    have hx := hv.2.1
    rw [if_neg (by rw [List.length_take]; omega)]
    rw [← Go.Nt.root_eq hv2]
theorem pw_of {xs : List Nd} {w : List Int} (hv : isNt 2 xs) (hs : (allT fmS nmAB xs).size ≤ 400) (hx : ex xs (xs.length - 1) = some w) : pwP nmAB (allT fmS nmAB xs) = (w, true) := by
  unfold pwP
  rw [par_of hv hs, if_pos rfl]
  show expaP xs = _
  unfold expaP
  rw [if_pos (Go.Nt.isNt_mono hv (by decide))]
  unfold exP
  rw [hx]
theorem tkT_X (names : ByteArray) (x : Int) (n : Nat) : tkT names x n = tkX fmS names (x, n) := by
  have e1 : inT names (tkN (x, n)) [] = names.extract (max x (0 - x) - 1).toNat (max x (0 - x)).toNat := by
    show names.extract (max x (0 - x) - 1).toNat (max x (0 - x) - 1 + 1).toNat = _
    rw [show max x (0 - x) - 1 + 1 = max x (0 - x) by omega]
  have e2 : (tkN (x, n)).count = (n : Int) := rfl
  have e3 : (tkN (x, n)).inv = if x < 0 then 1 else 0 := rfl
  have hn : (1 : Int) < (n : Int) ↔ 1 < n := by omega
  unfold tkX ndT tkT
  rw [e1, e2, e3, Int.toNat_natCast]
  by_cases hx : x < 0 <;> by_cases h1 : 1 < n <;> simp [hx, h1, hn]
theorem fw_text {w : List Int} (hw : isW 2 w) : fwP nmAB w = jn ((tks w).map (tkX fmS nmAB)) := by
  have e : (nmAB.size : Int) = 2 := rfl
  rw [fwP_yes ab_nm (by rw [e]; exact hw)]
  congr 1
  refine List.map_congr_left fun p _ => tkT_X _ _ _
theorem isW_tk {w : List Int} (hw : isW 2 w) : ∀ p ∈ tks w, tkOk nmAB.size p := by
  refine Go.Nt.tk_all (m := nmAB.size) (fun j hj => ?_) _ 0 (Go.Wd.tks_tk w)
  have := hw.2 j hj
  unfold isL at this
  have e : nmAB.size = 2 := rfl
  rw [e]; omega
theorem tks_len (w : List Int) : (tks w).length ≤ w.length := by
  have := tk_len _ _ (Go.Wd.tks_tk w)
  omega
theorem tks_word (w : List Int) : ((tks w).map tkW).flatten = w := Go.Nt.tk_flat _ 0 (Go.Wd.tks_tk w)
theorem jn_sum {ts : List (Int × Nat)} : (jn (ts.map (tkX fmS nmAB))).size ≤ 13 * ts.length := by
  have h := jnS_small (ws := ts.map (tkX fmS nmAB)) (fun j => by
    by_cases hj : j < ts.length
    · have e : (ts.map (tkX fmS nmAB)).getD j ByteArray.empty = tkT nmAB (ts.getD j (0, 0)).1 (ts.getD j (0, 0)).2 := by
        rw [tkT_X]; simp [List.getD_eq_getElem?_getD, hj]
      rw [e]; exact tkT_size nmAB ab8.2 _ _
    · rw [List.getD_eq_getElem?_getD, List.getElem?_eq_none (by rw [List.length_map]; omega)]; exact Nat.zero_le _) (ts.map (tkX fmS nmAB)).length
  rw [List.length_map] at h
  show (Go.Nt.jnS _ _ (ts.map (tkX fmS nmAB)).length).size ≤ _
  rw [List.length_map]; exact h
theorem fw_size {w : List Int} (hw : isW 2 w) : (fwP nmAB w).size ≤ 13 * w.length := by
  rw [fw_text hw]
  have := jn_sum (ts := tks w)
  have := tks_len w
  omega
theorem tks_ne {w : List Int} (h : w ≠ []) : tks w ≠ [] := fun e => h (by
  have := tks_word w
  rw [e] at this
  exact this.symm)
section
variable {a b : List Int}
theorem pw_node {x : Nd} {w : List Int} (ha : isW 2 a) (hb : isW 2 b) (hal : a.length ≤ 8) (hbl : b.length ≤ 8) (hk : x.kids = up 0 (tks a ++ tks b).length) (hx : ndOk nmAB.size x false) (hw : ndW x ((tks a).map tkW ++ (tks b).map tkW) = some w) (hs : (ndT fmS nmAB x ((tks a).map (tkX fmS nmAB) ++ (tks b).map (tkX fmS nmAB))).size ≤ 400) :
    pwP nmAB (ndT fmS nmAB x ((tks a).map (tkX fmS nmAB) ++ (tks b).map (tkX fmS nmAB))) = (w, true) := by
  have hta := tks_len a
  have htb := tks_len b
  obtain ⟨h1, h2, h3⟩ := Go.Nt.treeN_ok (fm := fmS) (ts := tks a ++ tks b) (x := x) ab8 (fun p hp => (List.mem_append.1 hp).elim (isW_tk ha p) (isW_tk hb p)) (by rw [List.length_append]; omega) hx hk
  rw [List.map_append] at h2 h3
  rw [← h2]
  exact pw_of h1 (by rw [h2]; exact hs) (h3 w hw)
def ndX (k : Int) (a b : List Int) : Nd := ⟨k, 0, 1, 0, ((tks a).length : Int), up 0 (tks a ++ tks b).length⟩
theorem ndX_ok {k : Int} (hk : k = 3 ∨ k = 4) (ha : a ≠ []) (hb : b ≠ []) : ndOk nmAB.size (ndX k a b) false := by
  have h1 := List.length_pos_iff.2 (tks_ne ha)
  have h2 := List.length_pos_iff.2 (tks_ne hb)
  refine ⟨⟨by show (1 : Int) ≤ 1; decide, by show (1 : Int) ≤ 99; decide⟩, ⟨by show (0 : Int) ≤ 0; decide, by show (0 : Int) ≤ 1; decide⟩, .inr ⟨rfl, .inr (.inr ⟨hk, rfl, ?_, ?_⟩)⟩⟩
  · show (1 : Int) ≤ ((tks a).length : Int); omega
  · show ((tks a).length : Int) ≤ ((up 0 (tks a ++ tks b).length).length : Int) - 1
    rw [Go.Nt.up_len, List.length_append]; omega
theorem take_l {α : Type} (u v : List α) : (u ++ v).take u.length = u := by simp
theorem drop_l {α : Type} (u v : List α) : (u ++ v).drop u.length = v := by simp
theorem ndX_text {k : Int} (hk : k = 3 ∨ k = 4) (ha : isW 2 a) (hb : isW 2 b) : ndT fmS nmAB (ndX k a b) ((tks a).map (tkX fmS nmAB) ++ (tks b).map (tkX fmS nmAB)) = (⟨#[91]⟩ : ByteArray) ++ fwP nmAB a ++ (if k = 3 then ⟨#[44]⟩ else ⟨#[58]⟩) ++ fwP nmAB b ++ ⟨#[93]⟩ := by
  have e1 : (ndX k a b).split.toNat = ((tks a).map (tkX fmS nmAB)).length := by rw [List.length_map]; exact Int.toNat_natCast _
  have e2 : (ndX k a b).kind = k := rfl
  have e3 : (ndX k a b).count = 1 := rfl
  have e4 : (ndX k a b).inv = 0 := rfl
  unfold ndT inT
  rw [e1, take_l, drop_l, e2, e3, e4, ← fw_text ha, ← fw_text hb, if_neg (by decide), if_neg (by decide)]
  rcases hk with rfl | rfl <;> rfl
theorem ndX_word {k : Int} (hk : k = 3 ∨ k = 4) (hal : a.length ≤ 8) (hbl : b.length ≤ 8) : ndW (ndX k a b) ((tks a).map tkW ++ (tks b).map tkW) = some (a ++ b ++ inv a ++ (if k = 3 then inv b else [])) := by
  have e1 : (ndX k a b).split.toNat = ((tks a).map tkW).length := by rw [List.length_map]; exact Int.toNat_natCast _
  have e2 : (ndX k a b).kind = k := rfl
  have eb : bas (ndX k a b) a b = a ++ b ++ inv a ++ (if k = 3 then inv b else []) := by
    unfold bas
    rw [e2, if_neg (by omega), if_pos hk, List.nil_append]; rfl
  have hl := Go.Nt.bas_len (ndX k a b) a b
  unfold ndW
  rw [e1, take_l, drop_l, tks_word, tks_word, if_neg (by show ¬ 200 < _ * 1; omega), if_neg (by show ¬ (0 : Int) = 1; decide), eb]
  show some (Go.Nt.repW _ 1) = _
  simp [Go.Nt.repW]
theorem pw_ndX {k : Int} (hk : k = 3 ∨ k = 4) (ha : isW 2 a) (hb : isW 2 b) (ha0 : a ≠ []) (hb0 : b ≠ []) (hal : a.length ≤ 8) (hbl : b.length ≤ 8) : pwP nmAB ((⟨#[91]⟩ : ByteArray) ++ fwP nmAB a ++ (if k = 3 then ⟨#[44]⟩ else ⟨#[58]⟩) ++ fwP nmAB b ++ ⟨#[93]⟩) = (a ++ b ++ inv a ++ (if k = 3 then inv b else []), true) := by
  rw [← ndX_text hk ha hb]
  refine pw_node ha hb hal hbl rfl (ndX_ok hk ha0 hb0) (ndX_word hk hal hbl) ?_
  rw [ndX_text hk ha hb]
  have e1 : ∀ c : UInt8, (⟨#[c]⟩ : ByteArray).size = 1 := fun _ => rfl
  have := fw_size ha
  have := fw_size hb
  rcases hk with rfl | rfl <;> simp only [ByteArray.size_append, e1, if_pos, if_neg, show ¬ (4 : Int) = 3 by decide, if_false, if_true] <;> omega
theorem pw_comm (ha : isW 2 a) (hb : isW 2 b) (ha0 : a ≠ []) (hb0 : b ≠ []) (hal : a.length ≤ 8) (hbl : b.length ≤ 8) : pwP nmAB ((⟨#[91]⟩ : ByteArray) ++ fwP nmAB a ++ ⟨#[44]⟩ ++ fwP nmAB b ++ ⟨#[93]⟩) = (a ++ b ++ inv a ++ inv b, true) := by
  have := pw_ndX (k := 3) (.inl rfl) ha hb ha0 hb0 hal hbl
  rw [if_pos rfl, if_pos rfl] at this
  exact this
theorem pw_conj (ha : isW 2 a) (hb : isW 2 b) (ha0 : a ≠ []) (hb0 : b ≠ []) (hal : a.length ≤ 8) (hbl : b.length ≤ 8) : pwP nmAB ((⟨#[91]⟩ : ByteArray) ++ fwP nmAB a ++ ⟨#[58]⟩ ++ fwP nmAB b ++ ⟨#[93]⟩) = (a ++ b ++ inv a, true) := by
  have := pw_ndX (k := 4) (.inr rfl) ha hb ha0 hb0 hal hbl
  rw [if_neg (by decide), if_neg (by decide), List.append_nil] at this
  exact this
def ndG (a b : List Int) : Nd := ⟨2, 0, 2, 1, 0, up 0 (tks a ++ tks b).length⟩
theorem ndG_ok (h : 0 < (ndG a b).kids.length) : ndOk nmAB.size (ndG a b) false :=
  ⟨⟨(by decide : (1 : Int) ≤ 2), (by decide : (2 : Int) ≤ 99)⟩, ⟨(by decide : (0 : Int) ≤ 1), (by decide : (1 : Int) ≤ 1)⟩, Or.inr ⟨rfl, Or.inr (Or.inl ⟨rfl, rfl, rfl, h⟩)⟩⟩
theorem pw_twice (ha : isW 2 a) (hb : isW 2 b) (ha0 : a ≠ []) (hb0 : b ≠ []) (hal : a.length ≤ 8) (hbl : b.length ≤ 8) : pwP nmAB ((⟨#[40]⟩ : ByteArray) ++ fwP nmAB a ++ ⟨#[32]⟩ ++ fwP nmAB b ++ ⟨#[41, 50, 39]⟩) = (inv (a ++ b ++ (a ++ b)), true) := by
  have h1 := List.length_pos_iff.2 (tks_ne ha0)
  have hkl : 0 < (ndG a b).kids.length := by
    have e : (ndG a b).kids = up 0 (tks a ++ tks b).length := rfl
    rw [e, Go.Nt.up_len, List.length_append]; omega
  have hk : ndOk nmAB.size (ndG a b) false := ndG_ok hkl
  have et : ndT fmS nmAB (ndG a b) ((tks a).map (tkX fmS nmAB) ++ (tks b).map (tkX fmS nmAB)) = (⟨#[40]⟩ : ByteArray) ++ fwP nmAB a ++ ⟨#[32]⟩ ++ fwP nmAB b ++ ⟨#[41, 50, 39]⟩ := by
    have e2 : (ndG a b).kind = 2 := rfl
    have e3 : (ndG a b).count = 2 := rfl
    have e4 : (ndG a b).inv = 1 := rfl
    have e5 : (⟨#[41]⟩ : ByteArray) ++ fmS (2 : Int).toNat ++ ⟨#[39]⟩ = ⟨#[41, 50, 39]⟩ := by kernel_rfl
    unfold ndT inT
    rw [e2, e3, e4, if_pos rfl, if_pos (by decide), if_neg (by decide), if_pos rfl, Go.Nt.jn_app (by simpa using tks_ne ha0) (by simpa using tks_ne hb0), ← fw_text ha, ← fw_text hb, ← e5]
    simp only [ByteArray.append_assoc]
  have ew : ndW (ndG a b) ((tks a).map tkW ++ (tks b).map tkW) = some (inv (a ++ b ++ (a ++ b))) := by
    have eb : bas (ndG a b) (((tks a).map tkW ++ (tks b).map tkW).take (ndG a b).split.toNat).flatten (((tks a).map tkW ++ (tks b).map tkW).drop (ndG a b).split.toNat).flatten = a ++ b := by
      show [] ++ (List.take 0 ((tks a).map tkW ++ (tks b).map tkW)).flatten ++ (List.drop 0 ((tks a).map tkW ++ (tks b).map tkW)).flatten ++ [] ++ [] = a ++ b
      rw [List.take_zero, List.drop_zero, List.flatten_append, tks_word, tks_word]; simp
    unfold ndW
    rw [eb, if_neg (by show ¬ 200 < _ * 2; rw [List.length_append]; omega), if_pos (show (ndG a b).inv = 1 from rfl)]
    show some (inv (Go.Nt.repW (a ++ b) 2)) = _
    simp [Go.Nt.repW, List.replicate_succ]
  rw [← et]
  refine pw_node ha hb hal hbl rfl hk ew ?_
  rw [et]
  have e1 : ∀ c : UInt8, (⟨#[c]⟩ : ByteArray).size = 1 := fun _ => rfl
  have e3 : (⟨#[41, 50, 39]⟩ : ByteArray).size = 3 := rfl
  have := fw_size ha
  have := fw_size hb
  simp only [ByteArray.size_append, e1, e3]; omega
end
end Go.Proofs.YticbabpajligbaaDoor
end

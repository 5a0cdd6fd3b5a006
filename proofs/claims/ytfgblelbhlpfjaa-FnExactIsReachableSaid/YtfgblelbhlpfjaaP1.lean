/- Plain laws: rows without repetition, bit masks. -/
import Derived.Test.YtfgblelbhlpfjaaAv19
namespace Go.Plain

/-- The numbers of a row, as bits. -/
def mask (l : List Nat) : Nat := l.foldl (fun m x => m ||| 2 ^ x) 0
theorem mask_snoc (l : List Nat) (x : Nat) : mask (l ++ [x]) = mask l ||| 2 ^ x := by simp [mask]
theorem mask_testBit (l : List Nat) (i : Nat) : (mask l).testBit i = decide (i ∈ l) := by
  have key : ∀ (l : List Nat) (m : Nat), (l.foldl (fun m x => m ||| 2 ^ x) m).testBit i = (m.testBit i || decide (i ∈ l)) := by
    intro l
    induction l with
    | nil => intro m; simp
    | cons a r ih =>
      intro m
      rw [List.foldl_cons, ih, Nat.testBit_or, Nat.testBit_two_pow]
      by_cases h : a = i
      · subst h; simp
      · have : ¬ i = a := fun e => h e.symm
        simp [h, this]
  have h := key l 0
  simp only [Nat.zero_testBit, Bool.false_or] at h
  exact h
theorem mask_lt {l : List Nat} {n : Nat} (h : ∀ x ∈ l, x < n) : mask l < 2 ^ n := by
  refine Nat.lt_pow_two_of_testBit _ fun i hi => ?_
  rw [mask_testBit]
  simp only [decide_eq_false_iff_not]
  intro hm; have := h i hm; omega
theorem mask_full {l : List Nat} {n : Nat} (h : ∀ x ∈ l, x < n) : mask l = 2 ^ n - 1 ↔ ∀ i, i < n → i ∈ l := by
  constructor
  · intro e i hi
    have := congrArg (fun m => m.testBit i) e
    simp only [mask_testBit, Nat.testBit_two_pow_sub_one] at this
    simpa [hi] using this
  · intro ha
    refine Nat.eq_of_testBit_eq fun i => ?_
    rw [mask_testBit, Nat.testBit_two_pow_sub_one]
    congr 1
    exact propext ⟨h i, ha i⟩

end Go.Plain

namespace Go.Av
theorem or_nat (a b : Nat) (ha : a < 2 ^ 62) (hb : b < 2 ^ 62) : IntKind.i64.wrap ((BitVec.ofInt IntKind.i64.bits (a : Int) ||| BitVec.ofInt IntKind.i64.bits (b : Int)).toNat : Int) = ((a ||| b : Nat) : Int) := by
  have h1 : IntKind.i64.bits = 64 := rfl
  rw [h1]
  have h2 : (BitVec.ofInt 64 (a : Int) ||| BitVec.ofInt 64 (b : Int)).toNat = a ||| b := by
    rw [BitVec.ofInt_natCast, BitVec.ofInt_natCast, BitVec.toNat_or, BitVec.toNat_ofNat, BitVec.toNat_ofNat, Nat.mod_eq_of_lt (by omega), Nat.mod_eq_of_lt (by omega)]
  rw [h2]
  have h3 : a ||| b < 2 ^ 62 := Nat.or_lt_two_pow ha hb
  rw [IntKind.wrap_i64]; omega
theorem shl_nat (n : Nat) (hn : n < 62) : IntKind.i64.wrap (1 * 2 ^ min (n : Int).toNat IntKind.i64.bits) = ((2 ^ n : Nat) : Int) := by
  have h1 : IntKind.i64.bits = 64 := rfl
  have h2 : min (n : Int).toNat 64 = n := by simp; omega
  have h3 : 2 ^ n < 2 ^ 62 := Nat.pow_lt_pow_right (by omega) hn
  rw [h1, h2, Int.one_mul, IntKind.wrap_i64]
  have h4 : ((2 : Int) ^ n) = ((2 ^ n : Nat) : Int) := by simp
  rw [h4]
  generalize 2 ^ n = m at h3
  omega
end Go.Av

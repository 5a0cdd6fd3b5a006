import Derived.Shelf.Strings.OnBuilder
import Derived.Test.YticbabpajligbaaDoorK13
/- strings.Join, off the shelf, over abstract values. -/
section
namespace Go.Proofs.YticbabpajligbaaDoor
open Go.Av
set_option linter.unusedSimpArgs false
set_option linter.unusedVariables false
attribute [local irreducible] AWP CallG Ob Br BrP Go.Av.Sub endQ AOps OpV AC thenA blkA opsVC opVC withA withArgs opsQ opQ CallQ withA2 withArgs2
open Go.Shelf Go.RowKit
def joinRen : Go.Shelf.Ren := ⟨fun | 156 => 44 | 165 => 76 | 166 => 77 | 169 => 78 | 240 => 95 | 241 => 96 | 276 => 114 | 277 => 115 | n => n, fun | 31 => 58 | 9 => 9 | 3 => 3 | 4 => 4 | 0 => 0 | 20 => 20 | 72 => 101 | 76 => 105 | 70 => 99 | 37 => 34 | 75 => 104 | 127 => 116 | 164 => 131 | 5 => 5 | 80 => 107 | n => n, fun | n => n⟩
theorem joinLays : Go.Proofs.Lays.n156 Tryd.prog joinRen := {
  mixed := by kernel_rfl
  f156 := Tryd.func44.trans (congrArg some (by kernel_rfl))
  f165 := Tryd.func76.trans (congrArg some (by kernel_rfl))
  f166 := Tryd.func77.trans (congrArg some (by kernel_rfl))
  f169 := Tryd.func78.trans (congrArg some (by kernel_rfl))
  f240 := Tryd.func95.trans (congrArg some (by kernel_rfl))
  f241 := Tryd.func96.trans (congrArg some (by kernel_rfl))
  f276 := Tryd.func114.trans (congrArg some (by kernel_rfl))
  f277 := Tryd.func115.trans (congrArg some (by kernel_rfl))
  t0 := Tryd.underlying0
  a0 := Tryd.isAgg0
  z0 := Tryd.sizeOf0
  v0 := Tryd.zeroValue0
  t3 := Tryd.underlying3
  a3 := Tryd.isAgg3
  z3 := Tryd.sizeOf3
  v3 := Tryd.zeroValue3
  t4 := Tryd.underlying4
  a4 := Tryd.isAgg4
  z4 := Tryd.sizeOf4
  v4 := Tryd.zeroValue4
  t9 := Tryd.underlying9
  a9 := Tryd.isAgg9
  z9 := Tryd.sizeOf9
  v9 := Tryd.zeroValue9
  t20 := Tryd.underlying20
  a20 := Tryd.isAgg20
  z20 := Tryd.sizeOf20
  v20 := Tryd.zeroValue20
  t31 := Tryd.underlying58
  a31 := Tryd.isAgg58
  z31 := Tryd.sizeOf58
  v31 := Tryd.zeroValue58
  t37 := Tryd.underlying34
  a37 := Tryd.isAgg34
  z37 := Tryd.sizeOf34
  v37 := Tryd.zeroValue34
  t70 := Tryd.underlying99
  a70 := Tryd.isAgg99
  z70 := Tryd.sizeOf99
  v70 := Tryd.zeroValue99
  t72 := Tryd.underlying101
  a72 := Tryd.isAgg101
  z72 := Tryd.sizeOf101
  v72 := Tryd.zeroValue101
  t75 := Tryd.underlying104
  a75 := Tryd.isAgg104
  z75 := Tryd.sizeOf104
  v75 := Tryd.zeroValue104
  t76 := Tryd.underlying105
  a76 := Tryd.isAgg105
  z76 := Tryd.sizeOf105
  v76 := Tryd.zeroValue105
  t127 := Tryd.underlying116
  a127 := Tryd.isAgg116
  z127 := Tryd.sizeOf116
  v127 := Tryd.zeroValue116
  t164 := Tryd.underlying131
  a164 := Tryd.isAgg131
  z164 := Tryd.sizeOf131
  v164 := Tryd.zeroValue131 }
theorem joinExtra : Builder.Extra Tryd.prog joinRen := {
  sizeBuilder := by kernel_rfl
  liesBuilder := by kernel_rfl
  t5 := Tryd.underlying5
  a5 := Tryd.isAgg5
  z5 := Tryd.sizeOf5
  v5 := Tryd.zeroValue5
  infoByte := by kernel_rfl
  cellsByte := by kernel_rfl
  sizeByte := by kernel_rfl
  neB5 := by decide }
theorem shelfJoin_none (a : Option Addr) (c : Nat) (sep : ByteArray) (w : World) :
    Calls Tryd.prog 44 #[.slice a 0 c, .string sep] w fun e w' => e = .returned (.string ⟨#[]⟩) ∧ w' = w := Any.strings_Join_none joinLays joinExtra a c sep w
theorem shelfJoin (bk o c : Nat) (xs : List ByteArray) (sep : ByteArray) (w : World) (hcells : ∀ (j : Nat) x, xs[j]? = some x → w.cell? ⟨bk, o + j, none⟩ = some (.string x)) (hbk : bk < w.heap.size) (hN : xs.length ≤ 140737488355328) (hcap : xs.length ≤ c) (hlen : (Lib.join (xs.map (·.data.toList)) sep.data.toList).length ≤ 140737488355328) :
    Calls Tryd.prog 44 #[.slice (some ⟨bk, o, none⟩) xs.length c, .string sep] w fun e w' => e = .returned (.string ⟨(Lib.join (xs.map (·.data.toList)) sep.data.toList).toArray⟩) ∧ Below w.heap.size w w' := Any.strings_Join joinLays joinExtra bk o c xs sep w hcells hbk hN hcap hlen

open Go.Nt (jnS jn)
theorem joinTail_app (sep : List UInt8) (a b : List (List UInt8)) : Lib.joinTail sep (a ++ b) = Lib.joinTail sep a ++ Lib.joinTail sep b := by simp [Lib.joinTail]
theorem join_snoc (xs : List (List UInt8)) (y sep : List UInt8) (h : xs ≠ []) : Lib.join (xs ++ [y]) sep = Lib.join xs sep ++ (sep ++ y) := by
  cases xs with
  | nil => exact absurd rfl h
  | cons x r =>
    rw [List.cons_append, Lib.join_cons, Lib.join_cons, joinTail_app]
    simp [Lib.joinTail]
theorem jnS_join (sep : ByteArray) (ws : List ByteArray) : ∀ k, k ≤ ws.length → (jnS sep ws k).data.toList = Lib.join ((ws.take k).map (·.data.toList)) sep.data.toList
  | 0, _ => rfl
  | k + 1, h => by
    have ih := jnS_join sep ws k (by omega)
    have e : ws.take (k + 1) = ws.take k ++ [ws.getD k ByteArray.empty] := by
      rw [List.getD_eq_getElem?_getD, List.getElem?_eq_getElem (show k < ws.length by omega), ← List.take_append_getElem (show k < ws.length by omega)]; rfl
    rw [e, List.map_append, List.map_cons, List.map_nil]
    unfold jnS
    by_cases hk : 0 < k
    · rw [if_pos hk, join_snoc _ _ _ (by
        intro h0
        have := congrArg List.length h0
        rw [List.length_map, List.length_take, List.length_nil] at this
        omega), ← ih]
      simp [ByteArray.data_append, Array.toList_append]
    · have : k = 0 := by omega
      subst this
      rw [if_neg hk]
      simp [ByteArray.data_append, Array.toList_append, Lib.join_one, jnS]
theorem jn_eq (ws : List ByteArray) : (⟨(Lib.join (ws.map (·.data.toList)) [32]).toArray⟩ : ByteArray) = jn ws := by
  have := jnS_join ⟨#[32]⟩ ws ws.length (Nat.le_refl _)
  rw [List.take_length] at this
  rw [← this]
  rfl
theorem join_ok (ws : List ByteArray) (hn : ws.length ≤ 1048576) (hl : (jn ws).size ≤ 140737488355328) : AC Tryd.prog 44 [strs ws, .v (.string (⟨#[32]⟩))] Hp.emp (fun _ => false) (retV (.v (.string (jn ws)))) := by
  unfold AC
  refine ⟨by kernel_rfl, fun S w L vs hS hpin s hargs => ?_⟩
  obtain ⟨h1, h2⟩ := hargs
  obtain ⟨u, k1, a, cap, rfl, k2, _, k3, k4⟩ := h2 0 _ rfl
  obtain ⟨u1, k5, k6⟩ := h2 1 _ rfl
  cases k6
  have hvs : vs = #[.slice a ws.length cap, .string ⟨#[32]⟩] := by
    refine Array.ext (by simpa using h1) fun i hi _ => ?_
    have : i = 0 ∨ i = 1 := by simp at h1; omega
    rcases this with rfl | rfl
    · simpa using (Array.getElem?_eq_some_iff.1 k1).2
    · simpa using (Array.getElem?_eq_some_iff.1 k5).2
  subst hvs
  have hp : ∀ h l, S.pin h = some l → False := fun h l hl => by rw [hpin h rfl] at hl; cases hl
  have fin : ∀ (e : Ending) (w' : World), e = .returned (.string (jn ws)) → Below w.heap.size w w' → ∃ u L' r H', e = .returned u ∧ Sim 0 w S w' #[] L' [] H' ∧ Rd w' (okb S H' L') L' r u ∧ retV (.v (.string (jn ws))) r H' := by
    rintro e w' rfl hB
    have hkeep : Keep w S.wr w' := ⟨hB.os, hB.tape, hB.output, hB.size, fun b hb _ => hB.block b hb, fun b cs e fz hb => ⟨cs, by rw [hB.block b (Array.getElem?_eq_some_iff.1 hb).1]; exact hb, rfl⟩⟩
    exact ⟨_, fun _ => none, .v (.string (jn ws)), Hp.emp, rfl, ⟨hkeep, rfl, fun i a h => by simp [Fr.get] at h, fun h B hB => by simp [Hp.emp] at hB, fun h q _ hq => (by cases hq), fun h g q r _ _ hq => (by cases hq), fun h l hl => (hp h l hl).elim⟩, rfl, rfl, rfl⟩
  by_cases hz : ws = []
  · subst hz
    refine (shelfJoin_none a cap ⟨#[32]⟩ w).mono ?_
    rintro e w' ⟨rfl, rfl⟩
    exact fin _ _ rfl (Below.refl _ _)
  · have hl0 : 0 < ws.length := List.length_pos_iff.2 hz
    cases a with
    | none => have := (k3 rfl).1; omega
    | some p =>
      obtain ⟨e0, _, c0, e2, _⟩ := k4 p rfl 0 (by omega)
      obtain ⟨bk, o, sp⟩ := p
      obtain rfl : sp = none := e0
      refine (shelfJoin bk o cap ws ⟨#[32]⟩ w (fun j x hj => ?_) (World.block_lt_of_cell? w _ e2) (by omega) k2 ?_).mono ?_
      · have hjl := (List.getElem?_eq_some_iff.1 hj).1
        obtain ⟨_, _, c, e3, e4⟩ := k4 _ rfl j (by omega)
        have := e4 L
        rw [cM_sv] at this
        simp only [Rd] at this
        rw [e3, this, List.getD_eq_getElem?_getD, hj]; rfl
      · have := congrArg ByteArray.size (jn_eq ws)
        have e5 : (⟨(Lib.join (ws.map (·.data.toList)) [32]).toArray⟩ : ByteArray).size = (Lib.join (ws.map (·.data.toList)) [32]).length := by
          show (Lib.join (ws.map (·.data.toList)) [32]).toArray.size = _
          simp
        show (Lib.join (ws.map (·.data.toList)) [32]).length ≤ _
        omega
      · rintro e w' ⟨rfl, hB⟩
        refine fin _ _ ?_ hB
        exact congrArg (fun s => Ending.returned (.string s)) (jn_eq ws)
end Go.Proofs.YticbabpajligbaaDoor
end

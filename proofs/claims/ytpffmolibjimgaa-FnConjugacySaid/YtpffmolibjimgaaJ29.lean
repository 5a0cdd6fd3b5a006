import Derived.Ground.SlgnProg
import Derived.Shelf.SlicesG.Reverse
import Derived.Ground.SlgmProg
import Derived.Shelf.SortM.Plain
import Derived.Shelf.SortM.SortNone
import Derived.Test.YtpffmolibjimgaaJ4
import Derived.Test.YtpffmolibjimgaaJ3
import Derived.Test.YtpffmolibjimgaaJ24
/- slices.Sort and slices.Reverse at rows of int64, off the shelf, over abstract values. (The tables of numbers are this seat's: made by the kit's lay-shelf.mjs and lay-plain.mjs.) -/
section
namespace Go.Proofs.Ytpffmolibjimgaa
open Go.Av
set_option linter.unusedSimpArgs false
set_option linter.unusedVariables false
attribute [local irreducible] AWP CallG Ob Br BrP Go.Av.Sub endQ AOps OpV AC thenA blkA opsVC opVC withA withArgs opsQ opQ CallQ withA2 withArgs2
open Go.Shelf
def laysRev_ren : Go.Shelf.Ren := ⟨fun | 35 => 40 | n => n, fun | 22 => 24 | 23 => 2 | 3 => 3 | 4 => 4 | 0 => 0 | n => n, fun | n => n⟩
theorem laysRev : Go.Proofs.SlLaysN.n35 Try.prog laysRev_ren := {
  mixed := by kernel_rfl
  f35 := ⟨Try.f40.name, by decide, Try.func40.trans (congrArg some (by kernel_rfl))⟩
  t0 := Try.underlying0
  a0 := Try.isAgg0
  z0 := Try.sizeOf0
  v0 := Try.zeroValue0
  t3 := Try.underlying3
  a3 := Try.isAgg3
  z3 := Try.sizeOf3
  v3 := Try.zeroValue3
  t4 := Try.underlying4
  a4 := Try.isAgg4
  z4 := Try.sizeOf4
  v4 := Try.zeroValue4
  t22 := Try.underlying24
  a22 := Try.isAgg24
  z22 := Try.sizeOf24
  v22 := Try.zeroValue24
  t23 := Try.underlying2
  a23 := Try.isAgg2
  z23 := Try.sizeOf2
  v23 := Try.zeroValue2 }
open Go.RowKit Go.Lib Go.Sort in
open Go.RowKit Go.Lib Go.Sort in
theorem shelf_slices_Reverse_int (blk off cap : Nat) (zs : List Int) (w : World) (hH : Holds (Value.int .i64) w blk off zs.toArray) (hsz : zs.length ≤ 9223372036854775807) :
    Calls Try.prog 40 #[.slice (some ⟨blk, off, none⟩) zs.length cap] w fun e w' => e = .returned (.tuple #[]) ∧ ∃ n, w' = putRow (Value.int .i64) (Sort.ahead w n) blk off zs.reverse.toArray := AnyG.slices_Reverse_int laysRev blk off cap zs w hH hsz
open Go.RowKit Go.Lib Go.Sort in
theorem shelf_slices_Reverse_int_empty (a : Option Addr) (cap : Nat) (w : World) :
    Calls Try.prog 40 #[.slice a 0 cap] w fun e w' => e = .returned (.tuple #[]) ∧ w' = w := AnyG.slices_Reverse_int_empty laysRev a cap w
def laysSrt_ren : Go.Shelf.Ren := ⟨fun | 5 => 39 | 8 => 49 | 7 => 48 | 19 => 61 | 20 => 62 | 10 => 52 | 11 => 53 | 12 => 54 | 13 => 55 | 14 => 56 | 15 => 57 | 16 => 58 | 17 => 59 | 18 => 60 | 30 => 63 | 31 => 64 | 32 => 65 | 33 => 66 | 34 => 67 | 35 => 68 | 40 => 69 | n => n, fun | 23 => 24 | 25 => 2 | 3 => 3 | 32 => 53 | 22 => 24 | 0 => 0 | 44 => 65 | 46 => 67 | 4 => 4 | 36 => 57 | 35 => 56 | 41 => 62 | 5 => 5 | 9 => 9 | 53 => 68 | 57 => 72 | 63 => 75 | 64 => 76 | n => n, fun | n => n⟩
theorem laysSrt : Go.Proofs.SlLaysM.n5 Try.prog laysSrt_ren := {
  mixed := by kernel_rfl
  f5 := ⟨Try.f39.name, by decide, Try.func39.trans (congrArg some (by kernel_rfl))⟩
  f7 := ⟨Try.f48.name, by decide, Try.func48.trans (congrArg some (by kernel_rfl))⟩
  f8 := Try.func49.trans (congrArg some (by kernel_rfl))
  f10 := ⟨Try.f52.name, by decide, Try.func52.trans (congrArg some (by kernel_rfl))⟩
  f11 := ⟨Try.f53.name, by decide, Try.func53.trans (congrArg some (by kernel_rfl))⟩
  f12 := ⟨Try.f54.name, by decide, Try.func54.trans (congrArg some (by kernel_rfl))⟩
  f13 := ⟨Try.f55.name, by decide, Try.func55.trans (congrArg some (by kernel_rfl))⟩
  f14 := ⟨Try.f56.name, by decide, Try.func56.trans (congrArg some (by kernel_rfl))⟩
  f15 := ⟨Try.f57.name, by decide, Try.func57.trans (congrArg some (by kernel_rfl))⟩
  f16 := ⟨Try.f58.name, by decide, Try.func58.trans (congrArg some (by kernel_rfl))⟩
  f17 := ⟨Try.f59.name, by decide, Try.func59.trans (congrArg some (by kernel_rfl))⟩
  f18 := ⟨Try.f60.name, by decide, Try.func60.trans (congrArg some (by kernel_rfl))⟩
  f19 := Try.func61.trans (congrArg some (by kernel_rfl))
  f20 := Try.func62.trans (congrArg some (by kernel_rfl))
  f30 := ⟨Try.f63.name, by decide, Try.func63.trans (congrArg some (by kernel_rfl))⟩
  f31 := Try.func64.trans (congrArg some (by kernel_rfl))
  f32 := Try.func65.trans (congrArg some (by kernel_rfl))
  f33 := ⟨Try.f66.name, by decide, Try.func66.trans (congrArg some (by kernel_rfl))⟩
  f34 := ⟨Try.f67.name, by decide, Try.func67.trans (congrArg some (by kernel_rfl))⟩
  f35 := ⟨Try.f68.name, by decide, Try.func68.trans (congrArg some (by kernel_rfl))⟩
  f40 := ⟨Try.f69.name, by decide, Try.func69.trans (congrArg some (by kernel_rfl))⟩
  t0 := Try.underlying0
  a0 := Try.isAgg0
  z0 := Try.sizeOf0
  v0 := Try.zeroValue0
  t3 := Try.underlying3
  a3 := Try.isAgg3
  z3 := Try.sizeOf3
  v3 := Try.zeroValue3
  t4 := Try.underlying4
  a4 := Try.isAgg4
  z4 := Try.sizeOf4
  v4 := Try.zeroValue4
  t5 := Try.underlying5
  a5 := Try.isAgg5
  z5 := Try.sizeOf5
  v5 := Try.zeroValue5
  t9 := Try.underlying9
  a9 := Try.isAgg9
  z9 := Try.sizeOf9
  v9 := Try.zeroValue9
  t22 := Try.underlying24
  a22 := Try.isAgg24
  z22 := Try.sizeOf24
  v22 := Try.zeroValue24
  t23 := Try.underlying24
  a23 := Try.isAgg24
  z23 := Try.sizeOf24
  v23 := Try.zeroValue24
  t25 := Try.underlying2
  a25 := Try.isAgg2
  z25 := Try.sizeOf2
  v25 := Try.zeroValue2
  t32 := Try.underlying53
  a32 := Try.isAgg53
  z32 := Try.sizeOf53
  v32 := Try.zeroValue53
  t35 := Try.underlying56
  a35 := Try.isAgg56
  z35 := Try.sizeOf56
  v35 := Try.zeroValue56
  t36 := Try.underlying57
  a36 := Try.isAgg57
  z36 := Try.sizeOf57
  v36 := Try.zeroValue57
  t41 := Try.underlying62
  a41 := Try.isAgg62
  z41 := Try.sizeOf62
  v41 := Try.zeroValue62
  t44 := Try.underlying65
  a44 := Try.isAgg65
  z44 := Try.sizeOf65
  v44 := Try.zeroValue65
  t46 := Try.underlying67
  a46 := Try.isAgg67
  z46 := Try.sizeOf67
  v46 := Try.zeroValue67
  t53 := Try.underlying68
  a53 := Try.isAgg68
  z53 := Try.sizeOf68
  v53 := Try.zeroValue68
  t57 := Try.underlying72
  a57 := Try.isAgg72
  z57 := Try.sizeOf72
  v57 := Try.zeroValue72
  t63 := Try.underlying75
  a63 := Try.isAgg75
  z63 := Try.sizeOf75
  v63 := Try.zeroValue75
  t64 := Try.underlying76
  a64 := Try.isAgg76
  z64 := Try.sizeOf76
  v64 := Try.zeroValue76 }
open Go.Sort Go.RowKit in
theorem shelf_slices_Sort_int (blk off cap : Nat) (zs : List Int) (w : World) (hH : Holds (Value.int .i64) w blk off zs.toArray) (hblk : blk < w.heap.size) (hsz : zs.length < 4611686018427387904) :
    Calls Try.prog 39 #[.slice (some ⟨blk, off, none⟩) zs.length cap] w fun e w' =>
      e = .returned (.tuple #[]) ∧ ∃ n os, w' = grow (putRow (Value.int .i64) (Sort.ahead w n) blk off (zs.mergeSort fun x y => decide (x ≤ y)).toArray) os := AnyM.slices_Sort_int laysSrt blk off cap zs w hH hblk hsz
open Go.RowKit Go.Sort in
theorem shelf_slices_Sort_int_none (p : Option Addr) (cap : Nat) (w : World) :
    Calls Try.prog 39 #[.slice p 0 cap] w fun e w' => e = .returned (.tuple #[]) ∧ w' = w := AnyM.slices_Sort_int_none laysSrt p cap w

section
open Go.Sort (Holds putRow grow putCells mapBlock onCells heap_grow_old)
variable {P : Program} {f : FuncId}
theorem heap_put {w : World} {b off k : Nat} {os : Array Obj} {cs : Array Value} {e : TypeId} {fz : Nat × Nat} (d : Array Int) (hb : w.heap[b]? = some (.cells cs e fz)) : (grow (putRow (Value.int .i64) (Sort.ahead w k) b off d) os).heap[b]? = some (.cells (putCells (Value.int .i64) off d cs) e fz) := by
  have hg : b < w.heap.size := (Array.getElem?_eq_some_iff.1 hb).1
  rw [heap_grow_old _ _ (by simpa using hg)]
  simp [putRow, mapBlock, Sort.ahead, Array.getElem?_modify, hb, onCells]
theorem heap_put_other {w : World} {b off k j : Nat} {os : Array Obj} (d : Array Int) (hj : j < w.heap.size) (hne : j ≠ b) : (grow (putRow (Value.int .i64) (Sort.ahead w k) b off d) os).heap[j]? = w.heap[j]? := by
  rw [heap_grow_old _ _ (by simpa using hj)]
  simp [putRow, mapBlock, Sort.ahead, Array.getElem?_modify, Ne.symm hne]
theorem keep_put {w : World} {b off k : Nat} {os : Array Obj} {cs : Array Value} {e : TypeId} {fz : Nat × Nat} (d : Array Int) (hb : w.heap[b]? = some (.cells cs e fz)) : Keep w (fun j => j = b) (grow (putRow (Value.int .i64) (Sort.ahead w k) b off d) os) where
  os := rfl
  tape := rfl
  output := rfl
  size := by simp
  blk j hj hne := heap_put_other d hj hne
  shape j c' e' fz' hj := by
    by_cases hjb : j = b
    · subst hjb
      rw [hb] at hj
      simp only [Option.some.injEq, Obj.cells.injEq] at hj
      obtain ⟨rfl, rfl, rfl⟩ := hj
      exact ⟨_, heap_put d hb, by simp [putCells]⟩
    · exact ⟨c', (heap_put_other d (Array.getElem?_eq_some_iff.1 hj).1 hjb).trans hj, rfl⟩
/-- A call that writes a part of a row of numbers. -/
theorem rowCall {h a n : Nat} {L seg' : List Int} (hcl : callable P f = true) (han : a + n ≤ L.length) (hs' : seg'.length = n)
    (h0 : n = 0 → ∀ (p : Option Addr) (cap : Nat) (w : World), Calls P f #[.slice p 0 cap] w fun e w' => e = .returned (.tuple #[]) ∧ w' = w)
    (h1 : ∀ (blk off cap : Nat) (w : World), Holds (Value.int .i64) w blk off ((L.drop a).take n).toArray → blk < w.heap.size → Calls P f #[.slice (some ⟨blk, off, none⟩) n cap] w fun e w' => e = .returned (.tuple #[]) ∧ ∃ k os, w' = grow (putRow (Value.int .i64) (Sort.ahead w k) blk off seg'.toArray) os) :
    AC P f [.own h a 1 n] (Hp.emp.upd h (.cells L.length (cM iv 0 L))) (· == h) (postM h (.tup 0 (vecF [])) (.cells L.length (cM iv 0 (L.take a ++ seg' ++ L.drop (a + n))))) := by
  unfold AC
  refine ⟨hcl, fun S w Lc vs hS hpin s hargs => ?_⟩
  obtain ⟨hz, hv⟩ := hargs
  obtain ⟨u, hu1, hu⟩ := hv 0 _ rfl
  have hvs : vs = #[u] := by
    refine Array.ext (by simpa using hz) fun i hi _ => ?_
    have : i = 0 := by simp at hz; omega
    subst this
    simpa using (Array.getElem?_eq_some_iff.1 hu1).2
  subst hvs
  have hHh : (Hp.emp.upd h (.cells L.length (cM iv 0 L))) h = some (.cells L.length (cM iv 0 L)) := by simp [Hp.upd]
  have hb := s.blk h _ hHh
  let N0 : Cx := { n := 0, pn := (· == h), low := fun x hx => absurd hx (Nat.not_lt_zero _) }
  have good : Go.Av.Good N0 w S := ⟨hS, hpin⟩
  have same : ∀ g : Nat → AV, (∀ i, i < L.length → cM iv 0 L i = g i) → ∃ L', Sim 0 w S w #[] L' [] (Hp.emp.upd h (.cells L.length g)) := fun g hg => by
    have hs : Go.Av.Sub N0 [] (Hp.emp.upd h (.cells L.length (cM iv 0 L))) [] (Hp.emp.upd h (.cells L.length g)) := Sub.toFF (fun _ => False) (Fr.fit_nil _) (leF_upd hHh (bfE rfl hg) leF_emp id)
    unfold Go.Av.Sub at hs
    exact hs w S good w #[] Lc s
  have stay : n = 0 → ∀ i, i < L.length → cM iv 0 L i = cM iv 0 (L.take a ++ seg' ++ L.drop (a + n)) i := fun hn i hi => by
    have e : seg' = [] := List.eq_nil_of_length_eq_zero (by omega)
    rw [e, hn, List.append_nil, Nat.add_zero, List.take_append_drop]
  have rd0 : ∀ (w' : World) (ok : Nat → Prop) (L' : Go.Av.Loc), Go.Av.Rd w' ok L' (.tup 0 (vecF [])) (.tuple #[]) := fun w' ok L' => by
    simp only [Go.Av.Rd]
    exact ⟨#[], rfl, rfl, fun i hi => absurd hi (Nat.not_lt_zero _)⟩
  have fin : n = 0 → ∀ (p : Option Addr) (cap : Nat), Calls P f #[.slice p 0 cap] w fun e w' => ∃ u L' r H', e = .returned u ∧ Sim 0 w S w' #[] L' [] H' ∧ Go.Av.Rd w' (okb S H' L') L' r u ∧ postM h (.tup 0 (vecF [])) (.cells L.length (cM iv 0 (L.take a ++ seg' ++ L.drop (a + n)))) r H' := fun hn p cap => by
    refine (h0 hn p cap w).mono ?_
    rintro e w' ⟨rfl, rfl⟩
    obtain ⟨L', hL'⟩ := same _ (stay hn)
    exact ⟨_, L', _, _, rfl, hL', rd0 _ _ _, rfl, rfl⟩
  cases hl : Lc h with
  | none =>
    simp only [Go.Av.Rd, hl] at hu
    obtain ⟨rfl, hn⟩ := hu
    exact fin hn _ _
  | some q =>
    obtain ⟨b, s0⟩ := q
    simp only [Go.Av.Rd, hl] at hu
    obtain ⟨ad, cap, rfl, k1, k2, rfl, k4, k5, _⟩ := hu
    by_cases hn : n = 0
    · subst hn; exact fin rfl _ _
    · have ho := k5 (by omega)
      obtain ⟨blk, off, sp⟩ := ad
      obtain rfl : sp = none := k4
      obtain rfl : off = s0 + a := ho
      rw [hl] at hb
      obtain ⟨cs, e, ⟨fz, m1, m1'⟩, m2, m3⟩ := hb
      have hlt : blk < w.heap.size := (Array.getElem?_eq_some_iff.1 m1).1
      have hcell : ∀ i, i < L.length → cs[s0 + i]? = some (.int .i64 (L.getD i 0)) := fun i hi => by
        obtain ⟨c, c1, c2⟩ := m3 i hi
        rw [c1]
        exact congrArg some c2
      refine (h1 blk (s0 + a) cap w (fun j hj => ?_) hlt).mono ?_
      · have hj : j < n := by
          have e : ((L.drop a).take n).toArray.size = n := by simp; omega
          omega
        have e1 := hcell (a + j) (by omega)
        rw [show s0 + (a + j) = s0 + a + j by omega] at e1
        have e2 : ((L.drop a).take n).toArray[j]! = L.getD (a + j) 0 := by
          simp [List.getD_eq_getElem?_getD, hj]
        have hjs : s0 + a + j < cs.size := (Array.getElem?_eq_some_iff.1 e1).1
        refine ⟨?_, ?_⟩
        · simp only [World.cell?, m1, Option.isSome_none, Bool.false_eq_true, if_false]
          rw [e1, e2]
        · rcases m1' with m1' | m1'
          · subst m1'; simp [World.frozen?, m1]
          · simp [World.frozen?, m1]; omega
      · rintro e' w' ⟨rfl, k, os, rfl⟩
        have hk := keep_put (k := k) (os := os) (off := s0 + a) seg'.toArray m1
        have hB : BlkOk w (grow (putRow (Value.int .i64) (Sort.ahead w k) blk (s0 + a) seg'.toArray) os) (okb S (Hp.emp.upd h (.cells L.length (cM iv 0 L))) Lc) Lc (some (blk, s0)) (.cells L.length (cM iv 0 (L.take a ++ seg' ++ L.drop (a + n)))) := by
          refine ⟨_, e, ⟨fz, heap_put seg'.toArray m1, ?_⟩, by simpa [putCells] using m2, fun i hi => ⟨.int .i64 ((L.take a ++ seg' ++ L.drop (a + n)).getD i 0), ?_, by rfl⟩⟩
          · rcases m1' with m1' | m1'
            · exact .inl m1'
            · exact .inr (by simpa [putCells] using m1')
          · have e1 := hcell i hi
            have e2 : (putCells (Value.int .i64) (s0 + a) seg'.toArray cs)[s0 + i]? = some (if s0 + a ≤ s0 + i ∧ s0 + i < s0 + a + n then .int .i64 (seg'.toArray[s0 + i - (s0 + a)]!) else .int .i64 (L.getD i 0)) := by
              simp only [putCells, Array.getElem?_mapIdx, e1, Option.map_some]
              rw [show seg'.toArray.size = n by simpa using hs']
            rw [e2]
            congr 1
            have hta : (L.take a).length = a := by rw [List.length_take]; omega
            by_cases c1 : i < a
            · rw [if_neg (by omega), List.append_assoc, List.getD_eq_getElem?_getD, List.getD_eq_getElem?_getD, List.getElem?_append_left (by omega), List.getElem?_take_of_lt c1]
            · by_cases c2 : i < a + n
              · rw [if_pos (by omega), List.append_assoc, List.getD_eq_getElem?_getD, List.getElem?_append_right (by omega), hta, List.getElem?_append_left (by omega), show s0 + i - (s0 + a) = i - a by omega]
                simp [show i - a < seg'.length by omega]
              · rw [if_neg (by omega), List.getD_eq_getElem?_getD, List.getD_eq_getElem?_getD, List.getElem?_append_right (by rw [List.length_append]; omega), List.getElem?_drop, List.length_append, hta, hs', show a + n + (i - (a + n)) = i by omega]
        have s' := Sim.write (N := N0) s good (by rw [hHh]; exact fun h => by cases h) hl hk hB
        have eH : (Hp.emp.upd h (.cells L.length (cM iv 0 L))).upd h (.cells L.length (cM iv 0 (L.take a ++ seg' ++ L.drop (a + n)))) = Hp.emp.upd h (.cells L.length (cM iv 0 (L.take a ++ seg' ++ L.drop (a + n)))) := by
          funext x
          simp only [Hp.upd]
          split <;> rfl
        rw [eH] at s'
        exact ⟨_, Lc, _, _, rfl, s', rd0 _ _ _, rfl, rfl⟩
end
end Go.Proofs.Ytpffmolibjimgaa
end
/- slices.Sort and slices.Reverse. -/
section
namespace Go.Proofs.Ytpffmolibjimgaa
open Go.Av
set_option linter.unusedSimpArgs false
set_option linter.unusedVariables false
attribute [local irreducible] AWP CallG Ob Br BrP Go.Av.Sub endQ AOps OpV AC thenA blkA opsVC opVC withA withArgs opsQ opQ CallQ withA2 withArgs2
open Go.Sort (Holds)
def vd : AV := .tup 0 (vecF [])
theorem vd_scrub (q : Nat → Bool) : vd.scrub q = vd := by
  unfold vd
  rw [scrub_tup, scF_vecF]; rfl
theorem reverse_ok (L : List Int) (a : Nat) (ha : a ≤ L.length) (hl : L.length ≤ 1048576) (h : Nat) : AC Try.prog 40 [.own h a 1 (L.length - a)] (Hp.emp.upd h (.cells L.length (cM iv 0 L))) (· == h) (postM h vd (.cells L.length (cM iv 0 (L.take a ++ (L.drop a).reverse)))) := by
  have := rowCall (P := Try.prog) (f := 40) (h := h) (a := a) (n := L.length - a) (L := L) (seg' := (L.drop a).reverse) (by kernel_rfl) (by omega) (by simp) (fun _ p cap w => shelf_slices_Reverse_int_empty p cap w) (fun blk off cap w hH _ => by
    have e : (L.drop a).take (L.length - a) = L.drop a := List.take_of_length_le (by simp)
    rw [e] at hH
    have := shelf_slices_Reverse_int blk off cap (L.drop a) w hH (by simp; omega)
    rw [List.length_drop] at this
    refine this.mono ?_
    rintro e w' ⟨rfl, k, rfl⟩
    exact ⟨rfl, k, #[], (Go.Sort.grow_empty _).symm⟩)
  rw [show a + (L.length - a) = L.length by omega, List.drop_length, List.append_nil] at this
  exact this
def srtL (L : List Int) : List Int := L.mergeSort fun x y => decide (x ≤ y)
theorem srtL_len (L : List Int) : (srtL L).length = L.length := List.length_mergeSort ..
theorem srtL_perm (L : List Int) : List.Perm (srtL L) L := List.mergeSort_perm ..
theorem srtL_asc (L : List Int) : (srtL L).Pairwise (· ≤ ·) := by
  have := List.pairwise_mergeSort (le := fun x y : Int => decide (x ≤ y)) (fun a b c h1 h2 => by simp at h1 h2 ⊢; omega) (fun a b => by simp; omega) L
  exact this.imp fun h => of_decide_eq_true h
theorem sort_ok (L : List Int) (hl : L.length ≤ 1048576) (h : Nat) : AC Try.prog 39 [.own h 0 1 L.length] (Hp.emp.upd h (.cells L.length (cM iv 0 L))) (· == h) (postM h vd (.cells L.length (cM iv 0 (srtL L)))) := by
  have := rowCall (P := Try.prog) (f := 39) (h := h) (a := 0) (n := L.length) (L := L) (seg' := srtL L) (by kernel_rfl) (by omega) (srtL_len L) (fun _ p cap w => shelf_slices_Sort_int_none p cap w) (fun blk off cap w hH hb => by
    rw [List.drop_zero, List.take_length] at hH
    refine (shelf_slices_Sort_int blk off cap L w hH hb (by omega)).mono ?_
    rintro e w' ⟨rfl, k, os, rfl⟩
    exact ⟨rfl, k, os, rfl⟩)
  rw [Nat.zero_add, List.drop_length, List.append_nil, List.take_zero, List.nil_append] at this
  exact this
/-- A row sorted and turned is the falling row of its numbers. -/
theorem sort_dsc {l : List Nat} {n : Nat} (h : ∀ x ∈ l, 1 ≤ x ∧ x ≤ n) : (srtL (l.map fun x : Nat => (x : Int))).reverse = Go.Pm.dsc l n := by
  refine Go.Pm.desc_uniq (List.pairwise_reverse.2 (srtL_asc _)) (Go.Pm.dsc_desc l n) ((List.reverse_perm _).trans ((srtL_perm _).trans (List.perm_iff_count.2 fun v => ?_)))
  by_cases hv : 0 ≤ v
  · obtain ⟨L, rfl⟩ := Int.eq_ofNat_of_zero_le hv
    rw [Go.Pm.dsc_count]
    have e2 : (l.map fun x : Nat => (x : Int)).count ((L : Nat) : Int) = l.count L := by
      rw [List.count_eq_countP, List.countP_map, List.count_eq_countP]
      refine List.countP_congr fun m _ => ?_
      simp only [Function.comp_apply, beq_iff_eq]
      omega
    rw [e2]
    by_cases hL : 1 ≤ L ∧ L ≤ n
    · rw [if_pos hL]
    · rw [if_neg hL, List.count_eq_zero.2 fun hm => hL (h L hm)]
  · rw [List.count_eq_zero.2 fun hm => by
      obtain ⟨m, _, e⟩ := List.mem_map.1 hm
      omega, List.count_eq_zero.2 fun hm => by have := (Go.Pm.dsc_mem hm).1; omega]
end Go.Proofs.Ytpffmolibjimgaa
end

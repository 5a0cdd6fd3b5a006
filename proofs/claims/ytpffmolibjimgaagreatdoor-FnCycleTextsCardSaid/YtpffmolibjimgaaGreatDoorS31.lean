import Derived.Test.YtpffmolibjimgaaGreatDoorS34
import Derived.Test.YtpffmolibjimgaaGreatDoorS35
import Derived.Test.YtpffmolibjimgaaGreatDoorS3
import Derived.Lib.SplitLaws
import Derived.Test.YtpffmolibjimgaaGreatDoorS26
import Derived.Lib.ParseIntBTie
/- Of the library's texts, over abstract values: TrimPrefix, TrimSuffix, Split, FormatInt, ParseInt, Join. -/
section
namespace Go.Proofs.YtpffmolibjimgaaGreatDoor
open Go.Av
set_option linter.unusedSimpArgs false
set_option linter.unusedVariables false
attribute [local irreducible] AWP CallG Ob Br BrP Go.Av.Sub endQ AOps OpV AC thenA blkA opsVC opVC withA withArgs opsQ opQ CallQ withA2 withArgs2
open Go.RowKit (Below)
theorem rd_wr {w : World} {S : Rg} (hS : ∀ b, w.heap.size ≤ b → S.wr b) {L : Go.Av.Loc} {b : Nat} (hb : w.heap.size ≤ b) : okb S Hp.emp L b := ⟨S.sub b (hS b hb), fun h q hn => by simp [Hp.emp] at hn⟩
/-- A call of the library's on plain values, by its own contract. -/
theorem AC.raw {P : Program} {f : FuncId} {xs : List Value} {Q : AV → Prop} (hc : callable P f = true)
    (h : ∀ (S : Rg) (w : World), Env S w → Calls P f xs.toArray w fun e w' => ∃ u r, e = .returned u ∧ Below w.heap.size w w' ∧ Q r ∧ ∀ (ok : Nat → Prop) (L : Go.Av.Loc), (∀ b, w.heap.size ≤ b → ok b) → Go.Av.Rd w' ok L r u) :
    AC P f (xs.map .v) Hp.emp (fun _ => false) (postX Q) := by
  unfold AC
  refine ⟨hc, fun S w L vs hS hpin henv s ha => ?_⟩
  obtain ⟨hz, hv⟩ := ha
  have e : vs = xs.toArray := by
    refine Array.ext (by simpa using hz) fun i h1 h2 => ?_
    have hi : i < xs.length := by simpa using h2
    obtain ⟨u, e1, e2⟩ := hv i (.v xs[i]) (by simp [hi])
    have e2 : u = xs[i] := e2
    have := (Array.getElem?_eq_some_iff.1 e1).2
    rw [this, e2]; simp
  subst e
  have hp : ∀ h l, S.pin h = some l → False := fun h l hl => by rw [hpin h rfl] at hl; cases hl
  refine (h S w henv).mono ?_
  rintro e w' ⟨u, r, rfl, hB, hq, hr⟩
  have hkeep : Keep w S.wr w' := ⟨hB.os, hB.tape, hB.output, hB.size, fun b hb _ => hB.block b hb, fun b cs e fz hb => ⟨cs, by rw [hB.block b (Array.getElem?_eq_some_iff.1 hb).1]; exact hb, rfl⟩⟩
  exact ⟨u, fun _ => none, r, Hp.emp, rfl, ⟨hkeep, rfl, fun i a h => by simp [Fr.get] at h, fun h B hB => by simp [Hp.emp] at hB, fun h q _ hq => (by cases hq), fun h g q r _ _ hq => (by cases hq), fun h l hl => (hp h l hl).elim⟩, hr _ _ fun b hb => rd_wr hS hb, hq, rfl⟩
theorem AC.rawV {P : Program} {f : FuncId} {xs : List Value} {a : AV} (hc : callable P f = true)
    (h : ∀ (S : Rg) (w : World), Env S w → Calls P f xs.toArray w fun e w' => ∃ u, e = .returned u ∧ Below w.heap.size w w' ∧ ∀ (ok : Nat → Prop) (L : Go.Av.Loc), (∀ b, w.heap.size ≤ b → ok b) → Go.Av.Rd w' ok L a u) :
    AC P f (xs.map .v) Hp.emp (fun _ => false) (retV a) :=
  (AC.raw (Q := fun r => r = a) hc fun S w hE => (h S w hE).mono fun e w' ⟨u, h1, h2, h3⟩ => ⟨u, a, h1, h2, rfl, h3⟩).mono fun r H hq => hq
abbrev baL (l : List UInt8) : ByteArray := ⟨l.toArray⟩
/-- The powers of ten, the greatest length that is looked at, the errors. -/
theorem env_cell {S : Rg} {w : World} (h : Env S w) : (∃ m, w.cell? ⟨0, 0, none⟩ = some (.int .i64 m)) ∧ (∃ ev, w.cell? ⟨4, 0, none⟩ = some ev ∧ (ev = .nilIface ∨ ∃ te pe, ev = .iface te pe)) ∧ (∃ ev, w.cell? ⟨5, 0, none⟩ = some ev ∧ (ev = .nilIface ∨ ∃ te pe, ev = .iface te pe)) ∧ (∃ e fz, w.heap[1]? = some (.cells ((List.range 20).map fun i : Nat => Value.int .u64 ((10 : Int) ^ i)).toArray e fz)) := by
  obtain ⟨W0, ⟨a, b, c, d⟩, h1⟩ := h
  have hc : ∀ g, g < envN → w.cell? ⟨g, 0, none⟩ = W0.cell? ⟨g, 0, none⟩ := fun g hg => by unfold World.cell?; rw [(h1 g hg).2.2]
  refine ⟨?_, ?_, ?_, ?_⟩
  · rw [hc _ (by decide)]; exact a
  · rw [hc _ (by decide)]; exact b
  · rw [hc _ (by decide)]; exact c
  · rw [(h1 _ (by decide)).2.2]; exact d
def tpP (s p : ByteArray) : ByteArray := baL (Lib.trimPrefix s.data.toList p.data.toList)
def tsP (s p : ByteArray) : ByteArray := baL (Lib.trimSuffix s.data.toList p.data.toList)
def slP (s sep : ByteArray) : List ByteArray := Lib.splitB sep 0 (Lib.countB s sep) s
theorem trimPrefix_ok (s p : ByteArray) : AC Tryz.prog 48 [.v (.string (s)), .v (.string (p))] Hp.emp (fun _ => false) (retV (.v (.string (tpP s p)))) :=
  AC.rawV (xs := [.string s, .string p]) (by kernel_rfl) fun S w hE => (sh_strings_TrimPrefix s p w).mono fun e w' ⟨h1, h2⟩ => ⟨_, h1, by rw [h2]; exact Below.refl _ _, fun _ _ _ => rfl⟩
theorem trimSuffix_ok (s p : ByteArray) (hs : s.size ≤ 9223372036854775807) : AC Tryz.prog 47 [.v (.string (s)), .v (.string (p))] Hp.emp (fun _ => false) (retV (.v (.string (tsP s p)))) :=
  AC.rawV (xs := [.string s, .string p]) (by kernel_rfl) fun S w hE => (sh_strings_TrimSuffix s p w hs).mono fun e w' ⟨h1, h2⟩ => ⟨_, h1, by rw [h2]; exact Below.refl _ _, fun _ _ _ => rfl⟩
theorem slP_len (s sep : ByteArray) (h : 1 ≤ sep.size) : (slP s sep).length = Lib.countB s sep + 1 := Lib.splitB_all sep h 0 _ s rfl
theorem below_alloc (w : World) (o : Obj) : Below w.heap.size w (w.alloc o) := ⟨rfl, rfl, rfl, by simp, fun k hk => heap_alloc_old w o (h := hk)⟩
theorem split_ok (s sep : ByteArray) (hs : s.size < 4294967281) (h1 : 1 ≤ sep.size) : AC Tryz.prog 46 [.v (.string (s)), .v (.string (sep))] Hp.emp (fun _ => false) (retV (strs (slP s sep))) :=
  AC.rawV (xs := [.string s, .string sep]) (by kernel_rfl) fun S w hE => by
    obtain ⟨m, hm⟩ := (env_cell hE).1
    refine (sh_strings_Split s sep m w hs hm h1).mono ?_
    rintro e w' ⟨rfl, rfl⟩
    refine ⟨_, rfl, below_alloc _ _, fun ok L hok => ?_⟩
    have hl := slP_len s sep h1
    have hn := heap_alloc_new w (.cells ((Lib.splitB sep 0 (Lib.countB s sep) s).map Value.string).toArray 9)
    unfold strs
    simp only [Go.Av.Rd]
    refine ⟨_, _, by rw [hl], by omega, fun h => Bool.noConfusion h, fun h => (by cases h), fun p hp i hi => ?_⟩
    cases hp
    have hi : i < (slP s sep).length := by omega
    refine ⟨rfl, hok _ (Nat.le_refl _), .string ((slP s sep).getD i ByteArray.empty), ?_, fun L' => ?_⟩
    · simp only [World.cell?, hn]
      simp only [Option.isSome_none, Bool.false_eq_true, if_false, Nat.zero_add]
      have hi2 : i < (Lib.splitB sep 0 (Lib.countB s sep) s).length := hi
      unfold slP
      simp [List.getD_eq_getElem?_getD, hi2]
    · rw [cM_sv]; rfl
def itS (v : Int) : ByteArray := baL (Lib.itoa v)
theorem formatInt10_ok (v : Int) (h : r64 v) : AC Tryz.prog 100 [.v (.int .i64 (v)), .v (.int .i64 (10))] Hp.emp (fun _ => false) (retV (.v (.string (itS v)))) :=
  AC.rawV (xs := [.int .i64 v, .int .i64 10]) (by kernel_rfl) fun S w hE => by
    obtain ⟨e, fz, hh⟩ := (env_cell hE).2.2.2
    refine (sh_FormatInt v h.1 h.2 w e fz hh).mono ?_
    rintro e w' ⟨rfl, k, os, rfl⟩
    refine ⟨_, rfl, ⟨?_, ?_, ?_, by simp [Go.Sort.grow], fun j hj => ?_⟩, fun _ _ _ => rfl⟩
    · rfl
    · rfl
    · rfl
    · rw [Go.Sort.heap_grow_old _ _ (by simpa using hj)]; rfl
theorem below_bytes (w : World) (e : TypeId) (s : ByteArray) : Below w.heap.size w (Lib.bytesWorld w e s) := by
  unfold Lib.bytesWorld World.freeze
  rw [if_neg (by decide)]
  refine ⟨rfl, rfl, rfl, ?_, fun k hk => ?_⟩
  · simp
  · have h1 := heap_alloc_old w.drew (.cells (Lib.bytesCells w e s) e) (h := (show k < w.drew.heap.size from hk))
    simp only [Array.getElem?_modify]
    rw [if_neg (show ¬ w.heap.size = k by omega)]
    exact h1
/-- What ParseInt answers: a number and no error, or any number and an error. -/
def piOk (w : ByteArray) (r : AV) : Prop := match Lib.parseIntB 64 w.data.toList with
  | .ok v => r = .tup 2 (vecF [.v (.int .i64 (v)), .v .nilIface])
  | _ => ∃ v te pe, r64 v ∧ r = .tup 2 (vecF [.v (.int .i64 (v)), .v (.iface te pe)])
theorem intSat_r64 (l : List UInt8) : r64 (Lib.intSat 64 l) := by
  unfold Lib.intSat r64
  split <;> decide
theorem parseInt10_ok (w : ByteArray) (hs : w.size ≤ 281474976710656) : AC Tryz.prog 111 [.v (.string (w)), .v (.int .i64 (10)), .v (.int .i64 (64))] Hp.emp (fun _ => false) (postX (piOk w)) := by
  have rd2 : ∀ (W : World) (ok : Nat → Prop) (L : Go.Av.Loc) (x y : Value), Go.Av.Rd W ok L (.tup 2 (vecF [.v x, .v y])) (.tuple #[x, y]) := fun W ok L x y => by
    simp only [Go.Av.Rd]
    refine ⟨#[x, y], rfl, rfl, fun i hi => ?_⟩
    match i, hi with
    | 0, _ => exact ⟨x, rfl, rfl⟩
    | 1, _ => exact ⟨y, rfl, rfl⟩
  refine AC.raw (xs := [.string w, .int .i64 10, .int .i64 64]) (by kernel_rfl) fun S W hE => ?_
  unfold piOk
  rcases h : Lib.parseIntB 64 w.data.toList with v | _ | _
  · refine (sh_strconv_ParseInt_10_at64_ok w (by omega) v h W).mono ?_
    rintro e w' ⟨rfl, hw⟩
    refine ⟨_, _, rfl, ?_, rfl, fun ok L _ => rd2 _ _ _ _ _⟩
    rcases hw with rfl | ⟨t, rfl⟩
    · exact Below.refl _ _
    · exact below_bytes _ _ _
  · obtain ⟨ev, h1, h2⟩ := (env_cell hE).2.1
    refine (sh_strconv_ParseInt_10_at64_bad w hs (h.trans rfl) ev W h1 h2).mono ?_
    rintro e w' ⟨N, rfl, _, _, hB⟩
    exact ⟨_, _, rfl, hB, ⟨0, _, _, by unfold r64; decide, rfl⟩, fun ok L _ => rd2 _ _ _ _ _⟩
  · obtain ⟨ev, h1, h2⟩ := (env_cell hE).2.2.1
    refine (sh_strconv_ParseInt_10_at64_range w hs h ev W h1 h2).mono ?_
    rintro e w' ⟨N, rfl, _, _, hB⟩
    exact ⟨_, _, rfl, hB, ⟨_, _, _, intSat_r64 _, rfl⟩, fun ok L _ => rd2 _ _ _ _ _⟩
end Go.Proofs.YtpffmolibjimgaaGreatDoor
end
/- strings.Join with a blank, off the shelf. -/
section
namespace Go.Proofs.YtpffmolibjimgaaGreatDoor
open Go.Av
set_option linter.unusedSimpArgs false
set_option linter.unusedVariables false
attribute [local irreducible] AWP CallG Ob Br BrP Go.Av.Sub endQ AOps OpV AC thenA blkA opsVC opVC withA withArgs opsQ opQ CallQ withA2 withArgs2
open Go.RowKit (Below)
open Go.Nt (jnS jn)
theorem joinTail_app (sep : List UInt8) (a b : List (List UInt8)) : Lib.joinTail sep (a ++ b) = Lib.joinTail sep a ++ Lib.joinTail sep b := by simp [Lib.joinTail]
theorem join_snoc (xs : List (List UInt8)) (y sep : List UInt8) (h : xs ≠ []) : Lib.join (xs ++ [y]) sep = Lib.join xs sep ++ (sep ++ y) := by
  cases xs with
  | nil => exact absurd rfl h
  | cons x r =>
    rw [List.cons_append, Lib.join_cons, Lib.join_cons, joinTail_app]
    simp [Lib.joinTail]
theorem jnS_join (sep : ByteArray) (ws : List ByteArray) : ∀ k, k ≤ ws.length → (jnS sep ws k).data.toList = Lib.join ((ws.take k).map (·.data.toList)) sep.data.toList
  | 0, _ => rfl
  | k + 1, h => by
    have ih := jnS_join sep ws k (by omega)
    have e : ws.take (k + 1) = ws.take k ++ [ws.getD k ByteArray.empty] := by
      rw [List.getD_eq_getElem?_getD, List.getElem?_eq_getElem (show k < ws.length by omega), ← List.take_append_getElem (show k < ws.length by omega)]; rfl
    rw [e, List.map_append, List.map_cons, List.map_nil]
    unfold jnS
    by_cases hk : 0 < k
    · rw [if_pos hk, join_snoc _ _ _ (by
        intro h0
        have := congrArg List.length h0
        rw [List.length_map, List.length_take, List.length_nil] at this
        omega), ← ih]
      simp [ByteArray.data_append, Array.toList_append]
    · have : k = 0 := by omega
      subst this
      rw [if_neg hk]
      simp [ByteArray.data_append, Array.toList_append, Lib.join_one, jnS]
theorem jn_eq (ws : List ByteArray) : (⟨(Lib.join (ws.map (·.data.toList)) [32]).toArray⟩ : ByteArray) = jn ws := by
  have := jnS_join ⟨#[32]⟩ ws ws.length (Nat.le_refl _)
  rw [List.take_length] at this
  rw [← this]
  rfl
theorem join_ok (ws : List ByteArray) (hn : ws.length ≤ 1048576) (hl : (jn ws).size ≤ 140737488355328) : AC Tryz.prog 76 [strs ws, .v (.string (⟨#[32]⟩))] Hp.emp (fun _ => false) (retV (.v (.string (jn ws)))) := by
  unfold AC
  refine ⟨by kernel_rfl, fun S w L vs hS hpin henv s hargs => ?_⟩
  obtain ⟨h1, h2⟩ := hargs
  obtain ⟨u, k1, a, cap, rfl, k2, _, k3, k4⟩ := h2 0 _ rfl
  obtain ⟨u1, k5, k6⟩ := h2 1 _ rfl
  cases k6
  have hvs : vs = #[.slice a ws.length cap, .string ⟨#[32]⟩] := by
    refine Array.ext (by simpa using h1) fun i hi _ => ?_
    have : i = 0 ∨ i = 1 := by simp at h1; omega
    rcases this with rfl | rfl
    · simpa using (Array.getElem?_eq_some_iff.1 k1).2
    · simpa using (Array.getElem?_eq_some_iff.1 k5).2
  subst hvs
  have hp : ∀ h l, S.pin h = some l → False := fun h l hl => by rw [hpin h rfl] at hl; cases hl
  have fin : ∀ (e : Ending) (w' : World), e = .returned (.string (jn ws)) → Below w.heap.size w w' → ∃ u L' r H', e = .returned u ∧ Sim 0 w S w' #[] L' [] H' ∧ Rd w' (okb S H' L') L' r u ∧ retV (.v (.string (jn ws))) r H' := by
    rintro e w' rfl hB
    have hkeep : Keep w S.wr w' := ⟨hB.os, hB.tape, hB.output, hB.size, fun b hb _ => hB.block b hb, fun b cs e fz hb => ⟨cs, by rw [hB.block b (Array.getElem?_eq_some_iff.1 hb).1]; exact hb, rfl⟩⟩
    exact ⟨_, fun _ => none, .v (.string (jn ws)), Hp.emp, rfl, ⟨hkeep, rfl, fun i a h => by simp [Fr.get] at h, fun h B hB => by simp [Hp.emp] at hB, fun h q _ hq => (by cases hq), fun h g q r _ _ hq => (by cases hq), fun h l hl => (hp h l hl).elim⟩, rfl, rfl, rfl⟩
  by_cases hz : ws = []
  · subst hz
    refine (sh_strings_Join_none a cap ⟨#[32]⟩ w).mono ?_
    rintro e w' ⟨rfl, rfl⟩
    exact fin _ _ rfl (Below.refl _ _)
  · have hl0 : 0 < ws.length := List.length_pos_iff.2 hz
    cases a with
    | none => have := (k3 rfl).1; omega
    | some p =>
      obtain ⟨e0, _, c0, e2, _⟩ := k4 p rfl 0 (by omega)
      obtain ⟨bk, o, sp⟩ := p
      obtain rfl : sp = none := e0
      refine (sh_strings_Join bk o cap ws ⟨#[32]⟩ w (fun j x hj => ?_) (World.block_lt_of_cell? w _ e2) (by omega) k2 ?_).mono ?_
      · have hjl := (List.getElem?_eq_some_iff.1 hj).1
        obtain ⟨_, _, c, e3, e4⟩ := k4 _ rfl j (by omega)
        have := e4 L
        rw [cM_sv] at this
        simp only [Rd] at this
        rw [e3, this, List.getD_eq_getElem?_getD, hj]; rfl
      · have := congrArg ByteArray.size (jn_eq ws)
        have e5 : (⟨(Lib.join (ws.map (·.data.toList)) [32]).toArray⟩ : ByteArray).size = (Lib.join (ws.map (·.data.toList)) [32]).length := by
          show (Lib.join (ws.map (·.data.toList)) [32]).toArray.size = _
          simp
        show (Lib.join (ws.map (·.data.toList)) [32]).length ≤ _
        omega
      · rintro e w' ⟨rfl, hB⟩
        refine fin _ _ ?_ hB
        exact congrArg (fun s => Ending.returned (.string s)) (jn_eq ws)
end Go.Proofs.YtpffmolibjimgaaGreatDoor
end
/- Numbers as texts, by the program: decimal, readNumber. -/
section
namespace Go.Proofs.YtpffmolibjimgaaGreatDoor
open Go.Av
set_option linter.unusedSimpArgs false
set_option linter.unusedVariables false
attribute [local irreducible] AWP CallG Ob Br BrP Go.Av.Sub endQ AOps OpV AC thenA blkA opsVC opVC withA withArgs opsQ opQ CallQ withA2 withArgs2
theorem decimal_ok (v : Int) (h : r64 v) : AC Tryz.prog 75 [.v (.int .i64 (v))] Hp.emp (fun _ => false) (retV (.v (.string (itS v)))) := by
  have c1 := Hold.mk (formatInt10_ok v h)
  refine ac_of_awp (N := ⟨_, fun _ => false, fun _ _ => rfl, true⟩) Tryz.func75 rfl (by kernel_rfl) Tryz.ntmps75 (by simp) ?_
  simp only [argsFr, List.zipIdx_cons, List.zipIdx_nil, go_sem]
  repeat' (first | refine awp_seqK fun K hK => ?_ | (refine awp_regionK 5 rfl ?_; simp only [List.map_cons, List.map_nil]; simp (maxSteps := 1000000) (dsimp := false) (implicitDefEqProofs := false) (disch := omega) only [wrap64, go_sem]) | (refine awp_regionQK 5 (by kernel_rfl) (by kernel_rfl) (by kernel_rfl) ?_; simp only [List.map_cons, List.map_nil]; simp (maxSteps := 1000000) (dsimp := false) (implicitDefEqProofs := false) (disch := omega) only [wrap64, go_sem]) | refine awp_block ?_ | (refine awp_skip ?_; simp only [go_sem]) | (refine awp_exit ?_; simp only [go_sem]) | (refine awp_ret ?_; try simp only [go_sem]) | (refine awp_condP rfl ?_; try simp only [go_sem]) | (refine BrP.mk (fun h => ?_) (fun h => ?_) <;> try simp (dsimp := false) (disch := omega) only [wrap64]) | (refine Br.mk (fun h => ?_) (fun h => ?_) <;> try simp (dsimp := false) (disch := omega) only [wrap64]) | refine Ob.mk (by first | omega | (intro _ _; rfl) | trivial | (intros; trivial) | assumption | (intro i hi; have h0 : i = 0 := (by omega); subst h0; first | rfl | trivial) | (intro i hi; have h0 : i = 0 ∨ i = 1 := (by omega); rcases h0 with rfl | rfl <;> rfl) | (intro i hi; have h0 : i = 0 ∨ i = 1 ∨ i = 2 := (by omega); rcases h0 with rfl | rfl | rfl <;> rfl)) ?_ | ((first | ((first | refine atF (f := 100) ?_ | refine atQ (f := 100) ?_); (refine cV (hfit := .cons (.refl _) (.cons (.refl _) .nil)) (hac := c1.h) (hK := ?_)))); simp (maxSteps := 1000000) (dsimp := false) (implicitDefEqProofs := false) (disch := omega) only [wrap64, go_sem]) | apply_assumption -exfalso -symm)
  all_goals (first | (show endQ _ _ _ _ _ _ _; (repeat (rename (∀ (A : Fr) (H : Hp), AWP _ _ _ _ A H → _) => hK; clear hK)); (repeat (rename (Fr → Hp → Prop) => K; clear K))) | (show Exists _; (repeat (rename (∀ (A : Fr) (H : Hp), AWP _ _ _ _ A H → _) => hK; clear hK)); (repeat (rename (Fr → Hp → Prop) => K; clear K))) | skip)
  exact end_retV rfl rfl
/-- What a text says as a number. -/
def rnP (w : ByteArray) : Option Int := match Lib.parseIntB 64 w.data.toList with
  | .ok v => if (itS v).toList = w.toList ∧ (-999999999 ≤ v ∧ v ≤ 999999999) then some v else none
  | _ => none
def rnQ (w : ByteArray) (r : AV) : Prop := ∃ x : Int, r64 x ∧ r = .tup 2 (vecF [.v (.int .i64 (x)), .v (.bool ((rnP w).isSome))]) ∧ ∀ v, rnP w = some v → x = v
theorem readNumber_ok (w : ByteArray) (hs : w.size ≤ 281474976710656) : AC Tryz.prog 84 [.v (.string (w))] Hp.emp (fun _ => false) (postX (rnQ w)) := by
  have c1 := parseInt10_ok w hs
  have bad : (∀ v, Lib.parseIntB 64 w.data.toList ≠ .ok v) → AC Tryz.prog 111 [.v (.string (w)), .v (.int .i64 (10)), .v (.int .i64 (64))] Hp.emp (fun _ => false) (postX fun r => ∃ v te pe, r64 v ∧ r = .tup 2 (vecF [.v (.int .i64 (v)), .v (.iface te pe)])) → AC Tryz.prog 84 [.v (.string (w))] Hp.emp (fun _ => false) (postX (rnQ w)) := fun hno c2 => by
    have hQ : ∀ v, r64 v → rnQ w (.tup 2 (vecF [.v (.int .i64 (v)), .v (.bool (false))])) := fun v hv => by
      have e : rnP w = none := by
        unfold rnP
        split
        · exact absurd ‹_› (hno _)
        · rfl
      exact ⟨v, hv, by rw [e]; rfl, fun x hx => by rw [e] at hx; cases hx⟩
    have hQ := Hold.mk hQ
    have c2 := Hold.mk c2
    clear c1
    refine ac_of_awp (N := ⟨_, fun _ => false, fun _ _ => rfl, true⟩) Tryz.func84 rfl (by kernel_rfl) Tryz.ntmps84 (by simp) ?_
    simp only [argsFr, List.zipIdx_cons, List.zipIdx_nil, go_sem]
    repeat' (first | ((first | refine atF (f := 111) ?_ | refine atQ (f := 111) ?_); (refine callX c2.h (by rintro _ ⟨v, te, pe, _, rfl⟩ q; simp only [scrub_tup, scF_vecF, List.map_cons, List.map_nil]; rfl) (fun r hq => ?_); obtain ⟨v, te, pe, hv, rfl⟩ := hq) <;> simp (maxSteps := 1000000) (dsimp := false) (implicitDefEqProofs := false) (disch := omega) only [wrap64, go_sem]) | refine awp_seqK fun K hK => ?_ | (refine awp_regionK 61 rfl ?_; simp only [List.map_cons, List.map_nil]; simp (maxSteps := 1000000) (dsimp := false) (implicitDefEqProofs := false) (disch := omega) only [wrap64, go_sem]) | (refine awp_regionQK 61 (by kernel_rfl) (by kernel_rfl) (by kernel_rfl) ?_; simp only [List.map_cons, List.map_nil]; simp (maxSteps := 1000000) (dsimp := false) (implicitDefEqProofs := false) (disch := omega) only [wrap64, go_sem]) | refine awp_block ?_ | (refine awp_skip ?_; simp only [go_sem]) | (refine awp_exit ?_; simp only [go_sem]) | (refine awp_ret ?_; try simp only [go_sem]) | (refine awp_condP rfl ?_; try simp only [go_sem]) | (refine BrP.mk (fun h => ?_) (fun h => ?_) <;> try simp (dsimp := false) (disch := omega) only [wrap64]) | (refine Br.mk (fun h => ?_) (fun h => ?_) <;> try simp (dsimp := false) (disch := omega) only [wrap64]) | refine Ob.mk (by first | omega | (intro _ _; rfl) | trivial | (intros; trivial) | assumption | (intro i hi; have h0 : i = 0 := (by omega); subst h0; first | rfl | trivial) | (intro i hi; have h0 : i = 0 ∨ i = 1 := (by omega); rcases h0 with rfl | rfl <;> rfl) | (intro i hi; have h0 : i = 0 ∨ i = 1 ∨ i = 2 := (by omega); rcases h0 with rfl | rfl | rfl <;> rfl)) ?_ | apply_assumption -exfalso -symm)
    all_goals (first | (show endQ _ _ _ _ _ _ _; (repeat (rename (∀ (A : Fr) (H : Hp), AWP _ _ _ _ A H → _) => hK; clear hK)); (repeat (rename (Fr → Hp → Prop) => K; clear K))) | (show Exists _; (repeat (rename (∀ (A : Fr) (H : Hp), AWP _ _ _ _ A H → _) => hK; clear hK)); (repeat (rename (Fr → Hp → Prop) => K; clear K))) | skip)
    exact end_X2 rfl (by decide) rfl rfl (.refl _) (.refl _) (hQ.h v hv)
  unfold piOk at c1
  rcases h : Lib.parseIntB 64 w.data.toList with v | _ | _
  · rw [h] at c1
    have hv : r64 v := by
      have := Lib.parseIntB_bounds h
      have e : ((2 ^ (64 - 1) : Nat) : Int) = 9223372036854775808 := by decide
      rw [e] at this
      unfold r64; omega
    have c2 := Hold.mk (decimal_ok v hv)
    have c1 := Hold.mk c1
    have hQ : rnQ w (.tup 2 (vecF [.v (.int .i64 (v)), .v (.bool (decide ((itS v).toList = w.toList ∧ (-999999999 ≤ v ∧ v ≤ 999999999))))])) := by
      have e : rnP w = if (itS v).toList = w.toList ∧ (-999999999 ≤ v ∧ v ≤ 999999999) then some v else none := by unfold rnP; rw [h]
      refine ⟨v, hv, ?_, fun x hx => ?_⟩
      · rw [e]
        by_cases hc : (itS v).toList = w.toList ∧ (-999999999 ≤ v ∧ v ≤ 999999999)
        · rw [if_pos hc, decide_eq_true hc]; rfl
        · rw [if_neg hc, decide_eq_false hc]; rfl
      · rw [e] at hx
        split at hx
        · cases hx; rfl
        · cases hx
    have hQ := Hold.mk hQ
    clear h
    refine ac_of_awp (N := ⟨_, fun _ => false, fun _ _ => rfl, true⟩) Tryz.func84 rfl (by kernel_rfl) Tryz.ntmps84 (by simp) ?_
    simp only [argsFr, List.zipIdx_cons, List.zipIdx_nil, go_sem]
    repeat' (first | ((first | refine atF (f := 111) ?_ | refine atQ (f := 111) ?_); (refine callX c1.h (by rintro _ rfl q; simp only [scrub_tup, scF_vecF, List.map_cons, List.map_nil]; rfl) (fun r hq => ?_); subst hq) <;> simp (maxSteps := 1000000) (dsimp := false) (implicitDefEqProofs := false) (disch := omega) only [wrap64, go_sem]) | refine awp_seqK fun K hK => ?_ | (refine awp_regionK 61 rfl ?_; simp only [List.map_cons, List.map_nil]; simp (maxSteps := 1000000) (dsimp := false) (implicitDefEqProofs := false) (disch := omega) only [wrap64, go_sem]) | (refine awp_regionQK 61 (by kernel_rfl) (by kernel_rfl) (by kernel_rfl) ?_; simp only [List.map_cons, List.map_nil]; simp (maxSteps := 1000000) (dsimp := false) (implicitDefEqProofs := false) (disch := omega) only [wrap64, go_sem]) | refine awp_block ?_ | (refine awp_skip ?_; simp only [go_sem]) | (refine awp_exit ?_; simp only [go_sem]) | (refine awp_ret ?_; try simp only [go_sem]) | (refine awp_condP rfl ?_; try simp only [go_sem]) | (refine BrP.mk (fun h => ?_) (fun h => ?_) <;> try simp (dsimp := false) (disch := omega) only [wrap64]) | (refine Br.mk (fun h => ?_) (fun h => ?_) <;> try simp (dsimp := false) (disch := omega) only [wrap64]) | refine Ob.mk (by first | omega | (intro _ _; rfl) | trivial | (intros; trivial) | assumption | (intro i hi; have h0 : i = 0 := (by omega); subst h0; first | rfl | trivial) | (intro i hi; have h0 : i = 0 ∨ i = 1 := (by omega); rcases h0 with rfl | rfl <;> rfl) | (intro i hi; have h0 : i = 0 ∨ i = 1 ∨ i = 2 := (by omega); rcases h0 with rfl | rfl | rfl <;> rfl)) ?_ | ((first | ((first | refine atF (f := 75) ?_ | refine atQ (f := 75) ?_); (first | refine cV (hfit := .cons (.refl _) .nil) (hac := c2.h) (hK := ?_) | refine cQV (hfit := .cons (.refl _) .nil) (hac := c2.h) (hK := ?_))) | ((first | refine atF (f := 31) ?_ | refine atQ (f := 31) ?_); (first | (refine cV (hac := within_ok v _ _) (hK := ?_)) | (refine cQV (hac := within_ok v _ _) (hK := ?_))))); simp (maxSteps := 1000000) (dsimp := false) (implicitDefEqProofs := false) (disch := omega) only [wrap64, go_sem]) | apply_assumption -exfalso -symm)
    all_goals (first | (show endQ _ _ _ _ _ _ _; (repeat (rename (∀ (A : Fr) (H : Hp), AWP _ _ _ _ A H → _) => hK; clear hK)); (repeat (rename (Fr → Hp → Prop) => K; clear K))) | (show Exists _; (repeat (rename (∀ (A : Fr) (H : Hp), AWP _ _ _ _ A H → _) => hK; clear hK)); (repeat (rename (Fr → Hp → Prop) => K; clear K))) | skip)
    · refine end_X2 rfl (by decide) rfl rfl (.refl _) (.refl _) ?_
      have h1 := hQ.h
      rwa [show decide ((itS v).toList = w.toList ∧ (-999999999 ≤ v ∧ v ≤ 999999999)) = decide (-999999999 ≤ v ∧ v ≤ 999999999) from decide_eq_decide.2 ⟨fun x => x.2, fun x => ⟨by assumption, x⟩⟩] at h1
    · refine end_X2 rfl (by decide) rfl rfl (.refl _) (.refl _) ?_
      have h1 := hQ.h
      rwa [show decide ((itS v).toList = w.toList ∧ (-999999999 ≤ v ∧ v ≤ 999999999)) = false from decide_eq_false fun x => absurd x.1 (by assumption)] at h1
  · rw [h] at c1; exact bad (fun v e => by rw [h] at e; cases e) c1
  · rw [h] at c1; exact bad (fun v e => by rw [h] at e; cases e) c1
/-- What texts say as numbers. -/
def rnsP (ws : List ByteArray) : List Int × Bool := if ∀ j, j < ws.length → (rnP (ws.getD j ByteArray.empty)).isSome = true then (ws.map fun w => (rnP w).getD 0, true) else ([], false)
def rnL (ws : List ByteArray) (k : Nat) : List Int := (ws.take k).map fun w => (rnP w).getD 0
theorem rnL_len (ws : List ByteArray) {k : Nat} (h : k ≤ ws.length) : (rnL ws k).length = k := by unfold rnL; rw [List.length_map, List.length_take]; omega
theorem rnL_succ (ws : List ByteArray) {k : Nat} (h : k < ws.length) : rnL ws (k + 1) = rnL ws k ++ [(rnP (ws.getD k ByteArray.empty)).getD 0] := by
  unfold rnL
  rw [List.take_add_one, List.map_append, List.getD_eq_getElem?_getD, List.getElem?_eq_getElem h]
  rfl
theorem rn_scrub {w : ByteArray} (r : AV) (h : rnQ w r) (q : Nat → Bool) : r.scrub q = r := by
  obtain ⟨x, _, rfl, _⟩ := h
  simp only [scrub_tup, scF_vecF, List.map_cons, List.map_nil]; rfl
set_option maxHeartbeats 2000000 in
theorem readNumbers_ok (ws : List ByteArray) (hl : ws.length ≤ 1000) (hw : ∀ j, (ws.getD j ByteArray.empty).size ≤ 1000) : AC Tryz.prog 49 [strs ws] Hp.emp (fun _ => false) (retV (.tup 2 (vecF [ints (rnsP ws).1, .v (.bool ((rnsP ws).2))]))) := by
  have hw := Hold.mk hw
  have hF : ∀ k, k < ws.length → ¬ (rnP (ws.getD k ByteArray.empty)).isSome = true → rnsP ws = ([], false) := fun k h1 h2 => by
    unfold rnsP
    rw [if_neg fun h => h2 (h k h1)]
  have hF := Hold.mk hF
  refine ac_of_awp (N := ⟨_, fun _ => false, fun _ _ => rfl, true⟩) Tryz.func49 rfl (by kernel_rfl) Tryz.ntmps49 (by simp) ?_
  simp only [argsFr, List.zipIdx_cons, List.zipIdx_nil, go_sem]
  repeat' (first | refine awp_seqK fun K hK => ?_ | (refine awp_regionK 2105309 rfl ?_; simp only [List.map_cons, List.map_nil]; simp (maxSteps := 1000000) (dsimp := false) (implicitDefEqProofs := false) (disch := omega) only [wrap64, go_sem]) | (refine awp_regionQK 2105309 (by kernel_rfl) (by kernel_rfl) (by kernel_rfl) ?_; simp only [List.map_cons, List.map_nil]; simp (maxSteps := 1000000) (dsimp := false) (implicitDefEqProofs := false) (disch := omega) only [wrap64, go_sem]) | refine awp_block ?_ | (refine awp_skip ?_; simp only [go_sem]) | (refine awp_exit ?_; simp only [go_sem]) | (refine awp_ret ?_; try simp only [go_sem]) | (refine awp_condP rfl ?_; try simp only [go_sem]) | (refine BrP.mk (fun h => ?_) (fun h => ?_) <;> try simp (dsimp := false) (disch := omega) only [wrap64]) | (refine Br.mk (fun h => ?_) (fun h => ?_) <;> try simp (dsimp := false) (disch := omega) only [wrap64]) | refine Ob.mk (by first | omega | (intro _ _; rfl) | trivial | (intros; trivial) | assumption | (intro i hi; have h0 : i = 0 := (by omega); subst h0; first | rfl | trivial) | (intro i hi; have h0 : i = 0 ∨ i = 1 := (by omega); rcases h0 with rfl | rfl <;> rfl) | (intro i hi; have h0 : i = 0 ∨ i = 1 ∨ i = 2 := (by omega); rcases h0 with rfl | rfl | rfl <;> rfl)) ?_ | apply_assumption -exfalso -symm)
  all_goals (first | (show endQ _ _ _ _ _ _ _; (repeat (rename (∀ (A : Fr) (H : Hp), AWP _ _ _ _ A H → _) => hK; clear hK)); (repeat (rename (Fr → Hp → Prop) => K; clear K))) | (show Exists _; (repeat (rename (∀ (A : Fr) (H : Hp), AWP _ _ _ _ A H → _) => hK; clear hK)); (repeat (rename (Fr → Hp → Prop) => K; clear K))) | skip)
  refine awp_loop (ι := Nat) (fun k => [(11, .v (.int .i64 (k))), (10, .v (.int .i64 (ws.length))), (9, strs ws), (4, .own 30 0 1 k)]) (fun k => Hp.emp.upd 30 (.cells k (cM iv 0 (rnL ws k)))) (fun k => k ≤ ws.length ∧ Hold (∀ j, j < k → (rnP (ws.getD j ByteArray.empty)).isSome = true)) (fun k => ws.length - k) 0 ⟨Nat.zero_le _, ⟨fun j h => absurd h (Nat.not_lt_zero _)⟩⟩ (Sub.trans (Sub.nil (i := 4) 30 1 (cM iv 0 []) rfl rfl) (Sub.toL (by simp only [go_sem] <;> first | trivial | (simp only [Option.some.injEq, AV.v.injEq, AV.own.injEq, AV.list.injEq, Value.int.injEq, Value.bool.injEq, true_and, and_true]; first | omega | (simp; done)) | (simp; done) | (simp; omega)) (by (repeat' (first | exact Hp.le_emp _ | exact Hp.le_refl _ | refine Hp.le_upd ?_ ?_)); all_goals (first | rfl | (simp only [go_sem]; first | rfl | (refine cellsE ?_ ?_ <;> (simp)) | (simp)))))) ?_
  rintro k ⟨hk, hv⟩
  have hll := rnL_len ws hk
  have hls := Hold.mk (fun h : k < ws.length => rnL_succ ws h)
  have hn := Hold.mk (readNumber_ok (ws.getD k ByteArray.empty) (by have := hw.h k; omega))
  obtain ⟨b, eb⟩ : ∃ b, b = (rnP (ws.getD k ByteArray.empty)).isSome := ⟨_, rfl⟩
  have eb := Hold.mk eb
  repeat' (first | ((first | refine atF (f := 84) ?_ | refine atQ (f := 84) ?_); (refine callX hn.h rn_scrub (fun r hq => ?_); obtain ⟨x, hx, rfl, hxv⟩ := hq; have hxv := Hold.mk hxv; rw [← eb.h]) <;> simp (maxSteps := 1000000) (dsimp := false) (implicitDefEqProofs := false) (disch := omega) only [wrap64, go_sem]) | refine awp_seqK fun K hK => ?_ | (refine awp_regionK 2105309 rfl ?_; simp only [List.map_cons, List.map_nil]; simp (maxSteps := 1000000) (dsimp := false) (implicitDefEqProofs := false) (disch := omega) only [wrap64, go_sem]) | (refine awp_regionQK 2105309 (by kernel_rfl) (by kernel_rfl) (by kernel_rfl) ?_; simp only [List.map_cons, List.map_nil]; simp (maxSteps := 1000000) (dsimp := false) (implicitDefEqProofs := false) (disch := omega) only [wrap64, go_sem]) | refine awp_block ?_ | (refine awp_skip ?_; simp only [go_sem]) | (refine awp_exit ?_; simp only [go_sem]) | (refine awp_ret ?_; try simp only [go_sem]) | (refine awp_condP rfl ?_; try simp only [go_sem]) | (refine BrP.mk (fun h => ?_) (fun h => ?_) <;> try simp (dsimp := false) (disch := omega) only [wrap64]) | (refine Br.mk (fun h => ?_) (fun h => ?_) <;> try simp (dsimp := false) (disch := omega) only [wrap64]) | refine Ob.mk (by first | omega | (intro _ _; rfl) | trivial | (intros; trivial) | assumption | (intro i hi; have h0 : i = 0 := (by omega); subst h0; first | rfl | trivial) | (intro i hi; have h0 : i = 0 ∨ i = 1 := (by omega); rcases h0 with rfl | rfl <;> rfl) | (intro i hi; have h0 : i = 0 ∨ i = 1 ∨ i = 2 := (by omega); rcases h0 with rfl | rfl | rfl <;> rfl)) ?_ | apply_assumption -exfalso -symm)
  all_goals (first | (show endQ _ _ _ _ _ _ _; (repeat (rename (∀ (A : Fr) (H : Hp), AWP _ _ _ _ A H → _) => hK; clear hK)); (repeat (rename (Fr → Hp → Prop) => K; clear K))) | (show Exists _; (repeat (rename (∀ (A : Fr) (H : Hp), AWP _ _ _ _ A H → _) => hK; clear hK)); (repeat (rename (Fr → Hp → Prop) => K; clear K))) | skip)
  · have hk2 : k < ws.length := by omega
    have hx0 : (rnP (ws.getD k ByteArray.empty)).getD 0 = x := by
      obtain ⟨v, ev⟩ := Option.isSome_iff_exists.1 (eb.h.symm.trans ‹b = true›)
      rw [ev]; exact (hxv.h v ev).symm
    refine ⟨k + 1, ⟨by omega, ⟨fun j hj => ?_⟩⟩, by omega, ?_⟩
    · by_cases e : j = k
      · rw [e, ← eb.h]; assumption
      · exact hv.h j (by omega)
    · have e1 := apF_cM iv 0 (rnL ws k) [x]
      rw [hll] at e1
      rw [hls.h hk2, hx0, e1]
      exact Sub.toL (by simp only [go_sem] <;> first | trivial | (simp only [Option.some.injEq, AV.v.injEq, AV.own.injEq, AV.list.injEq, Value.int.injEq, Value.bool.injEq, true_and, and_true]; first | omega | (simp; done)) | (simp; done) | (simp; omega)) (by (repeat' (first | exact Hp.le_emp _ | exact Hp.le_refl _ | refine Hp.le_upd ?_ ?_)); all_goals (first | rfl | (simp only [go_sem]; first | rfl | (refine cellsE ?_ ?_ <;> (simp)) | (simp))))
  · rw [hF.h k (by omega) (by rw [← eb.h]; simp [‹b = false›])]
    exact end_T2 rfl (by decide) rfl rfl .nil (.refl _)
  · have ek : k = ws.length := by omega
    have e0 : rnsP ws = (rnL ws k, true) := by
      unfold rnsP
      rw [if_pos fun j hj => hv.h j (by omega)]
      unfold rnL
      rw [ek, List.take_length]
    obtain ⟨l, el⟩ : ∃ l, l = rnL ws k := ⟨_, rfl⟩
    rw [← el] at e0 hll ⊢
    rw [e0, ← hll]
    exact end_T2 rfl (by decide) rfl rfl (fits_I rfl trivial rfl rfl) (.refl _)
end Go.Proofs.YtpffmolibjimgaaGreatDoor
end
/- Texts of the reference: formatInt, joinText, formatInts. -/
section
namespace Go.Proofs.YtpffmolibjimgaaGreatDoor
open Go.Av
set_option linter.unusedSimpArgs false
set_option linter.unusedVariables false
attribute [local irreducible] AWP CallG Ob Br BrP Go.Av.Sub endQ AOps OpV AC thenA blkA opsVC opVC withA withArgs opsQ opQ CallQ withA2 withArgs2
/-- One digit's text. -/
def dg1 (d : Nat) : ByteArray := strOf 1 (setF (zF [.int .u8 0]) 0 (.v (.int .u8 ((48 + d : Nat) : Int))))
theorem strOf1_size (f : Nat → AV) : (strOf 1 f).size = 1 := rfl
theorem isB1 {d : Nat} (h : d ≤ 9) (z : Nat → AV) : ∀ i, i < 1 → isByte (setF z 0 (.v (.int .u8 ((48 + d : Nat) : Int))) i) := fun i hi => by
  obtain rfl : i = 0 := by omega
  show isByte (.v (.int .u8 ((48 + d : Nat) : Int)))
  exact ⟨_, rfl⟩
/-- The last k digits. -/
def dgS (v : Nat) : Nat → ByteArray
  | 0 => ⟨#[]⟩
  | k + 1 => dg1 (v / 10 ^ k % 10) ++ dgS v k
theorem dgS_size (v : Nat) : ∀ k, (dgS v k).size = k
  | 0 => rfl
  | k + 1 => by
    have := dgS_size v k
    have h1 : (dg1 (v / 10 ^ k % 10)).size = 1 := rfl
    unfold dgS
    rw [ByteArray.size_append, this, h1]
    omega
def ndS (v : Nat) : Nat := if v < 10 then 1 else if v < 100 then 2 else 3
/-- The text of a small number. -/
def fmS (v : Nat) : ByteArray := dgS v (ndS v)
theorem fmS_size (v : Nat) : (fmS v).size ≤ 3 := by
  unfold fmS; rw [dgS_size]; unfold ndS; split <;> (try split) <;> omega
theorem formatInt_ok (v : Nat) (hv : v < 1000) : AC Tryz.prog 79 [.v (.int .i64 ((v : Nat)))] Hp.emp (fun _ => false) (retV (.v (.string (fmS v)))) := by
  have hn3 : ndS v ≤ 3 := by unfold ndS; split <;> (try split) <;> omega
  have hnd : (v < 10 ∧ ndS v = 1) ∨ (10 ≤ v ∧ v < 100 ∧ ndS v = 2) ∨ (100 ≤ v ∧ ndS v = 3) := by unfold ndS; split <;> (try split) <;> omega
  refine ac_of_awp (N := ⟨_, fun _ => false, fun _ _ => rfl, true⟩) Tryz.func79 rfl (by kernel_rfl) Tryz.ntmps79 (by simp) ?_
  simp only [argsFr, List.zipIdx_cons, List.zipIdx_nil, go_sem]
  repeat' (first | refine awp_seqK fun K hK => ?_ | (refine awp_regionK 537010237 rfl ?_; simp only [List.map_cons, List.map_nil]; simp (maxSteps := 1000000) (dsimp := false) (implicitDefEqProofs := false) (disch := omega) only [wrap64, go_sem]) | (refine awp_regionQK 537010237 (by kernel_rfl) (by kernel_rfl) (by kernel_rfl) ?_; simp only [List.map_cons, List.map_nil]; simp (maxSteps := 1000000) (dsimp := false) (implicitDefEqProofs := false) (disch := omega) only [wrap64, go_sem]) | refine awp_block ?_ | (refine awp_skip ?_; simp only [go_sem]) | (refine awp_exit ?_; simp only [go_sem]) | (refine awp_ret ?_; try simp only [go_sem]) | (refine awp_condP rfl ?_; try simp only [go_sem]) | (refine BrP.mk (fun h => ?_) (fun h => ?_) <;> try simp (dsimp := false) (disch := omega) only [wrap64]) | (refine Br.mk (fun h => ?_) (fun h => ?_) <;> try simp (dsimp := false) (disch := omega) only [wrap64]) | refine Ob.mk (by first | omega | (intro _ _; rfl) | trivial | (intros; trivial) | assumption | (intro i hi; have h0 : i = 0 := (by omega); subst h0; first | rfl | trivial) | (intro i hi; have h0 : i = 0 ∨ i = 1 := (by omega); rcases h0 with rfl | rfl <;> rfl) | (intro i hi; have h0 : i = 0 ∨ i = 1 ∨ i = 2 := (by omega); rcases h0 with rfl | rfl | rfl <;> rfl)) ?_ | apply_assumption -exfalso -symm)
  all_goals (first | (show endQ _ _ _ _ _ _ _; (repeat (rename (∀ (A : Fr) (H : Hp), AWP _ _ _ _ A H → _) => hK; clear hK)); (repeat (rename (Fr → Hp → Prop) => K; clear K))) | (show Exists _; (repeat (rename (∀ (A : Fr) (H : Hp), AWP _ _ _ _ A H → _) => hK; clear hK)); (repeat (rename (Fr → Hp → Prop) => K; clear K))) | skip)
  refine awp_loop (ι := Nat) (fun k => [(0, .v (.int .i64 ((v / 10 ^ k : Nat)))), (3, .v (.string (dgS v k))), (4, .v (.bool (false)))]) (fun _ => Hp.emp) (fun k => k ≤ ndS v) (fun k => ndS v - k) 0 (Nat.zero_le _) ?_ ?_
  · have hv0 : decide ((v : Int) < 0) = false := decide_eq_false (by omega)
    rw [hv0]
    exact Sub.toL (by simp only [go_sem] <;> first | trivial | (simp only [Option.some.injEq, AV.v.injEq, AV.own.injEq, AV.list.injEq, Value.int.injEq, Value.bool.injEq, true_and, and_true]; first | omega | (simp [dgS]; done)) | (simp [dgS]; done) | (simp [dgS]; omega)) (Hp.le_refl _)
  intro k hk
  have hsz := dgS_size v k
  obtain ⟨q, eq⟩ : ∃ q, q = v / 10 ^ k := ⟨_, rfl⟩
  have hq2 : q / 10 = v / 10 ^ (k + 1) := by rw [eq, Nat.div_div_eq_div_mul, Nat.pow_succ]
  have hst : dgS v (k + 1) = dg1 (q % 10) ++ dgS v k := by rw [eq]; rfl
  have hql : (k = 0 ∧ q = v) ∨ (k = 1 ∧ q = v / 10) ∨ (k = 2 ∧ q = v / 100) ∨ (k = 3 ∧ q = v / 1000) := by
    have : k = 0 ∨ k = 1 ∨ k = 2 ∨ k = 3 := by omega
    rcases this with rfl | rfl | rfl | rfl
    · exact .inl ⟨rfl, by rw [eq]; simp⟩
    · exact .inr (.inl ⟨rfl, by rw [eq]⟩)
    · exact .inr (.inr (.inl ⟨rfl, by rw [eq]⟩))
    · exact .inr (.inr (.inr ⟨rfl, by rw [eq]⟩))
  rw [← eq]
  have hemp : (dgS v k).toList = (⟨#[]⟩ : ByteArray).toList ↔ k = 0 := ⟨fun h => by
    have := congrArg List.length h
    rw [ByteArray.toList_eq, ByteArray.toList_eq, Array.length_toList, Array.length_toList] at this
    rw [← hsz]; exact this, fun h => by rw [h]; rfl⟩
  have hmod : ((q : Nat) : Int).tmod 10 = ((q % 10 : Nat) : Int) := rfl
  have hdiv : IntKind.i64.wrap (((q : Nat) : Int).tdiv 10) = ((q / 10 : Nat) : Int) := by
    rw [show ((q : Nat) : Int).tdiv 10 = ((q / 10 : Nat) : Int) from rfl, wrap64 (by omega)]
  have hlt : decide ((((q % 10 : Nat) : Nat) : Int) < 0) = false := decide_eq_false (by omega)
  have hw : IntKind.u8.wrap (48 + ((q % 10 : Nat) : Int)) = ((48 + q % 10 : Nat) : Int) := by
    rw [wrapU8 (by omega)]; omega
  repeat' (first | (refine Ob.mk (isB1 (d := q % 10) (by omega) _) ?_) | (refine Ob.mk (by rw [strOf1_size]; omega) ?_) | refine awp_seqK fun K hK => ?_ | (refine awp_regionK 537010237 rfl ?_; simp only [List.map_cons, List.map_nil]; simp (maxSteps := 1000000) (dsimp := false) (implicitDefEqProofs := false) (disch := omega) only [wrap64, go_sem, hmod, hdiv, hlt, hw, hsz]) | (refine awp_regionQK 537010237 (by kernel_rfl) (by kernel_rfl) (by kernel_rfl) ?_; simp only [List.map_cons, List.map_nil]; simp (maxSteps := 1000000) (dsimp := false) (implicitDefEqProofs := false) (disch := omega) only [wrap64, go_sem, hmod, hdiv, hlt, hw, hsz]) | refine awp_block ?_ | (refine awp_skip ?_; simp only [go_sem, hmod, hdiv, hlt, hw, hsz]) | (refine awp_exit ?_; simp only [go_sem, hmod, hdiv, hlt, hw, hsz]) | (refine awp_ret ?_; try simp only [go_sem, hmod, hdiv, hlt, hw, hsz]) | (refine awp_condP rfl ?_; try simp only [go_sem, hmod, hdiv, hlt, hw, hsz]) | (refine BrP.mk (fun h => ?_) (fun h => ?_) <;> try simp (dsimp := false) (disch := omega) only [wrap64]) | (refine Br.mk (fun h => ?_) (fun h => ?_) <;> try simp (dsimp := false) (disch := omega) only [wrap64]) | refine Ob.mk (by first | omega | (intro _ _; rfl) | trivial | (intros; trivial) | assumption | (intro i hi; have h0 : i = 0 := (by omega); subst h0; first | rfl | trivial) | (intro i hi; have h0 : i = 0 ∨ i = 1 := (by omega); rcases h0 with rfl | rfl <;> rfl) | (intro i hi; have h0 : i = 0 ∨ i = 1 ∨ i = 2 := (by omega); rcases h0 with rfl | rfl | rfl <;> rfl)) ?_ | apply_assumption -exfalso -symm)
  all_goals (first | (show endQ _ _ _ _ _ _ _; (repeat (rename (∀ (A : Fr) (H : Hp), AWP _ _ _ _ A H → _) => hK; clear hK)); (repeat (rename (Fr → Hp → Prop) => K; clear K))) | (show Exists _; (repeat (rename (∀ (A : Fr) (H : Hp), AWP _ _ _ _ A H → _) => hK; clear hK)); (repeat (rename (Fr → Hp → Prop) => K; clear K))) | skip)
  · have k0 := hemp.1 (by assumption)
    refine ⟨k + 1, by omega, by omega, ?_⟩
    rw [← hq2, hst]
    exact Sub.toL (by simp only [go_sem] <;> first | trivial | (simp only [Option.some.injEq, AV.v.injEq, AV.own.injEq, AV.list.injEq, Value.int.injEq, Value.bool.injEq, true_and, and_true]; first | omega | (simp [dg1]; done)) | (simp [dg1]; done) | (simp [dg1]; omega)) (Hp.le_emp _)
  · have k0 : ¬ k = 0 := fun h => absurd (hemp.2 h) (by assumption)
    have ek : k = ndS v := by omega
    exact end_retV' rfl rfl (by rw [ek]; rfl)
  · refine ⟨k + 1, by omega, by omega, ?_⟩
    rw [← hq2, hst]
    exact Sub.toL (by simp only [go_sem] <;> first | trivial | (simp only [Option.some.injEq, AV.v.injEq, AV.own.injEq, AV.list.injEq, Value.int.injEq, Value.bool.injEq, true_and, and_true]; first | omega | (simp [dg1]; done)) | (simp [dg1]; done) | (simp [dg1]; omega)) (Hp.le_emp _)
/-- Texts joined, the first k. -/
def jnS (sep : ByteArray) (ws : List ByteArray) : Nat → ByteArray
  | 0 => ⟨#[]⟩
  | k + 1 => (if 0 < k then jnS sep ws k ++ sep else jnS sep ws k) ++ ws.getD k ByteArray.empty
theorem jnS_size (sep : ByteArray) (ws : List ByteArray) (m : Nat) (h : ∀ j, (ws.getD j ByteArray.empty).size ≤ m) : ∀ k, (jnS sep ws k).size ≤ k * (m + sep.size)
  | 0 => Nat.zero_le _
  | k + 1 => by
    have h1 := jnS_size sep ws m h k
    have h2 := h k
    unfold jnS
    rw [Nat.add_mul, Nat.one_mul, ByteArray.size_append]
    split
    · rw [ByteArray.size_append]; omega
    · omega
theorem joinText_ok (ws : List ByteArray) (sep : ByteArray) (hl : ws.length ≤ 1000) (hw : ∀ j, (ws.getD j ByteArray.empty).size ≤ 1000) (hs : sep.size ≤ 1000) : AC Tryz.prog 80 [strs ws, .v (.string (sep))] Hp.emp (fun _ => false) (retV (.v (.string (jnS sep ws ws.length)))) := by
  have hw := Hold.mk hw
  refine ac_of_awp (N := ⟨_, fun _ => false, fun _ _ => rfl, true⟩) Tryz.func80 rfl (by kernel_rfl) Tryz.ntmps80 (by simp) ?_
  simp only [argsFr, List.zipIdx_cons, List.zipIdx_nil, go_sem]
  repeat' (first | refine awp_seqK fun K hK => ?_ | (refine awp_regionK 17523 rfl ?_; simp only [List.map_cons, List.map_nil]; simp (maxSteps := 1000000) (dsimp := false) (implicitDefEqProofs := false) (disch := omega) only [wrap64, go_sem]) | (refine awp_regionQK 17523 (by kernel_rfl) (by kernel_rfl) (by kernel_rfl) ?_; simp only [List.map_cons, List.map_nil]; simp (maxSteps := 1000000) (dsimp := false) (implicitDefEqProofs := false) (disch := omega) only [wrap64, go_sem]) | refine awp_block ?_ | (refine awp_skip ?_; simp only [go_sem]) | (refine awp_exit ?_; simp only [go_sem]) | (refine awp_ret ?_; try simp only [go_sem]) | (refine awp_condP rfl ?_; try simp only [go_sem]) | (refine BrP.mk (fun h => ?_) (fun h => ?_) <;> try simp (dsimp := false) (disch := omega) only [wrap64]) | (refine Br.mk (fun h => ?_) (fun h => ?_) <;> try simp (dsimp := false) (disch := omega) only [wrap64]) | refine Ob.mk (by first | omega | (intro _ _; rfl) | trivial | (intros; trivial) | assumption | (intro i hi; have h0 : i = 0 := (by omega); subst h0; first | rfl | trivial) | (intro i hi; have h0 : i = 0 ∨ i = 1 := (by omega); rcases h0 with rfl | rfl <;> rfl) | (intro i hi; have h0 : i = 0 ∨ i = 1 ∨ i = 2 := (by omega); rcases h0 with rfl | rfl | rfl <;> rfl)) ?_ | apply_assumption -exfalso -symm)
  all_goals (first | (show endQ _ _ _ _ _ _ _; (repeat (rename (∀ (A : Fr) (H : Hp), AWP _ _ _ _ A H → _) => hK; clear hK)); (repeat (rename (Fr → Hp → Prop) => K; clear K))) | (show Exists _; (repeat (rename (∀ (A : Fr) (H : Hp), AWP _ _ _ _ A H → _) => hK; clear hK)); (repeat (rename (Fr → Hp → Prop) => K; clear K))) | skip)
  refine awp_loop (ι := Nat) (fun k => [(6, .v (.int .i64 ((k : Nat)))), (5, .v (.string (jnS sep ws k))), (0, strs ws), (1, .v (.string (sep)))]) (fun k => Hp.emp) (fun k => k ≤ ws.length) (fun k => ws.length - k) 0 ?_ (Sub.toL (by simp only [go_sem] <;> first | trivial | (simp only [Option.some.injEq, AV.v.injEq, AV.own.injEq, AV.list.injEq, Value.int.injEq, Value.bool.injEq, true_and, and_true]; first | omega | (simp [jnS]; done)) | (simp [jnS]; done) | (simp [jnS]; omega)) (by (repeat' (first | exact Hp.le_emp _ | exact Hp.le_refl _ | refine Hp.le_upd ?_ ?_)); all_goals (first | rfl | (simp only [go_sem]; first | rfl | (refine cellsE ?_ ?_ <;> (simp [jnS])) | (simp [jnS]))))) ?_
  · exact Nat.zero_le _
  intro k hk
  have h1 := jnS_size sep ws 1000 hw.h k
  have h2 := hw.h k
  have h3 : k * (1000 + sep.size) ≤ 1000 * 2000 := Nat.mul_le_mul (by omega) (by omega)
  have hst : jnS sep ws (k + 1) = (if 0 < k then jnS sep ws k ++ sep else jnS sep ws k) ++ ws.getD k ByteArray.empty := rfl
  have hsz := ByteArray.size_append (a := jnS sep ws k) (b := sep)
  repeat' (first | refine awp_seqK fun K hK => ?_ | (refine awp_regionK 17523 rfl ?_; simp only [List.map_cons, List.map_nil]; simp (maxSteps := 1000000) (dsimp := false) (implicitDefEqProofs := false) (disch := omega) only [wrap64, go_sem, hsz]) | (refine awp_regionQK 17523 (by kernel_rfl) (by kernel_rfl) (by kernel_rfl) ?_; simp only [List.map_cons, List.map_nil]; simp (maxSteps := 1000000) (dsimp := false) (implicitDefEqProofs := false) (disch := omega) only [wrap64, go_sem, hsz]) | refine awp_block ?_ | (refine awp_skip ?_; simp only [go_sem, hsz]) | (refine awp_exit ?_; simp only [go_sem, hsz]) | (refine awp_ret ?_; try simp only [go_sem, hsz]) | (refine awp_condP rfl ?_; try simp only [go_sem, hsz]) | (refine BrP.mk (fun h => ?_) (fun h => ?_) <;> try simp (dsimp := false) (disch := omega) only [wrap64]) | (refine Br.mk (fun h => ?_) (fun h => ?_) <;> try simp (dsimp := false) (disch := omega) only [wrap64]) | refine Ob.mk (by first | omega | (intro _ _; rfl) | trivial | (intros; trivial) | assumption | (intro i hi; have h0 : i = 0 := (by omega); subst h0; first | rfl | trivial) | (intro i hi; have h0 : i = 0 ∨ i = 1 := (by omega); rcases h0 with rfl | rfl <;> rfl) | (intro i hi; have h0 : i = 0 ∨ i = 1 ∨ i = 2 := (by omega); rcases h0 with rfl | rfl | rfl <;> rfl)) ?_ | apply_assumption -exfalso -symm)
  all_goals (first | (show endQ _ _ _ _ _ _ _; (repeat (rename (∀ (A : Fr) (H : Hp), AWP _ _ _ _ A H → _) => hK; clear hK)); (repeat (rename (Fr → Hp → Prop) => K; clear K))) | (show Exists _; (repeat (rename (∀ (A : Fr) (H : Hp), AWP _ _ _ _ A H → _) => hK; clear hK)); (repeat (rename (Fr → Hp → Prop) => K; clear K))) | skip)
  · refine ⟨k + 1, by omega, by omega, ?_⟩
    rw [hst, if_pos (by omega)]
    exact Sub.toL (by simp only [go_sem] <;> first | trivial | (simp only [Option.some.injEq, AV.v.injEq, AV.own.injEq, AV.list.injEq, Value.int.injEq, Value.bool.injEq, true_and, and_true]; first | omega | (simp; done)) | (simp; done) | (simp; omega)) (Hp.le_refl _)
  · refine ⟨k + 1, by omega, by omega, ?_⟩
    rw [hst, if_neg (by omega)]
    exact Sub.toL (by simp only [go_sem] <;> first | trivial | (simp only [Option.some.injEq, AV.v.injEq, AV.own.injEq, AV.list.injEq, Value.int.injEq, Value.bool.injEq, true_and, and_true]; first | omega | (simp; done)) | (simp; done) | (simp; omega)) (Hp.le_refl _)
  · have ek : k = ws.length := by omega
    exact end_retV' rfl rfl (by rw [ek])
/-- A row of small numbers, as text. -/
def fisS (xs : List Int) (k : Nat) : List ByteArray := (xs.take k).map fun x => fmS x.toNat
theorem fisS_len (xs : List Int) {k : Nat} (h : k ≤ xs.length) : (fisS xs k).length = k := by unfold fisS; rw [List.length_map, List.length_take]; omega
theorem fisS_succ (xs : List Int) {k : Nat} (h : k < xs.length) : fisS xs (k + 1) = fisS xs k ++ [fmS (xs.getD k 0).toNat] := by
  unfold fisS
  rw [List.take_add_one, List.map_append, List.getD_eq_getElem?_getD, List.getElem?_eq_getElem h]
  rfl
theorem fisS_row (xs : List Int) (k j : Nat) : ((fisS xs k).getD j ByteArray.empty).size ≤ 1000 := by
  by_cases hj : j < (fisS xs k).length
  · have hm : (fisS xs k).getD j ByteArray.empty ∈ fisS xs k := by rw [List.getD_eq_getElem?_getD, List.getElem?_eq_getElem hj]; exact List.getElem_mem hj
    obtain ⟨x, _, e⟩ := List.mem_map.1 hm
    rw [← e]
    have := fmS_size x.toNat
    omega
  · rw [List.getD_eq_getElem?_getD, List.getElem?_eq_none (by omega)]; exact Nat.zero_le _
def fisP (xs : List Int) : ByteArray := jnS ⟨#[32]⟩ (fisS xs xs.length) xs.length
theorem formatInts_ok (xs : List Int) (hl : xs.length ≤ 1000) (hx : ∀ j, j < xs.length → 0 ≤ xs.getD j 0 ∧ xs.getD j 0 < 1000) : AC Tryz.prog 44 [ints xs] Hp.emp (fun _ => false) (retV (.v (.string (fisP xs)))) := by
  refine ac_of_awp (N := ⟨_, fun _ => false, fun _ _ => rfl, true⟩) Tryz.func44 rfl (by kernel_rfl) Tryz.ntmps44 (by simp) ?_
  simp only [argsFr, List.zipIdx_cons, List.zipIdx_nil, go_sem]
  repeat' (first | refine awp_seqK fun K hK => ?_ | (refine awp_regionK 541 rfl ?_; simp only [List.map_cons, List.map_nil]; simp (maxSteps := 1000000) (dsimp := false) (implicitDefEqProofs := false) (disch := omega) only [wrap64, go_sem]) | (refine awp_regionQK 541 (by kernel_rfl) (by kernel_rfl) (by kernel_rfl) ?_; simp only [List.map_cons, List.map_nil]; simp (maxSteps := 1000000) (dsimp := false) (implicitDefEqProofs := false) (disch := omega) only [wrap64, go_sem]) | refine awp_block ?_ | (refine awp_skip ?_; simp only [go_sem]) | (refine awp_exit ?_; simp only [go_sem]) | (refine awp_ret ?_; try simp only [go_sem]) | (refine awp_condP rfl ?_; try simp only [go_sem]) | (refine BrP.mk (fun h => ?_) (fun h => ?_) <;> try simp (dsimp := false) (disch := omega) only [wrap64]) | (refine Br.mk (fun h => ?_) (fun h => ?_) <;> try simp (dsimp := false) (disch := omega) only [wrap64]) | refine Ob.mk (by first | omega | (intro _ _; rfl) | trivial | (intros; trivial) | assumption | (intro i hi; have h0 : i = 0 := (by omega); subst h0; first | rfl | trivial) | (intro i hi; have h0 : i = 0 ∨ i = 1 := (by omega); rcases h0 with rfl | rfl <;> rfl) | (intro i hi; have h0 : i = 0 ∨ i = 1 ∨ i = 2 := (by omega); rcases h0 with rfl | rfl | rfl <;> rfl)) ?_ | apply_assumption -exfalso -symm)
  all_goals (first | (show endQ _ _ _ _ _ _ _; (repeat (rename (∀ (A : Fr) (H : Hp), AWP _ _ _ _ A H → _) => hK; clear hK)); (repeat (rename (Fr → Hp → Prop) => K; clear K))) | (show Exists _; (repeat (rename (∀ (A : Fr) (H : Hp), AWP _ _ _ _ A H → _) => hK; clear hK)); (repeat (rename (Fr → Hp → Prop) => K; clear K))) | skip)
  refine awp_loop (ι := Nat) (fun k => [(4, .v (.int .i64 ((k : Nat)))), (3, .own 5 0 1 k), (0, .list false 1 (xs).length (cM iv 0 (xs)))]) (fun k => Hp.emp.upd 5 (.cells k (cM sv ByteArray.empty (fisS xs k)))) (fun k => k ≤ xs.length) (fun k => xs.length - k) 0 (Nat.zero_le _) ?_ ?_
  · exact Sub.toFF (fun _ => False) (Fr.fit_cons rfl (.refl _) (Fr.fit_cons rfl (.refl _) (Fr.fit_cons rfl (.refl _) (Fr.fit_nil _)))) (leF_upd rfl (bfE rfl (fun i hi => absurd hi (Nat.not_lt_zero _))) leF_emp id)
  intro k hk
  have hml := fisS_len xs hk
  have hxk := hx k
  have hf := fun h : k < xs.length => formatInt_ok (xs.getD k 0).toNat (by have := hxk h; omega)
  have hf : k < xs.length → AC Tryz.prog 79 [.v (.int .i64 (xs.getD k 0))] Hp.emp (fun _ => false) (retV (.v (.string (fmS (xs.getD k 0).toNat)))) := fun h => by
    have h1 := hf h
    rwa [show (((xs.getD k 0).toNat : Nat) : Int) = xs.getD k 0 by have := hxk h; omega] at h1
  have hf := Hold.mk hf
  have hjn := Hold.mk (fun h : k = xs.length => joinText_ok (fisS xs k) ⟨#[32]⟩ (by omega) (fisS_row xs k) (by decide))
  repeat' (first | refine awp_seqK fun K hK => ?_ | (refine awp_regionK 541 rfl ?_; simp only [List.map_cons, List.map_nil]; simp (maxSteps := 1000000) (dsimp := false) (implicitDefEqProofs := false) (disch := omega) only [wrap64, go_sem]) | (refine awp_regionQK 541 (by kernel_rfl) (by kernel_rfl) (by kernel_rfl) ?_; simp only [List.map_cons, List.map_nil]; simp (maxSteps := 1000000) (dsimp := false) (implicitDefEqProofs := false) (disch := omega) only [wrap64, go_sem]) | refine awp_block ?_ | (refine awp_skip ?_; simp only [go_sem]) | (refine awp_exit ?_; simp only [go_sem]) | (refine awp_ret ?_; try simp only [go_sem]) | (refine awp_condP rfl ?_; try simp only [go_sem]) | (refine BrP.mk (fun h => ?_) (fun h => ?_) <;> try simp (dsimp := false) (disch := omega) only [wrap64]) | (refine Br.mk (fun h => ?_) (fun h => ?_) <;> try simp (dsimp := false) (disch := omega) only [wrap64]) | refine Ob.mk (by first | omega | (intro _ _; rfl) | trivial | (intros; trivial) | assumption | (intro i hi; have h0 : i = 0 := (by omega); subst h0; first | rfl | trivial) | (intro i hi; have h0 : i = 0 ∨ i = 1 := (by omega); rcases h0 with rfl | rfl <;> rfl) | (intro i hi; have h0 : i = 0 ∨ i = 1 ∨ i = 2 := (by omega); rcases h0 with rfl | rfl | rfl <;> rfl)) ?_ | ((first | (refine cV (hac := hf.h (by omega)) (hK := ?_)) | (refine cQV (hac := hf.h (by omega)) (hK := ?_)) | ((first | refine atF (f := 80) ?_ | refine atQ (f := 80) ?_); (refine cV (hfit := .cons (fits_S rfl trivial hml.symm) (.cons (.refl _) .nil)) (hac := hjn.h (by omega)) (hK := ?_)))); simp (maxSteps := 1000000) (dsimp := false) (implicitDefEqProofs := false) (disch := omega) only [wrap64, go_sem]) | apply_assumption -exfalso -symm)
  all_goals (first | (show endQ _ _ _ _ _ _ _; (repeat (rename (∀ (A : Fr) (H : Hp), AWP _ _ _ _ A H → _) => hK; clear hK)); (repeat (rename (Fr → Hp → Prop) => K; clear K))) | (show Exists _; (repeat (rename (∀ (A : Fr) (H : Hp), AWP _ _ _ _ A H → _) => hK; clear hK)); (repeat (rename (Fr → Hp → Prop) => K; clear K))) | skip)
  · refine ⟨k + 1, by omega, by omega, ?_⟩
    refine Sub.toFF (fun _ => False) (Fr.fit_cons rfl (.refl _) (Fr.fit_cons rfl (.refl _) (Fr.fit_cons rfl (.refl _) (Fr.fit_nil _)))) (leF_upd rfl (bfE rfl (fun i hi => ?_)) leF_emp id)
    rw [fisS_succ xs (by omega)]
    have := ap_S (fisS xs k) (fmS (xs.getD k 0).toNat) (zF [Value.string { data := #[] }]) i (by omega)
    rw [hml] at this
    exact this
  · have ek : k = xs.length := by omega
    exact end_retV' rfl rfl (by rw [hml, ek]; rfl)
end Go.Proofs.YtpffmolibjimgaaGreatDoor
end
/- Cycles of the reference: Cycles, FormatCycles. -/
section
namespace Go.Proofs.YtpffmolibjimgaaGreatDoor
open Go.Av
set_option linter.unusedSimpArgs false
set_option linter.unusedVariables false
attribute [local irreducible] AWP CallG Ob Br BrP Go.Av.Sub endQ AOps OpV AC thenA blkA opsVC opVC withA withArgs opsQ opQ CallQ withA2 withArgs2
open Go.Pm (Pm cyc clen cycs isMn itr cyc_length cyc_get clen_pos clen_ok itr_lt)
/-- The cycles of more than one point, among the first k. -/
def cyK (cs : List (List Int)) (k : Nat) : List (List Int) := (cs.take k).filter fun c => decide (1 < c.length)
theorem cyK_succ {cs : List (List Int)} {k : Nat} (h : k < cs.length) : cyK cs (k + 1) = if 1 < (cs.getD k []).length then cyK cs k ++ [cs.getD k []] else cyK cs k := by
  unfold cyK
  rw [List.take_add_one, List.filter_append, List.getD_eq_getElem?_getD, List.getElem?_eq_getElem h]
  simp only [Option.toList_some, Option.getD_some]
  by_cases h2 : 1 < cs[k].length
  · rw [if_pos h2]; simp [h2]
  · rw [if_neg h2]; simp [h2]
theorem cyK_len (cs : List (List Int)) (k : Nat) : (cyK cs k).length ≤ k := by
  unfold cyK
  exact Nat.le_trans (List.length_filter_le _ _) (by rw [List.length_take]; omega)
theorem cyK_all (n : Nat) (p : List Int) (hp : Pm n p) : cyK (acP p n) (acP p n).length = cycs p := by
  unfold cyK cycs acP
  rw [List.take_length, List.filter_map, List.filter_filter, hp.1]
  refine congrArg _ (List.filter_congr fun x _ => ?_)
  simp [Function.comp, cyc_length, Bool.and_comm]
/-- What Cycles answers. -/
def cyP (p : List Int) : List (List Int) := if isPerm p then cycs p else []
theorem specCycles_ok (p : List Int) : AC Tryz.prog 43 [ints p] Hp.emp (fun _ => false) (retV (intss (cyP p))) := by
  by_cases hok : isPerm p
  · have hd : decide (isPerm p) = true := decide_eq_true hok
    obtain ⟨h1, h2⟩ := (isPerm_pm p).1 hok
    have hall := allCycles_ok p.length p h2 h1.2
    obtain ⟨cs, ecs⟩ : ∃ cs, cs = acP p p.length := ⟨_, rfl⟩
    have hcl : cs.length ≤ p.length := by rw [ecs]; exact acP_len p p.length
    rw [show cyP p = cyK cs cs.length from (if_pos hok).trans (by rw [ecs]; exact (cyK_all p.length p h2).symm)]
    rw [← ecs] at hall
    have hrow := Hold.mk (fun j => (acP_row p.length p h2 h1.2 j).1)
    rw [← ecs] at hrow
    refine ac_of_awp (N := ⟨_, fun _ => false, fun _ _ => rfl, true⟩) Tryz.func43 rfl (by kernel_rfl) Tryz.ntmps43 (by simp) ?_
    simp only [argsFr, List.zipIdx_cons, List.zipIdx_nil, go_sem]
    repeat' (first | refine awp_seqK fun K hK => ?_ | (refine awp_regionK 16843325 rfl ?_; simp only [List.map_cons, List.map_nil]; simp (maxSteps := 1000000) (dsimp := false) (implicitDefEqProofs := false) (disch := omega) only [wrap64, go_sem, hd]) | (refine awp_regionQK 16843325 (by kernel_rfl) (by kernel_rfl) (by kernel_rfl) ?_; simp only [List.map_cons, List.map_nil]; simp (maxSteps := 1000000) (dsimp := false) (implicitDefEqProofs := false) (disch := omega) only [wrap64, go_sem, hd]) | refine awp_block ?_ | (refine awp_skip ?_; simp only [go_sem, hd]) | (refine awp_exit ?_; simp only [go_sem, hd]) | (refine awp_ret ?_; try simp only [go_sem, hd]) | (refine awp_condP rfl ?_; try simp only [go_sem, hd]) | (refine BrP.mk (fun h => ?_) (fun h => ?_) <;> try simp (dsimp := false) (disch := omega) only [wrap64]) | (refine Br.mk (fun h => ?_) (fun h => ?_) <;> try simp (dsimp := false) (disch := omega) only [wrap64]) | refine Ob.mk (by first | omega | (intro _ _; rfl) | trivial | (intros; trivial) | assumption | (intro i hi; have h0 : i = 0 := (by omega); subst h0; first | rfl | trivial) | (intro i hi; have h0 : i = 0 ∨ i = 1 := (by omega); rcases h0 with rfl | rfl <;> rfl) | (intro i hi; have h0 : i = 0 ∨ i = 1 ∨ i = 2 := (by omega); rcases h0 with rfl | rfl | rfl <;> rfl)) ?_ | ((first | ((first | refine atF (f := 42) ?_ | refine atQ (f := 42) ?_); (first | (refine cV (hac := specIsPermutation_ok p) (hK := ?_)) | (refine cQV (hac := specIsPermutation_ok p) (hK := ?_)))) | (refine cR (hac := hall) (hK := ?_)) | (refine cQR (hac := hall) (hK := ?_))); simp (maxSteps := 1000000) (dsimp := false) (implicitDefEqProofs := false) (disch := omega) only [wrap64, go_sem, hd]) | apply_assumption -exfalso -symm)
    all_goals (first | (show endQ _ _ _ _ _ _ _; (repeat (rename (∀ (A : Fr) (H : Hp), AWP _ _ _ _ A H → _) => hK; clear hK)); (repeat (rename (Fr → Hp → Prop) => K; clear K))) | (show Exists _; (repeat (rename (∀ (A : Fr) (H : Hp), AWP _ _ _ _ A H → _) => hK; clear hK)); (repeat (rename (Fr → Hp → Prop) => K; clear K))) | skip)
    refine awp_loop (ι := Nat) (fun k => [(5, .v (.int .i64 ((k : Nat)))), (3, .own 6 0 1 (cyK cs k).length), (4, .list false 1 (cs).length (cM ints [] (cs)))]) (fun k => Hp.emp.upd 6 (.cells (cyK cs k).length (cM ints [] (cyK cs k)))) (fun k => k ≤ cs.length) (fun k => cs.length - k) 0 (Nat.zero_le _) ?_ ?_
    · exact Sub.toFF (fun _ => False) (Fr.fit_cons rfl (.refl _) (Fr.fit_cons rfl (.refl _) (Fr.fit_cons rfl (.refl _) (Fr.fit_nil _)))) (leF_upd rfl (bfE rfl (fun i hi => absurd hi (Nat.not_lt_zero _))) leF_emp id)
    intro k hk
    have hml := cyK_len cs k
    have hsz := fun h => cyK_succ (cs := cs) (k := k) h
    have hr := hrow.h k
    repeat' (first | refine awp_seqK fun K hK => ?_ | (refine awp_regionK 16843325 rfl ?_; simp only [List.map_cons, List.map_nil]; simp (maxSteps := 1000000) (dsimp := false) (implicitDefEqProofs := false) (disch := omega) only [wrap64, go_sem]) | (refine awp_regionQK 16843325 (by kernel_rfl) (by kernel_rfl) (by kernel_rfl) ?_; simp only [List.map_cons, List.map_nil]; simp (maxSteps := 1000000) (dsimp := false) (implicitDefEqProofs := false) (disch := omega) only [wrap64, go_sem]) | refine awp_block ?_ | (refine awp_skip ?_; simp only [go_sem]) | (refine awp_exit ?_; simp only [go_sem]) | (refine awp_ret ?_; try simp only [go_sem]) | (refine awp_condP rfl ?_; try simp only [go_sem]) | (refine BrP.mk (fun h => ?_) (fun h => ?_) <;> try simp (dsimp := false) (disch := omega) only [wrap64]) | (refine Br.mk (fun h => ?_) (fun h => ?_) <;> try simp (dsimp := false) (disch := omega) only [wrap64]) | refine Ob.mk (by first | omega | (intro _ _; rfl) | trivial | (intros; trivial) | assumption | (intro i hi; have h0 : i = 0 := (by omega); subst h0; first | rfl | trivial) | (intro i hi; have h0 : i = 0 ∨ i = 1 := (by omega); rcases h0 with rfl | rfl <;> rfl) | (intro i hi; have h0 : i = 0 ∨ i = 1 ∨ i = 2 := (by omega); rcases h0 with rfl | rfl | rfl <;> rfl)) ?_ | apply_assumption -exfalso -symm)
    all_goals (first | (show endQ _ _ _ _ _ _ _; (repeat (rename (∀ (A : Fr) (H : Hp), AWP _ _ _ _ A H → _) => hK; clear hK)); (repeat (rename (Fr → Hp → Prop) => K; clear K))) | (show Exists _; (repeat (rename (∀ (A : Fr) (H : Hp), AWP _ _ _ _ A H → _) => hK; clear hK)); (repeat (rename (Fr → Hp → Prop) => K; clear K))) | skip)
    · have e0 := hsz (by omega)
      rw [if_pos (by omega)] at e0
      refine ⟨k + 1, by omega, by omega, ?_⟩
      have e1 : (cyK cs (k + 1)).length = (cyK cs k).length + 1 := by rw [e0, List.length_append, List.length_singleton]
      rw [e1, e0]
      exact Sub.toFF (fun _ => False) (Fr.fit_cons rfl (.refl _) (Fr.fit_cons rfl (.refl _) (Fr.fit_cons rfl (.refl _) (Fr.fit_nil _)))) (leF_upd rfl (bfE rfl (ap_ints (cyK cs k) (cs.getD k []))) leF_emp id)
    · have e0 := hsz (by omega)
      rw [if_neg (by omega)] at e0
      refine ⟨k + 1, by omega, by omega, ?_⟩
      rw [e0]
      exact Sub.toL (by simp only [go_sem] <;> first | trivial | (simp only [Option.some.injEq, AV.v.injEq, AV.own.injEq, AV.list.injEq, Value.int.injEq, Value.bool.injEq, true_and, and_true]; first | omega | (simp; done)) | (simp; done) | (simp; omega)) (Hp.le_refl _)
    · have e : k = cs.length := by omega
      rw [e]
      exact end_retF rfl rfl (fits_II rfl trivial rfl rfl)
  · have hd : decide (isPerm p) = false := decide_eq_false hok
    rw [show cyP p = [] from if_neg hok]
    refine ac_of_awp (N := ⟨_, fun _ => false, fun _ _ => rfl, true⟩) Tryz.func43 rfl (by kernel_rfl) Tryz.ntmps43 (by simp) ?_
    simp only [argsFr, List.zipIdx_cons, List.zipIdx_nil, go_sem]
    repeat' (first | refine awp_seqK fun K hK => ?_ | (refine awp_regionK 16843325 rfl ?_; simp only [List.map_cons, List.map_nil]; simp (maxSteps := 1000000) (dsimp := false) (implicitDefEqProofs := false) (disch := omega) only [wrap64, go_sem, hd]) | (refine awp_regionQK 16843325 (by kernel_rfl) (by kernel_rfl) (by kernel_rfl) ?_; simp only [List.map_cons, List.map_nil]; simp (maxSteps := 1000000) (dsimp := false) (implicitDefEqProofs := false) (disch := omega) only [wrap64, go_sem, hd]) | refine awp_block ?_ | (refine awp_skip ?_; simp only [go_sem, hd]) | (refine awp_exit ?_; simp only [go_sem, hd]) | (refine awp_ret ?_; try simp only [go_sem, hd]) | (refine awp_condP rfl ?_; try simp only [go_sem, hd]) | (refine BrP.mk (fun h => ?_) (fun h => ?_) <;> try simp (dsimp := false) (disch := omega) only [wrap64]) | (refine Br.mk (fun h => ?_) (fun h => ?_) <;> try simp (dsimp := false) (disch := omega) only [wrap64]) | refine Ob.mk (by first | omega | (intro _ _; rfl) | trivial | (intros; trivial) | assumption | (intro i hi; have h0 : i = 0 := (by omega); subst h0; first | rfl | trivial) | (intro i hi; have h0 : i = 0 ∨ i = 1 := (by omega); rcases h0 with rfl | rfl <;> rfl) | (intro i hi; have h0 : i = 0 ∨ i = 1 ∨ i = 2 := (by omega); rcases h0 with rfl | rfl | rfl <;> rfl)) ?_ | ((first | ((first | refine atF (f := 42) ?_ | refine atQ (f := 42) ?_); (first | (refine cV (hac := specIsPermutation_ok p) (hK := ?_)) | (refine cQV (hac := specIsPermutation_ok p) (hK := ?_))))); simp (maxSteps := 1000000) (dsimp := false) (implicitDefEqProofs := false) (disch := omega) only [wrap64, go_sem, hd]) | apply_assumption -exfalso -symm)
    all_goals (first | (show endQ _ _ _ _ _ _ _; (repeat (rename (∀ (A : Fr) (H : Hp), AWP _ _ _ _ A H → _) => hK; clear hK)); (repeat (rename (Fr → Hp → Prop) => K; clear K))) | (show Exists _; (repeat (rename (∀ (A : Fr) (H : Hp), AWP _ _ _ _ A H → _) => hK; clear hK)); (repeat (rename (Fr → Hp → Prop) => K; clear K))) | skip)
    exact end_retF rfl rfl (fits_II0 rfl trivial)
theorem cyP_prop (p : List Int) : (cyP p).length ≤ 20 ∧ ∀ j, ((cyP p).getD j []).length ≤ 20 ∧ ∀ i, i < ((cyP p).getD j []).length → 0 ≤ ((cyP p).getD j []).getD i 0 ∧ ((cyP p).getD j []).getD i 0 < 1000 := by
  have hno : ∀ {xs : List (List Int)} {j : Nat}, ¬ j < xs.length → (xs.getD j []).length ≤ 20 ∧ ∀ i, i < (xs.getD j []).length → 0 ≤ (xs.getD j []).getD i 0 ∧ (xs.getD j []).getD i 0 < 1000 := fun {xs j} h => by
    rw [List.getD_eq_getElem?_getD, List.getElem?_eq_none (by omega)]
    exact ⟨Nat.zero_le _, fun i hi => absurd hi (Nat.not_lt_zero _)⟩
  unfold cyP
  split
  · rename_i hok
    obtain ⟨h1, h2⟩ := (isPerm_pm p).1 hok
    rw [← cyK_all p.length p h2]
    refine ⟨Nat.le_trans (cyK_len _ _) (Nat.le_trans (acP_len p p.length) h1.2), fun j => ?_⟩
    by_cases hj : j < (cyK (acP p p.length) (acP p p.length).length).length
    · have hm : (cyK (acP p p.length) (acP p p.length).length).getD j [] ∈ cyK (acP p p.length) (acP p p.length).length := by rw [List.getD_eq_getElem?_getD, List.getElem?_eq_getElem hj]; exact List.getElem_mem hj
      obtain ⟨c, ec⟩ : ∃ c, c = (cyK (acP p p.length) (acP p p.length).length).getD j [] := ⟨_, rfl⟩
      rw [← ec] at hm ⊢
      unfold cyK at hm
      have hm := List.mem_of_mem_take (List.mem_filter.1 hm).1
      obtain ⟨i, hi, rfl⟩ := List.getElem_of_mem hm
      have := acP_row p.length p h2 h1.2 i
      rw [List.getD_eq_getElem?_getD, List.getElem?_eq_getElem hi] at this
      exact ⟨this.1, fun k hk => by have := this.2 k hk; simp only [Option.getD_some] at this; omega⟩
    · exact hno hj
  · exact ⟨Nat.zero_le _, fun j => hno (Nat.not_lt_zero _)⟩
/-- The text of the first k cycles. -/
def fcS (cs : List (List Int)) : Nat → ByteArray
  | 0 => ⟨#[]⟩
  | k + 1 => fcS cs k ++ ⟨#[40]⟩ ++ fisP (cs.getD k []) ++ ⟨#[41]⟩
theorem fisP_size (xs : List Int) (h : xs.length ≤ 20) : (fisP xs).size ≤ 20020 := by
  have := jnS_size ⟨#[32]⟩ (fisS xs xs.length) 1000 (fisS_row xs xs.length) xs.length
  have h2 : (⟨#[32]⟩ : ByteArray).size = 1 := rfl
  rw [h2] at this
  have h3 : xs.length * (1000 + 1) ≤ 20 * 1001 := Nat.mul_le_mul h (Nat.le_refl _)
  unfold fisP; omega
theorem fcS_size (cs : List (List Int)) (h : ∀ j, (cs.getD j []).length ≤ 20) : ∀ k, (fcS cs k).size ≤ k * 20022
  | 0 => Nat.zero_le _
  | k + 1 => by
    have h1 := fcS_size cs h k
    have h2 := fisP_size (cs.getD k []) (h k)
    have e1 : (⟨#[40]⟩ : ByteArray).size = 1 := rfl
    have e2 : (⟨#[41]⟩ : ByteArray).size = 1 := rfl
    unfold fcS
    rw [ByteArray.size_append, ByteArray.size_append, ByteArray.size_append, e1, e2]
    omega
/-- What FormatCycles answers. -/
def fcP (p : List Int) : ByteArray := if isPerm p then (if (fcS (cyP p) (cyP p).length).toList = (⟨#[]⟩ : ByteArray).toList then ⟨#[40, 41]⟩ else fcS (cyP p) (cyP p).length) else ⟨#[]⟩
theorem formatCycles_ok (p : List Int) : AC Tryz.prog 15 [ints p] Hp.emp (fun _ => false) (retV (.v (.string (fcP p)))) := by
  by_cases hok : isPerm p
  · have hd : decide (isPerm p) = true := decide_eq_true hok
    have hcy := specCycles_ok p
    obtain ⟨hcl, hcr⟩ := cyP_prop p
    rw [show fcP p = if (fcS (cyP p) (cyP p).length).toList = (⟨#[]⟩ : ByteArray).toList then ⟨#[40, 41]⟩ else fcS (cyP p) (cyP p).length from if_pos hok]
    obtain ⟨cs, ecs⟩ : ∃ cs, cs = cyP p := ⟨_, rfl⟩
    rw [← ecs] at hcy hcl hcr ⊢
    have hfs := fcS_size cs fun j => (hcr j).1
    have hfs := Hold.mk hfs
    have hcr := Hold.mk hcr
    refine ac_of_awp (N := ⟨_, fun _ => false, fun _ _ => rfl, true⟩) Tryz.func15 rfl (by kernel_rfl) Tryz.ntmps15 (by simp) ?_
    simp only [argsFr, List.zipIdx_cons, List.zipIdx_nil, go_sem]
    repeat' (first | refine awp_seqK fun K hK => ?_ | (refine awp_regionK 134234429 rfl ?_; simp only [List.map_cons, List.map_nil]; simp (maxSteps := 1000000) (dsimp := false) (implicitDefEqProofs := false) (disch := omega) only [wrap64, go_sem, hd]) | (refine awp_regionQK 134234429 (by kernel_rfl) (by kernel_rfl) (by kernel_rfl) ?_; simp only [List.map_cons, List.map_nil]; simp (maxSteps := 1000000) (dsimp := false) (implicitDefEqProofs := false) (disch := omega) only [wrap64, go_sem, hd]) | refine awp_block ?_ | (refine awp_skip ?_; simp only [go_sem, hd]) | (refine awp_exit ?_; simp only [go_sem, hd]) | (refine awp_ret ?_; try simp only [go_sem, hd]) | (refine awp_condP rfl ?_; try simp only [go_sem, hd]) | (refine BrP.mk (fun h => ?_) (fun h => ?_) <;> try simp (dsimp := false) (disch := omega) only [wrap64]) | (refine Br.mk (fun h => ?_) (fun h => ?_) <;> try simp (dsimp := false) (disch := omega) only [wrap64]) | refine Ob.mk (by first | omega | (intro _ _; rfl) | trivial | (intros; trivial) | assumption | (intro i hi; have h0 : i = 0 := (by omega); subst h0; first | rfl | trivial) | (intro i hi; have h0 : i = 0 ∨ i = 1 := (by omega); rcases h0 with rfl | rfl <;> rfl) | (intro i hi; have h0 : i = 0 ∨ i = 1 ∨ i = 2 := (by omega); rcases h0 with rfl | rfl | rfl <;> rfl)) ?_ | ((first | ((first | refine atF (f := 42) ?_ | refine atQ (f := 42) ?_); (first | (refine cV (hac := specIsPermutation_ok p) (hK := ?_)) | (refine cQV (hac := specIsPermutation_ok p) (hK := ?_)))) | (refine cR (hac := hcy) (hK := ?_)) | (refine cQR (hac := hcy) (hK := ?_))); simp (maxSteps := 1000000) (dsimp := false) (implicitDefEqProofs := false) (disch := omega) only [wrap64, go_sem, hd]) | apply_assumption -exfalso -symm)
    all_goals (first | (show endQ _ _ _ _ _ _ _; (repeat (rename (∀ (A : Fr) (H : Hp), AWP _ _ _ _ A H → _) => hK; clear hK)); (repeat (rename (Fr → Hp → Prop) => K; clear K))) | (show Exists _; (repeat (rename (∀ (A : Fr) (H : Hp), AWP _ _ _ _ A H → _) => hK; clear hK)); (repeat (rename (Fr → Hp → Prop) => K; clear K))) | skip)
    refine awp_loop (ι := Nat) (fun k => [(5, .v (.int .i64 ((k : Nat)))), (4, .v (.string (fcS cs k))), (3, .list false 1 (cs).length (cM ints [] (cs)))]) (fun k => Hp.emp) (fun k => k ≤ cs.length) (fun k => cs.length - k) 0 ?_ (Sub.toL (by simp only [go_sem] <;> first | trivial | (simp only [Option.some.injEq, AV.v.injEq, AV.own.injEq, AV.list.injEq, Value.int.injEq, Value.bool.injEq, true_and, and_true]; first | omega | (simp [fcS]; done)) | (simp [fcS]; done) | (simp [fcS]; omega)) (by (repeat' (first | exact Hp.le_emp _ | exact Hp.le_refl _ | refine Hp.le_upd ?_ ?_)); all_goals (first | rfl | (simp only [go_sem]; first | rfl | (refine cellsE ?_ ?_ <;> (simp [fcS])) | (simp [fcS]))))) ?_
    · exact Nat.zero_le _
    intro k hk
    have h1 := hfs.h k
    have h2 := (hcr.h k).1
    have h3 := fisP_size (cs.getD k []) h2
    have hfi := Hold.mk (formatInts_ok (cs.getD k []) (by omega) (hcr.h k).2)
    have hst : fcS cs (k + 1) = fcS cs k ++ ⟨#[40]⟩ ++ fisP (cs.getD k []) ++ ⟨#[41]⟩ := rfl
    have e0 : (⟨#[40]⟩ : ByteArray).size = 1 := rfl
    have e00 : (⟨#[41]⟩ : ByteArray).size = 1 := rfl
    have e1 : (fcS cs k ++ (⟨#[40]⟩ : ByteArray)).size = (fcS cs k).size + 1 := by rw [ByteArray.size_append]; rfl
    have e2 : (fcS cs k ++ (⟨#[40]⟩ : ByteArray) ++ fisP (cs.getD k [])).size = (fcS cs k).size + 1 + (fisP (cs.getD k [])).size := by rw [ByteArray.size_append, e1]
    repeat' (first | refine awp_seqK fun K hK => ?_ | (refine awp_regionK 134234429 rfl ?_; simp only [List.map_cons, List.map_nil]; simp (maxSteps := 1000000) (dsimp := false) (implicitDefEqProofs := false) (disch := omega) only [wrap64, go_sem, e2, e1]) | (refine awp_regionQK 134234429 (by kernel_rfl) (by kernel_rfl) (by kernel_rfl) ?_; simp only [List.map_cons, List.map_nil]; simp (maxSteps := 1000000) (dsimp := false) (implicitDefEqProofs := false) (disch := omega) only [wrap64, go_sem, e2, e1]) | refine awp_block ?_ | (refine awp_skip ?_; simp only [go_sem, e2, e1]) | (refine awp_exit ?_; simp only [go_sem, e2, e1]) | (refine awp_ret ?_; try simp only [go_sem, e2, e1]) | (refine awp_condP rfl ?_; try simp only [go_sem, e2, e1]) | (refine BrP.mk (fun h => ?_) (fun h => ?_) <;> try simp (dsimp := false) (disch := omega) only [wrap64]) | (refine Br.mk (fun h => ?_) (fun h => ?_) <;> try simp (dsimp := false) (disch := omega) only [wrap64]) | refine Ob.mk (by first | omega | (intro _ _; rfl) | trivial | (intros; trivial) | assumption | (intro i hi; have h0 : i = 0 := (by omega); subst h0; first | rfl | trivial) | (intro i hi; have h0 : i = 0 ∨ i = 1 := (by omega); rcases h0 with rfl | rfl <;> rfl) | (intro i hi; have h0 : i = 0 ∨ i = 1 ∨ i = 2 := (by omega); rcases h0 with rfl | rfl | rfl <;> rfl)) ?_ | ((first | (refine cV (hac := hfi.h) (hK := ?_)) | (refine cQV (hac := hfi.h) (hK := ?_))); simp (maxSteps := 1000000) (dsimp := false) (implicitDefEqProofs := false) (disch := omega) only [wrap64, go_sem, e2, e1]) | apply_assumption -exfalso -symm)
    all_goals (first | (show endQ _ _ _ _ _ _ _; (repeat (rename (∀ (A : Fr) (H : Hp), AWP _ _ _ _ A H → _) => hK; clear hK)); (repeat (rename (Fr → Hp → Prop) => K; clear K))) | (show Exists _; (repeat (rename (∀ (A : Fr) (H : Hp), AWP _ _ _ _ A H → _) => hK; clear hK)); (repeat (rename (Fr → Hp → Prop) => K; clear K))) | skip)
    · refine ⟨k + 1, by omega, by omega, ?_⟩
      rw [hst]
      exact Sub.toL (by simp only [go_sem] <;> first | trivial | (simp only [Option.some.injEq, AV.v.injEq, AV.own.injEq, AV.list.injEq, Value.int.injEq, Value.bool.injEq, true_and, and_true]; first | omega | (simp; done)) | (simp; done) | (simp; omega)) (Hp.le_refl _)
    · have e : k = cs.length := by omega
      subst e
      exact end_retV' rfl rfl (by rw [if_pos (by assumption)])
    · have e : k = cs.length := by omega
      subst e
      exact end_retV' rfl rfl (by rw [if_neg (by assumption)])
  · have hd : decide (isPerm p) = false := decide_eq_false hok
    rw [show fcP p = ⟨#[]⟩ from if_neg hok]
    refine ac_of_awp (N := ⟨_, fun _ => false, fun _ _ => rfl, true⟩) Tryz.func15 rfl (by kernel_rfl) Tryz.ntmps15 (by simp) ?_
    simp only [argsFr, List.zipIdx_cons, List.zipIdx_nil, go_sem]
    repeat' (first | refine awp_seqK fun K hK => ?_ | (refine awp_regionK 134234429 rfl ?_; simp only [List.map_cons, List.map_nil]; simp (maxSteps := 1000000) (dsimp := false) (implicitDefEqProofs := false) (disch := omega) only [wrap64, go_sem, hd]) | (refine awp_regionQK 134234429 (by kernel_rfl) (by kernel_rfl) (by kernel_rfl) ?_; simp only [List.map_cons, List.map_nil]; simp (maxSteps := 1000000) (dsimp := false) (implicitDefEqProofs := false) (disch := omega) only [wrap64, go_sem, hd]) | refine awp_block ?_ | (refine awp_skip ?_; simp only [go_sem, hd]) | (refine awp_exit ?_; simp only [go_sem, hd]) | (refine awp_ret ?_; try simp only [go_sem, hd]) | (refine awp_condP rfl ?_; try simp only [go_sem, hd]) | (refine BrP.mk (fun h => ?_) (fun h => ?_) <;> try simp (dsimp := false) (disch := omega) only [wrap64]) | (refine Br.mk (fun h => ?_) (fun h => ?_) <;> try simp (dsimp := false) (disch := omega) only [wrap64]) | refine Ob.mk (by first | omega | (intro _ _; rfl) | trivial | (intros; trivial) | assumption | (intro i hi; have h0 : i = 0 := (by omega); subst h0; first | rfl | trivial) | (intro i hi; have h0 : i = 0 ∨ i = 1 := (by omega); rcases h0 with rfl | rfl <;> rfl) | (intro i hi; have h0 : i = 0 ∨ i = 1 ∨ i = 2 := (by omega); rcases h0 with rfl | rfl | rfl <;> rfl)) ?_ | ((first | ((first | refine atF (f := 42) ?_ | refine atQ (f := 42) ?_); (first | (refine cV (hac := specIsPermutation_ok p) (hK := ?_)) | (refine cQV (hac := specIsPermutation_ok p) (hK := ?_))))); simp (maxSteps := 1000000) (dsimp := false) (implicitDefEqProofs := false) (disch := omega) only [wrap64, go_sem, hd]) | apply_assumption -exfalso -symm)
    all_goals (first | (show endQ _ _ _ _ _ _ _; (repeat (rename (∀ (A : Fr) (H : Hp), AWP _ _ _ _ A H → _) => hK; clear hK)); (repeat (rename (Fr → Hp → Prop) => K; clear K))) | (show Exists _; (repeat (rename (∀ (A : Fr) (H : Hp), AWP _ _ _ _ A H → _) => hK; clear hK)); (repeat (rename (Fr → Hp → Prop) => K; clear K))) | skip)
    exact end_retV rfl rfl
end Go.Proofs.YtpffmolibjimgaaGreatDoor
end
/- Cycles of the reference: parseCycle. -/
section
namespace Go.Proofs.YtpffmolibjimgaaGreatDoor
open Go.Av
set_option linter.unusedSimpArgs false
set_option linter.unusedVariables false
attribute [local irreducible] AWP CallG Ob Br BrP Go.Av.Sub endQ AOps OpV AC thenA blkA opsVC opVC withA withArgs opsQ opQ CallQ withA2 withArgs2
theorem piT_scrub (p : Nat → Bool) (a : Int) (b : Bool) : (AV.tup 2 (vecF [.v (.int .i64 (a)), .v (.bool (b))])).scrub p = .tup 2 (vecF [.v (.int .i64 (a)), .v (.bool (b))]) := by
  simp only [scrub_tup, scF_vecF, List.map_cons, List.map_nil]; rfl
/-- The numbers of the first k pieces. -/
def pcI (ws : List ByteArray) (k : Nat) : List Int := (ws.take k).map pvP
theorem pcI_len (ws : List ByteArray) {k : Nat} (h : k ≤ ws.length) : (pcI ws k).length = k := by unfold pcI; rw [List.length_map, List.length_take]; omega
theorem pcI_succ (ws : List ByteArray) {k : Nat} (h : k < ws.length) : pcI ws (k + 1) = pcI ws k ++ [pvP (ws.getD k ByteArray.empty)] := by
  unfold pcI
  rw [List.take_add_one, List.map_append, List.getD_eq_getElem?_getD, List.getElem?_eq_getElem h]
  rfl
theorem pcI_get (ws : List ByteArray) {k j : Nat} (hk : k ≤ ws.length) (h : j < k) : (pcI ws k).getD j 0 = pvP (ws.getD j ByteArray.empty) := by
  unfold pcI
  have h2 : j < ws.length := by omega
  simp [List.getD_eq_getElem?_getD, List.getElem?_take, h, h2]
theorem pvP_rng (s : ByteArray) : 0 ≤ pvP s ∧ pvP s < 1000000000 := by
  unfold pvP
  split
  · rename_i h
    have h1 := pvS_rng s s.size h.2.2
    have h2 : (10 : Int) ^ s.size ≤ 1000000000 := by
      have := Nat.pow_le_pow_right (show 1 ≤ 10 by omega) h.1.2
      have e : ((10 ^ s.size : Nat) : Int) = (10 : Int) ^ s.size := by simp
      omega
    omega
  · omega
/-- May the pieces be laid? -/
def pcOk (n : Nat) (ws : List ByteArray) : Prop := ∀ j, j < ws.length → okI (ws.getD j ByteArray.empty) ∧ pvP (ws.getD j ByteArray.empty) < n
instance (n : Nat) (ws : List ByteArray) : Decidable (pcOk n ws) := by unfold pcOk; infer_instance
/-- The row after k links of a cycle. -/
def pcR (L xs : List Int) : Nat → List Int
  | 0 => L
  | k + 1 => (pcR L xs k).set (xs.getD k 0).toNat (xs.getD ((k + 1) % xs.length) 0)
theorem pcR_len (L xs : List Int) : ∀ k, (pcR L xs k).length = L.length
  | 0 => rfl
  | k + 1 => by unfold pcR; rw [List.length_set]; exact pcR_len L xs k
/-- The row after a cycle's text. -/
def pcF (L : List Int) (w : ByteArray) : List Int := if pcOk L.length (splitP w 32) then pcR L (pcI (splitP w 32) (splitP w 32).length) (splitP w 32).length else L
theorem splitP_prop (s : ByteArray) (c : Nat) : (splitP s c).length ≤ s.size + 1 ∧ ∀ j, ((splitP s c).getD j ByteArray.empty).size ≤ s.size := by
  refine ⟨(spS_le s c (s.size + 1)).2, fun j => ?_⟩
  by_cases hj : j < (splitP s c).length
  · refine spS_row s c (s.size + 1) _ ?_
    rw [List.getD_eq_getElem?_getD, List.getElem?_eq_getElem hj]; exact List.getElem_mem hj
  · rw [List.getD_eq_getElem?_getD, List.getElem?_eq_none (by omega)]; exact Nat.zero_le _
theorem parseCycle_ok (L : List Int) (w : ByteArray) (hl : L.length ≤ 20) (hw : w.size ≤ 1000) (h : Nat) : AC Tryz.prog 58 [.own h 0 1 L.length, .v (.string (w))] (Hp.emp.upd h (.cells L.length (cM iv 0 L))) (· == h) (postM h (.v (.bool (decide (pcOk L.length (splitP w 32))))) (.cells L.length (cM iv 0 (pcF L w)))) := by
  obtain ⟨hsl, hsr⟩ := splitP_prop w 32
  have hsp := splitText_ok w 32 (by omega)
  unfold pcF
  obtain ⟨ws, ews⟩ : ∃ ws, ws = splitP w 32 := ⟨_, rfl⟩
  rw [← ews] at hsl hsr hsp ⊢
  have hsr := Hold.mk hsr
  refine AC.any (h0 := 1000000) ?_ _ (fun _ => rfl) (fun _ => rfl) (fun _ => rfl) (fun _ => rfl)
  refine ac_of_awp (N := ⟨_, (· == 1000000), fun h hh => beq_eq_false_iff_ne.2 (Nat.ne_of_lt (Nat.lt_of_lt_of_le hh (by decide))), true⟩) Tryz.func58 rfl (by kernel_rfl) Tryz.ntmps58 (by simp) ?_
  simp only [argsFr, List.zipIdx_cons, List.zipIdx_nil, go_sem]
  repeat' (first | refine awp_seqK fun K hK => ?_ | (refine awp_regionK 8830452893683 rfl ?_; simp only [List.map_cons, List.map_nil]; simp (maxSteps := 1000000) (dsimp := false) (implicitDefEqProofs := false) (disch := omega) only [wrap64, go_sem]) | (refine awp_regionQK 8830452893683 (by kernel_rfl) (by kernel_rfl) (by kernel_rfl) ?_; simp only [List.map_cons, List.map_nil]; simp (maxSteps := 1000000) (dsimp := false) (implicitDefEqProofs := false) (disch := omega) only [wrap64, go_sem]) | refine awp_block ?_ | (refine awp_skip ?_; simp only [go_sem]) | (refine awp_exit ?_; simp only [go_sem]) | (refine awp_ret ?_; try simp only [go_sem]) | (refine awp_condP rfl ?_; try simp only [go_sem]) | (refine BrP.mk (fun h => ?_) (fun h => ?_) <;> try simp (dsimp := false) (disch := omega) only [wrap64]) | (refine Br.mk (fun h => ?_) (fun h => ?_) <;> try simp (dsimp := false) (disch := omega) only [wrap64]) | refine Ob.mk (by first | omega | (intro _ _; rfl) | trivial | (intros; trivial) | assumption | (intro i hi; have h0 : i = 0 := (by omega); subst h0; first | rfl | trivial) | (intro i hi; have h0 : i = 0 ∨ i = 1 := (by omega); rcases h0 with rfl | rfl <;> rfl) | (intro i hi; have h0 : i = 0 ∨ i = 1 ∨ i = 2 := (by omega); rcases h0 with rfl | rfl | rfl <;> rfl)) ?_ | ((first | (refine cR (hac := hsp) (hK := ?_)) | (refine cQR (hac := hsp) (hK := ?_))); simp (maxSteps := 1000000) (dsimp := false) (implicitDefEqProofs := false) (disch := omega) only [wrap64, go_sem]) | apply_assumption -exfalso -symm)
  all_goals (first | (show endQ _ _ _ _ _ _ _; (repeat (rename (∀ (A : Fr) (H : Hp), AWP _ _ _ _ A H → _) => hK; clear hK)); (repeat (rename (Fr → Hp → Prop) => K; clear K))) | (show Exists _; (repeat (rename (∀ (A : Fr) (H : Hp), AWP _ _ _ _ A H → _) => hK; clear hK)); (repeat (rename (Fr → Hp → Prop) => K; clear K))) | skip)
  refine awp_loop (ι := Nat) (fun k => [(7, .v (.int .i64 ((k : Nat)))), (6, .own 13 0 1 k), (5, strs ws), (0, .own 1000000 0 1 L.length)]) (fun k => (Hp.emp.upd 1000000 (.cells L.length (cM iv 0 L))).upd 13 (.cells k (cM iv 0 (pcI ws k)))) (fun k => k ≤ ws.length ∧ Hold (∀ j, j < k → okI (ws.getD j ByteArray.empty) ∧ pvP (ws.getD j ByteArray.empty) < L.length)) (fun k => ws.length - k) 0 ⟨Nat.zero_le _, ⟨fun j h => absurd h (Nat.not_lt_zero _)⟩⟩ ?_ ?_
  · exact Sub.toL (by simp only [go_sem] <;> first | trivial | (simp only [Option.some.injEq, AV.v.injEq, AV.own.injEq, AV.list.injEq, Value.int.injEq, Value.bool.injEq, true_and, and_true]; first | omega | (simp; done)) | (simp; done) | (simp; omega)) (Hp.le_refl _)
  rintro k ⟨hk, hv⟩
  have hpl := pcI_len ws hk
  have hpi := Hold.mk (parseInt_ok (ws.getD k ByteArray.empty) (by have := hsr.h k; omega))
  have hpr := pvP_rng (ws.getD k ByteArray.empty)
  repeat' (first | refine awp_seqK fun K hK => ?_ | (refine awp_regionK 8830452893683 rfl ?_; simp only [List.map_cons, List.map_nil]; simp (maxSteps := 1000000) (dsimp := false) (implicitDefEqProofs := false) (disch := omega) only [wrap64, go_sem]) | (refine awp_regionQK 8830452893683 (by kernel_rfl) (by kernel_rfl) (by kernel_rfl) ?_; simp only [List.map_cons, List.map_nil]; simp (maxSteps := 1000000) (dsimp := false) (implicitDefEqProofs := false) (disch := omega) only [wrap64, go_sem]) | refine awp_block ?_ | (refine awp_skip ?_; simp only [go_sem]) | (refine awp_exit ?_; simp only [go_sem]) | (refine awp_ret ?_; try simp only [go_sem]) | (refine awp_condP rfl ?_; try simp only [go_sem]) | (refine BrP.mk (fun h => ?_) (fun h => ?_) <;> try simp (dsimp := false) (disch := omega) only [wrap64]) | (refine Br.mk (fun h => ?_) (fun h => ?_) <;> try simp (dsimp := false) (disch := omega) only [wrap64]) | refine Ob.mk (by first | omega | (intro _ _; rfl) | trivial | (intros; trivial) | assumption | (intro i hi; have h0 : i = 0 := (by omega); subst h0; first | rfl | trivial) | (intro i hi; have h0 : i = 0 ∨ i = 1 := (by omega); rcases h0 with rfl | rfl <;> rfl) | (intro i hi; have h0 : i = 0 ∨ i = 1 ∨ i = 2 := (by omega); rcases h0 with rfl | rfl | rfl <;> rfl)) ?_ | ((first | ((first | refine atF (f := 87) ?_ | refine atQ (f := 87) ?_); (refine cR (hac := hpi.h) (hK := ?_) (hs := piT_scrub _ _ _)))); simp (maxSteps := 1000000) (dsimp := false) (implicitDefEqProofs := false) (disch := omega) only [wrap64, go_sem]) | apply_assumption -exfalso -symm)
  all_goals (first | (show endQ _ _ _ _ _ _ _; (repeat (rename (∀ (A : Fr) (H : Hp), AWP _ _ _ _ A H → _) => hK; clear hK)); (repeat (rename (Fr → Hp → Prop) => K; clear K))) | (show Exists _; (repeat (rename (∀ (A : Fr) (H : Hp), AWP _ _ _ _ A H → _) => hK; clear hK)); (repeat (rename (Fr → Hp → Prop) => K; clear K))) | skip)
  · have hn : ¬ pcOk L.length ws := fun h => by have := (h k (by omega)).2; omega
    rw [if_neg hn, decide_eq_false hn]
    exact end_M rfl rfl (by simp [Hp.upd]) rfl
  · refine ⟨k + 1, ⟨by omega, ⟨fun j hj => ?_⟩⟩, by omega, ?_⟩
    · by_cases e : j = k
      · rw [e]; exact ⟨by assumption, by omega⟩
      · exact hv.h j (by omega)
    · have e0 := pcI_succ ws (k := k) (by omega)
      rw [e0]
      have e1 := apF_cM iv 0 (pcI ws k) [pvP (ws.getD k ByteArray.empty)]
      rw [hpl] at e1
      rw [e1]
      exact Sub.toL (by simp only [go_sem] <;> first | trivial | (simp only [Option.some.injEq, AV.v.injEq, AV.own.injEq, AV.list.injEq, Value.int.injEq, Value.bool.injEq, true_and, and_true]; first | omega | (simp; done)) | (simp; done) | (simp; omega)) (by (repeat' (first | exact Hp.le_emp _ | exact Hp.le_refl _ | refine Hp.le_upd ?_ ?_)); all_goals (first | rfl | (simp only [go_sem]; first | rfl | (refine cellsE ?_ ?_ <;> (simp)) | (simp))))
  · have hn : ¬ pcOk L.length ws := fun h => by have := (h k (by omega)).1; contradiction
    rw [if_neg hn, decide_eq_false hn]
    exact end_M rfl rfl (by simp [Hp.upd]) rfl
  · have ek : k = ws.length := by omega
    have hok : pcOk L.length ws := fun j hj => hv.h j (by omega)
    clear hpi hpr
    subst ek
    obtain ⟨xs, exs⟩ : ∃ xs, xs = pcI ws ws.length := ⟨_, rfl⟩
    rw [← exs]
    rw [← exs] at hpl
    have hxr : ∀ j, j < xs.length → 0 ≤ xs.getD j 0 ∧ xs.getD j 0 < L.length := fun j hj => by
      rw [exs, pcI_get ws (Nat.le_refl _) (by omega)]
      exact ⟨(pvP_rng _).1, (hok j (by omega)).2⟩
    have hxr := Hold.mk hxr
    rw [← hpl]
    refine awp_loop (ι := Nat) (fun j => [(10, .v (.int .i64 ((j : Nat)))), (6, .own 13 0 1 xs.length), (0, .own 1000000 0 1 L.length)]) (fun j => (Hp.emp.upd 1000000 (.cells L.length (cM iv 0 (pcR L xs j)))).upd 13 (.cells xs.length (cM iv 0 xs))) (fun j => j ≤ xs.length) (fun j => xs.length - j) 0 (Nat.zero_le _) (Sub.toL (by simp only [go_sem] <;> first | trivial | (simp only [Option.some.injEq, AV.v.injEq, AV.own.injEq, AV.list.injEq, Value.int.injEq, Value.bool.injEq, true_and, and_true]; first | omega | (simp; done)) | (simp; done) | (simp; omega)) (Hp.le_refl _)) ?_
    intro j hj
    have hrl := pcR_len L xs j
    have hsz : pcR L xs (j + 1) = (pcR L xs j).set (xs.getD j 0).toNat (xs.getD ((j + 1) % xs.length) 0) := rfl
    have hxj := fun h : j < xs.length => hxr.h j h
    have hmod : ((j : Nat) : Int) + 1 = ((j + 1 : Nat) : Int) := rfl
    have hmod2 : (((j : Nat) : Int) + 1).tmod ((xs.length : Nat) : Int) = (((j + 1) % xs.length : Nat) : Int) := rfl
    have hml : 0 < xs.length → (j + 1) % xs.length < xs.length := fun h => Nat.mod_lt _ h
    repeat' (first | (refine awp_regionEK (id := 13) 8830452893683 14 (by kernel_rfl) (by kernel_rfl) (by kernel_rfl) ?_; simp only [List.map_cons, List.map_nil, opsE, List.take_succ_cons, List.take_zero, List.drop_succ_cons, List.drop_zero]; simp (maxSteps := 1000000) (dsimp := false) (implicitDefEqProofs := false) (disch := omega) only [wrap64, go_sem, hmod2]) | refine awp_seqK fun K hK => ?_ | (refine awp_regionK 8830452893683 rfl ?_; simp only [List.map_cons, List.map_nil]; simp (maxSteps := 1000000) (dsimp := false) (implicitDefEqProofs := false) (disch := omega) only [wrap64, go_sem, hmod2]) | (refine awp_regionQK 8830452893683 (by kernel_rfl) (by kernel_rfl) (by kernel_rfl) ?_; simp only [List.map_cons, List.map_nil]; simp (maxSteps := 1000000) (dsimp := false) (implicitDefEqProofs := false) (disch := omega) only [wrap64, go_sem, hmod2]) | refine awp_block ?_ | (refine awp_skip ?_; simp only [go_sem, hmod2]) | (refine awp_exit ?_; simp only [go_sem, hmod2]) | (refine awp_ret ?_; try simp only [go_sem, hmod2]) | (refine awp_condP rfl ?_; try simp only [go_sem, hmod2]) | (refine BrP.mk (fun h => ?_) (fun h => ?_) <;> try simp (dsimp := false) (disch := omega) only [wrap64]) | (refine Br.mk (fun h => ?_) (fun h => ?_) <;> try simp (dsimp := false) (disch := omega) only [wrap64]) | refine Ob.mk (by first | omega | (intro _ _; rfl) | trivial | (intros; trivial) | assumption | (intro i hi; have h0 : i = 0 := (by omega); subst h0; first | rfl | trivial) | (intro i hi; have h0 : i = 0 ∨ i = 1 := (by omega); rcases h0 with rfl | rfl <;> rfl) | (intro i hi; have h0 : i = 0 ∨ i = 1 ∨ i = 2 := (by omega); rcases h0 with rfl | rfl | rfl <;> rfl)) ?_ | apply_assumption -exfalso -symm)
    all_goals (first | (show endQ _ _ _ _ _ _ _; (repeat (rename (∀ (A : Fr) (H : Hp), AWP _ _ _ _ A H → _) => hK; clear hK)); (repeat (rename (Fr → Hp → Prop) => K; clear K))) | (show Exists _; (repeat (rename (∀ (A : Fr) (H : Hp), AWP _ _ _ _ A H → _) => hK; clear hK)); (repeat (rename (Fr → Hp → Prop) => K; clear K))) | skip)
    · refine ⟨j + 1, by omega, by omega, ?_⟩
      rw [hsz]
      exact Sub.toL (by simp only [go_sem] <;> first | trivial | (simp only [Option.some.injEq, AV.v.injEq, AV.own.injEq, AV.list.injEq, Value.int.injEq, Value.bool.injEq, true_and, and_true]; first | omega | (simp; done)) | (simp; done) | (simp; omega)) (by (repeat' (first | exact Hp.le_emp _ | exact Hp.le_refl _ | refine Hp.le_upd ?_ ?_)); all_goals (first | rfl | (simp only [go_sem]; first | rfl | (refine cellsE ?_ ?_ <;> (simp)) | (simp))))
    · have ej : j = xs.length := by omega
      rw [if_pos hok, decide_eq_true hok]
      refine end_M rfl rfl ?_ rfl
      rw [ej, ← exs, hpl]
      simp [Hp.upd]
end Go.Proofs.YtpffmolibjimgaaGreatDoor
end

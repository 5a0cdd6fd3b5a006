/- What a row asks of its program, part by part: the list of roots stands in the program's head, and the kernel is not to take that long word apart. -/
import Derived.Test.YtfgblelbhlpfjaaAv19
import Derived.JoinedOf
namespace Go.Av
theorem words_ne (a : List Char) : ∃ w ws, wordsSigns a = w :: ws := by
  cases a with
  | nil => exact ⟨_, _, rfl⟩
  | cons c r =>
    by_cases h : c = Char.ofNat 32
    · subst h; exact ⟨[], wordsSigns r, rfl⟩
    · cases hw : wordsSigns r with
      | nil => exact ⟨[c], [], by rw [wordsSigns, hw]; exact fun e => h e⟩
      | cons w ws => exact ⟨c :: w, ws, by rw [wordsSigns, hw]; exact fun e => h e⟩
theorem words_app (a r : List Char) : wordsSigns (a ++ Char.ofNat 32 :: r) = wordsSigns a ++ wordsSigns r := by
  induction a with
  | nil => rfl
  | cons c a ih =>
    by_cases h : c = Char.ofNat 32
    · subst h
      show [] :: wordsSigns (a ++ Char.ofNat 32 :: r) = [] :: wordsSigns a ++ wordsSigns r
      rw [ih]; rfl
    · obtain ⟨w, ws, hw⟩ := words_ne a
      rw [List.cons_append, wordsSigns, ih, hw, wordsSigns, hw]
      · rfl
      · exact fun e => h e
      · exact fun e => h e

theorem behind_ok {a b c : List Char} {X : List (List Char)} (ha : (a == "harness".toList) = true) (hb : isSumSigns b = true) : behindMainWord (a :: b :: c :: X) = c :: X := by
  simp only [behindMainWord]
  rw [if_pos (by rw [ha, hb]; rfl)]
theorem strip_cut (X : List (List Char)) : stripLifts liftWords ("cut".toList :: X) = ([], "cut".toList :: X) := by kernel_rfl
theorem lifts_nil {P : Program} {a b : List Char} {X : List (List Char)} (h : wordsSigns P.initOrder.toList = a :: b :: "cut".toList :: X) (ha : (a == "harness".toList) = true) (hb : isSumSigns b = true) : P.headLifts = [] := by
  unfold Program.headLifts
  rw [h, behind_ok ha hb, strip_cut]
  simp
theorem make_cut {P : Program} {a b : List Char} {X : List (List Char)} (h : wordsSigns P.initOrder.toList = a :: b :: "cut".toList :: X) (ha : (a == "harness".toList) = true) (hb : isSumSigns b = true) : P.make = some .cut := by
  unfold Program.make
  rw [h, behind_ok ha hb]
  rfl
theorem final_cut {P : Program} {a b : List Char} {X : List (List Char)} (h : wordsSigns P.initOrder.toList = a :: b :: "cut".toList :: X) (ha : (a == "harness".toList) = true) (hb : isSumSigns b = true) : P.liftsFinal = false := by
  unfold Program.liftsFinal
  rw [lifts_nil h ha hb, h, behind_ok ha hb]
  rfl
theorem enter_cut {P : Program} {a b : List Char} {X : List (List Char)} (h : wordsSigns P.initOrder.toList = a :: b :: "cut".toList :: X) (ha : (a == "harness".toList) = true) (hb : isSumSigns b = true)
    (h1 : P.laysLater = false) (h2 : P.bearsReflect = false) (h3 : P.doorFits [] = true) : P.mayEnter = true := by
  unfold Program.mayEnter
  rw [h, behind_ok ha hb]
  simp only [strip_cut, h1, h2, h3]
  simp

theorem bt {a b : Bool} (h : a = true) (k : b = true) : (a && b) = true := by rw [h, k]; rfl
theorem joined_of {P : Program} {f : FuncId} {fn : Func} {s : ChangeSpec} {c : OpenClaim} (k0 : (c.wf (OpenSpec.ofChange s)) = true) (k1 : (laidOutB P) = true) (k2 : (mapsRowed P) = true) (k3 : (fn.params.all (P.readableRec ·)) = true) (k4 : (namedTie P c.named s.vars) = true) (k5 : (c.stops == []) = true) (k6 : (P.stops == []) = true) (k7 : (c.knobs == []) = true) (k8 : (P.stopKnobs == []) = true) (k9 : (c.inPlace == P.inPlace f) = true) (k10 : (c.unfollowed == P.unfollowed f) = true) (k11 : (c.recurses == P.recurses f) = true) (k12 : (c.named == P.varsNamed f) = true) (k13 : (c.maps == (fn.params.toList ++ s.plain.varTypes P).any (P.mapsRec ·)) = true) (k14 : (c.ifaces == (fn.params.toList ++ s.plain.varTypes P).any (P.ifacesRec ·)) = true) (k15 : (c.mapsOut == P.mapsAmong fn.resultTypes.toList) = true) (k16 : (c.loops == (fn.params.toList ++ s.plain.varTypes P).any (P.loopsFrom ·)) = true) (k17 : (c.wideKeys == (fn.params.toList ++ s.plain.varTypes P ++ fn.resultTypes.toList).any (P.wideKeysFrom ·)) = true) (k18 : (s.vars.all (P.varReadable ·)) = true) (k19 : (fn.resultTypes.all (fun t => P.readableRec t && decide (t < P.types.size))) = true) (k20 : (c.ifacesOut == fn.resultTypes.toList.any (P.ifacesRec ·)) = true) (k21 : (c.loopsOut == fn.resultTypes.toList.any (P.loopsFrom ·)) = true) (k22 : (c.plainKeys == P.plainKeys) = true) (k23 : (c.shortTexts.isNone) = true) (k24 : (P.stopsHeard) = true) (k25 : (P.mayEnter) = true) (k26 : (c.lifted == P.liftsFinal) = true) (k27 : (P.make == some c.make) = true) (k28 : (c.kinds == (if c.domain.isEmpty then [] else fn.params.toList.map fun t => match P.underlying t with | some (.int k) => some k | _ => none)) = true) (k29 : (c.pinned == c.pinnedBy) = true) (k30 : (c.veiled == (fn.params.toList ++ s.plain.varTypes P ++ fn.resultTypes.toList).any (P.veiledRec ·)) = true) (k31 : (c.veiledFits P fn.params.toList (fn.params.toList ++ s.plain.varTypes P ++ fn.resultTypes.toList)) = true) : joinedFacts P f fn s c = true := by
  unfold joinedFacts
  exact bt (bt (bt (bt (bt (bt (bt (bt (bt (bt (bt (bt (bt (bt (bt (bt (bt (bt (bt (bt (bt (bt (bt (bt (bt (bt (bt (bt (bt (bt (bt k0 k1) k2) k3) k4) k5) k6) k7) k8) k9) k10) k11) k12) k13) k14) k15) k16) k17) k18) k19) k20) k21) k22) k23) k24) k25) k26) k27) k28) k29) k30) k31
end Go.Av

import Derived.Test.YtpffmolibjimgaaJ16
import Derived.Test.YtpffmolibjimgaaJ4
import Derived.Test.YtpffmolibjimgaaJ3
import Derived.Test.YtpffmolibjimgaaJ10
/- Regions of open order: a chain of operations that turn memory, and operations that may come at any time before what needs them; some of these look at what the chain's first operations leave as it is. -/
section
namespace Go.Av
set_option linter.unusedVariables false
set_option linter.unusedSimpArgs false
section
variable {P : Program} {N : Cx} {H : Hp}
variable (P N) in
/-- An operation of the chain; a literal of our own may be one. -/
def gx2VC (d : Nat) (op : Op) (A : Fr) (H : Hp) (K : AV → (Nat → Bool) → Hp → Prop) : Prop :=
  match op with
  | .buildSlice t len ps => (match selOf P t, evParts A ps.toList with
    | some se, some l => Ob ((N.pn d = false ∧ 0 < se.size ∧ len * se.size ≤ 16777216) ∧ fillOk (fun i => some (i * se.size, se.size)) (len * se.size) l)
        (K (.own d 0 se.size len) (· == d) ((H.upd d (.cells (len * se.size) (fillF (fun i => some (i * se.size, se.size)) l (zF se.zero)))).scrub (· == d)))
    | _, _ => False)
  | .nilCheck x => withA (A.ev x) fun a => Ob (ptrOk a = true) (K a (fun _ => false) H)
  | .fieldAddr t x i => withA (A.ev x) fun a => faVC (fldOf P t i) a fun r => K r (fun _ => false) H
  | .indexAddr t x i => withA (A.ev x) fun a => withA (A.ev i) fun b => ixVC (ixOf P t) a b fun r => K r (fun _ => false) H
  | .index t x i => withA (A.ev x) fun a => withA (A.ev i) fun b => chVC (isStr P t) a b fun r => K r (fun _ => false) H
  | op => gxVC P N d op A H K
theorem gx2VC_ok {o : Oper} {A : Fr} {K : AV → (Nat → Bool) → Hp → Prop} (h : gx2VC P N (o.dst.getD 0) o.op A H K) : ∃ p : Nat → Bool, ∀ B : Fr, (∀ x ∈ o.op.operands, B.ev x = A.ev x) → OpV P N o B H fun r A' H' => A' = B.scrub p ∧ K r p H' := by
  unfold gx2VC at h
  split at h
  · rename_i t len ps ho
    split at h
    · rename_i se l hse hl
      refine ⟨(· == o.dst.getD 0), fun B hB => opVC_sound ?_⟩
      have hB' : evParts B ps.toList = some l := by
        rw [evParts_congr fun x hx => hB x (by rw [ho]; simpa [Op.operands] using hx), hl]
      rw [ho]
      simp only [opVC, bsVC, hse, hB']
      exact ⟨h.1, trivial, h.2⟩
    · exact h.elim
  · rename_i x ho
    obtain ⟨a, ha, h⟩ := withA_ok h
    refine ⟨fun _ => false, fun B hB => opVC_sound ?_⟩
    have hx : B.ev x = some a := by rw [hB x (by rw [ho]; simp [Op.operands]), ha]
    rw [ho]
    simp only [opVC, hx, withA, Fr.scrub_none, true_and]
    exact h
  · rename_i t x i ho
    obtain ⟨a, ha, h⟩ := withA_ok h
    refine ⟨fun _ => false, fun B hB => opVC_sound ?_⟩
    have hx : B.ev x = some a := by rw [hB x (by rw [ho]; simp [Op.operands]), ha]
    rw [ho]
    simp only [opVC, hx, withA, Fr.scrub_none, true_and]
    exact h
  · rename_i t x i ho
    obtain ⟨a, ha, h⟩ := withA_ok h
    obtain ⟨b, hb, h⟩ := withA_ok h
    refine ⟨fun _ => false, fun B hB => opVC_sound ?_⟩
    have hx : B.ev x = some a := by rw [hB x (by rw [ho]; simp [Op.operands]), ha]
    have hy : B.ev i = some b := by rw [hB i (by rw [ho]; simp [Op.operands]), hb]
    rw [ho]
    simp only [opVC, hx, hy, withA, Fr.scrub_none, true_and]
    exact h
  · rename_i t x i ho
    obtain ⟨a, ha, h⟩ := withA_ok h
    obtain ⟨b, hb, h⟩ := withA_ok h
    refine ⟨fun _ => false, fun B hB => opVC_sound ?_⟩
    have hx : B.ev x = some a := by rw [hB x (by rw [ho]; simp [Op.operands]), ha]
    have hy : B.ev i = some b := by rw [hB i (by rw [ho]; simp [Op.operands]), hb]
    rw [ho]
    simp only [opVC, hx, hy, withA, Fr.scrub_none, true_and]
    exact h
  · exact gxVC_ok h
def keepK (k : Nat) (Hk H : Hp) : Prop := match k with
  | 0 => True
  | _ + 1 => Hp.le Hk H
variable (P N) in
/-- The chain; behind its first k operations Hk still holds. -/
def linkS (Hk : Hp) (T T1 : List (Option Tmp)) (Q : Fr → Hp → Prop) : Nat → List Oper → Fr → Hp → Prop
  | _, [], A, H => Q A H
  | k, o :: l, A, H => gx2VC P N (o.dst.getD 0) o.op A H fun r p H' => Ob (sameG (A.scrub p) A (match k with
    | 0 => T1
    | _ + 1 => T)) (Ob (keepK k Hk H') (linkS Hk T T1 Q (k - 1) l (putd o.dst r (A.scrub p)) H'))
variable (P N) in
def opsS (fs cs T f1 T1 : List Nat) (k : Nat) (Hk : Hp) (Q : Fr → Hp → Prop) (l : List Oper) (A : Fr) (H : Hp) : Prop :=
  opsQ P N (l.map (·.dst)) (fun A1 => Ob (AllH fun H' => opsQ P N (l.map (·.dst)) (fun A2 => sameG A2 A1 (T1.map some)) (pickL f1 l) A H')
    (Ob (AllH fun X => opsQ P N (l.map (·.dst)) (fun A2 => sameG A2 A1 (T.map some)) (pickL fs l) A (Hk.add X)) (Ob (Hp.le Hk H) (linkS P N Hk (T.map some) (T1.map some) Q k (pickL cs l) A1 H)))) (pickL fs l) A H
def chOkS (ops : Array Oper) (fs cs T f1 T1 : List Nat) (k : Nat) : Bool :=
  chOk ops fs cs T && f1.all (fun f => fs.contains f) && incB f1 && fs.all (fun f => f1.contains f || (match cs[k]? with
    | some c => preB ops ops.size c f
    | none => false)) && f1.all (fun f => match ops[f]? with
    | some o => (match o.dst with
      | some d => T1.contains d
      | none => false) && (o.looksAt ops).all fun t => T1.contains t && (List.range ops.size).all fun g => match ops[g]? with
        | some og => og.dst != some t || f1.contains g
        | none => true
    | none => false) && T1.all (fun t => T.contains t)
theorem linkS_sound {ds : List Deferred} {ops : Array Oper} {fs cs T f1 T1 : List Nat} {k0 : Nat} {Hk : Hp} {Q' : Exit → Act → World → Prop} {QF : Fr → Hp → Prop} {A0 A1 : Fr} {rs : List AV} {w0 : World} {S : Rg} (hS : Good N w0 S) (hok : ChOk ops fs cs T) (hT1 : ∀ f ∈ f1, ∀ o : Oper, ops[f]? = some o → ∀ t, t ∈ o.looksAt ops ∨ o.dst = some t → t ∈ T1) (hTT : ∀ t ∈ T1, t ∈ T) (hkS : ∀ f ∈ fs, f ∉ f1 → ∃ c, cs[k0]? = some c ∧ preB ops ops.size c f = true)
    (hN : ∀ (j t : Nat) (o : Oper), ops[j]? = some o → o.dst = some t → t < N.n)
    (hl : rs.length = (pickL fs ops.toList).length)
    (hA1 : ∀ t, A1.get t = valL (pickL fs ops.toList) rs A0.get (pickL fs ops.toList).length t)
    (hstep : ∀ H' j o, (pickL fs ops.toList)[j]? = some o → ((∃ f, fs[j]? = some f ∧ f ∈ f1) ∨ Hp.le Hk H') → ∃ Aj : Fr, (∀ t ∈ o.looksAt ops, Aj.get t = valL (pickL fs ops.toList) rs A0.get j t) ∧ OpOK P N o Aj H' (rs.getD j .dead))
    (hQ : ∀ (A : Fr) (H : Hp) (a : Act) (w : World) (L : Loc), Sim N.n w0 S w a.tmps L A H → a.defers = ds → QF A H → Q' .normal a w) :
    ∀ (fuel : Nat) (listed : Array Bool) (s : List Nat) (a : Act) (w : World) (A Ac : Fr) (L : Loc) (Hc : Hp) (done rest : List Nat), listed.size = ops.size → s.Nodup → (∀ k, k ∈ s ↔ listed.getD k false = true) → s.length + fuel = ops.size →
      (∀ (k : Nat) (o : Oper) (e : Edge), listed.getD k false = true → ops[k]? = some o → e ∈ o.after → Region.binds .any e = true → listed.getD e.on false = true) → a.defers = ds →
      Sim N.n w0 S w a.tmps L A Hc → cs = done ++ rest → (∀ c ∈ done, listed.getD c false = true) → (∀ c ∈ rest, ¬ listed.getD c false = true) → (done.length ≤ k0 → Hp.le Hk Hc) → (k0 < done.length → ∀ f ∈ fs, f ∉ f1 → listed.getD f false = true) →
      (∀ t, (∀ f ∈ fs, ∀ o : Oper, ops[f]? = some o → ¬ listed.getD f false = true → o.dst ≠ some t) → A.get t = Ac.get t) →
      (∀ t, t ∈ T1 ∨ (done.length ≤ k0 ∧ t ∈ T) → (∀ c ∈ done, ∀ o : Oper, ops[c]? = some o → o.dst ≠ some t) → Ac.get t = A1.get t) →
      linkS P N Hk (T.map some) (T1.map some) QF (k0 - done.length) (pickL rest ops.toList) Ac Hc →
      wpAny P .any ops Q' fuel listed a w := by
  obtain ⟨hinj, hback, hdep⟩ := anyOk_ok hok.any
  have tl : ∀ j : Nat, ops.toList[j]? = ops[j]? := fun j => Array.getElem?_toList
  have flt : ∀ f ∈ fs, f < ops.toList.length := fun f hf => by simpa using hok.flt f hf
  have len : (pickL fs ops.toList).length = fs.length := pickL_len fs flt
  have pk : ∀ j, (pickL fs ops.toList)[j]? = (fs[j]?).bind fun k : Nat => ops[k]? := fun j => by
    rw [pickL_get fs flt j]
    cases fs[j]? with
    | none => rfl
    | some k => exact tl k
  have pko : ∀ j o, (pickL fs ops.toList)[j]? = some o → ∃ f, fs[j]? = some f ∧ f ∈ fs ∧ ops[f]? = some o := fun j o h => by
    rw [pk j] at h
    cases hf : fs[j]? with
    | none => rw [hf] at h; cases h
    | some f => rw [hf] at h; exact ⟨f, hf, List.mem_of_getElem? hf, h⟩
  have inc : ∀ i j f g : Nat, fs[i]? = some f → fs[j]? = some g → f < g → i < j := fun i j f g hf hg hfg => by
    have hj := (List.getElem?_eq_some_iff.1 hg).1
    have hi := (List.getElem?_eq_some_iff.1 hf).1
    refine Nat.lt_of_not_le fun h => ?_
    rcases Nat.lt_or_eq_of_le h with h | h
    · have := incB_ok hok.finc j i h hi
      rw [List.getD_eq_getElem?_getD, List.getD_eq_getElem?_getD, hf, hg] at this
      simp only [Option.getD_some] at this; omega
    · subst h; rw [hf] at hg; simp only [Option.some.injEq] at hg; omega
  have posu : ∀ i j f : Nat, fs[i]? = some f → fs[j]? = some f → i = j := fun i j f hf hg => by
    have hj := (List.getElem?_eq_some_iff.1 hg).1
    have hi := (List.getElem?_eq_some_iff.1 hf).1
    rcases Nat.lt_trichotomy i j with h | h | h
    · have := incB_ok hok.finc i j h hj
      rw [List.getD_eq_getElem?_getD, List.getD_eq_getElem?_getD, hf, hg] at this
      simp only [Option.getD_some] at this; omega
    · exact h
    · have := incB_ok hok.finc j i h hi
      rw [List.getD_eq_getElem?_getD, List.getD_eq_getElem?_getD, hf, hg] at this
      simp only [Option.getD_some] at this; omega
  have uniq : ∀ (k t : Nat) (o : Oper) (k' : Nat) (o' : Oper), ops[k]? = some o → o.dst = some t → ops[k']? = some o' → o'.dst = some t → k' = k := fun k t o k' o' ho hdt ho' hd' => hinj k' k t o' o ho' ho hd' hdt
  -- what the walk's frames say
  have hit : ∀ i j f t o, fs[i]? = some f → i < j → ops[f]? = some o → o.dst = some t → valL (pickL fs ops.toList) rs A0.get j t = some (rs.getD i .dead) := fun i j f t o hf hij ho hd =>
    valL_hit _ rs _ j t i o hl hij (by rw [pk, hf]; exact ho) hd fun k' o' ho' hd' => by
      obtain ⟨f', h1, h2, h3⟩ := pko k' o' ho'
      have := uniq f t o f' o' ho hd h3 hd'
      subst this; exact posu _ _ _ h1 hf
  have miss : ∀ j t, (∀ f ∈ fs, ∀ o : Oper, ops[f]? = some o → o.dst ≠ some t) → valL (pickL fs ops.toList) rs A0.get j t = A0.get t := fun j t h =>
    valL_miss _ rs _ j t fun k o hk ho => by
      obtain ⟨f, h1, h2, h3⟩ := pko k o ho
      exact h f h2 o h3
  intro fuel
  induction fuel with
  | zero =>
    intro listed s a w A Ac L Hc done rest hsz hn hs hc hcl hd sim hcs hdone hrest hK hF hA hI hv
    have hlt : ∀ k ∈ s, k < ops.size := fun k hk => by
      have := (hs k).1 hk
      rcases Nat.lt_or_ge k listed.size with h | h
      · omega
      · simp [Array.getD, show ¬ k < listed.size by omega] at this
    have hall : ∀ k, k < ops.size → listed.getD k false = true := fun k hk => (hs k).1 ((Go.Plain.nodup_iff_all (by omega) hlt).1 hn k hk)
    have hr : rest = [] := by
      cases rest with
      | nil => rfl
      | cons c r =>
        have hc : c ∈ cs := by rw [hcs]; simp
        exact absurd (hall c (hok.clt c hc).1) (hrest c (List.mem_cons_self ..))
    subst hr
    refine ⟨?_, ?_⟩
    · refine List.eq_nil_iff_forall_not_mem.2 fun j hj => ?_
      obtain ⟨h1, o, ho, _⟩ := mem_ready.1 hj
      have hj' : j < ops.size := (Array.getElem?_eq_some_iff.1 ho).1
      have := hall j hj'
      simp [Array.getD, hsz, hj'] at h1 this
      rw [h1] at this; cases this
    · refine hQ Ac Hc a w L (sim.sub fun t x hx => ?_) hd hv
      rw [hA t fun f hf o ho hu => absurd (hall f (hok.flt f hf)) hu]; exact hx
  | succ fuel ih =>
    intro listed s a w A Ac L Hc done rest hsz hn hs hc hcl hd sim hcs hdone hrest hK hF hA hI hv
    have ld : ∀ k, k < ops.size → (listed.getD k true = false ↔ ¬ listed.getD k false = true) := by
      intro k hk
      simp [Array.getD, hsz, hk]
    have hex : ∃ k, k < ops.size ∧ ¬ listed.getD k false = true := by
      refine Classical.byContradiction fun hno => ?_
      have : ∀ x ∈ List.range ops.size, x ∈ s := fun x hx => (hs x).2 (Classical.byContradiction fun h => hno ⟨x, by simpa using hx, h⟩)
      have := Go.Plain.nodup_le s (List.range ops.size) List.nodup_range this
      simp at this; omega
    refine ⟨fun h => absurd h (ready_ne hsz hback hex), fun i hi => ?_⟩
    obtain ⟨hun0, oi, hoi, hall⟩ := mem_ready.1 hi
    have hi' : i < ops.size := (Array.getElem?_eq_some_iff.1 hoi).1
    have hun := (ld i hi').1 hun0
    have g1 : ∀ k, (listed.setIfInBounds i true).getD k false = true ↔ (k = i ∨ listed.getD k false = true) := by
      intro k
      by_cases hk : k = i
      · subst hk; simp [Array.getD, hsz, hi']
      · rw [getD_set_ne false (Ne.symm hk)]; simp [hk]
    have nd1 : (i :: s).Nodup := List.nodup_cons.2 ⟨fun h => hun ((hs i).1 h), hn⟩
    have hs1 : ∀ k, k ∈ i :: s ↔ (listed.setIfInBounds i true).getD k false = true := fun k => by rw [g1, List.mem_cons, hs]
    have hcl1 : ∀ (k : Nat) (o : Oper) (e : Edge), (listed.setIfInBounds i true).getD k false = true → ops[k]? = some o → e ∈ o.after → Region.binds .any e = true → (listed.setIfInBounds i true).getD e.on false = true := by
      intro k o e hk ho he hb
      rw [g1] at hk ⊢
      rcases hk with rfl | hk
      · rw [hoi] at ho; simp only [Option.some.injEq] at ho; subst ho
        exact .inr (hall e he hb)
      · exact .inr (hcl k o e hk ho he hb)
    have hNi := fun t h => hN i t oi hoi h
    unfold wpOp
    simp only [hoi]
    rw [if_pos (by simp [Region.wanted, hok.guard i oi hoi])]
    left
    have looks : ∀ (B : Fr), (∀ t, t ∈ oi.looksAt ops → A.get t = B.get t) → ∀ x ∈ oi.op.operands, A.ev x = B.ev x := by
      intro B hB x hx
      cases x with
      | tmp t => exact hB t (List.mem_append_left _ (List.mem_filterMap.2 ⟨.tmp t, by simpa using hx, rfl⟩))
      | const v => rfl
      | global g => rfl
      | func f => rfl
    rcases hok.all i hi' with hif | hic
    · -- one that may come at any time
      obtain ⟨j, hj⟩ := List.getElem?_of_mem hif
      have hcase : (∃ f, fs[j]? = some f ∧ f ∈ f1) ∨ Hp.le Hk Hc := by
        by_cases h1 : i ∈ f1
        · exact .inl ⟨i, hj, h1⟩
        · by_cases h2 : done.length ≤ k0
          · exact .inr (hK h2)
          · exact absurd (hF (by omega) i hif h1) hun
      obtain ⟨Aj, hAj, hop⟩ := hstep Hc j oi (by rw [pk, hj]; exact hoi) hcase
      obtain ⟨di, hdi, hdT0⟩ := hok.fd i hif oi hoi
      have hTi : ∀ t, t ∈ oi.looksAt ops ∨ oi.dst = some t → t ∈ T1 ∨ (done.length ≤ k0 ∧ t ∈ T) := fun t ht => by
        by_cases h1 : i ∈ f1
        · exact .inl (hT1 i h1 oi hoi t ht)
        · by_cases h2 : done.length ≤ k0
          · refine .inr ⟨h2, ?_⟩
            rcases ht with ht | ht
            · exact hok.ft i hif oi hoi t ht
            · rw [hdi] at ht; simp only [Option.some.injEq] at ht; subst ht; exact hdT0
          · exact absurd (hF (by omega) i hif h1) hun
      have hdT := hTi di (.inr hdi)
      have nochain : ∀ c ∈ done, ∀ o : Oper, ops[c]? = some o → o.dst ≠ some di := fun c hc o ho hdt => by
        have := uniq i di oi c o hoi hdi ho hdt
        subst this
        exact (hok.clt c (by rw [hcs]; exact List.mem_append_left _ hc)).2 hif
      refine hop A (looks Aj fun t ht => ?_) w0 S hS w a L sim _ Q' ?_
      · have htT := hTi t (.inl ht)
        rw [hAj t ht]
        by_cases hx : ∃ (k : Nat) (o : Oper), ops[k]? = some o ∧ o.dst = some t
        · obtain ⟨k, o, ho, hdt⟩ := hx
          have hk' := (Array.getElem?_eq_some_iff.1 ho).1
          rcases hok.all k hk' with hkf | hkc
          · obtain ⟨hne, hno⟩ := hok.fr k hkf o ho t hdt i oi hoi ht
            rcases hdep k i t o oi (fun e => hne e.symm) ho hoi hdt ht with ⟨e, he, hb, rfl⟩ | ⟨e, he, hb, he2⟩
            · have hlk := hall e he hb
              have hlt := hback i oi e hoi he hb
              obtain ⟨j', hj'⟩ := List.getElem?_of_mem hkf
              have hjj := inc j' j e.on i hj' hj hlt
              have hjl : j' < (pickL fs ops.toList).length := by rw [len]; exact (List.getElem?_eq_some_iff.1 hj').1
              rw [hit j' j e.on t o hj' hjj ho hdt, hA t fun f hf o' ho' hu hd' => by
                have := uniq e.on t o f o' ho hdt ho' hd'; subst this; exact hu hlk]
              rw [hI t htT fun c hc o' ho' hd' => by
                have := uniq e.on t o c o' ho hdt ho' hd'; subst this
                exact (hok.clt e.on (by rw [hcs]; exact List.mem_append_left _ hc)).2 hkf]
              rw [hA1, hit j' _ e.on t o hj' hjl ho hdt]
            · exact absurd he2 (hno e he hb)
          · have hnf : ∀ f ∈ fs, ∀ o' : Oper, ops[f]? = some o' → o'.dst ≠ some t := fun f hf o' ho' hd' => by
              have := uniq k t o f o' ho hdt ho' hd'; subst this; exact (hok.clt f hkc).2 hf
            have hki : k ≠ i := fun e => by subst e; exact (hok.clt k hkc).2 hif
            rcases hdep k i t o oi hki ho hoi hdt ht with ⟨e, he, hb, rfl⟩ | ⟨e, he, hb, rfl⟩
            · exact absurd hkc (hok.fc i hif oi hoi e he hb)
            · have hkd : k ∉ done := fun hk => hun (hcl k o e (hdone k hk) ho he hb)
              rw [miss j t hnf, hA t fun f hf o' ho' _ => hnf f hf o' ho', hI t htT fun c hc o' ho' hd' => by
                have := uniq k t o c o' ho hdt ho' hd'; subst this; exact hkd hc]
              rw [hA1, miss _ t hnf]
        · have hno : ∀ (k : Nat) (o : Oper), ops[k]? = some o → o.dst ≠ some t := fun k o ho e => hx ⟨k, o, ho, e⟩
          rw [miss j t fun f _ o ho => hno f o ho, hA t fun f _ o ho _ => hno f o ho, hI t htT fun c _ o ho => hno c o ho, hA1, miss _ t fun f _ o ho => hno f o ho]
      · rintro u rr L' A' H4 w' s' hr ⟨rfl, rfl, rfl⟩
        refine ih (listed.setIfInBounds i true) (i :: s) _ w' (putd oi.dst (rs.getD j .dead) A') Ac L' H4 done rest (by simp [hsz]) nd1 hs1 (by simp only [List.length_cons]; omega) hcl1 (by rw [put_defers]; exact hd) (s'.putd hNi hr) hcs (fun c hc => (g1 c).2 (.inr (hdone c hc))) (fun c hc h => ?_) hK (fun h f hf h1 => (g1 f).2 (.inr (hF h f hf h1))) (fun t ht => ?_) hI hv
        · rcases (g1 c).1 h with rfl | h
          · exact (hok.clt c (by rw [hcs]; exact List.mem_append_right _ hc)).2 hif
          · exact hrest c hc h
        · rw [putd_get]
          by_cases e : oi.dst = some t
          · rw [if_pos e]
            rw [hdi] at e; simp only [Option.some.injEq] at e; subst e
            rw [hI di hdT nochain, hA1, hit j _ i di oi hj (by rw [len]; exact (List.getElem?_eq_some_iff.1 hj).1) hoi hdi]
          · rw [if_neg e]
            refine hA t fun f hf o ho hu => ?_
            by_cases hfi : f = i
            · subst hfi; rw [hoi] at ho; simp only [Option.some.injEq] at ho; subst ho; exact e
            · exact ht f hf o ho fun h => ((g1 f).1 h).elim hfi hu
    · -- the next of the chain
      have hir : i ∈ rest := by
        rw [hcs] at hic
        rcases List.mem_append.1 hic with h | h
        · exact absurd (hdone i h) hun
        · exact h
      obtain ⟨c, r, rfl⟩ : ∃ c r, rest = c :: r := by
        cases rest with
        | nil => cases hir
        | cons c r => exact ⟨c, r, rfl⟩
      have hci : c = i := by
        rcases List.mem_cons.1 hir with h | h
        · exact h.symm
        · have hp : chPre ops (c :: r) = true := by
            have hp := hok.pre
            rw [hcs] at hp
            exact chPre_app done hp
          simp only [chPre, Bool.and_eq_true, List.all_eq_true] at hp
          exact absurd (pre_ready hcl hoi hall (hp.1 i h)) (hrest c (List.mem_cons_self ..))
      subst hci
      have e1 : pickL (c :: r) ops.toList = oi :: pickL r ops.toList := by
        have hk : c < ops.toList.length := by simpa using hi'
        have e2 : ops.toList[c] = oi := by
          have := Array.getElem?_eq_some_iff.1 hoi
          obtain ⟨_, e⟩ := this
          simpa using e
        simp only [pickL]
        rw [List.drop_eq_getElem_cons hk, e2]; rfl
      rw [e1] at hv
      simp only [linkS] at hv
      obtain ⟨p, hp⟩ := gx2VC_ok hv
      refine hp A (looks Ac fun t ht => hA t fun f hf o ho hu hdt => ?_) w0 S hS w a L sim _ Q' ?_
      · obtain ⟨hne, hno⟩ := hok.fr f hf o ho t hdt c oi hoi ht
        rcases hdep f c t o oi (fun e => hne e.symm) ho hoi hdt ht with ⟨e, he, hb, rfl⟩ | ⟨e, he, hb, he2⟩
        · exact hu (hall e he hb)
        · exact hno e he hb he2
      · rintro u rr L' A' H4 w' s' hr ⟨rfl, hsame, hkk, hv'⟩
        refine ih (listed.setIfInBounds c true) (c :: s) _ w' (putd oi.dst rr (A.scrub p)) (putd oi.dst rr (Ac.scrub p)) L' H4 (done ++ [c]) r (by simp [hsz]) nd1 hs1 (by simp only [List.length_cons]; omega) hcl1 (by rw [put_defers]; exact hd) (s'.putd hNi hr) (by rw [hcs]; simp) (fun x hx => ?_) (fun x hx h => ?_) (fun hlk => ?_) (fun hlk f hf hf1 => ?_) (fun t ht => ?_) (fun t htT ht => ?_) (by rw [List.length_append, List.length_singleton, ← Nat.sub_sub]; exact hv')
        · rcases List.mem_append.1 hx with h | h
          · exact (g1 x).2 (.inr (hdone x h))
          · rw [List.mem_singleton.1 h]; exact (g1 c).2 (.inl rfl)
        · rcases (g1 x).1 h with rfl | h
          · have := hok.cinc
            rw [hcs] at this
            have hpos := List.getElem?_of_mem hx
            obtain ⟨j, hj⟩ := hpos
            have hjl := (List.getElem?_eq_some_iff.1 hj).1
            have := incB_ok this done.length (done.length + 1 + j) (by omega) (by simp; omega)
            rw [List.getD_eq_getElem?_getD, List.getD_eq_getElem?_getD, List.getElem?_append_right (Nat.le_refl _), List.getElem?_append_right (by omega)] at this
            rw [show done.length + 1 + j - done.length = j + 1 by omega, Nat.sub_self] at this
            simp only [List.getElem?_cons_zero, List.getElem?_cons_succ, hj, Option.getD_some] at this
            omega
          · exact hrest x (List.mem_cons_of_mem _ hx) h
        · rw [List.length_append, List.length_singleton] at hlk
          obtain ⟨m, hm⟩ : ∃ m, k0 - done.length = m + 1 := ⟨k0 - done.length - 1, by omega⟩
          rw [hm] at hkk
          exact hkk
        · rw [List.length_append, List.length_singleton] at hlk
          refine (g1 f).2 (.inr ?_)
          by_cases hlt : k0 < done.length
          · exact hF hlt f hf hf1
          · have hke : k0 = done.length := by omega
            obtain ⟨c', hc', hpre⟩ := hkS f hf hf1
            have : c' = c := by
              rw [hcs, hke, List.getElem?_append_right (Nat.le_refl _), Nat.sub_self] at hc'
              simpa using hc'.symm
            subst this
            exact pre_ready hcl hoi hall hpre
        · rw [putd_get, putd_get]
          by_cases e : oi.dst = some t
          · rw [if_pos e, if_pos e]
          · rw [if_neg e, if_neg e, Fr.get_scrub, Fr.get_scrub, hA t fun f hf o ho hu => ht f hf o ho fun h => ((g1 f).1 h).elim (fun e => by subst e; exact (hok.clt f hic).2 hf) hu]
        · rw [putd_get, if_neg (ht c (by simp) oi hoi)]
          rw [List.length_append, List.length_singleton] at htT
          have hm : some t ∈ (match k0 - done.length with
              | 0 => T1.map some
              | _ + 1 => T.map some) := by
            cases hk : k0 - done.length with
            | zero =>
              rcases htT with h | h
              · exact List.mem_map.2 ⟨t, h, rfl⟩
              · omega
            | succ m =>
              rcases htT with h | h
              · exact List.mem_map.2 ⟨t, hTT t h, rfl⟩
              · exact List.mem_map.2 ⟨t, h.2, rfl⟩
          have := sameG_ok _ hsame t hm
          rw [this]
          exact hI t (htT.imp id fun h => ⟨by omega, h.2⟩) fun x hx o ho => ht x (List.mem_append_left _ hx) o ho
theorem awp_regionS {A : Fr} (fs cs T f1 T1 : List Nat) (k : Nat) (Hk : Hp) {id : Nat} {l : List Oper} {Q : Exit → Fr → Hp → Prop} (hm : P.follows .mixedOrders = true) (hBS : chOkS l.toArray fs cs T f1 T1 k = true) (hN : dstsOk N l = true)
    (h : opsS P N fs cs T f1 T1 k Hk (Q .normal) l A H) : AWP P N (.region id l.toArray true) Q A H := by
  have hmem := dstsOk_mem hN
  simp only [chOkS, Bool.and_eq_true, List.all_eq_true, Bool.or_eq_true, List.contains_iff_mem] at hBS
  obtain ⟨⟨⟨⟨⟨hB, hf1⟩, hinc1⟩, hkS0⟩, hcl1⟩, hTT⟩ := hBS
  have hok := chOk_ok hB
  have hkS : ∀ f ∈ fs, f ∉ f1 → ∃ c, cs[k]? = some c ∧ preB l.toArray l.toArray.size c f = true := fun f hf h1 => by
    rcases hkS0 f hf with h | h
    · exact absurd h h1
    · split at h
      · rename_i c hc; exact ⟨c, hc, h⟩
      · cases h
  obtain ⟨hinj, _, _⟩ := anyOk_ok hok.any
  have flt : ∀ f ∈ fs, f < l.length := fun f hf => by simpa using hok.flt f hf
  have pko : ∀ j o, (pickL fs l)[j]? = some o → ∃ f, fs[j]? = some f ∧ f ∈ fs ∧ l[f]? = some o := fun j o h => by
    rw [pickL_get fs flt j] at h
    cases hf : fs[j]? with
    | none => rw [hf] at h; cases h
    | some f => rw [hf] at h; exact ⟨f, hf, List.mem_of_getElem? hf, h⟩
  unfold opsS at h
  obtain ⟨rs, hlex⟩ := lex_of_opsQ _ A h
  obtain ⟨k1, k2, A1, k3, k6, k4, k7, k5⟩ := LexL_get (pickL fs l) A rs A.get (fun _ => rfl) hlex
  have uni : ∀ (j k : Nat) (o o' : Oper) (t : Nat), (pickL fs l)[j]? = some o → o.dst = some t → (pickL fs l)[k]? = some o' → o'.dst = some t → k = j := fun j k o o' t hj hdt hk hd' => by
    obtain ⟨f, h1, h2, h3⟩ := pko j o hj
    obtain ⟨g, h4, h5, h6⟩ := pko k o' hk
    have := hinj g f t o' o (by simpa using h6) (by simpa using h3) hd' hdt
    subst this
    have hj := (List.getElem?_eq_some_iff.1 h1).1
    have hk := (List.getElem?_eq_some_iff.1 h4).1
    rcases Nat.lt_trichotomy k j with h | h | h
    · have := incB_ok hok.finc k j h hj
      rw [List.getD_eq_getElem?_getD, List.getD_eq_getElem?_getD, h1, h4] at this
      simp only [Option.getD_some] at this; omega
    · exact h
    · have := incB_ok hok.finc j k h hk
      rw [List.getD_eq_getElem?_getD, List.getD_eq_getElem?_getD, h1, h4] at this
      simp only [Option.getD_some] at this; omega
  refine awp_ex fun w0 S hS w a L s ds hd => ?_
  have s1 : Sim N.n w0 S w.drew a.tmps L A H := s.drew
  refine wp_region_any hm ?_
  have f1lt : ∀ f ∈ f1, f < l.length := fun f hf => flt f (hf1 f hf)
  have pk1 : ∀ j o, (pickL f1 l)[j]? = some o → ∃ f, f1[j]? = some f ∧ f ∈ f1 ∧ l[f]? = some o := fun j o h => by
    rw [pickL_get f1 f1lt j] at h
    cases hf : f1[j]? with
    | none => rw [hf] at h; cases h
    | some f => rw [hf] at h; exact ⟨f, hf, List.mem_of_getElem? hf, h⟩
  have inc1 : ∀ i j f g : Nat, f1[i]? = some f → f1[j]? = some g → f < g → i < j := fun i j f g hf hg hfg => by
    have hj := (List.getElem?_eq_some_iff.1 hg).1
    have hi := (List.getElem?_eq_some_iff.1 hf).1
    refine Nat.lt_of_not_le fun h => ?_
    rcases Nat.lt_or_eq_of_le h with h | h
    · have := incB_ok hinc1 j i h hi
      rw [List.getD_eq_getElem?_getD, List.getD_eq_getElem?_getD, hf, hg] at this
      simp only [Option.getD_some] at this; omega
    · subst h; rw [hf] at hg; simp only [Option.some.injEq] at hg; omega
  have inc0 : ∀ i j f g : Nat, fs[i]? = some f → fs[j]? = some g → f < g → i < j := fun i j f g hf hg hfg => by
    have hj := (List.getElem?_eq_some_iff.1 hg).1
    have hi := (List.getElem?_eq_some_iff.1 hf).1
    refine Nat.lt_of_not_le fun h => ?_
    rcases Nat.lt_or_eq_of_le h with h | h
    · have := incB_ok hok.finc j i h hi
      rw [List.getD_eq_getElem?_getD, List.getD_eq_getElem?_getD, hf, hg] at this
      simp only [Option.getD_some] at this; omega
    · subst h; rw [hf] at hg; simp only [Option.some.injEq] at hg; omega
  have uni1 : ∀ (j k : Nat) (o o' : Oper) (t : Nat), (pickL f1 l)[j]? = some o → o.dst = some t → (pickL f1 l)[k]? = some o' → o'.dst = some t → k = j := fun j k o o' t hj hdt hk hd' => by
    obtain ⟨f, h1, h2, h3⟩ := pk1 j o hj
    obtain ⟨g, h4, h5, h6⟩ := pk1 k o' hk
    have := hinj g f t o' o (by simpa using h6) (by simpa using h3) hd' hdt
    subst this
    rcases Nat.lt_trichotomy k j with h | h | h
    · have hjl := (List.getElem?_eq_some_iff.1 h1).1
      have := incB_ok hinc1 k j h hjl
      rw [List.getD_eq_getElem?_getD, List.getD_eq_getElem?_getD, h1, h4] at this
      simp only [Option.getD_some] at this; omega
    · exact h
    · have hkl := (List.getElem?_eq_some_iff.1 h4).1
      have := incB_ok hinc1 j k h hkl
      rw [List.getD_eq_getElem?_getD, List.getD_eq_getElem?_getD, h1, h4] at this
      simp only [Option.getD_some] at this; omega
  have hT1 : ∀ f ∈ f1, ∀ o : Oper, l.toArray[f]? = some o → ∀ t, t ∈ o.looksAt l.toArray ∨ o.dst = some t → t ∈ T1 := fun f hf o ho t ht => by
    have hc := hcl1 f hf
    rw [ho] at hc
    simp only [Bool.and_eq_true, List.all_eq_true] at hc
    rcases ht with ht | ht
    · have := (hc.2 t (by simpa using ht)).1
      simpa using this
    · have h1 := hc.1
      rw [ht] at h1
      simpa using h1
  refine linkS_sound (ops := l.toArray) (fs := fs) (cs := cs) (T := T) (f1 := f1) (T1 := T1) (k0 := k) (Hk := Hk) (A0 := A) (A1 := A1) (rs := rs) (QF := Q .normal) hS hok hT1 (fun t ht => by simpa using hTT t ht) hkS (fun j t o ho hdt => hmem o (List.mem_of_getElem? (by simpa using ho)) t hdt) k1 k3 (fun H' j o ho hcase => ?_) ?_ l.toArray.size _ [] a _ A A1 L H [] cs (by simp) List.nodup_nil (fun k => ?_) (by simp) (fun k o e hk => ?_) hd s1 rfl (fun c hc => by cases hc) (fun c _ hk => ?_) (fun _ => k7) (fun h => absurd h (Nat.not_lt_zero _)) (fun t ht => ?_) (fun t _ _ => rfl) (by simpa using k5)
  · rw [List.toList_toArray] at ho
    obtain ⟨f, q1, q2, q3⟩ := pko j o ho
    have fin : ∀ (B : Fr) (r : AV), StepOK P N (l.map (·.dst)) o B H' r → OpOK P N o B H' r := fun B r h2 => by
      unfold StepOK at h2
      rw [hok.guard f o (by simpa using q3)] at h2
      exact h2
    by_cases hle : Hp.le Hk H'
    · have eX : Hk.add H' = H' := by
        funext x
        unfold Hp.add
        cases e : Hk x with
        | none => rfl
        | some B => exact (hle x B e).symm
      have k4' : opsQ P N (l.map (·.dst)) (fun A2 => sameG A2 A1 (T.map some)) (pickL fs l) A (Hk.add H') := k4 H'
      rw [eX] at k4'
      obtain ⟨rs2, hlex2⟩ := lex_of_opsQ _ A k4'
      obtain ⟨j1, j2, A2, j3, j4⟩ := LexL_get (pickL fs l) A rs2 A.get (fun _ => rfl) hlex2
      have er : rs2 = rs := by
        refine List.ext_getElem (by rw [j1, k1]) fun k h1 h2 => ?_
        have hk : k < (pickL fs l).length := by omega
        have hko : (pickL fs l)[k]? = some (pickL fs l)[k] := List.getElem?_eq_getElem hk
        obtain ⟨f, q1, q2, q3⟩ := pko k _ hko
        obtain ⟨d, hdd, hdT⟩ := hok.fd f q2 _ (by simpa using q3)
        have e := sameG_ok _ j4 d (List.mem_map.2 ⟨d, hdT, rfl⟩)
        rw [j3, k3, valL_hit _ rs2 _ _ d k _ j1 hk hko hdd (fun k' o' ho' hd' => uni k k' _ o' d hko hdd ho' hd'), valL_hit _ rs _ _ d k _ k1 hk hko hdd (fun k' o' ho' hd' => uni k k' _ o' d hko hdd ho' hd')] at e
        simpa [List.getD_eq_getElem?_getD, h1, h2] using e
      subst er
      obtain ⟨Aj, h1, h2⟩ := j2 j o ho
      exact ⟨Aj, fun t _ => by rw [List.toList_toArray]; exact h1 t, fin Aj _ h2⟩
    · obtain ⟨f', e1, hff⟩ := hcase.resolve_right hle
      have : f' = f := by rw [q1] at e1; simpa using e1.symm
      subst this
      obtain ⟨rs1, hlex1⟩ := lex_of_opsQ _ A (k6 H')
      obtain ⟨j1, j2, A2, j3, j4⟩ := LexL_get (pickL f1 l) A rs1 A.get (fun _ => rfl) hlex1
      -- results are the same in both
      have same : ∀ (g i1 i0 : Nat), f1[i1]? = some g → fs[i0]? = some g → rs1.getD i1 .dead = rs.getD i0 .dead := fun g i1 i0 h1 h0 => by
        have hg1 : g ∈ f1 := List.mem_of_getElem? h1
        obtain ⟨og, hog⟩ : ∃ og, l[g]? = some og := ⟨l[g]'(f1lt g hg1), List.getElem?_eq_getElem _⟩
        have hc := hcl1 g hg1
        rw [show l.toArray[g]? = some og by simpa using hog] at hc
        simp only [Bool.and_eq_true] at hc
        obtain ⟨hc1, _⟩ := hc
        split at hc1
        · rename_i d hd
          have hdT1 : d ∈ T1 := by simpa using hc1
          have e := sameG_ok _ j4 d (List.mem_map.2 ⟨d, hdT1, rfl⟩)
          have p1 : (pickL f1 l)[i1]? = some og := by rw [pickL_get f1 f1lt, h1]; exact hog
          have p0 : (pickL fs l)[i0]? = some og := by rw [pickL_get fs flt, h0]; exact hog
          rw [j3, k3, valL_hit _ rs1 _ _ d i1 og j1 (List.getElem?_eq_some_iff.1 p1).1 p1 hd (fun k' o' ho' hd' => uni1 i1 k' og o' d p1 hd ho' hd'), valL_hit _ rs _ _ d i0 og k1 (List.getElem?_eq_some_iff.1 p0).1 p0 hd (fun k' o' ho' hd' => uni i0 k' og o' d p0 hd ho' hd')] at e
          simpa using e
        · cases hc1
      obtain ⟨i1, hi1⟩ := List.getElem?_of_mem hff
      have p1 : (pickL f1 l)[i1]? = some o := by rw [pickL_get f1 f1lt, hi1]; exact q3
      obtain ⟨Aj, h1, h2⟩ := j2 i1 o p1
      rw [same f' i1 j hi1 q1] at h2
      refine ⟨Aj, fun t ht => ?_, fin Aj _ h2⟩
      rw [List.toList_toArray, h1]
      have hc := hcl1 f' hff
      rw [show l.toArray[f']? = some o by simpa using q3] at hc
      simp only [Bool.and_eq_true, List.all_eq_true, List.mem_range, Bool.or_eq_true, bne_iff_ne] at hc
      have hcl := (hc.2 t (by simpa using ht)).2
      by_cases hx : ∃ (g : Nat) (og : Oper), l[g]? = some og ∧ og.dst = some t
      · obtain ⟨g, og, hog, hdt⟩ := hx
        have hgl := (List.getElem?_eq_some_iff.1 hog).1
        have hg1 : g ∈ f1 := by
          have := hcl g (by simpa using hgl)
          rw [show l.toArray[g]? = some og by simpa using hog] at this
          simp only [Bool.or_eq_true, bne_iff_ne] at this
          rcases this with h | h
          · exact absurd hdt h
          · simpa using h
        obtain ⟨m1, hm1⟩ := List.getElem?_of_mem hg1
        obtain ⟨m0, hm0⟩ := List.getElem?_of_mem (hf1 g hg1)
        have pm1 : (pickL f1 l)[m1]? = some og := by rw [pickL_get f1 f1lt, hm1]; exact hog
        have pm0 : (pickL fs l)[m0]? = some og := by rw [pickL_get fs flt, hm0]; exact hog
        rcases Nat.lt_trichotomy g f' with hl | hl | hl
        · rw [valL_hit _ rs1 _ i1 t m1 og j1 (inc1 m1 i1 g f' hm1 hi1 hl) pm1 hdt (fun k' o' ho' hd' => uni1 m1 k' og o' t pm1 hdt ho' hd'), valL_hit _ rs _ j t m0 og k1 (inc0 m0 j g f' hm0 q1 hl) pm0 hdt (fun k' o' ho' hd' => uni m0 k' og o' t pm0 hdt ho' hd'), same g m1 m0 hm1 hm0]
        · have ef : m1 = i1 := by
            subst hl
            exact uni1 i1 m1 og og t (by rw [pickL_get f1 f1lt, hi1]; exact hog) hdt pm1 hdt
          have ef0 : m0 = j := by
            subst hl
            exact uni j m0 og og t (by rw [pickL_get fs flt, q1]; exact hog) hdt pm0 hdt
          rw [valL_miss _ rs1 _ i1 t fun k' o' hk' ho' hd' => by have := uni1 m1 k' og o' t pm1 hdt ho' hd'; omega, valL_miss _ rs _ j t fun k' o' hk' ho' hd' => by have := uni m0 k' og o' t pm0 hdt ho' hd'; omega]
        · have hl1 := inc1 i1 m1 f' g hi1 hm1 hl
          have hl0 := inc0 j m0 f' g q1 hm0 hl
          rw [valL_miss _ rs1 _ i1 t fun k' o' hk' ho' hd' => by have := uni1 m1 k' og o' t pm1 hdt ho' hd'; omega, valL_miss _ rs _ j t fun k' o' hk' ho' hd' => by have := uni m0 k' og o' t pm0 hdt ho' hd'; omega]
      · have hno : ∀ (k : Nat) (o : Oper), l[k]? = some o → o.dst ≠ some t := fun k o ho e => hx ⟨k, o, ho, e⟩
        rw [valL_miss _ rs1 _ i1 t fun k' o' _ ho' => by obtain ⟨g, _, _, h6⟩ := pk1 k' o' ho'; exact hno g o' h6, valL_miss _ rs _ j t fun k' o' _ ho' => by obtain ⟨g, _, _, h6⟩ := pko k' o' ho'; exact hno g o' h6]
  · intro A' H3 a' w' L' s' hd' hq
    exact ⟨L', A', H3, s', hd', hq⟩
  · simp [Array.getD]
  · simp [Array.getD] at hk
  · simp [Array.getD] at hk
  · have hno : ∀ f ∈ fs, ∀ o : Oper, l[f]? = some o → o.dst ≠ some t := fun f hf o ho => ht f hf o (by simpa using ho) (by simp [Array.getD])
    rw [k3, valL_miss _ _ _ _ _ fun k o _ ho => by obtain ⟨f, q1, q2, q3⟩ := pko k o ho; exact hno f q2 o q3]
theorem obLe {a b : Hp} {p : Prop} (h : Hp.le a b) (k : p) : Ob (Hp.le a b) p := Ob.mk h k
theorem linkS_nil (Hk : Hp) (T T1 : List (Option Tmp)) (Q : Fr → Hp → Prop) (k : Nat) (A : Fr) : linkS P N Hk T T1 Q k [] A H = Q A H := by
  cases k <;> rfl
theorem linkS_0 (Hk : Hp) (T T1 : List (Option Tmp)) (Q : Fr → Hp → Prop) (o : Oper) (l : List Oper) (A : Fr) : linkS P N Hk T T1 Q 0 (o :: l) A H = gx2VC P N (o.dst.getD 0) o.op A H fun r p H' => Ob (sameG (A.scrub p) A T1) (Ob True (linkS P N Hk T T1 Q 0 l (putd o.dst r (A.scrub p)) H')) := rfl
theorem linkS_1 (Hk : Hp) (T T1 : List (Option Tmp)) (Q : Fr → Hp → Prop) (o : Oper) (l : List Oper) (A : Fr) : linkS P N Hk T T1 Q 1 (o :: l) A H = gx2VC P N (o.dst.getD 0) o.op A H fun r p H' => Ob (sameG (A.scrub p) A T) (Ob (Hp.le Hk H') (linkS P N Hk T T1 Q 0 l (putd o.dst r (A.scrub p)) H')) := rfl
theorem linkS_2 (Hk : Hp) (T T1 : List (Option Tmp)) (Q : Fr → Hp → Prop) (o : Oper) (l : List Oper) (A : Fr) : linkS P N Hk T T1 Q 2 (o :: l) A H = gx2VC P N (o.dst.getD 0) o.op A H fun r p H' => Ob (sameG (A.scrub p) A T) (Ob (Hp.le Hk H') (linkS P N Hk T T1 Q 1 l (putd o.dst r (A.scrub p)) H')) := rfl
theorem awp_regionSK {A : Fr} (ks : Nat) (fs cs T f1 T1 : List Nat) (k : Nat) (Hk : Hp) {id : Nat} {l : List Oper} {Q : Exit → Fr → Hp → Prop} (hm : P.follows .mixedOrders = true) (hB : chOkS l.toArray fs cs T f1 T1 k = true) (hN : dstsOk N l = true)
    (h : opsS P N fs cs T f1 T1 k Hk (keepQ ks Q .normal) l A H) : AWP P N (.region id l.toArray true) Q A H :=
  awp_weak (awp_regionS fs cs T f1 T1 k Hk hm hB hN h) keepQ_weak
end
attribute [go_sem] opsS linkS_nil linkS_0 linkS_1 linkS_2 gx2VC
end Go.Av
end
/- The laws' dice: how they lie in memory, and what a throw answers. -/
section
namespace Go.Proofs.Ytpffmolibjimgaa
open Go.Av
set_option linter.unusedSimpArgs false
set_option linter.unusedVariables false
attribute [local irreducible] AWP CallG Ob Br BrP Go.Av.Sub endQ AOps OpV AC thenA blkA opsVC opVC withA withArgs opsQ opQ CallQ withA2 withArgs2
theorem tmod_in {x n : Int} (hx : 0 ≤ x) (hn : 0 < n) : 0 ≤ x.tmod n ∧ x.tmod n < n := ⟨Int.tmod_nonneg n hx, Int.tmod_lt_of_pos x hn⟩
theorem c3 {f g : Nat → AV} (h0 : f 0 = g 0) (h1 : f 1 = g 1) (h2 : f 2 = g 2) : ∀ i, i < 3 → f i = g i := fun i hi => by
  match i, hi with
  | 0, _ => exact h0
  | 1, _ => exact h1
  | 2, _ => exact h2
end Go.Proofs.Ytpffmolibjimgaa
end
section
namespace Go.Proofs.Ytpffmolibjimgaa
open Go.Av
set_option linter.unusedSimpArgs false
set_option linter.unusedVariables false
attribute [local irreducible] AWP CallG Ob Br BrP Go.Av.Sub endQ AOps OpV AC thenA blkA opsVC opVC withA withArgs opsQ opQ CallQ withA2 withArgs2

/- PatternOf -/
def pick (s l : List Int) : List Int := l.map fun x => s.getD x.toNat 0
theorem pick_length (s l : List Int) : (pick s l).length = l.length := by simp [pick]
theorem pick_step (s l : List Int) (k : Nat) (h : k < l.length) : pick s (l.take k) ++ [s.getD (l.getD k 0).toNat 0] = pick s (l.take (k + 1)) := by
  have e : l.getD k 0 = l[k] := by simp [h]
  rw [e, List.take_succ_eq_append_getElem h]
  unfold pick
  rw [List.map_append]
  rfl
theorem pick_set (s l : List Int) (k : Nat) (h : k < l.length) : (pick s (l.take k) ++ List.replicate (l.length - k) 0).set k (s.getD (l.getD k 0).toNat 0) = pick s (l.take (k + 1)) ++ List.replicate (l.length - (k + 1)) 0 := by
  rw [← pick_step s l k h, List.set_append_right _ _ (by simp [pick]; omega)]
  simp only [pick_length, List.length_take, Nat.min_eq_left (Nat.le_of_lt h), Nat.sub_self, List.append_assoc]
  rw [show l.length - k = (l.length - (k + 1)) + 1 by omega, List.replicate_succ, List.set_cons_zero]
  rfl

end Go.Proofs.Ytpffmolibjimgaa
end
section
namespace Go.Proofs.Ytpffmolibjimgaa
open Go.Av
set_option linter.unusedSimpArgs false
set_option linter.unusedVariables false
attribute [local irreducible] AWP CallG Ob Br BrP Go.Av.Sub endQ AOps OpV AC thenA blkA opsVC opVC withA withArgs opsQ opQ CallQ withA2 withArgs2

end Go.Proofs.Ytpffmolibjimgaa
end

import Derived.Test.YtpffmolibjimgaaGreatDoorS17
/- Regions in sequence of which the first operations only read, and lay literals that nobody writes. -/
section
namespace Go.Av
section
variable {P : Program} {N : Cx} {A A' : Fr} {H H' : Hp}
end
end Go.Av
end
/- The bytes of a text as a row of our own, in regions in sequence. -/
section
namespace Go.Av
section
variable {P : Program} {N : Cx} {A A' : Fr} {H H' : Hp}
/-- The cells of a text's bytes. -/
def byF (s : ByteArray) : Nat → AV := fun i => .v (.int .u8 (s.data.toList.getD i 0).toNat)
theorem byF_byte (s : ByteArray) (i : Nat) : isByte (byF s i) := ⟨_, rfl⟩
def cbVC (pn : Nat → Bool) (d : Nat) (ct : CvT) (a : AV) (A : Fr) (H : Hp) (K : AV → Fr → Hp → Prop) : Prop :=
  match ct, a with
  | .bytes _, .v (.string s) => Ob (pn d = false) (Ob (s.size ≤ 140737488355328) (K (.own d 0 1 s.size) (A.scrub (· == d)) ((H.upd d (.cells s.size (byF s))).scrub (· == d))))
  | _, _ => False
theorem cb_sound {o : Oper} {s d : TypeId} {x : Operand} {K : AV → Fr → Hp → Prop} (ho : o.op = .convert s d x) (h : withA (A.ev x) fun a => cbVC N.pn (o.dst.getD 0) (cvT P s d) a A H K) : OpV P N o A H K := by
  obtain ⟨rx, hx, h⟩ := withA_ok h
  refine opv_mem fun w0 S hS w a L sm => ?_
  have hu := sm.ev hx
  unfold cbVC at h
  split at h
  · rename_i _ _ e st hct
    obtain ⟨hpn, hsz, hK⟩ := h
    have hty : P.underlying s = some .string ∧ P.underlying d = some (.slice e) ∧ P.underlying e = some (.int .u8) := by
      unfold cvT at hct
      split at hct
      · simp at hct
      · simp at hct
      · rename_i e' hs hd
        split at hct
        · rename_i he
          simp only [CvT.bytes.injEq] at hct
          subst hct
          exact ⟨hs, hd, he⟩
        · simp at hct
      · split at hct <;> simp at hct
      · simp at hct
    obtain ⟨hs, hd, he⟩ := hty
    have hrun := run_bytes_of_string (P := P) w s d e st hs hd he
    have hge := grownCap_ge w st.size 0 e
    have hsz2 : (bytesRow st (grownCap w st.size 0 e)).size = grownCap w st.size 0 e := by
      have : st.data.size = st.size := rfl
      simp [bytesRow]; omega
    have hnew := heap_alloc_new w.drew (.cells (bytesRow st (grownCap w st.size 0 e)) e ((bytesRow st (grownCap w st.size 0 e)).size, (bytesRow st (grownCap w st.size 0 e)).size + 1))
    have hrow : RowAt (w.drew.alloc (.cells (bytesRow st (grownCap w st.size 0 e)) e ((bytesRow st (grownCap w st.size 0 e)).size, (bytesRow st (grownCap w st.size 0 e)).size + 1))) w.heap.size (bytesRow st (grownCap w st.size 0 e)) e := ⟨_, hnew, .inr (Nat.le_refl _)⟩
    have hsim := sm.drew.put_blk hS.new (o.dst.getD 0) w.drew.heap.size 0 (.cells st.size (byF st)) (keep_alloc (w := w.drew) _ _ rfl) (fun k hk hne => (keep_alloc (w := w.drew) _ _ rfl).blk k hk hne) (.inl rfl) (p := (· == o.dst.getD 0))
      ⟨_, e, hrow, by rw [hsz2]; omega, fun i hi => ⟨.int .u8 (st.data.toList.getD i 0).toNat, by simp [bytesRow, Array.getElem?_append, hi], rfl⟩⟩
      (by intro h hp hd; simp [hd] at hp) (.inl (hS.free _ hpn))
    refine ⟨.slice (some ⟨w.heap.size, 0, none⟩) st.size (grownCap w st.size 0 e), _, _, _, _, _, by have e1 : a.eval x = .string st := hu; simp [execOp, ho, e1, hrun], hsim, ?_, hK⟩
    simp only [Rd, if_true]
    exact ⟨⟨w.heap.size, 0, none⟩, grownCap w st.size 0 e, rfl, hge, grownCap_le_maxLen w st.size 0 e (by simp only [maxLen]; omega), rfl, rfl, fun _ => rfl, _, e, hrow, by rw [hsz2]; omega⟩
  · exact h.elim
def opsB (P : Program) (N : Cx) (ds : List (Option Tmp)) (Q : Fr → Hp → Prop) : Nat → List Oper → Fr → Hp → Prop
  | 0, o :: l, A, H => (match o.op with
    | .convert s t x => withA (A.ev x) fun a => cbVC N.pn (o.dst.getD 0) (cvT P s t) a A H fun r A H => opsVC P N ds Q l (putd o.dst r A) H
    | _ => False)
  | m + 1, o :: l, A, H => opVC P N (o.dst.getD 0) o.op A H fun r A H => opsB P N ds Q m l (putd o.dst r A) H
  | _, [], _, _ => False
theorem opsB_0 (ds : List (Option Tmp)) (Q : Fr → Hp → Prop) (o : Oper) (l : List Oper) (A : Fr) (H : Hp) : opsB P N ds Q 0 (o :: l) A H = (match o.op with
    | .convert s t x => withA (A.ev x) fun a => cbVC N.pn (o.dst.getD 0) (cvT P s t) a A H fun r A H => opsVC P N ds Q l (putd o.dst r A) H
    | _ => False) := rfl
theorem opsB_succ (ds : List (Option Tmp)) (Q : Fr → Hp → Prop) (m : Nat) (o : Oper) (l : List Oper) (A : Fr) (H : Hp) : opsB P N ds Q (m + 1) (o :: l) A H = opVC P N (o.dst.getD 0) o.op A H fun r A H => opsB P N ds Q m l (putd o.dst r A) H := rfl
theorem opsB_sound {ops : Array Oper} {Q : Fr → Hp → Prop} (hds : ∀ j t, (ops.toList.map (·.dst)).getD j none = some t → t < N.n) : ∀ (m : Nat) (l : List Oper) (A : Fr) (H : Hp), (∀ o ∈ l.take (m + 1), o.guard = none) → (∀ o ∈ l, ∀ t, o.dst = some t → t < N.n) →
    opsB P N (ops.toList.map (·.dst)) Q m l A H → AOps P N ops l Q A H
  | 0, [], A, H, _, _, h => h.elim
  | m + 1, [], A, H, _, _, h => h.elim
  | 0, o :: l, A, H, hG, hN, h => by
    rw [opsB_0] at h
    refine aops_cons (hG o (by simp)) (hN o List.mem_cons_self) ?_
    split at h
    · rename_i s t x ho
      refine (cb_sound (K := fun r A H => opsVC P N (ops.toList.map (·.dst)) Q l (putd o.dst r A) H) ho h).mono fun r A' H' hk => ?_
      exact opsVC_sound l _ _ (fun p hp => hN p (List.mem_cons_of_mem _ hp)) hds hk
    · exact h.elim
  | m + 1, o :: l, A, H, hG, hN, h => by
    rw [opsB_succ] at h
    refine aops_cons (hG o (by simp)) (hN o List.mem_cons_self) ?_
    refine (opVC_sound (K := fun r A H => opsB P N (ops.toList.map (·.dst)) Q m l (putd o.dst r A) H) h).mono fun r A' H' hk => ?_
    exact opsB_sound hds m l _ _ (fun p hp => hG p (by rw [List.take_succ_cons]; exact List.mem_cons_of_mem _ hp)) (fun p hp => hN p (List.mem_cons_of_mem _ hp)) hk
theorem awp_regionBK {A : Fr} {H : Hp} (ks m : Nat) {id : Nat} {l : List Oper} {Q : Exit → Fr → Hp → Prop} (hG : ((l.take (m + 1)).all fun o => o.guard.isNone) = true) (hN : dstsOk N l = true)
    (h : opsB P N (l.map (·.dst)) (keepQ ks Q .normal) m l A H) : AWP P N (.region id l.toArray false) Q A H := by
  have hm := dstsOk_mem hN
  refine awp_weak (awp_region (opsB_sound (fun j t ht => ?_) m l A H (fun o ho => ?_) hm (by simpa using h))) keepQ_weak
  · simp only [List.getD_eq_getElem?_getD, List.getElem?_map] at ht
    cases ho : l[j]? with
    | none => simp [ho] at ht
    | some x => exact hm x (List.mem_of_getElem? ho) t (by simpa [ho] using ht)
  · have := List.all_eq_true.1 hG o ho
    simpa using this
end
end Go.Av
end
/- Regions of open order: operations that turn memory in the orders of a tree, and operations that may come at any time. -/
section
namespace Go.Av
set_option linter.unusedVariables false
set_option linter.unusedSimpArgs false
section
variable {P : Program} {N : Cx} {H : Hp}
/-- The orders in which operations may come: a first one with what may follow it, or another first one. -/
inductive Tr where
  | nil
  | cons (c : Nat) (t r : Tr)
/-- Two things at once. -/
structure Bth (a b : Prop) : Prop where
  fst : a
  snd : b
variable (P N) in
def trVC (T : List (Option Tmp)) (Q : Fr → Hp → Prop) (l : List Oper) : Tr → Bool → Fr → Hp → Prop
  | .nil, b, A, H => (match b with
    | true => True
    | false => Q A H)
  | .cons c t r, _, A, H => Bth (match l[c]? with
    | some o => gx2VC P N (o.dst.getD 0) o.op A H fun x p H' => Ob (sameG (A.scrub p) A T) (trVC T Q l t false (putd o.dst x (A.scrub p)) H')
    | none => False) (trVC T Q l r true A H)
theorem trVC_end (T : List (Option Tmp)) (Q : Fr → Hp → Prop) (l : List Oper) (A : Fr) (H : Hp) : trVC P N T Q l .nil true A H = True := rfl
theorem trVC_nil (T : List (Option Tmp)) (Q : Fr → Hp → Prop) (l : List Oper) (A : Fr) (H : Hp) : trVC P N T Q l .nil false A H = Q A H := rfl
theorem trVC_cons (T : List (Option Tmp)) (Q : Fr → Hp → Prop) (l : List Oper) (c : Nat) (t r : Tr) (b : Bool) (A : Fr) (H : Hp) : trVC P N T Q l (.cons c t r) b A H = Bth (match l[c]? with
    | some o => gx2VC P N (o.dst.getD 0) o.op A H fun x p H' => Ob (sameG (A.scrub p) A T) (trVC P N T Q l t false (putd o.dst x (A.scrub p)) H')
    | none => False) (trVC P N T Q l r true A H) := rfl
/-- Every operation that can be next is one of the tree's next. -/
def trOk (ops : Array Oper) (cs : List Nat) : Tr → List Nat → List Nat → Bool
  | .nil, done, hs => cs.all fun e => done.contains e || hs.contains e || cs.any fun d => !done.contains d && preB ops ops.size e d
  | .cons c t r, done, hs => cs.contains c && !done.contains c && trOk ops cs t (c :: done) [] && trOk ops cs r done (c :: hs)
theorem trOk_cons {ops : Array Oper} {cs : List Nat} {c : Nat} {t r : Tr} {done hs : List Nat} (h : trOk ops cs (.cons c t r) done hs = true) : c ∈ cs ∧ c ∉ done ∧ trOk ops cs t (c :: done) [] = true ∧ trOk ops cs r done (c :: hs) = true := by
  simp only [trOk, Bool.and_eq_true, Bool.not_eq_true', List.contains_iff_mem] at h
  refine ⟨h.1.1.1, fun hc => ?_, h.1.2, h.2⟩
  have := h.1.1.2
  rw [(show done.contains c = true from List.contains_iff_mem.2 hc)] at this
  cases this
variable (P N) in
def opsT2 (fs : List Nat) (tr : Tr) (T : List Nat) (Q : Fr → Hp → Prop) (l : List Oper) (A : Fr) (H : Hp) : Prop :=
  opsQ P N (l.map (·.dst)) (fun A1 => Ob (AllH fun H' => opsQ P N (l.map (·.dst)) (fun A2 => sameG A2 A1 (T.map some)) (pickL fs l) A H') (trVC P N (T.map some) Q l tr false A1 H)) (pickL fs l) A H
theorem br_pick {ops : Array Oper} {cs : List Nat} {Tq : List (Option Tmp)} {QF : Fr → Hp → Prop} {done : List Nat} {i : Nat} {oi : Oper} {A : Fr} {Hc : Hp} (hoi : ops[i]? = some oi) (hic : i ∈ cs) (hid : i ∉ done) (hno : ∀ d ∈ cs, d ∉ done → ¬ preB ops ops.size i d = true) :
    ∀ (tr : Tr) (hs : List Nat), i ∉ hs → trOk ops cs tr done hs = true → trVC P N Tq QF ops.toList tr true A Hc → ∃ t', trOk ops cs t' (i :: done) [] = true ∧ gx2VC P N (oi.dst.getD 0) oi.op A Hc fun x p H' => Ob (sameG (A.scrub p) A Tq) (trVC P N Tq QF ops.toList t' false (putd oi.dst x (A.scrub p)) H')
  | .nil, hs, hih, h, _ => by
    simp only [trOk, List.all_eq_true, Bool.or_eq_true, List.contains_iff_mem, List.any_eq_true, Bool.and_eq_true, Bool.not_eq_true'] at h
    rcases h i hic with (h | h) | ⟨d, hd, h1, h2⟩
    · exact absurd h hid
    · exact absurd h hih
    · refine absurd h2 (hno d hd fun hm => ?_)
      rw [(show done.contains d = true from List.contains_iff_mem.2 hm)] at h1
      cases h1
  | .cons c t r, hs, hih, h, hv => by
    obtain ⟨h1, h2, h3, h4⟩ := trOk_cons h
    rw [trVC_cons] at hv
    by_cases hc : c = i
    · subst hc
      have hv := hv.fst
      rw [Array.getElem?_toList, hoi] at hv
      exact ⟨t, h3, hv⟩
    · refine br_pick hoi hic hid hno r (c :: hs) (fun hm => ?_) h4 hv.snd
      rcases List.mem_cons.1 hm with e | e
      · exact hc e.symm
      · exact hih e
theorem tr_pick {ops : Array Oper} {cs : List Nat} {Tq : List (Option Tmp)} {QF : Fr → Hp → Prop} {listed : Array Bool} {done : List Nat} {i : Nat} {oi : Oper} {A : Fr} {Hc : Hp} {tr : Tr}
    (hcl : ∀ (k : Nat) (o : Oper) (e : Edge), listed.getD k false = true → ops[k]? = some o → e ∈ o.after → Region.binds .any e = true → listed.getD e.on false = true) (hoi : ops[i]? = some oi) (hall : ∀ e ∈ oi.after, Region.binds .any e = true → listed.getD e.on false = true)
    (htr : trOk ops cs tr done [] = true) (hrest : ∀ c ∈ cs, c ∉ done → ¬ listed.getD c false = true) (hic : i ∈ cs) (hid : i ∉ done) (hv : trVC P N Tq QF ops.toList tr false A Hc) :
    ∃ t', trOk ops cs t' (i :: done) [] = true ∧ gx2VC P N (oi.dst.getD 0) oi.op A Hc fun x p H' => Ob (sameG (A.scrub p) A Tq) (trVC P N Tq QF ops.toList t' false (putd oi.dst x (A.scrub p)) H') := by
  have hno : ∀ d ∈ cs, d ∉ done → ¬ preB ops ops.size i d = true := fun d hd hdd hp => hrest d hd hdd (pre_ready hcl hoi hall hp)
  cases tr with
  | nil => exact br_pick hoi hic hid hno .nil [] (by simp) htr trivial
  | cons c t r => exact br_pick hoi hic hid hno (.cons c t r) [] (by simp) htr hv
theorem linkT_sound {ds : List Deferred} {ops : Array Oper} {fs cs T : List Nat} {Q' : Exit → Act → World → Prop} {QF : Fr → Hp → Prop} {A0 A1 : Fr} {rs : List AV} {w0 : World} {S : Rg} (hS : Good N w0 S) (hok : ChOk0 ops fs cs T)
    (hN : ∀ (j t : Nat) (o : Oper), ops[j]? = some o → o.dst = some t → t < N.n)
    (hl : rs.length = (pickL fs ops.toList).length)
    (hA1 : ∀ t, A1.get t = valL (pickL fs ops.toList) rs A0.get (pickL fs ops.toList).length t)
    (hstep : ∀ H' j o, (pickL fs ops.toList)[j]? = some o → ∃ Aj : Fr, (∀ t, Aj.get t = valL (pickL fs ops.toList) rs A0.get j t) ∧ OpOK P N o Aj H' (rs.getD j .dead))
    (hQ : ∀ (A : Fr) (H : Hp) (a : Act) (w : World) (L : Loc), Sim N.n w0 S w a.tmps L A H → a.defers = ds → QF A H → Q' .normal a w) :
    ∀ (fuel : Nat) (listed : Array Bool) (s : List Nat) (a : Act) (w : World) (A Ac : Fr) (L : Loc) (Hc : Hp) (done : List Nat) (tr : Tr), listed.size = ops.size → s.Nodup → (∀ k, k ∈ s ↔ listed.getD k false = true) → s.length + fuel = ops.size →
      (∀ (k : Nat) (o : Oper) (e : Edge), listed.getD k false = true → ops[k]? = some o → e ∈ o.after → Region.binds .any e = true → listed.getD e.on false = true) → a.defers = ds →
      Sim N.n w0 S w a.tmps L A Hc → trOk ops cs tr done [] = true → (∀ c ∈ done, c ∈ cs ∧ listed.getD c false = true) → (∀ c ∈ cs, c ∉ done → ¬ listed.getD c false = true) →
      (∀ t, (∀ f ∈ fs, ∀ o : Oper, ops[f]? = some o → ¬ listed.getD f false = true → o.dst ≠ some t) → A.get t = Ac.get t) →
      (∀ t, t ∈ T → (∀ c ∈ done, ∀ o : Oper, ops[c]? = some o → o.dst ≠ some t) → Ac.get t = A1.get t) →
      trVC P N (T.map some) QF ops.toList tr false Ac Hc →
      wpAny P .any ops Q' fuel listed a w := by
  obtain ⟨hinj, hback, hdep⟩ := anyOk_ok hok.any
  have tl : ∀ j : Nat, ops.toList[j]? = ops[j]? := fun j => Array.getElem?_toList
  have flt : ∀ f ∈ fs, f < ops.toList.length := fun f hf => by simpa using hok.flt f hf
  have len : (pickL fs ops.toList).length = fs.length := pickL_len fs flt
  have pk : ∀ j, (pickL fs ops.toList)[j]? = (fs[j]?).bind fun k : Nat => ops[k]? := fun j => by
    rw [pickL_get fs flt j]
    cases fs[j]? with
    | none => rfl
    | some k => exact tl k
  have pko : ∀ j o, (pickL fs ops.toList)[j]? = some o → ∃ f, fs[j]? = some f ∧ f ∈ fs ∧ ops[f]? = some o := fun j o h => by
    rw [pk j] at h
    cases hf : fs[j]? with
    | none => rw [hf] at h; cases h
    | some f => rw [hf] at h; exact ⟨f, hf, List.mem_of_getElem? hf, h⟩
  have inc : ∀ i j f g : Nat, fs[i]? = some f → fs[j]? = some g → f < g → i < j := fun i j f g hf hg hfg => by
    have hj := (List.getElem?_eq_some_iff.1 hg).1
    have hi := (List.getElem?_eq_some_iff.1 hf).1
    refine Nat.lt_of_not_le fun h => ?_
    rcases Nat.lt_or_eq_of_le h with h | h
    · have := incB_ok hok.finc j i h hi
      rw [List.getD_eq_getElem?_getD, List.getD_eq_getElem?_getD, hf, hg] at this
      simp only [Option.getD_some] at this; omega
    · subst h; rw [hf] at hg; simp only [Option.some.injEq] at hg; omega
  have posu : ∀ i j f : Nat, fs[i]? = some f → fs[j]? = some f → i = j := fun i j f hf hg => by
    have hj := (List.getElem?_eq_some_iff.1 hg).1
    have hi := (List.getElem?_eq_some_iff.1 hf).1
    rcases Nat.lt_trichotomy i j with h | h | h
    · have := incB_ok hok.finc i j h hj
      rw [List.getD_eq_getElem?_getD, List.getD_eq_getElem?_getD, hf, hg] at this
      simp only [Option.getD_some] at this; omega
    · exact h
    · have := incB_ok hok.finc j i h hi
      rw [List.getD_eq_getElem?_getD, List.getD_eq_getElem?_getD, hf, hg] at this
      simp only [Option.getD_some] at this; omega
  have uniq : ∀ (k t : Nat) (o : Oper) (k' : Nat) (o' : Oper), ops[k]? = some o → o.dst = some t → ops[k']? = some o' → o'.dst = some t → k' = k := fun k t o k' o' ho hdt ho' hd' => hinj k' k t o' o ho' ho hd' hdt
  -- what the walk's frames say
  have hit : ∀ i j f t o, fs[i]? = some f → i < j → ops[f]? = some o → o.dst = some t → valL (pickL fs ops.toList) rs A0.get j t = some (rs.getD i .dead) := fun i j f t o hf hij ho hd =>
    valL_hit _ rs _ j t i o hl hij (by rw [pk, hf]; exact ho) hd fun k' o' ho' hd' => by
      obtain ⟨f', h1, h2, h3⟩ := pko k' o' ho'
      have := uniq f t o f' o' ho hd h3 hd'
      subst this; exact posu _ _ _ h1 hf
  have miss : ∀ j t, (∀ f ∈ fs, ∀ o : Oper, ops[f]? = some o → o.dst ≠ some t) → valL (pickL fs ops.toList) rs A0.get j t = A0.get t := fun j t h =>
    valL_miss _ rs _ j t fun k o hk ho => by
      obtain ⟨f, h1, h2, h3⟩ := pko k o ho
      exact h f h2 o h3
  intro fuel
  induction fuel with
  | zero =>
    intro listed s a w A Ac L Hc done tr hsz hn hs hc hcl hd sim htr hdone hrest hA hI hv
    have hlt : ∀ k ∈ s, k < ops.size := fun k hk => by
      have := (hs k).1 hk
      rcases Nat.lt_or_ge k listed.size with h | h
      · omega
      · simp [Array.getD, show ¬ k < listed.size by omega] at this
    have hall : ∀ k, k < ops.size → listed.getD k false = true := fun k hk => (hs k).1 ((Go.Plain.nodup_iff_all (by omega) hlt).1 hn k hk)
    have hr : tr = .nil := by
      cases tr with
      | nil => rfl
      | cons c t r =>
        obtain ⟨h1, h2, _, _⟩ := trOk_cons htr
        exact absurd (hall c (hok.clt c h1).1) (hrest c h1 h2)
    subst hr
    refine ⟨?_, ?_⟩
    · refine List.eq_nil_iff_forall_not_mem.2 fun j hj => ?_
      obtain ⟨h1, o, ho, _⟩ := mem_ready.1 hj
      have hj' : j < ops.size := (Array.getElem?_eq_some_iff.1 ho).1
      have := hall j hj'
      simp [Array.getD, hsz, hj'] at h1 this
      rw [h1] at this; cases this
    · refine hQ Ac Hc a w L (sim.sub fun t x hx => ?_) hd hv
      rw [hA t fun f hf o ho hu => absurd (hall f (hok.flt f hf)) hu]; exact hx
  | succ fuel ih =>
    intro listed s a w A Ac L Hc done tr hsz hn hs hc hcl hd sim htr hdone hrest hA hI hv
    have ld : ∀ k, k < ops.size → (listed.getD k true = false ↔ ¬ listed.getD k false = true) := by
      intro k hk
      simp [Array.getD, hsz, hk]
    have hex : ∃ k, k < ops.size ∧ ¬ listed.getD k false = true := by
      refine Classical.byContradiction fun hno => ?_
      have : ∀ x ∈ List.range ops.size, x ∈ s := fun x hx => (hs x).2 (Classical.byContradiction fun h => hno ⟨x, by simpa using hx, h⟩)
      have := Go.Plain.nodup_le s (List.range ops.size) List.nodup_range this
      simp at this; omega
    refine ⟨fun h => absurd h (ready_ne hsz hback hex), fun i hi => ?_⟩
    obtain ⟨hun0, oi, hoi, hall⟩ := mem_ready.1 hi
    have hi' : i < ops.size := (Array.getElem?_eq_some_iff.1 hoi).1
    have hun := (ld i hi').1 hun0
    have g1 : ∀ k, (listed.setIfInBounds i true).getD k false = true ↔ (k = i ∨ listed.getD k false = true) := by
      intro k
      by_cases hk : k = i
      · subst hk; simp [Array.getD, hsz, hi']
      · rw [getD_set_ne false (Ne.symm hk)]; simp [hk]
    have nd1 : (i :: s).Nodup := List.nodup_cons.2 ⟨fun h => hun ((hs i).1 h), hn⟩
    have hs1 : ∀ k, k ∈ i :: s ↔ (listed.setIfInBounds i true).getD k false = true := fun k => by rw [g1, List.mem_cons, hs]
    have hcl1 : ∀ (k : Nat) (o : Oper) (e : Edge), (listed.setIfInBounds i true).getD k false = true → ops[k]? = some o → e ∈ o.after → Region.binds .any e = true → (listed.setIfInBounds i true).getD e.on false = true := by
      intro k o e hk ho he hb
      rw [g1] at hk ⊢
      rcases hk with rfl | hk
      · rw [hoi] at ho; simp only [Option.some.injEq] at ho; subst ho
        exact .inr (hall e he hb)
      · exact .inr (hcl k o e hk ho he hb)
    have hNi := fun t h => hN i t oi hoi h
    unfold wpOp
    simp only [hoi]
    rw [if_pos (by simp [Region.wanted, hok.guard i oi hoi])]
    left
    have looks : ∀ (B : Fr), (∀ t, t ∈ oi.looksAt ops → A.get t = B.get t) → ∀ x ∈ oi.op.operands, A.ev x = B.ev x := by
      intro B hB x hx
      cases x with
      | tmp t => exact hB t (List.mem_append_left _ (List.mem_filterMap.2 ⟨.tmp t, by simpa using hx, rfl⟩))
      | const v => rfl
      | global g => rfl
      | func f => rfl
    rcases hok.all i hi' with hif | hic
    · -- one that may come at any time
      obtain ⟨j, hj⟩ := List.getElem?_of_mem hif
      obtain ⟨Aj, hAj, hop⟩ := hstep Hc j oi (by rw [pk, hj]; exact hoi)
      obtain ⟨di, hdi, hdT⟩ := hok.fd i hif oi hoi
      have nochain : ∀ c ∈ done, ∀ o : Oper, ops[c]? = some o → o.dst ≠ some di := fun c hc o ho hdt => by
        have := uniq i di oi c o hoi hdi ho hdt
        subst this
        exact (hok.clt c (hdone c hc).1).2 hif
      refine hop A (looks Aj fun t ht => ?_) w0 S hS w a L sim _ Q' ?_
      · have htT := hok.ft i hif oi hoi t ht
        rw [hAj]
        by_cases hx : ∃ (k : Nat) (o : Oper), ops[k]? = some o ∧ o.dst = some t
        · obtain ⟨k, o, ho, hdt⟩ := hx
          have hk' := (Array.getElem?_eq_some_iff.1 ho).1
          rcases hok.all k hk' with hkf | hkc
          · obtain ⟨hne, hno⟩ := hok.fr k hkf o ho t hdt i oi hoi ht
            rcases hdep k i t o oi (fun e => hne e.symm) ho hoi hdt ht with ⟨e, he, hb, rfl⟩ | ⟨e, he, hb, he2⟩
            · have hlk := hall e he hb
              have hlt := hback i oi e hoi he hb
              obtain ⟨j', hj'⟩ := List.getElem?_of_mem hkf
              have hjj := inc j' j e.on i hj' hj hlt
              have hjl : j' < (pickL fs ops.toList).length := by rw [len]; exact (List.getElem?_eq_some_iff.1 hj').1
              rw [hit j' j e.on t o hj' hjj ho hdt, hA t fun f hf o' ho' hu hd' => by
                have := uniq e.on t o f o' ho hdt ho' hd'; subst this; exact hu hlk]
              rw [hI t htT fun c hc o' ho' hd' => by
                have := uniq e.on t o c o' ho hdt ho' hd'; subst this
                exact (hok.clt e.on (hdone _ hc).1).2 hkf]
              rw [hA1, hit j' _ e.on t o hj' hjl ho hdt]
            · exact absurd he2 (hno e he hb)
          · have hnf : ∀ f ∈ fs, ∀ o' : Oper, ops[f]? = some o' → o'.dst ≠ some t := fun f hf o' ho' hd' => by
              have := uniq k t o f o' ho hdt ho' hd'; subst this; exact (hok.clt f hkc).2 hf
            have hki : k ≠ i := fun e => by subst e; exact (hok.clt k hkc).2 hif
            rcases hdep k i t o oi hki ho hoi hdt ht with ⟨e, he, hb, rfl⟩ | ⟨e, he, hb, rfl⟩
            · exact absurd hkc (hok.fc i hif oi hoi e he hb)
            · have hkd : k ∉ done := fun hk => hun (hcl k o e (hdone k hk).2 ho he hb)
              rw [miss j t hnf, hA t fun f hf o' ho' _ => hnf f hf o' ho', hI t htT fun c hc o' ho' hd' => by
                have := uniq k t o c o' ho hdt ho' hd'; subst this; exact hkd hc]
              rw [hA1, miss _ t hnf]
        · have hno : ∀ (k : Nat) (o : Oper), ops[k]? = some o → o.dst ≠ some t := fun k o ho e => hx ⟨k, o, ho, e⟩
          rw [miss j t fun f _ o ho => hno f o ho, hA t fun f _ o ho _ => hno f o ho, hI t htT fun c _ o ho => hno c o ho, hA1, miss _ t fun f _ o ho => hno f o ho]
      · rintro u rr L' A' H4 w' s' hr ⟨rfl, rfl, rfl⟩
        refine ih (listed.setIfInBounds i true) (i :: s) _ w' (putd oi.dst (rs.getD j .dead) A') Ac L' H4 done tr (by simp [hsz]) nd1 hs1 (by simp only [List.length_cons]; omega) hcl1 (by rw [put_defers]; exact hd) (s'.putd hNi hr) htr (fun c hc => ⟨(hdone c hc).1, (g1 c).2 (.inr (hdone c hc).2)⟩) (fun c hc hcd h => ?_) (fun t ht => ?_) hI hv
        · rcases (g1 c).1 h with rfl | h
          · exact (hok.clt c hc).2 hif
          · exact hrest c hc hcd h
        · rw [putd_get]
          by_cases e : oi.dst = some t
          · rw [if_pos e]
            rw [hdi] at e; simp only [Option.some.injEq] at e; subst e
            rw [hI di hdT nochain, hA1, hit j _ i di oi hj (by rw [len]; exact (List.getElem?_eq_some_iff.1 hj).1) hoi hdi]
          · rw [if_neg e]
            refine hA t fun f hf o ho hu => ?_
            by_cases hfi : f = i
            · subst hfi; rw [hoi] at ho; simp only [Option.some.injEq] at ho; subst ho; exact e
            · exact ht f hf o ho fun h => ((g1 f).1 h).elim hfi hu
    · -- one of the tree's next
      have hid : i ∉ done := fun h => hun (hdone i h).2
      obtain ⟨t', hok', hv⟩ := tr_pick hcl hoi hall htr hrest hic hid hv
      obtain ⟨p, hp⟩ := gx2VC_ok hv
      refine hp A (looks Ac fun t ht => hA t fun f hf o ho hu hdt => ?_) w0 S hS w a L sim _ Q' ?_
      · obtain ⟨hne, hno⟩ := hok.fr f hf o ho t hdt i oi hoi ht
        rcases hdep f i t o oi (fun e => hne e.symm) ho hoi hdt ht with ⟨e, he, hb, rfl⟩ | ⟨e, he, hb, he2⟩
        · exact hu (hall e he hb)
        · exact hno e he hb he2
      · rintro u rr L' A' H4 w' s' hr ⟨rfl, hsame, hv'⟩
        refine ih (listed.setIfInBounds i true) (i :: s) _ w' (putd oi.dst rr (A.scrub p)) (putd oi.dst rr (Ac.scrub p)) L' H4 (i :: done) t' (by simp [hsz]) nd1 hs1 (by simp only [List.length_cons]; omega) hcl1 (by rw [put_defers]; exact hd) (s'.putd hNi hr) hok' (fun x hx => ?_) (fun x hx hxd h => ?_) (fun t ht => ?_) (fun t htT ht => ?_) hv'
        · rcases List.mem_cons.1 hx with h | h
          · subst h; exact ⟨hic, (g1 _).2 (.inl rfl)⟩
          · exact ⟨(hdone x h).1, (g1 x).2 (.inr (hdone x h).2)⟩
        · rcases (g1 x).1 h with rfl | h
          · exact hxd (List.mem_cons_self ..)
          · exact hrest x hx (fun h2 => hxd (List.mem_cons_of_mem _ h2)) h
        · rw [putd_get, putd_get]
          by_cases e : oi.dst = some t
          · rw [if_pos e, if_pos e]
          · rw [if_neg e, if_neg e, Fr.get_scrub, Fr.get_scrub, hA t fun f hf o ho hu => ht f hf o ho fun h => ((g1 f).1 h).elim (fun e => by subst e; exact (hok.clt f hic).2 hf) hu]
        · rw [putd_get, if_neg (ht i (List.mem_cons_self ..) oi hoi)]
          have := sameG_ok _ hsame t (List.mem_map.2 ⟨t, htT, rfl⟩)
          rw [this]
          exact hI t htT fun x hx o ho => ht x (List.mem_cons_of_mem _ hx) o ho
theorem awp_regionT2 {A : Fr} (fs cs T : List Nat) (tr : Tr) {id : Nat} {l : List Oper} {Q : Exit → Fr → Hp → Prop} (hm : P.follows .mixedOrders = true) (hB : (chOk0 l.toArray fs cs T && trOk l.toArray cs tr [] []) = true) (hN : dstsOk N l = true)
    (h : opsT2 P N fs tr T (Q .normal) l A H) : AWP P N (.region id l.toArray true) Q A H := by
  have hmem := dstsOk_mem hN
  simp only [Bool.and_eq_true] at hB
  obtain ⟨hB, hB2⟩ := hB
  have hok := chOk0_ok hB
  obtain ⟨hinj, _, _⟩ := anyOk_ok hok.any
  have flt : ∀ f ∈ fs, f < l.length := fun f hf => by simpa using hok.flt f hf
  have pko : ∀ j o, (pickL fs l)[j]? = some o → ∃ f, fs[j]? = some f ∧ f ∈ fs ∧ l[f]? = some o := fun j o h => by
    rw [pickL_get fs flt j] at h
    cases hf : fs[j]? with
    | none => rw [hf] at h; cases h
    | some f => rw [hf] at h; exact ⟨f, hf, List.mem_of_getElem? hf, h⟩
  unfold opsT2 at h
  obtain ⟨rs, hlex⟩ := lex_of_opsQ _ A h
  obtain ⟨k1, k2, A1, k3, k4, k5⟩ := LexL_get (pickL fs l) A rs A.get (fun _ => rfl) hlex
  have uni : ∀ (j k : Nat) (o o' : Oper) (t : Nat), (pickL fs l)[j]? = some o → o.dst = some t → (pickL fs l)[k]? = some o' → o'.dst = some t → k = j := fun j k o o' t hj hdt hk hd' => by
    obtain ⟨f, h1, h2, h3⟩ := pko j o hj
    obtain ⟨g, h4, h5, h6⟩ := pko k o' hk
    have := hinj g f t o' o (by simpa using h6) (by simpa using h3) hd' hdt
    subst this
    have hj := (List.getElem?_eq_some_iff.1 h1).1
    have hk := (List.getElem?_eq_some_iff.1 h4).1
    rcases Nat.lt_trichotomy k j with h | h | h
    · have := incB_ok hok.finc k j h hj
      rw [List.getD_eq_getElem?_getD, List.getD_eq_getElem?_getD, h1, h4] at this
      simp only [Option.getD_some] at this; omega
    · exact h
    · have := incB_ok hok.finc j k h hk
      rw [List.getD_eq_getElem?_getD, List.getD_eq_getElem?_getD, h1, h4] at this
      simp only [Option.getD_some] at this; omega
  refine awp_ex fun w0 S hS w a L s ds hd => ?_
  have s1 : Sim N.n w0 S w.drew a.tmps L A H := s.drew
  refine wp_region_any hm ?_
  refine linkT_sound (ops := l.toArray) (fs := fs) (cs := cs) (T := T) (A0 := A) (A1 := A1) (rs := rs) (QF := Q .normal) hS hok (fun j t o ho hdt => hmem o (List.mem_of_getElem? (by simpa using ho)) t hdt) k1 k3 (fun H' j o ho => ?_) ?_ l.toArray.size _ [] a _ A A1 L H [] tr (by simp) List.nodup_nil (fun k => ?_) (by simp) (fun k o e hk => ?_) hd s1 hB2 (fun c hc => by cases hc) (fun c _ _ hk => ?_) (fun t ht => ?_) (fun t _ _ => rfl) k5
  · rw [List.toList_toArray] at ho
    obtain ⟨rs2, hlex2⟩ := lex_of_opsQ _ A (k4 H')
    obtain ⟨j1, j2, A2, j3, j4⟩ := LexL_get (pickL fs l) A rs2 A.get (fun _ => rfl) hlex2
    have er : rs2 = rs := by
      refine List.ext_getElem (by rw [j1, k1]) fun k h1 h2 => ?_
      have hk : k < (pickL fs l).length := by omega
      have hko : (pickL fs l)[k]? = some (pickL fs l)[k] := List.getElem?_eq_getElem hk
      obtain ⟨f, q1, q2, q3⟩ := pko k _ hko
      obtain ⟨d, hdd, hdT⟩ := hok.fd f q2 _ (by simpa using q3)
      have e := sameG_ok _ j4 d (List.mem_map.2 ⟨d, hdT, rfl⟩)
      rw [j3, k3, valL_hit _ rs2 _ _ d k _ j1 hk hko hdd (fun k' o' ho' hd' => uni k k' _ o' d hko hdd ho' hd'), valL_hit _ rs _ _ d k _ k1 hk hko hdd (fun k' o' ho' hd' => uni k k' _ o' d hko hdd ho' hd')] at e
      simpa [List.getD_eq_getElem?_getD, h1, h2] using e
    subst er
    obtain ⟨Aj, h1, h2⟩ := j2 j o ho
    refine ⟨Aj, by rw [List.toList_toArray]; exact h1, ?_⟩
    unfold StepOK at h2
    obtain ⟨f, q1, q2, q3⟩ := pko j o ho
    rw [hok.guard f o (by simpa using q3)] at h2
    exact h2
  · intro A' H3 a' w' L' s' hd' hq
    exact ⟨L', A', H3, s', hd', hq⟩
  · simp [Array.getD]
  · simp [Array.getD] at hk
  · simp [Array.getD] at hk
  · have hno : ∀ f ∈ fs, ∀ o : Oper, l[f]? = some o → o.dst ≠ some t := fun f hf o ho => ht f hf o (by simpa using ho) (by simp [Array.getD])
    rw [k3, valL_miss _ _ _ _ _ fun k o _ ho => by obtain ⟨f, q1, q2, q3⟩ := pko k o ho; exact hno f q2 o q3]
theorem awp_regionT2K {A : Fr} (ks : Nat) (fs cs T : List Nat) (tr : Tr) {id : Nat} {l : List Oper} {Q : Exit → Fr → Hp → Prop} (hm : P.follows .mixedOrders = true) (hB : (chOk0 l.toArray fs cs T && trOk l.toArray cs tr [] []) = true) (hN : dstsOk N l = true)
    (h : opsT2 P N fs tr T (keepQ ks Q .normal) l A H) : AWP P N (.region id l.toArray true) Q A H :=
  awp_weak (awp_regionT2 fs cs T tr hm hB hN h) keepQ_weak
end
end Go.Av
end

/- Regions whose order is open, with one operation that turns memory in their midst (an append, a copy): operations that need not wait for it, operations ahead of it, the rest in its order. -/
import Derived.Test.YtfgblelbhlpfjaaAv22
namespace Go.Av
section
variable {P : Program} {N : Cx} {A : Fr} {H : Hp}

variable (P N) in
/-- The operation in the midst: what it yields, which names it turns, what the heap is behind it. -/
def pivVC (d : Nat) (op : Op) (A : Fr) (H : Hp) (K : AV → (Nat → Bool) → Hp → Prop) : Prop :=
  match op with
  | .call { callee := .builtin .append, args, argTypes } =>
    withArgs (evArgs A args.toList) fun l => match l, argTypes.toList with
      | [a, b], [t, t'] => Ob (t' = t) (match selOf P t, a with
        | some se, .own h off sz n =>
          match H h, srcOf H sz b with
          | some (.cells NN f), some (m, g) =>
            Ob (N.pn h = false) (Ob (sz = se.size ∧ 0 < sz ∧ off + n * sz ≤ NN) (Ob ((n + m) * se.bytes ≤ 140737488355328 ∧ n + m ≤ 140737488355328) (Ob (∀ i, i < m * sz → (g i).one = true)
              (K (.own h 0 sz (n + m)) (· == h) ((H.upd h (.cells ((n + m) * sz) (apF (n * sz) (shF off f) g))).scrub (· == h))))))
          | _, _ => False
        | some se, .v (.slice none 0 0) =>
          match srcOf H se.size b with
          | some (m, g) =>
            Ob (N.pn d = false) (Ob (0 < se.size) (Ob (m * se.bytes ≤ 140737488355328 ∧ m ≤ 140737488355328) (Ob (∀ i, i < m * se.size → (g i).one = true)
              (K (.own d 0 se.size m) (· == d) ((H.upd d (.cells (m * se.size) g)).scrub (· == d))))))
          | _ => False
        | _, _ => False)
      | _, _ => False
  | .call { callee := .builtin .copy, args, argTypes } =>
    withArgs (evArgs A args.toList) fun l => match l, argTypes.toList with
      | [a, b], [t, _] => cpVC (selOf P t) H a b fun r H' => K r (fun _ => false) H'
      | _, _ => False
  | _ => False

def PivOK (P : Program) (N : Cx) (o : Oper) (A : Fr) (H : Hp) (r : AV) (p : Nat → Bool) (H' : Hp) : Prop :=
  ∀ A', (∀ x ∈ o.op.operands, A'.ev x = A.ev x) → OpV P N o A' H fun r' A'' H'' => r' = r ∧ A'' = A'.scrub p ∧ H'' = H'

theorem piv_ok {o : Oper} {K : AV → (Nat → Bool) → Hp → Prop} (h : pivVC P N (o.dst.getD 0) o.op A H K) : ∃ r p H', K r p H' ∧ PivOK P N o A H r p H' := by
  unfold pivVC at h
  split at h
  · rename_i args tys ho
    obtain ⟨l, hl, h⟩ := withArgs_ok h
    have hc : ∀ A' : Fr, (∀ x ∈ o.op.operands, A'.ev x = A.ev x) → evArgs A' args.toList = some l := by
      intro A' ha
      rw [evArgs_congr fun x hx => ha x (by rw [ho]; simp [Op.operands, Call.operands]; simpa using hx), hl]
    split at h
    · rename_i a b t t' hts
      obtain ⟨h0, h⟩ := h
      subst h0
      have fin : ∀ (r : AV) (p : Nat → Bool) (H' : Hp), (∀ A' : Fr, apVC N.pn (selOf P t') (o.dst.getD 0) A' H a b fun r' A'' H'' => r' = r ∧ A'' = A'.scrub p ∧ H'' = H') → PivOK P N o A H r p H' := by
        intro r p H' hap A' ha
        refine opVC_sound ?_
        rw [ho]
        simp only [opVC, hc A' ha, withArgs]
        have hb : ∀ k i, b = .v (.int k i) → False := by
          rintro k i rfl
          have := hap A'
          unfold apVC at this
          simp only [srcOf] at this
          split at this <;> (try split at this) <;> simp_all
        have h9 : Ob (t' = t') (apVC N.pn (selOf P t') (o.dst.getD 0) A' H a b fun r' A'' H'' => r' = r ∧ A'' = A'.scrub p ∧ H'' = H') := ⟨rfl, hap A'⟩
        have hty : tys = #[t', t'] := by rw [← Array.toArray_toList (xs := tys), hts]
        subst hty
        cases b with
        | v x =>
          cases x with
          | int k i => exact (hb k i rfl).elim
          | _ => exact h9
        | _ => exact h9
      split at h
      · rename_i se hh off sz n hse
        split at h
        · rename_i NN f m g hH hsrc
          obtain ⟨h1, h2, h3, h4, hK⟩ := h
          refine ⟨_, _, _, hK, fin _ _ _ fun A' => ?_⟩
          unfold apVC
          rw [hse]; simp only; rw [hH, hsrc]
          exact ⟨h1, h2, h3, h4, by simp⟩
        · exact h.elim
      · rename_i se hse
        split at h
        · rename_i m g hsrc
          obtain ⟨h1, h2, h3, h4, hK⟩ := h
          refine ⟨_, _, _, hK, fin _ _ _ fun A' => ?_⟩
          unfold apVC
          rw [hse]; simp only; rw [hsrc]
          exact ⟨h1, h2, h3, h4, by simp⟩
        · exact h.elim
      · exact h.elim
    · exact h.elim
  · rename_i args tys ho
    obtain ⟨l, hl, h⟩ := withArgs_ok h
    have hc : ∀ A' : Fr, (∀ x ∈ o.op.operands, A'.ev x = A.ev x) → evArgs A' args.toList = some l := by
      intro A' ha
      rw [evArgs_congr fun x hx => ha x (by rw [ho]; simp [Op.operands, Call.operands]; simpa using hx), hl]
    split at h
    · rename_i a b t t' hts
      unfold cpVC at h
      split at h
      · rename_i se hh off sz n hse
        split at h
        · rename_i NN f m g hH hsrc
          obtain ⟨h1, h2, hK⟩ := h
          refine ⟨_, _, _, hK, fun A' ha => opVC_sound ?_⟩
          rw [ho]
          have hty : tys = #[t, t'] := by rw [← Array.toArray_toList (xs := tys), hts]
          subst hty
          simp only [opVC, hc A' ha, withArgs, bcallVC]
          unfold cpVC
          rw [hse]; simp only; rw [hH, hsrc]
          exact ⟨h1, h2, rfl, (Fr.scrub_none A').symm, rfl⟩
        · exact h.elim
      · exact h.elim
    · exact h.elim
  · exact h.elim

/-- i must come ahead of j. -/
def preB (ops : Array Oper) : Nat → Nat → Nat → Bool
  | 0, _, _ => false
  | f + 1, j, i => match ops[j]? with
    | none => false
    | some o => o.after.any fun e => Region.binds .any e && (e.on == i || preB ops f e.on i)

theorem pre_listed {ops : Array Oper} {listed : Array Bool} (hcl : ∀ (k : Nat) (o : Oper) (e : Edge), listed.getD k false = true → ops[k]? = some o → e ∈ o.after → Region.binds .any e = true → listed.getD e.on false = true) :
    ∀ (f j i : Nat), preB ops f j i = true → listed.getD j false = true → listed.getD i false = true
  | 0, _, _, h, _ => by cases h
  | f + 1, j, i, h, hj => by
    simp only [preB] at h
    split at h
    · cases h
    · rename_i o ho
      obtain ⟨e, he, hb⟩ := Array.any_eq_true'.1 h
      simp only [Bool.and_eq_true, Bool.or_eq_true, beq_iff_eq] at hb
      have := hcl j o e hj ho he hb.1
      rcases hb.2 with rfl | h2
      · exact this
      · exact pre_listed hcl f e.on i h2 this
theorem pre_ready {ops : Array Oper} {listed : Array Bool} (hcl : ∀ (k : Nat) (o : Oper) (e : Edge), listed.getD k false = true → ops[k]? = some o → e ∈ o.after → Region.binds .any e = true → listed.getD e.on false = true)
    {f j i : Nat} {o : Oper} (ho : ops[j]? = some o) (hall : ∀ e ∈ o.after, Region.binds .any e = true → listed.getD e.on false = true) (h : preB ops f j i = true) : listed.getD i false = true := by
  cases f with
  | zero => cases h
  | succ f =>
    simp only [preB, ho] at h
    obtain ⟨e, he, hb⟩ := Array.any_eq_true'.1 h
    simp only [Bool.and_eq_true, Bool.or_eq_true, beq_iff_eq] at hb
    have := hall e he hb.1
    rcases hb.2 with rfl | h2
    · exact this
    · exact pre_listed hcl f e.on i h2 this

def pivOk (ops : Array Oper) (nf m : Nat) : Bool :=
  anyOk ops && ops.toList.all (fun o => o.guard.isNone) && decide (nf ≤ m) && decide (m < ops.size) &&
  (List.range m).all (fun g => decide (g < nf) || preB ops ops.size m g) &&
  (List.range ops.size).all fun j => decide (j ≤ m) || (List.range j).all fun i => preB ops ops.size j i

theorem pivOk_ok {ops : Array Oper} {nf m : Nat} (h : pivOk ops nf m = true) : anyOk ops = true ∧ (∀ (k : Nat) (o : Oper), ops[k]? = some o → o.guard = none) ∧ nf ≤ m ∧ m < ops.size ∧
    (∀ g, g < m → nf ≤ g → preB ops ops.size m g = true) ∧ (∀ j i, j < ops.size → m < j → i < j → preB ops ops.size j i = true) := by
  simp only [pivOk, Bool.and_eq_true, decide_eq_true_eq, List.all_eq_true, List.mem_range, Bool.or_eq_true] at h
  obtain ⟨⟨⟨⟨⟨h1, h2⟩, h3⟩, h4⟩, h5⟩, h6⟩ := h
  refine ⟨h1, fun k o ho => ?_, h3, h4, fun g hg hn => ?_, fun j i hj hm hi => ?_⟩
  · have := h2 o (by rw [Array.mem_toList_iff]; exact Array.mem_of_getElem? ho)
    simpa using this
  · rcases h5 g hg with h | h
    · omega
    · exact h
  · rcases h6 j hj with h | h
    · omega
    · exact h i hi

/-- Something may come up, as long as something is left. -/
theorem ready_ne {ops : Array Oper} {listed : Array Bool} (hsz : listed.size = ops.size) (hback : ∀ (j : Nat) (oj : Oper) (e : Edge), ops[j]? = some oj → e ∈ oj.after → Region.binds .any e = true → e.on < j)
    (hex : ∃ k, k < ops.size ∧ ¬ listed.getD k false = true) : Region.ready .any ops listed ≠ [] := by
  have ld : ∀ k, k < ops.size → (listed.getD k true = false ↔ ¬ listed.getD k false = true) := by
    intro k hk
    simp [Array.getD, hsz, hk]
  obtain ⟨k, hk⟩ := hex
  have : ∀ n k, k ≤ n → k < ops.size ∧ ¬ listed.getD k false = true → ∃ j, j ∈ Region.ready .any ops listed := by
    intro n
    induction n with
    | zero =>
      intro k hk ⟨h1, h2⟩
      refine ⟨k, mem_ready.2 ⟨(ld k h1).2 h2, ops[k], by simp [h1], fun e he hb => ?_⟩⟩
      have := hback k ops[k] e (by simp [h1]) he hb
      omega
    | succ n ihn =>
      intro k hk ⟨h1, h2⟩
      by_cases hx : ∃ e ∈ ops[k].after, Region.binds .any e = true ∧ ¬ listed.getD e.on false = true
      · obtain ⟨e, he, hb, hl⟩ := hx
        have := hback k ops[k] e (by simp [h1]) he hb
        exact ihn e.on (by omega) ⟨by omega, hl⟩
      · refine ⟨k, mem_ready.2 ⟨(ld k h1).2 h2, ops[k], by simp [h1], fun e he hb => ?_⟩⟩
        exact Classical.byContradiction fun h => hx ⟨e, he, hb, h⟩
  obtain ⟨j, hj⟩ := this k k (Nat.le_refl k) hk
  exact List.ne_nil_of_mem hj

/-- What the frame says while the operation in the midst has not come (b = false), or has. -/
structure MidSt (ops : Array Oper) (m : Nat) (A0 : Fr) (rs : List AV) (r : AV) (p : Nat → Bool) (listed : Array Bool) (b : Bool) (A : Fr) : Prop where
  hm : listed.getD m false = b
  low : ∀ (k t : Nat) (o : Oper), k < m → ops[k]? = some o → listed.getD k false = true → o.dst = some t → A.get t = some (if b then (rs.getD k .dead).scrub p else rs.getD k .dead)
  mid : ∀ (t : Nat) (o : Oper), b = true → ops[m]? = some o → o.dst = some t → A.get t = some r
  rest : ∀ t, (∀ (k : Nat) (o : Oper), ops[k]? = some o → listed.getD k false = true → o.dst ≠ some t) → A.get t = if b then (A0.get t).map (AV.scrub p) else A0.get t
  hi : ∀ k, m < k → ¬ listed.getD k false = true

theorem mid_sound {ops : Array Oper} {nf m : Nat} {Q' : Exit → Act → World → Prop} {Qf : Fr → Hp → Prop} {A0 An : Fr} {H' : Hp} {rs rs2 : List AV} {r : AV} {p : Nat → Bool} {om : Oper} {w0 : World} {S : Rg} (hS : Good N w0 S) (hok : pivOk ops nf m = true)
    (hN : ∀ (j t : Nat) (o : Oper), ops[j]? = some o → o.dst = some t → t < N.n) (hom : ops[m]? = some om)
    (hl1 : rs.length = m) (hl2 : rs2.length = nf)
    (hstep : ∀ j o, j < m → ops[j]? = some o → ∃ Aj : Fr, (∀ t, Aj.get t = valL (ops.toList.take m) rs A0.get j t) ∧ OpOK P N o Aj H (rs.getD j .dead))
    (hAn : ∀ t, An.get t = valL (ops.toList.take m) rs A0.get m t) (hpiv : PivOK P N om An H r p H')
    (hstep2 : ∀ j o, j < nf → ops[j]? = some o → ∃ Aj : Fr, (∀ t, Aj.get t = valL (ops.toList.take nf) rs2 (A0.scrub p).get j t) ∧ OpOK P N o Aj H' (rs2.getD j .dead))
    (hsame : ∀ j o t, j < nf → ops[j]? = some o → o.dst = some t → rs2.getD j .dead = (rs.getD j .dead).scrub p)
    (hrest : opsVC P N (ops.toList.map (·.dst)) Qf (ops.toList.drop (m + 1)) (putd om.dst r (An.scrub p)) H')
    (hQ : ∀ (A : Fr) (H : Hp) (a : Act) (w : World) (L : Loc), Sim N.n w0 S w a.tmps L A H → a.defers = [] → Qf A H → Q' .normal a w) :
    ∀ (fuel : Nat) (listed : Array Bool) (s : List Nat) (a : Act) (w : World), listed.size = ops.size → s.Nodup → (∀ k, k ∈ s ↔ listed.getD k false = true) → s.length + fuel = ops.size →
      (∀ (k : Nat) (o : Oper) (e : Edge), listed.getD k false = true → ops[k]? = some o → e ∈ o.after → Region.binds .any e = true → listed.getD e.on false = true) → a.defers = [] →
      ((∃ (b : Bool) (A : Fr) (L : Loc), Sim N.n w0 S w a.tmps L A (if b then H' else H) ∧ MidSt ops m A0 rs r p listed b A) ∨
       ∃ (j : Nat) (A : Fr) (H3 : Hp) (L : Loc), m < j ∧ j ≤ ops.size ∧ (∀ k, listed.getD k false = true ↔ k < j) ∧ Sim N.n w0 S w a.tmps L A H3 ∧ opsVC P N (ops.toList.map (·.dst)) Qf (ops.toList.drop j) A H3) →
      wpAny P .any ops Q' fuel listed a w := by
  obtain ⟨hany, hguard, hnf, hm, hF, hL⟩ := pivOk_ok hok
  obtain ⟨hinj, hback, hdep⟩ := anyOk_ok hany
  have tl : ∀ j : Nat, ops.toList[j]? = ops[j]? := fun j => Array.getElem?_toList
  have tk : ∀ n j o, (ops.toList.take n)[j]? = some o → j < n ∧ ops[j]? = some o := fun n j o h => by
    rw [List.getElem?_take] at h
    split at h
    · rename_i hlt; exact ⟨hlt, by rw [← tl]; exact h⟩
    · cases h
  have tk' : ∀ n j o, j < n → ops[j]? = some o → (ops.toList.take n)[j]? = some o := fun n j o h ho => by
    rw [List.getElem?_take, if_pos h, tl]; exact ho
  have len1 : (ops.toList.take m).length = m := by simp; omega
  have len2 : (ops.toList.take nf).length = nf := by simp; omega
  -- what the walk's frames say
  have hit1 : ∀ j k t o, k < j → j ≤ m → ops[k]? = some o → o.dst = some t → valL (ops.toList.take m) rs A0.get j t = some (rs.getD k .dead) := fun j k t o hk hj ho hd =>
    valL_hit _ rs _ j t k o (by rw [len1]; exact hl1) hk (tk' m k o (by omega) ho) hd fun k' o' ho' hd' => hinj k' k t o' o (tk m k' o' ho').2 ho hd' hd
  have miss1 : ∀ j t, (∀ k o, k < j → ops[k]? = some o → o.dst ≠ some t) → valL (ops.toList.take m) rs A0.get j t = A0.get t := fun j t h =>
    valL_miss _ rs _ j t fun k o hk ho => h k o hk (tk m k o ho).2
  have hit2 : ∀ j k t o, k < j → j ≤ nf → ops[k]? = some o → o.dst = some t → valL (ops.toList.take nf) rs2 (A0.scrub p).get j t = some (rs2.getD k .dead) := fun j k t o hk hj ho hd =>
    valL_hit _ rs2 _ j t k o (by rw [len2]; exact hl2) hk (tk' nf k o (by omega) ho) hd fun k' o' ho' hd' => hinj k' k t o' o (tk nf k' o' ho').2 ho hd' hd
  have miss2 : ∀ j t, (∀ k o, k < j → ops[k]? = some o → o.dst ≠ some t) → valL (ops.toList.take nf) rs2 (A0.scrub p).get j t = (A0.scrub p).get t := fun j t h =>
    valL_miss _ rs2 _ j t fun k o hk ho => h k o hk (tk nf k o ho).2
  intro fuel
  induction fuel with
  | zero =>
    intro listed s a w hsz hn hs hc hcl hd hst
    have hlt : ∀ k ∈ s, k < ops.size := fun k hk => by
      have := (hs k).1 hk
      rcases Nat.lt_or_ge k listed.size with h | h
      · omega
      · simp [Array.getD, show ¬ k < listed.size by omega] at this
    have hall : ∀ k, k < ops.size → listed.getD k false = true := fun k hk => (hs k).1 ((Go.Plain.nodup_iff_all (by omega) hlt).1 hn k hk)
    refine ⟨?_, ?_⟩
    · refine List.eq_nil_iff_forall_not_mem.2 fun j hj => ?_
      obtain ⟨h1, o, ho, _⟩ := mem_ready.1 hj
      have hj' : j < ops.size := (Array.getElem?_eq_some_iff.1 ho).1
      have := hall j hj'
      simp [Array.getD, hsz, hj'] at h1 this
      rw [h1] at this; cases this
    · rcases hst with ⟨b, A, L, sim, md⟩ | ⟨j, A, H3, L, hj1, hj2, hj3, sim, hv⟩
      · have hb : b = true := by rw [← md.hm]; exact hall m hm
        subst hb
        have hsize : ops.size = m + 1 := by
          rcases Nat.lt_or_ge (m + 1) ops.size with h | h
          · exact absurd (hall (m + 1) h) (md.hi (m + 1) (by omega))
          · omega
        rw [List.drop_eq_nil_of_le (by simp; omega)] at hrest
        refine hQ _ _ a w L (sim.sub (A' := putd om.dst r (An.scrub p)) fun t x hx => ?_) hd hrest
        rw [putd_get] at hx
        split at hx
        · rename_i e
          rw [md.mid t om rfl hom e]; exact hx
        · rename_i e
          rw [Fr.get_scrub, hAn] at hx
          by_cases hw : ∃ (k : Nat) (o : Oper), k < m ∧ ops[k]? = some o ∧ o.dst = some t
          · obtain ⟨k, o, hk, ho, hdt⟩ := hw
            rw [hit1 m k t o hk (Nat.le_refl _) ho hdt] at hx
            rw [md.low k t o hk ho (hall k (by omega)) hdt]; exact hx
          · rw [miss1 m t fun k o hk ho hdt => hw ⟨k, o, hk, ho, hdt⟩] at hx
            rw [md.rest t fun k o ho _ hdt => ?_]
            · exact hx
            · have hk := (Array.getElem?_eq_some_iff.1 ho).1
              rcases Nat.lt_trichotomy k m with h | h | h
              · exact hw ⟨k, o, h, ho, hdt⟩
              · subst h; rw [hom] at ho; simp only [Option.some.injEq] at ho; subst ho; exact e hdt
              · omega
      · have : j = ops.size := by
          rcases Nat.lt_or_ge j ops.size with h | h
          · have := (hj3 j).1 (hall j h); omega
          · omega
        rw [List.drop_eq_nil_of_le (by simp; omega)] at hv
        exact hQ A H3 a w L sim hd hv
  | succ fuel ih =>
    intro listed s a w hsz hn hs hc hcl hd hst
    have ld : ∀ k, k < ops.size → (listed.getD k true = false ↔ ¬ listed.getD k false = true) := by
      intro k hk
      simp [Array.getD, hsz, hk]
    have hex : ∃ k, k < ops.size ∧ ¬ listed.getD k false = true := by
      refine Classical.byContradiction fun hno => ?_
      have : ∀ x ∈ List.range ops.size, x ∈ s := fun x hx => (hs x).2 (Classical.byContradiction fun h => hno ⟨x, by simpa using hx, h⟩)
      have := Go.Plain.nodup_le s (List.range ops.size) List.nodup_range this
      simp at this; omega
    refine ⟨fun h => absurd h (ready_ne hsz hback hex), fun i hi => ?_⟩
    obtain ⟨hun0, oi, hoi, hall⟩ := mem_ready.1 hi
    have hi' : i < ops.size := (Array.getElem?_eq_some_iff.1 hoi).1
    have hun := (ld i hi').1 hun0
    have g1 : ∀ k, (listed.setIfInBounds i true).getD k false = true ↔ (k = i ∨ listed.getD k false = true) := by
      intro k
      by_cases hk : k = i
      · subst hk; simp [Array.getD, hsz, hi']
      · rw [getD_set_ne false (Ne.symm hk)]; simp [hk]
    have next : ∀ (a' : Act) (w' : World), a'.defers = [] → ((∃ (b : Bool) (A : Fr) (L : Loc), Sim N.n w0 S w' a'.tmps L A (if b then H' else H) ∧ MidSt ops m A0 rs r p (listed.setIfInBounds i true) b A) ∨
       ∃ (j : Nat) (A : Fr) (H3 : Hp) (L : Loc), m < j ∧ j ≤ ops.size ∧ (∀ k, (listed.setIfInBounds i true).getD k false = true ↔ k < j) ∧ Sim N.n w0 S w' a'.tmps L A H3 ∧ opsVC P N (ops.toList.map (·.dst)) Qf (ops.toList.drop j) A H3) → wpAny P .any ops Q' fuel (listed.setIfInBounds i true) a' w' := by
      intro a' w' hd' hst'
      refine ih (listed.setIfInBounds i true) (i :: s) a' w' (by simp [hsz]) ?_ ?_ (by simp only [List.length_cons]; omega) ?_ hd' hst'
      · exact List.nodup_cons.2 ⟨fun h => hun ((hs i).1 h), hn⟩
      · intro k; rw [g1, List.mem_cons, hs]
      · intro k o e hk ho he hb
        rw [g1] at hk ⊢
        rcases hk with rfl | hk
        · rw [hoi] at ho; simp only [Option.some.injEq] at ho; subst ho
          exact .inr (hall e he hb)
        · exact .inr (hcl k o e hk ho he hb)
    have hNi := fun t h => hN i t oi hoi h
    unfold wpOp
    simp only [hoi]
    rw [if_pos (by simp [Region.wanted, hguard i oi hoi])]
    left
    -- the rest, in its order
    have right : ∀ (A : Fr) (H3 : Hp) (L : Loc), m < i → (∀ k, listed.getD k false = true ↔ k < i) → Sim N.n w0 S w a.tmps L A H3 → opsVC P N (ops.toList.map (·.dst)) Qf (ops.toList.drop i) A H3 → oi.wp P a w (wpAny P .any ops Q' fuel (listed.setIfInBounds i true)) Q' := by
      intro A H3 L hmi hj3 sim hv
      have hd1 : ops.toList.drop i = oi :: ops.toList.drop (i + 1) := by
        rw [List.drop_eq_getElem_cons (by simpa using hi')]
        congr 1
        have := Array.getElem?_eq_some_iff.1 hoi
        obtain ⟨_, e⟩ := this
        simpa using e
      rw [hd1] at hv
      simp only [opsVC, hguard i oi hoi] at hv
      refine opVC_sound hv w0 S hS w a L sim _ Q' ?_
      intro u r L' A' H4 w' s' hr hk
      refine next _ _ (by rw [put_defers]; exact hd) (.inr ⟨i + 1, _, H4, L', by omega, by omega, fun k => ?_, s'.putd hNi hr, hk⟩)
      rw [g1, hj3]; omega
    rcases hst with ⟨b, A, L, sim, md⟩ | ⟨j, A, H3, L, hj1, hj2, hj3, sim, hv⟩
    case inr =>
      have hij : i = j := by
        have h1 : ¬ i < j := fun h => hun ((hj3 i).2 h)
        rcases Nat.lt_or_ge j i with h | h
        · have := pre_ready hcl hoi hall (hL i j hi' (by omega) h)
          have := (hj3 j).1 this
          omega
        · omega
      subst hij
      exact right A H3 L hj1 hj3 sim hv
    rcases Nat.lt_trichotomy i m with him | him | him
    · -- ahead of the one in the midst, in the text
      have uniq : ∀ (k t : Nat) (o : Oper) (k' : Nat) (o' : Oper), ops[k]? = some o → o.dst = some t → ops[k']? = some o' → o'.dst = some t → k' = k := fun k t o k' o' ho hdt ho' hd' => hinj k' k t o' o ho' ho hd' hdt
      have after : ∀ (A' : Fr) (L' : Loc) (w' : World) (u : Value) (rr : AV), Sim N.n w0 S w' (a.put oi.dst u).tmps L' (putd oi.dst rr A) (if b then H' else H) → (∀ t, oi.dst = some t → rr = if b then (rs.getD i .dead).scrub p else rs.getD i .dead) → wpAny P .any ops Q' fuel (listed.setIfInBounds i true) (a.put oi.dst u) w' := by
        intro A' L' w' u rr sim' hrr
        refine next _ _ (by rw [put_defers]; exact hd) (.inl ⟨b, _, L', sim', ?_, ?_, ?_, ?_, ?_⟩)
        · rw [getD_set_ne false (by omega)]; exact md.hm
        · intro k t o hk ho hl hdt
          rw [putd_get]
          by_cases hki : k = i
          · subst hki
            rw [hoi] at ho; simp only [Option.some.injEq] at ho; subst ho
            rw [if_pos hdt, hrr t hdt]
          · rw [if_neg fun e => hki (hinj k i t o oi ho hoi hdt e)]
            exact md.low k t o hk ho (((g1 k).1 hl).resolve_left hki) hdt
        · intro t o hb ho hdt
          rw [putd_get, if_neg fun e => by have := hinj i m t oi o hoi ho e hdt; omega]
          exact md.mid t o hb ho hdt
        · intro t ht
          rw [putd_get, if_neg (ht i oi hoi ((g1 i).2 (.inl rfl)))]
          exact md.rest t fun k o ho hk => ht k o ho ((g1 k).2 (.inr hk))
        · intro k hk hl
          rcases (g1 k).1 hl with h | h
          · omega
          · exact md.hi k hk h
      have evs : ∀ (Ai : Fr), (∀ t, t ∈ oi.looksAt ops → A.get t = Ai.get t) → ∀ x ∈ oi.op.operands, A.ev x = Ai.ev x := by
        intro Ai look x hx
        cases x with
        | tmp t => exact look t (List.mem_append_left _ (List.mem_filterMap.2 ⟨.tmp t, by simpa using hx, rfl⟩))
        | const v => rfl
        | global g => rfl
        | func f => rfl
      -- who writes what is looked at
      have who : ∀ t, t ∈ oi.looksAt ops → (∃ (k : Nat) (o : Oper), k < i ∧ ops[k]? = some o ∧ o.dst = some t ∧ listed.getD k false = true) ∨ ((∀ (k : Nat) (o : Oper), ops[k]? = some o → listed.getD k false = true → o.dst ≠ some t) ∧ ∀ (k : Nat) (o : Oper), k < i → ops[k]? = some o → o.dst ≠ some t) := by
        intro t ht
        by_cases hx : ∃ (k : Nat) (o : Oper), ops[k]? = some o ∧ o.dst = some t
        · obtain ⟨k, o, ho, hdt⟩ := hx
          have free : ¬ listed.getD k false = true → i ≤ k → (∀ (k : Nat) (o : Oper), ops[k]? = some o → listed.getD k false = true → o.dst ≠ some t) ∧ ∀ (k : Nat) (o : Oper), k < i → ops[k]? = some o → o.dst ≠ some t := fun h1 h2 =>
            ⟨fun k' o' ho' hl' e => h1 (uniq k t o k' o' ho hdt ho' e ▸ hl'), fun k' o' hk' ho' e => by have := uniq k t o k' o' ho hdt ho' e; omega⟩
          by_cases hki : k = i
          · subst hki; exact .inr (free hun (Nat.le_refl _))
          · rcases hdep k i t o oi hki ho hoi hdt ht with ⟨e, he, hb, rfl⟩ | ⟨e, he, hb, rfl⟩
            · exact .inl ⟨e.on, o, hback i oi e hoi he hb, ho, hdt, hall e he hb⟩
            · have h2 := hback k o e ho he hb
              exact .inr (free (fun h => hun (hcl k o e h ho he hb)) (by omega))
        · exact .inr ⟨fun k o ho _ e => hx ⟨k, o, ho, e⟩, fun k o _ ho e => hx ⟨k, o, ho, e⟩⟩
      cases hb : b with
      | false =>
        subst hb
        obtain ⟨Ai, hAi, hop⟩ := hstep i oi him hoi
        refine hop A (evs Ai fun t ht => ?_) w0 S hS w a L sim _ Q' ?_
        · rw [hAi]
          rcases who t ht with ⟨k, o, hk, ho, hdt, hl⟩ | ⟨h1, h2⟩
          · rw [md.low k t o (by omega) ho hl hdt, hit1 i k t o hk (by omega) ho hdt]; rfl
          · rw [md.rest t h1, miss1 i t h2]; rfl
        · rintro u rr L' A' H4 w' s' hr ⟨rfl, rfl, rfl⟩
          exact after A' L' w' u _ (s'.putd hNi hr) fun t _ => rfl
      | true =>
        subst hb
        have hinf : i < nf := by
          rcases Nat.lt_or_ge i nf with h | h
          · exact h
          · exact absurd (pre_listed hcl _ m i (hF i him h) md.hm) hun
        obtain ⟨Ai, hAi, hop⟩ := hstep2 i oi hinf hoi
        refine hop A (evs Ai fun t ht => ?_) w0 S hS w a L sim _ Q' ?_
        · rw [hAi]
          rcases who t ht with ⟨k, o, hk, ho, hdt, hl⟩ | ⟨h1, h2⟩
          · rw [md.low k t o (by omega) ho hl hdt, hit2 i k t o hk (by omega) ho hdt, hsame k o t (by omega) ho hdt]; rfl
          · rw [md.rest t h1, miss2 i t h2, Fr.get_scrub]; rfl
        · rintro u rr L' A' H4 w' s' hr ⟨rfl, rfl, rfl⟩
          exact after A' L' w' u _ (s'.putd hNi hr) fun t ht => hsame i oi t hinf hoi ht
    · -- the one in the midst
      subst him
      have hb : b = false := by
        cases hb : b with
        | false => rfl
        | true => subst hb; exact absurd md.hm hun
      subst hb
      rw [hom] at hoi; simp only [Option.some.injEq] at hoi; subst hoi
      have hlg : ∀ g, g < i → nf ≤ g → listed.getD g false = true := fun g hg hn => pre_ready hcl hom hall (hF g hg hn)
      refine hpiv A (fun x hx => ?_) w0 S hS w a L sim _ Q' ?_
      · cases x with
        | tmp t =>
          have ht : t ∈ om.looksAt ops := List.mem_append_left _ (List.mem_filterMap.2 ⟨.tmp t, by simpa using hx, rfl⟩)
          show A.get t = An.get t
          rw [hAn]
          by_cases hx : ∃ (k : Nat) (o : Oper), ops[k]? = some o ∧ o.dst = some t
          · obtain ⟨k, o, ho, hdt⟩ := hx
            have free : ¬ listed.getD k false = true → i ≤ k → A.get t = valL (ops.toList.take i) rs A0.get i t := fun h1 h2 => by
              rw [md.rest t fun k' o' ho' hl' e => h1 (hinj k' k t o' o ho' ho e hdt ▸ hl'), miss1 i t fun k' o' hk' ho' e => by have := hinj k' k t o' o ho' ho e hdt; omega]; rfl
            by_cases hki : k = i
            · subst hki; exact free hun (Nat.le_refl _)
            · rcases hdep k i t o om hki ho hom hdt ht with ⟨e, he, hb, rfl⟩ | ⟨e, he, hb, rfl⟩
              · have hk := hback i om e hom he hb
                rw [md.low e.on t o hk ho (hall e he hb) hdt, hit1 i e.on t o hk (Nat.le_refl _) ho hdt]; rfl
              · have h2 := hback k o e ho he hb
                exact free (fun h => hun (hcl k o e h ho he hb)) (by omega)
          · rw [md.rest t fun k o ho _ e => hx ⟨k, o, ho, e⟩, miss1 i t fun k o _ ho e => hx ⟨k, o, ho, e⟩]; rfl
        | const v => rfl
        | global g => rfl
        | func f => rfl
      · rintro u rr L' A' H4 w' s' hr ⟨rfl, rfl, rfl⟩
        refine next _ _ (by rw [put_defers]; exact hd) (.inl ⟨true, _, L', s'.putd hNi hr, ?_, ?_, ?_, ?_, ?_⟩)
        · exact (g1 i).2 (.inl rfl)
        · intro k t o hk ho hl hdt
          rw [putd_get, if_neg fun e => by have := hinj k i t o om ho hom hdt e; omega, Fr.get_scrub, md.low k t o hk ho (((g1 k).1 hl).resolve_left (by omega)) hdt]
          rfl
        · intro t o _ ho hdt
          rw [hom] at ho; simp only [Option.some.injEq] at ho; subst ho
          rw [putd_get, if_pos hdt]
        · intro t ht
          rw [putd_get, if_neg (ht i om hom ((g1 i).2 (.inl rfl))), Fr.get_scrub, md.rest t fun k o ho hk => ht k o ho ((g1 k).2 (.inr hk))]
          rfl
        · intro k hk hl
          rcases (g1 k).1 hl with h | h
          · omega
          · exact md.hi k hk h
    · -- behind it: all else is through
      have hlow : ∀ k, k < i → listed.getD k false = true := fun k hk => pre_ready hcl hoi hall (hL i k hi' him hk)
      have hb : b = true := by rw [← md.hm]; exact hlow m him
      subst hb
      have him1 : i = m + 1 := by
        rcases Nat.lt_or_ge (m + 1) i with h | h
        · exact absurd (hlow (m + 1) h) (md.hi (m + 1) (by omega))
        · omega
      subst him1
      refine right (putd om.dst r (An.scrub p)) H' L him (fun k => ⟨fun h => ?_, hlow k⟩) (sim.sub fun t x hx => ?_) hrest
      · rcases Nat.lt_or_ge k (m + 1) with h2 | h2
        · exact h2
        · exact absurd h (md.hi k (by omega))
      · rw [putd_get] at hx
        split at hx
        · rename_i e
          rw [md.mid t om rfl hom e]; exact hx
        · rename_i e
          rw [Fr.get_scrub, hAn] at hx
          by_cases hw : ∃ (k : Nat) (o : Oper), k < m ∧ ops[k]? = some o ∧ o.dst = some t
          · obtain ⟨k, o, hk, ho, hdt⟩ := hw
            rw [hit1 m k t o hk (Nat.le_refl _) ho hdt] at hx
            rw [md.low k t o hk ho (hlow k (by omega)) hdt]; exact hx
          · rw [miss1 m t fun k o hk ho hdt => hw ⟨k, o, hk, ho, hdt⟩] at hx
            rw [md.rest t fun k o ho hl hdt => ?_]
            · exact hx
            · rcases Nat.lt_trichotomy k m with h | h | h
              · exact hw ⟨k, o, h, ho, hdt⟩
              · subst h; rw [hom] at ho; simp only [Option.some.injEq] at ho; subst ho; exact e hdt
              · exact md.hi k h hl

variable (P N) in
/-- Two frames say the same of some slots. -/
def sameG (A B : Fr) : List (Option Tmp) → Prop
  | [] => True
  | none :: r => sameG A B r
  | some d :: r => A.get d = B.get d ∧ sameG A B r
theorem sameG_ok {A B : Fr} : ∀ (l : List (Option Tmp)), sameG A B l → ∀ d, some d ∈ l → A.get d = B.get d
  | [], _, d, h => by simp at h
  | none :: r, h, d, hd => by
    simp only [List.mem_cons, reduceCtorEq, false_or] at hd
    exact sameG_ok r h d hd
  | some e :: r, h, d, hd => by
    simp only [List.mem_cons, Option.some.injEq] at hd
    rcases hd with rfl | hd
    · exact h.1
    · exact sameG_ok r h.2 d hd
variable (P N) in
def opsP (nf m : Nat) (Q : Fr → Hp → Prop) (l : List Oper) (A : Fr) (H : Hp) : Prop :=
  match l.drop m with
  | o :: lr => opsQ P N (l.map (·.dst)) (fun A1 => pivVC P N (o.dst.getD 0) o.op A1 H fun r p H' =>
      opsQ P N (l.map (·.dst)) (fun A2 => Ob (sameG A2 (A1.scrub p) ((l.take nf).map (·.dst))) (opsVC P N (l.map (·.dst)) Q lr (putd o.dst r (A1.scrub p)) H')) (l.take nf) (A.scrub p) H') (l.take m) A H
  | [] => False

theorem awp_regionP (nf m : Nat) {id : Nat} {l : List Oper} {Q : Exit → Fr → Hp → Prop} (hm : P.follows .mixedOrders = true) (hB : pivOk l.toArray nf m = true) (hN : dstsOk N l = true)
    (h : opsP P N nf m (Q .normal) l A H) : AWP P N (.region id l.toArray true) Q A H := by
  have hmem := dstsOk_mem hN
  obtain ⟨hany, hguard, hnf, hmm, hF, hL⟩ := pivOk_ok hB
  obtain ⟨hinj, _, _⟩ := anyOk_ok hany
  have hml : m < l.length := by simpa using hmm
  unfold opsP at h
  split at h
  · rename_i o lr hdrop
    have hom : l[m]? = some o := by
      have := congrArg (fun x : List Oper => x[0]?) hdrop
      simpa using this
    have hlr : l.drop (m + 1) = lr := by
      have := congrArg List.tail hdrop
      simpa using this
    obtain ⟨rs, hlex⟩ := lex_of_opsQ _ A h
    obtain ⟨k1, k2, An, k3, k4⟩ := LexL_get (l.take m) A rs A.get (fun _ => rfl) hlex
    have lm : (l.take m).length = m := by simp; omega
    rw [lm] at k3 k1
    obtain ⟨r, p, H', k5, hpiv⟩ := piv_ok k4
    obtain ⟨rs2, hlex2⟩ := lex_of_opsQ _ (A.scrub p) k5
    obtain ⟨j1, j2, A2, j3, j4, j5⟩ := LexL_get (l.take nf) (A.scrub p) rs2 (A.scrub p).get (fun _ => rfl) hlex2
    have ln : (l.take nf).length = nf := by simp; omega
    rw [ln] at j3 j1
    have gno : ∀ (k : Nat) (o : Oper), l[k]? = some o → o.guard = none := fun k o ho => hguard k o (by simpa using ho)
    intro w0 S hS w a L s hd
    have s1 : Sim N.n w0 S w.drew a.tmps L A H := s.drew
    refine wp_region_any hm ?_
    refine mid_sound (ops := l.toArray) (A0 := A) (An := An) (rs := rs) (rs2 := rs2) (r := r) (p := p) (H' := H') (H := H) (om := o) (nf := nf) (m := m) (Qf := Q .normal) hS hB (fun j t o ho hdt => hmem o (List.mem_of_getElem? (by simpa using ho)) t hdt) (by simpa using hom) k1 j1 ?_ k3 hpiv ?_ ?_ ?_ ?_ _ _ [] a _ (by simp) List.nodup_nil ?_ (by simp) ?_ hd (.inl ⟨false, A, L, s1, ?_⟩)
    · intro j o' hj ho'
      obtain ⟨Aj, h1, h2⟩ := k2 j o' (by rw [List.getElem?_take, if_pos hj]; simpa using ho')
      unfold StepOK at h2
      rw [gno j o' (by simpa using ho')] at h2
      exact ⟨Aj, h1, h2⟩
    · intro j o' hj ho'
      obtain ⟨Aj, h1, h2⟩ := j2 j o' (by rw [List.getElem?_take, if_pos hj]; simpa using ho')
      unfold StepOK at h2
      rw [gno j o' (by simpa using ho')] at h2
      exact ⟨Aj, h1, h2⟩
    · intro j o' t hj ho' hdt
      have ho2 : l[j]? = some o' := by simpa using ho'
      have e := sameG_ok _ j4 t (List.mem_map.2 ⟨o', List.mem_of_getElem? (i := j) (by rw [List.getElem?_take, if_pos hj]; exact ho2), hdt⟩)
      have un : ∀ n k' o'', (l.take n)[k']? = some o'' → o''.dst = some t → k' = j := fun n k' o'' hk' hd' => by
        rw [List.getElem?_take] at hk'
        split at hk'
        · exact hinj k' j t o'' o' (by simpa using hk') ho' hd' hdt
        · cases hk'
      rw [j3, valL_hit _ rs2 _ nf t j o' (by rw [ln]; exact j1) hj (by rw [List.getElem?_take, if_pos hj]; exact ho2) hdt (un nf), Fr.get_scrub, k3, valL_hit _ rs _ m t j o' (by rw [lm]; exact k1) (by omega) (by rw [List.getElem?_take, if_pos (by omega)]; exact ho2) hdt (un m)] at e
      simpa using e
    · rw [hlr]; exact j5
    · intro A' H3 a' w' L' s' hd' hq
      exact ⟨L', A', H3, s', hd', hq⟩
    · intro k; simp [Array.getD]
    · intro k o e hk; simp [Array.getD] at hk
    · exact ⟨(by simp [Array.getD]), fun k t o _ _ hk => (by simp [Array.getD] at hk), fun t o hb => (by cases hb), fun t _ => rfl, fun k _ hk => (by simp [Array.getD] at hk)⟩
  · exact h.elim
theorem awp_regionPK (ks nf m : Nat) {id : Nat} {l : List Oper} {Q : Exit → Fr → Hp → Prop} (hm : P.follows .mixedOrders = true) (hB : pivOk l.toArray nf m = true) (hN : dstsOk N l = true)
    (h : opsP P N nf m (keepQ ks Q .normal) l A H) : AWP P N (.region id l.toArray true) Q A H :=
  awp_weak (awp_regionP nf m hm hB hN h) keepQ_weak

/-- The first m operations in any order, then the rest in its own. -/
def preOk (ops : Array Oper) (m : Nat) : Bool :=
  anyOk ops && ops.toList.all (fun o => o.guard.isNone) && decide (m ≤ ops.size) &&
  (List.range ops.size).all fun j => decide (j < m) || (List.range j).all fun i => preB ops ops.size j i
theorem preOk_ok {ops : Array Oper} {m : Nat} (h : preOk ops m = true) : anyOk ops = true ∧ (∀ (k : Nat) (o : Oper), ops[k]? = some o → o.guard = none) ∧ m ≤ ops.size ∧
    (∀ j i, j < ops.size → m ≤ j → i < j → preB ops ops.size j i = true) := by
  simp only [preOk, Bool.and_eq_true, decide_eq_true_eq, List.all_eq_true, List.mem_range, Bool.or_eq_true] at h
  obtain ⟨⟨⟨h1, h2⟩, h4⟩, h6⟩ := h
  refine ⟨h1, fun k o ho => ?_, h4, fun j i hj hm hi => ?_⟩
  · have := h2 o (by rw [Array.mem_toList_iff]; exact Array.mem_of_getElem? ho)
    simpa using this
  · rcases h6 j hj with h | h
    · omega
    · exact h i hi

theorem pre_sound {ops : Array Oper} {m : Nat} {Q' : Exit → Act → World → Prop} {Qf : Fr → Hp → Prop} {A0 An : Fr} {rs : List AV} {w0 : World} {S : Rg} (hS : Good N w0 S) (hok : preOk ops m = true)
    (hN : ∀ (j t : Nat) (o : Oper), ops[j]? = some o → o.dst = some t → t < N.n)
    (hl1 : rs.length = m)
    (hstep : ∀ j o, j < m → ops[j]? = some o → ∃ Aj : Fr, (∀ t, Aj.get t = valL (ops.toList.take m) rs A0.get j t) ∧ OpOK P N o Aj H (rs.getD j .dead))
    (hAn : ∀ t, An.get t = valL (ops.toList.take m) rs A0.get m t)
    (hrest : opsVC P N (ops.toList.map (·.dst)) Qf (ops.toList.drop m) An H)
    (hQ : ∀ (A : Fr) (H : Hp) (a : Act) (w : World) (L : Loc), Sim N.n w0 S w a.tmps L A H → a.defers = [] → Qf A H → Q' .normal a w) :
    ∀ (fuel : Nat) (listed : Array Bool) (s : List Nat) (a : Act) (w : World), listed.size = ops.size → s.Nodup → (∀ k, k ∈ s ↔ listed.getD k false = true) → s.length + fuel = ops.size →
      (∀ (k : Nat) (o : Oper) (e : Edge), listed.getD k false = true → ops[k]? = some o → e ∈ o.after → Region.binds .any e = true → listed.getD e.on false = true) → a.defers = [] →
      ((∃ (A : Fr) (L : Loc), Sim N.n w0 S w a.tmps L A H ∧ (∀ k, m ≤ k → ¬ listed.getD k false = true) ∧
          (∀ (k t : Nat) (o : Oper), ops[k]? = some o → listed.getD k false = true → o.dst = some t → A.get t = some (rs.getD k .dead)) ∧
          (∀ t, (∀ (k : Nat) (o : Oper), ops[k]? = some o → listed.getD k false = true → o.dst ≠ some t) → A.get t = A0.get t)) ∨
       ∃ (j : Nat) (A : Fr) (H3 : Hp) (L : Loc), m ≤ j ∧ j ≤ ops.size ∧ (∀ k, listed.getD k false = true ↔ k < j) ∧ Sim N.n w0 S w a.tmps L A H3 ∧ opsVC P N (ops.toList.map (·.dst)) Qf (ops.toList.drop j) A H3) →
      wpAny P .any ops Q' fuel listed a w := by
  obtain ⟨hany, hguard, hm, hL⟩ := preOk_ok hok
  obtain ⟨hinj, hback, hdep⟩ := anyOk_ok hany
  have tl : ∀ j : Nat, ops.toList[j]? = ops[j]? := fun j => Array.getElem?_toList
  have tk : ∀ n j o, (ops.toList.take n)[j]? = some o → j < n ∧ ops[j]? = some o := fun n j o h => by
    rw [List.getElem?_take] at h
    split at h
    · rename_i hlt; exact ⟨hlt, by rw [← tl]; exact h⟩
    · cases h
  have tk' : ∀ n j o, j < n → ops[j]? = some o → (ops.toList.take n)[j]? = some o := fun n j o h ho => by
    rw [List.getElem?_take, if_pos h, tl]; exact ho
  have len1 : (ops.toList.take m).length = m := by simp; omega
  have hit1 : ∀ j k t o, k < j → j ≤ m → ops[k]? = some o → o.dst = some t → valL (ops.toList.take m) rs A0.get j t = some (rs.getD k .dead) := fun j k t o hk hj ho hd =>
    valL_hit _ rs _ j t k o (by rw [len1]; exact hl1) hk (tk' m k o (by omega) ho) hd fun k' o' ho' hd' => hinj k' k t o' o (tk m k' o' ho').2 ho hd' hd
  have miss1 : ∀ j t, (∀ k o, k < j → ops[k]? = some o → o.dst ≠ some t) → valL (ops.toList.take m) rs A0.get j t = A0.get t := fun j t h =>
    valL_miss _ rs _ j t fun k o hk ho => h k o hk (tk m k o ho).2
  -- once the first m are through, the frame is the walk's
  have fin : ∀ (listed : Array Bool) (A : Fr), (∀ k, k < m → listed.getD k false = true) → (∀ k, m ≤ k → ¬ listed.getD k false = true) →
      (∀ (k t : Nat) (o : Oper), ops[k]? = some o → listed.getD k false = true → o.dst = some t → A.get t = some (rs.getD k .dead)) →
      (∀ t, (∀ (k : Nat) (o : Oper), ops[k]? = some o → listed.getD k false = true → o.dst ≠ some t) → A.get t = A0.get t) → ∀ t, A.get t = An.get t := by
    intro listed A h1 h2 h3 h4 t
    rw [hAn]
    by_cases hw : ∃ (k : Nat) (o : Oper), k < m ∧ ops[k]? = some o ∧ o.dst = some t
    · obtain ⟨k, o, hk, ho, hdt⟩ := hw
      rw [hit1 m k t o hk (Nat.le_refl _) ho hdt, h3 k t o ho (h1 k hk) hdt]
    · rw [miss1 m t fun k o hk ho hdt => hw ⟨k, o, hk, ho, hdt⟩]
      refine h4 t fun k o ho hl hdt => ?_
      rcases Nat.lt_or_ge k m with h | h
      · exact hw ⟨k, o, h, ho, hdt⟩
      · exact h2 k h hl
  intro fuel
  induction fuel with
  | zero =>
    intro listed s a w hsz hn hs hc hcl hd hst
    have hlt : ∀ k ∈ s, k < ops.size := fun k hk => by
      have := (hs k).1 hk
      rcases Nat.lt_or_ge k listed.size with h | h
      · omega
      · simp [Array.getD, show ¬ k < listed.size by omega] at this
    have hall : ∀ k, k < ops.size → listed.getD k false = true := fun k hk => (hs k).1 ((Go.Plain.nodup_iff_all (by omega) hlt).1 hn k hk)
    refine ⟨?_, ?_⟩
    · refine List.eq_nil_iff_forall_not_mem.2 fun j hj => ?_
      obtain ⟨h1, o, ho, _⟩ := mem_ready.1 hj
      have hj' : j < ops.size := (Array.getElem?_eq_some_iff.1 ho).1
      have := hall j hj'
      simp [Array.getD, hsz, hj'] at h1 this
      rw [h1] at this; cases this
    · rcases hst with ⟨A, L, sim, h2, h3, h4⟩ | ⟨j, A, H3, L, hj1, hj2, hj3, sim, hv⟩
      · have hsize : ops.size = m := by
          rcases Nat.lt_or_ge m ops.size with h | h
          · exact absurd (hall m h) (h2 m (Nat.le_refl _))
          · omega
        rw [List.drop_eq_nil_of_le (by simp; omega)] at hrest
        exact hQ _ _ a w L (sim.sub (A' := An) fun t x hx => by rw [fin listed A (fun k hk => hall k (by omega)) h2 h3 h4 t]; exact hx) hd hrest
      · have : j = ops.size := by
          rcases Nat.lt_or_ge j ops.size with h | h
          · have := (hj3 j).1 (hall j h); omega
          · omega
        rw [List.drop_eq_nil_of_le (by simp; omega)] at hv
        exact hQ A H3 a w L sim hd hv
  | succ fuel ih =>
    intro listed s a w hsz hn hs hc hcl hd hst
    have ld : ∀ k, k < ops.size → (listed.getD k true = false ↔ ¬ listed.getD k false = true) := by
      intro k hk
      simp [Array.getD, hsz, hk]
    have hex : ∃ k, k < ops.size ∧ ¬ listed.getD k false = true := by
      refine Classical.byContradiction fun hno => ?_
      have : ∀ x ∈ List.range ops.size, x ∈ s := fun x hx => (hs x).2 (Classical.byContradiction fun h => hno ⟨x, by simpa using hx, h⟩)
      have := Go.Plain.nodup_le s (List.range ops.size) List.nodup_range this
      simp at this; omega
    refine ⟨fun h => absurd h (ready_ne hsz hback hex), fun i hi => ?_⟩
    obtain ⟨hun0, oi, hoi, hall⟩ := mem_ready.1 hi
    have hi' : i < ops.size := (Array.getElem?_eq_some_iff.1 hoi).1
    have hun := (ld i hi').1 hun0
    have g1 : ∀ k, (listed.setIfInBounds i true).getD k false = true ↔ (k = i ∨ listed.getD k false = true) := by
      intro k
      by_cases hk : k = i
      · subst hk; simp [Array.getD, hsz, hi']
      · rw [getD_set_ne false (Ne.symm hk)]; simp [hk]
    have next := fun (a' : Act) (w' : World) (hd' : a'.defers = []) => ih (listed.setIfInBounds i true) (i :: s) a' w' (by simp [hsz]) (List.nodup_cons.2 ⟨fun h => hun ((hs i).1 h), hn⟩) (fun k => by rw [g1, List.mem_cons, hs]) (by simp only [List.length_cons]; omega)
      (fun k o e hk ho he hb => by
        rw [g1] at hk ⊢
        rcases hk with rfl | hk
        · rw [hoi] at ho; simp only [Option.some.injEq] at ho; subst ho
          exact .inr (hall e he hb)
        · exact .inr (hcl k o e hk ho he hb)) hd'
    have hNi := fun t h => hN i t oi hoi h
    unfold wpOp
    simp only [hoi]
    rw [if_pos (by simp [Region.wanted, hguard i oi hoi])]
    left
    have right : ∀ (A : Fr) (H3 : Hp) (L : Loc), m ≤ i → (∀ k, listed.getD k false = true ↔ k < i) → Sim N.n w0 S w a.tmps L A H3 → opsVC P N (ops.toList.map (·.dst)) Qf (ops.toList.drop i) A H3 → oi.wp P a w (wpAny P .any ops Q' fuel (listed.setIfInBounds i true)) Q' := by
      intro A H3 L hmi hj3 sim hv
      have hd1 : ops.toList.drop i = oi :: ops.toList.drop (i + 1) := by
        rw [List.drop_eq_getElem_cons (by simpa using hi')]
        congr 1
        have := Array.getElem?_eq_some_iff.1 hoi
        obtain ⟨_, e⟩ := this
        simpa using e
      rw [hd1] at hv
      simp only [opsVC, hguard i oi hoi] at hv
      refine opVC_sound hv w0 S hS w a L sim _ Q' ?_
      intro u r L' A' H4 w' s' hr hk
      refine next _ _ (by rw [put_defers]; exact hd) (.inr ⟨i + 1, _, H4, L', by omega, by omega, fun k => ?_, s'.putd hNi hr, hk⟩)
      rw [g1, hj3]; omega
    rcases hst with ⟨A, L, sim, hhi, hlow, hrst⟩ | ⟨j, A, H3, L, hj1, hj2, hj3, sim, hv⟩
    case inr =>
      have hij : i = j := by
        have h1 : ¬ i < j := fun h => hun ((hj3 i).2 h)
        rcases Nat.lt_or_ge j i with h | h
        · have := pre_ready hcl hoi hall (hL i j hi' (by omega) h)
          have := (hj3 j).1 this
          omega
        · omega
      subst hij
      exact right A H3 L hj1 hj3 sim hv
    rcases Nat.lt_or_ge i m with him | him
    · obtain ⟨Ai, hAi, hop⟩ := hstep i oi him hoi
      refine hop A (fun x hx => ?_) w0 S hS w a L sim _ Q' ?_
      · cases x with
        | tmp t =>
          have ht : t ∈ oi.looksAt ops := List.mem_append_left _ (List.mem_filterMap.2 ⟨.tmp t, by simpa using hx, rfl⟩)
          show A.get t = Ai.get t
          rw [hAi]
          by_cases hx : ∃ (k : Nat) (o : Oper), ops[k]? = some o ∧ o.dst = some t
          · obtain ⟨k, o, ho, hdt⟩ := hx
            have free : ¬ listed.getD k false = true → i ≤ k → A.get t = valL (ops.toList.take m) rs A0.get i t := fun h1 h2 => by
              rw [hrst t fun k' o' ho' hl' e => h1 (hinj k' k t o' o ho' ho e hdt ▸ hl'), miss1 i t fun k' o' hk' ho' e => by have := hinj k' k t o' o ho' ho e hdt; omega]
            by_cases hki : k = i
            · subst hki; exact free hun (Nat.le_refl _)
            · rcases hdep k i t o oi hki ho hoi hdt ht with ⟨e, he, hb, rfl⟩ | ⟨e, he, hb, rfl⟩
              · have hk := hback i oi e hoi he hb
                rw [hlow e.on t o ho (hall e he hb) hdt, hit1 i e.on t o hk (by omega) ho hdt]
              · have h2 := hback k o e ho he hb
                exact free (fun h => hun (hcl k o e h ho he hb)) (by omega)
          · rw [hrst t fun k o ho _ e => hx ⟨k, o, ho, e⟩, miss1 i t fun k o _ ho e => hx ⟨k, o, ho, e⟩]
        | const v => rfl
        | global g => rfl
        | func f => rfl
      · rintro u rr L' A' H4 w' s' hr ⟨rfl, rfl, rfl⟩
        refine next _ _ (by rw [put_defers]; exact hd) (.inl ⟨_, L', s'.putd hNi hr, fun k hk hl => ?_, fun k t o ho hl hdt => ?_, fun t ht => ?_⟩)
        · rcases (g1 k).1 hl with h | h
          · omega
          · exact hhi k hk h
        · rw [putd_get]
          by_cases hki : k = i
          · subst hki
            rw [hoi] at ho; simp only [Option.some.injEq] at ho; subst ho
            rw [if_pos hdt]
          · rw [if_neg fun e => hki (hinj k i t o oi ho hoi hdt e)]
            exact hlow k t o ho (((g1 k).1 hl).resolve_left hki) hdt
        · rw [putd_get, if_neg (ht i oi hoi ((g1 i).2 (.inl rfl)))]
          exact hrst t fun k o ho hk => ht k o ho ((g1 k).2 (.inr hk))
    · have hlw : ∀ k, k < i → listed.getD k false = true := fun k hk => pre_ready hcl hoi hall (hL i k hi' him hk)
      have him1 : i = m := by
        rcases Nat.lt_or_ge m i with h | h
        · exact absurd (hlw m h) (hhi m (Nat.le_refl _))
        · omega
      subst him1
      refine right An H L him (fun k => ⟨fun h => ?_, hlw k⟩) (sim.sub fun t x hx => by rw [fin listed A hlw hhi hlow hrst t]; exact hx) hrest
      rcases Nat.lt_or_ge k i with h2 | h2
      · exact h2
      · exact absurd h (hhi k h2)

variable (P N) in
def opsE (m : Nat) (Q : Fr → Hp → Prop) (l : List Oper) (A : Fr) (H : Hp) : Prop :=
  opsQ P N (l.map (·.dst)) (fun A1 => opsVC P N (l.map (·.dst)) Q (l.drop m) A1 H) (l.take m) A H
theorem awp_regionE (m : Nat) {id : Nat} {l : List Oper} {Q : Exit → Fr → Hp → Prop} (hm : P.follows .mixedOrders = true) (hB : preOk l.toArray m = true) (hN : dstsOk N l = true)
    (h : opsE P N m (Q .normal) l A H) : AWP P N (.region id l.toArray true) Q A H := by
  have hmem := dstsOk_mem hN
  obtain ⟨hany, hguard, hmm, hL⟩ := preOk_ok hB
  have hml : m ≤ l.length := by simpa using hmm
  obtain ⟨rs, hlex⟩ := lex_of_opsQ _ A h
  obtain ⟨k1, k2, An, k3, k4⟩ := LexL_get (l.take m) A rs A.get (fun _ => rfl) hlex
  have lm : (l.take m).length = m := by simp; omega
  rw [lm] at k3 k1
  have gno : ∀ (k : Nat) (o : Oper), l[k]? = some o → o.guard = none := fun k o ho => hguard k o (by simpa using ho)
  intro w0 S hS w a L s hd
  have s1 : Sim N.n w0 S w.drew a.tmps L A H := s.drew
  refine wp_region_any hm ?_
  refine pre_sound (ops := l.toArray) (A0 := A) (An := An) (rs := rs) (H := H) (m := m) (Qf := Q .normal) hS hB (fun j t o ho hdt => hmem o (List.mem_of_getElem? (by simpa using ho)) t hdt) k1 ?_ k3 k4 ?_ _ _ [] a _ (by simp) List.nodup_nil ?_ (by simp) ?_ hd (.inl ⟨A, L, s1, ?_, ?_, ?_⟩)
  · intro j o' hj ho'
    obtain ⟨Aj, h1, h2⟩ := k2 j o' (by rw [List.getElem?_take, if_pos hj]; simpa using ho')
    unfold StepOK at h2
    rw [gno j o' (by simpa using ho')] at h2
    exact ⟨Aj, h1, h2⟩
  · intro A' H3 a' w' L' s' hd' hq
    exact ⟨L', A', H3, s', hd', hq⟩
  · intro k; simp [Array.getD]
  · intro k o e hk; simp [Array.getD] at hk
  · intro k _ hk; simp [Array.getD] at hk
  · intro k t o _ hk; simp [Array.getD] at hk
  · intro t _; rfl
theorem awp_regionEK (ks m : Nat) {id : Nat} {l : List Oper} {Q : Exit → Fr → Hp → Prop} (hm : P.follows .mixedOrders = true) (hB : preOk l.toArray m = true) (hN : dstsOk N l = true)
    (h : opsE P N m (keepQ ks Q .normal) l A H) : AWP P N (.region id l.toArray true) Q A H :=
  awp_weak (awp_regionE m hm hB hN h) keepQ_weak

/- rows of rows handed back -/
theorem callQII {f : FuncId} {args args' : List AV} {d : Nat} {xss : List (List Int)} {pn : Nat → Bool} {K : AV → Prop} (hf : FitsL H (fun _ => True) args args') (h : AC P f args' Hp.emp pn (retII d xss)) (hd : d < 2097152) (hx : xss.length ≤ 2097152) (hK : K (intss xss)) : CallQ P f args H K :=
  ⟨intss xss, args', pn, _, h, trivial, fun r H' hp => by obtain ⟨rfl, rfl⟩ := hp; exact fits_RR (HasRR.bare hd hx) trivial (fun _ => trivial) rfl,
    .inl ⟨hf, fun r H' hp => by
      obtain ⟨rfl, rfl⟩ := hp
      refine ⟨trivial, fun h B hB => ?_⟩
      rcases RR_cases hB with ⟨rfl, rfl⟩ | ⟨i, hi, rfl, rfl⟩
      · intro i hi; unfold mixF; split <;> trivial
      · intro i hi; trivial⟩, hK⟩
theorem cQII {f : FuncId} {args args' : List AV} {pn : Nat → Bool} {d : Nat} {xss : List (List Int)} {K : AV → Prop} (hfit : FitsL H (fun _ => True) args args' := by (repeat' (first | exact FitsL.nil | exact Fits.refl _ | exact fits_I rfl trivial rfl rfl | exact fits_P rfl trivial rfl (by decide) | exact fits_T (by omega) (by omega) | exact fits_ref1 rfl trivial (by decide) trivial | exact FitsL.refl _ | refine fits_clo1 ?_ | refine FitsL.cons ?_ ?_ | refine Fits.clo (fun i _ => ?_) | exact fits_N rfl trivial | exact fits_I (by simp (disch := omega) only [go_sem, add_lit, Nat.reduceEqDiff, ↓reduceIte]) trivial rfl rfl | exact fits_pz (by (repeat' (first | exact HasRR.base (by omega) (by first | omega | assumption | assumption) | exact HasRR.bare (by omega) (by first | omega | assumption) | refine HasRR.upd (by decide) (by decide) ?_ | refine HasRR.add (by decide) (by decide) (by first | omega | assumption) (by decide) ?_)); first | done | fail) trivial (fun _ => trivial) | exact fits_RR (by (repeat' (first | exact HasRR.base (by omega) (by first | omega | assumption | assumption) | exact HasRR.bare (by omega) (by first | omega | assumption) | refine HasRR.upd (by decide) (by decide) ?_ | refine HasRR.add (by decide) (by decide) (by first | omega | assumption) (by decide) ?_)); first | done | fail) trivial (fun _ => trivial) rfl)); first | done | fail) (hac : AC P f args' Hp.emp pn (retII d xss)) (hK : K (intss xss)) (hd : d < 2097152 := by omega) (hx : xss.length ≤ 2097152 := by first | omega | assumption) : CallQ P f args H K := callQII hfit hac hd hx hK
theorem cFII {f : FuncId} {args args' : List AV} {pn : Nat → Bool} {d : Nat} {xss : List (List Int)} {K : AV → Fr → Hp → Prop} (hfit : FitsL H (fun _ => True) args args' := by (repeat' (first | exact FitsL.nil | exact Fits.refl _ | exact fits_I rfl trivial rfl rfl | exact fits_P rfl trivial rfl (by decide) | exact fits_T (by omega) (by omega) | exact fits_ref1 rfl trivial (by decide) trivial | exact FitsL.refl _ | refine fits_clo1 ?_ | refine FitsL.cons ?_ ?_ | refine Fits.clo (fun i _ => ?_) | exact fits_N rfl trivial | exact fits_I (by simp (disch := omega) only [go_sem, add_lit, Nat.reduceEqDiff, ↓reduceIte]) trivial rfl rfl | exact fits_pz (by (repeat' (first | exact HasRR.base (by omega) (by first | omega | assumption | assumption) | exact HasRR.bare (by omega) (by first | omega | assumption) | refine HasRR.upd (by decide) (by decide) ?_ | refine HasRR.add (by decide) (by decide) (by first | omega | assumption) (by decide) ?_)); first | done | fail) trivial (fun _ => trivial) | exact fits_RR (by (repeat' (first | exact HasRR.base (by omega) (by first | omega | assumption | assumption) | exact HasRR.bare (by omega) (by first | omega | assumption) | refine HasRR.upd (by decide) (by decide) ?_ | refine HasRR.add (by decide) (by decide) (by first | omega | assumption) (by decide) ?_)); first | done | fail) trivial (fun _ => trivial) rfl)); first | done | fail) (hac : AC P f args' Hp.emp pn (retII d xss)) (hK : K (intss xss) A H) (hd : d < 2097152 := by omega) (hx : xss.length ≤ 2097152 := by first | omega | assumption) : CallG P N f args A H K := callF (callQII hfit hac hd hx hK)
theorem cII {f : FuncId} {args args' : List AV} {pn : Nat → Bool} {d : Nat} {xss : List (List Int)} {K : AV → Fr → Hp → Prop} (hfree : H d = none := by first | rfl | (simp (disch := omega) only [go_sem, add_lit, Nat.reduceEqDiff, ↓reduceIte]; first | done | rfl | fail)) (hfit : FitsL H (fun _ => True) args args' := by (repeat' (first | exact FitsL.nil | exact Fits.refl _ | exact fits_I rfl trivial rfl rfl | exact fits_P rfl trivial rfl (by decide) | exact fits_T (by omega) (by omega) | exact fits_ref1 rfl trivial (by decide) trivial | exact FitsL.refl _ | refine fits_clo1 ?_ | refine FitsL.cons ?_ ?_ | refine Fits.clo (fun i _ => ?_) | exact fits_N rfl trivial | exact fits_I (by simp (disch := omega) only [go_sem, add_lit, Nat.reduceEqDiff, ↓reduceIte]) trivial rfl rfl | exact fits_pz (by (repeat' (first | exact HasRR.base (by omega) (by first | omega | assumption | assumption) | exact HasRR.bare (by omega) (by first | omega | assumption) | refine HasRR.upd (by decide) (by decide) ?_ | refine HasRR.add (by decide) (by decide) (by first | omega | assumption) (by decide) ?_)); first | done | fail) trivial (fun _ => trivial) | exact fits_RR (by (repeat' (first | exact HasRR.base (by omega) (by first | omega | assumption | assumption) | exact HasRR.bare (by omega) (by first | omega | assumption) | refine HasRR.upd (by decide) (by decide) ?_ | refine HasRR.add (by decide) (by decide) (by first | omega | assumption) (by decide) ?_)); first | done | fail) trivial (fun _ => trivial) rfl)); first | done | fail) (hac : AC P f args' Hp.emp pn (retII d xss)) (hK : K (.own d 0 1 xss.length) (A.scrub (famB d)) ((RR d xss).add (H.scrub (famB d)))) (hd : d < 2097152 := by omega) (hx : xss.length ≤ 2097152 := by first | omega | assumption) (hpn : ∀ h, famB d h = true → N.pn h = false := by exact fun _ _ => rfl) : CallG P N f args A H K := callIIf hfree hfit hac hd hx hpn hK

/-- A call whose result is frozen and may hold parts of its arguments: what was handed over stays frozen for good; of our blocks we keep H'. -/
theorem callRk (H' : Hp) {f : FuncId} {args args' : List AV} {a : AV} {pn : Nat → Bool} {K : AV → Fr → Hp → Prop} (hle : Hp.le H' H) (hfit : FitsL H (fun h => H' h = none) args args') (hac : AC P f args' Hp.emp pn (retV a)) (hpl : a.scrub (fun _ => true) = a)
    (hK : K a A H') : CallG P N f args A H K := by
  have h := callR (N := N) (A := A) (H := H') rfl hac hpl hK
  refine ⟨h.1, fun w0 S hS w tm L s vs hvs => ?_⟩
  have ok : ∀ b, okb S H L b → okb S H' L b := fun b hb => ⟨hb.1, fun h q hn hq => hb.2 h q (fun e => by
    cases e2 : H' h with
    | none => exact hn e2
    | some B => rw [hle h B e2] at e; simp at e) hq⟩
  have nn : ∀ h, H' h ≠ none → H h ≠ none := fun h hn e => by
    cases e2 : H' h with
    | none => exact hn e2
    | some B => rw [hle h B e2] at e; simp at e
  have s' : Sim N.n w0 S w tm L A H' := by
    refine ⟨s.keep, s.size, fun i a h => Rd.mono (fun b _ hb => ok b hb) (s.slot i a h), fun h B hB => ?_, fun h q hn => s.own h q (nn h hn), fun h g q r hn hm => s.inj h g q r (nn h hn) (nn g hm), s.pin⟩
    have := BlkOk.step (w := w) (w' := w) (wh := w) (wh' := w) (ok := okb S H L) (ok' := okb S H' L) (L := L) (L' := L) (p := fun _ => false) (fun b _ hb => ⟨ok b hb, rfl⟩) (Shape.refl w) (fun _ _ => rfl) (fun _ _ => rfl) (s.blk h B (hle h B hB))
    rwa [Blk.scrub_none] at this
  refine h.2 w0 S hS w tm L s' vs ?_
  obtain ⟨k1, k2⟩ := hfit.args s hvs
  exact ⟨k1, fun i c hc => let ⟨u, h1, h2⟩ := k2 i c hc; ⟨u, h1, Rd.mono (fun b _ hb => ⟨hb.1, fun h q hn hq => hb.2 h q (nn h hn) hn hq⟩) h2⟩⟩
theorem Sub.deaden (i : Nat) : Sub N A H ((i, .dead) :: A) H := fun w0 S hS w tm L s => ⟨L, s.keep, s.size, fun j a h => by
  simp only [Fr.get] at h
  split at h
  · simp only [Option.some.injEq] at h; subst h; trivial
  · exact s.slot j a h, s.blk, s.own, s.inj, s.pin⟩

theorem end_retDV {fn : Func} {t u : Tmp} {x : Value} {b : AV} (hr : fn.results.toList = [.tmp t, .tmp u]) (htu : t ≠ u) (hB : A.get u = some (.v x)) (e : .v x = b) : endQ P N fn (retV (.tup 2 (vecF [.dead, b]))) .ret A H :=
  ⟨(t, .dead) :: A, Hp.emp, (Sub.deaden t).trans (Sub.kill N _ H), by
    rw [hr]; subst e
    have h1 : Fr.get ((t, .dead) :: A) t = some .dead := by simp [Fr.get]
    have h2 : Fr.get ((t, .dead) :: A) u = some (.v x) := by simp only [Fr.get]; rw [if_neg htu]; exact hB
    simp only [resVC, h1, h2]; exact ⟨rfl, rfl⟩⟩
theorem end_retII_nil {fn : Func} {t : Tmp} {d : Nat} {xss : List (List Int)} (hr : fn.results.toList = [.tmp t]) (hA : A.get t = some (.v (.slice none 0 0))) (e : [] = xss) (hpn : N.pn = fun _ => false) : endQ P N fn (retII d xss) .ret A H := by
  subst e
  have h1 := Sub.nil (N := N) (A := A) (H := Hp.emp) d 1 (mixF d [] 0) hA (by rw [hpn])
  have h2 : Sub N A H A Hp.emp := Sub.mk (fun _ _ h => h) (fun h B hB => by simp [Hp.emp] at hB)
  refine ⟨_, _, h2.trans h1, ?_⟩
  rw [hr]
  simp only [resVC, Fr.get, if_true, withA]
  refine ⟨rfl, ?_⟩
  funext h
  by_cases hd : h = d
  · subst hd
    have : (RR h []) h = some (.cells 0 (mixF h [] 0)) := PR_self h [] 0 0
    rw [this]
    simp only [Hp.scrub, Hp.upd, if_true, Option.map_some, Blk.scrub]
    rfl
  · unfold RR PR
    rw [if_neg hd, if_neg (by simp)]
    simp [Hp.scrub, Hp.upd, hd, Hp.emp]
/-- A family of no rows. -/
theorem PR_nil_le {d : Nat} {xss : List (List Int)} {H' : Hp} (hl : Hp.le H' H) (hd : H' d = none) : Hp.le ((PR d xss 0 0).add H') (H.upd d (.cells 0 (mixF d xss 0))) := by
  intro g B hB
  unfold Hp.add at hB
  unfold Hp.upd
  by_cases hg : g = d
  · subst hg
    rw [PR_self] at hB
    simpa using hB
  · have h0 : (PR d xss 0 0) g = none := by
      unfold PR; rw [if_neg hg, if_neg (by simp)]
    rw [h0] at hB
    rw [if_neg hg]; exact hl g B hB

-- 'out = append(out, row)': the row of our own becomes the family's next
set_option linter.unusedVariables false in
theorem Sub.absorbA {A' : Fr} {d e b k : Nat} {xss : List (List Int)} {H0 : Hp} {B2 : Blk} {z : Nat → AV} (hd : d < 2097152) (he : e < 2097152) (hb : b < 2097152) (hde : e ≠ d) (_hbd : b ≠ d) (hbe : b ≠ e) (hk : k < 1048576) (hpn : N.pn = fun _ => false)
    (hA : Fr.sub A A') (hl : Fr.low A') (hH0 : ∀ g B, H0 g = some B → g ≠ e ∧ g ≠ b ∧ g ≠ d ∧ g < 2097152 ∧ B.low) :
    Sub N A (((((PR d xss k k).add H0).upd e (.cells (xss.getD k []).length (cM iv 0 (xss.getD k [])))).upd b B2).upd d (.cells (k + 1) (apF k (scF (fun x => x == d) (mixF d xss k)) (setF z 0 (.own e 0 1 (xss.getD k []).length))))) A' ((PR d xss (k + 1) (k + 1)).add H0) := by
  refine Sub.absorb (d := d) (e := e) (k := k) (n := k + 1) (xss := xss) (H' := H0) (f := apF k (scF (fun x => x == d) (mixF d xss k)) (setF z 0 (.own e 0 1 (xss.getD k []).length))) hd he hde (by omega) (by omega) hpn (by unfold Hp.upd; rw [if_pos rfl]) (fun i hi => ?_) (by unfold Hp.upd; rw [if_neg hde, if_neg (Ne.symm hbe), if_pos rfl]) (fun i hi => ?_) hA hl (fun g B hB => ?_)
  · unfold apF
    by_cases hik : i < k
    · rw [if_pos hik, if_neg (by omega)]
      exact mixF_plain_scrub (fun j hj => by
        have := sub_ge d j
        rw [FB_eq] at this
        simp; omega) i
    · have : i = k := by omega
      subst this
      rw [if_neg (by omega), if_pos rfl]
      simp [setF]
  · have := sub_ge d i
    rw [FB_eq] at this
    simp only [Hp.upd]
    rw [if_neg (by omega), if_neg (by omega), if_neg (by omega)]
    exact add_sub (by rw [FB_eq]; omega) hi (by rw [FB_eq]; omega)
  · obtain ⟨h1, h2, h3, h4, h5⟩ := hH0 g B hB
    refine ⟨?_, h1, h3, h4, h5⟩
    simp only [Hp.upd]
    rw [if_neg h3, if_neg h2, if_neg h1, add_low (by rw [FB_eq]; omega) h3]
    exact hB
theorem low_vecF {l : List AV} (h : ∀ a ∈ l, a.low) (i : Nat) : (vecF l i).low := by
  unfold vecF
  rw [List.getD_eq_getElem?_getD]
  cases hi : l[i]? with
  | none => trivial
  | some a => exact h a (List.mem_of_getElem? hi)
theorem low_upd {H0 : Hp} {h : Nat} {B : Blk} {P : Nat → Blk → Prop} (h1 : P h B) (h2 : ∀ g C, H0 g = some C → P g C) : ∀ g C, (H0.upd h B) g = some C → P g C := by
  intro g C hC
  simp only [Hp.upd] at hC
  split at hC
  · rename_i e; subst e; simp only [Option.some.injEq] at hC; subst hC; exact h1
  · exact h2 g C hC
theorem low_emp {P : Nat → Blk → Prop} : ∀ g C, Hp.emp g = some C → P g C := fun g C h => by simp [Hp.emp] at h
end
attribute [go_sem] opsP opsE pivVC sameG List.take_succ_cons List.take_zero List.drop_succ_cons List.take_nil
end Go.Av

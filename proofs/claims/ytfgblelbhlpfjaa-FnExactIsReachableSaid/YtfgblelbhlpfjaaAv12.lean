/- Regions as one proposition; contracts; entry and end of a function; what may be forgotten, frozen, renamed. -/
import Derived.Test.YtfgblelbhlpfjaaAv11
namespace Go.Av

section
variable (P : Program) (N : Cx)

/-- What a list of operations asks: `ds` the slots of the whole region's operations. -/
def opsVC (ds : List (Option Tmp)) (Q : Fr → Hp → Prop) : List Oper → Fr → Hp → Prop
  | [], A, H => Q A H
  | o :: rest, A, H =>
    match o.guard with
    | none => opVC P N (o.dst.getD 0) o.op A H fun r A H => opsVC ds Q rest (putd o.dst r A) H
    | some (j, want) =>
      match ds.getD j none with
      | some t => withA (A.get t) fun g => match g with
        | .v (.bool b) =>
          Br b (if want then opVC P N (o.dst.getD 0) o.op ((t, .v (.bool true)) :: A) H fun r A H => opsVC ds Q rest (putd o.dst r A) H else opsVC ds Q rest (putd o.dst (.v (.tuple #[])) ((t, .v (.bool true)) :: A)) H)
               (if want then opsVC ds Q rest (putd o.dst (.v (.tuple #[])) ((t, .v (.bool false)) :: A)) H else opVC P N (o.dst.getD 0) o.op ((t, .v (.bool false)) :: A) H fun r A H => opsVC ds Q rest (putd o.dst r A) H)
        | .v (.tuple _) => opsVC ds Q rest (putd o.dst (.v (.tuple #[])) A) H
        | _ => False
      | none => False

def dstsOk : List Oper → Bool
  | [] => true
  | o :: r => (match o.dst with | some t => decide (t < N.n) | none => true) && dstsOk r

end

section
variable {P : Program} {N : Cx} {A : Fr} {H : Hp}

theorem dstsOk_mem {l : List Oper} (h : dstsOk N l = true) : ∀ o ∈ l, ∀ t, o.dst = some t → t < N.n := by
  induction l with
  | nil => intro o ho; cases ho
  | cons a r ih =>
    simp only [dstsOk, Bool.and_eq_true] at h
    intro o ho t ht
    cases ho with
    | head => rw [ht] at h; simpa using h.1
    | tail _ hr => exact ih h.2 o hr t ht

theorem OpV_sub {o : Oper} {K : AV → Fr → Hp → Prop} {A' : Fr} (h : OpV P N o A' H K) (hs : ∀ w0 S w tm L, Sim N.n w0 S w tm L A H → Sim N.n w0 S w tm L A' H) : OpV P N o A H K :=
  fun w0 S hS w a L s next Q' hn => h w0 S hS w a L (hs w0 S w a.tmps L s) next Q' hn

theorem AOps_sub {ops : Array Oper} {l : List Oper} {Q : Fr → Hp → Prop} {A' : Fr} (h : AOps P N ops l Q A' H) (hs : ∀ w0 S w tm L, Sim N.n w0 S w tm L A H → Sim N.n w0 S w tm L A' H) : AOps P N ops l Q A H :=
  fun w0 S hS w a L s hd => h w0 S hS w a L (hs w0 S w a.tmps L s) hd

/-- What a slot holds may be said once more. -/
theorem Sim.again {w0 : World} {S : Rg} {w : World} {tm : Array Value} {L : Loc} (s : Sim N.n w0 S w tm L A H) {t : Tmp} {r : AV} (h : A.get t = some r) : Sim N.n w0 S w tm L ((t, r) :: A) H := by
  refine s.sub fun i a ha => ?_
  simp only [Fr.get] at ha
  split at ha
  · rename_i e; subst e; rw [h]; exact ha
  · exact ha

theorem opsVC_sound {ops : Array Oper} {Q : Fr → Hp → Prop} : ∀ (l : List Oper) (A : Fr) (H : Hp), (∀ o ∈ l, ∀ t, o.dst = some t → t < N.n) → (∀ j t, (ops.toList.map (·.dst)).getD j none = some t → t < N.n) →
    opsVC P N (ops.toList.map (·.dst)) Q l A H → AOps P N ops l Q A H
  | [], A, H, _, _, h => aops_nil h
  | o :: rest, A, H, hN, hds, h => by
    have ih : ∀ A H, opsVC P N (ops.toList.map (·.dst)) Q rest A H → AOps P N ops rest Q A H := fun A H => opsVC_sound rest A H (fun o ho => hN o (List.mem_cons_of_mem _ ho)) hds
    have hNo := hN o List.mem_cons_self
    simp only [opsVC] at h
    cases hg : o.guard with
    | none =>
      rw [hg] at h
      refine aops_cons hg hNo ?_
      intro w0 S hS w a L s next Q' hn
      exact opVC_sound h w0 S hS w a L s next Q' fun u r L' A' H' w' s' hr hk => hn u r L' A' H' w' s' hr (ih _ _ hk)
    | some q =>
      obtain ⟨j, want⟩ := q
      rw [hg] at h
      simp only at h
      split at h
      · rename_i t hj
        obtain ⟨g, hget, h⟩ := withA_ok h
        have hj' : (ops[j]?).bind (·.dst) = some t := by
          simp only [List.getD_eq_getElem?_getD, List.getElem?_map, Array.getElem?_toList] at hj
          cases ho : ops[j]? with
          | none => simp [ho] at hj
          | some x => simpa [ho] using hj
        split at h
        · rename_i b
          refine aops_guard hg hj' (hds j t hj) hget hNo ?_ ?_
          · intro hb
            subst hb
            cases b with
            | true =>
              have h1 := h.1 rfl
              simp only [if_true] at h1
              refine OpV_sub ?_ fun w0 S w tm L s => s.again hget
              intro w0 S hS w a L s next Q' hn
              exact opVC_sound h1 w0 S hS w a L s next Q' fun u r L' A' H' w' s' hr hk => hn u r L' A' H' w' s' hr (ih _ _ hk)
            | false =>
              have h1 := h.2 rfl
              simp only [Bool.false_eq_true, if_false] at h1
              refine OpV_sub ?_ fun w0 S w tm L s => s.again hget
              intro w0 S hS w a L s next Q' hn
              exact opVC_sound h1 w0 S hS w a L s next Q' fun u r L' A' H' w' s' hr hk => hn u r L' A' H' w' s' hr (ih _ _ hk)
          · intro hb
            have key : ∀ c, b = c → opsVC P N (ops.toList.map (·.dst)) Q rest (putd o.dst (.v (.tuple #[])) ((t, .v (.bool c)) :: A)) H → AOps P N ops rest Q (putd o.dst (.v (.tuple #[])) A) H := by
              intro c hc hv
              subst hc
              refine AOps_sub (ih _ _ hv) fun w0 S w tm L s => ?_
              cases hd : o.dst with
              | none => simp only [putd, hd] at s ⊢; exact s.again hget
              | some d =>
                simp only [putd, hd] at s ⊢
                refine s.sub fun i a ha => ?_
                simp only [Fr.get] at ha ⊢
                split
                · rename_i e; simpa [e] using ha
                · rename_i e
                  simp only [e, if_false] at ha
                  split at ha
                  · rename_i e2; subst e2; rw [hget]; exact ha
                  · exact ha
            cases b with
            | true =>
              have h1 := h.1 rfl
              cases want <;> simp at hb
              simp only [Bool.false_eq_true, if_false] at h1
              exact key true rfl h1
            | false =>
              have h1 := h.2 rfl
              cases want <;> simp at hb
              simp only [if_true] at h1
              exact key false rfl h1
        · exact aops_skip hg hj' (hds j t hj) hget hNo (ih _ _ h)
        · exact h.elim
      · exact h.elim

/-- A region whose order is not open. -/
theorem awp_region' {id : Nat} {l : List Oper} {Q : Exit → Fr → Hp → Prop} (hN : dstsOk N l = true) (h : opsVC P N (l.map (·.dst)) (Q .normal) l A H) : AWP P N (.region id l.toArray false) Q A H := by
  have hm := dstsOk_mem hN
  refine awp_region (opsVC_sound l A H hm ?_ (by simpa using h))
  intro j t ht
  simp only [List.getD_eq_getElem?_getD, List.getElem?_map] at ht
  cases ho : l[j]? with
  | none => simp [ho] at ht
  | some x => exact hm x (List.mem_of_getElem? ho) t (by simpa [ho] using ht)

/- contracts -/
/-- Called with arguments that read as `args`, the names of `Hin` meaning what `Hin` says, the function returns a value and names that `post` tells; the names of pn stay where they are. -/
def AC (P : Program) (f : FuncId) (args : List AV) (Hin : Hp) (pn : Nat → Bool) (post : AV → Hp → Prop) : Prop :=
  callable P f = true ∧
  ∀ (S : Rg) w L vs, (∀ b, w.heap.size ≤ b → S.wr b) → (∀ h, pn h = false → S.pin h = none) → Sim 0 w S w #[] L [] Hin → RdArgs w (okb S Hin L) L args vs →
    Calls P f vs w fun e w' => ∃ u L' r H', e = .returned u ∧ Sim 0 w S w' #[] L' [] H' ∧ Rd w' (okb S H' L') L' r u ∧ post r H'

def argsFr (args : List AV) : Fr := args.zipIdx.map fun x => (x.2, x.1)

theorem argsFr_get : ∀ (args : List AV) (k i : Nat) (a : AV), Fr.get ((args.zipIdx k).map fun x => (x.2, x.1)) i = some a → k ≤ i ∧ args[i - k]? = some a
  | [], k, i, a, h => by simp [Fr.get] at h
  | x :: r, k, i, a, h => by
    simp only [List.zipIdx_cons, List.map_cons, Fr.get] at h
    split at h
    · rename_i e; subst e; simpa using h
    · rename_i e
      obtain ⟨h1, h2⟩ := argsFr_get r (k + 1) i a h
      refine ⟨by omega, ?_⟩
      rw [show i - k = (i - (k + 1)) + 1 by omega]
      simpa using h2

def Hp.le (H' H : Hp) : Prop := ∀ h B, H' h = some B → H h = some B
theorem Hp.le_emp (H : Hp) : Hp.le Hp.emp H := fun h B hB => by simp [Hp.emp] at hB
theorem Hp.le_refl (H : Hp) : Hp.le H H := fun _ _ h => h
/-- Of the heap may be forgotten. -/
theorem okb_le {S : Rg} {H H' : Hp} {L : Loc} (hl : Hp.le H' H) {b : Nat} (h : okb S H L b) : okb S H' L b :=
  ⟨h.1, fun g q hn hq => h.2 g q (by
    cases e : H' g with
    | none => exact absurd e hn
    | some B => rw [hl g B e]; simp) hq⟩
theorem Rd.okm {w : World} {ok ok' : Nat → Prop} (hok : ∀ b, ok b → ok' b) {a : AV} {L : Loc} {u : Value} (h : Rd w ok L a u) : Rd w ok' L a u := by
  have := Rd.step (w := w) (w' := w) (ok := ok) (ok' := ok') (p := fun _ => false) (fun b _ h => ⟨hok b h, rfl⟩) (Shape.refl w) a L L u (fun _ _ => rfl) h
  rwa [AV.scrub_none] at this
theorem Sim.le {n : Nat} {w0 : World} {S : Rg} {w : World} {L : Loc} {H H' : Hp} (s : Sim n w0 S w #[] L [] H) (hl : Hp.le H' H) : Sim n w0 S w #[] L [] H' := by
  have live : ∀ g, H' g ≠ none → H g ≠ none := fun g hn => by
    cases e : H' g with
    | none => exact absurd e hn
    | some B => rw [hl g B e]; simp
  refine ⟨s.keep, s.size, fun i a h => by simp [Fr.get] at h, fun h B hB => ?_, fun h q hn hq => s.own h q (live h hn) hq, fun h g q r hn hm hq hr e => s.inj h g q r (live h hn) (live g hm) hq hr e, s.pin⟩
  have := BlkOk.step (w := w) (w' := w) (wh := w) (wh' := w) (ok := okb S H L) (ok' := okb S H' L) (L := L) (L' := L) (p := fun _ => false) (fun b _ hb => ⟨okb_le hl hb, rfl⟩) (Shape.refl w) (fun _ _ => rfl) (fun _ _ => rfl) (s.blk h B (hl h B hB))
  rwa [Blk.scrub_none] at this

/-- What the results of a function read as. -/
def resVC (P : Program) (rs : List ResultVar) (A : Fr) (H : Hp) (post : AV → Hp → Prop) : Prop :=
  match rs with
  | [] => post (.tup 0 (vecF [])) H
  | [.tmp t] => withA (A.get t) fun r => post r H
  | [.tmp t, .tmp u] => withA (A.get t) fun r => withA (A.get u) fun q => post (.tup 2 (vecF [r, q])) H
  | [.tmp t, .tmp u, .tmp v] => withA (A.get t) fun r => withA (A.get u) fun q => withA (A.get v) fun p => post (.tup 3 (vecF [r, q, p])) H
  | [.cell t ty] => withA (A.get t) fun p => ldVC (tyOf P ty) H p fun r => ∃ H', Hp.le H' H ∧ post r H'
  | [.cell t ty, .tmp u] => withA (A.get t) fun p => ldVC (tyOf P ty) H p fun r => withA (A.get u) fun q => ∃ H', Hp.le H' H ∧ post (.tup 2 (vecF [r, q])) H'
  | _ => False

def endQ (P : Program) (N : Cx) (fn : Func) (post : AV → Hp → Prop) : Exit → Fr → Hp → Prop
  | .normal, A, H => ∃ A' H', Sub N A H A' H' ∧ resVC P fn.results.toList A' H' post
  | .ret, A, H => ∃ A' H', Sub N A H A' H' ∧ resVC P fn.results.toList A' H' post
  | _, _, _ => False

theorem ldVC_ptr {t : Option TY} {a : AV} {K : AV → Prop} (h : ldVC t H a K) {w : World} {ok : Nat → Prop} {L : Loc} {u : Value} (hu : Rd w ok L a u) : ∃ q, u = .pointer (some q) := by
  unfold ldVC at h
  split at h
  · obtain ⟨q, rfl, _⟩ := hu; exact ⟨q, rfl⟩
  · obtain ⟨q, rfl, _⟩ := hu; exact ⟨q, rfl⟩
  · obtain ⟨b, s, _, rfl⟩ := hu; exact ⟨_, rfl⟩
  · obtain ⟨b, s, _, rfl⟩ := hu; exact ⟨_, rfl⟩
  · exact h.elim

theorem resVC_ok {fn : Func} {post : AV → Hp → Prop} {w0 : World} {S : Rg} {w : World} {tm : Array Value} {L : Loc} (s : Sim N.n w0 S w tm L A H) (h : resVC P fn.results.toList A H post) :
    ∃ u r H', Hp.le H' H ∧ (results fn tm).run P w = .ok u w ∧ Rd w (okb S H' L) L r u ∧ post r H' := by
  unfold resVC at h
  have hr : ∀ l, fn.results.toList = l → fn.results = l.toArray := fun l e => by rw [← e]
  split at h
  · rename_i e
    exact ⟨_, .tup 0 (vecF []), H, Hp.le_refl H, results_none (hr _ e) _ _ _, ⟨#[], rfl, rfl, by simp⟩, h⟩
  · rename_i t e
    obtain ⟨r, h1, h2⟩ := withA_ok h
    exact ⟨_, r, H, Hp.le_refl H, results_tmp (hr _ e) _ _ _, s.slot t r h1, h2⟩
  · rename_i t u e
    obtain ⟨r, h1, h⟩ := withA_ok h
    obtain ⟨q, h2, h⟩ := withA_ok h
    refine ⟨_, .tup 2 (vecF [r, q]), H, Hp.le_refl H, results_tmp2 (hr _ e) _ _ _, ⟨_, rfl, rfl, fun i hi => ?_⟩, h⟩
    match i, hi with
    | 0, _ => exact ⟨_, rfl, s.slot t r h1⟩
    | 1, _ => exact ⟨_, rfl, s.slot u q h2⟩
  · rename_i t u v e
    obtain ⟨r, h1, h⟩ := withA_ok h
    obtain ⟨q, h2, h⟩ := withA_ok h
    obtain ⟨p, h3, h⟩ := withA_ok h
    refine ⟨.tuple #[tm.getD t undef, tm.getD u undef, tm.getD v undef], .tup 3 (vecF [r, q, p]), H, Hp.le_refl H, by simp [results, hr _ e], ⟨_, rfl, rfl, fun i hi => ?_⟩, h⟩
    match i, hi with
    | 0, _ => exact ⟨_, rfl, s.slot t r h1⟩
    | 1, _ => exact ⟨_, rfl, s.slot u q h2⟩
    | 2, _ => exact ⟨_, rfl, s.slot v p h3⟩
  · rename_i t ty e
    obtain ⟨p, h1, h⟩ := withA_ok h
    have hu := s.slot t p h1
    obtain ⟨q, hq⟩ := ldVC_ptr h hu
    obtain ⟨r, x, e1, e2, e3⟩ := run_loadAt (P := P) s (fun r => ∃ H', Hp.le H' H ∧ post r H') hu h
    have e4 := e1 w (fun _ _ => rfl)
    rw [hq] at e4
    simp only [Instr.loadAt, Instr.sureAddr] at e4
    obtain ⟨H2, hl2, e3⟩ := e3
    refine ⟨r, x, H2, hl2, ?_, Rd.okm (fun b hb => okb_le hl2 hb) e2, e3⟩
    simp only [results, hr _ e]
    have hq' : tm[t]?.getD undef = .pointer (some q) := by simpa using hq
    simp at e4 ⊢
    rw [hq']
    simp [asAddr, e4]
  · rename_i t ty u e
    obtain ⟨p, h1, h⟩ := withA_ok h
    have hu := s.slot t p h1
    obtain ⟨q, hq⟩ := ldVC_ptr h hu
    obtain ⟨r, x, e1, e2, h⟩ := run_loadAt (P := P) s (fun r => withA (A.get u) fun q => ∃ H', Hp.le H' H ∧ post (.tup 2 (vecF [r, q])) H') hu h
    obtain ⟨y, h2, H2, hl2, h⟩ := withA_ok h
    have e4 := e1 w (fun _ _ => rfl)
    rw [hq] at e4
    simp only [Instr.loadAt, Instr.sureAddr] at e4
    refine ⟨.tuple #[r, tm.getD u undef], .tup 2 (vecF [x, y]), H2, hl2, ?_, ⟨_, rfl, rfl, fun i hi => ?_⟩, h⟩
    · simp only [results, hr _ e]
      have hq' : tm[t]?.getD undef = .pointer (some q) := by simpa using hq
      simp at e4 ⊢
      rw [hq']
      simp [asAddr, e4]
    · match i, hi with
      | 0, _ => exact ⟨_, rfl, Rd.okm (fun b hb => okb_le hl2 hb) e2⟩
      | 1, _ => exact ⟨_, rfl, Rd.okm (fun b hb => okb_le hl2 hb) (s.slot u y h2)⟩
  · exact h.elim

theorem Sim.noFr {w0 : World} {S : Rg} {w : World} {tm : Array Value} {L : Loc} {n : Nat} (s : Sim n w0 S w tm L A H) : Sim 0 w0 S w #[] L [] H :=
  ⟨s.keep, rfl, fun i a h => by simp [Fr.get] at h, s.blk, s.own, s.inj, s.pin⟩

/-- A function's contract, out of its body. -/
theorem ac_of_awp {f : FuncId} {fn : Func} {c : Code} {args : List AV} {Hin : Hp} {post : AV → Hp → Prop} (hf : P.funcs[f]? = some fn) (hb : fn.body = some c) (hc : callable P f = true) (hn : fn.ntmps = N.n) (ha : args.length ≤ N.n)
    (h : AWP P N c (endQ P N fn post) (argsFr args) Hin) : AC P f args Hin N.pn post := by
  refine ⟨hc, fun S w L vs hS hpin s hargs => ?_⟩
  refine calls_of_wp hf hb ?_
  obtain ⟨hsz, hrd⟩ := hargs
  have s' : Sim N.n w S w (vs ++ Array.replicate (fn.ntmps - vs.size) undef) L (argsFr args) Hin := by
    refine ⟨s.keep, by simp; omega, fun i a hi => ?_, s.blk, s.own, s.inj, s.pin⟩
    obtain ⟨_, h2⟩ := argsFr_get args 0 i a hi
    obtain ⟨u, k1, k2⟩ := hrd i a (by simpa using h2)
    have hlt := (Array.getElem?_eq_some_iff.1 k1).1
    have : (vs ++ Array.replicate (fn.ntmps - vs.size) undef).getD i undef = u := by
      simp [Array.getD]
      rw [dif_pos (by omega)]
      rw [Array.getElem_append_left hlt]
      obtain ⟨_, e⟩ := Array.getElem?_eq_some_iff.1 k1
      exact e
    rw [this]; exact k2
  refine wp_mono (h w S ⟨hS, hpin⟩ w ⟨_, []⟩ L s' rfl) ?_
  rintro e a w' ⟨L', A', H', s2, hd, hq⟩
  cases e with
  | normal =>
    obtain ⟨A3, H3, hsub, hq⟩ := hq
    obtain ⟨L3, s3⟩ := hsub _ _ ⟨hS, hpin⟩ _ _ _ s2
    obtain ⟨u, r, H4, k0, k1, k2, k3⟩ := resVC_ok (P := P) s3 hq
    exact ⟨hd, u, k1, u, L3, r, H4, rfl, s3.noFr.le k0, k2, k3⟩
  | ret =>
    obtain ⟨A3, H3, hsub, hq⟩ := hq
    obtain ⟨L3, s3⟩ := hsub _ _ ⟨hS, hpin⟩ _ _ _ s2
    obtain ⟨u, r, H4, k0, k1, k2, k3⟩ := resVC_ok (P := P) s3 hq
    exact ⟨hd, u, k1, u, L3, r, H4, rfl, s3.noFr.le k0, k2, k3⟩
  | _ => exact hq.elim

end
end Go.Av

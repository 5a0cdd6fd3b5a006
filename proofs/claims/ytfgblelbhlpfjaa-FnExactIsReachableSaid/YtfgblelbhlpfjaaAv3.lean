/- The logic over abstract frames: code, regions, calls. -/
import Derived.Test.YtfgblelbhlpfjaaAv2
import Derived.Deep.Quiet
namespace Go.Av

/-- How many slots; which names are to stay where they are (no slot's own name is one of them). -/
structure Cx where
  n : Nat
  pn : Nat → Bool
  low : ∀ h, h < n → pn h = false

/-- What is asked of the writable blocks and the names that stay. -/
structure Good (N : Cx) (w0 : World) (S : Rg) : Prop where
  new : ∀ b, w0.heap.size ≤ b → S.wr b
  free : ∀ h, N.pn h = false → S.pin h = none

/-- From the abstract frame and heap (A, H) one may pass to (A', H'). -/
def Sub (N : Cx) (A : Fr) (H : Hp) (A' : Fr) (H' : Hp) : Prop :=
  ∀ w0 S, Good N w0 S → ∀ w tm L, Sim N.n w0 S w tm L A H → ∃ L', Sim N.n w0 S w tm L' A' H'

def PostW (N : Cx) (w0 : World) (S : Rg) (Q : Exit → Fr → Hp → Prop) (e : Exit) (a : Act) (w : World) : Prop :=
  ∃ L A H, Sim N.n w0 S w a.tmps L A H ∧ a.defers = [] ∧ Q e A H

/-- From every state that the abstract frame and heap fit, the code ends in one that some abstract frame and heap with Q fit. -/
def AWP (P : Program) (N : Cx) (c : Code) (Q : Exit → Fr → Hp → Prop) (A : Fr) (H : Hp) : Prop :=
  ∀ w0 S, Good N w0 S → ∀ w (a : Act) L, Sim N.n w0 S w a.tmps L A H → a.defers = [] → c.wp P (PostW N w0 S Q) a w

/-- What follows: `next` behind a normal end, else Q. -/
def thenA (next : Fr → Hp → Prop) (Q : Exit → Fr → Hp → Prop) : Exit → Fr → Hp → Prop
  | .normal, A, H => next A H
  | e, A, H => Q e A H

def blkA (id : Nat) (Q : Exit → Fr → Hp → Prop) : Exit → Fr → Hp → Prop
  | .exit i, A, H => if i = id then Q .normal A H else Q (.exit i) A H
  | e, A, H => Q e A H

section
variable {P : Program} {N : Cx} {Q : Exit → Fr → Hp → Prop} {A : Fr} {H : Hp}

theorem awp_seq {x y : Code} (h : AWP P N x (thenA (AWP P N y Q) Q) A H) : AWP P N (.seq x y) Q A H := by
  intro w0 S hS w a L s hd
  refine wp_seq (wp_mono (h w0 S hS w a L s hd) ?_)
  rintro e a w ⟨L, A, H, s, hd, hq⟩
  cases e <;> first
    | exact hq w0 S hS w a L s hd
    | exact ⟨L, A, H, s, hd, hq⟩
theorem awp_skip (h : Q .normal A H) : AWP P N .skip Q A H := fun _ _ _ _ _ L s hd => wp_skip ⟨L, A, H, s, hd, h⟩
theorem awp_ret (h : Q .ret A H) : AWP P N .ret Q A H := fun _ _ _ _ _ L s hd => wp_ret ⟨L, A, H, s, hd, h⟩
theorem awp_exit {id : Nat} (h : Q (.exit id) A H) : AWP P N (.exit id) Q A H := fun _ _ _ _ _ L s hd => wp_exit ⟨L, A, H, s, hd, h⟩
theorem awp_block {id : Nat} {c : Code} (h : AWP P N c (blkA id Q) A H) : AWP P N (.block id c) Q A H := by
  intro w0 S hS w a L s hd
  refine wp_block (wp_mono (h w0 S hS w a L s hd) ?_)
  rintro e a w ⟨L, A, H, s, hd, hq⟩
  cases e with
  | exit i =>
    simp only [blkA] at hq
    simp only [Exit.inBlock]
    split
    · rename_i hi; rw [if_pos hi] at hq; exact ⟨L, A, H, s, hd, hq⟩
    · rename_i hi; rw [if_neg hi] at hq; exact ⟨L, A, H, s, hd, hq⟩
  | _ => exact ⟨L, A, H, s, hd, hq⟩
def Fr.ev (A : Fr) : Operand → Option AV
  | .tmp t => A.get t
  | .const v => some (.v v)
  | .global _ => none
  | .func f => some (.v (.func (.func f) #[] #[]))
theorem Sim.ev {w0 : World} {S : Rg} {w : World} {a : Act} {L : Loc} (s : Sim N.n w0 S w a.tmps L A H) {x : Operand} {r : AV} (h : A.ev x = some r) : Rd w (okb S H L) L r (a.eval x) := by
  cases x with
  | tmp t => exact s.slot t r h
  | const v => simp [Fr.ev] at h; subst h; rfl
  | global g => simp [Fr.ev] at h
  | func f => simp [Fr.ev] at h; subst h; rfl
theorem awp_cond {c : Operand} {x y : Code} {t : Bool} (hc : A.ev c = some (.v (.bool t))) (ht : t = true → AWP P N x Q A H) (hf : t = false → AWP P N y Q A H) :
    AWP P N (.cond c x y) Q A H := by
  intro w0 S hS w a L s hd
  have he : a.eval c = .bool t := s.ev hc
  cases t with
  | true => exact wp_cond_true he (ht rfl w0 S hS w a L s hd)
  | false => exact wp_cond_false he (hf rfl w0 S hS w a L s hd)
theorem awp_sub {c : Code} {A' : Fr} {H' : Hp} (hs : Sub N A H A' H') (h : AWP P N c Q A' H') : AWP P N c Q A H := by
  intro w0 S hS w a L s hd
  obtain ⟨L', s'⟩ := hs w0 S hS w a.tmps L s
  exact h w0 S hS w a L' s' hd
theorem awp_mono {c : Code} {Q' : Exit → Fr → Hp → Prop} (h : AWP P N c Q A H) (hq : ∀ e A H, Q e A H → Q' e A H) : AWP P N c Q' A H := by
  intro w0 S hS w a L s hd
  refine wp_mono (h w0 S hS w a L s hd) ?_
  rintro e a w ⟨L, A, H, s, hd, hq'⟩
  exact ⟨L, A, H, s, hd, hq _ _ _ hq'⟩

theorem wp_loop_rank {c : Code} {Q : Exit → Act → World → Prop} {a : Act} {w : World} (I : Nat → Act → World → Prop) (n : Nat) (h₀ : I n a w)
    (round : ∀ n a w, I n a w → c.wp P (Exit.then (fun a' w' => ∃ m, m < n ∧ I m a' w') Q) a w) : (Code.loop c).wp P Q a w := by
  intro b k cs
  have key : ∀ n a w, I n a w →
      ∃ e a' w', Q e a' w' ∧ Arrives P (lone (b.at a (.code c :: .inLoop c :: k)) cs w) b k cs e a' w' := by
    intro n
    induction n using Nat.strongRecOn with
    | _ n ih =>
      intro a w hI
      obtain ⟨e, a₁, w₁, hq, harr⟩ := round n a w hI b (.inLoop c :: k) cs
      cases e with
      | normal =>
        obtain ⟨m, hlt, hI₁⟩ := hq
        obtain ⟨e₂, a₂, w₂, hq₂, harr₂⟩ := ih m hlt a₁ w₁ hI₁
        exact ⟨e₂, a₂, w₂, hq₂, .of_steps (Steps.trans harr (.one step_inLoop)) harr₂⟩
      | exit id => exact ⟨_, a₁, w₁, hq, .pass (x := .inLoop c) rfl (fun _ _ => .inl (by simp)) harr⟩
      | goto l => exact ⟨_, a₁, w₁, hq, .pass (x := .inLoop c) rfl (fun _ _ => .inl (by simp)) harr⟩
      | ret => exact ⟨_, a₁, w₁, hq, .pass (x := .inLoop c) rfl (fun _ _ => .inl (by simp)) harr⟩
      | panic ch => exact ⟨_, a₁, w₁, hq, .pass (x := .inLoop c) rfl (fun _ _ => .inl (by simp)) harr⟩
      | outgrown => exact ⟨_, a₁, w₁, hq, .pass (x := .inLoop c) rfl (fun _ _ => .inl (by simp)) harr⟩
  obtain ⟨e, a', w', hq, harr⟩ := key n a w h₀
  exact ⟨e, a', w', hq, .of_steps (.one step_loop) harr⟩

/-- A loop: `F`, `G` the frame and the heap at the head of a round, by what has been done (i); `V` which i come up; `μ` goes down. -/
theorem awp_loop {ι : Type} {body : Code} (F : ι → Fr) (G : ι → Hp) (V : ι → Prop) (μ : ι → Nat) (i0 : ι) (h0 : V i0) (hs : Sub N A H (F i0) (G i0))
    (round : ∀ i, V i → AWP P N body (thenA (fun A H => ∃ j, V j ∧ μ j < μ i ∧ Sub N A H (F j) (G j)) Q) (F i) (G i)) :
    AWP P N (.loop body) Q A H := by
  intro w0 S hS w a L s hd
  obtain ⟨L', s'⟩ := hs w0 S hS w a.tmps L s
  refine wp_loop_rank (fun n a w => ∃ i L, V i ∧ μ i = n ∧ Sim N.n w0 S w a.tmps L (F i) (G i) ∧ a.defers = []) (μ i0) ⟨i0, L', h0, rfl, s', hd⟩ ?_
  rintro n a w ⟨i, L, hv, rfl, s, hd⟩
  refine wp_mono (round i hv w0 S hS w a L s hd) ?_
  rintro e a w ⟨L, A, H, s, hd, hq⟩
  cases e with
  | normal =>
    obtain ⟨j, hj, hlt, hsub⟩ := hq
    obtain ⟨L', s'⟩ := hsub w0 S hS w a.tmps L s
    exact ⟨μ j, hlt, j, L', hj, rfl, s', hd⟩
  | _ => exact ⟨L, A, H, s, hd, hq⟩

/-- One operation: whatever follows it. -/
def OpV (P : Program) (N : Cx) (o : Oper) (A : Fr) (H : Hp) (K : AV → Fr → Hp → Prop) : Prop :=
  ∀ w0 S, Good N w0 S → ∀ w (a : Act) L, Sim N.n w0 S w a.tmps L A H → ∀ (next : Act → World → Prop) (Q' : Exit → Act → World → Prop),
    (∀ u r L' A' H' w', Sim N.n w0 S w' a.tmps L' A' H' → Rd w' (okb S H' L') L' r u → K r A' H' → next (a.put o.dst u) w') → o.wp P a w next Q'

def AOps (P : Program) (N : Cx) (ops : Array Oper) (l : List Oper) (Q : Fr → Hp → Prop) (A : Fr) (H : Hp) : Prop :=
  ∀ w0 S, Good N w0 S → ∀ w (a : Act) L, Sim N.n w0 S w a.tmps L A H → a.defers = [] →
    wpList P ops (PostW N w0 S (fun e A H => e = .normal ∧ Q A H)) l a w

theorem awp_region {id : Nat} {l : List Oper} (h : AOps P N l.toArray l (Q .normal) A H) : AWP P N (.region id l.toArray false) Q A H := by
  intro w0 S hS w a L s hd
  refine wp_mono (wp_region_lit (h w0 S hS w a L s hd)) ?_
  rintro e a w ⟨L, A, H, s, hd, rfl, hq⟩
  exact ⟨L, A, H, s, hd, hq⟩

def putd (d : Option Tmp) (r : AV) (A : Fr) : Fr :=
  match d with
  | some d => (d, r) :: A
  | none => A

theorem Sim.putd {w0 : World} {S : Rg} {w : World} {a : Act} {L : Loc} {d : Option Tmp} (hd : ∀ t, d = some t → t < N.n) (s : Sim N.n w0 S w a.tmps L A H) {r : AV} {u : Value} (hr : Rd w (okb S H L) L r u) :
    Sim N.n w0 S w (a.put d u).tmps L (putd d r A) H := by
  cases d with
  | none => exact s
  | some t => exact s.put (hd t rfl) hr

theorem aops_nil {ops : Array Oper} {Q : Fr → Hp → Prop} (h : Q A H) : AOps P N ops [] Q A H := fun _ _ _ _ _ L s hd => ⟨L, A, H, s, hd, rfl, h⟩

theorem aops_cons {ops : Array Oper} {o : Oper} {rest : List Oper} {Q : Fr → Hp → Prop} (hg : o.guard = none) (hN : ∀ t, o.dst = some t → t < N.n)
    (h : OpV P N o A H fun r A' H' => AOps P N ops rest Q (putd o.dst r A') H') : AOps P N ops (o :: rest) Q A H := by
  intro w0 S hS w a L s hd
  refine wpList_plain hg fun K hK => h w0 S hS w a L s K _ ?_
  intro u r L' A' H' w' s' hr hk
  refine hK _ _ (hk w0 S hS w' (a.put o.dst u) L' (s'.putd hN hr) ?_)
  cases o.dst <;> exact hd

theorem put_defers (a : Act) (d : Option Tmp) (u : Value) : (a.put d u).defers = a.defers := by cases d <;> rfl

/-- A guarded operation, the guard's bit known. -/
theorem aops_guard {ops : Array Oper} {o : Oper} {rest : List Oper} {Q : Fr → Hp → Prop} {j : Nat} {want : Bool} {t : Tmp} {b : Bool} (hg : o.guard = some (j, want)) (hj : (ops[j]?).bind (·.dst) = some t) (ht : t < N.n)
    (hb : A.get t = some (.v (.bool b))) (hN : ∀ t, o.dst = some t → t < N.n)
    (hyes : b = want → OpV P N o A H fun r A' H' => AOps P N ops rest Q (putd o.dst r A') H') (hno : b = !want → AOps P N ops rest Q (putd o.dst (.v (.tuple #[])) A) H) : AOps P N ops (o :: rest) Q A H := by
  intro w0 S hS w a L s hd
  have hy : yielded ops a.tmps j = some b := by
    have h1 : a.tmps.getD t undef = .bool b := s.slot t _ hb
    have hlt : t < a.tmps.size := by rw [s.size]; exact ht
    have h2 : a.tmps[t]? = some (.bool b) := by
      simp [Array.getD, hlt] at h1
      simp [hlt, h1]
    simp [yielded, hj, h2]
  refine wpList_step fun K hK => ?_
  by_cases hbw : b = want
  · have hw : Region.wanted o (yielded ops a.tmps) = true := by simp [Region.wanted, hg, hy, hbw]
    rw [if_pos hw]
    refine hyes hbw w0 S hS w a L s K _ ?_
    intro u r L' A' H' w' s' hr hk
    exact hK _ _ (hk w0 S hS w' (a.put o.dst u) L' (s'.putd hN hr) (by rw [put_defers]; exact hd))
  · have hw : ¬ Region.wanted o (yielded ops a.tmps) = true := by simp [Region.wanted, hg, hy, hbw]
    rw [if_neg hw]
    refine hK _ _ (hno (by cases b <;> cases want <;> simp_all) w0 S hS w (a.put o.dst undef) L (s.putd hN (r := .v (.tuple #[])) rfl) (by rw [put_defers]; exact hd))

/-- .. the guard's own operation passed by. -/
theorem aops_skip {ops : Array Oper} {o : Oper} {rest : List Oper} {Q : Fr → Hp → Prop} {j : Nat} {want : Bool} {t : Tmp} {xs : Array Value} (hg : o.guard = some (j, want)) (hj : (ops[j]?).bind (·.dst) = some t) (ht : t < N.n)
    (hb : A.get t = some (.v (.tuple xs))) (hN : ∀ t, o.dst = some t → t < N.n)
    (hno : AOps P N ops rest Q (putd o.dst (.v (.tuple #[])) A) H) : AOps P N ops (o :: rest) Q A H := by
  intro w0 S hS w a L s hd
  have hy : yielded ops a.tmps j = none := by
    have h1 : a.tmps.getD t undef = .tuple xs := s.slot t _ hb
    have hlt : t < a.tmps.size := by rw [s.size]; exact ht
    have h2 : a.tmps[t]? = some (.tuple xs) := by
      simp [Array.getD, hlt] at h1
      simp [hlt, h1]
    simp [yielded, hj, h2]
  refine wpList_step fun K hK => ?_
  have hw : ¬ Region.wanted o (yielded ops a.tmps) = true := by simp [Region.wanted, hg, hy]
  rw [if_neg hw]
  exact hK _ _ (hno w0 S hS w (a.put o.dst undef) L (s.putd hN (r := .v (.tuple #[])) rfl) (by rw [put_defers]; exact hd))

/- calls -/
def RdArgs (w : World) (ok : Nat → Prop) (L : Loc) (args : List AV) (vs : Array Value) : Prop :=
  vs.size = args.length ∧ ∀ (i : Nat) (a : AV), args[i]? = some a → ∃ u, vs[i]? = some u ∧ Rd w ok L a u

def callable (P : Program) (f : FuncId) : Bool :=
  match P.funcs[f]? with
  | some fn => !(fn.name == "runtime.NumGoroutine") && fn.body.isSome
  | none => false

/-- The call of function f, whatever follows. -/
def CallG (P : Program) (N : Cx) (f : FuncId) (args : List AV) (A : Fr) (H : Hp) (K : AV → Fr → Hp → Prop) : Prop :=
  callable P f = true ∧
  ∀ w0 S, Good N w0 S → ∀ w tm L, Sim N.n w0 S w tm L A H → ∀ vs, RdArgs w (okb S H L) L args vs →
    Calls P f vs w fun e w' => ∃ u r L' A' H', e = .returned u ∧ Sim N.n w0 S w' tm L' A' H' ∧ Rd w' (okb S H' L') L' r u ∧ K r A' H'

theorem run_callFunc {f : FuncId} {vs : Array Value} {w : World} (h : callable P f = true) : (callFunc f vs).run P w = .ok (.enter f vs) w := by
  unfold callable at h
  unfold callFunc
  simp only [Sem.run_bind, run_program, Result.andThen_ok]
  cases hf : P.funcs[f]? with
  | none => simp [hf] at h
  | some fn =>
    simp only [hf, Bool.and_eq_true, Bool.not_eq_true'] at h
    obtain ⟨h1, h2⟩ := h
    have h3 : fn.body.isNone = false := by cases hb : fn.body <;> simp [hb] at h2 ⊢
    simp [h1, h3]

end
end Go.Av

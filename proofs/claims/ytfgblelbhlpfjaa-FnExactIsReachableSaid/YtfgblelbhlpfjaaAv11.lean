/- All operations together: what a region asks, as one proposition that is worked out by rewriting. -/
import Derived.Test.YtfgblelbhlpfjaaAvM
namespace Go.Av

def ptrOk : AV → Bool
  | .ref .. | .ptr .. | .clo .. => true
  | _ => false

section
variable (P : Program) (N : Cx)

def evArgs (A : Fr) : List Operand → Option (List AV)
  | [] => some []
  | x :: r =>
    match A.ev x, evArgs A r with
    | some a, some l => some (a :: l)
    | _, _ => none

/-- Who is called. -/
def calleeOf (a : Option AV) : Option (FuncId × List AV) :=
  match a with
  | some (.v (.func fn a b)) => (match fn with | .func f => if a.size = 0 ∧ b.size = 0 then some (f, []) else none | _ => none)
  | some (.clo f n g) => some (f, (List.range n).map g)
  | _ => none

def withArgs (l : Option (List AV)) (K : List AV → Prop) : Prop :=
  match l with
  | some l => K l
  | none => False

def opOpt (A : Fr) (x : Option Operand) : Option (Option AV) := x.map A.ev

def bcallVC (d : Nat) (b : Builtin) (tys : Array TypeId) (A : Fr) (H : Hp) (args : List AV) (K : AV → Fr → Hp → Prop) : Prop :=
  match b, args, tys.toList with
  | .len, [a], [t] => Ob (lenTOk (lenT P t) a = true) (lenVC a fun r => K r A H)
  | .append, [a, .v (.int _ k)], [t, t'] => azVC P N.pn (selOf P t) t' d A H a k K
  | .append, [a, b], [t, t'] => Ob (t' = t) (apVC N.pn (selOf P t) d A H a b K)
  | .cap, [.v (.slice none 0 0)], [t] => Ob (lenT P t = .slice) (K (.v (.int .i64 0)) A H)
  | .copy, [a, b], [t, _] => cpVC (selOf P t) H a b fun r H => K r A H
  | .min, [a, b], _ => mmVC false a b fun r => K r A H
  | .max, [a, b], _ => mmVC true a b fun r => K r A H
  | _, _, _ => False

def opVC (d : Nat) (op : Op) (A : Fr) (H : Hp) (K : AV → Fr → Hp → Prop) : Prop :=
  match op with
  | .move x => withA (A.ev x) fun r => K r A H
  | .assign x => withA (A.ev x) fun r => K r A H
  | .pick c a b => withA (A.ev c) fun c => match c with
    | .v (.bool t) => Br t (withA (A.ev a) fun r => K r A H) (withA (A.ev b) fun r => K r A H)
    | _ => False
  | .binOp op t x y _ => withA (A.ev x) fun a => withA (A.ev y) fun b => binVC P op t a b fun r => K r A H
  | .unOp op _ x => withA (A.ev x) fun a => unVC op a fun r => K r A H
  | .convert s t x => withA (A.ev x) fun a => cvVC (cvT P s t) H a fun r => K r A H
  | .extract t i => withA (A.ev t) fun a => match a with
    | .tup n f => Ob (i < n) (K (f i) A H)
    | _ => False
  | .indexAddr t x i => withA (A.ev x) fun a => withA (A.ev i) fun b => ixVC (selOf P t) a b fun r => K r A H
  | .index t x i => withA (A.ev x) fun a => withA (A.ev i) fun b => chVC (isStr P t) a b fun r => K r A H
  | .load t x => withA (A.ev x) fun a => ldVC (tyOf P t) H a fun r => K r A H
  | .store t x y => withA (A.ev x) fun a => withA (A.ev y) fun b => stVC (tyOf P t) H a b fun H => K .dead A H
  | .makeSlice t l c => withA (A.ev l) fun a => withA (A.ev c) fun b => mkVC N.pn (selOf P t) d A H a b K
  | .buildSlice t len parts => bsVC N.pn (selOf P t) d A H len (evParts A parts.toList) K
  | .build t parts => bdVC (bldOf P t) (evParts A parts.toList) fun r => K r A H
  | .alloc t => alVC N.pn (tyOf P t) d A H K
  | .box _ x => withA (A.ev x) fun a => boxVC N.pn d A H a K
  | .slice t x lo hi mx =>
    match mx with
    | none => withA (A.ev x) fun a => slVC (slT P t) a (opOpt A lo) (opOpt A hi) fun r => K r A H
    | some _ => False
  | .fieldAddr t x i => withA (A.ev x) fun a => faVC (fldOf P t i) a fun r => K r A H
  | .field t x i => withA (A.ev x) fun a => fdVC (fldOf P t i) a fun r => K r A H
  | .nilCheck x => withA (A.ev x) fun a => Ob (ptrOk a = true) (K a A H)
  | .lookup t x i ok => withA (A.ev x) fun a => withA (A.ev i) fun b => lkVC (mapOf P t) H a b ok fun r => K r A H
  | .mapUpdate t m k x => withA (A.ev m) fun a => withA (A.ev k) fun b => withA (A.ev x) fun c => muVC (mapOf P t) H a b c fun H => K .dead A H
  | .insert t m k x => withA (A.ev m) fun a => withA (A.ev k) fun b => withA (A.ev x) fun c => muVC (mapOf P t) H a b c fun H => K .dead A H
  | .makeMap t rs =>
    match rs with
    | none => mmkVC N.pn (mapOf P t) d A H K
    | some x => withA (A.ev x) fun a => match a with
      | .v (.int _ _) => mmkVC N.pn (mapOf P t) d A H K
      | _ => False
  | .makeFunc fn first caps =>
    match fn with
    | .func f => Ob (first = #[]) (withArgs (evArgs A caps.toList) fun l => K (.clo f l.length (vecF l)) A H)
    | _ => False
  | .call c =>
    match c.callee with
    | .builtin b => withArgs (evArgs A c.args.toList) fun l => bcallVC P N d b c.argTypes A H l K
    | .value f =>
      match calleeOf (A.ev f) with
      | some (g, caps) => withArgs (evArgs A c.args.toList) fun l => CallG P N g (l ++ caps) A H K
      | none => False
    | .invoke _ _ => False
  | _ => False

end

section
variable {P : Program} {N : Cx} {A : Fr} {H : Hp} {K : AV → Fr → Hp → Prop}

theorem withA_ok {a : Option AV} {K : AV → Prop} (h : withA a K) : ∃ r, a = some r ∧ K r := by
  cases a with
  | none => exact h.elim
  | some a => exact ⟨a, rfl, h⟩
theorem withArgs_ok {a : Option (List AV)} {K : List AV → Prop} (h : withArgs a K) : ∃ r, a = some r ∧ K r := by
  cases a with
  | none => exact h.elim
  | some a => exact ⟨a, rfl, h⟩

theorem evArgs_ok {w0 : World} {S : Rg} {w : World} {a : Act} {L : Loc} (s : Sim N.n w0 S w a.tmps L A H) : ∀ (xs : List Operand) (l : List AV), evArgs A xs = some l →
    RdArgs w (okb S H L) L l (xs.map a.eval).toArray
  | [], l, h => by simp [evArgs] at h; subst h; simp [RdArgs]
  | x :: r, l, h => by
    simp only [evArgs] at h
    split at h
    · rename_i b l' hb hl
      simp only [Option.some.injEq] at h
      subst h
      obtain ⟨h1, h2⟩ := evArgs_ok s r l' hl
      refine ⟨by simpa using h1, fun i a' hi => ?_⟩
      cases i with
      | zero => simp at hi; subst hi; exact ⟨_, by simp, s.ev hb⟩
      | succ i =>
        obtain ⟨u, k1, k2⟩ := h2 i a' (by simpa using hi)
        exact ⟨u, by simpa using k1, k2⟩
    · simp at h

theorem opv_calls {o : Oper} {f : FuncId} {args : List AV} (h : CallG P N f args A H K)
    (hrun : ∀ w0 S w (a : Act) L, Sim N.n w0 S w a.tmps L A H → ∃ vs, (execOp a.eval o).run P w = .ok (.enter f vs) w ∧ RdArgs w (okb S H L) L args vs) : OpV P N o A H K := by
  intro w0 S hS w a L s next Q' hn
  obtain ⟨vs, h1, h2⟩ := hrun w0 S w a L s
  obtain ⟨hc, h⟩ := h
  unfold Oper.wp
  rw [h1]
  simp only [Oper.upon]
  refine (h w0 S hS w a.tmps L s vs h2).mono ?_
  rintro e w' ⟨u, r, L', A', H', rfl, s', hr, hk⟩
  exact hn u r L' A' H' w' s' hr hk

theorem run_builtin {o : Oper} {b : Builtin} {args : Array Operand} {tys : Array TypeId} (ho : o.op = .call { callee := .builtin b, args, argTypes := tys }) (ρ : Operand → Value) (w : World) :
    ∃ cs, (execOp ρ o).run P w = (Go.builtin b tys o.type cs (args.map ρ)).run P w :=
  ⟨_, by simp [execOp, ho, resolve, invoke]; rfl⟩

theorem bcall_ok {o : Oper} {b : Builtin} {args : Array Operand} {tys : Array TypeId} {l : List AV} (ho : o.op = .call { callee := .builtin b, args, argTypes := tys }) (hl : evArgs A args.toList = some l)
    (h : bcallVC P N (o.dst.getD 0) b tys A H l K) : OpV P N o A H K := by
  have args_of : ∀ {w0 : World} {S : Rg} {w : World} {a : Act} {L : Loc}, Sim N.n w0 S w a.tmps L A H → RdArgs w (okb S H L) L l (args.map a.eval) := by
    intro w0 S w a L s
    have := evArgs_ok s args.toList l hl
    have e : (args.toList.map a.eval).toArray = args.map a.eval := by rw [← Array.toList_map, Array.toArray_toList]
    rwa [e] at this
  have one : ∀ {w : World} {ok : Nat → Prop} {L : Loc} {x : AV} {vs : Array Value}, RdArgs w ok L [x] vs → ∃ u, vs = #[u] ∧ Rd w ok L x u := by
    rintro w ok L x vs ⟨h1, h2⟩
    obtain ⟨u, k1, k2⟩ := h2 0 x rfl
    refine ⟨u, ?_, k2⟩
    apply Array.ext_getElem?
    intro i
    cases i with
    | zero => simpa using k1
    | succ i => rw [Array.getElem?_eq_none (by simp at h1; omega), Array.getElem?_eq_none (by simp)]
  have two : ∀ {w : World} {ok : Nat → Prop} {L : Loc} {x y : AV} {vs : Array Value}, RdArgs w ok L [x, y] vs → ∃ u v, vs = #[u, v] ∧ Rd w ok L x u ∧ Rd w ok L y v := by
    rintro w ok L x y vs ⟨h1, h2⟩
    obtain ⟨u, k1, k2⟩ := h2 0 x rfl
    obtain ⟨v, k3, k4⟩ := h2 1 y rfl
    refine ⟨u, v, ?_, k2, k4⟩
    apply Array.ext_getElem?
    intro i
    match i with
    | 0 => simpa using k1
    | 1 => simpa using k3
    | i + 2 => rw [Array.getElem?_eq_none (by simp at h1; omega), Array.getElem?_eq_none (by simp)]
  have rb : ∀ (t : Array TypeId) (w : World) (a : Act) (r : Value) (w' : World) (f : Array TypeId → TypeId → Array Value → Sem Value), o.op = .call { callee := .builtin b, args, argTypes := t } →
      (∀ cs vs, Go.builtin b t o.type cs vs = (do pure (.value (← f t o.type vs)))) → (f t o.type (args.map a.eval)).run P w = .ok r w' → (execOp a.eval o).run P w = .ok (.value r) w' := by
    intro t w a r w' f ho hb hf
    obtain ⟨cs, h1⟩ := run_builtin (P := P) ho a.eval w
    rw [h1, hb, Sem.run_bind, hf]
    rfl
  unfold bcallVC at h
  split at h
  · -- len
    rename_i x t hts
    obtain ⟨h2, h3⟩ := h
    have h1 : tys = #[t] := by rw [← hts]
    rw [h1] at ho
    refine opv_mem fun w0 S hS w a L s => ?_
    obtain ⟨u, k1, k2⟩ := one (args_of s)
    obtain ⟨r, k3, k4⟩ := run_len (P := P) (ty := o.type) (fun r => K r A H) h2 k2 h3
    exact ⟨r, w, L, .v r, A, H, rb _ w a r w Builtin.len_ ho (fun _ _ => rfl) (by rw [k1]; exact k3 w), s, rfl, k4⟩
  · -- append of a make
    rename_i x kk k t t' hts
    have h1 : tys = #[t, t'] := by rw [← hts]
    rw [h1] at ho
    refine opv_mem fun w0 S hS w a L s => ?_
    obtain ⟨u, v, k1, k2, k3⟩ := two (args_of s)
    have k3' : v = .int kk k := k3
    subst k3'
    obtain ⟨r, w', L', x', A', H', e1, e2, e3, e4⟩ := run_az (P := P) (ty := o.type) (kk := kk) s hS k2 h
    exact ⟨r, w', L', x', A', H', rb _ w a r w' Builtin.append_ ho (fun _ _ => rfl) (by rw [k1]; exact e1), e2, e3, e4⟩
  · -- append
    rename_i x y t t' _ hts
    obtain ⟨rfl, h3⟩ := h
    have h1 : tys = #[t', t'] := by rw [← hts]
    rw [h1] at ho
    refine opv_mem fun w0 S hS w a L s => ?_
    obtain ⟨u, v, k1, k2, k3⟩ := two (args_of s)
    obtain ⟨r, w', L', x', A', H', e1, e2, e3, e4⟩ := run_append (P := P) (ty := o.type) s hS k2 k3 h3
    exact ⟨r, w', L', x', A', H', rb _ w a r w' Builtin.append_ ho (fun _ _ => rfl) (by rw [k1]; exact e1), e2, e3, e4⟩
  · -- cap
    rename_i t hts
    obtain ⟨h2, h3⟩ := h
    have h1 : tys = #[t] := by rw [← hts]
    rw [h1] at ho
    refine opv_mem fun w0 S hS w a L s => ?_
    obtain ⟨u, k1, k2⟩ := one (args_of s)
    have k2' : u = .slice none 0 0 := k2
    subst k2'
    have hut : ∃ e, P.underlying t = some (.slice e) := by
      unfold lenT at h2
      split at h2
      · cases h2
      · exact ⟨_, by assumption⟩
      · cases h2
    obtain ⟨e, he⟩ := hut
    exact ⟨.int .i64 0, w, L, .v (.int .i64 0), A, H, rb _ w a _ w Builtin.cap_ ho (fun _ _ => rfl) (by rw [k1]; simp [Builtin.cap_, run_underlying he, goInt]), s, rfl, h3⟩
  · -- copy
    rename_i x y t t' hts
    have h3 := h
    have h1 : tys = #[t, t'] := by rw [← hts]
    rw [h1] at ho
    refine opv_mem fun w0 S hS w a L s => ?_
    obtain ⟨u, v, k1, k2, k3⟩ := two (args_of s)
    obtain ⟨r, w', H', e1, e2, e3⟩ := run_cp (P := P) (t' := t') (ty := o.type) s hS (fun r H => K r A H) k2 k3 h3
    exact ⟨r, w', L, .v r, A, H', rb _ w a r w' Builtin.copy_ ho (fun _ _ => rfl) (by rw [k1]; exact e1), e2, rfl, e3⟩
  · -- min
    rename_i x y _
    refine opv_mem fun w0 S hS w a L s => ?_
    obtain ⟨u, v, k1, k2, k3⟩ := two (args_of s)
    obtain ⟨r, e1, e2⟩ := run_min (P := P) (tys := tys) (ty := o.type) (w := w) (fun r => K r A H) k2 k3 h
    exact ⟨r, w, L, .v r, A, H, rb _ w a r w Builtin.min_ ho (fun _ _ => rfl) (by rw [k1]; exact e1 w), s, rfl, e2⟩
  · -- max
    rename_i x y _
    refine opv_mem fun w0 S hS w a L s => ?_
    obtain ⟨u, v, k1, k2, k3⟩ := two (args_of s)
    obtain ⟨r, e1, e2⟩ := run_max (P := P) (tys := tys) (ty := o.type) (w := w) (fun r => K r A H) k2 k3 h
    exact ⟨r, w, L, .v r, A, H, rb _ w a r w Builtin.max_ ho (fun _ _ => rfl) (by rw [k1]; exact e1 w), s, rfl, e2⟩
  · exact h.elim

theorem Bnd_ok {w0 : World} {S : Rg} {w : World} {a : Act} {L : Loc} (s : Sim N.n w0 S w a.tmps L A H) (x : Option Operand) : (∀ k i, opOpt A x = some (some (.v (.int k i))) → Bnd (opOpt A x) (x.map a.eval)) := by
  intro k i h
  cases x with
  | none => simp [opOpt] at h
  | some x =>
    simp only [opOpt, Option.map_some, Option.some.injEq] at h
    have := s.ev h
    simp only [Rd] at this
    simp [opOpt, h, this, Bnd]

theorem bound_bnd {w0 : World} {S : Rg} {w : World} {a : Act} {L : Loc} (s : Sim N.n w0 S w a.tmps L A H) {d : Nat} (x : Option Operand) {l : Int} (h : boundOf d (opOpt A x) = some l) : Bnd (opOpt A x) (x.map a.eval) := by
  cases hx : opOpt A x with
  | none =>
    cases x with
    | none => simp [Bnd]
    | some x => simp [opOpt] at hx
  | some y =>
    rw [hx] at h
    cases y with
    | none => simp [boundOf] at h
    | some b =>
      have hb : ∃ k i, b = .v (.int k i) := by
        unfold boundOf at h
        split at h
        · simp_all
        · rename_i hq; simp at hq; exact ⟨_, _, hq⟩
        · simp at h
      obtain ⟨k, i, rfl⟩ := hb
      have := Bnd_ok s x k i hx
      rwa [hx] at this

theorem slVC_bnd {st : SlT} {a : AV} {lo hi : Option (Option AV)} {K : AV → Prop} (h : slVC st a lo hi K) : ∃ d l d' h', boundOf d lo = some l ∧ boundOf d' hi = some h' := by
  unfold slVC at h
  split at h <;> first | exact h.elim | skip
  all_goals
    split at h
    · rename_i l hh h1 h2; exact ⟨_, l, _, hh, h1, h2⟩
    · exact h.elim

theorem opVC_sound {o : Oper} (h : opVC P N (o.dst.getD 0) o.op A H K) : OpV P N o A H K := by
  cases ho : o.op <;> rw [ho] at h <;> simp only [opVC] at h <;> try exact h.elim
  case move x =>
    obtain ⟨r, hx, hK⟩ := withA_ok h
    exact opv_val r hK fun w0 S w a L s => ⟨_, by simp [execOp, ho], s.ev hx⟩
  case assign x =>
    obtain ⟨r, hx, hK⟩ := withA_ok h
    exact opv_val r hK fun w0 S w a L s => ⟨_, by simp [execOp, ho], s.ev hx⟩
  case pick c x y =>
    obtain ⟨rc, hc, hK⟩ := withA_ok h
    split at hK
    · rename_i t
      cases t with
      | true =>
        obtain ⟨r, hx, hK⟩ := withA_ok (hK.1 rfl)
        refine opv_val r hK fun w0 S w a L s => ⟨_, ?_, s.ev hx⟩
        have : a.eval c = .bool true := s.ev hc
        simp [execOp, ho, this, asBool]
      | false =>
        obtain ⟨r, hx, hK⟩ := withA_ok (hK.2 rfl)
        refine opv_val r hK fun w0 S w a L s => ⟨_, ?_, s.ev hx⟩
        have : a.eval c = .bool false := s.ev hc
        simp [execOp, ho, this, asBool]
    · exact hK.elim
  case alloc t =>
    refine opv_mem fun w0 S hS w a L s => ?_
    obtain ⟨r, w', L', x', A', H', e1, e2, e3, e4⟩ := run_al (P := P) (x := .tuple #[]) s hS h
    exact ⟨r, w', L', x', A', H', by simp [execOp, ho, e1], e2, e3, e4⟩
  case box t x =>
    obtain ⟨rx, hx, hK⟩ := withA_ok h
    refine opv_mem fun w0 S hS w a L s => ?_
    obtain ⟨r, w', L', x', A', H', e1, e2, e3, e4⟩ := run_bx (P := P) (t := t) s hS (s.ev hx) hK
    exact ⟨r, w', L', x', A', H', by simp [execOp, ho, e1], e2, e3, e4⟩
  case build t parts =>
    refine opv_mem fun w0 S hS w a L s => ?_
    obtain ⟨r, x, e1, e2, e3⟩ := run_bd (P := P) (t := t) s (fun r => K r A H) h
    exact ⟨r, w, L, x, A, H, by simp only [Array.toArray_toList] at e1; simp [execOp, ho, e1], s, e2, e3⟩
  case buildSlice t len parts =>
    refine opv_mem fun w0 S hS w a L s => ?_
    obtain ⟨r, w', L', x', A', H', e1, e2, e3, e4⟩ := run_bs (P := P) (t := t) s hS h
    exact ⟨r, w', L', x', A', H', by simp only [Array.toArray_toList] at e1; simp [execOp, ho, e1], e2, e3, e4⟩
  case load t x =>
    obtain ⟨rx, hx, hK⟩ := withA_ok h
    refine opv_mem fun w0 S hS w a L s => ?_
    obtain ⟨r, x', e1, e2, e3⟩ := run_loadAt (P := P) (t := t) s (fun r => K r A H) (s.ev hx) hK
    exact ⟨r, w, L, x', A, H, by simp [execOp, ho, e1 w (fun _ _ => rfl)], s, e2, e3⟩
  case store t x y =>
    obtain ⟨rx, hx, hK⟩ := withA_ok h
    obtain ⟨ry, hy, hK⟩ := withA_ok hK
    refine opv_skip fun w0 S hS w a L s => ?_
    obtain ⟨w', H', e1, e2, e3⟩ := run_storeAt (P := P) (t := t) s hS (fun H => K .dead A H) (s.ev hx) (s.ev hy) hK
    exact ⟨w', L, A, H', by simp [execOp, ho, e1], e2, e3⟩
  case nilCheck x =>
    obtain ⟨r, hx, hp, hK⟩ := withA_ok h
    refine opv_val r hK fun w0 S w a L s => ⟨a.eval x, ?_, s.ev hx⟩
    have hr := s.ev hx
    cases r <;> simp only [ptrOk, Bool.false_eq_true] at hp
    case ref => obtain ⟨b, s', _, e⟩ := hr; simp [execOp, ho, e]
    case ptr => obtain ⟨p, e, _⟩ := hr; simp [execOp, ho, e]
    case clo => obtain ⟨cs, e, _⟩ := hr; simp [execOp, ho, e]
  case binOp op t x y yt =>
    obtain ⟨rx, hx, hK⟩ := withA_ok h
    obtain ⟨ry, hy, hK⟩ := withA_ok hK
    refine opv_mem fun w0 S hS w a L s => ?_
    obtain ⟨r, e1, e2⟩ := run_binOp (P := P) op t x y rx ry (fun r => K r A H) w (s.ev hx) (s.ev hy) hK
    exact ⟨r, w, L, .v r, A, H, by simp only [execOp, ho]; rw [Sem.run_bind, e1]; rfl, s, rfl, e2⟩
  case unOp op t x =>
    obtain ⟨rx, hx, hK⟩ := withA_ok h
    refine opv_mem fun w0 S hS w a L s => ?_
    obtain ⟨r, e1, e2⟩ := run_unary (P := P) op rx (fun r => K r A H) w (s.ev hx) hK
    exact ⟨r, w, L, .v r, A, H, by simp [execOp, ho, e1], s, rfl, e2⟩
  case convert sT dT x =>
    obtain ⟨rx, hx, hK⟩ := withA_ok h
    refine opv_mem fun w0 S hS w a L s => ?_
    obtain ⟨r, w', x', e1, e2, e3, e4⟩ := run_cv (P := P) s hS (fun r => K r A H) (s.ev hx) hK
    exact ⟨r, w', L, x', A, H, by simp [execOp, ho, e1], e2, e3, e4⟩
  case lookup t x i ok =>
    obtain ⟨rx, hx, hK⟩ := withA_ok h
    obtain ⟨ry, hy, hK⟩ := withA_ok hK
    refine opv_mem fun w0 S hS w a L s => ?_
    obtain ⟨r, x', e1, e2, e3⟩ := run_lk (P := P) (t := t) s (fun r => K r A H) (s.ev hx) (s.ev hy) hK
    exact ⟨r, w, L, x', A, H, by simp [execOp, ho, e1], s, e2, e3⟩
  case mapUpdate t m k x =>
    obtain ⟨rx, hx, hK⟩ := withA_ok h
    obtain ⟨ry, hy, hK⟩ := withA_ok hK
    obtain ⟨rz, hz, hK⟩ := withA_ok hK
    refine opv_skip fun w0 S hS w a L s => ?_
    obtain ⟨w', H', e1, e2, e3⟩ := run_mu (P := P) (t := t) s hS (fun H => K .dead A H) (s.ev hx) (s.ev hy) (s.ev hz) hK
    exact ⟨w', L, A, H', by simp [execOp, ho, e1], e2, e3⟩
  case insert t m k x =>
    obtain ⟨rx, hx, hK⟩ := withA_ok h
    obtain ⟨ry, hy, hK⟩ := withA_ok hK
    obtain ⟨rz, hz, hK⟩ := withA_ok hK
    refine opv_skip fun w0 S hS w a L s => ?_
    obtain ⟨w', H', e1, e2, e3⟩ := run_mu (P := P) (t := t) s hS (fun H => K .dead A H) (s.ev hx) (s.ev hy) (s.ev hz) hK
    exact ⟨w', L, A, H', by simp [execOp, ho, e1], e2, e3⟩
  case makeMap t rs =>
    cases rs with
    | none =>
      refine opv_mem fun w0 S hS w a L s => ?_
      obtain ⟨r, w', L', x', A', H', e1, e2, e3, e4⟩ := run_mmk (P := P) (t := t) (rs := none) s hS (fun v hv => by cases hv) h
      exact ⟨r, w', L', x', A', H', by simp [execOp, ho, e1], e2, e3, e4⟩
    | some x =>
      obtain ⟨rx, hx, hK⟩ := withA_ok h
      split at hK
      · rename_i kk n
        refine opv_mem fun w0 S hS w a L s => ?_
        have hev : a.eval x = .int kk n := s.ev hx
        obtain ⟨r, w', L', x', A', H', e1, e2, e3, e4⟩ := run_mmk (P := P) (t := t) (rs := some (.int kk n)) s hS (fun v hv => by cases hv; exact ⟨_, _, rfl⟩) hK
        exact ⟨r, w', L', x', A', H', by simp [execOp, ho, hev, e1], e2, e3, e4⟩
      · exact hK.elim
  case makeFunc fn first caps =>
    split at h
    all_goals first | exact h.elim | skip
    rename_i f
    obtain ⟨rfl, h⟩ := h
    obtain ⟨l, hl, hK⟩ := withArgs_ok h
    refine opv_val _ hK fun w0 S w a L s => ⟨_, by simp [execOp, ho, Instr.makeFunc]; rfl, ?_⟩
    obtain ⟨h1, h2⟩ := evArgs_ok s caps.toList l hl
    refine ⟨_, rfl, by simpa using h1, fun i hi => ?_⟩
    obtain ⟨u, k1, k2⟩ := h2 i l[i] (by simp [hi])
    refine ⟨u, by simpa using k1, ?_⟩
    have : vecF l i = l[i] := by simp [vecF, hi]
    rw [this]; exact k2
  case makeSlice t l c =>
    obtain ⟨rx, hx, hK⟩ := withA_ok h
    obtain ⟨ry, hy, hK⟩ := withA_ok hK
    refine opv_mem fun w0 S hS w a L s => ?_
    obtain ⟨r, w', L', x', A', H', e1, e2, e3, e4⟩ := run_mk (P := P) (t := t) s hS (s.ev hx) (s.ev hy) hK
    exact ⟨r, w', L', x', A', H', by simp [execOp, ho, e1], e2, e3, e4⟩
  case slice t x lo hi mx =>
    split at h
    all_goals first | exact h.elim | skip
    obtain ⟨rx, hx, hK⟩ := withA_ok h
    obtain ⟨d1, l1, d2, h1', b1, b2⟩ := slVC_bnd hK
    refine opv_mem fun w0 S hS w a L s => ?_
    obtain ⟨r, x', e1, e2, e3⟩ := run_sl (P := P) (t := t) (fun r => K r A H) (s.ev hx) (bound_bnd s lo b1) (bound_bnd s hi b2) hK
    exact ⟨r, w, L, x', A, H, by simp [execOp, ho, e1], s, e2, e3⟩
  case fieldAddr t x i =>
    obtain ⟨rx, hx, hK⟩ := withA_ok h
    refine opv_mem fun w0 S hS w a L s => ?_
    obtain ⟨r, x', e1, e2, e3⟩ := run_fa (P := P) (w := w) (fun r => K r A H) (s.ev hx) hK
    exact ⟨r, w, L, x', A, H, by simp [execOp, ho, e1], s, e2, e3⟩
  case field t x i =>
    obtain ⟨rx, hx, hK⟩ := withA_ok h
    refine opv_mem fun w0 S hS w a L s => ?_
    obtain ⟨r, x', e1, e2, e3⟩ := run_fd (P := P) (w := w) (fun r => K r A H) (s.ev hx) hK
    exact ⟨r, w, L, x', A, H, by simp [execOp, ho, e1], s, e2, e3⟩
  case indexAddr t x i =>
    obtain ⟨rx, hx, hK⟩ := withA_ok h
    obtain ⟨ry, hy, hK⟩ := withA_ok hK
    refine opv_mem fun w0 S hS w a L s => ?_
    obtain ⟨r, x', e1, e2, e3⟩ := run_indexAt (P := P) (w := w) (fun r => K r A H) (s.ev hx) (s.ev hy) hK
    exact ⟨r, w, L, x', A, H, by simp [execOp, ho, e1], s, e2, e3⟩
  case index t x i =>
    obtain ⟨rx, hx, hK⟩ := withA_ok h
    obtain ⟨ry, hy, hK⟩ := withA_ok hK
    refine opv_mem fun w0 S hS w a L s => ?_
    obtain ⟨r, e1, e3⟩ := run_ch (P := P) (w := w) (fun r => K r A H) (s.ev hx) (s.ev hy) hK
    exact ⟨r, w, L, .v r, A, H, by simp [execOp, ho, e1], s, rfl, e3⟩
  case extract t i =>
    obtain ⟨rx, hx, hK⟩ := withA_ok h
    split at hK
    · rename_i n f
      obtain ⟨hi, hK⟩ := hK
      refine opv_mem fun w0 S hS w a L s => ?_
      obtain ⟨cs, e1, e2, e3⟩ := s.ev hx
      obtain ⟨c, e4, e5⟩ := e3 i hi
      exact ⟨c, w, L, f i, A, H, by simp [execOp, ho, e1, Instr.extract, e4], s, e5, hK⟩
    · exact hK.elim
  case call c =>
    obtain ⟨callee, args, tys⟩ := c
    cases callee with
    | builtin b =>
      obtain ⟨l, hl, hK⟩ := withArgs_ok h
      exact bcall_ok ho hl hK
    | invoke r m => exact h.elim
    | value f =>
      simp only at h
      split at h
      · rename_i g caps hg
        obtain ⟨l, hl, hK⟩ := withArgs_ok h
        refine opv_calls hK fun w0 S w a L s => ?_
        obtain ⟨h1, h2⟩ := evArgs_ok s args.toList l hl
        unfold calleeOf at hg
        split at hg
        · rename_i fn xa xb he
          split at hg
          case h_2 => simp at hg
          rename_i f'
          split at hg
          case isFalse => simp at hg
          rename_i hz
          have e1 : xa = #[] := Array.eq_empty_of_size_eq_zero hz.1
          have e2 : xb = #[] := Array.eq_empty_of_size_eq_zero hz.2
          subst e1 e2
          simp only [Option.some.injEq, Prod.mk.injEq] at hg
          obtain ⟨rfl, rfl⟩ := hg
          have hev : a.eval f = .func (.func f') #[] #[] := s.ev he
          refine ⟨args.map a.eval, ?_, by simpa [RdArgs] using And.intro h1 h2⟩
          simp [execOp, ho, resolve, hev, Deferred.ofValue, invoke, run_callFunc hK.1]
        · rename_i f' n gg he
          simp only [Option.some.injEq, Prod.mk.injEq] at hg
          obtain ⟨rfl, rfl⟩ := hg
          obtain ⟨cs, hev, c1, c2⟩ := s.ev he
          refine ⟨args.map a.eval ++ cs, ?_, ?_⟩
          · simp [execOp, ho, resolve, hev, Deferred.ofValue, invoke, run_callFunc hK.1]
          · refine ⟨by simp at h1 ⊢; omega, fun i x hi => ?_⟩
            simp at h1
            by_cases hlt : i < l.length
            · rw [List.getElem?_append_left hlt] at hi
              obtain ⟨u, k1, k2⟩ := h2 i x hi
              refine ⟨u, ?_, k2⟩
              rw [Array.getElem?_append_left (by simp; omega)]
              simpa using k1
            · rw [List.getElem?_append_right (by omega)] at hi
              have hn : i - l.length < n := by
                have := (List.getElem?_eq_some_iff.1 hi).1
                simpa using this
              simp [hn] at hi
              subst hi
              obtain ⟨c, k1, k2⟩ := c2 (i - l.length) hn
              refine ⟨c, ?_, k2⟩
              rw [Array.getElem?_append_right (by simp; omega)]
              simpa [h1] using k1
        · simp at hg
      · exact h.elim

end
end Go.Av

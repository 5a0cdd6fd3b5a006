/- What each operation asks and gives, over abstract frames: operations that turn no memory. -/
import Derived.Test.YtfgblelbhlpfjaaAv3
import Derived.Laws.Entries
import Derived.Laws.Wrap64
import Derived.Laws.BitsLemmas
namespace Go.Av

def Ob (p q : Prop) : Prop := p ∧ q
theorem Ob.mk {p q : Prop} (h : p) (k : q) : Ob p q := ⟨h, k⟩
def Br (b : Bool) (x y : Prop) : Prop := (b = true → x) ∧ (b = false → y)
def BrP (p : Prop) (x y : Prop) : Prop := (p → x) ∧ (¬ p → y)
theorem Br.mk {b : Bool} {x y : Prop} (h : b = true → x) (k : b = false → y) : Br b x y := ⟨h, k⟩
theorem BrP.mk {p x y : Prop} (h : p → x) (k : ¬ p → y) : BrP p x y := ⟨h, k⟩
@[go_sem] theorem Br_true (x y : Prop) : Br true x y = x := by simp [Br]
@[go_sem] theorem Br_false (x y : Prop) : Br false x y = y := by simp [Br]
@[go_sem] theorem Br_decide (p : Prop) [Decidable p] (x y : Prop) : Br (decide p) x y = BrP p x y := by simp [Br, BrP]
@[go_sem] theorem Br_not (b : Bool) (x y : Prop) : Br (!b) x y = Br b y x := by cases b <;> simp [Br]

def withA (a : Option AV) (K : AV → Prop) : Prop :=
  match a with
  | some a => K a
  | none => False
@[go_sem] theorem withA_some (a : AV) (K : AV → Prop) : withA (some a) K = K a := rfl

section
variable {P : Program} {N : Cx} {A : Fr} {H : Hp} {K : AV → Fr → Hp → Prop}

theorem opv_val {o : Oper} (r : AV) (hK : K r A H)
    (hrun : ∀ w0 S w (a : Act) L, Sim N.n w0 S w a.tmps L A H → ∃ u, (execOp a.eval o).run P w = .ok (.value u) w ∧ Rd w (okb S H L) L r u) : OpV P N o A H K := by
  intro w0 S hS w a L s next Q' hn
  obtain ⟨u, h1, h2⟩ := hrun w0 S w a L s
  unfold Oper.wp
  rw [h1]
  exact hn u r L A H w s h2 hK

/- arithmetic -/
def intVC (op : BinOp) (k : IntKind) (m n : Int) (K : AV → Prop) : Prop :=
  match op with
  | .add => K (.v (.int k (k.wrap (m + n))))
  | .sub => K (.v (.int k (k.wrap (m - n))))
  | .mul => K (.v (.int k (k.wrap (m * n))))
  | .quo => Ob (n ≠ 0) (K (.v (.int k (k.wrap (m.tdiv n)))))
  | .rem => Ob (n ≠ 0) (K (.v (.int k (m.tmod n))))
  | .and => K (.v (.int k (k.wrap (BitVec.ofInt k.bits m &&& BitVec.ofInt k.bits n).toNat)))
  | .or => K (.v (.int k (k.wrap (BitVec.ofInt k.bits m ||| BitVec.ofInt k.bits n).toNat)))
  | .xor => K (.v (.int k (k.wrap (BitVec.ofInt k.bits m ^^^ BitVec.ofInt k.bits n).toNat)))
  | .andNot => K (.v (.int k (k.wrap (BitVec.ofInt k.bits m &&& ~~~ BitVec.ofInt k.bits n).toNat)))
  | .eql => K (.v (.bool (decide (m = n))))
  | .neq => K (.v (.bool (!decide (m = n))))
  | .lss => K (.v (.bool (decide (m < n))))
  | .leq => K (.v (.bool (decide (m ≤ n))))
  | .gtr => K (.v (.bool (decide (n < m))))
  | .geq => K (.v (.bool (decide (n ≤ m))))
  | _ => False

def shVC (op : BinOp) (k : IntKind) (m n : Int) (K : AV → Prop) : Prop :=
  match op with
  | .shl => Ob (0 ≤ n) (K (.v (.int k (k.wrap (m * 2 ^ min n.toNat k.bits)))))
  | .shr => Ob (0 ≤ n) (K (.v (.int k (m.fdiv (2 ^ min n.toNat k.bits)))))
  | _ => False

def strVC (op : BinOp) (s t : ByteArray) (K : AV → Prop) : Prop :=
  match op with
  | .add => Ob (s.size + t.size ≤ 9223372036854775807) (K (.v (.string (s ++ t))))
  | .eql => K (.v (.bool (s.toList == t.toList)))
  | .neq => K (.v (.bool (!(s.toList == t.toList))))
  | _ => False

/-- Is this type's underlying type of the kind that '==' against nil, or on bools, wants? -/
inductive EqT | bool | slice | ptr | other
  deriving DecidableEq
def eqT (P : Program) (t : TypeId) : EqT :=
  match P.underlying t with
  | some .bool => .bool
  | some (.slice _) => .slice
  | some (.pointer _) => .ptr
  | _ => .other

def boolVC (P : Program) (op : BinOp) (t : TypeId) (a b : Bool) (K : AV → Prop) : Prop :=
  match op with
  | .eql => Ob (eqT P t = .bool) (K (.v (.bool (a == b))))
  | .neq => Ob (eqT P t = .bool) (K (.v (.bool (!(a == b)))))
  | _ => False

/-- Is this slice, this pointer nil? (`none`: not known) -/
def nilSl : AV → Option Bool
  | .v (.slice none _ _) => some true
  | .list nn _ n _ => if nn || 0 < n then some false else none
  | .own _ _ _ n => if 0 < n then some false else none
  | _ => none
def nilPt : AV → Option Bool
  | .v (.pointer none) => some true
  | .ref _ _ => some false
  | .ptr _ _ => some false
  | _ => none

def nilVC (op : BinOp) (a : Option Bool) (K : AV → Prop) : Prop :=
  match op, a with
  | .eql, some b => K (.v (.bool b))
  | .neq, some b => K (.v (.bool (!b)))
  | _, _ => False

def binVC (P : Program) (op : BinOp) (t : TypeId) (a b : AV) (K : AV → Prop) : Prop :=
  match a, b with
  | .v (.int k m), .v (.int k' n) =>
    match op with
    | .shl => shVC .shl k m n K
    | .shr => shVC .shr k m n K
    | op => Ob (k = k') (intVC op k m n K)
  | .v (.string s), .v (.string r) => strVC op s r K
  | .v (.bool x), .v (.bool y) => boolVC P op t x y K
  | a, .v (.slice none _ _) => Ob (eqT P t = .slice) (nilVC op (nilSl a) K)
  | a, .v (.pointer none) => Ob (eqT P t = .ptr) (nilVC op (nilPt a) K)
  | _, _ => False

def unVC (op : UnOp) (a : AV) (K : AV → Prop) : Prop :=
  match op, a with
  | .neg, .v (.int k n) => K (.v (.int k (k.wrap (0 - n))))
  | .not, .v (.bool b) => K (.v (.bool !b))
  | _, _ => False

theorem run_binOp_int (op : BinOp) (t : TypeId) (k k' : IntKind) (m n : Int) (K : AV → Prop) (h : binVC P op t (.v (.int k m)) (.v (.int k' n)) K) :
    ∃ u, (∀ w, (binOp op t (.int k m) (.int k' n)).run P w = .ok u w) ∧ K (.v u) := by
  cases op <;> simp only [binVC, shVC, intVC, Ob] at h
  case shl =>
    obtain ⟨h1, h2⟩ := h
    exact ⟨_, fun w => by simp [binOp, Op.shift, Int.not_lt.2 h1], h2⟩
  case shr =>
    obtain ⟨h1, h2⟩ := h
    exact ⟨_, fun w => by simp [binOp, Op.shift, Int.not_lt.2 h1], h2⟩
  case quo =>
    obtain ⟨rfl, h1, h2⟩ := h
    exact ⟨_, fun w => by simp [binOp, Op.intDiv, h1], h2⟩
  case rem =>
    obtain ⟨rfl, h1, h2⟩ := h
    exact ⟨_, fun w => by simp [binOp, Op.intDiv, h1], h2⟩
  all_goals
    obtain ⟨rfl, h2⟩ := h
    refine ⟨_, fun w => ?_, h2⟩
    simp [binOp, Op.intArith, Op.intBits, Op.intCmp]
  all_goals first | rfl | (rw [Bool.eq_iff_iff]; simp)

theorem run_eqGuard (op : BinOp) (t : TypeId) (x y : Operand) (a b : Value) (w : World) (h1 : ∀ cs, a ≠ .agg cs) (h2 : a ≠ .nilIface) : (eqGuard op t x y a b).run P w = .ok () w := by
  unfold eqGuard
  cases op <;> simp <;> (cases a <;> simp_all)

theorem run_binOp_str (op : BinOp) (t : TypeId) (s r : ByteArray) (K : AV → Prop) (h : binVC P op t (.v (.string s)) (.v (.string r)) K) :
    ∃ u, (∀ w, (binOp op t (.string s) (.string r)).run P w = .ok u w) ∧ K (.v u) := by
  cases op <;> simp only [binVC, strVC, Ob] at h
  case add =>
    obtain ⟨h1, h2⟩ := h
    refine ⟨_, fun w => ?_, h2⟩
    have : ¬ (IntKind.i64.max < ((s.size : Int) + (r.size : Int))) := by
      have : IntKind.i64.max = 9223372036854775807 := by decide
      omega
    simpa [binOp, Op.stringOp] using this
  all_goals exact ⟨_, fun w => by simp [binOp, Op.stringOp], h⟩

theorem eqT_bool {t : TypeId} (h : eqT P t = .bool) : P.underlying t = some .bool := by
  unfold eqT at h
  split at h <;> simp_all
theorem eqT_slice {t : TypeId} (h : eqT P t = .slice) : ∃ e, P.underlying t = some (.slice e) := by
  unfold eqT at h
  split at h <;> simp_all
theorem eqT_ptr {t : TypeId} (h : eqT P t = .ptr) : ∃ e, P.underlying t = some (.pointer e) := by
  unfold eqT at h
  split at h <;> simp_all

theorem run_equalIn_bool' (d : Nat) (t : TypeId) (a b : Bool) (w : World) (h : P.underlying t = some .bool) : (Op.equalIn (d + 1) t (.bool a) (.bool b)).run P w = .ok (a == b) w := by
  simp [Op.equalIn, run_underlying h]
theorem run_equal_bool' (t : TypeId) (a b : Bool) (w : World) (h : P.underlying t = some .bool) : (Op.equal t (.bool a) (.bool b)).run P w = .ok (a == b) w := run_equalIn_bool' 9999 t a b w h
theorem run_equalIn_slice' (d : Nat) (t e : TypeId) (a : Option Addr) (n c n' c' : Nat) (w : World) (h : P.underlying t = some (.slice e)) :
    (Op.equalIn (d + 1) t (.slice a n c) (.slice none n' c')).run P w = .ok a.isNone w := by
  cases a <;> simp [Op.equalIn, run_underlying h]
theorem run_equal_slice' (t e : TypeId) (a : Option Addr) (n c n' c' : Nat) (w : World) (h : P.underlying t = some (.slice e)) :
    (Op.equal t (.slice a n c) (.slice none n' c')).run P w = .ok a.isNone w := run_equalIn_slice' 9999 t e a n c n' c' w h
theorem run_equalIn_pointer' (d : Nat) (t e : TypeId) (a : Option Addr) (w : World) (h : P.underlying t = some (.pointer e)) :
    (Op.equalIn (d + 1) t (.pointer a) (.pointer none)).run P w = .ok a.isNone w := by
  cases a <;> simp [Op.equalIn, run_underlying h]
theorem run_equal_pointer' (t e : TypeId) (a : Option Addr) (w : World) (h : P.underlying t = some (.pointer e)) :
    (Op.equal t (.pointer a) (.pointer none)).run P w = .ok a.isNone w := run_equalIn_pointer' 9999 t e a w h

theorem run_binOp_bool (op : BinOp) (t : TypeId) (a b : Bool) (K : AV → Prop) (h : binVC P op t (.v (.bool a)) (.v (.bool b)) K) :
    ∃ u, (∀ w, (binOp op t (.bool a) (.bool b)).run P w = .ok u w) ∧ K (.v u) := by
  cases op <;> simp only [binVC, boolVC, Ob] at h
  all_goals
    obtain ⟨h1, h2⟩ := h
    have h3 := fun w => run_equal_bool' t a b w (eqT_bool h1)
    refine ⟨_, fun w => ?_, h2⟩
    simp [binOp, h3]

theorem nilSl_ok {a : AV} {b : Bool} (h : nilSl a = some b) {w : World} {ok : Nat → Prop} {L : Loc} {u : Value} (hu : Rd w ok L a u) : ∃ x n c, u = .slice x n c ∧ x.isNone = b := by
  unfold nilSl at h
  split at h
  · simp only [Option.some.injEq] at h; subst h; exact ⟨_, _, _, hu, rfl⟩
  · rename_i nn sz n f
    obtain ⟨x, cap, h1, h2, h3, h4, _⟩ := hu
    refine ⟨x, n, cap, h1, ?_⟩
    split at h
    · rename_i hc
      simp only [Option.some.injEq] at h
      subst h
      cases x with
      | some x => rfl
      | none =>
        simp at hc
        rcases hc with hc | hc
        · exact absurd rfl (h3 hc)
        · have := (h4 rfl).1; omega
    · simp at h
  · rename_i h0 off sz n
    split at h
    · rename_i hc
      simp only [Option.some.injEq] at h
      subst h
      simp only [Rd] at hu
      split at hu
      · omega
      · obtain ⟨x, cap, h1, _⟩ := hu
        exact ⟨some x, n, cap, h1, rfl⟩
    · simp at h
  · simp at h
theorem nilPt_ok {a : AV} {b : Bool} (h : nilPt a = some b) {w : World} {ok : Nat → Prop} {L : Loc} {u : Value} (hu : Rd w ok L a u) : ∃ x, u = .pointer x ∧ x.isNone = b := by
  unfold nilPt at h
  split at h <;> simp only [Option.some.injEq, reduceCtorEq] at h
  · subst h; exact ⟨_, hu, rfl⟩
  · subst h; obtain ⟨b, s, _, h2⟩ := hu; exact ⟨_, h2, rfl⟩
  · subst h; obtain ⟨p, h1, _⟩ := hu; exact ⟨_, h1, rfl⟩

theorem run_binOp (op : BinOp) (t : TypeId) (x y : Operand) (a b : AV) (K : AV → Prop) (w : World) {ok : Nat → Prop} {L : Loc} {u v : Value} (hu : Rd w ok L a u) (hv : Rd w ok L b v)
    (h : binVC P op t a b K) : ∃ r, (∀ w, (do eqGuard op t x y u v; binOp op t u v : Sem Value).run P w = .ok r w) ∧ K (.v r) := by
  have fin : ∀ r, (∀ cs, u ≠ .agg cs) → u ≠ .nilIface → (∀ w, (binOp op t u v).run P w = .ok r w) → ∀ w, (do eqGuard op t x y u v; binOp op t u v : Sem Value).run P w = .ok r w := by
    intro r h1 h2 h3 w
    simp [run_eqGuard op t x y u v w h1 h2, h3]
  unfold binVC at h
  split at h
  · obtain ⟨r, h1, h2⟩ := run_binOp_int op t _ _ _ _ K h
    cases hu; cases hv
    exact ⟨r, fin r (by simp) (by simp) h1, h2⟩
  · obtain ⟨r, h1, h2⟩ := run_binOp_str op t _ _ K h
    cases hu; cases hv
    exact ⟨r, fin r (by simp) (by simp) h1, h2⟩
  · obtain ⟨r, h1, h2⟩ := run_binOp_bool op t _ _ K h
    cases hu; cases hv
    exact ⟨r, fin r (by simp) (by simp) h1, h2⟩
  · obtain ⟨h1, h2⟩ := h
    obtain ⟨e, he⟩ := eqT_slice h1
    cases hv
    cases hn : nilSl a with
    | none => cases op <;> simp [nilVC, hn] at h2
    | some c =>
      obtain ⟨x, n, cc, rfl, rfl⟩ := nilSl_ok hn hu
      have hr := fun n' c' w => run_equal_slice' t e x n cc n' c' w he
      cases op <;> simp only [nilVC, hn] at h2
      all_goals exact ⟨_, fin _ (by simp) (by simp) (fun w => by simp [binOp, hr]), h2⟩
  · obtain ⟨h1, h2⟩ := h
    obtain ⟨e, he⟩ := eqT_ptr h1
    cases hv
    cases hn : nilPt a with
    | none => cases op <;> simp [nilVC, hn] at h2
    | some c =>
      obtain ⟨x, rfl, rfl⟩ := nilPt_ok hn hu
      have hr := fun w => run_equal_pointer' t e x w he
      cases op <;> simp only [nilVC, hn] at h2
      all_goals exact ⟨_, fin _ (by simp) (by simp) (fun w => by simp [binOp, hr]), h2⟩
  · exact h.elim

theorem run_unary (op : UnOp) (a : AV) (K : AV → Prop) (w : World) {ok : Nat → Prop} {L : Loc} {u : Value} (hu : Rd w ok L a u) (h : unVC op a K) : ∃ r, (∀ w, (Op.unary op u).run P w = .ok r w) ∧ K (.v r) := by
  unfold unVC at h
  split at h
  · cases hu; exact ⟨_, fun w => by simp [Op.unary, Op.intArith], h⟩
  · cases hu; exact ⟨_, fun w => by simp [Op.unary], h⟩
  · exact h.elim

end
end Go.Av

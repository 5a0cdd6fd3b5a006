/- The set of rewriting rules by which a region's proposition is worked out. -/
import Derived.Test.YtfgblelbhlpfjaaAv14
namespace Go.Av

@[go_sem] theorem Ob_true (q : Prop) : Ob True q = q := by simp [Ob]
@[go_sem] theorem Ob_and (p q r : Prop) : Ob (p ∧ q) r = Ob p (Ob q r) := by simp [Ob, and_assoc]
@[go_sem] theorem BrP_true (x y : Prop) : BrP True x y = x := by simp [BrP]
@[go_sem] theorem BrP_false (x y : Prop) : BrP False x y = y := by simp [BrP]
@[go_sem] theorem Br_beq {α : Type} [BEq α] [LawfulBEq α] (a b : α) (x y : Prop) : Br (a == b) x y = BrP (a = b) x y := by
  by_cases h : a = b
  · simp [h, Br, BrP]
  · simp [h, Br, BrP]

theorem Hp.upd_app (H : Hp) (h : Nat) (b : Blk) (g : Nat) : (H.upd h b) g = if g = h then some b else H g := rfl
theorem Hp.emp_app (g : Nat) : Hp.emp g = none := rfl
theorem Hp.scrub_upd (H : Hp) (h : Nat) (b : Blk) (p : Nat → Bool) : (H.upd h b).scrub p = (H.scrub p).upd h (b.scrub p) := by
  funext g; simp only [Hp.scrub, Hp.upd]; split <;> rfl
theorem Hp.scrub_emp (p : Nat → Bool) : Hp.emp.scrub p = Hp.emp := rfl
theorem Hp.upd_upd (H : Hp) (h : Nat) (b c : Blk) : (H.upd h b).upd h c = H.upd h c := by
  funext g; simp only [Hp.upd]; split <;> rfl

/-- The cells of a block, each without the names of p. -/
def scF (p : Nat → Bool) (f : Nat → AV) : Nat → AV := fun i => (f i).scrub p
theorem Blk.scrub_cells (p : Nat → Bool) (n : Nat) (f : Nat → AV) : (Blk.cells n f).scrub p = .cells n (scF p f) := rfl
theorem scF_iv (p : Nat → Bool) (d : Int) (xs : List (Int)) : scF p (cM iv d xs) = cM iv d xs := rfl
theorem scF_bv (p : Nat → Bool) (d : Bool) (xs : List (Bool)) : scF p (cM bv d xs) = cM bv d xs := rfl
theorem scF_sv (p : Nat → Bool) (d : ByteArray) (xs : List (ByteArray)) : scF p (cM sv d xs) = cM sv d xs := rfl
theorem scF_uv (p : Nat → Bool) (d : UInt8) (xs : List (UInt8)) : scF p (cM uv d xs) = cM uv d xs := rfl
theorem scF_ints (p : Nat → Bool) (d : List Int) (xs : List (List Int)) : scF p (cM ints d xs) = cM ints d xs := rfl
theorem scF_intss (p : Nat → Bool) (d : List (List Int)) (xs : List (List (List Int))) : scF p (cM intss d xs) = cM intss d xs := rfl
theorem scF_zF (p : Nat → Bool) (zs : List Value) : scF p (zF zs) = zF zs := rfl
theorem scF_setF (p : Nat → Bool) (f : Nat → AV) (i : Nat) (x : AV) : scF p (setF f i x) = setF (scF p f) i (x.scrub p) := by
  funext j; simp only [scF, setF]; split <;> rfl
theorem scF_setsF (p : Nat → Bool) (f : Nat → AV) (i n : Nat) (g : Nat → AV) : scF p (setsF f i n g) = setsF (scF p f) i n (scF p g) := by
  funext j; simp only [scF, setsF]; split <;> rfl
theorem scF_apF (p : Nat → Bool) (n : Nat) (f g : Nat → AV) : scF p (apF n f g) = apF n (scF p f) (scF p g) := by
  funext j; simp only [scF, apF]; split <;> rfl
theorem scF_shF (p : Nat → Bool) (n : Nat) (f : Nat → AV) : scF p (shF n f) = shF n (scF p f) := rfl
theorem scF_const (p : Nat → Bool) (x : AV) : scF p (fun _ => x) = fun _ => x.scrub p := rfl

theorem cM_iv_app (xs : List Int) (i : Nat) : cM iv 0 xs i = .v (.int .i64 (xs.getD i 0)) := rfl
theorem cM_bv_app (xs : List Bool) (i : Nat) : cM bv false xs i = .v (.bool (xs.getD i false)) := rfl
theorem cM_ints_app (xs : List (List Int)) (i : Nat) : cM ints [] xs i = .list false 1 (xs.getD i []).length (cM iv 0 (xs.getD i [])) := rfl

theorem cM_rep {α : Type} (g : α → AV) (d : α) (n : Nat) : cM g d (List.replicate n d) = fun _ => g d := by
  funext i
  simp only [cM, List.getD_eq_getElem?_getD, List.getElem?_replicate]
  split <;> rfl
/-- A block that make lays: zeros. -/
theorem zF_iv (n : Nat) : Blk.cells n (zF [.int .i64 0]) = .cells n (cM iv 0 (List.replicate n 0)) := by
  rw [cM_rep]; congr 1; funext i; simp [zF, iv, Nat.mod_one]
theorem zF_bv (n : Nat) : Blk.cells n (zF [.bool false]) = .cells n (cM bv false (List.replicate n false)) := by
  rw [cM_rep]; congr 1; funext i; simp [zF, bv, Nat.mod_one]

/-- Literal rows. -/
theorem lit1 (a : Int) : setF (zF [.int .i64 0]) 0 (.v (.int .i64 a)) = cM iv 0 [a] := by
  funext j
  match j with
  | 0 => rfl
  | j + 1 => simp [setF, zF, cM, iv, Nat.mod_one]
theorem lit2 (a b : Int) : setF (cM iv 0 [a]) 1 (.v (.int .i64 b)) = cM iv 0 [a, b] := by
  funext j
  match j with
  | 0 => rfl
  | 1 => rfl
  | j + 2 => simp [setF, cM, iv]
theorem setF_iv (xs : List Int) (i : Nat) (x : Int) (h : i < xs.length) : setF (cM iv 0 xs) i (.v (.int .i64 x)) = cM iv 0 (xs.set i x) := setF_cM iv 0 xs i x h
theorem setF_bv (xs : List Bool) (i : Nat) (x : Bool) (h : i < xs.length) : setF (cM bv false xs) i (.v (.bool x)) = cM bv false (xs.set i x) := setF_cM bv false xs i x h

theorem wrap64 {x : Int} (h : -9223372036854775808 ≤ x ∧ x ≤ 9223372036854775807) : IntKind.i64.wrap x = x := by
  rw [IntKind.wrap_i64]; omega

theorem vecF_0 (a : AV) (l : List AV) : vecF (a :: l) 0 = a := rfl
theorem vecF_succ (a : AV) (l : List AV) (i : Nat) : vecF (a :: l) (i + 1) = vecF l i := by simp [vecF]
theorem vecF_1 (a b : AV) (l : List AV) : vecF (a :: b :: l) 1 = b := rfl
theorem vecF_2 (a b c : AV) (l : List AV) : vecF (a :: b :: c :: l) 2 = c := rfl
theorem withArgs_some (l : List AV) (K : List AV → Prop) : withArgs (some l) K = K l := rfl

/-- A sequence, what follows behind a name. -/
theorem awp_seqK {P : Program} {N : Cx} {Q : Exit → Fr → Hp → Prop} {A : Fr} {H : Hp} {x y : Code} (h : ∀ K : Fr → Hp → Prop, (∀ A H, AWP P N y Q A H → K A H) → AWP P N x (thenA K Q) A H) : AWP P N (.seq x y) Q A H :=
  awp_seq (h _ fun _ _ h => h)

theorem thenA_normal (K : Fr → Hp → Prop) (Q : Exit → Fr → Hp → Prop) (A : Fr) (H : Hp) : thenA K Q .normal A H = K A H := rfl
theorem thenA_ret (K : Fr → Hp → Prop) (Q : Exit → Fr → Hp → Prop) (A : Fr) (H : Hp) : thenA K Q .ret A H = Q .ret A H := rfl
theorem thenA_exit (K : Fr → Hp → Prop) (Q : Exit → Fr → Hp → Prop) (i : Nat) (A : Fr) (H : Hp) : thenA K Q (.exit i) A H = Q (.exit i) A H := rfl
theorem blkA_normal (i : Nat) (Q : Exit → Fr → Hp → Prop) (A : Fr) (H : Hp) : blkA i Q .normal A H = Q .normal A H := rfl
theorem blkA_ret (i : Nat) (Q : Exit → Fr → Hp → Prop) (A : Fr) (H : Hp) : blkA i Q .ret A H = Q .ret A H := rfl
theorem blkA_exit (i j : Nat) (Q : Exit → Fr → Hp → Prop) (A : Fr) (H : Hp) : blkA i Q (.exit j) A H = if j = i then Q .normal A H else Q (.exit j) A H := rfl

theorem awp_condP {P : Program} {N : Cx} {Q : Exit → Fr → Hp → Prop} {A : Fr} {H : Hp} {c : Operand} {x y : Code} {t : Bool} (hc : A.ev c = some (.v (.bool t))) (h : Br t (AWP P N x Q A H) (AWP P N y Q A H)) : AWP P N (.cond c x y) Q A H :=
  awp_cond hc h.1 h.2

attribute [go_sem] thenA_normal thenA_ret thenA_exit blkA_normal blkA_ret blkA_exit
theorem Fr_scrub_nil (p : Nat → Bool) : Fr.scrub p [] = [] := rfl
theorem Fr_scrub_cons (p : Nat → Bool) (i : Tmp) (a : AV) (r : Fr) : Fr.scrub p ((i, a) :: r) = (i, a.scrub p) :: Fr.scrub p r := rfl
theorem scrub_v (p : Nat → Bool) (x : Value) : AV.scrub p (.v x) = .v x := rfl
theorem scrub_list (p : Nat → Bool) (nn : Bool) (sz n : Nat) (f : Nat → AV) : AV.scrub p (.list nn sz n f) = .list nn sz n f := rfl
theorem scrub_own (p : Nat → Bool) (h off sz n : Nat) : AV.scrub p (.own h off sz n) = if p h then .dead else .own h off sz n := rfl
theorem scrub_ref (p : Nat → Bool) (h off : Nat) : AV.scrub p (.ref h off) = if p h then .dead else .ref h off := rfl
theorem scrub_ptr (p : Nat → Bool) (n : Nat) (f : Nat → AV) : AV.scrub p (.ptr n f) = .ptr n f := rfl
theorem scrub_map (p : Nat → Bool) (h : Nat) : AV.scrub p (.map h) = if p h then .dead else .map h := rfl
theorem scrub_dead (p : Nat → Bool) : AV.scrub p .dead = .dead := rfl
theorem scrub_agg (p : Nat → Bool) (n : Nat) (f : Nat → AV) : AV.scrub p (.agg n f) = .agg n (scF p f) := rfl
theorem scrub_tup (p : Nat → Bool) (n : Nat) (f : Nat → AV) : AV.scrub p (.tup n f) = .tup n (scF p f) := rfl
theorem scrub_clo (p : Nat → Bool) (g n : Nat) (f : Nat → AV) : AV.scrub p (.clo g n f) = .clo g n (scF p f) := rfl
attribute [go_sem] Fr_scrub_nil Fr_scrub_cons scrub_v scrub_list scrub_own scrub_ref scrub_ptr scrub_map scrub_dead scrub_agg scrub_tup scrub_clo
attribute [go_sem] opsVC opVC bcallVC evArgs Fr.ev Fr.get putd calleeOf binVC intVC shVC strVC boolVC nilVC nilSl nilPt unVC lenVC lenTOk ixVC ldVC stVC aggOf AV.one Value.oneCell' srcOf apVC cpVC mkVC alVC boxVC
  partF partW fillF fillOk evParts bsVC boundOf opOpt slVC faVC fdVC bdVC chVC cvVC mmVC ptrOk resVC Fr.sub
attribute [go_sem] Hp.upd_app Hp.emp_app Hp.scrub_upd Hp.scrub_emp Hp.upd_upd Blk.scrub_cells scF_iv scF_bv scF_sv scF_uv scF_ints scF_intss scF_zF scF_setF scF_setsF scF_apF scF_shF scF_const
  cM_iv_app cM_bv_app cM_ints_app zF_iv zF_bv lit1 lit2 setF_iv setF_bv apF_cM shF_zero shF_cM vecF_0 vecF_1 vecF_2 withArgs_some
  List.map_cons List.map_nil List.getD_cons_zero List.getD_cons_succ Option.getD_some Option.getD_none Option.map_some Option.map_none Nat.mul_one Nat.add_zero Nat.zero_add Nat.zero_mul Int.toNat_natCast
  and_true true_and Bool.not_true Bool.not_false and_self

theorem kvGet_iv (s : ByteArray) (l : List (ByteArray × Int)) : kvGet s (.v (.int .i64 0)) (mS iv l) = .v (.int .i64 ((lkO s l).getD 0)) := kvGet_mS iv s 0 l
theorem kvGet_bv (s : ByteArray) (l : List (ByteArray × Bool)) : kvGet s (.v (.bool false)) (mS bv l) = .v (.bool ((lkO s l).getD false)) := kvGet_mS bv s false l
theorem mS_snoc_iv (l : List (ByteArray × Int)) (s : ByteArray) (x : Int) : mS iv l ++ [(.string s, .v (.int .i64 x))] = mS iv (l ++ [(s, x)]) := mS_snoc iv l s x
theorem mS_snoc_bv (l : List (ByteArray × Bool)) (s : ByteArray) (x : Bool) : mS bv l ++ [(.string s, .v (.bool x))] = mS bv (l ++ [(s, x)]) := mS_snoc bv l s x
theorem Blk.scrub_mp (p : Nat → Bool) (kv : List (Value × AV)) : (Blk.mp kv).scrub p = .mp (kv.map fun x => (x.1, x.2.scrub p)) := rfl
theorem mS_scrub_iv (p : Nat → Bool) (l : List (ByteArray × Int)) : (mS iv l).map (fun x => (x.1, x.2.scrub p)) = mS iv l := by
  unfold mS; rw [List.map_map]; rfl
theorem mS_scrub_bv (p : Nat → Bool) (l : List (ByteArray × Bool)) : (mS bv l).map (fun x => (x.1, x.2.scrub p)) = mS bv l := by
  unfold mS; rw [List.map_map]; rfl
attribute [go_sem] lkVC muVC mmkVC azVC kvStr_mS kvGet_iv kvGet_bv kvHas_mS mS_snoc_iv mS_snoc_bv Blk.scrub_mp mS_scrub_iv mS_scrub_bv

end Go.Av

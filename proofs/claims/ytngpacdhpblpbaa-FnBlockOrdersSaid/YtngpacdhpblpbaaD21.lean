import Derived.Test.YtngpacdhpblpbaaD20
import Derived.Test.YtngpacdhpblpbaaD3
import Derived.Test.YtngpacdhpblpbaaD18
/- A new chain, and the chain of generators: the program's. -/
section
namespace Go.Proofs.Ytngpacdhpblpbaa
open Go.Av
set_option linter.unusedSimpArgs false
set_option linter.unusedVariables false
attribute [local irreducible] AWP CallG Ob Br BrP Go.Av.Sub endQ AOps OpV AC thenA blkA opsVC opVC withA withArgs opsQ opQ CallQ withA2 withArgs2
open Go.Pm (Pm comp invp idn img Ch fixB)

def tnG (k n : Nat) (i : Nat) : AV := if i < k then .own (sub 1000002 i) 0 1 n else .dead
/-- A chain under way: j rows of generators and k rows of representatives are laid. -/
def chG (F : Nat → AV) (n j k : Nat) (C : Ch) : Hp := fun h =>
  if h = 1000000 then some (.cells 3 F)
  else if h = 1000001 then some (.cells j (gnF j C))
  else if h = 1000002 then some (.cells k (tnG k n))
  else if h / FB = 1000002 ∧ h % FB < j then some (.cells (C.S (h % FB)).length (cM ints [] (C.S (h % FB))))
  else if h / FB = 1000003 ∧ h % FB < k then some (.cells n (tF (C.T (h % FB))))
  else none
def kIk (n k : Nat) : Nat → AV := vecF [.v (.int .i64 n), .own 1000001 0 1 n, .own 1000002 0 1 k]
theorem chG_all (n : Nat) (C : Ch) : chG (kIk n n) n n n C = chH (kI n) n C := rfl
/-- The chain of no generators. -/
def C0 (n : Nat) : Ch := ⟨fun _ => [], fun i y => if y = i then some (idn n) else none⟩
theorem C0_wf (n : Nat) : (C0 n).WF n := ⟨fun i y t hi h => by
    simp only [C0] at h
    split at h
    · rename_i e; subst e; simp only [Option.some.injEq] at h; subst h
      exact ⟨.idn n, fixB.idn n _ (by omega), Go.Pm.img_idn hi⟩
    · simp at h, fun i hi => by simp [C0], fun i g hg => by simp [C0] at hg⟩
theorem C0_full (n : Nat) : (C0 n).Full n 0 := fun j _ _ => ⟨fun y t g _ hg => by simp [C0] at hg, fun y t h => by
    simp only [C0] at h
    split at h
    · simp only [Option.some.injEq] at h; subst h; exact .one
    · simp at h, fun g hg => by simp [C0] at hg⟩
theorem C0_ind (n : Nat) : (C0 n).Ind n := fun j _ => Go.Pm.Ind.nil n

section
variable {F : Nat → AV} {n j k : Nat} {C : Ch} {R : Hp}
theorem chG_c : chG F n j k C 1000000 = some (.cells 3 F) := by simp [chG]
theorem chG_g : chG F n j k C 1000001 = some (.cells j (gnF j C)) := by simp [chG]
theorem chG_t : chG F n j k C 1000002 = some (.cells k (tnG k n)) := by simp [chG]
theorem chG_gs {i : Nat} (hi : i < j) (hn : j ≤ 20) : chG F n j k C (sub 1000001 i) = some (.cells (C.S i).length (cM ints [] (C.S i))) := by
  obtain ⟨h1, h2, h3⟩ := sub_lits 1000001 i
  have hb : i < FB := by rw [FB_eq]; omega
  simp [chG, h1, h2, h3, sub_div hb, sub_mod hb, hi]
theorem chG_ts {i : Nat} (hi : i < k) (hn : k ≤ 20) : chG F n j k C (sub 1000002 i) = some (.cells n (tF (C.T i))) := by
  obtain ⟨h1, h2, h3⟩ := sub_lits 1000002 i
  have hb : i < FB := by rw [FB_eq]; omega
  simp [chG, h1, h2, h3, sub_div hb, sub_mod hb, hi]
theorem chG_low {h : Nat} (hh : h < 1000000) : chG F n j k C h = none := by
  have : h / FB = 0 := top_div (by rw [FB_eq]; omega)
  unfold chG
  rw [if_neg (by omega), if_neg (by omega), if_neg (by omega), if_neg (by omega), if_neg (by omega)]
theorem chG_names {h : Nat} {B : Blk} (hB : chG F n j k C h = some B) : (h = 1000000 ∧ B = .cells 3 F) ∨ (h = 1000001 ∧ B = .cells j (gnF j C)) ∨ (h = 1000002 ∧ B = .cells k (tnG k n))
    ∨ (∃ i, i < j ∧ h = sub 1000001 i ∧ B = .cells (C.S i).length (cM ints [] (C.S i))) ∨ (∃ i, i < k ∧ h = sub 1000002 i ∧ B = .cells n (tF (C.T i))) := by
  unfold chG at hB
  split at hB
  · rename_i e; simp only [Option.some.injEq] at hB; exact .inl ⟨e, hB.symm⟩
  split at hB
  · rename_i e; simp only [Option.some.injEq] at hB; exact .inr (.inl ⟨e, hB.symm⟩)
  split at hB
  · rename_i e; simp only [Option.some.injEq] at hB; exact .inr (.inr (.inl ⟨e, hB.symm⟩))
  split at hB
  · rename_i e; simp only [Option.some.injEq] at hB; exact .inr (.inr (.inr (.inl ⟨h % FB, e.2, sub_of e.1, hB.symm⟩)))
  split at hB
  · rename_i e; simp only [Option.some.injEq] at hB; exact .inr (.inr (.inr (.inr ⟨h % FB, e.2, sub_of e.1, hB.symm⟩)))
  · simp at hB
theorem hG_c {p : Nat → Bool} : Hp.scrub p (chG F n j k C) 1000000 = some (.cells 3 (scF p F)) := by simp [Hp.scrub, chG_c, Blk.scrub_cells]
theorem kIk0 (n k : Nat) : kIk n k 0 = .v (.int .i64 n) := rfl
theorem kIk1 (n k : Nat) : kIk n k 1 = .own 1000001 0 1 n := rfl
theorem kIk2 (n k : Nat) : kIk n k 2 = .own 1000002 0 1 k := rfl
theorem skI (n k : Nat) : scF (fun x => x == 1000002) (kIk n k) = vecF [.v (.int .i64 n), .own 1000001 0 1 n, .dead] := by
  funext i
  match i with
  | 0 => rfl
  | 1 => rfl
  | 2 => rfl
  | i + 3 => rfl
theorem chG_scrub {h m q : Nat} (hj : j ≤ 20) (hk : k ≤ 20) (hh : h < 1000000) : (chG (kIk m q) n j k C).scrub (fun x => x == h) = chG (kIk m q) n j k C := by
  have hb : ∀ x, 1000000 ≤ x → (x == h) = false := fun x hx => beq_eq_false_iff_ne.2 (by omega)
  have hs : ∀ d i, (sub d i == h) = false := fun d i => hb _ (by have := sub_ge d i; rw [FB_eq] at this; omega)
  have e0 : (fun i => (kIk m q i).scrub (fun x => x == h)) = kIk m q := by
    funext i
    match i with
    | 0 => rfl
    | 1 => simp only [kIk1, AV.scrub, hb 1000001 (by decide)]; rfl
    | 2 => simp only [kIk2, AV.scrub, hb 1000002 (by decide)]; rfl
    | i + 3 => rfl
  have e1 : (fun i => (gnF j C i).scrub (fun x => x == h)) = gnF j C := by
    funext i; unfold gnF; split
    · simp [AV.scrub, hs]
    · rfl
  have e2 : (fun i => (tnG k n i).scrub (fun x => x == h)) = tnG k n := by
    funext i; unfold tnG; split
    · simp [AV.scrub, hs]
    · rfl
  have e4 : ∀ i, (fun j => (cM ints [] (C.S i) j).scrub (fun x => x == h)) = cM ints [] (C.S i) := fun i => rfl
  funext x
  unfold Hp.scrub
  cases e : chG (kIk m q) n j k C x with
  | none => rfl
  | some B =>
    simp only [Option.map_some, Option.some.injEq]
    rcases chG_names e with ⟨_, rfl⟩ | ⟨_, rfl⟩ | ⟨_, rfl⟩ | ⟨i, _, _, rfl⟩ | ⟨i, _, _, rfl⟩
    · simp only [Blk.scrub, e0]
    · simp only [Blk.scrub, e1]
    · simp only [Blk.scrub, e2]
    · simp only [Blk.scrub, e4]
    · simp only [Blk.scrub, tF_scrub]
theorem sb2 (d i : Nat) : (sub d i == 1000002) = false := beq_eq_false_iff_ne.2 (sub_lits d i).2.2
theorem zF1 (x : Value) (i : Nat) : zF [x] i = .v x := by simp [zF, Nat.mod_one]
/-- The struct and the row of rows as they are made: a chain under way, without rows. -/
theorem lay_start {H : Hp} {f : Nat → AV} (hn : n ≤ 20) (h1 : H 14 = some (.cells 3 f)) (h2 : H 12 = some (.cells n (zF [.slice none 0 0]))) (f0 : f 0 = .v (.int .i64 n)) (f1 : f 1 = .own 12 0 1 n) (f2 : f 2 = .v (.slice none 0 0)) :
    ∀ h B', chG (kIk n 0) n n 0 (C0 n) h = some B' → (∃ g m f f', (if h = 1000000 then some 14 else if h = 1000001 then some 12 else none) = some g ∧ B' = .cells m f' ∧ H g = some (.cells m f) ∧ ∀ i, i < m → Lay (fun h => if h = 1000000 then some 14 else if h = 1000001 then some 12 else none) (f i) (f' i))
      ∨ ((if h = 1000000 then some 14 else if h = 1000001 then some 12 else none : Option Nat) = none ∧ ∃ f, B' = .cells 0 f) := by
  intro h B' hB
  have sg : ∀ d i, (if sub d i = 1000000 then some 14 else if sub d i = 1000001 then some 12 else none : Option Nat) = none := fun d i => by
    obtain ⟨h1, h2, h3⟩ := sub_lits d i
    rw [if_neg h1, if_neg h2]
  rcases chG_names hB with ⟨rfl, rfl⟩ | ⟨rfl, rfl⟩ | ⟨rfl, rfl⟩ | ⟨i, hi, rfl, rfl⟩ | ⟨i, hi, rfl, rfl⟩
  · refine .inl ⟨14, 3, f, kIk n 0, rfl, rfl, h1, fun i hi => ?_⟩
    have h0 : i = 0 ∨ i = 1 ∨ i = 2 := by omega
    rcases h0 with rfl | rfl | rfl
    · rw [f0]; exact .plain trivial
    · rw [f1]; exact .own rfl
    · rw [f2]; exact .nil rfl
  · refine .inl ⟨12, n, _, gnF n (C0 n), rfl, rfl, h2, fun i hi => ?_⟩
    rw [zF1, gnF_app _ hi]; exact .nil (sg _ _)
  · exact .inr ⟨rfl, _, rfl⟩
  · exact .inr ⟨sg _ _, _, rfl⟩
  · omega
theorem tF_plain (T : Nat → Option (List Int)) (i : Nat) : (tF T i).plain := by unfold tF; cases T i <;> trivial
def rho (k h : Nat) : Option Nat := if h = sub 1000002 k then some 20 else some h
theorem rho_lit {k h : Nat} (hh : h < 2097152) : rho k h = some h := by
  unfold rho
  rw [if_neg (fun e => by have := sub_ge 1000002 k; rw [FB_eq] at this; omega)]
theorem rho_gs {k i : Nat} (hi : i < 20) (hk : k < 20) : rho k (sub 1000001 i) = some (sub 1000001 i) := by
  unfold rho
  rw [if_neg (beq_eq_false_iff_ne.1 (sub_ne_sub hi hk (.inl (by decide))))]
theorem rho_ts {k i : Nat} (hi : i < 20) (hk : k < 20) (h : i ≠ k) : rho k (sub 1000002 i) = some (sub 1000002 i) := by
  unfold rho
  rw [if_neg (beq_eq_false_iff_ne.1 (sub_ne_sub hi hk (.inr h)))]
theorem rho_k (k : Nat) : rho k (sub 1000002 k) = some 20 := if_pos rfl
/-- One row of representatives more. -/
theorem lay_step (hn : n ≤ 20) (hk : k < n) {H : Hp} {F0 F1 F2 F3 : Nat → AV} (h0 : H 1000000 = some (.cells 3 F0)) (f0 : ∀ i, i < 3 → Lay (rho k) (F0 i) (kIk n (k + 1) i)) (h1 : H 1000001 = some (.cells n F1)) (f1 : ∀ i, i < n → F1 i = gnF n (C0 n) i)
    (h2 : H 1000002 = some (.cells (k + 1) F2)) (f2 : ∀ i, i < k → F2 i = tnG k n i) (f2k : F2 k = .own 20 0 1 n) (h3 : ∀ i, i < n → H (sub 1000001 i) = some (.cells 0 (cM ints [] []))) (h4 : ∀ i, i < k → H (sub 1000002 i) = some (.cells n (tF ((C0 n).T i))))
    (h5 : H 20 = some (.cells n F3)) (f3 : ∀ i, i < n → F3 i = tF ((C0 n).T k) i) :
    ∀ h B', chG (kIk n (k + 1)) n n (k + 1) (C0 n) h = some B' → (∃ g m f f', rho k h = some g ∧ B' = .cells m f' ∧ H g = some (.cells m f) ∧ ∀ i, i < m → Lay (rho k) (f i) (f' i)) ∨ (rho k h = none ∧ ∃ f, B' = .cells 0 f) := by
  intro h B' hB
  rcases chG_names hB with ⟨rfl, rfl⟩ | ⟨rfl, rfl⟩ | ⟨rfl, rfl⟩ | ⟨i, hi, rfl, rfl⟩ | ⟨i, hi, rfl, rfl⟩
  · exact .inl ⟨_, 3, _, _, rho_lit (by decide), rfl, h0, f0⟩
  · refine .inl ⟨_, n, _, _, rho_lit (by decide), rfl, h1, fun i hi => ?_⟩
    rw [f1 i hi, gnF_app _ hi]; exact .own (rho_gs (by omega) (by omega))
  · refine .inl ⟨_, k + 1, _, _, rho_lit (by decide), rfl, h2, fun i hi => ?_⟩
    by_cases e : i = k
    · subst e; rw [f2k, show tnG (i + 1) n i = .own (sub 1000002 i) 0 1 n from if_pos hi]; exact .own (rho_k _)
    · rw [f2 i (by omega), show tnG (k + 1) n i = .own (sub 1000002 i) 0 1 n from if_pos hi, show tnG k n i = .own (sub 1000002 i) 0 1 n from if_pos (by omega)]
      exact .own (rho_ts (by omega) (by omega) e)
  · exact .inl ⟨_, _, _, _, rho_gs (by omega) (by omega), rfl, h3 i hi, fun i hi => .plain trivial⟩
  · by_cases e : i = k
    · subst e
      exact .inl ⟨_, _, _, _, rho_k _, rfl, h5, fun j hj => by rw [f3 j hj]; exact .plain (tF_plain _ _)⟩
    · exact .inl ⟨_, _, _, _, rho_ts (by omega) (by omega) e, rfl, h4 i (by omega), fun j hj => .plain (tF_plain _ _)⟩
theorem rho_inj {h g m : Nat} (hh : chG (kIk n (k + 1)) n n (k + 1) (C0 n) h ≠ none) (hg : chG (kIk n (k + 1)) n n (k + 1) (C0 n) g ≠ none) (e1 : rho k h = some m) (e2 : rho k g = some m) : h = g := by
  have low : ∀ x, chG (kIk n (k + 1)) n n (k + 1) (C0 n) x ≠ none → x ≠ 20 := fun x hx e => by subst e; exact hx (chG_low (by decide))
  have l1 := low h hh
  have l2 := low g hg
  unfold rho at e1 e2
  split at e1 <;> split at e2 <;> simp only [Option.some.injEq] at e1 e2 <;> omega
end

/-- What a chain of generators is. -/
def Of (n : Nat) (gs : List (List Int)) (C : Ch) : Prop := C.WF n ∧ C.Full n 0 ∧ ∀ g, Go.Pm.Gen n gs g ↔ Go.Pm.Gen n (C.S 0) g
theorem newChain_ok (n : Nat) (gs : List (List Int)) (hn : 1 ≤ n ∧ n ≤ 20) (hg : gensP n gs) (hgl : gs.length ≤ 8) : AC Try.prog 74 [.v (.int .i64 (n)), intss gs] Hp.emp (fun _ => false)
    (postN (kI n) n (Of n gs)) := by
  refine ac_of_awp (N := ⟨_, fun _ => false, fun _ _ => rfl⟩) Try.func74 rfl (by kernel_rfl) Try.ntmps74 (by simp) ?_
  simp only [argsFr, List.zipIdx_cons, List.zipIdx_nil, go_sem]
  repeat' (first | refine awp_seqK fun K hK => ?_ | (refine awp_regionK 2061584532211 rfl ?_; simp only [List.map_cons, List.map_nil]; simp (maxSteps := 1000000) (dsimp := false) (implicitDefEqProofs := false) (disch := omega) only [wrap64, go_sem]) | (refine awp_regionQK 2061584532211 (by kernel_rfl) (by kernel_rfl) (by kernel_rfl) ?_; simp only [List.map_cons, List.map_nil]; simp (maxSteps := 1000000) (dsimp := false) (implicitDefEqProofs := false) (disch := omega) only [wrap64, go_sem]) | refine awp_block ?_ | (refine awp_skip ?_; simp only [go_sem]) | (refine awp_exit ?_; simp only [go_sem]) | (refine awp_ret ?_; try simp only [go_sem]) | (refine awp_condP rfl ?_; try simp only [go_sem]) | (refine BrP.mk (fun h => ?_) (fun h => ?_) <;> try simp (dsimp := false) (disch := omega) only [wrap64]) | (refine Br.mk (fun h => ?_) (fun h => ?_) <;> try simp (dsimp := false) (disch := omega) only [wrap64]) | refine Ob.mk (by first | omega | (intro _ _; rfl) | trivial | (intros; trivial) | assumption | (intro i hi; have h0 : i = 0 := (by omega); subst h0; first | rfl | trivial) | (intro i hi; have h0 : i = 0 ∨ i = 1 := (by omega); rcases h0 with rfl | rfl <;> rfl) | (intro i hi; have h0 : i = 0 ∨ i = 1 ∨ i = 2 := (by omega); rcases h0 with rfl | rfl | rfl <;> rfl)) ?_ | apply_assumption -exfalso -symm)
  all_goals (first | (show endQ _ _ _ _ _ _ _; (repeat (rename (∀ (A : Fr) (H : Hp), AWP _ _ _ _ A H → _) => hK; clear hK)); (repeat (rename (Fr → Hp → Prop) => K; clear K))) | (show Exists _; (repeat (rename (∀ (A : Fr) (H : Hp), AWP _ _ _ _ A H → _) => hK; clear hK)); (repeat (rename (Fr → Hp → Prop) => K; clear K))) | skip)
  refine awp_loop (ι := Nat) (fun k => [(16, .v (.int .i64 (k))), (15, .v (.int .i64 (n))), (5, .ref 1000000 0), (0, .v (.int .i64 (n))), (1, .list false 1 (gs).length (cM ints [] (gs)))]) (fun k => chG (kIk n k) n n k (C0 n)) (fun k => k ≤ n) (fun k => n - k) 0 (Nat.zero_le _) (Sub.lay (fun h => if h = 1000000 then some 14 else if h = 1000001 then some 12 else none) rfl (lay_cons ⟨_, rfl, .plain trivial⟩ (lay_cons ⟨_, rfl, .plain trivial⟩ (lay_cons ⟨_, rfl, .ref rfl⟩ (lay_cons ⟨_, rfl, .plain trivial⟩ (lay_cons ⟨_, rfl, .plain trivial⟩ lay_nil))))) (lay_start hn.2 rfl rfl rfl rfl rfl) ?_) ?_
  · intro h g m _ _ e1 e2
    split at e1
    · split at e2
      · omega
      · split at e2
        · simp only [Option.some.injEq] at e1 e2; omega
        · simp at e2
    · split at e1
      · split at e2
        · simp only [Option.some.injEq] at e1 e2; omega
        · split at e2
          · omega
          · simp at e2
      · simp at e1
  intro k hk
  have hn2 := hn.2
  repeat' (first | refine awp_seqK fun K hK => ?_ | (refine awp_regionK 2061584532211 rfl ?_; simp only [List.map_cons, List.map_nil]; simp (maxSteps := 1000000) (dsimp := false) (implicitDefEqProofs := false) (disch := omega) only [wrap64, go_sem, chG_c, chG_t, chG_scrub, hG_c, kIk0, kIk1, kIk2, skI]) | (refine awp_regionQK 2061584532211 (by kernel_rfl) (by kernel_rfl) (by kernel_rfl) ?_; simp only [List.map_cons, List.map_nil]; simp (maxSteps := 1000000) (dsimp := false) (implicitDefEqProofs := false) (disch := omega) only [wrap64, go_sem, chG_c, chG_t, chG_scrub, hG_c, kIk0, kIk1, kIk2, skI]) | refine awp_block ?_ | (refine awp_skip ?_; simp only [go_sem, chG_c, chG_t, chG_scrub, hG_c, kIk0, kIk1, kIk2, skI]) | (refine awp_exit ?_; simp only [go_sem, chG_c, chG_t, chG_scrub, hG_c, kIk0, kIk1, kIk2, skI]) | (refine awp_ret ?_; try simp only [go_sem, chG_c, chG_t, chG_scrub, hG_c, kIk0, kIk1, kIk2, skI]) | (refine awp_condP rfl ?_; try simp only [go_sem, chG_c, chG_t, chG_scrub, hG_c, kIk0, kIk1, kIk2, skI]) | (refine BrP.mk (fun h => ?_) (fun h => ?_) <;> try simp (dsimp := false) (disch := omega) only [wrap64]) | (refine Br.mk (fun h => ?_) (fun h => ?_) <;> try simp (dsimp := false) (disch := omega) only [wrap64]) | refine Ob.mk (by first | omega | (intro _ _; rfl) | trivial | (intros; trivial) | assumption | (intro i hi; have h0 : i = 0 := (by omega); subst h0; first | rfl | trivial) | (intro i hi; have h0 : i = 0 ∨ i = 1 := (by omega); rcases h0 with rfl | rfl <;> rfl) | (intro i hi; have h0 : i = 0 ∨ i = 1 ∨ i = 2 := (by omega); rcases h0 with rfl | rfl | rfl <;> rfl)) ?_ | ((first | ((first | refine atF (f := 98) ?_ | refine atQ (f := 98) ?_); (first | (refine cFI (hac := implIdentity_ok n (by omega) 9) (hK := ?_)) | (refine cQI (hac := implIdentity_ok n (by omega) 9) (hK := ?_))))); simp (maxSteps := 1000000) (dsimp := false) (implicitDefEqProofs := false) (disch := omega) only [wrap64, go_sem, chG_c, chG_t, chG_scrub, hG_c, kIk0, kIk1, kIk2, skI]) | apply_assumption -exfalso -symm)
  all_goals (first | (show endQ _ _ _ _ _ _ _; (repeat (rename (∀ (A : Fr) (H : Hp), AWP _ _ _ _ A H → _) => hK; clear hK)); (repeat (rename (Fr → Hp → Prop) => K; clear K))) | (show Exists _; (repeat (rename (∀ (A : Fr) (H : Hp), AWP _ _ _ _ A H → _) => hK; clear hK)); (repeat (rename (Fr → Hp → Prop) => K; clear K))) | skip)
  · have hs1 : ∀ x, Hp.scrub (fun x => x == 1000002) (chG (kIk n k) n n k (C0 n)) x = (chG (kIk n k) n n k (C0 n) x).map (Blk.scrub (fun x => x == 1000002)) := fun _ => rfl
    have hne : ∀ d i, sub d i ≠ 20 ∧ sub d i ≠ 32 := fun d i => by have := sub_ge d i; rw [FB_eq] at this; omega
    refine ⟨k + 1, by omega, by omega, Sub.lay (rho k) rfl (lay_cons ⟨_, rfl, .plain trivial⟩ (lay_cons ⟨_, rfl, .plain trivial⟩ (lay_cons ⟨_, rfl, .ref (rho_lit (by decide))⟩ (lay_cons ⟨_, rfl, .plain trivial⟩ (lay_cons ⟨_, rfl, .plain trivial⟩ lay_nil))))) (lay_step (F1 := scF (fun x => x == 1000002) (gnF n (C0 n))) hn2 (by omega) rfl (fun i hi => ?_) ?_ (fun i hi => ?_) rfl (fun i hi => ?_) ?_ (fun i hi => ?_) (fun i hi => ?_) rfl (fun i hi => ?_)) (fun h g m => rho_inj)⟩
    · have h0 : i = 0 ∨ i = 1 ∨ i = 2 := by omega
      rcases h0 with rfl | rfl | rfl
      · exact .plain (a := .v (.int .i64 n)) trivial
      · exact .own (rho_lit (by decide))
      · exact .own (rho_lit (by decide))
    · show Hp.scrub (fun x => x == 1000002) (chG (kIk n k) n n k (C0 n)) 1000001 = _
      rw [hs1, chG_g]; rfl
    · show (gnF n (C0 n) i).scrub _ = _
      rw [gnF_app _ hi]
      simp only [AV.scrub, sb2]; rfl
    · rw [show apF k (scF (fun x => x == 1000002) (tnG k n)) (setF (zF [Value.slice none 0 0]) 0 (.own 20 0 1 n)) i = (tnG k n i).scrub (fun x => x == 1000002) from if_pos hi, show tnG k n i = .own (sub 1000002 i) 0 1 n from if_pos hi]
      simp only [AV.scrub, sb2]; rfl
    · unfold apF setF
      rw [if_neg (by omega), if_pos (by omega)]
    · unfold Hp.upd
      rw [if_neg (sub_lits _ _).1, if_neg (sub_lits _ _).2.2, if_neg (hne _ _).2, if_neg (hne _ _).1, hs1, chG_gs hi hn2]; rfl
    · unfold Hp.upd
      rw [if_neg (sub_lits _ _).1, if_neg (sub_lits _ _).2.2, if_neg (hne _ _).2, if_neg (hne _ _).1, hs1, chG_ts hi (by omega)]
      simp only [Option.map_some, Blk.scrub, tF_scrub]
    · unfold setF tF C0
      by_cases e : i = k
      · subst e; simp only [if_pos]; rfl
      · simp only [if_neg e, zF1]
  · have e : k = n := by omega
    subst e
    rw [chG_all]
    have hg1 : ∀ i, i < gs.length → Pm k (gs.getD i []) := hg.2.2
    have hgm : ∀ m, ∀ g ∈ gs.take m, Pm k g := fun m g hm => by
      obtain ⟨j, hj, rfl⟩ := List.mem_iff_getElem.1 (List.mem_of_mem_take hm)
      have := hg1 j hj
      rwa [List.getD_eq_getElem?_getD, List.getElem?_eq_getElem hj] at this
    repeat' (first | refine awp_seqK fun K hK => ?_ | (refine awp_regionK 2061584532211 rfl ?_; simp only [List.map_cons, List.map_nil]; simp (maxSteps := 1000000) (dsimp := false) (implicitDefEqProofs := false) (disch := omega) only [wrap64, go_sem]) | (refine awp_regionQK 2061584532211 (by kernel_rfl) (by kernel_rfl) (by kernel_rfl) ?_; simp only [List.map_cons, List.map_nil]; simp (maxSteps := 1000000) (dsimp := false) (implicitDefEqProofs := false) (disch := omega) only [wrap64, go_sem]) | refine awp_block ?_ | (refine awp_skip ?_; simp only [go_sem]) | (refine awp_exit ?_; simp only [go_sem]) | (refine awp_ret ?_; try simp only [go_sem]) | (refine awp_condP rfl ?_; try simp only [go_sem]) | (refine BrP.mk (fun h => ?_) (fun h => ?_) <;> try simp (dsimp := false) (disch := omega) only [wrap64]) | (refine Br.mk (fun h => ?_) (fun h => ?_) <;> try simp (dsimp := false) (disch := omega) only [wrap64]) | refine Ob.mk (by first | omega | (intro _ _; rfl) | trivial | (intros; trivial) | assumption | (intro i hi; have h0 : i = 0 := (by omega); subst h0; first | rfl | trivial) | (intro i hi; have h0 : i = 0 ∨ i = 1 := (by omega); rcases h0 with rfl | rfl <;> rfl) | (intro i hi; have h0 : i = 0 ∨ i = 1 ∨ i = 2 := (by omega); rcases h0 with rfl | rfl | rfl <;> rfl)) ?_ | apply_assumption -exfalso -symm)
    all_goals (first | (show endQ _ _ _ _ _ _ _; (repeat (rename (∀ (A : Fr) (H : Hp), AWP _ _ _ _ A H → _) => hK; clear hK)); (repeat (rename (Fr → Hp → Prop) => K; clear K))) | (show Exists _; (repeat (rename (∀ (A : Fr) (H : Hp), AWP _ _ _ _ A H → _) => hK; clear hK)); (repeat (rename (Fr → Hp → Prop) => K; clear K))) | skip)
    refine awp_loop (ι := Ch × Nat) (fun x => [(39, .v (.int .i64 (x.2))), (38, .v (.int .i64 (gs.length))), (37, .list false 1 (gs).length (cM ints [] (gs))), (5, .ref 1000000 0)]) (fun x => (chH (kI k) k x.1).add Hp.emp) (fun x => x.2 ≤ gs.length ∧ x.1.WF k ∧ x.1.Full k 0 ∧ x.1.Ind k ∧ ∀ g, Go.Pm.Gen k (gs.take x.2) g ↔ Go.Pm.Gen k (x.1.S 0) g) (fun x => gs.length - x.2) (C0 k, 0)
      ⟨Nat.zero_le _, C0_wf k, C0_full k, C0_ind k, fun g => Iff.rfl⟩ (Sub.toL (by simp only [go_sem] <;> first | trivial | (simp only [Option.some.injEq, AV.v.injEq, AV.own.injEq, AV.list.injEq, Value.int.injEq, Value.bool.injEq, true_and, and_true]; first | omega | (simp; done)) | (simp; done) | (simp; omega)) (le_of_eq_add _)) ?_
    rintro ⟨C, i⟩ ⟨hi, hw, hF, hI, hG⟩
    dsimp only at hi hw hF hI hG ⊢
    have hI' : Hold (C.Ind k) := ⟨hI⟩
    clear hI
    have hac : i < gs.length → AC Try.prog 138 [.ref 1000000 0, .v (.int .i64 (0)), ints (gs.getD i [])] (chH (kI k) k C) (pnC 0) (postC (kI k) k (Ch.Add k 0 C (gs.getD i []))) := fun h =>
      implAdd_ok k hn2 k 0 C (gs.getD i []) (by omega) hw hF hI'.h (hg1 i h) (fun j hj => by omega)
    repeat' (first | refine awp_seqK fun K hK => ?_ | (refine awp_regionK 2061584532211 rfl ?_; simp only [List.map_cons, List.map_nil]; simp (maxSteps := 1000000) (dsimp := false) (implicitDefEqProofs := false) (disch := omega) only [wrap64, go_sem, pX_low]) | (refine awp_regionQK 2061584532211 (by kernel_rfl) (by kernel_rfl) (by kernel_rfl) ?_; simp only [List.map_cons, List.map_nil]; simp (maxSteps := 1000000) (dsimp := false) (implicitDefEqProofs := false) (disch := omega) only [wrap64, go_sem, pX_low]) | refine awp_block ?_ | (refine awp_skip ?_; simp only [go_sem, pX_low]) | (refine awp_exit ?_; simp only [go_sem, pX_low]) | (refine awp_ret ?_; try simp only [go_sem, pX_low]) | (refine awp_condP rfl ?_; try simp only [go_sem, pX_low]) | (refine BrP.mk (fun h => ?_) (fun h => ?_) <;> try simp (dsimp := false) (disch := omega) only [wrap64]) | (refine Br.mk (fun h => ?_) (fun h => ?_) <;> try simp (dsimp := false) (disch := omega) only [wrap64]) | refine Ob.mk (by first | omega | (intro _ _; rfl) | trivial | (intros; trivial) | assumption | (intro i hi; have h0 : i = 0 := (by omega); subst h0; first | rfl | trivial) | (intro i hi; have h0 : i = 0 ∨ i = 1 := (by omega); rcases h0 with rfl | rfl <;> rfl) | (intro i hi; have h0 : i = 0 ∨ i = 1 ∨ i = 2 := (by omega); rcases h0 with rfl | rfl | rfl <;> rfl)) ?_ | ((first | ((first | refine atF (f := 138) ?_ | refine atQ (f := 138) ?_); refine callCh (R := Hp.emp) (hac (by omega)) (.inl rfl) hn2 rfl rfl (fun h hh => by cases hh) (fun C5 hA5 => ?_))); simp (maxSteps := 1000000) (dsimp := false) (implicitDefEqProofs := false) (disch := omega) only [wrap64, go_sem, pX_low]) | apply_assumption -exfalso -symm)
    all_goals (first | (show endQ _ _ _ _ _ _ _; (repeat (rename (∀ (A : Fr) (H : Hp), AWP _ _ _ _ A H → _) => hK; clear hK)); (repeat (rename (Fr → Hp → Prop) => K; clear K))) | (show Exists _; (repeat (rename (∀ (A : Fr) (H : Hp), AWP _ _ _ _ A H → _) => hK; clear hK)); (repeat (rename (Fr → Hp → Prop) => K; clear K))) | skip)
    · refine ⟨(C5, i + 1), ⟨by dsimp only; omega, hA5.wf, hA5.full, hA5.ind hI'.h, ?_⟩, by dsimp only; omega, Sub.toL (by simp only [go_sem] <;> first | trivial | (simp only [Option.some.injEq, AV.v.injEq, AV.own.injEq, AV.list.injEq, Value.int.injEq, Value.bool.injEq, true_and, and_true]; first | omega | (simp; done)) | (simp; done) | (simp; omega)) (Hp.le_refl _)⟩
      dsimp only
      have hlt : i < gs.length := by omega
      have e := hA5.gen (hg1 i hlt) (hgm i) hG
      rw [List.take_succ_eq_append_getElem hlt]
      rw [List.getD_eq_getElem?_getD, List.getElem?_eq_getElem hlt] at e
      exact e
    · have e : i = gs.length := by omega
      subst e
      rw [List.take_length] at hG
      exact end_post rfl rfl (le_add _ _) ⟨rfl, C, ⟨hw, hF, hG⟩, rfl⟩
end Go.Proofs.Ytngpacdhpblpbaa
end
/- The reference extends a chain. -/
section
namespace Go.Proofs.Ytngpacdhpblpbaa
open Go.Av
set_option linter.unusedSimpArgs false
set_option linter.unusedVariables false
attribute [local irreducible] AWP CallG Ob Br BrP Go.Av.Sub endQ AOps OpV AC thenA blkA opsVC opVC withA withArgs opsQ opQ CallQ withA2 withArgs2
open Go.Pm (Pm comp invp idn img Ch fixB Spc Run Gen)

theorem specProd_step (n : Nat) (hn : n ≤ 20) (l : Nat) (hl : l < n) (ihG : ∀ (C : Ch) (p : List Int), C.WF n → C.Full n (l + 1) → C.Ind n → Pm n p → fixB (l + 1) p → AC Try.prog 159 [.ref 1000000 0, .v (.int .i64 ((l : Int) + 1)), ints p] (chH (kS n) n C) (pnC (l + 1)) (postC (kS n) n (Ch.Add n (l + 1) C p)))
    (M : Nat) (ih : ∀ (C : Ch) (x : List Int), n - C.cnt n l < M → Spc n l C → Pm n x → fixB l x → Gen n (C.S l) x → AC Try.prog 183 [.ref 1000000 0, .v (.int .i64 (l)), ints x] (chH (kS n) n C) (pnC (l + 1)) (postC (kS n) n (fun C' => Run n l C C' ∧ C'.has (n - l) l x = true)))
    (C : Ch) (x : List Int) (hM : n - C.cnt n l < M + 1) (hs : Spc n l C) (hx : Pm n x) (hf : fixB l x) (hg : Gen n (C.S l) x) : AC Try.prog 183 [.ref 1000000 0, .v (.int .i64 (l)), ints x] (chH (kS n) n C) (pnC (l + 1)) (postC (kS n) n (fun C' => Run n l C C' ∧ C'.has (n - l) l x = true)) := by
  have hok : okF n (kS n) := .inr rfl
  have hxl := hx.1
  have hxb : 0 ≤ x.getD l 0 ∧ x.getD l 0 < n := hx.2.1 l hl
  have hsh := (Ch.Ind.short hs.wf hs.ind hn hl : (C.S l).length ≤ 86)
  have hs' : Hold (Spc n l C) := ⟨hs⟩
  cases hT : C.T l (img x l) with
  | some t =>
    have hTF : tF (C.T l) (x.getD l 0).toNat = .list false 1 t.length (cM iv 0 t) := tF_some hT
    obtain ⟨t1, t2, t3⟩ := hs.wf.t1 l _ t hl hT
    have htl := t1.1
    obtain ⟨q1, q2, q3⟩ := hs.quo hl hx hf hg hT
    have hac := ihG C (comp x (invp t)) hs.wf hs.full hs.ind q1 q2
    clear hs
    refine ac_of_awp (N := ⟨_, pnC (l + 1), fun h hh => pnC_low (Nat.lt_of_lt_of_le hh (by decide))⟩) Try.func183 rfl (by kernel_rfl) Try.ntmps183 (by simp) ?_
    simp only [argsFr, List.zipIdx_cons, List.zipIdx_nil, go_sem]
    refine add_awp ?_
    repeat' (first | refine awp_seqK fun K hK => ?_ | (refine awp_regionK 18014398517870791 rfl ?_; simp only [List.map_cons, List.map_nil]; simp (maxSteps := 1000000) (dsimp := false) (implicitDefEqProofs := false) (disch := omega) only [wrap64, go_sem, chA_c, chA_g, chA_t, gnF_app, tnF_app, chA_gs, chA_ts, kS0, kS1, kS2, sl0, sl1, sl2, sn0, sn1, sn2, chA_low, chA_upd, chA_scrub, sub_lowb, sub_lowe, pX_low, pX_ts, pX_gs, hTF]) | (refine awp_regionQK 18014398517870791 (by kernel_rfl) (by kernel_rfl) (by kernel_rfl) ?_; simp only [List.map_cons, List.map_nil]; simp (maxSteps := 1000000) (dsimp := false) (implicitDefEqProofs := false) (disch := omega) only [wrap64, go_sem, chA_c, chA_g, chA_t, gnF_app, tnF_app, chA_gs, chA_ts, kS0, kS1, kS2, sl0, sl1, sl2, sn0, sn1, sn2, chA_low, chA_upd, chA_scrub, sub_lowb, sub_lowe, pX_low, pX_ts, pX_gs, hTF]) | refine awp_block ?_ | (refine awp_skip ?_; simp only [go_sem, chA_c, chA_g, chA_t, gnF_app, tnF_app, chA_gs, chA_ts, kS0, kS1, kS2, sl0, sl1, sl2, sn0, sn1, sn2, chA_low, chA_upd, chA_scrub, sub_lowb, sub_lowe, pX_low, pX_ts, pX_gs, hTF]) | (refine awp_exit ?_; simp only [go_sem, chA_c, chA_g, chA_t, gnF_app, tnF_app, chA_gs, chA_ts, kS0, kS1, kS2, sl0, sl1, sl2, sn0, sn1, sn2, chA_low, chA_upd, chA_scrub, sub_lowb, sub_lowe, pX_low, pX_ts, pX_gs, hTF]) | (refine awp_ret ?_; try simp only [go_sem, chA_c, chA_g, chA_t, gnF_app, tnF_app, chA_gs, chA_ts, kS0, kS1, kS2, sl0, sl1, sl2, sn0, sn1, sn2, chA_low, chA_upd, chA_scrub, sub_lowb, sub_lowe, pX_low, pX_ts, pX_gs, hTF]) | (refine awp_condP rfl ?_; try simp only [go_sem, chA_c, chA_g, chA_t, gnF_app, tnF_app, chA_gs, chA_ts, kS0, kS1, kS2, sl0, sl1, sl2, sn0, sn1, sn2, chA_low, chA_upd, chA_scrub, sub_lowb, sub_lowe, pX_low, pX_ts, pX_gs, hTF]) | (refine BrP.mk (fun h => ?_) (fun h => ?_) <;> try simp (dsimp := false) (disch := omega) only [wrap64]) | (refine Br.mk (fun h => ?_) (fun h => ?_) <;> try simp (dsimp := false) (disch := omega) only [wrap64]) | refine Ob.mk (by first | omega | (intro _ _; rfl) | trivial | (intros; trivial) | assumption | (intro i hi; have h0 : i = 0 := (by omega); subst h0; first | rfl | trivial) | (intro i hi; have h0 : i = 0 ∨ i = 1 := (by omega); rcases h0 with rfl | rfl <;> rfl) | (intro i hi; have h0 : i = 0 ∨ i = 1 ∨ i = 2 := (by omega); rcases h0 with rfl | rfl | rfl <;> rfl)) ?_ | ((first | ((first | refine atF (f := 91) ?_ | refine atQ (f := 91) ?_); (first | (refine cFI (hac := specInverse_ok t (by omega) (by rw [htl]; exact t1) 9) (hK := ?_)) | (refine cQI (hac := specInverse_ok t (by omega) (by rw [htl]; exact t1) 9) (hK := ?_)))) | ((first | refine atF (f := 66) ?_ | refine atQ (f := 66) ?_); (first | (refine cFI (hac := specCompose_ok x (invp t) (by omega) (pm_lt hx t1.inv) 9) (hK := ?_)) | (refine cQI (hac := specCompose_ok x (invp t) (by omega) (pm_lt hx t1.inv) 9) (hK := ?_)))) | ((first | refine atF (f := 159) ?_ | refine atQ (f := 159) ?_); refine callCh (R := Hp.emp) hac hok hn rfl rfl (fun h hh => pnC_pX (Nat.le_refl _) hh) (fun C5 hA5 => ?_))); simp (maxSteps := 1000000) (dsimp := false) (implicitDefEqProofs := false) (disch := omega) only [wrap64, go_sem, chA_c, chA_g, chA_t, gnF_app, tnF_app, chA_gs, chA_ts, kS0, kS1, kS2, sl0, sl1, sl2, sn0, sn1, sn2, chA_low, chA_upd, chA_scrub, sub_lowb, sub_lowe, pX_low, pX_ts, pX_gs, hTF]) | apply_assumption -exfalso -symm)
    all_goals (first | (show endQ _ _ _ _ _ _ _; (repeat (rename (∀ (A : Fr) (H : Hp), AWP _ _ _ _ A H → _) => hK; clear hK)); (repeat (rename (Fr → Hp → Prop) => K; clear K))) | (show Exists _; (repeat (rename (∀ (A : Fr) (H : Hp), AWP _ _ _ _ A H → _) => hK; clear hK)); (repeat (rename (Fr → Hp → Prop) => K; clear K))) | skip)
    · obtain ⟨r1, r2⟩ := Run.up hs'.h hl hT q3 hA5
      exact end_Ch rfl ⟨r1, r2⟩ (le_add _ _)
    · omega
  | none =>
    have hTF : tF (C.T l) (x.getD l 0).toNat = .v (.slice none 0 0) := tF_none hT
    obtain ⟨C1, hC1⟩ : ∃ C1, C1 = C.setT l (img x l) x := ⟨_, rfl⟩
    have hs1 : Hold (Spc n l C1) := ⟨by rw [hC1]; exact hs.set hl hx hf hg hT⟩
    have hcn : C1.cnt n l = C.cnt n l + 1 := by rw [hC1]; exact Ch.cnt_setT (hx.img_lt hl) hT
    have hcl : C1.cnt n l ≤ n := Ch.cnt_le_n
    have hgp : ∀ g, g ∈ C.S l → Pm n g ∧ fixB l g := fun g hg => hs.wf.s1 l g hg
    have hgm : ∀ m, m < (C.S l).length → (C.S l).getD m [] ∈ C.S l := fun m hm => by
      rw [List.getD_eq_getElem?_getD, List.getElem?_eq_getElem hm]; exact List.getElem_mem _
    have hprod : ∀ m, m < (C.S l).length → Pm n (comp x ((C.S l).getD m [])) ∧ fixB l (comp x ((C.S l).getD m [])) ∧ Gen n (C.S l) (comp x ((C.S l).getD m [])) := fun m hm =>
      ⟨hx.comp (hgp _ (hgm m hm)).1, fixB.comp hx (by omega) hf (hgp _ (hgm m hm)).2, Gen.mul hg (hgm m hm)⟩
    clear hs
    refine ac_of_awp (N := ⟨_, pnC (l + 1), fun h hh => pnC_low (Nat.lt_of_lt_of_le hh (by decide))⟩) Try.func183 rfl (by kernel_rfl) Try.ntmps183 (by simp) ?_
    simp only [argsFr, List.zipIdx_cons, List.zipIdx_nil, go_sem]
    refine add_awp ?_
    repeat' (first | (refine setT_awp hn hl ?_; rw [show C.setT l (x.getD l 0).toNat x = C1 from hC1.symm]) | (refine awp_regionEK 18014398517870791 13 (by kernel_rfl) (by kernel_rfl) (by kernel_rfl) ?_; simp only [List.map_cons, List.map_nil, opsE, List.take_succ_cons, List.take_zero, List.drop_succ_cons, List.drop_zero]; simp (maxSteps := 1000000) (dsimp := false) (implicitDefEqProofs := false) (disch := omega) only [wrap64, go_sem, chA_c, chA_g, chA_t, gnF_app, tnF_app, chA_gs, chA_ts, kS0, kS1, kS2, sl0, sl1, sl2, sn0, sn1, sn2, chA_low, chA_upd, chA_scrub, sub_lowb, sub_lowe, pX_low, pX_ts, pX_gs, hTF]) | refine awp_seqK fun K hK => ?_ | (refine awp_regionK 18014398517870791 rfl ?_; simp only [List.map_cons, List.map_nil]; simp (maxSteps := 1000000) (dsimp := false) (implicitDefEqProofs := false) (disch := omega) only [wrap64, go_sem, chA_c, chA_g, chA_t, gnF_app, tnF_app, chA_gs, chA_ts, kS0, kS1, kS2, sl0, sl1, sl2, sn0, sn1, sn2, chA_low, chA_upd, chA_scrub, sub_lowb, sub_lowe, pX_low, pX_ts, pX_gs, hTF]) | (refine awp_regionQK 18014398517870791 (by kernel_rfl) (by kernel_rfl) (by kernel_rfl) ?_; simp only [List.map_cons, List.map_nil]; simp (maxSteps := 1000000) (dsimp := false) (implicitDefEqProofs := false) (disch := omega) only [wrap64, go_sem, chA_c, chA_g, chA_t, gnF_app, tnF_app, chA_gs, chA_ts, kS0, kS1, kS2, sl0, sl1, sl2, sn0, sn1, sn2, chA_low, chA_upd, chA_scrub, sub_lowb, sub_lowe, pX_low, pX_ts, pX_gs, hTF]) | refine awp_block ?_ | (refine awp_skip ?_; simp only [go_sem, chA_c, chA_g, chA_t, gnF_app, tnF_app, chA_gs, chA_ts, kS0, kS1, kS2, sl0, sl1, sl2, sn0, sn1, sn2, chA_low, chA_upd, chA_scrub, sub_lowb, sub_lowe, pX_low, pX_ts, pX_gs, hTF]) | (refine awp_exit ?_; simp only [go_sem, chA_c, chA_g, chA_t, gnF_app, tnF_app, chA_gs, chA_ts, kS0, kS1, kS2, sl0, sl1, sl2, sn0, sn1, sn2, chA_low, chA_upd, chA_scrub, sub_lowb, sub_lowe, pX_low, pX_ts, pX_gs, hTF]) | (refine awp_ret ?_; try simp only [go_sem, chA_c, chA_g, chA_t, gnF_app, tnF_app, chA_gs, chA_ts, kS0, kS1, kS2, sl0, sl1, sl2, sn0, sn1, sn2, chA_low, chA_upd, chA_scrub, sub_lowb, sub_lowe, pX_low, pX_ts, pX_gs, hTF]) | (refine awp_condP rfl ?_; try simp only [go_sem, chA_c, chA_g, chA_t, gnF_app, tnF_app, chA_gs, chA_ts, kS0, kS1, kS2, sl0, sl1, sl2, sn0, sn1, sn2, chA_low, chA_upd, chA_scrub, sub_lowb, sub_lowe, pX_low, pX_ts, pX_gs, hTF]) | (refine BrP.mk (fun h => ?_) (fun h => ?_) <;> try simp (dsimp := false) (disch := omega) only [wrap64]) | (refine Br.mk (fun h => ?_) (fun h => ?_) <;> try simp (dsimp := false) (disch := omega) only [wrap64]) | refine Ob.mk (by first | omega | (intro _ _; rfl) | trivial | (intros; trivial) | assumption | (intro i hi; have h0 : i = 0 := (by omega); subst h0; first | rfl | trivial) | (intro i hi; have h0 : i = 0 ∨ i = 1 := (by omega); rcases h0 with rfl | rfl <;> rfl) | (intro i hi; have h0 : i = 0 ∨ i = 1 ∨ i = 2 := (by omega); rcases h0 with rfl | rfl | rfl <;> rfl)) ?_ | apply_assumption -exfalso -symm)
    all_goals (first | (show endQ _ _ _ _ _ _ _; (repeat (rename (∀ (A : Fr) (H : Hp), AWP _ _ _ _ A H → _) => hK; clear hK)); (repeat (rename (Fr → Hp → Prop) => K; clear K))) | (show Exists _; (repeat (rename (∀ (A : Fr) (H : Hp), AWP _ _ _ _ A H → _) => hK; clear hK)); (repeat (rename (Fr → Hp → Prop) => K; clear K))) | skip)
    · exfalso; omega
    refine awp_loop (ι := Ch × Nat) (fun z => [(7, .v (.int .i64 (z.2))), (0, .ref 1000000 0), (1, .v (.int .i64 (l))), (2, .list false 1 (x).length (cM iv 0 (x)))]) (fun z => (chH (kS n) n z.1).add Hp.emp)
      (fun z => z.2 ≤ (C.S l).length ∧ Run n l C1 z.1 ∧ ∀ j, j < z.2 → z.1.has (n - l) l (comp x ((C.S l).getD j [])) = true) (fun z => (C.S l).length - z.2) (C1, 0)
      ⟨Nat.zero_le _, Run.refl hs1.h, fun j hj => absurd hj (Nat.not_lt_zero j)⟩ (Sub.toL (by simp only [go_sem] <;> first | trivial | (simp only [Option.some.injEq, AV.v.injEq, AV.own.injEq, AV.list.injEq, Value.int.injEq, Value.bool.injEq, true_and, and_true]; first | omega | (simp; done)) | (simp; done) | (simp; omega)) (Hp.le_refl _)) ?_
    rintro ⟨C2, i⟩ ⟨hi, hr, hd⟩
    dsimp only at hi hr hd ⊢
    have hS2 : C2.S l = C.S l := by rw [hr.eS l (Nat.le_refl _), hC1]; rfl
    have hcm := hr.cnt
    have hgl : i < (C.S l).length → ((C.S l).getD i []).length = n := fun h => (hgp _ (hgm i h)).1.1
    have hr' : Hold (Run n l C1 C2) := ⟨hr⟩
    have hac : i < (C.S l).length → _ := fun h => ih C2 (comp x ((C.S l).getD i [])) (by omega) hr.ok (hprod i h).1 (hprod i h).2.1 (by rw [hS2]; exact (hprod i h).2.2)
    clear hr
    repeat' (first | refine awp_seqK fun K hK => ?_ | (refine awp_regionK 18014398517870791 rfl ?_; simp only [List.map_cons, List.map_nil]; simp (maxSteps := 1000000) (dsimp := false) (implicitDefEqProofs := false) (disch := omega) only [wrap64, go_sem, chA_c, chA_g, chA_t, gnF_app, tnF_app, chA_gs, chA_ts, kS0, kS1, kS2, sl0, sl1, sl2, sn0, sn1, sn2, chA_low, chA_upd, chA_scrub, sub_lowb, sub_lowe, pX_low, pX_ts, pX_gs, hS2]) | (refine awp_regionQK 18014398517870791 (by kernel_rfl) (by kernel_rfl) (by kernel_rfl) ?_; simp only [List.map_cons, List.map_nil]; simp (maxSteps := 1000000) (dsimp := false) (implicitDefEqProofs := false) (disch := omega) only [wrap64, go_sem, chA_c, chA_g, chA_t, gnF_app, tnF_app, chA_gs, chA_ts, kS0, kS1, kS2, sl0, sl1, sl2, sn0, sn1, sn2, chA_low, chA_upd, chA_scrub, sub_lowb, sub_lowe, pX_low, pX_ts, pX_gs, hS2]) | refine awp_block ?_ | (refine awp_skip ?_; simp only [go_sem, chA_c, chA_g, chA_t, gnF_app, tnF_app, chA_gs, chA_ts, kS0, kS1, kS2, sl0, sl1, sl2, sn0, sn1, sn2, chA_low, chA_upd, chA_scrub, sub_lowb, sub_lowe, pX_low, pX_ts, pX_gs, hS2]) | (refine awp_exit ?_; simp only [go_sem, chA_c, chA_g, chA_t, gnF_app, tnF_app, chA_gs, chA_ts, kS0, kS1, kS2, sl0, sl1, sl2, sn0, sn1, sn2, chA_low, chA_upd, chA_scrub, sub_lowb, sub_lowe, pX_low, pX_ts, pX_gs, hS2]) | (refine awp_ret ?_; try simp only [go_sem, chA_c, chA_g, chA_t, gnF_app, tnF_app, chA_gs, chA_ts, kS0, kS1, kS2, sl0, sl1, sl2, sn0, sn1, sn2, chA_low, chA_upd, chA_scrub, sub_lowb, sub_lowe, pX_low, pX_ts, pX_gs, hS2]) | (refine awp_condP rfl ?_; try simp only [go_sem, chA_c, chA_g, chA_t, gnF_app, tnF_app, chA_gs, chA_ts, kS0, kS1, kS2, sl0, sl1, sl2, sn0, sn1, sn2, chA_low, chA_upd, chA_scrub, sub_lowb, sub_lowe, pX_low, pX_ts, pX_gs, hS2]) | (refine BrP.mk (fun h => ?_) (fun h => ?_) <;> try simp (dsimp := false) (disch := omega) only [wrap64]) | (refine Br.mk (fun h => ?_) (fun h => ?_) <;> try simp (dsimp := false) (disch := omega) only [wrap64]) | refine Ob.mk (by first | omega | (intro _ _; rfl) | trivial | (intros; trivial) | assumption | (intro i hi; have h0 : i = 0 := (by omega); subst h0; first | rfl | trivial) | (intro i hi; have h0 : i = 0 ∨ i = 1 := (by omega); rcases h0 with rfl | rfl <;> rfl) | (intro i hi; have h0 : i = 0 ∨ i = 1 ∨ i = 2 := (by omega); rcases h0 with rfl | rfl | rfl <;> rfl)) ?_ | ((first | ((first | refine atF (f := 66) ?_ | refine atQ (f := 66) ?_); (first | (refine cFI (hac := specCompose_ok x ((C.S l).getD i []) (by omega) (pm_lt hx (hgp _ (hgm i (by omega))).1) 9) (hK := ?_)) | (refine cQI (hac := specCompose_ok x ((C.S l).getD i []) (by omega) (pm_lt hx (hgp _ (hgm i (by omega))).1) 9) (hK := ?_)))) | ((first | refine atF (f := 183) ?_ | refine atQ (f := 183) ?_); refine callCh (R := Hp.emp) (hac (by omega)) hok hn rfl rfl (fun h hh => pnC_pX (Nat.le_refl _) hh) (fun C5 hA5 => ?_))); simp (maxSteps := 1000000) (dsimp := false) (implicitDefEqProofs := false) (disch := omega) only [wrap64, go_sem, chA_c, chA_g, chA_t, gnF_app, tnF_app, chA_gs, chA_ts, kS0, kS1, kS2, sl0, sl1, sl2, sn0, sn1, sn2, chA_low, chA_upd, chA_scrub, sub_lowb, sub_lowe, pX_low, pX_ts, pX_gs, hS2]) | apply_assumption -exfalso -symm)
    all_goals (first | (show endQ _ _ _ _ _ _ _; (repeat (rename (∀ (A : Fr) (H : Hp), AWP _ _ _ _ A H → _) => hK; clear hK)); (repeat (rename (Fr → Hp → Prop) => K; clear K))) | (show Exists _; (repeat (rename (∀ (A : Fr) (H : Hp), AWP _ _ _ _ A H → _) => hK; clear hK)); (repeat (rename (Fr → Hp → Prop) => K; clear K))) | skip)
    · obtain ⟨r1, r2⟩ := hA5
      refine ⟨(C5, i + 1), ⟨by dsimp only; omega, hr'.h.trans r1 hl, fun j hj => ?_⟩, by dsimp only; omega, Sub.toL (by simp only [go_sem] <;> first | trivial | (simp only [Option.some.injEq, AV.v.injEq, AV.own.injEq, AV.list.injEq, Value.int.injEq, Value.bool.injEq, true_and, and_true]; first | omega | (simp; done)) | (simp; done) | (simp; omega)) (Hp.le_refl _)⟩
      dsimp only at hj ⊢
      by_cases e : j = i
      · subst e; exact r2
      · have hp := hprod j (by omega)
        exact r1.keep hr'.h.ok hl hp.1 hp.2.1 (hd j (by omega))
    · have e : i = (C.S l).length := by omega
      have hall : ∀ g, g ∈ C.S l → C2.has (n - l) l (comp x g) = true := fun g hg => by
        obtain ⟨j, hj, rfl⟩ := List.mem_iff_getElem.1 hg
        have := hd j (by omega)
        rwa [List.getD_eq_getElem?_getD, List.getElem?_eq_getElem hj] at this
      obtain ⟨r1, r2⟩ := Run.set hs'.h hl hx hf hT (hC1 ▸ hr'.h) hall
      exact end_Ch' rfl ⟨r1, r2⟩ (le_add _ _)

theorem specProd_ok (n : Nat) (hn : n ≤ 20) (l : Nat) (hl : l < n) (ihG : ∀ (C : Ch) (p : List Int), C.WF n → C.Full n (l + 1) → C.Ind n → Pm n p → fixB (l + 1) p → AC Try.prog 159 [.ref 1000000 0, .v (.int .i64 ((l : Int) + 1)), ints p] (chH (kS n) n C) (pnC (l + 1)) (postC (kS n) n (Ch.Add n (l + 1) C p))) : ∀ (M : Nat) (C : Ch) (x : List Int), n - C.cnt n l < M → Spc n l C → Pm n x → fixB l x → Gen n (C.S l) x → AC Try.prog 183 [.ref 1000000 0, .v (.int .i64 (l)), ints x] (chH (kS n) n C) (pnC (l + 1)) (postC (kS n) n (fun C' => Run n l C C' ∧ C'.has (n - l) l x = true))
  | 0, C, x, hM, _, _, _, _ => by omega
  | M + 1, C, x, hM, h1, h2, h3, h4 => specProd_step n hn l hl ihG M (specProd_ok n hn l hl ihG M) C x hM h1 h2 h3 h4

/-- The representatives of the points below m. -/
def knl (T : Nat → Option (List Int)) (m : Nat) : List (List Int) := ((List.range m).filter fun y => (T y).isSome).map fun y : Nat => (T y).getD []
theorem knl_succ (T : Nat → Option (List Int)) (m : Nat) : knl T (m + 1) = knl T m ++ (match T m with | none => [] | some t => [t]) := by
  unfold knl
  rw [List.range_succ, List.filter_append, List.map_append]
  congr 1
  cases h : T m <;> simp [h]
theorem knl_length (T : Nat → Option (List Int)) (m : Nat) : (knl T m).length ≤ m := by
  unfold knl
  rw [List.length_map]
  exact Nat.le_trans (List.length_filter_le _ _) (by simp)
theorem knl_mem {T : Nat → Option (List Int)} {m : Nat} {t : List Int} : t ∈ knl T m ↔ ∃ y : Nat, y < m ∧ T y = some t := by
  unfold knl
  simp only [List.mem_map, List.mem_filter, List.mem_range]
  constructor
  · rintro ⟨y, ⟨h1, h2⟩, h3⟩
    obtain ⟨u, hu⟩ := Option.isSome_iff_exists.1 h2
    rw [hu] at h3; simp only [Option.getD_some] at h3; subst h3
    exact ⟨y, h1, hu⟩
  · rintro ⟨y, h1, h2⟩; exact ⟨y, ⟨h1, by rw [h2]; rfl⟩, by rw [h2]; rfl⟩

theorem dv_solid (x : Value) : (AV.tup 2 (vecF [.dead, .v x])).solid := by
  intro i hi
  have h0 : i = 0 ∨ i = 1 := by omega
  rcases h0 with rfl | rfl <;> trivial
theorem dv_scrub (x : Value) (p : Nat → Bool) : (AV.tup 2 (vecF [.dead, .v x])).scrub p = .tup 2 (vecF [.dead, .v x]) := by
  simp only [AV.scrub]
  congr 1
  funext i
  match i with
  | 0 => rfl
  | 1 => rfl
  | i + 2 => rfl
theorem specGen_step (n : Nat) (hn : n ≤ 20) (l : Nat) (C : Ch) (p : List Int) (hl : l < n) (hw : C.WF n) (hF : C.Full n l) (hI : C.Ind n) (hp : Pm n p) (hf : fixB l p)
    (ihP : ∀ (C : Ch) (x : List Int), Spc n l C → Pm n x → fixB l x → Gen n (C.S l) x → AC Try.prog 183 [.ref 1000000 0, .v (.int .i64 (l)), ints x] (chH (kS n) n C) (pnC (l + 1)) (postC (kS n) n (fun C' => Run n l C C' ∧ C'.has (n - l) l x = true))) :
    AC Try.prog 159 [.ref 1000000 0, .v (.int .i64 (l)), ints p] (chH (kS n) n C) (pnC l) (postC (kS n) n (Ch.Add n l C p)) := by
  have hok : okF n (kS n) := .inr rfl
  have hpc : pnC l (sub 1000001 l) = false := pnC_gs (by omega) (Nat.le_refl _)
  have hsh := (Ch.Ind.short hw hI hn hl : (C.S l).length ≤ 86)
  have hsc : scF (fun x => x == sub 1000001 l) (kS n) = kS n := okF_scrub hok _ (sl1 _ _) (sl2 _ _)
  have hI' : Hold (C.Ind n) := ⟨hI⟩
  clear hI
  obtain ⟨hv1, hv2⟩ := sif_has C (n - l) l p
  rw [show l + (n - l) = n by omega] at hv1 hv2
  obtain ⟨C1, hC1⟩ : ∃ C1, C1 = C.addS l p := ⟨_, rfl⟩
  refine ac_of_awp (N := ⟨_, pnC (l), fun h hh => pnC_low (Nat.lt_of_lt_of_le hh (by decide))⟩) Try.func159 rfl (by kernel_rfl) Try.ntmps159 (by simp) ?_
  simp only [argsFr, List.zipIdx_cons, List.zipIdx_nil, go_sem]
  repeat' (first | (refine setS_awp hok hn hl ?_; rw [← hC1]) | (refine awp_regionPK 9671480348396928400164743 5 14 (by kernel_rfl) (by kernel_rfl) (by kernel_rfl) ?_; simp only [List.map_cons, List.map_nil, opsP, List.take_succ_cons, List.take_zero, List.drop_succ_cons, List.drop_zero]; simp (maxSteps := 1000000) (dsimp := false) (implicitDefEqProofs := false) (disch := omega) only [wrap64, go_sem, chH_c, chH_g, chH_t, chH_gs, chH_ts, hpc, hs_c, hs_g, hsc, chA_c, chA_g, chA_t, gnF_app, tnF_app, chA_gs, chA_ts, kS0, kS1, kS2, sl0, sl1, sl2, sn0, sn1, sn2, chA_low, chA_upd, chA_scrub, sub_lowb, sub_lowe, pX_low, pX_ts, pX_gs]) | refine awp_seqK fun K hK => ?_ | (refine awp_regionK 9671480348396928400164743 rfl ?_; simp only [List.map_cons, List.map_nil]; simp (maxSteps := 1000000) (dsimp := false) (implicitDefEqProofs := false) (disch := omega) only [wrap64, go_sem, chH_c, chH_g, chH_t, chH_gs, chH_ts, hpc, hs_c, hs_g, hsc, chA_c, chA_g, chA_t, gnF_app, tnF_app, chA_gs, chA_ts, kS0, kS1, kS2, sl0, sl1, sl2, sn0, sn1, sn2, chA_low, chA_upd, chA_scrub, sub_lowb, sub_lowe, pX_low, pX_ts, pX_gs]) | (refine awp_regionQK 9671480348396928400164743 (by kernel_rfl) (by kernel_rfl) (by kernel_rfl) ?_; simp only [List.map_cons, List.map_nil]; simp (maxSteps := 1000000) (dsimp := false) (implicitDefEqProofs := false) (disch := omega) only [wrap64, go_sem, chH_c, chH_g, chH_t, chH_gs, chH_ts, hpc, hs_c, hs_g, hsc, chA_c, chA_g, chA_t, gnF_app, tnF_app, chA_gs, chA_ts, kS0, kS1, kS2, sl0, sl1, sl2, sn0, sn1, sn2, chA_low, chA_upd, chA_scrub, sub_lowb, sub_lowe, pX_low, pX_ts, pX_gs]) | refine awp_block ?_ | (refine awp_skip ?_; simp only [go_sem, chH_c, chH_g, chH_t, chH_gs, chH_ts, hpc, hs_c, hs_g, hsc, chA_c, chA_g, chA_t, gnF_app, tnF_app, chA_gs, chA_ts, kS0, kS1, kS2, sl0, sl1, sl2, sn0, sn1, sn2, chA_low, chA_upd, chA_scrub, sub_lowb, sub_lowe, pX_low, pX_ts, pX_gs]) | (refine awp_exit ?_; simp only [go_sem, chH_c, chH_g, chH_t, chH_gs, chH_ts, hpc, hs_c, hs_g, hsc, chA_c, chA_g, chA_t, gnF_app, tnF_app, chA_gs, chA_ts, kS0, kS1, kS2, sl0, sl1, sl2, sn0, sn1, sn2, chA_low, chA_upd, chA_scrub, sub_lowb, sub_lowe, pX_low, pX_ts, pX_gs]) | (refine awp_ret ?_; try simp only [go_sem, chH_c, chH_g, chH_t, chH_gs, chH_ts, hpc, hs_c, hs_g, hsc, chA_c, chA_g, chA_t, gnF_app, tnF_app, chA_gs, chA_ts, kS0, kS1, kS2, sl0, sl1, sl2, sn0, sn1, sn2, chA_low, chA_upd, chA_scrub, sub_lowb, sub_lowe, pX_low, pX_ts, pX_gs]) | (refine awp_condP rfl ?_; try simp only [go_sem, chH_c, chH_g, chH_t, chH_gs, chH_ts, hpc, hs_c, hs_g, hsc, chA_c, chA_g, chA_t, gnF_app, tnF_app, chA_gs, chA_ts, kS0, kS1, kS2, sl0, sl1, sl2, sn0, sn1, sn2, chA_low, chA_upd, chA_scrub, sub_lowb, sub_lowe, pX_low, pX_ts, pX_gs]) | (refine BrP.mk (fun h => ?_) (fun h => ?_) <;> try simp (dsimp := false) (disch := omega) only [wrap64]) | (refine Br.mk (fun h => ?_) (fun h => ?_) <;> try simp (dsimp := false) (disch := omega) only [wrap64]) | refine Ob.mk (by first | omega | (intro _ _; rfl) | trivial | (intros; trivial) | assumption | (intro i hi; have h0 : i = 0 := (by omega); subst h0; first | rfl | trivial) | (intro i hi; have h0 : i = 0 ∨ i = 1 := (by omega); rcases h0 with rfl | rfl <;> rfl) | (intro i hi; have h0 : i = 0 ∨ i = 1 ∨ i = 2 := (by omega); rcases h0 with rfl | rfl | rfl <;> rfl)) ?_ | ((first | (refine cV (hfit := .cons (fits_chS (Hp.le_refl _) hn (fun _ => trivial)) (.refl _)) (hac := sift_ok n C l p hn (by omega) hw hp) (ha := dv_solid _) (hpl := dv_scrub _ _) (hK := ?_))); simp (maxSteps := 1000000) (dsimp := false) (implicitDefEqProofs := false) (disch := omega) only [wrap64, go_sem, chH_c, chH_g, chH_t, chH_gs, chH_ts, hpc, hs_c, hs_g, hsc, chA_c, chA_g, chA_t, gnF_app, tnF_app, chA_gs, chA_ts, kS0, kS1, kS2, sl0, sl1, sl2, sn0, sn1, sn2, chA_low, chA_upd, chA_scrub, sub_lowb, sub_lowe, pX_low, pX_ts, pX_gs]) | apply_assumption -exfalso -symm)
  all_goals (first | (show endQ _ _ _ _ _ _ _; (repeat (rename (∀ (A : Fr) (H : Hp), AWP _ _ _ _ A H → _) => hK; clear hK)); (repeat (rename (Fr → Hp → Prop) => K; clear K))) | (show Exists _; (repeat (rename (∀ (A : Fr) (H : Hp), AWP _ _ _ _ A H → _) => hK; clear hK)); (repeat (rename (Fr → Hp → Prop) => K; clear K))) | skip)
  · exfalso; omega
  · exact end_Ch rfl (Ch.Add.none hw hF (hv2.1 (by omega))) (Hp.le_refl _)
  have hs1 : Hold (Spc n l C1) := ⟨by
    rw [hC1]
    refine Spc.start hw hF hI'.h hl hp hf ?_
    cases e : C.has (n - l) l p with
    | false => rfl
    | true => have := hv2.2 e; omega⟩
  have hTC : C1.T l = C.T l := by rw [hC1]; rfl
  have hT1 : ∀ y t, C1.T l y = some t → Pm n t ∧ fixB l t := fun y t h => by rw [hTC] at h; exact ⟨(hw.t1 l y t hl h).1, (hw.t1 l y t hl h).2.1⟩
  refine awp_loop (ι := Nat) (fun y => [(9, .v (.int .i64 (y))), (8, .own 46 0 1 (knl (C1.T l) y).length), (0, .ref 1000000 0), (1, .v (.int .i64 (l))), (2, .list false 1 (p).length (cM iv 0 (p)))]) (fun y => (chH (kS n) n C1).add (Hp.emp.upd 46 (.cells (knl (C1.T l) y).length (cM ints [] (knl (C1.T l) y))))) (fun y => y ≤ n) (fun y => n - y) 0 (Nat.zero_le _)
    (Sub.trans (sub46 (d := 46) (g := cM ints [] []) (by decide) rfl (fun i hi => absurd hi (Nat.not_lt_zero i))) (Sub.toL (by simp only [go_sem] <;> first | trivial | (simp only [Option.some.injEq, AV.v.injEq, AV.own.injEq, AV.list.injEq, Value.int.injEq, Value.bool.injEq, true_and, and_true]; first | omega | (simp; done)) | (simp; done) | (simp; omega)) (add_le (Hp.le_upd rfl (Hp.le_emp _))))) ?_
  intro y hy
  have hkl := knl_length (C1.T l) y
  have hks := knl_succ (C1.T l) y
  cases hTy : C1.T l y with
  | some t =>
    have hTF : tF (C1.T l) y = .list false 1 t.length (cM iv 0 t) := tF_some hTy
    have htl := (hT1 y t hTy).1.1
    rw [hTy] at hks
    repeat' (first | refine awp_seqK fun K hK => ?_ | (refine awp_regionK 9671480348396928400164743 rfl ?_; simp only [List.map_cons, List.map_nil]; simp (maxSteps := 1000000) (dsimp := false) (implicitDefEqProofs := false) (disch := omega) only [wrap64, go_sem, chA_c, chA_g, chA_t, gnF_app, tnF_app, chA_gs, chA_ts, kS0, kS1, kS2, sl0, sl1, sl2, sn0, sn1, sn2, chA_low, chA_upd, chA_scrub, sub_lowb, sub_lowe, pX_low, pX_ts, pX_gs, hTF]) | (refine awp_regionQK 9671480348396928400164743 (by kernel_rfl) (by kernel_rfl) (by kernel_rfl) ?_; simp only [List.map_cons, List.map_nil]; simp (maxSteps := 1000000) (dsimp := false) (implicitDefEqProofs := false) (disch := omega) only [wrap64, go_sem, chA_c, chA_g, chA_t, gnF_app, tnF_app, chA_gs, chA_ts, kS0, kS1, kS2, sl0, sl1, sl2, sn0, sn1, sn2, chA_low, chA_upd, chA_scrub, sub_lowb, sub_lowe, pX_low, pX_ts, pX_gs, hTF]) | refine awp_block ?_ | (refine awp_skip ?_; simp only [go_sem, chA_c, chA_g, chA_t, gnF_app, tnF_app, chA_gs, chA_ts, kS0, kS1, kS2, sl0, sl1, sl2, sn0, sn1, sn2, chA_low, chA_upd, chA_scrub, sub_lowb, sub_lowe, pX_low, pX_ts, pX_gs, hTF]) | (refine awp_exit ?_; simp only [go_sem, chA_c, chA_g, chA_t, gnF_app, tnF_app, chA_gs, chA_ts, kS0, kS1, kS2, sl0, sl1, sl2, sn0, sn1, sn2, chA_low, chA_upd, chA_scrub, sub_lowb, sub_lowe, pX_low, pX_ts, pX_gs, hTF]) | (refine awp_ret ?_; try simp only [go_sem, chA_c, chA_g, chA_t, gnF_app, tnF_app, chA_gs, chA_ts, kS0, kS1, kS2, sl0, sl1, sl2, sn0, sn1, sn2, chA_low, chA_upd, chA_scrub, sub_lowb, sub_lowe, pX_low, pX_ts, pX_gs, hTF]) | (refine awp_condP rfl ?_; try simp only [go_sem, chA_c, chA_g, chA_t, gnF_app, tnF_app, chA_gs, chA_ts, kS0, kS1, kS2, sl0, sl1, sl2, sn0, sn1, sn2, chA_low, chA_upd, chA_scrub, sub_lowb, sub_lowe, pX_low, pX_ts, pX_gs, hTF]) | (refine BrP.mk (fun h => ?_) (fun h => ?_) <;> try simp (dsimp := false) (disch := omega) only [wrap64]) | (refine Br.mk (fun h => ?_) (fun h => ?_) <;> try simp (dsimp := false) (disch := omega) only [wrap64]) | refine Ob.mk (by first | omega | (intro _ _; rfl) | trivial | (intros; trivial) | assumption | (intro i hi; have h0 : i = 0 := (by omega); subst h0; first | rfl | trivial) | (intro i hi; have h0 : i = 0 ∨ i = 1 := (by omega); rcases h0 with rfl | rfl <;> rfl) | (intro i hi; have h0 : i = 0 ∨ i = 1 ∨ i = 2 := (by omega); rcases h0 with rfl | rfl | rfl <;> rfl)) ?_ | apply_assumption -exfalso -symm)
    all_goals (first | (show endQ _ _ _ _ _ _ _; (repeat (rename (∀ (A : Fr) (H : Hp), AWP _ _ _ _ A H → _) => hK; clear hK)); (repeat (rename (Fr → Hp → Prop) => K; clear K))) | (show Exists _; (repeat (rename (∀ (A : Fr) (H : Hp), AWP _ _ _ _ A H → _) => hK; clear hK)); (repeat (rename (Fr → Hp → Prop) => K; clear K))) | skip)
    · have e3 : knl (C1.T l) (y + 1) = knl (C1.T l) y ++ [t] := hks
      refine ⟨y + 1, by omega, by omega, Sub.trans (sub46 (d := 46) (g := cM ints [] (knl (C1.T l) (y + 1))) (by decide) rfl (e3 ▸ apF_rows rfl)) (Sub.toL ?_ (add_le (Hp.le_upd ?_ (Hp.le_emp _))))⟩
      · exact (by simp only [go_sem] <;> first | trivial | (simp only [Option.some.injEq, AV.v.injEq, AV.own.injEq, AV.list.injEq, Value.int.injEq, Value.bool.injEq, true_and, and_true]; first | omega | (simp [e3]; done)) | (simp [e3]; done) | (simp [e3]; omega))
      · rw [e3, List.length_append]; rfl
    · exfalso; omega
    · have := hs1.h.wf.t1 l y t hl hTy
      have h3 := this.1.img_lt hl
      rw [this.2.2] at h3
      exfalso; omega
  | none =>
    have hTF : tF (C1.T l) y = .v (.slice none 0 0) := tF_none hTy
    have e3 : knl (C1.T l) (y + 1) = knl (C1.T l) y := by rw [hks, hTy]; simp
    clear hks
    repeat' (first | refine awp_seqK fun K hK => ?_ | (refine awp_regionK 9671480348396928400164743 rfl ?_; simp only [List.map_cons, List.map_nil]; simp (maxSteps := 1000000) (dsimp := false) (implicitDefEqProofs := false) (disch := omega) only [wrap64, go_sem, chA_c, chA_g, chA_t, gnF_app, tnF_app, chA_gs, chA_ts, kS0, kS1, kS2, sl0, sl1, sl2, sn0, sn1, sn2, chA_low, chA_upd, chA_scrub, sub_lowb, sub_lowe, pX_low, pX_ts, pX_gs, hTF]) | (refine awp_regionQK 9671480348396928400164743 (by kernel_rfl) (by kernel_rfl) (by kernel_rfl) ?_; simp only [List.map_cons, List.map_nil]; simp (maxSteps := 1000000) (dsimp := false) (implicitDefEqProofs := false) (disch := omega) only [wrap64, go_sem, chA_c, chA_g, chA_t, gnF_app, tnF_app, chA_gs, chA_ts, kS0, kS1, kS2, sl0, sl1, sl2, sn0, sn1, sn2, chA_low, chA_upd, chA_scrub, sub_lowb, sub_lowe, pX_low, pX_ts, pX_gs, hTF]) | refine awp_block ?_ | (refine awp_skip ?_; simp only [go_sem, chA_c, chA_g, chA_t, gnF_app, tnF_app, chA_gs, chA_ts, kS0, kS1, kS2, sl0, sl1, sl2, sn0, sn1, sn2, chA_low, chA_upd, chA_scrub, sub_lowb, sub_lowe, pX_low, pX_ts, pX_gs, hTF]) | (refine awp_exit ?_; simp only [go_sem, chA_c, chA_g, chA_t, gnF_app, tnF_app, chA_gs, chA_ts, kS0, kS1, kS2, sl0, sl1, sl2, sn0, sn1, sn2, chA_low, chA_upd, chA_scrub, sub_lowb, sub_lowe, pX_low, pX_ts, pX_gs, hTF]) | (refine awp_ret ?_; try simp only [go_sem, chA_c, chA_g, chA_t, gnF_app, tnF_app, chA_gs, chA_ts, kS0, kS1, kS2, sl0, sl1, sl2, sn0, sn1, sn2, chA_low, chA_upd, chA_scrub, sub_lowb, sub_lowe, pX_low, pX_ts, pX_gs, hTF]) | (refine awp_condP rfl ?_; try simp only [go_sem, chA_c, chA_g, chA_t, gnF_app, tnF_app, chA_gs, chA_ts, kS0, kS1, kS2, sl0, sl1, sl2, sn0, sn1, sn2, chA_low, chA_upd, chA_scrub, sub_lowb, sub_lowe, pX_low, pX_ts, pX_gs, hTF]) | (refine BrP.mk (fun h => ?_) (fun h => ?_) <;> try simp (dsimp := false) (disch := omega) only [wrap64]) | (refine Br.mk (fun h => ?_) (fun h => ?_) <;> try simp (dsimp := false) (disch := omega) only [wrap64]) | refine Ob.mk (by first | omega | (intro _ _; rfl) | trivial | (intros; trivial) | assumption | (intro i hi; have h0 : i = 0 := (by omega); subst h0; first | rfl | trivial) | (intro i hi; have h0 : i = 0 ∨ i = 1 := (by omega); rcases h0 with rfl | rfl <;> rfl) | (intro i hi; have h0 : i = 0 ∨ i = 1 ∨ i = 2 := (by omega); rcases h0 with rfl | rfl | rfl <;> rfl)) ?_ | apply_assumption -exfalso -symm)
    all_goals (first | (show endQ _ _ _ _ _ _ _; (repeat (rename (∀ (A : Fr) (H : Hp), AWP _ _ _ _ A H → _) => hK; clear hK)); (repeat (rename (Fr → Hp → Prop) => K; clear K))) | (show Exists _; (repeat (rename (∀ (A : Fr) (H : Hp), AWP _ _ _ _ A H → _) => hK; clear hK)); (repeat (rename (Fr → Hp → Prop) => K; clear K))) | skip)
    · exfalso; omega
    · refine ⟨y + 1, by omega, by omega, Sub.toL (by simp only [go_sem] <;> first | trivial | (simp only [Option.some.injEq, AV.v.injEq, AV.own.injEq, AV.list.injEq, Value.int.injEq, Value.bool.injEq, true_and, and_true]; first | omega | (simp [e3]; done)) | (simp [e3]; done) | (simp [e3]; omega)) ?_⟩
      rw [e3]
      exact Hp.le_refl _
    · have e : y = n := by omega
      subst e
      have hkm : ∀ j, j < (knl (C1.T l) y).length → (knl (C1.T l) y).getD j [] ∈ knl (C1.T l) y := fun j hj => by
        rw [List.getD_eq_getElem?_getD, List.getElem?_eq_getElem hj]; exact List.getElem_mem _
      have hkt : ∀ j, j < (knl (C1.T l) y).length → ∃ z, C1.T l z = some ((knl (C1.T l) y).getD j []) := fun j hj => by
        obtain ⟨z, _, hz⟩ := knl_mem.1 (hkm j hj); exact ⟨z, hz⟩
      have hkp : ∀ j, j < (knl (C1.T l) y).length → Pm y ((knl (C1.T l) y).getD j []) ∧ fixB l ((knl (C1.T l) y).getD j []) ∧ Gen y (C1.S l) ((knl (C1.T l) y).getD j []) := fun j hj => by
        obtain ⟨z, hz⟩ := hkt j hj
        exact ⟨(hT1 z _ hz).1, (hT1 z _ hz).2, hs1.h.tg z _ hz⟩
      have hpS : p ∈ C1.S l := by rw [hC1, Ch.addS_self]; simp
      have hprod : ∀ j, j < (knl (C1.T l) y).length → Pm y (comp ((knl (C1.T l) y).getD j []) p) ∧ fixB l (comp ((knl (C1.T l) y).getD j []) p) ∧ Gen y (C1.S l) (comp ((knl (C1.T l) y).getD j []) p) := fun j hj =>
        ⟨(hkp j hj).1.comp hp, fixB.comp (hkp j hj).1 (by omega) (hkp j hj).2.1 hf, Gen.mul (hkp j hj).2.2 hpS⟩
      have hpl := hp.1
      refine awp_loop (ι := Ch × Nat) (fun z => [(10, .v (.int .i64 (z.2))), (8, .own 46 0 1 (knl (C1.T l) y).length), (0, .ref 1000000 0), (1, .v (.int .i64 (l))), (2, .list false 1 (p).length (cM iv 0 (p)))]) (fun z => (chH (kS y) y z.1).add (Hp.emp.upd 46 (.cells (knl (C1.T l) y).length (cM ints [] (knl (C1.T l) y)))))
        (fun z => z.2 ≤ (knl (C1.T l) y).length ∧ Run y l C1 z.1 ∧ ∀ j, j < z.2 → z.1.has (y - l) l (comp ((knl (C1.T l) y).getD j []) p) = true) (fun z => (knl (C1.T l) y).length - z.2) (C1, 0)
        ⟨Nat.zero_le _, Run.refl hs1.h, fun j hj => absurd hj (Nat.not_lt_zero j)⟩ (Sub.toL (by simp only [go_sem] <;> first | trivial | (simp only [Option.some.injEq, AV.v.injEq, AV.own.injEq, AV.list.injEq, Value.int.injEq, Value.bool.injEq, true_and, and_true]; first | omega | (simp; done)) | (simp; done) | (simp; omega)) (Hp.le_refl _)) ?_
      rintro ⟨C2, i⟩ ⟨hi, hr, hd⟩
      dsimp only at hi hr hd ⊢
      have hS2 : C2.S l = C1.S l := hr.eS l (Nat.le_refl _)
      have hkl2 : i < (knl (C1.T l) y).length → ((knl (C1.T l) y).getD i []).length = y := fun h => (hkp i h).1.1
      have hr' : Hold (Run y l C1 C2) := ⟨hr⟩
      have hac : i < (knl (C1.T l) y).length → _ := fun h => ihP C2 (comp ((knl (C1.T l) y).getD i []) p) hr.ok (hprod i h).1 (hprod i h).2.1 (by rw [hS2]; exact (hprod i h).2.2)
      clear hr
      repeat' (first | refine awp_seqK fun K hK => ?_ | (refine awp_regionK 9671480348396928400164743 rfl ?_; simp only [List.map_cons, List.map_nil]; simp (maxSteps := 1000000) (dsimp := false) (implicitDefEqProofs := false) (disch := omega) only [wrap64, go_sem, chA_c, chA_g, chA_t, gnF_app, tnF_app, chA_gs, chA_ts, kS0, kS1, kS2, sl0, sl1, sl2, sn0, sn1, sn2, chA_low, chA_upd, chA_scrub, sub_lowb, sub_lowe, pX_low, pX_ts, pX_gs]) | (refine awp_regionQK 9671480348396928400164743 (by kernel_rfl) (by kernel_rfl) (by kernel_rfl) ?_; simp only [List.map_cons, List.map_nil]; simp (maxSteps := 1000000) (dsimp := false) (implicitDefEqProofs := false) (disch := omega) only [wrap64, go_sem, chA_c, chA_g, chA_t, gnF_app, tnF_app, chA_gs, chA_ts, kS0, kS1, kS2, sl0, sl1, sl2, sn0, sn1, sn2, chA_low, chA_upd, chA_scrub, sub_lowb, sub_lowe, pX_low, pX_ts, pX_gs]) | refine awp_block ?_ | (refine awp_skip ?_; simp only [go_sem, chA_c, chA_g, chA_t, gnF_app, tnF_app, chA_gs, chA_ts, kS0, kS1, kS2, sl0, sl1, sl2, sn0, sn1, sn2, chA_low, chA_upd, chA_scrub, sub_lowb, sub_lowe, pX_low, pX_ts, pX_gs]) | (refine awp_exit ?_; simp only [go_sem, chA_c, chA_g, chA_t, gnF_app, tnF_app, chA_gs, chA_ts, kS0, kS1, kS2, sl0, sl1, sl2, sn0, sn1, sn2, chA_low, chA_upd, chA_scrub, sub_lowb, sub_lowe, pX_low, pX_ts, pX_gs]) | (refine awp_ret ?_; try simp only [go_sem, chA_c, chA_g, chA_t, gnF_app, tnF_app, chA_gs, chA_ts, kS0, kS1, kS2, sl0, sl1, sl2, sn0, sn1, sn2, chA_low, chA_upd, chA_scrub, sub_lowb, sub_lowe, pX_low, pX_ts, pX_gs]) | (refine awp_condP rfl ?_; try simp only [go_sem, chA_c, chA_g, chA_t, gnF_app, tnF_app, chA_gs, chA_ts, kS0, kS1, kS2, sl0, sl1, sl2, sn0, sn1, sn2, chA_low, chA_upd, chA_scrub, sub_lowb, sub_lowe, pX_low, pX_ts, pX_gs]) | (refine BrP.mk (fun h => ?_) (fun h => ?_) <;> try simp (dsimp := false) (disch := omega) only [wrap64]) | (refine Br.mk (fun h => ?_) (fun h => ?_) <;> try simp (dsimp := false) (disch := omega) only [wrap64]) | refine Ob.mk (by first | omega | (intro _ _; rfl) | trivial | (intros; trivial) | assumption | (intro i hi; have h0 : i = 0 := (by omega); subst h0; first | rfl | trivial) | (intro i hi; have h0 : i = 0 ∨ i = 1 := (by omega); rcases h0 with rfl | rfl <;> rfl) | (intro i hi; have h0 : i = 0 ∨ i = 1 ∨ i = 2 := (by omega); rcases h0 with rfl | rfl | rfl <;> rfl)) ?_ | ((first | ((first | refine atF (f := 66) ?_ | refine atQ (f := 66) ?_); (first | (refine cFI (hac := specCompose_ok ((knl (C1.T l) y).getD i []) p (by omega) (pm_lt (hkp i (by omega)).1 hp) 9) (hK := ?_)) | (refine cQI (hac := specCompose_ok ((knl (C1.T l) y).getD i []) p (by omega) (pm_lt (hkp i (by omega)).1 hp) 9) (hK := ?_)))) | ((first | refine atF (f := 183) ?_ | refine atQ (f := 183) ?_); refine callCh (R := Hp.emp.upd 46 (.cells (knl (C1.T l) y).length (cM ints [] (knl (C1.T l) y)))) (hac (by omega)) hok hn rfl (scrub_rows _) (fun h hh => pnC_pX (Nat.le_succ _) hh) (fun C5 hA5 => ?_))); simp (maxSteps := 1000000) (dsimp := false) (implicitDefEqProofs := false) (disch := omega) only [wrap64, go_sem, chA_c, chA_g, chA_t, gnF_app, tnF_app, chA_gs, chA_ts, kS0, kS1, kS2, sl0, sl1, sl2, sn0, sn1, sn2, chA_low, chA_upd, chA_scrub, sub_lowb, sub_lowe, pX_low, pX_ts, pX_gs]) | apply_assumption -exfalso -symm)
      all_goals (first | (show endQ _ _ _ _ _ _ _; (repeat (rename (∀ (A : Fr) (H : Hp), AWP _ _ _ _ A H → _) => hK; clear hK)); (repeat (rename (Fr → Hp → Prop) => K; clear K))) | (show Exists _; (repeat (rename (∀ (A : Fr) (H : Hp), AWP _ _ _ _ A H → _) => hK; clear hK)); (repeat (rename (Fr → Hp → Prop) => K; clear K))) | skip)
      · obtain ⟨r1, r2⟩ := hA5
        refine ⟨(C5, i + 1), ⟨by dsimp only; omega, hr'.h.trans r1 hl, fun j hj => ?_⟩, by dsimp only; omega, Sub.toL (by simp only [go_sem] <;> first | trivial | (simp only [Option.some.injEq, AV.v.injEq, AV.own.injEq, AV.list.injEq, Value.int.injEq, Value.bool.injEq, true_and, and_true]; first | omega | (simp; done)) | (simp; done) | (simp; omega)) (Hp.le_refl _)⟩
        dsimp only at hj ⊢
        by_cases e : j = i
        · subst e; exact r2
        · have hq := hprod j (by omega)
          exact r1.keep hr'.h.ok hl hq.1 hq.2.1 (hd j (by omega))
      · have e : i = (knl (C1.T l) y).length := by omega
        have hall : ∀ z t, C.T l z = some t → C2.has (y - l) l (comp t p) = true := fun z t ht => by
          have h1 := hw.t1 l z t hl ht
          have hz := h1.1.img_lt hl
          rw [h1.2.2] at hz
          have hm : t ∈ knl (C1.T l) y := knl_mem.2 ⟨z, hz, by rw [hTC]; exact ht⟩
          obtain ⟨j, hj, rfl⟩ := List.mem_iff_getElem.1 hm
          have := hd j (by omega)
          rwa [List.getD_eq_getElem?_getD, List.getElem?_eq_getElem hj] at this
        exact end_Ch' rfl (Run.fin hw hF hl hp hf (hC1 ▸ hs1.h) (hC1 ▸ hr'.h) hall) (le_add _ _)

theorem specGen_end (n : Nat) (hn : n ≤ 20) (C : Ch) (p : List Int) (hw : C.WF n) (hF : C.Full n n) (hp : Pm n p) :
    AC Try.prog 159 [.ref 1000000 0, .v (.int .i64 (n)), ints p] (chH (kS n) n C) (pnC n) (postC (kS n) n (Ch.Add n n C p)) := by
  have hh : C.has (n - n) n p = true := by rw [Nat.sub_self]; rfl
  refine ac_of_awp (N := ⟨_, pnC (n), fun h hh => pnC_low (Nat.lt_of_lt_of_le hh (by decide))⟩) Try.func159 rfl (by kernel_rfl) Try.ntmps159 (by simp) ?_
  simp only [argsFr, List.zipIdx_cons, List.zipIdx_nil, go_sem]
  repeat' (first | refine awp_seqK fun K hK => ?_ | (refine awp_regionK 9671480348396928400164743 rfl ?_; simp only [List.map_cons, List.map_nil]; simp (maxSteps := 1000000) (dsimp := false) (implicitDefEqProofs := false) (disch := omega) only [wrap64, go_sem, chH_c, kS0]) | (refine awp_regionQK 9671480348396928400164743 (by kernel_rfl) (by kernel_rfl) (by kernel_rfl) ?_; simp only [List.map_cons, List.map_nil]; simp (maxSteps := 1000000) (dsimp := false) (implicitDefEqProofs := false) (disch := omega) only [wrap64, go_sem, chH_c, kS0]) | refine awp_block ?_ | (refine awp_skip ?_; simp only [go_sem, chH_c, kS0]) | (refine awp_exit ?_; simp only [go_sem, chH_c, kS0]) | (refine awp_ret ?_; try simp only [go_sem, chH_c, kS0]) | (refine awp_condP rfl ?_; try simp only [go_sem, chH_c, kS0]) | (refine BrP.mk (fun h => ?_) (fun h => ?_) <;> try simp (dsimp := false) (disch := omega) only [wrap64]) | (refine Br.mk (fun h => ?_) (fun h => ?_) <;> try simp (dsimp := false) (disch := omega) only [wrap64]) | refine Ob.mk (by first | omega | (intro _ _; rfl) | trivial | (intros; trivial) | assumption | (intro i hi; have h0 : i = 0 := (by omega); subst h0; first | rfl | trivial) | (intro i hi; have h0 : i = 0 ∨ i = 1 := (by omega); rcases h0 with rfl | rfl <;> rfl) | (intro i hi; have h0 : i = 0 ∨ i = 1 ∨ i = 2 := (by omega); rcases h0 with rfl | rfl | rfl <;> rfl)) ?_ | apply_assumption -exfalso -symm)
  all_goals (first | (show endQ _ _ _ _ _ _ _; (repeat (rename (∀ (A : Fr) (H : Hp), AWP _ _ _ _ A H → _) => hK; clear hK)); (repeat (rename (Fr → Hp → Prop) => K; clear K))) | (show Exists _; (repeat (rename (∀ (A : Fr) (H : Hp), AWP _ _ _ _ A H → _) => hK; clear hK)); (repeat (rename (Fr → Hp → Prop) => K; clear K))) | skip)
  · exact end_Ch rfl (Ch.Add.none hw hF hh) (Hp.le_refl _)
  all_goals (exfalso; omega)
theorem specGen_ok (n : Nat) (hn : n ≤ 20) : ∀ (m l : Nat) (C : Ch) (p : List Int), l + m = n → C.WF n → C.Full n l → C.Ind n → Pm n p → fixB l p →
    AC Try.prog 159 [.ref 1000000 0, .v (.int .i64 (l)), ints p] (chH (kS n) n C) (pnC l) (postC (kS n) n (Ch.Add n l C p))
  | 0, l, C, p, hlm, hw, hF, hI, hp, hf => by
    obtain rfl : l = n := by omega
    exact specGen_end l hn C p hw hF hp
  | m + 1, l, C, p, hlm, hw, hF, hI, hp, hf =>
    specGen_step n hn l C p (by omega) hw hF hI hp hf (fun C x h1 h2 h3 h4 => specProd_ok n hn l (by omega) (fun C p h1 h2 h3 h4 h5 => by
      have := specGen_ok n hn m (l + 1) C p (by omega) h1 h2 h3 h4 h5
      rwa [Int.natCast_add] at this) (n - C.cnt n l + 1) C x (by omega) h1 h2 h3 h4)
end Go.Proofs.Ytngpacdhpblpbaa
end
/- A new chain, and the chain of generators: the reference's. -/
section
namespace Go.Proofs.Ytngpacdhpblpbaa
open Go.Av
set_option linter.unusedSimpArgs false
set_option linter.unusedVariables false
attribute [local irreducible] AWP CallG Ob Br BrP Go.Av.Sub endQ AOps OpV AC thenA blkA opsVC opVC withA withArgs opsQ opQ CallQ withA2 withArgs2
open Go.Pm (Pm comp invp idn img Ch fixB)

def kSk (n j k : Nat) : Nat → AV := vecF [.v (.int .i64 n), .own 1000002 0 1 k, .own 1000001 0 1 j]
theorem kSk0 (n j k : Nat) : kSk n j k 0 = .v (.int .i64 n) := rfl
theorem kSk1 (n j k : Nat) : kSk n j k 1 = .own 1000002 0 1 k := rfl
theorem kSk2 (n j k : Nat) : kSk n j k 2 = .own 1000001 0 1 j := rfl
theorem chG_allS (n : Nat) (C : Ch) : chG (kSk n n n) n n n C = chH (kS n) n C := rfl
section
variable {F : Nat → AV} {n j k : Nat} {C : Ch} {R : Hp}
theorem skS (n j k : Nat) : scF (fun x => x == 1000002) (kSk n j k) = vecF [.v (.int .i64 n), .dead, .own 1000001 0 1 j] := by
  funext i
  match i with
  | 0 => rfl
  | 1 => rfl
  | 2 => rfl
  | i + 3 => rfl
theorem chG_scrubS {h m p q : Nat} (hj : j ≤ 20) (hk : k ≤ 20) (hh : h < 1000000) : (chG (kSk m p q) n j k C).scrub (fun x => x == h) = chG (kSk m p q) n j k C := by
  have hb : ∀ x, 1000000 ≤ x → (x == h) = false := fun x hx => beq_eq_false_iff_ne.2 (by omega)
  have hs : ∀ d i, (sub d i == h) = false := fun d i => hb _ (by have := sub_ge d i; rw [FB_eq] at this; omega)
  have e0 : (fun i => (kSk m p q i).scrub (fun x => x == h)) = kSk m p q := by
    funext i
    match i with
    | 0 => rfl
    | 1 => simp only [kSk1, AV.scrub, hb 1000002 (by decide)]; rfl
    | 2 => simp only [kSk2, AV.scrub, hb 1000001 (by decide)]; rfl
    | i + 3 => rfl
  have e1 : (fun i => (gnF j C i).scrub (fun x => x == h)) = gnF j C := by
    funext i; unfold gnF; split
    · simp [AV.scrub, hs]
    · rfl
  have e2 : (fun i => (tnG k n i).scrub (fun x => x == h)) = tnG k n := by
    funext i; unfold tnG; split
    · simp [AV.scrub, hs]
    · rfl
  have e4 : ∀ i, (fun j => (cM ints [] (C.S i) j).scrub (fun x => x == h)) = cM ints [] (C.S i) := fun i => rfl
  funext x
  unfold Hp.scrub
  cases e : chG (kSk m p q) n j k C x with
  | none => rfl
  | some B =>
    simp only [Option.map_some, Option.some.injEq]
    rcases chG_names e with ⟨_, rfl⟩ | ⟨_, rfl⟩ | ⟨_, rfl⟩ | ⟨i, _, _, rfl⟩ | ⟨i, _, _, rfl⟩
    · simp only [Blk.scrub, e0]
    · simp only [Blk.scrub, e1]
    · simp only [Blk.scrub, e2]
    · simp only [Blk.scrub, e4]
    · simp only [Blk.scrub, tF_scrub]
theorem lay_startS {H : Hp} {f : Nat → AV} (h1 : H 8 = some (.cells 3 f)) (f0 : f 0 = .v (.int .i64 n)) (f1 : f 1 = .v (.slice none 0 0)) (f2 : f 2 = .v (.slice none 0 0)) :
    ∀ h B', chG (kSk n 0 0) n 0 0 (C0 n) h = some B' → (∃ g m f f', (if h = 1000000 then some 8 else none) = some g ∧ B' = .cells m f' ∧ H g = some (.cells m f) ∧ ∀ i, i < m → Lay (fun h => if h = 1000000 then some 8 else none) (f i) (f' i))
      ∨ ((if h = 1000000 then some 8 else none : Option Nat) = none ∧ ∃ f, B' = .cells 0 f) := by
  intro h B' hB
  rcases chG_names hB with ⟨rfl, rfl⟩ | ⟨rfl, rfl⟩ | ⟨rfl, rfl⟩ | ⟨i, hi, rfl, rfl⟩ | ⟨i, hi, rfl, rfl⟩
  · refine .inl ⟨8, 3, f, kSk n 0 0, rfl, rfl, h1, fun i hi => ?_⟩
    have h0 : i = 0 ∨ i = 1 ∨ i = 2 := by omega
    rcases h0 with rfl | rfl | rfl
    · rw [f0]; exact .plain trivial
    · rw [f1]; exact .nil rfl
    · rw [f2]; exact .nil rfl
  · exact .inr ⟨rfl, _, rfl⟩
  · exact .inr ⟨rfl, _, rfl⟩
  · omega
  · omega
def rhoS (k h : Nat) : Option Nat := if h = sub 1000002 k then some 15 else if h = sub 1000001 k then some 36 else some h
theorem rhoS_lit {k h : Nat} (hh : h < 2097152) : rhoS k h = some h := by
  have h1 := sub_ge 1000002 k
  have h2 := sub_ge 1000001 k
  rw [FB_eq] at h1 h2
  unfold rhoS
  rw [if_neg (by omega), if_neg (by omega)]
theorem rhoS_gs {k i : Nat} (hi : i < 20) (hk : k < 20) (h : i ≠ k) : rhoS k (sub 1000001 i) = some (sub 1000001 i) := by
  unfold rhoS
  rw [if_neg (beq_eq_false_iff_ne.1 (sub_ne_sub hi hk (.inl (by decide)))), if_neg (beq_eq_false_iff_ne.1 (sub_ne_sub hi hk (.inr h)))]
theorem rhoS_ts {k i : Nat} (hi : i < 20) (hk : k < 20) (h : i ≠ k) : rhoS k (sub 1000002 i) = some (sub 1000002 i) := by
  unfold rhoS
  rw [if_neg (beq_eq_false_iff_ne.1 (sub_ne_sub hi hk (.inr h))), if_neg (beq_eq_false_iff_ne.1 (sub_ne_sub hi hk (.inl (by decide))))]
theorem rhoS_k (k : Nat) : rhoS k (sub 1000002 k) = some 15 := if_pos rfl
theorem rhoS_g {k : Nat} (hk : k < 20) : rhoS k (sub 1000001 k) = some 36 := by
  unfold rhoS
  rw [if_neg (beq_eq_false_iff_ne.1 (sub_ne_sub hk hk (.inl (by decide)))), if_pos rfl]
theorem lay_stepS (hn : n ≤ 20) (hk : k < n) {H : Hp} {F0 F1 F2 F3 F4 : Nat → AV} (h0 : H 1000000 = some (.cells 3 F0)) (f0 : F0 0 = .v (.int .i64 n)) (f01 : F0 1 = .own 1000002 0 1 (k + 1)) (f02 : F0 2 = .own 1000001 0 1 (k + 1))
    (h1 : H 1000001 = some (.cells (k + 1) F1)) (f1 : ∀ i, i < k → F1 i = .own (sub 1000001 i) 0 1 0) (f1k : F1 k = .own 36 0 1 0)
    (h2 : H 1000002 = some (.cells (k + 1) F2)) (f2 : ∀ i, i < k → F2 i = .own (sub 1000002 i) 0 1 n) (f2k : F2 k = .own 15 0 1 n) (h3 : ∀ i, i < k → H (sub 1000001 i) = some (.cells 0 (cM ints [] []))) (h4 : ∀ i, i < k → H (sub 1000002 i) = some (.cells n (tF ((C0 n).T i))))
    (h5 : H 15 = some (.cells n F3)) (f3 : ∀ i, i < n → F3 i = tF ((C0 n).T k) i) (h6 : H 36 = some (.cells 0 F4)) :
    ∀ h B', chG (kSk n (k + 1) (k + 1)) n (k + 1) (k + 1) (C0 n) h = some B' → (∃ g m f f', rhoS k h = some g ∧ B' = .cells m f' ∧ H g = some (.cells m f) ∧ ∀ i, i < m → Lay (rhoS k) (f i) (f' i)) ∨ (rhoS k h = none ∧ ∃ f, B' = .cells 0 f) := by
  intro h B' hB
  rcases chG_names hB with ⟨rfl, rfl⟩ | ⟨rfl, rfl⟩ | ⟨rfl, rfl⟩ | ⟨i, hi, rfl, rfl⟩ | ⟨i, hi, rfl, rfl⟩
  · refine .inl ⟨_, 3, _, _, rhoS_lit (by decide), rfl, h0, fun i hi => ?_⟩
    have h0 : i = 0 ∨ i = 1 ∨ i = 2 := by omega
    rcases h0 with rfl | rfl | rfl
    · rw [f0]; exact .plain trivial
    · rw [f01]; exact .own (rhoS_lit (by decide))
    · rw [f02]; exact .own (rhoS_lit (by decide))
  · refine .inl ⟨_, k + 1, _, _, rhoS_lit (by decide), rfl, h1, fun i hi => ?_⟩
    rw [gnF_app _ hi]
    by_cases e : i = k
    · subst e; rw [f1k]; exact .own (rhoS_g (by omega))
    · rw [f1 i (by omega)]; exact .own (rhoS_gs (by omega) (by omega) e)
  · refine .inl ⟨_, k + 1, _, _, rhoS_lit (by decide), rfl, h2, fun i hi => ?_⟩
    rw [show tnG (k + 1) n i = .own (sub 1000002 i) 0 1 n from if_pos hi]
    by_cases e : i = k
    · subst e; rw [f2k]; exact .own (rhoS_k _)
    · rw [f2 i (by omega)]; exact .own (rhoS_ts (by omega) (by omega) e)
  · by_cases e : i = k
    · subst e
      exact .inl ⟨_, 0, _, _, rhoS_g (by omega), rfl, h6, fun i hi => by omega⟩
    · exact .inl ⟨_, _, _, _, rhoS_gs (by omega) (by omega) e, rfl, h3 i (by omega), fun i hi => .plain trivial⟩
  · by_cases e : i = k
    · subst e
      exact .inl ⟨_, _, _, _, rhoS_k _, rfl, h5, fun j hj => by rw [f3 j hj]; exact .plain (tF_plain _ _)⟩
    · exact .inl ⟨_, _, _, _, rhoS_ts (by omega) (by omega) e, rfl, h4 i (by omega), fun j hj => .plain (tF_plain _ _)⟩
theorem rhoS_inj {h g m : Nat} (hh : chG (kSk n (k + 1) (k + 1)) n (k + 1) (k + 1) (C0 n) h ≠ none) (hg : chG (kSk n (k + 1) (k + 1)) n (k + 1) (k + 1) (C0 n) g ≠ none) (e1 : rhoS k h = some m) (e2 : rhoS k g = some m) : h = g := by
  have low : ∀ x, chG (kSk n (k + 1) (k + 1)) n (k + 1) (k + 1) (C0 n) x ≠ none → x ≠ 15 ∧ x ≠ 36 := fun x hx => ⟨fun e => by subst e; exact hx (chG_low (by decide)), fun e => by subst e; exact hx (chG_low (by decide))⟩
  have l1 := low h hh
  have l2 := low g hg
  unfold rhoS at e1 e2
  split at e1
  · split at e2
    · omega
    · split at e2 <;> simp only [Option.some.injEq] at e1 e2 <;> omega
  · split at e1
    · split at e2
      · simp only [Option.some.injEq] at e1 e2; omega
      · split at e2 <;> simp only [Option.some.injEq] at e1 e2 <;> omega
    · split at e2
      · simp only [Option.some.injEq] at e1 e2; omega
      · split at e2 <;> simp only [Option.some.injEq] at e1 e2 <;> omega
theorem sb1 (d i : Nat) : (sub d i == 1000001) = false := beq_eq_false_iff_ne.2 (sub_lits d i).2.1
end

theorem emptyChain_ok (n : Nat) (hn : 1 ≤ n ∧ n ≤ 20) : AC Try.prog 158 [.v (.int .i64 (n))] Hp.emp (fun _ => false) (postN (kS n) n (· = C0 n)) := by
  refine ac_of_awp (N := ⟨_, fun _ => false, fun _ _ => rfl⟩) Try.func158 rfl (by kernel_rfl) Try.ntmps158 (by simp) ?_
  simp only [argsFr, List.zipIdx_cons, List.zipIdx_nil, go_sem]
  repeat' (first | refine awp_seqK fun K hK => ?_ | (refine awp_regionK 2109 rfl ?_; simp only [List.map_cons, List.map_nil]; simp (maxSteps := 1000000) (dsimp := false) (implicitDefEqProofs := false) (disch := omega) only [wrap64, go_sem]) | (refine awp_regionQK 2109 (by kernel_rfl) (by kernel_rfl) (by kernel_rfl) ?_; simp only [List.map_cons, List.map_nil]; simp (maxSteps := 1000000) (dsimp := false) (implicitDefEqProofs := false) (disch := omega) only [wrap64, go_sem]) | refine awp_block ?_ | (refine awp_skip ?_; simp only [go_sem]) | (refine awp_exit ?_; simp only [go_sem]) | (refine awp_ret ?_; try simp only [go_sem]) | (refine awp_condP rfl ?_; try simp only [go_sem]) | (refine BrP.mk (fun h => ?_) (fun h => ?_) <;> try simp (dsimp := false) (disch := omega) only [wrap64]) | (refine Br.mk (fun h => ?_) (fun h => ?_) <;> try simp (dsimp := false) (disch := omega) only [wrap64]) | refine Ob.mk (by first | omega | (intro _ _; rfl) | trivial | (intros; trivial) | assumption | (intro i hi; have h0 : i = 0 := (by omega); subst h0; first | rfl | trivial) | (intro i hi; have h0 : i = 0 ∨ i = 1 := (by omega); rcases h0 with rfl | rfl <;> rfl) | (intro i hi; have h0 : i = 0 ∨ i = 1 ∨ i = 2 := (by omega); rcases h0 with rfl | rfl | rfl <;> rfl)) ?_ | apply_assumption -exfalso -symm)
  all_goals (first | (show endQ _ _ _ _ _ _ _; (repeat (rename (∀ (A : Fr) (H : Hp), AWP _ _ _ _ A H → _) => hK; clear hK)); (repeat (rename (Fr → Hp → Prop) => K; clear K))) | (show Exists _; (repeat (rename (∀ (A : Fr) (H : Hp), AWP _ _ _ _ A H → _) => hK; clear hK)); (repeat (rename (Fr → Hp → Prop) => K; clear K))) | skip)
  refine awp_loop (ι := Nat) (fun k => [(4, .v (.int .i64 (k))), (3, .ref 1000000 0), (0, .v (.int .i64 (n)))]) (fun k => chG (kSk n k k) n k k (C0 n)) (fun k => k ≤ n) (fun k => n - k) 0 (Nat.zero_le _) (Sub.lay (fun h => if h = 1000000 then some 8 else none) rfl (lay_cons ⟨_, rfl, .plain trivial⟩ (lay_cons ⟨_, rfl, .ref rfl⟩ (lay_cons ⟨_, rfl, .plain trivial⟩ lay_nil))) (lay_startS rfl rfl rfl rfl) ?_) ?_
  · intro h g m _ _ e1 e2
    split at e1
    · split at e2
      · omega
      · simp at e2
    · simp at e1
  intro k hk
  have hn2 := hn.2
  repeat' (first | refine awp_seqK fun K hK => ?_ | (refine awp_regionK 2109 rfl ?_; simp only [List.map_cons, List.map_nil]; simp (maxSteps := 1000000) (dsimp := false) (implicitDefEqProofs := false) (disch := omega) only [wrap64, go_sem, chG_c, chG_t, chG_g, chG_scrubS, hG_c, kSk0, kSk1, kSk2, skS]) | (refine awp_regionQK 2109 (by kernel_rfl) (by kernel_rfl) (by kernel_rfl) ?_; simp only [List.map_cons, List.map_nil]; simp (maxSteps := 1000000) (dsimp := false) (implicitDefEqProofs := false) (disch := omega) only [wrap64, go_sem, chG_c, chG_t, chG_g, chG_scrubS, hG_c, kSk0, kSk1, kSk2, skS]) | refine awp_block ?_ | (refine awp_skip ?_; simp only [go_sem, chG_c, chG_t, chG_g, chG_scrubS, hG_c, kSk0, kSk1, kSk2, skS]) | (refine awp_exit ?_; simp only [go_sem, chG_c, chG_t, chG_g, chG_scrubS, hG_c, kSk0, kSk1, kSk2, skS]) | (refine awp_ret ?_; try simp only [go_sem, chG_c, chG_t, chG_g, chG_scrubS, hG_c, kSk0, kSk1, kSk2, skS]) | (refine awp_condP rfl ?_; try simp only [go_sem, chG_c, chG_t, chG_g, chG_scrubS, hG_c, kSk0, kSk1, kSk2, skS]) | (refine BrP.mk (fun h => ?_) (fun h => ?_) <;> try simp (dsimp := false) (disch := omega) only [wrap64]) | (refine Br.mk (fun h => ?_) (fun h => ?_) <;> try simp (dsimp := false) (disch := omega) only [wrap64]) | refine Ob.mk (by first | omega | (intro _ _; rfl) | trivial | (intros; trivial) | assumption | (intro i hi; have h0 : i = 0 := (by omega); subst h0; first | rfl | trivial) | (intro i hi; have h0 : i = 0 ∨ i = 1 := (by omega); rcases h0 with rfl | rfl <;> rfl) | (intro i hi; have h0 : i = 0 ∨ i = 1 ∨ i = 2 := (by omega); rcases h0 with rfl | rfl | rfl <;> rfl)) ?_ | ((first | ((first | refine atF (f := 81) ?_ | refine atQ (f := 81) ?_); (first | (refine cFI (hac := specIdentity_ok n (by omega) 9) (hK := ?_)) | (refine cQI (hac := specIdentity_ok n (by omega) 9) (hK := ?_))))); simp (maxSteps := 1000000) (dsimp := false) (implicitDefEqProofs := false) (disch := omega) only [wrap64, go_sem, chG_c, chG_t, chG_g, chG_scrubS, hG_c, kSk0, kSk1, kSk2, skS]) | apply_assumption -exfalso -symm)
  all_goals (first | (show endQ _ _ _ _ _ _ _; (repeat (rename (∀ (A : Fr) (H : Hp), AWP _ _ _ _ A H → _) => hK; clear hK)); (repeat (rename (Fr → Hp → Prop) => K; clear K))) | (show Exists _; (repeat (rename (∀ (A : Fr) (H : Hp), AWP _ _ _ _ A H → _) => hK; clear hK)); (repeat (rename (Fr → Hp → Prop) => K; clear K))) | skip)
  · have hs1 : ∀ x, (Hp.scrub (fun x => x == 1000001) (Hp.scrub (fun x => x == 37) (Hp.scrub (fun x => x == 36) (Hp.scrub (fun x => x == 1000002) (chG (kSk n k k) n k k (C0 n)))))) x = ((((chG (kSk n k k) n k k (C0 n) x).map (Blk.scrub (fun x => x == 1000002))).map (Blk.scrub (fun x => x == 36))).map (Blk.scrub (fun x => x == 37))).map (Blk.scrub (fun x => x == 1000001)) := fun _ => rfl
    have hne : ∀ d i, sub d i ≠ 15 ∧ sub d i ≠ 27 ∧ sub d i ≠ 36 ∧ sub d i ≠ 37 := fun d i => by have := sub_ge d i; rw [FB_eq] at this; omega
    have hlb : ∀ d i x, x < 1000000 → (sub d i == x) = false := fun d i x hx => sub_lowb hx
    refine ⟨k + 1, by omega, by omega, Sub.lay (rhoS k) rfl (lay_cons ⟨_, rfl, .plain trivial⟩ (lay_cons ⟨_, rfl, .ref (rhoS_lit (by decide))⟩ (lay_cons ⟨_, rfl, .plain trivial⟩ lay_nil))) (lay_stepS hn2 (by omega) rfl rfl rfl rfl rfl (fun i hi => ?_) ?_ rfl (fun i hi => ?_) ?_ (fun i hi => ?_) (fun i hi => ?_) rfl (fun i hi => ?_) rfl) (fun h g m => rhoS_inj)⟩
    · have e : gnF k (C0 n) i = .own (sub 1000001 i) 0 1 0 := gnF_app _ hi
      unfold apF
      rw [if_pos hi]
      simp only [scF, e, AV.scrub, sb1, sb2, hlb _ _ 36 (by decide), hlb _ _ 37 (by decide), Bool.false_eq_true, if_false]
    · unfold apF setF
      rw [if_neg (by omega), if_pos (by omega)]
    · have e : tnG k n i = .own (sub 1000002 i) 0 1 n := if_pos hi
      unfold apF
      rw [if_pos hi]
      simp only [scF, e, AV.scrub, sb1, sb2, hlb _ _ 36 (by decide), hlb _ _ 37 (by decide), Bool.false_eq_true, if_false]
    · unfold apF setF
      rw [if_neg (by omega), if_pos (by omega)]
    · unfold Hp.upd
      rw [if_neg (sub_lits _ _).1, if_neg (sub_lits _ _).2.1, if_neg (hne _ _).2.2.2, if_neg (hne _ _).2.2.1, if_neg (sub_lits _ _).1, if_neg (sub_lits _ _).2.2, if_neg (hne _ _).2.1, if_neg (hne _ _).1, hs1, chG_gs hi (by omega)]; rfl
    · unfold Hp.upd
      rw [if_neg (sub_lits _ _).1, if_neg (sub_lits _ _).2.1, if_neg (hne _ _).2.2.2, if_neg (hne _ _).2.2.1, if_neg (sub_lits _ _).1, if_neg (sub_lits _ _).2.2, if_neg (hne _ _).2.1, if_neg (hne _ _).1, hs1, chG_ts hi (by omega)]
      simp only [Option.map_some, Blk.scrub, tF_scrub]
    · unfold setF tF C0
      by_cases e : i = k
      · subst e; simp only [if_pos]; rw [idn_marks]; rfl
      · simp only [if_neg e, zF1]
  · have e : k = n := by omega
    subst e
    exact end_post rfl rfl (Hp.le_refl _) ⟨rfl, _, rfl, chG_allS _ _⟩

theorem buildChain_ok (n : Nat) (gs : List (List Int)) (hn : 1 ≤ n ∧ n ≤ 20) (hg : gensP n gs) (hgl : gs.length ≤ 8) : AC Try.prog 114 [.v (.int .i64 (n)), intss gs] Hp.emp (fun _ => false) (postN (kS n) n (Of n gs)) := by
  have hn2 := hn.2
  have hg1 : ∀ i, i < gs.length → Pm n (gs.getD i []) := hg.2.2
  have hgl1 : ∀ i, i < gs.length → (gs.getD i []).length = n := fun i hi => (hg1 i hi).1
  have hgm : ∀ m, ∀ g ∈ gs.take m, Pm n g := fun m g hm => by
    obtain ⟨j, hj, rfl⟩ := List.mem_iff_getElem.1 (List.mem_of_mem_take hm)
    have := hg1 j hj
    rwa [List.getD_eq_getElem?_getD, List.getElem?_eq_getElem hj] at this
  refine ac_of_awp (N := ⟨_, fun _ => false, fun _ _ => rfl⟩) Try.func114 rfl (by kernel_rfl) Try.ntmps114 (by simp) ?_
  simp only [argsFr, List.zipIdx_cons, List.zipIdx_nil, go_sem]
  repeat' (first | refine awp_seqK fun K hK => ?_ | (refine awp_regionK 4211 rfl ?_; simp only [List.map_cons, List.map_nil]; simp (maxSteps := 1000000) (dsimp := false) (implicitDefEqProofs := false) (disch := omega) only [wrap64, go_sem]) | (refine awp_regionQK 4211 (by kernel_rfl) (by kernel_rfl) (by kernel_rfl) ?_; simp only [List.map_cons, List.map_nil]; simp (maxSteps := 1000000) (dsimp := false) (implicitDefEqProofs := false) (disch := omega) only [wrap64, go_sem]) | refine awp_block ?_ | (refine awp_skip ?_; simp only [go_sem]) | (refine awp_exit ?_; simp only [go_sem]) | (refine awp_ret ?_; try simp only [go_sem]) | (refine awp_condP rfl ?_; try simp only [go_sem]) | (refine BrP.mk (fun h => ?_) (fun h => ?_) <;> try simp (dsimp := false) (disch := omega) only [wrap64]) | (refine Br.mk (fun h => ?_) (fun h => ?_) <;> try simp (dsimp := false) (disch := omega) only [wrap64]) | refine Ob.mk (by first | omega | (intro _ _; rfl) | trivial | (intros; trivial) | assumption | (intro i hi; have h0 : i = 0 := (by omega); subst h0; first | rfl | trivial) | (intro i hi; have h0 : i = 0 ∨ i = 1 := (by omega); rcases h0 with rfl | rfl <;> rfl) | (intro i hi; have h0 : i = 0 ∨ i = 1 ∨ i = 2 := (by omega); rcases h0 with rfl | rfl | rfl <;> rfl)) ?_ | ((first | ((first | refine atF (f := 158) ?_ | refine atQ (f := 158) ?_); refine callNew (emptyChain_ok n hn) (.inr rfl) hn2 rfl rfl (fun C hC => ?_))); simp (maxSteps := 1000000) (dsimp := false) (implicitDefEqProofs := false) (disch := omega) only [wrap64, go_sem]) | apply_assumption -exfalso -symm)
  all_goals (first | (show endQ _ _ _ _ _ _ _; (repeat (rename (∀ (A : Fr) (H : Hp), AWP _ _ _ _ A H → _) => hK; clear hK)); (repeat (rename (Fr → Hp → Prop) => K; clear K))) | (show Exists _; (repeat (rename (∀ (A : Fr) (H : Hp), AWP _ _ _ _ A H → _) => hK; clear hK)); (repeat (rename (Fr → Hp → Prop) => K; clear K))) | skip)
  subst hC
  refine awp_loop (ι := Ch × Nat) (fun x => [(6, .v (.int .i64 (x.2))), (5, .ref 1000000 0), (1, .list false 1 (gs).length (cM ints [] (gs)))]) (fun x => (chH (kS n) n x.1).add Hp.emp) (fun x => x.2 ≤ gs.length ∧ x.1.WF n ∧ x.1.Full n 0 ∧ x.1.Ind n ∧ ∀ g, Go.Pm.Gen n (gs.take x.2) g ↔ Go.Pm.Gen n (x.1.S 0) g) (fun x => gs.length - x.2) (C0 n, 0)
    ⟨Nat.zero_le _, C0_wf n, C0_full n, C0_ind n, fun g => Iff.rfl⟩ (Sub.toL (by simp only [go_sem] <;> first | trivial | (simp only [Option.some.injEq, AV.v.injEq, AV.own.injEq, AV.list.injEq, Value.int.injEq, Value.bool.injEq, true_and, and_true]; first | omega | (simp; done)) | (simp; done) | (simp; omega)) (Hp.le_refl _)) ?_
  rintro ⟨C, i⟩ ⟨hi, hw, hF, hI, hG⟩
  dsimp only at hi hw hF hI hG ⊢
  have hgi := hgl1 i
  have hI' : Hold (C.Ind n) := ⟨hI⟩
  clear hI
  have hac : i < gs.length → AC Try.prog 159 [.ref 1000000 0, .v (.int .i64 (0)), ints (gs.getD i [])] (chH (kS n) n C) (pnC 0) (postC (kS n) n (Ch.Add n 0 C (gs.getD i []))) := fun h =>
    specGen_ok n hn2 n 0 C (gs.getD i []) (by omega) hw hF hI'.h (hg1 i h) (fun j hj => by omega)
  repeat' (first | refine awp_seqK fun K hK => ?_ | (refine awp_regionK 4211 rfl ?_; simp only [List.map_cons, List.map_nil]; simp (maxSteps := 1000000) (dsimp := false) (implicitDefEqProofs := false) (disch := omega) only [wrap64, go_sem, pX_low]) | (refine awp_regionQK 4211 (by kernel_rfl) (by kernel_rfl) (by kernel_rfl) ?_; simp only [List.map_cons, List.map_nil]; simp (maxSteps := 1000000) (dsimp := false) (implicitDefEqProofs := false) (disch := omega) only [wrap64, go_sem, pX_low]) | refine awp_block ?_ | (refine awp_skip ?_; simp only [go_sem, pX_low]) | (refine awp_exit ?_; simp only [go_sem, pX_low]) | (refine awp_ret ?_; try simp only [go_sem, pX_low]) | (refine awp_condP rfl ?_; try simp only [go_sem, pX_low]) | (refine BrP.mk (fun h => ?_) (fun h => ?_) <;> try simp (dsimp := false) (disch := omega) only [wrap64]) | (refine Br.mk (fun h => ?_) (fun h => ?_) <;> try simp (dsimp := false) (disch := omega) only [wrap64]) | refine Ob.mk (by first | omega | (intro _ _; rfl) | trivial | (intros; trivial) | assumption | (intro i hi; have h0 : i = 0 := (by omega); subst h0; first | rfl | trivial) | (intro i hi; have h0 : i = 0 ∨ i = 1 := (by omega); rcases h0 with rfl | rfl <;> rfl) | (intro i hi; have h0 : i = 0 ∨ i = 1 ∨ i = 2 := (by omega); rcases h0 with rfl | rfl | rfl <;> rfl)) ?_ | ((first | ((first | refine atF (f := 152) ?_ | refine atQ (f := 152) ?_); (first | (refine cFI (hac := specCopyInts_ok (gs.getD i []) (by omega) 9) (hK := ?_)) | (refine cQI (hac := specCopyInts_ok (gs.getD i []) (by omega) 9) (hK := ?_)))) | ((first | refine atF (f := 159) ?_ | refine atQ (f := 159) ?_); refine callCh (R := Hp.emp) (hac (by omega)) (.inr rfl) hn2 rfl rfl (fun h hh => by cases hh) (fun C5 hA5 => ?_))); simp (maxSteps := 1000000) (dsimp := false) (implicitDefEqProofs := false) (disch := omega) only [wrap64, go_sem, pX_low]) | apply_assumption -exfalso -symm)
  all_goals (first | (show endQ _ _ _ _ _ _ _; (repeat (rename (∀ (A : Fr) (H : Hp), AWP _ _ _ _ A H → _) => hK; clear hK)); (repeat (rename (Fr → Hp → Prop) => K; clear K))) | (show Exists _; (repeat (rename (∀ (A : Fr) (H : Hp), AWP _ _ _ _ A H → _) => hK; clear hK)); (repeat (rename (Fr → Hp → Prop) => K; clear K))) | skip)
  · refine ⟨(C5, i + 1), ⟨by dsimp only; omega, hA5.wf, hA5.full, hA5.ind hI'.h, ?_⟩, by dsimp only; omega, Sub.toL (by simp only [go_sem] <;> first | trivial | (simp only [Option.some.injEq, AV.v.injEq, AV.own.injEq, AV.list.injEq, Value.int.injEq, Value.bool.injEq, true_and, and_true]; first | omega | (simp; done)) | (simp; done) | (simp; omega)) (Hp.le_refl _)⟩
    dsimp only
    have hlt : i < gs.length := by omega
    have e := hA5.gen (hg1 i hlt) (hgm i) hG
    rw [List.take_succ_eq_append_getElem hlt]
    rw [List.getD_eq_getElem?_getD, List.getElem?_eq_getElem hlt] at e
    exact e
  · have e : i = gs.length := by omega
    subst e
    rw [List.take_length] at hG
    exact end_post rfl rfl (le_add _ _) ⟨rfl, C, ⟨hw, hF, hG⟩, rfl⟩
end Go.Proofs.Ytngpacdhpblpbaa
end
/- IsReachable: both texts ask whether the state lies in the group of the moves. -/
section
namespace Go.Proofs.Ytngpacdhpblpbaa
open Go.Av
set_option linter.unusedSimpArgs false
set_option linter.unusedVariables false
attribute [local irreducible] AWP CallG Ob Br BrP Go.Av.Sub endQ AOps OpV AC thenA blkA opsVC opVC withA withArgs opsQ opQ CallQ withA2 withArgs2
open Go.Pm (Pm comp invp idn img Ch fixB)

end Go.Proofs.Ytngpacdhpblpbaa
end

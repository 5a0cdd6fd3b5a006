import Derived.Test.YtpffmolibjimgaaGreatDoorQ38
import Derived.Test.YtpffmolibjimgaaGreatDoorQ3
import Derived.Test.YtpffmolibjimgaaGreatDoorQ36
/- A new chain, and the chain of generators: the program's. -/
section
namespace Go.Proofs.YtpffmolibjimgaaGreatDoor
open Go.Av
set_option linter.unusedSimpArgs false
set_option linter.unusedVariables false
attribute [local irreducible] AWP CallG Ob Br BrP Go.Av.Sub endQ AOps OpV AC thenA blkA opsVC opVC withA withArgs opsQ opQ CallQ withA2 withArgs2
open Go.Pm (Pm comp invp idn img Ch fixB)

def tnG (k n : Nat) (i : Nat) : AV := if i < k then .own (sub 1000002 i) 0 1 n else .dead
/-- A chain under way: j rows of generators and k rows of representatives are laid. -/
def chG (F : Nat → AV) (n j k : Nat) (C : Ch) : Hp := fun h =>
  if h = 1000000 then some (.cells 3 F)
  else if h = 1000001 then some (.cells j (gnF j C))
  else if h = 1000002 then some (.cells k (tnG k n))
  else if h / FB = 1000002 ∧ h % FB < j then some (.cells (C.S (h % FB)).length (cM ints [] (C.S (h % FB))))
  else if h / FB = 1000003 ∧ h % FB < k then some (.cells n (tF (C.T (h % FB))))
  else none
def kIk (n k : Nat) : Nat → AV := vecF [.v (.int .i64 n), .own 1000001 0 1 n, .own 1000002 0 1 k]
theorem chG_all (n : Nat) (C : Ch) : chG (kIk n n) n n n C = chH (kI n) n C := rfl
/-- The chain of no generators. -/
def C0 (n : Nat) : Ch := ⟨fun _ => [], fun i y => if y = i then some (idn n) else none⟩
theorem C0_wf (n : Nat) : (C0 n).WF n := ⟨fun i y t hi h => by
    simp only [C0] at h
    split at h
    · rename_i e; subst e; simp only [Option.some.injEq] at h; subst h
      exact ⟨.idn n, fixB.idn n _ (by omega), Go.Pm.img_idn hi⟩
    · simp at h, fun i hi => by simp [C0], fun i g hg => by simp [C0] at hg⟩
theorem C0_full (n : Nat) : (C0 n).Full n 0 := fun j _ _ => ⟨fun y t g _ hg => by simp [C0] at hg, fun y t h => by
    simp only [C0] at h
    split at h
    · simp only [Option.some.injEq] at h; subst h; exact .one
    · simp at h, fun g hg => by simp [C0] at hg⟩
theorem C0_ind (n : Nat) : (C0 n).Ind n := fun j _ => Go.Pm.Ind.nil n

section
variable {F : Nat → AV} {n j k : Nat} {C : Ch} {R : Hp}
theorem chG_c : chG F n j k C 1000000 = some (.cells 3 F) := by simp [chG]
theorem chG_g : chG F n j k C 1000001 = some (.cells j (gnF j C)) := by simp [chG]
theorem chG_t : chG F n j k C 1000002 = some (.cells k (tnG k n)) := by simp [chG]
theorem chG_gs {i : Nat} (hi : i < j) (hn : j ≤ 20) : chG F n j k C (sub 1000001 i) = some (.cells (C.S i).length (cM ints [] (C.S i))) := by
  obtain ⟨h1, h2, h3⟩ := sub_lits 1000001 i
  have hb : i < FB := by rw [FB_eq]; omega
  simp [chG, h1, h2, h3, sub_div hb, sub_mod hb, hi]
theorem chG_ts {i : Nat} (hi : i < k) (hn : k ≤ 20) : chG F n j k C (sub 1000002 i) = some (.cells n (tF (C.T i))) := by
  obtain ⟨h1, h2, h3⟩ := sub_lits 1000002 i
  have hb : i < FB := by rw [FB_eq]; omega
  simp [chG, h1, h2, h3, sub_div hb, sub_mod hb, hi]
theorem chG_low {h : Nat} (hh : h < 1000000) : chG F n j k C h = none := by
  have : h / FB = 0 := top_div (by rw [FB_eq]; omega)
  unfold chG
  rw [if_neg (by omega), if_neg (by omega), if_neg (by omega), if_neg (by omega), if_neg (by omega)]
theorem chG_names {h : Nat} {B : Blk} (hB : chG F n j k C h = some B) : (h = 1000000 ∧ B = .cells 3 F) ∨ (h = 1000001 ∧ B = .cells j (gnF j C)) ∨ (h = 1000002 ∧ B = .cells k (tnG k n))
    ∨ (∃ i, i < j ∧ h = sub 1000001 i ∧ B = .cells (C.S i).length (cM ints [] (C.S i))) ∨ (∃ i, i < k ∧ h = sub 1000002 i ∧ B = .cells n (tF (C.T i))) := by
  unfold chG at hB
  split at hB
  · rename_i e; simp only [Option.some.injEq] at hB; exact .inl ⟨e, hB.symm⟩
  split at hB
  · rename_i e; simp only [Option.some.injEq] at hB; exact .inr (.inl ⟨e, hB.symm⟩)
  split at hB
  · rename_i e; simp only [Option.some.injEq] at hB; exact .inr (.inr (.inl ⟨e, hB.symm⟩))
  split at hB
  · rename_i e; simp only [Option.some.injEq] at hB; exact .inr (.inr (.inr (.inl ⟨h % FB, e.2, sub_of e.1, hB.symm⟩)))
  split at hB
  · rename_i e; simp only [Option.some.injEq] at hB; exact .inr (.inr (.inr (.inr ⟨h % FB, e.2, sub_of e.1, hB.symm⟩)))
  · simp at hB
theorem hG_c {p : Nat → Bool} : Hp.scrub p (chG F n j k C) 1000000 = some (.cells 3 (scF p F)) := by simp [Hp.scrub, chG_c, Blk.scrub_cells]
theorem kIk0 (n k : Nat) : kIk n k 0 = .v (.int .i64 n) := rfl
theorem kIk1 (n k : Nat) : kIk n k 1 = .own 1000001 0 1 n := rfl
theorem kIk2 (n k : Nat) : kIk n k 2 = .own 1000002 0 1 k := rfl
theorem skI (n k : Nat) : scF (fun x => x == 1000002) (kIk n k) = vecF [.v (.int .i64 n), .own 1000001 0 1 n, .dead] := by
  funext i
  match i with
  | 0 => rfl
  | 1 => rfl
  | 2 => rfl
  | i + 3 => rfl
theorem chG_scrub {h m q : Nat} (hj : j ≤ 20) (hk : k ≤ 20) (hh : h < 1000000) : (chG (kIk m q) n j k C).scrub (fun x => x == h) = chG (kIk m q) n j k C := by
  have hb : ∀ x, 1000000 ≤ x → (x == h) = false := fun x hx => beq_eq_false_iff_ne.2 (by omega)
  have hs : ∀ d i, (sub d i == h) = false := fun d i => hb _ (by have := sub_ge d i; rw [FB_eq] at this; omega)
  have e0 : (fun i => (kIk m q i).scrub (fun x => x == h)) = kIk m q := by
    funext i
    match i with
    | 0 => rfl
    | 1 => simp only [kIk1, AV.scrub, hb 1000001 (by decide)]; rfl
    | 2 => simp only [kIk2, AV.scrub, hb 1000002 (by decide)]; rfl
    | i + 3 => rfl
  have e1 : (fun i => (gnF j C i).scrub (fun x => x == h)) = gnF j C := by
    funext i; unfold gnF; split
    · simp [AV.scrub, hs]
    · rfl
  have e2 : (fun i => (tnG k n i).scrub (fun x => x == h)) = tnG k n := by
    funext i; unfold tnG; split
    · simp [AV.scrub, hs]
    · rfl
  have e4 : ∀ i, (fun j => (cM ints [] (C.S i) j).scrub (fun x => x == h)) = cM ints [] (C.S i) := fun i => rfl
  funext x
  unfold Hp.scrub
  cases e : chG (kIk m q) n j k C x with
  | none => rfl
  | some B =>
    simp only [Option.map_some, Option.some.injEq]
    rcases chG_names e with ⟨_, rfl⟩ | ⟨_, rfl⟩ | ⟨_, rfl⟩ | ⟨i, _, _, rfl⟩ | ⟨i, _, _, rfl⟩
    · simp only [Blk.scrub, e0]
    · simp only [Blk.scrub, e1]
    · simp only [Blk.scrub, e2]
    · simp only [Blk.scrub, e4]
    · simp only [Blk.scrub, tF_scrub]
theorem sb2 (d i : Nat) : (sub d i == 1000002) = false := beq_eq_false_iff_ne.2 (sub_lits d i).2.2
theorem zF1 (x : Value) (i : Nat) : zF [x] i = .v x := by simp [zF, Nat.mod_one]
/-- The struct and the row of rows as they are made: a chain under way, without rows. -/
theorem lay_start {H : Hp} {f : Nat → AV} (hn : n ≤ 20) (h1 : H 14 = some (.cells 3 f)) (h2 : H 12 = some (.cells n (zF [.slice none 0 0]))) (f0 : f 0 = .v (.int .i64 n)) (f1 : f 1 = .own 12 0 1 n) (f2 : f 2 = .v (.slice none 0 0)) :
    ∀ h B', chG (kIk n 0) n n 0 (C0 n) h = some B' → (∃ g m f f', (if h = 1000000 then some 14 else if h = 1000001 then some 12 else none) = some g ∧ B' = .cells m f' ∧ H g = some (.cells m f) ∧ ∀ i, i < m → Lay (fun h => if h = 1000000 then some 14 else if h = 1000001 then some 12 else none) (f i) (f' i))
      ∨ ((if h = 1000000 then some 14 else if h = 1000001 then some 12 else none : Option Nat) = none ∧ ∃ f, B' = .cells 0 f) := by
  intro h B' hB
  have sg : ∀ d i, (if sub d i = 1000000 then some 14 else if sub d i = 1000001 then some 12 else none : Option Nat) = none := fun d i => by
    obtain ⟨h1, h2, h3⟩ := sub_lits d i
    rw [if_neg h1, if_neg h2]
  rcases chG_names hB with ⟨rfl, rfl⟩ | ⟨rfl, rfl⟩ | ⟨rfl, rfl⟩ | ⟨i, hi, rfl, rfl⟩ | ⟨i, hi, rfl, rfl⟩
  · refine .inl ⟨14, 3, f, kIk n 0, rfl, rfl, h1, fun i hi => ?_⟩
    have h0 : i = 0 ∨ i = 1 ∨ i = 2 := by omega
    rcases h0 with rfl | rfl | rfl
    · rw [f0]; exact .plain trivial
    · rw [f1]; exact .own rfl
    · rw [f2]; exact .nil rfl
  · refine .inl ⟨12, n, _, gnF n (C0 n), rfl, rfl, h2, fun i hi => ?_⟩
    rw [zF1, gnF_app _ hi]; exact .nil (sg _ _)
  · exact .inr ⟨rfl, _, rfl⟩
  · exact .inr ⟨sg _ _, _, rfl⟩
  · omega
theorem tF_plain (T : Nat → Option (List Int)) (i : Nat) : (tF T i).plain := by unfold tF; cases T i <;> trivial
def rho (k h : Nat) : Option Nat := if h = sub 1000002 k then some 20 else some h
theorem rho_lit {k h : Nat} (hh : h < 2097152) : rho k h = some h := by
  unfold rho
  rw [if_neg (fun e => by have := sub_ge 1000002 k; rw [FB_eq] at this; omega)]
theorem rho_gs {k i : Nat} (hi : i < 20) (hk : k < 20) : rho k (sub 1000001 i) = some (sub 1000001 i) := by
  unfold rho
  rw [if_neg (beq_eq_false_iff_ne.1 (sub_ne_sub hi hk (.inl (by decide))))]
theorem rho_ts {k i : Nat} (hi : i < 20) (hk : k < 20) (h : i ≠ k) : rho k (sub 1000002 i) = some (sub 1000002 i) := by
  unfold rho
  rw [if_neg (beq_eq_false_iff_ne.1 (sub_ne_sub hi hk (.inr h)))]
theorem rho_k (k : Nat) : rho k (sub 1000002 k) = some 20 := if_pos rfl
/-- One row of representatives more. -/
theorem lay_step (hn : n ≤ 20) (hk : k < n) {H : Hp} {F0 F1 F2 F3 : Nat → AV} (h0 : H 1000000 = some (.cells 3 F0)) (f0 : ∀ i, i < 3 → Lay (rho k) (F0 i) (kIk n (k + 1) i)) (h1 : H 1000001 = some (.cells n F1)) (f1 : ∀ i, i < n → F1 i = gnF n (C0 n) i)
    (h2 : H 1000002 = some (.cells (k + 1) F2)) (f2 : ∀ i, i < k → F2 i = tnG k n i) (f2k : F2 k = .own 20 0 1 n) (h3 : ∀ i, i < n → H (sub 1000001 i) = some (.cells 0 (cM ints [] []))) (h4 : ∀ i, i < k → H (sub 1000002 i) = some (.cells n (tF ((C0 n).T i))))
    (h5 : H 20 = some (.cells n F3)) (f3 : ∀ i, i < n → F3 i = tF ((C0 n).T k) i) :
    ∀ h B', chG (kIk n (k + 1)) n n (k + 1) (C0 n) h = some B' → (∃ g m f f', rho k h = some g ∧ B' = .cells m f' ∧ H g = some (.cells m f) ∧ ∀ i, i < m → Lay (rho k) (f i) (f' i)) ∨ (rho k h = none ∧ ∃ f, B' = .cells 0 f) := by
  intro h B' hB
  rcases chG_names hB with ⟨rfl, rfl⟩ | ⟨rfl, rfl⟩ | ⟨rfl, rfl⟩ | ⟨i, hi, rfl, rfl⟩ | ⟨i, hi, rfl, rfl⟩
  · exact .inl ⟨_, 3, _, _, rho_lit (by decide), rfl, h0, f0⟩
  · refine .inl ⟨_, n, _, _, rho_lit (by decide), rfl, h1, fun i hi => ?_⟩
    rw [f1 i hi, gnF_app _ hi]; exact .own (rho_gs (by omega) (by omega))
  · refine .inl ⟨_, k + 1, _, _, rho_lit (by decide), rfl, h2, fun i hi => ?_⟩
    by_cases e : i = k
    · subst e; rw [f2k, show tnG (i + 1) n i = .own (sub 1000002 i) 0 1 n from if_pos hi]; exact .own (rho_k _)
    · rw [f2 i (by omega), show tnG (k + 1) n i = .own (sub 1000002 i) 0 1 n from if_pos hi, show tnG k n i = .own (sub 1000002 i) 0 1 n from if_pos (by omega)]
      exact .own (rho_ts (by omega) (by omega) e)
  · exact .inl ⟨_, _, _, _, rho_gs (by omega) (by omega), rfl, h3 i hi, fun i hi => .plain trivial⟩
  · by_cases e : i = k
    · subst e
      exact .inl ⟨_, _, _, _, rho_k _, rfl, h5, fun j hj => by rw [f3 j hj]; exact .plain (tF_plain _ _)⟩
    · exact .inl ⟨_, _, _, _, rho_ts (by omega) (by omega) e, rfl, h4 i (by omega), fun j hj => .plain (tF_plain _ _)⟩
theorem rho_inj {h g m : Nat} (hh : chG (kIk n (k + 1)) n n (k + 1) (C0 n) h ≠ none) (hg : chG (kIk n (k + 1)) n n (k + 1) (C0 n) g ≠ none) (e1 : rho k h = some m) (e2 : rho k g = some m) : h = g := by
  have low : ∀ x, chG (kIk n (k + 1)) n n (k + 1) (C0 n) x ≠ none → x ≠ 20 := fun x hx e => by subst e; exact hx (chG_low (by decide))
  have l1 := low h hh
  have l2 := low g hg
  unfold rho at e1 e2
  split at e1 <;> split at e2 <;> simp only [Option.some.injEq] at e1 e2 <;> omega
end

/-- What a chain of generators is. -/
def Of (n : Nat) (gs : List (List Int)) (C : Ch) : Prop := C.WF n ∧ C.Full n 0 ∧ ∀ g, Go.Pm.Gen n gs g ↔ Go.Pm.Gen n (C.S 0) g
theorem newChain_ok (n : Nat) (gs : List (List Int)) (hn : 1 ≤ n ∧ n ≤ 20) (hg : gensP n gs) (hgl : gs.length ≤ 8) : AC Tryz.prog 65 [.v (.int .i64 (n)), intss gs] Hp.emp (fun _ => false)
    (postN (kI n) n (Of n gs)) := by
  refine ac_of_awp (N := ⟨_, fun _ => false, fun _ _ => rfl, true⟩) Tryz.func65 rfl (by kernel_rfl) Tryz.ntmps65 (by simp) ?_
  simp only [argsFr, List.zipIdx_cons, List.zipIdx_nil, go_sem]
  repeat' (first | refine awp_seqK fun K hK => ?_ | (refine awp_regionK 2061584532211 rfl ?_; simp only [List.map_cons, List.map_nil]; simp (maxSteps := 1000000) (dsimp := false) (implicitDefEqProofs := false) (disch := omega) only [wrap64, go_sem]) | (refine awp_regionQK 2061584532211 (by kernel_rfl) (by kernel_rfl) (by kernel_rfl) ?_; simp only [List.map_cons, List.map_nil]; simp (maxSteps := 1000000) (dsimp := false) (implicitDefEqProofs := false) (disch := omega) only [wrap64, go_sem]) | refine awp_block ?_ | (refine awp_skip ?_; simp only [go_sem]) | (refine awp_exit ?_; simp only [go_sem]) | (refine awp_ret ?_; try simp only [go_sem]) | (refine awp_condP rfl ?_; try simp only [go_sem]) | (refine BrP.mk (fun h => ?_) (fun h => ?_) <;> try simp (dsimp := false) (disch := omega) only [wrap64]) | (refine Br.mk (fun h => ?_) (fun h => ?_) <;> try simp (dsimp := false) (disch := omega) only [wrap64]) | refine Ob.mk (by first | omega | (intro _ _; rfl) | trivial | (intros; trivial) | assumption | (intro i hi; have h0 : i = 0 := (by omega); subst h0; first | rfl | trivial) | (intro i hi; have h0 : i = 0 ∨ i = 1 := (by omega); rcases h0 with rfl | rfl <;> rfl) | (intro i hi; have h0 : i = 0 ∨ i = 1 ∨ i = 2 := (by omega); rcases h0 with rfl | rfl | rfl <;> rfl)) ?_ | apply_assumption -exfalso -symm)
  all_goals (first | (show endQ _ _ _ _ _ _ _; (repeat (rename (∀ (A : Fr) (H : Hp), AWP _ _ _ _ A H → _) => hK; clear hK)); (repeat (rename (Fr → Hp → Prop) => K; clear K))) | (show Exists _; (repeat (rename (∀ (A : Fr) (H : Hp), AWP _ _ _ _ A H → _) => hK; clear hK)); (repeat (rename (Fr → Hp → Prop) => K; clear K))) | skip)
  refine awp_loop (ι := Nat) (fun k => [(16, .v (.int .i64 (k))), (15, .v (.int .i64 (n))), (5, .ref 1000000 0), (0, .v (.int .i64 (n))), (1, .list false 1 (gs).length (cM ints [] (gs)))]) (fun k => chG (kIk n k) n n k (C0 n)) (fun k => k ≤ n) (fun k => n - k) 0 (Nat.zero_le _) (Sub.lay (fun h => if h = 1000000 then some 14 else if h = 1000001 then some 12 else none) rfl (lay_cons ⟨_, rfl, .plain trivial⟩ (lay_cons ⟨_, rfl, .plain trivial⟩ (lay_cons ⟨_, rfl, .ref rfl⟩ (lay_cons ⟨_, rfl, .plain trivial⟩ (lay_cons ⟨_, rfl, .plain trivial⟩ lay_nil))))) (lay_start hn.2 rfl rfl rfl rfl rfl) ?_) ?_
  · intro h g m _ _ e1 e2
    split at e1
    · split at e2
      · omega
      · split at e2
        · simp only [Option.some.injEq] at e1 e2; omega
        · simp at e2
    · split at e1
      · split at e2
        · simp only [Option.some.injEq] at e1 e2; omega
        · split at e2
          · omega
          · simp at e2
      · simp at e1
  intro k hk
  have hn2 := hn.2
  repeat' (first | refine awp_seqK fun K hK => ?_ | (refine awp_regionK 2061584532211 rfl ?_; simp only [List.map_cons, List.map_nil]; simp (maxSteps := 1000000) (dsimp := false) (implicitDefEqProofs := false) (disch := omega) only [wrap64, go_sem, chG_c, chG_t, chG_scrub, hG_c, kIk0, kIk1, kIk2, skI]) | (refine awp_regionQK 2061584532211 (by kernel_rfl) (by kernel_rfl) (by kernel_rfl) ?_; simp only [List.map_cons, List.map_nil]; simp (maxSteps := 1000000) (dsimp := false) (implicitDefEqProofs := false) (disch := omega) only [wrap64, go_sem, chG_c, chG_t, chG_scrub, hG_c, kIk0, kIk1, kIk2, skI]) | refine awp_block ?_ | (refine awp_skip ?_; simp only [go_sem, chG_c, chG_t, chG_scrub, hG_c, kIk0, kIk1, kIk2, skI]) | (refine awp_exit ?_; simp only [go_sem, chG_c, chG_t, chG_scrub, hG_c, kIk0, kIk1, kIk2, skI]) | (refine awp_ret ?_; try simp only [go_sem, chG_c, chG_t, chG_scrub, hG_c, kIk0, kIk1, kIk2, skI]) | (refine awp_condP rfl ?_; try simp only [go_sem, chG_c, chG_t, chG_scrub, hG_c, kIk0, kIk1, kIk2, skI]) | (refine BrP.mk (fun h => ?_) (fun h => ?_) <;> try simp (dsimp := false) (disch := omega) only [wrap64]) | (refine Br.mk (fun h => ?_) (fun h => ?_) <;> try simp (dsimp := false) (disch := omega) only [wrap64]) | refine Ob.mk (by first | omega | (intro _ _; rfl) | trivial | (intros; trivial) | assumption | (intro i hi; have h0 : i = 0 := (by omega); subst h0; first | rfl | trivial) | (intro i hi; have h0 : i = 0 ∨ i = 1 := (by omega); rcases h0 with rfl | rfl <;> rfl) | (intro i hi; have h0 : i = 0 ∨ i = 1 ∨ i = 2 := (by omega); rcases h0 with rfl | rfl | rfl <;> rfl)) ?_ | ((first | ((first | refine atF (f := 45) ?_ | refine atQ (f := 45) ?_); (first | (refine cFI (hac := implIdentity_ok n (by omega) 9) (hK := ?_)) | (refine cQI (hac := implIdentity_ok n (by omega) 9) (hK := ?_))))); simp (maxSteps := 1000000) (dsimp := false) (implicitDefEqProofs := false) (disch := omega) only [wrap64, go_sem, chG_c, chG_t, chG_scrub, hG_c, kIk0, kIk1, kIk2, skI]) | apply_assumption -exfalso -symm)
  all_goals (first | (show endQ _ _ _ _ _ _ _; (repeat (rename (∀ (A : Fr) (H : Hp), AWP _ _ _ _ A H → _) => hK; clear hK)); (repeat (rename (Fr → Hp → Prop) => K; clear K))) | (show Exists _; (repeat (rename (∀ (A : Fr) (H : Hp), AWP _ _ _ _ A H → _) => hK; clear hK)); (repeat (rename (Fr → Hp → Prop) => K; clear K))) | skip)
  · have hs1 : ∀ x, Hp.scrub (fun x => x == 1000002) (chG (kIk n k) n n k (C0 n)) x = (chG (kIk n k) n n k (C0 n) x).map (Blk.scrub (fun x => x == 1000002)) := fun _ => rfl
    have hne : ∀ d i, sub d i ≠ 20 ∧ sub d i ≠ 32 := fun d i => by have := sub_ge d i; rw [FB_eq] at this; omega
    refine ⟨k + 1, by omega, by omega, Sub.lay (rho k) rfl (lay_cons ⟨_, rfl, .plain trivial⟩ (lay_cons ⟨_, rfl, .plain trivial⟩ (lay_cons ⟨_, rfl, .ref (rho_lit (by decide))⟩ (lay_cons ⟨_, rfl, .plain trivial⟩ (lay_cons ⟨_, rfl, .plain trivial⟩ lay_nil))))) (lay_step (F1 := scF (fun x => x == 1000002) (gnF n (C0 n))) hn2 (by omega) rfl (fun i hi => ?_) ?_ (fun i hi => ?_) rfl (fun i hi => ?_) ?_ (fun i hi => ?_) (fun i hi => ?_) rfl (fun i hi => ?_)) (fun h g m => rho_inj)⟩
    · have h0 : i = 0 ∨ i = 1 ∨ i = 2 := by omega
      rcases h0 with rfl | rfl | rfl
      · exact .plain (a := .v (.int .i64 n)) trivial
      · exact .own (rho_lit (by decide))
      · exact .own (rho_lit (by decide))
    · show Hp.scrub (fun x => x == 1000002) (chG (kIk n k) n n k (C0 n)) 1000001 = _
      rw [hs1, chG_g]; rfl
    · show (gnF n (C0 n) i).scrub _ = _
      rw [gnF_app _ hi]
      simp only [AV.scrub, sb2]; rfl
    · rw [show apF k (scF (fun x => x == 1000002) (tnG k n)) (setF (zF [Value.slice none 0 0]) 0 (.own 20 0 1 n)) i = (tnG k n i).scrub (fun x => x == 1000002) from if_pos hi, show tnG k n i = .own (sub 1000002 i) 0 1 n from if_pos hi]
      simp only [AV.scrub, sb2]; rfl
    · unfold apF setF
      rw [if_neg (by omega), if_pos (by omega)]
    · unfold Hp.upd
      rw [if_neg (sub_lits _ _).1, if_neg (sub_lits _ _).2.2, if_neg (hne _ _).2, if_neg (hne _ _).1, hs1, chG_gs hi hn2]; rfl
    · unfold Hp.upd
      rw [if_neg (sub_lits _ _).1, if_neg (sub_lits _ _).2.2, if_neg (hne _ _).2, if_neg (hne _ _).1, hs1, chG_ts hi (by omega)]
      simp only [Option.map_some, Blk.scrub, tF_scrub]
    · unfold setF tF C0
      by_cases e : i = k
      · subst e; simp only [if_pos]; rfl
      · simp only [if_neg e, zF1]
  · have e : k = n := by omega
    subst e
    rw [chG_all]
    have hg1 : ∀ i, i < gs.length → Pm k (gs.getD i []) := hg.2.2
    have hgm : ∀ m, ∀ g ∈ gs.take m, Pm k g := fun m g hm => by
      obtain ⟨j, hj, rfl⟩ := List.mem_iff_getElem.1 (List.mem_of_mem_take hm)
      have := hg1 j hj
      rwa [List.getD_eq_getElem?_getD, List.getElem?_eq_getElem hj] at this
    repeat' (first | refine awp_seqK fun K hK => ?_ | (refine awp_regionK 2061584532211 rfl ?_; simp only [List.map_cons, List.map_nil]; simp (maxSteps := 1000000) (dsimp := false) (implicitDefEqProofs := false) (disch := omega) only [wrap64, go_sem]) | (refine awp_regionQK 2061584532211 (by kernel_rfl) (by kernel_rfl) (by kernel_rfl) ?_; simp only [List.map_cons, List.map_nil]; simp (maxSteps := 1000000) (dsimp := false) (implicitDefEqProofs := false) (disch := omega) only [wrap64, go_sem]) | refine awp_block ?_ | (refine awp_skip ?_; simp only [go_sem]) | (refine awp_exit ?_; simp only [go_sem]) | (refine awp_ret ?_; try simp only [go_sem]) | (refine awp_condP rfl ?_; try simp only [go_sem]) | (refine BrP.mk (fun h => ?_) (fun h => ?_) <;> try simp (dsimp := false) (disch := omega) only [wrap64]) | (refine Br.mk (fun h => ?_) (fun h => ?_) <;> try simp (dsimp := false) (disch := omega) only [wrap64]) | refine Ob.mk (by first | omega | (intro _ _; rfl) | trivial | (intros; trivial) | assumption | (intro i hi; have h0 : i = 0 := (by omega); subst h0; first | rfl | trivial) | (intro i hi; have h0 : i = 0 ∨ i = 1 := (by omega); rcases h0 with rfl | rfl <;> rfl) | (intro i hi; have h0 : i = 0 ∨ i = 1 ∨ i = 2 := (by omega); rcases h0 with rfl | rfl | rfl <;> rfl)) ?_ | apply_assumption -exfalso -symm)
    all_goals (first | (show endQ _ _ _ _ _ _ _; (repeat (rename (∀ (A : Fr) (H : Hp), AWP _ _ _ _ A H → _) => hK; clear hK)); (repeat (rename (Fr → Hp → Prop) => K; clear K))) | (show Exists _; (repeat (rename (∀ (A : Fr) (H : Hp), AWP _ _ _ _ A H → _) => hK; clear hK)); (repeat (rename (Fr → Hp → Prop) => K; clear K))) | skip)
    refine awp_loop (ι := Ch × Nat) (fun x => [(39, .v (.int .i64 (x.2))), (38, .v (.int .i64 (gs.length))), (37, .list false 1 (gs).length (cM ints [] (gs))), (5, .ref 1000000 0)]) (fun x => (chH (kI k) k x.1).add Hp.emp) (fun x => x.2 ≤ gs.length ∧ x.1.WF k ∧ x.1.Full k 0 ∧ x.1.Ind k ∧ ∀ g, Go.Pm.Gen k (gs.take x.2) g ↔ Go.Pm.Gen k (x.1.S 0) g) (fun x => gs.length - x.2) (C0 k, 0)
      ⟨Nat.zero_le _, C0_wf k, C0_full k, C0_ind k, fun g => Iff.rfl⟩ (Sub.toL (by simp only [go_sem] <;> first | trivial | (simp only [Option.some.injEq, AV.v.injEq, AV.own.injEq, AV.list.injEq, Value.int.injEq, Value.bool.injEq, true_and, and_true]; first | omega | (simp; done)) | (simp; done) | (simp; omega)) (le_of_eq_add _)) ?_
    rintro ⟨C, i⟩ ⟨hi, hw, hF, hI, hG⟩
    dsimp only at hi hw hF hI hG ⊢
    have hI' : Hold (C.Ind k) := ⟨hI⟩
    clear hI
    have hac : i < gs.length → AC Tryz.prog 96 [.ref 1000000 0, .v (.int .i64 (0)), ints (gs.getD i [])] (chH (kI k) k C) (pnC 0) (postC (kI k) k (Ch.Add k 0 C (gs.getD i []))) := fun h =>
      implAdd_ok k hn2 k 0 C (gs.getD i []) (by omega) hw hF hI'.h (hg1 i h) (fun j hj => by omega)
    repeat' (first | refine awp_seqK fun K hK => ?_ | (refine awp_regionK 2061584532211 rfl ?_; simp only [List.map_cons, List.map_nil]; simp (maxSteps := 1000000) (dsimp := false) (implicitDefEqProofs := false) (disch := omega) only [wrap64, go_sem, pX_low]) | (refine awp_regionQK 2061584532211 (by kernel_rfl) (by kernel_rfl) (by kernel_rfl) ?_; simp only [List.map_cons, List.map_nil]; simp (maxSteps := 1000000) (dsimp := false) (implicitDefEqProofs := false) (disch := omega) only [wrap64, go_sem, pX_low]) | refine awp_block ?_ | (refine awp_skip ?_; simp only [go_sem, pX_low]) | (refine awp_exit ?_; simp only [go_sem, pX_low]) | (refine awp_ret ?_; try simp only [go_sem, pX_low]) | (refine awp_condP rfl ?_; try simp only [go_sem, pX_low]) | (refine BrP.mk (fun h => ?_) (fun h => ?_) <;> try simp (dsimp := false) (disch := omega) only [wrap64]) | (refine Br.mk (fun h => ?_) (fun h => ?_) <;> try simp (dsimp := false) (disch := omega) only [wrap64]) | refine Ob.mk (by first | omega | (intro _ _; rfl) | trivial | (intros; trivial) | assumption | (intro i hi; have h0 : i = 0 := (by omega); subst h0; first | rfl | trivial) | (intro i hi; have h0 : i = 0 ∨ i = 1 := (by omega); rcases h0 with rfl | rfl <;> rfl) | (intro i hi; have h0 : i = 0 ∨ i = 1 ∨ i = 2 := (by omega); rcases h0 with rfl | rfl | rfl <;> rfl)) ?_ | ((first | ((first | refine atF (f := 96) ?_ | refine atQ (f := 96) ?_); refine callCh (R := Hp.emp) (hac (by omega)) (.inl rfl) hn2 rfl rfl (fun h hh => by cases hh) (fun C5 hA5 => ?_))); simp (maxSteps := 1000000) (dsimp := false) (implicitDefEqProofs := false) (disch := omega) only [wrap64, go_sem, pX_low]) | apply_assumption -exfalso -symm)
    all_goals (first | (show endQ _ _ _ _ _ _ _; (repeat (rename (∀ (A : Fr) (H : Hp), AWP _ _ _ _ A H → _) => hK; clear hK)); (repeat (rename (Fr → Hp → Prop) => K; clear K))) | (show Exists _; (repeat (rename (∀ (A : Fr) (H : Hp), AWP _ _ _ _ A H → _) => hK; clear hK)); (repeat (rename (Fr → Hp → Prop) => K; clear K))) | skip)
    · refine ⟨(C5, i + 1), ⟨by dsimp only; omega, hA5.wf, hA5.full, hA5.ind hI'.h, ?_⟩, by dsimp only; omega, Sub.toL (by simp only [go_sem] <;> first | trivial | (simp only [Option.some.injEq, AV.v.injEq, AV.own.injEq, AV.list.injEq, Value.int.injEq, Value.bool.injEq, true_and, and_true]; first | omega | (simp; done)) | (simp; done) | (simp; omega)) (Hp.le_refl _)⟩
      dsimp only
      have hlt : i < gs.length := by omega
      have e := hA5.gen (hg1 i hlt) (hgm i) hG
      rw [List.take_succ_eq_append_getElem hlt]
      rw [List.getD_eq_getElem?_getD, List.getElem?_eq_getElem hlt] at e
      exact e
    · have e : i = gs.length := by omega
      subst e
      rw [List.take_length] at hG
      exact end_post rfl rfl (le_add _ _) ⟨rfl, C, ⟨hw, hF, hG⟩, rfl⟩
end Go.Proofs.YtpffmolibjimgaaGreatDoor
end
/- The reference extends a chain. -/
section
namespace Go.Proofs.YtpffmolibjimgaaGreatDoor
open Go.Av
set_option linter.unusedSimpArgs false
set_option linter.unusedVariables false
attribute [local irreducible] AWP CallG Ob Br BrP Go.Av.Sub endQ AOps OpV AC thenA blkA opsVC opVC withA withArgs opsQ opQ CallQ withA2 withArgs2
open Go.Pm (Pm comp invp idn img Ch fixB Spc Run Gen)

end Go.Proofs.YtpffmolibjimgaaGreatDoor
end
/- A new chain, and the chain of generators: the reference's. -/
section
namespace Go.Proofs.YtpffmolibjimgaaGreatDoor
open Go.Av
set_option linter.unusedSimpArgs false
set_option linter.unusedVariables false
attribute [local irreducible] AWP CallG Ob Br BrP Go.Av.Sub endQ AOps OpV AC thenA blkA opsVC opVC withA withArgs opsQ opQ CallQ withA2 withArgs2
open Go.Pm (Pm comp invp idn img Ch fixB)

section
variable {F : Nat → AV} {n j k : Nat} {C : Ch} {R : Hp}
end

end Go.Proofs.YtpffmolibjimgaaGreatDoor
end
/- IsReachable: both texts ask whether the state lies in the group of the moves. -/
section
namespace Go.Proofs.YtpffmolibjimgaaGreatDoor
open Go.Av
set_option linter.unusedSimpArgs false
set_option linter.unusedVariables false
attribute [local irreducible] AWP CallG Ob Br BrP Go.Av.Sub endQ AOps OpV AC thenA blkA opsVC opVC withA withArgs opsQ opQ CallQ withA2 withArgs2
open Go.Pm (Pm comp invp idn img Ch fixB)

theorem scrub_box {d : Nat} {a b : Value} {xs : List (List Int)} (q : Nat → Bool) : Hp.scrub q (Hp.emp.upd d (.cells 3 (vecF [.v a, .v b, .list false 1 xs.length (cM ints [] xs)]))) = Hp.emp.upd d (.cells 3 (vecF [.v a, .v b, .list false 1 xs.length (cM ints [] xs)])) := by
  funext x
  unfold Hp.scrub Hp.upd
  split
  · simp only [Option.map_some, Blk.scrub, Option.some.injEq, Blk.cells.injEq, true_and]
    funext i
    match i with
    | 0 => rfl
    | 1 => rfl
    | 2 => rfl
    | i + 3 => rfl
  · rfl
end Go.Proofs.YtpffmolibjimgaaGreatDoor
end

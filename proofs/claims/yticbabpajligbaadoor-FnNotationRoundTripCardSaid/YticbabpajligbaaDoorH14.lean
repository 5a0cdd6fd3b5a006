import Derived.Test.YticbabpajligbaaDoorH15
import Derived.Test.YticbabpajligbaaDoorH13
import Derived.Test.YticbabpajligbaaDoorH12
/- The texts of nodes, by the reference. -/
section
namespace Go.Proofs.YticbabpajligbaaDoor
open Go.Av
set_option linter.unusedSimpArgs false
set_option linter.unusedVariables false
attribute [local irreducible] AWP CallG Ob Br BrP Go.Av.Sub endQ AOps OpV AC thenA blkA opsVC opVC withA withArgs opsQ opQ CallQ withA2 withArgs2
open Go.Nt (Nd nd0 kd ndOk sz isNt jnS jn sumS inT ndT tx kdT)
/-- What a valid tree is, for texts. -/
structure NtOk (names : ByteArray) (xs : List Nd) : Prop where
  v : isNt names.size xs
theorem NtOk.mv {names : ByteArray} {xs : List Nd} (h : NtOk names xs) : ∀ i, i < xs.length → 0 ≤ (xs.getD i nd0).move := fun i hi => by
  have := h.v.2.2.1 i hi
  rcases this.2.2 with ⟨_, _, _, _, h2, _⟩ | ⟨_, h2 | h2 | h2⟩ <;> omega
abbrev TX (names : ByteArray) (xs : List Nd) (c : Int) : ByteArray := tx fmS names xs c.toNat
theorem kdT_TX (names : ByteArray) (xs : List Nd) (i : Nat) : kdT fmS names xs i = (kd xs i).map (TX names xs) := rfl
theorem NtOk.sum {names : ByteArray} {xs : List Nd} (h : NtOk names xs) {i : Nat} (hi : i < xs.length) : sumS ((kd xs i).map (TX names xs)) ≤ 1800 := Go.Nt.kdT_sum fmS_le h.v.2.2.2 h.v.2.1.2 h.mv i hi
end Go.Proofs.YticbabpajligbaaDoor
end
/- The texts of nodes, by the program. -/
section
namespace Go.Proofs.YticbabpajligbaaDoor
open Go.Av
set_option linter.unusedSimpArgs false
set_option linter.unusedVariables false
attribute [local irreducible] AWP CallG Ob Br BrP Go.Av.Sub endQ AOps OpV AC thenA blkA opsVC opVC withA withArgs opsQ opQ CallQ withA2 withArgs2
open Go.Nt (Nd nd0 kd ndOk sz isNt jnS jn sumS inT ndT tx kdT)
/-- What notationText hands back: of the last node, the items alone. -/
def rtT (names : ByteArray) (xs : List Nd) (i : Nat) : ByteArray := if i + 1 = xs.length then jn (kdT fmS names xs i) else tx fmS names xs i
theorem fits_Sx {H : Hp} {D : Nat → Prop} {h off n M : Nat} {ws ws' : List ByteArray} (hH : H h = some (.cells M (cM sv ByteArray.empty ws))) (hD : D h) (hM : off + n ≤ M) (hn : n = ws'.length) (hg : ∀ i, i < n → ws.getD (off + i) ByteArray.empty = ws'.getD i ByteArray.empty) : Fits H D (.own h off 1 n) (strs ws') := by
  subst hn
  exact .own hH hD (by omega) (fun _ _ => trivial) fun i hi => .ofEq (by rw [cM_sv, cM_sv, hg i (by omega)])
theorem getD_takeL {T : Int → ByteArray} {ks : List Int} {k sp j : Nat} (hk : ks.length ≤ k) (hj : j < sp) : ((ks.map T).take k).getD (0 + j) ByteArray.empty = ((ks.take sp).map T).getD j ByteArray.empty := by
  rw [Nat.zero_add, List.take_of_length_le (by rw [List.length_map]; exact hk)]
  simp [List.getD_eq_getElem?_getD, List.getElem?_take, hj]
theorem getD_dropR {T : Int → ByteArray} {ks : List Int} {k sp j : Nat} (hk : ks.length ≤ k) : ((ks.map T).take k).getD (sp + j) ByteArray.empty = ((ks.drop sp).map T).getD j ByteArray.empty := by
  rw [List.take_of_length_le (by rw [List.length_map]; exact hk)]
  simp [List.getD_eq_getElem?_getD]
theorem getD_all {T : Int → ByteArray} {ks : List Int} {k j : Nat} (hk : ks.length ≤ k) : ((ks.map T).take k).getD (0 + j) ByteArray.empty = (ks.map T).getD j ByteArray.empty := by
  rw [Nat.zero_add, List.take_of_length_le (by rw [List.length_map]; exact hk)]
set_option maxHeartbeats 8000000 in
theorem implText_ok (names : ByteArray) (xs : List Nd) (hv : NtOk names xs) : ∀ i : Nat, i < xs.length → AC Tryd.prog 48 [.v (.string (names)), nds xs, .v (.int .i64 ((i : Nat)))] Hp.emp (fun _ => false) (retV (.v (.string (rtT names xs i)))) := by
  intro i
  induction i using Nat.strongRecOn with
  | _ i ih =>
    intro hi
    have hn := ndF_is xs i
    have h0 := hn.h0
    have h1 := hn.h1
    have h2 := hn.h2
    have h3 := hn.h3
    have h4 := hn.h4
    have h5 := hn.h5
    clear hn
    have hl := hv.v.2.1
    have hx := hv.v.2.2.1 i hi
    have hkl := Go.Nt.kids_len hv.v.2.2.2 hi
    have hsum := hv.sum hi
    have htx := Go.Nt.tx_eq (fm := fmS) (names := names) hv.v.2.2.2 hi
    rw [kdT_TX] at htx
    have hnm := hv.v.1
    have hkd : ∀ k, k < (kd xs i).length → AC Tryd.prog 48 [.v (.string (names)), nds xs, .v (.int .i64 ((kd xs i).getD k 0))] Hp.emp (fun _ => false) (retV (.v (.string (TX names xs ((kd xs i).getD k 0))))) := fun k hk => by
      have hlt := Go.Nt.kid_lt hv.v.2.2.2 hi hk
      have := ih ((kd xs i).getD k 0).toNat (by omega) (by omega)
      rwa [Int.toNat_of_nonneg hlt.1, show rtT names xs ((kd xs i).getD k 0).toNat = TX names xs ((kd xs i).getD k 0) from if_neg (by omega)] at this
    obtain ⟨ks, eks⟩ : ∃ ks, ks = kd xs i := ⟨_, rfl⟩
    obtain ⟨x, ex⟩ : ∃ x, x = xs.getD i nd0 := ⟨_, rfl⟩
    have hxk : x.kids = ks := by rw [ex, eks]
    rw [← ex] at h0 h1 h2 h3 h4 h5 hx htx
    rw [hxk] at h5
    rw [← eks] at hkl hsum htx hkd
    have h0' : ndF xs (i * 6) = .v (.int .i64 (x.kind)) := h0
    obtain ⟨sp, esp⟩ : ∃ sp : Nat, sp = x.split.toNat := ⟨_, rfl⟩
    have hsp : x.kind = 3 ∨ x.kind = 4 → x.split = (sp : Int) ∧ 1 ≤ sp ∧ sp ≤ ks.length - 1 := fun h => by
      have hxl : x.kids.length = ks.length := by rw [hxk]
      rcases hx.2.2 with ⟨_, h2, _⟩ | ⟨_, h2 | h2 | h2⟩ <;> omega
    have hkind : x.kind = 1 ∨ x.kind = 2 ∨ x.kind = 3 ∨ x.kind = 4 := by
      rcases hx.2.2 with ⟨_, h2, _⟩ | ⟨_, h2 | h2 | h2⟩ <;> omega
    have hmv : x.kind = 1 → 0 ≤ x.move ∧ x.move ≤ (names.size : Int) - 1 := fun h => by
      rcases hx.2.2 with ⟨_, h2, _⟩ | ⟨_, h2 | h2 | h2⟩ <;> omega
    have hs3 : 3 ≤ x.kind → x.split = (sp : Int) := fun h => (hsp (by omega)).1
    have hs4 : 3 ≤ x.kind → 1 ≤ sp ∧ sp ≤ ks.length - 1 := fun h => (hsp (by omega)).2
    have hct := hx.1
    have hiv := hx.2.1
    have hsplit : sumS ((ks.take sp).map (TX names xs)) + sumS ((ks.drop sp).map (TX names xs)) = sumS (ks.map (TX names xs)) := by rw [← Go.Nt.sumS_app, ← List.map_append, List.take_append_drop]
    have hja := Go.Nt.jn_size (ks.map (TX names xs))
    have hjl := Go.Nt.jn_size ((ks.take sp).map (TX names xs))
    have hjr := Go.Nt.jn_size ((ks.drop sp).map (TX names xs))
    have hfin : inT names x (ks.map (TX names xs)) = (if x.kind = 1 then names.extract x.move.toNat (x.move + 1).toNat else if x.kind = 2 then (⟨#[40]⟩ : ByteArray) ++ jn (ks.map (TX names xs)) ++ ⟨#[41]⟩ else if x.kind = 3 then (⟨#[91]⟩ : ByteArray) ++ jn ((ks.take sp).map (TX names xs)) ++ ⟨#[44]⟩ ++ jn ((ks.drop sp).map (TX names xs)) ++ ⟨#[93]⟩ else (⟨#[91]⟩ : ByteArray) ++ jn ((ks.take sp).map (TX names xs)) ++ ⟨#[58]⟩ ++ jn ((ks.drop sp).map (TX names xs)) ++ ⟨#[93]⟩) := by
      rw [List.map_take, List.map_drop, esp]; rfl
    obtain ⟨jA, eA⟩ : ∃ j, j = jn (ks.map (TX names xs)) := ⟨_, rfl⟩
    obtain ⟨jL, eL⟩ : ∃ j, j = jn ((ks.take sp).map (TX names xs)) := ⟨_, rfl⟩
    obtain ⟨jR, eR⟩ : ∃ j, j = jn ((ks.drop sp).map (TX names xs)) := ⟨_, rfl⟩
    rw [← eA] at hja hfin
    rw [← eL] at hjl hfin
    rw [← eR] at hjr hfin
    have hja : jA.size ≤ 1800 := by omega
    have hjlr : jL.size + jR.size ≤ 1800 := by omega
    clear hjl hjr hsplit
    have c1 : (⟨#[39]⟩ : ByteArray).size = 1 := rfl
    have c2 : (⟨#[40]⟩ : ByteArray).size = 1 := rfl
    have c3 : (⟨#[41]⟩ : ByteArray).size = 1 := rfl
    have c4 : (⟨#[91]⟩ : ByteArray).size = 1 := rfl
    have c5 : (⟨#[44]⟩ : ByteArray).size = 1 := rfl
    have c6 : (⟨#[58]⟩ : ByteArray).size = 1 := rfl
    have c7 : (⟨#[93]⟩ : ByteArray).size = 1 := rfl
    have hfm := fmS_le x.count.toNat
    have hfi := fun h : 0 ≤ x.count ∧ x.count < 100 => (by
      have := decimal_ok x.count.toNat (by omega)
      rwa [Int.toNat_of_nonneg h.1] at this : AC Tryd.prog 42 [.v (.int .i64 (x.count))] Hp.emp (fun _ => false) (retV (.v (.string (fmS x.count.toNat)))))
    have hfi := Hold.mk hfi
    obtain ⟨fc, efc⟩ : ∃ f, f = fmS x.count.toNat := ⟨_, rfl⟩
    rw [← efc] at hfm hfi
    have hroot : i + 1 = xs.length → x.kind = 2 ∧ x.count = 1 ∧ x.inv = 0 := fun h => by
      rcases hx.2.2 with ⟨_, h2, h3, h4, _⟩ | ⟨h0, _⟩
      · exact ⟨h2, h3, h4⟩
      · rw [decide_eq_false_iff_not] at h0; exact absurd h h0
    have hrt : rtT names xs i = if i + 1 = xs.length then jA else tx fmS names xs i := by
      unfold rtT; rw [kdT_TX, ← eks, ← eA]
    have hnT : (names.extract x.move.toNat (x.move + 1).toNat).size ≤ 8 := by rw [ByteArray.size_extract]; omega
    have hjoin := Hold.mk (join_ok (ks.map (TX names xs)) (by rw [List.length_map]; omega) (by rw [← eA]; omega))
    have hjoinL := Hold.mk (join_ok ((ks.take sp).map (TX names xs)) (by rw [List.length_map, List.length_take]; omega) (by rw [← eL]; omega))
    have hjoinR := Hold.mk (join_ok ((ks.drop sp).map (TX names xs)) (by rw [List.length_map, List.length_drop]; omega) (by rw [← eR]; omega))
    rw [← eA] at hjoin
    rw [← eL] at hjoinL
    rw [← eR] at hjoinR
    have hsc : ∀ q, scF q (fun j => ndF xs (i * 6 + j)) = fun j => ndF xs (i * 6 + j) := fun q => by funext j; exact (ndF_plain xs _).2 q
    have hkd := Hold.mk hkd
    have hone : ∀ j, j < 6 → (ndF xs (i * 6 + j)).one = true := fun j hj => by
      rw [ndF_at xs i j hj]; exact (ndC_plain _ _ (vecF_mem hj)).2.1
    have hone := Hold.mk hone
    refine ac_of_awp (N := ⟨_, fun _ => false, fun _ _ => rfl⟩) Tryd.func48 rfl (by kernel_rfl) Tryd.ntmps48 (by simp) ?_
    simp only [argsFr, List.zipIdx_cons, List.zipIdx_nil, go_sem]
    repeat' (first | (refine Ob.mk hone.h ?_) | refine awp_seqK fun K hK => ?_ | (refine awp_regionK 159075297409391779100013497799 rfl ?_; simp only [List.map_cons, List.map_nil]; simp (maxSteps := 1000000) (dsimp := false) (implicitDefEqProofs := false) (disch := omega) only [wrap64, go_sem, hsc, scF_app, h0, h1, h2, h3, h4, h5, h0']) | (refine awp_regionQK 159075297409391779100013497799 (by kernel_rfl) (by kernel_rfl) (by kernel_rfl) ?_; simp only [List.map_cons, List.map_nil]; simp (maxSteps := 1000000) (dsimp := false) (implicitDefEqProofs := false) (disch := omega) only [wrap64, go_sem, hsc, scF_app, h0, h1, h2, h3, h4, h5, h0']) | refine awp_block ?_ | (refine awp_skip ?_; simp only [go_sem, hsc, scF_app, h0, h1, h2, h3, h4, h5, h0']) | (refine awp_exit ?_; simp only [go_sem, hsc, scF_app, h0, h1, h2, h3, h4, h5, h0']) | (refine awp_ret ?_; try simp only [go_sem, hsc, scF_app, h0, h1, h2, h3, h4, h5, h0']) | (refine awp_condP rfl ?_; try simp only [go_sem, hsc, scF_app, h0, h1, h2, h3, h4, h5, h0']) | (refine BrP.mk (fun h => ?_) (fun h => ?_) <;> try simp (dsimp := false) (disch := omega) only [wrap64]) | (refine Br.mk (fun h => ?_) (fun h => ?_) <;> try simp (dsimp := false) (disch := omega) only [wrap64]) | refine Ob.mk (by first | omega | (intro _ _; rfl) | trivial | (intros; trivial) | assumption | (intro i hi; have h0 : i = 0 := (by omega); subst h0; first | rfl | trivial) | (intro i hi; have h0 : i = 0 ∨ i = 1 := (by omega); rcases h0 with rfl | rfl <;> rfl) | (intro i hi; have h0 : i = 0 ∨ i = 1 ∨ i = 2 := (by omega); rcases h0 with rfl | rfl | rfl <;> rfl)) ?_ | apply_assumption -exfalso -symm)
    all_goals (first | (show endQ _ _ _ _ _ _ _; (repeat (rename (∀ (A : Fr) (H : Hp), AWP _ _ _ _ A H → _) => hK; clear hK)); (repeat (rename (Fr → Hp → Prop) => K; clear K))) | (show Exists _; (repeat (rename (∀ (A : Fr) (H : Hp), AWP _ _ _ _ A H → _) => hK; clear hK)); (repeat (rename (Fr → Hp → Prop) => K; clear K))) | skip)
    have tkl : ∀ k, k ≤ ks.length → ((ks.map (TX names xs)).take k).length = k := fun k hk => by rw [List.length_take, List.length_map]; omega
    refine awp_loop (ι := Nat) (fun k => [(19, .v (.int .i64 ((k : Nat)))), (18, .v (.int .i64 ((ks.length : Nat)))), (17, .list false 1 (ks).length (cM iv 0 (ks))), (8, .own 30 0 1 k), (7, .ref 7 0), (0, .v (.string (names))), (1, nds xs), (2, .v (.int .i64 ((i : Nat))))]) (fun k => (Hp.emp.upd 7 (.cells 6 (fun j => ndF xs (i * 6 + j)))).upd 30 (.cells k (cM sv ByteArray.empty ((ks.map (TX names xs)).take k)))) (fun k => k ≤ ks.length) (fun k => ks.length - k) 0 (Nat.zero_le _) ?_ ?_
    · exact Sub.trans (Sub.nil (i := 8) 30 1 (cM sv ByteArray.empty []) rfl rfl) (Sub.toL (by simp only [go_sem] <;> first | trivial | (simp only [Option.some.injEq, AV.v.injEq, AV.own.injEq, AV.list.injEq, Value.int.injEq, Value.bool.injEq, true_and, and_true]; first | omega | (simp; done)) | (simp; done) | (simp; omega)) (Hp.le_upd rfl (Hp.le_upd (by simp only [go_sem, hsc]) (Hp.le_emp _))))
    intro k hk
    have hkl2 := tkl k hk
    have hkd1 := fun h : k < ks.length => hkd.h k h
    have hkd1 := Hold.mk hkd1
    have hml : (ks.map (TX names xs)).length = ks.length := List.length_map ..
    have hkeq : ¬ k < ks.length → k = ks.length := fun h => by omega
    have hks : ks.length ≤ 199 := by omega
    have hL1 : ((ks.take sp).map (TX names xs)).length = min sp ks.length := by rw [List.length_map, List.length_take]
    have hR1 : ((ks.drop sp).map (TX names xs)).length = ks.length - sp := by rw [List.length_map, List.length_drop]
    clear ih tkl
    repeat' (first | refine awp_seqK fun K hK => ?_ | (refine awp_regionK 159075297409391779100013497799 rfl ?_; simp only [List.map_cons, List.map_nil]; simp (maxSteps := 1000000) (dsimp := false) (implicitDefEqProofs := false) (disch := omega) only [wrap64, go_sem, hsc, scF_app, h0, h1, h2, h3, h4, h5, h0', hs3, Int.toNat_natCast, Nat.sub_zero, ByteArray.size_append, c1, c2, c3, c4, c5, c6, c7]) | (refine awp_regionQK 159075297409391779100013497799 (by kernel_rfl) (by kernel_rfl) (by kernel_rfl) ?_; simp only [List.map_cons, List.map_nil]; simp (maxSteps := 1000000) (dsimp := false) (implicitDefEqProofs := false) (disch := omega) only [wrap64, go_sem, hsc, scF_app, h0, h1, h2, h3, h4, h5, h0', hs3, Int.toNat_natCast, Nat.sub_zero, ByteArray.size_append, c1, c2, c3, c4, c5, c6, c7]) | refine awp_block ?_ | (refine awp_skip ?_; simp only [go_sem, hsc, scF_app, h0, h1, h2, h3, h4, h5, h0', hs3, Int.toNat_natCast, Nat.sub_zero, ByteArray.size_append, c1, c2, c3, c4, c5, c6, c7]) | (refine awp_exit ?_; simp only [go_sem, hsc, scF_app, h0, h1, h2, h3, h4, h5, h0', hs3, Int.toNat_natCast, Nat.sub_zero, ByteArray.size_append, c1, c2, c3, c4, c5, c6, c7]) | (refine awp_ret ?_; try simp only [go_sem, hsc, scF_app, h0, h1, h2, h3, h4, h5, h0', hs3, Int.toNat_natCast, Nat.sub_zero, ByteArray.size_append, c1, c2, c3, c4, c5, c6, c7]) | (refine awp_condP rfl ?_; try simp only [go_sem, hsc, scF_app, h0, h1, h2, h3, h4, h5, h0', hs3, Int.toNat_natCast, Nat.sub_zero, ByteArray.size_append, c1, c2, c3, c4, c5, c6, c7]) | (refine BrP.mk (fun h => ?_) (fun h => ?_) <;> try simp (dsimp := false) (disch := omega) only [wrap64]) | (refine Br.mk (fun h => ?_) (fun h => ?_) <;> try simp (dsimp := false) (disch := omega) only [wrap64]) | refine Ob.mk (by first | omega | (intro _ _; rfl) | trivial | (intros; trivial) | assumption | (intro i hi; have h0 : i = 0 := (by omega); subst h0; first | rfl | trivial) | (intro i hi; have h0 : i = 0 ∨ i = 1 := (by omega); rcases h0 with rfl | rfl <;> rfl) | (intro i hi; have h0 : i = 0 ∨ i = 1 ∨ i = 2 := (by omega); rcases h0 with rfl | rfl | rfl <;> rfl)) ?_ | ((first | ((first | refine atF (f := 48) ?_ | refine atQ (f := 48) ?_); (refine cV (hfit := .cons (.refl _) (.cons (.refl _) (.cons (.refl _) .nil))) (hac := hkd1.h (by omega)) (hK := ?_))) | ((first | refine atF (f := 42) ?_ | refine atQ (f := 42) ?_); (first | refine cV (hfit := .cons (.refl _) .nil) (hac := hfi.h (by omega)) (hK := ?_) | refine cQV (hfit := .cons (.refl _) .nil) (hac := hfi.h (by omega)) (hK := ?_))) | ((first | refine atF (f := 49) ?_ | refine atQ (f := 49) ?_); (first | (refine cV (hac := lenNd_ok xs) (hK := ?_)) | (refine cQV (hac := lenNd_ok xs) (hK := ?_)))) | ((first | refine atF (f := 44) ?_ | refine atQ (f := 44) ?_); (first | refine cV (hfit := .cons (fits_Sx rfl trivial (by omega) (by omega) (fun j hj => getD_all (by omega))) (.cons (.refl _) .nil)) (hac := hjoin.h) (hK := ?_) | refine cQV (hfit := .cons (fits_Sx (off := 0) rfl trivial (by omega) (by omega) (fun j hj => getD_takeL (by omega) (by omega))) (.cons (.refl _) .nil)) (hac := hjoinL.h) (hK := ?_) | refine cQV (hfit := .cons (fits_Sx rfl trivial (by omega) (by omega) (fun j hj => getD_dropR (by omega))) (.cons (.refl _) .nil)) (hac := hjoinR.h) (hK := ?_)))); simp (maxSteps := 1000000) (dsimp := false) (implicitDefEqProofs := false) (disch := omega) only [wrap64, go_sem, hsc, scF_app, h0, h1, h2, h3, h4, h5, h0', hs3, Int.toNat_natCast, Nat.sub_zero, ByteArray.size_append, c1, c2, c3, c4, c5, c6, c7]) | apply_assumption -exfalso -symm)
    all_goals (first | (show endQ _ _ _ _ _ _ _; (repeat (rename (∀ (A : Fr) (H : Hp), AWP _ _ _ _ A H → _) => hK; clear hK)); (repeat (rename (Fr → Hp → Prop) => K; clear K))) | (show Exists _; (repeat (rename (∀ (A : Fr) (H : Hp), AWP _ _ _ _ A H → _) => hK; clear hK)); (repeat (rename (Fr → Hp → Prop) => K; clear K))) | skip)
    all_goals first
      | omega
      | (refine ⟨k + 1, by omega, by omega, ?_⟩
         refine Sub.toFF (fun _ => False) (Fr.fit_cons rfl (.refl _) (Fr.fit_cons rfl (.refl _) (Fr.fit_cons rfl (.refl _) (Fr.fit_cons rfl (.refl _) (Fr.fit_cons rfl (.refl _) (Fr.fit_cons rfl (.refl _) (Fr.fit_cons rfl (.refl _) (Fr.fit_cons rfl (.refl _) (Fr.fit_nil _))))))))) (leF_upd rfl (bfE rfl (fun j hj => ?_)) (leF_upd rfl (.refl _ _ _) leF_emp id) id)
         have e1 : (ks.map (TX names xs)).take (k + 1) = (ks.map (TX names xs)).take k ++ [TX names xs (ks.getD k 0)] := by
           rw [List.take_add_one, List.getElem?_map, List.getD_eq_getElem?_getD, List.getElem?_eq_getElem (show k < ks.length by omega)]; rfl
         rw [e1]
         have := ap_S ((ks.map (TX names xs)).take k) (TX names xs (ks.getD k 0)) (zF [Value.string { data := #[] }]) j (by omega)
         rw [hkl2] at this
         exact this)
      | exact end_retV' rfl rfl (congrArg (fun s => AV.v (.string s)) (by rw [hrt, if_pos (by omega)]))
      | exact end_retV' rfl rfl (congrArg (fun s => AV.v (.string s)) (by rw [hrt, if_neg (by omega), htx]; unfold ndT; rw [hfin]; (repeat (first | rw [if_pos (by omega)] | rw [if_neg (by omega)])); (try rw [← efc])))
end Go.Proofs.YticbabpajligbaaDoor
end
/- FormatNotation, by both texts. -/
section
namespace Go.Proofs.YticbabpajligbaaDoor
open Go.Av
set_option linter.unusedSimpArgs false
set_option linter.unusedVariables false
attribute [local irreducible] AWP CallG Ob Br BrP Go.Av.Sub endQ AOps OpV AC thenA blkA opsVC opVC withA withArgs opsQ opQ CallQ withA2 withArgs2
open Go.Nt (Nd nd0 kd ndOk sz isNt jnS jn sumS inT ndT tx kdT)
/-- The whole text. -/
def fnT (names : ByteArray) (xs : List Nd) : ByteArray := jn (kdT fmS names xs (xs.length - 1))
def fnP (names : ByteArray) (xs : List Nd) : ByteArray := if nmP names ∧ isNt names.size xs then (if 400 < (fnT names xs).size then ⟨#[]⟩ else fnT names xs) else ⟨#[]⟩
theorem fnP_yes {names : ByteArray} {xs : List Nd} (h : nmP names) (hv : isNt names.size xs) : fnP names xs = if 400 < (fnT names xs).size then ⟨#[]⟩ else fnT names xs := if_pos ⟨h, hv⟩
theorem fnP_no {names : ByteArray} {xs : List Nd} (h : ¬ (nmP names ∧ isNt names.size xs)) : fnP names xs = ⟨#[]⟩ := if_neg h
theorem fnP_size (names : ByteArray) (xs : List Nd) : (fnP names xs).size ≤ 400 := by
  unfold fnP
  split
  · split
    · exact Nat.zero_le _
    · omega
  · exact Nat.zero_le _
theorem fnT_small {names : ByteArray} {xs : List Nd} (hv : NtOk names xs) : (fnT names xs).size ≤ 1800 := by
  have h1 := hv.v.2.1
  have h2 := hv.sum (i := xs.length - 1) (by omega)
  have h3 := Go.Nt.jn_size (kdT fmS names xs (xs.length - 1))
  rw [kdT_TX] at h3
  unfold fnT
  rw [kdT_TX]
  omega
theorem implAll_ok (names : ByteArray) (xs : List Nd) (hv : NtOk names xs) : AC Tryd.prog 48 [.v (.string (names)), nds xs, .v (.int .i64 ((xs.length : Int) - 1))] Hp.emp (fun _ => false) (retV (.v (.string (fnT names xs)))) := by
  have h1 := hv.v.2.1
  have := implText_ok names xs hv (xs.length - 1) (by omega)
  rwa [show rtT names xs (xs.length - 1) = fnT names xs from if_pos (by omega), show ((xs.length - 1 : Nat) : Int) = (xs.length : Int) - 1 by omega] at this
theorem implNames_ok (names : ByteArray) (hs : names.size ≤ 1048576) : AC Tryd.prog 37 [.v (.string (names))] Hp.emp (fun _ => false) (retV (.v (.bool (decide (nmP names))))) := isNames_ok names (by omega)
set_option maxHeartbeats 2000000 in
theorem implFormatNotation_ok (names : ByteArray) (xs : List Nd) (hs : names.size ≤ 1048576) (hx : xs.length ≤ 1048576) (hb : ∀ j, (kd xs j).length ≤ 1048576) : AC Tryd.prog 15 [.v (.string (names)), nds xs] Hp.emp (fun _ => false) (retV (.v (.string (fnP names xs)))) := by
  have hnm := implNames_ok names hs
  have hvl := implIsValidNt_ok names.size xs hx hb
  by_cases h1 : nmP names
  · rw [decide_eq_true h1] at hnm
    by_cases h2 : isNt names.size xs
    · rw [decide_eq_true h2] at hvl
      have hv : NtOk names xs := ⟨h2⟩
      have hl := h2.2.1
      have hsm := fnT_small hv
      have hall := implAll_ok names xs hv
      rw [fnP_yes h1 h2]
      obtain ⟨T, eT⟩ : ∃ T, T = fnT names xs := ⟨_, rfl⟩
      rw [← eT] at hall hsm ⊢
      have hnm := Hold.mk hnm
      have hvl := Hold.mk hvl
      have hall := Hold.mk hall
      clear hb h1 h2 hv
      refine ac_of_awp (N := ⟨_, fun _ => false, fun _ _ => rfl⟩) Tryd.func15 rfl (by kernel_rfl) Tryd.ntmps15 (by simp) ?_
      simp only [argsFr, List.zipIdx_cons, List.zipIdx_nil, go_sem]
      repeat' (first | refine awp_seqK fun K hK => ?_ | (refine awp_regionK 16810035 rfl ?_; simp only [List.map_cons, List.map_nil]; simp (maxSteps := 1000000) (dsimp := false) (implicitDefEqProofs := false) (disch := omega) only [wrap64, go_sem]) | (refine awp_regionQK 16810035 (by kernel_rfl) (by kernel_rfl) (by kernel_rfl) ?_; simp only [List.map_cons, List.map_nil]; simp (maxSteps := 1000000) (dsimp := false) (implicitDefEqProofs := false) (disch := omega) only [wrap64, go_sem]) | refine awp_block ?_ | (refine awp_skip ?_; simp only [go_sem]) | (refine awp_exit ?_; simp only [go_sem]) | (refine awp_ret ?_; try simp only [go_sem]) | (refine awp_condP rfl ?_; try simp only [go_sem]) | (refine BrP.mk (fun h => ?_) (fun h => ?_) <;> try simp (dsimp := false) (disch := omega) only [wrap64]) | (refine Br.mk (fun h => ?_) (fun h => ?_) <;> try simp (dsimp := false) (disch := omega) only [wrap64]) | refine Ob.mk (by first | omega | (intro _ _; rfl) | trivial | (intros; trivial) | assumption | (intro i hi; have h0 : i = 0 := (by omega); subst h0; first | rfl | trivial) | (intro i hi; have h0 : i = 0 ∨ i = 1 := (by omega); rcases h0 with rfl | rfl <;> rfl) | (intro i hi; have h0 : i = 0 ∨ i = 1 ∨ i = 2 := (by omega); rcases h0 with rfl | rfl | rfl <;> rfl)) ?_ | ((first | ((first | refine atF (f := 37) ?_ | refine atQ (f := 37) ?_); (first | refine cV (hfit := .cons (.refl _) .nil) (hac := hnm.h) (hK := ?_) | refine cQV (hfit := .cons (.refl _) .nil) (hac := hnm.h) (hK := ?_))) | ((first | refine atF (f := 21) ?_ | refine atQ (f := 21) ?_); (first | refine cV (hfit := .cons (.refl _) (.cons (.refl _) .nil)) (hac := hvl.h) (hK := ?_) | refine cQV (hfit := .cons (.refl _) (.cons (.refl _) .nil)) (hac := hvl.h) (hK := ?_))) | ((first | refine atF (f := 49) ?_ | refine atQ (f := 49) ?_); (first | (refine cV (hac := lenNd_ok xs) (hK := ?_)) | (refine cQV (hac := lenNd_ok xs) (hK := ?_)))) | ((first | refine atF (f := 48) ?_ | refine atQ (f := 48) ?_); (refine cV (hfit := .cons (.refl _) (.cons (.refl _) (.cons (.refl _) .nil))) (hac := hall.h) (hK := ?_)))); simp (maxSteps := 1000000) (dsimp := false) (implicitDefEqProofs := false) (disch := omega) only [wrap64, go_sem]) | apply_assumption -exfalso -symm)
      all_goals (first | (show endQ _ _ _ _ _ _ _; (repeat (rename (∀ (A : Fr) (H : Hp), AWP _ _ _ _ A H → _) => hK; clear hK)); (repeat (rename (Fr → Hp → Prop) => K; clear K))) | (show Exists _; (repeat (rename (∀ (A : Fr) (H : Hp), AWP _ _ _ _ A H → _) => hK; clear hK)); (repeat (rename (Fr → Hp → Prop) => K; clear K))) | skip)
      all_goals first
        | exact end_retV' rfl rfl (by rw [if_pos (by omega)])
        | exact end_retV' rfl rfl (by rw [if_neg (by omega)])
    · rw [decide_eq_false h2] at hvl
      rw [fnP_no (fun h => h2 h.2)]
      have hnm := Hold.mk hnm
      have hvl := Hold.mk hvl
      clear hb h1 h2
      refine ac_of_awp (N := ⟨_, fun _ => false, fun _ _ => rfl⟩) Tryd.func15 rfl (by kernel_rfl) Tryd.ntmps15 (by simp) ?_
      simp only [argsFr, List.zipIdx_cons, List.zipIdx_nil, go_sem]
      repeat' (first | refine awp_seqK fun K hK => ?_ | (refine awp_regionK 16810035 rfl ?_; simp only [List.map_cons, List.map_nil]; simp (maxSteps := 1000000) (dsimp := false) (implicitDefEqProofs := false) (disch := omega) only [wrap64, go_sem]) | (refine awp_regionQK 16810035 (by kernel_rfl) (by kernel_rfl) (by kernel_rfl) ?_; simp only [List.map_cons, List.map_nil]; simp (maxSteps := 1000000) (dsimp := false) (implicitDefEqProofs := false) (disch := omega) only [wrap64, go_sem]) | refine awp_block ?_ | (refine awp_skip ?_; simp only [go_sem]) | (refine awp_exit ?_; simp only [go_sem]) | (refine awp_ret ?_; try simp only [go_sem]) | (refine awp_condP rfl ?_; try simp only [go_sem]) | (refine BrP.mk (fun h => ?_) (fun h => ?_) <;> try simp (dsimp := false) (disch := omega) only [wrap64]) | (refine Br.mk (fun h => ?_) (fun h => ?_) <;> try simp (dsimp := false) (disch := omega) only [wrap64]) | refine Ob.mk (by first | omega | (intro _ _; rfl) | trivial | (intros; trivial) | assumption | (intro i hi; have h0 : i = 0 := (by omega); subst h0; first | rfl | trivial) | (intro i hi; have h0 : i = 0 ∨ i = 1 := (by omega); rcases h0 with rfl | rfl <;> rfl) | (intro i hi; have h0 : i = 0 ∨ i = 1 ∨ i = 2 := (by omega); rcases h0 with rfl | rfl | rfl <;> rfl)) ?_ | ((first | ((first | refine atF (f := 37) ?_ | refine atQ (f := 37) ?_); (first | refine cV (hfit := .cons (.refl _) .nil) (hac := hnm.h) (hK := ?_) | refine cQV (hfit := .cons (.refl _) .nil) (hac := hnm.h) (hK := ?_))) | ((first | refine atF (f := 21) ?_ | refine atQ (f := 21) ?_); (first | refine cV (hfit := .cons (.refl _) (.cons (.refl _) .nil)) (hac := hvl.h) (hK := ?_) | refine cQV (hfit := .cons (.refl _) (.cons (.refl _) .nil)) (hac := hvl.h) (hK := ?_)))); simp (maxSteps := 1000000) (dsimp := false) (implicitDefEqProofs := false) (disch := omega) only [wrap64, go_sem]) | apply_assumption -exfalso -symm)
      all_goals (first | (show endQ _ _ _ _ _ _ _; (repeat (rename (∀ (A : Fr) (H : Hp), AWP _ _ _ _ A H → _) => hK; clear hK)); (repeat (rename (Fr → Hp → Prop) => K; clear K))) | (show Exists _; (repeat (rename (∀ (A : Fr) (H : Hp), AWP _ _ _ _ A H → _) => hK; clear hK)); (repeat (rename (Fr → Hp → Prop) => K; clear K))) | skip)
      all_goals first | exact end_retV rfl rfl
  · rw [decide_eq_false h1] at hnm
    rw [fnP_no (fun h => h1 h.1)]
    have hnm := Hold.mk hnm
    clear hb h1 hvl
    refine ac_of_awp (N := ⟨_, fun _ => false, fun _ _ => rfl⟩) Tryd.func15 rfl (by kernel_rfl) Tryd.ntmps15 (by simp) ?_
    simp only [argsFr, List.zipIdx_cons, List.zipIdx_nil, go_sem]
    repeat' (first | refine awp_seqK fun K hK => ?_ | (refine awp_regionK 16810035 rfl ?_; simp only [List.map_cons, List.map_nil]; simp (maxSteps := 1000000) (dsimp := false) (implicitDefEqProofs := false) (disch := omega) only [wrap64, go_sem]) | (refine awp_regionQK 16810035 (by kernel_rfl) (by kernel_rfl) (by kernel_rfl) ?_; simp only [List.map_cons, List.map_nil]; simp (maxSteps := 1000000) (dsimp := false) (implicitDefEqProofs := false) (disch := omega) only [wrap64, go_sem]) | refine awp_block ?_ | (refine awp_skip ?_; simp only [go_sem]) | (refine awp_exit ?_; simp only [go_sem]) | (refine awp_ret ?_; try simp only [go_sem]) | (refine awp_condP rfl ?_; try simp only [go_sem]) | (refine BrP.mk (fun h => ?_) (fun h => ?_) <;> try simp (dsimp := false) (disch := omega) only [wrap64]) | (refine Br.mk (fun h => ?_) (fun h => ?_) <;> try simp (dsimp := false) (disch := omega) only [wrap64]) | refine Ob.mk (by first | omega | (intro _ _; rfl) | trivial | (intros; trivial) | assumption | (intro i hi; have h0 : i = 0 := (by omega); subst h0; first | rfl | trivial) | (intro i hi; have h0 : i = 0 ∨ i = 1 := (by omega); rcases h0 with rfl | rfl <;> rfl) | (intro i hi; have h0 : i = 0 ∨ i = 1 ∨ i = 2 := (by omega); rcases h0 with rfl | rfl | rfl <;> rfl)) ?_ | ((first | ((first | refine atF (f := 37) ?_ | refine atQ (f := 37) ?_); (first | refine cV (hfit := .cons (.refl _) .nil) (hac := hnm.h) (hK := ?_) | refine cQV (hfit := .cons (.refl _) .nil) (hac := hnm.h) (hK := ?_)))); simp (maxSteps := 1000000) (dsimp := false) (implicitDefEqProofs := false) (disch := omega) only [wrap64, go_sem]) | apply_assumption -exfalso -symm)
    all_goals (first | (show endQ _ _ _ _ _ _ _; (repeat (rename (∀ (A : Fr) (H : Hp), AWP _ _ _ _ A H → _) => hK; clear hK)); (repeat (rename (Fr → Hp → Prop) => K; clear K))) | (show Exists _; (repeat (rename (∀ (A : Fr) (H : Hp), AWP _ _ _ _ A H → _) => hK; clear hK)); (repeat (rename (Fr → Hp → Prop) => K; clear K))) | skip)
    all_goals first | exact end_retV rfl rfl
end Go.Proofs.YticbabpajligbaaDoor
end

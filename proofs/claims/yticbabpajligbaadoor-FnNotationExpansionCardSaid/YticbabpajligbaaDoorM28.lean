import Derived.Test.YticbabpajligbaaDoorM27
import Derived.Test.YticbabpajligbaaDoorM20
import Derived.Test.YticbabpajligbaaDoorM18
import Derived.Test.YticbabpajligbaaDoorM25
import Derived.Test.YticbabpajligbaaDoorM3
import Derived.Test.YticbabpajligbaaDoorM26
import Derived.Test.YticbabpajligbaaDoorM16
/- FormatWord, by the reference. -/
section
namespace Go.Proofs.YticbabpajligbaaDoor
open Go.Av
set_option linter.unusedSimpArgs false
set_option linter.unusedVariables false
attribute [local irreducible] AWP CallG Ob Br BrP Go.Av.Sub endQ AOps OpV AC thenA blkA opsVC opVC withA withArgs opsQ opQ CallQ withA2 withArgs2
open Go.Nt (jn jnS)
open Go.Wd (tks RL Tk)
theorem tk_len {w : List Int} : ∀ (ts : List (Int × Nat)) (a : Nat), Tk w a ts → a + ts.length ≤ w.length
  | [], a, h => by rw [show a = w.length from h]; exact Nat.le_refl _
  | (x, n) :: ts, a, ⟨h1, h2, h3, h4, h5⟩ => by
    have := tk_len ts _ h5
    rw [List.length_cons]; omega
theorem jnS_small {ws : List ByteArray} (h : ∀ j, (ws.getD j ByteArray.empty).size ≤ 12) : ∀ k, (jnS ⟨#[32]⟩ ws k).size ≤ 13 * k
  | 0 => Nat.zero_le _
  | k + 1 => by
    have h1 := jnS_small h k
    have h2 := h k
    have h3 : (⟨#[32]⟩ : ByteArray).size = 1 := rfl
    unfold jnS
    rw [ByteArray.size_append]
    split <;> (try rw [ByteArray.size_append]) <;> omega
end Go.Proofs.YticbabpajligbaaDoor
end
/- What is read is small. -/
section
namespace Go.Proofs.YticbabpajligbaaDoor
open Go.Av
set_option linter.unusedSimpArgs false
set_option linter.unusedVariables false
attribute [local irreducible] AWP CallG Ob Br BrP Go.Av.Sub endQ AOps OpV AC thenA blkA opsVC opVC withA withArgs opsQ opQ CallQ withA2 withArgs2
open Go.Nt (Nd nd0 kd li liF dig pInv pSuf pItem pSeq Pr Goes nmOk pItem_goes pSeq_goes)
/-- No node has many children. -/
def kB (l : List Nd) : Prop := ∀ x ∈ l, x.kids.length ≤ 2000
theorem kB_snoc {l : List Nd} {y : Nd} (h : kB l) (hy : y.kids.length ≤ 2000) : kB (l ++ [y]) := fun x hx => by
  rcases List.mem_append.1 hx with h1 | h1
  · exact h x h1
  · rw [List.mem_singleton] at h1; subst h1; exact hy
theorem kB_kd {l : List Nd} (h : kB l) (j : Nat) : (kd l j).length ≤ 2000 := by
  unfold kd
  by_cases hj : j < l.length
  · rw [List.getD_eq_getElem?_getD, List.getElem?_eq_getElem hj]; exact h _ (List.getElem_mem hj)
  · rw [List.getD_eq_getElem?_getD, List.getElem?_eq_none (by omega)]; exact Nat.zero_le _
def SKB (names s : ByteArray) (f : Nat) : Prop := ∀ p l ks0 q l' ks, p ≤ s.size → 2 * (s.size - p) + 2 ≤ f → pSeq names s f p l ks0 = .ok q l' ks → kB l → kB l'
theorem un_kb {names s : ByteArray} (hn : nmOk names) (hs : s.size ≤ 400) {f : Nat} (hS : SKB names s f) {p q : Nat} {l l' : List Nd} {x : Nd} (hp : p ≤ s.size) (hf : 2 * (s.size - p) ≤ f) (e : pUn names s f p l = .ok q l' x) (hl : kB l) : kB l' ∧ x.kids.length ≤ 2000 := by
  have hb := (bt_in s p).1
  unfold pUn at e
  split at e
  · cases e
    exact ⟨hl, Nat.zero_le _⟩
  · split at e
    · rename_i h40
      cases e1 : pSeq names s f (p + 1) l [] with
      | out => rw [e1] at e; cases e
      | bad w => rw [e1] at e; cases e
      | ok q1 l1 a =>
        rw [e1] at e
        dsimp only at e
        have h1 := sq_g hn (by omega) (by omega) e1
        have h2 := sq_ks0 hn (by omega) (by omega) e1
        have h3 := hS _ _ _ _ _ _ (by omega) (by omega) e1 hl
        split at e
        · cases e; exact ⟨h3, by dsimp only; omega⟩
        · cases e
    · split at e
      · rename_i h91
        unfold pBu at e
        cases e1 : pSeq names s f (p + 1) l [] with
        | out => rw [e1] at e; cases e
        | bad w => rw [e1] at e; cases e
        | ok q1 l1 a =>
          rw [e1] at e
          dsimp only at e
          have h1 := sq_g hn (by omega) (by omega) e1
          have h2 := sq_ks0 hn (by omega) (by omega) e1
          have h3 := hS _ _ _ _ _ _ (by omega) (by omega) e1 hl
          have hb := (bt_in s q1).1
          split at e
          · rename_i h58
            cases e2 : pSeq names s f (q1 + 1) l1 [] with
            | out => rw [e2] at e; cases e
            | bad w => rw [e2] at e; cases e
            | ok q2 l2 b =>
              rw [e2] at e
              dsimp only at e
              have h4 := sq_g hn (by omega) (by omega) e2
              have h5 := sq_ks0 hn (by omega) (by omega) e2
              have h6 := hS _ _ _ _ _ _ (by omega) (by omega) e2 h3
              split at e
              · cases e
                exact ⟨h6, by simp only [List.length_append]; omega⟩
              · cases e
          · cases e
      · cases e
theorem it_kb {names s : ByteArray} (hn : nmOk names) (hs : s.size ≤ 400) {f : Nat} (hS : SKB names s f) {p q : Nat} {l l' : List Nd} {u : Unit} (hp : p ≤ s.size) (hf : 2 * (s.size - p) ≤ f) (e : pItem names s (f + 1) p l = .ok q l' u) (hl : kB l) : kB l' := by
  rw [pIt_un] at e
  cases e1 : pUn names s f p l with
  | out => rw [e1] at e; cases e
  | bad w => rw [e1] at e; cases e
  | ok q1 l1 x =>
    rw [e1] at e
    dsimp only at e
    have h1 := un_kb hn hs hS hp hf e1 hl
    have h2 := un_g hn hp hf e1
    rcases Go.Nt.pSuf_ok (s := s) (p := q1) (l := l1) (x := x) (by omega) with ⟨w, a, _⟩ | ⟨q3, y, a, _, _, hy⟩
    · rw [a] at e; cases e
    · rw [a] at e; cases e
      exact kB_snoc h1.1 (by rw [hy]; exact h1.2)
theorem sq_kb {names s : ByteArray} (hn : nmOk names) (hs : s.size ≤ 400) : ∀ f, SKB names s f := by
  intro f
  induction f using Nat.strongRecOn with
  | _ f ih =>
    intro p l ks0 q l' ks hp hf e hl
    obtain ⟨g, rfl⟩ : ∃ g, f = g + 2 := ⟨f - 2, by omega⟩
    rw [pSeq_succ] at e
    cases e1 : pItem names s (g + 1) p l with
    | out => rw [e1] at e; cases e
    | bad w => rw [e1] at e; cases e
    | ok q1 l1 u =>
      rw [e1] at e
      dsimp only at e
      have h1 := it_kb hn hs (ih g (by omega)) hp (by omega) e1 hl
      have h2 := it_g hn hp (by omega) e1
      have hb := (bt_in s q1).1
      split at e
      · exact ih (g + 1) (by omega) _ _ _ _ _ _ (by omega) (by omega) e h1
      · cases e; exact h1
theorem parP_small (names s : ByteArray) : (parP names s).1.length ≤ 1048576 ∧ kB (parP names s).1 := by
  have k0 : kB [] := fun x hx => by cases hx
  unfold parP
  split
  · exact ⟨Nat.zero_le _, k0⟩
  · rename_i hc
    have hN : nmP names := Classical.byContradiction fun h => hc (.inl h)
    have h4 : s.size ≤ 400 := Nat.le_of_not_lt fun h => hc (.inr h)
    split
    · exact ⟨by simp only [List.length_singleton]; omega, kB_snoc k0 (Nat.zero_le _)⟩
    · cases e : pSeq names s (2 * s.size + 2) 0 [] [] with
      | out => exact ⟨Nat.zero_le _, k0⟩
      | bad w => exact ⟨Nat.zero_le _, k0⟩
      | ok q l ks =>
        dsimp only
        have h1 := sq_g (nm_ok hN) (by omega) (by omega) e
        have h2 := sq_ks0 (nm_ok hN) (by omega) (by omega) e
        have h3 := sq_kb (nm_ok hN) h4 _ _ _ _ _ _ _ (by omega) (by omega) e k0
        split
        · exact ⟨Nat.zero_le _, k0⟩
        · split
          · exact ⟨Nat.zero_le _, k0⟩
          · exact ⟨by rw [List.length_append, List.length_singleton]; omega, kB_snoc h3 (by dsimp only; simp only [List.length_nil] at h1 h2; omega)⟩
/-- A call that hands back a row of nodes beside a number. -/
theorem callPp {P : Program} {N : Cx} {A : Fr} {H : Hp} {f : FuncId} {args : List AV} {xs : List Nd} {c : Int} {K : AV → Fr → Hp → Prop} (_hfree : H 1000000 = none) (hac : AC P f args Hp.emp (fun _ => false) (postP xs c)) (hx : xs.length ≤ 1048576) (hpn : N.pn = fun _ => false)
    (hK : K (.tup 2 (vecF [.own 1000000 0 6 xs.length, .v (.int .i64 (c))])) (A.scrub pM) ((NR xs xs.length xs.length).add (H.scrub pM))) : CallG P N f args A H K := by
  refine callHp hac hpn ?_
  rintro r H' ⟨rfl, rfl⟩
  have hl : ∀ i, i < xs.length → liveB (NR xs xs.length xs.length) (sub 1000000 i) = true := fun i hi => by simp [liveB, NR_sub hi hx]
  refine ⟨fun h hn => NR_high hn, ?_, NR_scrub (fun i hi => by simp [hl i hi]), hK⟩
  rw [scrub_tup, scF_vecF]
  simp only [List.map_cons, List.map_nil, scrub_v, scrub_own, liveB, NR_self, Option.isSome_some, Bool.not_true, Bool.false_eq_true, if_false]
end Go.Proofs.YticbabpajligbaaDoor
end
/- Cycles and orders of permutations, both texts. -/
section
namespace Go.Proofs.YticbabpajligbaaDoor
open Go.Av
set_option linter.unusedSimpArgs false
set_option linter.unusedVariables false
attribute [local irreducible] AWP CallG Ob Br BrP Go.Av.Sub endQ AOps OpV AC thenA blkA opsVC opVC withA withArgs opsQ opQ CallQ withA2 withArgs2
open Go.Pm (Pm comp invp idn img itr clen cyc isMn cycs lcmL ord)
end Go.Proofs.YticbabpajligbaaDoor
end
section
namespace Go.Proofs.YticbabpajligbaaDoor
open Go.Av
set_option linter.unusedSimpArgs false
set_option linter.unusedVariables false
attribute [local irreducible] AWP CallG Ob Br BrP Go.Av.Sub endQ AOps OpV AC thenA blkA opsVC opVC withA withArgs opsQ opQ CallQ withA2 withArgs2
open Go.Pm (Pm comp invp idn img)

theorem isSt.pm {p : Pz} {s : List Int} (h : isSt p s) : Pm p.n.toNat s := by
  have h1 := ((isPerm_pm s).1 h.2.2).2
  rwa [show s.length = p.n.toNat by have := h.2.1; omega] at h1
end Go.Proofs.YticbabpajligbaaDoor
end
/- The reference's sources: permutations and generators that are drawn. -/
section
namespace Go.Proofs.YticbabpajligbaaDoor
open Go.Av
set_option linter.unusedSimpArgs false
set_option linter.unusedVariables false
attribute [local irreducible] AWP CallG Ob Br BrP Go.Av.Sub endQ AOps OpV AC thenA blkA opsVC opVC withA withArgs opsQ opQ CallQ withA2 withArgs2
end Go.Proofs.YticbabpajligbaaDoor
end
/- The reference's sources: numbers, permutations and groups that are drawn. -/
section
namespace Go.Proofs.YticbabpajligbaaDoor
open Go.Av
set_option linter.unusedSimpArgs false
set_option linter.unusedVariables false
attribute [local irreducible] AWP CallG Ob Br BrP Go.Av.Sub endQ AOps OpV AC thenA blkA opsVC opVC withA withArgs opsQ opQ CallQ withA2 withArgs2
end Go.Proofs.YticbabpajligbaaDoor
end
/- The program's cycles and orders. -/
section
namespace Go.Proofs.YticbabpajligbaaDoor
open Go.Av
set_option linter.unusedSimpArgs false
set_option linter.unusedVariables false
attribute [local irreducible] AWP CallG Ob Br BrP Go.Av.Sub endQ AOps OpV AC thenA blkA opsVC opVC withA withArgs opsQ opQ CallQ withA2 withArgs2
open Go.Pm (Pm comp invp idn img itr clen cyc isMn cycs lcmL ord sn snK stK cycsK)
end Go.Proofs.YticbabpajligbaaDoor
end
/- Runs made short, both texts. -/
section
namespace Go.Proofs.YticbabpajligbaaDoor
open Go.Av
set_option linter.unusedSimpArgs false
set_option linter.unusedVariables false
attribute [local irreducible] AWP CallG Ob Br BrP Go.Av.Sub endQ AOps OpV AC thenA blkA opsVC opVC withA withArgs opsQ opQ CallQ withA2 withArgs2
open Go.Pm (Pm comp invp idn img ord)
open Go.Wd (sres lets sumS sgn absI shortR shortK short runs offs)
theorem sliceRepeatI_ok (u : List Int) (x : Int) (hu : u.length ≤ 65535) (hk : 0 ≤ x ∧ x ≤ 65535) (ht : x.toNat * u.length ≤ 1048576) (d : Nat) : AC Tryd.prog 102 [ints u, .v (.int .i64 (x))] Hp.emp (fun _ => false) (retI d (rep u x.toNat)) := by
  have := sliceRepeat_ok u x.toNat hu (by omega) ht d
  rwa [show ((x.toNat : Nat) : Int) = x by omega] at this
end Go.Proofs.YticbabpajligbaaDoor
end

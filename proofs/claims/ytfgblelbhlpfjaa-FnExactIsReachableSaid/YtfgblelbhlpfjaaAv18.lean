/- Ends, joined with equations; names of arguments turned; calls that write what they are handed. -/
import Derived.Test.YtfgblelbhlpfjaaAv17
namespace Go.Av
section
variable {P : Program} {N : Cx} {A : Fr} {H : Hp} {fn : Func}

theorem end_retV' {t : Tmp} {a a' : AV} (hr : fn.results.toList = [.tmp t]) (h : A.get t = some a') (e : a' = a) : endQ P N fn (retV a) .ret A H := by
  subst e; exact end_retV hr h
theorem end_retB {t : Tmp} {p : Prop} [Decidable p] {b : Bool} (hr : fn.results.toList = [.tmp t]) (h : A.get t = some (.v (.bool b))) (e : b = true ↔ p) : endQ P N fn (retV (.v (.bool (decide p)))) .ret A H := by
  refine end_retV' hr h ?_
  congr 2
  cases b <;> simp at e <;> simp [e]
theorem end_retN {t : Tmp} {x y : Int} (hr : fn.results.toList = [.tmp t]) (h : A.get t = some (.v (.int .i64 x))) (e : x = y) : endQ P N fn (retV (.v (.int .i64 y))) .ret A H := by
  subst e; exact end_retV hr h
theorem end_retI' {t : Tmp} {h d m : Nat} {xs ys : List Int} (hr : fn.results.toList = [.tmp t]) (hA : A.get t = some (.own h 0 1 m)) (hH : H h = some (.cells m (cM iv 0 ys))) (e : ys = xs) (hm : m = ys.length) (hpn : N.pn = fun _ => false) :
    endQ P N fn (retI d xs) .ret A H := by
  subst e; exact end_retI hr hA hH hm hpn

theorem end_retI_nil' {t : Tmp} {d : Nat} {xs : List Int} (hr : fn.results.toList = [.tmp t]) (hA : A.get t = some (.v (.slice none 0 0))) (e : [] = xs) (hpn : N.pn = fun _ => false) : endQ P N fn (retI d xs) .ret A H := by
  subst e; exact end_retI_nil hr hA hpn
theorem end_retIB' {t u : Tmp} {h d m : Nat} {b : Bool} {xs : List Int} {p : List Int × Bool} (hr : fn.results.toList = [.tmp t, .tmp u]) (hA : A.get t = some (.own h 0 1 m)) (hB : A.get u = some (.v (.bool b))) (hH : H h = some (.cells m (cM iv 0 xs))) (e : p = (xs, b)) (htu : t ≠ u) (hm : m = xs.length) (hpn : N.pn = fun _ => false) :
    endQ P N fn (retIB d p.1 p.2) .ret A H := by
  subst e; exact end_retIB hr htu hA hB hH hm hpn
theorem end_retIB_nil' {t u : Tmp} {d : Nat} {b : Bool} {p : List Int × Bool} (hr : fn.results.toList = [.tmp t, .tmp u]) (hA : A.get t = some (.v (.slice none 0 0))) (hB : A.get u = some (.v (.bool b))) (e : p = ([], b)) (htu : t ≠ u) (hpn : N.pn = fun _ => false) :
    endQ P N fn (retIB d p.1 p.2) .ret A H := by
  subst e; exact end_retIB_nil hr htu hA hB hpn
theorem Sub.toE {A' : Fr} {H' : Hp} (hA : Fr.sub A A') (hH : H' = H) : Sub N A H A' H' := by subst hH; exact Sub.fr hA

theorem Hp.le_upd {H' H : Hp} {h : Nat} {b : Blk} (k : H h = some b) (r : Hp.le H' H) : Hp.le (H'.upd h b) H := by
  intro g B hB
  simp only [Hp.upd] at hB
  split at hB
  · rename_i e; subst e; simp only [Option.some.injEq] at hB; subst hB; exact k
  · exact r g B hB
theorem Sub.toL {A' : Fr} {H' : Hp} (hA : Fr.sub A A') (hH : Hp.le H' H) : Sub N A H A' H' := Sub.to hA hH
theorem cellsE {α : Type} {g : α → AV} {d : α} {n m : Nat} {xs ys : List α} (h : n = m) (k : xs = ys) : some (Blk.cells n (cM g d xs)) = some (Blk.cells m (cM g d ys)) := by rw [h, k]

/-- Forget, and freeze what is not said of the heap. -/
theorem Sub.toF {A' : Fr} {H' : Hp} (hA : Fr.fit H (fun h => H' h = none) A A') (hH : Hp.le H' H) : Sub N A H A' H' :=
  Sub.fits (fun h => H' h = none) (Fr.fit_get A' A hA) fun h B hB => ⟨by simp [hB], B, hH h B hB, BFits.refl _ _ _⟩
theorem Fits.ofEq {D : Nat → Prop} {a c : AV} (h : a = c) : Fits H D a c := h ▸ .refl a
theorem fits_I' {D : Nat → Prop} {h off n m : Nat} {xs : List Int} (hH : H h = some (.cells n (cM iv 0 xs))) (hD : D h) (ho : off = 0) (hn : n = xs.length) (hm : m = n) : Fits H D (.own h off 1 m) (.list false 1 xs.length (cM iv 0 xs)) := by
  subst hm; exact fits_I hH hD ho hn
theorem fits_P {D : Nat → Prop} {h off M n : Nat} {xs : List Int} (hH : H h = some (.cells M (cM iv 0 xs))) (hD : D h) (ho : off = 0) (hn : n ≤ M) : Fits H D (.ref h off) (.ptr n (cM iv 0 xs)) := by
  subst ho
  refine .ref hH hD (by omega) (fun _ _ => trivial) (fun i _ => ?_)
  simp only [Nat.zero_add]; exact .refl _
theorem Fr.fit_nil (D : Nat → Prop) : Fr.fit H D A [] := trivial
theorem Fr.fit_cons {D : Nat → Prop} {i : Nat} {c a : AV} {r : Fr} (h : A.get i = some a) (hf : Fits H D a c) (hr : Fr.fit H D A r) : Fr.fit H D A ((i, c) :: r) := ⟨⟨a, h, hf⟩, hr⟩

theorem awp_weak {c : Code} {Q Q' : Exit → Fr → Hp → Prop} (h : AWP P N c Q' A H) (hq : ∀ e A H, Q' e A H → ∃ A' H', Sub N A H A' H' ∧ Q e A' H') : AWP P N c Q A H := by
  intro w0 S hS w a L s hd
  refine wp_mono (h w0 S hS w a L s hd) ?_
  rintro e a w ⟨L, A, H, s, hd, h1⟩
  obtain ⟨A', H', h2, h3⟩ := hq e A H h1
  obtain ⟨L', s'⟩ := h2 w0 S hS w _ L s
  exact ⟨L', A', H', s', hd, h3⟩

/-- Where the branches of a test meet again. -/
theorem awp_join (t : Tmp) {ι : Type} (F : ι → Fr) (G : ι → Hp) (V : ι → Prop) {r a b y : Code} {Q : Exit → Fr → Hp → Prop} (h1 : AWP P N (.seq r (.cond (.tmp t) a b)) (thenA (fun A H => ∃ i, V i ∧ Sub N A H (F i) (G i)) Q) A H)
    (h2 : ∀ i, V i → AWP P N y Q (F i) (G i)) : AWP P N (.seq (.seq r (.cond (.tmp t) a b)) y) Q A H := by
  refine awp_seq (awp_weak h1 ?_)
  intro e A H hq
  cases e with
  | normal =>
    obtain ⟨i, hv, hs⟩ := hq
    exact ⟨F i, G i, hs, h2 i hv⟩
  | _ => exact ⟨A, H, Sub.refl N A H, hq⟩

def Hp.ren (π : Nat → Nat) (H : Hp) : Hp := fun h => (H (π h)).map (Blk.ren π)

/-- A contract says the same with its names turned. -/
theorem AC.ren {f : FuncId} {args : List AV} {Hin : Hp} {pn : Nat → Bool} {post post' : AV → Hp → Prop} (π : Nat → Nat) (hπ : ∀ h, π (π h) = h) (hac : AC P f args Hin pn post)
    {args' : List AV} {Hin' : Hp} {pn' : Nat → Bool} (ha : args' = args.map (AV.ren π)) (hh : Hin' = Hin.ren π) (hp : ∀ h, pn' h = pn (π h)) (hpost : ∀ r H', post r H' → post' (r.ren π) (H'.ren π)) :
    AC P f args' Hin' pn' post' := by
  subst ha hh
  have rr : ∀ a : AV, (a.ren π).ren π = a := by
    intro a
    induction a with
    | own h off sz n => simp [AV.ren, hπ]
    | ref h off => simp [AV.ren, hπ]
    | map h => simp [AV.ren, hπ]
    | agg n f ih => simp only [AV.ren]; congr 1; funext i; exact ih i
    | tup n f ih => simp only [AV.ren]; congr 1; funext i; exact ih i
    | clo g n f ih => simp only [AV.ren]; congr 1; funext i; exact ih i
    | _ => rfl
  have bb : ∀ B : Blk, (B.ren π).ren π = B := by
    intro B
    cases B with
    | cells n f => simp only [Blk.ren]; congr 1; funext i; exact rr _
    | mp kv => simp [Blk.ren, rr, Function.comp_def]
  have live : ∀ (G : Hp) h, (G.ren π) h ≠ none ↔ G (π h) ≠ none := by
    intro G h; simp only [Hp.ren]; cases G (π h) <;> simp
  have hok : ∀ (S S' : Rg) (G : Hp) (L : Loc), S'.ok = S.ok → ∀ b, okb S (G.ren π) L b ↔ okb S' G (fun h => L (π h)) b := by
    intro S S' G L hS b
    simp only [okb, hS]
    refine and_congr Iff.rfl ⟨fun h g q hn hq => h (π g) q ((live G _).2 (by rwa [hπ])) hq, fun h g q hn hq => h (π g) q ((live G _).1 hn) (by rwa [hπ])⟩
  have blkOk : ∀ (w : World) (ok ok' : Nat → Prop) (L : Loc) (l : Option (Nat × Nat)) (B : Blk), (∀ b, ok b → ok' b) → BlkOk w w ok L l (B.ren π) → BlkOk w w ok' (fun h => L (π h)) l B := by
    intro w ok ok' L l B hk h
    cases B with
    | cells n f =>
      cases l with
      | none => exact h
      | some q => obtain ⟨cs, e, k1, k2, k3⟩ := h; exact ⟨cs, e, k1, k2, fun i hi => let ⟨c, k4, k5⟩ := k3 i hi; ⟨c, k4, Rd.mono (fun b _ => hk b) (Rd.ren π _ _ k5)⟩⟩
    | mp kv =>
      cases l with
      | none => exact h
      | some q =>
        obtain ⟨es, c, k1, k2, k3⟩ := h
        refine ⟨es, c, k1, by simpa using k2, fun i e he => ?_⟩
        obtain ⟨a, k4, k5⟩ := k3 i e he
        simp only [List.getElem?_map] at k4
        cases hk' : kv[i]? with
        | none => simp [hk'] at k4
        | some x =>
          simp only [hk', Option.map_some, Option.some.injEq, Prod.mk.injEq] at k4
          obtain ⟨k6, k7⟩ := k4
          subst k7
          exact ⟨x.2, by simp [← k6], Rd.mono (fun b _ hb => hk b hb) (Rd.ren π _ _ k5)⟩
  refine ⟨hac.1, fun S w L vs hS hpin s hargs => ?_⟩
  let S' : Rg := ⟨S.wr, S.ok, S.sub, fun h => S.pin (π h)⟩
  have s' : Sim 0 w S' w #[] (fun h => L (π h)) [] Hin := by
    refine ⟨s.keep, rfl, fun i a h => by simp [Fr.get] at h, fun h B hB => ?_, fun h q hn hq => s.own (π h) q ((live _ _).2 (by rwa [hπ])) hq, fun h g q r hn hm hq hr e => ?_, fun h l hl => s.pin (π h) l hl⟩
    · have := s.blk (π h) (B.ren π) (by simp [Hp.ren, hπ, hB])
      exact blkOk w _ _ L _ B (fun b hb => (hok S S' Hin L rfl b).1 hb) this
    · have := s.inj (π h) (π g) q r ((live _ _).2 (by rwa [hπ])) ((live _ _).2 (by rwa [hπ])) hq hr e
      have := congrArg π this
      simpa [hπ] using this
  refine (hac.2 S' w (fun h => L (π h)) vs hS (fun h hh => hpin (π h) (by rw [hp, hπ]; exact hh)) s' ⟨by simpa using hargs.1, fun i a hi => ?_⟩).mono ?_
  · obtain ⟨u, k1, k2⟩ := hargs.2 i (a.ren π) (by simp [hi])
    exact ⟨u, k1, Rd.mono (fun b _ hb => (hok S S' Hin L rfl b).1 hb) (Rd.ren π _ _ k2)⟩
  · rintro e w' ⟨u, L', r, H', rfl, s2, hr, hq⟩
    have hL : ∀ h, L' h = (fun h => L' (π h)) (π h) := fun h => by simp [hπ]
    have hLf : L' = fun h => (fun h => L' (π h)) (π h) := funext hL
    have ok2 : ∀ b, okb S' H' L' b → okb S (H'.ren π) (fun h => L' (π h)) b := fun b hb => (hok S S' H' (fun h => L' (π h)) rfl b).2 (by rw [← hLf]; exact hb)
    refine ⟨u, fun h => L' (π h), r.ren π, H'.ren π, rfl, ?_, ?_, hpost r H' hq⟩
    · refine ⟨s2.keep, rfl, fun i a h => by simp [Fr.get] at h, fun h B hB => ?_, fun h q hn hq => s2.own (π h) q ((live _ _).1 hn) hq, fun h g q r hn hm hq hr e => ?_, fun h l hl => s2.pin (π h) l (by simp [S', hπ, hl])⟩
      · simp only [Hp.ren] at hB
        cases hB0 : H' (π h) with
        | none => simp [hB0] at hB
        | some B0 =>
          simp only [hB0, Option.map_some, Option.some.injEq] at hB
          subst hB
          have := s2.blk (π h) B0 hB0
          refine blkOk w' _ _ (fun h => L' h) _ (B0.ren π) ok2 ?_
          rw [bb]; exact this
      · have := s2.inj (π h) (π g) q r ((live _ _).1 hn) ((live _ _).1 hm) hq hr e
        have := congrArg π this
        simpa [hπ] using this
    · have := Rd.ren (L := L') π (r.ren π) u (by rw [rr]; exact hr)
      exact Rd.mono (fun b _ hb => ok2 b hb) this

def swp (a b h : Nat) : Nat := if h = a then b else if h = b then a else h
theorem swp_swp (a b h : Nat) : swp a b (swp a b h) = h := by
  simp only [swp]
  by_cases h1 : h = a <;> by_cases h2 : h = b <;> simp [h1, h2]

/-- A call that writes the row h that it is handed, and hands back a plain value. -/
def postM (h : Nat) (a : AV) (B : Blk) : AV → Hp → Prop := fun r H => r = a ∧ H = Hp.emp.upd h B

/-- .. under any name, if it is so under a far one. -/
theorem AC.any {f : FuncId} {h0 n : Nat} {rest : List AV} {B B' : Blk} {a : AV} (hac : AC P f (.own h0 0 1 n :: rest) (Hp.emp.upd h0 B) (· == h0) (postM h0 a B')) (h : Nat) (hr : ∀ ρ, rest.map (AV.ren ρ) = rest) (hB : ∀ ρ, B.ren ρ = B) (hB' : ∀ ρ, B'.ren ρ = B') (ha : ∀ ρ, a.ren ρ = a) :
    AC P f (.own h 0 1 n :: rest) (Hp.emp.upd h B) (· == h) (postM h a B') := by
  have up : ∀ B : Blk, (∀ ρ, B.ren ρ = B) → (Hp.emp.upd h0 B).ren (swp h0 h) = Hp.emp.upd h B := by
    intro B hB
    funext g
    simp only [Hp.ren, Hp.upd, Hp.emp, swp]
    by_cases h1 : g = h0 <;> by_cases h2 : g = h <;> simp [h1, h2, hB]
    all_goals (try subst h1); (try subst h2)
    all_goals (split <;> simp_all)
  refine AC.ren (swp h0 h) (swp_swp h0 h) hac ?_ (up B hB).symm ?_ ?_
  · simp only [List.map_cons, hr, AV.ren, swp, if_true]
  · intro g
    simp only [swp]
    by_cases h1 : g = h0
    · subst h1
      rw [if_pos rfl]
      by_cases h2 : g = h
      · subst h2; rfl
      · rw [beq_eq_false_iff_ne.2 h2, beq_eq_false_iff_ne.2 (Ne.symm h2)]
    · rw [if_neg h1]
      by_cases h2 : g = h
      · subst h2; simp
      · rw [if_neg h2, beq_eq_false_iff_ne.2 h2, beq_eq_false_iff_ne.2 h1]
  · rintro r H' ⟨rfl, rfl⟩
    exact ⟨ha _, up B' hB'⟩

theorem call_M {f : FuncId} {args : List AV} {h : Nat} {B B' : Blk} {a : AV} {K : AV → Fr → Hp → Prop} (hac : AC P f args (Hp.emp.upd h B) (· == h) (postM h a B')) (hH : H h = some B) (ha : ∀ p, a.scrub p = a) (hB' : ∀ p, B'.scrub p = B')
    (hK : K a A (H.upd h B')) : CallG P N f args A H K := by
  refine callG_of hac (fun _ => false) false ?_ ?_ (by simp) ?_ (by simp) ?_
  · intro g C hC; obtain ⟨rfl, rfl⟩ := upd_some hC; exact hH
  · exact FitsL.refl _
  · intro g hg _
    cases e : (Hp.emp.upd h B) g with
    | none => exact absurd e hg
    | some C => simp [(upd_some e).1]
  · rintro r H' ⟨rfl, rfl⟩
    refine ⟨fun g hn he => ?_, by simp, ?_⟩
    · cases e : (Hp.emp.upd h B') g with
      | none => exact absurd e hn
      | some C => obtain ⟨rfl, _⟩ := upd_some e; simp [Hp.upd] at he
    · rw [ha, Fr.scrub_none, Hp.scrub_none]
      have : Hp.over ((Hp.emp.upd h B').scrub fun g => !liveB (Hp.emp.upd h B') g) H (Hp.emp.upd h B) = H.upd h B' := by
        funext g
        simp only [Hp.over, Hp.scrub, Hp.upd, Hp.emp]
        by_cases hg : g = h <;> simp [hg, hB']
      rw [this]; exact hK

theorem end_M {t : Tmp} {h : Nat} {a a' : AV} {B : Blk} (hr : fn.results.toList = [.tmp t]) (hA : A.get t = some a') (hH : H h = some B) (e : a' = a) : endQ P N fn (postM h a B) .ret A H := by
  subst e
  refine ⟨A, Hp.emp.upd h B, Sub.mk (fun _ _ h => h) (fun g C hC => ?_), by rw [hr]; simp only [resVC, hA]; exact ⟨rfl, rfl⟩⟩
  obtain ⟨rfl, rfl⟩ := upd_some hC
  exact hH

/- calls, the fitting of the arguments first -/
theorem callV {f : FuncId} {args args' : List AV} {a : AV} {pn : Nat → Bool} {K : AV → Fr → Hp → Prop} (hfit : FitsL H (fun _ => True) args args') (hac : AC P f args' Hp.emp pn (retV a)) (ha : a.solid) (hpl : a.scrub (fun _ => true) = a)
    (hK : K a A H) : CallG P N f args A H K := call_V hac ha hpl hfit hK
theorem callI {f : FuncId} {args args' : List AV} {d : Nat} {xs : List Int} {pn : Nat → Bool} {K : AV → Fr → Hp → Prop} (hfit : FitsL H (fun _ => True) args args') (hac : AC P f args' Hp.emp pn (retI d xs)) (hd : N.pn d = false)
    (hK : K (.own d 0 1 xs.length) (A.scrub (· == d)) ((H.scrub (· == d)).upd d (.cells xs.length (cM iv 0 xs)))) : CallG P N f args A H K := call_I hac hd hfit hK
theorem callIB {f : FuncId} {args args' : List AV} {d : Nat} {b : Bool} {xs : List Int} {pn : Nat → Bool} {K : AV → Fr → Hp → Prop} (hfit : FitsL H (fun _ => True) args args') (hac : AC P f args' Hp.emp pn (retIB d xs b)) (hd : N.pn d = false)
    (hK : K (.tup 2 (vecF [.own d 0 1 xs.length, .v (.bool b)])) (A.scrub (· == d)) ((H.scrub (· == d)).upd d (.cells xs.length (cM iv 0 xs)))) : CallG P N f args A H K := call_IB hac hd hfit hK
theorem callM {f : FuncId} {args : List AV} {h : Nat} {B B' : Blk} {a : AV} {K : AV → Fr → Hp → Prop} (hH : H h = some B) (hac : AC P f args (Hp.emp.upd h B) (· == h) (postM h a B')) (ha : ∀ p, a.scrub p = a) (hB' : ∀ p, B'.scrub p = B')
    (hK : K a A (H.upd h B')) : CallG P N f args A H K := call_M hac hH ha hB' hK
theorem callQV {f : FuncId} {args args' : List AV} {x : Value} {pn : Nat → Bool} {K : AV → Prop} (hfit : FitsL H (fun _ => True) args args') (hac : AC P f args' Hp.emp pn (retV (.v x))) (hK : K (.v x)) : CallQ P f args H K :=
  callQ hac hfit hK

/-- Only the slots of a set (a number's bits). -/
def Fr.keep (m : Nat) : Fr → Fr
  | [] => []
  | (i, a) :: r => if m / 2 ^ i % 2 = 1 then (i, a) :: Fr.keep m r else Fr.keep m r
theorem Fr.keep_get (m : Nat) : ∀ (A : Fr) (i : Nat) (a : AV), (Fr.keep m A).get i = some a → A.get i = some a
  | [], i, a, h => by simp [Fr.keep, Fr.get] at h
  | (k, b) :: r, i, a, h => by
    have sub : ∀ (A : Fr) (i : Nat) (a : AV), (Fr.keep m A).get i = some a → m / 2 ^ i % 2 = 1 := by
      intro A
      induction A with
      | nil => intro i a h; simp [Fr.keep, Fr.get] at h
      | cons x r ih =>
        intro i a h
        obtain ⟨k, b⟩ := x
        simp only [Fr.keep] at h
        split at h
        · rename_i hk
          simp only [Fr.get] at h
          split at h
          · rename_i e; subst e; exact hk
          · exact ih i a h
        · exact ih i a h
    have hm := sub _ i a h
    simp only [Fr.keep] at h
    simp only [Fr.get]
    split at h
    · simp only [Fr.get] at h
      split
      · rename_i e; rw [if_pos e] at h; exact h
      · rename_i e; rw [if_neg e] at h; exact Fr.keep_get m r i a h
    · rename_i hk
      split
      · rename_i e; subst e; exact absurd hm hk
      · exact Fr.keep_get m r i a h

def keepQ (ks : Nat) (Q : Exit → Fr → Hp → Prop) : Exit → Fr → Hp → Prop := fun e A H => Q e (Fr.keep ks A) H
theorem keepQ_app (ks : Nat) (Q : Exit → Fr → Hp → Prop) (e : Exit) (A : Fr) (H : Hp) : keepQ ks Q e A H = Q e (Fr.keep ks A) H := rfl
theorem keepQ_weak {ks : Nat} {Q : Exit → Fr → Hp → Prop} : ∀ e A H, keepQ ks Q e A H → ∃ A' H', Sub N A H A' H' ∧ Q e A' H' :=
  fun _ A H h => ⟨Fr.keep ks A, H, Sub.mk (Fr.keep_get ks A) (fun _ _ h => h), h⟩

/-- The rules for regions, the frame cut to the slots that live on. -/
theorem awp_regionK (ks : Nat) {id : Nat} {l : List Oper} {Q : Exit → Fr → Hp → Prop} (hN : dstsOk N l = true) (h : opsVC P N (l.map (·.dst)) (keepQ ks Q .normal) l A H) : AWP P N (.region id l.toArray false) Q A H :=
  awp_weak (awp_region' hN h) keepQ_weak
theorem awp_regionQK (ks : Nat) {id : Nat} {l : List Oper} {Q : Exit → Fr → Hp → Prop} (hm : P.follows .mixedOrders = true) (hB : anyOk l.toArray = true) (hN : dstsOk N l = true)
    (h : opsQ P N (l.map (·.dst)) (fun A => keepQ ks Q .normal A H) l A H) : AWP P N (.region id l.toArray true) Q A H :=
  awp_weak (awp_regionQ (Q := keepQ ks Q) hm hB hN h) keepQ_weak

end
/- The order in which a region's proposition is worked out: what comes next is never looked into before its turn. -/
inductive Held {α : Type} (K : α → Prop) : Type
  | mk
inductive Held3 (K : AV → Fr → Hp → Prop) : Type
  | mk
def withA2 (a : Option AV) (K : AV → Prop) (_ : Held K) : Prop := withA a K
def withArgs2 (a : Option (List AV)) (K : List AV → Prop) (_ : Held K) : Prop := withArgs a K
def CallG2 (P : Program) (N : Cx) (f : FuncId) (args : List AV) (A : Fr) (H : Hp) (K : AV → Fr → Hp → Prop) (_ : Held3 K) : Prop := CallG P N f args A H K
def CallQ2 (P : Program) (f : FuncId) (args : List AV) (H : Hp) (K : AV → Prop) (_ : Held K) : Prop := CallQ P f args H K
theorem withA_hold (a : Option AV) (K : AV → Prop) : withA a K = withA2 a K .mk := rfl
theorem withArgs_hold (a : Option (List AV)) (K : List AV → Prop) : withArgs a K = withArgs2 a K .mk := rfl
theorem CallG_hold (P : Program) (N : Cx) (f : FuncId) (args : List AV) (A : Fr) (H : Hp) (K : AV → Fr → Hp → Prop) : CallG P N f args A H K = CallG2 P N f args A H K .mk := rfl
theorem CallQ_hold (P : Program) (f : FuncId) (args : List AV) (H : Hp) (K : AV → Prop) : CallQ P f args H K = CallQ2 P f args H K .mk := rfl
theorem withA2_some (a : AV) (K : AV → Prop) (h : Held K) : withA2 (some a) K h = K a := rfl
theorem withArgs2_some (a : List AV) (K : List AV → Prop) (h : Held K) : withArgs2 (some a) K h = K a := rfl
theorem calleeOf_clo0 (f : FuncId) (g : Nat → AV) : calleeOf (some (.clo f 0 g)) = some (f, []) := rfl
theorem calleeOf_clo1 (f : FuncId) (g : Nat → AV) : calleeOf (some (.clo f 1 g)) = some (f, [g 0]) := rfl
theorem calleeOf_clo2 (f : FuncId) (g : Nat → AV) : calleeOf (some (.clo f 2 g)) = some (f, [g 0, g 1]) := rfl
theorem calleeOf_clo3 (f : FuncId) (g : Nat → AV) : calleeOf (some (.clo f 3 g)) = some (f, [g 0, g 1, g 2]) := rfl
theorem calleeOf_func (f : FuncId) : calleeOf (some (.v (.func (.func f) #[] #[]))) = some (f, []) := rfl
section
variable (P : Program) (N : Cx) (ds : List (Option Tmp)) (Q : Fr → Hp → Prop) (R : Fr → Prop) (d : Tmp) (op : Op) (ty : TypeId) (pos : String) (aft : Array Edge) (rest : List Oper) (A : Fr) (H : Hp)
theorem opsVC_nil : opsVC P N ds Q [] A H = Q A H := rfl
theorem opsVC_some : opsVC P N ds Q (⟨some d, op, ty, pos, aft, none⟩ :: rest) A H = opVC P N d op A H fun r A H => opsVC P N ds Q rest ((d, r) :: A) H := rfl
theorem opsVC_none : opsVC P N ds Q (⟨none, op, ty, pos, aft, none⟩ :: rest) A H = opVC P N 0 op A H fun _ A H => opsVC P N ds Q rest A H := rfl
theorem opsVC_gsome (j : Nat) (want : Bool) : opsVC P N ds Q (⟨some d, op, ty, pos, aft, some (j, want)⟩ :: rest) A H = (match ds.getD j none with
      | some t => withA (A.get t) fun g => match g with
        | .v (.bool b) =>
          Br b (if want then opVC P N d op ((t, .v (.bool true)) :: A) H fun r A H => opsVC P N ds Q rest ((d, r) :: A) H else opsVC P N ds Q rest ((d, .v (.tuple #[])) :: (t, .v (.bool true)) :: A) H)
               (if want then opsVC P N ds Q rest ((d, .v (.tuple #[])) :: (t, .v (.bool false)) :: A) H else opVC P N d op ((t, .v (.bool false)) :: A) H fun r A H => opsVC P N ds Q rest ((d, r) :: A) H)
        | .v (.tuple _) => opsVC P N ds Q rest ((d, .v (.tuple #[])) :: A) H
        | _ => False
      | none => False) := rfl
theorem opsVC_gnone (j : Nat) (want : Bool) : opsVC P N ds Q (⟨none, op, ty, pos, aft, some (j, want)⟩ :: rest) A H = (match ds.getD j none with
      | some t => withA (A.get t) fun g => match g with
        | .v (.bool b) =>
          Br b (if want then opVC P N 0 op ((t, .v (.bool true)) :: A) H fun _ A H => opsVC P N ds Q rest A H else opsVC P N ds Q rest ((t, .v (.bool true)) :: A) H)
               (if want then opsVC P N ds Q rest ((t, .v (.bool false)) :: A) H else opVC P N 0 op ((t, .v (.bool false)) :: A) H fun _ A H => opsVC P N ds Q rest A H)
        | .v (.tuple _) => opsVC P N ds Q rest A H
        | _ => False
      | none => False) := rfl
theorem opsQ_nil : opsQ P N ds R [] A H = R A := rfl
theorem opsQ_some : opsQ P N ds R (⟨some d, op, ty, pos, aft, none⟩ :: rest) A H = opQ P N d op A H fun r => opsQ P N ds R rest ((d, r) :: A) H := rfl
theorem opsQ_none : opsQ P N ds R (⟨none, op, ty, pos, aft, none⟩ :: rest) A H = opQ P N 0 op A H fun _ => opsQ P N ds R rest A H := rfl
theorem opsQ_gsome (j : Nat) (want : Bool) : opsQ P N ds R (⟨some d, op, ty, pos, aft, some (j, want)⟩ :: rest) A H = (match ds.getD j none with
      | some t => withA (A.get t) fun g => match g with
        | .v (.bool b) =>
          Br b (if want then opQ P N d op ((t, .v (.bool true)) :: A) H fun r => opsQ P N ds R rest ((d, r) :: (t, .v (.bool true)) :: A) H else opsQ P N ds R rest ((d, .v (.tuple #[])) :: (t, .v (.bool true)) :: A) H)
               (if want then opsQ P N ds R rest ((d, .v (.tuple #[])) :: (t, .v (.bool false)) :: A) H else opQ P N d op ((t, .v (.bool false)) :: A) H fun r => opsQ P N ds R rest ((d, r) :: (t, .v (.bool false)) :: A) H)
        | .v (.tuple _) => opsQ P N ds R rest ((d, .v (.tuple #[])) :: A) H
        | _ => False
      | none => False) := rfl
end
attribute [go_sem ↓] withA_hold withArgs_hold CallG_hold CallQ_hold opsVC_nil opsVC_some opsVC_none opsVC_gsome opsVC_gnone opsQ_nil opsQ_some opsQ_none opsQ_gsome Br_true Br_false Ob_true withA2_some withArgs2_some
attribute [go_sem ↓] opVC bcallVC binVC intVC shVC strVC boolVC nilVC unVC lenVC ixVC ldVC stVC apVC cpVC mkVC alVC boxVC bsVC slVC faVC fdVC bdVC chVC cvVC mmVC
attribute [go_sem ↓] opQ_move opQ_assign opQ_pick opQ_binOp opQ_unOp opQ_convert opQ_extract opQ_indexAddr opQ_index opQ_load opQ_slice opQ_fieldAddr opQ_field opQ_len opQ_min opQ_max opQ_build opQ_makeFunc opQ_nilCheck opQ_call
attribute [go_sem] List.size_toArray List.length_nil Array.size_empty withA2_some withArgs2_some calleeOf_func List.drop_zero List.append_nil List.cons_append List.nil_append
attribute [go_sem ↓] calleeOf_func calleeOf_clo0 calleeOf_clo1 calleeOf_clo2 calleeOf_clo3
attribute [go_sem] keepQ_app Fr.keep
theorem atF {P : Program} {N : Cx} {f : FuncId} {args : List AV} {A : Fr} {H : Hp} {K : AV → Fr → Hp → Prop} (h : CallG P N f args A H K) : CallG P N f args A H K := h
theorem atQ {P : Program} {f : FuncId} {args : List AV} {H : Hp} {K : AV → Prop} (h : CallQ P f args H K) : CallQ P f args H K := h
end Go.Av

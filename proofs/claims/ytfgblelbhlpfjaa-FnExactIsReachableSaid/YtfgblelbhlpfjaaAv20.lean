/- Rows of rows of our own: a family of names, one for the outer row and one for each of its rows. -/
import Derived.Test.YtfgblelbhlpfjaaAv19
namespace Go.Av

def FB : Nat := 2097152
theorem FB_eq : FB = 2097152 := rfl
theorem FB_pos : 0 < FB := by rw [FB_eq]; omega
/-- The name of the i-th row of the row d. -/
def sub (d i : Nat) : Nat := FB * (d + 1) + i
theorem sub_div {d i : Nat} (h : i < FB) : sub d i / FB = d + 1 := by
  unfold sub; rw [Nat.mul_add_div FB_pos, Nat.div_eq_of_lt h, Nat.add_zero]
theorem sub_mod {d i : Nat} (h : i < FB) : sub d i % FB = i := by
  unfold sub; rw [Nat.mul_add_mod]; exact Nat.mod_eq_of_lt h
theorem sub_ge (d i : Nat) : FB ≤ sub d i := by unfold sub; rw [Nat.mul_succ]; omega
theorem sub_of {d h : Nat} (k : h / FB = d + 1) : h = sub d (h % FB) := by
  unfold sub; rw [← k]; exact (Nat.div_add_mod h FB).symm
theorem sub_inj {d e i j : Nat} (hi : i < FB) (hj : j < FB) (h : sub d i = sub e j) : d = e ∧ i = j := by
  have h1 := congrArg (· / FB) h
  have h2 := congrArg (· % FB) h
  simp only [sub_div hi, sub_div hj, sub_mod hi, sub_mod hj] at h1 h2
  omega
theorem top_div {d : Nat} (h : d < FB) : d / FB = 0 := Nat.div_eq_of_lt h

/-- The cells of the outer row, of which k rows are laid. -/
def mixF (d : Nat) (xss : List (List Int)) (k : Nat) (i : Nat) : AV := if i < k then .own (sub d i) 0 1 (xss.getD i []).length else .v (.slice none 0 0)
/-- The family: n cells in the outer row, k rows laid. -/
def PR (d : Nat) (xss : List (List Int)) (k n : Nat) : Hp := fun h =>
  if h = d then some (.cells n (mixF d xss k)) else if h / FB = d + 1 ∧ h % FB < k then some (.cells (xss.getD (h % FB) []).length (cM iv 0 (xss.getD (h % FB) []))) else none
abbrev RR (d : Nat) (xss : List (List Int)) : Hp := PR d xss xss.length xss.length
/-- Names of H', beside those of H. -/
def Hp.add (H' H : Hp) : Hp := fun h => match H' h with | some B => some B | none => H h

/-- A name of d's family. -/
def famB (d h : Nat) : Bool := h == d || h / FB == d + 1

theorem PR_self (d : Nat) (xss : List (List Int)) (k n : Nat) : PR d xss k n d = some (.cells n (mixF d xss k)) := by simp [PR]
theorem PR_sub {d k n i : Nat} {xss : List (List Int)} (hd : d < FB) (hi : i < k) (hk : k ≤ FB) : PR d xss k n (sub d i) = some (.cells (xss.getD i []).length (cM iv 0 (xss.getD i []))) := by
  have h1 : sub d i ≠ d := by have := sub_ge d i; omega
  have h2 : i < FB := by omega
  simp [PR, h1, sub_div h2, sub_mod h2, hi]
theorem PR_out {d k n h : Nat} {xss : List (List Int)} (hf : famB d h = false) : PR d xss k n h = none := by
  simp only [famB, Bool.or_eq_false_iff, beq_eq_false_iff_ne] at hf
  simp [PR, hf.1, hf.2]
theorem PR_live {d k n h : Nat} {xss : List (List Int)} (hn : PR d xss k n h ≠ none) : famB d h = true := by
  cases hf : famB d h with
  | true => rfl
  | false => exact absurd (PR_out hf) hn
theorem famB_low {d h : Nat} (hh : h < FB) (hne : h ≠ d) : famB d h = false := by simp [famB, hne, top_div hh]
theorem Hp.add_some {H' H : Hp} {h : Nat} {B : Blk} (k : H' h = some B) : (H'.add H) h = some B := by unfold Hp.add; rw [k]
theorem Hp.add_none {H' H : Hp} {h : Nat} (k : H' h = none) : (H'.add H) h = H h := by unfold Hp.add; rw [k]
theorem add_low {d k n h : Nat} {xss : List (List Int)} {H : Hp} (hh : h < FB) (hne : h ≠ d) : ((PR d xss k n).add H) h = H h := Hp.add_none (PR_out (famB_low hh hne))
theorem add_self (d : Nat) (xss : List (List Int)) (k n : Nat) (H : Hp) : ((PR d xss k n).add H) d = some (.cells n (mixF d xss k)) := Hp.add_some (PR_self d xss k n)
theorem add_sub {d k n i : Nat} {xss : List (List Int)} {H : Hp} (hd : d < FB) (hi : i < k) (hk : k ≤ FB) : ((PR d xss k n).add H) (sub d i) = some (.cells (xss.getD i []).length (cM iv 0 (xss.getD i []))) := Hp.add_some (PR_sub hd hi hk)

theorem mixF_plain_scrub {d k : Nat} {xss : List (List Int)} {p : Nat → Bool} (hp : ∀ i, i < k → p (sub d i) = false) (i : Nat) : (mixF d xss k i).scrub p = mixF d xss k i := by
  unfold mixF
  split
  · simp [AV.scrub, hp i ‹_›]
  · rfl

section
variable {P : Program} {N : Cx} {A A' : Fr} {H H' : Hp} {fn : Func}

/-- A new row of rows. -/
def retII (d : Nat) (xss : List (List Int)) : AV → Hp → Prop := fun r H => r = .own d 0 1 xss.length ∧ H = RR d xss

/-- Two families change places. -/
def fsw (a b h : Nat) : Nat := if h = a then b else if h = b then a else if h / FB = a + 1 then sub b (h % FB) else if h / FB = b + 1 then sub a (h % FB) else h
theorem fsw_fsw {a b : Nat} (ha : a < FB) (hb : b < FB) (h : Nat) : fsw a b (fsw a b h) = h := by
  have hm : h % FB < FB := Nat.mod_lt _ FB_pos
  unfold fsw
  by_cases h1 : h = a
  · subst h1; by_cases e : b = h <;> simp [e]
  · by_cases h2 : h = b
    · subst h2; simp [h1]
    · by_cases h3 : h / FB = a + 1
      · have e1 : sub b (h % FB) ≠ a := by have := sub_ge b (h % FB); omega
        have e2 : sub b (h % FB) ≠ b := by have := sub_ge b (h % FB); omega
        have e3 := sub_of h3
        simp only [h1, h2, h3, if_true, if_false, e1, e2, sub_div hm, sub_mod hm]
        by_cases e : b = a
        · subst e; simp; exact e3.symm
        · simp [e]; exact e3.symm
      · by_cases h4 : h / FB = b + 1
        · have e1 : sub a (h % FB) ≠ a := by have := sub_ge a (h % FB); omega
          have e2 : sub a (h % FB) ≠ b := by have := sub_ge a (h % FB); omega
          have e3 := sub_of h4
          have e4 : ¬ b + 1 = a + 1 := fun e => h3 (h4.trans e)
          simp only [h1, h2, h4, e4, if_true, if_false, e1, e2, sub_div hm, sub_mod hm]
          exact e3.symm
        · simp [h1, h2, h3, h4]

theorem fsw_a (a b : Nat) : fsw a b a = b := by simp [fsw]
theorem fsw_sub {a b i : Nat} (ha : a < FB) (hb : b < FB) (hi : i < FB) : fsw a b (sub a i) = sub b i := by
  have e1 : sub a i ≠ a := by have := sub_ge a i; omega
  have e2 : sub a i ≠ b := by have := sub_ge a i; omega
  simp [fsw, e1, e2, sub_div hi, sub_mod hi]
theorem fsw_b {a b : Nat} : fsw a b b = a := by unfold fsw; split <;> simp_all
theorem fsw_sub' {a b i : Nat} (ha : a < FB) (hb : b < FB) (hi : i < FB) : fsw a b (sub b i) = sub a i := by
  have e1 : sub b i ≠ a := by have := sub_ge b i; omega
  have e2 : sub b i ≠ b := by have := sub_ge b i; omega
  by_cases e : a = b
  · subst e; simp [fsw, e1, sub_div hi, sub_mod hi]
  · have e' : ¬ b = a := fun h => e h.symm
    simp [fsw, e1, e2, sub_div hi, sub_mod hi, e']

theorem mixF_ren {a b k : Nat} {xss : List (List Int)} (ha : a < FB) (hb : b < FB) (hk : k ≤ FB) : (fun i => (mixF a xss k i).ren (fsw a b)) = mixF b xss k := by
  funext i
  unfold mixF
  split
  · simp [AV.ren, fsw_sub ha hb (show i < FB by omega)]
  · rfl

theorem PR_ren {a b k n : Nat} {xss : List (List Int)} (ha : a < FB) (hb : b < FB) (hk : k ≤ FB) : (PR a xss k n).ren (fsw a b) = PR b xss k n := by
  funext g
  have hm : g % FB < FB := Nat.mod_lt _ FB_pos
  simp only [Hp.ren]
  by_cases h1 : g = b
  · subst h1; rw [fsw_b, PR_self, PR_self]; simp [Blk.ren, mixF_ren ha hb hk]
  · by_cases h2 : g / FB = b + 1
    · have e := sub_of h2
      rw [e, fsw_sub' ha hb hm]
      by_cases h3 : g % FB < k
      · rw [PR_sub ha h3 hk, PR_sub hb h3 hk]; rfl
      · have e1 : sub a (g % FB) ≠ a := by have := sub_ge a (g % FB); omega
        have e2 : sub b (g % FB) ≠ b := by have := sub_ge b (g % FB); omega
        simp [PR, e1, e2, sub_div hm, sub_mod hm, h3]
    · have hb' : famB b g = false := by simp [famB, h1, h2]
      rw [PR_out hb']
      have : PR a xss k n (fsw a b g) = none := by
        refine PR_out ?_
        unfold fsw
        by_cases h3 : g = a
        · subst h3
          have : ¬ b = g := fun e => h1 e.symm
          simp [famB, this, top_div hb]
        · simp only [h3, h1, if_false, h2]
          by_cases h4 : g / FB = a + 1
          · have e1 : sub b (g % FB) ≠ a := by have := sub_ge b (g % FB); omega
            have e2 : ¬ b = a := fun e => h2 (by rw [h4, e])
            simp [h4, famB, e1, sub_div hm, e2]
          · simp [h4, famB, h3]
      rw [this]; rfl

theorem ints_ren (ρ : Nat → Nat) (xs : List Int) : (ints xs).ren ρ = ints xs := rfl

/-- A contract's new row of rows under any name. -/
theorem AC.famI {f : FuncId} {args : List AV} {d0 : Nat} {xss : List (List Int)} (hac : AC P f args Hp.emp (fun _ => false) (retII d0 xss)) (d : Nat) (h0 : d0 < FB) (hd : d < FB) (hx : xss.length ≤ FB) (hr : ∀ ρ, args.map (AV.ren ρ) = args) :
    AC P f args Hp.emp (fun _ => false) (retII d xss) := by
  refine AC.ren (fsw d0 d) (fsw_fsw h0 hd) hac (hr _).symm (by funext g; rfl) (fun _ => rfl) ?_
  rintro r H' ⟨rfl, rfl⟩
  exact ⟨by simp [AV.ren, fsw_a], PR_ren h0 hd hx⟩

/-- The cells of a block may be said otherwise. -/
theorem Sub.cells {h n : Nat} {f f' : Nat → AV} (he : ∀ i, i < n → f i = f' i) : Sub N A (H.upd h (.cells n f)) A (H.upd h (.cells n f')) := fun _ _ _ _ _ L s => ⟨L, s.blk_eq he⟩

/-- H holds the family whole. -/
def HasRR (H : Hp) (d : Nat) (xss : List (List Int)) : Prop := H d = some (.cells xss.length (mixF d xss xss.length)) ∧ ∀ i, i < xss.length → H (sub d i) = some (.cells (xss.getD i []).length (cM iv 0 (xss.getD i [])))
theorem HasRR.base {d : Nat} {xss : List (List Int)} (hd : d < 2097152) (hx : xss.length ≤ 2097152) : HasRR ((RR d xss).add H) d xss :=
  ⟨add_self _ _ _ _ _, fun _ hi => add_sub hd hi hx⟩
theorem HasRR.bare {d : Nat} {xss : List (List Int)} (hd : d < 2097152) (hx : xss.length ≤ 2097152) : HasRR (RR d xss) d xss :=
  ⟨PR_self _ _ _ _, fun _ hi => PR_sub hd hi hx⟩
theorem HasRR.upd {d e : Nat} {xss : List (List Int)} {B : Blk} (he : e < 2097152) (hne : e ≠ d) (h : HasRR H d xss) : HasRR (H.upd e B) d xss := by
  obtain ⟨h1, h3⟩ := h
  refine ⟨?_, fun i hi => ?_⟩
  · simp only [Hp.upd, if_neg (Ne.symm hne)]; exact h1
  · have : sub d i ≠ e := by have := sub_ge d i; rw [FB_eq] at this; omega
    simp only [Hp.upd, if_neg this]; exact h3 i hi
theorem HasRR.add {d e k n : Nat} {xss yss : List (List Int)} (hd : d < 2097152) (he : e < 2097152) (hx : xss.length ≤ 2097152) (hne : e ≠ d) (h : HasRR H d xss) : HasRR ((PR e yss k n).add H) d xss := by
  obtain ⟨h1, h3⟩ := h
  refine ⟨?_, fun i hi => ?_⟩
  · rw [add_low hd (Ne.symm hne)]; exact h1
  · have hi' : i < FB := by rw [FB_eq]; omega
    rw [Hp.add_none (PR_out ?_)]
    · exact h3 i hi
    · have h4 : sub d i ≠ e := by have := sub_ge d i; rw [FB_eq] at this; omega
      simp [famB, h4, sub_div hi', Ne.symm hne]

theorem fits_RR {D : Nat → Prop} {d n : Nat} {xss : List (List Int)} (h : HasRR H d xss) (hD : D d) (hDs : ∀ i, D (sub d i)) (hn : n = xss.length) : Fits H D (.own d 0 1 n) (intss xss) := by
  subst hn
  obtain ⟨h1, h3⟩ := h
  refine .own h1 hD (by omega) (fun _ _ => trivial) (fun i hi => ?_)
  have hi' : i < xss.length := by omega
  rw [Nat.zero_add]
  have e : mixF d xss xss.length i = .own (sub d i) 0 1 (xss.getD i []).length := by simp only [mixF]; rw [if_pos hi']
  rw [e]
  exact fits_I (h3 i hi') (hDs i) rfl rfl

theorem callII {f : FuncId} {args args' : List AV} {d : Nat} {xss : List (List Int)} {pn : Nat → Bool} {K : AV → Fr → Hp → Prop} (hfit : FitsL H (fun _ => True) args args') (hac : AC P f args' Hp.emp pn (retII d xss)) (hd : d < 2097152) (hx : xss.length ≤ 2097152) (hpn : ∀ h, famB d h = true → N.pn h = false)
    (hK : K (.own d 0 1 xss.length) (A.scrub (famB d)) ((RR d xss).add (H.scrub (famB d)))) : CallG P N f args A H K := by
  refine callG_of hac (famB d) true (by simp [Hp.emp]) (by simpa [Hp.emp] using hfit) (by simp) (by simp [Hp.emp]) (fun h hh => by cases hf : famB d h with | false => rfl | true => rw [hpn h hf] at hh; cases hh) ?_
  rintro r H' ⟨rfl, rfl⟩
  refine ⟨fun h hn _ => PR_live hn, fun _ => ⟨trivial, fun h B hB => ?_⟩, ?_⟩
  · unfold RR PR at hB
    split at hB
    · simp only [Option.some.injEq] at hB; subst hB
      intro i hi; unfold mixF; split <;> trivial
    · split at hB
      · simp only [Option.some.injEq] at hB; subst hB; intro i hi; trivial
      · simp at hB
  · have live : ∀ i, i < xss.length → liveB (RR d xss) (sub d i) = true := fun i hi => by simp [liveB, PR_sub hd hi hx]
    have e1 : (AV.own d 0 1 xss.length).scrub (fun h => !liveB (RR d xss) h) = .own d 0 1 xss.length := by simp [AV.scrub, liveB, PR_self]
    have e2 : Hp.over ((RR d xss).scrub fun h => !liveB (RR d xss) h) (H.scrub (famB d)) Hp.emp = (RR d xss).add (H.scrub (famB d)) := by
      funext g
      simp only [Hp.over, Hp.add, Hp.emp]
      have : ((RR d xss).scrub fun h => !liveB (RR d xss) h) g = (RR d xss) g := by
        simp only [Hp.scrub]
        cases hg : (RR d xss) g with
        | none => rfl
        | some B =>
          simp only [Option.map_some, Option.some.injEq]
          have hg' := hg
          unfold RR PR at hg'
          split at hg'
          · simp only [Option.some.injEq] at hg'; subst hg'
            simp only [Blk.scrub]
            congr 1
            funext i
            exact mixF_plain_scrub (fun i hi => by simp [live i hi]) i
          · split at hg'
            · simp only [Option.some.injEq] at hg'; subst hg'; rfl
            · simp at hg'
      rw [this]
      cases (RR d xss) g <;> simp
    rw [e1, e2]; exact hK

/-- What a call that writes a family leaves. -/
def postMM (h : Nat) (a : AV) (xss : List (List Int)) : AV → Hp → Prop := fun r H => r = a ∧ H = RR h xss

theorem RR_cases {d g : Nat} {xss : List (List Int)} {B : Blk} (h : RR d xss g = some B) : (g = d ∧ B = .cells xss.length (mixF d xss xss.length)) ∨ ∃ i, i < xss.length ∧ g = sub d i ∧ B = .cells (xss.getD i []).length (cM iv 0 (xss.getD i [])) := by
  unfold RR PR at h
  split at h
  · rename_i e
    simp only [Option.some.injEq] at h
    exact .inl ⟨e, h.symm⟩
  · split at h
    · rename_i e
      simp only [Option.some.injEq] at h
      exact .inr ⟨_, e.2, sub_of e.1, h.symm⟩
    · simp at h

theorem callMM {f : FuncId} {args : List AV} {h : Nat} {xss yss : List (List Int)} {a : AV} {K : AV → Fr → Hp → Prop} (hH : HasRR H h xss) (hac : AC P f args (RR h xss) (famB h) (postMM h a yss)) (hl : yss.length = xss.length) (hh : h < 2097152) (hx : xss.length ≤ 2097152) (ha : ∀ p, a.scrub p = a)
    (hK : K a A ((RR h yss).add H)) : CallG P N f args A H K := by
  obtain ⟨h1, h3⟩ := hH
  refine callG_of hac (fun _ => false) false ?_ (FitsL.refl _) (by simp) (fun g hg _ => PR_live hg) (by simp) ?_
  · intro g C hC
    rcases RR_cases hC with ⟨rfl, rfl⟩ | ⟨i, hi, rfl, rfl⟩
    · exact h1
    · exact h3 i hi
  · rintro r H' ⟨rfl, rfl⟩
    have live : ∀ i, i < yss.length → liveB (RR h yss) (sub h i) = true := fun i hi => by
      have := PR_sub (xss := yss) (n := yss.length) hh hi (show yss.length ≤ FB by rw [FB_eq]; omega)
      simp [liveB, this]
    have same : ∀ g, (RR h yss) g ≠ none ↔ (RR h xss) g ≠ none := by
      intro g; unfold RR PR; rw [hl]; split <;> (try split) <;> simp
    refine ⟨fun g hn he => ?_, by simp, ?_⟩
    · exact absurd he ((same g).1 hn)
    · rw [ha, Fr.scrub_none, Hp.scrub_none]
      have : Hp.over ((RR h yss).scrub fun g => !liveB (RR h yss) g) H (RR h xss) = (RR h yss).add H := by
        funext g
        simp only [Hp.over, Hp.add]
        have e : ((RR h yss).scrub fun g => !liveB (RR h yss) g) g = (RR h yss) g := by
          simp only [Hp.scrub]
          cases hg : (RR h yss) g with
          | none => rfl
          | some B =>
            simp only [Option.map_some, Option.some.injEq]
            rcases RR_cases hg with ⟨rfl, rfl⟩ | ⟨i, hi, rfl, rfl⟩
            · simp only [Blk.scrub]
              congr 1
              funext i
              exact mixF_plain_scrub (fun i hi => by simp [live i hi]) i
            · rfl
        rw [e]
        cases hg : (RR h yss) g with
        | some B => rfl
        | none =>
          have : (RR h xss) g = none := by
            cases hx : (RR h xss) g with
            | none => rfl
            | some B => exact absurd hg ((same g).2 (by simp [hx]))
          simp [this]
      rw [this]; exact hK

theorem Hp.add_add {d : Nat} {xss yss : List (List Int)} (hl : yss.length = xss.length) : (RR d yss).add ((RR d xss).add H) = (RR d yss).add H := by
  funext g
  have same : (RR d yss) g = none → (RR d xss) g = none := by
    unfold RR PR; rw [hl]; split <;> (try split) <;> simp
  simp only [Hp.add]
  cases hg : (RR d yss) g with
  | some B => rfl
  | none => simp [same hg]
theorem Hp.upd_add {d e k n : Nat} {xss : List (List Int)} {B : Blk} (he : e < 2097152) (hne : e ≠ d) : ((PR d xss k n).add H).upd e B = (PR d xss k n).add (H.upd e B) := by
  funext g
  simp only [Hp.upd, Hp.add]
  by_cases h : g = e
  · subst h; simp [PR_out (famB_low (show g < FB by rw [FB_eq]; exact he) hne)]
  · simp [h]
theorem Hp.scrub_add {d e k n : Nat} {xss : List (List Int)} (he : e < 2097152) : ((PR d xss k n).add H).scrub (· == e) = (PR d xss k n).add (H.scrub (· == e)) := by
  have hs : ∀ i, (sub d i == e) = false := fun i => by
    have := sub_ge d i; rw [FB_eq] at this
    rw [beq_eq_false_iff_ne]; omega
  funext g
  simp only [Hp.scrub, Hp.add]
  cases hg : (PR d xss k n) g with
  | none => rfl
  | some B =>
    simp only [Option.map_some, Option.some.injEq]
    unfold PR at hg
    split at hg
    · simp only [Option.some.injEq] at hg; subst hg
      simp only [Blk.scrub]
      congr 1
      funext i
      exact mixF_plain_scrub (fun i _ => hs i) i
    · split at hg
      · simp only [Option.some.injEq] at hg; subst hg; rfl
      · simp at hg
theorem famB_lit {d h : Nat} (hh : h < 2097152) : famB d h = (h == d) := by
  have : h / FB = 0 := top_div (by rw [FB_eq]; exact hh)
  simp [famB, this]
theorem add_lit {d k n h : Nat} {xss : List (List Int)} (hh : h < 2097152) (hne : h ≠ d) : ((PR d xss k n).add H) h = H h := add_low (by rw [FB_eq]; exact hh) hne
end
attribute [go_sem] add_self PR_self
end Go.Av

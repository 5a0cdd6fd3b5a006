/- Puzzles of our own; calls whose results are ours if their name is still free, else only read. -/
import Derived.Test.YtfgblelbhlpfjaaAv20
namespace Go.Av
section
variable {P : Program} {N : Cx} {A A' : Fr} {H H' : Hp} {fn : Func}

/-- A call in any place whose result is frozen. -/
theorem callF {f : FuncId} {args : List AV} {K : AV → Fr → Hp → Prop} (h : CallQ P f args H fun r => K r A H) : CallG P N f args A H K := by
  obtain ⟨a, hK, hc⟩ := callQ_run (N := N) h
  refine ⟨(hc A).1, fun w0 S hS w tm L s vs hvs => ((hc A).2 w0 S hS w tm L s vs hvs).mono ?_⟩
  rintro e w' ⟨u, r, L', A', H', he, s', hr, rfl, rfl, rfl⟩
  exact ⟨u, _, L', _, _, he, s', hr, hK⟩
theorem callFI {f : FuncId} {args args' : List AV} {d : Nat} {xs : List Int} {pn : Nat → Bool} {K : AV → Fr → Hp → Prop} (hf : FitsL H (fun _ => True) args args') (h : AC P f args' Hp.emp pn (retI d xs)) (hK : K (ints xs) A H) : CallG P N f args A H K :=
  callF (callQI hf h hK)

/-- .. whose result is ours, under a name that is free. -/
theorem callIf {f : FuncId} {args args' : List AV} {d : Nat} {xs : List Int} {pn : Nat → Bool} {K : AV → Fr → Hp → Prop} (_hfree : H d = none) (hfit : FitsL H (fun _ => True) args args') (hac : AC P f args' Hp.emp pn (retI d xs)) (hd : N.pn d = false)
    (hK : K (.own d 0 1 xs.length) (A.scrub (· == d)) ((H.scrub (· == d)).upd d (.cells xs.length (cM iv 0 xs)))) : CallG P N f args A H K := call_I hac hd hfit hK
theorem callIIf {f : FuncId} {args args' : List AV} {d : Nat} {xss : List (List Int)} {pn : Nat → Bool} {K : AV → Fr → Hp → Prop} (_hfree : H d = none) (hfit : FitsL H (fun _ => True) args args') (hac : AC P f args' Hp.emp pn (retII d xss)) (hd : d < 2097152) (hx : xss.length ≤ 2097152) (hpn : ∀ h, famB d h = true → N.pn h = false)
    (hK : K (.own d 0 1 xss.length) (A.scrub (famB d)) ((RR d xss).add (H.scrub (famB d)))) : CallG P N f args A H K := callII hfit hac hd hx hpn hK

/-- What is handed back beside a family. -/
def retR (d : Nat) (a : AV) (xss : List (List Int)) : AV → Hp → Prop := fun r H => r = a ∧ H = RR d xss

theorem callRR {f : FuncId} {args args' : List AV} {a : AV} {d : Nat} {xss : List (List Int)} {pn : Nat → Bool} {K : AV → Fr → Hp → Prop} (_hfree : H d = none) (hfit : FitsL H (fun _ => True) args args') (hac : AC P f args' Hp.emp pn (retR d a xss)) (hd : d < 2097152) (hx : xss.length ≤ 2097152) (hpn : ∀ h, famB d h = true → N.pn h = false)
    (ha : a.solid) (hsc : ∀ p : Nat → Bool, p d = false → a.scrub p = a) (hK : K a (A.scrub (famB d)) ((RR d xss).add (H.scrub (famB d)))) : CallG P N f args A H K := by
  refine callG_of hac (famB d) true (by simp [Hp.emp]) (by simpa [Hp.emp] using hfit) (by simp) (by simp [Hp.emp]) (fun h hh => by cases hf : famB d h with | false => rfl | true => rw [hpn h hf] at hh; cases hh) ?_
  rintro r H' ⟨rfl, rfl⟩
  refine ⟨fun h hn _ => PR_live hn, fun _ => ⟨ha, fun h B hB => ?_⟩, ?_⟩
  · rcases RR_cases hB with ⟨rfl, rfl⟩ | ⟨i, hi, rfl, rfl⟩
    · intro i hi; unfold mixF; split <;> trivial
    · intro i hi; trivial
  · have live : ∀ i, i < xss.length → liveB (RR d xss) (sub d i) = true := fun i hi => by simp [liveB, PR_sub hd hi hx]
    have e1 : r.scrub (fun h => !liveB (RR d xss) h) = r := hsc _ (by simp [liveB, PR_self])
    have e2 : Hp.over ((RR d xss).scrub fun h => !liveB (RR d xss) h) (H.scrub (famB d)) Hp.emp = (RR d xss).add (H.scrub (famB d)) := by
      funext g
      simp only [Hp.over, Hp.add, Hp.emp]
      have : ((RR d xss).scrub fun h => !liveB (RR d xss) h) g = (RR d xss) g := by
        simp only [Hp.scrub]
        cases hg : (RR d xss) g with
        | none => rfl
        | some B =>
          simp only [Option.map_some, Option.some.injEq]
          rcases RR_cases hg with ⟨rfl, rfl⟩ | ⟨i, hi, rfl, rfl⟩
          · simp only [Blk.scrub]
            congr 1
            funext i
            exact mixF_plain_scrub (fun i hi => by simp [live i hi]) i
          · rfl
      rw [this]
      cases (RR d xss) g <;> simp
    rw [e1, e2]; exact hK

/-- A puzzle whose moves are ours. -/
def pzo (p : Pz) (d : Nat) : AV := .agg 3 (vecF [.v (.int .i64 p.n), .v (.string p.s), .own d 0 1 p.m.length])
theorem pzo_solid (p : Pz) (d : Nat) : (pzo p d).solid := by
  intro i hi
  match i, hi with
  | 0, _ => trivial
  | 1, _ => trivial
  | 2, _ => trivial
theorem pzo_scrub (p : Pz) (d : Nat) (q : Nat → Bool) (h : q d = false) : (pzo p d).scrub q = pzo p d := by
  simp only [pzo, AV.scrub]
  congr 1
  funext i
  rw [vecF_scrub]
  simp [AV.scrub, h]

theorem fits_pz {D : Nat → Prop} {d : Nat} {p : Pz} (h : HasRR H d p.m) (hD : D d) (hDs : ∀ i, D (sub d i)) : Fits H D (pzo p d) (pz p) := by
  refine .agg fun i hi => ?_
  match i, hi with
  | 0, _ => exact .refl _
  | 1, _ => exact .refl _
  | 2, _ => exact fits_RR h hD hDs rfl

/-- The end of a function whose result stands in a cell, and holds names of a family. -/
theorem end_retRC {t : Tmp} {ty : TypeId} {h n d : Nat} {z : List Value} {g f : Nat → AV} {xss : List (List Int)} (hr : fn.results.toList = [.cell t ty]) (hA : A.get t = some (.ref h 0)) (hty : tyOf P ty = some ⟨true, n, z⟩) (hH : H h = some (.cells n g))
    (hg : ∀ i, i < n → g i = f i) (hl : Hp.le (RR d xss) (H.upd h (.cells n f))) : endQ P N fn (retR d (.agg n f) xss) .ret A H := by
  refine ⟨A, H.upd h (.cells n f), ?_, ?_⟩
  · have e0 : H = H.upd h (.cells n g) := by
      funext k; simp only [Hp.upd]; split
      · rename_i e; subst e; exact hH
      · rfl
    have := Sub.cells (N := N) (A := A) (H := H) (h := h) (n := n) (f := g) (f' := f) hg
    rw [← e0] at this
    exact this
  · have e1 : (H.upd h (.cells n f)) h = some (.cells n f) := by simp [Hp.upd]
    rw [hr]; simp only [resVC, hA, withA_some, hty, ldVC, e1, Ob]
    refine ⟨by omega, RR d xss, hl, ?_, rfl⟩
    congr 1
    funext j
    rw [Nat.zero_add]
theorem HasRR.le {d : Nat} {xss : List (List Int)} (h : HasRR H d xss) : Hp.le (RR d xss) H := by
  intro g B hB
  rcases RR_cases hB with ⟨rfl, rfl⟩ | ⟨i, hi, rfl, rfl⟩
  · exact h.1
  · exact h.2 i hi

theorem AC.famR {f : FuncId} {args : List AV} {d0 : Nat} {a : Nat → AV} {xss : List (List Int)} (hac : AC P f args Hp.emp (fun _ => false) (retR d0 (a d0) xss)) (d : Nat) (h0 : d0 < 2097152) (hd : d < 2097152) (hx : xss.length ≤ 2097152) (hr : ∀ ρ, args.map (AV.ren ρ) = args) (ha : ∀ ρ : Nat → Nat, (a d0).ren ρ = a (ρ d0)) :
    AC P f args Hp.emp (fun _ => false) (retR d (a d) xss) := by
  refine AC.ren (fsw d0 d) (fsw_fsw h0 hd) hac (hr _).symm (by funext g; rfl) (fun _ => rfl) ?_
  rintro r H' ⟨rfl, rfl⟩
  exact ⟨by rw [ha, fsw_a], PR_ren h0 hd hx⟩
theorem pzo_ren (p : Pz) (d : Nat) (ρ : Nat → Nat) : (pzo p d).ren ρ = pzo p (ρ d) := by
  simp only [pzo, AV.ren]
  congr 1
  funext i
  match i with
  | 0 => rfl
  | 1 => rfl
  | 2 => rfl
  | i + 3 => simp [vecF, AV.ren]

theorem famB_iff {d h : Nat} : famB d h = true ↔ h = d ∨ h / FB = d + 1 := by simp [famB]
/-- A family that is handed over to be written, under any name. -/
theorem AC.famM {f : FuncId} {h0 : Nat} {args : Nat → List AV} {a : AV} {xss yss : List (List Int)} (hac : AC P f (args h0) (RR h0 xss) (famB h0) (postMM h0 a yss)) (h : Nat) (h0' : h0 < 2097152) (hd : h < 2097152) (hx : xss.length ≤ 2097152) (hy : yss.length ≤ 2097152)
    (hr : ∀ ρ : Nat → Nat, (args h0).map (AV.ren ρ) = args (ρ h0)) (ha : ∀ ρ, a.ren ρ = a) : AC P f (args h) (RR h xss) (famB h) (postMM h a yss) := by
  refine AC.ren (fsw h0 h) (fsw_fsw h0' hd) hac (by rw [hr, fsw_a]) (PR_ren h0' hd hx).symm ?_ ?_
  · intro g
    have hm : g % FB < FB := Nat.mod_lt _ FB_pos
    have t0 : h0 / FB = 0 := top_div h0'
    have t1 : h / FB = 0 := top_div hd
    have s0 := sub_ge h (g % FB)
    have s1 := sub_ge h0 (g % FB)
    have d0 := sub_div (d := h) hm
    have d1 := sub_div (d := h0) hm
    rw [FB_eq] at s0 s1
    rw [Bool.eq_iff_iff, famB_iff, famB_iff]
    unfold fsw
    by_cases h1 : g = h0
    · subst h1; rw [if_pos rfl]; omega
    · rw [if_neg h1]
      by_cases h2 : g = h
      · subst h2; rw [if_pos rfl]; omega
      · rw [if_neg h2]
        by_cases h3 : g / FB = h0 + 1
        · rw [if_pos h3, d0, h3]; rw [FB_eq] at *; omega
        · rw [if_neg h3]
          by_cases h4 : g / FB = h + 1
          · rw [if_pos h4, d1]; simp [h4]
          · rw [if_neg h4]; simp [h1, h2, h3, h4]
  · rintro r H' ⟨rfl, rfl⟩
    exact ⟨ha _, PR_ren h0' hd hy⟩
theorem Hp.scrub_fam {d e k n : Nat} {xss : List (List Int)} (_hd : d < 2097152) (he : e < 2097152) (hk : k ≤ 2097152) (hne : d ≠ e) : ((PR d xss k n).add H).scrub (famB e) = (PR d xss k n).add (H.scrub (famB e)) := by
  have hs : ∀ i, i < k → famB e (sub d i) = false := fun i hi => by
    have h1 := sub_ge d i; rw [FB_eq] at h1
    have h2 : i < FB := by rw [FB_eq]; omega
    have h3 : sub d i ≠ e := by omega
    simp [famB, h3, sub_div h2, hne]
  funext g
  simp only [Hp.scrub, Hp.add]
  cases hg : (PR d xss k n) g with
  | none => rfl
  | some B =>
    simp only [Option.map_some, Option.some.injEq]
    unfold PR at hg
    split at hg
    · simp only [Option.some.injEq] at hg; subst hg
      simp only [Blk.scrub]
      congr 1
      funext i
      exact mixF_plain_scrub hs i
    · split at hg
      · simp only [Option.some.injEq] at hg; subst hg; rfl
      · simp at hg
theorem Hp.emp_add (d k n : Nat) (xss : List (List Int)) : (PR d xss k n).add Hp.emp = PR d xss k n := by
  funext g; simp only [Hp.add, Hp.emp]; cases (PR d xss k n) g <;> rfl
theorem mixF_lt {d k i : Nat} {xss : List (List Int)} (h : i < k) : mixF d xss k i = .own (sub d i) 0 1 (xss.getD i []).length := by simp [mixF, h]

/-- No name beyond the low ones stands in it. -/
def AV.low : AV → Prop
  | .own h _ _ _ => h < 2097152
  | .ref h _ => h < 2097152
  | .map h => h < 2097152
  | .agg _ f => ∀ i, (f i).low
  | .tup _ f => ∀ i, (f i).low
  | .clo _ _ f => ∀ i, (f i).low
  | _ => True
theorem low_ren {ρ : Nat → Nat} (hρ : ∀ g, g < 2097152 → ρ g = g) : ∀ a : AV, a.low → a.ren ρ = a := by
  intro a
  induction a with
  | own h off sz n => intro h; simp only [AV.ren]; rw [hρ _ h]
  | ref h off => intro h; simp only [AV.ren]; rw [hρ _ h]
  | map h => intro h; simp only [AV.ren]; rw [hρ _ h]
  | agg n f ih => intro h; simp only [AV.ren]; congr 1; funext i; exact ih i (h i)
  | tup n f ih => intro h; simp only [AV.ren]; congr 1; funext i; exact ih i (h i)
  | clo g n f ih => intro h; simp only [AV.ren]; congr 1; funext i; exact ih i (h i)
  | _ => intro _; rfl
def Blk.low : Blk → Prop
  | .cells _ f => ∀ i, (f i).low
  | .mp kv => ∀ x ∈ kv, x.2.low
theorem Blk.low_ren {ρ : Nat → Nat} (hρ : ∀ g, g < 2097152 → ρ g = g) (B : Blk) (h : B.low) : B.ren ρ = B := by
  cases B with
  | cells n f => simp only [Blk.ren]; congr 1; funext i; exact Go.Av.low_ren hρ _ (h i)
  | mp kv =>
    simp only [Blk.ren]
    congr 1
    rw [List.map_congr_left (g := id)]
    · simp
    · intro x hx; simp [Go.Av.low_ren hρ _ (h x hx)]
def Fr.low : Fr → Prop
  | [] => True
  | (_, a) :: r => a.low ∧ Fr.low r
theorem Fr.low_get : ∀ {A : Fr}, Fr.low A → ∀ {i : Nat} {c : AV}, A.get i = some c → c.low
  | [], _, _, _, h => by simp [Fr.get] at h
  | (j, a) :: r, hl, i, c, h => by
    simp only [Fr.get] at h
    split at h
    · simp only [Option.some.injEq] at h; subst h; exact hl.1
    · exact Fr.low_get hl.2 h

/-- A row of our own becomes one of a family. -/
theorem Sub.absorb {d e k n : Nat} {xss : List (List Int)} {f : Nat → AV} (hd : d < 2097152) (he : e < 2097152) (hde : e ≠ d) (hk : k < n) (hn : n ≤ 2097152) (hpn : N.pn = fun _ => false)
    (h1 : H d = some (.cells n f)) (hf : ∀ i, i < n → f i = if i = k then .own e 0 1 (xss.getD k []).length else mixF d xss k i)
    (h2 : H e = some (.cells (xss.getD k []).length (cM iv 0 (xss.getD k [])))) (h3 : ∀ i, i < k → H (sub d i) = some (.cells (xss.getD i []).length (cM iv 0 (xss.getD i []))))
    (hA : Fr.sub A A') (hl : Fr.low A') (hH : ∀ g B, H' g = some B → H g = some B ∧ g ≠ e ∧ g ≠ d ∧ g < 2097152 ∧ B.low) :
    Sub N A H A' ((PR d xss (k + 1) n).add H') := by
  have hkF : k < FB := by rw [FB_eq]; omega
  have sk := sub_ge d k
  rw [FB_eq] at sk
  let ρ : Nat → Nat := fun g => if g = sub d k then e else g
  have hρ : ∀ g, g < 2097152 → ρ g = g := fun g hg => by simp only [ρ]; rw [if_neg (by omega)]
  -- the block of the outer row, said anew
  have s1 : Sub N A H A (H.upd d (.cells n fun i => (mixF d xss (k + 1) i).ren ρ)) := by
    have e0 : H = H.upd d (.cells n f) := by
      funext g; simp only [Hp.upd]; split
      · rename_i e; subst e; exact h1
      · rfl
    have := Sub.cells (N := N) (A := A) (H := H) (h := d) (n := n) (f := f) (f' := fun i => (mixF d xss (k + 1) i).ren ρ) (fun i hi => by
      rw [hf i hi]
      simp only [mixF]
      by_cases hik : i = k
      · subst hik; simp [AV.ren, ρ]
      · rw [if_neg hik]
        by_cases hlt : i < k
        · have : sub d i ≠ sub d k := fun e => hik (sub_inj (by rw [FB_eq]; omega) hkF e).2
          simp [hlt, show i < k + 1 by omega, AV.ren, ρ, this]
        · simp [hlt, show ¬ i < k + 1 by omega, AV.ren])
    rw [← e0] at this
    exact this
  refine s1.trans (Sub.ren ρ ?_ ?_ ?_ ?_)
  · intro i c hc
    rw [low_ren hρ c (Fr.low_get hl hc)]
    exact Fr.sub_get A' A hA i c hc
  · intro g B hB
    by_cases hg : PR d xss (k + 1) n g = none
    · rw [Hp.add_none hg] at hB
      obtain ⟨q1, q2, q3, q4, q5⟩ := hH g B hB
      rw [hρ g q4, Blk.low_ren hρ B q5]
      simp only [Hp.upd, if_neg q3]; exact q1
    · obtain ⟨B0, hB0⟩ : ∃ B0, PR d xss (k + 1) n g = some B0 := by
        cases e : PR d xss (k + 1) n g with
        | none => exact absurd e hg
        | some B0 => exact ⟨B0, rfl⟩
      rw [Hp.add_some hB0, Option.some.injEq] at hB
      subst hB
      unfold PR at hB0
      split at hB0
      · rename_i e1
        subst e1
        simp only [Option.some.injEq] at hB0
        subst hB0
        rw [hρ g hd]
        simp [Hp.upd, Blk.ren]
      · rename_i hgd
        split at hB0
        · rename_i e1
          simp only [Option.some.injEq] at hB0
          subst hB0
          have hgs := sub_of e1.1
          by_cases hik : g % FB = k
          · have : g = sub d k := by rw [hgs, hik]
            have e2 : ρ g = e := by simp [ρ, this]
            rw [e2]
            simp only [Hp.upd, if_neg hde, hik]
            exact h2
          · have hne : g ≠ sub d k := fun e => hik (by rw [e]; exact sub_mod hkF)
            have e2 : ρ g = g := by simp [ρ, hne]
            rw [e2]
            simp only [Hp.upd, if_neg hgd]
            have := h3 (g % FB) (by omega)
            rw [← hgs] at this
            exact this
        · simp at hB0
  · intro g g' hn1 hn2 hgg
    have dead : ((PR d xss (k + 1) n).add H') e = none := by
      rw [Hp.add_none (PR_out (famB_low (by rw [FB_eq]; exact he) hde))]
      cases hh : H' e with
      | none => rfl
      | some B => exact absurd rfl (hH e B hh).2.1
    simp only [ρ] at hgg
    split at hgg <;> split at hgg
    · simp_all
    · exact absurd (hgg ▸ dead) hn2
    · exact absurd (hgg ▸ dead) hn1
    · exact hgg
  · intro g hg; simp [hpn] at hg

theorem PR_scrub {d e k n : Nat} {xss : List (List Int)} (he : e < 2097152) : (PR d xss k n).scrub (· == e) = PR d xss k n := by
  have := Hp.scrub_add (H := Hp.emp) (d := d) (k := k) (n := n) (xss := xss) he
  rw [Hp.scrub_emp, Hp.emp_add] at this
  exact this
theorem PR_lit {d k n h : Nat} {xss : List (List Int)} (hh : h < 2097152) (hne : h ≠ d) : (PR d xss k n) h = none := PR_out (famB_low (by rw [FB_eq]; exact hh) hne)
/-- A row of a family is written. -/
theorem RR_upd {d i n : Nat} {xss : List (List Int)} {ys : List Int} (hd : d < 2097152) (hi : i < xss.length) (hx : xss.length ≤ 2097152) (hn : n = ys.length) (hy : ys.length = (xss.getD i []).length) : (RR d xss).upd (sub d i) (.cells n (cM iv 0 ys)) = RR d (xss.set i ys) := by
  subst hn
  have hiF : i < FB := by rw [FB_eq]; omega
  have hlen : (xss.set i ys).length = xss.length := by simp
  have gd : ∀ j, j < xss.length → (xss.set i ys).getD j [] = if j = i then ys else xss.getD j [] := by
    intro j hj
    simp only [List.getD_eq_getElem?_getD, List.getElem?_set]
    by_cases e : j = i
    · subst e; simp [hj]
    · have : ¬ i = j := fun h => e h.symm
      simp [this, e]
  funext g
  simp only [Hp.upd]
  by_cases h1 : g = sub d i
  · subst h1
    have := PR_sub (xss := xss.set i ys) (n := (xss.set i ys).length) (show d < FB from hd) (show i < (xss.set i ys).length by omega) (by rw [FB_eq]; omega)
    rw [if_pos rfl]
    show _ = PR d (xss.set i ys) (xss.set i ys).length (xss.set i ys).length (sub d i)
    rw [this, gd i hi]
    simp
  · rw [if_neg h1]
    unfold RR PR
    rw [hlen]
    by_cases h2 : g = d
    · subst h2
      simp only [if_true, Option.some.injEq]
      congr 1
      funext j
      unfold mixF
      split
      · rename_i hj
        rw [gd j hj]
        by_cases e : j = i
        · subst e; simp [hy]
        · simp [e]
      · rfl
    · simp only [h2, if_false]
      split
      · rename_i e1
        have hne : g % FB ≠ i := fun e => h1 (by rw [sub_of e1.1, e])
        rw [gd _ e1.2]
        simp [hne]
      · rfl
theorem pz_ren (p : Pz) (ρ : Nat → Nat) : (pz p).ren ρ = pz p := by
  simp only [pz, AV.ren]
  congr 1
  funext i
  match i with
  | 0 => rfl
  | 1 => rfl
  | 2 => rfl
  | i + 3 => simp [vecF, AV.ren]
theorem end_retII {t : Tmp} {d n : Nat} {xss : List (List Int)} (hr : fn.results.toList = [.tmp t]) (hA : A.get t = some (.own d 0 1 n)) (hn : n = xss.length) (hl : Hp.le (RR d xss) H) : endQ P N fn (retII d xss) .ret A H := by
  subst hn
  exact ⟨A, RR d xss, Sub.mk (fun _ _ h => h) hl, by rw [hr]; simp only [resVC, hA]; exact ⟨rfl, rfl⟩⟩
theorem end_MM {t : Tmp} {h : Nat} {a a' : AV} {xss : List (List Int)} (hr : fn.results.toList = [.tmp t]) (hA : A.get t = some a') (hl : Hp.le (RR h xss) H) (e : a' = a) : endQ P N fn (postMM h a xss) .ret A H := by
  subst e
  exact ⟨A, RR h xss, Sub.mk (fun _ _ h => h) hl, by rw [hr]; simp only [resVC, hA]; exact ⟨rfl, rfl⟩⟩
theorem fits_N {D : Nat → Prop} {h n : Nat} {xs : List Int} (hH : H h = some (.cells n (cM iv 0 xs))) (hD : D h) : Fits H D (.own h 0 1 n) (.list false 1 n (cM iv 0 xs)) :=
  .own hH hD (by omega) (fun _ _ => trivial) (fun i _ => by rw [Nat.zero_add]; exact .refl _)
end
attribute [go_sem] pzo famB_lit add_lit Hp.scrub_add PR_scrub Hp.scrub_fam
end Go.Av

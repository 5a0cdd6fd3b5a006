/- Ends of functions, calls: the usual forms. -/
import Derived.Test.YtfgblelbhlpfjaaAv15
namespace Go.Av

theorem CallG_congr {P : Program} {N : Cx} {f : FuncId} {args args' : List AV} {A : Fr} {H : Hp} {K : AV → Fr → Hp → Prop} (h : args = args') : CallG P N f args A H K = CallG P N f args' A H K := by rw [h]
attribute [congr] CallG_congr
theorem AWP_congr {P : Program} {N : Cx} {c : Code} {Q : Exit → Fr → Hp → Prop} {A A' : Fr} {H H' : Hp} (h : A = A') (k : H = H') : AWP P N c Q A H = AWP P N c Q A' H' := by rw [h, k]
attribute [congr] AWP_congr

/-- A result that holds no name, and no memory of its own. -/
def retV (a : AV) : AV → Hp → Prop := fun r H => r = a ∧ H = Hp.emp
/-- A new row of int64. -/
def retI (d : Nat) (xs : List Int) : AV → Hp → Prop := fun r H => r = .own d 0 1 xs.length ∧ H = Hp.emp.upd d (.cells xs.length (cM iv 0 xs))
/-- A new row of int64, and a bool. -/
def retIB (d : Nat) (xs : List Int) (b : Bool) : AV → Hp → Prop := fun r H => r = .tup 2 (vecF [.own d 0 1 xs.length, .v (.bool b)]) ∧ H = Hp.emp.upd d (.cells xs.length (cM iv 0 xs))

section
variable {P : Program} {N : Cx} {A : Fr} {H : Hp} {fn : Func}

theorem Sub.kill (N : Cx) (A : Fr) (H : Hp) : Sub N A H A Hp.emp := Sub.mk (fun _ _ h => h) (fun h B hB => by simp [Hp.emp] at hB)

theorem end_retV {t : Tmp} {a : AV} (hr : fn.results.toList = [.tmp t]) (h : A.get t = some a) : endQ P N fn (retV a) .ret A H :=
  ⟨A, Hp.emp, Sub.kill N A H, by rw [hr]; simp only [resVC, h]; exact ⟨rfl, rfl⟩⟩
theorem end_retV2 {t u : Tmp} {a b : AV} (hr : fn.results.toList = [.tmp t, .tmp u]) (h : A.get t = some a) (k : A.get u = some b) : endQ P N fn (retV (.tup 2 (vecF [a, b]))) .ret A H :=
  ⟨A, Hp.emp, Sub.kill N A H, by rw [hr]; simp only [resVC, h, k]; exact ⟨rfl, rfl⟩⟩

theorem ren_cM (ρ : Nat → Nat) (n : Nat) (xs : List Int) : (Blk.cells n (cM iv 0 xs)).ren ρ = .cells n (cM iv 0 xs) := rfl

theorem upd_some {h d : Nat} {b B : Blk} (k : (Hp.emp.upd d b) h = some B) : h = d ∧ B = b := by
  simp only [Hp.upd, Hp.emp] at k
  split at k
  · simp only [Option.some.injEq] at k; exact ⟨by assumption, k.symm⟩
  · simp at k

/-- A name's row under another name: all else forgotten. -/
theorem Sub.one {i : Nat} {h n m d : Nat} {f : Nat → AV} (hA : A.get i = some (.own h 0 1 n)) (hH : H h = some (.cells m f)) (hf : ∀ ρ, (Blk.cells m f).ren ρ = .cells m f) (hpn : N.pn = fun _ => false) :
    Sub N A H [(i, .own d 0 1 n)] (Hp.emp.upd d (.cells m f)) := by
  refine Sub.ren (fun g => if g = d then h else g) ?_ ?_ ?_ ?_
  · intro j c hc
    simp only [Fr.get] at hc
    split at hc
    · rename_i e; subst e; simp only [Option.some.injEq] at hc; subst hc; simpa [AV.ren] using hA
    · simp at hc
  · intro g B hB
    obtain ⟨rfl, rfl⟩ := upd_some hB
    simp only [if_true, hf]; exact hH
  · intro g g' h1 h2 _
    cases e1 : (Hp.emp.upd d (.cells m f)) g with
    | none => exact absurd e1 h1
    | some B =>
      cases e2 : (Hp.emp.upd d (.cells m f)) g' with
      | none => exact absurd e2 h2
      | some B' => rw [(upd_some e1).1, (upd_some e2).1]
  · intro g hg; simp [hpn] at hg

theorem end_retI {t : Tmp} {h d m : Nat} {xs : List Int} (hr : fn.results.toList = [.tmp t]) (hA : A.get t = some (.own h 0 1 m)) (hH : H h = some (.cells m (cM iv 0 xs))) (hm : m = xs.length) (hpn : N.pn = fun _ => false) :
    endQ P N fn (retI d xs) .ret A H := by
  subst hm
  refine ⟨_, _, Sub.one (d := d) hA hH (fun _ => rfl) hpn, ?_⟩
  rw [hr]; simp only [resVC, Fr.get]; exact ⟨rfl, rfl⟩

theorem Sub.one' {i j : Nat} {h n m d : Nat} {b : Bool} {f : Nat → AV} (hA : A.get i = some (.own h 0 1 n)) (hB : A.get j = some (.v (.bool b))) (hH : H h = some (.cells m f)) (hf : ∀ ρ, (Blk.cells m f).ren ρ = .cells m f) (hpn : N.pn = fun _ => false) :
    Sub N A H [(i, .own d 0 1 n), (j, .v (.bool b))] (Hp.emp.upd d (.cells m f)) := by
  refine Sub.ren (fun g => if g = d then h else g) ?_ ?_ ?_ ?_
  · intro k c hc
    simp only [Fr.get] at hc
    split at hc
    · rename_i e; subst e; simp only [Option.some.injEq] at hc; subst hc; simpa [AV.ren] using hA
    · split at hc
      · rename_i e; subst e; simp only [Option.some.injEq] at hc; subst hc; simpa [AV.ren] using hB
      · simp at hc
  · intro g B hB
    obtain ⟨rfl, rfl⟩ := upd_some hB
    simp only [if_true, hf]; exact hH
  · intro g g' h1 h2 _
    cases e1 : (Hp.emp.upd d (.cells m f)) g with
    | none => exact absurd e1 h1
    | some B =>
      cases e2 : (Hp.emp.upd d (.cells m f)) g' with
      | none => exact absurd e2 h2
      | some B' => rw [(upd_some e1).1, (upd_some e2).1]
  · intro g hg; simp [hpn] at hg

theorem end_retIB {t u : Tmp} {h d m : Nat} {b : Bool} {xs : List Int} (hr : fn.results.toList = [.tmp t, .tmp u]) (htu : t ≠ u) (hA : A.get t = some (.own h 0 1 m)) (hB : A.get u = some (.v (.bool b))) (hH : H h = some (.cells m (cM iv 0 xs))) (hm : m = xs.length) (hpn : N.pn = fun _ => false) :
    endQ P N fn (retIB d xs b) .ret A H := by
  subst hm
  refine ⟨_, _, Sub.one' (d := d) hA hB hH (fun _ => rfl) hpn, ?_⟩
  rw [hr]; simp only [resVC, Fr.get, htu, if_true, if_false, withA_some]; exact ⟨rfl, rfl⟩
/-- .. where the slice is nil. -/
theorem end_retI_nil {t : Tmp} {d : Nat} (hr : fn.results.toList = [.tmp t]) (hA : A.get t = some (.v (.slice none 0 0))) (hpn : N.pn = fun _ => false) : endQ P N fn (retI d []) .ret A H := by
  refine ⟨[(t, .own d 0 1 0)], _, (Sub.nil (N := N) d 1 (cM iv 0 []) hA (by simp [hpn])).trans (Sub.to (H' := Hp.emp.upd d (.cells 0 (cM iv 0 []))) (by simp [Fr.sub, Fr.get]) ?_), ?_⟩
  · intro h B hB
    obtain ⟨rfl, rfl⟩ := upd_some hB
    simp [Hp.scrub, Hp.upd, Blk.scrub, cM, iv, AV.scrub]
    rfl
  · rw [hr]; simp only [resVC, Fr.get]; exact ⟨rfl, rfl⟩
theorem end_retIB_nil {t u : Tmp} {d : Nat} {b : Bool} (hr : fn.results.toList = [.tmp t, .tmp u]) (htu : t ≠ u) (hA : A.get t = some (.v (.slice none 0 0))) (hB : A.get u = some (.v (.bool b))) (hpn : N.pn = fun _ => false) : endQ P N fn (retIB d [] b) .ret A H := by
  refine ⟨[(t, .own d 0 1 0), (u, .v (.bool b))], _, (Sub.nil (N := N) d 1 (cM iv 0 []) hA (by simp [hpn])).trans (Sub.to (H' := Hp.emp.upd d (.cells 0 (cM iv 0 []))) ?_ ?_), ?_⟩
  · simp only [Fr.sub, Fr.get, Fr.get_scrub, htu, if_true, if_false, hB, Option.map_some, AV.scrub, and_self]
  · intro h B hB
    obtain ⟨rfl, rfl⟩ := upd_some hB
    simp [Hp.scrub, Hp.upd, Blk.scrub, cM, iv, AV.scrub]
    rfl
  · rw [hr]; simp only [resVC, Fr.get, htu, if_true, if_false, withA_some]; exact ⟨rfl, rfl⟩

/- calls -/
theorem over_emp (p : Nat → Bool) (H : Hp) : Hp.over (Hp.emp.scrub p) H Hp.emp = H := by
  funext h; simp [Hp.over, Hp.scrub, Hp.emp]

/-- A call that hands back a value without memory of its own; what we own may be handed over to be read. -/
theorem call_V {f : FuncId} {args args' : List AV} {a : AV} {pn : Nat → Bool} {K : AV → Fr → Hp → Prop} (hac : AC P f args' Hp.emp pn (retV a)) (ha : a.solid) (hpl : a.scrub (fun _ => true) = a) (hfit : FitsL H (fun _ => True) args args')
    (hK : K a A H) : CallG P N f args A H K := by
  refine callG_of hac (fun _ => false) true (by simp [Hp.emp]) (by simpa [Hp.emp] using hfit) (by simp) (by simp [Hp.emp]) (by simp) ?_
  rintro r H' ⟨rfl, rfl⟩
  refine ⟨by simp [Hp.emp], fun _ => ⟨ha, by simp [Hp.emp]⟩, ?_⟩
  have e1 : (fun h => !liveB Hp.emp h) = fun _ => true := by funext h; simp [liveB, Hp.emp]
  rw [e1, hpl, Fr.scrub_none, Hp.scrub_none]
  have e2 : Hp.over (Hp.emp.scrub fun _ => true) H Hp.emp = H := over_emp _ H
  rw [e2]; exact hK

theorem over_upd (H : Hp) (d : Nat) (B : Blk) (q : Nat → Bool) : Hp.over ((Hp.emp.upd d B).scrub q) H Hp.emp = H.upd d (B.scrub q) := by
  funext h
  simp only [Hp.over, Hp.scrub, Hp.upd, Hp.emp]
  by_cases hd : h = d <;> simp [hd]

theorem call_I {f : FuncId} {args args' : List AV} {d : Nat} {xs : List Int} {pn : Nat → Bool} {K : AV → Fr → Hp → Prop} (hac : AC P f args' Hp.emp pn (retI d xs)) (hd : N.pn d = false) (hfit : FitsL H (fun _ => True) args args')
    (hK : K (.own d 0 1 xs.length) (A.scrub (· == d)) ((H.scrub (· == d)).upd d (.cells xs.length (cM iv 0 xs)))) : CallG P N f args A H K := by
  refine callG_of hac (· == d) true (by simp [Hp.emp]) (by simpa [Hp.emp] using hfit) (by simp) (by simp [Hp.emp]) (by intro h hh; simp; rintro rfl; simp [hd] at hh) ?_
  rintro r H' ⟨rfl, rfl⟩
  have live : ∀ h, (Hp.emp.upd d (.cells xs.length (cM iv 0 xs))) h ≠ none → h = d := by
    intro h hn
    cases e : (Hp.emp.upd d (.cells xs.length (cM iv 0 xs))) h with
    | none => exact absurd e hn
    | some B => exact (upd_some e).1
  refine ⟨fun h hn _ => by simp [live h hn], fun _ => ⟨trivial, fun h B hB => ?_⟩, ?_⟩
  · obtain ⟨rfl, rfl⟩ := upd_some hB
    intro i hi; trivial
  · rw [over_upd]
    have : (AV.own d 0 1 xs.length).scrub (fun h => !liveB (Hp.emp.upd d (.cells xs.length (cM iv 0 xs))) h) = .own d 0 1 xs.length := by simp [AV.scrub, liveB, Hp.upd]
    rw [this]; exact hK

theorem call_IB {f : FuncId} {args args' : List AV} {d : Nat} {b : Bool} {xs : List Int} {pn : Nat → Bool} {K : AV → Fr → Hp → Prop} (hac : AC P f args' Hp.emp pn (retIB d xs b)) (hd : N.pn d = false) (hfit : FitsL H (fun _ => True) args args')
    (hK : K (.tup 2 (vecF [.own d 0 1 xs.length, .v (.bool b)])) (A.scrub (· == d)) ((H.scrub (· == d)).upd d (.cells xs.length (cM iv 0 xs)))) : CallG P N f args A H K := by
  refine callG_of hac (· == d) true (by simp [Hp.emp]) (by simpa [Hp.emp] using hfit) (by simp) (by simp [Hp.emp]) (by intro h hh; simp; rintro rfl; simp [hd] at hh) ?_
  rintro r H' ⟨rfl, rfl⟩
  have live : ∀ h, (Hp.emp.upd d (.cells xs.length (cM iv 0 xs))) h ≠ none → h = d := by
    intro h hn
    cases e : (Hp.emp.upd d (.cells xs.length (cM iv 0 xs))) h with
    | none => exact absurd e hn
    | some B => exact (upd_some e).1
  refine ⟨fun h hn _ => by simp [live h hn], fun _ => ⟨?_, fun h B hB => ?_⟩, ?_⟩
  · intro i hi
    match i, hi with
    | 0, _ => trivial
    | 1, _ => trivial
  · obtain ⟨rfl, rfl⟩ := upd_some hB
    intro i hi; trivial
  · rw [over_upd]
    have : (AV.tup 2 (vecF [.own d 0 1 xs.length, .v (.bool b)])).scrub (fun h => !liveB (Hp.emp.upd d (.cells xs.length (cM iv 0 xs))) h) = .tup 2 (vecF [.own d 0 1 xs.length, .v (.bool b)]) := by
      simp only [AV.scrub]
      congr 1
      funext i
      match i with
      | 0 => simp [vecF, AV.scrub, liveB, Hp.upd]
      | 1 => simp [vecF, AV.scrub]
      | i + 2 => simp [vecF, AV.scrub]
    rw [this]; exact hK

/-- A row of our own, handed over to be read. -/
theorem fits_I {D : Nat → Prop} {h off n : Nat} {xs : List Int} (hH : H h = some (.cells n (cM iv 0 xs))) (hD : D h) (ho : off = 0) (hn : n = xs.length) : Fits H D (.own h off 1 n) (ints xs) := by
  subst ho hn
  refine .own hH hD (by omega) (fun _ _ => trivial) (fun i _ => ?_)
  simp only [Nat.zero_add]; exact .refl _

end
end Go.Av

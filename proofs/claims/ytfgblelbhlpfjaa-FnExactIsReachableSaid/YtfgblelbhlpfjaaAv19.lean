/- Results that are only read. -/
import Derived.Test.YtfgblelbhlpfjaaAv18
namespace Go.Av
section
variable {P : Program} {N : Cx} {A : Fr} {H : Hp} {fn : Func}

/-- A result of a call may be frozen: it is only read from then on. -/
theorem AC.frz {f : FuncId} {args : List AV} {Hin : Hp} {pn : Nat → Bool} {post : AV → Hp → Prop} {a : AV} (hac : AC P f args Hin pn post)
    (hq : ∀ r H, post r H → Fits H (fun _ => True) r a) : AC P f args Hin pn (retV a) := by
  refine ⟨hac.1, fun S w L vs hS hpin s hargs => (hac.2 S w L vs hS hpin s hargs).mono ?_⟩
  rintro e w' ⟨u, L', r, H', rfl, s2, hr, hp⟩
  have h1 := (hq r H' hp).rd s2 u hr
  have hok : ∀ b, okD S H' L' (fun _ => True) b → okb S Hp.emp L' b := fun b hb => ⟨hb.1, fun h q hn => by simp [Hp.emp] at hn⟩
  refine ⟨u, L', a, Hp.emp, rfl, ⟨s2.keep, rfl, fun i a h => by simp [Fr.get] at h, fun h B hB => by simp [Hp.emp] at hB, fun h q hn => by simp [Hp.emp] at hn, fun h g q r hn => by simp [Hp.emp] at hn, s2.pin⟩,
    Rd.mono (fun b _ hb => hok b hb) h1, rfl, rfl⟩

theorem AC.frzI {f : FuncId} {args : List AV} {d : Nat} {xs : List Int} {pn : Nat → Bool} (hac : AC P f args Hp.emp pn (retI d xs)) : AC P f args Hp.emp pn (retV (ints xs)) :=
  hac.frz fun r H h => by
    obtain ⟨rfl, rfl⟩ := h
    exact fits_I (by simp [Hp.upd]) trivial rfl rfl

/-- A call that hands back a value that is only read; what it is handed is only read. -/
theorem callR {f : FuncId} {args args' : List AV} {a : AV} {pn : Nat → Bool} {K : AV → Fr → Hp → Prop} (he : args = args') (hac : AC P f args' Hp.emp pn (retV a)) (hpl : a.scrub (fun _ => true) = a)
    (hK : K a A H) : CallG P N f args A H K := by
  subst he
  refine callG_of hac (fun _ => false) false (by simp [Hp.emp]) (FitsL.refl _) (fun _ => rfl) (by simp [Hp.emp]) (by simp) ?_
  rintro r H' ⟨rfl, rfl⟩
  refine ⟨by simp [Hp.emp], by simp, ?_⟩
  have e1 : (fun h => !liveB Hp.emp h) = fun _ => true := by funext h; simp [liveB, Hp.emp]
  rw [e1, hpl, Fr.scrub_none, Hp.scrub_none, over_emp]
  exact hK

/-- The end of a function whose result is frozen there. -/
theorem end_retF {t : Tmp} {a a' : AV} (hr : fn.results.toList = [.tmp t]) (h : A.get t = some a') (e : Fits H (fun _ => True) a' a) : endQ P N fn (retV a) .ret A H :=
  ⟨[(t, a)], Hp.emp, Sub.fits (fun _ => True) (fun i c hc => by
      simp only [Fr.get] at hc
      split at hc
      · rename_i e1; subst e1; simp only [Option.some.injEq] at hc; subst hc; exact ⟨a', h, e⟩
      · simp at hc) (fun h B hB => by simp [Hp.emp] at hB), by rw [hr]; simp only [resVC, Fr.get]; exact ⟨rfl, rfl⟩⟩

/-- .. whose result stands in a cell. -/
theorem end_retC {t : Tmp} {ty : TypeId} {h off n M : Nat} {z : List Value} {f g : Nat → AV} (hr : fn.results.toList = [.cell t ty]) (hA : A.get t = some (.ref h off)) (hty : tyOf P ty = some ⟨true, n, z⟩) (hH : H h = some (.cells M g)) (hle : off + n ≤ M)
    (hp : ∀ i, i < n → (f i).plain) (hf : ∀ i, i < n → Fits H (fun _ => True) (g (off + i)) (f i)) : endQ P N fn (retV (.agg n f)) .ret A H :=
  ⟨[(t, .ptr n f)], Hp.emp, Sub.fits (fun _ => True) (fun i c hc => by
      simp only [Fr.get] at hc
      split at hc
      · rename_i e1; subst e1; simp only [Option.some.injEq] at hc; subst hc; exact ⟨_, hA, .ref hH trivial hle hp hf⟩
      · simp at hc) (fun h B hB => by simp [Hp.emp] at hB), by
    rw [hr]; simp only [resVC, Fr.get, if_true, withA_some, hty, ldVC, Ob]; exact ⟨Nat.le_refl _, _, Hp.le_refl _, rfl, rfl⟩⟩

theorem fits_clo1 {D : Nat → Prop} {k : Nat} {a c : AV} (h : Fits H D a c) : Fits H D (.clo k 1 (vecF [a])) (.clo k 1 (fun _ => c)) := by
  refine .clo fun i hi => ?_
  have : i = 0 := by omega
  subst this; exact h
theorem fits_ref1 {D : Nat → Prop} {h M : Nat} {x : AV} (hH : H h = some (.cells M (fun _ => x))) (hD : D h) (hM : 1 ≤ M) (hx : x.plain) : Fits H D (.ref h 0) (.ptr 1 (fun _ => x)) :=
  .ref hH hD (by omega) (fun _ _ => hx) (fun _ _ => .refl _)
/-- The first so many of a row. -/
theorem fits_T {D : Nat → Prop} {n m : Nat} {xs : List Int} (h : n = m) (hm : m ≤ xs.length) : Fits H D (.list false 1 n (cM iv 0 xs)) (ints (xs.take m)) := by
  subst h
  have hl : (xs.take n).length = n := by simp; omega
  unfold ints
  rw [hl]
  refine .list (fun h => by simp at h) (fun _ _ => trivial) (fun i hi => ?_)
  have e : (cM iv 0 xs) i = (cM iv 0 (xs.take n)) i := by
    have hi : i < n := by omega
    simp only [cM]
    congr 1
    simp [hi]
  rw [e]; exact .refl _
/-- A row of rows of our own whose elements are only read. -/
theorem fits_II {D : Nat → Prop} {h off n : Nat} {xs : List (List Int)} (hH : H h = some (.cells n (cM ints [] xs))) (hD : D h) (ho : off = 0) (hn : n = xs.length) : Fits H D (.own h off 1 n) (intss xs) := by
  subst ho hn
  refine .own hH hD (by omega) (fun _ _ => by first | exact trivial | exact fun _ => trivial | exact fun _ _ => trivial) (fun i _ => ?_)
  simp only [Nat.zero_add]; exact .refl _
end

/-- What a puzzle is. -/
structure Pz where
  n : Int
  s : ByteArray
  m : List (List Int)
def pz (p : Pz) : AV := .agg 3 (vecF [iv p.n, sv p.s, intss p.m])

theorem vecF_plain {l : List AV} (h : ∀ a ∈ l, a.plain) (i : Nat) : (vecF l i).plain := by
  simp only [vecF, List.getD_eq_getElem?_getD]
  cases e : l[i]? with
  | none => exact trivial
  | some a => exact h a (List.mem_of_getElem? e)
theorem pz_plain (p : Pz) : (pz p).plain := fun i _ => vecF_plain (by
  intro a ha
  simp only [List.mem_cons, List.not_mem_nil, or_false] at ha
  rcases ha with rfl | rfl | rfl <;> trivial) i

theorem vecF_scrub (p : Nat → Bool) (l : List AV) (i : Nat) : (vecF l i).scrub p = vecF (l.map (AV.scrub p)) i := by
  simp only [vecF, List.getD_eq_getElem?_getD, List.getElem?_map]
  cases l[i]? <;> rfl
theorem scF_vecF (p : Nat → Bool) (l : List AV) : scF p (vecF l) = vecF (l.map (AV.scrub p)) := by
  funext i; exact vecF_scrub p l i
attribute [go_sem] scF_vecF
theorem setF_app (f : Nat → AV) (i : Nat) (x : AV) (j : Nat) : setF f i x j = if j = i then x else f j := rfl
theorem zF2_0 (a b : Value) : zF [a, b] 0 = .v a := rfl
theorem zF2_1 (a b : Value) : zF [a, b] 1 = .v b := rfl
theorem zF3_0 (a b c : Value) : zF [a, b, c] 0 = .v a := rfl
theorem zF3_1 (a b c : Value) : zF [a, b, c] 1 = .v b := rfl
theorem zF3_2 (a b c : Value) : zF [a, b, c] 2 = .v c := rfl
theorem pz_scrub (p : Pz) (q : Nat → Bool) : (pz p).scrub q = pz p := by
  simp only [pz, AV.scrub]; congr 1; funext i; rw [vecF_scrub]; rfl
attribute [go_sem] List.length_cons setF_app zF2_0 zF2_1 zF3_0 zF3_1 zF3_2
theorem zF_ints (n : Nat) : Blk.cells n (zF [.slice none 0 0]) = .cells n (fun _ => .v (.slice none 0 0)) := by
  congr 1; funext i; simp [zF, Nat.mod_one]
end Go.Av

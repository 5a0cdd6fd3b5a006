import Derived.Test.YtpffmolibjimgaaGreatDoorJ17
import Derived.Test.YtpffmolibjimgaaGreatDoorJ3
import Derived.Test.YtpffmolibjimgaaGreatDoorJ2
/- Regions in sequence of which the first operations only read, and lay literals that nobody writes. -/
section
namespace Go.Av
section
variable {P : Program} {N : Cx} {A A' : Fr} {H H' : Hp}
def opsJ (P : Program) (N : Cx) (ds : List (Option Tmp)) (Q : Fr → Hp → Prop) : Nat → List Oper → Fr → Hp → Prop
  | 0, l, A, H => opsVC P N ds Q l A H
  | m + 1, o :: l, A, H => opQ P N (o.dst.getD 0) o.op A H fun r => opsJ P N ds Q m l (putd o.dst r A) H
  | _ + 1, [], _, _ => False
theorem opsJ_0 (ds : List (Option Tmp)) (Q : Fr → Hp → Prop) (l : List Oper) (A : Fr) (H : Hp) : opsJ P N ds Q 0 l A H = opsVC P N ds Q l A H := rfl
theorem opsJ_succ (ds : List (Option Tmp)) (Q : Fr → Hp → Prop) (m : Nat) (o : Oper) (l : List Oper) (A : Fr) (H : Hp) : opsJ P N ds Q (m + 1) (o :: l) A H = opQ P N (o.dst.getD 0) o.op A H fun r => opsJ P N ds Q m l (putd o.dst r A) H := rfl
theorem opsJ_sound {ops : Array Oper} {Q : Fr → Hp → Prop} (hds : ∀ j t, (ops.toList.map (·.dst)).getD j none = some t → t < N.n) : ∀ (m : Nat) (l : List Oper) (A : Fr) (H : Hp), (∀ o ∈ l.take m, o.guard = none) → (∀ o ∈ l, ∀ t, o.dst = some t → t < N.n) →
    opsJ P N (ops.toList.map (·.dst)) Q m l A H → AOps P N ops l Q A H
  | 0, l, A, H, _, hN, h => opsVC_sound l A H hN hds h
  | m + 1, [], A, H, _, _, h => h.elim
  | m + 1, o :: l, A, H, hG, hN, h => by
    rw [opsJ_succ] at h
    obtain ⟨r, hK, hr⟩ := opQ_ok (N := N) h
    refine aops_cons (hG o (by simp)) (hN o List.mem_cons_self) ?_
    have ih := opsJ_sound hds m l (putd o.dst r A) H (fun p hp => hG p (by rw [List.take_succ_cons]; exact List.mem_cons_of_mem _ hp)) (fun p hp => hN p (List.mem_cons_of_mem _ hp)) hK
    refine (hr A fun _ _ => rfl).mono fun r' A' H' hk => ?_
    obtain ⟨rfl, rfl, rfl⟩ := hk
    exact ih
theorem awp_regionJK {A : Fr} {H : Hp} (ks m : Nat) {id : Nat} {l : List Oper} {Q : Exit → Fr → Hp → Prop} (hG : ((l.take m).all fun o => o.guard.isNone) = true) (hN : dstsOk N l = true)
    (h : opsJ P N (l.map (·.dst)) (keepQ ks Q .normal) m l A H) : AWP P N (.region id l.toArray false) Q A H := by
  have hm := dstsOk_mem hN
  refine awp_weak (awp_region (opsJ_sound (fun j t ht => ?_) m l A H (fun o ho => ?_) hm (by simpa using h))) keepQ_weak
  · simp only [List.getD_eq_getElem?_getD, List.getElem?_map] at ht
    cases ho : l[j]? with
    | none => simp [ho] at ht
    | some x => exact hm x (List.mem_of_getElem? ho) t (by simpa [ho] using ht)
  · have := List.all_eq_true.1 hG o ho
    simpa using this
end
end Go.Av
end
/- Rows of our own whose elements are frozen rows. -/
section
namespace Go.Av
section
variable {P : Program} {N : Cx} {A : Fr} {H : Hp}
end
end Go.Av
end
/- Calls whose result holds a row of our own whose elements are frozen rows (a puzzle in the making), beside a source or alone. -/
section
namespace Go.Av
section
variable {P : Program} {N : Cx} {A : Fr} {H : Hp}
theorem end_postCF2 (D : Nat → Prop) {fn : Func} {t t2 : Tmp} {ty : TypeId} {h n : Nat} {z : List Value} {f g : Nat → AV} {a a' : AV} {H' : Hp} {post : AV → Hp → Prop} (hr : fn.results.toList = [.cell t ty, .tmp t2]) (htu : t ≠ t2) (hA : A.get t = some (.ref h 0)) (ha : A.get t2 = some a) (hf : Fits H D a a') (hty : tyOf P ty = some ⟨true, n, z⟩) (hH : H h = some (.cells n f)) (hg : ∀ i, i < n → Fits H D (f i) (g i))
    (hl : LeF D H' H) (hne : H' h = none) (hD : ¬ D h) (hp : post (.tup 2 (vecF [.agg n g, a'])) H') : endQ P N fn post .ret A H := by
  refine ⟨[(t, .ref h 0), (t2, a')], H'.upd h (.cells n g), Sub.fits D (fun i c hc => ?_) (leF_upd hH ⟨rfl, hg⟩ hl hD), ?_⟩
  · simp only [Fr.get] at hc
    split at hc
    · rename_i e; subst e; cases hc; exact ⟨_, hA, .refl _⟩
    · split at hc
      · rename_i e; subst e; cases hc; exact ⟨_, ha, hf⟩
      · cases hc
  rw [hr]
  simp only [resVC, Fr.get, if_true, if_neg htu, withA_some, hty, ldVC, Hp.upd, Ob]
  refine ⟨by omega, H', fun x B hB => ?_, ?_⟩
  · unfold Hp.upd
    split
    · rename_i e; subst e; rw [hne] at hB; cases hB
    · exact hB
  · have : (fun j => g (0 + j)) = g := by funext j; rw [Nat.zero_add]
    rw [this]; exact hp
end
end Go.Av
end

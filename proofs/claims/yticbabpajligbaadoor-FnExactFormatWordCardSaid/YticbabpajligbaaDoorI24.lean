import Derived.Test.YticbabpajligbaaDoorI1
import Derived.RangeFuncNested
import Derived.Calls
import Derived.RangeFuncBound
import Derived.RangeFuncCalls
import Derived.RangeFuncLeaves
import Derived.RangeFuncBox
import Derived.Shelf.Abstract
import Derived.Shelf.RegionOpen
import Derived.WalkKit
import Derived.OwnWalkIn
import Derived.TacticsInMore
import Derived.LoopNIn
import Derived.LoopIn
import Derived.Maps.AppendAt
import Derived.Test.YticbabpajligbaaDoorChecked
import Derived.Test.YticbabpajligbaaDoorI4
import Derived.Test.YticbabpajligbaaDoorI3
/- A range over a function whose iterator hands out parts of a row that is only read (slices.Chunk). -/
section
namespace Go.Av
set_option linter.unusedVariables false
/-- How many parts of c cells n cells have. -/
def nch (c n : Nat) : Nat := (n + c - 1) / c
/-- Part k, as a value; and what it is good for. -/
def chV (c b off n : Nat) (k : Nat) : Value := .slice (some ⟨b, off + c * k, none⟩) (min c (n - c * k)) (min c (n - c * k))
def chA (c n : Nat) (f : Nat → AV) (k : Nat) : AV := .list false 1 (min c (n - c * k)) fun i => f (c * k + i)
/-- Two blocks as they were. -/
def Kc (B1 B2 : Nat) (w w' : World) : Prop := w'.heap[B1]? = w.heap[B1]? ∧ w'.heap[B2]? = w.heap[B2]?
/-- What an iterator over parts of c cells must do, its row in the box B1, s1, the number c in the box B2, s2. -/
def ChunkIt (P : Program) (gf : FuncId) (c : Nat) : Prop := ∀ (n B1 s1 B2 s2 b off len cap : Nat) (w : World), 2 ≤ n → w.cell? ⟨B1, s1, none⟩ = some (.slice (some ⟨b, off, none⟩) len cap) → w.cell? ⟨B2, s2, none⟩ = some (.int .i64 c) → 1 ≤ len → len ≤ cap → len ≤ 1048576 →
  SeqStopsK (FF none) n P gf #[.pointer (some ⟨B1, s1, none⟩), .pointer (some ⟨B2, s2, none⟩)] (fun k : Nat => #[chV c b off len k]) (Kc B1 B2) (fun ys => ys = List.range (nch c len)) (fun _ => True) (nch c len) w
theorem wpIn_n {P : Program} {ro : Option Nat} {n m : Nat} {c : Code} {Q : Exit → Act → World → Prop} {a : Act} {w : World} (h : c.wpIn (FF ro) n P Q a w) : c.wpIn (FF ro) m P Q a w :=
  fun b k cs hro hb _ => h b k cs hro hb (fun d hd => by cases hd)
theorem wpList_nil {P : Program} {ops : Array Oper} {Q : Exit → Act → World → Prop} {a : Act} {w : World} (h : Q .normal a w) : wpList P ops Q [] a w := fun _ _ => h
/-- The part that a row's reading gives. -/
theorem rd_chunk {w : World} {ok : Nat → Prop} {L : Loc} {nn : Bool} {n : Nat} {f : Nat → AV} {b off cap : Nat} (c k : Nat) (h : Rd w ok L (.list nn 1 n f) (.slice (some ⟨b, off, none⟩) n cap)) : Rd w ok L (chA c n f k) (chV c b off n k) := by
  obtain ⟨a, cap', hu, h1, h2, h3, h4⟩ := h
  injection hu with e1 e2 e3
  refine ⟨_, _, rfl, Nat.le_refl _, fun h => (by cases h), fun h => (by cases h), fun p hp i hi => ?_⟩
  simp only [Option.some.injEq] at hp
  subst hp
  have hlt : c * k + i < n * 1 := by omega
  obtain ⟨k1, k2, x, k3, k4⟩ := h4 _ e1.symm (c * k + i) hlt
  exact ⟨rfl, k2, x, by rw [show off + c * k + i = off + (c * k + i) by omega]; exact k3, k4⟩
section
variable {P : Program} {N N' : Cx} {A A0 : Fr} {H : Hp} {Q : Exit → Fr → Hp → Prop}
theorem Sim.cut {w0 : World} {S : Rg} {w : World} {tm : Array Value} {L : Loc} {A A' : Fr} {H H' : Hp} {n : Nat} (s : Sim n w0 S w tm L A H) (hA : ∀ i c, A'.get i = some c → A.get i = some c) (hl : Hp.le H' H) : Sim n w0 S w tm L A' H' := by
  have live : ∀ g, H' g ≠ none → H g ≠ none := fun g hn => by
    cases e : H' g with
    | none => exact absurd e hn
    | some B => rw [hl g B e]; simp
  exact ⟨s.keep, s.size, fun i a h => Rd.okm (fun b hb => okb_le hl hb) (s.slot i a (hA i a h)), fun h B hB => by
    have := BlkOk.step (wh := w) (wh' := w) (w := w) (w' := w) (ok := okb S H L) (ok' := okb S H' L) (p := fun _ => false) (fun b _ hb => ⟨okb_le hl hb, rfl⟩) (Shape.refl w) (L := L) (L' := L) (fun _ _ => rfl) (fun _ _ => rfl) (s.blk h B (hl h B hB))
    rwa [Blk.scrub_none] at this, fun h q hn hq => s.own h q (live h hn) hq, fun h g q r hn hm hq hr e => s.inj h g q r (live h hn) (live g hm) hq hr e, s.pin⟩
set_option maxHeartbeats 1000000 in
theorem awp_chunks {g : Operand} {t u : Tmp} {id : Nat} {asg : Oper} {body : Code} {gf : FuncId} {c : Nat} {fc f1 f2 : Nat → AV} {h1 o1 n1 h2 o2 n2 : Nat} {nn : Bool} {len : Nat} {f : Nat → AV} (A0 : Fr) (HH : List Nat → Hp)
    (hit : ChunkIt P gf c) (hcall : callable P gf = true) (hout : N.out = true) (hn : N'.n = N.n) (hin : N'.out = false) (hpn : ∀ h, N.pn h = true → N'.pn h = true)
    (ht : t < N.n) (hu : u < N.n) (hop : asg.op = .assign (.tmp t)) (had : asg.dst = some u) (hag : asg.guard = none)
    (hg : A.ev g = some (.clo gf 2 fc)) (hc0 : fc 0 = .ref h1 o1) (hc1 : fc 1 = .ref h2 o2) (hH1 : H h1 = some (.cells n1 f1)) (ho1 : o1 < n1) (hf1 : f1 o1 = .list nn 1 len f) (hlen : 1 ≤ len ∧ len ≤ 1048576)
    (hH2 : H h2 = some (.cells n2 f2)) (ho2 : o2 < n2) (hf2 : f2 o2 = .v (.int .i64 c))
    (hA0 : ∀ i a, A0.get i = some a → A.get i = some a) (hA0s : ∀ i a, A0.get i = some a → a.scrub (fun h => !N'.pn h) = a) (hH0 : Hp.le (HH []) H) (hb1 : HH [] h1 = none) (hb2 : HH [] h2 = none) (hcl : ∀ pre h kv, HH pre h ≠ some (.mp kv))
    (hbody : ∀ pre k, pre.length < nch c len → AWP P N' body (fun e A H => e = .normal ∧ Sub N' A H [] (HH (pre ++ [k]))) ((u, chA c len f k) :: (t, chA c len f k) :: A0) (HH pre))
    (hdone : Q .normal A0 (HH (List.range (nch c len)))) : AWP P N (.rangeFunc g #[t] (.region id #[asg] false) body) Q A H := by
  intro w0 S hS w a L s ro n hro
  obtain rfl := hro hout
  refine wpIn_n (n := 9) ?_
  obtain ⟨cs, hge, hsz, hcs⟩ := s.ev hg
  obtain ⟨p0, e0, r0⟩ := hcs 0 (by decide)
  obtain ⟨p1, e1, r1⟩ := hcs 1 (by decide)
  rw [hc0] at r0
  rw [hc1] at r1
  obtain ⟨B1, s1, hL1, rfl⟩ := r0
  obtain ⟨B2, s2, hL2, rfl⟩ := r1
  obtain rfl : cs = #[.pointer (some ⟨B1, s1 + o1, none⟩), .pointer (some ⟨B2, s2 + o2, none⟩)] := by
    apply Array.ext_getElem?
    intro i
    match i with
    | 0 => rw [e0]; rfl
    | 1 => rw [e1]; rfl
    | i + 2 => rw [Array.getElem?_eq_none (by omega), Array.getElem?_eq_none (by simp)]
  have k1 := s.blk h1 _ hH1
  have k2 := s.blk h2 _ hH2
  rw [hL1] at k1
  rw [hL2] at k2
  obtain ⟨cs1, t1, ⟨z1, hp1, _⟩, _, q1⟩ := k1
  obtain ⟨cs2, t2, ⟨z2, hp2, _⟩, _, q2⟩ := k2
  obtain ⟨sv, v1, v2⟩ := q1 o1 ho1
  obtain ⟨nv, v3, v4⟩ := q2 o2 ho2
  rw [hf1] at v2
  rw [hf2] at v4
  obtain rfl : nv = .int .i64 c := v4
  have v2' := v2
  obtain ⟨ad, cap, rfl, hcap, _, had0, hrd⟩ := v2
  obtain ⟨⟨b, off, sp⟩, rfl⟩ : ∃ p, ad = some p := by
    cases ad with
    | none => have := (had0 rfl).1; omega
    | some p => exact ⟨p, rfl⟩
  obtain rfl : sp = none := (hrd _ rfl 0 (by omega)).1
  have hB1 : B1 < w.heap.size := (Array.getElem?_eq_some_iff.1 hp1).1
  have hB2 : B2 < w.heap.size := (Array.getElem?_eq_some_iff.1 hp2).1
  have hseq := hit (9 - 1) B1 (s1 + o1) B2 (s2 + o2) b off len cap w (by decide) (by simp [World.cell?, hp1, v1]) (by simp [World.cell?, hp2, v3]) hlen.1 hcap hlen.2
  have hw0 : w0.heap.size ≤ w.heap.size := s.keep.size
  obtain ⟨I, hI⟩ : ∃ I : List Nat → World → Prop, I = fun pre W => ∃ L', Sim N.n w0 S W a.tmps L' A0 (HH pre) ∧ (∀ h, N'.pn h = true → L' h = L h) ∧ Rd W (okb S (HH pre) L') L' (.list nn 1 len f) (.slice (some ⟨b, off, none⟩) len cap) ∧ (∀ h q, HH pre h ≠ none → L' h = some q → q.1 ≠ B1 ∧ q.1 ≠ B2) ∧ w.heap.size ≤ W.heap.size := ⟨_, rfl⟩
  have hI0 : I [] w := by
    rw [hI]
    refine ⟨L, s.cut hA0 hH0, fun _ _ => rfl, Rd.okm (fun b hb => okb_le hH0 hb) v2', fun h q hn hq => ⟨fun e => ?_, fun e => ?_⟩, Nat.le_refl _⟩
    · have hH : H h ≠ none := by
        cases e2 : HH [] h with
        | none => exact absurd e2 hn
        | some B => rw [hH0 h B e2]; simp
      obtain rfl := s.inj h h1 q (B1, s1) hH (by rw [hH1]; simp) hq hL1 e
      exact hn hb1
    · have hH : H h ≠ none := by
        cases e2 : HH [] h with
        | none => exact absurd e2 hn
        | some B => rw [hH0 h B e2]; simp
      obtain rfl := s.inj h h2 q (B2, s2) hH (by rw [hH2]; simp) hq hL2 e
      exact hn hb2
  have hIown : OwnFrom w.heap.size I := by
    rw [hI]
    rintro pre X Y row ⟨L', s', hp, hr, hb, hsz⟩ hgr hrow
    have hnot : ∀ r, row = some r → ∃ o, X.heap[r]? = some o ∧ ∀ cs e fz, o ≠ .cells cs e fz := fun r e => by
      obtain ⟨_, o, h3, h4⟩ := hrow r e
      exact ⟨o, h3, fun cs e fz h => by rw [h] at h4; cases h4⟩
    have hcell : ∀ b, CellB X b → Y.heap[b]? = X.heap[b]? := fun b hb => hgr.block b hb.lt fun e => by
      obtain ⟨o, h3, h4⟩ := hnot b e.symm
      obtain ⟨cs, e, fz, h5⟩ := hb
      rw [h3] at h5
      exact h4 _ _ _ (Option.some.inj h5)
    refine ⟨L', s'.grew hgr fun r e => ⟨Nat.le_trans hw0 (hrow r e).1, hnot r e, fun h kv q hh => absurd hh (hcl pre h kv)⟩, hp, ?_, hb, Nat.le_trans hsz hgr.size⟩
    have := Rd.stepC (p := fun _ => false) (w := X) (w' := Y) (ok := okb S (HH pre) L') (ok' := okb S (HH pre) L') (fun b hb h => ⟨h, hcell b hb⟩) (fun b cs e fz h => ⟨cs, (hcell b ⟨cs, e, fz, h⟩).trans h, rfl⟩) _ L' L' _ (fun _ _ => rfl) hr
    rwa [AV.scrub_none] at this
  refine wpIn_rangeFunc_ownG_of_H (F := FF none) (n := 9) rfl (by decide) hge trivial (fun args w => run_callFunc hcall) hseq (fun h k => ⟨k.1.trans h.1, k.2.trans h.2⟩)
    (fun W l o o' hl _ _ _ => ⟨World.putObj_heap_other (by omega), World.putObj_heap_other (by omega)⟩) (RowKit.Below.refl _ _) (fun _ => rfl) I (fun _ _ _ => False) hIown (fun _ _ _ _ _ h _ _ => h) hI0
    (fun k => { tmps := (a.tmps.setIfInBounds t (chV c b off len k)).setIfInBounds u (chV c b off len k), defers := [] }) ?_ ?_ ?_ (fun _ _ _ _ _ _ h _ => h.elim) (fun _ => ⟨rfl, rfl⟩)
  · intro l k W K hK
    refine wp_region_lit (l := [asg]) (P := P) ?_ (some l) _ (fun h => by cases h)
    refine wpList_plain hag fun K2 hK2 => owp_val (u := chV c b off len k) (w' := W) ?_ (hK2 _ _ (wpList_nil ?_))
    · have hlt : t < a.tmps.size := by rw [s.size]; exact ht
      simp [execOp, hop, Act.eval, hlt]
    · rw [had]; simpa [Exit.then, Act.put, List.zip] using hK
  · intro l pre k W hIp hlt
    rw [hI] at hIp
    obtain ⟨L', s', hp, hr, hb, hsz⟩ := hIp
    have hk := rd_chunk c k hr
    obtain ⟨S', hS'⟩ : ∃ S' : Rg, S' = { S.tight hS s' with pin := fun h => if N'.pn h then some (L' h) else none } := ⟨_, rfl⟩
    have hwr : ∀ b, S'.wr b ↔ (W.heap.size ≤ b ∨ ∃ h q, HH pre h ≠ none ∧ L' h = some q ∧ q.1 = b) := fun b => by rw [hS']; exact Iff.rfl
    have hok : ∀ H L, okb S' H L = okb S H L := fun H L => by rw [hS']; rfl
    have hgood : Good N' W S' := ⟨fun b hb => (hwr b).2 (.inl hb), fun h hh => by rw [hS']; simp [hh]⟩
    have hpin : ∀ h, N'.pn h = true → S'.pin h = some (L' h) := fun h hh => by rw [hS']; simp [hh]
    have st : Sim N'.n W S' W (((a.tmps.setIfInBounds t (chV c b off len k)).setIfInBounds u (chV c b off len k))) L' ((u, chA c len f k) :: (t, chA c len f k) :: A0) (HH pre) := by
      have s0 : Sim N'.n W S' W a.tmps L' A0 (HH pre) := ⟨Keep.refl _ _, by rw [hn]; exact s'.size, fun i a h => by rw [hok]; exact s'.slot i a h, fun h B hB => by rw [hok]; exact s'.blk h B hB, fun h q h1 h2 => (hwr _).2 (.inr ⟨h, q, h1, h2, rfl⟩), s'.inj, fun h l hl => by
        rw [hS'] at hl
        dsimp only at hl
        split at hl
        · exact Option.some.inj hl
        · cases hl⟩
      have s1 := s0.put (d := t) (a := chA c len f k) (u := chV c b off len k) (by rw [hn]; exact ht) (by rw [hok]; exact hk)
      exact s1.put (d := u) (a := chA c len f k) (u := chV c b off len k) (by rw [hn]; exact hu) (by rw [hok]; exact hk)
    have hb0 := hbody pre k hlt W S' hgood W { tmps := (a.tmps.setIfInBounds t (chV c b off len k)).setIfInBounds u (chV c b off len k), defers := [] } L' st
    rw [hin] at hb0
    refine wpIn_mono (hb0 (some l) _ (fun h => by cases h)) ?_
    rintro e a' W' ⟨L2, A2, H2, s2, _, rfl, hsub⟩
    obtain ⟨L3, s3⟩ := hsub W S' hgood W' a'.tmps L2 s2
    have hpin3 : ∀ h, N'.pn h = true → L3 h = L' h := fun h hh => s3.pin h _ (hpin h hh)
    have hsame : ∀ b, b < W.heap.size → (∀ h q, HH pre h ≠ none → L' h = some q → q.1 ≠ b) → W'.heap[b]? = W.heap[b]? := fun b hb hn => s3.keep.blk b hb fun hw => by
      rcases (hwr b).1 hw with h | ⟨h, q, h1, h2, h3⟩
      · omega
      · exact hn h q h1 h2 h3
    have hokk : ∀ b, b < W.heap.size → okb S (HH pre) L' b → okb S (HH (pre ++ [k])) L3 b ∧ W'.heap[b]? = W.heap[b]? := fun b hb h => ⟨⟨h.1, fun g q hn hq e => by
      rcases (hwr _).1 (s3.own g q hn hq) with h4 | ⟨h4, q', h5, h6, h7⟩
      · omega
      · exact h.2 h4 q' h5 h6 (h7.trans e)⟩, hsame b hb h.2⟩
    have hold : ∀ h q, HH (pre ++ [k]) h ≠ none → L3 h = some q → q.1 ≠ B1 ∧ q.1 ≠ B2 := fun h q hn hq => by
      rcases (hwr _).1 (s3.own h q hn hq) with h4 | ⟨h4, q', h5, h6, h7⟩
      · omega
      · rw [← h7]; exact hb h4 q' h5 h6
    refine ⟨⟨s3.keep.size, fun j o hj hjo ho => ?_⟩, ⟨hsame B1 (by omega) fun h q h1 h2 => (hb h q h1 h2).1, hsame B2 (by omega) fun h q h1 h2 => (hb h q h1 h2).2⟩, ?_⟩
    · refine (hsame j (Array.getElem?_eq_some_iff.1 hjo).1 fun h q hn hq e => ?_).trans hjo
      cases hB : HH pre h with
      | none => exact hn hB
      | some B =>
        have hbk := s'.blk h B hB
        rw [hq] at hbk
        cases B with
        | cells m g =>
          obtain ⟨cs, e3, ⟨fz, e4, _⟩, _⟩ := hbk
          rw [e, hjo] at e4
          rw [Option.some.inj e4] at ho
          cases ho
        | mp kv => exact hcl pre h kv hB
    · rw [hI]
      refine ⟨L3, ⟨s'.keep.trans (s3.keep.mono fun b _ hw => ?_), s'.size, fun i x hx => ?_, fun h B hB => by rw [← hok]; exact s3.blk h B hB, fun h q h1 h2 => ?_, s3.inj, fun h l hl => ?_⟩, fun h hh => (hpin3 h hh).trans (hp h hh), ?_, hold, Nat.le_trans hsz s3.keep.size⟩
      · exact tight_wr hS s' ((hwr b).1 hw)
      · have := Rd.step (p := fun h => !N'.pn h) hokk s3.keep.shape x L' L3 _ (fun h hh => hpin3 h (by simpa using hh)) (s'.slot i x hx)
        rwa [hA0s i x hx] at this
      · exact tight_wr hS s' ((hwr _).1 (s3.own h q h1 h2))
      · have hN : N.pn h = true := by
          cases e : N.pn h with
          | true => rfl
          | false => rw [hS.free h e] at hl; cases hl
        exact (hpin3 h (hpn h hN)).trans (s'.pin h l hl)
      · exact Rd.step (p := fun h => !N'.pn h) hokk s3.keep.shape (.list nn 1 len f) L' L3 _ (fun h hh => hpin3 h (by simpa using hh)) hr
  · rintro D xs W hD rfl hIx hDo
    rw [hI] at hIx
    obtain ⟨L', s', _⟩ := hIx
    refine ⟨L', A0, _, s', ⟨[markD D], rfl, fun d hd => ⟨D, Nat.le_trans hw0 hD, List.mem_singleton.1 hd, hDo⟩, by simp⟩, hdone⟩
end
end Go.Av
end
/- Words: free reduction, runs of letters, their lengths; plain. -/
section
namespace Go.Wd
set_option linter.unusedVariables false
set_option linter.unusedSimpArgs false
/-- One letter more: it is taken off with its inverse, or laid on. -/
def frS (o : List Int) (l : Int) : List Int := if 0 < o.length ∧ o.getD (o.length - 1) 0 = -l then o.take (o.length - 1) else o ++ [l]
def fr (w : List Int) : List Int := w.foldl frS []
def inv (w : List Int) : List Int := (w.map (- ·)).reverse
/-- The runs of the first k letters. -/
def runsK (al : Int → Int → Bool) (w : List Int) : Nat → List (List Int)
  | 0 => []
  | k + 1 => if 0 < k ∧ al (w.getD (k - 1) 0) (w.getD k 0) = true then (runsK al w k).set ((runsK al w k).length - 1) ((runsK al w k).getD ((runsK al w k).length - 1) [] ++ [w.getD k 0]) else runsK al w k ++ [[w.getD k 0]]
theorem runsK_pos (al : Int → Int → Bool) (w : List Int) : ∀ k, (0 < k → 0 < (runsK al w k).length) ∧ (runsK al w k).length ≤ k
  | 0 => ⟨fun h => absurd h (by omega), Nat.le_refl _⟩
  | k + 1 => by
    have ih := runsK_pos al w k
    unfold runsK
    split
    · rename_i h; rw [List.length_set]; exact ⟨fun _ => ih.1 h.1, by omega⟩
    · simp; exact ih.2
theorem set_flatten : ∀ (xs : List (List Int)) (l : Int), 0 < xs.length → (xs.set (xs.length - 1) (xs.getD (xs.length - 1) [] ++ [l])).flatten = xs.flatten ++ [l]
  | [], l, h => absurd h (by simp)
  | [x], l, h => by simp
  | x :: y :: t, l, h => by
    have ih := set_flatten (y :: t) l (by simp)
    simp only [List.length_cons, Nat.add_sub_cancel] at ih ⊢
    rw [List.set_cons_succ, List.flatten_cons, List.getD_cons_succ, ih]
    simp only [List.flatten_cons, List.append_assoc]
theorem runsK_flat (al : Int → Int → Bool) (w : List Int) : ∀ k, k ≤ w.length → (runsK al w k).flatten = w.take k
  | 0, _ => by simp [runsK]
  | k + 1, hk => by
    have ih := runsK_flat al w k (by omega)
    have e : w.take (k + 1) = w.take k ++ [w.getD k 0] := by
      rw [List.take_add_one]; simp [List.getD_eq_getElem?_getD, show k < w.length by omega]
    unfold runsK
    split
    · rename_i h
      rw [set_flatten _ _ ((runsK_pos al w k).1 h.1), ih, e]
    · simp [ih, e]
end Go.Wd
end
/- Runs of letters that a key finds alike: where they lie, and that they are greatest; words made short; plain. -/
section
namespace Go.Wd
set_option linter.unusedVariables false
set_option linter.unusedSimpArgs false
def kf (f : Int → Int) (a b : Int) : Bool := decide (f a = f b)
/-- What runs are. -/
structure Runs (f : Int → Int) (xs : List (List Int)) : Prop where
  ne : ∀ j, j < xs.length → xs.getD j [] ≠ []
  al : ∀ j, j < xs.length → ∀ y ∈ xs.getD j [], f y = f ((xs.getD j []).getD 0 0)
  nx : ∀ j, j + 1 < xs.length → f ((xs.getD j []).getD 0 0) ≠ f ((xs.getD (j + 1) []).getD 0 0)
theorem getD_set {α : Type} {xs : List α} {i j : Nat} {d x : α} (hi : i < xs.length) : (xs.set i x).getD j d = if j = i then x else xs.getD j d := by
  by_cases h : j = i
  · subst h; simp [List.getD_eq_getElem?_getD, hi]
  · rw [if_neg h]; simp [List.getD_eq_getElem?_getD, List.getElem?_set, Ne.symm h]
theorem getD_snoc {α : Type} {xs : List α} {j : Nat} {d x : α} : (xs ++ [x]).getD j d = if j = xs.length then x else xs.getD j d := by
  by_cases h : j = xs.length
  · subst h; simp [List.getD_eq_getElem?_getD]
  · rw [if_neg h]
    by_cases h2 : j < xs.length
    · simp [List.getD_eq_getElem?_getD, List.getElem?_append_left h2]
    · simp [List.getD_eq_getElem?_getD, List.getElem?_eq_none (show (xs ++ [x]).length ≤ j by simp; omega), List.getElem?_eq_none (show xs.length ≤ j by omega)]
theorem hd_app {a b : List Int} (h : a ≠ []) : (a ++ b).getD 0 0 = a.getD 0 0 := by
  cases a with
  | nil => exact absurd rfl h
  | cons x t => rfl
theorem runsK_ok (f : Int → Int) (w : List Int) : ∀ k, Runs f (runsK (kf f) w k) ∧ (0 < k → f (((runsK (kf f) w k).getD ((runsK (kf f) w k).length - 1) []).getD 0 0) = f (w.getD (k - 1) 0))
  | 0 => ⟨⟨fun j h => absurd h (by simp [runsK]), fun j h => absurd h (by simp [runsK]), fun j h => absurd h (by simp [runsK])⟩, fun h => absurd h (by omega)⟩
  | k + 1 => by
    obtain ⟨⟨ih1, ih2, ih3⟩, ih4⟩ := runsK_ok f w k
    obtain ⟨xs, hx⟩ : ∃ xs, xs = runsK (kf f) w k := ⟨_, rfl⟩
    have hp := (runsK_pos (kf f) w k).1
    rw [← hx] at ih1 ih2 ih3 ih4 hp
    unfold runsK
    rw [← hx]
    by_cases hc : 0 < k ∧ kf f (w.getD (k - 1) 0) (w.getD k 0) = true
    · rw [if_pos hc]
      have h0 := hp hc.1
      have h4 := ih4 hc.1
      have hw : f (w.getD (k - 1) 0) = f (w.getD k 0) := by simpa [kf] using hc.2
      have hd : ∀ j, j < xs.length → ((xs.set (xs.length - 1) (xs.getD (xs.length - 1) [] ++ [w.getD k 0])).getD j []).getD 0 0 = (xs.getD j []).getD 0 0 := fun j hj => by
        rw [getD_set (by omega)]
        split
        · rename_i e; rw [e, hd_app (ih1 _ (by omega))]
        · rfl
      refine ⟨⟨fun j hj => ?_, fun j hj y hy => ?_, fun j hj => ?_⟩, fun _ => ?_⟩
      · rw [List.length_set] at hj
        rw [getD_set (by omega)]
        split
        · simp
        · exact ih1 j hj
      · rw [List.length_set] at hj
        rw [hd j hj]
        rw [getD_set (by omega)] at hy
        split at hy
        · rename_i e; subst e
          rcases List.mem_append.1 hy with hy | hy
          · exact ih2 _ hj y hy
          · rw [List.mem_singleton.1 hy, h4, hw]
        · exact ih2 j hj y hy
      · rw [List.length_set] at hj
        rw [hd j (by omega), hd (j + 1) hj]
        exact ih3 j hj
      · rw [List.length_set, hd _ (by omega), h4, hw]; rfl
    · rw [if_neg hc]
      refine ⟨⟨fun j hj => ?_, fun j hj y hy => ?_, fun j hj => ?_⟩, fun _ => ?_⟩
      · rw [List.length_append, List.length_singleton] at hj
        rw [getD_snoc]
        split
        · simp
        · exact ih1 j (by omega)
      · rw [List.length_append, List.length_singleton] at hj
        rw [getD_snoc] at hy ⊢
        split at hy
        · rename_i e; rw [if_pos e, List.mem_singleton.1 hy]; rfl
        · rename_i e; rw [if_neg e]; exact ih2 j (by omega) y hy
      · rw [List.length_append, List.length_singleton] at hj
        rw [getD_snoc, if_neg (by omega), getD_snoc]
        split
        · rename_i e
          have hk : 0 < k := by
            rcases Nat.eq_zero_or_pos k with h | h
            · subst h; rw [hx] at e; simp [runsK] at e
            · exact h
          have h4 := ih4 hk
          rw [show xs.length - 1 = j by omega] at h4
          rw [h4]
          intro he
          exact hc ⟨hk, by simpa [kf] using he⟩
        · exact ih3 j (by omega)
      · rw [List.length_append, List.length_singleton, Nat.add_sub_cancel, getD_snoc, if_pos rfl]; rfl
/-- The runs of a word. -/
def runs (f : Int → Int) (w : List Int) : List (List Int) := runsK (kf f) w w.length
theorem runs_ok (f : Int → Int) (w : List Int) : Runs f (runs f w) := (runsK_ok f w _).1
theorem runs_flat (f : Int → Int) (w : List Int) : (runs f w).flatten = w := by
  have := runsK_flat (kf f) w w.length (Nat.le_refl _)
  rwa [List.take_length] at this
/-- Where a run begins. -/
def offs (xs : List (List Int)) (j : Nat) : Nat := (xs.take j).flatten.length
theorem offs_succ {xs : List (List Int)} {j : Nat} (h : j < xs.length) : offs xs (j + 1) = offs xs j + (xs.getD j []).length := by
  unfold offs
  rw [List.take_add_one, List.flatten_append, List.length_append, List.getD_eq_getElem?_getD, List.getElem?_eq_getElem h]
  simp only [Option.toList_some, List.flatten_cons, List.flatten_nil, List.append_nil, Option.getD_some]
theorem offs_all (xs : List (List Int)) : offs xs xs.length = xs.flatten.length := by unfold offs; rw [List.take_length]
theorem flat_split (xs : List (List Int)) {j : Nat} (h : j < xs.length) : xs.flatten = (xs.take j).flatten ++ (xs.getD j [] ++ (xs.drop (j + 1)).flatten) := by
  conv => lhs; rw [← List.take_append_drop j xs]
  rw [List.flatten_append, List.drop_eq_getElem_cons h, List.flatten_cons]
  simp [List.getD_eq_getElem?_getD, h]
theorem flat_get {xs : List (List Int)} {j i : Nat} (h : j < xs.length) (hi : i < (xs.getD j []).length) : xs.flatten.getD (offs xs j + i) 0 = (xs.getD j []).getD i 0 := by
  rw [flat_split xs h]
  unfold offs
  rw [List.getD_eq_getElem?_getD, List.getElem?_append_right (by omega), Nat.add_sub_cancel_left, List.getElem?_append_left hi, ← List.getD_eq_getElem?_getD]
theorem offs_le {xs : List (List Int)} {j : Nat} (h : j < xs.length) : offs xs j + (xs.getD j []).length ≤ xs.flatten.length := by
  have e := congrArg List.length (flat_split xs h)
  simp only [List.length_append] at e
  unfold offs; omega
/-- Behind a run the word ends, or a letter of another key follows. -/
theorem run_end {f : Int → Int} {w : List Int} {j : Nat} (h : j < (runs f w).length) :
    (∀ i, i < ((runs f w).getD j []).length → offs (runs f w) j + i < w.length ∧ w.getD (offs (runs f w) j + i) 0 = ((runs f w).getD j []).getD i 0 ∧ f (w.getD (offs (runs f w) j + i) 0) = f (w.getD (offs (runs f w) j) 0)) ∧
    (offs (runs f w) (j + 1) < w.length → f (w.getD (offs (runs f w) (j + 1)) 0) ≠ f (w.getD (offs (runs f w) j) 0)) ∧ 0 < ((runs f w).getD j []).length := by
  have hr := runs_ok f w
  have hf := runs_flat f w
  have hne : ∀ k, k < (runs f w).length → 0 < ((runs f w).getD k []).length := fun k hk => by
    have := hr.ne k hk
    cases e : (runs f w).getD k [] with
    | nil => exact absurd e this
    | cons a t => simp
  have h0 : ∀ k, k < (runs f w).length → w.getD (offs (runs f w) k) 0 = ((runs f w).getD k []).getD 0 0 := fun k hk => by
    have := flat_get (i := 0) hk (hne k hk)
    rwa [hf, Nat.add_zero] at this
  refine ⟨fun i hi => ?_, fun hl => ?_, hne j h⟩
  · have h1 := flat_get h hi
    have h2 := offs_le h
    rw [hf] at h1 h2
    refine ⟨by omega, h1, ?_⟩
    rw [h1, h0 j h]
    refine hr.al j h _ ?_
    rw [List.getD_eq_getElem?_getD (l := (runs f w).getD j []), List.getElem?_eq_getElem hi]
    exact List.getElem_mem hi
  · rcases Nat.lt_or_ge (j + 1) (runs f w).length with h1 | h1
    · rw [h0 _ h1, h0 j h]
      exact (hr.nx j h1).symm
    · have e : j + 1 = (runs f w).length := by omega
      rw [e, offs_all, hf] at hl
      omega
/-- The remainder that is least, the positive one of two. -/
def sres (k d : Int) : Int := if 2 * (k % d) > d then k % d - d else k % d
/-- So many letters of a move, or of its inverse. -/
def lets (m n : Int) : List Int := if 0 ≤ n then List.replicate n.toNat m else List.replicate (-n).toNat (-m)
def sgn (l : Int) : Int := if l < 0 then -1 else 1
def sumS (r : List Int) : Int := (r.map sgn).sum
def absI (l : Int) : Int := (l.natAbs : Int)
/-- A run made short; od: the order of a move. -/
def shortR (od : Int → Int) (r : List Int) : List Int := lets (absI (r.getD 0 0)) (sres (sumS r) (od (absI (r.getD 0 0))))
def short (od : Int → Int) (w : List Int) : List Int := ((runs absI w).map (shortR od)).flatten
end Go.Wd
end
/- impl.inverseWord, walked on the kit's own level: a range over slices.Backward. -/
section
namespace Go.Proofs.YticbabpajligbaaDoor
open Go.RowKit Go.Shelf
set_option linter.unusedVariables false
set_option linter.unusedSimpArgs false
attribute [local go_sem] Oper.semAt_some

/-- The slice value sv holds the numbers zs, in a block below n₀; or it is nil and there are none. -/
def BackInts (n₀ : Nat) (W : World) (sv : Value) (zs : List Int) : Prop :=
  ((∃ a cap, sv = .slice a 0 cap) ∧ zs = []) ∨ ∃ b off cap, sv = .slice (some ⟨b, off, none⟩) zs.length cap ∧ b < n₀ ∧ ∀ j, j < zs.length → W.cell? ⟨b, off + j, none⟩ = some (.int .i64 (zs[j]?.getD 0))
theorem BackInts.below {n₀ : Nat} {A B : World} (h : Below n₀ A B) {sv : Value} {zs : List Int} : BackInts n₀ A sv zs → BackInts n₀ B sv zs
  | .inl e => .inl e
  | .inr ⟨b, off, cap, e, hb, hc⟩ => .inr ⟨b, off, cap, e, hb, fun j hj => (h.cell (p := ⟨b, off + j, none⟩) hb).trans (hc j hj)⟩

/-- The pairs that come, the last first. -/
def bk (len : Nat) (zs : List Int) (j : Nat) : Nat × Int := (len - 1 - j, zs[len - 1 - j]?.getD 0)

/-- What a round keeps: whatever lay below n₀, and the block Bs. -/
def Kp (n₀ Bs : Nat) (W W' : World) : Prop := Below n₀ W W' ∧ W'.heap[Bs]? = W.heap[Bs]?
theorem Kp.refl (n₀ Bs : Nat) (W : World) : Kp n₀ Bs W W := ⟨Below.refl _ _, rfl⟩
theorem Kp.trans {n₀ Bs : Nat} {A B C : World} (h : Kp n₀ Bs A B) (k : Kp n₀ Bs B C) : Kp n₀ Bs A C := ⟨h.1.trans k.1, k.2.trans h.2⟩
theorem Kp.box {n₀ Bs : Nat} {A B : World} (h : Kp n₀ Bs A B) {v : Value} {t : TypeId} (hv : Boxed A Bs t v) : Boxed B Bs t v := h.2.trans hv

end Go.Proofs.YticbabpajligbaaDoor
end
/- slices.Chunk: the iterator's contract, on the kit's own level; the call. -/
section
namespace Go.Proofs.YticbabpajligbaaDoor
open Go.RowKit Go.Shelf Go.Av
set_option linter.unusedVariables false
set_option linter.unusedSimpArgs false
attribute [local go_sem] Oper.semAt_some

theorem drew_grown (w : World) : w.grownBy w.drew none := ⟨rfl, rfl, rfl, Nat.le_refl _, fun _ _ _ => rfl⟩
set_option maxRecDepth 100000 in
set_option maxHeartbeats 2000000 in
theorem chunk1_in (n : Nat) (hn : 2 ≤ n) (l B1 s1 B2 s2 b off len cap : Nat) (hlen : 1 ≤ len ∧ len ≤ 1048576) (hcap : len ≤ cap) (J Jx : List Nat → World → Prop) (W : World) (hJa : AbidesFrom W.heap.size J)
    (hY : ∀ pre x W, J pre W → pre.length < nch 99 len → YieldAt (FF none) (n - 1) Tryd.prog l #[chV 99 b off len x] W fun e W' =>
      (e = .returned (.bool true) ∧ J (pre ++ [x]) W' ∧ Kc B1 B2 W W') ∨ (e = .returned (.bool false) ∧ Jx (pre ++ [x]) W'))
    (hc1 : W.cell? ⟨B1, s1, none⟩ = some (.slice (some ⟨b, off, none⟩) len cap)) (hc2 : W.cell? ⟨B2, s2, none⟩ = some (.int .i64 (99 : Nat))) (h0 : J [] W) :
    CallsIn (FF none) n Tryd.prog 74 #[.func (.yield l) #[] #[], .pointer (some ⟨B1, s1, none⟩), .pointer (some ⟨B2, s2, none⟩)] W fun e W' => (∃ v, e = .returned v) ∧
      ((∃ ys, ys = List.range (nch 99 len) ∧ J ys W') ∨ (∃ pre, True ∧ Jx pre W')) := by
  refine callsIn_of_wp Tryd.func74 rfl trivial ?_ rfl
  simp only [Tryd.ntmps74, List.size_toArray, List.length_cons, List.length_nil, Nat.reduceAdd, Nat.reduceSub, Array.replicate_succ, Array.replicate_zero, List.push_toArray, List.append_toArray, List.nil_append, List.cons_append]
  gi_wp2
  gi_loopw [4] (fun i wr => ∃ r : Nat, r ≤ nch 99 len ∧ i = .int .i64 ((99 * r : Nat) : Int) ∧ J (List.range r) wr ∧ Kc B1 B2 W wr)
    (fun i _ => (nch 99 len * 99 + 99 - intOf i).toNat)
  case atStart => exact ⟨0, Nat.zero_le _, rfl, h0, rfl, rfl⟩
  case round =>
    obtain ⟨r, hr, rfl, hJs, hk1, hk2⟩ := hrel
    have hd1 : wr.cell? ⟨B1, s1, none⟩ = some (.slice (some ⟨b, off, none⟩) len cap) := (World.cell?_of_block (w := W) (a := ⟨B1, s1, none⟩) hk1).trans hc1
    have hd2 : wr.cell? ⟨B2, s2, none⟩ = some (.int .i64 (99 : Nat)) := (World.cell?_of_block (w := W) (a := ⟨B2, s2, none⟩) hk2).trans hc2
    by_cases hlt : 99 * r < len
    · have hrl : r < nch 99 len := by unfold nch; omega
      gi_wp2
      gi_region
      have hJ2 : J (List.range r) wr.drew := hJa _ wr _ none hJs (drew_grown wr) (fun r e => by cases e)
      obtain ⟨m, hm⟩ : ∃ m, m = min 99 (len - 99 * r) := ⟨_, rfl⟩
      have e5 : (if ((len - 99 * r : Nat) : Int) < 99 then ((len - 99 * r : Nat) : Int) else 99) = (m : Int) := by split <;> omega
      rw [e5]
      obtain ⟨fn, tmps, assign, body, hy, hR⟩ := hY _ r wr.drew hJ2 (by rw [List.length_range]; exact hrl)
      have hch : chV 99 b off len r = .slice (some ⟨b, off + 99 * r, none⟩) m m := by unfold chV; rw [← hm]
      rw [hch] at hy
      have hd3 : wr.drew.cell? ⟨B1, s1, none⟩ = some (.slice (some ⟨b, off, none⟩) len cap) := hd1
      have hd4 : wr.drew.cell? ⟨B2, s2, none⟩ = some (.int .i64 (99 : Nat)) := hd2
      have hm2 : m ≤ 99 ∧ 99 * r + m ≤ len ∧ 1 ≤ m ∧ (m < 99 → 99 * r + m = len) := by omega
      clear hch e5 hm
      gi_wp2
      refine ⟨fun _ => (by omega), hR.mono ?_⟩
      rintro e W3 (⟨rfl, hJ3, hk3⟩ | ⟨rfl, hJx3⟩)
      · have hd5 : W3.cell? ⟨B1, s1, none⟩ = some (.slice (some ⟨b, off, none⟩) len cap) := (World.cell?_of_block (w := wr.drew) (a := ⟨B1, s1, none⟩) hk3.1).trans hd3
        have hd6 : W3.cell? ⟨B2, s2, none⟩ = some (.int .i64 (99 : Nat)) := (World.cell?_of_block (w := wr.drew) (a := ⟨B2, s2, none⟩) hk3.2).trans hd4
        gi_wp2
        refine ⟨⟨r + 1, hrl, by congr 1 <;> omega, by rw [List.range_succ]; exact hJ3, hk3.1.trans hk1, hk3.2.trans hk2⟩, ?_⟩
        simp only [intOf]
        omega
      · gi_wp2
        refine bodyPost_ret (results_none rfl _ _ _) rfl ?_
        exact ⟨⟨_, rfl⟩, .inr ⟨_, trivial, hJx3⟩⟩
    · gi_wp2
      have hre : r = nch 99 len := by unfold nch at hr ⊢; omega
      subst hre
      go_end0
      exact ⟨⟨_, rfl⟩, .inl ⟨_, rfl, hJs⟩⟩
theorem chunk_it : ChunkIt Tryd.prog 74 99 := fun n B1 s1 B2 s2 b off len cap w hn hc1 hc2 h1 hcap h2 l J Jx W hW hJa _ hY h0 =>
  chunk1_in n hn l B1 s1 B2 s2 b off len cap ⟨h1, h2⟩ hcap J Jx W hJa hY ((hW.cell (p := ⟨B1, s1, none⟩) (World.block_lt_of_cell? w _ hc1)).trans hc1) ((hW.cell (p := ⟨B2, s2, none⟩) (World.block_lt_of_cell? w _ hc2)).trans hc2) h0
end Go.Proofs.YticbabpajligbaaDoor
end
/- slices.Chunk: the call. -/
section
namespace Go.Proofs.YticbabpajligbaaDoor
open Go.Av
set_option linter.unusedSimpArgs false
set_option linter.unusedVariables false
attribute [local irreducible] AWP CallG Ob Br BrP Go.Av.Sub endQ AOps OpV AC thenA blkA opsVC opVC withA withArgs opsQ opQ CallQ withA2 withArgs2
/-- What a call of Chunk leaves: a function over two boxes. -/
def postCk (r : List Int) : AV → Hp → Prop := fun a H => a = .clo 74 2 (vecF [.ref 2 0, .ref 3 0]) ∧ H = (Hp.emp.upd 2 (.cells 1 fun _ => ints r)).upd 3 (.cells 1 fun _ => .v (.int .i64 (99)))
theorem chunk_ok (r : List Int) : AC Tryd.prog 41 [ints r, .v (.int .i64 (99))] Hp.emp (fun _ => false) (postCk r) := by
  refine ac_of_awp (N := ⟨_, fun _ => false, fun _ _ => rfl, true⟩) Tryd.func41 rfl (by kernel_rfl) Tryd.ntmps41 (by simp) ?_
  simp only [argsFr, List.zipIdx_cons, List.zipIdx_nil, go_sem]
  repeat' (first | refine awp_seqK fun K hK => ?_ | (refine awp_regionK 95 rfl ?_; simp only [List.map_cons, List.map_nil]; simp (maxSteps := 1000000) (dsimp := false) (implicitDefEqProofs := false) (disch := omega) only [wrap64, go_sem]) | (refine awp_regionQK 95 (by kernel_rfl) (by kernel_rfl) (by kernel_rfl) ?_; simp only [List.map_cons, List.map_nil]; simp (maxSteps := 1000000) (dsimp := false) (implicitDefEqProofs := false) (disch := omega) only [wrap64, go_sem]) | refine awp_block ?_ | (refine awp_skip ?_; simp only [go_sem]) | (refine awp_exit ?_; simp only [go_sem]) | (refine awp_ret ?_; try simp only [go_sem]) | (refine awp_condP rfl ?_; try simp only [go_sem]) | (refine BrP.mk (fun h => ?_) (fun h => ?_) <;> try simp (dsimp := false) (disch := omega) only [wrap64]) | (refine Br.mk (fun h => ?_) (fun h => ?_) <;> try simp (dsimp := false) (disch := omega) only [wrap64]) | refine Ob.mk (by first | omega | (intro _ _; rfl) | trivial | (intros; trivial) | assumption | (intro i hi; have h0 : i = 0 := (by omega); subst h0; first | rfl | trivial) | (intro i hi; have h0 : i = 0 ∨ i = 1 := (by omega); rcases h0 with rfl | rfl <;> rfl) | (intro i hi; have h0 : i = 0 ∨ i = 1 ∨ i = 2 := (by omega); rcases h0 with rfl | rfl | rfl <;> rfl)) ?_ | apply_assumption -exfalso -symm)
  all_goals (first | (show endQ _ _ _ _ _ _ _; (repeat (rename (∀ (A : Fr) (H : Hp), AWP _ _ _ _ A H → _) => hK; clear hK)); (repeat (rename (Fr → Hp → Prop) => K; clear K))) | (show Exists _; (repeat (rename (∀ (A : Fr) (H : Hp), AWP _ _ _ _ A H → _) => hK; clear hK)); (repeat (rename (Fr → Hp → Prop) => K; clear K))) | skip)
  · omega
  · exact end_post rfl rfl (Hp.le_refl _) ⟨rfl, rfl⟩
def ckB (h : Nat) : Bool := h == 2 || h == 3
theorem callCk {P : Program} {N : Cx} {A : Fr} {H : Hp} {f : FuncId} {gf : FuncId} {args : List AV} {F1 F2 : Nat → AV} {K : AV → Fr → Hp → Prop} (hac : AC P f args Hp.emp (fun _ => false) (fun a H => a = .clo gf 2 (vecF [.ref 2 0, .ref 3 0]) ∧ H = (Hp.emp.upd 2 (.cells 1 F1)).upd 3 (.cells 1 F2))) (h1 : ∀ p, scF p F1 = F1) (h2 : ∀ p, scF p F2 = F2) (hpn : ∀ h, N.pn h = true → ckB h = false)
    (hK : K (.clo gf 2 (vecF [.ref 2 0, .ref 3 0])) (A.scrub ckB) (((H.scrub ckB).upd 2 (.cells 1 F1)).upd 3 (.cells 1 F2))) : CallG P N f args A H K := by
  refine callG_of hac ckB false (Hp.le_emp _) (FitsL.refl _) (fun _ => rfl) (fun h hn _ => absurd rfl hn) hpn ?_
  rintro r H' ⟨rfl, rfl⟩
  have live : ∀ h, ((Hp.emp.upd 2 (.cells 1 F1)).upd 3 (.cells 1 F2)) h ≠ none → ckB h = true := fun h hn => by
    unfold Hp.upd at hn
    by_cases e : h = 3
    · subst e; rfl
    · rw [if_neg e] at hn
      by_cases e2 : h = 2
      · subst e2; rfl
      · rw [if_neg e2] at hn; exact absurd rfl hn
  refine ⟨fun h hn _ => live h hn, by simp, ?_⟩
  have l2 : liveB ((Hp.emp.upd 2 (.cells 1 F1)).upd 3 (.cells 1 F2)) 2 = true := by simp [liveB, Hp.upd]
  have l3 : liveB ((Hp.emp.upd 2 (.cells 1 F1)).upd 3 (.cells 1 F2)) 3 = true := by simp [liveB, Hp.upd]
  have e1 : (AV.clo gf 2 (vecF [.ref 2 0, .ref 3 0])).scrub (fun h => !liveB ((Hp.emp.upd 2 (.cells 1 F1)).upd 3 (.cells 1 F2)) h) = .clo gf 2 (vecF [.ref 2 0, .ref 3 0]) := by
    simp only [scrub_clo, scF_vecF, List.map_cons, List.map_nil, scrub_ref, l2, l3, Bool.not_true, Bool.false_eq_true, if_false]
  have e2 : Hp.over (((Hp.emp.upd 2 (.cells 1 F1)).upd 3 (.cells 1 F2)).scrub fun h => !liveB ((Hp.emp.upd 2 (.cells 1 F1)).upd 3 (.cells 1 F2)) h) (H.scrub ckB) Hp.emp = ((H.scrub ckB).upd 2 (.cells 1 F1)).upd 3 (.cells 1 F2) := by
    rw [Hp.scrub_upd, Hp.scrub_upd, Blk.scrub_cells, Blk.scrub_cells, h1, h2]
    funext h
    unfold Hp.over Hp.upd
    by_cases e : h = 3
    · simp only [if_pos e]
    · simp only [if_neg e]
      by_cases e2 : h = 2
      · simp only [if_pos e2]
      · simp only [if_neg e2]
        simp [Hp.scrub, Hp.emp]
  rw [e1, e2]; exact hK
end Go.Proofs.YticbabpajligbaaDoor
end

import Derived.Test.YticbabpajligbaaDoorM3
import Derived.Calls
import Derived.Test.YticbabpajligbaaDoorM1
import Derived.RangeFuncNested
/- Regions of open order with one call that writes blocks of its own: what comes behind it may come in any order. -/
section
namespace Go.Av
section
variable {P : Program} {N : Cx} {H : Hp}
variable {Kd : AV → Hp → Prop}
variable (P N) in
/-- A call that leaves the frame as it is, whatever that is. -/
def CallDP (f : FuncId) (args : List AV) (H : Hp) (K : AV → Hp → Prop) : Prop := ∀ B : Fr, CallG P N f args B H fun r A' H' => A' = B ∧ K r H'
theorem CallDP_congr (f : FuncId) (args args' : List AV) (H H' : Hp) (K : AV → Hp → Prop) (h1 : args = args') (h2 : H = H') : CallDP P N f args H K = CallDP P N f args' H' K := by subst h1 h2; rfl
variable (P N) in
def pivD (op : Op) (A : Fr) (H : Hp) (K : AV → Hp → Prop) : Prop :=
  match op with
  | .call { callee := .value f, args, argTypes := _ } => (match calleeOf (A.ev f) with
    | some (g, caps) => withArgs (evArgs A args.toList) fun l => CallDP P N g (l ++ caps) H K
    | none => False)
  | _ => False
variable (P N) in
def opsD (nf m : Nat) (Q : Fr → Hp → Prop) (l : List Oper) (A : Fr) (H : Hp) : Prop :=
  match l.drop m with
  | o :: lr => opsQ P N (l.map (·.dst)) (fun A1 => pivD P N o.op A1 H fun r H' =>
      opsQ P N (l.map (·.dst)) (fun A2 => Ob (sameG A2 A1 ((l.take nf).map (·.dst))) (opsQ P N (l.map (·.dst)) (fun A3 => Q A3 H') lr (putd o.dst r A1) H')) (l.take nf) A H') (l.take m) A H
  | [] => False
end
attribute [congr] CallDP_congr
attribute [go_sem] opsD pivD
end Go.Av
end
/- Words: free reduction, runs of letters, their lengths; plain. -/
section
namespace Go.Wd
set_option linter.unusedVariables false
set_option linter.unusedSimpArgs false
/-- One letter more: it is taken off with its inverse, or laid on. -/
def frS (o : List Int) (l : Int) : List Int := if 0 < o.length ∧ o.getD (o.length - 1) 0 = -l then o.take (o.length - 1) else o ++ [l]
def fr (w : List Int) : List Int := w.foldl frS []
def inv (w : List Int) : List Int := (w.map (- ·)).reverse
/-- The runs of the first k letters. -/
def runsK (al : Int → Int → Bool) (w : List Int) : Nat → List (List Int)
  | 0 => []
  | k + 1 => if 0 < k ∧ al (w.getD (k - 1) 0) (w.getD k 0) = true then (runsK al w k).set ((runsK al w k).length - 1) ((runsK al w k).getD ((runsK al w k).length - 1) [] ++ [w.getD k 0]) else runsK al w k ++ [[w.getD k 0]]
theorem runsK_pos (al : Int → Int → Bool) (w : List Int) : ∀ k, (0 < k → 0 < (runsK al w k).length) ∧ (runsK al w k).length ≤ k
  | 0 => ⟨fun h => absurd h (by omega), Nat.le_refl _⟩
  | k + 1 => by
    have ih := runsK_pos al w k
    unfold runsK
    split
    · rename_i h; rw [List.length_set]; exact ⟨fun _ => ih.1 h.1, by omega⟩
    · simp; exact ih.2
theorem set_flatten : ∀ (xs : List (List Int)) (l : Int), 0 < xs.length → (xs.set (xs.length - 1) (xs.getD (xs.length - 1) [] ++ [l])).flatten = xs.flatten ++ [l]
  | [], l, h => absurd h (by simp)
  | [x], l, h => by simp
  | x :: y :: t, l, h => by
    have ih := set_flatten (y :: t) l (by simp)
    simp only [List.length_cons, Nat.add_sub_cancel] at ih ⊢
    rw [List.set_cons_succ, List.flatten_cons, List.getD_cons_succ, ih]
    simp only [List.flatten_cons, List.append_assoc]
theorem runsK_flat (al : Int → Int → Bool) (w : List Int) : ∀ k, k ≤ w.length → (runsK al w k).flatten = w.take k
  | 0, _ => by simp [runsK]
  | k + 1, hk => by
    have ih := runsK_flat al w k (by omega)
    have e : w.take (k + 1) = w.take k ++ [w.getD k 0] := by
      rw [List.take_add_one]; simp [List.getD_eq_getElem?_getD, show k < w.length by omega]
    unfold runsK
    split
    · rename_i h
      rw [set_flatten _ _ ((runsK_pos al w k).1 h.1), ih, e]
    · simp [ih, e]
end Go.Wd
end
/- A range over a function whose iterator hands out parts of a row that is only read (slices.Chunk). -/
section
namespace Go.Av
set_option linter.unusedVariables false
/-- How many parts of c cells n cells have. -/
def nch (c n : Nat) : Nat := (n + c - 1) / c
/-- Part k, as a value; and what it is good for. -/
def chV (c b off n : Nat) (k : Nat) : Value := .slice (some ⟨b, off + c * k, none⟩) (min c (n - c * k)) (min c (n - c * k))
def chA (c n : Nat) (f : Nat → AV) (k : Nat) : AV := .list false 1 (min c (n - c * k)) fun i => f (c * k + i)
/-- Two blocks as they were. -/
def Kc (B1 B2 : Nat) (w w' : World) : Prop := w'.heap[B1]? = w.heap[B1]? ∧ w'.heap[B2]? = w.heap[B2]?
/-- What an iterator over parts of c cells must do, its row in the box B1, s1, the number c in the box B2, s2. -/
def ChunkIt (P : Program) (gf : FuncId) (c : Nat) : Prop := ∀ (n B1 s1 B2 s2 b off len cap : Nat) (w : World), 2 ≤ n → w.cell? ⟨B1, s1, none⟩ = some (.slice (some ⟨b, off, none⟩) len cap) → w.cell? ⟨B2, s2, none⟩ = some (.int .i64 c) → 1 ≤ len → len ≤ cap → len ≤ 1048576 →
  SeqStopsK (FF none) n P gf #[.pointer (some ⟨B1, s1, none⟩), .pointer (some ⟨B2, s2, none⟩)] (fun k : Nat => #[chV c b off len k]) (Kc B1 B2) (fun ys => ys = List.range (nch c len)) (fun _ => True) (nch c len) w
theorem wpIn_n {P : Program} {ro : Option Nat} {n m : Nat} {c : Code} {Q : Exit → Act → World → Prop} {a : Act} {w : World} (h : c.wpIn (FF ro) n P Q a w) : c.wpIn (FF ro) m P Q a w :=
  fun b k cs hro hb _ => h b k cs hro hb (fun d hd => by cases hd)
theorem wpList_nil {P : Program} {ops : Array Oper} {Q : Exit → Act → World → Prop} {a : Act} {w : World} (h : Q .normal a w) : wpList P ops Q [] a w := fun _ _ => h
/-- The part that a row's reading gives. -/
theorem rd_chunk {w : World} {ok : Nat → Prop} {L : Loc} {nn : Bool} {n : Nat} {f : Nat → AV} {b off cap : Nat} (c k : Nat) (h : Rd w ok L (.list nn 1 n f) (.slice (some ⟨b, off, none⟩) n cap)) : Rd w ok L (chA c n f k) (chV c b off n k) := by
  obtain ⟨a, cap', hu, h1, h2, h3, h4⟩ := h
  injection hu with e1 e2 e3
  refine ⟨_, _, rfl, Nat.le_refl _, fun h => (by cases h), fun h => (by cases h), fun p hp i hi => ?_⟩
  simp only [Option.some.injEq] at hp
  subst hp
  have hlt : c * k + i < n * 1 := by omega
  obtain ⟨k1, k2, x, k3, k4⟩ := h4 _ e1.symm (c * k + i) hlt
  exact ⟨rfl, k2, x, by rw [show off + c * k + i = off + (c * k + i) by omega]; exact k3, k4⟩
section
variable {P : Program} {N N' : Cx} {A A0 : Fr} {H : Hp} {Q : Exit → Fr → Hp → Prop}
theorem Sim.cut {w0 : World} {S : Rg} {w : World} {tm : Array Value} {L : Loc} {A A' : Fr} {H H' : Hp} {n : Nat} (s : Sim n w0 S w tm L A H) (hA : ∀ i c, A'.get i = some c → A.get i = some c) (hl : Hp.le H' H) : Sim n w0 S w tm L A' H' := by
  have live : ∀ g, H' g ≠ none → H g ≠ none := fun g hn => by
    cases e : H' g with
    | none => exact absurd e hn
    | some B => rw [hl g B e]; simp
  exact ⟨s.keep, s.size, fun i a h => Rd.okm (fun b hb => okb_le hl hb) (s.slot i a (hA i a h)), fun h B hB => by
    have := BlkOk.step (wh := w) (wh' := w) (w := w) (w' := w) (ok := okb S H L) (ok' := okb S H' L) (p := fun _ => false) (fun b _ hb => ⟨okb_le hl hb, rfl⟩) (Shape.refl w) (L := L) (L' := L) (fun _ _ => rfl) (fun _ _ => rfl) (s.blk h B (hl h B hB))
    rwa [Blk.scrub_none] at this, fun h q hn hq => s.own h q (live h hn) hq, fun h g q r hn hm hq hr e => s.inj h g q r (live h hn) (live g hm) hq hr e, s.pin⟩
set_option maxHeartbeats 1000000 in
theorem awp_chunks {g : Operand} {t u : Tmp} {id : Nat} {asg : Oper} {body : Code} {gf : FuncId} {c : Nat} {fc f1 f2 : Nat → AV} {h1 o1 n1 h2 o2 n2 : Nat} {nn : Bool} {len : Nat} {f : Nat → AV} (A0 : Fr) (HH : List Nat → Hp)
    (hit : ChunkIt P gf c) (hcall : callable P gf = true) (hout : N.out = true) (hn : N'.n = N.n) (hin : N'.out = false) (hpn : ∀ h, N.pn h = true → N'.pn h = true)
    (ht : t < N.n) (hu : u < N.n) (hop : asg.op = .assign (.tmp t)) (had : asg.dst = some u) (hag : asg.guard = none)
    (hg : A.ev g = some (.clo gf 2 fc)) (hc0 : fc 0 = .ref h1 o1) (hc1 : fc 1 = .ref h2 o2) (hH1 : H h1 = some (.cells n1 f1)) (ho1 : o1 < n1) (hf1 : f1 o1 = .list nn 1 len f) (hlen : 1 ≤ len ∧ len ≤ 1048576)
    (hH2 : H h2 = some (.cells n2 f2)) (ho2 : o2 < n2) (hf2 : f2 o2 = .v (.int .i64 c))
    (hA0 : ∀ i a, A0.get i = some a → A.get i = some a) (hA0s : ∀ i a, A0.get i = some a → a.scrub (fun h => !N'.pn h) = a) (hH0 : Hp.le (HH []) H) (hb1 : HH [] h1 = none) (hb2 : HH [] h2 = none) (hcl : ∀ pre h kv, HH pre h ≠ some (.mp kv))
    (hbody : ∀ pre k, pre.length < nch c len → AWP P N' body (fun e A H => e = .normal ∧ Sub N' A H [] (HH (pre ++ [k]))) ((u, chA c len f k) :: (t, chA c len f k) :: A0) (HH pre))
    (hdone : Q .normal A0 (HH (List.range (nch c len)))) : AWP P N (.rangeFunc g #[t] (.region id #[asg] false) body) Q A H := by
  intro w0 S hS w a L s ro n hro
  obtain rfl := hro hout
  refine wpIn_n (n := 9) ?_
  obtain ⟨cs, hge, hsz, hcs⟩ := s.ev hg
  obtain ⟨p0, e0, r0⟩ := hcs 0 (by decide)
  obtain ⟨p1, e1, r1⟩ := hcs 1 (by decide)
  rw [hc0] at r0
  rw [hc1] at r1
  obtain ⟨B1, s1, hL1, rfl⟩ := r0
  obtain ⟨B2, s2, hL2, rfl⟩ := r1
  obtain rfl : cs = #[.pointer (some ⟨B1, s1 + o1, none⟩), .pointer (some ⟨B2, s2 + o2, none⟩)] := by
    apply Array.ext_getElem?
    intro i
    match i with
    | 0 => rw [e0]; rfl
    | 1 => rw [e1]; rfl
    | i + 2 => rw [Array.getElem?_eq_none (by omega), Array.getElem?_eq_none (by simp)]
  have k1 := s.blk h1 _ hH1
  have k2 := s.blk h2 _ hH2
  rw [hL1] at k1
  rw [hL2] at k2
  obtain ⟨cs1, t1, ⟨z1, hp1, _⟩, _, q1⟩ := k1
  obtain ⟨cs2, t2, ⟨z2, hp2, _⟩, _, q2⟩ := k2
  obtain ⟨sv, v1, v2⟩ := q1 o1 ho1
  obtain ⟨nv, v3, v4⟩ := q2 o2 ho2
  rw [hf1] at v2
  rw [hf2] at v4
  obtain rfl : nv = .int .i64 c := v4
  have v2' := v2
  obtain ⟨ad, cap, rfl, hcap, _, had0, hrd⟩ := v2
  obtain ⟨⟨b, off, sp⟩, rfl⟩ : ∃ p, ad = some p := by
    cases ad with
    | none => have := (had0 rfl).1; omega
    | some p => exact ⟨p, rfl⟩
  obtain rfl : sp = none := (hrd _ rfl 0 (by omega)).1
  have hB1 : B1 < w.heap.size := (Array.getElem?_eq_some_iff.1 hp1).1
  have hB2 : B2 < w.heap.size := (Array.getElem?_eq_some_iff.1 hp2).1
  have hseq := hit (9 - 1) B1 (s1 + o1) B2 (s2 + o2) b off len cap w (by decide) (by simp [World.cell?, hp1, v1]) (by simp [World.cell?, hp2, v3]) hlen.1 hcap hlen.2
  have hw0 : w0.heap.size ≤ w.heap.size := s.keep.size
  obtain ⟨I, hI⟩ : ∃ I : List Nat → World → Prop, I = fun pre W => ∃ L', Sim N.n w0 S W a.tmps L' A0 (HH pre) ∧ (∀ h, N'.pn h = true → L' h = L h) ∧ Rd W (okb S (HH pre) L') L' (.list nn 1 len f) (.slice (some ⟨b, off, none⟩) len cap) ∧ (∀ h q, HH pre h ≠ none → L' h = some q → q.1 ≠ B1 ∧ q.1 ≠ B2) ∧ w.heap.size ≤ W.heap.size := ⟨_, rfl⟩
  have hI0 : I [] w := by
    rw [hI]
    refine ⟨L, s.cut hA0 hH0, fun _ _ => rfl, Rd.okm (fun b hb => okb_le hH0 hb) v2', fun h q hn hq => ⟨fun e => ?_, fun e => ?_⟩, Nat.le_refl _⟩
    · have hH : H h ≠ none := by
        cases e2 : HH [] h with
        | none => exact absurd e2 hn
        | some B => rw [hH0 h B e2]; simp
      obtain rfl := s.inj h h1 q (B1, s1) hH (by rw [hH1]; simp) hq hL1 e
      exact hn hb1
    · have hH : H h ≠ none := by
        cases e2 : HH [] h with
        | none => exact absurd e2 hn
        | some B => rw [hH0 h B e2]; simp
      obtain rfl := s.inj h h2 q (B2, s2) hH (by rw [hH2]; simp) hq hL2 e
      exact hn hb2
  have hIown : OwnFrom w.heap.size I := by
    rw [hI]
    rintro pre X Y row ⟨L', s', hp, hr, hb, hsz⟩ hgr hrow
    have hnot : ∀ r, row = some r → ∃ o, X.heap[r]? = some o ∧ ∀ cs e fz, o ≠ .cells cs e fz := fun r e => by
      obtain ⟨_, o, h3, h4⟩ := hrow r e
      exact ⟨o, h3, fun cs e fz h => by rw [h] at h4; cases h4⟩
    have hcell : ∀ b, CellB X b → Y.heap[b]? = X.heap[b]? := fun b hb => hgr.block b hb.lt fun e => by
      obtain ⟨o, h3, h4⟩ := hnot b e.symm
      obtain ⟨cs, e, fz, h5⟩ := hb
      rw [h3] at h5
      exact h4 _ _ _ (Option.some.inj h5)
    refine ⟨L', s'.grew hgr fun r e => ⟨Nat.le_trans hw0 (hrow r e).1, hnot r e, fun h kv q hh => absurd hh (hcl pre h kv)⟩, hp, ?_, hb, Nat.le_trans hsz hgr.size⟩
    have := Rd.stepC (p := fun _ => false) (w := X) (w' := Y) (ok := okb S (HH pre) L') (ok' := okb S (HH pre) L') (fun b hb h => ⟨h, hcell b hb⟩) (fun b cs e fz h => ⟨cs, (hcell b ⟨cs, e, fz, h⟩).trans h, rfl⟩) _ L' L' _ (fun _ _ => rfl) hr
    rwa [AV.scrub_none] at this
  refine wpIn_rangeFunc_ownG_of_H (F := FF none) (n := 9) rfl (by decide) hge trivial (fun args w => run_callFunc hcall) hseq (fun h k => ⟨k.1.trans h.1, k.2.trans h.2⟩)
    (fun W l o o' hl _ _ _ => ⟨World.putObj_heap_other (by omega), World.putObj_heap_other (by omega)⟩) (RowKit.Below.refl _ _) (fun _ => rfl) I (fun _ _ _ => False) hIown (fun _ _ _ _ _ h _ _ => h) hI0
    (fun k => { tmps := (a.tmps.setIfInBounds t (chV c b off len k)).setIfInBounds u (chV c b off len k), defers := [] }) ?_ ?_ ?_ (fun _ _ _ _ _ _ h _ => h.elim) (fun _ => ⟨rfl, rfl⟩)
  · intro l k W K hK
    refine wp_region_lit (l := [asg]) (P := P) ?_ (some l) _ (fun h => by cases h)
    refine wpList_plain hag fun K2 hK2 => owp_val (u := chV c b off len k) (w' := W) ?_ (hK2 _ _ (wpList_nil ?_))
    · have hlt : t < a.tmps.size := by rw [s.size]; exact ht
      simp [execOp, hop, Act.eval, hlt]
    · rw [had]; simpa [Exit.then, Act.put, List.zip] using hK
  · intro l pre k W hIp hlt
    rw [hI] at hIp
    obtain ⟨L', s', hp, hr, hb, hsz⟩ := hIp
    have hk := rd_chunk c k hr
    obtain ⟨S', hS'⟩ : ∃ S' : Rg, S' = { S.tight hS s' with pin := fun h => if N'.pn h then some (L' h) else none } := ⟨_, rfl⟩
    have hwr : ∀ b, S'.wr b ↔ (W.heap.size ≤ b ∨ ∃ h q, HH pre h ≠ none ∧ L' h = some q ∧ q.1 = b) := fun b => by rw [hS']; exact Iff.rfl
    have hok : ∀ H L, okb S' H L = okb S H L := fun H L => by rw [hS']; rfl
    have hgood : Good N' W S' := ⟨fun b hb => (hwr b).2 (.inl hb), fun h hh => by rw [hS']; simp [hh]⟩
    have hpin : ∀ h, N'.pn h = true → S'.pin h = some (L' h) := fun h hh => by rw [hS']; simp [hh]
    have st : Sim N'.n W S' W (((a.tmps.setIfInBounds t (chV c b off len k)).setIfInBounds u (chV c b off len k))) L' ((u, chA c len f k) :: (t, chA c len f k) :: A0) (HH pre) := by
      have s0 : Sim N'.n W S' W a.tmps L' A0 (HH pre) := ⟨Keep.refl _ _, by rw [hn]; exact s'.size, fun i a h => by rw [hok]; exact s'.slot i a h, fun h B hB => by rw [hok]; exact s'.blk h B hB, fun h q h1 h2 => (hwr _).2 (.inr ⟨h, q, h1, h2, rfl⟩), s'.inj, fun h l hl => by
        rw [hS'] at hl
        dsimp only at hl
        split at hl
        · exact Option.some.inj hl
        · cases hl⟩
      have s1 := s0.put (d := t) (a := chA c len f k) (u := chV c b off len k) (by rw [hn]; exact ht) (by rw [hok]; exact hk)
      exact s1.put (d := u) (a := chA c len f k) (u := chV c b off len k) (by rw [hn]; exact hu) (by rw [hok]; exact hk)
    have hb0 := hbody pre k hlt W S' hgood W { tmps := (a.tmps.setIfInBounds t (chV c b off len k)).setIfInBounds u (chV c b off len k), defers := [] } L' st
    rw [hin] at hb0
    refine wpIn_mono (hb0 (some l) _ (fun h => by cases h)) ?_
    rintro e a' W' ⟨L2, A2, H2, s2, _, rfl, hsub⟩
    obtain ⟨L3, s3⟩ := hsub W S' hgood W' a'.tmps L2 s2
    have hpin3 : ∀ h, N'.pn h = true → L3 h = L' h := fun h hh => s3.pin h _ (hpin h hh)
    have hsame : ∀ b, b < W.heap.size → (∀ h q, HH pre h ≠ none → L' h = some q → q.1 ≠ b) → W'.heap[b]? = W.heap[b]? := fun b hb hn => s3.keep.blk b hb fun hw => by
      rcases (hwr b).1 hw with h | ⟨h, q, h1, h2, h3⟩
      · omega
      · exact hn h q h1 h2 h3
    have hokk : ∀ b, b < W.heap.size → okb S (HH pre) L' b → okb S (HH (pre ++ [k])) L3 b ∧ W'.heap[b]? = W.heap[b]? := fun b hb h => ⟨⟨h.1, fun g q hn hq e => by
      rcases (hwr _).1 (s3.own g q hn hq) with h4 | ⟨h4, q', h5, h6, h7⟩
      · omega
      · exact h.2 h4 q' h5 h6 (h7.trans e)⟩, hsame b hb h.2⟩
    have hold : ∀ h q, HH (pre ++ [k]) h ≠ none → L3 h = some q → q.1 ≠ B1 ∧ q.1 ≠ B2 := fun h q hn hq => by
      rcases (hwr _).1 (s3.own h q hn hq) with h4 | ⟨h4, q', h5, h6, h7⟩
      · omega
      · rw [← h7]; exact hb h4 q' h5 h6
    refine ⟨⟨s3.keep.size, fun j o hj hjo ho => ?_⟩, ⟨hsame B1 (by omega) fun h q h1 h2 => (hb h q h1 h2).1, hsame B2 (by omega) fun h q h1 h2 => (hb h q h1 h2).2⟩, ?_⟩
    · refine (hsame j (Array.getElem?_eq_some_iff.1 hjo).1 fun h q hn hq e => ?_).trans hjo
      cases hB : HH pre h with
      | none => exact hn hB
      | some B =>
        have hbk := s'.blk h B hB
        rw [hq] at hbk
        cases B with
        | cells m g =>
          obtain ⟨cs, e3, ⟨fz, e4, _⟩, _⟩ := hbk
          rw [e, hjo] at e4
          rw [Option.some.inj e4] at ho
          cases ho
        | mp kv => exact hcl pre h kv hB
    · rw [hI]
      refine ⟨L3, ⟨s'.keep.trans (s3.keep.mono fun b _ hw => ?_), s'.size, fun i x hx => ?_, fun h B hB => by rw [← hok]; exact s3.blk h B hB, fun h q h1 h2 => ?_, s3.inj, fun h l hl => ?_⟩, fun h hh => (hpin3 h hh).trans (hp h hh), ?_, hold, Nat.le_trans hsz s3.keep.size⟩
      · exact tight_wr hS s' ((hwr b).1 hw)
      · have := Rd.step (p := fun h => !N'.pn h) hokk s3.keep.shape x L' L3 _ (fun h hh => hpin3 h (by simpa using hh)) (s'.slot i x hx)
        rwa [hA0s i x hx] at this
      · exact tight_wr hS s' ((hwr _).1 (s3.own h q h1 h2))
      · have hN : N.pn h = true := by
          cases e : N.pn h with
          | true => rfl
          | false => rw [hS.free h e] at hl; cases hl
        exact (hpin3 h (hpn h hN)).trans (s'.pin h l hl)
      · exact Rd.step (p := fun h => !N'.pn h) hokk s3.keep.shape (.list nn 1 len f) L' L3 _ (fun h hh => hpin3 h (by simpa using hh)) hr
  · rintro D xs W hD rfl hIx hDo
    rw [hI] at hIx
    obtain ⟨L', s', _⟩ := hIx
    refine ⟨L', A0, _, s', ⟨[markD D], rfl, fun d hd => ⟨D, Nat.le_trans hw0 hD, List.mem_singleton.1 hd, hDo⟩, by simp⟩, hdone⟩
end
end Go.Av
end

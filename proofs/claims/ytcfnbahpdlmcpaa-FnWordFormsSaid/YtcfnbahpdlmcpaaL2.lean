import Derived.Test.YtcfnbahpdlmcpaaL1
import Derived.JoinedOf
/- Regions whose order is open, whose operations only read, or lay memory that is only read from then on. -/
section
namespace Go.Plain

theorem nodup_le {α : Type} [DecidableEq α] : ∀ (l s : List α), s.Nodup → (∀ x ∈ s, x ∈ l) → s.length ≤ l.length
  | [], s, _, h => by
    cases s with
    | nil => simp
    | cons a r => exact absurd (h a List.mem_cons_self) (by simp)
  | a :: l, s, hn, h => by
    have h1 := nodup_le l (s.erase a) (hn.erase a) (fun x hx => by
      have h2 := (hn.mem_erase_iff).1 hx
      have h3 := h x h2.2
      simp only [List.mem_cons] at h3
      exact h3.resolve_left h2.1)
    have h4 : s.length - 1 ≤ (s.erase a).length := by
      rw [List.length_erase]; split <;> omega
    simp only [List.length_cons]; omega

theorem nodup_of_le {α : Type} [DecidableEq α] : ∀ (l s : List α), s.Nodup → (∀ x ∈ s, x ∈ l) → l.length ≤ s.length → l.Nodup
  | [], _, _, _, _ => List.nodup_nil
  | a :: l, s, hn, h, hl => by
    simp only [List.length_cons] at hl
    have ha : a ∉ l := by
      intro ha
      have := nodup_le l s hn fun x hx => by
        have h3 := h x hx
        simp only [List.mem_cons] at h3
        rcases h3 with rfl | h3
        · exact ha
        · exact h3
      omega
    have h4 : s.length - 1 ≤ (s.erase a).length := by
      rw [List.length_erase]; split <;> omega
    refine List.nodup_cons.2 ⟨ha, nodup_of_le l (s.erase a) (hn.erase a) (fun x hx => ?_) (by omega)⟩
    have h2 := (hn.mem_erase_iff).1 hx
    have h3 := h x h2.2
    simp only [List.mem_cons] at h3
    exact h3.resolve_left h2.1

/-- A row of n numbers below n: no repetition, if and only if every number comes. -/
theorem nodup_iff_all {l : List Nat} {n : Nat} (hl : l.length = n) (hb : ∀ x ∈ l, x < n) : l.Nodup ↔ ∀ i, i < n → i ∈ l := by
  constructor
  · intro hn i hi
    refine Classical.byContradiction fun hc => ?_
    have := nodup_le (List.range n) (i :: l) (List.nodup_cons.2 ⟨hc, hn⟩) (fun x hx => by
      simp only [List.mem_cons] at hx
      rcases hx with rfl | hx
      · simpa using hi
      · simpa using hb x hx)
    simp at this; omega
  · intro h
    exact nodup_of_le l (List.range n) List.nodup_range (fun x hx => h x (by simpa using hx)) (by simp [hl])
end Go.Plain

namespace Go.Av

def pureOp : Op → Bool
  | .move _ | .assign _ | .pick .. | .binOp .. | .unOp .. | .convert .. | .extract .. | .indexAddr .. | .index .. | .load .. | .lookup .. | .slice .. | .fieldAddr .. | .field .. | .build .. | .makeFunc .. | .nilCheck .. => true
  | .call { callee := .builtin .len, .. } | .call { callee := .builtin .min, .. } | .call { callee := .builtin .max, .. } => true
  | _ => false

/-- Just this result, the frame and the heap as they were. -/
def KR (r : AV) (A : Fr) (H : Hp) : AV → Fr → Hp → Prop := fun r' A' H' => r' = r ∧ A' = A ∧ H' = H
/-- One result, whatever follows. -/
def Det (F : (AV → Prop) → Prop) : Prop := ∀ K, F K → ∃ r, K r ∧ ∀ K', K' r → F K'

section
variable {P : Program}
theorem det_ob {p : Prop} {r : AV} : Det fun K => Ob p (K r) := fun _ h => ⟨r, h.2, fun _ hk => ⟨h.1, hk⟩⟩
theorem det_k {r : AV} : Det fun K => K r := fun _ h => ⟨r, h, fun _ hk => hk⟩
theorem det_no : Det fun _ => False := fun _ h => h.elim
theorem det_ob' {p : Prop} {F : (AV → Prop) → Prop} (h : Det F) : Det fun K => Ob p (F K) := fun K hk => let ⟨r, h1, h2⟩ := h K hk.2; ⟨r, h1, fun K' hk' => ⟨hk.1, h2 K' hk'⟩⟩
theorem det_with {a : Option AV} {F : AV → (AV → Prop) → Prop} (h : ∀ r, Det (F r)) : Det fun K => withA a fun r => F r K := by
  intro K hk
  obtain ⟨x, rfl, hk⟩ := withA_ok hk
  obtain ⟨r, h1, h2⟩ := h x K hk
  exact ⟨r, h1, fun K' hk' => h2 K' hk'⟩
theorem det_int (op : BinOp) (k : IntKind) (m n : Int) : Det (intVC op k m n) := by
  intro K h
  cases op <;> simp only [intVC] at h ⊢ <;> first | exact det_k K h | exact det_ob K h | exact h.elim
theorem det_sh (op : BinOp) (k : IntKind) (m n : Int) : Det (shVC op k m n) := by
  intro K h
  cases op <;> simp only [shVC] at h ⊢ <;> first | exact det_k K h | exact det_ob K h | exact h.elim
theorem det_str (op : BinOp) (s t : ByteArray) : Det (strVC op s t) := by
  intro K h
  cases op <;> simp only [strVC] at h ⊢ <;> first | exact det_k K h | exact det_ob K h | exact h.elim
theorem det_bool (op : BinOp) (t : TypeId) (a b : Bool) : Det (boolVC P op t a b) := by
  intro K h
  cases op <;> simp only [boolVC] at h ⊢ <;> first | exact det_k K h | exact det_ob K h | exact h.elim
theorem det_nil (op : BinOp) (a : Option Bool) : Det (nilVC op a) := by
  intro K h
  cases op <;> cases a <;> simp only [nilVC] at h ⊢ <;> first | exact det_k K h | exact det_ob K h | exact h.elim
theorem det_bin (op : BinOp) (t : TypeId) (a b : AV) : Det (binVC P op t a b) := by
  unfold binVC
  split
  · split
    · exact det_sh _ _ _ _
    · exact det_sh _ _ _ _
    · exact det_ob' (det_int _ _ _ _)
  · exact det_str _ _ _
  · exact det_bool _ _ _ _
  · exact det_ob' (det_nil _ _)
  · exact det_ob' (det_nil _ _)
  · exact det_no
theorem det_un (op : UnOp) (a : AV) : Det (unVC op a) := by
  unfold unVC
  split
  · exact det_k
  · exact det_k
  · exact det_no
theorem det_len (a : AV) : Det (lenVC a) := by unfold lenVC; split <;> first | exact det_k | exact det_no
theorem det_ix (se : Option SE) (a b : AV) : Det (ixVC se a b) := by unfold ixVC; split <;> first | exact det_ob' det_ob | exact det_no
theorem det_ld (ty : Option TY) (H : Hp) (a : AV) : Det (ldVC ty H a) := by
  unfold ldVC
  split
  · exact det_ob
  · exact det_ob
  · split <;> first | exact det_ob | exact det_no
  · split <;> first | exact det_ob | exact det_no
  · exact det_no
theorem det_sl (st : SlT) (a : AV) (lo hi : Option (Option AV)) : Det (slVC st a lo hi) := by
  unfold slVC
  split
  · split <;> first | exact det_ob | exact det_no
  · split <;> first | exact det_ob' det_ob | exact det_no
  · split <;> first | exact det_ob' det_ob | exact det_no
  · split <;> first | exact det_ob | exact det_no
  · exact det_no
theorem det_fa (fd : Option FD) (a : AV) : Det (faVC fd a) := by unfold faVC; split <;> first | exact det_ob | exact det_k | exact det_no
theorem det_fd (fd : Option FD) (a : AV) : Det (fdVC fd a) := by unfold fdVC; split <;> first | exact det_ob | exact det_no
theorem det_bd (bd : Option BD) (ps : Option (List (Nat × AV))) : Det (bdVC bd ps) := by unfold bdVC; split <;> first | exact det_ob | exact det_no
theorem det_ch (st : Bool) (a b : AV) : Det (chVC st a b) := by unfold chVC; split <;> first | exact det_ob | exact det_no
theorem det_cv (ct : CvT) (H : Hp) (a : AV) : Det (cvVC ct H a) := by
  unfold cvVC
  split
  · exact det_k
  · exact det_k
  · exact det_k
  · split <;> first | exact det_ob | exact det_no
  · exact det_no
theorem det_lk (mp : Option Value) (H : Hp) (a b : AV) (ok : Bool) : Det (lkVC mp H a b ok) := by
  unfold lkVC
  split
  · split
    · cases ok <;> exact det_ob
    · exact det_no
  · exact det_no
theorem det_mm (mx : Bool) (a b : AV) : Det (mmVC mx a b) := by unfold mmVC; split <;> first | exact det_ob | exact det_no

theorem evArgs_congr {A A' : Fr} : ∀ {l : List Operand}, (∀ x ∈ l, A'.ev x = A.ev x) → evArgs A' l = evArgs A l
  | [], _ => rfl
  | x :: r, h => by simp only [evArgs, h x List.mem_cons_self, evArgs_congr (l := r) fun y hy => h y (List.mem_cons_of_mem _ hy)]
theorem evParts_congr {A A' : Fr} : ∀ {l : List (Nat × Operand)}, (∀ x ∈ l.map (·.2), A'.ev x = A.ev x) → evParts A' l = evParts A l
  | [], _ => rfl
  | (i, x) :: r, h => by simp only [evParts, h x (by simp), evParts_congr (l := r) fun y hy => h y (by simp only [List.map_cons]; exact List.mem_cons_of_mem _ hy)]

variable {N : Cx} {A : Fr} {H : Hp}

/-- An operation that only reads asks the same of every frame that holds the same at what it looks at. -/
theorem opVC_pure {d : Nat} {op : Op} {K : AV → Prop} (hp : pureOp op = true) (h : opVC P N d op A H fun r _ _ => K r) :
    ∃ r, K r ∧ ∀ A', (∀ x ∈ op.operands, A'.ev x = A.ev x) → opVC P N d op A' H (KR r A' H) := by
  have fin : ∀ (F : (AV → Prop) → Prop), Det F → F K → ∃ r, K r ∧ ∀ A' : Fr, F fun r' => KR r A' H r' A' H := by
    intro F hF h
    obtain ⟨r, h1, h2⟩ := hF K h
    exact ⟨r, h1, fun A' => h2 _ ⟨rfl, rfl, rfl⟩⟩
  cases op <;> simp only [pureOp, Bool.false_eq_true] at hp <;> simp only [opVC] at h ⊢
  case move x =>
    obtain ⟨r, h1, h2⟩ := fin _ (det_with fun r => det_k) h
    exact ⟨r, h1, fun A' ha => by rw [ha x (by simp [Op.operands])]; exact h2 A'⟩
  case assign x =>
    obtain ⟨r, h1, h2⟩ := fin _ (det_with fun r => det_k) h
    exact ⟨r, h1, fun A' ha => by rw [ha x (by simp [Op.operands])]; exact h2 A'⟩
  case pick c x y =>
    obtain ⟨rc, hc, hK⟩ := withA_ok h
    split at hK
    · rename_i t
      cases t with
      | true =>
        obtain ⟨r, hx, hK⟩ := withA_ok (hK.1 rfl)
        refine ⟨r, hK, fun A' ha => ?_⟩
        rw [ha c (by simp [Op.operands]), ha x (by simp [Op.operands]), hc, hx]
        exact ⟨fun _ => ⟨rfl, rfl, rfl⟩, fun h => Bool.noConfusion h⟩
      | false =>
        obtain ⟨r, hx, hK⟩ := withA_ok (hK.2 rfl)
        refine ⟨r, hK, fun A' ha => ?_⟩
        rw [ha c (by simp [Op.operands]), ha y (by simp [Op.operands]), hc, hx]
        exact ⟨fun h => Bool.noConfusion h, fun _ => ⟨rfl, rfl, rfl⟩⟩
    · exact hK.elim
  case build t parts =>
    obtain ⟨r, h1, h2⟩ := fin _ (det_bd _ _) h
    refine ⟨r, h1, fun A' ha => ?_⟩
    rw [evParts_congr (A := A) (l := parts.toList) fun x hx => ha x (by simpa [Op.operands] using hx)]
    exact h2 A'
  case load t x =>
    obtain ⟨r, h1, h2⟩ := fin _ (det_with fun r => det_ld _ _ _) h
    exact ⟨r, h1, fun A' ha => by rw [ha x (by simp [Op.operands])]; exact h2 A'⟩
  case lookup t x i ok =>
    obtain ⟨r, h1, h2⟩ := fin _ (det_with fun r => det_with fun r' => det_lk _ _ _ _ _) h
    exact ⟨r, h1, fun A' ha => by rw [ha x (by simp [Op.operands]), ha i (by simp [Op.operands])]; exact h2 A'⟩
  case nilCheck x =>
    obtain ⟨r, h1, h2⟩ := fin _ (det_with fun r => det_ob) h
    exact ⟨r, h1, fun A' ha => by rw [ha x (by simp [Op.operands])]; exact h2 A'⟩
  case binOp op t x y yt =>
    obtain ⟨r, h1, h2⟩ := fin _ (det_with fun r => det_with fun r' => det_bin _ _ _ _) h
    exact ⟨r, h1, fun A' ha => by rw [ha x (by simp [Op.operands]), ha y (by simp [Op.operands])]; exact h2 A'⟩
  case unOp op t x =>
    obtain ⟨r, h1, h2⟩ := fin _ (det_with fun r => det_un _ _) h
    exact ⟨r, h1, fun A' ha => by rw [ha x (by simp [Op.operands])]; exact h2 A'⟩
  case convert s t x =>
    obtain ⟨r, h1, h2⟩ := fin _ (det_with fun r => det_cv _ _ _) h
    exact ⟨r, h1, fun A' ha => by rw [ha x (by simp [Op.operands])]; exact h2 A'⟩
  case makeFunc fn first caps =>
    split at h
    · obtain ⟨h0, h⟩ := h
      obtain ⟨l, hl, hK⟩ := withArgs_ok h
      refine ⟨_, hK, fun A' ha => ⟨h0, ?_⟩⟩
      rw [evArgs_congr fun x hx => ha x (by simp [Op.operands]; exact .inr (by simpa using hx)), hl]
      exact ⟨rfl, rfl, rfl⟩
    · exact h.elim
  case slice t x lo hi mx =>
    split at h
    all_goals first | exact h.elim | skip
    obtain ⟨r, h1, h2⟩ := fin _ (det_with fun r => det_sl _ _ _ _) h
    refine ⟨r, h1, fun A' ha => ?_⟩
    have e1 : opOpt A' lo = opOpt A lo := by
      cases lo with
      | none => rfl
      | some l => simp [opOpt, ha l (by simp [Op.operands])]
    have e2 : opOpt A' hi = opOpt A hi := by
      cases hi with
      | none => rfl
      | some l => simp [opOpt, ha l (by simp [Op.operands])]
    rw [ha x (by simp [Op.operands]), e1, e2]; exact h2 A'
  case fieldAddr t x i =>
    obtain ⟨r, h1, h2⟩ := fin _ (det_with fun r => det_fa _ _) h
    exact ⟨r, h1, fun A' ha => by rw [ha x (by simp [Op.operands])]; exact h2 A'⟩
  case field t x i =>
    obtain ⟨r, h1, h2⟩ := fin _ (det_with fun r => det_fd _ _) h
    exact ⟨r, h1, fun A' ha => by rw [ha x (by simp [Op.operands])]; exact h2 A'⟩
  case indexAddr t x y =>
    obtain ⟨r, h1, h2⟩ := fin _ (det_with fun r => det_with fun r' => det_ix _ _ _) h
    exact ⟨r, h1, fun A' ha => by rw [ha x (by simp [Op.operands]), ha y (by simp [Op.operands])]; exact h2 A'⟩
  case index t x y =>
    obtain ⟨r, h1, h2⟩ := fin _ (det_with fun r => det_with fun r' => det_ch _ _ _) h
    exact ⟨r, h1, fun A' ha => by rw [ha x (by simp [Op.operands]), ha y (by simp [Op.operands])]; exact h2 A'⟩
  case extract x i =>
    obtain ⟨rx, hx, hK⟩ := withA_ok h
    split at hK
    · rename_i n f
      obtain ⟨hi, hK⟩ := hK
      refine ⟨_, hK, fun A' ha => ?_⟩
      rw [ha x (by simp [Op.operands]), hx]
      exact ⟨hi, rfl, rfl, rfl⟩
    · exact hK.elim
  case call c =>
    obtain ⟨callee, args, tys⟩ := c
    cases callee with
    | invoke r m => simp at hp
    | value f => simp at hp
    | builtin b =>
      obtain ⟨l, hl, hK⟩ := withArgs_ok h
      have hc : ∀ A', (∀ x ∈ (Op.call { callee := .builtin b, args := args, argTypes := tys }).operands, A'.ev x = A.ev x) → evArgs A' args.toList = some l := by
        intro A' ha
        rw [evArgs_congr fun x hx => ha x (by simp [Op.operands, Call.operands]; simpa using hx), hl]
      have hd : ∃ r, K r ∧ ∀ A', bcallVC P N d b tys A' H l (KR r A' H) := by
        unfold bcallVC at hK ⊢
        split at hK
        · obtain ⟨r, h1, h2⟩ := fin _ (det_ob' (det_len _)) hK
          rename_i hts
          exact ⟨r, h1, fun A' => by rw [hts]; exact h2 A'⟩
        · simp at hp
        · simp at hp
        · simp at hp
        · simp at hp
        · obtain ⟨r, h1, h2⟩ := fin _ (det_mm _ _ _) hK
          exact ⟨r, h1, fun A' => h2 A'⟩
        · obtain ⟨r, h1, h2⟩ := fin _ (det_mm _ _ _) hK
          exact ⟨r, h1, fun A' => h2 A'⟩
        · exact hK.elim
      obtain ⟨r, h1, h2⟩ := hd
      exact ⟨r, h1, fun A' ha => by rw [hc A' ha]; exact h2 A'⟩
end

section
variable {P : Program} {N : Cx} {A : Fr} {H : Hp} {K : AV → Fr → Hp → Prop}

/-- What a function hands back, frozen: either all that it hands back is new (then what is ours may be handed over to be read), or what it is handed is only read anyhow. -/
def CallQ (P : Program) (f : FuncId) (args : List AV) (H : Hp) (K : AV → Prop) : Prop :=
  ∃ a args' pn post, AC P f args' Hp.emp pn post ∧ a.plain ∧ (∀ r H', post r H' → Fits H' (fun _ => True) r a) ∧
    ((FitsL H (fun _ => True) args args' ∧ ∀ r H', post r H' → r.solid ∧ ∀ h B, H' h = some B → B.solid) ∨ args = args') ∧ K a

theorem CallQ_congr {f : FuncId} {args args' : List AV} {H : Hp} {K : AV → Prop} (h : args = args') : CallQ P f args H K = CallQ P f args' H K := by rw [h]

/-- A call that hands back just this value, in a region whose order is open. -/
theorem callQ {f : FuncId} {args args' : List AV} {x : Value} {pn : Nat → Bool} {K : AV → Prop} (h : AC P f args' Hp.emp pn (retV (.v x))) (hf : FitsL H (fun _ => True) args args') (hK : K (.v x)) : CallQ P f args H K :=
  ⟨.v x, args', pn, _, h, trivial, fun r H' hp => by obtain ⟨rfl, _⟩ := hp; exact .refl _, .inl ⟨hf, fun r H' hp => by obtain ⟨rfl, rfl⟩ := hp; exact ⟨trivial, fun h B hB => by simp [Hp.emp] at hB⟩⟩, hK⟩
/-- .. a new row. -/
theorem callQI {f : FuncId} {args args' : List AV} {d : Nat} {xs : List Int} {pn : Nat → Bool} {K : AV → Prop} (hf : FitsL H (fun _ => True) args args') (h : AC P f args' Hp.emp pn (retI d xs)) (hK : K (ints xs)) : CallQ P f args H K :=
  ⟨ints xs, args', pn, _, h, trivial, fun r H' hp => by obtain ⟨rfl, rfl⟩ := hp; exact fits_I (by simp [Hp.upd]) trivial rfl rfl,
    .inl ⟨hf, fun r H' hp => by
      obtain ⟨rfl, rfl⟩ := hp
      refine ⟨trivial, fun h B hB => ?_⟩
      obtain ⟨rfl, rfl⟩ := upd_some hB
      intro i hi; trivial⟩, hK⟩
/-- .. a value that is only read, of arguments that are only read. -/
theorem callQR {f : FuncId} {args args' : List AV} {a : AV} {pn : Nat → Bool} {K : AV → Prop} (he : args = args') (h : AC P f args' Hp.emp pn (retV a)) (ha : a.plain) (hK : K a) : CallQ P f args H K :=
  ⟨a, args', pn, _, h, ha, fun r H' hp => by obtain ⟨rfl, _⟩ := hp; exact .refl _, .inr he, hK⟩

theorem RdArgs.of_Cw {w w' : World} {ok : Nat → Prop} {L : Loc} {l : List AV} {vs : Array Value} (hw : Cw w w') (h : RdArgs w ok L l vs) : RdArgs w' ok L l vs := by
  refine ⟨h.1, fun i a hi => ?_⟩
  obtain ⟨u, k1, k2⟩ := h.2 i a hi
  refine ⟨u, k1, ?_⟩
  have := Rd.step (p := fun _ => false) (w := w) (w' := w') (ok := ok) (ok' := ok) (fun b hb ho => ⟨ho, hw.blk b hb⟩) (Keep.shape hw) a L L u (fun _ _ => rfl) k2
  rwa [AV.scrub_none] at this

theorem callQ_run {f : FuncId} {args : List AV} {K : AV → Prop} (h : CallQ P f args H K) : ∃ a, K a ∧ ∀ A, CallG P N f args A H (KR a A H) := by
  obtain ⟨a, args', pn, post, hac, hpl, hfz, hfit, hK⟩ := h
  refine ⟨a, hK, fun A => ⟨hac.1, fun w0 S hS w tm L s vs hvs => ?_⟩⟩
  let new : Nat → Prop := fun b => w.heap.size ≤ b
  have hlt : ∀ h q, H h ≠ none → L h = some q → q.1 < w.heap.size := by
    intro h q hn hq
    cases hH : H h with
    | none => exact absurd hH hn
    | some B' =>
      have := s.blk h B' hH
      rw [hq] at this
      exact BlkOk.lt (b := q.1) (s := q.2) this
  have hnew : ∀ b, new b → okb S H L b := fun b hb => ⟨S.sub b (hS.new b (Nat.le_trans s.keep.size hb)), fun h q hn hq e => by have := hlt h q hn hq; have : w.heap.size ≤ b := hb; omega⟩
  -- what is left behind the call
  have fin : ∀ (G : Nat → Prop) (u r : Value) (w' : World) (L' : Loc) (r : AV) (H' : Hp) (hsub : ∀ b, G b ∨ new b → True), Cw w w' → (∀ b, G b → okb S H L b) → ∀ S' : Rg, S'.ok = (fun b => G b ∨ new b) → Sim 0 w S' w' #[] L' [] H' → Rd w' (okb S' H' L') L' r u → Fits H' (fun _ => True) r a → Rd w' (okb S H L) L a u := by
    intro G u _ w' L' r H' _ hCw hG S' hS' s2 hr hf
    have h1 := hf.rd s2 u hr
    refine Rd.plain a L' L u hpl (Rd.mono (fun b _ hb => ?_) h1)
    have := hb.1
    rw [hS'] at this
    rcases this with h | h
    · exact hG b h
    · exact hnew b h
  rcases hfit with ⟨hfit, hsol⟩ | rfl
  · let S' : Rg := ⟨new, fun _ => True, fun _ _ => trivial, fun _ => none⟩
    have s0 : Sim 0 w S' w #[] L [] Hp.emp := ⟨Keep.refl w _, rfl, fun i a h => by simp [Fr.get] at h, fun h B hB => by simp [Hp.emp] at hB, fun h q hn => by simp [Hp.emp] at hn, fun h g q r hn => by simp [Hp.emp] at hn, fun h l hl => by simp [S'] at hl⟩
    obtain ⟨j1, j2⟩ := hfit.args s hvs
    refine (hac.2 S' w L vs (fun b h => h) (fun h _ => rfl) s0 ⟨j1, fun i a hi => ?_⟩).mono ?_
    · obtain ⟨u, k1, k2⟩ := j2 i a hi
      exact ⟨u, k1, Rd.mono (fun b _ _ => ⟨trivial, fun h q hn => by simp [Hp.emp] at hn⟩) k2⟩
    · rintro e w' ⟨u, L', r, H', rfl, s2, hr, hp⟩
      have hCw : Cw w w' := s2.keep
      obtain ⟨hs1, hs2⟩ := hsol r H' hp
      let S2 : Rg := ⟨new, fun b => False ∨ new b, fun _ h => .inr h, fun _ => none⟩
      have s3 : Sim 0 w S2 w' #[] L' [] H' := ⟨s2.keep, rfl, fun i a h => by simp [Fr.get] at h, fun h B hB => (s2.blk h B hB).solid (hs2 h B hB), s2.own, s2.inj, fun h l hl => by simp [S2] at hl⟩
      exact ⟨u, a, L, A, H, rfl, s.of_Cw hS hCw, fin (fun _ => False) u u w' L' r H' (fun _ _ => trivial) hCw (fun b h => h.elim) S2 rfl s3 (Rd.solid _ _ _ hs1 hr) (hfz r H' hp), rfl, rfl, rfl⟩
  · let S' : Rg := ⟨new, fun b => okb S H L b ∨ new b, fun _ h => .inr h, fun _ => none⟩
    have s0 : Sim 0 w S' w #[] L [] Hp.emp := ⟨Keep.refl w _, rfl, fun i a h => by simp [Fr.get] at h, fun h B hB => by simp [Hp.emp] at hB, fun h q hn => by simp [Hp.emp] at hn, fun h g q r hn => by simp [Hp.emp] at hn, fun h l hl => by simp [S'] at hl⟩
    refine (hac.2 S' w L vs (fun b h => h) (fun h _ => rfl) s0 ⟨hvs.1, fun i a hi => ?_⟩).mono ?_
    · obtain ⟨u, k1, k2⟩ := hvs.2 i a hi
      exact ⟨u, k1, Rd.mono (fun b _ hb => ⟨.inl hb, fun h q hn => by simp [Hp.emp] at hn⟩) k2⟩
    · rintro e w' ⟨u, L', r, H', rfl, s2, hr, hp⟩
      have hCw : Cw w w' := s2.keep
      exact ⟨u, a, L, A, H, rfl, s.of_Cw hS hCw, fin (okb S H L) u u w' L' r H' (fun _ _ => trivial) hCw (fun b h => h) S' rfl s2 hr (hfz r H' hp), rfl, rfl, rfl⟩

/-- A literal whose block is only read from then on. -/
def bsQVC (se : Option SE) (len : Nat) (parts : Option (List (Nat × AV))) (K : AV → Prop) : Prop :=
  match se, parts with
  | some se, some ps =>
    Ob ((0 < se.size ∧ len * se.size ≤ 16777216) ∧ fillOk (fun i => some (i * se.size, se.size)) (len * se.size) ps)
      (Ob (∀ i, i < len * se.size → (fillF (fun i => some (i * se.size, se.size)) ps (zF se.zero) i).plain) (K (.list true se.size len (fillF (fun i => some (i * se.size, se.size)) ps (zF se.zero)))))
  | _, _ => False
theorem run_bsQ {t : TypeId} {len : Nat} {ps : List (Nat × Operand)} {K : AV → Prop} {l : List (Nat × AV)} (h : bsQVC (selOf P t) len (some l) K) : ∃ r, K r ∧ ∀ A : Fr, evParts A ps = some l →
    ∀ w0 S, Good N w0 S → ∀ w (a : Act) L, Sim N.n w0 S w a.tmps L A H →
    ∃ u w', (Instr.buildSlice t len (ps.toArray.map fun (i, x) => (i, a.eval x))).run P w = .ok u w' ∧ Sim N.n w0 S w' a.tmps L A H ∧ Rd w' (okb S H L) L r u := by
  unfold bsQVC at h
  split at h
  · rename_i se l' hse hl'
    simp only [Option.some.injEq] at hl'
    subst hl'
    obtain ⟨⟨⟨h01, h1⟩, h2⟩, hpl, hK⟩ := h
    refine ⟨_, hK, fun A hl w0 S hS w a L s => ?_⟩
    obtain ⟨hut, ti, z, hi, e1, e2, e3, e4, e5⟩ := selOf_ok hse
    obtain ⟨p1, p2⟩ := evParts_ok s ps l hl
    have hex : ∃ zc : Array Value, (if len * se.size = 0 then pure #[] else (do pure (← zeroValue se.e).cells) : Sem (Array Value)).run P w = .ok zc w ∧ (0 < len * se.size → zc = z.cells) := by
      by_cases h0 : len * se.size = 0
      · exact ⟨#[], by simp [h0], fun h => by omega⟩
      · exact ⟨z.cells, by simp only [h0, if_false]; simp [zeroValue, typeInfo, hi, e3], fun _ => rfl⟩
    obtain ⟨zc, hz, hzc⟩ := hex
    obtain ⟨r, r1, r2, r3⟩ := fill_ok (w := w) (ok := okb S H L) (L := L) (fun i => some (i * se.size, se.size)) l (ps.map fun (i, x) => (i, a.eval x)) (zF se.zero)
      ((Array.range (len * se.size)).map (zc[· % zc.size]!)) p1 p2 (by simpa using h2) (by
        intro i hi
        simp at hi
        have := hzc (by omega)
        subst this
        have hz0 : 0 < z.cells.size := by omega
        rw [zF_get e4 i hz0]
        exact ⟨_, by simp [hi], rfl⟩)
    simp at r2
    have hcw : Cw w (w.alloc (.cells r se.e)) := (keep_alloc _ _ rfl).mono fun k hk he => by omega
    have hs' := s.of_Cw hS hcw
    refine ⟨.slice (some ⟨w.heap.size, 0, none⟩) len len, w.alloc (.cells r se.e), ?_, hs', ?_⟩
    · have hnot : ¬ (16777216 < len * se.size) := by omega
      have hso : (sizeOf se.e).run P w = .ok se.size w := by simp [sizeOf, typeInfo, hi, e1]
      by_cases h0 : len * se.size = 0
      · have hzc0 : zc = #[] := by simpa [h0] using hz.symm
        subst hzc0
        simp only [h0] at r1
        unfold Instr.buildSlice
        have e0 : ∀ (f : Nat → Value), Array.map f (Array.range 0) = #[] := fun f => Array.eq_empty_of_size_eq_zero (by simp)
        rw [e0] at r1
        simp only [Sem.run_bind, run_underlying hut, Result.andThen_ok, hso, h0]
        simp [r1, newRow, e0]
      · have hzc1 := hzc (by omega)
        subst hzc1
        have hzz : (zeroValue se.e).run P w = .ok z w := by simp [zeroValue, typeInfo, hi, e3]
        unfold Instr.buildSlice
        simp only [Sem.run_bind, run_underlying hut, Result.andThen_ok, hso, Sem.run_ite, h0, if_false, hzz]
        simp [hnot, r1, newRow]
    · refine ⟨_, len, rfl, Nat.le_refl _, fun _ => by simp, fun h => (by cases h), fun p hp i hi => ?_⟩
      simp only [Option.some.injEq] at hp
      subst hp
      obtain ⟨c, k1, k2⟩ := r3 i (by simpa using hi)
      refine ⟨rfl, ⟨S.sub _ (hS.new _ s.keep.size), fun h q hn hq e => ?_⟩, c, ?_, fun L' => ?_⟩
      · have : ∃ B', H h = some B' := by
          cases hH : H h with
          | none => exact absurd hH hn
          | some B' => exact ⟨B', rfl⟩
        obtain ⟨B', hB'⟩ := this
        have hb := s.blk h B' hB'
        rw [hq] at hb
        have := BlkOk.lt (b := q.1) (s := q.2) hb
        simp only at e
        omega
      · simp only [World.cell?, heap_alloc_new]
        simpa using k1
      · have h9 := Rd.plain _ L L' c (hpl i hi) k2
        have := Rd.step (p := fun _ => false) (w := w) (w' := w.alloc (.cells r se.e)) (ok := okb S H L) (ok' := okb S H L) (fun b hb ho => ⟨ho, hcw.blk b hb⟩) (Keep.shape hcw) _ L' L' c (fun _ _ => rfl) h9
        rwa [AV.scrub_none] at this
  · exact h.elim

variable (P N)

/-- What an operation of such a region asks. -/
def opQ (d : Nat) (op : Op) (A : Fr) (H : Hp) (K : AV → Prop) : Prop :=
  match op with
  | .call { callee := .value f, args, .. } =>
    match calleeOf (A.ev f) with
    | some (g, caps) => withArgs (evArgs A args.toList) fun l => CallQ P g (l ++ caps) H K
    | none => False
  | .buildSlice t len parts => bsQVC (selOf P t) len (evParts A parts.toList) K
  | op => Ob (pureOp op = true) (opVC P N d op A H fun r _ _ => K r)

def opsQ (ds : List (Option Tmp)) (Q : Fr → Prop) : List Oper → Fr → Hp → Prop
  | [], A, _ => Q A
  | o :: rest, A, H =>
    match o.guard with
    | none => opQ P N (o.dst.getD 0) o.op A H fun r => opsQ ds Q rest (putd o.dst r A) H
    | some (j, want) =>
      match ds.getD j none with
      | some t => withA (A.get t) fun g => match g with
        | .v (.bool b) =>
          Br b (if want then opQ P N (o.dst.getD 0) o.op ((t, .v (.bool true)) :: A) H fun r => opsQ ds Q rest (putd o.dst r ((t, .v (.bool true)) :: A)) H else opsQ ds Q rest (putd o.dst (.v (.tuple #[])) ((t, .v (.bool true)) :: A)) H)
               (if want then opsQ ds Q rest (putd o.dst (.v (.tuple #[])) ((t, .v (.bool false)) :: A)) H else opQ P N (o.dst.getD 0) o.op ((t, .v (.bool false)) :: A) H fun r => opsQ ds Q rest (putd o.dst r ((t, .v (.bool false)) :: A)) H)
        | .v (.tuple _) => opsQ ds Q rest (putd o.dst (.v (.tuple #[])) A) H
        | _ => False
      | none => False

variable {P N}

/-- Whatever the rest of the frame is, the operation gives r and leaves the frame and the heap. -/
def OpOK (P : Program) (N : Cx) (o : Oper) (A : Fr) (H : Hp) (r : AV) : Prop :=
  ∀ A', (∀ x ∈ o.op.operands, A'.ev x = A.ev x) → OpV P N o A' H (KR r A' H)

theorem opQ_ok {o : Oper} {K : AV → Prop} (h : opQ P N (o.dst.getD 0) o.op A H K) : ∃ r, K r ∧ OpOK P N o A H r := by
  unfold opQ at h
  split at h
  · rename_i f args tys ho
    split at h
    · rename_i g caps hg
      obtain ⟨l, hl, hc⟩ := withArgs_ok h
      obtain ⟨r, hK, hcall⟩ := callQ_run (N := N) hc
      refine ⟨r, hK, fun A' ha => opVC_sound ?_⟩
      have hf : A'.ev f = A.ev f := ha f (by rw [ho]; simp [Op.operands, Call.operands])
      have hargs : evArgs A' args.toList = some l := by
        rw [evArgs_congr fun x hx => ha x (by rw [ho]; simp [Op.operands, Call.operands]; exact .inr (by simpa using hx)), hl]
      rw [ho]
      simp only [opVC, hf, hg, hargs, withArgs]
      exact hcall A'
    · exact h.elim
  · rename_i t len parts ho
    cases hl : evParts A parts.toList with
    | none => rw [hl] at h; unfold bsQVC at h; split at h <;> simp_all
    | some l =>
      rw [hl] at h
      obtain ⟨r, h1, h2⟩ := run_bsQ (N := N) (H := H) (ps := parts.toList) h
      refine ⟨r, h1, fun A' ha => opv_mem fun w0 S hS w a L s => ?_⟩
      have hA' : evParts A' parts.toList = some l := by
        rw [evParts_congr fun x hx => ha x (by rw [ho]; simpa [Op.operands] using hx), hl]
      obtain ⟨u, w', e1, e2, e3⟩ := h2 A' hA' w0 S hS w a L s
      exact ⟨u, w', L, r, A', H, by simp only [Array.toArray_toList] at e1; simp [execOp, ho, e1], e2, e3, rfl, rfl, rfl⟩
  · obtain ⟨hp, h⟩ := h
    obtain ⟨r, h1, h2⟩ := opVC_pure hp h
    exact ⟨r, h1, fun A' ha => opVC_sound (h2 A' ha)⟩

def StepOK (P : Program) (N : Cx) (ds : List (Option Tmp)) (o : Oper) (A : Fr) (H : Hp) (r : AV) : Prop :=
  match o.guard with
  | none => OpOK P N o A H r
  | some (j, want) => ∃ t, ds.getD j none = some t ∧ ((∃ b, A.get t = some (.v (.bool b)) ∧ (b = want → OpOK P N o A H r) ∧ (b = !want → r = .v (.tuple #[]))) ∨ ((∃ xs, A.get t = some (.v (.tuple xs))) ∧ r = .v (.tuple #[])))

def LexL (P : Program) (N : Cx) (ds : List (Option Tmp)) (H : Hp) (Q : Fr → Prop) : List Oper → Fr → List AV → Prop
  | [], A, [] => Q A
  | o :: l, A, r :: rs => ∃ A1 : Fr, (∀ t, A1.get t = A.get t) ∧ StepOK P N ds o A1 H r ∧ LexL P N ds H Q l (putd o.dst r A1) rs
  | _, _, _ => False

theorem lex_of_opsQ {ds : List (Option Tmp)} {Q : Fr → Prop} : ∀ (l : List Oper) (A : Fr), opsQ P N ds Q l A H → ∃ rs, LexL P N ds H Q l A rs
  | [], A, h => ⟨[], h⟩
  | o :: l, A, h => by
    simp only [opsQ] at h
    have one : ∀ A1 : Fr, (∀ t, A1.get t = A.get t) → (∀ r, OpOK P N o A1 H r → StepOK P N ds o A1 H r) → opQ P N (o.dst.getD 0) o.op A1 H (fun r => opsQ P N ds Q l (putd o.dst r A1) H) → ∃ rs, LexL P N ds H Q (o :: l) A rs := by
      intro A1 hA hs h1
      obtain ⟨r, h2, h3⟩ := opQ_ok h1
      obtain ⟨rs, h4⟩ := lex_of_opsQ l _ h2
      exact ⟨r :: rs, A1, hA, hs r h3, h4⟩
    cases hg : o.guard with
    | none =>
      rw [hg] at h
      exact one A (fun _ => rfl) (fun r hr => by unfold StepOK; rw [hg]; exact hr) h
    | some q =>
      obtain ⟨j, want⟩ := q
      rw [hg] at h
      simp only at h
      split at h
      · rename_i t hj
        obtain ⟨g, hget, h⟩ := withA_ok h
        split at h
        · rename_i b
          have again : ∀ c, b = c → ∀ s, Fr.get ((t, .v (.bool c)) :: A) s = A.get s := by
            intro c hc s
            subst hc
            simp only [Fr.get]
            split
            · rename_i e; subst e; exact hget.symm
            · rfl
          have hyes : ∀ c, b = c → c = want → ∀ r, OpOK P N o ((t, .v (.bool c)) :: A) H r → StepOK P N ds o ((t, .v (.bool c)) :: A) H r := by
            intro c hc hw r hr
            unfold StepOK
            rw [hg]
            refine ⟨t, hj, .inl ⟨c, by simp [Fr.get], fun _ => hr, fun h => ?_⟩⟩
            subst hw; cases c <;> cases h
          have hno : ∀ c, b = c → c = !want → opsQ P N ds Q l (putd o.dst (.v (.tuple #[])) ((t, .v (.bool c)) :: A)) H → ∃ rs, LexL P N ds H Q (o :: l) A rs := by
            intro c hc hw h1
            obtain ⟨rs, h4⟩ := lex_of_opsQ l _ h1
            refine ⟨.v (.tuple #[]) :: rs, _, again c hc, ?_, h4⟩
            unfold StepOK
            rw [hg]
            refine ⟨t, hj, .inl ⟨c, by simp [Fr.get], fun h => ?_, fun _ => rfl⟩⟩
            subst hw; cases want <;> cases h
          cases hb : b with
          | true =>
            have h1 := h.1 hb
            cases want with
            | true => exact one _ (again true hb) (hyes true hb rfl) h1
            | false => exact hno true hb rfl h1
          | false =>
            have h1 := h.2 hb
            cases want with
            | true => exact hno false hb rfl h1
            | false => exact one _ (again false hb) (hyes false hb rfl) h1
        · rename_i xs
          obtain ⟨rs, h4⟩ := lex_of_opsQ l _ h
          refine ⟨.v (.tuple #[]) :: rs, A, fun _ => rfl, ?_, h4⟩
          unfold StepOK
          rw [hg]
          exact ⟨t, hj, .inr ⟨⟨xs, hget⟩, rfl⟩⟩
        · exact h.elim
      · exact h.elim

/-- What the slots hold once the first j operations are through. -/
def valL : List Oper → List AV → (Nat → Option AV) → Nat → Nat → Option AV
  | _, _, g, 0 => g
  | o :: l, r :: rs, g, j + 1 => valL l rs (fun t => if o.dst = some t then some r else g t) j
  | _, _, g, _ + 1 => g

theorem putd_get (d : Option Tmp) (r : AV) (A : Fr) (t : Nat) : (putd d r A).get t = if d = some t then some r else A.get t := by
  cases d with
  | none => simp [putd]
  | some d => simp [putd, Fr.get]

theorem LexL_get {ds : List (Option Tmp)} {Q : Fr → Prop} : ∀ (l : List Oper) (A : Fr) (rs : List AV) (g : Nat → Option AV), (∀ t, A.get t = g t) → LexL P N ds H Q l A rs →
    rs.length = l.length ∧ (∀ j o, l[j]? = some o → ∃ Aj : Fr, (∀ t, Aj.get t = valL l rs g j t) ∧ StepOK P N ds o Aj H (rs.getD j .dead)) ∧ ∃ An : Fr, (∀ t, An.get t = valL l rs g l.length t) ∧ Q An
  | [], A, [], g, hA, h => ⟨rfl, fun j o ho => by simp at ho, A, hA, h⟩
  | [], A, _ :: _, g, hA, h => h.elim
  | _ :: _, A, [], g, hA, h => h.elim
  | o :: l, A, r :: rs, g, hA, h => by
    obtain ⟨A1, h1, h2, h3⟩ := h
    obtain ⟨k1, k2, k3⟩ := LexL_get l _ rs (fun t => if o.dst = some t then some r else g t) (fun t => by rw [putd_get, h1, hA]) h3
    refine ⟨by simp [k1], fun j o' ho => ?_, k3⟩
    cases j with
    | zero =>
      simp only [List.getElem?_cons_zero, Option.some.injEq] at ho
      subst ho
      exact ⟨A1, fun t => by rw [h1, hA]; rfl, h2⟩
    | succ j => exact k2 j o' (by simpa using ho)

theorem valL_miss : ∀ (l : List Oper) (rs : List AV) (g : Nat → Option AV) (j t : Nat), (∀ k o, k < j → l[k]? = some o → o.dst ≠ some t) → valL l rs g j t = g t
  | [], _, g, 0, t, _ => rfl
  | _ :: _, [], g, 0, t, _ => rfl
  | _ :: _, _ :: _, g, 0, t, _ => rfl
  | [], _, g, j + 1, t, _ => rfl
  | _ :: _, [], g, j + 1, t, _ => rfl
  | o :: l, r :: rs, g, j + 1, t, h => by
    simp only [valL]
    rw [valL_miss l rs _ j t fun k o' hk ho => h (k + 1) o' (by omega) (by simpa using ho), if_neg (h 0 o (by omega) rfl)]

theorem valL_hit : ∀ (l : List Oper) (rs : List AV) (g : Nat → Option AV) (j t k : Nat) (o : Oper), rs.length = l.length → k < j → l[k]? = some o → o.dst = some t → (∀ k' o', l[k']? = some o' → o'.dst = some t → k' = k) →
    valL l rs g j t = some (rs.getD k .dead)
  | _, _, _, 0, _, _, _, _, h, _, _, _ => by omega
  | [], _, _, _ + 1, _, _, _, _, _, h, _, _ => by simp at h
  | _ :: _, [], _, _ + 1, _, _, _, h, _, _, _, _ => by simp at h
  | o' :: l, r :: rs, g, j + 1, t, 0, o, hl, hk, ho, hd, hu => by
    simp only [List.getElem?_cons_zero, Option.some.injEq] at ho
    subst ho
    simp only [valL]
    rw [valL_miss l rs _ j t fun k o'' _ ho'' e => by have := hu (k + 1) o'' (by simpa using ho'') e; omega]
    simp [hd]
  | o' :: l, r :: rs, g, j + 1, t, k + 1, o, hl, hk, ho, hd, hu => by
    simp only [valL]
    rw [valL_hit l rs _ j t k o (by simpa using hl) (by omega) (by simpa using ho) hd fun k' o'' ho'' e => by have := hu (k' + 1) o'' (by simpa using ho'') e; omega]
    simp

def nodupB : List Nat → Bool
  | [] => true
  | a :: r => !r.contains a && nodupB r
theorem nodupB_ok : ∀ l : List Nat, nodupB l = true → l.Nodup
  | [], _ => List.nodup_nil
  | a :: r, h => by
    simp only [nodupB, Bool.and_eq_true, Bool.not_eq_true'] at h
    exact List.nodup_cons.2 ⟨by simpa using h.1, nodupB_ok r h.2⟩

/-- One walk serves every order of this region. -/
def anyOk (ops : Array Oper) : Bool :=
  nodupB (ops.toList.filterMap (·.dst)) &&
  (List.range ops.size).all fun j => match ops[j]? with
    | none => true
    | some oj => oj.after.all (fun e => !Region.binds .any e || decide (e.on < j)) &&
      (List.range ops.size).all fun i => i == j || match ops[i]? with
        | none => true
        | some oi => oj.after.any (fun e => Region.binds .any e && e.on == i) || oi.after.any (fun e => Region.binds .any e && e.on == j) ||
          (match oi.dst with | none => true | some d => !(oj.looksAt ops).contains d)

theorem anyOk_ok {ops : Array Oper} (h : anyOk ops = true) :
    (∀ (i j t : Nat) (oi oj : Oper), ops[i]? = some oi → ops[j]? = some oj → oi.dst = some t → oj.dst = some t → i = j) ∧
    (∀ (j : Nat) (oj : Oper) (e : Edge), ops[j]? = some oj → e ∈ oj.after → Region.binds .any e = true → e.on < j) ∧
    (∀ (i j d : Nat) (oi oj : Oper), i ≠ j → ops[i]? = some oi → ops[j]? = some oj → oi.dst = some d → d ∈ oj.looksAt ops →
      (∃ e ∈ oj.after, Region.binds .any e = true ∧ e.on = i) ∨ (∃ e ∈ oi.after, Region.binds .any e = true ∧ e.on = j)) := by
  simp only [anyOk, Bool.and_eq_true] at h
  obtain ⟨h1, h2⟩ := h
  have h1 := nodupB_ok _ h1
  simp only [List.all_eq_true, List.mem_range] at h2
  have at' : ∀ (j : Nat) (oj : Oper), ops[j]? = some oj → j < ops.size := fun j oj hj => (Array.getElem?_eq_some_iff.1 hj).1
  refine ⟨?_, ?_, ?_⟩
  · have key : ∀ (l : List Oper) (i j t : Nat) (oi oj : Oper), (l.filterMap (·.dst)).Nodup → l[i]? = some oi → l[j]? = some oj → oi.dst = some t → oj.dst = some t → i = j := by
      intro l
      induction l with
      | nil => intro i j t oi oj _ hi; simp at hi
      | cons o r ih =>
        intro i j t oi oj hn hi hj di dj
        have hn' : (r.filterMap (·.dst)).Nodup := by
          rw [List.filterMap_cons] at hn
          split at hn
          · exact hn
          · exact (List.nodup_cons.1 hn).2
        have mem : ∀ (k : Nat) (ok : Oper), r[k]? = some ok → ok.dst = some t → t ∈ r.filterMap (·.dst) := fun k ok hk dk => List.mem_filterMap.2 ⟨ok, List.mem_of_getElem? hk, dk⟩
        have head : o.dst = some t → t ∉ r.filterMap (·.dst) := by
          intro ho
          rw [List.filterMap_cons_some ho] at hn
          exact (List.nodup_cons.1 hn).1
        cases i with
        | zero =>
          cases j with
          | zero => rfl
          | succ j =>
            simp only [List.getElem?_cons_zero, Option.some.injEq] at hi
            subst hi
            exact absurd (mem j oj (by simpa using hj) dj) (head di)
        | succ i =>
          cases j with
          | zero =>
            simp only [List.getElem?_cons_zero, Option.some.injEq] at hj
            subst hj
            exact absurd (mem i oi (by simpa using hi) di) (head dj)
          | succ j => rw [ih i j t oi oj hn' (by simpa using hi) (by simpa using hj) di dj]
    intro i j t oi oj hi hj di dj
    exact key ops.toList i j t oi oj h1 (by simpa using hi) (by simpa using hj) di dj
  · intro j oj e hj he hb
    have := h2 j (at' j oj hj)
    simp only [hj, Bool.and_eq_true] at this
    have := Array.all_eq_true_iff_forall_mem.1 this.1 e he
    simpa [hb] using this
  · intro i j d oi oj hij hi hj hd hl
    have := h2 j (at' j oj hj)
    simp only [hj, Bool.and_eq_true, List.all_eq_true, List.mem_range] at this
    have := this.2 i (at' i oi hi)
    simp only [hi, hd, Bool.or_eq_true, beq_iff_eq, hij, false_or, Bool.not_eq_true', List.contains_eq_mem, decide_eq_false_iff_not, hl, not_true, or_false] at this
    rcases this with h | h
    · left
      obtain ⟨e, he, hb⟩ := Array.any_eq_true'.1 h
      simp only [Bool.and_eq_true, beq_iff_eq] at hb
      exact ⟨e, he, hb⟩
    · right
      obtain ⟨e, he, hb⟩ := Array.any_eq_true'.1 h
      simp only [Bool.and_eq_true, beq_iff_eq] at hb
      exact ⟨e, he, hb⟩

theorem bool_other {b c : Bool} (h : ¬ b = c) : b = !c := by cases b <;> cases c <;> simp_all

theorem any_sound {ops : Array Oper} {Q' : Exit → Act → World → Prop} {A0 : Fr} {rs : List AV} {w0 : World} {S : Rg} (hS : Good N w0 S) (hok : anyOk ops = true) (hN : ∀ (j t : Nat) (o : Oper), ops[j]? = some o → o.dst = some t → t < N.n)
    (hlen : rs.length = ops.toList.length)
    (hstep : ∀ j o, ops.toList[j]? = some o → ∃ Aj : Fr, (∀ t, Aj.get t = valL ops.toList rs A0.get j t) ∧ StepOK P N (ops.toList.map (·.dst)) o Aj H (rs.getD j .dead))
    (hQ : ∀ (A : Fr) (a : Act) (w : World) (L : Loc), Sim N.n w0 S w a.tmps L A H → a.defers = [] → (∀ t, A.get t = valL ops.toList rs A0.get ops.toList.length t) → Q' .normal a w) :
    ∀ (fuel : Nat) (listed : Array Bool) (s : List Nat) (a : Act) (w : World) (A : Fr) (L : Loc), listed.size = ops.size → s.Nodup → (∀ k, k ∈ s ↔ listed.getD k false = true) → s.length + fuel = ops.size →
      (∀ (k : Nat) (o : Oper) (e : Edge), listed.getD k false = true → ops[k]? = some o → e ∈ o.after → Region.binds .any e = true → listed.getD e.on false = true) →
      Sim N.n w0 S w a.tmps L A H → a.defers = [] →
      (∀ (k t : Nat) (o : Oper), ops[k]? = some o → listed.getD k false = true → o.dst = some t → A.get t = some (rs.getD k .dead)) →
      (∀ t, (∀ (k : Nat) (o : Oper), ops[k]? = some o → listed.getD k false = true → o.dst ≠ some t) → A.get t = A0.get t) →
      wpAny P .any ops Q' fuel listed a w := by
  obtain ⟨hinj, hback, hdep⟩ := anyOk_ok hok
  have tl : ∀ j : Nat, ops.toList[j]? = ops[j]? := fun j => Array.getElem?_toList
  intro fuel
  induction fuel with
  | zero =>
    intro listed s a w A L hsz hn hs hc hcl sim hd hl1 hl2
    have hlt : ∀ k ∈ s, k < ops.size := fun k hk => by
      have := (hs k).1 hk
      rcases Nat.lt_or_ge k listed.size with h | h
      · omega
      · simp [Array.getD, show ¬ k < listed.size by omega] at this
    have hall : ∀ k, k < ops.size → listed.getD k false = true := fun k hk => (hs k).1 ((Go.Plain.nodup_iff_all (by omega) hlt).1 hn k hk)
    refine ⟨?_, hQ A a w L sim hd fun t => ?_⟩
    · refine List.eq_nil_iff_forall_not_mem.2 fun j hj => ?_
      obtain ⟨h1, o, ho, _⟩ := mem_ready.1 hj
      have hj' : j < ops.size := (Array.getElem?_eq_some_iff.1 ho).1
      have := hall j hj'
      simp [Array.getD, hsz, hj'] at h1 this
      rw [h1] at this; cases this
    · by_cases hx : ∃ (k : Nat) (o : Oper), ops[k]? = some o ∧ o.dst = some t
      · obtain ⟨k, o, ho, hdt⟩ := hx
        have hk := (Array.getElem?_eq_some_iff.1 ho).1
        rw [hl1 k t o ho (hall k hk) hdt, valL_hit ops.toList rs _ _ t k o hlen (by simpa using hk) (by rw [tl]; exact ho) hdt fun k' o' ho' hd' => hinj k' k t o' o (by rw [← tl]; exact ho') ho hd' hdt]
      · have hm : ∀ (k : Nat) (o : Oper), ops[k]? = some o → o.dst ≠ some t := fun k (o : Oper) ho e => hx ⟨k, o, ho, e⟩
        rw [hl2 t fun k o ho _ => hm k o ho, valL_miss _ _ _ _ _ fun k o _ ho => hm k o (by rw [← tl]; exact ho)]
  | succ fuel ih =>
    intro listed s a w A L hsz hn hs hc hcl sim hd hl1 hl2
    have ld : ∀ k, k < ops.size → (listed.getD k true = false ↔ ¬ listed.getD k false = true) := by
      intro k hk
      simp [Array.getD, hsz, hk]
    -- something is not listed, and the first such may come
    have hex : ∃ k, k < ops.size ∧ ¬ listed.getD k false = true := by
      refine Classical.byContradiction fun hno => ?_
      have : ∀ x ∈ List.range ops.size, x ∈ s := fun x hx => (hs x).2 (Classical.byContradiction fun h => hno ⟨x, by simpa using hx, h⟩)
      have := Go.Plain.nodup_le s (List.range ops.size) List.nodup_range this
      simp at this; omega
    have hready : Region.ready .any ops listed ≠ [] := by
      obtain ⟨k, hk⟩ := hex
      have : ∀ n k, k ≤ n → k < ops.size ∧ ¬ listed.getD k false = true → ∃ j, j ∈ Region.ready .any ops listed := by
        intro n
        induction n with
        | zero =>
          intro k hk ⟨h1, h2⟩
          refine ⟨k, mem_ready.2 ⟨(ld k h1).2 h2, ops[k], by simp [h1], fun e he hb => ?_⟩⟩
          have := hback k ops[k] e (by simp [h1]) he hb
          omega
        | succ n ihn =>
          intro k hk ⟨h1, h2⟩
          by_cases hx : ∃ e ∈ ops[k].after, Region.binds .any e = true ∧ ¬ listed.getD e.on false = true
          · obtain ⟨e, he, hb, hl⟩ := hx
            have := hback k ops[k] e (by simp [h1]) he hb
            exact ihn e.on (by omega) ⟨by omega, hl⟩
          · refine ⟨k, mem_ready.2 ⟨(ld k h1).2 h2, ops[k], by simp [h1], fun e he hb => ?_⟩⟩
            exact Classical.byContradiction fun h => hx ⟨e, he, hb, h⟩
      obtain ⟨j, hj⟩ := this k k (Nat.le_refl k) hk
      exact List.ne_nil_of_mem hj
    refine ⟨fun h => absurd h hready, fun i hi => ?_⟩
    obtain ⟨hun0, oi, hoi, hall⟩ := mem_ready.1 hi
    have hi' : i < ops.size := (Array.getElem?_eq_some_iff.1 hoi).1
    have hun := (ld i hi').1 hun0
    obtain ⟨Ai, hAi, hst⟩ := hstep i oi (by rw [tl]; exact hoi)
    -- what it looks at stands in the frame as in the walk
    have look : ∀ t, t ∈ oi.looksAt ops → A.get t = Ai.get t := by
      intro t ht
      rw [hAi]
      by_cases hx : ∃ (k : Nat) (o : Oper), ops[k]? = some o ∧ o.dst = some t
      · obtain ⟨k, o, ho, hdt⟩ := hx
        have huniq : ∀ (k' : Nat) (o' : Oper), ops[k']? = some o' → o'.dst = some t → k' = k := fun k' o' ho' hd' => hinj k' k t o' o ho' ho hd' hdt
        have miss : ¬ listed.getD k false = true → i ≤ k → A.get t = valL ops.toList rs A0.get i t := by
          intro h1 h2
          rw [hl2 t fun k' o' ho' hl' e => h1 (huniq k' o' ho' e ▸ hl'), valL_miss _ _ _ _ _ fun k' o' hk' ho' e => by have := huniq k' o' (by rw [← tl]; exact ho') e; omega]
        by_cases hki : k = i
        · subst hki; exact miss hun (Nat.le_refl _)
        · rcases hdep k i t o oi hki ho hoi hdt ht with ⟨e, he, hb, rfl⟩ | ⟨e, he, hb, rfl⟩
          · have h1 := hall e he hb
            have h2 := hback i oi e hoi he hb
            rw [hl1 _ t o ho h1 hdt, valL_hit ops.toList rs _ i t e.on o hlen h2 (by rw [tl]; exact ho) hdt fun k' o' ho' hd' => huniq k' o' (by rw [← tl]; exact ho') hd']
          · have h2 := hback k o e ho he hb
            refine miss (fun h => ?_) (by omega)
            exact hun (hcl k o e h ho he hb)
      · have hm : ∀ (k : Nat) (o : Oper), ops[k]? = some o → o.dst ≠ some t := fun k (o : Oper) ho e => hx ⟨k, o, ho, e⟩
        rw [hl2 t fun k o ho _ => hm k o ho, valL_miss _ _ _ _ _ fun k o _ ho => hm k o (by rw [← tl]; exact ho)]
    have evs : ∀ x ∈ oi.op.operands, A.ev x = Ai.ev x := by
      intro x hx
      cases x with
      | tmp t => exact look t (List.mem_append_left _ (List.mem_filterMap.2 ⟨.tmp t, by simpa using hx, rfl⟩))
      | const v => rfl
      | global g => rfl
      | func f => rfl
    -- what comes behind it
    have next : ∀ (a' : Act) (w' : World) (L' : Loc), Sim N.n w0 S w' a'.tmps L' (putd oi.dst (rs.getD i .dead) A) H → a'.defers = [] → wpAny P .any ops Q' fuel (listed.setIfInBounds i true) a' w' := by
      intro a' w' L' sim' hd'
      have g1 : ∀ k, (listed.setIfInBounds i true).getD k false = true ↔ (k = i ∨ listed.getD k false = true) := by
        intro k
        by_cases hk : k = i
        · subst hk; simp [Array.getD, hsz, hi']
        · rw [getD_set_ne false (Ne.symm hk)]; simp [hk]
      refine ih (listed.setIfInBounds i true) (i :: s) a' w' (putd oi.dst (rs.getD i .dead) A) L' (by simp [hsz]) ?_ ?_ (by simp only [List.length_cons]; omega) ?_ sim' hd' ?_ ?_
      · exact List.nodup_cons.2 ⟨fun h => hun ((hs i).1 h), hn⟩
      · intro k; rw [g1, List.mem_cons, hs]
      · intro k o e hk ho he hb
        rw [g1] at hk ⊢
        rcases hk with rfl | hk
        · rw [hoi] at ho; simp only [Option.some.injEq] at ho; subst ho
          exact .inr (hall e he hb)
        · exact .inr (hcl k o e hk ho he hb)
      · intro k t o ho hk hdt
        rw [putd_get]
        rw [g1] at hk
        by_cases hki : k = i
        · subst hki
          rw [hoi] at ho; simp only [Option.some.injEq] at ho; subst ho
          rw [if_pos hdt]
        · rw [if_neg fun e => hki (hinj k i t o oi ho hoi hdt e)]
          exact hl1 k t o ho (hk.resolve_left hki) hdt
      · intro t ht
        rw [putd_get, if_neg (ht i oi hoi ((g1 i).2 (.inl rfl)))]
        exact hl2 t fun k o ho hk => ht k o ho ((g1 k).2 (.inr hk))
    have hNi := fun t h => hN i t oi hoi h
    unfold wpOp
    simp only [hoi]
    have run : OpOK P N oi Ai H (rs.getD i .dead) → oi.wp P a w (wpAny P .any ops Q' fuel (listed.setIfInBounds i true)) Q' := by
      intro hop
      refine hop A evs w0 S hS w a L sim _ Q' ?_
      rintro u r L' A' H' w' s' hr ⟨rfl, rfl, rfl⟩
      exact next _ _ L' (s'.putd hNi hr) (by rw [put_defers]; exact hd)
    unfold StepOK at hst
    split at hst
    · rename_i hg
      rw [if_pos (by simp [Region.wanted, hg])]
      exact .inl (run hst)
    · rename_i g want hg
      obtain ⟨t, h1, hst⟩ := hst
      have hj' : (ops[g]?).bind (·.dst) = some t := by
        simp only [List.getD_eq_getElem?_getD, List.getElem?_map, Array.getElem?_toList] at h1
        cases ho : ops[g]? with
        | none => simp [ho] at h1
        | some x => simpa [ho] using h1
      have hlook : t ∈ oi.looksAt ops := by simp [Oper.looksAt, hg, hj']
      have hgt : t < N.n := by
        cases ho : ops[g]? with
        | none => simp [ho] at hj'
        | some x => exact hN g t x ho (by simpa [ho] using hj')
      rcases hst with ⟨b, h2, h3, h4⟩ | ⟨⟨xs, h2⟩, h4⟩
      case inr =>
        have hget : A.get t = some (.v (.tuple xs)) := by rw [look t hlook]; exact h2
        have hy : yielded ops a.tmps g = none := by
          have e1 : a.tmps.getD t undef = .tuple xs := sim.slot t _ hget
          have hlt : t < a.tmps.size := by rw [sim.size]; exact hgt
          have e2 : a.tmps[t]? = some (.tuple xs) := by
            simp [Array.getD, hlt] at e1
            simp [hlt, e1]
          simp [yielded, hj', e2]
        rw [if_neg (by simp [Region.wanted, hg, hy])]
        exact next _ _ L (sim.putd hNi (r := rs.getD i .dead) (by rw [h4]; rfl)) (by rw [put_defers]; exact hd)
      have hget : A.get t = some (.v (.bool b)) := by rw [look t hlook]; exact h2
      have hy : yielded ops a.tmps g = some b := by
        have e1 : a.tmps.getD t undef = .bool b := sim.slot t _ hget
        have hlt : t < a.tmps.size := by rw [sim.size]; exact hgt
        have e2 : a.tmps[t]? = some (.bool b) := by
          simp [Array.getD, hlt] at e1
          simp [hlt, e1]
        simp [yielded, hj', e2]
      by_cases hbw : b = want
      · rw [if_pos (by simp [Region.wanted, hg, hy, hbw])]
        exact .inl (run (h3 hbw))
      · rw [if_neg (by simp [Region.wanted, hg, hy, hbw])]
        have := h4 (bool_other hbw)
        refine next _ _ L (sim.putd hNi (r := rs.getD i .dead) (by rw [this]; rfl)) (by rw [put_defers]; exact hd)

/-- A region whose order is open. -/
theorem awp_regionQ {id : Nat} {l : List Oper} {Q : Exit → Fr → Hp → Prop} (hm : P.follows .mixedOrders = true) (hB : anyOk l.toArray = true) (hN : dstsOk N l = true)
    (h : opsQ P N (l.map (·.dst)) (fun A => Q .normal A H) l A H) : AWP P N (.region id l.toArray true) Q A H := by
  have hmem := dstsOk_mem hN
  obtain ⟨rs, hlex⟩ := lex_of_opsQ l A h
  obtain ⟨k1, k2, An, k3, k4⟩ := LexL_get l A rs A.get (fun _ => rfl) hlex
  intro w0 S hS w a L s hd
  have s1 : Sim N.n w0 S w.drew a.tmps L A H := s.drew
  refine wp_region_any hm ?_
  refine any_sound (ops := l.toArray) (A0 := A) (rs := rs) hS hB (fun j t o ho hdt => hmem o (List.mem_of_getElem? (by simpa using ho)) t hdt) k1 k2 ?_ _ _ [] a _ A L (by simp) List.nodup_nil ?_ (by simp) ?_ s1 hd ?_ ?_
  · intro A' a' w' L' s' hd' hg
    exact ⟨L', An, H, s'.sub fun t b hb => by rw [hg t]; rw [k3 t] at hb; exact hb, hd', k4⟩
  · intro k; simp [Array.getD]
  · intro k o e hk; simp [Array.getD] at hk
  · intro k t o _ hk; simp [Array.getD] at hk
  · intro t _; rfl

end
attribute [congr] CallQ_congr
attribute [go_sem] opsQ bsQVC
@[go_sem] theorem opQ_move (P : Program) (N : Cx) (d : Nat) (A : Fr) (H : Hp) (K : AV → Prop) (x : Operand) : opQ P N d (.move x) A H K = opVC P N d (.move x) A H fun r _ _ => K r := by simp [opQ, pureOp, Ob]
@[go_sem] theorem opQ_assign (P : Program) (N : Cx) (d : Nat) (A : Fr) (H : Hp) (K : AV → Prop) (x : Operand) : opQ P N d (.assign x) A H K = opVC P N d (.assign x) A H fun r _ _ => K r := by simp [opQ, pureOp, Ob]
@[go_sem] theorem opQ_pick (P : Program) (N : Cx) (d : Nat) (A : Fr) (H : Hp) (K : AV → Prop) (c x y : Operand) : opQ P N d (.pick c x y) A H K = opVC P N d (.pick c x y) A H fun r _ _ => K r := by simp [opQ, pureOp, Ob]
@[go_sem] theorem opQ_binOp (P : Program) (N : Cx) (d : Nat) (A : Fr) (H : Hp) (K : AV → Prop) (o : BinOp) (t : TypeId) (x y : Operand) (u : TypeId) : opQ P N d (.binOp o t x y u) A H K = opVC P N d (.binOp o t x y u) A H fun r _ _ => K r := by simp [opQ, pureOp, Ob]
@[go_sem] theorem opQ_unOp (P : Program) (N : Cx) (d : Nat) (A : Fr) (H : Hp) (K : AV → Prop) (o : UnOp) (t : TypeId) (x : Operand) : opQ P N d (.unOp o t x) A H K = opVC P N d (.unOp o t x) A H fun r _ _ => K r := by simp [opQ, pureOp, Ob]
@[go_sem] theorem opQ_convert (P : Program) (N : Cx) (d : Nat) (A : Fr) (H : Hp) (K : AV → Prop) (s t : TypeId) (x : Operand) : opQ P N d (.convert s t x) A H K = opVC P N d (.convert s t x) A H fun r _ _ => K r := by simp [opQ, pureOp, Ob]
@[go_sem] theorem opQ_extract (P : Program) (N : Cx) (d : Nat) (A : Fr) (H : Hp) (K : AV → Prop) (x : Operand) (i : Nat) : opQ P N d (.extract x i) A H K = opVC P N d (.extract x i) A H fun r _ _ => K r := by simp [opQ, pureOp, Ob]
@[go_sem] theorem opQ_indexAddr (P : Program) (N : Cx) (d : Nat) (A : Fr) (H : Hp) (K : AV → Prop) (t : TypeId) (x i : Operand) : opQ P N d (.indexAddr t x i) A H K = opVC P N d (.indexAddr t x i) A H fun r _ _ => K r := by simp [opQ, pureOp, Ob]
@[go_sem] theorem opQ_index (P : Program) (N : Cx) (d : Nat) (A : Fr) (H : Hp) (K : AV → Prop) (t : TypeId) (x i : Operand) : opQ P N d (.index t x i) A H K = opVC P N d (.index t x i) A H fun r _ _ => K r := by simp [opQ, pureOp, Ob]
@[go_sem] theorem opQ_lookup (P : Program) (N : Cx) (d : Nat) (A : Fr) (H : Hp) (K : AV → Prop) (t : TypeId) (x i : Operand) (ok : Bool) : opQ P N d (.lookup t x i ok) A H K = opVC P N d (.lookup t x i ok) A H fun r _ _ => K r := by simp [opQ, pureOp, Ob]
@[go_sem] theorem opQ_load (P : Program) (N : Cx) (d : Nat) (A : Fr) (H : Hp) (K : AV → Prop) (t : TypeId) (x : Operand) : opQ P N d (.load t x) A H K = opVC P N d (.load t x) A H fun r _ _ => K r := by simp [opQ, pureOp, Ob]
@[go_sem] theorem opQ_slice (P : Program) (N : Cx) (d : Nat) (A : Fr) (H : Hp) (K : AV → Prop) (t : TypeId) (x : Operand) (lo hi mx : Option Operand) : opQ P N d (.slice t x lo hi mx) A H K = opVC P N d (.slice t x lo hi mx) A H fun r _ _ => K r := by simp [opQ, pureOp, Ob]
@[go_sem] theorem opQ_fieldAddr (P : Program) (N : Cx) (d : Nat) (A : Fr) (H : Hp) (K : AV → Prop) (t : TypeId) (x : Operand) (i : Nat) : opQ P N d (.fieldAddr t x i) A H K = opVC P N d (.fieldAddr t x i) A H fun r _ _ => K r := by simp [opQ, pureOp, Ob]
@[go_sem] theorem opQ_field (P : Program) (N : Cx) (d : Nat) (A : Fr) (H : Hp) (K : AV → Prop) (t : TypeId) (x : Operand) (i : Nat) : opQ P N d (.field t x i) A H K = opVC P N d (.field t x i) A H fun r _ _ => K r := by simp [opQ, pureOp, Ob]
@[go_sem] theorem opQ_len (P : Program) (N : Cx) (d : Nat) (A : Fr) (H : Hp) (K : AV → Prop) (args : Array Operand) (t : Array TypeId) : opQ P N d (.call { callee := .builtin .len, args := args, argTypes := t }) A H K = opVC P N d (.call { callee := .builtin .len, args := args, argTypes := t }) A H fun r _ _ => K r := by simp [opQ, pureOp, Ob]
@[go_sem] theorem opQ_min (P : Program) (N : Cx) (d : Nat) (A : Fr) (H : Hp) (K : AV → Prop) (args : Array Operand) (t : Array TypeId) : opQ P N d (.call { callee := .builtin .min, args := args, argTypes := t }) A H K = opVC P N d (.call { callee := .builtin .min, args := args, argTypes := t }) A H fun r _ _ => K r := by simp [opQ, pureOp, Ob]
@[go_sem] theorem opQ_max (P : Program) (N : Cx) (d : Nat) (A : Fr) (H : Hp) (K : AV → Prop) (args : Array Operand) (t : Array TypeId) : opQ P N d (.call { callee := .builtin .max, args := args, argTypes := t }) A H K = opVC P N d (.call { callee := .builtin .max, args := args, argTypes := t }) A H fun r _ _ => K r := by simp [opQ, pureOp, Ob]
@[go_sem] theorem opQ_build (P : Program) (N : Cx) (d : Nat) (A : Fr) (H : Hp) (K : AV → Prop) (t : TypeId) (ps : Array (Nat × Operand)) : opQ P N d (.build t ps) A H K = opVC P N d (.build t ps) A H fun r _ _ => K r := by simp [opQ, pureOp, Ob]
@[go_sem] theorem opQ_makeFunc (P : Program) (N : Cx) (d : Nat) (A : Fr) (H : Hp) (K : AV → Prop) (f : Fn) (x y : Array Operand) : opQ P N d (.makeFunc f x y) A H K = opVC P N d (.makeFunc f x y) A H fun r _ _ => K r := by simp [opQ, pureOp, Ob]
@[go_sem] theorem opQ_buildSlice (P : Program) (N : Cx) (d : Nat) (A : Fr) (H : Hp) (K : AV → Prop) (t : TypeId) (len : Nat) (ps : Array (Nat × Operand)) : opQ P N d (.buildSlice t len ps) A H K = bsQVC (selOf P t) len (evParts A ps.toList) K := rfl
@[go_sem] theorem opQ_nilCheck (P : Program) (N : Cx) (d : Nat) (A : Fr) (H : Hp) (K : AV → Prop) (x : Operand) : opQ P N d (.nilCheck x) A H K = opVC P N d (.nilCheck x) A H fun r _ _ => K r := by simp [opQ, pureOp, Ob]
@[go_sem] theorem opQ_call (P : Program) (N : Cx) (d : Nat) (A : Fr) (H : Hp) (K : AV → Prop) (f : Operand) (args : Array Operand) (t : Array TypeId) : opQ P N d (.call { callee := .value f, args := args, argTypes := t }) A H K = (match calleeOf (A.ev f) with | some (g, caps) => withArgs (evArgs A args.toList) fun l => CallQ P g (l ++ caps) H K | none => False) := rfl

end Go.Av
end
/- Ends, joined with equations; names of arguments turned; calls that write what they are handed. -/
section
namespace Go.Av
section
variable {P : Program} {N : Cx} {A : Fr} {H : Hp} {fn : Func}

theorem end_retV' {t : Tmp} {a a' : AV} (hr : fn.results.toList = [.tmp t]) (h : A.get t = some a') (e : a' = a) : endQ P N fn (retV a) .ret A H := by
  subst e; exact end_retV hr h
theorem end_retB {t : Tmp} {p : Prop} [Decidable p] {b : Bool} (hr : fn.results.toList = [.tmp t]) (h : A.get t = some (.v (.bool b))) (e : b = true ↔ p) : endQ P N fn (retV (.v (.bool (decide p)))) .ret A H := by
  refine end_retV' hr h ?_
  congr 2
  cases b <;> simp at e <;> simp [e]
theorem end_retN {t : Tmp} {x y : Int} (hr : fn.results.toList = [.tmp t]) (h : A.get t = some (.v (.int .i64 x))) (e : x = y) : endQ P N fn (retV (.v (.int .i64 y))) .ret A H := by
  subst e; exact end_retV hr h
theorem end_retI' {t : Tmp} {h d m : Nat} {xs ys : List Int} (hr : fn.results.toList = [.tmp t]) (hA : A.get t = some (.own h 0 1 m)) (hH : H h = some (.cells m (cM iv 0 ys))) (e : ys = xs) (hm : m = ys.length) (hpn : N.pn = fun _ => false) :
    endQ P N fn (retI d xs) .ret A H := by
  subst e; exact end_retI hr hA hH hm hpn

theorem end_retI_nil' {t : Tmp} {d : Nat} {xs : List Int} (hr : fn.results.toList = [.tmp t]) (hA : A.get t = some (.v (.slice none 0 0))) (e : [] = xs) (hpn : N.pn = fun _ => false) : endQ P N fn (retI d xs) .ret A H := by
  subst e; exact end_retI_nil hr hA hpn
theorem end_retIB' {t u : Tmp} {h d m : Nat} {b : Bool} {xs : List Int} {p : List Int × Bool} (hr : fn.results.toList = [.tmp t, .tmp u]) (hA : A.get t = some (.own h 0 1 m)) (hB : A.get u = some (.v (.bool b))) (hH : H h = some (.cells m (cM iv 0 xs))) (e : p = (xs, b)) (htu : t ≠ u) (hm : m = xs.length) (hpn : N.pn = fun _ => false) :
    endQ P N fn (retIB d p.1 p.2) .ret A H := by
  subst e; exact end_retIB hr htu hA hB hH hm hpn
theorem end_retIB_nil' {t u : Tmp} {d : Nat} {b : Bool} {p : List Int × Bool} (hr : fn.results.toList = [.tmp t, .tmp u]) (hA : A.get t = some (.v (.slice none 0 0))) (hB : A.get u = some (.v (.bool b))) (e : p = ([], b)) (htu : t ≠ u) (hpn : N.pn = fun _ => false) :
    endQ P N fn (retIB d p.1 p.2) .ret A H := by
  subst e; exact end_retIB_nil hr htu hA hB hpn
theorem Hp.le_upd {H' H : Hp} {h : Nat} {b : Blk} (k : H h = some b) (r : Hp.le H' H) : Hp.le (H'.upd h b) H := by
  intro g B hB
  simp only [Hp.upd] at hB
  split at hB
  · rename_i e; subst e; simp only [Option.some.injEq] at hB; subst hB; exact k
  · exact r g B hB
theorem Sub.toL {A' : Fr} {H' : Hp} (hA : Fr.sub A A') (hH : Hp.le H' H) : Sub N A H A' H' := Sub.to hA hH
theorem cellsE {α : Type} {g : α → AV} {d : α} {n m : Nat} {xs ys : List α} (h : n = m) (k : xs = ys) : some (Blk.cells n (cM g d xs)) = some (Blk.cells m (cM g d ys)) := by rw [h, k]

/-- Forget, and freeze what is not said of the heap. -/
theorem Sub.toF {A' : Fr} {H' : Hp} (hA : Fr.fit H (fun h => H' h = none) A A') (hH : Hp.le H' H) : Sub N A H A' H' :=
  Sub.fits (fun h => H' h = none) (Fr.fit_get A' A hA) fun h B hB => ⟨by simp [hB], B, hH h B hB, BFits.refl _ _ _⟩
theorem Fits.ofEq {D : Nat → Prop} {a c : AV} (h : a = c) : Fits H D a c := h ▸ .refl a
theorem fits_I' {D : Nat → Prop} {h off n m : Nat} {xs : List Int} (hH : H h = some (.cells n (cM iv 0 xs))) (hD : D h) (ho : off = 0) (hn : n = xs.length) (hm : m = n) : Fits H D (.own h off 1 m) (.list false 1 xs.length (cM iv 0 xs)) := by
  subst hm; exact fits_I hH hD ho hn
theorem fits_P {D : Nat → Prop} {h off M n : Nat} {xs : List Int} (hH : H h = some (.cells M (cM iv 0 xs))) (hD : D h) (ho : off = 0) (hn : n ≤ M) : Fits H D (.ref h off) (.ptr n (cM iv 0 xs)) := by
  subst ho
  refine .ref hH hD (by omega) (fun _ _ => trivial) (fun i _ => ?_)
  simp only [Nat.zero_add]; exact .refl _
theorem Fr.fit_nil (D : Nat → Prop) : Fr.fit H D A [] := trivial
theorem Fr.fit_cons {D : Nat → Prop} {i : Nat} {c a : AV} {r : Fr} (h : A.get i = some a) (hf : Fits H D a c) (hr : Fr.fit H D A r) : Fr.fit H D A ((i, c) :: r) := ⟨⟨a, h, hf⟩, hr⟩

theorem awp_weak {c : Code} {Q Q' : Exit → Fr → Hp → Prop} (h : AWP P N c Q' A H) (hq : ∀ e A H, Q' e A H → ∃ A' H', Sub N A H A' H' ∧ Q e A' H') : AWP P N c Q A H := by
  intro w0 S hS w a L s hd
  refine wp_mono (h w0 S hS w a L s hd) ?_
  rintro e a w ⟨L, A, H, s, hd, h1⟩
  obtain ⟨A', H', h2, h3⟩ := hq e A H h1
  obtain ⟨L', s'⟩ := h2 w0 S hS w _ L s
  exact ⟨L', A', H', s', hd, h3⟩

/-- Where the branches of a test meet again. -/
theorem awp_join (t : Tmp) {ι : Type} (F : ι → Fr) (G : ι → Hp) (V : ι → Prop) {r a b y : Code} {Q : Exit → Fr → Hp → Prop} (h1 : AWP P N (.seq r (.cond (.tmp t) a b)) (thenA (fun A H => ∃ i, V i ∧ Sub N A H (F i) (G i)) Q) A H)
    (h2 : ∀ i, V i → AWP P N y Q (F i) (G i)) : AWP P N (.seq (.seq r (.cond (.tmp t) a b)) y) Q A H := by
  refine awp_seq (awp_weak h1 ?_)
  intro e A H hq
  cases e with
  | normal =>
    obtain ⟨i, hv, hs⟩ := hq
    exact ⟨F i, G i, hs, h2 i hv⟩
  | _ => exact ⟨A, H, Sub.refl N A H, hq⟩

def Hp.ren (π : Nat → Nat) (H : Hp) : Hp := fun h => (H (π h)).map (Blk.ren π)

/-- A contract says the same with its names turned. -/
theorem AC.ren {f : FuncId} {args : List AV} {Hin : Hp} {pn : Nat → Bool} {post post' : AV → Hp → Prop} (π : Nat → Nat) (hπ : ∀ h, π (π h) = h) (hac : AC P f args Hin pn post)
    {args' : List AV} {Hin' : Hp} {pn' : Nat → Bool} (ha : args' = args.map (AV.ren π)) (hh : Hin' = Hin.ren π) (hp : ∀ h, pn' h = pn (π h)) (hpost : ∀ r H', post r H' → post' (r.ren π) (H'.ren π)) :
    AC P f args' Hin' pn' post' := by
  subst ha hh
  have rr : ∀ a : AV, (a.ren π).ren π = a := by
    intro a
    induction a with
    | own h off sz n => simp [AV.ren, hπ]
    | ref h off => simp [AV.ren, hπ]
    | map h => simp [AV.ren, hπ]
    | agg n f ih => simp only [AV.ren]; congr 1; funext i; exact ih i
    | tup n f ih => simp only [AV.ren]; congr 1; funext i; exact ih i
    | clo g n f ih => simp only [AV.ren]; congr 1; funext i; exact ih i
    | _ => rfl
  have bb : ∀ B : Blk, (B.ren π).ren π = B := by
    intro B
    cases B with
    | cells n f => simp only [Blk.ren]; congr 1; funext i; exact rr _
    | mp kv => simp [Blk.ren, rr, Function.comp_def]
  have live : ∀ (G : Hp) h, (G.ren π) h ≠ none ↔ G (π h) ≠ none := by
    intro G h; simp only [Hp.ren]; cases G (π h) <;> simp
  have hok : ∀ (S S' : Rg) (G : Hp) (L : Loc), S'.ok = S.ok → ∀ b, okb S (G.ren π) L b ↔ okb S' G (fun h => L (π h)) b := by
    intro S S' G L hS b
    simp only [okb, hS]
    refine and_congr Iff.rfl ⟨fun h g q hn hq => h (π g) q ((live G _).2 (by rwa [hπ])) hq, fun h g q hn hq => h (π g) q ((live G _).1 hn) (by rwa [hπ])⟩
  have blkOk : ∀ (w : World) (ok ok' : Nat → Prop) (L : Loc) (l : Option (Nat × Nat)) (B : Blk), (∀ b, ok b → ok' b) → BlkOk w w ok L l (B.ren π) → BlkOk w w ok' (fun h => L (π h)) l B := by
    intro w ok ok' L l B hk h
    cases B with
    | cells n f =>
      cases l with
      | none => exact h
      | some q => obtain ⟨cs, e, k1, k2, k3⟩ := h; exact ⟨cs, e, k1, k2, fun i hi => let ⟨c, k4, k5⟩ := k3 i hi; ⟨c, k4, Rd.mono (fun b _ => hk b) (Rd.ren π _ _ k5)⟩⟩
    | mp kv =>
      cases l with
      | none => exact h
      | some q =>
        obtain ⟨es, c, k1, k2, k3⟩ := h
        refine ⟨es, c, k1, by simpa using k2, fun i e he => ?_⟩
        obtain ⟨a, k4, k5⟩ := k3 i e he
        simp only [List.getElem?_map] at k4
        cases hk' : kv[i]? with
        | none => simp [hk'] at k4
        | some x =>
          simp only [hk', Option.map_some, Option.some.injEq, Prod.mk.injEq] at k4
          obtain ⟨k6, k7⟩ := k4
          subst k7
          exact ⟨x.2, by simp [← k6], Rd.mono (fun b _ hb => hk b hb) (Rd.ren π _ _ k5)⟩
  refine ⟨hac.1, fun S w L vs hS hpin s hargs => ?_⟩
  let S' : Rg := ⟨S.wr, S.ok, S.sub, fun h => S.pin (π h)⟩
  have s' : Sim 0 w S' w #[] (fun h => L (π h)) [] Hin := by
    refine ⟨s.keep, rfl, fun i a h => by simp [Fr.get] at h, fun h B hB => ?_, fun h q hn hq => s.own (π h) q ((live _ _).2 (by rwa [hπ])) hq, fun h g q r hn hm hq hr e => ?_, fun h l hl => s.pin (π h) l hl⟩
    · have := s.blk (π h) (B.ren π) (by simp [Hp.ren, hπ, hB])
      exact blkOk w _ _ L _ B (fun b hb => (hok S S' Hin L rfl b).1 hb) this
    · have := s.inj (π h) (π g) q r ((live _ _).2 (by rwa [hπ])) ((live _ _).2 (by rwa [hπ])) hq hr e
      have := congrArg π this
      simpa [hπ] using this
  refine (hac.2 S' w (fun h => L (π h)) vs hS (fun h hh => hpin (π h) (by rw [hp, hπ]; exact hh)) s' ⟨by simpa using hargs.1, fun i a hi => ?_⟩).mono ?_
  · obtain ⟨u, k1, k2⟩ := hargs.2 i (a.ren π) (by simp [hi])
    exact ⟨u, k1, Rd.mono (fun b _ hb => (hok S S' Hin L rfl b).1 hb) (Rd.ren π _ _ k2)⟩
  · rintro e w' ⟨u, L', r, H', rfl, s2, hr, hq⟩
    have hL : ∀ h, L' h = (fun h => L' (π h)) (π h) := fun h => by simp [hπ]
    have hLf : L' = fun h => (fun h => L' (π h)) (π h) := funext hL
    have ok2 : ∀ b, okb S' H' L' b → okb S (H'.ren π) (fun h => L' (π h)) b := fun b hb => (hok S S' H' (fun h => L' (π h)) rfl b).2 (by rw [← hLf]; exact hb)
    refine ⟨u, fun h => L' (π h), r.ren π, H'.ren π, rfl, ?_, ?_, hpost r H' hq⟩
    · refine ⟨s2.keep, rfl, fun i a h => by simp [Fr.get] at h, fun h B hB => ?_, fun h q hn hq => s2.own (π h) q ((live _ _).1 hn) hq, fun h g q r hn hm hq hr e => ?_, fun h l hl => s2.pin (π h) l (by simp [S', hπ, hl])⟩
      · simp only [Hp.ren] at hB
        cases hB0 : H' (π h) with
        | none => simp [hB0] at hB
        | some B0 =>
          simp only [hB0, Option.map_some, Option.some.injEq] at hB
          subst hB
          have := s2.blk (π h) B0 hB0
          refine blkOk w' _ _ (fun h => L' h) _ (B0.ren π) ok2 ?_
          rw [bb]; exact this
      · have := s2.inj (π h) (π g) q r ((live _ _).1 hn) ((live _ _).1 hm) hq hr e
        have := congrArg π this
        simpa [hπ] using this
    · have := Rd.ren (L := L') π (r.ren π) u (by rw [rr]; exact hr)
      exact Rd.mono (fun b _ hb => ok2 b hb) this

def swp (a b h : Nat) : Nat := if h = a then b else if h = b then a else h
theorem swp_swp (a b h : Nat) : swp a b (swp a b h) = h := by
  simp only [swp]
  by_cases h1 : h = a <;> by_cases h2 : h = b <;> simp [h1, h2]

/-- A call that writes the row h that it is handed, and hands back a plain value. -/
def postM (h : Nat) (a : AV) (B : Blk) : AV → Hp → Prop := fun r H => r = a ∧ H = Hp.emp.upd h B

/-- .. under any name, if it is so under a far one. -/
theorem AC.any {f : FuncId} {h0 n : Nat} {rest : List AV} {B B' : Blk} {a : AV} (hac : AC P f (.own h0 0 1 n :: rest) (Hp.emp.upd h0 B) (· == h0) (postM h0 a B')) (h : Nat) (hr : ∀ ρ, rest.map (AV.ren ρ) = rest) (hB : ∀ ρ, B.ren ρ = B) (hB' : ∀ ρ, B'.ren ρ = B') (ha : ∀ ρ, a.ren ρ = a) :
    AC P f (.own h 0 1 n :: rest) (Hp.emp.upd h B) (· == h) (postM h a B') := by
  have up : ∀ B : Blk, (∀ ρ, B.ren ρ = B) → (Hp.emp.upd h0 B).ren (swp h0 h) = Hp.emp.upd h B := by
    intro B hB
    funext g
    simp only [Hp.ren, Hp.upd, Hp.emp, swp]
    by_cases h1 : g = h0 <;> by_cases h2 : g = h <;> simp [h1, h2, hB]
    all_goals (try subst h1); (try subst h2)
    all_goals (split <;> simp_all)
  refine AC.ren (swp h0 h) (swp_swp h0 h) hac ?_ (up B hB).symm ?_ ?_
  · simp only [List.map_cons, hr, AV.ren, swp, if_true]
  · intro g
    simp only [swp]
    by_cases h1 : g = h0
    · subst h1
      rw [if_pos rfl]
      by_cases h2 : g = h
      · subst h2; rfl
      · rw [beq_eq_false_iff_ne.2 h2, beq_eq_false_iff_ne.2 (Ne.symm h2)]
    · rw [if_neg h1]
      by_cases h2 : g = h
      · subst h2; simp
      · rw [if_neg h2, beq_eq_false_iff_ne.2 h2, beq_eq_false_iff_ne.2 h1]
  · rintro r H' ⟨rfl, rfl⟩
    exact ⟨ha _, up B' hB'⟩

/- calls, the fitting of the arguments first -/
theorem callV {f : FuncId} {args args' : List AV} {a : AV} {pn : Nat → Bool} {K : AV → Fr → Hp → Prop} (hfit : FitsL H (fun _ => True) args args') (hac : AC P f args' Hp.emp pn (retV a)) (ha : a.solid) (hpl : a.scrub (fun _ => true) = a)
    (hK : K a A H) : CallG P N f args A H K := call_V hac ha hpl hfit hK
theorem callI {f : FuncId} {args args' : List AV} {d : Nat} {xs : List Int} {pn : Nat → Bool} {K : AV → Fr → Hp → Prop} (hfit : FitsL H (fun _ => True) args args') (hac : AC P f args' Hp.emp pn (retI d xs)) (hd : N.pn d = false)
    (hK : K (.own d 0 1 xs.length) (A.scrub (· == d)) ((H.scrub (· == d)).upd d (.cells xs.length (cM iv 0 xs)))) : CallG P N f args A H K := call_I hac hd hfit hK
theorem callIB {f : FuncId} {args args' : List AV} {d : Nat} {b : Bool} {xs : List Int} {pn : Nat → Bool} {K : AV → Fr → Hp → Prop} (hfit : FitsL H (fun _ => True) args args') (hac : AC P f args' Hp.emp pn (retIB d xs b)) (hd : N.pn d = false)
    (hK : K (.tup 2 (vecF [.own d 0 1 xs.length, .v (.bool b)])) (A.scrub (· == d)) ((H.scrub (· == d)).upd d (.cells xs.length (cM iv 0 xs)))) : CallG P N f args A H K := call_IB hac hd hfit hK
theorem callQV {f : FuncId} {args args' : List AV} {x : Value} {pn : Nat → Bool} {K : AV → Prop} (hfit : FitsL H (fun _ => True) args args') (hac : AC P f args' Hp.emp pn (retV (.v x))) (hK : K (.v x)) : CallQ P f args H K :=
  callQ hac hfit hK

/-- Only the slots of a set (a number's bits). -/
def Fr.keep (m : Nat) : Fr → Fr
  | [] => []
  | (i, a) :: r => if m / 2 ^ i % 2 = 1 then (i, a) :: Fr.keep m r else Fr.keep m r
theorem Fr.keep_get (m : Nat) : ∀ (A : Fr) (i : Nat) (a : AV), (Fr.keep m A).get i = some a → A.get i = some a
  | [], i, a, h => by simp [Fr.keep, Fr.get] at h
  | (k, b) :: r, i, a, h => by
    have sub : ∀ (A : Fr) (i : Nat) (a : AV), (Fr.keep m A).get i = some a → m / 2 ^ i % 2 = 1 := by
      intro A
      induction A with
      | nil => intro i a h; simp [Fr.keep, Fr.get] at h
      | cons x r ih =>
        intro i a h
        obtain ⟨k, b⟩ := x
        simp only [Fr.keep] at h
        split at h
        · rename_i hk
          simp only [Fr.get] at h
          split at h
          · rename_i e; subst e; exact hk
          · exact ih i a h
        · exact ih i a h
    have hm := sub _ i a h
    simp only [Fr.keep] at h
    simp only [Fr.get]
    split at h
    · simp only [Fr.get] at h
      split
      · rename_i e; rw [if_pos e] at h; exact h
      · rename_i e; rw [if_neg e] at h; exact Fr.keep_get m r i a h
    · rename_i hk
      split
      · rename_i e; subst e; exact absurd hm hk
      · exact Fr.keep_get m r i a h

def keepQ (ks : Nat) (Q : Exit → Fr → Hp → Prop) : Exit → Fr → Hp → Prop := fun e A H => Q e (Fr.keep ks A) H
theorem keepQ_app (ks : Nat) (Q : Exit → Fr → Hp → Prop) (e : Exit) (A : Fr) (H : Hp) : keepQ ks Q e A H = Q e (Fr.keep ks A) H := rfl
theorem keepQ_weak {ks : Nat} {Q : Exit → Fr → Hp → Prop} : ∀ e A H, keepQ ks Q e A H → ∃ A' H', Sub N A H A' H' ∧ Q e A' H' :=
  fun _ A H h => ⟨Fr.keep ks A, H, Sub.mk (Fr.keep_get ks A) (fun _ _ h => h), h⟩

/-- The rules for regions, the frame cut to the slots that live on. -/
theorem awp_regionK (ks : Nat) {id : Nat} {l : List Oper} {Q : Exit → Fr → Hp → Prop} (hN : dstsOk N l = true) (h : opsVC P N (l.map (·.dst)) (keepQ ks Q .normal) l A H) : AWP P N (.region id l.toArray false) Q A H :=
  awp_weak (awp_region' hN h) keepQ_weak
theorem awp_regionQK (ks : Nat) {id : Nat} {l : List Oper} {Q : Exit → Fr → Hp → Prop} (hm : P.follows .mixedOrders = true) (hB : anyOk l.toArray = true) (hN : dstsOk N l = true)
    (h : opsQ P N (l.map (·.dst)) (fun A => keepQ ks Q .normal A H) l A H) : AWP P N (.region id l.toArray true) Q A H :=
  awp_weak (awp_regionQ (Q := keepQ ks Q) hm hB hN h) keepQ_weak

end
/- The order in which a region's proposition is worked out: what comes next is never looked into before its turn. -/
inductive Held {α : Type} (K : α → Prop) : Type
  | mk
inductive Held3 (K : AV → Fr → Hp → Prop) : Type
  | mk
def withA2 (a : Option AV) (K : AV → Prop) (_ : Held K) : Prop := withA a K
def withArgs2 (a : Option (List AV)) (K : List AV → Prop) (_ : Held K) : Prop := withArgs a K
def CallG2 (P : Program) (N : Cx) (f : FuncId) (args : List AV) (A : Fr) (H : Hp) (K : AV → Fr → Hp → Prop) (_ : Held3 K) : Prop := CallG P N f args A H K
def CallQ2 (P : Program) (f : FuncId) (args : List AV) (H : Hp) (K : AV → Prop) (_ : Held K) : Prop := CallQ P f args H K
theorem withA_hold (a : Option AV) (K : AV → Prop) : withA a K = withA2 a K .mk := rfl
theorem withArgs_hold (a : Option (List AV)) (K : List AV → Prop) : withArgs a K = withArgs2 a K .mk := rfl
theorem CallG_hold (P : Program) (N : Cx) (f : FuncId) (args : List AV) (A : Fr) (H : Hp) (K : AV → Fr → Hp → Prop) : CallG P N f args A H K = CallG2 P N f args A H K .mk := rfl
theorem CallQ_hold (P : Program) (f : FuncId) (args : List AV) (H : Hp) (K : AV → Prop) : CallQ P f args H K = CallQ2 P f args H K .mk := rfl
theorem withA2_some (a : AV) (K : AV → Prop) (h : Held K) : withA2 (some a) K h = K a := rfl
theorem withArgs2_some (a : List AV) (K : List AV → Prop) (h : Held K) : withArgs2 (some a) K h = K a := rfl
theorem calleeOf_clo0 (f : FuncId) (g : Nat → AV) : calleeOf (some (.clo f 0 g)) = some (f, []) := rfl
theorem calleeOf_clo1 (f : FuncId) (g : Nat → AV) : calleeOf (some (.clo f 1 g)) = some (f, [g 0]) := rfl
theorem calleeOf_clo2 (f : FuncId) (g : Nat → AV) : calleeOf (some (.clo f 2 g)) = some (f, [g 0, g 1]) := rfl
theorem calleeOf_clo3 (f : FuncId) (g : Nat → AV) : calleeOf (some (.clo f 3 g)) = some (f, [g 0, g 1, g 2]) := rfl
theorem calleeOf_func (f : FuncId) : calleeOf (some (.v (.func (.func f) #[] #[]))) = some (f, []) := rfl
section
variable (P : Program) (N : Cx) (ds : List (Option Tmp)) (Q : Fr → Hp → Prop) (R : Fr → Prop) (d : Tmp) (op : Op) (ty : TypeId) (pos : String) (aft : Array Edge) (rest : List Oper) (A : Fr) (H : Hp)
theorem opsVC_nil : opsVC P N ds Q [] A H = Q A H := rfl
theorem opsVC_some : opsVC P N ds Q (⟨some d, op, ty, pos, aft, none⟩ :: rest) A H = opVC P N d op A H fun r A H => opsVC P N ds Q rest ((d, r) :: A) H := rfl
theorem opsVC_none : opsVC P N ds Q (⟨none, op, ty, pos, aft, none⟩ :: rest) A H = opVC P N 0 op A H fun _ A H => opsVC P N ds Q rest A H := rfl
theorem opsVC_gsome (j : Nat) (want : Bool) : opsVC P N ds Q (⟨some d, op, ty, pos, aft, some (j, want)⟩ :: rest) A H = (match ds.getD j none with
      | some t => withA (A.get t) fun g => match g with
        | .v (.bool b) =>
          Br b (if want then opVC P N d op ((t, .v (.bool true)) :: A) H fun r A H => opsVC P N ds Q rest ((d, r) :: A) H else opsVC P N ds Q rest ((d, .v (.tuple #[])) :: (t, .v (.bool true)) :: A) H)
               (if want then opsVC P N ds Q rest ((d, .v (.tuple #[])) :: (t, .v (.bool false)) :: A) H else opVC P N d op ((t, .v (.bool false)) :: A) H fun r A H => opsVC P N ds Q rest ((d, r) :: A) H)
        | .v (.tuple _) => opsVC P N ds Q rest ((d, .v (.tuple #[])) :: A) H
        | _ => False
      | none => False) := rfl
theorem opsVC_gnone (j : Nat) (want : Bool) : opsVC P N ds Q (⟨none, op, ty, pos, aft, some (j, want)⟩ :: rest) A H = (match ds.getD j none with
      | some t => withA (A.get t) fun g => match g with
        | .v (.bool b) =>
          Br b (if want then opVC P N 0 op ((t, .v (.bool true)) :: A) H fun _ A H => opsVC P N ds Q rest A H else opsVC P N ds Q rest ((t, .v (.bool true)) :: A) H)
               (if want then opsVC P N ds Q rest ((t, .v (.bool false)) :: A) H else opVC P N 0 op ((t, .v (.bool false)) :: A) H fun _ A H => opsVC P N ds Q rest A H)
        | .v (.tuple _) => opsVC P N ds Q rest A H
        | _ => False
      | none => False) := rfl
theorem opsQ_nil : opsQ P N ds R [] A H = R A := rfl
theorem opsQ_some : opsQ P N ds R (⟨some d, op, ty, pos, aft, none⟩ :: rest) A H = opQ P N d op A H fun r => opsQ P N ds R rest ((d, r) :: A) H := rfl
theorem opsQ_none : opsQ P N ds R (⟨none, op, ty, pos, aft, none⟩ :: rest) A H = opQ P N 0 op A H fun _ => opsQ P N ds R rest A H := rfl
theorem opsQ_gsome (j : Nat) (want : Bool) : opsQ P N ds R (⟨some d, op, ty, pos, aft, some (j, want)⟩ :: rest) A H = (match ds.getD j none with
      | some t => withA (A.get t) fun g => match g with
        | .v (.bool b) =>
          Br b (if want then opQ P N d op ((t, .v (.bool true)) :: A) H fun r => opsQ P N ds R rest ((d, r) :: (t, .v (.bool true)) :: A) H else opsQ P N ds R rest ((d, .v (.tuple #[])) :: (t, .v (.bool true)) :: A) H)
               (if want then opsQ P N ds R rest ((d, .v (.tuple #[])) :: (t, .v (.bool false)) :: A) H else opQ P N d op ((t, .v (.bool false)) :: A) H fun r => opsQ P N ds R rest ((d, r) :: (t, .v (.bool false)) :: A) H)
        | .v (.tuple _) => opsQ P N ds R rest ((d, .v (.tuple #[])) :: A) H
        | _ => False
      | none => False) := rfl
end
attribute [go_sem ↓] withA_hold withArgs_hold CallG_hold CallQ_hold opsVC_nil opsVC_some opsVC_none opsVC_gsome opsVC_gnone opsQ_nil opsQ_some opsQ_none opsQ_gsome Br_true Br_false Ob_true withA2_some withArgs2_some
attribute [go_sem ↓] opVC bcallVC binVC intVC shVC strVC boolVC nilVC unVC lenVC ixVC ldVC stVC apVC cpVC mkVC alVC boxVC bsVC slVC faVC fdVC bdVC chVC cvVC mmVC
attribute [go_sem ↓] opQ_move opQ_assign opQ_pick opQ_binOp opQ_unOp opQ_convert opQ_extract opQ_indexAddr opQ_index opQ_load opQ_slice opQ_fieldAddr opQ_field opQ_len opQ_min opQ_max opQ_build opQ_makeFunc opQ_nilCheck opQ_call
attribute [go_sem] List.size_toArray List.length_nil Array.size_empty withA2_some withArgs2_some calleeOf_func List.drop_zero List.append_nil List.cons_append List.nil_append
attribute [go_sem ↓] calleeOf_func calleeOf_clo0 calleeOf_clo1 calleeOf_clo2 calleeOf_clo3
attribute [go_sem] keepQ_app Fr.keep
theorem atF {P : Program} {N : Cx} {f : FuncId} {args : List AV} {A : Fr} {H : Hp} {K : AV → Fr → Hp → Prop} (h : CallG P N f args A H K) : CallG P N f args A H K := h
theorem atQ {P : Program} {f : FuncId} {args : List AV} {H : Hp} {K : AV → Prop} (h : CallQ P f args H K) : CallQ P f args H K := h
end Go.Av
end
/- Results that are only read. -/
section
namespace Go.Av
section
variable {P : Program} {N : Cx} {A : Fr} {H : Hp} {fn : Func}

/-- A call that hands back a value that is only read; what it is handed is only read. -/
theorem callR {f : FuncId} {args args' : List AV} {a : AV} {pn : Nat → Bool} {K : AV → Fr → Hp → Prop} (he : args = args') (hac : AC P f args' Hp.emp pn (retV a)) (hpl : a.scrub (fun _ => true) = a)
    (hK : K a A H) : CallG P N f args A H K := by
  subst he
  refine callG_of hac (fun _ => false) false (by simp [Hp.emp]) (FitsL.refl _) (fun _ => rfl) (by simp [Hp.emp]) (by simp) ?_
  rintro r H' ⟨rfl, rfl⟩
  refine ⟨by simp [Hp.emp], by simp, ?_⟩
  have e1 : (fun h => !liveB Hp.emp h) = fun _ => true := by funext h; simp [liveB, Hp.emp]
  rw [e1, hpl, Fr.scrub_none, Hp.scrub_none, over_emp]
  exact hK

/-- The end of a function whose result is frozen there. -/
theorem end_retF {t : Tmp} {a a' : AV} (hr : fn.results.toList = [.tmp t]) (h : A.get t = some a') (e : Fits H (fun _ => True) a' a) : endQ P N fn (retV a) .ret A H :=
  ⟨[(t, a)], Hp.emp, Sub.fits (fun _ => True) (fun i c hc => by
      simp only [Fr.get] at hc
      split at hc
      · rename_i e1; subst e1; simp only [Option.some.injEq] at hc; subst hc; exact ⟨a', h, e⟩
      · simp at hc) (fun h B hB => by simp [Hp.emp] at hB), by rw [hr]; simp only [resVC, Fr.get]; exact ⟨rfl, rfl⟩⟩

theorem fits_clo1 {D : Nat → Prop} {k : Nat} {a c : AV} (h : Fits H D a c) : Fits H D (.clo k 1 (vecF [a])) (.clo k 1 (fun _ => c)) := by
  refine .clo fun i hi => ?_
  have : i = 0 := by omega
  subst this; exact h
theorem fits_ref1 {D : Nat → Prop} {h M : Nat} {x : AV} (hH : H h = some (.cells M (fun _ => x))) (hD : D h) (hM : 1 ≤ M) (hx : x.plain) : Fits H D (.ref h 0) (.ptr 1 (fun _ => x)) :=
  .ref hH hD (by omega) (fun _ _ => hx) (fun _ _ => .refl _)
/-- The first so many of a row. -/
theorem fits_T {D : Nat → Prop} {n m : Nat} {xs : List Int} (h : n = m) (hm : m ≤ xs.length) : Fits H D (.list false 1 n (cM iv 0 xs)) (ints (xs.take m)) := by
  subst h
  have hl : (xs.take n).length = n := by simp; omega
  unfold ints
  rw [hl]
  refine .list (fun h => by simp at h) (fun _ _ => trivial) (fun i hi => ?_)
  have e : (cM iv 0 xs) i = (cM iv 0 (xs.take n)) i := by
    have hi : i < n := by omega
    simp only [cM]
    congr 1
    simp [hi]
  rw [e]; exact .refl _
end

/-- What a puzzle is. -/
structure Pz where
  n : Int
  s : ByteArray
  m : List (List Int)
def pz (p : Pz) : AV := .agg 3 (vecF [iv p.n, sv p.s, intss p.m])

theorem vecF_plain {l : List AV} (h : ∀ a ∈ l, a.plain) (i : Nat) : (vecF l i).plain := by
  simp only [vecF, List.getD_eq_getElem?_getD]
  cases e : l[i]? with
  | none => exact trivial
  | some a => exact h a (List.mem_of_getElem? e)
theorem pz_plain (p : Pz) : (pz p).plain := fun i _ => vecF_plain (by
  intro a ha
  simp only [List.mem_cons, List.not_mem_nil, or_false] at ha
  rcases ha with rfl | rfl | rfl <;> trivial) i

theorem vecF_scrub (p : Nat → Bool) (l : List AV) (i : Nat) : (vecF l i).scrub p = vecF (l.map (AV.scrub p)) i := by
  simp only [vecF, List.getD_eq_getElem?_getD, List.getElem?_map]
  cases l[i]? <;> rfl
theorem scF_vecF (p : Nat → Bool) (l : List AV) : scF p (vecF l) = vecF (l.map (AV.scrub p)) := by
  funext i; exact vecF_scrub p l i
theorem shF_vecF (k : Nat) (l : List AV) : shF k (vecF l) 0 = vecF l k := rfl
theorem vecF_3 (a b c d : AV) (l : List AV) : vecF (a :: b :: c :: d :: l) 3 = d := rfl
theorem vecF_4 (a b c d e : AV) (l : List AV) : vecF (a :: b :: c :: d :: e :: l) 4 = e := rfl
theorem vecF_5 (a b c d e f : AV) (l : List AV) : vecF (a :: b :: c :: d :: e :: f :: l) 5 = f := rfl
theorem vecF_6 (a b c d e f g : AV) (l : List AV) : vecF (a :: b :: c :: d :: e :: f :: g :: l) 6 = g := rfl
theorem vecF_7 (a b c d e f g h : AV) (l : List AV) : vecF (a :: b :: c :: d :: e :: f :: g :: h :: l) 7 = h := rfl
theorem vecF_8 (a b c d e f g h i : AV) (l : List AV) : vecF (a :: b :: c :: d :: e :: f :: g :: h :: i :: l) 8 = i := rfl
attribute [go_sem] shF_vecF vecF_3 vecF_4 vecF_5 vecF_6 vecF_7 vecF_8
attribute [go_sem] scF_vecF
theorem setF_app (f : Nat → AV) (i : Nat) (x : AV) (j : Nat) : setF f i x j = if j = i then x else f j := rfl
theorem zF2_0 (a b : Value) : zF [a, b] 0 = .v a := rfl
theorem zF2_1 (a b : Value) : zF [a, b] 1 = .v b := rfl
theorem zF3_0 (a b c : Value) : zF [a, b, c] 0 = .v a := rfl
theorem zF3_1 (a b c : Value) : zF [a, b, c] 1 = .v b := rfl
theorem zF3_2 (a b c : Value) : zF [a, b, c] 2 = .v c := rfl
theorem pz_scrub (p : Pz) (q : Nat → Bool) : (pz p).scrub q = pz p := by
  simp only [pz, AV.scrub]; congr 1; funext i; rw [vecF_scrub]; rfl
attribute [go_sem] List.length_cons setF_app zF2_0 zF2_1 zF3_0 zF3_1 zF3_2
attribute [go_sem] ints intss pz iv bv sv
attribute [go_sem] Nat.reducePow Nat.reduceDiv Nat.reduceMod Nat.reduceEqDiff Nat.reduceAdd reduceCtorEq Nat.reduceBEq Nat.reduceLT
attribute [go_sem ↓] reduceIte
end Go.Av
end
/- Rows of rows of our own: a family of names, one for the outer row and one for each of its rows. -/
section
namespace Go.Av

def FB : Nat := 2097152
theorem FB_eq : FB = 2097152 := rfl
theorem FB_pos : 0 < FB := by rw [FB_eq]; omega
/-- The name of the i-th row of the row d. -/
def sub (d i : Nat) : Nat := FB * (d + 1) + i
theorem sub_div {d i : Nat} (h : i < FB) : sub d i / FB = d + 1 := by
  unfold sub; rw [Nat.mul_add_div FB_pos, Nat.div_eq_of_lt h, Nat.add_zero]
theorem sub_mod {d i : Nat} (h : i < FB) : sub d i % FB = i := by
  unfold sub; rw [Nat.mul_add_mod]; exact Nat.mod_eq_of_lt h
theorem sub_ge (d i : Nat) : FB ≤ sub d i := by unfold sub; rw [Nat.mul_succ]; omega
theorem sub_of {d h : Nat} (k : h / FB = d + 1) : h = sub d (h % FB) := by
  unfold sub; rw [← k]; exact (Nat.div_add_mod h FB).symm
theorem top_div {d : Nat} (h : d < FB) : d / FB = 0 := Nat.div_eq_of_lt h

/-- The cells of the outer row, of which k rows are laid. -/
def mixF (d : Nat) (xss : List (List Int)) (k : Nat) (i : Nat) : AV := if i < k then .own (sub d i) 0 1 (xss.getD i []).length else .v (.slice none 0 0)
/-- The family: n cells in the outer row, k rows laid. -/
def PR (d : Nat) (xss : List (List Int)) (k n : Nat) : Hp := fun h =>
  if h = d then some (.cells n (mixF d xss k)) else if h / FB = d + 1 ∧ h % FB < k then some (.cells (xss.getD (h % FB) []).length (cM iv 0 (xss.getD (h % FB) []))) else none
abbrev RR (d : Nat) (xss : List (List Int)) : Hp := PR d xss xss.length xss.length
/-- Names of H', beside those of H. -/
def Hp.add (H' H : Hp) : Hp := fun h => match H' h with | some B => some B | none => H h

/-- A name of d's family. -/
def famB (d h : Nat) : Bool := h == d || h / FB == d + 1

theorem PR_self (d : Nat) (xss : List (List Int)) (k n : Nat) : PR d xss k n d = some (.cells n (mixF d xss k)) := by simp [PR]
theorem PR_sub {d k n i : Nat} {xss : List (List Int)} (hd : d < FB) (hi : i < k) (hk : k ≤ FB) : PR d xss k n (sub d i) = some (.cells (xss.getD i []).length (cM iv 0 (xss.getD i []))) := by
  have h1 : sub d i ≠ d := by have := sub_ge d i; omega
  have h2 : i < FB := by omega
  simp [PR, h1, sub_div h2, sub_mod h2, hi]
theorem PR_out {d k n h : Nat} {xss : List (List Int)} (hf : famB d h = false) : PR d xss k n h = none := by
  simp only [famB, Bool.or_eq_false_iff, beq_eq_false_iff_ne] at hf
  simp [PR, hf.1, hf.2]
theorem famB_low {d h : Nat} (hh : h < FB) (hne : h ≠ d) : famB d h = false := by simp [famB, hne, top_div hh]
theorem Hp.add_some {H' H : Hp} {h : Nat} {B : Blk} (k : H' h = some B) : (H'.add H) h = some B := by unfold Hp.add; rw [k]
theorem Hp.add_none {H' H : Hp} {h : Nat} (k : H' h = none) : (H'.add H) h = H h := by unfold Hp.add; rw [k]
theorem add_low {d k n h : Nat} {xss : List (List Int)} {H : Hp} (hh : h < FB) (hne : h ≠ d) : ((PR d xss k n).add H) h = H h := Hp.add_none (PR_out (famB_low hh hne))
theorem add_self (d : Nat) (xss : List (List Int)) (k n : Nat) (H : Hp) : ((PR d xss k n).add H) d = some (.cells n (mixF d xss k)) := Hp.add_some (PR_self d xss k n)
theorem add_sub {d k n i : Nat} {xss : List (List Int)} {H : Hp} (hd : d < FB) (hi : i < k) (hk : k ≤ FB) : ((PR d xss k n).add H) (sub d i) = some (.cells (xss.getD i []).length (cM iv 0 (xss.getD i []))) := Hp.add_some (PR_sub hd hi hk)

theorem mixF_plain_scrub {d k : Nat} {xss : List (List Int)} {p : Nat → Bool} (hp : ∀ i, i < k → p (sub d i) = false) (i : Nat) : (mixF d xss k i).scrub p = mixF d xss k i := by
  unfold mixF
  split
  · simp [AV.scrub, hp i ‹_›]
  · rfl

section
variable {P : Program} {N : Cx} {A A' : Fr} {H H' : Hp} {fn : Func}

/-- The cells of a block may be said otherwise. -/
theorem Sub.cells {h n : Nat} {f f' : Nat → AV} (he : ∀ i, i < n → f i = f' i) : Sub N A (H.upd h (.cells n f)) A (H.upd h (.cells n f')) := fun _ _ _ _ _ L s => ⟨L, s.blk_eq he⟩

/-- H holds the family whole. -/
def HasRR (H : Hp) (d : Nat) (xss : List (List Int)) : Prop := H d = some (.cells xss.length (mixF d xss xss.length)) ∧ ∀ i, i < xss.length → H (sub d i) = some (.cells (xss.getD i []).length (cM iv 0 (xss.getD i [])))
theorem HasRR.base {d : Nat} {xss : List (List Int)} (hd : d < 2097152) (hx : xss.length ≤ 2097152) : HasRR ((RR d xss).add H) d xss :=
  ⟨add_self _ _ _ _ _, fun _ hi => add_sub hd hi hx⟩
theorem HasRR.bare {d : Nat} {xss : List (List Int)} (hd : d < 2097152) (hx : xss.length ≤ 2097152) : HasRR (RR d xss) d xss :=
  ⟨PR_self _ _ _ _, fun _ hi => PR_sub hd hi hx⟩
theorem HasRR.upd {d e : Nat} {xss : List (List Int)} {B : Blk} (he : e < 2097152) (hne : e ≠ d) (h : HasRR H d xss) : HasRR (H.upd e B) d xss := by
  obtain ⟨h1, h3⟩ := h
  refine ⟨?_, fun i hi => ?_⟩
  · simp only [Hp.upd, if_neg (Ne.symm hne)]; exact h1
  · have : sub d i ≠ e := by have := sub_ge d i; rw [FB_eq] at this; omega
    simp only [Hp.upd, if_neg this]; exact h3 i hi
theorem HasRR.add {d e k n : Nat} {xss yss : List (List Int)} (hd : d < 2097152) (he : e < 2097152) (hx : xss.length ≤ 2097152) (hne : e ≠ d) (h : HasRR H d xss) : HasRR ((PR e yss k n).add H) d xss := by
  obtain ⟨h1, h3⟩ := h
  refine ⟨?_, fun i hi => ?_⟩
  · rw [add_low hd (Ne.symm hne)]; exact h1
  · have hi' : i < FB := by rw [FB_eq]; omega
    rw [Hp.add_none (PR_out ?_)]
    · exact h3 i hi
    · have h4 : sub d i ≠ e := by have := sub_ge d i; rw [FB_eq] at this; omega
      simp [famB, h4, sub_div hi', Ne.symm hne]

theorem fits_RR {D : Nat → Prop} {d n : Nat} {xss : List (List Int)} (h : HasRR H d xss) (hD : D d) (hDs : ∀ i, D (sub d i)) (hn : n = xss.length) : Fits H D (.own d 0 1 n) (intss xss) := by
  subst hn
  obtain ⟨h1, h3⟩ := h
  refine .own h1 hD (by omega) (fun _ _ => trivial) (fun i hi => ?_)
  have hi' : i < xss.length := by omega
  rw [Nat.zero_add]
  have e : mixF d xss xss.length i = .own (sub d i) 0 1 (xss.getD i []).length := by simp only [mixF]; rw [if_pos hi']
  rw [e]
  exact fits_I (h3 i hi') (hDs i) rfl rfl

theorem RR_cases {d g : Nat} {xss : List (List Int)} {B : Blk} (h : RR d xss g = some B) : (g = d ∧ B = .cells xss.length (mixF d xss xss.length)) ∨ ∃ i, i < xss.length ∧ g = sub d i ∧ B = .cells (xss.getD i []).length (cM iv 0 (xss.getD i [])) := by
  unfold RR PR at h
  split at h
  · rename_i e
    simp only [Option.some.injEq] at h
    exact .inl ⟨e, h.symm⟩
  · split at h
    · rename_i e
      simp only [Option.some.injEq] at h
      exact .inr ⟨_, e.2, sub_of e.1, h.symm⟩
    · simp at h

theorem Hp.upd_add {d e k n : Nat} {xss : List (List Int)} {B : Blk} (he : e < 2097152) (hne : e ≠ d) : ((PR d xss k n).add H).upd e B = (PR d xss k n).add (H.upd e B) := by
  funext g
  simp only [Hp.upd, Hp.add]
  by_cases h : g = e
  · subst h; simp [PR_out (famB_low (show g < FB by rw [FB_eq]; exact he) hne)]
  · simp [h]
theorem Hp.scrub_add {d e k n : Nat} {xss : List (List Int)} (he : e < 2097152) : ((PR d xss k n).add H).scrub (· == e) = (PR d xss k n).add (H.scrub (· == e)) := by
  have hs : ∀ i, (sub d i == e) = false := fun i => by
    have := sub_ge d i; rw [FB_eq] at this
    rw [beq_eq_false_iff_ne]; omega
  funext g
  simp only [Hp.scrub, Hp.add]
  cases hg : (PR d xss k n) g with
  | none => rfl
  | some B =>
    simp only [Option.map_some, Option.some.injEq]
    unfold PR at hg
    split at hg
    · simp only [Option.some.injEq] at hg; subst hg
      simp only [Blk.scrub]
      congr 1
      funext i
      exact mixF_plain_scrub (fun i _ => hs i) i
    · split at hg
      · simp only [Option.some.injEq] at hg; subst hg; rfl
      · simp at hg
theorem famB_lit {d h : Nat} (hh : h < 2097152) : famB d h = (h == d) := by
  have : h / FB = 0 := top_div (by rw [FB_eq]; exact hh)
  simp [famB, this]
theorem add_lit {d k n h : Nat} {xss : List (List Int)} (hh : h < 2097152) (hne : h ≠ d) : ((PR d xss k n).add H) h = H h := add_low (by rw [FB_eq]; exact hh) hne
end
attribute [go_sem] add_self PR_self
end Go.Av
end
/- Puzzles of our own; calls whose results are ours if their name is still free, else only read. -/
section
namespace Go.Av
section
variable {P : Program} {N : Cx} {A A' : Fr} {H H' : Hp} {fn : Func}

/-- A call in any place whose result is frozen. -/
theorem callF {f : FuncId} {args : List AV} {K : AV → Fr → Hp → Prop} (h : CallQ P f args H fun r => K r A H) : CallG P N f args A H K := by
  obtain ⟨a, hK, hc⟩ := callQ_run (N := N) h
  refine ⟨(hc A).1, fun w0 S hS w tm L s vs hvs => ((hc A).2 w0 S hS w tm L s vs hvs).mono ?_⟩
  rintro e w' ⟨u, r, L', A', H', he, s', hr, rfl, rfl, rfl⟩
  exact ⟨u, _, L', _, _, he, s', hr, hK⟩
theorem callFI {f : FuncId} {args args' : List AV} {d : Nat} {xs : List Int} {pn : Nat → Bool} {K : AV → Fr → Hp → Prop} (hf : FitsL H (fun _ => True) args args') (h : AC P f args' Hp.emp pn (retI d xs)) (hK : K (ints xs) A H) : CallG P N f args A H K :=
  callF (callQI hf h hK)

/-- A puzzle whose moves are ours. -/
def pzo (p : Pz) (d : Nat) : AV := .agg 3 (vecF [.v (.int .i64 p.n), .v (.string p.s), .own d 0 1 p.m.length])
theorem fits_pz {D : Nat → Prop} {d : Nat} {p : Pz} (h : HasRR H d p.m) (hD : D d) (hDs : ∀ i, D (sub d i)) : Fits H D (pzo p d) (pz p) := by
  refine .agg fun i hi => ?_
  match i, hi with
  | 0, _ => exact .refl _
  | 1, _ => exact .refl _
  | 2, _ => exact fits_RR h hD hDs rfl

theorem HasRR.le {d : Nat} {xss : List (List Int)} (h : HasRR H d xss) : Hp.le (RR d xss) H := by
  intro g B hB
  rcases RR_cases hB with ⟨rfl, rfl⟩ | ⟨i, hi, rfl, rfl⟩
  · exact h.1
  · exact h.2 i hi

theorem Hp.scrub_fam {d e k n : Nat} {xss : List (List Int)} (_hd : d < 2097152) (he : e < 2097152) (hk : k ≤ 2097152) (hne : d ≠ e) : ((PR d xss k n).add H).scrub (famB e) = (PR d xss k n).add (H.scrub (famB e)) := by
  have hs : ∀ i, i < k → famB e (sub d i) = false := fun i hi => by
    have h1 := sub_ge d i; rw [FB_eq] at h1
    have h2 : i < FB := by rw [FB_eq]; omega
    have h3 : sub d i ≠ e := by omega
    simp [famB, h3, sub_div h2, hne]
  funext g
  simp only [Hp.scrub, Hp.add]
  cases hg : (PR d xss k n) g with
  | none => rfl
  | some B =>
    simp only [Option.map_some, Option.some.injEq]
    unfold PR at hg
    split at hg
    · simp only [Option.some.injEq] at hg; subst hg
      simp only [Blk.scrub]
      congr 1
      funext i
      exact mixF_plain_scrub hs i
    · split at hg
      · simp only [Option.some.injEq] at hg; subst hg; rfl
      · simp at hg
theorem Hp.emp_add (d k n : Nat) (xss : List (List Int)) : (PR d xss k n).add Hp.emp = PR d xss k n := by
  funext g; simp only [Hp.add, Hp.emp]; cases (PR d xss k n) g <;> rfl
/-- No name beyond the low ones stands in it. -/
def AV.low : AV → Prop
  | .own h _ _ _ => h < 2097152
  | .ref h _ => h < 2097152
  | .map h => h < 2097152
  | .agg _ f => ∀ i, (f i).low
  | .tup _ f => ∀ i, (f i).low
  | .clo _ _ f => ∀ i, (f i).low
  | _ => True
def Blk.low : Blk → Prop
  | .cells _ f => ∀ i, (f i).low
  | .mp kv => ∀ x ∈ kv, x.2.low
def Fr.low : Fr → Prop
  | [] => True
  | (_, a) :: r => a.low ∧ Fr.low r
theorem PR_scrub {d e k n : Nat} {xss : List (List Int)} (he : e < 2097152) : (PR d xss k n).scrub (· == e) = PR d xss k n := by
  have := Hp.scrub_add (H := Hp.emp) (d := d) (k := k) (n := n) (xss := xss) he
  rw [Hp.scrub_emp, Hp.emp_add] at this
  exact this
theorem fits_N {D : Nat → Prop} {h n : Nat} {xs : List Int} (hH : H h = some (.cells n (cM iv 0 xs))) (hD : D h) : Fits H D (.own h 0 1 n) (.list false 1 n (cM iv 0 xs)) :=
  .own hH hD (by omega) (fun _ _ => trivial) (fun i _ => by rw [Nat.zero_add]; exact .refl _)
end
attribute [go_sem] pzo famB_lit add_lit Hp.scrub_add PR_scrub Hp.scrub_fam
end Go.Av
end
/- Calls that hand back a row and a bool: ours if the name is free, else only read. -/
section
namespace Go.Av
section
variable {P : Program} {N : Cx} {A A' : Fr} {H H' : Hp} {fn : Func}

theorem callQIB {f : FuncId} {args args' : List AV} {d : Nat} {b : Bool} {xs : List Int} {pn : Nat → Bool} {K : AV → Prop} (hf : FitsL H (fun _ => True) args args') (h : AC P f args' Hp.emp pn (retIB d xs b)) (hK : K (.tup 2 (vecF [ints xs, .v (.bool b)]))) : CallQ P f args H K :=
  ⟨.tup 2 (vecF [ints xs, .v (.bool b)]), args', pn, _, h, fun i hi => (match i, hi with
      | 0, _ => trivial
      | 1, _ => trivial),
    fun r H' hp => by
      obtain ⟨rfl, rfl⟩ := hp
      refine .tup fun i hi => ?_
      match i, hi with
      | 0, _ => exact fits_I (by simp [Hp.upd]) trivial rfl rfl
      | 1, _ => exact .refl _,
    .inl ⟨hf, fun r H' hp => by
      obtain ⟨rfl, rfl⟩ := hp
      refine ⟨fun i hi => ?_, fun h B hB => ?_⟩
      · match i, hi with
        | 0, _ => trivial
        | 1, _ => trivial
      · obtain ⟨rfl, rfl⟩ := upd_some hB
        intro i hi; trivial⟩, hK⟩
theorem callFIB {f : FuncId} {args args' : List AV} {d : Nat} {b : Bool} {xs : List Int} {pn : Nat → Bool} {K : AV → Fr → Hp → Prop} (hf : FitsL H (fun _ => True) args args') (h : AC P f args' Hp.emp pn (retIB d xs b)) (hK : K (.tup 2 (vecF [ints xs, .v (.bool b)])) A H) : CallG P N f args A H K :=
  callF (callQIB hf h hK)
theorem callIBf {f : FuncId} {args args' : List AV} {d : Nat} {b : Bool} {xs : List Int} {pn : Nat → Bool} {K : AV → Fr → Hp → Prop} (_hfree : H d = none) (hfit : FitsL H (fun _ => True) args args') (hac : AC P f args' Hp.emp pn (retIB d xs b)) (hd : N.pn d = false)
    (hK : K (.tup 2 (vecF [.own d 0 1 xs.length, .v (.bool b)])) (A.scrub (· == d)) ((H.scrub (· == d)).upd d (.cells xs.length (cM iv 0 xs)))) : CallG P N f args A H K := call_IB hac hd hfit hK

theorem setsF_cM (xs ys : List Int) (off c : Nat) (h1 : off + c ≤ xs.length) (h2 : c ≤ ys.length) : setsF (cM iv 0 xs) off c (cM iv 0 ys) = cM iv 0 (xs.take off ++ (ys.take c ++ xs.drop (off + c))) := by
  funext j
  simp only [setsF, cM_app]
  congr 1
  simp only [List.getD_eq_getElem?_getD]
  split
  · rename_i hj
    rw [List.getElem?_append_right (by simp; omega), List.length_take, Nat.min_eq_left (by omega), List.getElem?_append_left (by simp; omega), List.getElem?_take_of_lt (by omega)]
  · rename_i hj
    by_cases hlt : j < off
    · rw [List.getElem?_append_left (by simp; omega), List.getElem?_take_of_lt hlt]
    · rw [List.getElem?_append_right (by simp; omega), List.length_take, Nat.min_eq_left (by omega), List.getElem?_append_right (by simp; omega), List.length_take, Nat.min_eq_left (by omega), List.getElem?_drop]
      rw [show off + c + (j - off - c) = j by omega]

/- calls, their small duties paid by themselves -/
theorem cV {f : FuncId} {args args' : List AV} {pn : Nat → Bool} {a : AV} {K : AV → Fr → Hp → Prop} (hfit : FitsL H (fun _ => True) args args' := by (repeat' (first | exact FitsL.nil | exact Fits.refl _ | exact fits_I rfl trivial rfl rfl | exact fits_P rfl trivial rfl (by decide) | exact fits_T (by omega) (by omega) | exact fits_ref1 rfl trivial (by decide) trivial | exact FitsL.refl _ | refine fits_clo1 ?_ | refine FitsL.cons ?_ ?_ | refine Fits.clo (fun i _ => ?_) | exact fits_N rfl trivial | exact fits_I (by simp (disch := omega) only [go_sem, add_lit, Nat.reduceEqDiff, ↓reduceIte]) trivial rfl rfl | exact fits_pz (by (repeat' (first | exact HasRR.base (by omega) (by first | omega | assumption | assumption) | exact HasRR.bare (by omega) (by first | omega | assumption) | refine HasRR.upd (by decide) (by decide) ?_ | refine HasRR.add (by decide) (by decide) (by first | omega | assumption) (by decide) ?_)); first | done | fail) trivial (fun _ => trivial) | exact fits_RR (by (repeat' (first | exact HasRR.base (by omega) (by first | omega | assumption | assumption) | exact HasRR.bare (by omega) (by first | omega | assumption) | refine HasRR.upd (by decide) (by decide) ?_ | refine HasRR.add (by decide) (by decide) (by first | omega | assumption) (by decide) ?_)); first | done | fail) trivial (fun _ => trivial) rfl)); first | done | fail) (hac : AC P f args' Hp.emp pn (retV a)) (hK : K a A H) (ha : a.solid := by trivial) (hpl : a.scrub (fun _ => true) = a := by rfl) : CallG P N f args A H K := callV hfit hac ha hpl hK
theorem cQV {f : FuncId} {args args' : List AV} {pn : Nat → Bool} {x : Value} {K : AV → Prop} (hfit : FitsL H (fun _ => True) args args' := by (repeat' (first | exact FitsL.nil | exact Fits.refl _ | exact fits_I rfl trivial rfl rfl | exact fits_P rfl trivial rfl (by decide) | exact fits_T (by omega) (by omega) | exact fits_ref1 rfl trivial (by decide) trivial | exact FitsL.refl _ | refine fits_clo1 ?_ | refine FitsL.cons ?_ ?_ | refine Fits.clo (fun i _ => ?_) | exact fits_N rfl trivial | exact fits_I (by simp (disch := omega) only [go_sem, add_lit, Nat.reduceEqDiff, ↓reduceIte]) trivial rfl rfl | exact fits_pz (by (repeat' (first | exact HasRR.base (by omega) (by first | omega | assumption | assumption) | exact HasRR.bare (by omega) (by first | omega | assumption) | refine HasRR.upd (by decide) (by decide) ?_ | refine HasRR.add (by decide) (by decide) (by first | omega | assumption) (by decide) ?_)); first | done | fail) trivial (fun _ => trivial) | exact fits_RR (by (repeat' (first | exact HasRR.base (by omega) (by first | omega | assumption | assumption) | exact HasRR.bare (by omega) (by first | omega | assumption) | refine HasRR.upd (by decide) (by decide) ?_ | refine HasRR.add (by decide) (by decide) (by first | omega | assumption) (by decide) ?_)); first | done | fail) trivial (fun _ => trivial) rfl)); first | done | fail) (hac : AC P f args' Hp.emp pn (retV (.v x))) (hK : K (.v x)) : CallQ P f args H K := callQV hfit hac hK
theorem cR {f : FuncId} {args args' : List AV} {pn : Nat → Bool} {a : AV} {K : AV → Fr → Hp → Prop} (he : args = args' := by rfl) (hac : AC P f args' Hp.emp pn (retV a)) (hK : K a A H) (hs : a.scrub (fun _ => true) = a := by first | rfl | exact pz_scrub _ _ | (simp only [scrub_tup, scF_vecF, List.map_cons, List.map_nil, scrub_v]; done)) : CallG P N f args A H K := callR he hac hs hK
theorem cQR {f : FuncId} {args args' : List AV} {pn : Nat → Bool} {a : AV} {K : AV → Prop} (he : args = args' := by rfl) (hac : AC P f args' Hp.emp pn (retV a)) (hK : K a) (hp : a.plain := by first | trivial | exact pz_plain _ | (intro i hi; refine vecF_plain (fun a ha => ?_) i; simp only [List.mem_cons, List.not_mem_nil, or_false] at ha; rcases ha with rfl | rfl <;> trivial)) : CallQ P f args H K := callQR he hac hp hK
theorem cI {f : FuncId} {args args' : List AV} {pn : Nat → Bool} {d : Nat} {xs : List Int} {K : AV → Fr → Hp → Prop} (hfit : FitsL H (fun _ => True) args args' := by (repeat' (first | exact FitsL.nil | exact Fits.refl _ | exact fits_I rfl trivial rfl rfl | exact fits_P rfl trivial rfl (by decide) | exact fits_T (by omega) (by omega) | exact fits_ref1 rfl trivial (by decide) trivial | exact FitsL.refl _ | refine fits_clo1 ?_ | refine FitsL.cons ?_ ?_ | refine Fits.clo (fun i _ => ?_) | exact fits_N rfl trivial | exact fits_I (by simp (disch := omega) only [go_sem, add_lit, Nat.reduceEqDiff, ↓reduceIte]) trivial rfl rfl | exact fits_pz (by (repeat' (first | exact HasRR.base (by omega) (by first | omega | assumption | assumption) | exact HasRR.bare (by omega) (by first | omega | assumption) | refine HasRR.upd (by decide) (by decide) ?_ | refine HasRR.add (by decide) (by decide) (by first | omega | assumption) (by decide) ?_)); first | done | fail) trivial (fun _ => trivial) | exact fits_RR (by (repeat' (first | exact HasRR.base (by omega) (by first | omega | assumption | assumption) | exact HasRR.bare (by omega) (by first | omega | assumption) | refine HasRR.upd (by decide) (by decide) ?_ | refine HasRR.add (by decide) (by decide) (by first | omega | assumption) (by decide) ?_)); first | done | fail) trivial (fun _ => trivial) rfl)); first | done | fail) (hac : AC P f args' Hp.emp pn (retI d xs)) (hK : K (.own d 0 1 xs.length) (A.scrub (· == d)) ((H.scrub (· == d)).upd d (.cells xs.length (cM iv 0 xs)))) (hd : N.pn d = false := by rfl) : CallG P N f args A H K := callI hfit hac hd hK
theorem cQI {f : FuncId} {args args' : List AV} {pn : Nat → Bool} {d : Nat} {xs : List Int} {K : AV → Prop} (hfit : FitsL H (fun _ => True) args args' := by (repeat' (first | exact FitsL.nil | exact Fits.refl _ | exact fits_I rfl trivial rfl rfl | exact fits_P rfl trivial rfl (by decide) | exact fits_T (by omega) (by omega) | exact fits_ref1 rfl trivial (by decide) trivial | exact FitsL.refl _ | refine fits_clo1 ?_ | refine FitsL.cons ?_ ?_ | refine Fits.clo (fun i _ => ?_) | exact fits_N rfl trivial | exact fits_I (by simp (disch := omega) only [go_sem, add_lit, Nat.reduceEqDiff, ↓reduceIte]) trivial rfl rfl | exact fits_pz (by (repeat' (first | exact HasRR.base (by omega) (by first | omega | assumption | assumption) | exact HasRR.bare (by omega) (by first | omega | assumption) | refine HasRR.upd (by decide) (by decide) ?_ | refine HasRR.add (by decide) (by decide) (by first | omega | assumption) (by decide) ?_)); first | done | fail) trivial (fun _ => trivial) | exact fits_RR (by (repeat' (first | exact HasRR.base (by omega) (by first | omega | assumption | assumption) | exact HasRR.bare (by omega) (by first | omega | assumption) | refine HasRR.upd (by decide) (by decide) ?_ | refine HasRR.add (by decide) (by decide) (by first | omega | assumption) (by decide) ?_)); first | done | fail) trivial (fun _ => trivial) rfl)); first | done | fail) (hac : AC P f args' Hp.emp pn (retI d xs)) (hK : K (ints xs)) : CallQ P f args H K := callQI hfit hac hK
theorem cFI {f : FuncId} {args args' : List AV} {pn : Nat → Bool} {d : Nat} {xs : List Int} {K : AV → Fr → Hp → Prop} (hfit : FitsL H (fun _ => True) args args' := by (repeat' (first | exact FitsL.nil | exact Fits.refl _ | exact fits_I rfl trivial rfl rfl | exact fits_P rfl trivial rfl (by decide) | exact fits_T (by omega) (by omega) | exact fits_ref1 rfl trivial (by decide) trivial | exact FitsL.refl _ | refine fits_clo1 ?_ | refine FitsL.cons ?_ ?_ | refine Fits.clo (fun i _ => ?_) | exact fits_N rfl trivial | exact fits_I (by simp (disch := omega) only [go_sem, add_lit, Nat.reduceEqDiff, ↓reduceIte]) trivial rfl rfl | exact fits_pz (by (repeat' (first | exact HasRR.base (by omega) (by first | omega | assumption | assumption) | exact HasRR.bare (by omega) (by first | omega | assumption) | refine HasRR.upd (by decide) (by decide) ?_ | refine HasRR.add (by decide) (by decide) (by first | omega | assumption) (by decide) ?_)); first | done | fail) trivial (fun _ => trivial) | exact fits_RR (by (repeat' (first | exact HasRR.base (by omega) (by first | omega | assumption | assumption) | exact HasRR.bare (by omega) (by first | omega | assumption) | refine HasRR.upd (by decide) (by decide) ?_ | refine HasRR.add (by decide) (by decide) (by first | omega | assumption) (by decide) ?_)); first | done | fail) trivial (fun _ => trivial) rfl)); first | done | fail) (hac : AC P f args' Hp.emp pn (retI d xs)) (hK : K (ints xs) A H) : CallG P N f args A H K := callFI hfit hac hK
theorem cIB {f : FuncId} {args args' : List AV} {pn : Nat → Bool} {d : Nat} {b : Bool} {xs : List Int} {K : AV → Fr → Hp → Prop} (hfit : FitsL H (fun _ => True) args args' := by (repeat' (first | exact FitsL.nil | exact Fits.refl _ | exact fits_I rfl trivial rfl rfl | exact fits_P rfl trivial rfl (by decide) | exact fits_T (by omega) (by omega) | exact fits_ref1 rfl trivial (by decide) trivial | exact FitsL.refl _ | refine fits_clo1 ?_ | refine FitsL.cons ?_ ?_ | refine Fits.clo (fun i _ => ?_) | exact fits_N rfl trivial | exact fits_I (by simp (disch := omega) only [go_sem, add_lit, Nat.reduceEqDiff, ↓reduceIte]) trivial rfl rfl | exact fits_pz (by (repeat' (first | exact HasRR.base (by omega) (by first | omega | assumption | assumption) | exact HasRR.bare (by omega) (by first | omega | assumption) | refine HasRR.upd (by decide) (by decide) ?_ | refine HasRR.add (by decide) (by decide) (by first | omega | assumption) (by decide) ?_)); first | done | fail) trivial (fun _ => trivial) | exact fits_RR (by (repeat' (first | exact HasRR.base (by omega) (by first | omega | assumption | assumption) | exact HasRR.bare (by omega) (by first | omega | assumption) | refine HasRR.upd (by decide) (by decide) ?_ | refine HasRR.add (by decide) (by decide) (by first | omega | assumption) (by decide) ?_)); first | done | fail) trivial (fun _ => trivial) rfl)); first | done | fail) (hac : AC P f args' Hp.emp pn (retIB d xs b)) (hK : K (.tup 2 (vecF [.own d 0 1 xs.length, .v (.bool b)])) (A.scrub (· == d)) ((H.scrub (· == d)).upd d (.cells xs.length (cM iv 0 xs)))) (hd : N.pn d = false := by rfl) : CallG P N f args A H K := callIB hfit hac hd hK
theorem cIBf {f : FuncId} {args args' : List AV} {pn : Nat → Bool} {d : Nat} {b : Bool} {xs : List Int} {K : AV → Fr → Hp → Prop} (hfree : H d = none := by first | rfl | (simp (disch := omega) only [go_sem, add_lit, Nat.reduceEqDiff, ↓reduceIte]; first | done | rfl | fail)) (hfit : FitsL H (fun _ => True) args args' := by (repeat' (first | exact FitsL.nil | exact Fits.refl _ | exact fits_I rfl trivial rfl rfl | exact fits_P rfl trivial rfl (by decide) | exact fits_T (by omega) (by omega) | exact fits_ref1 rfl trivial (by decide) trivial | exact FitsL.refl _ | refine fits_clo1 ?_ | refine FitsL.cons ?_ ?_ | refine Fits.clo (fun i _ => ?_) | exact fits_N rfl trivial | exact fits_I (by simp (disch := omega) only [go_sem, add_lit, Nat.reduceEqDiff, ↓reduceIte]) trivial rfl rfl | exact fits_pz (by (repeat' (first | exact HasRR.base (by omega) (by first | omega | assumption | assumption) | exact HasRR.bare (by omega) (by first | omega | assumption) | refine HasRR.upd (by decide) (by decide) ?_ | refine HasRR.add (by decide) (by decide) (by first | omega | assumption) (by decide) ?_)); first | done | fail) trivial (fun _ => trivial) | exact fits_RR (by (repeat' (first | exact HasRR.base (by omega) (by first | omega | assumption | assumption) | exact HasRR.bare (by omega) (by first | omega | assumption) | refine HasRR.upd (by decide) (by decide) ?_ | refine HasRR.add (by decide) (by decide) (by first | omega | assumption) (by decide) ?_)); first | done | fail) trivial (fun _ => trivial) rfl)); first | done | fail) (hac : AC P f args' Hp.emp pn (retIB d xs b)) (hK : K (.tup 2 (vecF [.own d 0 1 xs.length, .v (.bool b)])) (A.scrub (· == d)) ((H.scrub (· == d)).upd d (.cells xs.length (cM iv 0 xs)))) (hd : N.pn d = false := by rfl) : CallG P N f args A H K := callIBf hfree hfit hac hd hK
theorem cQIB {f : FuncId} {args args' : List AV} {pn : Nat → Bool} {d : Nat} {b : Bool} {xs : List Int} {K : AV → Prop} (hfit : FitsL H (fun _ => True) args args' := by (repeat' (first | exact FitsL.nil | exact Fits.refl _ | exact fits_I rfl trivial rfl rfl | exact fits_P rfl trivial rfl (by decide) | exact fits_T (by omega) (by omega) | exact fits_ref1 rfl trivial (by decide) trivial | exact FitsL.refl _ | refine fits_clo1 ?_ | refine FitsL.cons ?_ ?_ | refine Fits.clo (fun i _ => ?_) | exact fits_N rfl trivial | exact fits_I (by simp (disch := omega) only [go_sem, add_lit, Nat.reduceEqDiff, ↓reduceIte]) trivial rfl rfl | exact fits_pz (by (repeat' (first | exact HasRR.base (by omega) (by first | omega | assumption | assumption) | exact HasRR.bare (by omega) (by first | omega | assumption) | refine HasRR.upd (by decide) (by decide) ?_ | refine HasRR.add (by decide) (by decide) (by first | omega | assumption) (by decide) ?_)); first | done | fail) trivial (fun _ => trivial) | exact fits_RR (by (repeat' (first | exact HasRR.base (by omega) (by first | omega | assumption | assumption) | exact HasRR.bare (by omega) (by first | omega | assumption) | refine HasRR.upd (by decide) (by decide) ?_ | refine HasRR.add (by decide) (by decide) (by first | omega | assumption) (by decide) ?_)); first | done | fail) trivial (fun _ => trivial) rfl)); first | done | fail) (hac : AC P f args' Hp.emp pn (retIB d xs b)) (hK : K (.tup 2 (vecF [ints xs, .v (.bool b)]))) : CallQ P f args H K := callQIB hfit hac hK
theorem cFIB {f : FuncId} {args args' : List AV} {pn : Nat → Bool} {d : Nat} {b : Bool} {xs : List Int} {K : AV → Fr → Hp → Prop} (hfit : FitsL H (fun _ => True) args args' := by (repeat' (first | exact FitsL.nil | exact Fits.refl _ | exact fits_I rfl trivial rfl rfl | exact fits_P rfl trivial rfl (by decide) | exact fits_T (by omega) (by omega) | exact fits_ref1 rfl trivial (by decide) trivial | exact FitsL.refl _ | refine fits_clo1 ?_ | refine FitsL.cons ?_ ?_ | refine Fits.clo (fun i _ => ?_) | exact fits_N rfl trivial | exact fits_I (by simp (disch := omega) only [go_sem, add_lit, Nat.reduceEqDiff, ↓reduceIte]) trivial rfl rfl | exact fits_pz (by (repeat' (first | exact HasRR.base (by omega) (by first | omega | assumption | assumption) | exact HasRR.bare (by omega) (by first | omega | assumption) | refine HasRR.upd (by decide) (by decide) ?_ | refine HasRR.add (by decide) (by decide) (by first | omega | assumption) (by decide) ?_)); first | done | fail) trivial (fun _ => trivial) | exact fits_RR (by (repeat' (first | exact HasRR.base (by omega) (by first | omega | assumption | assumption) | exact HasRR.bare (by omega) (by first | omega | assumption) | refine HasRR.upd (by decide) (by decide) ?_ | refine HasRR.add (by decide) (by decide) (by first | omega | assumption) (by decide) ?_)); first | done | fail) trivial (fun _ => trivial) rfl)); first | done | fail) (hac : AC P f args' Hp.emp pn (retIB d xs b)) (hK : K (.tup 2 (vecF [ints xs, .v (.bool b)])) A H) : CallG P N f args A H K := callFIB hfit hac hK
end
end Go.Av
end
/- Regions whose order is open, with one operation that turns memory in their midst (an append, a copy): operations that need not wait for it, operations ahead of it, the rest in its order. -/
section
namespace Go.Av
section
variable {P : Program} {N : Cx} {A : Fr} {H : Hp}

variable (P N) in
/-- The operation in the midst: what it yields, which names it turns, what the heap is behind it. -/
def pivVC (d : Nat) (op : Op) (A : Fr) (H : Hp) (K : AV → (Nat → Bool) → Hp → Prop) : Prop :=
  match op with
  | .call { callee := .builtin .append, args, argTypes } =>
    withArgs (evArgs A args.toList) fun l => match l, argTypes.toList with
      | [a, b], [t, t'] => Ob (t' = t) (match selOf P t, a with
        | some se, .own h off sz n =>
          match H h, srcOf H sz b with
          | some (.cells NN f), some (m, g) =>
            Ob (N.pn h = false) (Ob (sz = se.size ∧ 0 < sz ∧ off + n * sz ≤ NN) (Ob ((n + m) * se.bytes ≤ 140737488355328 ∧ n + m ≤ 140737488355328) (Ob (∀ i, i < m * sz → (g i).one = true)
              (K (.own h 0 sz (n + m)) (· == h) ((H.upd h (.cells ((n + m) * sz) (apF (n * sz) (shF off f) g))).scrub (· == h))))))
          | _, _ => False
        | some se, .v (.slice none 0 0) =>
          match srcOf H se.size b with
          | some (m, g) =>
            Ob (N.pn d = false) (Ob (0 < se.size) (Ob (m * se.bytes ≤ 140737488355328 ∧ m ≤ 140737488355328) (Ob (∀ i, i < m * se.size → (g i).one = true)
              (K (.own d 0 se.size m) (· == d) ((H.upd d (.cells (m * se.size) g)).scrub (· == d))))))
          | _ => False
        | _, _ => False)
      | _, _ => False
  | .call { callee := .builtin .copy, args, argTypes } =>
    withArgs (evArgs A args.toList) fun l => match l, argTypes.toList with
      | [a, b], [t, _] => cpVC (selOf P t) H a b fun r H' => K r (fun _ => false) H'
      | _, _ => False
  | .store t x y => withA (A.ev x) fun a => withA (A.ev y) fun b => stVC (tyOf P t) H a b fun H' => K .dead (fun _ => false) H'
  | .alloc t => match tyOf P t with
    | some ty => Ob (N.pn d = false) (K (.ref d 0) (· == d) ((H.upd d (.cells ty.size (zF ty.zero))).scrub (· == d)))
    | none => False
  | _ => False

theorem stVC_mono {ty : Option TY} {a b : AV} {F G : Hp → Prop} (h : stVC ty H a b F) (k : ∀ H, F H → G H) : stVC ty H a b G := by
  unfold stVC at h ⊢
  split at h
  · split at h
    · exact ⟨h.1, h.2.1, k _ h.2.2⟩
    · exact h.elim
  · split at h
    · exact ⟨h.1, h.2.1, k _ h.2.2⟩
    · exact h.elim
  · exact h.elim
theorem st_det {ty : Option TY} {a b : AV} {F : Hp → Prop} (h : stVC ty H a b F) : ∃ H', F H' ∧ stVC ty H a b fun H'' => H'' = H' := by
  unfold stVC at h
  split at h
  · rename_i s z hh off
    split at h
    · rename_i n f hH
      obtain ⟨h1, h2, hF⟩ := h
      refine ⟨_, hF, ?_⟩
      simp only [stVC, hH]
      exact ⟨h1, h2, trivial⟩
    · exact h.elim
  · rename_i s z hh off
    split at h
    · rename_i n f m g hH hg
      obtain ⟨h1, h2, hF⟩ := h
      refine ⟨_, hF, ?_⟩
      simp only [stVC, hH, hg]
      exact ⟨h1, h2, trivial⟩
    · exact h.elim
  · exact h.elim

def PivOK (P : Program) (N : Cx) (o : Oper) (A : Fr) (H : Hp) (r : AV) (p : Nat → Bool) (H' : Hp) : Prop :=
  ∀ A', (∀ x ∈ o.op.operands, A'.ev x = A.ev x) → OpV P N o A' H fun r' A'' H'' => r' = r ∧ A'' = A'.scrub p ∧ H'' = H'

theorem piv_ok {o : Oper} {K : AV → (Nat → Bool) → Hp → Prop} (h : pivVC P N (o.dst.getD 0) o.op A H K) : ∃ r p H', K r p H' ∧ PivOK P N o A H r p H' := by
  unfold pivVC at h
  split at h
  · rename_i args tys ho
    obtain ⟨l, hl, h⟩ := withArgs_ok h
    have hc : ∀ A' : Fr, (∀ x ∈ o.op.operands, A'.ev x = A.ev x) → evArgs A' args.toList = some l := by
      intro A' ha
      rw [evArgs_congr fun x hx => ha x (by rw [ho]; simp [Op.operands, Call.operands]; simpa using hx), hl]
    split at h
    · rename_i a b t t' hts
      obtain ⟨h0, h⟩ := h
      subst h0
      have fin : ∀ (r : AV) (p : Nat → Bool) (H' : Hp), (∀ A' : Fr, apVC N.pn (selOf P t') (o.dst.getD 0) A' H a b fun r' A'' H'' => r' = r ∧ A'' = A'.scrub p ∧ H'' = H') → PivOK P N o A H r p H' := by
        intro r p H' hap A' ha
        refine opVC_sound ?_
        rw [ho]
        simp only [opVC, hc A' ha, withArgs]
        have hb : ∀ k i, b = .v (.int k i) → False := by
          rintro k i rfl
          have := hap A'
          unfold apVC at this
          simp only [srcOf] at this
          split at this <;> (try split at this) <;> simp_all
        have h9 : Ob (t' = t') (apVC N.pn (selOf P t') (o.dst.getD 0) A' H a b fun r' A'' H'' => r' = r ∧ A'' = A'.scrub p ∧ H'' = H') := ⟨rfl, hap A'⟩
        have hty : tys = #[t', t'] := by rw [← Array.toArray_toList (xs := tys), hts]
        subst hty
        cases b with
        | v x =>
          cases x with
          | int k i => exact (hb k i rfl).elim
          | _ => exact h9
        | _ => exact h9
      split at h
      · rename_i se hh off sz n hse
        split at h
        · rename_i NN f m g hH hsrc
          obtain ⟨h1, h2, h3, h4, hK⟩ := h
          refine ⟨_, _, _, hK, fin _ _ _ fun A' => ?_⟩
          unfold apVC
          rw [hse]; simp only; rw [hH, hsrc]
          exact ⟨h1, h2, h3, h4, by simp⟩
        · exact h.elim
      · rename_i se hse
        split at h
        · rename_i m g hsrc
          obtain ⟨h1, h2, h3, h4, hK⟩ := h
          refine ⟨_, _, _, hK, fin _ _ _ fun A' => ?_⟩
          unfold apVC
          rw [hse]; simp only; rw [hsrc]
          exact ⟨h1, h2, h3, h4, by simp⟩
        · exact h.elim
      · exact h.elim
    · exact h.elim
  · rename_i args tys ho
    obtain ⟨l, hl, h⟩ := withArgs_ok h
    have hc : ∀ A' : Fr, (∀ x ∈ o.op.operands, A'.ev x = A.ev x) → evArgs A' args.toList = some l := by
      intro A' ha
      rw [evArgs_congr fun x hx => ha x (by rw [ho]; simp [Op.operands, Call.operands]; simpa using hx), hl]
    split at h
    · rename_i a b t t' hts
      unfold cpVC at h
      split at h
      · rename_i se hh off sz n hse
        split at h
        · rename_i NN f m g hH hsrc
          obtain ⟨h1, h2, hK⟩ := h
          refine ⟨_, _, _, hK, fun A' ha => opVC_sound ?_⟩
          rw [ho]
          have hty : tys = #[t, t'] := by rw [← Array.toArray_toList (xs := tys), hts]
          subst hty
          simp only [opVC, hc A' ha, withArgs, bcallVC]
          unfold cpVC
          rw [hse]; simp only; rw [hH, hsrc]
          exact ⟨h1, h2, rfl, (Fr.scrub_none A').symm, rfl⟩
        · exact h.elim
      · exact h.elim
    · exact h.elim
  · rename_i t x y ho
    obtain ⟨a, ha, h⟩ := withA_ok h
    obtain ⟨b, hb, h⟩ := withA_ok h
    obtain ⟨H', hK, hs⟩ := st_det h
    refine ⟨_, _, _, hK, fun A' hA => opVC_sound ?_⟩
    rw [ho]
    have e1 : A'.ev x = some a := by rw [hA x (by rw [ho]; simp [Op.operands]), ha]
    have e2 : A'.ev y = some b := by rw [hA y (by rw [ho]; simp [Op.operands]), hb]
    simp only [opVC, e1, e2, withA]
    obtain ⟨H2, h1, h2⟩ := st_det hs
    subst h1
    exact stVC_mono h2 fun H3 e => by first | exact ⟨rfl, (Fr.scrub_none A').symm, e⟩ | exact ⟨trivial, (Fr.scrub_none A').symm, e⟩
  · rename_i t ho
    split at h
    · rename_i ty hty
      obtain ⟨h1, hK⟩ := h
      refine ⟨_, _, _, hK, fun A' hA => opVC_sound ?_⟩
      rw [ho]
      simp only [opVC, hty, alVC]
      exact ⟨h1, by simp⟩
    · exact h.elim
  · exact h.elim

/-- i must come ahead of j. -/
def preB (ops : Array Oper) : Nat → Nat → Nat → Bool
  | 0, _, _ => false
  | f + 1, j, i => match ops[j]? with
    | none => false
    | some o => o.after.any fun e => Region.binds .any e && (e.on == i || preB ops f e.on i)

theorem pre_listed {ops : Array Oper} {listed : Array Bool} (hcl : ∀ (k : Nat) (o : Oper) (e : Edge), listed.getD k false = true → ops[k]? = some o → e ∈ o.after → Region.binds .any e = true → listed.getD e.on false = true) :
    ∀ (f j i : Nat), preB ops f j i = true → listed.getD j false = true → listed.getD i false = true
  | 0, _, _, h, _ => by cases h
  | f + 1, j, i, h, hj => by
    simp only [preB] at h
    split at h
    · cases h
    · rename_i o ho
      obtain ⟨e, he, hb⟩ := Array.any_eq_true'.1 h
      simp only [Bool.and_eq_true, Bool.or_eq_true, beq_iff_eq] at hb
      have := hcl j o e hj ho he hb.1
      rcases hb.2 with rfl | h2
      · exact this
      · exact pre_listed hcl f e.on i h2 this
theorem pre_ready {ops : Array Oper} {listed : Array Bool} (hcl : ∀ (k : Nat) (o : Oper) (e : Edge), listed.getD k false = true → ops[k]? = some o → e ∈ o.after → Region.binds .any e = true → listed.getD e.on false = true)
    {f j i : Nat} {o : Oper} (ho : ops[j]? = some o) (hall : ∀ e ∈ o.after, Region.binds .any e = true → listed.getD e.on false = true) (h : preB ops f j i = true) : listed.getD i false = true := by
  cases f with
  | zero => cases h
  | succ f =>
    simp only [preB, ho] at h
    obtain ⟨e, he, hb⟩ := Array.any_eq_true'.1 h
    simp only [Bool.and_eq_true, Bool.or_eq_true, beq_iff_eq] at hb
    have := hall e he hb.1
    rcases hb.2 with rfl | h2
    · exact this
    · exact pre_listed hcl f e.on i h2 this

def pivOk (ops : Array Oper) (nf m : Nat) : Bool :=
  anyOk ops && ops.toList.all (fun o => o.guard.isNone) && decide (nf ≤ m) && decide (m < ops.size) &&
  (List.range m).all (fun g => decide (g < nf) || preB ops ops.size m g) &&
  (List.range ops.size).all fun j => decide (j ≤ m) || (List.range j).all fun i => preB ops ops.size j i

theorem pivOk_ok {ops : Array Oper} {nf m : Nat} (h : pivOk ops nf m = true) : anyOk ops = true ∧ (∀ (k : Nat) (o : Oper), ops[k]? = some o → o.guard = none) ∧ nf ≤ m ∧ m < ops.size ∧
    (∀ g, g < m → nf ≤ g → preB ops ops.size m g = true) ∧ (∀ j i, j < ops.size → m < j → i < j → preB ops ops.size j i = true) := by
  simp only [pivOk, Bool.and_eq_true, decide_eq_true_eq, List.all_eq_true, List.mem_range, Bool.or_eq_true] at h
  obtain ⟨⟨⟨⟨⟨h1, h2⟩, h3⟩, h4⟩, h5⟩, h6⟩ := h
  refine ⟨h1, fun k o ho => ?_, h3, h4, fun g hg hn => ?_, fun j i hj hm hi => ?_⟩
  · have := h2 o (by rw [Array.mem_toList_iff]; exact Array.mem_of_getElem? ho)
    simpa using this
  · rcases h5 g hg with h | h
    · omega
    · exact h
  · rcases h6 j hj with h | h
    · omega
    · exact h i hi

/-- Something may come up, as long as something is left. -/
theorem ready_ne {ops : Array Oper} {listed : Array Bool} (hsz : listed.size = ops.size) (hback : ∀ (j : Nat) (oj : Oper) (e : Edge), ops[j]? = some oj → e ∈ oj.after → Region.binds .any e = true → e.on < j)
    (hex : ∃ k, k < ops.size ∧ ¬ listed.getD k false = true) : Region.ready .any ops listed ≠ [] := by
  have ld : ∀ k, k < ops.size → (listed.getD k true = false ↔ ¬ listed.getD k false = true) := by
    intro k hk
    simp [Array.getD, hsz, hk]
  obtain ⟨k, hk⟩ := hex
  have : ∀ n k, k ≤ n → k < ops.size ∧ ¬ listed.getD k false = true → ∃ j, j ∈ Region.ready .any ops listed := by
    intro n
    induction n with
    | zero =>
      intro k hk ⟨h1, h2⟩
      refine ⟨k, mem_ready.2 ⟨(ld k h1).2 h2, ops[k], by simp [h1], fun e he hb => ?_⟩⟩
      have := hback k ops[k] e (by simp [h1]) he hb
      omega
    | succ n ihn =>
      intro k hk ⟨h1, h2⟩
      by_cases hx : ∃ e ∈ ops[k].after, Region.binds .any e = true ∧ ¬ listed.getD e.on false = true
      · obtain ⟨e, he, hb, hl⟩ := hx
        have := hback k ops[k] e (by simp [h1]) he hb
        exact ihn e.on (by omega) ⟨by omega, hl⟩
      · refine ⟨k, mem_ready.2 ⟨(ld k h1).2 h2, ops[k], by simp [h1], fun e he hb => ?_⟩⟩
        exact Classical.byContradiction fun h => hx ⟨e, he, hb, h⟩
  obtain ⟨j, hj⟩ := this k k (Nat.le_refl k) hk
  exact List.ne_nil_of_mem hj

/-- What the frame says while the operation in the midst has not come (b = false), or has. -/
structure MidSt (ops : Array Oper) (m : Nat) (A0 : Fr) (rs : List AV) (r : AV) (p : Nat → Bool) (listed : Array Bool) (b : Bool) (A : Fr) : Prop where
  hm : listed.getD m false = b
  low : ∀ (k t : Nat) (o : Oper), k < m → ops[k]? = some o → listed.getD k false = true → o.dst = some t → A.get t = some (if b then (rs.getD k .dead).scrub p else rs.getD k .dead)
  mid : ∀ (t : Nat) (o : Oper), b = true → ops[m]? = some o → o.dst = some t → A.get t = some r
  rest : ∀ t, (∀ (k : Nat) (o : Oper), ops[k]? = some o → listed.getD k false = true → o.dst ≠ some t) → A.get t = if b then (A0.get t).map (AV.scrub p) else A0.get t
  hi : ∀ k, m < k → ¬ listed.getD k false = true

theorem mid_sound {ops : Array Oper} {nf m : Nat} {Q' : Exit → Act → World → Prop} {Qf : Fr → Hp → Prop} {A0 An : Fr} {H' : Hp} {rs rs2 : List AV} {r : AV} {p : Nat → Bool} {om : Oper} {w0 : World} {S : Rg} (hS : Good N w0 S) (hok : pivOk ops nf m = true)
    (hN : ∀ (j t : Nat) (o : Oper), ops[j]? = some o → o.dst = some t → t < N.n) (hom : ops[m]? = some om)
    (hl1 : rs.length = m) (hl2 : rs2.length = nf)
    (hstep : ∀ j o, j < m → ops[j]? = some o → ∃ Aj : Fr, (∀ t, Aj.get t = valL (ops.toList.take m) rs A0.get j t) ∧ OpOK P N o Aj H (rs.getD j .dead))
    (hAn : ∀ t, An.get t = valL (ops.toList.take m) rs A0.get m t) (hpiv : PivOK P N om An H r p H')
    (hstep2 : ∀ j o, j < nf → ops[j]? = some o → ∃ Aj : Fr, (∀ t, Aj.get t = valL (ops.toList.take nf) rs2 (A0.scrub p).get j t) ∧ OpOK P N o Aj H' (rs2.getD j .dead))
    (hsame : ∀ j o t, j < nf → ops[j]? = some o → o.dst = some t → rs2.getD j .dead = (rs.getD j .dead).scrub p)
    (hrest : opsVC P N (ops.toList.map (·.dst)) Qf (ops.toList.drop (m + 1)) (putd om.dst r (An.scrub p)) H')
    (hQ : ∀ (A : Fr) (H : Hp) (a : Act) (w : World) (L : Loc), Sim N.n w0 S w a.tmps L A H → a.defers = [] → Qf A H → Q' .normal a w) :
    ∀ (fuel : Nat) (listed : Array Bool) (s : List Nat) (a : Act) (w : World), listed.size = ops.size → s.Nodup → (∀ k, k ∈ s ↔ listed.getD k false = true) → s.length + fuel = ops.size →
      (∀ (k : Nat) (o : Oper) (e : Edge), listed.getD k false = true → ops[k]? = some o → e ∈ o.after → Region.binds .any e = true → listed.getD e.on false = true) → a.defers = [] →
      ((∃ (b : Bool) (A : Fr) (L : Loc), Sim N.n w0 S w a.tmps L A (if b then H' else H) ∧ MidSt ops m A0 rs r p listed b A) ∨
       ∃ (j : Nat) (A : Fr) (H3 : Hp) (L : Loc), m < j ∧ j ≤ ops.size ∧ (∀ k, listed.getD k false = true ↔ k < j) ∧ Sim N.n w0 S w a.tmps L A H3 ∧ opsVC P N (ops.toList.map (·.dst)) Qf (ops.toList.drop j) A H3) →
      wpAny P .any ops Q' fuel listed a w := by
  obtain ⟨hany, hguard, hnf, hm, hF, hL⟩ := pivOk_ok hok
  obtain ⟨hinj, hback, hdep⟩ := anyOk_ok hany
  have tl : ∀ j : Nat, ops.toList[j]? = ops[j]? := fun j => Array.getElem?_toList
  have tk : ∀ n j o, (ops.toList.take n)[j]? = some o → j < n ∧ ops[j]? = some o := fun n j o h => by
    rw [List.getElem?_take] at h
    split at h
    · rename_i hlt; exact ⟨hlt, by rw [← tl]; exact h⟩
    · cases h
  have tk' : ∀ n j o, j < n → ops[j]? = some o → (ops.toList.take n)[j]? = some o := fun n j o h ho => by
    rw [List.getElem?_take, if_pos h, tl]; exact ho
  have len1 : (ops.toList.take m).length = m := by simp; omega
  have len2 : (ops.toList.take nf).length = nf := by simp; omega
  -- what the walk's frames say
  have hit1 : ∀ j k t o, k < j → j ≤ m → ops[k]? = some o → o.dst = some t → valL (ops.toList.take m) rs A0.get j t = some (rs.getD k .dead) := fun j k t o hk hj ho hd =>
    valL_hit _ rs _ j t k o (by rw [len1]; exact hl1) hk (tk' m k o (by omega) ho) hd fun k' o' ho' hd' => hinj k' k t o' o (tk m k' o' ho').2 ho hd' hd
  have miss1 : ∀ j t, (∀ k o, k < j → ops[k]? = some o → o.dst ≠ some t) → valL (ops.toList.take m) rs A0.get j t = A0.get t := fun j t h =>
    valL_miss _ rs _ j t fun k o hk ho => h k o hk (tk m k o ho).2
  have hit2 : ∀ j k t o, k < j → j ≤ nf → ops[k]? = some o → o.dst = some t → valL (ops.toList.take nf) rs2 (A0.scrub p).get j t = some (rs2.getD k .dead) := fun j k t o hk hj ho hd =>
    valL_hit _ rs2 _ j t k o (by rw [len2]; exact hl2) hk (tk' nf k o (by omega) ho) hd fun k' o' ho' hd' => hinj k' k t o' o (tk nf k' o' ho').2 ho hd' hd
  have miss2 : ∀ j t, (∀ k o, k < j → ops[k]? = some o → o.dst ≠ some t) → valL (ops.toList.take nf) rs2 (A0.scrub p).get j t = (A0.scrub p).get t := fun j t h =>
    valL_miss _ rs2 _ j t fun k o hk ho => h k o hk (tk nf k o ho).2
  intro fuel
  induction fuel with
  | zero =>
    intro listed s a w hsz hn hs hc hcl hd hst
    have hlt : ∀ k ∈ s, k < ops.size := fun k hk => by
      have := (hs k).1 hk
      rcases Nat.lt_or_ge k listed.size with h | h
      · omega
      · simp [Array.getD, show ¬ k < listed.size by omega] at this
    have hall : ∀ k, k < ops.size → listed.getD k false = true := fun k hk => (hs k).1 ((Go.Plain.nodup_iff_all (by omega) hlt).1 hn k hk)
    refine ⟨?_, ?_⟩
    · refine List.eq_nil_iff_forall_not_mem.2 fun j hj => ?_
      obtain ⟨h1, o, ho, _⟩ := mem_ready.1 hj
      have hj' : j < ops.size := (Array.getElem?_eq_some_iff.1 ho).1
      have := hall j hj'
      simp [Array.getD, hsz, hj'] at h1 this
      rw [h1] at this; cases this
    · rcases hst with ⟨b, A, L, sim, md⟩ | ⟨j, A, H3, L, hj1, hj2, hj3, sim, hv⟩
      · have hb : b = true := by rw [← md.hm]; exact hall m hm
        subst hb
        have hsize : ops.size = m + 1 := by
          rcases Nat.lt_or_ge (m + 1) ops.size with h | h
          · exact absurd (hall (m + 1) h) (md.hi (m + 1) (by omega))
          · omega
        rw [List.drop_eq_nil_of_le (by simp; omega)] at hrest
        refine hQ _ _ a w L (sim.sub (A' := putd om.dst r (An.scrub p)) fun t x hx => ?_) hd hrest
        rw [putd_get] at hx
        split at hx
        · rename_i e
          rw [md.mid t om rfl hom e]; exact hx
        · rename_i e
          rw [Fr.get_scrub, hAn] at hx
          by_cases hw : ∃ (k : Nat) (o : Oper), k < m ∧ ops[k]? = some o ∧ o.dst = some t
          · obtain ⟨k, o, hk, ho, hdt⟩ := hw
            rw [hit1 m k t o hk (Nat.le_refl _) ho hdt] at hx
            rw [md.low k t o hk ho (hall k (by omega)) hdt]; exact hx
          · rw [miss1 m t fun k o hk ho hdt => hw ⟨k, o, hk, ho, hdt⟩] at hx
            rw [md.rest t fun k o ho _ hdt => ?_]
            · exact hx
            · have hk := (Array.getElem?_eq_some_iff.1 ho).1
              rcases Nat.lt_trichotomy k m with h | h | h
              · exact hw ⟨k, o, h, ho, hdt⟩
              · subst h; rw [hom] at ho; simp only [Option.some.injEq] at ho; subst ho; exact e hdt
              · omega
      · have : j = ops.size := by
          rcases Nat.lt_or_ge j ops.size with h | h
          · have := (hj3 j).1 (hall j h); omega
          · omega
        rw [List.drop_eq_nil_of_le (by simp; omega)] at hv
        exact hQ A H3 a w L sim hd hv
  | succ fuel ih =>
    intro listed s a w hsz hn hs hc hcl hd hst
    have ld : ∀ k, k < ops.size → (listed.getD k true = false ↔ ¬ listed.getD k false = true) := by
      intro k hk
      simp [Array.getD, hsz, hk]
    have hex : ∃ k, k < ops.size ∧ ¬ listed.getD k false = true := by
      refine Classical.byContradiction fun hno => ?_
      have : ∀ x ∈ List.range ops.size, x ∈ s := fun x hx => (hs x).2 (Classical.byContradiction fun h => hno ⟨x, by simpa using hx, h⟩)
      have := Go.Plain.nodup_le s (List.range ops.size) List.nodup_range this
      simp at this; omega
    refine ⟨fun h => absurd h (ready_ne hsz hback hex), fun i hi => ?_⟩
    obtain ⟨hun0, oi, hoi, hall⟩ := mem_ready.1 hi
    have hi' : i < ops.size := (Array.getElem?_eq_some_iff.1 hoi).1
    have hun := (ld i hi').1 hun0
    have g1 : ∀ k, (listed.setIfInBounds i true).getD k false = true ↔ (k = i ∨ listed.getD k false = true) := by
      intro k
      by_cases hk : k = i
      · subst hk; simp [Array.getD, hsz, hi']
      · rw [getD_set_ne false (Ne.symm hk)]; simp [hk]
    have next : ∀ (a' : Act) (w' : World), a'.defers = [] → ((∃ (b : Bool) (A : Fr) (L : Loc), Sim N.n w0 S w' a'.tmps L A (if b then H' else H) ∧ MidSt ops m A0 rs r p (listed.setIfInBounds i true) b A) ∨
       ∃ (j : Nat) (A : Fr) (H3 : Hp) (L : Loc), m < j ∧ j ≤ ops.size ∧ (∀ k, (listed.setIfInBounds i true).getD k false = true ↔ k < j) ∧ Sim N.n w0 S w' a'.tmps L A H3 ∧ opsVC P N (ops.toList.map (·.dst)) Qf (ops.toList.drop j) A H3) → wpAny P .any ops Q' fuel (listed.setIfInBounds i true) a' w' := by
      intro a' w' hd' hst'
      refine ih (listed.setIfInBounds i true) (i :: s) a' w' (by simp [hsz]) ?_ ?_ (by simp only [List.length_cons]; omega) ?_ hd' hst'
      · exact List.nodup_cons.2 ⟨fun h => hun ((hs i).1 h), hn⟩
      · intro k; rw [g1, List.mem_cons, hs]
      · intro k o e hk ho he hb
        rw [g1] at hk ⊢
        rcases hk with rfl | hk
        · rw [hoi] at ho; simp only [Option.some.injEq] at ho; subst ho
          exact .inr (hall e he hb)
        · exact .inr (hcl k o e hk ho he hb)
    have hNi := fun t h => hN i t oi hoi h
    unfold wpOp
    simp only [hoi]
    rw [if_pos (by simp [Region.wanted, hguard i oi hoi])]
    left
    -- the rest, in its order
    have right : ∀ (A : Fr) (H3 : Hp) (L : Loc), m < i → (∀ k, listed.getD k false = true ↔ k < i) → Sim N.n w0 S w a.tmps L A H3 → opsVC P N (ops.toList.map (·.dst)) Qf (ops.toList.drop i) A H3 → oi.wp P a w (wpAny P .any ops Q' fuel (listed.setIfInBounds i true)) Q' := by
      intro A H3 L hmi hj3 sim hv
      have hd1 : ops.toList.drop i = oi :: ops.toList.drop (i + 1) := by
        rw [List.drop_eq_getElem_cons (by simpa using hi')]
        congr 1
        have := Array.getElem?_eq_some_iff.1 hoi
        obtain ⟨_, e⟩ := this
        simpa using e
      rw [hd1] at hv
      simp only [opsVC, hguard i oi hoi] at hv
      refine opVC_sound hv w0 S hS w a L sim _ Q' ?_
      intro u r L' A' H4 w' s' hr hk
      refine next _ _ (by rw [put_defers]; exact hd) (.inr ⟨i + 1, _, H4, L', by omega, by omega, fun k => ?_, s'.putd hNi hr, hk⟩)
      rw [g1, hj3]; omega
    rcases hst with ⟨b, A, L, sim, md⟩ | ⟨j, A, H3, L, hj1, hj2, hj3, sim, hv⟩
    case inr =>
      have hij : i = j := by
        have h1 : ¬ i < j := fun h => hun ((hj3 i).2 h)
        rcases Nat.lt_or_ge j i with h | h
        · have := pre_ready hcl hoi hall (hL i j hi' (by omega) h)
          have := (hj3 j).1 this
          omega
        · omega
      subst hij
      exact right A H3 L hj1 hj3 sim hv
    rcases Nat.lt_trichotomy i m with him | him | him
    · -- ahead of the one in the midst, in the text
      have uniq : ∀ (k t : Nat) (o : Oper) (k' : Nat) (o' : Oper), ops[k]? = some o → o.dst = some t → ops[k']? = some o' → o'.dst = some t → k' = k := fun k t o k' o' ho hdt ho' hd' => hinj k' k t o' o ho' ho hd' hdt
      have after : ∀ (A' : Fr) (L' : Loc) (w' : World) (u : Value) (rr : AV), Sim N.n w0 S w' (a.put oi.dst u).tmps L' (putd oi.dst rr A) (if b then H' else H) → (∀ t, oi.dst = some t → rr = if b then (rs.getD i .dead).scrub p else rs.getD i .dead) → wpAny P .any ops Q' fuel (listed.setIfInBounds i true) (a.put oi.dst u) w' := by
        intro A' L' w' u rr sim' hrr
        refine next _ _ (by rw [put_defers]; exact hd) (.inl ⟨b, _, L', sim', ?_, ?_, ?_, ?_, ?_⟩)
        · rw [getD_set_ne false (by omega)]; exact md.hm
        · intro k t o hk ho hl hdt
          rw [putd_get]
          by_cases hki : k = i
          · subst hki
            rw [hoi] at ho; simp only [Option.some.injEq] at ho; subst ho
            rw [if_pos hdt, hrr t hdt]
          · rw [if_neg fun e => hki (hinj k i t o oi ho hoi hdt e)]
            exact md.low k t o hk ho (((g1 k).1 hl).resolve_left hki) hdt
        · intro t o hb ho hdt
          rw [putd_get, if_neg fun e => by have := hinj i m t oi o hoi ho e hdt; omega]
          exact md.mid t o hb ho hdt
        · intro t ht
          rw [putd_get, if_neg (ht i oi hoi ((g1 i).2 (.inl rfl)))]
          exact md.rest t fun k o ho hk => ht k o ho ((g1 k).2 (.inr hk))
        · intro k hk hl
          rcases (g1 k).1 hl with h | h
          · omega
          · exact md.hi k hk h
      have evs : ∀ (Ai : Fr), (∀ t, t ∈ oi.looksAt ops → A.get t = Ai.get t) → ∀ x ∈ oi.op.operands, A.ev x = Ai.ev x := by
        intro Ai look x hx
        cases x with
        | tmp t => exact look t (List.mem_append_left _ (List.mem_filterMap.2 ⟨.tmp t, by simpa using hx, rfl⟩))
        | const v => rfl
        | global g => rfl
        | func f => rfl
      -- who writes what is looked at
      have who : ∀ t, t ∈ oi.looksAt ops → (∃ (k : Nat) (o : Oper), k < i ∧ ops[k]? = some o ∧ o.dst = some t ∧ listed.getD k false = true) ∨ ((∀ (k : Nat) (o : Oper), ops[k]? = some o → listed.getD k false = true → o.dst ≠ some t) ∧ ∀ (k : Nat) (o : Oper), k < i → ops[k]? = some o → o.dst ≠ some t) := by
        intro t ht
        by_cases hx : ∃ (k : Nat) (o : Oper), ops[k]? = some o ∧ o.dst = some t
        · obtain ⟨k, o, ho, hdt⟩ := hx
          have free : ¬ listed.getD k false = true → i ≤ k → (∀ (k : Nat) (o : Oper), ops[k]? = some o → listed.getD k false = true → o.dst ≠ some t) ∧ ∀ (k : Nat) (o : Oper), k < i → ops[k]? = some o → o.dst ≠ some t := fun h1 h2 =>
            ⟨fun k' o' ho' hl' e => h1 (uniq k t o k' o' ho hdt ho' e ▸ hl'), fun k' o' hk' ho' e => by have := uniq k t o k' o' ho hdt ho' e; omega⟩
          by_cases hki : k = i
          · subst hki; exact .inr (free hun (Nat.le_refl _))
          · rcases hdep k i t o oi hki ho hoi hdt ht with ⟨e, he, hb, rfl⟩ | ⟨e, he, hb, rfl⟩
            · exact .inl ⟨e.on, o, hback i oi e hoi he hb, ho, hdt, hall e he hb⟩
            · have h2 := hback k o e ho he hb
              exact .inr (free (fun h => hun (hcl k o e h ho he hb)) (by omega))
        · exact .inr ⟨fun k o ho _ e => hx ⟨k, o, ho, e⟩, fun k o _ ho e => hx ⟨k, o, ho, e⟩⟩
      cases hb : b with
      | false =>
        subst hb
        obtain ⟨Ai, hAi, hop⟩ := hstep i oi him hoi
        refine hop A (evs Ai fun t ht => ?_) w0 S hS w a L sim _ Q' ?_
        · rw [hAi]
          rcases who t ht with ⟨k, o, hk, ho, hdt, hl⟩ | ⟨h1, h2⟩
          · rw [md.low k t o (by omega) ho hl hdt, hit1 i k t o hk (by omega) ho hdt]; rfl
          · rw [md.rest t h1, miss1 i t h2]; rfl
        · rintro u rr L' A' H4 w' s' hr ⟨rfl, rfl, rfl⟩
          exact after A' L' w' u _ (s'.putd hNi hr) fun t _ => rfl
      | true =>
        subst hb
        have hinf : i < nf := by
          rcases Nat.lt_or_ge i nf with h | h
          · exact h
          · exact absurd (pre_listed hcl _ m i (hF i him h) md.hm) hun
        obtain ⟨Ai, hAi, hop⟩ := hstep2 i oi hinf hoi
        refine hop A (evs Ai fun t ht => ?_) w0 S hS w a L sim _ Q' ?_
        · rw [hAi]
          rcases who t ht with ⟨k, o, hk, ho, hdt, hl⟩ | ⟨h1, h2⟩
          · rw [md.low k t o (by omega) ho hl hdt, hit2 i k t o hk (by omega) ho hdt, hsame k o t (by omega) ho hdt]; rfl
          · rw [md.rest t h1, miss2 i t h2, Fr.get_scrub]; rfl
        · rintro u rr L' A' H4 w' s' hr ⟨rfl, rfl, rfl⟩
          exact after A' L' w' u _ (s'.putd hNi hr) fun t ht => hsame i oi t hinf hoi ht
    · -- the one in the midst
      subst him
      have hb : b = false := by
        cases hb : b with
        | false => rfl
        | true => subst hb; exact absurd md.hm hun
      subst hb
      rw [hom] at hoi; simp only [Option.some.injEq] at hoi; subst hoi
      have hlg : ∀ g, g < i → nf ≤ g → listed.getD g false = true := fun g hg hn => pre_ready hcl hom hall (hF g hg hn)
      refine hpiv A (fun x hx => ?_) w0 S hS w a L sim _ Q' ?_
      · cases x with
        | tmp t =>
          have ht : t ∈ om.looksAt ops := List.mem_append_left _ (List.mem_filterMap.2 ⟨.tmp t, by simpa using hx, rfl⟩)
          show A.get t = An.get t
          rw [hAn]
          by_cases hx : ∃ (k : Nat) (o : Oper), ops[k]? = some o ∧ o.dst = some t
          · obtain ⟨k, o, ho, hdt⟩ := hx
            have free : ¬ listed.getD k false = true → i ≤ k → A.get t = valL (ops.toList.take i) rs A0.get i t := fun h1 h2 => by
              rw [md.rest t fun k' o' ho' hl' e => h1 (hinj k' k t o' o ho' ho e hdt ▸ hl'), miss1 i t fun k' o' hk' ho' e => by have := hinj k' k t o' o ho' ho e hdt; omega]; rfl
            by_cases hki : k = i
            · subst hki; exact free hun (Nat.le_refl _)
            · rcases hdep k i t o om hki ho hom hdt ht with ⟨e, he, hb, rfl⟩ | ⟨e, he, hb, rfl⟩
              · have hk := hback i om e hom he hb
                rw [md.low e.on t o hk ho (hall e he hb) hdt, hit1 i e.on t o hk (Nat.le_refl _) ho hdt]; rfl
              · have h2 := hback k o e ho he hb
                exact free (fun h => hun (hcl k o e h ho he hb)) (by omega)
          · rw [md.rest t fun k o ho _ e => hx ⟨k, o, ho, e⟩, miss1 i t fun k o _ ho e => hx ⟨k, o, ho, e⟩]; rfl
        | const v => rfl
        | global g => rfl
        | func f => rfl
      · rintro u rr L' A' H4 w' s' hr ⟨rfl, rfl, rfl⟩
        refine next _ _ (by rw [put_defers]; exact hd) (.inl ⟨true, _, L', s'.putd hNi hr, ?_, ?_, ?_, ?_, ?_⟩)
        · exact (g1 i).2 (.inl rfl)
        · intro k t o hk ho hl hdt
          rw [putd_get, if_neg fun e => by have := hinj k i t o om ho hom hdt e; omega, Fr.get_scrub, md.low k t o hk ho (((g1 k).1 hl).resolve_left (by omega)) hdt]
          rfl
        · intro t o _ ho hdt
          rw [hom] at ho; simp only [Option.some.injEq] at ho; subst ho
          rw [putd_get, if_pos hdt]
        · intro t ht
          rw [putd_get, if_neg (ht i om hom ((g1 i).2 (.inl rfl))), Fr.get_scrub, md.rest t fun k o ho hk => ht k o ho ((g1 k).2 (.inr hk))]
          rfl
        · intro k hk hl
          rcases (g1 k).1 hl with h | h
          · omega
          · exact md.hi k hk h
    · -- behind it: all else is through
      have hlow : ∀ k, k < i → listed.getD k false = true := fun k hk => pre_ready hcl hoi hall (hL i k hi' him hk)
      have hb : b = true := by rw [← md.hm]; exact hlow m him
      subst hb
      have him1 : i = m + 1 := by
        rcases Nat.lt_or_ge (m + 1) i with h | h
        · exact absurd (hlow (m + 1) h) (md.hi (m + 1) (by omega))
        · omega
      subst him1
      refine right (putd om.dst r (An.scrub p)) H' L him (fun k => ⟨fun h => ?_, hlow k⟩) (sim.sub fun t x hx => ?_) hrest
      · rcases Nat.lt_or_ge k (m + 1) with h2 | h2
        · exact h2
        · exact absurd h (md.hi k (by omega))
      · rw [putd_get] at hx
        split at hx
        · rename_i e
          rw [md.mid t om rfl hom e]; exact hx
        · rename_i e
          rw [Fr.get_scrub, hAn] at hx
          by_cases hw : ∃ (k : Nat) (o : Oper), k < m ∧ ops[k]? = some o ∧ o.dst = some t
          · obtain ⟨k, o, hk, ho, hdt⟩ := hw
            rw [hit1 m k t o hk (Nat.le_refl _) ho hdt] at hx
            rw [md.low k t o hk ho (hlow k (by omega)) hdt]; exact hx
          · rw [miss1 m t fun k o hk ho hdt => hw ⟨k, o, hk, ho, hdt⟩] at hx
            rw [md.rest t fun k o ho hl hdt => ?_]
            · exact hx
            · rcases Nat.lt_trichotomy k m with h | h | h
              · exact hw ⟨k, o, h, ho, hdt⟩
              · subst h; rw [hom] at ho; simp only [Option.some.injEq] at ho; subst ho; exact e hdt
              · exact md.hi k h hl

variable (P N) in
/-- Two frames say the same of some slots. -/
def sameG (A B : Fr) : List (Option Tmp) → Prop
  | [] => True
  | none :: r => sameG A B r
  | some d :: r => A.get d = B.get d ∧ sameG A B r
theorem sameG_ok {A B : Fr} : ∀ (l : List (Option Tmp)), sameG A B l → ∀ d, some d ∈ l → A.get d = B.get d
  | [], _, d, h => by simp at h
  | none :: r, h, d, hd => by
    simp only [List.mem_cons, reduceCtorEq, false_or] at hd
    exact sameG_ok r h d hd
  | some e :: r, h, d, hd => by
    simp only [List.mem_cons, Option.some.injEq] at hd
    rcases hd with rfl | hd
    · exact h.1
    · exact sameG_ok r h.2 d hd
variable (P N) in
def opsP (nf m : Nat) (Q : Fr → Hp → Prop) (l : List Oper) (A : Fr) (H : Hp) : Prop :=
  match l.drop m with
  | o :: lr => opsQ P N (l.map (·.dst)) (fun A1 => pivVC P N (o.dst.getD 0) o.op A1 H fun r p H' =>
      opsQ P N (l.map (·.dst)) (fun A2 => Ob (sameG A2 (A1.scrub p) ((l.take nf).map (·.dst))) (opsVC P N (l.map (·.dst)) Q lr (putd o.dst r (A1.scrub p)) H')) (l.take nf) (A.scrub p) H') (l.take m) A H
  | [] => False

theorem awp_regionP (nf m : Nat) {id : Nat} {l : List Oper} {Q : Exit → Fr → Hp → Prop} (hm : P.follows .mixedOrders = true) (hB : pivOk l.toArray nf m = true) (hN : dstsOk N l = true)
    (h : opsP P N nf m (Q .normal) l A H) : AWP P N (.region id l.toArray true) Q A H := by
  have hmem := dstsOk_mem hN
  obtain ⟨hany, hguard, hnf, hmm, hF, hL⟩ := pivOk_ok hB
  obtain ⟨hinj, _, _⟩ := anyOk_ok hany
  have hml : m < l.length := by simpa using hmm
  unfold opsP at h
  split at h
  · rename_i o lr hdrop
    have hom : l[m]? = some o := by
      have := congrArg (fun x : List Oper => x[0]?) hdrop
      simpa using this
    have hlr : l.drop (m + 1) = lr := by
      have := congrArg List.tail hdrop
      simpa using this
    obtain ⟨rs, hlex⟩ := lex_of_opsQ _ A h
    obtain ⟨k1, k2, An, k3, k4⟩ := LexL_get (l.take m) A rs A.get (fun _ => rfl) hlex
    have lm : (l.take m).length = m := by simp; omega
    rw [lm] at k3 k1
    obtain ⟨r, p, H', k5, hpiv⟩ := piv_ok k4
    obtain ⟨rs2, hlex2⟩ := lex_of_opsQ _ (A.scrub p) k5
    obtain ⟨j1, j2, A2, j3, j4, j5⟩ := LexL_get (l.take nf) (A.scrub p) rs2 (A.scrub p).get (fun _ => rfl) hlex2
    have ln : (l.take nf).length = nf := by simp; omega
    rw [ln] at j3 j1
    have gno : ∀ (k : Nat) (o : Oper), l[k]? = some o → o.guard = none := fun k o ho => hguard k o (by simpa using ho)
    intro w0 S hS w a L s hd
    have s1 : Sim N.n w0 S w.drew a.tmps L A H := s.drew
    refine wp_region_any hm ?_
    refine mid_sound (ops := l.toArray) (A0 := A) (An := An) (rs := rs) (rs2 := rs2) (r := r) (p := p) (H' := H') (H := H) (om := o) (nf := nf) (m := m) (Qf := Q .normal) hS hB (fun j t o ho hdt => hmem o (List.mem_of_getElem? (by simpa using ho)) t hdt) (by simpa using hom) k1 j1 ?_ k3 hpiv ?_ ?_ ?_ ?_ _ _ [] a _ (by simp) List.nodup_nil ?_ (by simp) ?_ hd (.inl ⟨false, A, L, s1, ?_⟩)
    · intro j o' hj ho'
      obtain ⟨Aj, h1, h2⟩ := k2 j o' (by rw [List.getElem?_take, if_pos hj]; simpa using ho')
      unfold StepOK at h2
      rw [gno j o' (by simpa using ho')] at h2
      exact ⟨Aj, h1, h2⟩
    · intro j o' hj ho'
      obtain ⟨Aj, h1, h2⟩ := j2 j o' (by rw [List.getElem?_take, if_pos hj]; simpa using ho')
      unfold StepOK at h2
      rw [gno j o' (by simpa using ho')] at h2
      exact ⟨Aj, h1, h2⟩
    · intro j o' t hj ho' hdt
      have ho2 : l[j]? = some o' := by simpa using ho'
      have e := sameG_ok _ j4 t (List.mem_map.2 ⟨o', List.mem_of_getElem? (i := j) (by rw [List.getElem?_take, if_pos hj]; exact ho2), hdt⟩)
      have un : ∀ n k' o'', (l.take n)[k']? = some o'' → o''.dst = some t → k' = j := fun n k' o'' hk' hd' => by
        rw [List.getElem?_take] at hk'
        split at hk'
        · exact hinj k' j t o'' o' (by simpa using hk') ho' hd' hdt
        · cases hk'
      rw [j3, valL_hit _ rs2 _ nf t j o' (by rw [ln]; exact j1) hj (by rw [List.getElem?_take, if_pos hj]; exact ho2) hdt (un nf), Fr.get_scrub, k3, valL_hit _ rs _ m t j o' (by rw [lm]; exact k1) (by omega) (by rw [List.getElem?_take, if_pos (by omega)]; exact ho2) hdt (un m)] at e
      simpa using e
    · rw [hlr]; exact j5
    · intro A' H3 a' w' L' s' hd' hq
      exact ⟨L', A', H3, s', hd', hq⟩
    · intro k; simp [Array.getD]
    · intro k o e hk; simp [Array.getD] at hk
    · exact ⟨(by simp [Array.getD]), fun k t o _ _ hk => (by simp [Array.getD] at hk), fun t o hb => (by cases hb), fun t _ => rfl, fun k _ hk => (by simp [Array.getD] at hk)⟩
  · exact h.elim
theorem awp_regionPK (ks nf m : Nat) {id : Nat} {l : List Oper} {Q : Exit → Fr → Hp → Prop} (hm : P.follows .mixedOrders = true) (hB : pivOk l.toArray nf m = true) (hN : dstsOk N l = true)
    (h : opsP P N nf m (keepQ ks Q .normal) l A H) : AWP P N (.region id l.toArray true) Q A H :=
  awp_weak (awp_regionP nf m hm hB hN h) keepQ_weak

variable (P N) in
def opsE (m : Nat) (Q : Fr → Hp → Prop) (l : List Oper) (A : Fr) (H : Hp) : Prop :=
  opsQ P N (l.map (·.dst)) (fun A1 => opsVC P N (l.map (·.dst)) Q (l.drop m) A1 H) (l.take m) A H
end
attribute [go_sem] opsP opsE pivVC sameG List.take_succ_cons List.take_zero List.drop_succ_cons List.take_nil
end Go.Av
end
/- What a row asks of its program, part by part: the list of roots stands in the program's head, and the kernel is not to take that long word apart. -/
section
namespace Go.Av
theorem words_ne (a : List Char) : ∃ w ws, wordsSigns a = w :: ws := by
  cases a with
  | nil => exact ⟨_, _, rfl⟩
  | cons c r =>
    by_cases h : c = Char.ofNat 32
    · subst h; exact ⟨[], wordsSigns r, rfl⟩
    · cases hw : wordsSigns r with
      | nil => exact ⟨[c], [], by rw [wordsSigns, hw]; exact fun e => h e⟩
      | cons w ws => exact ⟨c :: w, ws, by rw [wordsSigns, hw]; exact fun e => h e⟩
theorem words_app (a r : List Char) : wordsSigns (a ++ Char.ofNat 32 :: r) = wordsSigns a ++ wordsSigns r := by
  induction a with
  | nil => rfl
  | cons c a ih =>
    by_cases h : c = Char.ofNat 32
    · subst h
      show [] :: wordsSigns (a ++ Char.ofNat 32 :: r) = [] :: wordsSigns a ++ wordsSigns r
      rw [ih]; rfl
    · obtain ⟨w, ws, hw⟩ := words_ne a
      rw [List.cons_append, wordsSigns, ih, hw, wordsSigns, hw]
      · rfl
      · exact fun e => h e
      · exact fun e => h e

theorem behind_ok {a b c : List Char} {X : List (List Char)} (ha : (a == "harness".toList) = true) (hb : isSumSigns b = true) : behindMainWord (a :: b :: c :: X) = c :: X := by
  simp only [behindMainWord]
  rw [if_pos (by rw [ha, hb]; rfl)]
theorem strip_cut (X : List (List Char)) : stripLifts liftWords ("cut".toList :: X) = ([], "cut".toList :: X) := by kernel_rfl
theorem lifts_nil {P : Program} {a b : List Char} {X : List (List Char)} (h : wordsSigns P.initOrder.toList = a :: b :: "cut".toList :: X) (ha : (a == "harness".toList) = true) (hb : isSumSigns b = true) : P.headLifts = [] := by
  unfold Program.headLifts
  rw [h, behind_ok ha hb, strip_cut]
  simp
theorem make_cut {P : Program} {a b : List Char} {X : List (List Char)} (h : wordsSigns P.initOrder.toList = a :: b :: "cut".toList :: X) (ha : (a == "harness".toList) = true) (hb : isSumSigns b = true) : P.make = some .cut := by
  unfold Program.make
  rw [h, behind_ok ha hb]
  rfl
theorem final_cut {P : Program} {a b : List Char} {X : List (List Char)} (h : wordsSigns P.initOrder.toList = a :: b :: "cut".toList :: X) (ha : (a == "harness".toList) = true) (hb : isSumSigns b = true) : P.liftsFinal = false := by
  unfold Program.liftsFinal
  rw [lifts_nil h ha hb, h, behind_ok ha hb]
  rfl
theorem enter_cut {P : Program} {a b : List Char} {X : List (List Char)} (h : wordsSigns P.initOrder.toList = a :: b :: "cut".toList :: X) (ha : (a == "harness".toList) = true) (hb : isSumSigns b = true)
    (h1 : P.laysLater = false) (h2 : P.bearsReflect = false) (h3 : P.doorFits [] = true) : P.mayEnter = true := by
  unfold Program.mayEnter
  rw [h, behind_ok ha hb]
  simp only [strip_cut, h1, h2, h3]
  simp

theorem bt {a b : Bool} (h : a = true) (k : b = true) : (a && b) = true := by rw [h, k]; rfl
theorem joined_of {P : Program} {f : FuncId} {fn : Func} {s : ChangeSpec} {c : OpenClaim} (k0 : (c.wf (OpenSpec.ofChange s)) = true) (k1 : (laidOutB P) = true) (k2 : (mapsRowed P) = true) (k3 : (fn.params.all (P.readableRec ·)) = true) (k4 : (namedTie P c.named s.vars) = true) (k5 : (c.stops == []) = true) (k6 : (P.stops == []) = true) (k7 : (c.knobs == []) = true) (k8 : (P.stopKnobs == []) = true) (k9 : (c.inPlace == P.inPlace f) = true) (k10 : (c.unfollowed == P.unfollowed f) = true) (k11 : (c.recurses == P.recurses f) = true) (k12 : (c.named == P.varsNamed f) = true) (k13 : (c.maps == (fn.params.toList ++ s.plain.varTypes P).any (P.mapsRec ·)) = true) (k14 : (c.ifaces == (fn.params.toList ++ s.plain.varTypes P).any (P.ifacesRec ·)) = true) (k15 : (c.mapsOut == P.mapsAmong fn.resultTypes.toList) = true) (k16 : (c.loops == (fn.params.toList ++ s.plain.varTypes P).any (P.loopsFrom ·)) = true) (k17 : (c.wideKeys == (fn.params.toList ++ s.plain.varTypes P ++ fn.resultTypes.toList).any (P.wideKeysFrom ·)) = true) (k18 : (s.vars.all (P.varReadable ·)) = true) (k19 : (fn.resultTypes.all (fun t => P.readableRec t && decide (t < P.types.size))) = true) (k20 : (c.ifacesOut == fn.resultTypes.toList.any (P.ifacesRec ·)) = true) (k21 : (c.loopsOut == fn.resultTypes.toList.any (P.loopsFrom ·)) = true) (k22 : (c.plainKeys == P.plainKeys) = true) (k23 : (c.shortTexts.isNone) = true) (k24 : (P.stopsHeard) = true) (k25 : (P.mayEnter) = true) (k26 : (c.lifted == P.liftsFinal) = true) (k27 : (P.make == some c.make) = true) (k28 : (c.kinds == (if c.domain.isEmpty then [] else fn.params.toList.map fun t => match P.underlying t with | some (.int k) => some k | _ => none)) = true) (k29 : (c.pinned == c.pinnedBy) = true) (k30 : (c.veiled == (fn.params.toList ++ s.plain.varTypes P ++ fn.resultTypes.toList).any (P.veiledRec ·)) = true) (k31 : (c.veiledFits P fn.params.toList (fn.params.toList ++ s.plain.varTypes P ++ fn.resultTypes.toList)) = true) : joinedFacts P f fn s c = true := by
  unfold joinedFacts
  exact bt (bt (bt (bt (bt (bt (bt (bt (bt (bt (bt (bt (bt (bt (bt (bt (bt (bt (bt (bt (bt (bt (bt (bt (bt (bt (bt (bt (bt (bt (bt k0 k1) k2) k3) k4) k5) k6) k7) k8) k9) k10) k11) k12) k13) k14) k15) k16) k17) k18) k19) k20) k21) k22) k23) k24) k25) k26) k27) k28) k29) k30) k31
end Go.Av
end
/- Plain laws: rows without repetition, bit masks. -/
section
namespace Go.Plain

/-- The numbers of a row, as bits. -/
def mask (l : List Nat) : Nat := l.foldl (fun m x => m ||| 2 ^ x) 0
end Go.Plain

namespace Go.Av
end Go.Av
end

/- What a run comes to, in steps for 'simp'. -/
import Derived.Test.YtdojljjiekgapaaGreatDoorAbWp2
set_option linter.unusedVariables false
set_option linter.unusedSimpArgs false
namespace Go.Ab
section
variable {E : Env} {call : Fun} {draw : Bool} {tm : T} {H : Heap}
def wpC (E : Env) (call : Fun) (c : C2) (tm : T) (H : Heap) (Q : Ex → T → Heap → Prop) : Prop := ∃ e s, exec2 E call c ⟨tm, H⟩ = some (e, s) ∧ Q e s.tm s.heap
def wpI (E : Env) (call : Fun) (draw : Bool) (is : List I2) (tm : T) (H : Heap) (K : T → Heap → Prop) : Prop := ∃ s, stepsI E call draw is ⟨tm, H⟩ = some s ∧ K s.tm s.heap
def wpO (E : Env) (call : Fun) (draw : Bool) (tm : T) (H : Heap) (op : Op) (K : V → Heap → Prop) : Prop := ∃ v H', opT E call draw (evT tm) H op = some (v, H') ∧ K v H'
def optK {α : Type} (o : Option α) (f : α → Prop) : Prop := ∃ a, o = some a ∧ f a
def opt2K (o : Option (V × Heap)) (f : V → Heap → Prop) : Prop := ∃ v H, o = some (v, H) ∧ f v H
def wpB (v : V) (p q : Prop) : Prop := match v with
  | .w (.lf (.b true)) => p
  | .w (.lf (.b false)) => q
  | _ => False
def wpG (w : Bool) (v : V) (p q : Prop) : Prop := match v with
  | .w (.lf (.b x)) => if (x == w) = true then p else q
  | .bad => False
  | _ => q
def seqK (f : T → Heap → Prop) (Q : Ex → T → Heap → Prop) (e : Ex) (tm : T) (H : Heap) : Prop := match e with
  | .normal => f tm H
  | e => Q e tm H
def blkK (id : Nat) (Q : Ex → T → Heap → Prop) (e : Ex) (tm : T) (H : Heap) : Prop := match e with
  | .exit j => if j = id then Q .normal tm H else Q (.exit j) tm H
  | e => Q e tm H
theorem optK_some {α : Type} (a : α) (f : α → Prop) : optK (some a) f = f a := by simp [optK]
theorem opt2K_some (v : V) (H : Heap) (f : V → Heap → Prop) : opt2K (some (v, H)) f = f v H := by
  refine propext ⟨fun ⟨v', H', h, hf⟩ => ?_, fun h => ⟨v, H, rfl, h⟩⟩
  injection h with h
  injection h with h1 h2
  subst h1; subst h2
  exact hf
theorem wpB_true (p q : Prop) : wpB (.w (.lf (.b true))) p q = p := rfl
theorem wpB_false (p q : Prop) : wpB (.w (.lf (.b false))) p q = q := rfl
theorem wpB_intro {b : Bool} {p q : Prop} (h1 : b = true → p) (h2 : b = false → q) : wpB (.w (.lf (.b b))) p q := by
  cases b
  · exact h2 rfl
  · exact h1 rfl
theorem wpG_tt (p q : Prop) : wpG true (.w (.lf (.b true))) p q = p := rfl
theorem wpG_tf (p q : Prop) : wpG true (.w (.lf (.b false))) p q = q := rfl
theorem wpG_ft (p q : Prop) : wpG false (.w (.lf (.b true))) p q = q := rfl
theorem wpG_ff (p q : Prop) : wpG false (.w (.lf (.b false))) p q = p := rfl
theorem wpG_tup (w : Bool) (l : List W) (p q : Prop) : wpG w (.tup l) p q = q := rfl
theorem wpG_intro_t {b : Bool} {p q : Prop} (h1 : b = true → p) (h2 : b = false → q) : wpG true (.w (.lf (.b b))) p q := by
  cases b
  · exact h2 rfl
  · exact h1 rfl
theorem wpG_intro_f {b : Bool} {p q : Prop} (h1 : b = true → q) (h2 : b = false → p) : wpG false (.w (.lf (.b b))) p q := by
  cases b
  · exact h2 rfl
  · exact h1 rfl
theorem seqK_normal (f : T → Heap → Prop) (Q : Ex → T → Heap → Prop) : seqK f Q .normal tm H = f tm H := rfl
theorem seqK_exit (f : T → Heap → Prop) (Q : Ex → T → Heap → Prop) (j : Nat) : seqK f Q (.exit j) tm H = Q (.exit j) tm H := rfl
theorem seqK_ret (f : T → Heap → Prop) (Q : Ex → T → Heap → Prop) : seqK f Q .ret tm H = Q .ret tm H := rfl
theorem blkK_normal (id : Nat) (Q : Ex → T → Heap → Prop) : blkK id Q .normal tm H = Q .normal tm H := rfl
theorem blkK_exit (id j : Nat) (Q : Ex → T → Heap → Prop) : blkK id Q (.exit j) tm H = if j = id then Q .normal tm H else Q (.exit j) tm H := rfl
theorem blkK_same (id : Nat) (Q : Ex → T → Heap → Prop) : blkK id Q (.exit id) tm H = Q .normal tm H := by simp [blkK]
theorem blkK_ne {id j : Nat} (h : j ≠ id) (Q : Ex → T → Heap → Prop) : blkK id Q (.exit j) tm H = Q (.exit j) tm H := by simp [blkK, h]
theorem blkK_ret (id : Nat) (Q : Ex → T → Heap → Prop) : blkK id Q .ret tm H = Q .ret tm H := rfl
/-! ### Code -/
theorem wpC_of {c : C2} {Q : Ex → T → Heap → Prop} {e : Ex} {s : S2} (h : exec2 E call c ⟨tm, H⟩ = some (e, s)) : wpC E call c tm H Q = Q e s.tm s.heap := by
  refine propext ⟨fun ⟨e', s', h', hq⟩ => ?_, fun hq => ⟨e, s, h, hq⟩⟩
  rw [h] at h'
  injection h' with h'
  injection h' with h1 h2
  subst h1; subst h2
  exact hq
theorem wpC_none {c : C2} {Q : Ex → T → Heap → Prop} (h : exec2 E call c ⟨tm, H⟩ = none) : wpC E call c tm H Q = False := by
  refine propext ⟨fun ⟨e', s', h', hq⟩ => ?_, fun hq => hq.elim⟩
  rw [h] at h'
  cases h'
theorem wpC_skip (Q : Ex → T → Heap → Prop) : wpC E call .skip tm H Q = Q .normal tm H := wpC_of (e := .normal) (s := ⟨tm, H⟩) rfl
theorem wpC_exit (j : Nat) (Q : Ex → T → Heap → Prop) : wpC E call (.exit j) tm H Q = Q (.exit j) tm H := wpC_of (e := .exit j) (s := ⟨tm, H⟩) rfl
theorem wpC_ret (Q : Ex → T → Heap → Prop) : wpC E call .ret tm H Q = Q .ret tm H := wpC_of (e := .ret) (s := ⟨tm, H⟩) rfl
theorem wpC_region (draw : Bool) (is : List I2) (Q : Ex → T → Heap → Prop) : wpC E call (.region draw is) tm H Q = wpI E call draw is tm H (Q .normal) := by
  simp only [wpC, wpI, exec2, Option.map_eq_some_iff, Prod.mk.injEq]
  refine propext ⟨?_, ?_⟩
  · rintro ⟨e, s, ⟨s', h1, rfl, rfl⟩, hq⟩; exact ⟨s', h1, hq⟩
  · rintro ⟨s, h1, hq⟩; exact ⟨.normal, s, ⟨s, h1, rfl, rfl⟩, hq⟩
theorem wpC_seq (a b : C2) (Q : Ex → T → Heap → Prop) : wpC E call (.seq a b) tm H Q = wpC E call a tm H (seqK (fun tm H => wpC E call b tm H Q) Q) := by
  simp only [wpC, exec2]
  cases ha : exec2 E call a ⟨tm, H⟩ with
  | none => simp
  | some q =>
    obtain ⟨e, s⟩ := q
    refine propext ⟨?_, ?_⟩
    · rintro ⟨e', s', h, hq⟩
      refine ⟨e, s, rfl, ?_⟩
      cases e with
      | normal => exact ⟨e', s', h, hq⟩
      | exit j => simp at h; obtain ⟨rfl, rfl⟩ := h; exact hq
      | ret => simp at h; obtain ⟨rfl, rfl⟩ := h; exact hq
    · rintro ⟨e', s', h, hq⟩
      simp at h
      obtain ⟨rfl, rfl⟩ := h
      cases e with
      | normal => obtain ⟨e2, s2, h2, hq2⟩ := hq; exact ⟨e2, s2, h2, hq2⟩
      | exit j => exact ⟨_, _, rfl, hq⟩
      | ret => exact ⟨_, _, rfl, hq⟩
theorem wpC_cond (c : Operand) (x y : C2) (Q : Ex → T → Heap → Prop) : wpC E call (.cond c x y) tm H Q = wpB (evT tm c) (wpC E call x tm H Q) (wpC E call y tm H Q) := by
  have hx : exec2 E call (.cond c x y) ⟨tm, H⟩ = match evT tm c with
    | .w (.lf (.b true)) => exec2 E call x ⟨tm, H⟩
    | .w (.lf (.b false)) => exec2 E call y ⟨tm, H⟩
    | _ => none := rfl
  unfold wpC
  rw [hx]
  unfold wpB
  split
  · rfl
  · rfl
  · simp
theorem wpC_block (id : Nat) (c : C2) (Q : Ex → T → Heap → Prop) : wpC E call (.block id c) tm H Q = wpC E call c tm H (blkK id Q) := by
  cases ha : exec2 E call c ⟨tm, H⟩ with
  | none => rw [wpC_none (by simp [exec2, ha]), wpC_none ha]
  | some q =>
    obtain ⟨e, s⟩ := q
    rw [wpC_of ha]
    cases e with
    | normal => rw [wpC_of (e := .normal) (s := s) (by simp [exec2, ha])]; rfl
    | ret => rw [wpC_of (e := .ret) (s := s) (by simp [exec2, ha])]; rfl
    | exit j =>
      by_cases hj : j = id
      · rw [wpC_of (e := .normal) (s := s) (by simp [exec2, ha, hj])]; simp [blkK, hj]
      · rw [wpC_of (e := .exit j) (s := s) (by simp [exec2, ha, hj])]; simp [blkK, hj]
/-- A loop: 'I j' holds ahead of each round, 'j' the rounds that are left at most. -/
theorem wpC_loop {c : C2} {Q : Ex → T → Heap → Prop} (I : Nat → T → Heap → Prop) (m : Nat) (hm : m < E.K) (h0 : I m tm H)
    (hs : ∀ j tm H, j ≤ m → I j tm H → wpC E call c tm H (seqK (fun tm' H' => ∃ i, i < j ∧ I i tm' H') Q)) : wpC E call (.loop c) tm H Q := by
  simp only [wpC, exec2]
  have key : ∀ (k j : Nat) (tm : T) (H : Heap), j < k → j ≤ m → I j tm H → ∃ e s, iter2 (exec2 E call c) k ⟨tm, H⟩ = some (e, s) ∧ Q e s.tm s.heap := by
    intro k
    induction k with
    | zero => intro j tm H hj; omega
    | succ k ih =>
      intro j tm H hj hjm hI
      obtain ⟨e, s, he, hq⟩ := hs j tm H hjm hI
      simp only [iter2, he]
      cases e with
      | normal =>
        obtain ⟨i, hi, hI'⟩ := hq
        exact ih i s.tm s.heap (by omega) (by omega) hI'
      | exit id => exact ⟨_, _, rfl, hq⟩
      | ret => exact ⟨_, _, rfl, hq⟩
  exact key E.K m tm H hm (Nat.le_refl _) h0
theorem wpC_mono {c : C2} {Q Q' : Ex → T → Heap → Prop} (h : wpC E call c tm H Q) (hq : ∀ e tm H, Q e tm H → Q' e tm H) : wpC E call c tm H Q' := by
  obtain ⟨e, s, he, h⟩ := h
  exact ⟨e, s, he, hq _ _ _ h⟩
/-! ### Operations one behind the other -/
theorem wpI_nil (K : T → Heap → Prop) : wpI E call draw [] tm H K = K tm H := by simp [wpI, stepsI]
def chkP (b : Bool) (p : Prop) : Prop := b = true ∧ p
theorem wpI_op (c : Option (Operand × Nat)) (d : Option Nat) (o : Op) (is : List I2) (K : T → Heap → Prop) :
    wpI E call draw (.op c d o :: is) tm H K = chkP (chkS E H tm o c) (wpO E call draw tm H o (fun v H' => wpI E call draw is (updT tm d v) H' K)) := by
  refine propext ⟨?_, ?_⟩
  · rintro ⟨s, h, hk⟩
    simp only [stepsI, stepI] at h
    by_cases hc : chkS E H tm o c = true
    · rw [if_pos hc] at h
      cases ho : opT E call draw (evT tm) H o with
      | none => rw [ho] at h; cases h
      | some q => rw [ho] at h; exact ⟨hc, q.1, q.2, ho, s, h, hk⟩
    · rw [if_neg hc] at h; cases h
  · rintro ⟨hc, v, H', ho, s, h, hk⟩
    exact ⟨s, by simp only [stepsI, stepI, if_pos hc, ho]; exact h, hk⟩
theorem wpI_gop (t : Nat) (w : Bool) (c : Option (Operand × Nat)) (d : Option Nat) (o : Op) (is : List I2) (K : T → Heap → Prop) :
    wpI E call draw (.gop t w c d o :: is) tm H K = wpG w (tm t) (chkP (chkS E H tm o c) (wpO E call draw tm H o (fun v H' => wpI E call draw is (updT tm d v) H' K))) (wpI E call draw is (updT tm d (.tup [])) H K) := by
  rw [← wpI_op]
  unfold wpG wpI
  simp only [stepsI, stepI]
  cases tm t with
  | bad => simp
  | tup l => rfl
  | w x =>
    cases x with
    | agg cs => rfl
    | lf l =>
      cases l with
      | b x =>
        simp only
        by_cases hx : (x == w) = true
        · simp only [hx, if_true]
        · simp only [hx, if_false, Bool.false_eq_true]
      | _ => rfl
theorem wpI_no (d : Option Nat) (is : List I2) (K : T → Heap → Prop) : wpI E call draw (.no d :: is) tm H K = wpI E call draw is (updT tm d (.tup [])) H K := by
  simp [wpI, stepsI, stepI]
/-! ### Operations -/
theorem wpO_eq (op : Op) (K : V → Heap → Prop) : wpO E call draw tm H op K = opt2K (opT E call draw (evT tm) H op) K := rfl
theorem wpO_move (x : Operand) (K : V → Heap → Prop) : wpO E call draw tm H (.move x) K = K (evT tm x) H := by rw [wpO_eq]; exact opt2K_some _ _ _
theorem wpO_assign (x : Operand) (K : V → Heap → Prop) : wpO E call draw tm H (.assign x) K = K (evT tm x) H := by rw [wpO_eq]; exact opt2K_some _ _ _
theorem wpO_pick (c a b : Operand) (K : V → Heap → Prop) : wpO E call draw tm H (.pick c a b) K = wpB (evT tm c) (K (evT tm a) H) (K (evT tm b) H) := by
  have hx : opT E call draw (evT tm) H (.pick c a b) = match evT tm c with
    | .w (.lf (.b true)) => some (evT tm a, H)
    | .w (.lf (.b false)) => some (evT tm b, H)
    | _ => none := rfl
  rw [wpO_eq, hx]
  unfold wpB
  split
  · exact opt2K_some _ _ _
  · exact opt2K_some _ _ _
  · simp [opt2K]
theorem map_opt2K {o : Option V} {K : V → Heap → Prop} : opt2K (o.map (·, H)) K = optK o (fun v => K v H) := by
  cases o with
  | none => simp [opt2K, optK]
  | some v => simp only [Option.map_some, opt2K_some, optK_some]
theorem wpO_binOp (op : BinOp) (t u : Nat) (x y : Operand) (K : V → Heap → Prop) : wpO E call draw tm H (.binOp op t x y u) K = optK (binV E.τ op t (evT tm x) (evT tm y)) (fun v => K v H) := by
  rw [wpO_eq]; exact map_opt2K
theorem wpO_unOp (op : UnOp) (t : Nat) (x : Operand) (K : V → Heap → Prop) : wpO E call draw tm H (.unOp op t x) K = optK (unV op (evT tm x)) (fun v => K v H) := by
  rw [wpO_eq]; exact map_opt2K
theorem wpO_convert (s d : Nat) (x : Operand) (K : V → Heap → Prop) : wpO E call draw tm H (.convert s d x) K = optK (convW E.τ draw H s d (evT tm x)) (fun v => K v H) := by
  rw [wpO_eq]; exact map_opt2K
theorem wpO_fieldAddr (t : Nat) (x : Operand) (f : Nat) (K : V → Heap → Prop) : wpO E call draw tm H (.fieldAddr t x f) K = optK (fieldAddrV E.τ t (evT tm x) f) (fun v => K v H) := by
  rw [wpO_eq]; exact map_opt2K
theorem wpO_indexAddr (t : Nat) (x y : Operand) (K : V → Heap → Prop) : wpO E call draw tm H (.indexAddr t x y) K = optK (indexAddrV E.τ H t (evT tm x) (evT tm y)) (fun v => K v H) := by
  rw [wpO_eq]; exact map_opt2K
theorem wpO_index (t : Nat) (x y : Operand) (K : V → Heap → Prop) : wpO E call draw tm H (.index t x y) K = optK (indexV E.τ t (evT tm x) (evT tm y)) (fun v => K v H) := by
  rw [wpO_eq]; exact map_opt2K
theorem wpO_build (t : Nat) (ps : Array (Nat × Operand)) (K : V → Heap → Prop) : wpO E call draw tm H (.build t ps) K = optK (buildT E.τ (evT tm) t ps.toList) (fun v => K v H) := by
  rw [wpO_eq]; exact map_opt2K
theorem wpO_buildSlice (t n : Nat) (ps : Array (Nat × Operand)) (K : V → Heap → Prop) : wpO E call draw tm H (.buildSlice t n ps) K = opt2K (buildSliceT E.τ (evT tm) H t n ps.toList) K := rfl
theorem wpO_makeSlice (t : Nat) (x y : Operand) (K : V → Heap → Prop) : wpO E call draw tm H (.makeSlice t x y) K = opt2K (makeSliceV E.τ H t (evT tm x) (evT tm y)) K := rfl
theorem wpO_slice (t : Nat) (x : Operand) (lo hi mx : Option Operand) (K : V → Heap → Prop) :
    wpO E call draw tm H (.slice t x lo hi mx) K = opt2K (sliceW E.τ draw H t (evT tm x) (lo.map (evT tm)) (hi.map (evT tm)) (mx.map (evT tm))) K := rfl
def loadT (τ : Tab) (t : Nat) (H : Heap) (a : V) : Option V := match τ t, a with
  | some ti, .w (.lf (.p (some (id, r, k)))) => loadV ti H id r k
  | _, _ => none
def storeT (τ : Tab) (t : Nat) (H : Heap) (a v : V) : Option Heap := match τ t, a with
  | some ti, .w (.lf (.p (some (id, r, k)))) => storeV ti H id r k v
  | _, _ => none
theorem wpO_load (t : Nat) (a : Operand) (K : V → Heap → Prop) : wpO E call draw tm H (.load t a) K = optK (loadT E.τ t H (evT tm a)) (fun v => K v H) := by
  rw [wpO_eq, ← map_opt2K]
  congr 1
  have h0 : opT E call draw (evT tm) H (.load t a) = match E.τ t, evT tm a with
    | some ti, .w (.lf (.p (some (id, r, k)))) => (loadV ti H id r k).map (·, H)
    | _, _ => none := rfl
  rw [h0]
  unfold loadT
  cases E.τ t with
  | none => rfl
  | some ti =>
    cases evT tm a with
    | w x => cases x with
      | lf l => cases l with
        | p q => cases q <;> rfl
        | _ => rfl
      | agg _ => rfl
    | _ => rfl
theorem wpO_store (t : Nat) (a x : Operand) (K : V → Heap → Prop) : wpO E call draw tm H (.store t a x) K = optK (storeT E.τ t H (evT tm a) (evT tm x)) (fun H' => K (.tup []) H') := by
  have hx : opT E call draw (evT tm) H (.store t a x) = (storeT E.τ t H (evT tm a) (evT tm x)).map (.tup [], ·) := by
    have h0 : opT E call draw (evT tm) H (.store t a x) = match E.τ t, evT tm a with
      | some ti, .w (.lf (.p (some (id, r, k)))) => (storeV ti H id r k (evT tm x)).map (.tup [], ·)
      | _, _ => none := rfl
    rw [h0]
    unfold storeT
    cases E.τ t with
    | none => rfl
    | some ti =>
      cases evT tm a with
      | w x => cases x with
        | lf l => cases l with
          | p q => cases q <;> rfl
          | _ => rfl
        | agg _ => rfl
      | _ => rfl
  rw [wpO_eq, hx]
  cases storeT E.τ t H (evT tm a) (evT tm x) with
  | none => simp [opt2K, optK]
  | some H' => simp only [Option.map_some, opt2K_some, optK_some]
def nilT (v : V) : Option V := match v with
  | .w (.lf (.p (some a))) => some (.w (.lf (.p (some a))))
  | _ => none
theorem wpO_nilCheck (x : Operand) (K : V → Heap → Prop) : wpO E call draw tm H (.nilCheck x) K = optK (nilT (evT tm x)) (fun v => K v H) := by
  rw [wpO_eq, ← map_opt2K]
  congr 1
  have h0 : opT E call draw (evT tm) H (.nilCheck x) = match evT tm x with
    | .w (.lf (.p (some a))) => some (.w (.lf (.p (some a))), H)
    | _ => none := rfl
  rw [h0]
  unfold nilT
  cases evT tm x with
  | w x => cases x with
    | lf l => cases l with
      | p q => cases q <;> rfl
      | _ => rfl
    | agg _ => rfl
  | _ => rfl
theorem wpO_alloc (t : Nat) (K : V → Heap → Prop) : wpO E call draw tm H (.alloc t) K = optK (E.τ t) (fun ti => K (.ptr H.length 0 0) (H ++ [some ⟨t, .wr, [ti.zero]⟩])) := by
  rw [wpO_eq]
  simp only [opT]
  cases E.τ t with
  | none => simp [opt2K, optK]
  | some ti => simp only [opt2K_some, optK_some]
def boxT (τ : Tab) (t : Nat) (v : V) : Option (List Lf) := match τ t, v.cells with
  | some ti, some cs => if cs.length = ti.size then some cs else none
  | _, _ => none
theorem wpO_box (t : Nat) (x : Operand) (K : V → Heap → Prop) : wpO E call draw tm H (.box t x) K = optK (boxT E.τ t (evT tm x)) (fun cs => K (.ptr H.length 0 0) (H ++ [some ⟨t, .wr, [cs]⟩])) := by
  rw [wpO_eq]
  simp only [opT, boxT]
  cases E.τ t with
  | none => simp [opt2K, optK]
  | some ti =>
    cases (evT tm x).cells with
    | none => simp [opt2K, optK]
    | some cs =>
      simp only
      split
      · rw [opt2K_some, optK_some]
      · simp [opt2K, optK]
def extT (v : V) (i : Nat) : Option V := match v with
  | .tup ws => (ws[i]?).map .w
  | _ => none
theorem wpO_extract (x : Operand) (i : Nat) (K : V → Heap → Prop) : wpO E call draw tm H (.extract x i) K = optK (extT (evT tm x) i) (fun v => K v H) := by
  rw [wpO_eq]
  simp only [opT, extT]
  cases evT tm x with
  | tup ws =>
    simp only
    cases ws[i]? with
    | none => simp [opt2K, optK]
    | some w => simp only [Option.map_some, opt2K_some, optK_some]
  | _ => simp [opt2K, optK]
def funcT (f : Nat) (a b : Option (List (Nat × Nat × Nat))) : Option V := match a, b with
  | some a, some b => some (.w (.lf (.fn f a b)))
  | _, _ => none
theorem wpO_makeFunc (f : Nat) (a b : Array Operand) (K : V → Heap → Prop) : wpO E call draw tm H (.makeFunc (.func f) a b) K = optK (funcT f (ptrs (a.toList.map (evT tm))) (ptrs (b.toList.map (evT tm)))) (fun v => K v H) := by
  rw [wpO_eq, ← map_opt2K]
  congr 1
  have h0 : opT E call draw (evT tm) H (.makeFunc (.func f) a b) = match ptrs (a.toList.map (evT tm)), ptrs (b.toList.map (evT tm)) with
    | some a, some b => some (.w (.lf (.fn f a b)), H)
    | _, _ => none := rfl
  rw [h0]
  unfold funcT
  cases ptrs (a.toList.map (evT tm)) <;> cases ptrs (b.toList.map (evT tm)) <;> rfl
theorem wpO_builtin (b : Builtin) (args : Array Operand) (ts : Array Nat) (K : V → Heap → Prop) :
    wpO E call draw tm H (.call { callee := .builtin b, args := args, argTypes := ts }) K = opt2K (builtinW E.τ draw H b ts.toList (args.toList.map (evT tm))) K := rfl
theorem wpO_call (f : Operand) (args : Array Operand) (ts : Array Nat) (K : V → Heap → Prop) :
    wpO E call draw tm H (.call { callee := .value f, args := args, argTypes := ts }) K = opt2K (guardCall E draw (evT tm f) H (callV call H (evT tm f) (args.toList.map (evT tm)))) K := rfl
@[simp] theorem callV_fn (f : Nat) (args : List V) : callV call H (.w (.lf (.fn f [] []))) args = call f args H := by simp [callV]
@[simp] theorem guard_no (f : V) (r : Option (V × Heap)) : guardCall E false f H r = r := by simp [guardCall]
@[simp] theorem guard_same (f : Nat) (a b : List (Nat × Nat × Nat)) (v : V) : guardCall E draw (.w (.lf (.fn f a b))) H (some (v, H)) = some (v, H) := by
  cases draw <;> simp [guardCall]
@[simp] theorem guard_more (f : Nat) (a b : List (Nat × Nat × Nat)) (v : V) (G : Heap) : guardCall E draw (.w (.lf (.fn f a b))) H (some (v, H ++ G)) = some (v, H ++ G) := by
  cases draw <;> simp [guardCall]
/-! ### Slots -/
@[simp] theorem evT_tmp (t : Nat) : evT tm (.tmp t) = tm t := rfl
@[simp] theorem evT_const (v : Value) : evT tm (.const v) = ofVal v := rfl
@[simp] theorem evT_func (f : Nat) : evT tm (.func f) = .w (.lf (.fn f [] [])) := rfl
@[simp] theorem ofVal_int (k : IntKind) (n : Int) : ofVal (.int k n) = .w (.lf (.i k n)) := rfl
@[simp] theorem ofVal_bool (b : Bool) : ofVal (.bool b) = .w (.lf (.b b)) := rfl
@[simp] theorem ofVal_string (s : ByteArray) : ofVal (.string s) = .w (.lf (.s s)) := rfl
@[simp] theorem ofVal_nil : ofVal (.slice none 0 0) = .w (.lf (.sl none 0)) := rfl
@[simp] theorem updT_none (v : V) : updT tm none v = tm := rfl
@[simp] theorem updT_some (d : Nat) (v : V) : updT tm (some d) v = upd1 tm d v := rfl
@[simp ↓] theorem upd1_same (d : Nat) (v : V) : upd1 tm d v d = v := by simp [upd1]
@[simp ↓] theorem upd1_ne {d i : Nat} (h : i ≠ d) (v : V) : upd1 tm d v i = tm i := by simp [upd1, h]
theorem upd1_if (d i : Nat) (v : V) : upd1 tm d v i = if i = d then v else tm i := rfl
@[simp] theorem argT_zero (v : V) (vs : List V) : argT (v :: vs) 0 = v := rfl
@[simp] theorem argT_succ (v : V) (vs : List V) (i : Nat) : argT (v :: vs) (i + 1) = argT vs i := by simp [argT]
@[simp] theorem argT_nil (i : Nat) : argT [] i = .bad := by simp [argT]
/-! ### A function -/
/-- What a function comes to. -/
def Runs (E : Env) (f : Nat) (args : List V) (H : Heap) (K : V → Heap → Prop) : Prop := ∃ v H', run E f args H = some (v, H') ∧ K v H'
theorem Runs.intro {f : Nat} {fn : Func} {c : Code} {args : List V} {K : V → Heap → Prop} (hok : E.ok f = true) (hf : E.P.funcs[f]? = some fn) (hb : fn.body = some c) (hlen : args.length ≤ fn.ntmps)
    (h : wpC E (run E) (strip E.τ fn.ntmps c) (argT args) H (fun e tm H' => (∀ j, e ≠ .exit j) ∧ optK (resT E.τ tm H' fn.results.toList) fun ws => K (resV ws) (leave H H' ws))) : Runs E f args H K := by
  obtain ⟨e, s, he, hne, ws, hr, hk⟩ := h
  exact ⟨_, _, run_strip hok hf hb hlen he hne hr, hk⟩
theorem Runs.intro_bad {f : Nat} {fn : Func} {c : Code} {args : List V} {K : V → Heap → Prop} (hok : E.ok f = true) (hf : E.P.funcs[f]? = some fn) (hb : fn.body = some c) (hlen : args.length ≤ fn.ntmps) (ht : tmpsB fn.results.toList = true)
    (h : wpC E (run E) (strip E.τ fn.ntmps c) (argT args) H (fun e tm H' => (∀ j, e ≠ .exit j) ∧ resT E.τ tm H' fn.results.toList = none ∧ K .bad H')) : Runs E f args H K := by
  obtain ⟨e, s, he, hne, hr, hk⟩ := h
  exact ⟨_, _, run_strip_bad hok hf hb hlen he hne hr ht, hk⟩
theorem Runs.eq {f : Nat} {args : List V} {v : V} {H' : Heap} (h : Runs E f args H fun v' H'' => v' = v ∧ H'' = H') : run E f args H = some (v, H') := by
  obtain ⟨v', H'', h, rfl, rfl⟩ := h
  exact h
theorem sound_run (h : ∀ d, CallOk E.P (runF E d)) : CallOk E.P (run E) := fun f args H v H' hr => by
  obtain ⟨d, hd⟩ := run_some.1 hr
  exact h d f args H v H' hd
end
end Go.Ab

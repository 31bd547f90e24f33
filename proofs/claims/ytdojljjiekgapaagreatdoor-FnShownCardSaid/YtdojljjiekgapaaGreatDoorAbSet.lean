/- A walk in first-order steps: what is still to do lies in a list of frames. Operators and memory, in steps for 'simp'. -/
import Derived.Test.YtdojljjiekgapaaGreatDoorAbWp3
set_option linter.unusedVariables false
set_option linter.unusedSimpArgs false
namespace Go.Ab
inductive Fr where
  | seq (c : C2)
  | blk (id : Nat)
section
variable {E : Env} {call : Fun} {draw : Bool} {tm : T} {H : Heap} {Q : Ex → T → Heap → Prop} {fr : List Fr} {is : List I2}
def kont (E : Env) (call : Fun) : List Fr → Ex → T → Heap → (Ex → T → Heap → Prop) → Prop
  | [], e, tm, H, Q => Q e tm H
  | .seq c :: fr, .normal, tm, H, Q => wpC E call c tm H fun e tm H => kont E call fr e tm H Q
  | .seq _ :: fr, .exit j, tm, H, Q => kont E call fr (.exit j) tm H Q
  | .seq _ :: fr, .ret, tm, H, Q => kont E call fr .ret tm H Q
  | .blk id :: fr, .exit j, tm, H, Q => if j = id then kont E call fr .normal tm H Q else kont E call fr (.exit j) tm H Q
  | .blk _ :: fr, .normal, tm, H, Q => kont E call fr .normal tm H Q
  | .blk _ :: fr, .ret, tm, H, Q => kont E call fr .ret tm H Q
def wpS (E : Env) (call : Fun) (c : C2) (fr : List Fr) (tm : T) (H : Heap) (Q : Ex → T → Heap → Prop) : Prop := wpC E call c tm H fun e tm H => kont E call fr e tm H Q
def wpL (E : Env) (call : Fun) (draw : Bool) (is : List I2) (fr : List Fr) (tm : T) (H : Heap) (Q : Ex → T → Heap → Prop) : Prop := wpI E call draw is tm H fun tm H => kont E call fr .normal tm H Q
def stpL (E : Env) (call : Fun) (r : Option (V × Heap)) (d : Option Nat) (draw : Bool) (is : List I2) (fr : List Fr) (tm : T) (Q : Ex → T → Heap → Prop) : Prop := match r with
  | some (v, H) => wpL E call draw is fr (updT tm d v) H Q
  | none => False
def stpC (E : Env) (call : Fun) (b : Bool) (r : Option (V × Heap)) (d : Option Nat) (draw : Bool) (is : List I2) (fr : List Fr) (tm : T) (Q : Ex → T → Heap → Prop) : Prop := b = true ∧ stpL E call r d draw is fr tm Q
def stpO (E : Env) (call : Fun) (c : Option (Operand × Nat)) (d : Option Nat) (o : Op) (draw : Bool) (is : List I2) (fr : List Fr) (tm : T) (H : Heap) (Q : Ex → T → Heap → Prop) : Prop := chkS E H tm o c = true ∧ stpL E call (opT E call draw (evT tm) H o) d draw is fr tm Q
def gdL (E : Env) (call : Fun) (w : Bool) (v : V) (c : Option (Operand × Nat)) (d : Option Nat) (o : Op) (draw : Bool) (is : List I2) (fr : List Fr) (tm : T) (H : Heap) (Q : Ex → T → Heap → Prop) : Prop := match v with
  | .w (.lf (.b x)) => if (x == w) = true then stpO E call c d o draw is fr tm H Q else wpL E call draw is fr (updT tm d (.tup [])) H Q
  | .bad => False
  | _ => wpL E call draw is fr (updT tm d (.tup [])) H Q
def selS (E : Env) (call : Fun) (v : V) (x y : C2) (fr : List Fr) (tm : T) (H : Heap) (Q : Ex → T → Heap → Prop) : Prop := match v with
  | .w (.lf (.b true)) => wpS E call x fr tm H Q
  | .w (.lf (.b false)) => wpS E call y fr tm H Q
  | _ => False
theorem wpC_ext {c : C2} {Q Q' : Ex → T → Heap → Prop} (h : ∀ e tm H, Q e tm H = Q' e tm H) : wpC E call c tm H Q = wpC E call c tm H Q' := by
  have : Q = Q' := by funext e tm H; exact h e tm H
  rw [this]
@[simp] theorem kont_nil (e : Ex) : kont E call [] e tm H Q = Q e tm H := rfl
@[simp] theorem kont_seq_n (c : C2) : kont E call (.seq c :: fr) .normal tm H Q = wpS E call c fr tm H Q := rfl
@[simp] theorem kont_seq_e (c : C2) (j : Nat) : kont E call (.seq c :: fr) (.exit j) tm H Q = kont E call fr (.exit j) tm H Q := rfl
@[simp] theorem kont_seq_r (c : C2) : kont E call (.seq c :: fr) .ret tm H Q = kont E call fr .ret tm H Q := rfl
@[simp] theorem kont_blk_n (id : Nat) : kont E call (.blk id :: fr) .normal tm H Q = kont E call fr .normal tm H Q := rfl
@[simp] theorem kont_blk_e (id j : Nat) : kont E call (.blk id :: fr) (.exit j) tm H Q = if j = id then kont E call fr .normal tm H Q else kont E call fr (.exit j) tm H Q := rfl
@[simp] theorem kont_blk_r (id : Nat) : kont E call (.blk id :: fr) .ret tm H Q = kont E call fr .ret tm H Q := rfl
@[simp] theorem wpS_skip : wpS E call .skip fr tm H Q = kont E call fr .normal tm H Q := wpC_skip _
@[simp] theorem wpS_exit (j : Nat) : wpS E call (.exit j) fr tm H Q = kont E call fr (.exit j) tm H Q := wpC_exit _ _
@[simp] theorem wpS_ret : wpS E call .ret fr tm H Q = kont E call fr .ret tm H Q := wpC_ret _
@[simp] theorem wpS_region (is : List I2) : wpS E call (.region draw is) fr tm H Q = wpL E call draw is fr tm H Q := wpC_region _ _ _
@[simp] theorem wpS_seq (a b : C2) : wpS E call (.seq a b) fr tm H Q = wpS E call a (.seq b :: fr) tm H Q := by
  unfold wpS
  rw [wpC_seq]
  refine wpC_ext fun e tm H => ?_
  cases e <;> rfl
@[simp] theorem wpS_cond (c : Operand) (x y : C2) : wpS E call (.cond c x y) fr tm H Q = selS E call (evT tm c) x y fr tm H Q := by
  unfold wpS selS
  rw [wpC_cond]
  rfl
@[simp] theorem wpS_block (id : Nat) (c : C2) : wpS E call (.block id c) fr tm H Q = wpS E call c (.blk id :: fr) tm H Q := by
  unfold wpS
  rw [wpC_block]
  refine wpC_ext fun e tm H => ?_
  cases e <;> rfl
@[simp] theorem selS_true (x y : C2) : selS E call (.w (.lf (.b true))) x y fr tm H Q = wpS E call x fr tm H Q := rfl
@[simp] theorem selS_false (x y : C2) : selS E call (.w (.lf (.b false))) x y fr tm H Q = wpS E call y fr tm H Q := rfl
theorem selS_intro {b : Bool} {x y : C2} (h1 : b = true → wpS E call x fr tm H Q) (h2 : b = false → wpS E call y fr tm H Q) : selS E call (.w (.lf (.b b))) x y fr tm H Q := by
  cases b
  · exact h2 rfl
  · exact h1 rfl
@[simp] theorem wpL_nil : wpL E call draw [] fr tm H Q = kont E call fr .normal tm H Q := wpI_nil _
@[simp] theorem wpL_op (c : Option (Operand × Nat)) (d : Option Nat) (o : Op) : wpL E call draw (.op c d o :: is) fr tm H Q = stpO E call c d o draw is fr tm H Q := by
  unfold wpL stpO stpL
  rw [wpI_op, wpO_eq]
  unfold chkP
  cases opT E call draw (evT tm) H o with
  | none => simp [opt2K]
  | some q => obtain ⟨v, H'⟩ := q; rw [opt2K_some]; rfl
@[simp] theorem wpL_gop (t : Nat) (w : Bool) (c : Option (Operand × Nat)) (d : Option Nat) (o : Op) : wpL E call draw (.gop t w c d o :: is) fr tm H Q = gdL E call w (tm t) c d o draw is fr tm H Q := by
  have h1 := wpL_op (E := E) (call := call) (draw := draw) (tm := tm) (H := H) (Q := Q) (fr := fr) (is := is) c d o
  unfold wpL at h1 ⊢
  unfold gdL
  rw [wpI_gop, ← wpI_op, h1]
  unfold wpG
  rfl
@[simp] theorem stpO_none (d : Option Nat) (o : Op) : stpO E call none d o draw is fr tm H Q = stpL E call (opT E call draw (evT tm) H o) d draw is fr tm Q := by simp [stpO, chkS]
@[simp] theorem stpO_some (x : Operand) (ty : Nat) (d : Option Nat) (o : Op) : stpO E call (some (x, ty)) d o draw is fr tm H Q = stpC E call (chkV H (evT tm x) ty && difO E (evT tm) o) (opT E call draw (evT tm) H o) d draw is fr tm Q := rfl
@[simp] theorem difO_store (g : Operand → V) (t : Nat) (a x : Operand) : difO E g (.store t a x) = true := rfl
@[simp] theorem difO_load (g : Operand → V) (t x : Nat) : difO E g (.load t (.tmp x)) = E.dif.all fun p => p.1 != t || p.2.2 != x || difV (g (.tmp p.2.1)) (g (.tmp x)) := rfl
@[simp] theorem difO_const (g : Operand → V) (t : Nat) (x : Value) : difO E g (.load t (.const x)) = true := rfl
@[simp] theorem difV_ptr (i j r k r2 k2 : Nat) : difV (.w (.lf (.p (some (i, r, k))))) (.w (.lf (.p (some (j, r2, k2))))) = (i != j) := rfl
@[simp] theorem stpC_true (r : Option (V × Heap)) (d : Option Nat) : stpC E call true r d draw is fr tm Q = stpL E call r d draw is fr tm Q := by simp [stpC]
@[simp] theorem wpL_no (d : Option Nat) : wpL E call draw (.no d :: is) fr tm H Q = wpL E call draw is fr (updT tm d (.tup [])) H Q := wpI_no _ _ _
@[simp] theorem stpL_some (v : V) (d : Option Nat) : stpL E call (some (v, H)) d draw is fr tm Q = wpL E call draw is fr (updT tm d v) H Q := rfl
@[simp] theorem gdL_tt (c : Option (Operand × Nat)) (d : Option Nat) (o : Op) : gdL E call true (.w (.lf (.b true))) c d o draw is fr tm H Q = stpO E call c d o draw is fr tm H Q := rfl
@[simp] theorem gdL_ff (c : Option (Operand × Nat)) (d : Option Nat) (o : Op) : gdL E call false (.w (.lf (.b false))) c d o draw is fr tm H Q = stpO E call c d o draw is fr tm H Q := rfl
@[simp] theorem gdL_tf (c : Option (Operand × Nat)) (d : Option Nat) (o : Op) : gdL E call true (.w (.lf (.b false))) c d o draw is fr tm H Q = wpL E call draw is fr (updT tm d (.tup [])) H Q := rfl
@[simp] theorem gdL_ft (c : Option (Operand × Nat)) (d : Option Nat) (o : Op) : gdL E call false (.w (.lf (.b true))) c d o draw is fr tm H Q = wpL E call draw is fr (updT tm d (.tup [])) H Q := rfl
@[simp] theorem gdL_tup (w : Bool) (l : List W) (c : Option (Operand × Nat)) (d : Option Nat) (o : Op) : gdL E call w (.tup l) c d o draw is fr tm H Q = wpL E call draw is fr (updT tm d (.tup [])) H Q := rfl
theorem gdL_t {b : Bool} {c : Option (Operand × Nat)} {d : Option Nat} {o : Op} (h1 : b = true → stpO E call c d o draw is fr tm H Q) (h2 : b = false → wpL E call draw is fr (updT tm d (.tup [])) H Q) :
    gdL E call true (.w (.lf (.b b))) c d o draw is fr tm H Q := by
  cases b
  · exact h2 rfl
  · exact h1 rfl
theorem gdL_f {b : Bool} {c : Option (Operand × Nat)} {d : Option Nat} {o : Op} (h1 : b = true → wpL E call draw is fr (updT tm d (.tup [])) H Q) (h2 : b = false → stpO E call c d o draw is fr tm H Q) :
    gdL E call false (.w (.lf (.b b))) c d o draw is fr tm H Q := by
  cases b
  · exact h2 rfl
  · exact h1 rfl
/-- A loop: 'I j' holds ahead of each round, 'j' the rounds that are left at most. -/
theorem wpS_loop {c : C2} (I : Nat → T → Heap → Prop) (m : Nat) (hm : m < E.K) (h0 : I m tm H)
    (hs : ∀ j tm H, j ≤ m → I j tm H → ∀ Q' : Ex → T → Heap → Prop, (∀ i tm' H', i < j → I i tm' H' → Q' .normal tm' H') → (∀ id tm' H', kont E call fr (.exit id) tm' H' Q → Q' (.exit id) tm' H') →
      (∀ tm' H', kont E call fr .ret tm' H' Q → Q' .ret tm' H') → wpS E call c [] tm H Q') : wpS E call (.loop c) fr tm H Q := by
  refine wpC_loop I m hm h0 fun j tm H hj hI => ?_
  have := hs j tm H hj hI (seqK (fun tm' H' => ∃ i, i < j ∧ I i tm' H') fun e tm H => kont E call fr e tm H Q) (fun i tm' H' hi h => ⟨i, hi, h⟩) (fun id tm' H' h => h) (fun tm' H' h => h)
  exact this
@[simp] theorem opT_move (g : Operand → V) (x : Operand) : opT E call draw g H (.move x) = some (g x, H) := rfl
@[simp] theorem opT_assign (g : Operand → V) (x : Operand) : opT E call draw g H (.assign x) = some (g x, H) := rfl
def pickT (c a b : V) (H : Heap) : Option (V × Heap) := match c with
  | .w (.lf (.b true)) => some (a, H)
  | .w (.lf (.b false)) => some (b, H)
  | _ => none
@[simp] theorem opT_pick (g : Operand → V) (c a b : Operand) : opT E call draw g H (.pick c a b) = pickT (g c) (g a) (g b) H := rfl
@[simp] theorem pickT_true (a b : V) : pickT (.w (.lf (.b true))) a b H = some (a, H) := rfl
@[simp] theorem pickT_false (a b : V) : pickT (.w (.lf (.b false))) a b H = some (b, H) := rfl
/-- A value alone, memory as it is. -/
def wth (o : Option V) (H : Heap) : Option (V × Heap) := o.map (·, H)
@[simp] theorem wth_some (v : V) : wth (some v) H = some (v, H) := rfl
def mem (o : Option Heap) : Option (V × Heap) := o.map (.tup [], ·)
@[simp] theorem mem_some : mem (some H) = some (.tup [], H) := rfl
@[simp] theorem opT_binOp (g : Operand → V) (op : BinOp) (t u : Nat) (x y : Operand) : opT E call draw g H (.binOp op t x y u) = wth (binV E.τ op t (g x) (g y)) H := rfl
@[simp] theorem opT_unOp (g : Operand → V) (op : UnOp) (t : Nat) (x : Operand) : opT E call draw g H (.unOp op t x) = wth (unV op (g x)) H := rfl
@[simp] theorem opT_convert (g : Operand → V) (s d : Nat) (x : Operand) : opT E call draw g H (.convert s d x) = wth (convW E.τ draw H s d (g x)) H := rfl
@[simp] theorem opT_fieldAddr (g : Operand → V) (t f : Nat) (x : Operand) : opT E call draw g H (.fieldAddr t x f) = wth (fieldAddrV E.τ t (g x) f) H := rfl
@[simp] theorem opT_indexAddr (g : Operand → V) (t : Nat) (x y : Operand) : opT E call draw g H (.indexAddr t x y) = wth (indexAddrV E.τ H t (g x) (g y)) H := rfl
@[simp] theorem opT_field (g : Operand → V) (t : Nat) (x : Operand) (f : Nat) : opT E call draw g H (.field t x f) = wth (fieldV E.P E.τ t (g x) f) H := rfl
@[simp] theorem opT_index (g : Operand → V) (t : Nat) (x y : Operand) : opT E call draw g H (.index t x y) = wth (indexV E.τ t (g x) (g y)) H := rfl
@[simp] theorem opT_build (g : Operand → V) (t : Nat) (ps : Array (Nat × Operand)) : opT E call draw g H (.build t ps) = wth (buildT E.τ g t ps.toList) H := rfl
@[simp] theorem opT_buildSlice (g : Operand → V) (t n : Nat) (ps : Array (Nat × Operand)) : opT E call draw g H (.buildSlice t n ps) = buildSliceT E.τ g H t n ps.toList := rfl
@[simp] theorem opT_makeSlice (g : Operand → V) (t : Nat) (x y : Operand) : opT E call draw g H (.makeSlice t x y) = makeSliceV E.τ H t (g x) (g y) := rfl
theorem sliceW_of {τ : Tab} {draw : Bool} {H : Heap} {t : Nat} {x : V} {lo hi mx : Option V} {y : V × Heap} (h : sliceV τ H t x lo hi mx = some y) : sliceW τ draw H t x lo hi mx = some y := by unfold sliceW; rw [h]
@[simp] theorem sliceW_eq (τ : Tab) (draw : Bool) (H : Heap) (t : Nat) (x : V) (lo hi mx : Option V) : sliceW τ draw H t x lo hi mx = match sliceV τ H t x lo hi mx with
  | some y => some y
  | none => if draw = true then none else sliceX τ H t x lo hi mx := rfl
@[simp] theorem opT_slice (g : Operand → V) (t : Nat) (x : Operand) (lo hi mx : Option Operand) : opT E call draw g H (.slice t x lo hi mx) = sliceW E.τ draw H t (g x) (lo.map g) (hi.map g) (mx.map g) := rfl
@[simp] theorem opT_load (g : Operand → V) (t : Nat) (a : Operand) : opT E call draw g H (.load t a) = wth (loadT E.τ t H (g a)) H := by
  have h0 : opT E call draw g H (.load t a) = match E.τ t, g a with
    | some ti, .w (.lf (.p (some (id, r, k)))) => (loadV ti H id r k).map (·, H)
    | _, _ => none := rfl
  rw [h0]
  unfold loadT wth
  cases E.τ t with
  | none => rfl
  | some ti =>
    cases g a with
    | w x => cases x with
      | lf l => cases l with
        | p q => cases q <;> rfl
        | _ => rfl
      | agg _ => rfl
    | _ => rfl
@[simp] theorem opT_store (g : Operand → V) (t : Nat) (a x : Operand) : opT E call draw g H (.store t a x) = mem (storeT E.τ t H (g a) (g x)) := by
  have h0 : opT E call draw g H (.store t a x) = match E.τ t, g a with
    | some ti, .w (.lf (.p (some (id, r, k)))) => (storeV ti H id r k (g x)).map (.tup [], ·)
    | _, _ => none := rfl
  rw [h0]
  unfold storeT mem
  cases E.τ t with
  | none => rfl
  | some ti =>
    cases g a with
    | w x => cases x with
      | lf l => cases l with
        | p q => cases q <;> rfl
        | _ => rfl
      | agg _ => rfl
    | _ => rfl
@[simp] theorem opT_nilCheck (g : Operand → V) (x : Operand) : opT E call draw g H (.nilCheck x) = wth (nilT (g x)) H := by
  have h0 : opT E call draw g H (.nilCheck x) = match g x with
    | .w (.lf (.p (some a))) => some (.w (.lf (.p (some a))), H)
    | _ => none := rfl
  rw [h0]
  unfold nilT wth
  cases g x with
  | w x => cases x with
    | lf l => cases l with
      | p q => cases q <;> rfl
      | _ => rfl
    | agg _ => rfl
  | _ => rfl
def allocT (t : Nat) (o : Option TI) (H : Heap) : Option (V × Heap) := match o with
  | some ti => some (.ptr H.length 0 0, H ++ [some ⟨t, .wr, [ti.zero]⟩])
  | none => none
@[simp] theorem opT_alloc (g : Operand → V) (t : Nat) : opT E call draw g H (.alloc t) = allocT t (E.τ t) H := rfl
@[simp] theorem allocT_some (t : Nat) (ti : TI) : allocT t (some ti) H = some (.ptr H.length 0 0, H ++ [some ⟨t, .wr, [ti.zero]⟩]) := rfl
def boxH (t : Nat) (o : Option (List Lf)) (H : Heap) : Option (V × Heap) := match o with
  | some cs => some (.ptr H.length 0 0, H ++ [some ⟨t, .wr, [cs]⟩])
  | none => none
@[simp] theorem opT_box (g : Operand → V) (t : Nat) (x : Operand) : opT E call draw g H (.box t x) = boxH t (boxT E.τ t (g x)) H := by
  have h0 : opT E call draw g H (.box t x) = match E.τ t, (g x).cells with
    | some ti, some cs => if cs.length = ti.size then some (.ptr H.length 0 0, H ++ [some ⟨t, .wr, [cs]⟩]) else none
    | _, _ => none := rfl
  rw [h0]
  unfold boxH boxT
  cases E.τ t with
  | none => rfl
  | some ti =>
    cases (g x).cells with
    | none => rfl
    | some cs => simp only; split <;> rfl
@[simp] theorem boxH_some (t : Nat) (cs : List Lf) : boxH t (some cs) H = some (.ptr H.length 0 0, H ++ [some ⟨t, .wr, [cs]⟩]) := rfl
@[simp] theorem opT_extract (g : Operand → V) (x : Operand) (i : Nat) : opT E call draw g H (.extract x i) = wth (extT (g x) i) H := by
  have h0 : opT E call draw g H (.extract x i) = match g x with
    | .tup ws => match ws[i]? with
      | some x => some (.w x, H)
      | none => none
    | _ => none := rfl
  rw [h0]
  unfold extT wth
  cases g x with
  | tup ws => simp only; cases ws[i]? <;> rfl
  | _ => rfl
@[simp] theorem opT_makeFunc (g : Operand → V) (f : Nat) (a b : Array Operand) : opT E call draw g H (.makeFunc (.func f) a b) = wth (funcT f (ptrs (a.toList.map g)) (ptrs (b.toList.map g))) H := by
  have h0 : opT E call draw g H (.makeFunc (.func f) a b) = match ptrs (a.toList.map g), ptrs (b.toList.map g) with
    | some a, some b => some (.w (.lf (.fn f a b)), H)
    | _, _ => none := rfl
  rw [h0]
  unfold funcT wth
  cases ptrs (a.toList.map g) <;> cases ptrs (b.toList.map g) <;> rfl
@[simp] theorem opT_builtin (g : Operand → V) (b : Builtin) (args : Array Operand) (ts : Array Nat) :
    opT E call draw g H (.call { callee := .builtin b, args := args, argTypes := ts }) = builtinW E.τ draw H b ts.toList (args.toList.map g) := rfl
@[simp] theorem convW_eq (τ : Tab) (draw : Bool) (H : Heap) (s d : Nat) (x : V) : convW τ draw H s d x = match convV τ s d x with
  | some y => some y
  | none => if draw = true then none else bytesStr τ H s d x := rfl
@[simp] theorem builtinW_append_sl {τ : Tab} {draw : Bool} {H : Heap} (ts : List Nat) (x : V) (a : Option (Nat × Nat)) (n : Nat) : builtinW τ draw H .append ts [x, .w (.lf (.sl a n))] = builtinV τ H .append ts [x, .w (.lf (.sl a n))] := by
  unfold builtinW
  cases builtinV τ H .append ts [x, .w (.lf (.sl a n))] with
  | some y => rfl
  | none => 
    cases draw
    · simp only [Bool.false_eq_true, if_false]
      unfold appendStr
      split
      · rename_i h; simp at h
      · rfl
    · rfl
@[simp] theorem builtinW_append_s {τ : Tab} {H : Heap} (t u : Nat) (a : Option (Nat × Nat)) (n : Nat) (s : ByteArray) : builtinW τ false H .append [t, u] [.w (.lf (.sl a n)), .w (.lf (.s s))] = appendStr τ H [t, u] [.w (.lf (.sl a n)), .w (.lf (.s s))] := by
  have h : builtinV τ H .append [t, u] [.w (.lf (.sl a n)), .w (.lf (.s s))] = none := rfl
  unfold builtinW
  rw [h]
  rfl
theorem builtinW_ne {τ : Tab} {draw : Bool} {H : Heap} {b : Builtin} (hb : b ≠ .append) (ts : List Nat) (args : List V) : builtinW τ draw H b ts args = builtinV τ H b ts args := by
  unfold builtinW
  cases builtinV τ H b ts args with
  | some y => rfl
  | none => cases draw <;> cases b <;> first | rfl | exact absurd rfl hb
@[simp] theorem builtinW_len {τ : Tab} {draw : Bool} {H : Heap} (ts : List Nat) (args : List V) : builtinW τ draw H .len ts args = builtinV τ H .len ts args := builtinW_ne (by simp) ts args
@[simp] theorem builtinW_max {τ : Tab} {draw : Bool} {H : Heap} (ts : List Nat) (args : List V) : builtinW τ draw H .max ts args = builtinV τ H .max ts args := builtinW_ne (by simp) ts args
@[simp] theorem builtinW_min {τ : Tab} {draw : Bool} {H : Heap} (ts : List Nat) (args : List V) : builtinW τ draw H .min ts args = builtinV τ H .min ts args := builtinW_ne (by simp) ts args
@[simp] theorem builtinW_clear {τ : Tab} {draw : Bool} {H : Heap} (ts : List Nat) (args : List V) : builtinW τ draw H .clear ts args = builtinV τ H .clear ts args := builtinW_ne (by simp) ts args
@[simp] theorem opT_call (g : Operand → V) (f : Operand) (args : Array Operand) (ts : Array Nat) :
    opT E call draw g H (.call { callee := .value f, args := args, argTypes := ts }) = guardCall E draw (g f) H (callV call H (g f) (args.toList.map g)) := rfl
end
/-- A function's run out of a walk through its code. -/
theorem Runs.walk {E : Env} {f : Nat} {fn : Func} {c : Code} {args : List V} {H : Heap} {K : V → Heap → Prop} (hok : E.ok f = true) (hf : E.P.funcs[f]? = some fn) (hb : fn.body = some c) (hlen : args.length ≤ fn.ntmps)
    (h : ∀ Q : Ex → T → Heap → Prop, (∀ e tm H', (∀ j, e ≠ .exit j) → optK (resT E.τ tm H' fn.results.toList) (fun ws => K (resV ws) (leave H H' ws)) → Q e tm H') → wpS E (run E) (strip E.τ fn.ntmps c) [] (argT args) H Q) : Runs E f args H K :=
  Runs.intro hok hf hb hlen (h _ fun e tm H' h1 h2 => ⟨h1, h2⟩)
theorem Runs.walk_bad {E : Env} {f : Nat} {fn : Func} {c : Code} {args : List V} {H : Heap} {K : V → Heap → Prop} (hok : E.ok f = true) (hf : E.P.funcs[f]? = some fn) (hb : fn.body = some c) (hlen : args.length ≤ fn.ntmps) (ht : tmpsB fn.results.toList = true)
    (h : ∀ Q : Ex → T → Heap → Prop, (∀ e tm H', (∀ j, e ≠ .exit j) → resT E.τ tm H' fn.results.toList = none → K .bad H' → Q e tm H') → wpS E (run E) (strip E.τ fn.ntmps c) [] (argT args) H Q) : Runs E f args H K :=
  Runs.intro_bad hok hf hb hlen ht (h _ fun e tm H' h1 h2 h3 => ⟨h1, h2, h3⟩)
attribute [simp] optK_some
theorem run_walk {E : Env} {f : Nat} {fn : Func} {c : Code} {args : List V} {H : Heap} {v : V} {H1 : Heap} (hok : E.ok f = true) (hf : E.P.funcs[f]? = some fn) (hb : fn.body = some c) (hlen : args.length ≤ fn.ntmps)
    (h : ∀ Q : Ex → T → Heap → Prop, (∀ e tm H', (∀ j, e ≠ .exit j) → optK (resT E.τ tm H' fn.results.toList) (fun ws => resV ws = v ∧ leave H H' ws = H1) → Q e tm H') → wpS E (run E) (strip E.τ fn.ntmps c) [] (argT args) H Q) : run E f args H = some (v, H1) :=
  Runs.eq (Runs.walk hok hf hb hlen h)
section
variable {τ : Tab} {t : Nat} {k : IntKind} {a b : Int}
@[simp] theorem bin_eql : binV τ .eql t (.w (.lf (.i k a))) (.w (.lf (.i k b))) = some (.w (.lf (.b (decide (a = b))))) := by simp [binV, binInt, cmpI]
@[simp] theorem bin_neq : binV τ .neq t (.w (.lf (.i k a))) (.w (.lf (.i k b))) = some (.w (.lf (.b (!decide (a = b))))) := by simp [binV, binInt, cmpI]
@[simp] theorem bin_lss : binV τ .lss t (.w (.lf (.i k a))) (.w (.lf (.i k b))) = some (.w (.lf (.b (decide (a < b))))) := by simp [binV, binInt, cmpI]
@[simp] theorem bin_leq : binV τ .leq t (.w (.lf (.i k a))) (.w (.lf (.i k b))) = some (.w (.lf (.b (decide (a ≤ b))))) := by simp [binV, binInt, cmpI]
@[simp] theorem bin_gtr : binV τ .gtr t (.w (.lf (.i k a))) (.w (.lf (.i k b))) = some (.w (.lf (.b (decide (b < a))))) := by simp [binV, binInt, cmpI]
@[simp] theorem bin_geq : binV τ .geq t (.w (.lf (.i k a))) (.w (.lf (.i k b))) = some (.w (.lf (.b (decide (b ≤ a))))) := by simp [binV, binInt, cmpI]
@[simp] theorem bin_add : binV τ .add t (.w (.lf (.i k a))) (.w (.lf (.i k b))) = some (.w (.lf (.i k (k.wrap (a + b))))) := by simp [binV, binInt, cmpI, arI]
@[simp] theorem bin_sub : binV τ .sub t (.w (.lf (.i k a))) (.w (.lf (.i k b))) = some (.w (.lf (.i k (k.wrap (a - b))))) := by simp [binV, binInt, cmpI, arI]
@[simp] theorem bin_mul : binV τ .mul t (.w (.lf (.i k a))) (.w (.lf (.i k b))) = some (.w (.lf (.i k (k.wrap (a * b))))) := by simp [binV, binInt, cmpI, arI]
@[simp] theorem bin_eqlB {ti : TI} (x y : Bool) (h : τ t = some ti) (hk : ti.kind = .bool) : binV τ .eql t (.w (.lf (.b x))) (.w (.lf (.b y))) = some (.w (.lf (.b (decide (x = y))))) := by simp [binV, binEq, h, hk]
@[simp] theorem bin_neqB {ti : TI} (x y : Bool) (h : τ t = some ti) (hk : ti.kind = .bool) : binV τ .neq t (.w (.lf (.b x))) (.w (.lf (.b y))) = some (.w (.lf (.b (!decide (x = y))))) := by simp [binV, binEq, h, hk]
@[simp] theorem bin_eqlS (x y : ByteArray) : binV τ .eql t (.w (.lf (.s x))) (.w (.lf (.s y))) = some (.w (.lf (.b (decide (x = y))))) := by simp [binV, binStr]
@[simp] theorem bin_neqS (x y : ByteArray) : binV τ .neq t (.w (.lf (.s x))) (.w (.lf (.s y))) = some (.w (.lf (.b (!decide (x = y))))) := by simp [binV, binStr]
@[simp] theorem bin_eqlA (x y : List Lf) : binV τ .eql t (.w (.agg x)) (.w (.agg y)) = (binEq τ t (.agg x) (.agg y)).map V.bool := rfl
@[simp] theorem bin_neqA (x y : List Lf) : binV τ .neq t (.w (.agg x)) (.w (.agg y)) = (binEq τ t (.agg x) (.agg y)).map fun z => V.bool (!z) := rfl
@[simp] theorem un_not (x : Bool) : unV .not (.w (.lf (.b x))) = some (.w (.lf (.b (!x)))) := rfl
@[simp] theorem un_neg : unV .neg (.w (.lf (.i k a))) = some (.w (.lf (.i k (k.wrap (0 - a))))) := rfl
@[simp] theorem cells_lf (l : Lf) : V.cells (.w (.lf l)) = some [l] := rfl
@[simp] theorem cells_agg (l : List Lf) : V.cells (.w (.agg l)) = some l := rfl
@[simp] theorem mkV_agg (l : List Lf) : mkV true l = some (.w (.agg l)) := rfl
@[simp] theorem mkV_lf (l : Lf) : mkV false [l] = some (.w (.lf l)) := rfl
@[simp] theorem ext_at (ws : List W) (i : Nat) : extT (.tup ws) i = (ws[i]?).map .w := rfl
@[simp] theorem nil_ptr (q : Nat × Nat × Nat) : nilT (.w (.lf (.p (some q)))) = some (.w (.lf (.p (some q)))) := rfl
@[simp] theorem res_nil {tm : T} {H : Heap} : resT τ tm H [] = some [] := rfl
@[simp] theorem res_tmp {tm : T} {H : Heap} (t : Nat) (rs : List ResultVar) : resT τ tm H (.tmp t :: rs) = match tm t, resT τ tm H rs with
    | .w x, some l => some (x :: l)
    | _, _ => none := rfl
def consR (o : Option V) (l : Option (List W)) : Option (List W) := match o, l with
  | some (.w x), some l => some (x :: l)
  | _, _ => none
@[simp] theorem consR_some (x : W) (l : List W) : consR (some (.w x)) (some l) = some (x :: l) := rfl
@[simp] theorem res_cell {tm : T} {H : Heap} (a t : Nat) (rs : List ResultVar) : resT τ tm H (.cell a t :: rs) = consR (loadT τ t H (tm a)) (resT τ tm H rs) := by
  have h0 : resT τ tm H (.cell a t :: rs) = match τ t, tm a, resT τ tm H rs with
    | some ti, .w (.lf (.p (some (id, r, k)))), some l => match loadV ti H id r k with
      | some (.w x) => some (x :: l)
      | _ => none
    | _, _, _ => none := rfl
  rw [h0]
  unfold loadT consR
  cases τ t with
  | none => rfl
  | some ti =>
    cases tm a with
    | w x => cases x with
      | lf l => cases l with
        | p q => cases q with
          | none => rfl
          | some q =>
            obtain ⟨id, r, k⟩ := q
            cases hr : resT τ tm H rs with
            | none =>
              simp only
              split
              · rename_i h1 h2; cases h2
              · rfl
            | some l =>
              simp only
              cases loadV ti H id r k with
              | none => rfl
              | some v => cases v <;> rfl
        | _ => rfl
      | agg _ => rfl
    | _ => rfl
@[simp] theorem resV_one (x : W) : resV [x] = .w x := rfl
@[simp] theorem resV_none : resV [] = .tup [] := rfl
@[simp] theorem resV_more (x y : W) (l : List W) : resV (x :: y :: l) = .tup (x :: y :: l) := rfl
@[simp] theorem free_lf (l : Lf) : W.free (.lf l) = refFree l := rfl
@[simp] theorem free_agg (l : List Lf) : W.free (.agg l) = l.all refFree := rfl
@[simp] theorem free_b (x : Bool) : refFree (.b x) = true := rfl
@[simp] theorem free_i (n : Int) : refFree (.i k n) = true := rfl
@[simp] theorem free_s (x : ByteArray) : refFree (.s x) = true := rfl
@[simp] theorem free_nil : refFree (.sl none 0) = true := rfl
end
@[simp] theorem leave_same (H : Heap) (ws : List W) : leave H H ws = H := by simp [leave]
theorem leave_keep (H G : Heap) (ws : List W) : ∃ G', leave H (H ++ G) ws = H ++ G' := by
  unfold leave
  split
  · exact ⟨[], by simp⟩
  · exact ⟨G, rfl⟩
/-! ### Memory -/
@[simp] theorem leave_free (H G : Heap) (ws : List W) (h : ws.all W.free = true) : leave H (H ++ G) ws = H := by simp [leave, h]
@[simp] theorem blkAt_app0 (H G : Heap) : blkAt (H ++ G) H.length = blkAt G 0 := by unfold blkAt; rw [List.getElem?_append_right (Nat.le_refl _), Nat.sub_self]
@[simp] theorem blkAt_appk (H G : Heap) (k : Nat) : blkAt (H ++ G) (H.length + k) = blkAt G k := by unfold blkAt; rw [List.getElem?_append_right (Nat.le_add_right _ _), Nat.add_sub_cancel_left]
@[simp] theorem blkAt_cons0 (b : Blk) (G : Heap) : blkAt (some b :: G) 0 = some b := rfl
@[simp] theorem blkAt_consk (x : Option Blk) (G : Heap) (k : Nat) : blkAt (x :: G) (k + 1) = blkAt G k := by simp [blkAt]
theorem blkAt_len {H : Heap} {id : Nat} {b : Blk} (h : blkAt H id = some b) : id < H.length := by
  unfold blkAt at h
  split at h
  · rename_i hb; exact (List.getElem?_eq_some_iff.1 hb).1
  · cases h
@[simp] theorem blkAt_lt {H : Heap} {id : Nat} (h : id < H.length) (G : Heap) : blkAt (H ++ G) id = blkAt H id := by simp [blkAt, List.getElem?_append_left h]
theorem blkAt_app {H : Heap} {id : Nat} {b : Blk} (h : blkAt H id = some b) (G : Heap) : blkAt (H ++ G) id = some b := by rw [blkAt_lt (blkAt_len h), h]
@[simp] theorem set_app0 (H G : Heap) (y : Option Blk) : (H ++ G).set H.length y = H ++ G.set 0 y := by simp
@[simp] theorem set_appk (H G : Heap) (k : Nat) (y : Option Blk) : (H ++ G).set (H.length + k) y = H ++ G.set k y := by simp [List.set_append_right]
@[simp] theorem set_lt {H : Heap} {id : Nat} (h : id < H.length) (G : Heap) (y : Option Blk) : (H ++ G).set id y = H.set id y ++ G := by simp [List.set_append_left, h]
@[simp] theorem chkV_ptr (H : Heap) (id r k ty : Nat) : chkV H (.w (.lf (.p (some (id, r, k))))) ty = (match blkAt H id with | some b => b.elem == ty | none => false) := rfl
attribute [simp] binEq Lf.sh buildT placesT fillL fillT buildSliceT
attribute [simp] loadT storeT loadV storeV fieldAddrV boxT TI.agg putRow
end Go.Ab

/- The run at whatever depth; code with guards looked up and slots as a function. -/
import Derived.Test.YtdojljjiekgapaaGreatDoorAbWp
set_option linter.unusedVariables false
set_option linter.unusedSimpArgs false
namespace Go.Ab
section
variable {E : Env}
theorem runF_mono1 (d : Nat) : Evn (runF E d) (fun _ => runF E (d + 1)) := by
  induction d with
  | zero => intro f args H r h; rw [runF] at h; cases h
  | succ d ih =>
    intro f args H r h
    exact runF_evn_of ih f args H r (fun _ => runF E (d + 2)) (fun _ => by rw [runF]; rfl) h
theorem runF_mono {d d' : Nat} (hd : d ≤ d') {f : Nat} {args : List V} {H : Heap} {r : V × Heap} (h : runF E d f args H = some r) : runF E d' f args H = some r := by
  induction hd with
  | refl => exact h
  | step _ ih => obtain ⟨d0, h0⟩ := runF_mono1 _ _ _ _ _ ih; exact h0 d0 (Nat.le_refl _)
open Classical in
/-- The run, however deep the calls. -/
noncomputable def run (E : Env) : Fun := fun f args H => if h : ∃ r d, runF E d f args H = some r then some h.choose else none
theorem run_some {f : Nat} {args : List V} {H : Heap} {r : V × Heap} : run E f args H = some r ↔ ∃ d, runF E d f args H = some r := by
  unfold run
  constructor
  · intro h
    split at h
    · rename_i hx
      injection h with h
      subst h
      exact hx.choose_spec
    · cases h
  · rintro ⟨d, h⟩
    have hx : ∃ r d, runF E d f args H = some r := ⟨r, d, h⟩
    rw [dif_pos hx]
    obtain ⟨d', h'⟩ := hx.choose_spec
    have h1 := runF_mono (Nat.le_max_left d d') h
    have h2 := runF_mono (Nat.le_max_right d d') h'
    rw [h1] at h2
    exact h2.symm
theorem run_evn : Evn (run E) (runF E) := fun f args H r h => by
  obtain ⟨d, hd⟩ := run_some.1 h
  exact ⟨d, fun d' hd' => runF_mono hd' hd⟩
/-- A function that is told by contract. -/
theorem run_ext {f : Nat} {args : List V} {H : Heap} {r : V × Heap} (hok : E.ok f = false) (h : E.ext f args H = some r) : run E f args H = some r :=
  run_some.2 ⟨1, by rw [runF, if_pos hok, h]⟩
/-- A function whose result nobody may ask for. -/
theorem run_bad {f : Nat} {fn : Func} {c : Code} {args : List V} {H : Heap} (hok : E.ok f = true) (hf : E.P.funcs[f]? = some fn) (hb : fn.body = some c) {e : Ex} {s : St}
    (he : exec E (run E) c { tmps := args ++ List.replicate (fn.ntmps - args.length) .bad, heap := H } = some (e, s)) (hne : ∀ j, e ≠ .exit j) (hr : resW E.τ s fn.results.toList = none) (ht : tmpsB fn.results.toList = true) :
    run E f args H = some (.bad, s.heap) := by
  obtain ⟨d, hd⟩ := exec_evn run_evn c _ _ he
  refine run_some.2 ⟨d + 1, ?_⟩
  rw [runF, if_neg (by simp [hok]), hf]
  simp only [hb]
  rw [hd d (Nat.le_refl _)]
  cases e with
  | exit j => exact absurd rfl (hne j)
  | normal => simp only [hr, ht, if_true]
  | ret => simp only [hr, ht, if_true]
/-- A function's run out of its body's. -/
theorem run_body {f : Nat} {fn : Func} {c : Code} {args : List V} {H : Heap} (hok : E.ok f = true) (hf : E.P.funcs[f]? = some fn) (hb : fn.body = some c) {e : Ex} {s : St} {ws : List W}
    (he : exec E (run E) c { tmps := args ++ List.replicate (fn.ntmps - args.length) .bad, heap := H } = some (e, s)) (hne : ∀ j, e ≠ .exit j) (hr : resW E.τ s fn.results.toList = some ws) :
    run E f args H = some (resV ws, leave H s.heap ws) := by
  obtain ⟨d, hd⟩ := exec_evn run_evn c _ _ he
  refine run_some.2 ⟨d + 1, ?_⟩
  rw [runF, if_neg (by simp [hok]), hf]
  simp only [hb]
  rw [hd d (Nat.le_refl _)]
  cases e with
  | exit j => exact absurd rfl (hne j)
  | normal => simp only [hr]
  | ret => simp only [hr]
end

/-! ### Slots as a function -/
abbrev T := Nat → V
def evT (g : T) : Operand → V
  | .tmp t => g t
  | .const v => ofVal v
  | .func f => .w (.lf (.fn f [] []))
  | .global _ => .bad
def upd1 (g : T) (d : Nat) (v : V) : T := fun i => if i = d then v else g i
def updT (g : T) (d : Option Nat) (v : V) : T := match d with | some d => upd1 g d v | none => g
def placesT (g : Operand → V) (offs : List (Nat × Nat)) : List (Nat × Operand) → Option (List (Nat × Nat × List Lf))
  | [] => some []
  | (i, x) :: rest => match offs[i]?, (g x).cells, placesT g offs rest with
    | some (o, z), some cs, some l => some ((o, z, cs) :: l)
    | _, _, _ => none
def buildT (τ : Tab) (g : Operand → V) (t : Nat) (parts : List (Nat × Operand)) : Option V :=
  match τ t with
  | some ti => match ti.kind with
    | .struct offs => match placesT g offs parts with
      | some l => (fillL ti.zero l).map .agg
      | none => none
    | .array n e => match τ e with
      | some te => match placesT g ((List.range n).map fun i => (i * te.size, te.size)) parts with
        | some l => (fillL ti.zero l).map .agg
        | none => none
      | none => none
    | _ => none
  | none => none
def fillT (g : Operand → V) (size : Nat) (rows : List (List Lf)) : List (Nat × Operand) → Option (List (List Lf))
  | [] => some rows
  | (i, x) :: rest => match (g x).cells with
    | some cs => if cs.length = size ∧ i < rows.length then fillT g size (rows.set i cs) rest else none
    | none => none
def buildSliceT (τ : Tab) (g : Operand → V) (H : Heap) (t len : Nat) (parts : List (Nat × Operand)) : Option (V × Heap) :=
  match τ t with
  | some ⟨_, _, .slice e, _, _⟩ => match τ e with
    | some te => if len * te.size ≤ 16777216 ∧ 0 < te.size then
        match fillT g te.size (List.replicate len te.zero) parts with
        | some rows => some (.sl H.length 0 len, H ++ [some ⟨e, .wr, rows⟩])
        | none => none
      else none
    | none => none
  | _ => none
def opT (E : Env) (call : Fun) (draw : Bool) (g : Operand → V) (H : Heap) (op : Op) : Option (V × Heap) :=
  match op with
  | .move x => some (g x, H)
  | .assign x => some (g x, H)
  | .pick c a b => match g c with
    | .w (.lf (.b true)) => some (g a, H)
    | .w (.lf (.b false)) => some (g b, H)
    | _ => none
  | .alloc t => match E.τ t with
    | some ti => some (.ptr H.length 0 0, H ++ [some ⟨t, .wr, [ti.zero]⟩])
    | none => none
  | .box t x => match E.τ t, (g x).cells with
    | some ti, some cs => if cs.length = ti.size then some (.ptr H.length 0 0, H ++ [some ⟨t, .wr, [cs]⟩]) else none
    | _, _ => none
  | .build t parts => (buildT E.τ g t parts.toList).map (·, H)
  | .buildSlice t len parts => buildSliceT E.τ g H t len parts.toList
  | .load t a => match E.τ t, g a with
    | some ti, .w (.lf (.p (some (id, r, k)))) => (loadV ti H id r k).map (·, H)
    | _, _ => none
  | .store t a x => match E.τ t, g a with
    | some ti, .w (.lf (.p (some (id, r, k)))) => (storeV ti H id r k (g x)).map (.tup [], ·)
    | _, _ => none
  | .nilCheck x => match g x with
    | .w (.lf (.p (some a))) => some (.w (.lf (.p (some a))), H)
    | _ => none
  | .binOp op t x y _ => (binV E.τ op t (g x) (g y)).map (·, H)
  | .unOp op _ x => (unV op (g x)).map (·, H)
  | .convert s d x => (convW E.τ draw H s d (g x)).map (·, H)
  | .makeFunc (.func f) first cap => match ptrs (first.toList.map g), ptrs (cap.toList.map g) with
    | some a, some b => some (.w (.lf (.fn f a b)), H)
    | _, _ => none
  | .makeSlice t x y => makeSliceV E.τ H t (g x) (g y)
  | .slice t x lo hi mx => sliceW E.τ draw H t (g x) (lo.map g) (hi.map g) (mx.map g)
  | .fieldAddr t x f => (fieldAddrV E.τ t (g x) f).map (·, H)
  | .indexAddr t x y => (indexAddrV E.τ H t (g x) (g y)).map (·, H)
  | .index t x y => (indexV E.τ t (g x) (g y)).map (·, H)
  | .field t x f => (fieldV E.P E.τ t (g x) f).map (·, H)
  | .extract x i => match g x with
    | .tup ws => match ws[i]? with
      | some x => some (.w x, H)
      | none => none
    | _ => none
  | .call { callee := .builtin b, args, argTypes } => builtinW E.τ draw H b argTypes.toList (args.toList.map g)
  | .call { callee := .value f, args, argTypes := _ } => guardCall E draw (g f) H (callV call H (g f) (args.toList.map g))
  | _ => none
theorem placesS_T (tm : List V) (offs : List (Nat × Nat)) : ∀ (l : List (Nat × Operand)), placesS tm offs l = placesT (ev tm) offs l
  | [] => rfl
  | (i, x) :: rest => by simp only [placesS, placesT, placesS_T tm offs rest]; rfl
theorem fillRows_T (tm : List V) (size : Nat) : ∀ (l : List (Nat × Operand)) (rows : List (List Lf)), fillRows tm size rows l = fillT (ev tm) size rows l
  | [], rows => rfl
  | (i, x) :: rest, rows => by
    simp only [fillRows, fillT]
    cases (ev tm x).cells with
    | none => rfl
    | some cs => simp only [fillRows_T tm size rest]
theorem opV_T (E : Env) (call : Fun) (draw : Bool) (tm : List V) (H : Heap) (o : Oper) : opV E call draw tm H o = opT E call draw (ev tm) H o.op := by
  unfold opV opT
  cases ho : o.op with
  | build t ps =>
    simp only [buildV, buildT, placesS_T]
    rfl
  | buildSlice t n ps =>
    simp only [buildSliceV, buildSliceR, buildSliceT, fillRows_T]
    cases E.τ t with
    | none => rfl
    | some ti =>
      obtain ⟨a, b, kd, z, q⟩ := ti
      cases kd with
      | slice e =>
        simp only
        cases E.τ e with
        | none => rfl
        | some te =>
          simp only
          split
          · cases fillT (ev tm) te.size (List.replicate n te.zero) ps.toList <;> rfl
          · rfl
      | _ => rfl
  | call c =>
    obtain ⟨callee, args, ts⟩ := c
    cases callee <;> rfl
  | makeFunc fn first cap => cases fn <;> rfl
  | _ => rfl
theorem opT_congr {E : Env} {call : Fun} {draw : Bool} {H : Heap} {g g' : Operand → V} (h : g = g') (op : Op) : opT E call draw g H op = opT E call draw g' H op := by rw [h]

inductive I2 where
  | op (c : Option (Operand × Nat)) (d : Option Nat) (o : Op)
  | gop (t : Nat) (want : Bool) (c : Option (Operand × Nat)) (d : Option Nat) (o : Op)
  | no (d : Option Nat)
  | bad
inductive C2 where
  | skip
  | region (draw : Bool) (is : List I2)
  | seq (a b : C2)
  | cond (c : Operand) (x y : C2)
  | block (id : Nat) (c : C2)
  | loop (c : C2)
  | exit (id : Nat)
  | ret
  | bad
def dstOk (n : Nat) : Option Nat → Bool
  | none => true
  | some d => decide (d < n)
def chkT : Option (List (Nat × Nat)) → Op → Option (Operand × Nat)
  | none, _ => none
  | some acc, op => tagOp acc op
def stripG (tg : Option (List (Nat × Nat))) (dst : Option Nat) (op : Op) : Option (Option Nat) → Bool → I2
  | some (some t), w => .gop t w (chkT tg op) dst op
  | _, _ => .no dst
def dstAt : List Oper → Nat → Option (Option Nat)
  | [], _ => none
  | o :: _, 0 => some o.dst
  | _ :: os, n + 1 => dstAt os n
def stripI (tg : Option (List (Nat × Nat))) (ops : List Oper) (n : Nat) : Oper → I2
  | ⟨dst, op, _, _, _, guard⟩ => if dstOk n dst = true then match guard with
    | none => .op (chkT tg op) dst op
    | some (j, w) => stripG tg dst op (dstAt ops j) w
    else .bad
def stripL (tg : Option (List (Nat × Nat))) (ops : List Oper) (n : Nat) : List Oper → List I2
  | [] => []
  | o :: os => stripI tg ops n o :: stripL tg ops n os
def tagsB (τ : Tab) (ops : List Oper) : Bool → Option (List (Nat × Nat))
  | true => some (tagsL τ ops [])
  | false => none
def strip (τ : Tab) (n : Nat) : Code → C2
  | .skip => .skip
  | .label _ => .skip
  | .region _ ops draw => .region draw (stripL (tagsB τ ops.toList draw) ops.toList n ops.toList)
  | .seq a b => .seq (strip τ n a) (strip τ n b)
  | .cond c x y => .cond c (strip τ n x) (strip τ n y)
  | .block id c => .block id (strip τ n c)
  | .loop c => .loop (strip τ n c)
  | .exit id => .exit id
  | .ret => .ret
  | _ => .bad
structure S2 where
  tm : T
  heap : Heap
def chkS (E : Env) (H : Heap) (tm : T) (o : Op) : Option (Operand × Nat) → Bool
  | none => true
  | some (a, ty) => chkV H (evT tm a) ty && difO E (evT tm) o
def stepI (E : Env) (call : Fun) (draw : Bool) (s : S2) : I2 → Option S2
  | .op c d o => if chkS E s.heap s.tm o c = true then match opT E call draw (evT s.tm) s.heap o with
      | some (v, H) => some ⟨updT s.tm d v, H⟩
      | none => none
    else none
  | .gop t w c d o => match s.tm t with
    | .w (.lf (.b x)) => if (x == w) = true then
        if chkS E s.heap s.tm o c = true then match opT E call draw (evT s.tm) s.heap o with
          | some (v, H) => some ⟨updT s.tm d v, H⟩
          | none => none
        else none
      else some ⟨updT s.tm d (.tup []), s.heap⟩
    | .bad => none
    | _ => some ⟨updT s.tm d (.tup []), s.heap⟩
  | .no d => some ⟨updT s.tm d (.tup []), s.heap⟩
  | .bad => none
def stepsI (E : Env) (call : Fun) (draw : Bool) : List I2 → S2 → Option S2
  | [], s => some s
  | i :: is, s => match stepI E call draw s i with
    | some s' => stepsI E call draw is s'
    | none => none
def iter2 (g : S2 → Option (Ex × S2)) : Nat → S2 → Option (Ex × S2)
  | 0, _ => none
  | k + 1, s => match g s with
    | some (.normal, s') => iter2 g k s'
    | r => r
def exec2 (E : Env) (call : Fun) : C2 → S2 → Option (Ex × S2)
  | .skip, s => some (.normal, s)
  | .region draw is, s => (stepsI E call draw is s).map (.normal, ·)
  | .seq a b, s => match exec2 E call a s with
    | some (.normal, s') => exec2 E call b s'
    | r => r
  | .cond c x y, s => match evT s.tm c with
    | .w (.lf (.b true)) => exec2 E call x s
    | .w (.lf (.b false)) => exec2 E call y s
    | _ => none
  | .block id c, s => match exec2 E call c s with
    | some (.exit j, s') => if j = id then some (.normal, s') else some (.exit j, s')
    | r => r
  | .loop c, s => iter2 (exec2 E call c) E.K s
  | .exit id, s => some (.exit id, s)
  | .ret, s => some (.ret, s)
  | .bad, _ => none
def Rl (n : Nat) (s : St) (s2 : S2) : Prop := s.heap = s2.heap ∧ s.tmps.length = n ∧ ∀ t, s.tmps.getD t .bad = s2.tm t
section
variable {E : Env} {call : Fun} {n : Nat}
theorem Rl.ev {s : St} {s2 : S2} (h : Rl n s s2) : ev s.tmps = evT s2.tm := by
  funext x
  cases x with
  | tmp t => exact h.2.2 t
  | _ => rfl
theorem Rl.put {s : St} {s2 : S2} (h : Rl n s s2) {d : Option Nat} (hd : dstOk n d = true) (v : V) (H : Heap) : Rl n ⟨putT s.tmps d v, H⟩ ⟨updT s2.tm d v, H⟩ := by
  refine ⟨rfl, ?_, ?_⟩
  · cases d <;> simp [putT, h.2.1]
  · intro t
    cases d with
    | none => exact h.2.2 t
    | some d =>
      simp only [dstOk, decide_eq_true_eq] at hd
      have := h.2.2 t
      simp only [putT, updT, upd1]
      by_cases he : t = d
      · subst he
        have : t < s.tmps.length := by rw [h.2.1]; exact hd
        simp [List.getD, List.getElem?_set, this]
      · rw [if_neg he, ← this]
        simp [List.getD, List.getElem?_set, Ne.symm he]
theorem dstAt_eq : ∀ (l : List Oper) (j : Nat), dstAt l j = (l[j]?).map (·.dst)
  | [], j => by simp [dstAt]
  | o :: os, 0 => by simp [dstAt]
  | o :: os, j + 1 => by simp [dstAt, dstAt_eq os j]
theorem stepI_sound {draw : Bool} {ops : Array Oper} {o : Oper} {s : St} {s2 s2' : S2} (hr : Rl n s s2) (h : stepI E call draw s2 (stripI (tagsB E.τ ops.toList draw) ops.toList n o) = some s2') :
    ∃ s', stepV E call draw ops s o = some s' ∧ Rl n s' s2' := by
  obtain ⟨dst, op, ty, pos, af, guard⟩ := o
  simp only [stripI] at h
  split at h
  · rename_i hd
    have hck : chkS E s2.heap s2.tm op (chkT (tagsB E.τ ops.toList draw) op) = true → ¬ (draw = true ∧ chkO E ops s.tmps s.heap ⟨dst, op, ty, pos, af, guard⟩ = false) := by
      rintro hc ⟨rfl, hn⟩
      simp only [tagsB, chkT] at hc
      unfold chkO at hn
      simp only at hn
      cases htg : tagOp (tagsL E.τ ops.toList []) op with
      | none => rw [htg, difO_none htg] at hn; cases hn
      | some q =>
        rw [htg] at hn hc
        simp only [chkS] at hc
        simp only at hn
        rw [hr.ev, hr.1, hc] at hn
        cases hn
    have doit : ∀ (h' : (if chkS E s2.heap s2.tm op (chkT (tagsB E.τ ops.toList draw) op) = true then match opT E call draw (evT s2.tm) s2.heap op with
        | some (v, H) => some (⟨updT s2.tm dst v, H⟩ : S2)
        | none => none
        else none) = some s2'), ∃ s', (if draw = true ∧ chkO E ops s.tmps s.heap ⟨dst, op, ty, pos, af, guard⟩ = false then none else match opV E call draw s.tmps s.heap ⟨dst, op, ty, pos, af, guard⟩ with
        | some (v, H) => some ({ tmps := putT s.tmps dst v, heap := H } : St)
        | none => none) = some s' ∧ Rl n s' s2' := by
      intro h'
      split at h'
      · rename_i hc
        rw [if_neg (hck hc)]
        rw [opV_T, hr.ev, hr.1]
        split at h'
        · rename_i v H ho
          injection h' with h'
          subst h'
          rw [ho]
          exact ⟨_, rfl, hr.put hd v H⟩
        · cases h'
      · cases h'
    have skip : some (⟨updT s2.tm dst (.tup []), s2.heap⟩ : S2) = some s2' → ∃ s', some ({ s with tmps := putT s.tmps dst (.tup []) } : St) = some s' ∧ Rl n s' s2' := by
      intro h'
      injection h' with h'
      subst h'
      refine ⟨_, rfl, ?_⟩
      have := hr.put hd (.tup []) s.heap
      rw [hr.1] at this
      rw [← hr.1] at this ⊢
      exact this
    cases guard with
    | none =>
      simp only [stepI] at h
      simp only [stepV, wantV, if_true]
      exact doit h
    | some jw =>
      obtain ⟨j, w⟩ := jw
      simp only [dstAt_eq] at h
      simp only [stepV, wantV]
      have hops : (ops[j]?).bind (·.dst) = (ops.toList[j]?).bind (·.dst) := by simp
      rw [hops]
      cases hj : ops.toList[j]? with
      | none =>
        rw [hj] at h
        simp only [Option.map_none, stripG, stepI] at h
        simp only [Option.bind_none, if_false, Bool.false_eq_true]
        exact skip h
      | some oj =>
        rw [hj] at h
        simp only [Option.map_some] at h
        simp only [Option.bind_some]
        cases hdj : oj.dst with
        | none =>
          rw [hdj] at h
          simp only [stripG, stepI] at h
          simp only [if_false, Bool.false_eq_true]
          exact skip h
        | some t =>
          rw [hdj] at h
          simp only [stripG, stepI] at h
          simp only
          rw [hr.2.2 t]
          split at h
          · rename_i x hx
            rw [hx]
            split at h
            · rename_i hxw
              simp only [hxw, if_true]
              exact doit h
            · rename_i hxw
              simp only [hxw, if_false, Bool.false_eq_true]
              exact skip h
          · cases h
          · rename_i hne1 hne2
            cases ht : s2.tm t with
            | bad => exact absurd ht hne2
            | tup ws => simp only [if_false, Bool.false_eq_true]; exact skip h
            | w x =>
              cases x with
              | agg cs => simp only [if_false, Bool.false_eq_true]; exact skip h
              | lf l =>
                cases l <;> first | (exact absurd ht (hne1 _)) | (simp only [if_false, Bool.false_eq_true]; exact skip h)
  · simp [stepI] at h
theorem stepsI_sound {draw : Bool} {ops : Array Oper} : ∀ (l : List Oper) (s : St) (s2 s2' : S2), Rl n s s2 → stepsI E call draw (stripL (tagsB E.τ ops.toList draw) ops.toList n l) s2 = some s2' →
    ∃ s', opsV E call draw ops l s = some s' ∧ Rl n s' s2'
  | [], s, s2, s2', hr, h => by
    simp only [stripL, stepsI, Option.some.injEq] at h
    subst h
    exact ⟨s, rfl, hr⟩
  | o :: l, s, s2, s2', hr, h => by
    simp only [stripL, stepsI] at h
    split at h
    · rename_i s1 h1
      obtain ⟨s1', h1', hr1⟩ := stepI_sound hr h1
      obtain ⟨s', h', hr'⟩ := stepsI_sound l s1' s1 s2' hr1 h
      exact ⟨s', by simp only [opsV, h1']; exact h', hr'⟩
    · cases h
theorem exec2_sound : ∀ (c : Code) (s : St) (s2 s2' : S2) (e : Ex), Rl n s s2 → exec2 E call (strip E.τ n c) s2 = some (e, s2') → ∃ s', exec E call c s = some (e, s') ∧ Rl n s' s2'
  | .skip, s, s2, s2', e, hr, h => by
    simp only [strip, exec2, Option.some.injEq, Prod.mk.injEq] at h
    obtain ⟨rfl, rfl⟩ := h
    exact ⟨s, rfl, hr⟩
  | .label _, s, s2, s2', e, hr, h => by
    simp only [strip, exec2, Option.some.injEq, Prod.mk.injEq] at h
    obtain ⟨rfl, rfl⟩ := h
    exact ⟨s, rfl, hr⟩
  | .region _ ops draw, s, s2, s2', e, hr, h => by
    simp only [strip, exec2, Option.map_eq_some_iff, Prod.mk.injEq] at h
    obtain ⟨s1, h1, rfl, rfl⟩ := h
    obtain ⟨s', h', hr'⟩ := stepsI_sound _ _ _ _ hr h1
    exact ⟨s', by simp only [exec, h', Option.map_some], hr'⟩
  | .seq a b, s, s2, s2', e, hr, h => by
    simp only [strip, exec2] at h
    cases ha : exec2 E call (strip E.τ n a) s2 with
    | none => rw [ha] at h; cases h
    | some q =>
      obtain ⟨e1, s1⟩ := q
      rw [ha] at h
      obtain ⟨s1', h1', hr1⟩ := exec2_sound a s s2 s1 e1 hr ha
      cases e1 with
      | normal =>
        obtain ⟨s', h', hr'⟩ := exec2_sound b s1' s1 s2' e hr1 h
        exact ⟨s', by simp only [exec, h1']; exact h', hr'⟩
      | exit id =>
        simp only [Option.some.injEq, Prod.mk.injEq] at h
        obtain ⟨rfl, rfl⟩ := h
        exact ⟨s1', by simp only [exec, h1'], hr1⟩
      | ret =>
        simp only [Option.some.injEq, Prod.mk.injEq] at h
        obtain ⟨rfl, rfl⟩ := h
        exact ⟨s1', by simp only [exec, h1'], hr1⟩
  | .cond c x y, s, s2, s2', e, hr, h => by
    simp only [strip, exec2] at h
    split at h
    · rename_i hv
      obtain ⟨s', h', hr'⟩ := exec2_sound x s s2 s2' e hr h
      exact ⟨s', by simp only [exec]; rw [hr.ev, hv]; exact h', hr'⟩
    · rename_i hv
      obtain ⟨s', h', hr'⟩ := exec2_sound y s s2 s2' e hr h
      exact ⟨s', by simp only [exec]; rw [hr.ev, hv]; exact h', hr'⟩
    · cases h
  | .block id c, s, s2, s2', e, hr, h => by
    simp only [strip, exec2] at h
    cases ha : exec2 E call (strip E.τ n c) s2 with
    | none => rw [ha] at h; cases h
    | some q =>
      obtain ⟨e1, s1⟩ := q
      rw [ha] at h
      obtain ⟨s1', h1', hr1⟩ := exec2_sound c s s2 s1 e1 hr ha
      cases e1 with
      | exit j =>
        simp only at h
        split at h
        · rename_i hj
          simp only [Option.some.injEq, Prod.mk.injEq] at h
          obtain ⟨rfl, rfl⟩ := h
          exact ⟨s1', by simp only [exec, h1', hj, if_true], hr1⟩
        · rename_i hj
          simp only [Option.some.injEq, Prod.mk.injEq] at h
          obtain ⟨rfl, rfl⟩ := h
          exact ⟨s1', by simp only [exec, h1', hj, if_false], hr1⟩
      | normal =>
        simp only [Option.some.injEq, Prod.mk.injEq] at h
        obtain ⟨rfl, rfl⟩ := h
        exact ⟨s1', by simp only [exec, h1'], hr1⟩
      | ret =>
        simp only [Option.some.injEq, Prod.mk.injEq] at h
        obtain ⟨rfl, rfl⟩ := h
        exact ⟨s1', by simp only [exec, h1'], hr1⟩
  | .loop c, s, s2, s2', e, hr, h => by
    simp only [strip, exec2] at h
    simp only [exec]
    have key : ∀ (k : Nat) (s : St) (s2 : S2), Rl n s s2 → iter2 (exec2 E call (strip E.τ n c)) k s2 = some (e, s2') → ∃ s', iter (exec E call c) k s = some (e, s') ∧ Rl n s' s2' := by
      intro k
      induction k with
      | zero => intro s s2 _ h; simp [iter2] at h
      | succ k ih =>
        intro s s2 hr h
        simp only [iter2] at h
        cases ha : exec2 E call (strip E.τ n c) s2 with
        | none => rw [ha] at h; cases h
        | some q =>
          obtain ⟨e1, s1⟩ := q
          rw [ha] at h
          obtain ⟨s1', h1', hr1⟩ := exec2_sound c s s2 s1 e1 hr ha
          cases e1 with
          | normal =>
            obtain ⟨s', h', hr'⟩ := ih s1' s1 hr1 h
            exact ⟨s', by simp only [iter, h1']; exact h', hr'⟩
          | exit id =>
            simp only [Option.some.injEq, Prod.mk.injEq] at h
            obtain ⟨rfl, rfl⟩ := h
            exact ⟨s1', by simp only [iter, h1'], hr1⟩
          | ret =>
            simp only [Option.some.injEq, Prod.mk.injEq] at h
            obtain ⟨rfl, rfl⟩ := h
            exact ⟨s1', by simp only [iter, h1'], hr1⟩
    exact key _ _ _ hr h
  | .exit id, s, s2, s2', e, hr, h => by
    simp only [strip, exec2, Option.some.injEq, Prod.mk.injEq] at h
    obtain ⟨rfl, rfl⟩ := h
    exact ⟨s, rfl, hr⟩
  | .ret, s, s2, s2', e, hr, h => by
    simp only [strip, exec2, Option.some.injEq, Prod.mk.injEq] at h
    obtain ⟨rfl, rfl⟩ := h
    exact ⟨s, rfl, hr⟩
  | .rangeFunc _ _ _ _, s, s2, s2', e, hr, h => by simp [strip, exec2] at h
  | .scope _, s, s2, s2', e, hr, h => by simp [strip, exec2] at h
  | .goto _, s, s2, s2', e, hr, h => by simp [strip, exec2] at h
def resT (τ : Tab) (tm : T) (H : Heap) : List ResultVar → Option (List W)
  | [] => some []
  | .tmp t :: rs => match tm t, resT τ tm H rs with
    | .w x, some l => some (x :: l)
    | _, _ => none
  | .cell a t :: rs => match τ t, tm a, resT τ tm H rs with
    | some ti, .w (.lf (.p (some (id, r, k)))), some l => match loadV ti H id r k with
      | some (.w x) => some (x :: l)
      | _ => none
    | _, _, _ => none
theorem resT_eq {τ : Tab} {s : St} {s2 : S2} (hr : Rl n s s2) : ∀ (rs : List ResultVar), resW τ s rs = resT τ s2.tm s2.heap rs
  | [] => rfl
  | .tmp t :: rs => by simp only [resW, resT, resT_eq hr rs, hr.2.2 t]; rfl
  | .cell a t :: rs => by simp only [resW, resT, resT_eq hr rs, hr.2.2 a, hr.1]; rfl
def argT (args : List V) : T := fun i => args.getD i .bad
/-- A function's run, out of its body with guards looked up. -/
theorem run_strip {f : Nat} {fn : Func} {c : Code} {args : List V} {H : Heap} (hok : E.ok f = true) (hf : E.P.funcs[f]? = some fn) (hb : fn.body = some c) (hlen : args.length ≤ fn.ntmps) {e : Ex} {s : S2} {ws : List W}
    (he : exec2 E (run E) (strip E.τ fn.ntmps c) ⟨argT args, H⟩ = some (e, s)) (hne : ∀ j, e ≠ .exit j) (hr : resT E.τ s.tm s.heap fn.results.toList = some ws) :
    run E f args H = some (resV ws, leave H s.heap ws) := by
  obtain ⟨s', h', hr'⟩ := exec2_sound c { tmps := args ++ List.replicate (fn.ntmps - args.length) .bad, heap := H } _ _ _ (n := fn.ntmps) ⟨rfl, by simp; omega, fun t => by
    simp only [argT, List.getD]
    rcases Nat.lt_or_ge t args.length with hl | hl
    · rw [List.getElem?_append_left hl]
    · rw [List.getElem?_append_right hl, List.getElem?_replicate, List.getElem?_eq_none hl]
      split <;> rfl⟩ he
  have := run_body hok hf hb h' hne (ws := ws) (by rw [resT_eq hr']; exact hr)
  rw [hr'.1] at this
  exact this
theorem run_strip_bad {f : Nat} {fn : Func} {c : Code} {args : List V} {H : Heap} (hok : E.ok f = true) (hf : E.P.funcs[f]? = some fn) (hb : fn.body = some c) (hlen : args.length ≤ fn.ntmps) {e : Ex} {s : S2}
    (he : exec2 E (run E) (strip E.τ fn.ntmps c) ⟨argT args, H⟩ = some (e, s)) (hne : ∀ j, e ≠ .exit j) (hr : resT E.τ s.tm s.heap fn.results.toList = none) (ht : tmpsB fn.results.toList = true) :
    run E f args H = some (.bad, s.heap) := by
  obtain ⟨s', h', hr'⟩ := exec2_sound c { tmps := args ++ List.replicate (fn.ntmps - args.length) .bad, heap := H } _ _ _ (n := fn.ntmps) ⟨rfl, by simp; omega, fun t => by
    simp only [argT, List.getD]
    rcases Nat.lt_or_ge t args.length with hl | hl
    · rw [List.getElem?_append_left hl]
    · rw [List.getElem?_append_right hl, List.getElem?_replicate, List.getElem?_eq_none hl]
      split <;> rfl⟩ he
  have := run_bad hok hf hb h' hne (by rw [resT_eq hr']; exact hr) ht
  rw [hr'.1] at this
  exact this
end
end Go.Ab

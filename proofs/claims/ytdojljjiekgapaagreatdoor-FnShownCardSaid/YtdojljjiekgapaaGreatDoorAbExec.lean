/- Regions, code, functions: what the abstract run answers is what the machine answers. Regions that draw their order: AbDraw. -/
import Derived.Test.YtdojljjiekgapaaGreatDoorAbStep
set_option linter.unusedVariables false
set_option linter.unusedSimpArgs false
namespace Go.Ab

/-- What is called is told rightly. -/
def CallOk (P : Program) (call : Fun) : Prop := ∀ (f : Nat) (args : List V) (H : Heap) (v : V) (H' : Heap), call f args H = some (v, H') →
  (∃ fn c, P.funcs[f]? = some fn ∧ fn.body = some c ∧ (fn.name == "runtime.NumGoroutine") = false) ∧
  ∀ (μ : Mu) (w : World) (cargs : List Value), Rel P μ H w → TabR μ H w → All2 (VRel μ) args cargs →
    Calls P f cargs.toArray w fun e w' => ∃ cv μ', e = .returned cv ∧ VRel μ' v cv ∧ Stp P μ H w μ' H' w'
theorem run_callFunc {P : Program} {f : Nat} {fn : Func} {c : Code} (h1 : P.funcs[f]? = some fn) (h2 : fn.body = some c) (h3 : (fn.name == "runtime.NumGoroutine") = false) (args : Array Value) (w : World) :
    (callFunc f args).run P w = .ok (.enter f args) w := by
  simp [callFunc, h1, h2]
  simp at h3
  simp [h3]
section
variable {E : Env} {call : Fun} {draw : Bool} {ops : Array Oper} {μ : Mu} {w : World}
theorem ptrs_mono {l : List (Nat × Nat × Nat)} {vs : List Value} (h : All2 (PRel μ) l vs) : All2 (VRel μ) (l.map fun a => V.w (.lf (.p (some a)))) vs := ⟨by simpa using h.len, fun i a b ha hb => by
  rw [List.getElem?_map] at ha
  cases hx : l[i]? with
  | none => simp [hx] at ha
  | some x => simp [hx] at ha; subst ha; exact h.at_ i x b hx hb⟩
/-- The guard of an operation. -/
theorem want_sound {tm : List V} {a : Act} (ht : TRel μ tm a.tmps) {o : Oper} {q : Bool} (h : wantV ops tm o = some q) : Region.wanted o (yielded ops a.tmps) = q := by
  unfold wantV at h
  unfold Region.wanted
  split at h
  · rename_i hg; injection h with h; rw [hg]; exact h
  · rename_i j want hg
    rw [hg]
    simp only
    split at h
    · rename_i hd
      injection h with h
      unfold yielded
      rw [hd]
      simp [← h]
    · rename_i t hd
      have hv : VRel μ (tm.getD t .bad) (a.tmps.getD t undef) := ev_rel ht (.tmp t)
      unfold yielded
      rw [hd]
      simp only [Option.bind_some]
      have hget : a.tmps[t]? = none ∨ ∃ c, a.tmps[t]? = some c ∧ a.tmps.getD t undef = c := by
        cases hc : a.tmps[t]? with
        | none => exact .inl rfl
        | some c => exact .inr ⟨c, rfl, by simp [Array.getD_eq_getD_getElem?, hc]⟩
      have hnone : a.tmps[t]? = none → tm.getD t .bad = .bad := by
        intro hn
        rw [List.getD_eq_getElem?_getD]
        cases htm : tm[t]? with
        | none => rfl
        | some v => obtain ⟨cv, hcv, _⟩ := ht.get htm; rw [Array.getElem?_toList, hn] at hcv; cases hcv
      split at h
      · rename_i x hx
        injection h with h
        rw [hx] at hv
        rcases hget with hn | ⟨c, hc, hcv⟩
        · rw [hnone hn] at hx; cases hx
        · rw [hcv] at hv
          have : c = .bool x := hv
          subst this
          rw [hc]; simp [← h]
      · rename_i y hne hx
        injection h with h
        rw [hx] at hv
        rcases hget with hn | ⟨c, hc, hcv⟩
        · rw [hnone hn] at hx; cases hx
        · rw [hcv] at hv
          rw [hc]
          have hnb : ∀ z, c ≠ .bool z := by
            intro z hz
            subst hz
            cases y with
            | lf l =>
              cases l with
              | b x => exact hne x rfl
              | p a => cases a with
                | none => cases hv
                | some a => obtain ⟨L, _, hh⟩ := hv; cases hh
              | sl a n =>
                rcases a with _ | ⟨id, r⟩
                · obtain ⟨_, hh⟩ := hv; cases hh
                · obtain ⟨L, ad, cap, _, hh, _⟩ := hv; cases hh
              | fn f x y => obtain ⟨_, _, hh, _⟩ := hv; cases hh
              | _ => cases hv
            | agg cs => obtain ⟨vs, hh, _⟩ := hv; cases hh
          cases c <;> first
            | (simp [← h]; done)
            | exact absurd rfl (hnb _)
      · rename_i ws hx
        injection h with h
        rw [hx] at hv
        rcases hget with hn | ⟨c, hc, hcv⟩
        · rw [hnone hn] at hx; cases hx
        · rw [hcv] at hv
          obtain ⟨vs, rfl, _⟩ := hv
          rw [hc]; simp [← h]
      · cases h
/-- The call's arguments. -/
theorem callV_sound (hcall : CallOk E.P call) {H : Heap} (hR : Rel E.P μ H w) (hTb : TabR μ H w) {tm : List V} {a : Act} (ht : TRel μ tm a.tmps) {o : Oper} {f : Operand} {args : Array Operand} {ts : Array TypeId} (ho : o.op = .call ⟨.value f, args, ts⟩) {v : V} {H' : Heap}
    (h : callV call H (ev tm f) (args.toList.map (ev tm)) = some (v, H')) :
    ∃ g cargs, (execOp a.eval o).run E.P w = .ok (.enter g cargs) w ∧ Calls E.P g cargs w fun e w' => ∃ cv μ', e = .returned cv ∧ VRel μ' v cv ∧ Stp E.P μ H w μ' H' w' := by
  have hf := ev_rel ht f
  unfold callV at h
  split at h
  · rename_i g first cap hev
    rw [hev] at hf
    obtain ⟨fs, cs, hfv, hfirst, hcap⟩ := hf
    obtain ⟨⟨fn, c, h1, h2, h3⟩, hc⟩ := hcall _ _ _ _ _ h
    have hargs := ((ptrs_mono hfirst).append (evs_rel ht args)).append (ptrs_mono hcap)
    refine ⟨g, _, ?_, hc μ w _ hR hTb hargs⟩
    simp only [execOp, ho, resolve, Sem.run_bind, hfv, Deferred.ofValue, Sem.run_pure, Result.andThen_ok, invoke, run_callFunc h1 h2 h3]
    congr 2
    apply Array.ext'
    simp
  · cases h
theorem guardCall_some {f : V} {H : Heap} {r : Option (V × Heap)} {v : V} {H' : Heap} (h : guardCall E draw f H r = some (v, H')) : r = some (v, H') := by
  unfold guardCall at h
  split at h
  · exact h
  · split at h
    · split at h
      · exact h
      · cases h
    · cases h
theorem opV_call {tm : List V} {H : Heap} {o : Oper} {f : Operand} {args : Array Operand} {ts : Array TypeId} (ho : o.op = .call ⟨.value f, args, ts⟩) :
    opV E call draw tm H o = guardCall E draw (ev tm f) H (callV call H (ev tm f) (args.toList.map (ev tm))) := by
  unfold opV; rw [ho]
def isCall (o : Oper) : Bool := match o.op with | .call ⟨.value _, _, _⟩ => true | _ => false
theorem isCall_true {o : Oper} (h : isCall o = true) : ∃ f args ts, o.op = .call ⟨.value f, args, ts⟩ := by
  unfold isCall at h
  split at h
  · rename_i f args ts ho; exact ⟨f, args, ts, ho⟩
  · cases h
theorem isCall_false {o : Oper} (h : isCall o = false) : ∀ f args ts, o.op ≠ .call ⟨.value f, args, ts⟩ := by
  intro f args ts ho
  unfold isCall at h
  rw [ho] at h
  cases h
/-- An operation that is wanted, at 'Oper.wp'. -/
theorem opWp_sound (hτ : TabOk E.P E.τ) (hcall : CallOk E.P call) {H : Heap} (hR : Rel E.P μ H w) (hTb : TabR μ H w) {tm : List V} {a : Act} (ht : TRel μ tm a.tmps) {o : Oper} {v : V} {H' : Heap} (h : opV E call draw tm H o = some (v, H'))
    {K : Act → World → Prop} {Q : Exit → Act → World → Prop} (hK : ∀ cv w' μ', VRel μ' v cv → Stp E.P μ H w μ' H' w' → K (a.put o.dst cv) w') : o.wp E.P a w K Q := by
  unfold Oper.wp
  cases hc : isCall o with
  | false =>
    obtain ⟨nx, μ', w', hr, hy, hs⟩ := op_sound hτ hR ht (isCall_false hc) h
    rw [hr]
    rcases hy with ⟨cv, rfl, hv⟩ | ⟨rfl, rfl⟩
    · exact hK cv w' μ' hv hs
    · exact hK undef w' μ' ⟨[], rfl, All2.nil⟩ hs
  | true =>
    obtain ⟨f, args, ts, ho⟩ := isCall_true hc
    rw [opV_call ho] at h
    obtain ⟨g, cargs, hr, hcl⟩ := callV_sound hcall hR hTb ht ho (guardCall_some h)
    rw [hr, Oper.upon_enter]
    refine hcl.mono ?_
    rintro e w' ⟨cv, μ', rfl, hv, hs⟩
    exact hK cv w' μ' hv hs
theorem wpOps_step {K : Act → World → Prop} {Q : Exit → Act → World → Prop} {o : Oper} {a : Act} {i : Nat} {rest : List Nat} (ho : ops[i]? = some o)
    (h : if Region.wanted o (yielded ops a.tmps) = true then o.wp E.P a w (wpOps E.P ops Q rest) Q else wpOps E.P ops Q rest (a.put o.dst undef) w) : wpOps E.P ops Q (i :: rest) a w := by
  simp only [wpOps, ho]
  split
  · rename_i hw; rw [if_pos hw] at h; exact .inl h
  · rename_i hw; rw [if_neg hw] at h; exact h
/-- A region in the order of its text. -/
theorem ops_sound (hτ : TabOk E.P E.τ) (hcall : CallOk E.P call) {Q : Exit → Act → World → Prop} :
    ∀ (l : List Oper) (is : List Nat), All2 (fun o i => ops[i]? = some o) l is → ∀ (s s' : St) (μ : Mu) (a : Act) (w : World), opsV E call draw ops l s = some s' → Rel E.P μ s.heap w → TabR μ s.heap w → TRel μ s.tmps a.tmps →
      (∀ μ' a' w', TRel μ' s'.tmps a'.tmps → a'.defers = a.defers → Stp E.P μ s.heap w μ' s'.heap w' → Q .normal a' w') → wpOps E.P ops Q is a w
  | [], is, hl, s, s', μ, a, w, h, hR, hTb, ht, hQ => by
    rw [hl.nil_left]
    simp only [opsV, Option.some.injEq] at h
    subst h
    exact hQ μ a w ht rfl (Stp.refl hR)
  | o :: l, is, hl, s, s', μ, a, w, h, hR, hTb, ht, hQ => by
    obtain ⟨i, is', rfl, hi, hrest⟩ := hl.cons_left
    refine wpOps_step (K := fun _ _ => True) hi ?_
    unfold opsV at h
    split at h
    rotate_left
    · cases h
    rename_i s1 hs1
    unfold stepV at hs1
    split at hs1
    · cases hs1
    rename_i q hq
    rw [want_sound ht hq]
    split at hs1
    · rename_i hqt
      rw [if_pos hqt]
      split at hs1
      · cases hs1
      split at hs1
      · rename_i v H' hop
        injection hs1 with hs1
        subst hs1
        refine opWp_sound hτ hcall hR hTb ht hop fun cv w' μ' hv hs => ?_
        exact ops_sound hτ hcall l is' hrest _ s' μ' _ w' h hs.rel (hTb.step hs) (put_rel (ht.ext hs.ext) o.dst hv) fun μ2 a2 w2 ht2 hd2 hs2 => hQ μ2 a2 w2 ht2 (by rw [hd2]; cases o.dst <;> rfl) (hs.trans hs2)
      · cases hs1
    · rename_i hqf
      rw [if_neg hqf]
      injection hs1 with hs1
      subst hs1
      exact ops_sound hτ hcall l is' hrest _ s' μ _ w h hR hTb (put_rel ht o.dst (cv := undef) ⟨[], rfl, All2.nil⟩) fun μ2 a2 w2 ht2 hd2 hs2 => hQ μ2 a2 w2 ht2 (by rw [hd2]; cases o.dst <;> rfl) hs2
def Ex.to : Ex → Exit
  | .normal => .normal
  | .exit id => .exit id
  | .ret => .ret
/-- What holds behind code. -/
def Post (P : Program) (μ : Mu) (s : St) (w : World) (ds : List Deferred) (e : Ex) (s' : St) : Exit → Act → World → Prop :=
  fun ex a' w' => ex = e.to ∧ ∃ μ', TRel μ' s'.tmps a'.tmps ∧ a'.defers = ds ∧ Stp P μ s.heap w μ' s'.heap w'
/-- A region that draws its order does as told. -/
def DrawOk (E : Env) (call : Fun) (ops : Array Oper) : Prop := ∀ (id : Nat) (s s' : St) (μ : Mu) (a : Act) (w : World), opsV E call true ops ops.toList s = some s' → Rel E.P μ s.heap w → TabR μ s.heap w → TRel μ s.tmps a.tmps →
  (Code.region id ops true).wp E.P (Post E.P μ s w a.defers .normal s') a w
def codeDraws (D : Array Oper → Prop) : Code → Prop
  | .region _ ops true => D ops
  | .seq a b => codeDraws D a ∧ codeDraws D b
  | .cond _ a b => codeDraws D a ∧ codeDraws D b
  | .block _ c => codeDraws D c
  | .loop c => codeDraws D c
  | _ => True
theorem iter_sound {c : Code} (hc : ∀ (s : St) (e : Ex) (s' : St), exec E call c s = some (e, s') → ∀ (μ : Mu) (a : Act) (w : World), Rel E.P μ s.heap w → TabR μ s.heap w → TRel μ s.tmps a.tmps → c.wp E.P (Post E.P μ s w a.defers e s') a w) :
    ∀ (n : Nat) (s : St) (e : Ex) (s' : St), iter (exec E call c) n s = some (e, s') → ∀ (μ : Mu) (a : Act) (w : World), Rel E.P μ s.heap w → TabR μ s.heap w → TRel μ s.tmps a.tmps →
      ∀ (b : Frame) (k : List Item) (cs : List Frame), ∃ ex a' w', Post E.P μ s w a.defers e s' ex a' w' ∧ Arrives E.P (lone (b.at a (.code c :: .inLoop c :: k)) cs w) b k cs ex a' w'
  | 0, s, e, s', h => by cases h
  | n + 1, s, e, s', h => by
    intro μ a w hR hTb ht b k cs
    unfold iter at h
    split at h
    · rename_i s1 hs1
      obtain ⟨ex, a1, w1, ⟨rfl, μ1, ht1, hd1, hst1⟩, harr⟩ := hc s .normal s1 hs1 μ a w hR hTb ht b (.inLoop c :: k) cs
      obtain ⟨ex2, a2, w2, ⟨hex, μ2, ht2, hd2, hst2⟩, harr2⟩ := iter_sound hc n s1 e s' h μ1 a1 w1 hst1.rel (hTb.step hst1) ht1 b k cs
      exact ⟨ex2, a2, w2, ⟨hex, μ2, ht2, hd2.trans hd1, hst1.trans hst2⟩, .of_steps (Steps.trans harr (.one step_inLoop)) harr2⟩
    · rename_i hne
      cases hg : exec E call c s with
      | none => rw [hg] at h; cases h
      | some r =>
        obtain ⟨e1, s1⟩ := r
        rw [hg] at h
        injection h with h
        injection h with h1 h2
        subst h1 h2
        obtain ⟨ex, a1, w1, hp, harr⟩ := hc s e1 s1 hg μ a w hR hTb ht b (.inLoop c :: k) cs
        have hx := hp.1
        refine ⟨ex, a1, w1, hp, ?_⟩
        cases e1 with
        | normal => exact absurd hg (hne s1)
        | exit id => subst hx; exact .pass (x := .inLoop c) rfl (fun _ _ => .inl (by simp [Ex.to])) harr
        | ret => subst hx; exact .pass (x := .inLoop c) rfl (fun _ _ => .inl (by simp [Ex.to])) harr
theorem exec_sound (hτ : TabOk E.P E.τ) (hcall : CallOk E.P call) : ∀ (c : Code), codeDraws (DrawOk E call) c → ∀ (s : St) (e : Ex) (s' : St), exec E call c s = some (e, s') → ∀ (μ : Mu) (a : Act) (w : World), Rel E.P μ s.heap w → TabR μ s.heap w → TRel μ s.tmps a.tmps →
    c.wp E.P (Post E.P μ s w a.defers e s') a w := by
  intro c
  induction c with
  | skip =>
    intro _ s e s' h μ a w hR hTb ht
    simp only [exec, Option.some.injEq, Prod.mk.injEq] at h
    obtain ⟨rfl, rfl⟩ := h
    exact wp_skip ⟨rfl, μ, ht, rfl, Stp.refl hR⟩
  | label l =>
    intro _ s e s' h μ a w hR hTb ht
    simp only [exec, Option.some.injEq, Prod.mk.injEq] at h
    obtain ⟨rfl, rfl⟩ := h
    exact wp_label ⟨rfl, μ, ht, rfl, Stp.refl hR⟩
  | region id ops draw =>
    intro hd s e s' h μ a w hR hTb ht
    simp only [exec] at h
    cases ho : opsV E call draw ops ops.toList s with
    | none => simp [ho] at h
    | some s1 =>
      simp [ho] at h
      obtain ⟨rfl, rfl⟩ := h
      cases draw with
      | true => exact hd id s s1 μ a w ho hR hTb ht
      | false =>
        refine wp_region (ops_sound hτ hcall ops.toList (List.range ops.size) ⟨by simp, fun i o j ho hj => ?_⟩ s s1 μ a w ho hR hTb ht fun μ' a' w' ht' hd' hs' => ⟨rfl, μ', ht', hd', hs'⟩)
        have hlt : i < (List.range ops.size).length := (List.getElem?_eq_some_iff.1 hj).1
        simp at hlt
        simp [hlt] at hj
        subst hj
        rw [← Array.getElem?_toList]; exact ho
  | seq x y ihx ihy =>
    intro hd s e s' h μ a w hR hTb ht
    simp only [exec] at h
    split at h
    · rename_i s1 hs1
      refine wp_seq (wp_mono (ihx hd.1 s .normal s1 hs1 μ a w hR hTb ht) ?_)
      rintro ex a1 w1 ⟨rfl, μ1, ht1, hd1, hst1⟩
      refine wp_mono (ihy hd.2 s1 e s' h μ1 a1 w1 hst1.rel (hTb.step hst1) ht1) ?_
      rintro ex2 a2 w2 ⟨hex, μ2, ht2, hd2, hst2⟩
      exact ⟨hex, μ2, ht2, hd2.trans hd1, hst1.trans hst2⟩
    · rename_i hne
      cases hg : exec E call x s with
      | none => rw [hg] at h; cases h
      | some r =>
        obtain ⟨e1, s1⟩ := r
        rw [hg] at h
        injection h with h
        injection h with h1 h2
        subst h1 h2
        refine wp_seq (wp_mono (ihx hd.1 s e1 s1 hg μ a w hR hTb ht) ?_)
        rintro ex a1 w1 ⟨rfl, hp⟩
        cases e1 with
        | normal => exact absurd hg (hne s1)
        | exit id => exact ⟨rfl, hp⟩
        | ret => exact ⟨rfl, hp⟩
  | cond c x y ihx ihy =>
    intro hd s e s' h μ a w hR hTb ht
    simp only [exec] at h
    have hc := ev_rel ht c
    split at h
    · rename_i hev
      rw [hev] at hc
      exact wp_cond_true hc (ihx hd.1 s e s' h μ a w hR hTb ht)
    · rename_i hev
      rw [hev] at hc
      exact wp_cond_false hc (ihy hd.2 s e s' h μ a w hR hTb ht)
    · cases h
  | block id c ih =>
    intro hd s e s' h μ a w hR hTb ht
    simp only [exec] at h
    split at h
    · rename_i j s1 hs1
      refine wp_block (wp_mono (ih hd s _ s1 hs1 μ a w hR hTb ht) ?_)
      rintro ex a1 w1 ⟨rfl, hp⟩
      simp only [Ex.to, Exit.inBlock]
      split at h
      · rename_i hj
        injection h with h
        injection h with h1 h2
        subst h1 h2
        rw [if_pos hj]; exact ⟨rfl, hp⟩
      · rename_i hj
        injection h with h
        injection h with h1 h2
        subst h1 h2
        rw [if_neg hj]; exact ⟨rfl, hp⟩
    · rename_i hne
      cases hg : exec E call c s with
      | none => rw [hg] at h; cases h
      | some r =>
        obtain ⟨e1, s1⟩ := r
        rw [hg] at h
        injection h with h
        injection h with h1 h2
        subst h1 h2
        refine wp_block (wp_mono (ih hd s e1 s1 hg μ a w hR hTb ht) ?_)
        rintro ex a1 w1 ⟨rfl, hp⟩
        cases e1 with
        | normal => exact ⟨rfl, hp⟩
        | exit j => exact absurd hg (hne j s1)
        | ret => exact ⟨rfl, hp⟩
  | loop c ih =>
    intro hd s e s' h μ a w hR hTb ht b k cs
    simp only [exec] at h
    obtain ⟨ex, a', w', hp, harr⟩ := iter_sound (fun s e s' h μ a w hR hTb ht => ih hd s e s' h μ a w hR hTb ht) E.K s e s' h μ a w hR hTb ht b k cs
    exact ⟨ex, a', w', hp, .of_steps (.one step_loop) harr⟩
  | exit id =>
    intro _ s e s' h μ a w hR hTb ht
    simp only [exec, Option.some.injEq, Prod.mk.injEq] at h
    obtain ⟨rfl, rfl⟩ := h
    exact wp_exit ⟨rfl, μ, ht, rfl, Stp.refl hR⟩
  | ret =>
    intro _ s e s' h μ a w hR hTb ht
    simp only [exec, Option.some.injEq, Prod.mk.injEq] at h
    obtain ⟨rfl, rfl⟩ := h
    exact wp_ret ⟨rfl, μ, ht, rfl, Stp.refl hR⟩
  | rangeFunc f p x y => intro _ s e s' h; simp only [exec] at h; cases h
  | scope c => intro _ s e s' h; simp only [exec] at h; cases h
  | goto l => intro _ s e s' h; simp only [exec] at h; cases h
  | refuse w => intro _ s e s' h; simp only [exec] at h; cases h
end
end Go.Ab

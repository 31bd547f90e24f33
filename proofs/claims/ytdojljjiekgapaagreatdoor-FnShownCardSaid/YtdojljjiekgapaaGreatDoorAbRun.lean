/- Functions: what the abstract run of a function answers is what the machine answers. Conditions: the table of types is the program's; regions that draw their order are such as AbDraw takes. -/
import Derived.Test.YtdojljjiekgapaaGreatDoorAbExec
set_option linter.unusedVariables false
set_option linter.unusedSimpArgs false
namespace Go.Ab
variable {E : Env} {μ : Mu} {w : World}

theorem LRel.free {μ' : Mu} {l : Lf} {v : Value} (hf : refFree l = true) (h : LRel μ l v) : LRel μ' l v := by
  cases l with
  | p a => cases a with
    | none => exact h
    | some a => cases hf
  | sl a n =>
    rcases a with _ | ⟨id, r⟩
    · exact h
    · cases hf
  | fn f x y => cases hf
  | _ => exact h
theorem WRel.free {μ' : Mu} {x : W} {v : Value} (hf : x.free = true) (h : WRel μ x v) : WRel μ' x v := by
  cases x with
  | lf l => exact LRel.free hf h
  | agg cs =>
    obtain ⟨vs, rfl, hall⟩ := h
    refine ⟨vs, rfl, hall.len, fun i a b ha hb => LRel.free ?_ (hall.at_ i a b ha hb)⟩
    simp only [W.free, List.all_eq_true] at hf
    exact hf a (List.mem_of_getElem? ha)
theorem resV_rel {ws : List W} {vs : List Value} (h : All2 (WRel μ) ws vs) : VRel μ (resV ws) (if h : vs.toArray.size = 1 then vs.toArray[0] else .tuple vs.toArray) := by
  unfold resV
  split
  · rename_i x
    obtain ⟨c, cs, rfl, hc, hcs⟩ := h.cons_left
    rw [hcs.nil_left]
    exact hc
  · rename_i ws' hne
    have hlen : ¬ (vs.toArray.size = 1) := by
      intro h1
      have hl := h.len
      simp at h1
      rw [h1] at hl
      match ws, hl with
      | [x], _ => exact hne x rfl
    rw [dif_neg hlen]
    exact ⟨vs, rfl, h⟩
theorem Stp.gc {P : Program} {μ' : Mu} {H H' : Heap} {w' : World} (hR : Rel P μ H w) (h : Stp P μ H w μ' H' w') (hp : H'.take H.length = H) : Stp P μ H w μ H w' := by
  have hget : ∀ (id : Nat) (b : Blk), H[id]? = some (some b) → H'[id]? = some (some b) := by
    intro id b hb
    have hlt := (List.getElem?_eq_some_iff.1 hb).1
    rw [← hp, List.getElem?_take] at hb
    simpa [hlt] using hb
  refine ⟨Ext.refl _, fun _ _ hl => .inl hl, ⟨hR.dom, ?_, hR.inj⟩, Nat.le_refl _, h.size, h.keep, fun b ho _ => ho, (fun id L h1 h2 => by rw [h1] at h2; cases h2), (fun _ _ _ => rfl), (fun _ _ b _ h => ⟨b, h⟩), h.os, h.tape, h.output⟩
  intro id L b hl hb
  have hB := h.rel.blk id L b (h.ext id L hl) (hget id b hb)
  have hB0 := hR.blk id L b hl hb
  exact ⟨hB.elem, hB.md, hB.rows, hB.sz, hB.row, fun r row hr k l hk => by
    obtain ⟨v, hv, hrel⟩ := hB.cell r row hr k l hk
    obtain ⟨v0, _, hrel0⟩ := hB0.cell r row hr k l hk
    exact ⟨v, hv, LRel.back h.ext hrel0 hrel⟩, hB.z, hB.lt, hB.own, hB.whl⟩
/-- Slots alone can always be read. -/
def resF (tmps : Array Value) : ResultVar → Sem Value
  | .tmp t => pure (tmps.getD t undef)
  | .cell a t => do loadVar t (← asAddr (tmps.getD a undef))
theorem results_eq (fn : Func) (tmps : Array Value) : results fn tmps = (do let vs ← fn.results.mapM (resF tmps); pure (if h : vs.size = 1 then vs[0] else .tuple vs)) := by
  unfold results
  congr 1
theorem resW_sound (hτ : TabOk E.P E.τ) {s : St} {a : Act} (hR : Rel E.P μ s.heap w) (ht : TRel μ s.tmps a.tmps) : ∀ (rs : List ResultVar) (ws : List W), resW E.τ s rs = some ws →
    ∃ vs : List Value, (rs.mapM (resF a.tmps)).run E.P w = .ok vs w ∧ All2 (WRel μ) ws vs
  | [], ws, h => by
    simp [resW] at h; subst h
    exact ⟨[], by simp, All2.nil⟩
  | .tmp t :: rs, ws, h => by
    unfold resW at h
    split at h
    · rename_i x l hx hl
      injection h with h
      subst h
      obtain ⟨vs, hr, hall⟩ := resW_sound hτ hR ht rs l hl
      have hv : VRel μ (s.tmps.getD t .bad) (a.tmps.getD t undef) := ev_rel ht (.tmp t)
      rw [hx] at hv
      have h1 : (resF a.tmps (.tmp t)).run E.P w = .ok (a.tmps.getD t undef) w := rfl
      refine ⟨a.tmps.getD t undef :: vs, ?_, All2.cons hv hall⟩
      rw [List.mapM_cons, Sem.run_bind, h1]
      simp only [Result.andThen_ok, Sem.run_bind, hr, Sem.run_pure]
    · cases h
  | .cell x t :: rs, ws, h => by
    unfold resW at h
    split at h
    rotate_left
    · cases h
    rename_i ti id r k l hti hx hl
    split at h
    rotate_left
    · cases h
    rename_i y hy
    injection h with h
    subst h
    obtain ⟨vs, hr, hall⟩ := resW_sound hτ hR ht rs l hl
    have hv : VRel μ (s.tmps.getD x .bad) (a.tmps.getD x undef) := ev_rel ht (.tmp x)
    rw [hx] at hv
    obtain ⟨cv, hload, hrel⟩ := load_sound hτ hti hR hv hy
    obtain ⟨L, hL, hpv⟩ := hv
    have h1 : (resF a.tmps (.cell x t)).run E.P w = .ok cv w := by
      rw [hpv] at hload
      show (do loadVar t (← asAddr (a.tmps.getD x undef)) : Sem Value).run E.P w = _
      rw [hpv]
      exact hload
    refine ⟨cv :: vs, ?_, All2.cons hrel hall⟩
    rw [List.mapM_cons, Sem.run_bind, h1]
    simp only [Result.andThen_ok, Sem.run_bind, hr, Sem.run_pure]
theorem results_sound (hτ : TabOk E.P E.τ) {s : St} {a : Act} (hR : Rel E.P μ s.heap w) (ht : TRel μ s.tmps a.tmps) {fn : Func} {ws : List W} (h : resW E.τ s fn.results.toList = some ws) :
    ∃ cv, (results fn a.tmps).run E.P w = .ok cv w ∧ ∃ vs : List Value, cv = (if h : vs.toArray.size = 1 then vs.toArray[0] else .tuple vs.toArray) ∧ All2 (WRel μ) ws vs := by
  obtain ⟨vs, hr, hall⟩ := resW_sound hτ hR ht _ ws h
  refine ⟨_, ?_, vs, rfl, hall⟩
  rw [results_eq, Sem.run_bind, Array.mapM_eq_mapM_toList, Sem.run_map, hr]
  rfl
theorem results_tmps {P : Program} {fn : Func} {a : Act} (h : tmpsB fn.results.toList = true) : ∃ cv, (results fn a.tmps).run P w = .ok cv w := by
  have key : ∀ rs : List ResultVar, tmpsB rs = true → ∃ vs : List Value, (rs.mapM (resF a.tmps)).run P w = .ok vs w := by
    intro rs
    induction rs with
    | nil => intro _; exact ⟨[], by simp⟩
    | cons r rs ih =>
      intro h
      simp only [tmpsB, List.all_cons, Bool.and_eq_true] at h
      obtain ⟨vs, hr⟩ := ih h.2
      cases r with
      | cell x t => cases h.1
      | tmp t =>
        have h1 : (resF a.tmps (.tmp t)).run P w = .ok (a.tmps.getD t undef) w := rfl
        refine ⟨a.tmps.getD t undef :: vs, ?_⟩
        rw [List.mapM_cons, Sem.run_bind, h1]
        simp only [Result.andThen_ok, Sem.run_bind, hr, Sem.run_pure]
  obtain ⟨vs, hr⟩ := key _ h
  have hh : ∃ r, (results fn a.tmps).run P w = r ∧ ∃ cv, r = .ok cv w := by
    refine ⟨_, rfl, ?_⟩
    rw [results_eq, Sem.run_bind, Array.mapM_eq_mapM_toList, Sem.run_map, hr]
    exact ⟨_, rfl⟩
  obtain ⟨r, h1, cv, h2⟩ := hh
  exact ⟨cv, by rw [h1, h2]⟩
/-- What is told by contract is told rightly. -/
def ExtOk (E : Env) : Prop := ∀ (f : Nat) (args : List V) (H : Heap) (v : V) (H' : Heap), E.ok f = false → E.ext f args H = some (v, H') →
  (∃ fn c, E.P.funcs[f]? = some fn ∧ fn.body = some c ∧ (fn.name == "runtime.NumGoroutine") = false) ∧
  ∀ (μ : Mu) (w : World) (cargs : List Value), Rel E.P μ H w → TabR μ H w → All2 (VRel μ) args cargs →
    Calls E.P f cargs.toArray w fun e w' => ∃ cv μ', e = .returned cv ∧ VRel μ' v cv ∧ Stp E.P μ H w μ' H' w'
theorem ExtOk.none {E : Env} (h : E.ext = fun _ _ _ => none) : ExtOk E := fun f args H v _ _ he => by rw [h] at he; cases he
theorem runF_sound (hτ : TabOk E.P E.τ) (hx : ExtOk E) (hn : ∀ (f : Nat) (fn : Func), E.ok f = true → E.P.funcs[f]? = some fn → (fn.name == "runtime.NumGoroutine") = false)
    (hd : ∀ call, CallOk E.P call → ∀ (f : Nat) (fn : Func) (c : Code), E.ok f = true → E.P.funcs[f]? = some fn → fn.body = some c → codeDraws (DrawOk E call) c) : ∀ d, CallOk E.P (runF E d)
  | 0 => fun f args H v H' h => by simp [runF] at h
  | d + 1 => fun f args H v H' h => by
    have ih := runF_sound hτ hx hn hd d
    unfold runF at h
    split at h
    · rename_i hok
      exact hx f args H v H' hok h
    rename_i hok'
    have hok : E.ok f = true := by simpa using hok'
    split at h
    · cases h
    rename_i fn hf
    split at h
    · cases h
    rename_i c hc
    refine ⟨⟨fn, c, hf, hc, hn f fn hok hf⟩, ?_⟩
    intro μ w cargs hR hTb hargs
    split at h
    · cases h
    · rename_i e s hne hex
      refine calls_of_wp hf hc ?_
      have hlen : args.length = cargs.length := hargs.len
      have ht0 : TRel μ (args ++ List.replicate (fn.ntmps - args.length) V.bad) (cargs.toArray ++ Array.replicate (fn.ntmps - cargs.toArray.size) undef) := by
        show All2 (VRel μ) _ _
        rw [Array.toList_append, Array.toList_replicate]
        simp only [List.size_toArray, ← hlen]
        exact hargs.append (All2.replicate _ trivial)
      refine wp_mono (exec_sound hτ ih c (hd _ ih f fn c hok hf hc) { tmps := args ++ List.replicate (fn.ntmps - args.length) V.bad, heap := H } e s hex μ { tmps := cargs.toArray ++ Array.replicate (fn.ntmps - cargs.toArray.size) undef, defers := [] } w hR hTb ht0) ?_
      rintro ex a' w' ⟨rfl, μ', ht', hd', hst⟩
      have hst' : Stp E.P μ H w μ' s.heap w' := hst
      split at h
      · rename_i ws hws
        injection h with h
        injection h with h1 h2
        subst h1 h2
        obtain ⟨cv, hres, vs, hcv, hall⟩ := results_sound hτ hst'.rel ht' hws
        have hR' : ∃ μ'', VRel μ'' (resV ws) cv ∧ Stp E.P μ H w μ'' (leave H s.heap ws) w' := by
          unfold leave
          split
          · rename_i hg
            refine ⟨μ, ?_, hst'.gc hR hg.2⟩
            rw [hcv]
            refine resV_rel ⟨hall.len, fun i x v hx hv => WRel.free ?_ (hall.at_ i x v hx hv)⟩
            have := hg.1
            simp only [List.all_eq_true] at this
            exact this x (List.mem_of_getElem? hx)
          · exact ⟨μ', by rw [hcv]; exact resV_rel hall, hst'⟩
        obtain ⟨μ'', hv, hs⟩ := hR'
        cases e with
        | normal => exact ⟨hd', cv, hres, cv, μ'', rfl, hv, hs⟩
        | ret => exact ⟨hd', cv, hres, cv, μ'', rfl, hv, hs⟩
        | exit id => exact (hne id rfl).elim
      · split at h
        · rename_i hts
          injection h with h
          injection h with h1 h2
          subst h1 h2
          obtain ⟨cv, hres⟩ := results_tmps (P := E.P) (w := w') (fn := fn) (a := a') hts
          cases e with
          | normal => exact ⟨hd', cv, hres, cv, μ', rfl, trivial, hst'⟩
          | ret => exact ⟨hd', cv, hres, cv, μ', rfl, trivial, hst'⟩
          | exit id => exact (hne id rfl).elim
        · cases h
    · cases h
end Go.Ab

/- The abstract run in a form that is easy to walk through: slots as a function, guards looked up ahead, calls at whatever depth. -/
import Derived.Test.YtdojljjiekgapaaGreatDoorAbRow2
set_option linter.unusedVariables false
set_option linter.unusedSimpArgs false
namespace Go.Ab

/-! ### Calls at some depth -/
section
variable {E : Env}
def Evn (call : Fun) (F : Nat → Fun) : Prop := ∀ (f : Nat) (args : List V) (H : Heap) (r : V × Heap), call f args H = some r → ∃ d0, ∀ d, d0 ≤ d → F d f args H = some r
variable {call : Fun} {F : Nat → Fun}
theorem callV_evn (h : Evn call F) {H : Heap} {f : V} {args : List V} {r : V × Heap} (hc : callV call H f args = some r) : ∃ d0, ∀ d, d0 ≤ d → callV (F d) H f args = some r := by
  unfold callV at hc
  split at hc
  · obtain ⟨d0, hd⟩ := h _ _ _ _ hc
    exact ⟨d0, fun d hd' => by unfold callV; exact hd d hd'⟩
  · cases hc
theorem opV_evn (h : Evn call F) {draw : Bool} {tm : List V} {H : Heap} {o : Oper} {r : V × Heap} (hc : opV E call draw tm H o = some r) : ∃ d0, ∀ d, d0 ≤ d → opV E (F d) draw tm H o = some r := by
  unfold opV at hc
  cases ho : o.op with
  | call c =>
    obtain ⟨callee, args, ts⟩ := c
    cases callee with
    | value f =>
      simp only [ho] at hc
      cases hcv : callV call H (ev tm f) (args.toList.map (ev tm)) with
      | none =>
        rw [hcv] at hc
        unfold guardCall at hc
        split at hc
        · cases hc
        · split at hc
          · rename_i h1; cases h1
          · cases hc
      | some q =>
        obtain ⟨d0, hd⟩ := callV_evn h hcv
        exact ⟨d0, fun d hd' => by unfold opV; simp only [ho]; rw [hd d hd', ← hcv]; exact hc⟩
    | _ => simp only [ho] at hc; exact ⟨0, fun d _ => by unfold opV; simp only [ho]; exact hc⟩
  | makeFunc fn first cap => cases fn <;> (simp only [ho] at hc; exact ⟨0, fun d _ => by unfold opV; simp only [ho]; exact hc⟩)
  | _ => simp only [ho] at hc; exact ⟨0, fun d _ => by unfold opV; simp only [ho]; exact hc⟩
theorem opsV_evn (h : Evn call F) {draw : Bool} {ops : Array Oper} : ∀ (l : List Oper) (s s' : St), opsV E call draw ops l s = some s' → ∃ d0, ∀ d, d0 ≤ d → opsV E (F d) draw ops l s = some s'
  | [], s, s', hc => ⟨0, fun d _ => hc⟩
  | o :: l, s, s', hc => by
    simp only [opsV] at hc
    cases hs : stepV E call draw ops s o with
    | none => rw [hs] at hc; cases hc
    | some s1 =>
      rw [hs] at hc
      obtain ⟨d1, h1⟩ := opsV_evn h l s1 s' hc
      have : ∃ d0, ∀ d, d0 ≤ d → stepV E (F d) draw ops s o = some s1 := by
        unfold stepV at hs ⊢
        split at hs
        · cases hs
        · rename_i q hw
          split at hs
          · rename_i hq
            split at hs
            · cases hs
            rename_i hck
            split at hs
            · rename_i v H ho
              obtain ⟨d0, hd⟩ := opV_evn h ho
              exact ⟨d0, fun d hd' => by rw [if_pos hq, if_neg hck, hd d hd']; exact hs⟩
            · cases hs
          · rename_i hq
            exact ⟨0, fun d _ => by rw [if_neg hq]; exact hs⟩
      obtain ⟨d0, h0⟩ := this
      exact ⟨max d0 d1, fun d hd => by simp only [opsV]; rw [h0 d (by omega)]; exact h1 d (by omega)⟩
theorem iter_evn {g : St → Option (Ex × St)} {G : Nat → St → Option (Ex × St)} (hg : ∀ s r, g s = some r → ∃ d0, ∀ d, d0 ≤ d → G d s = some r) : ∀ (k : Nat) (s : St) (r : Ex × St), iter g k s = some r → ∃ d0, ∀ d, d0 ≤ d → iter (G d) k s = some r
  | 0, s, r, hc => by simp [iter] at hc
  | k + 1, s, r, hc => by
    simp only [iter] at hc
    cases hs : g s with
    | none => rw [hs] at hc; cases hc
    | some q =>
      obtain ⟨e, s1⟩ := q
      obtain ⟨d0, h0⟩ := hg s _ hs
      rw [hs] at hc
      cases e with
      | normal =>
        obtain ⟨d1, h1⟩ := iter_evn hg k s1 r hc
        exact ⟨max d0 d1, fun d hd => by simp only [iter]; rw [h0 d (by omega)]; exact h1 d (by omega)⟩
      | exit id => exact ⟨d0, fun d hd => by simp only [iter]; rw [h0 d hd]; exact hc⟩
      | ret => exact ⟨d0, fun d hd => by simp only [iter]; rw [h0 d hd]; exact hc⟩
theorem exec_evn (h : Evn call F) : ∀ (c : Code) (s : St) (r : Ex × St), exec E call c s = some r → ∃ d0, ∀ d, d0 ≤ d → exec E (F d) c s = some r
  | .skip, s, r, hc => ⟨0, fun d _ => by simpa [exec] using hc⟩
  | .label _, s, r, hc => ⟨0, fun d _ => by simpa [exec] using hc⟩
  | .region _ ops draw, s, r, hc => by
    simp only [exec, Option.map_eq_some_iff] at hc
    obtain ⟨s', hs, hr⟩ := hc
    obtain ⟨d0, h0⟩ := opsV_evn h _ _ _ hs
    exact ⟨d0, fun d hd => by simp only [exec, Option.map_eq_some_iff]; exact ⟨s', h0 d hd, hr⟩⟩
  | .seq a b, s, r, hc => by
    simp only [exec] at hc
    cases ha : exec E call a s with
    | none => rw [ha] at hc; cases hc
    | some q =>
      obtain ⟨e, s1⟩ := q
      obtain ⟨d0, h0⟩ := exec_evn h a s _ ha
      rw [ha] at hc
      cases e with
      | normal =>
        obtain ⟨d1, h1⟩ := exec_evn h b s1 r hc
        exact ⟨max d0 d1, fun d hd => by simp only [exec]; rw [h0 d (by omega)]; exact h1 d (by omega)⟩
      | exit id => exact ⟨d0, fun d hd => by simp only [exec]; rw [h0 d hd]; exact hc⟩
      | ret => exact ⟨d0, fun d hd => by simp only [exec]; rw [h0 d hd]; exact hc⟩
  | .cond c x y, s, r, hc => by
    simp only [exec] at hc
    split at hc
    · rename_i hv
      obtain ⟨d0, h0⟩ := exec_evn h x s r hc
      exact ⟨d0, fun d hd => by simp only [exec]; rw [hv]; exact h0 d hd⟩
    · rename_i hv
      obtain ⟨d0, h0⟩ := exec_evn h y s r hc
      exact ⟨d0, fun d hd => by simp only [exec]; rw [hv]; exact h0 d hd⟩
    · cases hc
  | .block id c, s, r, hc => by
    simp only [exec] at hc
    cases ha : exec E call c s with
    | none => rw [ha] at hc; cases hc
    | some q =>
      obtain ⟨d0, h0⟩ := exec_evn h c s _ ha
      rw [ha] at hc
      exact ⟨d0, fun d hd => by simp only [exec]; rw [h0 d hd]; exact hc⟩
  | .loop c, s, r, hc => by
    simp only [exec] at hc ⊢
    exact iter_evn (fun s r hr => exec_evn h c s r hr) _ _ _ hc
  | .exit id, s, r, hc => ⟨0, fun d _ => by simpa [exec] using hc⟩
  | .ret, s, r, hc => ⟨0, fun d _ => by simpa [exec] using hc⟩
  | .rangeFunc _ _ _ _, s, r, hc => by simp [exec] at hc
  | .scope _, s, r, hc => by simp [exec] at hc
  | .goto _, s, r, hc => by simp [exec] at hc
theorem runF_evn_of {d1 : Nat} {g : Nat → Fun} (hg : Evn (runF E d1) g) (f : Nat) (args : List V) (H : Heap) (r : V × Heap) (F' : Nat → Fun)
    (hF : ∀ d, F' d f args H = (if E.ok f = false then E.ext f args H else match E.P.funcs[f]? with
    | none => none
    | some fn => match fn.body with
      | none => none
      | some c => match exec E (g d) c { tmps := args ++ List.replicate (fn.ntmps - args.length) .bad, heap := H } with
        | some (.exit _, _) => none
        | some (_, s) => match resW E.τ s fn.results.toList with
          | some ws => some (resV ws, leave H s.heap ws)
          | none => if tmpsB fn.results.toList = true then some (.bad, s.heap) else none
        | none => none)) (h : runF E (d1 + 1) f args H = some r) : ∃ d0, ∀ d, d0 ≤ d → F' d f args H = some r := by
  rw [runF] at h
  split at h
  · rename_i hok
    exact ⟨0, fun d _ => by rw [hF, if_pos hok]; exact h⟩
  · rename_i hok
    split at h
    · cases h
    · rename_i fn hfn
      split at h
      · cases h
      · rename_i c hb
        cases he : exec E (runF E d1) c { tmps := args ++ List.replicate (fn.ntmps - args.length) .bad, heap := H } with
        | none => rw [he] at h; cases h
        | some q =>
          obtain ⟨d0, h0⟩ := exec_evn hg c _ _ he
          rw [he] at h
          exact ⟨d0, fun d hd => by rw [hF, if_neg hok, hfn]; simp only [hb]; rw [h0 d hd]; exact h⟩
end
end Go.Ab

/- Regions that draw their order: whatever order comes up, what the run in the text's order answers is what the machine answers. Conditions: what writes stands in a fixed order to all that reads or writes; no two operations fill one temporary; who reads a temporary stands in a fixed order to who fills it. -/
import Derived.Test.YtdojljjiekgapaaGreatDoorAbRun
set_option linter.unusedVariables false
set_option linter.unusedSimpArgs false
namespace Go.Ab

def tchO (o : Oper) : Bool := match o.op with
  | .load .. | .store .. | .indexAddr .. | .slice .. => true
  | .call ⟨.builtin .append, _, _⟩ | .call ⟨.builtin .clear, _, _⟩ | .call ⟨.value _, _, _⟩ => true
  | _ => false
def wrtO (E : Env) (o : Oper) : Bool := match o.op with
  | .store .. | .call ⟨.builtin .append, _, _⟩ | .call ⟨.builtin .clear, _, _⟩ => true
  | .call ⟨.value (.func g), _, _⟩ => E.wr g
  | .call ⟨.value _, _, _⟩ => true
  | _ => false
section
variable {E : Env} {call : Fun}
theorem wrt_tch {o : Oper} (h : wrtO E o = true) : tchO o = true := by
  unfold wrtO at h
  unfold tchO
  split at h <;> simp_all
/-- What touches no memory answers alike in any heap of that length. -/
theorem opV_pure {tm : List V} {H H2 H' : Heap} {o : Oper} {v : V} (ht : tchO o = false) (h : opV E call true tm H o = some (v, H')) (hl : H2.length = H.length) :
    ∃ D, H' = H ++ D ∧ opV E call true tm H2 o = some (v, H2 ++ D) := by
  have mapH : ∀ {x : Option V}, x.map (·, H) = some (v, H') → ∃ D, H' = H ++ D ∧ x.map (·, H2) = some (v, H2 ++ D) := by
    intro x hx
    cases x with
    | none => simp at hx
    | some y => simp at hx; exact ⟨[], by simp [hx.2], by simp [hx.1]⟩
  have same : ∀ {x : V}, some (x, H) = some (v, H') → ∃ D, H' = H ++ D ∧ some (x, H2) = some (v, H2 ++ D) := by
    intro x hx
    simp at hx; exact ⟨[], by simp [hx.2], by simp [hx.1]⟩
  have new : ∀ {x : Nat → V} {b : Blk}, some (x H.length, newBlk H b) = some (v, H') → ∃ D, H' = H ++ D ∧ some (x H2.length, newBlk H2 b) = some (v, H2 ++ D) := by
    intro x b hx
    simp at hx; exact ⟨[some b], by rw [← hx.2]; rfl, by rw [hl, hx.1]; rfl⟩
  unfold opV at h ⊢
  unfold tchO at ht
  cases ho : o.op <;> simp only [ho] at h ht ⊢ <;> first
    | exact same h
    | (simp only [convW_true] at h ⊢; exact mapH h)
    | exact mapH h
    | (cases ht; done)
    | (cases h; done)
    | skip
  case pick c x y =>
    split at h
    · exact same h
    · exact same h
    · cases h
  case alloc t =>
    split at h
    · exact new (x := fun n => .ptr n 0 0) h
    · cases h
  case box t x =>
    split at h
    · split at h
      · rename_i hc; rw [if_pos hc]; exact new (x := fun n => .ptr n 0 0) h
      · cases h
    · cases h
  case buildSlice t len parts =>
    unfold buildSliceV at h ⊢
    cases hB : buildSliceR E.τ tm t len parts.toList with
    | none => rw [hB] at h; cases h
    | some rr => rw [hB] at h; exact new (x := fun n => .sl n 0 len) h
  case nilCheck x =>
    split at h
    · exact same h
    · cases h
  case makeFunc fn first cap =>
    cases fn <;> simp only at h ⊢ <;> first
      | (cases h; done)
      | (split at h
         · exact same h
         · cases h)
  case makeSlice t x y =>
    unfold makeSliceV at h ⊢
    cases hB : makeSliceR E.τ t (ev tm x) (ev tm y) with
    | none => rw [hB] at h; cases h
    | some rr => rw [hB] at h; exact new (x := fun k => .sl k 0 rr.2.1) h
  case extract x i =>
    split at h
    · split at h
      · exact same h
      · cases h
    · cases h
  case call c =>
    obtain ⟨callee, args, ts⟩ := c
    cases callee with
    | value f => simp at ht
    | invoke r m => cases h
    | builtin b =>
      cases b <;> simp only at ht h ⊢ <;> first
        | (cases ht; done)
        | skip
      all_goals (simp only [builtinW_true, builtinV] at h ⊢; exact mapH h)
theorem opV_nonwr {tm : List V} {H H' : Heap} {o : Oper} {v : V} (hw : wrtO E o = false) (h : opV E call true tm H o = some (v, H')) : ∃ D, H' = H ++ D := by
  cases ht : tchO o with
  | false => obtain ⟨D, hD, _⟩ := opV_pure ht h rfl; exact ⟨D, hD⟩
  | true =>
    have mapH : ∀ {x : Option V}, x.map (·, H) = some (v, H') → ∃ D, H' = H ++ D := by
      intro x hx
      cases x with
      | none => simp at hx
      | some y => simp at hx; exact ⟨[], by simp [hx.2]⟩
    unfold opV at h
    unfold tchO at ht
    unfold wrtO at hw
    cases ho : o.op <;> simp only [ho] at h ht hw <;> first
      | (cases ht; done)
      | (cases hw; done)
      | exact mapH h
      | skip
    case load t x =>
      split at h
      · exact mapH h
      · cases h
    case slice t x lo hi mx =>
      unfold sliceW at h
      simp only [if_true] at h
      split at h
      rotate_left
      · cases h
      rename_i y hy
      injection h with h
      subst h
      unfold sliceV at hy
      repeat' split at hy
      all_goals first
        | (cases hy; done)
        | (simp only [Option.some.injEq, Prod.mk.injEq] at hy; obtain ⟨_, rfl⟩ := hy; first | exact ⟨[some _], rfl⟩ | exact ⟨[], by simp⟩)
    case call c =>
      obtain ⟨callee, args, ts⟩ := c
      cases callee with
      | invoke r m => cases h
      | builtin b => cases b <;> simp only at ht hw <;> first | (cases ht; done) | (cases hw; done)
      | value f =>
        simp only at h hw
        unfold guardCall at h
        simp only [Bool.true_eq_false, if_false] at h
        split at h
        · rename_i g first cap v' H2 hev hr
          split at h
          · rename_i hc
            injection h with h
            injection h with h1 h2
            subst h1 h2
            rcases hc with hc | hc
            · exfalso
              cases f with
              | func g' =>
                simp only [ev] at hev
                injection hev with hev
                injection hev with hev
                injection hev with hev
                simp only at hw
                rw [hev] at hw
                rw [hw] at hc
                simp at hc
              | tmp t => simp at hw
              | const c => simp at hw
              | global g => simp at hw
            · exact ⟨H2.drop H.length, (List.take_append_drop H.length H2).symm.trans (by rw [hc])⟩
          · cases h
        · cases h
theorem opV_len {tm : List V} {H H' : Heap} {o : Oper} {v : V} (h : opV E call true tm H o = some (v, H')) : H.length ≤ H'.length := by
  cases hw : wrtO E o with
  | false => obtain ⟨D, rfl⟩ := opV_nonwr hw h; simp
  | true =>
    unfold opV at h
    unfold wrtO at hw
    cases ho : o.op <;> simp only [ho] at h hw <;> first
      | (cases hw; done)
      | skip
    case store t x y =>
      split at h
      · rename_i ti id r k hti hev
        cases hs : storeV ti H id r k (ev tm y) with
        | none => simp [hs] at h
        | some H2 =>
          simp [hs] at h
          obtain ⟨_, rfl⟩ := h
          unfold storeV at hs
          repeat' split at hs
          all_goals first
            | (cases hs; done)
            | (injection hs with hs; subst hs; simp)
      · cases h
    case call c =>
      obtain ⟨callee, args, ts⟩ := c
      cases callee with
      | invoke r m => cases h
      | builtin b =>
        cases b <;> simp only at hw h <;> first
          | (cases hw; done)
          | skip
        case append =>
          simp only [builtinW_true, builtinV] at h
          unfold appendB at h
          repeat' split at h
          all_goals first
            | (cases h; done)
            | skip
          unfold appendV at h
          repeat' split at h
          all_goals first
            | (cases h; done)
            | (simp only [Option.some.injEq, Prod.mk.injEq] at h; obtain ⟨_, rfl⟩ := h; first | exact Nat.le_refl _ | (simp [newBlk]; done) | (simp [newBlk]; omega))
        case clear =>
          simp only [builtinW_true, builtinV] at h
          unfold clearB at h
          repeat' split at h
          all_goals first
            | (cases h; done)
            | skip
          obtain ⟨H2, hc, h2⟩ := Option.map_eq_some_iff.1 h
          simp only [Prod.mk.injEq] at h2
          obtain ⟨_, rfl⟩ := h2
          unfold clearV at hc
          repeat' split at hc
          all_goals first
            | (cases hc; done)
            | (injection hc with hc; subst hc; simp)
      | value f =>
        simp only at h
        unfold guardCall at h
        simp only [Bool.true_eq_false, if_false] at h
        split at h
        · split at h
          · rename_i hc
            injection h with h
            injection h with h1 h2
            subst h1 h2
            rcases hc with hc | hc
            · exact hc.2.1
            · have := congrArg List.length hc; simp at this; omega
          · cases h
        · cases h
/-- The operands alone count. -/
theorem cellsMap_congr {tm tm' : List V} {offs : List (Nat × Nat)} : ∀ (parts : List (Nat × Operand)), (∀ p ∈ parts, ev tm p.2 = ev tm' p.2) → placesS tm offs parts = placesS tm' offs parts
  | [], _ => rfl
  | (i, x) :: r, h => by
    unfold placesS
    rw [h (i, x) (by simp), cellsMap_congr r fun p hp => h p (by simp [hp])]
theorem fillRows_congr {tm tm' : List V} {sz : Nat} : ∀ (parts : List (Nat × Operand)) (rows : List (List Lf)), (∀ p ∈ parts, ev tm p.2 = ev tm' p.2) → fillRows tm sz rows parts = fillRows tm' sz rows parts
  | [], _, _ => rfl
  | (i, x) :: r, rows, h => by
    have hx : ev tm x = ev tm' x := h (i, x) (by simp)
    have ih := fun rows => fillRows_congr (tm := tm) (tm' := tm') (sz := sz) r rows fun p hp => h p (by simp [hp])
    simp only [fillRows, hx, ih]
theorem opV_congr {tm tm' : List V} {H : Heap} {draw : Bool} (o : Oper) (h : ∀ x ∈ o.op.operands, ev tm x = ev tm' x) : opV E call draw tm H o = opV E call draw tm' H o := by
  unfold opV
  have am : ∀ (xs : Array Operand), (∀ x ∈ xs, ev tm x = ev tm' x) → xs.toList.map (ev tm) = xs.toList.map (ev tm') := fun xs hx => List.map_congr_left fun x hm => hx x (by simpa using hm)
  have ao : ∀ (x : Option Operand), (∀ y, x = some y → ev tm y = ev tm' y) → optV tm x = optV tm' x := by
    intro x hx
    cases x with
    | none => rfl
    | some y => simp [optV, hx y rfl]
  cases ho : o.op <;> simp only [ho, Op.operands] at h ⊢
  case build t ps =>
    have hp : ∀ p ∈ ps.toList, ev tm p.2 = ev tm' p.2 := fun p hp => h p.2 (by simp; exact ⟨p.1, by simpa using hp⟩)
    simp only [buildV, cellsMap_congr ps.toList hp]
  case buildSlice t n ps =>
    have hp : ∀ p ∈ ps.toList, ev tm p.2 = ev tm' p.2 := fun p hp => h p.2 (by simp; exact ⟨p.1, by simpa using hp⟩)
    simp only [buildSliceV, buildSliceR, fillRows_congr ps.toList _ hp]
  case makeFunc fn first cap =>
    cases fn <;> simp only <;> first | rfl | rw [am first fun x hx => h x (by simp [hx]), am cap fun x hx => h x (by simp [hx])]
  case slice t x lo hi mx =>
    rw [h x (by simp), ao lo fun y hy => h y (by simp [hy]), ao hi fun y hy => h y (by simp [hy]), ao mx fun y hy => h y (by simp [hy])]
  case call c =>
    obtain ⟨callee, args, ts⟩ := c
    simp only [Call.operands] at h
    cases callee with
    | invoke r m => rfl
    | builtin b => simp only; rw [am args fun x hx => h x (by simp [hx])]
    | value f => simp only; rw [am args fun x hx => h x (by simp [hx]), h f (by simp)]
  all_goals (first | rfl | (simp_all; done))
end
end Go.Ab

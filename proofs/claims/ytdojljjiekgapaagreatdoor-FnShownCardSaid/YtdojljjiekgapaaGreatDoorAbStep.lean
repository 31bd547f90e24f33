/- One operation of a region, calls among them: given that what is called is told rightly. -/
import Derived.Test.YtdojljjiekgapaaGreatDoorAbOps4
set_option linter.unusedVariables false
set_option linter.unusedSimpArgs false
namespace Go.Ab
variable {P : Program} {τ : Tab} {μ : Mu} {H : Heap} {w : World}

abbrev TRel (μ : Mu) (tm : List V) (tmps : Array Value) : Prop := All2 (VRel μ) tm tmps.toList
theorem TRel.ext {μ' : Mu} (he : Ext μ μ') {tm : List V} {tmps : Array Value} (h : TRel μ tm tmps) : TRel μ' tm tmps := h.mono fun _ _ => VRel.ext he
theorem ev_rel {tm : List V} {a : Act} (ht : TRel μ tm a.tmps) (x : Operand) : VRel μ (ev tm x) (a.eval x) := by
  cases x with
  | tmp t =>
    show VRel μ (tm.getD t .bad) (a.tmps.getD t undef)
    rw [List.getD_eq_getElem?_getD]
    cases htm : tm[t]? with
    | none => trivial
    | some v =>
      obtain ⟨cv, hcv, hr⟩ := ht.get htm
      rw [Array.getElem?_toList] at hcv
      simp only [Option.getD_some, Array.getD_eq_getD_getElem?, hcv]
      exact hr
  | const v => exact ofVal_rel v
  | func f => exact ⟨[], [], rfl, All2.nil, All2.nil⟩
  | global g => trivial
theorem put_rel {tm : List V} {a : Act} (ht : TRel μ tm a.tmps) (d : Option Tmp) {v : V} {cv : Value} (h : VRel μ v cv) : TRel μ (putT tm d v) (a.put d cv).tmps := by
  cases d with
  | none => exact ht
  | some d => show All2 (VRel μ) (tm.set d v) (a.tmps.setIfInBounds d cv).toList; rw [Array.toList_setIfInBounds]; exact ht.set d h
theorem evs_rel {tm : List V} {a : Act} (ht : TRel μ tm a.tmps) (xs : Array Operand) : All2 (VRel μ) (xs.toList.map (ev tm)) (xs.map a.eval).toList := by
  rw [Array.toList_map]; exact All2.map _ fun x _ => ev_rel ht x
theorem optV_rel {tm : List V} {a : Act} (ht : TRel μ tm a.tmps) (x : Option Operand) : OV μ (optV tm x) (x.map a.eval) := by
  cases x with
  | none => exact ⟨fun v h => by simp [optV] at h, fun _ => rfl⟩
  | some x => exact ⟨fun v h => ⟨a.eval x, rfl, by simp [optV] at h; subst h; exact ev_rel ht x⟩, fun h => by simp [optV] at h⟩
theorem ptrs_rel : ∀ {vs : List V} {cvs : List Value} {l : List (Nat × Nat × Nat)}, All2 (VRel μ) vs cvs → ptrs vs = some l → All2 (PRel μ) l cvs
  | [], cvs, l, h, hp => by simp [ptrs] at hp; subst hp; rw [h.nil_left]; exact All2.nil
  | v :: vs, cvs, l, h, hp => by
    obtain ⟨c, cs, rfl, hc, hcs⟩ := h.cons_left
    unfold ptrs at hp
    split at hp
    · rename_i he; cases he
    · rename_i a vs' he
      injection he with he1 he2
      subst he1 he2
      cases hl : ptrs vs with
      | none => simp [hl] at hp
      | some l' => simp [hl] at hp; subst hp; exact All2.cons hc (ptrs_rel hcs hl)
    · cases hp
/-- What an operation yields. -/
def Yld (μ : Mu) (v : V) (nx : Next) : Prop := (∃ cv, nx = .value cv ∧ VRel μ v cv) ∨ (nx = .skip ∧ v = .tup [])
theorem builtin_sound (hτ : TabOk P τ) (hR : Rel P μ H w) {b : Builtin} {ts : Array TypeId} (ty : TypeId) (cs : Array Bool) {args : List V} {cargs : Array Value} (ha : All2 (VRel μ) args cargs.toList) {v : V} {H' : Heap} (h : builtinV τ H b ts.toList args = some (v, H')) :
    ∃ nx μ' w', (builtin b ts ty cs cargs).run P w = .ok nx w' ∧ Yld μ' v nx ∧ Stp P μ H w μ' H' w' := by
  obtain ⟨ts⟩ := ts
  obtain ⟨cargs⟩ := cargs
  simp only at h ha
  unfold builtinV at h
  split at h
  · unfold appendB at h
    split at h
    rotate_left
    · cases h
    · rename_i t u a len a2 n
      obtain ⟨c, cr, rfl, hc, hcr⟩ := ha.cons_left
      obtain ⟨c2, cr2, rfl, hc2, hcr2⟩ := hcr.cons_left
      rw [hcr2.nil_left]
      split at h
      · rename_i s1 s2 e s3 s4 z1 z2 e' z3 z4 ht hu
        split at h
        · rename_i hel
          split at h
          · rename_i ys hys
            have hkt : P.underlying t = some (.slice e) := (hτ t _ ht).kind
            have hku : P.underlying u = some (.slice e') := (hτ u _ hu).kind
            have hte : ∃ te, τ e = some te := by
              unfold appendV at h
              split at h
              · cases h
              · rename_i te hte; exact ⟨te, hte⟩
            obtain ⟨te, hte⟩ := hte
            obtain ⟨cv, μ', w', hr, hv, hs⟩ := append_sound hτ ((hτ t _ ht).nw e rfl) hte hkt hku hR hc hc2 (ty := ty) (fun id r L ha2 hL hn => by
              subst ha2
              rcases hel with h0 | h1
              · omega
              · exact elem_sz hτ hR hte hL h1) hys h
            exact ⟨.value cv, μ', w', by simp only [builtin, Sem.run_bind, hr, Result.andThen_ok, Sem.run_pure], .inl ⟨cv, rfl, hv⟩, hs⟩
          · cases h
        · cases h
      · cases h
  · unfold clearB at h
    split at h
    rotate_left
    · cases h
    · rename_i t a n
      obtain ⟨c, cr, rfl, hc, hcr⟩ := ha.cons_left
      rw [hcr.nil_left]
      split at h
      · rename_i s1 s2 e s3 s4 ht
        cases hcl : clearV τ H a n e with
        | none => simp [hcl] at h
        | some H2 =>
          simp [hcl] at h
          obtain ⟨rfl, rfl⟩ := h
          obtain ⟨w', hr, hs⟩ := clear_sound hτ hR (show P.underlying t = _ from (hτ t _ ht).kind) hc hcl ty
          exact ⟨.value undef, μ, w', by simp only [builtin, Sem.run_bind, hr, Result.andThen_ok, Sem.run_pure], .inl ⟨undef, rfl, [], rfl, All2.nil⟩, hs⟩
      · cases h
  rename_i junk hna hnc
  cases hp : pureB τ b ts args with
  | none => rw [hp] at h; cases h
  | some vp =>
  rw [hp] at h
  simp only [Option.map_some, Option.some.injEq, Prod.mk.injEq] at h
  obtain ⟨rfl, rfl⟩ := h
  unfold pureB at hp
  split at hp
  · rename_i t x
    obtain ⟨c, cr, rfl, hc, hcr⟩ := ha.cons_left
    rw [hcr.nil_left]
    have hl := hp
    · unfold lenV at hl
      split at hl
      · cases hl
      rename_i ti hti
      have hkind := (hτ t ti hti).kind
      split at hl
      · rename_i e a n hk
        rw [hk] at hkind
        have hkind' : P.underlying t = some (.slice e) := hkind
        injection hl with hl
        subst hl
        have hcv : ∃ ad cap, c = .slice ad n cap := by
          rcases a with _ | ⟨id, r⟩
          · obtain ⟨rfl, rfl⟩ := hc; exact ⟨_, _, rfl⟩
          · obtain ⟨L, ad, cap, _, rfl, _⟩ := hc; exact ⟨_, _, rfl⟩
        obtain ⟨ad, cap, rfl⟩ := hcv
        exact ⟨.value (goInt n), μ, w, by simp [builtin, Builtin.len_, run_underlying hkind'], .inl ⟨_, rfl, rfl⟩, Stp.refl hR⟩
      · rename_i a hk
        rw [hk] at hkind
        have hkind' : P.underlying t = some .string := hkind
        injection hl with hl
        subst hl
        have hc' : c = .string a := hc
        subst hc'
        exact ⟨.value (goInt a.size), μ, w, by simp [builtin, Builtin.len_, run_underlying hkind'], .inl ⟨_, rfl, rfl⟩, Stp.refl hR⟩
      · cases hl
  · rename_i ts' k a vs
    obtain ⟨c, cr, rfl, hc, hcr⟩ := ha.cons_left
    have hc' : c = .int k a := hc
    subst hc'
    have hf := hp
    · obtain ⟨cv, hr, hv⟩ := foldI_sound (P := P) (g := Builtin.max2) (fun a b w => by simp [Builtin.max2]) hcr hf w
      exact ⟨.value cv, μ, w, by simp only [builtin, Builtin.max_, Sem.run_bind, hr, Result.andThen_ok, Sem.run_pure], .inl ⟨cv, rfl, hv⟩, Stp.refl hR⟩
  · rename_i ts' k a vs
    obtain ⟨c, cr, rfl, hc, hcr⟩ := ha.cons_left
    have hc' : c = .int k a := hc
    subst hc'
    have hf := hp
    · obtain ⟨cv, hr, hv⟩ := foldI_sound (P := P) (g := Builtin.min2) (fun a b w => by simp [Builtin.min2]) hcr hf w
      exact ⟨.value cv, μ, w, by simp only [builtin, Builtin.min_, Sem.run_bind, hr, Result.andThen_ok, Sem.run_pure], .inl ⟨cv, rfl, hv⟩, Stp.refl hR⟩
  · cases hp
theorem builtinW_sound (hτ : TabOk P τ) (hR : Rel P μ H w) {draw : Bool} {b : Builtin} {ts : Array TypeId} (ty : TypeId) (cs : Array Bool) {args : List V} {cargs : Array Value} (ha : All2 (VRel μ) args cargs.toList) {v : V} {H' : Heap} (h : builtinW τ draw H b ts.toList args = some (v, H')) :
    ∃ nx μ' w', (builtin b ts ty cs cargs).run P w = .ok nx w' ∧ Yld μ' v nx ∧ Stp P μ H w μ' H' w' := by
  unfold builtinW at h
  split at h
  · rename_i y hy
    injection h with h
    subst h
    exact builtin_sound hτ hR ty cs ha hy
  split at h
  · cases h
  split at h
  rotate_left
  · cases h
  obtain ⟨ts⟩ := ts
  obtain ⟨cargs⟩ := cargs
  simp only at h ha
  unfold appendStr at h
  split at h
  rotate_left
  · cases h
  rename_i t u a len s _
  obtain ⟨c, cr, rfl, hc, hcr⟩ := ha.cons_left
  obtain ⟨c2, cr2, rfl, hc2, hcr2⟩ := hcr.cons_left
  rw [hcr2.nil_left]
  split at h
  rotate_left
  · cases h
  rename_i s1 s2 e s3 s4 z1 z2 z3 z4 ht hu
  split at h
  rotate_left
  · cases h
  rename_i e2 e3 e4 he
  have hkt : P.underlying t = some (.slice e) := (hτ t _ ht).kind
  have hku : P.underlying u = some .string := (hτ u _ hu).kind
  have hc2' : c2 = .string s := hc2
  subst hc2'
  obtain ⟨cv, μ', w', hr, hv, hs⟩ := append_str_sound hτ ((hτ t _ ht).nw e rfl) he rfl hkt hku hR hc (ty := ty) h
  exact ⟨.value cv, μ', w', by simp only [builtin, Sem.run_bind, hr, Result.andThen_ok, Sem.run_pure], .inl ⟨cv, rfl, hv⟩, hs⟩
/-- Every operation but the call of a Go function. -/
theorem op_sound {E : Env} {call : Fun} {draw : Bool} (hτ : TabOk E.P E.τ) (hR : Rel E.P μ H w) {tm : List V} {a : Act} (ht : TRel μ tm a.tmps) {o : Oper} (hno : ∀ f args ts, o.op ≠ .call ⟨.value f, args, ts⟩) {v : V} {H' : Heap} (h : opV E call draw tm H o = some (v, H')) :
    ∃ nx μ' w', (execOp a.eval o).run E.P w = .ok nx w' ∧ Yld μ' v nx ∧ Stp E.P μ H w μ' H' w' := by
  have val : ∀ {s : Sem Value} {cv : Value} {w' : World}, s.run E.P w = .ok cv w' → (do pure (Next.value (← s)) : Sem Next).run E.P w = .ok (.value cv) w' := by
    intro s cv w' hs
    simp only [Sem.run_bind, hs, Result.andThen_ok, Sem.run_pure]
  have unit : ∀ {s : Sem Unit} {w' : World}, s.run E.P w = .ok () w' → (do s; pure Next.skip : Sem Next).run E.P w = .ok .skip w' := by
    intro s w' hs
    simp only [Sem.run_bind, hs, Result.andThen_ok, Sem.run_pure]
  have mapH : ∀ {x : Option V}, x.map (·, H) = some (v, H') → x = some v ∧ H' = H := by
    intro x hx
    cases x with
    | none => simp at hx
    | some y => simp at hx; exact ⟨by rw [hx.1], hx.2.symm⟩
  unfold opV at h
  split at h
  · rename_i x ho
    simp only [Option.some.injEq, Prod.mk.injEq] at h
    obtain ⟨rfl, rfl⟩ := h
    exact ⟨.value (a.eval x), μ, w, by simp only [execOp, ho]; rfl, .inl ⟨_, rfl, ev_rel ht x⟩, Stp.refl hR⟩
  · rename_i x ho
    simp only [Option.some.injEq, Prod.mk.injEq] at h
    obtain ⟨rfl, rfl⟩ := h
    exact ⟨.value (a.eval x), μ, w, by simp only [execOp, ho]; rfl, .inl ⟨_, rfl, ev_rel ht x⟩, Stp.refl hR⟩
  · rename_i c x y ho
    have hc := ev_rel ht c
    split at h
    · rename_i hev
      simp only [Option.some.injEq, Prod.mk.injEq] at h
      obtain ⟨rfl, rfl⟩ := h
      rw [hev] at hc
      have hc' : a.eval c = .bool true := hc
      exact ⟨.value (a.eval x), μ, w, by simp [execOp, ho, hc', asBool], .inl ⟨_, rfl, ev_rel ht x⟩, Stp.refl hR⟩
    · rename_i hev
      simp only [Option.some.injEq, Prod.mk.injEq] at h
      obtain ⟨rfl, rfl⟩ := h
      rw [hev] at hc
      have hc' : a.eval c = .bool false := hc
      exact ⟨.value (a.eval y), μ, w, by simp [execOp, ho, hc', asBool], .inl ⟨_, rfl, ev_rel ht y⟩, Stp.refl hR⟩
    · cases h
  · rename_i t ho
    split at h
    · rename_i ti hti
      simp only [Option.some.injEq, Prod.mk.injEq] at h
      obtain ⟨rfl, rfl⟩ := h
      obtain ⟨z, hz, hzc, _⟩ := run_zeroValue' (hτ t ti hti) w
      obtain ⟨μ', w', hr, hv, hs⟩ := box_sound hτ hti hR (cv := z) (by rw [hzc]; exact (hτ t ti hti).zero_rel) (hτ t ti hti).zlen
      refine ⟨.value _, μ', w', ?_, .inl ⟨_, rfl, hv⟩, hs⟩
      simp only [execOp, ho]
      refine val ?_
      simp only [Instr.alloc, Sem.run_bind, hz, Result.andThen_ok, hr, Sem.run_pure]
    · cases h
  · rename_i t x ho
    split at h
    · rename_i ti cs hti hcs
      split at h
      · rename_i hl
        simp only [Option.some.injEq, Prod.mk.injEq] at h
        obtain ⟨rfl, rfl⟩ := h
        obtain ⟨μ', w', hr, hv, hs⟩ := box_sound hτ hti hR ((ev_rel ht x).cells hcs) hl
        refine ⟨.value _, μ', w', ?_, .inl ⟨_, rfl, hv⟩, hs⟩
        simp only [execOp, ho]
        refine val ?_
        simp only [Instr.box, Sem.run_bind, hr, Result.andThen_ok, Sem.run_pure]
      · cases h
    · cases h
  · rename_i t parts ho
    obtain ⟨hb, rfl⟩ := mapH h
    obtain ⟨cv, hr, hv⟩ := build_sound hτ a.eval tm (ev_rel ht) parts hb w
    exact ⟨.value cv, μ, w, by simp only [execOp, ho]; exact val hr, .inl ⟨cv, rfl, hv⟩, Stp.refl hR⟩
  · rename_i t len parts ho
    obtain ⟨cv, μ', w', hr, hv, hs⟩ := buildSlice_sound hτ hR a.eval tm (ev_rel ht) parts h
    exact ⟨.value cv, μ', w', by simp only [execOp, ho]; exact val hr, .inl ⟨cv, rfl, hv⟩, hs⟩
  · rename_i t x ho
    split at h
    · rename_i ti id r k hti hev
      obtain ⟨hl, rfl⟩ := mapH h
      have hp := ev_rel ht x
      rw [hev] at hp
      obtain ⟨cv, hr, hv⟩ := load_sound hτ hti hR hp hl
      exact ⟨.value cv, μ, w, by simp only [execOp, ho]; exact val hr, .inl ⟨cv, rfl, hv⟩, Stp.refl hR⟩
    · cases h
  · rename_i t x y ho
    split at h
    · rename_i ti id r k hti hev
      have hp := ev_rel ht x
      rw [hev] at hp
      cases hst : storeV ti H id r k (ev tm y) with
      | none => simp [hst] at h
      | some H2 =>
        simp [hst] at h
        obtain ⟨rfl, rfl⟩ := h
        obtain ⟨w', hr, hs⟩ := store_sound hτ hti hR hp (ev_rel ht y) hst
        exact ⟨.skip, μ, w', by simp only [execOp, ho]; exact unit hr, .inr ⟨rfl, rfl⟩, hs⟩
    · cases h
  · rename_i x ho
    split at h
    · rename_i p hev
      simp only [Option.some.injEq, Prod.mk.injEq] at h
      obtain ⟨rfl, rfl⟩ := h
      have hp := ev_rel ht x
      rw [hev] at hp
      have hp2 : VRel μ (V.w (W.lf (Lf.p (some p)))) (a.eval x) := hp
      obtain ⟨L, hL, hpv⟩ := hp
      refine ⟨.value (a.eval x), μ, w, ?_, .inl ⟨_, rfl, hp2⟩, Stp.refl hR⟩
      simp only [execOp, ho, hpv]; rfl
    · cases h
  · rename_i op t x y yt ho
    obtain ⟨hb, rfl⟩ := mapH h
    obtain ⟨cv, hr, hv⟩ := bin_sound hτ (ev_rel ht x) (ev_rel ht y) x y hb w
    exact ⟨.value cv, μ, w, by simp only [execOp, ho]; exact val hr, .inl ⟨cv, rfl, hv⟩, Stp.refl hR⟩
  · rename_i op t x ho
    obtain ⟨hb, rfl⟩ := mapH h
    obtain ⟨cv, hr, hv⟩ := un_sound (P := E.P) (ev_rel ht x) hb w
    exact ⟨.value cv, μ, w, by simp only [execOp, ho]; exact val hr, .inl ⟨cv, rfl, hv⟩, Stp.refl hR⟩
  · rename_i s d x ho
    obtain ⟨hb, rfl⟩ := mapH h
    obtain ⟨cv, hr, hv⟩ := convW_sound hτ hR (ev_rel ht x) hb
    exact ⟨.value cv, μ, w, by simp only [execOp, ho]; exact val hr, .inl ⟨cv, rfl, hv⟩, Stp.refl hR⟩
  · rename_i f first cap ho
    split at h
    · rename_i l1 l2 h1 h2
      simp only [Option.some.injEq, Prod.mk.injEq] at h
      obtain ⟨rfl, rfl⟩ := h
      refine ⟨.value (.func (.func f) (first.map a.eval) (cap.map a.eval)), μ, w, ?_, .inl ⟨_, rfl, (first.map a.eval).toList, (cap.map a.eval).toList, by rw [Array.toArray_toList, Array.toArray_toList], ptrs_rel (evs_rel ht first) h1, ptrs_rel (evs_rel ht cap) h2⟩, Stp.refl hR⟩
      simp only [execOp, ho]
      exact val rfl
    · cases h
  · rename_i t x y ho
    obtain ⟨cv, μ', w', hr, hv, hs⟩ := makeSlice_sound hτ hR (ev_rel ht x) (ev_rel ht y) h
    exact ⟨.value cv, μ', w', by simp only [execOp, ho]; exact val hr, .inl ⟨cv, rfl, hv⟩, hs⟩
  · rename_i t x lo hi mx ho
    obtain ⟨hund, cv, μ', hr, hv, hs⟩ := sliceW_sound hτ hR (ev_rel ht x) (optV_rel ht lo) (optV_rel ht hi) (optV_rel ht mx) h
    refine ⟨.value cv, μ', w, ?_, .inl ⟨cv, rfl, hv⟩, hs⟩
    simp only [execOp, ho]
    refine val ?_
    have hnarr : ∃ d, E.P.underlying t = some d ∧ ∀ n e, d ≠ .array n e := by
      obtain ⟨e, he | he⟩ := hund
      · exact ⟨_, he, fun n e hh => by cases hh⟩
      · exact ⟨_, he, fun n e hh => by cases hh⟩
    obtain ⟨d, hd, hne⟩ := hnarr
    unfold Instr.sliceAt
    rw [Sem.run_bind, run_underlying hd w]
    simp only [Result.andThen_ok]
    cases d <;> first
      | exact hr
      | exact absurd rfl (hne _ _)
  · rename_i t x f ho
    obtain ⟨hb, rfl⟩ := mapH h
    obtain ⟨cv, hr, hv⟩ := fieldAddr_sound hτ (ev_rel ht x) hb w
    exact ⟨.value cv, μ, w, by simp only [execOp, ho]; exact val hr, .inl ⟨cv, rfl, hv⟩, Stp.refl hR⟩
  · rename_i t x y ho
    obtain ⟨hb, rfl⟩ := mapH h
    obtain ⟨cv, hr, hv⟩ := indexAddr_sound hτ hR (ev_rel ht x) (ev_rel ht y) hb
    exact ⟨.value cv, μ, w, by simp only [execOp, ho]; exact val hr, .inl ⟨cv, rfl, hv⟩, Stp.refl hR⟩
  · rename_i t x y ho
    obtain ⟨hb, rfl⟩ := mapH h
    obtain ⟨cv, hr, hv⟩ := index_sound hτ (ev_rel ht x) (ev_rel ht y) hb w
    exact ⟨.value cv, μ, w, by simp only [execOp, ho]; exact val hr, .inl ⟨cv, rfl, hv⟩, Stp.refl hR⟩
  · rename_i t x f ho
    obtain ⟨hb, rfl⟩ := mapH h
    obtain ⟨cv, hr, hv⟩ := field_sound hτ (ev_rel ht x) hb w
    exact ⟨.value cv, μ, w, by simp only [execOp, ho]; exact val hr, .inl ⟨cv, rfl, hv⟩, Stp.refl hR⟩
  · rename_i x i ho
    split at h
    · rename_i ws hev
      split at h
      · rename_i y hy
        simp only [Option.some.injEq, Prod.mk.injEq] at h
        obtain ⟨rfl, rfl⟩ := h
        have hp := ev_rel ht x
        rw [hev] at hp
        obtain ⟨vs, hvs, hall⟩ := hp
        obtain ⟨c, hc, hrel⟩ := hall.get hy
        refine ⟨.value c, μ, w, ?_, .inl ⟨c, rfl, hrel⟩, Stp.refl hR⟩
        simp only [execOp, ho]
        refine val ?_
        simp [Instr.extract, hvs, hc]
      · cases h
    · cases h
  · rename_i b args ts ho
    obtain ⟨nx, μ', w', hr, hv, hs⟩ := builtinW_sound hτ hR (ts := ts) o.type (args.map fun | .const _ => true | _ => false) (evs_rel ht args) h
    refine ⟨nx, μ', w', ?_, hv, hs⟩
    simp only [execOp, ho, resolve, Sem.run_bind, Sem.run_pure, Result.andThen_ok, invoke]
    exact hr
  · rename_i f args ts ho
    exact absurd ho (hno f args ts)
  · cases h
end Go.Ab

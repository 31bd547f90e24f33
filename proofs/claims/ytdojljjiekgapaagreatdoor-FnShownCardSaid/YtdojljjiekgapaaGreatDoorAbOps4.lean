/- Cuts, places, builtins; every operation but a call. -/
import Derived.Laws.BytesString
import Derived.Test.YtdojljjiekgapaaGreatDoorAbOps3
import Derived.Lib.ConvBytes
import Derived.Laws.BytesArg
set_option linter.unusedVariables false
set_option linter.unusedSimpArgs false
namespace Go.Ab
variable {P : Program} {τ : Tab} {μ : Mu} {H : Heap} {w : World}

theorem bnd_sound {d most : Nat} {x : Option V} {xv : Option Value} {n : Nat} (hx : ∀ v, x = some v → ∃ cv, xv = some cv ∧ VRel μ v cv) (hn : x = none → xv = none) (h : bnd d most x = some n) :
    (x = none ∧ xv = none ∧ n = d) ∨ (∃ cv, xv = some cv ∧ n ≤ most ∧ ∀ (code : BoundsCode) (w : World), (Instr.sliceBound cv most code).run P w = .ok n w) := by
  unfold bnd at h
  split at h
  · injection h with h; exact .inl ⟨rfl, hn rfl, h.symm⟩
  · rename_i k m
    split at h
    · rename_i hb
      injection h with h
      subst h
      obtain ⟨cv, hcv, hv⟩ := hx _ rfl
      have hv' : cv = .int k m := hv
      subst hv'
      refine .inr ⟨_, hcv, by omega, fun code w => ?_⟩
      simp [Instr.sliceBound, asIntOf, hb.1, hb.2]
    · cases h
  · cases h
def OV (μ : Mu) (x : Option V) (xv : Option Value) : Prop := (∀ v, x = some v → ∃ cv, xv = some cv ∧ VRel μ v cv) ∧ (x = none → xv = none)
theorem add_lit' (b o n : Nat) : (⟨b, o, none⟩ : Addr).add n = ⟨b, o + n, none⟩ := Addr.add_mid b o n
theorem elem_sz (hτ : TabOk P τ) (hR : Rel P μ H w) {e : Nat} {te : TI} (hte : τ e = some te) {id r : Nat} {L : Loc} (hL : μ id = some L) (h : elemIs H e (some (id, r)) = true) : L.sz = te.size := by
  change (match blkAt H id with | some b => b.elem == e | none => false) = true at h
  split at h
  · rename_i b hb
    have hB := hR.blk _ L b hL (blkAt_some hb)
    rw [hB.sz, ← hB.elem, show b.elem = e by simpa using h, (hτ e te hte).size]
  · cases h
theorem slice_sound (hτ : TabOk P τ) (hR : Rel P μ H w) {t : Nat} {x : V} {xv : Value} (hx : VRel μ x xv) {lo hi mx : Option V} {lov hiv mxv : Option Value} (hlo : OV μ lo lov) (hhi : OV μ hi hiv) (hmx : OV μ mx mxv)
    {v : V} {H' : Heap} (h : sliceV τ H t x lo hi mx = some (v, H')) :
    ∃ cv μ', (Instr.slice t xv lov hiv mxv).run P w = .ok cv w ∧ VRel μ' v cv ∧ Stp P μ H w μ' H' w := by
  unfold sliceV at h
  split at h
  · cases h
  rename_i ti hti
  have hkind := (hτ t ti hti).kind
  split at h
  · rename_i a hk
    have hmxv := hmx.2 rfl
    subst hmxv
    rw [hk] at hkind
    have hkind' : P.underlying t = some .string := hkind
    have hx' : xv = .string a := hx
    subst hx'
    split at h
    rotate_left
    · cases h
    rename_i hh hhe
    split at h
    rotate_left
    · cases h
    rename_i l hle
    injection h with h
    injection h with h1 h2
    subst h1 h2
    refine ⟨.string (a.extract l hh), μ, ?_, rfl, Stp.refl hR⟩
    rcases bnd_sound (P := P) hhi.1 hhi.2 hhe with ⟨_, rfl, rfl⟩ | ⟨cv, rfl, _, hhr⟩ <;> rcases bnd_sound (P := P) hlo.1 hlo.2 hle with ⟨_, rfl, rfl⟩ | ⟨cv', rfl, _, hlr⟩ <;>
      simp [Instr.slice, run_underlying hkind', Instr.sliceBounds, *]
  · rename_i e a len hk
    have hmxv := hmx.2 rfl
    subst hmxv
    rw [hk] at hkind
    have hkind' : P.underlying t = some (.slice e) := hkind
    split at h
    rotate_left
    · cases h
    rename_i helem
    obtain ⟨helem, hsome⟩ := helem
    obtain ⟨te, hte'⟩ := Option.isSome_iff_exists.1 hsome
    have hty := hτ e te hte'
    split at h
    rotate_left
    · cases h
    rename_i hh hhe
    split at h
    rotate_left
    · cases h
    rename_i l hle
    have hb : ∀ (cap : Nat), len ≤ cap → ∃ (ok : l ≤ hh ∧ hh ≤ len), (Instr.sliceBounds true len cap lov hiv none).run P w = .ok (l, hh, cap) w := by
      intro cap hcap
      have e1 : (hh ≤ len ∧ True) := by
        rcases bnd_sound (P := P) hhi.1 hhi.2 hhe with ⟨_, _, rfl⟩ | ⟨cv, _, hle', _⟩
        · exact ⟨Nat.le_refl _, trivial⟩
        · exact ⟨hle', trivial⟩
      have e2 : l ≤ hh := by
        rcases bnd_sound (P := P) hlo.1 hlo.2 hle with ⟨_, _, rfl⟩ | ⟨cv, _, hle', _⟩
        · exact Nat.zero_le _
        · exact hle'
      refine ⟨⟨e2, e1.1⟩, ?_⟩
      have hhcap : ∀ cv, hiv = some cv → ∀ (code : BoundsCode), (Instr.sliceBound cv cap code).run P w = .ok hh w := by
        intro cv hcv code
        unfold bnd at hhe
        split at hhe
        · have := hhi.2 rfl; rw [hcv] at this; cases this
        · rename_i k m
          split at hhe
          · rename_i hb
            injection hhe with hhe
            obtain ⟨cv', hcv', hv⟩ := hhi.1 _ rfl
            rw [hcv] at hcv'
            injection hcv' with hcv'
            subst hcv'
            have hv' : cv = .int k m := hv
            subst hv'
            have hmc : m ≤ cap := by omega
            simp [Instr.sliceBound, asIntOf, hb.1, hmc, hhe]
          · cases hhe
        · cases hhe
      rcases bnd_sound (P := P) hhi.1 hhi.2 hhe with ⟨_, rfl, rfl⟩ | ⟨cv, rfl, _, hhr⟩ <;> rcases bnd_sound (P := P) hlo.1 hlo.2 hle with ⟨_, rfl, rfl⟩ | ⟨cv', rfl, _, hlr⟩
      · simp [Instr.sliceBounds]
      · simp [Instr.sliceBounds, hlr]
      · simp [Instr.sliceBounds, hhcap _ rfl]
      · simp [Instr.sliceBounds, hhcap _ rfl, hlr]
    rcases a with _ | ⟨id, r⟩
    · obtain ⟨rfl, rfl⟩ : _ ∧ xv = .slice none 0 0 := hx
      simp only [Option.some.injEq, Prod.mk.injEq] at h
      obtain ⟨rfl, rfl⟩ := h
      obtain ⟨hok, hr⟩ := hb 0 (Nat.le_refl _)
      have hh0 : hh = 0 := by omega
      have hl0 : l = 0 := by omega
      subst hh0 hl0
      refine ⟨.slice none 0 0, μ, ?_, ⟨rfl, rfl⟩, Stp.refl hR⟩
      simp [Instr.slice, run_underlying hkind', hr, run_sizeOf' hty]
    · obtain ⟨L, ad, cap, hL, rfl, hlc, had, hz, hwr⟩ := hx
      simp only [Option.some.injEq, Prod.mk.injEq] at h
      obtain ⟨rfl, rfl⟩ := h
      obtain ⟨hok, hr⟩ := hb cap hlc
      have hsz' := elem_sz hτ hR hte' hL helem
      refine ⟨.slice (if cap = l then some ad else some (ad.add (l * te.size))) (hh - l) (cap - l), μ, ?_, ?_, Stp.refl hR⟩
      · simp [Instr.slice, run_underlying hkind', hr, run_sizeOf' hty]
      · refine ⟨L, if cap = l then ad else ad.add (l * te.size), cap - l, hL, by split <;> rfl, by omega, fun hc => ?_, fun hzz => by have := hz hzz; omega, fun hw => ⟨by have := (hwr hw).1; omega, fun hc => ?_⟩⟩
        · rw [if_neg (by omega), had (by omega), add_lit', hsz', Nat.add_mul]
          congr 1
          omega
        · have := (hwr hw).2 (by omega)
          rw [show r + l + (cap - l) = r + cap by omega]
          exact this
  · rename_i e a n k hk
    rw [hk] at hkind
    have hkind' : P.underlying t = some (.slice e) := hkind
    split at h
    rotate_left
    · cases h
    rename_i hsome
    obtain ⟨te, hte'⟩ := Option.isSome_iff_exists.1 hsome
    have hty := hτ e te hte'
    obtain ⟨mcv, rfl, hmcv⟩ := hmx.1 _ rfl
    have hmcv' : mcv = .int k 0 := hmcv
    subst hmcv'
    split at h
    rotate_left
    · cases h
    rename_i hhe hle
    have hmr : ∀ (cap : Nat) (code : BoundsCode), (Instr.sliceBound (.int k 0) cap code).run P w = .ok 0 w := by
      intro cap code
      have : (0 : Int) ≤ cap := by omega
      simp [Instr.sliceBound, asIntOf, this]
    have hb : ∀ (len cap : Nat), (Instr.sliceBounds true len cap lov hiv (some (.int k 0))).run P w = .ok (0, 0, 0) w := by
      intro len cap
      rcases bnd_sound (P := P) hhi.1 hhi.2 hhe with ⟨_, _, h10⟩ | ⟨cv, rfl, _, hhr⟩
      · cases h10
      · rcases bnd_sound (P := P) hlo.1 hlo.2 hle with ⟨_, rfl, _⟩ | ⟨cv', rfl, _, hlr⟩
        · simp [Instr.sliceBounds, hmr, hhr]
        · simp [Instr.sliceBounds, hmr, hhr, hlr]
    rcases a with _ | ⟨id, r⟩
    · obtain ⟨rfl, rfl⟩ : _ ∧ xv = .slice none 0 0 := hx
      simp only [Option.some.injEq, Prod.mk.injEq] at h
      obtain ⟨rfl, rfl⟩ := h
      refine ⟨.slice none 0 0, μ, ?_, ⟨rfl, rfl⟩, Stp.refl hR⟩
      simp [Instr.slice, run_underlying hkind', hb, run_sizeOf' hty]
    · obtain ⟨L, ad, cap, hL, rfl, hlc, had, hz, hwr⟩ := hx
      simp only [Option.some.injEq, Prod.mk.injEq] at h
      obtain ⟨rfl, rfl⟩ := h
      refine ⟨.slice (some ad) 0 0, _, ?_, ?_, Stp.zblk hR e⟩
      · simp [Instr.slice, run_underlying hkind', hb, run_sizeOf' hty]
      · exact ⟨_, ad, 0, upd_same _ _ _, rfl, Nat.le_refl _, fun hc => absurd hc (by omega), fun _ => rfl, fun hw => by cases hw⟩
  · cases h
theorem sliceX_sound (hτ : TabOk P τ) (hR : Rel P μ H w) {t : Nat} {x : V} {xv : Value} (hx : VRel μ x xv) {lo hi mx : Option V} {lov hiv mxv : Option Value} (hlo : OV μ lo lov) (hhi : OV μ hi hiv) (hmx : OV μ mx mxv)
    {v : V} {H' : Heap} (h : sliceX τ H t x lo hi mx = some (v, H')) :
    H' = H ∧ ∃ cv, (Instr.slice t xv lov hiv mxv).run P w = .ok cv w ∧ VRel μ v cv := by
  have get : ∀ {y : Option V} {yv : Option Value} {most n : Nat}, OV μ y yv → y.isSome = true → bnd 0 most y = some n → ∃ cv, yv = some cv ∧ n ≤ most ∧ ∀ (cap : Nat) (code : BoundsCode), most ≤ cap → (Instr.sliceBound cv cap code).run P w = .ok n w := by
    intro y yv most n hy hs hb
    unfold bnd at hb
    split at hb
    · cases hs
    · rename_i k m
      split at hb
      · rename_i hm
        injection hb with hb
        obtain ⟨cv, hcv, hv⟩ := hy.1 _ rfl
        have hv' : cv = .int k m := hv
        subst hv'
        refine ⟨_, hcv, by omega, fun cap code hc => ?_⟩
        have : m ≤ (cap : Int) := by omega
        simp [Instr.sliceBound, asIntOf, hm.1, this, hb]
      · cases hb
    · cases hb
  have low : ∀ {n l : Nat}, bnd 0 n lo = some l → l ≤ n ∧ ((lov = none ∧ l = 0) ∨ ∃ cv, lov = some cv ∧ ∀ code, (Instr.sliceBound cv n code).run P w = .ok l w) := by
    intro n l hb
    rcases bnd_sound (P := P) hlo.1 hlo.2 hb with ⟨_, h1, rfl⟩ | ⟨cv, h1, h2, h3⟩
    · exact ⟨Nat.zero_le _, .inl ⟨h1, rfl⟩⟩
    · exact ⟨h2, .inr ⟨cv, h1, fun code => h3 code w⟩⟩
  unfold sliceX at h
  split at h
  · cases h
  rename_i ti hti
  have hkind := (hτ t ti hti).kind
  split at h
  · rename_i e a len k m hk
    rw [hk] at hkind
    have hkind' : P.underlying t = some (.slice e) := hkind
    split at h
    rotate_left
    · cases h
    rename_i hc
    obtain ⟨hsome, hm0, hml, hhs⟩ := hc
    obtain ⟨te, hte'⟩ := Option.isSome_iff_exists.1 hsome
    have hty := hτ e te hte'
    split at h
    rotate_left
    · cases h
    rename_i hh hhe
    split at h
    rotate_left
    · cases h
    rename_i l hle
    simp only [Option.some.injEq, Prod.mk.injEq] at h
    obtain ⟨rfl, rfl⟩ := h
    obtain ⟨hcv, rfl, hhm, hhr⟩ := get hhi hhs hhe
    obtain ⟨hlh, hlr⟩ := low hle
    obtain ⟨mcv, rfl, hmcv⟩ := hmx.1 _ rfl
    have hmcv' : mcv = .int k m := hmcv
    subst hmcv'
    have hxs : ∃ ad cap, xv = .slice ad len cap ∧ len ≤ cap := by
      rcases a with _ | ⟨id, r⟩
      · obtain ⟨rfl, rfl⟩ : _ ∧ xv = .slice none 0 0 := hx
        exact ⟨none, 0, rfl, Nat.le_refl _⟩
      · obtain ⟨L, ad, cap, hL, rfl, hlc, _⟩ := hx
        exact ⟨some ad, cap, rfl, hlc⟩
    obtain ⟨ad, cap, rfl, hlc⟩ := hxs
    have hmr : ∀ (code : BoundsCode), (Instr.sliceBound (.int k m) cap code).run P w = .ok m.toNat w := by
      intro code
      have : m ≤ (cap : Int) := by omega
      simp [Instr.sliceBound, asIntOf, hm0, this]
    refine ⟨rfl, .slice (if m.toNat = l then ad else ad.map (·.add (l * te.size))) (hh - l) (m.toNat - l), ?_, trivial⟩
    rcases hlr with ⟨rfl, rfl⟩ | ⟨cv, rfl, hlr⟩
    · simp [Instr.slice, run_underlying hkind', Instr.sliceBounds, hmr, hhr m.toNat _ (Nat.le_refl _), run_sizeOf' hty]
    · simp [Instr.slice, run_underlying hkind', Instr.sliceBounds, hmr, hhr m.toNat _ (Nat.le_refl _), hlr, run_sizeOf' hty]
  · rename_i e id r len hk
    rw [hk] at hkind
    have hkind' : P.underlying t = some (.slice e) := hkind
    have hmxv := hmx.2 rfl
    subst hmxv
    split at h
    rotate_left
    · cases h
    rename_i b hb
    split at h
    rotate_left
    · cases h
    rename_i hc
    obtain ⟨hbe, hbm, hsome, hhs⟩ := hc
    obtain ⟨te, hte'⟩ := Option.isSome_iff_exists.1 hsome
    have hty := hτ e te hte'
    split at h
    rotate_left
    · cases h
    rename_i hh hhe
    split at h
    rotate_left
    · cases h
    rename_i l hle
    simp only [Option.some.injEq, Prod.mk.injEq] at h
    obtain ⟨rfl, rfl⟩ := h
    obtain ⟨hcv, rfl, hhm, hhr⟩ := get hhi hhs hhe
    obtain ⟨hlh, hlr⟩ := low hle
    obtain ⟨L, ad, cap, hL, rfl, hlc, had, hz, hwr⟩ := hx
    have hB := hR.blk id L b hL (blkAt_some hb)
    have hLm : L.md = .wr := by rw [← hB.md, hbm]
    obtain ⟨hcap, hcells⟩ := hwr hLm
    have hLn := hB.rows
    have hhc : hh ≤ cap := by omega
    have hsz' := elem_sz (r := r) hτ hR hte' hL (by simp only [elemIs, hb, hbe, beq_self_eq_true])
    refine ⟨rfl, .slice (if cap = l then some ad else some (ad.add (l * te.size))) (hh - l) (cap - l), ?_, ?_⟩
    · rcases hlr with ⟨rfl, rfl⟩ | ⟨cv, rfl, hlr⟩
      · simp [Instr.slice, run_underlying hkind', Instr.sliceBounds, hhr cap _ (by omega), run_sizeOf' hty]
      · simp [Instr.slice, run_underlying hkind', Instr.sliceBounds, hhr cap _ (by omega), hlr, run_sizeOf' hty]
    · refine ⟨L, if cap = l then ad else ad.add (l * te.size), cap - l, hL, by split <;> rfl, by omega, fun hc => ?_, fun hzz => by have := hz hzz; omega, fun hw => ⟨by omega, fun hc => ?_⟩⟩
      · rw [if_neg (by omega), had (by omega), add_lit', hsz', Nat.add_mul]
        congr 1
        omega
      · have := hcells (by omega)
        rw [show r + l + (cap - l) = r + cap by omega]
        exact this
  · cases h
theorem sliceW_sound (hτ : TabOk P τ) (hR : Rel P μ H w) {draw : Bool} {t : Nat} {x : V} {xv : Value} (hx : VRel μ x xv) {lo hi mx : Option V} {lov hiv mxv : Option Value} (hlo : OV μ lo lov) (hhi : OV μ hi hiv) (hmx : OV μ mx mxv)
    {v : V} {H' : Heap} (h : sliceW τ draw H t x lo hi mx = some (v, H')) :
    (∃ e, P.underlying t = some (.slice e) ∨ P.underlying t = some .string) ∧ ∃ cv μ', (Instr.slice t xv lov hiv mxv).run P w = .ok cv w ∧ VRel μ' v cv ∧ Stp P μ H w μ' H' w := by
  unfold sliceW at h
  split at h
  · rename_i y hy
    injection h with h
    subst h
    refine ⟨?_, slice_sound hτ hR hx hlo hhi hmx hy⟩
    unfold sliceV at hy
    split at hy
    · cases hy
    rename_i ti hti
    have hkind := (hτ t ti hti).kind
    split at hy
    · have hk : ti.kind = .str := by assumption
      rw [hk] at hkind; exact ⟨0, .inr hkind⟩
    · obtain ⟨e', hk⟩ : ∃ e, ti.kind = .slice e := ⟨_, by assumption⟩
      rw [hk] at hkind; exact ⟨_, .inl hkind⟩
    · obtain ⟨e', hk⟩ : ∃ e, ti.kind = .slice e := ⟨_, by assumption⟩
      rw [hk] at hkind; exact ⟨_, .inl hkind⟩
    · cases hy
  · split at h
    · cases h
    · obtain ⟨rfl, cv, hr, hv⟩ := sliceX_sound hτ hR hx hlo hhi hmx h
      refine ⟨?_, cv, μ, hr, hv, Stp.refl hR⟩
      unfold sliceX at h
      split at h
      · cases h
      rename_i ti hti
      have hkind := (hτ t ti hti).kind
      split at h
      · obtain ⟨e', hk⟩ : ∃ e, ti.kind = .slice e := ⟨_, by assumption⟩
        rw [hk] at hkind; exact ⟨_, .inl hkind⟩
      · obtain ⟨e', hk⟩ : ∃ e, ti.kind = .slice e := ⟨_, by assumption⟩
        rw [hk] at hkind; exact ⟨_, .inl hkind⟩
      · cases h
theorem indexAddr_sound (hτ : TabOk P τ) (hR : Rel P μ H w) {t : Nat} {x y : V} {xv yv : Value} (hx : VRel μ x xv) (hy : VRel μ y yv) {v : V} (h : indexAddrV τ H t x y = some v) :
    ∃ cv, (Instr.indexAt t xv yv).run P w = .ok cv w ∧ VRel μ v cv := by
  unfold indexAddrV at h
  split at h
  · cases h
  rename_i ti hti
  have hkind := (hτ t ti hti).kind
  split at h
  · rename_i e id r len k n hk
    rw [hk] at hkind
    have hkind' : P.underlying t = some (.slice e) := hkind
    split at h
    · rename_i hb
      injection h with h
      subst h
      obtain ⟨te, hte'⟩ := Option.isSome_iff_exists.1 hb.2.2.2
      obtain ⟨L, ad, cap, hL, rfl, hle, had, _⟩ := hx
      have hy' : yv = .int k n := hy
      subst hy'
      have had' := had (by omega)
      subst had'
      have hsz := elem_sz hτ hR hte' hL hb.2.2.1
      refine ⟨.pointer (some ⟨L.b, L.o + (r + n.toNat) * L.sz + 0, none⟩), ?_, ⟨L, hL, rfl⟩⟩
      have ht : ¬ (len ≤ 1 ∧ False) := by simp
      simp only [Instr.indexAt, asIntOf, Sem.run_bind, Sem.run_pure, Result.andThen_ok, run_underlying hkind']
      simp only [Sem.run_ite, if_pos (show 0 ≤ n ∧ n < (len : Int) from ⟨hb.1, hb.2.1⟩), Sem.run_bind, run_sizeOf' (hτ e te hte'), Result.andThen_ok, Sem.run_pure, add_lit', hsz, Nat.add_mul]
      congr 4
      omega
    · cases h
  · cases h
theorem part_sound {t : Nat} {ti : TI} (hty : TyOk P t ti) {cs : List Lf} {vs : List Value} (h : All2 (LRel μ) cs vs) (off : Nat) (hfit : off + ti.size ≤ cs.length) {v : V} (hv : mkV ti.agg ((cs.drop off).take ti.size) = some v) (w : World) :
    ∃ cv, (part t vs.toArray off).run P w = .ok cv w ∧ VRel μ v cv := by
  obtain ⟨d, hd, hrow⟩ := hty.und
  have hsub := (h.drop off).take ti.size
  unfold mkV at hv
  by_cases ha : ti.agg = true
  · rw [if_pos ha] at hv
    injection hv with hv
    subst hv
    refine ⟨_, ?_, ⟨_, rfl, hsub⟩⟩
    simp only [part, Sem.run_bind, run_isAgg' hd, hrow, ha, Result.andThen_ok, if_true, run_sizeOf' hty, Sem.run_pure]
    congr 2
    apply Array.ext'
    simp [List.take_drop]
  · rw [if_neg ha] at hv
    split at hv
    · rename_i l hl
      injection hv with hv
      subst hv
      rw [hl] at hsub
      obtain ⟨u, rest, hu, hr, _⟩ := hsub.cons_left
      refine ⟨u, ?_, hr⟩
      have : vs[off]? = some u := by
        have := congrArg (·[0]?) hu
        simp only [List.getElem?_take, List.getElem?_drop] at this
        split at this
        · simpa using this
        · simp at this
      have hf : ti.agg = false := by simpa using ha
      simp only [part, Sem.run_bind, run_isAgg' hd, hrow, hf, Result.andThen_ok, Bool.false_eq_true, if_false, List.getElem?_toArray, this, Sem.run_pure]
    · cases hv
theorem index_sound (hτ : TabOk P τ) {t : Nat} {x y : V} {xv yv : Value} (hx : VRel μ x xv) (hy : VRel μ y yv) {v : V} (h : indexV τ t x y = some v) (w : World) :
    ∃ cv, (Instr.index t xv yv).run P w = .ok cv w ∧ VRel μ v cv := by
  unfold indexV at h
  split at h
  · cases h
  rename_i ti hti
  have hkind := (hτ t ti hti).kind
  split at h
  · rename_i a k n hk
    rw [hk] at hkind
    have hkind' : P.underlying t = some .string := hkind
    split at h
    · rename_i hb
      injection h with h
      subst h
      have hx' : xv = .string a := hx
      have hy' : yv = .int k n := hy
      subst hx' hy'
      refine ⟨.int .u8 (a[n.toNat]'hb.2).toNat, ?_, rfl⟩
      have : a[n.toNat]? = some (a[n.toNat]'hb.2) := getElem?_pos a n.toNat hb.2
      simp [Instr.index, asIntOf, run_underlying hkind', hb.1, this]
    · cases h
  · rename_i len e cs k n hk
    rw [hk] at hkind
    have hkind' : P.underlying t = some (.array len e) := hkind
    split at h
    rotate_left
    · cases h
    rename_i te hte
    split at h
    · rename_i hb
      obtain ⟨vs, rfl, hall⟩ := hx
      have hy' : yv = .int k n := hy
      subst hy'
      have hty := hτ e te hte
      have hm := hb.2.2
      rw [Nat.add_mul, Nat.one_mul] at hm
      obtain ⟨cv, hr, hv⟩ := part_sound hty hall (n.toNat * te.size) hm h w
      refine ⟨cv, ?_, hv⟩
      simp only [Instr.index, asIntOf, Sem.run_bind, Sem.run_pure, Result.andThen_ok, run_underlying hkind', Sem.run_ite, if_pos (show 0 ≤ n ∧ n < (len : Int) from ⟨hb.1, hb.2.1⟩), run_sizeOf' hty, hr]
    · cases h
  · cases h
theorem field_sound (hτ : TabOk P τ) {t f : Nat} {x : V} {xv : Value} (hx : VRel μ x xv) {v : V} (h : fieldV P τ t x f = some v) (w : World) : ∃ cv, (Instr.field t xv f).run P w = .ok cv w ∧ VRel μ v cv := by
  unfold fieldV at h
  split at h
  · rename_i fs cs hu
    split at h
    · rename_i fd hf
      split at h
      · rename_i ti hti
        split at h
        · rename_i hfit
          obtain ⟨vs, rfl, hall⟩ := hx
          obtain ⟨cv, hr, hv⟩ := part_sound (hτ _ _ hti) hall fd.offset hfit h w
          refine ⟨cv, ?_, hv⟩
          simp only [Instr.field, Sem.run_bind, run_underlying hu, Result.andThen_ok, hf, asAgg, Sem.run_pure, hr]
        · cases h
      · cases h
    · cases h
  · cases h
theorem fieldAddr_sound (hτ : TabOk P τ) {t f : Nat} {x : V} {xv : Value} (hx : VRel μ x xv) {v : V} (h : fieldAddrV τ t x f = some v) (w : World) : ∃ cv, (Instr.fieldAt t xv f).run P w = .ok cv w ∧ VRel μ v cv := by
  unfold fieldAddrV at h
  split at h
  · cases h
  rename_i ti hti
  have hkind := (hτ t ti hti).kind
  split at h
  · rename_i offs id r k hk
    rw [hk] at hkind
    obtain ⟨fs, hu, hoffs, hinfo⟩ := hkind
    split at h
    · rename_i o z ho
      split at h
      · cases h
      · rename_i hz
        injection h with h
        subst h
        obtain ⟨L, hL, rfl⟩ := ptr_rel hx
        rw [← hoffs, List.getElem?_map] at ho
        cases hf : fs.toList[f]? with
        | none => simp [hf] at ho
        | some fd =>
          simp [hf] at ho
          obtain ⟨i, hi⟩ := hinfo fd (List.mem_of_getElem? hf)
          have hfa : fs[f]? = some fd := by rw [← Array.getElem?_toList]; exact hf
          have hs : (sizeOf fd.type).run P w = .ok z w := by
            rw [← ho.2]; simp [sizeOf, typeInfo, hi, Program.cellsOf]
          refine ⟨.pointer (some ⟨L.b, L.o + r * L.sz + (k + o), none⟩), ?_, ⟨L, hL, rfl⟩⟩
          simp only [Instr.fieldAt, Sem.run_bind, run_underlying hu, Result.andThen_ok, hfa, Instr.sureAddr, Sem.run_pure, fieldPlace, hs, Sem.run_ite, if_neg hz, add_lit', ho.1, Nat.add_assoc]
    · cases h
  · cases h
theorem bytes_sound : ∀ {rs : List (List Lf)} {l : List UInt8} {cs : List Value}, bytesV rs = some l → Flat μ 1 rs cs → cs = l.map fun b => Value.int .u8 b.toNat
  | [], l, cs, h, hf => by
    simp [bytesV] at h; subst h
    exact List.eq_nil_of_length_eq_zero (by simpa using hf.len)
  | row :: rs, l, cs, h, hf => by
    unfold bytesV at h
    split at h
    · rename_i he; cases he
    · rename_i n rs' he
      injection he with he1 he2
      subst he1 he2
      split at h
      · rename_i hn
        cases hl : bytesV rs with
        | none => simp [hl] at h
        | some l' =>
          simp [hl] at h
          subst h
          have hlen := hf.len
          simp at hlen
          cases cs with
          | nil => simp at hlen
          | cons c cs =>
            have h0 := hf.cell 0 _ rfl 0 _ rfl
            obtain ⟨v, hv, hr⟩ := h0
            simp at hv
            subst hv
            have hr' : c = .int .u8 n := hr
            subst hr'
            have ht : Flat μ 1 rs cs := ⟨by simpa using hlen, fun r row hr => hf.row (r + 1) row (by simpa using hr), fun r row hr k x hx => by
              obtain ⟨v, hv, hrel⟩ := hf.cell (r + 1) row (by simpa using hr) k x hx
              refine ⟨v, ?_, hrel⟩
              rw [show (r + 1) * 1 + k = (r * 1 + k) + 1 by omega] at hv
              simpa using hv⟩
            rw [bytes_sound hl ht, List.map_cons]
            congr 1
            have : n.toNat < 256 := by omega
            simp [UInt8.toNat_ofNat', Nat.mod_eq_of_lt this, Int.toNat_of_nonneg hn.1]
      · cases h
    · cases h
theorem conv_sound (hτ : TabOk P τ) (hR : Rel P μ H w) {s d : Nat} {x : V} {xv : Value} (hx : VRel μ x xv) {v : V} (h : convV τ s d x = some v) : ∃ cv, (convert s d xv).run P w = .ok cv w ∧ VRel μ v cv := by
  unfold convV at h
  split at h
  rotate_left
  · cases h
  rename_i ts td hs hd
  have hks := (hτ s ts hs).kind
  have hkd := (hτ d td hd).kind
  split at h
  · rename_i k1 k2 k3 n hk1 hk2
    rw [hk1] at hks
    rw [hk2] at hkd
    injection h with h
    subst h
    have hx' : xv = .int k3 n := hx
    subst hx'
    exact ⟨.int k2 (k2.wrap n), by simp [convert, run_underlying (show P.underlying s = _ from hks), run_underlying (show P.underlying d = _ from hkd), Conv.intToInt], rfl⟩
  · rename_i a hk1 hk2
    rw [hk1] at hks
    rw [hk2] at hkd
    injection h with h
    subst h
    have hx' : xv = .string a := hx
    subst hx'
    exact ⟨.string a, by simp [convert, run_underlying (show P.underlying s = _ from hks), run_underlying (show P.underlying d = _ from hkd)], rfl⟩
  · cases h
theorem foldl_bytes : ∀ (l : List UInt8) (s : ByteArray), (l.map fun b => (b.toNat : Int)).foldl (fun r n => r.push (UInt8.ofNat n.toNat)) s = s ++ ⟨l.toArray⟩
  | [], s => by
    apply ByteArray.ext
    simp
  | b :: l, s => by
    rw [List.map_cons, List.foldl_cons, foldl_bytes l]
    apply ByteArray.ext
    apply Array.ext'
    simp
theorem bytesStr_sound (hτ : TabOk P τ) (hR : Rel P μ H w) {s d : Nat} {x : V} {xv : Value} (hx : VRel μ x xv) {v : V} (h : bytesStr τ H s d x = some v) : ∃ cv, (convert s d xv).run P w = .ok cv w ∧ VRel μ v cv := by
  unfold bytesStr at h
  split at h
  rotate_left
  · cases h
  rename_i s1 s2 e s3 s4 d1 d2 d3 d4 a n hs hd
  have hks : P.underlying s = some (.slice e) := (hτ s _ hs).kind
  have hkd : P.underlying d = some .string := (hτ d _ hd).kind
  split at h
  rotate_left
  · cases h
  rename_i e2 e3 e4 he
  have hke : P.underlying e = some (.int .u8) := (hτ e _ he).kind
  split at h
  rotate_left
  · cases h
  rename_i hel
  split at h
  rotate_left
  · cases h
  rename_i ys hys
  cases hb : bytesV ys with
  | none => rw [hb] at h; cases h
  | some bs =>
    rw [hb] at h
    simp only [Option.map_some, Option.some.injEq] at h
    subst h
    refine ⟨.string ⟨bs.toArray⟩, ?_, rfl⟩
    have hx' : LRel μ (.sl a n) xv := hx
    have hz : ∀ id r L, a = some (id, r) → μ id = some L → 0 < n → L.sz = 1 := fun id r L ha2 hL hn => by
      subst ha2
      rcases hel with h0 | h1
      · omega
      · exact elem_sz hτ hR he hL h1
    obtain ⟨cs, hsrc, hflat, hylen⟩ := rowsOf_src hτ hR he hks hx' hz hys
    have hcs := bytes_sound hb hflat
    have key : ∀ (ad : Option Addr) (cap : Nat), xv = .slice ad n cap → (convert s d xv).run P w = .ok (.string ⟨bs.toArray⟩) w := by
      intro ad cap hxv
      subst hxv
      rw [run_convert_bytes_string w s d e ad n cap hks hke hkd]
      have hcells := hsrc.cells
      cases ad with
      | none =>
        have hn0 : n = 0 := by
          rcases a with _ | ⟨id, r⟩
          · exact hx'.1
          · obtain ⟨L, ad, cap, _, h3, _⟩ := hx'; cases h3
        subst hn0
        have hys0 : ys = [] := List.eq_nil_of_length_eq_zero hylen
        subst hys0
        simp [bytesV] at hb
        subst hb
        rfl
      | some ad =>
        have hl : (loadCells ad n).run P w = .ok cs.toArray w := by
          have := hcells
          simpa [Builtin.firstCells] using this
        rw [run_bytesToString w ad n cap (bs.map fun b => (b.toNat : Int)) (by rw [hl, hcs, List.map_map]; rfl), foldl_bytes]
        congr 2
    rcases a with _ | ⟨id, r⟩
    · obtain ⟨h1, h2⟩ := hx'
      exact key none 0 (by rw [h2, h1])
    · obtain ⟨L, ad, cap, _, hv, _⟩ := hx'
      exact key _ _ hv
theorem convW_sound (hτ : TabOk P τ) (hR : Rel P μ H w) {draw : Bool} {s d : Nat} {x : V} {xv : Value} (hx : VRel μ x xv) {v : V} (h : convW τ draw H s d x = some v) : ∃ cv, (convert s d xv).run P w = .ok cv w ∧ VRel μ v cv := by
  unfold convW at h
  split at h
  · rename_i y hy
    injection h with h; subst h
    exact conv_sound hτ hR hx hy
  · split at h
    · cases h
    · exact bytesStr_sound hτ hR hx h
theorem foldI_sound {f : Int → Int → Int} {g : Value → Value → Sem Value} {k : IntKind} (hg : ∀ a b w, (g (.int k a) (.int k b)).run P w = .ok (.int k (f a b)) w) :
    ∀ {vs : List V} {a : Int} {cvs : List Value} {v : V}, All2 (VRel μ) vs cvs → foldI f k a vs = some v → ∀ w, ∃ cv, (cvs.foldlM g (.int k a)).run P w = .ok cv w ∧ VRel μ v cv
  | [], a, cvs, v, hall, h, w => by
    simp [foldI] at h; subst h
    rw [hall.nil_left]
    exact ⟨.int k a, by simp, rfl⟩
  | x :: vs, a, cvs, v, hall, h, w => by
    obtain ⟨c, cs, rfl, hc, hcs⟩ := hall.cons_left
    unfold foldI at h
    split at h
    · rename_i he; cases he
    · rename_i k' b vs' he
      injection he with he1 he2
      subst he1 he2
      split at h
      · rename_i hk
        subst hk
        have hc' : c = .int k b := hc
        subst hc'
        obtain ⟨cv, hr, hv⟩ := foldI_sound hg hcs h w
        refine ⟨cv, ?_, hv⟩
        rw [List.foldlM_cons]
        simp only [Sem.run_bind, hg, Result.andThen_ok, hr]
      · cases h
    · cases h
theorem clear_sound (hτ : TabOk P τ) (hR : Rel P μ H w) {t e : Nat} (ht : P.underlying t = some (.slice e)) {a : Option (Nat × Nat)} {n : Nat} {xv : Value} (hx : LRel μ (.sl a n) xv) {H' : Heap} (h : clearV τ H a n e = some H') (ty : Nat) :
    ∃ w', (Builtin.clear_ #[t] ty #[xv]).run P w = .ok undef w' ∧ Stp P μ H w μ H' w' := by
  unfold clearV at h
  split at h
  · rename_i h0
    subst h0
    injection h with h
    subst h
    rcases a with _ | ⟨id, r⟩
    · obtain ⟨_, rfl⟩ := hx
      exact ⟨w, by simp [Builtin.clear_, run_underlying ht]; rfl, Stp.refl hR⟩
    · obtain ⟨L, ad, cap, _, rfl, _⟩ := hx
      exact ⟨w, by simp [Builtin.clear_, run_underlying ht]; rfl, Stp.refl hR⟩
  rename_i hn
  split at h
  rotate_left
  · cases h
  rename_i te id r hte
  split at h
  rotate_left
  · cases h
  rename_i b hb
  split at h
  rotate_left
  · cases h
  rename_i hc
  obtain ⟨hmd, helem, hin⟩ := hc
  injection h with h
  subst h
  obtain ⟨L, ad, cap, hL, rfl, hle, had, _, hwcap⟩ := hx
  have had' := had (by omega)
  subst had'
  have hty := hτ e te hte
  have hB := hR.blk id L b hL (blkAt_some hb)
  have hw : L.md = .wr := by rw [← hB.md]; exact hmd
  have hLsz : L.sz = te.size := by rw [hB.sz, ← hB.elem, helem, hty.size]
  obtain ⟨hshape, hfrozen, hfit0⟩ := hB.own hw
  obtain ⟨z, hz, hzc, _⟩ := run_zeroValue' hty w
  have hzr : All2 (LRel μ) te.zero z.cells.toList := by rw [hzc]; exact hty.zero_rel
  have hzs : z.cells.size = te.size := by rw [← Array.length_toList, hzc, List.length_map, hty.zlen]
  have hzeq : Builtin.zeroCells z.cells n = madeCells z.cells (n * te.size) := by simp [Builtin.zeroCells, madeCells, hzs]
  have hflat := made_flat hzr hty.zlen n
  rw [← hzeq] at hflat
  have hcl : (Builtin.zeroCells z.cells n).toList.length = n * te.size := by rw [hflat.len]; simp
  have hmn : (r + n) * te.size ≤ L.n * te.size := Nat.mul_le_mul_right _ (by rw [← hB.rows]; exact hin)
  rw [Nat.add_mul] at hmn
  rw [hLsz] at hfit0
  have hst := run_storeCells_cells (P := P) L.b (L.o + r * L.sz) (Builtin.zeroCells z.cells n).toList 0 w (fun j hj => cell_of_shape hshape _ (by rw [hLsz]; omega)) (fun j _ => hfrozen _) hflat.one
  rw [Nat.add_zero] at hst
  refine ⟨_, ?_, Stp.put hR hL (blkAt_some hb) hw _ (w.setCells L.b (L.o + r * L.sz) (Builtin.zeroCells z.cells n).toList) (fun x hx => heap_setCells_ne _ _ _ _ _ hx) (size_setCells _ _ _ _) (os_setCells _ _ _ _) ?_⟩
  · cases n with
    | zero => exact absurd rfl hn
    | succ n => simp [Builtin.clear_, run_underlying ht, hz, hst]; rfl
  · have htl : (b.rows.take r).length = r := by simp; omega
    refine hB.over hw (r * L.sz) _ (by rw [hLsz, hcl]; omega) _ (by simp; omega) ?_ ?_
    · intro r' row' hr'
      rw [List.append_assoc] at hr'
      rcases Nat.lt_or_ge r' r with h1 | h1
      · rw [List.getElem?_append_left (by omega), List.getElem?_take] at hr'
        simp only [h1, if_true] at hr'
        exact hB.row r' row' hr'
      · rw [List.getElem?_append_right (by omega)] at hr'
        rcases Nat.lt_or_ge r' (r + n) with h2 | h2
        · rw [List.getElem?_append_left (by simp; omega)] at hr'
          rw [hLsz]; exact hflat.row _ row' hr'
        · rw [List.getElem?_append_right (by simp; omega), List.getElem?_drop] at hr'
          exact hB.row _ row' hr'
    · intro r' row' hr' k l hl
      rw [List.append_assoc] at hr'
      rcases Nat.lt_or_ge r' r with h1 | h1
      · rw [List.getElem?_append_left (by omega), List.getElem?_take] at hr'
        simp only [h1, if_true] at hr'
        refine .inr ⟨.inl ?_, row', hr', hl⟩
        have hk : k < L.sz := by rw [← hB.row r' row' hr']; exact (List.getElem?_eq_some_iff.1 hl).1
        have : (r' + 1) * L.sz ≤ r * L.sz := Nat.mul_le_mul_right _ h1
        rw [Nat.add_mul, Nat.one_mul] at this
        omega
      · rw [List.getElem?_append_right (by omega), htl] at hr'
        rcases Nat.lt_or_ge r' (r + n) with h2 | h2
        · rw [List.getElem?_append_left (by simp; omega)] at hr'
          obtain ⟨x, hx, hrel⟩ := hflat.cell _ row' hr' k l hl
          have e1 : r' * L.sz = r * L.sz + (r' - r) * L.sz := by rw [← Nat.add_mul]; congr 1; omega
          refine .inl ⟨x, by omega, ?_, hrel⟩
          rw [← hx, hLsz]
          rw [hLsz] at e1
          congr 1
          omega
        · rw [List.getElem?_append_right (by simp; omega), List.getElem?_drop] at hr'
          refine .inr ⟨.inr ?_, row', ?_, hl⟩
          · rw [hcl, ← hLsz, ← Nat.add_mul]
            exact Nat.le_trans (Nat.mul_le_mul_right _ h2) (Nat.le_add_right _ _)
          · rw [← hr']; congr 1; simp; omega
end Go.Ab

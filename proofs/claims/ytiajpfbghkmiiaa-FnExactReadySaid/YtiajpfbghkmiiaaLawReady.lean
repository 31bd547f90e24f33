/- The law FnExactReady of the given program returns true for every input: its given statement, proved without any condition. -/
import Derived.Test.YtiajpfbghkmiiaaWalkReady
import Derived.Test.YtiajpfbghkmiiaaRows
set_option maxRecDepth 100000
set_option maxHeartbeats 4000000
set_option linter.unusedSimpArgs false
set_option linter.unusedVariables false
set_option linter.unnecessarySimpa false
namespace Go.Proofs.Ytiajpfbghkmiiaa
open Go Go.Ab Go.ChangeShapes Go.WideShapes Go.ChangeAt Go.RowKit
namespace W
theorem law (H : Heap) (a : Option (Nat × Nat)) (m : Minder) (pair : Int) (h : Sl H 63 a (m.log.map In.enc)) (hl : m.log.length ≤ maxLen) :
    Runs env 3 [.agg (m.enc a), .int pair] H fun v _ => v = .bool true := by
  have e0 := fun H => szMinder H a m 1048576 (by omega) (by omega) hl
  refine Runs.walk ok3 Try.func3 rfl (by simp [Try.f3]) fun Q hQ => ?_
  simp only [Try.f3, strip, stripL, stripI, stripG, chkT, tagsB, tagsL, tagD, addT, tagA, lookN, tagOp, elmT, ty22, ty27, ty33, ty37, ty39, ty72, ty73, ty74, ty79, ty80, ty81, ty87, ty88, ty93, ty94, ty103, ty162, ty190, ty206, Nat.reduceEqDiff, if_false, reduceIte, Option.getD_some, Option.getD_none, dstAt, dstOk, Nat.reduceLT, decide_true, if_true]
  have e1 := fun H h hn => toMinder H a m h hn
  simp [e0]
  by_cases hb : (1048576 : Int) < m.log.length
  · simp [hb]
    refine hQ _ _ _ (by simp) ?_
    simp [Try.f3]
  · have hn : m.log.length ≤ 1048576 := by omega
    have e2 := fun H p => specReady H p m pair
    have e3 := fun H p => implReady H p m pair
    have e4 := fun H p q hp hq => eqMinder H p q m m hp hq hn
    have hz : ¬ (1048576 - (m.log.length : Int) < 0) := by omega
    simp [hb, hz, e1, e2, e3, e4, Sl.of, h.app, hn]
    refine hQ _ _ _ (by simp) ?_
    simp [Try.f3]
theorem law_args (H : Heap) (l k : List Lf) (h : Shp Try.prog H 8 24 l) (h2 : Shp Try.prog H 8 3 k) : ∃ H', run env 3 [argV env.P 24 l, argV env.P 3 k] H = some (.bool true, H') := by
  obtain ⟨m, a, rfl, hs, hl⟩ := shpMinder h
  obtain ⟨p, rfl, -⟩ := h2.i64 Try.underlying3
  rw [argV_struct (by rw [env_P]; exact Try.underlying24), argV_int (by rw [env_P]; exact Try.underlying3)]
  obtain ⟨v, H', hr, rfl⟩ := law H a m p hs hl
  exact ⟨H', hr⟩
theorem own : ownKnob Try.prog.godebug = none := by kernel_rfl
theorem lifted (os : Os) (started : os.Started) (H : Type) (enc : TypeId × Value → H) :
    ReturnsInHanded {} Try.checked os 3 .any (Rows.fnExactReadySpec.pre6 enc Try.prog Try.f3 Rows.fnExactReadyRow.domain false) (Rows.fnExactReadySpec.post enc Try.prog Try.f3 false true false false) := by
  refine returnsInHanded_of_change (C := Try.checked) own started (by as_aux_lemma => kernel_rfl) Try.func3
    (ChangeSpec.witness6 (enc := enc) (C := Try.checked) false ⟨#[], #[.agg #[.bool false, .int .i64 0, .int .i64 0, .slice none 0 0, .int .i64 0, .int .i64 0, .int .i64 0], .int .i64 0], []⟩ 8 (by as_aux_lemma => kernel_rfl) (by as_aux_lemma => kernel_rfl) (by as_aux_lemma => kernel_rfl) (by as_aux_lemma => kernel_rfl)) ?_
  intro W base args ds gs before hval hW hcnd _
  refine lawful (E := env) (k := 8) (tb := 4) sound_all (by as_aux_lemma => kernel_rfl) rfl Try.underlying4 rfl (fun ds hds => ?_) (fun H lss hn hl hs => ?_) hval hW
  · match ds, hds with
    | [d0, d1], _ => rfl
  · match lss, hl with
    | [l0, l1], _ => exact law_args H l0 l1 (hs 0 24 l0 rfl rfl) (hs 1 3 l1 rfl rfl)
theorem holds : Rows.FnExactReadySaid :=
  OpenClaim.holds_of_wide 3 Try.f3 rfl rfl rfl rfl rfl rfl rfl ⟨rfl, rfl, rfl, rfl, rfl⟩ rfl rfl rfl rfl rfl (by as_aux_lemma => kernel_rfl) Try.func3 (by as_aux_lemma => kernel_rfl)
    (of_decide_eq_true (by as_aux_lemma => kernel_rfl)) (by unfold Func.isWrapper; first | (rw [if_pos (by decide +kernel)]; kernel_rfl) | (rw [if_neg (by decide +kernel)]; exact ⟨rfl, rfl⟩))
    (fun os started H enc _ => lifted os started H enc)
end W
end Go.Proofs.Ytiajpfbghkmiiaa

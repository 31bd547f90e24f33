/- The law FnNets of the given program returns true for every input: its given statement, proved without any condition. -/
import Derived.Test.YtjgjjaidpceieaaWalkNets2
import Derived.Test.YtjgjjaidpceieaaRows
set_option maxRecDepth 100000
set_option maxHeartbeats 4000000
set_option linter.unusedSimpArgs false
set_option linter.unusedVariables false
set_option linter.unnecessarySimpa false
namespace Go.Proofs.Ytjgjjaidpceieaa
open Go Go.Ab Go.ChangeShapes Go.WideShapes Go.ChangeAt Go.RowKit
namespace W
theorem law_args (H : Heap) (l0 : List Lf) (s0 : Shp Try.prog H 8 22 l0) : ∃ H', run env 3 [argV env.P 22 l0] H = some (.bool true, H') := by
  obtain ⟨bs, a, rfl, hs, -, -⟩ := s0.sl (f := encU) (R := fun _ => True) Try.underlying22 fun row hr => let ⟨x, hx, _⟩ := hr.int Try.underlying5; ⟨x, hx, trivial⟩
  rw [argV_slice (by rw [env_P]; exact Try.underlying22)]
  obtain ⟨v, H', hr, rfl⟩ := netsLaw hs
  exact ⟨H', hr⟩
theorem own : ownKnob Try.prog.godebug = none := by kernel_rfl
theorem lifted (os : Os) (started : os.Started) (H : Type) (enc : TypeId × Value → H) :
    ReturnsInHanded {} Try.checked os 3 .any (Rows.fnNetsSpec.pre6 enc Try.prog Try.f3 Rows.fnNetsRow.domain false) (Rows.fnNetsSpec.post enc Try.prog Try.f3 false true false false) := by
  refine returnsInHanded_of_change (C := Try.checked) own started (by as_aux_lemma => kernel_rfl) Try.func3
    (ChangeSpec.witness6 (enc := enc) (C := Try.checked) false ⟨#[], #[.slice none 0 0], []⟩ 8 (by as_aux_lemma => kernel_rfl) (by as_aux_lemma => kernel_rfl) (by as_aux_lemma => kernel_rfl) (by as_aux_lemma => kernel_rfl)) ?_
  intro W base args ds gs before hval hW hcnd _
  refine lawful (E := env) (k := 8) (tb := 4) sound_all (by as_aux_lemma => kernel_rfl) rfl Try.underlying4 rfl (fun ds hds => ?_) (fun H lss hn hl hs => ?_) hval hW
  · match ds, hds with
    | [d0], _ => rfl
  · match lss, hl with
    | [l0], _ => exact law_args H l0 (hs 0 22 l0 rfl rfl)
theorem holds : Rows.FnNetsSaid :=
  OpenClaim.holds_of_wide 3 Try.f3 rfl rfl rfl rfl rfl rfl rfl ⟨rfl, rfl, rfl, rfl, rfl⟩ rfl rfl rfl rfl rfl (by as_aux_lemma => kernel_rfl) Try.func3 (by as_aux_lemma => kernel_rfl)
    (of_decide_eq_true (by as_aux_lemma => kernel_rfl)) (by unfold Func.isWrapper; first | (rw [if_pos (by decide +kernel)]; kernel_rfl) | (rw [if_neg (by decide +kernel)]; exact ⟨rfl, rfl⟩))
    (fun os started H enc _ => lifted os started H enc)
end W
end Go.Proofs.Ytjgjjaidpceieaa

/- The law FnExactRegOk of the given program returns true for every input: its given statement, proved without any condition. -/
import Derived.Test.YtlkjnjaibdicjaaAbEnvRegOk
import Derived.Test.YtlkjnjaibdicjaaRows
set_option maxRecDepth 100000
set_option linter.unusedSimpArgs false
set_option linter.unusedVariables false
namespace Go.Proofs.Ytlkjnjaibdicjaa
open Go Go.Ab Go.ChangeShapes Go.WideShapes Go.ChangeAt Go.RowKit
namespace W
attribute [local simp] loadT storeT loadV storeV fieldAddrV boxT TI.agg putRow
theorem inRange (H : Heap) (n a b : Int) : run env 45 [.int n, .int a, .int b] H = some (.bool (decide (a ≤ n) && decide (n ≤ b)), H) := by
  refine run_walk ok45 Try.func45 rfl (by simp [Try.f45]) fun Q hQ => ?_
  simp only [Try.f45, strip, stripL, stripI, stripG, dstAt, dstOk, Nat.reduceLT, decide_true, if_true]
  simp
  repeat' (first | (refine gdL_t (fun h => ?_) (fun h => ?_) <;> simp [h]))
  all_goals (refine hQ _ _ _ (by simp) ?_)
  all_goals (clear hQ; simp_all <;> omega)
theorem l1In (H : Heap) (n a b : Int) : run env 44 [.int n, .int a, .int b] H = some (.bool (decide (a ≤ n) && decide (n ≤ b)), H) := by
  refine run_walk ok44 Try.func44 rfl (by simp [Try.f44]) fun Q hQ => ?_
  simp only [Try.f44, strip, stripL, stripI, stripG, dstAt, dstOk, Nat.reduceLT, decide_true, if_true]
  simp
  repeat' (first | (refine gdL_t (fun h => ?_) (fun h => ?_) <;> simp [h]))
  all_goals (refine hQ _ _ _ (by simp) ?_)
  all_goals (clear hQ; simp_all <;> omega)
theorem isNum (H : Heap) (n : Int) : run env 47 [.int n] H = some (.bool (decide (0 ≤ n) && decide (n ≤ 100000)), H) := by
  refine run_walk ok47 Try.func47 rfl (by simp [Try.f47]) fun Q hQ => ?_
  simp only [Try.f47, strip, stripL, stripI, stripG, dstAt, dstOk, Nat.reduceLT, decide_true, if_true]
  simp [inRange]
  all_goals (refine hQ _ _ _ (by simp) ?_)
  all_goals (clear hQ; simp_all)
theorem isSide (H : Heap) (n : Int) : run env 46 [.int n] H = some (.bool (decide (n = 0) || decide (n = 1)), H) := by
  refine run_walk ok46 Try.func46 rfl (by simp [Try.f46]) fun Q hQ => ?_
  simp only [Try.f46, strip, stripL, stripI, stripG, dstAt, dstOk, Nat.reduceLT, decide_true, if_true]
  simp
  repeat' (first | (refine gdL_t (fun h => ?_) (fun h => ?_) <;> simp [h]) | (refine gdL_f (fun h => ?_) (fun h => ?_) <;> simp [h]))
  all_goals (refine hQ _ _ _ (by simp) ?_)
  all_goals (clear hQ; simp_all)
structure Reg where
  epoch : Int
  owner : Int
  pair : Int
def Reg.enc (r : Reg) : List Lf := [.i .i64 r.epoch, .i .i64 r.owner, .i .i64 r.pair]
theorem toReg (H : Heap) (r : Reg) : run env 10 [.agg r.enc] H = some (.agg r.enc, H) := by
  refine run_walk ok10 Try.func10 rfl (by simp [Try.f10]) fun Q hQ => ?_
  simp only [Try.f10, strip, stripL, stripI, stripG, dstAt, dstOk, Nat.reduceLT, decide_true, if_true]
  simp [Reg.enc]
  all_goals (refine hQ _ _ _ (by simp) ?_)
  all_goals (clear hQ; simp [Try.f10, Reg.enc])
theorem specRegOk (H : Heap) (r : Reg) : run env 9 [.agg r.enc] H = some (.bool (decide (1 ≤ r.epoch) && decide (r.epoch ≤ 100000) && (decide (0 ≤ r.owner) && decide (r.owner ≤ 1)) && (decide (0 ≤ r.pair) && decide (r.pair ≤ 100000))), H) := by
  refine run_walk ok9 Try.func9 rfl (by simp [Try.f9]) fun Q hQ => ?_
  simp only [Try.f9, strip, stripL, stripI, stripG, dstAt, dstOk, Nat.reduceLT, decide_true, if_true]
  simp [Reg.enc, l1In]
  repeat' (first | (refine gdL_t (fun h => ?_) (fun h => ?_) <;> simp [h, l1In]) | (refine gdL_f (fun h => ?_) (fun h => ?_) <;> simp [h, l1In]))
  all_goals (refine hQ _ _ _ (by simp) ?_)
  all_goals (clear hQ; simp_all [Try.f9] <;> omega)
theorem implRegOk (H : Heap) (r : Reg) : run env 11 [.agg r.enc] H = some (.bool (decide (1 ≤ r.epoch) && decide (r.epoch ≤ 100000) && (decide (0 ≤ r.owner) && decide (r.owner ≤ 1)) && (decide (0 ≤ r.pair) && decide (r.pair ≤ 100000))), H) := by
  refine run_walk ok11 Try.func11 rfl (by simp [Try.f11]) fun Q hQ => ?_
  simp only [Try.f11, strip, stripL, stripI, stripG, dstAt, dstOk, Nat.reduceLT, decide_true, if_true]
  simp [Reg.enc, inRange, isSide, isNum]
  repeat' (first | (refine gdL_t (fun h => ?_) (fun h => ?_) <;> simp [h, inRange, isSide, isNum]) | (refine gdL_f (fun h => ?_) (fun h => ?_) <;> simp [h, inRange, isSide, isNum]))
  all_goals (refine hQ _ _ _ (by simp) ?_)
  all_goals (clear hQ; simp_all [Try.f11] <;> omega)
  all_goals trace_state
theorem law (H : Heap) (r : Reg) : run env 3 [.agg r.enc] H = some (.bool true, H) := by
  refine run_walk ok3 Try.func3 rfl (by simp [Try.f3]) fun Q hQ => ?_
  simp only [Try.f3, strip, stripL, stripI, stripG, dstAt, dstOk, Nat.reduceLT, decide_true, if_true]
  have e := toReg
  have e1 := specRegOk
  have e2 := implRegOk
  simp only [Reg.enc] at e e1 e2
  simp [Reg.enc, e, e1, e2]
  all_goals (refine hQ _ _ _ (by simp) ?_)
  all_goals (clear hQ; simp [Try.f3])

theorem own : ownKnob Try.prog.godebug = none := by kernel_rfl
theorem shpReg {H : Heap} {k : Nat} {l : List Lf} (h : Shp Try.prog H (k + 2) 23 l) : ∃ r : Reg, l = r.enc := by
  obtain ⟨_, _, rfl, h1, _, _, rfl, h2, _, _, rfl, h3, rfl⟩ := h.struct Try.underlying23
  obtain ⟨a, rfl, -⟩ := h1.i64 Try.underlying3
  obtain ⟨b, rfl, -⟩ := h2.i64 Try.underlying3
  obtain ⟨c, rfl, -⟩ := h3.i64 Try.underlying3
  exact ⟨⟨a, b, c⟩, rfl⟩
theorem lifted (os : Os) (started : os.Started) (H : Type) (enc : TypeId × Value → H) :
    ReturnsInHanded {} Try.checked os 3 .any (Rows.fnExactRegOkSpec.pre6 enc Try.prog Try.f3 Rows.fnExactRegOkRow.domain false) (Rows.fnExactRegOkSpec.post enc Try.prog Try.f3 false true false false) := by
  refine returnsInHanded_of_change (C := Try.checked) own started (by kernel_rfl) Try.func3
    (ChangeSpec.witness6 (enc := enc) (C := Try.checked) false ⟨#[], #[.agg #[.int .i64 0, .int .i64 0, .int .i64 0]], []⟩ 8 (by kernel_rfl) (by kernel_rfl) (by kernel_rfl) (by kernel_rfl)) ?_
  intro W base args ds gs before hval hW hcnd _
  refine lawful (E := env) (k := 8) (tb := 4) sound_all (by kernel_rfl) rfl Try.underlying4 rfl (fun ds hds => ?_) (fun H lss hn hl hs => ?_) hval hW
  · match ds, hds with
    | [d], _ => rfl
  · match lss, hl with
    | [l], _ =>
      obtain ⟨r, rfl⟩ := shpReg (hs 0 23 l rfl rfl)
      refine ⟨H, ?_⟩
      have : List.zipWith (argV env.P) Try.f3.params.toList [r.enc] = [.agg r.enc] := by
        simp [Try.f3, argV, env_P, Try.underlying23]
      rw [this]
      exact law H r
theorem holds : Rows.FnExactRegOkSaid :=
  OpenClaim.holds_of_wide 3 Try.f3 rfl rfl rfl rfl rfl rfl rfl ⟨rfl, rfl, rfl, rfl, rfl⟩ rfl rfl rfl rfl rfl (by kernel_rfl) Try.func3 (by kernel_rfl)
    (of_decide_eq_true (by kernel_rfl)) (by unfold Func.isWrapper; first | (rw [if_pos (by decide +kernel)]; kernel_rfl) | (rw [if_neg (by decide +kernel)]; exact ⟨rfl, rfl⟩))
    (fun os started H enc _ => lifted os started H enc)
end W
end Go.Proofs.Ytlkjnjaibdicjaa

/- The law FnExactJudgeAll of the given program returns true for every input: its given statement, proved without any condition. -/
import Derived.Test.YtnphceekmfmbcaaGreatWalkJudgeAll1
import Derived.Test.YtnphceekmfmbcaaGreatRows
set_option maxRecDepth 100000
set_option maxHeartbeats 4000000
set_option linter.unusedSimpArgs false
set_option linter.unusedVariables false
set_option linter.unnecessarySimpa false
namespace Go.Proofs.YtnphceekmfmbcaaGreat
open Go Go.Ab Go.ChangeShapes Go.WideShapes Go.ChangeAt Go.RowKit
namespace W
theorem law (H : Heap) (lX : List Lf) (xX : Box) (hX : RdLBox H lX xX) (ftX : xX.fit) :
    Runs env 3 [.agg lX] H fun v _ => v = .bool true := by
  refine Runs.walk ok3 Tryz.func3 rfl (by simp [Tryz.f3]) fun Q hQ => ?_
  simp only [Tryz.f3, strip, stripL, stripI, stripG, chkT, tagsB, tagsL, tagD, addT, tagA, lookN, tagOp, elmT, ty24, ty25, ty26, ty27, ty28, ty34, ty35, ty36, ty37, ty59, ty61, ty64, ty100, Nat.reduceEqDiff, if_false, reduceIte, Option.getD_some, Option.getD_none, dstAt, dstOk, Nat.reduceLT, decide_true, if_true]
  have lXL := hX.len
  have lXT : lX.take lX.length = lX := List.take_length
  rw [lXL] at lXT
  simp [lXL, lXT]
  have esX := szBox_is hX ftX (left := 1048576) (by omega) (by omega) 
  simp [lXL, lXT, esX]
  by_cases hbX : (1048576 : Int) < xX.sz
  · simp [hbX]
    refine hQ _ _ _ (by simp) ?_
    simp [Tryz.f3]
  have hnX : xX.sz ≤ 1048576 := by omega
  have hzX : ¬ ((1048576 - (xX.sz : Int)) < 0) := by omega
  simp [lXL, lXT, hbX, hzX]
  first | refine stpL_runs (toBox_is (hX.app _) hnX) ?_ | (refine stpL_runs_f (toBox_is (hX.app _) hnX) ?_ ?_; (rintro _ _ ⟨_, _, _, _, hf⟩; exact hf.1))
  rintro _ H1 ⟨l_wX, f_wX, rfl, o_wX, fr1⟩
  have kp1 : Keep [] H H1 := fr1.base.kp
  have le1 : H.length ≤ H1.length := kp1.1
  have k0 : Keep [] H H1 := (Keep.refl [] H).next kp1 (by simp)
  have x1_0 : blkAt H1 (H.length) = some ⟨30, .wr, [lX]⟩ := fr1.kp.blk (by simp) (by simp)
  have nx1_0 := blkAt_len x1_0
  have zx1_0 := nx1_0
  have lo_f_wX : ∀ i ∈ f_wX, H.length + 1 ≤ i := fun i hi => by have := fr1.2 i hi; (try simp at this); omega
  have hi_f_wX := o_wX.lt
  have l_wXL := o_wX.len
  have l_wXT : l_wX.take l_wX.length = l_wX := List.take_length
  rw [l_wXL] at l_wXT
  simp [lXL, lXT, l_wXL, l_wXT, l_wXL, x1_0, nx1_0]
  have ee1 := specJudgeAll_is (o_wX) hnX
  simp [lXL, lXT, l_wXL, l_wXT, l_wXL, x1_0, nx1_0, ee1]
  first | refine stpL_runs (toBox_is (hX.base k0) hnX) ?_ | (refine stpL_runs_f (toBox_is (hX.base k0) hnX) ?_ ?_; (rintro _ _ ⟨_, _, _, _, hf⟩; exact hf.1))
  rintro _ H2 ⟨l_x0, f_x0, rfl, o_x0, fr2⟩
  have kp2 : Keep [] H1 H2 := fr2.kp
  have le2 : H1.length ≤ H2.length := kp2.1
  replace k0 := k0.next kp2 (by simp)
  replace x1_0 := kp2.blk x1_0 (by simp)
  replace nx1_0 := blkAt_len x1_0
  replace o_wX := o_wX.keep kp2 (by simp)
  have lo_f_x0 : ∀ i ∈ f_x0, H1.length + 0 ≤ i := fun i hi => by have := fr2.2 i hi; (try simp at this); omega
  have hi_f_x0 := o_x0.lt
  have l_x0L := o_x0.len
  have l_x0T : l_x0.take l_x0.length = l_x0 := List.take_length
  rw [l_x0L] at l_x0T
  simp [lXL, lXT, l_wXL, l_wXT, l_wXL, l_x0L, l_x0T, l_x0L, x1_0, nx1_0]
  have ee2 := fun G_ => implJudgeAll_is (o_x0.app G_) hnX
  simp [lXL, lXT, l_wXL, l_wXT, l_wXL, l_x0L, l_x0T, l_x0L, x1_0, nx1_0, ee2]
  try simp [lXL, lXT, l_wXL, l_wXT, l_wXL, l_x0L, l_x0T, l_x0L, x1_0, nx1_0]
  first | refine stpL_runs (toBox_is ((hX.base k0).app _) hnX) ?_ | (refine stpL_runs_f (toBox_is ((hX.base k0).app _) hnX) ?_ ?_; (rintro _ _ ⟨_, _, _, _, hf⟩; exact hf.1))
  rintro _ H3 ⟨l_yx0, f_yx0, rfl, o_yx0, fr3⟩
  have kp3 : Keep [] H2 H3 := fr3.base.kp
  have le3 : H2.length ≤ H3.length := kp3.1
  replace k0 := k0.next kp3 (by simp)
  replace x1_0 := kp3.blk x1_0 (by simp)
  replace nx1_0 := blkAt_len x1_0
  replace o_wX := o_wX.keep kp3 (by simp)
  replace o_x0 := o_x0.keep kp3 (by simp)
  have x3_0 : blkAt H3 (H2.length) = some ⟨39, .wr, [l_x0]⟩ := fr3.kp.blk (by simp) (by simp)
  have nx3_0 := blkAt_len x3_0
  have zx3_0 := nx3_0
  have lo_f_yx0 : ∀ i ∈ f_yx0, H2.length + 1 ≤ i := fun i hi => by have := fr3.2 i hi; (try simp at this); omega
  have hi_f_yx0 := o_yx0.lt
  have l_yx0L := o_yx0.len
  have l_yx0T : l_yx0.take l_yx0.length = l_yx0 := List.take_length
  rw [l_yx0L] at l_yx0T
  have ee3 := eqBox_is o_x0.rd o_yx0.rd hnX
  simp [lXL, lXT, l_wXL, l_wXT, l_wXL, l_x0L, l_x0T, l_x0L, l_yx0L, l_yx0T, l_yx0L, x1_0, x3_0, nx1_0, nx3_0, ee3]
  refine hQ _ _ _ (by simp) ?_
  simp [Tryz.f3]
theorem law_args (H : Heap) (lX : List Lf) (sX : Shp Tryz.prog H 8 30 lX) : ∃ H', run env 3 [argV env.P 30 lX] H = some (.bool true, H') := by
  obtain ⟨xX, hX, ftX⟩ := shpBox_is sX
  rw [argV_struct (by rw [env_P]; exact Tryz.underlying30)]
  obtain ⟨v, H', hr, rfl⟩ := law H lX xX hX ftX
  exact ⟨H', hr⟩
theorem own : ownKnob Tryz.prog.godebug = none := by kernel_rfl
theorem lifted (os : Os) (started : os.Started) (H : Type) (enc : TypeId × Value → H) :
    ReturnsInHanded {} Tryz.checked os 3 .any (Rows.fnExactJudgeAllSpec.pre6 enc Tryz.prog Tryz.f3 Rows.fnExactJudgeAllRow.domain false) (Rows.fnExactJudgeAllSpec.post enc Tryz.prog Tryz.f3 false true false false) := by
  refine returnsInHanded_of_change (C := Tryz.checked) own started (by as_aux_lemma => kernel_rfl) Tryz.func3
    (ChangeSpec.witness6 (enc := enc) (C := Tryz.checked) false ⟨#[], #[.agg #[.int .i64 0, .int .i64 0, .int .i64 0, .int .i64 0, .int .i64 0, .slice none 0 0, .slice none 0 0, .slice none 0 0, .slice none 0 0, .slice none 0 0]], []⟩ 8 (by as_aux_lemma => kernel_rfl) (by as_aux_lemma => kernel_rfl) (by as_aux_lemma => kernel_rfl) (by as_aux_lemma => kernel_rfl)) ?_
  intro W base args ds gs before hval hW hcnd _
  refine lawful (E := env) (k := 8) (tb := 4) sound_all (by as_aux_lemma => kernel_rfl) rfl Tryz.underlying4 rfl (fun ds hds => ?_) (fun H lss hn hl hs => ?_) hval hW
  · match ds, hds with
    | [d0], _ => rfl
  · match lss, hl with
    | [l0], _ => exact law_args H l0 (hs 0 30 l0 rfl rfl)
theorem holds : Rows.FnExactJudgeAllSaid :=
  OpenClaim.holds_of_wide 3 Tryz.f3 rfl rfl rfl rfl rfl rfl rfl ⟨rfl, rfl, rfl, rfl, rfl⟩ rfl rfl rfl rfl rfl (by as_aux_lemma => kernel_rfl) Tryz.func3 (by as_aux_lemma => kernel_rfl)
    (of_decide_eq_true (by as_aux_lemma => kernel_rfl)) (by unfold Func.isWrapper; first | (rw [if_pos (by decide +kernel)]; kernel_rfl) | (rw [if_neg (by decide +kernel)]; exact ⟨rfl, rfl⟩))
    (fun os started H enc _ => lifted os started H enc)
end W
end Go.Proofs.YtnphceekmfmbcaaGreat

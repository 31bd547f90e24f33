/- The law FnExactPairs of the given program returns true for every input: its given statement, proved without any condition. -/
import Derived.Test.YtonkofgdncgolaaWalkPairs
import Derived.Test.YtonkofgdncgolaaRows
set_option maxRecDepth 100000
set_option maxHeartbeats 4000000
set_option linter.unusedSimpArgs false
set_option linter.unusedVariables false
set_option linter.unnecessarySimpa false
namespace Go.Proofs.Ytonkofgdncgolaa
open Go Go.Ab Go.ChangeShapes Go.WideShapes Go.ChangeAt Go.RowKit
namespace W
theorem law (H : Heap) (xR : Reg) (xS : Int) (hS : I64 xS) (lM : List Lf) (xM : Minder) (hM : RdLMinder H lM xM) (ftM : xM.fit) (xPair : Int) (hPair : I64 xPair) :
    Runs env 7 [.agg xR.enc, .int xS, .agg lM, .int xPair] H fun v _ => v = .bool true := by
  refine Runs.walk ok7 Try.func7 rfl (by simp [Try.f7]) fun Q hQ => ?_
  simp only [Try.f7, strip, stripL, stripI, stripG, chkT, tagsB, tagsL, tagD, addT, tagA, lookN, tagOp, elmT, ty28, ty32, ty34, ty43, ty48, ty74, ty75, ty76, ty81, ty82, ty83, Nat.reduceEqDiff, if_false, reduceIte, Option.getD_some, Option.getD_none, dstAt, dstOk, Nat.reduceLT, decide_true, if_true]
  have lML := hM.len
  have lMT : lM.take lM.length = lM := List.take_length
  rw [lML] at lMT
  simp [toReg, lML, lMT]
  have esM := szMinder_is hM ftM (left := 1048576) (by omega) (by omega) 
  simp [toReg, lML, lMT, esM]
  by_cases hbM : (1048576 : Int) < xM.sz
  · simp [hbM]
    refine hQ _ _ _ (by simp) ?_
    simp [Try.f7]
  have hnM : xM.sz ≤ 1048576 := by omega
  have hzM : ¬ ((1048576 - (xM.sz : Int)) < 0) := by omega
  simp [toReg, lML, lMT, hbM, hzM]
  first | refine stpL_runs (toMinder_is (hM.app _) hnM) ?_ | (refine stpL_runs_f (toMinder_is (hM.app _) hnM) ?_ ?_; (rintro _ _ ⟨_, _, _, _, hf⟩; exact hf.1))
  rintro _ H1 ⟨l_wM, f_wM, rfl, o_wM, fr1⟩
  have kp1 : Keep [] H H1 := fr1.base.kp
  have le1 : H.length ≤ H1.length := kp1.1
  have k0 : Keep [] H H1 := (Keep.refl [] H).next kp1 (by simp)
  have x1_0 : blkAt H1 (H.length) = some ⟨23, .wr, [xR.enc]⟩ := fr1.kp.blk (by simp) (by simp)
  have nx1_0 := blkAt_len x1_0
  have zx1_0 := nx1_0
  have x1_1 : blkAt H1 (H.length + 1) = some ⟨45, .wr, [lM]⟩ := fr1.kp.blk (by simp) (by simp)
  have nx1_1 := blkAt_len x1_1
  have zx1_1 := nx1_1
  have lo_f_wM : ∀ i ∈ f_wM, H.length + 2 ≤ i := fun i hi => by have := fr1.2 i hi; (try simp at this); omega
  have hi_f_wM := o_wM.lt
  have l_wML := o_wM.len
  have l_wMT : l_wM.take l_wM.length = l_wM := List.take_length
  rw [l_wML] at l_wMT
  simp [toReg, lML, lMT, l_wML, l_wMT, l_wML, x1_0, x1_1, nx1_0, nx1_1]
  have ee1 := specPairs_is (o_wM).rd hnM xR xS hS xPair hPair
  simp [toReg, lML, lMT, l_wML, l_wMT, l_wML, x1_0, x1_1, nx1_0, nx1_1, ee1]
  first | refine stpL_runs (toMinder_is ((hM.base k0).app _) hnM) ?_ | (refine stpL_runs_f (toMinder_is ((hM.base k0).app _) hnM) ?_ ?_; (rintro _ _ ⟨_, _, _, _, hf⟩; exact hf.1))
  rintro _ H2 ⟨l_x2, f_x2, rfl, o_x2, fr2⟩
  have kp2 : Keep [] H1 H2 := fr2.base.kp
  have le2 : H1.length ≤ H2.length := kp2.1
  replace k0 := k0.next kp2 (by simp)
  replace x1_0 := kp2.blk x1_0 (by simp)
  replace nx1_0 := blkAt_len x1_0
  replace x1_1 := kp2.blk x1_1 (by simp)
  replace nx1_1 := blkAt_len x1_1
  replace o_wM := o_wM.keep kp2 (by simp)
  have x2_0 : blkAt H2 (H1.length) = some ⟨25, .wr, [((pairs xR xS xM xPair).1).enc]⟩ := fr2.kp.blk (by simp) (by simp)
  have nx2_0 := blkAt_len x2_0
  have zx2_0 := nx2_0
  have lo_f_x2 : ∀ i ∈ f_x2, H1.length + 1 ≤ i := fun i hi => by have := fr2.2 i hi; (try simp at this); omega
  have hi_f_x2 := o_x2.lt
  have l_x2L := o_x2.len
  have l_x2T : l_x2.take l_x2.length = l_x2 := List.take_length
  rw [l_x2L] at l_x2T
  simp [toReg, lML, lMT, l_wML, l_wMT, l_wML, l_x2L, l_x2T, l_x2L, x1_0, x1_1, x2_0, nx1_0, nx1_1, nx2_0]
  have ee2 := fun G_ => implPairs_is (o_x2.app G_).rd hnM xR xS hS xPair hPair
  simp [toReg, lML, lMT, l_wML, l_wMT, l_wML, l_x2L, l_x2T, l_x2L, x1_0, x1_1, x2_0, nx1_0, nx1_1, nx2_0, ee2]
  try simp [toReg, lML, lMT, l_wML, l_wMT, l_wML, l_x2L, l_x2T, l_x2L, x1_0, x1_1, x2_0, nx1_0, nx1_1, nx2_0, eqReg]
  first | refine stpL_runs (toMinder_is ((hM.base k0).app _) hnM) ?_ | (refine stpL_runs_f (toMinder_is ((hM.base k0).app _) hnM) ?_ ?_; (rintro _ _ ⟨_, _, _, _, hf⟩; exact hf.1))
  rintro _ H3 ⟨l_yx2, f_yx2, rfl, o_yx2, fr3⟩
  have kp3 : Keep [] H2 H3 := fr3.base.kp
  have le3 : H2.length ≤ H3.length := kp3.1
  replace k0 := k0.next kp3 (by simp)
  replace x1_0 := kp3.blk x1_0 (by simp)
  replace nx1_0 := blkAt_len x1_0
  replace x1_1 := kp3.blk x1_1 (by simp)
  replace nx1_1 := blkAt_len x1_1
  replace x2_0 := kp3.blk x2_0 (by simp)
  replace nx2_0 := blkAt_len x2_0
  replace o_wM := o_wM.keep kp3 (by simp)
  replace o_x2 := o_x2.keep kp3 (by simp)
  have x3_0 : blkAt H3 (H2.length) = some ⟨50, .wr, [l_x2]⟩ := fr3.kp.blk (by simp) (by simp)
  have nx3_0 := blkAt_len x3_0
  have zx3_0 := nx3_0
  have x3_1 : blkAt H3 (H2.length + 1) = some ⟨25, .wr, [((pairs xR xS xM xPair).1).enc]⟩ := fr3.kp.blk (by simp) (by simp)
  have nx3_1 := blkAt_len x3_1
  have zx3_1 := nx3_1
  have lo_f_yx2 : ∀ i ∈ f_yx2, H2.length + 2 ≤ i := fun i hi => by have := fr3.2 i hi; (try simp at this); omega
  have hi_f_yx2 := o_yx2.lt
  have l_yx2L := o_yx2.len
  have l_yx2T : l_yx2.take l_yx2.length = l_yx2 := List.take_length
  rw [l_yx2L] at l_yx2T
  have ee3 := eqMinder_is o_x2.rd o_yx2.rd hnM
  simp [toReg, lML, lMT, l_wML, l_wMT, l_wML, l_x2L, l_x2T, l_x2L, l_yx2L, l_yx2T, l_yx2L, x1_0, x1_1, x2_0, x3_0, x3_1, nx1_0, nx1_1, nx2_0, nx3_0, nx3_1, ee3]
  refine hQ _ _ _ (by simp) ?_
  simp [Try.f7]
theorem law_args (H : Heap) (lR : List Lf) (lS : List Lf) (lM : List Lf) (lPair : List Lf) (sR : Shp Try.prog H 8 23 lR) (sS : Shp Try.prog H 8 3 lS) (sM : Shp Try.prog H 8 45 lM) (sPair : Shp Try.prog H 8 3 lPair) : ∃ H', run env 7 [argV env.P 23 lR, argV env.P 3 lS, argV env.P 45 lM, argV env.P 3 lPair] H = some (.bool true, H') := by
  obtain ⟨xR, rfl⟩ := shpReg sR
  obtain ⟨xS, rfl, hS⟩ := sS.i64 Try.underlying3
  obtain ⟨xM, hM, ftM⟩ := shpMinder_is sM
  obtain ⟨xPair, rfl, hPair⟩ := sPair.i64 Try.underlying3
  rw [argV_struct (by rw [env_P]; exact Try.underlying23), argV_int (by rw [env_P]; exact Try.underlying3), argV_struct (by rw [env_P]; exact Try.underlying45), argV_int (by rw [env_P]; exact Try.underlying3)]
  obtain ⟨v, H', hr, rfl⟩ := law H xR xS hS lM xM hM ftM xPair hPair
  exact ⟨H', hr⟩
theorem own : ownKnob Try.prog.godebug = none := by kernel_rfl
theorem lifted (os : Os) (started : os.Started) (H : Type) (enc : TypeId × Value → H) :
    ReturnsInHanded {} Try.checked os 7 .any (Rows.fnExactPairsSpec.pre6 enc Try.prog Try.f7 Rows.fnExactPairsRow.domain false) (Rows.fnExactPairsSpec.post enc Try.prog Try.f7 false true false false) := by
  refine returnsInHanded_of_change (C := Try.checked) own started (by as_aux_lemma => kernel_rfl) Try.func7
    (ChangeSpec.witness6 (enc := enc) (C := Try.checked) false ⟨#[], #[.agg #[.int .i64 0, .int .i64 0, .int .i64 0], .int .i64 0, .agg #[.bool false, .int .i64 0, .int .i64 0, .slice none 0 0, .int .i64 0, .int .i64 0, .int .i64 0], .int .i64 0], []⟩ 8 (by as_aux_lemma => kernel_rfl) (by as_aux_lemma => kernel_rfl) (by as_aux_lemma => kernel_rfl) (by as_aux_lemma => kernel_rfl)) ?_
  intro W base args ds gs before hval hW hcnd _
  refine lawful (E := env) (k := 8) (tb := 4) sound_all (by as_aux_lemma => kernel_rfl) rfl Try.underlying4 rfl (fun ds hds => ?_) (fun H lss hn hl hs => ?_) hval hW
  · match ds, hds with
    | [d0, d1, d2, d3], _ => rfl
  · match lss, hl with
    | [l0, l1, l2, l3], _ => exact law_args H l0 l1 l2 l3 (hs 0 23 l0 rfl rfl) (hs 1 3 l1 rfl rfl) (hs 2 45 l2 rfl rfl) (hs 3 3 l3 rfl rfl)
theorem holds : Rows.FnExactPairsSaid :=
  OpenClaim.holds_of_wide 7 Try.f7 rfl rfl rfl rfl rfl rfl rfl ⟨rfl, rfl, rfl, rfl, rfl⟩ rfl rfl rfl rfl rfl (by as_aux_lemma => kernel_rfl) Try.func7 (by as_aux_lemma => kernel_rfl)
    (of_decide_eq_true (by as_aux_lemma => kernel_rfl)) (by unfold Func.isWrapper; first | (rw [if_pos (by decide +kernel)]; kernel_rfl) | (rw [if_neg (by decide +kernel)]; exact ⟨rfl, rfl⟩))
    (fun os started H enc _ => lifted os started H enc)
end W
end Go.Proofs.Ytonkofgdncgolaa

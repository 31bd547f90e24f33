/- The law FnExactTake of the given program returns true for every input: its given statement, proved without any condition. -/
import Derived.Test.YtonkofgdncgolaaWalkTake
import Derived.Test.YtonkofgdncgolaaRows
set_option maxRecDepth 100000
set_option maxHeartbeats 4000000
set_option linter.unusedSimpArgs false
set_option linter.unusedVariables false
set_option linter.unnecessarySimpa false
namespace Go.Proofs.Ytonkofgdncgolaa
open Go Go.Ab Go.ChangeShapes Go.WideShapes Go.ChangeAt Go.RowKit
namespace W
theorem law (H : Heap) (xR : Reg) (xS : Int) (hS : I64 xS) (lM : List Lf) (xM : Minder) (hM : RdLMinder H lM xM) (ftM : xM.fit) :
    Runs env 9 [.agg xR.enc, .int xS, .agg lM] H fun v _ => v = .bool true := by
  refine Runs.walk ok9 Try.func9 rfl (by simp [Try.f9]) fun Q hQ => ?_
  simp only [Try.f9, strip, stripL, stripI, stripG, chkT, tagsB, tagsL, tagD, addT, tagA, lookN, tagOp, elmT, ty28, ty32, ty34, ty43, ty48, ty74, ty75, ty76, ty81, ty82, ty83, Nat.reduceEqDiff, if_false, reduceIte, Option.getD_some, Option.getD_none, dstAt, dstOk, Nat.reduceLT, decide_true, if_true]
  have lML := hM.len
  have lMT : lM.take lM.length = lM := List.take_length
  rw [lML] at lMT
  simp [toReg, lML, lMT]
  have esM := szMinder_is hM ftM (left := 1048576) (by omega) (by omega) 
  simp [toReg, lML, lMT, esM]
  by_cases hbM : (1048576 : Int) < xM.sz
  · simp [hbM]
    refine hQ _ _ _ (by simp) ?_
    simp [Try.f9]
  have hnM : xM.sz ≤ 1048576 := by omega
  have hzM : ¬ ((1048576 - (xM.sz : Int)) < 0) := by omega
  simp [toReg, lML, lMT, hbM, hzM]
  first | refine stpL_runs (toMinder_is (hM.app _) hnM) ?_ | (refine stpL_runs_f (toMinder_is (hM.app _) hnM) ?_ ?_; (rintro _ _ ⟨_, _, _, _, hf⟩; exact hf.1))
  rintro _ H1 ⟨l_wM, f_wM, rfl, o_wM, fr1⟩
  have kp1 : Keep [] H H1 := fr1.base.kp
  have le1 : H.length ≤ H1.length := kp1.1
  have k0 : Keep [] H H1 := (Keep.refl [] H).next kp1 (by simp)
  have x1_0 : blkAt H1 (H.length) = some ⟨23, .wr, [xR.enc]⟩ := fr1.kp.blk (by simp) (by simp)
  have nx1_0 := blkAt_len x1_0
  have zx1_0 := nx1_0
  have x1_1 : blkAt H1 (H.length + 1) = some ⟨45, .wr, [lM]⟩ := fr1.kp.blk (by simp) (by simp)
  have nx1_1 := blkAt_len x1_1
  have zx1_1 := nx1_1
  have lo_f_wM : ∀ i ∈ f_wM, H.length + 2 ≤ i := fun i hi => by have := fr1.2 i hi; (try simp at this); omega
  have hi_f_wM := o_wM.lt
  have l_wML := o_wM.len
  have l_wMT : l_wM.take l_wM.length = l_wM := List.take_length
  rw [l_wML] at l_wMT
  simp [toReg, lML, lMT, l_wML, l_wMT, l_wML, x1_0, x1_1, nx1_0, nx1_1]
  have hr1 : ((take xR xS xM).2.1).sz ≤ 1048576 := take_sz hnM
  first | refine stpL_runs (specTake_is (o_wM).rd hnM xR xS hS) ?_ | (refine stpL_runs_f (specTake_is (o_wM).rd hnM xR xS hS) ?_ ?_; (rintro _ _ ⟨_, _, _, _, hf⟩; exact hf.1))
  rintro _ H2 ⟨l_w1, f_w1, rfl, o_w1, fr2⟩
  have kp2 : Keep [] H1 H2 := fr2.kp
  have le2 : H1.length ≤ H2.length := kp2.1
  replace k0 := k0.next kp2 (by simp)
  replace x1_0 := kp2.blk x1_0 (by simp)
  replace nx1_0 := blkAt_len x1_0
  replace x1_1 := kp2.blk x1_1 (by simp)
  replace nx1_1 := blkAt_len x1_1
  replace o_wM := o_wM.keep kp2 (by simp)
  have lo_f_w1 : ∀ i ∈ f_w1, H1.length + 0 ≤ i := fun i hi => by have := fr2.2 i hi; (try simp at this); omega
  have hi_f_w1 := o_w1.lt
  have l_w1L := o_w1.len
  have l_w1T : l_w1.take l_w1.length = l_w1 := List.take_length
  rw [l_w1L] at l_w1T
  simp [toReg, lML, lMT, l_wML, l_wMT, l_wML, l_w1L, l_w1T, x1_0, x1_1, nx1_0, nx1_1]
  first | refine stpL_runs (toMinder_is ((hM.base k0).app _) hnM) ?_ | (refine stpL_runs_f (toMinder_is ((hM.base k0).app _) hnM) ?_ ?_; (rintro _ _ ⟨_, _, _, _, hf⟩; exact hf.1))
  rintro _ H3 ⟨l_x2, f_x2, rfl, o_x2, fr3⟩
  have kp3 : Keep [] H2 H3 := fr3.base.kp
  have le3 : H2.length ≤ H3.length := kp3.1
  replace k0 := k0.next kp3 (by simp)
  replace x1_0 := kp3.blk x1_0 (by simp)
  replace nx1_0 := blkAt_len x1_0
  replace x1_1 := kp3.blk x1_1 (by simp)
  replace nx1_1 := blkAt_len x1_1
  replace o_wM := o_wM.keep kp3 (by simp)
  replace o_w1 := o_w1.keep kp3 (by simp)
  have x3_0 : blkAt H3 (H2.length) = some ⟨25, .wr, [((take xR xS xM).1).enc]⟩ := fr3.kp.blk (by simp) (by simp)
  have nx3_0 := blkAt_len x3_0
  have zx3_0 := nx3_0
  have x3_1 : blkAt H3 (H2.length + 1) = some ⟨50, .wr, [l_w1]⟩ := fr3.kp.blk (by simp) (by simp)
  have nx3_1 := blkAt_len x3_1
  have zx3_1 := nx3_1
  have lo_f_x2 : ∀ i ∈ f_x2, H2.length + 2 ≤ i := fun i hi => by have := fr3.2 i hi; (try simp at this); omega
  have hi_f_x2 := o_x2.lt
  have l_x2L := o_x2.len
  have l_x2T : l_x2.take l_x2.length = l_x2 := List.take_length
  rw [l_x2L] at l_x2T
  simp [toReg, lML, lMT, l_wML, l_wMT, l_wML, l_w1L, l_w1T, l_x2L, l_x2T, l_x2L, x1_0, x1_1, x3_0, x3_1, nx1_0, nx1_1, nx3_0, nx3_1]
  first | refine stpL_runs (implTake_is (o_x2.app _).rd hnM xR xS hS) ?_ | (refine stpL_runs_f (implTake_is (o_x2.app _).rd hnM xR xS hS) ?_ ?_; (rintro _ _ ⟨_, _, _, _, hf⟩; exact hf.1))
  rintro _ H4 ⟨l_g1, f_g1, rfl, o_g1, fr4⟩
  have kp4 : Keep [] H3 H4 := fr4.base.kp
  have le4 : H3.length ≤ H4.length := kp4.1
  replace k0 := k0.next kp4 (by simp)
  replace x1_0 := kp4.blk x1_0 (by simp)
  replace nx1_0 := blkAt_len x1_0
  replace x1_1 := kp4.blk x1_1 (by simp)
  replace nx1_1 := blkAt_len x1_1
  replace x3_0 := kp4.blk x3_0 (by simp)
  replace nx3_0 := blkAt_len x3_0
  replace x3_1 := kp4.blk x3_1 (by simp)
  replace nx3_1 := blkAt_len x3_1
  replace o_wM := o_wM.keep kp4 (by simp)
  replace o_w1 := o_w1.keep kp4 (by simp)
  replace o_x2 := o_x2.keep kp4 (by simp)
  have x4_0 : blkAt H4 (H3.length) = some ⟨50, .wr, [l_x2]⟩ := fr4.kp.blk (by simp) (by simp)
  have nx4_0 := blkAt_len x4_0
  have zx4_0 := nx4_0
  have lo_f_g1 : ∀ i ∈ f_g1, H3.length + 1 ≤ i := fun i hi => by have := fr4.2 i hi; (try simp at this); omega
  have hi_f_g1 := o_g1.lt
  have l_g1L := o_g1.len
  have l_g1T : l_g1.take l_g1.length = l_g1 := List.take_length
  rw [l_g1L] at l_g1T
  simp [toReg, lML, lMT, l_wML, l_wMT, l_wML, l_w1L, l_w1T, l_x2L, l_x2T, l_x2L, l_g1L, l_g1T, x1_0, x1_1, x3_0, x3_1, x4_0, nx1_0, nx1_1, nx3_0, nx3_1, nx4_0]
  have ee1 := fun G_ => eqMinder_is (o_g1.app G_).rd (o_w1.app G_).rd hr1
  try simp [toReg, lML, lMT, l_wML, l_wMT, l_wML, l_w1L, l_w1T, l_x2L, l_x2T, l_x2L, l_g1L, l_g1T, x1_0, x1_1, x3_0, x3_1, x4_0, nx1_0, nx1_1, nx3_0, nx3_1, nx4_0, ee1, eqReg]
  first | refine stpL_runs (toMinder_is ((hM.base k0).app _) hnM) ?_ | (refine stpL_runs_f (toMinder_is ((hM.base k0).app _) hnM) ?_ ?_; (rintro _ _ ⟨_, _, _, _, hf⟩; exact hf.1))
  rintro _ H5 ⟨l_yx2, f_yx2, rfl, o_yx2, fr5⟩
  have kp5 : Keep [] H4 H5 := fr5.base.kp
  have le5 : H4.length ≤ H5.length := kp5.1
  replace k0 := k0.next kp5 (by simp)
  replace x1_0 := kp5.blk x1_0 (by simp)
  replace nx1_0 := blkAt_len x1_0
  replace x1_1 := kp5.blk x1_1 (by simp)
  replace nx1_1 := blkAt_len x1_1
  replace x3_0 := kp5.blk x3_0 (by simp)
  replace nx3_0 := blkAt_len x3_0
  replace x3_1 := kp5.blk x3_1 (by simp)
  replace nx3_1 := blkAt_len x3_1
  replace x4_0 := kp5.blk x4_0 (by simp)
  replace nx4_0 := blkAt_len x4_0
  replace o_wM := o_wM.keep kp5 (by simp)
  replace o_w1 := o_w1.keep kp5 (by simp)
  replace o_x2 := o_x2.keep kp5 (by simp)
  replace o_g1 := o_g1.keep kp5 (by simp)
  have x5_0 : blkAt H5 (H4.length) = some ⟨25, .wr, [((take xR xS xM).1).enc]⟩ := fr5.kp.blk (by simp) (by simp)
  have nx5_0 := blkAt_len x5_0
  have zx5_0 := nx5_0
  have x5_1 : blkAt H5 (H4.length + 1) = some ⟨50, .wr, [l_g1]⟩ := fr5.kp.blk (by simp) (by simp)
  have nx5_1 := blkAt_len x5_1
  have zx5_1 := nx5_1
  have lo_f_yx2 : ∀ i ∈ f_yx2, H4.length + 2 ≤ i := fun i hi => by have := fr5.2 i hi; (try simp at this); omega
  have hi_f_yx2 := o_yx2.lt
  have l_yx2L := o_yx2.len
  have l_yx2T : l_yx2.take l_yx2.length = l_yx2 := List.take_length
  rw [l_yx2L] at l_yx2T
  have ee2 := eqMinder_is o_x2.rd o_yx2.rd hnM
  simp [toReg, lML, lMT, l_wML, l_wMT, l_wML, l_w1L, l_w1T, l_x2L, l_x2T, l_x2L, l_g1L, l_g1T, l_yx2L, l_yx2T, l_yx2L, x1_0, x1_1, x3_0, x3_1, x4_0, x5_0, x5_1, nx1_0, nx1_1, nx3_0, nx3_1, nx4_0, nx5_0, nx5_1, ee2]
  have mb6 := Minder.mkN_le (k := 1) hnM
  refine stpL_runs (markMinder_is (k := 1) (o_x2) (by omega) (by omega) hnM) ?_
  rintro _ H6 ⟨rfl, om6, km6⟩
  have kp6 : Keep f_x2 H5 H6 := km6
  have le6 : H5.length ≤ H6.length := kp6.1
  replace k0 := k0.next kp6 (by intro i hi; have := lo_f_x2 i hi; omega)
  replace x1_0 := kp6.blk x1_0 (by intro hj; have := lo_f_x2 _ hj; have := hi_f_x2 _ hj; omega)
  replace nx1_0 := blkAt_len x1_0
  replace x1_1 := kp6.blk x1_1 (by intro hj; have := lo_f_x2 _ hj; have := hi_f_x2 _ hj; omega)
  replace nx1_1 := blkAt_len x1_1
  replace x3_0 := kp6.blk x3_0 (by intro hj; have := lo_f_x2 _ hj; have := hi_f_x2 _ hj; omega)
  replace nx3_0 := blkAt_len x3_0
  replace x3_1 := kp6.blk x3_1 (by intro hj; have := lo_f_x2 _ hj; have := hi_f_x2 _ hj; omega)
  replace nx3_1 := blkAt_len x3_1
  replace x4_0 := kp6.blk x4_0 (by intro hj; have := lo_f_x2 _ hj; have := hi_f_x2 _ hj; omega)
  replace nx4_0 := blkAt_len x4_0
  replace x5_0 := kp6.blk x5_0 (by intro hj; have := lo_f_x2 _ hj; have := hi_f_x2 _ hj; omega)
  replace nx5_0 := blkAt_len x5_0
  replace x5_1 := kp6.blk x5_1 (by intro hj; have := lo_f_x2 _ hj; have := hi_f_x2 _ hj; omega)
  replace nx5_1 := blkAt_len x5_1
  replace o_wM := o_wM.keep kp6 (by intro i hi hj; have := lo_f_wM i hi; have := hi_f_wM i hi; have := lo_f_x2 i hj; have := hi_f_x2 i hj; omega)
  replace o_w1 := o_w1.keep kp6 (by intro i hi hj; have := lo_f_w1 i hi; have := hi_f_w1 i hi; have := lo_f_x2 i hj; have := hi_f_x2 i hj; omega)
  replace o_g1 := o_g1.keep kp6 (by intro i hi hj; have := lo_f_g1 i hi; have := hi_f_g1 i hi; have := lo_f_x2 i hj; have := hi_f_x2 i hj; omega)
  replace o_yx2 := o_yx2.keep kp6 (by intro i hi hj; have := lo_f_yx2 i hi; have := hi_f_yx2 i hi; have := lo_f_x2 i hj; have := hi_f_x2 i hj; omega)
  clear o_x2
  have o_x2 := om6
  have mz6 : ¬ ((Minder.mkN xM 1) < 0) := by omega
  simp [toReg, lML, lMT, l_wML, l_wMT, l_wML, l_w1L, l_w1T, l_x2L, l_x2T, l_x2L, l_g1L, l_g1T, l_yx2L, l_yx2T, l_yx2L, x1_0, x1_1, x3_0, x3_1, x4_0, x5_0, x5_1, nx1_0, nx1_1, nx3_0, nx3_1, nx4_0, nx5_0, nx5_1]
  have ee3 := eqMinder_is o_g1.rd o_w1.rd hr1
  simp [toReg, lML, lMT, l_wML, l_wMT, l_wML, l_w1L, l_w1T, l_x2L, l_x2T, l_x2L, l_g1L, l_g1T, l_yx2L, l_yx2T, l_yx2L, x1_0, x1_1, x3_0, x3_1, x4_0, x5_0, x5_1, nx1_0, nx1_1, nx3_0, nx3_1, nx4_0, nx5_0, nx5_1, ee3, eqReg, mz6]
  have mb7 := Minder.mkN_le (k := 1) hr1
  refine stpL_runs (markMinder_is (k := 1) (o_g1) (by omega) (by omega) hr1) ?_
  rintro _ H7 ⟨rfl, om7, km7⟩
  have kp7 : Keep f_g1 H6 H7 := km7
  have le7 : H6.length ≤ H7.length := kp7.1
  replace k0 := k0.next kp7 (by intro i hi; have := lo_f_g1 i hi; omega)
  replace x1_0 := kp7.blk x1_0 (by intro hj; have := lo_f_g1 _ hj; have := hi_f_g1 _ hj; omega)
  replace nx1_0 := blkAt_len x1_0
  replace x1_1 := kp7.blk x1_1 (by intro hj; have := lo_f_g1 _ hj; have := hi_f_g1 _ hj; omega)
  replace nx1_1 := blkAt_len x1_1
  replace x3_0 := kp7.blk x3_0 (by intro hj; have := lo_f_g1 _ hj; have := hi_f_g1 _ hj; omega)
  replace nx3_0 := blkAt_len x3_0
  replace x3_1 := kp7.blk x3_1 (by intro hj; have := lo_f_g1 _ hj; have := hi_f_g1 _ hj; omega)
  replace nx3_1 := blkAt_len x3_1
  replace x4_0 := kp7.blk x4_0 (by intro hj; have := lo_f_g1 _ hj; have := hi_f_g1 _ hj; omega)
  replace nx4_0 := blkAt_len x4_0
  replace x5_0 := kp7.blk x5_0 (by intro hj; have := lo_f_g1 _ hj; have := hi_f_g1 _ hj; omega)
  replace nx5_0 := blkAt_len x5_0
  replace x5_1 := kp7.blk x5_1 (by intro hj; have := lo_f_g1 _ hj; have := hi_f_g1 _ hj; omega)
  replace nx5_1 := blkAt_len x5_1
  replace o_wM := o_wM.keep kp7 (by intro i hi hj; have := lo_f_wM i hi; have := hi_f_wM i hi; have := lo_f_g1 i hj; have := hi_f_g1 i hj; omega)
  replace o_w1 := o_w1.keep kp7 (by intro i hi hj; have := lo_f_w1 i hi; have := hi_f_w1 i hi; have := lo_f_g1 i hj; have := hi_f_g1 i hj; omega)
  replace o_x2 := o_x2.keep kp7 (by intro i hi hj; have := lo_f_x2 i hi; have := hi_f_x2 i hi; have := lo_f_g1 i hj; have := hi_f_g1 i hj; omega)
  replace o_yx2 := o_yx2.keep kp7 (by intro i hi hj; have := lo_f_yx2 i hi; have := hi_f_yx2 i hi; have := lo_f_g1 i hj; have := hi_f_g1 i hj; omega)
  clear o_g1
  have o_g1 := om7
  have mz7 : ¬ ((Minder.mkN ((take xR xS xM).2.1) 1) < 0) := by omega
  simp [toReg, lML, lMT, l_wML, l_wMT, l_wML, l_w1L, l_w1T, l_x2L, l_x2T, l_x2L, l_g1L, l_g1T, l_yx2L, l_yx2T, l_yx2L, x1_0, x1_1, x3_0, x3_1, x4_0, x5_0, x5_1, nx1_0, nx1_1, nx3_0, nx3_1, nx4_0, nx5_0, nx5_1]
  have ms4 : (Minder.mk' ((take xR xS xM).2.1) 1).sz ≤ 1048576 := by rw [Minder.mk_sz]; exact hr1
  have ee4 := heldMinder_is (k := 1) o_g1.rd (by omega) (by omega) ms4
  simp only [Minder.hd_mk] at ee4
  simp [toReg, lML, lMT, l_wML, l_wMT, l_wML, l_w1L, l_w1T, l_x2L, l_x2T, l_x2L, l_g1L, l_g1T, l_yx2L, l_yx2T, l_yx2L, x1_0, x1_1, x3_0, x3_1, x4_0, x5_0, x5_1, nx1_0, nx1_1, nx3_0, nx3_1, nx4_0, nx5_0, nx5_1, ee4, mz7]
  try simp [toReg, lML, lMT, l_wML, l_wMT, l_wML, l_w1L, l_w1T, l_x2L, l_x2T, l_x2L, l_g1L, l_g1T, l_yx2L, l_yx2T, l_yx2L, x1_0, x1_1, x3_0, x3_1, x4_0, x5_0, x5_1, nx1_0, nx1_1, nx3_0, nx3_1, nx4_0, nx5_0, nx5_1, mz7]
  try simp [toReg, lML, lMT, l_wML, l_wMT, l_wML, l_w1L, l_w1T, l_x2L, l_x2T, l_x2L, l_g1L, l_g1T, l_yx2L, l_yx2T, l_yx2L, x1_0, x1_1, x3_0, x3_1, x4_0, x5_0, x5_1, nx1_0, nx1_1, nx3_0, nx3_1, nx4_0, nx5_0, nx5_1, mz7]
  first | refine stpL_runs (toMinder_is (hM.base k0) hnM) ?_ | (refine stpL_runs_f (toMinder_is (hM.base k0) hnM) ?_ ?_; (rintro _ _ ⟨_, _, _, _, hf⟩; exact hf.1))
  rintro _ H8 ⟨l_hM, f_hM, rfl, o_hM, fr8⟩
  have kp8 : Keep [] H7 H8 := fr8.kp
  have le8 : H7.length ≤ H8.length := kp8.1
  replace k0 := k0.next kp8 (by simp)
  replace x1_0 := kp8.blk x1_0 (by simp)
  replace nx1_0 := blkAt_len x1_0
  replace x1_1 := kp8.blk x1_1 (by simp)
  replace nx1_1 := blkAt_len x1_1
  replace x3_0 := kp8.blk x3_0 (by simp)
  replace nx3_0 := blkAt_len x3_0
  replace x3_1 := kp8.blk x3_1 (by simp)
  replace nx3_1 := blkAt_len x3_1
  replace x4_0 := kp8.blk x4_0 (by simp)
  replace nx4_0 := blkAt_len x4_0
  replace x5_0 := kp8.blk x5_0 (by simp)
  replace nx5_0 := blkAt_len x5_0
  replace x5_1 := kp8.blk x5_1 (by simp)
  replace nx5_1 := blkAt_len x5_1
  replace o_wM := o_wM.keep kp8 (by simp)
  replace o_w1 := o_w1.keep kp8 (by simp)
  replace o_x2 := o_x2.keep kp8 (by simp)
  replace o_g1 := o_g1.keep kp8 (by simp)
  replace o_yx2 := o_yx2.keep kp8 (by simp)
  have lo_f_hM : ∀ i ∈ f_hM, H7.length + 0 ≤ i := fun i hi => by have := fr8.2 i hi; (try simp at this); omega
  have hi_f_hM := o_hM.lt
  have l_hML := o_hM.len
  have l_hMT : l_hM.take l_hM.length = l_hM := List.take_length
  rw [l_hML] at l_hMT
  simp [toReg, lML, lMT, l_wML, l_wMT, l_wML, l_w1L, l_w1T, l_x2L, l_x2T, l_x2L, l_g1L, l_g1T, l_yx2L, l_yx2T, l_yx2L, l_hML, l_hMT, l_hML, x1_0, x1_1, x3_0, x3_1, x4_0, x5_0, x5_1, nx1_0, nx1_1, nx3_0, nx3_1, nx4_0, nx5_0, nx5_1]
  first | refine stpL_runs (implTake_is (o_hM).rd hnM xR xS hS) ?_ | (refine stpL_runs_f (implTake_is (o_hM).rd hnM xR xS hS) ?_ ?_; (rintro _ _ ⟨_, _, _, _, hf⟩; exact hf.1))
  rintro _ H9 ⟨l_h1, f_h1, rfl, o_h1, fr9⟩
  have kp9 : Keep [] H8 H9 := fr9.kp
  have le9 : H8.length ≤ H9.length := kp9.1
  replace k0 := k0.next kp9 (by simp)
  replace x1_0 := kp9.blk x1_0 (by simp)
  replace nx1_0 := blkAt_len x1_0
  replace x1_1 := kp9.blk x1_1 (by simp)
  replace nx1_1 := blkAt_len x1_1
  replace x3_0 := kp9.blk x3_0 (by simp)
  replace nx3_0 := blkAt_len x3_0
  replace x3_1 := kp9.blk x3_1 (by simp)
  replace nx3_1 := blkAt_len x3_1
  replace x4_0 := kp9.blk x4_0 (by simp)
  replace nx4_0 := blkAt_len x4_0
  replace x5_0 := kp9.blk x5_0 (by simp)
  replace nx5_0 := blkAt_len x5_0
  replace x5_1 := kp9.blk x5_1 (by simp)
  replace nx5_1 := blkAt_len x5_1
  replace o_wM := o_wM.keep kp9 (by simp)
  replace o_w1 := o_w1.keep kp9 (by simp)
  replace o_x2 := o_x2.keep kp9 (by simp)
  replace o_g1 := o_g1.keep kp9 (by simp)
  replace o_yx2 := o_yx2.keep kp9 (by simp)
  replace o_hM := o_hM.keep kp9 (by simp)
  have lo_f_h1 : ∀ i ∈ f_h1, H8.length + 0 ≤ i := fun i hi => by have := fr9.2 i hi; (try simp at this); omega
  have hi_f_h1 := o_h1.lt
  have l_h1L := o_h1.len
  have l_h1T : l_h1.take l_h1.length = l_h1 := List.take_length
  rw [l_h1L] at l_h1T
  simp [toReg, lML, lMT, l_wML, l_wMT, l_wML, l_w1L, l_w1T, l_x2L, l_x2T, l_x2L, l_g1L, l_g1T, l_yx2L, l_yx2T, l_yx2L, l_hML, l_hMT, l_hML, l_h1L, l_h1T, x1_0, x1_1, x3_0, x3_1, x4_0, x5_0, x5_1, nx1_0, nx1_1, nx3_0, nx3_1, nx4_0, nx5_0, nx5_1]
  have ee5 := fun G_ => eqMinder_is (o_h1.app G_).rd (o_w1.app G_).rd hr1
  try simp [toReg, lML, lMT, l_wML, l_wMT, l_wML, l_w1L, l_w1T, l_x2L, l_x2T, l_x2L, l_g1L, l_g1T, l_yx2L, l_yx2T, l_yx2L, l_hML, l_hMT, l_hML, l_h1L, l_h1T, x1_0, x1_1, x3_0, x3_1, x4_0, x5_0, x5_1, nx1_0, nx1_1, nx3_0, nx3_1, nx4_0, nx5_0, nx5_1, ee5, eqReg]
  have ms6 : (Minder.mk' ((take xR xS xM).2.1) 1).sz ≤ 1048576 := by rw [Minder.mk_sz]; exact hr1
  have ee6 := fun G_ => heldMinder_is (k := 1) (o_g1.app G_).rd (by omega) (by omega) ms6
  simp only [Minder.hd_mk] at ee6
  simp [toReg, lML, lMT, l_wML, l_wMT, l_wML, l_w1L, l_w1T, l_x2L, l_x2T, l_x2L, l_g1L, l_g1T, l_yx2L, l_yx2T, l_yx2L, l_hML, l_hMT, l_hML, l_h1L, l_h1T, x1_0, x1_1, x3_0, x3_1, x4_0, x5_0, x5_1, nx1_0, nx1_1, nx3_0, nx3_1, nx4_0, nx5_0, nx5_1, ee6, mz7]
  try simp [toReg, lML, lMT, l_wML, l_wMT, l_wML, l_w1L, l_w1T, l_x2L, l_x2T, l_x2L, l_g1L, l_g1T, l_yx2L, l_yx2T, l_yx2L, l_hML, l_hMT, l_hML, l_h1L, l_h1T, x1_0, x1_1, x3_0, x3_1, x4_0, x5_0, x5_1, nx1_0, nx1_1, nx3_0, nx3_1, nx4_0, nx5_0, nx5_1, mz7]
  try simp [toReg, lML, lMT, l_wML, l_wMT, l_wML, l_w1L, l_w1T, l_x2L, l_x2T, l_x2L, l_g1L, l_g1T, l_yx2L, l_yx2T, l_yx2L, l_hML, l_hMT, l_hML, l_h1L, l_h1T, x1_0, x1_1, x3_0, x3_1, x4_0, x5_0, x5_1, nx1_0, nx1_1, nx3_0, nx3_1, nx4_0, nx5_0, nx5_1, mz7]
  refine hQ _ _ _ (by simp) ?_
  simp [Try.f9]
theorem law_args (H : Heap) (lR : List Lf) (lS : List Lf) (lM : List Lf) (sR : Shp Try.prog H 8 23 lR) (sS : Shp Try.prog H 8 3 lS) (sM : Shp Try.prog H 8 45 lM) : ∃ H', run env 9 [argV env.P 23 lR, argV env.P 3 lS, argV env.P 45 lM] H = some (.bool true, H') := by
  obtain ⟨xR, rfl⟩ := shpReg sR
  obtain ⟨xS, rfl, hS⟩ := sS.i64 Try.underlying3
  obtain ⟨xM, hM, ftM⟩ := shpMinder_is sM
  rw [argV_struct (by rw [env_P]; exact Try.underlying23), argV_int (by rw [env_P]; exact Try.underlying3), argV_struct (by rw [env_P]; exact Try.underlying45)]
  obtain ⟨v, H', hr, rfl⟩ := law H xR xS hS lM xM hM ftM
  exact ⟨H', hr⟩
theorem own : ownKnob Try.prog.godebug = none := by kernel_rfl
theorem lifted (os : Os) (started : os.Started) (H : Type) (enc : TypeId × Value → H) :
    ReturnsInHanded {} Try.checked os 9 .any (Rows.fnExactTakeSpec.pre6 enc Try.prog Try.f9 Rows.fnExactTakeRow.domain false) (Rows.fnExactTakeSpec.post enc Try.prog Try.f9 false true false false) := by
  refine returnsInHanded_of_change (C := Try.checked) own started (by as_aux_lemma => kernel_rfl) Try.func9
    (ChangeSpec.witness6 (enc := enc) (C := Try.checked) false ⟨#[], #[.agg #[.int .i64 0, .int .i64 0, .int .i64 0], .int .i64 0, .agg #[.bool false, .int .i64 0, .int .i64 0, .slice none 0 0, .int .i64 0, .int .i64 0, .int .i64 0]], []⟩ 8 (by as_aux_lemma => kernel_rfl) (by as_aux_lemma => kernel_rfl) (by as_aux_lemma => kernel_rfl) (by as_aux_lemma => kernel_rfl)) ?_
  intro W base args ds gs before hval hW hcnd _
  refine lawful (E := env) (k := 8) (tb := 4) sound_all (by as_aux_lemma => kernel_rfl) rfl Try.underlying4 rfl (fun ds hds => ?_) (fun H lss hn hl hs => ?_) hval hW
  · match ds, hds with
    | [d0, d1, d2], _ => rfl
  · match lss, hl with
    | [l0, l1, l2], _ => exact law_args H l0 l1 l2 (hs 0 23 l0 rfl rfl) (hs 1 3 l1 rfl rfl) (hs 2 45 l2 rfl rfl)
theorem holds : Rows.FnExactTakeSaid :=
  OpenClaim.holds_of_wide 9 Try.f9 rfl rfl rfl rfl rfl rfl rfl ⟨rfl, rfl, rfl, rfl, rfl⟩ rfl rfl rfl rfl rfl (by as_aux_lemma => kernel_rfl) Try.func9 (by as_aux_lemma => kernel_rfl)
    (of_decide_eq_true (by as_aux_lemma => kernel_rfl)) (by unfold Func.isWrapper; first | (rw [if_pos (by decide +kernel)]; kernel_rfl) | (rw [if_neg (by decide +kernel)]; exact ⟨rfl, rfl⟩))
    (fun os started H enc _ => lifted os started H enc)
end W
end Go.Proofs.Ytonkofgdncgolaa

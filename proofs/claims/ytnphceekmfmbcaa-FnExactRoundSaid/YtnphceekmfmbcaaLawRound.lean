/- The law FnExactRound of the given program returns true for every input: its given statement, proved without any condition. -/
import Derived.Test.YtnphceekmfmbcaaWalkRound1
import Derived.Test.YtnphceekmfmbcaaRows
set_option maxRecDepth 100000
set_option maxHeartbeats 4000000
set_option linter.unusedSimpArgs false
set_option linter.unusedVariables false
set_option linter.unnecessarySimpa false
namespace Go.Proofs.Ytnphceekmfmbcaa
open Go Go.Ab Go.ChangeShapes Go.WideShapes Go.ChangeAt Go.RowKit
namespace W
theorem law (H : Heap) (lN : List Lf) (xN : Net) (hN : RdLNet H lN xN) (ftN : xN.fit) :
    Runs env 5 [.agg lN] H fun v _ => v = .bool true := by
  refine Runs.walk ok5 Try.func5 rfl (by simp [Try.f5]) fun Q hQ => ?_
  simp only [Try.f5, strip, stripL, stripI, stripG, chkT, tagsB, tagsL, tagD, addT, tagA, lookN, tagOp, elmT, ty22, ty23, ty25, ty26, ty42, ty43, ty44, ty45, ty46, ty52, ty53, ty54, ty55, ty61, ty70, ty171, ty187, Nat.reduceEqDiff, if_false, reduceIte, Option.getD_some, Option.getD_none, dstAt, dstOk, Nat.reduceLT, decide_true, if_true]
  have lNL := hN.len
  have lNT : lN.take lN.length = lN := List.take_length
  rw [lNL] at lNT
  simp [lNL, lNT]
  have esN := szNet_is hN ftN (left := 1048576) (by omega) (by omega) 
  simp [lNL, lNT, esN]
  by_cases hbN : (1048576 : Int) < xN.sz
  · simp [hbN]
    refine hQ _ _ _ (by simp) ?_
    simp [Try.f5]
  have hnN : xN.sz ≤ 1048576 := by omega
  have hzN : ¬ ((1048576 - (xN.sz : Int)) < 0) := by omega
  simp [lNL, lNT, hbN, hzN]
  first | refine stpL_runs (toNet_is (hN.app _) hnN) ?_ | (refine stpL_runs_f (toNet_is (hN.app _) hnN) ?_ ?_; (rintro _ _ ⟨_, _, _, _, hf⟩; exact hf.1))
  rintro _ H1 ⟨l_wN, f_wN, rfl, o_wN, fr1⟩
  have kp1 : Keep [] H H1 := fr1.base.kp
  have le1 : H.length ≤ H1.length := kp1.1
  have k0 : Keep [] H H1 := (Keep.refl [] H).next kp1 (by simp)
  have x1_0 : blkAt H1 (H.length) = some ⟨63, .wr, [lN]⟩ := fr1.kp.blk (by simp) (by simp)
  have nx1_0 := blkAt_len x1_0
  have zx1_0 := nx1_0
  have lo_f_wN : ∀ i ∈ f_wN, H.length + 1 ≤ i := fun i hi => by have := fr1.2 i hi; (try simp at this); omega
  have hi_f_wN := o_wN.lt
  have l_wNL := o_wN.len
  have l_wNT : l_wN.take l_wN.length = l_wN := List.take_length
  rw [l_wNL] at l_wNT
  simp [lNL, lNT, l_wNL, l_wNT, l_wNL, x1_0, nx1_0]
  have hr0 : (settle xN 1).sz ≤ 1048576 := round_sz0 hnN
  first | refine stpL_runs (specRound_is (o_wN).rd hnN ) ?_ | (refine stpL_runs_f (specRound_is (o_wN).rd hnN ) ?_ ?_; (rintro _ _ ⟨_, _, _, _, hf⟩; exact hf.1))
  rintro _ H2 ⟨l_w0, f_w0, rfl, o_w0, fr2⟩
  have kp2 : Keep [] H1 H2 := fr2.kp
  have le2 : H1.length ≤ H2.length := kp2.1
  replace k0 := k0.next kp2 (by simp)
  replace x1_0 := kp2.blk x1_0 (by simp)
  replace nx1_0 := blkAt_len x1_0
  replace o_wN := o_wN.keep kp2 (by simp)
  have lo_f_w0 : ∀ i ∈ f_w0, H1.length + 0 ≤ i := fun i hi => by have := fr2.2 i hi; (try simp at this); omega
  have hi_f_w0 := o_w0.lt
  have l_w0L := o_w0.len
  have l_w0T : l_w0.take l_w0.length = l_w0 := List.take_length
  rw [l_w0L] at l_w0T
  simp [lNL, lNT, l_wNL, l_wNT, l_wNL, l_w0L, l_w0T, x1_0, nx1_0]
  first | refine stpL_runs (toNet_is ((hN.base k0).app _) hnN) ?_ | (refine stpL_runs_f (toNet_is ((hN.base k0).app _) hnN) ?_ ?_; (rintro _ _ ⟨_, _, _, _, hf⟩; exact hf.1))
  rintro _ H3 ⟨l_x0, f_x0, rfl, o_x0, fr3⟩
  have kp3 : Keep [] H2 H3 := fr3.base.kp
  have le3 : H2.length ≤ H3.length := kp3.1
  replace k0 := k0.next kp3 (by simp)
  replace x1_0 := kp3.blk x1_0 (by simp)
  replace nx1_0 := blkAt_len x1_0
  replace o_wN := o_wN.keep kp3 (by simp)
  replace o_w0 := o_w0.keep kp3 (by simp)
  have x3_0 : blkAt H3 (H2.length) = some ⟨28, .wr, [l_w0]⟩ := fr3.kp.blk (by simp) (by simp)
  have nx3_0 := blkAt_len x3_0
  have zx3_0 := nx3_0
  have lo_f_x0 : ∀ i ∈ f_x0, H2.length + 1 ≤ i := fun i hi => by have := fr3.2 i hi; (try simp at this); omega
  have hi_f_x0 := o_x0.lt
  have l_x0L := o_x0.len
  have l_x0T : l_x0.take l_x0.length = l_x0 := List.take_length
  rw [l_x0L] at l_x0T
  simp [lNL, lNT, l_wNL, l_wNT, l_wNL, l_w0L, l_w0T, l_x0L, l_x0T, l_x0L, x1_0, x3_0, nx1_0, nx3_0]
  first | refine stpL_runs (implRound_is (o_x0.app _).rd hnN ) ?_ | (refine stpL_runs_f (implRound_is (o_x0.app _).rd hnN ) ?_ ?_; (rintro _ _ ⟨_, _, _, _, hf⟩; exact hf.1))
  rintro _ H4 ⟨l_g0, f_g0, rfl, o_g0, fr4⟩
  have kp4 : Keep [] H3 H4 := fr4.base.kp
  have le4 : H3.length ≤ H4.length := kp4.1
  replace k0 := k0.next kp4 (by simp)
  replace x1_0 := kp4.blk x1_0 (by simp)
  replace nx1_0 := blkAt_len x1_0
  replace x3_0 := kp4.blk x3_0 (by simp)
  replace nx3_0 := blkAt_len x3_0
  replace o_wN := o_wN.keep kp4 (by simp)
  replace o_w0 := o_w0.keep kp4 (by simp)
  replace o_x0 := o_x0.keep kp4 (by simp)
  have x4_0 : blkAt H4 (H3.length) = some ⟨28, .wr, [l_x0]⟩ := fr4.kp.blk (by simp) (by simp)
  have nx4_0 := blkAt_len x4_0
  have zx4_0 := nx4_0
  have lo_f_g0 : ∀ i ∈ f_g0, H3.length + 1 ≤ i := fun i hi => by have := fr4.2 i hi; (try simp at this); omega
  have hi_f_g0 := o_g0.lt
  have l_g0L := o_g0.len
  have l_g0T : l_g0.take l_g0.length = l_g0 := List.take_length
  rw [l_g0L] at l_g0T
  simp [lNL, lNT, l_wNL, l_wNT, l_wNL, l_w0L, l_w0T, l_x0L, l_x0T, l_x0L, l_g0L, l_g0T, x1_0, x3_0, x4_0, nx1_0, nx3_0, nx4_0]
  have ee1 := fun G_ => eqNet_is (o_g0.app G_).rd (o_w0.app G_).rd hr0
  try simp [lNL, lNT, l_wNL, l_wNT, l_wNL, l_w0L, l_w0T, l_x0L, l_x0T, l_x0L, l_g0L, l_g0T, x1_0, x3_0, x4_0, nx1_0, nx3_0, nx4_0, ee1]
  first | refine stpL_runs (toNet_is ((hN.base k0).app _) hnN) ?_ | (refine stpL_runs_f (toNet_is ((hN.base k0).app _) hnN) ?_ ?_; (rintro _ _ ⟨_, _, _, _, hf⟩; exact hf.1))
  rintro _ H5 ⟨l_yx0, f_yx0, rfl, o_yx0, fr5⟩
  have kp5 : Keep [] H4 H5 := fr5.base.kp
  have le5 : H4.length ≤ H5.length := kp5.1
  replace k0 := k0.next kp5 (by simp)
  replace x1_0 := kp5.blk x1_0 (by simp)
  replace nx1_0 := blkAt_len x1_0
  replace x3_0 := kp5.blk x3_0 (by simp)
  replace nx3_0 := blkAt_len x3_0
  replace x4_0 := kp5.blk x4_0 (by simp)
  replace nx4_0 := blkAt_len x4_0
  replace o_wN := o_wN.keep kp5 (by simp)
  replace o_w0 := o_w0.keep kp5 (by simp)
  replace o_x0 := o_x0.keep kp5 (by simp)
  replace o_g0 := o_g0.keep kp5 (by simp)
  have x5_0 : blkAt H5 (H4.length) = some ⟨28, .wr, [l_g0]⟩ := fr5.kp.blk (by simp) (by simp)
  have nx5_0 := blkAt_len x5_0
  have zx5_0 := nx5_0
  have lo_f_yx0 : ∀ i ∈ f_yx0, H4.length + 1 ≤ i := fun i hi => by have := fr5.2 i hi; (try simp at this); omega
  have hi_f_yx0 := o_yx0.lt
  have l_yx0L := o_yx0.len
  have l_yx0T : l_yx0.take l_yx0.length = l_yx0 := List.take_length
  rw [l_yx0L] at l_yx0T
  have ee2 := eqNet_is o_x0.rd o_yx0.rd hnN
  simp [lNL, lNT, l_wNL, l_wNT, l_wNL, l_w0L, l_w0T, l_x0L, l_x0T, l_x0L, l_g0L, l_g0T, l_yx0L, l_yx0T, l_yx0L, x1_0, x3_0, x4_0, x5_0, nx1_0, nx3_0, nx4_0, nx5_0, ee2]
  have mb6 := Net.mkN_le (k := 1) hnN
  refine stpL_runs (markNet_is (k := 1) (o_x0) (by omega) (by omega) hnN) ?_
  rintro _ H6 ⟨rfl, om6, km6⟩
  have kp6 : Keep f_x0 H5 H6 := km6
  have le6 : H5.length ≤ H6.length := kp6.1
  replace k0 := k0.next kp6 (by intro i hi; have := lo_f_x0 i hi; omega)
  replace x1_0 := kp6.blk x1_0 (by intro hj; have := lo_f_x0 _ hj; have := hi_f_x0 _ hj; omega)
  replace nx1_0 := blkAt_len x1_0
  replace x3_0 := kp6.blk x3_0 (by intro hj; have := lo_f_x0 _ hj; have := hi_f_x0 _ hj; omega)
  replace nx3_0 := blkAt_len x3_0
  replace x4_0 := kp6.blk x4_0 (by intro hj; have := lo_f_x0 _ hj; have := hi_f_x0 _ hj; omega)
  replace nx4_0 := blkAt_len x4_0
  replace x5_0 := kp6.blk x5_0 (by intro hj; have := lo_f_x0 _ hj; have := hi_f_x0 _ hj; omega)
  replace nx5_0 := blkAt_len x5_0
  replace o_wN := o_wN.keep kp6 (by intro i hi hj; have := lo_f_wN i hi; have := hi_f_wN i hi; have := lo_f_x0 i hj; have := hi_f_x0 i hj; omega)
  replace o_w0 := o_w0.keep kp6 (by intro i hi hj; have := lo_f_w0 i hi; have := hi_f_w0 i hi; have := lo_f_x0 i hj; have := hi_f_x0 i hj; omega)
  replace o_g0 := o_g0.keep kp6 (by intro i hi hj; have := lo_f_g0 i hi; have := hi_f_g0 i hi; have := lo_f_x0 i hj; have := hi_f_x0 i hj; omega)
  replace o_yx0 := o_yx0.keep kp6 (by intro i hi hj; have := lo_f_yx0 i hi; have := hi_f_yx0 i hi; have := lo_f_x0 i hj; have := hi_f_x0 i hj; omega)
  clear o_x0
  have o_x0 := om6
  have mz6 : ¬ ((Net.mkN xN 1) < 0) := by omega
  simp [lNL, lNT, l_wNL, l_wNT, l_wNL, l_w0L, l_w0T, l_x0L, l_x0T, l_x0L, l_g0L, l_g0T, l_yx0L, l_yx0T, l_yx0L, x1_0, x3_0, x4_0, x5_0, nx1_0, nx3_0, nx4_0, nx5_0]
  have ee3 := eqNet_is o_g0.rd o_w0.rd hr0
  simp [lNL, lNT, l_wNL, l_wNT, l_wNL, l_w0L, l_w0T, l_x0L, l_x0T, l_x0L, l_g0L, l_g0T, l_yx0L, l_yx0T, l_yx0L, x1_0, x3_0, x4_0, x5_0, nx1_0, nx3_0, nx4_0, nx5_0, ee3, mz6]
  have mb7 := Net.mkN_le (k := 1) hr0
  refine stpL_runs (markNet_is (k := 1) (o_g0) (by omega) (by omega) hr0) ?_
  rintro _ H7 ⟨rfl, om7, km7⟩
  have kp7 : Keep f_g0 H6 H7 := km7
  have le7 : H6.length ≤ H7.length := kp7.1
  replace k0 := k0.next kp7 (by intro i hi; have := lo_f_g0 i hi; omega)
  replace x1_0 := kp7.blk x1_0 (by intro hj; have := lo_f_g0 _ hj; have := hi_f_g0 _ hj; omega)
  replace nx1_0 := blkAt_len x1_0
  replace x3_0 := kp7.blk x3_0 (by intro hj; have := lo_f_g0 _ hj; have := hi_f_g0 _ hj; omega)
  replace nx3_0 := blkAt_len x3_0
  replace x4_0 := kp7.blk x4_0 (by intro hj; have := lo_f_g0 _ hj; have := hi_f_g0 _ hj; omega)
  replace nx4_0 := blkAt_len x4_0
  replace x5_0 := kp7.blk x5_0 (by intro hj; have := lo_f_g0 _ hj; have := hi_f_g0 _ hj; omega)
  replace nx5_0 := blkAt_len x5_0
  replace o_wN := o_wN.keep kp7 (by intro i hi hj; have := lo_f_wN i hi; have := hi_f_wN i hi; have := lo_f_g0 i hj; have := hi_f_g0 i hj; omega)
  replace o_w0 := o_w0.keep kp7 (by intro i hi hj; have := lo_f_w0 i hi; have := hi_f_w0 i hi; have := lo_f_g0 i hj; have := hi_f_g0 i hj; omega)
  replace o_x0 := o_x0.keep kp7 (by intro i hi hj; have := lo_f_x0 i hi; have := hi_f_x0 i hi; have := lo_f_g0 i hj; have := hi_f_g0 i hj; omega)
  replace o_yx0 := o_yx0.keep kp7 (by intro i hi hj; have := lo_f_yx0 i hi; have := hi_f_yx0 i hi; have := lo_f_g0 i hj; have := hi_f_g0 i hj; omega)
  clear o_g0
  have o_g0 := om7
  have mz7 : ¬ ((Net.mkN (settle xN 1) 1) < 0) := by omega
  simp [lNL, lNT, l_wNL, l_wNT, l_wNL, l_w0L, l_w0T, l_x0L, l_x0T, l_x0L, l_g0L, l_g0T, l_yx0L, l_yx0T, l_yx0L, x1_0, x3_0, x4_0, x5_0, nx1_0, nx3_0, nx4_0, nx5_0]
  have ms4 : (Net.mk' (settle xN 1) 1).sz ≤ 1048576 := by rw [Net.mk_sz]; exact hr0
  have ee4 := heldNet_is (k := 1) o_g0.rd (by omega) (by omega) ms4
  have hm4 := Net.hd_mk (settle xN 1) 1 (by omega)
  simp only [hm4] at ee4
  simp [lNL, lNT, l_wNL, l_wNT, l_wNL, l_w0L, l_w0T, l_x0L, l_x0T, l_x0L, l_g0L, l_g0T, l_yx0L, l_yx0T, l_yx0L, x1_0, x3_0, x4_0, x5_0, nx1_0, nx3_0, nx4_0, nx5_0, ee4, mz7]
  try simp [lNL, lNT, l_wNL, l_wNT, l_wNL, l_w0L, l_w0T, l_x0L, l_x0T, l_x0L, l_g0L, l_g0T, l_yx0L, l_yx0T, l_yx0L, x1_0, x3_0, x4_0, x5_0, nx1_0, nx3_0, nx4_0, nx5_0, mz7]
  try simp [lNL, lNT, l_wNL, l_wNT, l_wNL, l_w0L, l_w0T, l_x0L, l_x0T, l_x0L, l_g0L, l_g0T, l_yx0L, l_yx0T, l_yx0L, x1_0, x3_0, x4_0, x5_0, nx1_0, nx3_0, nx4_0, nx5_0, mz7]
  first | refine stpL_runs (toNet_is (hN.base k0) hnN) ?_ | (refine stpL_runs_f (toNet_is (hN.base k0) hnN) ?_ ?_; (rintro _ _ ⟨_, _, _, _, hf⟩; exact hf.1))
  rintro _ H8 ⟨l_hN, f_hN, rfl, o_hN, fr8⟩
  have kp8 : Keep [] H7 H8 := fr8.kp
  have le8 : H7.length ≤ H8.length := kp8.1
  replace k0 := k0.next kp8 (by simp)
  replace x1_0 := kp8.blk x1_0 (by simp)
  replace nx1_0 := blkAt_len x1_0
  replace x3_0 := kp8.blk x3_0 (by simp)
  replace nx3_0 := blkAt_len x3_0
  replace x4_0 := kp8.blk x4_0 (by simp)
  replace nx4_0 := blkAt_len x4_0
  replace x5_0 := kp8.blk x5_0 (by simp)
  replace nx5_0 := blkAt_len x5_0
  replace o_wN := o_wN.keep kp8 (by simp)
  replace o_w0 := o_w0.keep kp8 (by simp)
  replace o_x0 := o_x0.keep kp8 (by simp)
  replace o_g0 := o_g0.keep kp8 (by simp)
  replace o_yx0 := o_yx0.keep kp8 (by simp)
  have lo_f_hN : ∀ i ∈ f_hN, H7.length + 0 ≤ i := fun i hi => by have := fr8.2 i hi; (try simp at this); omega
  have hi_f_hN := o_hN.lt
  have l_hNL := o_hN.len
  have l_hNT : l_hN.take l_hN.length = l_hN := List.take_length
  rw [l_hNL] at l_hNT
  simp [lNL, lNT, l_wNL, l_wNT, l_wNL, l_w0L, l_w0T, l_x0L, l_x0T, l_x0L, l_g0L, l_g0T, l_yx0L, l_yx0T, l_yx0L, l_hNL, l_hNT, l_hNL, x1_0, x3_0, x4_0, x5_0, nx1_0, nx3_0, nx4_0, nx5_0]
  first | refine stpL_runs (implRound_is (o_hN).rd hnN ) ?_ | (refine stpL_runs_f (implRound_is (o_hN).rd hnN ) ?_ ?_; (rintro _ _ ⟨_, _, _, _, hf⟩; exact hf.1))
  rintro _ H9 ⟨l_h0, f_h0, rfl, o_h0, fr9⟩
  have kp9 : Keep [] H8 H9 := fr9.kp
  have le9 : H8.length ≤ H9.length := kp9.1
  replace k0 := k0.next kp9 (by simp)
  replace x1_0 := kp9.blk x1_0 (by simp)
  replace nx1_0 := blkAt_len x1_0
  replace x3_0 := kp9.blk x3_0 (by simp)
  replace nx3_0 := blkAt_len x3_0
  replace x4_0 := kp9.blk x4_0 (by simp)
  replace nx4_0 := blkAt_len x4_0
  replace x5_0 := kp9.blk x5_0 (by simp)
  replace nx5_0 := blkAt_len x5_0
  replace o_wN := o_wN.keep kp9 (by simp)
  replace o_w0 := o_w0.keep kp9 (by simp)
  replace o_x0 := o_x0.keep kp9 (by simp)
  replace o_g0 := o_g0.keep kp9 (by simp)
  replace o_yx0 := o_yx0.keep kp9 (by simp)
  replace o_hN := o_hN.keep kp9 (by simp)
  have lo_f_h0 : ∀ i ∈ f_h0, H8.length + 0 ≤ i := fun i hi => by have := fr9.2 i hi; (try simp at this); omega
  have hi_f_h0 := o_h0.lt
  have l_h0L := o_h0.len
  have l_h0T : l_h0.take l_h0.length = l_h0 := List.take_length
  rw [l_h0L] at l_h0T
  simp [lNL, lNT, l_wNL, l_wNT, l_wNL, l_w0L, l_w0T, l_x0L, l_x0T, l_x0L, l_g0L, l_g0T, l_yx0L, l_yx0T, l_yx0L, l_hNL, l_hNT, l_hNL, l_h0L, l_h0T, x1_0, x3_0, x4_0, x5_0, nx1_0, nx3_0, nx4_0, nx5_0]
  have ee5 := fun G_ => eqNet_is (o_h0.app G_).rd (o_w0.app G_).rd hr0
  try simp [lNL, lNT, l_wNL, l_wNT, l_wNL, l_w0L, l_w0T, l_x0L, l_x0T, l_x0L, l_g0L, l_g0T, l_yx0L, l_yx0T, l_yx0L, l_hNL, l_hNT, l_hNL, l_h0L, l_h0T, x1_0, x3_0, x4_0, x5_0, nx1_0, nx3_0, nx4_0, nx5_0, ee5]
  have ms6 : (Net.mk' (settle xN 1) 1).sz ≤ 1048576 := by rw [Net.mk_sz]; exact hr0
  have ee6 := fun G_ => heldNet_is (k := 1) (o_g0.app G_).rd (by omega) (by omega) ms6
  have hm6 := Net.hd_mk (settle xN 1) 1 (by omega)
  simp only [hm6] at ee6
  simp [lNL, lNT, l_wNL, l_wNT, l_wNL, l_w0L, l_w0T, l_x0L, l_x0T, l_x0L, l_g0L, l_g0T, l_yx0L, l_yx0T, l_yx0L, l_hNL, l_hNT, l_hNL, l_h0L, l_h0T, x1_0, x3_0, x4_0, x5_0, nx1_0, nx3_0, nx4_0, nx5_0, ee6, mz7]
  try simp [lNL, lNT, l_wNL, l_wNT, l_wNL, l_w0L, l_w0T, l_x0L, l_x0T, l_x0L, l_g0L, l_g0T, l_yx0L, l_yx0T, l_yx0L, l_hNL, l_hNT, l_hNL, l_h0L, l_h0T, x1_0, x3_0, x4_0, x5_0, nx1_0, nx3_0, nx4_0, nx5_0, mz7]
  try simp [lNL, lNT, l_wNL, l_wNT, l_wNL, l_w0L, l_w0T, l_x0L, l_x0T, l_x0L, l_g0L, l_g0T, l_yx0L, l_yx0T, l_yx0L, l_hNL, l_hNT, l_hNL, l_h0L, l_h0T, x1_0, x3_0, x4_0, x5_0, nx1_0, nx3_0, nx4_0, nx5_0, mz7]
  refine hQ _ _ _ (by simp) ?_
  simp [Try.f5]
theorem law_args (H : Heap) (lN : List Lf) (sN : Shp Try.prog H 8 63 lN) : ∃ H', run env 5 [argV env.P 63 lN] H = some (.bool true, H') := by
  obtain ⟨xN, hN, ftN⟩ := shpNet_is sN
  rw [argV_struct (by rw [env_P]; exact Try.underlying63)]
  obtain ⟨v, H', hr, rfl⟩ := law H lN xN hN ftN
  exact ⟨H', hr⟩
theorem own : ownKnob Try.prog.godebug = none := by kernel_rfl
theorem lifted (os : Os) (started : os.Started) (H : Type) (enc : TypeId × Value → H) :
    ReturnsInHanded {} Try.checked os 5 .any (Rows.fnExactRoundSpec.pre6 enc Try.prog Try.f5 Rows.fnExactRoundRow.domain false) (Rows.fnExactRoundSpec.post enc Try.prog Try.f5 false true false false) := by
  refine returnsInHanded_of_change (C := Try.checked) own started (by as_aux_lemma => kernel_rfl) Try.func5
    (ChangeSpec.witness6 (enc := enc) (C := Try.checked) false ⟨#[], #[.agg #[.slice none 0 0, .slice none 0 0]], []⟩ 8 (by as_aux_lemma => kernel_rfl) (by as_aux_lemma => kernel_rfl) (by as_aux_lemma => kernel_rfl) (by as_aux_lemma => kernel_rfl)) ?_
  intro W base args ds gs before hval hW hcnd _
  refine lawful (E := env) (k := 8) (tb := 4) sound_all (by as_aux_lemma => kernel_rfl) rfl Try.underlying4 rfl (fun ds hds => ?_) (fun H lss hn hl hs => ?_) hval hW
  · match ds, hds with
    | [d0], _ => rfl
  · match lss, hl with
    | [l0], _ => exact law_args H l0 (hs 0 63 l0 rfl rfl)
theorem holds : Rows.FnExactRoundSaid :=
  OpenClaim.holds_of_wide 5 Try.f5 rfl rfl rfl rfl rfl rfl rfl ⟨rfl, rfl, rfl, rfl, rfl⟩ rfl rfl rfl rfl rfl (by as_aux_lemma => kernel_rfl) Try.func5 (by as_aux_lemma => kernel_rfl)
    (of_decide_eq_true (by as_aux_lemma => kernel_rfl)) (by unfold Func.isWrapper; first | (rw [if_pos (by decide +kernel)]; kernel_rfl) | (rw [if_neg (by decide +kernel)]; exact ⟨rfl, rfl⟩))
    (fun os started H enc _ => lifted os started H enc)
end W
end Go.Proofs.Ytnphceekmfmbcaa

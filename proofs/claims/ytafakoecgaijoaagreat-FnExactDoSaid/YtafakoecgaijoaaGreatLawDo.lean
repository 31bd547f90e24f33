/- The law FnExactDo of the given program returns true for every input: its given statement, proved without any condition. -/
import Derived.Test.YtafakoecgaijoaaGreatWalkDo3
import Derived.Test.YtafakoecgaijoaaGreatRows
set_option maxRecDepth 100000
set_option maxHeartbeats 4000000
set_option linter.unusedSimpArgs false
set_option linter.unusedVariables false
set_option linter.unnecessarySimpa false
namespace Go.Proofs.YtafakoecgaijoaaGreat
open Go Go.Ab Go.ChangeShapes Go.WideShapes Go.ChangeAt Go.RowKit
namespace W
theorem law (H : Heap) (lX : List Lf) (xX : Box) (hX : RdLBox H lX xX) (ftX : xX.fit) (xD : Deed) :
    Runs env 3 [.agg lX, .agg xD.enc] H fun v _ => v = .bool true := by
  refine Runs.walk ok3 Tryz.func3 rfl (by simp [Tryz.f3]) fun Q hQ => ?_
  simp only [Tryz.f3, strip, stripL, stripI, stripG, chkT, tagsB, tagsL, tagD, addT, tagA, lookN, tagOp, elmT, ty24, ty25, ty26, ty27, ty28, ty39, ty40, ty41, ty42, ty57, ty59, ty62, ty98, Nat.reduceEqDiff, if_false, reduceIte, Option.getD_some, Option.getD_none, dstAt, dstOk, Nat.reduceLT, decide_true, if_true]
  have lXL := hX.len
  have lXT : lX.take lX.length = lX := List.take_length
  rw [lXL] at lXT
  simp [toDeed, lXL, lXT]
  have esX := szBox_is hX ftX (left := 1048576) (by omega) (by omega) 
  simp [toDeed, lXL, lXT, esX]
  by_cases hbX : (1048576 : Int) < xX.sz
  · simp [hbX]
    refine hQ _ _ _ (by simp) ?_
    simp [Tryz.f3]
  have hnX : xX.sz ≤ 1048576 := by omega
  have hzX : ¬ ((1048576 - (xX.sz : Int)) < 0) := by omega
  simp [toDeed, lXL, lXT, hbX, hzX]
  first | refine stpL_runs (toBox_is (hX.app _) hnX) ?_ | (refine stpL_runs_f (toBox_is (hX.app _) hnX) ?_ ?_; (rintro _ _ ⟨_, _, _, _, hf⟩; exact hf.1))
  rintro _ H1 ⟨l_wX, f_wX, rfl, o_wX, fr1⟩
  have kp1 : Keep [] H H1 := fr1.base.kp
  have le1 : H.length ≤ H1.length := kp1.1
  have k0 : Keep [] H H1 := (Keep.refl [] H).next kp1 (by simp)
  have x1_0 : blkAt H1 (H.length) = some ⟨30, .wr, [lX]⟩ := fr1.kp.blk (by simp) (by simp)
  have nx1_0 := blkAt_len x1_0
  have zx1_0 := nx1_0
  have x1_1 : blkAt H1 (H.length + 1) = some ⟨36, .wr, [xD.enc]⟩ := fr1.kp.blk (by simp) (by simp)
  have nx1_1 := blkAt_len x1_1
  have zx1_1 := nx1_1
  have lo_f_wX : ∀ i ∈ f_wX, H.length + 2 ≤ i := fun i hi => by have := fr1.2 i hi; (try simp at this); omega
  have hi_f_wX := o_wX.lt
  have l_wXL := o_wX.len
  have l_wXT : l_wX.take l_wX.length = l_wX := List.take_length
  rw [l_wXL] at l_wXT
  simp [toDeed, lXL, lXT, l_wXL, l_wXT, l_wXL, x1_0, x1_1, nx1_0, nx1_1]
  have hr0 : ((doIt xX xD).1).sz ≤ 1048576 := do_sz0 hnX
  first | refine stpL_runs (specDo_is (o_wX).rd hnX xD) ?_ | (refine stpL_runs_f (specDo_is (o_wX).rd hnX xD) ?_ ?_; (rintro _ _ ⟨_, _, _, _, hf⟩; exact hf.1))
  rintro _ H2 ⟨l_w0, f_w0, rfl, o_w0, fr2⟩
  have kp2 : Keep [] H1 H2 := fr2.kp
  have le2 : H1.length ≤ H2.length := kp2.1
  replace k0 := k0.next kp2 (by simp)
  replace x1_0 := kp2.blk x1_0 (by simp)
  replace nx1_0 := blkAt_len x1_0
  replace x1_1 := kp2.blk x1_1 (by simp)
  replace nx1_1 := blkAt_len x1_1
  replace o_wX := o_wX.keep kp2 (by simp)
  have lo_f_w0 : ∀ i ∈ f_w0, H1.length + 0 ≤ i := fun i hi => by have := fr2.2 i hi; (try simp at this); omega
  have hi_f_w0 := o_w0.lt
  have l_w0L := o_w0.len
  have l_w0T : l_w0.take l_w0.length = l_w0 := List.take_length
  rw [l_w0L] at l_w0T
  simp [toDeed, lXL, lXT, l_wXL, l_wXT, l_wXL, l_w0L, l_w0T, x1_0, x1_1, nx1_0, nx1_1]
  first | refine stpL_runs (toBox_is ((hX.base k0).app _) hnX) ?_ | (refine stpL_runs_f (toBox_is ((hX.base k0).app _) hnX) ?_ ?_; (rintro _ _ ⟨_, _, _, _, hf⟩; exact hf.1))
  rintro _ H3 ⟨l_x0, f_x0, rfl, o_x0, fr3⟩
  have kp3 : Keep [] H2 H3 := fr3.base.kp
  have le3 : H2.length ≤ H3.length := kp3.1
  replace k0 := k0.next kp3 (by simp)
  replace x1_0 := kp3.blk x1_0 (by simp)
  replace nx1_0 := blkAt_len x1_0
  replace x1_1 := kp3.blk x1_1 (by simp)
  replace nx1_1 := blkAt_len x1_1
  replace o_wX := o_wX.keep kp3 (by simp)
  replace o_w0 := o_w0.keep kp3 (by simp)
  have x3_0 : blkAt H3 (H2.length) = some ⟨44, .wr, [l_w0]⟩ := fr3.kp.blk (by simp) (by simp)
  have nx3_0 := blkAt_len x3_0
  have zx3_0 := nx3_0
  have lo_f_x0 : ∀ i ∈ f_x0, H2.length + 1 ≤ i := fun i hi => by have := fr3.2 i hi; (try simp at this); omega
  have hi_f_x0 := o_x0.lt
  have l_x0L := o_x0.len
  have l_x0T : l_x0.take l_x0.length = l_x0 := List.take_length
  rw [l_x0L] at l_x0T
  simp [toDeed, lXL, lXT, l_wXL, l_wXT, l_wXL, l_w0L, l_w0T, l_x0L, l_x0T, l_x0L, x1_0, x1_1, x3_0, nx1_0, nx1_1, nx3_0]
  first | refine stpL_runs (implDo_is (o_x0.app _).rd hnX xD) ?_ | (refine stpL_runs_f (implDo_is (o_x0.app _).rd hnX xD) ?_ ?_; (rintro _ _ ⟨_, _, _, _, hf⟩; exact hf.1))
  rintro _ H4 ⟨l_g0, f_g0, rfl, o_g0, fr4⟩
  have kp4 : Keep [] H3 H4 := fr4.base.kp
  have le4 : H3.length ≤ H4.length := kp4.1
  replace k0 := k0.next kp4 (by simp)
  replace x1_0 := kp4.blk x1_0 (by simp)
  replace nx1_0 := blkAt_len x1_0
  replace x1_1 := kp4.blk x1_1 (by simp)
  replace nx1_1 := blkAt_len x1_1
  replace x3_0 := kp4.blk x3_0 (by simp)
  replace nx3_0 := blkAt_len x3_0
  replace o_wX := o_wX.keep kp4 (by simp)
  replace o_w0 := o_w0.keep kp4 (by simp)
  replace o_x0 := o_x0.keep kp4 (by simp)
  have x4_0 : blkAt H4 (H3.length) = some ⟨44, .wr, [l_x0]⟩ := fr4.kp.blk (by simp) (by simp)
  have nx4_0 := blkAt_len x4_0
  have zx4_0 := nx4_0
  have lo_f_g0 : ∀ i ∈ f_g0, H3.length + 1 ≤ i := fun i hi => by have := fr4.2 i hi; (try simp at this); omega
  have hi_f_g0 := o_g0.lt
  have l_g0L := o_g0.len
  have l_g0T : l_g0.take l_g0.length = l_g0 := List.take_length
  rw [l_g0L] at l_g0T
  simp [toDeed, lXL, lXT, l_wXL, l_wXT, l_wXL, l_w0L, l_w0T, l_x0L, l_x0T, l_x0L, l_g0L, l_g0T, x1_0, x1_1, x3_0, x4_0, nx1_0, nx1_1, nx3_0, nx4_0]
  have ee1 := fun G_ => eqBox_is (o_g0.app G_).rd (o_w0.app G_).rd hr0
  try simp [toDeed, lXL, lXT, l_wXL, l_wXT, l_wXL, l_w0L, l_w0T, l_x0L, l_x0T, l_x0L, l_g0L, l_g0T, x1_0, x1_1, x3_0, x4_0, nx1_0, nx1_1, nx3_0, nx4_0, ee1]
  first | refine stpL_runs (toBox_is ((hX.base k0).app _) hnX) ?_ | (refine stpL_runs_f (toBox_is ((hX.base k0).app _) hnX) ?_ ?_; (rintro _ _ ⟨_, _, _, _, hf⟩; exact hf.1))
  rintro _ H5 ⟨l_yx0, f_yx0, rfl, o_yx0, fr5⟩
  have kp5 : Keep [] H4 H5 := fr5.base.kp
  have le5 : H4.length ≤ H5.length := kp5.1
  replace k0 := k0.next kp5 (by simp)
  replace x1_0 := kp5.blk x1_0 (by simp)
  replace nx1_0 := blkAt_len x1_0
  replace x1_1 := kp5.blk x1_1 (by simp)
  replace nx1_1 := blkAt_len x1_1
  replace x3_0 := kp5.blk x3_0 (by simp)
  replace nx3_0 := blkAt_len x3_0
  replace x4_0 := kp5.blk x4_0 (by simp)
  replace nx4_0 := blkAt_len x4_0
  replace o_wX := o_wX.keep kp5 (by simp)
  replace o_w0 := o_w0.keep kp5 (by simp)
  replace o_x0 := o_x0.keep kp5 (by simp)
  replace o_g0 := o_g0.keep kp5 (by simp)
  have x5_0 : blkAt H5 (H4.length) = some ⟨44, .wr, [l_g0]⟩ := fr5.kp.blk (by simp) (by simp)
  have nx5_0 := blkAt_len x5_0
  have zx5_0 := nx5_0
  have lo_f_yx0 : ∀ i ∈ f_yx0, H4.length + 1 ≤ i := fun i hi => by have := fr5.2 i hi; (try simp at this); omega
  have hi_f_yx0 := o_yx0.lt
  have l_yx0L := o_yx0.len
  have l_yx0T : l_yx0.take l_yx0.length = l_yx0 := List.take_length
  rw [l_yx0L] at l_yx0T
  have ee2 := eqBox_is o_x0.rd o_yx0.rd hnX
  simp [toDeed, lXL, lXT, l_wXL, l_wXT, l_wXL, l_w0L, l_w0T, l_x0L, l_x0T, l_x0L, l_g0L, l_g0T, l_yx0L, l_yx0T, l_yx0L, x1_0, x1_1, x3_0, x4_0, x5_0, nx1_0, nx1_1, nx3_0, nx4_0, nx5_0, ee2]
  have mb6 := Box.mkN_le (k := 1) hnX
  refine stpL_runs (markBox_is (k := 1) (o_x0) (by omega) (by omega) hnX) ?_
  rintro _ H6 ⟨rfl, om6, km6⟩
  have kp6 : Keep f_x0 H5 H6 := km6
  have le6 : H5.length ≤ H6.length := kp6.1
  replace k0 := k0.next kp6 (by intro i hi; have := lo_f_x0 i hi; omega)
  replace x1_0 := kp6.blk x1_0 (by intro hj; have := lo_f_x0 _ hj; have := hi_f_x0 _ hj; omega)
  replace nx1_0 := blkAt_len x1_0
  replace x1_1 := kp6.blk x1_1 (by intro hj; have := lo_f_x0 _ hj; have := hi_f_x0 _ hj; omega)
  replace nx1_1 := blkAt_len x1_1
  replace x3_0 := kp6.blk x3_0 (by intro hj; have := lo_f_x0 _ hj; have := hi_f_x0 _ hj; omega)
  replace nx3_0 := blkAt_len x3_0
  replace x4_0 := kp6.blk x4_0 (by intro hj; have := lo_f_x0 _ hj; have := hi_f_x0 _ hj; omega)
  replace nx4_0 := blkAt_len x4_0
  replace x5_0 := kp6.blk x5_0 (by intro hj; have := lo_f_x0 _ hj; have := hi_f_x0 _ hj; omega)
  replace nx5_0 := blkAt_len x5_0
  replace o_wX := o_wX.keep kp6 (by intro i hi hj; have := lo_f_wX i hi; have := hi_f_wX i hi; have := lo_f_x0 i hj; have := hi_f_x0 i hj; omega)
  replace o_w0 := o_w0.keep kp6 (by intro i hi hj; have := lo_f_w0 i hi; have := hi_f_w0 i hi; have := lo_f_x0 i hj; have := hi_f_x0 i hj; omega)
  replace o_g0 := o_g0.keep kp6 (by intro i hi hj; have := lo_f_g0 i hi; have := hi_f_g0 i hi; have := lo_f_x0 i hj; have := hi_f_x0 i hj; omega)
  replace o_yx0 := o_yx0.keep kp6 (by intro i hi hj; have := lo_f_yx0 i hi; have := hi_f_yx0 i hi; have := lo_f_x0 i hj; have := hi_f_x0 i hj; omega)
  clear o_x0
  have o_x0 := om6
  have mz6 : ¬ ((Box.mkN xX 1) < 0) := by omega
  simp [toDeed, lXL, lXT, l_wXL, l_wXT, l_wXL, l_w0L, l_w0T, l_x0L, l_x0T, l_x0L, l_g0L, l_g0T, l_yx0L, l_yx0T, l_yx0L, x1_0, x1_1, x3_0, x4_0, x5_0, nx1_0, nx1_1, nx3_0, nx4_0, nx5_0]
  have ee3 := eqBox_is o_g0.rd o_w0.rd hr0
  simp [toDeed, lXL, lXT, l_wXL, l_wXT, l_wXL, l_w0L, l_w0T, l_x0L, l_x0T, l_x0L, l_g0L, l_g0T, l_yx0L, l_yx0T, l_yx0L, x1_0, x1_1, x3_0, x4_0, x5_0, nx1_0, nx1_1, nx3_0, nx4_0, nx5_0, ee3, mz6]
  have mb7 := Box.mkN_le (k := 1) hr0
  refine stpL_runs (markBox_is (k := 1) (o_g0) (by omega) (by omega) hr0) ?_
  rintro _ H7 ⟨rfl, om7, km7⟩
  have kp7 : Keep f_g0 H6 H7 := km7
  have le7 : H6.length ≤ H7.length := kp7.1
  replace k0 := k0.next kp7 (by intro i hi; have := lo_f_g0 i hi; omega)
  replace x1_0 := kp7.blk x1_0 (by intro hj; have := lo_f_g0 _ hj; have := hi_f_g0 _ hj; omega)
  replace nx1_0 := blkAt_len x1_0
  replace x1_1 := kp7.blk x1_1 (by intro hj; have := lo_f_g0 _ hj; have := hi_f_g0 _ hj; omega)
  replace nx1_1 := blkAt_len x1_1
  replace x3_0 := kp7.blk x3_0 (by intro hj; have := lo_f_g0 _ hj; have := hi_f_g0 _ hj; omega)
  replace nx3_0 := blkAt_len x3_0
  replace x4_0 := kp7.blk x4_0 (by intro hj; have := lo_f_g0 _ hj; have := hi_f_g0 _ hj; omega)
  replace nx4_0 := blkAt_len x4_0
  replace x5_0 := kp7.blk x5_0 (by intro hj; have := lo_f_g0 _ hj; have := hi_f_g0 _ hj; omega)
  replace nx5_0 := blkAt_len x5_0
  replace o_wX := o_wX.keep kp7 (by intro i hi hj; have := lo_f_wX i hi; have := hi_f_wX i hi; have := lo_f_g0 i hj; have := hi_f_g0 i hj; omega)
  replace o_w0 := o_w0.keep kp7 (by intro i hi hj; have := lo_f_w0 i hi; have := hi_f_w0 i hi; have := lo_f_g0 i hj; have := hi_f_g0 i hj; omega)
  replace o_x0 := o_x0.keep kp7 (by intro i hi hj; have := lo_f_x0 i hi; have := hi_f_x0 i hi; have := lo_f_g0 i hj; have := hi_f_g0 i hj; omega)
  replace o_yx0 := o_yx0.keep kp7 (by intro i hi hj; have := lo_f_yx0 i hi; have := hi_f_yx0 i hi; have := lo_f_g0 i hj; have := hi_f_g0 i hj; omega)
  clear o_g0
  have o_g0 := om7
  have mz7 : ¬ ((Box.mkN ((doIt xX xD).1) 1) < 0) := by omega
  simp [toDeed, lXL, lXT, l_wXL, l_wXT, l_wXL, l_w0L, l_w0T, l_x0L, l_x0T, l_x0L, l_g0L, l_g0T, l_yx0L, l_yx0T, l_yx0L, x1_0, x1_1, x3_0, x4_0, x5_0, nx1_0, nx1_1, nx3_0, nx4_0, nx5_0]
  have ms4 : (Box.mk' ((doIt xX xD).1) 1).sz ≤ 1048576 := by rw [Box.mk_sz]; exact hr0
  have ee4 := heldBox_is (k := 1) o_g0.rd (by omega) (by omega) ms4
  have hm4 := Box.hd_mk ((doIt xX xD).1) 1 (by omega)
  simp only [hm4] at ee4
  simp [toDeed, lXL, lXT, l_wXL, l_wXT, l_wXL, l_w0L, l_w0T, l_x0L, l_x0T, l_x0L, l_g0L, l_g0T, l_yx0L, l_yx0T, l_yx0L, x1_0, x1_1, x3_0, x4_0, x5_0, nx1_0, nx1_1, nx3_0, nx4_0, nx5_0, ee4, mz7]
  try simp [toDeed, lXL, lXT, l_wXL, l_wXT, l_wXL, l_w0L, l_w0T, l_x0L, l_x0T, l_x0L, l_g0L, l_g0T, l_yx0L, l_yx0T, l_yx0L, x1_0, x1_1, x3_0, x4_0, x5_0, nx1_0, nx1_1, nx3_0, nx4_0, nx5_0, mz7]
  try simp [toDeed, lXL, lXT, l_wXL, l_wXT, l_wXL, l_w0L, l_w0T, l_x0L, l_x0T, l_x0L, l_g0L, l_g0T, l_yx0L, l_yx0T, l_yx0L, x1_0, x1_1, x3_0, x4_0, x5_0, nx1_0, nx1_1, nx3_0, nx4_0, nx5_0, mz7]
  first | refine stpL_runs (toBox_is (hX.base k0) hnX) ?_ | (refine stpL_runs_f (toBox_is (hX.base k0) hnX) ?_ ?_; (rintro _ _ ⟨_, _, _, _, hf⟩; exact hf.1))
  rintro _ H8 ⟨l_hX, f_hX, rfl, o_hX, fr8⟩
  have kp8 : Keep [] H7 H8 := fr8.kp
  have le8 : H7.length ≤ H8.length := kp8.1
  replace k0 := k0.next kp8 (by simp)
  replace x1_0 := kp8.blk x1_0 (by simp)
  replace nx1_0 := blkAt_len x1_0
  replace x1_1 := kp8.blk x1_1 (by simp)
  replace nx1_1 := blkAt_len x1_1
  replace x3_0 := kp8.blk x3_0 (by simp)
  replace nx3_0 := blkAt_len x3_0
  replace x4_0 := kp8.blk x4_0 (by simp)
  replace nx4_0 := blkAt_len x4_0
  replace x5_0 := kp8.blk x5_0 (by simp)
  replace nx5_0 := blkAt_len x5_0
  replace o_wX := o_wX.keep kp8 (by simp)
  replace o_w0 := o_w0.keep kp8 (by simp)
  replace o_x0 := o_x0.keep kp8 (by simp)
  replace o_g0 := o_g0.keep kp8 (by simp)
  replace o_yx0 := o_yx0.keep kp8 (by simp)
  have lo_f_hX : ∀ i ∈ f_hX, H7.length + 0 ≤ i := fun i hi => by have := fr8.2 i hi; (try simp at this); omega
  have hi_f_hX := o_hX.lt
  have l_hXL := o_hX.len
  have l_hXT : l_hX.take l_hX.length = l_hX := List.take_length
  rw [l_hXL] at l_hXT
  simp [toDeed, lXL, lXT, l_wXL, l_wXT, l_wXL, l_w0L, l_w0T, l_x0L, l_x0T, l_x0L, l_g0L, l_g0T, l_yx0L, l_yx0T, l_yx0L, l_hXL, l_hXT, l_hXL, x1_0, x1_1, x3_0, x4_0, x5_0, nx1_0, nx1_1, nx3_0, nx4_0, nx5_0]
  first | refine stpL_runs (implDo_is (o_hX).rd hnX xD) ?_ | (refine stpL_runs_f (implDo_is (o_hX).rd hnX xD) ?_ ?_; (rintro _ _ ⟨_, _, _, _, hf⟩; exact hf.1))
  rintro _ H9 ⟨l_h0, f_h0, rfl, o_h0, fr9⟩
  have kp9 : Keep [] H8 H9 := fr9.kp
  have le9 : H8.length ≤ H9.length := kp9.1
  replace k0 := k0.next kp9 (by simp)
  replace x1_0 := kp9.blk x1_0 (by simp)
  replace nx1_0 := blkAt_len x1_0
  replace x1_1 := kp9.blk x1_1 (by simp)
  replace nx1_1 := blkAt_len x1_1
  replace x3_0 := kp9.blk x3_0 (by simp)
  replace nx3_0 := blkAt_len x3_0
  replace x4_0 := kp9.blk x4_0 (by simp)
  replace nx4_0 := blkAt_len x4_0
  replace x5_0 := kp9.blk x5_0 (by simp)
  replace nx5_0 := blkAt_len x5_0
  replace o_wX := o_wX.keep kp9 (by simp)
  replace o_w0 := o_w0.keep kp9 (by simp)
  replace o_x0 := o_x0.keep kp9 (by simp)
  replace o_g0 := o_g0.keep kp9 (by simp)
  replace o_yx0 := o_yx0.keep kp9 (by simp)
  replace o_hX := o_hX.keep kp9 (by simp)
  have lo_f_h0 : ∀ i ∈ f_h0, H8.length + 0 ≤ i := fun i hi => by have := fr9.2 i hi; (try simp at this); omega
  have hi_f_h0 := o_h0.lt
  have l_h0L := o_h0.len
  have l_h0T : l_h0.take l_h0.length = l_h0 := List.take_length
  rw [l_h0L] at l_h0T
  simp [toDeed, lXL, lXT, l_wXL, l_wXT, l_wXL, l_w0L, l_w0T, l_x0L, l_x0T, l_x0L, l_g0L, l_g0T, l_yx0L, l_yx0T, l_yx0L, l_hXL, l_hXT, l_hXL, l_h0L, l_h0T, x1_0, x1_1, x3_0, x4_0, x5_0, nx1_0, nx1_1, nx3_0, nx4_0, nx5_0]
  have ee5 := fun G_ => eqBox_is (o_h0.app G_).rd (o_w0.app G_).rd hr0
  try simp [toDeed, lXL, lXT, l_wXL, l_wXT, l_wXL, l_w0L, l_w0T, l_x0L, l_x0T, l_x0L, l_g0L, l_g0T, l_yx0L, l_yx0T, l_yx0L, l_hXL, l_hXT, l_hXL, l_h0L, l_h0T, x1_0, x1_1, x3_0, x4_0, x5_0, nx1_0, nx1_1, nx3_0, nx4_0, nx5_0, ee5]
  have ms6 : (Box.mk' ((doIt xX xD).1) 1).sz ≤ 1048576 := by rw [Box.mk_sz]; exact hr0
  have ee6 := fun G_ => heldBox_is (k := 1) (o_g0.app G_).rd (by omega) (by omega) ms6
  have hm6 := Box.hd_mk ((doIt xX xD).1) 1 (by omega)
  simp only [hm6] at ee6
  simp [toDeed, lXL, lXT, l_wXL, l_wXT, l_wXL, l_w0L, l_w0T, l_x0L, l_x0T, l_x0L, l_g0L, l_g0T, l_yx0L, l_yx0T, l_yx0L, l_hXL, l_hXT, l_hXL, l_h0L, l_h0T, x1_0, x1_1, x3_0, x4_0, x5_0, nx1_0, nx1_1, nx3_0, nx4_0, nx5_0, ee6, mz7]
  try simp [toDeed, lXL, lXT, l_wXL, l_wXT, l_wXL, l_w0L, l_w0T, l_x0L, l_x0T, l_x0L, l_g0L, l_g0T, l_yx0L, l_yx0T, l_yx0L, l_hXL, l_hXT, l_hXL, l_h0L, l_h0T, x1_0, x1_1, x3_0, x4_0, x5_0, nx1_0, nx1_1, nx3_0, nx4_0, nx5_0, mz7]
  try simp [toDeed, lXL, lXT, l_wXL, l_wXT, l_wXL, l_w0L, l_w0T, l_x0L, l_x0T, l_x0L, l_g0L, l_g0T, l_yx0L, l_yx0T, l_yx0L, l_hXL, l_hXT, l_hXL, l_h0L, l_h0T, x1_0, x1_1, x3_0, x4_0, x5_0, nx1_0, nx1_1, nx3_0, nx4_0, nx5_0, mz7]
  refine hQ _ _ _ (by simp) ?_
  simp [Tryz.f3]
theorem law_args (H : Heap) (lX : List Lf) (lD : List Lf) (sX : Shp Tryz.prog H 8 30 lX) (sD : Shp Tryz.prog H 8 36 lD) : ∃ H', run env 3 [argV env.P 30 lX, argV env.P 36 lD] H = some (.bool true, H') := by
  obtain ⟨xX, hX, ftX⟩ := shpBox_is sX
  obtain ⟨xD, rfl⟩ := shpDeed sD
  rw [argV_struct (by rw [env_P]; exact Tryz.underlying30), argV_struct (by rw [env_P]; exact Tryz.underlying36)]
  obtain ⟨v, H', hr, rfl⟩ := law H lX xX hX ftX xD
  exact ⟨H', hr⟩
theorem own : ownKnob Tryz.prog.godebug = none := by kernel_rfl
theorem lifted (os : Os) (started : os.Started) (H : Type) (enc : TypeId × Value → H) :
    ReturnsInHanded {} Tryz.checked os 3 .any (Rows.fnExactDoSpec.pre6 enc Tryz.prog Tryz.f3 Rows.fnExactDoRow.domain false) (Rows.fnExactDoSpec.post enc Tryz.prog Tryz.f3 false true false false) := by
  refine returnsInHanded_of_change (C := Tryz.checked) own started (by as_aux_lemma => kernel_rfl) Tryz.func3
    (ChangeSpec.witness6 (enc := enc) (C := Tryz.checked) false ⟨#[], #[.agg #[.int .i64 0, .int .i64 0, .int .i64 0, .int .i64 0, .int .i64 0, .slice none 0 0, .slice none 0 0, .slice none 0 0, .slice none 0 0, .slice none 0 0], .agg #[.int .i64 0, .int .i64 0, .int .i64 0, .int .i64 0, .int .i64 0, .int .i64 0, .int .i64 0, .int .i64 0, .int .i64 0, .bool false]], []⟩ 8 (by as_aux_lemma => kernel_rfl) (by as_aux_lemma => kernel_rfl) (by as_aux_lemma => kernel_rfl) (by as_aux_lemma => kernel_rfl)) ?_
  intro W base args ds gs before hval hW hcnd _
  refine lawful (E := env) (k := 8) (tb := 4) sound_all (by as_aux_lemma => kernel_rfl) rfl Tryz.underlying4 rfl (fun ds hds => ?_) (fun H lss hn hl hs => ?_) hval hW
  · match ds, hds with
    | [d0, d1], _ => rfl
  · match lss, hl with
    | [l0, l1], _ => exact law_args H l0 l1 (hs 0 30 l0 rfl rfl) (hs 1 36 l1 rfl rfl)
theorem holds : Rows.FnExactDoSaid :=
  OpenClaim.holds_of_wide 3 Tryz.f3 rfl rfl rfl rfl rfl rfl rfl ⟨rfl, rfl, rfl, rfl, rfl⟩ rfl rfl rfl rfl rfl (by as_aux_lemma => kernel_rfl) Tryz.func3 (by as_aux_lemma => kernel_rfl)
    (of_decide_eq_true (by as_aux_lemma => kernel_rfl)) (by unfold Func.isWrapper; first | (rw [if_pos (by decide +kernel)]; kernel_rfl) | (rw [if_neg (by decide +kernel)]; exact ⟨rfl, rfl⟩))
    (fun os started H enc _ => lifted os started H enc)
end W
end Go.Proofs.YtafakoecgaijoaaGreat

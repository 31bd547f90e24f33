/- The law FnExactDoAll of the given program returns true for every input: its given statement, proved without any condition. -/
import Derived.Test.YtafakoecgaijoaaGreatWalkDoAll4
import Derived.Test.YtafakoecgaijoaaGreatRows
set_option maxRecDepth 100000
set_option maxHeartbeats 4000000
set_option linter.unusedSimpArgs false
set_option linter.unusedVariables false
set_option linter.unnecessarySimpa false
namespace Go.Proofs.YtafakoecgaijoaaGreat
open Go Go.Ab Go.ChangeShapes Go.WideShapes Go.ChangeAt Go.RowKit
namespace W
theorem law (H : Heap) (lX : List Lf) (xX : Box) (hX : RdLBox H lX xX) (ftX : xX.fit) (lList : Lf) (xList : List Deed) (hList : RdLDeedS H lList xList) (ftList : xList.length ≤ maxLen) :
    Runs env 4 [.agg lX, .w (.lf lList)] H fun v _ => v = .bool true := by
  refine Runs.walk ok4 Tryz.func4 rfl (by simp [Tryz.f4]) fun Q hQ => ?_
  simp only [Tryz.f4, strip, stripL, stripI, stripG, chkT, tagsB, tagsL, tagD, addT, tagA, lookN, tagOp, elmT, ty24, ty25, ty26, ty27, ty28, ty39, ty40, ty41, ty42, ty57, ty59, ty62, ty98, Nat.reduceEqDiff, if_false, reduceIte, Option.getD_some, Option.getD_none, dstAt, dstOk, Nat.reduceLT, decide_true, if_true]
  have lXL := hX.len
  have lXT : lX.take lX.length = lX := List.take_length
  rw [lXL] at lXT
  simp [lXL, lXT]
  have esX := szBox_is hX ftX (left := 1048576) (by omega) (by omega) 
  simp [lXL, lXT, esX]
  by_cases hbX : (1048576 : Int) < xX.sz
  · simp [hbX]
    refine hQ _ _ _ (by simp) ?_
    simp [Tryz.f4]
  have hnX : xX.sz ≤ 1048576 := by omega
  have hzX : ¬ ((1048576 - (xX.sz : Int)) < 0) := by omega
  simp [lXL, lXT, hbX, hzX]
  have esList := szDeedS_is hList ftList (left := (1048576 - (xX.sz : Int))) (by omega) (by omega) 
  simp [lXL, lXT, esList]
  by_cases hbList : ((1048576 - (xX.sz : Int)) : Int) < xList.length
  · simp [hbList]
    refine hQ _ _ _ (by simp) ?_
    simp [Tryz.f4]
  have hnList : xList.length ≤ 1048576 := by omega
  have hzList : ¬ (((1048576 - (xX.sz : Int)) - (xList.length : Int)) < 0) := by omega
  simp [lXL, lXT, hbList, hzList]
  first | refine stpL_runs (toBox_is (hX.app _) hnX) ?_ | (refine stpL_runs_f (toBox_is (hX.app _) hnX) ?_ ?_; (rintro _ _ ⟨_, _, _, _, hf⟩; exact hf.1))
  rintro _ H1 ⟨l_wX, f_wX, rfl, o_wX, fr1⟩
  have kp1 : Keep [] H H1 := fr1.base.kp
  have le1 : H.length ≤ H1.length := kp1.1
  have k0 : Keep [] H H1 := (Keep.refl [] H).next kp1 (by simp)
  have x1_0 : blkAt H1 (H.length) = some ⟨30, .wr, [lX]⟩ := fr1.kp.blk (by simp) (by simp)
  have nx1_0 := blkAt_len x1_0
  have zx1_0 := nx1_0
  have lo_f_wX : ∀ i ∈ f_wX, H.length + 1 ≤ i := fun i hi => by have := fr1.2 i hi; (try simp at this); omega
  have hi_f_wX := o_wX.lt
  have l_wXL := o_wX.len
  have l_wXT : l_wX.take l_wX.length = l_wX := List.take_length
  rw [l_wXL] at l_wXT
  simp [lXL, lXT, l_wXL, l_wXT, l_wXL, x1_0, nx1_0]
  first | refine stpL_runs (toDeedS_is (hList.base k0) hnList) ?_ | (refine stpL_runs_f (toDeedS_is (hList.base k0) hnList) ?_ ?_; (rintro _ _ ⟨_, _, _, _, hf⟩; exact hf.1))
  rintro _ H2 ⟨l_wList, f_wList, rfl, o_wList, fr2⟩
  have kp2 : Keep [] H1 H2 := fr2.kp
  have le2 : H1.length ≤ H2.length := kp2.1
  replace k0 := k0.next kp2 (by simp)
  replace x1_0 := kp2.blk x1_0 (by simp)
  replace nx1_0 := blkAt_len x1_0
  replace o_wX := o_wX.keep kp2 (by simp)
  have lo_f_wList : ∀ i ∈ f_wList, H1.length + 0 ≤ i := fun i hi => by have := fr2.2 i hi; (try simp at this); omega
  have hi_f_wList := o_wList.lt
  simp [lXL, lXT, l_wXL, l_wXT, l_wXL, x1_0, nx1_0]
  have hr0 : ((doAll xX xList).1).sz ≤ 1048576 := doAll_sz0 hnX hnList
  have hr1 : ((doAll xX xList).2).length ≤ 1048576 := doAll_sz1 hnX hnList
  first | refine stpL_runs (specDoAll_is (o_wX).rd hnX (o_wList).rd hnList ) ?_ | (refine stpL_runs_f (specDoAll_is (o_wX).rd hnX (o_wList).rd hnList ) ?_ ?_; (rintro _ _ ⟨_, _, _, _, _, _, _, _, hf⟩; exact hf.1))
  rintro _ H3 ⟨l_w0, f_w0, l_w1, f_w1, rfl, o_w0, o_w1, dj3, fr3⟩
  have kp3 : Keep [] H2 H3 := fr3.kp
  have le3 : H2.length ≤ H3.length := kp3.1
  replace k0 := k0.next kp3 (by simp)
  replace x1_0 := kp3.blk x1_0 (by simp)
  replace nx1_0 := blkAt_len x1_0
  replace o_wX := o_wX.keep kp3 (by simp)
  replace o_wList := o_wList.keep kp3 (by simp)
  have lo_f_w0 : ∀ i ∈ f_w0, H2.length + 0 ≤ i := fun i hi => by have := fr3.2 i (by simp [hi]); (try simp at this); omega
  have hi_f_w0 := o_w0.lt
  have l_w0L := o_w0.len
  have l_w0T : l_w0.take l_w0.length = l_w0 := List.take_length
  rw [l_w0L] at l_w0T
  have lo_f_w1 : ∀ i ∈ f_w1, H2.length + 0 ≤ i := fun i hi => by have := fr3.2 i (by simp [hi]); (try simp at this); omega
  have hi_f_w1 := o_w1.lt
  simp [lXL, lXT, l_wXL, l_wXT, l_wXL, l_w0L, l_w0T, x1_0, nx1_0]
  first | refine stpL_runs (toBox_is ((hX.base k0).app _) hnX) ?_ | (refine stpL_runs_f (toBox_is ((hX.base k0).app _) hnX) ?_ ?_; (rintro _ _ ⟨_, _, _, _, hf⟩; exact hf.1))
  rintro _ H4 ⟨l_x0, f_x0, rfl, o_x0, fr4⟩
  have kp4 : Keep [] H3 H4 := fr4.base.kp
  have le4 : H3.length ≤ H4.length := kp4.1
  replace k0 := k0.next kp4 (by simp)
  replace x1_0 := kp4.blk x1_0 (by simp)
  replace nx1_0 := blkAt_len x1_0
  replace o_wX := o_wX.keep kp4 (by simp)
  replace o_wList := o_wList.keep kp4 (by simp)
  replace o_w0 := o_w0.keep kp4 (by simp)
  replace o_w1 := o_w1.keep kp4 (by simp)
  have x4_0 : blkAt H4 (H3.length) = some ⟨44, .wr, [l_w0]⟩ := fr4.kp.blk (by simp) (by simp)
  have nx4_0 := blkAt_len x4_0
  have zx4_0 := nx4_0
  have lo_f_x0 : ∀ i ∈ f_x0, H3.length + 1 ≤ i := fun i hi => by have := fr4.2 i hi; (try simp at this); omega
  have hi_f_x0 := o_x0.lt
  have l_x0L := o_x0.len
  have l_x0T : l_x0.take l_x0.length = l_x0 := List.take_length
  rw [l_x0L] at l_x0T
  simp [lXL, lXT, l_wXL, l_wXT, l_wXL, l_w0L, l_w0T, l_x0L, l_x0T, l_x0L, x1_0, x4_0, nx1_0, nx4_0]
  first | refine stpL_runs (toDeedS_is ((hList.base k0).app _) hnList) ?_ | (refine stpL_runs_f (toDeedS_is ((hList.base k0).app _) hnList) ?_ ?_; (rintro _ _ ⟨_, _, _, _, hf⟩; exact hf.1))
  rintro _ H5 ⟨l_x1, f_x1, rfl, o_x1, fr5⟩
  have kp5 : Keep [] H4 H5 := fr5.base.kp
  have le5 : H4.length ≤ H5.length := kp5.1
  replace k0 := k0.next kp5 (by simp)
  replace x1_0 := kp5.blk x1_0 (by simp)
  replace nx1_0 := blkAt_len x1_0
  replace x4_0 := kp5.blk x4_0 (by simp)
  replace nx4_0 := blkAt_len x4_0
  replace o_wX := o_wX.keep kp5 (by simp)
  replace o_wList := o_wList.keep kp5 (by simp)
  replace o_w0 := o_w0.keep kp5 (by simp)
  replace o_w1 := o_w1.keep kp5 (by simp)
  replace o_x0 := o_x0.keep kp5 (by simp)
  have x5_0 : blkAt H5 (H4.length) = some ⟨44, .wr, [l_x0]⟩ := fr5.kp.blk (by simp) (by simp)
  have nx5_0 := blkAt_len x5_0
  have zx5_0 := nx5_0
  have lo_f_x1 : ∀ i ∈ f_x1, H4.length + 1 ≤ i := fun i hi => by have := fr5.2 i hi; (try simp at this); omega
  have hi_f_x1 := o_x1.lt
  simp [lXL, lXT, l_wXL, l_wXT, l_wXL, l_w0L, l_w0T, l_x0L, l_x0T, l_x0L, x1_0, x4_0, x5_0, nx1_0, nx4_0, nx5_0]
  first | refine stpL_runs (implDoAll_is (o_x0).rd hnX (o_x1).rd hnList ) ?_ | (refine stpL_runs_f (implDoAll_is (o_x0).rd hnX (o_x1).rd hnList ) ?_ ?_; (rintro _ _ ⟨_, _, _, _, _, _, _, _, hf⟩; exact hf.1))
  rintro _ H6 ⟨l_g0, f_g0, l_g1, f_g1, rfl, o_g0, o_g1, dj6, fr6⟩
  have kp6 : Keep [] H5 H6 := fr6.kp
  have le6 : H5.length ≤ H6.length := kp6.1
  replace k0 := k0.next kp6 (by simp)
  replace x1_0 := kp6.blk x1_0 (by simp)
  replace nx1_0 := blkAt_len x1_0
  replace x4_0 := kp6.blk x4_0 (by simp)
  replace nx4_0 := blkAt_len x4_0
  replace x5_0 := kp6.blk x5_0 (by simp)
  replace nx5_0 := blkAt_len x5_0
  replace o_wX := o_wX.keep kp6 (by simp)
  replace o_wList := o_wList.keep kp6 (by simp)
  replace o_w0 := o_w0.keep kp6 (by simp)
  replace o_w1 := o_w1.keep kp6 (by simp)
  replace o_x0 := o_x0.keep kp6 (by simp)
  replace o_x1 := o_x1.keep kp6 (by simp)
  have lo_f_g0 : ∀ i ∈ f_g0, H5.length + 0 ≤ i := fun i hi => by have := fr6.2 i (by simp [hi]); (try simp at this); omega
  have hi_f_g0 := o_g0.lt
  have l_g0L := o_g0.len
  have l_g0T : l_g0.take l_g0.length = l_g0 := List.take_length
  rw [l_g0L] at l_g0T
  have lo_f_g1 : ∀ i ∈ f_g1, H5.length + 0 ≤ i := fun i hi => by have := fr6.2 i (by simp [hi]); (try simp at this); omega
  have hi_f_g1 := o_g1.lt
  simp [lXL, lXT, l_wXL, l_wXT, l_wXL, l_w0L, l_w0T, l_x0L, l_x0T, l_x0L, l_g0L, l_g0T, x1_0, x4_0, x5_0, nx1_0, nx4_0, nx5_0]
  have ee1 := fun G_ => eqBox_is (o_g0.app G_).rd (o_w0.app G_).rd hr0
  have ee2 := fun G_ => eqIntS_is (o_g1.app G_).rd (o_w1.app G_).rd hr1
  try simp [lXL, lXT, l_wXL, l_wXT, l_wXL, l_w0L, l_w0T, l_x0L, l_x0T, l_x0L, l_g0L, l_g0T, x1_0, x4_0, x5_0, nx1_0, nx4_0, nx5_0, ee1, ee2]
  first | refine stpL_runs (toBox_is ((hX.base k0).app _) hnX) ?_ | (refine stpL_runs_f (toBox_is ((hX.base k0).app _) hnX) ?_ ?_; (rintro _ _ ⟨_, _, _, _, hf⟩; exact hf.1))
  rintro _ H7 ⟨l_yx0, f_yx0, rfl, o_yx0, fr7⟩
  have kp7 : Keep [] H6 H7 := fr7.base.kp
  have le7 : H6.length ≤ H7.length := kp7.1
  replace k0 := k0.next kp7 (by simp)
  replace x1_0 := kp7.blk x1_0 (by simp)
  replace nx1_0 := blkAt_len x1_0
  replace x4_0 := kp7.blk x4_0 (by simp)
  replace nx4_0 := blkAt_len x4_0
  replace x5_0 := kp7.blk x5_0 (by simp)
  replace nx5_0 := blkAt_len x5_0
  replace o_wX := o_wX.keep kp7 (by simp)
  replace o_wList := o_wList.keep kp7 (by simp)
  replace o_w0 := o_w0.keep kp7 (by simp)
  replace o_w1 := o_w1.keep kp7 (by simp)
  replace o_x0 := o_x0.keep kp7 (by simp)
  replace o_x1 := o_x1.keep kp7 (by simp)
  replace o_g0 := o_g0.keep kp7 (by simp)
  replace o_g1 := o_g1.keep kp7 (by simp)
  have x7_0 : blkAt H7 (H6.length) = some ⟨44, .wr, [l_g0]⟩ := fr7.kp.blk (by simp) (by simp)
  have nx7_0 := blkAt_len x7_0
  have zx7_0 := nx7_0
  have lo_f_yx0 : ∀ i ∈ f_yx0, H6.length + 1 ≤ i := fun i hi => by have := fr7.2 i hi; (try simp at this); omega
  have hi_f_yx0 := o_yx0.lt
  have l_yx0L := o_yx0.len
  have l_yx0T : l_yx0.take l_yx0.length = l_yx0 := List.take_length
  rw [l_yx0L] at l_yx0T
  have ee3 := eqBox_is o_x0.rd o_yx0.rd hnX
  simp [lXL, lXT, l_wXL, l_wXT, l_wXL, l_w0L, l_w0T, l_x0L, l_x0T, l_x0L, l_g0L, l_g0T, l_yx0L, l_yx0T, l_yx0L, x1_0, x4_0, x5_0, x7_0, nx1_0, nx4_0, nx5_0, nx7_0, ee3]
  first | refine stpL_runs (toDeedS_is (hList.base k0) hnList) ?_ | (refine stpL_runs_f (toDeedS_is (hList.base k0) hnList) ?_ ?_; (rintro _ _ ⟨_, _, _, _, hf⟩; exact hf.1))
  rintro _ H8 ⟨l_yx1, f_yx1, rfl, o_yx1, fr8⟩
  have kp8 : Keep [] H7 H8 := fr8.kp
  have le8 : H7.length ≤ H8.length := kp8.1
  replace k0 := k0.next kp8 (by simp)
  replace x1_0 := kp8.blk x1_0 (by simp)
  replace nx1_0 := blkAt_len x1_0
  replace x4_0 := kp8.blk x4_0 (by simp)
  replace nx4_0 := blkAt_len x4_0
  replace x5_0 := kp8.blk x5_0 (by simp)
  replace nx5_0 := blkAt_len x5_0
  replace x7_0 := kp8.blk x7_0 (by simp)
  replace nx7_0 := blkAt_len x7_0
  replace o_wX := o_wX.keep kp8 (by simp)
  replace o_wList := o_wList.keep kp8 (by simp)
  replace o_w0 := o_w0.keep kp8 (by simp)
  replace o_w1 := o_w1.keep kp8 (by simp)
  replace o_x0 := o_x0.keep kp8 (by simp)
  replace o_x1 := o_x1.keep kp8 (by simp)
  replace o_g0 := o_g0.keep kp8 (by simp)
  replace o_g1 := o_g1.keep kp8 (by simp)
  replace o_yx0 := o_yx0.keep kp8 (by simp)
  have lo_f_yx1 : ∀ i ∈ f_yx1, H7.length + 0 ≤ i := fun i hi => by have := fr8.2 i hi; (try simp at this); omega
  have hi_f_yx1 := o_yx1.lt
  have ee4 := eqDeedS_is o_x1.rd o_yx1.rd hnList
  simp [lXL, lXT, l_wXL, l_wXT, l_wXL, l_w0L, l_w0T, l_x0L, l_x0T, l_x0L, l_g0L, l_g0T, l_yx0L, l_yx0T, l_yx0L, x1_0, x4_0, x5_0, x7_0, nx1_0, nx4_0, nx5_0, nx7_0, ee4]
  have mb9 := Box.mkN_le (k := 1) hnX
  refine stpL_runs (markBox_is (k := 1) (o_x0) (by omega) (by omega) hnX) ?_
  rintro _ H9 ⟨rfl, om9, km9⟩
  have kp9 : Keep f_x0 H8 H9 := km9
  have le9 : H8.length ≤ H9.length := kp9.1
  replace k0 := k0.next kp9 (by intro i hi; have := lo_f_x0 i hi; omega)
  replace x1_0 := kp9.blk x1_0 (by intro hj; have := lo_f_x0 _ hj; have := hi_f_x0 _ hj; omega)
  replace nx1_0 := blkAt_len x1_0
  replace x4_0 := kp9.blk x4_0 (by intro hj; have := lo_f_x0 _ hj; have := hi_f_x0 _ hj; omega)
  replace nx4_0 := blkAt_len x4_0
  replace x5_0 := kp9.blk x5_0 (by intro hj; have := lo_f_x0 _ hj; have := hi_f_x0 _ hj; omega)
  replace nx5_0 := blkAt_len x5_0
  replace x7_0 := kp9.blk x7_0 (by intro hj; have := lo_f_x0 _ hj; have := hi_f_x0 _ hj; omega)
  replace nx7_0 := blkAt_len x7_0
  replace o_wX := o_wX.keep kp9 (by intro i hi hj; have := lo_f_wX i hi; have := hi_f_wX i hi; have := lo_f_x0 i hj; have := hi_f_x0 i hj; omega)
  replace o_wList := o_wList.keep kp9 (by intro i hi hj; have := lo_f_wList i hi; have := hi_f_wList i hi; have := lo_f_x0 i hj; have := hi_f_x0 i hj; omega)
  replace o_w0 := o_w0.keep kp9 (by intro i hi hj; have := lo_f_w0 i hi; have := hi_f_w0 i hi; have := lo_f_x0 i hj; have := hi_f_x0 i hj; omega)
  replace o_w1 := o_w1.keep kp9 (by intro i hi hj; have := lo_f_w1 i hi; have := hi_f_w1 i hi; have := lo_f_x0 i hj; have := hi_f_x0 i hj; omega)
  replace o_x1 := o_x1.keep kp9 (by intro i hi hj; have := lo_f_x1 i hi; have := hi_f_x1 i hi; have := lo_f_x0 i hj; have := hi_f_x0 i hj; omega)
  replace o_g0 := o_g0.keep kp9 (by intro i hi hj; have := lo_f_g0 i hi; have := hi_f_g0 i hi; have := lo_f_x0 i hj; have := hi_f_x0 i hj; omega)
  replace o_g1 := o_g1.keep kp9 (by intro i hi hj; have := lo_f_g1 i hi; have := hi_f_g1 i hi; have := lo_f_x0 i hj; have := hi_f_x0 i hj; omega)
  replace o_yx0 := o_yx0.keep kp9 (by intro i hi hj; have := lo_f_yx0 i hi; have := hi_f_yx0 i hi; have := lo_f_x0 i hj; have := hi_f_x0 i hj; omega)
  replace o_yx1 := o_yx1.keep kp9 (by intro i hi hj; have := lo_f_yx1 i hi; have := hi_f_yx1 i hi; have := lo_f_x0 i hj; have := hi_f_x0 i hj; omega)
  clear o_x0
  have o_x0 := om9
  have mz9 : ¬ ((Box.mkN xX 1) < 0) := by omega
  simp [lXL, lXT, l_wXL, l_wXT, l_wXL, l_w0L, l_w0T, l_x0L, l_x0T, l_x0L, l_g0L, l_g0T, l_yx0L, l_yx0T, l_yx0L, x1_0, x4_0, x5_0, x7_0, nx1_0, nx4_0, nx5_0, nx7_0]
  have mb10 := DeedS.mkN_le (k := (Box.mkN xX 1)) hnList
  refine stpL_runs (markDeedS_is (k := (Box.mkN xX 1)) (o_x1) (by omega) (by omega) hnList) ?_
  rintro _ H10 ⟨rfl, om10, km10⟩
  have kp10 : Keep f_x1 H9 H10 := km10
  have le10 : H9.length ≤ H10.length := kp10.1
  replace k0 := k0.next kp10 (by intro i hi; have := lo_f_x1 i hi; omega)
  replace x1_0 := kp10.blk x1_0 (by intro hj; have := lo_f_x1 _ hj; have := hi_f_x1 _ hj; omega)
  replace nx1_0 := blkAt_len x1_0
  replace x4_0 := kp10.blk x4_0 (by intro hj; have := lo_f_x1 _ hj; have := hi_f_x1 _ hj; omega)
  replace nx4_0 := blkAt_len x4_0
  replace x5_0 := kp10.blk x5_0 (by intro hj; have := lo_f_x1 _ hj; have := hi_f_x1 _ hj; omega)
  replace nx5_0 := blkAt_len x5_0
  replace x7_0 := kp10.blk x7_0 (by intro hj; have := lo_f_x1 _ hj; have := hi_f_x1 _ hj; omega)
  replace nx7_0 := blkAt_len x7_0
  replace o_wX := o_wX.keep kp10 (by intro i hi hj; have := lo_f_wX i hi; have := hi_f_wX i hi; have := lo_f_x1 i hj; have := hi_f_x1 i hj; omega)
  replace o_wList := o_wList.keep kp10 (by intro i hi hj; have := lo_f_wList i hi; have := hi_f_wList i hi; have := lo_f_x1 i hj; have := hi_f_x1 i hj; omega)
  replace o_w0 := o_w0.keep kp10 (by intro i hi hj; have := lo_f_w0 i hi; have := hi_f_w0 i hi; have := lo_f_x1 i hj; have := hi_f_x1 i hj; omega)
  replace o_w1 := o_w1.keep kp10 (by intro i hi hj; have := lo_f_w1 i hi; have := hi_f_w1 i hi; have := lo_f_x1 i hj; have := hi_f_x1 i hj; omega)
  replace o_x0 := o_x0.keep kp10 (by intro i hi hj; have := lo_f_x0 i hi; have := hi_f_x0 i hi; have := lo_f_x1 i hj; have := hi_f_x1 i hj; omega)
  replace o_g0 := o_g0.keep kp10 (by intro i hi hj; have := lo_f_g0 i hi; have := hi_f_g0 i hi; have := lo_f_x1 i hj; have := hi_f_x1 i hj; omega)
  replace o_g1 := o_g1.keep kp10 (by intro i hi hj; have := lo_f_g1 i hi; have := hi_f_g1 i hi; have := lo_f_x1 i hj; have := hi_f_x1 i hj; omega)
  replace o_yx0 := o_yx0.keep kp10 (by intro i hi hj; have := lo_f_yx0 i hi; have := hi_f_yx0 i hi; have := lo_f_x1 i hj; have := hi_f_x1 i hj; omega)
  replace o_yx1 := o_yx1.keep kp10 (by intro i hi hj; have := lo_f_yx1 i hi; have := hi_f_yx1 i hi; have := lo_f_x1 i hj; have := hi_f_x1 i hj; omega)
  clear o_x1
  have o_x1 := om10
  have mz10 : ¬ ((DeedS.mkN xList (Box.mkN xX 1)) < 0) := by omega
  simp [lXL, lXT, l_wXL, l_wXT, l_wXL, l_w0L, l_w0T, l_x0L, l_x0T, l_x0L, l_g0L, l_g0T, l_yx0L, l_yx0T, l_yx0L, x1_0, x4_0, x5_0, x7_0, nx1_0, nx4_0, nx5_0, nx7_0]
  have ee5 := eqBox_is o_g0.rd o_w0.rd hr0
  have ee6 := eqIntS_is o_g1.rd o_w1.rd hr1
  simp [lXL, lXT, l_wXL, l_wXT, l_wXL, l_w0L, l_w0T, l_x0L, l_x0T, l_x0L, l_g0L, l_g0T, l_yx0L, l_yx0T, l_yx0L, x1_0, x4_0, x5_0, x7_0, nx1_0, nx4_0, nx5_0, nx7_0, ee5, ee6, mz9, mz10]
  have mb11 := Box.mkN_le (k := 1) hr0
  refine stpL_runs (markBox_is (k := 1) (o_g0) (by omega) (by omega) hr0) ?_
  rintro _ H11 ⟨rfl, om11, km11⟩
  have kp11 : Keep f_g0 H10 H11 := km11
  have le11 : H10.length ≤ H11.length := kp11.1
  replace k0 := k0.next kp11 (by intro i hi; have := lo_f_g0 i hi; omega)
  replace x1_0 := kp11.blk x1_0 (by intro hj; have := lo_f_g0 _ hj; have := hi_f_g0 _ hj; omega)
  replace nx1_0 := blkAt_len x1_0
  replace x4_0 := kp11.blk x4_0 (by intro hj; have := lo_f_g0 _ hj; have := hi_f_g0 _ hj; omega)
  replace nx4_0 := blkAt_len x4_0
  replace x5_0 := kp11.blk x5_0 (by intro hj; have := lo_f_g0 _ hj; have := hi_f_g0 _ hj; omega)
  replace nx5_0 := blkAt_len x5_0
  replace x7_0 := kp11.blk x7_0 (by intro hj; have := lo_f_g0 _ hj; have := hi_f_g0 _ hj; omega)
  replace nx7_0 := blkAt_len x7_0
  replace o_wX := o_wX.keep kp11 (by intro i hi hj; have := lo_f_wX i hi; have := hi_f_wX i hi; have := lo_f_g0 i hj; have := hi_f_g0 i hj; omega)
  replace o_wList := o_wList.keep kp11 (by intro i hi hj; have := lo_f_wList i hi; have := hi_f_wList i hi; have := lo_f_g0 i hj; have := hi_f_g0 i hj; omega)
  replace o_w0 := o_w0.keep kp11 (by intro i hi hj; have := lo_f_w0 i hi; have := hi_f_w0 i hi; have := lo_f_g0 i hj; have := hi_f_g0 i hj; omega)
  replace o_w1 := o_w1.keep kp11 (by intro i hi hj; have := lo_f_w1 i hi; have := hi_f_w1 i hi; have := lo_f_g0 i hj; have := hi_f_g0 i hj; omega)
  replace o_x0 := o_x0.keep kp11 (by intro i hi hj; have := lo_f_x0 i hi; have := hi_f_x0 i hi; have := lo_f_g0 i hj; have := hi_f_g0 i hj; omega)
  replace o_x1 := o_x1.keep kp11 (by intro i hi hj; have := lo_f_x1 i hi; have := hi_f_x1 i hi; have := lo_f_g0 i hj; have := hi_f_g0 i hj; omega)
  replace o_g1 := o_g1.keep kp11 (by intro i hi hj; exact dj6 i hj hi)
  replace o_yx0 := o_yx0.keep kp11 (by intro i hi hj; have := lo_f_yx0 i hi; have := hi_f_yx0 i hi; have := lo_f_g0 i hj; have := hi_f_g0 i hj; omega)
  replace o_yx1 := o_yx1.keep kp11 (by intro i hi hj; have := lo_f_yx1 i hi; have := hi_f_yx1 i hi; have := lo_f_g0 i hj; have := hi_f_g0 i hj; omega)
  clear o_g0
  have o_g0 := om11
  have mz11 : ¬ ((Box.mkN ((doAll xX xList).1) 1) < 0) := by omega
  simp [lXL, lXT, l_wXL, l_wXT, l_wXL, l_w0L, l_w0T, l_x0L, l_x0T, l_x0L, l_g0L, l_g0T, l_yx0L, l_yx0T, l_yx0L, x1_0, x4_0, x5_0, x7_0, nx1_0, nx4_0, nx5_0, nx7_0]
  have mb12 := IntS.mkN_le (k := (Box.mkN ((doAll xX xList).1) 1)) hr1
  refine stpL_runs (markIntS_is (k := (Box.mkN ((doAll xX xList).1) 1)) (o_g1) (by omega) (by omega) hr1) ?_
  rintro _ H12 ⟨rfl, om12, km12⟩
  have kp12 : Keep f_g1 H11 H12 := km12
  have le12 : H11.length ≤ H12.length := kp12.1
  replace k0 := k0.next kp12 (by intro i hi; have := lo_f_g1 i hi; omega)
  replace x1_0 := kp12.blk x1_0 (by intro hj; have := lo_f_g1 _ hj; have := hi_f_g1 _ hj; omega)
  replace nx1_0 := blkAt_len x1_0
  replace x4_0 := kp12.blk x4_0 (by intro hj; have := lo_f_g1 _ hj; have := hi_f_g1 _ hj; omega)
  replace nx4_0 := blkAt_len x4_0
  replace x5_0 := kp12.blk x5_0 (by intro hj; have := lo_f_g1 _ hj; have := hi_f_g1 _ hj; omega)
  replace nx5_0 := blkAt_len x5_0
  replace x7_0 := kp12.blk x7_0 (by intro hj; have := lo_f_g1 _ hj; have := hi_f_g1 _ hj; omega)
  replace nx7_0 := blkAt_len x7_0
  replace o_wX := o_wX.keep kp12 (by intro i hi hj; have := lo_f_wX i hi; have := hi_f_wX i hi; have := lo_f_g1 i hj; have := hi_f_g1 i hj; omega)
  replace o_wList := o_wList.keep kp12 (by intro i hi hj; have := lo_f_wList i hi; have := hi_f_wList i hi; have := lo_f_g1 i hj; have := hi_f_g1 i hj; omega)
  replace o_w0 := o_w0.keep kp12 (by intro i hi hj; have := lo_f_w0 i hi; have := hi_f_w0 i hi; have := lo_f_g1 i hj; have := hi_f_g1 i hj; omega)
  replace o_w1 := o_w1.keep kp12 (by intro i hi hj; have := lo_f_w1 i hi; have := hi_f_w1 i hi; have := lo_f_g1 i hj; have := hi_f_g1 i hj; omega)
  replace o_x0 := o_x0.keep kp12 (by intro i hi hj; have := lo_f_x0 i hi; have := hi_f_x0 i hi; have := lo_f_g1 i hj; have := hi_f_g1 i hj; omega)
  replace o_x1 := o_x1.keep kp12 (by intro i hi hj; have := lo_f_x1 i hi; have := hi_f_x1 i hi; have := lo_f_g1 i hj; have := hi_f_g1 i hj; omega)
  replace o_g0 := o_g0.keep kp12 (by intro i hi hj; exact dj6 i hi hj)
  replace o_yx0 := o_yx0.keep kp12 (by intro i hi hj; have := lo_f_yx0 i hi; have := hi_f_yx0 i hi; have := lo_f_g1 i hj; have := hi_f_g1 i hj; omega)
  replace o_yx1 := o_yx1.keep kp12 (by intro i hi hj; have := lo_f_yx1 i hi; have := hi_f_yx1 i hi; have := lo_f_g1 i hj; have := hi_f_g1 i hj; omega)
  clear o_g1
  have o_g1 := om12
  have mz12 : ¬ ((IntS.mkN ((doAll xX xList).2) (Box.mkN ((doAll xX xList).1) 1)) < 0) := by omega
  simp [lXL, lXT, l_wXL, l_wXT, l_wXL, l_w0L, l_w0T, l_x0L, l_x0T, l_x0L, l_g0L, l_g0T, l_yx0L, l_yx0T, l_yx0L, x1_0, x4_0, x5_0, x7_0, nx1_0, nx4_0, nx5_0, nx7_0]
  have ms7 : (Box.mk' ((doAll xX xList).1) 1).sz ≤ 1048576 := by rw [Box.mk_sz]; exact hr0
  have ee7 := heldBox_is (k := 1) o_g0.rd (by omega) (by omega) ms7
  have hm7 := Box.hd_mk ((doAll xX xList).1) 1 (by omega)
  simp only [hm7] at ee7
  simp [lXL, lXT, l_wXL, l_wXT, l_wXL, l_w0L, l_w0T, l_x0L, l_x0T, l_x0L, l_g0L, l_g0T, l_yx0L, l_yx0T, l_yx0L, x1_0, x4_0, x5_0, x7_0, nx1_0, nx4_0, nx5_0, nx7_0, ee7, mz11, mz12]
  try simp [lXL, lXT, l_wXL, l_wXT, l_wXL, l_w0L, l_w0T, l_x0L, l_x0T, l_x0L, l_g0L, l_g0T, l_yx0L, l_yx0T, l_yx0L, x1_0, x4_0, x5_0, x7_0, nx1_0, nx4_0, nx5_0, nx7_0, mz11, mz12]
  have ms8 : (IntS.mk' ((doAll xX xList).2) (Box.mkN ((doAll xX xList).1) 1)).length ≤ 1048576 := by rw [IntS.mk_sz]; exact hr1
  have ee8 := heldIntS_is (k := (Box.mkN ((doAll xX xList).1) 1)) o_g1.rd (by omega) (by omega) ms8
  simp only [IntS.hd_mk] at ee8
  simp [lXL, lXT, l_wXL, l_wXT, l_wXL, l_w0L, l_w0T, l_x0L, l_x0T, l_x0L, l_g0L, l_g0T, l_yx0L, l_yx0T, l_yx0L, x1_0, x4_0, x5_0, x7_0, nx1_0, nx4_0, nx5_0, nx7_0, ee8, mz11, mz12]
  try simp [lXL, lXT, l_wXL, l_wXT, l_wXL, l_w0L, l_w0T, l_x0L, l_x0T, l_x0L, l_g0L, l_g0T, l_yx0L, l_yx0T, l_yx0L, x1_0, x4_0, x5_0, x7_0, nx1_0, nx4_0, nx5_0, nx7_0, mz11, mz12]
  try simp [lXL, lXT, l_wXL, l_wXT, l_wXL, l_w0L, l_w0T, l_x0L, l_x0T, l_x0L, l_g0L, l_g0T, l_yx0L, l_yx0T, l_yx0L, x1_0, x4_0, x5_0, x7_0, nx1_0, nx4_0, nx5_0, nx7_0, mz11, mz12]
  first | refine stpL_runs (toBox_is (hX.base k0) hnX) ?_ | (refine stpL_runs_f (toBox_is (hX.base k0) hnX) ?_ ?_; (rintro _ _ ⟨_, _, _, _, hf⟩; exact hf.1))
  rintro _ H13 ⟨l_hX, f_hX, rfl, o_hX, fr13⟩
  have kp13 : Keep [] H12 H13 := fr13.kp
  have le13 : H12.length ≤ H13.length := kp13.1
  replace k0 := k0.next kp13 (by simp)
  replace x1_0 := kp13.blk x1_0 (by simp)
  replace nx1_0 := blkAt_len x1_0
  replace x4_0 := kp13.blk x4_0 (by simp)
  replace nx4_0 := blkAt_len x4_0
  replace x5_0 := kp13.blk x5_0 (by simp)
  replace nx5_0 := blkAt_len x5_0
  replace x7_0 := kp13.blk x7_0 (by simp)
  replace nx7_0 := blkAt_len x7_0
  replace o_wX := o_wX.keep kp13 (by simp)
  replace o_wList := o_wList.keep kp13 (by simp)
  replace o_w0 := o_w0.keep kp13 (by simp)
  replace o_w1 := o_w1.keep kp13 (by simp)
  replace o_x0 := o_x0.keep kp13 (by simp)
  replace o_x1 := o_x1.keep kp13 (by simp)
  replace o_g0 := o_g0.keep kp13 (by simp)
  replace o_g1 := o_g1.keep kp13 (by simp)
  replace o_yx0 := o_yx0.keep kp13 (by simp)
  replace o_yx1 := o_yx1.keep kp13 (by simp)
  have lo_f_hX : ∀ i ∈ f_hX, H12.length + 0 ≤ i := fun i hi => by have := fr13.2 i hi; (try simp at this); omega
  have hi_f_hX := o_hX.lt
  have l_hXL := o_hX.len
  have l_hXT : l_hX.take l_hX.length = l_hX := List.take_length
  rw [l_hXL] at l_hXT
  simp [lXL, lXT, l_wXL, l_wXT, l_wXL, l_w0L, l_w0T, l_x0L, l_x0T, l_x0L, l_g0L, l_g0T, l_yx0L, l_yx0T, l_yx0L, l_hXL, l_hXT, l_hXL, x1_0, x4_0, x5_0, x7_0, nx1_0, nx4_0, nx5_0, nx7_0]
  first | refine stpL_runs (toDeedS_is (hList.base k0) hnList) ?_ | (refine stpL_runs_f (toDeedS_is (hList.base k0) hnList) ?_ ?_; (rintro _ _ ⟨_, _, _, _, hf⟩; exact hf.1))
  rintro _ H14 ⟨l_hList, f_hList, rfl, o_hList, fr14⟩
  have kp14 : Keep [] H13 H14 := fr14.kp
  have le14 : H13.length ≤ H14.length := kp14.1
  replace k0 := k0.next kp14 (by simp)
  replace x1_0 := kp14.blk x1_0 (by simp)
  replace nx1_0 := blkAt_len x1_0
  replace x4_0 := kp14.blk x4_0 (by simp)
  replace nx4_0 := blkAt_len x4_0
  replace x5_0 := kp14.blk x5_0 (by simp)
  replace nx5_0 := blkAt_len x5_0
  replace x7_0 := kp14.blk x7_0 (by simp)
  replace nx7_0 := blkAt_len x7_0
  replace o_wX := o_wX.keep kp14 (by simp)
  replace o_wList := o_wList.keep kp14 (by simp)
  replace o_w0 := o_w0.keep kp14 (by simp)
  replace o_w1 := o_w1.keep kp14 (by simp)
  replace o_x0 := o_x0.keep kp14 (by simp)
  replace o_x1 := o_x1.keep kp14 (by simp)
  replace o_g0 := o_g0.keep kp14 (by simp)
  replace o_g1 := o_g1.keep kp14 (by simp)
  replace o_yx0 := o_yx0.keep kp14 (by simp)
  replace o_yx1 := o_yx1.keep kp14 (by simp)
  replace o_hX := o_hX.keep kp14 (by simp)
  have lo_f_hList : ∀ i ∈ f_hList, H13.length + 0 ≤ i := fun i hi => by have := fr14.2 i hi; (try simp at this); omega
  have hi_f_hList := o_hList.lt
  simp [lXL, lXT, l_wXL, l_wXT, l_wXL, l_w0L, l_w0T, l_x0L, l_x0T, l_x0L, l_g0L, l_g0T, l_yx0L, l_yx0T, l_yx0L, l_hXL, l_hXT, l_hXL, x1_0, x4_0, x5_0, x7_0, nx1_0, nx4_0, nx5_0, nx7_0]
  first | refine stpL_runs (implDoAll_is (o_hX).rd hnX (o_hList).rd hnList ) ?_ | (refine stpL_runs_f (implDoAll_is (o_hX).rd hnX (o_hList).rd hnList ) ?_ ?_; (rintro _ _ ⟨_, _, _, _, _, _, _, _, hf⟩; exact hf.1))
  rintro _ H15 ⟨l_h0, f_h0, l_h1, f_h1, rfl, o_h0, o_h1, dj15, fr15⟩
  have kp15 : Keep [] H14 H15 := fr15.kp
  have le15 : H14.length ≤ H15.length := kp15.1
  replace k0 := k0.next kp15 (by simp)
  replace x1_0 := kp15.blk x1_0 (by simp)
  replace nx1_0 := blkAt_len x1_0
  replace x4_0 := kp15.blk x4_0 (by simp)
  replace nx4_0 := blkAt_len x4_0
  replace x5_0 := kp15.blk x5_0 (by simp)
  replace nx5_0 := blkAt_len x5_0
  replace x7_0 := kp15.blk x7_0 (by simp)
  replace nx7_0 := blkAt_len x7_0
  replace o_wX := o_wX.keep kp15 (by simp)
  replace o_wList := o_wList.keep kp15 (by simp)
  replace o_w0 := o_w0.keep kp15 (by simp)
  replace o_w1 := o_w1.keep kp15 (by simp)
  replace o_x0 := o_x0.keep kp15 (by simp)
  replace o_x1 := o_x1.keep kp15 (by simp)
  replace o_g0 := o_g0.keep kp15 (by simp)
  replace o_g1 := o_g1.keep kp15 (by simp)
  replace o_yx0 := o_yx0.keep kp15 (by simp)
  replace o_yx1 := o_yx1.keep kp15 (by simp)
  replace o_hX := o_hX.keep kp15 (by simp)
  replace o_hList := o_hList.keep kp15 (by simp)
  have lo_f_h0 : ∀ i ∈ f_h0, H14.length + 0 ≤ i := fun i hi => by have := fr15.2 i (by simp [hi]); (try simp at this); omega
  have hi_f_h0 := o_h0.lt
  have l_h0L := o_h0.len
  have l_h0T : l_h0.take l_h0.length = l_h0 := List.take_length
  rw [l_h0L] at l_h0T
  have lo_f_h1 : ∀ i ∈ f_h1, H14.length + 0 ≤ i := fun i hi => by have := fr15.2 i (by simp [hi]); (try simp at this); omega
  have hi_f_h1 := o_h1.lt
  simp [lXL, lXT, l_wXL, l_wXT, l_wXL, l_w0L, l_w0T, l_x0L, l_x0T, l_x0L, l_g0L, l_g0T, l_yx0L, l_yx0T, l_yx0L, l_hXL, l_hXT, l_hXL, l_h0L, l_h0T, x1_0, x4_0, x5_0, x7_0, nx1_0, nx4_0, nx5_0, nx7_0]
  have ee9 := fun G_ => eqBox_is (o_h0.app G_).rd (o_w0.app G_).rd hr0
  have ee10 := fun G_ => eqIntS_is (o_h1.app G_).rd (o_w1.app G_).rd hr1
  try simp [lXL, lXT, l_wXL, l_wXT, l_wXL, l_w0L, l_w0T, l_x0L, l_x0T, l_x0L, l_g0L, l_g0T, l_yx0L, l_yx0T, l_yx0L, l_hXL, l_hXT, l_hXL, l_h0L, l_h0T, x1_0, x4_0, x5_0, x7_0, nx1_0, nx4_0, nx5_0, nx7_0, ee9, ee10]
  have ms11 : (Box.mk' ((doAll xX xList).1) 1).sz ≤ 1048576 := by rw [Box.mk_sz]; exact hr0
  have ee11 := fun G_ => heldBox_is (k := 1) (o_g0.app G_).rd (by omega) (by omega) ms11
  have hm11 := Box.hd_mk ((doAll xX xList).1) 1 (by omega)
  simp only [hm11] at ee11
  simp [lXL, lXT, l_wXL, l_wXT, l_wXL, l_w0L, l_w0T, l_x0L, l_x0T, l_x0L, l_g0L, l_g0T, l_yx0L, l_yx0T, l_yx0L, l_hXL, l_hXT, l_hXL, l_h0L, l_h0T, x1_0, x4_0, x5_0, x7_0, nx1_0, nx4_0, nx5_0, nx7_0, ee11, mz11, mz12]
  try simp [lXL, lXT, l_wXL, l_wXT, l_wXL, l_w0L, l_w0T, l_x0L, l_x0T, l_x0L, l_g0L, l_g0T, l_yx0L, l_yx0T, l_yx0L, l_hXL, l_hXT, l_hXL, l_h0L, l_h0T, x1_0, x4_0, x5_0, x7_0, nx1_0, nx4_0, nx5_0, nx7_0, mz11, mz12]
  have ms12 : (IntS.mk' ((doAll xX xList).2) (Box.mkN ((doAll xX xList).1) 1)).length ≤ 1048576 := by rw [IntS.mk_sz]; exact hr1
  have ee12 := fun G_ => heldIntS_is (k := (Box.mkN ((doAll xX xList).1) 1)) (o_g1.app G_).rd (by omega) (by omega) ms12
  simp only [IntS.hd_mk] at ee12
  simp [lXL, lXT, l_wXL, l_wXT, l_wXL, l_w0L, l_w0T, l_x0L, l_x0T, l_x0L, l_g0L, l_g0T, l_yx0L, l_yx0T, l_yx0L, l_hXL, l_hXT, l_hXL, l_h0L, l_h0T, x1_0, x4_0, x5_0, x7_0, nx1_0, nx4_0, nx5_0, nx7_0, ee12, mz11, mz12]
  try simp [lXL, lXT, l_wXL, l_wXT, l_wXL, l_w0L, l_w0T, l_x0L, l_x0T, l_x0L, l_g0L, l_g0T, l_yx0L, l_yx0T, l_yx0L, l_hXL, l_hXT, l_hXL, l_h0L, l_h0T, x1_0, x4_0, x5_0, x7_0, nx1_0, nx4_0, nx5_0, nx7_0, mz11, mz12]
  try simp [lXL, lXT, l_wXL, l_wXT, l_wXL, l_w0L, l_w0T, l_x0L, l_x0T, l_x0L, l_g0L, l_g0T, l_yx0L, l_yx0T, l_yx0L, l_hXL, l_hXT, l_hXL, l_h0L, l_h0T, x1_0, x4_0, x5_0, x7_0, nx1_0, nx4_0, nx5_0, nx7_0, mz11, mz12]
  refine hQ _ _ _ (by simp) ?_
  simp [Tryz.f4]
theorem law_args (H : Heap) (lX : List Lf) (lList : List Lf) (sX : Shp Tryz.prog H 8 30 lX) (sList : Shp Tryz.prog H 8 57 lList) : ∃ H', run env 4 [argV env.P 30 lX, argV env.P 57 lList] H = some (.bool true, H') := by
  obtain ⟨xX, hX, ftX⟩ := shpBox_is sX
  obtain ⟨qList, xList, rfl, hList, ftList⟩ := shpDeedS_is sList
  rw [argV_struct (by rw [env_P]; exact Tryz.underlying30), argV_slice (by rw [env_P]; exact Tryz.underlying57)]
  obtain ⟨v, H', hr, rfl⟩ := law H lX xX hX ftX qList xList hList ftList
  exact ⟨H', hr⟩
theorem own : ownKnob Tryz.prog.godebug = none := by kernel_rfl
theorem lifted (os : Os) (started : os.Started) (H : Type) (enc : TypeId × Value → H) :
    ReturnsInHanded {} Tryz.checked os 4 .any (Rows.fnExactDoAllSpec.pre6 enc Tryz.prog Tryz.f4 Rows.fnExactDoAllRow.domain false) (Rows.fnExactDoAllSpec.post enc Tryz.prog Tryz.f4 false true false false) := by
  refine returnsInHanded_of_change (C := Tryz.checked) own started (by as_aux_lemma => kernel_rfl) Tryz.func4
    (ChangeSpec.witness6 (enc := enc) (C := Tryz.checked) false ⟨#[], #[.agg #[.int .i64 0, .int .i64 0, .int .i64 0, .int .i64 0, .int .i64 0, .slice none 0 0, .slice none 0 0, .slice none 0 0, .slice none 0 0, .slice none 0 0], .slice none 0 0], []⟩ 8 (by as_aux_lemma => kernel_rfl) (by as_aux_lemma => kernel_rfl) (by as_aux_lemma => kernel_rfl) (by as_aux_lemma => kernel_rfl)) ?_
  intro W base args ds gs before hval hW hcnd _
  refine lawful (E := env) (k := 8) (tb := 4) sound_all (by as_aux_lemma => kernel_rfl) rfl Tryz.underlying4 rfl (fun ds hds => ?_) (fun H lss hn hl hs => ?_) hval hW
  · match ds, hds with
    | [d0, d1], _ => rfl
  · match lss, hl with
    | [l0, l1], _ => exact law_args H l0 l1 (hs 0 30 l0 rfl rfl) (hs 1 57 l1 rfl rfl)
theorem holds : Rows.FnExactDoAllSaid :=
  OpenClaim.holds_of_wide 4 Tryz.f4 rfl rfl rfl rfl rfl rfl rfl ⟨rfl, rfl, rfl, rfl, rfl⟩ rfl rfl rfl rfl rfl (by as_aux_lemma => kernel_rfl) Tryz.func4 (by as_aux_lemma => kernel_rfl)
    (of_decide_eq_true (by as_aux_lemma => kernel_rfl)) (by unfold Func.isWrapper; first | (rw [if_pos (by decide +kernel)]; kernel_rfl) | (rw [if_neg (by decide +kernel)]; exact ⟨rfl, rfl⟩))
    (fun os started H enc _ => lifted os started H enc)
end W
end Go.Proofs.YtafakoecgaijoaaGreat

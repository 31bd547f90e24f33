/- The law FnExactNetNew of the given program returns true for every input: its given statement, proved without any condition. -/
import Derived.Test.YtnphceekmfmbcaaWalkNetNew1
import Derived.Test.YtnphceekmfmbcaaRows
set_option maxRecDepth 100000
set_option maxHeartbeats 4000000
set_option linter.unusedSimpArgs false
set_option linter.unusedVariables false
set_option linter.unnecessarySimpa false
namespace Go.Proofs.Ytnphceekmfmbcaa
open Go Go.Ab Go.ChangeShapes Go.WideShapes Go.ChangeAt Go.RowKit
namespace W
theorem law (H : Heap) (lIds : Lf) (xIds : List Int) (hIds : RdLIntS H lIds xIds) (ftIds : xIds.length ≤ maxLen) (lLinks : Lf) (xLinks : List Link) (hLinks : RdLLinkS H lLinks xLinks) (ftLinks : xLinks.length ≤ maxLen) :
    Runs env 3 [.w (.lf lIds), .w (.lf lLinks)] H fun v _ => v = .bool true := by
  refine Runs.walk ok3 Try.func3 rfl (by simp [Try.f3]) fun Q hQ => ?_
  simp only [Try.f3, strip, stripL, stripI, stripG, chkT, tagsB, tagsL, tagD, addT, tagA, lookN, tagOp, elmT, ty22, ty23, ty25, ty26, ty42, ty43, ty44, ty45, ty46, ty52, ty53, ty54, ty55, ty61, ty70, ty171, ty187, Nat.reduceEqDiff, if_false, reduceIte, Option.getD_some, Option.getD_none, dstAt, dstOk, Nat.reduceLT, decide_true, if_true]
  simp
  obtain ⟨aIds, hqIds⟩ : ∃ a_, lIds = .sl a_ xIds.length := by obtain ⟨a_, h_, _⟩ := hIds; exact ⟨a_, h_⟩
  subst hqIds
  by_cases hbIds : (1048576 : Int) < xIds.length
  · simp [builtinV, pureB, lenV, hbIds]
    refine hQ _ _ _ (by simp) ?_
    simp [Try.f3]
  have hnIds : xIds.length ≤ 1048576 := by omega
  simp [builtinV, pureB, lenV, hbIds]
  have esLinks := szLinkS_is hLinks ftLinks (left := 1048576) (by omega) (by omega) 
  simp [esLinks]
  by_cases hbLinks : (1048576 : Int) < xLinks.length
  · simp [hbLinks]
    refine hQ _ _ _ (by simp) ?_
    simp [Try.f3]
  have hnLinks : xLinks.length ≤ 1048576 := by omega
  have hzLinks : ¬ ((1048576 - (xLinks.length : Int)) < 0) := by omega
  simp [hbLinks, hzLinks]
  first | refine stpL_runs (toIntS_is hIds hnIds) ?_ | (refine stpL_runs_f (toIntS_is hIds hnIds) ?_ ?_; (rintro _ _ ⟨_, _, _, _, hf⟩; exact hf.1))
  rintro _ H1 ⟨l_wIds, f_wIds, rfl, o_wIds, fr1⟩
  have kp1 : Keep [] H H1 := fr1.kp
  have le1 : H.length ≤ H1.length := kp1.1
  have k0 : Keep [] H H1 := (Keep.refl [] H).next kp1 (by simp)
  have lo_f_wIds : ∀ i ∈ f_wIds, H.length + 0 ≤ i := fun i hi => by have := fr1.2 i hi; (try simp at this); omega
  have hi_f_wIds := o_wIds.lt
  simp
  first | refine stpL_runs (toLinkS_is (hLinks.base k0) hnLinks) ?_ | (refine stpL_runs_f (toLinkS_is (hLinks.base k0) hnLinks) ?_ ?_; (rintro _ _ ⟨_, _, _, _, hf⟩; exact hf.1))
  rintro _ H2 ⟨l_wLinks, f_wLinks, rfl, o_wLinks, fr2⟩
  have kp2 : Keep [] H1 H2 := fr2.kp
  have le2 : H1.length ≤ H2.length := kp2.1
  replace k0 := k0.next kp2 (by simp)
  replace o_wIds := o_wIds.keep kp2 (by simp)
  have lo_f_wLinks : ∀ i ∈ f_wLinks, H1.length + 0 ≤ i := fun i hi => by have := fr2.2 i hi; (try simp at this); omega
  have hi_f_wLinks := o_wLinks.lt
  simp
  have hr0 : ((netNew xIds xLinks).1).sz ≤ 1048576 := netNew_sz0 hnIds hnLinks
  first | refine stpL_runs (specNetNew_is (o_wIds).rd hnIds (o_wLinks).rd hnLinks ) ?_ | (refine stpL_runs_f (specNetNew_is (o_wIds).rd hnIds (o_wLinks).rd hnLinks ) ?_ ?_; (rintro _ _ ⟨_, _, _, _, hf⟩; exact hf.1))
  rintro _ H3 ⟨l_w0, f_w0, rfl, o_w0, fr3⟩
  have kp3 : Keep [] H2 H3 := fr3.kp
  have le3 : H2.length ≤ H3.length := kp3.1
  replace k0 := k0.next kp3 (by simp)
  replace o_wIds := o_wIds.keep kp3 (by simp)
  replace o_wLinks := o_wLinks.keep kp3 (by simp)
  have lo_f_w0 : ∀ i ∈ f_w0, H2.length + 0 ≤ i := fun i hi => by have := fr3.2 i hi; (try simp at this); omega
  have hi_f_w0 := o_w0.lt
  have l_w0L := o_w0.len
  have l_w0T : l_w0.take l_w0.length = l_w0 := List.take_length
  rw [l_w0L] at l_w0T
  simp [l_w0L, l_w0T]
  first | refine stpL_runs (toIntS_is ((hIds.base k0).app _) hnIds) ?_ | (refine stpL_runs_f (toIntS_is ((hIds.base k0).app _) hnIds) ?_ ?_; (rintro _ _ ⟨_, _, _, _, hf⟩; exact hf.1))
  rintro _ H4 ⟨l_x0, f_x0, rfl, o_x0, fr4⟩
  have kp4 : Keep [] H3 H4 := fr4.base.kp
  have le4 : H3.length ≤ H4.length := kp4.1
  replace k0 := k0.next kp4 (by simp)
  replace o_wIds := o_wIds.keep kp4 (by simp)
  replace o_wLinks := o_wLinks.keep kp4 (by simp)
  replace o_w0 := o_w0.keep kp4 (by simp)
  have x4_0 : blkAt H4 (H3.length) = some ⟨28, .wr, [l_w0]⟩ := fr4.kp.blk (by simp) (by simp)
  have nx4_0 := blkAt_len x4_0
  have zx4_0 := nx4_0
  have lo_f_x0 : ∀ i ∈ f_x0, H3.length + 1 ≤ i := fun i hi => by have := fr4.2 i hi; (try simp at this); omega
  have hi_f_x0 := o_x0.lt
  simp [l_w0L, l_w0T, x4_0, nx4_0]
  first | refine stpL_runs (toLinkS_is (hLinks.base k0) hnLinks) ?_ | (refine stpL_runs_f (toLinkS_is (hLinks.base k0) hnLinks) ?_ ?_; (rintro _ _ ⟨_, _, _, _, hf⟩; exact hf.1))
  rintro _ H5 ⟨l_x1, f_x1, rfl, o_x1, fr5⟩
  have kp5 : Keep [] H4 H5 := fr5.kp
  have le5 : H4.length ≤ H5.length := kp5.1
  replace k0 := k0.next kp5 (by simp)
  replace x4_0 := kp5.blk x4_0 (by simp)
  replace nx4_0 := blkAt_len x4_0
  replace o_wIds := o_wIds.keep kp5 (by simp)
  replace o_wLinks := o_wLinks.keep kp5 (by simp)
  replace o_w0 := o_w0.keep kp5 (by simp)
  replace o_x0 := o_x0.keep kp5 (by simp)
  have lo_f_x1 : ∀ i ∈ f_x1, H4.length + 0 ≤ i := fun i hi => by have := fr5.2 i hi; (try simp at this); omega
  have hi_f_x1 := o_x1.lt
  simp [l_w0L, l_w0T, x4_0, nx4_0]
  first | refine stpL_runs (implNetNew_is (o_x0).rd hnIds (o_x1).rd hnLinks ) ?_ | (refine stpL_runs_f (implNetNew_is (o_x0).rd hnIds (o_x1).rd hnLinks ) ?_ ?_; (rintro _ _ ⟨_, _, _, _, hf⟩; exact hf.1))
  rintro _ H6 ⟨l_g0, f_g0, rfl, o_g0, fr6⟩
  have kp6 : Keep [] H5 H6 := fr6.kp
  have le6 : H5.length ≤ H6.length := kp6.1
  replace k0 := k0.next kp6 (by simp)
  replace x4_0 := kp6.blk x4_0 (by simp)
  replace nx4_0 := blkAt_len x4_0
  replace o_wIds := o_wIds.keep kp6 (by simp)
  replace o_wLinks := o_wLinks.keep kp6 (by simp)
  replace o_w0 := o_w0.keep kp6 (by simp)
  replace o_x0 := o_x0.keep kp6 (by simp)
  replace o_x1 := o_x1.keep kp6 (by simp)
  have lo_f_g0 : ∀ i ∈ f_g0, H5.length + 0 ≤ i := fun i hi => by have := fr6.2 i hi; (try simp at this); omega
  have hi_f_g0 := o_g0.lt
  have l_g0L := o_g0.len
  have l_g0T : l_g0.take l_g0.length = l_g0 := List.take_length
  rw [l_g0L] at l_g0T
  simp [l_w0L, l_w0T, l_g0L, l_g0T, x4_0, nx4_0]
  have ee1 := fun G_ => eqNet_is (o_g0.app G_).rd (o_w0.app G_).rd hr0
  try simp [l_w0L, l_w0T, l_g0L, l_g0T, x4_0, nx4_0, ee1]
  first | refine stpL_runs (toIntS_is ((hIds.base k0).app _) hnIds) ?_ | (refine stpL_runs_f (toIntS_is ((hIds.base k0).app _) hnIds) ?_ ?_; (rintro _ _ ⟨_, _, _, _, hf⟩; exact hf.1))
  rintro _ H7 ⟨l_yx0, f_yx0, rfl, o_yx0, fr7⟩
  have kp7 : Keep [] H6 H7 := fr7.base.kp
  have le7 : H6.length ≤ H7.length := kp7.1
  replace k0 := k0.next kp7 (by simp)
  replace x4_0 := kp7.blk x4_0 (by simp)
  replace nx4_0 := blkAt_len x4_0
  replace o_wIds := o_wIds.keep kp7 (by simp)
  replace o_wLinks := o_wLinks.keep kp7 (by simp)
  replace o_w0 := o_w0.keep kp7 (by simp)
  replace o_x0 := o_x0.keep kp7 (by simp)
  replace o_x1 := o_x1.keep kp7 (by simp)
  replace o_g0 := o_g0.keep kp7 (by simp)
  have x7_0 : blkAt H7 (H6.length) = some ⟨28, .wr, [l_g0]⟩ := fr7.kp.blk (by simp) (by simp)
  have nx7_0 := blkAt_len x7_0
  have zx7_0 := nx7_0
  have lo_f_yx0 : ∀ i ∈ f_yx0, H6.length + 1 ≤ i := fun i hi => by have := fr7.2 i hi; (try simp at this); omega
  have hi_f_yx0 := o_yx0.lt
  have ee2 := eqIntS_is o_x0.rd o_yx0.rd hnIds
  simp [l_w0L, l_w0T, l_g0L, l_g0T, x4_0, x7_0, nx4_0, nx7_0, ee2]
  first | refine stpL_runs (toLinkS_is (hLinks.base k0) hnLinks) ?_ | (refine stpL_runs_f (toLinkS_is (hLinks.base k0) hnLinks) ?_ ?_; (rintro _ _ ⟨_, _, _, _, hf⟩; exact hf.1))
  rintro _ H8 ⟨l_yx1, f_yx1, rfl, o_yx1, fr8⟩
  have kp8 : Keep [] H7 H8 := fr8.kp
  have le8 : H7.length ≤ H8.length := kp8.1
  replace k0 := k0.next kp8 (by simp)
  replace x4_0 := kp8.blk x4_0 (by simp)
  replace nx4_0 := blkAt_len x4_0
  replace x7_0 := kp8.blk x7_0 (by simp)
  replace nx7_0 := blkAt_len x7_0
  replace o_wIds := o_wIds.keep kp8 (by simp)
  replace o_wLinks := o_wLinks.keep kp8 (by simp)
  replace o_w0 := o_w0.keep kp8 (by simp)
  replace o_x0 := o_x0.keep kp8 (by simp)
  replace o_x1 := o_x1.keep kp8 (by simp)
  replace o_g0 := o_g0.keep kp8 (by simp)
  replace o_yx0 := o_yx0.keep kp8 (by simp)
  have lo_f_yx1 : ∀ i ∈ f_yx1, H7.length + 0 ≤ i := fun i hi => by have := fr8.2 i hi; (try simp at this); omega
  have hi_f_yx1 := o_yx1.lt
  have ee3 := eqLinkS_is o_x1.rd o_yx1.rd hnLinks
  simp [l_w0L, l_w0T, l_g0L, l_g0T, x4_0, x7_0, nx4_0, nx7_0, ee3]
  have mb9 := IntS.mkN_le (k := 1) hnIds
  refine stpL_runs (markIntS_is (k := 1) (o_x0) (by omega) (by omega) hnIds) ?_
  rintro _ H9 ⟨rfl, om9, km9⟩
  have kp9 : Keep f_x0 H8 H9 := km9
  have le9 : H8.length ≤ H9.length := kp9.1
  replace k0 := k0.next kp9 (by intro i hi; have := lo_f_x0 i hi; omega)
  replace x4_0 := kp9.blk x4_0 (by intro hj; have := lo_f_x0 _ hj; have := hi_f_x0 _ hj; omega)
  replace nx4_0 := blkAt_len x4_0
  replace x7_0 := kp9.blk x7_0 (by intro hj; have := lo_f_x0 _ hj; have := hi_f_x0 _ hj; omega)
  replace nx7_0 := blkAt_len x7_0
  replace o_wIds := o_wIds.keep kp9 (by intro i hi hj; have := lo_f_wIds i hi; have := hi_f_wIds i hi; have := lo_f_x0 i hj; have := hi_f_x0 i hj; omega)
  replace o_wLinks := o_wLinks.keep kp9 (by intro i hi hj; have := lo_f_wLinks i hi; have := hi_f_wLinks i hi; have := lo_f_x0 i hj; have := hi_f_x0 i hj; omega)
  replace o_w0 := o_w0.keep kp9 (by intro i hi hj; have := lo_f_w0 i hi; have := hi_f_w0 i hi; have := lo_f_x0 i hj; have := hi_f_x0 i hj; omega)
  replace o_x1 := o_x1.keep kp9 (by intro i hi hj; have := lo_f_x1 i hi; have := hi_f_x1 i hi; have := lo_f_x0 i hj; have := hi_f_x0 i hj; omega)
  replace o_g0 := o_g0.keep kp9 (by intro i hi hj; have := lo_f_g0 i hi; have := hi_f_g0 i hi; have := lo_f_x0 i hj; have := hi_f_x0 i hj; omega)
  replace o_yx0 := o_yx0.keep kp9 (by intro i hi hj; have := lo_f_yx0 i hi; have := hi_f_yx0 i hi; have := lo_f_x0 i hj; have := hi_f_x0 i hj; omega)
  replace o_yx1 := o_yx1.keep kp9 (by intro i hi hj; have := lo_f_yx1 i hi; have := hi_f_yx1 i hi; have := lo_f_x0 i hj; have := hi_f_x0 i hj; omega)
  clear o_x0
  have o_x0 := om9
  have mz9 : ¬ ((IntS.mkN xIds 1) < 0) := by omega
  simp [l_w0L, l_w0T, l_g0L, l_g0T, x4_0, x7_0, nx4_0, nx7_0]
  have mb10 := LinkS.mkN_le (k := (IntS.mkN xIds 1)) hnLinks
  refine stpL_runs (markLinkS_is (k := (IntS.mkN xIds 1)) (o_x1) (by omega) (by omega) hnLinks) ?_
  rintro _ H10 ⟨rfl, om10, km10⟩
  have kp10 : Keep f_x1 H9 H10 := km10
  have le10 : H9.length ≤ H10.length := kp10.1
  replace k0 := k0.next kp10 (by intro i hi; have := lo_f_x1 i hi; omega)
  replace x4_0 := kp10.blk x4_0 (by intro hj; have := lo_f_x1 _ hj; have := hi_f_x1 _ hj; omega)
  replace nx4_0 := blkAt_len x4_0
  replace x7_0 := kp10.blk x7_0 (by intro hj; have := lo_f_x1 _ hj; have := hi_f_x1 _ hj; omega)
  replace nx7_0 := blkAt_len x7_0
  replace o_wIds := o_wIds.keep kp10 (by intro i hi hj; have := lo_f_wIds i hi; have := hi_f_wIds i hi; have := lo_f_x1 i hj; have := hi_f_x1 i hj; omega)
  replace o_wLinks := o_wLinks.keep kp10 (by intro i hi hj; have := lo_f_wLinks i hi; have := hi_f_wLinks i hi; have := lo_f_x1 i hj; have := hi_f_x1 i hj; omega)
  replace o_w0 := o_w0.keep kp10 (by intro i hi hj; have := lo_f_w0 i hi; have := hi_f_w0 i hi; have := lo_f_x1 i hj; have := hi_f_x1 i hj; omega)
  replace o_x0 := o_x0.keep kp10 (by intro i hi hj; have := lo_f_x0 i hi; have := hi_f_x0 i hi; have := lo_f_x1 i hj; have := hi_f_x1 i hj; omega)
  replace o_g0 := o_g0.keep kp10 (by intro i hi hj; have := lo_f_g0 i hi; have := hi_f_g0 i hi; have := lo_f_x1 i hj; have := hi_f_x1 i hj; omega)
  replace o_yx0 := o_yx0.keep kp10 (by intro i hi hj; have := lo_f_yx0 i hi; have := hi_f_yx0 i hi; have := lo_f_x1 i hj; have := hi_f_x1 i hj; omega)
  replace o_yx1 := o_yx1.keep kp10 (by intro i hi hj; have := lo_f_yx1 i hi; have := hi_f_yx1 i hi; have := lo_f_x1 i hj; have := hi_f_x1 i hj; omega)
  clear o_x1
  have o_x1 := om10
  have mz10 : ¬ ((LinkS.mkN xLinks (IntS.mkN xIds 1)) < 0) := by omega
  simp [l_w0L, l_w0T, l_g0L, l_g0T, x4_0, x7_0, nx4_0, nx7_0]
  have ee4 := eqNet_is o_g0.rd o_w0.rd hr0
  simp [l_w0L, l_w0T, l_g0L, l_g0T, x4_0, x7_0, nx4_0, nx7_0, ee4, mz9, mz10]
  have mb11 := Net.mkN_le (k := 1) hr0
  refine stpL_runs (markNet_is (k := 1) (o_g0) (by omega) (by omega) hr0) ?_
  rintro _ H11 ⟨rfl, om11, km11⟩
  have kp11 : Keep f_g0 H10 H11 := km11
  have le11 : H10.length ≤ H11.length := kp11.1
  replace k0 := k0.next kp11 (by intro i hi; have := lo_f_g0 i hi; omega)
  replace x4_0 := kp11.blk x4_0 (by intro hj; have := lo_f_g0 _ hj; have := hi_f_g0 _ hj; omega)
  replace nx4_0 := blkAt_len x4_0
  replace x7_0 := kp11.blk x7_0 (by intro hj; have := lo_f_g0 _ hj; have := hi_f_g0 _ hj; omega)
  replace nx7_0 := blkAt_len x7_0
  replace o_wIds := o_wIds.keep kp11 (by intro i hi hj; have := lo_f_wIds i hi; have := hi_f_wIds i hi; have := lo_f_g0 i hj; have := hi_f_g0 i hj; omega)
  replace o_wLinks := o_wLinks.keep kp11 (by intro i hi hj; have := lo_f_wLinks i hi; have := hi_f_wLinks i hi; have := lo_f_g0 i hj; have := hi_f_g0 i hj; omega)
  replace o_w0 := o_w0.keep kp11 (by intro i hi hj; have := lo_f_w0 i hi; have := hi_f_w0 i hi; have := lo_f_g0 i hj; have := hi_f_g0 i hj; omega)
  replace o_x0 := o_x0.keep kp11 (by intro i hi hj; have := lo_f_x0 i hi; have := hi_f_x0 i hi; have := lo_f_g0 i hj; have := hi_f_g0 i hj; omega)
  replace o_x1 := o_x1.keep kp11 (by intro i hi hj; have := lo_f_x1 i hi; have := hi_f_x1 i hi; have := lo_f_g0 i hj; have := hi_f_g0 i hj; omega)
  replace o_yx0 := o_yx0.keep kp11 (by intro i hi hj; have := lo_f_yx0 i hi; have := hi_f_yx0 i hi; have := lo_f_g0 i hj; have := hi_f_g0 i hj; omega)
  replace o_yx1 := o_yx1.keep kp11 (by intro i hi hj; have := lo_f_yx1 i hi; have := hi_f_yx1 i hi; have := lo_f_g0 i hj; have := hi_f_g0 i hj; omega)
  clear o_g0
  have o_g0 := om11
  have mz11 : ¬ ((Net.mkN ((netNew xIds xLinks).1) 1) < 0) := by omega
  simp [l_w0L, l_w0T, l_g0L, l_g0T, x4_0, x7_0, nx4_0, nx7_0]
  have ms5 : (Net.mk' ((netNew xIds xLinks).1) 1).sz ≤ 1048576 := by rw [Net.mk_sz]; exact hr0
  have ee5 := heldNet_is (k := 1) o_g0.rd (by omega) (by omega) ms5
  have hm5 := Net.hd_mk ((netNew xIds xLinks).1) 1 (by omega)
  simp only [hm5] at ee5
  simp [l_w0L, l_w0T, l_g0L, l_g0T, x4_0, x7_0, nx4_0, nx7_0, ee5, mz11]
  try simp [l_w0L, l_w0T, l_g0L, l_g0T, x4_0, x7_0, nx4_0, nx7_0, mz11]
  try simp [l_w0L, l_w0T, l_g0L, l_g0T, x4_0, x7_0, nx4_0, nx7_0, mz11]
  first | refine stpL_runs (toIntS_is (hIds.base k0) hnIds) ?_ | (refine stpL_runs_f (toIntS_is (hIds.base k0) hnIds) ?_ ?_; (rintro _ _ ⟨_, _, _, _, hf⟩; exact hf.1))
  rintro _ H12 ⟨l_hIds, f_hIds, rfl, o_hIds, fr12⟩
  have kp12 : Keep [] H11 H12 := fr12.kp
  have le12 : H11.length ≤ H12.length := kp12.1
  replace k0 := k0.next kp12 (by simp)
  replace x4_0 := kp12.blk x4_0 (by simp)
  replace nx4_0 := blkAt_len x4_0
  replace x7_0 := kp12.blk x7_0 (by simp)
  replace nx7_0 := blkAt_len x7_0
  replace o_wIds := o_wIds.keep kp12 (by simp)
  replace o_wLinks := o_wLinks.keep kp12 (by simp)
  replace o_w0 := o_w0.keep kp12 (by simp)
  replace o_x0 := o_x0.keep kp12 (by simp)
  replace o_x1 := o_x1.keep kp12 (by simp)
  replace o_g0 := o_g0.keep kp12 (by simp)
  replace o_yx0 := o_yx0.keep kp12 (by simp)
  replace o_yx1 := o_yx1.keep kp12 (by simp)
  have lo_f_hIds : ∀ i ∈ f_hIds, H11.length + 0 ≤ i := fun i hi => by have := fr12.2 i hi; (try simp at this); omega
  have hi_f_hIds := o_hIds.lt
  simp [l_w0L, l_w0T, l_g0L, l_g0T, x4_0, x7_0, nx4_0, nx7_0]
  first | refine stpL_runs (toLinkS_is (hLinks.base k0) hnLinks) ?_ | (refine stpL_runs_f (toLinkS_is (hLinks.base k0) hnLinks) ?_ ?_; (rintro _ _ ⟨_, _, _, _, hf⟩; exact hf.1))
  rintro _ H13 ⟨l_hLinks, f_hLinks, rfl, o_hLinks, fr13⟩
  have kp13 : Keep [] H12 H13 := fr13.kp
  have le13 : H12.length ≤ H13.length := kp13.1
  replace k0 := k0.next kp13 (by simp)
  replace x4_0 := kp13.blk x4_0 (by simp)
  replace nx4_0 := blkAt_len x4_0
  replace x7_0 := kp13.blk x7_0 (by simp)
  replace nx7_0 := blkAt_len x7_0
  replace o_wIds := o_wIds.keep kp13 (by simp)
  replace o_wLinks := o_wLinks.keep kp13 (by simp)
  replace o_w0 := o_w0.keep kp13 (by simp)
  replace o_x0 := o_x0.keep kp13 (by simp)
  replace o_x1 := o_x1.keep kp13 (by simp)
  replace o_g0 := o_g0.keep kp13 (by simp)
  replace o_yx0 := o_yx0.keep kp13 (by simp)
  replace o_yx1 := o_yx1.keep kp13 (by simp)
  replace o_hIds := o_hIds.keep kp13 (by simp)
  have lo_f_hLinks : ∀ i ∈ f_hLinks, H12.length + 0 ≤ i := fun i hi => by have := fr13.2 i hi; (try simp at this); omega
  have hi_f_hLinks := o_hLinks.lt
  simp [l_w0L, l_w0T, l_g0L, l_g0T, x4_0, x7_0, nx4_0, nx7_0]
  first | refine stpL_runs (implNetNew_is (o_hIds).rd hnIds (o_hLinks).rd hnLinks ) ?_ | (refine stpL_runs_f (implNetNew_is (o_hIds).rd hnIds (o_hLinks).rd hnLinks ) ?_ ?_; (rintro _ _ ⟨_, _, _, _, hf⟩; exact hf.1))
  rintro _ H14 ⟨l_h0, f_h0, rfl, o_h0, fr14⟩
  have kp14 : Keep [] H13 H14 := fr14.kp
  have le14 : H13.length ≤ H14.length := kp14.1
  replace k0 := k0.next kp14 (by simp)
  replace x4_0 := kp14.blk x4_0 (by simp)
  replace nx4_0 := blkAt_len x4_0
  replace x7_0 := kp14.blk x7_0 (by simp)
  replace nx7_0 := blkAt_len x7_0
  replace o_wIds := o_wIds.keep kp14 (by simp)
  replace o_wLinks := o_wLinks.keep kp14 (by simp)
  replace o_w0 := o_w0.keep kp14 (by simp)
  replace o_x0 := o_x0.keep kp14 (by simp)
  replace o_x1 := o_x1.keep kp14 (by simp)
  replace o_g0 := o_g0.keep kp14 (by simp)
  replace o_yx0 := o_yx0.keep kp14 (by simp)
  replace o_yx1 := o_yx1.keep kp14 (by simp)
  replace o_hIds := o_hIds.keep kp14 (by simp)
  replace o_hLinks := o_hLinks.keep kp14 (by simp)
  have lo_f_h0 : ∀ i ∈ f_h0, H13.length + 0 ≤ i := fun i hi => by have := fr14.2 i hi; (try simp at this); omega
  have hi_f_h0 := o_h0.lt
  have l_h0L := o_h0.len
  have l_h0T : l_h0.take l_h0.length = l_h0 := List.take_length
  rw [l_h0L] at l_h0T
  simp [l_w0L, l_w0T, l_g0L, l_g0T, l_h0L, l_h0T, x4_0, x7_0, nx4_0, nx7_0]
  have ee6 := fun G_ => eqNet_is (o_h0.app G_).rd (o_w0.app G_).rd hr0
  try simp [l_w0L, l_w0T, l_g0L, l_g0T, l_h0L, l_h0T, x4_0, x7_0, nx4_0, nx7_0, ee6]
  have ms7 : (Net.mk' ((netNew xIds xLinks).1) 1).sz ≤ 1048576 := by rw [Net.mk_sz]; exact hr0
  have ee7 := fun G_ => heldNet_is (k := 1) (o_g0.app G_).rd (by omega) (by omega) ms7
  have hm7 := Net.hd_mk ((netNew xIds xLinks).1) 1 (by omega)
  simp only [hm7] at ee7
  simp [l_w0L, l_w0T, l_g0L, l_g0T, l_h0L, l_h0T, x4_0, x7_0, nx4_0, nx7_0, ee7, mz11]
  try simp [l_w0L, l_w0T, l_g0L, l_g0T, l_h0L, l_h0T, x4_0, x7_0, nx4_0, nx7_0, mz11]
  try simp [l_w0L, l_w0T, l_g0L, l_g0T, l_h0L, l_h0T, x4_0, x7_0, nx4_0, nx7_0, mz11]
  refine hQ _ _ _ (by simp) ?_
  simp [Try.f3]
theorem law_args (H : Heap) (lIds : List Lf) (lLinks : List Lf) (sIds : Shp Try.prog H 8 22 lIds) (sLinks : Shp Try.prog H 8 23 lLinks) : ∃ H', run env 3 [argV env.P 22 lIds, argV env.P 23 lLinks] H = some (.bool true, H') := by
  obtain ⟨qIds, xIds, rfl, hIds, ftIds⟩ := shpIntS_is sIds
  obtain ⟨qLinks, xLinks, rfl, hLinks, ftLinks⟩ := shpLinkS_is sLinks
  rw [argV_slice (by rw [env_P]; exact Try.underlying22), argV_slice (by rw [env_P]; exact Try.underlying23)]
  obtain ⟨v, H', hr, rfl⟩ := law H qIds xIds hIds ftIds qLinks xLinks hLinks ftLinks
  exact ⟨H', hr⟩
theorem own : ownKnob Try.prog.godebug = none := by kernel_rfl
theorem lifted (os : Os) (started : os.Started) (H : Type) (enc : TypeId × Value → H) :
    ReturnsInHanded {} Try.checked os 3 .any (Rows.fnExactNetNewSpec.pre6 enc Try.prog Try.f3 Rows.fnExactNetNewRow.domain false) (Rows.fnExactNetNewSpec.post enc Try.prog Try.f3 false true false false) := by
  refine returnsInHanded_of_change (C := Try.checked) own started (by as_aux_lemma => kernel_rfl) Try.func3
    (ChangeSpec.witness6 (enc := enc) (C := Try.checked) false ⟨#[], #[.slice none 0 0, .slice none 0 0], []⟩ 8 (by as_aux_lemma => kernel_rfl) (by as_aux_lemma => kernel_rfl) (by as_aux_lemma => kernel_rfl) (by as_aux_lemma => kernel_rfl)) ?_
  intro W base args ds gs before hval hW hcnd _
  refine lawful (E := env) (k := 8) (tb := 4) sound_all (by as_aux_lemma => kernel_rfl) rfl Try.underlying4 rfl (fun ds hds => ?_) (fun H lss hn hl hs => ?_) hval hW
  · match ds, hds with
    | [d0, d1], _ => rfl
  · match lss, hl with
    | [l0, l1], _ => exact law_args H l0 l1 (hs 0 22 l0 rfl rfl) (hs 1 23 l1 rfl rfl)
theorem holds : Rows.FnExactNetNewSaid :=
  OpenClaim.holds_of_wide 3 Try.f3 rfl rfl rfl rfl rfl rfl rfl ⟨rfl, rfl, rfl, rfl, rfl⟩ rfl rfl rfl rfl rfl (by as_aux_lemma => kernel_rfl) Try.func3 (by as_aux_lemma => kernel_rfl)
    (of_decide_eq_true (by as_aux_lemma => kernel_rfl)) (by unfold Func.isWrapper; first | (rw [if_pos (by decide +kernel)]; kernel_rfl) | (rw [if_neg (by decide +kernel)]; exact ⟨rfl, rfl⟩))
    (fun os started H enc _ => lifted os started H enc)
end W
end Go.Proofs.Ytnphceekmfmbcaa

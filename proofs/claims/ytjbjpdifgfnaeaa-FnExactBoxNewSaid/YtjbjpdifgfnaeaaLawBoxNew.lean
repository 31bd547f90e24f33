/- The law FnExactBoxNew of the given program returns true for every input: its given statement, proved without any condition. -/
import Derived.Test.YtjbjpdifgfnaeaaWalkBoxNew
import Derived.Test.YtjbjpdifgfnaeaaRows
set_option maxRecDepth 100000
set_option maxHeartbeats 4000000
set_option linter.unusedSimpArgs false
set_option linter.unusedVariables false
set_option linter.unnecessarySimpa false
namespace Go.Proofs.Ytjbjpdifgfnaeaa
open Go Go.Ab Go.ChangeShapes Go.WideShapes Go.ChangeAt Go.RowKit
namespace W
theorem law (H : Heap) (xId : Int) (hId : I64 xId) (xPorts : Int) (hPorts : I64 xPorts) :
    Runs env 6 [.int xId, .int xPorts] H fun v _ => v = .bool true := by
  refine Runs.walk ok6 Try.func6 rfl (by simp [Try.f6]) fun Q hQ => ?_
  simp only [Try.f6, strip, stripL, stripI, stripG, chkT, tagsB, tagsL, tagD, addT, tagA, lookN, tagOp, elmT, ty22, ty23, ty28, ty29, ty37, ty38, ty39, ty40, ty41, ty50, ty51, ty52, ty53, ty72, ty81, ty141, ty189, Nat.reduceEqDiff, if_false, reduceIte, Option.getD_some, Option.getD_none, dstAt, dstOk, Nat.reduceLT, decide_true, if_true]
  simp
  have hr0 : ((boxNew xId xPorts).1).sz ≤ 1048576 := boxNew_sz0 
  first | refine stpL_runs (specBoxNew_is  xId hId xPorts hPorts) ?_ | (refine stpL_runs_f (specBoxNew_is  xId hId xPorts hPorts) ?_ ?_; (rintro _ _ ⟨_, _, _, _, hf⟩; exact hf.1))
  rintro _ H1 ⟨l_w0, f_w0, rfl, o_w0, fr1⟩
  have kp1 : Keep [] H H1 := fr1.kp
  have le1 : H.length ≤ H1.length := kp1.1
  have k0 : Keep [] H H1 := (Keep.refl [] H).next kp1 (by simp)
  have lo_f_w0 : ∀ i ∈ f_w0, H.length + 0 ≤ i := fun i hi => by have := fr1.2 i hi; (try simp at this); omega
  have hi_f_w0 := o_w0.lt
  have l_w0L := o_w0.len
  have l_w0T : l_w0.take l_w0.length = l_w0 := List.take_length
  rw [l_w0L] at l_w0T
  simp [l_w0L, l_w0T]
  first | refine stpL_runs (implBoxNew_is  xId hId xPorts hPorts) ?_ | (refine stpL_runs_f (implBoxNew_is  xId hId xPorts hPorts) ?_ ?_; (rintro _ _ ⟨_, _, _, _, hf⟩; exact hf.1))
  rintro _ H2 ⟨l_g0, f_g0, rfl, o_g0, fr2⟩
  have kp2 : Keep [] H1 H2 := fr2.base.kp
  have le2 : H1.length ≤ H2.length := kp2.1
  replace k0 := k0.next kp2 (by simp)
  replace o_w0 := o_w0.keep kp2 (by simp)
  have x2_0 : blkAt H2 (H1.length) = some ⟨43, .wr, [l_w0]⟩ := fr2.kp.blk (by simp) (by simp)
  have nx2_0 := blkAt_len x2_0
  have zx2_0 := nx2_0
  have lo_f_g0 : ∀ i ∈ f_g0, H1.length + 1 ≤ i := fun i hi => by have := fr2.2 i hi; (try simp at this); omega
  have hi_f_g0 := o_g0.lt
  have l_g0L := o_g0.len
  have l_g0T : l_g0.take l_g0.length = l_g0 := List.take_length
  rw [l_g0L] at l_g0T
  simp [l_w0L, l_w0T, l_g0L, l_g0T, x2_0, nx2_0]
  have ee1 := fun G_ => eqBox_is (o_g0.app G_).rd (o_w0.app G_).rd hr0
  try simp [l_w0L, l_w0T, l_g0L, l_g0T, x2_0, nx2_0, ee1]
  have mb3 := Box.mkN_le (k := 1) hr0
  refine stpL_runs (markBox_is (k := 1) (o_g0.app _) (by omega) (by omega) hr0) ?_
  rintro _ H3 ⟨rfl, om3, km3⟩
  have kp3 : Keep f_g0 H2 H3 := km3.base
  have le3 : H2.length ≤ H3.length := kp3.1
  replace k0 := k0.next kp3 (by intro i hi; have := lo_f_g0 i hi; omega)
  replace x2_0 := kp3.blk x2_0 (by intro hj; have := lo_f_g0 _ hj; have := hi_f_g0 _ hj; omega)
  replace nx2_0 := blkAt_len x2_0
  replace o_w0 := o_w0.keep kp3 (by intro i hi hj; have := lo_f_w0 i hi; have := hi_f_w0 i hi; have := lo_f_g0 i hj; have := hi_f_g0 i hj; omega)
  have x3_0 : blkAt H3 (H2.length) = some ⟨43, .wr, [l_g0]⟩ := km3.blk (by simp) (by intro hj; have := lo_f_g0 _ hj; have := hi_f_g0 _ hj; omega)
  have nx3_0 := blkAt_len x3_0
  have zx3_0 := nx3_0
  clear o_g0
  have o_g0 := om3
  have mz3 : ¬ ((Box.mkN ((boxNew xId xPorts).1) 1) < 0) := by omega
  simp [l_w0L, l_w0T, l_g0L, l_g0T, x2_0, x3_0, nx2_0, nx3_0]
  have ms2 : (Box.mk' ((boxNew xId xPorts).1) 1).sz ≤ 1048576 := by rw [Box.mk_sz]; exact hr0
  have ee2 := heldBox_is (k := 1) o_g0.rd (by omega) (by omega) ms2
  have hm2 := Box.hd_mk ((boxNew xId xPorts).1) 1 (by omega)
  simp only [hm2] at ee2
  simp [l_w0L, l_w0T, l_g0L, l_g0T, x2_0, x3_0, nx2_0, nx3_0, ee2, mz3]
  try simp [l_w0L, l_w0T, l_g0L, l_g0T, x2_0, x3_0, nx2_0, nx3_0, mz3]
  try simp [l_w0L, l_w0T, l_g0L, l_g0T, x2_0, x3_0, nx2_0, nx3_0, mz3]
  first | refine stpL_runs (implBoxNew_is  xId hId xPorts hPorts) ?_ | (refine stpL_runs_f (implBoxNew_is  xId hId xPorts hPorts) ?_ ?_; (rintro _ _ ⟨_, _, _, _, hf⟩; exact hf.1))
  rintro _ H4 ⟨l_h0, f_h0, rfl, o_h0, fr4⟩
  have kp4 : Keep [] H3 H4 := fr4.kp
  have le4 : H3.length ≤ H4.length := kp4.1
  replace k0 := k0.next kp4 (by simp)
  replace x2_0 := kp4.blk x2_0 (by simp)
  replace nx2_0 := blkAt_len x2_0
  replace x3_0 := kp4.blk x3_0 (by simp)
  replace nx3_0 := blkAt_len x3_0
  replace o_w0 := o_w0.keep kp4 (by simp)
  replace o_g0 := o_g0.keep kp4 (by simp)
  have lo_f_h0 : ∀ i ∈ f_h0, H3.length + 0 ≤ i := fun i hi => by have := fr4.2 i hi; (try simp at this); omega
  have hi_f_h0 := o_h0.lt
  have l_h0L := o_h0.len
  have l_h0T : l_h0.take l_h0.length = l_h0 := List.take_length
  rw [l_h0L] at l_h0T
  simp [l_w0L, l_w0T, l_g0L, l_g0T, l_h0L, l_h0T, x2_0, x3_0, nx2_0, nx3_0]
  have ee3 := fun G_ => eqBox_is (o_h0.app G_).rd (o_w0.app G_).rd hr0
  try simp [l_w0L, l_w0T, l_g0L, l_g0T, l_h0L, l_h0T, x2_0, x3_0, nx2_0, nx3_0, ee3]
  have ms4 : (Box.mk' ((boxNew xId xPorts).1) 1).sz ≤ 1048576 := by rw [Box.mk_sz]; exact hr0
  have ee4 := fun G_ => heldBox_is (k := 1) (o_g0.app G_).rd (by omega) (by omega) ms4
  have hm4 := Box.hd_mk ((boxNew xId xPorts).1) 1 (by omega)
  simp only [hm4] at ee4
  simp [l_w0L, l_w0T, l_g0L, l_g0T, l_h0L, l_h0T, x2_0, x3_0, nx2_0, nx3_0, ee4, mz3]
  try simp [l_w0L, l_w0T, l_g0L, l_g0T, l_h0L, l_h0T, x2_0, x3_0, nx2_0, nx3_0, mz3]
  try simp [l_w0L, l_w0T, l_g0L, l_g0T, l_h0L, l_h0T, x2_0, x3_0, nx2_0, nx3_0, mz3]
  refine hQ _ _ _ (by simp) ?_
  simp [Try.f6]
theorem law_args (H : Heap) (lId : List Lf) (lPorts : List Lf) (sId : Shp Try.prog H 8 3 lId) (sPorts : Shp Try.prog H 8 3 lPorts) : ∃ H', run env 6 [argV env.P 3 lId, argV env.P 3 lPorts] H = some (.bool true, H') := by
  obtain ⟨xId, rfl, hId⟩ := sId.i64 Try.underlying3
  obtain ⟨xPorts, rfl, hPorts⟩ := sPorts.i64 Try.underlying3
  rw [argV_int (by rw [env_P]; exact Try.underlying3), argV_int (by rw [env_P]; exact Try.underlying3)]
  obtain ⟨v, H', hr, rfl⟩ := law H xId hId xPorts hPorts
  exact ⟨H', hr⟩
theorem own : ownKnob Try.prog.godebug = none := by kernel_rfl
theorem lifted (os : Os) (started : os.Started) (H : Type) (enc : TypeId × Value → H) :
    ReturnsInHanded {} Try.checked os 6 .any (Rows.fnExactBoxNewSpec.pre6 enc Try.prog Try.f6 Rows.fnExactBoxNewRow.domain false) (Rows.fnExactBoxNewSpec.post enc Try.prog Try.f6 false true false false) := by
  refine returnsInHanded_of_change (C := Try.checked) own started (by as_aux_lemma => kernel_rfl) Try.func6
    (ChangeSpec.witness6 (enc := enc) (C := Try.checked) false ⟨#[], #[.int .i64 0, .int .i64 0], []⟩ 8 (by as_aux_lemma => kernel_rfl) (by as_aux_lemma => kernel_rfl) (by as_aux_lemma => kernel_rfl) (by as_aux_lemma => kernel_rfl)) ?_
  intro W base args ds gs before hval hW hcnd _
  refine lawful (E := env) (k := 8) (tb := 4) sound_all (by as_aux_lemma => kernel_rfl) rfl Try.underlying4 rfl (fun ds hds => ?_) (fun H lss hn hl hs => ?_) hval hW
  · match ds, hds with
    | [d0, d1], _ => rfl
  · match lss, hl with
    | [l0, l1], _ => exact law_args H l0 l1 (hs 0 3 l0 rfl rfl) (hs 1 3 l1 rfl rfl)
theorem holds : Rows.FnExactBoxNewSaid :=
  OpenClaim.holds_of_wide 6 Try.f6 rfl rfl rfl rfl rfl rfl rfl ⟨rfl, rfl, rfl, rfl, rfl⟩ rfl rfl rfl rfl rfl (by as_aux_lemma => kernel_rfl) Try.func6 (by as_aux_lemma => kernel_rfl)
    (of_decide_eq_true (by as_aux_lemma => kernel_rfl)) (by unfold Func.isWrapper; first | (rw [if_pos (by decide +kernel)]; kernel_rfl) | (rw [if_neg (by decide +kernel)]; exact ⟨rfl, rfl⟩))
    (fun os started H enc _ => lifted os started H enc)
end W
end Go.Proofs.Ytjbjpdifgfnaeaa

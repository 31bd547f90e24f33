/- The law FnExactSaying of the given program returns true for every input: its given statement, proved without any condition. -/
import Derived.Test.YtjbjpdifgfnaeaaWalkSaying1
import Derived.Test.YtjbjpdifgfnaeaaRows
set_option maxRecDepth 100000
set_option maxHeartbeats 4000000
set_option linter.unusedSimpArgs false
set_option linter.unusedVariables false
set_option linter.unnecessarySimpa false
namespace Go.Proofs.Ytjbjpdifgfnaeaa
open Go Go.Ab Go.ChangeShapes Go.WideShapes Go.ChangeAt Go.RowKit
namespace W
theorem law (H : Heap) (xId : Int) (hId : I64 xId) (xPorts : Int) (hPorts : I64 xPorts) (lLog : Lf) (xLog : List In) (hLog : RdLInS H lLog xLog) (ftLog : xLog.length ≤ maxLen) (xN : Int) (hN : I64 xN) :
    Runs env 9 [.int xId, .int xPorts, .w (.lf lLog), .int xN] H fun v _ => v = .bool true := by
  refine Runs.walk ok9 Try.func9 rfl (by simp [Try.f9]) fun Q hQ => ?_
  simp only [Try.f9, strip, stripL, stripI, stripG, chkT, tagsB, tagsL, tagD, addT, tagA, lookN, tagOp, elmT, ty22, ty23, ty28, ty29, ty37, ty38, ty39, ty40, ty41, ty50, ty51, ty52, ty53, ty72, ty81, ty141, ty189, Nat.reduceEqDiff, if_false, reduceIte, Option.getD_some, Option.getD_none, dstAt, dstOk, Nat.reduceLT, decide_true, if_true]
  simp
  have esLog := szInS_is hLog ftLog (left := 1048576) (by omega) (by omega) 
  simp [esLog]
  by_cases hbLog : (1048576 : Int) < xLog.length
  · simp [hbLog]
    refine hQ _ _ _ (by simp) ?_
    simp [Try.f9]
  have hnLog : xLog.length ≤ 1048576 := by omega
  have hzLog : ¬ ((1048576 - (xLog.length : Int)) < 0) := by omega
  simp [hbLog, hzLog]
  first | refine stpL_runs (toInS_is hLog hnLog) ?_ | (refine stpL_runs_f (toInS_is hLog hnLog) ?_ ?_; (rintro _ _ ⟨_, _, _, _, hf⟩; exact hf.1))
  rintro _ H1 ⟨l_wLog, f_wLog, rfl, o_wLog, fr1⟩
  have kp1 : Keep [] H H1 := fr1.kp
  have le1 : H.length ≤ H1.length := kp1.1
  have k0 : Keep [] H H1 := (Keep.refl [] H).next kp1 (by simp)
  have lo_f_wLog : ∀ i ∈ f_wLog, H.length + 0 ≤ i := fun i hi => by have := fr1.2 i hi; (try simp at this); omega
  have hi_f_wLog := o_wLog.lt
  simp
  have hr0 : (saying xId xPorts xLog xN).length ≤ 1048576 := saying_sz0 hnLog
  first | refine stpL_runs (specSaying_is (o_wLog).rd hnLog xId hId xPorts hPorts xN hN) ?_ | (refine stpL_runs_f (specSaying_is (o_wLog).rd hnLog xId hId xPorts hPorts xN hN) ?_ ?_; (rintro _ _ ⟨_, _, _, _, hf⟩; exact hf.1))
  rintro _ H2 ⟨l_w0, f_w0, rfl, o_w0, fr2⟩
  have kp2 : Keep [] H1 H2 := fr2.kp
  have le2 : H1.length ≤ H2.length := kp2.1
  replace k0 := k0.next kp2 (by simp)
  replace o_wLog := o_wLog.keep kp2 (by simp)
  have lo_f_w0 : ∀ i ∈ f_w0, H1.length + 0 ≤ i := fun i hi => by have := fr2.2 i hi; (try simp at this); omega
  have hi_f_w0 := o_w0.lt
  simp
  first | refine stpL_runs (toInS_is (hLog.base k0) hnLog) ?_ | (refine stpL_runs_f (toInS_is (hLog.base k0) hnLog) ?_ ?_; (rintro _ _ ⟨_, _, _, _, hf⟩; exact hf.1))
  rintro _ H3 ⟨l_x2, f_x2, rfl, o_x2, fr3⟩
  have kp3 : Keep [] H2 H3 := fr3.kp
  have le3 : H2.length ≤ H3.length := kp3.1
  replace k0 := k0.next kp3 (by simp)
  replace o_wLog := o_wLog.keep kp3 (by simp)
  replace o_w0 := o_w0.keep kp3 (by simp)
  have lo_f_x2 : ∀ i ∈ f_x2, H2.length + 0 ≤ i := fun i hi => by have := fr3.2 i hi; (try simp at this); omega
  have hi_f_x2 := o_x2.lt
  simp
  first | refine stpL_runs (implSaying_is (o_x2).rd hnLog xId hId xPorts hPorts xN hN) ?_ | (refine stpL_runs_f (implSaying_is (o_x2).rd hnLog xId hId xPorts hPorts xN hN) ?_ ?_; (rintro _ _ ⟨_, _, _, _, hf⟩; exact hf.1))
  rintro _ H4 ⟨l_g0, f_g0, rfl, o_g0, fr4⟩
  have kp4 : Keep [] H3 H4 := fr4.kp
  have le4 : H3.length ≤ H4.length := kp4.1
  replace k0 := k0.next kp4 (by simp)
  replace o_wLog := o_wLog.keep kp4 (by simp)
  replace o_w0 := o_w0.keep kp4 (by simp)
  replace o_x2 := o_x2.keep kp4 (by simp)
  have lo_f_g0 : ∀ i ∈ f_g0, H3.length + 0 ≤ i := fun i hi => by have := fr4.2 i hi; (try simp at this); omega
  have hi_f_g0 := o_g0.lt
  simp
  have ee1 := eqOutS_is o_g0.rd o_w0.rd hr0
  try simp [ee1]
  first | refine stpL_runs (toInS_is (hLog.base k0) hnLog) ?_ | (refine stpL_runs_f (toInS_is (hLog.base k0) hnLog) ?_ ?_; (rintro _ _ ⟨_, _, _, _, hf⟩; exact hf.1))
  rintro _ H5 ⟨l_yx2, f_yx2, rfl, o_yx2, fr5⟩
  have kp5 : Keep [] H4 H5 := fr5.kp
  have le5 : H4.length ≤ H5.length := kp5.1
  replace k0 := k0.next kp5 (by simp)
  replace o_wLog := o_wLog.keep kp5 (by simp)
  replace o_w0 := o_w0.keep kp5 (by simp)
  replace o_x2 := o_x2.keep kp5 (by simp)
  replace o_g0 := o_g0.keep kp5 (by simp)
  have lo_f_yx2 : ∀ i ∈ f_yx2, H4.length + 0 ≤ i := fun i hi => by have := fr5.2 i hi; (try simp at this); omega
  have hi_f_yx2 := o_yx2.lt
  have ee2 := eqInS_is o_x2.rd o_yx2.rd hnLog
  simp [ee2]
  have mb6 := InS.mkN_le (k := 1) hnLog
  refine stpL_runs (markInS_is (k := 1) (o_x2) (by omega) (by omega) hnLog) ?_
  rintro _ H6 ⟨rfl, om6, km6⟩
  have kp6 : Keep f_x2 H5 H6 := km6
  have le6 : H5.length ≤ H6.length := kp6.1
  replace k0 := k0.next kp6 (by intro i hi; have := lo_f_x2 i hi; omega)
  replace o_wLog := o_wLog.keep kp6 (by intro i hi hj; have := lo_f_wLog i hi; have := hi_f_wLog i hi; have := lo_f_x2 i hj; have := hi_f_x2 i hj; omega)
  replace o_w0 := o_w0.keep kp6 (by intro i hi hj; have := lo_f_w0 i hi; have := hi_f_w0 i hi; have := lo_f_x2 i hj; have := hi_f_x2 i hj; omega)
  replace o_g0 := o_g0.keep kp6 (by intro i hi hj; have := lo_f_g0 i hi; have := hi_f_g0 i hi; have := lo_f_x2 i hj; have := hi_f_x2 i hj; omega)
  replace o_yx2 := o_yx2.keep kp6 (by intro i hi hj; have := lo_f_yx2 i hi; have := hi_f_yx2 i hi; have := lo_f_x2 i hj; have := hi_f_x2 i hj; omega)
  clear o_x2
  have o_x2 := om6
  have mz6 : ¬ ((InS.mkN xLog 1) < 0) := by omega
  simp
  have ee3 := eqOutS_is o_g0.rd o_w0.rd hr0
  simp [ee3, mz6]
  have mb7 := OutS.mkN_le (k := 1) hr0
  refine stpL_runs (markOutS_is (k := 1) (o_g0) (by omega) (by omega) hr0) ?_
  rintro _ H7 ⟨rfl, om7, km7⟩
  have kp7 : Keep f_g0 H6 H7 := km7
  have le7 : H6.length ≤ H7.length := kp7.1
  replace k0 := k0.next kp7 (by intro i hi; have := lo_f_g0 i hi; omega)
  replace o_wLog := o_wLog.keep kp7 (by intro i hi hj; have := lo_f_wLog i hi; have := hi_f_wLog i hi; have := lo_f_g0 i hj; have := hi_f_g0 i hj; omega)
  replace o_w0 := o_w0.keep kp7 (by intro i hi hj; have := lo_f_w0 i hi; have := hi_f_w0 i hi; have := lo_f_g0 i hj; have := hi_f_g0 i hj; omega)
  replace o_x2 := o_x2.keep kp7 (by intro i hi hj; have := lo_f_x2 i hi; have := hi_f_x2 i hi; have := lo_f_g0 i hj; have := hi_f_g0 i hj; omega)
  replace o_yx2 := o_yx2.keep kp7 (by intro i hi hj; have := lo_f_yx2 i hi; have := hi_f_yx2 i hi; have := lo_f_g0 i hj; have := hi_f_g0 i hj; omega)
  clear o_g0
  have o_g0 := om7
  have mz7 : ¬ ((OutS.mkN (saying xId xPorts xLog xN) 1) < 0) := by omega
  simp
  have ms4 : (OutS.mk' (saying xId xPorts xLog xN) 1).length ≤ 1048576 := by rw [OutS.mk_sz]; exact hr0
  have ee4 := heldOutS_is (k := 1) o_g0.rd (by omega) (by omega) ms4
  simp only [OutS.hd_mk] at ee4
  simp [ee4, mz7]
  try simp [mz7]
  try simp [mz7]
  first | refine stpL_runs (toInS_is (hLog.base k0) hnLog) ?_ | (refine stpL_runs_f (toInS_is (hLog.base k0) hnLog) ?_ ?_; (rintro _ _ ⟨_, _, _, _, hf⟩; exact hf.1))
  rintro _ H8 ⟨l_hLog, f_hLog, rfl, o_hLog, fr8⟩
  have kp8 : Keep [] H7 H8 := fr8.kp
  have le8 : H7.length ≤ H8.length := kp8.1
  replace k0 := k0.next kp8 (by simp)
  replace o_wLog := o_wLog.keep kp8 (by simp)
  replace o_w0 := o_w0.keep kp8 (by simp)
  replace o_x2 := o_x2.keep kp8 (by simp)
  replace o_g0 := o_g0.keep kp8 (by simp)
  replace o_yx2 := o_yx2.keep kp8 (by simp)
  have lo_f_hLog : ∀ i ∈ f_hLog, H7.length + 0 ≤ i := fun i hi => by have := fr8.2 i hi; (try simp at this); omega
  have hi_f_hLog := o_hLog.lt
  simp
  first | refine stpL_runs (implSaying_is (o_hLog).rd hnLog xId hId xPorts hPorts xN hN) ?_ | (refine stpL_runs_f (implSaying_is (o_hLog).rd hnLog xId hId xPorts hPorts xN hN) ?_ ?_; (rintro _ _ ⟨_, _, _, _, hf⟩; exact hf.1))
  rintro _ H9 ⟨l_h0, f_h0, rfl, o_h0, fr9⟩
  have kp9 : Keep [] H8 H9 := fr9.kp
  have le9 : H8.length ≤ H9.length := kp9.1
  replace k0 := k0.next kp9 (by simp)
  replace o_wLog := o_wLog.keep kp9 (by simp)
  replace o_w0 := o_w0.keep kp9 (by simp)
  replace o_x2 := o_x2.keep kp9 (by simp)
  replace o_g0 := o_g0.keep kp9 (by simp)
  replace o_yx2 := o_yx2.keep kp9 (by simp)
  replace o_hLog := o_hLog.keep kp9 (by simp)
  have lo_f_h0 : ∀ i ∈ f_h0, H8.length + 0 ≤ i := fun i hi => by have := fr9.2 i hi; (try simp at this); omega
  have hi_f_h0 := o_h0.lt
  simp
  have ee5 := eqOutS_is o_h0.rd o_w0.rd hr0
  try simp [ee5]
  have ms6 : (OutS.mk' (saying xId xPorts xLog xN) 1).length ≤ 1048576 := by rw [OutS.mk_sz]; exact hr0
  have ee6 := heldOutS_is (k := 1) o_g0.rd (by omega) (by omega) ms6
  simp only [OutS.hd_mk] at ee6
  simp [ee6, mz7]
  try simp [mz7]
  try simp [mz7]
  refine hQ _ _ _ (by simp) ?_
  simp [Try.f9]
theorem law_args (H : Heap) (lId : List Lf) (lPorts : List Lf) (lLog : List Lf) (lN : List Lf) (sId : Shp Try.prog H 8 3 lId) (sPorts : Shp Try.prog H 8 3 lPorts) (sLog : Shp Try.prog H 8 52 lLog) (sN : Shp Try.prog H 8 3 lN) : ∃ H', run env 9 [argV env.P 3 lId, argV env.P 3 lPorts, argV env.P 52 lLog, argV env.P 3 lN] H = some (.bool true, H') := by
  obtain ⟨xId, rfl, hId⟩ := sId.i64 Try.underlying3
  obtain ⟨xPorts, rfl, hPorts⟩ := sPorts.i64 Try.underlying3
  obtain ⟨qLog, xLog, rfl, hLog, ftLog⟩ := shpInS_is sLog
  obtain ⟨xN, rfl, hN⟩ := sN.i64 Try.underlying3
  rw [argV_int (by rw [env_P]; exact Try.underlying3), argV_int (by rw [env_P]; exact Try.underlying3), argV_slice (by rw [env_P]; exact Try.underlying52), argV_int (by rw [env_P]; exact Try.underlying3)]
  obtain ⟨v, H', hr, rfl⟩ := law H xId hId xPorts hPorts qLog xLog hLog ftLog xN hN
  exact ⟨H', hr⟩
theorem own : ownKnob Try.prog.godebug = none := by kernel_rfl
theorem lifted (os : Os) (started : os.Started) (H : Type) (enc : TypeId × Value → H) :
    ReturnsInHanded {} Try.checked os 9 .any (Rows.fnExactSayingSpec.pre6 enc Try.prog Try.f9 Rows.fnExactSayingRow.domain false) (Rows.fnExactSayingSpec.post enc Try.prog Try.f9 false true false false) := by
  refine returnsInHanded_of_change (C := Try.checked) own started (by as_aux_lemma => kernel_rfl) Try.func9
    (ChangeSpec.witness6 (enc := enc) (C := Try.checked) false ⟨#[], #[.int .i64 0, .int .i64 0, .slice none 0 0, .int .i64 0], []⟩ 8 (by as_aux_lemma => kernel_rfl) (by as_aux_lemma => kernel_rfl) (by as_aux_lemma => kernel_rfl) (by as_aux_lemma => kernel_rfl)) ?_
  intro W base args ds gs before hval hW hcnd _
  refine lawful (E := env) (k := 8) (tb := 4) sound_all (by as_aux_lemma => kernel_rfl) rfl Try.underlying4 rfl (fun ds hds => ?_) (fun H lss hn hl hs => ?_) hval hW
  · match ds, hds with
    | [d0, d1, d2, d3], _ => rfl
  · match lss, hl with
    | [l0, l1, l2, l3], _ => exact law_args H l0 l1 l2 l3 (hs 0 3 l0 rfl rfl) (hs 1 3 l1 rfl rfl) (hs 2 52 l2 rfl rfl) (hs 3 3 l3 rfl rfl)
theorem holds : Rows.FnExactSayingSaid :=
  OpenClaim.holds_of_wide 9 Try.f9 rfl rfl rfl rfl rfl rfl rfl ⟨rfl, rfl, rfl, rfl, rfl⟩ rfl rfl rfl rfl rfl (by as_aux_lemma => kernel_rfl) Try.func9 (by as_aux_lemma => kernel_rfl)
    (of_decide_eq_true (by as_aux_lemma => kernel_rfl)) (by unfold Func.isWrapper; first | (rw [if_pos (by decide +kernel)]; kernel_rfl) | (rw [if_neg (by decide +kernel)]; exact ⟨rfl, rfl⟩))
    (fun os started H enc _ => lifted os started H enc)
end W
end Go.Proofs.Ytjbjpdifgfnaeaa

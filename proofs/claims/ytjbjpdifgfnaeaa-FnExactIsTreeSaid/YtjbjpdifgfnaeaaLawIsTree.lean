/- The law FnExactIsTree of the given program returns true for every input: its given statement, proved without any condition. -/
import Derived.Test.YtjbjpdifgfnaeaaWalkIsTree1
import Derived.Test.YtjbjpdifgfnaeaaRows
set_option maxRecDepth 100000
set_option maxHeartbeats 4000000
set_option linter.unusedSimpArgs false
set_option linter.unusedVariables false
set_option linter.unnecessarySimpa false
namespace Go.Proofs.Ytjbjpdifgfnaeaa
open Go Go.Ab Go.ChangeShapes Go.WideShapes Go.ChangeAt Go.RowKit
namespace W
theorem law (H : Heap) (lN : List Lf) (xN : Net) (hN : RdLNet H lN xN) (ftN : xN.fit) :
    Runs env 5 [.agg lN] H fun v _ => v = .bool true := by
  refine Runs.walk ok5 Try.func5 rfl (by simp [Try.f5]) fun Q hQ => ?_
  simp only [Try.f5, strip, stripL, stripI, stripG, chkT, tagsB, tagsL, tagD, addT, tagA, lookN, tagOp, elmT, ty22, ty23, ty28, ty29, ty37, ty38, ty39, ty40, ty41, ty50, ty51, ty52, ty53, ty72, ty81, ty141, ty189, Nat.reduceEqDiff, if_false, reduceIte, Option.getD_some, Option.getD_none, dstAt, dstOk, Nat.reduceLT, decide_true, if_true]
  have lNL := hN.len
  have lNT : lN.take lN.length = lN := List.take_length
  rw [lNL] at lNT
  simp [lNL, lNT]
  have esN := szNet_is hN ftN (left := 1048576) (by omega) (by omega) 
  simp [lNL, lNT, esN]
  by_cases hbN : (1048576 : Int) < xN.sz
  · simp [hbN]
    refine hQ _ _ _ (by simp) ?_
    simp [Try.f5]
  have hnN : xN.sz ≤ 1048576 := by omega
  have hzN : ¬ ((1048576 - (xN.sz : Int)) < 0) := by omega
  simp [lNL, lNT, hbN, hzN]
  first | refine stpL_runs (toNet_is (hN.app _) hnN) ?_ | (refine stpL_runs_f (toNet_is (hN.app _) hnN) ?_ ?_; (rintro _ _ ⟨_, _, _, _, hf⟩; exact hf.1))
  rintro _ H1 ⟨l_wN, f_wN, rfl, o_wN, fr1⟩
  have kp1 : Keep [] H H1 := fr1.base.kp
  have le1 : H.length ≤ H1.length := kp1.1
  have k0 : Keep [] H H1 := (Keep.refl [] H).next kp1 (by simp)
  have x1_0 : blkAt H1 (H.length) = some ⟨25, .wr, [lN]⟩ := fr1.kp.blk (by simp) (by simp)
  have nx1_0 := blkAt_len x1_0
  have zx1_0 := nx1_0
  have lo_f_wN : ∀ i ∈ f_wN, H.length + 1 ≤ i := fun i hi => by have := fr1.2 i hi; (try simp at this); omega
  have hi_f_wN := o_wN.lt
  have l_wNL := o_wN.len
  have l_wNT : l_wN.take l_wN.length = l_wN := List.take_length
  rw [l_wNL] at l_wNT
  simp [lNL, lNT, l_wNL, l_wNT, l_wNL, x1_0, nx1_0]
  have ee1 := specIsTree_is (o_wN).rd hnN
  simp [lNL, lNT, l_wNL, l_wNT, l_wNL, x1_0, nx1_0, ee1]
  first | refine stpL_runs (toNet_is (hN.base k0) hnN) ?_ | (refine stpL_runs_f (toNet_is (hN.base k0) hnN) ?_ ?_; (rintro _ _ ⟨_, _, _, _, hf⟩; exact hf.1))
  rintro _ H2 ⟨l_x0, f_x0, rfl, o_x0, fr2⟩
  have kp2 : Keep [] H1 H2 := fr2.kp
  have le2 : H1.length ≤ H2.length := kp2.1
  replace k0 := k0.next kp2 (by simp)
  replace x1_0 := kp2.blk x1_0 (by simp)
  replace nx1_0 := blkAt_len x1_0
  replace o_wN := o_wN.keep kp2 (by simp)
  have lo_f_x0 : ∀ i ∈ f_x0, H1.length + 0 ≤ i := fun i hi => by have := fr2.2 i hi; (try simp at this); omega
  have hi_f_x0 := o_x0.lt
  have l_x0L := o_x0.len
  have l_x0T : l_x0.take l_x0.length = l_x0 := List.take_length
  rw [l_x0L] at l_x0T
  simp [lNL, lNT, l_wNL, l_wNT, l_wNL, l_x0L, l_x0T, l_x0L, x1_0, nx1_0]
  have ee2 := fun G_ => implIsTree_is (o_x0.app G_).rd hnN
  simp [lNL, lNT, l_wNL, l_wNT, l_wNL, l_x0L, l_x0T, l_x0L, x1_0, nx1_0, ee2]
  try simp [lNL, lNT, l_wNL, l_wNT, l_wNL, l_x0L, l_x0T, l_x0L, x1_0, nx1_0]
  first | refine stpL_runs (toNet_is ((hN.base k0).app _) hnN) ?_ | (refine stpL_runs_f (toNet_is ((hN.base k0).app _) hnN) ?_ ?_; (rintro _ _ ⟨_, _, _, _, hf⟩; exact hf.1))
  rintro _ H3 ⟨l_yx0, f_yx0, rfl, o_yx0, fr3⟩
  have kp3 : Keep [] H2 H3 := fr3.base.kp
  have le3 : H2.length ≤ H3.length := kp3.1
  replace k0 := k0.next kp3 (by simp)
  replace x1_0 := kp3.blk x1_0 (by simp)
  replace nx1_0 := blkAt_len x1_0
  replace o_wN := o_wN.keep kp3 (by simp)
  replace o_x0 := o_x0.keep kp3 (by simp)
  have x3_0 : blkAt H3 (H2.length) = some ⟨31, .wr, [l_x0]⟩ := fr3.kp.blk (by simp) (by simp)
  have nx3_0 := blkAt_len x3_0
  have zx3_0 := nx3_0
  have lo_f_yx0 : ∀ i ∈ f_yx0, H2.length + 1 ≤ i := fun i hi => by have := fr3.2 i hi; (try simp at this); omega
  have hi_f_yx0 := o_yx0.lt
  have l_yx0L := o_yx0.len
  have l_yx0T : l_yx0.take l_yx0.length = l_yx0 := List.take_length
  rw [l_yx0L] at l_yx0T
  have ee3 := eqNet_is o_x0.rd o_yx0.rd hnN
  simp [lNL, lNT, l_wNL, l_wNT, l_wNL, l_x0L, l_x0T, l_x0L, l_yx0L, l_yx0T, l_yx0L, x1_0, x3_0, nx1_0, nx3_0, ee3]
  refine hQ _ _ _ (by simp) ?_
  simp [Try.f5]
theorem law_args (H : Heap) (lN : List Lf) (sN : Shp Try.prog H 8 25 lN) : ∃ H', run env 5 [argV env.P 25 lN] H = some (.bool true, H') := by
  obtain ⟨xN, hN, ftN⟩ := shpNet_is sN
  rw [argV_struct (by rw [env_P]; exact Try.underlying25)]
  obtain ⟨v, H', hr, rfl⟩ := law H lN xN hN ftN
  exact ⟨H', hr⟩
theorem own : ownKnob Try.prog.godebug = none := by kernel_rfl
theorem lifted (os : Os) (started : os.Started) (H : Type) (enc : TypeId × Value → H) :
    ReturnsInHanded {} Try.checked os 5 .any (Rows.fnExactIsTreeSpec.pre6 enc Try.prog Try.f5 Rows.fnExactIsTreeRow.domain false) (Rows.fnExactIsTreeSpec.post enc Try.prog Try.f5 false true false false) := by
  refine returnsInHanded_of_change (C := Try.checked) own started (by as_aux_lemma => kernel_rfl) Try.func5
    (ChangeSpec.witness6 (enc := enc) (C := Try.checked) false ⟨#[], #[.agg #[.slice none 0 0, .slice none 0 0]], []⟩ 8 (by as_aux_lemma => kernel_rfl) (by as_aux_lemma => kernel_rfl) (by as_aux_lemma => kernel_rfl) (by as_aux_lemma => kernel_rfl)) ?_
  intro W base args ds gs before hval hW hcnd _
  refine lawful (E := env) (k := 8) (tb := 4) sound_all (by as_aux_lemma => kernel_rfl) rfl Try.underlying4 rfl (fun ds hds => ?_) (fun H lss hn hl hs => ?_) hval hW
  · match ds, hds with
    | [d0], _ => rfl
  · match lss, hl with
    | [l0], _ => exact law_args H l0 (hs 0 25 l0 rfl rfl)
theorem holds : Rows.FnExactIsTreeSaid :=
  OpenClaim.holds_of_wide 5 Try.f5 rfl rfl rfl rfl rfl rfl rfl ⟨rfl, rfl, rfl, rfl, rfl⟩ rfl rfl rfl rfl rfl (by as_aux_lemma => kernel_rfl) Try.func5 (by as_aux_lemma => kernel_rfl)
    (of_decide_eq_true (by as_aux_lemma => kernel_rfl)) (by unfold Func.isWrapper; first | (rw [if_pos (by decide +kernel)]; kernel_rfl) | (rw [if_neg (by decide +kernel)]; exact ⟨rfl, rfl⟩))
    (fun os started H enc _ => lifted os started H enc)
end W
end Go.Proofs.Ytjbjpdifgfnaeaa

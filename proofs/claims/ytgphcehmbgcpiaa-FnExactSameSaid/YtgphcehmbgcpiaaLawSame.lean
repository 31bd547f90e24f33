/- The law FnExactSame of the given program returns true for every input: its given statement, proved without any condition. -/
import Derived.Test.YtgphcehmbgcpiaaWalkSame
import Derived.Test.YtgphcehmbgcpiaaRows
set_option maxRecDepth 100000
set_option maxHeartbeats 4000000
set_option linter.unusedSimpArgs false
set_option linter.unusedVariables false
set_option linter.unnecessarySimpa false
namespace Go.Proofs.Ytgphcehmbgcpiaa
open Go Go.Ab Go.ChangeShapes Go.WideShapes Go.ChangeAt Go.RowKit
namespace W
theorem law (H : Heap) (lA : List Lf) (xA : Net) (hA : RdLNet H lA xA) (ftA : xA.fit) (lB : List Lf) (xB : Net) (hB : RdLNet H lB xB) (ftB : xB.fit) :
    Runs env 3 [.agg lA, .agg lB] H fun v _ => v = .bool true := by
  refine Runs.walk ok3 Try.func3 rfl (by simp [Try.f3]) fun Q hQ => ?_
  simp only [Try.f3, strip, stripL, stripI, stripG, chkT, tagsB, tagsL, tagD, addT, tagA, lookN, tagOp, elmT, ty22, ty23, ty28, ty29, ty38, ty48, ty71, ty79, ty88, Nat.reduceEqDiff, if_false, reduceIte, Option.getD_some, Option.getD_none, dstAt, dstOk, Nat.reduceLT, decide_true, if_true]
  have lAL := hA.len
  have lAT : lA.take lA.length = lA := List.take_length
  rw [lAL] at lAT
  have lBL := hB.len
  have lBT : lB.take lB.length = lB := List.take_length
  rw [lBL] at lBT
  simp [lAL, lBL, lAT, lBT]
  have esA := szNet_is hA ftA (left := 1048576) (by omega) (by omega) 
  simp [lAL, lBL, lAT, lBT, esA]
  by_cases hbA : (1048576 : Int) < xA.sz
  · simp [hbA]
    refine hQ _ _ _ (by simp) ?_
    simp [Try.f3]
  have hnA : xA.sz ≤ 1048576 := by omega
  have hzA : ¬ ((1048576 - (xA.sz : Int)) < 0) := by omega
  simp [lAL, lBL, lAT, lBT, hbA, hzA]
  have esB := szNet_is hB ftB (left := (1048576 - (xA.sz : Int))) (by omega) (by omega) 
  simp [lAL, lBL, lAT, lBT, esB]
  by_cases hbB : ((1048576 - (xA.sz : Int)) : Int) < xB.sz
  · simp [hbB]
    refine hQ _ _ _ (by simp) ?_
    simp [Try.f3]
  have hnB : xB.sz ≤ 1048576 := by omega
  have hzB : ¬ (((1048576 - (xA.sz : Int)) - (xB.sz : Int)) < 0) := by omega
  simp [lAL, lBL, lAT, lBT, hbB, hzB]
  first | refine stpL_runs (toNet_is (hA.app _) hnA) ?_ | (refine stpL_runs_f (toNet_is (hA.app _) hnA) ?_ ?_; (rintro _ _ ⟨_, _, _, _, hf⟩; exact hf.1))
  rintro _ H1 ⟨l_wA, f_wA, rfl, o_wA, fr1⟩
  have kp1 : Keep [] H H1 := fr1.base.kp
  have le1 : H.length ≤ H1.length := kp1.1
  have k0 : Keep [] H H1 := (Keep.refl [] H).next kp1 (by simp)
  have x1_0 : blkAt H1 (H.length) = some ⟨25, .wr, [lA]⟩ := fr1.kp.blk (by simp) (by simp)
  have nx1_0 := blkAt_len x1_0
  have zx1_0 := nx1_0
  have x1_1 : blkAt H1 (H.length + 1) = some ⟨25, .wr, [lB]⟩ := fr1.kp.blk (by simp) (by simp)
  have nx1_1 := blkAt_len x1_1
  have zx1_1 := nx1_1
  have lo_f_wA : ∀ i ∈ f_wA, H.length + 2 ≤ i := fun i hi => by have := fr1.2 i hi; (try simp at this); omega
  have hi_f_wA := o_wA.lt
  have l_wAL := o_wA.len
  have l_wAT : l_wA.take l_wA.length = l_wA := List.take_length
  rw [l_wAL] at l_wAT
  simp [lAL, lBL, lAT, lBT, l_wAL, l_wAT, l_wAL, x1_0, x1_1, nx1_0, nx1_1]
  first | refine stpL_runs (toNet_is (hB.base k0) hnB) ?_ | (refine stpL_runs_f (toNet_is (hB.base k0) hnB) ?_ ?_; (rintro _ _ ⟨_, _, _, _, hf⟩; exact hf.1))
  rintro _ H2 ⟨l_wB, f_wB, rfl, o_wB, fr2⟩
  have kp2 : Keep [] H1 H2 := fr2.kp
  have le2 : H1.length ≤ H2.length := kp2.1
  replace k0 := k0.next kp2 (by simp)
  replace x1_0 := kp2.blk x1_0 (by simp)
  replace nx1_0 := blkAt_len x1_0
  replace x1_1 := kp2.blk x1_1 (by simp)
  replace nx1_1 := blkAt_len x1_1
  replace o_wA := o_wA.keep kp2 (by simp)
  have lo_f_wB : ∀ i ∈ f_wB, H1.length + 0 ≤ i := fun i hi => by have := fr2.2 i hi; (try simp at this); omega
  have hi_f_wB := o_wB.lt
  have l_wBL := o_wB.len
  have l_wBT : l_wB.take l_wB.length = l_wB := List.take_length
  rw [l_wBL] at l_wBT
  simp [lAL, lBL, lAT, lBT, l_wAL, l_wAT, l_wAL, l_wBL, l_wBT, l_wBL, x1_0, x1_1, nx1_0, nx1_1]
  have ee1 := specSame_is (o_wA).rd hnA (o_wB).rd hnB
  simp [lAL, lBL, lAT, lBT, l_wAL, l_wAT, l_wAL, l_wBL, l_wBT, l_wBL, x1_0, x1_1, nx1_0, nx1_1, ee1]
  first | refine stpL_runs (toNet_is (hA.base k0) hnA) ?_ | (refine stpL_runs_f (toNet_is (hA.base k0) hnA) ?_ ?_; (rintro _ _ ⟨_, _, _, _, hf⟩; exact hf.1))
  rintro _ H3 ⟨l_x0, f_x0, rfl, o_x0, fr3⟩
  have kp3 : Keep [] H2 H3 := fr3.kp
  have le3 : H2.length ≤ H3.length := kp3.1
  replace k0 := k0.next kp3 (by simp)
  replace x1_0 := kp3.blk x1_0 (by simp)
  replace nx1_0 := blkAt_len x1_0
  replace x1_1 := kp3.blk x1_1 (by simp)
  replace nx1_1 := blkAt_len x1_1
  replace o_wA := o_wA.keep kp3 (by simp)
  replace o_wB := o_wB.keep kp3 (by simp)
  have lo_f_x0 : ∀ i ∈ f_x0, H2.length + 0 ≤ i := fun i hi => by have := fr3.2 i hi; (try simp at this); omega
  have hi_f_x0 := o_x0.lt
  have l_x0L := o_x0.len
  have l_x0T : l_x0.take l_x0.length = l_x0 := List.take_length
  rw [l_x0L] at l_x0T
  simp [lAL, lBL, lAT, lBT, l_wAL, l_wAT, l_wAL, l_wBL, l_wBT, l_wBL, l_x0L, l_x0T, l_x0L, x1_0, x1_1, nx1_0, nx1_1]
  first | refine stpL_runs (toNet_is ((hB.base k0).app _) hnB) ?_ | (refine stpL_runs_f (toNet_is ((hB.base k0).app _) hnB) ?_ ?_; (rintro _ _ ⟨_, _, _, _, hf⟩; exact hf.1))
  rintro _ H4 ⟨l_x1, f_x1, rfl, o_x1, fr4⟩
  have kp4 : Keep [] H3 H4 := fr4.base.kp
  have le4 : H3.length ≤ H4.length := kp4.1
  replace k0 := k0.next kp4 (by simp)
  replace x1_0 := kp4.blk x1_0 (by simp)
  replace nx1_0 := blkAt_len x1_0
  replace x1_1 := kp4.blk x1_1 (by simp)
  replace nx1_1 := blkAt_len x1_1
  replace o_wA := o_wA.keep kp4 (by simp)
  replace o_wB := o_wB.keep kp4 (by simp)
  replace o_x0 := o_x0.keep kp4 (by simp)
  have x4_0 : blkAt H4 (H3.length) = some ⟨31, .wr, [l_x0]⟩ := fr4.kp.blk (by simp) (by simp)
  have nx4_0 := blkAt_len x4_0
  have zx4_0 := nx4_0
  have lo_f_x1 : ∀ i ∈ f_x1, H3.length + 1 ≤ i := fun i hi => by have := fr4.2 i hi; (try simp at this); omega
  have hi_f_x1 := o_x1.lt
  have l_x1L := o_x1.len
  have l_x1T : l_x1.take l_x1.length = l_x1 := List.take_length
  rw [l_x1L] at l_x1T
  simp [lAL, lBL, lAT, lBT, l_wAL, l_wAT, l_wAL, l_wBL, l_wBT, l_wBL, l_x0L, l_x0T, l_x0L, l_x1L, l_x1T, l_x1L, x1_0, x1_1, x4_0, nx1_0, nx1_1, nx4_0]
  have ee2 := fun G_ => implSame_is (o_x0.app G_).rd hnA (o_x1.app G_).rd hnB
  simp [lAL, lBL, lAT, lBT, l_wAL, l_wAT, l_wAL, l_wBL, l_wBT, l_wBL, l_x0L, l_x0T, l_x0L, l_x1L, l_x1T, l_x1L, x1_0, x1_1, x4_0, nx1_0, nx1_1, nx4_0, ee2]
  try simp [lAL, lBL, lAT, lBT, l_wAL, l_wAT, l_wAL, l_wBL, l_wBT, l_wBL, l_x0L, l_x0T, l_x0L, l_x1L, l_x1T, l_x1L, x1_0, x1_1, x4_0, nx1_0, nx1_1, nx4_0]
  first | refine stpL_runs (toNet_is ((hA.base k0).app _) hnA) ?_ | (refine stpL_runs_f (toNet_is ((hA.base k0).app _) hnA) ?_ ?_; (rintro _ _ ⟨_, _, _, _, hf⟩; exact hf.1))
  rintro _ H5 ⟨l_yx0, f_yx0, rfl, o_yx0, fr5⟩
  have kp5 : Keep [] H4 H5 := fr5.base.kp
  have le5 : H4.length ≤ H5.length := kp5.1
  replace k0 := k0.next kp5 (by simp)
  replace x1_0 := kp5.blk x1_0 (by simp)
  replace nx1_0 := blkAt_len x1_0
  replace x1_1 := kp5.blk x1_1 (by simp)
  replace nx1_1 := blkAt_len x1_1
  replace x4_0 := kp5.blk x4_0 (by simp)
  replace nx4_0 := blkAt_len x4_0
  replace o_wA := o_wA.keep kp5 (by simp)
  replace o_wB := o_wB.keep kp5 (by simp)
  replace o_x0 := o_x0.keep kp5 (by simp)
  replace o_x1 := o_x1.keep kp5 (by simp)
  have x5_0 : blkAt H5 (H4.length) = some ⟨31, .wr, [l_x1]⟩ := fr5.kp.blk (by simp) (by simp)
  have nx5_0 := blkAt_len x5_0
  have zx5_0 := nx5_0
  have lo_f_yx0 : ∀ i ∈ f_yx0, H4.length + 1 ≤ i := fun i hi => by have := fr5.2 i hi; (try simp at this); omega
  have hi_f_yx0 := o_yx0.lt
  have l_yx0L := o_yx0.len
  have l_yx0T : l_yx0.take l_yx0.length = l_yx0 := List.take_length
  rw [l_yx0L] at l_yx0T
  have ee3 := eqNet_is o_x0.rd o_yx0.rd hnA
  simp [lAL, lBL, lAT, lBT, l_wAL, l_wAT, l_wAL, l_wBL, l_wBT, l_wBL, l_x0L, l_x0T, l_x0L, l_x1L, l_x1T, l_x1L, l_yx0L, l_yx0T, l_yx0L, x1_0, x1_1, x4_0, x5_0, nx1_0, nx1_1, nx4_0, nx5_0, ee3]
  first | refine stpL_runs (toNet_is (hB.base k0) hnB) ?_ | (refine stpL_runs_f (toNet_is (hB.base k0) hnB) ?_ ?_; (rintro _ _ ⟨_, _, _, _, hf⟩; exact hf.1))
  rintro _ H6 ⟨l_yx1, f_yx1, rfl, o_yx1, fr6⟩
  have kp6 : Keep [] H5 H6 := fr6.kp
  have le6 : H5.length ≤ H6.length := kp6.1
  replace k0 := k0.next kp6 (by simp)
  replace x1_0 := kp6.blk x1_0 (by simp)
  replace nx1_0 := blkAt_len x1_0
  replace x1_1 := kp6.blk x1_1 (by simp)
  replace nx1_1 := blkAt_len x1_1
  replace x4_0 := kp6.blk x4_0 (by simp)
  replace nx4_0 := blkAt_len x4_0
  replace x5_0 := kp6.blk x5_0 (by simp)
  replace nx5_0 := blkAt_len x5_0
  replace o_wA := o_wA.keep kp6 (by simp)
  replace o_wB := o_wB.keep kp6 (by simp)
  replace o_x0 := o_x0.keep kp6 (by simp)
  replace o_x1 := o_x1.keep kp6 (by simp)
  replace o_yx0 := o_yx0.keep kp6 (by simp)
  have lo_f_yx1 : ∀ i ∈ f_yx1, H5.length + 0 ≤ i := fun i hi => by have := fr6.2 i hi; (try simp at this); omega
  have hi_f_yx1 := o_yx1.lt
  have l_yx1L := o_yx1.len
  have l_yx1T : l_yx1.take l_yx1.length = l_yx1 := List.take_length
  rw [l_yx1L] at l_yx1T
  have ee4 := eqNet_is o_x1.rd o_yx1.rd hnB
  simp [lAL, lBL, lAT, lBT, l_wAL, l_wAT, l_wAL, l_wBL, l_wBT, l_wBL, l_x0L, l_x0T, l_x0L, l_x1L, l_x1T, l_x1L, l_yx0L, l_yx0T, l_yx0L, l_yx1L, l_yx1T, l_yx1L, x1_0, x1_1, x4_0, x5_0, nx1_0, nx1_1, nx4_0, nx5_0, ee4]
  refine hQ _ _ _ (by simp) ?_
  simp [Try.f3]
theorem law_args (H : Heap) (lA : List Lf) (lB : List Lf) (sA : Shp Try.prog H 8 25 lA) (sB : Shp Try.prog H 8 25 lB) : ∃ H', run env 3 [argV env.P 25 lA, argV env.P 25 lB] H = some (.bool true, H') := by
  obtain ⟨xA, hA, ftA⟩ := shpNet_is sA
  obtain ⟨xB, hB, ftB⟩ := shpNet_is sB
  rw [argV_struct (by rw [env_P]; exact Try.underlying25), argV_struct (by rw [env_P]; exact Try.underlying25)]
  obtain ⟨v, H', hr, rfl⟩ := law H lA xA hA ftA lB xB hB ftB
  exact ⟨H', hr⟩
theorem own : ownKnob Try.prog.godebug = none := by kernel_rfl
theorem lifted (os : Os) (started : os.Started) (H : Type) (enc : TypeId × Value → H) :
    ReturnsInHanded {} Try.checked os 3 .any (Rows.fnExactSameSpec.pre6 enc Try.prog Try.f3 Rows.fnExactSameRow.domain false) (Rows.fnExactSameSpec.post enc Try.prog Try.f3 false true false false) := by
  refine returnsInHanded_of_change (C := Try.checked) own started (by as_aux_lemma => kernel_rfl) Try.func3
    (ChangeSpec.witness6 (enc := enc) (C := Try.checked) false ⟨#[], #[.agg #[.slice none 0 0, .slice none 0 0], .agg #[.slice none 0 0, .slice none 0 0]], []⟩ 8 (by as_aux_lemma => kernel_rfl) (by as_aux_lemma => kernel_rfl) (by as_aux_lemma => kernel_rfl) (by as_aux_lemma => kernel_rfl)) ?_
  intro W base args ds gs before hval hW hcnd _
  refine lawful (E := env) (k := 8) (tb := 4) sound_all (by as_aux_lemma => kernel_rfl) rfl Try.underlying4 rfl (fun ds hds => ?_) (fun H lss hn hl hs => ?_) hval hW
  · match ds, hds with
    | [d0, d1], _ => rfl
  · match lss, hl with
    | [l0, l1], _ => exact law_args H l0 l1 (hs 0 25 l0 rfl rfl) (hs 1 25 l1 rfl rfl)
theorem holds : Rows.FnExactSameSaid :=
  OpenClaim.holds_of_wide 3 Try.f3 rfl rfl rfl rfl rfl rfl rfl ⟨rfl, rfl, rfl, rfl, rfl⟩ rfl rfl rfl rfl rfl (by as_aux_lemma => kernel_rfl) Try.func3 (by as_aux_lemma => kernel_rfl)
    (of_decide_eq_true (by as_aux_lemma => kernel_rfl)) (by unfold Func.isWrapper; first | (rw [if_pos (by decide +kernel)]; kernel_rfl) | (rw [if_neg (by decide +kernel)]; exact ⟨rfl, rfl⟩))
    (fun os started H enc _ => lifted os started H enc)
end W
end Go.Proofs.Ytgphcehmbgcpiaa

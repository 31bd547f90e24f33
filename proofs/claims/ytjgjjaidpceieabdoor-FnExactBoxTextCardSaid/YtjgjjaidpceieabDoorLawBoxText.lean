/- The law FnExactBoxText of the given program returns true for every input: its given statement, proved without any condition. -/
import Derived.Test.YtjgjjaidpceieabDoorWalkBoxText
import Derived.Test.YtjgjjaidpceieabDoorRows
import Derived.Test.YtjgjjaidpceieabDoorTie
import Derived.Test.YtjgjjaidpceieabDoorCards
import Derived.ProofKit
import Derived.LaidMore
import Derived.OpenShut
import Derived.Stop.Joined
import Derived.SevenTiedAt
import Derived.MakeChecks
import Derived.Lib.LaidTab
import Derived.Deep.DeepLaidRun
set_option maxRecDepth 100000
set_option maxHeartbeats 4000000
set_option linter.unusedSimpArgs false
set_option linter.unusedVariables false
set_option linter.unnecessarySimpa false
namespace Go.Proofs.YtjgjjaidpceieabDoor
open Go Go.Ab Go.ChangeShapes Go.WideShapes Go.ChangeAt Go.RowKit
namespace W
theorem law (H : Heap) (lX : List Lf) (xX : Box) (hX : RdLBox H lX xX) (ftX : xX.fit) (rgX : xX.rg) :
    Runs env 6 [.agg lX] H fun v _ => v = .bool true := by
  refine Runs.walk ok6 Tryd.func6 rfl (by simp [Tryd.f6]) fun Q hQ => ?_
  simp only [Tryd.f6, strip, stripL, stripI, stripG, chkT, tagsB, tagsL, tagD, addT, tagA, lookN, tagOp, elmT, ty32, ty37, ty43, ty48, ty56, ty57, ty58, ty59, ty65, ty66, ty67, ty74, ty80, ty97, Nat.reduceEqDiff, if_false, reduceIte, Option.getD_some, Option.getD_none, dstAt, dstOk, Nat.reduceLT, decide_true, if_true]
  have lXL := hX.len
  have lXT : lX.take lX.length = lX := List.take_length
  rw [lXL] at lXT
  simp [lXL, lXT]
  have esX := szBox_is hX ftX (left := 1048576) (by omega) (by omega) 
  simp [lXL, lXT, esX]
  by_cases hbX : (1048576 : Int) < xX.sz
  · simp [hbX]
    refine hQ _ _ _ (by simp) ?_
    simp [Tryd.f6]
  have hnX : xX.sz ≤ 1048576 := by omega
  have hzX : ¬ ((1048576 - (xX.sz : Int)) < 0) := by omega
  simp [lXL, lXT, hbX, hzX]
  first | refine stpL_runs (toBox_is (hX.app _) hnX) ?_ | (refine stpL_runs_f (toBox_is (hX.app _) hnX) ?_ ?_; (rintro _ _ ⟨_, _, _, _, hf⟩; exact hf.1))
  rintro _ H1 ⟨l_wX, f_wX, rfl, o_wX, fr1⟩
  have kp1 : Keep [] H H1 := fr1.base.kp
  have le1 : H.length ≤ H1.length := kp1.1
  have k0 : Keep [] H H1 := (Keep.refl [] H).next kp1 (by simp)
  have x1_0 : blkAt H1 (H.length) = some ⟨61, .wr, [lX]⟩ := fr1.kp.blk (by simp) (by simp)
  have nx1_0 := blkAt_len x1_0
  have zx1_0 := nx1_0
  have lo_f_wX : ∀ i ∈ f_wX, H.length + 1 ≤ i := fun i hi => by have := fr1.2 i hi; (try simp at this); omega
  have hi_f_wX := o_wX.lt
  have l_wXL := o_wX.len
  have l_wXT : l_wX.take l_wX.length = l_wX := List.take_length
  rw [l_wXL] at l_wXT
  simp [lXL, lXT, l_wXL, l_wXT, l_wXL, x1_0, nx1_0]
  have ee1 := specBoxText_is (o_wX).rd hnX rgX
  simp [lXL, lXT, l_wXL, l_wXT, l_wXL, x1_0, nx1_0, ee1]
  first | refine stpL_runs (toBox_is (hX.base k0) hnX) ?_ | (refine stpL_runs_f (toBox_is (hX.base k0) hnX) ?_ ?_; (rintro _ _ ⟨_, _, _, _, hf⟩; exact hf.1))
  rintro _ H2 ⟨l_x0, f_x0, rfl, o_x0, fr2⟩
  have kp2 : Keep [] H1 H2 := fr2.kp
  have le2 : H1.length ≤ H2.length := kp2.1
  replace k0 := k0.next kp2 (by simp)
  replace x1_0 := kp2.blk x1_0 (by simp)
  replace nx1_0 := blkAt_len x1_0
  replace o_wX := o_wX.keep kp2 (by simp)
  have lo_f_x0 : ∀ i ∈ f_x0, H1.length + 0 ≤ i := fun i hi => by have := fr2.2 i hi; (try simp at this); omega
  have hi_f_x0 := o_x0.lt
  have l_x0L := o_x0.len
  have l_x0T : l_x0.take l_x0.length = l_x0 := List.take_length
  rw [l_x0L] at l_x0T
  simp [lXL, lXT, l_wXL, l_wXT, l_wXL, l_x0L, l_x0T, l_x0L, x1_0, nx1_0]
  have ee2 := fun G_ => implBoxText_is (o_x0.app G_).rd hnX rgX
  simp [lXL, lXT, l_wXL, l_wXT, l_wXL, l_x0L, l_x0T, l_x0L, x1_0, nx1_0, ee2]
  try simp [lXL, lXT, l_wXL, l_wXT, l_wXL, l_x0L, l_x0T, l_x0L, x1_0, nx1_0]
  first | refine stpL_runs (toBox_is ((hX.base k0).app _) hnX) ?_ | (refine stpL_runs_f (toBox_is ((hX.base k0).app _) hnX) ?_ ?_; (rintro _ _ ⟨_, _, _, _, hf⟩; exact hf.1))
  rintro _ H3 ⟨l_yx0, f_yx0, rfl, o_yx0, fr3⟩
  have kp3 : Keep [] H2 H3 := fr3.base.kp
  have le3 : H2.length ≤ H3.length := kp3.1
  replace k0 := k0.next kp3 (by simp)
  replace x1_0 := kp3.blk x1_0 (by simp)
  replace nx1_0 := blkAt_len x1_0
  replace o_wX := o_wX.keep kp3 (by simp)
  replace o_x0 := o_x0.keep kp3 (by simp)
  have x3_0 : blkAt H3 (H2.length) = some ⟨69, .wr, [l_x0]⟩ := fr3.kp.blk (by simp) (by simp)
  have nx3_0 := blkAt_len x3_0
  have zx3_0 := nx3_0
  have lo_f_yx0 : ∀ i ∈ f_yx0, H2.length + 1 ≤ i := fun i hi => by have := fr3.2 i hi; (try simp at this); omega
  have hi_f_yx0 := o_yx0.lt
  have l_yx0L := o_yx0.len
  have l_yx0T : l_yx0.take l_yx0.length = l_yx0 := List.take_length
  rw [l_yx0L] at l_yx0T
  have ee3 := eqBox_is o_x0.rd o_yx0.rd hnX
  simp [lXL, lXT, l_wXL, l_wXT, l_wXL, l_x0L, l_x0T, l_x0L, l_yx0L, l_yx0T, l_yx0L, x1_0, x3_0, nx1_0, nx3_0, ee3]
  refine hQ _ _ _ (by simp) ?_
  simp [Tryd.f6]
theorem law_args (H : Heap) (lX : List Lf) (sX : Shp Tryd.prog H 8 61 lX) : ∃ H', run env 6 [argV env.P 61 lX] H = some (.bool true, H') := by
  obtain ⟨xX, hX, ftX, rgX⟩ := shpBox_rg sX
  rw [argV_struct (by rw [env_P]; exact Tryd.underlying61)]
  obtain ⟨v, H', hr, rfl⟩ := law H lX xX hX ftX rgX
  exact ⟨H', hr⟩
theorem own : ownKnob Tryd.prog.godebug = none := by kernel_rfl
abbrev laidL : List (String × DataW Unit) := Rows.fnExactBoxTextRow.laid
theorem tabT : (Tryd.prog.globals[1]?).map (·.type) = some 145 := by kernel_rfl
theorem tabD : (Rows.laid_internal_strconv_uint64pow10 : DataW Unit) = Lib.tabData .u64 Lib.pow10Tab := by kernel_rfl
theorem of_laid {W : World} (h : laidMetH Tryd.prog laidL W) : TabC W := by
  rw [MakeChecks.laidMetH_plain _ _ _ (by kernel_rfl)] at h
  obtain ⟨ps, ⟨g0, t0, cs0, f0, p0, q0, hg0, ht0, hv0, hd0, ⟨g1, t1, cs1, f1, p1, q1, hg1, ht1, hv1, hd1, ⟨g2, t2, cs2, f2, p2, q2, hg2, ht2, hv2, hd2, _, _⟩, _⟩, _⟩, _, _⟩ := h
  obtain rfl := Option.some.inj (tab_name.symm.trans hg2)
  obtain rfl := Option.some.inj (tabT.symm.trans ht2)
  rw [tabD] at hd2
  have hc := Lib.cells_of_tab Tryd.underlying145 Tryd.underlying138 (by kernel_rfl) (by kernel_rfl) hd2
  intro p hp
  have hp' : p = (1, Lib.pow10Tab.map fun z => Value.int .u64 z) := by simpa [tabs] using hp
  subst hp'
  unfold World.var? at hv2
  rw [tab_name] at hv2
  simp only [Option.bind_some] at hv2
  split at hv2
  · rename_i cs ty fz hb
    injection hv2 with hv2
    subst hv2
    exact ⟨ty, fz, by rw [hb, ← hc]⟩
  · cases hv2
theorem door_met (os : Os) (args : Array Value) : laidMetH Tryd.prog laidL ((World.doorLaid Tryd.prog 400 os).forCall (fun _ _ => 0) ⟨#[], args, []⟩).memory := by
  rw [MakeChecks.laidMetH_plain _ _ _ (by kernel_rfl)]
  exact laidMet_of_run3 8 (by kernel_rfl) (by kernel_rfl) (by kernel_rfl)
set_option maxRecDepth 100000 in
theorem lifted (os : Os) (started : os.Started) (H : Type) (enc : TypeId × Value → H) :
    ReturnsInHanded {} Tryd.checked os 6 .any (fun w args => (Rows.fnExactBoxTextSpec.pre enc Tryd.prog Tryd.f6 [] false w args ∧ laidMetH Tryd.prog laidL w) ∧ sizedMet enc Tryd.prog Tryd.f6 (OpenSpec.ofChange Rows.fnExactBoxTextSpec) false w args)
      (Rows.fnExactBoxTextSpec.post enc Tryd.prog Tryd.f6 false true false false) := by
  refine returnsInHanded_of_change_and (C := Tryd.checked) (X := fun w _ => laidMetH Tryd.prog laidL w) (fun _ _ _ hh h => h.of_heap hh) own started (by kernel_rfl) Tryd.func6
    (ChangeSpec.witness_shaped (enc := enc) (C := Tryd.checked) (os := os) (X := fun w _ => laidMetH Tryd.prog laidL w) false (World.doorLaid Tryd.prog 400 os) #[.agg #[.int .i64 0, .int .i64 0, .int .i64 0, .int .i64 0, .int .i64 0, .slice none 0 0, .slice none 0 0, .slice none 0 0, .slice none 0 0, .slice none 0 0]] 8 rfl (World.shaped_of_RefB (by kernel_rfl) (by kernel_rfl)) (by kernel_rfl) (by kernel_rfl) (by kernel_rfl) (door_met os _)) ?_
  intro W base args ds gs before hval hW _ _ hL _
  refine lawful (E := env) (k := 8) (tb := 4) sound_all (of_laid hL) (by as_aux_lemma => kernel_rfl) rfl Tryd.underlying4 rfl (fun ds hds => ?_) (fun H lss hn hl hs => ?_) hval hW
  · match ds, hds with
    | [d0], _ => rfl
  · match lss, hl with
    | [l0], _ => exact law_args H l0 (hs 0 61 l0 rfl rfl)
theorem row_holds : Rows.FnExactBoxTextSaid :=
  OpenClaim.holds_of_wide 6 Tryd.f6 rfl rfl rfl rfl rfl rfl rfl ⟨rfl, rfl, rfl, rfl, rfl⟩ rfl rfl rfl rfl rfl (by as_aux_lemma => kernel_rfl) Tryd.func6 (by as_aux_lemma => kernel_rfl)
    (of_decide_eq_true (by as_aux_lemma => kernel_rfl)) (by unfold Func.isWrapper; first | (rw [if_pos (by decide +kernel)]; kernel_rfl) | (rw [if_neg (by decide +kernel)]; exact ⟨rfl, rfl⟩))
    (fun os started H enc _ => lifted os started H enc)
theorem holds : Rows.FnExactBoxTextCardSaid :=
  Claim7.holds_tied_plain_at .later [] [.data, .data, .data] true (true, "7f5db8cf4e1dfcde0786b94490088336a942c7e170a612b6954df7cedce185fd") false
    row_holds (fun _ h => by cases h) (by kernel_rfl) (fun _ h => by cases h) fnExactBoxText_row_tie rfl ⟨rfl, rfl⟩ (by kernel_rfl) rfl
    (fun f fn hf hfn => by
      obtain rfl : f = 6 := Option.some.inj ((show Tryd.prog.funcNamed "loop.example/g00470/laws.FnExactBoxText" = some 6 by kernel_rfl).symm.trans hf) |>.symm
      obtain rfl : fn = Tryd.f6 := (Option.some.inj (Tryd.func6.symm.trans hfn)).symm
      exact ⟨by kernel_rfl, fun j t ht => by
        rw [Tryd.params6] at ht
        have hm : t ∈ [61] := by simpa using Array.mem_of_getElem? ht
        have hall : ([61].all fun u => !Tryd.prog.wantsStandIn u) = true := by kernel_rfl
        exact (show Tryd.prog.wantsStandIn t = false by simpa using List.all_eq_true.1 hall t hm)⟩)
    (by kernel_rfl)
end W
end Go.Proofs.YtjgjjaidpceieabDoor

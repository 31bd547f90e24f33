/- The law FnShown of the given program returns true for every input: its given statement, proved without any condition. -/
import Derived.Test.YtdojljjiekgapaaGreatDoorWalkShown3
import Derived.Test.YtdojljjiekgapaaGreatDoorRows
import Derived.Test.YtdojljjiekgapaaGreatDoorTie
import Derived.Test.YtdojljjiekgapaaGreatDoorCards
import Derived.ProofKit
import Derived.LaidMore
import Derived.OpenShut
import Derived.Stop.Joined
import Derived.SevenTiedAt
import Derived.MakeChecks
import Derived.Lib.LaidTab
import Derived.Deep.DeepLaidRun
set_option maxRecDepth 100000
set_option maxHeartbeats 4000000
set_option linter.unusedSimpArgs false
set_option linter.unusedVariables false
set_option linter.unnecessarySimpa false
namespace Go.Proofs.YtdojljjiekgapaaGreatDoor
open Go Go.Ab Go.ChangeShapes Go.WideShapes Go.ChangeAt Go.RowKit
namespace W
theorem law_args (H : Heap) (l0 : List Lf) (s0 : Shp Tryz.prog H 8 22 l0) : ∃ H', run env 3 [argV env.P 22 l0] H = some (.bool true, H') := by
  obtain ⟨bs, a, rfl, hs, -, -⟩ := s0.sl (f := encU) (R := fun _ => True) Tryz.underlying22 fun row hr => let ⟨x, hx, _⟩ := hr.int Tryz.underlying5; ⟨x, hx, trivial⟩
  rw [argV_slice (by rw [env_P]; exact Tryz.underlying22)]
  obtain ⟨v, H', hr, rfl⟩ := shownLaw hs
  exact ⟨H', hr⟩
theorem own : ownKnob Tryz.prog.godebug = none := by kernel_rfl
abbrev laidL : List (String × DataW Unit) := Rows.fnShownRow.laid
theorem tabT : (Tryz.prog.globals[1]?).map (·.type) = some 153 := by kernel_rfl
theorem tabD : (Rows.laid_internal_strconv_uint64pow10 : DataW Unit) = Lib.tabData .u64 Lib.pow10Tab := by kernel_rfl
theorem of_laid {W : World} (h : laidMetH Tryz.prog laidL W) : TabC W := by
  rw [MakeChecks.laidMetH_plain _ _ _ (by kernel_rfl)] at h
  obtain ⟨ps, ⟨g0, t0, cs0, f0, p0, q0, hg0, ht0, hv0, hd0, ⟨g1, t1, cs1, f1, p1, q1, hg1, ht1, hv1, hd1, ⟨g2, t2, cs2, f2, p2, q2, hg2, ht2, hv2, hd2, _, _⟩, _⟩, _⟩, _, _⟩ := h
  obtain rfl := Option.some.inj (tab_name.symm.trans hg2)
  obtain rfl := Option.some.inj (tabT.symm.trans ht2)
  rw [tabD] at hd2
  have hc := Lib.cells_of_tab Tryz.underlying153 Tryz.underlying133 (by kernel_rfl) (by kernel_rfl) hd2
  intro p hp
  have hp' : p = (1, Lib.pow10Tab.map fun z => Value.int .u64 z) := by simpa [tabs] using hp
  subst hp'
  unfold World.var? at hv2
  rw [tab_name] at hv2
  simp only [Option.bind_some] at hv2
  split at hv2
  · rename_i cs ty fz hb
    injection hv2 with hv2
    subst hv2
    exact ⟨ty, fz, by rw [hb, ← hc]⟩
  · cases hv2
theorem door_met (os : Os) (args : Array Value) : laidMetH Tryz.prog laidL ((World.doorLaid Tryz.prog 400 os).forCall (fun _ _ => 0) ⟨#[], args, []⟩).memory := by
  rw [MakeChecks.laidMetH_plain _ _ _ (by kernel_rfl)]
  exact laidMet_of_run3 8 (by kernel_rfl) (by kernel_rfl) (by kernel_rfl)
set_option maxRecDepth 100000 in
theorem lifted (os : Os) (started : os.Started) (H : Type) (enc : TypeId × Value → H) :
    ReturnsInHanded {} Tryz.checked os 3 .any (fun w args => (Rows.fnShownSpec.pre enc Tryz.prog Tryz.f3 [] false w args ∧ laidMetH Tryz.prog laidL w) ∧ sizedMet enc Tryz.prog Tryz.f3 (OpenSpec.ofChange Rows.fnShownSpec) false w args)
      (Rows.fnShownSpec.post enc Tryz.prog Tryz.f3 false true false false) := by
  refine returnsInHanded_of_change_and (C := Tryz.checked) (X := fun w _ => laidMetH Tryz.prog laidL w) (fun _ _ _ hh h => h.of_heap hh) own started (by kernel_rfl) Tryz.func3
    (ChangeSpec.witness_shaped (enc := enc) (C := Tryz.checked) (os := os) (X := fun w _ => laidMetH Tryz.prog laidL w) false (World.doorLaid Tryz.prog 400 os) #[.slice none 0 0] 8 rfl (World.shaped_of_RefB (by kernel_rfl) (by kernel_rfl)) (by kernel_rfl) (by kernel_rfl) (by kernel_rfl) (door_met os _)) ?_
  intro W base args ds gs before hval hW _ _ hL _
  refine lawful (E := env) (k := 8) (tb := 4) sound_all (of_laid hL) (by as_aux_lemma => kernel_rfl) rfl Tryz.underlying4 rfl (fun ds hds => ?_) (fun H lss hn hl hs => ?_) hval hW
  · match ds, hds with
    | [d0], _ => rfl
  · match lss, hl with
    | [l0], _ => exact law_args H l0 (hs 0 22 l0 rfl rfl)
theorem row_holds : Rows.FnShownSaid :=
  OpenClaim.holds_of_wide 3 Tryz.f3 rfl rfl rfl rfl rfl rfl rfl ⟨rfl, rfl, rfl, rfl, rfl⟩ rfl rfl rfl rfl rfl (by as_aux_lemma => kernel_rfl) Tryz.func3 (by as_aux_lemma => kernel_rfl)
    (of_decide_eq_true (by as_aux_lemma => kernel_rfl)) (by unfold Func.isWrapper; first | (rw [if_pos (by decide +kernel)]; kernel_rfl) | (rw [if_neg (by decide +kernel)]; exact ⟨rfl, rfl⟩))
    (fun os started H enc _ => lifted os started H enc)
theorem holds : Rows.FnShownCardSaid :=
  Claim7.holds_tied_plain_at .later [] [.data, .data, .data] true (true, "5873df0ec1660a17077f42d4d35329b7281b4c51e5aa8c13a46d5b0543d922ba") false
    row_holds (fun _ h => by cases h) (by kernel_rfl) (fun _ h => by cases h) fnShown_row_tie rfl ⟨rfl, rfl⟩ (by kernel_rfl) rfl
    (fun f fn hf hfn => by
      obtain rfl : f = 3 := Option.some.inj ((show Tryz.prog.funcNamed "loop.example/g00470/laws.FnShown" = some 3 by kernel_rfl).symm.trans hf) |>.symm
      obtain rfl : fn = Tryz.f3 := (Option.some.inj (Tryz.func3.symm.trans hfn)).symm
      exact ⟨by kernel_rfl, fun j t ht => by
        rw [Tryz.params3] at ht
        have hm : t ∈ [22] := by simpa using Array.mem_of_getElem? ht
        have hall : ([22].all fun u => !Tryz.prog.wantsStandIn u) = true := by kernel_rfl
        exact (show Tryz.prog.wantsStandIn t = false by simpa using List.all_eq_true.1 hall t hm)⟩)
    (by kernel_rfl)
end W
end Go.Proofs.YtdojljjiekgapaaGreatDoor

/- The functions that this law reaches: what each computes. Conditions: those that each theorem names. -/
import Derived.Test.YtgphcehmbgcpiaaWalkReach
set_option maxRecDepth 100000
set_option maxHeartbeats 4000000
set_option linter.unusedSimpArgs false
set_option linter.unusedVariables false
set_option linter.unnecessarySimpa false
namespace Go.Proofs.Ytgphcehmbgcpiaa
open Go Go.Ab Go.ChangeShapes Go.WideShapes Go.ChangeAt Go.RowKit
namespace W
theorem implReach_is {H : Heap} {l : List Lf} {n : Net} (h : RdNet H l n) (hn : n.sz ≤ 1048576) (s : Int) (_ : I64 s) (all : Bool) : Runs env 31 [.agg l, .int s, .bool all] H fun v H' => ∃ q fp, v = .w (.lf q) ∧ IsIntS H' q (reach n s all) fp ∧ Fresh H H' fp := by
  have hR := h
  obtain ⟨_, q1, rfl, ⟨a0, rws, rfl, hs, hlen, hat⟩, ⟨c, rfl, hc1⟩⟩ := h
  have hl0 := BridgeS.sz_len n.bridges
  have hl : n.bridges.length ≤ 1048576 := by unfold Net.sz at hn; omega
  have e1 := fun G => implNetOk_is (hR.app G) hn
  have w1 : IntKind.i64.wrap ((n.bridges.length : Int) - 1) = (n.bridges.length : Int) - 1 := wrap64 (by omega) (by omega)
  simp only [Net.enc] at e1
  refine Runs.walk ok31 Try.func31 rfl (by simp [Try.f31]) fun Q hQ => ?_
  simp only [Try.f31, strip, stripL, stripI, stripG, chkT, tagsB, tagsL, tagD, addT, tagA, lookN, tagOp, elmT, ty22, ty23, ty28, ty29, ty38, ty48, ty71, ty79, ty88, Nat.reduceEqDiff, if_false, reduceIte, Option.getD_some, Option.getD_none, dstAt, dstOk, Nat.reduceLT, decide_true, if_true]
  have no : ∀ tm H', (∃ G, H' = H ++ G) → tm 6 = .w (.lf (.sl none 0)) → reach n s all = [] → Q .ret tm H' := by
    rintro tm _ ⟨G, rfl⟩ h6 hx
    refine hQ _ _ _ (by simp) ?_
    simp [Try.f31, h6, hx]
    exact ⟨[], ⟨none, rfl, Own.nil _ _⟩, ⟨⟨[], by simp⟩, by simp⟩⟩
  simp [Net.enc, builtinV, pureB, lenV, w1, inRange]
  refine gdL_f (fun hd => ?_) (fun hd => ?_)
  · simp [hd]
    simp at hd
    refine no _ _ ⟨_, rfl⟩ (by simp) ?_
    unfold reach
    have : (decide (0 ≤ s) && decide (s < (n.bridges.length : Int))) = false := by
      rw [Bool.and_eq_false_iff]
      simp
      omega
    rw [this]; simp
  simp [hd, e1]
  simp at hd
  refine selS_intro (fun he => ?_) (fun he => ?_)
  · simp
    simp at he
    exact no _ _ ⟨_, rfl⟩ (by simp) (by simp [reach, he])
  simp at he
  have hp := (Net.ok_iff n).1 he
  obtain ⟨s, rfl⟩ : ∃ s' : Nat, s = s' := ⟨s.toNat, by omega⟩
  have hsn : s < n.bridges.length := by omega
  have hfin : reach n (s : Int) all = reachL n s (wantS n all (-1)) := by
    unfold reach
    rw [he]
    simp [hsn]
  have hR1 : RdNet (H ++ [some ⟨31, .wr, [[.sl a0 n.bridges.length, .sl c n.links.length]]⟩]) [.sl a0 n.bridges.length, .sl c n.links.length] n := hR.app _
  have hb1 : blkAt (H ++ [some ⟨31, .wr, [[.sl a0 n.bridges.length, .sl c n.links.length]]⟩]) H.length = some ⟨31, .wr, [[.sl a0 n.bridges.length, .sl c n.links.length]]⟩ := by simp
  have hw1 : ∀ (G : Heap) (k : Nat), k < n.links.length → callV (run env) ((H ++ [some ⟨31, .wr, [[.sl a0 n.bridges.length, .sl c n.links.length]]⟩]) ++ G) (.w (.lf (.fn 56 [] []))) [.int k] = some (.bool (wantS n true (-1) k), (H ++ [some ⟨31, .wr, [[.sl a0 n.bridges.length, .sl c n.links.length]]⟩]) ++ G) := by
    intro G k hk
    have : wantS n true (-1) k = true := by simp [wantS]
    rw [this]
    simp [isAny]
  have hw2 : ∀ (G : Heap) (k : Nat), k < n.links.length → callV (run env) ((H ++ [some ⟨31, .wr, [[.sl a0 n.bridges.length, .sl c n.links.length]]⟩]) ++ G) (.w (.lf (.fn 53 [(H.length, 0, 0)] []))) [.int k] = some (.bool (wantS n false (-1) k), (H ++ [some ⟨31, .wr, [[.sl a0 n.bridges.length, .sl c n.links.length]]⟩]) ++ G) := by
    intro G k hk
    have e2 := passesM (H := (H ++ [some ⟨31, .wr, [[.sl a0 n.bridges.length, .sl c n.links.length]]⟩]) ++ G) (id := H.length) (l := [.sl a0 n.bridges.length, .sl c n.links.length]) (n := n) (by simp) (hR1.app _) hp k hk
    have : wantS n false (-1) k = passesAt n k := by
      have h1 : ¬ ((k : Int) = -1) := by omega
      have h2 : (k : Int) < (n.links.length : Int) := by omega
      simp [wantS, passes, he, h1, h2]
    rw [this]
    simpa [callV] using e2
  obtain ⟨W, hWW⟩ : ∃ W, W = wantS n all (-1) := ⟨_, rfl⟩
  rw [hfin, ← hWW] at hQ
  have hx1 : all = true → ∀ (G : Heap) (k : Nat), k < n.links.length → callV (run env) ((H ++ [some ⟨31, .wr, [[.sl a0 n.bridges.length, .sl c n.links.length]]⟩]) ++ G) (.w (.lf (.fn 56 [] []))) [.int k] = some (.bool (W k), (H ++ [some ⟨31, .wr, [[.sl a0 n.bridges.length, .sl c n.links.length]]⟩]) ++ G) := by
    intro ha; rw [hWW, ha]; exact hw1
  have hx2 : all = false → ∀ (G : Heap) (k : Nat), k < n.links.length → callV (run env) ((H ++ [some ⟨31, .wr, [[.sl a0 n.bridges.length, .sl c n.links.length]]⟩]) ++ G) (.w (.lf (.fn 53 [(H.length, 0, 0)] []))) [.int k] = some (.bool (W k), (H ++ [some ⟨31, .wr, [[.sl a0 n.bridges.length, .sl c n.links.length]]⟩]) ++ G) := by
    intro ha; rw [hWW, ha]; exact hw2
  clear hWW hfin
  cases all
  all_goals
    simp [funcT, ptrs]
    refine stpL_runs (reachM hb1 hR1 hn hp hsn (W := W) (by first | exact hx1 rfl | exact hx2 rfl)) ?_
    rintro _ H1 ⟨_, fp0, rfl, ⟨b, rfl, hob⟩, hfr⟩
    obtain ⟨ms, hms⟩ : ∃ ms, ms = connL n W s := ⟨_, rfl⟩
    rw [← hms] at hob
    have hml : ms.length = n.bridges.length := by rw [hms]; exact connL_len _ _ _
    have hxx : reachL n s W = idxL ms n.bridges.length := by rw [reachL, ← hms]
    have hsl := hob.sl
    rw [← hms, hml]
    simp [builtinV, pureB, lenV]
    refine wpS_loop (fun j tm H' => ∃ i a' fp, i + j = n.bridges.length ∧ tm 27 = .w (.lf (.sl b n.bridges.length)) ∧ tm 28 = .int n.bridges.length ∧ tm 29 = .int i ∧ tm 8 = .w (.lf (.sl a' (idxL ms i).length)) ∧ Own H' 3 a' ((idxL ms i).map encI) fp ∧ Fresh H1 H' fp) n.bridges.length (by rw [env_K]; omega)
      ⟨0, none, [], by simp, by simp, by simp, by simp, by simp [idxL], Own.nil _ _, ⟨[], by simp⟩, by simp⟩ ?_
    rintro j tm H' hj ⟨i, a', fp, hij, t27, t28, t29, t8, ho, ⟨⟨G, rfl⟩, hf⟩⟩ Q' hn' he' hr'
    simp [t27, t28, t29]
    refine selS_intro (fun hc => ?_) (fun hc => ?_)
    · simp at hc
      have g4 : IntKind.i64.wrap ((i : Int) + 1) = (i : Int) + 1 := wrap64 (by omega) (by omega)
      have him : i < ms.length := by omega
      have hlr := idxL_len ms i
      have hst : idxL ms (i + 1) = idxL ms i ++ (if ms[i] then [(i : Int)] else []) := by rw [idxL, List.getElem?_eq_getElem him]; simp
      obtain ⟨id2, r, bl, rfl, hbl, hbe, hrow⟩ := hsl i [.b ms[i]] (by simp [him, encB])
      have hid := blkAt_len hbl
      simp [t27, t28, t29, t8, indexAddrV, elemIs, hc, hid, hbl, hbe, hrow]
      refine selS_intro (fun hd => ?_) (fun hd => ?_)
      · rw [hd] at hst
        simp [t8]
        refine stpL_append (rows := (idxL ms i).map encI) (ys := [[.i .i64 i]]) (ho.app2 _) (Sl.of (by simp)) rfl rfl rfl (by simp) (by simp; omega) (by simp) rfl fun a'' H'' fp'' ho'' hk'' hf'' => ?_
        simp [t27, t28, t29, g4]
        refine hn' (j - 1) _ _ (by omega) ⟨i + 1, a'', fp'', by omega, by simp [t27], by simp [t28], by simp, by simp [hst], ?_, Fresh.grow hf hk'' hf''⟩
        simpa [hst, encI] using ho''
      · rw [hd] at hst
        simp [t27, t28, t29, t8, g4]
        refine hn' (j - 1) _ _ (by omega) ⟨i + 1, a', fp, by omega, by simp [t27], by simp [t28], by simp, by simp [hst, t8], ?_, Fresh.app _ _ hf⟩
        simpa [hst] using ho
    · simp at hc
      obtain rfl : i = n.bridges.length := by omega
      simp [t27, t28, t29]
      refine he' _ _ _ ?_
      simp [t8]
      obtain ⟨⟨G1, rfl⟩, -⟩ := hfr
      have hfr2 : Fresh H ((H ++ [some ⟨31, .wr, [[.sl a0 n.bridges.length, .sl c n.links.length]]⟩]) ++ G1 ++ G) fp := by
        have := Fresh.app _ G hf
        rw [List.append_assoc, List.append_assoc] at this ⊢
        exact this.base
      refine hQ _ _ _ (by simp) ?_
      simp [Try.f31, hxx]
      have ho2 : Own (H ++ some ⟨31, .wr, [[.sl a0 n.bridges.length, .sl c n.links.length]]⟩ :: (G1 ++ G)) 3 a' ((idxL ms n.bridges.length).map encI) fp := by simpa using ho
      have hfr3 : Fresh H (H ++ some ⟨31, .wr, [[.sl a0 n.bridges.length, .sl c n.links.length]]⟩ :: (G1 ++ G)) fp := by simpa using hfr2
      exact IsSl.leave (⟨a', rfl, ho2⟩ : IsIntS (H ++ some ⟨31, .wr, [[.sl a0 n.bridges.length, .sl c n.links.length]]⟩ :: (G1 ++ G)) (.sl a' (idxL ms n.bridges.length).length) (idxL ms n.bridges.length) fp) hfr3 (by simp)
end W
end Go.Proofs.Ytgphcehmbgcpiaa

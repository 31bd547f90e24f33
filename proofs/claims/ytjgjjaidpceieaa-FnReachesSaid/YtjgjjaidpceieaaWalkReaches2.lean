/- The functions that this law reaches: what each computes. Conditions: those that each theorem names. -/
import Derived.Test.YtjgjjaidpceieaaWalkReaches1
set_option maxRecDepth 100000
set_option maxHeartbeats 4000000
set_option linter.unusedSimpArgs false
set_option linter.unusedVariables false
set_option linter.unnecessarySimpa false
namespace Go.Proofs.Ytjgjjaidpceieaa
open Go Go.Ab Go.ChangeShapes Go.WideShapes Go.ChangeAt Go.RowKit
namespace W
theorem l6DrawRight {H : Heap} {c n : Nat} (hc : Cur H c n) : Runs env 127 [.ptr c 0 0] H fun v H' => (∃ x : Vec, v = .agg x.enc) ∧ CurTo H H' c n := by
  have hcl := hc.lt
  refine Runs.walk ok127 Try.func127 rfl (by simp [Try.f127]) fun Q hQ => ?_
  simp only [Try.f127, strip, stripL, stripI, stripG, chkT, tagsB, tagsL, tagD, addT, tagA, lookN, tagOp, elmT, ty22, ty24, ty25, ty33, ty54, ty58, ty95, ty122, Nat.reduceEqDiff, if_false, reduceIte, Option.getD_some, Option.getD_none, dstAt, dstOk, Nat.reduceLT, decide_true, if_true]
  have fin : ∀ (HF : Heap) (tm : Ab.T) (x : Vec), tm 2 = .ptr H.length 0 0 → blkAt HF H.length = some ⟨52, .wr, [x.enc]⟩ → CurTo H HF c n → Q .ret tm HF := by
    intro HF tm x t2 hb hto
    refine hQ _ _ _ (by simp) ?_
    have hres : resT env.τ tm HF (Try.f127.results.toList) = some [W.agg x.enc] := by simp [Try.f127, t2, hb]
    rw [hres, optK_some]
    exact ⟨⟨x, rfl⟩, hto.leave hc _⟩
  have hcX := hc.app [some ⟨52, .wr, [[.i .i64 0, .i .i64 0, .i .i64 0, .i .i64 0]]⟩]
  have bzX : blkAt (H ++ [some ⟨52, .wr, [[.i .i64 0, .i .i64 0, .i .i64 0, .i .i64 0]]⟩]) H.length = some ⟨52, .wr, [[.i .i64 0, .i .i64 0, .i .i64 0, .i .i64 0]]⟩ := by simp
  have hlX : (H ++ [some ⟨52, .wr, [[.i .i64 0, .i .i64 0, .i .i64 0, .i .i64 0]]⟩] : Heap).length = H.length + 1 := by simp
  simp
  refine stpL_runs (l1Below hcX 4) ?_
  rintro _ H1 ⟨⟨x, rfl, hx⟩, hto1⟩
  simp
  refine stpL_runs (l1Below hto1.2 4) ?_
  rintro _ H2 ⟨⟨y, rfl, hy⟩, hto2⟩
  have hto := hto1.next hto2
  have bz2 := hto.1.blk bzX (by simp; omega)
  have dz2 := blkAt_len bz2
  have hcc2 := hto.base
  have hl2 := hto.len
  rw [hlX] at hl2
  obtain ⟨r, hr⟩ : ∃ r, r = IntKind.i64.wrap (1 + x) := ⟨_, rfl⟩
  simp [← hr]
  have hcM := hto.2.app [some ⟨52, .wr, [[.i .i64 r, .i .i64 0, .i .i64 0, .i .i64 y]]⟩]
  refine stpL_cur (l1Below hcM 3) hcM (fun v H' h => h.2) ?_
  rintro _ H3 ⟨⟨z, rfl, hz⟩, hto3⟩
  have b3 : blkAt H3 H2.length = some ⟨52, .wr, [[.i .i64 r, .i .i64 0, .i .i64 0, .i .i64 y]]⟩ := hto3.1.blk (by simp) (by simp; omega)
  have bz3 := hto3.1.blk (blkAt_app bz2 _) (by simp; omega)
  have d3 := blkAt_len b3
  have dz3 := blkAt_len bz3
  have hcc3 := hcc2.next hto3.base
  obtain ⟨g, hg⟩ : ∃ g, g = IntKind.i64.wrap (r + z) := ⟨_, rfl⟩
  have hset : ∀ (Y : Heap) (y : Blk), H2.length < Y.length → blkAt (List.set Y H2.length (some y)) H2.length = some y := fun Y y h => blkAt_set h
  have hne3 : ∀ (Y : Heap) (y : Option Blk), blkAt (List.set Y H2.length y) H.length = blkAt Y H.length := fun Y y => blkAt_set_ne (by omega)
  simp [b3, d3, ← hg, hset]
  refine selS_intro (fun hq => ?_) (fun hq => ?_)
  · simp
    have hcS := (hcc3.set (id := H2.length) (by omega) (by omega) (some ⟨52, .wr, [[.i .i64 r, .i .i64 0, .i .i64 g, .i .i64 y]]⟩))
    refine stpL_runs (l1Below hcS.2 3) ?_
    rintro _ H4 ⟨⟨u, rfl, hu⟩, hto4⟩
    have b4 := hto4.1.blk (blkAt_set d3) (by simp; omega)
    have bz4 := hto4.1.blk (show blkAt (H3.set H2.length _) H.length = _ from (hne3 _ _).trans bz3) (by simp; omega)
    have d4 := blkAt_len b4
    have dz4 := blkAt_len bz4
    have hcc4 := hcS.next hto4
    simp [b4, d4, bz4, dz4, hset, hne3]
    refine fin _ _ ⟨_, _, _, _⟩ ?_ (blkAt_set (Nat.lt_of_lt_of_eq dz4 (List.length_set).symm)) ((hcc4.set (by omega) (by omega) _).set (by omega) (by omega) _)
    simp
  · simp [b3, d3, bz3, dz3, hset, hne3]
    refine fin _ _ ⟨_, _, _, _⟩ ?_ (blkAt_set (Nat.lt_of_lt_of_eq dz3 (List.length_set).symm)) ((hcc3.set (by omega) (by omega) _).set (by omega) (by omega) _)
    simp

theorem l6Draw {H : Heap} {c n : Nat} (hc : Cur H c n) : Runs env 129 [.ptr c 0 0] H fun v H' => (∃ x : Vec, v = .agg x.enc) ∧ CurTo H H' c n := by
  have hcl := hc.lt
  refine Runs.walk ok129 Try.func129 rfl (by simp [Try.f129]) fun Q hQ => ?_
  simp only [Try.f129, strip, stripL, stripI, stripG, chkT, tagsB, tagsL, tagD, addT, tagA, lookN, tagOp, elmT, ty22, ty24, ty25, ty33, ty54, ty58, ty95, ty122, Nat.reduceEqDiff, if_false, reduceIte, Option.getD_some, Option.getD_none, dstAt, dstOk, Nat.reduceLT, decide_true, if_true]
  have fin : ∀ (HF : Heap) (tm : Ab.T) (x : Vec), tm 2 = .ptr H.length 0 0 → blkAt HF H.length = some ⟨52, .wr, [x.enc]⟩ → CurTo H HF c n → Q .ret tm HF := by
    intro HF tm x t2 hb hto
    refine hQ _ _ _ (by simp) ?_
    have hres : resT env.τ tm HF (Try.f129.results.toList) = some [W.agg x.enc] := by simp [Try.f129, t2, hb]
    rw [hres, optK_some]
    exact ⟨⟨x, rfl⟩, hto.leave hc _⟩
  have hcX := hc.app [some ⟨52, .wr, [[.i .i64 0, .i .i64 0, .i .i64 0, .i .i64 0]]⟩]
  have bzX : blkAt (H ++ [some ⟨52, .wr, [[.i .i64 0, .i .i64 0, .i .i64 0, .i .i64 0]]⟩]) H.length = some ⟨52, .wr, [[.i .i64 0, .i .i64 0, .i .i64 0, .i .i64 0]]⟩ := by simp
  have hlX : (H ++ [some ⟨52, .wr, [[.i .i64 0, .i .i64 0, .i .i64 0, .i .i64 0]]⟩] : Heap).length = H.length + 1 := by simp
  simp
  refine stpL_runs (l6DrawRight hcX) ?_
  rintro _ H1 ⟨⟨x, rfl⟩, hto1⟩
  have bz1 := hto1.1.blk bzX (by simp; omega)
  have dz1 := blkAt_len bz1
  have hcc1 := hto1.base
  have hl1 := hto1.len
  rw [hlX] at hl1
  simp [Vec.enc]
  have hcM := hto1.2.app [some ⟨52, .wr, [[.i .i64 x.root, .i .i64 x.cost, .i .i64 x.bridge, .i .i64 x.port]]⟩]
  refine stpL_runs (l1Below hcM 10) ?_
  rintro _ H2 ⟨⟨k, rfl, -⟩, hto2⟩
  have b3 : blkAt H2 H1.length = some ⟨52, .wr, [[.i .i64 x.root, .i .i64 x.cost, .i .i64 x.bridge, .i .i64 x.port]]⟩ := hto2.1.blk (by simp) (by simp; omega)
  have bz2 := hto2.1.blk (blkAt_app bz1 _) (by simp; omega)
  have d3 := blkAt_len b3
  have dz2 := blkAt_len bz2
  have hcc2 := hcc1.next hto2.base
  have hne3 : ∀ (Y : Heap) (y : Option Blk), blkAt (List.set Y H1.length y) H.length = blkAt Y H.length := fun Y y => blkAt_set_ne (by omega)
  have hne4 : ∀ (Y : Heap) (y : Blk), H1.length < Y.length → blkAt (List.set Y H1.length (some y)) H1.length = some y := fun Y y h => blkAt_set h
  by_cases c0 : k = 0
  · simp [c0]
    have hcL := hto2.2.app [some ⟨3, .wr, [encI 0, encI 9, encI 10]⟩]
    simp only [encI] at hcL
    refine stpL_runs (l1PickInt (xs := [0, 9, 10]) hcL (Sl.of (by simp [encI])) (by simp) (by simp)) ?_
    rintro _ H3 ⟨⟨y, rfl, -⟩, hto3⟩
    have hto3 := hto3.base
    have b33 := hto3.1.blk b3 (by simp; omega)
    have bz3 := hto3.1.blk bz2 (by simp; omega)
    have d33 := blkAt_len b33
    have dz3 := blkAt_len bz3
    have hcc3 := hcc2.next hto3
    simp [b33, d33, bz3, dz3, hne3, hne4, Vec.enc]
    refine fin _ _ ⟨y, x.cost, x.bridge, x.port⟩ ?_ (blkAt_set (Nat.lt_of_lt_of_eq dz3 (List.length_set).symm)) ((hcc3.set (by omega) (by omega) _).set (by omega) (by omega) _)
    simp
  by_cases c1 : k = 1
  · simp [c1]
    have hcL := hto2.2.app [some ⟨3, .wr, [encI (-1), encI 0, encI 20, encI 21]⟩]
    simp only [encI] at hcL
    refine stpL_runs (l1PickInt (xs := [(-1), 0, 20, 21]) hcL (Sl.of (by simp [encI])) (by simp) (by simp)) ?_
    rintro _ H3 ⟨⟨y, rfl, -⟩, hto3⟩
    have hto3 := hto3.base
    have b33 := hto3.1.blk b3 (by simp; omega)
    have bz3 := hto3.1.blk bz2 (by simp; omega)
    have d33 := blkAt_len b33
    have dz3 := blkAt_len bz3
    have hcc3 := hcc2.next hto3
    simp [b33, d33, bz3, dz3, hne3, hne4, Vec.enc]
    refine fin _ _ ⟨x.root, y, x.bridge, x.port⟩ ?_ (blkAt_set (Nat.lt_of_lt_of_eq dz3 (List.length_set).symm)) ((hcc3.set (by omega) (by omega) _).set (by omega) (by omega) _)
    simp
  by_cases c2 : k = 2
  · simp [c2]
    have hcL := hto2.2.app [some ⟨3, .wr, [encI 0, encI 9, encI 10]⟩]
    simp only [encI] at hcL
    refine stpL_runs (l1PickInt (xs := [0, 9, 10]) hcL (Sl.of (by simp [encI])) (by simp) (by simp)) ?_
    rintro _ H3 ⟨⟨y, rfl, -⟩, hto3⟩
    have hto3 := hto3.base
    have b33 := hto3.1.blk b3 (by simp; omega)
    have bz3 := hto3.1.blk bz2 (by simp; omega)
    have d33 := blkAt_len b33
    have dz3 := blkAt_len bz3
    have hcc3 := hcc2.next hto3
    simp [b33, d33, bz3, dz3, hne3, hne4, Vec.enc]
    refine fin _ _ ⟨x.root, x.cost, y, x.port⟩ ?_ (blkAt_set (Nat.lt_of_lt_of_eq dz3 (List.length_set).symm)) ((hcc3.set (by omega) (by omega) _).set (by omega) (by omega) _)
    simp
  by_cases c3 : k = 3
  · simp [c3]
    have hcL := hto2.2.app [some ⟨3, .wr, [encI (-1), encI 3, encI 4]⟩]
    simp only [encI] at hcL
    refine stpL_runs (l1PickInt (xs := [(-1), 3, 4]) hcL (Sl.of (by simp [encI])) (by simp) (by simp)) ?_
    rintro _ H3 ⟨⟨y, rfl, -⟩, hto3⟩
    have hto3 := hto3.base
    have b33 := hto3.1.blk b3 (by simp; omega)
    have bz3 := hto3.1.blk bz2 (by simp; omega)
    have d33 := blkAt_len b33
    have dz3 := blkAt_len bz3
    have hcc3 := hcc2.next hto3
    simp [b33, d33, bz3, dz3, hne3, hne4, Vec.enc]
    refine fin _ _ ⟨x.root, x.cost, x.bridge, y⟩ ?_ (blkAt_set (Nat.lt_of_lt_of_eq dz3 (List.length_set).symm)) ((hcc3.set (by omega) (by omega) _).set (by omega) (by omega) _)
    simp
  simp [c0, c1, c2, c3, b3, d3, bz2, dz2]
  refine fin _ _ ⟨_, _, _, _⟩ ?_ (blkAt_set dz2) (hcc2.set (by omega) (by omega) _)
  simp

theorem l7DrawRight {H : Heap} {c n : Nat} (hc : Cur H c n) : Runs env 128 [.ptr c 0 0] H fun v H' => (∃ x : Port, v = .agg x.enc) ∧ CurTo H H' c n := by
  have hcl := hc.lt
  refine Runs.walk ok128 Try.func128 rfl (by simp [Try.f128]) fun Q hQ => ?_
  simp only [Try.f128, strip, stripL, stripI, stripG, chkT, tagsB, tagsL, tagD, addT, tagA, lookN, tagOp, elmT, ty22, ty24, ty25, ty33, ty54, ty58, ty95, ty122, Nat.reduceEqDiff, if_false, reduceIte, Option.getD_some, Option.getD_none, dstAt, dstOk, Nat.reduceLT, decide_true, if_true]
  have fin : ∀ (HF : Heap) (tm : Ab.T) (x : Port), tm 2 = .ptr H.length 0 0 → blkAt HF H.length = some ⟨87, .wr, [x.enc]⟩ → CurTo H HF c n → Q .ret tm HF := by
    intro HF tm x t2 hb hto
    refine hQ _ _ _ (by simp) ?_
    have hres : resT env.τ tm HF (Try.f128.results.toList) = some [W.agg x.enc] := by simp [Try.f128, t2, hb]
    rw [hres, optK_some]
    exact ⟨⟨x, rfl⟩, hto.leave hc _⟩
  have hcX := hc.app [some ⟨87, .wr, [[.b false, .b false, .i .i64 0, .i .i64 0, .i .i64 0, .i .i64 0, .i .i64 0, .i .i64 0, .i .i64 0, .i .i64 0, .b false]]⟩]
  have bzX : blkAt (H ++ [some ⟨87, .wr, [[.b false, .b false, .i .i64 0, .i .i64 0, .i .i64 0, .i .i64 0, .i .i64 0, .i .i64 0, .i .i64 0, .i .i64 0, .b false]]⟩]) H.length = some ⟨87, .wr, [[.b false, .b false, .i .i64 0, .i .i64 0, .i .i64 0, .i .i64 0, .i .i64 0, .i .i64 0, .i .i64 0, .i .i64 0, .b false]]⟩ := by simp
  have hlX : (H ++ [some ⟨87, .wr, [[.b false, .b false, .i .i64 0, .i .i64 0, .i .i64 0, .i .i64 0, .i .i64 0, .i .i64 0, .i .i64 0, .i .i64 0, .b false]]⟩] : Heap).length = H.length + 1 := by simp
  have eO := fun H p => l7Open H p
  have eF := fun H p => specFade H p
  have eT := fun H p r => specTurn H p r
  have eC := fun H p v h => specClaim H p v h
  simp only [Port.enc, Vec.enc] at eO eF eT eC
  simp
  refine stpL_runs (l1Once hcX 5) ?_
  rintro _ H1 ⟨⟨b, rfl⟩, hto1⟩
  have bz1 := hto1.1.blk bzX (by simp; omega)
  have dz1 := blkAt_len bz1
  have hcc1 := hto1.base
  have hl1 := hto1.len
  rw [hlX] at hl1
  cases b
  rotate_left
  · simp [bz1, dz1]
    refine fin _ _ ⟨_, _, ⟨_, _, _, _⟩, _, _, _, _, _⟩ ?_ (blkAt_set dz1) (hcc1.set (by omega) (by omega) _)
    simp
  simp
  have hcL := hto1.2.app [some ⟨3, .wr, [encI 0, encI 2, encI 4]⟩]
  simp only [encI] at hcL
  refine stpL_runs (l1PickInt (xs := [0, 2, 4]) hcL (Sl.of (by simp [encI])) (by simp) (by simp)) ?_
  rintro _ H2 ⟨⟨w, rfl, -⟩, hto2⟩
  have bz2 := hto2.1.blk (blkAt_app bz1 _) (by simp; omega)
  have dz2 := blkAt_len bz2
  have hcc2 := hcc1.next hto2.base
  have hl2 := hto2.base.len
  simp
  have hcM := hto2.2.app [some ⟨87, .wr, [[.b true, .b false, .i .i64 0, .i .i64 0, .i .i64 0, .i .i64 0, .i .i64 0, .i .i64 0, .i .i64 2, .i .i64 w, .b false]]⟩]
  refine stpL_runs (l1Once hcM 3) ?_
  rintro _ H3 ⟨⟨b, rfl⟩, hto3⟩
  have b3 : blkAt H3 H2.length = some ⟨87, .wr, [[.b true, .b false, .i .i64 0, .i .i64 0, .i .i64 0, .i .i64 0, .i .i64 0, .i .i64 0, .i .i64 2, .i .i64 w, .b false]]⟩ := hto3.1.blk (by simp) (by simp; omega)
  have bz3 := hto3.1.blk (blkAt_app bz2 _) (by simp; omega)
  have hcc3 := hcc2.next hto3.base
  have hne3 : ∀ (Y : Heap) (y : Option Blk), blkAt (List.set Y H2.length y) H.length = blkAt Y H.length := fun Y y => blkAt_set_ne (by omega)
  have d3 := blkAt_len b3
  have dz3 := blkAt_len bz3
  obtain ⟨p0, hp0⟩ : ∃ p0 : Port, p0 = ⟨true, false, ⟨0, 0, 0, 0⟩, 0, 0, 2, w, false⟩ := ⟨_, rfl⟩
  cases b
  rotate_left
  · simp
    simp [b3, d3]
    have e0 := fun H => l7Open H p0
    rw [hp0] at e0
    simp only [Port.enc] at e0
    simp [e0]
    refine stpL_runs (l1Below hcc3.2 3) ?_
    rintro _ H7 ⟨⟨r, rfl, -⟩, hto7⟩
    have bz7 := hto7.1.blk bz3 (by simp; omega)
    have dz7 := blkAt_len bz7
    have et := fun H => specTurn H (⟨true, false, ⟨0, 0, 0, 0⟩, 0, 0, 2, w, openBy 2 w⟩ : Port) (IntKind.i64.wrap (1 + r))
    simp only [Port.enc] at et
    simp [et, bz7, dz7]
    refine fin _ _ (turnP (⟨true, false, ⟨0, 0, 0, 0⟩, 0, 0, 2, w, openBy 2 w⟩ : Port) (IntKind.i64.wrap (1 + r))) ?_ (blkAt_set dz7) ((hcc3.next hto7).set (by omega) (by omega) _)
    simp
  simp [b3, d3]
  have e0 := fun H => l7Open H p0
  rw [hp0] at e0
  simp only [Port.enc] at e0
  simp [e0]
  obtain ⟨p1, hp1⟩ : ∃ p1 : Port, p1 = ⟨true, false, ⟨0, 0, 0, 0⟩, 0, 0, 2, w, openBy 2 w⟩ := ⟨_, rfl⟩
  refine stpL_runs (l6DrawRight hto3.2) ?_
  rintro _ H4 ⟨⟨v, rfl⟩, hto4⟩
  simp [Vec.enc]
  refine stpL_runs (l1Below hto4.2 4) ?_
  rintro _ H5 ⟨⟨h, rfl, -⟩, hto5⟩
  have hto45 := hto4.next hto5
  have b5 := hto45.1.blk b3 (by simp; omega)
  have bz5 := hto45.1.blk bz3 (by simp; omega)
  have d5 := blkAt_len b5
  have hcc5 := hcc3.next hto45
  have e1 := fun H => specClaim H p1 v h
  rw [hp1] at e1
  simp only [Port.enc, Vec.enc] at e1
  obtain ⟨p2, hp2⟩ : ∃ p2 : Port, p2 = claimP p1 v h := ⟨_, rfl⟩
  rw [← hp1, ← hp2] at e1
  simp [e1, b5, d5]
  have bs := blkAt_set (b := ⟨87, .wr, [[.b p2.up, .b p2.has, .i .i64 p2.vec.root, .i .i64 p2.vec.cost, .i .i64 p2.vec.bridge, .i .i64 p2.vec.port, .i .i64 p2.hops, .i .i64 p2.left, .i .i64 p2.role, .i .i64 p2.wait, .b p2.opn]]⟩) d5
  have bzs := (hne3 H5 (some ⟨87, .wr, [[.b p2.up, .b p2.has, .i .i64 p2.vec.root, .i .i64 p2.vec.cost, .i .i64 p2.vec.bridge, .i .i64 p2.vec.port, .i .i64 p2.hops, .i .i64 p2.left, .i .i64 p2.role, .i .i64 p2.wait, .b p2.opn]]⟩)).trans bz5
  have hcs := hcc5.set (id := H2.length) (by omega) (by omega) (some ⟨87, .wr, [[.b p2.up, .b p2.has, .i .i64 p2.vec.root, .i .i64 p2.vec.cost, .i .i64 p2.vec.bridge, .i .i64 p2.vec.port, .i .i64 p2.hops, .i .i64 p2.left, .i .i64 p2.role, .i .i64 p2.wait, .b p2.opn]]⟩)
  refine stpL_runs (l1Once hcs.2 3) ?_
  rintro _ H6 ⟨⟨b, rfl⟩, hto6⟩
  have b6 := hto6.1.blk bs (by simp; omega)
  have bz6 := hto6.1.blk bzs (by simp; omega)
  have d6 := blkAt_len b6
  have dz6 := blkAt_len bz6
  have hcc6 := hcs.next hto6
  have eo := fun H => l7Open H p2
  simp only [Port.enc] at eo
  cases b
  · simp [b6, d6, eo]
    refine stpL_runs (l1Below hcc6.2 3) ?_
    rintro _ H7 ⟨⟨r, rfl, -⟩, hto7⟩
    have bz7 := hto7.1.blk bz6 (by simp; omega)
    have dz7 := blkAt_len bz7
    have et := fun H => specTurn H ({ p2 with opn := openBy p2.role p2.wait } : Port) (IntKind.i64.wrap (1 + r))
    simp only [Port.enc] at et
    simp [et, bz7, dz7]
    refine fin _ _ (turnP ({ p2 with opn := openBy p2.role p2.wait } : Port) (IntKind.i64.wrap (1 + r))) ?_ (blkAt_set dz7) ((hcc6.next hto7).set (by omega) (by omega) _)
    simp
  · have ef := fun H => specFade H p2
    obtain ⟨p3, hp3⟩ : ∃ p3 : Port, p3 = fadeP p2 := ⟨_, rfl⟩
    rw [← hp3] at ef
    simp only [Port.enc] at ef
    have eo3 := fun H => l7Open H p3
    simp only [Port.enc] at eo3
    have hset6 : ∀ y : Blk, blkAt (List.set H6 H2.length (some y)) H2.length = some y := fun y => blkAt_set d6
    simp [b6, d6, ef, hset6, eo3]
    have bzs6 := (hne3 H6 (some ⟨87, .wr, [[.b p3.up, .b p3.has, .i .i64 p3.vec.root, .i .i64 p3.vec.cost, .i .i64 p3.vec.bridge, .i .i64 p3.vec.port, .i .i64 p3.hops, .i .i64 p3.left, .i .i64 p3.role, .i .i64 p3.wait, .b p3.opn]]⟩)).trans bz6
    have hcs6 := hcc6.set (id := H2.length) (by omega) (by omega) (some ⟨87, .wr, [[.b p3.up, .b p3.has, .i .i64 p3.vec.root, .i .i64 p3.vec.cost, .i .i64 p3.vec.bridge, .i .i64 p3.vec.port, .i .i64 p3.hops, .i .i64 p3.left, .i .i64 p3.role, .i .i64 p3.wait, .b p3.opn]]⟩)
    refine stpL_runs (l1Below hcs6.2 3) ?_
    rintro _ H7 ⟨⟨r, rfl, -⟩, hto7⟩
    have bz7 := hto7.1.blk bzs6 (by simp; omega)
    have dz7 := blkAt_len bz7
    have et := fun H => specTurn H ({ p3 with opn := openBy p3.role p3.wait } : Port) (IntKind.i64.wrap (1 + r))
    simp only [Port.enc] at et
    simp [et, bz7, dz7]
    refine fin _ _ (turnP ({ p3 with opn := openBy p3.role p3.wait } : Port) (IntKind.i64.wrap (1 + r))) ?_ (blkAt_set dz7) ((hcs6.next hto7).set (by omega) (by omega) _)
    simp

theorem l7Draw {H : Heap} {c n : Nat} (hc : Cur H c n) : Runs env 117 [.ptr c 0 0] H fun v H' => (∃ x : Port, v = .agg x.enc) ∧ CurTo H H' c n := by
  have hcl := hc.lt
  refine Runs.walk ok117 Try.func117 rfl (by simp [Try.f117]) fun Q hQ => ?_
  simp only [Try.f117, strip, stripL, stripI, stripG, chkT, tagsB, tagsL, tagD, addT, tagA, lookN, tagOp, elmT, ty22, ty24, ty25, ty33, ty54, ty58, ty95, ty122, Nat.reduceEqDiff, if_false, reduceIte, Option.getD_some, Option.getD_none, dstAt, dstOk, Nat.reduceLT, decide_true, if_true]
  have fin : ∀ (HF : Heap) (tm : Ab.T) (x : Port), tm 2 = .ptr H.length 0 0 → blkAt HF H.length = some ⟨87, .wr, [x.enc]⟩ → CurTo H HF c n → Q .ret tm HF := by
    intro HF tm x t2 hb hto
    refine hQ _ _ _ (by simp) ?_
    have hres : resT env.τ tm HF (Try.f117.results.toList) = some [W.agg x.enc] := by simp [Try.f117, t2, hb]
    rw [hres, optK_some]
    exact ⟨⟨x, rfl⟩, hto.leave hc _⟩
  have hcX := hc.app [some ⟨87, .wr, [[.b false, .b false, .i .i64 0, .i .i64 0, .i .i64 0, .i .i64 0, .i .i64 0, .i .i64 0, .i .i64 0, .i .i64 0, .b false]]⟩]
  have bzX : blkAt (H ++ [some ⟨87, .wr, [[.b false, .b false, .i .i64 0, .i .i64 0, .i .i64 0, .i .i64 0, .i .i64 0, .i .i64 0, .i .i64 0, .i .i64 0, .b false]]⟩]) H.length = some ⟨87, .wr, [[.b false, .b false, .i .i64 0, .i .i64 0, .i .i64 0, .i .i64 0, .i .i64 0, .i .i64 0, .i .i64 0, .i .i64 0, .b false]]⟩ := by simp
  have hlX : (H ++ [some ⟨87, .wr, [[.b false, .b false, .i .i64 0, .i .i64 0, .i .i64 0, .i .i64 0, .i .i64 0, .i .i64 0, .i .i64 0, .i .i64 0, .b false]]⟩] : Heap).length = H.length + 1 := by simp
  simp
  refine stpL_runs (l7DrawRight hcX) ?_
  rintro _ H1 ⟨⟨x, rfl⟩, hto1⟩
  have bz1 := hto1.1.blk bzX (by simp; omega)
  have dz1 := blkAt_len bz1
  have hcc1 := hto1.base
  have hl1 := hto1.len
  rw [hlX] at hl1
  simp [Port.enc]
  have hcM := hto1.2.app [some ⟨87, .wr, [[.b x.up, .b x.has, .i .i64 x.vec.root, .i .i64 x.vec.cost, .i .i64 x.vec.bridge, .i .i64 x.vec.port, .i .i64 x.hops, .i .i64 x.left, .i .i64 x.role, .i .i64 x.wait, .b x.opn]]⟩]
  refine stpL_runs (l1Below hcM 12) ?_
  rintro _ H2 ⟨⟨k, rfl, -⟩, hto2⟩
  have b3 : blkAt H2 H1.length = some ⟨87, .wr, [[.b x.up, .b x.has, .i .i64 x.vec.root, .i .i64 x.vec.cost, .i .i64 x.vec.bridge, .i .i64 x.vec.port, .i .i64 x.hops, .i .i64 x.left, .i .i64 x.role, .i .i64 x.wait, .b x.opn]]⟩ := hto2.1.blk (by simp) (by simp; omega)
  have bz2 := hto2.1.blk (blkAt_app bz1 _) (by simp; omega)
  have d3 := blkAt_len b3
  have dz2 := blkAt_len bz2
  have hcc2 := hcc1.next hto2.base
  have hne3 : ∀ (Y : Heap) (y : Option Blk), blkAt (List.set Y H1.length y) H.length = blkAt Y H.length := fun Y y => blkAt_set_ne (by omega)
  have hne4 : ∀ (Y : Heap) (y : Blk), H1.length < Y.length → blkAt (List.set Y H1.length (some y)) H1.length = some y := fun Y y h => blkAt_set h
  by_cases c0 : k = 0
  · simp [c0]
    simp [b3, d3, bz2, dz2, hne3, hne4]
    refine fin _ _ ⟨!x.up, x.has, x.vec, x.hops, x.left, x.role, x.wait, x.opn⟩ ?_ (blkAt_set (Nat.lt_of_lt_of_eq dz2 (List.length_set).symm)) ((hcc2.set (by omega) (by omega) _).set (by omega) (by omega) _)
    simp
  by_cases c1 : k = 1
  · simp [c1]
    refine stpL_runs (l6Draw hto2.2) ?_
    rintro _ H3 ⟨⟨y, rfl⟩, hto3⟩
    have b33 := hto3.1.blk b3 (by simp; omega)
    have bz3 := hto3.1.blk bz2 (by simp; omega)
    have d33 := blkAt_len b33
    have dz3 := blkAt_len bz3
    have hcc3 := hcc2.next hto3
    simp [b33, d33, bz3, dz3, hne3, hne4, Vec.enc]
    refine fin _ _ ⟨x.up, x.has, y, x.hops, x.left, x.role, x.wait, x.opn⟩ ?_ (blkAt_set (Nat.lt_of_lt_of_eq dz3 (List.length_set).symm)) ((hcc3.set (by omega) (by omega) _).set (by omega) (by omega) _)
    simp
  by_cases c2 : k = 2
  · simp [c2]
    have hcL := hto2.2.app [some ⟨3, .wr, [encI 0, encI 1, encI 3, encI 4]⟩]
    simp only [encI] at hcL
    refine stpL_runs (l1PickInt (xs := [0, 1, 3, 4]) hcL (Sl.of (by simp [encI])) (by simp) (by simp)) ?_
    rintro _ H3 ⟨⟨y, rfl, -⟩, hto3⟩
    have hto3 := hto3.base
    have b33 := hto3.1.blk b3 (by simp; omega)
    have bz3 := hto3.1.blk bz2 (by simp; omega)
    have d33 := blkAt_len b33
    have dz3 := blkAt_len bz3
    have hcc3 := hcc2.next hto3
    simp [b33, d33, bz3, dz3, hne3, hne4, Vec.enc]
    refine fin _ _ ⟨x.up, x.has, x.vec, x.hops, y, x.role, x.wait, x.opn⟩ ?_ (blkAt_set (Nat.lt_of_lt_of_eq dz3 (List.length_set).symm)) ((hcc3.set (by omega) (by omega) _).set (by omega) (by omega) _)
    simp
  by_cases c3 : k = 3
  · simp [c3]
    refine stpL_runs (l1Below hto2.2 6) ?_
    rintro _ H3 ⟨⟨y, rfl, -⟩, hto3⟩
    have b33 := hto3.1.blk b3 (by simp; omega)
    have bz3 := hto3.1.blk bz2 (by simp; omega)
    have d33 := blkAt_len b33
    have dz3 := blkAt_len bz3
    have hcc3 := hcc2.next hto3
    simp [b33, d33, bz3, dz3, hne3, hne4, Vec.enc]
    refine fin _ _ ⟨x.up, x.has, x.vec, x.hops, x.left, IntKind.i64.wrap (y - 1), x.wait, x.opn⟩ ?_ (blkAt_set (Nat.lt_of_lt_of_eq dz3 (List.length_set).symm)) ((hcc3.set (by omega) (by omega) _).set (by omega) (by omega) _)
    simp
  by_cases c4 : k = 4
  · simp [c4]
    simp [b3, d3, bz2, dz2, hne3, hne4]
    refine fin _ _ ⟨x.up, x.has, x.vec, x.hops, x.left, x.role, x.wait, !x.opn⟩ ?_ (blkAt_set (Nat.lt_of_lt_of_eq dz2 (List.length_set).symm)) ((hcc2.set (by omega) (by omega) _).set (by omega) (by omega) _)
    simp
  by_cases c5 : k = 5
  · simp [c5]
    have hcL := hto2.2.app [some ⟨3, .wr, [encI (-1), encI 4, encI 5]⟩]
    simp only [encI] at hcL
    refine stpL_runs (l1PickInt (xs := [(-1), 4, 5]) hcL (Sl.of (by simp [encI])) (by simp) (by simp)) ?_
    rintro _ H3 ⟨⟨y, rfl, -⟩, hto3⟩
    have hto3 := hto3.base
    have b33 := hto3.1.blk b3 (by simp; omega)
    have bz3 := hto3.1.blk bz2 (by simp; omega)
    have d33 := blkAt_len b33
    have dz3 := blkAt_len bz3
    have hcc3 := hcc2.next hto3
    simp [b33, d33, bz3, dz3, hne3, hne4, Vec.enc]
    refine fin _ _ ⟨x.up, x.has, x.vec, x.hops, x.left, x.role, y, x.opn⟩ ?_ (blkAt_set (Nat.lt_of_lt_of_eq dz3 (List.length_set).symm)) ((hcc3.set (by omega) (by omega) _).set (by omega) (by omega) _)
    simp
  simp [c0, c1, c2, c3, c4, c5, b3, d3, bz2, dz2]
  refine fin _ _ ⟨_, _, ⟨_, _, _, _⟩, _, _, _, _, _⟩ ?_ (blkAt_set dz2) (hcc2.set (by omega) (by omega) _)
  simp

theorem l8DrawIn {H : Heap} {c n : Nat} (hc : Cur H c n) : Runs env 112 [.ptr c 0 0] H fun v H' => (∃ x : In, v = .agg x.enc) ∧ CurTo H H' c n := by
  have hcl := hc.lt
  refine Runs.walk ok112 Try.func112 rfl (by simp [Try.f112]) fun Q hQ => ?_
  simp only [Try.f112, strip, stripL, stripI, stripG, chkT, tagsB, tagsL, tagD, addT, tagA, lookN, tagOp, elmT, ty22, ty24, ty25, ty33, ty54, ty58, ty95, ty122, Nat.reduceEqDiff, if_false, reduceIte, Option.getD_some, Option.getD_none, dstAt, dstOk, Nat.reduceLT, decide_true, if_true]
  have fin : ∀ (HF : Heap) (tm : Ab.T) (x : In), tm 2 = .ptr H.length 0 0 → blkAt HF H.length = some ⟨62, .wr, [x.enc]⟩ → CurTo H HF c n → Q .ret tm HF := by
    intro HF tm x t2 hb hto
    refine hQ _ _ _ (by simp) ?_
    have hres : resT env.τ tm HF (Try.f112.results.toList) = some [W.agg x.enc] := by simp [Try.f112, t2, hb]
    rw [hres, optK_some]
    exact ⟨⟨x, rfl⟩, hto.leave hc _⟩
  have hcX := hc.app [some ⟨62, .wr, [[.i .i64 0, .i .i64 0, .i .i64 0, .i .i64 0, .i .i64 0, .i .i64 0, .i .i64 0, .b false]]⟩]
  have bzX : blkAt (H ++ [some ⟨62, .wr, [[.i .i64 0, .i .i64 0, .i .i64 0, .i .i64 0, .i .i64 0, .i .i64 0, .i .i64 0, .b false]]⟩]) H.length = some ⟨62, .wr, [[.i .i64 0, .i .i64 0, .i .i64 0, .i .i64 0, .i .i64 0, .i .i64 0, .i .i64 0, .b false]]⟩ := by simp
  have hlX : (H ++ [some ⟨62, .wr, [[.i .i64 0, .i .i64 0, .i .i64 0, .i .i64 0, .i .i64 0, .i .i64 0, .i .i64 0, .b false]]⟩] : Heap).length = H.length + 1 := by simp
  simp
  refine stpL_runs (l1Below hcX 4) ?_
  rintro _ H1 ⟨⟨p, rfl, -⟩, hto1⟩
  have bz1 := hto1.1.blk bzX (by simp; omega)
  have hcc1 := hto1.base
  have hl1 := hto1.len
  rw [hlX] at hl1
  simp
  refine stpL_runs (l1Below hto1.2 4) ?_
  rintro _ H2 ⟨⟨k, rfl, -⟩, hto2⟩
  have bz2 := hto2.1.blk bz1 (by simp; omega)
  have dz2 := blkAt_len bz2
  have hcc2 := hcc1.next hto2
  by_cases c0 : k = 0
  · simp [c0, bz2, dz2]
    refine fin _ _ ⟨_, _, ⟨_, _, _, _⟩, _, _⟩ ?_ (blkAt_set dz2) (hcc2.set (by omega) (by omega) _)
    simp
  by_cases c1 : k = 1
  · simp [c1]
    refine stpL_runs (l1Once hto2.2 3) ?_
    rintro _ H3 ⟨⟨b, rfl⟩, hto3⟩
    have bz3 := hto3.1.blk bz2 (by simp; omega)
    have dz3 := blkAt_len bz3
    simp [bz3, dz3]
    refine fin _ _ ⟨_, _, ⟨_, _, _, _⟩, _, _⟩ ?_ (blkAt_set dz3) ((hcc2.next hto3).set (by omega) (by omega) _)
    simp
  simp [c0, c1]
  refine stpL_runs (l6DrawRight hto2.2) ?_
  rintro _ H3 ⟨⟨v, rfl⟩, hto3⟩
  have bz3 := hto3.1.blk bz2 (by simp; omega)
  simp
  refine stpL_runs (l1Below hto3.2 4) ?_
  rintro _ H4 ⟨⟨h, rfl, -⟩, hto4⟩
  have bz4 := hto4.1.blk bz3 (by simp; omega)
  have dz4 := blkAt_len bz4
  simp [bz4, dz4, Vec.enc]
  refine fin _ _ ⟨_, _, ⟨_, _, _, _⟩, _, _⟩ ?_ (blkAt_set dz4) (((hcc2.next hto3).next hto4).set (by omega) (by omega) _)
  simp

theorem l1New {H : Heap} {a : Option (Nat × Nat)} {bs : List Int} (hs : Sl H 5 a (bs.map encU)) (hn : bs.length ≤ 1048576) : Runs env 50 [.w (.lf (.sl a bs.length))] H fun v H' => ∃ c, v = .ptr c 0 0 ∧ Cur H' c bs.length ∧ H.length ≤ c ∧ Keep [] H H' := by
  have hw : IntKind.i64.wrap (27397 + (bs.length : Int)) = 27397 + (bs.length : Int) := wrap64 (by omega) (by omega)
  refine Runs.walk ok50 Try.func50 rfl (by simp [Try.f50]) fun Q hQ => ?_
  simp only [Try.f50, strip, stripL, stripI, stripG, chkT, tagsB, tagsL, tagD, addT, tagA, lookN, tagOp, elmT, ty22, ty24, ty25, ty33, ty54, ty58, ty95, ty122, Nat.reduceEqDiff, if_false, reduceIte, Option.getD_some, Option.getD_none, dstAt, dstOk, Nat.reduceLT, decide_true, if_true]
  have fin : ∀ (tm : Ab.T) (h : Int), tm 2 = .ptr H.length 0 0 → Q .ret tm (H ++ [some ⟨105, .wr, [[.sl a bs.length, .i .i64 0, .i .i64 h]]⟩]) := by
    intro tm h t2
    refine hQ _ _ _ (by simp) ?_
    simp [Try.f50, t2, leave, refFree]
    refine ⟨⟨a, 0, h, bs, by simp, by omega, by omega, rfl, hn, fun id r he hb => ?_, hs.app _⟩, Keep.app _ _ _⟩
    subst he
    exact hs.len (by simpa using hb)
  simp [builtinV, pureB, lenV, hw]
  refine wpS_loop (fun j tm H' => ∃ (i : Nat) (h : Int), i + j = bs.length ∧ tm 0 = .w (.lf (.sl a bs.length)) ∧ tm 3 = .int h ∧ tm 4 = .int i ∧ H' = H) bs.length (by rw [env_K]; omega) ⟨0, 27397 + bs.length, by simp, by simp, by simp, by simp, rfl⟩ ?_
  rintro j tm H1 hj ⟨i, h, hij, t0, t3, t4, rfl⟩ Q2 hn2 he2 hr2
  simp [t0, t3, t4, builtinV, pureB, lenV]
  have out : ∀ tm : Ab.T, tm 0 = .w (.lf (.sl a bs.length)) → tm 3 = .int h → Q2 (.exit 0) tm H1 := by
    intro tm s0 s3
    refine he2 _ _ _ ?_
    simp [s0, s3]
    refine fin _ h ?_
    simp
  by_cases hc1 : (i : Int) < bs.length
  · have hk : i < bs.length := by omega
    by_cases hc2 : (i : Int) < 4000
    · obtain ⟨id3, r3, bl3, rfl, hb3, hbe3, hrow3⟩ := hs i _ (by rw [List.getElem?_map, List.getElem?_eq_getElem hk]; rfl)
      have hid3 := blkAt_len hb3
      have hw2 : IntKind.i64.wrap ((i : Int) + 1) = (i : Int) + 1 := wrap64 (by omega) (by omega)
      have hc2' : i < 4000 := by omega
      simp [hc1, hk, hc2, hc2', t0, t3, t4, hb3, hid3, hbe3, hrow3, indexAddrV, elemIs, encU, binV, binInt, cmpI, arI, IntKind.bits, convV, hw2]
      refine hn2 (j - 1) _ _ (by omega) ⟨i + 1, _, by omega, by simp [t0], by simp; rfl, by simp, rfl⟩
    · have hc2' : ¬ i < 4000 := by omega
      simp [hc1, hk, hc2, hc2', t0, t3, t4]
      exact out _ (by simp [t0]) (by simp [t3])
  · have hk : ¬ i < bs.length := by omega
    simp [hc1, hk, t0, t3, t4]
    exact out _ (by simp [t0]) (by simp [t3])

def BrSt (H H' : Heap) (c n K m : Nat) : Prop := ∃ (l : List Lf) (b : Bridge) (fp : List Nat), blkAt H' K = some ⟨56, .wr, [l]⟩ ∧ IsBridge H' l b fp ∧ (∀ k ∈ fp, H.length + 1 ≤ k ∧ k ≠ K) ∧ b.ports.length = m ∧ CurTo H H' c n ∧ blkAt H' H.length = some ⟨56, .wr, [[.i .i64 0, .sl none 0]]⟩
theorem BrSt.next {H H1 H2 : Heap} {c n K m : Nat} (h : BrSt H H1 c n K m) (h2 : CurTo H1 H2 c n) (hc : c < H.length) (hK : H.length < K) : BrSt H H2 c n K m := by
  obtain ⟨l, b, fp, h3, h4, h5, h6, h7, h8⟩ := h
  exact ⟨l, b, fp, h2.1.blk h3 (by simp; omega), h4.keep h2.1 (fun k hk hk2 => by have := h5 k hk; simp at hk2; omega), h5, h6, h7.next h2, h2.1.blk h8 (by simp; omega)⟩
theorem l8DrawRight {H : Heap} {c n : Nat} (hc : Cur H c n) : Runs env 116 [.ptr c 0 0] H fun v H' => (∃ (l : List Lf) (b : Bridge) (fp : List Nat), v = .agg l ∧ IsBridge H' l b fp ∧ 1 ≤ b.ports.length ∧ b.ports.length ≤ 4 ∧ ∀ i ∈ fp, H.length ≤ i) ∧ CurTo H H' c n := by
  have hcl := hc.lt
  refine Runs.walk ok116 Try.func116 rfl (by simp [Try.f116]) fun Q hQ => ?_
  simp only [Try.f116, strip, stripL, stripI, stripG, chkT, tagsB, tagsL, tagD, addT, tagA, lookN, tagOp, elmT, ty22, ty24, ty25, ty33, ty54, ty58, ty95, ty122, Nat.reduceEqDiff, if_false, reduceIte, Option.getD_some, Option.getD_none, dstAt, dstOk, Nat.reduceLT, decide_true, if_true]
  have hcX := hc.app [some ⟨56, .wr, [[.i .i64 0, .sl none 0]]⟩]
  have bzX : blkAt (H ++ [some ⟨56, .wr, [[.i .i64 0, .sl none 0]]⟩]) H.length = some ⟨56, .wr, [[.i .i64 0, .sl none 0]]⟩ := by simp
  have hlX : (H ++ [some ⟨56, .wr, [[.i .i64 0, .sl none 0]]⟩] : Heap).length = H.length + 1 := by simp
  simp
  refine stpL_runs (l1Below hcX 6) ?_
  rintro _ H1 ⟨⟨x, rfl, hx0, hx1, -⟩, hto1⟩
  simp
  refine stpL_runs (l1Below hto1.2 4) ?_
  rintro _ H2 ⟨⟨y, rfl, hy0, hy1, -⟩, hto2⟩
  have hto := hto1.next hto2
  have bz2 := hto.1.blk bzX (by simp; omega)
  have hl2 := hto.len
  rw [hlX] at hl2
  have hcc2 := hto.base
  have w1 : IntKind.i64.wrap (1 + x) = 1 + x := wrap64 (by omega) (by omega)
  have w2 : IntKind.i64.wrap (1 + y) = 1 + y := wrap64 (by omega) (by omega)
  simp [w1, w2]
  refine stpL_runs (specBridgeNew _ _ _) ?_
  rintro _ _ ⟨l, fp, rfl, ob, ⟨⟨G3, rfl⟩, hfp⟩⟩
  have hbn := bridgeNew_yes (show (bridgeNew (1 + x) (1 + y)).2 = true by unfold bridgeNew; rw [if_pos (by simp; omega)])
  have hL := ob.len
  have hT : l.take l.length = l := List.take_length
  rw [hL] at hT
  have hltb := ob.lt
  obtain ⟨m, hm⟩ : ∃ m : Nat, m = (1 + y).toNat := ⟨_, rfl⟩
  have hm4 : 1 ≤ m ∧ m ≤ 4 := by omega
  simp [hL, hT]
  obtain ⟨K, hK⟩ : ∃ K, K = H2.length + G3.length := ⟨_, rfl⟩
  have hKl : H.length < K := by omega
  have st0 : BrSt H (H2 ++ (G3 ++ [some ⟨56, .wr, [l]⟩])) c n K m := by
    have ob' := ob.app [some ⟨56, .wr, [l]⟩]
    rw [List.append_assoc] at ob'
    refine ⟨l, _, fp, by rw [hK]; simp, ob', fun k hk => ?_, by rw [hbn.2.2]; simp [hm], hcc2.app _, blkAt_app bz2 _⟩
    have a1 := hfp k hk
    have a2 := hltb k hk
    simp only [List.length_append] at a2
    omega
  rw [← hK]
  obtain ⟨H3, hH3⟩ : ∃ H3 : Heap, H3 = H2 ++ (G3 ++ [some ⟨56, .wr, [l]⟩]) := ⟨_, rfl⟩
  rw [← hH3] at st0 ⊢
  clear hH3 hK ob hfp hltb hL hT
  have ret : ∀ (HF : Heap) (tm : Ab.T), tm 2 = .ptr H.length 0 0 → (∃ (l : List Lf) (b : Bridge) (fp : List Nat), blkAt HF H.length = some ⟨56, .wr, [l]⟩ ∧ IsBridge HF l b fp ∧ (∀ k ∈ fp, H.length ≤ k) ∧ b.ports.length = m ∧ CurTo H HF c n) → Q .ret tm HF := by
    rintro HF tm t2 ⟨l, b, fp, h1, h2, h3, h4, h5⟩
    have hL := h2.len
    have hT : l.take l.length = l := List.take_length
    rw [hL] at hT
    refine hQ _ _ _ (by simp) ?_
    have hres : resT env.τ tm HF (Try.f116.results.toList) = some [W.agg l] := by simp [Try.f116, t2, h1, hL, hT]
    rw [hres, optK_some]
    refine ⟨?_, h5.leave hc _⟩
    rcases leave_opt H HF [W.agg l] with e | ⟨e, hr⟩ <;> rw [e]
    · exact ⟨l, b, fp, rfl, h2, by omega, by omega, h3⟩
    · exact ⟨l, b, [], rfl, h2.free (by simpa using hr) H, by omega, by omega, by simp⟩
  -- a reaction
  have act : ∀ (HA : Heap) (l : List Lf) (b : Bridge) (fp : List Nat) (x : In), blkAt HA K = some ⟨56, .wr, [l]⟩ → IsBridge HA l b fp → (∀ k ∈ fp, H.length + 1 ≤ k ∧ k ≠ K) → b.ports.length = m → CurTo H HA c n → blkAt HA H.length = some ⟨56, .wr, [[.i .i64 0, .sl none 0]]⟩ → l.length = 2 →
      Runs env 65 [.agg l, .agg x.enc] HA fun v H' => ∃ l' q G, v = .tup [.agg l', .lf q] ∧ l'.length = 2 ∧ l'.take 2 = l' ∧ H' = HA ++ G ∧ BrSt H (H'.set K (some ⟨56, .wr, [l']⟩)) c n K m := by
    intro HA l b fp x h1 h2 h3 h4 h5 h6 h7
    refine (specReact h2.rd (by unfold Bridge.sz; omega) x).mono ?_
    rintro _ _ ⟨l', f1, q, f2, rfl, o1, o2, ⟨⟨G, rfl⟩, hf⟩, hd⟩
    have hl' := o1.len
    refine ⟨l', q, G, rfl, hl', by rw [← hl']; exact List.take_length, rfl, l', _, f1, blkAt_set (by have := blkAt_len h1; simp; omega), o1.keep (Keep.set _ _) (fun k hk hk2 => ?_), fun k hk => ?_, by rw [reactB_len]; exact h4, (h5.app G).set (by omega) (by omega) _, by rw [blkAt_set_ne (by omega)]; exact blkAt_app h6 G⟩
    · have := hf k (by simp [hk]); have := blkAt_len h1; simp at hk2; omega
    · have := hf k (by simp [hk]); have := blkAt_len h1; have := h5.len; omega
  refine wpS_loop (fun j tm H' => ∃ i : Nat, i + j = m ∧ tm 0 = .ptr c 0 0 ∧ tm 2 = .ptr H.length 0 0 ∧ tm 3 = .ptr K 0 0 ∧ tm 5 = .int i ∧ BrSt H H' c n K m) m (by rw [env_K]; omega) ⟨0, by simp, by simp, by simp, by simp, by simp, st0⟩ ?_
  rintro j tm H4 hj ⟨i, hij, t0, t2, t3, t5, st⟩ Q2 hn2 he2 hr2
  obtain ⟨l4, b4, fp4, k4, o4, hf4, hm4', hto4, bz4⟩ := st
  have d4 := blkAt_len k4
  have hL4 := o4.len
  have hT4 : l4.take l4.length = l4 := List.take_length
  rw [hL4] at hT4
  have hD4 : l4.drop 2 = [] := by rw [← hL4]; exact List.drop_length
  have hq : ∃ a4, l4 = [.i .i64 b4.id, .sl a4 m] := by
    obtain ⟨a4, rfl, -⟩ := o4
    exact ⟨a4, by simp [Bridge.enc, hm4']⟩
  obtain ⟨a4, hq4⟩ := hq
  have hd1 : List.take 1 l4.tail = [.sl a4 m] := by rw [hq4]; rfl
  simp [t0, t2, t3, t5, k4, d4, hL4, hd1, builtinV, pureB, lenV]
  have hw : IntKind.i64.wrap ((i : Int) + 1) = (i : Int) + 1 := wrap64 (by omega) (by omega)
  refine selS_intro (fun hc1 => ?_) (fun hc1 => ?_)
  · simp at hc1
    simp [t0]
    refine stpL_runs (l1Once hto4.2 4) ?_
    rintro _ H5 ⟨⟨b, rfl⟩, hto5⟩
    have st5 : BrSt H H5 c n K m := BrSt.next ⟨l4, b4, fp4, k4, o4, hf4, hm4', hto4, bz4⟩ hto5 hcl hKl
    cases b
    rotate_left
    · simp [t0, t2, t3, t5, hw]
      exact hn2 (j - 1) _ _ (by omega) ⟨i + 1, by omega, by simp [t0], by simp [t2], by simp [t3], by simp, st5⟩
    obtain ⟨l5, b5, fp5, k5, o5, hf5, hm5, hto5', bz5⟩ := st5
    have d5 := blkAt_len k5
    have hL5 := o5.len
    have hT5 : l5.take l5.length = l5 := List.take_length
    rw [hL5] at hT5
    have hD5 : l5.drop 2 = [] := by rw [← hL5]; exact List.drop_length
    have ha := act H5 l5 b5 fp5 ⟨3, i, ⟨0, 0, 0, 0⟩, 0, true⟩ k5 o5 hf5 hm5 hto5' bz5 hL5
    simp only [In.enc] at ha
    simp [t0, t2, t3, t5, k5, d5, hL5, hT5]
    refine stpL_runs ha ?_
    rintro _ _ ⟨l6, q6, G6, rfl, hL6, hT6, rfl, st6⟩
    have k6 := blkAt_app k5 G6
    have d6 : K < H5.length + G6.length := by omega
    simp [t3, k6, d6, hL5, hD5, hL6, hT6, t5, hw]
    exact hn2 (j - 1) _ _ (by omega) ⟨i + 1, by omega, by simp [t0], by simp [t2], by simp [t3], by simp, st6⟩
  · simp at hc1
    simp
    refine he2 _ _ _ ?_
    have stA : BrSt H H4 c n K m := ⟨l4, b4, fp4, k4, o4, hf4, hm4', hto4, bz4⟩
    simp [t0, t2, t3]
    refine wpS_loop (fun j tm H' => ∃ i : Nat, i + j = 9 ∧ tm 0 = .ptr c 0 0 ∧ tm 2 = .ptr H.length 0 0 ∧ tm 3 = .ptr K 0 0 ∧ tm 6 = .int i ∧ BrSt H H' c n K m) 9 (by rw [env_K]; omega) ⟨0, by simp, by simp [t0], by simp [t2], by simp [t3], by simp, stA⟩ ?_
    clear hn2 he2 hr2
    rintro j tm H4 hj ⟨i, hij, t0, t2, t3, t6, st⟩ Q2 hn2 he2 hr2
    simp [t0, t6]
    refine stpL_runs (l1Below (by obtain ⟨_, _, _, _, _, _, _, hh, _⟩ := st; exact hh.2) 10) ?_
    rintro _ H5 ⟨⟨w, rfl, hw0, hw1, -⟩, hto5⟩
    have hw9 := hw1 (by omega)
    have st5 := st.next hto5 hcl hKl
    obtain ⟨l5, b5, fp5, k5, o5, hf5, hm5, hto5', bz5⟩ := st5
    have d5 := blkAt_len k5
    have hL5 := o5.len
    have hT5 : l5.take l5.length = l5 := List.take_length
    rw [hL5] at hT5
    simp [t0, t6]
    refine selS_intro (fun hc2 => ?_) (fun hc2 => ?_)
    · simp at hc2
      have hwi : IntKind.i64.wrap ((i : Int) + 1) = (i : Int) + 1 := wrap64 (by omega) (by omega)
      simp [t0, t3, k5, d5, hL5, hT5]
      refine stpL_cur (l8DrawIn hto5'.2) hto5'.2 (fun v H' h => h.2) ?_
      rintro _ H6 ⟨⟨x6, rfl⟩, hto6⟩
      have st6 : BrSt H H6 c n K m := BrSt.next ⟨l5, b5, fp5, k5, o5, hf5, hm5, hto5', bz5⟩ hto6 hcl hKl
      have k6 := hto6.1.blk k5 (by simp; omega)
      have o6 := o5.keep hto6.1 (fun k hk hk2 => by have := hf5 k hk; simp at hk2; omega)
      have bz6 := hto6.1.blk bz5 (by simp; omega)
      have d6 := blkAt_len k6
      have hD5 : l5.drop 2 = [] := by rw [← hL5]; exact List.drop_length
      simp
      refine stpL_runs_f (act H6 l5 b5 fp5 x6 k6 o6 hf5 hm5 (hto5'.next hto6) bz6 hL5) (by rintro _ _ ⟨_, _, G, _, _, _, rfl, _⟩; exact ⟨G, rfl⟩) ?_
      rintro _ _ ⟨l7, q7, G7, rfl, hL7, hT7, rfl, st7⟩
      have k7 := blkAt_app k6 G7
      have d7 : K < H6.length + G7.length := by omega
      simp [t3, k7, d7, hL5, hD5, hL7, hT7, t6, hwi]
      exact hn2 (j - 1) _ _ (by omega) ⟨i + 1, by omega, by simp [t0], by simp [t2], by simp [t3], by simp, st7⟩
    · simp at hc2
      simp
      refine he2 _ _ _ ?_
      have dz5 := blkAt_len bz5
      simp [t2, t3, k5, d5, hL5, hT5, bz5, dz5]
      refine ret _ _ (by simp [t2]) ⟨l5, b5, fp5, blkAt_set dz5, o5.keep (Keep.set _ _) (fun k hk hk2 => by have := hf5 k hk; simp at hk2; omega), fun k hk => by have := hf5 k hk; omega, hm5, hto5'.set (by omega) (by omega) _⟩

theorem l8Draw {H : Heap} {c n : Nat} (hc : Cur H c n) : Runs env 93 [.ptr c 0 0] H fun v H' => (∃ (l : List Lf) (b : Bridge) (fp : List Nat), v = .agg l ∧ IsBridge H' l b fp ∧ 1 ≤ b.ports.length ∧ b.ports.length ≤ 6 ∧ ∀ i ∈ fp, H.length ≤ i) ∧ CurTo H H' c n := by
  have hcl := hc.lt
  refine Runs.walk ok93 Try.func93 rfl (by simp [Try.f93]) fun Q hQ => ?_
  simp only [Try.f93, strip, stripL, stripI, stripG, chkT, tagsB, tagsL, tagD, addT, tagA, lookN, tagOp, elmT, ty22, ty24, ty25, ty33, ty54, ty58, ty95, ty122, Nat.reduceEqDiff, if_false, reduceIte, Option.getD_some, Option.getD_none, dstAt, dstOk, Nat.reduceLT, decide_true, if_true]
  have hcX := hc.app [some ⟨56, .wr, [[.i .i64 0, .sl none 0]]⟩]
  have bzX : blkAt (H ++ [some ⟨56, .wr, [[.i .i64 0, .sl none 0]]⟩]) H.length = some ⟨56, .wr, [[.i .i64 0, .sl none 0]]⟩ := by simp
  have hlX : (H ++ [some ⟨56, .wr, [[.i .i64 0, .sl none 0]]⟩] : Heap).length = H.length + 1 := by simp
  have fin : ∀ (HF : Heap) (tm : Ab.T) (l : List Lf) (b : Bridge) (fp : List Nat), tm 2 = .ptr H.length 0 0 → H.length < HF.length → IsBridge HF l b fp → (∀ k ∈ fp, H.length < k) → 1 ≤ b.ports.length → b.ports.length ≤ 6 → CurTo H HF c n → Q .ret tm (HF.set H.length (some ⟨56, .wr, [l]⟩)) := by
    intro HF tm l b fp t2 hlt h2 h3 h4 h4' h5
    have hL := h2.len
    have hT : l.take l.length = l := List.take_length
    rw [hL] at hT
    refine hQ _ _ _ (by simp) ?_
    have hb : blkAt (HF.set H.length (some ⟨56, .wr, [l]⟩)) H.length = some ⟨56, .wr, [l]⟩ := blkAt_set hlt
    have hres : resT env.τ tm (HF.set H.length (some ⟨56, .wr, [l]⟩)) (Try.f93.results.toList) = some [W.agg l] := by simp [Try.f93, t2, hb, hL, hT]
    rw [hres, optK_some]
    refine ⟨?_, (h5.set (Nat.le_refl _) hcl _).leave hc _⟩
    have h2' := h2.keep (Keep.set (id := H.length) HF (some ⟨56, .wr, [l]⟩)) (fun k hk hk2 => by have := h3 k hk; simp at hk2; omega)
    rcases leave_opt H (HF.set H.length (some ⟨56, .wr, [l]⟩)) [W.agg l] with e | ⟨e, hr⟩ <;> rw [e]
    · exact ⟨l, b, fp, rfl, h2', h4, h4', fun k hk => by have := h3 k hk; omega⟩
    · exact ⟨l, b, [], rfl, h2'.free (by simpa using hr) H, h4, h4', by simp⟩
  simp
  refine stpL_runs (l8DrawRight hcX) ?_
  rintro _ H1 ⟨⟨l, b, fp, rfl, ob, hp1, hp4, hfp⟩, hto1⟩
  have bz1 := hto1.1.blk bzX (by simp; omega)
  have hcc1 := hto1.base
  have hl1 := hto1.len
  rw [hlX] at hl1
  rw [hlX] at hfp
  have hlt := ob.lt
  have hL := ob.len
  have hT : l.take l.length = l := List.take_length
  rw [hL] at hT
  have hD : l.drop 2 = [] := by rw [← hL]; exact List.drop_length
  obtain ⟨a, rfl, ow⟩ := ob
  simp [Bridge.enc]
  have hcM := hto1.2.app [some ⟨56, .wr, [[.i .i64 b.id, .sl a b.ports.length]]⟩]
  refine stpL_runs (l1Below hcM 8) ?_
  rintro _ H2 ⟨⟨k, rfl, -⟩, hto2⟩
  have b3 : blkAt H2 H1.length = some ⟨56, .wr, [[.i .i64 b.id, .sl a b.ports.length]]⟩ := hto2.1.blk (by simp) (by simp; omega)
  have bz2 := hto2.1.blk (blkAt_app bz1 _) (by simp; omega)
  have ow2 : Own H2 87 a (b.ports.map Port.enc) fp := (ow.app _).keep hto2.1 (fun k hk hk2 => by have := hfp k hk; simp at hk2; omega)
  have d3 := blkAt_len b3
  have dz2 := blkAt_len bz2
  have hcc2 := hcc1.next hto2.base
  have hne3 : ∀ (Y : Heap) (y : Option Blk), blkAt (List.set Y H1.length y) H.length = blkAt Y H.length := fun Y y => blkAt_set_ne (by omega)
  have hne4 : ∀ (Y : Heap) (y : Blk), H1.length < Y.length → blkAt (List.set Y H1.length (some y)) H1.length = some y := fun Y y h => blkAt_set h
  have hfl : ∀ k ∈ fp, H.length < k ∧ k < H1.length := fun k hk => by have := hfp k hk; have := hlt k hk; omega
  by_cases c0 : k = 0
  · simp [c0]
    have hcL := hto2.2.app [some ⟨3, .wr, [encI 0, encI 9, encI 10]⟩]
    simp only [encI] at hcL
    refine stpL_runs (l1PickInt (xs := [0, 9, 10]) hcL (Sl.of (by simp [encI])) (by simp) (by simp)) ?_
    rintro _ H3 ⟨⟨y, rfl, -⟩, hto3⟩
    have hto3 := hto3.base
    have b33 := hto3.1.blk b3 (by simp; omega)
    have bz3 := hto3.1.blk bz2 (by simp; omega)
    have d33 := blkAt_len b33
    have dz3 := blkAt_len bz3
    have ow3 := ow2.keep hto3.1 (fun k hk hk2 => by have := hfl k hk; simp at hk2; omega)
    have hcc3 := hcc2.next hto3
    simp [b33, d33, bz3, dz3, hne3, hne4]
    refine fin _ _ _ ⟨y, b.ports⟩ fp ?_ (by simpa using dz3) ⟨a, rfl, ow3.keep (Keep.set _ _) (fun k hk hk2 => by have := hfl k hk; simp at hk2; omega)⟩ (fun k hk => (hfl k hk).1) hp1 (by simp only; omega) (hcc3.set (by omega) (by omega) _)
    simp
  by_cases c1 : k = 1
  · simp [c1, b3, d3]
    refine stpL_cur (l7Draw hto2.2) hto2.2 (fun v H' h => h.2) ?_
    rintro _ H3 ⟨⟨y, rfl⟩, hto3⟩
    have b33 := hto3.1.blk b3 (by simp; omega)
    have bz3 := hto3.1.blk bz2 (by simp; omega)
    have d33 := blkAt_len b33
    have dz3 := blkAt_len bz3
    have ow3 := ow2.keep hto3.1 (fun k hk hk2 => by have := hfl k hk; simp at hk2; omega)
    have hcc3 := hcc2.next hto3
    obtain ⟨id, bl, rfl, rfl, hb, hbe, hbm, hpre⟩ := ow3.blk (by intro h; have := congrArg List.length h; simp at this; rw [this] at hp1; simp at hp1)
    have hidl := blkAt_len hb
    have hidf := hfl id (by simp)
    obtain ⟨tl, htl⟩ := hpre
    have hrow : bl.rows[0]? = some b.ports[0].enc := by rw [← htl, List.getElem?_append_left (by simp; omega), List.getElem?_map, List.getElem?_eq_getElem (by omega)]; rfl
    have hrl : 0 < bl.rows.length := (List.getElem?_eq_some_iff.1 hrow).1
    have hpI : (0 : Int) < b.ports.length := by omega
    have hp0 : 0 < b.ports.length := by omega
    have hsI : ∀ (y : Option Blk), blkAt (List.set H3 id y) H1.length = blkAt H3 H1.length := fun y => blkAt_set_ne (by omega)
    have hsH : ∀ (y : Option Blk), blkAt (List.set H3 id y) H.length = blkAt H3 H.length := fun y => blkAt_set_ne (by omega)
    simp [indexAddrV, elemIs, hb, hidl, hbe, hbm, hpI, hp0, hrow]
    simp only [Port.enc] at hrow
    simp [hrow, hbm, hsI, hsH, b33, d33, bz3, dz3, Port.enc]
    have os := ow3.set (row := y.enc) hb (i := 0) (by simp; omega)
    rw [hbe, hbm] at os
    refine fin _ _ _ ⟨b.id, b.ports.set 0 y⟩ [id] ?_ (by simpa using dz3) ⟨some (id, 0), by simp [Bridge.enc], by rw [List.map_set]; exact os⟩ (fun k hk => by simp at hk; omega) (by simpa using hp1) (by simp; omega) (hcc3.set (by omega) (by omega) _)
    simp
  by_cases c2 : k = 2
  · simp [c2, b3, d3]
    refine stpL_append (e := 87) (rows := b.ports.map Port.enc) (ys := [Port.z, Port.z]) (ow2.app _) (Sl.of (by simp [Port.z])) rfl rfl rfl (by simp) (by simp; omega) (by simp) rfl fun a'' H'' fp'' ho'' hk'' hf'' => ?_
    have k1 := hk''.base
    have b33 := k1.blk b3 (fun h => by have := hfl _ h; omega)
    have bz3 := k1.blk bz2 (fun h => by have := hfl _ h; omega)
    have d33 := blkAt_len b33
    have dz3 := blkAt_len bz3
    have hcc3 := hcc2.own k1 (fun i hi => by have := hfl i hi; omega) hcl
    have hf9 : ∀ k ∈ fp'', H.length < k ∧ k ≠ H1.length := fun k hk => by
      rcases hf'' k hk with h | h
      · have := hfl k h; omega
      · simp at h; omega
    simp [b33, d33, bz3, dz3, hne3, hne4]
    refine fin _ _ _ ⟨b.id, b.ports ++ [Port.zv, Port.zv]⟩ fp'' ?_ (by simpa using dz3) ⟨a'', by simp [Bridge.enc], by rw [List.map_append]; exact ho''.keep (Keep.set _ _) (fun k hk hk2 => by have := hf9 k hk; simp at hk2; omega)⟩ (fun k hk => (hf9 k hk).1) (by simp) (by simp; omega) (hcc3.set (by omega) (by omega) _)
    simp
  · simp [c0, c1, c2, b3, d3, bz2, dz2]
    refine fin _ _ _ b fp ?_ dz2 ⟨a, rfl, ow2⟩ (fun k hk => (hfl k hk).1) hp1 (by omega) hcc2
    simp

theorem l10DrawIds {H : Heap} {c n : Nat} (hc : Cur H c n) : Runs env 54 [.ptr c 0 0] H fun v H' => (∃ (q : Lf) (xs : List Int) (fp : List Nat), v = .w (.lf q) ∧ IsIntS H' q xs fp ∧ xs.Nodup ∧ (∀ x ∈ xs, 1 ≤ x ∧ x ≤ 9) ∧ 1 ≤ xs.length ∧ xs.length ≤ 4 ∧ ∀ i ∈ fp, H.length ≤ i) ∧ CurTo H H' c n := by
  have hcl := hc.lt
  refine Runs.walk ok54 Try.func54 rfl (by simp [Try.f54]) fun Q hQ => ?_
  simp only [Try.f54, strip, stripL, stripI, stripG, chkT, tagsB, tagsL, tagD, addT, tagA, lookN, tagOp, elmT, ty22, ty24, ty25, ty33, ty54, ty58, ty95, ty122, Nat.reduceEqDiff, if_false, reduceIte, Option.getD_some, Option.getD_none, dstAt, dstOk, Nat.reduceLT, decide_true, if_true]
  obtain ⟨Y, hY⟩ : ∃ Y : Heap, Y = H ++ [some ⟨3, .wr, []⟩] := ⟨_, rfl⟩
  have bD : blkAt Y H.length = some ⟨3, .wr, []⟩ := by rw [hY]; simp
  have hcY : CurTo H Y c n := by rw [hY]; exact (CurTo.refl hc).app _
  have oD : Own Y 3 (some (H.length, 0)) [] [H.length] := Own.of bD
  simp
  rw [← hY]
  clear hY
  refine wpS_loop (fun j tm A => ∃ (i : Nat) (aa : Option (Nat × Nat)) (ds : List Int) (fd : List Nat), i + j = 4 ∧ ds.length ≤ i ∧ (0 < i → 1 ≤ ds.length) ∧ ds.Nodup ∧ (∀ x ∈ ds, 1 ≤ x ∧ x ≤ 9) ∧ tm 0 = .ptr c 0 0 ∧ tm 3 = .w (.lf (.sl aa ds.length)) ∧ tm 4 = .int i ∧ CurTo H A c n ∧ Own A 3 aa (ds.map encI) fd ∧ ∀ k ∈ fd, H.length ≤ k) 4 (by rw [env_K]; omega) ⟨0, some (H.length, 0), [], [H.length], by simp, by simp, by simp, by simp, by simp, by simp, by simp, by simp, hcY, oD, by simp⟩ ?_
  rintro j tm A hj ⟨i, aa, ds, fd, hij, hdl, hd1, hdn, hdr, t0, t3, t4, hcA, oq, hfd⟩ Q2 hn2 he2 hr2
  simp [t0, t4]
  refine stpL_runs (l1Below hcA.2 4) ?_
  rintro _ B ⟨⟨u, rfl, hu0, hu1, -⟩, htoB⟩
  have hu := hu1 (by omega)
  have hcB := hcA.next htoB
  have hne : ∀ (m : Nat), H.length ≤ m → m ∉ [c] := fun m hm h => by simp at h; omega
  have oqB := oq.keep htoB.1 (fun k hk => hne k (hfd k hk))
  have w0 : IntKind.i64.wrap (1 + u) = 1 + u := wrap64 (by omega) (by omega)
  have hw : IntKind.i64.wrap ((i : Int) + 1) = (i : Int) + 1 := wrap64 (by omega) (by omega)
  simp [t0, t3, t4, w0]
  refine selS_intro (fun hc2 => ?_) (fun hc2 => ?_)
  · simp at hc2
    simp [t0, t3, t4]
    refine stpL_runs (l1Below htoB.2 9) ?_
    rintro _ D ⟨⟨d, rfl, hdd0, hdd1, -⟩, htoD⟩
    have hdd := hdd1 (by omega)
    have hcD := hcB.next htoD
    have oqD := oqB.keep htoD.1 (fun k hk => hne k (hfd k hk))
    have hlD := hcD.len
    have w2 : IntKind.i64.wrap (1 + d) = 1 + d := wrap64 (by omega) (by omega)
    have e4 := l4Has oqD.sl (by omega) (1 + d)
    simp [t0, t3, t4, w2, e4]
    by_cases hm : (1 + d) ∈ ds
    · have h1 : 1 ≤ ds.length := by cases ds with
        | nil => simp at hm
        | cons y ys => simp
      simp [hm, t0, t3, t4, hw]
      refine hn2 (j - 1) _ _ (by omega) ⟨i + 1, aa, ds, fd, by omega, by omega, fun _ => h1, hdn, hdr, by simp [t0], by simp [t3], by simp, hcD, oqD, hfd⟩
    · simp [hm, t3]
      refine stpL_append (e := 3) (rows := ds.map encI) (ys := [encI (1 + d)]) (oqD.app _) (Sl.of (by simp [encI])) rfl rfl rfl (by simp) (by simp; omega) (by simp) rfl fun a2 E fc hoE hkE hfE => ?_
      have kE : Keep fd D E := hkE.base
      simp [t0, t4, hw]
      refine hn2 (j - 1) _ _ (by omega) ⟨i + 1, a2, ds ++ [1 + d], fc, by omega, by simp; omega, by simp, ?_, ?_, by simp [t0], by simp, by simp, ?_, by simpa using hoE, ?_⟩
      · rw [List.nodup_append]; refine ⟨hdn, by simp, ?_⟩
        intro y hy z hz he
        simp at hz
        subst hz
        subst he
        exact hm hy
      · intro y hy
        rcases List.mem_append.1 hy with h | h
        · exact hdr y h
        · simp at h; omega
      · exact hcD.own kE (fun k hk => hfd k hk) hcl
      · intro k hk
        rcases hfE k hk with h | h
        · exact hfd k h
        · simp at h; omega
  · simp at hc2
    simp
    refine he2 _ _ _ ?_
    simp [t3]
    refine hQ _ _ _ (by simp) ?_
    simp [Try.f54]
    refine ⟨?_, hcB.leave hc _⟩
    have hd2 := hd1 (by omega)
    rcases leave_opt H B [W.lf (.sl aa ds.length)] with e | ⟨e, hr⟩ <;> rw [e]
    · exact ⟨ds, ⟨fd, ⟨aa, rfl, oqB⟩, hdn, hdr, hd2, by omega, hfd⟩⟩
    · exact ⟨ds, ⟨[], (IsSl.free ⟨aa, rfl, oqB⟩ (by simpa [W.free] using hr) H), hdn, hdr, hd2, by omega, by simp⟩⟩

/-- The port k of a bridge. -/
def pt (b : Bridge) (k : Nat) : Port := b.ports.getD k default
theorem pt_eq {b : Bridge} {k : Nat} (h : k < b.ports.length) : pt b k = b.ports[k] := by simp [pt, List.getD, List.getElem?_eq_getElem h]
theorem pt_at {b : Bridge} {k : Nat} (h : k < b.ports.length) : b.ports[k]? = some (pt b k) := by rw [pt_eq h, List.getElem?_eq_getElem h]
theorem pt_ok {b : Bridge} (hb : b.ok = true) {k : Nat} (h : k < b.ports.length) : (pt b k).ok = true := by rw [pt_eq h]; exact Bridge.ok_at hb h
theorem better_iff (a b : Vec) : better a b = true ↔ (a.root < b.root ∨ (a.root = b.root ∧ (a.cost < b.cost ∨ (a.cost = b.cost ∧ (a.bridge < b.bridge ∨ (a.bridge = b.bridge ∧ a.port < b.port)))))) := by
  unfold better
  split
  · simp; omega
  · split
    · simp; omega
    · split
      · simp; omega
      · simp; omega
theorem better_no (a b : Vec) : better a b = false ↔ ¬ (a.root < b.root ∨ (a.root = b.root ∧ (a.cost < b.cost ∨ (a.cost = b.cost ∧ (a.bridge < b.bridge ∨ (a.bridge = b.bridge ∧ a.port < b.port)))))) := by
  rw [← better_iff]; simp
theorem rootUpto_best (b : Bridge) : ∀ i, i ≤ b.ports.length → ∀ k, k < i → rootSkip b (pt b k) = false → 0 ≤ rootUpto b i ∧ better (pt b k).vec (pt b (rootUpto b i).toNat).vec = false
  | 0, _, k, hk, _ => by omega
  | i + 1, hi, k, hk, hs => by
    have ih := rootUpto_best b i (by omega) k
    have hlt := rootUpto_lt b i
    rw [rootUpto, pt_at (by omega)]
    simp only
    unfold rootStep
    have hg : (b.ports.getD (rootUpto b i).toNat default) = pt b (rootUpto b i).toNat := rfl
    rw [hg]
    split
    · rename_i h1
      rcases Nat.lt_or_ge k i with h | h
      · exact ih h hs
      · obtain rfl : k = i := by omega
        rw [h1] at hs; simp at hs
    · split
      · rename_i h1 h2
        refine ⟨by omega, ?_⟩
        simp only [Int.toNat_natCast]
        rcases Nat.lt_or_ge k i with h | h
        · obtain ⟨h3, h4⟩ := ih h hs
          simp only [Bool.or_eq_true, decide_eq_true_eq, better_iff] at h2
          rw [better_no] at h4 ⊢
          omega
        · obtain rfl : k = i := by omega
          rw [better_no]; omega
      · rename_i h1 h2
        simp only [Bool.or_eq_true, decide_eq_true_eq, not_or] at h2
        rcases Nat.lt_or_ge k i with h | h
        · exact ih h hs
        · obtain rfl : k = i := by omega
          exact ⟨by omega, by simpa using h2.2⟩
theorem rootAt_of (b : Bridge) {k : Nat} (hk : k < b.ports.length) (hs : rootSkip b (pt b k) = false) : 0 ≤ rootAt b ∧ better (pt b k).vec (pt b (rootAt b).toNat).vec = false := rootUpto_best b _ (Nat.le_refl _) k hk hs
theorem rootAt_is {b : Bridge} (h : 0 ≤ rootAt b) : ∃ r : Nat, rootAt b = r ∧ r < b.ports.length ∧ rootSkip b (pt b r) = false := by
  have h1 := (rootUpto_lt b b.ports.length).2
  have h2 := rootUpto_skip b b.ports.length h
  refine ⟨(rootAt b).toNat, by omega, by unfold rootAt at h ⊢; omega, h2⟩
theorem ownV_pos {b : Bridge} {r : Nat} (h : rootAt b = r) (p : Int) : ownV b p = ⟨(pt b r).vec.root, (pt b r).vec.cost + 1, b.id, p⟩ := by
  unfold ownV; rw [if_neg (by omega), h]; rfl
theorem ownV_neg {b : Bridge} (h : rootAt b < 0) (p : Int) : ownV b p = ⟨b.id, 0, b.id, p⟩ := by
  unfold ownV; rw [if_pos h]
theorem hopsB_pos {b : Bridge} {r : Nat} (h : rootAt b = r) : hopsB b = (pt b r).hops + 1 := by
  unfold hopsB; rw [if_neg (by omega), h]; rfl
theorem hopsB_neg {b : Bridge} (h : rootAt b < 0) : hopsB b = 0 := by
  unfold hopsB; rw [if_pos h]
theorem skip_no {b : Bridge} {p : Port} : rootSkip b p = false ↔ p.has = true ∧ p.vec.bridge ≠ b.id ∧ p.vec.root < b.id ∧ p.vec.cost < 20 ∧ p.hops < 8 := by
  simp [rootSkip, and_assoc]
/-- Each port that is up has the role that a decision gives it. -/
def Decd (b : Bridge) : Prop := ∀ k, k < b.ports.length → (pt b k).up = true → (pt b k).role = roleB b k (pt b k)
theorem roleB_in (b : Bridge) (i : Nat) (p : Port) : roleB b i p = 1 ∨ roleB b i p = 2 ∨ roleB b i p = 3 := by
  unfold roleB; split
  · exact .inl rfl
  · split
    · exact .inr (.inr rfl)
    · exact .inr (.inl rfl)
theorem decideB_len (b : Bridge) : (decideB b).ports.length = b.ports.length := by simp [decideB]
theorem decideB_pt {b : Bridge} {k : Nat} (h : k < b.ports.length) : pt (decideB b) k = decP b k (pt b k) := by
  rw [pt_eq (by rw [decideB_len]; exact h), pt_eq h]; simp [decideB]
theorem decP_info (b : Bridge) (k : Nat) (p : Port) : (decP b k p).up = p.up ∧ (decP b k p).has = p.has ∧ (decP b k p).vec = p.vec ∧ (decP b k p).hops = p.hops ∧ (decP b k p).left = p.left := by
  unfold decP; split
  · exact turnP_rest _ _
  · simp
theorem decP_does {b : Bridge} {k : Nat} {p : Port} (hp : p.ok = true) (hu : p.up = true) : (decP b k p).role = roleB b k p ∧ (decP b k p).wait = turnW p (roleB b k p) := by
  unfold decP turnP
  rw [if_pos hu]
  have := roleB_in b k p
  rw [if_neg (by simp [hp, hu]; omega)]
  exact ⟨rfl, rfl⟩
theorem roleB_key {b c : Bridge} {p q : Port} (hi : b.id = c.id) (h : b.ports.map keyP = c.ports.map keyP) (hp : keyP p = keyP q) (k : Nat) : roleB b k p = roleB c k q := by
  simp only [keyP, Prod.mk.injEq] at hp
  unfold roleB
  rw [rootAt_key hi h, ownV_key hi h, hp.1, hp.2.1]
theorem decideB_decd {b : Bridge} (hb : b.ok = true) : Decd (decideB b) := by
  intro k hk hu
  rw [decideB_len] at hk
  rw [decideB_pt hk] at hu ⊢
  rw [(decP_info b k _).1] at hu
  rw [(decP_does (pt_ok hb hk) hu).1]
  exact roleB_key (b := b) (c := decideB b) rfl (decideB_key b).symm (decP_key b k _).symm k
theorem tickB_len (b : Bridge) : (tickB b).ports.length = b.ports.length := by simp [tickB]
theorem tickB_pt {b : Bridge} {k : Nat} (h : k < b.ports.length) : pt (tickB b) k = tickP (pt b k) := by
  rw [pt_eq (by rw [tickB_len]; exact h), pt_eq h]; simp [tickB]
/-- What a claim comes to at a port. -/
def hearB (b : Bridge) (q : Nat) (v : Vec) (h : Int) : Bridge := ⟨b.id, b.ports.set q (claimP (pt b q) v h)⟩
theorem hearB_len (b : Bridge) (q : Nat) (v : Vec) (h : Int) : (hearB b q v h).ports.length = b.ports.length := by simp [hearB]
theorem hearB_ok {b : Bridge} (hb : b.ok = true) {q : Nat} (hq : q < b.ports.length) (v : Vec) (h : Int) : (hearB b q v h).ok = true := set_ok hb (claimP_ok _ _ (pt_ok hb hq))
theorem hearB_pt {b : Bridge} {q k : Nat} (hk : k < b.ports.length) (v : Vec) (h : Int) : pt (hearB b q v h) k = if k = q then claimP (pt b q) v h else pt b k := by
  rw [pt_eq (by rw [hearB_len]; exact hk)]
  simp only [hearB, List.getElem_set]
  split
  · rename_i e; rw [if_pos e.symm]
  · rename_i e; rw [if_neg (fun h => e h.symm), pt_eq hk]
def tickD (b : Bridge) : Bridge := decideB (tickB b)
def hearD (b : Bridge) (q : Nat) (v : Vec) (h : Int) : Bridge := decideB (hearB b q v h)
theorem tickD_len (b : Bridge) : (tickD b).ports.length = b.ports.length := by rw [tickD, decideB_len, tickB_len]
theorem hearD_len (b : Bridge) (q : Nat) (v : Vec) (h : Int) : (hearD b q v h).ports.length = b.ports.length := by rw [hearD, decideB_len, hearB_len]
theorem tickD_ok {b : Bridge} (h : b.ok = true) : (tickD b).ok = true := decideB_ok (tickB_ok h)
theorem hearD_ok {b : Bridge} (hb : b.ok = true) {q : Nat} (hq : q < b.ports.length) (v : Vec) (h : Int) : (hearD b q v h).ok = true := decideB_ok (hearB_ok hb hq v h)
theorem tickD_decd {b : Bridge} (h : b.ok = true) : Decd (tickD b) := decideB_decd (tickB_ok h)
theorem hearD_decd {b : Bridge} (hb : b.ok = true) {q : Nat} (hq : q < b.ports.length) (v : Vec) (h : Int) : Decd (hearD b q v h) := decideB_decd (hearB_ok hb hq v h)
/-- What is heard at a port. -/
structure SameInfo (p q : Port) : Prop where
  has : q.has = p.has
  vec : q.vec = p.vec
  hops : q.hops = p.hops
  left : q.left = p.left
theorem decP_same (b : Bridge) (k : Nat) (p : Port) : SameInfo p (decP b k p) := ⟨(decP_info b k p).2.1, (decP_info b k p).2.2.1, (decP_info b k p).2.2.2.1, (decP_info b k p).2.2.2.2⟩
theorem tickD_pt {b : Bridge} {k : Nat} (hk : k < b.ports.length) : pt (tickD b) k = decP (tickB b) k (tickP (pt b k)) := by
  unfold tickD; rw [decideB_pt (by rw [tickB_len]; exact hk), tickB_pt hk]
theorem hearD_pt {b : Bridge} {q k : Nat} (hk : k < b.ports.length) (v : Vec) (h : Int) : pt (hearD b q v h) k = decP (hearB b q v h) k (if k = q then claimP (pt b q) v h else pt b k) := by
  unfold hearD; rw [decideB_pt (by rw [hearB_len]; exact hk), hearB_pt hk]
theorem Port.ok_has {p : Port} (h : p.ok = true) (hh : p.has = true) : p.up = true ∧ p.vec.ok = true ∧ 0 ≤ p.hops ∧ p.hops ≤ 8 ∧ 1 ≤ p.left ∧ p.left ≤ 3 := by
  simp [Port.ok, hh] at h
  simp_all
theorem Port.ok_none {p : Port} (h : p.ok = true) (hh : p.has = false) : p.vec = ⟨0, 0, 0, 0⟩ ∧ p.hops = 0 ∧ p.left = 0 := by
  simp [Port.ok, hh] at h
  simp_all
theorem Port.ok_rest {p : Port} (h : p.ok = true) : 0 ≤ p.role ∧ p.role ≤ 3 ∧ (p.role = 0 ↔ p.up = false) ∧ 0 ≤ p.wait ∧ p.wait ≤ 4 ∧ p.opn = openBy p.role p.wait := by
  simp [Port.ok] at h
  cases hu : p.up <;> simp_all
theorem tickP_none {p : Port} (hp : p.ok = true) (hh : (tickP p).has = true) : p.has = true ∧ (tickP p).vec = p.vec ∧ (tickP p).hops = p.hops ∧ (tickP p).left = p.left - 1 := by
  simp only [tickP] at hh ⊢
  unfold fadeP at hh ⊢
  cases h : p.has
  · simp [h] at hh
  · simp only [h, hp, Bool.and_self, Bool.true_eq_false, if_false] at hh ⊢
    split at hh
    · simp at hh
    · rename_i h1; simp [h1]
theorem tickP_keep {p : Port} (hp : p.ok = true) (hh : p.has = true) (hl : 2 ≤ p.left) : (tickP p).has = true ∧ (tickP p).vec = p.vec ∧ (tickP p).hops = p.hops ∧ (tickP p).left = p.left - 1 := by
  have : (tickP p).has = true := by
    simp only [tickP]; unfold fadeP
    rw [if_neg (by simp [hp, hh]), if_neg (by omega)]; exact hh
  exact ⟨this, (tickP_none hp this).2⟩
theorem tickP_up (p : Port) : (tickP p).up = p.up := (fadeP_rest p).1
theorem tickP_role (p : Port) : (tickP p).role = p.role := (fadeP_rest p).2.1
theorem tickP_wait (p : Port) : (tickP p).wait = if (p.role = 1 ∨ p.role = 2) ∧ 0 < p.wait then p.wait - 1 else p.wait := by
  have h := fadeP_rest p
  simp only [tickP, tickW, h.2.1, h.2.2.1]
  simp
theorem claimP_cases (p : Port) (v : Vec) (h : Int) : claimP p v h = p ∨ claimP p v h = ⟨p.up, true, v, h, 3, p.role, p.wait, p.opn⟩ := by
  unfold claimP; split
  · exact .inl rfl
  · split
    · exact .inl rfl
    · exact .inr rfl
theorem claimP_takes {p : Port} {v : Vec} {h : Int} (hp : p.ok = true) (hu : p.up = true) (hv : v.ok = true) (h0 : 0 ≤ h) (h8 : h ≤ 8) (hs : p.has = true → v.bridge = p.vec.bridge ∧ v.port = p.vec.port) : claimP p v h = ⟨p.up, true, v, h, 3, p.role, p.wait, p.opn⟩ := by
  unfold claimP
  rw [if_neg (by simp [hp, hu, hv, hopsOk, h0, h8]), if_neg]
  cases hh : p.has
  · simp
  · have := hs hh
    simp [this]

def inf (n : Net) (i k : Nat) : Port := pt (bAt n i) k
abbrev nB (n : Net) : Nat := n.bridges.length
abbrev nP (n : Net) (i : Nat) : Nat := (bAt n i).ports.length
abbrev idB (n : Net) (i : Nat) : Int := (bAt n i).id
/-- The other end of a port's link. -/
def peer (n : Net) (i k : Nat) : Option (Nat × Nat) := (otherL n.links i k).map fun e => (e.1.toNat, e.2.toNat)
def tickN (n : Net) (i : Nat) : Net := setBr n i (tickD (bAt n i))
def hearN (n : Net) (j q : Nat) (v : Vec) (h : Int) : Net := setBr n j (hearD (bAt n j) q v h)
def send1 (i : Nat) (c : Bridge) (m : Net) (k : Nat) : Net := if (pt c k).role = 2 then (match peer m i k with
  | some e => hearN m e.1 e.2 (ownV c k) (hopsB c)
  | none => m) else m
def sendU (i : Nat) (c : Bridge) (m : Net) : Nat → Net
  | 0 => m
  | k + 1 => send1 i c (sendU i c m k) k
theorem fold_none (i : Nat) : ∀ (os : List Out) (m : Net), (∀ o ∈ os, o.kind ≠ 1) → os.foldl (sendTo i) m = m
  | [], m, _ => rfl
  | o :: os, m, h => by
    rw [List.foldl_cons]
    have : sendTo i m o = m := by unfold sendTo; rw [if_neg (h o (by simp))]
    rw [this]
    exact fold_none i os m fun o ho => h o (by simp [ho])
theorem gateAt_kind (b c : Bridge) : ∀ k, ∀ o ∈ upto (gateAt b c) k, o.kind ≠ 1 := fun k o ho => by
  have := upto_all (f := gateAt b c) (p := fun o => o.kind = 2) (fun i o ho => by
    unfold gateAt at ho
    split at ho
    · split at ho
      · simp at ho
      · simp at ho; rw [ho]
    · simp at ho) _ _ ho
  omega
theorem peer_at {n : Net} (hw : NetW n) {i k j q : Nat} (h : peer n i k = some (j, q)) : otherL n.links i k = some ((j : Int), (q : Int)) ∧ j < nB n ∧ q < nP n j := by
  unfold peer at h
  cases he : otherL n.links i k with
  | none => simp [he] at h
  | some e =>
    simp [he] at h
    obtain ⟨h1, h2, h3, h4⟩ := otherL_at hw he
    obtain ⟨e1, e2⟩ := e
    obtain ⟨rfl, rfl⟩ := h
    simp only at h1 h2 h3 h4 ⊢
    refine ⟨by rw [Int.toNat_of_nonneg h1, Int.toNat_of_nonneg h3], h2, h4⟩
theorem hearN_w {n : Net} (hw : NetW n) {j q : Nat} (hj : j < nB n) (hq : q < nP n j) (v : Vec) (h : Int) : NetW (hearN n j q v h) := hw.set hj (hearD_ok (bAt_ok hw hj) hq v h) (hearD_len _ _ _ _)
theorem send1_w {n : Net} (hw : NetW n) (i : Nat) (c : Bridge) (k : Nat) : NetW (send1 i c n k) := by
  unfold send1
  split
  · split
    · rename_i e he
      obtain ⟨e1, e2⟩ := e
      obtain ⟨-, h2, h3⟩ := peer_at hw he
      exact hearN_w hw h2 h3 _ _
    · exact hw
  · exact hw
theorem sendU_w {n : Net} (hw : NetW n) (i : Nat) (c : Bridge) : ∀ k, NetW (sendU i c n k)
  | 0 => hw
  | k + 1 => send1_w (sendU_w hw i c k) i c k
theorem sendTo_eq {m : Net} (hw : NetW m) (i : Nat) {c : Bridge} (hc : c.ok = true) (k : Nat) (hk : k < c.ports.length) : (claimAt c k).foldl (sendTo i) m = send1 i c m k := by
  unfold claimAt send1
  rw [pt_at hk]
  simp only
  by_cases hr : (pt c k).role = 2
  · rw [if_pos hr, if_pos hr]
    simp only [List.foldl_cons, List.foldl_nil]
    unfold sendTo
    rw [if_pos rfl]
    simp only
    have hp : peer m i k = (otherL m.links i k).map fun e => (e.1.toNat, e.2.toNat) := rfl
    cases he : otherL m.links i k with
    | none => rw [hp, he]; rfl
    | some e =>
      rw [hp, he]
      simp only [Option.map_some]
      obtain ⟨h1, h2, h3, h4⟩ := otherL_at hw he
      have hb := bAt_ok hw h2
      have hl := (Bridge.ok_all hb).2.2.2.2
      obtain ⟨g1, g2, g3⟩ := claim_ok hc hk
      have hx : (claimIn e.2 ⟨1, k, ownV c k, hopsB c, false⟩).ok = true := by
        have g4 : (claimIn e.2 ⟨1, k, ownV c k, hopsB c, false⟩).vec.ok = true := g1
        simp [In.ok, g4]
        simp [claimIn]
        omega
      rw [reactB_yes hb hx (by simp [claimIn]; omega)]
      rfl
  · rw [if_neg hr, if_neg hr]; rfl
theorem foldU_eq {m : Net} (hw : NetW m) (i : Nat) {c : Bridge} (hc : c.ok = true) : ∀ k, k ≤ c.ports.length → (upto (claimAt c) k).foldl (sendTo i) m = sendU i c m k
  | 0, _ => rfl
  | k + 1, h => by
    rw [upto, List.foldl_append, foldU_eq hw i hc k (by omega), sendU]
    exact sendTo_eq (sendU_w hw i c k) i hc k (by omega)
theorem roundAt_eq {n : Net} (hw : NetW n) {i : Nat} (hi : i < nB n) : roundAt n i = sendU i (tickD (bAt n i)) (tickN n i) (nP n i) := by
  have hb := bAt_ok hw hi
  have hl := (Bridge.ok_all hb).2.2.2
  have hnx : nextB (bAt n i) tickIn = tickD (bAt n i) := by
    unfold nextB
    rw [if_neg (by simp [quiet, tickIn])]
    unfold inB
    rw [if_neg (by simp [tickIn]), if_pos (show tickIn.kind = 2 from rfl)]
    rfl
  unfold roundAt
  rw [reactB_yes hb tickIn_ok (by show (0 : Int) < _; omega), hnx]
  simp only
  unfold outsB
  rw [if_pos (show tickIn.kind = 2 from rfl), List.foldl_append, fold_none i _ _ (gateAt_kind _ _ _)]
  exact foldU_eq (hw.set hi (tickD_ok hb) (tickD_len _)) i (tickD_ok hb) _ (by rw [tickD_len]; exact Nat.le_refl _)

theorem bAt_set {n : Net} {i : Nat} (hi : i < nB n) (b : Bridge) (j : Nat) : bAt (setBr n i b) j = if j = i then b else bAt n j := by
  unfold bAt setBr
  simp only [List.getD_eq_getElem?_getD]
  split
  · rename_i e; subst e; simp [hi]
  · rename_i e; rw [List.getElem?_set_ne (fun h => e h.symm)]
theorem mem_endsOf (ls : List Link) (x : Int × Int) : x ∈ endsOf ls ↔ ∃ l ∈ ls, x = (l.a, l.p) ∨ x = (l.b, l.q) := by
  simp [endsOf, List.mem_flatMap]
theorem otherL_some_mem {a p : Int} {e : Int × Int} : ∀ {ls : List Link}, otherL ls a p = some e → ∃ l ∈ ls, (l.a = a ∧ l.p = p ∧ e = (l.b, l.q)) ∨ (l.b = a ∧ l.q = p ∧ e = (l.a, l.p))
  | [], h => by simp [otherL] at h
  | l :: ls, h => by
    rw [otherL] at h
    split at h
    · rename_i h1; injection h with h; exact ⟨l, by simp, .inl ⟨h1.1, h1.2, h.symm⟩⟩
    · split at h
      · rename_i h1; injection h with h; exact ⟨l, by simp, .inr ⟨h1.1, h1.2, h.symm⟩⟩
      · obtain ⟨l', h1, h2⟩ := otherL_some_mem h
        exact ⟨l', by simp [h1], h2⟩
theorem endsOf_cons (l : Link) (ls : List Link) : endsOf (l :: ls) = (l.a, l.p) :: (l.b, l.q) :: endsOf ls := by simp [endsOf]
theorem otherL_of : ∀ {ls : List Link}, (endsOf ls).Nodup → ∀ l ∈ ls, otherL ls l.a l.p = some (l.b, l.q) ∧ otherL ls l.b l.q = some (l.a, l.p)
  | [], _, l, h => by simp at h
  | l0 :: ls, hn, l, h => by
    rw [endsOf_cons] at hn
    simp only [List.nodup_cons, List.mem_cons, not_or] at hn
    obtain ⟨⟨h1, h2⟩, h3, h4⟩ := hn
    simp only [List.mem_cons] at h
    rcases h with rfl | h
    · constructor
      · rw [otherL, if_pos ⟨rfl, rfl⟩]
      · rw [otherL, if_neg (fun hh => h1 (Prod.ext hh.1 hh.2)), if_pos ⟨rfl, rfl⟩]
    · obtain ⟨g1, g2⟩ := otherL_of h4 l h
      have m1 : (l.a, l.p) ∈ endsOf ls := (mem_endsOf _ _).2 ⟨l, h, .inl rfl⟩
      have m2 : (l.b, l.q) ∈ endsOf ls := (mem_endsOf _ _).2 ⟨l, h, .inr rfl⟩
      constructor
      · rw [otherL, if_neg (fun hh => h2 (by rw [show (l0.a, l0.p) = (l.a, l.p) from Prod.ext hh.1 hh.2]; exact m1)), if_neg (fun hh => h3 (by rw [show (l0.b, l0.q) = (l.a, l.p) from Prod.ext hh.1 hh.2]; exact m1))]
        exact g1
      · rw [otherL, if_neg (fun hh => h2 (by rw [show (l0.a, l0.p) = (l.b, l.q) from Prod.ext hh.1 hh.2]; exact m2)), if_neg (fun hh => h3 (by rw [show (l0.b, l0.q) = (l.b, l.q) from Prod.ext hh.1 hh.2]; exact m2))]
        exact g2
/-- A net is right, said by places. -/
theorem P_iff (n : Net) : n.P ↔ (1 ≤ nB n ∧ nB n ≤ 5) ∧ n.links.length ≤ 6 ∧ (∀ i, i < nB n → (bAt n i).ok = true) ∧ (∀ i j, i < j → j < nB n → idB n i ≠ idB n j) ∧
    (∀ l ∈ n.links, l.a ≠ l.b ∧ (0 ≤ l.a ∧ l.a.toNat < nB n ∧ 0 ≤ l.p ∧ l.p.toNat < nP n l.a.toNat) ∧ (0 ≤ l.b ∧ l.b.toNat < nB n ∧ 0 ≤ l.q ∧ l.q.toNat < nP n l.b.toNat)) ∧ (endsOf n.links).Nodup ∧
    ∀ i k, i < nB n → k < nP n i → ((inf n i k).up = true ↔ ((i : Int), (k : Int)) ∈ endsOf n.links) := by
  have hbs : ∀ {i : Nat} {b : Bridge}, n.bridges[i]? = some b ↔ i < nB n ∧ bAt n i = b := by
    intro i b
    constructor
    · intro h
      have h1 := (List.getElem?_eq_some_iff.1 h)
      exact ⟨h1.1, by rw [bAt_eq h1.1]; exact h1.2⟩
    · rintro ⟨h1, rfl⟩
      rw [bAt_eq h1]; exact List.getElem?_eq_getElem h1
  have hend : ∀ a p, isEndP n a p ↔ (0 ≤ a ∧ a.toNat < nB n ∧ 0 ≤ p ∧ p.toNat < nP n a.toNat) := by
    intro a p
    constructor
    · rintro ⟨i, k, b, rfl, rfl, h1, h2⟩
      obtain ⟨h3, rfl⟩ := hbs.1 h1
      exact ⟨by omega, by simpa using h3, by omega, by simpa using h2⟩
    · rintro ⟨h1, h2, h3, h4⟩
      exact ⟨a.toNat, p.toNat, bAt n a.toNat, by omega, by omega, hbs.2 ⟨h2, rfl⟩, h4⟩
  unfold Net.P
  constructor
  · rintro ⟨h1, h2, h3, h4, h5, h6, h7⟩
    refine ⟨h1, h2, fun i hi => ?_, fun i j hij hj => h4 i j _ _ hij (hbs.2 ⟨by omega, rfl⟩) (hbs.2 ⟨hj, rfl⟩), fun l hl => ?_, h6, fun i k hi hk => h7 i k _ _ (hbs.2 ⟨hi, rfl⟩) (pt_at hk)⟩
    · rw [bAt_eq hi]; exact h3 _ (List.getElem_mem hi)
    · have := h5 l hl
      rw [hend, hend] at this
      exact this
  · rintro ⟨h1, h2, h3, h4, h5, h6, h7⟩
    refine ⟨h1, h2, fun b hb => ?_, fun i j b c hij hb hc => ?_, fun l hl => ?_, h6, fun i k b p hb hp => ?_⟩
    · obtain ⟨i, hi, rfl⟩ := List.getElem_of_mem hb
      rw [← bAt_eq hi]; exact h3 i hi
    · obtain ⟨g1, rfl⟩ := hbs.1 hb
      obtain ⟨g2, rfl⟩ := hbs.1 hc
      exact h4 i j hij g2
    · rw [hend, hend]; exact h5 l hl
    · obtain ⟨g1, rfl⟩ := hbs.1 hb
      have g2 := (List.getElem?_eq_some_iff.1 hp)
      have := h7 i k g1 g2.1
      rw [show inf n i k = p from by unfold inf; rw [pt_eq g2.1]; exact g2.2] at this
      exact this
theorem P.ok {n : Net} (h : n.P) {i : Nat} (hi : i < nB n) : (bAt n i).ok = true := ((P_iff n).1 h).2.2.1 i hi
theorem P.inf_ok {n : Net} (h : n.P) {i k : Nat} (hi : i < nB n) (hk : k < nP n i) : (inf n i k).ok = true := pt_ok (P.ok h hi) hk
theorem P.id_ne {n : Net} (h : n.P) {i j : Nat} (hi : i < nB n) (hj : j < nB n) (hne : i ≠ j) : idB n i ≠ idB n j := by
  rcases Nat.lt_or_ge i j with hl | hl
  · exact ((P_iff n).1 h).2.2.2.1 i j hl hj
  · exact fun e => ((P_iff n).1 h).2.2.2.1 j i (by omega) hi e.symm
theorem peer_iff {n : Net} (h : n.P) (i k j q : Nat) : peer n i k = some (j, q) ↔ ((⟨i, k, j, q⟩ : Link) ∈ n.links ∨ (⟨j, q, i, k⟩ : Link) ∈ n.links) := by
  obtain ⟨-, -, -, -, h5, h6, -⟩ := (P_iff n).1 h
  constructor
  · intro hp
    obtain ⟨h1, -, -⟩ := peer_at (NetW.of h) hp
    obtain ⟨l, hl, hc⟩ := otherL_some_mem h1
    rcases hc with ⟨e1, e2, e3⟩ | ⟨e1, e2, e3⟩
    · injection e3 with e3 e4
      left
      have : l = ⟨i, k, j, q⟩ := by obtain ⟨a, p, b, q⟩ := l; simp at *; simp [*]
      rw [← this]; exact hl
    · injection e3 with e3 e4
      right
      have : l = ⟨j, q, i, k⟩ := by obtain ⟨a, p, b, q⟩ := l; simp at *; simp [*]
      rw [← this]; exact hl
  · rintro (hl | hl)
    · have := (otherL_of h6 _ hl).1
      simp only at this
      simp [peer, this]
    · have := (otherL_of h6 _ hl).2
      simp only at this
      simp [peer, this]
/-- What is known of the two ends of a link. -/
structure Ends (n : Net) (i k j q : Nat) : Prop where
  hi : i < nB n
  hk : k < nP n i
  hj : j < nB n
  hq : q < nP n j
  ne : i ≠ j
  id : idB n i ≠ idB n j
  back : peer n j q = some (i, k)
  up : (inf n i k).up = true
  upj : (inf n j q).up = true
theorem peer_ends {n : Net} (h : n.P) {i k j q : Nat} (hp : peer n i k = some (j, q)) : Ends n i k j q := by
  have hi := (peer_iff h i k j q).1 hp
  obtain ⟨-, -, -, -, h5, h6, h7⟩ := (P_iff n).1 h
  have key : i ≠ j ∧ (i < nB n ∧ k < nP n i) ∧ (j < nB n ∧ q < nP n j) ∧ ((i : Int), (k : Int)) ∈ endsOf n.links ∧ ((j : Int), (q : Int)) ∈ endsOf n.links := by
    rcases hi with hl | hl
    · have := h5 _ hl
      simp at this
      exact ⟨by omega, this.2.1, this.2.2, (mem_endsOf _ _).2 ⟨_, hl, .inl rfl⟩, (mem_endsOf _ _).2 ⟨_, hl, .inr rfl⟩⟩
    · have := h5 _ hl
      simp at this
      exact ⟨by omega, this.2.2, this.2.1, (mem_endsOf _ _).2 ⟨_, hl, .inr rfl⟩, (mem_endsOf _ _).2 ⟨_, hl, .inl rfl⟩⟩
  obtain ⟨k1, ⟨k2, k3⟩, ⟨k4, k5⟩, k6, k7⟩ := key
  exact ⟨k2, k3, k4, k5, k1, P.id_ne h k2 k4 k1, (peer_iff h j q i k).2 hi.symm, (h7 i k k2 k3).2 k6, (h7 j q k4 k5).2 k7⟩
theorem peer_up {n : Net} (h : n.P) {i k : Nat} (hi : i < nB n) (hk : k < nP n i) (hu : (inf n i k).up = true) : ∃ j q, peer n i k = some (j, q) := by
  obtain ⟨-, -, -, -, h5, h6, h7⟩ := (P_iff n).1 h
  obtain ⟨l, hl, hc⟩ := (mem_endsOf _ _).1 ((h7 i k hi hk).1 hu)
  have := h5 l hl
  rcases hc with hc | hc
  · injection hc with e1 e2
    refine ⟨l.b.toNat, l.q.toNat, (peer_iff h _ _ _ _).2 (.inl ?_)⟩
    have e : l = ⟨i, k, l.b.toNat, l.q.toNat⟩ := by obtain ⟨a, p, b, q⟩ := l; simp at *; omega
    rw [← e]; exact hl
  · injection hc with e1 e2
    refine ⟨l.a.toNat, l.p.toNat, (peer_iff h _ _ _ _).2 (.inr ?_)⟩
    have e : l = ⟨l.a.toNat, l.p.toNat, i, k⟩ := by obtain ⟨a, p, b, q⟩ := l; simp at *; omega
    rw [← e]; exact hl
/-- A net that has come of another: the same bridges, ports and links. -/
structure Fit (n m : Net) : Prop where
  p : m.P
  links : m.links = n.links
  len : nB m = nB n
  id : ∀ i, idB m i = idB n i
  plen : ∀ i, nP m i = nP n i
  down : ∀ i k, i < nB n → k < nP n i → (inf n i k).up = false → inf m i k = inf n i k
theorem Fit.refl {n : Net} (h : n.P) : Fit n n := ⟨h, rfl, rfl, fun _ => rfl, fun _ => rfl, fun _ _ _ _ _ => rfl⟩
theorem Fit.peer {n m : Net} (h : Fit n m) (i k : Nat) : peer m i k = W.peer n i k := by unfold W.peer; rw [h.links]
theorem inf_set {n : Net} {i : Nat} (hi : i < nB n) (b : Bridge) (j k : Nat) : inf (setBr n i b) j k = if j = i then pt b k else inf n j k := by
  unfold inf; rw [bAt_set hi]; split <;> rfl
theorem Fit.up {n m : Net} (hn : n.P) (h : Fit n m) {i k : Nat} (hi : i < nB n) (hk : k < nP n i) : (inf m i k).up = (inf n i k).up := by
  rw [Bool.eq_iff_iff, ((P_iff m).1 h.p).2.2.2.2.2.2 i k (by rw [h.len]; exact hi) (by rw [h.plen]; exact hk), ((P_iff n).1 hn).2.2.2.2.2.2 i k hi hk, h.links]
theorem Fit.set {n m : Net} (h : Fit n m) {i : Nat} (hi : i < nB n) {b : Bridge} (hb : b.ok = true) (hid : b.id = idB m i) (hl : b.ports.length = nP m i) (hu : ∀ k, k < nP m i → (pt b k).up = (inf m i k).up)
    (hd : ∀ k, k < nP m i → (inf m i k).up = false → pt b k = inf m i k) : Fit n (setBr m i b) := by
  have him : i < nB m := by rw [h.len]; exact hi
  have hlen : nB (setBr m i b) = nB m := by simp [nB, setBr]
  have hids : ∀ j, idB (setBr m i b) j = idB m j := by
    intro j; unfold idB; rw [bAt_set him]; split
    · rename_i e; subst e; exact hid
    · rfl
  have hps : ∀ j, nP (setBr m i b) j = nP m j := by
    intro j; unfold nP; rw [bAt_set him]; split
    · rename_i e; subst e; exact hl
    · rfl
  obtain ⟨h1, h2, h3, h4, h5, h6, h7⟩ := (P_iff m).1 h.p
  refine ⟨(P_iff _).2 ⟨by rw [hlen]; exact h1, h2, fun j hj => ?_, fun j k hjk hk => ?_, fun l hl => ?_, h6, fun j k hj hk => ?_⟩, h.links, by rw [hlen, h.len], fun j => by rw [hids, h.id], fun j => by rw [hps, h.plen], fun j k hj hk hu' => ?_⟩
  · rw [bAt_set him]; split
    · exact hb
    · rw [hlen] at hj; exact h3 j hj
  · rw [hids, hids]; rw [hlen] at hk; exact h4 j k hjk hk
  · rw [hlen, hps, hps]; exact h5 l hl
  · rw [hlen] at hj; rw [hps] at hk
    show _ ↔ _ ∈ endsOf m.links
    rw [← h7 j k hj hk, inf_set him]
    split
    · rename_i e; subst e; rw [hu k hk]
    · exact Iff.rfl
  · rw [inf_set him]
    have hd0 := h.down j k hj hk hu'
    split
    · rename_i e; subst e
      rw [hd k (by rw [h.plen]; exact hk) (by rw [hd0]; exact hu'), hd0]
    · exact hd0
theorem tickP_down {p : Port} (hp : p.ok = true) (hu : p.up = false) : tickP p = p := by
  obtain ⟨a1, a2, ⟨b1, b2, b3, b4⟩, a4, a5, a6, a7, a8⟩ := p
  cases a2
  · simp [Port.ok] at hp
    simp at hu
    subst hu
    simp [tickP, fadeP, tickW]
    simp_all [openBy]
  · simp [Port.ok, show a1 = false from hu] at hp
theorem decP_down (b : Bridge) (k : Nat) {p : Port} (hu : p.up = false) : decP b k p = p := by unfold decP; rw [if_neg (by simp [hu])]
theorem Fit.tick {n m : Net} (h : Fit n m) {i : Nat} (hi : i < nB n) : Fit n (tickN m i) := by
  have hb := P.ok h.p (i := i) (by rw [h.len]; exact hi)
  refine h.set hi (tickD_ok hb) rfl (tickD_len _) (fun k hk => ?_) (fun k hk hu => ?_)
  · rw [tickD_pt hk, (decP_info _ _ _).1, tickP_up]; rfl
  · rw [tickD_pt hk]
    have hu2 : (pt (bAt m i) k).up = false := hu
    rw [tickP_down (pt_ok hb hk) hu2, decP_down _ _ hu2]; rfl
theorem claimP_down {p : Port} (hu : p.up = false) (v : Vec) (h : Int) : claimP p v h = p := by unfold claimP; rw [if_pos (by simp [hu])]
theorem Fit.hear {n m : Net} (h : Fit n m) {j q : Nat} (hj : j < nB n) (hq : q < nP n j) (v : Vec) (ho : Int) : Fit n (hearN m j q v ho) := by
  have hb := P.ok h.p (i := j) (by rw [h.len]; exact hj)
  have hq' : q < (bAt m j).ports.length := by have := h.plen j; unfold nP at this hq; omega
  refine h.set hj (hearD_ok hb hq' v ho) rfl (hearD_len _ _ _ _) (fun k hk => ?_) (fun k hk hu => ?_)
  · rw [hearD_pt hk, (decP_info _ _ _).1]
    split
    · rename_i e; subst e; rw [claimP_up]; rfl
    · rfl
  · rw [hearD_pt hk]
    have hu2 : (pt (bAt m j) k).up = false := hu
    split
    · rename_i e; subst e
      rw [claimP_down hu2, decP_down _ _ hu2]; rfl
    · rw [decP_down _ _ hu2]; rfl

/-- A round, bridge by bridge and port by port. -/
theorem round_rule {n m0 : Net} (hf : Fit n m0) (I : Nat → Net → Prop) (J : Nat → Nat → Net → Prop) (h0 : I 0 m0)
    (hT : ∀ i m, i < nB n → Fit n m → I i m → J i 0 (tickN m i))
    (hS : ∀ i k m j q, i < nB n → k < nP n i → Fit n m → Decd (bAt m i) → J i k m → (inf m i k).role = 2 → peer n i k = some (j, q) → J i (k + 1) (hearN m j q (ownV (bAt m i) k) (hopsB (bAt m i))))
    (hN : ∀ i k m, i < nB n → k < nP n i → Fit n m → Decd (bAt m i) → J i k m → ((inf m i k).role ≠ 2 ∨ peer n i k = none) → J i (k + 1) m)
    (hE : ∀ i m, i < nB n → Fit n m → J i (nP n i) m → I (i + 1) m) (hn : n.P) : Fit n (roundN m0) ∧ I (nB n) (roundN m0) := by
  have inner : ∀ i m, i < nB n → Fit n m → I i m → ∀ k, k ≤ nP n i → Fit n (sendU i (tickD (bAt m i)) (tickN m i) k) ∧ J i k (sendU i (tickD (bAt m i)) (tickN m i) k) ∧ bAt (sendU i (tickD (bAt m i)) (tickN m i) k) i = tickD (bAt m i) := by
    intro i m hi hfm hI k
    have him : i < nB m := by rw [hfm.len]; exact hi
    induction k with
    | zero => exact fun _ => ⟨hfm.tick hi, hT i m hi hfm hI, by show bAt (setBr m i _) i = _; rw [bAt_set him, if_pos rfl]⟩
    | succ k ih =>
      intro hk
      obtain ⟨h1, h2, h3⟩ := ih (by omega)
      rw [sendU]
      generalize hm' : sendU i (tickD (bAt m i)) (tickN m i) k = m' at h1 h2 h3 ⊢
      have hb := P.ok hfm.p him
      have hd : Decd (bAt m' i) := by rw [h3]; exact tickD_decd hb
      have hpe := h1.peer i k
      unfold send1
      have hin : (pt (tickD (bAt m i)) k).role = (inf m' i k).role := by unfold inf; rw [h3]
      rw [hin, hpe]
      by_cases hr : (inf m' i k).role = 2
      · rw [if_pos hr]
        cases hp : peer n i k with
        | none => exact ⟨h1, hN i k m' hi (by omega) h1 hd h2 (.inr hp), h3⟩
        | some e =>
          obtain ⟨j, q⟩ := e
          have he := peer_ends hn hp
          have hjm : j < nB m' := by rw [h1.len]; exact he.hj
          have := hS i k m' j q hi (by omega) h1 hd h2 hr hp
          rw [h3] at this
          exact ⟨h1.hear he.hj he.hq _ _, this, by show bAt (setBr m' j _) i = _; rw [bAt_set hjm, if_neg he.ne]; exact h3⟩
      · rw [if_neg hr]
        exact ⟨h1, hN i k m' hi (by omega) h1 hd h2 (.inl hr), h3⟩
  have outer : ∀ i, i ≤ nB n → Fit n (roundU m0 i) ∧ I i (roundU m0 i) := by
    intro i
    induction i with
    | zero => exact fun _ => ⟨hf, h0⟩
    | succ i ih =>
      intro hi
      obtain ⟨h1, h2⟩ := ih (by omega)
      rw [roundU, roundAt_eq (NetW.of h1.p) (by rw [h1.len]; omega), h1.plen]
      obtain ⟨g1, g2, -⟩ := inner i _ (by omega) h1 h2 _ (Nat.le_refl _)
      exact ⟨g1, hE i _ (by omega) g1 g2⟩
  have := outer (nB n) (Nat.le_refl _)
  unfold roundN
  rw [show m0.bridges.length = nB n from hf.len]
  exact this
theorem inf_tick_ne {m : Net} {i j : Nat} (hi : i < nB m) (h : j ≠ i) (k : Nat) : inf (tickN m i) j k = inf m j k := by
  unfold tickN; rw [inf_set hi, if_neg h]
theorem inf_tick {m : Net} {i k : Nat} (hi : i < nB m) (hk : k < nP m i) : SameInfo (tickP (inf m i k)) (inf (tickN m i) i k) := by
  unfold tickN; rw [inf_set hi, if_pos rfl, tickD_pt hk]; exact decP_same _ _ _
theorem inf_hear_ne {m : Net} {j q j' k' : Nat} (hj : j < nB m) (hk : k' < nP m j') (h : ¬ (j' = j ∧ k' = q)) (v : Vec) (ho : Int) : SameInfo (inf m j' k') (inf (hearN m j q v ho) j' k') := by
  unfold hearN; rw [inf_set hj]
  split
  · rename_i e; subst e
    rw [hearD_pt hk, if_neg (fun e => h ⟨rfl, e⟩)]; exact decP_same _ _ _
  · exact ⟨rfl, rfl, rfl, rfl⟩
theorem inf_hear {m : Net} {j q : Nat} (hj : j < nB m) (hq : q < nP m j) (v : Vec) (ho : Int) : SameInfo (claimP (inf m j q) v ho) (inf (hearN m j q v ho) j q) := by
  unfold hearN; rw [inf_set hj, if_pos rfl, hearD_pt hq, if_pos rfl]; exact decP_same _ _ _

/-- A row of links from one bridge to another. -/
inductive Wk (n : Net) : Nat → Nat → Nat → Prop where
  | nil {i : Nat} : i < nB n → Wk n 0 i i
  | cons {i k j q d r : Nat} : peer n i k = some (j, q) → Wk n d j r → Wk n (d + 1) i r
/-- What is heard at a port has come of a bridge that is its own root. -/
def Gen (n : Net) (i k : Nat) (v : Vec) (h : Int) : Prop := ∃ j q r d : Nat, peer n i k = some (j, q) ∧ v = ⟨idB n r, d, idB n j, q⟩ ∧ h = d ∧ Wk n d j r
def GA (n : Net) (T : Nat → Int) (m : Net) : Prop := ∀ i k, i < nB n → k < nP n i → (inf m i k).has = true → Gen n i k (inf m i k).vec (inf m i k).hops ∨ T i + (inf m i k).left ≤ 3 + 2 * (inf m i k).hops
theorem GA.mono {n m : Net} {T T' : Nat → Int} (h : GA n T m) (ht : ∀ i, i < nB n → T' i ≤ T i) : GA n T' m := fun i k hi hk hh => by
  rcases h i k hi hk hh with h | h
  · exact .inl h
  · have := ht i hi; exact .inr (by omega)
theorem GA.tick {n m : Net} {T T' : Nat → Int} (hf : Fit n m) (h : GA n T m) {i : Nat} (hi : i < nB n) (h1 : T' i ≤ T i + 1) (h2 : ∀ j, j ≠ i → T' j ≤ T j) : GA n T' (tickN m i) := by
  intro j k hj hk hh
  have him : i < nB m := by rw [hf.len]; exact hi
  by_cases e : j = i
  · subst e
    have hkm : k < nP m j := by rw [hf.plen]; exact hk
    have hs := inf_tick him hkm
    have hpo := P.inf_ok hf.p him hkm
    rw [hs.has] at hh
    obtain ⟨g1, g2, g3, g4⟩ := tickP_none hpo hh
    rw [hs.vec, hs.hops, hs.left, g2, g3, g4]
    rcases h j k hj hk g1 with h | h
    · exact .inl h
    · exact .inr (by omega)
  · rw [inf_tick_ne him e] at hh ⊢
    rcases h j k hj hk hh with h | h
    · exact .inl h
    · have := h2 j e; exact .inr (by omega)
theorem msg_gen {n m : Net} (hn : n.P) (hf : Fit n m) {i k j q : Nat} (hp : peer n i k = some (j, q)) (h : ∀ r : Nat, rootAt (bAt m i) = r → Gen n i r (inf m i r).vec (inf m i r).hops) : Gen n j q (ownV (bAt m i) k) (hopsB (bAt m i)) := by
  have he := peer_ends hn hp
  by_cases hr : rootAt (bAt m i) < 0
  · rw [ownV_neg hr, hopsB_neg hr]
    refine ⟨i, k, i, 0, he.back, ?_, rfl, .nil he.hi⟩
    have : (bAt m i).id = idB n i := hf.id i
    rw [this]; rfl
  · obtain ⟨r, hr1, -, -⟩ := rootAt_is (b := bAt m i) (by omega)
    obtain ⟨j', q', r', d, h1, h2, h3, h4⟩ := h r hr1
    rw [ownV_pos hr1, hopsB_pos hr1]
    have h2' : (pt (bAt m i) r).vec = ⟨idB n r', d, idB n j', q'⟩ := h2
    have h3' : (pt (bAt m i) r).hops = d := h3
    refine ⟨i, k, r', d + 1, he.back, ?_, by rw [h3']; omega, .cons h1 h4⟩
    have : (bAt m i).id = idB n i := hf.id i
    rw [h2', this]; simp
theorem GA.hear {n m : Net} {T : Nat → Int} (hn : n.P) (hf : Fit n m) (h : GA n T m) {i k j q : Nat} (hp : peer n i k = some (j, q)) (hT : T j ≤ T i) : GA n T (hearN m j q (ownV (bAt m i) k) (hopsB (bAt m i))) := by
  have he := peer_ends hn hp
  have hjm : j < nB m := by rw [hf.len]; exact he.hj
  intro j' k' hj hk hh
  by_cases e : j' = j ∧ k' = q
  · obtain ⟨rfl, rfl⟩ := e
    have hs := inf_hear hjm (by rw [hf.plen]; exact hk) (ownV (bAt m i) k) (hopsB (bAt m i))
    rw [hs.has] at hh
    rw [hs.vec, hs.hops, hs.left]
    rcases claimP_cases (inf m j' k') (ownV (bAt m i) k) (hopsB (bAt m i)) with hc | hc
    · rw [hc] at hh ⊢; exact h j' k' hj hk hh
    · rw [hc]
      simp only
      by_cases hg : ∀ r : Nat, rootAt (bAt m i) = r → Gen n i r (inf m i r).vec (inf m i r).hops
      · exact .inl (msg_gen hn hf hp hg)
      · have ⟨r, hr⟩ := Classical.not_forall.1 hg
        have ⟨hr1, hr2⟩ := Classical.not_imp.1 hr
        have him : i < nB m := by rw [hf.len]; exact he.hi
        obtain ⟨r', e1, e2, e3⟩ := rootAt_is (b := bAt m i) (by omega)
        obtain rfl : r = r' := by omega
        have hok := P.inf_ok hf.p him e2
        have hsk := skip_no.1 e3
        have hh := Port.ok_has hok hsk.1
        rw [hopsB_pos hr1]
        rcases h i r he.hi (by rw [← hf.plen]; exact e2) hsk.1 with h | h
        · exact absurd h hr2
        · refine .inr ?_
          have h8 : (pt (bAt m i) r).hops = (inf m i r).hops := rfl
          omega
  · have hs := inf_hear_ne hjm (by rw [hf.plen]; exact hk) e (ownV (bAt m i) k) (hopsB (bAt m i))
    rw [hs.has] at hh
    rw [hs.vec, hs.hops, hs.left]
    exact h j' k' hj hk hh
def tkU (i : Nat) (t : Int) (x : Nat) : Int := if x < i then t + 1 else t
theorem GA.round {n m : Net} (hn : n.P) (hf : Fit n m) {t : Int} (h : GA n (fun _ => t) m) : Fit n (roundN m) ∧ GA n (fun _ => t + 1) (roundN m) := by
  have := round_rule hf (fun i m => GA n (tkU i t) m) (fun i k m => GA n (tkU (i + 1) t) m) (h.mono fun i _ => by simp [tkU])
    (fun i m hi hf h => h.tick hf hi (by simp [tkU]) (fun j hj => by unfold tkU; split <;> split <;> omega))
    (fun i k m j q hi hk hf _ h _ hp => h.hear hn hf hp (by unfold tkU; split <;> split <;> omega))
    (fun i k m hi hk hf _ h _ => h) (fun i m hi hf h => h) hn
  exact ⟨this.1, this.2.mono fun i hi => by unfold tkU; rw [if_pos hi]; omega⟩
/-- So many rounds. -/
def stN (n : Net) (t : Nat) : Net := Nat.repeat roundN t n
theorem stN_succ (n : Net) (t : Nat) : stN n (t + 1) = roundN (stN n t) := rfl
theorem tkU_in {x i : Nat} (h : x < i) (t : Int) : tkU i t x = t + 1 := by unfold tkU; rw [if_pos h]
theorem tkU_out {x i : Nat} (h : ¬ x < i) (t : Int) : tkU i t x = t := by unfold tkU; rw [if_neg h]
theorem stN_ga {n : Net} (hn : n.P) : ∀ t : Nat, Fit n (stN n t) ∧ GA n (fun _ => t) (stN n t)
  | 0 => ⟨Fit.refl hn, fun i k hi hk hh => .inr (by
      have := Port.ok_has (P.inf_ok hn hi hk) hh
      show ((0 : Nat) : Int) + _ ≤ _
      simp only [stN, Nat.repeat]; omega)⟩
  | t + 1 => by
    obtain ⟨h1, h2⟩ := stN_ga hn t
    have := GA.round hn h1 h2
    rw [stN_succ]
    exact ⟨this.1, this.2.mono fun i _ => by omega⟩
abbrev AllGen (n m : Net) : Prop := GA n (fun _ => 1000) m
theorem AllGen.at {n m : Net} (hf : Fit n m) (h : AllGen n m) {i k : Nat} (hi : i < nB n) (hk : k < nP n i) (hh : (inf m i k).has = true) : Gen n i k (inf m i k).vec (inf m i k).hops := by
  have := Port.ok_has (P.inf_ok hf.p (by rw [hf.len]; exact hi) (by rw [hf.plen]; exact hk)) hh
  rcases h i k hi hk hh with h | h
  · exact h
  · simp only at h; omega
theorem allGen_of {n m : Net} (hf : Fit n m) {t : Nat} (ht : 19 ≤ t) (h : GA n (fun _ => t) m) : AllGen n m := by
  intro i k hi hk hh
  have := Port.ok_has (P.inf_ok hf.p (by rw [hf.len]; exact hi) (by rw [hf.plen]; exact hk)) hh
  rcases h i k hi hk hh with h | h
  · exact .inl h
  · simp only at h; omega

/-- For each bridge: the least number among those that it is linked to, directly or not, and how far that one is. -/
structure Best (n : Net) (M : Nat → Int) (D : Nat → Nat) : Prop where
  ex : ∀ i, i < nB n → ∃ r, Wk n (D i) i r ∧ idB n r = M i
  le : ∀ i r d, Wk n d i r → M i < idB n r ∨ (M i = idB n r ∧ D i ≤ d)
theorem Wk.ends {n : Net} (hn : n.P) {d i r : Nat} (h : Wk n d i r) : i < nB n ∧ r < nB n := by
  induction h with
  | nil h => exact ⟨h, h⟩
  | cons h1 _ ih => exact ⟨(peer_ends hn h1).hi, ih.2⟩
theorem least {P : Nat → Prop} (h : ∃ x, P x) : ∃ x, P x ∧ ∀ y, P y → x ≤ y := by
  obtain ⟨x, hx⟩ := h
  induction x using Nat.strongRecOn with
  | _ x ih =>
    by_cases hy : ∃ y, y < x ∧ P y
    · obtain ⟨y, h1, h2⟩ := hy; exact ih y h1 h2
    · exact ⟨x, hx, fun y hp => Nat.not_lt.1 fun hl => hy ⟨y, hl, hp⟩⟩
theorem best_one {n : Net} (hn : n.P) (i : Nat) : ∃ (m : Int) (d : Nat), (i < nB n → ∃ r, Wk n d i r ∧ idB n r = m) ∧ (∀ r e, Wk n e i r → m < idB n r ∨ (m = idB n r ∧ d ≤ e)) := by
  by_cases hi : i < nB n
  · have h1 : ∃ x : Nat, ∃ r e, Wk n e i r ∧ (idB n r).toNat = x := ⟨_, i, 0, .nil hi, rfl⟩
    obtain ⟨x, ⟨r, e, h2, h3⟩, h4⟩ := least h1
    have h5 : ∃ d : Nat, ∃ r, Wk n d i r ∧ (idB n r).toNat = x := ⟨e, r, h2, h3⟩
    obtain ⟨d, ⟨r', h6, h7⟩, h8⟩ := least h5
    have pos : ∀ {r d}, Wk n d i r → 1 ≤ idB n r := fun hw => by
      have := (Bridge.ok_all (P.ok hn (Wk.ends hn hw).2)).2.1
      exact this
    refine ⟨idB n r', d, fun _ => ⟨r', h6, rfl⟩, fun r2 e2 h9 => ?_⟩
    have g1 := h4 _ ⟨r2, e2, h9, rfl⟩
    have g2 := pos h6
    have g3 := pos h9
    rcases Nat.lt_or_ge x (idB n r2).toNat with g | g
    · left; omega
    · right; exact ⟨by omega, h8 _ ⟨r2, h9, by omega⟩⟩
  · exact ⟨0, 0, fun h => absurd h hi, fun r e h => absurd (Wk.ends hn h).1 hi⟩
theorem best_ex {n : Net} (hn : n.P) : ∃ M D, Best n M D := by
  have h1 := fun i => best_one hn i
  refine ⟨fun i => Classical.choose (h1 i), fun i => Classical.choose (Classical.choose_spec (h1 i)), fun i hi => ?_, fun i r d h => ?_⟩
  · exact (Classical.choose_spec (Classical.choose_spec (h1 i))).1 hi
  · exact (Classical.choose_spec (Classical.choose_spec (h1 i))).2 r d h
theorem Best.nb {n : Net} {M D} (hn : n.P) (hb : Best n M D) {i k j q : Nat} (h : peer n i k = some (j, q)) : M i = M j ∧ D i ≤ D j + 1 ∧ D j ≤ D i + 1 := by
  have he := peer_ends hn h
  obtain ⟨r, h1, h2⟩ := hb.ex j he.hj
  obtain ⟨r', h3, h4⟩ := hb.ex i he.hi
  have g1 := hb.le _ _ _ (.cons h h1)
  have g2 := hb.le _ _ _ (.cons he.back h3)
  rw [h2] at g1
  rw [h4] at g2
  omega
theorem Best.zero {n : Net} {M D} (hn : n.P) (hb : Best n M D) {i : Nat} (hi : i < nB n) : D i = 0 ↔ M i = idB n i := by
  constructor
  · intro h
    obtain ⟨r, h1, h2⟩ := hb.ex i hi
    rw [h] at h1
    cases h1 with
    | nil _ => exact h2.symm
  · intro h
    have := hb.le _ _ _ (.nil hi)
    omega
theorem Best.pos {n : Net} {M D} (hn : n.P) (hb : Best n M D) {i : Nat} (hi : i < nB n) (h : D i ≠ 0) : M i < idB n i := by
  have := hb.le _ _ _ (.nil hi)
  omega
theorem Best.up {n : Net} {M D} (hn : n.P) (hb : Best n M D) {i d : Nat} (hi : i < nB n) (h : D i = d + 1) : ∃ k j q, peer n i k = some (j, q) ∧ D j = d := by
  obtain ⟨r, h1, h2⟩ := hb.ex i hi
  rw [h] at h1
  cases h1 with
  | cons h3 h4 =>
    rename_i k j q
    refine ⟨k, j, q, h3, ?_⟩
    have g1 := hb.nb hn h3
    have g2 := hb.le _ _ _ h4
    omega
theorem pigeon : ∀ (N : Nat) (f : Nat → Nat), (∀ e, e ≤ N → f e < N) → ∃ a b, a < b ∧ b ≤ N ∧ f a = f b
  | 0, f, h => absurd (h 0 (Nat.le_refl _)) (by omega)
  | N + 1, f, h => by
    by_cases hv : ∃ a, a ≤ N ∧ f a = f (N + 1)
    · obtain ⟨a, h1, h2⟩ := hv; exact ⟨a, N + 1, by omega, by omega, h2⟩
    · have hne : ∀ a, a ≤ N → f a ≠ f (N + 1) := fun a ha e => hv ⟨a, ha, e⟩
      have hl := h (N + 1) (Nat.le_refl _)
      obtain ⟨a, b, h1, h2, h3⟩ := pigeon N (fun e => if f e > f (N + 1) then f e - 1 else f e) (fun e he => by
        have := h e (by omega); have := hne e he
        split <;> omega)
      refine ⟨a, b, h1, by omega, ?_⟩
      have g1 := hne a (by omega)
      have g2 := hne b h2
      split at h3 <;> split at h3 <;> omega
theorem Best.small {n : Net} {M D} (hn : n.P) (hb : Best n M D) {i : Nat} (hi : i < nB n) : D i ≤ 4 := by
  have hN := ((P_iff n).1 hn).1
  have all : ∀ d i, i < nB n → D i = d → ∀ e, e ≤ d → ∃ x, x < nB n ∧ D x = e := by
    intro d
    induction d with
    | zero => intro i hi h e he; exact ⟨i, hi, by omega⟩
    | succ d ih =>
      intro i hi h e he
      by_cases e1 : e = d + 1
      · exact ⟨i, hi, by omega⟩
      · obtain ⟨k, j, q, h1, h2⟩ := hb.up hn hi h
        exact ih j (peer_ends hn h1).hj h2 e (by omega)
  refine Nat.not_lt.1 fun hl => ?_
  have h1 : ∀ e, ∃ x, e ≤ D i → x < nB n ∧ D x = e := fun e => by
    by_cases he : e ≤ D i
    · obtain ⟨x, hx⟩ := all _ i hi rfl e he; exact ⟨x, fun _ => hx⟩
    · exact ⟨0, fun h => absurd h he⟩
  obtain ⟨a, b, h2, h3, h4⟩ := pigeon (nB n) (fun e => Classical.choose (h1 e)) (fun e he => (Classical.choose_spec (h1 e) (by omega)).1)
  have g1 := (Classical.choose_spec (h1 a) (by omega)).2
  have g2 := (Classical.choose_spec (h1 b) (by omega)).2
  rw [h4] at g1
  omega
/-- Which of two linked bridges is the one that is listened to. -/
def leads (n : Net) (D : Nat → Nat) (i j : Nat) : Prop := D i < D j ∨ (D i = D j ∧ idB n i < idB n j)
theorem leads_or {n : Net} (hn : n.P) (D : Nat → Nat) {i k j q : Nat} (h : peer n i k = some (j, q)) : leads n D i j ∨ leads n D j i := by
  have := (peer_ends hn h).id
  unfold leads
  omega
theorem leads_not {n : Net} {D : Nat → Nat} {i j : Nat} (h : leads n D i j) : ¬ leads n D j i := by unfold leads at *; omega
/-- A port has heard what the bridge at the other end truly is. -/
def Fed (n : Net) (M : Nat → Int) (D : Nat → Nat) (m : Net) (i k c q : Nat) : Prop := (inf m i k).has = true ∧ (inf m i k).vec = ⟨M c, D c, idB n c, q⟩ ∧ (inf m i k).hops = D c
def RightB (n : Net) (M : Nat → Int) (D : Nat → Nat) (m : Net) (i : Nat) : Prop := (∀ p, ownV (bAt m i) p = ⟨M i, D i, idB n i, p⟩) ∧ hopsB (bAt m i) = D i ∧ ∀ r : Nat, rootAt (bAt m i) = r → (inf m i r).vec.cost + 1 = D i ∧ (inf m i r).vec.root = M i ∧ r < nP n i ∧ (inf m i r).has = true
theorem right_of {n m : Net} {M D} (hn : n.P) (hb : Best n M D) (hf : Fit n m) (hg : AllGen n m) {i : Nat} (hi : i < nB n) (h : D i = 0 ∨ ∃ k c q, peer n i k = some (c, q) ∧ D c + 1 = D i ∧ Fed n M D m i k c q) : RightB n M D m i := by
  have him : i < nB m := by rw [hf.len]; exact hi
  have hid : (bAt m i).id = idB n i := hf.id i
  rcases h with h | ⟨k, c, q, h1, h2, h3, h4, h5⟩
  · have hr : rootAt (bAt m i) < 0 := by
      refine Int.not_le.1 fun hr => ?_
      obtain ⟨r, e1, e2, e3⟩ := rootAt_is hr
      obtain ⟨s1, s2, s3, s4, s5⟩ := skip_no.1 e3
      obtain ⟨j', q', r', d, g1, g2, g3, g4⟩ := hg.at hf hi (by rw [← hf.plen]; exact e2) s1
      have g2' : (pt (bAt m i) r).vec = ⟨idB n r', d, idB n j', q'⟩ := g2
      rw [g2', hid] at s3
      simp only at s3
      have := hb.le _ _ _ (.cons g1 g4)
      have := (hb.zero hn hi).1 h
      omega
    refine ⟨fun p => ?_, ?_, fun r hr2 => by omega⟩
    · rw [ownV_neg hr, hid, (hb.zero hn hi).1 h, h]; rfl
    · rw [hopsB_neg hr, h]; rfl
  · have he := peer_ends hn h1
    have hnb := hb.nb hn h1
    have hsm := hb.small hn hi
    have hk : k < (bAt m i).ports.length := by have := hf.plen i; have := he.hk; unfold nP at *; omega
    have h3' : (pt (bAt m i) k).has = true := h3
    have h4' : (pt (bAt m i) k).vec = ⟨M c, D c, idB n c, q⟩ := h4
    have h5' : (pt (bAt m i) k).hops = D c := h5
    have hsk : rootSkip (bAt m i) (pt (bAt m i) k) = false := by
      rw [skip_no, h4', h5', hid]
      have := hb.pos hn hi (by omega)
      refine ⟨h3', ?_, ?_, ?_, ?_⟩
      · exact fun e => he.id e.symm
      · simp only; omega
      · simp only; omega
      · omega
    obtain ⟨r0, rb⟩ := rootAt_of _ hk hsk
    obtain ⟨r, e1, e2, e3⟩ := rootAt_is r0
    obtain ⟨s1, s2, s3, s4, s5⟩ := skip_no.1 e3
    have e2n : r < nP n i := by rw [← hf.plen]; exact e2
    obtain ⟨j', q', r', d, g1, g2, g3, g4⟩ := hg.at hf hi e2n s1
    have g2' : (pt (bAt m i) r).vec = ⟨idB n r', d, idB n j', q'⟩ := g2
    have g3' : (pt (bAt m i) r).hops = d := g3
    have hle := hb.le _ _ _ (.cons g1 g4)
    rw [e1] at rb
    rw [show (r : Int).toNat = r from rfl, h4', g2', better_no] at rb
    simp only at rb
    have k1 : M i = idB n r' := by omega
    have k2 : d + 1 = D i := by omega
    refine ⟨fun p => ?_, ?_, fun r2 hr2 => ?_⟩
    · rw [ownV_pos e1, g2', hid]
      simp only [Vec.mk.injEq, and_true]
      omega
    · rw [hopsB_pos e1, g3']; omega
    · obtain rfl : r2 = r := by omega
      rw [g2]
      simp only
      exact ⟨by omega, k1.symm, e2n, s1⟩
theorem des_of {n m : Net} {M D} (hn : n.P) (hb : Best n M D) (hf : Fit n m) (hg : AllGen n m) {i k j q : Nat} (hp : peer n i k = some (j, q)) (hr : RightB n M D m i) (hl : leads n D i j) : roleB (bAt m i) k (inf m i k) = 2 := by
  have he := peer_ends hn hp
  have hnb := hb.nb hn hp
  have gen : (inf m i k).has = true → ∃ r' d : Nat, (inf m i k).vec = ⟨idB n r', d, idB n j, q⟩ ∧ (M j < idB n r' ∨ (M j = idB n r' ∧ D j ≤ d)) := fun hh => by
    obtain ⟨j', q', r', d, g1, g2, g3, g4⟩ := hg.at hf he.hi he.hk hh
    rw [hp] at g1
    injection g1 with g1; injection g1 with g1 g1'
    subst g1 g1'
    exact ⟨r', d, g2, hb.le _ _ _ g4⟩
  have hid := he.id
  unfold leads at hl
  unfold roleB
  rw [if_neg, if_neg]
  · intro hh
    rw [Bool.and_eq_true] at hh
    obtain ⟨r', d, g1, g2⟩ := gen hh.1
    have := hh.2
    rw [hr.1, g1, better_iff] at this
    simp only at this
    omega
  · intro hh
    obtain ⟨c1, c2, -, c3⟩ := hr.2.2 k hh.symm
    obtain ⟨r', d, g1, g2⟩ := gen c3
    rw [g1] at c1 c2
    simp only at c1 c2
    omega
theorem hears_of {n m : Net} {M D} (hn : n.P) (hb : Best n M D) (hf : Fit n m) {i k j q : Nat} (hp : peer n i k = some (j, q)) (hr : RightB n M D m i) (hl : leads n D j i) (hfed : Fed n M D m i k j q) : roleB (bAt m i) k (inf m i k) = if (k : Int) = rootAt (bAt m i) then 1 else 3 := by
  have hnb := hb.nb hn hp
  have hid := (peer_ends hn hp).id
  obtain ⟨h1, h2, h3⟩ := hfed
  unfold leads at hl
  unfold roleB
  split
  · rfl
  · rw [if_pos]
    rw [Bool.and_eq_true]
    refine ⟨h1, ?_⟩
    rw [hr.1, h2, better_iff]
    simp only
    omega

/-- What ports have heard of the bridges that lead, up to a distance: tk: which bridges have ticked in this round; st: which ports have sent. -/
def FedS (n : Net) (M : Nat → Int) (D : Nat → Nat) (d : Nat) (tk : Nat → Prop) (st : Nat → Nat → Prop) (m : Net) : Prop := ∀ i k c q, peer n i k = some (c, q) → leads n D c i → D c ≤ d →
  (st c q → Fed n M D m i k c q ∧ (((c < i ∧ tk i) → (inf m i k).left = 2) ∧ (¬ (c < i ∧ tk i) → (inf m i k).left = 3))) ∧
  (¬ st c q → D c < d → Fed n M D m i k c q ∧ 1 ≤ (inf m i k).left ∧ (¬ tk i → 2 ≤ (inf m i k).left))
theorem FedS.right {n m : Net} {M D d tk st} (hn : n.P) (hb : Best n M D) (hf : Fit n m) (hg : AllGen n m) (h : FedS n M D d tk st m) {c : Nat} (hc : c < nB n) (hd : D c ≤ d) : RightB n M D m c := by
  refine right_of hn hb hf hg hc ?_
  by_cases h0 : D c = 0
  · exact .inl h0
  · obtain ⟨k, j, q, h1, h2⟩ := hb.up hn hc (d := D c - 1) (by omega)
    refine .inr ⟨k, j, q, h1, by omega, ?_⟩
    obtain ⟨g1, g2⟩ := h c k j q h1 (by unfold leads; omega) (by omega)
    by_cases hs : st j q
    · exact (g1 hs).1
    · exact (g2 hs (by omega)).1
theorem Fed.same {n m m' : Net} {M D} {i k c q : Nat} (hs : SameInfo (inf m i k) (inf m' i k)) (h : Fed n M D m i k c q) : Fed n M D m' i k c q := ⟨by rw [hs.has]; exact h.1, by rw [hs.vec]; exact h.2.1, by rw [hs.hops]; exact h.2.2⟩
theorem FedS.tick {n m : Net} {M D d} (hf : Fit n m) {x : Nat} (hx : x < nB n) (hn : n.P) (h : FedS n M D d (fun i => i < x) (fun c _ => c < x) m) : FedS n M D d (fun i => i < x + 1) (fun c q => c < x ∨ (c = x ∧ q < 0)) (tickN m x) := by
  intro i k c q hp hl hd
  have he := peer_ends hn hp
  have hxm : x < nB m := by rw [hf.len]; exact hx
  obtain ⟨g1, g2⟩ := h i k c q hp hl hd
  have hne := he.ne
  by_cases e : i = x
  · subst e
    have hkm : k < nP m i := by rw [hf.plen]; exact he.hk
    have hs := inf_tick hxm hkm
    have hpo := P.inf_ok hf.p hxm hkm
    have keep : Fed n M D m i k c q → 2 ≤ (inf m i k).left → Fed n M D (tickN m i) i k c q ∧ (inf (tickN m i) i k).left = (inf m i k).left - 1 := fun hfe hle => by
      obtain ⟨t1, t2, t3, t4⟩ := tickP_keep hpo hfe.1 hle
      refine ⟨⟨by rw [hs.has]; exact t1, by rw [hs.vec, t2]; exact hfe.2.1, by rw [hs.hops, t3]; exact hfe.2.2⟩, by rw [hs.left, t4]⟩
    refine ⟨fun hst => ?_, fun hst hd' => ?_⟩
    · obtain ⟨f1, f2, f3⟩ := g1 (by omega)
      have f3 := f3 (by omega)
      obtain ⟨k1, k2⟩ := keep f1 (by omega)
      exact ⟨k1, fun _ => by omega, fun hh => by omega⟩
    · obtain ⟨f1, f2, f3⟩ := g2 (by omega) hd'
      have f3 := f3 (by omega)
      obtain ⟨k1, k2⟩ := keep f1 f3
      exact ⟨k1, by omega, fun hh => by omega⟩
  · have hi := inf_tick_ne hxm e k
    have hsame : SameInfo (inf m i k) (inf (tickN m x) i k) := by rw [hi]; exact ⟨rfl, rfl, rfl, rfl⟩
    rw [hi]
    refine ⟨fun hst => ?_, fun hst hd' => ?_⟩
    · obtain ⟨f1, f2, f3⟩ := g1 (by omega)
      exact ⟨f1.same hsame, fun hh => f2 ⟨hh.1, by omega⟩, fun hh => f3 fun h2 => hh ⟨h2.1, by omega⟩⟩
    · obtain ⟨f1, f2, f3⟩ := g2 (by omega) hd'
      exact ⟨f1.same hsame, f2, fun hh => f3 (by omega)⟩
theorem FedS.skip {n m : Net} {M D d} {x y : Nat} (hn : n.P) (hb : Best n M D) (hf : Fit n m) (hg : AllGen n m) (hx : x < nB n) (hy : y < nP n x) (hdec : Decd (bAt m x)) (h : FedS n M D d (fun i => i < x + 1) (fun c q => c < x ∨ (c = x ∧ q < y)) m)
    (hno : (inf m x y).role ≠ 2 ∨ peer n x y = none) : FedS n M D d (fun i => i < x + 1) (fun c q => c < x ∨ (c = x ∧ q < y + 1)) m := by
  intro i k c q hp hl hd
  obtain ⟨g1, g2⟩ := h i k c q hp hl hd
  have he := peer_ends hn hp
  have hne : ¬ (c = x ∧ q = y) := by
    rintro ⟨rfl, rfl⟩
    rcases hno with hno | hno
    · have hr := h.right hn hb hf hg hx hd
      have := des_of hn hb hf hg he.back hr hl
      have hu : (inf m c q).up = true := by rw [hf.up hn he.hj he.hq]; exact he.upj
      have := hdec q (by rw [show (bAt m c).ports.length = nP m c from rfl, hf.plen]; exact he.hq) hu
      exact hno (by unfold inf at *; omega)
    · rw [he.back] at hno; exact absurd hno (by simp)
  exact ⟨fun hst => g1 (by omega), fun hst hd' => g2 (by omega) hd'⟩
theorem FedS.send {n m : Net} {M D d} {x y j z : Nat} (hn : n.P) (hb : Best n M D) (hf : Fit n m) (hg : AllGen n m) (hx : x < nB n) (hp : peer n x y = some (j, z)) (h : FedS n M D d (fun i => i < x + 1) (fun c q => c < x ∨ (c = x ∧ q < y)) m) :
    FedS n M D d (fun i => i < x + 1) (fun c q => c < x ∨ (c = x ∧ q < y + 1)) (hearN m j z (ownV (bAt m x) y) (hopsB (bAt m x))) := by
  have hex := peer_ends hn hp
  have hjm : j < nB m := by rw [hf.len]; exact hex.hj
  have hzm : z < nP m j := by rw [hf.plen]; exact hex.hq
  intro i k c q hpi hl hd
  obtain ⟨g1, g2⟩ := h i k c q hpi hl hd
  have he := peer_ends hn hpi
  by_cases e : i = j ∧ k = z
  · obtain ⟨rfl, rfl⟩ := e
    have : peer n i k = some (x, y) := hex.back
    rw [this] at hpi
    injection hpi with hpi; injection hpi with e1 e2
    subst e1 e2
    refine ⟨fun _ => ?_, fun hst => absurd (Or.inr ⟨rfl, by omega⟩) hst⟩
    have hr := h.right hn hb hf hg hx hd
    have hs := inf_hear hjm hzm (ownV (bAt m x) y) (hopsB (bAt m x))
    have hok := P.inf_ok hf.p hjm hzm
    have hcl := claim_ok (P.ok hf.p (by rw [hf.len]; exact hx)) (i := y) (by rw [show (bAt m x).ports.length = nP m x from rfl, hf.plen]; exact hex.hk)
    have hup : (inf m i k).up = true := by rw [hf.up hn hex.hj hex.hq]; exact hex.upj
    have hc := claimP_takes hok hup hcl.1 hcl.2.1 hcl.2.2 (fun hh => by
      obtain ⟨j', q', r', d', f1, f2, f3, f4⟩ := hg.at hf hex.hj hex.hq hh
      rw [hex.back] at f1
      injection f1 with f1; injection f1 with f1 f1'
      subst f1 f1'
      rw [hr.1, f2]
      exact ⟨rfl, rfl⟩)
    rw [hc] at hs
    refine ⟨⟨hs.has, by rw [hs.vec]; exact hr.1 y, by rw [hs.hops]; exact hr.2.1⟩, fun hh => by omega, fun _ => hs.left⟩
  · have hs := inf_hear_ne hjm (by rw [hf.plen]; exact he.hk) e (ownV (bAt m x) y) (hopsB (bAt m x))
    have hne : ¬ (c = x ∧ q = y) := by
      rintro ⟨rfl, rfl⟩
      have := he.back
      rw [hp] at this
      injection this with this; injection this with e1 e2
      exact e ⟨e1.symm, e2.symm⟩
    rw [hs.left]
    refine ⟨fun hst => ?_, fun hst hd' => ?_⟩
    · obtain ⟨f1, f2⟩ := g1 (by omega)
      exact ⟨f1.same hs, f2⟩
    · obtain ⟨f1, f2⟩ := g2 (by omega) hd'
      exact ⟨f1.same hs, f2⟩
theorem FedS.next {n m : Net} {M D d} (hn : n.P) {x : Nat} (h : FedS n M D d (fun i => i < x + 1) (fun c q => c < x ∨ (c = x ∧ q < nP n x)) m) : FedS n M D d (fun i => i < x + 1) (fun c _ => c < x + 1) m := by
  intro i k c q hp hl hd
  have he := peer_ends hn hp
  obtain ⟨g1, g2⟩ := h i k c q hp hl hd
  have : c = x → nP n c = nP n x := fun e => by rw [e]
  have := he.hq
  exact ⟨fun hst => g1 (by omega), fun hst hd' => g2 (by omega) hd'⟩

def Base (n : Net) (M : Nat → Int) (D : Nat → Nat) (m : Net) : Prop := AllGen n m ∧ ∀ i k c q, peer n i k = some (c, q) → leads n D c i → Fed n M D m i k c q ∧ (c < i → (inf m i k).left = 2) ∧ (¬ c < i → (inf m i k).left = 3)
structure Good (n : Net) (M : Nat → Int) (D : Nat → Nat) (m : Net) : Prop where
  gen : AllGen n m
  right : ∀ i, i < nB n → RightB n M D m i
  fed : ∀ i k c q, peer n i k = some (c, q) → leads n D c i → Fed n M D m i k c q
def BI (n : Net) (M : Nat → Int) (D : Nat → Nat) (d i : Nat) (m : Net) : Prop := AllGen n m ∧ FedS n M D d (fun x => x < i) (fun c _ => c < i) m
def BJ (n : Net) (M : Nat → Int) (D : Nat → Nat) (d i k : Nat) (m : Net) : Prop := AllGen n m ∧ FedS n M D d (fun x => x < i + 1) (fun c q => c < i ∨ (c = i ∧ q < k)) m
theorem BI.tick {n m : Net} {M D} {d i : Nat} (hn : n.P) (hf : Fit n m) (hi : i < nB n) (h : BI n M D d i m) : BJ n M D d i 0 (tickN m i) :=
  ⟨h.1.tick hf hi (by omega) (fun j _ => Int.le_refl _), h.2.tick hf hi hn⟩
theorem BJ.send {n m : Net} {M D} {d i k j q : Nat} (hn : n.P) (hb : Best n M D) (hf : Fit n m) (hi : i < nB n) (h : BJ n M D d i k m) (hp : peer n i k = some (j, q)) : BJ n M D d i (k + 1) (hearN m j q (ownV (bAt m i) k) (hopsB (bAt m i))) :=
  ⟨h.1.hear hn hf hp (Int.le_refl _), h.2.send hn hb hf h.1 hi hp⟩
theorem BJ.skip {n m : Net} {M D} {d i k : Nat} (hn : n.P) (hb : Best n M D) (hf : Fit n m) (hi : i < nB n) (hk : k < nP n i) (hd : Decd (bAt m i)) (h : BJ n M D d i k m) (hno : (inf m i k).role ≠ 2 ∨ peer n i k = none) : BJ n M D d i (k + 1) m :=
  ⟨h.1, h.2.skip hn hb hf h.1 hi hk hd hno⟩
theorem BJ.next {n m : Net} {M D} {d i : Nat} (hn : n.P) (h : BJ n M D d i (nP n i) m) : BI n M D d (i + 1) m := ⟨h.1, h.2.next hn⟩
theorem BI.round {n m : Net} {M D} {d : Nat} (hn : n.P) (hb : Best n M D) (hf : Fit n m) (h : BI n M D d 0 m) : Fit n (roundN m) ∧ BI n M D d (nB n) (roundN m) :=
  round_rule hf (BI n M D d) (BJ n M D d) h (fun i m hi hf h => h.tick hn hf hi) (fun i k m j q hi hk hf _ h _ hp => h.send hn hb hf hi hp) (fun i k m hi hk hf hd h hno => h.skip hn hb hf hi hk hd hno) (fun i m hi hf h => h.next hn) hn
theorem BI.more {n m : Net} {M D} {d : Nat} (hn : n.P) (h : BI n M D d (nB n) m) : BI n M D (d + 1) 0 m := by
  refine ⟨h.1, fun i k c q hp hl hd => ⟨fun hst => by omega, fun _ hd' => ?_⟩⟩
  have he := peer_ends hn hp
  obtain ⟨h1, h2, h3⟩ := (h.2 i k c q hp hl (by omega)).1 he.hj
  refine ⟨h1, ?_⟩
  by_cases hc : c < i
  · have := h2 ⟨hc, he.hi⟩; omega
  · have := h3 (fun hh => hc hh.1); omega
theorem BI.base {n m : Net} {M D} {d : Nat} (hn : n.P) (hb : Best n M D) (hd : 4 ≤ d) (h : BI n M D d (nB n) m) : Base n M D m := by
  refine ⟨h.1, fun i k c q hp hl => ?_⟩
  have he := peer_ends hn hp
  have := hb.small hn he.hj
  obtain ⟨h1, h2, h3⟩ := (h.2 i k c q hp hl (by omega)).1 he.hj
  exact ⟨h1, fun hc => h2 ⟨hc, he.hi⟩, fun hc => h3 fun hh => hc hh.1⟩
theorem Base.bi {n m : Net} {M D} (hn : n.P) (h : Base n M D m) : BI n M D 5 0 m := by
  refine ⟨h.1, fun i k c q hp hl hd => ⟨fun hst => by omega, fun _ hd' => ?_⟩⟩
  obtain ⟨h1, h2, h3⟩ := h.2 i k c q hp hl
  refine ⟨h1, ?_⟩
  by_cases hc : c < i
  · have := h2 hc; omega
  · have := h3 hc; omega
theorem good_of {n m : Net} {M D} {tk st} (hn : n.P) (hb : Best n M D) (hf : Fit n m) (hg : AllGen n m) (h : FedS n M D 5 tk st m) : Good n M D m := by
  refine ⟨hg, fun i hi => h.right hn hb hf hg hi (by have := hb.small hn hi; omega), fun i k c q hp hl => ?_⟩
  have := hb.small hn (peer_ends hn hp).hj
  obtain ⟨h1, h2⟩ := h i k c q hp hl (by omega)
  by_cases hs : st c q
  · exact (h1 hs).1
  · exact (h2 hs (by omega)).1
theorem stN_base {n : Net} {M D} (hn : n.P) (hb : Best n M D) : Fit n (stN n 24) ∧ Base n M D (stN n 24) := by
  have key : ∀ d : Nat, BI n M D d 0 (stN n (19 + d)) := by
    intro d
    induction d with
    | zero =>
      obtain ⟨h1, h2⟩ := stN_ga hn 19
      exact ⟨allGen_of h1 (Nat.le_refl _) h2, fun i k c q hp hl hd => ⟨fun hst => by omega, fun _ hd' => by omega⟩⟩
    | succ d ih =>
      have := (BI.round hn hb (stN_ga hn _).1 ih).2.more hn
      rw [← stN_succ] at this
      exact this
  have := BI.round hn hb (stN_ga hn _).1 (key 4)
  rw [← stN_succ] at this
  exact ⟨this.1, this.2.base hn hb (Nat.le_refl _)⟩
/-- A round of a net in which each bridge knows how far the root is. -/
theorem rule2 {n m0 : Net} {M D} (hn : n.P) (hb : Best n M D) (hf : Fit n m0) (hB : Base n M D m0) (I : Nat → Net → Prop) (J : Nat → Nat → Net → Prop) (h0 : I 0 m0)
    (hT : ∀ i m, i < nB n → Fit n m → Good n M D m → Good n M D (tickN m i) → I i m → J i 0 (tickN m i))
    (hS : ∀ i k m j q, i < nB n → k < nP n i → Fit n m → Good n M D m → Good n M D (hearN m j q (ownV (bAt m i) k) (hopsB (bAt m i))) → Decd (bAt m i) → J i k m → (inf m i k).role = 2 → peer n i k = some (j, q) → J i (k + 1) (hearN m j q (ownV (bAt m i) k) (hopsB (bAt m i))))
    (hN : ∀ i k m, J i k m → J i (k + 1) m)
    (hE : ∀ i m, J i (nP n i) m → I (i + 1) m) : Fit n (roundN m0) ∧ Base n M D (roundN m0) ∧ I (nB n) (roundN m0) := by
  have := round_rule hf (fun i m => BI n M D 5 i m ∧ I i m) (fun i k m => BJ n M D 5 i k m ∧ J i k m) ⟨hB.bi hn, h0⟩
    (fun i m hi hf h => by
      have h1 := h.1.tick hn hf hi
      exact ⟨h1, hT i m hi hf (good_of hn hb hf h.1.1 h.1.2) (good_of hn hb (hf.tick hi) h1.1 h1.2) h.2⟩)
    (fun i k m j q hi hk hf hd h hr hp => by
      have he := peer_ends hn hp
      have h1 := h.1.send hn hb hf hi hp
      exact ⟨h1, hS i k m j q hi hk hf (good_of hn hb hf h.1.1 h.1.2) (good_of hn hb (hf.hear he.hj he.hq _ _) h1.1 h1.2) hd h.2 hr hp⟩)
    (fun i k m hi hk hf hd h hno => ⟨h.1.skip hn hb hf hi hk hd hno, hN i k m h.2⟩)
    (fun i m hi hf h => ⟨h.1.next hn, hE i m h.2⟩) hn
  exact ⟨this.1, this.2.1.base hn hb (by omega), this.2.2⟩

/-- What is heard at the ends that lead fades. -/
def GE (n : Net) (D : Nat → Nat) (X : Int) (T : Nat → Int) (m : Net) : Prop := ∀ i k j q, peer n i k = some (j, q) → leads n D i j → (inf m i k).has = true → T i + (inf m i k).left ≤ X
def NoL (n : Net) (D : Nat → Nat) (m : Net) : Prop := ∀ i k j q, peer n i k = some (j, q) → leads n D i j → (inf m i k).has = false
theorem GE.noL {n m : Net} {D X} {T : Nat → Int} (hn : n.P) (hf : Fit n m) (h : GE n D X T m) (ht : ∀ i, i < nB n → X ≤ T i) : NoL n D m := by
  intro i k j q hp hl
  have he := peer_ends hn hp
  cases hh : (inf m i k).has
  · rfl
  · have := Port.ok_has (P.inf_ok hf.p (by rw [hf.len]; exact he.hi) (by rw [hf.plen]; exact he.hk)) hh
    have := h i k j q hp hl hh
    have := ht i he.hi
    omega
theorem NoL.ge {n m : Net} {D} (h : NoL n D m) (X T) : GE n D X T m := fun i k j q hp hl hh => by rw [h i k j q hp hl] at hh; exact absurd hh (by simp)
theorem GE.tick {n m : Net} {D X} {T T' : Nat → Int} (hn : n.P) (hf : Fit n m) {x : Nat} (hx : x < nB n) (h : GE n D X T m) (h1 : T' x ≤ T x + 1) (h2 : ∀ j, j ≠ x → T' j ≤ T j) : GE n D X T' (tickN m x) := by
  intro i k j q hp hl hh
  have he := peer_ends hn hp
  have hxm : x < nB m := by rw [hf.len]; exact hx
  by_cases e : i = x
  · subst e
    have hkm : k < nP m i := by rw [hf.plen]; exact he.hk
    have hs := inf_tick hxm hkm
    rw [hs.has] at hh
    obtain ⟨g1, g2, g3, g4⟩ := tickP_none (P.inf_ok hf.p hxm hkm) hh
    have := h i k j q hp hl g1
    rw [hs.left, g4]
    omega
  · rw [inf_tick_ne hxm e] at hh ⊢
    have := h i k j q hp hl hh
    have := h2 i e
    omega
theorem no_send {n m : Net} {M D} (hn : n.P) (hb : Best n M D) (hf : Fit n m) (hg : Good n M D m) {i k j q : Nat} (hd : Decd (bAt m i)) (hr : (inf m i k).role = 2) (hp : peer n i k = some (j, q)) : leads n D i j := by
  have he := peer_ends hn hp
  rcases leads_or hn D hp with h | h
  · exact h
  · have h1 := hears_of hn hb hf hp (hg.right i he.hi) h (hg.fed i k j q hp h)
    have hu : (inf m i k).up = true := by rw [hf.up hn he.hi he.hk]; exact he.up
    have h2 := hd k (by rw [show (bAt m i).ports.length = nP m i from rfl, hf.plen]; exact he.hk) hu
    have h3 : (inf m i k).role = roleB (bAt m i) k (inf m i k) := h2
    rw [h1, hr] at h3
    split at h3 <;> omega
theorem GE.send {n m : Net} {D X} {T : Nat → Int} (hn : n.P) (hf : Fit n m) {x y j z : Nat} (hp : peer n x y = some (j, z)) (h : GE n D X T m) (hl : leads n D x j) (v : Vec) (ho : Int) : GE n D X T (hearN m j z v ho) := by
  have hex := peer_ends hn hp
  have hjm : j < nB m := by rw [hf.len]; exact hex.hj
  intro i k c q hpi hli hh
  have he := peer_ends hn hpi
  have hne : ¬ (i = j ∧ k = z) := by
    rintro ⟨rfl, rfl⟩
    rw [hex.back] at hpi
    injection hpi with hpi; injection hpi with e1 e2
    subst e1 e2
    exact leads_not hl hli
  have hs := inf_hear_ne hjm (by rw [hf.plen]; exact he.hk) hne v ho
  rw [hs.has] at hh
  rw [hs.left]
  exact h i k c q hpi hli hh
theorem GE.round {n m : Net} {M D X} {t : Int} (hn : n.P) (hb : Best n M D) (hf : Fit n m) (hB : Base n M D m) (h : GE n D X (fun _ => t) m) : Fit n (roundN m) ∧ Base n M D (roundN m) ∧ GE n D X (fun _ => t + 1) (roundN m) := by
  have := rule2 hn hb hf hB (fun i m => GE n D X (tkU i t) m) (fun i k m => GE n D X (tkU (i + 1) t) m) (fun i k j q hp hl hh => by have := h i k j q hp hl hh; simpa [tkU] using this)
    (fun i m hi hf _ _ h => h.tick hn hf hi (by simp [tkU]) (fun j hj => by unfold tkU; split <;> split <;> omega))
    (fun i k m j q hi hk hf hg _ hd h hr hp => h.send hn hf hp (no_send hn hb hf hg hd hr hp) _ _) (fun i k m h => h) (fun i m h => h)
  refine ⟨this.1, this.2.1, fun i k j q hp hl hh => ?_⟩
  have h1 := this.2.2 i k j q hp hl hh
  unfold tkU at h1
  rw [if_pos (peer_ends hn hp).hi] at h1
  exact h1
theorem stN_noL {n : Net} {M D} (hn : n.P) (hb : Best n M D) : Fit n (stN n 27) ∧ Base n M D (stN n 27) ∧ NoL n D (stN n 27) := by
  obtain ⟨h1, h2⟩ := stN_base hn hb
  have g0 : GE n D 27 (fun _ => 24) (stN n 24) := fun i k j q hp hl hh => by
    have he := peer_ends hn hp
    have := Port.ok_has (P.inf_ok h1.p (by rw [h1.len]; exact he.hi) (by rw [h1.plen]; exact he.hk)) hh
    simp only; omega
  obtain ⟨a1, a2, a3⟩ := GE.round hn hb h1 h2 g0
  obtain ⟨b1, b2, b3⟩ := GE.round hn hb a1 a2 a3
  obtain ⟨c1, c2, c3⟩ := GE.round hn hb b1 b2 b3
  rw [← stN_succ, ← stN_succ, ← stN_succ] at c1 c2 c3
  exact ⟨c1, c2, c3.noL hn c1 fun i _ => by omega⟩
structure Quiet (n : Net) (M : Nat → Int) (D : Nat → Nat) (m : Net) : Prop where
  good : Good n M D m
  noL : NoL n D m
theorem rule3 {n m0 : Net} {M D} (hn : n.P) (hb : Best n M D) (hf : Fit n m0) (hB : Base n M D m0) (hL : NoL n D m0) (I : Nat → Net → Prop) (h0 : I 0 m0)
    (hT : ∀ i m, i < nB n → Fit n m → Quiet n M D m → Quiet n M D (tickN m i) → I i m → I (i + 1) (tickN m i))
    (hS : ∀ (i k : Nat) m (j q : Nat), i < nB n → Fit n m → Quiet n M D m → Quiet n M D (hearN m j q (ownV (bAt m i) k) (hopsB (bAt m i))) → I (i + 1) m → peer n i k = some (j, q) → I (i + 1) (hearN m j q (ownV (bAt m i) k) (hopsB (bAt m i)))) :
    Fit n (roundN m0) ∧ Base n M D (roundN m0) ∧ NoL n D (roundN m0) ∧ I (nB n) (roundN m0) := by
  have := rule2 hn hb hf hB (fun i m => NoL n D m ∧ I i m) (fun i k m => NoL n D m ∧ I (i + 1) m) ⟨hL, h0⟩
    (fun i m hi hf hg hg' h => by
      have h1 : NoL n D (tickN m i) := ((h.1.ge 0 fun _ => 0).tick hn hf hi (T' := fun _ => 0) (by omega) (fun j _ => by omega)).noL hn (hf.tick hi) (fun _ _ => Int.le_refl _)
      exact ⟨h1, hT i m hi hf ⟨hg, h.1⟩ ⟨hg', h1⟩ h.2⟩)
    (fun i k m j q hi hk hf hg hg' hd h hr hp => by
      have he := peer_ends hn hp
      have h1 : NoL n D (hearN m j q (ownV (bAt m i) k) (hopsB (bAt m i))) := ((h.1.ge 0 fun _ => 0).send hn hf hp (no_send hn hb hf hg hd hr hp) _ _).noL hn (hf.hear he.hj he.hq _ _) (fun _ _ => Int.le_refl _)
      exact ⟨h1, hS i k m j q hi hf ⟨hg, h.1⟩ ⟨hg', h1⟩ h.2 hp⟩)
    (fun i k m h => h) (fun i m h => h)
  exact ⟨this.1, this.2.1, this.2.2.1, this.2.2.2⟩

theorem quiet_port {n m m' : Net} {M D} (hn : n.P) (hf : Fit n m) (hf' : Fit n m') (hq : Quiet n M D m) (hq' : Quiet n M D m') {i k : Nat} (hi : i < nB n) (hk : k < nP n i) : keyP (inf m i k) = keyP (inf m' i k) := by
  cases hu : (inf n i k).up
  · rw [hf.down i k hi hk hu, hf'.down i k hi hk hu]
  · obtain ⟨j, q, hp⟩ := peer_up hn hi hk hu
    have ok1 := P.inf_ok hf.p (i := i) (k := k) (by rw [hf.len]; exact hi) (by rw [hf.plen]; exact hk)
    have ok2 := P.inf_ok hf'.p (i := i) (k := k) (by rw [hf'.len]; exact hi) (by rw [hf'.plen]; exact hk)
    rcases leads_or hn D hp with h | h
    · have g1 := hq.noL i k j q hp h
      have g2 := hq'.noL i k j q hp h
      have o1 := Port.ok_none ok1 g1
      have o2 := Port.ok_none ok2 g2
      simp [keyP, g1, g2, o1, o2]
    · obtain ⟨a1, a2, a3⟩ := hq.good.fed i k j q hp h
      obtain ⟨b1, b2, b3⟩ := hq'.good.fed i k j q hp h
      simp [keyP, a1, a2, a3, b1, b2, b3]
theorem quiet_keys {n m m' : Net} {M D} (hn : n.P) (hf : Fit n m) (hf' : Fit n m') (hq : Quiet n M D m) (hq' : Quiet n M D m') {i : Nat} (hi : i < nB n) : (bAt m i).ports.map keyP = (bAt m' i).ports.map keyP := by
  have h1 := hf.plen i
  have h2 := hf'.plen i
  refine List.ext_getElem (by simp only [List.length_map]; unfold nP at *; omega) fun k g1 g2 => ?_
  simp only [List.length_map] at g1 g2
  simp only [List.getElem_map]
  rw [← pt_eq g1, ← pt_eq g2]
  exact quiet_port hn hf hf' hq hq' hi (by unfold nP at *; omega)
theorem quiet_role {n m m' : Net} {M D} (hn : n.P) (hf : Fit n m) (hf' : Fit n m') (hq : Quiet n M D m) (hq' : Quiet n M D m') {i k : Nat} (hi : i < nB n) (hk : k < nP n i) : roleB (bAt m i) k (inf m i k) = roleB (bAt m' i) k (inf m' i k) :=
  roleB_key ((hf.id i).trans (hf'.id i).symm) (quiet_keys hn hf hf' hq hq' hi) (quiet_port hn hf hf' hq hq' hi hk) k
def RoleI (n : Net) (R : Nat → Nat → Int) (i : Nat) (m : Net) : Prop := ∀ x k, x < nB n → k < nP n x → x < i → (inf n x k).up = true → (inf m x k).role = R x k
def WaitI (n : Net) (R : Nat → Nat → Int) (Y : Int) (T : Nat → Int) (m : Net) : Prop := ∀ x k, x < nB n → k < nP n x → (inf n x k).up = true → (inf m x k).role = R x k ∧ ((inf m x k).wait = 0 ∨ (inf m x k).wait + T x ≤ Y)
def Rof (m : Net) (i k : Nat) : Int := roleB (bAt m i) k (inf m i k)
theorem role_tick {n m m1 : Net} {M D} (hn : n.P) (hf : Fit n m) (hf1 : Fit n m1) (hq1 : Quiet n M D m1) {i k : Nat} (hi : i < nB n) (hk : k < nP n i) (hu : (inf n i k).up = true) (hq' : Quiet n M D (tickN m i)) : (inf (tickN m i) i k).role = Rof m1 i k := by
  have hf' := hf.tick hi
  have him : i < nB m := by rw [hf.len]; exact hi
  have hbt : bAt (tickN m i) i = tickD (bAt m i) := by unfold tickN; rw [bAt_set him, if_pos rfl]
  have hd : Decd (bAt (tickN m i) i) := by rw [hbt]; exact tickD_decd (P.ok hf.p him)
  have h2 : (inf (tickN m i) i k).role = roleB (bAt (tickN m i) i) k (inf (tickN m i) i k) := hd k (by rw [show (bAt (tickN m i) i).ports.length = nP (tickN m i) i from rfl, hf'.plen]; exact hk) (by have := hf'.up hn hi hk; rw [hu] at this; exact this)
  rw [h2]
  exact quiet_role hn hf' hf1 hq' hq1 hi hk
theorem role_hear {n m m1 : Net} {M D} (hn : n.P) (hf : Fit n m) (hf1 : Fit n m1) (hq1 : Quiet n M D m1) {j q k : Nat} (hj : j < nB n) (hq : q < nP n j) (hk : k < nP n j) (hu : (inf n j k).up = true) (v : Vec) (ho : Int) (hq' : Quiet n M D (hearN m j q v ho)) : (inf (hearN m j q v ho) j k).role = Rof m1 j k := by
  have hf' := hf.hear hj hq v ho
  have hjm : j < nB m := by rw [hf.len]; exact hj
  have hqm : q < nP m j := by rw [hf.plen]; exact hq
  have hbt : bAt (hearN m j q v ho) j = hearD (bAt m j) q v ho := by unfold hearN; rw [bAt_set hjm, if_pos rfl]
  have hd : Decd (bAt (hearN m j q v ho) j) := by rw [hbt]; exact hearD_decd (P.ok hf.p hjm) hqm _ _
  have h2 : (inf (hearN m j q v ho) j k).role = roleB (bAt (hearN m j q v ho) j) k (inf (hearN m j q v ho) j k) := hd k (by rw [show (bAt (hearN m j q v ho) j).ports.length = nP (hearN m j q v ho) j from rfl, hf'.plen]; exact hk) (by have := hf'.up hn hj hk; rw [hu] at this; exact this)
  rw [h2]
  exact quiet_role hn hf' hf1 hq' hq1 hj hk
theorem inf_hear_br {m : Net} {j x : Nat} (hj : j < nB m) (h : x ≠ j) (q : Nat) (v : Vec) (ho : Int) (k : Nat) : inf (hearN m j q v ho) x k = inf m x k := by
  unfold hearN; rw [inf_set hj, if_neg h]
theorem role_round {n m m1 : Net} {M D} (hn : n.P) (hb : Best n M D) (hf : Fit n m) (hB : Base n M D m) (hL : NoL n D m) (hf1 : Fit n m1) (hq1 : Quiet n M D m1) : Fit n (roundN m) ∧ Base n M D (roundN m) ∧ NoL n D (roundN m) ∧ RoleI n (Rof m1) (nB n) (roundN m) := by
  refine rule3 hn hb hf hB hL (RoleI n (Rof m1)) (fun x k _ _ h => by omega) ?_ ?_
  · intro i m hi hf _ hq' h x k hx hk hxi hu
    by_cases e : x = i
    · subst e; exact role_tick hn hf hf1 hq1 hi hk hu hq'
    · rw [inf_tick_ne (by rw [hf.len]; exact hi) e]; exact h x k hx hk (by omega) hu
  · intro i y m j q hi hf _ hq' h hp x k hx hk hxi hu
    have he := peer_ends hn hp
    by_cases e : x = j
    · subst e; exact role_hear hn hf hf1 hq1 he.hj he.hq hk hu _ _ hq'
    · rw [inf_hear_br (by rw [hf.len]; exact he.hj) e]; exact h x k hx hk hxi hu
theorem wait_round {n m m1 : Net} {M D Y} {t : Int} (hn : n.P) (hb : Best n M D) (hf : Fit n m) (hB : Base n M D m) (hL : NoL n D m) (hf1 : Fit n m1) (hq1 : Quiet n M D m1) (h : WaitI n (Rof m1) Y (fun _ => t) m) :
    Fit n (roundN m) ∧ Base n M D (roundN m) ∧ NoL n D (roundN m) ∧ WaitI n (Rof m1) Y (fun _ => t + 1) (roundN m) := by
  have := rule3 hn hb hf hB hL (fun i m => WaitI n (Rof m1) Y (tkU i t) m) (fun x k hx hk hu => by have := h x k hx hk hu; simpa [tkU] using this) ?_ ?_
  · refine ⟨this.1, this.2.1, this.2.2.1, fun x k hx hk hu => ?_⟩
    have h1 := this.2.2.2 x k hx hk hu
    unfold tkU at h1
    rw [if_pos hx] at h1
    exact h1
  · intro i m hi hf _ hq' h x k hx hk hu
    have him : i < nB m := by rw [hf.len]; exact hi
    obtain ⟨h1, h2⟩ := h x k hx hk hu
    by_cases e : x = i
    · subst e
      have hr := role_tick hn hf hf1 hq1 hi hk hu hq'
      refine ⟨hr, ?_⟩
      have hkm : k < (bAt m x).ports.length := by have := hf.plen x; unfold nP at *; omega
      have hpt : inf (tickN m x) x k = decP (tickB (bAt m x)) k (tickP (inf m x k)) := by unfold tickN; rw [inf_set him, if_pos rfl, tickD_pt hkm]; rfl
      have hum : (inf m x k).up = true := by rw [hf.up hn hx hk]; exact hu
      obtain ⟨d1, d2⟩ := decP_does (b := tickB (bAt m x)) (k := k) (tickP_ok (P.inf_ok hf.p him hkm)) (by rw [tickP_up]; exact hum)
      rw [hpt] at hr ⊢
      rw [d1] at hr
      rw [d2, hr]
      have hw := tickP_wait (inf m x k)
      have hro := tickP_role (inf m x k)
      have hin := roleB_in (bAt m1 x) k (inf m1 x k)
      have h0 := Port.ok_rest (P.inf_ok hf.p him hkm)
      unfold turnW
      rw [hro, h1]
      rw [tkU_in (by omega)]
      rw [tkU_out (by omega)] at h2
      rw [h1] at hw
      unfold Rof at *
      split
      · left; rfl
      · by_cases h0 : 0 < (inf m x k).wait
        · rw [if_pos ⟨by omega, h0⟩] at hw
          omega
        · rw [if_neg (fun hh => h0 hh.2)] at hw
          omega
    · rw [inf_tick_ne him e]
      refine ⟨h1, ?_⟩
      by_cases hxi : x < i
      · rw [tkU_in (by omega)]; rw [tkU_in hxi] at h2; exact h2
      · rw [tkU_out (by omega)]; rw [tkU_out hxi] at h2; exact h2
  · intro i y m j q hi hf _ hq' h hp x k hx hk hu
    have he := peer_ends hn hp
    have hjm : j < nB m := by rw [hf.len]; exact he.hj
    have hqm : q < nP m j := by rw [hf.plen]; exact he.hq
    obtain ⟨h1, h2⟩ := h x k hx hk hu
    by_cases e : x = j
    · subst e
      have hr := role_hear hn hf hf1 hq1 he.hj he.hq hk hu _ _ hq'
      refine ⟨hr, ?_⟩
      have hkm : k < (bAt m x).ports.length := by have := hf.plen x; unfold nP at *; omega
      have hpt : inf (hearN m x q (ownV (bAt m i) y) (hopsB (bAt m i))) x k = decP (hearB (bAt m x) q (ownV (bAt m i) y) (hopsB (bAt m i))) k (pt (hearB (bAt m x) q (ownV (bAt m i) y) (hopsB (bAt m i))) k) := by
        unfold hearN; rw [inf_set hjm, if_pos rfl, hearD_pt hkm, hearB_pt hkm]
      have hum : (inf m x k).up = true := by rw [hf.up hn hx hk]; exact hu
      have hp2 : (pt (hearB (bAt m x) q (ownV (bAt m i) y) (hopsB (bAt m i))) k).up = true ∧ (pt (hearB (bAt m x) q (ownV (bAt m i) y) (hopsB (bAt m i))) k).role = (inf m x k).role ∧ (pt (hearB (bAt m x) q (ownV (bAt m i) y) (hopsB (bAt m i))) k).wait = (inf m x k).wait := by
        rw [hearB_pt hkm]
        split
        · rename_i e; subst e
          rcases claimP_cases (pt (bAt m x) k) (ownV (bAt m i) y) (hopsB (bAt m i)) with hc | hc
          · rw [hc]; exact ⟨hum, rfl, rfl⟩
          · rw [hc]; exact ⟨hum, rfl, rfl⟩
        · exact ⟨hum, rfl, rfl⟩
      obtain ⟨d1, d2⟩ := decP_does (b := hearB (bAt m x) q (ownV (bAt m i) y) (hopsB (bAt m i))) (k := k) (pt_ok (hearB_ok (P.ok hf.p hjm) hqm _ _) (by rw [hearB_len]; exact hkm)) hp2.1
      rw [hpt] at hr ⊢
      rw [d1] at hr
      rw [d2, hr]
      unfold turnW
      rw [hp2.2.1, hp2.2.2, h1]
      split
      · left; rfl
      · exact h2
    · rw [inf_hear_br hjm e]
      exact ⟨h1, h2⟩
theorem WaitI.at {n m : Net} {R Y} {t : Int} (h : WaitI n R Y (fun _ => t) m) {x k : Nat} (hx : x < nB n) (hk : k < nP n x) (hu : (inf n x k).up = true) : (inf m x k).role = R x k ∧ ((inf m x k).wait = 0 ∨ (inf m x k).wait + t ≤ Y) := h x k hx hk hu
/-- What a net has come to that is settled. -/
structure Final (n : Net) (M : Nat → Int) (D : Nat → Nat) (R : Nat → Nat → Int) (m : Net) : Prop where
  fit : Fit n m
  base : Base n M D m
  noL : NoL n D m
  role : ∀ x k, x < nB n → k < nP n x → (inf n x k).up = true → (inf m x k).role = R x k ∧ (inf m x k).wait = 0
theorem Base.good {n m : Net} {M D} (hn : n.P) (hb : Best n M D) (hf : Fit n m) (h : Base n M D m) : Good n M D m := good_of hn hb hf h.1 (h.bi hn).2
theorem final_one {n m m' : Net} {M D R} (hn : n.P) (hb : Best n M D) (h : Final n M D R m) (h' : Final n M D R m') : m = m' := by
  have port : ∀ i k, i < nB n → k < nP n i → inf m i k = inf m' i k := by
    intro i k hi hk
    cases hu : (inf n i k).up
    · rw [h.fit.down i k hi hk hu, h'.fit.down i k hi hk hu]
    · have hk2 := quiet_port hn h.fit h'.fit ⟨h.base.good hn hb h.fit, h.noL⟩ ⟨h'.base.good hn hb h'.fit, h'.noL⟩ hi hk
      obtain ⟨j, q, hp⟩ := peer_up hn hi hk hu
      have ok1 := P.inf_ok h.fit.p (i := i) (k := k) (by rw [h.fit.len]; exact hi) (by rw [h.fit.plen]; exact hk)
      have ok2 := P.inf_ok h'.fit.p (i := i) (k := k) (by rw [h'.fit.len]; exact hi) (by rw [h'.fit.plen]; exact hk)
      have u1 := h.fit.up hn hi hk
      have u2 := h'.fit.up hn hi hk
      obtain ⟨r1, w1⟩ := h.role i k hi hk hu
      obtain ⟨r2, w2⟩ := h'.role i k hi hk hu
      have p1 := (Port.ok_rest ok1).2.2.2.2.2
      have p2 := (Port.ok_rest ok2).2.2.2.2.2
      have hleft : (inf m i k).left = (inf m' i k).left := by
        rcases leads_or hn D hp with hl | hl
        · rw [(Port.ok_none ok1 (h.noL i k j q hp hl)).2.2, (Port.ok_none ok2 (h'.noL i k j q hp hl)).2.2]
        · obtain ⟨-, a1, a2⟩ := h.base.2 i k j q hp hl
          obtain ⟨-, b1, b2⟩ := h'.base.2 i k j q hp hl
          by_cases hc : j < i
          · rw [a1 hc, b1 hc]
          · rw [a2 hc, b2 hc]
      simp only [keyP, Prod.mk.injEq] at hk2
      rw [r1, w1] at p1
      rw [r2, w2] at p2
      generalize inf m i k = x at *
      generalize inf m' i k = y at *
      obtain ⟨x1, x2, x3, x4, x5, x6, x7, x8⟩ := x
      obtain ⟨y1, y2, y3, y4, y5, y6, y7, y8⟩ := y
      simp only at *
      simp_all
  have br : ∀ i, i < nB n → bAt m i = bAt m' i := by
    intro i hi
    have h1 : (bAt m i).id = (bAt m' i).id := (h.fit.id i).trans (h'.fit.id i).symm
    have l1 : (bAt m i).ports.length = nP n i := h.fit.plen i
    have l2 : (bAt m' i).ports.length = nP n i := h'.fit.plen i
    have h2 : (bAt m i).ports = (bAt m' i).ports := by
      refine List.ext_getElem (by omega) fun k g1 g2 => ?_
      rw [← pt_eq g1, ← pt_eq g2]
      exact port i k hi (by omega)
    generalize bAt m i = x at *
    generalize bAt m' i = y at *
    obtain ⟨x1, x2⟩ := x
    obtain ⟨y1, y2⟩ := y
    simp only at h1 h2
    rw [h1, h2]
  have hbr : m.bridges = m'.bridges := by
    refine List.ext_getElem (by have := h.fit.len; have := h'.fit.len; unfold nB at *; omega) fun i g1 g2 => ?_
    have := br i (by have := h.fit.len; unfold nB at *; omega)
    rw [bAt_eq g1, bAt_eq g2] at this
    exact this
  have hln : m.links = m'.links := h.fit.links.trans h'.fit.links.symm
  obtain ⟨a, b⟩ := m
  obtain ⟨c, d⟩ := m'
  simp only at hbr hln
  rw [hbr, hln]
theorem Final.next {n m m1 : Net} {M D} (hn : n.P) (hb : Best n M D) (hf1 : Fit n m1) (hq1 : Quiet n M D m1) (h : Final n M D (Rof m1) m) : Final n M D (Rof m1) (roundN m) := by
  have := wait_round (Y := 0) (t := 1000) hn hb h.fit h.base h.noL hf1 hq1 (fun x k hx hk hu => ⟨(h.role x k hx hk hu).1, .inl (h.role x k hx hk hu).2⟩)
  refine ⟨this.1, this.2.1, this.2.2.1, fun x k hx hk hu => ?_⟩
  obtain ⟨h1, h2⟩ := this.2.2.2.at hx hk hu
  have := (Port.ok_rest (P.inf_ok this.1.p (i := x) (k := k) (by rw [this.1.len]; exact hx) (by rw [this.1.plen]; exact hk)))
  exact ⟨h1, by omega⟩
/-- Any right net is settled behind 32 rounds: it turns no more. -/
theorem settled {n : Net} {M D} (hn : n.P) (hb : Best n M D) : Final n M D (Rof (stN n 32)) (stN n 32) ∧ roundN (stN n 32) = stN n 32 := by
  obtain ⟨h1, h2, h3⟩ := stN_noL hn hb
  have hq1 : Quiet n M D (stN n 27) := ⟨h2.good hn hb h1, h3⟩
  obtain ⟨a1, a2, a3, a4⟩ := role_round hn hb h1 h2 h3 h1 hq1
  have w0 : WaitI n (Rof (stN n 27)) 32 (fun _ => 28) (roundN (stN n 27)) := fun x k hx hk hu => by
    have := (Port.ok_rest (P.inf_ok a1.p (i := x) (k := k) (by rw [a1.len]; exact hx) (by rw [a1.plen]; exact hk)))
    exact ⟨a4 x k hx hk hx hu, .inr (by simp only; omega)⟩
  obtain ⟨b1, b2, b3, b4⟩ := wait_round hn hb a1 a2 a3 h1 hq1 w0
  obtain ⟨c1, c2, c3, c4⟩ := wait_round hn hb b1 b2 b3 h1 hq1 b4
  obtain ⟨d1, d2, d3, d4⟩ := wait_round hn hb c1 c2 c3 h1 hq1 c4
  obtain ⟨e1, e2, e3, e4⟩ := wait_round hn hb d1 d2 d3 h1 hq1 d4
  rw [← stN_succ, ← stN_succ, ← stN_succ, ← stN_succ, ← stN_succ] at e1 e2 e3 e4
  have e1 : Fit n (stN n 32) := e1
  have e2 : Base n M D (stN n 32) := e2
  have e3 : NoL n D (stN n 32) := e3
  have e4 : WaitI n (Rof (stN n 27)) 32 (fun _ => 28 + 1 + 1 + 1 + 1) (stN n 32) := e4
  have hfin : Final n M D (Rof (stN n 27)) (stN n 32) := ⟨e1, e2, e3, fun x k hx hk hu => by
    obtain ⟨g1, g2⟩ := e4.at hx hk hu
    have := (Port.ok_rest (P.inf_ok e1.p (i := x) (k := k) (by rw [e1.len]; exact hx) (by rw [e1.plen]; exact hk)))
    exact ⟨g1, by omega⟩⟩
  refine ⟨⟨e1, e2, e3, fun x k hx hk hu => ?_⟩, ?_⟩
  · obtain ⟨g1, g2⟩ := hfin.role x k hx hk hu
    exact ⟨g1.trans (quiet_role hn h1 e1 hq1 ⟨e2.good hn hb e1, e3⟩ hx hk), g2⟩
  · exact final_one hn hb (hfin.next hn hb h1 hq1) hfin

theorem openAt_eq {n : Net} {i k : Nat} (hi : i < nB n) (hk : k < nP n i) : openAt n i k = (inf n i k).opn := by
  unfold openAt
  simp only [Int.toNat_natCast]
  rw [List.getElem?_eq_getElem hi]
  simp only
  have h1 := bAt_eq hi
  unfold nP at hk
  unfold inf
  rw [h1] at hk ⊢
  rw [pt_at hk]
/-- Two links of one end are one. -/
theorem link_one {ls : List Link} (hn : (endsOf ls).Nodup) {x y : Nat} {l l' : Link} (h : ls[x]? = some l) (h' : ls[y]? = some l') {e : Int × Int} (he : e = (l.a, l.p) ∨ e = (l.b, l.q)) (he' : e = (l'.a, l'.p) ∨ e = (l'.b, l'.q)) : x = y := by
  have key : ∀ {x y : Nat} {l l' : Link}, ls[x]? = some l → ls[y]? = some l' → (e = (l.a, l.p) ∨ e = (l.b, l.q)) → (e = (l'.a, l'.p) ∨ e = (l'.b, l'.q)) → ¬ x < y := by
    intro x y l l' h h' he he' hlt
    obtain ⟨h1, h2⟩ := List.getElem?_eq_some_iff.1 h
    have hs := endsOf_split h1
    rw [hs, h2] at hn
    rw [List.nodup_append] at hn
    have hd := hn.2.1
    simp only [List.nodup_cons, List.mem_cons, not_or] at hd
    have hm : e ∈ endsOf (ls.drop (x + 1)) := by
      rw [mem_endsOf]
      refine ⟨l', ?_, he'⟩
      refine List.mem_of_getElem? (i := y - (x + 1)) ?_
      rw [List.getElem?_drop]
      rw [show x + 1 + (y - (x + 1)) = y by omega]; exact h'
    rcases he with he | he
    · rw [he] at hm; exact hd.1.2 hm
    · rw [he] at hm; exact hd.2.1 hm
  have h1 := key h h' he he'
  have h2 := key h' h he' he
  omega
/-- A link that is known by its place, and its ends. -/
theorem link_peer {n : Net} (hn : n.P) {x : Nat} {l : Link} (h : n.links[x]? = some l) : ∃ i k j q : Nat, l = ⟨i, k, j, q⟩ ∧ peer n i k = some (j, q) := by
  have hm := List.mem_of_getElem? h
  obtain ⟨-, h1, h2⟩ := ((P_iff n).1 hn).2.2.2.2.1 l hm
  refine ⟨l.a.toNat, l.p.toNat, l.b.toNat, l.q.toNat, ?_, (peer_iff hn _ _ _ _).2 (.inl ?_)⟩
  · obtain ⟨a, p, b, q⟩ := l; simp at *; omega
  · have : l = ⟨l.a.toNat, l.p.toNat, l.b.toNat, l.q.toNat⟩ := by obtain ⟨a, p, b, q⟩ := l; simp at *; omega
    rw [← this]; exact hm
theorem peer_link {n : Net} (hn : n.P) {i k j q : Nat} (h : peer n i k = some (j, q)) : ∃ x : Nat, x < n.links.length ∧ (n.links[x]? = some ⟨i, k, j, q⟩ ∨ n.links[x]? = some ⟨j, q, i, k⟩) := by
  rcases (peer_iff hn i k j q).1 h with h | h
  · obtain ⟨x, h1, h2⟩ := List.getElem_of_mem h
    exact ⟨x, h1, .inl (by rw [List.getElem?_eq_getElem h1, h2])⟩
  · obtain ⟨x, h1, h2⟩ := List.getElem_of_mem h
    exact ⟨x, h1, .inr (by rw [List.getElem?_eq_getElem h1, h2])⟩
theorem Conn.trans {n : Net} {W : Nat → Bool} {a b c : Nat} (h1 : Conn n W a b) (h2 : Conn n W b c) : Conn n W a c := by
  induction h2 with
  | base => exact h1
  | fwd g1 g2 _ ih => exact .fwd g1 g2 ih
  | bwd g1 g2 _ ih => exact .bwd g1 g2 ih
theorem Conn.symm {n : Net} {W : Nat → Bool} {a b : Nat} (h : Conn n W a b) : Conn n W b a := by
  induction h with
  | base => exact .base
  | fwd g1 g2 _ ih => exact Conn.trans (.bwd g1 g2 .base) ih
  | bwd g1 g2 _ ih => exact Conn.trans (.fwd g1 g2 .base) ih
theorem Conn.in {n : Net} {W : Nat → Bool} (hn : n.P) {a b : Nat} (ha : a < nB n) (h : Conn n W a b) : b < nB n := by
  cases h with
  | base => exact ha
  | fwd g1 _ _ => exact (link_in hn g1).2.2.2
  | bwd g1 _ _ => exact (link_in hn g1).2.1
theorem Best.lead_pos {n : Net} {M D} (hn : n.P) (hb : Best n M D) {i k j q : Nat} (hp : peer n i k = some (j, q)) (hl : leads n D j i) : D i ≠ 0 := by
  have he := peer_ends hn hp
  intro h0
  have := hb.nb hn hp
  have hz := (hb.zero hn he.hi).1 h0
  unfold leads at hl
  have hz2 : D j = 0 := by omega
  have := (hb.zero hn he.hj).1 hz2
  have := he.id
  omega
/-- A net that is settled: what each port is. -/
structure Tree (n : Net) (M : Nat → Int) (D : Nat → Nat) (ρ : Nat → Nat) (s : Net) : Prop where
  fit : Fit n s
  lead : ∀ i k j q, peer n i k = some (j, q) → leads n D i j → (inf s i k).opn = true
  foll : ∀ i k j q, peer n i k = some (j, q) → leads n D j i → ((inf s i k).opn = true ↔ k = ρ i)
  root : ∀ i, i < nB n → D i ≠ 0 → ∃ j q, peer n i (ρ i) = some (j, q) ∧ D j + 1 = D i
  isRoot : ∀ i, i < nB n → (rootAt (bAt s i) < 0 ↔ D i = 0)
  right : ∀ i, i < nB n → RightB n M D s i
theorem Final.tree {n s : Net} {M D} (hn : n.P) (hb : Best n M D) (h : Final n M D (Rof s) s) : Tree n M D (fun i => (rootAt (bAt s i)).toNat) s := by
  have hg := h.base.good hn hb h.fit
  have opn : ∀ {i k j q}, peer n i k = some (j, q) → (inf s i k).opn = openBy (roleB (bAt s i) k (inf s i k)) 0 := by
    intro i k j q hp
    have he := peer_ends hn hp
    have ok := P.inf_ok h.fit.p (i := i) (k := k) (by rw [h.fit.len]; exact he.hi) (by rw [h.fit.plen]; exact he.hk)
    obtain ⟨h1, h2⟩ := h.role i k he.hi he.hk he.up
    rw [(Port.ok_rest ok).2.2.2.2.2, h1, h2]; rfl
  have up : ∀ i r : Nat, i < nB n → rootAt (bAt s i) = r → ∃ j q, peer n i r = some (j, q) ∧ D j + 1 = D i := by
    intro i r hi hr
    obtain ⟨c1, c2, c3, c4⟩ := (hg.right i hi).2.2 r hr
    have hu := (Port.ok_has (P.inf_ok h.fit.p (i := i) (k := r) (by rw [h.fit.len]; exact hi) (by rw [h.fit.plen]; exact c3)) c4).1
    rw [h.fit.up hn hi c3] at hu
    obtain ⟨j, q, hp⟩ := peer_up hn hi c3 hu
    refine ⟨j, q, hp, ?_⟩
    rcases leads_or hn D hp with hl | hl
    · rw [h.noL i r j q hp hl] at c4; exact absurd c4 (by simp)
    · obtain ⟨-, f2, -⟩ := hg.fed i r j q hp hl
      rw [f2] at c1
      simp only at c1
      omega
  have isRoot : ∀ i, i < nB n → (rootAt (bAt s i) < 0 ↔ D i = 0) := by
    intro i hi
    constructor
    · intro hr
      have := (hg.right i hi).1 0
      rw [ownV_neg hr] at this
      injection this with _ h2
      omega
    · intro h0
      refine Int.not_le.1 fun hr => ?_
      obtain ⟨r, e1, -, -⟩ := rootAt_is hr
      obtain ⟨j, q, -, h2⟩ := up i r hi e1
      omega
  refine ⟨h.fit, fun i k j q hp hl => ?_, fun i k j q hp hl => ?_, fun i hi h0 => ?_, isRoot, hg.right⟩
  · rw [opn hp, des_of hn hb h.fit hg.gen hp (hg.right i (peer_ends hn hp).hi) hl]; rfl
  · have he := peer_ends hn hp
    have hD := hb.lead_pos hn hp hl
    have hpos : 0 ≤ rootAt (bAt s i) := Int.not_lt.1 fun hr => hD ((isRoot i he.hi).1 hr)
    rw [opn hp, hears_of hn hb h.fit hp (hg.right i he.hi) hl (hg.fed i k j q hp hl)]
    constructor
    · intro ho
      split at ho
      · omega
      · exact absurd ho (by decide)
    · intro hk
      rw [if_pos (by omega)]; rfl
  · have hpos : 0 ≤ rootAt (bAt s i) := Int.not_lt.1 fun hr => h0 ((isRoot i hi).1 hr)
    exact up i _ hi (by omega)
theorem Tree.pass {n s : Net} {M D ρ} (hn : n.P) (h : Tree n M D ρ s) {x : Nat} {l : Link} (hx : s.links[x]? = some l) {i k j q : Nat} (hp : peer n i k = some (j, q)) (hl : l = ⟨i, k, j, q⟩ ∨ l = ⟨j, q, i, k⟩) (hld : leads n D i j) : passes s x = true ↔ q = ρ j := by
  have he := peer_ends hn hp
  have hlt := (List.getElem?_eq_some_iff.1 hx).1
  have his : i < nB s := by rw [h.fit.len]; exact he.hi
  have hjs : j < nB s := by rw [h.fit.len]; exact he.hj
  have hks : k < nP s i := by rw [h.fit.plen]; exact he.hk
  have hqs : q < nP s j := by rw [h.fit.plen]; exact he.hq
  have h1 := h.lead i k j q hp hld
  have h2 := h.foll j q i k he.back hld
  rw [passes_at h.fit.p hlt]
  unfold passesAt
  rw [hx]
  rcases hl with rfl | rfl
  · simp only [openAt_eq his hks, openAt_eq hjs hqs, h1, Bool.true_and]; exact h2
  · simp only [openAt_eq his hks, openAt_eq hjs hqs, h1, Bool.and_true]; exact h2
theorem wantP {n : Net} {x : Nat} (h : passes n x = true) : wantS n false (-1) x = true := by
  have : ¬ ((x : Int) = -1) := by omega
  simp [wantS, h, this]
theorem wantA {n : Net} {x : Nat} : wantS n true (-1) x = true := by
  have : ¬ ((x : Int) = -1) := by omega
  simp [wantS, this]
/-- To the root by what passes. -/
theorem Tree.toRoot {n s : Net} {M D ρ} (hn : n.P) (hb : Best n M D) (h : Tree n M D ρ s) : ∀ (d i : Nat), i < nB n → D i = d → ∃ r, r < nB n ∧ D r = 0 ∧ M r = M i ∧ Conn s (wantS s false (-1)) i r := by
  intro d
  induction d with
  | zero => intro i hi h0; exact ⟨i, hi, h0, rfl, .base⟩
  | succ d ih =>
    intro i hi hd
    obtain ⟨j, q, hp, hj⟩ := h.root i hi (by omega)
    have he := peer_ends hn hp
    have hnb := hb.nb hn hp
    obtain ⟨r, h1, h2, h3, h4⟩ := ih j he.hj (by omega)
    refine ⟨r, h1, h2, by omega, Conn.trans ?_ h4⟩
    obtain ⟨x, hx, hl⟩ := peer_link hn hp
    rw [← h.fit.links] at hl
    have hld : leads n D j i := by unfold leads; omega
    have hps : passes s x = true := by
      rcases hl with hl | hl
      · exact (h.pass hn hl he.back (.inr rfl) hld).2 rfl
      · exact (h.pass hn hl he.back (.inl rfl) hld).2 rfl
    rcases hl with hl | hl
    · have := Conn.fwd (n := s) (W := wantS s false (-1)) hl (wantP hps) (s := i) (by simpa using Conn.base)
      simpa using this
    · have := Conn.bwd (n := s) (W := wantS s false (-1)) hl (wantP hps) (s := i) (by simpa using Conn.base)
      simpa using this
theorem Tree.near {n s : Net} {M D ρ} (hn : n.P) (hb : Best n M D) (h : Tree n M D ρ s) {x y : Nat} (hx : x < nB n) (hy : y < nB n) (hm : M x = M y) : Conn s (wantS s false (-1)) x y := by
  obtain ⟨r, h1, h2, h3, h4⟩ := h.toRoot hn hb _ x hx rfl
  obtain ⟨r', g1, g2, g3, g4⟩ := h.toRoot hn hb _ y hy rfl
  have e1 := (hb.zero hn h1).1 h2
  have e2 := (hb.zero hn g1).1 g2
  have : r = r' := Classical.not_not.1 fun hne => P.id_ne hn h1 g1 hne (by omega)
  subst this
  exact Conn.trans h4 g4.symm
theorem Tree.sameM {n s : Net} {M D ρ} (hn : n.P) (hb : Best n M D) (h : Tree n M D ρ s) {W : Nat → Bool} {x y : Nat} (hc : Conn s W x y) : M x = M y := by
  induction hc with
  | base => rfl
  | fwd g1 _ _ ih =>
    rw [h.fit.links] at g1
    obtain ⟨i, k, j, q, rfl, hp⟩ := link_peer hn g1
    have := (hb.nb hn hp).1
    simp only [Int.toNat_natCast] at *
    omega
  | bwd g1 _ _ ih =>
    rw [h.fit.links] at g1
    obtain ⟨i, k, j, q, rfl, hp⟩ := link_peer hn g1
    have := (hb.nb hn hp).1
    simp only [Int.toNat_natCast] at *
    omega
theorem Tree.ok {n s : Net} {M D ρ} (h : Tree n M D ρ s) : s.ok = true := (Net.ok_iff s).2 h.fit.p
theorem Tree.spans {n s : Net} {M D ρ} (hn : n.P) (hb : Best n M D) (h : Tree n M D ρ s) : spans s = true := by
  unfold W.spans
  rw [h.ok, Bool.true_and, List.all_eq_true]
  intro i hi
  simp only [List.mem_range] at hi
  have hi' : i < nB n := by rw [← h.fit.len]; exact hi
  unfold spanAt
  rw [decide_eq_true_iff]
  refine List.ext_getElem (by simp [connL]) fun j h1 h2 => ?_
  simp only [connL, List.getElem_map, List.getElem_range]
  simp only [connL, List.length_map, List.length_range] at h1
  rw [Bool.eq_iff_iff, connB_iff, connB_iff]
  constructor
  · exact conn_mono fun k _ => wantA
  · intro hc
    exact h.near hn hb hi' (by rw [← h.fit.len]; exact h1) (h.sameM hn hb hc)
/-- Below a bridge. -/
inductive Desc (n : Net) (D ρ : Nat → Nat) (x : Nat) : Nat → Prop where
  | self : Desc n D ρ x x
  | step {z u q : Nat} : D z ≠ 0 → peer n z (ρ z) = some (u, q) → Desc n D ρ x u → Desc n D ρ x z
theorem Tree.ringless {n s : Net} {M D ρ} (hn : n.P) (hb : Best n M D) (h : Tree n M D ρ s) : ringless s = true := by
  unfold W.ringless
  rw [h.ok, Bool.true_and, List.all_eq_true]
  intro x0 hx
  simp only [List.mem_range] at hx
  rw [Bool.not_eq_true']
  cases hr : ringAt s x0
  · rfl
  exfalso
  unfold ringAt at hr
  rw [List.getElem?_eq_getElem hx] at hr
  simp only [Bool.and_eq_true, connB_iff] at hr
  obtain ⟨hpa, hc⟩ := hr
  have hlx := List.getElem?_eq_getElem hx
  generalize s.links[x0] = l at hlx hc
  have hln : n.links[x0]? = some l := by rw [← h.fit.links]; exact hlx
  obtain ⟨i, k, j, q, rfl, hp⟩ := link_peer hn hln
  rw [← passes_at h.fit.p hx] at hpa
  have hN := ((P_iff n).1 hn).2.2.2.2.2.1
  have main : ∀ y ky x, peer n y ky = some (x, ρ x) → leads n D y x → ((((i : Int), (k : Int)) = ((x : Int), ((ρ x : Nat) : Int)) ∨ ((j : Int), (q : Int)) = ((x : Int), ((ρ x : Nat) : Int)))) → ∀ a b, Conn s (wantS s false x0) a b → (Desc n D ρ x a ↔ Desc n D ρ x b) := by
    intro y ky x hpy hld hend a b hab
    have edge : ∀ (x' : Nat) (l' : Link), s.links[x']? = some l' → wantS s false x0 x' = true → (Desc n D ρ x l'.a.toNat ↔ Desc n D ρ x l'.b.toNat) := by
      intro x' l' hl' hw
      have hln' : n.links[x']? = some l' := by rw [← h.fit.links]; exact hl'
      obtain ⟨i', k', j', q', rfl, hp'⟩ := link_peer hn hln'
      simp only [wantS, Bool.false_or, Bool.and_eq_true, Bool.not_eq_true', decide_eq_false_iff_not] at hw
      obtain ⟨hne, hps⟩ := hw
      simp only [Int.toNat_natCast]
      have he' := peer_ends hn hp'
      have one : ∀ {u ku z : Nat}, D z ≠ 0 → peer n z (ρ z) = some (u, ku) → ((((i' : Int), (k' : Int)) = ((z : Int), ((ρ z : Nat) : Int)) ∨ ((j' : Int), (q' : Int)) = ((z : Int), ((ρ z : Nat) : Int)))) → (Desc n D ρ x u ↔ Desc n D ρ x z) := by
        intro u ku z h0 hz hze
        constructor
        · exact fun hd => .step h0 hz hd
        · intro hd
          cases hd with
          | self =>
            exfalso
            refine hne ?_
            have := link_one hN hln' hln (e := ((x : Int), ((ρ x : Nat) : Int))) (by simp only; rcases hze with hz | hz <;> simp [hz]) (by simp only; rcases hend with hz | hz <;> simp [hz])
            omega
          | step _ g1 g2 =>
            rw [hz] at g1
            injection g1 with g1; injection g1 with g1 g1'
            rw [g1]; exact g2
      rcases leads_or hn D hp' with hl2 | hl2
      · have := (h.pass hn hl' hp' (.inl rfl) hl2).1 hps
        have hb2 := he'.back
        rw [this] at hb2
        exact one (hb.lead_pos hn he'.back hl2) hb2 (.inr (by rw [this]))
      · have := (h.pass hn hl' he'.back (.inr rfl) hl2).1 hps
        have hb2 := hp'
        rw [this] at hb2
        exact (one (hb.lead_pos hn hp' hl2) hb2 (.inl (by rw [this]))).symm
    induction hab with
    | base => exact Iff.rfl
    | fwd g1 g2 _ ih => exact ih.trans (edge _ _ g1 g2)
    | bwd g1 g2 _ ih => exact ih.trans (edge _ _ g1 g2).symm
  have deep : ∀ x z, Desc n D ρ x z → z < nB n → D x ≤ D z := by
    intro x z hd
    induction hd with
    | self => exact fun _ => Nat.le_refl _
    | @step z u q' h0 g1 _ ih =>
      intro hz
      have := ih (peer_ends hn g1).hj
      obtain ⟨j2, q2, hp2, hd2⟩ := h.root z hz h0
      rw [g1] at hp2
      injection hp2 with hp2; injection hp2 with hp2 _
      subst hp2
      omega
  have he := peer_ends hn hp
  simp only [Int.toNat_natCast] at hc
  rcases leads_or hn D hp with hl | hl
  · have hq := (h.pass hn hlx hp (.inl rfl) hl).1 hpa
    have h0 := hb.lead_pos hn he.back hl
    obtain ⟨j2, q2, hp2, hd2⟩ := h.root j he.hj h0
    have hbk := he.back
    rw [hq] at hbk
    rw [hbk] at hp2
    injection hp2 with hp2; injection hp2 with hp2 _
    subst hp2
    have hp' := hp
    rw [hq] at hp'
    have := deep _ _ ((main i k j hp' hl (.inr (by rw [hq])) i j hc).2 .self) he.hi
    omega
  · have hq := (h.pass hn hlx he.back (.inr rfl) hl).1 hpa
    have h0 := hb.lead_pos hn hp hl
    obtain ⟨j2, q2, hp2, hd2⟩ := h.root i he.hi h0
    have hp' := hp
    rw [hq] at hp'
    rw [hp'] at hp2
    injection hp2 with hp2; injection hp2 with hp2 _
    subst hp2
    have hbk := he.back
    rw [hq] at hbk
    have := deep _ _ ((main j q i hbk hl (.inl (by rw [hq])) i j hc).1 .self) he.hj
    omega
theorem rootsUpto_root (n : Net) : ∀ i x, x ∈ rootsUpto n i → ∃ j : Nat, j < nB n ∧ x = j ∧ (rootPort (bAt n j)).2 = false
  | 0, x, h => by simp [rootsUpto] at h
  | i + 1, x, h => by
    rw [rootsUpto, List.mem_append] at h
    rcases h with h | h
    · exact rootsUpto_root n i x h
    · split at h
      · rename_i b hb
        split at h
        · simp at h
        · rename_i hr
          simp at h
          obtain ⟨h1, h2⟩ := List.getElem?_eq_some_iff.1 hb
          refine ⟨i, h1, h, ?_⟩
          rw [bAt_eq h1, h2]; simpa using hr
      · simp at h
theorem idAt_eq {n : Net} {i : Nat} (hi : i < nB n) : idAt n i = idB n i := by
  unfold idAt idB
  rw [List.getElem?_eq_getElem hi, bAt_eq hi]
theorem Tree.isTree {n s : Net} {M D ρ} (hn : n.P) (hb : Best n M D) (h : Tree n M D ρ s) : isTree s = true := by
  unfold W.isTree
  rw [h.ringless hn hb, h.spans hn hb, Bool.true_and, Bool.true_and, List.all_eq_true]
  intro x hx
  obtain ⟨r, hr, rfl, hrp⟩ := rootsUpto_root s _ _ hx
  have hrn : r < nB n := by rw [← h.fit.len]; exact hr
  have hneg : rootAt (bAt s r) < 0 := by
    simp [rootPort, P.ok h.fit.p hr] at hrp
    exact hrp
  have h0 := (h.isRoot r hrn).1 hneg
  unfold rootOk
  rw [List.all_eq_true]
  intro y hy
  obtain ⟨j, hj, rfl⟩ := reachL_in hy
  simp only [Int.toNat_natCast] at hy ⊢
  have hjn : j < nB n := by rw [← h.fit.len]; exact hj
  have hc := (connB_iff _ _ _ _).1 ((reachL_mem hj).1 hy)
  have hm := h.sameM hn hb hc
  have e1 := (hb.zero hn hrn).1 h0
  have e2 := hb.le j j 0 (.nil hjn)
  have f1 := idAt_eq hj
  have f2 := idAt_eq hr
  have f3 := h.fit.id j
  have f4 := h.fit.id r
  have f5 : ¬ idAt s j < idAt s r := by omega
  simpa using f5

theorem sameIntsL {H : Heap} {q r : Lf} {xs ys : List Int} (h : RdIntS H q xs) (h2 : RdIntS H r ys) (hn : xs.length ≤ 1048576) : run env 32 [.w (.lf q), .w (.lf r)] H = some (.bool (decide (xs = ys)), H) := by
  obtain ⟨a, rfl, ha⟩ := h
  obtain ⟨b, rfl, hb⟩ := h2
  refine run_walk ok32 Try.func32 rfl (by simp [Try.f32]) fun Q hQ => ?_
  simp only [Try.f32, strip, stripL, stripI, stripG, chkT, tagsB, tagsL, tagD, addT, tagA, lookN, tagOp, elmT, ty22, ty24, ty25, ty33, ty54, ty58, ty95, ty122, Nat.reduceEqDiff, if_false, reduceIte, Option.getD_some, Option.getD_none, dstAt, dstOk, Nat.reduceLT, decide_true, if_true]
  simp [builtinV, pureB, lenV]
  refine selS_intro (fun hl => ?_) (fun hl => ?_)
  · simp
    refine hQ _ _ _ (by simp) ?_
    simp at hl
    have : ¬ xs = ys := fun h => hl (by rw [h])
    simp [Try.f32, this]
  simp at hl
  simp [builtinV, pureB, lenV]
  refine wpS_loop (fun j tm H' => ∃ i, i + j = xs.length ∧ tm 0 = .w (.lf (.sl a xs.length)) ∧ tm 1 = .w (.lf (.sl b ys.length)) ∧ tm 5 = .int i ∧ H' = H ∧ xs.take i = ys.take i) xs.length (by rw [env_K]; omega) ⟨0, by simp, by simp, by simp, by simp, rfl, by simp⟩ ?_
  rintro j tm H' hj ⟨i, hij, h0, h1, h5, rfl, heq⟩ Q' hn' he' hr'
  simp [h0, h1, h5, builtinV, pureB, lenV]
  refine selS_intro (fun hc => ?_) (fun hc => ?_)
  · simp at hc
    have hc2 : i < ys.length := by omega
    obtain ⟨id, r, bl, rfl, hbl, hbe, hrow⟩ := ha i _ (by simp [hc]; rfl)
    obtain ⟨id2, r2, bl2, rfl, hbl2, hbe2, hrow2⟩ := hb i _ (by simp [hc2]; rfl)
    have g4 : IntKind.i64.wrap ((i : Int) + 1) = (i : Int) + 1 := wrap64 (by omega) (by omega)
    simp [h0, h1, h5, indexAddrV, elemIs, hbl, hbe, hbl2, hbe2, hc, hc2, hrow, hrow2, encI]
    refine selS_intro (fun hd => ?_) (fun hd => ?_)
    · simp
      refine hr' _ _ ?_
      simp
      refine hQ _ _ _ (by simp) ?_
      have : ¬ xs = ys := fun h => by subst h; simp at hd
      simp [Try.f32, this]
    · have hxy : xs[i] = ys[i] := by
        refine encI_inj ?_
        simpa [encI] using hd
      simp [h0, h1, h5, g4]
      exact hn' (j - 1) _ _ (by omega) ⟨i + 1, by omega, by simp [h0], by simp [h1], by simp, rfl, by rw [List.take_add_one, List.take_add_one, heq]; simp [hc, hc2, hxy]⟩
  · simp at hc
    simp [h0, h1, h5]
    refine he' _ _ _ ?_
    simp
    refine hQ _ _ _ (by simp) ?_
    have : xs = ys := by
      rw [List.take_of_length_le (by omega), List.take_of_length_le (by omega)] at heq
      exact heq
    simp [Try.f32, this]

def nxtP (nx : List Int) (k : Nat) : Int := nx.getD k 0
/-- Links that were drawn between so many bridges: nx: each bridge's next free port. -/
structure Wires (L : List Link) (m : Int) (nx : List Int) : Prop where
  len : nx.length = 5
  bd : ∀ k, 0 ≤ nxtP nx k ∧ nxtP nx k ≤ 4
  lk : ∀ l ∈ L, l.a ≠ l.b ∧ 0 ≤ l.a ∧ l.a < m ∧ 0 ≤ l.b ∧ l.b < m ∧ 0 ≤ l.p ∧ l.p < nxtP nx l.a.toNat ∧ 0 ≤ l.q ∧ l.q < nxtP nx l.b.toNat
  nd : (endsOf L).Nodup
theorem Wires.nil (m : Int) : Wires [] m [0, 0, 0, 0, 0] := by
  refine ⟨rfl, fun k => ?_, by simp, by simp [endsOf]⟩
  match k with
  | 0 | 1 | 2 | 3 | 4 => simp [nxtP, List.getD]
  | k + 5 => simp [nxtP, List.getD]
theorem nxtP_set (xs : List Int) (k j : Nat) (v : Int) (hk : k < xs.length) : nxtP (xs.set k v) j = if j = k then v else nxtP xs j := by
  simp only [nxtP, List.getD_eq_getElem?_getD, List.getElem?_set]
  by_cases h : k = j
  · subst h; simp [hk]
  · simp [h, show ¬ j = k from fun e => h e.symm]
theorem Wires.add {L : List Link} {m : Int} {nx : List Int} (h : Wires L m nx) {a b : Nat} (hm : m ≤ 5) (ha : (a : Int) < m) (hb : (b : Int) < m) (hne : a ≠ b) (h1 : nxtP nx a < 4) (h2 : nxtP nx b < 4) :
    Wires (L ++ [⟨a, nxtP nx a, b, nxtP nx b⟩]) m ((nx.set a (nxtP nx a + 1)).set b (nxtP nx b + 1)) := by
  have hl := h.len
  have g : ∀ k, nxtP ((nx.set a (nxtP nx a + 1)).set b (nxtP nx b + 1)) k = if k = b then nxtP nx b + 1 else if k = a then nxtP nx a + 1 else nxtP nx k := fun k => by
    rw [nxtP_set _ _ _ _ (by simp; omega), nxtP_set _ _ _ _ (by omega)]
  have mono : ∀ k, nxtP nx k ≤ nxtP ((nx.set a (nxtP nx a + 1)).set b (nxtP nx b + 1)) k := fun k => by
    rw [g k]
    by_cases e1 : k = b
    · subst e1; simp; omega
    · by_cases e2 : k = a
      · subst e2; simp [e1]; omega
      · simp [e1, e2]
  have a0 := h.bd a
  have b0 := h.bd b
  refine ⟨by simp [hl], fun k => ?_, fun l hl2 => ?_, ?_⟩
  · have := h.bd k
    rw [g k]
    split
    · omega
    · split <;> omega
  · rcases List.mem_append.1 hl2 with h3 | h3
    · obtain ⟨c1, c2, c3, c4, c5, c6, c7, c8, c9⟩ := h.lk l h3
      have := mono l.a.toNat
      have := mono l.b.toNat
      exact ⟨c1, c2, c3, c4, c5, c6, by omega, c8, by omega⟩
    · simp at h3
      subst h3
      simp only [Int.toNat_natCast]
      rw [g a, g b, if_neg hne, if_pos rfl, if_pos rfl]
      refine ⟨by omega, by omega, ha, by omega, hb, by omega, by omega, by omega, by omega⟩
  · have e : endsOf (L ++ [⟨a, nxtP nx a, b, nxtP nx b⟩]) = endsOf L ++ [((a : Int), nxtP nx a), ((b : Int), nxtP nx b)] := by simp [endsOf]
    rw [e, List.nodup_append]
    refine ⟨h.nd, ?_, ?_⟩
    · simp
      intro e; omega
    · intro x hx y hy
      obtain ⟨l, hl2, hc⟩ := (mem_endsOf _ _).1 hx
      obtain ⟨c1, c2, c3, c4, c5, c6, c7, c8, c9⟩ := h.lk l hl2
      simp at hy
      rintro rfl
      rcases hc with rfl | rfl
      · simp only [Prod.mk.injEq] at hy
        rcases hy with ⟨e1, e2⟩ | ⟨e1, e2⟩
        · rw [e1] at c7; simp only [Int.toNat_natCast] at c7; omega
        · rw [e1] at c7; simp only [Int.toNat_natCast] at c7; omega
      · simp only [Prod.mk.injEq] at hy
        rcases hy with ⟨e1, e2⟩ | ⟨e1, e2⟩
        · rw [e1] at c9; simp only [Int.toNat_natCast] at c9; omega
        · rw [e1] at c9; simp only [Int.toNat_natCast] at c9; omega

theorem l10DrawWires {H : Heap} {c n : Nat} (hc : Cur H c n) {m : Int} (hm1 : 1 ≤ m) (hm4 : m ≤ 5) : Runs env 55 [.ptr c 0 0, .int m] H fun v H' => (∃ (q : Lf) (L : List Link) (nx : List Int) (fp : List Nat), v = .w (.lf q) ∧ IsLinkS H' q L fp ∧ Wires L m nx ∧ L.length ≤ 6 ∧ ∀ i ∈ fp, H.length ≤ i) ∧ CurTo H H' c n := by
  have hcl := hc.lt
  refine Runs.walk ok55 Try.func55 rfl (by simp [Try.f55]) fun Q hQ => ?_
  simp only [Try.f55, strip, stripL, stripI, stripG, chkT, tagsB, tagsL, tagD, addT, tagA, lookN, tagOp, elmT, ty22, ty24, ty25, ty33, ty54, ty58, ty95, ty122, Nat.reduceEqDiff, if_false, reduceIte, Option.getD_some, Option.getD_none, dstAt, dstOk, Nat.reduceLT, decide_true, if_true]
  obtain ⟨Y, hY⟩ : ∃ Y : Heap, Y = H ++ [some ⟨50, .wr, []⟩, some ⟨3, .wr, [[.i .i64 0], [.i .i64 0], [.i .i64 0], [.i .i64 0], [.i .i64 0]]⟩] := ⟨_, rfl⟩
  have bD : blkAt Y H.length = some ⟨50, .wr, []⟩ := by rw [hY]; simp
  have bN : blkAt Y (H.length + 1) = some ⟨3, .wr, ([0, 0, 0, 0, 0] : List Int).map encI⟩ := by rw [hY]; simp [encI]
  have hcY : CurTo H Y c n := by rw [hY]; exact (CurTo.refl hc).app _
  have oD : Own Y 50 (some (H.length, 0)) [] [H.length] := Own.of bD
  simp
  rw [← hY]
  clear hY
  refine wpS_loop (fun j tm A => ∃ (i : Nat) (aa : Option (Nat × Nat)) (L : List Link) (nx : List Int) (fd : List Nat), i + j = 6 ∧ L.length ≤ i ∧ Wires L m nx ∧ tm 0 = .ptr c 0 0 ∧ tm 1 = .int m ∧ tm 5 = .w (.lf (.sl aa L.length)) ∧ tm 6 = .w (.lf (.sl (some (H.length + 1, 0)) 5)) ∧ tm 7 = .int i ∧ CurTo H A c n ∧ blkAt A (H.length + 1) = some ⟨3, .wr, nx.map encI⟩ ∧ Own A 50 aa (L.map Link.enc) fd ∧ ∀ k ∈ fd, H.length ≤ k ∧ k ≠ H.length + 1) 6 (by rw [env_K]; omega)
    ⟨0, some (H.length, 0), [], [0, 0, 0, 0, 0], [H.length], by simp, by simp, Wires.nil m, by simp, by simp, by simp, by simp, by simp, hcY, bN, oD, by simp⟩ ?_
  rintro j tm A hj ⟨i, aa, L, nx, fd, hij, hLl, hw, t0, t1, t5, t6, t7, hcA, bA, oq, hfd⟩ Q2 hn2 he2 hr2
  simp [t0, t7]
  refine stpL_runs (l1Below hcA.2 7) ?_
  rintro _ B ⟨⟨u, rfl, hu0, hu1, -⟩, htoB⟩
  have hu := hu1 (by omega)
  have hcB := hcA.next htoB
  have hne : ∀ (k : Nat), H.length ≤ k → k ∉ [c] := fun k hm h => by simp at h; omega
  have oqB := oq.keep htoB.1 (fun k hk => hne k (hfd k hk).1)
  have bB := htoB.1.blk bA (hne _ (by omega))
  have hwI : IntKind.i64.wrap ((i : Int) + 1) = (i : Int) + 1 := wrap64 (by omega) (by omega)
  simp [t0, t1, t5, t6, t7]
  refine selS_intro (fun hc2 => ?_) (fun hc2 => ?_)
  · simp at hc2
    simp [t0, t1, t5, t6, t7]
    refine stpL_runs (l1Below htoB.2 m) ?_
    rintro _ D ⟨⟨a, rfl, ha0, ha1, -⟩, htoD⟩
    have ha := ha1 (by omega)
    obtain ⟨a, rfl⟩ : ∃ x : Nat, a = (x : Int) := ⟨a.toNat, by omega⟩
    have hcD := hcB.next htoD
    simp [t0, t1, t5, t6, t7]
    refine stpL_runs (l1Below htoD.2 m) ?_
    rintro _ F ⟨⟨b, rfl, hb0, hb1, -⟩, htoF⟩
    have hb := hb1 (by omega)
    obtain ⟨b, rfl⟩ : ∃ x : Nat, b = (x : Int) := ⟨b.toNat, by omega⟩
    have hcF := hcD.next htoF
    have oqF := (oqB.keep htoD.1 (fun k hk => hne k (hfd k hk).1)).keep htoF.1 (fun k hk => hne k (hfd k hk).1)
    have bF := htoF.1.blk (htoD.1.blk bB (hne _ (by omega))) (hne _ (by omega))
    have hidF := blkAt_len bF
    have hnl := hw.len
    have ha5 : a < 5 := by omega
    have hb5 : b < 5 := by omega
    have haI : (a : Int) < 5 := by omega
    have hbI : (b : Int) < 5 := by omega
    have gra : nx[a]? = some (nxtP nx a) := by rw [nxtP, List.getD_eq_getElem?_getD, List.getElem?_eq_getElem (by omega)]; rfl
    have grb : nx[b]? = some (nxtP nx b) := by rw [nxtP, List.getD_eq_getElem?_getD, List.getElem?_eq_getElem (by omega)]; rfl
    have hab := hw.bd a
    have hbb := hw.bd b
    obtain ⟨va, hva⟩ : ∃ va, va = nxtP nx a := ⟨_, rfl⟩
    obtain ⟨vb, hvb⟩ : ∃ vb, vb = nxtP nx b := ⟨_, rfl⟩
    rw [← hva] at gra hab
    rw [← hvb] at grb hbb
    simp [t0, t1, t5, t6, t7]
    repeat' (first | (refine gdL_t (fun h => ?_) (fun h => ?_) <;> simp [h, t0, t1, t5, t6, t7, indexAddrV, elemIs, hidF, bF, ha5, hb5, haI, hbI, gra, grb, encI]) | (refine gdL_f (fun h => ?_) (fun h => ?_) <;> simp [h, t0, t1, t5, t6, t7, indexAddrV, elemIs, hidF, bF, ha5, hb5, haI, hbI, gra, grb, encI]) | (refine selS_intro (fun h => ?_) (fun h => ?_) <;> simp [h, t0, t1, t5, t6, t7, indexAddrV, elemIs, hidF, bF, ha5, hb5, haI, hbI, gra, grb, encI]))
    · refine hn2 (j - 1) _ _ (by omega) ⟨i + 1, aa, L, nx, fd, by omega, by omega, hw, by simp [t0], by simp [t1], by simp [t5], by simp [t6], by simp [hwI], hcF, bF, oqF, hfd⟩
    · refine hn2 (j - 1) _ _ (by omega) ⟨i + 1, aa, L, nx, fd, by omega, by omega, hw, by simp [t0], by simp [t1], by simp [t5], by simp [t6], by simp [hwI], hcF, bF, oqF, hfd⟩
    · refine hn2 (j - 1) _ _ (by omega) ⟨i + 1, aa, L, nx, fd, by omega, by omega, hw, by simp [t0], by simp [t1], by simp [t5], by simp [t6], by simp [hwI], hcF, bF, oqF, hfd⟩
    · have hne2 : a ≠ b := by
        intro e; subst e; simp_all
      have hva4 : va < 4 := by simp_all
      have hvb4 : vb < 4 := by simp_all
      refine stpL_append (e := 50) (rows := L.map Link.enc) (ys := [Link.enc ⟨a, va, b, vb⟩]) (oqF.app _) (Sl.of (by simp [Link.enc])) rfl rfl rfl (by simp) (by simp; omega) (by simp) rfl fun a2 E fc hoE hkE hfE => ?_
      have kE : Keep fd F E := hkE.base
      have bE := kE.blk bF (fun hk => (hfd _ hk).2 rfl)
      have hidE := blkAt_len bE
      have hcE : CurTo H E c n := hcF.own kE (fun k hk => (hfd k hk).1) hcl
      have hlF := hcF.len
      have wva : IntKind.i64.wrap (va + 1) = va + 1 := wrap64 (by omega) (by omega)
      have wvb : IntKind.i64.wrap (vb + 1) = vb + 1 := wrap64 (by omega) (by omega)
      simp [t0, t1, t6, t7, indexAddrV, elemIs, hidE, bE, ha5, hb5, haI, hbI, gra, grb, encI, wva, wvb]
      obtain ⟨N2, hN2⟩ : ∃ N2, N2 = nx.set a (va + 1) := ⟨_, rfl⟩
      have hms : (List.map encI nx).set a [Lf.i .i64 (va + 1)] = N2.map encI := by rw [hN2, List.map_set]; rfl
      obtain ⟨E2, hE2⟩ : ∃ E2 : Heap, E2 = E.set (H.length + 1) (some ⟨3, .wr, N2.map encI⟩) := ⟨_, rfl⟩
      have bE2 : blkAt E2 (H.length + 1) = some ⟨3, .wr, N2.map encI⟩ := by rw [hE2]; exact blkAt_set hidE
      have hidE2 := blkAt_len bE2
      have grb2 : N2[b]? = some vb := by rw [hN2, List.getElem?_set_ne hne2]; exact grb
      have hms2 : (List.map encI N2).set b [Lf.i .i64 (vb + 1)] = (N2.set b (vb + 1)).map encI := by rw [List.map_set]; rfl
      rw [hms, ← hE2]
      simp [t0, t1, t6, t7, indexAddrV, elemIs, hidE2, bE2, ha5, hb5, haI, hbI, grb2, encI, wvb]
      rw [hms2]
      obtain ⟨E3, hE3⟩ : ∃ E3 : Heap, E3 = E2.set (H.length + 1) (some ⟨3, .wr, (N2.set b (vb + 1)).map encI⟩) := ⟨_, rfl⟩
      have bE3 : blkAt E3 (H.length + 1) = some ⟨3, .wr, (N2.set b (vb + 1)).map encI⟩ := by rw [hE3]; exact blkAt_set hidE2
      have hcE2 : CurTo H E2 c n := by rw [hE2]; exact hcE.set (by omega) (by omega) _
      have hcE3 : CurTo H E3 c n := by rw [hE3]; exact hcE2.set (by omega) (by omega) _
      have hfc : ∀ k ∈ fc, H.length ≤ k ∧ k ≠ H.length + 1 := by
        intro k hk
        rcases hfE k hk with h | h
        · exact hfd k h
        · simp at h
          omega
      have oE3 : Own E3 50 a2 ((L ++ [(⟨a, va, b, vb⟩ : Link)]).map Link.enc) fc := by
        have h1 := hoE.keep (Keep.set (id := H.length + 1) E (some ⟨3, .wr, N2.map encI⟩)) (fun k hk hk2 => by simp at hk2; exact (hfc k hk).2 hk2)
        rw [← hE2] at h1
        have h2 := h1.keep (Keep.set (id := H.length + 1) E2 (some ⟨3, .wr, (N2.set b (vb + 1)).map encI⟩)) (fun k hk hk2 => by simp at hk2; exact (hfc k hk).2 hk2)
        rw [← hE3] at h2
        simpa using h2
      have hw2 : Wires (L ++ [⟨a, va, b, vb⟩]) m (N2.set b (vb + 1)) := by
        rw [hN2, hva, hvb]
        exact hw.add hm4 ha hb hne2 (by omega) (by omega)
      rw [← hE3]
      simp [t7, hwI]

      refine hn2 (j - 1) _ _ (by omega) ⟨i + 1, a2, L ++ [⟨a, va, b, vb⟩], N2.set b (vb + 1), fc, by omega, by simp; omega, hw2, by simp [t0], by simp [t1], by simp, by simp [t6], by simp [hwI], hcE3, bE3, oE3, hfc⟩
  · simp at hc2
    simp
    refine he2 _ _ _ ?_
    simp [t5]
    refine hQ _ _ _ (by simp) ?_
    simp [Try.f55]
    refine ⟨?_, hcB.leave hc _⟩
    rcases leave_opt H B [W.lf (.sl aa L.length)] with e | ⟨e, hr⟩ <;> rw [e]
    · exact ⟨L, nx, fd, ⟨aa, rfl, oqB⟩, hw, by omega, fun k hk => (hfd k hk).1⟩
    · exact ⟨L, nx, [], (IsSl.free ⟨aa, rfl, oqB⟩ (by simpa [W.free] using hr) H), hw, by omega, by simp⟩

/-- A bridge of a net of our own, and another one put in its place. -/
theorem netPut {H : Heap} {l : List Lf} {n : Net} {fp : List Nat} (hI : IsNet H l n fp) {t : Nat} (ht : t < n.bridges.length) :
    ∃ (bid : Nat) (blo : Blk) (l0 : List Lf) (q1 : Lf), l = [.sl (some (bid, 0)) n.bridges.length, q1] ∧ bid ∈ fp ∧ bid < H.length ∧ blkAt H bid = some blo ∧ blo.elem = 56 ∧ blo.md = .wr ∧ blo.rows[t]? = some l0 ∧ l0.length = 2 ∧ RdBridge H l0 (bAt n t) ∧
      ∀ (H1 : Heap) (l2 : List Lf) (b : Bridge) (f2 : List Nat), Keep [] H H1 → IsBridge H1 l2 b f2 → (∀ i ∈ f2, H.length ≤ i) → ∃ fp', IsNet (H1.set bid (some ⟨56, .wr, blo.rows.set t l2⟩)) l (setBr n t b) fp' ∧ Keep fp H (H1.set bid (some ⟨56, .wr, blo.rows.set t l2⟩)) ∧ ∀ i ∈ fp', i ∈ fp ∨ H.length ≤ i := by
  have hlt := hI.lt
  obtain ⟨_, _, _, f1, rfl, ⟨a, rows, fp0, fps, rfl, ho, hp, rfl, hnd0⟩, ⟨a1, rfl, o1⟩, rfl, hnd⟩ := hI
  have hdis : ∀ i ∈ fp0, i ∉ fps.flatten := fun i hi hj => (List.nodup_append.1 hnd0).2.2 i hi i hj rfl
  have x01 : ∀ i ∈ f1, i ∉ fp0 := fun i hi hj => (List.nodup_append.1 hnd).2.2 i (by simp only [List.mem_append]; exact .inl hj) i hi rfl
  have x11 : ∀ i ∈ f1, i ∉ fps.flatten := fun i hi hj => (List.nodup_append.1 hnd).2.2 i (by simp only [List.mem_append]; exact .inr hj) i hi rfl
  obtain ⟨h1, h2, h3⟩ := hp.get ht
  obtain ⟨bid, blo, rfl, hf, hb, hbe, hm, hpre⟩ := ho.blk (by rintro rfl; simp at h1)
  obtain ⟨tl, htl⟩ := hpre
  refine ⟨bid, blo, rows[t], .sl a1 n.links.length, rfl, by simp [hf], blkAt_len hb, hb, hbe, hm, by rw [← htl, List.getElem?_append_left h1, List.getElem?_eq_getElem h1], h3.len, by rw [bAt_eq ht]; exact h3.rd, fun H1 l2 b f2 hk hr hf2 => ?_⟩
  have hb1 := hk.blk hb (by simp)
  have hlo := ho.lt
  have hl1 := o1.lt
  have hkl := hk.1
  obtain ⟨p1, p2, p3, p4⟩ := placeAt ho hp hdis ht hk hr hf2 hb1
  have eb : (some { blo with rows := blo.rows.set t l2 } : Option Blk) = some ⟨56, .wr, blo.rows.set t l2⟩ := by rw [← hbe, ← hm]
  rw [eb] at p1 p2 p3
  have o1' := o1.keep p3 x01
  have nd1 := ho.nodup
  have nd2 := p2.nodup
  have nd3 := o1.nodup
  have nf : (fp0 ++ (fps.set t f2).flatten).Nodup := nodup_app nd1 nd2 (fun i hi hj => by
    rcases p4 i hj with h | h
    · exact hdis i hi h
    · have := hlo i hi; omega)
  refine ⟨(fp0 ++ (fps.set t f2).flatten) ++ f1, ⟨_, _, _, f1, rfl, ⟨some (bid, 0), rows.set t l2, fp0, fps.set t f2, by simp [setBr], p1, p2, rfl, nf⟩, ⟨a1, rfl, o1'⟩, rfl, ?_⟩, p3.more (fun i hi _ => by simp [hi]), fun i hi => ?_⟩
  · refine nodup_app nf nd3 (fun i hi hj => ?_)
    rcases List.mem_append.1 hi with h | h
    · exact x01 i hj h
    · rcases p4 i h with h | h
      · exact x11 i hj h
      · have := hl1 i hj; omega
  · simp only [List.mem_append] at hi ⊢
    rcases hi with (h | h) | h
    · exact .inl (.inl (.inl h))
    · rcases p4 i h with h | h
      · exact .inl (.inl (.inr h))
      · exact .inr h
    · exact .inl (.inr h)

/-- What is drawn for a net makes one. -/
theorem netDrawn {xs : List Int} {L : List Link} {nx : List Int} (hx : xs.Nodup) (hr : ∀ x ∈ xs, 1 ≤ x ∧ x ≤ 9) (h1 : 1 ≤ xs.length) (h4 : xs.length ≤ 4) (hw : Wires L xs.length nx) (hL : L.length ≤ 6) : (netNew xs L).2 = true ∧ (netNew xs L).1.bridges.length = xs.length ∧ (netNew xs L).1.links = L ∧ (netNew xs L).1.ok = true := by
  have hlen : (newBs (endsOf L) xs).length = xs.length := by simp [newBs]; omega
  have htk : xs.take 6 = xs := List.take_of_length_le (by omega)
  have hat : ∀ i (hi : i < xs.length), (newBs (endsOf L) xs)[i]? = some (upB xs[i] (upAt (endsOf L) i)) := by
    intro i hi
    have := hr _ (List.getElem_mem hi)
    simp only [newBs, htk, List.getElem?_mapIdx, List.getElem?_eq_getElem hi, Option.map_some, newB, if_pos this]
  have hb : ∀ i (hi : i < xs.length), bAt (⟨newBs (endsOf L) xs, L⟩ : Net) i = upB xs[i] (upAt (endsOf L) i) := by
    intro i hi
    simp only [bAt, List.getD_eq_getElem?_getD, hat i hi]; rfl
  have hok : (⟨newBs (endsOf L) xs, L⟩ : Net).ok = true := by
    rw [Net.ok_iff, P_iff]
    have hn : nB (⟨newBs (endsOf L) xs, L⟩ : Net) = xs.length := hlen
    rw [hn]
    refine ⟨⟨h1, by omega⟩, hL, fun i hi => ?_, fun i j hij hj => ?_, fun l hl => ?_, hw.nd, fun i k hi hk => ?_⟩
    · rw [hb i hi]
      have := hr _ (List.getElem_mem hi)
      have pk : ∀ b, (pq b).ok = true := by intro b; cases b <;> decide
      have e1 : (upB xs[i] (upAt (endsOf L) i)).id = xs[i] := rfl
      refine Bridge.ok_of (fun p hp => ?_) (by rw [e1]; exact ⟨this.1, this.2, by simp [upB], by simp [upB]⟩)
      simp [upB] at hp
      rcases hp with rfl | rfl | rfl | rfl <;> exact pk _
    · unfold idB
      rw [hb i (by omega), hb j hj]
      show xs[i] ≠ xs[j]
      exact (List.pairwise_iff_getElem.1 hx) i j (by omega) hj hij
    · obtain ⟨c1, c2, c3, c4, c5, c6, c7, c8, c9⟩ := hw.lk l hl
      have b1 := hw.bd l.a.toNat
      have b2 := hw.bd l.b.toNat
      have e1 := hb l.a.toNat (by omega)
      have e2 := hb l.b.toNat (by omega)
      unfold nP
      rw [e1, e2]
      simp only [upB, List.length_cons, List.length_nil]
      refine ⟨c1, ⟨c2, by omega, c6, by omega⟩, ⟨c4, by omega, c8, by omega⟩⟩
    · unfold nP at hk
      unfold inf
      rw [hb i hi] at hk ⊢
      have hk4 : k < 4 := by simpa [upB] using hk
      have e : pt (upB xs[i] (upAt (endsOf L) i)) k = pq (upAt (endsOf L) i k) := by
        rcases (show k = 0 ∨ k = 1 ∨ k = 2 ∨ k = 3 by omega) with rfl | rfl | rfl | rfl <;> rfl
      rw [e]
      have : (pq (upAt (endsOf L) i k)).up = upAt (endsOf L) i k := by unfold pq; split <;> simp_all [desP]
      rw [this, upAt, decide_eq_true_iff]
  have : netNew xs L = (⟨newBs (endsOf L) xs, L⟩, true) := by unfold netNew; rw [if_pos hok]
  rw [this]
  exact ⟨rfl, hlen, rfl, hok⟩
theorem settle_fit {n : Net} (hn : n.P) (k : Int) : Fit n (settle n k) := by
  unfold settle
  split
  · exact (stN_ga hn _).1
  · exact Fit.refl hn
theorem settle_w {n : Net} (hn : n.ok = true) (k : Int) : NetW (settle n k) ∧ (settle n k).bridges.length = n.bridges.length ∧ (settle n k).links = n.links := by
  have := settle_fit ((Net.ok_iff n).1 hn) k
  exact ⟨NetW.of this.p, this.len, this.links⟩

def NetSt (H A : Heap) (c n K : Nat) : Prop := ∃ (l : List Lf) (m : Net) (fp : List Nat), blkAt A K = some ⟨27, .wr, [l]⟩ ∧ IsNet A l m fp ∧ NetW m ∧ 1 ≤ m.bridges.length ∧ (∀ i ∈ fp, H.length + 1 ≤ i ∧ i ≠ K) ∧ CurTo H A c n ∧ blkAt A H.length = some ⟨27, .wr, [[.sl none 0, .sl none 0]]⟩
theorem NetSt.next {H H1 H2 : Heap} {c n K : Nat} (h : NetSt H H1 c n K) (h2 : CurTo H1 H2 c n) (hc : c < H.length) (hK : H.length < K) : NetSt H H2 c n K := by
  obtain ⟨l, b, fp, h3, h4, hw, h1, h5, h7, h8⟩ := h
  exact ⟨l, b, fp, h2.1.blk h3 (by simp; omega), h4.keep h2.1 (fun k hk hk2 => by have := h5 k hk; simp at hk2; omega), hw, h1, h5, h7.next h2, h2.1.blk h8 (by simp; omega)⟩
theorem NetSt.app {H H1 : Heap} {c n K : Nat} (h : NetSt H H1 c n K) (hc : c < H.length) (hK : H.length < K) (G : Heap) : NetSt H (H1 ++ G) c n K := by
  have h7 : CurTo H H1 c n := by obtain ⟨_, _, _, _, _, _, _, _, h7, _⟩ := h; exact h7
  exact h.next ((CurTo.refl h7.2).app G) hc hK
theorem l10DrawRight {H : Heap} {c n : Nat} (hc : Cur H c n) : Runs env 89 [.ptr c 0 0] H fun v H' => (∃ (l : List Lf) (m : Net) (fp : List Nat), v = .agg l ∧ IsNet H' l m fp ∧ NetW m ∧ 1 ≤ m.bridges.length ∧ ∀ i ∈ fp, H.length ≤ i) ∧ CurTo H H' c n := by
  have hcl := hc.lt
  refine Runs.walk ok89 Try.func89 rfl (by simp [Try.f89]) fun Q hQ => ?_
  simp only [Try.f89, strip, stripL, stripI, stripG, chkT, tagsB, tagsL, tagD, addT, tagA, lookN, tagOp, elmT, ty22, ty24, ty25, ty33, ty54, ty58, ty95, ty122, Nat.reduceEqDiff, if_false, reduceIte, Option.getD_some, Option.getD_none, dstAt, dstOk, Nat.reduceLT, decide_true, if_true]
  obtain ⟨X, hX⟩ : ∃ X : Heap, X = H ++ [some ⟨27, .wr, [[.sl none 0, .sl none 0]]⟩] := ⟨_, rfl⟩
  have bzX : blkAt X H.length = some ⟨27, .wr, [[.sl none 0, .sl none 0]]⟩ := by rw [hX]; simp
  have hlX : X.length = H.length + 1 := by rw [hX]; simp
  have toX : CurTo H X c n := by rw [hX]; exact (CurTo.refl hc).app _
  simp
  rw [← hX]
  clear hX
  refine stpL_runs (l10DrawIds toX.2) ?_
  rintro _ B ⟨⟨q, xs, fx, rfl, ox, hxn, hxr, hx1, hx4, hfx⟩, htoB⟩
  have hxi : ∀ (k : Nat), X.length ≤ k → k ∉ [c] := fun k hm h => by simp at h; omega
  have toB := toX.next htoB
  have bzB := htoB.1.blk bzX (by simp; omega)
  obtain ⟨ax, rfl, ox'⟩ := id ox
  simp [builtinV, pureB, lenV]
  refine stpL_runs (l10DrawWires htoB.2 (m := (xs.length : Int)) (by omega) (by omega)) ?_
  rintro _ D ⟨⟨q2, L, nx, fl, rfl, oL, hw, hL6, hfl⟩, htoD⟩
  have toD := toB.next htoD
  have bzD := htoD.1.blk bzB (by simp; omega)
  have oxD := ox.keep htoD.1 (fun k hk => hxi k (hfx k hk))
  simp
  refine stpL_runs (specNetNew_is oxD.rd (by omega) oL.rd (by omega)) ?_
  rintro _ _ ⟨l, fp, rfl, oN, ⟨⟨G, rfl⟩, hfp⟩⟩
  obtain ⟨n1, n2, n3, n4⟩ := netDrawn hxn hxr hx1 hx4 hw hL6
  generalize (netNew xs L).1 = m0 at oN n2 n3 n4
  have hw0 := NetW.ofOk n4
  have hLn := oN.len
  have hTn : l.take l.length = l := List.take_length
  rw [hLn] at hTn
  simp [hLn, hTn]
  obtain ⟨K, hK⟩ : ∃ K, K = D.length + G.length := ⟨_, rfl⟩
  have hDl := toD.len
  have hBl := htoB.len
  have hDl2 := htoD.len
  have hKl : H.length < K := by omega
  have hlt := oN.lt
  have hKe : (D ++ G).length = K := by simp [hK]
  have hfp' : ∀ k ∈ fp, H.length + 1 ≤ k ∧ k ≠ K := fun k hk => by
    have a1 := hfp k hk
    have a2 := hlt k hk
    rw [hKe] at a2
    omega
  rw [← hK]
  have hKe2 : (D ++ (G ++ [some ⟨27, .wr, [l]⟩]) : Heap).length = K + 1 := by simp [hK]
  obtain ⟨E, hE⟩ : ∃ E : Heap, E = D ++ (G ++ [some ⟨27, .wr, [l]⟩]) := ⟨_, rfl⟩
  obtain ⟨F, hF⟩ : ∃ F : Heap, F = D ++ (G ++ [some ⟨27, .wr, [l]⟩, some ⟨3, .wr, [[.i .i64 0], [.i .i64 1], [.i .i64 5], [.i .i64 30]]⟩]) := ⟨_, rfl⟩
  have hEF : F = E ++ [some ⟨3, .wr, [0, 1, 5, 30].map encI⟩] := by rw [hF, hE]; simp [encI]
  have bKF : blkAt F K = some ⟨27, .wr, [l]⟩ := by rw [hF, hK]; simp
  have toF : CurTo H F c n := by rw [hF, ← List.append_assoc]; exact (toD.app _).app _
  have bzF : blkAt F H.length = some ⟨27, .wr, [[.sl none 0, .sl none 0]]⟩ := by rw [hF]; exact blkAt_app bzD _
  have oF : IsNet F l m0 fp := by rw [hF, ← List.append_assoc]; exact oN.app _
  rw [← hE] at hKe2
  have hsl : Sl F 3 (some (K + 1, 0)) ([0, 1, 5, 30].map encI) := by
    rw [hEF, ← hKe2]
    exact Sl.of (by simp [encI])
  rw [← hF, show D.length + (G.length + 1) = K + 1 by omega]
  clear hE hF hEF oN hfp hlt hKe hK
  refine stpL_cur (l1PickInt (xs := [0, 1, 5, 30]) toF.2 hsl (by simp) (by simp)) toF.2 (by rintro _ _ ⟨_, h⟩; exact h) ?_
  rintro _ A ⟨⟨r, rfl, hr⟩, htoA⟩
  have hrI : I64 r := by simp at hr; rcases hr with rfl | rfl | rfl | rfl <;> exact ⟨by omega, by omega⟩
  have toA := toF.next htoA
  have oA := oF.keep htoA.1 (fun k hk hk2 => by have := hfp' k hk; simp at hk2; omega)
  have bKA := htoA.1.blk bKF (by simp; omega)
  have bzA := htoA.1.blk bzF (by simp; omega)
  obtain ⟨sw, sl, -⟩ := settle_w n4 r
  simp
  refine stpL_runs_f (specSettle_is oA.rd hw0.sz r hrI) (by rintro _ _ ⟨_, _, _, _, hf⟩; exact hf.1) ?_
  rintro _ _ ⟨l2, fp2, rfl, o2, ⟨⟨G2, rfl⟩, hfp2⟩⟩
  generalize settle m0 r = m2 at o2 sw sl
  have hL2 := o2.len
  have hT2 : l2.take l2.length = l2 := List.take_length
  rw [hL2] at hT2
  have hlt2 := o2.lt
  have bKG := blkAt_app bKA G2
  have hKA := blkAt_len bKA
  have hKG := blkAt_len bKG
  have hl0 : l.drop 2 = [] := by rw [← hLn]; exact List.drop_length
  simp [bKG, hKG, hL2, hT2, hl0, hLn]
  have st0 : NetSt H ((A ++ G2).set K (some ⟨27, .wr, [l2]⟩)) c n K := by
    refine ⟨l2, m2, fp2, blkAt_set hKG, o2.keep (Keep.set _ _) (fun k hk hk2 => ?_), sw, by omega, fun k hk => ?_, (toA.app G2).set (by omega) (by omega) _, by rw [blkAt_set_ne (by omega)]; exact blkAt_app bzA G2⟩
    · have := hfp2 k hk; simp at hk2; omega
    · have := hfp2 k hk; have := toA.len; omega
  obtain ⟨Z, hZ⟩ : ∃ Z : Heap, Z = (A ++ G2).set K (some ⟨27, .wr, [l2]⟩) := ⟨_, rfl⟩
  rw [← hZ] at st0 ⊢
  clear hZ
  have ret : ∀ (HF : Heap) (tm : Ab.T), tm 2 = .ptr H.length 0 0 → (∃ (l : List Lf) (m : Net) (fp : List Nat), blkAt HF H.length = some ⟨27, .wr, [l]⟩ ∧ IsNet HF l m fp ∧ NetW m ∧ 1 ≤ m.bridges.length ∧ (∀ k ∈ fp, H.length ≤ k) ∧ CurTo H HF c n) → Q .ret tm HF := by
    rintro HF tm t2 ⟨l, m, fp, h1, h2, h3, h4, h5, h6⟩
    have hL := h2.len
    have hT : l.take l.length = l := List.take_length
    rw [hL] at hT
    refine hQ _ _ _ (by simp) ?_
    have hres : resT env.τ tm HF (Try.f89.results.toList) = some [W.agg l] := by simp [Try.f89, t2, h1, hL, hT]
    rw [hres, optK_some]
    refine ⟨?_, h6.leave hc _⟩
    rcases leave_opt H HF [W.agg l] with e | ⟨e, hr⟩ <;> rw [e]
    · exact ⟨l, m, fp, rfl, h2, h3, h4, h5⟩
    · exact ⟨l, m, [], rfl, h2.free (by simpa using hr) H, h3, h4, by simp⟩
  clear hw n1 n2 n3 n4 hL2 hT2 hlt2 o2
  refine wpS_loop (fun j tm H' => ∃ i : Nat, i + j = 4 ∧ tm 0 = .ptr c 0 0 ∧ tm 2 = .ptr H.length 0 0 ∧ tm 4 = .ptr K 0 0 ∧ tm 6 = .int i ∧ NetSt H H' c n K) 4 (by rw [env_K]; omega) ⟨0, by simp, by simp, by simp, by simp, by simp, st0⟩ ?_
  rintro j tm A1 hj ⟨i, hij, t0, t2, t4, t6, st⟩ Q2 hn2 he2 hr2
  have hcA1 : Cur A1 c n := by obtain ⟨_, _, _, _, _, _, _, _, h7, _⟩ := st; exact h7.2
  simp [t0, t6]
  refine stpL_runs (l1Below hcA1 4) ?_
  rintro _ B1 ⟨⟨u, rfl, hu0, hu1, -⟩, htoB1⟩
  have hu := hu1 (by omega)
  have st1 := st.next htoB1 hcl hKl
  clear st
  have hw : IntKind.i64.wrap ((i : Int) + 1) = (i : Int) + 1 := wrap64 (by omega) (by omega)
  obtain ⟨l1, m1, f1, k1, o1, w1, p1, hf1, to1, z1⟩ := id st1
  have d1 := blkAt_len k1
  obtain ⟨q0, q1, f10, f11, e1, ⟨a1, rows1, fa, fb, e2, _⟩, _⟩ := id o1
  simp only [Net.enc] at e1
  subst e2
  have p1I : 0 < (m1.bridges.length : Int) := by omega
  have p1N : 0 < m1.bridges.length := by omega
  by_cases hc2 : (i : Int) < u
  · simp [hc2, t0, t2, t4, t6, k1, d1, e1, builtinV, pureB, lenV, p1N]
    refine stpL_runs (l1Below to1.2 m1.bridges.length) ?_
    rintro _ C1 ⟨⟨k, rfl, hk0, hk1, -⟩, htoC1⟩
    have hk := hk1 (by omega)
    obtain ⟨k, rfl⟩ : ∃ x : Nat, k = (x : Int) := ⟨k.toNat, by omega⟩
    have hkN : k < m1.bridges.length := by omega
    simp [t0, t2, t4, t6]
    refine stpL_runs (l8DrawIn htoC1.2) ?_
    rintro _ D1 ⟨⟨x, rfl⟩, htoD1⟩
    have hto2 := htoC1.next htoD1
    have st2 := ((st1.next hto2 hcl hKl).app hcl hKl [some ⟨62, .wr, [x.enc]⟩])
    have o3 := (o1.keep hto2.1 (fun k hk hk2 => by have := hf1 k hk; simp at hk2; omega)).app [some ⟨62, .wr, [x.enc]⟩]
    have k3 := blkAt_app (hto2.1.blk k1 (by simp; omega)) [some ⟨62, .wr, [x.enc]⟩]
    have z3 := blkAt_app (hto2.1.blk z1 (by simp; omega)) [some ⟨62, .wr, [x.enc]⟩]
    have to3 : CurTo H (D1 ++ [some ⟨62, .wr, [x.enc]⟩]) c n := (to1.next hto2).app _
    have bx : blkAt (D1 ++ [some ⟨62, .wr, [x.enc]⟩]) D1.length = some ⟨62, .wr, [x.enc]⟩ := by simp
    simp only [In.enc] at bx o3 k3 z3 to3 st2
    simp [In.enc]
    obtain ⟨D2, hD2⟩ : ∃ D2 : Heap, D2 = D1 ++ [some ⟨62, .wr, [[.i .i64 x.kind, .i .i64 x.port, .i .i64 x.vec.root, .i .i64 x.vec.cost, .i .i64 x.vec.bridge, .i .i64 x.vec.port, .i .i64 x.hops, .b x.up]]⟩] := ⟨_, rfl⟩
    rw [← hD2] at bx o3 k3 z3 to3 st2 ⊢
    have dx := blkAt_len bx
    have d3 := blkAt_len k3
    clear hD2
    by_cases hk1 : x.kind = 1
    · obtain ⟨bid, blo, l0, q1', e3, hbm1, hbl, hbb, hbe, hbm, hrow, hL0, hrd, hput⟩ := netPut o3 hkN
      rw [e1] at e3
      simp at e3
      obtain ⟨e5, -⟩ := e3
      have hT0 : l0.take l0.length = l0 := List.take_length
      rw [hL0] at hT0
      have hD0 : l0.drop 2 = [] := by rw [← hL0]; exact List.drop_length
      have hsz : (bAt m1 k).sz ≤ 1048576 := by
        have := (Bridge.ok_all (bAt_ok w1 hkN)).2.2.2.2
        unfold Bridge.sz; omega
      have hrun := specReact hrd hsz x
      simp only [In.enc] at hrun
      simp [hk1, t0, t2, t4, t6, k3, d3, bx, dx, e1, e5, indexAddrV, elemIs, hbl, hbb, hbe, hk, hrow, hL0, hT0, In.enc]
      rw [hk1] at hrun
      refine stpL_runs_f hrun (by rintro _ _ ⟨_, _, _, _, _, _, _, hf, _⟩; exact hf.1) ?_
      rintro _ _ ⟨l5, f5, q5, fq5, rfl, o5, oq5, ⟨⟨G5, rfl⟩, hf5⟩, -⟩
      have hL5 := o5.len
      have hT5 : l5.take l5.length = l5 := List.take_length
      rw [hL5] at hT5
      have hbb5 := blkAt_app hbb G5
      have hid5 := blkAt_len hbb5
      obtain ⟨f6, o6, k6, hf6⟩ := hput _ l5 _ f5 (Keep.app [] D2 G5) o5 (fun j hj => hf5 j (by simp [hj]))
      have st6 : NetSt H ((D2 ++ G5).set bid (some ⟨56, .wr, blo.rows.set k l5⟩)) c n K := by
        refine ⟨l1, _, f6, k6.blk k3 (fun hh => (hf1 K hh).2 rfl), o6, w1.set hkN (reactB_ok _ (bAt_ok w1 hkN)) (reactB_len _ _), by simp [setBr]; omega, fun i hi => ?_, to3.own k6 (fun i hi => by have := hf1 i hi; omega) hcl, k6.blk z3 (fun hh => by have := hf1 _ hh; omega)⟩
        rcases hf6 i hi with h | h
        · exact hf1 i h
        · omega
      simp [hbb5, hid5, hbe, hbm, hk, hrow, hL0, hL5, hT5, hD0, indexAddrV, elemIs, t6, hw]
      exact hn2 (j - 1) _ _ (by omega) ⟨i + 1, by omega, by simp [t0], by simp [t2], by simp [t4], by simp, st6⟩
    · simp [hk1, bx, dx, t6, hw]
      exact hn2 (j - 1) _ _ (by omega) ⟨i + 1, by omega, by simp [t0], by simp [t2], by simp [t4], by simp [hw], st2⟩
  · simp [hc2, t0, t2, t4, t6]
    refine he2 _ _ _ ?_
    have hL1 := o1.len
    have hT1 : l1.take l1.length = l1 := List.take_length
    rw [hL1] at hT1
    have dz1 := blkAt_len z1
    simp [t2, t4, k1, d1, hL1, hT1, z1, dz1]
    refine ret _ _ (by simp [t2]) ⟨l1, m1, f1, blkAt_set dz1, o1.keep (Keep.set _ _) (fun k hk hk2 => by have := hf1 k hk; simp at hk2; omega), w1, p1, fun k hk => by have := hf1 k hk; omega, to1.set (Nat.le_refl _) hcl _⟩

theorem cutKeep {f : List Nat} {A B : Heap} (h : Keep f A B) : Keep f A (B.take A.length) := ⟨by have := h.1; simp; omega, fun id hi hn => by rw [List.getElem?_take_of_lt hi]; exact h.2 id hi hn⟩
theorem takeKeep (n : Nat) (B : Heap) : Keep [] (B.take n) B := ⟨by simp; omega, fun id hi _ => by simp at hi; rw [List.getElem?_take_of_lt (by omega)]⟩
/-- A bridge put into a net, where meanwhile a cursor went on. -/
theorem netPutC {A B : Heap} {c : Nat} {l : List Lf} {n : Net} {fp : List Nat} (hI : IsNet A l n fp) (hk : Keep [c] A B) (hc : c ∉ fp) {t : Nat} (ht : t < n.bridges.length) :
    ∃ (bid : Nat) (blo : Blk) (l0 : List Lf) (q1 : Lf), l = [.sl (some (bid, 0)) n.bridges.length, q1] ∧ bid ∈ fp ∧ bid < A.length ∧ blkAt B bid = some blo ∧ blo.elem = 56 ∧ blo.md = .wr ∧ blo.rows[t]? = some l0 ∧ l0.length = 2 ∧
      ∀ (l2 : List Lf) (b : Bridge) (f2 : List Nat), IsBridge B l2 b f2 → (∀ i ∈ f2, A.length ≤ i) → ∃ fp', IsNet (B.set bid (some ⟨56, .wr, blo.rows.set t l2⟩)) l (setBr n t b) fp' ∧ ∀ i ∈ fp', i ∈ fp ∨ A.length ≤ i := by
  have k1 := cutKeep hk
  have k2 := takeKeep A.length B
  have hDl : (B.take A.length).length = A.length := by have := hk.1; simp; omega
  have hID := hI.keep k1 (fun i hi h => by simp at h; subst h; exact hc hi)
  obtain ⟨bid, blo, l0, q1, rfl, h1, h2, h3, h4, h5, h6, h7, -, hput⟩ := netPut hID ht
  refine ⟨bid, blo, l0, q1, rfl, h1, by rw [hDl] at h2; exact h2, k2.blk h3 (by simp), h4, h5, h6, h7, fun l2 b f2 hb hf => ?_⟩
  obtain ⟨fp', z1, -, z3⟩ := hput B l2 b f2 k2 hb (fun i hi => by rw [hDl]; exact hf i hi)
  exact ⟨fp', z1, fun i hi => by have := z3 i hi; rwa [hDl] at this⟩
theorem netSmall {n : Net} (h : n.bridges.length ≤ 5) (h2 : ∀ b ∈ n.bridges, b.ports.length ≤ 6) (h3 : n.links.length ≤ 7) : n.sz ≤ 2000 := by
  have key : ∀ bs : List Bridge, (∀ b ∈ bs, b.ports.length ≤ 6) → (bs.map Bridge.sz).sum ≤ 6 * bs.length := by
    intro bs
    induction bs with
    | nil => simp
    | cons b bs ih =>
      intro h
      have h1 := h b (by simp)
      have h2 := ih (fun c hc => h c (by simp [hc]))
      simp only [List.map_cons, List.sum_cons, List.length_cons]
      unfold Bridge.sz at h2 ⊢
      omega
  have h1 := key _ h2
  unfold Net.sz BridgeS.sz
  omega

theorem l10Draw {H : Heap} {c n : Nat} (hc : Cur H c n) : Runs env 49 [.ptr c 0 0] H fun v H' => (∃ (l : List Lf) (m : Net) (fp : List Nat), v = .agg l ∧ IsNet H' l m fp ∧ m.sz ≤ 2000 ∧ ∀ i ∈ fp, H.length ≤ i) ∧ CurTo H H' c n := by
  have hcl := hc.lt
  refine Runs.walk ok49 Try.func49 rfl (by simp [Try.f49]) fun Q hQ => ?_
  simp only [Try.f49, strip, stripL, stripI, stripG, chkT, tagsB, tagsL, tagD, addT, tagA, lookN, tagOp, elmT, ty22, ty24, ty25, ty33, ty54, ty58, ty95, ty122, Nat.reduceEqDiff, if_false, reduceIte, Option.getD_some, Option.getD_none, dstAt, dstOk, Nat.reduceLT, decide_true, if_true]
  obtain ⟨X, hX⟩ : ∃ X : Heap, X = H ++ [some ⟨27, .wr, [[.sl none 0, .sl none 0]]⟩] := ⟨_, rfl⟩
  have bzX : blkAt X H.length = some ⟨27, .wr, [[.sl none 0, .sl none 0]]⟩ := by rw [hX]; simp
  have hlX : X.length = H.length + 1 := by rw [hX]; simp
  have toX : CurTo H X c n := by rw [hX]; exact (CurTo.refl hc).app _
  simp
  rw [← hX]
  clear hX
  have ret : ∀ (HF : Heap) (tm : Ab.T), tm 2 = .ptr H.length 0 0 → (∃ (l : List Lf) (m : Net) (fp : List Nat), blkAt HF H.length = some ⟨27, .wr, [l]⟩ ∧ IsNet HF l m fp ∧ m.sz ≤ 2000 ∧ (∀ k ∈ fp, H.length ≤ k) ∧ CurTo H HF c n) → Q .ret tm HF := by
    rintro HF tm t2 ⟨l, m, fp, h1, h2, h3, h5, h6⟩
    have hL := h2.len
    have hT : l.take l.length = l := List.take_length
    rw [hL] at hT
    refine hQ _ _ _ (by simp) ?_
    have hres : resT env.τ tm HF (Try.f49.results.toList) = some [W.agg l] := by simp [Try.f49, t2, h1, hL, hT]
    rw [hres, optK_some]
    refine ⟨?_, h6.leave hc _⟩
    rcases leave_opt H HF [W.agg l] with e | ⟨e, hr⟩ <;> rw [e]
    · exact ⟨l, m, fp, rfl, h2, h3, h5⟩
    · exact ⟨l, m, [], rfl, h2.free (by simpa using hr) H, h3, by simp⟩
  refine stpL_runs (l10DrawRight toX.2) ?_
  rintro _ B0 ⟨⟨l, m, fp, rfl, om0, hw, hm1, hfp⟩, htoB⟩
  have hL := om0.len
  have hT : l.take l.length = l := List.take_length
  rw [hL] at hT
  have hD : l.drop 2 = [] := by rw [← hL]; exact List.drop_length
  have hlt := om0.lt
  obtain ⟨B, hB⟩ : ∃ B : Heap, B = B0 ++ [some ⟨27, .wr, [l]⟩] := ⟨_, rfl⟩
  obtain ⟨K, hK⟩ : ∃ K, K = B0.length := ⟨_, rfl⟩
  have toB : CurTo H B c n := by rw [hB]; exact (toX.next htoB).app _
  have om : IsNet B l m fp := by rw [hB]; exact om0.app _
  have bK : blkAt B K = some ⟨27, .wr, [l]⟩ := by rw [hB, hK]; simp
  have bz : blkAt B H.length = some ⟨27, .wr, [[.sl none 0, .sl none 0]]⟩ := by rw [hB]; exact blkAt_app (htoB.1.blk bzX (by simp; omega)) _
  have hfp2 : ∀ k ∈ fp, H.length + 1 ≤ k ∧ k < K := fun k hk => by have := hfp k hk; have := hlt k hk; omega
  have hKl : H.length < K := by have := htoB.len; omega
  simp [hL, hT]
  rw [← hB, ← hK]
  clear hB om0 hlt hfp hK
  obtain ⟨hb5, hl6⟩ := hw.len
  have hp4 : ∀ b ∈ m.bridges, b.ports.length ≤ 4 := fun b hb => (Bridge.ok_all (hw.ok b hb)).2.2.2.2
  refine stpL_runs (l1Below toB.2 10) ?_
  rintro _ C ⟨⟨u, rfl, hu0, hu1, -⟩, htoC⟩
  have toC := toB.next htoC
  have omC := om.keep htoC.1 (fun k hk hk2 => by have := hfp2 k hk; simp at hk2; omega)
  have bKC := htoC.1.blk bK (by simp; omega)
  have bzC := htoC.1.blk bz (by simp; omega)
  have dKC := blkAt_len bKC
  have dzC := blkAt_len bzC
  have hcf : c ∉ fp := fun h => by have := hfp2 c h; omega
  have hne3 : ∀ (Y : Heap) (y : Option Blk), blkAt (List.set Y K y) H.length = blkAt Y H.length := fun Y y => blkAt_set_ne (by omega)
  by_cases c0 : u = 0
  · obtain ⟨q0, q1, f0, f1, e0, ⟨a, rows, fa, fb, e1, _⟩, _⟩ := id omC
    simp only [Net.enc] at e0
    subst e1
    simp [c0, bKC, dKC, e0]
    refine stpL_cur (l8Draw toC.2) toC.2 (by rintro _ _ ⟨_, h⟩; exact h) ?_
    rintro _ D ⟨⟨l2, b, f2, rfl, ob, hbp1, hbp6, hf2⟩, htoD⟩
    have toD := toC.next htoD
    obtain ⟨bid, blo, l0, q1', e3, hbf, hbl, hbb, hbe, hbm, hrow, hL0, hput⟩ := netPutC omC htoD.1 hcf (show 0 < m.bridges.length by omega)
    obtain ⟨f3, o3, hf3⟩ := hput l2 b f2 ob hf2
    rw [e0] at e3
    simp at e3
    obtain ⟨e5, -⟩ := e3
    have hLb := ob.len
    have hTb : l2.take l2.length = l2 := List.take_length
    rw [hLb] at hTb
    have hD0 : l0.drop 2 = [] := by rw [← hL0]; exact List.drop_length
    have db := blkAt_len hbb
    have hbid := hfp2 bid hbf
    have bKD := htoD.1.blk bKC (by simp; omega)
    have bzD := htoD.1.blk bzC (by simp; omega)
    have m1N : 0 < m.bridges.length := by omega
    have m1I : 0 < (m.bridges.length : Int) := by omega
    simp [e5, indexAddrV, elemIs, hbb, db, hbe, hbm, hrow, hL0, hLb, hTb, hD0, m1N, m1I]
    obtain ⟨E, hE⟩ : ∃ E : Heap, E = D.set bid (some ⟨56, .wr, blo.rows.set 0 l2⟩) := ⟨_, rfl⟩
    have bKE : blkAt E K = some ⟨27, .wr, [l]⟩ := by rw [hE, blkAt_set_ne (by omega)]; exact bKD
    have bzE : blkAt E H.length = some ⟨27, .wr, [[.sl none 0, .sl none 0]]⟩ := by rw [hE, blkAt_set_ne (by omega)]; exact bzD
    have toE : CurTo H E c n := by rw [hE]; exact toD.set (by omega) (by omega) _
    rw [← hE] at o3 ⊢
    have dKE := blkAt_len bKE
    have dzE := blkAt_len bzE
    have hL3 : l.length = 2 := hL
    have hlr := hL
    rw [e0, e5] at bKE hT
    simp [bKE, dKE, bzE, dzE]
    refine ret _ _ (by simp) ⟨l, setBr m 0 b, f3, by rw [e0, e5]; exact blkAt_set dzE, o3.keep (Keep.set _ _) (fun k hk hk2 => ?_), ?_, fun k hk => ?_, toE.set (Nat.le_refl _) hcl _⟩
    · simp at hk2
      rcases hf3 k hk with h | h
      · have := hfp2 k h; omega
      · omega
    · refine netSmall (by simp [setBr]; omega) (fun y hy => ?_) (by simp only [setBr]; omega)
      simp only [setBr] at hy
      rcases List.mem_or_eq_of_mem_set hy with h | h
      · have := hp4 y h; omega
      · rw [h]; exact hbp6
    · rcases hf3 k hk with h | h
      · have := hfp2 k h; omega
      · omega
  · by_cases c1 : u = 1
    · obtain ⟨q0, q1, f0, f1, e0, i0, ⟨a1, e1, o1⟩, hf, hnd⟩ := id omC
      simp only [Net.enc] at e0
      subst e1
      simp [c0, c1, bKC, dKC, e0]
      refine stpL_cur (l1Below toC.2 6) toC.2 (by rintro _ _ ⟨_, h⟩; exact h) ?_
      rintro _ D1 ⟨⟨v1, rfl, v10, v11, -⟩, to1⟩
      have v12 := v11 (by omega)
      have w1 : IntKind.i64.wrap (v1 - 1) = v1 - 1 := wrap64 (by omega) (by omega)
      simp [w1]
      refine stpL_cur (l1Below to1.2 5) to1.2 (by rintro _ _ ⟨_, h⟩; exact h) ?_
      rintro _ D2 ⟨⟨v2, rfl, v20, v21, -⟩, to2⟩
      have v22 := v21 (by omega)
      simp
      refine stpL_cur (l1Below to2.2 4) to2.2 (by rintro _ _ ⟨_, h⟩; exact h) ?_
      rintro _ D3 ⟨⟨v3, rfl, v30, v31, -⟩, to3⟩
      have v32 := v31 (by omega)
      simp
      refine stpL_cur (l1Below to3.2 5) to3.2 (by rintro _ _ ⟨_, h⟩; exact h) ?_
      rintro _ D4 ⟨⟨v4, rfl, v40, v41, -⟩, to4⟩
      have v42 := v41 (by omega)
      have w4 : IntKind.i64.wrap (v4 - 1) = v4 - 1 := wrap64 (by omega) (by omega)
      have toD4 := ((to1.next to2).next to3).next to4
      have toD := toC.next toD4
      have bKD := toD4.1.blk bKC (by simp; omega)
      have bzD := toD4.1.blk bzC (by simp; omega)
      have hf0 : ∀ k ∈ f0, k ∈ fp := fun k hk => by rw [hf]; simp [hk]
      have hf1 : ∀ k ∈ f1, k ∈ fp := fun k hk => by rw [hf]; simp [hk]
      have i0D := i0.keep okBridge toD4.1 (fun k hk hk2 => by have := hfp2 k (hf0 k hk); simp at hk2; omega)
      have o1D := o1.keep toD4.1 (fun k hk hk2 => by have := hfp2 k (hf1 k hk); simp at hk2; omega)
      simp [w4]
      refine stpL_append (e := 50) (rows := m.links.map Link.enc) (ys := [Link.enc ⟨v1 - 1, v2, v3, v4 - 1⟩]) (o1D.app _) (Sl.of (by simp [Link.enc])) rfl rfl rfl (by simp) (by simp; omega) (by simp) rfl fun a2 E0 fc hoE hkE hfE => ?_
      have dKD := blkAt_len bKD
      have dzD := blkAt_len bzD
      have kE : Keep f1 D4 E0 := hkE.base
      have bKE := kE.blk bKD (fun h => by have := hfp2 K (hf1 K h); omega)
      have bzE := kE.blk bzD (fun h => by have := hfp2 _ (hf1 _ h); omega)
      have dKE := blkAt_len bKE
      have dzE := blkAt_len bzE
      have toE : CurTo H E0 c n := toD.own kE (fun k hk => by have := hfp2 k (hf1 k hk); omega) hcl
      have hfc : ∀ k ∈ fc, k ∈ f1 ∨ D4.length ≤ k := fun k hk => by
        rcases hfE k hk with h | h
        · exact .inl h
        · simp at h; exact .inr (by omega)
      simp [bKE, dKE, e0]
      obtain ⟨E, hE⟩ : ∃ E : Heap, E = E0.set K (some ⟨27, .wr, [[q0, .sl a2 (m.links.length + 1)]]⟩) := ⟨_, rfl⟩
      have bK2 : blkAt E K = some ⟨27, .wr, [[q0, .sl a2 (m.links.length + 1)]]⟩ := by rw [hE]; exact blkAt_set dKE
      have bz2 : blkAt E H.length = some ⟨27, .wr, [[.sl none 0, .sl none 0]]⟩ := by rw [hE, blkAt_set_ne (by omega)]; exact bzE
      have toE2 : CurTo H E c n := by rw [hE]; exact toE.set (by omega) (by omega) _
      have dK2 := blkAt_len bK2
      have dz2 := blkAt_len bz2
      have kS : Keep [K] E0 E := by rw [hE]; exact Keep.set _ _
      have nd := hnd
      rw [hf, List.nodup_append] at nd
      have x01 : ∀ k ∈ f0, k ∉ f1 := fun k h1 h2 => nd.2.2 k h1 k h2 rfl
      have i0E := (i0D.keep okBridge kE (fun k hk hk2 => x01 k hk hk2)).keep okBridge kS (fun k hk hk2 => by have := hfp2 k (hf0 k hk); simp at hk2; omega)
      have l4 : K < D4.length := dKD
      have o1E : Own E 50 a2 ((m.links ++ [(⟨v1 - 1, v2, v3, v4 - 1⟩ : Link)]).map Link.enc) fc := by
        have := hoE.keep kS (fun k hk hk2 => by
          simp at hk2
          rcases hfc k hk with h | h
          · have := hfp2 k (hf1 k h); omega
          · omega)
        simpa using this
      have ndN : (f0 ++ fc).Nodup := nodup_app nd.1 hoE.nodup (fun k h1 h2 => by
        rcases hfc k h2 with h | h
        · exact x01 k h1 h
        · have := hfp2 k (hf0 k h1); omega)
      have nE : IsNet E [q0, .sl a2 (m.links.length + 1)] ⟨m.bridges, m.links ++ [⟨v1 - 1, v2, v3, v4 - 1⟩]⟩ (f0 ++ fc) := ⟨q0, _, f0, fc, rfl, i0E, ⟨a2, by simp, o1E⟩, rfl, ndN⟩
      rw [← hE]
      simp [bK2, dK2, bz2, dz2]
      refine ret _ _ (by simp) ⟨_, _, f0 ++ fc, blkAt_set dz2, nE.keep (Keep.set _ _) (fun k hk hk2 => ?_), ?_, fun k hk => ?_, toE2.set (Nat.le_refl _) hcl _⟩
      · simp at hk2
        rcases List.mem_append.1 hk with h | h
        · have := hfp2 k (hf0 k h); omega
        · rcases hfc k h with h | h
          · have := hfp2 k (hf1 k h); omega
          · omega
      · exact netSmall (by simp only; omega) (fun y hy => by have := hp4 y hy; omega) (by simp; omega)
      · rcases List.mem_append.1 hk with h | h
        · have := hfp2 k (hf0 k h); omega
        · rcases hfc k h with h | h
          · have := hfp2 k (hf1 k h); omega
          · omega
    · have hT2 := hT
      simp [c0, c1, bKC, dKC, hL, hT, bzC, dzC]
      refine ret _ _ (by simp) ⟨l, m, fp, blkAt_set dzC, omC.keep (Keep.set _ _) (fun k hk hk2 => by have := hfp2 k hk; simp at hk2; omega), ?_, fun k hk => by have := hfp2 k hk; omega, toC.set (Nat.le_refl _) hcl _⟩
      exact netSmall (by omega) (fun y hy => by have := hp4 y hy; omega) (by omega)
end W
end Go.Proofs.Ytjgjjaidpceieaa

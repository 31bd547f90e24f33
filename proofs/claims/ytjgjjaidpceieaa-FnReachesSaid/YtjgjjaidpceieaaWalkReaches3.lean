/- The functions that this law reaches: what each computes. Conditions: those that each theorem names. -/
import Derived.Test.YtjgjjaidpceieaaWalkReaches2
set_option maxRecDepth 100000
set_option maxHeartbeats 4000000
set_option linter.unusedSimpArgs false
set_option linter.unusedVariables false
set_option linter.unnecessarySimpa false
namespace Go.Proofs.Ytjgjjaidpceieaa
open Go Go.Ab Go.ChangeShapes Go.WideShapes Go.ChangeAt Go.RowKit
namespace W
theorem netDrawRingless {H : Heap} {a : Option (Nat × Nat)} {bs : List Int} (hs : Sl H 5 a (bs.map encU)) (hn : bs.length ≤ 1048576) : Runs env 28 [.w (.lf (.sl a bs.length))] H fun v H' => (∃ (l : List Lf) (m : Net) (fp : List Nat), v = .agg l ∧ IsNet H' l m fp ∧ m.sz ≤ 2000) ∧ Keep [] H H' := by
  refine Runs.walk ok28 Try.func28 rfl (by simp [Try.f28]) fun Q hQ => ?_
  simp only [Try.f28, strip, stripL, stripI, stripG, chkT, tagsB, tagsL, tagD, addT, tagA, lookN, tagOp, elmT, ty22, ty24, ty25, ty33, ty54, ty58, ty95, ty122, Nat.reduceEqDiff, if_false, reduceIte, Option.getD_some, Option.getD_none, dstAt, dstOk, Nat.reduceLT, decide_true, if_true]
  obtain ⟨X0, hX0⟩ : ∃ X0 : Heap, X0 = H ++ [some ⟨27, .wr, [[.sl none 0, .sl none 0]]⟩] := ⟨_, rfl⟩
  have bz0 : blkAt X0 H.length = some ⟨27, .wr, [[.sl none 0, .sl none 0]]⟩ := by rw [hX0]; simp
  have k0 : Keep [] H X0 := by rw [hX0]; exact Keep.app _ _ _
  have hl0 : X0.length = H.length + 1 := by rw [hX0]; simp
  have hs0 : Sl X0 5 a (bs.map encU) := by rw [hX0]; exact hs.app _
  simp
  rw [← hX0]
  refine stpL_runs (l1New hs0 hn) ?_
  rintro _ X ⟨c, rfl, hc, hcl, hk⟩
  have bz := hk.blk bz0 (by simp)
  simp
  refine stpL_runs (l10Draw hc) ?_
  rintro _ Y ⟨⟨l, m, fp, rfl, om, hms, hfp⟩, hto⟩
  have bz2 := hto.1.blk bz (fun h => by simp at h; omega)
  have hY := blkAt_len bz2
  have hX := blkAt_len bz
  have hL := om.len
  have hT : l.take l.length = l := List.take_length
  rw [hL] at hT
  simp [bz2, hY, hL, hT, -set_lt]
  refine hQ _ _ _ (by simp) ?_
  obtain ⟨HF, hHF⟩ : ∃ HF : Heap, HF = Y.set H.length (some ⟨27, .wr, [l]⟩) := ⟨_, rfl⟩
  rw [← hHF]
  have b2 : blkAt HF H.length = some ⟨27, .wr, [l]⟩ := by rw [hHF]; exact blkAt_set hY
  have kF : Keep [H.length] Y HF := by rw [hHF]; exact Keep.set _ _
  have kA : Keep [] H HF := ((k0.next hk (by simp)).next hto.1 (by simp; omega)).next kF (by simp)
  have oF := om.keep kF (fun i hi h => by have := hfp i hi; simp at h; omega)
  simp [Try.f28, b2, hL, hT]
  rcases leave_opt H HF [W.agg l] with e | ⟨e, hr⟩ <;> rw [e]
  · exact ⟨⟨m, ⟨fp, oF⟩, hms⟩, kA⟩
  · exact ⟨⟨m, ⟨[], oF.free (by simpa using hr) H⟩, hms⟩, Keep.refl _ _⟩

theorem netDrawSpans {H : Heap} {a : Option (Nat × Nat)} {bs : List Int} (hs : Sl H 5 a (bs.map encU)) (hn : bs.length ≤ 1048576) : Runs env 29 [.w (.lf (.sl a bs.length))] H fun v H' => (∃ (l : List Lf) (m : Net) (fp : List Nat), v = .agg l ∧ IsNet H' l m fp ∧ m.sz ≤ 2000) ∧ Keep [] H H' := by
  refine Runs.walk ok29 Try.func29 rfl (by simp [Try.f29]) fun Q hQ => ?_
  simp only [Try.f29, strip, stripL, stripI, stripG, chkT, tagsB, tagsL, tagD, addT, tagA, lookN, tagOp, elmT, ty22, ty24, ty25, ty33, ty54, ty58, ty95, ty122, Nat.reduceEqDiff, if_false, reduceIte, Option.getD_some, Option.getD_none, dstAt, dstOk, Nat.reduceLT, decide_true, if_true]
  obtain ⟨X0, hX0⟩ : ∃ X0 : Heap, X0 = H ++ [some ⟨27, .wr, [[.sl none 0, .sl none 0]]⟩] := ⟨_, rfl⟩
  have bz0 : blkAt X0 H.length = some ⟨27, .wr, [[.sl none 0, .sl none 0]]⟩ := by rw [hX0]; simp
  have k0 : Keep [] H X0 := by rw [hX0]; exact Keep.app _ _ _
  have hl0 : X0.length = H.length + 1 := by rw [hX0]; simp
  have hs0 : Sl X0 5 a (bs.map encU) := by rw [hX0]; exact hs.app _
  simp
  rw [← hX0]
  refine stpL_runs (l1New hs0 hn) ?_
  rintro _ X ⟨c, rfl, hc, hcl, hk⟩
  have bz := hk.blk bz0 (by simp)
  simp
  refine stpL_runs (l10Draw hc) ?_
  rintro _ Y ⟨⟨l, m, fp, rfl, om, hms, hfp⟩, hto⟩
  have bz2 := hto.1.blk bz (fun h => by simp at h; omega)
  have hY := blkAt_len bz2
  have hX := blkAt_len bz
  have hL := om.len
  have hT : l.take l.length = l := List.take_length
  rw [hL] at hT
  simp [bz2, hY, hL, hT, -set_lt]
  refine hQ _ _ _ (by simp) ?_
  obtain ⟨HF, hHF⟩ : ∃ HF : Heap, HF = Y.set H.length (some ⟨27, .wr, [l]⟩) := ⟨_, rfl⟩
  rw [← hHF]
  have b2 : blkAt HF H.length = some ⟨27, .wr, [l]⟩ := by rw [hHF]; exact blkAt_set hY
  have kF : Keep [H.length] Y HF := by rw [hHF]; exact Keep.set _ _
  have kA : Keep [] H HF := ((k0.next hk (by simp)).next hto.1 (by simp; omega)).next kF (by simp)
  have oF := om.keep kF (fun i hi h => by have := hfp i hi; simp at h; omega)
  simp [Try.f29, b2, hL, hT]
  rcases leave_opt H HF [W.agg l] with e | ⟨e, hr⟩ <;> rw [e]
  · exact ⟨⟨m, ⟨fp, oF⟩, hms⟩, kA⟩
  · exact ⟨⟨m, ⟨[], oF.free (by simpa using hr) H⟩, hms⟩, Keep.refl _ _⟩

theorem netDrawRoots {H : Heap} {a : Option (Nat × Nat)} {bs : List Int} (hs : Sl H 5 a (bs.map encU)) (hn : bs.length ≤ 1048576) : Runs env 30 [.w (.lf (.sl a bs.length))] H fun v H' => (∃ (l : List Lf) (m : Net) (fp : List Nat), v = .agg l ∧ IsNet H' l m fp ∧ m.sz ≤ 2000) ∧ Keep [] H H' := by
  refine Runs.walk ok30 Try.func30 rfl (by simp [Try.f30]) fun Q hQ => ?_
  simp only [Try.f30, strip, stripL, stripI, stripG, chkT, tagsB, tagsL, tagD, addT, tagA, lookN, tagOp, elmT, ty22, ty24, ty25, ty33, ty54, ty58, ty95, ty122, Nat.reduceEqDiff, if_false, reduceIte, Option.getD_some, Option.getD_none, dstAt, dstOk, Nat.reduceLT, decide_true, if_true]
  obtain ⟨X0, hX0⟩ : ∃ X0 : Heap, X0 = H ++ [some ⟨27, .wr, [[.sl none 0, .sl none 0]]⟩] := ⟨_, rfl⟩
  have bz0 : blkAt X0 H.length = some ⟨27, .wr, [[.sl none 0, .sl none 0]]⟩ := by rw [hX0]; simp
  have k0 : Keep [] H X0 := by rw [hX0]; exact Keep.app _ _ _
  have hl0 : X0.length = H.length + 1 := by rw [hX0]; simp
  have hs0 : Sl X0 5 a (bs.map encU) := by rw [hX0]; exact hs.app _
  simp
  rw [← hX0]
  refine stpL_runs (l1New hs0 hn) ?_
  rintro _ X ⟨c, rfl, hc, hcl, hk⟩
  have bz := hk.blk bz0 (by simp)
  simp
  refine stpL_runs (l10Draw hc) ?_
  rintro _ Y ⟨⟨l, m, fp, rfl, om, hms, hfp⟩, hto⟩
  have bz2 := hto.1.blk bz (fun h => by simp at h; omega)
  have hY := blkAt_len bz2
  have hX := blkAt_len bz
  have hL := om.len
  have hT : l.take l.length = l := List.take_length
  rw [hL] at hT
  simp [bz2, hY, hL, hT, -set_lt]
  refine hQ _ _ _ (by simp) ?_
  obtain ⟨HF, hHF⟩ : ∃ HF : Heap, HF = Y.set H.length (some ⟨27, .wr, [l]⟩) := ⟨_, rfl⟩
  rw [← hHF]
  have b2 : blkAt HF H.length = some ⟨27, .wr, [l]⟩ := by rw [hHF]; exact blkAt_set hY
  have kF : Keep [H.length] Y HF := by rw [hHF]; exact Keep.set _ _
  have kA : Keep [] H HF := ((k0.next hk (by simp)).next hto.1 (by simp; omega)).next kF (by simp)
  have oF := om.keep kF (fun i hi h => by have := hfp i hi; simp at h; omega)
  simp [Try.f30, b2, hL, hT]
  rcases leave_opt H HF [W.agg l] with e | ⟨e, hr⟩ <;> rw [e]
  · exact ⟨⟨m, ⟨fp, oF⟩, hms⟩, kA⟩
  · exact ⟨⟨m, ⟨[], oF.free (by simpa using hr) H⟩, hms⟩, Keep.refl _ _⟩

theorem netDrawIsTree {H : Heap} {a : Option (Nat × Nat)} {bs : List Int} (hs : Sl H 5 a (bs.map encU)) (hn : bs.length ≤ 1048576) : Runs env 31 [.w (.lf (.sl a bs.length))] H fun v H' => (∃ (l : List Lf) (m : Net) (fp : List Nat), v = .agg l ∧ IsNet H' l m fp ∧ m.sz ≤ 2000) ∧ Keep [] H H' := by
  refine Runs.walk ok31 Try.func31 rfl (by simp [Try.f31]) fun Q hQ => ?_
  simp only [Try.f31, strip, stripL, stripI, stripG, chkT, tagsB, tagsL, tagD, addT, tagA, lookN, tagOp, elmT, ty22, ty24, ty25, ty33, ty54, ty58, ty95, ty122, Nat.reduceEqDiff, if_false, reduceIte, Option.getD_some, Option.getD_none, dstAt, dstOk, Nat.reduceLT, decide_true, if_true]
  obtain ⟨X0, hX0⟩ : ∃ X0 : Heap, X0 = H ++ [some ⟨27, .wr, [[.sl none 0, .sl none 0]]⟩] := ⟨_, rfl⟩
  have bz0 : blkAt X0 H.length = some ⟨27, .wr, [[.sl none 0, .sl none 0]]⟩ := by rw [hX0]; simp
  have k0 : Keep [] H X0 := by rw [hX0]; exact Keep.app _ _ _
  have hl0 : X0.length = H.length + 1 := by rw [hX0]; simp
  have hs0 : Sl X0 5 a (bs.map encU) := by rw [hX0]; exact hs.app _
  simp
  rw [← hX0]
  refine stpL_runs (l1New hs0 hn) ?_
  rintro _ X ⟨c, rfl, hc, hcl, hk⟩
  have bz := hk.blk bz0 (by simp)
  simp
  refine stpL_runs (l10Draw hc) ?_
  rintro _ Y ⟨⟨l, m, fp, rfl, om, hms, hfp⟩, hto⟩
  have bz2 := hto.1.blk bz (fun h => by simp at h; omega)
  have hY := blkAt_len bz2
  have hX := blkAt_len bz
  have hL := om.len
  have hT : l.take l.length = l := List.take_length
  rw [hL] at hT
  simp [bz2, hY, hL, hT, -set_lt]
  refine hQ _ _ _ (by simp) ?_
  obtain ⟨HF, hHF⟩ : ∃ HF : Heap, HF = Y.set H.length (some ⟨27, .wr, [l]⟩) := ⟨_, rfl⟩
  rw [← hHF]
  have b2 : blkAt HF H.length = some ⟨27, .wr, [l]⟩ := by rw [hHF]; exact blkAt_set hY
  have kF : Keep [H.length] Y HF := by rw [hHF]; exact Keep.set _ _
  have kA : Keep [] H HF := ((k0.next hk (by simp)).next hto.1 (by simp; omega)).next kF (by simp)
  have oF := om.keep kF (fun i hi h => by have := hfp i hi; simp at h; omega)
  simp [Try.f31, b2, hL, hT]
  rcases leave_opt H HF [W.agg l] with e | ⟨e, hr⟩ <;> rw [e]
  · exact ⟨⟨m, ⟨fp, oF⟩, hms⟩, kA⟩
  · exact ⟨⟨m, ⟨[], oF.free (by simpa using hr) H⟩, hms⟩, Keep.refl _ _⟩

theorem netDrawReach {H : Heap} {a : Option (Nat × Nat)} {bs : List Int} (hs : Sl H 5 a (bs.map encU)) (hn : bs.length ≤ 1048576) : Runs env 25 [.w (.lf (.sl a bs.length))] H fun v H' => (∃ (l : List Lf) (m : Net) (fp : List Nat) (x : Int) (y : Bool), v = .tup ([.agg l, .lf (.i .i64 x), .lf (.b y)]) ∧ IsNet H' l m fp ∧ m.sz ≤ 2000 ∧ I64 x) ∧ Keep [] H H' := by
  refine Runs.walk ok25 Try.func25 rfl (by simp [Try.f25]) fun Q hQ => ?_
  simp only [Try.f25, strip, stripL, stripI, stripG, chkT, tagsB, tagsL, tagD, addT, tagA, lookN, tagOp, elmT, ty22, ty24, ty25, ty33, ty54, ty58, ty95, ty122, Nat.reduceEqDiff, if_false, reduceIte, Option.getD_some, Option.getD_none, dstAt, dstOk, Nat.reduceLT, decide_true, if_true]
  obtain ⟨X0, hX0⟩ : ∃ X0 : Heap, X0 = H ++ [some ⟨27, .wr, [[.sl none 0, .sl none 0]]⟩] := ⟨_, rfl⟩
  have bz0 : blkAt X0 H.length = some ⟨27, .wr, [[.sl none 0, .sl none 0]]⟩ := by rw [hX0]; simp
  have k0 : Keep [] H X0 := by rw [hX0]; exact Keep.app _ _ _
  have hl0 : X0.length = H.length + 1 := by rw [hX0]; simp
  have hs0 : Sl X0 5 a (bs.map encU) := by rw [hX0]; exact hs.app _
  simp
  rw [← hX0]
  have fin : ∀ (Y : Heap) (tm : Ab.T) (l : List Lf) (m : Net) (fp : List Nat) (x : Int) (y : Bool), tm 2 = .ptr H.length 0 0 → tm 3 = .int x → tm 4 = .bool y → blkAt Y H.length = some ⟨27, .wr, [l]⟩ → IsNet Y l m fp → m.sz ≤ 2000 → I64 x → Keep [] H Y → Q .ret tm Y := by
    intro Y tm l m fp x y t2 t3 t4 b2 oF hsz hx kA
    have hL := oF.len
    have hT : l.take l.length = l := List.take_length
    rw [hL] at hT
    refine hQ _ _ _ (by simp) ?_
    have hres : resT env.τ tm Y (Try.f25.results.toList) = some [W.agg l, W.lf (.i .i64 x), W.lf (.b y)] := by simp [Try.f25, t2, t3, t4, b2, hL, hT]
    rw [hres, optK_some]
    rcases leave_opt H Y [W.agg l, W.lf (.i .i64 x), W.lf (.b y)] with e | ⟨e, hr⟩ <;> rw [e]
    · exact ⟨⟨l, m, fp, x, y, rfl, oF, hsz, hx⟩, kA⟩
    · have hr2 : l.all refFree = true := by
        simp only [List.all_cons, W.free, Bool.and_eq_true] at hr
        exact hr.1
      exact ⟨⟨l, m, [], x, y, rfl, oF.free hr2 H, hsz, hx⟩, Keep.refl _ _⟩
  refine stpL_runs (l1New hs0 hn) ?_
  rintro _ X ⟨c, rfl, hc, hcl, hk⟩
  have bz := hk.blk bz0 (by simp)
  have hcX := hc.lt
  simp
  refine stpL_runs (l10Draw hc) ?_
  rintro _ Y0 ⟨⟨l, m, fp, rfl, om0, hsz, hfp⟩, hto0⟩
  have hL := om0.len
  have hT : l.take l.length = l := List.take_length
  rw [hL] at hT
  have hD : l.drop 2 = [] := by rw [← hL]; exact List.drop_length
  obtain ⟨Y, hY⟩ : ∃ Y : Heap, Y = Y0 ++ [some ⟨27, .wr, [l]⟩] := ⟨_, rfl⟩
  have om : IsNet Y l m fp := by rw [hY]; exact om0.app _
  have hto : CurTo X Y c bs.length := by rw [hY]; exact hto0.app _
  have bK : blkAt Y Y0.length = some ⟨27, .wr, [l]⟩ := by rw [hY]; simp
  have bz2 := hto.1.blk bz (fun h => by simp at h; omega)
  have dK := blkAt_len bK
  have dz := blkAt_len bz2
  have hlY := hto0.len
  have kY : Keep [] H Y := (k0.next hk (by simp)).next hto.1 (by simp; omega)
  obtain ⟨q0, q1, f0, f1, e0, ⟨ab, rows, fa, fb, e1, _⟩, ⟨al, e2, _⟩, _⟩ := id om
  simp only [Net.enc] at e0
  subst e1 e2
  have hbl := BridgeS.sz_len m.bridges
  have hml : m.bridges.length ≤ 2000 ∧ m.links.length ≤ 2000 := by unfold Net.sz at hsz; omega
  have w2 : IntKind.i64.wrap ((m.bridges.length : Int) + 2) = (m.bridges.length : Int) + 2 := wrap64 (by omega) (by omega)
  have w3 : IntKind.i64.wrap ((m.links.length : Int) + 2) = (m.links.length : Int) + 2 := wrap64 (by omega) (by omega)
  simp [hL, hT]
  rw [← hY]
  simp [bK, dK, e0, builtinV, pureB, lenV, w2]
  refine stpL_runs (l1Below hto.2 _) ?_
  rintro _ A ⟨⟨x, rfl, hx0, hx1, hx2⟩, htoA⟩
  have w4 : IntKind.i64.wrap (x - 1) = x - 1 := wrap64 (by omega) (by omega)
  have bKA := htoA.1.blk bK (fun h => by simp at h; omega)
  have bzA := htoA.1.blk bz2 (fun h => by simp at h; omega)
  have oA := om.keep htoA.1 (fun i hi h => by have := hfp i hi; simp at h; omega)
  have dKA := blkAt_len bKA
  simp [w4, bKA, dKA, e0]
  refine stpL_cur (l1Once htoA.2 2) htoA.2 (by rintro _ _ ⟨_, h⟩; exact h) ?_
  rintro _ B ⟨⟨y, rfl⟩, htoB⟩
  have bzB := htoB.1.blk bzA (fun h => by simp at h; omega)
  have oB := oA.keep htoB.1 (fun i hi h => by have := hfp i hi; simp at h; omega)
  have dzB := blkAt_len bzB
  have kB : Keep [] H B := (kY.next htoA.1 (by simp; omega)).next htoB.1 (by simp; omega)
  simp [bzB, dzB]
  refine fin _ _ l m fp (x - 1) y (by simp) (by simp) (by simp) (by rw [e0]; exact blkAt_set dzB) (oB.keep (Keep.set _ _) (fun i hi h => by have := hfp i hi; simp at h; omega)) hsz ⟨by omega, by omega⟩ (kB.next (Keep.set _ _) (by simp))

theorem netDrawPasses {H : Heap} {a : Option (Nat × Nat)} {bs : List Int} (hs : Sl H 5 a (bs.map encU)) (hn : bs.length ≤ 1048576) : Runs env 27 [.w (.lf (.sl a bs.length))] H fun v H' => (∃ (l : List Lf) (m : Net) (fp : List Nat) (x : Int), v = .tup ([.agg l, .lf (.i .i64 x)]) ∧ IsNet H' l m fp ∧ m.sz ≤ 2000 ∧ I64 x) ∧ Keep [] H H' := by
  refine Runs.walk ok27 Try.func27 rfl (by simp [Try.f27]) fun Q hQ => ?_
  simp only [Try.f27, strip, stripL, stripI, stripG, chkT, tagsB, tagsL, tagD, addT, tagA, lookN, tagOp, elmT, ty22, ty24, ty25, ty33, ty54, ty58, ty95, ty122, Nat.reduceEqDiff, if_false, reduceIte, Option.getD_some, Option.getD_none, dstAt, dstOk, Nat.reduceLT, decide_true, if_true]
  obtain ⟨X0, hX0⟩ : ∃ X0 : Heap, X0 = H ++ [some ⟨27, .wr, [[.sl none 0, .sl none 0]]⟩] := ⟨_, rfl⟩
  have bz0 : blkAt X0 H.length = some ⟨27, .wr, [[.sl none 0, .sl none 0]]⟩ := by rw [hX0]; simp
  have k0 : Keep [] H X0 := by rw [hX0]; exact Keep.app _ _ _
  have hl0 : X0.length = H.length + 1 := by rw [hX0]; simp
  have hs0 : Sl X0 5 a (bs.map encU) := by rw [hX0]; exact hs.app _
  simp
  rw [← hX0]
  have fin : ∀ (Y : Heap) (tm : Ab.T) (l : List Lf) (m : Net) (fp : List Nat) (x : Int), tm 2 = .ptr H.length 0 0 → tm 3 = .int x → blkAt Y H.length = some ⟨27, .wr, [l]⟩ → IsNet Y l m fp → m.sz ≤ 2000 → I64 x → Keep [] H Y → Q .ret tm Y := by
    intro Y tm l m fp x t2 t3 b2 oF hsz hx kA
    have hL := oF.len
    have hT : l.take l.length = l := List.take_length
    rw [hL] at hT
    refine hQ _ _ _ (by simp) ?_
    have hres : resT env.τ tm Y (Try.f27.results.toList) = some [W.agg l, W.lf (.i .i64 x)] := by simp [Try.f27, t2, t3, b2, hL, hT]
    rw [hres, optK_some]
    rcases leave_opt H Y [W.agg l, W.lf (.i .i64 x)] with e | ⟨e, hr⟩ <;> rw [e]
    · exact ⟨⟨l, m, fp, x, rfl, oF, hsz, hx⟩, kA⟩
    · have hr2 : l.all refFree = true := by
        simp only [List.all_cons, W.free, Bool.and_eq_true] at hr
        exact hr.1
      exact ⟨⟨l, m, [], x, rfl, oF.free hr2 H, hsz, hx⟩, Keep.refl _ _⟩
  refine stpL_runs (l1New hs0 hn) ?_
  rintro _ X ⟨c, rfl, hc, hcl, hk⟩
  have bz := hk.blk bz0 (by simp)
  have hcX := hc.lt
  simp
  refine stpL_runs (l10Draw hc) ?_
  rintro _ Y0 ⟨⟨l, m, fp, rfl, om0, hsz, hfp⟩, hto0⟩
  have hL := om0.len
  have hT : l.take l.length = l := List.take_length
  rw [hL] at hT
  have hD : l.drop 2 = [] := by rw [← hL]; exact List.drop_length
  obtain ⟨Y, hY⟩ : ∃ Y : Heap, Y = Y0 ++ [some ⟨27, .wr, [l]⟩] := ⟨_, rfl⟩
  have om : IsNet Y l m fp := by rw [hY]; exact om0.app _
  have hto : CurTo X Y c bs.length := by rw [hY]; exact hto0.app _
  have bK : blkAt Y Y0.length = some ⟨27, .wr, [l]⟩ := by rw [hY]; simp
  have bz2 := hto.1.blk bz (fun h => by simp at h; omega)
  have dK := blkAt_len bK
  have dz := blkAt_len bz2
  have hlY := hto0.len
  have kY : Keep [] H Y := (k0.next hk (by simp)).next hto.1 (by simp; omega)
  obtain ⟨q0, q1, f0, f1, e0, ⟨ab, rows, fa, fb, e1, _⟩, ⟨al, e2, _⟩, _⟩ := id om
  simp only [Net.enc] at e0
  subst e1 e2
  have hbl := BridgeS.sz_len m.bridges
  have hml : m.bridges.length ≤ 2000 ∧ m.links.length ≤ 2000 := by unfold Net.sz at hsz; omega
  have w2 : IntKind.i64.wrap ((m.bridges.length : Int) + 2) = (m.bridges.length : Int) + 2 := wrap64 (by omega) (by omega)
  have w3 : IntKind.i64.wrap ((m.links.length : Int) + 2) = (m.links.length : Int) + 2 := wrap64 (by omega) (by omega)
  simp [hL, hT]
  rw [← hY]
  simp [bK, dK, e0, builtinV, pureB, lenV, w3]
  refine stpL_cur (l1Below hto.2 _) hto.2 (by rintro _ _ ⟨_, h⟩; exact h) ?_
  rintro _ A ⟨⟨x, rfl, hx0, hx1, hx2⟩, htoA⟩
  have w4 : IntKind.i64.wrap (x - 1) = x - 1 := wrap64 (by omega) (by omega)
  have bzA := htoA.1.blk bz2 (fun h => by simp at h; omega)
  have oA := om.keep htoA.1 (fun i hi h => by have := hfp i hi; simp at h; omega)
  have dzA := blkAt_len bzA
  have kA : Keep [] H A := kY.next htoA.1 (by simp; omega)
  simp [w4, bzA, dzA]
  refine fin _ _ l m fp (x - 1) (by simp) (by simp) (by rw [e0]; exact blkAt_set dzA) (oA.keep (Keep.set _ _) (fun i hi h => by have := hfp i hi; simp at h; omega)) hsz ⟨by omega, by omega⟩ (kA.next (Keep.set _ _) (by simp))

theorem withinL {H : Heap} {a : Option (Nat × Nat)} {xs : List Int} (h : Sl H 3 a (xs.map encI)) (hn : xs.length ≤ 1048576) (x : Int) :
    run env 44 [.w (.lf (.sl a xs.length)), .int x] H = some (.bool (decide (x ∈ xs)), H) := by
  refine run_walk ok44 Try.func44 rfl (by simp [Try.f44]) fun Q hQ => ?_
  simp only [Try.f44, strip, stripL, stripI, stripG, chkT, tagsB, tagsL, tagD, addT, tagA, lookN, tagOp, elmT, ty22, ty24, ty25, ty33, ty54, ty58, ty95, ty122, Nat.reduceEqDiff, if_false, reduceIte, Option.getD_some, Option.getD_none, dstAt, dstOk, Nat.reduceLT, decide_true, if_true]
  simp
  refine wpS_loop (fun j tm H' => ∃ i, i + j = xs.length ∧ tm 0 = .w (.lf (.sl a xs.length)) ∧ tm 1 = .int x ∧ tm 5 = .int i ∧ H' = H ∧ x ∉ xs.take i) xs.length (by rw [env_K]; omega) ⟨0, by simp, by simp, by simp, by simp, rfl, by simp⟩ ?_
  rintro j tm H' hj ⟨i, hij, t0, t1, t5, rfl, hz⟩ Q2 hn2 he2 hr2
  simp [t0, t1, t5, builtinV, pureB, lenV]
  refine selS_intro (fun hc => ?_) (fun hc => ?_)
  · simp at hc
    obtain ⟨id, r, bl, rfl, hbl, hbe, hrow⟩ := h i _ (by simp [hc]; rfl)
    have g4 : IntKind.i64.wrap ((i : Int) + 1) = (i : Int) + 1 := wrap64 (by omega) (by omega)
    simp [t0, t1, t5, indexAddrV, elemIs, hbl, hbe, hc, hrow, encI]
    refine selS_intro (fun hd => ?_) (fun hd => ?_)
    · simp at hd
      simp
      refine hr2 _ _ ?_
      simp
      refine hQ _ _ _ (by simp) ?_
      simp [Try.f44]
      exact hd ▸ List.getElem_mem hc
    · simp at hd
      simp [t0, t1, t5, g4]
      refine hn2 (j - 1) _ _ (by omega) ⟨i + 1, by omega, by simp [t0], by simp [t1], by simp, rfl, ?_⟩
      rw [List.take_add_one, List.getElem?_eq_getElem hc, List.mem_append]
      rintro (hx | hx)
      · exact hz hx
      · simp at hx; exact hd hx.symm
  · simp at hc
    rw [List.take_of_length_le (by omega)] at hz
    simp [t0, t5]
    refine he2 _ _ _ ?_
    simp
    refine hQ _ _ _ (by simp) ?_
    simp [Try.f44, hz]

theorem reach_ok {n : Net} {s : Int} {all : Bool} {x : Int} (h : x ∈ reach n s all) : n.P ∧ 0 ≤ s ∧ s < (nB n : Int) ∧ 0 ≤ x ∧ x < (nB n : Int) ∧ Conn n (wantS n all (-1)) s.toNat x.toNat := by
  unfold reach at h
  split at h
  · rename_i hc
    simp at hc
    obtain ⟨h1, h2, h3⟩ := hc
    obtain ⟨j, hj, rfl⟩ := reachL_in h
    have hs : s.toNat < nB n := by unfold nB; omega
    have hj' : j < nB n := hj
    refine ⟨(Net.ok_iff n).1 h1, h2, h3, by omega, by omega, ?_⟩
    have := (connB_iff _ _ _ _).1 ((reachL_mem hj).1 h)
    simpa using this
  · simp at h
theorem reach_of {n : Net} {s x : Int} {all : Bool} (hn : n.P) (hs : 0 ≤ s ∧ s < (nB n : Int)) (hx : 0 ≤ x ∧ x < (nB n : Int)) (h : Conn n (wantS n all (-1)) s.toNat x.toNat) : x ∈ reach n s all := by
  have hok := (Net.ok_iff n).2 hn
  have hs2 : s < (n.bridges.length : Int) := hs.2
  have hxl : x.toNat < n.bridges.length := by have : x < (n.bridges.length : Int) := hx.2; omega
  unfold reach
  rw [if_pos (by simp [hok, hs.1, hs2])]
  have := (reachL_mem (n := n) (W := wantS n all (-1)) (s := s.toNat) hxl).2 ((connB_iff _ _ _ _).2 h)
  rw [Int.toNat_of_nonneg hx.1] at this
  exact this
/-- Who is come to comes back, and is come to by all links. -/
theorem reach_back {n : Net} {s x : Int} {all : Bool} (h : x ∈ reach n s all) : s ∈ reach n x all ∧ x ∈ reach n s true := by
  obtain ⟨h1, h2, h3, h4, h5, h6⟩ := reach_ok h
  exact ⟨reach_of h1 ⟨h4, h5⟩ ⟨h2, h3⟩ h6.symm, reach_of h1 ⟨h2, h3⟩ ⟨h4, h5⟩ (conn_mono (fun _ _ => wantA) h6)⟩
theorem reach_self {n : Net} {s x : Int} {all : Bool} (h : x ∈ reach n s all) : s ∈ reach n s all := by
  obtain ⟨h1, h2, h3, h4, h5, h6⟩ := reach_ok h
  exact reach_of h1 ⟨h2, h3⟩ ⟨h2, h3⟩ .base
/-- Nobody is come to: only where the net is not right, or there is no such bridge. -/
theorem reach_none {n : Net} {s : Int} {all : Bool} (h : reach n s all = []) : n.ok = false ∨ s < 0 ∨ (n.bridges.length : Int) ≤ s := by
  cases hok : n.ok
  · exact .inl rfl
  · right
    by_cases h1 : 0 ≤ s ∧ s < (n.bridges.length : Int)
    · exfalso
      have := reach_of (all := all) ((Net.ok_iff n).1 hok) (s := s) (x := s) h1 h1 .base
      rw [h] at this
      simp at this
    · omega
theorem isTree_yes {n : Net} (h : isTree n = true) : ringless n = true ∧ spans n = true := by
  unfold isTree at h
  simp at h
  exact h.1

theorem reachesLaw {H : Heap} {a : Option (Nat × Nat)} {bs : List Int} (hs : Sl H 5 a (bs.map encU)) : Runs env 4 [.w (.lf (.sl a bs.length))] H fun v _ => v = .bool true := by
  have eb := fun (H : Heap) => bigL (H := H) (a := a) (n := bs.length)
  refine Runs.walk ok4 Try.func4 rfl (by simp [Try.f4]) fun Q hQ => ?_
  simp only [Try.f4, strip, stripL, stripI, stripG, chkT, tagsB, tagsL, tagD, addT, tagA, lookN, tagOp, elmT, ty22, ty24, ty25, ty33, ty54, ty58, ty95, ty122, Nat.reduceEqDiff, if_false, reduceIte, Option.getD_some, Option.getD_none, dstAt, dstOk, Nat.reduceLT, decide_true, if_true]
  simp [eb]
  refine selS_intro (fun hb => ?_) (fun hb => ?_)
  · simp
    refine hQ _ _ _ (by simp) ?_
    simp [Try.f4]
  simp at hb
  have hn : bs.length ≤ 1048576 := by omega
  simp
  refine stpL_runs (netDrawReach hs hn) ?_
  rintro _ X0 ⟨⟨l, m, fp, x, y, rfl, om0, hsz, hxI⟩, kX0⟩
  have hL := om0.len
  have hT : l.take l.length = l := List.take_length
  rw [hL] at hT
  obtain ⟨X, hX⟩ : ∃ X : Heap, X = X0 ++ [some ⟨27, .wr, [l]⟩] := ⟨_, rfl⟩
  obtain ⟨K3, hK3⟩ : ∃ K, K = X0.length := ⟨_, rfl⟩
  have om : IsNet X l m fp := by rw [hX]; exact om0.app _
  have b3 : blkAt X K3 = some ⟨27, .wr, [l]⟩ := by rw [hX, hK3]; simp
  have kX : Keep [] H X := by rw [hX]; exact kX0.next (Keep.app [] _ _) (by simp)
  have d3 := blkAt_len b3
  simp [hL, hT]
  rw [← hX, ← hK3]
  refine stpL_runs (implReach_is om.rd (by omega) x hxI y) ?_
  rintro _ Y ⟨q, fq, rfl, oq, hfq⟩
  have kY := hfq.kp
  obtain ⟨aq, hq, _⟩ := id oq
  have b3Y := kY.blk b3 (by simp)
  have omY := om.keep kY (by simp)
  have hsY := (hs.keep kX (by simp)).keep kY (by simp)
  simp
  refine stpL_runs (netDrawPasses hsY hn) ?_
  rintro _ Z0 ⟨⟨lp, mp, fpp, kp, rfl, op, hszp, hkI⟩, kZ0⟩
  have hLp := op.len
  have hTp : lp.take lp.length = lp := List.take_length
  rw [hLp] at hTp
  obtain ⟨Z, hZ⟩ : ∃ Z : Heap, Z = Z0 ++ [some ⟨27, .wr, [lp]⟩] := ⟨_, rfl⟩
  obtain ⟨K7, hK7⟩ : ∃ K, K = Z0.length := ⟨_, rfl⟩
  have opZ : IsNet Z lp mp fpp := by rw [hZ]; exact op.app _
  have b7 : blkAt Z K7 = some ⟨27, .wr, [lp]⟩ := by rw [hZ, hK7]; simp
  have kZ : Keep [] Y Z := by rw [hZ]; exact kZ0.next (Keep.app [] _ _) (by simp)
  have hsZ := hsY.keep kZ (by simp)
  simp [hLp, hTp]
  rw [← hZ, ← hK7]
  refine stpL_runs (netDrawRingless hsZ hn) ?_
  rintro _ A ⟨⟨lr, mr, fr, rfl, or, hszr⟩, kA⟩
  have hLr := or.len
  have hTr : lr.take lr.length = lr := List.take_length
  rw [hLr] at hTr
  have hsA := hsZ.keep kA (by simp)
  simp
  refine stpL_runs (netDrawSpans hsA hn) ?_
  rintro _ B ⟨⟨ls, ms, fs, rfl, os, hszs⟩, kB⟩
  have hLs := os.len
  have hTs : ls.take ls.length = ls := List.take_length
  rw [hLs] at hTs
  have hsB := hsA.keep kB (by simp)
  simp
  refine stpL_runs (netDrawRoots hsB hn) ?_
  rintro _ C ⟨⟨lo, mo, fo, rfl, oo, hszo⟩, kC⟩
  have hLo := oo.len
  have hTo : lo.take lo.length = lo := List.take_length
  rw [hLo] at hTo
  have hsC := hsB.keep kC (by simp)
  simp
  refine stpL_runs (netDrawIsTree hsC hn) ?_
  rintro _ D ⟨⟨lt, mt, ft, rfl, ot, hszt⟩, kD⟩
  have hLt := ot.len
  have hTt : lt.take lt.length = lt := List.take_length
  rw [hLt] at hTt
  have hsD := hsC.keep kD (by simp)
  simp [hLr, hTr, hLs, hTs, hLo, hTo, hLt, hTt]
  obtain ⟨W, hW⟩ : ∃ W : Heap, W = D ++ [some ⟨27, .wr, [lr]⟩, some ⟨27, .wr, [ls]⟩, some ⟨27, .wr, [lo]⟩, some ⟨27, .wr, [lt]⟩] := ⟨_, rfl⟩
  obtain ⟨K9, hK9⟩ : ∃ K, K = D.length := ⟨_, rfl⟩
  have kW : Keep [] D W := by rw [hW]; exact Keep.app _ _ _
  have b9 : blkAt W K9 = some ⟨27, .wr, [lr]⟩ := by rw [hW, hK9]; simp
  have b10 : blkAt W (K9 + 1) = some ⟨27, .wr, [ls]⟩ := by rw [hW, hK9]; simp
  have b11 : blkAt W (K9 + 2) = some ⟨27, .wr, [lo]⟩ := by rw [hW, hK9]; simp
  have b12 : blkAt W (K9 + 3) = some ⟨27, .wr, [lt]⟩ := by rw [hW, hK9]; simp
  have kYW : Keep [] Y W := ((((kZ.next kA (by simp)).next kB (by simp)).next kC (by simp)).next kD (by simp)).next kW (by simp)
  have kZW : Keep [] Z W := (((kA.next kB (by simp)).next kC (by simp)).next kD (by simp)).next kW (by simp)
  have b3W := kYW.blk b3Y (by simp)
  have b7W := kZW.blk b7 (by simp)
  have rm := (omY.keep kYW (by simp)).rd
  have rq := (oq.keep kYW (by simp)).rd
  have rp := (opZ.keep kZW (by simp)).rd
  have rr := ((((or.keep kB (by simp)).keep kC (by simp)).keep kD (by simp)).keep kW (by simp)).rd
  have rs := (((os.keep kC (by simp)).keep kD (by simp)).keep kW (by simp)).rd
  have ro := ((oo.keep kD (by simp)).keep kW (by simp)).rd
  have rt := (ot.keep kW (by simp)).rd
  rw [← hW, ← hK9]
  clear hW hK9 hX hZ hK3 hK7
  have g3 := fun G => blkAt_app b3W G
  have g7 := fun G => blkAt_app b7W G
  have g9 := fun G => blkAt_app b9 G
  have g10 := fun G => blkAt_app b10 G
  have g11 := fun G => blkAt_app b11 G
  have g12 := fun G => blkAt_app b12 G
  have n3 := blkAt_len b3W
  have n7 := blkAt_len b7W
  have n9 := blkAt_len b9
  have n10 := blkAt_len b10
  have n11 := blkAt_len b11
  have n12 := blkAt_len b12
  have p1 := fun G => implPasses_is (rp.app G) (by omega) kp hkI
  have p2 := fun G => specPasses_is (rp.app G) (by omega) kp hkI
  have p3 := fun G => implRingless_is (rr.app G) (by omega)
  have p4 := fun G => specRingless_is (rr.app G) (by omega)
  have p5 := fun G => implSpans_is (rs.app G) (by omega)
  have p6 := fun G => specSpans_is (rs.app G) (by omega)
  have p7 := fun G => implIsTree_is (rt.app G) (by omega)
  have p8 := fun G => specIsTree_is (rt.app G) (by omega)
  have p9 := fun G => implRingless_is (rt.app G) (by omega)
  have p10 := fun G => implSpans_is (rt.app G) (by omega)
  have p11 := fun G => implNetOk_is (rm.app G) (by omega)
  have hrl : (reach m x y).length ≤ 1048576 := reach_sz0 (by omega) x y
  have hrr : (roots mo).length ≤ 1048576 := by
    have := rootsUpto_len mo mo.bridges.length
    have h2 := BridgeS.sz_len mo.bridges
    unfold Net.sz at hszo
    unfold roots
    omega
  simp [b3W, n3, hL, hT]
  refine stpL_runs_f (specReach_is rm (by omega) x hxI y) (by rintro _ _ ⟨_, _, _, _, hf⟩; exact hf.1) ?_
  rintro _ _ ⟨q2, fq2, rfl, oq2, ⟨⟨G1, rfl⟩, -⟩⟩
  have s1 := sameIntsL (rq.app G1) oq2.rd hrl
  simp [s1, g7, n7, hLp, hTp, p1, p2, g9, n9, hLr, hTr, p3, p4, g10, n10, hLs, hTs, p5, p6, g11, n11, hLo, hTo]
  refine stpL_runs_f (implRoots_is (ro.app G1) (by omega)) (by rintro _ _ ⟨_, _, _, _, hf⟩; exact hf.1) ?_
  rintro _ _ ⟨q3, fq3, rfl, oq3, ⟨⟨G2, rfl⟩, -⟩⟩
  have g11' := g11 (G1 ++ G2)
  rw [← List.append_assoc] at g11'
  have n11' := blkAt_len g11'
  simp [g11, n11, hLo, hTo]
  have ro2 := (ro.app G1).app G2
  rw [List.append_assoc] at ro2
  rw [List.append_assoc] at oq3
  refine stpL_runs_f (specRoots_is ro2 (by omega)) (by rintro _ _ ⟨_, _, _, _, hf⟩; exact hf.1) ?_
  rintro _ _ ⟨q4, fq4, rfl, oq4, ⟨⟨G3, rfl⟩, -⟩⟩
  have s2 := sameIntsL (oq3.rd.app G3) oq4.rd hrr
  simp only [List.append_assoc] at s2
  simp [s2, g12, n12, hLt, hTt, p7, p8]
  obtain ⟨V, hV⟩ : ∃ V : Heap, V = W ++ (G1 ++ (G2 ++ G3)) := ⟨_, rfl⟩
  have kV : Keep [] W V := by rw [hV]; exact Keep.app _ _ _
  have b3V := kV.blk b3W (by simp)
  have b12V := kV.blk b12 (by simp)
  have rmV := rm.base kV
  have rtV := rt.base kV
  have rqV := rq.base kV
  rw [← hV]
  clear hV s1 s2 p1 p2 p3 p4 p5 p6 p7 p8 p9 p10 p11 g3 g7 g9 g10 g11 g12 g11' n11' oq2 oq3 oq4 ro2
  have d3V := blkAt_len b3V
  have d12V := blkAt_len b12V
  obtain ⟨aq', hq', hsq⟩ := id rqV
  rw [hq] at hq'
  injection hq' with hq'
  subst hq'
  obtain ⟨q0, q1, e0, ⟨ab, rows, e1, _⟩, _⟩ := id rmV
  simp only [Net.enc] at e0
  subst e1
  have fin : ∀ tm HH, tm 2 = .bool true → Q .ret tm HH := by
    intro tm HH t2
    refine hQ _ _ _ (by simp) ?_
    simp [Try.f4, t2]
  by_cases hz : reach m x y = []
  · have hn0 := reach_none hz
    have p := implNetOk_is rmV (by omega)
    rw [e0] at p
    rcases hn0 with h | h | h
    · rw [h] at p
      simp [hq, hz, builtinV, pureB, lenV, b3V, d3V, p, e0]
      exact fin _ _ (by simp)
    · cases hok : m.ok
      · rw [hok] at p
        simp [hq, hz, builtinV, pureB, lenV, b3V, d3V, p, e0]
        exact fin _ _ (by simp)
      · rw [hok] at p
        simp [hq, hz, builtinV, pureB, lenV, b3V, d3V, p, e0, h]
        exact fin _ _ (by simp)
    · have h0 : ¬ x < 0 := by omega
      cases hok : m.ok
      · rw [hok] at p
        simp [hq, hz, builtinV, pureB, lenV, b3V, d3V, p, e0]
        exact fin _ _ (by simp)
      · rw [hok] at p
        simp [hq, hz, builtinV, pureB, lenV, b3V, d3V, p, e0, h, h0]
        exact fin _ _ (by simp)
  · have hlen : (reach m x y).length ≠ 0 := fun h => hz (List.length_eq_zero_iff.1 h)
    have hlenI : ¬ ((reach m x y).length : Int) = 0 := by omega
    have hself : x ∈ reach m x y := by
      cases hr : reach m x y with
      | nil => exact absurd hr hz
      | cons z zs => rw [← hr]; exact reach_self (x := z) (by rw [hr]; simp)
    simp [hq, builtinV, pureB, lenV, hlen, hlenI, hz]
    refine wpS_loop (fun j tm H' => ∃ (i : Nat) (T : Heap), i + j = (reach m x y).length ∧ tm 3 = .ptr K3 0 0 ∧ tm 4 = .int x ∧ tm 5 = .bool y ∧ tm 6 = .w (.lf (.sl aq (reach m x y).length)) ∧ tm 12 = .ptr (K9 + 3) 0 0 ∧ tm 13 = .int i ∧ H' = V ++ T) (reach m x y).length (by rw [env_K]; omega) ⟨0, [], by simp, by simp, by simp, by simp, by simp, by simp, by simp, by simp⟩ ?_
    rintro j tm H1 hj ⟨i, T, hij, t3, t4, t5, t6, t12, t13, rfl⟩ Q2 hn2 he2 hr2
    simp [t6, t13, builtinV, pureB, lenV]
    have b3T := fun G => blkAt_app b3V G
    have b12T := fun G => blkAt_app b12V G
    refine selS_intro (fun hc => ?_) (fun hc => ?_)
    · simp at hc
      have hwI : IntKind.i64.wrap ((i : Int) + 1) = (i : Int) + 1 := wrap64 (by omega) (by omega)
      have hcI : (i : Int) < (reach m x y).length := by omega
      obtain ⟨id2, r2, bl2, ha2, hbl2, hbe2, hrow2⟩ := hsq i _ (by simp [hc]; rfl)
      obtain ⟨z, hzz⟩ : ∃ z, z = (reach m x y)[i] := ⟨_, rfl⟩
      have hzm : z ∈ reach m x y := by rw [hzz]; exact List.getElem_mem hc
      rw [← hzz] at hrow2
      obtain ⟨hk1, hk2⟩ := reach_back hzm
      obtain ⟨-, -, -, hz0, hz1, -⟩ := reach_ok hzm
      have hml : m.bridges.length ≤ 2000 := by
        have h2 := BridgeS.sz_len m.bridges
        unfold Net.sz at hsz
        omega
      have hzI : I64 z := ⟨by omega, by unfold nB at hz1; omega⟩
      have bT := fun G => blkAt_app hbl2 G
      have id2l := blkAt_len hbl2
      have d3T : K3 < V.length + T.length := by omega
      have hid2T : id2 < V.length + T.length := by omega
      simp [t3, t4, t5, t6, t13, b3T, d3T, hL, hT, ha2, indexAddrV, elemIs, bT, hid2T, hbe2, hc, hcI, hrow2, encI]
      refine stpL_runs_f (implReach_is (rmV.app T) (by omega) z hzI y) (by rintro _ _ ⟨_, _, _, _, hf⟩; exact hf.1) ?_
      rintro _ _ ⟨q5, fq5, rfl, oq5, ⟨⟨T2, rfl⟩, -⟩⟩
      obtain ⟨a5, rfl, o5⟩ := id oq5
      have w1 := withinL o5.sl (reach_sz0 (by omega) z y) x
      rw [decide_eq_true hk1] at w1
      rw [List.append_assoc] at w1
      have d3T2 : K3 < V.length + (T.length + T2.length) := by omega
      have hid2T2 : id2 < V.length + (T.length + T2.length) := by omega
      simp [t3, t4, t6, t13, w1, b3T, d3T2, hL, hT]
      have r2' := (rmV.app T).app T2
      rw [List.append_assoc] at r2'
      refine stpL_runs_f (implReach_is r2' (by omega) x hxI true) (by rintro _ _ ⟨_, _, _, _, hf⟩; exact hf.1) ?_
      rintro _ _ ⟨q6, fq6, rfl, oq6, ⟨⟨T3, rfl⟩, -⟩⟩
      obtain ⟨a6, rfl, o6⟩ := id oq6
      have w2 := withinL o6.sl (reach_sz0 (by omega) x true) z
      rw [decide_eq_true hk2] at w2
      simp only [List.append_assoc] at w2
      have hid2T3 : id2 < V.length + (T.length + (T2.length + T3.length)) := by omega
      simp [t3, t4, t6, t13, ha2, indexAddrV, elemIs, bT, hid2T3, hbe2, hc, hcI, hrow2, encI, w2, hwI]
      refine hn2 (j - 1) _ _ (by omega) ⟨i + 1, _, by omega, by simp [t3], by simp [t4], by simp [t5], by simp [t6, ha2], by simp [t12], by simp, rfl⟩
    · simp at hc
      have w0 := withinL (hsq.app T) hrl x
      rw [decide_eq_true hself] at w0
      have p1 := implIsTree_is (rtV.app T) (by omega)
      have p2 := implRingless_is (rtV.app T) (by omega)
      have p3 := implSpans_is (rtV.app T) (by omega)
      have d12T : K9 + 3 < V.length + T.length := by omega
      simp [t13]
      refine he2 _ _ _ ?_
      cases hti : isTree mt
      · rw [hti] at p1
        simp [t4, t6, t12, w0, b12T, d12T, hLt, hTt, p1]
        exact fin _ _ (by simp)
      · obtain ⟨h1, h2⟩ := isTree_yes hti
        rw [hti] at p1
        rw [h1] at p2
        rw [h2] at p3
        simp [t4, t6, t12, w0, b12T, d12T, hLt, hTt, p1, p2, p3]
        exact fin _ _ (by simp)
end W
end Go.Proofs.Ytjgjjaidpceieaa

/- The functions that this law reaches: what each computes. Conditions: those that each theorem names. -/
import Derived.Test.YtgphcehmbgcpiaaAbEnvSame
set_option maxRecDepth 100000
set_option maxHeartbeats 4000000
set_option linter.unusedSimpArgs false
set_option linter.unusedVariables false
set_option linter.unnecessarySimpa false
namespace Go.Proofs.Ytgphcehmbgcpiaa
open Go Go.Ab Go.ChangeShapes Go.WideShapes Go.ChangeAt Go.RowKit
namespace W
structure Vec where
  root : Int
  cost : Int
  bridge : Int
  port : Int
  deriving DecidableEq, Inhabited
def Vec.enc (x : Vec) : List Lf := [.i .i64 x.root, .i .i64 x.cost, .i .i64 x.bridge, .i .i64 x.port]
@[simp] theorem Vec.enc_len (x : Vec) : x.enc.length = 4 := rfl
@[simp] theorem Vec.enc_take (x : Vec) : List.take 4 x.enc = x.enc := rfl
@[simp] theorem Vec.enc_drop (x : Vec) : List.drop 4 x.enc = [] := rfl
abbrev Vec.z : List Lf := [.i .i64 0, .i .i64 0, .i .i64 0, .i .i64 0]
abbrev Vec.zv : Vec := ⟨0, 0, 0, 0⟩
theorem Vec.enc_inj {x y : Vec} (h : x.enc = y.enc) : x = y := by
  obtain ⟨_, _, _, _⟩ := x
  obtain ⟨_, _, _, _⟩ := y
  simp [Vec.enc] at h
  simp_all
def Vec.mk' (k : Int) : Vec := ⟨k, k + 1, k + 2, k + 3⟩
theorem Vec.mk'_of {y : Vec} {c : Int} (h0 : y.root = c) (h1 : y.cost = c + 1) (h2 : y.bridge = c + 2) (h3 : y.port = c + 3) : y = Vec.mk' c := by
  rcases y with ⟨w0, v1, v2, v3⟩
  simp only at h0 h1 h2 h3
  subst h0 h1 h2 h3
  rfl

theorem toVec (H : Heap) (x : Vec) : run env 90 [.agg x.enc] H = some (.agg x.enc, H) := by
  refine run_walk ok90 Try.func90 rfl (by simp [Try.f90]) fun Q hQ => ?_
  simp only [Try.f90, strip, stripL, stripI, stripG, chkT, tagsB, tagsL, tagD, addT, tagA, lookN, tagOp, elmT, ty22, ty23, ty28, ty29, ty38, ty48, ty71, ty79, ty88, Nat.reduceEqDiff, if_false, reduceIte, Option.getD_some, Option.getD_none, dstAt, dstOk, Nat.reduceLT, decide_true, if_true]
  simp [Vec.enc]
  all_goals (refine hQ _ _ _ (by simp) ?_)
  all_goals (clear hQ; simp [Try.f90, Vec.enc])

theorem eqVec (H : Heap) (x y : Vec) : run env 91 [.agg x.enc, .agg y.enc] H = some (.bool (decide (x = y)), H) := by
  obtain ⟨a0, a1, a2, a3⟩ := x
  obtain ⟨b0, b1, b2, b3⟩ := y
  refine run_walk ok91 Try.func91 rfl (by simp [Try.f91]) fun Q hQ => ?_
  simp only [Try.f91, strip, stripL, stripI, stripG, chkT, tagsB, tagsL, tagD, addT, tagA, lookN, tagOp, elmT, ty22, ty23, ty28, ty29, ty38, ty48, ty71, ty79, ty88, Nat.reduceEqDiff, if_false, reduceIte, Option.getD_some, Option.getD_none, dstAt, dstOk, Nat.reduceLT, decide_true, if_true]
  simp [Vec.enc]
  repeat' (first | (refine gdL_t (fun h => ?_) (fun h => ?_) <;> simp [h]) | (refine gdL_f (fun h => ?_) (fun h => ?_) <;> simp [h]) | (refine selS_intro (fun h => ?_) (fun h => ?_) <;> simp [h]))
  all_goals (refine hQ _ _ _ (by simp) ?_)
  all_goals (clear hQ; simp_all [Try.f91])

theorem shpVec {H : Heap} {k : Nat} {l : List Lf} (h : Shp Try.prog H (k + 2) 104 l) : ∃ x : Vec, l = x.enc := by
  obtain ⟨_, _, rfl, h0, _, _, rfl, h1, _, _, rfl, h2, _, _, rfl, h3, rfl⟩ := h.struct Try.underlying104
  obtain ⟨a0, rfl, -⟩ := h0.i64 Try.underlying3
  obtain ⟨a1, rfl, -⟩ := h1.i64 Try.underlying3
  obtain ⟨a2, rfl, -⟩ := h2.i64 Try.underlying3
  obtain ⟨a3, rfl, -⟩ := h3.i64 Try.underlying3
  exact ⟨⟨a0, a1, a2, a3⟩, rfl⟩

structure Port where
  up : Bool
  has : Bool
  vec : Vec
  hops : Int
  left : Int
  role : Int
  wait : Int
  opn : Bool
  deriving DecidableEq, Inhabited
def Port.enc (x : Port) : List Lf := [.b x.up, .b x.has, .i .i64 x.vec.root, .i .i64 x.vec.cost, .i .i64 x.vec.bridge, .i .i64 x.vec.port, .i .i64 x.hops, .i .i64 x.left, .i .i64 x.role, .i .i64 x.wait, .b x.opn]
@[simp] theorem Port.enc_len (x : Port) : x.enc.length = 11 := rfl
@[simp] theorem Port.enc_take (x : Port) : List.take 11 x.enc = x.enc := rfl
@[simp] theorem Port.enc_drop (x : Port) : List.drop 11 x.enc = [] := rfl
abbrev Port.z : List Lf := [.b false, .b false, .i .i64 0, .i .i64 0, .i .i64 0, .i .i64 0, .i .i64 0, .i .i64 0, .i .i64 0, .i .i64 0, .b false]
abbrev Port.zv : Port := ⟨false, false, ⟨0, 0, 0, 0⟩, 0, 0, 0, 0, false⟩
theorem Port.enc_inj {x y : Port} (h : x.enc = y.enc) : x = y := by
  rcases x with ⟨v0, v1, ⟨v2_0, v2_1, v2_2, v2_3⟩, v3, v4, v5, v6, v7⟩
  rcases y with ⟨w0, v1, ⟨v2_0, v2_1, v2_2, v2_3⟩, v3, v4, v5, v6, v7⟩
  simp [Port.enc] at h
  simp_all
def Port.mk' (k : Int) : Port := ⟨decide ((k).tmod 3 = 0), decide ((k + 1).tmod 3 = 0), ⟨k + 2, k + 3, k + 4, k + 5⟩, k + 6, k + 7, k + 8, k + 9, decide ((k + 10).tmod 3 = 0)⟩
theorem Port.mk'_of {y : Port} {c : Int} (h0 : y.up = decide ((c).tmod 3 = 0)) (h1 : y.has = decide ((c + 1).tmod 3 = 0)) (h2 : y.vec.root = c + 2) (h3 : y.vec.cost = c + 3) (h4 : y.vec.bridge = c + 4) (h5 : y.vec.port = c + 5) (h6 : y.hops = c + 6) (h7 : y.left = c + 7) (h8 : y.role = c + 8) (h9 : y.wait = c + 9) (h10 : y.opn = decide ((c + 10).tmod 3 = 0)) : y = Port.mk' c := by
  rcases y with ⟨w0, v1, ⟨v2_0, v2_1, v2_2, v2_3⟩, v3, v4, v5, v6, v7⟩
  simp only at h0 h1 h2 h3 h4 h5 h6 h7 h8 h9 h10
  subst h0 h1 h2 h3 h4 h5 h6 h7 h8 h9 h10
  rfl

theorem toPort (H : Heap) (x : Port) : run env 85 [.agg x.enc] H = some (.agg x.enc, H) := by
  refine run_walk ok85 Try.func85 rfl (by simp [Try.f85]) fun Q hQ => ?_
  simp only [Try.f85, strip, stripL, stripI, stripG, chkT, tagsB, tagsL, tagD, addT, tagA, lookN, tagOp, elmT, ty22, ty23, ty28, ty29, ty38, ty48, ty71, ty79, ty88, Nat.reduceEqDiff, if_false, reduceIte, Option.getD_some, Option.getD_none, dstAt, dstOk, Nat.reduceLT, decide_true, if_true]
  have e0 := fun H => toVec H x.vec
  simp only [Vec.enc] at e0
  simp [Port.enc, e0]
  all_goals (refine hQ _ _ _ (by simp) ?_)
  all_goals (clear hQ; simp [Try.f85, Port.enc])

theorem eqPort (H : Heap) (x y : Port) : run env 86 [.agg x.enc, .agg y.enc] H = some (.bool (decide (x = y)), H) := by
  have e0 := fun H => eqVec H x.vec y.vec
  obtain ⟨a0, a1, a2, a3, a4, a5, a6, a7⟩ := x
  obtain ⟨b0, b1, b2, b3, b4, b5, b6, b7⟩ := y
  simp only [Vec.enc] at e0
  refine run_walk ok86 Try.func86 rfl (by simp [Try.f86]) fun Q hQ => ?_
  simp only [Try.f86, strip, stripL, stripI, stripG, chkT, tagsB, tagsL, tagD, addT, tagA, lookN, tagOp, elmT, ty22, ty23, ty28, ty29, ty38, ty48, ty71, ty79, ty88, Nat.reduceEqDiff, if_false, reduceIte, Option.getD_some, Option.getD_none, dstAt, dstOk, Nat.reduceLT, decide_true, if_true]
  simp [Port.enc]
  repeat' (first | (refine gdL_t (fun h => ?_) (fun h => ?_) <;> simp [h, e0]) | (refine gdL_f (fun h => ?_) (fun h => ?_) <;> simp [h, e0]) | (refine selS_intro (fun h => ?_) (fun h => ?_) <;> simp [h, e0]))
  all_goals (refine hQ _ _ _ (by simp) ?_)
  all_goals (clear hQ; simp_all [Try.f86])

theorem shpPort {H : Heap} {k : Nat} {l : List Lf} (h : Shp Try.prog H (k + 3) 106 l) : ∃ x : Port, l = x.enc := by
  obtain ⟨_, _, rfl, h0, _, _, rfl, h1, _, _, rfl, h2, _, _, rfl, h3, _, _, rfl, h4, _, _, rfl, h5, _, _, rfl, h6, _, _, rfl, h7, rfl⟩ := h.struct Try.underlying106
  obtain ⟨a0, rfl⟩ := h0.bool Try.underlying4
  obtain ⟨a1, rfl⟩ := h1.bool Try.underlying4
  obtain ⟨a2, rfl⟩ := shpVec h2
  obtain ⟨a3, rfl, -⟩ := h3.i64 Try.underlying3
  obtain ⟨a4, rfl, -⟩ := h4.i64 Try.underlying3
  obtain ⟨a5, rfl, -⟩ := h5.i64 Try.underlying3
  obtain ⟨a6, rfl, -⟩ := h6.i64 Try.underlying3
  obtain ⟨a7, rfl⟩ := h7.bool Try.underlying4
  exact ⟨⟨a0, a1, a2, a3, a4, a5, a6, a7⟩, rfl⟩

structure Link where
  a : Int
  p : Int
  b : Int
  q : Int
  deriving DecidableEq, Inhabited
def Link.enc (x : Link) : List Lf := [.i .i64 x.a, .i .i64 x.p, .i .i64 x.b, .i .i64 x.q]
@[simp] theorem Link.enc_len (x : Link) : x.enc.length = 4 := rfl
@[simp] theorem Link.enc_take (x : Link) : List.take 4 x.enc = x.enc := rfl
@[simp] theorem Link.enc_drop (x : Link) : List.drop 4 x.enc = [] := rfl
abbrev Link.z : List Lf := [.i .i64 0, .i .i64 0, .i .i64 0, .i .i64 0]
abbrev Link.zv : Link := ⟨0, 0, 0, 0⟩
theorem Link.enc_inj {x y : Link} (h : x.enc = y.enc) : x = y := by
  obtain ⟨_, _, _, _⟩ := x
  obtain ⟨_, _, _, _⟩ := y
  simp [Link.enc] at h
  simp_all
def Link.mk' (k : Int) : Link := ⟨k, k + 1, k + 2, k + 3⟩
theorem Link.mk'_of {y : Link} {c : Int} (h0 : y.a = c) (h1 : y.p = c + 1) (h2 : y.b = c + 2) (h3 : y.q = c + 3) : y = Link.mk' c := by
  rcases y with ⟨w0, v1, v2, v3⟩
  simp only at h0 h1 h2 h3
  subst h0 h1 h2 h3
  rfl

theorem toLink (H : Heap) (x : Link) : run env 65 [.agg x.enc] H = some (.agg x.enc, H) := by
  refine run_walk ok65 Try.func65 rfl (by simp [Try.f65]) fun Q hQ => ?_
  simp only [Try.f65, strip, stripL, stripI, stripG, chkT, tagsB, tagsL, tagD, addT, tagA, lookN, tagOp, elmT, ty22, ty23, ty28, ty29, ty38, ty48, ty71, ty79, ty88, Nat.reduceEqDiff, if_false, reduceIte, Option.getD_some, Option.getD_none, dstAt, dstOk, Nat.reduceLT, decide_true, if_true]
  simp [Link.enc]
  all_goals (refine hQ _ _ _ (by simp) ?_)
  all_goals (clear hQ; simp [Try.f65, Link.enc])

theorem eqLink (H : Heap) (x y : Link) : run env 67 [.agg x.enc, .agg y.enc] H = some (.bool (decide (x = y)), H) := by
  obtain ⟨a0, a1, a2, a3⟩ := x
  obtain ⟨b0, b1, b2, b3⟩ := y
  refine run_walk ok67 Try.func67 rfl (by simp [Try.f67]) fun Q hQ => ?_
  simp only [Try.f67, strip, stripL, stripI, stripG, chkT, tagsB, tagsL, tagD, addT, tagA, lookN, tagOp, elmT, ty22, ty23, ty28, ty29, ty38, ty48, ty71, ty79, ty88, Nat.reduceEqDiff, if_false, reduceIte, Option.getD_some, Option.getD_none, dstAt, dstOk, Nat.reduceLT, decide_true, if_true]
  simp [Link.enc]
  repeat' (first | (refine gdL_t (fun h => ?_) (fun h => ?_) <;> simp [h]) | (refine gdL_f (fun h => ?_) (fun h => ?_) <;> simp [h]) | (refine selS_intro (fun h => ?_) (fun h => ?_) <;> simp [h]))
  all_goals (refine hQ _ _ _ (by simp) ?_)
  all_goals (clear hQ; simp_all [Try.f67])

theorem shpLink {H : Heap} {k : Nat} {l : List Lf} (h : Shp Try.prog H (k + 2) 84 l) : ∃ x : Link, l = x.enc := by
  obtain ⟨_, _, rfl, h0, _, _, rfl, h1, _, _, rfl, h2, _, _, rfl, h3, rfl⟩ := h.struct Try.underlying84
  obtain ⟨a0, rfl, -⟩ := h0.i64 Try.underlying3
  obtain ⟨a1, rfl, -⟩ := h1.i64 Try.underlying3
  obtain ⟨a2, rfl, -⟩ := h2.i64 Try.underlying3
  obtain ⟨a3, rfl, -⟩ := h3.i64 Try.underlying3
  exact ⟨⟨a0, a1, a2, a3⟩, rfl⟩

theorem toPortS (H : Heap) (a : Option (Nat × Nat)) (xs : List Port) (h : Sl H 106 a (xs.map Port.enc)) (hn : xs.length ≤ 1048576) :
    run env 77 [.w (.lf (.sl a xs.length))] H = some (.sl H.length 0 xs.length, H ++ [some ⟨61, .wr, xs.map Port.enc⟩]) := by
  refine run_walk ok77 Try.func77 rfl (by simp [Try.f77]) fun Q hQ => ?_
  simp only [Try.f77, strip, stripL, stripI, stripG, chkT, tagsB, tagsL, tagD, addT, tagA, lookN, tagOp, elmT, ty22, ty23, ty28, ty29, ty38, ty48, ty71, ty79, ty88, Nat.reduceEqDiff, if_false, reduceIte, Option.getD_some, Option.getD_none, dstAt, dstOk, Nat.reduceLT, decide_true, if_true]
  have k1 : (xs.length : Int) * 80 ≤ 281474976710656 := by omega
  have k2 : (xs.length : Int) ≤ 9223372036854775807 := by omega
  have k3 : (xs.length : Int) ≤ 281474976710656 := by omega
  simp [builtinV, pureB, lenV, makeSliceV, makeSliceR, newBlk, k1, k2, k3]
  refine wpS_loop (fun j tm H' => ∃ i, i + j = xs.length ∧ tm 0 = .w (.lf (.sl a xs.length)) ∧ tm 3 = .sl H.length 0 xs.length ∧ tm 4 = .int i ∧ H' = H ++ [some ⟨61, .wr, fillR (xs.map Port.enc) Port.z i j⟩]) xs.length (by rw [env_K]; omega) ⟨0, by simp, by simp, by simp, by simp, by rw [fillR_zero _ _ (by simp)]⟩ ?_
  rintro j tm H' hj ⟨i, hij, h0, h3, h4, rfl⟩ Q' hn' he' hr'
  simp [h0, h3, h4, builtinV, pureB, lenV]
  refine selS_intro (fun hc => ?_) (fun hc => ?_)
  · simp at hc
    obtain ⟨j, rfl⟩ : ∃ j', j = j' + 1 := ⟨j - 1, by omega⟩
    obtain ⟨id, r, b, rfl, hb, hbe, hrow⟩ := h i _ (by simp [hc]; rfl)
    have hid := blkAt_len hb
    have g2 := fillR_get (ys := xs.map Port.enc) (z := Port.z) (i := i) (j := j) (by simpa using hij)
    have g3 := fillR_set (ys := xs.map Port.enc) (z := Port.z) (i := i) (j := j) (y := Port.enc xs[i]) (by simpa using hij) (by simp [hc])
    have g4 : IntKind.i64.wrap ((i : Int) + 1) = (i : Int) + 1 := wrap64 (by omega) (by omega)
    simp [h0, h3, h4, indexAddrV, elemIs, hid, hb, hbe, hc, hrow, toPort, g2, g3, g4]
    exact hn' j _ _ (by omega) ⟨i + 1, by omega, by simp [h0], by simp [h3], by simp, by simpa using congrArg (fun r => H ++ [some (⟨61, .wr, r⟩ : Blk)]) g3⟩
  · simp at hc
    have hj0 : j = 0 := by omega
    subst hj0
    simp [h0, h3, h4]
    refine he' _ _ _ ?_
    simp [h3]
    refine hQ _ _ _ (by simp) ?_
    simp [Try.f77, leave, fillR_done (ys := xs.map Port.enc) (i := i) (z := Port.z) (by simpa using hij), refFree]

theorem szPortS (H : Heap) (a : Option (Nat × Nat)) (n : Nat) (left : Int) (h1 : 0 ≤ left) (h2 : left ≤ 1048576) (h3 : n ≤ maxLen) :
    run env 76 [.w (.lf (.sl a n)), .int left] H = some (.int (if left < n then -1 else left - n), H) := by
  have hm : (n : Int) ≤ 9223372036854775807 := by unfold maxLen at h3; omega
  refine run_walk ok76 Try.func76 rfl (by simp [Try.f76]) fun Q hQ => ?_
  simp only [Try.f76, strip, stripL, stripI, stripG, chkT, tagsB, tagsL, tagD, addT, tagA, lookN, tagOp, elmT, ty22, ty23, ty28, ty29, ty38, ty48, ty71, ty79, ty88, Nat.reduceEqDiff, if_false, reduceIte, Option.getD_some, Option.getD_none, dstAt, dstOk, Nat.reduceLT, decide_true, if_true]
  have g : IntKind.i64.wrap (left - n) = left - n := wrap64 (by omega) (by omega)
  simp [builtinV, pureB, lenV, g]
  repeat' (first | (refine gdL_t (fun h => ?_) (fun h => ?_) <;> simp [h]) | (refine gdL_f (fun h => ?_) (fun h => ?_) <;> simp [h]) | (refine selS_intro (fun h => ?_) (fun h => ?_) <;> simp [h]))
  all_goals (refine hQ _ _ _ (by simp) ?_)
  all_goals (clear hQ; simp_all [Try.f76] <;> omega)

theorem eqPortS (H : Heap) (a b : Option (Nat × Nat)) (xs ys : List Port) (ha : Sl H 61 a (xs.map Port.enc)) (hb : Sl H 61 b (ys.map Port.enc)) (hn : xs.length ≤ 1048576) :
    run env 78 [.w (.lf (.sl a xs.length)), .w (.lf (.sl b ys.length))] H = some (.bool (decide (xs = ys)), H) := by
  refine run_walk ok78 Try.func78 rfl (by simp [Try.f78]) fun Q hQ => ?_
  simp only [Try.f78, strip, stripL, stripI, stripG, chkT, tagsB, tagsL, tagD, addT, tagA, lookN, tagOp, elmT, ty22, ty23, ty28, ty29, ty38, ty48, ty71, ty79, ty88, Nat.reduceEqDiff, if_false, reduceIte, Option.getD_some, Option.getD_none, dstAt, dstOk, Nat.reduceLT, decide_true, if_true]
  simp [builtinV, pureB, lenV]
  refine selS_intro (fun hl => ?_) (fun hl => ?_)
  · simp
    refine hQ _ _ _ (by simp) ?_
    simp at hl
    have : ¬ xs = ys := fun h => hl (by rw [h])
    simp [Try.f78, this]
  simp at hl
  simp
  refine wpS_loop (fun j tm H' => ∃ i, i + j = xs.length ∧ tm 0 = .w (.lf (.sl a xs.length)) ∧ tm 1 = .w (.lf (.sl b ys.length)) ∧ tm 5 = .int i ∧ H' = H ∧ xs.take i = ys.take i) xs.length (by rw [env_K]; omega) ⟨0, by simp, by simp, by simp, by simp, rfl, by simp⟩ ?_
  rintro j tm H' hj ⟨i, hij, h0, h1, h5, rfl, heq⟩ Q' hn' he' hr'
  simp [h0, h1, h5, builtinV, pureB, lenV]
  refine selS_intro (fun hc => ?_) (fun hc => ?_)
  · simp at hc
    have hc2 : i < ys.length := by omega
    obtain ⟨id, r, bl, rfl, hbl, hbe, hrow⟩ := ha i _ (by simp [hc]; rfl)
    obtain ⟨id2, r2, bl2, rfl, hbl2, hbe2, hrow2⟩ := hb i _ (by simp [hc2]; rfl)
    have g4 : IntKind.i64.wrap ((i : Int) + 1) = (i : Int) + 1 := wrap64 (by omega) (by omega)
    simp [h0, h1, h5, indexAddrV, elemIs, hbl, hbe, hbl2, hbe2, hc, hc2, hrow, hrow2, eqPort]
    refine selS_intro (fun hd => ?_) (fun hd => ?_)
    · simp
      refine hr' _ _ ?_
      simp
      refine hQ _ _ _ (by simp) ?_
      simp at hd
      have : ¬ xs = ys := fun h => by subst h; simp at hd
      simp [Try.f78, this]
    · simp at hd
      simp [h0, h1, h5, g4]
      exact hn' (j - 1) _ _ (by omega) ⟨i + 1, by omega, by simp [h0], by simp [h1], by simp, rfl, by rw [List.take_add_one, List.take_add_one, heq]; simp [hc, hc2, hd]⟩
  · simp at hc
    simp [h0, h1, h5]
    refine he' _ _ _ ?_
    simp
    refine hQ _ _ _ (by simp) ?_
    have : xs = ys := by
      rw [List.take_of_length_le (by omega), List.take_of_length_le (by omega)] at heq
      exact heq
    simp [Try.f78, this]

abbrev IsPortS := IsSl 61 Port.enc
abbrev RdPortS := RdSl 61 Port.enc
abbrev RdLPortS := RdSl 106 Port.enc
def PortS.mk' (xs : List Port) (k : Int) : List Port := marked Port.mk' 11 xs.length k
def PortS.mkN (xs : List Port) (k : Int) : Int := k + 11 * xs.length
def PortS.hd (xs : List Port) (k : Int) : Int := heldL Port.mk' 11 xs k
theorem PortS.hd_mk (xs : List Port) (k : Int) : PortS.hd (PortS.mk' xs k) k = PortS.mkN xs k := by simp [PortS.hd, PortS.mk', PortS.mkN]
theorem PortS.mk_sz (xs : List Port) (k : Int) : (PortS.mk' xs k).length = xs.length := by simp [PortS.mk']
theorem PortS.mkN_le {xs : List Port} {k : Int} (h : xs.length ≤ 1048576) : k ≤ PortS.mkN xs k ∧ PortS.mkN xs k ≤ k + 1000000000 := by unfold PortS.mkN; omega

theorem equalPortS {H : Heap} {q r : Lf} {xs ys : List Port} (h : RdPortS H q xs) (h2 : RdPortS H r ys) (hn : xs.length ≤ 1048576) : run env 42 [.w (.lf q), .w (.lf r)] H = some (.bool (decide (xs = ys)), H) := by
  obtain ⟨a, rfl, ha⟩ := h
  obtain ⟨b, rfl, hb⟩ := h2
  refine run_walk ok42 Try.func42 rfl (by simp [Try.f42]) fun Q hQ => ?_
  simp only [Try.f42, strip, stripL, stripI, stripG, chkT, tagsB, tagsL, tagD, addT, tagA, lookN, tagOp, elmT, ty22, ty23, ty28, ty29, ty38, ty48, ty71, ty79, ty88, Nat.reduceEqDiff, if_false, reduceIte, Option.getD_some, Option.getD_none, dstAt, dstOk, Nat.reduceLT, decide_true, if_true]
  simp [builtinV, pureB, lenV]
  refine selS_intro (fun hl => ?_) (fun hl => ?_)
  · simp
    refine hQ _ _ _ (by simp) ?_
    simp at hl
    have : ¬ xs = ys := fun h => hl (by rw [h])
    simp [Try.f42, this]
  simp at hl
  simp [builtinV, pureB, lenV]
  refine wpS_loop (fun j tm H' => ∃ i, i + j = xs.length ∧ tm 0 = .w (.lf (.sl a xs.length)) ∧ tm 1 = .w (.lf (.sl b ys.length)) ∧ tm 12 = .int xs.length ∧ tm 13 = .int i ∧ H' = H ∧ xs.take i = ys.take i) xs.length (by rw [env_K]; omega) ⟨0, by simp, by simp, by simp, by simp, by simp, rfl, by simp⟩ ?_
  rintro j tm H' hj ⟨i, hij, h0, h1, h12, h13, rfl, heq⟩ Q' hn' he' hr'
  simp [h0, h1, h12, h13]
  refine selS_intro (fun hc => ?_) (fun hc => ?_)
  · simp at hc
    have hc2 : i < ys.length := by omega
    obtain ⟨id, r, bl, rfl, hbl, hbe, hrow⟩ := ha i _ (by simp [hc]; rfl)
    obtain ⟨id2, r2, bl2, rfl, hbl2, hbe2, hrow2⟩ := hb i _ (by simp [hc2]; rfl)
    have g4 : IntKind.i64.wrap ((i : Int) + 1) = (i : Int) + 1 := wrap64 (by omega) (by omega)
    simp [h0, h1, h12, h13, indexAddrV, elemIs, hbl, hbe, hbl2, hbe2, hc, hc2, hrow, hrow2, Port.enc]
    refine selS_intro (fun hd => ?_) (fun hd => ?_)
    · simp
      refine hr' _ _ ?_
      simp
      refine hQ _ _ _ (by simp) ?_
      have : ¬ xs = ys := fun h => by subst h; simp at hd
      simp [Try.f42, this]
    · have hxy : xs[i] = ys[i] := by
        refine Port.enc_inj ?_
        simpa [Port.enc] using hd
      simp [h0, h1, h12, h13, g4]
      exact hn' (j - 1) _ _ (by omega) ⟨i + 1, by omega, by simp [h0], by simp [h1], by simp [h12], by simp, rfl, by rw [List.take_add_one, List.take_add_one, heq]; simp [hc, hc2, hxy]⟩
  · simp at hc
    simp [h0, h1, h12, h13]
    refine he' _ _ _ ?_
    simp
    refine hQ _ _ _ (by simp) ?_
    have : xs = ys := by
      rw [List.take_of_length_le (by omega), List.take_of_length_le (by omega)] at heq
      exact heq
    simp [Try.f42, this]

theorem toLinkS (H : Heap) (a : Option (Nat × Nat)) (xs : List Link) (h : Sl H 84 a (xs.map Link.enc)) (hn : xs.length ≤ 1048576) :
    run env 38 [.w (.lf (.sl a xs.length))] H = some (.sl H.length 0 xs.length, H ++ [some ⟨52, .wr, xs.map Link.enc⟩]) := by
  refine run_walk ok38 Try.func38 rfl (by simp [Try.f38]) fun Q hQ => ?_
  simp only [Try.f38, strip, stripL, stripI, stripG, chkT, tagsB, tagsL, tagD, addT, tagA, lookN, tagOp, elmT, ty22, ty23, ty28, ty29, ty38, ty48, ty71, ty79, ty88, Nat.reduceEqDiff, if_false, reduceIte, Option.getD_some, Option.getD_none, dstAt, dstOk, Nat.reduceLT, decide_true, if_true]
  have k1 : (xs.length : Int) * 32 ≤ 281474976710656 := by omega
  have k2 : (xs.length : Int) ≤ 9223372036854775807 := by omega
  have k3 : (xs.length : Int) ≤ 281474976710656 := by omega
  simp [builtinV, pureB, lenV, makeSliceV, makeSliceR, newBlk, k1, k2, k3]
  refine wpS_loop (fun j tm H' => ∃ i, i + j = xs.length ∧ tm 0 = .w (.lf (.sl a xs.length)) ∧ tm 3 = .sl H.length 0 xs.length ∧ tm 4 = .int i ∧ H' = H ++ [some ⟨52, .wr, fillR (xs.map Link.enc) Link.z i j⟩]) xs.length (by rw [env_K]; omega) ⟨0, by simp, by simp, by simp, by simp, by rw [fillR_zero _ _ (by simp)]⟩ ?_
  rintro j tm H' hj ⟨i, hij, h0, h3, h4, rfl⟩ Q' hn' he' hr'
  simp [h0, h3, h4, builtinV, pureB, lenV]
  refine selS_intro (fun hc => ?_) (fun hc => ?_)
  · simp at hc
    obtain ⟨j, rfl⟩ : ∃ j', j = j' + 1 := ⟨j - 1, by omega⟩
    obtain ⟨id, r, b, rfl, hb, hbe, hrow⟩ := h i _ (by simp [hc]; rfl)
    have hid := blkAt_len hb
    have g2 := fillR_get (ys := xs.map Link.enc) (z := Link.z) (i := i) (j := j) (by simpa using hij)
    have g3 := fillR_set (ys := xs.map Link.enc) (z := Link.z) (i := i) (j := j) (y := Link.enc xs[i]) (by simpa using hij) (by simp [hc])
    have g4 : IntKind.i64.wrap ((i : Int) + 1) = (i : Int) + 1 := wrap64 (by omega) (by omega)
    simp [h0, h3, h4, indexAddrV, elemIs, hid, hb, hbe, hc, hrow, toLink, g2, g3, g4]
    exact hn' j _ _ (by omega) ⟨i + 1, by omega, by simp [h0], by simp [h3], by simp, by simpa using congrArg (fun r => H ++ [some (⟨52, .wr, r⟩ : Blk)]) g3⟩
  · simp at hc
    have hj0 : j = 0 := by omega
    subst hj0
    simp [h0, h3, h4]
    refine he' _ _ _ ?_
    simp [h3]
    refine hQ _ _ _ (by simp) ?_
    simp [Try.f38, leave, fillR_done (ys := xs.map Link.enc) (i := i) (z := Link.z) (by simpa using hij), refFree]

theorem szLinkS (H : Heap) (a : Option (Nat × Nat)) (n : Nat) (left : Int) (h1 : 0 ≤ left) (h2 : left ≤ 1048576) (h3 : n ≤ maxLen) :
    run env 35 [.w (.lf (.sl a n)), .int left] H = some (.int (if left < n then -1 else left - n), H) := by
  have hm : (n : Int) ≤ 9223372036854775807 := by unfold maxLen at h3; omega
  refine run_walk ok35 Try.func35 rfl (by simp [Try.f35]) fun Q hQ => ?_
  simp only [Try.f35, strip, stripL, stripI, stripG, chkT, tagsB, tagsL, tagD, addT, tagA, lookN, tagOp, elmT, ty22, ty23, ty28, ty29, ty38, ty48, ty71, ty79, ty88, Nat.reduceEqDiff, if_false, reduceIte, Option.getD_some, Option.getD_none, dstAt, dstOk, Nat.reduceLT, decide_true, if_true]
  have g : IntKind.i64.wrap (left - n) = left - n := wrap64 (by omega) (by omega)
  simp [builtinV, pureB, lenV, g]
  repeat' (first | (refine gdL_t (fun h => ?_) (fun h => ?_) <;> simp [h]) | (refine gdL_f (fun h => ?_) (fun h => ?_) <;> simp [h]) | (refine selS_intro (fun h => ?_) (fun h => ?_) <;> simp [h]))
  all_goals (refine hQ _ _ _ (by simp) ?_)
  all_goals (clear hQ; simp_all [Try.f35] <;> omega)

theorem eqLinkS (H : Heap) (a b : Option (Nat × Nat)) (xs ys : List Link) (ha : Sl H 52 a (xs.map Link.enc)) (hb : Sl H 52 b (ys.map Link.enc)) (hn : xs.length ≤ 1048576) :
    run env 44 [.w (.lf (.sl a xs.length)), .w (.lf (.sl b ys.length))] H = some (.bool (decide (xs = ys)), H) := by
  refine run_walk ok44 Try.func44 rfl (by simp [Try.f44]) fun Q hQ => ?_
  simp only [Try.f44, strip, stripL, stripI, stripG, chkT, tagsB, tagsL, tagD, addT, tagA, lookN, tagOp, elmT, ty22, ty23, ty28, ty29, ty38, ty48, ty71, ty79, ty88, Nat.reduceEqDiff, if_false, reduceIte, Option.getD_some, Option.getD_none, dstAt, dstOk, Nat.reduceLT, decide_true, if_true]
  simp [builtinV, pureB, lenV]
  refine selS_intro (fun hl => ?_) (fun hl => ?_)
  · simp
    refine hQ _ _ _ (by simp) ?_
    simp at hl
    have : ¬ xs = ys := fun h => hl (by rw [h])
    simp [Try.f44, this]
  simp at hl
  simp
  refine wpS_loop (fun j tm H' => ∃ i, i + j = xs.length ∧ tm 0 = .w (.lf (.sl a xs.length)) ∧ tm 1 = .w (.lf (.sl b ys.length)) ∧ tm 5 = .int i ∧ H' = H ∧ xs.take i = ys.take i) xs.length (by rw [env_K]; omega) ⟨0, by simp, by simp, by simp, by simp, rfl, by simp⟩ ?_
  rintro j tm H' hj ⟨i, hij, h0, h1, h5, rfl, heq⟩ Q' hn' he' hr'
  simp [h0, h1, h5, builtinV, pureB, lenV]
  refine selS_intro (fun hc => ?_) (fun hc => ?_)
  · simp at hc
    have hc2 : i < ys.length := by omega
    obtain ⟨id, r, bl, rfl, hbl, hbe, hrow⟩ := ha i _ (by simp [hc]; rfl)
    obtain ⟨id2, r2, bl2, rfl, hbl2, hbe2, hrow2⟩ := hb i _ (by simp [hc2]; rfl)
    have g4 : IntKind.i64.wrap ((i : Int) + 1) = (i : Int) + 1 := wrap64 (by omega) (by omega)
    simp [h0, h1, h5, indexAddrV, elemIs, hbl, hbe, hbl2, hbe2, hc, hc2, hrow, hrow2, eqLink]
    refine selS_intro (fun hd => ?_) (fun hd => ?_)
    · simp
      refine hr' _ _ ?_
      simp
      refine hQ _ _ _ (by simp) ?_
      simp at hd
      have : ¬ xs = ys := fun h => by subst h; simp at hd
      simp [Try.f44, this]
    · simp at hd
      simp [h0, h1, h5, g4]
      exact hn' (j - 1) _ _ (by omega) ⟨i + 1, by omega, by simp [h0], by simp [h1], by simp, rfl, by rw [List.take_add_one, List.take_add_one, heq]; simp [hc, hc2, hd]⟩
  · simp at hc
    simp [h0, h1, h5]
    refine he' _ _ _ ?_
    simp
    refine hQ _ _ _ (by simp) ?_
    have : xs = ys := by
      rw [List.take_of_length_le (by omega), List.take_of_length_le (by omega)] at heq
      exact heq
    simp [Try.f44, this]

abbrev IsLinkS := IsSl 52 Link.enc
abbrev RdLinkS := RdSl 52 Link.enc
abbrev RdLLinkS := RdSl 84 Link.enc
def LinkS.mk' (xs : List Link) (k : Int) : List Link := marked Link.mk' 4 xs.length k
def LinkS.mkN (xs : List Link) (k : Int) : Int := k + 4 * xs.length
def LinkS.hd (xs : List Link) (k : Int) : Int := heldL Link.mk' 4 xs k
theorem LinkS.hd_mk (xs : List Link) (k : Int) : LinkS.hd (LinkS.mk' xs k) k = LinkS.mkN xs k := by simp [LinkS.hd, LinkS.mk', LinkS.mkN]
theorem LinkS.mk_sz (xs : List Link) (k : Int) : (LinkS.mk' xs k).length = xs.length := by simp [LinkS.mk']
theorem LinkS.mkN_le {xs : List Link} {k : Int} (h : xs.length ≤ 1048576) : k ≤ LinkS.mkN xs k ∧ LinkS.mkN xs k ≤ k + 1000000000 := by unfold LinkS.mkN; omega

theorem shpLinkS_is {H : Heap} {k : Nat} {l : List Lf} (h : Shp Try.prog H (k + 3) 23 l) : ∃ (q : Lf) (xs : List Link), l = [q] ∧ RdLLinkS H q xs ∧ xs.length ≤ maxLen := by
  obtain ⟨xs, a, rfl, hs, hl, -⟩ := h.sl (f := Link.enc) (R := fun _ => True) Try.underlying23 fun row hr => let ⟨x, hx⟩ := shpLink hr; ⟨x, hx, trivial⟩
  exact ⟨_, xs, rfl, ⟨a, rfl, hs⟩, hl⟩

theorem toLinkS_is {H : Heap} {q : Lf} {xs : List Link} (h : RdLLinkS H q xs) (hn : xs.length ≤ 1048576) : Runs env 38 [.w (.lf q)] H fun v H' => ∃ q' fp, v = .w (.lf q') ∧ IsLinkS H' q' xs fp ∧ Fresh H H' fp := by
  obtain ⟨a, rfl, h⟩ := h
  exact .of (toLinkS H a xs h hn) ⟨_, _, rfl, ⟨_, rfl, Own.of (by simp)⟩, Fresh.app _ _ (by simp)⟩

theorem eqLinkS_is {H : Heap} {q r : Lf} {xs ys : List Link} (h : RdLinkS H q xs) (h2 : RdLinkS H r ys) (hn : xs.length ≤ 1048576) : run env 44 [.w (.lf q), .w (.lf r)] H = some (.bool (decide (xs = ys)), H) := by
  obtain ⟨a, rfl, h⟩ := h
  obtain ⟨b, rfl, h2⟩ := h2
  exact eqLinkS H a b xs ys h h2 hn

theorem equalLinkS {H : Heap} {q r : Lf} {xs ys : List Link} (h : RdLinkS H q xs) (h2 : RdLinkS H r ys) (hn : xs.length ≤ 1048576) : run env 39 [.w (.lf q), .w (.lf r)] H = some (.bool (decide (xs = ys)), H) := by
  obtain ⟨a, rfl, ha⟩ := h
  obtain ⟨b, rfl, hb⟩ := h2
  refine run_walk ok39 Try.func39 rfl (by simp [Try.f39]) fun Q hQ => ?_
  simp only [Try.f39, strip, stripL, stripI, stripG, chkT, tagsB, tagsL, tagD, addT, tagA, lookN, tagOp, elmT, ty22, ty23, ty28, ty29, ty38, ty48, ty71, ty79, ty88, Nat.reduceEqDiff, if_false, reduceIte, Option.getD_some, Option.getD_none, dstAt, dstOk, Nat.reduceLT, decide_true, if_true]
  simp [builtinV, pureB, lenV]
  refine selS_intro (fun hl => ?_) (fun hl => ?_)
  · simp
    refine hQ _ _ _ (by simp) ?_
    simp at hl
    have : ¬ xs = ys := fun h => hl (by rw [h])
    simp [Try.f39, this]
  simp at hl
  simp [builtinV, pureB, lenV]
  refine wpS_loop (fun j tm H' => ∃ i, i + j = xs.length ∧ tm 0 = .w (.lf (.sl a xs.length)) ∧ tm 1 = .w (.lf (.sl b ys.length)) ∧ tm 12 = .int xs.length ∧ tm 13 = .int i ∧ H' = H ∧ xs.take i = ys.take i) xs.length (by rw [env_K]; omega) ⟨0, by simp, by simp, by simp, by simp, by simp, rfl, by simp⟩ ?_
  rintro j tm H' hj ⟨i, hij, h0, h1, h12, h13, rfl, heq⟩ Q' hn' he' hr'
  simp [h0, h1, h12, h13]
  refine selS_intro (fun hc => ?_) (fun hc => ?_)
  · simp at hc
    have hc2 : i < ys.length := by omega
    obtain ⟨id, r, bl, rfl, hbl, hbe, hrow⟩ := ha i _ (by simp [hc]; rfl)
    obtain ⟨id2, r2, bl2, rfl, hbl2, hbe2, hrow2⟩ := hb i _ (by simp [hc2]; rfl)
    have g4 : IntKind.i64.wrap ((i : Int) + 1) = (i : Int) + 1 := wrap64 (by omega) (by omega)
    simp [h0, h1, h12, h13, indexAddrV, elemIs, hbl, hbe, hbl2, hbe2, hc, hc2, hrow, hrow2, Link.enc]
    refine selS_intro (fun hd => ?_) (fun hd => ?_)
    · simp
      refine hr' _ _ ?_
      simp
      refine hQ _ _ _ (by simp) ?_
      have : ¬ xs = ys := fun h => by subst h; simp at hd
      simp [Try.f39, this]
    · have hxy : xs[i] = ys[i] := by
        refine Link.enc_inj ?_
        simpa [Link.enc] using hd
      simp [h0, h1, h12, h13, g4]
      exact hn' (j - 1) _ _ (by omega) ⟨i + 1, by omega, by simp [h0], by simp [h1], by simp [h12], by simp, rfl, by rw [List.take_add_one, List.take_add_one, heq]; simp [hc, hc2, hxy]⟩
  · simp at hc
    simp [h0, h1, h12, h13]
    refine he' _ _ _ ?_
    simp
    refine hQ _ _ _ (by simp) ?_
    have : xs = ys := by
      rw [List.take_of_length_le (by omega), List.take_of_length_le (by omega)] at heq
      exact heq
    simp [Try.f39, this]

structure Bridge where
  id : Int
  ports : List Port
  deriving DecidableEq, Inhabited
def Bridge.enc (b : Bridge) (a : Option (Nat × Nat)) : List Lf := [.i .i64 b.id, .sl a b.ports.length]
@[simp] theorem Bridge.enc_len (b : Bridge) (a : Option (Nat × Nat)) : (b.enc a).length = 2 := rfl
@[simp] theorem Bridge.enc_take (b : Bridge) (a : Option (Nat × Nat)) : List.take 2 (b.enc a) = b.enc a := rfl

theorem szBridge (H : Heap) (a : Option (Nat × Nat)) (b : Bridge) (left : Int) (h1 : 0 ≤ left) (h2 : left ≤ 1048576) (h3 : b.ports.length ≤ maxLen) :
    run env 63 [.agg (b.enc a), .int left] H = some (.int (if left < b.ports.length then -1 else left - b.ports.length), H) := by
  have e := fun H => szPortS H a b.ports.length left h1 h2 h3
  refine run_walk ok63 Try.func63 rfl (by simp [Try.f63]) fun Q hQ => ?_
  simp only [Try.f63, strip, stripL, stripI, stripG, chkT, tagsB, tagsL, tagD, addT, tagA, lookN, tagOp, elmT, ty22, ty23, ty28, ty29, ty38, ty48, ty71, ty79, ty88, Nat.reduceEqDiff, if_false, reduceIte, Option.getD_some, Option.getD_none, dstAt, dstOk, Nat.reduceLT, decide_true, if_true]
  simp [Bridge.enc, e]
  repeat' (first | (refine gdL_t (fun h => ?_) (fun h => ?_) <;> simp [h]) | (refine gdL_f (fun h => ?_) (fun h => ?_) <;> simp [h]) | (refine selS_intro (fun h => ?_) (fun h => ?_) <;> simp [h]))
  all_goals (refine hQ _ _ _ (by simp) ?_)
  all_goals (clear hQ; simp_all [Try.f63] <;> omega)

theorem toBridge (H : Heap) (a : Option (Nat × Nat)) (b : Bridge) (h : Sl H 106 a (b.ports.map Port.enc)) (hn : b.ports.length ≤ 1048576) :
    Runs env 64 [.agg (b.enc a)] H fun v H' => ∃ a' fp, v = .agg (b.enc a') ∧ Own H' 61 a' (b.ports.map Port.enc) fp ∧ Fresh H H' fp := by
  have e := fun H h => toPortS H a b.ports h hn
  refine Runs.walk ok64 Try.func64 rfl (by simp [Try.f64]) fun Q hQ => ?_
  simp only [Try.f64, strip, stripL, stripI, stripG, chkT, tagsB, tagsL, tagD, addT, tagA, lookN, tagOp, elmT, ty22, ty23, ty28, ty29, ty38, ty48, ty71, ty79, ty88, Nat.reduceEqDiff, if_false, reduceIte, Option.getD_some, Option.getD_none, dstAt, dstOk, Nat.reduceLT, decide_true, if_true]
  simp [Bridge.enc]
  rw [e _ (by simpa using h.app _)]
  simp
  refine hQ _ _ _ (by simp) ?_
  simp [Try.f64, leave, refFree, Bridge.enc]
  exact ⟨_, Own.of (by simp), Fresh.app _ _ (by simp)⟩

theorem eqBridge (H : Heap) (a b : Option (Nat × Nat)) (m n : Bridge) (ha : Sl H 61 a (m.ports.map Port.enc)) (hb : Sl H 61 b (n.ports.map Port.enc)) (hn : m.ports.length ≤ 1048576) :
    run env 66 [.agg (m.enc a), .agg (n.enc b)] H = some (.bool (decide (m = n)), H) := by
  have e := fun G => eqPortS (H ++ G) a b m.ports n.ports (ha.app _) (hb.app _) hn
  obtain ⟨a1, a2⟩ := m
  obtain ⟨b1, b2⟩ := n
  simp only at e
  refine run_walk ok66 Try.func66 rfl (by simp [Try.f66]) fun Q hQ => ?_
  simp only [Try.f66, strip, stripL, stripI, stripG, chkT, tagsB, tagsL, tagD, addT, tagA, lookN, tagOp, elmT, ty22, ty23, ty28, ty29, ty38, ty48, ty71, ty79, ty88, Nat.reduceEqDiff, if_false, reduceIte, Option.getD_some, Option.getD_none, dstAt, dstOk, Nat.reduceLT, decide_true, if_true]
  simp [Bridge.enc]
  repeat' (first | (refine gdL_t (fun h => ?_) (fun h => ?_) <;> simp [h, e]) | (refine gdL_f (fun h => ?_) (fun h => ?_) <;> simp [h, e]) | (refine selS_intro (fun h => ?_) (fun h => ?_) <;> simp [h, e]))
  all_goals (refine hQ _ _ _ (by simp) ?_)
  all_goals (clear hQ; simp_all [Try.f66])

theorem shpBridge {H : Heap} {k : Nat} {l : List Lf} (h : Shp Try.prog H (k + 5) 81 l) : ∃ (b : Bridge) (a : Option (Nat × Nat)), l = b.enc a ∧ Sl H 106 a (b.ports.map Port.enc) ∧ b.ports.length ≤ maxLen := by
  obtain ⟨_, _, rfl, h1, _, _, rfl, h2, rfl⟩ := h.struct Try.underlying81
  obtain ⟨x1, rfl, -⟩ := h1.i64 Try.underlying3
  obtain ⟨xs, a, rfl, hs, hl, -⟩ := h2.sl (f := Port.enc) (R := fun _ => True) Try.underlying79 fun row hr => let ⟨x, hx⟩ := shpPort hr; ⟨x, hx, trivial⟩
  exact ⟨⟨x1, xs⟩, a, rfl, hs, hl⟩

def IsBridge (H : Heap) (l : List Lf) (x : Bridge) (fp : List Nat) : Prop := ∃ a, l = x.enc a ∧ Own H 61 a (x.ports.map Port.enc) fp
def RdBridge (H : Heap) (l : List Lf) (x : Bridge) : Prop := ∃ a, l = x.enc a ∧ Sl H 61 a (x.ports.map Port.enc)
def RdLBridge (H : Heap) (l : List Lf) (x : Bridge) : Prop := ∃ a, l = x.enc a ∧ Sl H 106 a (x.ports.map Port.enc)
abbrev Bridge.sz (x : Bridge) : Nat := x.ports.length
def Bridge.fit (x : Bridge) : Prop := x.ports.length ≤ maxLen
section
variable {H H' : Heap} {l : List Lf} {x : Bridge} {fp : List Nat}
theorem IsBridge.keep {f : List Nat} (h : IsBridge H l x fp) (hk : Keep f H H') (hd : ∀ i ∈ fp, i ∉ f) : IsBridge H' l x fp := let ⟨a, h1, h2⟩ := h; ⟨a, h1, h2.keep hk hd⟩
theorem IsBridge.app (h : IsBridge H l x fp) (G : Heap) : IsBridge (H ++ G) l x fp := let ⟨a, h1, h2⟩ := h; ⟨a, h1, h2.app G⟩
theorem IsBridge.lt (h : IsBridge H l x fp) : ∀ i ∈ fp, i < H.length := let ⟨_, _, h2⟩ := h; h2.lt
theorem IsBridge.nodup (h : IsBridge H l x fp) : fp.Nodup := let ⟨_, _, h2⟩ := h; h2.nodup
theorem IsBridge.rd (h : IsBridge H l x fp) : RdBridge H l x := let ⟨a, h1, h2⟩ := h; ⟨a, h1, h2.sl⟩
theorem RdBridge.base (h : RdBridge H l x) (hk : Keep [] H H') : RdBridge H' l x := let ⟨a, h1, h2⟩ := h; ⟨a, h1, h2.keep hk (by simp)⟩
theorem RdBridge.app (h : RdBridge H l x) (G : Heap) : RdBridge (H ++ G) l x := h.base (Keep.app _ _ _)
theorem RdLBridge.base (h : RdLBridge H l x) (hk : Keep [] H H') : RdLBridge H' l x := let ⟨a, h1, h2⟩ := h; ⟨a, h1, h2.keep hk (by simp)⟩
theorem RdLBridge.app (h : RdLBridge H l x) (G : Heap) : RdLBridge (H ++ G) l x := h.base (Keep.app _ _ _)
theorem IsBridge.len (h : IsBridge H l x fp) : l.length = 2 := by obtain ⟨a, rfl, -⟩ := h; rfl
theorem RdLBridge.len (h : RdLBridge H l x) : l.length = 2 := by obtain ⟨a, rfl, -⟩ := h; rfl
theorem RdBridge.len (h : RdBridge H l x) : l.length = 2 := by obtain ⟨a, rfl, -⟩ := h; rfl
theorem IsBridge.free (h : IsBridge H' l x fp) (hr : l.all refFree = true) (H2 : Heap) : IsBridge H2 l x [] := by
  obtain ⟨a, rfl, h2⟩ := h
  exact ⟨a, rfl, h2.free (n := x.ports.length) (by simp [Bridge.enc] at hr; exact hr) H2⟩
theorem IsBridge.leave {ws : List W} (h : IsBridge H' l x fp) (hf : Fresh H H' fp) (hw : ws.all W.free = true → l.all refFree = true) : ∃ fp', IsBridge (leave H H' ws) l x fp' ∧ Fresh H (leave H H' ws) fp' := by
  rcases leave_opt H H' ws with e | ⟨e, hr⟩ <;> rw [e]
  · exact ⟨fp, h, hf⟩
  · exact ⟨[], h.free (hw hr) H, Fresh.refl H⟩
end

theorem szBridge_is {H : Heap} {l : List Lf} {x : Bridge} (h : RdLBridge H l x) (hf : x.fit) {left : Int} (h1 : 0 ≤ left) (h2 : left ≤ 1048576) (G : Heap) :
    run env 63 [.agg l, .int left] (H ++ G) = some (.int (if left < x.sz then -1 else left - x.sz), H ++ G) := by
  obtain ⟨a, rfl, h⟩ := h
  exact szBridge _ a x left h1 h2 hf

theorem toBridge_is {H : Heap} {l : List Lf} {x : Bridge} (h : RdLBridge H l x) (hn : x.sz ≤ 1048576) : Runs env 64 [.agg l] H fun v H' => ∃ l' fp, v = .agg l' ∧ IsBridge H' l' x fp ∧ Fresh H H' fp := by
  obtain ⟨a, rfl, h⟩ := h
  exact (toBridge H a x h hn).mono fun v H' ⟨a', fp, h1, h2, h3⟩ => ⟨_, fp, h1, ⟨a', rfl, h2⟩, h3⟩

theorem eqBridge_is {H : Heap} {l r : List Lf} {x y : Bridge} (h : RdBridge H l x) (h2 : RdBridge H r y) (hn : x.sz ≤ 1048576) : run env 66 [.agg l, .agg r] H = some (.bool (decide (x = y)), H) := by
  obtain ⟨a, rfl, h⟩ := h
  obtain ⟨b, rfl, h2⟩ := h2
  exact eqBridge H a b x y h h2 hn

theorem shpBridge_is {H : Heap} {k : Nat} {l : List Lf} (h : Shp Try.prog H (k + 5) 81 l) : ∃ x : Bridge, RdLBridge H l x ∧ x.fit := by
  obtain ⟨x, a, rfl, hs, hl⟩ := shpBridge h
  exact ⟨x, ⟨a, rfl, hs⟩, hl⟩

theorem okBridge : RepOk IsBridge := ⟨fun h hk hd => h.keep hk hd, fun h => h.lt, fun h => h.nodup⟩
abbrev IsBridgeS := IsL 50 IsBridge
abbrev RdBridgeS := RdL 50 RdBridge
abbrev RdLBridgeS := RdL 81 RdLBridge
def BridgeS.sz (xs : List Bridge) : Nat := xs.length + (xs.map Bridge.sz).sum
theorem BridgeS.sz_len (xs : List Bridge) : xs.length ≤ BridgeS.sz xs := by unfold BridgeS.sz; omega
theorem BridgeS.sz_at {xs : List Bridge} {x : Bridge} (h : x ∈ xs) : x.sz ≤ BridgeS.sz xs := by
  have key : ∀ {ys : List Bridge}, x ∈ ys → x.sz ≤ (ys.map Bridge.sz).sum := by
    intro ys hy
    induction ys with
    | nil => simp at hy
    | cons y ys ih =>
      simp only [List.map_cons, List.sum_cons]
      rcases List.mem_cons.1 hy with rfl | hy
      · omega
      · have := ih hy; omega
  have := key h
  unfold BridgeS.sz
  omega
def BridgeS.ps (xs : List Bridge) (i : Nat) : Nat := ((xs.take i).map Bridge.sz).sum
theorem BridgeS.ps_zero (xs : List Bridge) : BridgeS.ps xs 0 = 0 := by simp [BridgeS.ps]
theorem BridgeS.ps_succ (xs : List Bridge) {i : Nat} (h : i < xs.length) : BridgeS.ps xs (i + 1) = BridgeS.ps xs i + xs[i].sz := by
  unfold BridgeS.ps
  rw [List.take_add_one, List.getElem?_eq_getElem h, List.map_append, List.sum_append]
  simp
theorem BridgeS.ps_le (xs : List Bridge) (i : Nat) : xs.length + BridgeS.ps xs i ≤ BridgeS.sz xs := by
  have := congrArg (fun l => (l.map Bridge.sz).sum) (List.take_append_drop i xs)
  simp only [List.map_append, List.sum_append] at this
  unfold BridgeS.ps BridgeS.sz
  omega
theorem BridgeS.ps_len (xs : List Bridge) : xs.length + BridgeS.ps xs xs.length = BridgeS.sz xs := by unfold BridgeS.ps BridgeS.sz; rw [List.take_length]
def BridgeS.fit (xs : List Bridge) : Prop := xs.length ≤ maxLen ∧ ∀ x ∈ xs, x.fit
theorem RdBridgeS_base {H H' : Heap} {q : Lf} {xs : List Bridge} (h : RdBridgeS H q xs) (hk : Keep [] H H') : RdBridgeS H' q xs := RdL.base h (fun h hk => h.base hk) hk
theorem RdLBridgeS_base {H H' : Heap} {q : Lf} {xs : List Bridge} (h : RdLBridgeS H q xs) (hk : Keep [] H H') : RdLBridgeS H' q xs := RdL.base h (fun h hk => h.base hk) hk
theorem IsBridgeS_rd {H : Heap} {q : Lf} {xs : List Bridge} {fp : List Nat} (h : IsBridgeS H q xs fp) : RdBridgeS H q xs := IsL.rd h fun h => h.rd

theorem toBridgeS_is {H : Heap} {q : Lf} {xs : List Bridge} (h : RdLBridgeS H q xs) (hn : BridgeS.sz xs ≤ 1048576) :
    Runs env 37 [.w (.lf q)] H fun v H' => ∃ q' fp, v = .w (.lf q') ∧ IsBridgeS H' q' xs fp ∧ Fresh H H' fp := by
  have hR := h
  obtain ⟨a, rws, rfl, hs, hlen, hat⟩ := h
  have hl := BridgeS.sz_len xs
  refine Runs.walk ok37 Try.func37 rfl (by simp [Try.f37]) fun Q hQ => ?_
  simp only [Try.f37, strip, stripL, stripI, stripG, chkT, tagsB, tagsL, tagD, addT, tagA, lookN, tagOp, elmT, ty22, ty23, ty28, ty29, ty38, ty48, ty71, ty79, ty88, Nat.reduceEqDiff, if_false, reduceIte, Option.getD_some, Option.getD_none, dstAt, dstOk, Nat.reduceLT, decide_true, if_true]
  have k1 : (xs.length : Int) * 32 ≤ 281474976710656 := by omega
  have k2 : (xs.length : Int) ≤ 9223372036854775807 := by omega
  simp [builtinV, pureB, lenV, makeSliceV, makeSliceR, newBlk, k1, k2]
  obtain ⟨z, hz⟩ : ∃ z, z = ([.i .i64 0, .sl none 0] : List Lf) := ⟨_, rfl⟩
  refine wpS_loop (fun j tm H' => ∃ i rows fps, i + j = xs.length ∧ tm 0 = .w (.lf (.sl a xs.length)) ∧ tm 3 = .sl H.length 0 xs.length ∧ tm 4 = .int i ∧ blkAt H' H.length = some ⟨50, .wr, rows ++ List.replicate j z⟩ ∧ Part IsBridge H' rows (xs.take i) fps ∧ (∀ k ∈ fps.flatten, H.length < k) ∧ Keep [] H H') xs.length (by rw [env_K]; omega)
    ⟨0, [], [], by simp, by simp, by simp, by simp, by simp [hz], Part.nil _ _, by simp, Keep.app _ _ _⟩ ?_
  rintro j tm H' hj ⟨i, rows, fps, hij, t0, t3, t4, hb, hp, hlo, hk⟩ Q' hn' he' hr'
  simp [t0, t3, t4, builtinV, pureB, lenV]
  refine selS_intro (fun hc => ?_) (fun hc => ?_)
  · simp at hc
    obtain ⟨j, rfl⟩ : ∃ j', j = j' + 1 := ⟨j - 1, by omega⟩
    have hri : i < rws.length := by omega
    obtain ⟨id, r, bl, rfl, hbl, hbe, hrow⟩ := hs i _ (List.getElem?_eq_getElem hri)
    have he := hat i _ _ (List.getElem?_eq_getElem hri) (List.getElem?_eq_getElem hc)
    have hL := he.len
    have hT : rws[i].take rws[i].length = rws[i] := List.take_length
    rw [hL] at hT
    have hbl' := hk.blk hbl (by simp)
    have hbH := blkAt_len hb
    have g4 : IntKind.i64.wrap ((i : Int) + 1) = (i : Int) + 1 := wrap64 (by omega) (by omega)
    simp [t0, t3, t4, indexAddrV, elemIs, hbl', hbe, hc, hrow, hL, hT]
    have hsz := BridgeS.sz_at (List.getElem_mem hc)
    refine stpL_runs (toBridge_is (he.base hk) (by omega)) ?_
    rintro _ H2 ⟨l2, f2, rfl, o2, fr2⟩
    have hb2 := fr2.kp.blk hb (by simp)
    have hb2L := blkAt_len hb2
    have hl2 := o2.len
    have hrl : rows.length = i := by rw [hp.len]; simp; omega
    have hget : (rows ++ List.replicate (j + 1) z)[i]? = some z := by
      rw [List.getElem?_append_right (by omega), hrl]; simp
    have hset : (rows ++ List.replicate (j + 1) z).set i l2 = (rows ++ [l2]) ++ List.replicate j z := by
      rw [List.set_append_right _ _ (by omega), hrl]; simp [List.replicate_succ]
    have hzl : z.length = 2 := by rw [hz]; rfl
    have hdrop : z.drop 2 = [] := by rw [hz]; rfl
    simp [t0, t3, t4, indexAddrV, hb2, hb2L, hget, hl2, hzl, hdrop, hset, hc, elemIs, g4]
    refine hn' j _ _ (by omega) ⟨i + 1, rows ++ [l2], fps ++ [f2], by omega, by simp [t0], by simp [t3], by simp, ?_, ?_, ?_, ?_⟩
    · rw [blkAt_set hb2L]; simp
    · have hd := hp.lt okBridge
      have h1 := (hp.keep okBridge fr2.kp (by simp)).snoc (x := xs[i]) okBridge o2 (fun k hk' hk2 => by have := hd k hk2; have := fr2.2 k hk'; omega)
      have h2 := h1.keep okBridge (Keep.set (id := H.length) H2 (some ⟨50, .wr, (rows ++ [l2]) ++ List.replicate j z⟩)) (fun k hk' => by
        simp at hk'
        rcases hk' with ⟨g, hg, hkg⟩ | hk'
        · have := hlo k (List.mem_flatten.2 ⟨g, hg, hkg⟩); simp; omega
        · have := fr2.2 k hk'; simp; omega)
      rw [List.take_add_one, List.getElem?_eq_getElem hc]
      simpa using h2
    · intro k hk'
      simp at hk'
      rcases hk' with ⟨g, hg, hkg⟩ | hk'
      · exact hlo k (List.mem_flatten.2 ⟨g, hg, hkg⟩)
      · have := fr2.2 k hk'; omega
    · exact (hk.next fr2.kp (by simp)).next (Keep.set _ _) (by simp)
  · simp at hc
    have hj0 : j = 0 := by omega
    subst hj0
    simp [t0, t3, t4]
    refine he' _ _ _ ?_
    simp [t3]
    refine hQ _ _ _ (by simp) ?_
    have hi : i = xs.length := by omega
    subst hi
    rw [List.take_length] at hp
    simp [Try.f37]
    have ho : IsBridgeS H' (.sl (some (H.length, 0)) xs.length) xs ([H.length] ++ fps.flatten) := ⟨_, rows, [H.length], fps, rfl, Own.of (by simpa using hb), hp, rfl, by
      simp only [List.singleton_append, List.nodup_cons]
      exact ⟨fun hm => by have := hlo _ hm; omega, hp.nodup⟩⟩
    have hf : Fresh H H' ([H.length] ++ fps.flatten) := ⟨hk.ext, fun k hk' => by
      simp only [List.singleton_append, List.mem_cons] at hk'
      rcases hk' with rfl | hk'
      · exact Nat.le_refl _
      · have := hlo k hk'; omega⟩
    rcases leave_opt H H' [W.lf (Lf.sl (some (H.length, 0)) xs.length)] with e | ⟨e, hr⟩
    · rw [e]; exact ⟨_, ho, hf⟩
    · simp [refFree] at hr

theorem szBridgeS_is {H : Heap} {q : Lf} {xs : List Bridge} (h : RdLBridgeS H q xs) (hf : BridgeS.fit xs) {left : Int} (h1 : 0 ≤ left) (h2 : left ≤ 1048576) :
    run env 34 [.w (.lf q), .int left] H = some (.int (if left < BridgeS.sz xs then -1 else left - BridgeS.sz xs), H) := by
  obtain ⟨a, rws, rfl, hs, hlen, hat⟩ := h
  have hm : (xs.length : Int) ≤ 9223372036854775807 := by have := hf.1; unfold maxLen at this; omega
  have hS := BridgeS.ps_le xs
  refine run_walk ok34 Try.func34 rfl (by simp [Try.f34]) fun Q hQ => ?_
  simp only [Try.f34, strip, stripL, stripI, stripG, chkT, tagsB, tagsL, tagD, addT, tagA, lookN, tagOp, elmT, ty22, ty23, ty28, ty29, ty38, ty48, ty71, ty79, ty88, Nat.reduceEqDiff, if_false, reduceIte, Option.getD_some, Option.getD_none, dstAt, dstOk, Nat.reduceLT, decide_true, if_true]
  have g : IntKind.i64.wrap (left - xs.length) = left - xs.length := wrap64 (by omega) (by omega)
  simp [builtinV, pureB, lenV, g]
  refine selS_intro (fun hc => ?_) (fun hc => ?_)
  · simp at hc
    simp
    refine hQ _ _ _ (by simp) ?_
    simp [Try.f34, BridgeS.sz]
    omega
  simp at hc
  simp
  refine wpS_loop (fun j tm H' => ∃ i, i + j = xs.length ∧ tm 0 = .w (.lf (.sl a xs.length)) ∧ tm 1 = .int (left - xs.length - BridgeS.ps xs i) ∧ tm 5 = .int i ∧ H' = H ∧ 0 ≤ left - xs.length - BridgeS.ps xs i) xs.length (by rw [env_K]; omega)
    ⟨0, by simp, by simp, by simp [BridgeS.ps_zero], by simp, rfl, by rw [BridgeS.ps_zero]; omega⟩ ?_
  rintro j tm H' hj ⟨i, hij, t0, t1, t5, rfl, hpos⟩ Q' hn' he' hr'
  simp [t0, t1, t5, builtinV, pureB, lenV]
  refine selS_intro (fun hc => ?_) (fun hc => ?_)
  · simp at hc
    have hri : i < rws.length := by omega
    obtain ⟨id, r, bl, rfl, hbl, hbe, hrow⟩ := hs i _ (List.getElem?_eq_getElem hri)
    have he := hat i _ _ (List.getElem?_eq_getElem hri) (List.getElem?_eq_getElem hc)
    have hL := he.len
    have hT : rws[i].take rws[i].length = rws[i] := List.take_length
    rw [hL] at hT
    have g4 : IntKind.i64.wrap ((i : Int) + 1) = (i : Int) + 1 := wrap64 (by omega) (by omega)
    have es := szBridge_is he (hf.2 _ (List.getElem_mem hc)) hpos (by omega) []
    simp only [List.append_nil] at es
    have hS1 := BridgeS.ps_succ xs hc
    have hS2 := hS (i + 1)
    simp [t0, t1, t5, indexAddrV, elemIs, hbl, hbe, hc, hrow, hL, hT, es]
    by_cases hb : left - (xs.length : Int) - (BridgeS.ps xs i : Int) < (xs[i].sz : Int)
    · simp [hb]
      refine hr' _ _ ?_
      simp
      refine hQ _ _ _ (by simp) ?_
      simp [Try.f34]
      omega
    · have hz : ¬ (left - (xs.length : Int) - (BridgeS.ps xs i : Int) - (xs[i].sz : Int) < 0) := by omega
      simp [hb, hz, t0, t1, t5, g4]
      exact hn' (j - 1) _ _ (by omega) ⟨i + 1, by omega, by simp [t0], by simp [hS1]; omega, by simp, rfl, by omega⟩
  · simp at hc
    simp [t0, t1, t5]
    refine he' _ _ _ ?_
    simp [t1]
    refine hQ _ _ _ (by simp) ?_
    have hi : i = xs.length := by omega
    subst hi
    have hp := BridgeS.ps_len xs
    simp [Try.f34]
    rw [if_neg (by omega)]
    omega

theorem shpBridgeS_is {H : Heap} {k : Nat} {l : List Lf} (h : Shp Try.prog H (k + 6) 22 l) : ∃ (q : Lf) (xs : List Bridge), l = [q] ∧ RdLBridgeS H q xs ∧ BridgeS.fit xs := by
  rcases h.slice Try.underlying22 with rfl | ⟨id, b, rfl, hb, he, hm, hrows⟩
  · exact ⟨_, [], rfl, ⟨none, [], rfl, Sl.nil _ _ _, rfl, by simp⟩, by simp [BridgeS.fit]⟩
  · have key : ∀ rows : List (List Lf), (∀ row ∈ rows, Shp Try.prog H (k + 5) 81 row) → ∃ xs : List Bridge, rows.length = xs.length ∧ (∀ (i : Nat) (row : List Lf) (x : Bridge), rows[i]? = some row → xs[i]? = some x → RdLBridge H row x) ∧ ∀ x ∈ xs, x.fit := by
      intro rows
      induction rows with
      | nil => intro _; exact ⟨[], rfl, by simp, by simp⟩
      | cons row rows ih =>
        intro hr
        obtain ⟨x, h1, h2⟩ := shpBridge_is (hr row (by simp))
        obtain ⟨xs, h3, h4, h5⟩ := ih fun r hr' => hr r (by simp [hr'])
        refine ⟨x :: xs, by simp [h3], fun i row' x' a1 a2 => ?_, ?_⟩
        · cases i with
          | zero => simp at a1 a2; subst a1; subst a2; exact h1
          | succ i => exact h4 i row' x' (by simpa using a1) (by simpa using a2)
        · intro y hy
          rcases List.mem_cons.1 hy with rfl | hy
          · exact h2
          · exact h5 y hy
    obtain ⟨xs, h1, h2, h3⟩ := key b.rows hrows
    refine ⟨_, xs, rfl, ⟨some (id, 0), b.rows, by rw [h1], fun i row hi => ⟨id, 0, b, rfl, hb, he, by simpa using hi⟩, h1, h2⟩, by rw [← h1]; exact hm, h3⟩

theorem eqBridgeS_is {H : Heap} {q r : Lf} {xs ys : List Bridge} (h : RdBridgeS H q xs) (h2 : RdBridgeS H r ys) (hn : BridgeS.sz xs ≤ 1048576) : run env 43 [.w (.lf q), .w (.lf r)] H = some (.bool (decide (xs = ys)), H) := by
  obtain ⟨a, rws, rfl, hs, hlen, hat⟩ := h
  obtain ⟨b, rws2, rfl, hs2, hlen2, hat2⟩ := h2
  have hl := BridgeS.sz_len xs
  refine run_walk ok43 Try.func43 rfl (by simp [Try.f43]) fun Q hQ => ?_
  simp only [Try.f43, strip, stripL, stripI, stripG, chkT, tagsB, tagsL, tagD, addT, tagA, lookN, tagOp, elmT, ty22, ty23, ty28, ty29, ty38, ty48, ty71, ty79, ty88, Nat.reduceEqDiff, if_false, reduceIte, Option.getD_some, Option.getD_none, dstAt, dstOk, Nat.reduceLT, decide_true, if_true]
  simp [builtinV, pureB, lenV]
  refine selS_intro (fun hl => ?_) (fun hl => ?_)
  · simp
    refine hQ _ _ _ (by simp) ?_
    simp at hl
    have : ¬ xs = ys := fun h => hl (by rw [h])
    simp [Try.f43, this]
  simp at hl
  simp
  refine wpS_loop (fun j tm H' => ∃ i, i + j = xs.length ∧ tm 0 = .w (.lf (.sl a xs.length)) ∧ tm 1 = .w (.lf (.sl b ys.length)) ∧ tm 5 = .int i ∧ H' = H ∧ xs.take i = ys.take i) xs.length (by rw [env_K]; omega) ⟨0, by simp, by simp, by simp, by simp, rfl, by simp⟩ ?_
  rintro j tm H' hj ⟨i, hij, h0, h1, h5, rfl, heq⟩ Q' hn' he' hr'
  simp [h0, h1, h5, builtinV, pureB, lenV]
  refine selS_intro (fun hc => ?_) (fun hc => ?_)
  · simp at hc
    have hc2 : i < ys.length := by omega
    have hri : i < rws.length := by omega
    have hri2 : i < rws2.length := by omega
    obtain ⟨id, r, bl, rfl, hbl, hbe, hrow⟩ := hs i _ (List.getElem?_eq_getElem hri)
    obtain ⟨id2, r2, bl2, rfl, hbl2, hbe2, hrow2⟩ := hs2 i _ (List.getElem?_eq_getElem hri2)
    have he := hat i _ _ (List.getElem?_eq_getElem hri) (List.getElem?_eq_getElem hc)
    have he2 := hat2 i _ _ (List.getElem?_eq_getElem hri2) (List.getElem?_eq_getElem hc2)
    have hL := he.len
    have hT : rws[i].take rws[i].length = rws[i] := List.take_length
    rw [hL] at hT
    have hL2 := he2.len
    have hT2 : rws2[i].take rws2[i].length = rws2[i] := List.take_length
    rw [hL2] at hT2
    have g4 : IntKind.i64.wrap ((i : Int) + 1) = (i : Int) + 1 := wrap64 (by omega) (by omega)
    have hsz := BridgeS.sz_at (List.getElem_mem hc)
    have ee := eqBridge_is he he2 (by omega)
    simp [h0, h1, h5, indexAddrV, elemIs, hbl, hbe, hbl2, hbe2, hc, hc2, hrow, hrow2, hL, hT, hL2, hT2, ee]
    refine selS_intro (fun hd => ?_) (fun hd => ?_)
    · simp
      refine hr' _ _ ?_
      simp
      refine hQ _ _ _ (by simp) ?_
      simp at hd
      have : ¬ xs = ys := fun h => by subst h; simp at hd
      simp [Try.f43, this]
    · simp at hd
      simp [h0, h1, h5, g4]
      exact hn' (j - 1) _ _ (by omega) ⟨i + 1, by omega, by simp [h0], by simp [h1], by simp, rfl, by rw [List.take_add_one, List.take_add_one, heq]; simp [hc, hc2, hd]⟩
  · simp at hc
    simp [h0, h1, h5]
    refine he' _ _ _ ?_
    simp
    refine hQ _ _ _ (by simp) ?_
    have : xs = ys := by
      rw [List.take_of_length_le (by omega), List.take_of_length_le (by omega)] at heq
      exact heq
    simp [Try.f43, this]

structure Net where
  bridges : List Bridge
  links : List Link
  deriving DecidableEq, Inhabited
def Net.enc (x : Net) (q0 q1 : Lf) : List Lf := [q0, q1]
@[simp] theorem Net.enc_len (x : Net) (q0 q1 : Lf) : (x.enc q0 q1).length = 2 := rfl
@[simp] theorem Net.enc_take (x : Net) (q0 q1 : Lf) : List.take 2 (x.enc q0 q1) = x.enc q0 q1 := rfl

def IsNet (H : Heap) (l : List Lf) (x : Net) (fp : List Nat) : Prop := ∃ q0 q1 f0 f1, l = x.enc q0 q1 ∧ IsBridgeS H q0 x.bridges f0 ∧ IsLinkS H q1 x.links f1 ∧ fp = f0 ++ (f1) ∧ fp.Nodup
def RdNet (H : Heap) (l : List Lf) (x : Net) : Prop := ∃ q0 q1, l = x.enc q0 q1 ∧ RdBridgeS H q0 x.bridges ∧ RdLinkS H q1 x.links
def RdLNet (H : Heap) (l : List Lf) (x : Net) : Prop := ∃ q0 q1, l = x.enc q0 q1 ∧ RdLBridgeS H q0 x.bridges ∧ RdLLinkS H q1 x.links
def Net.sz (x : Net) : Nat := BridgeS.sz x.bridges + x.links.length
def Net.fit (x : Net) : Prop := BridgeS.fit x.bridges ∧ x.links.length ≤ maxLen
section
variable {H H' : Heap} {l : List Lf} {x : Net} {fp : List Nat}
theorem IsNet.keep {f : List Nat} (h : IsNet H l x fp) (hk : Keep f H H') (hd : ∀ i ∈ fp, i ∉ f) : IsNet H' l x fp := by
  obtain ⟨q0, q1, f0, f1, rfl, h0, h1, rfl, hnd⟩ := h
  exact ⟨q0, q1, f0, f1, rfl, h0.keep okBridge hk (fun i hi => hd i (by simp [hi])), h1.keep hk (fun i hi => hd i (by simp [hi])), rfl, hnd⟩
theorem IsNet.app (h : IsNet H l x fp) (G : Heap) : IsNet (H ++ G) l x fp := h.keep (Keep.app [] H G) (by simp)
theorem IsNet.lt (h : IsNet H l x fp) : ∀ i ∈ fp, i < H.length := by
  obtain ⟨q0, q1, f0, f1, rfl, h0, h1, rfl, hnd⟩ := h
  intro i hi
  simp at hi
  rcases hi with hi | hi
  · exact h0.lt okBridge i hi
  · exact h1.lt i hi
theorem IsNet.nodup (h : IsNet H l x fp) : fp.Nodup := by
  obtain ⟨q0, q1, f0, f1, rfl, h0, h1, rfl, hnd⟩ := h
  exact hnd
theorem IsNet.rd (h : IsNet H l x fp) : RdNet H l x := by
  obtain ⟨q0, q1, f0, f1, rfl, h0, h1, rfl, hnd⟩ := h
  exact ⟨q0, q1, rfl, IsBridgeS_rd h0, h1.rd⟩
theorem RdNet.base (h : RdNet H l x) (hk : Keep [] H H') : RdNet H' l x := by
  obtain ⟨q0, q1, rfl, h0, h1⟩ := h
  exact ⟨q0, q1, rfl, RdBridgeS_base h0 hk, h1.base hk⟩
theorem RdNet.app (h : RdNet H l x) (G : Heap) : RdNet (H ++ G) l x := h.base (Keep.app _ _ _)
theorem RdNet.len (h : RdNet H l x) : l.length = 2 := by
  obtain ⟨q0, q1, rfl, h0, h1⟩ := h
  rfl
theorem RdLNet.base (h : RdLNet H l x) (hk : Keep [] H H') : RdLNet H' l x := by
  obtain ⟨q0, q1, rfl, h0, h1⟩ := h
  exact ⟨q0, q1, rfl, RdLBridgeS_base h0 hk, h1.base hk⟩
theorem RdLNet.app (h : RdLNet H l x) (G : Heap) : RdLNet (H ++ G) l x := h.base (Keep.app _ _ _)
theorem RdLNet.len (h : RdLNet H l x) : l.length = 2 := by
  obtain ⟨q0, q1, rfl, h0, h1⟩ := h
  rfl
theorem IsNet.len (h : IsNet H l x fp) : l.length = 2 := by
  obtain ⟨q0, q1, f0, f1, rfl, h0, h1, rfl, hnd⟩ := h
  rfl
theorem IsNet.free (h : IsNet H' l x fp) (hr : l.all refFree = true) (H2 : Heap) : IsNet H2 l x [] := by
  obtain ⟨q0, q1, f0, f1, rfl, h0, h1, rfl, hnd⟩ := h
  simp [Net.enc] at hr
  have a0 : IsBridgeS H2 q0 x.bridges [] := by
    obtain ⟨e1, e2⟩ := h0.empty hr.1
    rw [e1, e2]
    exact IsL.emp _ _ _
  have a1 : IsLinkS H2 q1 x.links [] := h1.free hr.2 H2
  exact ⟨q0, q1, [], [], rfl, a0, a1, by simp, by simp⟩
theorem IsNet.leave {ws : List W} (h : IsNet H' l x fp) (hf : Fresh H H' fp) (hw : ws.all W.free = true → l.all refFree = true) : ∃ fp', IsNet (leave H H' ws) l x fp' ∧ Fresh H (leave H H' ws) fp' := by
  rcases leave_opt H H' ws with e | ⟨e, hr⟩ <;> rw [e]
  · exact ⟨fp, h, hf⟩
  · exact ⟨[], h.free (hw hr) H, Fresh.refl H⟩
end

theorem szNet_at {H : Heap} {l : List Lf} {x : Net} (h : RdLNet H l x) (hf : x.fit) {left : Int} (h1 : 0 ≤ left) (h2 : left ≤ 1048576) :
    run env 11 [.agg l, .int left] H = some (.int (if left < x.sz then -1 else left - x.sz), H) := by
  obtain ⟨q0, q1, rfl, r0, r1⟩ := h
  obtain ⟨t0, t1⟩ := hf
  refine run_walk ok11 Try.func11 rfl (by simp [Try.f11]) fun Q hQ => ?_
  simp only [Try.f11, strip, stripL, stripI, stripG, chkT, tagsB, tagsL, tagD, addT, tagA, lookN, tagOp, elmT, ty22, ty23, ty28, ty29, ty38, ty48, ty71, ty79, ty88, Nat.reduceEqDiff, if_false, reduceIte, Option.getD_some, Option.getD_none, dstAt, dstOk, Nat.reduceLT, decide_true, if_true]
  simp [Net.enc]
  have e0 := fun G' => szBridgeS_is (RdLBridgeS_base r0 (Keep.app [] _ G')) t0 (left := left) (by omega) (by omega)
  simp [e0]
  by_cases b0 : left < ((BridgeS.sz x.bridges : Nat) : Int)
  · simp [b0]
    refine hQ _ _ _ (by simp) ?_
    simp [Try.f11, Net.sz]
    omega
  have z0 : ¬ ((left - ((BridgeS.sz x.bridges : Nat) : Int)) < 0) := by omega
  simp [b0, z0, Net.enc]
  obtain ⟨a1, rfl, s1⟩ := r1
  have e1 := fun H => szLinkS H a1 x.links.length ((left - ((BridgeS.sz x.bridges : Nat) : Int))) (by omega) (by omega) t1
  simp [e1]
  by_cases b1 : (left - ((BridgeS.sz x.bridges : Nat) : Int)) < ((x.links.length : Nat) : Int)
  · simp [b1]
    refine hQ _ _ _ (by simp) ?_
    simp [Try.f11, Net.sz]
    omega
  have z1 : ¬ (((left - ((BridgeS.sz x.bridges : Nat) : Int)) - ((x.links.length : Nat) : Int)) < 0) := by omega
  simp [b1, z1, Net.enc]
  have hfin : ¬ (left < (x.sz : Int)) := by unfold Net.sz; omega
  refine hQ _ _ _ (by simp) ?_
  simp [Try.f11, hfin]
  unfold Net.sz
  omega
theorem szNet_is {H : Heap} {l : List Lf} {x : Net} (h : RdLNet H l x) (hf : x.fit) {left : Int} (h1 : 0 ≤ left) (h2 : left ≤ 1048576) (G : Heap) :
    run env 11 [.agg l, .int left] (H ++ G) = some (.int (if left < x.sz then -1 else left - x.sz), H ++ G) := szNet_at (h.app G) hf h1 h2

theorem toNet_is {H : Heap} {l : List Lf} {x : Net} (h : RdLNet H l x) (hn : x.sz ≤ 1048576) : Runs env 13 [.agg l] H fun v H' => ∃ l' fp, v = .agg l' ∧ IsNet H' l' x fp ∧ Fresh H H' fp := by
  obtain ⟨q0, q1, rfl, r0, r1⟩ := h
  unfold Net.sz at hn
  refine Runs.walk ok13 Try.func13 rfl (by simp [Try.f13]) fun Q hQ => ?_
  simp only [Try.f13, strip, stripL, stripI, stripG, chkT, tagsB, tagsL, tagD, addT, tagA, lookN, tagOp, elmT, ty22, ty23, ty28, ty29, ty38, ty48, ty71, ty79, ty88, Nat.reduceEqDiff, if_false, reduceIte, Option.getD_some, Option.getD_none, dstAt, dstOk, Nat.reduceLT, decide_true, if_true]
  simp [Net.enc]
  refine stpL_runs (toBridgeS_is (RdLBridgeS_base r0 (Keep.app [] H _)) (by omega)) ?_
  rintro _ _ ⟨p0, g0, rfl, o0, ⟨⟨G0, rfl⟩, hf0⟩⟩
  simp only [List.append_assoc, List.cons_append, List.nil_append] at o0
  have b0 : ∀ i ∈ g0, H.length + (3) ≤ i := fun i hi => by have := hf0 i hi; simp at this; omega
  have c0 : ∀ i ∈ g0, i < H.length + (3 + G0.length) := fun i hi => by have := o0.lt okBridge i hi; simp at this; omega
  try simp
  refine stpL_runs (toLinkS_is (r1.base (Keep.app [] H _)) (by omega)) ?_
  rintro _ _ ⟨p1, g1, rfl, o1, ⟨⟨G1, rfl⟩, hf1⟩⟩
  simp only [List.append_assoc, List.cons_append, List.nil_append] at o1
  have b1 : ∀ i ∈ g1, H.length + (3 + G0.length) ≤ i := fun i hi => by have := hf1 i hi; simp at this; omega
  have c1 : ∀ i ∈ g1, i < H.length + (3 + G0.length + G1.length) := fun i hi => by have := o1.lt i hi; simp at this; omega
  try simp
  refine hQ _ _ _ (by simp) ?_
  simp [Try.f13]
  have u0 := fun B1 B2 B3 G' (hp : G0 <+: G') => o0.keep okBridge (Keep.cutP (H := H) (L := [_, _, _]) (L' := [B1, B2, B3]) (G' := G') rfl hp) (fun i hi => by have := b0 i hi; simp; omega)
  have u1 := fun B1 B2 B3 G' (hp : G0 ++ (G1) <+: G') => o1.keep (Keep.cutP (H := H) (L := [_, _, _]) (L' := [B1, B2, B3]) (G' := G') rfl hp) (fun i hi => by have := b1 i hi; simp; omega)
  have hnd : (g0 ++ (g1) : List Nat).Nodup := by
    have n0 : g1.Nodup := o1.nodup
    have m0 : (g0 ++ g1).Nodup := nodup_app o0.nodup n0 (fun i hi hj => by
      have := c0 i hi
      try simp at hj
      rcases hj with hj
      · have := b1 i hj; omega)
    exact m0
  refine IsNet.leave (fp := g0 ++ g1) ⟨p0, p1, g0, g1, by simp [Net.enc], u0 _ _ _ _ (by simp), u1 _ _ _ _ (by simp), rfl, hnd⟩ (Fresh.app H _ fun i hi => ?_) (by simp [Net.enc])
  simp at hi
  rcases hi with hi | hi
  · have := b0 i hi; omega
  · have := b1 i hi; omega

theorem eqNet_is {H : Heap} {l r : List Lf} {x y : Net} (h : RdNet H l x) (h2 : RdNet H r y) (hn : x.sz ≤ 1048576) : run env 15 [.agg l, .agg r] H = some (.bool (decide (x = y)), H) := by
  obtain ⟨q0, q1, rfl, r0, r1⟩ := h
  obtain ⟨p0, p1, rfl, s0, s1⟩ := h2
  unfold Net.sz at hn
  have e0 := fun G => eqBridgeS_is (RdBridgeS_base r0 (Keep.app [] _ G)) (RdBridgeS_base s0 (Keep.app [] _ G)) (by omega)
  have e1 := fun G => eqLinkS_is (r1.app G) (s1.app G) (by omega)
  obtain ⟨x0, x1⟩ := x
  obtain ⟨y0, y1⟩ := y
  simp only at e0 e1
  refine run_walk ok15 Try.func15 rfl (by simp [Try.f15]) fun Q hQ => ?_
  simp only [Try.f15, strip, stripL, stripI, stripG, chkT, tagsB, tagsL, tagD, addT, tagA, lookN, tagOp, elmT, ty22, ty23, ty28, ty29, ty38, ty48, ty71, ty79, ty88, Nat.reduceEqDiff, if_false, reduceIte, Option.getD_some, Option.getD_none, dstAt, dstOk, Nat.reduceLT, decide_true, if_true]
  simp [Net.enc, e0, e1]
  repeat' (first | (refine gdL_t (fun h => ?_) (fun h => ?_) <;> simp [h, e0, e1]) | (refine gdL_f (fun h => ?_) (fun h => ?_) <;> simp [h, e0, e1]) | (refine selS_intro (fun h => ?_) (fun h => ?_) <;> simp [h, e0, e1]))
  all_goals (refine hQ _ _ _ (by simp) ?_)
  all_goals (clear hQ; simp_all [Try.f15])

theorem shpNet_is {H : Heap} {l : List Lf} (h : Shp Try.prog H 8 25 l) : ∃ x : Net, RdLNet H l x ∧ x.fit := by
  obtain ⟨_, _, rfl, h0, _, _, rfl, h1, rfl⟩ := h.struct Try.underlying25
  obtain ⟨q0, x0, rfl, r0, t0⟩ := shpBridgeS_is h0
  obtain ⟨q1, x1, rfl, r1, t1⟩ := shpLinkS_is h1
  exact ⟨⟨x0, x1⟩, ⟨q0, q1, rfl, r0, r1⟩, t0, t1⟩

theorem sameOne {H : Heap} {l r : List Lf} {x y : Bridge} (h : RdBridge H l x) (h2 : RdBridge H r y) (hn : x.sz ≤ 1048576) : run env 41 [.agg l, .agg r] H = some (.bool (decide (x = y)), H) := by
  have h3 := h
  have h4 := h2
  obtain ⟨a, rfl, h⟩ := h
  obtain ⟨b, rfl, h2⟩ := h2
  have e := fun G => equalPortS (q := .sl a x.ports.length) (r := .sl b y.ports.length) (xs := x.ports) (ys := y.ports) (H := H ++ G) ⟨a, rfl, h.app G⟩ ⟨b, rfl, h2.app G⟩ hn
  refine run_walk ok41 Try.func41 rfl (by simp [Try.f41]) fun Q hQ => ?_
  simp only [Try.f41, strip, stripL, stripI, stripG, chkT, tagsB, tagsL, tagD, addT, tagA, lookN, tagOp, elmT, ty22, ty23, ty28, ty29, ty38, ty48, ty71, ty79, ty88, Nat.reduceEqDiff, if_false, reduceIte, Option.getD_some, Option.getD_none, dstAt, dstOk, Nat.reduceLT, decide_true, if_true]
  simp [Bridge.enc]
  repeat' (first | (refine gdL_t (fun h => ?_) (fun h => ?_) <;> simp [h, e]) | (refine gdL_f (fun h => ?_) (fun h => ?_) <;> simp [h, e]) | (refine selS_intro (fun h => ?_) (fun h => ?_) <;> simp [h, e]))
  all_goals (refine hQ _ _ _ (by simp) ?_)
  all_goals (clear hQ; obtain ⟨x1, x2⟩ := x; obtain ⟨y1, y2⟩ := y; simp_all [Try.f41])

theorem sameAll {H : Heap} {q r : Lf} {xs ys : List Bridge} (h : RdBridgeS H q xs) (h2 : RdBridgeS H r ys) (hn : BridgeS.sz xs ≤ 1048576) :
    run env 40 [.w (.lf q), .w (.lf r), .w (.lf (.fn 41 [] []))] H = some (.bool (decide (xs = ys)), H) := by
  obtain ⟨a, rws, rfl, hs, hlen, hat⟩ := h
  obtain ⟨b, rws2, rfl, hs2, hlen2, hat2⟩ := h2
  have hl := BridgeS.sz_len xs
  refine run_walk ok40 Try.func40 rfl (by simp [Try.f40]) fun Q hQ => ?_
  simp only [Try.f40, strip, stripL, stripI, stripG, chkT, tagsB, tagsL, tagD, addT, tagA, lookN, tagOp, elmT, ty22, ty23, ty28, ty29, ty38, ty48, ty71, ty79, ty88, Nat.reduceEqDiff, if_false, reduceIte, Option.getD_some, Option.getD_none, dstAt, dstOk, Nat.reduceLT, decide_true, if_true]
  simp [builtinV, pureB, lenV]
  refine selS_intro (fun hl => ?_) (fun hl => ?_)
  · simp
    refine hQ _ _ _ (by simp) ?_
    simp at hl
    have : ¬ xs = ys := fun h => hl (by rw [h])
    simp [Try.f40, this]
  simp at hl
  simp [builtinV, pureB, lenV]
  refine wpS_loop (fun j tm H' => ∃ i G, i + j = xs.length ∧ tm 1 = .w (.lf (.sl b ys.length)) ∧ tm 2 = .w (.lf (.fn 41 [] [])) ∧ tm 15 = .w (.lf (.sl a xs.length)) ∧ tm 16 = .int xs.length ∧ tm 17 = .int i ∧ H' = H ++ G ∧ xs.take i = ys.take i) xs.length (by rw [env_K]; omega) ⟨0, [], by simp, by simp, by simp, by simp, by simp, by simp, by simp, by simp⟩ ?_
  rintro j tm H' hj ⟨i, G, hij, h1, h2, h15, h16, h17, rfl, heq⟩ Q' hn' he' hr'
  simp [h1, h2, h15, h16, h17]
  refine selS_intro (fun hc => ?_) (fun hc => ?_)
  · simp at hc
    have hc2 : i < ys.length := by omega
    have hri : i < rws.length := by omega
    have hri2 : i < rws2.length := by omega
    obtain ⟨id, r, bl, rfl, hbl, hbe, hrow⟩ := hs i _ (List.getElem?_eq_getElem hri)
    obtain ⟨id2, r2, bl2, rfl, hbl2, hbe2, hrow2⟩ := hs2 i _ (List.getElem?_eq_getElem hri2)
    have hid := blkAt_len hbl
    have hid2 := blkAt_len hbl2
    have he := hat i _ _ (List.getElem?_eq_getElem hri) (List.getElem?_eq_getElem hc)
    have he2 := hat2 i _ _ (List.getElem?_eq_getElem hri2) (List.getElem?_eq_getElem hc2)
    have hL := he.len
    have hT : rws[i].take rws[i].length = rws[i] := List.take_length
    rw [hL] at hT
    have hL2 := he2.len
    have hT2 : rws2[i].take rws2[i].length = rws2[i] := List.take_length
    rw [hL2] at hT2
    have g4 : IntKind.i64.wrap ((i : Int) + 1) = (i : Int) + 1 := wrap64 (by omega) (by omega)
    have hsz := BridgeS.sz_at (List.getElem_mem hc)
    have ee := fun G => sameOne (he.app G) (he2.app G) (by omega)
    simp [h1, h2, h15, h16, h17, indexAddrV, elemIs, hid, hid2, hbl, hbe, hbl2, hbe2, hc, hc2, hrow, hrow2, hL, hT, hL2, hT2, ee]
    refine selS_intro (fun hd => ?_) (fun hd => ?_)
    · simp
      refine hr' _ _ ?_
      simp
      refine hQ _ _ _ (by simp) ?_
      simp at hd
      have : ¬ xs = ys := fun h => by subst h; simp at hd
      simp [Try.f40, this]
    · simp at hd
      simp [h1, h2, h15, h16, h17, g4]
      exact hn' (j - 1) _ _ (by omega) ⟨i + 1, _, by omega, by simp [h1], by simp [h2], by simp [h15], by simp [h16], by simp, rfl, by rw [List.take_add_one, List.take_add_one, heq]; simp [hc, hc2, hd]⟩
  · simp at hc
    simp [h1, h2, h15, h16, h17]
    refine he' _ _ _ ?_
    simp
    refine hQ _ _ _ (by simp) ?_
    have : xs = ys := by
      rw [List.take_of_length_le (by omega), List.take_of_length_le (by omega)] at heq
      exact heq
    simp [Try.f40, this]

theorem implSame_is {H : Heap} {l r : List Lf} {x y : Net} (h : RdNet H l x) (hn : x.sz ≤ 1048576) (h2 : RdNet H r y) (hn2 : y.sz ≤ 1048576) : run env 14 [.agg l, .agg r] H = some (.bool (decide (x = y)), H) := by
  obtain ⟨q0, q1, rfl, h3, h4⟩ := h
  obtain ⟨r0, r1, rfl, h5, h6⟩ := h2
  unfold Net.sz at hn
  have e1 := fun G => equalLinkS (h4.app G) (h6.app G) (by omega)
  have e2 := fun G => sameAll (RdBridgeS_base h3 (Keep.app [] _ G)) (RdBridgeS_base h5 (Keep.app [] _ G)) (by omega)
  refine run_walk ok14 Try.func14 rfl (by simp [Try.f14]) fun Q hQ => ?_
  simp only [Try.f14, strip, stripL, stripI, stripG, chkT, tagsB, tagsL, tagD, addT, tagA, lookN, tagOp, elmT, ty22, ty23, ty28, ty29, ty38, ty48, ty71, ty79, ty88, Nat.reduceEqDiff, if_false, reduceIte, Option.getD_some, Option.getD_none, dstAt, dstOk, Nat.reduceLT, decide_true, if_true]
  simp [Net.enc, e1]
  repeat' (first | (refine gdL_t (fun h => ?_) (fun h => ?_) <;> simp [h, e1, e2]) | (refine gdL_f (fun h => ?_) (fun h => ?_) <;> simp [h, e1, e2]) | (refine selS_intro (fun h => ?_) (fun h => ?_) <;> simp [h, e1, e2]))
  all_goals (refine hQ _ _ _ (by simp) ?_)
  all_goals (clear hQ; obtain ⟨x1, x2⟩ := x; obtain ⟨y1, y2⟩ := y; simp_all [Try.f14])

theorem specL10Bridge {H : Heap} {l r : List Lf} {x y : Bridge} (h : RdBridge H l x) (h2 : RdBridge H r y) (hn : x.sz ≤ 1048576) : run env 36 [.agg l, .agg r] H = some (.bool (decide (x = y)), H) := by
  obtain ⟨a, rfl, ha⟩ := h
  obtain ⟨b, rfl, hb⟩ := h2
  have hn : x.ports.length ≤ 1048576 := hn
  refine run_walk ok36 Try.func36 rfl (by simp [Try.f36]) fun Q hQ => ?_
  simp only [Try.f36, strip, stripL, stripI, stripG, chkT, tagsB, tagsL, tagD, addT, tagA, lookN, tagOp, elmT, ty22, ty23, ty28, ty29, ty38, ty48, ty71, ty79, ty88, Nat.reduceEqDiff, if_false, reduceIte, Option.getD_some, Option.getD_none, dstAt, dstOk, Nat.reduceLT, decide_true, if_true]
  simp [Bridge.enc, builtinV, pureB, lenV]
  have bad : x ≠ y → ∀ tm H', (∃ G, H' = H ++ G) → tm 4 = .bool false → Q .ret tm H' := by
    rintro hx tm _ ⟨G, rfl⟩ h4
    refine hQ _ _ _ (by simp) ?_
    simp [Try.f36, h4, hx]
  refine gdL_f (fun hd => ?_) (fun hd => ?_)
  · simp [hd]
    refine bad (fun hx => by subst hx; simp at hd) _ _ ⟨_, rfl⟩ (by simp)
  simp [hd, builtinV, pureB, lenV]
  refine selS_intro (fun hl => ?_) (fun hl => ?_)
  · simp
    refine bad (fun hx => by subst hx; simp at hl) _ _ ⟨_, rfl⟩ (by simp)
  simp at hl hd
  simp
  refine wpS_loop (fun j tm H' => ∃ i, i + j = x.ports.length ∧ tm 2 = .ptr H.length 0 0 ∧ tm 3 = .ptr (H.length + 1) 0 0 ∧ tm 5 = .int i ∧ H' = H ++ [some ⟨50, .wr, [x.enc a]⟩, some ⟨50, .wr, [y.enc b]⟩] ∧ x.ports.take i = y.ports.take i) x.ports.length (by rw [env_K]; omega) ⟨0, by simp, by simp, by simp, by simp, by simp [Bridge.enc], by simp⟩ ?_
  rintro j tm H' hj ⟨i, hij, t2, t3, t5, rfl, heq⟩ Q' hn' he' hr'
  simp [t2, t3, t5, Bridge.enc, builtinV, pureB, lenV]
  refine selS_intro (fun hc => ?_) (fun hc => ?_)
  · simp at hc
    have hc2 : i < y.ports.length := by omega
    obtain ⟨id, r, bl, rfl, hbl, hbe, hrow⟩ := ha i _ (by simp [hc]; rfl)
    obtain ⟨id2, r2, bl2, rfl, hbl2, hbe2, hrow2⟩ := hb i _ (by simp [hc2]; rfl)
    have hid := blkAt_len hbl
    have hid2 := blkAt_len hbl2
    have g4 : IntKind.i64.wrap ((i : Int) + 1) = (i : Int) + 1 := wrap64 (by omega) (by omega)
    simp [t2, t3, t5, indexAddrV, elemIs, hid, hid2, hbl, hbe, hbl2, hbe2, hc, hc2, hrow, hrow2, Port.enc]
    refine selS_intro (fun hd2 => ?_) (fun hd2 => ?_)
    · simp
      refine hr' _ _ ?_
      simp
      refine bad (fun hx => by subst hx; simp at hd2) _ _ ⟨_, rfl⟩ (by simp)
    · have hxy : x.ports[i] = y.ports[i] := by
        refine Port.enc_inj ?_
        simpa [Port.enc] using hd2
      simp [t2, t3, t5, g4]
      exact hn' (j - 1) _ _ (by omega) ⟨i + 1, by omega, by simp [t2], by simp [t3], by simp, by simp [Bridge.enc], by rw [List.take_add_one, List.take_add_one, heq]; simp [hc, hc2, hxy]⟩
  · simp at hc
    simp [t2, t3, t5]
    refine he' _ _ _ ?_
    simp
    refine hQ _ _ _ (by simp) ?_
    have hp : x.ports = y.ports := by
      rw [List.take_of_length_le (by omega), List.take_of_length_le (by omega)] at heq
      exact heq
    have : x = y := by
      obtain ⟨x1, x2⟩ := x
      obtain ⟨y1, y2⟩ := y
      simp_all
    simp [Try.f36, this]

theorem specSame_is {H : Heap} {l r : List Lf} {x y : Net} (h : RdNet H l x) (hn : x.sz ≤ 1048576) (h2 : RdNet H r y) (hn2 : y.sz ≤ 1048576) : run env 12 [.agg l, .agg r] H = some (.bool (decide (x = y)), H) := by
  obtain ⟨_, _, rfl, ⟨a, rws, rfl, hs, hlen, hat⟩, ⟨c, rfl, hc1⟩⟩ := h
  obtain ⟨_, _, rfl, ⟨b, rws2, rfl, hs2, hlen2, hat2⟩, ⟨d, rfl, hd1⟩⟩ := h2
  unfold Net.sz at hn
  have hbl0 := BridgeS.sz_len x.bridges
  refine run_walk ok12 Try.func12 rfl (by simp [Try.f12]) fun Q hQ => ?_
  simp only [Try.f12, strip, stripL, stripI, stripG, chkT, tagsB, tagsL, tagD, addT, tagA, lookN, tagOp, elmT, ty22, ty23, ty28, ty29, ty38, ty48, ty71, ty79, ty88, Nat.reduceEqDiff, if_false, reduceIte, Option.getD_some, Option.getD_none, dstAt, dstOk, Nat.reduceLT, decide_true, if_true]
  simp [Net.enc, builtinV, pureB, lenV]
  have bad : x ≠ y → ∀ tm H', (∃ G, H' = H ++ G) → tm 4 = .bool false → Q .ret tm H' := by
    rintro hx tm _ ⟨G, rfl⟩ h4
    refine hQ _ _ _ (by simp) ?_
    simp [Try.f12, h4, hx]
  refine gdL_f (fun hd => ?_) (fun hd => ?_)
  · simp [hd]
    refine bad (fun hx => by subst hx; simp at hd) _ _ ⟨_, rfl⟩ (by simp)
  simp [hd, builtinV, pureB, lenV]
  refine selS_intro (fun hl => ?_) (fun hl => ?_)
  · simp
    refine bad (fun hx => by subst hx; simp at hl) _ _ ⟨_, rfl⟩ (by simp)
  simp at hl hd
  simp
  refine wpS_loop (fun j tm H' => ∃ i, i + j = x.bridges.length ∧ tm 2 = .ptr H.length 0 0 ∧ tm 3 = .ptr (H.length + 1) 0 0 ∧ tm 5 = .int i ∧ H' = H ++ [some ⟨31, .wr, [x.enc (.sl a x.bridges.length) (.sl c x.links.length)]⟩, some ⟨31, .wr, [y.enc (.sl b y.bridges.length) (.sl d y.links.length)]⟩] ∧ x.bridges.take i = y.bridges.take i) x.bridges.length (by rw [env_K]; omega) ⟨0, by simp, by simp, by simp, by simp, by simp [Net.enc], by simp⟩ ?_
  rintro j tm H' hj ⟨i, hij, t2, t3, t5, rfl, heq⟩ Q' hn' he' hr'
  simp [t2, t3, t5, Net.enc, builtinV, pureB, lenV]
  refine selS_intro (fun hc => ?_) (fun hc => ?_)
  · simp at hc
    have hc2 : i < y.bridges.length := by omega
    have hri : i < rws.length := by omega
    have hri2 : i < rws2.length := by omega
    obtain ⟨id, r, bl, rfl, hbl, hbe, hrow⟩ := hs i _ (List.getElem?_eq_getElem hri)
    obtain ⟨id2, r2, bl2, rfl, hbl2, hbe2, hrow2⟩ := hs2 i _ (List.getElem?_eq_getElem hri2)
    have hid := blkAt_len hbl
    have hid2 := blkAt_len hbl2
    have he := hat i _ _ (List.getElem?_eq_getElem hri) (List.getElem?_eq_getElem hc)
    have he2 := hat2 i _ _ (List.getElem?_eq_getElem hri2) (List.getElem?_eq_getElem hc2)
    have hL := he.len
    have hT : rws[i].take rws[i].length = rws[i] := List.take_length
    rw [hL] at hT
    have hL2 := he2.len
    have hT2 : rws2[i].take rws2[i].length = rws2[i] := List.take_length
    rw [hL2] at hT2
    have g4 : IntKind.i64.wrap ((i : Int) + 1) = (i : Int) + 1 := wrap64 (by omega) (by omega)
    have hsz := BridgeS.sz_at (List.getElem_mem hc)
    have ee := fun G => specL10Bridge (he.app G) (he2.app G) (by omega)
    simp [t2, t3, t5, indexAddrV, elemIs, hid, hid2, hbl, hbe, hbl2, hbe2, hc, hc2, hrow, hrow2, hL, hT, hL2, hT2, ee]
    refine selS_intro (fun hd => ?_) (fun hd => ?_)
    · simp
      refine hr' _ _ ?_
      simp
      simp at hd
      refine bad (fun hx => by subst hx; simp at hd) _ _ ⟨_, rfl⟩ (by simp)
    · simp at hd
      simp [t2, t3, t5, g4]
      exact hn' (j - 1) _ _ (by omega) ⟨i + 1, by omega, by simp [t2], by simp [t3], by simp, by simp [Net.enc], by rw [List.take_add_one, List.take_add_one, heq]; simp [hc, hc2, hd]⟩
  · simp at hc
    have hbr : x.bridges = y.bridges := by
      rw [List.take_of_length_le (by omega), List.take_of_length_le (by omega)] at heq
      exact heq
    simp [t2, t3, t5]
    refine he' _ _ _ ?_
    simp
    refine wpS_loop (fun j tm H' => ∃ i, i + j = x.links.length ∧ tm 2 = .ptr H.length 0 0 ∧ tm 3 = .ptr (H.length + 1) 0 0 ∧ tm 6 = .int i ∧ H' = H ++ [some ⟨31, .wr, [x.enc (.sl a x.bridges.length) (.sl c x.links.length)]⟩, some ⟨31, .wr, [y.enc (.sl b y.bridges.length) (.sl d y.links.length)]⟩] ∧ x.links.take i = y.links.take i) x.links.length (by rw [env_K]; omega) ⟨0, by simp, by simp [t2], by simp [t3], by simp, by simp [Net.enc], by simp⟩ ?_
    rintro j tm H' hj ⟨i, hij, t2, t3, t6, rfl, heq⟩ Q'' hn'' he'' hr''
    simp [t2, t3, t6, Net.enc, builtinV, pureB, lenV]
    refine selS_intro (fun hc => ?_) (fun hc => ?_)
    · simp at hc
      have hc2 : i < y.links.length := by omega
      obtain ⟨id, r, bl, rfl, hbl, hbe, hrow⟩ := hc1 i _ (by simp [hc]; rfl)
      obtain ⟨id2, r2, bl2, rfl, hbl2, hbe2, hrow2⟩ := hd1 i _ (by simp [hc2]; rfl)
      have hid := blkAt_len hbl
      have hid2 := blkAt_len hbl2
      have g4 : IntKind.i64.wrap ((i : Int) + 1) = (i : Int) + 1 := wrap64 (by omega) (by omega)
      simp [t2, t3, t6, indexAddrV, elemIs, hid, hid2, hbl, hbe, hbl2, hbe2, hc, hc2, hrow, hrow2, Link.enc]
      refine selS_intro (fun hd2 => ?_) (fun hd2 => ?_)
      · simp
        refine hr'' _ _ ?_
        simp
        refine bad (fun hx => by subst hx; simp at hd2) _ _ ⟨_, rfl⟩ (by simp)
      · have hxy : x.links[i] = y.links[i] := by
          refine Link.enc_inj ?_
          simpa [Link.enc] using hd2
        simp [t2, t3, t6, g4]
        exact hn'' (j - 1) _ _ (by omega) ⟨i + 1, by omega, by simp [t2], by simp [t3], by simp, by simp [Net.enc], by rw [List.take_add_one, List.take_add_one, heq]; simp [hc, hc2, hxy]⟩
    · simp at hc
      simp [t2, t3, t6]
      refine he'' _ _ _ ?_
      simp
      refine hQ _ _ _ (by simp) ?_
      have hp : x.links = y.links := by
        rw [List.take_of_length_le (by omega), List.take_of_length_le (by omega)] at heq
        exact heq
      have : x = y := by
        obtain ⟨x1, x2⟩ := x
        obtain ⟨y1, y2⟩ := y
        simp_all
      simp [Try.f12, this]
end W
end Go.Proofs.Ytgphcehmbgcpiaa

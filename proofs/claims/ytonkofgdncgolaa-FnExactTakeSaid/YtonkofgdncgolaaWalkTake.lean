/- The functions that this law reaches: what each computes. Conditions: those that each theorem names. -/
import Derived.Test.YtonkofgdncgolaaAbEnvTake
set_option maxRecDepth 100000
set_option maxHeartbeats 4000000
set_option linter.unusedSimpArgs false
set_option linter.unusedVariables false
set_option linter.unnecessarySimpa false
namespace Go.Proofs.Ytonkofgdncgolaa
open Go Go.Ab Go.ChangeShapes Go.WideShapes Go.ChangeAt Go.RowKit
namespace W
theorem inRange (H : Heap) (n a b : Int) : run env 46 [.int n, .int a, .int b] H = some (.bool (decide (a ≤ n) && decide (n ≤ b)), H) := by
  refine run_walk ok46 Try.func46 rfl (by simp [Try.f46]) fun Q hQ => ?_
  simp only [Try.f46, strip, stripL, stripI, stripG, chkT, tagsB, tagsL, tagD, addT, tagA, lookN, tagOp, elmT, ty28, ty32, ty34, ty43, ty48, ty74, ty75, ty76, ty81, ty82, ty83, Nat.reduceEqDiff, if_false, reduceIte, Option.getD_some, Option.getD_none, dstAt, dstOk, Nat.reduceLT, decide_true, if_true]
  simp
  repeat' (first | (refine gdL_t (fun h => ?_) (fun h => ?_) <;> simp [h]) | (refine gdL_f (fun h => ?_) (fun h => ?_) <;> simp [h]) | (refine selS_intro (fun h => ?_) (fun h => ?_) <;> simp [h]))
  all_goals (refine hQ _ _ _ (by simp) ?_)
  all_goals (clear hQ; simp_all [Try.f46] <;> omega)

theorem l1In (H : Heap) (n a b : Int) : run env 45 [.int n, .int a, .int b] H = some (.bool (decide (a ≤ n) && decide (n ≤ b)), H) := by
  refine run_walk ok45 Try.func45 rfl (by simp [Try.f45]) fun Q hQ => ?_
  simp only [Try.f45, strip, stripL, stripI, stripG, chkT, tagsB, tagsL, tagD, addT, tagA, lookN, tagOp, elmT, ty28, ty32, ty34, ty43, ty48, ty74, ty75, ty76, ty81, ty82, ty83, Nat.reduceEqDiff, if_false, reduceIte, Option.getD_some, Option.getD_none, dstAt, dstOk, Nat.reduceLT, decide_true, if_true]
  simp
  repeat' (first | (refine gdL_t (fun h => ?_) (fun h => ?_) <;> simp [h]) | (refine gdL_f (fun h => ?_) (fun h => ?_) <;> simp [h]) | (refine selS_intro (fun h => ?_) (fun h => ?_) <;> simp [h]))
  all_goals (refine hQ _ _ _ (by simp) ?_)
  all_goals (clear hQ; simp_all [Try.f45] <;> omega)

theorem isNum (H : Heap) (n : Int) : run env 48 [.int n] H = some (.bool (decide (0 ≤ n) && decide (n ≤ 100000)), H) := by
  refine run_walk ok48 Try.func48 rfl (by simp [Try.f48]) fun Q hQ => ?_
  simp only [Try.f48, strip, stripL, stripI, stripG, chkT, tagsB, tagsL, tagD, addT, tagA, lookN, tagOp, elmT, ty28, ty32, ty34, ty43, ty48, ty74, ty75, ty76, ty81, ty82, ty83, Nat.reduceEqDiff, if_false, reduceIte, Option.getD_some, Option.getD_none, dstAt, dstOk, Nat.reduceLT, decide_true, if_true]
  simp [inRange]
  all_goals (refine hQ _ _ _ (by simp) ?_)
  all_goals (clear hQ; simp [Try.f48])

theorem isSide (H : Heap) (n : Int) : run env 47 [.int n] H = some (.bool (decide (n = 0) || decide (n = 1)), H) := by
  refine run_walk ok47 Try.func47 rfl (by simp [Try.f47]) fun Q hQ => ?_
  simp only [Try.f47, strip, stripL, stripI, stripG, chkT, tagsB, tagsL, tagD, addT, tagA, lookN, tagOp, elmT, ty28, ty32, ty34, ty43, ty48, ty74, ty75, ty76, ty81, ty82, ty83, Nat.reduceEqDiff, if_false, reduceIte, Option.getD_some, Option.getD_none, dstAt, dstOk, Nat.reduceLT, decide_true, if_true]
  simp
  repeat' (first | (refine gdL_t (fun h => ?_) (fun h => ?_) <;> simp [h]) | (refine gdL_f (fun h => ?_) (fun h => ?_) <;> simp [h]) | (refine selS_intro (fun h => ?_) (fun h => ?_) <;> simp [h]))
  all_goals (refine hQ _ _ _ (by simp) ?_)
  all_goals (clear hQ; simp_all [Try.f47] <;> omega)

theorem isPort (H : Heap) (n : Int) : run env 86 [.int n] H = some (.bool (decide (0 ≤ n) && decide (n ≤ 3)), H) := by
  refine run_walk ok86 Try.func86 rfl (by simp [Try.f86]) fun Q hQ => ?_
  simp only [Try.f86, strip, stripL, stripI, stripG, chkT, tagsB, tagsL, tagD, addT, tagA, lookN, tagOp, elmT, ty28, ty32, ty34, ty43, ty48, ty74, ty75, ty76, ty81, ty82, ty83, Nat.reduceEqDiff, if_false, reduceIte, Option.getD_some, Option.getD_none, dstAt, dstOk, Nat.reduceLT, decide_true, if_true]
  simp [inRange]
  all_goals (refine hQ _ _ _ (by simp) ?_)
  all_goals (clear hQ; simp [Try.f86])

theorem isHops (H : Heap) (n : Int) : run env 88 [.int n] H = some (.bool (decide (0 ≤ n) && decide (n ≤ 8)), H) := by
  refine run_walk ok88 Try.func88 rfl (by simp [Try.f88]) fun Q hQ => ?_
  simp only [Try.f88, strip, stripL, stripI, stripG, chkT, tagsB, tagsL, tagD, addT, tagA, lookN, tagOp, elmT, ty28, ty32, ty34, ty43, ty48, ty74, ty75, ty76, ty81, ty82, ty83, Nat.reduceEqDiff, if_false, reduceIte, Option.getD_some, Option.getD_none, dstAt, dstOk, Nat.reduceLT, decide_true, if_true]
  simp [inRange]
  all_goals (refine hQ _ _ _ (by simp) ?_)
  all_goals (clear hQ; simp [Try.f88])

structure Vec where
  root : Int
  cost : Int
  bridge : Int
  port : Int
  deriving DecidableEq, Inhabited
def Vec.enc (x : Vec) : List Lf := [.i .i64 x.root, .i .i64 x.cost, .i .i64 x.bridge, .i .i64 x.port]
@[simp] theorem Vec.enc_len (x : Vec) : x.enc.length = 4 := rfl
@[simp] theorem Vec.enc_take (x : Vec) : List.take 4 x.enc = x.enc := rfl
@[simp] theorem Vec.enc_drop (x : Vec) : List.drop 4 x.enc = [] := rfl
abbrev Vec.z : List Lf := [.i .i64 0, .i .i64 0, .i .i64 0, .i .i64 0]
abbrev Vec.zv : Vec := ⟨0, 0, 0, 0⟩
theorem Vec.enc_inj {x y : Vec} (h : x.enc = y.enc) : x = y := by
  obtain ⟨_, _, _, _⟩ := x
  obtain ⟨_, _, _, _⟩ := y
  simp [Vec.enc] at h
  simp_all
def Vec.mk' (k : Int) : Vec := ⟨k, k + 1, k + 2, k + 3⟩
theorem Vec.mk'_of {y : Vec} {c : Int} (h0 : y.root = c) (h1 : y.cost = c + 1) (h2 : y.bridge = c + 2) (h3 : y.port = c + 3) : y = Vec.mk' c := by
  rcases y with ⟨w0, v1, v2, v3⟩
  simp only at h0 h1 h2 h3
  subst h0 h1 h2 h3
  rfl

theorem toVec (H : Heap) (x : Vec) : run env 59 [.agg x.enc] H = some (.agg x.enc, H) := by
  refine run_walk ok59 Try.func59 rfl (by simp [Try.f59]) fun Q hQ => ?_
  simp only [Try.f59, strip, stripL, stripI, stripG, chkT, tagsB, tagsL, tagD, addT, tagA, lookN, tagOp, elmT, ty28, ty32, ty34, ty43, ty48, ty74, ty75, ty76, ty81, ty82, ty83, Nat.reduceEqDiff, if_false, reduceIte, Option.getD_some, Option.getD_none, dstAt, dstOk, Nat.reduceLT, decide_true, if_true]
  simp [Vec.enc]
  all_goals (refine hQ _ _ _ (by simp) ?_)
  all_goals (clear hQ; simp [Try.f59, Vec.enc])

theorem eqVec (H : Heap) (x y : Vec) : run env 84 [.agg x.enc, .agg y.enc] H = some (.bool (decide (x = y)), H) := by
  obtain ⟨a0, a1, a2, a3⟩ := x
  obtain ⟨b0, b1, b2, b3⟩ := y
  refine run_walk ok84 Try.func84 rfl (by simp [Try.f84]) fun Q hQ => ?_
  simp only [Try.f84, strip, stripL, stripI, stripG, chkT, tagsB, tagsL, tagD, addT, tagA, lookN, tagOp, elmT, ty28, ty32, ty34, ty43, ty48, ty74, ty75, ty76, ty81, ty82, ty83, Nat.reduceEqDiff, if_false, reduceIte, Option.getD_some, Option.getD_none, dstAt, dstOk, Nat.reduceLT, decide_true, if_true]
  simp [Vec.enc]
  repeat' (first | (refine gdL_t (fun h => ?_) (fun h => ?_) <;> simp [h]) | (refine gdL_f (fun h => ?_) (fun h => ?_) <;> simp [h]) | (refine selS_intro (fun h => ?_) (fun h => ?_) <;> simp [h]))
  all_goals (refine hQ _ _ _ (by simp) ?_)
  all_goals (clear hQ; simp_all [Try.f84])

theorem shpVec {H : Heap} {k : Nat} {l : List Lf} (h : Shp Try.prog H (k + 2) 61 l) : ∃ x : Vec, l = x.enc := by
  obtain ⟨_, _, rfl, h0, _, _, rfl, h1, _, _, rfl, h2, _, _, rfl, h3, rfl⟩ := h.struct Try.underlying61
  obtain ⟨a0, rfl, -⟩ := h0.i64 Try.underlying3
  obtain ⟨a1, rfl, -⟩ := h1.i64 Try.underlying3
  obtain ⟨a2, rfl, -⟩ := h2.i64 Try.underlying3
  obtain ⟨a3, rfl, -⟩ := h3.i64 Try.underlying3
  exact ⟨⟨a0, a1, a2, a3⟩, rfl⟩

structure In where
  kind : Int
  port : Int
  vec : Vec
  hops : Int
  up : Bool
  deriving DecidableEq, Inhabited
def In.enc (x : In) : List Lf := [.i .i64 x.kind, .i .i64 x.port, .i .i64 x.vec.root, .i .i64 x.vec.cost, .i .i64 x.vec.bridge, .i .i64 x.vec.port, .i .i64 x.hops, .b x.up]
@[simp] theorem In.enc_len (x : In) : x.enc.length = 8 := rfl
@[simp] theorem In.enc_take (x : In) : List.take 8 x.enc = x.enc := rfl
@[simp] theorem In.enc_drop (x : In) : List.drop 8 x.enc = [] := rfl
abbrev In.z : List Lf := [.i .i64 0, .i .i64 0, .i .i64 0, .i .i64 0, .i .i64 0, .i .i64 0, .i .i64 0, .b false]
abbrev In.zv : In := ⟨0, 0, ⟨0, 0, 0, 0⟩, 0, false⟩
theorem In.enc_inj {x y : In} (h : x.enc = y.enc) : x = y := by
  rcases x with ⟨v0, v1, ⟨v2_0, v2_1, v2_2, v2_3⟩, v3, v4⟩
  rcases y with ⟨w0, v1, ⟨v2_0, v2_1, v2_2, v2_3⟩, v3, v4⟩
  simp [In.enc] at h
  simp_all
def In.mk' (k : Int) : In := ⟨k, k + 1, ⟨k + 2, k + 3, k + 4, k + 5⟩, k + 6, decide ((k + 7).tmod 3 = 0)⟩
theorem In.mk'_of {y : In} {c : Int} (h0 : y.kind = c) (h1 : y.port = c + 1) (h2 : y.vec.root = c + 2) (h3 : y.vec.cost = c + 3) (h4 : y.vec.bridge = c + 4) (h5 : y.vec.port = c + 5) (h6 : y.hops = c + 6) (h7 : y.up = decide ((c + 7).tmod 3 = 0)) : y = In.mk' c := by
  rcases y with ⟨w0, v1, ⟨v2_0, v2_1, v2_2, v2_3⟩, v3, v4⟩
  simp only at h0 h1 h2 h3 h4 h5 h6 h7
  subst h0 h1 h2 h3 h4 h5 h6 h7
  rfl

theorem toIn (H : Heap) (x : In) : run env 34 [.agg x.enc] H = some (.agg x.enc, H) := by
  refine run_walk ok34 Try.func34 rfl (by simp [Try.f34]) fun Q hQ => ?_
  simp only [Try.f34, strip, stripL, stripI, stripG, chkT, tagsB, tagsL, tagD, addT, tagA, lookN, tagOp, elmT, ty28, ty32, ty34, ty43, ty48, ty74, ty75, ty76, ty81, ty82, ty83, Nat.reduceEqDiff, if_false, reduceIte, Option.getD_some, Option.getD_none, dstAt, dstOk, Nat.reduceLT, decide_true, if_true]
  have e0 := fun H => toVec H x.vec
  simp only [Vec.enc] at e0
  simp [In.enc, e0]
  all_goals (refine hQ _ _ _ (by simp) ?_)
  all_goals (clear hQ; simp [Try.f34, In.enc])

theorem eqIn (H : Heap) (x y : In) : run env 78 [.agg x.enc, .agg y.enc] H = some (.bool (decide (x = y)), H) := by
  have e0 := fun H => eqVec H x.vec y.vec
  obtain ⟨a0, a1, a2, a3, a4⟩ := x
  obtain ⟨b0, b1, b2, b3, b4⟩ := y
  simp only [Vec.enc] at e0
  refine run_walk ok78 Try.func78 rfl (by simp [Try.f78]) fun Q hQ => ?_
  simp only [Try.f78, strip, stripL, stripI, stripG, chkT, tagsB, tagsL, tagD, addT, tagA, lookN, tagOp, elmT, ty28, ty32, ty34, ty43, ty48, ty74, ty75, ty76, ty81, ty82, ty83, Nat.reduceEqDiff, if_false, reduceIte, Option.getD_some, Option.getD_none, dstAt, dstOk, Nat.reduceLT, decide_true, if_true]
  simp [In.enc]
  repeat' (first | (refine gdL_t (fun h => ?_) (fun h => ?_) <;> simp [h, e0]) | (refine gdL_f (fun h => ?_) (fun h => ?_) <;> simp [h, e0]) | (refine selS_intro (fun h => ?_) (fun h => ?_) <;> simp [h, e0]))
  all_goals (refine hQ _ _ _ (by simp) ?_)
  all_goals (clear hQ; simp_all [Try.f78])

theorem shpIn {H : Heap} {k : Nat} {l : List Lf} (h : Shp Try.prog H (k + 3) 63 l) : ∃ x : In, l = x.enc := by
  obtain ⟨_, _, rfl, h0, _, _, rfl, h1, _, _, rfl, h2, _, _, rfl, h3, _, _, rfl, h4, rfl⟩ := h.struct Try.underlying63
  obtain ⟨a0, rfl, -⟩ := h0.i64 Try.underlying3
  obtain ⟨a1, rfl, -⟩ := h1.i64 Try.underlying3
  obtain ⟨a2, rfl⟩ := shpVec h2
  obtain ⟨a3, rfl, -⟩ := h3.i64 Try.underlying3
  obtain ⟨a4, rfl⟩ := h4.bool Try.underlying4
  exact ⟨⟨a0, a1, a2, a3, a4⟩, rfl⟩

structure Reg where
  epoch : Int
  owner : Int
  pair : Int
  deriving DecidableEq, Inhabited
def Reg.enc (x : Reg) : List Lf := [.i .i64 x.epoch, .i .i64 x.owner, .i .i64 x.pair]
@[simp] theorem Reg.enc_len (x : Reg) : x.enc.length = 3 := rfl
@[simp] theorem Reg.enc_take (x : Reg) : List.take 3 x.enc = x.enc := rfl
@[simp] theorem Reg.enc_drop (x : Reg) : List.drop 3 x.enc = [] := rfl
abbrev Reg.z : List Lf := [.i .i64 0, .i .i64 0, .i .i64 0]
abbrev Reg.zv : Reg := ⟨0, 0, 0⟩
theorem Reg.enc_inj {x y : Reg} (h : x.enc = y.enc) : x = y := by
  obtain ⟨_, _, _⟩ := x
  obtain ⟨_, _, _⟩ := y
  simp [Reg.enc] at h
  simp_all
def Reg.mk' (k : Int) : Reg := ⟨k, k + 1, k + 2⟩
theorem Reg.mk'_of {y : Reg} {c : Int} (h0 : y.epoch = c) (h1 : y.owner = c + 1) (h2 : y.pair = c + 2) : y = Reg.mk' c := by
  rcases y with ⟨w0, v1, v2⟩
  simp only at h0 h1 h2
  subst h0 h1 h2
  rfl

theorem toReg (H : Heap) (x : Reg) : run env 12 [.agg x.enc] H = some (.agg x.enc, H) := by
  refine run_walk ok12 Try.func12 rfl (by simp [Try.f12]) fun Q hQ => ?_
  simp only [Try.f12, strip, stripL, stripI, stripG, chkT, tagsB, tagsL, tagD, addT, tagA, lookN, tagOp, elmT, ty28, ty32, ty34, ty43, ty48, ty74, ty75, ty76, ty81, ty82, ty83, Nat.reduceEqDiff, if_false, reduceIte, Option.getD_some, Option.getD_none, dstAt, dstOk, Nat.reduceLT, decide_true, if_true]
  simp [Reg.enc]
  all_goals (refine hQ _ _ _ (by simp) ?_)
  all_goals (clear hQ; simp [Try.f12, Reg.enc])

theorem eqReg (H : Heap) (x y : Reg) : run env 32 [.agg x.enc, .agg y.enc] H = some (.bool (decide (x = y)), H) := by
  obtain ⟨a0, a1, a2⟩ := x
  obtain ⟨b0, b1, b2⟩ := y
  refine run_walk ok32 Try.func32 rfl (by simp [Try.f32]) fun Q hQ => ?_
  simp only [Try.f32, strip, stripL, stripI, stripG, chkT, tagsB, tagsL, tagD, addT, tagA, lookN, tagOp, elmT, ty28, ty32, ty34, ty43, ty48, ty74, ty75, ty76, ty81, ty82, ty83, Nat.reduceEqDiff, if_false, reduceIte, Option.getD_some, Option.getD_none, dstAt, dstOk, Nat.reduceLT, decide_true, if_true]
  simp [Reg.enc]
  repeat' (first | (refine gdL_t (fun h => ?_) (fun h => ?_) <;> simp [h]) | (refine gdL_f (fun h => ?_) (fun h => ?_) <;> simp [h]) | (refine selS_intro (fun h => ?_) (fun h => ?_) <;> simp [h]))
  all_goals (refine hQ _ _ _ (by simp) ?_)
  all_goals (clear hQ; simp_all [Try.f32])

theorem shpReg {H : Heap} {k : Nat} {l : List Lf} (h : Shp Try.prog H (k + 2) 23 l) : ∃ x : Reg, l = x.enc := by
  obtain ⟨_, _, rfl, h0, _, _, rfl, h1, _, _, rfl, h2, rfl⟩ := h.struct Try.underlying23
  obtain ⟨a0, rfl, -⟩ := h0.i64 Try.underlying3
  obtain ⟨a1, rfl, -⟩ := h1.i64 Try.underlying3
  obtain ⟨a2, rfl, -⟩ := h2.i64 Try.underlying3
  exact ⟨⟨a0, a1, a2⟩, rfl⟩

theorem toInS (H : Heap) (a : Option (Nat × Nat)) (xs : List In) (h : Sl H 63 a (xs.map In.enc)) (hn : xs.length ≤ 1048576) :
    run env 55 [.w (.lf (.sl a xs.length))] H = some (.sl H.length 0 xs.length, H ++ [some ⟨68, .wr, xs.map In.enc⟩]) := by
  refine run_walk ok55 Try.func55 rfl (by simp [Try.f55]) fun Q hQ => ?_
  simp only [Try.f55, strip, stripL, stripI, stripG, chkT, tagsB, tagsL, tagD, addT, tagA, lookN, tagOp, elmT, ty28, ty32, ty34, ty43, ty48, ty74, ty75, ty76, ty81, ty82, ty83, Nat.reduceEqDiff, if_false, reduceIte, Option.getD_some, Option.getD_none, dstAt, dstOk, Nat.reduceLT, decide_true, if_true]
  have k1 : (xs.length : Int) * 64 ≤ 281474976710656 := by omega
  have k2 : (xs.length : Int) ≤ 9223372036854775807 := by omega
  have k3 : (xs.length : Int) ≤ 281474976710656 := by omega
  simp [builtinV, pureB, lenV, makeSliceV, makeSliceR, newBlk, k1, k2, k3]
  refine wpS_loop (fun j tm H' => ∃ i, i + j = xs.length ∧ tm 0 = .w (.lf (.sl a xs.length)) ∧ tm 3 = .sl H.length 0 xs.length ∧ tm 4 = .int i ∧ H' = H ++ [some ⟨68, .wr, fillR (xs.map In.enc) In.z i j⟩]) xs.length (by rw [env_K]; omega) ⟨0, by simp, by simp, by simp, by simp, by rw [fillR_zero _ _ (by simp)]⟩ ?_
  rintro j tm H' hj ⟨i, hij, h0, h3, h4, rfl⟩ Q' hn' he' hr'
  simp [h0, h3, h4, builtinV, pureB, lenV]
  refine selS_intro (fun hc => ?_) (fun hc => ?_)
  · simp at hc
    obtain ⟨j, rfl⟩ : ∃ j', j = j' + 1 := ⟨j - 1, by omega⟩
    obtain ⟨id, r, b, rfl, hb, hbe, hrow⟩ := h i _ (by simp [hc]; rfl)
    have hid := blkAt_len hb
    have g2 := fillR_get (ys := xs.map In.enc) (z := In.z) (i := i) (j := j) (by simpa using hij)
    have g3 := fillR_set (ys := xs.map In.enc) (z := In.z) (i := i) (j := j) (y := In.enc xs[i]) (by simpa using hij) (by simp [hc])
    have g4 : IntKind.i64.wrap ((i : Int) + 1) = (i : Int) + 1 := wrap64 (by omega) (by omega)
    simp [h0, h3, h4, indexAddrV, elemIs, hid, hb, hbe, hc, hrow, toIn, g2, g3, g4]
    exact hn' j _ _ (by omega) ⟨i + 1, by omega, by simp [h0], by simp [h3], by simp, by simpa using congrArg (fun r => H ++ [some (⟨68, .wr, r⟩ : Blk)]) g3⟩
  · simp at hc
    have hj0 : j = 0 := by omega
    subst hj0
    simp [h0, h3, h4]
    refine he' _ _ _ ?_
    simp [h3]
    refine hQ _ _ _ (by simp) ?_
    simp [Try.f55, leave, fillR_done (ys := xs.map In.enc) (i := i) (z := In.z) (by simpa using hij), refFree]

theorem szInS (H : Heap) (a : Option (Nat × Nat)) (n : Nat) (left : Int) (h1 : 0 ≤ left) (h2 : left ≤ 1048576) (h3 : n ≤ maxLen) :
    run env 53 [.w (.lf (.sl a n)), .int left] H = some (.int (if left < n then -1 else left - n), H) := by
  have hm : (n : Int) ≤ 9223372036854775807 := by unfold maxLen at h3; omega
  refine run_walk ok53 Try.func53 rfl (by simp [Try.f53]) fun Q hQ => ?_
  simp only [Try.f53, strip, stripL, stripI, stripG, chkT, tagsB, tagsL, tagD, addT, tagA, lookN, tagOp, elmT, ty28, ty32, ty34, ty43, ty48, ty74, ty75, ty76, ty81, ty82, ty83, Nat.reduceEqDiff, if_false, reduceIte, Option.getD_some, Option.getD_none, dstAt, dstOk, Nat.reduceLT, decide_true, if_true]
  have g : IntKind.i64.wrap (left - n) = left - n := wrap64 (by omega) (by omega)
  simp [builtinV, pureB, lenV, g]
  repeat' (first | (refine gdL_t (fun h => ?_) (fun h => ?_) <;> simp [h]) | (refine gdL_f (fun h => ?_) (fun h => ?_) <;> simp [h]) | (refine selS_intro (fun h => ?_) (fun h => ?_) <;> simp [h]))
  all_goals (refine hQ _ _ _ (by simp) ?_)
  all_goals (clear hQ; simp_all [Try.f53] <;> omega)

theorem eqInS (H : Heap) (a b : Option (Nat × Nat)) (xs ys : List In) (ha : Sl H 68 a (xs.map In.enc)) (hb : Sl H 68 b (ys.map In.enc)) (hn : xs.length ≤ 1048576) :
    run env 57 [.w (.lf (.sl a xs.length)), .w (.lf (.sl b ys.length))] H = some (.bool (decide (xs = ys)), H) := by
  refine run_walk ok57 Try.func57 rfl (by simp [Try.f57]) fun Q hQ => ?_
  simp only [Try.f57, strip, stripL, stripI, stripG, chkT, tagsB, tagsL, tagD, addT, tagA, lookN, tagOp, elmT, ty28, ty32, ty34, ty43, ty48, ty74, ty75, ty76, ty81, ty82, ty83, Nat.reduceEqDiff, if_false, reduceIte, Option.getD_some, Option.getD_none, dstAt, dstOk, Nat.reduceLT, decide_true, if_true]
  simp [builtinV, pureB, lenV]
  refine selS_intro (fun hl => ?_) (fun hl => ?_)
  · simp
    refine hQ _ _ _ (by simp) ?_
    simp at hl
    have : ¬ xs = ys := fun h => hl (by rw [h])
    simp [Try.f57, this]
  simp at hl
  simp
  refine wpS_loop (fun j tm H' => ∃ i, i + j = xs.length ∧ tm 0 = .w (.lf (.sl a xs.length)) ∧ tm 1 = .w (.lf (.sl b ys.length)) ∧ tm 5 = .int i ∧ H' = H ∧ xs.take i = ys.take i) xs.length (by rw [env_K]; omega) ⟨0, by simp, by simp, by simp, by simp, rfl, by simp⟩ ?_
  rintro j tm H' hj ⟨i, hij, h0, h1, h5, rfl, heq⟩ Q' hn' he' hr'
  simp [h0, h1, h5, builtinV, pureB, lenV]
  refine selS_intro (fun hc => ?_) (fun hc => ?_)
  · simp at hc
    have hc2 : i < ys.length := by omega
    obtain ⟨id, r, bl, rfl, hbl, hbe, hrow⟩ := ha i _ (by simp [hc]; rfl)
    obtain ⟨id2, r2, bl2, rfl, hbl2, hbe2, hrow2⟩ := hb i _ (by simp [hc2]; rfl)
    have g4 : IntKind.i64.wrap ((i : Int) + 1) = (i : Int) + 1 := wrap64 (by omega) (by omega)
    simp [h0, h1, h5, indexAddrV, elemIs, hbl, hbe, hbl2, hbe2, hc, hc2, hrow, hrow2, eqIn]
    refine selS_intro (fun hd => ?_) (fun hd => ?_)
    · simp
      refine hr' _ _ ?_
      simp
      refine hQ _ _ _ (by simp) ?_
      simp at hd
      have : ¬ xs = ys := fun h => by subst h; simp at hd
      simp [Try.f57, this]
    · simp at hd
      simp [h0, h1, h5, g4]
      exact hn' (j - 1) _ _ (by omega) ⟨i + 1, by omega, by simp [h0], by simp [h1], by simp, rfl, by rw [List.take_add_one, List.take_add_one, heq]; simp [hc, hc2, hd]⟩
  · simp at hc
    simp [h0, h1, h5]
    refine he' _ _ _ ?_
    simp
    refine hQ _ _ _ (by simp) ?_
    have : xs = ys := by
      rw [List.take_of_length_le (by omega), List.take_of_length_le (by omega)] at heq
      exact heq
    simp [Try.f57, this]

theorem markInS (H : Heap) (a : Option (Nat × Nat)) (xs : List In) (fp : List Nat) (k : Int) (h : Own H 68 a (xs.map In.enc) fp) (hk : 0 ≤ k) (hk2 : k + 8 * xs.length ≤ 4611686018427387904) (hn : xs.length ≤ 1048576) :
    Runs env 61 [.w (.lf (.sl a xs.length)), .int k] H fun v H' => v = .int (k + 8 * xs.length) ∧ Own H' 68 a ((marked In.mk' 8 xs.length k).map In.enc) fp ∧ Keep fp H H' := by
  refine Runs.walk ok61 Try.func61 rfl (by simp [Try.f61]) fun Q hQ => ?_
  simp only [Try.f61, strip, stripL, stripI, stripG, chkT, tagsB, tagsL, tagD, addT, tagA, lookN, tagOp, elmT, ty28, ty32, ty34, ty43, ty48, ty74, ty75, ty76, ty81, ty82, ty83, Nat.reduceEqDiff, if_false, reduceIte, Option.getD_some, Option.getD_none, dstAt, dstOk, Nat.reduceLT, decide_true, if_true]
  simp
  refine wpS_loop (fun j tm H' => ∃ i, i + j = xs.length ∧ tm 0 = .w (.lf (.sl a xs.length)) ∧ tm 1 = .int (k + 8 * i) ∧ tm 5 = .int i ∧ Own H' 68 a ((marked In.mk' 8 i k ++ xs.drop i).map In.enc) fp ∧ Keep fp H H') xs.length (by rw [env_K]; omega) ⟨0, by simp, by simp, by simp, by simp, by simpa [marked] using h, Keep.refl _ _⟩ ?_
  rintro j tm H' hj ⟨i, hij, h0, h1, h5, ho, hkp⟩ Q' hn' he' hr'
  simp [h0, h1, h5, builtinV, pureB, lenV]
  refine selS_intro (fun hc => ?_) (fun hc => ?_)
  · simp at hc
    obtain ⟨id, b, rfl, rfl, hb, hbe, hm, hpre⟩ := ho.blk (by simp; omega)
    have hid := blkAt_len hb
    obtain ⟨t, ht⟩ := hpre
    obtain ⟨hi, hrow2⟩ := marked_at In.mk' 8 In.enc xs hc k ht
    have g4 : IntKind.i64.wrap ((i : Int) + 1) = (i : Int) + 1 := wrap64 (by omega) (by omega)
    obtain ⟨c, hcc⟩ : ∃ c, c = k + 8 * (i : Int) := ⟨_, rfl⟩
    rw [← hcc] at h1
    have w : ∀ d : Int, 0 ≤ d → d ≤ 100 → IntKind.i64.wrap (c + d) = c + d := fun d h1 h2 => wrap64 (by omega) (by omega)
    simp [h0, h1, h5, indexAddrV, elemIs, hid, hb, hbe, hm, hc, hi, hrow2, blkAt_set, In.enc, w, Int.add_assoc, g4]
    refine hn' (j - 1) _ _ (by omega) ⟨i + 1, by omega, by simp [h0], by simp [hcc]; omega, by simp, ?_, ?_⟩
    · have := ho.set (row := In.enc (In.mk' c)) hb (i := i) (by simp; omega)
      have e := marked_put In.mk' 8 In.enc xs hc k
      rw [← hcc] at e
      rw [e, hm, hbe] at this
      simpa [In.enc, In.mk'] using this
    · exact hkp.trans (Keep.set _ _) (by simp) (by simp)
  · simp at hc
    obtain rfl : i = xs.length := by omega
    simp [h0, h1, h5]
    refine he' _ _ _ ?_
    simp [h1]
    refine hQ _ _ _ (by simp) ?_
    simp [Try.f61]
    exact ⟨leave_own (by simpa using ho) h.lt, leave_keep' hkp⟩

theorem heldInS (H : Heap) (a : Option (Nat × Nat)) (xs : List In) (k : Int) (h : Sl H 68 a (xs.map In.enc)) (hk : 0 ≤ k) (hk2 : k + 8 * xs.length ≤ 4611686018427387904) (hn : xs.length ≤ 1048576) :
    run env 62 [.w (.lf (.sl a xs.length)), .int k] H = some (.int (heldL In.mk' 8 xs k), H) := by
  refine run_walk ok62 Try.func62 rfl (by simp [Try.f62]) fun Q hQ => ?_
  simp only [Try.f62, strip, stripL, stripI, stripG, chkT, tagsB, tagsL, tagD, addT, tagA, lookN, tagOp, elmT, ty28, ty32, ty34, ty43, ty48, ty74, ty75, ty76, ty81, ty82, ty83, Nat.reduceEqDiff, if_false, reduceIte, Option.getD_some, Option.getD_none, dstAt, dstOk, Nat.reduceLT, decide_true, if_true]
  simp
  refine wpS_loop (fun j tm H' => ∃ i, i + j = xs.length ∧ tm 0 = .w (.lf (.sl a xs.length)) ∧ tm 1 = .int (k + 8 * i) ∧ tm 5 = .int i ∧ H' = H ∧ xs.take i = marked In.mk' 8 i k) xs.length (by rw [env_K]; omega) ⟨0, by simp, by simp, by simp, by simp, rfl, by simp [marked]⟩ ?_
  rintro j tm H' hj ⟨i, hij, h0, h1, h5, rfl, heq⟩ Q' hn' he' hr'
  simp [h0, h1, h5, builtinV, pureB, lenV]
  refine selS_intro (fun hc => ?_) (fun hc => ?_)
  · simp at hc
    obtain ⟨id, r, b, rfl, hb, hbe, hrow⟩ := h i _ (by simp [hc]; rfl)
    have g4 : IntKind.i64.wrap ((i : Int) + 1) = (i : Int) + 1 := wrap64 (by omega) (by omega)
    obtain ⟨c, hcc⟩ : ∃ c, c = k + 8 * (i : Int) := ⟨_, rfl⟩
    rw [← hcc] at h1
    have w : ∀ d : Int, 0 ≤ d → d ≤ 100 → IntKind.i64.wrap (c + d) = c + d := fun d h1 h2 => wrap64 (by omega) (by omega)
    have fin : xs[i] ≠ In.mk' c → ∀ tm'' : T, tm'' 4 = .int (-1) → Q' .ret tm'' H' := by
      intro hx tm'' ht
      refine hr' _ _ ?_
      simp
      refine hQ _ _ _ (by simp) ?_
      have : heldL In.mk' 8 xs k = -1 := heldL_bad hc (by rw [← hcc]; exact hx)
      simp [Try.f62, ht, this]
    simp [h0, h1, h5, indexAddrV, elemIs, hb, hbe, hc, hrow, In.enc, w, Int.add_assoc, g4]
    refine selS_intro (fun hd => ?_) (fun hd => ?_)
    · simp
      exact fin (fun he => by rw [he] at hd; simp [In.mk'] at hd) _ (by simp)
    have hd0 : xs[i].kind = c := by simpa using hd
    simp [h0, h1, h5, indexAddrV, elemIs, hb, hbe, hc, hrow, In.enc, w, Int.add_assoc, g4]
    refine selS_intro (fun hd => ?_) (fun hd => ?_)
    · simp
      exact fin (fun he => by rw [he] at hd; simp [In.mk'] at hd) _ (by simp)
    have hd1 : xs[i].port = c + 1 := by simpa using hd
    simp [h0, h1, h5, indexAddrV, elemIs, hb, hbe, hc, hrow, In.enc, w, Int.add_assoc, g4]
    refine selS_intro (fun hd => ?_) (fun hd => ?_)
    · simp
      exact fin (fun he => by rw [he] at hd; simp [In.mk'] at hd) _ (by simp)
    have hd2 : xs[i].vec.root = c + 2 := by simpa using hd
    simp [h0, h1, h5, indexAddrV, elemIs, hb, hbe, hc, hrow, In.enc, w, Int.add_assoc, g4]
    refine selS_intro (fun hd => ?_) (fun hd => ?_)
    · simp
      exact fin (fun he => by rw [he] at hd; simp [In.mk'] at hd) _ (by simp)
    have hd3 : xs[i].vec.cost = c + 3 := by simpa using hd
    simp [h0, h1, h5, indexAddrV, elemIs, hb, hbe, hc, hrow, In.enc, w, Int.add_assoc, g4]
    refine selS_intro (fun hd => ?_) (fun hd => ?_)
    · simp
      exact fin (fun he => by rw [he] at hd; simp [In.mk'] at hd) _ (by simp)
    have hd4 : xs[i].vec.bridge = c + 4 := by simpa using hd
    simp [h0, h1, h5, indexAddrV, elemIs, hb, hbe, hc, hrow, In.enc, w, Int.add_assoc, g4]
    refine selS_intro (fun hd => ?_) (fun hd => ?_)
    · simp
      exact fin (fun he => by rw [he] at hd; simp [In.mk'] at hd) _ (by simp)
    have hd5 : xs[i].vec.port = c + 5 := by simpa using hd
    simp [h0, h1, h5, indexAddrV, elemIs, hb, hbe, hc, hrow, In.enc, w, Int.add_assoc, g4]
    refine selS_intro (fun hd => ?_) (fun hd => ?_)
    · simp
      exact fin (fun he => by rw [he] at hd; simp [In.mk'] at hd) _ (by simp)
    have hd6 : xs[i].hops = c + 6 := by simpa using hd
    simp [h0, h1, h5, indexAddrV, elemIs, hb, hbe, hc, hrow, In.enc, w, Int.add_assoc, g4]
    refine selS_intro (fun hd => ?_) (fun hd => ?_)
    · simp
      exact fin (fun he => by rw [he] at hd; simp [In.mk'] at hd) _ (by simp)
    have hd7 : xs[i].up = decide ((c + 7).tmod 3 = 0) := by simpa using hd
    simp [h0, h1, h5, indexAddrV, elemIs, hb, hbe, hc, hrow, In.enc, w, Int.add_assoc, g4]
    refine hn' (j - 1) _ _ (by omega) ⟨i + 1, by omega, by simp [h0], by simp [hcc]; omega, by simp, rfl, heldL_step hc ?_ heq⟩
    rw [← hcc]
    exact In.mk'_of hd0 hd1 hd2 hd3 hd4 hd5 hd6 hd7
  · simp at hc
    obtain rfl : i = xs.length := by omega
    simp [h0, h1, h5]
    refine he' _ _ _ ?_
    simp [h1]
    refine hQ _ _ _ (by simp) ?_
    rw [List.take_of_length_le (Nat.le_refl _)] at heq
    have : heldL In.mk' 8 xs k = k + 8 * xs.length := by rw [heldL, if_pos heq]
    simp [Try.f62, this]

abbrev IsInS := IsSl 68 In.enc
abbrev RdInS := RdSl 68 In.enc
abbrev RdLInS := RdSl 63 In.enc
def InS.mk' (xs : List In) (k : Int) : List In := marked In.mk' 8 xs.length k
def InS.mkN (xs : List In) (k : Int) : Int := k + 8 * xs.length
def InS.hd (xs : List In) (k : Int) : Int := heldL In.mk' 8 xs k
theorem InS.hd_mk (xs : List In) (k : Int) : InS.hd (InS.mk' xs k) k = InS.mkN xs k := by simp [InS.hd, InS.mk', InS.mkN]
theorem InS.mk_sz (xs : List In) (k : Int) : (InS.mk' xs k).length = xs.length := by simp [InS.mk']
theorem InS.mkN_le {xs : List In} {k : Int} (h : xs.length ≤ 1048576) : k ≤ InS.mkN xs k ∧ InS.mkN xs k ≤ k + 1000000000 := by unfold InS.mkN; omega

theorem cloneInS {H : Heap} {q : Lf} {xs : List In} (h : RdInS H q xs) (hn : xs.length ≤ 1048576) : Runs env 79 [.w (.lf q)] H fun v H' => ∃ q' fp, v = .w (.lf q') ∧ IsInS H' q' xs fp ∧ Fresh H H' fp := by
  obtain ⟨a, rfl, h⟩ := h
  refine Runs.walk ok79 Try.func79 rfl (by simp [Try.f79]) fun Q hQ => ?_
  simp only [Try.f79, strip, stripL, stripI, stripG, chkT, tagsB, tagsL, tagD, addT, tagA, lookN, tagOp, elmT, ty28, ty32, ty34, ty43, ty48, ty74, ty75, ty76, ty81, ty82, ty83, Nat.reduceEqDiff, if_false, reduceIte, Option.getD_some, Option.getD_none, dstAt, dstOk, Nat.reduceLT, decide_true, if_true]
  simp [binV]
  cases a with
  | none =>
    have : xs = [] := by
      cases xs with
      | nil => rfl
      | cons x xs => obtain ⟨_, _, _, h0, _⟩ := h 0 _ rfl; cases h0
    subst this
    simp
    refine hQ _ _ _ (by simp) ?_
    simp [Try.f79]
    exact ⟨_, ⟨none, rfl, Own.nil _ _⟩, Fresh.refl _⟩
  | some p =>
    simp
    refine stpL_append (rows := []) (ys := xs.map In.enc) (Own.of (by simp)) (h.app _) rfl rfl rfl (by simp) (by simp; omega) rfl (by simp) fun a'' H'' fp'' ho'' hk'' hf'' => ?_
    simp
    refine hQ _ _ _ (by simp) ?_
    simp [Try.f79]
    have ho : IsInS H'' (.sl a'' xs.length) xs fp'' := ⟨a'', rfl, by simpa using ho''⟩
    have hf : Fresh H H'' fp'' := Fresh.grow (fp := [H.length]) (by simp) hk'' hf''
    obtain ⟨f, h1, h2⟩ := ho.leave (ws := [W.lf (Lf.sl a'' xs.length)]) hf (by simp)
    exact ⟨f, h1, h2⟩

theorem markInS_is {H : Heap} {q : Lf} {xs : List In} {fp : List Nat} {k : Int} (h : IsInS H q xs fp) (hk : 0 ≤ k) (hk2 : k ≤ 2305843009213693952) (hn : xs.length ≤ 1048576) :
    Runs env 61 [.w (.lf q), .int k] H fun v H' => v = .int (InS.mkN xs k) ∧ IsInS H' q (InS.mk' xs k) fp ∧ Keep fp H H' := by
  obtain ⟨a, rfl, h⟩ := h
  exact (markInS H a xs fp k h hk (by omega) hn).mono fun v H' ⟨h1, h2, h3⟩ => ⟨h1, ⟨a, by simp [InS.mk'], h2⟩, h3⟩

theorem heldInS_is {H : Heap} {q : Lf} {xs : List In} {k : Int} (h : RdInS H q xs) (hk : 0 ≤ k) (hk2 : k ≤ 2305843009213693952) (hn : xs.length ≤ 1048576) :
    run env 62 [.w (.lf q), .int k] H = some (.int (InS.hd xs k), H) := by
  obtain ⟨a, rfl, h⟩ := h
  exact heldInS H a xs k h hk (by omega) hn

def Reg.ok (r : Reg) : Bool := decide (1 ≤ r.epoch) && decide (r.epoch ≤ 100000) && (decide (0 ≤ r.owner) && decide (r.owner ≤ 1)) && (decide (0 ≤ r.pair) && decide (r.pair ≤ 100000))

theorem specRegOk (H : Heap) (r : Reg) : run env 11 [.agg r.enc] H = some (.bool r.ok, H) := by
  refine run_walk ok11 Try.func11 rfl (by simp [Try.f11]) fun Q hQ => ?_
  simp only [Try.f11, strip, stripL, stripI, stripG, chkT, tagsB, tagsL, tagD, addT, tagA, lookN, tagOp, elmT, ty28, ty32, ty34, ty43, ty48, ty74, ty75, ty76, ty81, ty82, ty83, Nat.reduceEqDiff, if_false, reduceIte, Option.getD_some, Option.getD_none, dstAt, dstOk, Nat.reduceLT, decide_true, if_true]
  simp [Reg.enc, l1In]
  repeat' (first | (refine gdL_t (fun h => ?_) (fun h => ?_) <;> simp [h, l1In]) | (refine gdL_f (fun h => ?_) (fun h => ?_) <;> simp [h, l1In]) | (refine selS_intro (fun h => ?_) (fun h => ?_) <;> simp [h, l1In]))
  all_goals (refine hQ _ _ _ (by simp) ?_)
  all_goals (clear hQ; simp_all [Try.f11, Reg.ok] <;> omega)

theorem implRegOk (H : Heap) (r : Reg) : run env 13 [.agg r.enc] H = some (.bool r.ok, H) := by
  refine run_walk ok13 Try.func13 rfl (by simp [Try.f13]) fun Q hQ => ?_
  simp only [Try.f13, strip, stripL, stripI, stripG, chkT, tagsB, tagsL, tagD, addT, tagA, lookN, tagOp, elmT, ty28, ty32, ty34, ty43, ty48, ty74, ty75, ty76, ty81, ty82, ty83, Nat.reduceEqDiff, if_false, reduceIte, Option.getD_some, Option.getD_none, dstAt, dstOk, Nat.reduceLT, decide_true, if_true]
  simp [Reg.enc, inRange, isSide, isNum]
  repeat' (first | (refine gdL_t (fun h => ?_) (fun h => ?_) <;> simp [h, inRange, isSide, isNum]) | (refine gdL_f (fun h => ?_) (fun h => ?_) <;> simp [h, inRange, isSide, isNum]) | (refine selS_intro (fun h => ?_) (fun h => ?_) <;> simp [h, inRange, isSide, isNum]))
  all_goals (refine hQ _ _ _ (by simp) ?_)
  all_goals (clear hQ; simp_all [Try.f13, Reg.ok] <;> omega)

structure Minder where
  up : Bool
  life : Int
  epoch : Int
  log : List In
  said : Int
  acked : Int
  ackLife : Int
  deriving DecidableEq
def Minder.enc (m : Minder) (a : Option (Nat × Nat)) : List Lf := [.b m.up, .i .i64 m.life, .i .i64 m.epoch, .sl a m.log.length, .i .i64 m.said, .i .i64 m.acked, .i .i64 m.ackLife]
@[simp] theorem Minder.enc_len (m : Minder) (a : Option (Nat × Nat)) : (m.enc a).length = 7 := rfl
@[simp] theorem Minder.enc_take (m : Minder) (a : Option (Nat × Nat)) : List.take 7 (m.enc a) = m.enc a := rfl

theorem szMinder (H : Heap) (a : Option (Nat × Nat)) (m : Minder) (left : Int) (h1 : 0 ≤ left) (h2 : left ≤ 1048576) (h3 : m.log.length ≤ maxLen) :
    run env 23 [.agg (m.enc a), .int left] H = some (.int (if left < m.log.length then -1 else left - m.log.length), H) := by
  have e := fun H => szInS H a m.log.length left h1 h2 h3
  refine run_walk ok23 Try.func23 rfl (by simp [Try.f23]) fun Q hQ => ?_
  simp only [Try.f23, strip, stripL, stripI, stripG, chkT, tagsB, tagsL, tagD, addT, tagA, lookN, tagOp, elmT, ty28, ty32, ty34, ty43, ty48, ty74, ty75, ty76, ty81, ty82, ty83, Nat.reduceEqDiff, if_false, reduceIte, Option.getD_some, Option.getD_none, dstAt, dstOk, Nat.reduceLT, decide_true, if_true]
  simp [Minder.enc, e]
  repeat' (first | (refine gdL_t (fun h => ?_) (fun h => ?_) <;> simp [h]) | (refine gdL_f (fun h => ?_) (fun h => ?_) <;> simp [h]) | (refine selS_intro (fun h => ?_) (fun h => ?_) <;> simp [h]))
  all_goals (refine hQ _ _ _ (by simp) ?_)
  all_goals (clear hQ; simp_all [Try.f23] <;> omega)

theorem toMinder (H : Heap) (a : Option (Nat × Nat)) (m : Minder) (h : Sl H 63 a (m.log.map In.enc)) (hn : m.log.length ≤ 1048576) :
    Runs env 25 [.agg (m.enc a)] H fun v H' => ∃ a' fp, v = .agg (m.enc a') ∧ Own H' 68 a' (m.log.map In.enc) fp ∧ Fresh H H' fp := by
  have e := fun H h => toInS H a m.log h hn
  refine Runs.walk ok25 Try.func25 rfl (by simp [Try.f25]) fun Q hQ => ?_
  simp only [Try.f25, strip, stripL, stripI, stripG, chkT, tagsB, tagsL, tagD, addT, tagA, lookN, tagOp, elmT, ty28, ty32, ty34, ty43, ty48, ty74, ty75, ty76, ty81, ty82, ty83, Nat.reduceEqDiff, if_false, reduceIte, Option.getD_some, Option.getD_none, dstAt, dstOk, Nat.reduceLT, decide_true, if_true]
  simp [Minder.enc]
  rw [e _ (by simpa using h.app _)]
  simp
  refine hQ _ _ _ (by simp) ?_
  simp [Try.f25, leave, refFree, Minder.enc]
  exact ⟨_, Own.of (by simp), Fresh.app _ _ (by simp)⟩

theorem eqMinder (H : Heap) (a b : Option (Nat × Nat)) (m n : Minder) (ha : Sl H 68 a (m.log.map In.enc)) (hb : Sl H 68 b (n.log.map In.enc)) (hn : m.log.length ≤ 1048576) :
    run env 27 [.agg (m.enc a), .agg (n.enc b)] H = some (.bool (decide (m = n)), H) := by
  have e := fun G => eqInS (H ++ G) a b m.log n.log (ha.app _) (hb.app _) hn
  obtain ⟨a1, a2, a3, a4, a5, a6, a7⟩ := m
  obtain ⟨b1, b2, b3, b4, b5, b6, b7⟩ := n
  simp only at e
  refine run_walk ok27 Try.func27 rfl (by simp [Try.f27]) fun Q hQ => ?_
  simp only [Try.f27, strip, stripL, stripI, stripG, chkT, tagsB, tagsL, tagD, addT, tagA, lookN, tagOp, elmT, ty28, ty32, ty34, ty43, ty48, ty74, ty75, ty76, ty81, ty82, ty83, Nat.reduceEqDiff, if_false, reduceIte, Option.getD_some, Option.getD_none, dstAt, dstOk, Nat.reduceLT, decide_true, if_true]
  simp [Minder.enc]
  repeat' (first | (refine gdL_t (fun h => ?_) (fun h => ?_) <;> simp [h, e]) | (refine gdL_f (fun h => ?_) (fun h => ?_) <;> simp [h, e]) | (refine selS_intro (fun h => ?_) (fun h => ?_) <;> simp [h, e]))
  all_goals (refine hQ _ _ _ (by simp) ?_)
  all_goals (clear hQ; simp_all [Try.f27])

theorem shpMinder {H : Heap} {k : Nat} {l : List Lf} (h : Shp Try.prog H (k + 5) 45 l) : ∃ (m : Minder) (a : Option (Nat × Nat)), l = m.enc a ∧ Sl H 63 a (m.log.map In.enc) ∧ m.log.length ≤ maxLen := by
  obtain ⟨_, _, rfl, h1, _, _, rfl, h2, _, _, rfl, h3, _, _, rfl, h4, _, _, rfl, h5, _, _, rfl, h6, _, _, rfl, h7, rfl⟩ := h.struct Try.underlying45
  obtain ⟨x1, rfl⟩ := h1.bool Try.underlying4
  obtain ⟨x2, rfl, -⟩ := h2.i64 Try.underlying3
  obtain ⟨x3, rfl, -⟩ := h3.i64 Try.underlying3
  obtain ⟨xs, a, rfl, hs, hl, -⟩ := h4.sl (f := In.enc) (R := fun _ => True) Try.underlying43 fun row hr => let ⟨x, hx⟩ := shpIn hr; ⟨x, hx, trivial⟩
  obtain ⟨x5, rfl, -⟩ := h5.i64 Try.underlying3
  obtain ⟨x6, rfl, -⟩ := h6.i64 Try.underlying3
  obtain ⟨x7, rfl, -⟩ := h7.i64 Try.underlying3
  exact ⟨⟨x1, x2, x3, xs, x5, x6, x7⟩, a, rfl, hs, hl⟩

def Vec.ok (v : Vec) : Bool := (decide (1 ≤ v.root) && decide (v.root ≤ 9)) && (decide (1 ≤ v.bridge) && decide (v.bridge ≤ 9)) && decide (v.root ≤ v.bridge) && (decide (0 ≤ v.cost) && decide (v.cost ≤ 20)) && (decide (v.cost = 0) == decide (v.root = v.bridge)) && (decide (0 ≤ v.port) && decide (v.port ≤ 3))

theorem implVecOk (H : Heap) (v : Vec) : run env 87 [.agg v.enc] H = some (.bool v.ok, H) := by
  obtain ⟨a1, a2, a3, a4⟩ := v
  refine run_walk ok87 Try.func87 rfl (by simp [Try.f87]) fun Q hQ => ?_
  simp only [Try.f87, strip, stripL, stripI, stripG, chkT, tagsB, tagsL, tagD, addT, tagA, lookN, tagOp, elmT, ty28, ty32, ty34, ty43, ty48, ty74, ty75, ty76, ty81, ty82, ty83, Nat.reduceEqDiff, if_false, reduceIte, Option.getD_some, Option.getD_none, dstAt, dstOk, Nat.reduceLT, decide_true, if_true]
  simp [Vec.enc, inRange, isPort]
  repeat' (first | (refine gdL_t (fun h => ?_) (fun h => ?_) <;> simp [h, inRange, isPort]) | (refine gdL_f (fun h => ?_) (fun h => ?_) <;> simp [h, inRange, isPort]) | (refine selS_intro (fun h => ?_) (fun h => ?_) <;> simp [h, inRange, isPort]))
  all_goals (refine hQ _ _ _ (by simp) ?_)
  all_goals (clear hQ; simp_all [Try.f87, Vec.ok])
  all_goals (first | omega | (intros; omega))

theorem specVecOk (H : Heap) (v : Vec) : run env 85 [.agg v.enc] H = some (.bool v.ok, H) := by
  obtain ⟨a1, a2, a3, a4⟩ := v
  refine run_walk ok85 Try.func85 rfl (by simp [Try.f85]) fun Q hQ => ?_
  simp only [Try.f85, strip, stripL, stripI, stripG, chkT, tagsB, tagsL, tagD, addT, tagA, lookN, tagOp, elmT, ty28, ty32, ty34, ty43, ty48, ty74, ty75, ty76, ty81, ty82, ty83, Nat.reduceEqDiff, if_false, reduceIte, Option.getD_some, Option.getD_none, dstAt, dstOk, Nat.reduceLT, decide_true, if_true]
  simp [Vec.enc, l1In]
  repeat' (first | (refine gdL_t (fun h => ?_) (fun h => ?_) <;> simp [h, l1In]) | (refine gdL_f (fun h => ?_) (fun h => ?_) <;> simp [h, l1In]) | (refine selS_intro (fun h => ?_) (fun h => ?_) <;> simp [h, l1In]))
  all_goals (refine hQ _ _ _ (by simp) ?_)
  all_goals (clear hQ; simp_all [Try.f85, Vec.ok])
  all_goals (first | omega | (intros; omega))

def In.ok (x : In) : Bool := if x.kind = 1 then (decide (0 ≤ x.port) && decide (x.port ≤ 3)) && x.vec.ok && (decide (0 ≤ x.hops) && decide (x.hops ≤ 8)) && !x.up
  else if x.kind = 3 then (decide (0 ≤ x.port) && decide (x.port ≤ 3)) && decide (x.vec = ⟨0, 0, 0, 0⟩) && decide (x.hops = 0)
  else decide (x = ⟨2, 0, ⟨0, 0, 0, 0⟩, 0, false⟩)

theorem implInOk (H : Heap) (x : In) : run env 77 [.agg x.enc] H = some (.bool x.ok, H) := by
  obtain ⟨a1, a2, ⟨b1, b2, b3, b4⟩, a4, a5⟩ := x
  have e := fun H => implVecOk H ⟨b1, b2, b3, b4⟩
  simp only [Vec.enc] at e
  refine run_walk ok77 Try.func77 rfl (by simp [Try.f77]) fun Q hQ => ?_
  simp only [Try.f77, strip, stripL, stripI, stripG, chkT, tagsB, tagsL, tagD, addT, tagA, lookN, tagOp, elmT, ty28, ty32, ty34, ty43, ty48, ty74, ty75, ty76, ty81, ty82, ty83, Nat.reduceEqDiff, if_false, reduceIte, Option.getD_some, Option.getD_none, dstAt, dstOk, Nat.reduceLT, decide_true, if_true]
  simp [In.enc, isPort, isHops, e]
  repeat' (first | (refine gdL_t (fun h => ?_) (fun h => ?_) <;> simp [h, isPort, isHops, e]) | (refine gdL_f (fun h => ?_) (fun h => ?_) <;> simp [h, isPort, isHops, e]) | (refine selS_intro (fun h => ?_) (fun h => ?_) <;> simp [h, isPort, isHops, e]))
  all_goals (refine hQ _ _ _ (by simp) ?_)
  all_goals (clear hQ; simp_all [Try.f77, In.ok])
  all_goals (first | (intros; exfalso; omega) | simp [Bool.and_assoc])

theorem specInOk (H : Heap) (x : In) : run env 76 [.agg x.enc] H = some (.bool x.ok, H) := by
  obtain ⟨a1, a2, ⟨b1, b2, b3, b4⟩, a4, a5⟩ := x
  have e := fun H => specVecOk H ⟨b1, b2, b3, b4⟩
  simp only [Vec.enc] at e
  refine run_walk ok76 Try.func76 rfl (by simp [Try.f76]) fun Q hQ => ?_
  simp only [Try.f76, strip, stripL, stripI, stripG, chkT, tagsB, tagsL, tagD, addT, tagA, lookN, tagOp, elmT, ty28, ty32, ty34, ty43, ty48, ty74, ty75, ty76, ty81, ty82, ty83, Nat.reduceEqDiff, if_false, reduceIte, Option.getD_some, Option.getD_none, dstAt, dstOk, Nat.reduceLT, decide_true, if_true]
  simp [In.enc, l1In, e]
  repeat' (first | (refine gdL_t (fun h => ?_) (fun h => ?_) <;> simp [h, l1In, e]) | (refine gdL_f (fun h => ?_) (fun h => ?_) <;> simp [h, l1In, e]) | (refine selS_intro (fun h => ?_) (fun h => ?_) <;> simp [h, l1In, e]))
  all_goals (refine hQ _ _ _ (by simp) ?_)
  all_goals (clear hQ; simp_all [Try.f76, In.ok])
  all_goals (first | (intros; exfalso; omega) | simp [Bool.and_assoc])

def IsMinder (H : Heap) (l : List Lf) (x : Minder) (fp : List Nat) : Prop := ∃ a, l = x.enc a ∧ Own H 68 a (x.log.map In.enc) fp
def RdMinder (H : Heap) (l : List Lf) (x : Minder) : Prop := ∃ a, l = x.enc a ∧ Sl H 68 a (x.log.map In.enc)
def RdLMinder (H : Heap) (l : List Lf) (x : Minder) : Prop := ∃ a, l = x.enc a ∧ Sl H 63 a (x.log.map In.enc)
abbrev Minder.sz (x : Minder) : Nat := x.log.length
def Minder.fit (x : Minder) : Prop := x.log.length ≤ maxLen
section
variable {H H' : Heap} {l : List Lf} {x : Minder} {fp : List Nat}
theorem IsMinder.keep {f : List Nat} (h : IsMinder H l x fp) (hk : Keep f H H') (hd : ∀ i ∈ fp, i ∉ f) : IsMinder H' l x fp := let ⟨a, h1, h2⟩ := h; ⟨a, h1, h2.keep hk hd⟩
theorem IsMinder.app (h : IsMinder H l x fp) (G : Heap) : IsMinder (H ++ G) l x fp := let ⟨a, h1, h2⟩ := h; ⟨a, h1, h2.app G⟩
theorem IsMinder.lt (h : IsMinder H l x fp) : ∀ i ∈ fp, i < H.length := let ⟨_, _, h2⟩ := h; h2.lt
theorem IsMinder.nodup (h : IsMinder H l x fp) : fp.Nodup := let ⟨_, _, h2⟩ := h; h2.nodup
theorem IsMinder.rd (h : IsMinder H l x fp) : RdMinder H l x := let ⟨a, h1, h2⟩ := h; ⟨a, h1, h2.sl⟩
theorem RdMinder.base (h : RdMinder H l x) (hk : Keep [] H H') : RdMinder H' l x := let ⟨a, h1, h2⟩ := h; ⟨a, h1, h2.keep hk (by simp)⟩
theorem RdMinder.app (h : RdMinder H l x) (G : Heap) : RdMinder (H ++ G) l x := h.base (Keep.app _ _ _)
theorem RdLMinder.base (h : RdLMinder H l x) (hk : Keep [] H H') : RdLMinder H' l x := let ⟨a, h1, h2⟩ := h; ⟨a, h1, h2.keep hk (by simp)⟩
theorem RdLMinder.app (h : RdLMinder H l x) (G : Heap) : RdLMinder (H ++ G) l x := h.base (Keep.app _ _ _)
theorem IsMinder.len (h : IsMinder H l x fp) : l.length = 7 := by obtain ⟨a, rfl, -⟩ := h; rfl
theorem RdLMinder.len (h : RdLMinder H l x) : l.length = 7 := by obtain ⟨a, rfl, -⟩ := h; rfl
theorem RdMinder.len (h : RdMinder H l x) : l.length = 7 := by obtain ⟨a, rfl, -⟩ := h; rfl
theorem IsMinder.free (h : IsMinder H' l x fp) (hr : l.all refFree = true) (H2 : Heap) : IsMinder H2 l x [] := by
  obtain ⟨a, rfl, h2⟩ := h
  exact ⟨a, rfl, h2.free (n := x.log.length) (by simp [Minder.enc] at hr; exact hr) H2⟩
theorem IsMinder.leave {ws : List W} (h : IsMinder H' l x fp) (hf : Fresh H H' fp) (hw : ws.all W.free = true → l.all refFree = true) : ∃ fp', IsMinder (leave H H' ws) l x fp' ∧ Fresh H (leave H H' ws) fp' := by
  rcases leave_opt H H' ws with e | ⟨e, hr⟩ <;> rw [e]
  · exact ⟨fp, h, hf⟩
  · exact ⟨[], h.free (hw hr) H, Fresh.refl H⟩
end

def Minder.mk' (x : Minder) (k : Int) : Minder := { x with log := InS.mk' x.log k }
def Minder.mkN (x : Minder) (k : Int) : Int := InS.mkN x.log k
def Minder.hd (x : Minder) (k : Int) : Int := InS.hd x.log k
theorem Minder.hd_mk (x : Minder) (k : Int) : (x.mk' k).hd k = x.mkN k := InS.hd_mk _ _
theorem Minder.mk_sz (x : Minder) (k : Int) : (x.mk' k).sz = x.sz := InS.mk_sz _ _
theorem Minder.mkN_le {x : Minder} {k : Int} (h : x.sz ≤ 1048576) : k ≤ x.mkN k ∧ x.mkN k ≤ k + 1000000000 := InS.mkN_le h

theorem szMinder_is {H : Heap} {l : List Lf} {x : Minder} (h : RdLMinder H l x) (hf : x.fit) {left : Int} (h1 : 0 ≤ left) (h2 : left ≤ 1048576) (G : Heap) :
    run env 23 [.agg l, .int left] (H ++ G) = some (.int (if left < x.sz then -1 else left - x.sz), H ++ G) := by
  obtain ⟨a, rfl, h⟩ := h
  exact szMinder _ a x left h1 h2 hf

theorem toMinder_is {H : Heap} {l : List Lf} {x : Minder} (h : RdLMinder H l x) (hn : x.sz ≤ 1048576) : Runs env 25 [.agg l] H fun v H' => ∃ l' fp, v = .agg l' ∧ IsMinder H' l' x fp ∧ Fresh H H' fp := by
  obtain ⟨a, rfl, h⟩ := h
  exact (toMinder H a x h hn).mono fun v H' ⟨a', fp, h1, h2, h3⟩ => ⟨_, fp, h1, ⟨a', rfl, h2⟩, h3⟩

theorem eqMinder_is {H : Heap} {l r : List Lf} {x y : Minder} (h : RdMinder H l x) (h2 : RdMinder H r y) (hn : x.sz ≤ 1048576) : run env 27 [.agg l, .agg r] H = some (.bool (decide (x = y)), H) := by
  obtain ⟨a, rfl, h⟩ := h
  obtain ⟨b, rfl, h2⟩ := h2
  exact eqMinder H a b x y h h2 hn

theorem markMinder_is {H : Heap} {l : List Lf} {x : Minder} {fp : List Nat} {k : Int} (h : IsMinder H l x fp) (hk : 0 ≤ k) (hk2 : k ≤ 2305843009213693952) (hn : x.sz ≤ 1048576) :
    Runs env 36 [.agg l, .int k] H fun v H' => v = .int (x.mkN k) ∧ IsMinder H' l (x.mk' k) fp ∧ Keep fp H H' := by
  obtain ⟨a, rfl, h⟩ := h
  refine Runs.walk ok36 Try.func36 rfl (by simp [Try.f36]) fun Q hQ => ?_
  simp only [Try.f36, strip, stripL, stripI, stripG, chkT, tagsB, tagsL, tagD, addT, tagA, lookN, tagOp, elmT, ty28, ty32, ty34, ty43, ty48, ty74, ty75, ty76, ty81, ty82, ty83, Nat.reduceEqDiff, if_false, reduceIte, Option.getD_some, Option.getD_none, dstAt, dstOk, Nat.reduceLT, decide_true, if_true]
  simp [Minder.enc]
  refine stpL_runs (markInS_is (q := .sl a x.log.length) ⟨a, rfl, h.app _⟩ hk hk2 hn) fun v H' hh => ?_
  obtain ⟨rfl, ⟨a', ha, ho⟩, hkp⟩ := hh
  injection ha with ha
  subst ha
  simp
  refine hQ _ _ _ (by simp) ?_
  simp [Try.f36]
  exact ⟨rfl, ⟨a, by simp [Minder.mk', Minder.enc, InS.mk_sz], leave_own ho h.lt⟩, leave_keep' hkp.base⟩

theorem heldMinder_is {H : Heap} {l : List Lf} {x : Minder} {k : Int} (h : RdMinder H l x) (hk : 0 ≤ k) (hk2 : k ≤ 2305843009213693952) (hn : x.sz ≤ 1048576) :
    run env 37 [.agg l, .int k] H = some (.int (x.hd k), H) := by
  obtain ⟨a, rfl, h⟩ := h
  have e := fun G => heldInS_is (q := .sl a x.log.length) ⟨a, rfl, h.app G⟩ hk hk2 hn
  have hl : InS.hd x.log k = -1 ∨ 0 ≤ InS.hd x.log k := by unfold InS.hd heldL; split <;> omega
  refine run_walk ok37 Try.func37 rfl (by simp [Try.f37]) fun Q hQ => ?_
  simp only [Try.f37, strip, stripL, stripI, stripG, chkT, tagsB, tagsL, tagD, addT, tagA, lookN, tagOp, elmT, ty28, ty32, ty34, ty43, ty48, ty74, ty75, ty76, ty81, ty82, ty83, Nat.reduceEqDiff, if_false, reduceIte, Option.getD_some, Option.getD_none, dstAt, dstOk, Nat.reduceLT, decide_true, if_true]
  simp [Minder.enc, e]
  repeat' (first | (refine gdL_t (fun h => ?_) (fun h => ?_) <;> simp [h]) | (refine gdL_f (fun h => ?_) (fun h => ?_) <;> simp [h]) | (refine selS_intro (fun h => ?_) (fun h => ?_) <;> simp [h]))
  all_goals (refine hQ _ _ _ (by simp) ?_)
  all_goals (clear hQ; simp_all [Try.f37, Minder.hd] <;> omega)

theorem shpMinder_is {H : Heap} {k : Nat} {l : List Lf} (h : Shp Try.prog H (k + 5) 45 l) : ∃ x : Minder, RdLMinder H l x ∧ x.fit := by
  obtain ⟨x, a, rfl, hs, hl⟩ := shpMinder h
  exact ⟨x, ⟨a, rfl, hs⟩, hl⟩

def logOk (xs : List In) : Bool := xs.all In.ok && decide ((xs.length : Int) ≤ 60)

theorem implLogOk (H : Heap) (a : Option (Nat × Nat)) (xs : List In) (h : Sl H 68 a (xs.map In.enc)) (hn : xs.length ≤ 2000000) :
    run env 56 [.w (.lf (.sl a xs.length))] H = some (.bool (logOk xs), H) := by
  refine run_walk ok56 Try.func56 rfl (by simp [Try.f56]) fun Q hQ => ?_
  simp only [Try.f56, strip, stripL, stripI, stripG, chkT, tagsB, tagsL, tagD, addT, tagA, lookN, tagOp, elmT, ty28, ty32, ty34, ty43, ty48, ty74, ty75, ty76, ty81, ty82, ty83, Nat.reduceEqDiff, if_false, reduceIte, Option.getD_some, Option.getD_none, dstAt, dstOk, Nat.reduceLT, decide_true, if_true]
  simp [builtinV, pureB, lenV]
  refine wpS_loop (fun j tm H' => ∃ i G, i + j = xs.length ∧ tm 0 = .w (.lf (.sl a xs.length)) ∧ tm 5 = .w (.lf (.sl a xs.length)) ∧ tm 6 = .int xs.length ∧ tm 7 = .int i ∧ H' = H ++ G ∧ (xs.take i).all In.ok = true) xs.length (by rw [env_K]; omega) ⟨0, [], by simp, by simp, by simp, by simp, by simp, by simp, by simp⟩ ?_
  rintro j tm H' hj ⟨i, G, hij, h0, h5, h6, h7, rfl, hall⟩ Q' hn' he' hr'
  simp [h0, h5, h6, h7, builtinV, pureB, lenV]
  refine selS_intro (fun hc => ?_) (fun hc => ?_)
  · simp at hc
    obtain ⟨id, r, bl, rfl, hbl, hbe, hrow⟩ := h i _ (by simp [hc]; rfl)
    have hid := blkAt_len hbl
    have g4 : IntKind.i64.wrap ((i : Int) + 1) = (i : Int) + 1 := wrap64 (by omega) (by omega)
    simp [h0, h5, h6, h7, indexAddrV, elemIs, hid, hbl, hbe, hc, hrow, implInOk]
    refine selS_intro (fun hd => ?_) (fun hd => ?_)
    · simp
      refine hr' _ _ ?_
      simp
      refine hQ _ _ _ (by simp) ?_
      have : xs.all In.ok = false := List.all_eq_false.2 ⟨xs[i], by simp, by simpa using hd⟩
      simp [Try.f56, this, logOk]
    · simp at hd
      simp [h0, h5, h6, h7, g4]
      refine hn' (j - 1) _ _ (by omega) ⟨i + 1, _, by omega, by simp [h0], by simp [h5], by simp [h6], by simp, rfl, ?_⟩
      rw [List.take_add_one, List.all_append, hall]
      simp [hc, hd]
  · simp at hc
    simp [h0, h5, h6, h7]
    refine he' _ _ _ ?_
    simp [h0, builtinV, pureB, lenV]
    refine hQ _ _ _ (by simp) ?_
    rw [List.take_of_length_le (by omega)] at hall
    simp [Try.f56, hall, logOk]

theorem specLogOk (H : Heap) (a : Option (Nat × Nat)) (xs : List In) (h : Sl H 68 a (xs.map In.enc)) (hn : xs.length ≤ 2000000) :
    run env 54 [.w (.lf (.sl a xs.length))] H = some (.bool (logOk xs), H) := by
  refine run_walk ok54 Try.func54 rfl (by simp [Try.f54]) fun Q hQ => ?_
  simp only [Try.f54, strip, stripL, stripI, stripG, chkT, tagsB, tagsL, tagD, addT, tagA, lookN, tagOp, elmT, ty28, ty32, ty34, ty43, ty48, ty74, ty75, ty76, ty81, ty82, ty83, Nat.reduceEqDiff, if_false, reduceIte, Option.getD_some, Option.getD_none, dstAt, dstOk, Nat.reduceLT, decide_true, if_true]
  simp [builtinV, pureB, lenV]
  refine wpS_loop (fun j tm H' => ∃ i, i + j = xs.length ∧ tm 0 = .w (.lf (.sl a xs.length)) ∧ tm 3 = .int i ∧ H' = H ∧ (xs.take i).all In.ok = true) xs.length (by rw [env_K]; omega) ⟨0, by simp, by simp, by simp, rfl, by simp⟩ ?_
  rintro j tm H' hj ⟨i, hij, h0, h3, rfl, hall⟩ Q' hn' he' hr'
  simp [h0, h3, builtinV, pureB, lenV]
  refine selS_intro (fun hc => ?_) (fun hc => ?_)
  · simp at hc
    obtain ⟨id, r, bl, rfl, hbl, hbe, hrow⟩ := h i _ (by simp [hc]; rfl)
    have g4 : IntKind.i64.wrap ((i : Int) + 1) = (i : Int) + 1 := wrap64 (by omega) (by omega)
    simp [h0, h3, indexAddrV, elemIs, hbl, hbe, hc, hrow, specInOk]
    refine selS_intro (fun hd => ?_) (fun hd => ?_)
    · simp
      refine hr' _ _ ?_
      simp
      refine hQ _ _ _ (by simp) ?_
      have : xs.all In.ok = false := List.all_eq_false.2 ⟨xs[i], by simp, by simpa using hd⟩
      simp [Try.f54, this, logOk]
    · simp at hd
      simp [h0, h3, g4]
      refine hn' (j - 1) _ _ (by omega) ⟨i + 1, by omega, by simp [h0], by simp, rfl, ?_⟩
      rw [List.take_add_one, List.all_append, hall]
      simp [hc, hd]
  · simp at hc
    simp [h0, h3]
    refine he' _ _ _ ?_
    simp [h0, builtinV, pureB, lenV]
    refine hQ _ _ _ (by simp) ?_
    rw [List.take_of_length_le (by omega)] at hall
    simp [Try.f54, hall, logOk]

def Minder.ok (m : Minder) : Bool := (decide (0 ≤ m.life) && decide (m.life ≤ 100000)) && (decide (0 ≤ m.epoch) && decide (m.epoch ≤ 100000)) && (decide (0 ≤ m.ackLife) && decide (m.ackLife ≤ 100000)) && logOk m.log &&
  (decide (0 ≤ m.said) && decide (m.said ≤ m.log.length)) && (decide (0 ≤ m.acked) && decide (m.acked ≤ m.log.length)) && (m.up || decide (m.epoch = 0) && decide ((m.log.length : Int) = 0) && decide (m.ackLife = 0))

theorem implMinderOk (H : Heap) (a : Option (Nat × Nat)) (m : Minder) (h : Sl H 68 a (m.log.map In.enc)) (hn : m.log.length ≤ 2000000) :
    run env 26 [.agg (m.enc a)] H = some (.bool m.ok, H) := by
  have e := fun G => implLogOk (H ++ G) a m.log (h.app _) hn
  obtain ⟨a1, a2, a3, a4, a5, a6, a7⟩ := m
  simp only at e
  refine run_walk ok26 Try.func26 rfl (by simp [Try.f26]) fun Q hQ => ?_
  simp only [Try.f26, strip, stripL, stripI, stripG, chkT, tagsB, tagsL, tagD, addT, tagA, lookN, tagOp, elmT, ty28, ty32, ty34, ty43, ty48, ty74, ty75, ty76, ty81, ty82, ty83, Nat.reduceEqDiff, if_false, reduceIte, Option.getD_some, Option.getD_none, dstAt, dstOk, Nat.reduceLT, decide_true, if_true]
  simp [Minder.enc, isNum]
  repeat' (first | (refine gdL_t (fun h => ?_) (fun h => ?_) <;> simp [h, isNum, inRange, e, builtinV, pureB, lenV]) | (refine gdL_f (fun h => ?_) (fun h => ?_) <;> simp [h, isNum, inRange, e, builtinV, pureB, lenV]) | (refine selS_intro (fun h => ?_) (fun h => ?_) <;> simp [h, isNum, inRange, e, builtinV, pureB, lenV]))
  all_goals (refine hQ _ _ _ (by simp) ?_)
  all_goals (clear hQ; simp_all [Try.f26, Minder.ok])
  all_goals (try (intros; exfalso; omega))

theorem specMinderOk (H : Heap) (a : Option (Nat × Nat)) (m : Minder) (h : Sl H 68 a (m.log.map In.enc)) (hn : m.log.length ≤ 2000000) :
    run env 24 [.agg (m.enc a)] H = some (.bool m.ok, H) := by
  have e := fun G => specLogOk (H ++ G) a m.log (h.app _) hn
  obtain ⟨a1, a2, a3, a4, a5, a6, a7⟩ := m
  simp only at e
  refine run_walk ok24 Try.func24 rfl (by simp [Try.f24]) fun Q hQ => ?_
  simp only [Try.f24, strip, stripL, stripI, stripG, chkT, tagsB, tagsL, tagD, addT, tagA, lookN, tagOp, elmT, ty28, ty32, ty34, ty43, ty48, ty74, ty75, ty76, ty81, ty82, ty83, Nat.reduceEqDiff, if_false, reduceIte, Option.getD_some, Option.getD_none, dstAt, dstOk, Nat.reduceLT, decide_true, if_true]
  simp [Minder.enc, l1In]
  repeat' (first | (refine gdL_t (fun h => ?_) (fun h => ?_) <;> simp [h, l1In, e, builtinV, pureB, lenV]) | (refine gdL_f (fun h => ?_) (fun h => ?_) <;> simp [h, l1In, e, builtinV, pureB, lenV]) | (refine selS_intro (fun h => ?_) (fun h => ?_) <;> simp [h, l1In, e, builtinV, pureB, lenV]))
  all_goals (refine hQ _ _ _ (by simp) ?_)
  all_goals (clear hQ; simp_all [Try.f24, Minder.ok])
  all_goals (try (intros; exfalso; omega))

theorem implMinderOk_is {H : Heap} {l : List Lf} {m : Minder} (h : RdMinder H l m) (hn : m.sz ≤ 2000000) : run env 26 [.agg l] H = some (.bool m.ok, H) := by
  obtain ⟨a, rfl, h⟩ := h
  exact implMinderOk H a m h hn

theorem specMinderOk_is {H : Heap} {l : List Lf} {m : Minder} (h : RdMinder H l m) (hn : m.sz ≤ 2000000) : run env 24 [.agg l] H = some (.bool m.ok, H) := by
  obtain ⟨a, rfl, h⟩ := h
  exact specMinderOk H a m h hn

theorem copyMinder {H : Heap} {l : List Lf} {m : Minder} (h : RdMinder H l m) (hn : m.sz ≤ 1048576) : Runs env 60 [.agg l] H fun v H' => ∃ l' fp, v = .agg l' ∧ IsMinder H' l' m fp ∧ Fresh H H' fp := by
  obtain ⟨a, rfl, h⟩ := h
  refine Runs.walk ok60 Try.func60 rfl (by simp [Try.f60]) fun Q hQ => ?_
  simp only [Try.f60, strip, stripL, stripI, stripG, chkT, tagsB, tagsL, tagD, addT, tagA, lookN, tagOp, elmT, ty28, ty32, ty34, ty43, ty48, ty74, ty75, ty76, ty81, ty82, ty83, Nat.reduceEqDiff, if_false, reduceIte, Option.getD_some, Option.getD_none, dstAt, dstOk, Nat.reduceLT, decide_true, if_true]
  simp [Minder.enc]
  refine stpL_runs (cloneInS (q := .sl a m.log.length) ⟨a, rfl, h.app _⟩ hn) ?_
  rintro _ H1 ⟨_, f, rfl, ⟨a1, rfl, o1⟩, ⟨⟨G, rfl⟩, hf⟩⟩
  simp
  refine hQ _ _ _ (by simp) ?_
  simp [Try.f60]
  have ho : IsMinder (H ++ [some ⟨50, .wr, [m.enc a1]⟩, some ⟨50, .wr, [m.enc a1]⟩] ++ G) (m.enc a1) m f := ⟨a1, rfl, o1.keep (Keep.swap G (by simp)) fun i hi => by have := hf i hi; simp at this ⊢; omega⟩
  simp [Minder.enc] at ho
  obtain ⟨f', h1, h2⟩ := ho.leave (H := H) (ws := [W.agg (m.enc a1)]) (Fresh.app H _ fun i hi => by have := hf i hi; simp at this; omega) (by simp [Minder.enc])
  exact ⟨f', h1, h2⟩

theorem specCopyM {H : Heap} {l : List Lf} {m : Minder} (h : RdMinder H l m) (hn : m.sz ≤ 1048576) : Runs env 58 [.agg l] H fun v H' => ∃ l' fp, v = .agg l' ∧ IsMinder H' l' m fp ∧ Fresh H H' fp := by
  obtain ⟨a, rfl, h⟩ := h
  refine Runs.walk ok58 Try.func58 rfl (by simp [Try.f58]) fun Q hQ => ?_
  simp only [Try.f58, strip, stripL, stripI, stripG, chkT, tagsB, tagsL, tagD, addT, tagA, lookN, tagOp, elmT, ty28, ty32, ty34, ty43, ty48, ty74, ty75, ty76, ty81, ty82, ty83, Nat.reduceEqDiff, if_false, reduceIte, Option.getD_some, Option.getD_none, dstAt, dstOk, Nat.reduceLT, decide_true, if_true]
  simp [Minder.enc]
  refine stpL_append (rows := []) (ys := m.log.map In.enc) (Own.of (by simp)) (h.app _) rfl rfl rfl (by simp) (by have : m.log.length ≤ 1048576 := hn; simp; omega) rfl (by simp) fun a1 H1 f o1 hk hf => ?_
  obtain ⟨⟨G, rfl⟩, hf⟩ : Fresh (H ++ [some ⟨50, .wr, [m.enc a]⟩, some ⟨50, .wr, [(⟨false, 0, 0, [], 0, 0, 0⟩ : Minder).enc none]⟩]) H1 f := by
    refine Fresh.grow (fp := [H.length + 2]) (G := [some ⟨68, .wr, []⟩]) (by simp) (by simpa [Minder.enc] using hk) ?_
    intro i hi
    have := hf i hi
    simp at this ⊢
    omega
  simp
  refine hQ _ _ _ (by simp) ?_
  simp [Try.f58]
  have ho : IsMinder (H ++ [some ⟨50, .wr, [m.enc a1]⟩, some ⟨50, .wr, [m.enc a1]⟩] ++ G) (m.enc a1) m f := ⟨a1, rfl, o1.keep (Keep.swap G (by simp)) fun i hi => by have := hf i hi; simp at this ⊢; omega⟩
  simp [Minder.enc] at ho
  obtain ⟨f', h1, h2⟩ := ho.leave (H := H) (ws := [W.agg (m.enc a1)]) (Fresh.app H _ fun i hi => by have := hf i hi; simp at this; omega) (by simp [Minder.enc])
  exact ⟨f', h1, h2⟩

def take (r : Reg) (s : Int) (m : Minder) : Reg × Minder × Bool :=
  if r.ok && m.ok && m.up && (decide (s = 0) || decide (s = 1)) && !decide (s = r.owner) && decide (0 < m.life) && decide (m.life = r.pair) && (⟨r.epoch + 1, s, 0⟩ : Reg).ok then (⟨r.epoch + 1, s, 0⟩, { m with epoch := r.epoch + 1, acked := 0, ackLife := 0 }, true) else (r, m, false)
theorem take_sz {r : Reg} {s : Int} {m : Minder} (hn : m.sz ≤ 1048576) : (take r s m).2.1.sz ≤ 1048576 := by
  unfold take
  split <;> exact hn

theorem implTake_is {H : Heap} {l : List Lf} {m : Minder} (h : RdMinder H l m) (hn : m.sz ≤ 1048576) (r : Reg) (s : Int) (_ : I64 s) : Runs env 39 [.agg r.enc, .int s, .agg l] H fun v H' => ∃ l' fp, v = .tup [.agg (take r s m).1.enc, .agg l', .lf (.b (take r s m).2.2)] ∧ IsMinder H' l' (take r s m).2.1 fp ∧ Fresh H H' fp := by
  have hR := h
  have hn' : m.log.length ≤ 1048576 := hn
  have e := fun G => implMinderOk_is (hR.app G) (by omega)
  have e2 := fun H x y z => implRegOk H ⟨x, y, z⟩
  have hw : r.ok = true → IntKind.i64.wrap (r.epoch + 1) = r.epoch + 1 := fun hr => by simp [Reg.ok] at hr; exact wrap64 (by omega) (by omega)
  obtain ⟨a, rfl, h⟩ := h
  obtain ⟨r1, r2, r3⟩ := r
  simp only at hw
  refine Runs.walk ok39 Try.func39 rfl (by simp [Try.f39]) fun Q hQ => ?_
  simp only [Try.f39, strip, stripL, stripI, stripG, chkT, tagsB, tagsL, tagD, addT, tagA, lookN, tagOp, elmT, ty28, ty32, ty34, ty43, ty48, ty74, ty75, ty76, ty81, ty82, ty83, Nat.reduceEqDiff, if_false, reduceIte, Option.getD_some, Option.getD_none, dstAt, dstOk, Nat.reduceLT, decide_true, if_true]
  simp
  refine stpL_runs (copyMinder (hR.app _) hn) ?_
  rintro _ H1 ⟨_, f, rfl, ⟨a1, rfl, o1⟩, ⟨⟨G, rfl⟩, hf⟩⟩
  simp only [Reg.enc, Minder.enc] at e e2
  simp [Minder.enc, Reg.enc, e2]
  repeat' (first | (refine gdL_t (fun h => ?_) (fun h => ?_) <;> simp [h, e, e2, isSide]) | (refine gdL_f (fun h => ?_) (fun h => ?_) <;> simp [h, e, e2, isSide]) | (refine selS_intro (fun h => ?_) (fun h => ?_) <;> simp [h, e, e2, isSide]))
  · refine hQ _ _ _ (by simp) ?_
    have ht : take ⟨r1, r2, r3⟩ s m = (⟨r1, r2, r3⟩, m, false) := by
      clear hQ
      simp [take]
      simp_all
      try (intros; first | omega | (exfalso; omega))
    simp [Try.f39, ht, Minder.enc, Reg.enc]
    exact IsMinder.leave ⟨a1, by simp [Minder.enc], o1.cut (L' := [_, _, _, _]) hf rfl⟩ (Fresh.app H _ fun i hi => by have := hf i hi; simp at this; omega) (by simp)
  · refine hQ _ _ _ (by simp) ?_
    have ht : take ⟨r1, r2, r3⟩ s m = (⟨r1, r2, r3⟩, m, false) := by
      clear hQ
      simp [take]
      simp_all
      try (intros; first | omega | (exfalso; omega))
    simp [Try.f39, ht, Minder.enc, Reg.enc]
    exact IsMinder.leave ⟨a1, by simp [Minder.enc], o1.cut (L' := [_, _, _, _]) hf rfl⟩ (Fresh.app H _ fun i hi => by have := hf i hi; simp at this; omega) (by simp)
  · refine hQ _ _ _ (by simp) ?_
    have ht : take ⟨r1, r2, r3⟩ s m = (⟨r1, r2, r3⟩, m, false) := by
      clear hQ
      simp [take]
      simp_all
      try (intros; first | omega | (exfalso; omega))
    simp [Try.f39, ht, Minder.enc, Reg.enc]
    exact IsMinder.leave ⟨a1, by simp [Minder.enc], o1.cut (L' := [_, _, _, _]) hf rfl⟩ (Fresh.app H _ fun i hi => by have := hf i hi; simp at this; omega) (by simp)
  · refine hQ _ _ _ (by simp) ?_
    have ht : take ⟨r1, r2, r3⟩ s m = (⟨r1, r2, r3⟩, m, false) := by
      clear hQ
      simp [take]
      simp_all
      try (intros; first | omega | (exfalso; omega))
    simp [Try.f39, ht, Minder.enc, Reg.enc]
    exact IsMinder.leave ⟨a1, by simp [Minder.enc], o1.cut (L' := [_, _, _, _]) hf rfl⟩ (Fresh.app H _ fun i hi => by have := hf i hi; simp at this; omega) (by simp)
  · refine hQ _ _ _ (by simp) ?_
    have ht : take ⟨r1, r2, r3⟩ s m = (⟨r1, r2, r3⟩, m, false) := by
      clear hQ
      simp [take]
      simp_all
      try (intros; first | omega | (exfalso; omega))
    simp [Try.f39, ht, Minder.enc, Reg.enc]
    exact IsMinder.leave ⟨a1, by simp [Minder.enc], o1.cut (L' := [_, _, _, _]) hf rfl⟩ (Fresh.app H _ fun i hi => by have := hf i hi; simp at this; omega) (by simp)
  · refine hQ _ _ _ (by simp) ?_
    have ht : take ⟨r1, r2, r3⟩ s m = (⟨r1, r2, r3⟩, m, false) := by
      clear hQ
      simp [take]
      simp_all
      try (intros; first | omega | (exfalso; omega))
    simp [Try.f39, ht, Minder.enc, Reg.enc]
    exact IsMinder.leave ⟨a1, by simp [Minder.enc], o1.cut (L' := [_, _, _, _]) hf rfl⟩ (Fresh.app H _ fun i hi => by have := hf i hi; simp at this; omega) (by simp)
  · refine hQ _ _ _ (by simp) ?_
    have ht : take ⟨r1, r2, r3⟩ s m = (⟨r1, r2, r3⟩, m, false) := by
      clear hQ
      simp [take]
      simp_all
      try (intros; first | omega | (exfalso; omega))
    simp [Try.f39, ht, Minder.enc, Reg.enc]
    exact IsMinder.leave ⟨a1, by simp [Minder.enc], o1.cut (L' := [_, _, _, _]) hf rfl⟩ (Fresh.app H _ fun i hi => by have := hf i hi; simp at this; omega) (by simp)
  · refine hQ _ _ _ (by simp) ?_
    have ht : take ⟨r1, r2, r3⟩ s m = (⟨r1, r2, r3⟩, m, false) := by
      clear hQ
      simp [take]
      simp_all
      try (intros; first | omega | (exfalso; omega))
    simp [Try.f39, ht, Minder.enc, Reg.enc]
    exact IsMinder.leave ⟨a1, by simp [Minder.enc], o1.cut (L' := [_, _, _, _]) hf rfl⟩ (Fresh.app H _ fun i hi => by have := hf i hi; simp at this; omega) (by simp)
  · refine hQ _ _ _ (by simp) ?_
    have ht : take ⟨r1, r2, r3⟩ s m = (⟨r1 + 1, s, 0⟩, { m with epoch := r1 + 1, acked := 0, ackLife := 0 }, true) := by
      clear hQ
      simp [take]
      simp_all
      try (intros; first | omega | (exfalso; omega))
    have hw2 : IntKind.i64.wrap (r1 + 1) = r1 + 1 := hw (by clear hQ; simp_all)
    simp [Try.f39, ht, hw2, Minder.enc, Reg.enc]
    exact IsMinder.leave ⟨a1, by simp [Minder.enc], o1.cut (L' := [_, _, _, _]) hf rfl⟩ (Fresh.app H _ fun i hi => by have := hf i hi; simp at this; omega) (by simp)

theorem specTake_is {H : Heap} {l : List Lf} {m : Minder} (h : RdMinder H l m) (hn : m.sz ≤ 1048576) (r : Reg) (s : Int) (_ : I64 s) : Runs env 38 [.agg r.enc, .int s, .agg l] H fun v H' => ∃ l' fp, v = .tup [.agg (take r s m).1.enc, .agg l', .lf (.b (take r s m).2.2)] ∧ IsMinder H' l' (take r s m).2.1 fp ∧ Fresh H H' fp := by
  have hR := h
  have hn' : m.log.length ≤ 1048576 := hn
  have e := fun G => specMinderOk_is (hR.app G) (by omega)
  have e2 := fun H x y z => specRegOk H ⟨x, y, z⟩
  have hw : r.ok = true → IntKind.i64.wrap (r.epoch + 1) = r.epoch + 1 := fun hr => by simp [Reg.ok] at hr; exact wrap64 (by omega) (by omega)
  obtain ⟨a, rfl, h⟩ := h
  obtain ⟨r1, r2, r3⟩ := r
  simp only at hw
  refine Runs.walk ok38 Try.func38 rfl (by simp [Try.f38]) fun Q hQ => ?_
  simp only [Try.f38, strip, stripL, stripI, stripG, chkT, tagsB, tagsL, tagD, addT, tagA, lookN, tagOp, elmT, ty28, ty32, ty34, ty43, ty48, ty74, ty75, ty76, ty81, ty82, ty83, Nat.reduceEqDiff, if_false, reduceIte, Option.getD_some, Option.getD_none, dstAt, dstOk, Nat.reduceLT, decide_true, if_true]
  simp
  refine stpL_runs (specCopyM (hR.app _) hn) ?_
  rintro _ H1 ⟨_, f, rfl, ⟨a1, rfl, o1⟩, ⟨⟨G, rfl⟩, hf⟩⟩
  simp only [Reg.enc, Minder.enc] at e e2
  simp [Minder.enc, Reg.enc, e2]
  repeat' (first | (refine gdL_t (fun h => ?_) (fun h => ?_) <;> simp [h, e, e2, l1In]) | (refine gdL_f (fun h => ?_) (fun h => ?_) <;> simp [h, e, e2, l1In]) | (refine selS_intro (fun h => ?_) (fun h => ?_) <;> simp [h, e, e2, l1In]))
  · refine hQ _ _ _ (by simp) ?_
    have ht : take ⟨r1, r2, r3⟩ s m = (⟨r1, r2, r3⟩, m, false) := by
      clear hQ
      simp [take]
      simp_all
      try (intros; first | omega | (exfalso; omega))
    simp [Try.f38, ht, Minder.enc, Reg.enc]
    exact IsMinder.leave ⟨a1, by simp [Minder.enc], o1.cut (L' := [_, _, _, _]) hf rfl⟩ (Fresh.app H _ fun i hi => by have := hf i hi; simp at this; omega) (by simp)
  · refine hQ _ _ _ (by simp) ?_
    have ht : take ⟨r1, r2, r3⟩ s m = (⟨r1, r2, r3⟩, m, false) := by
      clear hQ
      simp [take]
      simp_all
      try (intros; first | omega | (exfalso; omega))
    simp [Try.f38, ht, Minder.enc, Reg.enc]
    exact IsMinder.leave ⟨a1, by simp [Minder.enc], o1.cut (L' := [_, _, _, _]) hf rfl⟩ (Fresh.app H _ fun i hi => by have := hf i hi; simp at this; omega) (by simp)
  · refine hQ _ _ _ (by simp) ?_
    have ht : take ⟨r1, r2, r3⟩ s m = (⟨r1, r2, r3⟩, m, false) := by
      clear hQ
      simp [take]
      simp_all
      try (intros; first | omega | (exfalso; omega))
    simp [Try.f38, ht, Minder.enc, Reg.enc]
    exact IsMinder.leave ⟨a1, by simp [Minder.enc], o1.cut (L' := [_, _, _, _]) hf rfl⟩ (Fresh.app H _ fun i hi => by have := hf i hi; simp at this; omega) (by simp)
  · refine hQ _ _ _ (by simp) ?_
    have ht : take ⟨r1, r2, r3⟩ s m = (⟨r1, r2, r3⟩, m, false) := by
      clear hQ
      simp [take]
      simp_all
      try (intros; first | omega | (exfalso; omega))
    simp [Try.f38, ht, Minder.enc, Reg.enc]
    exact IsMinder.leave ⟨a1, by simp [Minder.enc], o1.cut (L' := [_, _, _, _]) hf rfl⟩ (Fresh.app H _ fun i hi => by have := hf i hi; simp at this; omega) (by simp)
  · refine hQ _ _ _ (by simp) ?_
    have ht : take ⟨r1, r2, r3⟩ s m = (⟨r1, r2, r3⟩, m, false) := by
      clear hQ
      simp [take]
      simp_all
      try (intros; first | omega | (exfalso; omega))
    simp [Try.f38, ht, Minder.enc, Reg.enc]
    exact IsMinder.leave ⟨a1, by simp [Minder.enc], o1.cut (L' := [_, _, _, _]) hf rfl⟩ (Fresh.app H _ fun i hi => by have := hf i hi; simp at this; omega) (by simp)
  · refine hQ _ _ _ (by simp) ?_
    have ht : take ⟨r1, r2, r3⟩ s m = (⟨r1, r2, r3⟩, m, false) := by
      clear hQ
      simp [take]
      simp_all
      try (intros; first | omega | (exfalso; omega))
    simp [Try.f38, ht, Minder.enc, Reg.enc]
    exact IsMinder.leave ⟨a1, by simp [Minder.enc], o1.cut (L' := [_, _, _, _]) hf rfl⟩ (Fresh.app H _ fun i hi => by have := hf i hi; simp at this; omega) (by simp)
  · refine hQ _ _ _ (by simp) ?_
    have ht : take ⟨r1, r2, r3⟩ s m = (⟨r1, r2, r3⟩, m, false) := by
      clear hQ
      simp [take]
      simp_all
      try (intros; first | omega | (exfalso; omega))
    simp [Try.f38, ht, Minder.enc, Reg.enc]
    exact IsMinder.leave ⟨a1, by simp [Minder.enc], o1.cut (L' := [_, _, _, _]) hf rfl⟩ (Fresh.app H _ fun i hi => by have := hf i hi; simp at this; omega) (by simp)
  · refine stpL_runs_f (specCopyM (hR.base (Keep.app _ H _)) hn) (by rintro _ _ ⟨_, _, _, _, hf⟩; exact hf.1) ?_
    rintro _ H4 ⟨_, f4, rfl, ⟨a4, rfl, o4⟩, ⟨⟨G4, rfl⟩, hf4⟩⟩
    simp
    refine hQ _ _ _ (by simp) ?_
    have hr1 : Reg.ok ⟨r1, r2, r3⟩ = true := by clear hQ; simp_all
    rw [hw hr1] at *
    have ht : take ⟨r1, r2, r3⟩ s m = (⟨r1, r2, r3⟩, m, false) := by
      clear hQ
      simp [take]
      simp_all
      try (intros; first | omega | (exfalso; omega))
    simp [Try.f38, ht, Minder.enc, Reg.enc]
    have o5 := fun y z => (o4.keep (Keep.set (id := H.length + 2) _ y) (fun i hi => by have := hf4 i hi; simp at this ⊢; omega)).keep (Keep.set (id := H.length + 3) _ z) (fun i hi => by have := hf4 i hi; simp at this ⊢; omega)
    simp at o5
    exact IsMinder.leave ⟨a4, by simp [Minder.enc], o5 _ _⟩ (Fresh.app H _ fun i hi => by have := hf4 i hi; simp at this; omega) (by simp)
  · have hr1 : Reg.ok ⟨r1, r2, r3⟩ = true := by clear hQ; simp_all
    rw [hw hr1] at *
    have e3 := fun B1 B2 B3 B4 T => specMinderOk_is (m := { m with epoch := r1 + 1, acked := 0, ackLife := 0 }) ⟨a1, rfl, (o1.cut (L' := [B1, B2, B3, B4]) (T := T) hf rfl).sl⟩ (by simp [Minder.sz]; omega)
    simp [Minder.enc] at e3
    have hok : Minder.ok { m with epoch := r1 + 1, acked := 0, ackLife := 0 } = true := by
      clear hQ
      have h1 : m.ok = true := by simp_all
      have h2 : Reg.ok ⟨r1 + 1, s, 0⟩ = true := by simp_all
      have h3 : m.up = true := by simp_all
      simp [Minder.ok] at h1 ⊢
      simp [Reg.ok] at h2
      simp [h3]
      simp_all
      omega
    simp [e3, hok]
    refine hQ _ _ _ (by simp) ?_
    have ht : take ⟨r1, r2, r3⟩ s m = (⟨r1 + 1, s, 0⟩, { m with epoch := r1 + 1, acked := 0, ackLife := 0 }, true) := by
      clear hQ
      simp [take]
      simp_all
      try omega
    simp [Try.f38, ht, Minder.enc, Reg.enc]
    exact IsMinder.leave ⟨a1, by simp [Minder.enc], o1.cut (L' := [_, _, _, _]) hf rfl⟩ (Fresh.app H _ fun i hi => by have := hf i hi; simp at this; omega) (by simp)
end W
end Go.Proofs.Ytonkofgdncgolaa

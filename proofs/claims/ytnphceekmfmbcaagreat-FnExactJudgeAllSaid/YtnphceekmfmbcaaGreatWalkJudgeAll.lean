/- The functions that this law reaches: what each computes. Conditions: those that each theorem names. -/
import Derived.Test.YtnphceekmfmbcaaGreatAbEnvJudgeAll
set_option maxRecDepth 100000
set_option maxHeartbeats 4000000
set_option linter.unusedSimpArgs false
set_option linter.unusedVariables false
set_option linter.unnecessarySimpa false
namespace Go.Proofs.YtnphceekmfmbcaaGreat
open Go Go.Ab Go.ChangeShapes Go.WideShapes Go.ChangeAt Go.RowKit
namespace W
theorem inRange (H : Heap) (n a b : Int) : run env 53 [.int n, .int a, .int b] H = some (.bool (decide (a ≤ n) && decide (n ≤ b)), H) := by
  refine run_walk ok53 Tryz.func53 rfl (by simp [Tryz.f53]) fun Q hQ => ?_
  simp only [Tryz.f53, strip, stripL, stripI, stripG, chkT, tagsB, tagsL, tagD, addT, tagA, lookN, tagOp, elmT, ty24, ty25, ty26, ty27, ty28, ty34, ty35, ty36, ty37, ty59, ty61, ty64, ty100, Nat.reduceEqDiff, if_false, reduceIte, Option.getD_some, Option.getD_none, dstAt, dstOk, Nat.reduceLT, decide_true, if_true]
  simp
  repeat' (first | (refine gdL_t (fun h => ?_) (fun h => ?_) <;> simp [h]) | (refine gdL_f (fun h => ?_) (fun h => ?_) <;> simp [h]) | (refine selS_intro (fun h => ?_) (fun h => ?_) <;> simp [h]))
  all_goals (refine hQ _ _ _ (by simp) ?_)
  all_goals (clear hQ; simp_all [Tryz.f53] <;> omega)

theorem l1In (H : Heap) (n a b : Int) : run env 49 [.int n, .int a, .int b] H = some (.bool (decide (a ≤ n) && decide (n ≤ b)), H) := by
  refine run_walk ok49 Tryz.func49 rfl (by simp [Tryz.f49]) fun Q hQ => ?_
  simp only [Tryz.f49, strip, stripL, stripI, stripG, chkT, tagsB, tagsL, tagD, addT, tagA, lookN, tagOp, elmT, ty24, ty25, ty26, ty27, ty28, ty34, ty35, ty36, ty37, ty59, ty61, ty64, ty100, Nat.reduceEqDiff, if_false, reduceIte, Option.getD_some, Option.getD_none, dstAt, dstOk, Nat.reduceLT, decide_true, if_true]
  simp
  repeat' (first | (refine gdL_t (fun h => ?_) (fun h => ?_) <;> simp [h]) | (refine gdL_f (fun h => ?_) (fun h => ?_) <;> simp [h]) | (refine selS_intro (fun h => ?_) (fun h => ?_) <;> simp [h]))
  all_goals (refine hQ _ _ _ (by simp) ?_)
  all_goals (clear hQ; simp_all [Tryz.f49] <;> omega)

theorem isNum (H : Heap) (n : Int) : run env 141 [.int n] H = some (.bool (decide (0 ≤ n) && decide (n ≤ 100000)), H) := by
  refine run_walk ok141 Tryz.func141 rfl (by simp [Tryz.f141]) fun Q hQ => ?_
  simp only [Tryz.f141, strip, stripL, stripI, stripG, chkT, tagsB, tagsL, tagD, addT, tagA, lookN, tagOp, elmT, ty24, ty25, ty26, ty27, ty28, ty34, ty35, ty36, ty37, ty59, ty61, ty64, ty100, Nat.reduceEqDiff, if_false, reduceIte, Option.getD_some, Option.getD_none, dstAt, dstOk, Nat.reduceLT, decide_true, if_true]
  simp [inRange]
  all_goals (refine hQ _ _ _ (by simp) ?_)
  all_goals (clear hQ; simp [Tryz.f141])

theorem isSide (H : Heap) (n : Int) : run env 140 [.int n] H = some (.bool (decide (n = 0) || decide (n = 1)), H) := by
  refine run_walk ok140 Tryz.func140 rfl (by simp [Tryz.f140]) fun Q hQ => ?_
  simp only [Tryz.f140, strip, stripL, stripI, stripG, chkT, tagsB, tagsL, tagD, addT, tagA, lookN, tagOp, elmT, ty24, ty25, ty26, ty27, ty28, ty34, ty35, ty36, ty37, ty59, ty61, ty64, ty100, Nat.reduceEqDiff, if_false, reduceIte, Option.getD_some, Option.getD_none, dstAt, dstOk, Nat.reduceLT, decide_true, if_true]
  simp
  repeat' (first | (refine gdL_t (fun h => ?_) (fun h => ?_) <;> simp [h]) | (refine gdL_f (fun h => ?_) (fun h => ?_) <;> simp [h]) | (refine selS_intro (fun h => ?_) (fun h => ?_) <;> simp [h]))
  all_goals (refine hQ _ _ _ (by simp) ?_)
  all_goals (clear hQ; simp_all [Tryz.f140] <;> omega)

theorem isPort (H : Heap) (n : Int) : run env 153 [.int n] H = some (.bool (decide (0 ≤ n) && decide (n ≤ 3)), H) := by
  refine run_walk ok153 Tryz.func153 rfl (by simp [Tryz.f153]) fun Q hQ => ?_
  simp only [Tryz.f153, strip, stripL, stripI, stripG, chkT, tagsB, tagsL, tagD, addT, tagA, lookN, tagOp, elmT, ty24, ty25, ty26, ty27, ty28, ty34, ty35, ty36, ty37, ty59, ty61, ty64, ty100, Nat.reduceEqDiff, if_false, reduceIte, Option.getD_some, Option.getD_none, dstAt, dstOk, Nat.reduceLT, decide_true, if_true]
  simp [inRange]
  all_goals (refine hQ _ _ _ (by simp) ?_)
  all_goals (clear hQ; simp [Tryz.f153])

theorem isHops (H : Heap) (n : Int) : run env 155 [.int n] H = some (.bool (decide (0 ≤ n) && decide (n ≤ 8)), H) := by
  refine run_walk ok155 Tryz.func155 rfl (by simp [Tryz.f155]) fun Q hQ => ?_
  simp only [Tryz.f155, strip, stripL, stripI, stripG, chkT, tagsB, tagsL, tagD, addT, tagA, lookN, tagOp, elmT, ty24, ty25, ty26, ty27, ty28, ty34, ty35, ty36, ty37, ty59, ty61, ty64, ty100, Nat.reduceEqDiff, if_false, reduceIte, Option.getD_some, Option.getD_none, dstAt, dstOk, Nat.reduceLT, decide_true, if_true]
  simp [inRange]
  all_goals (refine hQ _ _ _ (by simp) ?_)
  all_goals (clear hQ; simp [Tryz.f155])

structure Vec where
  root : Int
  cost : Int
  bridge : Int
  port : Int
  deriving DecidableEq, Inhabited
def Vec.enc (x : Vec) : List Lf := [.i .i64 x.root, .i .i64 x.cost, .i .i64 x.bridge, .i .i64 x.port]
@[simp] theorem Vec.enc_len (x : Vec) : x.enc.length = 4 := rfl
@[simp] theorem Vec.enc_take (x : Vec) : List.take 4 x.enc = x.enc := rfl
@[simp] theorem Vec.enc_drop (x : Vec) : List.drop 4 x.enc = [] := rfl
abbrev Vec.z : List Lf := [.i .i64 0, .i .i64 0, .i .i64 0, .i .i64 0]
abbrev Vec.zv : Vec := ⟨0, 0, 0, 0⟩
theorem Vec.enc_inj {x y : Vec} (h : x.enc = y.enc) : x = y := by
  obtain ⟨_, _, _, _⟩ := x
  obtain ⟨_, _, _, _⟩ := y
  simp [Vec.enc] at h
  simp_all
def Vec.mk' (k : Int) : Vec := ⟨k, k + 1, k + 2, k + 3⟩
theorem Vec.mk'_of {y : Vec} {c : Int} (h0 : y.root = c) (h1 : y.cost = c + 1) (h2 : y.bridge = c + 2) (h3 : y.port = c + 3) : y = Vec.mk' c := by
  rcases y with ⟨w0, v1, v2, v3⟩
  simp only at h0 h1 h2 h3
  subst h0 h1 h2 h3
  rfl

theorem toVec (H : Heap) (x : Vec) : run env 105 [.agg x.enc] H = some (.agg x.enc, H) := by
  refine run_walk ok105 Tryz.func105 rfl (by simp [Tryz.f105]) fun Q hQ => ?_
  simp only [Tryz.f105, strip, stripL, stripI, stripG, chkT, tagsB, tagsL, tagD, addT, tagA, lookN, tagOp, elmT, ty24, ty25, ty26, ty27, ty28, ty34, ty35, ty36, ty37, ty59, ty61, ty64, ty100, Nat.reduceEqDiff, if_false, reduceIte, Option.getD_some, Option.getD_none, dstAt, dstOk, Nat.reduceLT, decide_true, if_true]
  simp [Vec.enc]
  all_goals (refine hQ _ _ _ (by simp) ?_)
  all_goals (clear hQ; simp [Tryz.f105, Vec.enc])

theorem eqVec (H : Heap) (x y : Vec) : run env 130 [.agg x.enc, .agg y.enc] H = some (.bool (decide (x = y)), H) := by
  obtain ⟨a0, a1, a2, a3⟩ := x
  obtain ⟨b0, b1, b2, b3⟩ := y
  refine run_walk ok130 Tryz.func130 rfl (by simp [Tryz.f130]) fun Q hQ => ?_
  simp only [Tryz.f130, strip, stripL, stripI, stripG, chkT, tagsB, tagsL, tagD, addT, tagA, lookN, tagOp, elmT, ty24, ty25, ty26, ty27, ty28, ty34, ty35, ty36, ty37, ty59, ty61, ty64, ty100, Nat.reduceEqDiff, if_false, reduceIte, Option.getD_some, Option.getD_none, dstAt, dstOk, Nat.reduceLT, decide_true, if_true]
  simp [Vec.enc]
  repeat' (first | (refine gdL_t (fun h => ?_) (fun h => ?_) <;> simp [h]) | (refine gdL_f (fun h => ?_) (fun h => ?_) <;> simp [h]) | (refine selS_intro (fun h => ?_) (fun h => ?_) <;> simp [h]))
  all_goals (refine hQ _ _ _ (by simp) ?_)
  all_goals (clear hQ; simp_all [Tryz.f130])

theorem shpVec {H : Heap} {k : Nat} {l : List Lf} (h : Shp Tryz.prog H (k + 2) 44 l) : ∃ x : Vec, l = x.enc := by
  obtain ⟨_, _, rfl, h0, _, _, rfl, h1, _, _, rfl, h2, _, _, rfl, h3, rfl⟩ := h.struct Tryz.underlying44
  obtain ⟨a0, rfl, -⟩ := h0.i64 Tryz.underlying3
  obtain ⟨a1, rfl, -⟩ := h1.i64 Tryz.underlying3
  obtain ⟨a2, rfl, -⟩ := h2.i64 Tryz.underlying3
  obtain ⟨a3, rfl, -⟩ := h3.i64 Tryz.underlying3
  exact ⟨⟨a0, a1, a2, a3⟩, rfl⟩

structure Port where
  up : Bool
  has : Bool
  vec : Vec
  hops : Int
  left : Int
  role : Int
  wait : Int
  opn : Bool
  deriving DecidableEq, Inhabited
def Port.enc (x : Port) : List Lf := [.b x.up, .b x.has, .i .i64 x.vec.root, .i .i64 x.vec.cost, .i .i64 x.vec.bridge, .i .i64 x.vec.port, .i .i64 x.hops, .i .i64 x.left, .i .i64 x.role, .i .i64 x.wait, .b x.opn]
@[simp] theorem Port.enc_len (x : Port) : x.enc.length = 11 := rfl
@[simp] theorem Port.enc_take (x : Port) : List.take 11 x.enc = x.enc := rfl
@[simp] theorem Port.enc_drop (x : Port) : List.drop 11 x.enc = [] := rfl
abbrev Port.z : List Lf := [.b false, .b false, .i .i64 0, .i .i64 0, .i .i64 0, .i .i64 0, .i .i64 0, .i .i64 0, .i .i64 0, .i .i64 0, .b false]
abbrev Port.zv : Port := ⟨false, false, ⟨0, 0, 0, 0⟩, 0, 0, 0, 0, false⟩
theorem Port.enc_inj {x y : Port} (h : x.enc = y.enc) : x = y := by
  rcases x with ⟨v0, v1, ⟨v2_0, v2_1, v2_2, v2_3⟩, v3, v4, v5, v6, v7⟩
  rcases y with ⟨w0, v1, ⟨v2_0, v2_1, v2_2, v2_3⟩, v3, v4, v5, v6, v7⟩
  simp [Port.enc] at h
  simp_all
def Port.mk' (k : Int) : Port := ⟨decide ((k).tmod 3 = 0), decide ((k + 1).tmod 3 = 0), ⟨k + 2, k + 3, k + 4, k + 5⟩, k + 6, k + 7, k + 8, k + 9, decide ((k + 10).tmod 3 = 0)⟩
theorem Port.mk'_of {y : Port} {c : Int} (h0 : y.up = decide ((c).tmod 3 = 0)) (h1 : y.has = decide ((c + 1).tmod 3 = 0)) (h2 : y.vec.root = c + 2) (h3 : y.vec.cost = c + 3) (h4 : y.vec.bridge = c + 4) (h5 : y.vec.port = c + 5) (h6 : y.hops = c + 6) (h7 : y.left = c + 7) (h8 : y.role = c + 8) (h9 : y.wait = c + 9) (h10 : y.opn = decide ((c + 10).tmod 3 = 0)) : y = Port.mk' c := by
  rcases y with ⟨w0, v1, ⟨v2_0, v2_1, v2_2, v2_3⟩, v3, v4, v5, v6, v7⟩
  simp only at h0 h1 h2 h3 h4 h5 h6 h7 h8 h9 h10
  subst h0 h1 h2 h3 h4 h5 h6 h7 h8 h9 h10
  rfl

structure In where
  kind : Int
  port : Int
  vec : Vec
  hops : Int
  up : Bool
  deriving DecidableEq, Inhabited
def In.enc (x : In) : List Lf := [.i .i64 x.kind, .i .i64 x.port, .i .i64 x.vec.root, .i .i64 x.vec.cost, .i .i64 x.vec.bridge, .i .i64 x.vec.port, .i .i64 x.hops, .b x.up]
@[simp] theorem In.enc_len (x : In) : x.enc.length = 8 := rfl
@[simp] theorem In.enc_take (x : In) : List.take 8 x.enc = x.enc := rfl
@[simp] theorem In.enc_drop (x : In) : List.drop 8 x.enc = [] := rfl
abbrev In.z : List Lf := [.i .i64 0, .i .i64 0, .i .i64 0, .i .i64 0, .i .i64 0, .i .i64 0, .i .i64 0, .b false]
abbrev In.zv : In := ⟨0, 0, ⟨0, 0, 0, 0⟩, 0, false⟩
theorem In.enc_inj {x y : In} (h : x.enc = y.enc) : x = y := by
  rcases x with ⟨v0, v1, ⟨v2_0, v2_1, v2_2, v2_3⟩, v3, v4⟩
  rcases y with ⟨w0, v1, ⟨v2_0, v2_1, v2_2, v2_3⟩, v3, v4⟩
  simp [In.enc] at h
  simp_all
def In.mk' (k : Int) : In := ⟨k, k + 1, ⟨k + 2, k + 3, k + 4, k + 5⟩, k + 6, decide ((k + 7).tmod 3 = 0)⟩
theorem In.mk'_of {y : In} {c : Int} (h0 : y.kind = c) (h1 : y.port = c + 1) (h2 : y.vec.root = c + 2) (h3 : y.vec.cost = c + 3) (h4 : y.vec.bridge = c + 4) (h5 : y.vec.port = c + 5) (h6 : y.hops = c + 6) (h7 : y.up = decide ((c + 7).tmod 3 = 0)) : y = In.mk' c := by
  rcases y with ⟨w0, v1, ⟨v2_0, v2_1, v2_2, v2_3⟩, v3, v4⟩
  simp only at h0 h1 h2 h3 h4 h5 h6 h7
  subst h0 h1 h2 h3 h4 h5 h6 h7
  rfl

theorem toIn (H : Heap) (x : In) : run env 52 [.agg x.enc] H = some (.agg x.enc, H) := by
  refine run_walk ok52 Tryz.func52 rfl (by simp [Tryz.f52]) fun Q hQ => ?_
  simp only [Tryz.f52, strip, stripL, stripI, stripG, chkT, tagsB, tagsL, tagD, addT, tagA, lookN, tagOp, elmT, ty24, ty25, ty26, ty27, ty28, ty34, ty35, ty36, ty37, ty59, ty61, ty64, ty100, Nat.reduceEqDiff, if_false, reduceIte, Option.getD_some, Option.getD_none, dstAt, dstOk, Nat.reduceLT, decide_true, if_true]
  have e0 := fun H => toVec H x.vec
  simp only [Vec.enc] at e0
  simp [In.enc, e0]
  all_goals (refine hQ _ _ _ (by simp) ?_)
  all_goals (clear hQ; simp [Tryz.f52, In.enc])

theorem eqIn (H : Heap) (x y : In) : run env 92 [.agg x.enc, .agg y.enc] H = some (.bool (decide (x = y)), H) := by
  have e0 := fun H => eqVec H x.vec y.vec
  obtain ⟨a0, a1, a2, a3, a4⟩ := x
  obtain ⟨b0, b1, b2, b3, b4⟩ := y
  simp only [Vec.enc] at e0
  refine run_walk ok92 Tryz.func92 rfl (by simp [Tryz.f92]) fun Q hQ => ?_
  simp only [Tryz.f92, strip, stripL, stripI, stripG, chkT, tagsB, tagsL, tagD, addT, tagA, lookN, tagOp, elmT, ty24, ty25, ty26, ty27, ty28, ty34, ty35, ty36, ty37, ty59, ty61, ty64, ty100, Nat.reduceEqDiff, if_false, reduceIte, Option.getD_some, Option.getD_none, dstAt, dstOk, Nat.reduceLT, decide_true, if_true]
  simp [In.enc]
  repeat' (first | (refine gdL_t (fun h => ?_) (fun h => ?_) <;> simp [h, e0]) | (refine gdL_f (fun h => ?_) (fun h => ?_) <;> simp [h, e0]) | (refine selS_intro (fun h => ?_) (fun h => ?_) <;> simp [h, e0]))
  all_goals (refine hQ _ _ _ (by simp) ?_)
  all_goals (clear hQ; simp_all [Tryz.f92])

theorem shpIn {H : Heap} {k : Nat} {l : List Lf} (h : Shp Tryz.prog H (k + 3) 46 l) : ∃ x : In, l = x.enc := by
  obtain ⟨_, _, rfl, h0, _, _, rfl, h1, _, _, rfl, h2, _, _, rfl, h3, _, _, rfl, h4, rfl⟩ := h.struct Tryz.underlying46
  obtain ⟨a0, rfl, -⟩ := h0.i64 Tryz.underlying3
  obtain ⟨a1, rfl, -⟩ := h1.i64 Tryz.underlying3
  obtain ⟨a2, rfl⟩ := shpVec h2
  obtain ⟨a3, rfl, -⟩ := h3.i64 Tryz.underlying3
  obtain ⟨a4, rfl⟩ := h4.bool Tryz.underlying4
  exact ⟨⟨a0, a1, a2, a3, a4⟩, rfl⟩

structure Out where
  kind : Int
  port : Int
  vec : Vec
  hops : Int
  on : Bool
  deriving DecidableEq, Inhabited
def Out.enc (x : Out) : List Lf := [.i .i64 x.kind, .i .i64 x.port, .i .i64 x.vec.root, .i .i64 x.vec.cost, .i .i64 x.vec.bridge, .i .i64 x.vec.port, .i .i64 x.hops, .b x.on]
@[simp] theorem Out.enc_len (x : Out) : x.enc.length = 8 := rfl
@[simp] theorem Out.enc_take (x : Out) : List.take 8 x.enc = x.enc := rfl
@[simp] theorem Out.enc_drop (x : Out) : List.drop 8 x.enc = [] := rfl
abbrev Out.z : List Lf := [.i .i64 0, .i .i64 0, .i .i64 0, .i .i64 0, .i .i64 0, .i .i64 0, .i .i64 0, .b false]
abbrev Out.zv : Out := ⟨0, 0, ⟨0, 0, 0, 0⟩, 0, false⟩
theorem Out.enc_inj {x y : Out} (h : x.enc = y.enc) : x = y := by
  rcases x with ⟨v0, v1, ⟨v2_0, v2_1, v2_2, v2_3⟩, v3, v4⟩
  rcases y with ⟨w0, v1, ⟨v2_0, v2_1, v2_2, v2_3⟩, v3, v4⟩
  simp [Out.enc] at h
  simp_all
def Out.mk' (k : Int) : Out := ⟨k, k + 1, ⟨k + 2, k + 3, k + 4, k + 5⟩, k + 6, decide ((k + 7).tmod 3 = 0)⟩
theorem Out.mk'_of {y : Out} {c : Int} (h0 : y.kind = c) (h1 : y.port = c + 1) (h2 : y.vec.root = c + 2) (h3 : y.vec.cost = c + 3) (h4 : y.vec.bridge = c + 4) (h5 : y.vec.port = c + 5) (h6 : y.hops = c + 6) (h7 : y.on = decide ((c + 7).tmod 3 = 0)) : y = Out.mk' c := by
  rcases y with ⟨w0, v1, ⟨v2_0, v2_1, v2_2, v2_3⟩, v3, v4⟩
  simp only at h0 h1 h2 h3 h4 h5 h6 h7
  subst h0 h1 h2 h3 h4 h5 h6 h7
  rfl

theorem toOut (H : Heap) (x : Out) : run env 78 [.agg x.enc] H = some (.agg x.enc, H) := by
  refine run_walk ok78 Tryz.func78 rfl (by simp [Tryz.f78]) fun Q hQ => ?_
  simp only [Tryz.f78, strip, stripL, stripI, stripG, chkT, tagsB, tagsL, tagD, addT, tagA, lookN, tagOp, elmT, ty24, ty25, ty26, ty27, ty28, ty34, ty35, ty36, ty37, ty59, ty61, ty64, ty100, Nat.reduceEqDiff, if_false, reduceIte, Option.getD_some, Option.getD_none, dstAt, dstOk, Nat.reduceLT, decide_true, if_true]
  have e0 := fun H => toVec H x.vec
  simp only [Vec.enc] at e0
  simp [Out.enc, e0]
  all_goals (refine hQ _ _ _ (by simp) ?_)
  all_goals (clear hQ; simp [Tryz.f78, Out.enc])

theorem eqOut (H : Heap) (x y : Out) : run env 93 [.agg x.enc, .agg y.enc] H = some (.bool (decide (x = y)), H) := by
  have e0 := fun H => eqVec H x.vec y.vec
  obtain ⟨a0, a1, a2, a3, a4⟩ := x
  obtain ⟨b0, b1, b2, b3, b4⟩ := y
  simp only [Vec.enc] at e0
  refine run_walk ok93 Tryz.func93 rfl (by simp [Tryz.f93]) fun Q hQ => ?_
  simp only [Tryz.f93, strip, stripL, stripI, stripG, chkT, tagsB, tagsL, tagD, addT, tagA, lookN, tagOp, elmT, ty24, ty25, ty26, ty27, ty28, ty34, ty35, ty36, ty37, ty59, ty61, ty64, ty100, Nat.reduceEqDiff, if_false, reduceIte, Option.getD_some, Option.getD_none, dstAt, dstOk, Nat.reduceLT, decide_true, if_true]
  simp [Out.enc]
  repeat' (first | (refine gdL_t (fun h => ?_) (fun h => ?_) <;> simp [h, e0]) | (refine gdL_f (fun h => ?_) (fun h => ?_) <;> simp [h, e0]) | (refine selS_intro (fun h => ?_) (fun h => ?_) <;> simp [h, e0]))
  all_goals (refine hQ _ _ _ (by simp) ?_)
  all_goals (clear hQ; simp_all [Tryz.f93])

theorem shpOut {H : Heap} {k : Nat} {l : List Lf} (h : Shp Tryz.prog H (k + 3) 121 l) : ∃ x : Out, l = x.enc := by
  obtain ⟨_, _, rfl, h0, _, _, rfl, h1, _, _, rfl, h2, _, _, rfl, h3, _, _, rfl, h4, rfl⟩ := h.struct Tryz.underlying121
  obtain ⟨a0, rfl, -⟩ := h0.i64 Tryz.underlying3
  obtain ⟨a1, rfl, -⟩ := h1.i64 Tryz.underlying3
  obtain ⟨a2, rfl⟩ := shpVec h2
  obtain ⟨a3, rfl, -⟩ := h3.i64 Tryz.underlying3
  obtain ⟨a4, rfl⟩ := h4.bool Tryz.underlying4
  exact ⟨⟨a0, a1, a2, a3, a4⟩, rfl⟩

structure Reg where
  epoch : Int
  owner : Int
  pair : Int
  deriving DecidableEq, Inhabited
def Reg.enc (x : Reg) : List Lf := [.i .i64 x.epoch, .i .i64 x.owner, .i .i64 x.pair]
@[simp] theorem Reg.enc_len (x : Reg) : x.enc.length = 3 := rfl
@[simp] theorem Reg.enc_take (x : Reg) : List.take 3 x.enc = x.enc := rfl
@[simp] theorem Reg.enc_drop (x : Reg) : List.drop 3 x.enc = [] := rfl
abbrev Reg.z : List Lf := [.i .i64 0, .i .i64 0, .i .i64 0]
abbrev Reg.zv : Reg := ⟨0, 0, 0⟩
theorem Reg.enc_inj {x y : Reg} (h : x.enc = y.enc) : x = y := by
  obtain ⟨_, _, _⟩ := x
  obtain ⟨_, _, _⟩ := y
  simp [Reg.enc] at h
  simp_all
def Reg.mk' (k : Int) : Reg := ⟨k, k + 1, k + 2⟩
theorem Reg.mk'_of {y : Reg} {c : Int} (h0 : y.epoch = c) (h1 : y.owner = c + 1) (h2 : y.pair = c + 2) : y = Reg.mk' c := by
  rcases y with ⟨w0, v1, v2⟩
  simp only at h0 h1 h2
  subst h0 h1 h2
  rfl

theorem toReg (H : Heap) (x : Reg) : run env 33 [.agg x.enc] H = some (.agg x.enc, H) := by
  refine run_walk ok33 Tryz.func33 rfl (by simp [Tryz.f33]) fun Q hQ => ?_
  simp only [Tryz.f33, strip, stripL, stripI, stripG, chkT, tagsB, tagsL, tagD, addT, tagA, lookN, tagOp, elmT, ty24, ty25, ty26, ty27, ty28, ty34, ty35, ty36, ty37, ty59, ty61, ty64, ty100, Nat.reduceEqDiff, if_false, reduceIte, Option.getD_some, Option.getD_none, dstAt, dstOk, Nat.reduceLT, decide_true, if_true]
  simp [Reg.enc]
  all_goals (refine hQ _ _ _ (by simp) ?_)
  all_goals (clear hQ; simp [Tryz.f33, Reg.enc])

theorem eqReg (H : Heap) (x y : Reg) : run env 42 [.agg x.enc, .agg y.enc] H = some (.bool (decide (x = y)), H) := by
  obtain ⟨a0, a1, a2⟩ := x
  obtain ⟨b0, b1, b2⟩ := y
  refine run_walk ok42 Tryz.func42 rfl (by simp [Tryz.f42]) fun Q hQ => ?_
  simp only [Tryz.f42, strip, stripL, stripI, stripG, chkT, tagsB, tagsL, tagD, addT, tagA, lookN, tagOp, elmT, ty24, ty25, ty26, ty27, ty28, ty34, ty35, ty36, ty37, ty59, ty61, ty64, ty100, Nat.reduceEqDiff, if_false, reduceIte, Option.getD_some, Option.getD_none, dstAt, dstOk, Nat.reduceLT, decide_true, if_true]
  simp [Reg.enc]
  repeat' (first | (refine gdL_t (fun h => ?_) (fun h => ?_) <;> simp [h]) | (refine gdL_f (fun h => ?_) (fun h => ?_) <;> simp [h]) | (refine selS_intro (fun h => ?_) (fun h => ?_) <;> simp [h]))
  all_goals (refine hQ _ _ _ (by simp) ?_)
  all_goals (clear hQ; simp_all [Tryz.f42])

theorem shpReg {H : Heap} {k : Nat} {l : List Lf} (h : Shp Tryz.prog H (k + 2) 23 l) : ∃ x : Reg, l = x.enc := by
  obtain ⟨_, _, rfl, h0, _, _, rfl, h1, _, _, rfl, h2, rfl⟩ := h.struct Tryz.underlying23
  obtain ⟨a0, rfl, -⟩ := h0.i64 Tryz.underlying3
  obtain ⟨a1, rfl, -⟩ := h1.i64 Tryz.underlying3
  obtain ⟨a2, rfl, -⟩ := h2.i64 Tryz.underlying3
  exact ⟨⟨a0, a1, a2⟩, rfl⟩

structure Wire where
  frm : Int
  ack : Bool
  life : Int
  n : Int
  inn : In
  deriving DecidableEq, Inhabited
def Wire.enc (x : Wire) : List Lf := [.i .i64 x.frm, .b x.ack, .i .i64 x.life, .i .i64 x.n, .i .i64 x.inn.kind, .i .i64 x.inn.port, .i .i64 x.inn.vec.root, .i .i64 x.inn.vec.cost, .i .i64 x.inn.vec.bridge, .i .i64 x.inn.vec.port, .i .i64 x.inn.hops, .b x.inn.up]
@[simp] theorem Wire.enc_len (x : Wire) : x.enc.length = 12 := rfl
@[simp] theorem Wire.enc_take (x : Wire) : List.take 12 x.enc = x.enc := rfl
@[simp] theorem Wire.enc_drop (x : Wire) : List.drop 12 x.enc = [] := rfl
abbrev Wire.z : List Lf := [.i .i64 0, .b false, .i .i64 0, .i .i64 0, .i .i64 0, .i .i64 0, .i .i64 0, .i .i64 0, .i .i64 0, .i .i64 0, .i .i64 0, .b false]
abbrev Wire.zv : Wire := ⟨0, false, 0, 0, ⟨0, 0, ⟨0, 0, 0, 0⟩, 0, false⟩⟩
theorem Wire.enc_inj {x y : Wire} (h : x.enc = y.enc) : x = y := by
  rcases x with ⟨v0, v1, v2, v3, ⟨v4_0, v4_1, ⟨v4_2_0, v4_2_1, v4_2_2, v4_2_3⟩, v4_3, v4_4⟩⟩
  rcases y with ⟨w0, v1, v2, v3, ⟨v4_0, v4_1, ⟨v4_2_0, v4_2_1, v4_2_2, v4_2_3⟩, v4_3, v4_4⟩⟩
  simp [Wire.enc] at h
  simp_all
def Wire.mk' (k : Int) : Wire := ⟨k, decide ((k + 1).tmod 3 = 0), k + 2, k + 3, ⟨k + 4, k + 5, ⟨k + 6, k + 7, k + 8, k + 9⟩, k + 10, decide ((k + 11).tmod 3 = 0)⟩⟩
theorem Wire.mk'_of {y : Wire} {c : Int} (h0 : y.frm = c) (h1 : y.ack = decide ((c + 1).tmod 3 = 0)) (h2 : y.life = c + 2) (h3 : y.n = c + 3) (h4 : y.inn.kind = c + 4) (h5 : y.inn.port = c + 5) (h6 : y.inn.vec.root = c + 6) (h7 : y.inn.vec.cost = c + 7) (h8 : y.inn.vec.bridge = c + 8) (h9 : y.inn.vec.port = c + 9) (h10 : y.inn.hops = c + 10) (h11 : y.inn.up = decide ((c + 11).tmod 3 = 0)) : y = Wire.mk' c := by
  rcases y with ⟨w0, v1, v2, v3, ⟨v4_0, v4_1, ⟨v4_2_0, v4_2_1, v4_2_2, v4_2_3⟩, v4_3, v4_4⟩⟩
  simp only at h0 h1 h2 h3 h4 h5 h6 h7 h8 h9 h10 h11
  subst h0 h1 h2 h3 h4 h5 h6 h7 h8 h9 h10 h11
  rfl

theorem toWire (H : Heap) (x : Wire) : run env 77 [.agg x.enc] H = some (.agg x.enc, H) := by
  refine run_walk ok77 Tryz.func77 rfl (by simp [Tryz.f77]) fun Q hQ => ?_
  simp only [Tryz.f77, strip, stripL, stripI, stripG, chkT, tagsB, tagsL, tagD, addT, tagA, lookN, tagOp, elmT, ty24, ty25, ty26, ty27, ty28, ty34, ty35, ty36, ty37, ty59, ty61, ty64, ty100, Nat.reduceEqDiff, if_false, reduceIte, Option.getD_some, Option.getD_none, dstAt, dstOk, Nat.reduceLT, decide_true, if_true]
  have e0 := fun H => toIn H x.inn
  simp only [In.enc] at e0
  simp [Wire.enc, e0]
  all_goals (refine hQ _ _ _ (by simp) ?_)
  all_goals (clear hQ; simp [Tryz.f77, Wire.enc])

theorem eqWire (H : Heap) (x y : Wire) : run env 91 [.agg x.enc, .agg y.enc] H = some (.bool (decide (x = y)), H) := by
  have e0 := fun H => eqIn H x.inn y.inn
  obtain ⟨a0, a1, a2, a3, a4⟩ := x
  obtain ⟨b0, b1, b2, b3, b4⟩ := y
  simp only [In.enc] at e0
  refine run_walk ok91 Tryz.func91 rfl (by simp [Tryz.f91]) fun Q hQ => ?_
  simp only [Tryz.f91, strip, stripL, stripI, stripG, chkT, tagsB, tagsL, tagD, addT, tagA, lookN, tagOp, elmT, ty24, ty25, ty26, ty27, ty28, ty34, ty35, ty36, ty37, ty59, ty61, ty64, ty100, Nat.reduceEqDiff, if_false, reduceIte, Option.getD_some, Option.getD_none, dstAt, dstOk, Nat.reduceLT, decide_true, if_true]
  simp [Wire.enc]
  repeat' (first | (refine gdL_t (fun h => ?_) (fun h => ?_) <;> simp [h, e0]) | (refine gdL_f (fun h => ?_) (fun h => ?_) <;> simp [h, e0]) | (refine selS_intro (fun h => ?_) (fun h => ?_) <;> simp [h, e0]))
  all_goals (refine hQ _ _ _ (by simp) ?_)
  all_goals (clear hQ; simp_all [Tryz.f91])

theorem shpWire {H : Heap} {k : Nat} {l : List Lf} (h : Shp Tryz.prog H (k + 4) 118 l) : ∃ x : Wire, l = x.enc := by
  obtain ⟨_, _, rfl, h0, _, _, rfl, h1, _, _, rfl, h2, _, _, rfl, h3, _, _, rfl, h4, rfl⟩ := h.struct Tryz.underlying118
  obtain ⟨a0, rfl, -⟩ := h0.i64 Tryz.underlying3
  obtain ⟨a1, rfl⟩ := h1.bool Tryz.underlying4
  obtain ⟨a2, rfl, -⟩ := h2.i64 Tryz.underlying3
  obtain ⟨a3, rfl, -⟩ := h3.i64 Tryz.underlying3
  obtain ⟨a4, rfl⟩ := shpIn h4
  exact ⟨⟨a0, a1, a2, a3, a4⟩, rfl⟩

def encB (x : Bool) : List Lf := [.b x]
@[simp] theorem encB_len (x : Bool) : (encB x).length = 1 := rfl
@[simp] theorem encB_take (x : Bool) : List.take 1 (encB x) = [.b x] := rfl
def mkB (k : Int) : Bool := decide (k.tmod 3 = 0)
theorem encB_inj {x y : Bool} (h : encB x = encB y) : x = y := by simpa [encB] using h

def encI (x : Int) : List Lf := [.i .i64 x]
@[simp] theorem encI_len (x : Int) : (encI x).length = 1 := rfl
@[simp] theorem encI_take (x : Int) : List.take 1 (encI x) = [.i .i64 x] := rfl
def mkI (k : Int) : Int := k
theorem encI_inj {x y : Int} (h : encI x = encI y) : x = y := by simpa [encI] using h

theorem toBoolS (H : Heap) (a : Option (Nat × Nat)) (xs : List Bool) (h : Sl H 4 a (xs.map encB)) (hn : xs.length ≤ 1048576) :
    run env 36 [.w (.lf (.sl a xs.length))] H = some (.sl H.length 0 xs.length, H ++ [some ⟨4, .wr, xs.map encB⟩]) := by
  refine run_walk ok36 Tryz.func36 rfl (by simp [Tryz.f36]) fun Q hQ => ?_
  simp only [Tryz.f36, strip, stripL, stripI, stripG, chkT, tagsB, tagsL, tagD, addT, tagA, lookN, tagOp, elmT, ty24, ty25, ty26, ty27, ty28, ty34, ty35, ty36, ty37, ty59, ty61, ty64, ty100, Nat.reduceEqDiff, if_false, reduceIte, Option.getD_some, Option.getD_none, dstAt, dstOk, Nat.reduceLT, decide_true, if_true]
  have k1 : (xs.length : Int) * 1 ≤ 281474976710656 := by omega
  have k2 : (xs.length : Int) ≤ 9223372036854775807 := by omega
  have k3 : (xs.length : Int) ≤ 281474976710656 := by omega
  simp [builtinV, pureB, lenV, makeSliceV, makeSliceR, newBlk, k1, k2, k3]
  refine wpS_loop (fun j tm H' => ∃ i, i + j = xs.length ∧ tm 0 = .w (.lf (.sl a xs.length)) ∧ tm 3 = .sl H.length 0 xs.length ∧ tm 4 = .int i ∧ H' = H ++ [some ⟨4, .wr, fillR (xs.map encB) [.b false] i j⟩]) xs.length (by rw [env_K]; omega) ⟨0, by simp, by simp, by simp, by simp, by rw [fillR_zero _ _ (by simp)]⟩ ?_
  rintro j tm H' hj ⟨i, hij, h0, h3, h4, rfl⟩ Q' hn' he' hr'
  simp [h0, h3, h4, builtinV, pureB, lenV]
  refine selS_intro (fun hc => ?_) (fun hc => ?_)
  · simp at hc
    obtain ⟨j, rfl⟩ : ∃ j', j = j' + 1 := ⟨j - 1, by omega⟩
    obtain ⟨id, r, b, rfl, hb, hbe, hrow⟩ := h i _ (by simp [hc]; rfl)
    have hid := blkAt_len hb
    have g2 := fillR_get (ys := xs.map encB) (z := [.b false]) (i := i) (j := j) (by simpa using hij)
    have g3 := fillR_set (ys := xs.map encB) (z := [.b false]) (i := i) (j := j) (y := encB xs[i]) (by simpa using hij) (by simp [hc])
    have g4 : IntKind.i64.wrap ((i : Int) + 1) = (i : Int) + 1 := wrap64 (by omega) (by omega)
    simp [h0, h3, h4, indexAddrV, elemIs, hid, hb, hbe, hc, hrow, g2, g3, g4]
    exact hn' j _ _ (by omega) ⟨i + 1, by omega, by simp [h0], by simp [h3], by simp, by simpa [encB] using congrArg (fun r => H ++ [some (⟨4, .wr, r⟩ : Blk)]) g3⟩
  · simp at hc
    have hj0 : j = 0 := by omega
    subst hj0
    simp [h0, h3, h4]
    refine he' _ _ _ ?_
    simp [h3]
    refine hQ _ _ _ (by simp) ?_
    simp [Tryz.f36, leave, fillR_done (ys := xs.map encB) (i := i) (z := [.b false]) (by simpa using hij), refFree]

theorem szBoolS (H : Heap) (a : Option (Nat × Nat)) (n : Nat) (left : Int) (h1 : 0 ≤ left) (h2 : left ≤ 1048576) (h3 : n ≤ maxLen) :
    run env 27 [.w (.lf (.sl a n)), .int left] H = some (.int (if left < n then -1 else left - n), H) := by
  have hm : (n : Int) ≤ 9223372036854775807 := by unfold maxLen at h3; omega
  refine run_walk ok27 Tryz.func27 rfl (by simp [Tryz.f27]) fun Q hQ => ?_
  simp only [Tryz.f27, strip, stripL, stripI, stripG, chkT, tagsB, tagsL, tagD, addT, tagA, lookN, tagOp, elmT, ty24, ty25, ty26, ty27, ty28, ty34, ty35, ty36, ty37, ty59, ty61, ty64, ty100, Nat.reduceEqDiff, if_false, reduceIte, Option.getD_some, Option.getD_none, dstAt, dstOk, Nat.reduceLT, decide_true, if_true]
  have g : IntKind.i64.wrap (left - n) = left - n := wrap64 (by omega) (by omega)
  simp [builtinV, pureB, lenV, g]
  repeat' (first | (refine gdL_t (fun h => ?_) (fun h => ?_) <;> simp [h]) | (refine gdL_f (fun h => ?_) (fun h => ?_) <;> simp [h]) | (refine selS_intro (fun h => ?_) (fun h => ?_) <;> simp [h]))
  all_goals (refine hQ _ _ _ (by simp) ?_)
  all_goals (clear hQ; simp_all [Tryz.f27] <;> omega)

theorem eqBoolS (H : Heap) (a b : Option (Nat × Nat)) (xs ys : List Bool) (ha : Sl H 4 a (xs.map encB)) (hb : Sl H 4 b (ys.map encB)) (hn : xs.length ≤ 1048576) :
    run env 45 [.w (.lf (.sl a xs.length)), .w (.lf (.sl b ys.length))] H = some (.bool (decide (xs = ys)), H) := by
  refine run_walk ok45 Tryz.func45 rfl (by simp [Tryz.f45]) fun Q hQ => ?_
  simp only [Tryz.f45, strip, stripL, stripI, stripG, chkT, tagsB, tagsL, tagD, addT, tagA, lookN, tagOp, elmT, ty24, ty25, ty26, ty27, ty28, ty34, ty35, ty36, ty37, ty59, ty61, ty64, ty100, Nat.reduceEqDiff, if_false, reduceIte, Option.getD_some, Option.getD_none, dstAt, dstOk, Nat.reduceLT, decide_true, if_true]
  simp [builtinV, pureB, lenV]
  refine selS_intro (fun hl => ?_) (fun hl => ?_)
  · simp
    refine hQ _ _ _ (by simp) ?_
    simp at hl
    have : ¬ xs = ys := fun h => hl (by rw [h])
    simp [Tryz.f45, this]
  simp at hl
  simp
  refine wpS_loop (fun j tm H' => ∃ i, i + j = xs.length ∧ tm 0 = .w (.lf (.sl a xs.length)) ∧ tm 1 = .w (.lf (.sl b ys.length)) ∧ tm 5 = .int i ∧ H' = H ∧ xs.take i = ys.take i) xs.length (by rw [env_K]; omega) ⟨0, by simp, by simp, by simp, by simp, rfl, by simp⟩ ?_
  rintro j tm H' hj ⟨i, hij, h0, h1, h5, rfl, heq⟩ Q' hn' he' hr'
  simp [h0, h1, h5, builtinV, pureB, lenV]
  refine selS_intro (fun hc => ?_) (fun hc => ?_)
  · simp at hc
    have hc2 : i < ys.length := by omega
    obtain ⟨id, r, bl, rfl, hbl, hbe, hrow⟩ := ha i _ (by simp [hc]; rfl)
    obtain ⟨id2, r2, bl2, rfl, hbl2, hbe2, hrow2⟩ := hb i _ (by simp [hc2]; rfl)
    have g4 : IntKind.i64.wrap ((i : Int) + 1) = (i : Int) + 1 := wrap64 (by omega) (by omega)
    simp [h0, h1, h5, indexAddrV, elemIs, hbl, hbe, hbl2, hbe2, hc, hc2, hrow, hrow2, encB]
    refine selS_intro (fun hd => ?_) (fun hd => ?_)
    · simp
      refine hr' _ _ ?_
      simp
      refine hQ _ _ _ (by simp) ?_
      simp at hd
      have : ¬ xs = ys := fun h => by subst h; simp at hd
      simp [Tryz.f45, this]
    · simp at hd
      simp [h0, h1, h5, g4]
      exact hn' (j - 1) _ _ (by omega) ⟨i + 1, by omega, by simp [h0], by simp [h1], by simp, rfl, by rw [List.take_add_one, List.take_add_one, heq]; simp [hc, hc2, hd]⟩
  · simp at hc
    simp [h0, h1, h5]
    refine he' _ _ _ ?_
    simp
    refine hQ _ _ _ (by simp) ?_
    have : xs = ys := by
      rw [List.take_of_length_le (by omega), List.take_of_length_le (by omega)] at heq
      exact heq
    simp [Tryz.f45, this]

abbrev IsBoolS := IsSl 4 encB
abbrev RdBoolS := RdSl 4 encB
abbrev RdLBoolS := RdSl 4 encB
def BoolS.mk' (xs : List Bool) (k : Int) : List Bool := marked mkB 1 xs.length k
def BoolS.mkN (xs : List Bool) (k : Int) : Int := k + 1 * xs.length
def BoolS.hd (xs : List Bool) (k : Int) : Int := heldL mkB 1 xs k
theorem BoolS.hd_mk (xs : List Bool) (k : Int) : BoolS.hd (BoolS.mk' xs k) k = BoolS.mkN xs k := by simp [BoolS.hd, BoolS.mk', BoolS.mkN]
theorem BoolS.mk_sz (xs : List Bool) (k : Int) : (BoolS.mk' xs k).length = xs.length := by simp [BoolS.mk']
theorem BoolS.mkN_le {xs : List Bool} {k : Int} (h : xs.length ≤ 1048576) : k ≤ BoolS.mkN xs k ∧ BoolS.mkN xs k ≤ k + 1000000000 := by unfold BoolS.mkN; omega

theorem shpBoolS_is {H : Heap} {k : Nat} {l : List Lf} (h : Shp Tryz.prog H (k + 2) 26 l) : ∃ (q : Lf) (xs : List Bool), l = [q] ∧ RdLBoolS H q xs ∧ xs.length ≤ maxLen := by
  obtain ⟨xs, a, rfl, hs, hl, -⟩ := h.sl (f := encB) (R := fun _ => True) Tryz.underlying26 fun row hr => let ⟨x, hx⟩ := hr.bool Tryz.underlying4; ⟨x, hx, trivial⟩
  exact ⟨_, xs, rfl, ⟨a, rfl, hs⟩, hl⟩

theorem toBoolS_is {H : Heap} {q : Lf} {xs : List Bool} (h : RdLBoolS H q xs) (hn : xs.length ≤ 1048576) : Runs env 36 [.w (.lf q)] H fun v H' => ∃ q' fp, v = .w (.lf q') ∧ IsBoolS H' q' xs fp ∧ Fresh H H' fp := by
  obtain ⟨a, rfl, h⟩ := h
  exact .of (toBoolS H a xs h hn) ⟨_, _, rfl, ⟨_, rfl, Own.of (by simp)⟩, Fresh.app _ _ (by simp)⟩

theorem eqBoolS_is {H : Heap} {q r : Lf} {xs ys : List Bool} (h : RdBoolS H q xs) (h2 : RdBoolS H r ys) (hn : xs.length ≤ 1048576) : run env 45 [.w (.lf q), .w (.lf r)] H = some (.bool (decide (xs = ys)), H) := by
  obtain ⟨a, rfl, h⟩ := h
  obtain ⟨b, rfl, h2⟩ := h2
  exact eqBoolS H a b xs ys h h2 hn

theorem equalBoolS {H : Heap} {q r : Lf} {xs ys : List Bool} (h : RdBoolS H q xs) (h2 : RdBoolS H r ys) (hn : xs.length ≤ 1048576) : run env 79 [.w (.lf q), .w (.lf r)] H = some (.bool (decide (xs = ys)), H) := by
  obtain ⟨a, rfl, ha⟩ := h
  obtain ⟨b, rfl, hb⟩ := h2
  refine run_walk ok79 Tryz.func79 rfl (by simp [Tryz.f79]) fun Q hQ => ?_
  simp only [Tryz.f79, strip, stripL, stripI, stripG, chkT, tagsB, tagsL, tagD, addT, tagA, lookN, tagOp, elmT, ty24, ty25, ty26, ty27, ty28, ty34, ty35, ty36, ty37, ty59, ty61, ty64, ty100, Nat.reduceEqDiff, if_false, reduceIte, Option.getD_some, Option.getD_none, dstAt, dstOk, Nat.reduceLT, decide_true, if_true]
  simp [builtinV, pureB, lenV]
  refine selS_intro (fun hl => ?_) (fun hl => ?_)
  · simp
    refine hQ _ _ _ (by simp) ?_
    simp at hl
    have : ¬ xs = ys := fun h => hl (by rw [h])
    simp [Tryz.f79, this]
  simp at hl
  simp [builtinV, pureB, lenV]
  refine wpS_loop (fun j tm H' => ∃ i, i + j = xs.length ∧ tm 0 = .w (.lf (.sl a xs.length)) ∧ tm 1 = .w (.lf (.sl b ys.length)) ∧ tm 12 = .int xs.length ∧ tm 13 = .int i ∧ H' = H ∧ xs.take i = ys.take i) xs.length (by rw [env_K]; omega) ⟨0, by simp, by simp, by simp, by simp, by simp, rfl, by simp⟩ ?_
  rintro j tm H' hj ⟨i, hij, h0, h1, h12, h13, rfl, heq⟩ Q' hn' he' hr'
  simp [h0, h1, h12, h13]
  refine selS_intro (fun hc => ?_) (fun hc => ?_)
  · simp at hc
    have hc2 : i < ys.length := by omega
    obtain ⟨id, r, bl, rfl, hbl, hbe, hrow⟩ := ha i _ (by simp [hc]; rfl)
    obtain ⟨id2, r2, bl2, rfl, hbl2, hbe2, hrow2⟩ := hb i _ (by simp [hc2]; rfl)
    have g4 : IntKind.i64.wrap ((i : Int) + 1) = (i : Int) + 1 := wrap64 (by omega) (by omega)
    simp [h0, h1, h12, h13, indexAddrV, elemIs, hbl, hbe, hbl2, hbe2, hc, hc2, hrow, hrow2, encB]
    refine selS_intro (fun hd => ?_) (fun hd => ?_)
    · simp
      refine hr' _ _ ?_
      simp
      refine hQ _ _ _ (by simp) ?_
      have : ¬ xs = ys := fun h => by subst h; simp at hd
      simp [Tryz.f79, this]
    · have hxy : xs[i] = ys[i] := by
        simpa using hd
      simp [h0, h1, h12, h13, g4]
      exact hn' (j - 1) _ _ (by omega) ⟨i + 1, by omega, by simp [h0], by simp [h1], by simp [h12], by simp, rfl, by rw [List.take_add_one, List.take_add_one, heq]; simp [hc, hc2, hxy]⟩
  · simp at hc
    simp [h0, h1, h12, h13]
    refine he' _ _ _ ?_
    simp
    refine hQ _ _ _ (by simp) ?_
    have : xs = ys := by
      rw [List.take_of_length_le (by omega), List.take_of_length_le (by omega)] at heq
      exact heq
    simp [Tryz.f79, this]

abbrev IsPortS := IsSl 142 Port.enc
abbrev RdPortS := RdSl 142 Port.enc
abbrev RdLPortS := RdSl 999999 Port.enc
def PortS.mk' (xs : List Port) (k : Int) : List Port := marked Port.mk' 11 xs.length k
def PortS.mkN (xs : List Port) (k : Int) : Int := k + 11 * xs.length
def PortS.hd (xs : List Port) (k : Int) : Int := heldL Port.mk' 11 xs k
theorem PortS.hd_mk (xs : List Port) (k : Int) : PortS.hd (PortS.mk' xs k) k = PortS.mkN xs k := by simp [PortS.hd, PortS.mk', PortS.mkN]
theorem PortS.mk_sz (xs : List Port) (k : Int) : (PortS.mk' xs k).length = xs.length := by simp [PortS.mk']
theorem PortS.mkN_le {xs : List Port} {k : Int} (h : xs.length ≤ 1048576) : k ≤ PortS.mkN xs k ∧ PortS.mkN xs k ≤ k + 1000000000 := by unfold PortS.mkN; omega

theorem clonePortS {H : Heap} {q : Lf} {xs : List Port} (h : RdPortS H q xs) (hn : xs.length ≤ 1048576) : Runs env 152 [.w (.lf q)] H fun v H' => ∃ q' fp, v = .w (.lf q') ∧ IsPortS H' q' xs fp ∧ Fresh H H' fp := by
  obtain ⟨a, rfl, h⟩ := h
  refine Runs.walk ok152 Tryz.func152 rfl (by simp [Tryz.f152]) fun Q hQ => ?_
  simp only [Tryz.f152, strip, stripL, stripI, stripG, chkT, tagsB, tagsL, tagD, addT, tagA, lookN, tagOp, elmT, ty24, ty25, ty26, ty27, ty28, ty34, ty35, ty36, ty37, ty59, ty61, ty64, ty100, Nat.reduceEqDiff, if_false, reduceIte, Option.getD_some, Option.getD_none, dstAt, dstOk, Nat.reduceLT, decide_true, if_true]
  simp [binV]
  cases a with
  | none =>
    have : xs = [] := by
      cases xs with
      | nil => rfl
      | cons x xs => obtain ⟨_, _, _, h0, _⟩ := h 0 _ rfl; cases h0
    subst this
    simp
    refine hQ _ _ _ (by simp) ?_
    simp [Tryz.f152]
    exact ⟨_, ⟨none, rfl, Own.nil _ _⟩, Fresh.refl _⟩
  | some p =>
    simp
    refine stpL_append (rows := []) (ys := xs.map Port.enc) (Own.of (by simp)) (h.app _) rfl rfl rfl (by simp) (by simp; omega) rfl (by simp) fun a'' H'' fp'' ho'' hk'' hf'' => ?_
    simp
    refine hQ _ _ _ (by simp) ?_
    simp [Tryz.f152]
    have ho : IsPortS H'' (.sl a'' xs.length) xs fp'' := ⟨a'', rfl, by simpa using ho''⟩
    have hf : Fresh H H'' fp'' := Fresh.grow (fp := [H.length]) (by simp) hk'' hf''
    obtain ⟨f, h1, h2⟩ := ho.leave (ws := [W.lf (Lf.sl a'' xs.length)]) hf (by simp)
    exact ⟨f, h1, h2⟩

theorem toInS (H : Heap) (a : Option (Nat × Nat)) (xs : List In) (h : Sl H 46 a (xs.map In.enc)) (hn : xs.length ≤ 1048576) :
    run env 37 [.w (.lf (.sl a xs.length))] H = some (.sl H.length 0 xs.length, H ++ [some ⟨53, .wr, xs.map In.enc⟩]) := by
  refine run_walk ok37 Tryz.func37 rfl (by simp [Tryz.f37]) fun Q hQ => ?_
  simp only [Tryz.f37, strip, stripL, stripI, stripG, chkT, tagsB, tagsL, tagD, addT, tagA, lookN, tagOp, elmT, ty24, ty25, ty26, ty27, ty28, ty34, ty35, ty36, ty37, ty59, ty61, ty64, ty100, Nat.reduceEqDiff, if_false, reduceIte, Option.getD_some, Option.getD_none, dstAt, dstOk, Nat.reduceLT, decide_true, if_true]
  have k1 : (xs.length : Int) * 64 ≤ 281474976710656 := by omega
  have k2 : (xs.length : Int) ≤ 9223372036854775807 := by omega
  have k3 : (xs.length : Int) ≤ 281474976710656 := by omega
  simp [builtinV, pureB, lenV, makeSliceV, makeSliceR, newBlk, k1, k2, k3]
  refine wpS_loop (fun j tm H' => ∃ i, i + j = xs.length ∧ tm 0 = .w (.lf (.sl a xs.length)) ∧ tm 3 = .sl H.length 0 xs.length ∧ tm 4 = .int i ∧ H' = H ++ [some ⟨53, .wr, fillR (xs.map In.enc) In.z i j⟩]) xs.length (by rw [env_K]; omega) ⟨0, by simp, by simp, by simp, by simp, by rw [fillR_zero _ _ (by simp)]⟩ ?_
  rintro j tm H' hj ⟨i, hij, h0, h3, h4, rfl⟩ Q' hn' he' hr'
  simp [h0, h3, h4, builtinV, pureB, lenV]
  refine selS_intro (fun hc => ?_) (fun hc => ?_)
  · simp at hc
    obtain ⟨j, rfl⟩ : ∃ j', j = j' + 1 := ⟨j - 1, by omega⟩
    obtain ⟨id, r, b, rfl, hb, hbe, hrow⟩ := h i _ (by simp [hc]; rfl)
    have hid := blkAt_len hb
    have g2 := fillR_get (ys := xs.map In.enc) (z := In.z) (i := i) (j := j) (by simpa using hij)
    have g3 := fillR_set (ys := xs.map In.enc) (z := In.z) (i := i) (j := j) (y := In.enc xs[i]) (by simpa using hij) (by simp [hc])
    have g4 : IntKind.i64.wrap ((i : Int) + 1) = (i : Int) + 1 := wrap64 (by omega) (by omega)
    simp [h0, h3, h4, indexAddrV, elemIs, hid, hb, hbe, hc, hrow, toIn, g2, g3, g4]
    exact hn' j _ _ (by omega) ⟨i + 1, by omega, by simp [h0], by simp [h3], by simp, by simpa using congrArg (fun r => H ++ [some (⟨53, .wr, r⟩ : Blk)]) g3⟩
  · simp at hc
    have hj0 : j = 0 := by omega
    subst hj0
    simp [h0, h3, h4]
    refine he' _ _ _ ?_
    simp [h3]
    refine hQ _ _ _ (by simp) ?_
    simp [Tryz.f37, leave, fillR_done (ys := xs.map In.enc) (i := i) (z := In.z) (by simpa using hij), refFree]

theorem szInS (H : Heap) (a : Option (Nat × Nat)) (n : Nat) (left : Int) (h1 : 0 ≤ left) (h2 : left ≤ 1048576) (h3 : n ≤ maxLen) :
    run env 28 [.w (.lf (.sl a n)), .int left] H = some (.int (if left < n then -1 else left - n), H) := by
  have hm : (n : Int) ≤ 9223372036854775807 := by unfold maxLen at h3; omega
  refine run_walk ok28 Tryz.func28 rfl (by simp [Tryz.f28]) fun Q hQ => ?_
  simp only [Tryz.f28, strip, stripL, stripI, stripG, chkT, tagsB, tagsL, tagD, addT, tagA, lookN, tagOp, elmT, ty24, ty25, ty26, ty27, ty28, ty34, ty35, ty36, ty37, ty59, ty61, ty64, ty100, Nat.reduceEqDiff, if_false, reduceIte, Option.getD_some, Option.getD_none, dstAt, dstOk, Nat.reduceLT, decide_true, if_true]
  have g : IntKind.i64.wrap (left - n) = left - n := wrap64 (by omega) (by omega)
  simp [builtinV, pureB, lenV, g]
  repeat' (first | (refine gdL_t (fun h => ?_) (fun h => ?_) <;> simp [h]) | (refine gdL_f (fun h => ?_) (fun h => ?_) <;> simp [h]) | (refine selS_intro (fun h => ?_) (fun h => ?_) <;> simp [h]))
  all_goals (refine hQ _ _ _ (by simp) ?_)
  all_goals (clear hQ; simp_all [Tryz.f28] <;> omega)

theorem eqInS (H : Heap) (a b : Option (Nat × Nat)) (xs ys : List In) (ha : Sl H 53 a (xs.map In.enc)) (hb : Sl H 53 b (ys.map In.enc)) (hn : xs.length ≤ 1048576) :
    run env 46 [.w (.lf (.sl a xs.length)), .w (.lf (.sl b ys.length))] H = some (.bool (decide (xs = ys)), H) := by
  refine run_walk ok46 Tryz.func46 rfl (by simp [Tryz.f46]) fun Q hQ => ?_
  simp only [Tryz.f46, strip, stripL, stripI, stripG, chkT, tagsB, tagsL, tagD, addT, tagA, lookN, tagOp, elmT, ty24, ty25, ty26, ty27, ty28, ty34, ty35, ty36, ty37, ty59, ty61, ty64, ty100, Nat.reduceEqDiff, if_false, reduceIte, Option.getD_some, Option.getD_none, dstAt, dstOk, Nat.reduceLT, decide_true, if_true]
  simp [builtinV, pureB, lenV]
  refine selS_intro (fun hl => ?_) (fun hl => ?_)
  · simp
    refine hQ _ _ _ (by simp) ?_
    simp at hl
    have : ¬ xs = ys := fun h => hl (by rw [h])
    simp [Tryz.f46, this]
  simp at hl
  simp
  refine wpS_loop (fun j tm H' => ∃ i, i + j = xs.length ∧ tm 0 = .w (.lf (.sl a xs.length)) ∧ tm 1 = .w (.lf (.sl b ys.length)) ∧ tm 5 = .int i ∧ H' = H ∧ xs.take i = ys.take i) xs.length (by rw [env_K]; omega) ⟨0, by simp, by simp, by simp, by simp, rfl, by simp⟩ ?_
  rintro j tm H' hj ⟨i, hij, h0, h1, h5, rfl, heq⟩ Q' hn' he' hr'
  simp [h0, h1, h5, builtinV, pureB, lenV]
  refine selS_intro (fun hc => ?_) (fun hc => ?_)
  · simp at hc
    have hc2 : i < ys.length := by omega
    obtain ⟨id, r, bl, rfl, hbl, hbe, hrow⟩ := ha i _ (by simp [hc]; rfl)
    obtain ⟨id2, r2, bl2, rfl, hbl2, hbe2, hrow2⟩ := hb i _ (by simp [hc2]; rfl)
    have g4 : IntKind.i64.wrap ((i : Int) + 1) = (i : Int) + 1 := wrap64 (by omega) (by omega)
    simp [h0, h1, h5, indexAddrV, elemIs, hbl, hbe, hbl2, hbe2, hc, hc2, hrow, hrow2, eqIn]
    refine selS_intro (fun hd => ?_) (fun hd => ?_)
    · simp
      refine hr' _ _ ?_
      simp
      refine hQ _ _ _ (by simp) ?_
      simp at hd
      have : ¬ xs = ys := fun h => by subst h; simp at hd
      simp [Tryz.f46, this]
    · simp at hd
      simp [h0, h1, h5, g4]
      exact hn' (j - 1) _ _ (by omega) ⟨i + 1, by omega, by simp [h0], by simp [h1], by simp, rfl, by rw [List.take_add_one, List.take_add_one, heq]; simp [hc, hc2, hd]⟩
  · simp at hc
    simp [h0, h1, h5]
    refine he' _ _ _ ?_
    simp
    refine hQ _ _ _ (by simp) ?_
    have : xs = ys := by
      rw [List.take_of_length_le (by omega), List.take_of_length_le (by omega)] at heq
      exact heq
    simp [Tryz.f46, this]

abbrev IsInS := IsSl 53 In.enc
abbrev RdInS := RdSl 53 In.enc
abbrev RdLInS := RdSl 46 In.enc
def InS.mk' (xs : List In) (k : Int) : List In := marked In.mk' 8 xs.length k
def InS.mkN (xs : List In) (k : Int) : Int := k + 8 * xs.length
def InS.hd (xs : List In) (k : Int) : Int := heldL In.mk' 8 xs k
theorem InS.hd_mk (xs : List In) (k : Int) : InS.hd (InS.mk' xs k) k = InS.mkN xs k := by simp [InS.hd, InS.mk', InS.mkN]
theorem InS.mk_sz (xs : List In) (k : Int) : (InS.mk' xs k).length = xs.length := by simp [InS.mk']
theorem InS.mkN_le {xs : List In} {k : Int} (h : xs.length ≤ 1048576) : k ≤ InS.mkN xs k ∧ InS.mkN xs k ≤ k + 1000000000 := by unfold InS.mkN; omega

theorem shpInS_is {H : Heap} {k : Nat} {l : List Lf} (h : Shp Tryz.prog H (k + 4) 27 l) : ∃ (q : Lf) (xs : List In), l = [q] ∧ RdLInS H q xs ∧ xs.length ≤ maxLen := by
  obtain ⟨xs, a, rfl, hs, hl, -⟩ := h.sl (f := In.enc) (R := fun _ => True) Tryz.underlying27 fun row hr => let ⟨x, hx⟩ := shpIn hr; ⟨x, hx, trivial⟩
  exact ⟨_, xs, rfl, ⟨a, rfl, hs⟩, hl⟩

theorem toInS_is {H : Heap} {q : Lf} {xs : List In} (h : RdLInS H q xs) (hn : xs.length ≤ 1048576) : Runs env 37 [.w (.lf q)] H fun v H' => ∃ q' fp, v = .w (.lf q') ∧ IsInS H' q' xs fp ∧ Fresh H H' fp := by
  obtain ⟨a, rfl, h⟩ := h
  exact .of (toInS H a xs h hn) ⟨_, _, rfl, ⟨_, rfl, Own.of (by simp)⟩, Fresh.app _ _ (by simp)⟩

theorem eqInS_is {H : Heap} {q r : Lf} {xs ys : List In} (h : RdInS H q xs) (h2 : RdInS H r ys) (hn : xs.length ≤ 1048576) : run env 46 [.w (.lf q), .w (.lf r)] H = some (.bool (decide (xs = ys)), H) := by
  obtain ⟨a, rfl, h⟩ := h
  obtain ⟨b, rfl, h2⟩ := h2
  exact eqInS H a b xs ys h h2 hn

theorem equalInS {H : Heap} {q r : Lf} {xs ys : List In} (h : RdInS H q xs) (h2 : RdInS H r ys) (hn : xs.length ≤ 1048576) : run env 129 [.w (.lf q), .w (.lf r)] H = some (.bool (decide (xs = ys)), H) := by
  obtain ⟨a, rfl, ha⟩ := h
  obtain ⟨b, rfl, hb⟩ := h2
  refine run_walk ok129 Tryz.func129 rfl (by simp [Tryz.f129]) fun Q hQ => ?_
  simp only [Tryz.f129, strip, stripL, stripI, stripG, chkT, tagsB, tagsL, tagD, addT, tagA, lookN, tagOp, elmT, ty24, ty25, ty26, ty27, ty28, ty34, ty35, ty36, ty37, ty59, ty61, ty64, ty100, Nat.reduceEqDiff, if_false, reduceIte, Option.getD_some, Option.getD_none, dstAt, dstOk, Nat.reduceLT, decide_true, if_true]
  simp [builtinV, pureB, lenV]
  refine selS_intro (fun hl => ?_) (fun hl => ?_)
  · simp
    refine hQ _ _ _ (by simp) ?_
    simp at hl
    have : ¬ xs = ys := fun h => hl (by rw [h])
    simp [Tryz.f129, this]
  simp at hl
  simp [builtinV, pureB, lenV]
  refine wpS_loop (fun j tm H' => ∃ i, i + j = xs.length ∧ tm 0 = .w (.lf (.sl a xs.length)) ∧ tm 1 = .w (.lf (.sl b ys.length)) ∧ tm 12 = .int xs.length ∧ tm 13 = .int i ∧ H' = H ∧ xs.take i = ys.take i) xs.length (by rw [env_K]; omega) ⟨0, by simp, by simp, by simp, by simp, by simp, rfl, by simp⟩ ?_
  rintro j tm H' hj ⟨i, hij, h0, h1, h12, h13, rfl, heq⟩ Q' hn' he' hr'
  simp [h0, h1, h12, h13]
  refine selS_intro (fun hc => ?_) (fun hc => ?_)
  · simp at hc
    have hc2 : i < ys.length := by omega
    obtain ⟨id, r, bl, rfl, hbl, hbe, hrow⟩ := ha i _ (by simp [hc]; rfl)
    obtain ⟨id2, r2, bl2, rfl, hbl2, hbe2, hrow2⟩ := hb i _ (by simp [hc2]; rfl)
    have g4 : IntKind.i64.wrap ((i : Int) + 1) = (i : Int) + 1 := wrap64 (by omega) (by omega)
    simp [h0, h1, h12, h13, indexAddrV, elemIs, hbl, hbe, hbl2, hbe2, hc, hc2, hrow, hrow2, In.enc]
    refine selS_intro (fun hd => ?_) (fun hd => ?_)
    · simp
      refine hr' _ _ ?_
      simp
      refine hQ _ _ _ (by simp) ?_
      have : ¬ xs = ys := fun h => by subst h; simp at hd
      simp [Tryz.f129, this]
    · have hxy : xs[i] = ys[i] := by
        refine In.enc_inj ?_
        simpa [In.enc] using hd
      simp [h0, h1, h12, h13, g4]
      exact hn' (j - 1) _ _ (by omega) ⟨i + 1, by omega, by simp [h0], by simp [h1], by simp [h12], by simp, rfl, by rw [List.take_add_one, List.take_add_one, heq]; simp [hc, hc2, hxy]⟩
  · simp at hc
    simp [h0, h1, h12, h13]
    refine he' _ _ _ ?_
    simp
    refine hQ _ _ _ (by simp) ?_
    have : xs = ys := by
      rw [List.take_of_length_le (by omega), List.take_of_length_le (by omega)] at heq
      exact heq
    simp [Tryz.f129, this]

theorem toOutS (H : Heap) (a : Option (Nat × Nat)) (xs : List Out) (h : Sl H 121 a (xs.map Out.enc)) (hn : xs.length ≤ 1048576) :
    run env 38 [.w (.lf (.sl a xs.length))] H = some (.sl H.length 0 xs.length, H ++ [some ⟨109, .wr, xs.map Out.enc⟩]) := by
  refine run_walk ok38 Tryz.func38 rfl (by simp [Tryz.f38]) fun Q hQ => ?_
  simp only [Tryz.f38, strip, stripL, stripI, stripG, chkT, tagsB, tagsL, tagD, addT, tagA, lookN, tagOp, elmT, ty24, ty25, ty26, ty27, ty28, ty34, ty35, ty36, ty37, ty59, ty61, ty64, ty100, Nat.reduceEqDiff, if_false, reduceIte, Option.getD_some, Option.getD_none, dstAt, dstOk, Nat.reduceLT, decide_true, if_true]
  have k1 : (xs.length : Int) * 64 ≤ 281474976710656 := by omega
  have k2 : (xs.length : Int) ≤ 9223372036854775807 := by omega
  have k3 : (xs.length : Int) ≤ 281474976710656 := by omega
  simp [builtinV, pureB, lenV, makeSliceV, makeSliceR, newBlk, k1, k2, k3]
  refine wpS_loop (fun j tm H' => ∃ i, i + j = xs.length ∧ tm 0 = .w (.lf (.sl a xs.length)) ∧ tm 3 = .sl H.length 0 xs.length ∧ tm 4 = .int i ∧ H' = H ++ [some ⟨109, .wr, fillR (xs.map Out.enc) Out.z i j⟩]) xs.length (by rw [env_K]; omega) ⟨0, by simp, by simp, by simp, by simp, by rw [fillR_zero _ _ (by simp)]⟩ ?_
  rintro j tm H' hj ⟨i, hij, h0, h3, h4, rfl⟩ Q' hn' he' hr'
  simp [h0, h3, h4, builtinV, pureB, lenV]
  refine selS_intro (fun hc => ?_) (fun hc => ?_)
  · simp at hc
    obtain ⟨j, rfl⟩ : ∃ j', j = j' + 1 := ⟨j - 1, by omega⟩
    obtain ⟨id, r, b, rfl, hb, hbe, hrow⟩ := h i _ (by simp [hc]; rfl)
    have hid := blkAt_len hb
    have g2 := fillR_get (ys := xs.map Out.enc) (z := Out.z) (i := i) (j := j) (by simpa using hij)
    have g3 := fillR_set (ys := xs.map Out.enc) (z := Out.z) (i := i) (j := j) (y := Out.enc xs[i]) (by simpa using hij) (by simp [hc])
    have g4 : IntKind.i64.wrap ((i : Int) + 1) = (i : Int) + 1 := wrap64 (by omega) (by omega)
    simp [h0, h3, h4, indexAddrV, elemIs, hid, hb, hbe, hc, hrow, toOut, g2, g3, g4]
    exact hn' j _ _ (by omega) ⟨i + 1, by omega, by simp [h0], by simp [h3], by simp, by simpa using congrArg (fun r => H ++ [some (⟨109, .wr, r⟩ : Blk)]) g3⟩
  · simp at hc
    have hj0 : j = 0 := by omega
    subst hj0
    simp [h0, h3, h4]
    refine he' _ _ _ ?_
    simp [h3]
    refine hQ _ _ _ (by simp) ?_
    simp [Tryz.f38, leave, fillR_done (ys := xs.map Out.enc) (i := i) (z := Out.z) (by simpa using hij), refFree]

theorem szOutS (H : Heap) (a : Option (Nat × Nat)) (n : Nat) (left : Int) (h1 : 0 ≤ left) (h2 : left ≤ 1048576) (h3 : n ≤ maxLen) :
    run env 29 [.w (.lf (.sl a n)), .int left] H = some (.int (if left < n then -1 else left - n), H) := by
  have hm : (n : Int) ≤ 9223372036854775807 := by unfold maxLen at h3; omega
  refine run_walk ok29 Tryz.func29 rfl (by simp [Tryz.f29]) fun Q hQ => ?_
  simp only [Tryz.f29, strip, stripL, stripI, stripG, chkT, tagsB, tagsL, tagD, addT, tagA, lookN, tagOp, elmT, ty24, ty25, ty26, ty27, ty28, ty34, ty35, ty36, ty37, ty59, ty61, ty64, ty100, Nat.reduceEqDiff, if_false, reduceIte, Option.getD_some, Option.getD_none, dstAt, dstOk, Nat.reduceLT, decide_true, if_true]
  have g : IntKind.i64.wrap (left - n) = left - n := wrap64 (by omega) (by omega)
  simp [builtinV, pureB, lenV, g]
  repeat' (first | (refine gdL_t (fun h => ?_) (fun h => ?_) <;> simp [h]) | (refine gdL_f (fun h => ?_) (fun h => ?_) <;> simp [h]) | (refine selS_intro (fun h => ?_) (fun h => ?_) <;> simp [h]))
  all_goals (refine hQ _ _ _ (by simp) ?_)
  all_goals (clear hQ; simp_all [Tryz.f29] <;> omega)

theorem eqOutS (H : Heap) (a b : Option (Nat × Nat)) (xs ys : List Out) (ha : Sl H 109 a (xs.map Out.enc)) (hb : Sl H 109 b (ys.map Out.enc)) (hn : xs.length ≤ 1048576) :
    run env 47 [.w (.lf (.sl a xs.length)), .w (.lf (.sl b ys.length))] H = some (.bool (decide (xs = ys)), H) := by
  refine run_walk ok47 Tryz.func47 rfl (by simp [Tryz.f47]) fun Q hQ => ?_
  simp only [Tryz.f47, strip, stripL, stripI, stripG, chkT, tagsB, tagsL, tagD, addT, tagA, lookN, tagOp, elmT, ty24, ty25, ty26, ty27, ty28, ty34, ty35, ty36, ty37, ty59, ty61, ty64, ty100, Nat.reduceEqDiff, if_false, reduceIte, Option.getD_some, Option.getD_none, dstAt, dstOk, Nat.reduceLT, decide_true, if_true]
  simp [builtinV, pureB, lenV]
  refine selS_intro (fun hl => ?_) (fun hl => ?_)
  · simp
    refine hQ _ _ _ (by simp) ?_
    simp at hl
    have : ¬ xs = ys := fun h => hl (by rw [h])
    simp [Tryz.f47, this]
  simp at hl
  simp
  refine wpS_loop (fun j tm H' => ∃ i, i + j = xs.length ∧ tm 0 = .w (.lf (.sl a xs.length)) ∧ tm 1 = .w (.lf (.sl b ys.length)) ∧ tm 5 = .int i ∧ H' = H ∧ xs.take i = ys.take i) xs.length (by rw [env_K]; omega) ⟨0, by simp, by simp, by simp, by simp, rfl, by simp⟩ ?_
  rintro j tm H' hj ⟨i, hij, h0, h1, h5, rfl, heq⟩ Q' hn' he' hr'
  simp [h0, h1, h5, builtinV, pureB, lenV]
  refine selS_intro (fun hc => ?_) (fun hc => ?_)
  · simp at hc
    have hc2 : i < ys.length := by omega
    obtain ⟨id, r, bl, rfl, hbl, hbe, hrow⟩ := ha i _ (by simp [hc]; rfl)
    obtain ⟨id2, r2, bl2, rfl, hbl2, hbe2, hrow2⟩ := hb i _ (by simp [hc2]; rfl)
    have g4 : IntKind.i64.wrap ((i : Int) + 1) = (i : Int) + 1 := wrap64 (by omega) (by omega)
    simp [h0, h1, h5, indexAddrV, elemIs, hbl, hbe, hbl2, hbe2, hc, hc2, hrow, hrow2, eqOut]
    refine selS_intro (fun hd => ?_) (fun hd => ?_)
    · simp
      refine hr' _ _ ?_
      simp
      refine hQ _ _ _ (by simp) ?_
      simp at hd
      have : ¬ xs = ys := fun h => by subst h; simp at hd
      simp [Tryz.f47, this]
    · simp at hd
      simp [h0, h1, h5, g4]
      exact hn' (j - 1) _ _ (by omega) ⟨i + 1, by omega, by simp [h0], by simp [h1], by simp, rfl, by rw [List.take_add_one, List.take_add_one, heq]; simp [hc, hc2, hd]⟩
  · simp at hc
    simp [h0, h1, h5]
    refine he' _ _ _ ?_
    simp
    refine hQ _ _ _ (by simp) ?_
    have : xs = ys := by
      rw [List.take_of_length_le (by omega), List.take_of_length_le (by omega)] at heq
      exact heq
    simp [Tryz.f47, this]

abbrev IsOutS := IsSl 109 Out.enc
abbrev RdOutS := RdSl 109 Out.enc
abbrev RdLOutS := RdSl 121 Out.enc
def OutS.mk' (xs : List Out) (k : Int) : List Out := marked Out.mk' 8 xs.length k
def OutS.mkN (xs : List Out) (k : Int) : Int := k + 8 * xs.length
def OutS.hd (xs : List Out) (k : Int) : Int := heldL Out.mk' 8 xs k
theorem OutS.hd_mk (xs : List Out) (k : Int) : OutS.hd (OutS.mk' xs k) k = OutS.mkN xs k := by simp [OutS.hd, OutS.mk', OutS.mkN]
theorem OutS.mk_sz (xs : List Out) (k : Int) : (OutS.mk' xs k).length = xs.length := by simp [OutS.mk']
theorem OutS.mkN_le {xs : List Out} {k : Int} (h : xs.length ≤ 1048576) : k ≤ OutS.mkN xs k ∧ OutS.mkN xs k ≤ k + 1000000000 := by unfold OutS.mkN; omega

theorem shpOutS_is {H : Heap} {k : Nat} {l : List Lf} (h : Shp Tryz.prog H (k + 4) 28 l) : ∃ (q : Lf) (xs : List Out), l = [q] ∧ RdLOutS H q xs ∧ xs.length ≤ maxLen := by
  obtain ⟨xs, a, rfl, hs, hl, -⟩ := h.sl (f := Out.enc) (R := fun _ => True) Tryz.underlying28 fun row hr => let ⟨x, hx⟩ := shpOut hr; ⟨x, hx, trivial⟩
  exact ⟨_, xs, rfl, ⟨a, rfl, hs⟩, hl⟩

theorem toOutS_is {H : Heap} {q : Lf} {xs : List Out} (h : RdLOutS H q xs) (hn : xs.length ≤ 1048576) : Runs env 38 [.w (.lf q)] H fun v H' => ∃ q' fp, v = .w (.lf q') ∧ IsOutS H' q' xs fp ∧ Fresh H H' fp := by
  obtain ⟨a, rfl, h⟩ := h
  exact .of (toOutS H a xs h hn) ⟨_, _, rfl, ⟨_, rfl, Own.of (by simp)⟩, Fresh.app _ _ (by simp)⟩

theorem eqOutS_is {H : Heap} {q r : Lf} {xs ys : List Out} (h : RdOutS H q xs) (h2 : RdOutS H r ys) (hn : xs.length ≤ 1048576) : run env 47 [.w (.lf q), .w (.lf r)] H = some (.bool (decide (xs = ys)), H) := by
  obtain ⟨a, rfl, h⟩ := h
  obtain ⟨b, rfl, h2⟩ := h2
  exact eqOutS H a b xs ys h h2 hn

theorem cloneOutS {H : Heap} {q : Lf} {xs : List Out} (h : RdOutS H q xs) (hn : xs.length ≤ 1048576) : Runs env 115 [.w (.lf q)] H fun v H' => ∃ q' fp, v = .w (.lf q') ∧ IsOutS H' q' xs fp ∧ Fresh H H' fp := by
  obtain ⟨a, rfl, h⟩ := h
  refine Runs.walk ok115 Tryz.func115 rfl (by simp [Tryz.f115]) fun Q hQ => ?_
  simp only [Tryz.f115, strip, stripL, stripI, stripG, chkT, tagsB, tagsL, tagD, addT, tagA, lookN, tagOp, elmT, ty24, ty25, ty26, ty27, ty28, ty34, ty35, ty36, ty37, ty59, ty61, ty64, ty100, Nat.reduceEqDiff, if_false, reduceIte, Option.getD_some, Option.getD_none, dstAt, dstOk, Nat.reduceLT, decide_true, if_true]
  simp [binV]
  cases a with
  | none =>
    have : xs = [] := by
      cases xs with
      | nil => rfl
      | cons x xs => obtain ⟨_, _, _, h0, _⟩ := h 0 _ rfl; cases h0
    subst this
    simp
    refine hQ _ _ _ (by simp) ?_
    simp [Tryz.f115]
    exact ⟨_, ⟨none, rfl, Own.nil _ _⟩, Fresh.refl _⟩
  | some p =>
    simp
    refine stpL_append (rows := []) (ys := xs.map Out.enc) (Own.of (by simp)) (h.app _) rfl rfl rfl (by simp) (by simp; omega) rfl (by simp) fun a'' H'' fp'' ho'' hk'' hf'' => ?_
    simp
    refine hQ _ _ _ (by simp) ?_
    simp [Tryz.f115]
    have ho : IsOutS H'' (.sl a'' xs.length) xs fp'' := ⟨a'', rfl, by simpa using ho''⟩
    have hf : Fresh H H'' fp'' := Fresh.grow (fp := [H.length]) (by simp) hk'' hf''
    obtain ⟨f, h1, h2⟩ := ho.leave (ws := [W.lf (Lf.sl a'' xs.length)]) hf (by simp)
    exact ⟨f, h1, h2⟩

theorem equalOutS {H : Heap} {q r : Lf} {xs ys : List Out} (h : RdOutS H q xs) (h2 : RdOutS H r ys) (hn : xs.length ≤ 1048576) : run env 84 [.w (.lf q), .w (.lf r)] H = some (.bool (decide (xs = ys)), H) := by
  obtain ⟨a, rfl, ha⟩ := h
  obtain ⟨b, rfl, hb⟩ := h2
  refine run_walk ok84 Tryz.func84 rfl (by simp [Tryz.f84]) fun Q hQ => ?_
  simp only [Tryz.f84, strip, stripL, stripI, stripG, chkT, tagsB, tagsL, tagD, addT, tagA, lookN, tagOp, elmT, ty24, ty25, ty26, ty27, ty28, ty34, ty35, ty36, ty37, ty59, ty61, ty64, ty100, Nat.reduceEqDiff, if_false, reduceIte, Option.getD_some, Option.getD_none, dstAt, dstOk, Nat.reduceLT, decide_true, if_true]
  simp [builtinV, pureB, lenV]
  refine selS_intro (fun hl => ?_) (fun hl => ?_)
  · simp
    refine hQ _ _ _ (by simp) ?_
    simp at hl
    have : ¬ xs = ys := fun h => hl (by rw [h])
    simp [Tryz.f84, this]
  simp at hl
  simp [builtinV, pureB, lenV]
  refine wpS_loop (fun j tm H' => ∃ i, i + j = xs.length ∧ tm 0 = .w (.lf (.sl a xs.length)) ∧ tm 1 = .w (.lf (.sl b ys.length)) ∧ tm 12 = .int xs.length ∧ tm 13 = .int i ∧ H' = H ∧ xs.take i = ys.take i) xs.length (by rw [env_K]; omega) ⟨0, by simp, by simp, by simp, by simp, by simp, rfl, by simp⟩ ?_
  rintro j tm H' hj ⟨i, hij, h0, h1, h12, h13, rfl, heq⟩ Q' hn' he' hr'
  simp [h0, h1, h12, h13]
  refine selS_intro (fun hc => ?_) (fun hc => ?_)
  · simp at hc
    have hc2 : i < ys.length := by omega
    obtain ⟨id, r, bl, rfl, hbl, hbe, hrow⟩ := ha i _ (by simp [hc]; rfl)
    obtain ⟨id2, r2, bl2, rfl, hbl2, hbe2, hrow2⟩ := hb i _ (by simp [hc2]; rfl)
    have g4 : IntKind.i64.wrap ((i : Int) + 1) = (i : Int) + 1 := wrap64 (by omega) (by omega)
    simp [h0, h1, h12, h13, indexAddrV, elemIs, hbl, hbe, hbl2, hbe2, hc, hc2, hrow, hrow2, Out.enc]
    refine selS_intro (fun hd => ?_) (fun hd => ?_)
    · simp
      refine hr' _ _ ?_
      simp
      refine hQ _ _ _ (by simp) ?_
      have : ¬ xs = ys := fun h => by subst h; simp at hd
      simp [Tryz.f84, this]
    · have hxy : xs[i] = ys[i] := by
        refine Out.enc_inj ?_
        simpa [Out.enc] using hd
      simp [h0, h1, h12, h13, g4]
      exact hn' (j - 1) _ _ (by omega) ⟨i + 1, by omega, by simp [h0], by simp [h1], by simp [h12], by simp, rfl, by rw [List.take_add_one, List.take_add_one, heq]; simp [hc, hc2, hxy]⟩
  · simp at hc
    simp [h0, h1, h12, h13]
    refine he' _ _ _ ?_
    simp
    refine hQ _ _ _ (by simp) ?_
    have : xs = ys := by
      rw [List.take_of_length_le (by omega), List.take_of_length_le (by omega)] at heq
      exact heq
    simp [Tryz.f84, this]

theorem toWireS (H : Heap) (a : Option (Nat × Nat)) (xs : List Wire) (h : Sl H 118 a (xs.map Wire.enc)) (hn : xs.length ≤ 1048576) :
    run env 35 [.w (.lf (.sl a xs.length))] H = some (.sl H.length 0 xs.length, H ++ [some ⟨115, .wr, xs.map Wire.enc⟩]) := by
  refine run_walk ok35 Tryz.func35 rfl (by simp [Tryz.f35]) fun Q hQ => ?_
  simp only [Tryz.f35, strip, stripL, stripI, stripG, chkT, tagsB, tagsL, tagD, addT, tagA, lookN, tagOp, elmT, ty24, ty25, ty26, ty27, ty28, ty34, ty35, ty36, ty37, ty59, ty61, ty64, ty100, Nat.reduceEqDiff, if_false, reduceIte, Option.getD_some, Option.getD_none, dstAt, dstOk, Nat.reduceLT, decide_true, if_true]
  have k1 : (xs.length : Int) * 96 ≤ 281474976710656 := by omega
  have k2 : (xs.length : Int) ≤ 9223372036854775807 := by omega
  have k3 : (xs.length : Int) ≤ 281474976710656 := by omega
  simp [builtinV, pureB, lenV, makeSliceV, makeSliceR, newBlk, k1, k2, k3]
  refine wpS_loop (fun j tm H' => ∃ i, i + j = xs.length ∧ tm 0 = .w (.lf (.sl a xs.length)) ∧ tm 3 = .sl H.length 0 xs.length ∧ tm 4 = .int i ∧ H' = H ++ [some ⟨115, .wr, fillR (xs.map Wire.enc) Wire.z i j⟩]) xs.length (by rw [env_K]; omega) ⟨0, by simp, by simp, by simp, by simp, by rw [fillR_zero _ _ (by simp)]⟩ ?_
  rintro j tm H' hj ⟨i, hij, h0, h3, h4, rfl⟩ Q' hn' he' hr'
  simp [h0, h3, h4, builtinV, pureB, lenV]
  refine selS_intro (fun hc => ?_) (fun hc => ?_)
  · simp at hc
    obtain ⟨j, rfl⟩ : ∃ j', j = j' + 1 := ⟨j - 1, by omega⟩
    obtain ⟨id, r, b, rfl, hb, hbe, hrow⟩ := h i _ (by simp [hc]; rfl)
    have hid := blkAt_len hb
    have g2 := fillR_get (ys := xs.map Wire.enc) (z := Wire.z) (i := i) (j := j) (by simpa using hij)
    have g3 := fillR_set (ys := xs.map Wire.enc) (z := Wire.z) (i := i) (j := j) (y := Wire.enc xs[i]) (by simpa using hij) (by simp [hc])
    have g4 : IntKind.i64.wrap ((i : Int) + 1) = (i : Int) + 1 := wrap64 (by omega) (by omega)
    simp [h0, h3, h4, indexAddrV, elemIs, hid, hb, hbe, hc, hrow, toWire, g2, g3, g4]
    exact hn' j _ _ (by omega) ⟨i + 1, by omega, by simp [h0], by simp [h3], by simp, by simpa using congrArg (fun r => H ++ [some (⟨115, .wr, r⟩ : Blk)]) g3⟩
  · simp at hc
    have hj0 : j = 0 := by omega
    subst hj0
    simp [h0, h3, h4]
    refine he' _ _ _ ?_
    simp [h3]
    refine hQ _ _ _ (by simp) ?_
    simp [Tryz.f35, leave, fillR_done (ys := xs.map Wire.enc) (i := i) (z := Wire.z) (by simpa using hij), refFree]

theorem szWireS (H : Heap) (a : Option (Nat × Nat)) (n : Nat) (left : Int) (h1 : 0 ≤ left) (h2 : left ≤ 1048576) (h3 : n ≤ maxLen) :
    run env 26 [.w (.lf (.sl a n)), .int left] H = some (.int (if left < n then -1 else left - n), H) := by
  have hm : (n : Int) ≤ 9223372036854775807 := by unfold maxLen at h3; omega
  refine run_walk ok26 Tryz.func26 rfl (by simp [Tryz.f26]) fun Q hQ => ?_
  simp only [Tryz.f26, strip, stripL, stripI, stripG, chkT, tagsB, tagsL, tagD, addT, tagA, lookN, tagOp, elmT, ty24, ty25, ty26, ty27, ty28, ty34, ty35, ty36, ty37, ty59, ty61, ty64, ty100, Nat.reduceEqDiff, if_false, reduceIte, Option.getD_some, Option.getD_none, dstAt, dstOk, Nat.reduceLT, decide_true, if_true]
  have g : IntKind.i64.wrap (left - n) = left - n := wrap64 (by omega) (by omega)
  simp [builtinV, pureB, lenV, g]
  repeat' (first | (refine gdL_t (fun h => ?_) (fun h => ?_) <;> simp [h]) | (refine gdL_f (fun h => ?_) (fun h => ?_) <;> simp [h]) | (refine selS_intro (fun h => ?_) (fun h => ?_) <;> simp [h]))
  all_goals (refine hQ _ _ _ (by simp) ?_)
  all_goals (clear hQ; simp_all [Tryz.f26] <;> omega)

theorem eqWireS (H : Heap) (a b : Option (Nat × Nat)) (xs ys : List Wire) (ha : Sl H 115 a (xs.map Wire.enc)) (hb : Sl H 115 b (ys.map Wire.enc)) (hn : xs.length ≤ 1048576) :
    run env 44 [.w (.lf (.sl a xs.length)), .w (.lf (.sl b ys.length))] H = some (.bool (decide (xs = ys)), H) := by
  refine run_walk ok44 Tryz.func44 rfl (by simp [Tryz.f44]) fun Q hQ => ?_
  simp only [Tryz.f44, strip, stripL, stripI, stripG, chkT, tagsB, tagsL, tagD, addT, tagA, lookN, tagOp, elmT, ty24, ty25, ty26, ty27, ty28, ty34, ty35, ty36, ty37, ty59, ty61, ty64, ty100, Nat.reduceEqDiff, if_false, reduceIte, Option.getD_some, Option.getD_none, dstAt, dstOk, Nat.reduceLT, decide_true, if_true]
  simp [builtinV, pureB, lenV]
  refine selS_intro (fun hl => ?_) (fun hl => ?_)
  · simp
    refine hQ _ _ _ (by simp) ?_
    simp at hl
    have : ¬ xs = ys := fun h => hl (by rw [h])
    simp [Tryz.f44, this]
  simp at hl
  simp
  refine wpS_loop (fun j tm H' => ∃ i, i + j = xs.length ∧ tm 0 = .w (.lf (.sl a xs.length)) ∧ tm 1 = .w (.lf (.sl b ys.length)) ∧ tm 5 = .int i ∧ H' = H ∧ xs.take i = ys.take i) xs.length (by rw [env_K]; omega) ⟨0, by simp, by simp, by simp, by simp, rfl, by simp⟩ ?_
  rintro j tm H' hj ⟨i, hij, h0, h1, h5, rfl, heq⟩ Q' hn' he' hr'
  simp [h0, h1, h5, builtinV, pureB, lenV]
  refine selS_intro (fun hc => ?_) (fun hc => ?_)
  · simp at hc
    have hc2 : i < ys.length := by omega
    obtain ⟨id, r, bl, rfl, hbl, hbe, hrow⟩ := ha i _ (by simp [hc]; rfl)
    obtain ⟨id2, r2, bl2, rfl, hbl2, hbe2, hrow2⟩ := hb i _ (by simp [hc2]; rfl)
    have g4 : IntKind.i64.wrap ((i : Int) + 1) = (i : Int) + 1 := wrap64 (by omega) (by omega)
    simp [h0, h1, h5, indexAddrV, elemIs, hbl, hbe, hbl2, hbe2, hc, hc2, hrow, hrow2, eqWire]
    refine selS_intro (fun hd => ?_) (fun hd => ?_)
    · simp
      refine hr' _ _ ?_
      simp
      refine hQ _ _ _ (by simp) ?_
      simp at hd
      have : ¬ xs = ys := fun h => by subst h; simp at hd
      simp [Tryz.f44, this]
    · simp at hd
      simp [h0, h1, h5, g4]
      exact hn' (j - 1) _ _ (by omega) ⟨i + 1, by omega, by simp [h0], by simp [h1], by simp, rfl, by rw [List.take_add_one, List.take_add_one, heq]; simp [hc, hc2, hd]⟩
  · simp at hc
    simp [h0, h1, h5]
    refine he' _ _ _ ?_
    simp
    refine hQ _ _ _ (by simp) ?_
    have : xs = ys := by
      rw [List.take_of_length_le (by omega), List.take_of_length_le (by omega)] at heq
      exact heq
    simp [Tryz.f44, this]

abbrev IsWireS := IsSl 115 Wire.enc
abbrev RdWireS := RdSl 115 Wire.enc
abbrev RdLWireS := RdSl 118 Wire.enc
def WireS.mk' (xs : List Wire) (k : Int) : List Wire := marked Wire.mk' 12 xs.length k
def WireS.mkN (xs : List Wire) (k : Int) : Int := k + 12 * xs.length
def WireS.hd (xs : List Wire) (k : Int) : Int := heldL Wire.mk' 12 xs k
theorem WireS.hd_mk (xs : List Wire) (k : Int) : WireS.hd (WireS.mk' xs k) k = WireS.mkN xs k := by simp [WireS.hd, WireS.mk', WireS.mkN]
theorem WireS.mk_sz (xs : List Wire) (k : Int) : (WireS.mk' xs k).length = xs.length := by simp [WireS.mk']
theorem WireS.mkN_le {xs : List Wire} {k : Int} (h : xs.length ≤ 1048576) : k ≤ WireS.mkN xs k ∧ WireS.mkN xs k ≤ k + 1000000000 := by unfold WireS.mkN; omega

theorem shpWireS_is {H : Heap} {k : Nat} {l : List Lf} (h : Shp Tryz.prog H (k + 5) 25 l) : ∃ (q : Lf) (xs : List Wire), l = [q] ∧ RdLWireS H q xs ∧ xs.length ≤ maxLen := by
  obtain ⟨xs, a, rfl, hs, hl, -⟩ := h.sl (f := Wire.enc) (R := fun _ => True) Tryz.underlying25 fun row hr => let ⟨x, hx⟩ := shpWire hr; ⟨x, hx, trivial⟩
  exact ⟨_, xs, rfl, ⟨a, rfl, hs⟩, hl⟩

theorem toWireS_is {H : Heap} {q : Lf} {xs : List Wire} (h : RdLWireS H q xs) (hn : xs.length ≤ 1048576) : Runs env 35 [.w (.lf q)] H fun v H' => ∃ q' fp, v = .w (.lf q') ∧ IsWireS H' q' xs fp ∧ Fresh H H' fp := by
  obtain ⟨a, rfl, h⟩ := h
  exact .of (toWireS H a xs h hn) ⟨_, _, rfl, ⟨_, rfl, Own.of (by simp)⟩, Fresh.app _ _ (by simp)⟩

theorem eqWireS_is {H : Heap} {q r : Lf} {xs ys : List Wire} (h : RdWireS H q xs) (h2 : RdWireS H r ys) (hn : xs.length ≤ 1048576) : run env 44 [.w (.lf q), .w (.lf r)] H = some (.bool (decide (xs = ys)), H) := by
  obtain ⟨a, rfl, h⟩ := h
  obtain ⟨b, rfl, h2⟩ := h2
  exact eqWireS H a b xs ys h h2 hn

def Reg.ok (r : Reg) : Bool := decide (1 ≤ r.epoch) && decide (r.epoch ≤ 100000) && (decide (0 ≤ r.owner) && decide (r.owner ≤ 1)) && (decide (0 ≤ r.pair) && decide (r.pair ≤ 100000))

theorem specRegOk (H : Heap) (r : Reg) : run env 94 [.agg r.enc] H = some (.bool r.ok, H) := by
  refine run_walk ok94 Tryz.func94 rfl (by simp [Tryz.f94]) fun Q hQ => ?_
  simp only [Tryz.f94, strip, stripL, stripI, stripG, chkT, tagsB, tagsL, tagD, addT, tagA, lookN, tagOp, elmT, ty24, ty25, ty26, ty27, ty28, ty34, ty35, ty36, ty37, ty59, ty61, ty64, ty100, Nat.reduceEqDiff, if_false, reduceIte, Option.getD_some, Option.getD_none, dstAt, dstOk, Nat.reduceLT, decide_true, if_true]
  simp [Reg.enc, l1In]
  repeat' (first | (refine gdL_t (fun h => ?_) (fun h => ?_) <;> simp [h, l1In]) | (refine gdL_f (fun h => ?_) (fun h => ?_) <;> simp [h, l1In]) | (refine selS_intro (fun h => ?_) (fun h => ?_) <;> simp [h, l1In]))
  all_goals (refine hQ _ _ _ (by simp) ?_)
  all_goals (clear hQ; simp_all [Tryz.f94, Reg.ok] <;> omega)

theorem implRegOk (H : Heap) (r : Reg) : run env 106 [.agg r.enc] H = some (.bool r.ok, H) := by
  refine run_walk ok106 Tryz.func106 rfl (by simp [Tryz.f106]) fun Q hQ => ?_
  simp only [Tryz.f106, strip, stripL, stripI, stripG, chkT, tagsB, tagsL, tagD, addT, tagA, lookN, tagOp, elmT, ty24, ty25, ty26, ty27, ty28, ty34, ty35, ty36, ty37, ty59, ty61, ty64, ty100, Nat.reduceEqDiff, if_false, reduceIte, Option.getD_some, Option.getD_none, dstAt, dstOk, Nat.reduceLT, decide_true, if_true]
  simp [Reg.enc, inRange, isSide, isNum]
  repeat' (first | (refine gdL_t (fun h => ?_) (fun h => ?_) <;> simp [h, inRange, isSide, isNum]) | (refine gdL_f (fun h => ?_) (fun h => ?_) <;> simp [h, inRange, isSide, isNum]) | (refine selS_intro (fun h => ?_) (fun h => ?_) <;> simp [h, inRange, isSide, isNum]))
  all_goals (refine hQ _ _ _ (by simp) ?_)
  all_goals (clear hQ; simp_all [Tryz.f106, Reg.ok] <;> omega)

structure Bridge where
  id : Int
  ports : List Port
  deriving DecidableEq, Inhabited
def Bridge.enc (b : Bridge) (a : Option (Nat × Nat)) : List Lf := [.i .i64 b.id, .sl a b.ports.length]
@[simp] theorem Bridge.enc_len (b : Bridge) (a : Option (Nat × Nat)) : (b.enc a).length = 2 := rfl
@[simp] theorem Bridge.enc_take (b : Bridge) (a : Option (Nat × Nat)) : List.take 2 (b.enc a) = b.enc a := rfl

structure Minder where
  up : Bool
  life : Int
  epoch : Int
  log : List In
  said : Int
  acked : Int
  ackLife : Int
  deriving DecidableEq
def Minder.enc (m : Minder) (a : Option (Nat × Nat)) : List Lf := [.b m.up, .i .i64 m.life, .i .i64 m.epoch, .sl a m.log.length, .i .i64 m.said, .i .i64 m.acked, .i .i64 m.ackLife]
@[simp] theorem Minder.enc_len (m : Minder) (a : Option (Nat × Nat)) : (m.enc a).length = 7 := rfl
@[simp] theorem Minder.enc_take (m : Minder) (a : Option (Nat × Nat)) : List.take 7 (m.enc a) = m.enc a := rfl

theorem szMinder (H : Heap) (a : Option (Nat × Nat)) (m : Minder) (left : Int) (h1 : 0 ≤ left) (h2 : left ≤ 1048576) (h3 : m.log.length ≤ maxLen) :
    run env 68 [.agg (m.enc a), .int left] H = some (.int (if left < m.log.length then -1 else left - m.log.length), H) := by
  have e := fun H => szInS H a m.log.length left h1 h2 h3
  refine run_walk ok68 Tryz.func68 rfl (by simp [Tryz.f68]) fun Q hQ => ?_
  simp only [Tryz.f68, strip, stripL, stripI, stripG, chkT, tagsB, tagsL, tagD, addT, tagA, lookN, tagOp, elmT, ty24, ty25, ty26, ty27, ty28, ty34, ty35, ty36, ty37, ty59, ty61, ty64, ty100, Nat.reduceEqDiff, if_false, reduceIte, Option.getD_some, Option.getD_none, dstAt, dstOk, Nat.reduceLT, decide_true, if_true]
  simp [Minder.enc, e]
  repeat' (first | (refine gdL_t (fun h => ?_) (fun h => ?_) <;> simp [h]) | (refine gdL_f (fun h => ?_) (fun h => ?_) <;> simp [h]) | (refine selS_intro (fun h => ?_) (fun h => ?_) <;> simp [h]))
  all_goals (refine hQ _ _ _ (by simp) ?_)
  all_goals (clear hQ; simp_all [Tryz.f68] <;> omega)

theorem toMinder (H : Heap) (a : Option (Nat × Nat)) (m : Minder) (h : Sl H 46 a (m.log.map In.enc)) (hn : m.log.length ≤ 1048576) :
    Runs env 76 [.agg (m.enc a)] H fun v H' => ∃ a' fp, v = .agg (m.enc a') ∧ Own H' 53 a' (m.log.map In.enc) fp ∧ Fresh H H' fp := by
  have e := fun H h => toInS H a m.log h hn
  refine Runs.walk ok76 Tryz.func76 rfl (by simp [Tryz.f76]) fun Q hQ => ?_
  simp only [Tryz.f76, strip, stripL, stripI, stripG, chkT, tagsB, tagsL, tagD, addT, tagA, lookN, tagOp, elmT, ty24, ty25, ty26, ty27, ty28, ty34, ty35, ty36, ty37, ty59, ty61, ty64, ty100, Nat.reduceEqDiff, if_false, reduceIte, Option.getD_some, Option.getD_none, dstAt, dstOk, Nat.reduceLT, decide_true, if_true]
  simp [Minder.enc]
  rw [e _ (by simpa using h.app _)]
  simp
  refine hQ _ _ _ (by simp) ?_
  simp [Tryz.f76, leave, refFree, Minder.enc]
  exact ⟨_, Own.of (by simp), Fresh.app _ _ (by simp)⟩

theorem eqMinder (H : Heap) (a b : Option (Nat × Nat)) (m n : Minder) (ha : Sl H 53 a (m.log.map In.enc)) (hb : Sl H 53 b (n.log.map In.enc)) (hn : m.log.length ≤ 1048576) :
    run env 90 [.agg (m.enc a), .agg (n.enc b)] H = some (.bool (decide (m = n)), H) := by
  have e := fun G => eqInS (H ++ G) a b m.log n.log (ha.app _) (hb.app _) hn
  obtain ⟨a1, a2, a3, a4, a5, a6, a7⟩ := m
  obtain ⟨b1, b2, b3, b4, b5, b6, b7⟩ := n
  simp only at e
  refine run_walk ok90 Tryz.func90 rfl (by simp [Tryz.f90]) fun Q hQ => ?_
  simp only [Tryz.f90, strip, stripL, stripI, stripG, chkT, tagsB, tagsL, tagD, addT, tagA, lookN, tagOp, elmT, ty24, ty25, ty26, ty27, ty28, ty34, ty35, ty36, ty37, ty59, ty61, ty64, ty100, Nat.reduceEqDiff, if_false, reduceIte, Option.getD_some, Option.getD_none, dstAt, dstOk, Nat.reduceLT, decide_true, if_true]
  simp [Minder.enc]
  repeat' (first | (refine gdL_t (fun h => ?_) (fun h => ?_) <;> simp [h, e]) | (refine gdL_f (fun h => ?_) (fun h => ?_) <;> simp [h, e]) | (refine selS_intro (fun h => ?_) (fun h => ?_) <;> simp [h, e]))
  all_goals (refine hQ _ _ _ (by simp) ?_)
  all_goals (clear hQ; simp_all [Tryz.f90])

theorem shpMinder {H : Heap} {k : Nat} {l : List Lf} (h : Shp Tryz.prog H (k + 5) 98 l) : ∃ (m : Minder) (a : Option (Nat × Nat)), l = m.enc a ∧ Sl H 46 a (m.log.map In.enc) ∧ m.log.length ≤ maxLen := by
  obtain ⟨_, _, rfl, h1, _, _, rfl, h2, _, _, rfl, h3, _, _, rfl, h4, _, _, rfl, h5, _, _, rfl, h6, _, _, rfl, h7, rfl⟩ := h.struct Tryz.underlying98
  obtain ⟨x1, rfl⟩ := h1.bool Tryz.underlying4
  obtain ⟨x2, rfl, -⟩ := h2.i64 Tryz.underlying3
  obtain ⟨x3, rfl, -⟩ := h3.i64 Tryz.underlying3
  obtain ⟨xs, a, rfl, hs, hl, -⟩ := h4.sl (f := In.enc) (R := fun _ => True) Tryz.underlying27 fun row hr => let ⟨x, hx⟩ := shpIn hr; ⟨x, hx, trivial⟩
  obtain ⟨x5, rfl, -⟩ := h5.i64 Tryz.underlying3
  obtain ⟨x6, rfl, -⟩ := h6.i64 Tryz.underlying3
  obtain ⟨x7, rfl, -⟩ := h7.i64 Tryz.underlying3
  exact ⟨⟨x1, x2, x3, xs, x5, x6, x7⟩, a, rfl, hs, hl⟩

def Vec.ok (v : Vec) : Bool := (decide (1 ≤ v.root) && decide (v.root ≤ 9)) && (decide (1 ≤ v.bridge) && decide (v.bridge ≤ 9)) && decide (v.root ≤ v.bridge) && (decide (0 ≤ v.cost) && decide (v.cost ≤ 20)) && (decide (v.cost = 0) == decide (v.root = v.bridge)) && (decide (0 ≤ v.port) && decide (v.port ≤ 3))

theorem implVecOk (H : Heap) (v : Vec) : run env 154 [.agg v.enc] H = some (.bool v.ok, H) := by
  obtain ⟨a1, a2, a3, a4⟩ := v
  refine run_walk ok154 Tryz.func154 rfl (by simp [Tryz.f154]) fun Q hQ => ?_
  simp only [Tryz.f154, strip, stripL, stripI, stripG, chkT, tagsB, tagsL, tagD, addT, tagA, lookN, tagOp, elmT, ty24, ty25, ty26, ty27, ty28, ty34, ty35, ty36, ty37, ty59, ty61, ty64, ty100, Nat.reduceEqDiff, if_false, reduceIte, Option.getD_some, Option.getD_none, dstAt, dstOk, Nat.reduceLT, decide_true, if_true]
  simp [Vec.enc, inRange, isPort]
  repeat' (first | (refine gdL_t (fun h => ?_) (fun h => ?_) <;> simp [h, inRange, isPort]) | (refine gdL_f (fun h => ?_) (fun h => ?_) <;> simp [h, inRange, isPort]) | (refine selS_intro (fun h => ?_) (fun h => ?_) <;> simp [h, inRange, isPort]))
  all_goals (refine hQ _ _ _ (by simp) ?_)
  all_goals (clear hQ; simp_all [Tryz.f154, Vec.ok])
  all_goals (first | omega | (intros; omega))

theorem specVecOk (H : Heap) (v : Vec) : run env 147 [.agg v.enc] H = some (.bool v.ok, H) := by
  obtain ⟨a1, a2, a3, a4⟩ := v
  refine run_walk ok147 Tryz.func147 rfl (by simp [Tryz.f147]) fun Q hQ => ?_
  simp only [Tryz.f147, strip, stripL, stripI, stripG, chkT, tagsB, tagsL, tagD, addT, tagA, lookN, tagOp, elmT, ty24, ty25, ty26, ty27, ty28, ty34, ty35, ty36, ty37, ty59, ty61, ty64, ty100, Nat.reduceEqDiff, if_false, reduceIte, Option.getD_some, Option.getD_none, dstAt, dstOk, Nat.reduceLT, decide_true, if_true]
  simp [Vec.enc, l1In]
  repeat' (first | (refine gdL_t (fun h => ?_) (fun h => ?_) <;> simp [h, l1In]) | (refine gdL_f (fun h => ?_) (fun h => ?_) <;> simp [h, l1In]) | (refine selS_intro (fun h => ?_) (fun h => ?_) <;> simp [h, l1In]))
  all_goals (refine hQ _ _ _ (by simp) ?_)
  all_goals (clear hQ; simp_all [Tryz.f147, Vec.ok])
  all_goals (first | omega | (intros; omega))

def In.ok (x : In) : Bool := if x.kind = 1 then (decide (0 ≤ x.port) && decide (x.port ≤ 3)) && x.vec.ok && (decide (0 ≤ x.hops) && decide (x.hops ≤ 8)) && !x.up
  else if x.kind = 3 then (decide (0 ≤ x.port) && decide (x.port ≤ 3)) && decide (x.vec = ⟨0, 0, 0, 0⟩) && decide (x.hops = 0)
  else decide (x = ⟨2, 0, ⟨0, 0, 0, 0⟩, 0, false⟩)

theorem implInOk (H : Heap) (x : In) : run env 125 [.agg x.enc] H = some (.bool x.ok, H) := by
  obtain ⟨a1, a2, ⟨b1, b2, b3, b4⟩, a4, a5⟩ := x
  have e := fun H => implVecOk H ⟨b1, b2, b3, b4⟩
  simp only [Vec.enc] at e
  refine run_walk ok125 Tryz.func125 rfl (by simp [Tryz.f125]) fun Q hQ => ?_
  simp only [Tryz.f125, strip, stripL, stripI, stripG, chkT, tagsB, tagsL, tagD, addT, tagA, lookN, tagOp, elmT, ty24, ty25, ty26, ty27, ty28, ty34, ty35, ty36, ty37, ty59, ty61, ty64, ty100, Nat.reduceEqDiff, if_false, reduceIte, Option.getD_some, Option.getD_none, dstAt, dstOk, Nat.reduceLT, decide_true, if_true]
  simp [In.enc, isPort, isHops, e]
  repeat' (first | (refine gdL_t (fun h => ?_) (fun h => ?_) <;> simp [h, isPort, isHops, e]) | (refine gdL_f (fun h => ?_) (fun h => ?_) <;> simp [h, isPort, isHops, e]) | (refine selS_intro (fun h => ?_) (fun h => ?_) <;> simp [h, isPort, isHops, e]))
  all_goals (refine hQ _ _ _ (by simp) ?_)
  all_goals (clear hQ; simp_all [Tryz.f125, In.ok])
  all_goals (first | (intros; exfalso; omega) | simp [Bool.and_assoc])

theorem specInOk (H : Heap) (x : In) : run env 118 [.agg x.enc] H = some (.bool x.ok, H) := by
  obtain ⟨a1, a2, ⟨b1, b2, b3, b4⟩, a4, a5⟩ := x
  have e := fun H => specVecOk H ⟨b1, b2, b3, b4⟩
  simp only [Vec.enc] at e
  refine run_walk ok118 Tryz.func118 rfl (by simp [Tryz.f118]) fun Q hQ => ?_
  simp only [Tryz.f118, strip, stripL, stripI, stripG, chkT, tagsB, tagsL, tagD, addT, tagA, lookN, tagOp, elmT, ty24, ty25, ty26, ty27, ty28, ty34, ty35, ty36, ty37, ty59, ty61, ty64, ty100, Nat.reduceEqDiff, if_false, reduceIte, Option.getD_some, Option.getD_none, dstAt, dstOk, Nat.reduceLT, decide_true, if_true]
  simp [In.enc, l1In, e]
  repeat' (first | (refine gdL_t (fun h => ?_) (fun h => ?_) <;> simp [h, l1In, e]) | (refine gdL_f (fun h => ?_) (fun h => ?_) <;> simp [h, l1In, e]) | (refine selS_intro (fun h => ?_) (fun h => ?_) <;> simp [h, l1In, e]))
  all_goals (refine hQ _ _ _ (by simp) ?_)
  all_goals (clear hQ; simp_all [Tryz.f118, In.ok])
  all_goals (first | (intros; exfalso; omega) | simp [Bool.and_assoc])

def IsBridge (H : Heap) (l : List Lf) (x : Bridge) (fp : List Nat) : Prop := ∃ a, l = x.enc a ∧ Own H 142 a (x.ports.map Port.enc) fp
def RdBridge (H : Heap) (l : List Lf) (x : Bridge) : Prop := ∃ a, l = x.enc a ∧ Sl H 142 a (x.ports.map Port.enc)
def RdLBridge (H : Heap) (l : List Lf) (x : Bridge) : Prop := ∃ a, l = x.enc a ∧ Sl H 999999 a (x.ports.map Port.enc)
abbrev Bridge.sz (x : Bridge) : Nat := x.ports.length
def Bridge.fit (x : Bridge) : Prop := x.ports.length ≤ maxLen
section
variable {H H' : Heap} {l : List Lf} {x : Bridge} {fp : List Nat}
theorem IsBridge.keep {f : List Nat} (h : IsBridge H l x fp) (hk : Keep f H H') (hd : ∀ i ∈ fp, i ∉ f) : IsBridge H' l x fp := let ⟨a, h1, h2⟩ := h; ⟨a, h1, h2.keep hk hd⟩
theorem IsBridge.app (h : IsBridge H l x fp) (G : Heap) : IsBridge (H ++ G) l x fp := let ⟨a, h1, h2⟩ := h; ⟨a, h1, h2.app G⟩
theorem IsBridge.lt (h : IsBridge H l x fp) : ∀ i ∈ fp, i < H.length := let ⟨_, _, h2⟩ := h; h2.lt
theorem IsBridge.nodup (h : IsBridge H l x fp) : fp.Nodup := let ⟨_, _, h2⟩ := h; h2.nodup
theorem IsBridge.rd (h : IsBridge H l x fp) : RdBridge H l x := let ⟨a, h1, h2⟩ := h; ⟨a, h1, h2.sl⟩
theorem RdBridge.base (h : RdBridge H l x) (hk : Keep [] H H') : RdBridge H' l x := let ⟨a, h1, h2⟩ := h; ⟨a, h1, h2.keep hk (by simp)⟩
theorem RdBridge.app (h : RdBridge H l x) (G : Heap) : RdBridge (H ++ G) l x := h.base (Keep.app _ _ _)
theorem RdLBridge.base (h : RdLBridge H l x) (hk : Keep [] H H') : RdLBridge H' l x := let ⟨a, h1, h2⟩ := h; ⟨a, h1, h2.keep hk (by simp)⟩
theorem RdLBridge.app (h : RdLBridge H l x) (G : Heap) : RdLBridge (H ++ G) l x := h.base (Keep.app _ _ _)
theorem IsBridge.len (h : IsBridge H l x fp) : l.length = 2 := by obtain ⟨a, rfl, -⟩ := h; rfl
theorem RdLBridge.len (h : RdLBridge H l x) : l.length = 2 := by obtain ⟨a, rfl, -⟩ := h; rfl
theorem RdBridge.len (h : RdBridge H l x) : l.length = 2 := by obtain ⟨a, rfl, -⟩ := h; rfl
theorem IsBridge.free (h : IsBridge H' l x fp) (hr : l.all refFree = true) (H2 : Heap) : IsBridge H2 l x [] := by
  obtain ⟨a, rfl, h2⟩ := h
  exact ⟨a, rfl, h2.free (n := x.ports.length) (by simp [Bridge.enc] at hr; exact hr) H2⟩
theorem IsBridge.leave {ws : List W} (h : IsBridge H' l x fp) (hf : Fresh H H' fp) (hw : ws.all W.free = true → l.all refFree = true) : ∃ fp', IsBridge (leave H H' ws) l x fp' ∧ Fresh H (leave H H' ws) fp' := by
  rcases leave_opt H H' ws with e | ⟨e, hr⟩ <;> rw [e]
  · exact ⟨fp, h, hf⟩
  · exact ⟨[], h.free (hw hr) H, Fresh.refl H⟩
end

def IsMinder (H : Heap) (l : List Lf) (x : Minder) (fp : List Nat) : Prop := ∃ a, l = x.enc a ∧ Own H 53 a (x.log.map In.enc) fp
def RdMinder (H : Heap) (l : List Lf) (x : Minder) : Prop := ∃ a, l = x.enc a ∧ Sl H 53 a (x.log.map In.enc)
def RdLMinder (H : Heap) (l : List Lf) (x : Minder) : Prop := ∃ a, l = x.enc a ∧ Sl H 46 a (x.log.map In.enc)
abbrev Minder.sz (x : Minder) : Nat := x.log.length
def Minder.fit (x : Minder) : Prop := x.log.length ≤ maxLen
section
variable {H H' : Heap} {l : List Lf} {x : Minder} {fp : List Nat}
theorem IsMinder.keep {f : List Nat} (h : IsMinder H l x fp) (hk : Keep f H H') (hd : ∀ i ∈ fp, i ∉ f) : IsMinder H' l x fp := let ⟨a, h1, h2⟩ := h; ⟨a, h1, h2.keep hk hd⟩
theorem IsMinder.app (h : IsMinder H l x fp) (G : Heap) : IsMinder (H ++ G) l x fp := let ⟨a, h1, h2⟩ := h; ⟨a, h1, h2.app G⟩
theorem IsMinder.lt (h : IsMinder H l x fp) : ∀ i ∈ fp, i < H.length := let ⟨_, _, h2⟩ := h; h2.lt
theorem IsMinder.nodup (h : IsMinder H l x fp) : fp.Nodup := let ⟨_, _, h2⟩ := h; h2.nodup
theorem IsMinder.rd (h : IsMinder H l x fp) : RdMinder H l x := let ⟨a, h1, h2⟩ := h; ⟨a, h1, h2.sl⟩
theorem RdMinder.base (h : RdMinder H l x) (hk : Keep [] H H') : RdMinder H' l x := let ⟨a, h1, h2⟩ := h; ⟨a, h1, h2.keep hk (by simp)⟩
theorem RdMinder.app (h : RdMinder H l x) (G : Heap) : RdMinder (H ++ G) l x := h.base (Keep.app _ _ _)
theorem RdLMinder.base (h : RdLMinder H l x) (hk : Keep [] H H') : RdLMinder H' l x := let ⟨a, h1, h2⟩ := h; ⟨a, h1, h2.keep hk (by simp)⟩
theorem RdLMinder.app (h : RdLMinder H l x) (G : Heap) : RdLMinder (H ++ G) l x := h.base (Keep.app _ _ _)
theorem IsMinder.len (h : IsMinder H l x fp) : l.length = 7 := by obtain ⟨a, rfl, -⟩ := h; rfl
theorem RdLMinder.len (h : RdLMinder H l x) : l.length = 7 := by obtain ⟨a, rfl, -⟩ := h; rfl
theorem RdMinder.len (h : RdMinder H l x) : l.length = 7 := by obtain ⟨a, rfl, -⟩ := h; rfl
theorem IsMinder.free (h : IsMinder H' l x fp) (hr : l.all refFree = true) (H2 : Heap) : IsMinder H2 l x [] := by
  obtain ⟨a, rfl, h2⟩ := h
  exact ⟨a, rfl, h2.free (n := x.log.length) (by simp [Minder.enc] at hr; exact hr) H2⟩
theorem IsMinder.leave {ws : List W} (h : IsMinder H' l x fp) (hf : Fresh H H' fp) (hw : ws.all W.free = true → l.all refFree = true) : ∃ fp', IsMinder (leave H H' ws) l x fp' ∧ Fresh H (leave H H' ws) fp' := by
  rcases leave_opt H H' ws with e | ⟨e, hr⟩ <;> rw [e]
  · exact ⟨fp, h, hf⟩
  · exact ⟨[], h.free (hw hr) H, Fresh.refl H⟩
end

theorem szMinder_is {H : Heap} {l : List Lf} {x : Minder} (h : RdLMinder H l x) (hf : x.fit) {left : Int} (h1 : 0 ≤ left) (h2 : left ≤ 1048576) (G : Heap) :
    run env 68 [.agg l, .int left] (H ++ G) = some (.int (if left < x.sz then -1 else left - x.sz), H ++ G) := by
  obtain ⟨a, rfl, h⟩ := h
  exact szMinder _ a x left h1 h2 hf

theorem toMinder_is {H : Heap} {l : List Lf} {x : Minder} (h : RdLMinder H l x) (hn : x.sz ≤ 1048576) : Runs env 76 [.agg l] H fun v H' => ∃ l' fp, v = .agg l' ∧ IsMinder H' l' x fp ∧ Fresh H H' fp := by
  obtain ⟨a, rfl, h⟩ := h
  exact (toMinder H a x h hn).mono fun v H' ⟨a', fp, h1, h2, h3⟩ => ⟨_, fp, h1, ⟨a', rfl, h2⟩, h3⟩

theorem eqMinder_is {H : Heap} {l r : List Lf} {x y : Minder} (h : RdMinder H l x) (h2 : RdMinder H r y) (hn : x.sz ≤ 1048576) : run env 90 [.agg l, .agg r] H = some (.bool (decide (x = y)), H) := by
  obtain ⟨a, rfl, h⟩ := h
  obtain ⟨b, rfl, h2⟩ := h2
  exact eqMinder H a b x y h h2 hn

theorem shpMinder_is {H : Heap} {k : Nat} {l : List Lf} (h : Shp Tryz.prog H (k + 5) 98 l) : ∃ x : Minder, RdLMinder H l x ∧ x.fit := by
  obtain ⟨x, a, rfl, hs, hl⟩ := shpMinder h
  exact ⟨x, ⟨a, rfl, hs⟩, hl⟩

def logOk (xs : List In) : Bool := xs.all In.ok && decide ((xs.length : Int) ≤ 60)

theorem implLogOk (H : Heap) (a : Option (Nat × Nat)) (xs : List In) (h : Sl H 53 a (xs.map In.enc)) (hn : xs.length ≤ 2000000) :
    run env 109 [.w (.lf (.sl a xs.length))] H = some (.bool (logOk xs), H) := by
  refine run_walk ok109 Tryz.func109 rfl (by simp [Tryz.f109]) fun Q hQ => ?_
  simp only [Tryz.f109, strip, stripL, stripI, stripG, chkT, tagsB, tagsL, tagD, addT, tagA, lookN, tagOp, elmT, ty24, ty25, ty26, ty27, ty28, ty34, ty35, ty36, ty37, ty59, ty61, ty64, ty100, Nat.reduceEqDiff, if_false, reduceIte, Option.getD_some, Option.getD_none, dstAt, dstOk, Nat.reduceLT, decide_true, if_true]
  simp [builtinV, pureB, lenV]
  refine wpS_loop (fun j tm H' => ∃ i G, i + j = xs.length ∧ tm 0 = .w (.lf (.sl a xs.length)) ∧ tm 5 = .w (.lf (.sl a xs.length)) ∧ tm 6 = .int xs.length ∧ tm 7 = .int i ∧ H' = H ++ G ∧ (xs.take i).all In.ok = true) xs.length (by rw [env_K]; omega) ⟨0, [], by simp, by simp, by simp, by simp, by simp, by simp, by simp⟩ ?_
  rintro j tm H' hj ⟨i, G, hij, h0, h5, h6, h7, rfl, hall⟩ Q' hn' he' hr'
  simp [h0, h5, h6, h7, builtinV, pureB, lenV]
  refine selS_intro (fun hc => ?_) (fun hc => ?_)
  · simp at hc
    obtain ⟨id, r, bl, rfl, hbl, hbe, hrow⟩ := h i _ (by simp [hc]; rfl)
    have hid := blkAt_len hbl
    have g4 : IntKind.i64.wrap ((i : Int) + 1) = (i : Int) + 1 := wrap64 (by omega) (by omega)
    simp [h0, h5, h6, h7, indexAddrV, elemIs, hid, hbl, hbe, hc, hrow, implInOk]
    refine selS_intro (fun hd => ?_) (fun hd => ?_)
    · simp
      refine hr' _ _ ?_
      simp
      refine hQ _ _ _ (by simp) ?_
      have : xs.all In.ok = false := List.all_eq_false.2 ⟨xs[i], by simp, by simpa using hd⟩
      simp [Tryz.f109, this, logOk]
    · simp at hd
      simp [h0, h5, h6, h7, g4]
      refine hn' (j - 1) _ _ (by omega) ⟨i + 1, _, by omega, by simp [h0], by simp [h5], by simp [h6], by simp, rfl, ?_⟩
      rw [List.take_add_one, List.all_append, hall]
      simp [hc, hd]
  · simp at hc
    simp [h0, h5, h6, h7]
    refine he' _ _ _ ?_
    simp [h0, builtinV, pureB, lenV]
    refine hQ _ _ _ (by simp) ?_
    rw [List.take_of_length_le (by omega)] at hall
    simp [Tryz.f109, hall, logOk]

theorem specLogOk (H : Heap) (a : Option (Nat × Nat)) (xs : List In) (h : Sl H 53 a (xs.map In.enc)) (hn : xs.length ≤ 2000000) :
    run env 97 [.w (.lf (.sl a xs.length))] H = some (.bool (logOk xs), H) := by
  refine run_walk ok97 Tryz.func97 rfl (by simp [Tryz.f97]) fun Q hQ => ?_
  simp only [Tryz.f97, strip, stripL, stripI, stripG, chkT, tagsB, tagsL, tagD, addT, tagA, lookN, tagOp, elmT, ty24, ty25, ty26, ty27, ty28, ty34, ty35, ty36, ty37, ty59, ty61, ty64, ty100, Nat.reduceEqDiff, if_false, reduceIte, Option.getD_some, Option.getD_none, dstAt, dstOk, Nat.reduceLT, decide_true, if_true]
  simp [builtinV, pureB, lenV]
  refine wpS_loop (fun j tm H' => ∃ i, i + j = xs.length ∧ tm 0 = .w (.lf (.sl a xs.length)) ∧ tm 3 = .int i ∧ H' = H ∧ (xs.take i).all In.ok = true) xs.length (by rw [env_K]; omega) ⟨0, by simp, by simp, by simp, rfl, by simp⟩ ?_
  rintro j tm H' hj ⟨i, hij, h0, h3, rfl, hall⟩ Q' hn' he' hr'
  simp [h0, h3, builtinV, pureB, lenV]
  refine selS_intro (fun hc => ?_) (fun hc => ?_)
  · simp at hc
    obtain ⟨id, r, bl, rfl, hbl, hbe, hrow⟩ := h i _ (by simp [hc]; rfl)
    have g4 : IntKind.i64.wrap ((i : Int) + 1) = (i : Int) + 1 := wrap64 (by omega) (by omega)
    simp [h0, h3, indexAddrV, elemIs, hbl, hbe, hc, hrow, specInOk]
    refine selS_intro (fun hd => ?_) (fun hd => ?_)
    · simp
      refine hr' _ _ ?_
      simp
      refine hQ _ _ _ (by simp) ?_
      have : xs.all In.ok = false := List.all_eq_false.2 ⟨xs[i], by simp, by simpa using hd⟩
      simp [Tryz.f97, this, logOk]
    · simp at hd
      simp [h0, h3, g4]
      refine hn' (j - 1) _ _ (by omega) ⟨i + 1, by omega, by simp [h0], by simp, rfl, ?_⟩
      rw [List.take_add_one, List.all_append, hall]
      simp [hc, hd]
  · simp at hc
    simp [h0, h3]
    refine he' _ _ _ ?_
    simp [h0, builtinV, pureB, lenV]
    refine hQ _ _ _ (by simp) ?_
    rw [List.take_of_length_le (by omega)] at hall
    simp [Tryz.f97, hall, logOk]

def Minder.ok (m : Minder) : Bool := (decide (0 ≤ m.life) && decide (m.life ≤ 100000)) && (decide (0 ≤ m.epoch) && decide (m.epoch ≤ 100000)) && (decide (0 ≤ m.ackLife) && decide (m.ackLife ≤ 100000)) && logOk m.log &&
  (decide (0 ≤ m.said) && decide (m.said ≤ m.log.length)) && (decide (0 ≤ m.acked) && decide (m.acked ≤ m.log.length)) && (m.up || decide (m.epoch = 0) && decide ((m.log.length : Int) = 0) && decide (m.ackLife = 0))

theorem implMinderOk (H : Heap) (a : Option (Nat × Nat)) (m : Minder) (h : Sl H 53 a (m.log.map In.enc)) (hn : m.log.length ≤ 2000000) :
    run env 107 [.agg (m.enc a)] H = some (.bool m.ok, H) := by
  have e := fun G => implLogOk (H ++ G) a m.log (h.app _) hn
  obtain ⟨a1, a2, a3, a4, a5, a6, a7⟩ := m
  simp only at e
  refine run_walk ok107 Tryz.func107 rfl (by simp [Tryz.f107]) fun Q hQ => ?_
  simp only [Tryz.f107, strip, stripL, stripI, stripG, chkT, tagsB, tagsL, tagD, addT, tagA, lookN, tagOp, elmT, ty24, ty25, ty26, ty27, ty28, ty34, ty35, ty36, ty37, ty59, ty61, ty64, ty100, Nat.reduceEqDiff, if_false, reduceIte, Option.getD_some, Option.getD_none, dstAt, dstOk, Nat.reduceLT, decide_true, if_true]
  simp [Minder.enc, isNum]
  repeat' (first | (refine gdL_t (fun h => ?_) (fun h => ?_) <;> simp [h, isNum, inRange, e, builtinV, pureB, lenV]) | (refine gdL_f (fun h => ?_) (fun h => ?_) <;> simp [h, isNum, inRange, e, builtinV, pureB, lenV]) | (refine selS_intro (fun h => ?_) (fun h => ?_) <;> simp [h, isNum, inRange, e, builtinV, pureB, lenV]))
  all_goals (refine hQ _ _ _ (by simp) ?_)
  all_goals (clear hQ; simp_all [Tryz.f107, Minder.ok])
  all_goals (try (intros; exfalso; omega))

theorem specMinderOk (H : Heap) (a : Option (Nat × Nat)) (m : Minder) (h : Sl H 53 a (m.log.map In.enc)) (hn : m.log.length ≤ 2000000) :
    run env 95 [.agg (m.enc a)] H = some (.bool m.ok, H) := by
  have e := fun G => specLogOk (H ++ G) a m.log (h.app _) hn
  obtain ⟨a1, a2, a3, a4, a5, a6, a7⟩ := m
  simp only at e
  refine run_walk ok95 Tryz.func95 rfl (by simp [Tryz.f95]) fun Q hQ => ?_
  simp only [Tryz.f95, strip, stripL, stripI, stripG, chkT, tagsB, tagsL, tagD, addT, tagA, lookN, tagOp, elmT, ty24, ty25, ty26, ty27, ty28, ty34, ty35, ty36, ty37, ty59, ty61, ty64, ty100, Nat.reduceEqDiff, if_false, reduceIte, Option.getD_some, Option.getD_none, dstAt, dstOk, Nat.reduceLT, decide_true, if_true]
  simp [Minder.enc, l1In]
  repeat' (first | (refine gdL_t (fun h => ?_) (fun h => ?_) <;> simp [h, l1In, e, builtinV, pureB, lenV]) | (refine gdL_f (fun h => ?_) (fun h => ?_) <;> simp [h, l1In, e, builtinV, pureB, lenV]) | (refine selS_intro (fun h => ?_) (fun h => ?_) <;> simp [h, l1In, e, builtinV, pureB, lenV]))
  all_goals (refine hQ _ _ _ (by simp) ?_)
  all_goals (clear hQ; simp_all [Tryz.f95, Minder.ok])
  all_goals (try (intros; exfalso; omega))

def gates (b : Bridge) : List Bool := b.ports.map Port.opn
@[simp] theorem gates_len (b : Bridge) : (gates b).length = b.ports.length := by simp [gates]

theorem implGates (H : Heap) (a : Option (Nat × Nat)) (b : Bridge) (h : Sl H 142 a (b.ports.map Port.enc)) (hn : b.ports.length ≤ 1048576) :
    Runs env 80 [.agg (b.enc a)] H fun v H' => ∃ a' fp, v = .w (.lf (.sl a' (gates b).length)) ∧ Own H' 4 a' ((gates b).map encB) fp ∧ Fresh H H' fp := by
  refine Runs.walk ok80 Tryz.func80 rfl (by simp [Tryz.f80]) fun Q hQ => ?_
  simp only [Tryz.f80, strip, stripL, stripI, stripG, chkT, tagsB, tagsL, tagD, addT, tagA, lookN, tagOp, elmT, ty24, ty25, ty26, ty27, ty28, ty34, ty35, ty36, ty37, ty59, ty61, ty64, ty100, Nat.reduceEqDiff, if_false, reduceIte, Option.getD_some, Option.getD_none, dstAt, dstOk, Nat.reduceLT, decide_true, if_true]
  simp [Bridge.enc, builtinV, pureB, lenV]
  refine wpS_loop (fun j tm H' => ∃ i a' fp, i + j = b.ports.length ∧ tm 7 = .w (.lf (.sl a b.ports.length)) ∧ tm 8 = .int b.ports.length ∧ tm 9 = .int i ∧ tm 3 = .w (.lf (.sl a' i)) ∧ Own H' 4 a' (((gates b).take i).map encB) fp ∧ Fresh H H' fp) b.ports.length (by rw [env_K]; omega)
    ⟨0, none, [], by simp, by simp, by simp, by simp, by simp, Own.nil _ _, Fresh.app _ _ (by simp)⟩ ?_
  rintro j tm H' hj ⟨i, a', fp, hij, h7, h8, h9, h3, ho, ⟨⟨G, rfl⟩, hf⟩⟩ Q' hn' he' hr'
  simp [h7, h8, h9]
  refine selS_intro (fun hc => ?_) (fun hc => ?_)
  · simp at hc
    obtain ⟨id, r, bl, rfl, hbl, hbe, hrow⟩ := h i _ (by simp [hc]; rfl)
    have hid := blkAt_len hbl
    have g4 : IntKind.i64.wrap ((i : Int) + 1) = (i : Int) + 1 := wrap64 (by omega) (by omega)
    simp [h7, h8, h9, h3, indexAddrV, elemIs, hid, hbl, hbe, hc, hrow, Port.enc]
    refine stpL_append (rows := ((gates b).take i).map encB) (ys := [[.b b.ports[i].opn]]) (ho.app2 _) (Sl.of (by simp)) rfl rfl rfl (by simp) (by simp; omega) (by simp; omega) rfl fun a'' H'' fp'' ho'' hk'' hf'' => ?_
    simp [h7, h8, h9, g4]
    refine hn' (j - 1) _ _ (by omega) ⟨i + 1, a'', fp'', by omega, by simp [h7], by simp [h8], by simp, by simp, ?_, Fresh.grow hf hk'' hf''⟩
    simpa [List.take_add_one, gates, hc, encB] using ho''
  · simp at hc
    obtain rfl : i = b.ports.length := by omega
    simp [h7, h8, h9]
    refine he' _ _ _ ?_
    simp [h3]
    refine hQ _ _ _ (by simp) ?_
    rw [List.take_of_length_le (by simp)] at ho
    simp [Tryz.f80]
    exact leave_got (n := b.ports.length) ho (Fresh.app _ _ hf) (by simp)

theorem specGates (H : Heap) (a : Option (Nat × Nat)) (b : Bridge) (h : Sl H 142 a (b.ports.map Port.enc)) (hn : b.ports.length ≤ 1048576) :
    Runs env 69 [.agg (b.enc a)] H fun v H' => ∃ a' fp, v = .w (.lf (.sl a' (gates b).length)) ∧ Own H' 4 a' ((gates b).map encB) fp ∧ Fresh H H' fp := by
  refine Runs.walk ok69 Tryz.func69 rfl (by simp [Tryz.f69]) fun Q hQ => ?_
  simp only [Tryz.f69, strip, stripL, stripI, stripG, chkT, tagsB, tagsL, tagD, addT, tagA, lookN, tagOp, elmT, ty24, ty25, ty26, ty27, ty28, ty34, ty35, ty36, ty37, ty59, ty61, ty64, ty100, Nat.reduceEqDiff, if_false, reduceIte, Option.getD_some, Option.getD_none, dstAt, dstOk, Nat.reduceLT, decide_true, if_true]
  simp [Bridge.enc, builtinV, pureB, lenV]
  obtain ⟨H1, hH1⟩ : ∃ H1, H1 = H ++ [some ⟨102, .wr, [[.i .i64 b.id, .sl a b.ports.length]]⟩] := ⟨_, rfl⟩
  have hb1 : blkAt H1 H.length = some ⟨102, .wr, [[.i .i64 b.id, .sl a b.ports.length]]⟩ := by simp [hH1]
  have hl1 := blkAt_len hb1
  have h1 : Sl H1 142 a (b.ports.map Port.enc) := by rw [hH1]; exact h.app _
  refine wpS_loop (fun j tm H' => ∃ i a' fp, i + j = b.ports.length ∧ tm 1 = .ptr H.length 0 0 ∧ tm 4 = .int i ∧ tm 3 = .w (.lf (.sl a' i)) ∧ Own H' 4 a' (((gates b).take i).map encB) fp ∧ Fresh H1 H' fp) b.ports.length (by rw [env_K]; omega)
    ⟨0, some (H.length + 1, 0), [H.length + 1], by simp, by simp, by simp, by simp, Own.of (by simp), ⟨[some ⟨4, .wr, []⟩], by simp [hH1]⟩, by simp [hH1]⟩ ?_
  rintro j tm H' hj ⟨i, a', fp, hij, t1, t4, t3, ho, ⟨⟨G, rfl⟩, hf⟩⟩ Q' hn' he' hr'
  simp [t1, t4, t3, hb1, hl1, builtinV, pureB, lenV]
  refine selS_intro (fun hc => ?_) (fun hc => ?_)
  · simp at hc
    obtain ⟨id, r, bl, rfl, hbl, hbe, hrow⟩ := h1 i _ (by simp [hc]; rfl)
    have hid := blkAt_len hbl
    have g4 : IntKind.i64.wrap ((i : Int) + 1) = (i : Int) + 1 := wrap64 (by omega) (by omega)
    simp [t1, t4, t3, hb1, hl1, indexAddrV, elemIs, hid, hbl, hbe, hc, hrow, Port.enc]
    refine stpL_append (rows := ((gates b).take i).map encB) (ys := [[.b b.ports[i].opn]]) (ho.app2 _) (Sl.of (by simp)) rfl rfl rfl (by simp) (by simp; omega) (by simp; omega) rfl fun a'' H'' fp'' ho'' hk'' hf'' => ?_
    simp [t1, t4, g4]
    refine hn' (j - 1) _ _ (by omega) ⟨i + 1, a'', fp'', by omega, by simp [t1], by simp, by simp, ?_, Fresh.grow hf hk'' hf''⟩
    simpa [List.take_add_one, gates, hc, encB] using ho''
  · simp at hc
    obtain rfl : i = b.ports.length := by omega
    simp [t1, t4, t3]
    refine he' _ _ _ ?_
    simp [t3]
    refine hQ _ _ _ (by simp) ?_
    rw [List.take_of_length_le (by simp)] at ho
    have hf : Fresh H (H1 ++ G) fp := by
      have := Fresh.app H1 G hf
      rw [hH1] at this ⊢
      exact this.base
    simp [Tryz.f69]
    exact leave_got (n := b.ports.length) ho hf (by simp)

theorem implGates_is {H : Heap} {l : List Lf} {b : Bridge} (h : RdBridge H l b) (hn : b.sz ≤ 1048576) : Runs env 80 [.agg l] H fun v H' => ∃ q fp, v = .w (.lf q) ∧ IsBoolS H' q (gates b) fp ∧ Fresh H H' fp := by
  obtain ⟨a, rfl, h⟩ := h
  exact (implGates H a b h hn).mono fun v H' ⟨a', fp, h1, h2, h3⟩ => ⟨_, fp, h1, ⟨a', rfl, h2⟩, h3⟩

theorem specGates_is {H : Heap} {l : List Lf} {b : Bridge} (h : RdBridge H l b) (hn : b.sz ≤ 1048576) : Runs env 69 [.agg l] H fun v H' => ∃ q fp, v = .w (.lf q) ∧ IsBoolS H' q (gates b) fp ∧ Fresh H H' fp := by
  obtain ⟨a, rfl, h⟩ := h
  exact (specGates H a b h hn).mono fun v H' ⟨a', fp, h1, h2, h3⟩ => ⟨_, fp, h1, ⟨a', rfl, h2⟩, h3⟩

theorem implMinderOk_is {H : Heap} {l : List Lf} {m : Minder} (h : RdMinder H l m) (hn : m.sz ≤ 2000000) : run env 107 [.agg l] H = some (.bool m.ok, H) := by
  obtain ⟨a, rfl, h⟩ := h
  exact implMinderOk H a m h hn

theorem specMinderOk_is {H : Heap} {l : List Lf} {m : Minder} (h : RdMinder H l m) (hn : m.sz ≤ 2000000) : run env 95 [.agg l] H = some (.bool m.ok, H) := by
  obtain ⟨a, rfl, h⟩ := h
  exact specMinderOk H a m h hn

def minds (r : Reg) (s : Int) (m : Minder) : Bool := r.ok && m.ok && m.up && decide (s = r.owner) && decide (m.epoch = r.epoch)

theorem implMinds_is {H : Heap} {l : List Lf} {m : Minder} (h : RdMinder H l m) (hn : m.sz ≤ 1048576) (r : Reg) (s : Int) (_ : I64 s) : run env 128 [.agg r.enc, .int s, .agg l] H = some (.bool (minds r s m), H) := by
  have e := fun G => implMinderOk_is (h.app G) (by omega)
  have e2 := fun H => implRegOk H r
  obtain ⟨a, rfl, h⟩ := h
  have hp : r.ok = true → 1 ≤ r.epoch := by simp [Reg.ok]; omega
  simp only [Reg.enc, Minder.enc] at e e2 ⊢
  refine run_walk ok128 Tryz.func128 rfl (by simp [Tryz.f128]) fun Q hQ => ?_
  simp only [Tryz.f128, strip, stripL, stripI, stripG, chkT, tagsB, tagsL, tagD, addT, tagA, lookN, tagOp, elmT, ty24, ty25, ty26, ty27, ty28, ty34, ty35, ty36, ty37, ty59, ty61, ty64, ty100, Nat.reduceEqDiff, if_false, reduceIte, Option.getD_some, Option.getD_none, dstAt, dstOk, Nat.reduceLT, decide_true, if_true]
  simp [Minder.enc, Reg.enc, e2]
  repeat' (first | (refine gdL_t (fun h => ?_) (fun h => ?_) <;> simp [h, e, e2]) | (refine gdL_f (fun h => ?_) (fun h => ?_) <;> simp [h, e, e2]) | (refine selS_intro (fun h => ?_) (fun h => ?_) <;> simp [h, e, e2]))
  all_goals (refine hQ _ _ _ (by simp) ?_)
  all_goals (clear hQ; simp_all [Tryz.f128, minds])
  all_goals (try omega)

theorem specMinds_is {H : Heap} {l : List Lf} {m : Minder} (h : RdMinder H l m) (hn : m.sz ≤ 1048576) (r : Reg) (s : Int) (_ : I64 s) : run env 123 [.agg r.enc, .int s, .agg l] H = some (.bool (minds r s m), H) := by
  have e := fun G => specMinderOk_is (h.app G) (by omega)
  have e2 := fun H => specRegOk H r
  obtain ⟨a, rfl, h⟩ := h
  simp only [Reg.enc, Minder.enc] at e e2 ⊢
  refine run_walk ok123 Tryz.func123 rfl (by simp [Tryz.f123]) fun Q hQ => ?_
  simp only [Tryz.f123, strip, stripL, stripI, stripG, chkT, tagsB, tagsL, tagD, addT, tagA, lookN, tagOp, elmT, ty24, ty25, ty26, ty27, ty28, ty34, ty35, ty36, ty37, ty59, ty61, ty64, ty100, Nat.reduceEqDiff, if_false, reduceIte, Option.getD_some, Option.getD_none, dstAt, dstOk, Nat.reduceLT, decide_true, if_true]
  simp [Minder.enc, Reg.enc, e2]
  repeat' (first | (refine gdL_t (fun h => ?_) (fun h => ?_) <;> simp [h, e, e2]) | (refine gdL_f (fun h => ?_) (fun h => ?_) <;> simp [h, e, e2]) | (refine selS_intro (fun h => ?_) (fun h => ?_) <;> simp [h, e, e2]))
  all_goals (refine hQ _ _ _ (by simp) ?_)
  all_goals (clear hQ; simp_all [Tryz.f123, minds])
  all_goals (try omega)

theorem okMinder : RepOk IsMinder := ⟨fun h hk hd => h.keep hk hd, fun h => h.lt, fun h => h.nodup⟩
theorem unMinder : UnOk IsMinder := fun ⟨a, h1, h2⟩ hf => ⟨a, h1, h2.unapp hf⟩
abbrev IsMinderS := IsL 111 IsMinder
abbrev RdMinderS := RdL 111 RdMinder
abbrev RdLMinderS := RdL 98 RdLMinder
def MinderS.sz (xs : List Minder) : Nat := xs.length + (xs.map Minder.sz).sum
theorem MinderS.sz_len (xs : List Minder) : xs.length ≤ MinderS.sz xs := by unfold MinderS.sz; omega
theorem MinderS.sz_at {xs : List Minder} {x : Minder} (h : x ∈ xs) : x.sz ≤ MinderS.sz xs := by
  have key : ∀ {ys : List Minder}, x ∈ ys → x.sz ≤ (ys.map Minder.sz).sum := by
    intro ys hy
    induction ys with
    | nil => simp at hy
    | cons y ys ih =>
      simp only [List.map_cons, List.sum_cons]
      rcases List.mem_cons.1 hy with rfl | hy
      · omega
      · have := ih hy; omega
  have := key h
  unfold MinderS.sz
  omega
def MinderS.ps (xs : List Minder) (i : Nat) : Nat := ((xs.take i).map Minder.sz).sum
theorem MinderS.ps_zero (xs : List Minder) : MinderS.ps xs 0 = 0 := by simp [MinderS.ps]
theorem MinderS.ps_succ (xs : List Minder) {i : Nat} (h : i < xs.length) : MinderS.ps xs (i + 1) = MinderS.ps xs i + xs[i].sz := by
  unfold MinderS.ps
  rw [List.take_add_one, List.getElem?_eq_getElem h, List.map_append, List.sum_append]
  simp
theorem MinderS.ps_le (xs : List Minder) (i : Nat) : xs.length + MinderS.ps xs i ≤ MinderS.sz xs := by
  have := congrArg (fun l => (l.map Minder.sz).sum) (List.take_append_drop i xs)
  simp only [List.map_append, List.sum_append] at this
  unfold MinderS.ps MinderS.sz
  omega
theorem MinderS.ps_len (xs : List Minder) : xs.length + MinderS.ps xs xs.length = MinderS.sz xs := by unfold MinderS.ps MinderS.sz; rw [List.take_length]
def MinderS.fit (xs : List Minder) : Prop := xs.length ≤ maxLen ∧ ∀ x ∈ xs, x.fit
theorem RdMinderS_base {H H' : Heap} {q : Lf} {xs : List Minder} (h : RdMinderS H q xs) (hk : Keep [] H H') : RdMinderS H' q xs := RdL.base h (fun h hk => h.base hk) hk
theorem RdLMinderS_base {H H' : Heap} {q : Lf} {xs : List Minder} (h : RdLMinderS H q xs) (hk : Keep [] H H') : RdLMinderS H' q xs := RdL.base h (fun h hk => h.base hk) hk
theorem IsMinderS_rd {H : Heap} {q : Lf} {xs : List Minder} {fp : List Nat} (h : IsMinderS H q xs fp) : RdMinderS H q xs := IsL.rd h fun h => h.rd

theorem toMinderS_is {H : Heap} {q : Lf} {xs : List Minder} (h : RdLMinderS H q xs) (hn : MinderS.sz xs ≤ 1048576) :
    Runs env 34 [.w (.lf q)] H fun v H' => ∃ q' fp, v = .w (.lf q') ∧ IsMinderS H' q' xs fp ∧ Fresh H H' fp := by
  have hR := h
  obtain ⟨a, rws, rfl, hs, hlen, hat⟩ := h
  have hl := MinderS.sz_len xs
  refine Runs.walk ok34 Tryz.func34 rfl (by simp [Tryz.f34]) fun Q hQ => ?_
  simp only [Tryz.f34, strip, stripL, stripI, stripG, chkT, tagsB, tagsL, tagD, addT, tagA, lookN, tagOp, elmT, ty24, ty25, ty26, ty27, ty28, ty34, ty35, ty36, ty37, ty59, ty61, ty64, ty100, Nat.reduceEqDiff, if_false, reduceIte, Option.getD_some, Option.getD_none, dstAt, dstOk, Nat.reduceLT, decide_true, if_true]
  have k1 : (xs.length : Int) * 72 ≤ 281474976710656 := by omega
  have k2 : (xs.length : Int) ≤ 9223372036854775807 := by omega
  simp [builtinV, pureB, lenV, makeSliceV, makeSliceR, newBlk, k1, k2]
  obtain ⟨z, hz⟩ : ∃ z, z = ([.b false, .i .i64 0, .i .i64 0, .sl none 0, .i .i64 0, .i .i64 0, .i .i64 0] : List Lf) := ⟨_, rfl⟩
  refine wpS_loop (fun j tm H' => ∃ i rows fps, i + j = xs.length ∧ tm 0 = .w (.lf (.sl a xs.length)) ∧ tm 3 = .sl H.length 0 xs.length ∧ tm 4 = .int i ∧ blkAt H' H.length = some ⟨111, .wr, rows ++ List.replicate j z⟩ ∧ Part IsMinder H' rows (xs.take i) fps ∧ (∀ k ∈ fps.flatten, H.length < k) ∧ Keep [] H H') xs.length (by rw [env_K]; omega)
    ⟨0, [], [], by simp, by simp, by simp, by simp, by simp [hz], Part.nil _ _, by simp, Keep.app _ _ _⟩ ?_
  rintro j tm H' hj ⟨i, rows, fps, hij, t0, t3, t4, hb, hp, hlo, hk⟩ Q' hn' he' hr'
  simp [t0, t3, t4, builtinV, pureB, lenV]
  refine selS_intro (fun hc => ?_) (fun hc => ?_)
  · simp at hc
    obtain ⟨j, rfl⟩ : ∃ j', j = j' + 1 := ⟨j - 1, by omega⟩
    have hri : i < rws.length := by omega
    obtain ⟨id, r, bl, rfl, hbl, hbe, hrow⟩ := hs i _ (List.getElem?_eq_getElem hri)
    have he := hat i _ _ (List.getElem?_eq_getElem hri) (List.getElem?_eq_getElem hc)
    have hL := he.len
    have hT : rws[i].take rws[i].length = rws[i] := List.take_length
    rw [hL] at hT
    have hbl' := hk.blk hbl (by simp)
    have hbH := blkAt_len hb
    have g4 : IntKind.i64.wrap ((i : Int) + 1) = (i : Int) + 1 := wrap64 (by omega) (by omega)
    simp [t0, t3, t4, indexAddrV, elemIs, hbl', hbe, hc, hrow, hL, hT]
    have hsz := MinderS.sz_at (List.getElem_mem hc)
    refine stpL_runs (toMinder_is (he.base hk) (by omega)) ?_
    rintro _ H2 ⟨l2, f2, rfl, o2, fr2⟩
    have hb2 := fr2.kp.blk hb (by simp)
    have hb2L := blkAt_len hb2
    have hl2 := o2.len
    have hrl : rows.length = i := by rw [hp.len]; simp; omega
    have hget : (rows ++ List.replicate (j + 1) z)[i]? = some z := by
      rw [List.getElem?_append_right (by omega), hrl]; simp
    have hset : (rows ++ List.replicate (j + 1) z).set i l2 = (rows ++ [l2]) ++ List.replicate j z := by
      rw [List.set_append_right _ _ (by omega), hrl]; simp [List.replicate_succ]
    have hzl : z.length = 7 := by rw [hz]; rfl
    have hdrop : z.drop 7 = [] := by rw [hz]; rfl
    simp [t0, t3, t4, indexAddrV, hb2, hb2L, hget, hl2, hzl, hdrop, hset, hc, elemIs, g4]
    refine hn' j _ _ (by omega) ⟨i + 1, rows ++ [l2], fps ++ [f2], by omega, by simp [t0], by simp [t3], by simp, ?_, ?_, ?_, ?_⟩
    · rw [blkAt_set hb2L]; simp
    · have hd := hp.lt okMinder
      have h1 := (hp.keep okMinder fr2.kp (by simp)).snoc (x := xs[i]) okMinder o2 (fun k hk' hk2 => by have := hd k hk2; have := fr2.2 k hk'; omega)
      have h2 := h1.keep okMinder (Keep.set (id := H.length) H2 (some ⟨111, .wr, (rows ++ [l2]) ++ List.replicate j z⟩)) (fun k hk' => by
        simp at hk'
        rcases hk' with ⟨g, hg, hkg⟩ | hk'
        · have := hlo k (List.mem_flatten.2 ⟨g, hg, hkg⟩); simp; omega
        · have := fr2.2 k hk'; simp; omega)
      rw [List.take_add_one, List.getElem?_eq_getElem hc]
      simpa using h2
    · intro k hk'
      simp at hk'
      rcases hk' with ⟨g, hg, hkg⟩ | hk'
      · exact hlo k (List.mem_flatten.2 ⟨g, hg, hkg⟩)
      · have := fr2.2 k hk'; omega
    · exact (hk.next fr2.kp (by simp)).next (Keep.set _ _) (by simp)
  · simp at hc
    have hj0 : j = 0 := by omega
    subst hj0
    simp [t0, t3, t4]
    refine he' _ _ _ ?_
    simp [t3]
    refine hQ _ _ _ (by simp) ?_
    have hi : i = xs.length := by omega
    subst hi
    rw [List.take_length] at hp
    simp [Tryz.f34]
    have ho : IsMinderS H' (.sl (some (H.length, 0)) xs.length) xs ([H.length] ++ fps.flatten) := ⟨_, rows, [H.length], fps, rfl, Own.of (by simpa using hb), hp, rfl, by
      simp only [List.singleton_append, List.nodup_cons]
      exact ⟨fun hm => by have := hlo _ hm; omega, hp.nodup⟩⟩
    have hf : Fresh H H' ([H.length] ++ fps.flatten) := ⟨hk.ext, fun k hk' => by
      simp only [List.singleton_append, List.mem_cons] at hk'
      rcases hk' with rfl | hk'
      · exact Nat.le_refl _
      · have := hlo k hk'; omega⟩
    rcases leave_opt H H' [W.lf (Lf.sl (some (H.length, 0)) xs.length)] with e | ⟨e, hr⟩
    · rw [e]; exact ⟨_, ho, hf⟩
    · simp [refFree] at hr

theorem szMinderS_is {H : Heap} {q : Lf} {xs : List Minder} (h : RdLMinderS H q xs) (hf : MinderS.fit xs) {left : Int} (h1 : 0 ≤ left) (h2 : left ≤ 1048576) :
    run env 25 [.w (.lf q), .int left] H = some (.int (if left < MinderS.sz xs then -1 else left - MinderS.sz xs), H) := by
  obtain ⟨a, rws, rfl, hs, hlen, hat⟩ := h
  have hm : (xs.length : Int) ≤ 9223372036854775807 := by have := hf.1; unfold maxLen at this; omega
  have hS := MinderS.ps_le xs
  refine run_walk ok25 Tryz.func25 rfl (by simp [Tryz.f25]) fun Q hQ => ?_
  simp only [Tryz.f25, strip, stripL, stripI, stripG, chkT, tagsB, tagsL, tagD, addT, tagA, lookN, tagOp, elmT, ty24, ty25, ty26, ty27, ty28, ty34, ty35, ty36, ty37, ty59, ty61, ty64, ty100, Nat.reduceEqDiff, if_false, reduceIte, Option.getD_some, Option.getD_none, dstAt, dstOk, Nat.reduceLT, decide_true, if_true]
  have g : IntKind.i64.wrap (left - xs.length) = left - xs.length := wrap64 (by omega) (by omega)
  simp [builtinV, pureB, lenV, g]
  refine selS_intro (fun hc => ?_) (fun hc => ?_)
  · simp at hc
    simp
    refine hQ _ _ _ (by simp) ?_
    simp [Tryz.f25, MinderS.sz]
    omega
  simp at hc
  simp
  refine wpS_loop (fun j tm H' => ∃ i, i + j = xs.length ∧ tm 0 = .w (.lf (.sl a xs.length)) ∧ tm 1 = .int (left - xs.length - MinderS.ps xs i) ∧ tm 5 = .int i ∧ H' = H ∧ 0 ≤ left - xs.length - MinderS.ps xs i) xs.length (by rw [env_K]; omega)
    ⟨0, by simp, by simp, by simp [MinderS.ps_zero], by simp, rfl, by rw [MinderS.ps_zero]; omega⟩ ?_
  rintro j tm H' hj ⟨i, hij, t0, t1, t5, rfl, hpos⟩ Q' hn' he' hr'
  simp [t0, t1, t5, builtinV, pureB, lenV]
  refine selS_intro (fun hc => ?_) (fun hc => ?_)
  · simp at hc
    have hri : i < rws.length := by omega
    obtain ⟨id, r, bl, rfl, hbl, hbe, hrow⟩ := hs i _ (List.getElem?_eq_getElem hri)
    have he := hat i _ _ (List.getElem?_eq_getElem hri) (List.getElem?_eq_getElem hc)
    have hL := he.len
    have hT : rws[i].take rws[i].length = rws[i] := List.take_length
    rw [hL] at hT
    have g4 : IntKind.i64.wrap ((i : Int) + 1) = (i : Int) + 1 := wrap64 (by omega) (by omega)
    have es := szMinder_is he (hf.2 _ (List.getElem_mem hc)) hpos (by omega) []
    simp only [List.append_nil] at es
    have hS1 := MinderS.ps_succ xs hc
    have hS2 := hS (i + 1)
    simp [t0, t1, t5, indexAddrV, elemIs, hbl, hbe, hc, hrow, hL, hT, es]
    by_cases hb : left - (xs.length : Int) - (MinderS.ps xs i : Int) < (xs[i].sz : Int)
    · simp [hb]
      refine hr' _ _ ?_
      simp
      refine hQ _ _ _ (by simp) ?_
      simp [Tryz.f25]
      omega
    · have hz : ¬ (left - (xs.length : Int) - (MinderS.ps xs i : Int) - (xs[i].sz : Int) < 0) := by omega
      simp [hb, hz, t0, t1, t5, g4]
      exact hn' (j - 1) _ _ (by omega) ⟨i + 1, by omega, by simp [t0], by simp [hS1]; omega, by simp, rfl, by omega⟩
  · simp at hc
    simp [t0, t1, t5]
    refine he' _ _ _ ?_
    simp [t1]
    refine hQ _ _ _ (by simp) ?_
    have hi : i = xs.length := by omega
    subst hi
    have hp := MinderS.ps_len xs
    simp [Tryz.f25]
    rw [if_neg (by omega)]
    omega

theorem shpMinderS_is {H : Heap} {k : Nat} {l : List Lf} (h : Shp Tryz.prog H (k + 6) 24 l) : ∃ (q : Lf) (xs : List Minder), l = [q] ∧ RdLMinderS H q xs ∧ MinderS.fit xs := by
  rcases h.slice Tryz.underlying24 with rfl | ⟨id, b, rfl, hb, he, hm, hrows⟩
  · exact ⟨_, [], rfl, ⟨none, [], rfl, Sl.nil _ _ _, rfl, by simp⟩, by simp [MinderS.fit]⟩
  · have key : ∀ rows : List (List Lf), (∀ row ∈ rows, Shp Tryz.prog H (k + 5) 98 row) → ∃ xs : List Minder, rows.length = xs.length ∧ (∀ (i : Nat) (row : List Lf) (x : Minder), rows[i]? = some row → xs[i]? = some x → RdLMinder H row x) ∧ ∀ x ∈ xs, x.fit := by
      intro rows
      induction rows with
      | nil => intro _; exact ⟨[], rfl, by simp, by simp⟩
      | cons row rows ih =>
        intro hr
        obtain ⟨x, h1, h2⟩ := shpMinder_is (hr row (by simp))
        obtain ⟨xs, h3, h4, h5⟩ := ih fun r hr' => hr r (by simp [hr'])
        refine ⟨x :: xs, by simp [h3], fun i row' x' a1 a2 => ?_, ?_⟩
        · cases i with
          | zero => simp at a1 a2; subst a1; subst a2; exact h1
          | succ i => exact h4 i row' x' (by simpa using a1) (by simpa using a2)
        · intro y hy
          rcases List.mem_cons.1 hy with rfl | hy
          · exact h2
          · exact h5 y hy
    obtain ⟨xs, h1, h2, h3⟩ := key b.rows hrows
    refine ⟨_, xs, rfl, ⟨some (id, 0), b.rows, by rw [h1], fun i row hi => ⟨id, 0, b, rfl, hb, he, by simpa using hi⟩, h1, h2⟩, by rw [← h1]; exact hm, h3⟩

theorem eqMinderS_is {H : Heap} {q r : Lf} {xs ys : List Minder} (h : RdMinderS H q xs) (h2 : RdMinderS H r ys) (hn : MinderS.sz xs ≤ 1048576) : run env 43 [.w (.lf q), .w (.lf r)] H = some (.bool (decide (xs = ys)), H) := by
  obtain ⟨a, rws, rfl, hs, hlen, hat⟩ := h
  obtain ⟨b, rws2, rfl, hs2, hlen2, hat2⟩ := h2
  have hl := MinderS.sz_len xs
  refine run_walk ok43 Tryz.func43 rfl (by simp [Tryz.f43]) fun Q hQ => ?_
  simp only [Tryz.f43, strip, stripL, stripI, stripG, chkT, tagsB, tagsL, tagD, addT, tagA, lookN, tagOp, elmT, ty24, ty25, ty26, ty27, ty28, ty34, ty35, ty36, ty37, ty59, ty61, ty64, ty100, Nat.reduceEqDiff, if_false, reduceIte, Option.getD_some, Option.getD_none, dstAt, dstOk, Nat.reduceLT, decide_true, if_true]
  simp [builtinV, pureB, lenV]
  refine selS_intro (fun hl => ?_) (fun hl => ?_)
  · simp
    refine hQ _ _ _ (by simp) ?_
    simp at hl
    have : ¬ xs = ys := fun h => hl (by rw [h])
    simp [Tryz.f43, this]
  simp at hl
  simp
  refine wpS_loop (fun j tm H' => ∃ i, i + j = xs.length ∧ tm 0 = .w (.lf (.sl a xs.length)) ∧ tm 1 = .w (.lf (.sl b ys.length)) ∧ tm 5 = .int i ∧ H' = H ∧ xs.take i = ys.take i) xs.length (by rw [env_K]; omega) ⟨0, by simp, by simp, by simp, by simp, rfl, by simp⟩ ?_
  rintro j tm H' hj ⟨i, hij, h0, h1, h5, rfl, heq⟩ Q' hn' he' hr'
  simp [h0, h1, h5, builtinV, pureB, lenV]
  refine selS_intro (fun hc => ?_) (fun hc => ?_)
  · simp at hc
    have hc2 : i < ys.length := by omega
    have hri : i < rws.length := by omega
    have hri2 : i < rws2.length := by omega
    obtain ⟨id, r, bl, rfl, hbl, hbe, hrow⟩ := hs i _ (List.getElem?_eq_getElem hri)
    obtain ⟨id2, r2, bl2, rfl, hbl2, hbe2, hrow2⟩ := hs2 i _ (List.getElem?_eq_getElem hri2)
    have he := hat i _ _ (List.getElem?_eq_getElem hri) (List.getElem?_eq_getElem hc)
    have he2 := hat2 i _ _ (List.getElem?_eq_getElem hri2) (List.getElem?_eq_getElem hc2)
    have hL := he.len
    have hT : rws[i].take rws[i].length = rws[i] := List.take_length
    rw [hL] at hT
    have hL2 := he2.len
    have hT2 : rws2[i].take rws2[i].length = rws2[i] := List.take_length
    rw [hL2] at hT2
    have g4 : IntKind.i64.wrap ((i : Int) + 1) = (i : Int) + 1 := wrap64 (by omega) (by omega)
    have hsz := MinderS.sz_at (List.getElem_mem hc)
    have ee := eqMinder_is he he2 (by omega)
    simp [h0, h1, h5, indexAddrV, elemIs, hbl, hbe, hbl2, hbe2, hc, hc2, hrow, hrow2, hL, hT, hL2, hT2, ee]
    refine selS_intro (fun hd => ?_) (fun hd => ?_)
    · simp
      refine hr' _ _ ?_
      simp
      refine hQ _ _ _ (by simp) ?_
      simp at hd
      have : ¬ xs = ys := fun h => by subst h; simp at hd
      simp [Tryz.f43, this]
    · simp at hd
      simp [h0, h1, h5, g4]
      exact hn' (j - 1) _ _ (by omega) ⟨i + 1, by omega, by simp [h0], by simp [h1], by simp, rfl, by rw [List.take_add_one, List.take_add_one, heq]; simp [hc, hc2, hd]⟩
  · simp at hc
    simp [h0, h1, h5]
    refine he' _ _ _ ?_
    simp
    refine hQ _ _ _ (by simp) ?_
    have : xs = ys := by
      rw [List.take_of_length_le (by omega), List.take_of_length_le (by omega)] at heq
      exact heq
    simp [Tryz.f43, this]

structure Box where
  id : Int
  ports : Int
  reg : Reg
  two : List Minder
  net : List Wire
  gates : List Bool
  line : List In
  said : List Out
  deriving DecidableEq, Inhabited
def Box.enc (x : Box) (q0 q1 q2 q3 q4 : Lf) : List Lf := [.i .i64 x.id, .i .i64 x.ports, .i .i64 x.reg.epoch, .i .i64 x.reg.owner, .i .i64 x.reg.pair, q0, q1, q2, q3, q4]
@[simp] theorem Box.enc_len (x : Box) (q0 q1 q2 q3 q4 : Lf) : (x.enc q0 q1 q2 q3 q4).length = 10 := rfl
@[simp] theorem Box.enc_take (x : Box) (q0 q1 q2 q3 q4 : Lf) : List.take 10 (x.enc q0 q1 q2 q3 q4) = x.enc q0 q1 q2 q3 q4 := rfl

def IsBox (H : Heap) (l : List Lf) (x : Box) (fp : List Nat) : Prop := ∃ q0 q1 q2 q3 q4 f0 f1 f2 f3 f4, l = x.enc q0 q1 q2 q3 q4 ∧ IsMinderS H q0 x.two f0 ∧ IsWireS H q1 x.net f1 ∧ IsBoolS H q2 x.gates f2 ∧ IsInS H q3 x.line f3 ∧ IsOutS H q4 x.said f4 ∧ fp = f0 ++ (f1 ++ (f2 ++ (f3 ++ (f4)))) ∧ fp.Nodup
def RdBox (H : Heap) (l : List Lf) (x : Box) : Prop := ∃ q0 q1 q2 q3 q4, l = x.enc q0 q1 q2 q3 q4 ∧ RdMinderS H q0 x.two ∧ RdWireS H q1 x.net ∧ RdBoolS H q2 x.gates ∧ RdInS H q3 x.line ∧ RdOutS H q4 x.said
def RdLBox (H : Heap) (l : List Lf) (x : Box) : Prop := ∃ q0 q1 q2 q3 q4, l = x.enc q0 q1 q2 q3 q4 ∧ RdLMinderS H q0 x.two ∧ RdLWireS H q1 x.net ∧ RdLBoolS H q2 x.gates ∧ RdLInS H q3 x.line ∧ RdLOutS H q4 x.said
def Box.sz (x : Box) : Nat := MinderS.sz x.two + x.net.length + x.gates.length + x.line.length + x.said.length
def Box.fit (x : Box) : Prop := MinderS.fit x.two ∧ x.net.length ≤ maxLen ∧ x.gates.length ≤ maxLen ∧ x.line.length ≤ maxLen ∧ x.said.length ≤ maxLen
section
variable {H H' : Heap} {l : List Lf} {x : Box} {fp : List Nat}
theorem IsBox.keep {f : List Nat} (h : IsBox H l x fp) (hk : Keep f H H') (hd : ∀ i ∈ fp, i ∉ f) : IsBox H' l x fp := by
  obtain ⟨q0, q1, q2, q3, q4, f0, f1, f2, f3, f4, rfl, h0, h1, h2, h3, h4, rfl, hnd⟩ := h
  exact ⟨q0, q1, q2, q3, q4, f0, f1, f2, f3, f4, rfl, h0.keep okMinder hk (fun i hi => hd i (by simp [hi])), h1.keep hk (fun i hi => hd i (by simp [hi])), h2.keep hk (fun i hi => hd i (by simp [hi])), h3.keep hk (fun i hi => hd i (by simp [hi])), h4.keep hk (fun i hi => hd i (by simp [hi])), rfl, hnd⟩
theorem IsBox.app (h : IsBox H l x fp) (G : Heap) : IsBox (H ++ G) l x fp := h.keep (Keep.app [] H G) (by simp)
theorem IsBox.lt (h : IsBox H l x fp) : ∀ i ∈ fp, i < H.length := by
  obtain ⟨q0, q1, q2, q3, q4, f0, f1, f2, f3, f4, rfl, h0, h1, h2, h3, h4, rfl, hnd⟩ := h
  intro i hi
  simp at hi
  rcases hi with hi | hi | hi | hi | hi
  · exact h0.lt okMinder i hi
  · exact h1.lt i hi
  · exact h2.lt i hi
  · exact h3.lt i hi
  · exact h4.lt i hi
theorem IsBox.nodup (h : IsBox H l x fp) : fp.Nodup := by
  obtain ⟨q0, q1, q2, q3, q4, f0, f1, f2, f3, f4, rfl, h0, h1, h2, h3, h4, rfl, hnd⟩ := h
  exact hnd
theorem IsBox.rd (h : IsBox H l x fp) : RdBox H l x := by
  obtain ⟨q0, q1, q2, q3, q4, f0, f1, f2, f3, f4, rfl, h0, h1, h2, h3, h4, rfl, hnd⟩ := h
  exact ⟨q0, q1, q2, q3, q4, rfl, IsMinderS_rd h0, h1.rd, h2.rd, h3.rd, h4.rd⟩
theorem RdBox.base (h : RdBox H l x) (hk : Keep [] H H') : RdBox H' l x := by
  obtain ⟨q0, q1, q2, q3, q4, rfl, h0, h1, h2, h3, h4⟩ := h
  exact ⟨q0, q1, q2, q3, q4, rfl, RdMinderS_base h0 hk, h1.base hk, h2.base hk, h3.base hk, h4.base hk⟩
theorem RdBox.app (h : RdBox H l x) (G : Heap) : RdBox (H ++ G) l x := h.base (Keep.app _ _ _)
theorem RdBox.len (h : RdBox H l x) : l.length = 10 := by
  obtain ⟨q0, q1, q2, q3, q4, rfl, h0, h1, h2, h3, h4⟩ := h
  rfl
theorem RdLBox.base (h : RdLBox H l x) (hk : Keep [] H H') : RdLBox H' l x := by
  obtain ⟨q0, q1, q2, q3, q4, rfl, h0, h1, h2, h3, h4⟩ := h
  exact ⟨q0, q1, q2, q3, q4, rfl, RdLMinderS_base h0 hk, h1.base hk, h2.base hk, h3.base hk, h4.base hk⟩
theorem RdLBox.app (h : RdLBox H l x) (G : Heap) : RdLBox (H ++ G) l x := h.base (Keep.app _ _ _)
theorem RdLBox.len (h : RdLBox H l x) : l.length = 10 := by
  obtain ⟨q0, q1, q2, q3, q4, rfl, h0, h1, h2, h3, h4⟩ := h
  rfl
theorem IsBox.len (h : IsBox H l x fp) : l.length = 10 := by
  obtain ⟨q0, q1, q2, q3, q4, f0, f1, f2, f3, f4, rfl, h0, h1, h2, h3, h4, rfl, hnd⟩ := h
  rfl
theorem IsBox.free (h : IsBox H' l x fp) (hr : l.all refFree = true) (H2 : Heap) : IsBox H2 l x [] := by
  obtain ⟨q0, q1, q2, q3, q4, f0, f1, f2, f3, f4, rfl, h0, h1, h2, h3, h4, rfl, hnd⟩ := h
  simp [Box.enc] at hr
  have a0 : IsMinderS H2 q0 x.two [] := by
    obtain ⟨e1, e2⟩ := h0.empty hr.1
    rw [e1, e2]
    exact IsL.emp _ _ _
  have a1 : IsWireS H2 q1 x.net [] := h1.free hr.2.1 H2
  have a2 : IsBoolS H2 q2 x.gates [] := h2.free hr.2.2.1 H2
  have a3 : IsInS H2 q3 x.line [] := h3.free hr.2.2.2.1 H2
  have a4 : IsOutS H2 q4 x.said [] := h4.free hr.2.2.2.2 H2
  exact ⟨q0, q1, q2, q3, q4, [], [], [], [], [], rfl, a0, a1, a2, a3, a4, by simp, by simp⟩
theorem IsBox.leave {ws : List W} (h : IsBox H' l x fp) (hf : Fresh H H' fp) (hw : ws.all W.free = true → l.all refFree = true) : ∃ fp', IsBox (leave H H' ws) l x fp' ∧ Fresh H (leave H H' ws) fp' := by
  rcases leave_opt H H' ws with e | ⟨e, hr⟩ <;> rw [e]
  · exact ⟨fp, h, hf⟩
  · exact ⟨[], h.free (hw hr) H, Fresh.refl H⟩
end

theorem szBox_at {H : Heap} {l : List Lf} {x : Box} (h : RdLBox H l x) (hf : x.fit) {left : Int} (h1 : 0 ≤ left) (h2 : left ≤ 1048576) :
    run env 6 [.agg l, .int left] H = some (.int (if left < x.sz then -1 else left - x.sz), H) := by
  obtain ⟨q0, q1, q2, q3, q4, rfl, r0, r1, r2, r3, r4⟩ := h
  obtain ⟨t0, t1, t2, t3, t4⟩ := hf
  refine run_walk ok6 Tryz.func6 rfl (by simp [Tryz.f6]) fun Q hQ => ?_
  simp only [Tryz.f6, strip, stripL, stripI, stripG, chkT, tagsB, tagsL, tagD, addT, tagA, lookN, tagOp, elmT, ty24, ty25, ty26, ty27, ty28, ty34, ty35, ty36, ty37, ty59, ty61, ty64, ty100, Nat.reduceEqDiff, if_false, reduceIte, Option.getD_some, Option.getD_none, dstAt, dstOk, Nat.reduceLT, decide_true, if_true]
  simp [Box.enc]
  have e0 := fun G' => szMinderS_is (RdLMinderS_base r0 (Keep.app [] _ G')) t0 (left := left) (by omega) (by omega)
  simp [e0]
  by_cases b0 : left < ((MinderS.sz x.two : Nat) : Int)
  · simp [b0]
    refine hQ _ _ _ (by simp) ?_
    simp [Tryz.f6, Box.sz]
    omega
  have z0 : ¬ ((left - ((MinderS.sz x.two : Nat) : Int)) < 0) := by omega
  simp [b0, z0, Box.enc]
  obtain ⟨a1, rfl, s1⟩ := r1
  have e1 := fun H => szWireS H a1 x.net.length ((left - ((MinderS.sz x.two : Nat) : Int))) (by omega) (by omega) t1
  simp [e1]
  by_cases b1 : (left - ((MinderS.sz x.two : Nat) : Int)) < ((x.net.length : Nat) : Int)
  · simp [b1]
    refine hQ _ _ _ (by simp) ?_
    simp [Tryz.f6, Box.sz]
    omega
  have z1 : ¬ (((left - ((MinderS.sz x.two : Nat) : Int)) - ((x.net.length : Nat) : Int)) < 0) := by omega
  simp [b1, z1, Box.enc]
  obtain ⟨a2, rfl, s2⟩ := r2
  have e2 := fun H => szBoolS H a2 x.gates.length (((left - ((MinderS.sz x.two : Nat) : Int)) - ((x.net.length : Nat) : Int))) (by omega) (by omega) t2
  simp [e2]
  by_cases b2 : ((left - ((MinderS.sz x.two : Nat) : Int)) - ((x.net.length : Nat) : Int)) < ((x.gates.length : Nat) : Int)
  · simp [b2]
    refine hQ _ _ _ (by simp) ?_
    simp [Tryz.f6, Box.sz]
    omega
  have z2 : ¬ ((((left - ((MinderS.sz x.two : Nat) : Int)) - ((x.net.length : Nat) : Int)) - ((x.gates.length : Nat) : Int)) < 0) := by omega
  simp [b2, z2, Box.enc]
  obtain ⟨a3, rfl, s3⟩ := r3
  have e3 := fun H => szInS H a3 x.line.length ((((left - ((MinderS.sz x.two : Nat) : Int)) - ((x.net.length : Nat) : Int)) - ((x.gates.length : Nat) : Int))) (by omega) (by omega) t3
  simp [e3]
  by_cases b3 : (((left - ((MinderS.sz x.two : Nat) : Int)) - ((x.net.length : Nat) : Int)) - ((x.gates.length : Nat) : Int)) < ((x.line.length : Nat) : Int)
  · simp [b3]
    refine hQ _ _ _ (by simp) ?_
    simp [Tryz.f6, Box.sz]
    omega
  have z3 : ¬ (((((left - ((MinderS.sz x.two : Nat) : Int)) - ((x.net.length : Nat) : Int)) - ((x.gates.length : Nat) : Int)) - ((x.line.length : Nat) : Int)) < 0) := by omega
  simp [b3, z3, Box.enc]
  obtain ⟨a4, rfl, s4⟩ := r4
  have e4 := fun H => szOutS H a4 x.said.length (((((left - ((MinderS.sz x.two : Nat) : Int)) - ((x.net.length : Nat) : Int)) - ((x.gates.length : Nat) : Int)) - ((x.line.length : Nat) : Int))) (by omega) (by omega) t4
  simp [e4]
  by_cases b4 : ((((left - ((MinderS.sz x.two : Nat) : Int)) - ((x.net.length : Nat) : Int)) - ((x.gates.length : Nat) : Int)) - ((x.line.length : Nat) : Int)) < ((x.said.length : Nat) : Int)
  · simp [b4]
    refine hQ _ _ _ (by simp) ?_
    simp [Tryz.f6, Box.sz]
    omega
  have z4 : ¬ ((((((left - ((MinderS.sz x.two : Nat) : Int)) - ((x.net.length : Nat) : Int)) - ((x.gates.length : Nat) : Int)) - ((x.line.length : Nat) : Int)) - ((x.said.length : Nat) : Int)) < 0) := by omega
  simp [b4, z4, Box.enc]
  have hfin : ¬ (left < (x.sz : Int)) := by unfold Box.sz; omega
  refine hQ _ _ _ (by simp) ?_
  simp [Tryz.f6, hfin]
  unfold Box.sz
  omega
theorem szBox_is {H : Heap} {l : List Lf} {x : Box} (h : RdLBox H l x) (hf : x.fit) {left : Int} (h1 : 0 ≤ left) (h2 : left ≤ 1048576) (G : Heap) :
    run env 6 [.agg l, .int left] (H ++ G) = some (.int (if left < x.sz then -1 else left - x.sz), H ++ G) := szBox_at (h.app G) hf h1 h2

theorem toBox_is {H : Heap} {l : List Lf} {x : Box} (h : RdLBox H l x) (hn : x.sz ≤ 1048576) : Runs env 8 [.agg l] H fun v H' => ∃ l' fp, v = .agg l' ∧ IsBox H' l' x fp ∧ Fresh H H' fp := by
  obtain ⟨q0, q1, q2, q3, q4, rfl, r0, r1, r2, r3, r4⟩ := h
  unfold Box.sz at hn
  refine Runs.walk ok8 Tryz.func8 rfl (by simp [Tryz.f8]) fun Q hQ => ?_
  simp only [Tryz.f8, strip, stripL, stripI, stripG, chkT, tagsB, tagsL, tagD, addT, tagA, lookN, tagOp, elmT, ty24, ty25, ty26, ty27, ty28, ty34, ty35, ty36, ty37, ty59, ty61, ty64, ty100, Nat.reduceEqDiff, if_false, reduceIte, Option.getD_some, Option.getD_none, dstAt, dstOk, Nat.reduceLT, decide_true, if_true]
  have er := fun H => toReg H x.reg
  simp only [Reg.enc] at er
  simp [Box.enc, er]
  refine stpL_runs (toMinderS_is (RdLMinderS_base r0 (Keep.app [] H _)) (by omega)) ?_
  rintro _ _ ⟨p0, g0, rfl, o0, ⟨⟨G0, rfl⟩, hf0⟩⟩
  simp only [List.append_assoc, List.cons_append, List.nil_append] at o0
  have b0 : ∀ i ∈ g0, H.length + (3) ≤ i := fun i hi => by have := hf0 i hi; simp at this; omega
  have c0 : ∀ i ∈ g0, i < H.length + (3 + G0.length) := fun i hi => by have := o0.lt okMinder i hi; simp at this; omega
  try simp
  refine stpL_runs (toWireS_is (r1.base (Keep.app [] H _)) (by omega)) ?_
  rintro _ _ ⟨p1, g1, rfl, o1, ⟨⟨G1, rfl⟩, hf1⟩⟩
  simp only [List.append_assoc, List.cons_append, List.nil_append] at o1
  have b1 : ∀ i ∈ g1, H.length + (3 + G0.length) ≤ i := fun i hi => by have := hf1 i hi; simp at this; omega
  have c1 : ∀ i ∈ g1, i < H.length + (3 + G0.length + G1.length) := fun i hi => by have := o1.lt i hi; simp at this; omega
  try simp
  refine stpL_runs (toBoolS_is (r2.base (Keep.app [] H _)) (by omega)) ?_
  rintro _ _ ⟨p2, g2, rfl, o2, ⟨⟨G2, rfl⟩, hf2⟩⟩
  simp only [List.append_assoc, List.cons_append, List.nil_append] at o2
  have b2 : ∀ i ∈ g2, H.length + (3 + G0.length + G1.length) ≤ i := fun i hi => by have := hf2 i hi; simp at this; omega
  have c2 : ∀ i ∈ g2, i < H.length + (3 + G0.length + G1.length + G2.length) := fun i hi => by have := o2.lt i hi; simp at this; omega
  try simp
  refine stpL_runs (toInS_is (r3.base (Keep.app [] H _)) (by omega)) ?_
  rintro _ _ ⟨p3, g3, rfl, o3, ⟨⟨G3, rfl⟩, hf3⟩⟩
  simp only [List.append_assoc, List.cons_append, List.nil_append] at o3
  have b3 : ∀ i ∈ g3, H.length + (3 + G0.length + G1.length + G2.length) ≤ i := fun i hi => by have := hf3 i hi; simp at this; omega
  have c3 : ∀ i ∈ g3, i < H.length + (3 + G0.length + G1.length + G2.length + G3.length) := fun i hi => by have := o3.lt i hi; simp at this; omega
  try simp
  refine stpL_runs (toOutS_is (r4.base (Keep.app [] H _)) (by omega)) ?_
  rintro _ _ ⟨p4, g4, rfl, o4, ⟨⟨G4, rfl⟩, hf4⟩⟩
  simp only [List.append_assoc, List.cons_append, List.nil_append] at o4
  have b4 : ∀ i ∈ g4, H.length + (3 + G0.length + G1.length + G2.length + G3.length) ≤ i := fun i hi => by have := hf4 i hi; simp at this; omega
  have c4 : ∀ i ∈ g4, i < H.length + (3 + G0.length + G1.length + G2.length + G3.length + G4.length) := fun i hi => by have := o4.lt i hi; simp at this; omega
  try simp
  refine hQ _ _ _ (by simp) ?_
  simp [Tryz.f8]
  have u0 := fun B1 B2 B3 G' (hp : G0 <+: G') => o0.keep okMinder (Keep.cutP (H := H) (L := [_, _, _]) (L' := [B1, B2, B3]) (G' := G') rfl hp) (fun i hi => by have := b0 i hi; simp; omega)
  have u1 := fun B1 B2 B3 G' (hp : G0 ++ (G1) <+: G') => o1.keep (Keep.cutP (H := H) (L := [_, _, _]) (L' := [B1, B2, B3]) (G' := G') rfl hp) (fun i hi => by have := b1 i hi; simp; omega)
  have u2 := fun B1 B2 B3 G' (hp : G0 ++ (G1 ++ (G2)) <+: G') => o2.keep (Keep.cutP (H := H) (L := [_, _, _]) (L' := [B1, B2, B3]) (G' := G') rfl hp) (fun i hi => by have := b2 i hi; simp; omega)
  have u3 := fun B1 B2 B3 G' (hp : G0 ++ (G1 ++ (G2 ++ (G3))) <+: G') => o3.keep (Keep.cutP (H := H) (L := [_, _, _]) (L' := [B1, B2, B3]) (G' := G') rfl hp) (fun i hi => by have := b3 i hi; simp; omega)
  have u4 := fun B1 B2 B3 G' (hp : G0 ++ (G1 ++ (G2 ++ (G3 ++ (G4)))) <+: G') => o4.keep (Keep.cutP (H := H) (L := [_, _, _]) (L' := [B1, B2, B3]) (G' := G') rfl hp) (fun i hi => by have := b4 i hi; simp; omega)
  have hnd : (g0 ++ (g1 ++ (g2 ++ (g3 ++ (g4)))) : List Nat).Nodup := by
    have n0 : g4.Nodup := o4.nodup
    have m3 : (g3 ++ g4).Nodup := nodup_app o3.nodup n0 (fun i hi hj => by
      have := c3 i hi
      try simp at hj
      rcases hj with hj
      · have := b4 i hj; omega)
    have m2 : (g2 ++ (g3 ++ g4)).Nodup := nodup_app o2.nodup m3 (fun i hi hj => by
      have := c2 i hi
      try simp at hj
      rcases hj with hj | hj
      · have := b3 i hj; omega
      · have := b4 i hj; omega)
    have m1 : (g1 ++ (g2 ++ (g3 ++ g4))).Nodup := nodup_app o1.nodup m2 (fun i hi hj => by
      have := c1 i hi
      try simp at hj
      rcases hj with hj | hj | hj
      · have := b2 i hj; omega
      · have := b3 i hj; omega
      · have := b4 i hj; omega)
    have m0 : (g0 ++ (g1 ++ (g2 ++ (g3 ++ g4)))).Nodup := nodup_app o0.nodup m1 (fun i hi hj => by
      have := c0 i hi
      try simp at hj
      rcases hj with hj | hj | hj | hj
      · have := b1 i hj; omega
      · have := b2 i hj; omega
      · have := b3 i hj; omega
      · have := b4 i hj; omega)
    exact m0
  refine IsBox.leave (fp := g0 ++ (g1 ++ (g2 ++ (g3 ++ g4)))) ⟨p0, p1, p2, p3, p4, g0, g1, g2, g3, g4, by simp [Box.enc], u0 _ _ _ _ (by simp), u1 _ _ _ _ (by simp), u2 _ _ _ _ (by simp), u3 _ _ _ _ (by simp), u4 _ _ _ _ (by simp), rfl, hnd⟩ (Fresh.app H _ fun i hi => ?_) (by simp [Box.enc])
  simp at hi
  rcases hi with hi | hi | hi | hi | hi
  · have := b0 i hi; omega
  · have := b1 i hi; omega
  · have := b2 i hi; omega
  · have := b3 i hi; omega
  · have := b4 i hi; omega

theorem eqBox_is {H : Heap} {l r : List Lf} {x y : Box} (h : RdBox H l x) (h2 : RdBox H r y) (hn : x.sz ≤ 1048576) : run env 10 [.agg l, .agg r] H = some (.bool (decide (x = y)), H) := by
  obtain ⟨q0, q1, q2, q3, q4, rfl, r0, r1, r2, r3, r4⟩ := h
  obtain ⟨p0, p1, p2, p3, p4, rfl, s0, s1, s2, s3, s4⟩ := h2
  unfold Box.sz at hn
  have e0 := fun G => eqMinderS_is (RdMinderS_base r0 (Keep.app [] _ G)) (RdMinderS_base s0 (Keep.app [] _ G)) (by omega)
  have e1 := fun G => eqWireS_is (r1.app G) (s1.app G) (by omega)
  have e2 := fun G => eqBoolS_is (r2.app G) (s2.app G) (by omega)
  have e3 := fun G => eqInS_is (r3.app G) (s3.app G) (by omega)
  have e4 := fun G => eqOutS_is (r4.app G) (s4.app G) (by omega)
  have er := fun H => eqReg H x.reg y.reg
  obtain ⟨x0, x1, x2, x3, x4, x5, x6, x7⟩ := x
  obtain ⟨y0, y1, y2, y3, y4, y5, y6, y7⟩ := y
  simp only at e0 e1 e2 e3 e4 er
  simp only [Reg.enc] at er
  refine run_walk ok10 Tryz.func10 rfl (by simp [Tryz.f10]) fun Q hQ => ?_
  simp only [Tryz.f10, strip, stripL, stripI, stripG, chkT, tagsB, tagsL, tagD, addT, tagA, lookN, tagOp, elmT, ty24, ty25, ty26, ty27, ty28, ty34, ty35, ty36, ty37, ty59, ty61, ty64, ty100, Nat.reduceEqDiff, if_false, reduceIte, Option.getD_some, Option.getD_none, dstAt, dstOk, Nat.reduceLT, decide_true, if_true]
  simp [Box.enc, e0, e1, e2, e3, e4, er]
  repeat' (first | (refine gdL_t (fun h => ?_) (fun h => ?_) <;> simp [h, e0, e1, e2, e3, e4, er]) | (refine gdL_f (fun h => ?_) (fun h => ?_) <;> simp [h, e0, e1, e2, e3, e4, er]) | (refine selS_intro (fun h => ?_) (fun h => ?_) <;> simp [h, e0, e1, e2, e3, e4, er]))
  all_goals (refine hQ _ _ _ (by simp) ?_)
  all_goals (clear hQ; simp_all [Tryz.f10])

theorem shpBox_is {H : Heap} {l : List Lf} (h : Shp Tryz.prog H 8 30 l) : ∃ x : Box, RdLBox H l x ∧ x.fit := by
  obtain ⟨_, _, rfl, h0, _, _, rfl, h1, _, _, rfl, h2, _, _, rfl, h3, _, _, rfl, h4, _, _, rfl, h5, _, _, rfl, h6, _, _, rfl, h7, rfl⟩ := h.struct Tryz.underlying30
  obtain ⟨x0, rfl, -⟩ := h0.i64 Tryz.underlying3
  obtain ⟨x1, rfl, -⟩ := h1.i64 Tryz.underlying3
  obtain ⟨x2, rfl⟩ := shpReg h2
  obtain ⟨q0, x3, rfl, r0, t0⟩ := shpMinderS_is h3
  obtain ⟨q1, x4, rfl, r1, t1⟩ := shpWireS_is h4
  obtain ⟨q2, x5, rfl, r2, t2⟩ := shpBoolS_is h5
  obtain ⟨q3, x6, rfl, r3, t3⟩ := shpInS_is h6
  obtain ⟨q4, x7, rfl, r4, t4⟩ := shpOutS_is h7
  exact ⟨⟨x0, x1, x2, x3, x4, x5, x6, x7⟩, ⟨q0, q1, q2, q3, q4, rfl, r0, r1, r2, r3, r4⟩, t0, t1, t2, t3, t4⟩

def openBy (role wait : Int) : Bool := (decide (role = 1) || decide (role = 2)) && decide (wait = 0)
def Port.ok (p : Port) : Bool :=
  (if p.has then p.up && p.vec.ok && (decide (0 ≤ p.hops) && decide (p.hops ≤ 8)) && (decide (1 ≤ p.left) && decide (p.left ≤ 3)) else decide (p.vec = ⟨0, 0, 0, 0⟩) && decide (p.hops = 0) && decide (p.left = 0)) &&
  (decide (0 ≤ p.role) && decide (p.role ≤ 3)) && decide (decide (p.role = 0) = !p.up) && (decide (0 ≤ p.wait) && decide (p.wait ≤ 4)) && decide (p.opn = openBy p.role p.wait)

theorem isOpenBy (H : Heap) (p : Port) : run env 178 [.agg p.enc] H = some (.bool (openBy p.role p.wait), H) := by
  obtain ⟨a1, a2, ⟨b1, b2, b3, b4⟩, a4, a5, a6, a7, a8⟩ := p
  refine run_walk ok178 Tryz.func178 rfl (by simp [Tryz.f178]) fun Q hQ => ?_
  simp only [Tryz.f178, strip, stripL, stripI, stripG, chkT, tagsB, tagsL, tagD, addT, tagA, lookN, tagOp, elmT, ty24, ty25, ty26, ty27, ty28, ty34, ty35, ty36, ty37, ty59, ty61, ty64, ty100, Nat.reduceEqDiff, if_false, reduceIte, Option.getD_some, Option.getD_none, dstAt, dstOk, Nat.reduceLT, decide_true, if_true]
  simp [Port.enc]
  repeat' (first | (refine gdL_t (fun h => ?_) (fun h => ?_) <;> simp [h]) | (refine gdL_f (fun h => ?_) (fun h => ?_) <;> simp [h]) | (refine selS_intro (fun h => ?_) (fun h => ?_) <;> simp [h]))
  all_goals (refine hQ _ _ _ (by simp) ?_)
  all_goals (clear hQ; simp_all [Tryz.f178, openBy])

theorem implPortOk (H : Heap) (p : Port) : run env 156 [.agg p.enc] H = some (.bool p.ok, H) := by
  obtain ⟨a1, a2, ⟨b1, b2, b3, b4⟩, a4, a5, a6, a7, a8⟩ := p
  have e := fun H => implVecOk H ⟨b1, b2, b3, b4⟩
  have e2 := fun H a1 a2 b1 b2 b3 b4 a4 a5 a6 a7 a8 => isOpenBy H ⟨a1, a2, ⟨b1, b2, b3, b4⟩, a4, a5, a6, a7, a8⟩
  simp only [Vec.enc, Port.enc] at e e2
  refine run_walk ok156 Tryz.func156 rfl (by simp [Tryz.f156]) fun Q hQ => ?_
  simp only [Tryz.f156, strip, stripL, stripI, stripG, chkT, tagsB, tagsL, tagD, addT, tagA, lookN, tagOp, elmT, ty24, ty25, ty26, ty27, ty28, ty34, ty35, ty36, ty37, ty59, ty61, ty64, ty100, Nat.reduceEqDiff, if_false, reduceIte, Option.getD_some, Option.getD_none, dstAt, dstOk, Nat.reduceLT, decide_true, if_true]
  simp [Port.enc, e, e2, inRange, isHops]
  repeat' (first | (refine gdL_t (fun h => ?_) (fun h => ?_) <;> simp [h, e, e2, inRange, isHops]) | (refine gdL_f (fun h => ?_) (fun h => ?_) <;> simp [h, e, e2, inRange, isHops]) | (refine selS_intro (fun h => ?_) (fun h => ?_) <;> simp [h, e, e2, inRange, isHops]))
  all_goals (refine hQ _ _ _ (by simp) ?_)
  all_goals (clear hQ e e2; simp_all [Tryz.f156, Port.ok])
  all_goals (try (cases a1 <;> simp_all))
  all_goals (try (intros; exfalso; omega))

theorem specPortOk (H : Heap) (p : Port) : run env 146 [.agg p.enc] H = some (.bool p.ok, H) := by
  obtain ⟨a1, a2, ⟨b1, b2, b3, b4⟩, a4, a5, a6, a7, a8⟩ := p
  have e := fun H => specVecOk H ⟨b1, b2, b3, b4⟩
  simp only [Vec.enc, Port.enc] at e
  refine run_walk ok146 Tryz.func146 rfl (by simp [Tryz.f146]) fun Q hQ => ?_
  simp only [Tryz.f146, strip, stripL, stripI, stripG, chkT, tagsB, tagsL, tagD, addT, tagA, lookN, tagOp, elmT, ty24, ty25, ty26, ty27, ty28, ty34, ty35, ty36, ty37, ty59, ty61, ty64, ty100, Nat.reduceEqDiff, if_false, reduceIte, Option.getD_some, Option.getD_none, dstAt, dstOk, Nat.reduceLT, decide_true, if_true]
  simp [Port.enc, e, l1In]
  repeat' (first | (refine gdL_t (fun h => ?_) (fun h => ?_) <;> simp [h, e, l1In]) | (refine gdL_f (fun h => ?_) (fun h => ?_) <;> simp [h, e, l1In]) | (refine selS_intro (fun h => ?_) (fun h => ?_) <;> simp [h, e, l1In]))
  all_goals (refine hQ _ _ _ (by simp) ?_)
  all_goals (clear hQ e; simp_all [Tryz.f146, Port.ok, openBy])
  all_goals (try (intros; exfalso; omega))

def Bridge.ok (b : Bridge) : Bool := b.ports.all Port.ok && (decide (1 ≤ b.id) && decide (b.id ≤ 9)) && (decide (1 ≤ (b.ports.length : Int)) && decide ((b.ports.length : Int) ≤ 4))

theorem implBridgeOk_is {H : Heap} {l : List Lf} {b : Bridge} (h : RdBridge H l b) (hn : b.sz ≤ 1048576) : run env 126 [.agg l] H = some (.bool b.ok, H) := by
  obtain ⟨a, rfl, h⟩ := h
  have hn : b.ports.length ≤ 1048576 := hn
  refine run_walk ok126 Tryz.func126 rfl (by simp [Tryz.f126]) fun Q hQ => ?_
  simp only [Tryz.f126, strip, stripL, stripI, stripG, chkT, tagsB, tagsL, tagD, addT, tagA, lookN, tagOp, elmT, ty24, ty25, ty26, ty27, ty28, ty34, ty35, ty36, ty37, ty59, ty61, ty64, ty100, Nat.reduceEqDiff, if_false, reduceIte, Option.getD_some, Option.getD_none, dstAt, dstOk, Nat.reduceLT, decide_true, if_true]
  simp [Bridge.enc, builtinV, pureB, lenV]
  refine wpS_loop (fun j tm H' => ∃ i G, i + j = b.ports.length ∧ tm 1 = .ptr H.length 0 0 ∧ tm 6 = .w (.lf (.sl a b.ports.length)) ∧ tm 7 = .int b.ports.length ∧ tm 8 = .int i ∧ H' = H ++ some ⟨102, .wr, [b.enc a]⟩ :: G ∧ (b.ports.take i).all Port.ok = true) b.ports.length (by rw [env_K]; omega) ⟨0, [], by simp, by simp, by simp, by simp, by simp, by simp [Bridge.enc], by simp⟩ ?_
  rintro j tm H' hj ⟨i, G, hij, t1, t6, t7, t8, rfl, hall⟩ Q' hn' he' hr'
  simp [t1, t6, t7, t8]
  refine selS_intro (fun hc => ?_) (fun hc => ?_)
  · simp at hc
    obtain ⟨id, r, bl, rfl, hbl, hbe, hrow⟩ := h i _ (by simp [hc]; rfl)
    have hid := blkAt_len hbl
    have g4 : IntKind.i64.wrap ((i : Int) + 1) = (i : Int) + 1 := wrap64 (by omega) (by omega)
    simp [t1, t6, t7, t8, indexAddrV, elemIs, hid, hbl, hbe, hc, hrow, implPortOk]
    refine selS_intro (fun hd => ?_) (fun hd => ?_)
    · simp
      refine hr' _ _ ?_
      simp
      refine hQ _ _ _ (by simp) ?_
      have : b.ports.all Port.ok = false := List.all_eq_false.2 ⟨b.ports[i], by simp, by simpa using hd⟩
      simp [Tryz.f126, this, Bridge.ok]
    · simp at hd
      simp [t1, t6, t7, t8, g4]
      refine hn' (j - 1) _ _ (by omega) ⟨i + 1, _, by omega, by simp [t1], by simp [t6], by simp [t7], by simp, rfl, ?_⟩
      rw [List.take_add_one, List.all_append, hall]
      simp [hc, hd]
  · simp at hc
    simp [t1, t6, t7, t8]
    refine he' _ _ _ ?_
    simp [t1, builtinV, pureB, lenV, Bridge.enc, inRange]
    rw [List.take_of_length_le (by omega)] at hall
    repeat' (first | (refine gdL_t (fun h => ?_) (fun h => ?_) <;> simp [h, t1, inRange, builtinV, pureB, lenV]) | (refine gdL_f (fun h => ?_) (fun h => ?_) <;> simp [h, t1, inRange, builtinV, pureB, lenV]) | (refine selS_intro (fun h => ?_) (fun h => ?_) <;> simp [h, t1, inRange, builtinV, pureB, lenV]))
    all_goals (refine hQ _ _ _ (by simp) ?_)
    all_goals (simp [Tryz.f126, Bridge.ok, hall])
    all_goals (simp_all)
    all_goals (try (intros; omega))

theorem specBridgeOk_is {H : Heap} {l : List Lf} {b : Bridge} (h : RdBridge H l b) (hn : b.sz ≤ 1048576) : run env 117 [.agg l] H = some (.bool b.ok, H) := by
  obtain ⟨a, rfl, h⟩ := h
  have hn : b.ports.length ≤ 1048576 := hn
  refine run_walk ok117 Tryz.func117 rfl (by simp [Tryz.f117]) fun Q hQ => ?_
  simp only [Tryz.f117, strip, stripL, stripI, stripG, chkT, tagsB, tagsL, tagD, addT, tagA, lookN, tagOp, elmT, ty24, ty25, ty26, ty27, ty28, ty34, ty35, ty36, ty37, ty59, ty61, ty64, ty100, Nat.reduceEqDiff, if_false, reduceIte, Option.getD_some, Option.getD_none, dstAt, dstOk, Nat.reduceLT, decide_true, if_true]
  simp [Bridge.enc, builtinV, pureB, lenV]
  refine wpS_loop (fun j tm H' => ∃ i, i + j = b.ports.length ∧ tm 1 = .ptr H.length 0 0 ∧ tm 3 = .int i ∧ H' = H ++ [some ⟨102, .wr, [b.enc a]⟩] ∧ (b.ports.take i).all Port.ok = true) b.ports.length (by rw [env_K]; omega) ⟨0, by simp, by simp, by simp, by simp [Bridge.enc], by simp⟩ ?_
  rintro j tm H' hj ⟨i, hij, t1, t3, rfl, hall⟩ Q' hn' he' hr'
  simp [t1, t3, Bridge.enc, builtinV, pureB, lenV]
  refine selS_intro (fun hc => ?_) (fun hc => ?_)
  · simp at hc
    obtain ⟨id, r, bl, rfl, hbl, hbe, hrow⟩ := h i _ (by simp [hc]; rfl)
    have hid := blkAt_len hbl
    have g4 : IntKind.i64.wrap ((i : Int) + 1) = (i : Int) + 1 := wrap64 (by omega) (by omega)
    simp [t1, t3, indexAddrV, elemIs, hid, hbl, hbe, hc, hrow, specPortOk]
    refine selS_intro (fun hd => ?_) (fun hd => ?_)
    · simp
      refine hr' _ _ ?_
      simp
      refine hQ _ _ _ (by simp) ?_
      have : b.ports.all Port.ok = false := List.all_eq_false.2 ⟨b.ports[i], by simp, by simpa using hd⟩
      simp [Tryz.f117, this, Bridge.ok]
    · simp at hd
      simp [t1, t3, g4]
      refine hn' (j - 1) _ _ (by omega) ⟨i + 1, by omega, by simp [t1], by simp, by simp [Bridge.enc], ?_⟩
      rw [List.take_add_one, List.all_append, hall]
      simp [hc, hd]
  · simp at hc
    simp [t1, t3]
    refine he' _ _ _ ?_
    simp [t1, builtinV, pureB, lenV, Bridge.enc, l1In]
    rw [List.take_of_length_le (by omega)] at hall
    repeat' (first | (refine gdL_t (fun h => ?_) (fun h => ?_) <;> simp [h, t1, l1In, builtinV, pureB, lenV]) | (refine gdL_f (fun h => ?_) (fun h => ?_) <;> simp [h, t1, l1In, builtinV, pureB, lenV]) | (refine selS_intro (fun h => ?_) (fun h => ?_) <;> simp [h, t1, l1In, builtinV, pureB, lenV]))
    all_goals (refine hQ _ _ _ (by simp) ?_)
    all_goals (simp [Tryz.f117, Bridge.ok, hall])
    all_goals (simp_all)
    all_goals (try (intros; omega))

theorem implReleased_is {H : Heap} {l : List Lf} {x : Box} (h : RdBox H l x) (hn : x.sz ≤ 1048576) : run env 88 [.agg l] H = some (.int (x.line.length : Int), H) := by
  obtain ⟨q0, q1, q2, q3, q4, rfl, _, _, _, ⟨a, rfl, h⟩, _⟩ := h
  refine run_walk ok88 Tryz.func88 rfl (by simp [Tryz.f88]) fun Q hQ => ?_
  simp only [Tryz.f88, strip, stripL, stripI, stripG, chkT, tagsB, tagsL, tagD, addT, tagA, lookN, tagOp, elmT, ty24, ty25, ty26, ty27, ty28, ty34, ty35, ty36, ty37, ty59, ty61, ty64, ty100, Nat.reduceEqDiff, if_false, reduceIte, Option.getD_some, Option.getD_none, dstAt, dstOk, Nat.reduceLT, decide_true, if_true]
  simp [Box.enc, builtinV, pureB, lenV]
  all_goals (refine hQ _ _ _ (by simp) ?_)
  all_goals (clear hQ; simp [Tryz.f88])

def better (a b : Vec) : Bool := if a.root ≠ b.root then decide (a.root < b.root) else if a.cost ≠ b.cost then decide (a.cost < b.cost) else if a.bridge ≠ b.bridge then decide (a.bridge < b.bridge) else decide (a.port < b.port)
def cmpI' (a b : Int) : Int := if a < b then -1 else if b < a then 1 else 0
def orL (xs : List Int) : Int := (xs.find? fun x => !decide (x = 0)).getD 0

theorem cmpNaN (H : Heap) (a : Int) : run env 187 [.int a] H = some (.bool false, H) := by
  refine run_walk ok187 Tryz.func187 rfl (by simp [Tryz.f187]) fun Q hQ => ?_
  simp only [Tryz.f187, strip, stripL, stripI, stripG, chkT, tagsB, tagsL, tagD, addT, tagA, lookN, tagOp, elmT, ty24, ty25, ty26, ty27, ty28, ty34, ty35, ty36, ty37, ty59, ty61, ty64, ty100, Nat.reduceEqDiff, if_false, reduceIte, Option.getD_some, Option.getD_none, dstAt, dstOk, Nat.reduceLT, decide_true, if_true]
  simp
  all_goals (refine hQ _ _ _ (by simp) ?_)
  all_goals (clear hQ; simp [Tryz.f187])

theorem cmpCompare (H : Heap) (a b : Int) : run env 186 [.int a, .int b] H = some (.int (cmpI' a b), H) := by
  refine run_walk ok186 Tryz.func186 rfl (by simp [Tryz.f186]) fun Q hQ => ?_
  simp only [Tryz.f186, strip, stripL, stripI, stripG, chkT, tagsB, tagsL, tagD, addT, tagA, lookN, tagOp, elmT, ty24, ty25, ty26, ty27, ty28, ty34, ty35, ty36, ty37, ty59, ty61, ty64, ty100, Nat.reduceEqDiff, if_false, reduceIte, Option.getD_some, Option.getD_none, dstAt, dstOk, Nat.reduceLT, decide_true, if_true]
  simp [cmpNaN]
  refine selS_intro (fun h => ?_) (fun h => ?_)
  · simp
    refine hQ _ _ _ (by simp) ?_
    simp at h
    simp [Tryz.f186, cmpI', h]
  simp
  refine selS_intro (fun h2 => ?_) (fun h2 => ?_)
  all_goals (simp; refine hQ _ _ _ (by simp) ?_; simp at h h2; simp [Tryz.f186, cmpI']; omega)

theorem cmpOr {H : Heap} {a : Option (Nat × Nat)} {xs : List Int} (h : Sl H 3 a (xs.map encI)) (hn : xs.length ≤ 1048576) :
    run env 185 [.w (.lf (.sl a xs.length))] H = some (.int (orL xs), H) := by
  refine run_walk ok185 Tryz.func185 rfl (by simp [Tryz.f185]) fun Q hQ => ?_
  simp only [Tryz.f185, strip, stripL, stripI, stripG, chkT, tagsB, tagsL, tagD, addT, tagA, lookN, tagOp, elmT, ty24, ty25, ty26, ty27, ty28, ty34, ty35, ty36, ty37, ty59, ty61, ty64, ty100, Nat.reduceEqDiff, if_false, reduceIte, Option.getD_some, Option.getD_none, dstAt, dstOk, Nat.reduceLT, decide_true, if_true]
  simp [builtinV, pureB, lenV]
  refine wpS_loop (fun j tm H' => ∃ i, i + j = xs.length ∧ tm 3 = .int 0 ∧ tm 6 = .w (.lf (.sl a xs.length)) ∧ tm 7 = .int xs.length ∧ tm 8 = .int i ∧ H' = H ∧ ∀ x ∈ xs.take i, x = 0) xs.length (by rw [env_K]; omega) ⟨0, by simp, by simp, by simp, by simp, by simp, rfl, by simp⟩ ?_
  rintro j tm H' hj ⟨i, hij, t3, t6, t7, t8, rfl, hz⟩ Q2 hn2 he2 hr2
  simp [t3, t6, t7, t8]
  refine selS_intro (fun hc => ?_) (fun hc => ?_)
  · simp at hc
    obtain ⟨id, r, bl, rfl, hbl, hbe, hrow⟩ := h i _ (by simp [hc]; rfl)
    have g4 : IntKind.i64.wrap ((i : Int) + 1) = (i : Int) + 1 := wrap64 (by omega) (by omega)
    simp [t3, t6, t7, t8, indexAddrV, elemIs, hbl, hbe, hc, hrow, encI]
    refine selS_intro (fun hd => ?_) (fun hd => ?_)
    · simp
      refine hr2 _ _ ?_
      simp
      refine hQ _ _ _ (by simp) ?_
      have hf : xs.find? (fun x => !decide (x = 0)) = some xs[i] := by
        rw [List.find?_eq_some_iff_getElem]
        refine ⟨by simpa using hd, i, hc, rfl, fun j hj => ?_⟩
        have := hz xs[j] (List.mem_take_iff_getElem.2 ⟨j, by omega, rfl⟩)
        simp [this]
      simp [Tryz.f185, orL, hf]
    · simp at hd
      simp [t3, t6, t7, t8, g4]
      refine hn2 (j - 1) _ _ (by omega) ⟨i + 1, by omega, by simp [t3], by simp [t6], by simp [t7], by simp, rfl, ?_⟩
      intro x hx
      rw [List.take_add_one, List.getElem?_eq_getElem hc, List.mem_append] at hx
      rcases hx with hx | hx
      · exact hz x hx
      · simp at hx
        rw [hx]; exact hd
  · simp at hc
    rw [List.take_of_length_le (by omega)] at hz
    simp [t3, t6, t7, t8]
    refine he2 _ _ _ ?_
    simp [t3]
    refine hQ _ _ _ (by simp) ?_
    have hf : xs.find? (fun x => !decide (x = 0)) = none := by
      rw [List.find?_eq_none]
      intro x hx
      simp [hz x hx]
    simp [Tryz.f185, orL, hf]

theorem implBetter (H : Heap) (x y : Vec) : run env 179 [.agg x.enc, .agg y.enc] H = some (.bool (better x y), H) := by
  have e1 := fun H a b => cmpCompare H a b
  have e3 := fun p q u v B1 B2 => cmpOr (H := H ++ [B1, B2, some ⟨3, .wr, [[.i .i64 p], [.i .i64 q], [.i .i64 u], [.i .i64 v]]⟩]) (a := some (H.length + 2, 0)) (xs := [p, q, u, v]) (Sl.of (by simp [encI])) (by simp)
  simp at e3
  refine run_walk ok179 Tryz.func179 rfl (by simp [Tryz.f179]) fun Q hQ => ?_
  simp only [Tryz.f179, strip, stripL, stripI, stripG, chkT, tagsB, tagsL, tagD, addT, tagA, lookN, tagOp, elmT, ty24, ty25, ty26, ty27, ty28, ty34, ty35, ty36, ty37, ty59, ty61, ty64, ty100, Nat.reduceEqDiff, if_false, reduceIte, Option.getD_some, Option.getD_none, dstAt, dstOk, Nat.reduceLT, decide_true, if_true]
  simp [Vec.enc, e1, e3]
  refine hQ _ _ _ (by simp) ?_
  simp [Tryz.f179]
  unfold orL better cmpI'
  by_cases h1 : x.root < y.root <;> by_cases h2 : y.root < x.root <;> by_cases h3 : x.cost < y.cost <;> by_cases h4 : y.cost < x.cost <;> by_cases h5 : x.bridge < y.bridge <;> by_cases h6 : y.bridge < x.bridge <;> by_cases h7 : x.port < y.port <;> by_cases h8 : y.port < x.port <;> simp [h1, h2, h3, h4, h5, h6, h7, h8, List.find?] <;> omega

theorem specBetter (H : Heap) (x y : Vec) : run env 174 [.agg x.enc, .agg y.enc] H = some (.bool (better x y), H) := by
  obtain ⟨a1, a2, a3, a4⟩ := x
  obtain ⟨b1, b2, b3, b4⟩ := y
  refine run_walk ok174 Tryz.func174 rfl (by simp [Tryz.f174]) fun Q hQ => ?_
  simp only [Tryz.f174, strip, stripL, stripI, stripG, chkT, tagsB, tagsL, tagD, addT, tagA, lookN, tagOp, elmT, ty24, ty25, ty26, ty27, ty28, ty34, ty35, ty36, ty37, ty59, ty61, ty64, ty100, Nat.reduceEqDiff, if_false, reduceIte, Option.getD_some, Option.getD_none, dstAt, dstOk, Nat.reduceLT, decide_true, if_true]
  simp [Vec.enc]
  repeat' (first | (refine gdL_t (fun h => ?_) (fun h => ?_) <;> simp [h]) | (refine gdL_f (fun h => ?_) (fun h => ?_) <;> simp [h]) | (refine selS_intro (fun h => ?_) (fun h => ?_) <;> simp [h]))
  all_goals (refine hQ _ _ _ (by simp) ?_)
  all_goals (clear hQ; simp_all [Tryz.f174, better])

def rootSkip (b : Bridge) (p : Port) : Bool := !p.has || decide (p.vec.bridge = b.id) || decide (b.id ≤ p.vec.root) || decide (20 ≤ p.vec.cost) || decide (8 ≤ p.hops)
def rootStep (b : Bridge) (best : Int) (i : Nat) (p : Port) : Int := if rootSkip b p then best else if decide (best < 0) || better p.vec (b.ports.getD best.toNat default).vec then i else best
def rootUpto (b : Bridge) : Nat → Int
  | 0 => -1
  | i + 1 => match b.ports[i]? with
    | some p => rootStep b (rootUpto b i) i p
    | none => rootUpto b i
def rootAt (b : Bridge) : Int := rootUpto b b.ports.length
theorem rootUpto_lt (b : Bridge) : ∀ i, -1 ≤ rootUpto b i ∧ rootUpto b i < i
  | 0 => by simp [rootUpto]
  | i + 1 => by
    have ih := rootUpto_lt b i
    unfold rootUpto
    split
    · unfold rootStep
      split
      · omega
      · split <;> omega
    · omega
def rootPort (b : Bridge) : Int × Bool := if b.ok then (rootAt b, decide (0 ≤ rootAt b)) else (-1, false)

theorem specRootPort {H : Heap} {l : List Lf} {b : Bridge} (h : RdBridge H l b) (hn : b.sz ≤ 1048576) : run env 151 [.agg l] H = some (.tup [.lf (.i .i64 (rootPort b).1), .lf (.b (rootPort b).2)], H) := by
  have hR := h
  have eo := fun G => specBridgeOk_is (hR.app G) (by omega)
  have e1 := fun H (c1 c2 c3 c4 d1 d2 d3 d4 : Int) => specBetter H ⟨c1, c2, c3, c4⟩ ⟨d1, d2, d3, d4⟩
  simp only [Vec.enc] at e1
  obtain ⟨a, rfl, h_⟩ := h
  have hn : b.ports.length ≤ 1048576 := hn
  simp only [Bridge.enc] at eo
  refine run_walk ok151 Tryz.func151 rfl (by simp [Tryz.f151]) fun Q hQ => ?_
  simp only [Tryz.f151, strip, stripL, stripI, stripG, chkT, tagsB, tagsL, tagD, addT, tagA, lookN, tagOp, elmT, ty24, ty25, ty26, ty27, ty28, ty34, ty35, ty36, ty37, ty59, ty61, ty64, ty100, Nat.reduceEqDiff, if_false, reduceIte, Option.getD_some, Option.getD_none, dstAt, dstOk, Nat.reduceLT, decide_true, if_true]
  simp
  obtain ⟨B, hB⟩ : ∃ B : Option Blk, B = some ⟨102, .wr, [[.i .i64 b.id, .sl a b.ports.length]]⟩ := ⟨_, rfl⟩
  cases hok : b.ok
  · refine wpS_loop (fun j tm H' => tm 1 = .ptr H.length 0 0 ∧ tm 4 = .int (-1) ∧ tm 5 = .int 0 ∧ H' = H ++ [B]) 0 (by rw [env_K]; omega) ⟨by simp, by simp, by simp, by simp [hB, Bridge.enc]⟩ ?_
    rintro j tm H' hj ⟨t1, t4, t5, rfl⟩ Q2 hn2 he2 hr2
    simp [t1, t4, t5, hB, builtinV, pureB, lenV]
    rw [hok] at eo
    repeat' (first | (refine gdL_t (fun h => ?_) (fun h => ?_) <;> simp [h, t1, eo]) | (refine gdL_f (fun h => ?_) (fun h => ?_) <;> simp [h, t1, eo]) | (refine selS_intro (fun h => ?_) (fun h => ?_) <;> simp [h, t1, eo]))
    all_goals (refine he2 _ _ _ ?_)
    all_goals (simp [t4]; refine hQ _ _ _ (by simp) ?_; simp [Tryz.f151, rootPort, hok])
  · rw [hok] at eo
    refine wpS_loop (fun j tm H' => ∃ i T, i + j = b.ports.length ∧ tm 1 = .ptr H.length 0 0 ∧ tm 4 = .int (rootUpto b i) ∧ tm 5 = .int i ∧ H' = H ++ B :: T) b.ports.length (by rw [env_K]; omega) ⟨0, [], by simp, by simp, by simp [rootUpto], by simp, by simp [hB, Bridge.enc]⟩ ?_
    rintro j tm H' hj ⟨i, T, hij, t1, t4, t5, rfl⟩ Q2 hn2 he2 hr2
    simp [t1, t4, t5, hB, builtinV, pureB, lenV]
    refine gdL_t (fun hc => ?_) (fun hc => ?_)
    · simp [hc, eo, t1]
      simp at hc
      obtain ⟨id2, r, bl, rfl, hbl, hbe, hrow⟩ := h_ i _ (by simp [hc]; rfl)
      have hid := blkAt_len hbl
      have g4 : IntKind.i64.wrap ((i : Int) + 1) = (i : Int) + 1 := wrap64 (by omega) (by omega)
      have hlt := rootUpto_lt b i
      have hstep : rootUpto b (i + 1) = rootStep b (rootUpto b i) i b.ports[i] := by rw [rootUpto, List.getElem?_eq_getElem hc]
      have hskip : ∀ tm', tm' 1 = .ptr H.length 0 0 → tm' 4 = .int (rootUpto b (i + 1)) → tm' 5 = .int ((i : Int) + 1) → ∀ T', Q2 .normal tm' (H ++ some ⟨102, .wr, [[.i .i64 b.id, .sl (some (id2, r)) b.ports.length]]⟩ :: T') := fun tm' a1 a4 a5 T' =>
        hn2 (j - 1) _ _ (by omega) ⟨i + 1, T', by omega, a1, a4, by simpa using a5, by rw [hB]⟩
      obtain ⟨p, hp⟩ : ∃ p, p = b.ports[i] := ⟨_, rfl⟩
      rw [← hp] at hstep
      have skipped : rootSkip b p = true → rootUpto b (i + 1) = rootUpto b i := fun hs => by rw [hstep, rootStep, if_pos hs]
      simp [t1, t4, t5, indexAddrV, elemIs, hid, hbl, hbe, hc, hrow, ← hp, Port.enc]
      repeat' (first | (refine gdL_t (fun h => ?_) (fun h => ?_) <;> simp [h, t1, t4, t5, g4]) | (refine gdL_f (fun h => ?_) (fun h => ?_) <;> simp [h, t1, t4, t5, g4]) | (refine selS_intro (fun h => ?_) (fun h => ?_) <;> simp [h, t1, t4, t5, g4]))
      iterate 5 (refine hskip _ (by simp [t1]) ?_ (by simp) _; rw [skipped (by clear hQ hn2 he2 hr2 hskip; simp_all [rootSkip])]; simp [t4])
      · have hns : rootSkip b p = false := by clear hQ hn2 he2 hr2 hskip skipped; simp_all [rootSkip]
        refine hskip _ (by simp [t1]) ?_ (by simp) _
        rw [hstep, rootStep, hns]
        have h0 : rootUpto b i < 0 := by simpa using h
        simp [h0]
      · have hns : rootSkip b p = false := by clear hQ hn2 he2 hr2 hskip skipped; simp_all [rootSkip]
        have h0 : 0 ≤ rootUpto b i := by simpa using h
        have hki : (rootUpto b i).toNat < b.ports.length := by omega
        have hkl : rootUpto b i < (b.ports.length : Int) := by omega
        obtain ⟨id3, r3, bl3, hx3, hbl3, hbe3, hrow3⟩ := h_ (rootUpto b i).toNat _ (by simp [hki]; rfl)
        cases hx3
        rw [hbl] at hbl3
        injection hbl3 with hbl3
        subst hbl3
        have hgd : (b.ports.getD (rootUpto b i).toNat default) = b.ports[(rootUpto b i).toNat] := by simp [List.getD, List.getElem?_eq_getElem hki]
        have hnl : ¬ rootUpto b i < 0 := by omega
        rw [rootStep, hns, hgd] at hstep
        simp only [Bool.false_eq_true, if_false, hnl, decide_false, Bool.false_or] at hstep
        simp [t1, t4, t5, indexAddrV, elemIs, hid, hbl, hbe, h0, hkl, hrow3, Port.enc, e1]
        refine selS_intro (fun hd => ?_) (fun hd => ?_)
        · simp [t1, t4, t5, g4]
          refine hskip _ (by simp [t1]) ?_ (by simp) _
          rw [hstep, if_pos (by simpa using hd)]
          simp
        · simp [t1, t4, t5, g4]
          refine hskip _ (by simp [t1]) ?_ (by simp) _
          rw [hstep, if_neg (by simpa using hd)]
          simp [t4]
    · simp [hc]
      simp at hc
      obtain rfl : i = b.ports.length := by omega
      refine he2 _ _ _ ?_
      simp [t4]
      refine hQ _ _ _ (by simp) ?_
      simp [Tryz.f151, rootPort, rootAt, hok]
      exact decide_eq_decide.2 Iff.rfl

def bridgeNew (id ports : Int) : Bridge × Bool := if (decide (1 ≤ id) && decide (id ≤ 9)) && (decide (1 ≤ ports) && decide (ports ≤ 4)) then (⟨id, List.replicate ports.toNat Port.zv⟩, true) else (⟨0, []⟩, false)
theorem Port.zv_ok : Port.zv.ok = true := by decide
theorem bridgeNew_ok {id ports : Int} (h : (bridgeNew id ports).2 = true) : (bridgeNew id ports).1.ok = true := by
  unfold bridgeNew at h ⊢
  split at h
  · rename_i h1
    rw [if_pos h1]
    simp at h1
    have hl : (List.replicate ports.toNat Port.zv).all Port.ok = true := by
      rw [List.all_eq_true]; intro p hp; rw [(List.mem_replicate.1 hp).2]; exact Port.zv_ok
    simp only [Bridge.ok, hl, Bool.true_and, List.length_replicate, Bool.and_eq_true, decide_eq_true_eq]
    omega
  · simp at h

theorem implBridgeNew (H : Heap) (id ports : Int) : Runs env 82 [.int id, .int ports] H fun v H' => ∃ l fp, v = .tup [.agg l, .lf (.b (bridgeNew id ports).2)] ∧ IsBridge H' l (bridgeNew id ports).1 fp ∧ Fresh H H' fp := by
  refine Runs.walk ok82 Tryz.func82 rfl (by simp [Tryz.f82]) fun Q hQ => ?_
  simp only [Tryz.f82, strip, stripL, stripI, stripG, chkT, tagsB, tagsL, tagD, addT, tagA, lookN, tagOp, elmT, ty24, ty25, ty26, ty27, ty28, ty34, ty35, ty36, ty37, ty59, ty61, ty64, ty100, Nat.reduceEqDiff, if_false, reduceIte, Option.getD_some, Option.getD_none, dstAt, dstOk, Nat.reduceLT, decide_true, if_true]
  simp [inRange]
  by_cases h1 : 1 ≤ id ∧ id ≤ 9
  · by_cases h2 : 1 ≤ ports ∧ ports ≤ 4
    · have hb : bridgeNew id ports = (⟨id, List.replicate ports.toNat Port.zv⟩, true) := by simp [bridgeNew, h1, h2]
      have k1 : ports * 80 ≤ 281474976710656 := by omega
      have k2 : ports ≤ 9223372036854775807 := by omega
      have k3 : 0 ≤ ports := by omega
      simp [h1, h2, makeSliceV, makeSliceR, newBlk, k1, k2, k3, inRange]
      refine hQ _ _ _ (by simp) ?_
      simp [Tryz.f82, hb]
      have ho : ∀ B : Option Blk, IsBridge (H ++ [B, some ⟨142, .wr, List.replicate ports.toNat Port.z⟩]) [.i .i64 id, .sl (some (H.length + 1, 0)) ports.toNat] ⟨id, List.replicate ports.toNat Port.zv⟩ [H.length + 1] := fun B =>
        ⟨some (H.length + 1, 0), by simp [Bridge.enc], Own.of (by simp [Port.enc])⟩
      exact (ho _).leave (Fresh.app H _ (by simp)) (by simp)
    · have hb : bridgeNew id ports = (⟨0, []⟩, false) := by
        unfold bridgeNew; rw [if_neg]; simp; intros; omega
      have h2' : (decide (1 ≤ ports) && decide (ports ≤ 4)) = false := by rw [Bool.and_eq_false_iff]; simp; omega
      simp [h1, h2', inRange]
      refine hQ _ _ _ (by simp) ?_
      simp [Tryz.f82, hb]
      exact ⟨[], ⟨none, rfl, Own.nil _ _⟩, Fresh.refl _⟩
  · have hb : bridgeNew id ports = (⟨0, []⟩, false) := by
      unfold bridgeNew; rw [if_neg]; simp; intros; omega
    rcases (show ¬ 1 ≤ id ∨ ¬ id ≤ 9 by omega) with h | h
    all_goals (simp [h]; refine hQ _ _ _ (by simp) ?_; simp [Tryz.f82, hb]; exact ⟨[], ⟨none, rfl, Own.nil _ _⟩, Fresh.refl _⟩)

theorem l1Min (H : Heap) (a b : Int) : run env 116 [.int a, .int b] H = some (.int (if a < b then a else b), H) := by
  refine run_walk ok116 Tryz.func116 rfl (by simp [Tryz.f116]) fun Q hQ => ?_
  simp only [Tryz.f116, strip, stripL, stripI, stripG, chkT, tagsB, tagsL, tagD, addT, tagA, lookN, tagOp, elmT, ty24, ty25, ty26, ty27, ty28, ty34, ty35, ty36, ty37, ty59, ty61, ty64, ty100, Nat.reduceEqDiff, if_false, reduceIte, Option.getD_some, Option.getD_none, dstAt, dstOk, Nat.reduceLT, decide_true, if_true]
  simp
  refine selS_intro (fun h => ?_) (fun h => ?_)
  all_goals (simp; refine hQ _ _ _ (by simp) ?_; simp at h; simp [Tryz.f116]; omega)

def Wire.ok (w : Wire) : Bool := (decide (0 ≤ w.frm) && decide (w.frm ≤ 1)) && (decide (0 ≤ w.life) && decide (w.life ≤ 100000)) && (decide (0 ≤ w.n) && decide (w.n ≤ 100000)) && (if w.ack then decide (w.inn = ⟨0, 0, ⟨0, 0, 0, 0⟩, 0, false⟩) else w.inn.ok)

theorem wireOk (H : Heap) (w : Wire) : run env 108 [.agg w.enc] H = some (.bool w.ok, H) := by
  obtain ⟨a1, a2, a3, a4, ⟨b1, b2, ⟨c1, c2, c3, c4⟩, b4, b5⟩⟩ := w
  have e := fun H => implInOk H ⟨b1, b2, ⟨c1, c2, c3, c4⟩, b4, b5⟩
  simp only [In.enc] at e
  refine run_walk ok108 Tryz.func108 rfl (by simp [Tryz.f108]) fun Q hQ => ?_
  simp only [Tryz.f108, strip, stripL, stripI, stripG, chkT, tagsB, tagsL, tagD, addT, tagA, lookN, tagOp, elmT, ty24, ty25, ty26, ty27, ty28, ty34, ty35, ty36, ty37, ty59, ty61, ty64, ty100, Nat.reduceEqDiff, if_false, reduceIte, Option.getD_some, Option.getD_none, dstAt, dstOk, Nat.reduceLT, decide_true, if_true]
  simp [Wire.enc, isSide]
  repeat' (first | (refine gdL_t (fun h => ?_) (fun h => ?_) <;> simp [h, isSide, isNum, e]) | (refine gdL_f (fun h => ?_) (fun h => ?_) <;> simp [h, isSide, isNum, e]) | (refine selS_intro (fun h => ?_) (fun h => ?_) <;> simp [h, isSide, isNum, e]))
  all_goals (refine hQ _ _ _ (by simp) ?_)
  all_goals (clear hQ e; simp_all [Tryz.f108, Wire.ok])
  all_goals (try (intros; exfalso; omega))
  all_goals (try omega)
  all_goals (by_cases z0 : a1 = 0 <;> by_cases z1 : a1 = 1 <;> simp_all [Bool.and_assoc])

def Box.ok (x : Box) : Bool := (bridgeNew x.id x.ports).2 && x.reg.ok && decide (x.two.length = 2) && decide (x.net.length ≤ 20) && x.two.all Minder.ok && x.net.all Wire.ok && decide ((x.gates.length : Int) = x.ports) && logOk x.line && decide (x.said.length ≤ 40)

theorem implBoxOk_is {H : Heap} {l : List Lf} {x : Box} (h : RdBox H l x) (hn : x.sz ≤ 2000000) : run env 54 [.agg l] H = some (.bool x.ok, H) := by
  have hR := h
  obtain ⟨_, _, _, _, _, rfl, ⟨a0, rws, rfl, hs, hlen, hat⟩, ⟨a1, rfl, r1⟩, ⟨a2, rfl, r2⟩, ⟨a3, rfl, r3⟩, ⟨a4, rfl, r4⟩⟩ := h
  unfold Box.sz at hn
  have hl0 := MinderS.sz_len x.two
  have er := fun H => implRegOk H x.reg
  have el := fun G => implLogOk (H ++ G) a3 x.line (r3.app G) (by omega)
  simp only [Reg.enc] at er
  refine run_walk ok54 Tryz.func54 rfl (by simp [Tryz.f54]) fun Q hQ => ?_
  simp only [Tryz.f54, strip, stripL, stripI, stripG, chkT, tagsB, tagsL, tagD, addT, tagA, lookN, tagOp, elmT, ty24, ty25, ty26, ty27, ty28, ty34, ty35, ty36, ty37, ty59, ty61, ty64, ty100, Nat.reduceEqDiff, if_false, reduceIte, Option.getD_some, Option.getD_none, dstAt, dstOk, Nat.reduceLT, decide_true, if_true]
  have bad : x.ok = false → ∀ tm H', (∃ G, H' = H ++ G) → tm 2 = .bool false → Q .ret tm H' := by
    rintro hx tm _ ⟨G, rfl⟩ h4
    refine hQ _ _ _ (by simp) ?_
    simp [Tryz.f54, h4, hx]
  simp [Box.enc]
  refine stpL_runs (implBridgeNew _ _ _) ?_
  rintro _ _ ⟨lb, fb, rfl, ob, ⟨⟨G0, rfl⟩, -⟩⟩
  have hbL := ob.len
  simp [hbL, er, builtinV, pureB, lenV]
  repeat' (first | (refine gdL_t (fun h => ?_) (fun h => ?_) <;> simp [h, hbL, er, builtinV, pureB, lenV]) | (refine gdL_f (fun h => ?_) (fun h => ?_) <;> simp [h, hbL, er, builtinV, pureB, lenV]) | (refine selS_intro (fun h => ?_) (fun h => ?_) <;> simp [h, hbL, er, builtinV, pureB, lenV]))
  · exact bad (by simp only [Box.ok]; simp_all) _ _ ⟨_, rfl⟩ (by simp)
  · exact bad (by simp only [Box.ok]; simp_all) _ _ ⟨_, rfl⟩ (by simp)
  · exact bad (by simp only [Box.ok]; simp at h; simp; intros; omega) _ _ ⟨_, rfl⟩ (by simp)
  · exact bad (by simp only [Box.ok]; simp at h; simp; intros; omega) _ _ ⟨_, rfl⟩ (by simp)
  rename_i k1 k2 k3
  have h2 : x.two.length = 2 := by simp at k3; omega
  have h20 : x.net.length ≤ 20 := by simp at h; omega
  have kb : (bridgeNew x.id x.ports).2 = true := by simpa using k1
  have kr : x.reg.ok = true := by simpa using k2
  clear k1 k2 k3
  obtain ⟨B, hB⟩ : ∃ B : Option Blk, B = some ⟨39, .wr, [[.i .i64 x.id, .i .i64 x.ports, .i .i64 x.reg.epoch, .i .i64 x.reg.owner, .i .i64 x.reg.pair, .sl a0 x.two.length, .sl a1 x.net.length, .sl a2 x.gates.length, .sl a3 x.line.length, .sl a4 x.said.length]]⟩ := ⟨_, rfl⟩
  refine wpS_loop (fun j tm H' => ∃ i T, i + j = x.two.length ∧ tm 1 = .ptr H.length 0 0 ∧ tm 38 = .w (.lf (.sl a0 x.two.length)) ∧ tm 39 = .int x.two.length ∧ tm 40 = .int i ∧ H' = H ++ B :: T ∧ ∀ m ∈ x.two.take i, m.ok = true) x.two.length (by rw [env_K]; omega)
    ⟨0, _, by simp, by simp, by simp, by simp, by simp, by simp [hB]; rfl, by simp⟩ ?_
  rintro j tm H' hj ⟨i, T, hij, t1, t38, t39, t40, rfl, hall⟩ Q2 hn2 he2 hr2
  simp [t1, t38, t39, t40]
  refine selS_intro (fun hc => ?_) (fun hc => ?_)
  · simp at hc
    have hri : i < rws.length := by omega
    obtain ⟨id2, r, bl, rfl, hbl, hbe, hrow⟩ := hs i _ (List.getElem?_eq_getElem hri)
    have hid := blkAt_len hbl
    have he := hat i _ _ (List.getElem?_eq_getElem hri) (List.getElem?_eq_getElem hc)
    have hsz := MinderS.sz_at (List.getElem_mem hc)
    have e1 := fun G => implMinderOk_is (he.app G) (by omega)
    have hL := he.len
    have hT : rws[i].take rws[i].length = rws[i] := List.take_length
    rw [hL] at hT
    have g4 : IntKind.i64.wrap ((i : Int) + 1) = (i : Int) + 1 := wrap64 (by omega) (by omega)
    simp [t1, t38, t39, t40, indexAddrV, elemIs, hid, hbl, hbe, hc, hrow, hL, hT, e1]
    refine selS_intro (fun hd => ?_) (fun hd => ?_)
    · simp
      refine hr2 _ _ ?_
      simp
      refine bad ?_ _ _ ⟨_, rfl⟩ (by simp)
      have : x.two.all Minder.ok = false := List.all_eq_false.2 ⟨x.two[i], by simp, by simpa using hd⟩
      simp [Box.ok, this]
    · simp [t1, t38, t39, t40, g4]
      refine hn2 (j - 1) _ _ (by omega) ⟨i + 1, _, by omega, by simp [t1], by simp [t38], by simp [t39], by simp, rfl, ?_⟩
      intro m hm
      rw [List.take_add_one, List.getElem?_eq_getElem hc, List.mem_append] at hm
      rcases hm with hm | hm
      · exact hall m hm
      · simp at hm
        rw [hm]
        simpa using hd
  · simp at hc
    rw [List.take_of_length_le (by omega)] at hall
    have hallm : x.two.all Minder.ok = true := List.all_eq_true.2 hall
    simp [t1, t38, t39, t40]
    refine he2 _ _ _ ?_
    simp [t1, hB, builtinV, pureB, lenV]
    refine wpS_loop (fun j tm H' => ∃ i T, i + j = x.net.length ∧ tm 1 = .ptr H.length 0 0 ∧ tm 49 = .w (.lf (.sl a1 x.net.length)) ∧ tm 50 = .int x.net.length ∧ tm 51 = .int i ∧ H' = H ++ B :: T ∧ ∀ m ∈ x.net.take i, m.ok = true) x.net.length (by rw [env_K]; omega)
      ⟨0, _, by simp, by simp [t1], by simp, by simp, by simp, by rw [hB], by simp⟩ ?_
    rintro j tm H' hj ⟨i, T, hij, t1, t49, t50, t51, rfl, hall2⟩ Q3 hn3 he3 hr3
    simp [t1, t49, t50, t51]
    refine selS_intro (fun hc => ?_) (fun hc => ?_)
    · simp at hc
      obtain ⟨id2, r, bl, rfl, hbl, hbe, hrow⟩ := r1 i _ (by simp [hc]; rfl)
      have hid := blkAt_len hbl
      have g4 : IntKind.i64.wrap ((i : Int) + 1) = (i : Int) + 1 := wrap64 (by omega) (by omega)
      simp [t1, t49, t50, t51, indexAddrV, elemIs, hid, hbl, hbe, hc, hrow, wireOk]
      refine selS_intro (fun hd => ?_) (fun hd => ?_)
      · simp
        refine hr3 _ _ ?_
        simp
        refine bad ?_ _ _ ⟨_, rfl⟩ (by simp)
        have : x.net.all Wire.ok = false := List.all_eq_false.2 ⟨x.net[i], by simp, by simpa using hd⟩
        simp [Box.ok, this]
      · simp [t1, t49, t50, t51, g4]
        refine hn3 (j - 1) _ _ (by omega) ⟨i + 1, _, by omega, by simp [t1], by simp [t49], by simp [t50], by simp, rfl, ?_⟩
        intro m hm
        rw [List.take_add_one, List.getElem?_eq_getElem hc, List.mem_append] at hm
        rcases hm with hm | hm
        · exact hall2 m hm
        · simp at hm
          rw [hm]
          simpa using hd
    · simp at hc
      rw [List.take_of_length_le (by omega)] at hall2
      have halln : x.net.all Wire.ok = true := List.all_eq_true.2 hall2
      have hbase : x.ok = (decide ((x.gates.length : Int) = x.ports) && logOk x.line && decide ((x.said.length : Int) ≤ 40)) := by
        have e2 : decide (x.two.length = 2) = true := by simpa using h2
        have e20 : decide (x.net.length ≤ 20) = true := by simpa using h20
        have e40 : decide (x.said.length ≤ 40) = decide ((x.said.length : Int) ≤ 40) := by rw [decide_eq_decide]; omega
        unfold Box.ok
        rw [kb, kr, e2, e20, hallm, halln, e40]
        simp
      simp [t1, t49, t50, t51]
      refine he3 _ _ _ ?_
      simp [t1, hB, builtinV, pureB, lenV]
      repeat' (first | (refine gdL_t (fun h => ?_) (fun h => ?_) <;> simp [h, t1, hB, el, builtinV, pureB, lenV]) | (refine gdL_f (fun h => ?_) (fun h => ?_) <;> simp [h, t1, hB, el, builtinV, pureB, lenV]) | (refine selS_intro (fun h => ?_) (fun h => ?_) <;> simp [h, t1, hB, el, builtinV, pureB, lenV]))
      all_goals (refine hQ _ _ _ (by simp) ?_)
      all_goals (simp [Tryz.f54, hbase])
      all_goals (clear hQ; simp_all)

theorem specNew_ok (id ports : Int) : (⟨id, List.replicate (if ports < 5 then ports else 5).toNat Port.zv⟩ : Bridge).ok = (bridgeNew id ports).2 := by
  have hl : ∀ n, (List.replicate n Port.zv).all Port.ok = true := fun n => by
    rw [List.all_eq_true]; intro p hp; rw [(List.mem_replicate.1 hp).2]; exact Port.zv_ok
  by_cases h : (1 ≤ id ∧ id ≤ 9) ∧ 1 ≤ ports ∧ ports ≤ 4
  · have h1 : bridgeNew id ports = (⟨id, List.replicate ports.toNat Port.zv⟩, true) := by unfold bridgeNew; rw [if_pos (by simp; omega)]
    rw [h1, if_pos (by omega)]
    simp only [Bridge.ok, hl, Bool.true_and, List.length_replicate, Bool.and_eq_true, decide_eq_true_eq]
    omega
  · have h1 : bridgeNew id ports = (⟨0, []⟩, false) := by unfold bridgeNew; rw [if_neg (by simp; intros; omega)]
    rw [h1, Bool.eq_false_iff]
    simp only [Bridge.ok, hl, Bool.true_and, List.length_replicate, ne_eq, Bool.and_eq_true, decide_eq_true_eq]
    intro h2
    split at h2 <;> omega
theorem specBridgeNew (H : Heap) (id ports : Int) : Runs env 71 [.int id, .int ports] H fun v H' => ∃ l fp, v = .tup [.agg l, .lf (.b (bridgeNew id ports).2)] ∧ IsBridge H' l (bridgeNew id ports).1 fp ∧ Fresh H H' fp := by
  obtain ⟨n, hn⟩ : ∃ n, n = (if ports < 5 then ports else 5).toNat := ⟨_, rfl⟩
  have hn5 : n ≤ 5 := by rw [hn]; split <;> omega
  obtain ⟨C, hC⟩ : ∃ C : Option Blk, C = some ⟨102, .wr, [[.i .i64 0, .sl none 0]]⟩ := ⟨_, rfl⟩
  have e1 := fun H a b => l1Min H a b
  refine Runs.walk ok71 Tryz.func71 rfl (by simp [Tryz.f71]) fun Q hQ => ?_
  simp only [Tryz.f71, strip, stripL, stripI, stripG, chkT, tagsB, tagsL, tagD, addT, tagA, lookN, tagOp, elmT, ty24, ty25, ty26, ty27, ty28, ty34, ty35, ty36, ty37, ty59, ty61, ty64, ty100, Nat.reduceEqDiff, if_false, reduceIte, Option.getD_some, Option.getD_none, dstAt, dstOk, Nat.reduceLT, decide_true, if_true]
  simp
  refine wpS_loop (fun j tm H' => ∃ i a' fp G, i + j = n ∧ tm 0 = .int id ∧ tm 1 = .int ports ∧ tm 4 = .ptr H.length 0 0 ∧ tm 6 = .ptr (H.length + 1) 0 0 ∧ tm 7 = .int i ∧ H' = H ++ C :: some ⟨102, .wr, [[.i .i64 id, .sl a' i]]⟩ :: G ∧
      Own (H ++ C :: some ⟨102, .wr, [[.i .i64 id, .sl a' i]]⟩ :: G) 142 a' (List.replicate i Port.z) fp ∧ ∀ k ∈ fp, H.length + 2 ≤ k) n (by rw [env_K]; omega)
    ⟨0, none, [], [], by simp, by simp, by simp, by simp, by simp, by simp, by simp [hC], Own.nil _ _, by simp⟩ ?_
  rintro j tm H' hj ⟨i, a', fp, G, hij, t0, t1, t4, t6, t7, rfl, ho, hfp⟩ Q2 hn2 he2 hr2
  simp [t0, t1, t4, t6, t7, e1]
  refine selS_intro (fun hc => ?_) (fun hc => ?_)
  · simp at hc
    have hin : i < n := by rw [hn]; omega
    have g4 : IntKind.i64.wrap ((i : Int) + 1) = (i : Int) + 1 := wrap64 (by omega) (by omega)
    simp [t0, t1, t4, t6, t7]
    refine stpL_append (rows := List.replicate i Port.z) (ys := [Port.z]) (by simpa using ho.app _) (Sl.of (by simp)) rfl rfl rfl (by simp) (by simp; omega) (by simp) rfl ?_
    intro a2 H2 f2 o2 hk2 hf2
    obtain ⟨G2, rfl, -, -⟩ := Keep.cut (L := [_, _]) hk2 (by intro k hk; have := hfp k hk; simp; omega)
    have lo2 : ∀ k ∈ f2, H.length + 2 ≤ k := fun k hk => by
      rcases hf2 k hk with h | h
      · exact hfp k h
      · simp at h; omega
    have o3 := fun y => o2.keep (Keep.set (id := H.length + 1) _ y) (fun k hk => by have := lo2 k hk; simp; omega)
    simp at o3
    simp [t0, t1, t4, t6, t7, g4]
    refine hn2 (j - 1) _ _ (by omega) ⟨i + 1, a2, f2, G2, by omega, by simp [t0], by simp [t1], by simp [t4], by simp [t6], by simp, rfl, ?_, lo2⟩
    rw [List.replicate_succ']
    exact o3 _
  · simp at hc
    have hin : i = n := by rw [hn]; omega
    subst hin
    have hd : RdBridge (H ++ C :: some ⟨102, .wr, [[.i .i64 id, .sl a' i]]⟩ :: G) [.i .i64 id, .sl a' i] ⟨id, List.replicate i Port.zv⟩ := ⟨a', by simp [Bridge.enc], by simpa [Port.enc] using ho.sl⟩
    have e2 := specBridgeOk_is hd (by simp [Bridge.sz]; omega)
    have hok := specNew_ok id ports
    rw [← hn] at hok
    rw [hok] at e2
    simp [t0, t1, t4, t6, t7]
    refine he2 _ _ _ ?_
    simp [t4, t6, e2]
    refine selS_intro (fun hd => ?_) (fun hd => ?_)
    · simp at hd
      simp [t4, t6, hC]
      refine hQ _ _ _ (by simp) ?_
      have hb : bridgeNew id ports = (⟨0, []⟩, false) := by
        unfold bridgeNew at hd ⊢
        split at hd
        · cases hd
        · rename_i h; rw [if_neg h]
      simp [Tryz.f71, hb, t4]
      exact ⟨[], ⟨none, rfl, Own.nil _ _⟩, Fresh.refl _⟩
    · simp at hd
      simp [t4, t6, hC]
      refine hQ _ _ _ (by simp) ?_
      have hb : bridgeNew id ports = (⟨id, List.replicate i Port.zv⟩, true) := by
        unfold bridgeNew at hd ⊢
        split at hd
        · rename_i h
          rw [if_pos h]
          simp at h
          have : ports.toNat = i := by rw [hn, if_pos (by omega)]
          rw [this]
        · cases hd
      simp [Tryz.f71, hb, t4]
      have o5 := fun y => ho.keep (Keep.set (id := H.length) _ y) (fun k hk => by have := hfp k hk; simp; omega)
      simp at o5
      exact IsBridge.leave ⟨a', by simp [Bridge.enc], by simpa [Port.enc] using o5 _⟩ (Fresh.app H _ fun k hk => by have := hfp k hk; omega) (by simp)

theorem l14Net {H : Heap} {l : List Lf} {x : Box} (h : RdBox H l x) (hn : x.sz ≤ 2000000) : run env 96 [.agg l] H = some (.bool (x.net.all Wire.ok && decide ((x.net.length : Int) ≤ 20)), H) := by
  obtain ⟨q0, _, q2, q3, q4, rfl, -, ⟨a1, rfl, r1⟩, -, -, -⟩ := h
  unfold Box.sz at hn
  have e1 := fun H x => specInOk H x
  have e2 := fun H (b1 b2 c1 c2 c3 c4 b4 : Int) (b5 : Bool) => specInOk H ⟨b1, b2, ⟨c1, c2, c3, c4⟩, b4, b5⟩
  simp only [In.enc] at e2
  obtain ⟨B, hB⟩ : ∃ B : Option Blk, B = some ⟨39, .wr, [x.enc q0 (.sl a1 x.net.length) q2 q3 q4]⟩ := ⟨_, rfl⟩
  refine run_walk ok96 Tryz.func96 rfl (by simp [Tryz.f96]) fun Q hQ => ?_
  simp only [Tryz.f96, strip, stripL, stripI, stripG, chkT, tagsB, tagsL, tagD, addT, tagA, lookN, tagOp, elmT, ty24, ty25, ty26, ty27, ty28, ty34, ty35, ty36, ty37, ty59, ty61, ty64, ty100, Nat.reduceEqDiff, if_false, reduceIte, Option.getD_some, Option.getD_none, dstAt, dstOk, Nat.reduceLT, decide_true, if_true]
  simp
  refine wpS_loop (fun j tm H' => ∃ i T, i + j = x.net.length ∧ tm 1 = .ptr H.length 0 0 ∧ tm 3 = .int i ∧ H' = H ++ B :: T ∧ ∀ m ∈ x.net.take i, m.ok = true) x.net.length (by rw [env_K]; omega)
    ⟨0, _, by simp, by simp, by simp, by simp [hB]; rfl, by simp⟩ ?_
  rintro j tm H' hj ⟨i, T, hij, t1, t3, rfl, hall⟩ Q2 hn2 he2 hr2
  simp [t1, t3, hB, Box.enc, builtinV, pureB, lenV]
  refine selS_intro (fun hc => ?_) (fun hc => ?_)
  · simp at hc
    obtain ⟨id2, r, bl, rfl, hbl, hbe, hrow⟩ := r1 i _ (by simp [hc]; rfl)
    have hid := blkAt_len hbl
    have g4 : IntKind.i64.wrap ((i : Int) + 1) = (i : Int) + 1 := wrap64 (by omega) (by omega)
    have hbad : x.net[i].ok = false → ∀ tm, tm 2 = .bool false → ∀ T', Q2 .ret tm (H ++ some ⟨39, .wr, [x.enc q0 (.sl (some (id2, r)) x.net.length) q2 q3 q4]⟩ :: T') := by
      intro hx tm h2 T'
      refine hr2 _ _ ?_
      simp
      refine hQ _ _ _ (by simp) ?_
      have : x.net.all Wire.ok = false := List.all_eq_false.2 ⟨x.net[i], by simp, by simp [hx]⟩
      simp [Tryz.f96, h2, this]
    have hgood : x.net[i].ok = true → ∀ tm, tm 1 = .ptr H.length 0 0 → tm 3 = .int ((i : Int) + 1) → ∀ T', Q2 .normal tm (H ++ some ⟨39, .wr, [x.enc q0 (.sl (some (id2, r)) x.net.length) q2 q3 q4]⟩ :: T') := by
      intro hx tm a1 a3 T'
      refine hn2 (j - 1) _ _ (by omega) ⟨i + 1, T', by omega, a1, by simpa using a3, by rw [hB], ?_⟩
      intro m hm
      rw [List.take_add_one, List.getElem?_eq_getElem hc, List.mem_append] at hm
      rcases hm with hm | hm
      · exact hall m hm
      · simp at hm
        rw [hm]
        exact hx
    simp only [Box.enc] at hbad hgood
    obtain ⟨w, hw⟩ : ∃ w, w = x.net[i] := ⟨_, rfl⟩
    rw [← hw] at hbad hgood
    obtain ⟨w1, w2, w3, w4, ⟨b1, b2, ⟨c1, c2, c3, c4⟩, b4, b5⟩⟩ := w
    simp [t1, t3, indexAddrV, elemIs, hid, hbl, hbe, hc, hrow, ← hw, Wire.enc, l1In]
    repeat' (first | (refine gdL_t (fun h => ?_) (fun h => ?_) <;> simp [h, t1, t3, l1In, e2, g4]) | (refine gdL_f (fun h => ?_) (fun h => ?_) <;> simp [h, t1, t3, l1In, e2, g4]) | (refine selS_intro (fun h => ?_) (fun h => ?_) <;> simp [h, t1, t3, l1In, e2, g4]))
    iterate 3 (refine hbad ?_ _ (by simp) _; rw [Wire.ok]; clear hbad hgood hQ hn2 he2 hr2 e1 e2; simp_all; try omega)
    · refine hbad ?_ _ (by simp) _
      rw [Wire.ok]; clear hbad hgood hQ hn2 he2 hr2 e1 e2; simp_all; try (intros; simp_all)
    · refine hgood ?_ _ (by simp [t1]) (by simp) _
      rw [Wire.ok]; clear hbad hgood hQ hn2 he2 hr2 e1 e2; simp_all; try (intros; simp_all)
    · refine hbad ?_ _ (by simp) _
      rw [Wire.ok]; clear hbad hgood hQ hn2 he2 hr2 e1 e2; simp_all; try (intros; simp_all)
    · refine hgood ?_ _ (by simp [t1]) (by simp) _
      rw [Wire.ok]; clear hbad hgood hQ hn2 he2 hr2 e1 e2; simp_all; try (intros; simp_all)
  · simp at hc
    rw [List.take_of_length_le (by omega)] at hall
    have halln : x.net.all Wire.ok = true := List.all_eq_true.2 hall
    simp [t1, t3]
    refine he2 _ _ _ ?_
    simp [t1, hB, Box.enc, builtinV, pureB, lenV]
    refine hQ _ _ _ (by simp) ?_
    simp [Tryz.f96, halln]

theorem specBoxOk_is {H : Heap} {l : List Lf} {x : Box} (h : RdBox H l x) (hn : x.sz ≤ 2000000) : run env 48 [.agg l] H = some (.bool x.ok, H) := by
  have hR := h
  obtain ⟨_, _, _, _, _, rfl, ⟨a0, rws, rfl, hs, hlen, hat⟩, ⟨a1, rfl, r1⟩, ⟨a2, rfl, r2⟩, ⟨a3, rfl, r3⟩, ⟨a4, rfl, r4⟩⟩ := h
  have hn0 := hn
  unfold Box.sz at hn
  have hl0 := MinderS.sz_len x.two
  have er := fun H => specRegOk H x.reg
  have el := fun G => specLogOk (H ++ G) a3 x.line (r3.app G) (by omega)
  have en := fun G => l14Net (hR.app G) hn0
  simp only [Reg.enc] at er
  simp only [Box.enc] at en
  refine run_walk ok48 Tryz.func48 rfl (by simp [Tryz.f48]) fun Q hQ => ?_
  simp only [Tryz.f48, strip, stripL, stripI, stripG, chkT, tagsB, tagsL, tagD, addT, tagA, lookN, tagOp, elmT, ty24, ty25, ty26, ty27, ty28, ty34, ty35, ty36, ty37, ty59, ty61, ty64, ty100, Nat.reduceEqDiff, if_false, reduceIte, Option.getD_some, Option.getD_none, dstAt, dstOk, Nat.reduceLT, decide_true, if_true]
  have bad : x.ok = false → ∀ tm H', (∃ G, H' = H ++ G) → tm 2 = .bool false → Q .ret tm H' := by
    rintro hx tm _ ⟨G, rfl⟩ h4
    refine hQ _ _ _ (by simp) ?_
    simp [Tryz.f48, h4, hx]
  simp [Box.enc]
  refine stpL_runs (specBridgeNew _ _ _) ?_
  rintro _ _ ⟨lb, fb, rfl, ob, ⟨⟨G0, rfl⟩, -⟩⟩
  have hbL := ob.len
  by_cases h2 : x.two.length = 2
  · obtain ⟨m0, m1, hm⟩ : ∃ m0 m1, x.two = [m0, m1] := by
      match hx : x.two, h2 with
      | [m0, m1], _ => exact ⟨m0, m1, rfl⟩
    obtain ⟨l0, l1, hrw⟩ : ∃ l0 l1, rws = [l0, l1] := by
      match hx : rws, (by rw [hlen, h2] : rws.length = 2) with
      | [l0, l1], _ => exact ⟨l0, l1, rfl⟩
    subst hrw
    rw [hm] at hat
    obtain ⟨id2, r, bl, rfl, hbl, hbe, hrow0⟩ := hs 0 l0 rfl
    obtain ⟨id3, r3', bl3, hx3, hbl3, hbe3, hrow1⟩ := hs 1 l1 rfl
    cases hx3
    rw [hbl] at hbl3
    injection hbl3 with hbl3
    subst hbl3
    have hid := blkAt_len hbl
    have he0 := hat 0 l0 m0 rfl rfl
    have he1 := hat 1 l1 m1 rfl rfl
    have hs0 := MinderS.sz_at (xs := x.two) (x := m0) (by simp [hm])
    have hs1 := MinderS.sz_at (xs := x.two) (x := m1) (by simp [hm])
    have e0 := fun G => specMinderOk_is (he0.app G) (by omega)
    have e1 := fun G => specMinderOk_is (he1.app G) (by omega)
    have hL0 := he0.len
    have hT0 : l0.take l0.length = l0 := List.take_length
    rw [hL0] at hT0
    have hL1 := he1.len
    have hT1 : l1.take l1.length = l1 := List.take_length
    rw [hL1] at hT1
    have hbase : x.ok = ((bridgeNew x.id x.ports).2 && x.reg.ok && m0.ok && m1.ok && (x.net.all Wire.ok && decide ((x.net.length : Int) ≤ 20)) && decide ((x.gates.length : Int) = x.ports) && logOk x.line && decide ((x.said.length : Int) ≤ 40)) := by
      have e20 : decide (x.net.length ≤ 20) = decide ((x.net.length : Int) ≤ 20) := by rw [decide_eq_decide]; omega
      have e40 : decide (x.said.length ≤ 40) = decide ((x.said.length : Int) ≤ 40) := by rw [decide_eq_decide]; omega
      have ea : x.two.all Minder.ok = (m0.ok && m1.ok) := by rw [hm]; simp
      have e2 : decide (x.two.length = 2) = true := by simpa using h2
      unfold Box.ok
      rw [e20, e40, ea, e2]
      cases (bridgeNew x.id x.ports).2 <;> cases x.reg.ok <;> cases m0.ok <;> cases m1.ok <;> cases x.net.all Wire.ok <;> cases decide ((x.net.length : Int) ≤ 20) <;> rfl
    simp only [Nat.add_zero] at hrow0
    simp only [h2] at en
    simp [hbL, er, h2, builtinV, pureB, lenV, indexAddrV, elemIs, hid, hbl, hbe, hrow0, hrow1, hL0, hT0, hL1, hT1, e0, e1]
    repeat' (first | (refine gdL_t (fun h => ?_) (fun h => ?_) <;> simp [h, hbL, er, h2, builtinV, pureB, lenV, indexAddrV, elemIs, hid, hbl, hbe, hrow0, hrow1, hL0, hT0, hL1, hT1, e0, e1, en, el]) | (refine gdL_f (fun h => ?_) (fun h => ?_) <;> simp [h, hbL, er, h2, builtinV, pureB, lenV, indexAddrV, elemIs, hid, hbl, hbe, hrow0, hrow1, hL0, hT0, hL1, hT1, e0, e1, en, el]) | (refine selS_intro (fun h => ?_) (fun h => ?_) <;> simp [h, hbL, er, h2, builtinV, pureB, lenV, indexAddrV, elemIs, hid, hbl, hbe, hrow0, hrow1, hL0, hT0, hL1, hT1, e0, e1, en, el]))
    all_goals (refine hQ _ _ _ (by simp) ?_)
    all_goals (rw [hbase])
    all_goals (clear hbase; simp [Tryz.f48])
    all_goals (clear hQ; simp_all)
    all_goals (try omega)
    all_goals (try (intro ha hb; have := h ha; omega))
  · have hx : x.ok = false := by simp [Box.ok, h2]
    have h2i : ¬ (x.two.length : Int) = 2 := by omega
    simp [hbL, er, h2i, builtinV, pureB, lenV]
    repeat' (first | (refine gdL_t (fun h => ?_) (fun h => ?_) <;> simp [h, hbL, er, h2i, builtinV, pureB, lenV]) | (refine gdL_f (fun h => ?_) (fun h => ?_) <;> simp [h, hbL, er, h2i, builtinV, pureB, lenV]) | (refine selS_intro (fun h => ?_) (fun h => ?_) <;> simp [h, hbL, er, h2i, builtinV, pureB, lenV]))
    all_goals exact bad hx _ _ ⟨_, rfl⟩ (by simp)

def heirM (x : Box) : Bool := match x.two[(1 - x.reg.owner).toNat]? with
  | some m => m.up && decide (0 < m.life) && decide (m.life = x.reg.pair) && decide (m.epoch = 0)
  | none => false
def heir (x : Box) : Bool := x.ok && heirM x
theorem Box.ok_owner {x : Box} (h : x.ok = true) : (x.reg.owner = 0 ∨ x.reg.owner = 1) ∧ x.two.length = 2 := by
  simp [Box.ok, Reg.ok] at h
  omega
/-- The minder at a place. -/
theorem minderAt {H : Heap} {rws : List (List Lf)} {xs : List Minder} {a : Option (Nat × Nat)} (hlen : rws.length = xs.length) (hs : Sl H 111 a rws) (hat : ∀ (i : Nat) (row : List Lf) (x : Minder), rws[i]? = some row → xs[i]? = some x → RdMinder H row x) {i : Nat} (hi : i < xs.length) :
    ∃ (id r : Nat) (bl : Blk) (q : Option (Nat × Nat)), a = some (id, r) ∧ id < H.length ∧ blkAt H id = some bl ∧ bl.elem = 111 ∧ bl.rows[r + i]? = some (xs[i].enc q) ∧ Sl H 53 q (xs[i].log.map In.enc) := by
  have hri : i < rws.length := by omega
  obtain ⟨id, r, bl, rfl, hbl, hbe, hrow⟩ := hs i _ (List.getElem?_eq_getElem hri)
  obtain ⟨q, hrw, hq⟩ := hat i _ _ (List.getElem?_eq_getElem hri) (List.getElem?_eq_getElem hi)
  exact ⟨id, r, bl, q, rfl, blkAt_len hbl, hbl, hbe, by rw [hrow, hrw], hq⟩

theorem heirMth {H : Heap} {id : Nat} {l : List Lf} {x : Box} (hb : blkAt H id = some ⟨39, .wr, [l]⟩) (h : RdBox H l x) (hk : x.ok = true) :
    run env 89 [.ptr id 0 0] H = some (.bool (heirM x), H) := by
  obtain ⟨_, _, _, _, _, rfl, ⟨a0, rws, rfl, hs, hlen, hat⟩, ⟨a1, rfl, r1⟩, ⟨a2, rfl, r2⟩, ⟨a3, rfl, r3⟩, ⟨a4, rfl, r4⟩⟩ := h
  have hid0 := blkAt_len hb
  obtain ⟨ho, h2⟩ := Box.ok_owner hk
  have w1 : IntKind.i64.wrap (1 - x.reg.owner) = 1 - x.reg.owner := wrap64 (by omega) (by omega)
  have hi : (1 - x.reg.owner).toNat < x.two.length := by omega
  obtain ⟨id2, r, bl, q, rfl, hid, hbl, hbe, hrow, -⟩ := minderAt hlen hs hat hi
  have hge : x.reg.owner ≤ 1 := by omega
  have hlt : 1 - x.reg.owner < (x.two.length : Int) := by omega
  have hlt2 : 0 ≤ 1 - x.reg.owner := by omega
  have hm : heirM x = (x.two[(1 - x.reg.owner).toNat].up && decide (0 < x.two[(1 - x.reg.owner).toNat].life) && decide (x.two[(1 - x.reg.owner).toNat].life = x.reg.pair) && decide (x.two[(1 - x.reg.owner).toNat].epoch = 0)) := by
    unfold heirM
    rw [List.getElem?_eq_getElem hi]
  obtain ⟨m, hmm⟩ : ∃ m, m = x.two[(1 - x.reg.owner).toNat] := ⟨_, rfl⟩
  rw [← hmm] at hm hrow
  refine run_walk ok89 Tryz.func89 rfl (by simp [Tryz.f89]) fun Q hQ => ?_
  simp only [Tryz.f89, strip, stripL, stripI, stripG, chkT, tagsB, tagsL, tagD, addT, tagA, lookN, tagOp, elmT, ty24, ty25, ty26, ty27, ty28, ty34, ty35, ty36, ty37, ty59, ty61, ty64, ty100, Nat.reduceEqDiff, if_false, reduceIte, Option.getD_some, Option.getD_none, dstAt, dstOk, Nat.reduceLT, decide_true, if_true]
  simp [hb, hid0, Box.enc, w1, indexAddrV, elemIs, hid, hbl, hbe, hrow, hge, hlt, Minder.enc]
  repeat' (first | (refine gdL_t (fun h => ?_) (fun h => ?_) <;> simp [h, hb, hid0, Box.enc]) | (refine gdL_f (fun h => ?_) (fun h => ?_) <;> simp [h, hb, hid0, Box.enc]) | (refine selS_intro (fun h => ?_) (fun h => ?_) <;> simp [h, hb, hid0, Box.enc]))
  all_goals (refine hQ _ _ _ (by simp) ?_)
  all_goals (rw [hm]; clear hm; simp [Tryz.f89])
  all_goals (clear hQ; simp_all)
  all_goals (try (intros; omega))

theorem specHeir_is {H : Heap} {l : List Lf} {x : Box} (h : RdBox H l x) (hn : x.sz ≤ 1048576) : run env 75 [.agg l] H = some (.bool (heir x), H) := by
  have hR := h
  have e1 := fun G => specBoxOk_is (hR.app G) (by omega)
  obtain ⟨_, _, _, _, _, rfl, ⟨a0, rws, rfl, hs, hlen, hat⟩, ⟨a1, rfl, r1⟩, ⟨a2, rfl, r2⟩, ⟨a3, rfl, r3⟩, ⟨a4, rfl, r4⟩⟩ := h
  simp only [Box.enc] at e1
  refine run_walk ok75 Tryz.func75 rfl (by simp [Tryz.f75]) fun Q hQ => ?_
  simp only [Tryz.f75, strip, stripL, stripI, stripG, chkT, tagsB, tagsL, tagD, addT, tagA, lookN, tagOp, elmT, ty24, ty25, ty26, ty27, ty28, ty34, ty35, ty36, ty37, ty59, ty61, ty64, ty100, Nat.reduceEqDiff, if_false, reduceIte, Option.getD_some, Option.getD_none, dstAt, dstOk, Nat.reduceLT, decide_true, if_true]
  simp [Box.enc, e1]
  refine selS_intro (fun hd => ?_) (fun hd => ?_)
  · simp at hd
    simp
    refine hQ _ _ _ (by simp) ?_
    simp [Tryz.f75, heir, hd]
  simp at hd
  obtain ⟨ho, h2⟩ := Box.ok_owner hd
  have w1 : IntKind.i64.wrap (1 - x.reg.owner) = 1 - x.reg.owner := wrap64 (by omega) (by omega)
  have hi : (1 - x.reg.owner).toNat < x.two.length := by omega
  obtain ⟨id2, r, bl, q, rfl, hid, hbl, hbe, hrow, -⟩ := minderAt hlen hs hat hi
  have hge : x.reg.owner ≤ 1 := by omega
  have hlt : 1 - x.reg.owner < (x.two.length : Int) := by omega
  have hlt2 : 0 ≤ 1 - x.reg.owner := by omega
  have hm : heir x = (x.two[(1 - x.reg.owner).toNat].up && decide (0 < x.two[(1 - x.reg.owner).toNat].life) && decide (x.two[(1 - x.reg.owner).toNat].life = x.reg.pair) && decide (x.two[(1 - x.reg.owner).toNat].epoch = 0)) := by
    unfold heir heirM
    rw [List.getElem?_eq_getElem hi, hd]
    simp
  obtain ⟨m, hmm⟩ : ∃ m, m = x.two[(1 - x.reg.owner).toNat] := ⟨_, rfl⟩
  rw [← hmm] at hm hrow
  simp [w1, indexAddrV, elemIs, hid, hbl, hbe, hrow, hge, hlt, Minder.enc]
  repeat' (first | (refine gdL_t (fun h => ?_) (fun h => ?_) <;> simp [h]) | (refine gdL_f (fun h => ?_) (fun h => ?_) <;> simp [h]) | (refine selS_intro (fun h => ?_) (fun h => ?_) <;> simp [h]))
  all_goals (refine hQ _ _ _ (by simp) ?_)
  all_goals (rw [hm]; clear hm; simp [Tryz.f75])
  all_goals (clear hQ; simp_all)
  all_goals (try (intros; omega))

def hopsOk (h : Int) : Bool := decide (0 ≤ h) && decide (h ≤ 8)
def claimP (p : Port) (v : Vec) (h : Int) : Port :=
  if (p.ok && p.up && v.ok && hopsOk h) = false then p
  else if (p.has && better p.vec v && !(decide (v.bridge = p.vec.bridge) && decide (v.port = p.vec.port))) = true then p
  else ⟨p.up, true, v, h, 3, p.role, p.wait, p.opn⟩
theorem claimP_ok {p : Port} (v : Vec) (h : Int) (hp : p.ok = true) : (claimP p v h).ok = true := by
  unfold claimP
  split
  · exact hp
  · rename_i h1
    split
    · exact hp
    · have h2 : p.ok = true ∧ p.up = true ∧ v.ok = true ∧ hopsOk h = true := by
        cases a : p.ok <;> cases b : p.up <;> cases c : v.ok <;> cases d : hopsOk h <;> simp_all
      obtain ⟨-, h3, h4, h5⟩ := h2
      simp [hopsOk] at h5
      simp [Port.ok] at hp ⊢
      simp_all
theorem claimP_up (p : Port) (v : Vec) (h : Int) : (claimP p v h).up = p.up := by unfold claimP; split <;> (try split) <;> rfl

theorem implClaim (H : Heap) (p : Port) (v : Vec) (ho : Int) : run env 157 [.agg p.enc, .agg v.enc, .int ho] H = some (.agg (claimP p v ho).enc, H) := by
  obtain ⟨a1, a2, ⟨b1, b2, b3, b4⟩, a4, a5, a6, a7, a8⟩ := p
  obtain ⟨c1, c2, c3, c4⟩ := v
  have e1 := fun H => implVecOk H ⟨c1, c2, c3, c4⟩
  have e2 := fun H => implPortOk H ⟨a1, a2, ⟨b1, b2, b3, b4⟩, a4, a5, a6, a7, a8⟩
  have e3 := fun H => implBetter H ⟨b1, b2, b3, b4⟩ ⟨c1, c2, c3, c4⟩
  simp only [Vec.enc, Port.enc] at e1 e2 e3
  have hcl : claimP ⟨a1, a2, ⟨b1, b2, b3, b4⟩, a4, a5, a6, a7, a8⟩ ⟨c1, c2, c3, c4⟩ ho = if ((⟨a1, a2, ⟨b1, b2, b3, b4⟩, a4, a5, a6, a7, a8⟩ : Port).ok && a1 && (⟨c1, c2, c3, c4⟩ : Vec).ok && (decide (0 ≤ ho) && decide (ho ≤ 8))) = false then ⟨a1, a2, ⟨b1, b2, b3, b4⟩, a4, a5, a6, a7, a8⟩
    else if (a2 && better ⟨b1, b2, b3, b4⟩ ⟨c1, c2, c3, c4⟩ && !(decide (c3 = b3) && decide (c4 = b4))) = true then ⟨a1, a2, ⟨b1, b2, b3, b4⟩, a4, a5, a6, a7, a8⟩ else ⟨a1, true, ⟨c1, c2, c3, c4⟩, ho, 3, a6, a7, a8⟩ := rfl
  rw [hcl]
  clear hcl
  have e4 := fun H => isHops H ho
  generalize (decide (0 ≤ ho) && decide (ho ≤ 8)) = hok at e4 ⊢
  generalize (⟨a1, a2, ⟨b1, b2, b3, b4⟩, a4, a5, a6, a7, a8⟩ : Port).ok = pok at e2 ⊢
  generalize (⟨c1, c2, c3, c4⟩ : Vec).ok = vok at e1 ⊢
  generalize better ⟨b1, b2, b3, b4⟩ ⟨c1, c2, c3, c4⟩ = bet at e3 ⊢
  refine run_walk ok157 Tryz.func157 rfl (by simp [Tryz.f157]) fun Q hQ => ?_
  simp only [Tryz.f157, strip, stripL, stripI, stripG, chkT, tagsB, tagsL, tagD, addT, tagA, lookN, tagOp, elmT, ty24, ty25, ty26, ty27, ty28, ty34, ty35, ty36, ty37, ty59, ty61, ty64, ty100, Nat.reduceEqDiff, if_false, reduceIte, Option.getD_some, Option.getD_none, dstAt, dstOk, Nat.reduceLT, decide_true, if_true]
  simp [Port.enc, Vec.enc, e4, e1, e2, e3]
  repeat' (first | (refine gdL_t (fun h => ?_) (fun h => ?_) <;> simp [h, e4, e1, e2, e3]) | (refine gdL_f (fun h => ?_) (fun h => ?_) <;> simp [h, e4, e1, e2, e3]) | (refine selS_intro (fun h => ?_) (fun h => ?_) <;> simp [h, e4, e1, e2, e3]))
  all_goals (refine hQ _ _ _ (by simp) ?_)
  all_goals (clear hQ e1 e2 e3 e4; simp [Tryz.f157])
  all_goals ((repeat' split) <;> simp_all [Port.enc, Vec.enc] <;> omega)

theorem specClaim (H : Heap) (p : Port) (v : Vec) (ho : Int) : run env 148 [.agg p.enc, .agg v.enc, .int ho] H = some (.agg (claimP p v ho).enc, H) := by
  obtain ⟨a1, a2, ⟨b1, b2, b3, b4⟩, a4, a5, a6, a7, a8⟩ := p
  obtain ⟨c1, c2, c3, c4⟩ := v
  have e1 := fun H => specVecOk H ⟨c1, c2, c3, c4⟩
  have e2 := fun H => specPortOk H ⟨a1, a2, ⟨b1, b2, b3, b4⟩, a4, a5, a6, a7, a8⟩
  have e3 := fun H => specBetter H ⟨b1, b2, b3, b4⟩ ⟨c1, c2, c3, c4⟩
  simp only [Vec.enc, Port.enc] at e1 e2 e3
  have hcl : claimP ⟨a1, a2, ⟨b1, b2, b3, b4⟩, a4, a5, a6, a7, a8⟩ ⟨c1, c2, c3, c4⟩ ho = if ((⟨a1, a2, ⟨b1, b2, b3, b4⟩, a4, a5, a6, a7, a8⟩ : Port).ok && a1 && (⟨c1, c2, c3, c4⟩ : Vec).ok && (decide (0 ≤ ho) && decide (ho ≤ 8))) = false then ⟨a1, a2, ⟨b1, b2, b3, b4⟩, a4, a5, a6, a7, a8⟩
    else if (a2 && better ⟨b1, b2, b3, b4⟩ ⟨c1, c2, c3, c4⟩ && !(decide (c3 = b3) && decide (c4 = b4))) = true then ⟨a1, a2, ⟨b1, b2, b3, b4⟩, a4, a5, a6, a7, a8⟩ else ⟨a1, true, ⟨c1, c2, c3, c4⟩, ho, 3, a6, a7, a8⟩ := rfl
  rw [hcl]
  clear hcl
  have e4 := fun H => l1In H ho 0 8
  generalize (decide (0 ≤ ho) && decide (ho ≤ 8)) = hok at e4 ⊢
  generalize (⟨a1, a2, ⟨b1, b2, b3, b4⟩, a4, a5, a6, a7, a8⟩ : Port).ok = pok at e2 ⊢
  generalize (⟨c1, c2, c3, c4⟩ : Vec).ok = vok at e1 ⊢
  generalize better ⟨b1, b2, b3, b4⟩ ⟨c1, c2, c3, c4⟩ = bet at e3 ⊢
  refine run_walk ok148 Tryz.func148 rfl (by simp [Tryz.f148]) fun Q hQ => ?_
  simp only [Tryz.f148, strip, stripL, stripI, stripG, chkT, tagsB, tagsL, tagD, addT, tagA, lookN, tagOp, elmT, ty24, ty25, ty26, ty27, ty28, ty34, ty35, ty36, ty37, ty59, ty61, ty64, ty100, Nat.reduceEqDiff, if_false, reduceIte, Option.getD_some, Option.getD_none, dstAt, dstOk, Nat.reduceLT, decide_true, if_true]
  simp [Port.enc, Vec.enc, e4, e1, e2, e3]
  repeat' (first | (refine gdL_t (fun h => ?_) (fun h => ?_) <;> simp [h, e4, e1, e2, e3]) | (refine gdL_f (fun h => ?_) (fun h => ?_) <;> simp [h, e4, e1, e2, e3]) | (refine selS_intro (fun h => ?_) (fun h => ?_) <;> simp [h, e4, e1, e2, e3]))
  all_goals (refine hQ _ _ _ (by simp) ?_)
  all_goals (clear hQ e1 e2 e3 e4; simp [Tryz.f148])
  all_goals ((repeat' split) <;> simp_all [Port.enc, Vec.enc] <;> omega)

def fadeP (p : Port) : Port := if (p.has && p.ok) = false then p else if p.left = 1 then ⟨p.up, false, Vec.zv, 0, 0, p.role, p.wait, p.opn⟩ else ⟨p.up, p.has, p.vec, p.hops, p.left - 1, p.role, p.wait, p.opn⟩
theorem fadeP_ok {p : Port} (hp : p.ok = true) : (fadeP p).ok = true := by
  unfold fadeP
  split
  · exact hp
  · rename_i h1
    simp [Port.ok] at h1 hp ⊢
    split <;> simp_all <;> omega
theorem fadeP_rest (p : Port) : (fadeP p).up = p.up ∧ (fadeP p).role = p.role ∧ (fadeP p).wait = p.wait ∧ (fadeP p).opn = p.opn := by
  unfold fadeP; split <;> (try split) <;> simp

theorem implFade (H : Heap) (p : Port) : run env 180 [.agg p.enc] H = some (.agg (fadeP p).enc, H) := by
  obtain ⟨a1, a2, ⟨b1, b2, b3, b4⟩, a4, a5, a6, a7, a8⟩ := p
  have e2 := fun H => implPortOk H ⟨a1, a2, ⟨b1, b2, b3, b4⟩, a4, a5, a6, a7, a8⟩
  have w : (⟨a1, a2, ⟨b1, b2, b3, b4⟩, a4, a5, a6, a7, a8⟩ : Port).ok = true → a2 = true → IntKind.i64.wrap (a5 - 1) = a5 - 1 := fun h h2 => by
    simp [Port.ok, h2] at h
    exact wrap64 (by omega) (by omega)
  have w2 : a5 - 1 = 0 ↔ a5 = 1 := by omega
  simp only [Vec.enc, Port.enc] at e2
  refine run_walk ok180 Tryz.func180 rfl (by simp [Tryz.f180]) fun Q hQ => ?_
  simp only [Tryz.f180, strip, stripL, stripI, stripG, chkT, tagsB, tagsL, tagD, addT, tagA, lookN, tagOp, elmT, ty24, ty25, ty26, ty27, ty28, ty34, ty35, ty36, ty37, ty59, ty61, ty64, ty100, Nat.reduceEqDiff, if_false, reduceIte, Option.getD_some, Option.getD_none, dstAt, dstOk, Nat.reduceLT, decide_true, if_true]
  simp [Port.enc, Vec.enc, e2]
  cases a2
  · simp [e2]
    refine hQ _ _ _ (by simp) ?_
    simp [Tryz.f180, Port.enc, fadeP]
  cases hok : (⟨a1, true, ⟨b1, b2, b3, b4⟩, a4, a5, a6, a7, a8⟩ : Port).ok
  · simp [e2, hok]
    refine hQ _ _ _ (by simp) ?_
    simp [Tryz.f180, Port.enc, fadeP, hok]
  · rw [hok] at e2
    simp [e2, w hok rfl, w2]
    by_cases h1 : a5 = 1
    · subst h1
      simp
      refine hQ _ _ _ (by simp) ?_
      simp [Tryz.f180, Port.enc, fadeP, hok]
    · simp [h1]
      refine hQ _ _ _ (by simp) ?_
      simp [Tryz.f180, Port.enc, fadeP, hok, h1]

theorem specFade (H : Heap) (p : Port) : run env 175 [.agg p.enc] H = some (.agg (fadeP p).enc, H) := by
  obtain ⟨a1, a2, ⟨b1, b2, b3, b4⟩, a4, a5, a6, a7, a8⟩ := p
  have e2 := fun H => specPortOk H ⟨a1, a2, ⟨b1, b2, b3, b4⟩, a4, a5, a6, a7, a8⟩
  have w : (⟨a1, a2, ⟨b1, b2, b3, b4⟩, a4, a5, a6, a7, a8⟩ : Port).ok = true → a2 = true → IntKind.i64.wrap (a5 - 1) = a5 - 1 := fun h h2 => by
    simp [Port.ok, h2] at h
    exact wrap64 (by omega) (by omega)
  have w2 : a5 - 1 = 0 ↔ a5 = 1 := by omega
  simp only [Vec.enc, Port.enc] at e2
  refine run_walk ok175 Tryz.func175 rfl (by simp [Tryz.f175]) fun Q hQ => ?_
  simp only [Tryz.f175, strip, stripL, stripI, stripG, chkT, tagsB, tagsL, tagD, addT, tagA, lookN, tagOp, elmT, ty24, ty25, ty26, ty27, ty28, ty34, ty35, ty36, ty37, ty59, ty61, ty64, ty100, Nat.reduceEqDiff, if_false, reduceIte, Option.getD_some, Option.getD_none, dstAt, dstOk, Nat.reduceLT, decide_true, if_true]
  simp [Port.enc, Vec.enc, e2]
  cases a2
  · skip
    repeat' (first | (refine gdL_t (fun h => ?_) (fun h => ?_) <;> simp [h, e2]) | (refine gdL_f (fun h => ?_) (fun h => ?_) <;> simp [h, e2]) | (refine selS_intro (fun h => ?_) (fun h => ?_) <;> simp [h, e2]))
    all_goals (refine hQ _ _ _ (by simp) ?_)
    all_goals (simp [Tryz.f175, Port.enc, fadeP])
  cases hok : (⟨a1, true, ⟨b1, b2, b3, b4⟩, a4, a5, a6, a7, a8⟩ : Port).ok
  · simp [e2, hok]
    refine hQ _ _ _ (by simp) ?_
    simp [Tryz.f175, Port.enc, fadeP, hok]
  · rw [hok] at e2
    simp [e2, w hok rfl, w2]
    by_cases h1 : a5 = 1
    · subst h1
      simp
      refine hQ _ _ _ (by simp) ?_
      simp [Tryz.f175, Port.enc, fadeP, hok]
    · simp [h1]
      refine hQ _ _ _ (by simp) ?_
      simp [Tryz.f175, Port.enc, fadeP, hok, h1]

def turnW (p : Port) (role : Int) : Int := if role = 3 then 0 else if p.role = 3 then 4 else p.wait
def turnP (p : Port) (role : Int) : Port := if (p.ok && p.up && (decide (1 ≤ role) && decide (role ≤ 3))) = false then p else ⟨p.up, p.has, p.vec, p.hops, p.left, role, turnW p role, openBy role (turnW p role)⟩
theorem turnP_ok {p : Port} (role : Int) (hp : p.ok = true) : (turnP p role).ok = true := by
  unfold turnP
  split
  · exact hp
  · rename_i h1
    have hw : 0 ≤ turnW p role ∧ turnW p role ≤ 4 := by
      simp [Port.ok] at hp
      unfold turnW; split
      · omega
      · split <;> omega
    simp [Port.ok] at h1 hp ⊢
    simp_all
    omega
theorem turnP_rest (p : Port) (role : Int) : (turnP p role).up = p.up ∧ (turnP p role).has = p.has ∧ (turnP p role).vec = p.vec ∧ (turnP p role).hops = p.hops ∧ (turnP p role).left = p.left := by
  unfold turnP; split <;> simp
end W
end Go.Proofs.YtnphceekmfmbcaaGreat

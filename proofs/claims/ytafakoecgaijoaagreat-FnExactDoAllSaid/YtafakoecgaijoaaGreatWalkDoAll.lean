/- The functions that this law reaches: what each computes. Conditions: those that each theorem names. -/
import Derived.Test.YtafakoecgaijoaaGreatAbEnvDoAll
set_option maxRecDepth 100000
set_option maxHeartbeats 4000000
set_option linter.unusedSimpArgs false
set_option linter.unusedVariables false
set_option linter.unnecessarySimpa false
namespace Go.Proofs.YtafakoecgaijoaaGreat
open Go Go.Ab Go.ChangeShapes Go.WideShapes Go.ChangeAt Go.RowKit
namespace W
theorem inRange (H : Heap) (n a b : Int) : run env 38 [.int n, .int a, .int b] H = some (.bool (decide (a ≤ n) && decide (n ≤ b)), H) := by
  refine run_walk ok38 Tryz.func38 rfl (by simp [Tryz.f38]) fun Q hQ => ?_
  simp only [Tryz.f38, strip, stripL, stripI, stripG, chkT, tagsB, tagsL, tagD, addT, tagA, lookN, tagOp, elmT, ty24, ty25, ty26, ty27, ty28, ty39, ty40, ty41, ty42, ty57, ty59, ty62, ty98, Nat.reduceEqDiff, if_false, reduceIte, Option.getD_some, Option.getD_none, dstAt, dstOk, Nat.reduceLT, decide_true, if_true]
  simp
  repeat' (first | (refine gdL_t (fun h => ?_) (fun h => ?_) <;> simp [h]) | (refine gdL_f (fun h => ?_) (fun h => ?_) <;> simp [h]) | (refine selS_intro (fun h => ?_) (fun h => ?_) <;> simp [h]))
  all_goals (refine hQ _ _ _ (by simp) ?_)
  all_goals (clear hQ; simp_all [Tryz.f38] <;> omega)

theorem l1In (H : Heap) (n a b : Int) : run env 28 [.int n, .int a, .int b] H = some (.bool (decide (a ≤ n) && decide (n ≤ b)), H) := by
  refine run_walk ok28 Tryz.func28 rfl (by simp [Tryz.f28]) fun Q hQ => ?_
  simp only [Tryz.f28, strip, stripL, stripI, stripG, chkT, tagsB, tagsL, tagD, addT, tagA, lookN, tagOp, elmT, ty24, ty25, ty26, ty27, ty28, ty39, ty40, ty41, ty42, ty57, ty59, ty62, ty98, Nat.reduceEqDiff, if_false, reduceIte, Option.getD_some, Option.getD_none, dstAt, dstOk, Nat.reduceLT, decide_true, if_true]
  simp
  repeat' (first | (refine gdL_t (fun h => ?_) (fun h => ?_) <;> simp [h]) | (refine gdL_f (fun h => ?_) (fun h => ?_) <;> simp [h]) | (refine selS_intro (fun h => ?_) (fun h => ?_) <;> simp [h]))
  all_goals (refine hQ _ _ _ (by simp) ?_)
  all_goals (clear hQ; simp_all [Tryz.f28] <;> omega)

theorem isNum (H : Heap) (n : Int) : run env 105 [.int n] H = some (.bool (decide (0 ≤ n) && decide (n ≤ 100000)), H) := by
  refine run_walk ok105 Tryz.func105 rfl (by simp [Tryz.f105]) fun Q hQ => ?_
  simp only [Tryz.f105, strip, stripL, stripI, stripG, chkT, tagsB, tagsL, tagD, addT, tagA, lookN, tagOp, elmT, ty24, ty25, ty26, ty27, ty28, ty39, ty40, ty41, ty42, ty57, ty59, ty62, ty98, Nat.reduceEqDiff, if_false, reduceIte, Option.getD_some, Option.getD_none, dstAt, dstOk, Nat.reduceLT, decide_true, if_true]
  simp [inRange]
  all_goals (refine hQ _ _ _ (by simp) ?_)
  all_goals (clear hQ; simp [Tryz.f105])

theorem isSide (H : Heap) (n : Int) : run env 104 [.int n] H = some (.bool (decide (n = 0) || decide (n = 1)), H) := by
  refine run_walk ok104 Tryz.func104 rfl (by simp [Tryz.f104]) fun Q hQ => ?_
  simp only [Tryz.f104, strip, stripL, stripI, stripG, chkT, tagsB, tagsL, tagD, addT, tagA, lookN, tagOp, elmT, ty24, ty25, ty26, ty27, ty28, ty39, ty40, ty41, ty42, ty57, ty59, ty62, ty98, Nat.reduceEqDiff, if_false, reduceIte, Option.getD_some, Option.getD_none, dstAt, dstOk, Nat.reduceLT, decide_true, if_true]
  simp
  repeat' (first | (refine gdL_t (fun h => ?_) (fun h => ?_) <;> simp [h]) | (refine gdL_f (fun h => ?_) (fun h => ?_) <;> simp [h]) | (refine selS_intro (fun h => ?_) (fun h => ?_) <;> simp [h]))
  all_goals (refine hQ _ _ _ (by simp) ?_)
  all_goals (clear hQ; simp_all [Tryz.f104] <;> omega)

theorem isPort (H : Heap) (n : Int) : run env 118 [.int n] H = some (.bool (decide (0 ≤ n) && decide (n ≤ 3)), H) := by
  refine run_walk ok118 Tryz.func118 rfl (by simp [Tryz.f118]) fun Q hQ => ?_
  simp only [Tryz.f118, strip, stripL, stripI, stripG, chkT, tagsB, tagsL, tagD, addT, tagA, lookN, tagOp, elmT, ty24, ty25, ty26, ty27, ty28, ty39, ty40, ty41, ty42, ty57, ty59, ty62, ty98, Nat.reduceEqDiff, if_false, reduceIte, Option.getD_some, Option.getD_none, dstAt, dstOk, Nat.reduceLT, decide_true, if_true]
  simp [inRange]
  all_goals (refine hQ _ _ _ (by simp) ?_)
  all_goals (clear hQ; simp [Tryz.f118])

theorem isHops (H : Heap) (n : Int) : run env 120 [.int n] H = some (.bool (decide (0 ≤ n) && decide (n ≤ 8)), H) := by
  refine run_walk ok120 Tryz.func120 rfl (by simp [Tryz.f120]) fun Q hQ => ?_
  simp only [Tryz.f120, strip, stripL, stripI, stripG, chkT, tagsB, tagsL, tagD, addT, tagA, lookN, tagOp, elmT, ty24, ty25, ty26, ty27, ty28, ty39, ty40, ty41, ty42, ty57, ty59, ty62, ty98, Nat.reduceEqDiff, if_false, reduceIte, Option.getD_some, Option.getD_none, dstAt, dstOk, Nat.reduceLT, decide_true, if_true]
  simp [inRange]
  all_goals (refine hQ _ _ _ (by simp) ?_)
  all_goals (clear hQ; simp [Tryz.f120])

structure Vec where
  root : Int
  cost : Int
  bridge : Int
  port : Int
  deriving DecidableEq, Inhabited
def Vec.enc (x : Vec) : List Lf := [.i .i64 x.root, .i .i64 x.cost, .i .i64 x.bridge, .i .i64 x.port]
@[simp] theorem Vec.enc_len (x : Vec) : x.enc.length = 4 := rfl
@[simp] theorem Vec.enc_take (x : Vec) : List.take 4 x.enc = x.enc := rfl
@[simp] theorem Vec.enc_drop (x : Vec) : List.drop 4 x.enc = [] := rfl
abbrev Vec.z : List Lf := [.i .i64 0, .i .i64 0, .i .i64 0, .i .i64 0]
abbrev Vec.zv : Vec := ⟨0, 0, 0, 0⟩
theorem Vec.enc_inj {x y : Vec} (h : x.enc = y.enc) : x = y := by
  obtain ⟨_, _, _, _⟩ := x
  obtain ⟨_, _, _, _⟩ := y
  simp [Vec.enc] at h
  simp_all
def Vec.mk' (k : Int) : Vec := ⟨k, k + 1, k + 2, k + 3⟩
theorem Vec.mk'_of {y : Vec} {c : Int} (h0 : y.root = c) (h1 : y.cost = c + 1) (h2 : y.bridge = c + 2) (h3 : y.port = c + 3) : y = Vec.mk' c := by
  rcases y with ⟨w0, v1, v2, v3⟩
  simp only at h0 h1 h2 h3
  subst h0 h1 h2 h3
  rfl

theorem toVec (H : Heap) (x : Vec) : run env 75 [.agg x.enc] H = some (.agg x.enc, H) := by
  refine run_walk ok75 Tryz.func75 rfl (by simp [Tryz.f75]) fun Q hQ => ?_
  simp only [Tryz.f75, strip, stripL, stripI, stripG, chkT, tagsB, tagsL, tagD, addT, tagA, lookN, tagOp, elmT, ty24, ty25, ty26, ty27, ty28, ty39, ty40, ty41, ty42, ty57, ty59, ty62, ty98, Nat.reduceEqDiff, if_false, reduceIte, Option.getD_some, Option.getD_none, dstAt, dstOk, Nat.reduceLT, decide_true, if_true]
  simp [Vec.enc]
  all_goals (refine hQ _ _ _ (by simp) ?_)
  all_goals (clear hQ; simp [Tryz.f75, Vec.enc])

theorem eqVec (H : Heap) (x y : Vec) : run env 111 [.agg x.enc, .agg y.enc] H = some (.bool (decide (x = y)), H) := by
  obtain ⟨a0, a1, a2, a3⟩ := x
  obtain ⟨b0, b1, b2, b3⟩ := y
  refine run_walk ok111 Tryz.func111 rfl (by simp [Tryz.f111]) fun Q hQ => ?_
  simp only [Tryz.f111, strip, stripL, stripI, stripG, chkT, tagsB, tagsL, tagD, addT, tagA, lookN, tagOp, elmT, ty24, ty25, ty26, ty27, ty28, ty39, ty40, ty41, ty42, ty57, ty59, ty62, ty98, Nat.reduceEqDiff, if_false, reduceIte, Option.getD_some, Option.getD_none, dstAt, dstOk, Nat.reduceLT, decide_true, if_true]
  simp [Vec.enc]
  repeat' (first | (refine gdL_t (fun h => ?_) (fun h => ?_) <;> simp [h]) | (refine gdL_f (fun h => ?_) (fun h => ?_) <;> simp [h]) | (refine selS_intro (fun h => ?_) (fun h => ?_) <;> simp [h]))
  all_goals (refine hQ _ _ _ (by simp) ?_)
  all_goals (clear hQ; simp_all [Tryz.f111])

theorem shpVec {H : Heap} {k : Nat} {l : List Lf} (h : Shp Tryz.prog H (k + 2) 32 l) : ∃ x : Vec, l = x.enc := by
  obtain ⟨_, _, rfl, h0, _, _, rfl, h1, _, _, rfl, h2, _, _, rfl, h3, rfl⟩ := h.struct Tryz.underlying32
  obtain ⟨a0, rfl, -⟩ := h0.i64 Tryz.underlying3
  obtain ⟨a1, rfl, -⟩ := h1.i64 Tryz.underlying3
  obtain ⟨a2, rfl, -⟩ := h2.i64 Tryz.underlying3
  obtain ⟨a3, rfl, -⟩ := h3.i64 Tryz.underlying3
  exact ⟨⟨a0, a1, a2, a3⟩, rfl⟩

structure Port where
  up : Bool
  has : Bool
  vec : Vec
  hops : Int
  left : Int
  role : Int
  wait : Int
  opn : Bool
  deriving DecidableEq, Inhabited
def Port.enc (x : Port) : List Lf := [.b x.up, .b x.has, .i .i64 x.vec.root, .i .i64 x.vec.cost, .i .i64 x.vec.bridge, .i .i64 x.vec.port, .i .i64 x.hops, .i .i64 x.left, .i .i64 x.role, .i .i64 x.wait, .b x.opn]
@[simp] theorem Port.enc_len (x : Port) : x.enc.length = 11 := rfl
@[simp] theorem Port.enc_take (x : Port) : List.take 11 x.enc = x.enc := rfl
@[simp] theorem Port.enc_drop (x : Port) : List.drop 11 x.enc = [] := rfl
abbrev Port.z : List Lf := [.b false, .b false, .i .i64 0, .i .i64 0, .i .i64 0, .i .i64 0, .i .i64 0, .i .i64 0, .i .i64 0, .i .i64 0, .b false]
abbrev Port.zv : Port := ⟨false, false, ⟨0, 0, 0, 0⟩, 0, 0, 0, 0, false⟩
theorem Port.enc_inj {x y : Port} (h : x.enc = y.enc) : x = y := by
  rcases x with ⟨v0, v1, ⟨v2_0, v2_1, v2_2, v2_3⟩, v3, v4, v5, v6, v7⟩
  rcases y with ⟨w0, v1, ⟨v2_0, v2_1, v2_2, v2_3⟩, v3, v4, v5, v6, v7⟩
  simp [Port.enc] at h
  simp_all
def Port.mk' (k : Int) : Port := ⟨decide ((k).tmod 3 = 0), decide ((k + 1).tmod 3 = 0), ⟨k + 2, k + 3, k + 4, k + 5⟩, k + 6, k + 7, k + 8, k + 9, decide ((k + 10).tmod 3 = 0)⟩
theorem Port.mk'_of {y : Port} {c : Int} (h0 : y.up = decide ((c).tmod 3 = 0)) (h1 : y.has = decide ((c + 1).tmod 3 = 0)) (h2 : y.vec.root = c + 2) (h3 : y.vec.cost = c + 3) (h4 : y.vec.bridge = c + 4) (h5 : y.vec.port = c + 5) (h6 : y.hops = c + 6) (h7 : y.left = c + 7) (h8 : y.role = c + 8) (h9 : y.wait = c + 9) (h10 : y.opn = decide ((c + 10).tmod 3 = 0)) : y = Port.mk' c := by
  rcases y with ⟨w0, v1, ⟨v2_0, v2_1, v2_2, v2_3⟩, v3, v4, v5, v6, v7⟩
  simp only at h0 h1 h2 h3 h4 h5 h6 h7 h8 h9 h10
  subst h0 h1 h2 h3 h4 h5 h6 h7 h8 h9 h10
  rfl

structure In where
  kind : Int
  port : Int
  vec : Vec
  hops : Int
  up : Bool
  deriving DecidableEq, Inhabited
def In.enc (x : In) : List Lf := [.i .i64 x.kind, .i .i64 x.port, .i .i64 x.vec.root, .i .i64 x.vec.cost, .i .i64 x.vec.bridge, .i .i64 x.vec.port, .i .i64 x.hops, .b x.up]
@[simp] theorem In.enc_len (x : In) : x.enc.length = 8 := rfl
@[simp] theorem In.enc_take (x : In) : List.take 8 x.enc = x.enc := rfl
@[simp] theorem In.enc_drop (x : In) : List.drop 8 x.enc = [] := rfl
abbrev In.z : List Lf := [.i .i64 0, .i .i64 0, .i .i64 0, .i .i64 0, .i .i64 0, .i .i64 0, .i .i64 0, .b false]
abbrev In.zv : In := ⟨0, 0, ⟨0, 0, 0, 0⟩, 0, false⟩
theorem In.enc_inj {x y : In} (h : x.enc = y.enc) : x = y := by
  rcases x with ⟨v0, v1, ⟨v2_0, v2_1, v2_2, v2_3⟩, v3, v4⟩
  rcases y with ⟨w0, v1, ⟨v2_0, v2_1, v2_2, v2_3⟩, v3, v4⟩
  simp [In.enc] at h
  simp_all
def In.mk' (k : Int) : In := ⟨k, k + 1, ⟨k + 2, k + 3, k + 4, k + 5⟩, k + 6, decide ((k + 7).tmod 3 = 0)⟩
theorem In.mk'_of {y : In} {c : Int} (h0 : y.kind = c) (h1 : y.port = c + 1) (h2 : y.vec.root = c + 2) (h3 : y.vec.cost = c + 3) (h4 : y.vec.bridge = c + 4) (h5 : y.vec.port = c + 5) (h6 : y.hops = c + 6) (h7 : y.up = decide ((c + 7).tmod 3 = 0)) : y = In.mk' c := by
  rcases y with ⟨w0, v1, ⟨v2_0, v2_1, v2_2, v2_3⟩, v3, v4⟩
  simp only at h0 h1 h2 h3 h4 h5 h6 h7
  subst h0 h1 h2 h3 h4 h5 h6 h7
  rfl

theorem toIn (H : Heap) (x : In) : run env 37 [.agg x.enc] H = some (.agg x.enc, H) := by
  refine run_walk ok37 Tryz.func37 rfl (by simp [Tryz.f37]) fun Q hQ => ?_
  simp only [Tryz.f37, strip, stripL, stripI, stripG, chkT, tagsB, tagsL, tagD, addT, tagA, lookN, tagOp, elmT, ty24, ty25, ty26, ty27, ty28, ty39, ty40, ty41, ty42, ty57, ty59, ty62, ty98, Nat.reduceEqDiff, if_false, reduceIte, Option.getD_some, Option.getD_none, dstAt, dstOk, Nat.reduceLT, decide_true, if_true]
  have e0 := fun H => toVec H x.vec
  simp only [Vec.enc] at e0
  simp [In.enc, e0]
  all_goals (refine hQ _ _ _ (by simp) ?_)
  all_goals (clear hQ; simp [Tryz.f37, In.enc])

theorem eqIn (H : Heap) (x y : In) : run env 84 [.agg x.enc, .agg y.enc] H = some (.bool (decide (x = y)), H) := by
  have e0 := fun H => eqVec H x.vec y.vec
  obtain ⟨a0, a1, a2, a3, a4⟩ := x
  obtain ⟨b0, b1, b2, b3, b4⟩ := y
  simp only [Vec.enc] at e0
  refine run_walk ok84 Tryz.func84 rfl (by simp [Tryz.f84]) fun Q hQ => ?_
  simp only [Tryz.f84, strip, stripL, stripI, stripG, chkT, tagsB, tagsL, tagD, addT, tagA, lookN, tagOp, elmT, ty24, ty25, ty26, ty27, ty28, ty39, ty40, ty41, ty42, ty57, ty59, ty62, ty98, Nat.reduceEqDiff, if_false, reduceIte, Option.getD_some, Option.getD_none, dstAt, dstOk, Nat.reduceLT, decide_true, if_true]
  simp [In.enc]
  repeat' (first | (refine gdL_t (fun h => ?_) (fun h => ?_) <;> simp [h, e0]) | (refine gdL_f (fun h => ?_) (fun h => ?_) <;> simp [h, e0]) | (refine selS_intro (fun h => ?_) (fun h => ?_) <;> simp [h, e0]))
  all_goals (refine hQ _ _ _ (by simp) ?_)
  all_goals (clear hQ; simp_all [Tryz.f84])

theorem shpIn {H : Heap} {k : Nat} {l : List Lf} (h : Shp Tryz.prog H (k + 3) 34 l) : ∃ x : In, l = x.enc := by
  obtain ⟨_, _, rfl, h0, _, _, rfl, h1, _, _, rfl, h2, _, _, rfl, h3, _, _, rfl, h4, rfl⟩ := h.struct Tryz.underlying34
  obtain ⟨a0, rfl, -⟩ := h0.i64 Tryz.underlying3
  obtain ⟨a1, rfl, -⟩ := h1.i64 Tryz.underlying3
  obtain ⟨a2, rfl⟩ := shpVec h2
  obtain ⟨a3, rfl, -⟩ := h3.i64 Tryz.underlying3
  obtain ⟨a4, rfl⟩ := h4.bool Tryz.underlying4
  exact ⟨⟨a0, a1, a2, a3, a4⟩, rfl⟩

structure Out where
  kind : Int
  port : Int
  vec : Vec
  hops : Int
  on : Bool
  deriving DecidableEq, Inhabited
def Out.enc (x : Out) : List Lf := [.i .i64 x.kind, .i .i64 x.port, .i .i64 x.vec.root, .i .i64 x.vec.cost, .i .i64 x.vec.bridge, .i .i64 x.vec.port, .i .i64 x.hops, .b x.on]
@[simp] theorem Out.enc_len (x : Out) : x.enc.length = 8 := rfl
@[simp] theorem Out.enc_take (x : Out) : List.take 8 x.enc = x.enc := rfl
@[simp] theorem Out.enc_drop (x : Out) : List.drop 8 x.enc = [] := rfl
abbrev Out.z : List Lf := [.i .i64 0, .i .i64 0, .i .i64 0, .i .i64 0, .i .i64 0, .i .i64 0, .i .i64 0, .b false]
abbrev Out.zv : Out := ⟨0, 0, ⟨0, 0, 0, 0⟩, 0, false⟩
theorem Out.enc_inj {x y : Out} (h : x.enc = y.enc) : x = y := by
  rcases x with ⟨v0, v1, ⟨v2_0, v2_1, v2_2, v2_3⟩, v3, v4⟩
  rcases y with ⟨w0, v1, ⟨v2_0, v2_1, v2_2, v2_3⟩, v3, v4⟩
  simp [Out.enc] at h
  simp_all
def Out.mk' (k : Int) : Out := ⟨k, k + 1, ⟨k + 2, k + 3, k + 4, k + 5⟩, k + 6, decide ((k + 7).tmod 3 = 0)⟩
theorem Out.mk'_of {y : Out} {c : Int} (h0 : y.kind = c) (h1 : y.port = c + 1) (h2 : y.vec.root = c + 2) (h3 : y.vec.cost = c + 3) (h4 : y.vec.bridge = c + 4) (h5 : y.vec.port = c + 5) (h6 : y.hops = c + 6) (h7 : y.on = decide ((c + 7).tmod 3 = 0)) : y = Out.mk' c := by
  rcases y with ⟨w0, v1, ⟨v2_0, v2_1, v2_2, v2_3⟩, v3, v4⟩
  simp only at h0 h1 h2 h3 h4 h5 h6 h7
  subst h0 h1 h2 h3 h4 h5 h6 h7
  rfl

theorem toOut (H : Heap) (x : Out) : run env 74 [.agg x.enc] H = some (.agg x.enc, H) := by
  refine run_walk ok74 Tryz.func74 rfl (by simp [Tryz.f74]) fun Q hQ => ?_
  simp only [Tryz.f74, strip, stripL, stripI, stripG, chkT, tagsB, tagsL, tagD, addT, tagA, lookN, tagOp, elmT, ty24, ty25, ty26, ty27, ty28, ty39, ty40, ty41, ty42, ty57, ty59, ty62, ty98, Nat.reduceEqDiff, if_false, reduceIte, Option.getD_some, Option.getD_none, dstAt, dstOk, Nat.reduceLT, decide_true, if_true]
  have e0 := fun H => toVec H x.vec
  simp only [Vec.enc] at e0
  simp [Out.enc, e0]
  all_goals (refine hQ _ _ _ (by simp) ?_)
  all_goals (clear hQ; simp [Tryz.f74, Out.enc])

theorem eqOut (H : Heap) (x y : Out) : run env 85 [.agg x.enc, .agg y.enc] H = some (.bool (decide (x = y)), H) := by
  have e0 := fun H => eqVec H x.vec y.vec
  obtain ⟨a0, a1, a2, a3, a4⟩ := x
  obtain ⟨b0, b1, b2, b3, b4⟩ := y
  simp only [Vec.enc] at e0
  refine run_walk ok85 Tryz.func85 rfl (by simp [Tryz.f85]) fun Q hQ => ?_
  simp only [Tryz.f85, strip, stripL, stripI, stripG, chkT, tagsB, tagsL, tagD, addT, tagA, lookN, tagOp, elmT, ty24, ty25, ty26, ty27, ty28, ty39, ty40, ty41, ty42, ty57, ty59, ty62, ty98, Nat.reduceEqDiff, if_false, reduceIte, Option.getD_some, Option.getD_none, dstAt, dstOk, Nat.reduceLT, decide_true, if_true]
  simp [Out.enc]
  repeat' (first | (refine gdL_t (fun h => ?_) (fun h => ?_) <;> simp [h, e0]) | (refine gdL_f (fun h => ?_) (fun h => ?_) <;> simp [h, e0]) | (refine selS_intro (fun h => ?_) (fun h => ?_) <;> simp [h, e0]))
  all_goals (refine hQ _ _ _ (by simp) ?_)
  all_goals (clear hQ; simp_all [Tryz.f85])

theorem shpOut {H : Heap} {k : Nat} {l : List Lf} (h : Shp Tryz.prog H (k + 3) 121 l) : ∃ x : Out, l = x.enc := by
  obtain ⟨_, _, rfl, h0, _, _, rfl, h1, _, _, rfl, h2, _, _, rfl, h3, _, _, rfl, h4, rfl⟩ := h.struct Tryz.underlying121
  obtain ⟨a0, rfl, -⟩ := h0.i64 Tryz.underlying3
  obtain ⟨a1, rfl, -⟩ := h1.i64 Tryz.underlying3
  obtain ⟨a2, rfl⟩ := shpVec h2
  obtain ⟨a3, rfl, -⟩ := h3.i64 Tryz.underlying3
  obtain ⟨a4, rfl⟩ := h4.bool Tryz.underlying4
  exact ⟨⟨a0, a1, a2, a3, a4⟩, rfl⟩

structure Reg where
  epoch : Int
  owner : Int
  pair : Int
  deriving DecidableEq, Inhabited
def Reg.enc (x : Reg) : List Lf := [.i .i64 x.epoch, .i .i64 x.owner, .i .i64 x.pair]
@[simp] theorem Reg.enc_len (x : Reg) : x.enc.length = 3 := rfl
@[simp] theorem Reg.enc_take (x : Reg) : List.take 3 x.enc = x.enc := rfl
@[simp] theorem Reg.enc_drop (x : Reg) : List.drop 3 x.enc = [] := rfl
abbrev Reg.z : List Lf := [.i .i64 0, .i .i64 0, .i .i64 0]
abbrev Reg.zv : Reg := ⟨0, 0, 0⟩
theorem Reg.enc_inj {x y : Reg} (h : x.enc = y.enc) : x = y := by
  obtain ⟨_, _, _⟩ := x
  obtain ⟨_, _, _⟩ := y
  simp [Reg.enc] at h
  simp_all
def Reg.mk' (k : Int) : Reg := ⟨k, k + 1, k + 2⟩
theorem Reg.mk'_of {y : Reg} {c : Int} (h0 : y.epoch = c) (h1 : y.owner = c + 1) (h2 : y.pair = c + 2) : y = Reg.mk' c := by
  rcases y with ⟨w0, v1, v2⟩
  simp only at h0 h1 h2
  subst h0 h1 h2
  rfl

theorem toReg (H : Heap) (x : Reg) : run env 31 [.agg x.enc] H = some (.agg x.enc, H) := by
  refine run_walk ok31 Tryz.func31 rfl (by simp [Tryz.f31]) fun Q hQ => ?_
  simp only [Tryz.f31, strip, stripL, stripI, stripG, chkT, tagsB, tagsL, tagD, addT, tagA, lookN, tagOp, elmT, ty24, ty25, ty26, ty27, ty28, ty39, ty40, ty41, ty42, ty57, ty59, ty62, ty98, Nat.reduceEqDiff, if_false, reduceIte, Option.getD_some, Option.getD_none, dstAt, dstOk, Nat.reduceLT, decide_true, if_true]
  simp [Reg.enc]
  all_goals (refine hQ _ _ _ (by simp) ?_)
  all_goals (clear hQ; simp [Tryz.f31, Reg.enc])

theorem eqReg (H : Heap) (x y : Reg) : run env 41 [.agg x.enc, .agg y.enc] H = some (.bool (decide (x = y)), H) := by
  obtain ⟨a0, a1, a2⟩ := x
  obtain ⟨b0, b1, b2⟩ := y
  refine run_walk ok41 Tryz.func41 rfl (by simp [Tryz.f41]) fun Q hQ => ?_
  simp only [Tryz.f41, strip, stripL, stripI, stripG, chkT, tagsB, tagsL, tagD, addT, tagA, lookN, tagOp, elmT, ty24, ty25, ty26, ty27, ty28, ty39, ty40, ty41, ty42, ty57, ty59, ty62, ty98, Nat.reduceEqDiff, if_false, reduceIte, Option.getD_some, Option.getD_none, dstAt, dstOk, Nat.reduceLT, decide_true, if_true]
  simp [Reg.enc]
  repeat' (first | (refine gdL_t (fun h => ?_) (fun h => ?_) <;> simp [h]) | (refine gdL_f (fun h => ?_) (fun h => ?_) <;> simp [h]) | (refine selS_intro (fun h => ?_) (fun h => ?_) <;> simp [h]))
  all_goals (refine hQ _ _ _ (by simp) ?_)
  all_goals (clear hQ; simp_all [Tryz.f41])

theorem shpReg {H : Heap} {k : Nat} {l : List Lf} (h : Shp Tryz.prog H (k + 2) 23 l) : ∃ x : Reg, l = x.enc := by
  obtain ⟨_, _, rfl, h0, _, _, rfl, h1, _, _, rfl, h2, rfl⟩ := h.struct Tryz.underlying23
  obtain ⟨a0, rfl, -⟩ := h0.i64 Tryz.underlying3
  obtain ⟨a1, rfl, -⟩ := h1.i64 Tryz.underlying3
  obtain ⟨a2, rfl, -⟩ := h2.i64 Tryz.underlying3
  exact ⟨⟨a0, a1, a2⟩, rfl⟩

structure Wire where
  frm : Int
  ack : Bool
  life : Int
  n : Int
  inn : In
  deriving DecidableEq, Inhabited
def Wire.enc (x : Wire) : List Lf := [.i .i64 x.frm, .b x.ack, .i .i64 x.life, .i .i64 x.n, .i .i64 x.inn.kind, .i .i64 x.inn.port, .i .i64 x.inn.vec.root, .i .i64 x.inn.vec.cost, .i .i64 x.inn.vec.bridge, .i .i64 x.inn.vec.port, .i .i64 x.inn.hops, .b x.inn.up]
@[simp] theorem Wire.enc_len (x : Wire) : x.enc.length = 12 := rfl
@[simp] theorem Wire.enc_take (x : Wire) : List.take 12 x.enc = x.enc := rfl
@[simp] theorem Wire.enc_drop (x : Wire) : List.drop 12 x.enc = [] := rfl
abbrev Wire.z : List Lf := [.i .i64 0, .b false, .i .i64 0, .i .i64 0, .i .i64 0, .i .i64 0, .i .i64 0, .i .i64 0, .i .i64 0, .i .i64 0, .i .i64 0, .b false]
abbrev Wire.zv : Wire := ⟨0, false, 0, 0, ⟨0, 0, ⟨0, 0, 0, 0⟩, 0, false⟩⟩
theorem Wire.enc_inj {x y : Wire} (h : x.enc = y.enc) : x = y := by
  rcases x with ⟨v0, v1, v2, v3, ⟨v4_0, v4_1, ⟨v4_2_0, v4_2_1, v4_2_2, v4_2_3⟩, v4_3, v4_4⟩⟩
  rcases y with ⟨w0, v1, v2, v3, ⟨v4_0, v4_1, ⟨v4_2_0, v4_2_1, v4_2_2, v4_2_3⟩, v4_3, v4_4⟩⟩
  simp [Wire.enc] at h
  simp_all
def Wire.mk' (k : Int) : Wire := ⟨k, decide ((k + 1).tmod 3 = 0), k + 2, k + 3, ⟨k + 4, k + 5, ⟨k + 6, k + 7, k + 8, k + 9⟩, k + 10, decide ((k + 11).tmod 3 = 0)⟩⟩
theorem Wire.mk'_of {y : Wire} {c : Int} (h0 : y.frm = c) (h1 : y.ack = decide ((c + 1).tmod 3 = 0)) (h2 : y.life = c + 2) (h3 : y.n = c + 3) (h4 : y.inn.kind = c + 4) (h5 : y.inn.port = c + 5) (h6 : y.inn.vec.root = c + 6) (h7 : y.inn.vec.cost = c + 7) (h8 : y.inn.vec.bridge = c + 8) (h9 : y.inn.vec.port = c + 9) (h10 : y.inn.hops = c + 10) (h11 : y.inn.up = decide ((c + 11).tmod 3 = 0)) : y = Wire.mk' c := by
  rcases y with ⟨w0, v1, v2, v3, ⟨v4_0, v4_1, ⟨v4_2_0, v4_2_1, v4_2_2, v4_2_3⟩, v4_3, v4_4⟩⟩
  simp only at h0 h1 h2 h3 h4 h5 h6 h7 h8 h9 h10 h11
  subst h0 h1 h2 h3 h4 h5 h6 h7 h8 h9 h10 h11
  rfl

theorem toWire (H : Heap) (x : Wire) : run env 73 [.agg x.enc] H = some (.agg x.enc, H) := by
  refine run_walk ok73 Tryz.func73 rfl (by simp [Tryz.f73]) fun Q hQ => ?_
  simp only [Tryz.f73, strip, stripL, stripI, stripG, chkT, tagsB, tagsL, tagD, addT, tagA, lookN, tagOp, elmT, ty24, ty25, ty26, ty27, ty28, ty39, ty40, ty41, ty42, ty57, ty59, ty62, ty98, Nat.reduceEqDiff, if_false, reduceIte, Option.getD_some, Option.getD_none, dstAt, dstOk, Nat.reduceLT, decide_true, if_true]
  have e0 := fun H => toIn H x.inn
  simp only [In.enc] at e0
  simp [Wire.enc, e0]
  all_goals (refine hQ _ _ _ (by simp) ?_)
  all_goals (clear hQ; simp [Tryz.f73, Wire.enc])

theorem eqWire (H : Heap) (x y : Wire) : run env 83 [.agg x.enc, .agg y.enc] H = some (.bool (decide (x = y)), H) := by
  have e0 := fun H => eqIn H x.inn y.inn
  obtain ⟨a0, a1, a2, a3, a4⟩ := x
  obtain ⟨b0, b1, b2, b3, b4⟩ := y
  simp only [In.enc] at e0
  refine run_walk ok83 Tryz.func83 rfl (by simp [Tryz.f83]) fun Q hQ => ?_
  simp only [Tryz.f83, strip, stripL, stripI, stripG, chkT, tagsB, tagsL, tagD, addT, tagA, lookN, tagOp, elmT, ty24, ty25, ty26, ty27, ty28, ty39, ty40, ty41, ty42, ty57, ty59, ty62, ty98, Nat.reduceEqDiff, if_false, reduceIte, Option.getD_some, Option.getD_none, dstAt, dstOk, Nat.reduceLT, decide_true, if_true]
  simp [Wire.enc]
  repeat' (first | (refine gdL_t (fun h => ?_) (fun h => ?_) <;> simp [h, e0]) | (refine gdL_f (fun h => ?_) (fun h => ?_) <;> simp [h, e0]) | (refine selS_intro (fun h => ?_) (fun h => ?_) <;> simp [h, e0]))
  all_goals (refine hQ _ _ _ (by simp) ?_)
  all_goals (clear hQ; simp_all [Tryz.f83])

theorem shpWire {H : Heap} {k : Nat} {l : List Lf} (h : Shp Tryz.prog H (k + 4) 116 l) : ∃ x : Wire, l = x.enc := by
  obtain ⟨_, _, rfl, h0, _, _, rfl, h1, _, _, rfl, h2, _, _, rfl, h3, _, _, rfl, h4, rfl⟩ := h.struct Tryz.underlying116
  obtain ⟨a0, rfl, -⟩ := h0.i64 Tryz.underlying3
  obtain ⟨a1, rfl⟩ := h1.bool Tryz.underlying4
  obtain ⟨a2, rfl, -⟩ := h2.i64 Tryz.underlying3
  obtain ⟨a3, rfl, -⟩ := h3.i64 Tryz.underlying3
  obtain ⟨a4, rfl⟩ := shpIn h4
  exact ⟨⟨a0, a1, a2, a3, a4⟩, rfl⟩

structure Deed where
  kind : Int
  a : Int
  inn : In
  deriving DecidableEq, Inhabited
def Deed.enc (x : Deed) : List Lf := [.i .i64 x.kind, .i .i64 x.a, .i .i64 x.inn.kind, .i .i64 x.inn.port, .i .i64 x.inn.vec.root, .i .i64 x.inn.vec.cost, .i .i64 x.inn.vec.bridge, .i .i64 x.inn.vec.port, .i .i64 x.inn.hops, .b x.inn.up]
@[simp] theorem Deed.enc_len (x : Deed) : x.enc.length = 10 := rfl
@[simp] theorem Deed.enc_take (x : Deed) : List.take 10 x.enc = x.enc := rfl
@[simp] theorem Deed.enc_drop (x : Deed) : List.drop 10 x.enc = [] := rfl
abbrev Deed.z : List Lf := [.i .i64 0, .i .i64 0, .i .i64 0, .i .i64 0, .i .i64 0, .i .i64 0, .i .i64 0, .i .i64 0, .i .i64 0, .b false]
abbrev Deed.zv : Deed := ⟨0, 0, ⟨0, 0, ⟨0, 0, 0, 0⟩, 0, false⟩⟩
theorem Deed.enc_inj {x y : Deed} (h : x.enc = y.enc) : x = y := by
  rcases x with ⟨v0, v1, ⟨v2_0, v2_1, ⟨v2_2_0, v2_2_1, v2_2_2, v2_2_3⟩, v2_3, v2_4⟩⟩
  rcases y with ⟨w0, v1, ⟨v2_0, v2_1, ⟨v2_2_0, v2_2_1, v2_2_2, v2_2_3⟩, v2_3, v2_4⟩⟩
  simp [Deed.enc] at h
  simp_all
def Deed.mk' (k : Int) : Deed := ⟨k, k + 1, ⟨k + 2, k + 3, ⟨k + 4, k + 5, k + 6, k + 7⟩, k + 8, decide ((k + 9).tmod 3 = 0)⟩⟩
theorem Deed.mk'_of {y : Deed} {c : Int} (h0 : y.kind = c) (h1 : y.a = c + 1) (h2 : y.inn.kind = c + 2) (h3 : y.inn.port = c + 3) (h4 : y.inn.vec.root = c + 4) (h5 : y.inn.vec.cost = c + 5) (h6 : y.inn.vec.bridge = c + 6) (h7 : y.inn.vec.port = c + 7) (h8 : y.inn.hops = c + 8) (h9 : y.inn.up = decide ((c + 9).tmod 3 = 0)) : y = Deed.mk' c := by
  rcases y with ⟨w0, v1, ⟨v2_0, v2_1, ⟨v2_2_0, v2_2_1, v2_2_2, v2_2_3⟩, v2_3, v2_4⟩⟩
  simp only at h0 h1 h2 h3 h4 h5 h6 h7 h8 h9
  subst h0 h1 h2 h3 h4 h5 h6 h7 h8 h9
  rfl

theorem toDeed (H : Heap) (x : Deed) : run env 8 [.agg x.enc] H = some (.agg x.enc, H) := by
  refine run_walk ok8 Tryz.func8 rfl (by simp [Tryz.f8]) fun Q hQ => ?_
  simp only [Tryz.f8, strip, stripL, stripI, stripG, chkT, tagsB, tagsL, tagD, addT, tagA, lookN, tagOp, elmT, ty24, ty25, ty26, ty27, ty28, ty39, ty40, ty41, ty42, ty57, ty59, ty62, ty98, Nat.reduceEqDiff, if_false, reduceIte, Option.getD_some, Option.getD_none, dstAt, dstOk, Nat.reduceLT, decide_true, if_true]
  have e0 := fun H => toIn H x.inn
  simp only [In.enc] at e0
  simp [Deed.enc, e0]
  all_goals (refine hQ _ _ _ (by simp) ?_)
  all_goals (clear hQ; simp [Tryz.f8, Deed.enc])

theorem eqDeed (H : Heap) (x y : Deed) : run env 58 [.agg x.enc, .agg y.enc] H = some (.bool (decide (x = y)), H) := by
  have e0 := fun H => eqIn H x.inn y.inn
  obtain ⟨a0, a1, a2⟩ := x
  obtain ⟨b0, b1, b2⟩ := y
  simp only [In.enc] at e0
  refine run_walk ok58 Tryz.func58 rfl (by simp [Tryz.f58]) fun Q hQ => ?_
  simp only [Tryz.f58, strip, stripL, stripI, stripG, chkT, tagsB, tagsL, tagD, addT, tagA, lookN, tagOp, elmT, ty24, ty25, ty26, ty27, ty28, ty39, ty40, ty41, ty42, ty57, ty59, ty62, ty98, Nat.reduceEqDiff, if_false, reduceIte, Option.getD_some, Option.getD_none, dstAt, dstOk, Nat.reduceLT, decide_true, if_true]
  simp [Deed.enc]
  repeat' (first | (refine gdL_t (fun h => ?_) (fun h => ?_) <;> simp [h, e0]) | (refine gdL_f (fun h => ?_) (fun h => ?_) <;> simp [h, e0]) | (refine selS_intro (fun h => ?_) (fun h => ?_) <;> simp [h, e0]))
  all_goals (refine hQ _ _ _ (by simp) ?_)
  all_goals (clear hQ; simp_all [Tryz.f58])

theorem shpDeed {H : Heap} {k : Nat} {l : List Lf} (h : Shp Tryz.prog H (k + 4) 36 l) : ∃ x : Deed, l = x.enc := by
  obtain ⟨_, _, rfl, h0, _, _, rfl, h1, _, _, rfl, h2, rfl⟩ := h.struct Tryz.underlying36
  obtain ⟨a0, rfl, -⟩ := h0.i64 Tryz.underlying3
  obtain ⟨a1, rfl, -⟩ := h1.i64 Tryz.underlying3
  obtain ⟨a2, rfl⟩ := shpIn h2
  exact ⟨⟨a0, a1, a2⟩, rfl⟩

def encB (x : Bool) : List Lf := [.b x]
@[simp] theorem encB_len (x : Bool) : (encB x).length = 1 := rfl
@[simp] theorem encB_take (x : Bool) : List.take 1 (encB x) = [.b x] := rfl
def mkB (k : Int) : Bool := decide (k.tmod 3 = 0)
theorem encB_inj {x y : Bool} (h : encB x = encB y) : x = y := by simpa [encB] using h

def encI (x : Int) : List Lf := [.i .i64 x]
@[simp] theorem encI_len (x : Int) : (encI x).length = 1 := rfl
@[simp] theorem encI_take (x : Int) : List.take 1 (encI x) = [.i .i64 x] := rfl
def mkI (k : Int) : Int := k
theorem encI_inj {x y : Int} (h : encI x = encI y) : x = y := by simpa [encI] using h

theorem toBoolS (H : Heap) (a : Option (Nat × Nat)) (xs : List Bool) (h : Sl H 4 a (xs.map encB)) (hn : xs.length ≤ 1048576) :
    run env 34 [.w (.lf (.sl a xs.length))] H = some (.sl H.length 0 xs.length, H ++ [some ⟨4, .wr, xs.map encB⟩]) := by
  refine run_walk ok34 Tryz.func34 rfl (by simp [Tryz.f34]) fun Q hQ => ?_
  simp only [Tryz.f34, strip, stripL, stripI, stripG, chkT, tagsB, tagsL, tagD, addT, tagA, lookN, tagOp, elmT, ty24, ty25, ty26, ty27, ty28, ty39, ty40, ty41, ty42, ty57, ty59, ty62, ty98, Nat.reduceEqDiff, if_false, reduceIte, Option.getD_some, Option.getD_none, dstAt, dstOk, Nat.reduceLT, decide_true, if_true]
  have k1 : (xs.length : Int) * 1 ≤ 281474976710656 := by omega
  have k2 : (xs.length : Int) ≤ 9223372036854775807 := by omega
  have k3 : (xs.length : Int) ≤ 281474976710656 := by omega
  simp [builtinV, pureB, lenV, makeSliceV, makeSliceR, newBlk, k1, k2, k3]
  refine wpS_loop (fun j tm H' => ∃ i, i + j = xs.length ∧ tm 0 = .w (.lf (.sl a xs.length)) ∧ tm 3 = .sl H.length 0 xs.length ∧ tm 4 = .int i ∧ H' = H ++ [some ⟨4, .wr, fillR (xs.map encB) [.b false] i j⟩]) xs.length (by rw [env_K]; omega) ⟨0, by simp, by simp, by simp, by simp, by rw [fillR_zero _ _ (by simp)]⟩ ?_
  rintro j tm H' hj ⟨i, hij, h0, h3, h4, rfl⟩ Q' hn' he' hr'
  simp [h0, h3, h4, builtinV, pureB, lenV]
  refine selS_intro (fun hc => ?_) (fun hc => ?_)
  · simp at hc
    obtain ⟨j, rfl⟩ : ∃ j', j = j' + 1 := ⟨j - 1, by omega⟩
    obtain ⟨id, r, b, rfl, hb, hbe, hrow⟩ := h i _ (by simp [hc]; rfl)
    have hid := blkAt_len hb
    have g2 := fillR_get (ys := xs.map encB) (z := [.b false]) (i := i) (j := j) (by simpa using hij)
    have g3 := fillR_set (ys := xs.map encB) (z := [.b false]) (i := i) (j := j) (y := encB xs[i]) (by simpa using hij) (by simp [hc])
    have g4 : IntKind.i64.wrap ((i : Int) + 1) = (i : Int) + 1 := wrap64 (by omega) (by omega)
    simp [h0, h3, h4, indexAddrV, elemIs, hid, hb, hbe, hc, hrow, g2, g3, g4]
    exact hn' j _ _ (by omega) ⟨i + 1, by omega, by simp [h0], by simp [h3], by simp, by simpa [encB] using congrArg (fun r => H ++ [some (⟨4, .wr, r⟩ : Blk)]) g3⟩
  · simp at hc
    have hj0 : j = 0 := by omega
    subst hj0
    simp [h0, h3, h4]
    refine he' _ _ _ ?_
    simp [h3]
    refine hQ _ _ _ (by simp) ?_
    simp [Tryz.f34, leave, fillR_done (ys := xs.map encB) (i := i) (z := [.b false]) (by simpa using hij), refFree]

theorem szBoolS (H : Heap) (a : Option (Nat × Nat)) (n : Nat) (left : Int) (h1 : 0 ≤ left) (h2 : left ≤ 1048576) (h3 : n ≤ maxLen) :
    run env 24 [.w (.lf (.sl a n)), .int left] H = some (.int (if left < n then -1 else left - n), H) := by
  have hm : (n : Int) ≤ 9223372036854775807 := by unfold maxLen at h3; omega
  refine run_walk ok24 Tryz.func24 rfl (by simp [Tryz.f24]) fun Q hQ => ?_
  simp only [Tryz.f24, strip, stripL, stripI, stripG, chkT, tagsB, tagsL, tagD, addT, tagA, lookN, tagOp, elmT, ty24, ty25, ty26, ty27, ty28, ty39, ty40, ty41, ty42, ty57, ty59, ty62, ty98, Nat.reduceEqDiff, if_false, reduceIte, Option.getD_some, Option.getD_none, dstAt, dstOk, Nat.reduceLT, decide_true, if_true]
  have g : IntKind.i64.wrap (left - n) = left - n := wrap64 (by omega) (by omega)
  simp [builtinV, pureB, lenV, g]
  repeat' (first | (refine gdL_t (fun h => ?_) (fun h => ?_) <;> simp [h]) | (refine gdL_f (fun h => ?_) (fun h => ?_) <;> simp [h]) | (refine selS_intro (fun h => ?_) (fun h => ?_) <;> simp [h]))
  all_goals (refine hQ _ _ _ (by simp) ?_)
  all_goals (clear hQ; simp_all [Tryz.f24] <;> omega)

theorem eqBoolS (H : Heap) (a b : Option (Nat × Nat)) (xs ys : List Bool) (ha : Sl H 4 a (xs.map encB)) (hb : Sl H 4 b (ys.map encB)) (hn : xs.length ≤ 1048576) :
    run env 44 [.w (.lf (.sl a xs.length)), .w (.lf (.sl b ys.length))] H = some (.bool (decide (xs = ys)), H) := by
  refine run_walk ok44 Tryz.func44 rfl (by simp [Tryz.f44]) fun Q hQ => ?_
  simp only [Tryz.f44, strip, stripL, stripI, stripG, chkT, tagsB, tagsL, tagD, addT, tagA, lookN, tagOp, elmT, ty24, ty25, ty26, ty27, ty28, ty39, ty40, ty41, ty42, ty57, ty59, ty62, ty98, Nat.reduceEqDiff, if_false, reduceIte, Option.getD_some, Option.getD_none, dstAt, dstOk, Nat.reduceLT, decide_true, if_true]
  simp [builtinV, pureB, lenV]
  refine selS_intro (fun hl => ?_) (fun hl => ?_)
  · simp
    refine hQ _ _ _ (by simp) ?_
    simp at hl
    have : ¬ xs = ys := fun h => hl (by rw [h])
    simp [Tryz.f44, this]
  simp at hl
  simp
  refine wpS_loop (fun j tm H' => ∃ i, i + j = xs.length ∧ tm 0 = .w (.lf (.sl a xs.length)) ∧ tm 1 = .w (.lf (.sl b ys.length)) ∧ tm 5 = .int i ∧ H' = H ∧ xs.take i = ys.take i) xs.length (by rw [env_K]; omega) ⟨0, by simp, by simp, by simp, by simp, rfl, by simp⟩ ?_
  rintro j tm H' hj ⟨i, hij, h0, h1, h5, rfl, heq⟩ Q' hn' he' hr'
  simp [h0, h1, h5, builtinV, pureB, lenV]
  refine selS_intro (fun hc => ?_) (fun hc => ?_)
  · simp at hc
    have hc2 : i < ys.length := by omega
    obtain ⟨id, r, bl, rfl, hbl, hbe, hrow⟩ := ha i _ (by simp [hc]; rfl)
    obtain ⟨id2, r2, bl2, rfl, hbl2, hbe2, hrow2⟩ := hb i _ (by simp [hc2]; rfl)
    have g4 : IntKind.i64.wrap ((i : Int) + 1) = (i : Int) + 1 := wrap64 (by omega) (by omega)
    simp [h0, h1, h5, indexAddrV, elemIs, hbl, hbe, hbl2, hbe2, hc, hc2, hrow, hrow2, encB]
    refine selS_intro (fun hd => ?_) (fun hd => ?_)
    · simp
      refine hr' _ _ ?_
      simp
      refine hQ _ _ _ (by simp) ?_
      simp at hd
      have : ¬ xs = ys := fun h => by subst h; simp at hd
      simp [Tryz.f44, this]
    · simp at hd
      simp [h0, h1, h5, g4]
      exact hn' (j - 1) _ _ (by omega) ⟨i + 1, by omega, by simp [h0], by simp [h1], by simp, rfl, by rw [List.take_add_one, List.take_add_one, heq]; simp [hc, hc2, hd]⟩
  · simp at hc
    simp [h0, h1, h5]
    refine he' _ _ _ ?_
    simp
    refine hQ _ _ _ (by simp) ?_
    have : xs = ys := by
      rw [List.take_of_length_le (by omega), List.take_of_length_le (by omega)] at heq
      exact heq
    simp [Tryz.f44, this]

theorem markBoolS (H : Heap) (a : Option (Nat × Nat)) (xs : List Bool) (fp : List Nat) (k : Int) (h : Own H 4 a (xs.map encB) fp) (hk : 0 ≤ k) (hk2 : k + 1 * xs.length ≤ 4611686018427387904) (hn : xs.length ≤ 1048576) :
    Runs env 49 [.w (.lf (.sl a xs.length)), .int k] H fun v H' => v = .int (k + 1 * xs.length) ∧ Own H' 4 a ((marked mkB 1 xs.length k).map encB) fp ∧ Keep fp H H' := by
  refine Runs.walk ok49 Tryz.func49 rfl (by simp [Tryz.f49]) fun Q hQ => ?_
  simp only [Tryz.f49, strip, stripL, stripI, stripG, chkT, tagsB, tagsL, tagD, addT, tagA, lookN, tagOp, elmT, ty24, ty25, ty26, ty27, ty28, ty39, ty40, ty41, ty42, ty57, ty59, ty62, ty98, Nat.reduceEqDiff, if_false, reduceIte, Option.getD_some, Option.getD_none, dstAt, dstOk, Nat.reduceLT, decide_true, if_true]
  simp
  refine wpS_loop (fun j tm H' => ∃ i, i + j = xs.length ∧ tm 0 = .w (.lf (.sl a xs.length)) ∧ tm 1 = .int (k + 1 * i) ∧ tm 5 = .int i ∧ Own H' 4 a ((marked mkB 1 i k ++ xs.drop i).map encB) fp ∧ Keep fp H H') xs.length (by rw [env_K]; omega) ⟨0, by simp, by simp, by simp, by simp, by simpa [marked] using h, Keep.refl _ _⟩ ?_
  rintro j tm H' hj ⟨i, hij, h0, h1, h5, ho, hkp⟩ Q' hn' he' hr'
  simp [h0, h1, h5, builtinV, pureB, lenV]
  refine selS_intro (fun hc => ?_) (fun hc => ?_)
  · simp at hc
    obtain ⟨id, b, rfl, rfl, hb, hbe, hm, hpre⟩ := ho.blk (by simp; omega)
    have hid := blkAt_len hb
    obtain ⟨t, ht⟩ := hpre
    obtain ⟨hi, hrow2⟩ := marked_at mkB 1 encB xs hc k ht
    have g4 : IntKind.i64.wrap ((i : Int) + 1) = (i : Int) + 1 := wrap64 (by omega) (by omega)
    obtain ⟨c, hcc⟩ : ∃ c, c = k + 1 * (i : Int) := ⟨_, rfl⟩
    rw [← hcc] at h1
    have w : ∀ d : Int, 0 ≤ d → d ≤ 100 → IntKind.i64.wrap (c + d) = c + d := fun d h1 h2 => wrap64 (by omega) (by omega)
    simp [h0, h1, h5, indexAddrV, elemIs, hid, hb, hbe, hm, hc, hi, hrow2, blkAt_set, encB, w, Int.add_assoc, g4]
    refine hn' (j - 1) _ _ (by omega) ⟨i + 1, by omega, by simp [h0], by simp [hcc]; omega, by simp, ?_, ?_⟩
    · have := ho.set (row := encB (mkB c)) hb (i := i) (by simp; omega)
      have e := marked_put mkB 1 encB xs hc k
      rw [← hcc] at e
      rw [e, hm, hbe] at this
      simpa [encB, mkB] using this
    · exact hkp.trans (Keep.set _ _) (by simp) (by simp)
  · simp at hc
    obtain rfl : i = xs.length := by omega
    simp [h0, h1, h5]
    refine he' _ _ _ ?_
    simp [h1]
    refine hQ _ _ _ (by simp) ?_
    simp [Tryz.f49]
    exact ⟨leave_own (by simpa using ho) h.lt, leave_keep' hkp⟩

theorem heldBoolS (H : Heap) (a : Option (Nat × Nat)) (xs : List Bool) (k : Int) (h : Sl H 4 a (xs.map encB)) (hk : 0 ≤ k) (hk2 : k + 1 * xs.length ≤ 4611686018427387904) (hn : xs.length ≤ 1048576) :
    run env 54 [.w (.lf (.sl a xs.length)), .int k] H = some (.int (heldL mkB 1 xs k), H) := by
  refine run_walk ok54 Tryz.func54 rfl (by simp [Tryz.f54]) fun Q hQ => ?_
  simp only [Tryz.f54, strip, stripL, stripI, stripG, chkT, tagsB, tagsL, tagD, addT, tagA, lookN, tagOp, elmT, ty24, ty25, ty26, ty27, ty28, ty39, ty40, ty41, ty42, ty57, ty59, ty62, ty98, Nat.reduceEqDiff, if_false, reduceIte, Option.getD_some, Option.getD_none, dstAt, dstOk, Nat.reduceLT, decide_true, if_true]
  simp
  refine wpS_loop (fun j tm H' => ∃ i, i + j = xs.length ∧ tm 0 = .w (.lf (.sl a xs.length)) ∧ tm 1 = .int (k + 1 * i) ∧ tm 5 = .int i ∧ H' = H ∧ xs.take i = marked mkB 1 i k) xs.length (by rw [env_K]; omega) ⟨0, by simp, by simp, by simp, by simp, rfl, by simp [marked]⟩ ?_
  rintro j tm H' hj ⟨i, hij, h0, h1, h5, rfl, heq⟩ Q' hn' he' hr'
  simp [h0, h1, h5, builtinV, pureB, lenV]
  refine selS_intro (fun hc => ?_) (fun hc => ?_)
  · simp at hc
    obtain ⟨id, r, b, rfl, hb, hbe, hrow⟩ := h i _ (by simp [hc]; rfl)
    have g4 : IntKind.i64.wrap ((i : Int) + 1) = (i : Int) + 1 := wrap64 (by omega) (by omega)
    obtain ⟨c, hcc⟩ : ∃ c, c = k + 1 * (i : Int) := ⟨_, rfl⟩
    rw [← hcc] at h1
    have w : ∀ d : Int, 0 ≤ d → d ≤ 100 → IntKind.i64.wrap (c + d) = c + d := fun d h1 h2 => wrap64 (by omega) (by omega)
    have fin : xs[i] ≠ mkB c → ∀ tm'' : T, tm'' 4 = .int (-1) → Q' .ret tm'' H' := by
      intro hx tm'' ht
      refine hr' _ _ ?_
      simp
      refine hQ _ _ _ (by simp) ?_
      have : heldL mkB 1 xs k = -1 := heldL_bad hc (by rw [← hcc]; exact hx)
      simp [Tryz.f54, ht, this]
    simp [h0, h1, h5, indexAddrV, elemIs, hb, hbe, hc, hrow, encB, w, Int.add_assoc, g4]
    refine selS_intro (fun hd => ?_) (fun hd => ?_)
    · simp
      exact fin (fun he => by rw [he] at hd; simp [mkB] at hd) _ (by simp)
    have hd0 : xs[i] = decide ((c).tmod 3 = 0) := by simpa using hd
    simp [h0, h1, h5, indexAddrV, elemIs, hb, hbe, hc, hrow, encB, w, Int.add_assoc, g4]
    refine hn' (j - 1) _ _ (by omega) ⟨i + 1, by omega, by simp [h0], by simp [hcc]; omega, by simp, rfl, heldL_step hc ?_ heq⟩
    rw [← hcc]
    exact hd0
  · simp at hc
    obtain rfl : i = xs.length := by omega
    simp [h0, h1, h5]
    refine he' _ _ _ ?_
    simp [h1]
    refine hQ _ _ _ (by simp) ?_
    rw [List.take_of_length_le (Nat.le_refl _)] at heq
    have : heldL mkB 1 xs k = k + 1 * xs.length := by rw [heldL, if_pos heq]
    simp [Tryz.f54, this]

abbrev IsBoolS := IsSl 4 encB
abbrev RdBoolS := RdSl 4 encB
abbrev RdLBoolS := RdSl 4 encB
def BoolS.mk' (xs : List Bool) (k : Int) : List Bool := marked mkB 1 xs.length k
def BoolS.mkN (xs : List Bool) (k : Int) : Int := k + 1 * xs.length
def BoolS.hd (xs : List Bool) (k : Int) : Int := heldL mkB 1 xs k
theorem BoolS.hd_mk (xs : List Bool) (k : Int) : BoolS.hd (BoolS.mk' xs k) k = BoolS.mkN xs k := by simp [BoolS.hd, BoolS.mk', BoolS.mkN]
theorem BoolS.mk_sz (xs : List Bool) (k : Int) : (BoolS.mk' xs k).length = xs.length := by simp [BoolS.mk']
theorem BoolS.mkN_le {xs : List Bool} {k : Int} (h : xs.length ≤ 1048576) : k ≤ BoolS.mkN xs k ∧ BoolS.mkN xs k ≤ k + 1000000000 := by unfold BoolS.mkN; omega

theorem shpBoolS_is {H : Heap} {k : Nat} {l : List Lf} (h : Shp Tryz.prog H (k + 2) 26 l) : ∃ (q : Lf) (xs : List Bool), l = [q] ∧ RdLBoolS H q xs ∧ xs.length ≤ maxLen := by
  obtain ⟨xs, a, rfl, hs, hl, -⟩ := h.sl (f := encB) (R := fun _ => True) Tryz.underlying26 fun row hr => let ⟨x, hx⟩ := hr.bool Tryz.underlying4; ⟨x, hx, trivial⟩
  exact ⟨_, xs, rfl, ⟨a, rfl, hs⟩, hl⟩

theorem toBoolS_is {H : Heap} {q : Lf} {xs : List Bool} (h : RdLBoolS H q xs) (hn : xs.length ≤ 1048576) : Runs env 34 [.w (.lf q)] H fun v H' => ∃ q' fp, v = .w (.lf q') ∧ IsBoolS H' q' xs fp ∧ Fresh H H' fp := by
  obtain ⟨a, rfl, h⟩ := h
  exact .of (toBoolS H a xs h hn) ⟨_, _, rfl, ⟨_, rfl, Own.of (by simp)⟩, Fresh.app _ _ (by simp)⟩

theorem eqBoolS_is {H : Heap} {q r : Lf} {xs ys : List Bool} (h : RdBoolS H q xs) (h2 : RdBoolS H r ys) (hn : xs.length ≤ 1048576) : run env 44 [.w (.lf q), .w (.lf r)] H = some (.bool (decide (xs = ys)), H) := by
  obtain ⟨a, rfl, h⟩ := h
  obtain ⟨b, rfl, h2⟩ := h2
  exact eqBoolS H a b xs ys h h2 hn

theorem cloneBoolS {H : Heap} {q : Lf} {xs : List Bool} (h : RdBoolS H q xs) (hn : xs.length ≤ 1048576) : Runs env 88 [.w (.lf q)] H fun v H' => ∃ q' fp, v = .w (.lf q') ∧ IsBoolS H' q' xs fp ∧ Fresh H H' fp := by
  obtain ⟨a, rfl, h⟩ := h
  refine Runs.walk ok88 Tryz.func88 rfl (by simp [Tryz.f88]) fun Q hQ => ?_
  simp only [Tryz.f88, strip, stripL, stripI, stripG, chkT, tagsB, tagsL, tagD, addT, tagA, lookN, tagOp, elmT, ty24, ty25, ty26, ty27, ty28, ty39, ty40, ty41, ty42, ty57, ty59, ty62, ty98, Nat.reduceEqDiff, if_false, reduceIte, Option.getD_some, Option.getD_none, dstAt, dstOk, Nat.reduceLT, decide_true, if_true]
  simp [binV]
  cases a with
  | none =>
    have : xs = [] := by
      cases xs with
      | nil => rfl
      | cons x xs => obtain ⟨_, _, _, h0, _⟩ := h 0 _ rfl; cases h0
    subst this
    simp
    refine hQ _ _ _ (by simp) ?_
    simp [Tryz.f88]
    exact ⟨_, ⟨none, rfl, Own.nil _ _⟩, Fresh.refl _⟩
  | some p =>
    simp
    refine stpL_append (rows := []) (ys := xs.map encB) (Own.of (by simp)) (h.app _) rfl rfl rfl (by simp) (by simp; omega) rfl (by simp) fun a'' H'' fp'' ho'' hk'' hf'' => ?_
    simp
    refine hQ _ _ _ (by simp) ?_
    simp [Tryz.f88]
    have ho : IsBoolS H'' (.sl a'' xs.length) xs fp'' := ⟨a'', rfl, by simpa using ho''⟩
    have hf : Fresh H H'' fp'' := Fresh.grow (fp := [H.length]) (by simp) hk'' hf''
    obtain ⟨f, h1, h2⟩ := ho.leave (ws := [W.lf (Lf.sl a'' xs.length)]) hf (by simp)
    exact ⟨f, h1, h2⟩

theorem markBoolS_is {H : Heap} {q : Lf} {xs : List Bool} {fp : List Nat} {k : Int} (h : IsBoolS H q xs fp) (hk : 0 ≤ k) (hk2 : k ≤ 2305843009213693952) (hn : xs.length ≤ 1048576) :
    Runs env 49 [.w (.lf q), .int k] H fun v H' => v = .int (BoolS.mkN xs k) ∧ IsBoolS H' q (BoolS.mk' xs k) fp ∧ Keep fp H H' := by
  obtain ⟨a, rfl, h⟩ := h
  exact (markBoolS H a xs fp k h hk (by omega) hn).mono fun v H' ⟨h1, h2, h3⟩ => ⟨h1, ⟨a, by simp [BoolS.mk'], h2⟩, h3⟩

theorem heldBoolS_is {H : Heap} {q : Lf} {xs : List Bool} {k : Int} (h : RdBoolS H q xs) (hk : 0 ≤ k) (hk2 : k ≤ 2305843009213693952) (hn : xs.length ≤ 1048576) :
    run env 54 [.w (.lf q), .int k] H = some (.int (BoolS.hd xs k), H) := by
  obtain ⟨a, rfl, h⟩ := h
  exact heldBoolS H a xs k h hk (by omega) hn

theorem eqIntS (H : Heap) (a b : Option (Nat × Nat)) (xs ys : List Int) (ha : Sl H 3 a (xs.map encI)) (hb : Sl H 3 b (ys.map encI)) (hn : xs.length ≤ 1048576) :
    run env 17 [.w (.lf (.sl a xs.length)), .w (.lf (.sl b ys.length))] H = some (.bool (decide (xs = ys)), H) := by
  refine run_walk ok17 Tryz.func17 rfl (by simp [Tryz.f17]) fun Q hQ => ?_
  simp only [Tryz.f17, strip, stripL, stripI, stripG, chkT, tagsB, tagsL, tagD, addT, tagA, lookN, tagOp, elmT, ty24, ty25, ty26, ty27, ty28, ty39, ty40, ty41, ty42, ty57, ty59, ty62, ty98, Nat.reduceEqDiff, if_false, reduceIte, Option.getD_some, Option.getD_none, dstAt, dstOk, Nat.reduceLT, decide_true, if_true]
  simp [builtinV, pureB, lenV]
  refine selS_intro (fun hl => ?_) (fun hl => ?_)
  · simp
    refine hQ _ _ _ (by simp) ?_
    simp at hl
    have : ¬ xs = ys := fun h => hl (by rw [h])
    simp [Tryz.f17, this]
  simp at hl
  simp
  refine wpS_loop (fun j tm H' => ∃ i, i + j = xs.length ∧ tm 0 = .w (.lf (.sl a xs.length)) ∧ tm 1 = .w (.lf (.sl b ys.length)) ∧ tm 5 = .int i ∧ H' = H ∧ xs.take i = ys.take i) xs.length (by rw [env_K]; omega) ⟨0, by simp, by simp, by simp, by simp, rfl, by simp⟩ ?_
  rintro j tm H' hj ⟨i, hij, h0, h1, h5, rfl, heq⟩ Q' hn' he' hr'
  simp [h0, h1, h5, builtinV, pureB, lenV]
  refine selS_intro (fun hc => ?_) (fun hc => ?_)
  · simp at hc
    have hc2 : i < ys.length := by omega
    obtain ⟨id, r, bl, rfl, hbl, hbe, hrow⟩ := ha i _ (by simp [hc]; rfl)
    obtain ⟨id2, r2, bl2, rfl, hbl2, hbe2, hrow2⟩ := hb i _ (by simp [hc2]; rfl)
    have g4 : IntKind.i64.wrap ((i : Int) + 1) = (i : Int) + 1 := wrap64 (by omega) (by omega)
    simp [h0, h1, h5, indexAddrV, elemIs, hbl, hbe, hbl2, hbe2, hc, hc2, hrow, hrow2, encI]
    refine selS_intro (fun hd => ?_) (fun hd => ?_)
    · simp
      refine hr' _ _ ?_
      simp
      refine hQ _ _ _ (by simp) ?_
      simp at hd
      have : ¬ xs = ys := fun h => by subst h; simp at hd
      simp [Tryz.f17, this]
    · simp at hd
      simp [h0, h1, h5, g4]
      exact hn' (j - 1) _ _ (by omega) ⟨i + 1, by omega, by simp [h0], by simp [h1], by simp, rfl, by rw [List.take_add_one, List.take_add_one, heq]; simp [hc, hc2, hd]⟩
  · simp at hc
    simp [h0, h1, h5]
    refine he' _ _ _ ?_
    simp
    refine hQ _ _ _ (by simp) ?_
    have : xs = ys := by
      rw [List.take_of_length_le (by omega), List.take_of_length_le (by omega)] at heq
      exact heq
    simp [Tryz.f17, this]

theorem markIntS (H : Heap) (a : Option (Nat × Nat)) (xs : List Int) (fp : List Nat) (k : Int) (h : Own H 3 a (xs.map encI) fp) (hk : 0 ≤ k) (hk2 : k + 1 * xs.length ≤ 4611686018427387904) (hn : xs.length ≤ 1048576) :
    Runs env 20 [.w (.lf (.sl a xs.length)), .int k] H fun v H' => v = .int (k + 1 * xs.length) ∧ Own H' 3 a ((marked mkI 1 xs.length k).map encI) fp ∧ Keep fp H H' := by
  refine Runs.walk ok20 Tryz.func20 rfl (by simp [Tryz.f20]) fun Q hQ => ?_
  simp only [Tryz.f20, strip, stripL, stripI, stripG, chkT, tagsB, tagsL, tagD, addT, tagA, lookN, tagOp, elmT, ty24, ty25, ty26, ty27, ty28, ty39, ty40, ty41, ty42, ty57, ty59, ty62, ty98, Nat.reduceEqDiff, if_false, reduceIte, Option.getD_some, Option.getD_none, dstAt, dstOk, Nat.reduceLT, decide_true, if_true]
  simp
  refine wpS_loop (fun j tm H' => ∃ i, i + j = xs.length ∧ tm 0 = .w (.lf (.sl a xs.length)) ∧ tm 1 = .int (k + 1 * i) ∧ tm 5 = .int i ∧ Own H' 3 a ((marked mkI 1 i k ++ xs.drop i).map encI) fp ∧ Keep fp H H') xs.length (by rw [env_K]; omega) ⟨0, by simp, by simp, by simp, by simp, by simpa [marked] using h, Keep.refl _ _⟩ ?_
  rintro j tm H' hj ⟨i, hij, h0, h1, h5, ho, hkp⟩ Q' hn' he' hr'
  simp [h0, h1, h5, builtinV, pureB, lenV]
  refine selS_intro (fun hc => ?_) (fun hc => ?_)
  · simp at hc
    obtain ⟨id, b, rfl, rfl, hb, hbe, hm, hpre⟩ := ho.blk (by simp; omega)
    have hid := blkAt_len hb
    obtain ⟨t, ht⟩ := hpre
    obtain ⟨hi, hrow2⟩ := marked_at mkI 1 encI xs hc k ht
    have g4 : IntKind.i64.wrap ((i : Int) + 1) = (i : Int) + 1 := wrap64 (by omega) (by omega)
    obtain ⟨c, hcc⟩ : ∃ c, c = k + 1 * (i : Int) := ⟨_, rfl⟩
    rw [← hcc] at h1
    have w : ∀ d : Int, 0 ≤ d → d ≤ 100 → IntKind.i64.wrap (c + d) = c + d := fun d h1 h2 => wrap64 (by omega) (by omega)
    simp [h0, h1, h5, indexAddrV, elemIs, hid, hb, hbe, hm, hc, hi, hrow2, blkAt_set, encI, w, Int.add_assoc, g4]
    refine hn' (j - 1) _ _ (by omega) ⟨i + 1, by omega, by simp [h0], by simp [hcc]; omega, by simp, ?_, ?_⟩
    · have := ho.set (row := encI (mkI c)) hb (i := i) (by simp; omega)
      have e := marked_put mkI 1 encI xs hc k
      rw [← hcc] at e
      rw [e, hm, hbe] at this
      simpa [encI, mkI] using this
    · exact hkp.trans (Keep.set _ _) (by simp) (by simp)
  · simp at hc
    obtain rfl : i = xs.length := by omega
    simp [h0, h1, h5]
    refine he' _ _ _ ?_
    simp [h1]
    refine hQ _ _ _ (by simp) ?_
    simp [Tryz.f20]
    exact ⟨leave_own (by simpa using ho) h.lt, leave_keep' hkp⟩

theorem heldIntS (H : Heap) (a : Option (Nat × Nat)) (xs : List Int) (k : Int) (h : Sl H 3 a (xs.map encI)) (hk : 0 ≤ k) (hk2 : k + 1 * xs.length ≤ 4611686018427387904) (hn : xs.length ≤ 1048576) :
    run env 21 [.w (.lf (.sl a xs.length)), .int k] H = some (.int (heldL mkI 1 xs k), H) := by
  refine run_walk ok21 Tryz.func21 rfl (by simp [Tryz.f21]) fun Q hQ => ?_
  simp only [Tryz.f21, strip, stripL, stripI, stripG, chkT, tagsB, tagsL, tagD, addT, tagA, lookN, tagOp, elmT, ty24, ty25, ty26, ty27, ty28, ty39, ty40, ty41, ty42, ty57, ty59, ty62, ty98, Nat.reduceEqDiff, if_false, reduceIte, Option.getD_some, Option.getD_none, dstAt, dstOk, Nat.reduceLT, decide_true, if_true]
  simp
  refine wpS_loop (fun j tm H' => ∃ i, i + j = xs.length ∧ tm 0 = .w (.lf (.sl a xs.length)) ∧ tm 1 = .int (k + 1 * i) ∧ tm 5 = .int i ∧ H' = H ∧ xs.take i = marked mkI 1 i k) xs.length (by rw [env_K]; omega) ⟨0, by simp, by simp, by simp, by simp, rfl, by simp [marked]⟩ ?_
  rintro j tm H' hj ⟨i, hij, h0, h1, h5, rfl, heq⟩ Q' hn' he' hr'
  simp [h0, h1, h5, builtinV, pureB, lenV]
  refine selS_intro (fun hc => ?_) (fun hc => ?_)
  · simp at hc
    obtain ⟨id, r, b, rfl, hb, hbe, hrow⟩ := h i _ (by simp [hc]; rfl)
    have g4 : IntKind.i64.wrap ((i : Int) + 1) = (i : Int) + 1 := wrap64 (by omega) (by omega)
    obtain ⟨c, hcc⟩ : ∃ c, c = k + 1 * (i : Int) := ⟨_, rfl⟩
    rw [← hcc] at h1
    have w : ∀ d : Int, 0 ≤ d → d ≤ 100 → IntKind.i64.wrap (c + d) = c + d := fun d h1 h2 => wrap64 (by omega) (by omega)
    have fin : xs[i] ≠ mkI c → ∀ tm'' : T, tm'' 4 = .int (-1) → Q' .ret tm'' H' := by
      intro hx tm'' ht
      refine hr' _ _ ?_
      simp
      refine hQ _ _ _ (by simp) ?_
      have : heldL mkI 1 xs k = -1 := heldL_bad hc (by rw [← hcc]; exact hx)
      simp [Tryz.f21, ht, this]
    simp [h0, h1, h5, indexAddrV, elemIs, hb, hbe, hc, hrow, encI, w, Int.add_assoc, g4]
    refine selS_intro (fun hd => ?_) (fun hd => ?_)
    · simp
      exact fin (fun he => by rw [he] at hd; simp [mkI] at hd) _ (by simp)
    have hd0 : xs[i] = c := by simpa using hd
    simp [h0, h1, h5, indexAddrV, elemIs, hb, hbe, hc, hrow, encI, w, Int.add_assoc, g4]
    refine hn' (j - 1) _ _ (by omega) ⟨i + 1, by omega, by simp [h0], by simp [hcc]; omega, by simp, rfl, heldL_step hc ?_ heq⟩
    rw [← hcc]
    exact hd0
  · simp at hc
    obtain rfl : i = xs.length := by omega
    simp [h0, h1, h5]
    refine he' _ _ _ ?_
    simp [h1]
    refine hQ _ _ _ (by simp) ?_
    rw [List.take_of_length_le (Nat.le_refl _)] at heq
    have : heldL mkI 1 xs k = k + 1 * xs.length := by rw [heldL, if_pos heq]
    simp [Tryz.f21, this]

abbrev IsIntS := IsSl 3 encI
abbrev RdIntS := RdSl 3 encI
abbrev RdLIntS := RdSl 3 encI
def IntS.mk' (xs : List Int) (k : Int) : List Int := marked mkI 1 xs.length k
def IntS.mkN (xs : List Int) (k : Int) : Int := k + 1 * xs.length
def IntS.hd (xs : List Int) (k : Int) : Int := heldL mkI 1 xs k
theorem IntS.hd_mk (xs : List Int) (k : Int) : IntS.hd (IntS.mk' xs k) k = IntS.mkN xs k := by simp [IntS.hd, IntS.mk', IntS.mkN]
theorem IntS.mk_sz (xs : List Int) (k : Int) : (IntS.mk' xs k).length = xs.length := by simp [IntS.mk']
theorem IntS.mkN_le {xs : List Int} {k : Int} (h : xs.length ≤ 1048576) : k ≤ IntS.mkN xs k ∧ IntS.mkN xs k ≤ k + 1000000000 := by unfold IntS.mkN; omega

theorem eqIntS_is {H : Heap} {q r : Lf} {xs ys : List Int} (h : RdIntS H q xs) (h2 : RdIntS H r ys) (hn : xs.length ≤ 1048576) : run env 17 [.w (.lf q), .w (.lf r)] H = some (.bool (decide (xs = ys)), H) := by
  obtain ⟨a, rfl, h⟩ := h
  obtain ⟨b, rfl, h2⟩ := h2
  exact eqIntS H a b xs ys h h2 hn

theorem markIntS_is {H : Heap} {q : Lf} {xs : List Int} {fp : List Nat} {k : Int} (h : IsIntS H q xs fp) (hk : 0 ≤ k) (hk2 : k ≤ 2305843009213693952) (hn : xs.length ≤ 1048576) :
    Runs env 20 [.w (.lf q), .int k] H fun v H' => v = .int (IntS.mkN xs k) ∧ IsIntS H' q (IntS.mk' xs k) fp ∧ Keep fp H H' := by
  obtain ⟨a, rfl, h⟩ := h
  exact (markIntS H a xs fp k h hk (by omega) hn).mono fun v H' ⟨h1, h2, h3⟩ => ⟨h1, ⟨a, by simp [IntS.mk'], h2⟩, h3⟩

theorem heldIntS_is {H : Heap} {q : Lf} {xs : List Int} {k : Int} (h : RdIntS H q xs) (hk : 0 ≤ k) (hk2 : k ≤ 2305843009213693952) (hn : xs.length ≤ 1048576) :
    run env 21 [.w (.lf q), .int k] H = some (.int (IntS.hd xs k), H) := by
  obtain ⟨a, rfl, h⟩ := h
  exact heldIntS H a xs k h hk (by omega) hn

abbrev IsPortS := IsSl 134 Port.enc
abbrev RdPortS := RdSl 134 Port.enc
abbrev RdLPortS := RdSl 999999 Port.enc
def PortS.mk' (xs : List Port) (k : Int) : List Port := marked Port.mk' 11 xs.length k
def PortS.mkN (xs : List Port) (k : Int) : Int := k + 11 * xs.length
def PortS.hd (xs : List Port) (k : Int) : Int := heldL Port.mk' 11 xs k
theorem PortS.hd_mk (xs : List Port) (k : Int) : PortS.hd (PortS.mk' xs k) k = PortS.mkN xs k := by simp [PortS.hd, PortS.mk', PortS.mkN]
theorem PortS.mk_sz (xs : List Port) (k : Int) : (PortS.mk' xs k).length = xs.length := by simp [PortS.mk']
theorem PortS.mkN_le {xs : List Port} {k : Int} (h : xs.length ≤ 1048576) : k ≤ PortS.mkN xs k ∧ PortS.mkN xs k ≤ k + 1000000000 := by unfold PortS.mkN; omega

theorem clonePortS {H : Heap} {q : Lf} {xs : List Port} (h : RdPortS H q xs) (hn : xs.length ≤ 1048576) : Runs env 155 [.w (.lf q)] H fun v H' => ∃ q' fp, v = .w (.lf q') ∧ IsPortS H' q' xs fp ∧ Fresh H H' fp := by
  obtain ⟨a, rfl, h⟩ := h
  refine Runs.walk ok155 Tryz.func155 rfl (by simp [Tryz.f155]) fun Q hQ => ?_
  simp only [Tryz.f155, strip, stripL, stripI, stripG, chkT, tagsB, tagsL, tagD, addT, tagA, lookN, tagOp, elmT, ty24, ty25, ty26, ty27, ty28, ty39, ty40, ty41, ty42, ty57, ty59, ty62, ty98, Nat.reduceEqDiff, if_false, reduceIte, Option.getD_some, Option.getD_none, dstAt, dstOk, Nat.reduceLT, decide_true, if_true]
  simp [binV]
  cases a with
  | none =>
    have : xs = [] := by
      cases xs with
      | nil => rfl
      | cons x xs => obtain ⟨_, _, _, h0, _⟩ := h 0 _ rfl; cases h0
    subst this
    simp
    refine hQ _ _ _ (by simp) ?_
    simp [Tryz.f155]
    exact ⟨_, ⟨none, rfl, Own.nil _ _⟩, Fresh.refl _⟩
  | some p =>
    simp
    refine stpL_append (rows := []) (ys := xs.map Port.enc) (Own.of (by simp)) (h.app _) rfl rfl rfl (by simp) (by simp; omega) rfl (by simp) fun a'' H'' fp'' ho'' hk'' hf'' => ?_
    simp
    refine hQ _ _ _ (by simp) ?_
    simp [Tryz.f155]
    have ho : IsPortS H'' (.sl a'' xs.length) xs fp'' := ⟨a'', rfl, by simpa using ho''⟩
    have hf : Fresh H H'' fp'' := Fresh.grow (fp := [H.length]) (by simp) hk'' hf''
    obtain ⟨f, h1, h2⟩ := ho.leave (ws := [W.lf (Lf.sl a'' xs.length)]) hf (by simp)
    exact ⟨f, h1, h2⟩

theorem toInS (H : Heap) (a : Option (Nat × Nat)) (xs : List In) (h : Sl H 34 a (xs.map In.enc)) (hn : xs.length ≤ 1048576) :
    run env 35 [.w (.lf (.sl a xs.length))] H = some (.sl H.length 0 xs.length, H ++ [some ⟨50, .wr, xs.map In.enc⟩]) := by
  refine run_walk ok35 Tryz.func35 rfl (by simp [Tryz.f35]) fun Q hQ => ?_
  simp only [Tryz.f35, strip, stripL, stripI, stripG, chkT, tagsB, tagsL, tagD, addT, tagA, lookN, tagOp, elmT, ty24, ty25, ty26, ty27, ty28, ty39, ty40, ty41, ty42, ty57, ty59, ty62, ty98, Nat.reduceEqDiff, if_false, reduceIte, Option.getD_some, Option.getD_none, dstAt, dstOk, Nat.reduceLT, decide_true, if_true]
  have k1 : (xs.length : Int) * 64 ≤ 281474976710656 := by omega
  have k2 : (xs.length : Int) ≤ 9223372036854775807 := by omega
  have k3 : (xs.length : Int) ≤ 281474976710656 := by omega
  simp [builtinV, pureB, lenV, makeSliceV, makeSliceR, newBlk, k1, k2, k3]
  refine wpS_loop (fun j tm H' => ∃ i, i + j = xs.length ∧ tm 0 = .w (.lf (.sl a xs.length)) ∧ tm 3 = .sl H.length 0 xs.length ∧ tm 4 = .int i ∧ H' = H ++ [some ⟨50, .wr, fillR (xs.map In.enc) In.z i j⟩]) xs.length (by rw [env_K]; omega) ⟨0, by simp, by simp, by simp, by simp, by rw [fillR_zero _ _ (by simp)]⟩ ?_
  rintro j tm H' hj ⟨i, hij, h0, h3, h4, rfl⟩ Q' hn' he' hr'
  simp [h0, h3, h4, builtinV, pureB, lenV]
  refine selS_intro (fun hc => ?_) (fun hc => ?_)
  · simp at hc
    obtain ⟨j, rfl⟩ : ∃ j', j = j' + 1 := ⟨j - 1, by omega⟩
    obtain ⟨id, r, b, rfl, hb, hbe, hrow⟩ := h i _ (by simp [hc]; rfl)
    have hid := blkAt_len hb
    have g2 := fillR_get (ys := xs.map In.enc) (z := In.z) (i := i) (j := j) (by simpa using hij)
    have g3 := fillR_set (ys := xs.map In.enc) (z := In.z) (i := i) (j := j) (y := In.enc xs[i]) (by simpa using hij) (by simp [hc])
    have g4 : IntKind.i64.wrap ((i : Int) + 1) = (i : Int) + 1 := wrap64 (by omega) (by omega)
    simp [h0, h3, h4, indexAddrV, elemIs, hid, hb, hbe, hc, hrow, toIn, g2, g3, g4]
    exact hn' j _ _ (by omega) ⟨i + 1, by omega, by simp [h0], by simp [h3], by simp, by simpa using congrArg (fun r => H ++ [some (⟨50, .wr, r⟩ : Blk)]) g3⟩
  · simp at hc
    have hj0 : j = 0 := by omega
    subst hj0
    simp [h0, h3, h4]
    refine he' _ _ _ ?_
    simp [h3]
    refine hQ _ _ _ (by simp) ?_
    simp [Tryz.f35, leave, fillR_done (ys := xs.map In.enc) (i := i) (z := In.z) (by simpa using hij), refFree]

theorem szInS (H : Heap) (a : Option (Nat × Nat)) (n : Nat) (left : Int) (h1 : 0 ≤ left) (h2 : left ≤ 1048576) (h3 : n ≤ maxLen) :
    run env 25 [.w (.lf (.sl a n)), .int left] H = some (.int (if left < n then -1 else left - n), H) := by
  have hm : (n : Int) ≤ 9223372036854775807 := by unfold maxLen at h3; omega
  refine run_walk ok25 Tryz.func25 rfl (by simp [Tryz.f25]) fun Q hQ => ?_
  simp only [Tryz.f25, strip, stripL, stripI, stripG, chkT, tagsB, tagsL, tagD, addT, tagA, lookN, tagOp, elmT, ty24, ty25, ty26, ty27, ty28, ty39, ty40, ty41, ty42, ty57, ty59, ty62, ty98, Nat.reduceEqDiff, if_false, reduceIte, Option.getD_some, Option.getD_none, dstAt, dstOk, Nat.reduceLT, decide_true, if_true]
  have g : IntKind.i64.wrap (left - n) = left - n := wrap64 (by omega) (by omega)
  simp [builtinV, pureB, lenV, g]
  repeat' (first | (refine gdL_t (fun h => ?_) (fun h => ?_) <;> simp [h]) | (refine gdL_f (fun h => ?_) (fun h => ?_) <;> simp [h]) | (refine selS_intro (fun h => ?_) (fun h => ?_) <;> simp [h]))
  all_goals (refine hQ _ _ _ (by simp) ?_)
  all_goals (clear hQ; simp_all [Tryz.f25] <;> omega)

theorem eqInS (H : Heap) (a b : Option (Nat × Nat)) (xs ys : List In) (ha : Sl H 50 a (xs.map In.enc)) (hb : Sl H 50 b (ys.map In.enc)) (hn : xs.length ≤ 1048576) :
    run env 45 [.w (.lf (.sl a xs.length)), .w (.lf (.sl b ys.length))] H = some (.bool (decide (xs = ys)), H) := by
  refine run_walk ok45 Tryz.func45 rfl (by simp [Tryz.f45]) fun Q hQ => ?_
  simp only [Tryz.f45, strip, stripL, stripI, stripG, chkT, tagsB, tagsL, tagD, addT, tagA, lookN, tagOp, elmT, ty24, ty25, ty26, ty27, ty28, ty39, ty40, ty41, ty42, ty57, ty59, ty62, ty98, Nat.reduceEqDiff, if_false, reduceIte, Option.getD_some, Option.getD_none, dstAt, dstOk, Nat.reduceLT, decide_true, if_true]
  simp [builtinV, pureB, lenV]
  refine selS_intro (fun hl => ?_) (fun hl => ?_)
  · simp
    refine hQ _ _ _ (by simp) ?_
    simp at hl
    have : ¬ xs = ys := fun h => hl (by rw [h])
    simp [Tryz.f45, this]
  simp at hl
  simp
  refine wpS_loop (fun j tm H' => ∃ i, i + j = xs.length ∧ tm 0 = .w (.lf (.sl a xs.length)) ∧ tm 1 = .w (.lf (.sl b ys.length)) ∧ tm 5 = .int i ∧ H' = H ∧ xs.take i = ys.take i) xs.length (by rw [env_K]; omega) ⟨0, by simp, by simp, by simp, by simp, rfl, by simp⟩ ?_
  rintro j tm H' hj ⟨i, hij, h0, h1, h5, rfl, heq⟩ Q' hn' he' hr'
  simp [h0, h1, h5, builtinV, pureB, lenV]
  refine selS_intro (fun hc => ?_) (fun hc => ?_)
  · simp at hc
    have hc2 : i < ys.length := by omega
    obtain ⟨id, r, bl, rfl, hbl, hbe, hrow⟩ := ha i _ (by simp [hc]; rfl)
    obtain ⟨id2, r2, bl2, rfl, hbl2, hbe2, hrow2⟩ := hb i _ (by simp [hc2]; rfl)
    have g4 : IntKind.i64.wrap ((i : Int) + 1) = (i : Int) + 1 := wrap64 (by omega) (by omega)
    simp [h0, h1, h5, indexAddrV, elemIs, hbl, hbe, hbl2, hbe2, hc, hc2, hrow, hrow2, eqIn]
    refine selS_intro (fun hd => ?_) (fun hd => ?_)
    · simp
      refine hr' _ _ ?_
      simp
      refine hQ _ _ _ (by simp) ?_
      simp at hd
      have : ¬ xs = ys := fun h => by subst h; simp at hd
      simp [Tryz.f45, this]
    · simp at hd
      simp [h0, h1, h5, g4]
      exact hn' (j - 1) _ _ (by omega) ⟨i + 1, by omega, by simp [h0], by simp [h1], by simp, rfl, by rw [List.take_add_one, List.take_add_one, heq]; simp [hc, hc2, hd]⟩
  · simp at hc
    simp [h0, h1, h5]
    refine he' _ _ _ ?_
    simp
    refine hQ _ _ _ (by simp) ?_
    have : xs = ys := by
      rw [List.take_of_length_le (by omega), List.take_of_length_le (by omega)] at heq
      exact heq
    simp [Tryz.f45, this]

theorem markInS (H : Heap) (a : Option (Nat × Nat)) (xs : List In) (fp : List Nat) (k : Int) (h : Own H 50 a (xs.map In.enc) fp) (hk : 0 ≤ k) (hk2 : k + 8 * xs.length ≤ 4611686018427387904) (hn : xs.length ≤ 1048576) :
    Runs env 50 [.w (.lf (.sl a xs.length)), .int k] H fun v H' => v = .int (k + 8 * xs.length) ∧ Own H' 50 a ((marked In.mk' 8 xs.length k).map In.enc) fp ∧ Keep fp H H' := by
  refine Runs.walk ok50 Tryz.func50 rfl (by simp [Tryz.f50]) fun Q hQ => ?_
  simp only [Tryz.f50, strip, stripL, stripI, stripG, chkT, tagsB, tagsL, tagD, addT, tagA, lookN, tagOp, elmT, ty24, ty25, ty26, ty27, ty28, ty39, ty40, ty41, ty42, ty57, ty59, ty62, ty98, Nat.reduceEqDiff, if_false, reduceIte, Option.getD_some, Option.getD_none, dstAt, dstOk, Nat.reduceLT, decide_true, if_true]
  simp
  refine wpS_loop (fun j tm H' => ∃ i, i + j = xs.length ∧ tm 0 = .w (.lf (.sl a xs.length)) ∧ tm 1 = .int (k + 8 * i) ∧ tm 5 = .int i ∧ Own H' 50 a ((marked In.mk' 8 i k ++ xs.drop i).map In.enc) fp ∧ Keep fp H H') xs.length (by rw [env_K]; omega) ⟨0, by simp, by simp, by simp, by simp, by simpa [marked] using h, Keep.refl _ _⟩ ?_
  rintro j tm H' hj ⟨i, hij, h0, h1, h5, ho, hkp⟩ Q' hn' he' hr'
  simp [h0, h1, h5, builtinV, pureB, lenV]
  refine selS_intro (fun hc => ?_) (fun hc => ?_)
  · simp at hc
    obtain ⟨id, b, rfl, rfl, hb, hbe, hm, hpre⟩ := ho.blk (by simp; omega)
    have hid := blkAt_len hb
    obtain ⟨t, ht⟩ := hpre
    obtain ⟨hi, hrow2⟩ := marked_at In.mk' 8 In.enc xs hc k ht
    have g4 : IntKind.i64.wrap ((i : Int) + 1) = (i : Int) + 1 := wrap64 (by omega) (by omega)
    obtain ⟨c, hcc⟩ : ∃ c, c = k + 8 * (i : Int) := ⟨_, rfl⟩
    rw [← hcc] at h1
    have w : ∀ d : Int, 0 ≤ d → d ≤ 100 → IntKind.i64.wrap (c + d) = c + d := fun d h1 h2 => wrap64 (by omega) (by omega)
    simp [h0, h1, h5, indexAddrV, elemIs, hid, hb, hbe, hm, hc, hi, hrow2, blkAt_set, In.enc, w, Int.add_assoc, g4]
    refine hn' (j - 1) _ _ (by omega) ⟨i + 1, by omega, by simp [h0], by simp [hcc]; omega, by simp, ?_, ?_⟩
    · have := ho.set (row := In.enc (In.mk' c)) hb (i := i) (by simp; omega)
      have e := marked_put In.mk' 8 In.enc xs hc k
      rw [← hcc] at e
      rw [e, hm, hbe] at this
      simpa [In.enc, In.mk'] using this
    · exact hkp.trans (Keep.set _ _) (by simp) (by simp)
  · simp at hc
    obtain rfl : i = xs.length := by omega
    simp [h0, h1, h5]
    refine he' _ _ _ ?_
    simp [h1]
    refine hQ _ _ _ (by simp) ?_
    simp [Tryz.f50]
    exact ⟨leave_own (by simpa using ho) h.lt, leave_keep' hkp⟩

theorem heldInS (H : Heap) (a : Option (Nat × Nat)) (xs : List In) (k : Int) (h : Sl H 50 a (xs.map In.enc)) (hk : 0 ≤ k) (hk2 : k + 8 * xs.length ≤ 4611686018427387904) (hn : xs.length ≤ 1048576) :
    run env 55 [.w (.lf (.sl a xs.length)), .int k] H = some (.int (heldL In.mk' 8 xs k), H) := by
  refine run_walk ok55 Tryz.func55 rfl (by simp [Tryz.f55]) fun Q hQ => ?_
  simp only [Tryz.f55, strip, stripL, stripI, stripG, chkT, tagsB, tagsL, tagD, addT, tagA, lookN, tagOp, elmT, ty24, ty25, ty26, ty27, ty28, ty39, ty40, ty41, ty42, ty57, ty59, ty62, ty98, Nat.reduceEqDiff, if_false, reduceIte, Option.getD_some, Option.getD_none, dstAt, dstOk, Nat.reduceLT, decide_true, if_true]
  simp
  refine wpS_loop (fun j tm H' => ∃ i, i + j = xs.length ∧ tm 0 = .w (.lf (.sl a xs.length)) ∧ tm 1 = .int (k + 8 * i) ∧ tm 5 = .int i ∧ H' = H ∧ xs.take i = marked In.mk' 8 i k) xs.length (by rw [env_K]; omega) ⟨0, by simp, by simp, by simp, by simp, rfl, by simp [marked]⟩ ?_
  rintro j tm H' hj ⟨i, hij, h0, h1, h5, rfl, heq⟩ Q' hn' he' hr'
  simp [h0, h1, h5, builtinV, pureB, lenV]
  refine selS_intro (fun hc => ?_) (fun hc => ?_)
  · simp at hc
    obtain ⟨id, r, b, rfl, hb, hbe, hrow⟩ := h i _ (by simp [hc]; rfl)
    have g4 : IntKind.i64.wrap ((i : Int) + 1) = (i : Int) + 1 := wrap64 (by omega) (by omega)
    obtain ⟨c, hcc⟩ : ∃ c, c = k + 8 * (i : Int) := ⟨_, rfl⟩
    rw [← hcc] at h1
    have w : ∀ d : Int, 0 ≤ d → d ≤ 100 → IntKind.i64.wrap (c + d) = c + d := fun d h1 h2 => wrap64 (by omega) (by omega)
    have fin : xs[i] ≠ In.mk' c → ∀ tm'' : T, tm'' 4 = .int (-1) → Q' .ret tm'' H' := by
      intro hx tm'' ht
      refine hr' _ _ ?_
      simp
      refine hQ _ _ _ (by simp) ?_
      have : heldL In.mk' 8 xs k = -1 := heldL_bad hc (by rw [← hcc]; exact hx)
      simp [Tryz.f55, ht, this]
    simp [h0, h1, h5, indexAddrV, elemIs, hb, hbe, hc, hrow, In.enc, w, Int.add_assoc, g4]
    refine selS_intro (fun hd => ?_) (fun hd => ?_)
    · simp
      exact fin (fun he => by rw [he] at hd; simp [In.mk'] at hd) _ (by simp)
    have hd0 : xs[i].kind = c := by simpa using hd
    simp [h0, h1, h5, indexAddrV, elemIs, hb, hbe, hc, hrow, In.enc, w, Int.add_assoc, g4]
    refine selS_intro (fun hd => ?_) (fun hd => ?_)
    · simp
      exact fin (fun he => by rw [he] at hd; simp [In.mk'] at hd) _ (by simp)
    have hd1 : xs[i].port = c + 1 := by simpa using hd
    simp [h0, h1, h5, indexAddrV, elemIs, hb, hbe, hc, hrow, In.enc, w, Int.add_assoc, g4]
    refine selS_intro (fun hd => ?_) (fun hd => ?_)
    · simp
      exact fin (fun he => by rw [he] at hd; simp [In.mk'] at hd) _ (by simp)
    have hd2 : xs[i].vec.root = c + 2 := by simpa using hd
    simp [h0, h1, h5, indexAddrV, elemIs, hb, hbe, hc, hrow, In.enc, w, Int.add_assoc, g4]
    refine selS_intro (fun hd => ?_) (fun hd => ?_)
    · simp
      exact fin (fun he => by rw [he] at hd; simp [In.mk'] at hd) _ (by simp)
    have hd3 : xs[i].vec.cost = c + 3 := by simpa using hd
    simp [h0, h1, h5, indexAddrV, elemIs, hb, hbe, hc, hrow, In.enc, w, Int.add_assoc, g4]
    refine selS_intro (fun hd => ?_) (fun hd => ?_)
    · simp
      exact fin (fun he => by rw [he] at hd; simp [In.mk'] at hd) _ (by simp)
    have hd4 : xs[i].vec.bridge = c + 4 := by simpa using hd
    simp [h0, h1, h5, indexAddrV, elemIs, hb, hbe, hc, hrow, In.enc, w, Int.add_assoc, g4]
    refine selS_intro (fun hd => ?_) (fun hd => ?_)
    · simp
      exact fin (fun he => by rw [he] at hd; simp [In.mk'] at hd) _ (by simp)
    have hd5 : xs[i].vec.port = c + 5 := by simpa using hd
    simp [h0, h1, h5, indexAddrV, elemIs, hb, hbe, hc, hrow, In.enc, w, Int.add_assoc, g4]
    refine selS_intro (fun hd => ?_) (fun hd => ?_)
    · simp
      exact fin (fun he => by rw [he] at hd; simp [In.mk'] at hd) _ (by simp)
    have hd6 : xs[i].hops = c + 6 := by simpa using hd
    simp [h0, h1, h5, indexAddrV, elemIs, hb, hbe, hc, hrow, In.enc, w, Int.add_assoc, g4]
    refine selS_intro (fun hd => ?_) (fun hd => ?_)
    · simp
      exact fin (fun he => by rw [he] at hd; simp [In.mk'] at hd) _ (by simp)
    have hd7 : xs[i].up = decide ((c + 7).tmod 3 = 0) := by simpa using hd
    simp [h0, h1, h5, indexAddrV, elemIs, hb, hbe, hc, hrow, In.enc, w, Int.add_assoc, g4]
    refine hn' (j - 1) _ _ (by omega) ⟨i + 1, by omega, by simp [h0], by simp [hcc]; omega, by simp, rfl, heldL_step hc ?_ heq⟩
    rw [← hcc]
    exact In.mk'_of hd0 hd1 hd2 hd3 hd4 hd5 hd6 hd7
  · simp at hc
    obtain rfl : i = xs.length := by omega
    simp [h0, h1, h5]
    refine he' _ _ _ ?_
    simp [h1]
    refine hQ _ _ _ (by simp) ?_
    rw [List.take_of_length_le (Nat.le_refl _)] at heq
    have : heldL In.mk' 8 xs k = k + 8 * xs.length := by rw [heldL, if_pos heq]
    simp [Tryz.f55, this]

abbrev IsInS := IsSl 50 In.enc
abbrev RdInS := RdSl 50 In.enc
abbrev RdLInS := RdSl 34 In.enc
def InS.mk' (xs : List In) (k : Int) : List In := marked In.mk' 8 xs.length k
def InS.mkN (xs : List In) (k : Int) : Int := k + 8 * xs.length
def InS.hd (xs : List In) (k : Int) : Int := heldL In.mk' 8 xs k
theorem InS.hd_mk (xs : List In) (k : Int) : InS.hd (InS.mk' xs k) k = InS.mkN xs k := by simp [InS.hd, InS.mk', InS.mkN]
theorem InS.mk_sz (xs : List In) (k : Int) : (InS.mk' xs k).length = xs.length := by simp [InS.mk']
theorem InS.mkN_le {xs : List In} {k : Int} (h : xs.length ≤ 1048576) : k ≤ InS.mkN xs k ∧ InS.mkN xs k ≤ k + 1000000000 := by unfold InS.mkN; omega

theorem shpInS_is {H : Heap} {k : Nat} {l : List Lf} (h : Shp Tryz.prog H (k + 4) 27 l) : ∃ (q : Lf) (xs : List In), l = [q] ∧ RdLInS H q xs ∧ xs.length ≤ maxLen := by
  obtain ⟨xs, a, rfl, hs, hl, -⟩ := h.sl (f := In.enc) (R := fun _ => True) Tryz.underlying27 fun row hr => let ⟨x, hx⟩ := shpIn hr; ⟨x, hx, trivial⟩
  exact ⟨_, xs, rfl, ⟨a, rfl, hs⟩, hl⟩

theorem toInS_is {H : Heap} {q : Lf} {xs : List In} (h : RdLInS H q xs) (hn : xs.length ≤ 1048576) : Runs env 35 [.w (.lf q)] H fun v H' => ∃ q' fp, v = .w (.lf q') ∧ IsInS H' q' xs fp ∧ Fresh H H' fp := by
  obtain ⟨a, rfl, h⟩ := h
  exact .of (toInS H a xs h hn) ⟨_, _, rfl, ⟨_, rfl, Own.of (by simp)⟩, Fresh.app _ _ (by simp)⟩

theorem eqInS_is {H : Heap} {q r : Lf} {xs ys : List In} (h : RdInS H q xs) (h2 : RdInS H r ys) (hn : xs.length ≤ 1048576) : run env 45 [.w (.lf q), .w (.lf r)] H = some (.bool (decide (xs = ys)), H) := by
  obtain ⟨a, rfl, h⟩ := h
  obtain ⟨b, rfl, h2⟩ := h2
  exact eqInS H a b xs ys h h2 hn

theorem cloneInS {H : Heap} {q : Lf} {xs : List In} (h : RdInS H q xs) (hn : xs.length ≤ 1048576) : Runs env 89 [.w (.lf q)] H fun v H' => ∃ q' fp, v = .w (.lf q') ∧ IsInS H' q' xs fp ∧ Fresh H H' fp := by
  obtain ⟨a, rfl, h⟩ := h
  refine Runs.walk ok89 Tryz.func89 rfl (by simp [Tryz.f89]) fun Q hQ => ?_
  simp only [Tryz.f89, strip, stripL, stripI, stripG, chkT, tagsB, tagsL, tagD, addT, tagA, lookN, tagOp, elmT, ty24, ty25, ty26, ty27, ty28, ty39, ty40, ty41, ty42, ty57, ty59, ty62, ty98, Nat.reduceEqDiff, if_false, reduceIte, Option.getD_some, Option.getD_none, dstAt, dstOk, Nat.reduceLT, decide_true, if_true]
  simp [binV]
  cases a with
  | none =>
    have : xs = [] := by
      cases xs with
      | nil => rfl
      | cons x xs => obtain ⟨_, _, _, h0, _⟩ := h 0 _ rfl; cases h0
    subst this
    simp
    refine hQ _ _ _ (by simp) ?_
    simp [Tryz.f89]
    exact ⟨_, ⟨none, rfl, Own.nil _ _⟩, Fresh.refl _⟩
  | some p =>
    simp
    refine stpL_append (rows := []) (ys := xs.map In.enc) (Own.of (by simp)) (h.app _) rfl rfl rfl (by simp) (by simp; omega) rfl (by simp) fun a'' H'' fp'' ho'' hk'' hf'' => ?_
    simp
    refine hQ _ _ _ (by simp) ?_
    simp [Tryz.f89]
    have ho : IsInS H'' (.sl a'' xs.length) xs fp'' := ⟨a'', rfl, by simpa using ho''⟩
    have hf : Fresh H H'' fp'' := Fresh.grow (fp := [H.length]) (by simp) hk'' hf''
    obtain ⟨f, h1, h2⟩ := ho.leave (ws := [W.lf (Lf.sl a'' xs.length)]) hf (by simp)
    exact ⟨f, h1, h2⟩

theorem markInS_is {H : Heap} {q : Lf} {xs : List In} {fp : List Nat} {k : Int} (h : IsInS H q xs fp) (hk : 0 ≤ k) (hk2 : k ≤ 2305843009213693952) (hn : xs.length ≤ 1048576) :
    Runs env 50 [.w (.lf q), .int k] H fun v H' => v = .int (InS.mkN xs k) ∧ IsInS H' q (InS.mk' xs k) fp ∧ Keep fp H H' := by
  obtain ⟨a, rfl, h⟩ := h
  exact (markInS H a xs fp k h hk (by omega) hn).mono fun v H' ⟨h1, h2, h3⟩ => ⟨h1, ⟨a, by simp [InS.mk'], h2⟩, h3⟩

theorem heldInS_is {H : Heap} {q : Lf} {xs : List In} {k : Int} (h : RdInS H q xs) (hk : 0 ≤ k) (hk2 : k ≤ 2305843009213693952) (hn : xs.length ≤ 1048576) :
    run env 55 [.w (.lf q), .int k] H = some (.int (InS.hd xs k), H) := by
  obtain ⟨a, rfl, h⟩ := h
  exact heldInS H a xs k h hk (by omega) hn

theorem toOutS (H : Heap) (a : Option (Nat × Nat)) (xs : List Out) (h : Sl H 121 a (xs.map Out.enc)) (hn : xs.length ≤ 1048576) :
    run env 36 [.w (.lf (.sl a xs.length))] H = some (.sl H.length 0 xs.length, H ++ [some ⟨118, .wr, xs.map Out.enc⟩]) := by
  refine run_walk ok36 Tryz.func36 rfl (by simp [Tryz.f36]) fun Q hQ => ?_
  simp only [Tryz.f36, strip, stripL, stripI, stripG, chkT, tagsB, tagsL, tagD, addT, tagA, lookN, tagOp, elmT, ty24, ty25, ty26, ty27, ty28, ty39, ty40, ty41, ty42, ty57, ty59, ty62, ty98, Nat.reduceEqDiff, if_false, reduceIte, Option.getD_some, Option.getD_none, dstAt, dstOk, Nat.reduceLT, decide_true, if_true]
  have k1 : (xs.length : Int) * 64 ≤ 281474976710656 := by omega
  have k2 : (xs.length : Int) ≤ 9223372036854775807 := by omega
  have k3 : (xs.length : Int) ≤ 281474976710656 := by omega
  simp [builtinV, pureB, lenV, makeSliceV, makeSliceR, newBlk, k1, k2, k3]
  refine wpS_loop (fun j tm H' => ∃ i, i + j = xs.length ∧ tm 0 = .w (.lf (.sl a xs.length)) ∧ tm 3 = .sl H.length 0 xs.length ∧ tm 4 = .int i ∧ H' = H ++ [some ⟨118, .wr, fillR (xs.map Out.enc) Out.z i j⟩]) xs.length (by rw [env_K]; omega) ⟨0, by simp, by simp, by simp, by simp, by rw [fillR_zero _ _ (by simp)]⟩ ?_
  rintro j tm H' hj ⟨i, hij, h0, h3, h4, rfl⟩ Q' hn' he' hr'
  simp [h0, h3, h4, builtinV, pureB, lenV]
  refine selS_intro (fun hc => ?_) (fun hc => ?_)
  · simp at hc
    obtain ⟨j, rfl⟩ : ∃ j', j = j' + 1 := ⟨j - 1, by omega⟩
    obtain ⟨id, r, b, rfl, hb, hbe, hrow⟩ := h i _ (by simp [hc]; rfl)
    have hid := blkAt_len hb
    have g2 := fillR_get (ys := xs.map Out.enc) (z := Out.z) (i := i) (j := j) (by simpa using hij)
    have g3 := fillR_set (ys := xs.map Out.enc) (z := Out.z) (i := i) (j := j) (y := Out.enc xs[i]) (by simpa using hij) (by simp [hc])
    have g4 : IntKind.i64.wrap ((i : Int) + 1) = (i : Int) + 1 := wrap64 (by omega) (by omega)
    simp [h0, h3, h4, indexAddrV, elemIs, hid, hb, hbe, hc, hrow, toOut, g2, g3, g4]
    exact hn' j _ _ (by omega) ⟨i + 1, by omega, by simp [h0], by simp [h3], by simp, by simpa using congrArg (fun r => H ++ [some (⟨118, .wr, r⟩ : Blk)]) g3⟩
  · simp at hc
    have hj0 : j = 0 := by omega
    subst hj0
    simp [h0, h3, h4]
    refine he' _ _ _ ?_
    simp [h3]
    refine hQ _ _ _ (by simp) ?_
    simp [Tryz.f36, leave, fillR_done (ys := xs.map Out.enc) (i := i) (z := Out.z) (by simpa using hij), refFree]

theorem szOutS (H : Heap) (a : Option (Nat × Nat)) (n : Nat) (left : Int) (h1 : 0 ≤ left) (h2 : left ≤ 1048576) (h3 : n ≤ maxLen) :
    run env 26 [.w (.lf (.sl a n)), .int left] H = some (.int (if left < n then -1 else left - n), H) := by
  have hm : (n : Int) ≤ 9223372036854775807 := by unfold maxLen at h3; omega
  refine run_walk ok26 Tryz.func26 rfl (by simp [Tryz.f26]) fun Q hQ => ?_
  simp only [Tryz.f26, strip, stripL, stripI, stripG, chkT, tagsB, tagsL, tagD, addT, tagA, lookN, tagOp, elmT, ty24, ty25, ty26, ty27, ty28, ty39, ty40, ty41, ty42, ty57, ty59, ty62, ty98, Nat.reduceEqDiff, if_false, reduceIte, Option.getD_some, Option.getD_none, dstAt, dstOk, Nat.reduceLT, decide_true, if_true]
  have g : IntKind.i64.wrap (left - n) = left - n := wrap64 (by omega) (by omega)
  simp [builtinV, pureB, lenV, g]
  repeat' (first | (refine gdL_t (fun h => ?_) (fun h => ?_) <;> simp [h]) | (refine gdL_f (fun h => ?_) (fun h => ?_) <;> simp [h]) | (refine selS_intro (fun h => ?_) (fun h => ?_) <;> simp [h]))
  all_goals (refine hQ _ _ _ (by simp) ?_)
  all_goals (clear hQ; simp_all [Tryz.f26] <;> omega)

theorem eqOutS (H : Heap) (a b : Option (Nat × Nat)) (xs ys : List Out) (ha : Sl H 118 a (xs.map Out.enc)) (hb : Sl H 118 b (ys.map Out.enc)) (hn : xs.length ≤ 1048576) :
    run env 46 [.w (.lf (.sl a xs.length)), .w (.lf (.sl b ys.length))] H = some (.bool (decide (xs = ys)), H) := by
  refine run_walk ok46 Tryz.func46 rfl (by simp [Tryz.f46]) fun Q hQ => ?_
  simp only [Tryz.f46, strip, stripL, stripI, stripG, chkT, tagsB, tagsL, tagD, addT, tagA, lookN, tagOp, elmT, ty24, ty25, ty26, ty27, ty28, ty39, ty40, ty41, ty42, ty57, ty59, ty62, ty98, Nat.reduceEqDiff, if_false, reduceIte, Option.getD_some, Option.getD_none, dstAt, dstOk, Nat.reduceLT, decide_true, if_true]
  simp [builtinV, pureB, lenV]
  refine selS_intro (fun hl => ?_) (fun hl => ?_)
  · simp
    refine hQ _ _ _ (by simp) ?_
    simp at hl
    have : ¬ xs = ys := fun h => hl (by rw [h])
    simp [Tryz.f46, this]
  simp at hl
  simp
  refine wpS_loop (fun j tm H' => ∃ i, i + j = xs.length ∧ tm 0 = .w (.lf (.sl a xs.length)) ∧ tm 1 = .w (.lf (.sl b ys.length)) ∧ tm 5 = .int i ∧ H' = H ∧ xs.take i = ys.take i) xs.length (by rw [env_K]; omega) ⟨0, by simp, by simp, by simp, by simp, rfl, by simp⟩ ?_
  rintro j tm H' hj ⟨i, hij, h0, h1, h5, rfl, heq⟩ Q' hn' he' hr'
  simp [h0, h1, h5, builtinV, pureB, lenV]
  refine selS_intro (fun hc => ?_) (fun hc => ?_)
  · simp at hc
    have hc2 : i < ys.length := by omega
    obtain ⟨id, r, bl, rfl, hbl, hbe, hrow⟩ := ha i _ (by simp [hc]; rfl)
    obtain ⟨id2, r2, bl2, rfl, hbl2, hbe2, hrow2⟩ := hb i _ (by simp [hc2]; rfl)
    have g4 : IntKind.i64.wrap ((i : Int) + 1) = (i : Int) + 1 := wrap64 (by omega) (by omega)
    simp [h0, h1, h5, indexAddrV, elemIs, hbl, hbe, hbl2, hbe2, hc, hc2, hrow, hrow2, eqOut]
    refine selS_intro (fun hd => ?_) (fun hd => ?_)
    · simp
      refine hr' _ _ ?_
      simp
      refine hQ _ _ _ (by simp) ?_
      simp at hd
      have : ¬ xs = ys := fun h => by subst h; simp at hd
      simp [Tryz.f46, this]
    · simp at hd
      simp [h0, h1, h5, g4]
      exact hn' (j - 1) _ _ (by omega) ⟨i + 1, by omega, by simp [h0], by simp [h1], by simp, rfl, by rw [List.take_add_one, List.take_add_one, heq]; simp [hc, hc2, hd]⟩
  · simp at hc
    simp [h0, h1, h5]
    refine he' _ _ _ ?_
    simp
    refine hQ _ _ _ (by simp) ?_
    have : xs = ys := by
      rw [List.take_of_length_le (by omega), List.take_of_length_le (by omega)] at heq
      exact heq
    simp [Tryz.f46, this]

theorem markOutS (H : Heap) (a : Option (Nat × Nat)) (xs : List Out) (fp : List Nat) (k : Int) (h : Own H 118 a (xs.map Out.enc) fp) (hk : 0 ≤ k) (hk2 : k + 8 * xs.length ≤ 4611686018427387904) (hn : xs.length ≤ 1048576) :
    Runs env 51 [.w (.lf (.sl a xs.length)), .int k] H fun v H' => v = .int (k + 8 * xs.length) ∧ Own H' 118 a ((marked Out.mk' 8 xs.length k).map Out.enc) fp ∧ Keep fp H H' := by
  refine Runs.walk ok51 Tryz.func51 rfl (by simp [Tryz.f51]) fun Q hQ => ?_
  simp only [Tryz.f51, strip, stripL, stripI, stripG, chkT, tagsB, tagsL, tagD, addT, tagA, lookN, tagOp, elmT, ty24, ty25, ty26, ty27, ty28, ty39, ty40, ty41, ty42, ty57, ty59, ty62, ty98, Nat.reduceEqDiff, if_false, reduceIte, Option.getD_some, Option.getD_none, dstAt, dstOk, Nat.reduceLT, decide_true, if_true]
  simp
  refine wpS_loop (fun j tm H' => ∃ i, i + j = xs.length ∧ tm 0 = .w (.lf (.sl a xs.length)) ∧ tm 1 = .int (k + 8 * i) ∧ tm 5 = .int i ∧ Own H' 118 a ((marked Out.mk' 8 i k ++ xs.drop i).map Out.enc) fp ∧ Keep fp H H') xs.length (by rw [env_K]; omega) ⟨0, by simp, by simp, by simp, by simp, by simpa [marked] using h, Keep.refl _ _⟩ ?_
  rintro j tm H' hj ⟨i, hij, h0, h1, h5, ho, hkp⟩ Q' hn' he' hr'
  simp [h0, h1, h5, builtinV, pureB, lenV]
  refine selS_intro (fun hc => ?_) (fun hc => ?_)
  · simp at hc
    obtain ⟨id, b, rfl, rfl, hb, hbe, hm, hpre⟩ := ho.blk (by simp; omega)
    have hid := blkAt_len hb
    obtain ⟨t, ht⟩ := hpre
    obtain ⟨hi, hrow2⟩ := marked_at Out.mk' 8 Out.enc xs hc k ht
    have g4 : IntKind.i64.wrap ((i : Int) + 1) = (i : Int) + 1 := wrap64 (by omega) (by omega)
    obtain ⟨c, hcc⟩ : ∃ c, c = k + 8 * (i : Int) := ⟨_, rfl⟩
    rw [← hcc] at h1
    have w : ∀ d : Int, 0 ≤ d → d ≤ 100 → IntKind.i64.wrap (c + d) = c + d := fun d h1 h2 => wrap64 (by omega) (by omega)
    simp [h0, h1, h5, indexAddrV, elemIs, hid, hb, hbe, hm, hc, hi, hrow2, blkAt_set, Out.enc, w, Int.add_assoc, g4]
    refine hn' (j - 1) _ _ (by omega) ⟨i + 1, by omega, by simp [h0], by simp [hcc]; omega, by simp, ?_, ?_⟩
    · have := ho.set (row := Out.enc (Out.mk' c)) hb (i := i) (by simp; omega)
      have e := marked_put Out.mk' 8 Out.enc xs hc k
      rw [← hcc] at e
      rw [e, hm, hbe] at this
      simpa [Out.enc, Out.mk'] using this
    · exact hkp.trans (Keep.set _ _) (by simp) (by simp)
  · simp at hc
    obtain rfl : i = xs.length := by omega
    simp [h0, h1, h5]
    refine he' _ _ _ ?_
    simp [h1]
    refine hQ _ _ _ (by simp) ?_
    simp [Tryz.f51]
    exact ⟨leave_own (by simpa using ho) h.lt, leave_keep' hkp⟩

theorem heldOutS (H : Heap) (a : Option (Nat × Nat)) (xs : List Out) (k : Int) (h : Sl H 118 a (xs.map Out.enc)) (hk : 0 ≤ k) (hk2 : k + 8 * xs.length ≤ 4611686018427387904) (hn : xs.length ≤ 1048576) :
    run env 56 [.w (.lf (.sl a xs.length)), .int k] H = some (.int (heldL Out.mk' 8 xs k), H) := by
  refine run_walk ok56 Tryz.func56 rfl (by simp [Tryz.f56]) fun Q hQ => ?_
  simp only [Tryz.f56, strip, stripL, stripI, stripG, chkT, tagsB, tagsL, tagD, addT, tagA, lookN, tagOp, elmT, ty24, ty25, ty26, ty27, ty28, ty39, ty40, ty41, ty42, ty57, ty59, ty62, ty98, Nat.reduceEqDiff, if_false, reduceIte, Option.getD_some, Option.getD_none, dstAt, dstOk, Nat.reduceLT, decide_true, if_true]
  simp
  refine wpS_loop (fun j tm H' => ∃ i, i + j = xs.length ∧ tm 0 = .w (.lf (.sl a xs.length)) ∧ tm 1 = .int (k + 8 * i) ∧ tm 5 = .int i ∧ H' = H ∧ xs.take i = marked Out.mk' 8 i k) xs.length (by rw [env_K]; omega) ⟨0, by simp, by simp, by simp, by simp, rfl, by simp [marked]⟩ ?_
  rintro j tm H' hj ⟨i, hij, h0, h1, h5, rfl, heq⟩ Q' hn' he' hr'
  simp [h0, h1, h5, builtinV, pureB, lenV]
  refine selS_intro (fun hc => ?_) (fun hc => ?_)
  · simp at hc
    obtain ⟨id, r, b, rfl, hb, hbe, hrow⟩ := h i _ (by simp [hc]; rfl)
    have g4 : IntKind.i64.wrap ((i : Int) + 1) = (i : Int) + 1 := wrap64 (by omega) (by omega)
    obtain ⟨c, hcc⟩ : ∃ c, c = k + 8 * (i : Int) := ⟨_, rfl⟩
    rw [← hcc] at h1
    have w : ∀ d : Int, 0 ≤ d → d ≤ 100 → IntKind.i64.wrap (c + d) = c + d := fun d h1 h2 => wrap64 (by omega) (by omega)
    have fin : xs[i] ≠ Out.mk' c → ∀ tm'' : T, tm'' 4 = .int (-1) → Q' .ret tm'' H' := by
      intro hx tm'' ht
      refine hr' _ _ ?_
      simp
      refine hQ _ _ _ (by simp) ?_
      have : heldL Out.mk' 8 xs k = -1 := heldL_bad hc (by rw [← hcc]; exact hx)
      simp [Tryz.f56, ht, this]
    simp [h0, h1, h5, indexAddrV, elemIs, hb, hbe, hc, hrow, Out.enc, w, Int.add_assoc, g4]
    refine selS_intro (fun hd => ?_) (fun hd => ?_)
    · simp
      exact fin (fun he => by rw [he] at hd; simp [Out.mk'] at hd) _ (by simp)
    have hd0 : xs[i].kind = c := by simpa using hd
    simp [h0, h1, h5, indexAddrV, elemIs, hb, hbe, hc, hrow, Out.enc, w, Int.add_assoc, g4]
    refine selS_intro (fun hd => ?_) (fun hd => ?_)
    · simp
      exact fin (fun he => by rw [he] at hd; simp [Out.mk'] at hd) _ (by simp)
    have hd1 : xs[i].port = c + 1 := by simpa using hd
    simp [h0, h1, h5, indexAddrV, elemIs, hb, hbe, hc, hrow, Out.enc, w, Int.add_assoc, g4]
    refine selS_intro (fun hd => ?_) (fun hd => ?_)
    · simp
      exact fin (fun he => by rw [he] at hd; simp [Out.mk'] at hd) _ (by simp)
    have hd2 : xs[i].vec.root = c + 2 := by simpa using hd
    simp [h0, h1, h5, indexAddrV, elemIs, hb, hbe, hc, hrow, Out.enc, w, Int.add_assoc, g4]
    refine selS_intro (fun hd => ?_) (fun hd => ?_)
    · simp
      exact fin (fun he => by rw [he] at hd; simp [Out.mk'] at hd) _ (by simp)
    have hd3 : xs[i].vec.cost = c + 3 := by simpa using hd
    simp [h0, h1, h5, indexAddrV, elemIs, hb, hbe, hc, hrow, Out.enc, w, Int.add_assoc, g4]
    refine selS_intro (fun hd => ?_) (fun hd => ?_)
    · simp
      exact fin (fun he => by rw [he] at hd; simp [Out.mk'] at hd) _ (by simp)
    have hd4 : xs[i].vec.bridge = c + 4 := by simpa using hd
    simp [h0, h1, h5, indexAddrV, elemIs, hb, hbe, hc, hrow, Out.enc, w, Int.add_assoc, g4]
    refine selS_intro (fun hd => ?_) (fun hd => ?_)
    · simp
      exact fin (fun he => by rw [he] at hd; simp [Out.mk'] at hd) _ (by simp)
    have hd5 : xs[i].vec.port = c + 5 := by simpa using hd
    simp [h0, h1, h5, indexAddrV, elemIs, hb, hbe, hc, hrow, Out.enc, w, Int.add_assoc, g4]
    refine selS_intro (fun hd => ?_) (fun hd => ?_)
    · simp
      exact fin (fun he => by rw [he] at hd; simp [Out.mk'] at hd) _ (by simp)
    have hd6 : xs[i].hops = c + 6 := by simpa using hd
    simp [h0, h1, h5, indexAddrV, elemIs, hb, hbe, hc, hrow, Out.enc, w, Int.add_assoc, g4]
    refine selS_intro (fun hd => ?_) (fun hd => ?_)
    · simp
      exact fin (fun he => by rw [he] at hd; simp [Out.mk'] at hd) _ (by simp)
    have hd7 : xs[i].on = decide ((c + 7).tmod 3 = 0) := by simpa using hd
    simp [h0, h1, h5, indexAddrV, elemIs, hb, hbe, hc, hrow, Out.enc, w, Int.add_assoc, g4]
    refine hn' (j - 1) _ _ (by omega) ⟨i + 1, by omega, by simp [h0], by simp [hcc]; omega, by simp, rfl, heldL_step hc ?_ heq⟩
    rw [← hcc]
    exact Out.mk'_of hd0 hd1 hd2 hd3 hd4 hd5 hd6 hd7
  · simp at hc
    obtain rfl : i = xs.length := by omega
    simp [h0, h1, h5]
    refine he' _ _ _ ?_
    simp [h1]
    refine hQ _ _ _ (by simp) ?_
    rw [List.take_of_length_le (Nat.le_refl _)] at heq
    have : heldL Out.mk' 8 xs k = k + 8 * xs.length := by rw [heldL, if_pos heq]
    simp [Tryz.f56, this]

abbrev IsOutS := IsSl 118 Out.enc
abbrev RdOutS := RdSl 118 Out.enc
abbrev RdLOutS := RdSl 121 Out.enc
def OutS.mk' (xs : List Out) (k : Int) : List Out := marked Out.mk' 8 xs.length k
def OutS.mkN (xs : List Out) (k : Int) : Int := k + 8 * xs.length
def OutS.hd (xs : List Out) (k : Int) : Int := heldL Out.mk' 8 xs k
theorem OutS.hd_mk (xs : List Out) (k : Int) : OutS.hd (OutS.mk' xs k) k = OutS.mkN xs k := by simp [OutS.hd, OutS.mk', OutS.mkN]
theorem OutS.mk_sz (xs : List Out) (k : Int) : (OutS.mk' xs k).length = xs.length := by simp [OutS.mk']
theorem OutS.mkN_le {xs : List Out} {k : Int} (h : xs.length ≤ 1048576) : k ≤ OutS.mkN xs k ∧ OutS.mkN xs k ≤ k + 1000000000 := by unfold OutS.mkN; omega

theorem shpOutS_is {H : Heap} {k : Nat} {l : List Lf} (h : Shp Tryz.prog H (k + 4) 28 l) : ∃ (q : Lf) (xs : List Out), l = [q] ∧ RdLOutS H q xs ∧ xs.length ≤ maxLen := by
  obtain ⟨xs, a, rfl, hs, hl, -⟩ := h.sl (f := Out.enc) (R := fun _ => True) Tryz.underlying28 fun row hr => let ⟨x, hx⟩ := shpOut hr; ⟨x, hx, trivial⟩
  exact ⟨_, xs, rfl, ⟨a, rfl, hs⟩, hl⟩

theorem toOutS_is {H : Heap} {q : Lf} {xs : List Out} (h : RdLOutS H q xs) (hn : xs.length ≤ 1048576) : Runs env 36 [.w (.lf q)] H fun v H' => ∃ q' fp, v = .w (.lf q') ∧ IsOutS H' q' xs fp ∧ Fresh H H' fp := by
  obtain ⟨a, rfl, h⟩ := h
  exact .of (toOutS H a xs h hn) ⟨_, _, rfl, ⟨_, rfl, Own.of (by simp)⟩, Fresh.app _ _ (by simp)⟩

theorem eqOutS_is {H : Heap} {q r : Lf} {xs ys : List Out} (h : RdOutS H q xs) (h2 : RdOutS H r ys) (hn : xs.length ≤ 1048576) : run env 46 [.w (.lf q), .w (.lf r)] H = some (.bool (decide (xs = ys)), H) := by
  obtain ⟨a, rfl, h⟩ := h
  obtain ⟨b, rfl, h2⟩ := h2
  exact eqOutS H a b xs ys h h2 hn

theorem cloneOutS {H : Heap} {q : Lf} {xs : List Out} (h : RdOutS H q xs) (hn : xs.length ≤ 1048576) : Runs env 90 [.w (.lf q)] H fun v H' => ∃ q' fp, v = .w (.lf q') ∧ IsOutS H' q' xs fp ∧ Fresh H H' fp := by
  obtain ⟨a, rfl, h⟩ := h
  refine Runs.walk ok90 Tryz.func90 rfl (by simp [Tryz.f90]) fun Q hQ => ?_
  simp only [Tryz.f90, strip, stripL, stripI, stripG, chkT, tagsB, tagsL, tagD, addT, tagA, lookN, tagOp, elmT, ty24, ty25, ty26, ty27, ty28, ty39, ty40, ty41, ty42, ty57, ty59, ty62, ty98, Nat.reduceEqDiff, if_false, reduceIte, Option.getD_some, Option.getD_none, dstAt, dstOk, Nat.reduceLT, decide_true, if_true]
  simp [binV]
  cases a with
  | none =>
    have : xs = [] := by
      cases xs with
      | nil => rfl
      | cons x xs => obtain ⟨_, _, _, h0, _⟩ := h 0 _ rfl; cases h0
    subst this
    simp
    refine hQ _ _ _ (by simp) ?_
    simp [Tryz.f90]
    exact ⟨_, ⟨none, rfl, Own.nil _ _⟩, Fresh.refl _⟩
  | some p =>
    simp
    refine stpL_append (rows := []) (ys := xs.map Out.enc) (Own.of (by simp)) (h.app _) rfl rfl rfl (by simp) (by simp; omega) rfl (by simp) fun a'' H'' fp'' ho'' hk'' hf'' => ?_
    simp
    refine hQ _ _ _ (by simp) ?_
    simp [Tryz.f90]
    have ho : IsOutS H'' (.sl a'' xs.length) xs fp'' := ⟨a'', rfl, by simpa using ho''⟩
    have hf : Fresh H H'' fp'' := Fresh.grow (fp := [H.length]) (by simp) hk'' hf''
    obtain ⟨f, h1, h2⟩ := ho.leave (ws := [W.lf (Lf.sl a'' xs.length)]) hf (by simp)
    exact ⟨f, h1, h2⟩

theorem markOutS_is {H : Heap} {q : Lf} {xs : List Out} {fp : List Nat} {k : Int} (h : IsOutS H q xs fp) (hk : 0 ≤ k) (hk2 : k ≤ 2305843009213693952) (hn : xs.length ≤ 1048576) :
    Runs env 51 [.w (.lf q), .int k] H fun v H' => v = .int (OutS.mkN xs k) ∧ IsOutS H' q (OutS.mk' xs k) fp ∧ Keep fp H H' := by
  obtain ⟨a, rfl, h⟩ := h
  exact (markOutS H a xs fp k h hk (by omega) hn).mono fun v H' ⟨h1, h2, h3⟩ => ⟨h1, ⟨a, by simp [OutS.mk'], h2⟩, h3⟩

theorem heldOutS_is {H : Heap} {q : Lf} {xs : List Out} {k : Int} (h : RdOutS H q xs) (hk : 0 ≤ k) (hk2 : k ≤ 2305843009213693952) (hn : xs.length ≤ 1048576) :
    run env 56 [.w (.lf q), .int k] H = some (.int (OutS.hd xs k), H) := by
  obtain ⟨a, rfl, h⟩ := h
  exact heldOutS H a xs k h hk (by omega) hn

theorem toWireS (H : Heap) (a : Option (Nat × Nat)) (xs : List Wire) (h : Sl H 116 a (xs.map Wire.enc)) (hn : xs.length ≤ 1048576) :
    run env 33 [.w (.lf (.sl a xs.length))] H = some (.sl H.length 0 xs.length, H ++ [some ⟨113, .wr, xs.map Wire.enc⟩]) := by
  refine run_walk ok33 Tryz.func33 rfl (by simp [Tryz.f33]) fun Q hQ => ?_
  simp only [Tryz.f33, strip, stripL, stripI, stripG, chkT, tagsB, tagsL, tagD, addT, tagA, lookN, tagOp, elmT, ty24, ty25, ty26, ty27, ty28, ty39, ty40, ty41, ty42, ty57, ty59, ty62, ty98, Nat.reduceEqDiff, if_false, reduceIte, Option.getD_some, Option.getD_none, dstAt, dstOk, Nat.reduceLT, decide_true, if_true]
  have k1 : (xs.length : Int) * 96 ≤ 281474976710656 := by omega
  have k2 : (xs.length : Int) ≤ 9223372036854775807 := by omega
  have k3 : (xs.length : Int) ≤ 281474976710656 := by omega
  simp [builtinV, pureB, lenV, makeSliceV, makeSliceR, newBlk, k1, k2, k3]
  refine wpS_loop (fun j tm H' => ∃ i, i + j = xs.length ∧ tm 0 = .w (.lf (.sl a xs.length)) ∧ tm 3 = .sl H.length 0 xs.length ∧ tm 4 = .int i ∧ H' = H ++ [some ⟨113, .wr, fillR (xs.map Wire.enc) Wire.z i j⟩]) xs.length (by rw [env_K]; omega) ⟨0, by simp, by simp, by simp, by simp, by rw [fillR_zero _ _ (by simp)]⟩ ?_
  rintro j tm H' hj ⟨i, hij, h0, h3, h4, rfl⟩ Q' hn' he' hr'
  simp [h0, h3, h4, builtinV, pureB, lenV]
  refine selS_intro (fun hc => ?_) (fun hc => ?_)
  · simp at hc
    obtain ⟨j, rfl⟩ : ∃ j', j = j' + 1 := ⟨j - 1, by omega⟩
    obtain ⟨id, r, b, rfl, hb, hbe, hrow⟩ := h i _ (by simp [hc]; rfl)
    have hid := blkAt_len hb
    have g2 := fillR_get (ys := xs.map Wire.enc) (z := Wire.z) (i := i) (j := j) (by simpa using hij)
    have g3 := fillR_set (ys := xs.map Wire.enc) (z := Wire.z) (i := i) (j := j) (y := Wire.enc xs[i]) (by simpa using hij) (by simp [hc])
    have g4 : IntKind.i64.wrap ((i : Int) + 1) = (i : Int) + 1 := wrap64 (by omega) (by omega)
    simp [h0, h3, h4, indexAddrV, elemIs, hid, hb, hbe, hc, hrow, toWire, g2, g3, g4]
    exact hn' j _ _ (by omega) ⟨i + 1, by omega, by simp [h0], by simp [h3], by simp, by simpa using congrArg (fun r => H ++ [some (⟨113, .wr, r⟩ : Blk)]) g3⟩
  · simp at hc
    have hj0 : j = 0 := by omega
    subst hj0
    simp [h0, h3, h4]
    refine he' _ _ _ ?_
    simp [h3]
    refine hQ _ _ _ (by simp) ?_
    simp [Tryz.f33, leave, fillR_done (ys := xs.map Wire.enc) (i := i) (z := Wire.z) (by simpa using hij), refFree]

theorem szWireS (H : Heap) (a : Option (Nat × Nat)) (n : Nat) (left : Int) (h1 : 0 ≤ left) (h2 : left ≤ 1048576) (h3 : n ≤ maxLen) :
    run env 23 [.w (.lf (.sl a n)), .int left] H = some (.int (if left < n then -1 else left - n), H) := by
  have hm : (n : Int) ≤ 9223372036854775807 := by unfold maxLen at h3; omega
  refine run_walk ok23 Tryz.func23 rfl (by simp [Tryz.f23]) fun Q hQ => ?_
  simp only [Tryz.f23, strip, stripL, stripI, stripG, chkT, tagsB, tagsL, tagD, addT, tagA, lookN, tagOp, elmT, ty24, ty25, ty26, ty27, ty28, ty39, ty40, ty41, ty42, ty57, ty59, ty62, ty98, Nat.reduceEqDiff, if_false, reduceIte, Option.getD_some, Option.getD_none, dstAt, dstOk, Nat.reduceLT, decide_true, if_true]
  have g : IntKind.i64.wrap (left - n) = left - n := wrap64 (by omega) (by omega)
  simp [builtinV, pureB, lenV, g]
  repeat' (first | (refine gdL_t (fun h => ?_) (fun h => ?_) <;> simp [h]) | (refine gdL_f (fun h => ?_) (fun h => ?_) <;> simp [h]) | (refine selS_intro (fun h => ?_) (fun h => ?_) <;> simp [h]))
  all_goals (refine hQ _ _ _ (by simp) ?_)
  all_goals (clear hQ; simp_all [Tryz.f23] <;> omega)

theorem eqWireS (H : Heap) (a b : Option (Nat × Nat)) (xs ys : List Wire) (ha : Sl H 113 a (xs.map Wire.enc)) (hb : Sl H 113 b (ys.map Wire.enc)) (hn : xs.length ≤ 1048576) :
    run env 43 [.w (.lf (.sl a xs.length)), .w (.lf (.sl b ys.length))] H = some (.bool (decide (xs = ys)), H) := by
  refine run_walk ok43 Tryz.func43 rfl (by simp [Tryz.f43]) fun Q hQ => ?_
  simp only [Tryz.f43, strip, stripL, stripI, stripG, chkT, tagsB, tagsL, tagD, addT, tagA, lookN, tagOp, elmT, ty24, ty25, ty26, ty27, ty28, ty39, ty40, ty41, ty42, ty57, ty59, ty62, ty98, Nat.reduceEqDiff, if_false, reduceIte, Option.getD_some, Option.getD_none, dstAt, dstOk, Nat.reduceLT, decide_true, if_true]
  simp [builtinV, pureB, lenV]
  refine selS_intro (fun hl => ?_) (fun hl => ?_)
  · simp
    refine hQ _ _ _ (by simp) ?_
    simp at hl
    have : ¬ xs = ys := fun h => hl (by rw [h])
    simp [Tryz.f43, this]
  simp at hl
  simp
  refine wpS_loop (fun j tm H' => ∃ i, i + j = xs.length ∧ tm 0 = .w (.lf (.sl a xs.length)) ∧ tm 1 = .w (.lf (.sl b ys.length)) ∧ tm 5 = .int i ∧ H' = H ∧ xs.take i = ys.take i) xs.length (by rw [env_K]; omega) ⟨0, by simp, by simp, by simp, by simp, rfl, by simp⟩ ?_
  rintro j tm H' hj ⟨i, hij, h0, h1, h5, rfl, heq⟩ Q' hn' he' hr'
  simp [h0, h1, h5, builtinV, pureB, lenV]
  refine selS_intro (fun hc => ?_) (fun hc => ?_)
  · simp at hc
    have hc2 : i < ys.length := by omega
    obtain ⟨id, r, bl, rfl, hbl, hbe, hrow⟩ := ha i _ (by simp [hc]; rfl)
    obtain ⟨id2, r2, bl2, rfl, hbl2, hbe2, hrow2⟩ := hb i _ (by simp [hc2]; rfl)
    have g4 : IntKind.i64.wrap ((i : Int) + 1) = (i : Int) + 1 := wrap64 (by omega) (by omega)
    simp [h0, h1, h5, indexAddrV, elemIs, hbl, hbe, hbl2, hbe2, hc, hc2, hrow, hrow2, eqWire]
    refine selS_intro (fun hd => ?_) (fun hd => ?_)
    · simp
      refine hr' _ _ ?_
      simp
      refine hQ _ _ _ (by simp) ?_
      simp at hd
      have : ¬ xs = ys := fun h => by subst h; simp at hd
      simp [Tryz.f43, this]
    · simp at hd
      simp [h0, h1, h5, g4]
      exact hn' (j - 1) _ _ (by omega) ⟨i + 1, by omega, by simp [h0], by simp [h1], by simp, rfl, by rw [List.take_add_one, List.take_add_one, heq]; simp [hc, hc2, hd]⟩
  · simp at hc
    simp [h0, h1, h5]
    refine he' _ _ _ ?_
    simp
    refine hQ _ _ _ (by simp) ?_
    have : xs = ys := by
      rw [List.take_of_length_le (by omega), List.take_of_length_le (by omega)] at heq
      exact heq
    simp [Tryz.f43, this]

theorem markWireS (H : Heap) (a : Option (Nat × Nat)) (xs : List Wire) (fp : List Nat) (k : Int) (h : Own H 113 a (xs.map Wire.enc) fp) (hk : 0 ≤ k) (hk2 : k + 12 * xs.length ≤ 4611686018427387904) (hn : xs.length ≤ 1048576) :
    Runs env 48 [.w (.lf (.sl a xs.length)), .int k] H fun v H' => v = .int (k + 12 * xs.length) ∧ Own H' 113 a ((marked Wire.mk' 12 xs.length k).map Wire.enc) fp ∧ Keep fp H H' := by
  refine Runs.walk ok48 Tryz.func48 rfl (by simp [Tryz.f48]) fun Q hQ => ?_
  simp only [Tryz.f48, strip, stripL, stripI, stripG, chkT, tagsB, tagsL, tagD, addT, tagA, lookN, tagOp, elmT, ty24, ty25, ty26, ty27, ty28, ty39, ty40, ty41, ty42, ty57, ty59, ty62, ty98, Nat.reduceEqDiff, if_false, reduceIte, Option.getD_some, Option.getD_none, dstAt, dstOk, Nat.reduceLT, decide_true, if_true]
  simp
  refine wpS_loop (fun j tm H' => ∃ i, i + j = xs.length ∧ tm 0 = .w (.lf (.sl a xs.length)) ∧ tm 1 = .int (k + 12 * i) ∧ tm 5 = .int i ∧ Own H' 113 a ((marked Wire.mk' 12 i k ++ xs.drop i).map Wire.enc) fp ∧ Keep fp H H') xs.length (by rw [env_K]; omega) ⟨0, by simp, by simp, by simp, by simp, by simpa [marked] using h, Keep.refl _ _⟩ ?_
  rintro j tm H' hj ⟨i, hij, h0, h1, h5, ho, hkp⟩ Q' hn' he' hr'
  simp [h0, h1, h5, builtinV, pureB, lenV]
  refine selS_intro (fun hc => ?_) (fun hc => ?_)
  · simp at hc
    obtain ⟨id, b, rfl, rfl, hb, hbe, hm, hpre⟩ := ho.blk (by simp; omega)
    have hid := blkAt_len hb
    obtain ⟨t, ht⟩ := hpre
    obtain ⟨hi, hrow2⟩ := marked_at Wire.mk' 12 Wire.enc xs hc k ht
    have g4 : IntKind.i64.wrap ((i : Int) + 1) = (i : Int) + 1 := wrap64 (by omega) (by omega)
    obtain ⟨c, hcc⟩ : ∃ c, c = k + 12 * (i : Int) := ⟨_, rfl⟩
    rw [← hcc] at h1
    have w : ∀ d : Int, 0 ≤ d → d ≤ 100 → IntKind.i64.wrap (c + d) = c + d := fun d h1 h2 => wrap64 (by omega) (by omega)
    simp [h0, h1, h5, indexAddrV, elemIs, hid, hb, hbe, hm, hc, hi, hrow2, blkAt_set, Wire.enc, w, Int.add_assoc, g4]
    refine hn' (j - 1) _ _ (by omega) ⟨i + 1, by omega, by simp [h0], by simp [hcc]; omega, by simp, ?_, ?_⟩
    · have := ho.set (row := Wire.enc (Wire.mk' c)) hb (i := i) (by simp; omega)
      have e := marked_put Wire.mk' 12 Wire.enc xs hc k
      rw [← hcc] at e
      rw [e, hm, hbe] at this
      simpa [Wire.enc, Wire.mk'] using this
    · exact hkp.trans (Keep.set _ _) (by simp) (by simp)
  · simp at hc
    obtain rfl : i = xs.length := by omega
    simp [h0, h1, h5]
    refine he' _ _ _ ?_
    simp [h1]
    refine hQ _ _ _ (by simp) ?_
    simp [Tryz.f48]
    exact ⟨leave_own (by simpa using ho) h.lt, leave_keep' hkp⟩

theorem heldWireS (H : Heap) (a : Option (Nat × Nat)) (xs : List Wire) (k : Int) (h : Sl H 113 a (xs.map Wire.enc)) (hk : 0 ≤ k) (hk2 : k + 12 * xs.length ≤ 4611686018427387904) (hn : xs.length ≤ 1048576) :
    run env 53 [.w (.lf (.sl a xs.length)), .int k] H = some (.int (heldL Wire.mk' 12 xs k), H) := by
  refine run_walk ok53 Tryz.func53 rfl (by simp [Tryz.f53]) fun Q hQ => ?_
  simp only [Tryz.f53, strip, stripL, stripI, stripG, chkT, tagsB, tagsL, tagD, addT, tagA, lookN, tagOp, elmT, ty24, ty25, ty26, ty27, ty28, ty39, ty40, ty41, ty42, ty57, ty59, ty62, ty98, Nat.reduceEqDiff, if_false, reduceIte, Option.getD_some, Option.getD_none, dstAt, dstOk, Nat.reduceLT, decide_true, if_true]
  simp
  refine wpS_loop (fun j tm H' => ∃ i, i + j = xs.length ∧ tm 0 = .w (.lf (.sl a xs.length)) ∧ tm 1 = .int (k + 12 * i) ∧ tm 5 = .int i ∧ H' = H ∧ xs.take i = marked Wire.mk' 12 i k) xs.length (by rw [env_K]; omega) ⟨0, by simp, by simp, by simp, by simp, rfl, by simp [marked]⟩ ?_
  rintro j tm H' hj ⟨i, hij, h0, h1, h5, rfl, heq⟩ Q' hn' he' hr'
  simp [h0, h1, h5, builtinV, pureB, lenV]
  refine selS_intro (fun hc => ?_) (fun hc => ?_)
  · simp at hc
    obtain ⟨id, r, b, rfl, hb, hbe, hrow⟩ := h i _ (by simp [hc]; rfl)
    have g4 : IntKind.i64.wrap ((i : Int) + 1) = (i : Int) + 1 := wrap64 (by omega) (by omega)
    obtain ⟨c, hcc⟩ : ∃ c, c = k + 12 * (i : Int) := ⟨_, rfl⟩
    rw [← hcc] at h1
    have w : ∀ d : Int, 0 ≤ d → d ≤ 100 → IntKind.i64.wrap (c + d) = c + d := fun d h1 h2 => wrap64 (by omega) (by omega)
    have fin : xs[i] ≠ Wire.mk' c → ∀ tm'' : T, tm'' 4 = .int (-1) → Q' .ret tm'' H' := by
      intro hx tm'' ht
      refine hr' _ _ ?_
      simp
      refine hQ _ _ _ (by simp) ?_
      have : heldL Wire.mk' 12 xs k = -1 := heldL_bad hc (by rw [← hcc]; exact hx)
      simp [Tryz.f53, ht, this]
    simp [h0, h1, h5, indexAddrV, elemIs, hb, hbe, hc, hrow, Wire.enc, w, Int.add_assoc, g4]
    refine selS_intro (fun hd => ?_) (fun hd => ?_)
    · simp
      exact fin (fun he => by rw [he] at hd; simp [Wire.mk'] at hd) _ (by simp)
    have hd0 : xs[i].frm = c := by simpa using hd
    simp [h0, h1, h5, indexAddrV, elemIs, hb, hbe, hc, hrow, Wire.enc, w, Int.add_assoc, g4]
    refine selS_intro (fun hd => ?_) (fun hd => ?_)
    · simp
      exact fin (fun he => by rw [he] at hd; simp [Wire.mk'] at hd) _ (by simp)
    have hd1 : xs[i].ack = decide ((c + 1).tmod 3 = 0) := by simpa using hd
    simp [h0, h1, h5, indexAddrV, elemIs, hb, hbe, hc, hrow, Wire.enc, w, Int.add_assoc, g4]
    refine selS_intro (fun hd => ?_) (fun hd => ?_)
    · simp
      exact fin (fun he => by rw [he] at hd; simp [Wire.mk'] at hd) _ (by simp)
    have hd2 : xs[i].life = c + 2 := by simpa using hd
    simp [h0, h1, h5, indexAddrV, elemIs, hb, hbe, hc, hrow, Wire.enc, w, Int.add_assoc, g4]
    refine selS_intro (fun hd => ?_) (fun hd => ?_)
    · simp
      exact fin (fun he => by rw [he] at hd; simp [Wire.mk'] at hd) _ (by simp)
    have hd3 : xs[i].n = c + 3 := by simpa using hd
    simp [h0, h1, h5, indexAddrV, elemIs, hb, hbe, hc, hrow, Wire.enc, w, Int.add_assoc, g4]
    refine selS_intro (fun hd => ?_) (fun hd => ?_)
    · simp
      exact fin (fun he => by rw [he] at hd; simp [Wire.mk'] at hd) _ (by simp)
    have hd4 : xs[i].inn.kind = c + 4 := by simpa using hd
    simp [h0, h1, h5, indexAddrV, elemIs, hb, hbe, hc, hrow, Wire.enc, w, Int.add_assoc, g4]
    refine selS_intro (fun hd => ?_) (fun hd => ?_)
    · simp
      exact fin (fun he => by rw [he] at hd; simp [Wire.mk'] at hd) _ (by simp)
    have hd5 : xs[i].inn.port = c + 5 := by simpa using hd
    simp [h0, h1, h5, indexAddrV, elemIs, hb, hbe, hc, hrow, Wire.enc, w, Int.add_assoc, g4]
    refine selS_intro (fun hd => ?_) (fun hd => ?_)
    · simp
      exact fin (fun he => by rw [he] at hd; simp [Wire.mk'] at hd) _ (by simp)
    have hd6 : xs[i].inn.vec.root = c + 6 := by simpa using hd
    simp [h0, h1, h5, indexAddrV, elemIs, hb, hbe, hc, hrow, Wire.enc, w, Int.add_assoc, g4]
    refine selS_intro (fun hd => ?_) (fun hd => ?_)
    · simp
      exact fin (fun he => by rw [he] at hd; simp [Wire.mk'] at hd) _ (by simp)
    have hd7 : xs[i].inn.vec.cost = c + 7 := by simpa using hd
    simp [h0, h1, h5, indexAddrV, elemIs, hb, hbe, hc, hrow, Wire.enc, w, Int.add_assoc, g4]
    refine selS_intro (fun hd => ?_) (fun hd => ?_)
    · simp
      exact fin (fun he => by rw [he] at hd; simp [Wire.mk'] at hd) _ (by simp)
    have hd8 : xs[i].inn.vec.bridge = c + 8 := by simpa using hd
    simp [h0, h1, h5, indexAddrV, elemIs, hb, hbe, hc, hrow, Wire.enc, w, Int.add_assoc, g4]
    refine selS_intro (fun hd => ?_) (fun hd => ?_)
    · simp
      exact fin (fun he => by rw [he] at hd; simp [Wire.mk'] at hd) _ (by simp)
    have hd9 : xs[i].inn.vec.port = c + 9 := by simpa using hd
    simp [h0, h1, h5, indexAddrV, elemIs, hb, hbe, hc, hrow, Wire.enc, w, Int.add_assoc, g4]
    refine selS_intro (fun hd => ?_) (fun hd => ?_)
    · simp
      exact fin (fun he => by rw [he] at hd; simp [Wire.mk'] at hd) _ (by simp)
    have hd10 : xs[i].inn.hops = c + 10 := by simpa using hd
    simp [h0, h1, h5, indexAddrV, elemIs, hb, hbe, hc, hrow, Wire.enc, w, Int.add_assoc, g4]
    refine selS_intro (fun hd => ?_) (fun hd => ?_)
    · simp
      exact fin (fun he => by rw [he] at hd; simp [Wire.mk'] at hd) _ (by simp)
    have hd11 : xs[i].inn.up = decide ((c + 11).tmod 3 = 0) := by simpa using hd
    simp [h0, h1, h5, indexAddrV, elemIs, hb, hbe, hc, hrow, Wire.enc, w, Int.add_assoc, g4]
    refine hn' (j - 1) _ _ (by omega) ⟨i + 1, by omega, by simp [h0], by simp [hcc]; omega, by simp, rfl, heldL_step hc ?_ heq⟩
    rw [← hcc]
    exact Wire.mk'_of hd0 hd1 hd2 hd3 hd4 hd5 hd6 hd7 hd8 hd9 hd10 hd11
  · simp at hc
    obtain rfl : i = xs.length := by omega
    simp [h0, h1, h5]
    refine he' _ _ _ ?_
    simp [h1]
    refine hQ _ _ _ (by simp) ?_
    rw [List.take_of_length_le (Nat.le_refl _)] at heq
    have : heldL Wire.mk' 12 xs k = k + 12 * xs.length := by rw [heldL, if_pos heq]
    simp [Tryz.f53, this]

abbrev IsWireS := IsSl 113 Wire.enc
abbrev RdWireS := RdSl 113 Wire.enc
abbrev RdLWireS := RdSl 116 Wire.enc
def WireS.mk' (xs : List Wire) (k : Int) : List Wire := marked Wire.mk' 12 xs.length k
def WireS.mkN (xs : List Wire) (k : Int) : Int := k + 12 * xs.length
def WireS.hd (xs : List Wire) (k : Int) : Int := heldL Wire.mk' 12 xs k
theorem WireS.hd_mk (xs : List Wire) (k : Int) : WireS.hd (WireS.mk' xs k) k = WireS.mkN xs k := by simp [WireS.hd, WireS.mk', WireS.mkN]
theorem WireS.mk_sz (xs : List Wire) (k : Int) : (WireS.mk' xs k).length = xs.length := by simp [WireS.mk']
theorem WireS.mkN_le {xs : List Wire} {k : Int} (h : xs.length ≤ 1048576) : k ≤ WireS.mkN xs k ∧ WireS.mkN xs k ≤ k + 1000000000 := by unfold WireS.mkN; omega

theorem shpWireS_is {H : Heap} {k : Nat} {l : List Lf} (h : Shp Tryz.prog H (k + 5) 25 l) : ∃ (q : Lf) (xs : List Wire), l = [q] ∧ RdLWireS H q xs ∧ xs.length ≤ maxLen := by
  obtain ⟨xs, a, rfl, hs, hl, -⟩ := h.sl (f := Wire.enc) (R := fun _ => True) Tryz.underlying25 fun row hr => let ⟨x, hx⟩ := shpWire hr; ⟨x, hx, trivial⟩
  exact ⟨_, xs, rfl, ⟨a, rfl, hs⟩, hl⟩

theorem toWireS_is {H : Heap} {q : Lf} {xs : List Wire} (h : RdLWireS H q xs) (hn : xs.length ≤ 1048576) : Runs env 33 [.w (.lf q)] H fun v H' => ∃ q' fp, v = .w (.lf q') ∧ IsWireS H' q' xs fp ∧ Fresh H H' fp := by
  obtain ⟨a, rfl, h⟩ := h
  exact .of (toWireS H a xs h hn) ⟨_, _, rfl, ⟨_, rfl, Own.of (by simp)⟩, Fresh.app _ _ (by simp)⟩

theorem eqWireS_is {H : Heap} {q r : Lf} {xs ys : List Wire} (h : RdWireS H q xs) (h2 : RdWireS H r ys) (hn : xs.length ≤ 1048576) : run env 43 [.w (.lf q), .w (.lf r)] H = some (.bool (decide (xs = ys)), H) := by
  obtain ⟨a, rfl, h⟩ := h
  obtain ⟨b, rfl, h2⟩ := h2
  exact eqWireS H a b xs ys h h2 hn

theorem cloneWireS {H : Heap} {q : Lf} {xs : List Wire} (h : RdWireS H q xs) (hn : xs.length ≤ 1048576) : Runs env 87 [.w (.lf q)] H fun v H' => ∃ q' fp, v = .w (.lf q') ∧ IsWireS H' q' xs fp ∧ Fresh H H' fp := by
  obtain ⟨a, rfl, h⟩ := h
  refine Runs.walk ok87 Tryz.func87 rfl (by simp [Tryz.f87]) fun Q hQ => ?_
  simp only [Tryz.f87, strip, stripL, stripI, stripG, chkT, tagsB, tagsL, tagD, addT, tagA, lookN, tagOp, elmT, ty24, ty25, ty26, ty27, ty28, ty39, ty40, ty41, ty42, ty57, ty59, ty62, ty98, Nat.reduceEqDiff, if_false, reduceIte, Option.getD_some, Option.getD_none, dstAt, dstOk, Nat.reduceLT, decide_true, if_true]
  simp [binV]
  cases a with
  | none =>
    have : xs = [] := by
      cases xs with
      | nil => rfl
      | cons x xs => obtain ⟨_, _, _, h0, _⟩ := h 0 _ rfl; cases h0
    subst this
    simp
    refine hQ _ _ _ (by simp) ?_
    simp [Tryz.f87]
    exact ⟨_, ⟨none, rfl, Own.nil _ _⟩, Fresh.refl _⟩
  | some p =>
    simp
    refine stpL_append (rows := []) (ys := xs.map Wire.enc) (Own.of (by simp)) (h.app _) rfl rfl rfl (by simp) (by simp; omega) rfl (by simp) fun a'' H'' fp'' ho'' hk'' hf'' => ?_
    simp
    refine hQ _ _ _ (by simp) ?_
    simp [Tryz.f87]
    have ho : IsWireS H'' (.sl a'' xs.length) xs fp'' := ⟨a'', rfl, by simpa using ho''⟩
    have hf : Fresh H H'' fp'' := Fresh.grow (fp := [H.length]) (by simp) hk'' hf''
    obtain ⟨f, h1, h2⟩ := ho.leave (ws := [W.lf (Lf.sl a'' xs.length)]) hf (by simp)
    exact ⟨f, h1, h2⟩

theorem markWireS_is {H : Heap} {q : Lf} {xs : List Wire} {fp : List Nat} {k : Int} (h : IsWireS H q xs fp) (hk : 0 ≤ k) (hk2 : k ≤ 2305843009213693952) (hn : xs.length ≤ 1048576) :
    Runs env 48 [.w (.lf q), .int k] H fun v H' => v = .int (WireS.mkN xs k) ∧ IsWireS H' q (WireS.mk' xs k) fp ∧ Keep fp H H' := by
  obtain ⟨a, rfl, h⟩ := h
  exact (markWireS H a xs fp k h hk (by omega) hn).mono fun v H' ⟨h1, h2, h3⟩ => ⟨h1, ⟨a, by simp [WireS.mk'], h2⟩, h3⟩

theorem heldWireS_is {H : Heap} {q : Lf} {xs : List Wire} {k : Int} (h : RdWireS H q xs) (hk : 0 ≤ k) (hk2 : k ≤ 2305843009213693952) (hn : xs.length ≤ 1048576) :
    run env 53 [.w (.lf q), .int k] H = some (.int (WireS.hd xs k), H) := by
  obtain ⟨a, rfl, h⟩ := h
  exact heldWireS H a xs k h hk (by omega) hn

theorem toDeedS (H : Heap) (a : Option (Nat × Nat)) (xs : List Deed) (h : Sl H 36 a (xs.map Deed.enc)) (hn : xs.length ≤ 1048576) :
    run env 15 [.w (.lf (.sl a xs.length))] H = some (.sl H.length 0 xs.length, H ++ [some ⟨52, .wr, xs.map Deed.enc⟩]) := by
  refine run_walk ok15 Tryz.func15 rfl (by simp [Tryz.f15]) fun Q hQ => ?_
  simp only [Tryz.f15, strip, stripL, stripI, stripG, chkT, tagsB, tagsL, tagD, addT, tagA, lookN, tagOp, elmT, ty24, ty25, ty26, ty27, ty28, ty39, ty40, ty41, ty42, ty57, ty59, ty62, ty98, Nat.reduceEqDiff, if_false, reduceIte, Option.getD_some, Option.getD_none, dstAt, dstOk, Nat.reduceLT, decide_true, if_true]
  have k1 : (xs.length : Int) * 80 ≤ 281474976710656 := by omega
  have k2 : (xs.length : Int) ≤ 9223372036854775807 := by omega
  have k3 : (xs.length : Int) ≤ 281474976710656 := by omega
  simp [builtinV, pureB, lenV, makeSliceV, makeSliceR, newBlk, k1, k2, k3]
  refine wpS_loop (fun j tm H' => ∃ i, i + j = xs.length ∧ tm 0 = .w (.lf (.sl a xs.length)) ∧ tm 3 = .sl H.length 0 xs.length ∧ tm 4 = .int i ∧ H' = H ++ [some ⟨52, .wr, fillR (xs.map Deed.enc) Deed.z i j⟩]) xs.length (by rw [env_K]; omega) ⟨0, by simp, by simp, by simp, by simp, by rw [fillR_zero _ _ (by simp)]⟩ ?_
  rintro j tm H' hj ⟨i, hij, h0, h3, h4, rfl⟩ Q' hn' he' hr'
  simp [h0, h3, h4, builtinV, pureB, lenV]
  refine selS_intro (fun hc => ?_) (fun hc => ?_)
  · simp at hc
    obtain ⟨j, rfl⟩ : ∃ j', j = j' + 1 := ⟨j - 1, by omega⟩
    obtain ⟨id, r, b, rfl, hb, hbe, hrow⟩ := h i _ (by simp [hc]; rfl)
    have hid := blkAt_len hb
    have g2 := fillR_get (ys := xs.map Deed.enc) (z := Deed.z) (i := i) (j := j) (by simpa using hij)
    have g3 := fillR_set (ys := xs.map Deed.enc) (z := Deed.z) (i := i) (j := j) (y := Deed.enc xs[i]) (by simpa using hij) (by simp [hc])
    have g4 : IntKind.i64.wrap ((i : Int) + 1) = (i : Int) + 1 := wrap64 (by omega) (by omega)
    simp [h0, h3, h4, indexAddrV, elemIs, hid, hb, hbe, hc, hrow, toDeed, g2, g3, g4]
    exact hn' j _ _ (by omega) ⟨i + 1, by omega, by simp [h0], by simp [h3], by simp, by simpa using congrArg (fun r => H ++ [some (⟨52, .wr, r⟩ : Blk)]) g3⟩
  · simp at hc
    have hj0 : j = 0 := by omega
    subst hj0
    simp [h0, h3, h4]
    refine he' _ _ _ ?_
    simp [h3]
    refine hQ _ _ _ (by simp) ?_
    simp [Tryz.f15, leave, fillR_done (ys := xs.map Deed.enc) (i := i) (z := Deed.z) (by simpa using hij), refFree]

theorem szDeedS (H : Heap) (a : Option (Nat × Nat)) (n : Nat) (left : Int) (h1 : 0 ≤ left) (h2 : left ≤ 1048576) (h3 : n ≤ maxLen) :
    run env 13 [.w (.lf (.sl a n)), .int left] H = some (.int (if left < n then -1 else left - n), H) := by
  have hm : (n : Int) ≤ 9223372036854775807 := by unfold maxLen at h3; omega
  refine run_walk ok13 Tryz.func13 rfl (by simp [Tryz.f13]) fun Q hQ => ?_
  simp only [Tryz.f13, strip, stripL, stripI, stripG, chkT, tagsB, tagsL, tagD, addT, tagA, lookN, tagOp, elmT, ty24, ty25, ty26, ty27, ty28, ty39, ty40, ty41, ty42, ty57, ty59, ty62, ty98, Nat.reduceEqDiff, if_false, reduceIte, Option.getD_some, Option.getD_none, dstAt, dstOk, Nat.reduceLT, decide_true, if_true]
  have g : IntKind.i64.wrap (left - n) = left - n := wrap64 (by omega) (by omega)
  simp [builtinV, pureB, lenV, g]
  repeat' (first | (refine gdL_t (fun h => ?_) (fun h => ?_) <;> simp [h]) | (refine gdL_f (fun h => ?_) (fun h => ?_) <;> simp [h]) | (refine selS_intro (fun h => ?_) (fun h => ?_) <;> simp [h]))
  all_goals (refine hQ _ _ _ (by simp) ?_)
  all_goals (clear hQ; simp_all [Tryz.f13] <;> omega)

theorem eqDeedS (H : Heap) (a b : Option (Nat × Nat)) (xs ys : List Deed) (ha : Sl H 52 a (xs.map Deed.enc)) (hb : Sl H 52 b (ys.map Deed.enc)) (hn : xs.length ≤ 1048576) :
    run env 18 [.w (.lf (.sl a xs.length)), .w (.lf (.sl b ys.length))] H = some (.bool (decide (xs = ys)), H) := by
  refine run_walk ok18 Tryz.func18 rfl (by simp [Tryz.f18]) fun Q hQ => ?_
  simp only [Tryz.f18, strip, stripL, stripI, stripG, chkT, tagsB, tagsL, tagD, addT, tagA, lookN, tagOp, elmT, ty24, ty25, ty26, ty27, ty28, ty39, ty40, ty41, ty42, ty57, ty59, ty62, ty98, Nat.reduceEqDiff, if_false, reduceIte, Option.getD_some, Option.getD_none, dstAt, dstOk, Nat.reduceLT, decide_true, if_true]
  simp [builtinV, pureB, lenV]
  refine selS_intro (fun hl => ?_) (fun hl => ?_)
  · simp
    refine hQ _ _ _ (by simp) ?_
    simp at hl
    have : ¬ xs = ys := fun h => hl (by rw [h])
    simp [Tryz.f18, this]
  simp at hl
  simp
  refine wpS_loop (fun j tm H' => ∃ i, i + j = xs.length ∧ tm 0 = .w (.lf (.sl a xs.length)) ∧ tm 1 = .w (.lf (.sl b ys.length)) ∧ tm 5 = .int i ∧ H' = H ∧ xs.take i = ys.take i) xs.length (by rw [env_K]; omega) ⟨0, by simp, by simp, by simp, by simp, rfl, by simp⟩ ?_
  rintro j tm H' hj ⟨i, hij, h0, h1, h5, rfl, heq⟩ Q' hn' he' hr'
  simp [h0, h1, h5, builtinV, pureB, lenV]
  refine selS_intro (fun hc => ?_) (fun hc => ?_)
  · simp at hc
    have hc2 : i < ys.length := by omega
    obtain ⟨id, r, bl, rfl, hbl, hbe, hrow⟩ := ha i _ (by simp [hc]; rfl)
    obtain ⟨id2, r2, bl2, rfl, hbl2, hbe2, hrow2⟩ := hb i _ (by simp [hc2]; rfl)
    have g4 : IntKind.i64.wrap ((i : Int) + 1) = (i : Int) + 1 := wrap64 (by omega) (by omega)
    simp [h0, h1, h5, indexAddrV, elemIs, hbl, hbe, hbl2, hbe2, hc, hc2, hrow, hrow2, eqDeed]
    refine selS_intro (fun hd => ?_) (fun hd => ?_)
    · simp
      refine hr' _ _ ?_
      simp
      refine hQ _ _ _ (by simp) ?_
      simp at hd
      have : ¬ xs = ys := fun h => by subst h; simp at hd
      simp [Tryz.f18, this]
    · simp at hd
      simp [h0, h1, h5, g4]
      exact hn' (j - 1) _ _ (by omega) ⟨i + 1, by omega, by simp [h0], by simp [h1], by simp, rfl, by rw [List.take_add_one, List.take_add_one, heq]; simp [hc, hc2, hd]⟩
  · simp at hc
    simp [h0, h1, h5]
    refine he' _ _ _ ?_
    simp
    refine hQ _ _ _ (by simp) ?_
    have : xs = ys := by
      rw [List.take_of_length_le (by omega), List.take_of_length_le (by omega)] at heq
      exact heq
    simp [Tryz.f18, this]

theorem markDeedS (H : Heap) (a : Option (Nat × Nat)) (xs : List Deed) (fp : List Nat) (k : Int) (h : Own H 52 a (xs.map Deed.enc) fp) (hk : 0 ≤ k) (hk2 : k + 10 * xs.length ≤ 4611686018427387904) (hn : xs.length ≤ 1048576) :
    Runs env 19 [.w (.lf (.sl a xs.length)), .int k] H fun v H' => v = .int (k + 10 * xs.length) ∧ Own H' 52 a ((marked Deed.mk' 10 xs.length k).map Deed.enc) fp ∧ Keep fp H H' := by
  refine Runs.walk ok19 Tryz.func19 rfl (by simp [Tryz.f19]) fun Q hQ => ?_
  simp only [Tryz.f19, strip, stripL, stripI, stripG, chkT, tagsB, tagsL, tagD, addT, tagA, lookN, tagOp, elmT, ty24, ty25, ty26, ty27, ty28, ty39, ty40, ty41, ty42, ty57, ty59, ty62, ty98, Nat.reduceEqDiff, if_false, reduceIte, Option.getD_some, Option.getD_none, dstAt, dstOk, Nat.reduceLT, decide_true, if_true]
  simp
  refine wpS_loop (fun j tm H' => ∃ i, i + j = xs.length ∧ tm 0 = .w (.lf (.sl a xs.length)) ∧ tm 1 = .int (k + 10 * i) ∧ tm 5 = .int i ∧ Own H' 52 a ((marked Deed.mk' 10 i k ++ xs.drop i).map Deed.enc) fp ∧ Keep fp H H') xs.length (by rw [env_K]; omega) ⟨0, by simp, by simp, by simp, by simp, by simpa [marked] using h, Keep.refl _ _⟩ ?_
  rintro j tm H' hj ⟨i, hij, h0, h1, h5, ho, hkp⟩ Q' hn' he' hr'
  simp [h0, h1, h5, builtinV, pureB, lenV]
  refine selS_intro (fun hc => ?_) (fun hc => ?_)
  · simp at hc
    obtain ⟨id, b, rfl, rfl, hb, hbe, hm, hpre⟩ := ho.blk (by simp; omega)
    have hid := blkAt_len hb
    obtain ⟨t, ht⟩ := hpre
    obtain ⟨hi, hrow2⟩ := marked_at Deed.mk' 10 Deed.enc xs hc k ht
    have g4 : IntKind.i64.wrap ((i : Int) + 1) = (i : Int) + 1 := wrap64 (by omega) (by omega)
    obtain ⟨c, hcc⟩ : ∃ c, c = k + 10 * (i : Int) := ⟨_, rfl⟩
    rw [← hcc] at h1
    have w : ∀ d : Int, 0 ≤ d → d ≤ 100 → IntKind.i64.wrap (c + d) = c + d := fun d h1 h2 => wrap64 (by omega) (by omega)
    simp [h0, h1, h5, indexAddrV, elemIs, hid, hb, hbe, hm, hc, hi, hrow2, blkAt_set, Deed.enc, w, Int.add_assoc, g4]
    refine hn' (j - 1) _ _ (by omega) ⟨i + 1, by omega, by simp [h0], by simp [hcc]; omega, by simp, ?_, ?_⟩
    · have := ho.set (row := Deed.enc (Deed.mk' c)) hb (i := i) (by simp; omega)
      have e := marked_put Deed.mk' 10 Deed.enc xs hc k
      rw [← hcc] at e
      rw [e, hm, hbe] at this
      simpa [Deed.enc, Deed.mk'] using this
    · exact hkp.trans (Keep.set _ _) (by simp) (by simp)
  · simp at hc
    obtain rfl : i = xs.length := by omega
    simp [h0, h1, h5]
    refine he' _ _ _ ?_
    simp [h1]
    refine hQ _ _ _ (by simp) ?_
    simp [Tryz.f19]
    exact ⟨leave_own (by simpa using ho) h.lt, leave_keep' hkp⟩

abbrev IsDeedS := IsSl 52 Deed.enc
abbrev RdDeedS := RdSl 52 Deed.enc
abbrev RdLDeedS := RdSl 36 Deed.enc
def DeedS.mk' (xs : List Deed) (k : Int) : List Deed := marked Deed.mk' 10 xs.length k
def DeedS.mkN (xs : List Deed) (k : Int) : Int := k + 10 * xs.length
def DeedS.hd (xs : List Deed) (k : Int) : Int := heldL Deed.mk' 10 xs k
theorem DeedS.hd_mk (xs : List Deed) (k : Int) : DeedS.hd (DeedS.mk' xs k) k = DeedS.mkN xs k := by simp [DeedS.hd, DeedS.mk', DeedS.mkN]
theorem DeedS.mk_sz (xs : List Deed) (k : Int) : (DeedS.mk' xs k).length = xs.length := by simp [DeedS.mk']
theorem DeedS.mkN_le {xs : List Deed} {k : Int} (h : xs.length ≤ 1048576) : k ≤ DeedS.mkN xs k ∧ DeedS.mkN xs k ≤ k + 1000000000 := by unfold DeedS.mkN; omega

theorem shpDeedS_is {H : Heap} {k : Nat} {l : List Lf} (h : Shp Tryz.prog H (k + 5) 57 l) : ∃ (q : Lf) (xs : List Deed), l = [q] ∧ RdLDeedS H q xs ∧ xs.length ≤ maxLen := by
  obtain ⟨xs, a, rfl, hs, hl, -⟩ := h.sl (f := Deed.enc) (R := fun _ => True) Tryz.underlying57 fun row hr => let ⟨x, hx⟩ := shpDeed hr; ⟨x, hx, trivial⟩
  exact ⟨_, xs, rfl, ⟨a, rfl, hs⟩, hl⟩

theorem toDeedS_is {H : Heap} {q : Lf} {xs : List Deed} (h : RdLDeedS H q xs) (hn : xs.length ≤ 1048576) : Runs env 15 [.w (.lf q)] H fun v H' => ∃ q' fp, v = .w (.lf q') ∧ IsDeedS H' q' xs fp ∧ Fresh H H' fp := by
  obtain ⟨a, rfl, h⟩ := h
  exact .of (toDeedS H a xs h hn) ⟨_, _, rfl, ⟨_, rfl, Own.of (by simp)⟩, Fresh.app _ _ (by simp)⟩

theorem szDeedS_is {H : Heap} {q : Lf} {xs : List Deed} (h : RdLDeedS H q xs) (hf : xs.length ≤ maxLen) {left : Int} (h1 : 0 ≤ left) (h2 : left ≤ 1048576) (G : Heap) :
    run env 13 [.w (.lf q), .int left] G = some (.int (if left < xs.length then -1 else left - xs.length), G) := by
  obtain ⟨a, rfl, -⟩ := h
  exact szDeedS G a xs.length left h1 h2 hf

theorem eqDeedS_is {H : Heap} {q r : Lf} {xs ys : List Deed} (h : RdDeedS H q xs) (h2 : RdDeedS H r ys) (hn : xs.length ≤ 1048576) : run env 18 [.w (.lf q), .w (.lf r)] H = some (.bool (decide (xs = ys)), H) := by
  obtain ⟨a, rfl, h⟩ := h
  obtain ⟨b, rfl, h2⟩ := h2
  exact eqDeedS H a b xs ys h h2 hn

theorem markDeedS_is {H : Heap} {q : Lf} {xs : List Deed} {fp : List Nat} {k : Int} (h : IsDeedS H q xs fp) (hk : 0 ≤ k) (hk2 : k ≤ 2305843009213693952) (hn : xs.length ≤ 1048576) :
    Runs env 19 [.w (.lf q), .int k] H fun v H' => v = .int (DeedS.mkN xs k) ∧ IsDeedS H' q (DeedS.mk' xs k) fp ∧ Keep fp H H' := by
  obtain ⟨a, rfl, h⟩ := h
  exact (markDeedS H a xs fp k h hk (by omega) hn).mono fun v H' ⟨h1, h2, h3⟩ => ⟨h1, ⟨a, by simp [DeedS.mk'], h2⟩, h3⟩

def Reg.ok (r : Reg) : Bool := decide (1 ≤ r.epoch) && decide (r.epoch ≤ 100000) && (decide (0 ≤ r.owner) && decide (r.owner ≤ 1)) && (decide (0 ≤ r.pair) && decide (r.pair ≤ 100000))

theorem specRegOk (H : Heap) (r : Reg) : run env 61 [.agg r.enc] H = some (.bool r.ok, H) := by
  refine run_walk ok61 Tryz.func61 rfl (by simp [Tryz.f61]) fun Q hQ => ?_
  simp only [Tryz.f61, strip, stripL, stripI, stripG, chkT, tagsB, tagsL, tagD, addT, tagA, lookN, tagOp, elmT, ty24, ty25, ty26, ty27, ty28, ty39, ty40, ty41, ty42, ty57, ty59, ty62, ty98, Nat.reduceEqDiff, if_false, reduceIte, Option.getD_some, Option.getD_none, dstAt, dstOk, Nat.reduceLT, decide_true, if_true]
  simp [Reg.enc, l1In]
  repeat' (first | (refine gdL_t (fun h => ?_) (fun h => ?_) <;> simp [h, l1In]) | (refine gdL_f (fun h => ?_) (fun h => ?_) <;> simp [h, l1In]) | (refine selS_intro (fun h => ?_) (fun h => ?_) <;> simp [h, l1In]))
  all_goals (refine hQ _ _ _ (by simp) ?_)
  all_goals (clear hQ; simp_all [Tryz.f61, Reg.ok] <;> omega)

theorem implRegOk (H : Heap) (r : Reg) : run env 77 [.agg r.enc] H = some (.bool r.ok, H) := by
  refine run_walk ok77 Tryz.func77 rfl (by simp [Tryz.f77]) fun Q hQ => ?_
  simp only [Tryz.f77, strip, stripL, stripI, stripG, chkT, tagsB, tagsL, tagD, addT, tagA, lookN, tagOp, elmT, ty24, ty25, ty26, ty27, ty28, ty39, ty40, ty41, ty42, ty57, ty59, ty62, ty98, Nat.reduceEqDiff, if_false, reduceIte, Option.getD_some, Option.getD_none, dstAt, dstOk, Nat.reduceLT, decide_true, if_true]
  simp [Reg.enc, inRange, isSide, isNum]
  repeat' (first | (refine gdL_t (fun h => ?_) (fun h => ?_) <;> simp [h, inRange, isSide, isNum]) | (refine gdL_f (fun h => ?_) (fun h => ?_) <;> simp [h, inRange, isSide, isNum]) | (refine selS_intro (fun h => ?_) (fun h => ?_) <;> simp [h, inRange, isSide, isNum]))
  all_goals (refine hQ _ _ _ (by simp) ?_)
  all_goals (clear hQ; simp_all [Tryz.f77, Reg.ok] <;> omega)

structure Bridge where
  id : Int
  ports : List Port
  deriving DecidableEq, Inhabited
def Bridge.enc (b : Bridge) (a : Option (Nat × Nat)) : List Lf := [.i .i64 b.id, .sl a b.ports.length]
@[simp] theorem Bridge.enc_len (b : Bridge) (a : Option (Nat × Nat)) : (b.enc a).length = 2 := rfl
@[simp] theorem Bridge.enc_take (b : Bridge) (a : Option (Nat × Nat)) : List.take 2 (b.enc a) = b.enc a := rfl

structure Minder where
  up : Bool
  life : Int
  epoch : Int
  log : List In
  said : Int
  acked : Int
  ackLife : Int
  deriving DecidableEq
def Minder.enc (m : Minder) (a : Option (Nat × Nat)) : List Lf := [.b m.up, .i .i64 m.life, .i .i64 m.epoch, .sl a m.log.length, .i .i64 m.said, .i .i64 m.acked, .i .i64 m.ackLife]
@[simp] theorem Minder.enc_len (m : Minder) (a : Option (Nat × Nat)) : (m.enc a).length = 7 := rfl
@[simp] theorem Minder.enc_take (m : Minder) (a : Option (Nat × Nat)) : List.take 7 (m.enc a) = m.enc a := rfl

theorem szMinder (H : Heap) (a : Option (Nat × Nat)) (m : Minder) (left : Int) (h1 : 0 ≤ left) (h2 : left ≤ 1048576) (h3 : m.log.length ≤ maxLen) :
    run env 59 [.agg (m.enc a), .int left] H = some (.int (if left < m.log.length then -1 else left - m.log.length), H) := by
  have e := fun H => szInS H a m.log.length left h1 h2 h3
  refine run_walk ok59 Tryz.func59 rfl (by simp [Tryz.f59]) fun Q hQ => ?_
  simp only [Tryz.f59, strip, stripL, stripI, stripG, chkT, tagsB, tagsL, tagD, addT, tagA, lookN, tagOp, elmT, ty24, ty25, ty26, ty27, ty28, ty39, ty40, ty41, ty42, ty57, ty59, ty62, ty98, Nat.reduceEqDiff, if_false, reduceIte, Option.getD_some, Option.getD_none, dstAt, dstOk, Nat.reduceLT, decide_true, if_true]
  simp [Minder.enc, e]
  repeat' (first | (refine gdL_t (fun h => ?_) (fun h => ?_) <;> simp [h]) | (refine gdL_f (fun h => ?_) (fun h => ?_) <;> simp [h]) | (refine selS_intro (fun h => ?_) (fun h => ?_) <;> simp [h]))
  all_goals (refine hQ _ _ _ (by simp) ?_)
  all_goals (clear hQ; simp_all [Tryz.f59] <;> omega)

theorem toMinder (H : Heap) (a : Option (Nat × Nat)) (m : Minder) (h : Sl H 34 a (m.log.map In.enc)) (hn : m.log.length ≤ 1048576) :
    Runs env 72 [.agg (m.enc a)] H fun v H' => ∃ a' fp, v = .agg (m.enc a') ∧ Own H' 50 a' (m.log.map In.enc) fp ∧ Fresh H H' fp := by
  have e := fun H h => toInS H a m.log h hn
  refine Runs.walk ok72 Tryz.func72 rfl (by simp [Tryz.f72]) fun Q hQ => ?_
  simp only [Tryz.f72, strip, stripL, stripI, stripG, chkT, tagsB, tagsL, tagD, addT, tagA, lookN, tagOp, elmT, ty24, ty25, ty26, ty27, ty28, ty39, ty40, ty41, ty42, ty57, ty59, ty62, ty98, Nat.reduceEqDiff, if_false, reduceIte, Option.getD_some, Option.getD_none, dstAt, dstOk, Nat.reduceLT, decide_true, if_true]
  simp [Minder.enc]
  rw [e _ (by simpa using h.app _)]
  simp
  refine hQ _ _ _ (by simp) ?_
  simp [Tryz.f72, leave, refFree, Minder.enc]
  exact ⟨_, Own.of (by simp), Fresh.app _ _ (by simp)⟩

theorem eqMinder (H : Heap) (a b : Option (Nat × Nat)) (m n : Minder) (ha : Sl H 50 a (m.log.map In.enc)) (hb : Sl H 50 b (n.log.map In.enc)) (hn : m.log.length ≤ 1048576) :
    run env 82 [.agg (m.enc a), .agg (n.enc b)] H = some (.bool (decide (m = n)), H) := by
  have e := fun G => eqInS (H ++ G) a b m.log n.log (ha.app _) (hb.app _) hn
  obtain ⟨a1, a2, a3, a4, a5, a6, a7⟩ := m
  obtain ⟨b1, b2, b3, b4, b5, b6, b7⟩ := n
  simp only at e
  refine run_walk ok82 Tryz.func82 rfl (by simp [Tryz.f82]) fun Q hQ => ?_
  simp only [Tryz.f82, strip, stripL, stripI, stripG, chkT, tagsB, tagsL, tagD, addT, tagA, lookN, tagOp, elmT, ty24, ty25, ty26, ty27, ty28, ty39, ty40, ty41, ty42, ty57, ty59, ty62, ty98, Nat.reduceEqDiff, if_false, reduceIte, Option.getD_some, Option.getD_none, dstAt, dstOk, Nat.reduceLT, decide_true, if_true]
  simp [Minder.enc]
  repeat' (first | (refine gdL_t (fun h => ?_) (fun h => ?_) <;> simp [h, e]) | (refine gdL_f (fun h => ?_) (fun h => ?_) <;> simp [h, e]) | (refine selS_intro (fun h => ?_) (fun h => ?_) <;> simp [h, e]))
  all_goals (refine hQ _ _ _ (by simp) ?_)
  all_goals (clear hQ; simp_all [Tryz.f82])

def ready (m : Minder) (pair : Int) : Bool := m.up && decide (0 < m.epoch) && decide (m.said < m.log.length) && (decide (pair = 0) || decide (m.ackLife = pair) && decide (m.said < m.acked))

theorem specReady (H : Heap) (a : Option (Nat × Nat)) (m : Minder) (pair : Int) : run env 96 [.agg (m.enc a), .int pair] H = some (.bool (ready m pair), H) := by
  obtain ⟨a1, a2, a3, a4, a5, a6, a7⟩ := m
  refine run_walk ok96 Tryz.func96 rfl (by simp [Tryz.f96]) fun Q hQ => ?_
  simp only [Tryz.f96, strip, stripL, stripI, stripG, chkT, tagsB, tagsL, tagD, addT, tagA, lookN, tagOp, elmT, ty24, ty25, ty26, ty27, ty28, ty39, ty40, ty41, ty42, ty57, ty59, ty62, ty98, Nat.reduceEqDiff, if_false, reduceIte, Option.getD_some, Option.getD_none, dstAt, dstOk, Nat.reduceLT, decide_true, if_true]
  simp [Minder.enc, builtinV, pureB, lenV]
  repeat' (first | (refine gdL_t (fun h => ?_) (fun h => ?_) <;> simp [h, builtinV, pureB, lenV]) | (refine gdL_f (fun h => ?_) (fun h => ?_) <;> simp [h, builtinV, pureB, lenV]) | (refine selS_intro (fun h => ?_) (fun h => ?_) <;> simp [h, builtinV, pureB, lenV]))
  all_goals (refine hQ _ _ _ (by simp) ?_)
  all_goals (clear hQ; simp_all [Tryz.f96, ready])
  all_goals omega

theorem implReady (H : Heap) (a : Option (Nat × Nat)) (m : Minder) (pair : Int) : run env 123 [.agg (m.enc a), .int pair] H = some (.bool (ready m pair), H) := by
  obtain ⟨a1, a2, a3, a4, a5, a6, a7⟩ := m
  refine run_walk ok123 Tryz.func123 rfl (by simp [Tryz.f123]) fun Q hQ => ?_
  simp only [Tryz.f123, strip, stripL, stripI, stripG, chkT, tagsB, tagsL, tagD, addT, tagA, lookN, tagOp, elmT, ty24, ty25, ty26, ty27, ty28, ty39, ty40, ty41, ty42, ty57, ty59, ty62, ty98, Nat.reduceEqDiff, if_false, reduceIte, Option.getD_some, Option.getD_none, dstAt, dstOk, Nat.reduceLT, decide_true, if_true]
  simp [Minder.enc, builtinV, pureB, lenV]
  repeat' (first | (refine gdL_t (fun h => ?_) (fun h => ?_) <;> simp [h, builtinV, pureB, lenV]) | (refine gdL_f (fun h => ?_) (fun h => ?_) <;> simp [h, builtinV, pureB, lenV]) | (refine selS_intro (fun h => ?_) (fun h => ?_) <;> simp [h, builtinV, pureB, lenV]))
  all_goals (refine hQ _ _ _ (by simp) ?_)
  all_goals (clear hQ; simp_all [Tryz.f123, ready])
  all_goals omega

theorem shpMinder {H : Heap} {k : Nat} {l : List Lf} (h : Shp Tryz.prog H (k + 5) 97 l) : ∃ (m : Minder) (a : Option (Nat × Nat)), l = m.enc a ∧ Sl H 34 a (m.log.map In.enc) ∧ m.log.length ≤ maxLen := by
  obtain ⟨_, _, rfl, h1, _, _, rfl, h2, _, _, rfl, h3, _, _, rfl, h4, _, _, rfl, h5, _, _, rfl, h6, _, _, rfl, h7, rfl⟩ := h.struct Tryz.underlying97
  obtain ⟨x1, rfl⟩ := h1.bool Tryz.underlying4
  obtain ⟨x2, rfl, -⟩ := h2.i64 Tryz.underlying3
  obtain ⟨x3, rfl, -⟩ := h3.i64 Tryz.underlying3
  obtain ⟨xs, a, rfl, hs, hl, -⟩ := h4.sl (f := In.enc) (R := fun _ => True) Tryz.underlying27 fun row hr => let ⟨x, hx⟩ := shpIn hr; ⟨x, hx, trivial⟩
  obtain ⟨x5, rfl, -⟩ := h5.i64 Tryz.underlying3
  obtain ⟨x6, rfl, -⟩ := h6.i64 Tryz.underlying3
  obtain ⟨x7, rfl, -⟩ := h7.i64 Tryz.underlying3
  exact ⟨⟨x1, x2, x3, xs, x5, x6, x7⟩, a, rfl, hs, hl⟩

def Vec.ok (v : Vec) : Bool := (decide (1 ≤ v.root) && decide (v.root ≤ 9)) && (decide (1 ≤ v.bridge) && decide (v.bridge ≤ 9)) && decide (v.root ≤ v.bridge) && (decide (0 ≤ v.cost) && decide (v.cost ≤ 20)) && (decide (v.cost = 0) == decide (v.root = v.bridge)) && (decide (0 ≤ v.port) && decide (v.port ≤ 3))

theorem implVecOk (H : Heap) (v : Vec) : run env 119 [.agg v.enc] H = some (.bool v.ok, H) := by
  obtain ⟨a1, a2, a3, a4⟩ := v
  refine run_walk ok119 Tryz.func119 rfl (by simp [Tryz.f119]) fun Q hQ => ?_
  simp only [Tryz.f119, strip, stripL, stripI, stripG, chkT, tagsB, tagsL, tagD, addT, tagA, lookN, tagOp, elmT, ty24, ty25, ty26, ty27, ty28, ty39, ty40, ty41, ty42, ty57, ty59, ty62, ty98, Nat.reduceEqDiff, if_false, reduceIte, Option.getD_some, Option.getD_none, dstAt, dstOk, Nat.reduceLT, decide_true, if_true]
  simp [Vec.enc, inRange, isPort]
  repeat' (first | (refine gdL_t (fun h => ?_) (fun h => ?_) <;> simp [h, inRange, isPort]) | (refine gdL_f (fun h => ?_) (fun h => ?_) <;> simp [h, inRange, isPort]) | (refine selS_intro (fun h => ?_) (fun h => ?_) <;> simp [h, inRange, isPort]))
  all_goals (refine hQ _ _ _ (by simp) ?_)
  all_goals (clear hQ; simp_all [Tryz.f119, Vec.ok])
  all_goals (first | omega | (intros; omega))

theorem specVecOk (H : Heap) (v : Vec) : run env 113 [.agg v.enc] H = some (.bool v.ok, H) := by
  obtain ⟨a1, a2, a3, a4⟩ := v
  refine run_walk ok113 Tryz.func113 rfl (by simp [Tryz.f113]) fun Q hQ => ?_
  simp only [Tryz.f113, strip, stripL, stripI, stripG, chkT, tagsB, tagsL, tagD, addT, tagA, lookN, tagOp, elmT, ty24, ty25, ty26, ty27, ty28, ty39, ty40, ty41, ty42, ty57, ty59, ty62, ty98, Nat.reduceEqDiff, if_false, reduceIte, Option.getD_some, Option.getD_none, dstAt, dstOk, Nat.reduceLT, decide_true, if_true]
  simp [Vec.enc, l1In]
  repeat' (first | (refine gdL_t (fun h => ?_) (fun h => ?_) <;> simp [h, l1In]) | (refine gdL_f (fun h => ?_) (fun h => ?_) <;> simp [h, l1In]) | (refine selS_intro (fun h => ?_) (fun h => ?_) <;> simp [h, l1In]))
  all_goals (refine hQ _ _ _ (by simp) ?_)
  all_goals (clear hQ; simp_all [Tryz.f113, Vec.ok])
  all_goals (first | omega | (intros; omega))

def In.ok (x : In) : Bool := if x.kind = 1 then (decide (0 ≤ x.port) && decide (x.port ≤ 3)) && x.vec.ok && (decide (0 ≤ x.hops) && decide (x.hops ≤ 8)) && !x.up
  else if x.kind = 3 then (decide (0 ≤ x.port) && decide (x.port ≤ 3)) && decide (x.vec = ⟨0, 0, 0, 0⟩) && decide (x.hops = 0)
  else decide (x = ⟨2, 0, ⟨0, 0, 0, 0⟩, 0, false⟩)

theorem implInOk (H : Heap) (x : In) : run env 106 [.agg x.enc] H = some (.bool x.ok, H) := by
  obtain ⟨a1, a2, ⟨b1, b2, b3, b4⟩, a4, a5⟩ := x
  have e := fun H => implVecOk H ⟨b1, b2, b3, b4⟩
  simp only [Vec.enc] at e
  refine run_walk ok106 Tryz.func106 rfl (by simp [Tryz.f106]) fun Q hQ => ?_
  simp only [Tryz.f106, strip, stripL, stripI, stripG, chkT, tagsB, tagsL, tagD, addT, tagA, lookN, tagOp, elmT, ty24, ty25, ty26, ty27, ty28, ty39, ty40, ty41, ty42, ty57, ty59, ty62, ty98, Nat.reduceEqDiff, if_false, reduceIte, Option.getD_some, Option.getD_none, dstAt, dstOk, Nat.reduceLT, decide_true, if_true]
  simp [In.enc, isPort, isHops, e]
  repeat' (first | (refine gdL_t (fun h => ?_) (fun h => ?_) <;> simp [h, isPort, isHops, e]) | (refine gdL_f (fun h => ?_) (fun h => ?_) <;> simp [h, isPort, isHops, e]) | (refine selS_intro (fun h => ?_) (fun h => ?_) <;> simp [h, isPort, isHops, e]))
  all_goals (refine hQ _ _ _ (by simp) ?_)
  all_goals (clear hQ; simp_all [Tryz.f106, In.ok])
  all_goals (first | (intros; exfalso; omega) | simp [Bool.and_assoc])

theorem specInOk (H : Heap) (x : In) : run env 93 [.agg x.enc] H = some (.bool x.ok, H) := by
  obtain ⟨a1, a2, ⟨b1, b2, b3, b4⟩, a4, a5⟩ := x
  have e := fun H => specVecOk H ⟨b1, b2, b3, b4⟩
  simp only [Vec.enc] at e
  refine run_walk ok93 Tryz.func93 rfl (by simp [Tryz.f93]) fun Q hQ => ?_
  simp only [Tryz.f93, strip, stripL, stripI, stripG, chkT, tagsB, tagsL, tagD, addT, tagA, lookN, tagOp, elmT, ty24, ty25, ty26, ty27, ty28, ty39, ty40, ty41, ty42, ty57, ty59, ty62, ty98, Nat.reduceEqDiff, if_false, reduceIte, Option.getD_some, Option.getD_none, dstAt, dstOk, Nat.reduceLT, decide_true, if_true]
  simp [In.enc, l1In, e]
  repeat' (first | (refine gdL_t (fun h => ?_) (fun h => ?_) <;> simp [h, l1In, e]) | (refine gdL_f (fun h => ?_) (fun h => ?_) <;> simp [h, l1In, e]) | (refine selS_intro (fun h => ?_) (fun h => ?_) <;> simp [h, l1In, e]))
  all_goals (refine hQ _ _ _ (by simp) ?_)
  all_goals (clear hQ; simp_all [Tryz.f93, In.ok])
  all_goals (first | (intros; exfalso; omega) | simp [Bool.and_assoc])

def IsBridge (H : Heap) (l : List Lf) (x : Bridge) (fp : List Nat) : Prop := ∃ a, l = x.enc a ∧ Own H 134 a (x.ports.map Port.enc) fp
def RdBridge (H : Heap) (l : List Lf) (x : Bridge) : Prop := ∃ a, l = x.enc a ∧ Sl H 134 a (x.ports.map Port.enc)
def RdLBridge (H : Heap) (l : List Lf) (x : Bridge) : Prop := ∃ a, l = x.enc a ∧ Sl H 999999 a (x.ports.map Port.enc)
abbrev Bridge.sz (x : Bridge) : Nat := x.ports.length
def Bridge.fit (x : Bridge) : Prop := x.ports.length ≤ maxLen
section
variable {H H' : Heap} {l : List Lf} {x : Bridge} {fp : List Nat}
theorem IsBridge.keep {f : List Nat} (h : IsBridge H l x fp) (hk : Keep f H H') (hd : ∀ i ∈ fp, i ∉ f) : IsBridge H' l x fp := let ⟨a, h1, h2⟩ := h; ⟨a, h1, h2.keep hk hd⟩
theorem IsBridge.app (h : IsBridge H l x fp) (G : Heap) : IsBridge (H ++ G) l x fp := let ⟨a, h1, h2⟩ := h; ⟨a, h1, h2.app G⟩
theorem IsBridge.lt (h : IsBridge H l x fp) : ∀ i ∈ fp, i < H.length := let ⟨_, _, h2⟩ := h; h2.lt
theorem IsBridge.nodup (h : IsBridge H l x fp) : fp.Nodup := let ⟨_, _, h2⟩ := h; h2.nodup
theorem IsBridge.rd (h : IsBridge H l x fp) : RdBridge H l x := let ⟨a, h1, h2⟩ := h; ⟨a, h1, h2.sl⟩
theorem RdBridge.base (h : RdBridge H l x) (hk : Keep [] H H') : RdBridge H' l x := let ⟨a, h1, h2⟩ := h; ⟨a, h1, h2.keep hk (by simp)⟩
theorem RdBridge.app (h : RdBridge H l x) (G : Heap) : RdBridge (H ++ G) l x := h.base (Keep.app _ _ _)
theorem RdLBridge.base (h : RdLBridge H l x) (hk : Keep [] H H') : RdLBridge H' l x := let ⟨a, h1, h2⟩ := h; ⟨a, h1, h2.keep hk (by simp)⟩
theorem RdLBridge.app (h : RdLBridge H l x) (G : Heap) : RdLBridge (H ++ G) l x := h.base (Keep.app _ _ _)
theorem IsBridge.len (h : IsBridge H l x fp) : l.length = 2 := by obtain ⟨a, rfl, -⟩ := h; rfl
theorem RdLBridge.len (h : RdLBridge H l x) : l.length = 2 := by obtain ⟨a, rfl, -⟩ := h; rfl
theorem RdBridge.len (h : RdBridge H l x) : l.length = 2 := by obtain ⟨a, rfl, -⟩ := h; rfl
theorem IsBridge.free (h : IsBridge H' l x fp) (hr : l.all refFree = true) (H2 : Heap) : IsBridge H2 l x [] := by
  obtain ⟨a, rfl, h2⟩ := h
  exact ⟨a, rfl, h2.free (n := x.ports.length) (by simp [Bridge.enc] at hr; exact hr) H2⟩
theorem IsBridge.leave {ws : List W} (h : IsBridge H' l x fp) (hf : Fresh H H' fp) (hw : ws.all W.free = true → l.all refFree = true) : ∃ fp', IsBridge (leave H H' ws) l x fp' ∧ Fresh H (leave H H' ws) fp' := by
  rcases leave_opt H H' ws with e | ⟨e, hr⟩ <;> rw [e]
  · exact ⟨fp, h, hf⟩
  · exact ⟨[], h.free (hw hr) H, Fresh.refl H⟩
end

def IsMinder (H : Heap) (l : List Lf) (x : Minder) (fp : List Nat) : Prop := ∃ a, l = x.enc a ∧ Own H 50 a (x.log.map In.enc) fp
def RdMinder (H : Heap) (l : List Lf) (x : Minder) : Prop := ∃ a, l = x.enc a ∧ Sl H 50 a (x.log.map In.enc)
def RdLMinder (H : Heap) (l : List Lf) (x : Minder) : Prop := ∃ a, l = x.enc a ∧ Sl H 34 a (x.log.map In.enc)
abbrev Minder.sz (x : Minder) : Nat := x.log.length
def Minder.fit (x : Minder) : Prop := x.log.length ≤ maxLen
section
variable {H H' : Heap} {l : List Lf} {x : Minder} {fp : List Nat}
theorem IsMinder.keep {f : List Nat} (h : IsMinder H l x fp) (hk : Keep f H H') (hd : ∀ i ∈ fp, i ∉ f) : IsMinder H' l x fp := let ⟨a, h1, h2⟩ := h; ⟨a, h1, h2.keep hk hd⟩
theorem IsMinder.app (h : IsMinder H l x fp) (G : Heap) : IsMinder (H ++ G) l x fp := let ⟨a, h1, h2⟩ := h; ⟨a, h1, h2.app G⟩
theorem IsMinder.lt (h : IsMinder H l x fp) : ∀ i ∈ fp, i < H.length := let ⟨_, _, h2⟩ := h; h2.lt
theorem IsMinder.nodup (h : IsMinder H l x fp) : fp.Nodup := let ⟨_, _, h2⟩ := h; h2.nodup
theorem IsMinder.rd (h : IsMinder H l x fp) : RdMinder H l x := let ⟨a, h1, h2⟩ := h; ⟨a, h1, h2.sl⟩
theorem RdMinder.base (h : RdMinder H l x) (hk : Keep [] H H') : RdMinder H' l x := let ⟨a, h1, h2⟩ := h; ⟨a, h1, h2.keep hk (by simp)⟩
theorem RdMinder.app (h : RdMinder H l x) (G : Heap) : RdMinder (H ++ G) l x := h.base (Keep.app _ _ _)
theorem RdLMinder.base (h : RdLMinder H l x) (hk : Keep [] H H') : RdLMinder H' l x := let ⟨a, h1, h2⟩ := h; ⟨a, h1, h2.keep hk (by simp)⟩
theorem RdLMinder.app (h : RdLMinder H l x) (G : Heap) : RdLMinder (H ++ G) l x := h.base (Keep.app _ _ _)
theorem IsMinder.len (h : IsMinder H l x fp) : l.length = 7 := by obtain ⟨a, rfl, -⟩ := h; rfl
theorem RdLMinder.len (h : RdLMinder H l x) : l.length = 7 := by obtain ⟨a, rfl, -⟩ := h; rfl
theorem RdMinder.len (h : RdMinder H l x) : l.length = 7 := by obtain ⟨a, rfl, -⟩ := h; rfl
theorem IsMinder.free (h : IsMinder H' l x fp) (hr : l.all refFree = true) (H2 : Heap) : IsMinder H2 l x [] := by
  obtain ⟨a, rfl, h2⟩ := h
  exact ⟨a, rfl, h2.free (n := x.log.length) (by simp [Minder.enc] at hr; exact hr) H2⟩
theorem IsMinder.leave {ws : List W} (h : IsMinder H' l x fp) (hf : Fresh H H' fp) (hw : ws.all W.free = true → l.all refFree = true) : ∃ fp', IsMinder (leave H H' ws) l x fp' ∧ Fresh H (leave H H' ws) fp' := by
  rcases leave_opt H H' ws with e | ⟨e, hr⟩ <;> rw [e]
  · exact ⟨fp, h, hf⟩
  · exact ⟨[], h.free (hw hr) H, Fresh.refl H⟩
end

theorem szMinder_is {H : Heap} {l : List Lf} {x : Minder} (h : RdLMinder H l x) (hf : x.fit) {left : Int} (h1 : 0 ≤ left) (h2 : left ≤ 1048576) (G : Heap) :
    run env 59 [.agg l, .int left] (H ++ G) = some (.int (if left < x.sz then -1 else left - x.sz), H ++ G) := by
  obtain ⟨a, rfl, h⟩ := h
  exact szMinder _ a x left h1 h2 hf

theorem toMinder_is {H : Heap} {l : List Lf} {x : Minder} (h : RdLMinder H l x) (hn : x.sz ≤ 1048576) : Runs env 72 [.agg l] H fun v H' => ∃ l' fp, v = .agg l' ∧ IsMinder H' l' x fp ∧ Fresh H H' fp := by
  obtain ⟨a, rfl, h⟩ := h
  exact (toMinder H a x h hn).mono fun v H' ⟨a', fp, h1, h2, h3⟩ => ⟨_, fp, h1, ⟨a', rfl, h2⟩, h3⟩

theorem eqMinder_is {H : Heap} {l r : List Lf} {x y : Minder} (h : RdMinder H l x) (h2 : RdMinder H r y) (hn : x.sz ≤ 1048576) : run env 82 [.agg l, .agg r] H = some (.bool (decide (x = y)), H) := by
  obtain ⟨a, rfl, h⟩ := h
  obtain ⟨b, rfl, h2⟩ := h2
  exact eqMinder H a b x y h h2 hn

theorem shpMinder_is {H : Heap} {k : Nat} {l : List Lf} (h : Shp Tryz.prog H (k + 5) 97 l) : ∃ x : Minder, RdLMinder H l x ∧ x.fit := by
  obtain ⟨x, a, rfl, hs, hl⟩ := shpMinder h
  exact ⟨x, ⟨a, rfl, hs⟩, hl⟩

def logOk (xs : List In) : Bool := xs.all In.ok && decide ((xs.length : Int) ≤ 60)

theorem implLogOk (H : Heap) (a : Option (Nat × Nat)) (xs : List In) (h : Sl H 50 a (xs.map In.enc)) (hn : xs.length ≤ 2000000) :
    run env 80 [.w (.lf (.sl a xs.length))] H = some (.bool (logOk xs), H) := by
  refine run_walk ok80 Tryz.func80 rfl (by simp [Tryz.f80]) fun Q hQ => ?_
  simp only [Tryz.f80, strip, stripL, stripI, stripG, chkT, tagsB, tagsL, tagD, addT, tagA, lookN, tagOp, elmT, ty24, ty25, ty26, ty27, ty28, ty39, ty40, ty41, ty42, ty57, ty59, ty62, ty98, Nat.reduceEqDiff, if_false, reduceIte, Option.getD_some, Option.getD_none, dstAt, dstOk, Nat.reduceLT, decide_true, if_true]
  simp [builtinV, pureB, lenV]
  refine wpS_loop (fun j tm H' => ∃ i G, i + j = xs.length ∧ tm 0 = .w (.lf (.sl a xs.length)) ∧ tm 5 = .w (.lf (.sl a xs.length)) ∧ tm 6 = .int xs.length ∧ tm 7 = .int i ∧ H' = H ++ G ∧ (xs.take i).all In.ok = true) xs.length (by rw [env_K]; omega) ⟨0, [], by simp, by simp, by simp, by simp, by simp, by simp, by simp⟩ ?_
  rintro j tm H' hj ⟨i, G, hij, h0, h5, h6, h7, rfl, hall⟩ Q' hn' he' hr'
  simp [h0, h5, h6, h7, builtinV, pureB, lenV]
  refine selS_intro (fun hc => ?_) (fun hc => ?_)
  · simp at hc
    obtain ⟨id, r, bl, rfl, hbl, hbe, hrow⟩ := h i _ (by simp [hc]; rfl)
    have hid := blkAt_len hbl
    have g4 : IntKind.i64.wrap ((i : Int) + 1) = (i : Int) + 1 := wrap64 (by omega) (by omega)
    simp [h0, h5, h6, h7, indexAddrV, elemIs, hid, hbl, hbe, hc, hrow, implInOk]
    refine selS_intro (fun hd => ?_) (fun hd => ?_)
    · simp
      refine hr' _ _ ?_
      simp
      refine hQ _ _ _ (by simp) ?_
      have : xs.all In.ok = false := List.all_eq_false.2 ⟨xs[i], by simp, by simpa using hd⟩
      simp [Tryz.f80, this, logOk]
    · simp at hd
      simp [h0, h5, h6, h7, g4]
      refine hn' (j - 1) _ _ (by omega) ⟨i + 1, _, by omega, by simp [h0], by simp [h5], by simp [h6], by simp, rfl, ?_⟩
      rw [List.take_add_one, List.all_append, hall]
      simp [hc, hd]
  · simp at hc
    simp [h0, h5, h6, h7]
    refine he' _ _ _ ?_
    simp [h0, builtinV, pureB, lenV]
    refine hQ _ _ _ (by simp) ?_
    rw [List.take_of_length_le (by omega)] at hall
    simp [Tryz.f80, hall, logOk]

theorem specLogOk (H : Heap) (a : Option (Nat × Nat)) (xs : List In) (h : Sl H 50 a (xs.map In.enc)) (hn : xs.length ≤ 2000000) :
    run env 64 [.w (.lf (.sl a xs.length))] H = some (.bool (logOk xs), H) := by
  refine run_walk ok64 Tryz.func64 rfl (by simp [Tryz.f64]) fun Q hQ => ?_
  simp only [Tryz.f64, strip, stripL, stripI, stripG, chkT, tagsB, tagsL, tagD, addT, tagA, lookN, tagOp, elmT, ty24, ty25, ty26, ty27, ty28, ty39, ty40, ty41, ty42, ty57, ty59, ty62, ty98, Nat.reduceEqDiff, if_false, reduceIte, Option.getD_some, Option.getD_none, dstAt, dstOk, Nat.reduceLT, decide_true, if_true]
  simp [builtinV, pureB, lenV]
  refine wpS_loop (fun j tm H' => ∃ i, i + j = xs.length ∧ tm 0 = .w (.lf (.sl a xs.length)) ∧ tm 3 = .int i ∧ H' = H ∧ (xs.take i).all In.ok = true) xs.length (by rw [env_K]; omega) ⟨0, by simp, by simp, by simp, rfl, by simp⟩ ?_
  rintro j tm H' hj ⟨i, hij, h0, h3, rfl, hall⟩ Q' hn' he' hr'
  simp [h0, h3, builtinV, pureB, lenV]
  refine selS_intro (fun hc => ?_) (fun hc => ?_)
  · simp at hc
    obtain ⟨id, r, bl, rfl, hbl, hbe, hrow⟩ := h i _ (by simp [hc]; rfl)
    have g4 : IntKind.i64.wrap ((i : Int) + 1) = (i : Int) + 1 := wrap64 (by omega) (by omega)
    simp [h0, h3, indexAddrV, elemIs, hbl, hbe, hc, hrow, specInOk]
    refine selS_intro (fun hd => ?_) (fun hd => ?_)
    · simp
      refine hr' _ _ ?_
      simp
      refine hQ _ _ _ (by simp) ?_
      have : xs.all In.ok = false := List.all_eq_false.2 ⟨xs[i], by simp, by simpa using hd⟩
      simp [Tryz.f64, this, logOk]
    · simp at hd
      simp [h0, h3, g4]
      refine hn' (j - 1) _ _ (by omega) ⟨i + 1, by omega, by simp [h0], by simp, rfl, ?_⟩
      rw [List.take_add_one, List.all_append, hall]
      simp [hc, hd]
  · simp at hc
    simp [h0, h3]
    refine he' _ _ _ ?_
    simp [h0, builtinV, pureB, lenV]
    refine hQ _ _ _ (by simp) ?_
    rw [List.take_of_length_le (by omega)] at hall
    simp [Tryz.f64, hall, logOk]

def Minder.ok (m : Minder) : Bool := (decide (0 ≤ m.life) && decide (m.life ≤ 100000)) && (decide (0 ≤ m.epoch) && decide (m.epoch ≤ 100000)) && (decide (0 ≤ m.ackLife) && decide (m.ackLife ≤ 100000)) && logOk m.log &&
  (decide (0 ≤ m.said) && decide (m.said ≤ m.log.length)) && (decide (0 ≤ m.acked) && decide (m.acked ≤ m.log.length)) && (m.up || decide (m.epoch = 0) && decide ((m.log.length : Int) = 0) && decide (m.ackLife = 0))

theorem implMinderOk (H : Heap) (a : Option (Nat × Nat)) (m : Minder) (h : Sl H 50 a (m.log.map In.enc)) (hn : m.log.length ≤ 2000000) :
    run env 78 [.agg (m.enc a)] H = some (.bool m.ok, H) := by
  have e := fun G => implLogOk (H ++ G) a m.log (h.app _) hn
  obtain ⟨a1, a2, a3, a4, a5, a6, a7⟩ := m
  simp only at e
  refine run_walk ok78 Tryz.func78 rfl (by simp [Tryz.f78]) fun Q hQ => ?_
  simp only [Tryz.f78, strip, stripL, stripI, stripG, chkT, tagsB, tagsL, tagD, addT, tagA, lookN, tagOp, elmT, ty24, ty25, ty26, ty27, ty28, ty39, ty40, ty41, ty42, ty57, ty59, ty62, ty98, Nat.reduceEqDiff, if_false, reduceIte, Option.getD_some, Option.getD_none, dstAt, dstOk, Nat.reduceLT, decide_true, if_true]
  simp [Minder.enc, isNum]
  repeat' (first | (refine gdL_t (fun h => ?_) (fun h => ?_) <;> simp [h, isNum, inRange, e, builtinV, pureB, lenV]) | (refine gdL_f (fun h => ?_) (fun h => ?_) <;> simp [h, isNum, inRange, e, builtinV, pureB, lenV]) | (refine selS_intro (fun h => ?_) (fun h => ?_) <;> simp [h, isNum, inRange, e, builtinV, pureB, lenV]))
  all_goals (refine hQ _ _ _ (by simp) ?_)
  all_goals (clear hQ; simp_all [Tryz.f78, Minder.ok])
  all_goals (try (intros; exfalso; omega))

theorem specMinderOk (H : Heap) (a : Option (Nat × Nat)) (m : Minder) (h : Sl H 50 a (m.log.map In.enc)) (hn : m.log.length ≤ 2000000) :
    run env 62 [.agg (m.enc a)] H = some (.bool m.ok, H) := by
  have e := fun G => specLogOk (H ++ G) a m.log (h.app _) hn
  obtain ⟨a1, a2, a3, a4, a5, a6, a7⟩ := m
  simp only at e
  refine run_walk ok62 Tryz.func62 rfl (by simp [Tryz.f62]) fun Q hQ => ?_
  simp only [Tryz.f62, strip, stripL, stripI, stripG, chkT, tagsB, tagsL, tagD, addT, tagA, lookN, tagOp, elmT, ty24, ty25, ty26, ty27, ty28, ty39, ty40, ty41, ty42, ty57, ty59, ty62, ty98, Nat.reduceEqDiff, if_false, reduceIte, Option.getD_some, Option.getD_none, dstAt, dstOk, Nat.reduceLT, decide_true, if_true]
  simp [Minder.enc, l1In]
  repeat' (first | (refine gdL_t (fun h => ?_) (fun h => ?_) <;> simp [h, l1In, e, builtinV, pureB, lenV]) | (refine gdL_f (fun h => ?_) (fun h => ?_) <;> simp [h, l1In, e, builtinV, pureB, lenV]) | (refine selS_intro (fun h => ?_) (fun h => ?_) <;> simp [h, l1In, e, builtinV, pureB, lenV]))
  all_goals (refine hQ _ _ _ (by simp) ?_)
  all_goals (clear hQ; simp_all [Tryz.f62, Minder.ok])
  all_goals (try (intros; exfalso; omega))

def gates (b : Bridge) : List Bool := b.ports.map Port.opn
@[simp] theorem gates_len (b : Bridge) : (gates b).length = b.ports.length := by simp [gates]

theorem implMinderOk_is {H : Heap} {l : List Lf} {m : Minder} (h : RdMinder H l m) (hn : m.sz ≤ 2000000) : run env 78 [.agg l] H = some (.bool m.ok, H) := by
  obtain ⟨a, rfl, h⟩ := h
  exact implMinderOk H a m h hn

theorem specMinderOk_is {H : Heap} {l : List Lf} {m : Minder} (h : RdMinder H l m) (hn : m.sz ≤ 2000000) : run env 62 [.agg l] H = some (.bool m.ok, H) := by
  obtain ⟨a, rfl, h⟩ := h
  exact specMinderOk H a m h hn

theorem implReady_is {H : Heap} {l : List Lf} {m : Minder} (h : RdMinder H l m) (hn : m.sz ≤ 1048576) (p : Int) (_ : I64 p) : run env 123 [.agg l, .int p] H = some (.bool (ready m p), H) := by
  obtain ⟨a, rfl, h⟩ := h
  exact implReady H a m p

theorem specReady_is {H : Heap} {l : List Lf} {m : Minder} (h : RdMinder H l m) (hn : m.sz ≤ 1048576) (p : Int) (_ : I64 p) : run env 96 [.agg l, .int p] H = some (.bool (ready m p), H) := by
  obtain ⟨a, rfl, h⟩ := h
  exact specReady H a m p

def minds (r : Reg) (s : Int) (m : Minder) : Bool := r.ok && m.ok && m.up && decide (s = r.owner) && decide (m.epoch = r.epoch)

theorem implMinds_is {H : Heap} {l : List Lf} {m : Minder} (h : RdMinder H l m) (hn : m.sz ≤ 1048576) (r : Reg) (s : Int) (_ : I64 s) : run env 133 [.agg r.enc, .int s, .agg l] H = some (.bool (minds r s m), H) := by
  have e := fun G => implMinderOk_is (h.app G) (by omega)
  have e2 := fun H => implRegOk H r
  obtain ⟨a, rfl, h⟩ := h
  have hp : r.ok = true → 1 ≤ r.epoch := by simp [Reg.ok]; omega
  simp only [Reg.enc, Minder.enc] at e e2 ⊢
  refine run_walk ok133 Tryz.func133 rfl (by simp [Tryz.f133]) fun Q hQ => ?_
  simp only [Tryz.f133, strip, stripL, stripI, stripG, chkT, tagsB, tagsL, tagD, addT, tagA, lookN, tagOp, elmT, ty24, ty25, ty26, ty27, ty28, ty39, ty40, ty41, ty42, ty57, ty59, ty62, ty98, Nat.reduceEqDiff, if_false, reduceIte, Option.getD_some, Option.getD_none, dstAt, dstOk, Nat.reduceLT, decide_true, if_true]
  simp [Minder.enc, Reg.enc, e2]
  repeat' (first | (refine gdL_t (fun h => ?_) (fun h => ?_) <;> simp [h, e, e2]) | (refine gdL_f (fun h => ?_) (fun h => ?_) <;> simp [h, e, e2]) | (refine selS_intro (fun h => ?_) (fun h => ?_) <;> simp [h, e, e2]))
  all_goals (refine hQ _ _ _ (by simp) ?_)
  all_goals (clear hQ; simp_all [Tryz.f133, minds])
  all_goals (try omega)

theorem specMinds_is {H : Heap} {l : List Lf} {m : Minder} (h : RdMinder H l m) (hn : m.sz ≤ 1048576) (r : Reg) (s : Int) (_ : I64 s) : run env 116 [.agg r.enc, .int s, .agg l] H = some (.bool (minds r s m), H) := by
  have e := fun G => specMinderOk_is (h.app G) (by omega)
  have e2 := fun H => specRegOk H r
  obtain ⟨a, rfl, h⟩ := h
  simp only [Reg.enc, Minder.enc] at e e2 ⊢
  refine run_walk ok116 Tryz.func116 rfl (by simp [Tryz.f116]) fun Q hQ => ?_
  simp only [Tryz.f116, strip, stripL, stripI, stripG, chkT, tagsB, tagsL, tagD, addT, tagA, lookN, tagOp, elmT, ty24, ty25, ty26, ty27, ty28, ty39, ty40, ty41, ty42, ty57, ty59, ty62, ty98, Nat.reduceEqDiff, if_false, reduceIte, Option.getD_some, Option.getD_none, dstAt, dstOk, Nat.reduceLT, decide_true, if_true]
  simp [Minder.enc, Reg.enc, e2]
  repeat' (first | (refine gdL_t (fun h => ?_) (fun h => ?_) <;> simp [h, e, e2]) | (refine gdL_f (fun h => ?_) (fun h => ?_) <;> simp [h, e, e2]) | (refine selS_intro (fun h => ?_) (fun h => ?_) <;> simp [h, e, e2]))
  all_goals (refine hQ _ _ _ (by simp) ?_)
  all_goals (clear hQ; simp_all [Tryz.f116, minds])
  all_goals (try omega)

def pairs (r : Reg) (s : Int) (m : Minder) (pair : Int) : Reg × Bool := if minds r s m && (decide (pair = 0) || decide (pair = m.ackLife) && decide (m.acked = m.log.length)) then ({ r with pair := pair }, true) else (r, false)

theorem implPairs_is {H : Heap} {l : List Lf} {m : Minder} (h : RdMinder H l m) (hn : m.sz ≤ 1048576) (r : Reg) (s : Int) (hs : I64 s) (p : Int) (_ : I64 p) : run env 143 [.agg r.enc, .int s, .agg l, .int p] H = some (.tup [.agg (pairs r s m p).1.enc, .lf (.b (pairs r s m p).2)], H) := by
  have e := fun G => implMinds_is (h.app G) hn r s hs
  obtain ⟨a, rfl, h⟩ := h
  simp only [Reg.enc, Minder.enc] at e ⊢
  refine run_walk ok143 Tryz.func143 rfl (by simp [Tryz.f143]) fun Q hQ => ?_
  simp only [Tryz.f143, strip, stripL, stripI, stripG, chkT, tagsB, tagsL, tagD, addT, tagA, lookN, tagOp, elmT, ty24, ty25, ty26, ty27, ty28, ty39, ty40, ty41, ty42, ty57, ty59, ty62, ty98, Nat.reduceEqDiff, if_false, reduceIte, Option.getD_some, Option.getD_none, dstAt, dstOk, Nat.reduceLT, decide_true, if_true]
  simp [Minder.enc, Reg.enc, e]
  repeat' (first | (refine gdL_t (fun h => ?_) (fun h => ?_) <;> simp [h, e, builtinV, pureB, lenV]) | (refine gdL_f (fun h => ?_) (fun h => ?_) <;> simp [h, e, builtinV, pureB, lenV]) | (refine selS_intro (fun h => ?_) (fun h => ?_) <;> simp [h, e, builtinV, pureB, lenV]))
  all_goals (refine hQ _ _ _ (by simp) ?_)
  all_goals (clear hQ; simp_all [Tryz.f143, pairs])

theorem specPairs_is {H : Heap} {l : List Lf} {m : Minder} (h : RdMinder H l m) (hn : m.sz ≤ 1048576) (r : Reg) (s : Int) (hs : I64 s) (p : Int) (_ : I64 p) : run env 103 [.agg r.enc, .int s, .agg l, .int p] H = some (.tup [.agg (pairs r s m p).1.enc, .lf (.b (pairs r s m p).2)], H) := by
  have e := fun G => specMinds_is (h.app G) hn r s hs
  obtain ⟨a, rfl, h⟩ := h
  simp only [Reg.enc, Minder.enc] at e ⊢
  refine run_walk ok103 Tryz.func103 rfl (by simp [Tryz.f103]) fun Q hQ => ?_
  simp only [Tryz.f103, strip, stripL, stripI, stripG, chkT, tagsB, tagsL, tagD, addT, tagA, lookN, tagOp, elmT, ty24, ty25, ty26, ty27, ty28, ty39, ty40, ty41, ty42, ty57, ty59, ty62, ty98, Nat.reduceEqDiff, if_false, reduceIte, Option.getD_some, Option.getD_none, dstAt, dstOk, Nat.reduceLT, decide_true, if_true]
  simp [Minder.enc, Reg.enc, e]
  repeat' (first | (refine gdL_t (fun h => ?_) (fun h => ?_) <;> simp [h, e, builtinV, pureB, lenV]) | (refine gdL_f (fun h => ?_) (fun h => ?_) <;> simp [h, e, builtinV, pureB, lenV]) | (refine selS_intro (fun h => ?_) (fun h => ?_) <;> simp [h, e, builtinV, pureB, lenV]))
  all_goals (refine hQ _ _ _ (by simp) ?_)
  all_goals (clear hQ; simp_all [Tryz.f103, pairs])

theorem copyMinder {H : Heap} {l : List Lf} {m : Minder} (h : RdMinder H l m) (hn : m.sz ≤ 1048576) : Runs env 86 [.agg l] H fun v H' => ∃ l' fp, v = .agg l' ∧ IsMinder H' l' m fp ∧ Fresh H H' fp := by
  obtain ⟨a, rfl, h⟩ := h
  refine Runs.walk ok86 Tryz.func86 rfl (by simp [Tryz.f86]) fun Q hQ => ?_
  simp only [Tryz.f86, strip, stripL, stripI, stripG, chkT, tagsB, tagsL, tagD, addT, tagA, lookN, tagOp, elmT, ty24, ty25, ty26, ty27, ty28, ty39, ty40, ty41, ty42, ty57, ty59, ty62, ty98, Nat.reduceEqDiff, if_false, reduceIte, Option.getD_some, Option.getD_none, dstAt, dstOk, Nat.reduceLT, decide_true, if_true]
  simp [Minder.enc]
  refine stpL_runs (cloneInS (q := .sl a m.log.length) ⟨a, rfl, h.app _⟩ hn) ?_
  rintro _ H1 ⟨_, f, rfl, ⟨a1, rfl, o1⟩, ⟨⟨G, rfl⟩, hf⟩⟩
  simp
  refine hQ _ _ _ (by simp) ?_
  simp [Tryz.f86]
  have ho : IsMinder (H ++ [some ⟨106, .wr, [m.enc a1]⟩, some ⟨106, .wr, [m.enc a1]⟩] ++ G) (m.enc a1) m f := ⟨a1, rfl, o1.keep (Keep.swap G (by simp)) fun i hi => by have := hf i hi; simp at this ⊢; omega⟩
  simp [Minder.enc] at ho
  obtain ⟨f', h1, h2⟩ := ho.leave (H := H) (ws := [W.agg (m.enc a1)]) (Fresh.app H _ fun i hi => by have := hf i hi; simp at this; omega) (by simp [Minder.enc])
  exact ⟨f', h1, h2⟩

theorem specCopyM {H : Heap} {l : List Lf} {m : Minder} (h : RdMinder H l m) (hn : m.sz ≤ 1048576) : Runs env 71 [.agg l] H fun v H' => ∃ l' fp, v = .agg l' ∧ IsMinder H' l' m fp ∧ Fresh H H' fp := by
  obtain ⟨a, rfl, h⟩ := h
  refine Runs.walk ok71 Tryz.func71 rfl (by simp [Tryz.f71]) fun Q hQ => ?_
  simp only [Tryz.f71, strip, stripL, stripI, stripG, chkT, tagsB, tagsL, tagD, addT, tagA, lookN, tagOp, elmT, ty24, ty25, ty26, ty27, ty28, ty39, ty40, ty41, ty42, ty57, ty59, ty62, ty98, Nat.reduceEqDiff, if_false, reduceIte, Option.getD_some, Option.getD_none, dstAt, dstOk, Nat.reduceLT, decide_true, if_true]
  simp [Minder.enc]
  refine stpL_append (rows := []) (ys := m.log.map In.enc) (Own.of (by simp)) (h.app _) rfl rfl rfl (by simp) (by have : m.log.length ≤ 1048576 := hn; simp; omega) rfl (by simp) fun a1 H1 f o1 hk hf => ?_
  obtain ⟨⟨G, rfl⟩, hf⟩ : Fresh (H ++ [some ⟨106, .wr, [m.enc a]⟩, some ⟨106, .wr, [(⟨false, 0, 0, [], 0, 0, 0⟩ : Minder).enc none]⟩]) H1 f := by
    refine Fresh.grow (fp := [H.length + 2]) (G := [some ⟨50, .wr, []⟩]) (by simp) (by simpa [Minder.enc] using hk) ?_
    intro i hi
    have := hf i hi
    simp at this ⊢
    omega
  simp
  refine hQ _ _ _ (by simp) ?_
  simp [Tryz.f71]
  have ho : IsMinder (H ++ [some ⟨106, .wr, [m.enc a1]⟩, some ⟨106, .wr, [m.enc a1]⟩] ++ G) (m.enc a1) m f := ⟨a1, rfl, o1.keep (Keep.swap G (by simp)) fun i hi => by have := hf i hi; simp at this ⊢; omega⟩
  simp [Minder.enc] at ho
  obtain ⟨f', h1, h2⟩ := ho.leave (H := H) (ws := [W.agg (m.enc a1)]) (Fresh.app H _ fun i hi => by have := hf i hi; simp at this; omega) (by simp [Minder.enc])
  exact ⟨f', h1, h2⟩

def note (m : Minder) (x : In) : Minder × Bool := if m.up && ({ m with log := m.log ++ [x] } : Minder).ok then ({ m with log := m.log ++ [x] }, true) else (m, false)

theorem implNote_is {H : Heap} {l : List Lf} {m : Minder} (h : RdMinder H l m) (hn : m.sz ≤ 1048576) (x : In) : Runs env 122 [.agg l, .agg x.enc] H fun v H' => ∃ l' fp, v = .tup [.agg l', .lf (.b (note m x).2)] ∧ IsMinder H' l' (note m x).1 fp ∧ Fresh H H' fp := by
  have hR := h
  have hn' : m.log.length ≤ 1048576 := hn
  obtain ⟨a, rfl, h⟩ := h
  refine Runs.walk ok122 Tryz.func122 rfl (by simp [Tryz.f122]) fun Q hQ => ?_
  simp only [Tryz.f122, strip, stripL, stripI, stripG, chkT, tagsB, tagsL, tagD, addT, tagA, lookN, tagOp, elmT, ty24, ty25, ty26, ty27, ty28, ty39, ty40, ty41, ty42, ty57, ty59, ty62, ty98, Nat.reduceEqDiff, if_false, reduceIte, Option.getD_some, Option.getD_none, dstAt, dstOk, Nat.reduceLT, decide_true, if_true]
  simp
  refine stpL_runs (copyMinder (hR.app _) hn) ?_
  rintro _ H1 ⟨_, f, rfl, ⟨a1, rfl, o1⟩, ⟨⟨G, rfl⟩, hf⟩⟩
  simp [Minder.enc]
  have hfl := o1.lt
  refine stpL_append (rows := m.log.map In.enc) (ys := [x.enc]) (by simpa [Minder.enc] using o1.app _) (Sl.of (by simp)) rfl rfl rfl (by simp) (by simp; omega) (by simp) rfl ?_
  intro a2 H2 f2 o2 hk2 hf2
  obtain ⟨G2, rfl, hG2, hx2⟩ := Keep.cut (L := [_, _, _]) hk2 (by intro i hi; have := hf i hi; simp at this ⊢; omega)
  have hx := hx2 G.length _ (by simp; rfl) (by intro hi; have := hfl _ hi; simp at this; omega)
  simp at hG2
  have hG3 : G.length < G2.length := by omega
  have lo2 : ∀ i ∈ f2, H.length + 3 ≤ i ∧ i ≠ H.length + (G.length + 3) := fun i hi => by
    rcases hf2 i hi with h1 | h1
    · have h3 := hf i h1
      have h4 := hfl i h1
      simp at h3 h4
      omega
    · simp at h1
      omega
  have o3 := fun y => o2.keep (Keep.set (id := H.length + (G.length + 3)) _ y) (fun i hi => by have := lo2 i hi; simp; omega)
  simp at o3
  have e2 := fun y => implMinderOk_is (m := { m with log := m.log ++ [x] }) ⟨a2, rfl, by simpa using (o3 y).sl⟩ (by simp [Minder.sz]; omega)
  simp [Minder.enc] at e2
  simp [hx, hG3, blkAt_set]
  repeat' (first | (refine gdL_t (fun h => ?_) (fun h => ?_) <;> simp [h, e2, hG3, blkAt_set]) | (refine gdL_f (fun h => ?_) (fun h => ?_) <;> simp [h, e2, hG3, blkAt_set]) | (refine selS_intro (fun h => ?_) (fun h => ?_) <;> simp [h, e2, hG3, blkAt_set]))
  · refine stpL_runs (copyMinder (hR.base (Keep.app _ H _)) hn) ?_
    rintro _ H4 ⟨_, f4, rfl, ⟨a4, rfl, o4⟩, ⟨⟨G4, rfl⟩, hf4⟩⟩
    simp
    refine hQ _ _ _ (by simp) ?_
    have hnote : note m x = (m, false) := by
      clear hQ
      simp [note]
      simp_all
    simp [Tryz.f122, hnote, Minder.enc]
    have o5 := fun y => o4.keep (Keep.set (id := H.length + 2) _ y) (fun i hi => by have := hf4 i hi; simp at this ⊢; omega)
    simp at o5
    exact IsMinder.leave ⟨a4, rfl, o5 _⟩ (Fresh.app H _ fun i hi => by have := hf4 i hi; simp at this; omega) (by simp)
  · refine stpL_runs (copyMinder (hR.base (Keep.app _ H _)) hn) ?_
    rintro _ H4 ⟨_, f4, rfl, ⟨a4, rfl, o4⟩, ⟨⟨G4, rfl⟩, hf4⟩⟩
    simp
    refine hQ _ _ _ (by simp) ?_
    have hnote : note m x = (m, false) := by
      clear hQ
      simp [note]
      simp_all
    simp [Tryz.f122, hnote, Minder.enc]
    have o5 := fun y => o4.keep (Keep.set (id := H.length + 2) _ y) (fun i hi => by have := hf4 i hi; simp at this ⊢; omega)
    simp at o5
    exact IsMinder.leave ⟨a4, rfl, o5 _⟩ (Fresh.app H _ fun i hi => by have := hf4 i hi; simp at this; omega) (by simp)
  · refine hQ _ _ _ (by simp) ?_
    have hnote : note m x = ({ m with log := m.log ++ [x] }, true) := by
      clear hQ
      simp [note]
      simp_all
    simp [Tryz.f122, hnote, Minder.enc]
    have o5 := fun y z => (o3 y).keep (Keep.set (id := H.length + 2) _ z) (fun i hi => by have := lo2 i hi; simp; omega)
    simp at o5
    exact IsMinder.leave ⟨a2, by simp [Minder.enc], by simpa using o5 _ _⟩ (Fresh.app H _ fun i hi => by have := lo2 i hi; omega) (by simp)

theorem specNote_is {H : Heap} {l : List Lf} {m : Minder} (h : RdMinder H l m) (hn : m.sz ≤ 1048576) (x : In) : Runs env 95 [.agg l, .agg x.enc] H fun v H' => ∃ l' fp, v = .tup [.agg l', .lf (.b (note m x).2)] ∧ IsMinder H' l' (note m x).1 fp ∧ Fresh H H' fp := by
  have hR := h
  have hn' : m.log.length ≤ 1048576 := hn
  obtain ⟨a, rfl, h⟩ := h
  refine Runs.walk ok95 Tryz.func95 rfl (by simp [Tryz.f95]) fun Q hQ => ?_
  simp only [Tryz.f95, strip, stripL, stripI, stripG, chkT, tagsB, tagsL, tagD, addT, tagA, lookN, tagOp, elmT, ty24, ty25, ty26, ty27, ty28, ty39, ty40, ty41, ty42, ty57, ty59, ty62, ty98, Nat.reduceEqDiff, if_false, reduceIte, Option.getD_some, Option.getD_none, dstAt, dstOk, Nat.reduceLT, decide_true, if_true]
  simp
  refine stpL_runs (specCopyM (hR.app _) hn) ?_
  rintro _ H1 ⟨_, f, rfl, ⟨a1, rfl, o1⟩, ⟨⟨G, rfl⟩, hf⟩⟩
  simp [Minder.enc]
  have hfl := o1.lt
  refine stpL_append (rows := m.log.map In.enc) (ys := [x.enc]) (by simpa [Minder.enc] using o1.app _) (Sl.of (by simp)) rfl rfl rfl (by simp) (by simp; omega) (by simp) rfl ?_
  intro a2 H2 f2 o2 hk2 hf2
  obtain ⟨G2, rfl, hG2, hx2⟩ := Keep.cut (L := [_, _, _]) hk2 (by intro i hi; have := hf i hi; simp at this ⊢; omega)
  have hx := hx2 G.length _ (by simp; rfl) (by intro hi; have := hfl _ hi; simp at this; omega)
  simp at hG2
  have hG3 : G.length < G2.length := by omega
  have lo2 : ∀ i ∈ f2, H.length + 3 ≤ i ∧ i ≠ H.length + (G.length + 3) := fun i hi => by
    rcases hf2 i hi with h1 | h1
    · have h3 := hf i h1
      have h4 := hfl i h1
      simp at h3 h4
      omega
    · simp at h1
      omega
  have o3 := fun y => o2.keep (Keep.set (id := H.length + (G.length + 3)) _ y) (fun i hi => by have := lo2 i hi; simp; omega)
  simp at o3
  have e2 := fun y => specMinderOk_is (m := { m with log := m.log ++ [x] }) ⟨a2, rfl, by simpa using (o3 y).sl⟩ (by simp [Minder.sz]; omega)
  simp [Minder.enc] at e2
  simp [hx, hG3, blkAt_set]
  repeat' (first | (refine gdL_t (fun h => ?_) (fun h => ?_) <;> simp [h, e2, hG3, blkAt_set]) | (refine gdL_f (fun h => ?_) (fun h => ?_) <;> simp [h, e2, hG3, blkAt_set]) | (refine selS_intro (fun h => ?_) (fun h => ?_) <;> simp [h, e2, hG3, blkAt_set]))
  · refine stpL_runs (specCopyM (hR.base (Keep.app _ H _)) hn) ?_
    rintro _ H4 ⟨_, f4, rfl, ⟨a4, rfl, o4⟩, ⟨⟨G4, rfl⟩, hf4⟩⟩
    simp
    refine hQ _ _ _ (by simp) ?_
    have hnote : note m x = (m, false) := by
      clear hQ
      simp [note]
      simp_all
    simp [Tryz.f95, hnote, Minder.enc]
    have o5 := fun y => o4.keep (Keep.set (id := H.length + 2) _ y) (fun i hi => by have := hf4 i hi; simp at this ⊢; omega)
    simp at o5
    exact IsMinder.leave ⟨a4, rfl, o5 _⟩ (Fresh.app H _ fun i hi => by have := hf4 i hi; simp at this; omega) (by simp)
  · refine stpL_runs (specCopyM (hR.base (Keep.app _ H _)) hn) ?_
    rintro _ H4 ⟨_, f4, rfl, ⟨a4, rfl, o4⟩, ⟨⟨G4, rfl⟩, hf4⟩⟩
    simp
    refine hQ _ _ _ (by simp) ?_
    have hnote : note m x = (m, false) := by
      clear hQ
      simp [note]
      simp_all
    simp [Tryz.f95, hnote, Minder.enc]
    have o5 := fun y => o4.keep (Keep.set (id := H.length + 2) _ y) (fun i hi => by have := hf4 i hi; simp at this ⊢; omega)
    simp at o5
    exact IsMinder.leave ⟨a4, rfl, o5 _⟩ (Fresh.app H _ fun i hi => by have := hf4 i hi; simp at this; omega) (by simp)
  · refine hQ _ _ _ (by simp) ?_
    have hnote : note m x = ({ m with log := m.log ++ [x] }, true) := by
      clear hQ
      simp [note]
      simp_all
    simp [Tryz.f95, hnote, Minder.enc]
    have o5 := fun y z => (o3 y).keep (Keep.set (id := H.length + 2) _ z) (fun i hi => by have := lo2 i hi; simp; omega)
    simp at o5
    exact IsMinder.leave ⟨a2, by simp [Minder.enc], by simpa using o5 _ _⟩ (Fresh.app H _ fun i hi => by have := lo2 i hi; omega) (by simp)

def takeR (r : Reg) (s : Int) (m : Minder) : Reg × Minder × Bool :=
  if r.ok && m.ok && m.up && (decide (s = 0) || decide (s = 1)) && !decide (s = r.owner) && decide (0 < m.life) && decide (m.life = r.pair) && (⟨r.epoch + 1, s, 0⟩ : Reg).ok then (⟨r.epoch + 1, s, 0⟩, { m with epoch := r.epoch + 1, acked := 0, ackLife := 0 }, true) else (r, m, false)
theorem takeR_sz {r : Reg} {s : Int} {m : Minder} (hn : m.sz ≤ 1048576) : (takeR r s m).2.1.sz ≤ 1048576 := by
  unfold takeR
  split <;> exact hn

theorem implTake_is {H : Heap} {l : List Lf} {m : Minder} (h : RdMinder H l m) (hn : m.sz ≤ 1048576) (r : Reg) (s : Int) (_ : I64 s) : Runs env 141 [.agg r.enc, .int s, .agg l] H fun v H' => ∃ l' fp, v = .tup [.agg (takeR r s m).1.enc, .agg l', .lf (.b (takeR r s m).2.2)] ∧ IsMinder H' l' (takeR r s m).2.1 fp ∧ Fresh H H' fp := by
  have hR := h
  have hn' : m.log.length ≤ 1048576 := hn
  have e := fun G => implMinderOk_is (hR.app G) (by omega)
  have e2 := fun H x y z => implRegOk H ⟨x, y, z⟩
  have hw : r.ok = true → IntKind.i64.wrap (r.epoch + 1) = r.epoch + 1 := fun hr => by simp [Reg.ok] at hr; exact wrap64 (by omega) (by omega)
  obtain ⟨a, rfl, h⟩ := h
  obtain ⟨r1, r2, r3⟩ := r
  simp only at hw
  refine Runs.walk ok141 Tryz.func141 rfl (by simp [Tryz.f141]) fun Q hQ => ?_
  simp only [Tryz.f141, strip, stripL, stripI, stripG, chkT, tagsB, tagsL, tagD, addT, tagA, lookN, tagOp, elmT, ty24, ty25, ty26, ty27, ty28, ty39, ty40, ty41, ty42, ty57, ty59, ty62, ty98, Nat.reduceEqDiff, if_false, reduceIte, Option.getD_some, Option.getD_none, dstAt, dstOk, Nat.reduceLT, decide_true, if_true]
  simp
  refine stpL_runs (copyMinder (hR.app _) hn) ?_
  rintro _ H1 ⟨_, f, rfl, ⟨a1, rfl, o1⟩, ⟨⟨G, rfl⟩, hf⟩⟩
  simp only [Reg.enc, Minder.enc] at e e2
  simp [Minder.enc, Reg.enc, e2]
  repeat' (first | (refine gdL_t (fun h => ?_) (fun h => ?_) <;> simp [h, e, e2, isSide]) | (refine gdL_f (fun h => ?_) (fun h => ?_) <;> simp [h, e, e2, isSide]) | (refine selS_intro (fun h => ?_) (fun h => ?_) <;> simp [h, e, e2, isSide]))
  · refine hQ _ _ _ (by simp) ?_
    have ht : takeR ⟨r1, r2, r3⟩ s m = (⟨r1, r2, r3⟩, m, false) := by
      clear hQ
      simp [takeR]
      simp_all
      try (intros; first | omega | (exfalso; omega))
    simp [Tryz.f141, ht, Minder.enc, Reg.enc]
    exact IsMinder.leave ⟨a1, by simp [Minder.enc], o1.cut (L' := [_, _, _, _]) hf rfl⟩ (Fresh.app H _ fun i hi => by have := hf i hi; simp at this; omega) (by simp)
  · refine hQ _ _ _ (by simp) ?_
    have ht : takeR ⟨r1, r2, r3⟩ s m = (⟨r1, r2, r3⟩, m, false) := by
      clear hQ
      simp [takeR]
      simp_all
      try (intros; first | omega | (exfalso; omega))
    simp [Tryz.f141, ht, Minder.enc, Reg.enc]
    exact IsMinder.leave ⟨a1, by simp [Minder.enc], o1.cut (L' := [_, _, _, _]) hf rfl⟩ (Fresh.app H _ fun i hi => by have := hf i hi; simp at this; omega) (by simp)
  · refine hQ _ _ _ (by simp) ?_
    have ht : takeR ⟨r1, r2, r3⟩ s m = (⟨r1, r2, r3⟩, m, false) := by
      clear hQ
      simp [takeR]
      simp_all
      try (intros; first | omega | (exfalso; omega))
    simp [Tryz.f141, ht, Minder.enc, Reg.enc]
    exact IsMinder.leave ⟨a1, by simp [Minder.enc], o1.cut (L' := [_, _, _, _]) hf rfl⟩ (Fresh.app H _ fun i hi => by have := hf i hi; simp at this; omega) (by simp)
  · refine hQ _ _ _ (by simp) ?_
    have ht : takeR ⟨r1, r2, r3⟩ s m = (⟨r1, r2, r3⟩, m, false) := by
      clear hQ
      simp [takeR]
      simp_all
      try (intros; first | omega | (exfalso; omega))
    simp [Tryz.f141, ht, Minder.enc, Reg.enc]
    exact IsMinder.leave ⟨a1, by simp [Minder.enc], o1.cut (L' := [_, _, _, _]) hf rfl⟩ (Fresh.app H _ fun i hi => by have := hf i hi; simp at this; omega) (by simp)
  · refine hQ _ _ _ (by simp) ?_
    have ht : takeR ⟨r1, r2, r3⟩ s m = (⟨r1, r2, r3⟩, m, false) := by
      clear hQ
      simp [takeR]
      simp_all
      try (intros; first | omega | (exfalso; omega))
    simp [Tryz.f141, ht, Minder.enc, Reg.enc]
    exact IsMinder.leave ⟨a1, by simp [Minder.enc], o1.cut (L' := [_, _, _, _]) hf rfl⟩ (Fresh.app H _ fun i hi => by have := hf i hi; simp at this; omega) (by simp)
  · refine hQ _ _ _ (by simp) ?_
    have ht : takeR ⟨r1, r2, r3⟩ s m = (⟨r1, r2, r3⟩, m, false) := by
      clear hQ
      simp [takeR]
      simp_all
      try (intros; first | omega | (exfalso; omega))
    simp [Tryz.f141, ht, Minder.enc, Reg.enc]
    exact IsMinder.leave ⟨a1, by simp [Minder.enc], o1.cut (L' := [_, _, _, _]) hf rfl⟩ (Fresh.app H _ fun i hi => by have := hf i hi; simp at this; omega) (by simp)
  · refine hQ _ _ _ (by simp) ?_
    have ht : takeR ⟨r1, r2, r3⟩ s m = (⟨r1, r2, r3⟩, m, false) := by
      clear hQ
      simp [takeR]
      simp_all
      try (intros; first | omega | (exfalso; omega))
    simp [Tryz.f141, ht, Minder.enc, Reg.enc]
    exact IsMinder.leave ⟨a1, by simp [Minder.enc], o1.cut (L' := [_, _, _, _]) hf rfl⟩ (Fresh.app H _ fun i hi => by have := hf i hi; simp at this; omega) (by simp)
  · refine hQ _ _ _ (by simp) ?_
    have ht : takeR ⟨r1, r2, r3⟩ s m = (⟨r1, r2, r3⟩, m, false) := by
      clear hQ
      simp [takeR]
      simp_all
      try (intros; first | omega | (exfalso; omega))
    simp [Tryz.f141, ht, Minder.enc, Reg.enc]
    exact IsMinder.leave ⟨a1, by simp [Minder.enc], o1.cut (L' := [_, _, _, _]) hf rfl⟩ (Fresh.app H _ fun i hi => by have := hf i hi; simp at this; omega) (by simp)
  · refine hQ _ _ _ (by simp) ?_
    have ht : takeR ⟨r1, r2, r3⟩ s m = (⟨r1 + 1, s, 0⟩, { m with epoch := r1 + 1, acked := 0, ackLife := 0 }, true) := by
      clear hQ
      simp [takeR]
      simp_all
      try (intros; first | omega | (exfalso; omega))
    have hw2 : IntKind.i64.wrap (r1 + 1) = r1 + 1 := hw (by clear hQ; simp_all)
    simp [Tryz.f141, ht, hw2, Minder.enc, Reg.enc]
    exact IsMinder.leave ⟨a1, by simp [Minder.enc], o1.cut (L' := [_, _, _, _]) hf rfl⟩ (Fresh.app H _ fun i hi => by have := hf i hi; simp at this; omega) (by simp)

theorem specTake_is {H : Heap} {l : List Lf} {m : Minder} (h : RdMinder H l m) (hn : m.sz ≤ 1048576) (r : Reg) (s : Int) (_ : I64 s) : Runs env 102 [.agg r.enc, .int s, .agg l] H fun v H' => ∃ l' fp, v = .tup [.agg (takeR r s m).1.enc, .agg l', .lf (.b (takeR r s m).2.2)] ∧ IsMinder H' l' (takeR r s m).2.1 fp ∧ Fresh H H' fp := by
  have hR := h
  have hn' : m.log.length ≤ 1048576 := hn
  have e := fun G => specMinderOk_is (hR.app G) (by omega)
  have e2 := fun H x y z => specRegOk H ⟨x, y, z⟩
  have hw : r.ok = true → IntKind.i64.wrap (r.epoch + 1) = r.epoch + 1 := fun hr => by simp [Reg.ok] at hr; exact wrap64 (by omega) (by omega)
  obtain ⟨a, rfl, h⟩ := h
  obtain ⟨r1, r2, r3⟩ := r
  simp only at hw
  refine Runs.walk ok102 Tryz.func102 rfl (by simp [Tryz.f102]) fun Q hQ => ?_
  simp only [Tryz.f102, strip, stripL, stripI, stripG, chkT, tagsB, tagsL, tagD, addT, tagA, lookN, tagOp, elmT, ty24, ty25, ty26, ty27, ty28, ty39, ty40, ty41, ty42, ty57, ty59, ty62, ty98, Nat.reduceEqDiff, if_false, reduceIte, Option.getD_some, Option.getD_none, dstAt, dstOk, Nat.reduceLT, decide_true, if_true]
  simp
  refine stpL_runs (specCopyM (hR.app _) hn) ?_
  rintro _ H1 ⟨_, f, rfl, ⟨a1, rfl, o1⟩, ⟨⟨G, rfl⟩, hf⟩⟩
  simp only [Reg.enc, Minder.enc] at e e2
  simp [Minder.enc, Reg.enc, e2]
  repeat' (first | (refine gdL_t (fun h => ?_) (fun h => ?_) <;> simp [h, e, e2, l1In]) | (refine gdL_f (fun h => ?_) (fun h => ?_) <;> simp [h, e, e2, l1In]) | (refine selS_intro (fun h => ?_) (fun h => ?_) <;> simp [h, e, e2, l1In]))
  · refine hQ _ _ _ (by simp) ?_
    have ht : takeR ⟨r1, r2, r3⟩ s m = (⟨r1, r2, r3⟩, m, false) := by
      clear hQ
      simp [takeR]
      simp_all
      try (intros; first | omega | (exfalso; omega))
    simp [Tryz.f102, ht, Minder.enc, Reg.enc]
    exact IsMinder.leave ⟨a1, by simp [Minder.enc], o1.cut (L' := [_, _, _, _]) hf rfl⟩ (Fresh.app H _ fun i hi => by have := hf i hi; simp at this; omega) (by simp)
  · refine hQ _ _ _ (by simp) ?_
    have ht : takeR ⟨r1, r2, r3⟩ s m = (⟨r1, r2, r3⟩, m, false) := by
      clear hQ
      simp [takeR]
      simp_all
      try (intros; first | omega | (exfalso; omega))
    simp [Tryz.f102, ht, Minder.enc, Reg.enc]
    exact IsMinder.leave ⟨a1, by simp [Minder.enc], o1.cut (L' := [_, _, _, _]) hf rfl⟩ (Fresh.app H _ fun i hi => by have := hf i hi; simp at this; omega) (by simp)
  · refine hQ _ _ _ (by simp) ?_
    have ht : takeR ⟨r1, r2, r3⟩ s m = (⟨r1, r2, r3⟩, m, false) := by
      clear hQ
      simp [takeR]
      simp_all
      try (intros; first | omega | (exfalso; omega))
    simp [Tryz.f102, ht, Minder.enc, Reg.enc]
    exact IsMinder.leave ⟨a1, by simp [Minder.enc], o1.cut (L' := [_, _, _, _]) hf rfl⟩ (Fresh.app H _ fun i hi => by have := hf i hi; simp at this; omega) (by simp)
  · refine hQ _ _ _ (by simp) ?_
    have ht : takeR ⟨r1, r2, r3⟩ s m = (⟨r1, r2, r3⟩, m, false) := by
      clear hQ
      simp [takeR]
      simp_all
      try (intros; first | omega | (exfalso; omega))
    simp [Tryz.f102, ht, Minder.enc, Reg.enc]
    exact IsMinder.leave ⟨a1, by simp [Minder.enc], o1.cut (L' := [_, _, _, _]) hf rfl⟩ (Fresh.app H _ fun i hi => by have := hf i hi; simp at this; omega) (by simp)
  · refine hQ _ _ _ (by simp) ?_
    have ht : takeR ⟨r1, r2, r3⟩ s m = (⟨r1, r2, r3⟩, m, false) := by
      clear hQ
      simp [takeR]
      simp_all
      try (intros; first | omega | (exfalso; omega))
    simp [Tryz.f102, ht, Minder.enc, Reg.enc]
    exact IsMinder.leave ⟨a1, by simp [Minder.enc], o1.cut (L' := [_, _, _, _]) hf rfl⟩ (Fresh.app H _ fun i hi => by have := hf i hi; simp at this; omega) (by simp)
  · refine hQ _ _ _ (by simp) ?_
    have ht : takeR ⟨r1, r2, r3⟩ s m = (⟨r1, r2, r3⟩, m, false) := by
      clear hQ
      simp [takeR]
      simp_all
      try (intros; first | omega | (exfalso; omega))
    simp [Tryz.f102, ht, Minder.enc, Reg.enc]
    exact IsMinder.leave ⟨a1, by simp [Minder.enc], o1.cut (L' := [_, _, _, _]) hf rfl⟩ (Fresh.app H _ fun i hi => by have := hf i hi; simp at this; omega) (by simp)
  · refine hQ _ _ _ (by simp) ?_
    have ht : takeR ⟨r1, r2, r3⟩ s m = (⟨r1, r2, r3⟩, m, false) := by
      clear hQ
      simp [takeR]
      simp_all
      try (intros; first | omega | (exfalso; omega))
    simp [Tryz.f102, ht, Minder.enc, Reg.enc]
    exact IsMinder.leave ⟨a1, by simp [Minder.enc], o1.cut (L' := [_, _, _, _]) hf rfl⟩ (Fresh.app H _ fun i hi => by have := hf i hi; simp at this; omega) (by simp)
  · refine stpL_runs_f (specCopyM (hR.base (Keep.app _ H _)) hn) (by rintro _ _ ⟨_, _, _, _, hf⟩; exact hf.1) ?_
    rintro _ H4 ⟨_, f4, rfl, ⟨a4, rfl, o4⟩, ⟨⟨G4, rfl⟩, hf4⟩⟩
    simp
    refine hQ _ _ _ (by simp) ?_
    have hr1 : Reg.ok ⟨r1, r2, r3⟩ = true := by clear hQ; simp_all
    rw [hw hr1] at *
    have ht : takeR ⟨r1, r2, r3⟩ s m = (⟨r1, r2, r3⟩, m, false) := by
      clear hQ
      simp [takeR]
      simp_all
      try (intros; first | omega | (exfalso; omega))
    simp [Tryz.f102, ht, Minder.enc, Reg.enc]
    have o5 := fun y z => (o4.keep (Keep.set (id := H.length + 2) _ y) (fun i hi => by have := hf4 i hi; simp at this ⊢; omega)).keep (Keep.set (id := H.length + 3) _ z) (fun i hi => by have := hf4 i hi; simp at this ⊢; omega)
    simp at o5
    exact IsMinder.leave ⟨a4, by simp [Minder.enc], o5 _ _⟩ (Fresh.app H _ fun i hi => by have := hf4 i hi; simp at this; omega) (by simp)
  · have hr1 : Reg.ok ⟨r1, r2, r3⟩ = true := by clear hQ; simp_all
    rw [hw hr1] at *
    have e3 := fun B1 B2 B3 B4 T => specMinderOk_is (m := { m with epoch := r1 + 1, acked := 0, ackLife := 0 }) ⟨a1, rfl, (o1.cut (L' := [B1, B2, B3, B4]) (T := T) hf rfl).sl⟩ (by simp [Minder.sz]; omega)
    simp [Minder.enc] at e3
    have hok : Minder.ok { m with epoch := r1 + 1, acked := 0, ackLife := 0 } = true := by
      clear hQ
      have h1 : m.ok = true := by simp_all
      have h2 : Reg.ok ⟨r1 + 1, s, 0⟩ = true := by simp_all
      have h3 : m.up = true := by simp_all
      simp [Minder.ok] at h1 ⊢
      simp [Reg.ok] at h2
      simp [h3]
      simp_all
      omega
    simp [e3, hok]
    refine hQ _ _ _ (by simp) ?_
    have ht : takeR ⟨r1, r2, r3⟩ s m = (⟨r1 + 1, s, 0⟩, { m with epoch := r1 + 1, acked := 0, ackLife := 0 }, true) := by
      clear hQ
      simp [takeR]
      simp_all
      try omega
    simp [Tryz.f102, ht, Minder.enc, Reg.enc]
    exact IsMinder.leave ⟨a1, by simp [Minder.enc], o1.cut (L' := [_, _, _, _]) hf rfl⟩ (Fresh.app H _ fun i hi => by have := hf i hi; simp at this; omega) (by simp)

theorem okMinder : RepOk IsMinder := ⟨fun h hk hd => h.keep hk hd, fun h => h.lt, fun h => h.nodup⟩
theorem unMinder : UnOk IsMinder := fun ⟨a, h1, h2⟩ hf => ⟨a, h1, h2.unapp hf⟩
abbrev IsMinderS := IsL 106 IsMinder
abbrev RdMinderS := RdL 106 RdMinder
abbrev RdLMinderS := RdL 97 RdLMinder
def MinderS.sz (xs : List Minder) : Nat := xs.length + (xs.map Minder.sz).sum
theorem MinderS.sz_len (xs : List Minder) : xs.length ≤ MinderS.sz xs := by unfold MinderS.sz; omega
theorem MinderS.sz_at {xs : List Minder} {x : Minder} (h : x ∈ xs) : x.sz ≤ MinderS.sz xs := by
  have key : ∀ {ys : List Minder}, x ∈ ys → x.sz ≤ (ys.map Minder.sz).sum := by
    intro ys hy
    induction ys with
    | nil => simp at hy
    | cons y ys ih =>
      simp only [List.map_cons, List.sum_cons]
      rcases List.mem_cons.1 hy with rfl | hy
      · omega
      · have := ih hy; omega
  have := key h
  unfold MinderS.sz
  omega
def MinderS.ps (xs : List Minder) (i : Nat) : Nat := ((xs.take i).map Minder.sz).sum
theorem MinderS.ps_zero (xs : List Minder) : MinderS.ps xs 0 = 0 := by simp [MinderS.ps]
theorem MinderS.ps_succ (xs : List Minder) {i : Nat} (h : i < xs.length) : MinderS.ps xs (i + 1) = MinderS.ps xs i + xs[i].sz := by
  unfold MinderS.ps
  rw [List.take_add_one, List.getElem?_eq_getElem h, List.map_append, List.sum_append]
  simp
theorem MinderS.ps_le (xs : List Minder) (i : Nat) : xs.length + MinderS.ps xs i ≤ MinderS.sz xs := by
  have := congrArg (fun l => (l.map Minder.sz).sum) (List.take_append_drop i xs)
  simp only [List.map_append, List.sum_append] at this
  unfold MinderS.ps MinderS.sz
  omega
theorem MinderS.ps_len (xs : List Minder) : xs.length + MinderS.ps xs xs.length = MinderS.sz xs := by unfold MinderS.ps MinderS.sz; rw [List.take_length]
def MinderS.fit (xs : List Minder) : Prop := xs.length ≤ maxLen ∧ ∀ x ∈ xs, x.fit
theorem RdMinderS_base {H H' : Heap} {q : Lf} {xs : List Minder} (h : RdMinderS H q xs) (hk : Keep [] H H') : RdMinderS H' q xs := RdL.base h (fun h hk => h.base hk) hk
theorem RdLMinderS_base {H H' : Heap} {q : Lf} {xs : List Minder} (h : RdLMinderS H q xs) (hk : Keep [] H H') : RdLMinderS H' q xs := RdL.base h (fun h hk => h.base hk) hk
theorem IsMinderS_rd {H : Heap} {q : Lf} {xs : List Minder} {fp : List Nat} (h : IsMinderS H q xs fp) : RdMinderS H q xs := IsL.rd h fun h => h.rd

theorem toMinderS_is {H : Heap} {q : Lf} {xs : List Minder} (h : RdLMinderS H q xs) (hn : MinderS.sz xs ≤ 1048576) :
    Runs env 32 [.w (.lf q)] H fun v H' => ∃ q' fp, v = .w (.lf q') ∧ IsMinderS H' q' xs fp ∧ Fresh H H' fp := by
  have hR := h
  obtain ⟨a, rws, rfl, hs, hlen, hat⟩ := h
  have hl := MinderS.sz_len xs
  refine Runs.walk ok32 Tryz.func32 rfl (by simp [Tryz.f32]) fun Q hQ => ?_
  simp only [Tryz.f32, strip, stripL, stripI, stripG, chkT, tagsB, tagsL, tagD, addT, tagA, lookN, tagOp, elmT, ty24, ty25, ty26, ty27, ty28, ty39, ty40, ty41, ty42, ty57, ty59, ty62, ty98, Nat.reduceEqDiff, if_false, reduceIte, Option.getD_some, Option.getD_none, dstAt, dstOk, Nat.reduceLT, decide_true, if_true]
  have k1 : (xs.length : Int) * 72 ≤ 281474976710656 := by omega
  have k2 : (xs.length : Int) ≤ 9223372036854775807 := by omega
  simp [builtinV, pureB, lenV, makeSliceV, makeSliceR, newBlk, k1, k2]
  obtain ⟨z, hz⟩ : ∃ z, z = ([.b false, .i .i64 0, .i .i64 0, .sl none 0, .i .i64 0, .i .i64 0, .i .i64 0] : List Lf) := ⟨_, rfl⟩
  refine wpS_loop (fun j tm H' => ∃ i rows fps, i + j = xs.length ∧ tm 0 = .w (.lf (.sl a xs.length)) ∧ tm 3 = .sl H.length 0 xs.length ∧ tm 4 = .int i ∧ blkAt H' H.length = some ⟨106, .wr, rows ++ List.replicate j z⟩ ∧ Part IsMinder H' rows (xs.take i) fps ∧ (∀ k ∈ fps.flatten, H.length < k) ∧ Keep [] H H') xs.length (by rw [env_K]; omega)
    ⟨0, [], [], by simp, by simp, by simp, by simp, by simp [hz], Part.nil _ _, by simp, Keep.app _ _ _⟩ ?_
  rintro j tm H' hj ⟨i, rows, fps, hij, t0, t3, t4, hb, hp, hlo, hk⟩ Q' hn' he' hr'
  simp [t0, t3, t4, builtinV, pureB, lenV]
  refine selS_intro (fun hc => ?_) (fun hc => ?_)
  · simp at hc
    obtain ⟨j, rfl⟩ : ∃ j', j = j' + 1 := ⟨j - 1, by omega⟩
    have hri : i < rws.length := by omega
    obtain ⟨id, r, bl, rfl, hbl, hbe, hrow⟩ := hs i _ (List.getElem?_eq_getElem hri)
    have he := hat i _ _ (List.getElem?_eq_getElem hri) (List.getElem?_eq_getElem hc)
    have hL := he.len
    have hT : rws[i].take rws[i].length = rws[i] := List.take_length
    rw [hL] at hT
    have hbl' := hk.blk hbl (by simp)
    have hbH := blkAt_len hb
    have g4 : IntKind.i64.wrap ((i : Int) + 1) = (i : Int) + 1 := wrap64 (by omega) (by omega)
    simp [t0, t3, t4, indexAddrV, elemIs, hbl', hbe, hc, hrow, hL, hT]
    have hsz := MinderS.sz_at (List.getElem_mem hc)
    refine stpL_runs (toMinder_is (he.base hk) (by omega)) ?_
    rintro _ H2 ⟨l2, f2, rfl, o2, fr2⟩
    have hb2 := fr2.kp.blk hb (by simp)
    have hb2L := blkAt_len hb2
    have hl2 := o2.len
    have hrl : rows.length = i := by rw [hp.len]; simp; omega
    have hget : (rows ++ List.replicate (j + 1) z)[i]? = some z := by
      rw [List.getElem?_append_right (by omega), hrl]; simp
    have hset : (rows ++ List.replicate (j + 1) z).set i l2 = (rows ++ [l2]) ++ List.replicate j z := by
      rw [List.set_append_right _ _ (by omega), hrl]; simp [List.replicate_succ]
    have hzl : z.length = 7 := by rw [hz]; rfl
    have hdrop : z.drop 7 = [] := by rw [hz]; rfl
    simp [t0, t3, t4, indexAddrV, hb2, hb2L, hget, hl2, hzl, hdrop, hset, hc, elemIs, g4]
    refine hn' j _ _ (by omega) ⟨i + 1, rows ++ [l2], fps ++ [f2], by omega, by simp [t0], by simp [t3], by simp, ?_, ?_, ?_, ?_⟩
    · rw [blkAt_set hb2L]; simp
    · have hd := hp.lt okMinder
      have h1 := (hp.keep okMinder fr2.kp (by simp)).snoc (x := xs[i]) okMinder o2 (fun k hk' hk2 => by have := hd k hk2; have := fr2.2 k hk'; omega)
      have h2 := h1.keep okMinder (Keep.set (id := H.length) H2 (some ⟨106, .wr, (rows ++ [l2]) ++ List.replicate j z⟩)) (fun k hk' => by
        simp at hk'
        rcases hk' with ⟨g, hg, hkg⟩ | hk'
        · have := hlo k (List.mem_flatten.2 ⟨g, hg, hkg⟩); simp; omega
        · have := fr2.2 k hk'; simp; omega)
      rw [List.take_add_one, List.getElem?_eq_getElem hc]
      simpa using h2
    · intro k hk'
      simp at hk'
      rcases hk' with ⟨g, hg, hkg⟩ | hk'
      · exact hlo k (List.mem_flatten.2 ⟨g, hg, hkg⟩)
      · have := fr2.2 k hk'; omega
    · exact (hk.next fr2.kp (by simp)).next (Keep.set _ _) (by simp)
  · simp at hc
    have hj0 : j = 0 := by omega
    subst hj0
    simp [t0, t3, t4]
    refine he' _ _ _ ?_
    simp [t3]
    refine hQ _ _ _ (by simp) ?_
    have hi : i = xs.length := by omega
    subst hi
    rw [List.take_length] at hp
    simp [Tryz.f32]
    have ho : IsMinderS H' (.sl (some (H.length, 0)) xs.length) xs ([H.length] ++ fps.flatten) := ⟨_, rows, [H.length], fps, rfl, Own.of (by simpa using hb), hp, rfl, by
      simp only [List.singleton_append, List.nodup_cons]
      exact ⟨fun hm => by have := hlo _ hm; omega, hp.nodup⟩⟩
    have hf : Fresh H H' ([H.length] ++ fps.flatten) := ⟨hk.ext, fun k hk' => by
      simp only [List.singleton_append, List.mem_cons] at hk'
      rcases hk' with rfl | hk'
      · exact Nat.le_refl _
      · have := hlo k hk'; omega⟩
    rcases leave_opt H H' [W.lf (Lf.sl (some (H.length, 0)) xs.length)] with e | ⟨e, hr⟩
    · rw [e]; exact ⟨_, ho, hf⟩
    · simp [refFree] at hr

theorem szMinderS_is {H : Heap} {q : Lf} {xs : List Minder} (h : RdLMinderS H q xs) (hf : MinderS.fit xs) {left : Int} (h1 : 0 ≤ left) (h2 : left ≤ 1048576) :
    run env 22 [.w (.lf q), .int left] H = some (.int (if left < MinderS.sz xs then -1 else left - MinderS.sz xs), H) := by
  obtain ⟨a, rws, rfl, hs, hlen, hat⟩ := h
  have hm : (xs.length : Int) ≤ 9223372036854775807 := by have := hf.1; unfold maxLen at this; omega
  have hS := MinderS.ps_le xs
  refine run_walk ok22 Tryz.func22 rfl (by simp [Tryz.f22]) fun Q hQ => ?_
  simp only [Tryz.f22, strip, stripL, stripI, stripG, chkT, tagsB, tagsL, tagD, addT, tagA, lookN, tagOp, elmT, ty24, ty25, ty26, ty27, ty28, ty39, ty40, ty41, ty42, ty57, ty59, ty62, ty98, Nat.reduceEqDiff, if_false, reduceIte, Option.getD_some, Option.getD_none, dstAt, dstOk, Nat.reduceLT, decide_true, if_true]
  have g : IntKind.i64.wrap (left - xs.length) = left - xs.length := wrap64 (by omega) (by omega)
  simp [builtinV, pureB, lenV, g]
  refine selS_intro (fun hc => ?_) (fun hc => ?_)
  · simp at hc
    simp
    refine hQ _ _ _ (by simp) ?_
    simp [Tryz.f22, MinderS.sz]
    omega
  simp at hc
  simp
  refine wpS_loop (fun j tm H' => ∃ i, i + j = xs.length ∧ tm 0 = .w (.lf (.sl a xs.length)) ∧ tm 1 = .int (left - xs.length - MinderS.ps xs i) ∧ tm 5 = .int i ∧ H' = H ∧ 0 ≤ left - xs.length - MinderS.ps xs i) xs.length (by rw [env_K]; omega)
    ⟨0, by simp, by simp, by simp [MinderS.ps_zero], by simp, rfl, by rw [MinderS.ps_zero]; omega⟩ ?_
  rintro j tm H' hj ⟨i, hij, t0, t1, t5, rfl, hpos⟩ Q' hn' he' hr'
  simp [t0, t1, t5, builtinV, pureB, lenV]
  refine selS_intro (fun hc => ?_) (fun hc => ?_)
  · simp at hc
    have hri : i < rws.length := by omega
    obtain ⟨id, r, bl, rfl, hbl, hbe, hrow⟩ := hs i _ (List.getElem?_eq_getElem hri)
    have he := hat i _ _ (List.getElem?_eq_getElem hri) (List.getElem?_eq_getElem hc)
    have hL := he.len
    have hT : rws[i].take rws[i].length = rws[i] := List.take_length
    rw [hL] at hT
    have g4 : IntKind.i64.wrap ((i : Int) + 1) = (i : Int) + 1 := wrap64 (by omega) (by omega)
    have es := szMinder_is he (hf.2 _ (List.getElem_mem hc)) hpos (by omega) []
    simp only [List.append_nil] at es
    have hS1 := MinderS.ps_succ xs hc
    have hS2 := hS (i + 1)
    simp [t0, t1, t5, indexAddrV, elemIs, hbl, hbe, hc, hrow, hL, hT, es]
    by_cases hb : left - (xs.length : Int) - (MinderS.ps xs i : Int) < (xs[i].sz : Int)
    · simp [hb]
      refine hr' _ _ ?_
      simp
      refine hQ _ _ _ (by simp) ?_
      simp [Tryz.f22]
      omega
    · have hz : ¬ (left - (xs.length : Int) - (MinderS.ps xs i : Int) - (xs[i].sz : Int) < 0) := by omega
      simp [hb, hz, t0, t1, t5, g4]
      exact hn' (j - 1) _ _ (by omega) ⟨i + 1, by omega, by simp [t0], by simp [hS1]; omega, by simp, rfl, by omega⟩
  · simp at hc
    simp [t0, t1, t5]
    refine he' _ _ _ ?_
    simp [t1]
    refine hQ _ _ _ (by simp) ?_
    have hi : i = xs.length := by omega
    subst hi
    have hp := MinderS.ps_len xs
    simp [Tryz.f22]
    rw [if_neg (by omega)]
    omega

theorem shpMinderS_is {H : Heap} {k : Nat} {l : List Lf} (h : Shp Tryz.prog H (k + 6) 24 l) : ∃ (q : Lf) (xs : List Minder), l = [q] ∧ RdLMinderS H q xs ∧ MinderS.fit xs := by
  rcases h.slice Tryz.underlying24 with rfl | ⟨id, b, rfl, hb, he, hm, hrows⟩
  · exact ⟨_, [], rfl, ⟨none, [], rfl, Sl.nil _ _ _, rfl, by simp⟩, by simp [MinderS.fit]⟩
  · have key : ∀ rows : List (List Lf), (∀ row ∈ rows, Shp Tryz.prog H (k + 5) 97 row) → ∃ xs : List Minder, rows.length = xs.length ∧ (∀ (i : Nat) (row : List Lf) (x : Minder), rows[i]? = some row → xs[i]? = some x → RdLMinder H row x) ∧ ∀ x ∈ xs, x.fit := by
      intro rows
      induction rows with
      | nil => intro _; exact ⟨[], rfl, by simp, by simp⟩
      | cons row rows ih =>
        intro hr
        obtain ⟨x, h1, h2⟩ := shpMinder_is (hr row (by simp))
        obtain ⟨xs, h3, h4, h5⟩ := ih fun r hr' => hr r (by simp [hr'])
        refine ⟨x :: xs, by simp [h3], fun i row' x' a1 a2 => ?_, ?_⟩
        · cases i with
          | zero => simp at a1 a2; subst a1; subst a2; exact h1
          | succ i => exact h4 i row' x' (by simpa using a1) (by simpa using a2)
        · intro y hy
          rcases List.mem_cons.1 hy with rfl | hy
          · exact h2
          · exact h5 y hy
    obtain ⟨xs, h1, h2, h3⟩ := key b.rows hrows
    refine ⟨_, xs, rfl, ⟨some (id, 0), b.rows, by rw [h1], fun i row hi => ⟨id, 0, b, rfl, hb, he, by simpa using hi⟩, h1, h2⟩, by rw [← h1]; exact hm, h3⟩

theorem eqMinderS_is {H : Heap} {q r : Lf} {xs ys : List Minder} (h : RdMinderS H q xs) (h2 : RdMinderS H r ys) (hn : MinderS.sz xs ≤ 1048576) : run env 42 [.w (.lf q), .w (.lf r)] H = some (.bool (decide (xs = ys)), H) := by
  obtain ⟨a, rws, rfl, hs, hlen, hat⟩ := h
  obtain ⟨b, rws2, rfl, hs2, hlen2, hat2⟩ := h2
  have hl := MinderS.sz_len xs
  refine run_walk ok42 Tryz.func42 rfl (by simp [Tryz.f42]) fun Q hQ => ?_
  simp only [Tryz.f42, strip, stripL, stripI, stripG, chkT, tagsB, tagsL, tagD, addT, tagA, lookN, tagOp, elmT, ty24, ty25, ty26, ty27, ty28, ty39, ty40, ty41, ty42, ty57, ty59, ty62, ty98, Nat.reduceEqDiff, if_false, reduceIte, Option.getD_some, Option.getD_none, dstAt, dstOk, Nat.reduceLT, decide_true, if_true]
  simp [builtinV, pureB, lenV]
  refine selS_intro (fun hl => ?_) (fun hl => ?_)
  · simp
    refine hQ _ _ _ (by simp) ?_
    simp at hl
    have : ¬ xs = ys := fun h => hl (by rw [h])
    simp [Tryz.f42, this]
  simp at hl
  simp
  refine wpS_loop (fun j tm H' => ∃ i, i + j = xs.length ∧ tm 0 = .w (.lf (.sl a xs.length)) ∧ tm 1 = .w (.lf (.sl b ys.length)) ∧ tm 5 = .int i ∧ H' = H ∧ xs.take i = ys.take i) xs.length (by rw [env_K]; omega) ⟨0, by simp, by simp, by simp, by simp, rfl, by simp⟩ ?_
  rintro j tm H' hj ⟨i, hij, h0, h1, h5, rfl, heq⟩ Q' hn' he' hr'
  simp [h0, h1, h5, builtinV, pureB, lenV]
  refine selS_intro (fun hc => ?_) (fun hc => ?_)
  · simp at hc
    have hc2 : i < ys.length := by omega
    have hri : i < rws.length := by omega
    have hri2 : i < rws2.length := by omega
    obtain ⟨id, r, bl, rfl, hbl, hbe, hrow⟩ := hs i _ (List.getElem?_eq_getElem hri)
    obtain ⟨id2, r2, bl2, rfl, hbl2, hbe2, hrow2⟩ := hs2 i _ (List.getElem?_eq_getElem hri2)
    have he := hat i _ _ (List.getElem?_eq_getElem hri) (List.getElem?_eq_getElem hc)
    have he2 := hat2 i _ _ (List.getElem?_eq_getElem hri2) (List.getElem?_eq_getElem hc2)
    have hL := he.len
    have hT : rws[i].take rws[i].length = rws[i] := List.take_length
    rw [hL] at hT
    have hL2 := he2.len
    have hT2 : rws2[i].take rws2[i].length = rws2[i] := List.take_length
    rw [hL2] at hT2
    have g4 : IntKind.i64.wrap ((i : Int) + 1) = (i : Int) + 1 := wrap64 (by omega) (by omega)
    have hsz := MinderS.sz_at (List.getElem_mem hc)
    have ee := eqMinder_is he he2 (by omega)
    simp [h0, h1, h5, indexAddrV, elemIs, hbl, hbe, hbl2, hbe2, hc, hc2, hrow, hrow2, hL, hT, hL2, hT2, ee]
    refine selS_intro (fun hd => ?_) (fun hd => ?_)
    · simp
      refine hr' _ _ ?_
      simp
      refine hQ _ _ _ (by simp) ?_
      simp at hd
      have : ¬ xs = ys := fun h => by subst h; simp at hd
      simp [Tryz.f42, this]
    · simp at hd
      simp [h0, h1, h5, g4]
      exact hn' (j - 1) _ _ (by omega) ⟨i + 1, by omega, by simp [h0], by simp [h1], by simp, rfl, by rw [List.take_add_one, List.take_add_one, heq]; simp [hc, hc2, hd]⟩
  · simp at hc
    simp [h0, h1, h5]
    refine he' _ _ _ ?_
    simp
    refine hQ _ _ _ (by simp) ?_
    have : xs = ys := by
      rw [List.take_of_length_le (by omega), List.take_of_length_le (by omega)] at heq
      exact heq
    simp [Tryz.f42, this]

def Minder.mkS (m : Minder) (k : Int) : Minder := ⟨decide (k.tmod 3 = 0), k + 1, k + 2, InS.mk' m.log (k + 3), InS.mkN m.log (k + 3), InS.mkN m.log (k + 3) + 1, InS.mkN m.log (k + 3) + 2⟩
def Minder.mkSN (m : Minder) (k : Int) : Int := InS.mkN m.log (k + 3) + 3
def MinderS.mk' : List Minder → Int → List Minder
  | [], _ => []
  | b :: bs, k => b.mkS k :: MinderS.mk' bs (b.mkSN k)
def MinderS.mkN : List Minder → Int → Int
  | [], k => k
  | b :: bs, k => MinderS.mkN bs (b.mkSN k)
def MinderS.hd : List Minder → Int → Int
  | [], k => k
  | m :: ms, k => if m.up ≠ decide (k.tmod 3 = 0) then -1 else if m.life ≠ k + 1 then -1 else if m.epoch ≠ k + 2 then -1 else if InS.hd m.log (k + 3) < 0 then -1 else
    if m.said ≠ InS.hd m.log (k + 3) then -1 else if m.acked ≠ InS.hd m.log (k + 3) + 1 then -1 else if m.ackLife ≠ InS.hd m.log (k + 3) + 2 then -1 else MinderS.hd ms (InS.hd m.log (k + 3) + 3)
theorem MinderS.mk_len : ∀ (xs : List Minder) (k : Int), (MinderS.mk' xs k).length = xs.length
  | [], _ => rfl
  | b :: bs, k => by simp [MinderS.mk', MinderS.mk_len bs]
theorem MinderS.mk_sz : ∀ (xs : List Minder) (k : Int), MinderS.sz (MinderS.mk' xs k) = MinderS.sz xs
  | [], _ => rfl
  | b :: bs, k => by
    have := MinderS.mk_sz bs (b.mkSN k)
    have hs : (b.mkS k).sz = b.sz := by simp [Minder.mkS, Minder.sz, InS.mk_sz]
    unfold MinderS.sz at this ⊢
    simp only [MinderS.mk', List.length_cons, List.map_cons, List.sum_cons, hs]
    omega
theorem Minder.mkSN_le (b : Minder) (k : Int) : k ≤ b.mkSN k ∧ b.mkSN k ≤ k + (6 + 11 * b.sz) := by unfold Minder.mkSN InS.mkN; simp [Minder.sz]; omega
theorem MinderS.mkN_bd : ∀ (xs : List Minder) (k : Int), k ≤ MinderS.mkN xs k ∧ MinderS.mkN xs k ≤ k + 11 * MinderS.sz xs
  | [], k => by simp [MinderS.mkN, MinderS.sz]
  | b :: bs, k => by
    have h1 := MinderS.mkN_bd bs (b.mkSN k)
    have h2 := b.mkSN_le k
    unfold MinderS.sz at h1 ⊢
    simp only [MinderS.mkN, List.length_cons, List.map_cons, List.sum_cons]
    omega
theorem MinderS.mk_snoc : ∀ (xs : List Minder) (x : Minder) (k : Int), MinderS.mk' (xs ++ [x]) k = MinderS.mk' xs k ++ [x.mkS (MinderS.mkN xs k)]
  | [], x, k => rfl
  | b :: bs, x, k => by simp [MinderS.mk', MinderS.mkN, MinderS.mk_snoc bs]
theorem MinderS.mkN_snoc : ∀ (xs : List Minder) (x : Minder) (k : Int), MinderS.mkN (xs ++ [x]) k = x.mkSN (MinderS.mkN xs k)
  | [], x, k => rfl
  | b :: bs, x, k => by simp [MinderS.mkN, MinderS.mkN_snoc bs]
theorem MinderS.hd_mk : ∀ (xs : List Minder) (k : Int), 0 ≤ k → MinderS.hd (MinderS.mk' xs k) k = MinderS.mkN xs k
  | [], k, _ => rfl
  | b :: bs, k, hk => by
    have h1 : InS.hd (b.mkS k).log (k + 3) = InS.mkN b.log (k + 3) := InS.hd_mk _ _
    have h2 := b.mkSN_le k
    have h2' : InS.mkN b.log (k + 3) + 3 = b.mkSN k := rfl
    have h3 : ¬ (InS.mkN b.log (k + 3) < 0) := by unfold InS.mkN; omega
    simp only [MinderS.mk', MinderS.hd, MinderS.mkN]
    rw [h1, if_neg (by simp [Minder.mkS]), if_neg (by simp [Minder.mkS]), if_neg (by simp [Minder.mkS]), if_neg h3, if_neg (by simp [Minder.mkS]), if_neg (by simp [Minder.mkS]), if_neg (by simp [Minder.mkS])]
    exact MinderS.hd_mk bs _ (by omega)
theorem MinderS.hd_bd : ∀ (xs : List Minder) (k : Int), 0 ≤ k → MinderS.hd xs k ≤ k + 11 * MinderS.sz xs
  | [], k, _ => by simp [MinderS.hd, MinderS.sz]
  | m :: ms, k, hk => by
    have h2 : InS.hd m.log (k + 3) ≤ k + 3 + 8 * m.sz := by unfold InS.hd heldL; simp [Minder.sz]; split <;> omega
    simp only [MinderS.hd]
    split
    · omega
    split
    · omega
    split
    · omega
    split
    · omega
    rename_i hb
    have h1 := MinderS.hd_bd ms (InS.hd m.log (k + 3) + 3) (by omega)
    unfold MinderS.sz at h1 ⊢
    simp only [List.length_cons, List.map_cons, List.sum_cons]
    (repeat' split) <;> omega
end W
end Go.Proofs.YtafakoecgaijoaaGreat

/- The functions that this law reaches: what each computes. Conditions: those that each theorem names. -/
import Derived.Test.YtonkofgdncgolaaAbEnvReleased
set_option maxRecDepth 100000
set_option maxHeartbeats 4000000
set_option linter.unusedSimpArgs false
set_option linter.unusedVariables false
set_option linter.unnecessarySimpa false
namespace Go.Proofs.Ytonkofgdncgolaa
open Go Go.Ab Go.ChangeShapes Go.WideShapes Go.ChangeAt Go.RowKit
namespace W
structure Vec where
  root : Int
  cost : Int
  bridge : Int
  port : Int
  deriving DecidableEq, Inhabited
def Vec.enc (x : Vec) : List Lf := [.i .i64 x.root, .i .i64 x.cost, .i .i64 x.bridge, .i .i64 x.port]
@[simp] theorem Vec.enc_len (x : Vec) : x.enc.length = 4 := rfl
@[simp] theorem Vec.enc_take (x : Vec) : List.take 4 x.enc = x.enc := rfl
@[simp] theorem Vec.enc_drop (x : Vec) : List.drop 4 x.enc = [] := rfl
abbrev Vec.z : List Lf := [.i .i64 0, .i .i64 0, .i .i64 0, .i .i64 0]
abbrev Vec.zv : Vec := ⟨0, 0, 0, 0⟩
theorem Vec.enc_inj {x y : Vec} (h : x.enc = y.enc) : x = y := by
  obtain ⟨_, _, _, _⟩ := x
  obtain ⟨_, _, _, _⟩ := y
  simp [Vec.enc] at h
  simp_all
def Vec.mk' (k : Int) : Vec := ⟨k, k + 1, k + 2, k + 3⟩
theorem Vec.mk'_of {y : Vec} {c : Int} (h0 : y.root = c) (h1 : y.cost = c + 1) (h2 : y.bridge = c + 2) (h3 : y.port = c + 3) : y = Vec.mk' c := by
  rcases y with ⟨w0, v1, v2, v3⟩
  simp only at h0 h1 h2 h3
  subst h0 h1 h2 h3
  rfl

theorem toVec (H : Heap) (x : Vec) : run env 59 [.agg x.enc] H = some (.agg x.enc, H) := by
  refine run_walk ok59 Try.func59 rfl (by simp [Try.f59]) fun Q hQ => ?_
  simp only [Try.f59, strip, stripL, stripI, stripG, chkT, tagsB, tagsL, tagD, addT, tagA, lookN, tagOp, elmT, ty28, ty32, ty34, ty43, ty48, ty74, ty75, ty76, ty81, ty82, ty83, Nat.reduceEqDiff, if_false, reduceIte, Option.getD_some, Option.getD_none, dstAt, dstOk, Nat.reduceLT, decide_true, if_true]
  simp [Vec.enc]
  all_goals (refine hQ _ _ _ (by simp) ?_)
  all_goals (clear hQ; simp [Try.f59, Vec.enc])

theorem eqVec (H : Heap) (x y : Vec) : run env 84 [.agg x.enc, .agg y.enc] H = some (.bool (decide (x = y)), H) := by
  obtain ⟨a0, a1, a2, a3⟩ := x
  obtain ⟨b0, b1, b2, b3⟩ := y
  refine run_walk ok84 Try.func84 rfl (by simp [Try.f84]) fun Q hQ => ?_
  simp only [Try.f84, strip, stripL, stripI, stripG, chkT, tagsB, tagsL, tagD, addT, tagA, lookN, tagOp, elmT, ty28, ty32, ty34, ty43, ty48, ty74, ty75, ty76, ty81, ty82, ty83, Nat.reduceEqDiff, if_false, reduceIte, Option.getD_some, Option.getD_none, dstAt, dstOk, Nat.reduceLT, decide_true, if_true]
  simp [Vec.enc]
  repeat' (first | (refine gdL_t (fun h => ?_) (fun h => ?_) <;> simp [h]) | (refine gdL_f (fun h => ?_) (fun h => ?_) <;> simp [h]) | (refine selS_intro (fun h => ?_) (fun h => ?_) <;> simp [h]))
  all_goals (refine hQ _ _ _ (by simp) ?_)
  all_goals (clear hQ; simp_all [Try.f84])

theorem shpVec {H : Heap} {k : Nat} {l : List Lf} (h : Shp Try.prog H (k + 2) 61 l) : ∃ x : Vec, l = x.enc := by
  obtain ⟨_, _, rfl, h0, _, _, rfl, h1, _, _, rfl, h2, _, _, rfl, h3, rfl⟩ := h.struct Try.underlying61
  obtain ⟨a0, rfl, -⟩ := h0.i64 Try.underlying3
  obtain ⟨a1, rfl, -⟩ := h1.i64 Try.underlying3
  obtain ⟨a2, rfl, -⟩ := h2.i64 Try.underlying3
  obtain ⟨a3, rfl, -⟩ := h3.i64 Try.underlying3
  exact ⟨⟨a0, a1, a2, a3⟩, rfl⟩

structure Port where
  up : Bool
  has : Bool
  vec : Vec
  hops : Int
  left : Int
  role : Int
  wait : Int
  opn : Bool
  deriving DecidableEq, Inhabited
def Port.enc (x : Port) : List Lf := [.b x.up, .b x.has, .i .i64 x.vec.root, .i .i64 x.vec.cost, .i .i64 x.vec.bridge, .i .i64 x.vec.port, .i .i64 x.hops, .i .i64 x.left, .i .i64 x.role, .i .i64 x.wait, .b x.opn]
@[simp] theorem Port.enc_len (x : Port) : x.enc.length = 11 := rfl
@[simp] theorem Port.enc_take (x : Port) : List.take 11 x.enc = x.enc := rfl
@[simp] theorem Port.enc_drop (x : Port) : List.drop 11 x.enc = [] := rfl
abbrev Port.z : List Lf := [.b false, .b false, .i .i64 0, .i .i64 0, .i .i64 0, .i .i64 0, .i .i64 0, .i .i64 0, .i .i64 0, .i .i64 0, .b false]
abbrev Port.zv : Port := ⟨false, false, ⟨0, 0, 0, 0⟩, 0, 0, 0, 0, false⟩
theorem Port.enc_inj {x y : Port} (h : x.enc = y.enc) : x = y := by
  rcases x with ⟨v0, v1, ⟨v2_0, v2_1, v2_2, v2_3⟩, v3, v4, v5, v6, v7⟩
  rcases y with ⟨w0, v1, ⟨v2_0, v2_1, v2_2, v2_3⟩, v3, v4, v5, v6, v7⟩
  simp [Port.enc] at h
  simp_all
def Port.mk' (k : Int) : Port := ⟨decide ((k).tmod 3 = 0), decide ((k + 1).tmod 3 = 0), ⟨k + 2, k + 3, k + 4, k + 5⟩, k + 6, k + 7, k + 8, k + 9, decide ((k + 10).tmod 3 = 0)⟩
theorem Port.mk'_of {y : Port} {c : Int} (h0 : y.up = decide ((c).tmod 3 = 0)) (h1 : y.has = decide ((c + 1).tmod 3 = 0)) (h2 : y.vec.root = c + 2) (h3 : y.vec.cost = c + 3) (h4 : y.vec.bridge = c + 4) (h5 : y.vec.port = c + 5) (h6 : y.hops = c + 6) (h7 : y.left = c + 7) (h8 : y.role = c + 8) (h9 : y.wait = c + 9) (h10 : y.opn = decide ((c + 10).tmod 3 = 0)) : y = Port.mk' c := by
  rcases y with ⟨w0, v1, ⟨v2_0, v2_1, v2_2, v2_3⟩, v3, v4, v5, v6, v7⟩
  simp only at h0 h1 h2 h3 h4 h5 h6 h7 h8 h9 h10
  subst h0 h1 h2 h3 h4 h5 h6 h7 h8 h9 h10
  rfl

structure In where
  kind : Int
  port : Int
  vec : Vec
  hops : Int
  up : Bool
  deriving DecidableEq, Inhabited
def In.enc (x : In) : List Lf := [.i .i64 x.kind, .i .i64 x.port, .i .i64 x.vec.root, .i .i64 x.vec.cost, .i .i64 x.vec.bridge, .i .i64 x.vec.port, .i .i64 x.hops, .b x.up]
@[simp] theorem In.enc_len (x : In) : x.enc.length = 8 := rfl
@[simp] theorem In.enc_take (x : In) : List.take 8 x.enc = x.enc := rfl
@[simp] theorem In.enc_drop (x : In) : List.drop 8 x.enc = [] := rfl
abbrev In.z : List Lf := [.i .i64 0, .i .i64 0, .i .i64 0, .i .i64 0, .i .i64 0, .i .i64 0, .i .i64 0, .b false]
abbrev In.zv : In := ⟨0, 0, ⟨0, 0, 0, 0⟩, 0, false⟩
theorem In.enc_inj {x y : In} (h : x.enc = y.enc) : x = y := by
  rcases x with ⟨v0, v1, ⟨v2_0, v2_1, v2_2, v2_3⟩, v3, v4⟩
  rcases y with ⟨w0, v1, ⟨v2_0, v2_1, v2_2, v2_3⟩, v3, v4⟩
  simp [In.enc] at h
  simp_all
def In.mk' (k : Int) : In := ⟨k, k + 1, ⟨k + 2, k + 3, k + 4, k + 5⟩, k + 6, decide ((k + 7).tmod 3 = 0)⟩
theorem In.mk'_of {y : In} {c : Int} (h0 : y.kind = c) (h1 : y.port = c + 1) (h2 : y.vec.root = c + 2) (h3 : y.vec.cost = c + 3) (h4 : y.vec.bridge = c + 4) (h5 : y.vec.port = c + 5) (h6 : y.hops = c + 6) (h7 : y.up = decide ((c + 7).tmod 3 = 0)) : y = In.mk' c := by
  rcases y with ⟨w0, v1, ⟨v2_0, v2_1, v2_2, v2_3⟩, v3, v4⟩
  simp only at h0 h1 h2 h3 h4 h5 h6 h7
  subst h0 h1 h2 h3 h4 h5 h6 h7
  rfl

theorem toIn (H : Heap) (x : In) : run env 34 [.agg x.enc] H = some (.agg x.enc, H) := by
  refine run_walk ok34 Try.func34 rfl (by simp [Try.f34]) fun Q hQ => ?_
  simp only [Try.f34, strip, stripL, stripI, stripG, chkT, tagsB, tagsL, tagD, addT, tagA, lookN, tagOp, elmT, ty28, ty32, ty34, ty43, ty48, ty74, ty75, ty76, ty81, ty82, ty83, Nat.reduceEqDiff, if_false, reduceIte, Option.getD_some, Option.getD_none, dstAt, dstOk, Nat.reduceLT, decide_true, if_true]
  have e0 := fun H => toVec H x.vec
  simp only [Vec.enc] at e0
  simp [In.enc, e0]
  all_goals (refine hQ _ _ _ (by simp) ?_)
  all_goals (clear hQ; simp [Try.f34, In.enc])

theorem eqIn (H : Heap) (x y : In) : run env 78 [.agg x.enc, .agg y.enc] H = some (.bool (decide (x = y)), H) := by
  have e0 := fun H => eqVec H x.vec y.vec
  obtain ⟨a0, a1, a2, a3, a4⟩ := x
  obtain ⟨b0, b1, b2, b3, b4⟩ := y
  simp only [Vec.enc] at e0
  refine run_walk ok78 Try.func78 rfl (by simp [Try.f78]) fun Q hQ => ?_
  simp only [Try.f78, strip, stripL, stripI, stripG, chkT, tagsB, tagsL, tagD, addT, tagA, lookN, tagOp, elmT, ty28, ty32, ty34, ty43, ty48, ty74, ty75, ty76, ty81, ty82, ty83, Nat.reduceEqDiff, if_false, reduceIte, Option.getD_some, Option.getD_none, dstAt, dstOk, Nat.reduceLT, decide_true, if_true]
  simp [In.enc]
  repeat' (first | (refine gdL_t (fun h => ?_) (fun h => ?_) <;> simp [h, e0]) | (refine gdL_f (fun h => ?_) (fun h => ?_) <;> simp [h, e0]) | (refine selS_intro (fun h => ?_) (fun h => ?_) <;> simp [h, e0]))
  all_goals (refine hQ _ _ _ (by simp) ?_)
  all_goals (clear hQ; simp_all [Try.f78])

theorem shpIn {H : Heap} {k : Nat} {l : List Lf} (h : Shp Try.prog H (k + 3) 63 l) : ∃ x : In, l = x.enc := by
  obtain ⟨_, _, rfl, h0, _, _, rfl, h1, _, _, rfl, h2, _, _, rfl, h3, _, _, rfl, h4, rfl⟩ := h.struct Try.underlying63
  obtain ⟨a0, rfl, -⟩ := h0.i64 Try.underlying3
  obtain ⟨a1, rfl, -⟩ := h1.i64 Try.underlying3
  obtain ⟨a2, rfl⟩ := shpVec h2
  obtain ⟨a3, rfl, -⟩ := h3.i64 Try.underlying3
  obtain ⟨a4, rfl⟩ := h4.bool Try.underlying4
  exact ⟨⟨a0, a1, a2, a3, a4⟩, rfl⟩

structure Out where
  kind : Int
  port : Int
  vec : Vec
  hops : Int
  on : Bool
  deriving DecidableEq, Inhabited
def Out.enc (x : Out) : List Lf := [.i .i64 x.kind, .i .i64 x.port, .i .i64 x.vec.root, .i .i64 x.vec.cost, .i .i64 x.vec.bridge, .i .i64 x.vec.port, .i .i64 x.hops, .b x.on]
@[simp] theorem Out.enc_len (x : Out) : x.enc.length = 8 := rfl
@[simp] theorem Out.enc_take (x : Out) : List.take 8 x.enc = x.enc := rfl
@[simp] theorem Out.enc_drop (x : Out) : List.drop 8 x.enc = [] := rfl
abbrev Out.z : List Lf := [.i .i64 0, .i .i64 0, .i .i64 0, .i .i64 0, .i .i64 0, .i .i64 0, .i .i64 0, .b false]
abbrev Out.zv : Out := ⟨0, 0, ⟨0, 0, 0, 0⟩, 0, false⟩
theorem Out.enc_inj {x y : Out} (h : x.enc = y.enc) : x = y := by
  rcases x with ⟨v0, v1, ⟨v2_0, v2_1, v2_2, v2_3⟩, v3, v4⟩
  rcases y with ⟨w0, v1, ⟨v2_0, v2_1, v2_2, v2_3⟩, v3, v4⟩
  simp [Out.enc] at h
  simp_all
def Out.mk' (k : Int) : Out := ⟨k, k + 1, ⟨k + 2, k + 3, k + 4, k + 5⟩, k + 6, decide ((k + 7).tmod 3 = 0)⟩
theorem Out.mk'_of {y : Out} {c : Int} (h0 : y.kind = c) (h1 : y.port = c + 1) (h2 : y.vec.root = c + 2) (h3 : y.vec.cost = c + 3) (h4 : y.vec.bridge = c + 4) (h5 : y.vec.port = c + 5) (h6 : y.hops = c + 6) (h7 : y.on = decide ((c + 7).tmod 3 = 0)) : y = Out.mk' c := by
  rcases y with ⟨w0, v1, ⟨v2_0, v2_1, v2_2, v2_3⟩, v3, v4⟩
  simp only at h0 h1 h2 h3 h4 h5 h6 h7
  subst h0 h1 h2 h3 h4 h5 h6 h7
  rfl

theorem toOut (H : Heap) (x : Out) : run env 81 [.agg x.enc] H = some (.agg x.enc, H) := by
  refine run_walk ok81 Try.func81 rfl (by simp [Try.f81]) fun Q hQ => ?_
  simp only [Try.f81, strip, stripL, stripI, stripG, chkT, tagsB, tagsL, tagD, addT, tagA, lookN, tagOp, elmT, ty28, ty32, ty34, ty43, ty48, ty74, ty75, ty76, ty81, ty82, ty83, Nat.reduceEqDiff, if_false, reduceIte, Option.getD_some, Option.getD_none, dstAt, dstOk, Nat.reduceLT, decide_true, if_true]
  have e0 := fun H => toVec H x.vec
  simp only [Vec.enc] at e0
  simp [Out.enc, e0]
  all_goals (refine hQ _ _ _ (by simp) ?_)
  all_goals (clear hQ; simp [Try.f81, Out.enc])

theorem eqOut (H : Heap) (x y : Out) : run env 83 [.agg x.enc, .agg y.enc] H = some (.bool (decide (x = y)), H) := by
  have e0 := fun H => eqVec H x.vec y.vec
  obtain ⟨a0, a1, a2, a3, a4⟩ := x
  obtain ⟨b0, b1, b2, b3, b4⟩ := y
  simp only [Vec.enc] at e0
  refine run_walk ok83 Try.func83 rfl (by simp [Try.f83]) fun Q hQ => ?_
  simp only [Try.f83, strip, stripL, stripI, stripG, chkT, tagsB, tagsL, tagD, addT, tagA, lookN, tagOp, elmT, ty28, ty32, ty34, ty43, ty48, ty74, ty75, ty76, ty81, ty82, ty83, Nat.reduceEqDiff, if_false, reduceIte, Option.getD_some, Option.getD_none, dstAt, dstOk, Nat.reduceLT, decide_true, if_true]
  simp [Out.enc]
  repeat' (first | (refine gdL_t (fun h => ?_) (fun h => ?_) <;> simp [h, e0]) | (refine gdL_f (fun h => ?_) (fun h => ?_) <;> simp [h, e0]) | (refine selS_intro (fun h => ?_) (fun h => ?_) <;> simp [h, e0]))
  all_goals (refine hQ _ _ _ (by simp) ?_)
  all_goals (clear hQ; simp_all [Try.f83])

theorem shpOut {H : Heap} {k : Nat} {l : List Lf} (h : Shp Try.prog H (k + 3) 130 l) : ∃ x : Out, l = x.enc := by
  obtain ⟨_, _, rfl, h0, _, _, rfl, h1, _, _, rfl, h2, _, _, rfl, h3, _, _, rfl, h4, rfl⟩ := h.struct Try.underlying130
  obtain ⟨a0, rfl, -⟩ := h0.i64 Try.underlying3
  obtain ⟨a1, rfl, -⟩ := h1.i64 Try.underlying3
  obtain ⟨a2, rfl⟩ := shpVec h2
  obtain ⟨a3, rfl, -⟩ := h3.i64 Try.underlying3
  obtain ⟨a4, rfl⟩ := h4.bool Try.underlying4
  exact ⟨⟨a0, a1, a2, a3, a4⟩, rfl⟩

structure Reg where
  epoch : Int
  owner : Int
  pair : Int
  deriving DecidableEq, Inhabited
def Reg.enc (x : Reg) : List Lf := [.i .i64 x.epoch, .i .i64 x.owner, .i .i64 x.pair]
@[simp] theorem Reg.enc_len (x : Reg) : x.enc.length = 3 := rfl
@[simp] theorem Reg.enc_take (x : Reg) : List.take 3 x.enc = x.enc := rfl
@[simp] theorem Reg.enc_drop (x : Reg) : List.drop 3 x.enc = [] := rfl
abbrev Reg.z : List Lf := [.i .i64 0, .i .i64 0, .i .i64 0]
abbrev Reg.zv : Reg := ⟨0, 0, 0⟩
theorem Reg.enc_inj {x y : Reg} (h : x.enc = y.enc) : x = y := by
  obtain ⟨_, _, _⟩ := x
  obtain ⟨_, _, _⟩ := y
  simp [Reg.enc] at h
  simp_all
def Reg.mk' (k : Int) : Reg := ⟨k, k + 1, k + 2⟩
theorem Reg.mk'_of {y : Reg} {c : Int} (h0 : y.epoch = c) (h1 : y.owner = c + 1) (h2 : y.pair = c + 2) : y = Reg.mk' c := by
  rcases y with ⟨w0, v1, v2⟩
  simp only at h0 h1 h2
  subst h0 h1 h2
  rfl

theorem toReg (H : Heap) (x : Reg) : run env 12 [.agg x.enc] H = some (.agg x.enc, H) := by
  refine run_walk ok12 Try.func12 rfl (by simp [Try.f12]) fun Q hQ => ?_
  simp only [Try.f12, strip, stripL, stripI, stripG, chkT, tagsB, tagsL, tagD, addT, tagA, lookN, tagOp, elmT, ty28, ty32, ty34, ty43, ty48, ty74, ty75, ty76, ty81, ty82, ty83, Nat.reduceEqDiff, if_false, reduceIte, Option.getD_some, Option.getD_none, dstAt, dstOk, Nat.reduceLT, decide_true, if_true]
  simp [Reg.enc]
  all_goals (refine hQ _ _ _ (by simp) ?_)
  all_goals (clear hQ; simp [Try.f12, Reg.enc])

theorem eqReg (H : Heap) (x y : Reg) : run env 32 [.agg x.enc, .agg y.enc] H = some (.bool (decide (x = y)), H) := by
  obtain ⟨a0, a1, a2⟩ := x
  obtain ⟨b0, b1, b2⟩ := y
  refine run_walk ok32 Try.func32 rfl (by simp [Try.f32]) fun Q hQ => ?_
  simp only [Try.f32, strip, stripL, stripI, stripG, chkT, tagsB, tagsL, tagD, addT, tagA, lookN, tagOp, elmT, ty28, ty32, ty34, ty43, ty48, ty74, ty75, ty76, ty81, ty82, ty83, Nat.reduceEqDiff, if_false, reduceIte, Option.getD_some, Option.getD_none, dstAt, dstOk, Nat.reduceLT, decide_true, if_true]
  simp [Reg.enc]
  repeat' (first | (refine gdL_t (fun h => ?_) (fun h => ?_) <;> simp [h]) | (refine gdL_f (fun h => ?_) (fun h => ?_) <;> simp [h]) | (refine selS_intro (fun h => ?_) (fun h => ?_) <;> simp [h]))
  all_goals (refine hQ _ _ _ (by simp) ?_)
  all_goals (clear hQ; simp_all [Try.f32])

theorem shpReg {H : Heap} {k : Nat} {l : List Lf} (h : Shp Try.prog H (k + 2) 23 l) : ∃ x : Reg, l = x.enc := by
  obtain ⟨_, _, rfl, h0, _, _, rfl, h1, _, _, rfl, h2, rfl⟩ := h.struct Try.underlying23
  obtain ⟨a0, rfl, -⟩ := h0.i64 Try.underlying3
  obtain ⟨a1, rfl, -⟩ := h1.i64 Try.underlying3
  obtain ⟨a2, rfl, -⟩ := h2.i64 Try.underlying3
  exact ⟨⟨a0, a1, a2⟩, rfl⟩

structure Wire where
  frm : Int
  ack : Bool
  life : Int
  n : Int
  inn : In
  deriving DecidableEq, Inhabited
def Wire.enc (x : Wire) : List Lf := [.i .i64 x.frm, .b x.ack, .i .i64 x.life, .i .i64 x.n, .i .i64 x.inn.kind, .i .i64 x.inn.port, .i .i64 x.inn.vec.root, .i .i64 x.inn.vec.cost, .i .i64 x.inn.vec.bridge, .i .i64 x.inn.vec.port, .i .i64 x.inn.hops, .b x.inn.up]
@[simp] theorem Wire.enc_len (x : Wire) : x.enc.length = 12 := rfl
@[simp] theorem Wire.enc_take (x : Wire) : List.take 12 x.enc = x.enc := rfl
@[simp] theorem Wire.enc_drop (x : Wire) : List.drop 12 x.enc = [] := rfl
abbrev Wire.z : List Lf := [.i .i64 0, .b false, .i .i64 0, .i .i64 0, .i .i64 0, .i .i64 0, .i .i64 0, .i .i64 0, .i .i64 0, .i .i64 0, .i .i64 0, .b false]
abbrev Wire.zv : Wire := ⟨0, false, 0, 0, ⟨0, 0, ⟨0, 0, 0, 0⟩, 0, false⟩⟩
theorem Wire.enc_inj {x y : Wire} (h : x.enc = y.enc) : x = y := by
  rcases x with ⟨v0, v1, v2, v3, ⟨v4_0, v4_1, ⟨v4_2_0, v4_2_1, v4_2_2, v4_2_3⟩, v4_3, v4_4⟩⟩
  rcases y with ⟨w0, v1, v2, v3, ⟨v4_0, v4_1, ⟨v4_2_0, v4_2_1, v4_2_2, v4_2_3⟩, v4_3, v4_4⟩⟩
  simp [Wire.enc] at h
  simp_all
def Wire.mk' (k : Int) : Wire := ⟨k, decide ((k + 1).tmod 3 = 0), k + 2, k + 3, ⟨k + 4, k + 5, ⟨k + 6, k + 7, k + 8, k + 9⟩, k + 10, decide ((k + 11).tmod 3 = 0)⟩⟩
theorem Wire.mk'_of {y : Wire} {c : Int} (h0 : y.frm = c) (h1 : y.ack = decide ((c + 1).tmod 3 = 0)) (h2 : y.life = c + 2) (h3 : y.n = c + 3) (h4 : y.inn.kind = c + 4) (h5 : y.inn.port = c + 5) (h6 : y.inn.vec.root = c + 6) (h7 : y.inn.vec.cost = c + 7) (h8 : y.inn.vec.bridge = c + 8) (h9 : y.inn.vec.port = c + 9) (h10 : y.inn.hops = c + 10) (h11 : y.inn.up = decide ((c + 11).tmod 3 = 0)) : y = Wire.mk' c := by
  rcases y with ⟨w0, v1, v2, v3, ⟨v4_0, v4_1, ⟨v4_2_0, v4_2_1, v4_2_2, v4_2_3⟩, v4_3, v4_4⟩⟩
  simp only at h0 h1 h2 h3 h4 h5 h6 h7 h8 h9 h10 h11
  subst h0 h1 h2 h3 h4 h5 h6 h7 h8 h9 h10 h11
  rfl

theorem toWire (H : Heap) (x : Wire) : run env 80 [.agg x.enc] H = some (.agg x.enc, H) := by
  refine run_walk ok80 Try.func80 rfl (by simp [Try.f80]) fun Q hQ => ?_
  simp only [Try.f80, strip, stripL, stripI, stripG, chkT, tagsB, tagsL, tagD, addT, tagA, lookN, tagOp, elmT, ty28, ty32, ty34, ty43, ty48, ty74, ty75, ty76, ty81, ty82, ty83, Nat.reduceEqDiff, if_false, reduceIte, Option.getD_some, Option.getD_none, dstAt, dstOk, Nat.reduceLT, decide_true, if_true]
  have e0 := fun H => toIn H x.inn
  simp only [In.enc] at e0
  simp [Wire.enc, e0]
  all_goals (refine hQ _ _ _ (by simp) ?_)
  all_goals (clear hQ; simp [Try.f80, Wire.enc])

theorem eqWire (H : Heap) (x y : Wire) : run env 82 [.agg x.enc, .agg y.enc] H = some (.bool (decide (x = y)), H) := by
  have e0 := fun H => eqIn H x.inn y.inn
  obtain ⟨a0, a1, a2, a3, a4⟩ := x
  obtain ⟨b0, b1, b2, b3, b4⟩ := y
  simp only [In.enc] at e0
  refine run_walk ok82 Try.func82 rfl (by simp [Try.f82]) fun Q hQ => ?_
  simp only [Try.f82, strip, stripL, stripI, stripG, chkT, tagsB, tagsL, tagD, addT, tagA, lookN, tagOp, elmT, ty28, ty32, ty34, ty43, ty48, ty74, ty75, ty76, ty81, ty82, ty83, Nat.reduceEqDiff, if_false, reduceIte, Option.getD_some, Option.getD_none, dstAt, dstOk, Nat.reduceLT, decide_true, if_true]
  simp [Wire.enc]
  repeat' (first | (refine gdL_t (fun h => ?_) (fun h => ?_) <;> simp [h, e0]) | (refine gdL_f (fun h => ?_) (fun h => ?_) <;> simp [h, e0]) | (refine selS_intro (fun h => ?_) (fun h => ?_) <;> simp [h, e0]))
  all_goals (refine hQ _ _ _ (by simp) ?_)
  all_goals (clear hQ; simp_all [Try.f82])

theorem shpWire {H : Heap} {k : Nat} {l : List Lf} (h : Shp Try.prog H (k + 4) 125 l) : ∃ x : Wire, l = x.enc := by
  obtain ⟨_, _, rfl, h0, _, _, rfl, h1, _, _, rfl, h2, _, _, rfl, h3, _, _, rfl, h4, rfl⟩ := h.struct Try.underlying125
  obtain ⟨a0, rfl, -⟩ := h0.i64 Try.underlying3
  obtain ⟨a1, rfl⟩ := h1.bool Try.underlying4
  obtain ⟨a2, rfl, -⟩ := h2.i64 Try.underlying3
  obtain ⟨a3, rfl, -⟩ := h3.i64 Try.underlying3
  obtain ⟨a4, rfl⟩ := shpIn h4
  exact ⟨⟨a0, a1, a2, a3, a4⟩, rfl⟩

def encB (x : Bool) : List Lf := [.b x]
@[simp] theorem encB_len (x : Bool) : (encB x).length = 1 := rfl
@[simp] theorem encB_take (x : Bool) : List.take 1 (encB x) = [.b x] := rfl
def mkB (k : Int) : Bool := decide (k.tmod 3 = 0)
theorem encB_inj {x y : Bool} (h : encB x = encB y) : x = y := by simpa [encB] using h

theorem toBoolS (H : Heap) (a : Option (Nat × Nat)) (xs : List Bool) (h : Sl H 4 a (xs.map encB)) (hn : xs.length ≤ 1048576) :
    run env 69 [.w (.lf (.sl a xs.length))] H = some (.sl H.length 0 xs.length, H ++ [some ⟨4, .wr, xs.map encB⟩]) := by
  refine run_walk ok69 Try.func69 rfl (by simp [Try.f69]) fun Q hQ => ?_
  simp only [Try.f69, strip, stripL, stripI, stripG, chkT, tagsB, tagsL, tagD, addT, tagA, lookN, tagOp, elmT, ty28, ty32, ty34, ty43, ty48, ty74, ty75, ty76, ty81, ty82, ty83, Nat.reduceEqDiff, if_false, reduceIte, Option.getD_some, Option.getD_none, dstAt, dstOk, Nat.reduceLT, decide_true, if_true]
  have k1 : (xs.length : Int) * 1 ≤ 281474976710656 := by omega
  have k2 : (xs.length : Int) ≤ 9223372036854775807 := by omega
  have k3 : (xs.length : Int) ≤ 281474976710656 := by omega
  simp [builtinV, pureB, lenV, makeSliceV, makeSliceR, newBlk, k1, k2, k3]
  refine wpS_loop (fun j tm H' => ∃ i, i + j = xs.length ∧ tm 0 = .w (.lf (.sl a xs.length)) ∧ tm 3 = .sl H.length 0 xs.length ∧ tm 4 = .int i ∧ H' = H ++ [some ⟨4, .wr, fillR (xs.map encB) [.b false] i j⟩]) xs.length (by rw [env_K]; omega) ⟨0, by simp, by simp, by simp, by simp, by rw [fillR_zero _ _ (by simp)]⟩ ?_
  rintro j tm H' hj ⟨i, hij, h0, h3, h4, rfl⟩ Q' hn' he' hr'
  simp [h0, h3, h4, builtinV, pureB, lenV]
  refine selS_intro (fun hc => ?_) (fun hc => ?_)
  · simp at hc
    obtain ⟨j, rfl⟩ : ∃ j', j = j' + 1 := ⟨j - 1, by omega⟩
    obtain ⟨id, r, b, rfl, hb, hbe, hrow⟩ := h i _ (by simp [hc]; rfl)
    have hid := blkAt_len hb
    have g2 := fillR_get (ys := xs.map encB) (z := [.b false]) (i := i) (j := j) (by simpa using hij)
    have g3 := fillR_set (ys := xs.map encB) (z := [.b false]) (i := i) (j := j) (y := encB xs[i]) (by simpa using hij) (by simp [hc])
    have g4 : IntKind.i64.wrap ((i : Int) + 1) = (i : Int) + 1 := wrap64 (by omega) (by omega)
    simp [h0, h3, h4, indexAddrV, elemIs, hid, hb, hbe, hc, hrow, g2, g3, g4]
    exact hn' j _ _ (by omega) ⟨i + 1, by omega, by simp [h0], by simp [h3], by simp, by simpa [encB] using congrArg (fun r => H ++ [some (⟨4, .wr, r⟩ : Blk)]) g3⟩
  · simp at hc
    have hj0 : j = 0 := by omega
    subst hj0
    simp [h0, h3, h4]
    refine he' _ _ _ ?_
    simp [h3]
    refine hQ _ _ _ (by simp) ?_
    simp [Try.f69, leave, fillR_done (ys := xs.map encB) (i := i) (z := [.b false]) (by simpa using hij), refFree]

theorem szBoolS (H : Heap) (a : Option (Nat × Nat)) (n : Nat) (left : Int) (h1 : 0 ≤ left) (h2 : left ≤ 1048576) (h3 : n ≤ maxLen) :
    run env 65 [.w (.lf (.sl a n)), .int left] H = some (.int (if left < n then -1 else left - n), H) := by
  have hm : (n : Int) ≤ 9223372036854775807 := by unfold maxLen at h3; omega
  refine run_walk ok65 Try.func65 rfl (by simp [Try.f65]) fun Q hQ => ?_
  simp only [Try.f65, strip, stripL, stripI, stripG, chkT, tagsB, tagsL, tagD, addT, tagA, lookN, tagOp, elmT, ty28, ty32, ty34, ty43, ty48, ty74, ty75, ty76, ty81, ty82, ty83, Nat.reduceEqDiff, if_false, reduceIte, Option.getD_some, Option.getD_none, dstAt, dstOk, Nat.reduceLT, decide_true, if_true]
  have g : IntKind.i64.wrap (left - n) = left - n := wrap64 (by omega) (by omega)
  simp [builtinV, pureB, lenV, g]
  repeat' (first | (refine gdL_t (fun h => ?_) (fun h => ?_) <;> simp [h]) | (refine gdL_f (fun h => ?_) (fun h => ?_) <;> simp [h]) | (refine selS_intro (fun h => ?_) (fun h => ?_) <;> simp [h]))
  all_goals (refine hQ _ _ _ (by simp) ?_)
  all_goals (clear hQ; simp_all [Try.f65] <;> omega)

theorem eqBoolS (H : Heap) (a b : Option (Nat × Nat)) (xs ys : List Bool) (ha : Sl H 4 a (xs.map encB)) (hb : Sl H 4 b (ys.map encB)) (hn : xs.length ≤ 1048576) :
    run env 18 [.w (.lf (.sl a xs.length)), .w (.lf (.sl b ys.length))] H = some (.bool (decide (xs = ys)), H) := by
  refine run_walk ok18 Try.func18 rfl (by simp [Try.f18]) fun Q hQ => ?_
  simp only [Try.f18, strip, stripL, stripI, stripG, chkT, tagsB, tagsL, tagD, addT, tagA, lookN, tagOp, elmT, ty28, ty32, ty34, ty43, ty48, ty74, ty75, ty76, ty81, ty82, ty83, Nat.reduceEqDiff, if_false, reduceIte, Option.getD_some, Option.getD_none, dstAt, dstOk, Nat.reduceLT, decide_true, if_true]
  simp [builtinV, pureB, lenV]
  refine selS_intro (fun hl => ?_) (fun hl => ?_)
  · simp
    refine hQ _ _ _ (by simp) ?_
    simp at hl
    have : ¬ xs = ys := fun h => hl (by rw [h])
    simp [Try.f18, this]
  simp at hl
  simp
  refine wpS_loop (fun j tm H' => ∃ i, i + j = xs.length ∧ tm 0 = .w (.lf (.sl a xs.length)) ∧ tm 1 = .w (.lf (.sl b ys.length)) ∧ tm 5 = .int i ∧ H' = H ∧ xs.take i = ys.take i) xs.length (by rw [env_K]; omega) ⟨0, by simp, by simp, by simp, by simp, rfl, by simp⟩ ?_
  rintro j tm H' hj ⟨i, hij, h0, h1, h5, rfl, heq⟩ Q' hn' he' hr'
  simp [h0, h1, h5, builtinV, pureB, lenV]
  refine selS_intro (fun hc => ?_) (fun hc => ?_)
  · simp at hc
    have hc2 : i < ys.length := by omega
    obtain ⟨id, r, bl, rfl, hbl, hbe, hrow⟩ := ha i _ (by simp [hc]; rfl)
    obtain ⟨id2, r2, bl2, rfl, hbl2, hbe2, hrow2⟩ := hb i _ (by simp [hc2]; rfl)
    have g4 : IntKind.i64.wrap ((i : Int) + 1) = (i : Int) + 1 := wrap64 (by omega) (by omega)
    simp [h0, h1, h5, indexAddrV, elemIs, hbl, hbe, hbl2, hbe2, hc, hc2, hrow, hrow2, encB]
    refine selS_intro (fun hd => ?_) (fun hd => ?_)
    · simp
      refine hr' _ _ ?_
      simp
      refine hQ _ _ _ (by simp) ?_
      simp at hd
      have : ¬ xs = ys := fun h => by subst h; simp at hd
      simp [Try.f18, this]
    · simp at hd
      simp [h0, h1, h5, g4]
      exact hn' (j - 1) _ _ (by omega) ⟨i + 1, by omega, by simp [h0], by simp [h1], by simp, rfl, by rw [List.take_add_one, List.take_add_one, heq]; simp [hc, hc2, hd]⟩
  · simp at hc
    simp [h0, h1, h5]
    refine he' _ _ _ ?_
    simp
    refine hQ _ _ _ (by simp) ?_
    have : xs = ys := by
      rw [List.take_of_length_le (by omega), List.take_of_length_le (by omega)] at heq
      exact heq
    simp [Try.f18, this]

abbrev IsBoolS := IsSl 4 encB
abbrev RdBoolS := RdSl 4 encB
abbrev RdLBoolS := RdSl 4 encB
def BoolS.mk' (xs : List Bool) (k : Int) : List Bool := marked mkB 1 xs.length k
def BoolS.mkN (xs : List Bool) (k : Int) : Int := k + 1 * xs.length
def BoolS.hd (xs : List Bool) (k : Int) : Int := heldL mkB 1 xs k
theorem BoolS.hd_mk (xs : List Bool) (k : Int) : BoolS.hd (BoolS.mk' xs k) k = BoolS.mkN xs k := by simp [BoolS.hd, BoolS.mk', BoolS.mkN]
theorem BoolS.mk_sz (xs : List Bool) (k : Int) : (BoolS.mk' xs k).length = xs.length := by simp [BoolS.mk']
theorem BoolS.mkN_le {xs : List Bool} {k : Int} (h : xs.length ≤ 1048576) : k ≤ BoolS.mkN xs k ∧ BoolS.mkN xs k ≤ k + 1000000000 := by unfold BoolS.mkN; omega

theorem shpBoolS_is {H : Heap} {k : Nat} {l : List Lf} (h : Shp Try.prog H (k + 2) 32 l) : ∃ (q : Lf) (xs : List Bool), l = [q] ∧ RdLBoolS H q xs ∧ xs.length ≤ maxLen := by
  obtain ⟨xs, a, rfl, hs, hl, -⟩ := h.sl (f := encB) (R := fun _ => True) Try.underlying32 fun row hr => let ⟨x, hx⟩ := hr.bool Try.underlying4; ⟨x, hx, trivial⟩
  exact ⟨_, xs, rfl, ⟨a, rfl, hs⟩, hl⟩

theorem toBoolS_is {H : Heap} {q : Lf} {xs : List Bool} (h : RdLBoolS H q xs) (hn : xs.length ≤ 1048576) : Runs env 69 [.w (.lf q)] H fun v H' => ∃ q' fp, v = .w (.lf q') ∧ IsBoolS H' q' xs fp ∧ Fresh H H' fp := by
  obtain ⟨a, rfl, h⟩ := h
  exact .of (toBoolS H a xs h hn) ⟨_, _, rfl, ⟨_, rfl, Own.of (by simp)⟩, Fresh.app _ _ (by simp)⟩

theorem eqBoolS_is {H : Heap} {q r : Lf} {xs ys : List Bool} (h : RdBoolS H q xs) (h2 : RdBoolS H r ys) (hn : xs.length ≤ 1048576) : run env 18 [.w (.lf q), .w (.lf r)] H = some (.bool (decide (xs = ys)), H) := by
  obtain ⟨a, rfl, h⟩ := h
  obtain ⟨b, rfl, h2⟩ := h2
  exact eqBoolS H a b xs ys h h2 hn

theorem toInS (H : Heap) (a : Option (Nat × Nat)) (xs : List In) (h : Sl H 63 a (xs.map In.enc)) (hn : xs.length ≤ 1048576) :
    run env 55 [.w (.lf (.sl a xs.length))] H = some (.sl H.length 0 xs.length, H ++ [some ⟨68, .wr, xs.map In.enc⟩]) := by
  refine run_walk ok55 Try.func55 rfl (by simp [Try.f55]) fun Q hQ => ?_
  simp only [Try.f55, strip, stripL, stripI, stripG, chkT, tagsB, tagsL, tagD, addT, tagA, lookN, tagOp, elmT, ty28, ty32, ty34, ty43, ty48, ty74, ty75, ty76, ty81, ty82, ty83, Nat.reduceEqDiff, if_false, reduceIte, Option.getD_some, Option.getD_none, dstAt, dstOk, Nat.reduceLT, decide_true, if_true]
  have k1 : (xs.length : Int) * 64 ≤ 281474976710656 := by omega
  have k2 : (xs.length : Int) ≤ 9223372036854775807 := by omega
  have k3 : (xs.length : Int) ≤ 281474976710656 := by omega
  simp [builtinV, pureB, lenV, makeSliceV, makeSliceR, newBlk, k1, k2, k3]
  refine wpS_loop (fun j tm H' => ∃ i, i + j = xs.length ∧ tm 0 = .w (.lf (.sl a xs.length)) ∧ tm 3 = .sl H.length 0 xs.length ∧ tm 4 = .int i ∧ H' = H ++ [some ⟨68, .wr, fillR (xs.map In.enc) In.z i j⟩]) xs.length (by rw [env_K]; omega) ⟨0, by simp, by simp, by simp, by simp, by rw [fillR_zero _ _ (by simp)]⟩ ?_
  rintro j tm H' hj ⟨i, hij, h0, h3, h4, rfl⟩ Q' hn' he' hr'
  simp [h0, h3, h4, builtinV, pureB, lenV]
  refine selS_intro (fun hc => ?_) (fun hc => ?_)
  · simp at hc
    obtain ⟨j, rfl⟩ : ∃ j', j = j' + 1 := ⟨j - 1, by omega⟩
    obtain ⟨id, r, b, rfl, hb, hbe, hrow⟩ := h i _ (by simp [hc]; rfl)
    have hid := blkAt_len hb
    have g2 := fillR_get (ys := xs.map In.enc) (z := In.z) (i := i) (j := j) (by simpa using hij)
    have g3 := fillR_set (ys := xs.map In.enc) (z := In.z) (i := i) (j := j) (y := In.enc xs[i]) (by simpa using hij) (by simp [hc])
    have g4 : IntKind.i64.wrap ((i : Int) + 1) = (i : Int) + 1 := wrap64 (by omega) (by omega)
    simp [h0, h3, h4, indexAddrV, elemIs, hid, hb, hbe, hc, hrow, toIn, g2, g3, g4]
    exact hn' j _ _ (by omega) ⟨i + 1, by omega, by simp [h0], by simp [h3], by simp, by simpa using congrArg (fun r => H ++ [some (⟨68, .wr, r⟩ : Blk)]) g3⟩
  · simp at hc
    have hj0 : j = 0 := by omega
    subst hj0
    simp [h0, h3, h4]
    refine he' _ _ _ ?_
    simp [h3]
    refine hQ _ _ _ (by simp) ?_
    simp [Try.f55, leave, fillR_done (ys := xs.map In.enc) (i := i) (z := In.z) (by simpa using hij), refFree]

theorem szInS (H : Heap) (a : Option (Nat × Nat)) (n : Nat) (left : Int) (h1 : 0 ≤ left) (h2 : left ≤ 1048576) (h3 : n ≤ maxLen) :
    run env 53 [.w (.lf (.sl a n)), .int left] H = some (.int (if left < n then -1 else left - n), H) := by
  have hm : (n : Int) ≤ 9223372036854775807 := by unfold maxLen at h3; omega
  refine run_walk ok53 Try.func53 rfl (by simp [Try.f53]) fun Q hQ => ?_
  simp only [Try.f53, strip, stripL, stripI, stripG, chkT, tagsB, tagsL, tagD, addT, tagA, lookN, tagOp, elmT, ty28, ty32, ty34, ty43, ty48, ty74, ty75, ty76, ty81, ty82, ty83, Nat.reduceEqDiff, if_false, reduceIte, Option.getD_some, Option.getD_none, dstAt, dstOk, Nat.reduceLT, decide_true, if_true]
  have g : IntKind.i64.wrap (left - n) = left - n := wrap64 (by omega) (by omega)
  simp [builtinV, pureB, lenV, g]
  repeat' (first | (refine gdL_t (fun h => ?_) (fun h => ?_) <;> simp [h]) | (refine gdL_f (fun h => ?_) (fun h => ?_) <;> simp [h]) | (refine selS_intro (fun h => ?_) (fun h => ?_) <;> simp [h]))
  all_goals (refine hQ _ _ _ (by simp) ?_)
  all_goals (clear hQ; simp_all [Try.f53] <;> omega)

theorem eqInS (H : Heap) (a b : Option (Nat × Nat)) (xs ys : List In) (ha : Sl H 68 a (xs.map In.enc)) (hb : Sl H 68 b (ys.map In.enc)) (hn : xs.length ≤ 1048576) :
    run env 57 [.w (.lf (.sl a xs.length)), .w (.lf (.sl b ys.length))] H = some (.bool (decide (xs = ys)), H) := by
  refine run_walk ok57 Try.func57 rfl (by simp [Try.f57]) fun Q hQ => ?_
  simp only [Try.f57, strip, stripL, stripI, stripG, chkT, tagsB, tagsL, tagD, addT, tagA, lookN, tagOp, elmT, ty28, ty32, ty34, ty43, ty48, ty74, ty75, ty76, ty81, ty82, ty83, Nat.reduceEqDiff, if_false, reduceIte, Option.getD_some, Option.getD_none, dstAt, dstOk, Nat.reduceLT, decide_true, if_true]
  simp [builtinV, pureB, lenV]
  refine selS_intro (fun hl => ?_) (fun hl => ?_)
  · simp
    refine hQ _ _ _ (by simp) ?_
    simp at hl
    have : ¬ xs = ys := fun h => hl (by rw [h])
    simp [Try.f57, this]
  simp at hl
  simp
  refine wpS_loop (fun j tm H' => ∃ i, i + j = xs.length ∧ tm 0 = .w (.lf (.sl a xs.length)) ∧ tm 1 = .w (.lf (.sl b ys.length)) ∧ tm 5 = .int i ∧ H' = H ∧ xs.take i = ys.take i) xs.length (by rw [env_K]; omega) ⟨0, by simp, by simp, by simp, by simp, rfl, by simp⟩ ?_
  rintro j tm H' hj ⟨i, hij, h0, h1, h5, rfl, heq⟩ Q' hn' he' hr'
  simp [h0, h1, h5, builtinV, pureB, lenV]
  refine selS_intro (fun hc => ?_) (fun hc => ?_)
  · simp at hc
    have hc2 : i < ys.length := by omega
    obtain ⟨id, r, bl, rfl, hbl, hbe, hrow⟩ := ha i _ (by simp [hc]; rfl)
    obtain ⟨id2, r2, bl2, rfl, hbl2, hbe2, hrow2⟩ := hb i _ (by simp [hc2]; rfl)
    have g4 : IntKind.i64.wrap ((i : Int) + 1) = (i : Int) + 1 := wrap64 (by omega) (by omega)
    simp [h0, h1, h5, indexAddrV, elemIs, hbl, hbe, hbl2, hbe2, hc, hc2, hrow, hrow2, eqIn]
    refine selS_intro (fun hd => ?_) (fun hd => ?_)
    · simp
      refine hr' _ _ ?_
      simp
      refine hQ _ _ _ (by simp) ?_
      simp at hd
      have : ¬ xs = ys := fun h => by subst h; simp at hd
      simp [Try.f57, this]
    · simp at hd
      simp [h0, h1, h5, g4]
      exact hn' (j - 1) _ _ (by omega) ⟨i + 1, by omega, by simp [h0], by simp [h1], by simp, rfl, by rw [List.take_add_one, List.take_add_one, heq]; simp [hc, hc2, hd]⟩
  · simp at hc
    simp [h0, h1, h5]
    refine he' _ _ _ ?_
    simp
    refine hQ _ _ _ (by simp) ?_
    have : xs = ys := by
      rw [List.take_of_length_le (by omega), List.take_of_length_le (by omega)] at heq
      exact heq
    simp [Try.f57, this]

abbrev IsInS := IsSl 68 In.enc
abbrev RdInS := RdSl 68 In.enc
abbrev RdLInS := RdSl 63 In.enc
def InS.mk' (xs : List In) (k : Int) : List In := marked In.mk' 8 xs.length k
def InS.mkN (xs : List In) (k : Int) : Int := k + 8 * xs.length
def InS.hd (xs : List In) (k : Int) : Int := heldL In.mk' 8 xs k
theorem InS.hd_mk (xs : List In) (k : Int) : InS.hd (InS.mk' xs k) k = InS.mkN xs k := by simp [InS.hd, InS.mk', InS.mkN]
theorem InS.mk_sz (xs : List In) (k : Int) : (InS.mk' xs k).length = xs.length := by simp [InS.mk']
theorem InS.mkN_le {xs : List In} {k : Int} (h : xs.length ≤ 1048576) : k ≤ InS.mkN xs k ∧ InS.mkN xs k ≤ k + 1000000000 := by unfold InS.mkN; omega

theorem shpInS_is {H : Heap} {k : Nat} {l : List Lf} (h : Shp Try.prog H (k + 4) 43 l) : ∃ (q : Lf) (xs : List In), l = [q] ∧ RdLInS H q xs ∧ xs.length ≤ maxLen := by
  obtain ⟨xs, a, rfl, hs, hl, -⟩ := h.sl (f := In.enc) (R := fun _ => True) Try.underlying43 fun row hr => let ⟨x, hx⟩ := shpIn hr; ⟨x, hx, trivial⟩
  exact ⟨_, xs, rfl, ⟨a, rfl, hs⟩, hl⟩

theorem toInS_is {H : Heap} {q : Lf} {xs : List In} (h : RdLInS H q xs) (hn : xs.length ≤ 1048576) : Runs env 55 [.w (.lf q)] H fun v H' => ∃ q' fp, v = .w (.lf q') ∧ IsInS H' q' xs fp ∧ Fresh H H' fp := by
  obtain ⟨a, rfl, h⟩ := h
  exact .of (toInS H a xs h hn) ⟨_, _, rfl, ⟨_, rfl, Own.of (by simp)⟩, Fresh.app _ _ (by simp)⟩

theorem eqInS_is {H : Heap} {q r : Lf} {xs ys : List In} (h : RdInS H q xs) (h2 : RdInS H r ys) (hn : xs.length ≤ 1048576) : run env 57 [.w (.lf q), .w (.lf r)] H = some (.bool (decide (xs = ys)), H) := by
  obtain ⟨a, rfl, h⟩ := h
  obtain ⟨b, rfl, h2⟩ := h2
  exact eqInS H a b xs ys h h2 hn

theorem toOutS (H : Heap) (a : Option (Nat × Nat)) (xs : List Out) (h : Sl H 130 a (xs.map Out.enc)) (hn : xs.length ≤ 1048576) :
    run env 70 [.w (.lf (.sl a xs.length))] H = some (.sl H.length 0 xs.length, H ++ [some ⟨127, .wr, xs.map Out.enc⟩]) := by
  refine run_walk ok70 Try.func70 rfl (by simp [Try.f70]) fun Q hQ => ?_
  simp only [Try.f70, strip, stripL, stripI, stripG, chkT, tagsB, tagsL, tagD, addT, tagA, lookN, tagOp, elmT, ty28, ty32, ty34, ty43, ty48, ty74, ty75, ty76, ty81, ty82, ty83, Nat.reduceEqDiff, if_false, reduceIte, Option.getD_some, Option.getD_none, dstAt, dstOk, Nat.reduceLT, decide_true, if_true]
  have k1 : (xs.length : Int) * 64 ≤ 281474976710656 := by omega
  have k2 : (xs.length : Int) ≤ 9223372036854775807 := by omega
  have k3 : (xs.length : Int) ≤ 281474976710656 := by omega
  simp [builtinV, pureB, lenV, makeSliceV, makeSliceR, newBlk, k1, k2, k3]
  refine wpS_loop (fun j tm H' => ∃ i, i + j = xs.length ∧ tm 0 = .w (.lf (.sl a xs.length)) ∧ tm 3 = .sl H.length 0 xs.length ∧ tm 4 = .int i ∧ H' = H ++ [some ⟨127, .wr, fillR (xs.map Out.enc) Out.z i j⟩]) xs.length (by rw [env_K]; omega) ⟨0, by simp, by simp, by simp, by simp, by rw [fillR_zero _ _ (by simp)]⟩ ?_
  rintro j tm H' hj ⟨i, hij, h0, h3, h4, rfl⟩ Q' hn' he' hr'
  simp [h0, h3, h4, builtinV, pureB, lenV]
  refine selS_intro (fun hc => ?_) (fun hc => ?_)
  · simp at hc
    obtain ⟨j, rfl⟩ : ∃ j', j = j' + 1 := ⟨j - 1, by omega⟩
    obtain ⟨id, r, b, rfl, hb, hbe, hrow⟩ := h i _ (by simp [hc]; rfl)
    have hid := blkAt_len hb
    have g2 := fillR_get (ys := xs.map Out.enc) (z := Out.z) (i := i) (j := j) (by simpa using hij)
    have g3 := fillR_set (ys := xs.map Out.enc) (z := Out.z) (i := i) (j := j) (y := Out.enc xs[i]) (by simpa using hij) (by simp [hc])
    have g4 : IntKind.i64.wrap ((i : Int) + 1) = (i : Int) + 1 := wrap64 (by omega) (by omega)
    simp [h0, h3, h4, indexAddrV, elemIs, hid, hb, hbe, hc, hrow, toOut, g2, g3, g4]
    exact hn' j _ _ (by omega) ⟨i + 1, by omega, by simp [h0], by simp [h3], by simp, by simpa using congrArg (fun r => H ++ [some (⟨127, .wr, r⟩ : Blk)]) g3⟩
  · simp at hc
    have hj0 : j = 0 := by omega
    subst hj0
    simp [h0, h3, h4]
    refine he' _ _ _ ?_
    simp [h3]
    refine hQ _ _ _ (by simp) ?_
    simp [Try.f70, leave, fillR_done (ys := xs.map Out.enc) (i := i) (z := Out.z) (by simpa using hij), refFree]

theorem szOutS (H : Heap) (a : Option (Nat × Nat)) (n : Nat) (left : Int) (h1 : 0 ≤ left) (h2 : left ≤ 1048576) (h3 : n ≤ maxLen) :
    run env 66 [.w (.lf (.sl a n)), .int left] H = some (.int (if left < n then -1 else left - n), H) := by
  have hm : (n : Int) ≤ 9223372036854775807 := by unfold maxLen at h3; omega
  refine run_walk ok66 Try.func66 rfl (by simp [Try.f66]) fun Q hQ => ?_
  simp only [Try.f66, strip, stripL, stripI, stripG, chkT, tagsB, tagsL, tagD, addT, tagA, lookN, tagOp, elmT, ty28, ty32, ty34, ty43, ty48, ty74, ty75, ty76, ty81, ty82, ty83, Nat.reduceEqDiff, if_false, reduceIte, Option.getD_some, Option.getD_none, dstAt, dstOk, Nat.reduceLT, decide_true, if_true]
  have g : IntKind.i64.wrap (left - n) = left - n := wrap64 (by omega) (by omega)
  simp [builtinV, pureB, lenV, g]
  repeat' (first | (refine gdL_t (fun h => ?_) (fun h => ?_) <;> simp [h]) | (refine gdL_f (fun h => ?_) (fun h => ?_) <;> simp [h]) | (refine selS_intro (fun h => ?_) (fun h => ?_) <;> simp [h]))
  all_goals (refine hQ _ _ _ (by simp) ?_)
  all_goals (clear hQ; simp_all [Try.f66] <;> omega)

theorem eqOutS (H : Heap) (a b : Option (Nat × Nat)) (xs ys : List Out) (ha : Sl H 127 a (xs.map Out.enc)) (hb : Sl H 127 b (ys.map Out.enc)) (hn : xs.length ≤ 1048576) :
    run env 73 [.w (.lf (.sl a xs.length)), .w (.lf (.sl b ys.length))] H = some (.bool (decide (xs = ys)), H) := by
  refine run_walk ok73 Try.func73 rfl (by simp [Try.f73]) fun Q hQ => ?_
  simp only [Try.f73, strip, stripL, stripI, stripG, chkT, tagsB, tagsL, tagD, addT, tagA, lookN, tagOp, elmT, ty28, ty32, ty34, ty43, ty48, ty74, ty75, ty76, ty81, ty82, ty83, Nat.reduceEqDiff, if_false, reduceIte, Option.getD_some, Option.getD_none, dstAt, dstOk, Nat.reduceLT, decide_true, if_true]
  simp [builtinV, pureB, lenV]
  refine selS_intro (fun hl => ?_) (fun hl => ?_)
  · simp
    refine hQ _ _ _ (by simp) ?_
    simp at hl
    have : ¬ xs = ys := fun h => hl (by rw [h])
    simp [Try.f73, this]
  simp at hl
  simp
  refine wpS_loop (fun j tm H' => ∃ i, i + j = xs.length ∧ tm 0 = .w (.lf (.sl a xs.length)) ∧ tm 1 = .w (.lf (.sl b ys.length)) ∧ tm 5 = .int i ∧ H' = H ∧ xs.take i = ys.take i) xs.length (by rw [env_K]; omega) ⟨0, by simp, by simp, by simp, by simp, rfl, by simp⟩ ?_
  rintro j tm H' hj ⟨i, hij, h0, h1, h5, rfl, heq⟩ Q' hn' he' hr'
  simp [h0, h1, h5, builtinV, pureB, lenV]
  refine selS_intro (fun hc => ?_) (fun hc => ?_)
  · simp at hc
    have hc2 : i < ys.length := by omega
    obtain ⟨id, r, bl, rfl, hbl, hbe, hrow⟩ := ha i _ (by simp [hc]; rfl)
    obtain ⟨id2, r2, bl2, rfl, hbl2, hbe2, hrow2⟩ := hb i _ (by simp [hc2]; rfl)
    have g4 : IntKind.i64.wrap ((i : Int) + 1) = (i : Int) + 1 := wrap64 (by omega) (by omega)
    simp [h0, h1, h5, indexAddrV, elemIs, hbl, hbe, hbl2, hbe2, hc, hc2, hrow, hrow2, eqOut]
    refine selS_intro (fun hd => ?_) (fun hd => ?_)
    · simp
      refine hr' _ _ ?_
      simp
      refine hQ _ _ _ (by simp) ?_
      simp at hd
      have : ¬ xs = ys := fun h => by subst h; simp at hd
      simp [Try.f73, this]
    · simp at hd
      simp [h0, h1, h5, g4]
      exact hn' (j - 1) _ _ (by omega) ⟨i + 1, by omega, by simp [h0], by simp [h1], by simp, rfl, by rw [List.take_add_one, List.take_add_one, heq]; simp [hc, hc2, hd]⟩
  · simp at hc
    simp [h0, h1, h5]
    refine he' _ _ _ ?_
    simp
    refine hQ _ _ _ (by simp) ?_
    have : xs = ys := by
      rw [List.take_of_length_le (by omega), List.take_of_length_le (by omega)] at heq
      exact heq
    simp [Try.f73, this]

abbrev IsOutS := IsSl 127 Out.enc
abbrev RdOutS := RdSl 127 Out.enc
abbrev RdLOutS := RdSl 130 Out.enc
def OutS.mk' (xs : List Out) (k : Int) : List Out := marked Out.mk' 8 xs.length k
def OutS.mkN (xs : List Out) (k : Int) : Int := k + 8 * xs.length
def OutS.hd (xs : List Out) (k : Int) : Int := heldL Out.mk' 8 xs k
theorem OutS.hd_mk (xs : List Out) (k : Int) : OutS.hd (OutS.mk' xs k) k = OutS.mkN xs k := by simp [OutS.hd, OutS.mk', OutS.mkN]
theorem OutS.mk_sz (xs : List Out) (k : Int) : (OutS.mk' xs k).length = xs.length := by simp [OutS.mk']
theorem OutS.mkN_le {xs : List Out} {k : Int} (h : xs.length ≤ 1048576) : k ≤ OutS.mkN xs k ∧ OutS.mkN xs k ≤ k + 1000000000 := by unfold OutS.mkN; omega

theorem shpOutS_is {H : Heap} {k : Nat} {l : List Lf} (h : Shp Try.prog H (k + 4) 76 l) : ∃ (q : Lf) (xs : List Out), l = [q] ∧ RdLOutS H q xs ∧ xs.length ≤ maxLen := by
  obtain ⟨xs, a, rfl, hs, hl, -⟩ := h.sl (f := Out.enc) (R := fun _ => True) Try.underlying76 fun row hr => let ⟨x, hx⟩ := shpOut hr; ⟨x, hx, trivial⟩
  exact ⟨_, xs, rfl, ⟨a, rfl, hs⟩, hl⟩

theorem toOutS_is {H : Heap} {q : Lf} {xs : List Out} (h : RdLOutS H q xs) (hn : xs.length ≤ 1048576) : Runs env 70 [.w (.lf q)] H fun v H' => ∃ q' fp, v = .w (.lf q') ∧ IsOutS H' q' xs fp ∧ Fresh H H' fp := by
  obtain ⟨a, rfl, h⟩ := h
  exact .of (toOutS H a xs h hn) ⟨_, _, rfl, ⟨_, rfl, Own.of (by simp)⟩, Fresh.app _ _ (by simp)⟩

theorem eqOutS_is {H : Heap} {q r : Lf} {xs ys : List Out} (h : RdOutS H q xs) (h2 : RdOutS H r ys) (hn : xs.length ≤ 1048576) : run env 73 [.w (.lf q), .w (.lf r)] H = some (.bool (decide (xs = ys)), H) := by
  obtain ⟨a, rfl, h⟩ := h
  obtain ⟨b, rfl, h2⟩ := h2
  exact eqOutS H a b xs ys h h2 hn

theorem toWireS (H : Heap) (a : Option (Nat × Nat)) (xs : List Wire) (h : Sl H 125 a (xs.map Wire.enc)) (hn : xs.length ≤ 1048576) :
    run env 68 [.w (.lf (.sl a xs.length))] H = some (.sl H.length 0 xs.length, H ++ [some ⟨122, .wr, xs.map Wire.enc⟩]) := by
  refine run_walk ok68 Try.func68 rfl (by simp [Try.f68]) fun Q hQ => ?_
  simp only [Try.f68, strip, stripL, stripI, stripG, chkT, tagsB, tagsL, tagD, addT, tagA, lookN, tagOp, elmT, ty28, ty32, ty34, ty43, ty48, ty74, ty75, ty76, ty81, ty82, ty83, Nat.reduceEqDiff, if_false, reduceIte, Option.getD_some, Option.getD_none, dstAt, dstOk, Nat.reduceLT, decide_true, if_true]
  have k1 : (xs.length : Int) * 96 ≤ 281474976710656 := by omega
  have k2 : (xs.length : Int) ≤ 9223372036854775807 := by omega
  have k3 : (xs.length : Int) ≤ 281474976710656 := by omega
  simp [builtinV, pureB, lenV, makeSliceV, makeSliceR, newBlk, k1, k2, k3]
  refine wpS_loop (fun j tm H' => ∃ i, i + j = xs.length ∧ tm 0 = .w (.lf (.sl a xs.length)) ∧ tm 3 = .sl H.length 0 xs.length ∧ tm 4 = .int i ∧ H' = H ++ [some ⟨122, .wr, fillR (xs.map Wire.enc) Wire.z i j⟩]) xs.length (by rw [env_K]; omega) ⟨0, by simp, by simp, by simp, by simp, by rw [fillR_zero _ _ (by simp)]⟩ ?_
  rintro j tm H' hj ⟨i, hij, h0, h3, h4, rfl⟩ Q' hn' he' hr'
  simp [h0, h3, h4, builtinV, pureB, lenV]
  refine selS_intro (fun hc => ?_) (fun hc => ?_)
  · simp at hc
    obtain ⟨j, rfl⟩ : ∃ j', j = j' + 1 := ⟨j - 1, by omega⟩
    obtain ⟨id, r, b, rfl, hb, hbe, hrow⟩ := h i _ (by simp [hc]; rfl)
    have hid := blkAt_len hb
    have g2 := fillR_get (ys := xs.map Wire.enc) (z := Wire.z) (i := i) (j := j) (by simpa using hij)
    have g3 := fillR_set (ys := xs.map Wire.enc) (z := Wire.z) (i := i) (j := j) (y := Wire.enc xs[i]) (by simpa using hij) (by simp [hc])
    have g4 : IntKind.i64.wrap ((i : Int) + 1) = (i : Int) + 1 := wrap64 (by omega) (by omega)
    simp [h0, h3, h4, indexAddrV, elemIs, hid, hb, hbe, hc, hrow, toWire, g2, g3, g4]
    exact hn' j _ _ (by omega) ⟨i + 1, by omega, by simp [h0], by simp [h3], by simp, by simpa using congrArg (fun r => H ++ [some (⟨122, .wr, r⟩ : Blk)]) g3⟩
  · simp at hc
    have hj0 : j = 0 := by omega
    subst hj0
    simp [h0, h3, h4]
    refine he' _ _ _ ?_
    simp [h3]
    refine hQ _ _ _ (by simp) ?_
    simp [Try.f68, leave, fillR_done (ys := xs.map Wire.enc) (i := i) (z := Wire.z) (by simpa using hij), refFree]

theorem szWireS (H : Heap) (a : Option (Nat × Nat)) (n : Nat) (left : Int) (h1 : 0 ≤ left) (h2 : left ≤ 1048576) (h3 : n ≤ maxLen) :
    run env 64 [.w (.lf (.sl a n)), .int left] H = some (.int (if left < n then -1 else left - n), H) := by
  have hm : (n : Int) ≤ 9223372036854775807 := by unfold maxLen at h3; omega
  refine run_walk ok64 Try.func64 rfl (by simp [Try.f64]) fun Q hQ => ?_
  simp only [Try.f64, strip, stripL, stripI, stripG, chkT, tagsB, tagsL, tagD, addT, tagA, lookN, tagOp, elmT, ty28, ty32, ty34, ty43, ty48, ty74, ty75, ty76, ty81, ty82, ty83, Nat.reduceEqDiff, if_false, reduceIte, Option.getD_some, Option.getD_none, dstAt, dstOk, Nat.reduceLT, decide_true, if_true]
  have g : IntKind.i64.wrap (left - n) = left - n := wrap64 (by omega) (by omega)
  simp [builtinV, pureB, lenV, g]
  repeat' (first | (refine gdL_t (fun h => ?_) (fun h => ?_) <;> simp [h]) | (refine gdL_f (fun h => ?_) (fun h => ?_) <;> simp [h]) | (refine selS_intro (fun h => ?_) (fun h => ?_) <;> simp [h]))
  all_goals (refine hQ _ _ _ (by simp) ?_)
  all_goals (clear hQ; simp_all [Try.f64] <;> omega)

theorem eqWireS (H : Heap) (a b : Option (Nat × Nat)) (xs ys : List Wire) (ha : Sl H 122 a (xs.map Wire.enc)) (hb : Sl H 122 b (ys.map Wire.enc)) (hn : xs.length ≤ 1048576) :
    run env 72 [.w (.lf (.sl a xs.length)), .w (.lf (.sl b ys.length))] H = some (.bool (decide (xs = ys)), H) := by
  refine run_walk ok72 Try.func72 rfl (by simp [Try.f72]) fun Q hQ => ?_
  simp only [Try.f72, strip, stripL, stripI, stripG, chkT, tagsB, tagsL, tagD, addT, tagA, lookN, tagOp, elmT, ty28, ty32, ty34, ty43, ty48, ty74, ty75, ty76, ty81, ty82, ty83, Nat.reduceEqDiff, if_false, reduceIte, Option.getD_some, Option.getD_none, dstAt, dstOk, Nat.reduceLT, decide_true, if_true]
  simp [builtinV, pureB, lenV]
  refine selS_intro (fun hl => ?_) (fun hl => ?_)
  · simp
    refine hQ _ _ _ (by simp) ?_
    simp at hl
    have : ¬ xs = ys := fun h => hl (by rw [h])
    simp [Try.f72, this]
  simp at hl
  simp
  refine wpS_loop (fun j tm H' => ∃ i, i + j = xs.length ∧ tm 0 = .w (.lf (.sl a xs.length)) ∧ tm 1 = .w (.lf (.sl b ys.length)) ∧ tm 5 = .int i ∧ H' = H ∧ xs.take i = ys.take i) xs.length (by rw [env_K]; omega) ⟨0, by simp, by simp, by simp, by simp, rfl, by simp⟩ ?_
  rintro j tm H' hj ⟨i, hij, h0, h1, h5, rfl, heq⟩ Q' hn' he' hr'
  simp [h0, h1, h5, builtinV, pureB, lenV]
  refine selS_intro (fun hc => ?_) (fun hc => ?_)
  · simp at hc
    have hc2 : i < ys.length := by omega
    obtain ⟨id, r, bl, rfl, hbl, hbe, hrow⟩ := ha i _ (by simp [hc]; rfl)
    obtain ⟨id2, r2, bl2, rfl, hbl2, hbe2, hrow2⟩ := hb i _ (by simp [hc2]; rfl)
    have g4 : IntKind.i64.wrap ((i : Int) + 1) = (i : Int) + 1 := wrap64 (by omega) (by omega)
    simp [h0, h1, h5, indexAddrV, elemIs, hbl, hbe, hbl2, hbe2, hc, hc2, hrow, hrow2, eqWire]
    refine selS_intro (fun hd => ?_) (fun hd => ?_)
    · simp
      refine hr' _ _ ?_
      simp
      refine hQ _ _ _ (by simp) ?_
      simp at hd
      have : ¬ xs = ys := fun h => by subst h; simp at hd
      simp [Try.f72, this]
    · simp at hd
      simp [h0, h1, h5, g4]
      exact hn' (j - 1) _ _ (by omega) ⟨i + 1, by omega, by simp [h0], by simp [h1], by simp, rfl, by rw [List.take_add_one, List.take_add_one, heq]; simp [hc, hc2, hd]⟩
  · simp at hc
    simp [h0, h1, h5]
    refine he' _ _ _ ?_
    simp
    refine hQ _ _ _ (by simp) ?_
    have : xs = ys := by
      rw [List.take_of_length_le (by omega), List.take_of_length_le (by omega)] at heq
      exact heq
    simp [Try.f72, this]

abbrev IsWireS := IsSl 122 Wire.enc
abbrev RdWireS := RdSl 122 Wire.enc
abbrev RdLWireS := RdSl 125 Wire.enc
def WireS.mk' (xs : List Wire) (k : Int) : List Wire := marked Wire.mk' 12 xs.length k
def WireS.mkN (xs : List Wire) (k : Int) : Int := k + 12 * xs.length
def WireS.hd (xs : List Wire) (k : Int) : Int := heldL Wire.mk' 12 xs k
theorem WireS.hd_mk (xs : List Wire) (k : Int) : WireS.hd (WireS.mk' xs k) k = WireS.mkN xs k := by simp [WireS.hd, WireS.mk', WireS.mkN]
theorem WireS.mk_sz (xs : List Wire) (k : Int) : (WireS.mk' xs k).length = xs.length := by simp [WireS.mk']
theorem WireS.mkN_le {xs : List Wire} {k : Int} (h : xs.length ≤ 1048576) : k ≤ WireS.mkN xs k ∧ WireS.mkN xs k ≤ k + 1000000000 := by unfold WireS.mkN; omega

theorem shpWireS_is {H : Heap} {k : Nat} {l : List Lf} (h : Shp Try.prog H (k + 5) 75 l) : ∃ (q : Lf) (xs : List Wire), l = [q] ∧ RdLWireS H q xs ∧ xs.length ≤ maxLen := by
  obtain ⟨xs, a, rfl, hs, hl, -⟩ := h.sl (f := Wire.enc) (R := fun _ => True) Try.underlying75 fun row hr => let ⟨x, hx⟩ := shpWire hr; ⟨x, hx, trivial⟩
  exact ⟨_, xs, rfl, ⟨a, rfl, hs⟩, hl⟩

theorem toWireS_is {H : Heap} {q : Lf} {xs : List Wire} (h : RdLWireS H q xs) (hn : xs.length ≤ 1048576) : Runs env 68 [.w (.lf q)] H fun v H' => ∃ q' fp, v = .w (.lf q') ∧ IsWireS H' q' xs fp ∧ Fresh H H' fp := by
  obtain ⟨a, rfl, h⟩ := h
  exact .of (toWireS H a xs h hn) ⟨_, _, rfl, ⟨_, rfl, Own.of (by simp)⟩, Fresh.app _ _ (by simp)⟩

theorem eqWireS_is {H : Heap} {q r : Lf} {xs ys : List Wire} (h : RdWireS H q xs) (h2 : RdWireS H r ys) (hn : xs.length ≤ 1048576) : run env 72 [.w (.lf q), .w (.lf r)] H = some (.bool (decide (xs = ys)), H) := by
  obtain ⟨a, rfl, h⟩ := h
  obtain ⟨b, rfl, h2⟩ := h2
  exact eqWireS H a b xs ys h h2 hn

def Reg.ok (r : Reg) : Bool := decide (1 ≤ r.epoch) && decide (r.epoch ≤ 100000) && (decide (0 ≤ r.owner) && decide (r.owner ≤ 1)) && (decide (0 ≤ r.pair) && decide (r.pair ≤ 100000))

structure Bridge where
  id : Int
  ports : List Port
  deriving DecidableEq, Inhabited
def Bridge.enc (b : Bridge) (a : Option (Nat × Nat)) : List Lf := [.i .i64 b.id, .sl a b.ports.length]
@[simp] theorem Bridge.enc_len (b : Bridge) (a : Option (Nat × Nat)) : (b.enc a).length = 2 := rfl
@[simp] theorem Bridge.enc_take (b : Bridge) (a : Option (Nat × Nat)) : List.take 2 (b.enc a) = b.enc a := rfl

structure Minder where
  up : Bool
  life : Int
  epoch : Int
  log : List In
  said : Int
  acked : Int
  ackLife : Int
  deriving DecidableEq
def Minder.enc (m : Minder) (a : Option (Nat × Nat)) : List Lf := [.b m.up, .i .i64 m.life, .i .i64 m.epoch, .sl a m.log.length, .i .i64 m.said, .i .i64 m.acked, .i .i64 m.ackLife]
@[simp] theorem Minder.enc_len (m : Minder) (a : Option (Nat × Nat)) : (m.enc a).length = 7 := rfl
@[simp] theorem Minder.enc_take (m : Minder) (a : Option (Nat × Nat)) : List.take 7 (m.enc a) = m.enc a := rfl

theorem szMinder (H : Heap) (a : Option (Nat × Nat)) (m : Minder) (left : Int) (h1 : 0 ≤ left) (h2 : left ≤ 1048576) (h3 : m.log.length ≤ maxLen) :
    run env 23 [.agg (m.enc a), .int left] H = some (.int (if left < m.log.length then -1 else left - m.log.length), H) := by
  have e := fun H => szInS H a m.log.length left h1 h2 h3
  refine run_walk ok23 Try.func23 rfl (by simp [Try.f23]) fun Q hQ => ?_
  simp only [Try.f23, strip, stripL, stripI, stripG, chkT, tagsB, tagsL, tagD, addT, tagA, lookN, tagOp, elmT, ty28, ty32, ty34, ty43, ty48, ty74, ty75, ty76, ty81, ty82, ty83, Nat.reduceEqDiff, if_false, reduceIte, Option.getD_some, Option.getD_none, dstAt, dstOk, Nat.reduceLT, decide_true, if_true]
  simp [Minder.enc, e]
  repeat' (first | (refine gdL_t (fun h => ?_) (fun h => ?_) <;> simp [h]) | (refine gdL_f (fun h => ?_) (fun h => ?_) <;> simp [h]) | (refine selS_intro (fun h => ?_) (fun h => ?_) <;> simp [h]))
  all_goals (refine hQ _ _ _ (by simp) ?_)
  all_goals (clear hQ; simp_all [Try.f23] <;> omega)

theorem toMinder (H : Heap) (a : Option (Nat × Nat)) (m : Minder) (h : Sl H 63 a (m.log.map In.enc)) (hn : m.log.length ≤ 1048576) :
    Runs env 25 [.agg (m.enc a)] H fun v H' => ∃ a' fp, v = .agg (m.enc a') ∧ Own H' 68 a' (m.log.map In.enc) fp ∧ Fresh H H' fp := by
  have e := fun H h => toInS H a m.log h hn
  refine Runs.walk ok25 Try.func25 rfl (by simp [Try.f25]) fun Q hQ => ?_
  simp only [Try.f25, strip, stripL, stripI, stripG, chkT, tagsB, tagsL, tagD, addT, tagA, lookN, tagOp, elmT, ty28, ty32, ty34, ty43, ty48, ty74, ty75, ty76, ty81, ty82, ty83, Nat.reduceEqDiff, if_false, reduceIte, Option.getD_some, Option.getD_none, dstAt, dstOk, Nat.reduceLT, decide_true, if_true]
  simp [Minder.enc]
  rw [e _ (by simpa using h.app _)]
  simp
  refine hQ _ _ _ (by simp) ?_
  simp [Try.f25, leave, refFree, Minder.enc]
  exact ⟨_, Own.of (by simp), Fresh.app _ _ (by simp)⟩

theorem eqMinder (H : Heap) (a b : Option (Nat × Nat)) (m n : Minder) (ha : Sl H 68 a (m.log.map In.enc)) (hb : Sl H 68 b (n.log.map In.enc)) (hn : m.log.length ≤ 1048576) :
    run env 27 [.agg (m.enc a), .agg (n.enc b)] H = some (.bool (decide (m = n)), H) := by
  have e := fun G => eqInS (H ++ G) a b m.log n.log (ha.app _) (hb.app _) hn
  obtain ⟨a1, a2, a3, a4, a5, a6, a7⟩ := m
  obtain ⟨b1, b2, b3, b4, b5, b6, b7⟩ := n
  simp only at e
  refine run_walk ok27 Try.func27 rfl (by simp [Try.f27]) fun Q hQ => ?_
  simp only [Try.f27, strip, stripL, stripI, stripG, chkT, tagsB, tagsL, tagD, addT, tagA, lookN, tagOp, elmT, ty28, ty32, ty34, ty43, ty48, ty74, ty75, ty76, ty81, ty82, ty83, Nat.reduceEqDiff, if_false, reduceIte, Option.getD_some, Option.getD_none, dstAt, dstOk, Nat.reduceLT, decide_true, if_true]
  simp [Minder.enc]
  repeat' (first | (refine gdL_t (fun h => ?_) (fun h => ?_) <;> simp [h, e]) | (refine gdL_f (fun h => ?_) (fun h => ?_) <;> simp [h, e]) | (refine selS_intro (fun h => ?_) (fun h => ?_) <;> simp [h, e]))
  all_goals (refine hQ _ _ _ (by simp) ?_)
  all_goals (clear hQ; simp_all [Try.f27])

theorem shpMinder {H : Heap} {k : Nat} {l : List Lf} (h : Shp Try.prog H (k + 5) 45 l) : ∃ (m : Minder) (a : Option (Nat × Nat)), l = m.enc a ∧ Sl H 63 a (m.log.map In.enc) ∧ m.log.length ≤ maxLen := by
  obtain ⟨_, _, rfl, h1, _, _, rfl, h2, _, _, rfl, h3, _, _, rfl, h4, _, _, rfl, h5, _, _, rfl, h6, _, _, rfl, h7, rfl⟩ := h.struct Try.underlying45
  obtain ⟨x1, rfl⟩ := h1.bool Try.underlying4
  obtain ⟨x2, rfl, -⟩ := h2.i64 Try.underlying3
  obtain ⟨x3, rfl, -⟩ := h3.i64 Try.underlying3
  obtain ⟨xs, a, rfl, hs, hl, -⟩ := h4.sl (f := In.enc) (R := fun _ => True) Try.underlying43 fun row hr => let ⟨x, hx⟩ := shpIn hr; ⟨x, hx, trivial⟩
  obtain ⟨x5, rfl, -⟩ := h5.i64 Try.underlying3
  obtain ⟨x6, rfl, -⟩ := h6.i64 Try.underlying3
  obtain ⟨x7, rfl, -⟩ := h7.i64 Try.underlying3
  exact ⟨⟨x1, x2, x3, xs, x5, x6, x7⟩, a, rfl, hs, hl⟩

def Vec.ok (v : Vec) : Bool := (decide (1 ≤ v.root) && decide (v.root ≤ 9)) && (decide (1 ≤ v.bridge) && decide (v.bridge ≤ 9)) && decide (v.root ≤ v.bridge) && (decide (0 ≤ v.cost) && decide (v.cost ≤ 20)) && (decide (v.cost = 0) == decide (v.root = v.bridge)) && (decide (0 ≤ v.port) && decide (v.port ≤ 3))

def In.ok (x : In) : Bool := if x.kind = 1 then (decide (0 ≤ x.port) && decide (x.port ≤ 3)) && x.vec.ok && (decide (0 ≤ x.hops) && decide (x.hops ≤ 8)) && !x.up
  else if x.kind = 3 then (decide (0 ≤ x.port) && decide (x.port ≤ 3)) && decide (x.vec = ⟨0, 0, 0, 0⟩) && decide (x.hops = 0)
  else decide (x = ⟨2, 0, ⟨0, 0, 0, 0⟩, 0, false⟩)

def IsMinder (H : Heap) (l : List Lf) (x : Minder) (fp : List Nat) : Prop := ∃ a, l = x.enc a ∧ Own H 68 a (x.log.map In.enc) fp
def RdMinder (H : Heap) (l : List Lf) (x : Minder) : Prop := ∃ a, l = x.enc a ∧ Sl H 68 a (x.log.map In.enc)
def RdLMinder (H : Heap) (l : List Lf) (x : Minder) : Prop := ∃ a, l = x.enc a ∧ Sl H 63 a (x.log.map In.enc)
abbrev Minder.sz (x : Minder) : Nat := x.log.length
def Minder.fit (x : Minder) : Prop := x.log.length ≤ maxLen
section
variable {H H' : Heap} {l : List Lf} {x : Minder} {fp : List Nat}
theorem IsMinder.keep {f : List Nat} (h : IsMinder H l x fp) (hk : Keep f H H') (hd : ∀ i ∈ fp, i ∉ f) : IsMinder H' l x fp := let ⟨a, h1, h2⟩ := h; ⟨a, h1, h2.keep hk hd⟩
theorem IsMinder.app (h : IsMinder H l x fp) (G : Heap) : IsMinder (H ++ G) l x fp := let ⟨a, h1, h2⟩ := h; ⟨a, h1, h2.app G⟩
theorem IsMinder.lt (h : IsMinder H l x fp) : ∀ i ∈ fp, i < H.length := let ⟨_, _, h2⟩ := h; h2.lt
theorem IsMinder.nodup (h : IsMinder H l x fp) : fp.Nodup := let ⟨_, _, h2⟩ := h; h2.nodup
theorem IsMinder.rd (h : IsMinder H l x fp) : RdMinder H l x := let ⟨a, h1, h2⟩ := h; ⟨a, h1, h2.sl⟩
theorem RdMinder.base (h : RdMinder H l x) (hk : Keep [] H H') : RdMinder H' l x := let ⟨a, h1, h2⟩ := h; ⟨a, h1, h2.keep hk (by simp)⟩
theorem RdMinder.app (h : RdMinder H l x) (G : Heap) : RdMinder (H ++ G) l x := h.base (Keep.app _ _ _)
theorem RdLMinder.base (h : RdLMinder H l x) (hk : Keep [] H H') : RdLMinder H' l x := let ⟨a, h1, h2⟩ := h; ⟨a, h1, h2.keep hk (by simp)⟩
theorem RdLMinder.app (h : RdLMinder H l x) (G : Heap) : RdLMinder (H ++ G) l x := h.base (Keep.app _ _ _)
theorem IsMinder.len (h : IsMinder H l x fp) : l.length = 7 := by obtain ⟨a, rfl, -⟩ := h; rfl
theorem RdLMinder.len (h : RdLMinder H l x) : l.length = 7 := by obtain ⟨a, rfl, -⟩ := h; rfl
theorem RdMinder.len (h : RdMinder H l x) : l.length = 7 := by obtain ⟨a, rfl, -⟩ := h; rfl
theorem IsMinder.free (h : IsMinder H' l x fp) (hr : l.all refFree = true) (H2 : Heap) : IsMinder H2 l x [] := by
  obtain ⟨a, rfl, h2⟩ := h
  exact ⟨a, rfl, h2.free (n := x.log.length) (by simp [Minder.enc] at hr; exact hr) H2⟩
theorem IsMinder.leave {ws : List W} (h : IsMinder H' l x fp) (hf : Fresh H H' fp) (hw : ws.all W.free = true → l.all refFree = true) : ∃ fp', IsMinder (leave H H' ws) l x fp' ∧ Fresh H (leave H H' ws) fp' := by
  rcases leave_opt H H' ws with e | ⟨e, hr⟩ <;> rw [e]
  · exact ⟨fp, h, hf⟩
  · exact ⟨[], h.free (hw hr) H, Fresh.refl H⟩
end

theorem szMinder_is {H : Heap} {l : List Lf} {x : Minder} (h : RdLMinder H l x) (hf : x.fit) {left : Int} (h1 : 0 ≤ left) (h2 : left ≤ 1048576) (G : Heap) :
    run env 23 [.agg l, .int left] (H ++ G) = some (.int (if left < x.sz then -1 else left - x.sz), H ++ G) := by
  obtain ⟨a, rfl, h⟩ := h
  exact szMinder _ a x left h1 h2 hf

theorem toMinder_is {H : Heap} {l : List Lf} {x : Minder} (h : RdLMinder H l x) (hn : x.sz ≤ 1048576) : Runs env 25 [.agg l] H fun v H' => ∃ l' fp, v = .agg l' ∧ IsMinder H' l' x fp ∧ Fresh H H' fp := by
  obtain ⟨a, rfl, h⟩ := h
  exact (toMinder H a x h hn).mono fun v H' ⟨a', fp, h1, h2, h3⟩ => ⟨_, fp, h1, ⟨a', rfl, h2⟩, h3⟩

theorem eqMinder_is {H : Heap} {l r : List Lf} {x y : Minder} (h : RdMinder H l x) (h2 : RdMinder H r y) (hn : x.sz ≤ 1048576) : run env 27 [.agg l, .agg r] H = some (.bool (decide (x = y)), H) := by
  obtain ⟨a, rfl, h⟩ := h
  obtain ⟨b, rfl, h2⟩ := h2
  exact eqMinder H a b x y h h2 hn

theorem shpMinder_is {H : Heap} {k : Nat} {l : List Lf} (h : Shp Try.prog H (k + 5) 45 l) : ∃ x : Minder, RdLMinder H l x ∧ x.fit := by
  obtain ⟨x, a, rfl, hs, hl⟩ := shpMinder h
  exact ⟨x, ⟨a, rfl, hs⟩, hl⟩

def logOk (xs : List In) : Bool := xs.all In.ok && decide ((xs.length : Int) ≤ 60)

def Minder.ok (m : Minder) : Bool := (decide (0 ≤ m.life) && decide (m.life ≤ 100000)) && (decide (0 ≤ m.epoch) && decide (m.epoch ≤ 100000)) && (decide (0 ≤ m.ackLife) && decide (m.ackLife ≤ 100000)) && logOk m.log &&
  (decide (0 ≤ m.said) && decide (m.said ≤ m.log.length)) && (decide (0 ≤ m.acked) && decide (m.acked ≤ m.log.length)) && (m.up || decide (m.epoch = 0) && decide ((m.log.length : Int) = 0) && decide (m.ackLife = 0))

def gates (b : Bridge) : List Bool := b.ports.map Port.opn
@[simp] theorem gates_len (b : Bridge) : (gates b).length = b.ports.length := by simp [gates]

def take (r : Reg) (s : Int) (m : Minder) : Reg × Minder × Bool :=
  if r.ok && m.ok && m.up && (decide (s = 0) || decide (s = 1)) && !decide (s = r.owner) && decide (0 < m.life) && decide (m.life = r.pair) && (⟨r.epoch + 1, s, 0⟩ : Reg).ok then (⟨r.epoch + 1, s, 0⟩, { m with epoch := r.epoch + 1, acked := 0, ackLife := 0 }, true) else (r, m, false)
theorem take_sz {r : Reg} {s : Int} {m : Minder} (hn : m.sz ≤ 1048576) : (take r s m).2.1.sz ≤ 1048576 := by
  unfold take
  split <;> exact hn

theorem okMinder : RepOk IsMinder := ⟨fun h hk hd => h.keep hk hd, fun h => h.lt, fun h => h.nodup⟩
abbrev IsMinderS := IsL 50 IsMinder
abbrev RdMinderS := RdL 50 RdMinder
abbrev RdLMinderS := RdL 45 RdLMinder
def MinderS.sz (xs : List Minder) : Nat := xs.length + (xs.map Minder.sz).sum
theorem MinderS.sz_len (xs : List Minder) : xs.length ≤ MinderS.sz xs := by unfold MinderS.sz; omega
theorem MinderS.sz_at {xs : List Minder} {x : Minder} (h : x ∈ xs) : x.sz ≤ MinderS.sz xs := by
  have key : ∀ {ys : List Minder}, x ∈ ys → x.sz ≤ (ys.map Minder.sz).sum := by
    intro ys hy
    induction ys with
    | nil => simp at hy
    | cons y ys ih =>
      simp only [List.map_cons, List.sum_cons]
      rcases List.mem_cons.1 hy with rfl | hy
      · omega
      · have := ih hy; omega
  have := key h
  unfold MinderS.sz
  omega
def MinderS.ps (xs : List Minder) (i : Nat) : Nat := ((xs.take i).map Minder.sz).sum
theorem MinderS.ps_zero (xs : List Minder) : MinderS.ps xs 0 = 0 := by simp [MinderS.ps]
theorem MinderS.ps_succ (xs : List Minder) {i : Nat} (h : i < xs.length) : MinderS.ps xs (i + 1) = MinderS.ps xs i + xs[i].sz := by
  unfold MinderS.ps
  rw [List.take_add_one, List.getElem?_eq_getElem h, List.map_append, List.sum_append]
  simp
theorem MinderS.ps_le (xs : List Minder) (i : Nat) : xs.length + MinderS.ps xs i ≤ MinderS.sz xs := by
  have := congrArg (fun l => (l.map Minder.sz).sum) (List.take_append_drop i xs)
  simp only [List.map_append, List.sum_append] at this
  unfold MinderS.ps MinderS.sz
  omega
theorem MinderS.ps_len (xs : List Minder) : xs.length + MinderS.ps xs xs.length = MinderS.sz xs := by unfold MinderS.ps MinderS.sz; rw [List.take_length]
def MinderS.fit (xs : List Minder) : Prop := xs.length ≤ maxLen ∧ ∀ x ∈ xs, x.fit
theorem RdMinderS_base {H H' : Heap} {q : Lf} {xs : List Minder} (h : RdMinderS H q xs) (hk : Keep [] H H') : RdMinderS H' q xs := RdL.base h (fun h hk => h.base hk) hk
theorem RdLMinderS_base {H H' : Heap} {q : Lf} {xs : List Minder} (h : RdLMinderS H q xs) (hk : Keep [] H H') : RdLMinderS H' q xs := RdL.base h (fun h hk => h.base hk) hk
theorem IsMinderS_rd {H : Heap} {q : Lf} {xs : List Minder} {fp : List Nat} (h : IsMinderS H q xs fp) : RdMinderS H q xs := IsL.rd h fun h => h.rd

theorem toMinderS_is {H : Heap} {q : Lf} {xs : List Minder} (h : RdLMinderS H q xs) (hn : MinderS.sz xs ≤ 1048576) :
    Runs env 67 [.w (.lf q)] H fun v H' => ∃ q' fp, v = .w (.lf q') ∧ IsMinderS H' q' xs fp ∧ Fresh H H' fp := by
  have hR := h
  obtain ⟨a, rws, rfl, hs, hlen, hat⟩ := h
  have hl := MinderS.sz_len xs
  refine Runs.walk ok67 Try.func67 rfl (by simp [Try.f67]) fun Q hQ => ?_
  simp only [Try.f67, strip, stripL, stripI, stripG, chkT, tagsB, tagsL, tagD, addT, tagA, lookN, tagOp, elmT, ty28, ty32, ty34, ty43, ty48, ty74, ty75, ty76, ty81, ty82, ty83, Nat.reduceEqDiff, if_false, reduceIte, Option.getD_some, Option.getD_none, dstAt, dstOk, Nat.reduceLT, decide_true, if_true]
  have k1 : (xs.length : Int) * 72 ≤ 281474976710656 := by omega
  have k2 : (xs.length : Int) ≤ 9223372036854775807 := by omega
  simp [builtinV, pureB, lenV, makeSliceV, makeSliceR, newBlk, k1, k2]
  obtain ⟨z, hz⟩ : ∃ z, z = ([.b false, .i .i64 0, .i .i64 0, .sl none 0, .i .i64 0, .i .i64 0, .i .i64 0] : List Lf) := ⟨_, rfl⟩
  refine wpS_loop (fun j tm H' => ∃ i rows fps, i + j = xs.length ∧ tm 0 = .w (.lf (.sl a xs.length)) ∧ tm 3 = .sl H.length 0 xs.length ∧ tm 4 = .int i ∧ blkAt H' H.length = some ⟨50, .wr, rows ++ List.replicate j z⟩ ∧ Part IsMinder H' rows (xs.take i) fps ∧ (∀ k ∈ fps.flatten, H.length < k) ∧ Keep [] H H') xs.length (by rw [env_K]; omega)
    ⟨0, [], [], by simp, by simp, by simp, by simp, by simp [hz], Part.nil _ _, by simp, Keep.app _ _ _⟩ ?_
  rintro j tm H' hj ⟨i, rows, fps, hij, t0, t3, t4, hb, hp, hlo, hk⟩ Q' hn' he' hr'
  simp [t0, t3, t4, builtinV, pureB, lenV]
  refine selS_intro (fun hc => ?_) (fun hc => ?_)
  · simp at hc
    obtain ⟨j, rfl⟩ : ∃ j', j = j' + 1 := ⟨j - 1, by omega⟩
    have hri : i < rws.length := by omega
    obtain ⟨id, r, bl, rfl, hbl, hbe, hrow⟩ := hs i _ (List.getElem?_eq_getElem hri)
    have he := hat i _ _ (List.getElem?_eq_getElem hri) (List.getElem?_eq_getElem hc)
    have hL := he.len
    have hT : rws[i].take rws[i].length = rws[i] := List.take_length
    rw [hL] at hT
    have hbl' := hk.blk hbl (by simp)
    have hbH := blkAt_len hb
    have g4 : IntKind.i64.wrap ((i : Int) + 1) = (i : Int) + 1 := wrap64 (by omega) (by omega)
    simp [t0, t3, t4, indexAddrV, elemIs, hbl', hbe, hc, hrow, hL, hT]
    have hsz := MinderS.sz_at (List.getElem_mem hc)
    refine stpL_runs (toMinder_is (he.base hk) (by omega)) ?_
    rintro _ H2 ⟨l2, f2, rfl, o2, fr2⟩
    have hb2 := fr2.kp.blk hb (by simp)
    have hb2L := blkAt_len hb2
    have hl2 := o2.len
    have hrl : rows.length = i := by rw [hp.len]; simp; omega
    have hget : (rows ++ List.replicate (j + 1) z)[i]? = some z := by
      rw [List.getElem?_append_right (by omega), hrl]; simp
    have hset : (rows ++ List.replicate (j + 1) z).set i l2 = (rows ++ [l2]) ++ List.replicate j z := by
      rw [List.set_append_right _ _ (by omega), hrl]; simp [List.replicate_succ]
    have hzl : z.length = 7 := by rw [hz]; rfl
    have hdrop : z.drop 7 = [] := by rw [hz]; rfl
    simp [t0, t3, t4, indexAddrV, hb2, hb2L, hget, hl2, hzl, hdrop, hset, hc, elemIs, g4]
    refine hn' j _ _ (by omega) ⟨i + 1, rows ++ [l2], fps ++ [f2], by omega, by simp [t0], by simp [t3], by simp, ?_, ?_, ?_, ?_⟩
    · rw [blkAt_set hb2L]; simp
    · have hd := hp.lt okMinder
      have h1 := (hp.keep okMinder fr2.kp (by simp)).snoc (x := xs[i]) okMinder o2 (fun k hk' hk2 => by have := hd k hk2; have := fr2.2 k hk'; omega)
      have h2 := h1.keep okMinder (Keep.set (id := H.length) H2 (some ⟨50, .wr, (rows ++ [l2]) ++ List.replicate j z⟩)) (fun k hk' => by
        simp at hk'
        rcases hk' with ⟨g, hg, hkg⟩ | hk'
        · have := hlo k (List.mem_flatten.2 ⟨g, hg, hkg⟩); simp; omega
        · have := fr2.2 k hk'; simp; omega)
      rw [List.take_add_one, List.getElem?_eq_getElem hc]
      simpa using h2
    · intro k hk'
      simp at hk'
      rcases hk' with ⟨g, hg, hkg⟩ | hk'
      · exact hlo k (List.mem_flatten.2 ⟨g, hg, hkg⟩)
      · have := fr2.2 k hk'; omega
    · exact (hk.next fr2.kp (by simp)).next (Keep.set _ _) (by simp)
  · simp at hc
    have hj0 : j = 0 := by omega
    subst hj0
    simp [t0, t3, t4]
    refine he' _ _ _ ?_
    simp [t3]
    refine hQ _ _ _ (by simp) ?_
    have hi : i = xs.length := by omega
    subst hi
    rw [List.take_length] at hp
    simp [Try.f67]
    have ho : IsMinderS H' (.sl (some (H.length, 0)) xs.length) xs ([H.length] ++ fps.flatten) := ⟨_, rows, [H.length], fps, rfl, Own.of (by simpa using hb), hp, rfl, by
      simp only [List.singleton_append, List.nodup_cons]
      exact ⟨fun hm => by have := hlo _ hm; omega, hp.nodup⟩⟩
    have hf : Fresh H H' ([H.length] ++ fps.flatten) := ⟨hk.ext, fun k hk' => by
      simp only [List.singleton_append, List.mem_cons] at hk'
      rcases hk' with rfl | hk'
      · exact Nat.le_refl _
      · have := hlo k hk'; omega⟩
    rcases leave_opt H H' [W.lf (Lf.sl (some (H.length, 0)) xs.length)] with e | ⟨e, hr⟩
    · rw [e]; exact ⟨_, ho, hf⟩
    · simp [refFree] at hr

theorem szMinderS_is {H : Heap} {q : Lf} {xs : List Minder} (h : RdLMinderS H q xs) (hf : MinderS.fit xs) {left : Int} (h1 : 0 ≤ left) (h2 : left ≤ 1048576) :
    run env 63 [.w (.lf q), .int left] H = some (.int (if left < MinderS.sz xs then -1 else left - MinderS.sz xs), H) := by
  obtain ⟨a, rws, rfl, hs, hlen, hat⟩ := h
  have hm : (xs.length : Int) ≤ 9223372036854775807 := by have := hf.1; unfold maxLen at this; omega
  have hS := MinderS.ps_le xs
  refine run_walk ok63 Try.func63 rfl (by simp [Try.f63]) fun Q hQ => ?_
  simp only [Try.f63, strip, stripL, stripI, stripG, chkT, tagsB, tagsL, tagD, addT, tagA, lookN, tagOp, elmT, ty28, ty32, ty34, ty43, ty48, ty74, ty75, ty76, ty81, ty82, ty83, Nat.reduceEqDiff, if_false, reduceIte, Option.getD_some, Option.getD_none, dstAt, dstOk, Nat.reduceLT, decide_true, if_true]
  have g : IntKind.i64.wrap (left - xs.length) = left - xs.length := wrap64 (by omega) (by omega)
  simp [builtinV, pureB, lenV, g]
  refine selS_intro (fun hc => ?_) (fun hc => ?_)
  · simp at hc
    simp
    refine hQ _ _ _ (by simp) ?_
    simp [Try.f63, MinderS.sz]
    omega
  simp at hc
  simp
  refine wpS_loop (fun j tm H' => ∃ i, i + j = xs.length ∧ tm 0 = .w (.lf (.sl a xs.length)) ∧ tm 1 = .int (left - xs.length - MinderS.ps xs i) ∧ tm 5 = .int i ∧ H' = H ∧ 0 ≤ left - xs.length - MinderS.ps xs i) xs.length (by rw [env_K]; omega)
    ⟨0, by simp, by simp, by simp [MinderS.ps_zero], by simp, rfl, by rw [MinderS.ps_zero]; omega⟩ ?_
  rintro j tm H' hj ⟨i, hij, t0, t1, t5, rfl, hpos⟩ Q' hn' he' hr'
  simp [t0, t1, t5, builtinV, pureB, lenV]
  refine selS_intro (fun hc => ?_) (fun hc => ?_)
  · simp at hc
    have hri : i < rws.length := by omega
    obtain ⟨id, r, bl, rfl, hbl, hbe, hrow⟩ := hs i _ (List.getElem?_eq_getElem hri)
    have he := hat i _ _ (List.getElem?_eq_getElem hri) (List.getElem?_eq_getElem hc)
    have hL := he.len
    have hT : rws[i].take rws[i].length = rws[i] := List.take_length
    rw [hL] at hT
    have g4 : IntKind.i64.wrap ((i : Int) + 1) = (i : Int) + 1 := wrap64 (by omega) (by omega)
    have es := szMinder_is he (hf.2 _ (List.getElem_mem hc)) hpos (by omega) []
    simp only [List.append_nil] at es
    have hS1 := MinderS.ps_succ xs hc
    have hS2 := hS (i + 1)
    simp [t0, t1, t5, indexAddrV, elemIs, hbl, hbe, hc, hrow, hL, hT, es]
    by_cases hb : left - (xs.length : Int) - (MinderS.ps xs i : Int) < (xs[i].sz : Int)
    · simp [hb]
      refine hr' _ _ ?_
      simp
      refine hQ _ _ _ (by simp) ?_
      simp [Try.f63]
      omega
    · have hz : ¬ (left - (xs.length : Int) - (MinderS.ps xs i : Int) - (xs[i].sz : Int) < 0) := by omega
      simp [hb, hz, t0, t1, t5, g4]
      exact hn' (j - 1) _ _ (by omega) ⟨i + 1, by omega, by simp [t0], by simp [hS1]; omega, by simp, rfl, by omega⟩
  · simp at hc
    simp [t0, t1, t5]
    refine he' _ _ _ ?_
    simp [t1]
    refine hQ _ _ _ (by simp) ?_
    have hi : i = xs.length := by omega
    subst hi
    have hp := MinderS.ps_len xs
    simp [Try.f63]
    rw [if_neg (by omega)]
    omega

theorem shpMinderS_is {H : Heap} {k : Nat} {l : List Lf} (h : Shp Try.prog H (k + 6) 74 l) : ∃ (q : Lf) (xs : List Minder), l = [q] ∧ RdLMinderS H q xs ∧ MinderS.fit xs := by
  rcases h.slice Try.underlying74 with rfl | ⟨id, b, rfl, hb, he, hm, hrows⟩
  · exact ⟨_, [], rfl, ⟨none, [], rfl, Sl.nil _ _ _, rfl, by simp⟩, by simp [MinderS.fit]⟩
  · have key : ∀ rows : List (List Lf), (∀ row ∈ rows, Shp Try.prog H (k + 5) 45 row) → ∃ xs : List Minder, rows.length = xs.length ∧ (∀ (i : Nat) (row : List Lf) (x : Minder), rows[i]? = some row → xs[i]? = some x → RdLMinder H row x) ∧ ∀ x ∈ xs, x.fit := by
      intro rows
      induction rows with
      | nil => intro _; exact ⟨[], rfl, by simp, by simp⟩
      | cons row rows ih =>
        intro hr
        obtain ⟨x, h1, h2⟩ := shpMinder_is (hr row (by simp))
        obtain ⟨xs, h3, h4, h5⟩ := ih fun r hr' => hr r (by simp [hr'])
        refine ⟨x :: xs, by simp [h3], fun i row' x' a1 a2 => ?_, ?_⟩
        · cases i with
          | zero => simp at a1 a2; subst a1; subst a2; exact h1
          | succ i => exact h4 i row' x' (by simpa using a1) (by simpa using a2)
        · intro y hy
          rcases List.mem_cons.1 hy with rfl | hy
          · exact h2
          · exact h5 y hy
    obtain ⟨xs, h1, h2, h3⟩ := key b.rows hrows
    refine ⟨_, xs, rfl, ⟨some (id, 0), b.rows, by rw [h1], fun i row hi => ⟨id, 0, b, rfl, hb, he, by simpa using hi⟩, h1, h2⟩, by rw [← h1]; exact hm, h3⟩

theorem eqMinderS_is {H : Heap} {q r : Lf} {xs ys : List Minder} (h : RdMinderS H q xs) (h2 : RdMinderS H r ys) (hn : MinderS.sz xs ≤ 1048576) : run env 71 [.w (.lf q), .w (.lf r)] H = some (.bool (decide (xs = ys)), H) := by
  obtain ⟨a, rws, rfl, hs, hlen, hat⟩ := h
  obtain ⟨b, rws2, rfl, hs2, hlen2, hat2⟩ := h2
  have hl := MinderS.sz_len xs
  refine run_walk ok71 Try.func71 rfl (by simp [Try.f71]) fun Q hQ => ?_
  simp only [Try.f71, strip, stripL, stripI, stripG, chkT, tagsB, tagsL, tagD, addT, tagA, lookN, tagOp, elmT, ty28, ty32, ty34, ty43, ty48, ty74, ty75, ty76, ty81, ty82, ty83, Nat.reduceEqDiff, if_false, reduceIte, Option.getD_some, Option.getD_none, dstAt, dstOk, Nat.reduceLT, decide_true, if_true]
  simp [builtinV, pureB, lenV]
  refine selS_intro (fun hl => ?_) (fun hl => ?_)
  · simp
    refine hQ _ _ _ (by simp) ?_
    simp at hl
    have : ¬ xs = ys := fun h => hl (by rw [h])
    simp [Try.f71, this]
  simp at hl
  simp
  refine wpS_loop (fun j tm H' => ∃ i, i + j = xs.length ∧ tm 0 = .w (.lf (.sl a xs.length)) ∧ tm 1 = .w (.lf (.sl b ys.length)) ∧ tm 5 = .int i ∧ H' = H ∧ xs.take i = ys.take i) xs.length (by rw [env_K]; omega) ⟨0, by simp, by simp, by simp, by simp, rfl, by simp⟩ ?_
  rintro j tm H' hj ⟨i, hij, h0, h1, h5, rfl, heq⟩ Q' hn' he' hr'
  simp [h0, h1, h5, builtinV, pureB, lenV]
  refine selS_intro (fun hc => ?_) (fun hc => ?_)
  · simp at hc
    have hc2 : i < ys.length := by omega
    have hri : i < rws.length := by omega
    have hri2 : i < rws2.length := by omega
    obtain ⟨id, r, bl, rfl, hbl, hbe, hrow⟩ := hs i _ (List.getElem?_eq_getElem hri)
    obtain ⟨id2, r2, bl2, rfl, hbl2, hbe2, hrow2⟩ := hs2 i _ (List.getElem?_eq_getElem hri2)
    have he := hat i _ _ (List.getElem?_eq_getElem hri) (List.getElem?_eq_getElem hc)
    have he2 := hat2 i _ _ (List.getElem?_eq_getElem hri2) (List.getElem?_eq_getElem hc2)
    have hL := he.len
    have hT : rws[i].take rws[i].length = rws[i] := List.take_length
    rw [hL] at hT
    have hL2 := he2.len
    have hT2 : rws2[i].take rws2[i].length = rws2[i] := List.take_length
    rw [hL2] at hT2
    have g4 : IntKind.i64.wrap ((i : Int) + 1) = (i : Int) + 1 := wrap64 (by omega) (by omega)
    have hsz := MinderS.sz_at (List.getElem_mem hc)
    have ee := eqMinder_is he he2 (by omega)
    simp [h0, h1, h5, indexAddrV, elemIs, hbl, hbe, hbl2, hbe2, hc, hc2, hrow, hrow2, hL, hT, hL2, hT2, ee]
    refine selS_intro (fun hd => ?_) (fun hd => ?_)
    · simp
      refine hr' _ _ ?_
      simp
      refine hQ _ _ _ (by simp) ?_
      simp at hd
      have : ¬ xs = ys := fun h => by subst h; simp at hd
      simp [Try.f71, this]
    · simp at hd
      simp [h0, h1, h5, g4]
      exact hn' (j - 1) _ _ (by omega) ⟨i + 1, by omega, by simp [h0], by simp [h1], by simp, rfl, by rw [List.take_add_one, List.take_add_one, heq]; simp [hc, hc2, hd]⟩
  · simp at hc
    simp [h0, h1, h5]
    refine he' _ _ _ ?_
    simp
    refine hQ _ _ _ (by simp) ?_
    have : xs = ys := by
      rw [List.take_of_length_le (by omega), List.take_of_length_le (by omega)] at heq
      exact heq
    simp [Try.f71, this]

structure Box where
  id : Int
  ports : Int
  reg : Reg
  two : List Minder
  net : List Wire
  gates : List Bool
  line : List In
  said : List Out
  deriving DecidableEq, Inhabited
def Box.enc (x : Box) (q0 q1 q2 q3 q4 : Lf) : List Lf := [.i .i64 x.id, .i .i64 x.ports, .i .i64 x.reg.epoch, .i .i64 x.reg.owner, .i .i64 x.reg.pair, q0, q1, q2, q3, q4]
@[simp] theorem Box.enc_len (x : Box) (q0 q1 q2 q3 q4 : Lf) : (x.enc q0 q1 q2 q3 q4).length = 10 := rfl
@[simp] theorem Box.enc_take (x : Box) (q0 q1 q2 q3 q4 : Lf) : List.take 10 (x.enc q0 q1 q2 q3 q4) = x.enc q0 q1 q2 q3 q4 := rfl

def IsBox (H : Heap) (l : List Lf) (x : Box) (fp : List Nat) : Prop := ∃ q0 q1 q2 q3 q4 f0 f1 f2 f3 f4, l = x.enc q0 q1 q2 q3 q4 ∧ IsMinderS H q0 x.two f0 ∧ IsWireS H q1 x.net f1 ∧ IsBoolS H q2 x.gates f2 ∧ IsInS H q3 x.line f3 ∧ IsOutS H q4 x.said f4 ∧ fp = f0 ++ (f1 ++ (f2 ++ (f3 ++ (f4)))) ∧ fp.Nodup
def RdBox (H : Heap) (l : List Lf) (x : Box) : Prop := ∃ q0 q1 q2 q3 q4, l = x.enc q0 q1 q2 q3 q4 ∧ RdMinderS H q0 x.two ∧ RdWireS H q1 x.net ∧ RdBoolS H q2 x.gates ∧ RdInS H q3 x.line ∧ RdOutS H q4 x.said
def RdLBox (H : Heap) (l : List Lf) (x : Box) : Prop := ∃ q0 q1 q2 q3 q4, l = x.enc q0 q1 q2 q3 q4 ∧ RdLMinderS H q0 x.two ∧ RdLWireS H q1 x.net ∧ RdLBoolS H q2 x.gates ∧ RdLInS H q3 x.line ∧ RdLOutS H q4 x.said
def Box.sz (x : Box) : Nat := MinderS.sz x.two + x.net.length + x.gates.length + x.line.length + x.said.length
def Box.fit (x : Box) : Prop := MinderS.fit x.two ∧ x.net.length ≤ maxLen ∧ x.gates.length ≤ maxLen ∧ x.line.length ≤ maxLen ∧ x.said.length ≤ maxLen
section
variable {H H' : Heap} {l : List Lf} {x : Box} {fp : List Nat}
theorem IsBox.keep {f : List Nat} (h : IsBox H l x fp) (hk : Keep f H H') (hd : ∀ i ∈ fp, i ∉ f) : IsBox H' l x fp := by
  obtain ⟨q0, q1, q2, q3, q4, f0, f1, f2, f3, f4, rfl, h0, h1, h2, h3, h4, rfl, hnd⟩ := h
  exact ⟨q0, q1, q2, q3, q4, f0, f1, f2, f3, f4, rfl, h0.keep okMinder hk (fun i hi => hd i (by simp [hi])), h1.keep hk (fun i hi => hd i (by simp [hi])), h2.keep hk (fun i hi => hd i (by simp [hi])), h3.keep hk (fun i hi => hd i (by simp [hi])), h4.keep hk (fun i hi => hd i (by simp [hi])), rfl, hnd⟩
theorem IsBox.app (h : IsBox H l x fp) (G : Heap) : IsBox (H ++ G) l x fp := h.keep (Keep.app [] H G) (by simp)
theorem IsBox.lt (h : IsBox H l x fp) : ∀ i ∈ fp, i < H.length := by
  obtain ⟨q0, q1, q2, q3, q4, f0, f1, f2, f3, f4, rfl, h0, h1, h2, h3, h4, rfl, hnd⟩ := h
  intro i hi
  simp at hi
  rcases hi with hi | hi | hi | hi | hi
  · exact h0.lt okMinder i hi
  · exact h1.lt i hi
  · exact h2.lt i hi
  · exact h3.lt i hi
  · exact h4.lt i hi
theorem IsBox.nodup (h : IsBox H l x fp) : fp.Nodup := by
  obtain ⟨q0, q1, q2, q3, q4, f0, f1, f2, f3, f4, rfl, h0, h1, h2, h3, h4, rfl, hnd⟩ := h
  exact hnd
theorem IsBox.rd (h : IsBox H l x fp) : RdBox H l x := by
  obtain ⟨q0, q1, q2, q3, q4, f0, f1, f2, f3, f4, rfl, h0, h1, h2, h3, h4, rfl, hnd⟩ := h
  exact ⟨q0, q1, q2, q3, q4, rfl, IsMinderS_rd h0, h1.rd, h2.rd, h3.rd, h4.rd⟩
theorem RdBox.base (h : RdBox H l x) (hk : Keep [] H H') : RdBox H' l x := by
  obtain ⟨q0, q1, q2, q3, q4, rfl, h0, h1, h2, h3, h4⟩ := h
  exact ⟨q0, q1, q2, q3, q4, rfl, RdMinderS_base h0 hk, h1.base hk, h2.base hk, h3.base hk, h4.base hk⟩
theorem RdBox.app (h : RdBox H l x) (G : Heap) : RdBox (H ++ G) l x := h.base (Keep.app _ _ _)
theorem RdBox.len (h : RdBox H l x) : l.length = 10 := by
  obtain ⟨q0, q1, q2, q3, q4, rfl, h0, h1, h2, h3, h4⟩ := h
  rfl
theorem RdLBox.base (h : RdLBox H l x) (hk : Keep [] H H') : RdLBox H' l x := by
  obtain ⟨q0, q1, q2, q3, q4, rfl, h0, h1, h2, h3, h4⟩ := h
  exact ⟨q0, q1, q2, q3, q4, rfl, RdLMinderS_base h0 hk, h1.base hk, h2.base hk, h3.base hk, h4.base hk⟩
theorem RdLBox.app (h : RdLBox H l x) (G : Heap) : RdLBox (H ++ G) l x := h.base (Keep.app _ _ _)
theorem RdLBox.len (h : RdLBox H l x) : l.length = 10 := by
  obtain ⟨q0, q1, q2, q3, q4, rfl, h0, h1, h2, h3, h4⟩ := h
  rfl
theorem IsBox.len (h : IsBox H l x fp) : l.length = 10 := by
  obtain ⟨q0, q1, q2, q3, q4, f0, f1, f2, f3, f4, rfl, h0, h1, h2, h3, h4, rfl, hnd⟩ := h
  rfl
theorem IsBox.free (h : IsBox H' l x fp) (hr : l.all refFree = true) (H2 : Heap) : IsBox H2 l x [] := by
  obtain ⟨q0, q1, q2, q3, q4, f0, f1, f2, f3, f4, rfl, h0, h1, h2, h3, h4, rfl, hnd⟩ := h
  simp [Box.enc] at hr
  have a0 : IsMinderS H2 q0 x.two [] := by
    obtain ⟨e1, e2⟩ := h0.empty hr.1
    rw [e1, e2]
    exact IsL.emp _ _ _
  have a1 : IsWireS H2 q1 x.net [] := h1.free hr.2.1 H2
  have a2 : IsBoolS H2 q2 x.gates [] := h2.free hr.2.2.1 H2
  have a3 : IsInS H2 q3 x.line [] := h3.free hr.2.2.2.1 H2
  have a4 : IsOutS H2 q4 x.said [] := h4.free hr.2.2.2.2 H2
  exact ⟨q0, q1, q2, q3, q4, [], [], [], [], [], rfl, a0, a1, a2, a3, a4, by simp, by simp⟩
theorem IsBox.leave {ws : List W} (h : IsBox H' l x fp) (hf : Fresh H H' fp) (hw : ws.all W.free = true → l.all refFree = true) : ∃ fp', IsBox (leave H H' ws) l x fp' ∧ Fresh H (leave H H' ws) fp' := by
  rcases leave_opt H H' ws with e | ⟨e, hr⟩ <;> rw [e]
  · exact ⟨fp, h, hf⟩
  · exact ⟨[], h.free (hw hr) H, Fresh.refl H⟩
end

theorem szBox_at {H : Heap} {l : List Lf} {x : Box} (h : RdLBox H l x) (hf : x.fit) {left : Int} (h1 : 0 ≤ left) (h2 : left ≤ 1048576) :
    run env 40 [.agg l, .int left] H = some (.int (if left < x.sz then -1 else left - x.sz), H) := by
  obtain ⟨q0, q1, q2, q3, q4, rfl, r0, r1, r2, r3, r4⟩ := h
  obtain ⟨t0, t1, t2, t3, t4⟩ := hf
  refine run_walk ok40 Try.func40 rfl (by simp [Try.f40]) fun Q hQ => ?_
  simp only [Try.f40, strip, stripL, stripI, stripG, chkT, tagsB, tagsL, tagD, addT, tagA, lookN, tagOp, elmT, ty28, ty32, ty34, ty43, ty48, ty74, ty75, ty76, ty81, ty82, ty83, Nat.reduceEqDiff, if_false, reduceIte, Option.getD_some, Option.getD_none, dstAt, dstOk, Nat.reduceLT, decide_true, if_true]
  simp [Box.enc]
  have e0 := fun G' => szMinderS_is (RdLMinderS_base r0 (Keep.app [] _ G')) t0 (left := left) (by omega) (by omega)
  simp [e0]
  by_cases b0 : left < ((MinderS.sz x.two : Nat) : Int)
  · simp [b0]
    refine hQ _ _ _ (by simp) ?_
    simp [Try.f40, Box.sz]
    omega
  have z0 : ¬ ((left - ((MinderS.sz x.two : Nat) : Int)) < 0) := by omega
  simp [b0, z0, Box.enc]
  obtain ⟨a1, rfl, s1⟩ := r1
  have e1 := fun H => szWireS H a1 x.net.length ((left - ((MinderS.sz x.two : Nat) : Int))) (by omega) (by omega) t1
  simp [e1]
  by_cases b1 : (left - ((MinderS.sz x.two : Nat) : Int)) < ((x.net.length : Nat) : Int)
  · simp [b1]
    refine hQ _ _ _ (by simp) ?_
    simp [Try.f40, Box.sz]
    omega
  have z1 : ¬ (((left - ((MinderS.sz x.two : Nat) : Int)) - ((x.net.length : Nat) : Int)) < 0) := by omega
  simp [b1, z1, Box.enc]
  obtain ⟨a2, rfl, s2⟩ := r2
  have e2 := fun H => szBoolS H a2 x.gates.length (((left - ((MinderS.sz x.two : Nat) : Int)) - ((x.net.length : Nat) : Int))) (by omega) (by omega) t2
  simp [e2]
  by_cases b2 : ((left - ((MinderS.sz x.two : Nat) : Int)) - ((x.net.length : Nat) : Int)) < ((x.gates.length : Nat) : Int)
  · simp [b2]
    refine hQ _ _ _ (by simp) ?_
    simp [Try.f40, Box.sz]
    omega
  have z2 : ¬ ((((left - ((MinderS.sz x.two : Nat) : Int)) - ((x.net.length : Nat) : Int)) - ((x.gates.length : Nat) : Int)) < 0) := by omega
  simp [b2, z2, Box.enc]
  obtain ⟨a3, rfl, s3⟩ := r3
  have e3 := fun H => szInS H a3 x.line.length ((((left - ((MinderS.sz x.two : Nat) : Int)) - ((x.net.length : Nat) : Int)) - ((x.gates.length : Nat) : Int))) (by omega) (by omega) t3
  simp [e3]
  by_cases b3 : (((left - ((MinderS.sz x.two : Nat) : Int)) - ((x.net.length : Nat) : Int)) - ((x.gates.length : Nat) : Int)) < ((x.line.length : Nat) : Int)
  · simp [b3]
    refine hQ _ _ _ (by simp) ?_
    simp [Try.f40, Box.sz]
    omega
  have z3 : ¬ (((((left - ((MinderS.sz x.two : Nat) : Int)) - ((x.net.length : Nat) : Int)) - ((x.gates.length : Nat) : Int)) - ((x.line.length : Nat) : Int)) < 0) := by omega
  simp [b3, z3, Box.enc]
  obtain ⟨a4, rfl, s4⟩ := r4
  have e4 := fun H => szOutS H a4 x.said.length (((((left - ((MinderS.sz x.two : Nat) : Int)) - ((x.net.length : Nat) : Int)) - ((x.gates.length : Nat) : Int)) - ((x.line.length : Nat) : Int))) (by omega) (by omega) t4
  simp [e4]
  by_cases b4 : ((((left - ((MinderS.sz x.two : Nat) : Int)) - ((x.net.length : Nat) : Int)) - ((x.gates.length : Nat) : Int)) - ((x.line.length : Nat) : Int)) < ((x.said.length : Nat) : Int)
  · simp [b4]
    refine hQ _ _ _ (by simp) ?_
    simp [Try.f40, Box.sz]
    omega
  have z4 : ¬ ((((((left - ((MinderS.sz x.two : Nat) : Int)) - ((x.net.length : Nat) : Int)) - ((x.gates.length : Nat) : Int)) - ((x.line.length : Nat) : Int)) - ((x.said.length : Nat) : Int)) < 0) := by omega
  simp [b4, z4, Box.enc]
  have hfin : ¬ (left < (x.sz : Int)) := by unfold Box.sz; omega
  refine hQ _ _ _ (by simp) ?_
  simp [Try.f40, hfin]
  unfold Box.sz
  omega
theorem szBox_is {H : Heap} {l : List Lf} {x : Box} (h : RdLBox H l x) (hf : x.fit) {left : Int} (h1 : 0 ≤ left) (h2 : left ≤ 1048576) (G : Heap) :
    run env 40 [.agg l, .int left] (H ++ G) = some (.int (if left < x.sz then -1 else left - x.sz), H ++ G) := szBox_at (h.app G) hf h1 h2

theorem toBox_is {H : Heap} {l : List Lf} {x : Box} (h : RdLBox H l x) (hn : x.sz ≤ 1048576) : Runs env 42 [.agg l] H fun v H' => ∃ l' fp, v = .agg l' ∧ IsBox H' l' x fp ∧ Fresh H H' fp := by
  obtain ⟨q0, q1, q2, q3, q4, rfl, r0, r1, r2, r3, r4⟩ := h
  unfold Box.sz at hn
  refine Runs.walk ok42 Try.func42 rfl (by simp [Try.f42]) fun Q hQ => ?_
  simp only [Try.f42, strip, stripL, stripI, stripG, chkT, tagsB, tagsL, tagD, addT, tagA, lookN, tagOp, elmT, ty28, ty32, ty34, ty43, ty48, ty74, ty75, ty76, ty81, ty82, ty83, Nat.reduceEqDiff, if_false, reduceIte, Option.getD_some, Option.getD_none, dstAt, dstOk, Nat.reduceLT, decide_true, if_true]
  have er := fun H => toReg H x.reg
  simp only [Reg.enc] at er
  simp [Box.enc, er]
  refine stpL_runs (toMinderS_is (RdLMinderS_base r0 (Keep.app [] H _)) (by omega)) ?_
  rintro _ _ ⟨p0, g0, rfl, o0, ⟨⟨G0, rfl⟩, hf0⟩⟩
  simp only [List.append_assoc, List.cons_append, List.nil_append] at o0
  have b0 : ∀ i ∈ g0, H.length + (3) ≤ i := fun i hi => by have := hf0 i hi; simp at this; omega
  have c0 : ∀ i ∈ g0, i < H.length + (3 + G0.length) := fun i hi => by have := o0.lt okMinder i hi; simp at this; omega
  try simp
  refine stpL_runs (toWireS_is (r1.base (Keep.app [] H _)) (by omega)) ?_
  rintro _ _ ⟨p1, g1, rfl, o1, ⟨⟨G1, rfl⟩, hf1⟩⟩
  simp only [List.append_assoc, List.cons_append, List.nil_append] at o1
  have b1 : ∀ i ∈ g1, H.length + (3 + G0.length) ≤ i := fun i hi => by have := hf1 i hi; simp at this; omega
  have c1 : ∀ i ∈ g1, i < H.length + (3 + G0.length + G1.length) := fun i hi => by have := o1.lt i hi; simp at this; omega
  try simp
  refine stpL_runs (toBoolS_is (r2.base (Keep.app [] H _)) (by omega)) ?_
  rintro _ _ ⟨p2, g2, rfl, o2, ⟨⟨G2, rfl⟩, hf2⟩⟩
  simp only [List.append_assoc, List.cons_append, List.nil_append] at o2
  have b2 : ∀ i ∈ g2, H.length + (3 + G0.length + G1.length) ≤ i := fun i hi => by have := hf2 i hi; simp at this; omega
  have c2 : ∀ i ∈ g2, i < H.length + (3 + G0.length + G1.length + G2.length) := fun i hi => by have := o2.lt i hi; simp at this; omega
  try simp
  refine stpL_runs (toInS_is (r3.base (Keep.app [] H _)) (by omega)) ?_
  rintro _ _ ⟨p3, g3, rfl, o3, ⟨⟨G3, rfl⟩, hf3⟩⟩
  simp only [List.append_assoc, List.cons_append, List.nil_append] at o3
  have b3 : ∀ i ∈ g3, H.length + (3 + G0.length + G1.length + G2.length) ≤ i := fun i hi => by have := hf3 i hi; simp at this; omega
  have c3 : ∀ i ∈ g3, i < H.length + (3 + G0.length + G1.length + G2.length + G3.length) := fun i hi => by have := o3.lt i hi; simp at this; omega
  try simp
  refine stpL_runs (toOutS_is (r4.base (Keep.app [] H _)) (by omega)) ?_
  rintro _ _ ⟨p4, g4, rfl, o4, ⟨⟨G4, rfl⟩, hf4⟩⟩
  simp only [List.append_assoc, List.cons_append, List.nil_append] at o4
  have b4 : ∀ i ∈ g4, H.length + (3 + G0.length + G1.length + G2.length + G3.length) ≤ i := fun i hi => by have := hf4 i hi; simp at this; omega
  have c4 : ∀ i ∈ g4, i < H.length + (3 + G0.length + G1.length + G2.length + G3.length + G4.length) := fun i hi => by have := o4.lt i hi; simp at this; omega
  try simp
  refine hQ _ _ _ (by simp) ?_
  simp [Try.f42]
  have u0 := fun B1 B2 B3 G' (hp : G0 <+: G') => o0.keep okMinder (Keep.cutP (H := H) (L := [_, _, _]) (L' := [B1, B2, B3]) (G' := G') rfl hp) (fun i hi => by have := b0 i hi; simp; omega)
  have u1 := fun B1 B2 B3 G' (hp : G0 ++ (G1) <+: G') => o1.keep (Keep.cutP (H := H) (L := [_, _, _]) (L' := [B1, B2, B3]) (G' := G') rfl hp) (fun i hi => by have := b1 i hi; simp; omega)
  have u2 := fun B1 B2 B3 G' (hp : G0 ++ (G1 ++ (G2)) <+: G') => o2.keep (Keep.cutP (H := H) (L := [_, _, _]) (L' := [B1, B2, B3]) (G' := G') rfl hp) (fun i hi => by have := b2 i hi; simp; omega)
  have u3 := fun B1 B2 B3 G' (hp : G0 ++ (G1 ++ (G2 ++ (G3))) <+: G') => o3.keep (Keep.cutP (H := H) (L := [_, _, _]) (L' := [B1, B2, B3]) (G' := G') rfl hp) (fun i hi => by have := b3 i hi; simp; omega)
  have u4 := fun B1 B2 B3 G' (hp : G0 ++ (G1 ++ (G2 ++ (G3 ++ (G4)))) <+: G') => o4.keep (Keep.cutP (H := H) (L := [_, _, _]) (L' := [B1, B2, B3]) (G' := G') rfl hp) (fun i hi => by have := b4 i hi; simp; omega)
  have hnd : (g0 ++ (g1 ++ (g2 ++ (g3 ++ (g4)))) : List Nat).Nodup := by
    have n0 : g4.Nodup := o4.nodup
    have m3 : (g3 ++ g4).Nodup := nodup_app o3.nodup n0 (fun i hi hj => by
      have := c3 i hi
      try simp at hj
      rcases hj with hj
      · have := b4 i hj; omega)
    have m2 : (g2 ++ (g3 ++ g4)).Nodup := nodup_app o2.nodup m3 (fun i hi hj => by
      have := c2 i hi
      try simp at hj
      rcases hj with hj | hj
      · have := b3 i hj; omega
      · have := b4 i hj; omega)
    have m1 : (g1 ++ (g2 ++ (g3 ++ g4))).Nodup := nodup_app o1.nodup m2 (fun i hi hj => by
      have := c1 i hi
      try simp at hj
      rcases hj with hj | hj | hj
      · have := b2 i hj; omega
      · have := b3 i hj; omega
      · have := b4 i hj; omega)
    have m0 : (g0 ++ (g1 ++ (g2 ++ (g3 ++ g4)))).Nodup := nodup_app o0.nodup m1 (fun i hi hj => by
      have := c0 i hi
      try simp at hj
      rcases hj with hj | hj | hj | hj
      · have := b1 i hj; omega
      · have := b2 i hj; omega
      · have := b3 i hj; omega
      · have := b4 i hj; omega)
    exact m0
  refine IsBox.leave (fp := g0 ++ (g1 ++ (g2 ++ (g3 ++ g4)))) ⟨p0, p1, p2, p3, p4, g0, g1, g2, g3, g4, by simp [Box.enc], u0 _ _ _ _ (by simp), u1 _ _ _ _ (by simp), u2 _ _ _ _ (by simp), u3 _ _ _ _ (by simp), u4 _ _ _ _ (by simp), rfl, hnd⟩ (Fresh.app H _ fun i hi => ?_) (by simp [Box.enc])
  simp at hi
  rcases hi with hi | hi | hi | hi | hi
  · have := b0 i hi; omega
  · have := b1 i hi; omega
  · have := b2 i hi; omega
  · have := b3 i hi; omega
  · have := b4 i hi; omega

theorem eqBox_is {H : Heap} {l r : List Lf} {x y : Box} (h : RdBox H l x) (h2 : RdBox H r y) (hn : x.sz ≤ 1048576) : run env 44 [.agg l, .agg r] H = some (.bool (decide (x = y)), H) := by
  obtain ⟨q0, q1, q2, q3, q4, rfl, r0, r1, r2, r3, r4⟩ := h
  obtain ⟨p0, p1, p2, p3, p4, rfl, s0, s1, s2, s3, s4⟩ := h2
  unfold Box.sz at hn
  have e0 := fun G => eqMinderS_is (RdMinderS_base r0 (Keep.app [] _ G)) (RdMinderS_base s0 (Keep.app [] _ G)) (by omega)
  have e1 := fun G => eqWireS_is (r1.app G) (s1.app G) (by omega)
  have e2 := fun G => eqBoolS_is (r2.app G) (s2.app G) (by omega)
  have e3 := fun G => eqInS_is (r3.app G) (s3.app G) (by omega)
  have e4 := fun G => eqOutS_is (r4.app G) (s4.app G) (by omega)
  have er := fun H => eqReg H x.reg y.reg
  obtain ⟨x0, x1, x2, x3, x4, x5, x6, x7⟩ := x
  obtain ⟨y0, y1, y2, y3, y4, y5, y6, y7⟩ := y
  simp only at e0 e1 e2 e3 e4 er
  simp only [Reg.enc] at er
  refine run_walk ok44 Try.func44 rfl (by simp [Try.f44]) fun Q hQ => ?_
  simp only [Try.f44, strip, stripL, stripI, stripG, chkT, tagsB, tagsL, tagD, addT, tagA, lookN, tagOp, elmT, ty28, ty32, ty34, ty43, ty48, ty74, ty75, ty76, ty81, ty82, ty83, Nat.reduceEqDiff, if_false, reduceIte, Option.getD_some, Option.getD_none, dstAt, dstOk, Nat.reduceLT, decide_true, if_true]
  simp [Box.enc, e0, e1, e2, e3, e4, er]
  repeat' (first | (refine gdL_t (fun h => ?_) (fun h => ?_) <;> simp [h, e0, e1, e2, e3, e4, er]) | (refine gdL_f (fun h => ?_) (fun h => ?_) <;> simp [h, e0, e1, e2, e3, e4, er]) | (refine selS_intro (fun h => ?_) (fun h => ?_) <;> simp [h, e0, e1, e2, e3, e4, er]))
  all_goals (refine hQ _ _ _ (by simp) ?_)
  all_goals (clear hQ; simp_all [Try.f44])

theorem shpBox_is {H : Heap} {l : List Lf} (h : Shp Try.prog H 8 78 l) : ∃ x : Box, RdLBox H l x ∧ x.fit := by
  obtain ⟨_, _, rfl, h0, _, _, rfl, h1, _, _, rfl, h2, _, _, rfl, h3, _, _, rfl, h4, _, _, rfl, h5, _, _, rfl, h6, _, _, rfl, h7, rfl⟩ := h.struct Try.underlying78
  obtain ⟨x0, rfl, -⟩ := h0.i64 Try.underlying3
  obtain ⟨x1, rfl, -⟩ := h1.i64 Try.underlying3
  obtain ⟨x2, rfl⟩ := shpReg h2
  obtain ⟨q0, x3, rfl, r0, t0⟩ := shpMinderS_is h3
  obtain ⟨q1, x4, rfl, r1, t1⟩ := shpWireS_is h4
  obtain ⟨q2, x5, rfl, r2, t2⟩ := shpBoolS_is h5
  obtain ⟨q3, x6, rfl, r3, t3⟩ := shpInS_is h6
  obtain ⟨q4, x7, rfl, r4, t4⟩ := shpOutS_is h7
  exact ⟨⟨x0, x1, x2, x3, x4, x5, x6, x7⟩, ⟨q0, q1, q2, q3, q4, rfl, r0, r1, r2, r3, r4⟩, t0, t1, t2, t3, t4⟩

theorem implReleased_is {H : Heap} {l : List Lf} {x : Box} (h : RdBox H l x) (hn : x.sz ≤ 1048576) : run env 43 [.agg l] H = some (.int (x.line.length : Int), H) := by
  obtain ⟨q0, q1, q2, q3, q4, rfl, _, _, _, ⟨a, rfl, h⟩, _⟩ := h
  refine run_walk ok43 Try.func43 rfl (by simp [Try.f43]) fun Q hQ => ?_
  simp only [Try.f43, strip, stripL, stripI, stripG, chkT, tagsB, tagsL, tagD, addT, tagA, lookN, tagOp, elmT, ty28, ty32, ty34, ty43, ty48, ty74, ty75, ty76, ty81, ty82, ty83, Nat.reduceEqDiff, if_false, reduceIte, Option.getD_some, Option.getD_none, dstAt, dstOk, Nat.reduceLT, decide_true, if_true]
  simp [Box.enc, builtinV, pureB, lenV]
  all_goals (refine hQ _ _ _ (by simp) ?_)
  all_goals (clear hQ; simp [Try.f43])

theorem specReleased_is {H : Heap} {l : List Lf} {x : Box} (h : RdBox H l x) (hn : x.sz ≤ 1048576) : run env 41 [.agg l] H = some (.int (x.line.length : Int), H) := by
  obtain ⟨q0, q1, q2, q3, q4, rfl, _, _, _, ⟨a, rfl, h⟩, _⟩ := h
  refine run_walk ok41 Try.func41 rfl (by simp [Try.f41]) fun Q hQ => ?_
  simp only [Try.f41, strip, stripL, stripI, stripG, chkT, tagsB, tagsL, tagD, addT, tagA, lookN, tagOp, elmT, ty28, ty32, ty34, ty43, ty48, ty74, ty75, ty76, ty81, ty82, ty83, Nat.reduceEqDiff, if_false, reduceIte, Option.getD_some, Option.getD_none, dstAt, dstOk, Nat.reduceLT, decide_true, if_true]
  simp [Box.enc, builtinV, pureB, lenV]
  all_goals (refine hQ _ _ _ (by simp) ?_)
  all_goals (clear hQ; simp [Try.f41])
end W
end Go.Proofs.Ytonkofgdncgolaa

/- The functions that this law reaches: what each computes. Conditions: those that each theorem names. -/
import Derived.Test.YtjgjjaidpceieabDoorAbEnvBoxText
set_option maxRecDepth 100000
set_option maxHeartbeats 4000000
set_option linter.unusedSimpArgs false
set_option linter.unusedVariables false
set_option linter.unnecessarySimpa false
namespace Go.Proofs.YtjgjjaidpceieabDoor
open Go Go.Ab Go.ChangeShapes Go.WideShapes Go.ChangeAt Go.RowKit
namespace W
structure Vec where
  root : Int
  cost : Int
  bridge : Int
  port : Int
  deriving DecidableEq, Inhabited
def Vec.enc (x : Vec) : List Lf := [.i .i64 x.root, .i .i64 x.cost, .i .i64 x.bridge, .i .i64 x.port]
@[simp] theorem Vec.enc_len (x : Vec) : x.enc.length = 4 := rfl
@[simp] theorem Vec.enc_take (x : Vec) : List.take 4 x.enc = x.enc := rfl
@[simp] theorem Vec.enc_drop (x : Vec) : List.drop 4 x.enc = [] := rfl
abbrev Vec.z : List Lf := [.i .i64 0, .i .i64 0, .i .i64 0, .i .i64 0]
abbrev Vec.zv : Vec := ⟨0, 0, 0, 0⟩
theorem Vec.enc_inj {x y : Vec} (h : x.enc = y.enc) : x = y := by
  obtain ⟨_, _, _, _⟩ := x
  obtain ⟨_, _, _, _⟩ := y
  simp [Vec.enc] at h
  simp_all
def Vec.mk' (k : Int) : Vec := ⟨k, k + 1, k + 2, k + 3⟩
theorem Vec.mk'_of {y : Vec} {c : Int} (h0 : y.root = c) (h1 : y.cost = c + 1) (h2 : y.bridge = c + 2) (h3 : y.port = c + 3) : y = Vec.mk' c := by
  rcases y with ⟨w0, v1, v2, v3⟩
  simp only at h0 h1 h2 h3
  subst h0 h1 h2 h3
  rfl

theorem toVec (H : Heap) (x : Vec) : run env 28 [.agg x.enc] H = some (.agg x.enc, H) := by
  refine run_walk ok28 Tryd.func28 rfl (by simp [Tryd.f28]) fun Q hQ => ?_
  simp only [Tryd.f28, strip, stripL, stripI, stripG, chkT, tagsB, tagsL, tagD, addT, tagA, lookN, tagOp, elmT, ty32, ty37, ty43, ty48, ty56, ty57, ty58, ty59, ty65, ty66, ty67, ty74, ty80, ty97, Nat.reduceEqDiff, if_false, reduceIte, Option.getD_some, Option.getD_none, dstAt, dstOk, Nat.reduceLT, decide_true, if_true]
  simp [Vec.enc]
  all_goals (refine hQ _ _ _ (by simp) ?_)
  all_goals (clear hQ; simp [Tryd.f28, Vec.enc])

theorem eqVec (H : Heap) (x y : Vec) : run env 69 [.agg x.enc, .agg y.enc] H = some (.bool (decide (x = y)), H) := by
  obtain ⟨a0, a1, a2, a3⟩ := x
  obtain ⟨b0, b1, b2, b3⟩ := y
  refine run_walk ok69 Tryd.func69 rfl (by simp [Tryd.f69]) fun Q hQ => ?_
  simp only [Tryd.f69, strip, stripL, stripI, stripG, chkT, tagsB, tagsL, tagD, addT, tagA, lookN, tagOp, elmT, ty32, ty37, ty43, ty48, ty56, ty57, ty58, ty59, ty65, ty66, ty67, ty74, ty80, ty97, Nat.reduceEqDiff, if_false, reduceIte, Option.getD_some, Option.getD_none, dstAt, dstOk, Nat.reduceLT, decide_true, if_true]
  simp [Vec.enc]
  repeat' (first | (refine gdL_t (fun h => ?_) (fun h => ?_) <;> simp [h]) | (refine gdL_f (fun h => ?_) (fun h => ?_) <;> simp [h]) | (refine selS_intro (fun h => ?_) (fun h => ?_) <;> simp [h]))
  all_goals (refine hQ _ _ _ (by simp) ?_)
  all_goals (clear hQ; simp_all [Tryd.f69])

theorem shpVec {H : Heap} {k : Nat} {l : List Lf} (h : Shp Tryd.prog H (k + 2) 23 l) : ∃ x : Vec, l = x.enc := by
  obtain ⟨_, _, rfl, h0, _, _, rfl, h1, _, _, rfl, h2, _, _, rfl, h3, rfl⟩ := h.struct Tryd.underlying23
  obtain ⟨a0, rfl, -⟩ := h0.i64 Tryd.underlying3
  obtain ⟨a1, rfl, -⟩ := h1.i64 Tryd.underlying3
  obtain ⟨a2, rfl, -⟩ := h2.i64 Tryd.underlying3
  obtain ⟨a3, rfl, -⟩ := h3.i64 Tryd.underlying3
  exact ⟨⟨a0, a1, a2, a3⟩, rfl⟩

structure Port where
  up : Bool
  has : Bool
  vec : Vec
  hops : Int
  left : Int
  role : Int
  wait : Int
  opn : Bool
  deriving DecidableEq, Inhabited
def Port.enc (x : Port) : List Lf := [.b x.up, .b x.has, .i .i64 x.vec.root, .i .i64 x.vec.cost, .i .i64 x.vec.bridge, .i .i64 x.vec.port, .i .i64 x.hops, .i .i64 x.left, .i .i64 x.role, .i .i64 x.wait, .b x.opn]
@[simp] theorem Port.enc_len (x : Port) : x.enc.length = 11 := rfl
@[simp] theorem Port.enc_take (x : Port) : List.take 11 x.enc = x.enc := rfl
@[simp] theorem Port.enc_drop (x : Port) : List.drop 11 x.enc = [] := rfl
abbrev Port.z : List Lf := [.b false, .b false, .i .i64 0, .i .i64 0, .i .i64 0, .i .i64 0, .i .i64 0, .i .i64 0, .i .i64 0, .i .i64 0, .b false]
abbrev Port.zv : Port := ⟨false, false, ⟨0, 0, 0, 0⟩, 0, 0, 0, 0, false⟩
theorem Port.enc_inj {x y : Port} (h : x.enc = y.enc) : x = y := by
  rcases x with ⟨v0, v1, ⟨v2_0, v2_1, v2_2, v2_3⟩, v3, v4, v5, v6, v7⟩
  rcases y with ⟨w0, v1, ⟨v2_0, v2_1, v2_2, v2_3⟩, v3, v4, v5, v6, v7⟩
  simp [Port.enc] at h
  simp_all
def Port.mk' (k : Int) : Port := ⟨decide ((k).tmod 3 = 0), decide ((k + 1).tmod 3 = 0), ⟨k + 2, k + 3, k + 4, k + 5⟩, k + 6, k + 7, k + 8, k + 9, decide ((k + 10).tmod 3 = 0)⟩
theorem Port.mk'_of {y : Port} {c : Int} (h0 : y.up = decide ((c).tmod 3 = 0)) (h1 : y.has = decide ((c + 1).tmod 3 = 0)) (h2 : y.vec.root = c + 2) (h3 : y.vec.cost = c + 3) (h4 : y.vec.bridge = c + 4) (h5 : y.vec.port = c + 5) (h6 : y.hops = c + 6) (h7 : y.left = c + 7) (h8 : y.role = c + 8) (h9 : y.wait = c + 9) (h10 : y.opn = decide ((c + 10).tmod 3 = 0)) : y = Port.mk' c := by
  rcases y with ⟨w0, v1, ⟨v2_0, v2_1, v2_2, v2_3⟩, v3, v4, v5, v6, v7⟩
  simp only at h0 h1 h2 h3 h4 h5 h6 h7 h8 h9 h10
  subst h0 h1 h2 h3 h4 h5 h6 h7 h8 h9 h10
  rfl

structure In where
  kind : Int
  port : Int
  vec : Vec
  hops : Int
  up : Bool
  deriving DecidableEq, Inhabited
def In.enc (x : In) : List Lf := [.i .i64 x.kind, .i .i64 x.port, .i .i64 x.vec.root, .i .i64 x.vec.cost, .i .i64 x.vec.bridge, .i .i64 x.vec.port, .i .i64 x.hops, .b x.up]
@[simp] theorem In.enc_len (x : In) : x.enc.length = 8 := rfl
@[simp] theorem In.enc_take (x : In) : List.take 8 x.enc = x.enc := rfl
@[simp] theorem In.enc_drop (x : In) : List.drop 8 x.enc = [] := rfl
abbrev In.z : List Lf := [.i .i64 0, .i .i64 0, .i .i64 0, .i .i64 0, .i .i64 0, .i .i64 0, .i .i64 0, .b false]
abbrev In.zv : In := ⟨0, 0, ⟨0, 0, 0, 0⟩, 0, false⟩
theorem In.enc_inj {x y : In} (h : x.enc = y.enc) : x = y := by
  rcases x with ⟨v0, v1, ⟨v2_0, v2_1, v2_2, v2_3⟩, v3, v4⟩
  rcases y with ⟨w0, v1, ⟨v2_0, v2_1, v2_2, v2_3⟩, v3, v4⟩
  simp [In.enc] at h
  simp_all
def In.mk' (k : Int) : In := ⟨k, k + 1, ⟨k + 2, k + 3, k + 4, k + 5⟩, k + 6, decide ((k + 7).tmod 3 = 0)⟩
theorem In.mk'_of {y : In} {c : Int} (h0 : y.kind = c) (h1 : y.port = c + 1) (h2 : y.vec.root = c + 2) (h3 : y.vec.cost = c + 3) (h4 : y.vec.bridge = c + 4) (h5 : y.vec.port = c + 5) (h6 : y.hops = c + 6) (h7 : y.up = decide ((c + 7).tmod 3 = 0)) : y = In.mk' c := by
  rcases y with ⟨w0, v1, ⟨v2_0, v2_1, v2_2, v2_3⟩, v3, v4⟩
  simp only at h0 h1 h2 h3 h4 h5 h6 h7
  subst h0 h1 h2 h3 h4 h5 h6 h7
  rfl

theorem toIn (H : Heap) (x : In) : run env 59 [.agg x.enc] H = some (.agg x.enc, H) := by
  refine run_walk ok59 Tryd.func59 rfl (by simp [Tryd.f59]) fun Q hQ => ?_
  simp only [Tryd.f59, strip, stripL, stripI, stripG, chkT, tagsB, tagsL, tagD, addT, tagA, lookN, tagOp, elmT, ty32, ty37, ty43, ty48, ty56, ty57, ty58, ty59, ty65, ty66, ty67, ty74, ty80, ty97, Nat.reduceEqDiff, if_false, reduceIte, Option.getD_some, Option.getD_none, dstAt, dstOk, Nat.reduceLT, decide_true, if_true]
  have e0 := fun H => toVec H x.vec
  simp only [Vec.enc] at e0
  simp [In.enc, e0]
  all_goals (refine hQ _ _ _ (by simp) ?_)
  all_goals (clear hQ; simp [Tryd.f59, In.enc])

theorem eqIn (H : Heap) (x y : In) : run env 60 [.agg x.enc, .agg y.enc] H = some (.bool (decide (x = y)), H) := by
  have e0 := fun H => eqVec H x.vec y.vec
  obtain ⟨a0, a1, a2, a3, a4⟩ := x
  obtain ⟨b0, b1, b2, b3, b4⟩ := y
  simp only [Vec.enc] at e0
  refine run_walk ok60 Tryd.func60 rfl (by simp [Tryd.f60]) fun Q hQ => ?_
  simp only [Tryd.f60, strip, stripL, stripI, stripG, chkT, tagsB, tagsL, tagD, addT, tagA, lookN, tagOp, elmT, ty32, ty37, ty43, ty48, ty56, ty57, ty58, ty59, ty65, ty66, ty67, ty74, ty80, ty97, Nat.reduceEqDiff, if_false, reduceIte, Option.getD_some, Option.getD_none, dstAt, dstOk, Nat.reduceLT, decide_true, if_true]
  simp [In.enc]
  repeat' (first | (refine gdL_t (fun h => ?_) (fun h => ?_) <;> simp [h, e0]) | (refine gdL_f (fun h => ?_) (fun h => ?_) <;> simp [h, e0]) | (refine selS_intro (fun h => ?_) (fun h => ?_) <;> simp [h, e0]))
  all_goals (refine hQ _ _ _ (by simp) ?_)
  all_goals (clear hQ; simp_all [Tryd.f60])

theorem shpIn {H : Heap} {k : Nat} {l : List Lf} (h : Shp Tryd.prog H (k + 3) 116 l) : ∃ x : In, l = x.enc := by
  obtain ⟨_, _, rfl, h0, _, _, rfl, h1, _, _, rfl, h2, _, _, rfl, h3, _, _, rfl, h4, rfl⟩ := h.struct Tryd.underlying116
  obtain ⟨a0, rfl, -⟩ := h0.i64 Tryd.underlying3
  obtain ⟨a1, rfl, -⟩ := h1.i64 Tryd.underlying3
  obtain ⟨a2, rfl⟩ := shpVec h2
  obtain ⟨a3, rfl, -⟩ := h3.i64 Tryd.underlying3
  obtain ⟨a4, rfl⟩ := h4.bool Tryd.underlying4
  exact ⟨⟨a0, a1, a2, a3, a4⟩, rfl⟩

structure Out where
  kind : Int
  port : Int
  vec : Vec
  hops : Int
  on : Bool
  deriving DecidableEq, Inhabited
def Out.enc (x : Out) : List Lf := [.i .i64 x.kind, .i .i64 x.port, .i .i64 x.vec.root, .i .i64 x.vec.cost, .i .i64 x.vec.bridge, .i .i64 x.vec.port, .i .i64 x.hops, .b x.on]
@[simp] theorem Out.enc_len (x : Out) : x.enc.length = 8 := rfl
@[simp] theorem Out.enc_take (x : Out) : List.take 8 x.enc = x.enc := rfl
@[simp] theorem Out.enc_drop (x : Out) : List.drop 8 x.enc = [] := rfl
abbrev Out.z : List Lf := [.i .i64 0, .i .i64 0, .i .i64 0, .i .i64 0, .i .i64 0, .i .i64 0, .i .i64 0, .b false]
abbrev Out.zv : Out := ⟨0, 0, ⟨0, 0, 0, 0⟩, 0, false⟩
theorem Out.enc_inj {x y : Out} (h : x.enc = y.enc) : x = y := by
  rcases x with ⟨v0, v1, ⟨v2_0, v2_1, v2_2, v2_3⟩, v3, v4⟩
  rcases y with ⟨w0, v1, ⟨v2_0, v2_1, v2_2, v2_3⟩, v3, v4⟩
  simp [Out.enc] at h
  simp_all
def Out.mk' (k : Int) : Out := ⟨k, k + 1, ⟨k + 2, k + 3, k + 4, k + 5⟩, k + 6, decide ((k + 7).tmod 3 = 0)⟩
theorem Out.mk'_of {y : Out} {c : Int} (h0 : y.kind = c) (h1 : y.port = c + 1) (h2 : y.vec.root = c + 2) (h3 : y.vec.cost = c + 3) (h4 : y.vec.bridge = c + 4) (h5 : y.vec.port = c + 5) (h6 : y.hops = c + 6) (h7 : y.on = decide ((c + 7).tmod 3 = 0)) : y = Out.mk' c := by
  rcases y with ⟨w0, v1, ⟨v2_0, v2_1, v2_2, v2_3⟩, v3, v4⟩
  simp only at h0 h1 h2 h3 h4 h5 h6 h7
  subst h0 h1 h2 h3 h4 h5 h6 h7
  rfl

theorem toOut (H : Heap) (x : Out) : run env 63 [.agg x.enc] H = some (.agg x.enc, H) := by
  refine run_walk ok63 Tryd.func63 rfl (by simp [Tryd.f63]) fun Q hQ => ?_
  simp only [Tryd.f63, strip, stripL, stripI, stripG, chkT, tagsB, tagsL, tagD, addT, tagA, lookN, tagOp, elmT, ty32, ty37, ty43, ty48, ty56, ty57, ty58, ty59, ty65, ty66, ty67, ty74, ty80, ty97, Nat.reduceEqDiff, if_false, reduceIte, Option.getD_some, Option.getD_none, dstAt, dstOk, Nat.reduceLT, decide_true, if_true]
  have e0 := fun H => toVec H x.vec
  simp only [Vec.enc] at e0
  simp [Out.enc, e0]
  all_goals (refine hQ _ _ _ (by simp) ?_)
  all_goals (clear hQ; simp [Tryd.f63, Out.enc])

theorem eqOut (H : Heap) (x y : Out) : run env 66 [.agg x.enc, .agg y.enc] H = some (.bool (decide (x = y)), H) := by
  have e0 := fun H => eqVec H x.vec y.vec
  obtain ⟨a0, a1, a2, a3, a4⟩ := x
  obtain ⟨b0, b1, b2, b3, b4⟩ := y
  simp only [Vec.enc] at e0
  refine run_walk ok66 Tryd.func66 rfl (by simp [Tryd.f66]) fun Q hQ => ?_
  simp only [Tryd.f66, strip, stripL, stripI, stripG, chkT, tagsB, tagsL, tagD, addT, tagA, lookN, tagOp, elmT, ty32, ty37, ty43, ty48, ty56, ty57, ty58, ty59, ty65, ty66, ty67, ty74, ty80, ty97, Nat.reduceEqDiff, if_false, reduceIte, Option.getD_some, Option.getD_none, dstAt, dstOk, Nat.reduceLT, decide_true, if_true]
  simp [Out.enc]
  repeat' (first | (refine gdL_t (fun h => ?_) (fun h => ?_) <;> simp [h, e0]) | (refine gdL_f (fun h => ?_) (fun h => ?_) <;> simp [h, e0]) | (refine selS_intro (fun h => ?_) (fun h => ?_) <;> simp [h, e0]))
  all_goals (refine hQ _ _ _ (by simp) ?_)
  all_goals (clear hQ; simp_all [Tryd.f66])

theorem shpOut {H : Heap} {k : Nat} {l : List Lf} (h : Shp Tryd.prog H (k + 3) 128 l) : ∃ x : Out, l = x.enc := by
  obtain ⟨_, _, rfl, h0, _, _, rfl, h1, _, _, rfl, h2, _, _, rfl, h3, _, _, rfl, h4, rfl⟩ := h.struct Tryd.underlying128
  obtain ⟨a0, rfl, -⟩ := h0.i64 Tryd.underlying3
  obtain ⟨a1, rfl, -⟩ := h1.i64 Tryd.underlying3
  obtain ⟨a2, rfl⟩ := shpVec h2
  obtain ⟨a3, rfl, -⟩ := h3.i64 Tryd.underlying3
  obtain ⟨a4, rfl⟩ := h4.bool Tryd.underlying4
  exact ⟨⟨a0, a1, a2, a3, a4⟩, rfl⟩

structure Reg where
  epoch : Int
  owner : Int
  pair : Int
  deriving DecidableEq, Inhabited
def Reg.enc (x : Reg) : List Lf := [.i .i64 x.epoch, .i .i64 x.owner, .i .i64 x.pair]
@[simp] theorem Reg.enc_len (x : Reg) : x.enc.length = 3 := rfl
@[simp] theorem Reg.enc_take (x : Reg) : List.take 3 x.enc = x.enc := rfl
@[simp] theorem Reg.enc_drop (x : Reg) : List.drop 3 x.enc = [] := rfl
abbrev Reg.z : List Lf := [.i .i64 0, .i .i64 0, .i .i64 0]
abbrev Reg.zv : Reg := ⟨0, 0, 0⟩
theorem Reg.enc_inj {x y : Reg} (h : x.enc = y.enc) : x = y := by
  obtain ⟨_, _, _⟩ := x
  obtain ⟨_, _, _⟩ := y
  simp [Reg.enc] at h
  simp_all
def Reg.mk' (k : Int) : Reg := ⟨k, k + 1, k + 2⟩
theorem Reg.mk'_of {y : Reg} {c : Int} (h0 : y.epoch = c) (h1 : y.owner = c + 1) (h2 : y.pair = c + 2) : y = Reg.mk' c := by
  rcases y with ⟨w0, v1, v2⟩
  simp only at h0 h1 h2
  subst h0 h1 h2
  rfl

theorem toReg (H : Heap) (x : Reg) : run env 44 [.agg x.enc] H = some (.agg x.enc, H) := by
  refine run_walk ok44 Tryd.func44 rfl (by simp [Tryd.f44]) fun Q hQ => ?_
  simp only [Tryd.f44, strip, stripL, stripI, stripG, chkT, tagsB, tagsL, tagD, addT, tagA, lookN, tagOp, elmT, ty32, ty37, ty43, ty48, ty56, ty57, ty58, ty59, ty65, ty66, ty67, ty74, ty80, ty97, Nat.reduceEqDiff, if_false, reduceIte, Option.getD_some, Option.getD_none, dstAt, dstOk, Nat.reduceLT, decide_true, if_true]
  simp [Reg.enc]
  all_goals (refine hQ _ _ _ (by simp) ?_)
  all_goals (clear hQ; simp [Tryd.f44, Reg.enc])

theorem eqReg (H : Heap) (x y : Reg) : run env 52 [.agg x.enc, .agg y.enc] H = some (.bool (decide (x = y)), H) := by
  obtain ⟨a0, a1, a2⟩ := x
  obtain ⟨b0, b1, b2⟩ := y
  refine run_walk ok52 Tryd.func52 rfl (by simp [Tryd.f52]) fun Q hQ => ?_
  simp only [Tryd.f52, strip, stripL, stripI, stripG, chkT, tagsB, tagsL, tagD, addT, tagA, lookN, tagOp, elmT, ty32, ty37, ty43, ty48, ty56, ty57, ty58, ty59, ty65, ty66, ty67, ty74, ty80, ty97, Nat.reduceEqDiff, if_false, reduceIte, Option.getD_some, Option.getD_none, dstAt, dstOk, Nat.reduceLT, decide_true, if_true]
  simp [Reg.enc]
  repeat' (first | (refine gdL_t (fun h => ?_) (fun h => ?_) <;> simp [h]) | (refine gdL_f (fun h => ?_) (fun h => ?_) <;> simp [h]) | (refine selS_intro (fun h => ?_) (fun h => ?_) <;> simp [h]))
  all_goals (refine hQ _ _ _ (by simp) ?_)
  all_goals (clear hQ; simp_all [Tryd.f52])

structure Wire where
  frm : Int
  ack : Bool
  life : Int
  n : Int
  inn : In
  deriving DecidableEq, Inhabited
def Wire.enc (x : Wire) : List Lf := [.i .i64 x.frm, .b x.ack, .i .i64 x.life, .i .i64 x.n, .i .i64 x.inn.kind, .i .i64 x.inn.port, .i .i64 x.inn.vec.root, .i .i64 x.inn.vec.cost, .i .i64 x.inn.vec.bridge, .i .i64 x.inn.vec.port, .i .i64 x.inn.hops, .b x.inn.up]
@[simp] theorem Wire.enc_len (x : Wire) : x.enc.length = 12 := rfl
@[simp] theorem Wire.enc_take (x : Wire) : List.take 12 x.enc = x.enc := rfl
@[simp] theorem Wire.enc_drop (x : Wire) : List.drop 12 x.enc = [] := rfl
abbrev Wire.z : List Lf := [.i .i64 0, .b false, .i .i64 0, .i .i64 0, .i .i64 0, .i .i64 0, .i .i64 0, .i .i64 0, .i .i64 0, .i .i64 0, .i .i64 0, .b false]
abbrev Wire.zv : Wire := ⟨0, false, 0, 0, ⟨0, 0, ⟨0, 0, 0, 0⟩, 0, false⟩⟩
theorem Wire.enc_inj {x y : Wire} (h : x.enc = y.enc) : x = y := by
  rcases x with ⟨v0, v1, v2, v3, ⟨v4_0, v4_1, ⟨v4_2_0, v4_2_1, v4_2_2, v4_2_3⟩, v4_3, v4_4⟩⟩
  rcases y with ⟨w0, v1, v2, v3, ⟨v4_0, v4_1, ⟨v4_2_0, v4_2_1, v4_2_2, v4_2_3⟩, v4_3, v4_4⟩⟩
  simp [Wire.enc] at h
  simp_all
def Wire.mk' (k : Int) : Wire := ⟨k, decide ((k + 1).tmod 3 = 0), k + 2, k + 3, ⟨k + 4, k + 5, ⟨k + 6, k + 7, k + 8, k + 9⟩, k + 10, decide ((k + 11).tmod 3 = 0)⟩⟩
theorem Wire.mk'_of {y : Wire} {c : Int} (h0 : y.frm = c) (h1 : y.ack = decide ((c + 1).tmod 3 = 0)) (h2 : y.life = c + 2) (h3 : y.n = c + 3) (h4 : y.inn.kind = c + 4) (h5 : y.inn.port = c + 5) (h6 : y.inn.vec.root = c + 6) (h7 : y.inn.vec.cost = c + 7) (h8 : y.inn.vec.bridge = c + 8) (h9 : y.inn.vec.port = c + 9) (h10 : y.inn.hops = c + 10) (h11 : y.inn.up = decide ((c + 11).tmod 3 = 0)) : y = Wire.mk' c := by
  rcases y with ⟨w0, v1, v2, v3, ⟨v4_0, v4_1, ⟨v4_2_0, v4_2_1, v4_2_2, v4_2_3⟩, v4_3, v4_4⟩⟩
  simp only at h0 h1 h2 h3 h4 h5 h6 h7 h8 h9 h10 h11
  subst h0 h1 h2 h3 h4 h5 h6 h7 h8 h9 h10 h11
  rfl

theorem toWire (H : Heap) (x : Wire) : run env 62 [.agg x.enc] H = some (.agg x.enc, H) := by
  refine run_walk ok62 Tryd.func62 rfl (by simp [Tryd.f62]) fun Q hQ => ?_
  simp only [Tryd.f62, strip, stripL, stripI, stripG, chkT, tagsB, tagsL, tagD, addT, tagA, lookN, tagOp, elmT, ty32, ty37, ty43, ty48, ty56, ty57, ty58, ty59, ty65, ty66, ty67, ty74, ty80, ty97, Nat.reduceEqDiff, if_false, reduceIte, Option.getD_some, Option.getD_none, dstAt, dstOk, Nat.reduceLT, decide_true, if_true]
  have e0 := fun H => toIn H x.inn
  simp only [In.enc] at e0
  simp [Wire.enc, e0]
  all_goals (refine hQ _ _ _ (by simp) ?_)
  all_goals (clear hQ; simp [Tryd.f62, Wire.enc])

theorem eqWire (H : Heap) (x y : Wire) : run env 65 [.agg x.enc, .agg y.enc] H = some (.bool (decide (x = y)), H) := by
  have e0 := fun H => eqIn H x.inn y.inn
  obtain ⟨a0, a1, a2, a3, a4⟩ := x
  obtain ⟨b0, b1, b2, b3, b4⟩ := y
  simp only [In.enc] at e0
  refine run_walk ok65 Tryd.func65 rfl (by simp [Tryd.f65]) fun Q hQ => ?_
  simp only [Tryd.f65, strip, stripL, stripI, stripG, chkT, tagsB, tagsL, tagD, addT, tagA, lookN, tagOp, elmT, ty32, ty37, ty43, ty48, ty56, ty57, ty58, ty59, ty65, ty66, ty67, ty74, ty80, ty97, Nat.reduceEqDiff, if_false, reduceIte, Option.getD_some, Option.getD_none, dstAt, dstOk, Nat.reduceLT, decide_true, if_true]
  simp [Wire.enc]
  repeat' (first | (refine gdL_t (fun h => ?_) (fun h => ?_) <;> simp [h, e0]) | (refine gdL_f (fun h => ?_) (fun h => ?_) <;> simp [h, e0]) | (refine selS_intro (fun h => ?_) (fun h => ?_) <;> simp [h, e0]))
  all_goals (refine hQ _ _ _ (by simp) ?_)
  all_goals (clear hQ; simp_all [Tryd.f65])

theorem shpWire {H : Heap} {k : Nat} {l : List Lf} (h : Shp Tryd.prog H (k + 4) 123 l) : ∃ x : Wire, l = x.enc := by
  obtain ⟨_, _, rfl, h0, _, _, rfl, h1, _, _, rfl, h2, _, _, rfl, h3, _, _, rfl, h4, rfl⟩ := h.struct Tryd.underlying123
  obtain ⟨a0, rfl, -⟩ := h0.i64 Tryd.underlying3
  obtain ⟨a1, rfl⟩ := h1.bool Tryd.underlying4
  obtain ⟨a2, rfl, -⟩ := h2.i64 Tryd.underlying3
  obtain ⟨a3, rfl, -⟩ := h3.i64 Tryd.underlying3
  obtain ⟨a4, rfl⟩ := shpIn h4
  exact ⟨⟨a0, a1, a2, a3, a4⟩, rfl⟩

def encB (x : Bool) : List Lf := [.b x]
@[simp] theorem encB_len (x : Bool) : (encB x).length = 1 := rfl
@[simp] theorem encB_take (x : Bool) : List.take 1 (encB x) = [.b x] := rfl
def mkB (k : Int) : Bool := decide (k.tmod 3 = 0)
theorem encB_inj {x y : Bool} (h : encB x = encB y) : x = y := by simpa [encB] using h

def encI (x : Int) : List Lf := [.i .i64 x]
@[simp] theorem encI_len (x : Int) : (encI x).length = 1 := rfl
@[simp] theorem encI_take (x : Int) : List.take 1 (encI x) = [.i .i64 x] := rfl
def mkI (k : Int) : Int := k
theorem encI_inj {x y : Int} (h : encI x = encI y) : x = y := by simpa [encI] using h

theorem toBoolS (H : Heap) (a : Option (Nat × Nat)) (xs : List Bool) (h : Sl H 4 a (xs.map encB)) (hn : xs.length ≤ 1048576) :
    run env 47 [.w (.lf (.sl a xs.length))] H = some (.sl H.length 0 xs.length, H ++ [some ⟨4, .wr, xs.map encB⟩]) := by
  refine run_walk ok47 Tryd.func47 rfl (by simp [Tryd.f47]) fun Q hQ => ?_
  simp only [Tryd.f47, strip, stripL, stripI, stripG, chkT, tagsB, tagsL, tagD, addT, tagA, lookN, tagOp, elmT, ty32, ty37, ty43, ty48, ty56, ty57, ty58, ty59, ty65, ty66, ty67, ty74, ty80, ty97, Nat.reduceEqDiff, if_false, reduceIte, Option.getD_some, Option.getD_none, dstAt, dstOk, Nat.reduceLT, decide_true, if_true]
  have k1 : (xs.length : Int) * 1 ≤ 281474976710656 := by omega
  have k2 : (xs.length : Int) ≤ 9223372036854775807 := by omega
  have k3 : (xs.length : Int) ≤ 281474976710656 := by omega
  simp [builtinV, pureB, lenV, makeSliceV, makeSliceR, newBlk, k1, k2, k3]
  refine wpS_loop (fun j tm H' => ∃ i, i + j = xs.length ∧ tm 0 = .w (.lf (.sl a xs.length)) ∧ tm 3 = .sl H.length 0 xs.length ∧ tm 4 = .int i ∧ H' = H ++ [some ⟨4, .wr, fillR (xs.map encB) [.b false] i j⟩]) xs.length (by rw [env_K]; omega) ⟨0, by simp, by simp, by simp, by simp, by rw [fillR_zero _ _ (by simp)]⟩ ?_
  rintro j tm H' hj ⟨i, hij, h0, h3, h4, rfl⟩ Q' hn' he' hr'
  simp [h0, h3, h4, builtinV, pureB, lenV]
  refine selS_intro (fun hc => ?_) (fun hc => ?_)
  · simp at hc
    obtain ⟨j, rfl⟩ : ∃ j', j = j' + 1 := ⟨j - 1, by omega⟩
    obtain ⟨id, r, b, rfl, hb, hbe, hrow⟩ := h i _ (by simp [hc]; rfl)
    have hid := blkAt_len hb
    have g2 := fillR_get (ys := xs.map encB) (z := [.b false]) (i := i) (j := j) (by simpa using hij)
    have g3 := fillR_set (ys := xs.map encB) (z := [.b false]) (i := i) (j := j) (y := encB xs[i]) (by simpa using hij) (by simp [hc])
    have g4 : IntKind.i64.wrap ((i : Int) + 1) = (i : Int) + 1 := wrap64 (by omega) (by omega)
    simp [h0, h3, h4, indexAddrV, elemIs, hid, hb, hbe, hc, hrow, g2, g3, g4]
    exact hn' j _ _ (by omega) ⟨i + 1, by omega, by simp [h0], by simp [h3], by simp, by simpa [encB] using congrArg (fun r => H ++ [some (⟨4, .wr, r⟩ : Blk)]) g3⟩
  · simp at hc
    have hj0 : j = 0 := by omega
    subst hj0
    simp [h0, h3, h4]
    refine he' _ _ _ ?_
    simp [h3]
    refine hQ _ _ _ (by simp) ?_
    simp [Tryd.f47, leave, fillR_done (ys := xs.map encB) (i := i) (z := [.b false]) (by simpa using hij), refFree]

theorem szBoolS (H : Heap) (a : Option (Nat × Nat)) (n : Nat) (left : Int) (h1 : 0 ≤ left) (h2 : left ≤ 1048576) (h3 : n ≤ maxLen) :
    run env 42 [.w (.lf (.sl a n)), .int left] H = some (.int (if left < n then -1 else left - n), H) := by
  have hm : (n : Int) ≤ 9223372036854775807 := by unfold maxLen at h3; omega
  refine run_walk ok42 Tryd.func42 rfl (by simp [Tryd.f42]) fun Q hQ => ?_
  simp only [Tryd.f42, strip, stripL, stripI, stripG, chkT, tagsB, tagsL, tagD, addT, tagA, lookN, tagOp, elmT, ty32, ty37, ty43, ty48, ty56, ty57, ty58, ty59, ty65, ty66, ty67, ty74, ty80, ty97, Nat.reduceEqDiff, if_false, reduceIte, Option.getD_some, Option.getD_none, dstAt, dstOk, Nat.reduceLT, decide_true, if_true]
  have g : IntKind.i64.wrap (left - n) = left - n := wrap64 (by omega) (by omega)
  simp [builtinV, pureB, lenV, g]
  repeat' (first | (refine gdL_t (fun h => ?_) (fun h => ?_) <;> simp [h]) | (refine gdL_f (fun h => ?_) (fun h => ?_) <;> simp [h]) | (refine selS_intro (fun h => ?_) (fun h => ?_) <;> simp [h]))
  all_goals (refine hQ _ _ _ (by simp) ?_)
  all_goals (clear hQ; simp_all [Tryd.f42] <;> omega)

theorem eqBoolS (H : Heap) (a b : Option (Nat × Nat)) (xs ys : List Bool) (ha : Sl H 4 a (xs.map encB)) (hb : Sl H 4 b (ys.map encB)) (hn : xs.length ≤ 1048576) :
    run env 55 [.w (.lf (.sl a xs.length)), .w (.lf (.sl b ys.length))] H = some (.bool (decide (xs = ys)), H) := by
  refine run_walk ok55 Tryd.func55 rfl (by simp [Tryd.f55]) fun Q hQ => ?_
  simp only [Tryd.f55, strip, stripL, stripI, stripG, chkT, tagsB, tagsL, tagD, addT, tagA, lookN, tagOp, elmT, ty32, ty37, ty43, ty48, ty56, ty57, ty58, ty59, ty65, ty66, ty67, ty74, ty80, ty97, Nat.reduceEqDiff, if_false, reduceIte, Option.getD_some, Option.getD_none, dstAt, dstOk, Nat.reduceLT, decide_true, if_true]
  simp [builtinV, pureB, lenV]
  refine selS_intro (fun hl => ?_) (fun hl => ?_)
  · simp
    refine hQ _ _ _ (by simp) ?_
    simp at hl
    have : ¬ xs = ys := fun h => hl (by rw [h])
    simp [Tryd.f55, this]
  simp at hl
  simp
  refine wpS_loop (fun j tm H' => ∃ i, i + j = xs.length ∧ tm 0 = .w (.lf (.sl a xs.length)) ∧ tm 1 = .w (.lf (.sl b ys.length)) ∧ tm 5 = .int i ∧ H' = H ∧ xs.take i = ys.take i) xs.length (by rw [env_K]; omega) ⟨0, by simp, by simp, by simp, by simp, rfl, by simp⟩ ?_
  rintro j tm H' hj ⟨i, hij, h0, h1, h5, rfl, heq⟩ Q' hn' he' hr'
  simp [h0, h1, h5, builtinV, pureB, lenV]
  refine selS_intro (fun hc => ?_) (fun hc => ?_)
  · simp at hc
    have hc2 : i < ys.length := by omega
    obtain ⟨id, r, bl, rfl, hbl, hbe, hrow⟩ := ha i _ (by simp [hc]; rfl)
    obtain ⟨id2, r2, bl2, rfl, hbl2, hbe2, hrow2⟩ := hb i _ (by simp [hc2]; rfl)
    have g4 : IntKind.i64.wrap ((i : Int) + 1) = (i : Int) + 1 := wrap64 (by omega) (by omega)
    simp [h0, h1, h5, indexAddrV, elemIs, hbl, hbe, hbl2, hbe2, hc, hc2, hrow, hrow2, encB]
    refine selS_intro (fun hd => ?_) (fun hd => ?_)
    · simp
      refine hr' _ _ ?_
      simp
      refine hQ _ _ _ (by simp) ?_
      simp at hd
      have : ¬ xs = ys := fun h => by subst h; simp at hd
      simp [Tryd.f55, this]
    · simp at hd
      simp [h0, h1, h5, g4]
      exact hn' (j - 1) _ _ (by omega) ⟨i + 1, by omega, by simp [h0], by simp [h1], by simp, rfl, by rw [List.take_add_one, List.take_add_one, heq]; simp [hc, hc2, hd]⟩
  · simp at hc
    simp [h0, h1, h5]
    refine he' _ _ _ ?_
    simp
    refine hQ _ _ _ (by simp) ?_
    have : xs = ys := by
      rw [List.take_of_length_le (by omega), List.take_of_length_le (by omega)] at heq
      exact heq
    simp [Tryd.f55, this]

abbrev IsBoolS := IsSl 4 encB
abbrev RdBoolS := RdSl 4 encB
abbrev RdLBoolS := RdSl 4 encB
def BoolS.mk' (xs : List Bool) (k : Int) : List Bool := marked mkB 1 xs.length k
def BoolS.mkN (xs : List Bool) (k : Int) : Int := k + 1 * xs.length
def BoolS.hd (xs : List Bool) (k : Int) : Int := heldL mkB 1 xs k
theorem BoolS.hd_mk (xs : List Bool) (k : Int) : BoolS.hd (BoolS.mk' xs k) k = BoolS.mkN xs k := by simp [BoolS.hd, BoolS.mk', BoolS.mkN]
theorem BoolS.mk_sz (xs : List Bool) (k : Int) : (BoolS.mk' xs k).length = xs.length := by simp [BoolS.mk']
theorem BoolS.mkN_le {xs : List Bool} {k : Int} (h : xs.length ≤ 1048576) : k ≤ BoolS.mkN xs k ∧ BoolS.mkN xs k ≤ k + 1000000000 := by unfold BoolS.mkN; omega

theorem shpBoolS_is {H : Heap} {k : Nat} {l : List Lf} (h : Shp Tryd.prog H (k + 2) 58 l) : ∃ (q : Lf) (xs : List Bool), l = [q] ∧ RdLBoolS H q xs ∧ xs.length ≤ maxLen := by
  obtain ⟨xs, a, rfl, hs, hl, -⟩ := h.sl (f := encB) (R := fun _ => True) Tryd.underlying58 fun row hr => let ⟨x, hx⟩ := hr.bool Tryd.underlying4; ⟨x, hx, trivial⟩
  exact ⟨_, xs, rfl, ⟨a, rfl, hs⟩, hl⟩

theorem toBoolS_is {H : Heap} {q : Lf} {xs : List Bool} (h : RdLBoolS H q xs) (hn : xs.length ≤ 1048576) : Runs env 47 [.w (.lf q)] H fun v H' => ∃ q' fp, v = .w (.lf q') ∧ IsBoolS H' q' xs fp ∧ Fresh H H' fp := by
  obtain ⟨a, rfl, h⟩ := h
  exact .of (toBoolS H a xs h hn) ⟨_, _, rfl, ⟨_, rfl, Own.of (by simp)⟩, Fresh.app _ _ (by simp)⟩

theorem eqBoolS_is {H : Heap} {q r : Lf} {xs ys : List Bool} (h : RdBoolS H q xs) (h2 : RdBoolS H r ys) (hn : xs.length ≤ 1048576) : run env 55 [.w (.lf q), .w (.lf r)] H = some (.bool (decide (xs = ys)), H) := by
  obtain ⟨a, rfl, h⟩ := h
  obtain ⟨b, rfl, h2⟩ := h2
  exact eqBoolS H a b xs ys h h2 hn

theorem toInS (H : Heap) (a : Option (Nat × Nat)) (xs : List In) (h : Sl H 116 a (xs.map In.enc)) (hn : xs.length ≤ 1048576) :
    run env 34 [.w (.lf (.sl a xs.length))] H = some (.sl H.length 0 xs.length, H ++ [some ⟨113, .wr, xs.map In.enc⟩]) := by
  refine run_walk ok34 Tryd.func34 rfl (by simp [Tryd.f34]) fun Q hQ => ?_
  simp only [Tryd.f34, strip, stripL, stripI, stripG, chkT, tagsB, tagsL, tagD, addT, tagA, lookN, tagOp, elmT, ty32, ty37, ty43, ty48, ty56, ty57, ty58, ty59, ty65, ty66, ty67, ty74, ty80, ty97, Nat.reduceEqDiff, if_false, reduceIte, Option.getD_some, Option.getD_none, dstAt, dstOk, Nat.reduceLT, decide_true, if_true]
  have k1 : (xs.length : Int) * 64 ≤ 281474976710656 := by omega
  have k2 : (xs.length : Int) ≤ 9223372036854775807 := by omega
  have k3 : (xs.length : Int) ≤ 281474976710656 := by omega
  simp [builtinV, pureB, lenV, makeSliceV, makeSliceR, newBlk, k1, k2, k3]
  refine wpS_loop (fun j tm H' => ∃ i, i + j = xs.length ∧ tm 0 = .w (.lf (.sl a xs.length)) ∧ tm 3 = .sl H.length 0 xs.length ∧ tm 4 = .int i ∧ H' = H ++ [some ⟨113, .wr, fillR (xs.map In.enc) In.z i j⟩]) xs.length (by rw [env_K]; omega) ⟨0, by simp, by simp, by simp, by simp, by rw [fillR_zero _ _ (by simp)]⟩ ?_
  rintro j tm H' hj ⟨i, hij, h0, h3, h4, rfl⟩ Q' hn' he' hr'
  simp [h0, h3, h4, builtinV, pureB, lenV]
  refine selS_intro (fun hc => ?_) (fun hc => ?_)
  · simp at hc
    obtain ⟨j, rfl⟩ : ∃ j', j = j' + 1 := ⟨j - 1, by omega⟩
    obtain ⟨id, r, b, rfl, hb, hbe, hrow⟩ := h i _ (by simp [hc]; rfl)
    have hid := blkAt_len hb
    have g2 := fillR_get (ys := xs.map In.enc) (z := In.z) (i := i) (j := j) (by simpa using hij)
    have g3 := fillR_set (ys := xs.map In.enc) (z := In.z) (i := i) (j := j) (y := In.enc xs[i]) (by simpa using hij) (by simp [hc])
    have g4 : IntKind.i64.wrap ((i : Int) + 1) = (i : Int) + 1 := wrap64 (by omega) (by omega)
    simp [h0, h3, h4, indexAddrV, elemIs, hid, hb, hbe, hc, hrow, toIn, g2, g3, g4]
    exact hn' j _ _ (by omega) ⟨i + 1, by omega, by simp [h0], by simp [h3], by simp, by simpa using congrArg (fun r => H ++ [some (⟨113, .wr, r⟩ : Blk)]) g3⟩
  · simp at hc
    have hj0 : j = 0 := by omega
    subst hj0
    simp [h0, h3, h4]
    refine he' _ _ _ ?_
    simp [h3]
    refine hQ _ _ _ (by simp) ?_
    simp [Tryd.f34, leave, fillR_done (ys := xs.map In.enc) (i := i) (z := In.z) (by simpa using hij), refFree]

theorem szInS (H : Heap) (a : Option (Nat × Nat)) (n : Nat) (left : Int) (h1 : 0 ≤ left) (h2 : left ≤ 1048576) (h3 : n ≤ maxLen) :
    run env 33 [.w (.lf (.sl a n)), .int left] H = some (.int (if left < n then -1 else left - n), H) := by
  have hm : (n : Int) ≤ 9223372036854775807 := by unfold maxLen at h3; omega
  refine run_walk ok33 Tryd.func33 rfl (by simp [Tryd.f33]) fun Q hQ => ?_
  simp only [Tryd.f33, strip, stripL, stripI, stripG, chkT, tagsB, tagsL, tagD, addT, tagA, lookN, tagOp, elmT, ty32, ty37, ty43, ty48, ty56, ty57, ty58, ty59, ty65, ty66, ty67, ty74, ty80, ty97, Nat.reduceEqDiff, if_false, reduceIte, Option.getD_some, Option.getD_none, dstAt, dstOk, Nat.reduceLT, decide_true, if_true]
  have g : IntKind.i64.wrap (left - n) = left - n := wrap64 (by omega) (by omega)
  simp [builtinV, pureB, lenV, g]
  repeat' (first | (refine gdL_t (fun h => ?_) (fun h => ?_) <;> simp [h]) | (refine gdL_f (fun h => ?_) (fun h => ?_) <;> simp [h]) | (refine selS_intro (fun h => ?_) (fun h => ?_) <;> simp [h]))
  all_goals (refine hQ _ _ _ (by simp) ?_)
  all_goals (clear hQ; simp_all [Tryd.f33] <;> omega)

theorem eqInS (H : Heap) (a b : Option (Nat × Nat)) (xs ys : List In) (ha : Sl H 113 a (xs.map In.enc)) (hb : Sl H 113 b (ys.map In.enc)) (hn : xs.length ≤ 1048576) :
    run env 36 [.w (.lf (.sl a xs.length)), .w (.lf (.sl b ys.length))] H = some (.bool (decide (xs = ys)), H) := by
  refine run_walk ok36 Tryd.func36 rfl (by simp [Tryd.f36]) fun Q hQ => ?_
  simp only [Tryd.f36, strip, stripL, stripI, stripG, chkT, tagsB, tagsL, tagD, addT, tagA, lookN, tagOp, elmT, ty32, ty37, ty43, ty48, ty56, ty57, ty58, ty59, ty65, ty66, ty67, ty74, ty80, ty97, Nat.reduceEqDiff, if_false, reduceIte, Option.getD_some, Option.getD_none, dstAt, dstOk, Nat.reduceLT, decide_true, if_true]
  simp [builtinV, pureB, lenV]
  refine selS_intro (fun hl => ?_) (fun hl => ?_)
  · simp
    refine hQ _ _ _ (by simp) ?_
    simp at hl
    have : ¬ xs = ys := fun h => hl (by rw [h])
    simp [Tryd.f36, this]
  simp at hl
  simp
  refine wpS_loop (fun j tm H' => ∃ i, i + j = xs.length ∧ tm 0 = .w (.lf (.sl a xs.length)) ∧ tm 1 = .w (.lf (.sl b ys.length)) ∧ tm 5 = .int i ∧ H' = H ∧ xs.take i = ys.take i) xs.length (by rw [env_K]; omega) ⟨0, by simp, by simp, by simp, by simp, rfl, by simp⟩ ?_
  rintro j tm H' hj ⟨i, hij, h0, h1, h5, rfl, heq⟩ Q' hn' he' hr'
  simp [h0, h1, h5, builtinV, pureB, lenV]
  refine selS_intro (fun hc => ?_) (fun hc => ?_)
  · simp at hc
    have hc2 : i < ys.length := by omega
    obtain ⟨id, r, bl, rfl, hbl, hbe, hrow⟩ := ha i _ (by simp [hc]; rfl)
    obtain ⟨id2, r2, bl2, rfl, hbl2, hbe2, hrow2⟩ := hb i _ (by simp [hc2]; rfl)
    have g4 : IntKind.i64.wrap ((i : Int) + 1) = (i : Int) + 1 := wrap64 (by omega) (by omega)
    simp [h0, h1, h5, indexAddrV, elemIs, hbl, hbe, hbl2, hbe2, hc, hc2, hrow, hrow2, eqIn]
    refine selS_intro (fun hd => ?_) (fun hd => ?_)
    · simp
      refine hr' _ _ ?_
      simp
      refine hQ _ _ _ (by simp) ?_
      simp at hd
      have : ¬ xs = ys := fun h => by subst h; simp at hd
      simp [Tryd.f36, this]
    · simp at hd
      simp [h0, h1, h5, g4]
      exact hn' (j - 1) _ _ (by omega) ⟨i + 1, by omega, by simp [h0], by simp [h1], by simp, rfl, by rw [List.take_add_one, List.take_add_one, heq]; simp [hc, hc2, hd]⟩
  · simp at hc
    simp [h0, h1, h5]
    refine he' _ _ _ ?_
    simp
    refine hQ _ _ _ (by simp) ?_
    have : xs = ys := by
      rw [List.take_of_length_le (by omega), List.take_of_length_le (by omega)] at heq
      exact heq
    simp [Tryd.f36, this]

abbrev IsInS := IsSl 113 In.enc
abbrev RdInS := RdSl 113 In.enc
abbrev RdLInS := RdSl 116 In.enc
def InS.mk' (xs : List In) (k : Int) : List In := marked In.mk' 8 xs.length k
def InS.mkN (xs : List In) (k : Int) : Int := k + 8 * xs.length
def InS.hd (xs : List In) (k : Int) : Int := heldL In.mk' 8 xs k
theorem InS.hd_mk (xs : List In) (k : Int) : InS.hd (InS.mk' xs k) k = InS.mkN xs k := by simp [InS.hd, InS.mk', InS.mkN]
theorem InS.mk_sz (xs : List In) (k : Int) : (InS.mk' xs k).length = xs.length := by simp [InS.mk']
theorem InS.mkN_le {xs : List In} {k : Int} (h : xs.length ≤ 1048576) : k ≤ InS.mkN xs k ∧ InS.mkN xs k ≤ k + 1000000000 := by unfold InS.mkN; omega

theorem shpInS_is {H : Heap} {k : Nat} {l : List Lf} (h : Shp Tryd.prog H (k + 4) 32 l) : ∃ (q : Lf) (xs : List In), l = [q] ∧ RdLInS H q xs ∧ xs.length ≤ maxLen := by
  obtain ⟨xs, a, rfl, hs, hl, -⟩ := h.sl (f := In.enc) (R := fun _ => True) Tryd.underlying32 fun row hr => let ⟨x, hx⟩ := shpIn hr; ⟨x, hx, trivial⟩
  exact ⟨_, xs, rfl, ⟨a, rfl, hs⟩, hl⟩

theorem toInS_is {H : Heap} {q : Lf} {xs : List In} (h : RdLInS H q xs) (hn : xs.length ≤ 1048576) : Runs env 34 [.w (.lf q)] H fun v H' => ∃ q' fp, v = .w (.lf q') ∧ IsInS H' q' xs fp ∧ Fresh H H' fp := by
  obtain ⟨a, rfl, h⟩ := h
  exact .of (toInS H a xs h hn) ⟨_, _, rfl, ⟨_, rfl, Own.of (by simp)⟩, Fresh.app _ _ (by simp)⟩

theorem eqInS_is {H : Heap} {q r : Lf} {xs ys : List In} (h : RdInS H q xs) (h2 : RdInS H r ys) (hn : xs.length ≤ 1048576) : run env 36 [.w (.lf q), .w (.lf r)] H = some (.bool (decide (xs = ys)), H) := by
  obtain ⟨a, rfl, h⟩ := h
  obtain ⟨b, rfl, h2⟩ := h2
  exact eqInS H a b xs ys h h2 hn

theorem toOutS (H : Heap) (a : Option (Nat × Nat)) (xs : List Out) (h : Sl H 128 a (xs.map Out.enc)) (hn : xs.length ≤ 1048576) :
    run env 48 [.w (.lf (.sl a xs.length))] H = some (.sl H.length 0 xs.length, H ++ [some ⟨125, .wr, xs.map Out.enc⟩]) := by
  refine run_walk ok48 Tryd.func48 rfl (by simp [Tryd.f48]) fun Q hQ => ?_
  simp only [Tryd.f48, strip, stripL, stripI, stripG, chkT, tagsB, tagsL, tagD, addT, tagA, lookN, tagOp, elmT, ty32, ty37, ty43, ty48, ty56, ty57, ty58, ty59, ty65, ty66, ty67, ty74, ty80, ty97, Nat.reduceEqDiff, if_false, reduceIte, Option.getD_some, Option.getD_none, dstAt, dstOk, Nat.reduceLT, decide_true, if_true]
  have k1 : (xs.length : Int) * 64 ≤ 281474976710656 := by omega
  have k2 : (xs.length : Int) ≤ 9223372036854775807 := by omega
  have k3 : (xs.length : Int) ≤ 281474976710656 := by omega
  simp [builtinV, pureB, lenV, makeSliceV, makeSliceR, newBlk, k1, k2, k3]
  refine wpS_loop (fun j tm H' => ∃ i, i + j = xs.length ∧ tm 0 = .w (.lf (.sl a xs.length)) ∧ tm 3 = .sl H.length 0 xs.length ∧ tm 4 = .int i ∧ H' = H ++ [some ⟨125, .wr, fillR (xs.map Out.enc) Out.z i j⟩]) xs.length (by rw [env_K]; omega) ⟨0, by simp, by simp, by simp, by simp, by rw [fillR_zero _ _ (by simp)]⟩ ?_
  rintro j tm H' hj ⟨i, hij, h0, h3, h4, rfl⟩ Q' hn' he' hr'
  simp [h0, h3, h4, builtinV, pureB, lenV]
  refine selS_intro (fun hc => ?_) (fun hc => ?_)
  · simp at hc
    obtain ⟨j, rfl⟩ : ∃ j', j = j' + 1 := ⟨j - 1, by omega⟩
    obtain ⟨id, r, b, rfl, hb, hbe, hrow⟩ := h i _ (by simp [hc]; rfl)
    have hid := blkAt_len hb
    have g2 := fillR_get (ys := xs.map Out.enc) (z := Out.z) (i := i) (j := j) (by simpa using hij)
    have g3 := fillR_set (ys := xs.map Out.enc) (z := Out.z) (i := i) (j := j) (y := Out.enc xs[i]) (by simpa using hij) (by simp [hc])
    have g4 : IntKind.i64.wrap ((i : Int) + 1) = (i : Int) + 1 := wrap64 (by omega) (by omega)
    simp [h0, h3, h4, indexAddrV, elemIs, hid, hb, hbe, hc, hrow, toOut, g2, g3, g4]
    exact hn' j _ _ (by omega) ⟨i + 1, by omega, by simp [h0], by simp [h3], by simp, by simpa using congrArg (fun r => H ++ [some (⟨125, .wr, r⟩ : Blk)]) g3⟩
  · simp at hc
    have hj0 : j = 0 := by omega
    subst hj0
    simp [h0, h3, h4]
    refine he' _ _ _ ?_
    simp [h3]
    refine hQ _ _ _ (by simp) ?_
    simp [Tryd.f48, leave, fillR_done (ys := xs.map Out.enc) (i := i) (z := Out.z) (by simpa using hij), refFree]

theorem szOutS (H : Heap) (a : Option (Nat × Nat)) (n : Nat) (left : Int) (h1 : 0 ≤ left) (h2 : left ≤ 1048576) (h3 : n ≤ maxLen) :
    run env 43 [.w (.lf (.sl a n)), .int left] H = some (.int (if left < n then -1 else left - n), H) := by
  have hm : (n : Int) ≤ 9223372036854775807 := by unfold maxLen at h3; omega
  refine run_walk ok43 Tryd.func43 rfl (by simp [Tryd.f43]) fun Q hQ => ?_
  simp only [Tryd.f43, strip, stripL, stripI, stripG, chkT, tagsB, tagsL, tagD, addT, tagA, lookN, tagOp, elmT, ty32, ty37, ty43, ty48, ty56, ty57, ty58, ty59, ty65, ty66, ty67, ty74, ty80, ty97, Nat.reduceEqDiff, if_false, reduceIte, Option.getD_some, Option.getD_none, dstAt, dstOk, Nat.reduceLT, decide_true, if_true]
  have g : IntKind.i64.wrap (left - n) = left - n := wrap64 (by omega) (by omega)
  simp [builtinV, pureB, lenV, g]
  repeat' (first | (refine gdL_t (fun h => ?_) (fun h => ?_) <;> simp [h]) | (refine gdL_f (fun h => ?_) (fun h => ?_) <;> simp [h]) | (refine selS_intro (fun h => ?_) (fun h => ?_) <;> simp [h]))
  all_goals (refine hQ _ _ _ (by simp) ?_)
  all_goals (clear hQ; simp_all [Tryd.f43] <;> omega)

theorem eqOutS (H : Heap) (a b : Option (Nat × Nat)) (xs ys : List Out) (ha : Sl H 125 a (xs.map Out.enc)) (hb : Sl H 125 b (ys.map Out.enc)) (hn : xs.length ≤ 1048576) :
    run env 56 [.w (.lf (.sl a xs.length)), .w (.lf (.sl b ys.length))] H = some (.bool (decide (xs = ys)), H) := by
  refine run_walk ok56 Tryd.func56 rfl (by simp [Tryd.f56]) fun Q hQ => ?_
  simp only [Tryd.f56, strip, stripL, stripI, stripG, chkT, tagsB, tagsL, tagD, addT, tagA, lookN, tagOp, elmT, ty32, ty37, ty43, ty48, ty56, ty57, ty58, ty59, ty65, ty66, ty67, ty74, ty80, ty97, Nat.reduceEqDiff, if_false, reduceIte, Option.getD_some, Option.getD_none, dstAt, dstOk, Nat.reduceLT, decide_true, if_true]
  simp [builtinV, pureB, lenV]
  refine selS_intro (fun hl => ?_) (fun hl => ?_)
  · simp
    refine hQ _ _ _ (by simp) ?_
    simp at hl
    have : ¬ xs = ys := fun h => hl (by rw [h])
    simp [Tryd.f56, this]
  simp at hl
  simp
  refine wpS_loop (fun j tm H' => ∃ i, i + j = xs.length ∧ tm 0 = .w (.lf (.sl a xs.length)) ∧ tm 1 = .w (.lf (.sl b ys.length)) ∧ tm 5 = .int i ∧ H' = H ∧ xs.take i = ys.take i) xs.length (by rw [env_K]; omega) ⟨0, by simp, by simp, by simp, by simp, rfl, by simp⟩ ?_
  rintro j tm H' hj ⟨i, hij, h0, h1, h5, rfl, heq⟩ Q' hn' he' hr'
  simp [h0, h1, h5, builtinV, pureB, lenV]
  refine selS_intro (fun hc => ?_) (fun hc => ?_)
  · simp at hc
    have hc2 : i < ys.length := by omega
    obtain ⟨id, r, bl, rfl, hbl, hbe, hrow⟩ := ha i _ (by simp [hc]; rfl)
    obtain ⟨id2, r2, bl2, rfl, hbl2, hbe2, hrow2⟩ := hb i _ (by simp [hc2]; rfl)
    have g4 : IntKind.i64.wrap ((i : Int) + 1) = (i : Int) + 1 := wrap64 (by omega) (by omega)
    simp [h0, h1, h5, indexAddrV, elemIs, hbl, hbe, hbl2, hbe2, hc, hc2, hrow, hrow2, eqOut]
    refine selS_intro (fun hd => ?_) (fun hd => ?_)
    · simp
      refine hr' _ _ ?_
      simp
      refine hQ _ _ _ (by simp) ?_
      simp at hd
      have : ¬ xs = ys := fun h => by subst h; simp at hd
      simp [Tryd.f56, this]
    · simp at hd
      simp [h0, h1, h5, g4]
      exact hn' (j - 1) _ _ (by omega) ⟨i + 1, by omega, by simp [h0], by simp [h1], by simp, rfl, by rw [List.take_add_one, List.take_add_one, heq]; simp [hc, hc2, hd]⟩
  · simp at hc
    simp [h0, h1, h5]
    refine he' _ _ _ ?_
    simp
    refine hQ _ _ _ (by simp) ?_
    have : xs = ys := by
      rw [List.take_of_length_le (by omega), List.take_of_length_le (by omega)] at heq
      exact heq
    simp [Tryd.f56, this]

abbrev IsOutS := IsSl 125 Out.enc
abbrev RdOutS := RdSl 125 Out.enc
abbrev RdLOutS := RdSl 128 Out.enc
def OutS.mk' (xs : List Out) (k : Int) : List Out := marked Out.mk' 8 xs.length k
def OutS.mkN (xs : List Out) (k : Int) : Int := k + 8 * xs.length
def OutS.hd (xs : List Out) (k : Int) : Int := heldL Out.mk' 8 xs k
theorem OutS.hd_mk (xs : List Out) (k : Int) : OutS.hd (OutS.mk' xs k) k = OutS.mkN xs k := by simp [OutS.hd, OutS.mk', OutS.mkN]
theorem OutS.mk_sz (xs : List Out) (k : Int) : (OutS.mk' xs k).length = xs.length := by simp [OutS.mk']
theorem OutS.mkN_le {xs : List Out} {k : Int} (h : xs.length ≤ 1048576) : k ≤ OutS.mkN xs k ∧ OutS.mkN xs k ≤ k + 1000000000 := by unfold OutS.mkN; omega

theorem shpOutS_is {H : Heap} {k : Nat} {l : List Lf} (h : Shp Tryd.prog H (k + 4) 59 l) : ∃ (q : Lf) (xs : List Out), l = [q] ∧ RdLOutS H q xs ∧ xs.length ≤ maxLen := by
  obtain ⟨xs, a, rfl, hs, hl, -⟩ := h.sl (f := Out.enc) (R := fun _ => True) Tryd.underlying59 fun row hr => let ⟨x, hx⟩ := shpOut hr; ⟨x, hx, trivial⟩
  exact ⟨_, xs, rfl, ⟨a, rfl, hs⟩, hl⟩

theorem toOutS_is {H : Heap} {q : Lf} {xs : List Out} (h : RdLOutS H q xs) (hn : xs.length ≤ 1048576) : Runs env 48 [.w (.lf q)] H fun v H' => ∃ q' fp, v = .w (.lf q') ∧ IsOutS H' q' xs fp ∧ Fresh H H' fp := by
  obtain ⟨a, rfl, h⟩ := h
  exact .of (toOutS H a xs h hn) ⟨_, _, rfl, ⟨_, rfl, Own.of (by simp)⟩, Fresh.app _ _ (by simp)⟩

theorem eqOutS_is {H : Heap} {q r : Lf} {xs ys : List Out} (h : RdOutS H q xs) (h2 : RdOutS H r ys) (hn : xs.length ≤ 1048576) : run env 56 [.w (.lf q), .w (.lf r)] H = some (.bool (decide (xs = ys)), H) := by
  obtain ⟨a, rfl, h⟩ := h
  obtain ⟨b, rfl, h2⟩ := h2
  exact eqOutS H a b xs ys h h2 hn

theorem toWireS (H : Heap) (a : Option (Nat × Nat)) (xs : List Wire) (h : Sl H 123 a (xs.map Wire.enc)) (hn : xs.length ≤ 1048576) :
    run env 46 [.w (.lf (.sl a xs.length))] H = some (.sl H.length 0 xs.length, H ++ [some ⟨120, .wr, xs.map Wire.enc⟩]) := by
  refine run_walk ok46 Tryd.func46 rfl (by simp [Tryd.f46]) fun Q hQ => ?_
  simp only [Tryd.f46, strip, stripL, stripI, stripG, chkT, tagsB, tagsL, tagD, addT, tagA, lookN, tagOp, elmT, ty32, ty37, ty43, ty48, ty56, ty57, ty58, ty59, ty65, ty66, ty67, ty74, ty80, ty97, Nat.reduceEqDiff, if_false, reduceIte, Option.getD_some, Option.getD_none, dstAt, dstOk, Nat.reduceLT, decide_true, if_true]
  have k1 : (xs.length : Int) * 96 ≤ 281474976710656 := by omega
  have k2 : (xs.length : Int) ≤ 9223372036854775807 := by omega
  have k3 : (xs.length : Int) ≤ 281474976710656 := by omega
  simp [builtinV, pureB, lenV, makeSliceV, makeSliceR, newBlk, k1, k2, k3]
  refine wpS_loop (fun j tm H' => ∃ i, i + j = xs.length ∧ tm 0 = .w (.lf (.sl a xs.length)) ∧ tm 3 = .sl H.length 0 xs.length ∧ tm 4 = .int i ∧ H' = H ++ [some ⟨120, .wr, fillR (xs.map Wire.enc) Wire.z i j⟩]) xs.length (by rw [env_K]; omega) ⟨0, by simp, by simp, by simp, by simp, by rw [fillR_zero _ _ (by simp)]⟩ ?_
  rintro j tm H' hj ⟨i, hij, h0, h3, h4, rfl⟩ Q' hn' he' hr'
  simp [h0, h3, h4, builtinV, pureB, lenV]
  refine selS_intro (fun hc => ?_) (fun hc => ?_)
  · simp at hc
    obtain ⟨j, rfl⟩ : ∃ j', j = j' + 1 := ⟨j - 1, by omega⟩
    obtain ⟨id, r, b, rfl, hb, hbe, hrow⟩ := h i _ (by simp [hc]; rfl)
    have hid := blkAt_len hb
    have g2 := fillR_get (ys := xs.map Wire.enc) (z := Wire.z) (i := i) (j := j) (by simpa using hij)
    have g3 := fillR_set (ys := xs.map Wire.enc) (z := Wire.z) (i := i) (j := j) (y := Wire.enc xs[i]) (by simpa using hij) (by simp [hc])
    have g4 : IntKind.i64.wrap ((i : Int) + 1) = (i : Int) + 1 := wrap64 (by omega) (by omega)
    simp [h0, h3, h4, indexAddrV, elemIs, hid, hb, hbe, hc, hrow, toWire, g2, g3, g4]
    exact hn' j _ _ (by omega) ⟨i + 1, by omega, by simp [h0], by simp [h3], by simp, by simpa using congrArg (fun r => H ++ [some (⟨120, .wr, r⟩ : Blk)]) g3⟩
  · simp at hc
    have hj0 : j = 0 := by omega
    subst hj0
    simp [h0, h3, h4]
    refine he' _ _ _ ?_
    simp [h3]
    refine hQ _ _ _ (by simp) ?_
    simp [Tryd.f46, leave, fillR_done (ys := xs.map Wire.enc) (i := i) (z := Wire.z) (by simpa using hij), refFree]

theorem szWireS (H : Heap) (a : Option (Nat × Nat)) (n : Nat) (left : Int) (h1 : 0 ≤ left) (h2 : left ≤ 1048576) (h3 : n ≤ maxLen) :
    run env 41 [.w (.lf (.sl a n)), .int left] H = some (.int (if left < n then -1 else left - n), H) := by
  have hm : (n : Int) ≤ 9223372036854775807 := by unfold maxLen at h3; omega
  refine run_walk ok41 Tryd.func41 rfl (by simp [Tryd.f41]) fun Q hQ => ?_
  simp only [Tryd.f41, strip, stripL, stripI, stripG, chkT, tagsB, tagsL, tagD, addT, tagA, lookN, tagOp, elmT, ty32, ty37, ty43, ty48, ty56, ty57, ty58, ty59, ty65, ty66, ty67, ty74, ty80, ty97, Nat.reduceEqDiff, if_false, reduceIte, Option.getD_some, Option.getD_none, dstAt, dstOk, Nat.reduceLT, decide_true, if_true]
  have g : IntKind.i64.wrap (left - n) = left - n := wrap64 (by omega) (by omega)
  simp [builtinV, pureB, lenV, g]
  repeat' (first | (refine gdL_t (fun h => ?_) (fun h => ?_) <;> simp [h]) | (refine gdL_f (fun h => ?_) (fun h => ?_) <;> simp [h]) | (refine selS_intro (fun h => ?_) (fun h => ?_) <;> simp [h]))
  all_goals (refine hQ _ _ _ (by simp) ?_)
  all_goals (clear hQ; simp_all [Tryd.f41] <;> omega)

theorem eqWireS (H : Heap) (a b : Option (Nat × Nat)) (xs ys : List Wire) (ha : Sl H 120 a (xs.map Wire.enc)) (hb : Sl H 120 b (ys.map Wire.enc)) (hn : xs.length ≤ 1048576) :
    run env 54 [.w (.lf (.sl a xs.length)), .w (.lf (.sl b ys.length))] H = some (.bool (decide (xs = ys)), H) := by
  refine run_walk ok54 Tryd.func54 rfl (by simp [Tryd.f54]) fun Q hQ => ?_
  simp only [Tryd.f54, strip, stripL, stripI, stripG, chkT, tagsB, tagsL, tagD, addT, tagA, lookN, tagOp, elmT, ty32, ty37, ty43, ty48, ty56, ty57, ty58, ty59, ty65, ty66, ty67, ty74, ty80, ty97, Nat.reduceEqDiff, if_false, reduceIte, Option.getD_some, Option.getD_none, dstAt, dstOk, Nat.reduceLT, decide_true, if_true]
  simp [builtinV, pureB, lenV]
  refine selS_intro (fun hl => ?_) (fun hl => ?_)
  · simp
    refine hQ _ _ _ (by simp) ?_
    simp at hl
    have : ¬ xs = ys := fun h => hl (by rw [h])
    simp [Tryd.f54, this]
  simp at hl
  simp
  refine wpS_loop (fun j tm H' => ∃ i, i + j = xs.length ∧ tm 0 = .w (.lf (.sl a xs.length)) ∧ tm 1 = .w (.lf (.sl b ys.length)) ∧ tm 5 = .int i ∧ H' = H ∧ xs.take i = ys.take i) xs.length (by rw [env_K]; omega) ⟨0, by simp, by simp, by simp, by simp, rfl, by simp⟩ ?_
  rintro j tm H' hj ⟨i, hij, h0, h1, h5, rfl, heq⟩ Q' hn' he' hr'
  simp [h0, h1, h5, builtinV, pureB, lenV]
  refine selS_intro (fun hc => ?_) (fun hc => ?_)
  · simp at hc
    have hc2 : i < ys.length := by omega
    obtain ⟨id, r, bl, rfl, hbl, hbe, hrow⟩ := ha i _ (by simp [hc]; rfl)
    obtain ⟨id2, r2, bl2, rfl, hbl2, hbe2, hrow2⟩ := hb i _ (by simp [hc2]; rfl)
    have g4 : IntKind.i64.wrap ((i : Int) + 1) = (i : Int) + 1 := wrap64 (by omega) (by omega)
    simp [h0, h1, h5, indexAddrV, elemIs, hbl, hbe, hbl2, hbe2, hc, hc2, hrow, hrow2, eqWire]
    refine selS_intro (fun hd => ?_) (fun hd => ?_)
    · simp
      refine hr' _ _ ?_
      simp
      refine hQ _ _ _ (by simp) ?_
      simp at hd
      have : ¬ xs = ys := fun h => by subst h; simp at hd
      simp [Tryd.f54, this]
    · simp at hd
      simp [h0, h1, h5, g4]
      exact hn' (j - 1) _ _ (by omega) ⟨i + 1, by omega, by simp [h0], by simp [h1], by simp, rfl, by rw [List.take_add_one, List.take_add_one, heq]; simp [hc, hc2, hd]⟩
  · simp at hc
    simp [h0, h1, h5]
    refine he' _ _ _ ?_
    simp
    refine hQ _ _ _ (by simp) ?_
    have : xs = ys := by
      rw [List.take_of_length_le (by omega), List.take_of_length_le (by omega)] at heq
      exact heq
    simp [Tryd.f54, this]

abbrev IsWireS := IsSl 120 Wire.enc
abbrev RdWireS := RdSl 120 Wire.enc
abbrev RdLWireS := RdSl 123 Wire.enc
def WireS.mk' (xs : List Wire) (k : Int) : List Wire := marked Wire.mk' 12 xs.length k
def WireS.mkN (xs : List Wire) (k : Int) : Int := k + 12 * xs.length
def WireS.hd (xs : List Wire) (k : Int) : Int := heldL Wire.mk' 12 xs k
theorem WireS.hd_mk (xs : List Wire) (k : Int) : WireS.hd (WireS.mk' xs k) k = WireS.mkN xs k := by simp [WireS.hd, WireS.mk', WireS.mkN]
theorem WireS.mk_sz (xs : List Wire) (k : Int) : (WireS.mk' xs k).length = xs.length := by simp [WireS.mk']
theorem WireS.mkN_le {xs : List Wire} {k : Int} (h : xs.length ≤ 1048576) : k ≤ WireS.mkN xs k ∧ WireS.mkN xs k ≤ k + 1000000000 := by unfold WireS.mkN; omega

theorem shpWireS_is {H : Heap} {k : Nat} {l : List Lf} (h : Shp Tryd.prog H (k + 5) 57 l) : ∃ (q : Lf) (xs : List Wire), l = [q] ∧ RdLWireS H q xs ∧ xs.length ≤ maxLen := by
  obtain ⟨xs, a, rfl, hs, hl, -⟩ := h.sl (f := Wire.enc) (R := fun _ => True) Tryd.underlying57 fun row hr => let ⟨x, hx⟩ := shpWire hr; ⟨x, hx, trivial⟩
  exact ⟨_, xs, rfl, ⟨a, rfl, hs⟩, hl⟩

theorem toWireS_is {H : Heap} {q : Lf} {xs : List Wire} (h : RdLWireS H q xs) (hn : xs.length ≤ 1048576) : Runs env 46 [.w (.lf q)] H fun v H' => ∃ q' fp, v = .w (.lf q') ∧ IsWireS H' q' xs fp ∧ Fresh H H' fp := by
  obtain ⟨a, rfl, h⟩ := h
  exact .of (toWireS H a xs h hn) ⟨_, _, rfl, ⟨_, rfl, Own.of (by simp)⟩, Fresh.app _ _ (by simp)⟩

theorem eqWireS_is {H : Heap} {q r : Lf} {xs ys : List Wire} (h : RdWireS H q xs) (h2 : RdWireS H r ys) (hn : xs.length ≤ 1048576) : run env 54 [.w (.lf q), .w (.lf r)] H = some (.bool (decide (xs = ys)), H) := by
  obtain ⟨a, rfl, h⟩ := h
  obtain ⟨b, rfl, h2⟩ := h2
  exact eqWireS H a b xs ys h h2 hn

structure Bridge where
  id : Int
  ports : List Port
  deriving DecidableEq, Inhabited
def Bridge.enc (b : Bridge) (a : Option (Nat × Nat)) : List Lf := [.i .i64 b.id, .sl a b.ports.length]
@[simp] theorem Bridge.enc_len (b : Bridge) (a : Option (Nat × Nat)) : (b.enc a).length = 2 := rfl
@[simp] theorem Bridge.enc_take (b : Bridge) (a : Option (Nat × Nat)) : List.take 2 (b.enc a) = b.enc a := rfl

structure Minder where
  up : Bool
  life : Int
  epoch : Int
  log : List In
  said : Int
  acked : Int
  ackLife : Int
  deriving DecidableEq
def Minder.enc (m : Minder) (a : Option (Nat × Nat)) : List Lf := [.b m.up, .i .i64 m.life, .i .i64 m.epoch, .sl a m.log.length, .i .i64 m.said, .i .i64 m.acked, .i .i64 m.ackLife]
@[simp] theorem Minder.enc_len (m : Minder) (a : Option (Nat × Nat)) : (m.enc a).length = 7 := rfl
@[simp] theorem Minder.enc_take (m : Minder) (a : Option (Nat × Nat)) : List.take 7 (m.enc a) = m.enc a := rfl

theorem szMinder (H : Heap) (a : Option (Nat × Nat)) (m : Minder) (left : Int) (h1 : 0 ≤ left) (h2 : left ≤ 1048576) (h3 : m.log.length ≤ maxLen) :
    run env 10 [.agg (m.enc a), .int left] H = some (.int (if left < m.log.length then -1 else left - m.log.length), H) := by
  have e := fun H => szInS H a m.log.length left h1 h2 h3
  refine run_walk ok10 Tryd.func10 rfl (by simp [Tryd.f10]) fun Q hQ => ?_
  simp only [Tryd.f10, strip, stripL, stripI, stripG, chkT, tagsB, tagsL, tagD, addT, tagA, lookN, tagOp, elmT, ty32, ty37, ty43, ty48, ty56, ty57, ty58, ty59, ty65, ty66, ty67, ty74, ty80, ty97, Nat.reduceEqDiff, if_false, reduceIte, Option.getD_some, Option.getD_none, dstAt, dstOk, Nat.reduceLT, decide_true, if_true]
  simp [Minder.enc, e]
  repeat' (first | (refine gdL_t (fun h => ?_) (fun h => ?_) <;> simp [h]) | (refine gdL_f (fun h => ?_) (fun h => ?_) <;> simp [h]) | (refine selS_intro (fun h => ?_) (fun h => ?_) <;> simp [h]))
  all_goals (refine hQ _ _ _ (by simp) ?_)
  all_goals (clear hQ; simp_all [Tryd.f10] <;> omega)

theorem toMinder (H : Heap) (a : Option (Nat × Nat)) (m : Minder) (h : Sl H 116 a (m.log.map In.enc)) (hn : m.log.length ≤ 1048576) :
    Runs env 12 [.agg (m.enc a)] H fun v H' => ∃ a' fp, v = .agg (m.enc a') ∧ Own H' 113 a' (m.log.map In.enc) fp ∧ Fresh H H' fp := by
  have e := fun H h => toInS H a m.log h hn
  refine Runs.walk ok12 Tryd.func12 rfl (by simp [Tryd.f12]) fun Q hQ => ?_
  simp only [Tryd.f12, strip, stripL, stripI, stripG, chkT, tagsB, tagsL, tagD, addT, tagA, lookN, tagOp, elmT, ty32, ty37, ty43, ty48, ty56, ty57, ty58, ty59, ty65, ty66, ty67, ty74, ty80, ty97, Nat.reduceEqDiff, if_false, reduceIte, Option.getD_some, Option.getD_none, dstAt, dstOk, Nat.reduceLT, decide_true, if_true]
  simp [Minder.enc]
  rw [e _ (by simpa using h.app _)]
  simp
  refine hQ _ _ _ (by simp) ?_
  simp [Tryd.f12, leave, refFree, Minder.enc]
  exact ⟨_, Own.of (by simp), Fresh.app _ _ (by simp)⟩

theorem eqMinder (H : Heap) (a b : Option (Nat × Nat)) (m n : Minder) (ha : Sl H 113 a (m.log.map In.enc)) (hb : Sl H 113 b (n.log.map In.enc)) (hn : m.log.length ≤ 1048576) :
    run env 14 [.agg (m.enc a), .agg (n.enc b)] H = some (.bool (decide (m = n)), H) := by
  have e := fun G => eqInS (H ++ G) a b m.log n.log (ha.app _) (hb.app _) hn
  obtain ⟨a1, a2, a3, a4, a5, a6, a7⟩ := m
  obtain ⟨b1, b2, b3, b4, b5, b6, b7⟩ := n
  simp only at e
  refine run_walk ok14 Tryd.func14 rfl (by simp [Tryd.f14]) fun Q hQ => ?_
  simp only [Tryd.f14, strip, stripL, stripI, stripG, chkT, tagsB, tagsL, tagD, addT, tagA, lookN, tagOp, elmT, ty32, ty37, ty43, ty48, ty56, ty57, ty58, ty59, ty65, ty66, ty67, ty74, ty80, ty97, Nat.reduceEqDiff, if_false, reduceIte, Option.getD_some, Option.getD_none, dstAt, dstOk, Nat.reduceLT, decide_true, if_true]
  simp [Minder.enc]
  repeat' (first | (refine gdL_t (fun h => ?_) (fun h => ?_) <;> simp [h, e]) | (refine gdL_f (fun h => ?_) (fun h => ?_) <;> simp [h, e]) | (refine selS_intro (fun h => ?_) (fun h => ?_) <;> simp [h, e]))
  all_goals (refine hQ _ _ _ (by simp) ?_)
  all_goals (clear hQ; simp_all [Tryd.f14])

def IsBridge (H : Heap) (l : List Lf) (x : Bridge) (fp : List Nat) : Prop := ∃ a, l = x.enc a ∧ Own H 29 a (x.ports.map Port.enc) fp
def RdBridge (H : Heap) (l : List Lf) (x : Bridge) : Prop := ∃ a, l = x.enc a ∧ Sl H 29 a (x.ports.map Port.enc)
def RdLBridge (H : Heap) (l : List Lf) (x : Bridge) : Prop := ∃ a, l = x.enc a ∧ Sl H 25 a (x.ports.map Port.enc)
abbrev Bridge.sz (x : Bridge) : Nat := x.ports.length
def Bridge.fit (x : Bridge) : Prop := x.ports.length ≤ maxLen
section
variable {H H' : Heap} {l : List Lf} {x : Bridge} {fp : List Nat}
theorem IsBridge.keep {f : List Nat} (h : IsBridge H l x fp) (hk : Keep f H H') (hd : ∀ i ∈ fp, i ∉ f) : IsBridge H' l x fp := let ⟨a, h1, h2⟩ := h; ⟨a, h1, h2.keep hk hd⟩
theorem IsBridge.app (h : IsBridge H l x fp) (G : Heap) : IsBridge (H ++ G) l x fp := let ⟨a, h1, h2⟩ := h; ⟨a, h1, h2.app G⟩
theorem IsBridge.lt (h : IsBridge H l x fp) : ∀ i ∈ fp, i < H.length := let ⟨_, _, h2⟩ := h; h2.lt
theorem IsBridge.nodup (h : IsBridge H l x fp) : fp.Nodup := let ⟨_, _, h2⟩ := h; h2.nodup
theorem IsBridge.rd (h : IsBridge H l x fp) : RdBridge H l x := let ⟨a, h1, h2⟩ := h; ⟨a, h1, h2.sl⟩
theorem RdBridge.base (h : RdBridge H l x) (hk : Keep [] H H') : RdBridge H' l x := let ⟨a, h1, h2⟩ := h; ⟨a, h1, h2.keep hk (by simp)⟩
theorem RdBridge.app (h : RdBridge H l x) (G : Heap) : RdBridge (H ++ G) l x := h.base (Keep.app _ _ _)
theorem RdLBridge.base (h : RdLBridge H l x) (hk : Keep [] H H') : RdLBridge H' l x := let ⟨a, h1, h2⟩ := h; ⟨a, h1, h2.keep hk (by simp)⟩
theorem RdLBridge.app (h : RdLBridge H l x) (G : Heap) : RdLBridge (H ++ G) l x := h.base (Keep.app _ _ _)
theorem IsBridge.len (h : IsBridge H l x fp) : l.length = 2 := by obtain ⟨a, rfl, -⟩ := h; rfl
theorem RdLBridge.len (h : RdLBridge H l x) : l.length = 2 := by obtain ⟨a, rfl, -⟩ := h; rfl
theorem RdBridge.len (h : RdBridge H l x) : l.length = 2 := by obtain ⟨a, rfl, -⟩ := h; rfl
theorem IsBridge.free (h : IsBridge H' l x fp) (hr : l.all refFree = true) (H2 : Heap) : IsBridge H2 l x [] := by
  obtain ⟨a, rfl, h2⟩ := h
  exact ⟨a, rfl, h2.free (n := x.ports.length) (by simp [Bridge.enc] at hr; exact hr) H2⟩
theorem IsBridge.leave {ws : List W} (h : IsBridge H' l x fp) (hf : Fresh H H' fp) (hw : ws.all W.free = true → l.all refFree = true) : ∃ fp', IsBridge (leave H H' ws) l x fp' ∧ Fresh H (leave H H' ws) fp' := by
  rcases leave_opt H H' ws with e | ⟨e, hr⟩ <;> rw [e]
  · exact ⟨fp, h, hf⟩
  · exact ⟨[], h.free (hw hr) H, Fresh.refl H⟩
end

def IsMinder (H : Heap) (l : List Lf) (x : Minder) (fp : List Nat) : Prop := ∃ a, l = x.enc a ∧ Own H 113 a (x.log.map In.enc) fp
def RdMinder (H : Heap) (l : List Lf) (x : Minder) : Prop := ∃ a, l = x.enc a ∧ Sl H 113 a (x.log.map In.enc)
def RdLMinder (H : Heap) (l : List Lf) (x : Minder) : Prop := ∃ a, l = x.enc a ∧ Sl H 116 a (x.log.map In.enc)
abbrev Minder.sz (x : Minder) : Nat := x.log.length
def Minder.fit (x : Minder) : Prop := x.log.length ≤ maxLen
section
variable {H H' : Heap} {l : List Lf} {x : Minder} {fp : List Nat}
theorem IsMinder.keep {f : List Nat} (h : IsMinder H l x fp) (hk : Keep f H H') (hd : ∀ i ∈ fp, i ∉ f) : IsMinder H' l x fp := let ⟨a, h1, h2⟩ := h; ⟨a, h1, h2.keep hk hd⟩
theorem IsMinder.app (h : IsMinder H l x fp) (G : Heap) : IsMinder (H ++ G) l x fp := let ⟨a, h1, h2⟩ := h; ⟨a, h1, h2.app G⟩
theorem IsMinder.lt (h : IsMinder H l x fp) : ∀ i ∈ fp, i < H.length := let ⟨_, _, h2⟩ := h; h2.lt
theorem IsMinder.nodup (h : IsMinder H l x fp) : fp.Nodup := let ⟨_, _, h2⟩ := h; h2.nodup
theorem IsMinder.rd (h : IsMinder H l x fp) : RdMinder H l x := let ⟨a, h1, h2⟩ := h; ⟨a, h1, h2.sl⟩
theorem RdMinder.base (h : RdMinder H l x) (hk : Keep [] H H') : RdMinder H' l x := let ⟨a, h1, h2⟩ := h; ⟨a, h1, h2.keep hk (by simp)⟩
theorem RdMinder.app (h : RdMinder H l x) (G : Heap) : RdMinder (H ++ G) l x := h.base (Keep.app _ _ _)
theorem RdLMinder.base (h : RdLMinder H l x) (hk : Keep [] H H') : RdLMinder H' l x := let ⟨a, h1, h2⟩ := h; ⟨a, h1, h2.keep hk (by simp)⟩
theorem RdLMinder.app (h : RdLMinder H l x) (G : Heap) : RdLMinder (H ++ G) l x := h.base (Keep.app _ _ _)
theorem IsMinder.len (h : IsMinder H l x fp) : l.length = 7 := by obtain ⟨a, rfl, -⟩ := h; rfl
theorem RdLMinder.len (h : RdLMinder H l x) : l.length = 7 := by obtain ⟨a, rfl, -⟩ := h; rfl
theorem RdMinder.len (h : RdMinder H l x) : l.length = 7 := by obtain ⟨a, rfl, -⟩ := h; rfl
theorem IsMinder.free (h : IsMinder H' l x fp) (hr : l.all refFree = true) (H2 : Heap) : IsMinder H2 l x [] := by
  obtain ⟨a, rfl, h2⟩ := h
  exact ⟨a, rfl, h2.free (n := x.log.length) (by simp [Minder.enc] at hr; exact hr) H2⟩
theorem IsMinder.leave {ws : List W} (h : IsMinder H' l x fp) (hf : Fresh H H' fp) (hw : ws.all W.free = true → l.all refFree = true) : ∃ fp', IsMinder (leave H H' ws) l x fp' ∧ Fresh H (leave H H' ws) fp' := by
  rcases leave_opt H H' ws with e | ⟨e, hr⟩ <;> rw [e]
  · exact ⟨fp, h, hf⟩
  · exact ⟨[], h.free (hw hr) H, Fresh.refl H⟩
end

theorem szMinder_is {H : Heap} {l : List Lf} {x : Minder} (h : RdLMinder H l x) (hf : x.fit) {left : Int} (h1 : 0 ≤ left) (h2 : left ≤ 1048576) (G : Heap) :
    run env 10 [.agg l, .int left] (H ++ G) = some (.int (if left < x.sz then -1 else left - x.sz), H ++ G) := by
  obtain ⟨a, rfl, h⟩ := h
  exact szMinder _ a x left h1 h2 hf

theorem toMinder_is {H : Heap} {l : List Lf} {x : Minder} (h : RdLMinder H l x) (hn : x.sz ≤ 1048576) : Runs env 12 [.agg l] H fun v H' => ∃ l' fp, v = .agg l' ∧ IsMinder H' l' x fp ∧ Fresh H H' fp := by
  obtain ⟨a, rfl, h⟩ := h
  exact (toMinder H a x h hn).mono fun v H' ⟨a', fp, h1, h2, h3⟩ => ⟨_, fp, h1, ⟨a', rfl, h2⟩, h3⟩

theorem eqMinder_is {H : Heap} {l r : List Lf} {x y : Minder} (h : RdMinder H l x) (h2 : RdMinder H r y) (hn : x.sz ≤ 1048576) : run env 14 [.agg l, .agg r] H = some (.bool (decide (x = y)), H) := by
  obtain ⟨a, rfl, h⟩ := h
  obtain ⟨b, rfl, h2⟩ := h2
  exact eqMinder H a b x y h h2 hn

def gates (b : Bridge) : List Bool := b.ports.map Port.opn
@[simp] theorem gates_len (b : Bridge) : (gates b).length = b.ports.length := by simp [gates]

theorem okMinder : RepOk IsMinder := ⟨fun h hk hd => h.keep hk hd, fun h => h.lt, fun h => h.nodup⟩
theorem unMinder : UnOk IsMinder := fun ⟨a, h1, h2⟩ hf => ⟨a, h1, h2.unapp hf⟩
abbrev IsMinderS := IsL 39 IsMinder
abbrev RdMinderS := RdL 39 RdMinder
abbrev RdLMinderS := RdL 34 RdLMinder
def MinderS.sz (xs : List Minder) : Nat := xs.length + (xs.map Minder.sz).sum
theorem MinderS.sz_len (xs : List Minder) : xs.length ≤ MinderS.sz xs := by unfold MinderS.sz; omega
theorem MinderS.sz_at {xs : List Minder} {x : Minder} (h : x ∈ xs) : x.sz ≤ MinderS.sz xs := by
  have key : ∀ {ys : List Minder}, x ∈ ys → x.sz ≤ (ys.map Minder.sz).sum := by
    intro ys hy
    induction ys with
    | nil => simp at hy
    | cons y ys ih =>
      simp only [List.map_cons, List.sum_cons]
      rcases List.mem_cons.1 hy with rfl | hy
      · omega
      · have := ih hy; omega
  have := key h
  unfold MinderS.sz
  omega
def MinderS.ps (xs : List Minder) (i : Nat) : Nat := ((xs.take i).map Minder.sz).sum
theorem MinderS.ps_zero (xs : List Minder) : MinderS.ps xs 0 = 0 := by simp [MinderS.ps]
theorem MinderS.ps_succ (xs : List Minder) {i : Nat} (h : i < xs.length) : MinderS.ps xs (i + 1) = MinderS.ps xs i + xs[i].sz := by
  unfold MinderS.ps
  rw [List.take_add_one, List.getElem?_eq_getElem h, List.map_append, List.sum_append]
  simp
theorem MinderS.ps_le (xs : List Minder) (i : Nat) : xs.length + MinderS.ps xs i ≤ MinderS.sz xs := by
  have := congrArg (fun l => (l.map Minder.sz).sum) (List.take_append_drop i xs)
  simp only [List.map_append, List.sum_append] at this
  unfold MinderS.ps MinderS.sz
  omega
theorem MinderS.ps_len (xs : List Minder) : xs.length + MinderS.ps xs xs.length = MinderS.sz xs := by unfold MinderS.ps MinderS.sz; rw [List.take_length]
def MinderS.fit (xs : List Minder) : Prop := xs.length ≤ maxLen ∧ ∀ x ∈ xs, x.fit
theorem RdMinderS_base {H H' : Heap} {q : Lf} {xs : List Minder} (h : RdMinderS H q xs) (hk : Keep [] H H') : RdMinderS H' q xs := RdL.base h (fun h hk => h.base hk) hk
theorem RdLMinderS_base {H H' : Heap} {q : Lf} {xs : List Minder} (h : RdLMinderS H q xs) (hk : Keep [] H H') : RdLMinderS H' q xs := RdL.base h (fun h hk => h.base hk) hk
theorem IsMinderS_rd {H : Heap} {q : Lf} {xs : List Minder} {fp : List Nat} (h : IsMinderS H q xs fp) : RdMinderS H q xs := IsL.rd h fun h => h.rd

theorem toMinderS_is {H : Heap} {q : Lf} {xs : List Minder} (h : RdLMinderS H q xs) (hn : MinderS.sz xs ≤ 1048576) :
    Runs env 45 [.w (.lf q)] H fun v H' => ∃ q' fp, v = .w (.lf q') ∧ IsMinderS H' q' xs fp ∧ Fresh H H' fp := by
  have hR := h
  obtain ⟨a, rws, rfl, hs, hlen, hat⟩ := h
  have hl := MinderS.sz_len xs
  refine Runs.walk ok45 Tryd.func45 rfl (by simp [Tryd.f45]) fun Q hQ => ?_
  simp only [Tryd.f45, strip, stripL, stripI, stripG, chkT, tagsB, tagsL, tagD, addT, tagA, lookN, tagOp, elmT, ty32, ty37, ty43, ty48, ty56, ty57, ty58, ty59, ty65, ty66, ty67, ty74, ty80, ty97, Nat.reduceEqDiff, if_false, reduceIte, Option.getD_some, Option.getD_none, dstAt, dstOk, Nat.reduceLT, decide_true, if_true]
  have k1 : (xs.length : Int) * 72 ≤ 281474976710656 := by omega
  have k2 : (xs.length : Int) ≤ 9223372036854775807 := by omega
  simp [builtinV, pureB, lenV, makeSliceV, makeSliceR, newBlk, k1, k2]
  obtain ⟨z, hz⟩ : ∃ z, z = ([.b false, .i .i64 0, .i .i64 0, .sl none 0, .i .i64 0, .i .i64 0, .i .i64 0] : List Lf) := ⟨_, rfl⟩
  refine wpS_loop (fun j tm H' => ∃ i rows fps, i + j = xs.length ∧ tm 0 = .w (.lf (.sl a xs.length)) ∧ tm 3 = .sl H.length 0 xs.length ∧ tm 4 = .int i ∧ blkAt H' H.length = some ⟨39, .wr, rows ++ List.replicate j z⟩ ∧ Part IsMinder H' rows (xs.take i) fps ∧ (∀ k ∈ fps.flatten, H.length < k) ∧ Keep [] H H') xs.length (by rw [env_K]; omega)
    ⟨0, [], [], by simp, by simp, by simp, by simp, by simp [hz], Part.nil _ _, by simp, Keep.app _ _ _⟩ ?_
  rintro j tm H' hj ⟨i, rows, fps, hij, t0, t3, t4, hb, hp, hlo, hk⟩ Q' hn' he' hr'
  simp [t0, t3, t4, builtinV, pureB, lenV]
  refine selS_intro (fun hc => ?_) (fun hc => ?_)
  · simp at hc
    obtain ⟨j, rfl⟩ : ∃ j', j = j' + 1 := ⟨j - 1, by omega⟩
    have hri : i < rws.length := by omega
    obtain ⟨id, r, bl, rfl, hbl, hbe, hrow⟩ := hs i _ (List.getElem?_eq_getElem hri)
    have he := hat i _ _ (List.getElem?_eq_getElem hri) (List.getElem?_eq_getElem hc)
    have hL := he.len
    have hT : rws[i].take rws[i].length = rws[i] := List.take_length
    rw [hL] at hT
    have hbl' := hk.blk hbl (by simp)
    have hbH := blkAt_len hb
    have g4 : IntKind.i64.wrap ((i : Int) + 1) = (i : Int) + 1 := wrap64 (by omega) (by omega)
    simp [t0, t3, t4, indexAddrV, elemIs, hbl', hbe, hc, hrow, hL, hT]
    have hsz := MinderS.sz_at (List.getElem_mem hc)
    refine stpL_runs (toMinder_is (he.base hk) (by omega)) ?_
    rintro _ H2 ⟨l2, f2, rfl, o2, fr2⟩
    have hb2 := fr2.kp.blk hb (by simp)
    have hb2L := blkAt_len hb2
    have hl2 := o2.len
    have hrl : rows.length = i := by rw [hp.len]; simp; omega
    have hget : (rows ++ List.replicate (j + 1) z)[i]? = some z := by
      rw [List.getElem?_append_right (by omega), hrl]; simp
    have hset : (rows ++ List.replicate (j + 1) z).set i l2 = (rows ++ [l2]) ++ List.replicate j z := by
      rw [List.set_append_right _ _ (by omega), hrl]; simp [List.replicate_succ]
    have hzl : z.length = 7 := by rw [hz]; rfl
    have hdrop : z.drop 7 = [] := by rw [hz]; rfl
    simp [t0, t3, t4, indexAddrV, hb2, hb2L, hget, hl2, hzl, hdrop, hset, hc, elemIs, g4]
    refine hn' j _ _ (by omega) ⟨i + 1, rows ++ [l2], fps ++ [f2], by omega, by simp [t0], by simp [t3], by simp, ?_, ?_, ?_, ?_⟩
    · rw [blkAt_set hb2L]; simp
    · have hd := hp.lt okMinder
      have h1 := (hp.keep okMinder fr2.kp (by simp)).snoc (x := xs[i]) okMinder o2 (fun k hk' hk2 => by have := hd k hk2; have := fr2.2 k hk'; omega)
      have h2 := h1.keep okMinder (Keep.set (id := H.length) H2 (some ⟨39, .wr, (rows ++ [l2]) ++ List.replicate j z⟩)) (fun k hk' => by
        simp at hk'
        rcases hk' with ⟨g, hg, hkg⟩ | hk'
        · have := hlo k (List.mem_flatten.2 ⟨g, hg, hkg⟩); simp; omega
        · have := fr2.2 k hk'; simp; omega)
      rw [List.take_add_one, List.getElem?_eq_getElem hc]
      simpa using h2
    · intro k hk'
      simp at hk'
      rcases hk' with ⟨g, hg, hkg⟩ | hk'
      · exact hlo k (List.mem_flatten.2 ⟨g, hg, hkg⟩)
      · have := fr2.2 k hk'; omega
    · exact (hk.next fr2.kp (by simp)).next (Keep.set _ _) (by simp)
  · simp at hc
    have hj0 : j = 0 := by omega
    subst hj0
    simp [t0, t3, t4]
    refine he' _ _ _ ?_
    simp [t3]
    refine hQ _ _ _ (by simp) ?_
    have hi : i = xs.length := by omega
    subst hi
    rw [List.take_length] at hp
    simp [Tryd.f45]
    have ho : IsMinderS H' (.sl (some (H.length, 0)) xs.length) xs ([H.length] ++ fps.flatten) := ⟨_, rows, [H.length], fps, rfl, Own.of (by simpa using hb), hp, rfl, by
      simp only [List.singleton_append, List.nodup_cons]
      exact ⟨fun hm => by have := hlo _ hm; omega, hp.nodup⟩⟩
    have hf : Fresh H H' ([H.length] ++ fps.flatten) := ⟨hk.ext, fun k hk' => by
      simp only [List.singleton_append, List.mem_cons] at hk'
      rcases hk' with rfl | hk'
      · exact Nat.le_refl _
      · have := hlo k hk'; omega⟩
    rcases leave_opt H H' [W.lf (Lf.sl (some (H.length, 0)) xs.length)] with e | ⟨e, hr⟩
    · rw [e]; exact ⟨_, ho, hf⟩
    · simp [refFree] at hr

theorem szMinderS_is {H : Heap} {q : Lf} {xs : List Minder} (h : RdLMinderS H q xs) (hf : MinderS.fit xs) {left : Int} (h1 : 0 ≤ left) (h2 : left ≤ 1048576) :
    run env 40 [.w (.lf q), .int left] H = some (.int (if left < MinderS.sz xs then -1 else left - MinderS.sz xs), H) := by
  obtain ⟨a, rws, rfl, hs, hlen, hat⟩ := h
  have hm : (xs.length : Int) ≤ 9223372036854775807 := by have := hf.1; unfold maxLen at this; omega
  have hS := MinderS.ps_le xs
  refine run_walk ok40 Tryd.func40 rfl (by simp [Tryd.f40]) fun Q hQ => ?_
  simp only [Tryd.f40, strip, stripL, stripI, stripG, chkT, tagsB, tagsL, tagD, addT, tagA, lookN, tagOp, elmT, ty32, ty37, ty43, ty48, ty56, ty57, ty58, ty59, ty65, ty66, ty67, ty74, ty80, ty97, Nat.reduceEqDiff, if_false, reduceIte, Option.getD_some, Option.getD_none, dstAt, dstOk, Nat.reduceLT, decide_true, if_true]
  have g : IntKind.i64.wrap (left - xs.length) = left - xs.length := wrap64 (by omega) (by omega)
  simp [builtinV, pureB, lenV, g]
  refine selS_intro (fun hc => ?_) (fun hc => ?_)
  · simp at hc
    simp
    refine hQ _ _ _ (by simp) ?_
    simp [Tryd.f40, MinderS.sz]
    omega
  simp at hc
  simp
  refine wpS_loop (fun j tm H' => ∃ i, i + j = xs.length ∧ tm 0 = .w (.lf (.sl a xs.length)) ∧ tm 1 = .int (left - xs.length - MinderS.ps xs i) ∧ tm 5 = .int i ∧ H' = H ∧ 0 ≤ left - xs.length - MinderS.ps xs i) xs.length (by rw [env_K]; omega)
    ⟨0, by simp, by simp, by simp [MinderS.ps_zero], by simp, rfl, by rw [MinderS.ps_zero]; omega⟩ ?_
  rintro j tm H' hj ⟨i, hij, t0, t1, t5, rfl, hpos⟩ Q' hn' he' hr'
  simp [t0, t1, t5, builtinV, pureB, lenV]
  refine selS_intro (fun hc => ?_) (fun hc => ?_)
  · simp at hc
    have hri : i < rws.length := by omega
    obtain ⟨id, r, bl, rfl, hbl, hbe, hrow⟩ := hs i _ (List.getElem?_eq_getElem hri)
    have he := hat i _ _ (List.getElem?_eq_getElem hri) (List.getElem?_eq_getElem hc)
    have hL := he.len
    have hT : rws[i].take rws[i].length = rws[i] := List.take_length
    rw [hL] at hT
    have g4 : IntKind.i64.wrap ((i : Int) + 1) = (i : Int) + 1 := wrap64 (by omega) (by omega)
    have es := szMinder_is he (hf.2 _ (List.getElem_mem hc)) hpos (by omega) []
    simp only [List.append_nil] at es
    have hS1 := MinderS.ps_succ xs hc
    have hS2 := hS (i + 1)
    simp [t0, t1, t5, indexAddrV, elemIs, hbl, hbe, hc, hrow, hL, hT, es]
    by_cases hb : left - (xs.length : Int) - (MinderS.ps xs i : Int) < (xs[i].sz : Int)
    · simp [hb]
      refine hr' _ _ ?_
      simp
      refine hQ _ _ _ (by simp) ?_
      simp [Tryd.f40]
      omega
    · have hz : ¬ (left - (xs.length : Int) - (MinderS.ps xs i : Int) - (xs[i].sz : Int) < 0) := by omega
      simp [hb, hz, t0, t1, t5, g4]
      exact hn' (j - 1) _ _ (by omega) ⟨i + 1, by omega, by simp [t0], by simp [hS1]; omega, by simp, rfl, by omega⟩
  · simp at hc
    simp [t0, t1, t5]
    refine he' _ _ _ ?_
    simp [t1]
    refine hQ _ _ _ (by simp) ?_
    have hi : i = xs.length := by omega
    subst hi
    have hp := MinderS.ps_len xs
    simp [Tryd.f40]
    rw [if_neg (by omega)]
    omega

theorem eqMinderS_is {H : Heap} {q r : Lf} {xs ys : List Minder} (h : RdMinderS H q xs) (h2 : RdMinderS H r ys) (hn : MinderS.sz xs ≤ 1048576) : run env 53 [.w (.lf q), .w (.lf r)] H = some (.bool (decide (xs = ys)), H) := by
  obtain ⟨a, rws, rfl, hs, hlen, hat⟩ := h
  obtain ⟨b, rws2, rfl, hs2, hlen2, hat2⟩ := h2
  have hl := MinderS.sz_len xs
  refine run_walk ok53 Tryd.func53 rfl (by simp [Tryd.f53]) fun Q hQ => ?_
  simp only [Tryd.f53, strip, stripL, stripI, stripG, chkT, tagsB, tagsL, tagD, addT, tagA, lookN, tagOp, elmT, ty32, ty37, ty43, ty48, ty56, ty57, ty58, ty59, ty65, ty66, ty67, ty74, ty80, ty97, Nat.reduceEqDiff, if_false, reduceIte, Option.getD_some, Option.getD_none, dstAt, dstOk, Nat.reduceLT, decide_true, if_true]
  simp [builtinV, pureB, lenV]
  refine selS_intro (fun hl => ?_) (fun hl => ?_)
  · simp
    refine hQ _ _ _ (by simp) ?_
    simp at hl
    have : ¬ xs = ys := fun h => hl (by rw [h])
    simp [Tryd.f53, this]
  simp at hl
  simp
  refine wpS_loop (fun j tm H' => ∃ i, i + j = xs.length ∧ tm 0 = .w (.lf (.sl a xs.length)) ∧ tm 1 = .w (.lf (.sl b ys.length)) ∧ tm 5 = .int i ∧ H' = H ∧ xs.take i = ys.take i) xs.length (by rw [env_K]; omega) ⟨0, by simp, by simp, by simp, by simp, rfl, by simp⟩ ?_
  rintro j tm H' hj ⟨i, hij, h0, h1, h5, rfl, heq⟩ Q' hn' he' hr'
  simp [h0, h1, h5, builtinV, pureB, lenV]
  refine selS_intro (fun hc => ?_) (fun hc => ?_)
  · simp at hc
    have hc2 : i < ys.length := by omega
    have hri : i < rws.length := by omega
    have hri2 : i < rws2.length := by omega
    obtain ⟨id, r, bl, rfl, hbl, hbe, hrow⟩ := hs i _ (List.getElem?_eq_getElem hri)
    obtain ⟨id2, r2, bl2, rfl, hbl2, hbe2, hrow2⟩ := hs2 i _ (List.getElem?_eq_getElem hri2)
    have he := hat i _ _ (List.getElem?_eq_getElem hri) (List.getElem?_eq_getElem hc)
    have he2 := hat2 i _ _ (List.getElem?_eq_getElem hri2) (List.getElem?_eq_getElem hc2)
    have hL := he.len
    have hT : rws[i].take rws[i].length = rws[i] := List.take_length
    rw [hL] at hT
    have hL2 := he2.len
    have hT2 : rws2[i].take rws2[i].length = rws2[i] := List.take_length
    rw [hL2] at hT2
    have g4 : IntKind.i64.wrap ((i : Int) + 1) = (i : Int) + 1 := wrap64 (by omega) (by omega)
    have hsz := MinderS.sz_at (List.getElem_mem hc)
    have ee := eqMinder_is he he2 (by omega)
    simp [h0, h1, h5, indexAddrV, elemIs, hbl, hbe, hbl2, hbe2, hc, hc2, hrow, hrow2, hL, hT, hL2, hT2, ee]
    refine selS_intro (fun hd => ?_) (fun hd => ?_)
    · simp
      refine hr' _ _ ?_
      simp
      refine hQ _ _ _ (by simp) ?_
      simp at hd
      have : ¬ xs = ys := fun h => by subst h; simp at hd
      simp [Tryd.f53, this]
    · simp at hd
      simp [h0, h1, h5, g4]
      exact hn' (j - 1) _ _ (by omega) ⟨i + 1, by omega, by simp [h0], by simp [h1], by simp, rfl, by rw [List.take_add_one, List.take_add_one, heq]; simp [hc, hc2, hd]⟩
  · simp at hc
    simp [h0, h1, h5]
    refine he' _ _ _ ?_
    simp
    refine hQ _ _ _ (by simp) ?_
    have : xs = ys := by
      rw [List.take_of_length_le (by omega), List.take_of_length_le (by omega)] at heq
      exact heq
    simp [Tryd.f53, this]

structure Box where
  id : Int
  ports : Int
  reg : Reg
  two : List Minder
  net : List Wire
  gates : List Bool
  line : List In
  said : List Out
  deriving DecidableEq, Inhabited
def Box.enc (x : Box) (q0 q1 q2 q3 q4 : Lf) : List Lf := [.i .i64 x.id, .i .i64 x.ports, .i .i64 x.reg.epoch, .i .i64 x.reg.owner, .i .i64 x.reg.pair, q0, q1, q2, q3, q4]
@[simp] theorem Box.enc_len (x : Box) (q0 q1 q2 q3 q4 : Lf) : (x.enc q0 q1 q2 q3 q4).length = 10 := rfl
@[simp] theorem Box.enc_take (x : Box) (q0 q1 q2 q3 q4 : Lf) : List.take 10 (x.enc q0 q1 q2 q3 q4) = x.enc q0 q1 q2 q3 q4 := rfl

def IsBox (H : Heap) (l : List Lf) (x : Box) (fp : List Nat) : Prop := ∃ q0 q1 q2 q3 q4 f0 f1 f2 f3 f4, l = x.enc q0 q1 q2 q3 q4 ∧ IsMinderS H q0 x.two f0 ∧ IsWireS H q1 x.net f1 ∧ IsBoolS H q2 x.gates f2 ∧ IsInS H q3 x.line f3 ∧ IsOutS H q4 x.said f4 ∧ fp = f0 ++ (f1 ++ (f2 ++ (f3 ++ (f4)))) ∧ fp.Nodup
def RdBox (H : Heap) (l : List Lf) (x : Box) : Prop := ∃ q0 q1 q2 q3 q4, l = x.enc q0 q1 q2 q3 q4 ∧ RdMinderS H q0 x.two ∧ RdWireS H q1 x.net ∧ RdBoolS H q2 x.gates ∧ RdInS H q3 x.line ∧ RdOutS H q4 x.said
def RdLBox (H : Heap) (l : List Lf) (x : Box) : Prop := ∃ q0 q1 q2 q3 q4, l = x.enc q0 q1 q2 q3 q4 ∧ RdLMinderS H q0 x.two ∧ RdLWireS H q1 x.net ∧ RdLBoolS H q2 x.gates ∧ RdLInS H q3 x.line ∧ RdLOutS H q4 x.said
def Box.sz (x : Box) : Nat := MinderS.sz x.two + x.net.length + x.gates.length + x.line.length + x.said.length
def Box.fit (x : Box) : Prop := MinderS.fit x.two ∧ x.net.length ≤ maxLen ∧ x.gates.length ≤ maxLen ∧ x.line.length ≤ maxLen ∧ x.said.length ≤ maxLen
section
variable {H H' : Heap} {l : List Lf} {x : Box} {fp : List Nat}
theorem IsBox.keep {f : List Nat} (h : IsBox H l x fp) (hk : Keep f H H') (hd : ∀ i ∈ fp, i ∉ f) : IsBox H' l x fp := by
  obtain ⟨q0, q1, q2, q3, q4, f0, f1, f2, f3, f4, rfl, h0, h1, h2, h3, h4, rfl, hnd⟩ := h
  exact ⟨q0, q1, q2, q3, q4, f0, f1, f2, f3, f4, rfl, h0.keep okMinder hk (fun i hi => hd i (by simp [hi])), h1.keep hk (fun i hi => hd i (by simp [hi])), h2.keep hk (fun i hi => hd i (by simp [hi])), h3.keep hk (fun i hi => hd i (by simp [hi])), h4.keep hk (fun i hi => hd i (by simp [hi])), rfl, hnd⟩
theorem IsBox.app (h : IsBox H l x fp) (G : Heap) : IsBox (H ++ G) l x fp := h.keep (Keep.app [] H G) (by simp)
theorem IsBox.lt (h : IsBox H l x fp) : ∀ i ∈ fp, i < H.length := by
  obtain ⟨q0, q1, q2, q3, q4, f0, f1, f2, f3, f4, rfl, h0, h1, h2, h3, h4, rfl, hnd⟩ := h
  intro i hi
  simp at hi
  rcases hi with hi | hi | hi | hi | hi
  · exact h0.lt okMinder i hi
  · exact h1.lt i hi
  · exact h2.lt i hi
  · exact h3.lt i hi
  · exact h4.lt i hi
theorem IsBox.nodup (h : IsBox H l x fp) : fp.Nodup := by
  obtain ⟨q0, q1, q2, q3, q4, f0, f1, f2, f3, f4, rfl, h0, h1, h2, h3, h4, rfl, hnd⟩ := h
  exact hnd
theorem IsBox.rd (h : IsBox H l x fp) : RdBox H l x := by
  obtain ⟨q0, q1, q2, q3, q4, f0, f1, f2, f3, f4, rfl, h0, h1, h2, h3, h4, rfl, hnd⟩ := h
  exact ⟨q0, q1, q2, q3, q4, rfl, IsMinderS_rd h0, h1.rd, h2.rd, h3.rd, h4.rd⟩
theorem RdBox.base (h : RdBox H l x) (hk : Keep [] H H') : RdBox H' l x := by
  obtain ⟨q0, q1, q2, q3, q4, rfl, h0, h1, h2, h3, h4⟩ := h
  exact ⟨q0, q1, q2, q3, q4, rfl, RdMinderS_base h0 hk, h1.base hk, h2.base hk, h3.base hk, h4.base hk⟩
theorem RdBox.app (h : RdBox H l x) (G : Heap) : RdBox (H ++ G) l x := h.base (Keep.app _ _ _)
theorem RdBox.len (h : RdBox H l x) : l.length = 10 := by
  obtain ⟨q0, q1, q2, q3, q4, rfl, h0, h1, h2, h3, h4⟩ := h
  rfl
theorem RdLBox.base (h : RdLBox H l x) (hk : Keep [] H H') : RdLBox H' l x := by
  obtain ⟨q0, q1, q2, q3, q4, rfl, h0, h1, h2, h3, h4⟩ := h
  exact ⟨q0, q1, q2, q3, q4, rfl, RdLMinderS_base h0 hk, h1.base hk, h2.base hk, h3.base hk, h4.base hk⟩
theorem RdLBox.app (h : RdLBox H l x) (G : Heap) : RdLBox (H ++ G) l x := h.base (Keep.app _ _ _)
theorem RdLBox.len (h : RdLBox H l x) : l.length = 10 := by
  obtain ⟨q0, q1, q2, q3, q4, rfl, h0, h1, h2, h3, h4⟩ := h
  rfl
theorem IsBox.len (h : IsBox H l x fp) : l.length = 10 := by
  obtain ⟨q0, q1, q2, q3, q4, f0, f1, f2, f3, f4, rfl, h0, h1, h2, h3, h4, rfl, hnd⟩ := h
  rfl
theorem IsBox.free (h : IsBox H' l x fp) (hr : l.all refFree = true) (H2 : Heap) : IsBox H2 l x [] := by
  obtain ⟨q0, q1, q2, q3, q4, f0, f1, f2, f3, f4, rfl, h0, h1, h2, h3, h4, rfl, hnd⟩ := h
  simp [Box.enc] at hr
  have a0 : IsMinderS H2 q0 x.two [] := by
    obtain ⟨e1, e2⟩ := h0.empty hr.1
    rw [e1, e2]
    exact IsL.emp _ _ _
  have a1 : IsWireS H2 q1 x.net [] := h1.free hr.2.1 H2
  have a2 : IsBoolS H2 q2 x.gates [] := h2.free hr.2.2.1 H2
  have a3 : IsInS H2 q3 x.line [] := h3.free hr.2.2.2.1 H2
  have a4 : IsOutS H2 q4 x.said [] := h4.free hr.2.2.2.2 H2
  exact ⟨q0, q1, q2, q3, q4, [], [], [], [], [], rfl, a0, a1, a2, a3, a4, by simp, by simp⟩
theorem IsBox.leave {ws : List W} (h : IsBox H' l x fp) (hf : Fresh H H' fp) (hw : ws.all W.free = true → l.all refFree = true) : ∃ fp', IsBox (leave H H' ws) l x fp' ∧ Fresh H (leave H H' ws) fp' := by
  rcases leave_opt H H' ws with e | ⟨e, hr⟩ <;> rw [e]
  · exact ⟨fp, h, hf⟩
  · exact ⟨[], h.free (hw hr) H, Fresh.refl H⟩
end

theorem szBox_at {H : Heap} {l : List Lf} {x : Box} (h : RdLBox H l x) (hf : x.fit) {left : Int} (h1 : 0 ≤ left) (h2 : left ≤ 1048576) :
    run env 20 [.agg l, .int left] H = some (.int (if left < x.sz then -1 else left - x.sz), H) := by
  obtain ⟨q0, q1, q2, q3, q4, rfl, r0, r1, r2, r3, r4⟩ := h
  obtain ⟨t0, t1, t2, t3, t4⟩ := hf
  refine run_walk ok20 Tryd.func20 rfl (by simp [Tryd.f20]) fun Q hQ => ?_
  simp only [Tryd.f20, strip, stripL, stripI, stripG, chkT, tagsB, tagsL, tagD, addT, tagA, lookN, tagOp, elmT, ty32, ty37, ty43, ty48, ty56, ty57, ty58, ty59, ty65, ty66, ty67, ty74, ty80, ty97, Nat.reduceEqDiff, if_false, reduceIte, Option.getD_some, Option.getD_none, dstAt, dstOk, Nat.reduceLT, decide_true, if_true]
  simp [Box.enc]
  have e0 := fun G' => szMinderS_is (RdLMinderS_base r0 (Keep.app [] _ G')) t0 (left := left) (by omega) (by omega)
  simp [e0]
  by_cases b0 : left < ((MinderS.sz x.two : Nat) : Int)
  · simp [b0]
    refine hQ _ _ _ (by simp) ?_
    simp [Tryd.f20, Box.sz]
    omega
  have z0 : ¬ ((left - ((MinderS.sz x.two : Nat) : Int)) < 0) := by omega
  simp [b0, z0, Box.enc]
  obtain ⟨a1, rfl, s1⟩ := r1
  have e1 := fun H => szWireS H a1 x.net.length ((left - ((MinderS.sz x.two : Nat) : Int))) (by omega) (by omega) t1
  simp [e1]
  by_cases b1 : (left - ((MinderS.sz x.two : Nat) : Int)) < ((x.net.length : Nat) : Int)
  · simp [b1]
    refine hQ _ _ _ (by simp) ?_
    simp [Tryd.f20, Box.sz]
    omega
  have z1 : ¬ (((left - ((MinderS.sz x.two : Nat) : Int)) - ((x.net.length : Nat) : Int)) < 0) := by omega
  simp [b1, z1, Box.enc]
  obtain ⟨a2, rfl, s2⟩ := r2
  have e2 := fun H => szBoolS H a2 x.gates.length (((left - ((MinderS.sz x.two : Nat) : Int)) - ((x.net.length : Nat) : Int))) (by omega) (by omega) t2
  simp [e2]
  by_cases b2 : ((left - ((MinderS.sz x.two : Nat) : Int)) - ((x.net.length : Nat) : Int)) < ((x.gates.length : Nat) : Int)
  · simp [b2]
    refine hQ _ _ _ (by simp) ?_
    simp [Tryd.f20, Box.sz]
    omega
  have z2 : ¬ ((((left - ((MinderS.sz x.two : Nat) : Int)) - ((x.net.length : Nat) : Int)) - ((x.gates.length : Nat) : Int)) < 0) := by omega
  simp [b2, z2, Box.enc]
  obtain ⟨a3, rfl, s3⟩ := r3
  have e3 := fun H => szInS H a3 x.line.length ((((left - ((MinderS.sz x.two : Nat) : Int)) - ((x.net.length : Nat) : Int)) - ((x.gates.length : Nat) : Int))) (by omega) (by omega) t3
  simp [e3]
  by_cases b3 : (((left - ((MinderS.sz x.two : Nat) : Int)) - ((x.net.length : Nat) : Int)) - ((x.gates.length : Nat) : Int)) < ((x.line.length : Nat) : Int)
  · simp [b3]
    refine hQ _ _ _ (by simp) ?_
    simp [Tryd.f20, Box.sz]
    omega
  have z3 : ¬ (((((left - ((MinderS.sz x.two : Nat) : Int)) - ((x.net.length : Nat) : Int)) - ((x.gates.length : Nat) : Int)) - ((x.line.length : Nat) : Int)) < 0) := by omega
  simp [b3, z3, Box.enc]
  obtain ⟨a4, rfl, s4⟩ := r4
  have e4 := fun H => szOutS H a4 x.said.length (((((left - ((MinderS.sz x.two : Nat) : Int)) - ((x.net.length : Nat) : Int)) - ((x.gates.length : Nat) : Int)) - ((x.line.length : Nat) : Int))) (by omega) (by omega) t4
  simp [e4]
  by_cases b4 : ((((left - ((MinderS.sz x.two : Nat) : Int)) - ((x.net.length : Nat) : Int)) - ((x.gates.length : Nat) : Int)) - ((x.line.length : Nat) : Int)) < ((x.said.length : Nat) : Int)
  · simp [b4]
    refine hQ _ _ _ (by simp) ?_
    simp [Tryd.f20, Box.sz]
    omega
  have z4 : ¬ ((((((left - ((MinderS.sz x.two : Nat) : Int)) - ((x.net.length : Nat) : Int)) - ((x.gates.length : Nat) : Int)) - ((x.line.length : Nat) : Int)) - ((x.said.length : Nat) : Int)) < 0) := by omega
  simp [b4, z4, Box.enc]
  have hfin : ¬ (left < (x.sz : Int)) := by unfold Box.sz; omega
  refine hQ _ _ _ (by simp) ?_
  simp [Tryd.f20, hfin]
  unfold Box.sz
  omega
theorem szBox_is {H : Heap} {l : List Lf} {x : Box} (h : RdLBox H l x) (hf : x.fit) {left : Int} (h1 : 0 ≤ left) (h2 : left ≤ 1048576) (G : Heap) :
    run env 20 [.agg l, .int left] (H ++ G) = some (.int (if left < x.sz then -1 else left - x.sz), H ++ G) := szBox_at (h.app G) hf h1 h2

theorem toBox_is {H : Heap} {l : List Lf} {x : Box} (h : RdLBox H l x) (hn : x.sz ≤ 1048576) : Runs env 22 [.agg l] H fun v H' => ∃ l' fp, v = .agg l' ∧ IsBox H' l' x fp ∧ Fresh H H' fp := by
  obtain ⟨q0, q1, q2, q3, q4, rfl, r0, r1, r2, r3, r4⟩ := h
  unfold Box.sz at hn
  refine Runs.walk ok22 Tryd.func22 rfl (by simp [Tryd.f22]) fun Q hQ => ?_
  simp only [Tryd.f22, strip, stripL, stripI, stripG, chkT, tagsB, tagsL, tagD, addT, tagA, lookN, tagOp, elmT, ty32, ty37, ty43, ty48, ty56, ty57, ty58, ty59, ty65, ty66, ty67, ty74, ty80, ty97, Nat.reduceEqDiff, if_false, reduceIte, Option.getD_some, Option.getD_none, dstAt, dstOk, Nat.reduceLT, decide_true, if_true]
  have er := fun H => toReg H x.reg
  simp only [Reg.enc] at er
  simp [Box.enc, er]
  refine stpL_runs (toMinderS_is (RdLMinderS_base r0 (Keep.app [] H _)) (by omega)) ?_
  rintro _ _ ⟨p0, g0, rfl, o0, ⟨⟨G0, rfl⟩, hf0⟩⟩
  simp only [List.append_assoc, List.cons_append, List.nil_append] at o0
  have b0 : ∀ i ∈ g0, H.length + (3) ≤ i := fun i hi => by have := hf0 i hi; simp at this; omega
  have c0 : ∀ i ∈ g0, i < H.length + (3 + G0.length) := fun i hi => by have := o0.lt okMinder i hi; simp at this; omega
  try simp
  refine stpL_runs (toWireS_is (r1.base (Keep.app [] H _)) (by omega)) ?_
  rintro _ _ ⟨p1, g1, rfl, o1, ⟨⟨G1, rfl⟩, hf1⟩⟩
  simp only [List.append_assoc, List.cons_append, List.nil_append] at o1
  have b1 : ∀ i ∈ g1, H.length + (3 + G0.length) ≤ i := fun i hi => by have := hf1 i hi; simp at this; omega
  have c1 : ∀ i ∈ g1, i < H.length + (3 + G0.length + G1.length) := fun i hi => by have := o1.lt i hi; simp at this; omega
  try simp
  refine stpL_runs (toBoolS_is (r2.base (Keep.app [] H _)) (by omega)) ?_
  rintro _ _ ⟨p2, g2, rfl, o2, ⟨⟨G2, rfl⟩, hf2⟩⟩
  simp only [List.append_assoc, List.cons_append, List.nil_append] at o2
  have b2 : ∀ i ∈ g2, H.length + (3 + G0.length + G1.length) ≤ i := fun i hi => by have := hf2 i hi; simp at this; omega
  have c2 : ∀ i ∈ g2, i < H.length + (3 + G0.length + G1.length + G2.length) := fun i hi => by have := o2.lt i hi; simp at this; omega
  try simp
  refine stpL_runs (toInS_is (r3.base (Keep.app [] H _)) (by omega)) ?_
  rintro _ _ ⟨p3, g3, rfl, o3, ⟨⟨G3, rfl⟩, hf3⟩⟩
  simp only [List.append_assoc, List.cons_append, List.nil_append] at o3
  have b3 : ∀ i ∈ g3, H.length + (3 + G0.length + G1.length + G2.length) ≤ i := fun i hi => by have := hf3 i hi; simp at this; omega
  have c3 : ∀ i ∈ g3, i < H.length + (3 + G0.length + G1.length + G2.length + G3.length) := fun i hi => by have := o3.lt i hi; simp at this; omega
  try simp
  refine stpL_runs (toOutS_is (r4.base (Keep.app [] H _)) (by omega)) ?_
  rintro _ _ ⟨p4, g4, rfl, o4, ⟨⟨G4, rfl⟩, hf4⟩⟩
  simp only [List.append_assoc, List.cons_append, List.nil_append] at o4
  have b4 : ∀ i ∈ g4, H.length + (3 + G0.length + G1.length + G2.length + G3.length) ≤ i := fun i hi => by have := hf4 i hi; simp at this; omega
  have c4 : ∀ i ∈ g4, i < H.length + (3 + G0.length + G1.length + G2.length + G3.length + G4.length) := fun i hi => by have := o4.lt i hi; simp at this; omega
  try simp
  refine hQ _ _ _ (by simp) ?_
  simp [Tryd.f22]
  have u0 := fun B1 B2 B3 G' (hp : G0 <+: G') => o0.keep okMinder (Keep.cutP (H := H) (L := [_, _, _]) (L' := [B1, B2, B3]) (G' := G') rfl hp) (fun i hi => by have := b0 i hi; simp; omega)
  have u1 := fun B1 B2 B3 G' (hp : G0 ++ (G1) <+: G') => o1.keep (Keep.cutP (H := H) (L := [_, _, _]) (L' := [B1, B2, B3]) (G' := G') rfl hp) (fun i hi => by have := b1 i hi; simp; omega)
  have u2 := fun B1 B2 B3 G' (hp : G0 ++ (G1 ++ (G2)) <+: G') => o2.keep (Keep.cutP (H := H) (L := [_, _, _]) (L' := [B1, B2, B3]) (G' := G') rfl hp) (fun i hi => by have := b2 i hi; simp; omega)
  have u3 := fun B1 B2 B3 G' (hp : G0 ++ (G1 ++ (G2 ++ (G3))) <+: G') => o3.keep (Keep.cutP (H := H) (L := [_, _, _]) (L' := [B1, B2, B3]) (G' := G') rfl hp) (fun i hi => by have := b3 i hi; simp; omega)
  have u4 := fun B1 B2 B3 G' (hp : G0 ++ (G1 ++ (G2 ++ (G3 ++ (G4)))) <+: G') => o4.keep (Keep.cutP (H := H) (L := [_, _, _]) (L' := [B1, B2, B3]) (G' := G') rfl hp) (fun i hi => by have := b4 i hi; simp; omega)
  have hnd : (g0 ++ (g1 ++ (g2 ++ (g3 ++ (g4)))) : List Nat).Nodup := by
    have n0 : g4.Nodup := o4.nodup
    have m3 : (g3 ++ g4).Nodup := nodup_app o3.nodup n0 (fun i hi hj => by
      have := c3 i hi
      try simp at hj
      rcases hj with hj
      · have := b4 i hj; omega)
    have m2 : (g2 ++ (g3 ++ g4)).Nodup := nodup_app o2.nodup m3 (fun i hi hj => by
      have := c2 i hi
      try simp at hj
      rcases hj with hj | hj
      · have := b3 i hj; omega
      · have := b4 i hj; omega)
    have m1 : (g1 ++ (g2 ++ (g3 ++ g4))).Nodup := nodup_app o1.nodup m2 (fun i hi hj => by
      have := c1 i hi
      try simp at hj
      rcases hj with hj | hj | hj
      · have := b2 i hj; omega
      · have := b3 i hj; omega
      · have := b4 i hj; omega)
    have m0 : (g0 ++ (g1 ++ (g2 ++ (g3 ++ g4)))).Nodup := nodup_app o0.nodup m1 (fun i hi hj => by
      have := c0 i hi
      try simp at hj
      rcases hj with hj | hj | hj | hj
      · have := b1 i hj; omega
      · have := b2 i hj; omega
      · have := b3 i hj; omega
      · have := b4 i hj; omega)
    exact m0
  refine IsBox.leave (fp := g0 ++ (g1 ++ (g2 ++ (g3 ++ g4)))) ⟨p0, p1, p2, p3, p4, g0, g1, g2, g3, g4, by simp [Box.enc], u0 _ _ _ _ (by simp), u1 _ _ _ _ (by simp), u2 _ _ _ _ (by simp), u3 _ _ _ _ (by simp), u4 _ _ _ _ (by simp), rfl, hnd⟩ (Fresh.app H _ fun i hi => ?_) (by simp [Box.enc])
  simp at hi
  rcases hi with hi | hi | hi | hi | hi
  · have := b0 i hi; omega
  · have := b1 i hi; omega
  · have := b2 i hi; omega
  · have := b3 i hi; omega
  · have := b4 i hi; omega

theorem eqBox_is {H : Heap} {l r : List Lf} {x y : Box} (h : RdBox H l x) (h2 : RdBox H r y) (hn : x.sz ≤ 1048576) : run env 24 [.agg l, .agg r] H = some (.bool (decide (x = y)), H) := by
  obtain ⟨q0, q1, q2, q3, q4, rfl, r0, r1, r2, r3, r4⟩ := h
  obtain ⟨p0, p1, p2, p3, p4, rfl, s0, s1, s2, s3, s4⟩ := h2
  unfold Box.sz at hn
  have e0 := fun G => eqMinderS_is (RdMinderS_base r0 (Keep.app [] _ G)) (RdMinderS_base s0 (Keep.app [] _ G)) (by omega)
  have e1 := fun G => eqWireS_is (r1.app G) (s1.app G) (by omega)
  have e2 := fun G => eqBoolS_is (r2.app G) (s2.app G) (by omega)
  have e3 := fun G => eqInS_is (r3.app G) (s3.app G) (by omega)
  have e4 := fun G => eqOutS_is (r4.app G) (s4.app G) (by omega)
  have er := fun H => eqReg H x.reg y.reg
  obtain ⟨x0, x1, x2, x3, x4, x5, x6, x7⟩ := x
  obtain ⟨y0, y1, y2, y3, y4, y5, y6, y7⟩ := y
  simp only at e0 e1 e2 e3 e4 er
  simp only [Reg.enc] at er
  refine run_walk ok24 Tryd.func24 rfl (by simp [Tryd.f24]) fun Q hQ => ?_
  simp only [Tryd.f24, strip, stripL, stripI, stripG, chkT, tagsB, tagsL, tagD, addT, tagA, lookN, tagOp, elmT, ty32, ty37, ty43, ty48, ty56, ty57, ty58, ty59, ty65, ty66, ty67, ty74, ty80, ty97, Nat.reduceEqDiff, if_false, reduceIte, Option.getD_some, Option.getD_none, dstAt, dstOk, Nat.reduceLT, decide_true, if_true]
  simp [Box.enc, e0, e1, e2, e3, e4, er]
  repeat' (first | (refine gdL_t (fun h => ?_) (fun h => ?_) <;> simp [h, e0, e1, e2, e3, e4, er]) | (refine gdL_f (fun h => ?_) (fun h => ?_) <;> simp [h, e0, e1, e2, e3, e4, er]) | (refine selS_intro (fun h => ?_) (fun h => ?_) <;> simp [h, e0, e1, e2, e3, e4, er]))
  all_goals (refine hQ _ _ _ (by simp) ?_)
  all_goals (clear hQ; simp_all [Tryd.f24])

/-- A text, of its bytes. -/
abbrev BA (l : List UInt8) : ByteArray := ⟨l.toArray⟩
theorem BA_append (a b : List UInt8) : BA a ++ BA b = BA (a ++ b) := by
  apply ByteArray.ext
  apply Array.ext'
  simp
@[simp] theorem BA_size (a : List UInt8) : (BA a).size = a.length := by
  show (a.toArray).size = _
  simp
theorem BA_inj {a b : List UInt8} (h : BA a = BA b) : a = b := by
  have := congrArg (fun x => x.data.toList) h
  simpa using this
theorem binStr_add {a b : List UInt8} (h : a.length + b.length ≤ 9223372036854775807) : binStr .add (BA a) (BA b) = some (.str (BA (a ++ b))) := by
  unfold binStr
  simp only [BA_size, if_pos h, BA_append]
theorem binV_add (τ : Tab) (t : Nat) {a b : List UInt8} (h : a.length + b.length ≤ 9223372036854775807) : binV τ .add t (.str (BA a)) (.str (BA b)) = some (.str (BA (a ++ b))) := by
  show binStr .add (BA a) (BA b) = _
  exact binStr_add h
theorem wrap8 {n : Int} (h0 : 0 ≤ n) (h1 : n < 256) : IntKind.u8.wrap n = n := by
  simp [IntKind.wrap, IntKind.bits, IntKind.signed]
  omega

/-- The digits of a number but 0. -/
def decD (u : Nat) : List UInt8 := if u = 0 then [] else Lib.decDigits u
theorem decD_step {u : Nat} (h : u ≠ 0) : decD u = decD (u / 10) ++ [UInt8.ofNat (48 + u % 10)] := by
  unfold decD
  rw [if_neg h, Lib.decDigits]
  split
  · rename_i h1
    have h2 : u / 10 = 0 := by omega
    have h3 : u % 10 = u := by omega
    rw [h2, h3]; simp
  · rename_i h1
    have h2 : u / 10 ≠ 0 := by omega
    rw [if_neg h2]
theorem decD_len : ∀ (j u : Nat), u < 10 ^ j → (decD u).length ≤ j
  | 0, u, h => by
    have : u = 0 := by simpa using h
    subst this; simp [decD]
  | j + 1, u, h => by
    by_cases h0 : u = 0
    · subst h0; simp [decD]
    · rw [decD_step h0, List.length_append]
      have := decD_len j (u / 10) (by rw [Nat.pow_succ] at h; omega)
      simp; omega
theorem bytesStr_new {H : Heap} {n : Nat} (hn : n < 256) : bytesStr env.τ (H ++ [some ⟨5, .wr, [[.i .u8 (n : Int)]]⟩]) 97 9 (.sl H.length 0 1) = some (.str (BA [UInt8.ofNat n])) := by
  have hb : blkAt (H ++ [some ⟨5, .wr, [[.i .u8 (n : Int)]]⟩]) H.length = some ⟨5, .wr, [[.i .u8 (n : Int)]]⟩ := by simp [blkAt]
  have h1 : (0 : Int) ≤ (n : Int) ∧ (n : Int) < 256 := by omega
  simp [bytesStr, elemIs, rowsOf, hb, bytesV, h1]
theorem specDigits {H : Heap} {n : Int} (hn : I64 n) : run env 26 [.int n] H = some (.str (BA (Lib.itoa n)), H) := by
  refine run_walk ok26 Tryd.func26 rfl (by simp [Tryd.f26]) fun Q hQ => ?_
  simp only [Tryd.f26, strip, stripL, stripI, stripG, chkT, tagsB, tagsL, tagD, addT, tagA, lookN, tagOp, elmT, ty32, ty37, ty43, ty48, ty56, ty57, ty58, ty59, ty65, ty66, ty67, ty74, ty80, ty97, Nat.reduceEqDiff, if_false, reduceIte, Option.getD_some, Option.getD_none, dstAt, dstOk, Nat.reduceLT, decide_true, if_true]
  simp
  refine selS_intro (fun hc => ?_) (fun hc => ?_)
  · simp at hc
    subst hc
    simp
    refine hQ _ _ _ (by simp) ?_
    simp [Tryd.f26, leave]
    simp [Lib.itoa, Lib.decDigits]
  · simp at hc
    simp
    refine wpS_loop (fun j tm A => ∃ (x : Int) (acc : List UInt8) (G : Heap), A = H ++ G ∧ I64 x ∧ x.natAbs < 10 ^ j ∧ tm 0 = .int x ∧ tm 3 = .bool (decide (n < 0)) ∧ tm 4 = .str (BA acc) ∧ decD x.natAbs ++ acc = Lib.decDigits n.natAbs) 20 (by rw [env_K]; omega) ⟨n, [], [], by simp, hn, by unfold I64 at hn; simp; omega, by simp, by simp, rfl, by simp [decD]; omega⟩ ?_
    rintro j tm A hj ⟨x, acc, G, hA, hx, hxj, t0, t3, t4, hd⟩ Q2 hn2 he2 hr2
    have hacc : acc.length ≤ 100 := by
      have h1 : (decD x.natAbs ++ acc).length ≤ 20 := by
        rw [hd]
        have h2 := decD_len 20 n.natAbs (by unfold I64 at hn; omega)
        unfold decD at h2
        rw [if_neg (by omega)] at h2
        exact h2
      simp at h1; omega
    simp [t0, t4]
    refine selS_intro (fun hx0 => ?_) (fun hx0 => ?_)
    · simp at hx0
      obtain ⟨d, hdd⟩ : ∃ d : Nat, d = x.natAbs % 10 := ⟨_, rfl⟩
      have hd10 : d < 10 := by omega
      have hj0 : 0 < j := by
        rcases Nat.eq_zero_or_pos j with h | h
        · subst h; simp at hxj; omega
        · exact h
      have hstep := decD_step (u := x.natAbs) (by omega)
      rw [← hdd] at hstep
      obtain ⟨c, hc8⟩ : ∃ c : UInt8, c = UInt8.ofNat (48 + d) := ⟨_, rfl⟩
      rw [← hc8] at hstep
      have hq : (x.tdiv 10).natAbs = x.natAbs / 10 := by rw [Int.natAbs_tdiv]; rfl
      have hq2 : (x.tdiv 10).natAbs < 10 ^ (j - 1) := by
        rw [hq]
        have : 10 ^ j = 10 ^ (j - 1) * 10 := by rw [← Nat.pow_succ]; congr 1; omega
        omega
      have hq64 : I64 (x.tdiv 10) := by unfold I64 at hx ⊢; omega
      have hwq : IntKind.i64.wrap (x.tdiv 10) = x.tdiv 10 := wrap64 (by unfold I64 at hq64; omega) (by unfold I64 at hq64; omega)
      have hw5 : IntKind.i64.wrap (48 + (d : Int)) = 48 + (d : Int) := wrap64 (by omega) (by omega)
      have hw8 : IntKind.u8.wrap (48 + (d : Int)) = ((48 + d : Nat) : Int) := by
        rw [show (48 + (d : Int)) = ((48 + d : Nat) : Int) by omega]
        exact wrap8 (by omega) (by omega)
      have e6 : (x.tmod 10).natAbs = x.natAbs % 10 := Int.natAbs_tmod x 10
      have hadd := binV_add env.τ 9 (a := [c]) (b := acc) (by simp; omega)
      have hnew : bytesStr env.τ (A ++ [some ⟨5, .wr, [[.i .u8 (48 + (d : Int))]]⟩]) 97 9 (.sl A.length 0 1) = some (.str (BA [c])) := by
        rw [hc8, show (48 + (d : Int)) = ((48 + d : Nat) : Int) by omega]
        exact bytesStr_new (by omega)
      by_cases hneg : x.tmod 10 < 0
      · have e5 : -x.tmod 10 = d := by omega
        have hw0 : IntKind.i64.wrap (d : Int) = (d : Int) := wrap64 (by omega) (by omega)
        simp [t0, t3, t4, hneg, e5, hw0, hw5, hw8, convV, hnew, hadd, hwq]
        refine hn2 (j - 1) _ _ (by omega) ⟨x.tdiv 10, c :: acc, _, by rw [hA, List.append_assoc], hq64, hq2, by simp, by simp [t3], by simp, ?_⟩
        rw [hq, ← hd, hstep]; simp
      · have e5 : x.tmod 10 = d := by omega
        have hdn : ¬ ((d : Int) < 0) := by omega
        simp [t0, t3, t4, e5, hdn, hw5, hw8, convV, hnew, hadd, hwq]
        refine hn2 (j - 1) _ _ (by omega) ⟨x.tdiv 10, c :: acc, _, by rw [hA, List.append_assoc], hq64, hq2, by simp, by simp [t3], by simp, ?_⟩
        rw [hq, ← hd, hstep]; simp
    · simp at hx0
      subst hx0
      simp
      refine he2 _ _ _ ?_
      have hd' : acc = Lib.decDigits n.natAbs := by rw [← hd]; simp [decD]
      simp [t3, t4]
      refine selS_intro (fun hneg => ?_) (fun hneg => ?_)
      · simp at hneg
        have hadd := binV_add env.τ 9 (a := [45]) (b := acc) (by simp; omega)
        simp [t4, hadd]
        refine hQ _ _ _ (by simp) ?_
        simp [Tryd.f26, leave, hA]
        simp [Lib.itoa, hneg, hd']
      · simp at hneg
        simp [t4]
        refine hQ _ _ _ (by simp) ?_
        simp [Tryd.f26, leave, hA]
        rw [hd', Lib.itoa, if_neg (by omega)]
        rw [show n.natAbs = n.toNat by omega]

def Vec.rg (v : Vec) : Prop := I64 v.root ∧ I64 v.cost ∧ I64 v.bridge ∧ I64 v.port
def Port.rg (p : Port) : Prop := p.vec.rg ∧ I64 p.role ∧ I64 p.wait
theorem shpVec_rg {H : Heap} {k : Nat} {l : List Lf} (h : Shp Tryd.prog H (k + 2) 23 l) : ∃ x : Vec, l = x.enc ∧ x.rg := by
  obtain ⟨_, _, rfl, h0, _, _, rfl, h1, _, _, rfl, h2, _, _, rfl, h3, rfl⟩ := h.struct Tryd.underlying23
  obtain ⟨a0, rfl, r0⟩ := h0.i64 Tryd.underlying3
  obtain ⟨a1, rfl, r1⟩ := h1.i64 Tryd.underlying3
  obtain ⟨a2, rfl, r2⟩ := h2.i64 Tryd.underlying3
  obtain ⟨a3, rfl, r3⟩ := h3.i64 Tryd.underlying3
  exact ⟨⟨a0, a1, a2, a3⟩, rfl, r0, r1, r2, r3⟩
theorem shpPort_rg {H : Heap} {k : Nat} {l : List Lf} (h : Shp Tryd.prog H (k + 3) 25 l) : ∃ x : Port, l = x.enc ∧ x.rg := by
  obtain ⟨_, _, rfl, h0, _, _, rfl, h1, _, _, rfl, h2, _, _, rfl, h3, _, _, rfl, h4, _, _, rfl, h5, _, _, rfl, h6, _, _, rfl, h7, rfl⟩ := h.struct Tryd.underlying25
  obtain ⟨a0, rfl⟩ := h0.bool Tryd.underlying4
  obtain ⟨a1, rfl⟩ := h1.bool Tryd.underlying4
  obtain ⟨a2, rfl, r2⟩ := shpVec_rg h2
  obtain ⟨a3, rfl, -⟩ := h3.i64 Tryd.underlying3
  obtain ⟨a4, rfl, -⟩ := h4.i64 Tryd.underlying3
  obtain ⟨a5, rfl, r5⟩ := h5.i64 Tryd.underlying3
  obtain ⟨a6, rfl, r6⟩ := h6.i64 Tryd.underlying3
  obtain ⟨a7, rfl⟩ := h7.bool Tryd.underlying4
  exact ⟨⟨a0, a1, a2, a3, a4, a5, a6, a7⟩, rfl, r2, r5, r6⟩

/-- The plain texts. -/
def vecT (v : Vec) : List UInt8 := Lib.itoa v.root ++ [46] ++ Lib.itoa v.cost ++ [46] ++ Lib.itoa v.bridge ++ [46] ++ Lib.itoa v.port
def roleT (r : Int) : List UInt8 := if r = 0 then [111, 102, 102] else if r = 1 then [114, 111, 111, 116] else if r = 2 then [100, 101, 115] else if r = 3 then [97, 108, 116] else [110, 111, 110, 101]
def openT (b : Bool) : List UInt8 := if b then [111, 112, 101, 110] else [115, 104, 117, 116]
def portT (p : Port) : List UInt8 := roleT p.role ++ [32] ++ openT p.opn ++ [32] ++ Lib.itoa p.wait ++ [32] ++ (if p.has then vecT p.vec else [45])
theorem itoa_len {n : Int} (h : I64 n) : (Lib.itoa n).length ≤ 21 := Lib.itoa_length_le n h.1 h.2
theorem vecT_len {v : Vec} (h : v.rg) : (vecT v).length ≤ 87 := by
  have h1 := itoa_len h.1
  have h2 := itoa_len h.2.1
  have h3 := itoa_len h.2.2.1
  have h4 := itoa_len h.2.2.2
  simp [vecT]; omega
theorem roleT_len (r : Int) : (roleT r).length ≤ 4 := by
  unfold roleT
  repeat' split
  all_goals simp
theorem openT_len (b : Bool) : (openT b).length = 4 := by cases b <;> rfl
theorem portT_len {p : Port} (h : p.rg) : (portT p).length ≤ 120 := by
  have h1 := vecT_len h.1
  have h2 := itoa_len h.2.2
  have h3 := roleT_len p.role
  have h4 := openT_len p.opn
  simp [portT]
  split <;> (try simp) <;> omega

theorem itoaRun {H : Heap} {n : Int} (h : I64 n) : run env 58 [.int n] H = some (.str (BA (Lib.itoa n)), H) := by
  refine run_ext nok58 ?_
  rw [ext_is, if_pos rfl]
  unfold I64 at h
  simp [itoaX, h]
theorem joinRun {H : Heap} {a : Option (Nat × Nat)} {xs : List (List UInt8)} {sep : List UInt8} (hr : rowsOf H a xs.length = some (xs.map fun x => [Lf.s (BA x)])) (hn : xs.length ≤ 140737488355328) (hl : (Lib.join xs sep).length ≤ 140737488355328) :
    run env 30 [.w (.lf (.sl a xs.length)), .str (BA sep)] H = some (.str (BA (Lib.join xs sep)), H) := by
  have h1 : ∀ ys : List (List UInt8), strsV (ys.map fun x => [Lf.s (BA x)]) = some (ys.map BA) := by
    intro ys
    induction ys with
    | nil => rfl
    | cons y ys ih => simp [strsV, ih]
  have h2 : joinT (xs.map BA) (BA sep) = Lib.join xs sep := by
    unfold joinT
    rw [List.map_map]
    show Lib.join (xs.map fun x => x) sep = _
    rw [List.map_id']
  refine run_ext nok30 ?_
  rw [ext_is, if_neg (by decide), if_pos rfl]
  simp [joinX, hr, h1, h2, hn, hl]

theorem implDigits {H : Heap} {n : Int} (h : I64 n) : run env 32 [.int n] H = some (.str (BA (Lib.itoa n)), H) := by
  refine run_walk ok32 Tryd.func32 rfl (by simp [Tryd.f32]) fun Q hQ => ?_
  simp only [Tryd.f32, strip, stripL, stripI, stripG, chkT, tagsB, tagsL, tagD, addT, tagA, lookN, tagOp, elmT, ty32, ty37, ty43, ty48, ty56, ty57, ty58, ty59, ty65, ty66, ty67, ty74, ty80, ty97, Nat.reduceEqDiff, if_false, reduceIte, Option.getD_some, Option.getD_none, dstAt, dstOk, Nat.reduceLT, decide_true, if_true]
  have e0 := fun H => itoaRun (H := H) h
  simp [e0]
  all_goals (refine hQ _ _ _ (by simp) ?_)
  all_goals (clear hQ; simp [Tryd.f32])

abbrev strRow (l : List UInt8) : List Lf := [.s (BA l)]
theorem joinSl {H : Heap} {a : Option (Nat × Nat)} {xs : List (List UInt8)} {sep : List UInt8} {m : Nat} (h : Sl H 9 a (xs.map strRow)) (hm : m = xs.length) (hn : xs.length ≤ 140737488355328) (hl : (Lib.join xs sep).length ≤ 140737488355328) :
    run env 30 [.w (.lf (.sl a m)), .str (BA sep)] H = some (.str (BA (Lib.join xs sep)), H) := by
  subst hm
  exact joinRun (rowsOf_sl h (by simp)) hn hl
theorem joinLen (xs : List (List UInt8)) (h : ∀ x ∈ xs, x.length ≤ 21) : (Lib.join xs [32]).length ≤ 22 * xs.length := by
  have key : ∀ ys : List (List UInt8), (∀ x ∈ ys, x.length ≤ 21) → (Lib.joinTail [32] ys).length ≤ 22 * ys.length := by
    intro ys
    induction ys with
    | nil => intro _; simp [Lib.joinTail]
    | cons y ys ih =>
      intro hy
      have h1 := ih fun x hx => hy x (by simp [hx])
      have h2 := hy y (by simp)
      simp [Lib.joinTail] at h1 ⊢
      omega
  cases xs with
  | nil => simp [Lib.join_nil]
  | cons x xs =>
    rw [Lib.join_cons, List.length_append]
    have h1 := key xs fun y hy => h y (by simp [hy])
    have h2 := h x (by simp)
    simp
    omega

theorem implNumbers {H : Heap} {a : Option (Nat × Nat)} {ns : List Int} (hs : Sl H 3 a (ns.map encI)) (hr : ∀ n ∈ ns, I64 n) (hn : ns.length ≤ 100) :
    run env 35 [.w (.lf (.sl a ns.length))] H = some (.str (BA (Lib.join (ns.map Lib.itoa) [32])), H) := by
  refine run_walk ok35 Tryd.func35 rfl (by simp [Tryd.f35]) fun Q hQ => ?_
  simp only [Tryd.f35, strip, stripL, stripI, stripG, chkT, tagsB, tagsL, tagD, addT, tagA, lookN, tagOp, elmT, ty32, ty37, ty43, ty48, ty56, ty57, ty58, ty59, ty65, ty66, ty67, ty74, ty80, ty97, Nat.reduceEqDiff, if_false, reduceIte, Option.getD_some, Option.getD_none, dstAt, dstOk, Nat.reduceLT, decide_true, if_true]
  simp [builtinV, pureB, lenV]
  refine wpS_loop (fun j tm A => ∃ (i : Nat) (aa : Option (Nat × Nat)) (fd : List Nat), i + j = ns.length ∧ tm 6 = .w (.lf (.sl a ns.length)) ∧ tm 7 = .int ns.length ∧ tm 8 = .int i ∧ tm 3 = .w (.lf (.sl aa i)) ∧ Own A 9 aa (((ns.take i).map Lib.itoa).map strRow) fd ∧ (∀ k ∈ fd, H.length ≤ k) ∧ Keep [] H A) ns.length (by rw [env_K]; omega) ⟨0, none, [], by simp, by simp, by simp, by simp, by simp, Own.nil _ _, by simp, Keep.refl _ _⟩ ?_
  rintro j tm A hj ⟨i, aa, fd, hij, t6, t7, t8, t3, oD, hfd, hk⟩ Q2 hn2 he2 hr2
  simp [t3, t6, t7, t8]
  refine selS_intro (fun hc => ?_) (fun hc => ?_)
  · simp at hc
    obtain ⟨id, r, bl, rfl, hbl, hbe, hrow⟩ := (hs.keep hk (by simp)) i _ (by simp [hc]; rfl)
    have g4 : IntKind.i64.wrap ((i : Int) + 1) = (i : Int) + 1 := wrap64 (by omega) (by omega)
    have e1 := fun H => implDigits (H := H) (hr ns[i] (by simp))
    simp [t3, t6, t7, t8, indexAddrV, elemIs, hbl, hbe, hc, hrow, encI, e1]
    refine stpL_append (e := 9) (rows := ((ns.take i).map Lib.itoa).map strRow) (ys := [strRow (Lib.itoa ns[i])]) (oD.app _) (Sl.of (by simp)) rfl rfl rfl (by simp) (by simp; omega) (by simp; omega) rfl fun a2 E fc hoE hkE hfE => ?_
    simp [t8, g4]
    have hlA := hk.1
    refine hn2 (j - 1) _ _ (by omega) ⟨i + 1, a2, fc, by omega, by simp [t6], by simp [t7], by simp, by simp, ?_, ?_, ?_⟩
    · rw [List.take_add_one, List.getElem?_eq_getElem hc]
      rw [List.map_append, List.map_append]
      exact hoE
    · intro k hkk
      rcases hfE k hkk with h | h
      · exact hfd k h
      · simp at h; omega
    · exact (hk.next (Keep.app [] _ _) (by simp)).next hkE hfd
  · simp at hc
    have hi : i = ns.length := by omega
    subst hi
    rw [List.take_length] at oD
    have hj1 := joinSl (sep := [32]) (m := ns.length) oD.sl (by simp) (by simp; omega) (by have := joinLen (ns.map Lib.itoa) (by simp; exact fun n hn => itoa_len (hr n hn)); simp at this ⊢; omega)
    simp [t3, t6, t7, t8]
    refine he2 _ _ _ ?_
    simp [t3, hj1]
    refine hQ _ _ _ (by simp) ?_
    obtain ⟨G, rfl⟩ := hk.ext
    simp [Tryd.f35, leave]

def minderT (m : Minder) : List UInt8 := (if m.up then [117, 112] else [100, 111, 119, 110]) ++ [32] ++ Lib.join ([m.life, m.epoch, (m.log.length : Int), m.said, m.acked, m.ackLife].map Lib.itoa) [32]
def Minder.rg (m : Minder) : Prop := I64 m.life ∧ I64 m.epoch ∧ I64 m.said ∧ I64 m.acked ∧ I64 m.ackLife
theorem minderT_len {m : Minder} (h : m.rg) (hl : m.log.length ≤ 1048576) : (minderT m).length ≤ 140 := by
  obtain ⟨h1, h2, h3, h4, h5⟩ := h
  have h6 := joinLen ([m.life, m.epoch, (m.log.length : Int), m.said, m.acked, m.ackLife].map Lib.itoa) (by
    intro x hx
    obtain ⟨n, hn, rfl⟩ := List.mem_map.1 hx
    simp at hn
    rcases hn with rfl | rfl | rfl | rfl | rfl | rfl <;> apply itoa_len <;> first | assumption | (unfold I64; omega))
  simp only [List.length_map, List.length_cons, List.length_nil] at h6
  unfold minderT
  simp only [List.length_append]
  split <;> simp only [List.length_cons, List.length_nil] <;> omega
theorem implMinderText_is {H : Heap} {l : List Lf} {m : Minder} (h : RdMinder H l m) (hl : m.log.length ≤ 1048576) (hg : m.rg) : run env 13 [.agg l] H = some (.str (BA (minderT m)), H) := by
  obtain ⟨a, rfl, hs⟩ := h
  obtain ⟨g1, g2, g3, g4, g5⟩ := hg
  have en : ∀ (H : Heap) (B : Option Blk), run env 35 [.sl (H.length + 1) 0 6] (H ++ [B, some ⟨3, .wr, [[.i .i64 m.life], [.i .i64 m.epoch], [.i .i64 (m.log.length : Int)], [.i .i64 m.said], [.i .i64 m.acked], [.i .i64 m.ackLife]]⟩]) =
      some (.str (BA (Lib.join ([m.life, m.epoch, (m.log.length : Int), m.said, m.acked, m.ackLife].map Lib.itoa) [32])), H ++ [B, some ⟨3, .wr, [[.i .i64 m.life], [.i .i64 m.epoch], [.i .i64 (m.log.length : Int)], [.i .i64 m.said], [.i .i64 m.acked], [.i .i64 m.ackLife]]⟩]) := fun H B =>
    implNumbers (a := some (H.length + 1, 0)) (ns := [m.life, m.epoch, (m.log.length : Int), m.said, m.acked, m.ackLife]) (fun i row hr => ⟨H.length + 1, 0, ⟨3, .wr, _⟩, rfl, by simp [blkAt]; rfl, rfl, by simpa [encI] using hr⟩) (by
      intro n hn
      simp at hn
      rcases hn with rfl | rfl | rfl | rfl | rfl | rfl <;> first | assumption | (unfold I64; omega)) (by simp)
  have hlen := minderT_len (m := m) ⟨g1, g2, g3, g4, g5⟩ hl
  unfold minderT at hlen
  simp only [List.length_append] at hlen
  refine run_walk ok13 Tryd.func13 rfl (by simp [Tryd.f13]) fun Q hQ => ?_
  simp only [Tryd.f13, strip, stripL, stripI, stripG, chkT, tagsB, tagsL, tagD, addT, tagA, lookN, tagOp, elmT, ty32, ty37, ty43, ty48, ty56, ty57, ty58, ty59, ty65, ty66, ty67, ty74, ty80, ty97, Nat.reduceEqDiff, if_false, reduceIte, Option.getD_some, Option.getD_none, dstAt, dstOk, Nat.reduceLT, decide_true, if_true]
  cases hup : m.up
  all_goals simp [Minder.enc, hup, builtinV, pureB, lenV]
  all_goals rw [binV_add _ _ (by simp)]
  all_goals simp [Minder.enc, hup, builtinV, pureB, lenV, en]
  all_goals rw [binV_add _ _ (by simp [hup] at hlen ⊢; omega)]
  all_goals simp
  all_goals (refine hQ _ _ _ (by simp) ?_)
  all_goals (simp [Tryd.f13, leave, minderT, hup])

theorem specMinderText_is {H : Heap} {l : List Lf} {m : Minder} (h : RdMinder H l m) (hl : m.log.length ≤ 1048576) (hg : m.rg) : run env 11 [.agg l] H = some (.str (BA (minderT m)), H) := by
  obtain ⟨a, rfl, hs⟩ := h
  obtain ⟨ns, hns⟩ : ∃ ns : List Int, ns = [m.life, m.epoch, (m.log.length : Int), m.said, m.acked, m.ackLife] := ⟨_, rfl⟩
  have hnl : ns.length = 6 := by rw [hns]; rfl
  have hr : ∀ n ∈ ns, I64 n := by
    obtain ⟨g1, g2, g3, g4, g5⟩ := hg
    intro n hn
    rw [hns] at hn
    simp at hn
    rcases hn with rfl | rfl | rfl | rfl | rfl | rfl <;> first | assumption | (unfold I64; omega)
  obtain ⟨base, hbase⟩ : ∃ base : List UInt8, base = if m.up then [117, 112] else [100, 111, 119, 110] := ⟨_, rfl⟩
  have hbl : base.length ≤ 4 := by rw [hbase]; split <;> simp
  have hfin : base ++ (ns.map fun n => 32 :: Lib.itoa n).flatten = minderT m := by
    rw [hns, hbase, minderT]
    simp [Lib.join_cons, Lib.joinTail]
  have hlen : ∀ i, (base ++ ((ns.take i).map fun n => 32 :: Lib.itoa n).flatten).length ≤ 4 + 22 * i := by
    intro i
    induction i with
    | zero => simp; omega
    | succ i ih =>
      rw [List.take_add_one]
      cases hi : ns[i]? with
      | none => simp at ih ⊢; omega
      | some n =>
        have := itoa_len (hr n (List.mem_of_getElem? hi))
        simp at ih ⊢; omega
  refine run_walk ok11 Tryd.func11 rfl (by simp [Tryd.f11]) fun Q hQ => ?_
  simp only [Tryd.f11, strip, stripL, stripI, stripG, chkT, tagsB, tagsL, tagD, addT, tagA, lookN, tagOp, elmT, ty32, ty37, ty43, ty48, ty56, ty57, ty58, ty59, ty65, ty66, ty67, ty74, ty80, ty97, Nat.reduceEqDiff, if_false, reduceIte, Option.getD_some, Option.getD_none, dstAt, dstOk, Nat.reduceLT, decide_true, if_true]
  cases hup : m.up
  all_goals simp [Minder.enc, hup, builtinV, pureB, lenV]
  all_goals refine wpS_loop (fun j tm A => ∃ (i : Nat) (G : Heap), A = H ++ G ∧ i + j = 6 ∧ tm 3 = .str (BA (base ++ ((ns.take i).map fun n => 32 :: Lib.itoa n).flatten)) ∧ tm 4 = .sl (H.length + 1) 0 6 ∧ tm 5 = .int i ∧ blkAt A (H.length + 1) = some ⟨3, .wr, ns.map encI⟩) 6 (by rw [env_K]; omega) ⟨0, _, rfl, by simp, by simp [hbase, hup], by simp, by simp, by rw [hns]; simp [blkAt, encI]⟩ ?_
  all_goals rintro j tm A hj ⟨i, G, hA, hij, t3, t4, t5, hb⟩ Q2 hn2 he2 hr2
  all_goals simp [t3, t4, t5, builtinV, pureB, lenV]
  all_goals refine selS_intro (fun hc => ?_) (fun hc => ?_)
  all_goals simp at hc
  case false.refine_1 | true.refine_1 =>
    have hi6 : i < ns.length := by omega
    have hrow : (ns.map encI)[i]? = some (encI ns[i]) := by simp [hi6]
    have g4 : IntKind.i64.wrap ((i : Int) + 1) = (i : Int) + 1 := wrap64 (by omega) (by omega)
    have e1 := fun H => specDigits (H := H) (hr ns[i] (by simp))
    have h1 := hlen i
    have h2 := itoa_len (hr ns[i] (by simp))
    have hi6' : (i : Int) < 6 := by omega
    obtain ⟨acc, hacc⟩ : ∃ acc, acc = base ++ ((ns.take i).map fun n => 32 :: Lib.itoa n).flatten := ⟨_, rfl⟩
    rw [← hacc] at t3 h1
    have a1 := binV_add env.τ 9 (a := acc) (b := [32]) (by simp; omega)
    have a2 := binV_add env.τ 9 (a := acc ++ [32]) (b := Lib.itoa ns[i]) (by simp; omega)
    simp [t3, t4, t5, indexAddrV, elemIs, hb, hrow, encI, e1, a1, g4, hi6', hc]
    rw [a2]
    simp [t4, t5, g4]
    refine hn2 (j - 1) _ _ (by omega) ⟨i + 1, G, hA, by omega, ?_, by simp [t4], by simp, hb⟩
    have e : base ++ ((ns.take (i + 1)).map fun n => 32 :: Lib.itoa n).flatten = acc ++ [32] ++ Lib.itoa ns[i] := by
      rw [List.take_add_one, List.getElem?_eq_getElem hi6, hacc]
      simp only [Option.toList_some, List.map_append, List.flatten_append, List.map_cons, List.map_nil, List.flatten_cons, List.flatten_nil, List.append_assoc, List.append_nil, List.cons_append, List.nil_append]
    rw [e]
    simp
  case false.refine_2 | true.refine_2 =>
    have hi : i = 6 := by omega
    subst hi
    rw [List.take_of_length_le (by omega), hfin] at t3
    simp [hc, t3]
    refine he2 _ _ _ ?_
    simp [t3]
    refine hQ _ _ _ (by simp) ?_
    simp [Tryd.f11, leave, hA]

theorem shpMinder_rg {H : Heap} {k : Nat} {l : List Lf} (h : Shp Tryd.prog H (k + 5) 34 l) : ∃ x : Minder, RdLMinder H l x ∧ x.fit ∧ x.rg := by
  obtain ⟨_, _, rfl, h1, _, _, rfl, h2, _, _, rfl, h3, _, _, rfl, h4, _, _, rfl, h5, _, _, rfl, h6, _, _, rfl, h7, rfl⟩ := h.struct Tryd.underlying34
  obtain ⟨x1, rfl⟩ := h1.bool Tryd.underlying4
  obtain ⟨x2, rfl, r2⟩ := h2.i64 Tryd.underlying3
  obtain ⟨x3, rfl, r3⟩ := h3.i64 Tryd.underlying3
  obtain ⟨xs, a, rfl, hs, hl, -⟩ := h4.sl (f := In.enc) (R := fun _ => True) Tryd.underlying32 fun row hr => let ⟨x, hx⟩ := shpIn hr; ⟨x, hx, trivial⟩
  obtain ⟨x5, rfl, r5⟩ := h5.i64 Tryd.underlying3
  obtain ⟨x6, rfl, r6⟩ := h6.i64 Tryd.underlying3
  obtain ⟨x7, rfl, r7⟩ := h7.i64 Tryd.underlying3
  exact ⟨⟨x1, x2, x3, xs, x5, x6, x7⟩, ⟨a, rfl, hs⟩, hl, r2, r3, r5, r6, r7⟩

def bridgeT (b : Bridge) : List UInt8 := Lib.itoa b.id ++ [10] ++ (b.ports.map fun p => portT p ++ [10]).flatten
def Bridge.rg (b : Bridge) : Prop := I64 b.id ∧ ∀ p ∈ b.ports, p.rg
theorem shpBridge_rg {H : Heap} {k : Nat} {l : List Lf} (h : Shp Tryd.prog H (k + 5) 45 l) : ∃ x : Bridge, RdLBridge H l x ∧ x.fit ∧ x.rg := by
  obtain ⟨_, _, rfl, h1, _, _, rfl, h2, rfl⟩ := h.struct Tryd.underlying45
  obtain ⟨x1, rfl, r1⟩ := h1.i64 Tryd.underlying3
  obtain ⟨xs, a, rfl, hs, hl, hr⟩ := h2.sl (f := Port.enc) (R := Port.rg) Tryd.underlying43 fun row hr => shpPort_rg hr
  exact ⟨⟨x1, xs⟩, ⟨a, rfl, hs⟩, hl, r1, hr⟩
theorem bridgeT_len {b : Bridge} (h : b.rg) (i : Nat) : (Lib.itoa b.id ++ [10] ++ ((b.ports.take i).map fun p => portT p ++ [10]).flatten).length ≤ 22 + 121 * i := by
  have h0 := itoa_len h.1
  induction i with
  | zero => simp; omega
  | succ i ih =>
    rw [List.take_add_one]
    cases hi : b.ports[i]? with
    | none => simp at ih ⊢; omega
    | some p =>
      have := portT_len (h.2 p (List.mem_of_getElem? hi))
      simp at ih ⊢; omega

def gateT (b : Bool) : List UInt8 := if b then [32, 111] else [32, 115]
def boxHead (x : Box) : List UInt8 := [114, 101, 103, 32] ++ Lib.itoa x.reg.epoch ++ [32] ++ Lib.itoa x.reg.owner ++ [32] ++ Lib.itoa x.reg.pair ++ [10]
def boxA (x : Box) (i : Nat) : List UInt8 := boxHead x ++ ((x.two.take i).map fun m => minderT m ++ [10]).flatten
def boxB (x : Box) : List UInt8 := boxA x x.two.length ++ [108, 105, 110, 101, 32] ++ Lib.itoa (x.line.length : Int)
def boxC (x : Box) (i : Nat) : List UInt8 := boxB x ++ ((x.gates.take i).map gateT).flatten
def boxT (x : Box) : List UInt8 := boxC x x.gates.length ++ [10]
def Box.rg (x : Box) : Prop := I64 x.reg.epoch ∧ I64 x.reg.owner ∧ I64 x.reg.pair ∧ ∀ m ∈ x.two, m.rg
theorem boxA_succ {x : Box} {i : Nat} (hi : i < x.two.length) : boxA x (i + 1) = boxA x i ++ minderT x.two[i] ++ [10] := by
  unfold boxA
  rw [List.take_add_one, List.getElem?_eq_getElem hi]
  simp only [Option.toList_some, List.map_append, List.flatten_append, List.map_cons, List.map_nil, List.flatten_cons, List.flatten_nil, List.append_assoc, List.append_nil]
theorem boxC_succ {x : Box} {i : Nat} (hi : i < x.gates.length) : boxC x (i + 1) = boxC x i ++ gateT x.gates[i] := by
  unfold boxC
  rw [List.take_add_one, List.getElem?_eq_getElem hi]
  simp only [Option.toList_some, List.map_append, List.flatten_append, List.map_cons, List.map_nil, List.flatten_cons, List.flatten_nil, List.append_assoc, List.append_nil]
theorem logOf {x : Box} (hn : x.sz ≤ 1048576) : ∀ m ∈ x.two, m.log.length ≤ 1048576 := by
  intro m hm
  have := MinderS.sz_at hm
  unfold Box.sz at hn
  unfold Minder.sz at this
  omega
theorem boxHead_len {x : Box} (h : x.rg) : (boxHead x).length ≤ 80 := by
  have h1 := itoa_len h.1
  have h2 := itoa_len h.2.1
  have h3 := itoa_len h.2.2.1
  simp [boxHead]; omega
theorem boxA_len {x : Box} (h : x.rg) (hn : x.sz ≤ 1048576) (i : Nat) : (boxA x i).length ≤ 80 + 141 * i := by
  have h0 := boxHead_len h
  induction i with
  | zero => simp [boxA]; omega
  | succ i ih =>
    by_cases hi : i < x.two.length
    · have h1 := minderT_len (h.2.2.2 _ (List.getElem_mem hi)) (logOf hn _ (List.getElem_mem hi))
      rw [boxA_succ hi]
      simp; omega
    · have : boxA x (i + 1) = boxA x i := by unfold boxA; rw [List.take_of_length_le (by omega), List.take_of_length_le (by omega)]
      rw [this]; omega
theorem gateT_len (b : Bool) : (gateT b).length = 2 := by cases b <;> rfl
theorem boxB_len {x : Box} (h : x.rg) (hn : x.sz ≤ 1048576) : (boxB x).length ≤ 200000000 := by
  have h0 := boxA_len h hn x.two.length
  have h1 : x.two.length ≤ 1048576 := by have := MinderS.sz_len x.two; unfold Box.sz at hn; omega
  have h2 := itoa_len (n := (x.line.length : Int)) (by unfold Box.sz at hn; unfold I64; omega)
  simp [boxB]; omega
theorem boxC_len {x : Box} (h : x.rg) (hn : x.sz ≤ 1048576) (i : Nat) : (boxC x i).length ≤ 200000000 + 2 * i := by
  have h0 := boxB_len h hn
  induction i with
  | zero => simp [boxC]; omega
  | succ i ih =>
    by_cases hi : i < x.gates.length
    · rw [boxC_succ hi]
      have := gateT_len x.gates[i]
      simp; omega
    · have : boxC x (i + 1) = boxC x i := by unfold boxC; rw [List.take_of_length_le (by omega), List.take_of_length_le (by omega)]
      rw [this]; omega

theorem specBoxText_is {H : Heap} {l : List Lf} {x : Box} (h : RdBox H l x) (hn : x.sz ≤ 1048576) (hg : x.rg) : run env 21 [.agg l] H = some (.str (BA (boxT x)), H) := by
  obtain ⟨q0, q1, q2, q3, q4, rfl, hm, -, ⟨a2, rfl, hs2⟩, ⟨a3, rfl, hs3⟩, -⟩ := h
  obtain ⟨a, rws, rfl, hs, hrl, hat⟩ := hm
  have e1 := fun H => specDigits (H := H) hg.1
  have e2 := fun H => specDigits (H := H) hg.2.1
  have e3 := fun H => specDigits (H := H) hg.2.2.1
  have h1 := itoa_len hg.1
  have h2 := itoa_len hg.2.1
  have h3 := itoa_len hg.2.2.1
  refine run_walk ok21 Tryd.func21 rfl (by simp [Tryd.f21]) fun Q hQ => ?_
  simp only [Tryd.f21, strip, stripL, stripI, stripG, chkT, tagsB, tagsL, tagD, addT, tagA, lookN, tagOp, elmT, ty32, ty37, ty43, ty48, ty56, ty57, ty58, ty59, ty65, ty66, ty67, ty74, ty80, ty97, Nat.reduceEqDiff, if_false, reduceIte, Option.getD_some, Option.getD_none, dstAt, dstOk, Nat.reduceLT, decide_true, if_true]
  simp (disch := ((try simp); (try omega))) [Box.enc, e1, e2, e3, binV_add]
  have hgl : x.gates.length ≤ 1048576 := by unfold Box.sz at hn; omega
  have htl : x.two.length ≤ 1048576 := by have := MinderS.sz_len x.two; unfold Box.sz at hn; omega
  have hll : I64 (x.line.length : Int) := by unfold Box.sz at hn; unfold I64; omega
  refine wpS_loop (fun j tm A => ∃ (i : Nat), A = H ++ [some ⟨69, .wr, [x.enc (.sl a x.two.length) q1 (.sl a2 x.gates.length) (.sl a3 x.line.length) q4]⟩] ∧ i + j = x.two.length ∧ tm 1 = .ptr H.length 0 0 ∧ tm 3 = .str (BA (boxA x i)) ∧ tm 4 = .int i) x.two.length (by rw [env_K]; omega) ⟨0, rfl, by simp, by simp, by simp [boxA, boxHead], by simp⟩ ?_
  rintro j tm A hj ⟨i, hA, hij, t1, t3, t4⟩ Q2 hn2 he2 hr2
  have hb : blkAt A H.length = some ⟨69, .wr, [x.enc (.sl a x.two.length) q1 (.sl a2 x.gates.length) (.sl a3 x.line.length) q4]⟩ := by rw [hA]; simp
  simp [t1, t3, t4, hb, Box.enc, builtinV, pureB, lenV]
  refine selS_intro (fun hc => ?_) (fun hc => ?_)
  · simp at hc
    have hi' : i < rws.length := by omega
    have hsA : Sl A 39 a rws := by rw [hA]; exact hs.app _
    have hmi : RdMinder A rws[i] x.two[i] := by rw [hA]; exact (hat i rws[i] x.two[i] (List.getElem?_eq_getElem hi') (List.getElem?_eq_getElem hc)).app _
    obtain ⟨id, r, bl, rfl, hbl, hbe, hrow⟩ := hsA i _ (List.getElem?_eq_getElem hi')
    have hlr := hmi.len
    have hlt : rws[i].take rws[i].length = rws[i] := List.take_length
    rw [hlr] at hlt
    have g4 : IntKind.i64.wrap ((i : Int) + 1) = (i : Int) + 1 := wrap64 (by omega) (by omega)
    have e4 := specMinderText_is hmi (logOf hn _ (List.getElem_mem hc)) (hg.2.2.2 _ (List.getElem_mem hc))
    have l1 := boxA_len hg hn i
    have l2 := minderT_len (hg.2.2.2 _ (List.getElem_mem hc)) (logOf hn _ (List.getElem_mem hc))
    have l3 : i ≤ 1048576 := by omega
    simp [t1, t3, t4, hb, Box.enc, builtinV, pureB, lenV, indexAddrV, elemIs, hbl, hbe, hc, hrow, hlr, hlt, e4, g4]
    rw [binV_add _ _ (by omega)]
    simp [t1, t3, t4]
    rw [binV_add _ _ (by simp; omega)]
    simp [t1, t4, g4]
    exact hn2 (j - 1) _ _ (by omega) ⟨i + 1, hA, by omega, by simp [t1], by rw [boxA_succ hc]; simp, by simp⟩
  · simp at hc
    have hi : i = x.two.length := by omega
    subst hi
    simp [t1, t3, t4]
    refine he2 _ _ _ ?_
    have e5 := fun H => specDigits (H := H) hll
    have h4 := itoa_len hll
    have l1 := boxA_len hg hn x.two.length
    simp (disch := ((try simp); (try omega))) [t1, t3, t4, hb, Box.enc, builtinV, pureB, lenV, e5, binV_add]
    have hbB : boxA x x.two.length ++ ([108, 105, 110, 101, 32] ++ Lib.itoa (x.line.length : Int)) = boxB x := by unfold boxB; simp
    refine wpS_loop (fun j tm A => ∃ (i : Nat), A = H ++ [some ⟨69, .wr, [x.enc (.sl a x.two.length) q1 (.sl a2 x.gates.length) (.sl a3 x.line.length) q4]⟩] ∧ i + j = x.gates.length ∧ tm 1 = .ptr H.length 0 0 ∧ tm 3 = .str (BA (boxC x i)) ∧ tm 5 = .int i) x.gates.length (by rw [env_K]; omega) ⟨0, hA, by simp, by simp [t1], by simp [boxC, boxB], by simp⟩ ?_
    clear t1 t3 t4 hb hA hn2 he2 hr2
    rintro j tm A hj ⟨i, hA, hij, t1, t3, t5⟩ Q2 hn2 he2 hr2
    have hb : blkAt A H.length = some ⟨69, .wr, [x.enc (.sl a x.two.length) q1 (.sl a2 x.gates.length) (.sl a3 x.line.length) q4]⟩ := by rw [hA]; simp
    simp [t1, t3, t5, hb, Box.enc, builtinV, pureB, lenV]
    refine selS_intro (fun hc => ?_) (fun hc => ?_)
    · simp at hc
      have hsA : Sl A 4 a2 (x.gates.map encB) := by rw [hA]; exact hs2.app _
      obtain ⟨id, r, bl, rfl, hbl, hbe, hrow⟩ := hsA i _ (by simp [hc]; rfl)
      have g4 : IntKind.i64.wrap ((i : Int) + 1) = (i : Int) + 1 := wrap64 (by omega) (by omega)
      have l1 := boxC_len hg hn i
      have hsu := boxC_succ hc
      cases hgi : x.gates[i]
      all_goals simp [t1, t3, t5, hb, Box.enc, builtinV, pureB, lenV, indexAddrV, elemIs, hbl, hbe, hc, hrow, hgi, encB, g4]
      all_goals rw [binV_add _ _ (by simp; omega)]
      all_goals simp [t1, t5, g4]
      all_goals exact hn2 (j - 1) _ _ (by omega) ⟨i + 1, hA, by omega, by simp [t1], by rw [hsu, hgi]; simp [gateT], by simp⟩
    · simp at hc
      have hi : i = x.gates.length := by omega
      subst hi
      have l1 := boxC_len hg hn x.gates.length
      simp [t1, t3, t5]
      refine he2 _ _ _ ?_
      simp [t3]
      rw [binV_add _ _ (by simp; omega)]
      simp
      refine hQ _ _ _ (by simp) ?_
      simp [Tryd.f21, leave, hA, boxT]

abbrev u8row (b : UInt8) : List Lf := [.i .u8 (b.toNat : Int)]
/-- A strings.Builder that holds these bytes. -/
def Bld (H : Heap) (id : Nat) (bs : List UInt8) (fd : List Nat) : Prop := ∃ pa aa, blkAt H id = some ⟨99, .wr, [[.p pa, .sl aa bs.length]]⟩ ∧ (pa = none ∨ pa = some (id, 0, 0)) ∧ Own H 5 aa (bs.map u8row) fd ∧ id ∉ fd
theorem byteRows_BA (s : List UInt8) : byteRows (BA s) = s.map u8row := rfl
theorem copyCheck_run {H : Heap} {id : Nat} {bs : List UInt8} {fd : List Nat} (h : Bld H id bs fd) : ∃ H' aa, run env 64 [.ptr id 0 0] H = some (.tup [], H') ∧ Keep [id] H H' ∧ blkAt H' id = some ⟨99, .wr, [[.p (some (id, 0, 0)), .sl aa bs.length]]⟩ ∧ Own H' 5 aa (bs.map u8row) fd := by
  obtain ⟨pa, aa, hb, hp, ho, hid⟩ := h
  have hx : ∀ args H, env.ext 64 args H = checkX args H := fun args H => rfl
  have hnw : noW 99 = false := rfl
  rcases hp with rfl | rfl
  · refine ⟨H.set id (some ⟨99, .wr, [[.p (some (id, 0, 0)), .sl aa bs.length]]⟩), aa, run_ext nok64 ?_, Keep.set _ _, ?_, ho.keep (Keep.set _ _) (fun i hi h => by simp at h; subst h; exact hid hi)⟩
    · rw [hx]
      simp [checkX, hb, hnw]
    · have := blkAt_len hb
      simp [blkAt, this]
  · refine ⟨H, aa, run_ext nok64 ?_, Keep.refl _ _, hb, ho⟩
    rw [hx]
    simp [checkX, hb, hnw]
theorem stpL_appendStr {call : Fun} {draw : Bool} {tm : T} {Q : Ex → T → Heap → Prop} {fr : List Fr} {is : List I2} {H : Heap} {a : Option (Nat × Nat)} {bs s : List UInt8} {fp : List Nat} {d : Option Nat} (ho : Own H 5 a (bs.map u8row) fp) (hsz : bs.length + s.length ≤ 140737488355328)
    (hk : ∀ a' H' fp', Own H' 5 a' ((bs ++ s).map u8row) fp' → Keep fp H H' → (∀ i ∈ fp', i ∈ fp ∨ H.length ≤ i) → stpL env call (some (.w (.lf (.sl a' (bs ++ s).length)), H')) d draw is fr tm Q) :
    stpL env call (appendStr env.τ H [97, 9] [.w (.lf (.sl a bs.length)), .w (.lf (.s (BA s)))]) d draw is fr tm Q := by
  obtain ⟨a', H', fp', h1, h2, h3, h4⟩ := append_own (τ := env.τ) (ys := s.map u8row) (len := bs.length) ho ty5 (by simp) (by simp; omega) (by simp)
  have e : appendStr env.τ H [97, 9] [.w (.lf (.sl a bs.length)), .w (.lf (.s (BA s)))] = some (.w (.lf (.sl a' (bs ++ s).length)), H') := by
    show appendV env.τ 5 H a bs.length (byteRows (BA s)) = _
    rw [byteRows_BA, h1]
    simp
  rw [e]
  exact hk a' H' fp' (by simpa using h2) h3 h4

theorem writeString {H : Heap} {id : Nat} {bs s : List UInt8} {fd : List Nat} (h : Bld H id bs fd) (hl : bs.length + s.length ≤ 140737488355328) :
    Runs env 49 [.ptr id 0 0, .str (BA s)] H fun v H' => ∃ fd', Bld H' id (bs ++ s) fd' ∧ Keep (id :: fd) H H' ∧ ∀ i ∈ fd', i ∈ fd ∨ H.length ≤ i := by
  obtain ⟨H1, aa, hr, hk1, hb1, ho1⟩ := copyCheck_run h
  obtain ⟨pa, a0, hb0, -, -, hid⟩ := h
  have hid0 := blkAt_len hb0
  refine Runs.walk_bad ok49 Tryd.func49 rfl (by simp [Tryd.f49]) rfl fun Q hQ => ?_
  simp only [Tryd.f49, strip, stripL, stripI, stripG, chkT, tagsB, tagsL, tagD, addT, tagA, lookN, tagOp, elmT, ty32, ty37, ty43, ty48, ty56, ty57, ty58, ty59, ty65, ty66, ty67, ty74, ty80, ty97, Nat.reduceEqDiff, if_false, reduceIte, Option.getD_some, Option.getD_none, dstAt, dstOk, Nat.reduceLT, decide_true, if_true]
  simp [hr, hb1]
  refine stpL_appendStr ho1 hl fun a2 E fc hoE hkE hfE => ?_
  have hbE : blkAt E id = some ⟨99, .wr, [[.p (some (id, 0, 0)), .sl aa bs.length]]⟩ := hkE.blk hb1 hid
  have hidE := blkAt_len hbE
  simp [hbE, storeV, putRow, builtinV, pureB, lenV]
  refine hQ _ _ _ (by simp) (by simp [Tryd.f49, resT, ofVal, lfOf]) ?_
  have hl1 := hk1.1
  have hidc : id ∉ fc := fun h => by
    rcases hfE id h with h | h
    · exact hid h
    · omega
  have kS : ∀ y, Keep [id] E (E.set id y) := fun y => Keep.set _ _
  refine ⟨fc, ⟨some (id, 0, 0), a2, by simp [blkAt, hidE], .inr rfl, hoE.keep (kS _) (fun i hi h => by simp at h; subst h; exact hidc hi), hidc⟩, ?_, ?_⟩
  · exact (hk1.trans hkE (h := id :: fd) (by simp) (by intro i hi _; simp [hi])).trans (kS _) (by intro i hi _; exact hi) (by simp)
  · intro i hi
    rcases hfE i hi with h | h
    · exact .inl h
    · exact .inr (by omega)

theorem writeByte {H : Heap} {id : Nat} {bs : List UInt8} {fd : List Nat} (h : Bld H id bs fd) (c : UInt8) (hl : bs.length + 1 ≤ 140737488355328) :
    Runs env 50 [.ptr id 0 0, .w (.lf (.i .u8 (c.toNat : Int)))] H fun v H' => ∃ fd', Bld H' id (bs ++ [c]) fd' ∧ Keep (id :: fd) H H' ∧ ∀ i ∈ fd', i ∈ fd ∨ H.length ≤ i := by
  obtain ⟨H1, aa, hr, hk1, hb1, ho1⟩ := copyCheck_run h
  obtain ⟨pa, a0, hb0, -, -, hid⟩ := h
  have hid0 := blkAt_len hb0
  refine Runs.walk_bad ok50 Tryd.func50 rfl (by simp [Tryd.f50]) rfl fun Q hQ => ?_
  simp only [Tryd.f50, strip, stripL, stripI, stripG, chkT, tagsB, tagsL, tagD, addT, tagA, lookN, tagOp, elmT, ty32, ty37, ty43, ty48, ty56, ty57, ty58, ty59, ty65, ty66, ty67, ty74, ty80, ty97, Nat.reduceEqDiff, if_false, reduceIte, Option.getD_some, Option.getD_none, dstAt, dstOk, Nat.reduceLT, decide_true, if_true]
  simp [hr, hb1]
  refine stpL_append (e := 5) (rows := bs.map u8row) (ys := [u8row c]) (ho1.app _) (Sl.of (by simp)) rfl rfl rfl (by simp) (by simp; omega) (by simp) rfl fun a2 E fc hoE hkE hfE => ?_
  have hid1 := blkAt_len hb1
  have hbE : blkAt E id = some ⟨99, .wr, [[.p (some (id, 0, 0)), .sl aa bs.length]]⟩ := hkE.blk (blkAt_app hb1 _) hid
  have hidE := blkAt_len hbE
  simp [hbE, storeV, putRow]
  refine hQ _ _ _ (by simp) (by simp [Tryd.f50, resT, ofVal, lfOf]) ?_
  have hl1 := hk1.1
  have hidc : id ∉ fc := fun h => by
    rcases hfE id h with h | h
    · exact hid h
    · simp at h; omega
  have kS : ∀ y, Keep [id] E (E.set id y) := fun y => Keep.set _ _
  refine ⟨fc, ⟨some (id, 0, 0), a2, by simp [blkAt, hidE], .inr rfl, ?_, hidc⟩, ?_, ?_⟩
  · rw [List.map_append]
    exact hoE.keep (kS _) (fun i hi h => by simp at h; subst h; exact hidc hi)
  · exact (hk1.trans hkE.base (h := id :: fd) (by simp) (by intro i hi _; simp [hi])).trans (kS _) (by intro i hi _; exact hi) (by simp)
  · intro i hi
    rcases hfE i hi with h | h
    · exact .inl h
    · simp at h; exact .inr (by omega)

theorem builderString {H : Heap} {id : Nat} {bs : List UInt8} {fd : List Nat} (h : Bld H id bs fd) (h0 : bs ≠ []) (hl : bs.length ≤ 140737488355328) :
    ∃ H', run env 51 [.ptr id 0 0] H = some (.str (BA bs), H') ∧ Keep fd H H' := by
  obtain ⟨pa, aa, hb, -, ho, hid⟩ := h
  have hnw : noW 99 = false := rfl
  obtain ⟨i2, b2, rfl, rfl, hb2, he, hm, hpre⟩ := ho.blk (by simpa using h0)
  have hne : bs.length ≠ 0 := by simpa using h0
  have hlen := hpre.length_le
  simp at hlen
  have hbv : ∀ l : List UInt8, bytesV (l.map u8row) = some l := by
    intro l
    induction l with
    | nil => rfl
    | cons c l ih =>
      have h1 := UInt8.toNat_lt c
      have h2 : (0 : Int) ≤ (c.toNat : Int) ∧ (c.toNat : Int) < 256 := by omega
      simp [bytesV, ih, h2]
  have htk : b2.rows.take bs.length = bs.map u8row := by
    obtain ⟨t, ht⟩ := hpre
    rw [← ht, List.take_append_of_le_length (by simp), List.take_of_length_le (by simp)]
  refine ⟨H.set i2 none, run_ext nok51 ?_, Keep.set _ _⟩
  have hx : ∀ args H, env.ext 51 args H = bstrX 5 args H := fun args H => rfl
  rw [hx]
  simp [bstrX, hb, hnw, hb2, he, hm, hne, hl, hlen, htk, hbv]

theorem Bld.app {H : Heap} {id : Nat} {bs : List UInt8} {fd : List Nat} (h : Bld H id bs fd) (G : Heap) : Bld (H ++ G) id bs fd := by
  obtain ⟨pa, aa, hb, hp, ho, hid⟩ := h
  exact ⟨pa, aa, blkAt_app hb G, hp, ho.app G, hid⟩
theorem Bld.new {H : Heap} {id : Nat} (hb : blkAt H id = some ⟨99, .wr, [[.p none, .sl none 0]]⟩) : Bld H id [] [] := ⟨none, none, hb, .inl rfl, Own.nil _ _, by simp⟩
theorem Bld.cast {H : Heap} {id : Nat} {bs bs' : List UInt8} {fd : List Nat} (h : Bld H id bs fd) (e : bs = bs') : Bld H id bs' fd := e ▸ h

theorem implBoxText_is {H : Heap} {l : List Lf} {x : Box} (h : RdBox H l x) (hn : x.sz ≤ 1048576) (hg : x.rg) : run env 23 [.agg l] H = some (.str (BA (boxT x)), H) := by
  obtain ⟨q0, q1, q2, q3, q4, rfl, hm, -, ⟨a2, rfl, hs2⟩, ⟨a3, rfl, hs3⟩, -⟩ := h
  obtain ⟨a, rws, rfl, hs, hrl, hat⟩ := hm
  have hgl : x.gates.length ≤ 1048576 := by unfold Box.sz at hn; omega
  have htl : x.two.length ≤ 1048576 := by have := MinderS.sz_len x.two; unfold Box.sz at hn; omega
  have hll : I64 (x.line.length : Int) := by unfold Box.sz at hn; unfold I64; omega
  obtain ⟨ns, hns⟩ : ∃ ns : List Int, ns = [x.reg.epoch, x.reg.owner, x.reg.pair] := ⟨_, rfl⟩
  have hnr : ∀ n ∈ ns, I64 n := by
    obtain ⟨r1, r2, r3, -⟩ := hg
    intro n hn
    rw [hns] at hn
    simp at hn
    rcases hn with rfl | rfl | rfl <;> assumption
  have hhead : [114, 101, 103, 32] ++ Lib.join (ns.map Lib.itoa) [32] ++ [10] = boxHead x := by
    rw [hns, boxHead]
    simp [Lib.join_cons, Lib.joinTail]
  have hhl := boxHead_len hg
  have hjl : (Lib.join (ns.map Lib.itoa) [32]).length ≤ 80 := by rw [← hhead] at hhl; simp at hhl; omega
  obtain ⟨bx, hbx⟩ : ∃ bx : Blk, bx = ⟨69, .wr, [x.enc (.sl a x.two.length) q1 (.sl a2 x.gates.length) (.sl a3 x.line.length) q4]⟩ := ⟨_, rfl⟩
  have en : ∀ (H : Heap) (B C : Option Blk), run env 35 [.sl (H.length + 2) 0 3] (H ++ [B, C, some ⟨3, .wr, [[.i .i64 x.reg.epoch], [.i .i64 x.reg.owner], [.i .i64 x.reg.pair]]⟩]) =
      some (.str (BA (Lib.join (ns.map Lib.itoa) [32])), H ++ [B, C, some ⟨3, .wr, [[.i .i64 x.reg.epoch], [.i .i64 x.reg.owner], [.i .i64 x.reg.pair]]⟩]) := fun H B C => by
    have h3 : ns.length = 3 := by rw [hns]; rfl
    have := implNumbers (H := H ++ [B, C, some ⟨3, .wr, [[.i .i64 x.reg.epoch], [.i .i64 x.reg.owner], [.i .i64 x.reg.pair]]⟩]) (a := some (H.length + 2, 0)) (ns := ns) (fun i row hr => ⟨H.length + 2, 0, ⟨3, .wr, [[.i .i64 x.reg.epoch], [.i .i64 x.reg.owner], [.i .i64 x.reg.pair]]⟩, rfl, by simp [blkAt], rfl, by rw [hns] at hr; simpa [encI] using hr⟩) hnr (by rw [h3]; omega)
    rw [h3] at this
    exact this
  refine run_walk ok23 Tryd.func23 rfl (by simp [Tryd.f23]) fun Q hQ => ?_
  simp only [Tryd.f23, strip, stripL, stripI, stripG, chkT, tagsB, tagsL, tagD, addT, tagA, lookN, tagOp, elmT, ty32, ty37, ty43, ty48, ty56, ty57, ty58, ty59, ty65, ty66, ty67, ty74, ty80, ty97, Nat.reduceEqDiff, if_false, reduceIte, Option.getD_some, Option.getD_none, dstAt, dstOk, Nat.reduceLT, decide_true, if_true]
  simp [Box.enc, en]
  rw [binV_add _ _ (by simp; omega)]
  simp
  rw [binV_add _ _ (by simp; omega)]
  simp
  refine stpL_runs (writeString (Bld.new (by simp)) (by simp; omega)) ?_
  rintro _ A ⟨fd, hB, hK, hF⟩
  have kA : Keep [] H A := (Keep.app [] H _).next hK (by simp)
  have bA : blkAt A H.length = some bx := hK.blk (by rw [hbx]; simp [Box.enc]) (by simp)
  have dA : ∀ k ∈ fd, H.length + 2 ≤ k := fun k hk => by
    rcases hF k hk with h | h
    · simp at h
    · simp at h; omega
  replace hB := hB.cast (bs' := boxA x 0) (by rw [← hhead.trans (by simp [boxA] : boxHead x = boxA x 0)]; simp)
  clear hK hF
  have hnA := blkAt_len bA
  rw [hbx] at bA
  simp [bA, Box.enc, builtinV, pureB, lenV]
  rw [← hbx] at bA
  refine wpS_loop (fun j tm A => ∃ (i : Nat) (fd : List Nat), i + j = x.two.length ∧ Bld A (H.length + 1) (boxA x i) fd ∧ (∀ k ∈ fd, H.length + 2 ≤ k) ∧ Keep [] H A ∧ blkAt A H.length = some bx ∧ tm 1 = .ptr H.length 0 0 ∧ tm 3 = .ptr (H.length + 1) 0 0 ∧ tm 23 = .w (.lf (.sl a x.two.length)) ∧ tm 24 = .int x.two.length ∧ tm 25 = .int i) x.two.length (by rw [env_K]; omega) ⟨0, fd, by simp, hB, dA, kA, bA, by simp, by simp, by simp, by simp, by simp⟩ ?_
  clear hB dA kA bA hnA
  rintro j tm A hj ⟨i, fd, hij, hB, dA, kA, bA, t1, t3, t23, t24, t25⟩ Q2 hn2 he2 hr2
  simp [t1, t3, t23, t24, t25]
  refine selS_intro (fun hc => ?_) (fun hc => ?_)
  · simp at hc
    have hi' : i < rws.length := by omega
    have hsA : Sl A 39 a rws := hs.keep kA (by simp)
    have hmi : RdMinder A rws[i] x.two[i] := (hat i rws[i] x.two[i] (List.getElem?_eq_getElem hi') (List.getElem?_eq_getElem hc)).base kA
    obtain ⟨id, r, bl, rfl, hbl, hbe, hrow⟩ := hsA i _ (List.getElem?_eq_getElem hi')
    have hlr := hmi.len
    have hlt : rws[i].take rws[i].length = rws[i] := List.take_length
    rw [hlr] at hlt
    have g4 : IntKind.i64.wrap ((i : Int) + 1) = (i : Int) + 1 := wrap64 (by omega) (by omega)
    have e4 := fun G => implMinderText_is (hmi.app G) (logOf hn _ (List.getElem_mem hc)) (hg.2.2.2 _ (List.getElem_mem hc))
    have l1 := boxA_len hg hn i
    have l2 := minderT_len (hg.2.2.2 _ (List.getElem_mem hc)) (logOf hn _ (List.getElem_mem hc))
    have hid := blkAt_len hbl
    have hbl2 := fun G => blkAt_app hbl G
    simp [t3, t23, t24, t25, indexAddrV, elemIs, hbl, hbe, hc, hrow, hlr, hlt, e4, storeV, putRow]
    rw [binV_add _ _ (by simp; omega)]
    simp [t3]
    refine stpL_runs (writeString (hB.app _) (by simp; omega)) ?_
    rintro _ E ⟨fd2, hB2, hK2, hF2⟩
    have dK : ∀ k ∈ (H.length + 1) :: fd, H.length ≤ k := fun k hk => by
      rcases List.mem_cons.1 hk with rfl | hk
      · omega
      · have := dA k hk; omega
    have kE : Keep [] H E := (kA.next (Keep.app [] _ _) (by simp)).next hK2 dK
    have bE : blkAt E H.length = some bx := hK2.blk (blkAt_app bA _) (fun h => by
      rcases List.mem_cons.1 h with h | h
      · omega
      · have := dA _ h; omega)
    have hlA := blkAt_len bA
    have hbdA := hB
    obtain ⟨_, _, hbA, -⟩ := hbdA
    have hlB := blkAt_len hbA
    simp [t25, g4]
    exact hn2 (j - 1) _ _ (by omega) ⟨i + 1, fd2, by omega, hB2.cast (by rw [boxA_succ hc]; simp), fun k hk => by
      rcases hF2 k hk with h | h
      · exact dA k h
      · simp at h; omega, kE, bE, by simp [t1], by simp [t3], by simp [t23], by simp [t24], by simp⟩
  · simp at hc
    have hi : i = x.two.length := by omega
    subst hi
    simp [t1, t3]
    refine he2 _ _ _ ?_
    have e5 := fun H => implDigits (H := H) hll
    have h4 := itoa_len hll
    have l1 := boxA_len hg hn x.two.length
    have bA2 := bA
    rw [hbx] at bA2
    simp [t1, t3, bA2, Box.enc, builtinV, pureB, lenV, e5]
    rw [binV_add _ _ (by simp; omega)]
    simp [t1, t3]
    refine stpL_runs (writeString hB (by simp; omega)) ?_
    rintro _ E ⟨fd2, hB2, hK2, hF2⟩
    have dK : ∀ k ∈ (H.length + 1) :: fd, H.length ≤ k := fun k hk => by
      rcases List.mem_cons.1 hk with rfl | hk
      · omega
      · have := dA k hk; omega
    have kE : Keep [] H E := kA.next hK2 dK
    have bE : blkAt E H.length = some bx := hK2.blk bA (fun h => by
      rcases List.mem_cons.1 h with h | h
      · omega
      · have := dA _ h; omega)
    have hbdA := hB
    obtain ⟨_, _, hbA, -⟩ := hbdA
    have hlB := blkAt_len hbA
    have dE : ∀ k ∈ fd2, H.length + 2 ≤ k := fun k hk => by
      rcases hF2 k hk with h | h
      · exact dA k h
      · omega
    replace hB := hB2.cast (bs' := boxC x 0) (by simp [boxC, boxB])
    clear hB2 hK2 hF2 dK hbA hlB bA2
    have bE2 := bE
    rw [hbx] at bE2
    simp [t1, bE2, Box.enc, builtinV, pureB, lenV]
    refine wpS_loop (fun j tm A => ∃ (i : Nat) (fd : List Nat), i + j = x.gates.length ∧ Bld A (H.length + 1) (boxC x i) fd ∧ (∀ k ∈ fd, H.length + 2 ≤ k) ∧ Keep [] H A ∧ tm 3 = .ptr (H.length + 1) 0 0 ∧ tm 41 = .w (.lf (.sl a2 x.gates.length)) ∧ tm 42 = .int x.gates.length ∧ tm 43 = .int i) x.gates.length (by rw [env_K]; omega) ⟨0, fd2, by simp, hB, dE, kE, by simp [t3], by simp, by simp, by simp⟩ ?_
    clear hB dA kA bA t1 t3 t23 t24 t25 hn2 he2 hr2 dE kE bE bE2
    rintro j tm A hj ⟨i, fd, hij, hB, dA, kA, t3, t41, t42, t43⟩ Q2 hn2 he2 hr2
    have dK : ∀ k ∈ (H.length + 1) :: fd, H.length ≤ k := fun k hk => by
      rcases List.mem_cons.1 hk with rfl | hk
      · omega
      · have := dA k hk; omega
    have hbdA := hB
    obtain ⟨_, _, hbA, -⟩ := hbdA
    have hlB := blkAt_len hbA
    simp [t3, t41, t42, t43]
    refine selS_intro (fun hc => ?_) (fun hc => ?_)
    · simp at hc
      have hsA : Sl A 4 a2 (x.gates.map encB) := hs2.keep kA (by simp)
      obtain ⟨id, r, bl, rfl, hbl, hbe, hrow⟩ := hsA i _ (by simp [hc]; rfl)
      have g4 : IntKind.i64.wrap ((i : Int) + 1) = (i : Int) + 1 := wrap64 (by omega) (by omega)
      have l1 := boxC_len hg hn i
      have hsu := boxC_succ hc
      cases hgi : x.gates[i]
      all_goals simp [t3, t41, t42, t43, indexAddrV, elemIs, hbl, hbe, hc, hrow, hgi, encB]
      all_goals refine stpL_runs (writeString hB (by simp; omega)) ?_
      all_goals rintro _ E ⟨fd2, hB2, hK2, hF2⟩
      all_goals simp [t43, g4]
      all_goals exact hn2 (j - 1) _ _ (by omega) ⟨i + 1, fd2, by omega, hB2.cast (by rw [hsu, hgi]; simp [gateT]), fun k hk => by
        rcases hF2 k hk with h | h
        · exact dA k h
        · omega, kA.next hK2 dK, by simp [t3], by simp [t41], by simp [t42], by simp⟩
    · simp at hc
      have hi : i = x.gates.length := by omega
      subst hi
      have l1 := boxC_len hg hn x.gates.length
      simp [t3]
      refine he2 _ _ _ ?_
      simp [t3]
      refine stpL_runs (writeByte hB 10 (by omega)) ?_
      rintro _ E ⟨fd2, hB2, hK2, hF2⟩
      have kE : Keep [] H E := kA.next hK2 dK
      obtain ⟨F, hr, hkF⟩ := builderString hB2 (by simp) (by simp; omega)
      have kF : Keep [] H F := kE.next hkF fun k hk => by
        rcases hF2 k hk with h | h
        · have := dA k h; omega
        · omega
      simp [t3, hr]
      refine hQ _ _ _ (by simp) ?_
      obtain ⟨G, rfl⟩ := kF.ext
      simp [Tryd.f23, leave, boxT]

theorem shpReg_rg {H : Heap} {k : Nat} {l : List Lf} (h : Shp Tryd.prog H (k + 2) 55 l) : ∃ x : Reg, l = x.enc ∧ I64 x.epoch ∧ I64 x.owner ∧ I64 x.pair := by
  obtain ⟨_, _, rfl, h0, _, _, rfl, h1, _, _, rfl, h2, rfl⟩ := h.struct Tryd.underlying55
  obtain ⟨a0, rfl, r0⟩ := h0.i64 Tryd.underlying3
  obtain ⟨a1, rfl, r1⟩ := h1.i64 Tryd.underlying3
  obtain ⟨a2, rfl, r2⟩ := h2.i64 Tryd.underlying3
  exact ⟨⟨a0, a1, a2⟩, rfl, r0, r1, r2⟩

theorem shpMinderS_rg {H : Heap} {k : Nat} {l : List Lf} (h : Shp Tryd.prog H (k + 6) 56 l) : ∃ (q : Lf) (xs : List Minder), l = [q] ∧ RdLMinderS H q xs ∧ MinderS.fit xs ∧ ∀ x ∈ xs, x.rg := by
  rcases h.slice Tryd.underlying56 with rfl | ⟨id, b, rfl, hb, he, hm, hrows⟩
  · exact ⟨_, [], rfl, ⟨none, [], rfl, Sl.nil _ _ _, rfl, by simp⟩, by simp [MinderS.fit], by simp⟩
  · have key : ∀ rows : List (List Lf), (∀ row ∈ rows, Shp Tryd.prog H (k + 5) 34 row) → ∃ xs : List Minder, rows.length = xs.length ∧ (∀ (i : Nat) (row : List Lf) (x : Minder), rows[i]? = some row → xs[i]? = some x → RdLMinder H row x) ∧ (∀ x ∈ xs, x.fit) ∧ ∀ x ∈ xs, x.rg := by
      intro rows
      induction rows with
      | nil => intro _; exact ⟨[], rfl, by simp, by simp, by simp⟩
      | cons row rows ih =>
        intro hr
        obtain ⟨x, h1, h2, hr1⟩ := shpMinder_rg (hr row (by simp))
        obtain ⟨xs, h3, h4, h5, hr2⟩ := ih fun r hr' => hr r (by simp [hr'])
        refine ⟨x :: xs, by simp [h3], fun i row' x' a1 a2 => ?_, ?_, fun y hy => (List.mem_cons.1 hy).elim (fun e => e ▸ hr1) (hr2 y)⟩
        · cases i with
          | zero => simp at a1 a2; subst a1; subst a2; exact h1
          | succ i => exact h4 i row' x' (by simpa using a1) (by simpa using a2)
        · intro y hy
          rcases List.mem_cons.1 hy with rfl | hy
          · exact h2
          · exact h5 y hy
    obtain ⟨xs, h1, h2, h3, hr3⟩ := key b.rows hrows
    refine ⟨_, xs, rfl, ⟨some (id, 0), b.rows, by rw [h1], fun i row hi => ⟨id, 0, b, rfl, hb, he, by simpa using hi⟩, h1, h2⟩, ⟨by rw [← h1]; exact hm, h3⟩, hr3⟩

theorem shpBox_rg {H : Heap} {l : List Lf} (h : Shp Tryd.prog H 8 61 l) : ∃ x : Box, RdLBox H l x ∧ x.fit ∧ x.rg := by
  obtain ⟨_, _, rfl, h0, _, _, rfl, h1, _, _, rfl, h2, _, _, rfl, h3, _, _, rfl, h4, _, _, rfl, h5, _, _, rfl, h6, _, _, rfl, h7, rfl⟩ := h.struct Tryd.underlying61
  obtain ⟨x0, rfl, -⟩ := h0.i64 Tryd.underlying3
  obtain ⟨x1, rfl, -⟩ := h1.i64 Tryd.underlying3
  obtain ⟨x2, rfl, g1, g2, g3⟩ := shpReg_rg h2
  obtain ⟨q0, x3, rfl, r0, t0, g4⟩ := shpMinderS_rg h3
  obtain ⟨q1, x4, rfl, r1, t1⟩ := shpWireS_is h4
  obtain ⟨q2, x5, rfl, r2, t2⟩ := shpBoolS_is h5
  obtain ⟨q3, x6, rfl, r3, t3⟩ := shpInS_is h6
  obtain ⟨q4, x7, rfl, r4, t4⟩ := shpOutS_is h7
  exact ⟨⟨x0, x1, x2, x3, x4, x5, x6, x7⟩, ⟨q0, q1, q2, q3, q4, rfl, r0, r1, r2, r3, r4⟩, ⟨t0, t1, t2, t3, t4⟩, g1, g2, g3, g4⟩
end W
end Go.Proofs.YtjgjjaidpceieabDoor

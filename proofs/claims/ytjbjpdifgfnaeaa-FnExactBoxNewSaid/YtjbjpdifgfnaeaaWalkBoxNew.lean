/- The functions that this law reaches: what each computes. Conditions: those that each theorem names. -/
import Derived.Test.YtjbjpdifgfnaeaaAbEnvBoxNew
set_option maxRecDepth 100000
set_option maxHeartbeats 4000000
set_option linter.unusedSimpArgs false
set_option linter.unusedVariables false
set_option linter.unnecessarySimpa false
namespace Go.Proofs.Ytjbjpdifgfnaeaa
open Go Go.Ab Go.ChangeShapes Go.WideShapes Go.ChangeAt Go.RowKit
namespace W
theorem inRange (H : Heap) (n a b : Int) : run env 91 [.int n, .int a, .int b] H = some (.bool (decide (a ≤ n) && decide (n ≤ b)), H) := by
  refine run_walk ok91 Try.func91 rfl (by simp [Try.f91]) fun Q hQ => ?_
  simp only [Try.f91, strip, stripL, stripI, stripG, chkT, tagsB, tagsL, tagD, addT, tagA, lookN, tagOp, elmT, ty22, ty23, ty28, ty29, ty37, ty38, ty39, ty40, ty41, ty50, ty51, ty52, ty53, ty72, ty81, ty141, ty189, Nat.reduceEqDiff, if_false, reduceIte, Option.getD_some, Option.getD_none, dstAt, dstOk, Nat.reduceLT, decide_true, if_true]
  simp
  repeat' (first | (refine gdL_t (fun h => ?_) (fun h => ?_) <;> simp [h]) | (refine gdL_f (fun h => ?_) (fun h => ?_) <;> simp [h]) | (refine selS_intro (fun h => ?_) (fun h => ?_) <;> simp [h]))
  all_goals (refine hQ _ _ _ (by simp) ?_)
  all_goals (clear hQ; simp_all [Try.f91] <;> omega)

theorem l1In (H : Heap) (n a b : Int) : run env 84 [.int n, .int a, .int b] H = some (.bool (decide (a ≤ n) && decide (n ≤ b)), H) := by
  refine run_walk ok84 Try.func84 rfl (by simp [Try.f84]) fun Q hQ => ?_
  simp only [Try.f84, strip, stripL, stripI, stripG, chkT, tagsB, tagsL, tagD, addT, tagA, lookN, tagOp, elmT, ty22, ty23, ty28, ty29, ty37, ty38, ty39, ty40, ty41, ty50, ty51, ty52, ty53, ty72, ty81, ty141, ty189, Nat.reduceEqDiff, if_false, reduceIte, Option.getD_some, Option.getD_none, dstAt, dstOk, Nat.reduceLT, decide_true, if_true]
  simp
  repeat' (first | (refine gdL_t (fun h => ?_) (fun h => ?_) <;> simp [h]) | (refine gdL_f (fun h => ?_) (fun h => ?_) <;> simp [h]) | (refine selS_intro (fun h => ?_) (fun h => ?_) <;> simp [h]))
  all_goals (refine hQ _ _ _ (by simp) ?_)
  all_goals (clear hQ; simp_all [Try.f84] <;> omega)

structure Vec where
  root : Int
  cost : Int
  bridge : Int
  port : Int
  deriving DecidableEq, Inhabited
def Vec.enc (x : Vec) : List Lf := [.i .i64 x.root, .i .i64 x.cost, .i .i64 x.bridge, .i .i64 x.port]
@[simp] theorem Vec.enc_len (x : Vec) : x.enc.length = 4 := rfl
@[simp] theorem Vec.enc_take (x : Vec) : List.take 4 x.enc = x.enc := rfl
@[simp] theorem Vec.enc_drop (x : Vec) : List.drop 4 x.enc = [] := rfl
abbrev Vec.z : List Lf := [.i .i64 0, .i .i64 0, .i .i64 0, .i .i64 0]
abbrev Vec.zv : Vec := ⟨0, 0, 0, 0⟩
theorem Vec.enc_inj {x y : Vec} (h : x.enc = y.enc) : x = y := by
  obtain ⟨_, _, _, _⟩ := x
  obtain ⟨_, _, _, _⟩ := y
  simp [Vec.enc] at h
  simp_all
def Vec.mk' (k : Int) : Vec := ⟨k, k + 1, k + 2, k + 3⟩
theorem Vec.mk'_of {y : Vec} {c : Int} (h0 : y.root = c) (h1 : y.cost = c + 1) (h2 : y.bridge = c + 2) (h3 : y.port = c + 3) : y = Vec.mk' c := by
  rcases y with ⟨w0, v1, v2, v3⟩
  simp only at h0 h1 h2 h3
  subst h0 h1 h2 h3
  rfl

theorem eqVec (H : Heap) (x y : Vec) : run env 142 [.agg x.enc, .agg y.enc] H = some (.bool (decide (x = y)), H) := by
  obtain ⟨a0, a1, a2, a3⟩ := x
  obtain ⟨b0, b1, b2, b3⟩ := y
  refine run_walk ok142 Try.func142 rfl (by simp [Try.f142]) fun Q hQ => ?_
  simp only [Try.f142, strip, stripL, stripI, stripG, chkT, tagsB, tagsL, tagD, addT, tagA, lookN, tagOp, elmT, ty22, ty23, ty28, ty29, ty37, ty38, ty39, ty40, ty41, ty50, ty51, ty52, ty53, ty72, ty81, ty141, ty189, Nat.reduceEqDiff, if_false, reduceIte, Option.getD_some, Option.getD_none, dstAt, dstOk, Nat.reduceLT, decide_true, if_true]
  simp [Vec.enc]
  repeat' (first | (refine gdL_t (fun h => ?_) (fun h => ?_) <;> simp [h]) | (refine gdL_f (fun h => ?_) (fun h => ?_) <;> simp [h]) | (refine selS_intro (fun h => ?_) (fun h => ?_) <;> simp [h]))
  all_goals (refine hQ _ _ _ (by simp) ?_)
  all_goals (clear hQ; simp_all [Try.f142])

structure Port where
  up : Bool
  has : Bool
  vec : Vec
  hops : Int
  left : Int
  role : Int
  wait : Int
  opn : Bool
  deriving DecidableEq, Inhabited
def Port.enc (x : Port) : List Lf := [.b x.up, .b x.has, .i .i64 x.vec.root, .i .i64 x.vec.cost, .i .i64 x.vec.bridge, .i .i64 x.vec.port, .i .i64 x.hops, .i .i64 x.left, .i .i64 x.role, .i .i64 x.wait, .b x.opn]
@[simp] theorem Port.enc_len (x : Port) : x.enc.length = 11 := rfl
@[simp] theorem Port.enc_take (x : Port) : List.take 11 x.enc = x.enc := rfl
@[simp] theorem Port.enc_drop (x : Port) : List.drop 11 x.enc = [] := rfl
abbrev Port.z : List Lf := [.b false, .b false, .i .i64 0, .i .i64 0, .i .i64 0, .i .i64 0, .i .i64 0, .i .i64 0, .i .i64 0, .i .i64 0, .b false]
abbrev Port.zv : Port := ⟨false, false, ⟨0, 0, 0, 0⟩, 0, 0, 0, 0, false⟩
theorem Port.enc_inj {x y : Port} (h : x.enc = y.enc) : x = y := by
  rcases x with ⟨v0, v1, ⟨v2_0, v2_1, v2_2, v2_3⟩, v3, v4, v5, v6, v7⟩
  rcases y with ⟨w0, v1, ⟨v2_0, v2_1, v2_2, v2_3⟩, v3, v4, v5, v6, v7⟩
  simp [Port.enc] at h
  simp_all
def Port.mk' (k : Int) : Port := ⟨decide ((k).tmod 3 = 0), decide ((k + 1).tmod 3 = 0), ⟨k + 2, k + 3, k + 4, k + 5⟩, k + 6, k + 7, k + 8, k + 9, decide ((k + 10).tmod 3 = 0)⟩
theorem Port.mk'_of {y : Port} {c : Int} (h0 : y.up = decide ((c).tmod 3 = 0)) (h1 : y.has = decide ((c + 1).tmod 3 = 0)) (h2 : y.vec.root = c + 2) (h3 : y.vec.cost = c + 3) (h4 : y.vec.bridge = c + 4) (h5 : y.vec.port = c + 5) (h6 : y.hops = c + 6) (h7 : y.left = c + 7) (h8 : y.role = c + 8) (h9 : y.wait = c + 9) (h10 : y.opn = decide ((c + 10).tmod 3 = 0)) : y = Port.mk' c := by
  rcases y with ⟨w0, v1, ⟨v2_0, v2_1, v2_2, v2_3⟩, v3, v4, v5, v6, v7⟩
  simp only at h0 h1 h2 h3 h4 h5 h6 h7 h8 h9 h10
  subst h0 h1 h2 h3 h4 h5 h6 h7 h8 h9 h10
  rfl

structure In where
  kind : Int
  port : Int
  vec : Vec
  hops : Int
  up : Bool
  deriving DecidableEq, Inhabited
def In.enc (x : In) : List Lf := [.i .i64 x.kind, .i .i64 x.port, .i .i64 x.vec.root, .i .i64 x.vec.cost, .i .i64 x.vec.bridge, .i .i64 x.vec.port, .i .i64 x.hops, .b x.up]
@[simp] theorem In.enc_len (x : In) : x.enc.length = 8 := rfl
@[simp] theorem In.enc_take (x : In) : List.take 8 x.enc = x.enc := rfl
@[simp] theorem In.enc_drop (x : In) : List.drop 8 x.enc = [] := rfl
abbrev In.z : List Lf := [.i .i64 0, .i .i64 0, .i .i64 0, .i .i64 0, .i .i64 0, .i .i64 0, .i .i64 0, .b false]
abbrev In.zv : In := ⟨0, 0, ⟨0, 0, 0, 0⟩, 0, false⟩
theorem In.enc_inj {x y : In} (h : x.enc = y.enc) : x = y := by
  rcases x with ⟨v0, v1, ⟨v2_0, v2_1, v2_2, v2_3⟩, v3, v4⟩
  rcases y with ⟨w0, v1, ⟨v2_0, v2_1, v2_2, v2_3⟩, v3, v4⟩
  simp [In.enc] at h
  simp_all
def In.mk' (k : Int) : In := ⟨k, k + 1, ⟨k + 2, k + 3, k + 4, k + 5⟩, k + 6, decide ((k + 7).tmod 3 = 0)⟩
theorem In.mk'_of {y : In} {c : Int} (h0 : y.kind = c) (h1 : y.port = c + 1) (h2 : y.vec.root = c + 2) (h3 : y.vec.cost = c + 3) (h4 : y.vec.bridge = c + 4) (h5 : y.vec.port = c + 5) (h6 : y.hops = c + 6) (h7 : y.up = decide ((c + 7).tmod 3 = 0)) : y = In.mk' c := by
  rcases y with ⟨w0, v1, ⟨v2_0, v2_1, v2_2, v2_3⟩, v3, v4⟩
  simp only at h0 h1 h2 h3 h4 h5 h6 h7
  subst h0 h1 h2 h3 h4 h5 h6 h7
  rfl

theorem eqIn (H : Heap) (x y : In) : run env 105 [.agg x.enc, .agg y.enc] H = some (.bool (decide (x = y)), H) := by
  have e0 := fun H => eqVec H x.vec y.vec
  obtain ⟨a0, a1, a2, a3, a4⟩ := x
  obtain ⟨b0, b1, b2, b3, b4⟩ := y
  simp only [Vec.enc] at e0
  refine run_walk ok105 Try.func105 rfl (by simp [Try.f105]) fun Q hQ => ?_
  simp only [Try.f105, strip, stripL, stripI, stripG, chkT, tagsB, tagsL, tagD, addT, tagA, lookN, tagOp, elmT, ty22, ty23, ty28, ty29, ty37, ty38, ty39, ty40, ty41, ty50, ty51, ty52, ty53, ty72, ty81, ty141, ty189, Nat.reduceEqDiff, if_false, reduceIte, Option.getD_some, Option.getD_none, dstAt, dstOk, Nat.reduceLT, decide_true, if_true]
  simp [In.enc]
  repeat' (first | (refine gdL_t (fun h => ?_) (fun h => ?_) <;> simp [h, e0]) | (refine gdL_f (fun h => ?_) (fun h => ?_) <;> simp [h, e0]) | (refine selS_intro (fun h => ?_) (fun h => ?_) <;> simp [h, e0]))
  all_goals (refine hQ _ _ _ (by simp) ?_)
  all_goals (clear hQ; simp_all [Try.f105])

structure Out where
  kind : Int
  port : Int
  vec : Vec
  hops : Int
  on : Bool
  deriving DecidableEq, Inhabited
def Out.enc (x : Out) : List Lf := [.i .i64 x.kind, .i .i64 x.port, .i .i64 x.vec.root, .i .i64 x.vec.cost, .i .i64 x.vec.bridge, .i .i64 x.vec.port, .i .i64 x.hops, .b x.on]
@[simp] theorem Out.enc_len (x : Out) : x.enc.length = 8 := rfl
@[simp] theorem Out.enc_take (x : Out) : List.take 8 x.enc = x.enc := rfl
@[simp] theorem Out.enc_drop (x : Out) : List.drop 8 x.enc = [] := rfl
abbrev Out.z : List Lf := [.i .i64 0, .i .i64 0, .i .i64 0, .i .i64 0, .i .i64 0, .i .i64 0, .i .i64 0, .b false]
abbrev Out.zv : Out := ⟨0, 0, ⟨0, 0, 0, 0⟩, 0, false⟩
theorem Out.enc_inj {x y : Out} (h : x.enc = y.enc) : x = y := by
  rcases x with ⟨v0, v1, ⟨v2_0, v2_1, v2_2, v2_3⟩, v3, v4⟩
  rcases y with ⟨w0, v1, ⟨v2_0, v2_1, v2_2, v2_3⟩, v3, v4⟩
  simp [Out.enc] at h
  simp_all
def Out.mk' (k : Int) : Out := ⟨k, k + 1, ⟨k + 2, k + 3, k + 4, k + 5⟩, k + 6, decide ((k + 7).tmod 3 = 0)⟩
theorem Out.mk'_of {y : Out} {c : Int} (h0 : y.kind = c) (h1 : y.port = c + 1) (h2 : y.vec.root = c + 2) (h3 : y.vec.cost = c + 3) (h4 : y.vec.bridge = c + 4) (h5 : y.vec.port = c + 5) (h6 : y.hops = c + 6) (h7 : y.on = decide ((c + 7).tmod 3 = 0)) : y = Out.mk' c := by
  rcases y with ⟨w0, v1, ⟨v2_0, v2_1, v2_2, v2_3⟩, v3, v4⟩
  simp only at h0 h1 h2 h3 h4 h5 h6 h7
  subst h0 h1 h2 h3 h4 h5 h6 h7
  rfl

theorem eqOut (H : Heap) (x y : Out) : run env 94 [.agg x.enc, .agg y.enc] H = some (.bool (decide (x = y)), H) := by
  have e0 := fun H => eqVec H x.vec y.vec
  obtain ⟨a0, a1, a2, a3, a4⟩ := x
  obtain ⟨b0, b1, b2, b3, b4⟩ := y
  simp only [Vec.enc] at e0
  refine run_walk ok94 Try.func94 rfl (by simp [Try.f94]) fun Q hQ => ?_
  simp only [Try.f94, strip, stripL, stripI, stripG, chkT, tagsB, tagsL, tagD, addT, tagA, lookN, tagOp, elmT, ty22, ty23, ty28, ty29, ty37, ty38, ty39, ty40, ty41, ty50, ty51, ty52, ty53, ty72, ty81, ty141, ty189, Nat.reduceEqDiff, if_false, reduceIte, Option.getD_some, Option.getD_none, dstAt, dstOk, Nat.reduceLT, decide_true, if_true]
  simp [Out.enc]
  repeat' (first | (refine gdL_t (fun h => ?_) (fun h => ?_) <;> simp [h, e0]) | (refine gdL_f (fun h => ?_) (fun h => ?_) <;> simp [h, e0]) | (refine selS_intro (fun h => ?_) (fun h => ?_) <;> simp [h, e0]))
  all_goals (refine hQ _ _ _ (by simp) ?_)
  all_goals (clear hQ; simp_all [Try.f94])

structure Reg where
  epoch : Int
  owner : Int
  pair : Int
  deriving DecidableEq, Inhabited
def Reg.enc (x : Reg) : List Lf := [.i .i64 x.epoch, .i .i64 x.owner, .i .i64 x.pair]
@[simp] theorem Reg.enc_len (x : Reg) : x.enc.length = 3 := rfl
@[simp] theorem Reg.enc_take (x : Reg) : List.take 3 x.enc = x.enc := rfl
@[simp] theorem Reg.enc_drop (x : Reg) : List.drop 3 x.enc = [] := rfl
abbrev Reg.z : List Lf := [.i .i64 0, .i .i64 0, .i .i64 0]
abbrev Reg.zv : Reg := ⟨0, 0, 0⟩
theorem Reg.enc_inj {x y : Reg} (h : x.enc = y.enc) : x = y := by
  obtain ⟨_, _, _⟩ := x
  obtain ⟨_, _, _⟩ := y
  simp [Reg.enc] at h
  simp_all
def Reg.mk' (k : Int) : Reg := ⟨k, k + 1, k + 2⟩
theorem Reg.mk'_of {y : Reg} {c : Int} (h0 : y.epoch = c) (h1 : y.owner = c + 1) (h2 : y.pair = c + 2) : y = Reg.mk' c := by
  rcases y with ⟨w0, v1, v2⟩
  simp only at h0 h1 h2
  subst h0 h1 h2
  rfl

theorem eqReg (H : Heap) (x y : Reg) : run env 68 [.agg x.enc, .agg y.enc] H = some (.bool (decide (x = y)), H) := by
  obtain ⟨a0, a1, a2⟩ := x
  obtain ⟨b0, b1, b2⟩ := y
  refine run_walk ok68 Try.func68 rfl (by simp [Try.f68]) fun Q hQ => ?_
  simp only [Try.f68, strip, stripL, stripI, stripG, chkT, tagsB, tagsL, tagD, addT, tagA, lookN, tagOp, elmT, ty22, ty23, ty28, ty29, ty37, ty38, ty39, ty40, ty41, ty50, ty51, ty52, ty53, ty72, ty81, ty141, ty189, Nat.reduceEqDiff, if_false, reduceIte, Option.getD_some, Option.getD_none, dstAt, dstOk, Nat.reduceLT, decide_true, if_true]
  simp [Reg.enc]
  repeat' (first | (refine gdL_t (fun h => ?_) (fun h => ?_) <;> simp [h]) | (refine gdL_f (fun h => ?_) (fun h => ?_) <;> simp [h]) | (refine selS_intro (fun h => ?_) (fun h => ?_) <;> simp [h]))
  all_goals (refine hQ _ _ _ (by simp) ?_)
  all_goals (clear hQ; simp_all [Try.f68])

structure Wire where
  frm : Int
  ack : Bool
  life : Int
  n : Int
  inn : In
  deriving DecidableEq, Inhabited
def Wire.enc (x : Wire) : List Lf := [.i .i64 x.frm, .b x.ack, .i .i64 x.life, .i .i64 x.n, .i .i64 x.inn.kind, .i .i64 x.inn.port, .i .i64 x.inn.vec.root, .i .i64 x.inn.vec.cost, .i .i64 x.inn.vec.bridge, .i .i64 x.inn.vec.port, .i .i64 x.inn.hops, .b x.inn.up]
@[simp] theorem Wire.enc_len (x : Wire) : x.enc.length = 12 := rfl
@[simp] theorem Wire.enc_take (x : Wire) : List.take 12 x.enc = x.enc := rfl
@[simp] theorem Wire.enc_drop (x : Wire) : List.drop 12 x.enc = [] := rfl
abbrev Wire.z : List Lf := [.i .i64 0, .b false, .i .i64 0, .i .i64 0, .i .i64 0, .i .i64 0, .i .i64 0, .i .i64 0, .i .i64 0, .i .i64 0, .i .i64 0, .b false]
abbrev Wire.zv : Wire := ⟨0, false, 0, 0, ⟨0, 0, ⟨0, 0, 0, 0⟩, 0, false⟩⟩
theorem Wire.enc_inj {x y : Wire} (h : x.enc = y.enc) : x = y := by
  rcases x with ⟨v0, v1, v2, v3, ⟨v4_0, v4_1, ⟨v4_2_0, v4_2_1, v4_2_2, v4_2_3⟩, v4_3, v4_4⟩⟩
  rcases y with ⟨w0, v1, v2, v3, ⟨v4_0, v4_1, ⟨v4_2_0, v4_2_1, v4_2_2, v4_2_3⟩, v4_3, v4_4⟩⟩
  simp [Wire.enc] at h
  simp_all
def Wire.mk' (k : Int) : Wire := ⟨k, decide ((k + 1).tmod 3 = 0), k + 2, k + 3, ⟨k + 4, k + 5, ⟨k + 6, k + 7, k + 8, k + 9⟩, k + 10, decide ((k + 11).tmod 3 = 0)⟩⟩
theorem Wire.mk'_of {y : Wire} {c : Int} (h0 : y.frm = c) (h1 : y.ack = decide ((c + 1).tmod 3 = 0)) (h2 : y.life = c + 2) (h3 : y.n = c + 3) (h4 : y.inn.kind = c + 4) (h5 : y.inn.port = c + 5) (h6 : y.inn.vec.root = c + 6) (h7 : y.inn.vec.cost = c + 7) (h8 : y.inn.vec.bridge = c + 8) (h9 : y.inn.vec.port = c + 9) (h10 : y.inn.hops = c + 10) (h11 : y.inn.up = decide ((c + 11).tmod 3 = 0)) : y = Wire.mk' c := by
  rcases y with ⟨w0, v1, v2, v3, ⟨v4_0, v4_1, ⟨v4_2_0, v4_2_1, v4_2_2, v4_2_3⟩, v4_3, v4_4⟩⟩
  simp only at h0 h1 h2 h3 h4 h5 h6 h7 h8 h9 h10 h11
  subst h0 h1 h2 h3 h4 h5 h6 h7 h8 h9 h10 h11
  rfl

theorem eqWire (H : Heap) (x y : Wire) : run env 127 [.agg x.enc, .agg y.enc] H = some (.bool (decide (x = y)), H) := by
  have e0 := fun H => eqIn H x.inn y.inn
  obtain ⟨a0, a1, a2, a3, a4⟩ := x
  obtain ⟨b0, b1, b2, b3, b4⟩ := y
  simp only [In.enc] at e0
  refine run_walk ok127 Try.func127 rfl (by simp [Try.f127]) fun Q hQ => ?_
  simp only [Try.f127, strip, stripL, stripI, stripG, chkT, tagsB, tagsL, tagD, addT, tagA, lookN, tagOp, elmT, ty22, ty23, ty28, ty29, ty37, ty38, ty39, ty40, ty41, ty50, ty51, ty52, ty53, ty72, ty81, ty141, ty189, Nat.reduceEqDiff, if_false, reduceIte, Option.getD_some, Option.getD_none, dstAt, dstOk, Nat.reduceLT, decide_true, if_true]
  simp [Wire.enc]
  repeat' (first | (refine gdL_t (fun h => ?_) (fun h => ?_) <;> simp [h, e0]) | (refine gdL_f (fun h => ?_) (fun h => ?_) <;> simp [h, e0]) | (refine selS_intro (fun h => ?_) (fun h => ?_) <;> simp [h, e0]))
  all_goals (refine hQ _ _ _ (by simp) ?_)
  all_goals (clear hQ; simp_all [Try.f127])

def encB (x : Bool) : List Lf := [.b x]
@[simp] theorem encB_len (x : Bool) : (encB x).length = 1 := rfl
@[simp] theorem encB_take (x : Bool) : List.take 1 (encB x) = [.b x] := rfl
def mkB (k : Int) : Bool := decide (k.tmod 3 = 0)
theorem encB_inj {x y : Bool} (h : encB x = encB y) : x = y := by simpa [encB] using h

theorem eqBoolS (H : Heap) (a b : Option (Nat × Nat)) (xs ys : List Bool) (ha : Sl H 4 a (xs.map encB)) (hb : Sl H 4 b (ys.map encB)) (hn : xs.length ≤ 1048576) :
    run env 71 [.w (.lf (.sl a xs.length)), .w (.lf (.sl b ys.length))] H = some (.bool (decide (xs = ys)), H) := by
  refine run_walk ok71 Try.func71 rfl (by simp [Try.f71]) fun Q hQ => ?_
  simp only [Try.f71, strip, stripL, stripI, stripG, chkT, tagsB, tagsL, tagD, addT, tagA, lookN, tagOp, elmT, ty22, ty23, ty28, ty29, ty37, ty38, ty39, ty40, ty41, ty50, ty51, ty52, ty53, ty72, ty81, ty141, ty189, Nat.reduceEqDiff, if_false, reduceIte, Option.getD_some, Option.getD_none, dstAt, dstOk, Nat.reduceLT, decide_true, if_true]
  simp [builtinV, pureB, lenV]
  refine selS_intro (fun hl => ?_) (fun hl => ?_)
  · simp
    refine hQ _ _ _ (by simp) ?_
    simp at hl
    have : ¬ xs = ys := fun h => hl (by rw [h])
    simp [Try.f71, this]
  simp at hl
  simp
  refine wpS_loop (fun j tm H' => ∃ i, i + j = xs.length ∧ tm 0 = .w (.lf (.sl a xs.length)) ∧ tm 1 = .w (.lf (.sl b ys.length)) ∧ tm 5 = .int i ∧ H' = H ∧ xs.take i = ys.take i) xs.length (by rw [env_K]; omega) ⟨0, by simp, by simp, by simp, by simp, rfl, by simp⟩ ?_
  rintro j tm H' hj ⟨i, hij, h0, h1, h5, rfl, heq⟩ Q' hn' he' hr'
  simp [h0, h1, h5, builtinV, pureB, lenV]
  refine selS_intro (fun hc => ?_) (fun hc => ?_)
  · simp at hc
    have hc2 : i < ys.length := by omega
    obtain ⟨id, r, bl, rfl, hbl, hbe, hrow⟩ := ha i _ (by simp [hc]; rfl)
    obtain ⟨id2, r2, bl2, rfl, hbl2, hbe2, hrow2⟩ := hb i _ (by simp [hc2]; rfl)
    have g4 : IntKind.i64.wrap ((i : Int) + 1) = (i : Int) + 1 := wrap64 (by omega) (by omega)
    simp [h0, h1, h5, indexAddrV, elemIs, hbl, hbe, hbl2, hbe2, hc, hc2, hrow, hrow2, encB]
    refine selS_intro (fun hd => ?_) (fun hd => ?_)
    · simp
      refine hr' _ _ ?_
      simp
      refine hQ _ _ _ (by simp) ?_
      simp at hd
      have : ¬ xs = ys := fun h => by subst h; simp at hd
      simp [Try.f71, this]
    · simp at hd
      simp [h0, h1, h5, g4]
      exact hn' (j - 1) _ _ (by omega) ⟨i + 1, by omega, by simp [h0], by simp [h1], by simp, rfl, by rw [List.take_add_one, List.take_add_one, heq]; simp [hc, hc2, hd]⟩
  · simp at hc
    simp [h0, h1, h5]
    refine he' _ _ _ ?_
    simp
    refine hQ _ _ _ (by simp) ?_
    have : xs = ys := by
      rw [List.take_of_length_le (by omega), List.take_of_length_le (by omega)] at heq
      exact heq
    simp [Try.f71, this]

theorem markBoolS (H : Heap) (a : Option (Nat × Nat)) (xs : List Bool) (fp : List Nat) (k : Int) (h : Own H 4 a (xs.map encB) fp) (hk : 0 ≤ k) (hk2 : k + 1 * xs.length ≤ 4611686018427387904) (hn : xs.length ≤ 1048576) :
    Runs env 74 [.w (.lf (.sl a xs.length)), .int k] H fun v H' => v = .int (k + 1 * xs.length) ∧ Own H' 4 a ((marked mkB 1 xs.length k).map encB) fp ∧ Keep fp H H' := by
  refine Runs.walk ok74 Try.func74 rfl (by simp [Try.f74]) fun Q hQ => ?_
  simp only [Try.f74, strip, stripL, stripI, stripG, chkT, tagsB, tagsL, tagD, addT, tagA, lookN, tagOp, elmT, ty22, ty23, ty28, ty29, ty37, ty38, ty39, ty40, ty41, ty50, ty51, ty52, ty53, ty72, ty81, ty141, ty189, Nat.reduceEqDiff, if_false, reduceIte, Option.getD_some, Option.getD_none, dstAt, dstOk, Nat.reduceLT, decide_true, if_true]
  simp
  refine wpS_loop (fun j tm H' => ∃ i, i + j = xs.length ∧ tm 0 = .w (.lf (.sl a xs.length)) ∧ tm 1 = .int (k + 1 * i) ∧ tm 5 = .int i ∧ Own H' 4 a ((marked mkB 1 i k ++ xs.drop i).map encB) fp ∧ Keep fp H H') xs.length (by rw [env_K]; omega) ⟨0, by simp, by simp, by simp, by simp, by simpa [marked] using h, Keep.refl _ _⟩ ?_
  rintro j tm H' hj ⟨i, hij, h0, h1, h5, ho, hkp⟩ Q' hn' he' hr'
  simp [h0, h1, h5, builtinV, pureB, lenV]
  refine selS_intro (fun hc => ?_) (fun hc => ?_)
  · simp at hc
    obtain ⟨id, b, rfl, rfl, hb, hbe, hm, hpre⟩ := ho.blk (by simp; omega)
    have hid := blkAt_len hb
    obtain ⟨t, ht⟩ := hpre
    obtain ⟨hi, hrow2⟩ := marked_at mkB 1 encB xs hc k ht
    have g4 : IntKind.i64.wrap ((i : Int) + 1) = (i : Int) + 1 := wrap64 (by omega) (by omega)
    obtain ⟨c, hcc⟩ : ∃ c, c = k + 1 * (i : Int) := ⟨_, rfl⟩
    rw [← hcc] at h1
    have w : ∀ d : Int, 0 ≤ d → d ≤ 100 → IntKind.i64.wrap (c + d) = c + d := fun d h1 h2 => wrap64 (by omega) (by omega)
    simp [h0, h1, h5, indexAddrV, elemIs, hid, hb, hbe, hm, hc, hi, hrow2, blkAt_set, encB, w, Int.add_assoc, g4]
    refine hn' (j - 1) _ _ (by omega) ⟨i + 1, by omega, by simp [h0], by simp [hcc]; omega, by simp, ?_, ?_⟩
    · have := ho.set (row := encB (mkB c)) hb (i := i) (by simp; omega)
      have e := marked_put mkB 1 encB xs hc k
      rw [← hcc] at e
      rw [e, hm, hbe] at this
      simpa [encB, mkB] using this
    · exact hkp.trans (Keep.set _ _) (by simp) (by simp)
  · simp at hc
    obtain rfl : i = xs.length := by omega
    simp [h0, h1, h5]
    refine he' _ _ _ ?_
    simp [h1]
    refine hQ _ _ _ (by simp) ?_
    simp [Try.f74]
    exact ⟨leave_own (by simpa using ho) h.lt, leave_keep' hkp⟩

theorem heldBoolS (H : Heap) (a : Option (Nat × Nat)) (xs : List Bool) (k : Int) (h : Sl H 4 a (xs.map encB)) (hk : 0 ≤ k) (hk2 : k + 1 * xs.length ≤ 4611686018427387904) (hn : xs.length ≤ 1048576) :
    run env 77 [.w (.lf (.sl a xs.length)), .int k] H = some (.int (heldL mkB 1 xs k), H) := by
  refine run_walk ok77 Try.func77 rfl (by simp [Try.f77]) fun Q hQ => ?_
  simp only [Try.f77, strip, stripL, stripI, stripG, chkT, tagsB, tagsL, tagD, addT, tagA, lookN, tagOp, elmT, ty22, ty23, ty28, ty29, ty37, ty38, ty39, ty40, ty41, ty50, ty51, ty52, ty53, ty72, ty81, ty141, ty189, Nat.reduceEqDiff, if_false, reduceIte, Option.getD_some, Option.getD_none, dstAt, dstOk, Nat.reduceLT, decide_true, if_true]
  simp
  refine wpS_loop (fun j tm H' => ∃ i, i + j = xs.length ∧ tm 0 = .w (.lf (.sl a xs.length)) ∧ tm 1 = .int (k + 1 * i) ∧ tm 5 = .int i ∧ H' = H ∧ xs.take i = marked mkB 1 i k) xs.length (by rw [env_K]; omega) ⟨0, by simp, by simp, by simp, by simp, rfl, by simp [marked]⟩ ?_
  rintro j tm H' hj ⟨i, hij, h0, h1, h5, rfl, heq⟩ Q' hn' he' hr'
  simp [h0, h1, h5, builtinV, pureB, lenV]
  refine selS_intro (fun hc => ?_) (fun hc => ?_)
  · simp at hc
    obtain ⟨id, r, b, rfl, hb, hbe, hrow⟩ := h i _ (by simp [hc]; rfl)
    have g4 : IntKind.i64.wrap ((i : Int) + 1) = (i : Int) + 1 := wrap64 (by omega) (by omega)
    obtain ⟨c, hcc⟩ : ∃ c, c = k + 1 * (i : Int) := ⟨_, rfl⟩
    rw [← hcc] at h1
    have w : ∀ d : Int, 0 ≤ d → d ≤ 100 → IntKind.i64.wrap (c + d) = c + d := fun d h1 h2 => wrap64 (by omega) (by omega)
    have fin : xs[i] ≠ mkB c → ∀ tm'' : T, tm'' 4 = .int (-1) → Q' .ret tm'' H' := by
      intro hx tm'' ht
      refine hr' _ _ ?_
      simp
      refine hQ _ _ _ (by simp) ?_
      have : heldL mkB 1 xs k = -1 := heldL_bad hc (by rw [← hcc]; exact hx)
      simp [Try.f77, ht, this]
    simp [h0, h1, h5, indexAddrV, elemIs, hb, hbe, hc, hrow, encB, w, Int.add_assoc, g4]
    refine selS_intro (fun hd => ?_) (fun hd => ?_)
    · simp
      exact fin (fun he => by rw [he] at hd; simp [mkB] at hd) _ (by simp)
    have hd0 : xs[i] = decide ((c).tmod 3 = 0) := by simpa using hd
    simp [h0, h1, h5, indexAddrV, elemIs, hb, hbe, hc, hrow, encB, w, Int.add_assoc, g4]
    refine hn' (j - 1) _ _ (by omega) ⟨i + 1, by omega, by simp [h0], by simp [hcc]; omega, by simp, rfl, heldL_step hc ?_ heq⟩
    rw [← hcc]
    exact hd0
  · simp at hc
    obtain rfl : i = xs.length := by omega
    simp [h0, h1, h5]
    refine he' _ _ _ ?_
    simp [h1]
    refine hQ _ _ _ (by simp) ?_
    rw [List.take_of_length_le (Nat.le_refl _)] at heq
    have : heldL mkB 1 xs k = k + 1 * xs.length := by rw [heldL, if_pos heq]
    simp [Try.f77, this]

abbrev IsBoolS := IsSl 4 encB
abbrev RdBoolS := RdSl 4 encB
abbrev RdLBoolS := RdSl 4 encB
def BoolS.mk' (xs : List Bool) (k : Int) : List Bool := marked mkB 1 xs.length k
def BoolS.mkN (xs : List Bool) (k : Int) : Int := k + 1 * xs.length
def BoolS.hd (xs : List Bool) (k : Int) : Int := heldL mkB 1 xs k
theorem BoolS.hd_mk (xs : List Bool) (k : Int) : BoolS.hd (BoolS.mk' xs k) k = BoolS.mkN xs k := by simp [BoolS.hd, BoolS.mk', BoolS.mkN]
theorem BoolS.mk_sz (xs : List Bool) (k : Int) : (BoolS.mk' xs k).length = xs.length := by simp [BoolS.mk']
theorem BoolS.mkN_le {xs : List Bool} {k : Int} (h : xs.length ≤ 1048576) : k ≤ BoolS.mkN xs k ∧ BoolS.mkN xs k ≤ k + 1000000000 := by unfold BoolS.mkN; omega

theorem eqBoolS_is {H : Heap} {q r : Lf} {xs ys : List Bool} (h : RdBoolS H q xs) (h2 : RdBoolS H r ys) (hn : xs.length ≤ 1048576) : run env 71 [.w (.lf q), .w (.lf r)] H = some (.bool (decide (xs = ys)), H) := by
  obtain ⟨a, rfl, h⟩ := h
  obtain ⟨b, rfl, h2⟩ := h2
  exact eqBoolS H a b xs ys h h2 hn

theorem markBoolS_is {H : Heap} {q : Lf} {xs : List Bool} {fp : List Nat} {k : Int} (h : IsBoolS H q xs fp) (hk : 0 ≤ k) (hk2 : k ≤ 2305843009213693952) (hn : xs.length ≤ 1048576) :
    Runs env 74 [.w (.lf q), .int k] H fun v H' => v = .int (BoolS.mkN xs k) ∧ IsBoolS H' q (BoolS.mk' xs k) fp ∧ Keep fp H H' := by
  obtain ⟨a, rfl, h⟩ := h
  exact (markBoolS H a xs fp k h hk (by omega) hn).mono fun v H' ⟨h1, h2, h3⟩ => ⟨h1, ⟨a, by simp [BoolS.mk'], h2⟩, h3⟩

theorem heldBoolS_is {H : Heap} {q : Lf} {xs : List Bool} {k : Int} (h : RdBoolS H q xs) (hk : 0 ≤ k) (hk2 : k ≤ 2305843009213693952) (hn : xs.length ≤ 1048576) :
    run env 77 [.w (.lf q), .int k] H = some (.int (BoolS.hd xs k), H) := by
  obtain ⟨a, rfl, h⟩ := h
  exact heldBoolS H a xs k h hk (by omega) hn

theorem eqInS (H : Heap) (a b : Option (Nat × Nat)) (xs ys : List In) (ha : Sl H 133 a (xs.map In.enc)) (hb : Sl H 133 b (ys.map In.enc)) (hn : xs.length ≤ 1048576) :
    run env 39 [.w (.lf (.sl a xs.length)), .w (.lf (.sl b ys.length))] H = some (.bool (decide (xs = ys)), H) := by
  refine run_walk ok39 Try.func39 rfl (by simp [Try.f39]) fun Q hQ => ?_
  simp only [Try.f39, strip, stripL, stripI, stripG, chkT, tagsB, tagsL, tagD, addT, tagA, lookN, tagOp, elmT, ty22, ty23, ty28, ty29, ty37, ty38, ty39, ty40, ty41, ty50, ty51, ty52, ty53, ty72, ty81, ty141, ty189, Nat.reduceEqDiff, if_false, reduceIte, Option.getD_some, Option.getD_none, dstAt, dstOk, Nat.reduceLT, decide_true, if_true]
  simp [builtinV, pureB, lenV]
  refine selS_intro (fun hl => ?_) (fun hl => ?_)
  · simp
    refine hQ _ _ _ (by simp) ?_
    simp at hl
    have : ¬ xs = ys := fun h => hl (by rw [h])
    simp [Try.f39, this]
  simp at hl
  simp
  refine wpS_loop (fun j tm H' => ∃ i, i + j = xs.length ∧ tm 0 = .w (.lf (.sl a xs.length)) ∧ tm 1 = .w (.lf (.sl b ys.length)) ∧ tm 5 = .int i ∧ H' = H ∧ xs.take i = ys.take i) xs.length (by rw [env_K]; omega) ⟨0, by simp, by simp, by simp, by simp, rfl, by simp⟩ ?_
  rintro j tm H' hj ⟨i, hij, h0, h1, h5, rfl, heq⟩ Q' hn' he' hr'
  simp [h0, h1, h5, builtinV, pureB, lenV]
  refine selS_intro (fun hc => ?_) (fun hc => ?_)
  · simp at hc
    have hc2 : i < ys.length := by omega
    obtain ⟨id, r, bl, rfl, hbl, hbe, hrow⟩ := ha i _ (by simp [hc]; rfl)
    obtain ⟨id2, r2, bl2, rfl, hbl2, hbe2, hrow2⟩ := hb i _ (by simp [hc2]; rfl)
    have g4 : IntKind.i64.wrap ((i : Int) + 1) = (i : Int) + 1 := wrap64 (by omega) (by omega)
    simp [h0, h1, h5, indexAddrV, elemIs, hbl, hbe, hbl2, hbe2, hc, hc2, hrow, hrow2, eqIn]
    refine selS_intro (fun hd => ?_) (fun hd => ?_)
    · simp
      refine hr' _ _ ?_
      simp
      refine hQ _ _ _ (by simp) ?_
      simp at hd
      have : ¬ xs = ys := fun h => by subst h; simp at hd
      simp [Try.f39, this]
    · simp at hd
      simp [h0, h1, h5, g4]
      exact hn' (j - 1) _ _ (by omega) ⟨i + 1, by omega, by simp [h0], by simp [h1], by simp, rfl, by rw [List.take_add_one, List.take_add_one, heq]; simp [hc, hc2, hd]⟩
  · simp at hc
    simp [h0, h1, h5]
    refine he' _ _ _ ?_
    simp
    refine hQ _ _ _ (by simp) ?_
    have : xs = ys := by
      rw [List.take_of_length_le (by omega), List.take_of_length_le (by omega)] at heq
      exact heq
    simp [Try.f39, this]

theorem markInS (H : Heap) (a : Option (Nat × Nat)) (xs : List In) (fp : List Nat) (k : Int) (h : Own H 133 a (xs.map In.enc) fp) (hk : 0 ≤ k) (hk2 : k + 8 * xs.length ≤ 4611686018427387904) (hn : xs.length ≤ 1048576) :
    Runs env 40 [.w (.lf (.sl a xs.length)), .int k] H fun v H' => v = .int (k + 8 * xs.length) ∧ Own H' 133 a ((marked In.mk' 8 xs.length k).map In.enc) fp ∧ Keep fp H H' := by
  refine Runs.walk ok40 Try.func40 rfl (by simp [Try.f40]) fun Q hQ => ?_
  simp only [Try.f40, strip, stripL, stripI, stripG, chkT, tagsB, tagsL, tagD, addT, tagA, lookN, tagOp, elmT, ty22, ty23, ty28, ty29, ty37, ty38, ty39, ty40, ty41, ty50, ty51, ty52, ty53, ty72, ty81, ty141, ty189, Nat.reduceEqDiff, if_false, reduceIte, Option.getD_some, Option.getD_none, dstAt, dstOk, Nat.reduceLT, decide_true, if_true]
  simp
  refine wpS_loop (fun j tm H' => ∃ i, i + j = xs.length ∧ tm 0 = .w (.lf (.sl a xs.length)) ∧ tm 1 = .int (k + 8 * i) ∧ tm 5 = .int i ∧ Own H' 133 a ((marked In.mk' 8 i k ++ xs.drop i).map In.enc) fp ∧ Keep fp H H') xs.length (by rw [env_K]; omega) ⟨0, by simp, by simp, by simp, by simp, by simpa [marked] using h, Keep.refl _ _⟩ ?_
  rintro j tm H' hj ⟨i, hij, h0, h1, h5, ho, hkp⟩ Q' hn' he' hr'
  simp [h0, h1, h5, builtinV, pureB, lenV]
  refine selS_intro (fun hc => ?_) (fun hc => ?_)
  · simp at hc
    obtain ⟨id, b, rfl, rfl, hb, hbe, hm, hpre⟩ := ho.blk (by simp; omega)
    have hid := blkAt_len hb
    obtain ⟨t, ht⟩ := hpre
    obtain ⟨hi, hrow2⟩ := marked_at In.mk' 8 In.enc xs hc k ht
    have g4 : IntKind.i64.wrap ((i : Int) + 1) = (i : Int) + 1 := wrap64 (by omega) (by omega)
    obtain ⟨c, hcc⟩ : ∃ c, c = k + 8 * (i : Int) := ⟨_, rfl⟩
    rw [← hcc] at h1
    have w : ∀ d : Int, 0 ≤ d → d ≤ 100 → IntKind.i64.wrap (c + d) = c + d := fun d h1 h2 => wrap64 (by omega) (by omega)
    simp [h0, h1, h5, indexAddrV, elemIs, hid, hb, hbe, hm, hc, hi, hrow2, blkAt_set, In.enc, w, Int.add_assoc, g4]
    refine hn' (j - 1) _ _ (by omega) ⟨i + 1, by omega, by simp [h0], by simp [hcc]; omega, by simp, ?_, ?_⟩
    · have := ho.set (row := In.enc (In.mk' c)) hb (i := i) (by simp; omega)
      have e := marked_put In.mk' 8 In.enc xs hc k
      rw [← hcc] at e
      rw [e, hm, hbe] at this
      simpa [In.enc, In.mk'] using this
    · exact hkp.trans (Keep.set _ _) (by simp) (by simp)
  · simp at hc
    obtain rfl : i = xs.length := by omega
    simp [h0, h1, h5]
    refine he' _ _ _ ?_
    simp [h1]
    refine hQ _ _ _ (by simp) ?_
    simp [Try.f40]
    exact ⟨leave_own (by simpa using ho) h.lt, leave_keep' hkp⟩

theorem heldInS (H : Heap) (a : Option (Nat × Nat)) (xs : List In) (k : Int) (h : Sl H 133 a (xs.map In.enc)) (hk : 0 ≤ k) (hk2 : k + 8 * xs.length ≤ 4611686018427387904) (hn : xs.length ≤ 1048576) :
    run env 78 [.w (.lf (.sl a xs.length)), .int k] H = some (.int (heldL In.mk' 8 xs k), H) := by
  refine run_walk ok78 Try.func78 rfl (by simp [Try.f78]) fun Q hQ => ?_
  simp only [Try.f78, strip, stripL, stripI, stripG, chkT, tagsB, tagsL, tagD, addT, tagA, lookN, tagOp, elmT, ty22, ty23, ty28, ty29, ty37, ty38, ty39, ty40, ty41, ty50, ty51, ty52, ty53, ty72, ty81, ty141, ty189, Nat.reduceEqDiff, if_false, reduceIte, Option.getD_some, Option.getD_none, dstAt, dstOk, Nat.reduceLT, decide_true, if_true]
  simp
  refine wpS_loop (fun j tm H' => ∃ i, i + j = xs.length ∧ tm 0 = .w (.lf (.sl a xs.length)) ∧ tm 1 = .int (k + 8 * i) ∧ tm 5 = .int i ∧ H' = H ∧ xs.take i = marked In.mk' 8 i k) xs.length (by rw [env_K]; omega) ⟨0, by simp, by simp, by simp, by simp, rfl, by simp [marked]⟩ ?_
  rintro j tm H' hj ⟨i, hij, h0, h1, h5, rfl, heq⟩ Q' hn' he' hr'
  simp [h0, h1, h5, builtinV, pureB, lenV]
  refine selS_intro (fun hc => ?_) (fun hc => ?_)
  · simp at hc
    obtain ⟨id, r, b, rfl, hb, hbe, hrow⟩ := h i _ (by simp [hc]; rfl)
    have g4 : IntKind.i64.wrap ((i : Int) + 1) = (i : Int) + 1 := wrap64 (by omega) (by omega)
    obtain ⟨c, hcc⟩ : ∃ c, c = k + 8 * (i : Int) := ⟨_, rfl⟩
    rw [← hcc] at h1
    have w : ∀ d : Int, 0 ≤ d → d ≤ 100 → IntKind.i64.wrap (c + d) = c + d := fun d h1 h2 => wrap64 (by omega) (by omega)
    have fin : xs[i] ≠ In.mk' c → ∀ tm'' : T, tm'' 4 = .int (-1) → Q' .ret tm'' H' := by
      intro hx tm'' ht
      refine hr' _ _ ?_
      simp
      refine hQ _ _ _ (by simp) ?_
      have : heldL In.mk' 8 xs k = -1 := heldL_bad hc (by rw [← hcc]; exact hx)
      simp [Try.f78, ht, this]
    simp [h0, h1, h5, indexAddrV, elemIs, hb, hbe, hc, hrow, In.enc, w, Int.add_assoc, g4]
    refine selS_intro (fun hd => ?_) (fun hd => ?_)
    · simp
      exact fin (fun he => by rw [he] at hd; simp [In.mk'] at hd) _ (by simp)
    have hd0 : xs[i].kind = c := by simpa using hd
    simp [h0, h1, h5, indexAddrV, elemIs, hb, hbe, hc, hrow, In.enc, w, Int.add_assoc, g4]
    refine selS_intro (fun hd => ?_) (fun hd => ?_)
    · simp
      exact fin (fun he => by rw [he] at hd; simp [In.mk'] at hd) _ (by simp)
    have hd1 : xs[i].port = c + 1 := by simpa using hd
    simp [h0, h1, h5, indexAddrV, elemIs, hb, hbe, hc, hrow, In.enc, w, Int.add_assoc, g4]
    refine selS_intro (fun hd => ?_) (fun hd => ?_)
    · simp
      exact fin (fun he => by rw [he] at hd; simp [In.mk'] at hd) _ (by simp)
    have hd2 : xs[i].vec.root = c + 2 := by simpa using hd
    simp [h0, h1, h5, indexAddrV, elemIs, hb, hbe, hc, hrow, In.enc, w, Int.add_assoc, g4]
    refine selS_intro (fun hd => ?_) (fun hd => ?_)
    · simp
      exact fin (fun he => by rw [he] at hd; simp [In.mk'] at hd) _ (by simp)
    have hd3 : xs[i].vec.cost = c + 3 := by simpa using hd
    simp [h0, h1, h5, indexAddrV, elemIs, hb, hbe, hc, hrow, In.enc, w, Int.add_assoc, g4]
    refine selS_intro (fun hd => ?_) (fun hd => ?_)
    · simp
      exact fin (fun he => by rw [he] at hd; simp [In.mk'] at hd) _ (by simp)
    have hd4 : xs[i].vec.bridge = c + 4 := by simpa using hd
    simp [h0, h1, h5, indexAddrV, elemIs, hb, hbe, hc, hrow, In.enc, w, Int.add_assoc, g4]
    refine selS_intro (fun hd => ?_) (fun hd => ?_)
    · simp
      exact fin (fun he => by rw [he] at hd; simp [In.mk'] at hd) _ (by simp)
    have hd5 : xs[i].vec.port = c + 5 := by simpa using hd
    simp [h0, h1, h5, indexAddrV, elemIs, hb, hbe, hc, hrow, In.enc, w, Int.add_assoc, g4]
    refine selS_intro (fun hd => ?_) (fun hd => ?_)
    · simp
      exact fin (fun he => by rw [he] at hd; simp [In.mk'] at hd) _ (by simp)
    have hd6 : xs[i].hops = c + 6 := by simpa using hd
    simp [h0, h1, h5, indexAddrV, elemIs, hb, hbe, hc, hrow, In.enc, w, Int.add_assoc, g4]
    refine selS_intro (fun hd => ?_) (fun hd => ?_)
    · simp
      exact fin (fun he => by rw [he] at hd; simp [In.mk'] at hd) _ (by simp)
    have hd7 : xs[i].up = decide ((c + 7).tmod 3 = 0) := by simpa using hd
    simp [h0, h1, h5, indexAddrV, elemIs, hb, hbe, hc, hrow, In.enc, w, Int.add_assoc, g4]
    refine hn' (j - 1) _ _ (by omega) ⟨i + 1, by omega, by simp [h0], by simp [hcc]; omega, by simp, rfl, heldL_step hc ?_ heq⟩
    rw [← hcc]
    exact In.mk'_of hd0 hd1 hd2 hd3 hd4 hd5 hd6 hd7
  · simp at hc
    obtain rfl : i = xs.length := by omega
    simp [h0, h1, h5]
    refine he' _ _ _ ?_
    simp [h1]
    refine hQ _ _ _ (by simp) ?_
    rw [List.take_of_length_le (Nat.le_refl _)] at heq
    have : heldL In.mk' 8 xs k = k + 8 * xs.length := by rw [heldL, if_pos heq]
    simp [Try.f78, this]

abbrev IsInS := IsSl 133 In.enc
abbrev RdInS := RdSl 133 In.enc
abbrev RdLInS := RdSl 136 In.enc
def InS.mk' (xs : List In) (k : Int) : List In := marked In.mk' 8 xs.length k
def InS.mkN (xs : List In) (k : Int) : Int := k + 8 * xs.length
def InS.hd (xs : List In) (k : Int) : Int := heldL In.mk' 8 xs k
theorem InS.hd_mk (xs : List In) (k : Int) : InS.hd (InS.mk' xs k) k = InS.mkN xs k := by simp [InS.hd, InS.mk', InS.mkN]
theorem InS.mk_sz (xs : List In) (k : Int) : (InS.mk' xs k).length = xs.length := by simp [InS.mk']
theorem InS.mkN_le {xs : List In} {k : Int} (h : xs.length ≤ 1048576) : k ≤ InS.mkN xs k ∧ InS.mkN xs k ≤ k + 1000000000 := by unfold InS.mkN; omega

theorem eqInS_is {H : Heap} {q r : Lf} {xs ys : List In} (h : RdInS H q xs) (h2 : RdInS H r ys) (hn : xs.length ≤ 1048576) : run env 39 [.w (.lf q), .w (.lf r)] H = some (.bool (decide (xs = ys)), H) := by
  obtain ⟨a, rfl, h⟩ := h
  obtain ⟨b, rfl, h2⟩ := h2
  exact eqInS H a b xs ys h h2 hn

theorem markInS_is {H : Heap} {q : Lf} {xs : List In} {fp : List Nat} {k : Int} (h : IsInS H q xs fp) (hk : 0 ≤ k) (hk2 : k ≤ 2305843009213693952) (hn : xs.length ≤ 1048576) :
    Runs env 40 [.w (.lf q), .int k] H fun v H' => v = .int (InS.mkN xs k) ∧ IsInS H' q (InS.mk' xs k) fp ∧ Keep fp H H' := by
  obtain ⟨a, rfl, h⟩ := h
  exact (markInS H a xs fp k h hk (by omega) hn).mono fun v H' ⟨h1, h2, h3⟩ => ⟨h1, ⟨a, by simp [InS.mk'], h2⟩, h3⟩

theorem heldInS_is {H : Heap} {q : Lf} {xs : List In} {k : Int} (h : RdInS H q xs) (hk : 0 ≤ k) (hk2 : k ≤ 2305843009213693952) (hn : xs.length ≤ 1048576) :
    run env 78 [.w (.lf q), .int k] H = some (.int (InS.hd xs k), H) := by
  obtain ⟨a, rfl, h⟩ := h
  exact heldInS H a xs k h hk (by omega) hn

theorem eqOutS (H : Heap) (a b : Option (Nat × Nat)) (xs ys : List Out) (ha : Sl H 113 a (xs.map Out.enc)) (hb : Sl H 113 b (ys.map Out.enc)) (hn : xs.length ≤ 1048576) :
    run env 31 [.w (.lf (.sl a xs.length)), .w (.lf (.sl b ys.length))] H = some (.bool (decide (xs = ys)), H) := by
  refine run_walk ok31 Try.func31 rfl (by simp [Try.f31]) fun Q hQ => ?_
  simp only [Try.f31, strip, stripL, stripI, stripG, chkT, tagsB, tagsL, tagD, addT, tagA, lookN, tagOp, elmT, ty22, ty23, ty28, ty29, ty37, ty38, ty39, ty40, ty41, ty50, ty51, ty52, ty53, ty72, ty81, ty141, ty189, Nat.reduceEqDiff, if_false, reduceIte, Option.getD_some, Option.getD_none, dstAt, dstOk, Nat.reduceLT, decide_true, if_true]
  simp [builtinV, pureB, lenV]
  refine selS_intro (fun hl => ?_) (fun hl => ?_)
  · simp
    refine hQ _ _ _ (by simp) ?_
    simp at hl
    have : ¬ xs = ys := fun h => hl (by rw [h])
    simp [Try.f31, this]
  simp at hl
  simp
  refine wpS_loop (fun j tm H' => ∃ i, i + j = xs.length ∧ tm 0 = .w (.lf (.sl a xs.length)) ∧ tm 1 = .w (.lf (.sl b ys.length)) ∧ tm 5 = .int i ∧ H' = H ∧ xs.take i = ys.take i) xs.length (by rw [env_K]; omega) ⟨0, by simp, by simp, by simp, by simp, rfl, by simp⟩ ?_
  rintro j tm H' hj ⟨i, hij, h0, h1, h5, rfl, heq⟩ Q' hn' he' hr'
  simp [h0, h1, h5, builtinV, pureB, lenV]
  refine selS_intro (fun hc => ?_) (fun hc => ?_)
  · simp at hc
    have hc2 : i < ys.length := by omega
    obtain ⟨id, r, bl, rfl, hbl, hbe, hrow⟩ := ha i _ (by simp [hc]; rfl)
    obtain ⟨id2, r2, bl2, rfl, hbl2, hbe2, hrow2⟩ := hb i _ (by simp [hc2]; rfl)
    have g4 : IntKind.i64.wrap ((i : Int) + 1) = (i : Int) + 1 := wrap64 (by omega) (by omega)
    simp [h0, h1, h5, indexAddrV, elemIs, hbl, hbe, hbl2, hbe2, hc, hc2, hrow, hrow2, eqOut]
    refine selS_intro (fun hd => ?_) (fun hd => ?_)
    · simp
      refine hr' _ _ ?_
      simp
      refine hQ _ _ _ (by simp) ?_
      simp at hd
      have : ¬ xs = ys := fun h => by subst h; simp at hd
      simp [Try.f31, this]
    · simp at hd
      simp [h0, h1, h5, g4]
      exact hn' (j - 1) _ _ (by omega) ⟨i + 1, by omega, by simp [h0], by simp [h1], by simp, rfl, by rw [List.take_add_one, List.take_add_one, heq]; simp [hc, hc2, hd]⟩
  · simp at hc
    simp [h0, h1, h5]
    refine he' _ _ _ ?_
    simp
    refine hQ _ _ _ (by simp) ?_
    have : xs = ys := by
      rw [List.take_of_length_le (by omega), List.take_of_length_le (by omega)] at heq
      exact heq
    simp [Try.f31, this]

theorem markOutS (H : Heap) (a : Option (Nat × Nat)) (xs : List Out) (fp : List Nat) (k : Int) (h : Own H 113 a (xs.map Out.enc) fp) (hk : 0 ≤ k) (hk2 : k + 8 * xs.length ≤ 4611686018427387904) (hn : xs.length ≤ 1048576) :
    Runs env 32 [.w (.lf (.sl a xs.length)), .int k] H fun v H' => v = .int (k + 8 * xs.length) ∧ Own H' 113 a ((marked Out.mk' 8 xs.length k).map Out.enc) fp ∧ Keep fp H H' := by
  refine Runs.walk ok32 Try.func32 rfl (by simp [Try.f32]) fun Q hQ => ?_
  simp only [Try.f32, strip, stripL, stripI, stripG, chkT, tagsB, tagsL, tagD, addT, tagA, lookN, tagOp, elmT, ty22, ty23, ty28, ty29, ty37, ty38, ty39, ty40, ty41, ty50, ty51, ty52, ty53, ty72, ty81, ty141, ty189, Nat.reduceEqDiff, if_false, reduceIte, Option.getD_some, Option.getD_none, dstAt, dstOk, Nat.reduceLT, decide_true, if_true]
  simp
  refine wpS_loop (fun j tm H' => ∃ i, i + j = xs.length ∧ tm 0 = .w (.lf (.sl a xs.length)) ∧ tm 1 = .int (k + 8 * i) ∧ tm 5 = .int i ∧ Own H' 113 a ((marked Out.mk' 8 i k ++ xs.drop i).map Out.enc) fp ∧ Keep fp H H') xs.length (by rw [env_K]; omega) ⟨0, by simp, by simp, by simp, by simp, by simpa [marked] using h, Keep.refl _ _⟩ ?_
  rintro j tm H' hj ⟨i, hij, h0, h1, h5, ho, hkp⟩ Q' hn' he' hr'
  simp [h0, h1, h5, builtinV, pureB, lenV]
  refine selS_intro (fun hc => ?_) (fun hc => ?_)
  · simp at hc
    obtain ⟨id, b, rfl, rfl, hb, hbe, hm, hpre⟩ := ho.blk (by simp; omega)
    have hid := blkAt_len hb
    obtain ⟨t, ht⟩ := hpre
    obtain ⟨hi, hrow2⟩ := marked_at Out.mk' 8 Out.enc xs hc k ht
    have g4 : IntKind.i64.wrap ((i : Int) + 1) = (i : Int) + 1 := wrap64 (by omega) (by omega)
    obtain ⟨c, hcc⟩ : ∃ c, c = k + 8 * (i : Int) := ⟨_, rfl⟩
    rw [← hcc] at h1
    have w : ∀ d : Int, 0 ≤ d → d ≤ 100 → IntKind.i64.wrap (c + d) = c + d := fun d h1 h2 => wrap64 (by omega) (by omega)
    simp [h0, h1, h5, indexAddrV, elemIs, hid, hb, hbe, hm, hc, hi, hrow2, blkAt_set, Out.enc, w, Int.add_assoc, g4]
    refine hn' (j - 1) _ _ (by omega) ⟨i + 1, by omega, by simp [h0], by simp [hcc]; omega, by simp, ?_, ?_⟩
    · have := ho.set (row := Out.enc (Out.mk' c)) hb (i := i) (by simp; omega)
      have e := marked_put Out.mk' 8 Out.enc xs hc k
      rw [← hcc] at e
      rw [e, hm, hbe] at this
      simpa [Out.enc, Out.mk'] using this
    · exact hkp.trans (Keep.set _ _) (by simp) (by simp)
  · simp at hc
    obtain rfl : i = xs.length := by omega
    simp [h0, h1, h5]
    refine he' _ _ _ ?_
    simp [h1]
    refine hQ _ _ _ (by simp) ?_
    simp [Try.f32]
    exact ⟨leave_own (by simpa using ho) h.lt, leave_keep' hkp⟩

theorem heldOutS (H : Heap) (a : Option (Nat × Nat)) (xs : List Out) (k : Int) (h : Sl H 113 a (xs.map Out.enc)) (hk : 0 ≤ k) (hk2 : k + 8 * xs.length ≤ 4611686018427387904) (hn : xs.length ≤ 1048576) :
    run env 41 [.w (.lf (.sl a xs.length)), .int k] H = some (.int (heldL Out.mk' 8 xs k), H) := by
  refine run_walk ok41 Try.func41 rfl (by simp [Try.f41]) fun Q hQ => ?_
  simp only [Try.f41, strip, stripL, stripI, stripG, chkT, tagsB, tagsL, tagD, addT, tagA, lookN, tagOp, elmT, ty22, ty23, ty28, ty29, ty37, ty38, ty39, ty40, ty41, ty50, ty51, ty52, ty53, ty72, ty81, ty141, ty189, Nat.reduceEqDiff, if_false, reduceIte, Option.getD_some, Option.getD_none, dstAt, dstOk, Nat.reduceLT, decide_true, if_true]
  simp
  refine wpS_loop (fun j tm H' => ∃ i, i + j = xs.length ∧ tm 0 = .w (.lf (.sl a xs.length)) ∧ tm 1 = .int (k + 8 * i) ∧ tm 5 = .int i ∧ H' = H ∧ xs.take i = marked Out.mk' 8 i k) xs.length (by rw [env_K]; omega) ⟨0, by simp, by simp, by simp, by simp, rfl, by simp [marked]⟩ ?_
  rintro j tm H' hj ⟨i, hij, h0, h1, h5, rfl, heq⟩ Q' hn' he' hr'
  simp [h0, h1, h5, builtinV, pureB, lenV]
  refine selS_intro (fun hc => ?_) (fun hc => ?_)
  · simp at hc
    obtain ⟨id, r, b, rfl, hb, hbe, hrow⟩ := h i _ (by simp [hc]; rfl)
    have g4 : IntKind.i64.wrap ((i : Int) + 1) = (i : Int) + 1 := wrap64 (by omega) (by omega)
    obtain ⟨c, hcc⟩ : ∃ c, c = k + 8 * (i : Int) := ⟨_, rfl⟩
    rw [← hcc] at h1
    have w : ∀ d : Int, 0 ≤ d → d ≤ 100 → IntKind.i64.wrap (c + d) = c + d := fun d h1 h2 => wrap64 (by omega) (by omega)
    have fin : xs[i] ≠ Out.mk' c → ∀ tm'' : T, tm'' 4 = .int (-1) → Q' .ret tm'' H' := by
      intro hx tm'' ht
      refine hr' _ _ ?_
      simp
      refine hQ _ _ _ (by simp) ?_
      have : heldL Out.mk' 8 xs k = -1 := heldL_bad hc (by rw [← hcc]; exact hx)
      simp [Try.f41, ht, this]
    simp [h0, h1, h5, indexAddrV, elemIs, hb, hbe, hc, hrow, Out.enc, w, Int.add_assoc, g4]
    refine selS_intro (fun hd => ?_) (fun hd => ?_)
    · simp
      exact fin (fun he => by rw [he] at hd; simp [Out.mk'] at hd) _ (by simp)
    have hd0 : xs[i].kind = c := by simpa using hd
    simp [h0, h1, h5, indexAddrV, elemIs, hb, hbe, hc, hrow, Out.enc, w, Int.add_assoc, g4]
    refine selS_intro (fun hd => ?_) (fun hd => ?_)
    · simp
      exact fin (fun he => by rw [he] at hd; simp [Out.mk'] at hd) _ (by simp)
    have hd1 : xs[i].port = c + 1 := by simpa using hd
    simp [h0, h1, h5, indexAddrV, elemIs, hb, hbe, hc, hrow, Out.enc, w, Int.add_assoc, g4]
    refine selS_intro (fun hd => ?_) (fun hd => ?_)
    · simp
      exact fin (fun he => by rw [he] at hd; simp [Out.mk'] at hd) _ (by simp)
    have hd2 : xs[i].vec.root = c + 2 := by simpa using hd
    simp [h0, h1, h5, indexAddrV, elemIs, hb, hbe, hc, hrow, Out.enc, w, Int.add_assoc, g4]
    refine selS_intro (fun hd => ?_) (fun hd => ?_)
    · simp
      exact fin (fun he => by rw [he] at hd; simp [Out.mk'] at hd) _ (by simp)
    have hd3 : xs[i].vec.cost = c + 3 := by simpa using hd
    simp [h0, h1, h5, indexAddrV, elemIs, hb, hbe, hc, hrow, Out.enc, w, Int.add_assoc, g4]
    refine selS_intro (fun hd => ?_) (fun hd => ?_)
    · simp
      exact fin (fun he => by rw [he] at hd; simp [Out.mk'] at hd) _ (by simp)
    have hd4 : xs[i].vec.bridge = c + 4 := by simpa using hd
    simp [h0, h1, h5, indexAddrV, elemIs, hb, hbe, hc, hrow, Out.enc, w, Int.add_assoc, g4]
    refine selS_intro (fun hd => ?_) (fun hd => ?_)
    · simp
      exact fin (fun he => by rw [he] at hd; simp [Out.mk'] at hd) _ (by simp)
    have hd5 : xs[i].vec.port = c + 5 := by simpa using hd
    simp [h0, h1, h5, indexAddrV, elemIs, hb, hbe, hc, hrow, Out.enc, w, Int.add_assoc, g4]
    refine selS_intro (fun hd => ?_) (fun hd => ?_)
    · simp
      exact fin (fun he => by rw [he] at hd; simp [Out.mk'] at hd) _ (by simp)
    have hd6 : xs[i].hops = c + 6 := by simpa using hd
    simp [h0, h1, h5, indexAddrV, elemIs, hb, hbe, hc, hrow, Out.enc, w, Int.add_assoc, g4]
    refine selS_intro (fun hd => ?_) (fun hd => ?_)
    · simp
      exact fin (fun he => by rw [he] at hd; simp [Out.mk'] at hd) _ (by simp)
    have hd7 : xs[i].on = decide ((c + 7).tmod 3 = 0) := by simpa using hd
    simp [h0, h1, h5, indexAddrV, elemIs, hb, hbe, hc, hrow, Out.enc, w, Int.add_assoc, g4]
    refine hn' (j - 1) _ _ (by omega) ⟨i + 1, by omega, by simp [h0], by simp [hcc]; omega, by simp, rfl, heldL_step hc ?_ heq⟩
    rw [← hcc]
    exact Out.mk'_of hd0 hd1 hd2 hd3 hd4 hd5 hd6 hd7
  · simp at hc
    obtain rfl : i = xs.length := by omega
    simp [h0, h1, h5]
    refine he' _ _ _ ?_
    simp [h1]
    refine hQ _ _ _ (by simp) ?_
    rw [List.take_of_length_le (Nat.le_refl _)] at heq
    have : heldL Out.mk' 8 xs k = k + 8 * xs.length := by rw [heldL, if_pos heq]
    simp [Try.f41, this]

abbrev IsOutS := IsSl 113 Out.enc
abbrev RdOutS := RdSl 113 Out.enc
abbrev RdLOutS := RdSl 122 Out.enc
def OutS.mk' (xs : List Out) (k : Int) : List Out := marked Out.mk' 8 xs.length k
def OutS.mkN (xs : List Out) (k : Int) : Int := k + 8 * xs.length
def OutS.hd (xs : List Out) (k : Int) : Int := heldL Out.mk' 8 xs k
theorem OutS.hd_mk (xs : List Out) (k : Int) : OutS.hd (OutS.mk' xs k) k = OutS.mkN xs k := by simp [OutS.hd, OutS.mk', OutS.mkN]
theorem OutS.mk_sz (xs : List Out) (k : Int) : (OutS.mk' xs k).length = xs.length := by simp [OutS.mk']
theorem OutS.mkN_le {xs : List Out} {k : Int} (h : xs.length ≤ 1048576) : k ≤ OutS.mkN xs k ∧ OutS.mkN xs k ≤ k + 1000000000 := by unfold OutS.mkN; omega

theorem eqOutS_is {H : Heap} {q r : Lf} {xs ys : List Out} (h : RdOutS H q xs) (h2 : RdOutS H r ys) (hn : xs.length ≤ 1048576) : run env 31 [.w (.lf q), .w (.lf r)] H = some (.bool (decide (xs = ys)), H) := by
  obtain ⟨a, rfl, h⟩ := h
  obtain ⟨b, rfl, h2⟩ := h2
  exact eqOutS H a b xs ys h h2 hn

theorem markOutS_is {H : Heap} {q : Lf} {xs : List Out} {fp : List Nat} {k : Int} (h : IsOutS H q xs fp) (hk : 0 ≤ k) (hk2 : k ≤ 2305843009213693952) (hn : xs.length ≤ 1048576) :
    Runs env 32 [.w (.lf q), .int k] H fun v H' => v = .int (OutS.mkN xs k) ∧ IsOutS H' q (OutS.mk' xs k) fp ∧ Keep fp H H' := by
  obtain ⟨a, rfl, h⟩ := h
  exact (markOutS H a xs fp k h hk (by omega) hn).mono fun v H' ⟨h1, h2, h3⟩ => ⟨h1, ⟨a, by simp [OutS.mk'], h2⟩, h3⟩

theorem heldOutS_is {H : Heap} {q : Lf} {xs : List Out} {k : Int} (h : RdOutS H q xs) (hk : 0 ≤ k) (hk2 : k ≤ 2305843009213693952) (hn : xs.length ≤ 1048576) :
    run env 41 [.w (.lf q), .int k] H = some (.int (OutS.hd xs k), H) := by
  obtain ⟨a, rfl, h⟩ := h
  exact heldOutS H a xs k h hk (by omega) hn

theorem eqWireS (H : Heap) (a b : Option (Nat × Nat)) (xs ys : List Wire) (ha : Sl H 163 a (xs.map Wire.enc)) (hb : Sl H 163 b (ys.map Wire.enc)) (hn : xs.length ≤ 1048576) :
    run env 70 [.w (.lf (.sl a xs.length)), .w (.lf (.sl b ys.length))] H = some (.bool (decide (xs = ys)), H) := by
  refine run_walk ok70 Try.func70 rfl (by simp [Try.f70]) fun Q hQ => ?_
  simp only [Try.f70, strip, stripL, stripI, stripG, chkT, tagsB, tagsL, tagD, addT, tagA, lookN, tagOp, elmT, ty22, ty23, ty28, ty29, ty37, ty38, ty39, ty40, ty41, ty50, ty51, ty52, ty53, ty72, ty81, ty141, ty189, Nat.reduceEqDiff, if_false, reduceIte, Option.getD_some, Option.getD_none, dstAt, dstOk, Nat.reduceLT, decide_true, if_true]
  simp [builtinV, pureB, lenV]
  refine selS_intro (fun hl => ?_) (fun hl => ?_)
  · simp
    refine hQ _ _ _ (by simp) ?_
    simp at hl
    have : ¬ xs = ys := fun h => hl (by rw [h])
    simp [Try.f70, this]
  simp at hl
  simp
  refine wpS_loop (fun j tm H' => ∃ i, i + j = xs.length ∧ tm 0 = .w (.lf (.sl a xs.length)) ∧ tm 1 = .w (.lf (.sl b ys.length)) ∧ tm 5 = .int i ∧ H' = H ∧ xs.take i = ys.take i) xs.length (by rw [env_K]; omega) ⟨0, by simp, by simp, by simp, by simp, rfl, by simp⟩ ?_
  rintro j tm H' hj ⟨i, hij, h0, h1, h5, rfl, heq⟩ Q' hn' he' hr'
  simp [h0, h1, h5, builtinV, pureB, lenV]
  refine selS_intro (fun hc => ?_) (fun hc => ?_)
  · simp at hc
    have hc2 : i < ys.length := by omega
    obtain ⟨id, r, bl, rfl, hbl, hbe, hrow⟩ := ha i _ (by simp [hc]; rfl)
    obtain ⟨id2, r2, bl2, rfl, hbl2, hbe2, hrow2⟩ := hb i _ (by simp [hc2]; rfl)
    have g4 : IntKind.i64.wrap ((i : Int) + 1) = (i : Int) + 1 := wrap64 (by omega) (by omega)
    simp [h0, h1, h5, indexAddrV, elemIs, hbl, hbe, hbl2, hbe2, hc, hc2, hrow, hrow2, eqWire]
    refine selS_intro (fun hd => ?_) (fun hd => ?_)
    · simp
      refine hr' _ _ ?_
      simp
      refine hQ _ _ _ (by simp) ?_
      simp at hd
      have : ¬ xs = ys := fun h => by subst h; simp at hd
      simp [Try.f70, this]
    · simp at hd
      simp [h0, h1, h5, g4]
      exact hn' (j - 1) _ _ (by omega) ⟨i + 1, by omega, by simp [h0], by simp [h1], by simp, rfl, by rw [List.take_add_one, List.take_add_one, heq]; simp [hc, hc2, hd]⟩
  · simp at hc
    simp [h0, h1, h5]
    refine he' _ _ _ ?_
    simp
    refine hQ _ _ _ (by simp) ?_
    have : xs = ys := by
      rw [List.take_of_length_le (by omega), List.take_of_length_le (by omega)] at heq
      exact heq
    simp [Try.f70, this]

theorem markWireS (H : Heap) (a : Option (Nat × Nat)) (xs : List Wire) (fp : List Nat) (k : Int) (h : Own H 163 a (xs.map Wire.enc) fp) (hk : 0 ≤ k) (hk2 : k + 12 * xs.length ≤ 4611686018427387904) (hn : xs.length ≤ 1048576) :
    Runs env 73 [.w (.lf (.sl a xs.length)), .int k] H fun v H' => v = .int (k + 12 * xs.length) ∧ Own H' 163 a ((marked Wire.mk' 12 xs.length k).map Wire.enc) fp ∧ Keep fp H H' := by
  refine Runs.walk ok73 Try.func73 rfl (by simp [Try.f73]) fun Q hQ => ?_
  simp only [Try.f73, strip, stripL, stripI, stripG, chkT, tagsB, tagsL, tagD, addT, tagA, lookN, tagOp, elmT, ty22, ty23, ty28, ty29, ty37, ty38, ty39, ty40, ty41, ty50, ty51, ty52, ty53, ty72, ty81, ty141, ty189, Nat.reduceEqDiff, if_false, reduceIte, Option.getD_some, Option.getD_none, dstAt, dstOk, Nat.reduceLT, decide_true, if_true]
  simp
  refine wpS_loop (fun j tm H' => ∃ i, i + j = xs.length ∧ tm 0 = .w (.lf (.sl a xs.length)) ∧ tm 1 = .int (k + 12 * i) ∧ tm 5 = .int i ∧ Own H' 163 a ((marked Wire.mk' 12 i k ++ xs.drop i).map Wire.enc) fp ∧ Keep fp H H') xs.length (by rw [env_K]; omega) ⟨0, by simp, by simp, by simp, by simp, by simpa [marked] using h, Keep.refl _ _⟩ ?_
  rintro j tm H' hj ⟨i, hij, h0, h1, h5, ho, hkp⟩ Q' hn' he' hr'
  simp [h0, h1, h5, builtinV, pureB, lenV]
  refine selS_intro (fun hc => ?_) (fun hc => ?_)
  · simp at hc
    obtain ⟨id, b, rfl, rfl, hb, hbe, hm, hpre⟩ := ho.blk (by simp; omega)
    have hid := blkAt_len hb
    obtain ⟨t, ht⟩ := hpre
    obtain ⟨hi, hrow2⟩ := marked_at Wire.mk' 12 Wire.enc xs hc k ht
    have g4 : IntKind.i64.wrap ((i : Int) + 1) = (i : Int) + 1 := wrap64 (by omega) (by omega)
    obtain ⟨c, hcc⟩ : ∃ c, c = k + 12 * (i : Int) := ⟨_, rfl⟩
    rw [← hcc] at h1
    have w : ∀ d : Int, 0 ≤ d → d ≤ 100 → IntKind.i64.wrap (c + d) = c + d := fun d h1 h2 => wrap64 (by omega) (by omega)
    simp [h0, h1, h5, indexAddrV, elemIs, hid, hb, hbe, hm, hc, hi, hrow2, blkAt_set, Wire.enc, w, Int.add_assoc, g4]
    refine hn' (j - 1) _ _ (by omega) ⟨i + 1, by omega, by simp [h0], by simp [hcc]; omega, by simp, ?_, ?_⟩
    · have := ho.set (row := Wire.enc (Wire.mk' c)) hb (i := i) (by simp; omega)
      have e := marked_put Wire.mk' 12 Wire.enc xs hc k
      rw [← hcc] at e
      rw [e, hm, hbe] at this
      simpa [Wire.enc, Wire.mk'] using this
    · exact hkp.trans (Keep.set _ _) (by simp) (by simp)
  · simp at hc
    obtain rfl : i = xs.length := by omega
    simp [h0, h1, h5]
    refine he' _ _ _ ?_
    simp [h1]
    refine hQ _ _ _ (by simp) ?_
    simp [Try.f73]
    exact ⟨leave_own (by simpa using ho) h.lt, leave_keep' hkp⟩

theorem heldWireS (H : Heap) (a : Option (Nat × Nat)) (xs : List Wire) (k : Int) (h : Sl H 163 a (xs.map Wire.enc)) (hk : 0 ≤ k) (hk2 : k + 12 * xs.length ≤ 4611686018427387904) (hn : xs.length ≤ 1048576) :
    run env 76 [.w (.lf (.sl a xs.length)), .int k] H = some (.int (heldL Wire.mk' 12 xs k), H) := by
  refine run_walk ok76 Try.func76 rfl (by simp [Try.f76]) fun Q hQ => ?_
  simp only [Try.f76, strip, stripL, stripI, stripG, chkT, tagsB, tagsL, tagD, addT, tagA, lookN, tagOp, elmT, ty22, ty23, ty28, ty29, ty37, ty38, ty39, ty40, ty41, ty50, ty51, ty52, ty53, ty72, ty81, ty141, ty189, Nat.reduceEqDiff, if_false, reduceIte, Option.getD_some, Option.getD_none, dstAt, dstOk, Nat.reduceLT, decide_true, if_true]
  simp
  refine wpS_loop (fun j tm H' => ∃ i, i + j = xs.length ∧ tm 0 = .w (.lf (.sl a xs.length)) ∧ tm 1 = .int (k + 12 * i) ∧ tm 5 = .int i ∧ H' = H ∧ xs.take i = marked Wire.mk' 12 i k) xs.length (by rw [env_K]; omega) ⟨0, by simp, by simp, by simp, by simp, rfl, by simp [marked]⟩ ?_
  rintro j tm H' hj ⟨i, hij, h0, h1, h5, rfl, heq⟩ Q' hn' he' hr'
  simp [h0, h1, h5, builtinV, pureB, lenV]
  refine selS_intro (fun hc => ?_) (fun hc => ?_)
  · simp at hc
    obtain ⟨id, r, b, rfl, hb, hbe, hrow⟩ := h i _ (by simp [hc]; rfl)
    have g4 : IntKind.i64.wrap ((i : Int) + 1) = (i : Int) + 1 := wrap64 (by omega) (by omega)
    obtain ⟨c, hcc⟩ : ∃ c, c = k + 12 * (i : Int) := ⟨_, rfl⟩
    rw [← hcc] at h1
    have w : ∀ d : Int, 0 ≤ d → d ≤ 100 → IntKind.i64.wrap (c + d) = c + d := fun d h1 h2 => wrap64 (by omega) (by omega)
    have fin : xs[i] ≠ Wire.mk' c → ∀ tm'' : T, tm'' 4 = .int (-1) → Q' .ret tm'' H' := by
      intro hx tm'' ht
      refine hr' _ _ ?_
      simp
      refine hQ _ _ _ (by simp) ?_
      have : heldL Wire.mk' 12 xs k = -1 := heldL_bad hc (by rw [← hcc]; exact hx)
      simp [Try.f76, ht, this]
    simp [h0, h1, h5, indexAddrV, elemIs, hb, hbe, hc, hrow, Wire.enc, w, Int.add_assoc, g4]
    refine selS_intro (fun hd => ?_) (fun hd => ?_)
    · simp
      exact fin (fun he => by rw [he] at hd; simp [Wire.mk'] at hd) _ (by simp)
    have hd0 : xs[i].frm = c := by simpa using hd
    simp [h0, h1, h5, indexAddrV, elemIs, hb, hbe, hc, hrow, Wire.enc, w, Int.add_assoc, g4]
    refine selS_intro (fun hd => ?_) (fun hd => ?_)
    · simp
      exact fin (fun he => by rw [he] at hd; simp [Wire.mk'] at hd) _ (by simp)
    have hd1 : xs[i].ack = decide ((c + 1).tmod 3 = 0) := by simpa using hd
    simp [h0, h1, h5, indexAddrV, elemIs, hb, hbe, hc, hrow, Wire.enc, w, Int.add_assoc, g4]
    refine selS_intro (fun hd => ?_) (fun hd => ?_)
    · simp
      exact fin (fun he => by rw [he] at hd; simp [Wire.mk'] at hd) _ (by simp)
    have hd2 : xs[i].life = c + 2 := by simpa using hd
    simp [h0, h1, h5, indexAddrV, elemIs, hb, hbe, hc, hrow, Wire.enc, w, Int.add_assoc, g4]
    refine selS_intro (fun hd => ?_) (fun hd => ?_)
    · simp
      exact fin (fun he => by rw [he] at hd; simp [Wire.mk'] at hd) _ (by simp)
    have hd3 : xs[i].n = c + 3 := by simpa using hd
    simp [h0, h1, h5, indexAddrV, elemIs, hb, hbe, hc, hrow, Wire.enc, w, Int.add_assoc, g4]
    refine selS_intro (fun hd => ?_) (fun hd => ?_)
    · simp
      exact fin (fun he => by rw [he] at hd; simp [Wire.mk'] at hd) _ (by simp)
    have hd4 : xs[i].inn.kind = c + 4 := by simpa using hd
    simp [h0, h1, h5, indexAddrV, elemIs, hb, hbe, hc, hrow, Wire.enc, w, Int.add_assoc, g4]
    refine selS_intro (fun hd => ?_) (fun hd => ?_)
    · simp
      exact fin (fun he => by rw [he] at hd; simp [Wire.mk'] at hd) _ (by simp)
    have hd5 : xs[i].inn.port = c + 5 := by simpa using hd
    simp [h0, h1, h5, indexAddrV, elemIs, hb, hbe, hc, hrow, Wire.enc, w, Int.add_assoc, g4]
    refine selS_intro (fun hd => ?_) (fun hd => ?_)
    · simp
      exact fin (fun he => by rw [he] at hd; simp [Wire.mk'] at hd) _ (by simp)
    have hd6 : xs[i].inn.vec.root = c + 6 := by simpa using hd
    simp [h0, h1, h5, indexAddrV, elemIs, hb, hbe, hc, hrow, Wire.enc, w, Int.add_assoc, g4]
    refine selS_intro (fun hd => ?_) (fun hd => ?_)
    · simp
      exact fin (fun he => by rw [he] at hd; simp [Wire.mk'] at hd) _ (by simp)
    have hd7 : xs[i].inn.vec.cost = c + 7 := by simpa using hd
    simp [h0, h1, h5, indexAddrV, elemIs, hb, hbe, hc, hrow, Wire.enc, w, Int.add_assoc, g4]
    refine selS_intro (fun hd => ?_) (fun hd => ?_)
    · simp
      exact fin (fun he => by rw [he] at hd; simp [Wire.mk'] at hd) _ (by simp)
    have hd8 : xs[i].inn.vec.bridge = c + 8 := by simpa using hd
    simp [h0, h1, h5, indexAddrV, elemIs, hb, hbe, hc, hrow, Wire.enc, w, Int.add_assoc, g4]
    refine selS_intro (fun hd => ?_) (fun hd => ?_)
    · simp
      exact fin (fun he => by rw [he] at hd; simp [Wire.mk'] at hd) _ (by simp)
    have hd9 : xs[i].inn.vec.port = c + 9 := by simpa using hd
    simp [h0, h1, h5, indexAddrV, elemIs, hb, hbe, hc, hrow, Wire.enc, w, Int.add_assoc, g4]
    refine selS_intro (fun hd => ?_) (fun hd => ?_)
    · simp
      exact fin (fun he => by rw [he] at hd; simp [Wire.mk'] at hd) _ (by simp)
    have hd10 : xs[i].inn.hops = c + 10 := by simpa using hd
    simp [h0, h1, h5, indexAddrV, elemIs, hb, hbe, hc, hrow, Wire.enc, w, Int.add_assoc, g4]
    refine selS_intro (fun hd => ?_) (fun hd => ?_)
    · simp
      exact fin (fun he => by rw [he] at hd; simp [Wire.mk'] at hd) _ (by simp)
    have hd11 : xs[i].inn.up = decide ((c + 11).tmod 3 = 0) := by simpa using hd
    simp [h0, h1, h5, indexAddrV, elemIs, hb, hbe, hc, hrow, Wire.enc, w, Int.add_assoc, g4]
    refine hn' (j - 1) _ _ (by omega) ⟨i + 1, by omega, by simp [h0], by simp [hcc]; omega, by simp, rfl, heldL_step hc ?_ heq⟩
    rw [← hcc]
    exact Wire.mk'_of hd0 hd1 hd2 hd3 hd4 hd5 hd6 hd7 hd8 hd9 hd10 hd11
  · simp at hc
    obtain rfl : i = xs.length := by omega
    simp [h0, h1, h5]
    refine he' _ _ _ ?_
    simp [h1]
    refine hQ _ _ _ (by simp) ?_
    rw [List.take_of_length_le (Nat.le_refl _)] at heq
    have : heldL Wire.mk' 12 xs k = k + 12 * xs.length := by rw [heldL, if_pos heq]
    simp [Try.f76, this]

abbrev IsWireS := IsSl 163 Wire.enc
abbrev RdWireS := RdSl 163 Wire.enc
abbrev RdLWireS := RdSl 171 Wire.enc
def WireS.mk' (xs : List Wire) (k : Int) : List Wire := marked Wire.mk' 12 xs.length k
def WireS.mkN (xs : List Wire) (k : Int) : Int := k + 12 * xs.length
def WireS.hd (xs : List Wire) (k : Int) : Int := heldL Wire.mk' 12 xs k
theorem WireS.hd_mk (xs : List Wire) (k : Int) : WireS.hd (WireS.mk' xs k) k = WireS.mkN xs k := by simp [WireS.hd, WireS.mk', WireS.mkN]
theorem WireS.mk_sz (xs : List Wire) (k : Int) : (WireS.mk' xs k).length = xs.length := by simp [WireS.mk']
theorem WireS.mkN_le {xs : List Wire} {k : Int} (h : xs.length ≤ 1048576) : k ≤ WireS.mkN xs k ∧ WireS.mkN xs k ≤ k + 1000000000 := by unfold WireS.mkN; omega

theorem eqWireS_is {H : Heap} {q r : Lf} {xs ys : List Wire} (h : RdWireS H q xs) (h2 : RdWireS H r ys) (hn : xs.length ≤ 1048576) : run env 70 [.w (.lf q), .w (.lf r)] H = some (.bool (decide (xs = ys)), H) := by
  obtain ⟨a, rfl, h⟩ := h
  obtain ⟨b, rfl, h2⟩ := h2
  exact eqWireS H a b xs ys h h2 hn

theorem markWireS_is {H : Heap} {q : Lf} {xs : List Wire} {fp : List Nat} {k : Int} (h : IsWireS H q xs fp) (hk : 0 ≤ k) (hk2 : k ≤ 2305843009213693952) (hn : xs.length ≤ 1048576) :
    Runs env 73 [.w (.lf q), .int k] H fun v H' => v = .int (WireS.mkN xs k) ∧ IsWireS H' q (WireS.mk' xs k) fp ∧ Keep fp H H' := by
  obtain ⟨a, rfl, h⟩ := h
  exact (markWireS H a xs fp k h hk (by omega) hn).mono fun v H' ⟨h1, h2, h3⟩ => ⟨h1, ⟨a, by simp [WireS.mk'], h2⟩, h3⟩

theorem heldWireS_is {H : Heap} {q : Lf} {xs : List Wire} {k : Int} (h : RdWireS H q xs) (hk : 0 ≤ k) (hk2 : k ≤ 2305843009213693952) (hn : xs.length ≤ 1048576) :
    run env 76 [.w (.lf q), .int k] H = some (.int (WireS.hd xs k), H) := by
  obtain ⟨a, rfl, h⟩ := h
  exact heldWireS H a xs k h hk (by omega) hn

def Reg.ok (r : Reg) : Bool := decide (1 ≤ r.epoch) && decide (r.epoch ≤ 100000) && (decide (0 ≤ r.owner) && decide (r.owner ≤ 1)) && (decide (0 ≤ r.pair) && decide (r.pair ≤ 100000))

theorem specRegOk (H : Heap) (r : Reg) : run env 122 [.agg r.enc] H = some (.bool r.ok, H) := by
  refine run_walk ok122 Try.func122 rfl (by simp [Try.f122]) fun Q hQ => ?_
  simp only [Try.f122, strip, stripL, stripI, stripG, chkT, tagsB, tagsL, tagD, addT, tagA, lookN, tagOp, elmT, ty22, ty23, ty28, ty29, ty37, ty38, ty39, ty40, ty41, ty50, ty51, ty52, ty53, ty72, ty81, ty141, ty189, Nat.reduceEqDiff, if_false, reduceIte, Option.getD_some, Option.getD_none, dstAt, dstOk, Nat.reduceLT, decide_true, if_true]
  simp [Reg.enc, l1In]
  repeat' (first | (refine gdL_t (fun h => ?_) (fun h => ?_) <;> simp [h, l1In]) | (refine gdL_f (fun h => ?_) (fun h => ?_) <;> simp [h, l1In]) | (refine selS_intro (fun h => ?_) (fun h => ?_) <;> simp [h, l1In]))
  all_goals (refine hQ _ _ _ (by simp) ?_)
  all_goals (clear hQ; simp_all [Try.f122, Reg.ok] <;> omega)

structure Bridge where
  id : Int
  ports : List Port
  deriving DecidableEq, Inhabited
def Bridge.enc (b : Bridge) (a : Option (Nat × Nat)) : List Lf := [.i .i64 b.id, .sl a b.ports.length]
@[simp] theorem Bridge.enc_len (b : Bridge) (a : Option (Nat × Nat)) : (b.enc a).length = 2 := rfl
@[simp] theorem Bridge.enc_take (b : Bridge) (a : Option (Nat × Nat)) : List.take 2 (b.enc a) = b.enc a := rfl

structure Minder where
  up : Bool
  life : Int
  epoch : Int
  log : List In
  said : Int
  acked : Int
  ackLife : Int
  deriving DecidableEq
def Minder.enc (m : Minder) (a : Option (Nat × Nat)) : List Lf := [.b m.up, .i .i64 m.life, .i .i64 m.epoch, .sl a m.log.length, .i .i64 m.said, .i .i64 m.acked, .i .i64 m.ackLife]
@[simp] theorem Minder.enc_len (m : Minder) (a : Option (Nat × Nat)) : (m.enc a).length = 7 := rfl
@[simp] theorem Minder.enc_take (m : Minder) (a : Option (Nat × Nat)) : List.take 7 (m.enc a) = m.enc a := rfl

theorem eqMinder (H : Heap) (a b : Option (Nat × Nat)) (m n : Minder) (ha : Sl H 133 a (m.log.map In.enc)) (hb : Sl H 133 b (n.log.map In.enc)) (hn : m.log.length ≤ 1048576) :
    run env 126 [.agg (m.enc a), .agg (n.enc b)] H = some (.bool (decide (m = n)), H) := by
  have e := fun G => eqInS (H ++ G) a b m.log n.log (ha.app _) (hb.app _) hn
  obtain ⟨a1, a2, a3, a4, a5, a6, a7⟩ := m
  obtain ⟨b1, b2, b3, b4, b5, b6, b7⟩ := n
  simp only at e
  refine run_walk ok126 Try.func126 rfl (by simp [Try.f126]) fun Q hQ => ?_
  simp only [Try.f126, strip, stripL, stripI, stripG, chkT, tagsB, tagsL, tagD, addT, tagA, lookN, tagOp, elmT, ty22, ty23, ty28, ty29, ty37, ty38, ty39, ty40, ty41, ty50, ty51, ty52, ty53, ty72, ty81, ty141, ty189, Nat.reduceEqDiff, if_false, reduceIte, Option.getD_some, Option.getD_none, dstAt, dstOk, Nat.reduceLT, decide_true, if_true]
  simp [Minder.enc]
  repeat' (first | (refine gdL_t (fun h => ?_) (fun h => ?_) <;> simp [h, e]) | (refine gdL_f (fun h => ?_) (fun h => ?_) <;> simp [h, e]) | (refine selS_intro (fun h => ?_) (fun h => ?_) <;> simp [h, e]))
  all_goals (refine hQ _ _ _ (by simp) ?_)
  all_goals (clear hQ; simp_all [Try.f126])

def Vec.ok (v : Vec) : Bool := (decide (1 ≤ v.root) && decide (v.root ≤ 9)) && (decide (1 ≤ v.bridge) && decide (v.bridge ≤ 9)) && decide (v.root ≤ v.bridge) && (decide (0 ≤ v.cost) && decide (v.cost ≤ 20)) && (decide (v.cost = 0) == decide (v.root = v.bridge)) && (decide (0 ≤ v.port) && decide (v.port ≤ 3))

theorem specVecOk (H : Heap) (v : Vec) : run env 166 [.agg v.enc] H = some (.bool v.ok, H) := by
  obtain ⟨a1, a2, a3, a4⟩ := v
  refine run_walk ok166 Try.func166 rfl (by simp [Try.f166]) fun Q hQ => ?_
  simp only [Try.f166, strip, stripL, stripI, stripG, chkT, tagsB, tagsL, tagD, addT, tagA, lookN, tagOp, elmT, ty22, ty23, ty28, ty29, ty37, ty38, ty39, ty40, ty41, ty50, ty51, ty52, ty53, ty72, ty81, ty141, ty189, Nat.reduceEqDiff, if_false, reduceIte, Option.getD_some, Option.getD_none, dstAt, dstOk, Nat.reduceLT, decide_true, if_true]
  simp [Vec.enc, l1In]
  repeat' (first | (refine gdL_t (fun h => ?_) (fun h => ?_) <;> simp [h, l1In]) | (refine gdL_f (fun h => ?_) (fun h => ?_) <;> simp [h, l1In]) | (refine selS_intro (fun h => ?_) (fun h => ?_) <;> simp [h, l1In]))
  all_goals (refine hQ _ _ _ (by simp) ?_)
  all_goals (clear hQ; simp_all [Try.f166, Vec.ok])
  all_goals (first | omega | (intros; omega))

def In.ok (x : In) : Bool := if x.kind = 1 then (decide (0 ≤ x.port) && decide (x.port ≤ 3)) && x.vec.ok && (decide (0 ≤ x.hops) && decide (x.hops ≤ 8)) && !x.up
  else if x.kind = 3 then (decide (0 ≤ x.port) && decide (x.port ≤ 3)) && decide (x.vec = ⟨0, 0, 0, 0⟩) && decide (x.hops = 0)
  else decide (x = ⟨2, 0, ⟨0, 0, 0, 0⟩, 0, false⟩)

theorem specInOk (H : Heap) (x : In) : run env 146 [.agg x.enc] H = some (.bool x.ok, H) := by
  obtain ⟨a1, a2, ⟨b1, b2, b3, b4⟩, a4, a5⟩ := x
  have e := fun H => specVecOk H ⟨b1, b2, b3, b4⟩
  simp only [Vec.enc] at e
  refine run_walk ok146 Try.func146 rfl (by simp [Try.f146]) fun Q hQ => ?_
  simp only [Try.f146, strip, stripL, stripI, stripG, chkT, tagsB, tagsL, tagD, addT, tagA, lookN, tagOp, elmT, ty22, ty23, ty28, ty29, ty37, ty38, ty39, ty40, ty41, ty50, ty51, ty52, ty53, ty72, ty81, ty141, ty189, Nat.reduceEqDiff, if_false, reduceIte, Option.getD_some, Option.getD_none, dstAt, dstOk, Nat.reduceLT, decide_true, if_true]
  simp [In.enc, l1In, e]
  repeat' (first | (refine gdL_t (fun h => ?_) (fun h => ?_) <;> simp [h, l1In, e]) | (refine gdL_f (fun h => ?_) (fun h => ?_) <;> simp [h, l1In, e]) | (refine selS_intro (fun h => ?_) (fun h => ?_) <;> simp [h, l1In, e]))
  all_goals (refine hQ _ _ _ (by simp) ?_)
  all_goals (clear hQ; simp_all [Try.f146, In.ok])
  all_goals (first | (intros; exfalso; omega) | simp [Bool.and_assoc])

def IsBridge (H : Heap) (l : List Lf) (x : Bridge) (fp : List Nat) : Prop := ∃ a, l = x.enc a ∧ Own H 148 a (x.ports.map Port.enc) fp
def RdBridge (H : Heap) (l : List Lf) (x : Bridge) : Prop := ∃ a, l = x.enc a ∧ Sl H 148 a (x.ports.map Port.enc)
def RdLBridge (H : Heap) (l : List Lf) (x : Bridge) : Prop := ∃ a, l = x.enc a ∧ Sl H 205 a (x.ports.map Port.enc)
abbrev Bridge.sz (x : Bridge) : Nat := x.ports.length
def Bridge.fit (x : Bridge) : Prop := x.ports.length ≤ maxLen
section
variable {H H' : Heap} {l : List Lf} {x : Bridge} {fp : List Nat}
theorem IsBridge.keep {f : List Nat} (h : IsBridge H l x fp) (hk : Keep f H H') (hd : ∀ i ∈ fp, i ∉ f) : IsBridge H' l x fp := let ⟨a, h1, h2⟩ := h; ⟨a, h1, h2.keep hk hd⟩
theorem IsBridge.app (h : IsBridge H l x fp) (G : Heap) : IsBridge (H ++ G) l x fp := let ⟨a, h1, h2⟩ := h; ⟨a, h1, h2.app G⟩
theorem IsBridge.lt (h : IsBridge H l x fp) : ∀ i ∈ fp, i < H.length := let ⟨_, _, h2⟩ := h; h2.lt
theorem IsBridge.nodup (h : IsBridge H l x fp) : fp.Nodup := let ⟨_, _, h2⟩ := h; h2.nodup
theorem IsBridge.rd (h : IsBridge H l x fp) : RdBridge H l x := let ⟨a, h1, h2⟩ := h; ⟨a, h1, h2.sl⟩
theorem RdBridge.base (h : RdBridge H l x) (hk : Keep [] H H') : RdBridge H' l x := let ⟨a, h1, h2⟩ := h; ⟨a, h1, h2.keep hk (by simp)⟩
theorem RdBridge.app (h : RdBridge H l x) (G : Heap) : RdBridge (H ++ G) l x := h.base (Keep.app _ _ _)
theorem RdLBridge.base (h : RdLBridge H l x) (hk : Keep [] H H') : RdLBridge H' l x := let ⟨a, h1, h2⟩ := h; ⟨a, h1, h2.keep hk (by simp)⟩
theorem RdLBridge.app (h : RdLBridge H l x) (G : Heap) : RdLBridge (H ++ G) l x := h.base (Keep.app _ _ _)
theorem IsBridge.len (h : IsBridge H l x fp) : l.length = 2 := by obtain ⟨a, rfl, -⟩ := h; rfl
theorem RdLBridge.len (h : RdLBridge H l x) : l.length = 2 := by obtain ⟨a, rfl, -⟩ := h; rfl
theorem RdBridge.len (h : RdBridge H l x) : l.length = 2 := by obtain ⟨a, rfl, -⟩ := h; rfl
theorem IsBridge.free (h : IsBridge H' l x fp) (hr : l.all refFree = true) (H2 : Heap) : IsBridge H2 l x [] := by
  obtain ⟨a, rfl, h2⟩ := h
  exact ⟨a, rfl, h2.free (n := x.ports.length) (by simp [Bridge.enc] at hr; exact hr) H2⟩
theorem IsBridge.leave {ws : List W} (h : IsBridge H' l x fp) (hf : Fresh H H' fp) (hw : ws.all W.free = true → l.all refFree = true) : ∃ fp', IsBridge (leave H H' ws) l x fp' ∧ Fresh H (leave H H' ws) fp' := by
  rcases leave_opt H H' ws with e | ⟨e, hr⟩ <;> rw [e]
  · exact ⟨fp, h, hf⟩
  · exact ⟨[], h.free (hw hr) H, Fresh.refl H⟩
end

def IsMinder (H : Heap) (l : List Lf) (x : Minder) (fp : List Nat) : Prop := ∃ a, l = x.enc a ∧ Own H 133 a (x.log.map In.enc) fp
def RdMinder (H : Heap) (l : List Lf) (x : Minder) : Prop := ∃ a, l = x.enc a ∧ Sl H 133 a (x.log.map In.enc)
def RdLMinder (H : Heap) (l : List Lf) (x : Minder) : Prop := ∃ a, l = x.enc a ∧ Sl H 136 a (x.log.map In.enc)
abbrev Minder.sz (x : Minder) : Nat := x.log.length
def Minder.fit (x : Minder) : Prop := x.log.length ≤ maxLen
section
variable {H H' : Heap} {l : List Lf} {x : Minder} {fp : List Nat}
theorem IsMinder.keep {f : List Nat} (h : IsMinder H l x fp) (hk : Keep f H H') (hd : ∀ i ∈ fp, i ∉ f) : IsMinder H' l x fp := let ⟨a, h1, h2⟩ := h; ⟨a, h1, h2.keep hk hd⟩
theorem IsMinder.app (h : IsMinder H l x fp) (G : Heap) : IsMinder (H ++ G) l x fp := let ⟨a, h1, h2⟩ := h; ⟨a, h1, h2.app G⟩
theorem IsMinder.lt (h : IsMinder H l x fp) : ∀ i ∈ fp, i < H.length := let ⟨_, _, h2⟩ := h; h2.lt
theorem IsMinder.nodup (h : IsMinder H l x fp) : fp.Nodup := let ⟨_, _, h2⟩ := h; h2.nodup
theorem IsMinder.rd (h : IsMinder H l x fp) : RdMinder H l x := let ⟨a, h1, h2⟩ := h; ⟨a, h1, h2.sl⟩
theorem RdMinder.base (h : RdMinder H l x) (hk : Keep [] H H') : RdMinder H' l x := let ⟨a, h1, h2⟩ := h; ⟨a, h1, h2.keep hk (by simp)⟩
theorem RdMinder.app (h : RdMinder H l x) (G : Heap) : RdMinder (H ++ G) l x := h.base (Keep.app _ _ _)
theorem RdLMinder.base (h : RdLMinder H l x) (hk : Keep [] H H') : RdLMinder H' l x := let ⟨a, h1, h2⟩ := h; ⟨a, h1, h2.keep hk (by simp)⟩
theorem RdLMinder.app (h : RdLMinder H l x) (G : Heap) : RdLMinder (H ++ G) l x := h.base (Keep.app _ _ _)
theorem IsMinder.len (h : IsMinder H l x fp) : l.length = 7 := by obtain ⟨a, rfl, -⟩ := h; rfl
theorem RdLMinder.len (h : RdLMinder H l x) : l.length = 7 := by obtain ⟨a, rfl, -⟩ := h; rfl
theorem RdMinder.len (h : RdMinder H l x) : l.length = 7 := by obtain ⟨a, rfl, -⟩ := h; rfl
theorem IsMinder.free (h : IsMinder H' l x fp) (hr : l.all refFree = true) (H2 : Heap) : IsMinder H2 l x [] := by
  obtain ⟨a, rfl, h2⟩ := h
  exact ⟨a, rfl, h2.free (n := x.log.length) (by simp [Minder.enc] at hr; exact hr) H2⟩
theorem IsMinder.leave {ws : List W} (h : IsMinder H' l x fp) (hf : Fresh H H' fp) (hw : ws.all W.free = true → l.all refFree = true) : ∃ fp', IsMinder (leave H H' ws) l x fp' ∧ Fresh H (leave H H' ws) fp' := by
  rcases leave_opt H H' ws with e | ⟨e, hr⟩ <;> rw [e]
  · exact ⟨fp, h, hf⟩
  · exact ⟨[], h.free (hw hr) H, Fresh.refl H⟩
end

theorem eqMinder_is {H : Heap} {l r : List Lf} {x y : Minder} (h : RdMinder H l x) (h2 : RdMinder H r y) (hn : x.sz ≤ 1048576) : run env 126 [.agg l, .agg r] H = some (.bool (decide (x = y)), H) := by
  obtain ⟨a, rfl, h⟩ := h
  obtain ⟨b, rfl, h2⟩ := h2
  exact eqMinder H a b x y h h2 hn

def logOk (xs : List In) : Bool := xs.all In.ok && decide ((xs.length : Int) ≤ 60)

theorem specLogOk (H : Heap) (a : Option (Nat × Nat)) (xs : List In) (h : Sl H 133 a (xs.map In.enc)) (hn : xs.length ≤ 2000000) :
    run env 125 [.w (.lf (.sl a xs.length))] H = some (.bool (logOk xs), H) := by
  refine run_walk ok125 Try.func125 rfl (by simp [Try.f125]) fun Q hQ => ?_
  simp only [Try.f125, strip, stripL, stripI, stripG, chkT, tagsB, tagsL, tagD, addT, tagA, lookN, tagOp, elmT, ty22, ty23, ty28, ty29, ty37, ty38, ty39, ty40, ty41, ty50, ty51, ty52, ty53, ty72, ty81, ty141, ty189, Nat.reduceEqDiff, if_false, reduceIte, Option.getD_some, Option.getD_none, dstAt, dstOk, Nat.reduceLT, decide_true, if_true]
  simp [builtinV, pureB, lenV]
  refine wpS_loop (fun j tm H' => ∃ i, i + j = xs.length ∧ tm 0 = .w (.lf (.sl a xs.length)) ∧ tm 3 = .int i ∧ H' = H ∧ (xs.take i).all In.ok = true) xs.length (by rw [env_K]; omega) ⟨0, by simp, by simp, by simp, rfl, by simp⟩ ?_
  rintro j tm H' hj ⟨i, hij, h0, h3, rfl, hall⟩ Q' hn' he' hr'
  simp [h0, h3, builtinV, pureB, lenV]
  refine selS_intro (fun hc => ?_) (fun hc => ?_)
  · simp at hc
    obtain ⟨id, r, bl, rfl, hbl, hbe, hrow⟩ := h i _ (by simp [hc]; rfl)
    have g4 : IntKind.i64.wrap ((i : Int) + 1) = (i : Int) + 1 := wrap64 (by omega) (by omega)
    simp [h0, h3, indexAddrV, elemIs, hbl, hbe, hc, hrow, specInOk]
    refine selS_intro (fun hd => ?_) (fun hd => ?_)
    · simp
      refine hr' _ _ ?_
      simp
      refine hQ _ _ _ (by simp) ?_
      have : xs.all In.ok = false := List.all_eq_false.2 ⟨xs[i], by simp, by simpa using hd⟩
      simp [Try.f125, this, logOk]
    · simp at hd
      simp [h0, h3, g4]
      refine hn' (j - 1) _ _ (by omega) ⟨i + 1, by omega, by simp [h0], by simp, rfl, ?_⟩
      rw [List.take_add_one, List.all_append, hall]
      simp [hc, hd]
  · simp at hc
    simp [h0, h3]
    refine he' _ _ _ ?_
    simp [h0, builtinV, pureB, lenV]
    refine hQ _ _ _ (by simp) ?_
    rw [List.take_of_length_le (by omega)] at hall
    simp [Try.f125, hall, logOk]

def Minder.ok (m : Minder) : Bool := (decide (0 ≤ m.life) && decide (m.life ≤ 100000)) && (decide (0 ≤ m.epoch) && decide (m.epoch ≤ 100000)) && (decide (0 ≤ m.ackLife) && decide (m.ackLife ≤ 100000)) && logOk m.log &&
  (decide (0 ≤ m.said) && decide (m.said ≤ m.log.length)) && (decide (0 ≤ m.acked) && decide (m.acked ≤ m.log.length)) && (m.up || decide (m.epoch = 0) && decide ((m.log.length : Int) = 0) && decide (m.ackLife = 0))

theorem specMinderOk (H : Heap) (a : Option (Nat × Nat)) (m : Minder) (h : Sl H 133 a (m.log.map In.enc)) (hn : m.log.length ≤ 2000000) :
    run env 123 [.agg (m.enc a)] H = some (.bool m.ok, H) := by
  have e := fun G => specLogOk (H ++ G) a m.log (h.app _) hn
  obtain ⟨a1, a2, a3, a4, a5, a6, a7⟩ := m
  simp only at e
  refine run_walk ok123 Try.func123 rfl (by simp [Try.f123]) fun Q hQ => ?_
  simp only [Try.f123, strip, stripL, stripI, stripG, chkT, tagsB, tagsL, tagD, addT, tagA, lookN, tagOp, elmT, ty22, ty23, ty28, ty29, ty37, ty38, ty39, ty40, ty41, ty50, ty51, ty52, ty53, ty72, ty81, ty141, ty189, Nat.reduceEqDiff, if_false, reduceIte, Option.getD_some, Option.getD_none, dstAt, dstOk, Nat.reduceLT, decide_true, if_true]
  simp [Minder.enc, l1In]
  repeat' (first | (refine gdL_t (fun h => ?_) (fun h => ?_) <;> simp [h, l1In, e, builtinV, pureB, lenV]) | (refine gdL_f (fun h => ?_) (fun h => ?_) <;> simp [h, l1In, e, builtinV, pureB, lenV]) | (refine selS_intro (fun h => ?_) (fun h => ?_) <;> simp [h, l1In, e, builtinV, pureB, lenV]))
  all_goals (refine hQ _ _ _ (by simp) ?_)
  all_goals (clear hQ; simp_all [Try.f123, Minder.ok])
  all_goals (try (intros; exfalso; omega))

def gates (b : Bridge) : List Bool := b.ports.map Port.opn
@[simp] theorem gates_len (b : Bridge) : (gates b).length = b.ports.length := by simp [gates]

theorem specGates (H : Heap) (a : Option (Nat × Nat)) (b : Bridge) (h : Sl H 148 a (b.ports.map Port.enc)) (hn : b.ports.length ≤ 1048576) :
    Runs env 65 [.agg (b.enc a)] H fun v H' => ∃ a' fp, v = .w (.lf (.sl a' (gates b).length)) ∧ Own H' 4 a' ((gates b).map encB) fp ∧ Fresh H H' fp := by
  refine Runs.walk ok65 Try.func65 rfl (by simp [Try.f65]) fun Q hQ => ?_
  simp only [Try.f65, strip, stripL, stripI, stripG, chkT, tagsB, tagsL, tagD, addT, tagA, lookN, tagOp, elmT, ty22, ty23, ty28, ty29, ty37, ty38, ty39, ty40, ty41, ty50, ty51, ty52, ty53, ty72, ty81, ty141, ty189, Nat.reduceEqDiff, if_false, reduceIte, Option.getD_some, Option.getD_none, dstAt, dstOk, Nat.reduceLT, decide_true, if_true]
  simp [Bridge.enc, builtinV, pureB, lenV]
  obtain ⟨H1, hH1⟩ : ∃ H1, H1 = H ++ [some ⟨74, .wr, [[.i .i64 b.id, .sl a b.ports.length]]⟩] := ⟨_, rfl⟩
  have hb1 : blkAt H1 H.length = some ⟨74, .wr, [[.i .i64 b.id, .sl a b.ports.length]]⟩ := by simp [hH1]
  have hl1 := blkAt_len hb1
  have h1 : Sl H1 148 a (b.ports.map Port.enc) := by rw [hH1]; exact h.app _
  refine wpS_loop (fun j tm H' => ∃ i a' fp, i + j = b.ports.length ∧ tm 1 = .ptr H.length 0 0 ∧ tm 4 = .int i ∧ tm 3 = .w (.lf (.sl a' i)) ∧ Own H' 4 a' (((gates b).take i).map encB) fp ∧ Fresh H1 H' fp) b.ports.length (by rw [env_K]; omega)
    ⟨0, some (H.length + 1, 0), [H.length + 1], by simp, by simp, by simp, by simp, Own.of (by simp), ⟨[some ⟨4, .wr, []⟩], by simp [hH1]⟩, by simp [hH1]⟩ ?_
  rintro j tm H' hj ⟨i, a', fp, hij, t1, t4, t3, ho, ⟨⟨G, rfl⟩, hf⟩⟩ Q' hn' he' hr'
  simp [t1, t4, t3, hb1, hl1, builtinV, pureB, lenV]
  refine selS_intro (fun hc => ?_) (fun hc => ?_)
  · simp at hc
    obtain ⟨id, r, bl, rfl, hbl, hbe, hrow⟩ := h1 i _ (by simp [hc]; rfl)
    have hid := blkAt_len hbl
    have g4 : IntKind.i64.wrap ((i : Int) + 1) = (i : Int) + 1 := wrap64 (by omega) (by omega)
    simp [t1, t4, t3, hb1, hl1, indexAddrV, elemIs, hid, hbl, hbe, hc, hrow, Port.enc]
    refine stpL_append (rows := ((gates b).take i).map encB) (ys := [[.b b.ports[i].opn]]) (ho.app2 _) (Sl.of (by simp)) rfl rfl rfl (by simp) (by simp; omega) (by simp; omega) rfl fun a'' H'' fp'' ho'' hk'' hf'' => ?_
    simp [t1, t4, g4]
    refine hn' (j - 1) _ _ (by omega) ⟨i + 1, a'', fp'', by omega, by simp [t1], by simp, by simp, ?_, Fresh.grow hf hk'' hf''⟩
    simpa [List.take_add_one, gates, hc, encB] using ho''
  · simp at hc
    obtain rfl : i = b.ports.length := by omega
    simp [t1, t4, t3]
    refine he' _ _ _ ?_
    simp [t3]
    refine hQ _ _ _ (by simp) ?_
    rw [List.take_of_length_le (by simp)] at ho
    have hf : Fresh H (H1 ++ G) fp := by
      have := Fresh.app H1 G hf
      rw [hH1] at this ⊢
      exact this.base
    simp [Try.f65]
    exact leave_got (n := b.ports.length) ho hf (by simp)

theorem specGates_is {H : Heap} {l : List Lf} {b : Bridge} (h : RdBridge H l b) (hn : b.sz ≤ 1048576) : Runs env 65 [.agg l] H fun v H' => ∃ q fp, v = .w (.lf q) ∧ IsBoolS H' q (gates b) fp ∧ Fresh H H' fp := by
  obtain ⟨a, rfl, h⟩ := h
  exact (specGates H a b h hn).mono fun v H' ⟨a', fp, h1, h2, h3⟩ => ⟨_, fp, h1, ⟨a', rfl, h2⟩, h3⟩

theorem specMinderOk_is {H : Heap} {l : List Lf} {m : Minder} (h : RdMinder H l m) (hn : m.sz ≤ 2000000) : run env 123 [.agg l] H = some (.bool m.ok, H) := by
  obtain ⟨a, rfl, h⟩ := h
  exact specMinderOk H a m h hn

theorem okMinder : RepOk IsMinder := ⟨fun h hk hd => h.keep hk hd, fun h => h.lt, fun h => h.nodup⟩
theorem unMinder : UnOk IsMinder := fun ⟨a, h1, h2⟩ hf => ⟨a, h1, h2.unapp hf⟩
abbrev IsMinderS := IsL 98 IsMinder
abbrev RdMinderS := RdL 98 RdMinder
abbrev RdLMinderS := RdL 166 RdLMinder
def MinderS.sz (xs : List Minder) : Nat := xs.length + (xs.map Minder.sz).sum
theorem MinderS.sz_len (xs : List Minder) : xs.length ≤ MinderS.sz xs := by unfold MinderS.sz; omega
theorem MinderS.sz_at {xs : List Minder} {x : Minder} (h : x ∈ xs) : x.sz ≤ MinderS.sz xs := by
  have key : ∀ {ys : List Minder}, x ∈ ys → x.sz ≤ (ys.map Minder.sz).sum := by
    intro ys hy
    induction ys with
    | nil => simp at hy
    | cons y ys ih =>
      simp only [List.map_cons, List.sum_cons]
      rcases List.mem_cons.1 hy with rfl | hy
      · omega
      · have := ih hy; omega
  have := key h
  unfold MinderS.sz
  omega
def MinderS.ps (xs : List Minder) (i : Nat) : Nat := ((xs.take i).map Minder.sz).sum
theorem MinderS.ps_zero (xs : List Minder) : MinderS.ps xs 0 = 0 := by simp [MinderS.ps]
theorem MinderS.ps_succ (xs : List Minder) {i : Nat} (h : i < xs.length) : MinderS.ps xs (i + 1) = MinderS.ps xs i + xs[i].sz := by
  unfold MinderS.ps
  rw [List.take_add_one, List.getElem?_eq_getElem h, List.map_append, List.sum_append]
  simp
theorem MinderS.ps_le (xs : List Minder) (i : Nat) : xs.length + MinderS.ps xs i ≤ MinderS.sz xs := by
  have := congrArg (fun l => (l.map Minder.sz).sum) (List.take_append_drop i xs)
  simp only [List.map_append, List.sum_append] at this
  unfold MinderS.ps MinderS.sz
  omega
theorem MinderS.ps_len (xs : List Minder) : xs.length + MinderS.ps xs xs.length = MinderS.sz xs := by unfold MinderS.ps MinderS.sz; rw [List.take_length]
def MinderS.fit (xs : List Minder) : Prop := xs.length ≤ maxLen ∧ ∀ x ∈ xs, x.fit
theorem RdMinderS_base {H H' : Heap} {q : Lf} {xs : List Minder} (h : RdMinderS H q xs) (hk : Keep [] H H') : RdMinderS H' q xs := RdL.base h (fun h hk => h.base hk) hk
theorem RdLMinderS_base {H H' : Heap} {q : Lf} {xs : List Minder} (h : RdLMinderS H q xs) (hk : Keep [] H H') : RdLMinderS H' q xs := RdL.base h (fun h hk => h.base hk) hk
theorem IsMinderS_rd {H : Heap} {q : Lf} {xs : List Minder} {fp : List Nat} (h : IsMinderS H q xs fp) : RdMinderS H q xs := IsL.rd h fun h => h.rd

theorem eqMinderS_is {H : Heap} {q r : Lf} {xs ys : List Minder} (h : RdMinderS H q xs) (h2 : RdMinderS H r ys) (hn : MinderS.sz xs ≤ 1048576) : run env 69 [.w (.lf q), .w (.lf r)] H = some (.bool (decide (xs = ys)), H) := by
  obtain ⟨a, rws, rfl, hs, hlen, hat⟩ := h
  obtain ⟨b, rws2, rfl, hs2, hlen2, hat2⟩ := h2
  have hl := MinderS.sz_len xs
  refine run_walk ok69 Try.func69 rfl (by simp [Try.f69]) fun Q hQ => ?_
  simp only [Try.f69, strip, stripL, stripI, stripG, chkT, tagsB, tagsL, tagD, addT, tagA, lookN, tagOp, elmT, ty22, ty23, ty28, ty29, ty37, ty38, ty39, ty40, ty41, ty50, ty51, ty52, ty53, ty72, ty81, ty141, ty189, Nat.reduceEqDiff, if_false, reduceIte, Option.getD_some, Option.getD_none, dstAt, dstOk, Nat.reduceLT, decide_true, if_true]
  simp [builtinV, pureB, lenV]
  refine selS_intro (fun hl => ?_) (fun hl => ?_)
  · simp
    refine hQ _ _ _ (by simp) ?_
    simp at hl
    have : ¬ xs = ys := fun h => hl (by rw [h])
    simp [Try.f69, this]
  simp at hl
  simp
  refine wpS_loop (fun j tm H' => ∃ i, i + j = xs.length ∧ tm 0 = .w (.lf (.sl a xs.length)) ∧ tm 1 = .w (.lf (.sl b ys.length)) ∧ tm 5 = .int i ∧ H' = H ∧ xs.take i = ys.take i) xs.length (by rw [env_K]; omega) ⟨0, by simp, by simp, by simp, by simp, rfl, by simp⟩ ?_
  rintro j tm H' hj ⟨i, hij, h0, h1, h5, rfl, heq⟩ Q' hn' he' hr'
  simp [h0, h1, h5, builtinV, pureB, lenV]
  refine selS_intro (fun hc => ?_) (fun hc => ?_)
  · simp at hc
    have hc2 : i < ys.length := by omega
    have hri : i < rws.length := by omega
    have hri2 : i < rws2.length := by omega
    obtain ⟨id, r, bl, rfl, hbl, hbe, hrow⟩ := hs i _ (List.getElem?_eq_getElem hri)
    obtain ⟨id2, r2, bl2, rfl, hbl2, hbe2, hrow2⟩ := hs2 i _ (List.getElem?_eq_getElem hri2)
    have he := hat i _ _ (List.getElem?_eq_getElem hri) (List.getElem?_eq_getElem hc)
    have he2 := hat2 i _ _ (List.getElem?_eq_getElem hri2) (List.getElem?_eq_getElem hc2)
    have hL := he.len
    have hT : rws[i].take rws[i].length = rws[i] := List.take_length
    rw [hL] at hT
    have hL2 := he2.len
    have hT2 : rws2[i].take rws2[i].length = rws2[i] := List.take_length
    rw [hL2] at hT2
    have g4 : IntKind.i64.wrap ((i : Int) + 1) = (i : Int) + 1 := wrap64 (by omega) (by omega)
    have hsz := MinderS.sz_at (List.getElem_mem hc)
    have ee := eqMinder_is he he2 (by omega)
    simp [h0, h1, h5, indexAddrV, elemIs, hbl, hbe, hbl2, hbe2, hc, hc2, hrow, hrow2, hL, hT, hL2, hT2, ee]
    refine selS_intro (fun hd => ?_) (fun hd => ?_)
    · simp
      refine hr' _ _ ?_
      simp
      refine hQ _ _ _ (by simp) ?_
      simp at hd
      have : ¬ xs = ys := fun h => by subst h; simp at hd
      simp [Try.f69, this]
    · simp at hd
      simp [h0, h1, h5, g4]
      exact hn' (j - 1) _ _ (by omega) ⟨i + 1, by omega, by simp [h0], by simp [h1], by simp, rfl, by rw [List.take_add_one, List.take_add_one, heq]; simp [hc, hc2, hd]⟩
  · simp at hc
    simp [h0, h1, h5]
    refine he' _ _ _ ?_
    simp
    refine hQ _ _ _ (by simp) ?_
    have : xs = ys := by
      rw [List.take_of_length_le (by omega), List.take_of_length_le (by omega)] at heq
      exact heq
    simp [Try.f69, this]

def Minder.mkS (m : Minder) (k : Int) : Minder := ⟨decide (k.tmod 3 = 0), k + 1, k + 2, InS.mk' m.log (k + 3), InS.mkN m.log (k + 3), InS.mkN m.log (k + 3) + 1, InS.mkN m.log (k + 3) + 2⟩
def Minder.mkSN (m : Minder) (k : Int) : Int := InS.mkN m.log (k + 3) + 3
def MinderS.mk' : List Minder → Int → List Minder
  | [], _ => []
  | b :: bs, k => b.mkS k :: MinderS.mk' bs (b.mkSN k)
def MinderS.mkN : List Minder → Int → Int
  | [], k => k
  | b :: bs, k => MinderS.mkN bs (b.mkSN k)
def MinderS.hd : List Minder → Int → Int
  | [], k => k
  | m :: ms, k => if m.up ≠ decide (k.tmod 3 = 0) then -1 else if m.life ≠ k + 1 then -1 else if m.epoch ≠ k + 2 then -1 else if InS.hd m.log (k + 3) < 0 then -1 else
    if m.said ≠ InS.hd m.log (k + 3) then -1 else if m.acked ≠ InS.hd m.log (k + 3) + 1 then -1 else if m.ackLife ≠ InS.hd m.log (k + 3) + 2 then -1 else MinderS.hd ms (InS.hd m.log (k + 3) + 3)
theorem MinderS.mk_len : ∀ (xs : List Minder) (k : Int), (MinderS.mk' xs k).length = xs.length
  | [], _ => rfl
  | b :: bs, k => by simp [MinderS.mk', MinderS.mk_len bs]
theorem MinderS.mk_sz : ∀ (xs : List Minder) (k : Int), MinderS.sz (MinderS.mk' xs k) = MinderS.sz xs
  | [], _ => rfl
  | b :: bs, k => by
    have := MinderS.mk_sz bs (b.mkSN k)
    have hs : (b.mkS k).sz = b.sz := by simp [Minder.mkS, Minder.sz, InS.mk_sz]
    unfold MinderS.sz at this ⊢
    simp only [MinderS.mk', List.length_cons, List.map_cons, List.sum_cons, hs]
    omega
theorem Minder.mkSN_le (b : Minder) (k : Int) : k ≤ b.mkSN k ∧ b.mkSN k ≤ k + (6 + 11 * b.sz) := by unfold Minder.mkSN InS.mkN; simp [Minder.sz]; omega
theorem MinderS.mkN_bd : ∀ (xs : List Minder) (k : Int), k ≤ MinderS.mkN xs k ∧ MinderS.mkN xs k ≤ k + 11 * MinderS.sz xs
  | [], k => by simp [MinderS.mkN, MinderS.sz]
  | b :: bs, k => by
    have h1 := MinderS.mkN_bd bs (b.mkSN k)
    have h2 := b.mkSN_le k
    unfold MinderS.sz at h1 ⊢
    simp only [MinderS.mkN, List.length_cons, List.map_cons, List.sum_cons]
    omega
theorem MinderS.mk_snoc : ∀ (xs : List Minder) (x : Minder) (k : Int), MinderS.mk' (xs ++ [x]) k = MinderS.mk' xs k ++ [x.mkS (MinderS.mkN xs k)]
  | [], x, k => rfl
  | b :: bs, x, k => by simp [MinderS.mk', MinderS.mkN, MinderS.mk_snoc bs]
theorem MinderS.mkN_snoc : ∀ (xs : List Minder) (x : Minder) (k : Int), MinderS.mkN (xs ++ [x]) k = x.mkSN (MinderS.mkN xs k)
  | [], x, k => rfl
  | b :: bs, x, k => by simp [MinderS.mkN, MinderS.mkN_snoc bs]
theorem MinderS.hd_mk : ∀ (xs : List Minder) (k : Int), 0 ≤ k → MinderS.hd (MinderS.mk' xs k) k = MinderS.mkN xs k
  | [], k, _ => rfl
  | b :: bs, k, hk => by
    have h1 : InS.hd (b.mkS k).log (k + 3) = InS.mkN b.log (k + 3) := InS.hd_mk _ _
    have h2 := b.mkSN_le k
    have h2' : InS.mkN b.log (k + 3) + 3 = b.mkSN k := rfl
    have h3 : ¬ (InS.mkN b.log (k + 3) < 0) := by unfold InS.mkN; omega
    simp only [MinderS.mk', MinderS.hd, MinderS.mkN]
    rw [h1, if_neg (by simp [Minder.mkS]), if_neg (by simp [Minder.mkS]), if_neg (by simp [Minder.mkS]), if_neg h3, if_neg (by simp [Minder.mkS]), if_neg (by simp [Minder.mkS]), if_neg (by simp [Minder.mkS])]
    exact MinderS.hd_mk bs _ (by omega)
theorem MinderS.hd_bd : ∀ (xs : List Minder) (k : Int), 0 ≤ k → MinderS.hd xs k ≤ k + 11 * MinderS.sz xs
  | [], k, _ => by simp [MinderS.hd, MinderS.sz]
  | m :: ms, k, hk => by
    have h2 : InS.hd m.log (k + 3) ≤ k + 3 + 8 * m.sz := by unfold InS.hd heldL; simp [Minder.sz]; split <;> omega
    simp only [MinderS.hd]
    split
    · omega
    split
    · omega
    split
    · omega
    split
    · omega
    rename_i hb
    have h1 := MinderS.hd_bd ms (InS.hd m.log (k + 3) + 3) (by omega)
    unfold MinderS.sz at h1 ⊢
    simp only [List.length_cons, List.map_cons, List.sum_cons]
    (repeat' split) <;> omega

theorem markMinderS_is {H : Heap} {q : Lf} {xs : List Minder} {fp : List Nat} {k : Int} (h : IsMinderS H q xs fp) (hk : 0 ≤ k) (hk2 : k ≤ 1152921504606846976) (hn : MinderS.sz xs ≤ 1048576) :
    Runs env 72 [.w (.lf q), .int k] H fun v H' => v = .int (MinderS.mkN xs k) ∧ IsMinderS H' q (MinderS.mk' xs k) fp ∧ Keep fp H H' := by
  have hlt0 := h.lt okMinder
  obtain ⟨a, rows0, fp0, fps, rfl, hown, hpart, rfl, hnd⟩ := h
  have hl0 := MinderS.sz_len xs
  have hdis : ∀ i ∈ fp0, i ∉ fps.flatten := fun i hi hj => (List.nodup_append.1 hnd).2.2 i hi i hj rfl
  refine Runs.walk ok72 Try.func72 rfl (by simp [Try.f72]) fun Q hQ => ?_
  simp only [Try.f72, strip, stripL, stripI, stripG, chkT, tagsB, tagsL, tagD, addT, tagA, lookN, tagOp, elmT, ty22, ty23, ty28, ty29, ty37, ty38, ty39, ty40, ty41, ty50, ty51, ty52, ty53, ty72, ty81, ty141, ty189, Nat.reduceEqDiff, if_false, reduceIte, Option.getD_some, Option.getD_none, dstAt, dstOk, Nat.reduceLT, decide_true, if_true]
  simp
  refine wpS_loop (fun j tm H' => ∃ i rows, i + j = xs.length ∧ tm 0 = .w (.lf (.sl a xs.length)) ∧ tm 1 = .int (MinderS.mkN (xs.take i) k) ∧ tm 5 = .int i ∧ Own H' 98 a rows fp0 ∧ Part IsMinder H' rows (MinderS.mk' (xs.take i) k ++ xs.drop i) fps ∧ Keep (fp0 ++ fps.flatten) H H') xs.length (by rw [env_K]; omega)
    ⟨0, rows0, by simp, by simp, by simp [MinderS.mkN], by simp, hown, by simpa [MinderS.mk'] using hpart, Keep.refl _ _⟩ ?_
  rintro j tm H' hj ⟨i, rows, hij, t0, t1, t5, ho, hp, hkp⟩ Q' hn' he' hr'
  simp [t0, t1, t5, builtinV, pureB, lenV]
  refine selS_intro (fun hc => ?_) (fun hc => ?_)
  · simp at hc
    have hlenx : (MinderS.mk' (xs.take i) k ++ xs.drop i).length = xs.length := by simp [MinderS.mk_len]; omega
    have hri : i < (MinderS.mk' (xs.take i) k ++ xs.drop i).length := by omega
    obtain ⟨hr1, hf1, hR⟩ := hp.get hri
    have hxi : (MinderS.mk' (xs.take i) k ++ xs.drop i)[i] = xs[i] := by
      rw [List.getElem_append_right (by simp [MinderS.mk_len]; omega)]
      simp [MinderS.mk_len]
      congr 1
      omega
    rw [hxi] at hR
    obtain ⟨a1, hrow, hpo⟩ := hR
    obtain ⟨id, b, rfl, rfl, hb, hbe, hm, t, ht⟩ := ho.blk (by rintro rfl; simp at hr1)
    have hid := blkAt_len hb
    have hbi : i < b.rows.length := by rw [← ht]; simp; omega
    have hbr : b.rows[i] = xs[i].enc a1 := by
      have : b.rows[i]? = some (xs[i].enc a1) := by rw [← ht, List.getElem?_append_left hr1, List.getElem?_eq_getElem hr1, hrow]
      rw [List.getElem?_eq_getElem hbi] at this
      injection this
    have hbd := MinderS.mkN_bd (xs.take i) k
    have hps : MinderS.sz (xs.take i) ≤ MinderS.sz xs := by
      have h1 := MinderS.ps_le xs i
      have h2 : MinderS.sz (xs.take i) = (xs.take i).length + MinderS.ps xs i := rfl
      have h3 : (xs.take i).length ≤ xs.length := by simp; omega
      omega
    have hsz := MinderS.sz_at (List.getElem_mem hc)
    have hsz2 : (xs[i]).log.length ≤ 1048576 := by have : (xs[i]).sz = (xs[i]).log.length := rfl; omega
    obtain ⟨c, hcc⟩ : ∃ c, c = MinderS.mkN (xs.take i) k := ⟨_, rfl⟩
    rw [← hcc] at t1 hbd
    have w : ∀ d : Int, 0 ≤ d → d ≤ 100 → IntKind.i64.wrap (c + d) = c + d := fun d h1 h2 => wrap64 (by omega) (by omega)
    have g4 : IntKind.i64.wrap ((i : Int) + 1) = (i : Int) + 1 := wrap64 (by omega) (by omega)
    have hidf : id ∉ fps[i] := fun hx => hdis id (by simp) (flat_mem (List.getElem?_eq_getElem hf1) hx)
    obtain ⟨m, hmm⟩ : ∃ m, m = xs[i] := ⟨_, rfl⟩
    rw [← hmm] at hbr hsz hsz2 hpo
    simp [t0, t1, t5, indexAddrV, elemIs, hid, hb, hbe, hm, hc, hbi, hbr, blkAt_set, Minder.enc, w, Int.add_assoc]
    obtain ⟨row1, hrow1⟩ : ∃ row1 : List Lf, row1 = [.b (decide (c.tmod 3 = 0)), .i .i64 (c + 1), .i .i64 (c + 2), .sl a1 m.log.length, .i .i64 m.said, .i .i64 m.acked, .i .i64 m.ackLife] := ⟨_, rfl⟩
    rw [← hrow1]
    obtain ⟨H2, hH2⟩ : ∃ H2, H2 = H'.set id (some ⟨98, .wr, b.rows.set i row1⟩) := ⟨_, rfl⟩
    have hkset : Keep [id] H' H2 := by rw [hH2]; exact Keep.set _ _
    have hb2 : blkAt H2 id = some ⟨98, .wr, b.rows.set i row1⟩ := by rw [hH2]; exact blkAt_set hid
    have hp2 := hp.keep okMinder hkset (fun j hj => by simp; rintro rfl; exact hdis j (by simp) hj)
    have ho2 : Own H2 98 (some (id, 0)) (rows.set i row1) [id] := by
      have := ho.set (row := row1) hb hr1
      rw [hm, hbe] at this
      rw [hH2]; exact this
    rw [← hH2]
    refine stpL_runs (markInS_is (q := .sl a1 m.log.length) ⟨a1, rfl, hpo.keep hkset (fun j hj => by simp; rintro rfl; exact hidf hj)⟩ (by omega) (by omega) hsz2) ?_
    rintro _ H3 ⟨rfl, ⟨a2, ha2, oP⟩, hk3⟩
    injection ha2 with ha2
    subst ha2
    obtain ⟨d, hdd⟩ : ∃ d, d = InS.mkN m.log (c + 3) := ⟨_, rfl⟩
    have hdb : c + 3 ≤ d ∧ d ≤ c + 3 + 8 * m.log.length := by rw [hdd]; unfold InS.mkN; omega
    rw [← hdd]
    have w2 : ∀ e : Int, 0 ≤ e → e ≤ 100 → IntKind.i64.wrap (d + e) = d + e := fun e h1 h2 => wrap64 (by omega) (by omega)
    have hb3 := hk3.blk hb2 hidf
    have hid3 := blkAt_len hb3
    rw [hrow1] at hb3
    simp [t0, t5, indexAddrV, elemIs, hid3, hb3, hc, hbi, blkAt_set, w2, Int.add_assoc, g4]
    obtain ⟨row2, hrow2⟩ : ∃ row2 : List Lf, row2 = [.b (decide (c.tmod 3 = 0)), .i .i64 (c + 1), .i .i64 (c + 2), .sl a1 m.log.length, .i .i64 d, .i .i64 (d + 1), .i .i64 (d + 2)] := ⟨_, rfl⟩
    rw [← hrow2]
    have ho3 := ho2.keep hk3 (fun j hj hj2 => by simp at hj; subst hj; exact hidf hj2)
    have hk4 : Keep [id] H3 (H3.set id (some ⟨98, .wr, b.rows.set i row2⟩)) := Keep.set _ _
    refine hn' (j - 1) _ _ (by omega) ⟨i + 1, rows.set i row2, by omega, by simp [t0], ?_, by simp, ?_, ?_, ?_⟩
    · have e0 : MinderS.mkN (xs.take (i + 1)) k = d + 3 := by
        rw [List.take_add_one, List.getElem?_eq_getElem hc]
        simp only [Option.toList_some]
        rw [MinderS.mkN_snoc, ← hcc, ← hmm, hdd]; rfl
      simp [e0]
    · have := ho3.set (row := row2) (hk3.blk hb2 hidf) (i := i) (by simp; omega)
      simpa using this
    · have hget : fps[i]?.getD [] = fps[i] := by rw [List.getElem?_eq_getElem hf1]; rfl
      have h4 := hp2.turn (i := i) (row := row2) (x := m.mkS c) (g := fps[i]) okMinder (by rw [hget]; exact hk3) hri ⟨a1, by rw [hrow2, hdd]; simp [Minder.enc, Minder.mkS, InS.mk_sz], by simpa [Minder.mkS] using oP⟩ (fun j hj => .inl (by rw [hget]; exact hj))
      have e1 : fps.set i fps[i] = fps := by simp
      have e2 : (MinderS.mk' (xs.take i) k ++ xs.drop i).set i (m.mkS c) = MinderS.mk' (xs.take (i + 1)) k ++ xs.drop (i + 1) := by
        rw [List.take_add_one, List.getElem?_eq_getElem hc, List.drop_eq_getElem_cons hc]
        simp only [Option.toList_some]
        rw [MinderS.mk_snoc, ← hcc, ← hmm, List.set_append_right _ _ (by simp [MinderS.mk_len]; omega)]
        have : i - (MinderS.mk' (xs.take i) k).length = 0 := by simp [MinderS.mk_len]; omega
        rw [this]
        simp only [List.set_cons_zero, List.append_assoc, List.cons_append, List.nil_append]
      rw [e1, e2] at h4
      exact h4.keep okMinder hk4 (fun j hj => by simp; rintro rfl; exact hdis j (by simp) hj)
    · have k5 := ((hkp.trans hkset (fun i hi _ => hi) (fun i hi _ => by simp at hi; subst hi; simp)).trans hk3 (fun i hi _ => hi) (fun i hi _ => List.mem_append.2 (.inr (flat_mem (List.getElem?_eq_getElem hf1) hi)))).trans hk4 (fun i hi _ => hi) (fun i hi _ => by simp at hi; subst hi; simp)
      exact k5
  · simp at hc
    obtain rfl : i = xs.length := by omega
    simp [t0, t1, t5]
    refine he' _ _ _ ?_
    simp [t1]
    refine hQ _ _ _ (by simp) ?_
    rw [List.take_length] at hp t1
    rw [List.drop_length, List.append_nil] at hp
    have hI : IsMinderS H' (.sl a xs.length) (MinderS.mk' xs k) (fp0 ++ fps.flatten) := ⟨a, rows, fp0, fps, by rw [MinderS.mk_len], ho, hp, rfl, hnd⟩
    simp [Try.f72]
    refine ⟨?_, leave_keep' hkp⟩
    rcases leave_or H H' [W.lf (Lf.i .i64 (MinderS.mkN xs k))] with e | ⟨e, G, rfl⟩ <;> rw [e]
    · exact hI
    · exact hI.unapp okMinder unMinder hlt0

theorem heldMinderS_is {H : Heap} {q : Lf} {xs : List Minder} {k : Int} (h : RdMinderS H q xs) (hk : 0 ≤ k) (hk2 : k ≤ 1152921504606846976) (hn : MinderS.sz xs ≤ 1048576) :
    run env 75 [.w (.lf q), .int k] H = some (.int (MinderS.hd xs k), H) := by
  obtain ⟨a, rws, rfl, hs, hlen, hat⟩ := h
  have hl0 := MinderS.sz_len xs
  refine run_walk ok75 Try.func75 rfl (by simp [Try.f75]) fun Q hQ => ?_
  simp only [Try.f75, strip, stripL, stripI, stripG, chkT, tagsB, tagsL, tagD, addT, tagA, lookN, tagOp, elmT, ty22, ty23, ty28, ty29, ty37, ty38, ty39, ty40, ty41, ty50, ty51, ty52, ty53, ty72, ty81, ty141, ty189, Nat.reduceEqDiff, if_false, reduceIte, Option.getD_some, Option.getD_none, dstAt, dstOk, Nat.reduceLT, decide_true, if_true]
  simp
  refine wpS_loop (fun j tm H' => ∃ i c, i + j = xs.length ∧ tm 0 = .w (.lf (.sl a xs.length)) ∧ tm 1 = .int c ∧ tm 5 = .int i ∧ H' = H ∧ 0 ≤ c ∧ c ≤ k + 11 * (i + MinderS.ps xs i : Nat) ∧ MinderS.hd xs k = MinderS.hd (xs.drop i) c) xs.length (by rw [env_K]; omega)
    ⟨0, k, by simp, by simp, by simp, by simp, rfl, hk, by simp [MinderS.ps_zero], by simp⟩ ?_
  rintro j tm H' hj ⟨i, c, hij, t0, t1, t5, rfl, hc0, hc1, heq⟩ Q' hn' he' hr'
  simp [t0, t1, t5, builtinV, pureB, lenV]
  refine selS_intro (fun hc => ?_) (fun hc => ?_)
  · simp at hc
    have hri : i < rws.length := by omega
    obtain ⟨id2, r, bl, rfl, hbl, hbe, hrow⟩ := hs i _ (List.getElem?_eq_getElem hri)
    obtain ⟨a1, hrw, hpo⟩ := hat i _ _ (List.getElem?_eq_getElem hri) (List.getElem?_eq_getElem hc)
    rw [hrw] at hrow
    have hsz := MinderS.sz_at (List.getElem_mem hc)
    have hsz2 : (xs[i]).log.length ≤ 1048576 := by have : (xs[i]).sz = (xs[i]).log.length := rfl; omega
    have hps := MinderS.ps_le xs i
    have hpss := MinderS.ps_succ xs hc
    have hszp : (xs[i]).sz = (xs[i]).log.length := rfl
    have hdrop : xs.drop i = xs[i] :: xs.drop (i + 1) := List.drop_eq_getElem_cons hc
    rw [hdrop, MinderS.hd] at heq
    obtain ⟨m, hmm⟩ : ∃ m, m = xs[i] := ⟨_, rfl⟩
    rw [← hmm] at heq hrow hszp hsz hsz2 hpss hpo
    have w : ∀ d : Int, 0 ≤ d → d ≤ 100 → IntKind.i64.wrap (c + d) = c + d := fun d h1 h2 => wrap64 (by omega) (by omega)
    have g4 : IntKind.i64.wrap ((i : Int) + 1) = (i : Int) + 1 := wrap64 (by omega) (by omega)
    have e1 := heldInS_is (H := H') (q := .sl a1 m.log.length) (k := c + 3) ⟨a1, rfl, hpo⟩ (by omega) (by omega) hsz2
    have fin : MinderS.hd xs k = -1 → ∀ tm'' : T, tm'' 4 = .int (-1) → Q' .ret tm'' H' := by
      intro hx tm'' ht
      refine hr' _ _ ?_
      simp
      refine hQ _ _ _ (by simp) ?_
      simp [Try.f75, ht, hx]
    have hval : InS.hd m.log (c + 3) ≤ c + 3 + 8 * m.log.length := by unfold InS.hd heldL; split <;> omega
    obtain ⟨d, hdd⟩ : ∃ d, d = InS.hd m.log (c + 3) := ⟨_, rfl⟩
    rw [← hdd] at e1 heq hval
    simp [t0, t1, t5, indexAddrV, elemIs, hbl, hbe, hc, hrow, Minder.enc]
    refine selS_intro (fun hd => ?_) (fun hd => ?_)
    · simp
      refine fin ?_ _ (by simp)
      rw [heq, if_pos (by simpa using hd)]
    rw [if_neg (by simpa using hd)] at heq
    simp [t0, t1, t5, indexAddrV, elemIs, hbl, hbe, hc, hrow, Minder.enc, w]
    by_cases hl : m.life = c + 1
    case neg =>
      rw [if_pos hl] at heq
      simp [hl]
      exact fin heq _ (by simp)
    rw [if_neg (by simpa using hl)] at heq
    simp [hl, t0, t1, t5, indexAddrV, elemIs, hbl, hbe, hc, hrow, Minder.enc, w, Int.add_assoc]
    by_cases he : m.epoch = c + 2
    case neg =>
      rw [if_pos he] at heq
      simp [he]
      exact fin heq _ (by simp)
    rw [if_neg (by simpa using he)] at heq
    simp [he, t0, t1, t5, indexAddrV, elemIs, hbl, hbe, hc, hrow, Minder.enc, w, Int.add_assoc, e1]
    by_cases hd0 : d < 0
    case pos =>
      rw [if_pos hd0] at heq
      simp [hd0]
      exact fin heq _ (by simp)
    rw [if_neg hd0] at heq
    have w2 : ∀ e : Int, 0 ≤ e → e ≤ 100 → IntKind.i64.wrap (d + e) = d + e := fun e h1 h2 => wrap64 (by omega) (by omega)
    simp [hd0, t0, t1, t5, indexAddrV, elemIs, hbl, hbe, hc, hrow, Minder.enc]
    by_cases hs1 : m.said = d
    case neg =>
      rw [if_pos hs1] at heq
      simp [hs1]
      exact fin heq _ (by simp)
    rw [if_neg (by simpa using hs1)] at heq
    simp [hs1, t0, t1, t5, indexAddrV, elemIs, hbl, hbe, hc, hrow, Minder.enc, w2]
    by_cases hs2 : m.acked = d + 1
    case neg =>
      rw [if_pos hs2] at heq
      simp [hs2]
      exact fin heq _ (by simp)
    rw [if_neg (by simpa using hs2)] at heq
    simp [hs2, t0, t1, t5, indexAddrV, elemIs, hbl, hbe, hc, hrow, Minder.enc, w2, Int.add_assoc]
    by_cases hs3 : m.ackLife = d + 2
    case neg =>
      rw [if_pos hs3] at heq
      simp [hs3]
      exact fin heq _ (by simp)
    rw [if_neg (by simpa using hs3)] at heq
    simp [hs3, t0, t1, t5, w2, Int.add_assoc, g4]
    exact hn' (j - 1) _ _ (by omega) ⟨i + 1, d + 3, by omega, by simp [t0], by simp, by simp, rfl, by omega, by rw [hpss]; omega, heq⟩
  · simp at hc
    obtain rfl : i = xs.length := by omega
    simp [t0, t1, t5]
    refine he' _ _ _ ?_
    simp [t1]
    refine hQ _ _ _ (by simp) ?_
    rw [List.drop_length] at heq
    simp [Try.f75, heq, MinderS.hd]

structure Box where
  id : Int
  ports : Int
  reg : Reg
  two : List Minder
  net : List Wire
  gates : List Bool
  line : List In
  said : List Out
  deriving DecidableEq, Inhabited
def Box.enc (x : Box) (q0 q1 q2 q3 q4 : Lf) : List Lf := [.i .i64 x.id, .i .i64 x.ports, .i .i64 x.reg.epoch, .i .i64 x.reg.owner, .i .i64 x.reg.pair, q0, q1, q2, q3, q4]
@[simp] theorem Box.enc_len (x : Box) (q0 q1 q2 q3 q4 : Lf) : (x.enc q0 q1 q2 q3 q4).length = 10 := rfl
@[simp] theorem Box.enc_take (x : Box) (q0 q1 q2 q3 q4 : Lf) : List.take 10 (x.enc q0 q1 q2 q3 q4) = x.enc q0 q1 q2 q3 q4 := rfl

def IsBox (H : Heap) (l : List Lf) (x : Box) (fp : List Nat) : Prop := ∃ q0 q1 q2 q3 q4 f0 f1 f2 f3 f4, l = x.enc q0 q1 q2 q3 q4 ∧ IsMinderS H q0 x.two f0 ∧ IsWireS H q1 x.net f1 ∧ IsBoolS H q2 x.gates f2 ∧ IsInS H q3 x.line f3 ∧ IsOutS H q4 x.said f4 ∧ fp = f0 ++ (f1 ++ (f2 ++ (f3 ++ (f4)))) ∧ fp.Nodup
def RdBox (H : Heap) (l : List Lf) (x : Box) : Prop := ∃ q0 q1 q2 q3 q4, l = x.enc q0 q1 q2 q3 q4 ∧ RdMinderS H q0 x.two ∧ RdWireS H q1 x.net ∧ RdBoolS H q2 x.gates ∧ RdInS H q3 x.line ∧ RdOutS H q4 x.said
def RdLBox (H : Heap) (l : List Lf) (x : Box) : Prop := ∃ q0 q1 q2 q3 q4, l = x.enc q0 q1 q2 q3 q4 ∧ RdLMinderS H q0 x.two ∧ RdLWireS H q1 x.net ∧ RdLBoolS H q2 x.gates ∧ RdLInS H q3 x.line ∧ RdLOutS H q4 x.said
def Box.sz (x : Box) : Nat := MinderS.sz x.two + x.net.length + x.gates.length + x.line.length + x.said.length
def Box.fit (x : Box) : Prop := MinderS.fit x.two ∧ x.net.length ≤ maxLen ∧ x.gates.length ≤ maxLen ∧ x.line.length ≤ maxLen ∧ x.said.length ≤ maxLen
section
variable {H H' : Heap} {l : List Lf} {x : Box} {fp : List Nat}
theorem IsBox.keep {f : List Nat} (h : IsBox H l x fp) (hk : Keep f H H') (hd : ∀ i ∈ fp, i ∉ f) : IsBox H' l x fp := by
  obtain ⟨q0, q1, q2, q3, q4, f0, f1, f2, f3, f4, rfl, h0, h1, h2, h3, h4, rfl, hnd⟩ := h
  exact ⟨q0, q1, q2, q3, q4, f0, f1, f2, f3, f4, rfl, h0.keep okMinder hk (fun i hi => hd i (by simp [hi])), h1.keep hk (fun i hi => hd i (by simp [hi])), h2.keep hk (fun i hi => hd i (by simp [hi])), h3.keep hk (fun i hi => hd i (by simp [hi])), h4.keep hk (fun i hi => hd i (by simp [hi])), rfl, hnd⟩
theorem IsBox.app (h : IsBox H l x fp) (G : Heap) : IsBox (H ++ G) l x fp := h.keep (Keep.app [] H G) (by simp)
theorem IsBox.lt (h : IsBox H l x fp) : ∀ i ∈ fp, i < H.length := by
  obtain ⟨q0, q1, q2, q3, q4, f0, f1, f2, f3, f4, rfl, h0, h1, h2, h3, h4, rfl, hnd⟩ := h
  intro i hi
  simp at hi
  rcases hi with hi | hi | hi | hi | hi
  · exact h0.lt okMinder i hi
  · exact h1.lt i hi
  · exact h2.lt i hi
  · exact h3.lt i hi
  · exact h4.lt i hi
theorem IsBox.nodup (h : IsBox H l x fp) : fp.Nodup := by
  obtain ⟨q0, q1, q2, q3, q4, f0, f1, f2, f3, f4, rfl, h0, h1, h2, h3, h4, rfl, hnd⟩ := h
  exact hnd
theorem IsBox.rd (h : IsBox H l x fp) : RdBox H l x := by
  obtain ⟨q0, q1, q2, q3, q4, f0, f1, f2, f3, f4, rfl, h0, h1, h2, h3, h4, rfl, hnd⟩ := h
  exact ⟨q0, q1, q2, q3, q4, rfl, IsMinderS_rd h0, h1.rd, h2.rd, h3.rd, h4.rd⟩
theorem RdBox.base (h : RdBox H l x) (hk : Keep [] H H') : RdBox H' l x := by
  obtain ⟨q0, q1, q2, q3, q4, rfl, h0, h1, h2, h3, h4⟩ := h
  exact ⟨q0, q1, q2, q3, q4, rfl, RdMinderS_base h0 hk, h1.base hk, h2.base hk, h3.base hk, h4.base hk⟩
theorem RdBox.app (h : RdBox H l x) (G : Heap) : RdBox (H ++ G) l x := h.base (Keep.app _ _ _)
theorem RdBox.len (h : RdBox H l x) : l.length = 10 := by
  obtain ⟨q0, q1, q2, q3, q4, rfl, h0, h1, h2, h3, h4⟩ := h
  rfl
theorem RdLBox.base (h : RdLBox H l x) (hk : Keep [] H H') : RdLBox H' l x := by
  obtain ⟨q0, q1, q2, q3, q4, rfl, h0, h1, h2, h3, h4⟩ := h
  exact ⟨q0, q1, q2, q3, q4, rfl, RdLMinderS_base h0 hk, h1.base hk, h2.base hk, h3.base hk, h4.base hk⟩
theorem RdLBox.app (h : RdLBox H l x) (G : Heap) : RdLBox (H ++ G) l x := h.base (Keep.app _ _ _)
theorem RdLBox.len (h : RdLBox H l x) : l.length = 10 := by
  obtain ⟨q0, q1, q2, q3, q4, rfl, h0, h1, h2, h3, h4⟩ := h
  rfl
theorem IsBox.len (h : IsBox H l x fp) : l.length = 10 := by
  obtain ⟨q0, q1, q2, q3, q4, f0, f1, f2, f3, f4, rfl, h0, h1, h2, h3, h4, rfl, hnd⟩ := h
  rfl
theorem IsBox.free (h : IsBox H' l x fp) (hr : l.all refFree = true) (H2 : Heap) : IsBox H2 l x [] := by
  obtain ⟨q0, q1, q2, q3, q4, f0, f1, f2, f3, f4, rfl, h0, h1, h2, h3, h4, rfl, hnd⟩ := h
  simp [Box.enc] at hr
  have a0 : IsMinderS H2 q0 x.two [] := by
    obtain ⟨e1, e2⟩ := h0.empty hr.1
    rw [e1, e2]
    exact IsL.emp _ _ _
  have a1 : IsWireS H2 q1 x.net [] := h1.free hr.2.1 H2
  have a2 : IsBoolS H2 q2 x.gates [] := h2.free hr.2.2.1 H2
  have a3 : IsInS H2 q3 x.line [] := h3.free hr.2.2.2.1 H2
  have a4 : IsOutS H2 q4 x.said [] := h4.free hr.2.2.2.2 H2
  exact ⟨q0, q1, q2, q3, q4, [], [], [], [], [], rfl, a0, a1, a2, a3, a4, by simp, by simp⟩
theorem IsBox.leave {ws : List W} (h : IsBox H' l x fp) (hf : Fresh H H' fp) (hw : ws.all W.free = true → l.all refFree = true) : ∃ fp', IsBox (leave H H' ws) l x fp' ∧ Fresh H (leave H H' ws) fp' := by
  rcases leave_opt H H' ws with e | ⟨e, hr⟩ <;> rw [e]
  · exact ⟨fp, h, hf⟩
  · exact ⟨[], h.free (hw hr) H, Fresh.refl H⟩
end

theorem eqBox_is {H : Heap} {l r : List Lf} {x y : Box} (h : RdBox H l x) (h2 : RdBox H r y) (hn : x.sz ≤ 1048576) : run env 22 [.agg l, .agg r] H = some (.bool (decide (x = y)), H) := by
  obtain ⟨q0, q1, q2, q3, q4, rfl, r0, r1, r2, r3, r4⟩ := h
  obtain ⟨p0, p1, p2, p3, p4, rfl, s0, s1, s2, s3, s4⟩ := h2
  unfold Box.sz at hn
  have e0 := fun G => eqMinderS_is (RdMinderS_base r0 (Keep.app [] _ G)) (RdMinderS_base s0 (Keep.app [] _ G)) (by omega)
  have e1 := fun G => eqWireS_is (r1.app G) (s1.app G) (by omega)
  have e2 := fun G => eqBoolS_is (r2.app G) (s2.app G) (by omega)
  have e3 := fun G => eqInS_is (r3.app G) (s3.app G) (by omega)
  have e4 := fun G => eqOutS_is (r4.app G) (s4.app G) (by omega)
  have er := fun H => eqReg H x.reg y.reg
  obtain ⟨x0, x1, x2, x3, x4, x5, x6, x7⟩ := x
  obtain ⟨y0, y1, y2, y3, y4, y5, y6, y7⟩ := y
  simp only at e0 e1 e2 e3 e4 er
  simp only [Reg.enc] at er
  refine run_walk ok22 Try.func22 rfl (by simp [Try.f22]) fun Q hQ => ?_
  simp only [Try.f22, strip, stripL, stripI, stripG, chkT, tagsB, tagsL, tagD, addT, tagA, lookN, tagOp, elmT, ty22, ty23, ty28, ty29, ty37, ty38, ty39, ty40, ty41, ty50, ty51, ty52, ty53, ty72, ty81, ty141, ty189, Nat.reduceEqDiff, if_false, reduceIte, Option.getD_some, Option.getD_none, dstAt, dstOk, Nat.reduceLT, decide_true, if_true]
  simp [Box.enc, e0, e1, e2, e3, e4, er]
  repeat' (first | (refine gdL_t (fun h => ?_) (fun h => ?_) <;> simp [h, e0, e1, e2, e3, e4, er]) | (refine gdL_f (fun h => ?_) (fun h => ?_) <;> simp [h, e0, e1, e2, e3, e4, er]) | (refine selS_intro (fun h => ?_) (fun h => ?_) <;> simp [h, e0, e1, e2, e3, e4, er]))
  all_goals (refine hQ _ _ _ (by simp) ?_)
  all_goals (clear hQ; simp_all [Try.f22])

def Box.mk1 (x : Box) (k : Int) : Int := MinderS.mkN x.two k
def Box.mk2 (x : Box) (k : Int) : Int := WireS.mkN x.net (x.mk1 k)
def Box.mk3 (x : Box) (k : Int) : Int := BoolS.mkN x.gates (x.mk2 k)
def Box.mk4 (x : Box) (k : Int) : Int := InS.mkN x.line (x.mk3 k)
def Box.mkN (x : Box) (k : Int) : Int := OutS.mkN x.said (x.mk4 k)
def Box.mk' (x : Box) (k : Int) : Box := ⟨x.id, x.ports, x.reg, MinderS.mk' x.two k, WireS.mk' x.net (x.mk1 k), BoolS.mk' x.gates (x.mk2 k), InS.mk' x.line (x.mk3 k), OutS.mk' x.said (x.mk4 k)⟩
def Box.hd (x : Box) (k : Int) : Int := if MinderS.hd x.two k < 0 then -1 else if WireS.hd x.net (MinderS.hd x.two k) < 0 then -1 else if BoolS.hd x.gates (WireS.hd x.net (MinderS.hd x.two k)) < 0 then -1 else
  if InS.hd x.line (BoolS.hd x.gates (WireS.hd x.net (MinderS.hd x.two k))) < 0 then -1 else if OutS.hd x.said (InS.hd x.line (BoolS.hd x.gates (WireS.hd x.net (MinderS.hd x.two k)))) < 0 then -1 else OutS.hd x.said (InS.hd x.line (BoolS.hd x.gates (WireS.hd x.net (MinderS.hd x.two k))))
theorem Box.mk_bd (x : Box) (k : Int) : k ≤ x.mk1 k ∧ x.mk1 k ≤ k + 11 * MinderS.sz x.two ∧ x.mk1 k ≤ x.mk2 k ∧ x.mk2 k ≤ x.mk1 k + 12 * x.net.length ∧ x.mk2 k ≤ x.mk3 k ∧ x.mk3 k ≤ x.mk2 k + x.gates.length ∧ x.mk3 k ≤ x.mk4 k ∧ x.mk4 k ≤ x.mk3 k + 8 * x.line.length ∧ x.mk4 k ≤ x.mkN k ∧ x.mkN k ≤ x.mk4 k + 8 * x.said.length := by
  have h1 := MinderS.mkN_bd x.two k
  unfold Box.mkN Box.mk4 Box.mk3 Box.mk2 Box.mk1 OutS.mkN InS.mkN BoolS.mkN WireS.mkN
  omega
theorem Box.hd_mk (x : Box) (k : Int) (h : 0 ≤ k) : (x.mk' k).hd k = x.mkN k := by
  have h1 := x.mk_bd k
  have e1 : MinderS.hd (x.mk' k).two k = x.mk1 k := MinderS.hd_mk _ _ h
  have e2 : WireS.hd (x.mk' k).net (x.mk1 k) = x.mk2 k := WireS.hd_mk _ _
  have e3 : BoolS.hd (x.mk' k).gates (x.mk2 k) = x.mk3 k := BoolS.hd_mk _ _
  have e4 : InS.hd (x.mk' k).line (x.mk3 k) = x.mk4 k := InS.hd_mk _ _
  have e5 : OutS.hd (x.mk' k).said (x.mk4 k) = x.mkN k := OutS.hd_mk _ _
  unfold Box.hd
  rw [e1, e2, e3, e4, e5, if_neg (by omega), if_neg (by omega), if_neg (by omega), if_neg (by omega), if_neg (by omega)]
theorem Box.mk_sz (x : Box) (k : Int) : (x.mk' k).sz = x.sz := by
  unfold Box.sz Box.mk'
  simp only
  rw [MinderS.mk_sz, WireS.mk_sz, BoolS.mk_sz, InS.mk_sz, OutS.mk_sz]
theorem Box.mkN_le {x : Box} {k : Int} (h : x.sz ≤ 1048576) : k ≤ x.mkN k ∧ x.mkN k ≤ k + 1000000000 := by
  have h1 := x.mk_bd k
  unfold Box.sz at h
  omega

theorem unapp_is {α : Type} {e : Nat} {enc : α → List Lf} {H G : Heap} {q : Lf} {xs : List α} {fp : List Nat} (h : IsSl e enc (H ++ G) q xs fp) (hf : ∀ i ∈ fp, i < H.length) : IsSl e enc H q xs fp := by
  obtain ⟨a, rfl, ho⟩ := h
  exact ⟨a, rfl, ho.unapp hf⟩
theorem markBox_is {H : Heap} {l : List Lf} {x : Box} {fp : List Nat} {k : Int} (h : IsBox H l x fp) (hk : 0 ≤ k) (hk2 : k ≤ 1152921504606846976) (hn : x.sz ≤ 1048576) :
    Runs env 23 [.agg l, .int k] H fun v H' => v = .int (x.mkN k) ∧ IsBox H' l (x.mk' k) fp ∧ Keep fp H H' := by
  obtain ⟨q0, q1, q2, q3, q4, f0, f1, f2, f3, f4, rfl, h0, h1, h2, h3, h4, rfl, hnd⟩ := h
  have hlt0 := h0.lt okMinder
  have hlt1 := h1.lt
  have hlt2 := h2.lt
  have hlt3 := h3.lt
  have hlt4 := h4.lt
  have n0 := List.nodup_append.1 hnd
  have n1 := List.nodup_append.1 n0.2.1
  have n2 := List.nodup_append.1 n1.2.1
  have n3 := List.nodup_append.1 n2.2.1
  have x01 : ∀ i ∈ f0, i ∉ f1 := fun i hi hj => n0.2.2 i hi i (by simp [hj]) rfl
  have x02 : ∀ i ∈ f0, i ∉ f2 := fun i hi hj => n0.2.2 i hi i (by simp [hj]) rfl
  have x03 : ∀ i ∈ f0, i ∉ f3 := fun i hi hj => n0.2.2 i hi i (by simp [hj]) rfl
  have x04 : ∀ i ∈ f0, i ∉ f4 := fun i hi hj => n0.2.2 i hi i (by simp [hj]) rfl
  have x12 : ∀ i ∈ f1, i ∉ f2 := fun i hi hj => n1.2.2 i hi i (by simp [hj]) rfl
  have x13 : ∀ i ∈ f1, i ∉ f3 := fun i hi hj => n1.2.2 i hi i (by simp [hj]) rfl
  have x14 : ∀ i ∈ f1, i ∉ f4 := fun i hi hj => n1.2.2 i hi i (by simp [hj]) rfl
  have x23 : ∀ i ∈ f2, i ∉ f3 := fun i hi hj => n2.2.2 i hi i (by simp [hj]) rfl
  have x24 : ∀ i ∈ f2, i ∉ f4 := fun i hi hj => n2.2.2 i hi i (by simp [hj]) rfl
  have x34 : ∀ i ∈ f3, i ∉ f4 := fun i hi hj => n3.2.2 i hi i hj rfl
  have hbd := x.mk_bd k
  unfold Box.sz at hn
  refine Runs.walk ok23 Try.func23 rfl (by simp [Try.f23]) fun Q hQ => ?_
  simp only [Try.f23, strip, stripL, stripI, stripG, chkT, tagsB, tagsL, tagD, addT, tagA, lookN, tagOp, elmT, ty22, ty23, ty28, ty29, ty37, ty38, ty39, ty40, ty41, ty50, ty51, ty52, ty53, ty72, ty81, ty141, ty189, Nat.reduceEqDiff, if_false, reduceIte, Option.getD_some, Option.getD_none, dstAt, dstOk, Nat.reduceLT, decide_true, if_true]
  simp [Box.enc]
  obtain ⟨B, hB⟩ : ∃ B : Option Blk, B = some ⟨43, .wr, [[.i .i64 x.id, .i .i64 x.ports, .i .i64 x.reg.epoch, .i .i64 x.reg.owner, .i .i64 x.reg.pair, q0, q1, q2, q3, q4]]⟩ := ⟨_, rfl⟩
  obtain ⟨H0, hH0⟩ : ∃ H0 : Heap, H0 = H ++ [B] := ⟨_, rfl⟩
  have b0 : blkAt H0 H.length = B := by rw [hH0, hB]; simp
  have k0 : Keep [] H H0 := by rw [hH0]; exact Keep.app _ _ _
  have g0 := h0.keep okMinder k0 (by simp)
  have g1 := h1.keep k0 (by simp)
  have g2 := h2.keep k0 (by simp)
  have g3 := h3.keep k0 (by simp)
  have g4 := h4.keep k0 (by simp)
  rw [← hB, ← hH0]
  rw [hB] at b0
  clear hH0 hB
  refine stpL_runs (markMinderS_is g0 hk hk2 (by omega)) ?_
  rintro _ H1 ⟨rfl, o0, k1⟩
  have b1 := k1.blk b0 (fun hi => by have := hlt0 _ hi; omega)
  have d1 := blkAt_len b1
  simp [b1, d1]
  refine stpL_runs (markWireS_is (g1.keep k1 (fun i hi hj => x01 i hj hi)) (by unfold Box.mk1 at hbd; omega) (by unfold Box.mk1 at hbd; omega) (by omega)) ?_
  rintro _ H2 ⟨rfl, o1, k2⟩
  have b2 := k2.blk b1 (fun hi => by have := hlt1 _ hi; omega)
  have d2 := blkAt_len b2
  simp [b2, d2]
  refine stpL_runs (markBoolS_is ((g2.keep k1 (fun i hi hj => x02 i hj hi)).keep k2 (fun i hi hj => x12 i hj hi)) (by unfold Box.mk2 Box.mk1 at hbd; omega) (by unfold Box.mk2 Box.mk1 at hbd; omega) (by omega)) ?_
  rintro _ H3 ⟨rfl, o2, k3⟩
  have b3 := k3.blk b2 (fun hi => by have := hlt2 _ hi; omega)
  have d3 := blkAt_len b3
  simp [b3, d3]
  refine stpL_runs (markInS_is (((g3.keep k1 (fun i hi hj => x03 i hj hi)).keep k2 (fun i hi hj => x13 i hj hi)).keep k3 (fun i hi hj => x23 i hj hi)) (by unfold Box.mk3 Box.mk2 Box.mk1 at hbd; omega) (by unfold Box.mk3 Box.mk2 Box.mk1 at hbd; omega) (by omega)) ?_
  rintro _ H4 ⟨rfl, o3, k4⟩
  have b4 := k4.blk b3 (fun hi => by have := hlt3 _ hi; omega)
  have d4 := blkAt_len b4
  simp [b4, d4]
  refine stpL_runs (markOutS_is ((((g4.keep k1 (fun i hi hj => x04 i hj hi)).keep k2 (fun i hi hj => x14 i hj hi)).keep k3 (fun i hi hj => x24 i hj hi)).keep k4 (fun i hi hj => x34 i hj hi)) (by unfold Box.mk4 Box.mk3 Box.mk2 Box.mk1 at hbd; omega) (by unfold Box.mk4 Box.mk3 Box.mk2 Box.mk1 at hbd; omega) (by omega)) ?_
  rintro _ H5 ⟨rfl, o4, k5⟩
  simp
  refine hQ _ _ _ (by simp) ?_
  have p0 := (((o0.keep okMinder k2 x01).keep okMinder k3 x02).keep okMinder k4 x03).keep okMinder k5 x04
  have p1 := ((o1.keep k3 x12).keep k4 x13).keep k5 x14
  have p2 := (o2.keep k4 x23).keep k5 x24
  have p3 := o3.keep k5 x34
  have hI : IsBox H5 [.i .i64 x.id, .i .i64 x.ports, .i .i64 x.reg.epoch, .i .i64 x.reg.owner, .i .i64 x.reg.pair, q0, q1, q2, q3, q4] (x.mk' k) (f0 ++ (f1 ++ (f2 ++ (f3 ++ f4)))) := ⟨q0, q1, q2, q3, q4, f0, f1, f2, f3, f4, rfl, p0, p1, p2, p3, o4, rfl, hnd⟩
  have hK : Keep (f0 ++ (f1 ++ (f2 ++ (f3 ++ f4)))) H H5 := by
    have a1 : Keep (f0 ++ (f1 ++ (f2 ++ (f3 ++ f4)))) H H1 := k0.trans k1 (by simp) (fun i hi _ => by simp [hi])
    have a2 := a1.trans (h := f0 ++ (f1 ++ (f2 ++ (f3 ++ f4)))) k2 (fun i hi _ => hi) (fun i hi _ => by simp [hi])
    have a3 := a2.trans (h := f0 ++ (f1 ++ (f2 ++ (f3 ++ f4)))) k3 (fun i hi _ => hi) (fun i hi _ => by simp [hi])
    have a4 := a3.trans (h := f0 ++ (f1 ++ (f2 ++ (f3 ++ f4)))) k4 (fun i hi _ => hi) (fun i hi _ => by simp [hi])
    exact a4.trans k5 (fun i hi _ => hi) (fun i hi _ => by simp [hi])
  simp [Try.f23]
  refine ⟨rfl, ?_, leave_keep' hK⟩
  rcases leave_or H H5 [W.lf (Lf.i .i64 (OutS.mkN x.said (InS.mkN x.line (BoolS.mkN x.gates (WireS.mkN x.net (MinderS.mkN x.two k))))))] with e | ⟨e, G, rfl⟩ <;> rw [e]
  · exact hI
  · exact ⟨q0, q1, q2, q3, q4, f0, f1, f2, f3, f4, rfl, p0.unapp okMinder unMinder hlt0, unapp_is p1 hlt1, unapp_is p2 hlt2, unapp_is p3 hlt3, unapp_is o4 hlt4, rfl, hnd⟩

theorem heldBox_is {H : Heap} {l : List Lf} {x : Box} {k : Int} (h : RdBox H l x) (hk : 0 ≤ k) (hk2 : k ≤ 1152921504606846976) (hn : x.sz ≤ 1048576) :
    run env 24 [.agg l, .int k] H = some (.int (x.hd k), H) := by
  obtain ⟨q0, q1, q2, q3, q4, rfl, h0, h1, h2, h3, h4⟩ := h
  unfold Box.sz at hn
  have e0 := fun G => heldMinderS_is (RdMinderS_base h0 (Keep.app [] _ G)) hk hk2 (by omega)
  have hb0 := MinderS.hd_bd x.two k hk
  refine run_walk ok24 Try.func24 rfl (by simp [Try.f24]) fun Q hQ => ?_
  simp only [Try.f24, strip, stripL, stripI, stripG, chkT, tagsB, tagsL, tagD, addT, tagA, lookN, tagOp, elmT, ty22, ty23, ty28, ty29, ty37, ty38, ty39, ty40, ty41, ty50, ty51, ty52, ty53, ty72, ty81, ty141, ty189, Nat.reduceEqDiff, if_false, reduceIte, Option.getD_some, Option.getD_none, dstAt, dstOk, Nat.reduceLT, decide_true, if_true]
  have fin : ∀ tm G n, tm 4 = .int n → x.hd k = n → Q .ret tm (H ++ G) := by
    intro tm G n t4 hx
    refine hQ _ _ _ (by simp) ?_
    simp [Try.f24, t4, hx]
  simp [Box.enc, e0]
  by_cases c0 : MinderS.hd x.two k < 0
  · simp [c0]
    exact fin _ _ (-1) (by simp) (by simp [Box.hd, c0])
  have e1 := fun G => heldWireS_is (h1.app G) (k := MinderS.hd x.two k) (by omega) (by omega) (by omega)
  have v1 : WireS.hd x.net (MinderS.hd x.two k) ≤ MinderS.hd x.two k + 12 * x.net.length := by unfold WireS.hd heldL; split <;> omega
  simp [c0, e1]
  by_cases c1 : WireS.hd x.net (MinderS.hd x.two k) < 0
  · simp [c1]
    exact fin _ _ (-1) (by simp) (by simp [Box.hd, c0, c1])
  have e2 := fun G => heldBoolS_is (h2.app G) (k := WireS.hd x.net (MinderS.hd x.two k)) (by omega) (by omega) (by omega)
  have v2 : BoolS.hd x.gates (WireS.hd x.net (MinderS.hd x.two k)) ≤ WireS.hd x.net (MinderS.hd x.two k) + x.gates.length := by unfold BoolS.hd heldL; split <;> omega
  simp [c1, e2]
  by_cases c2 : BoolS.hd x.gates (WireS.hd x.net (MinderS.hd x.two k)) < 0
  · simp [c2]
    exact fin _ _ (-1) (by simp) (by simp [Box.hd, c0, c1, c2])
  have e3 := fun G => heldInS_is (h3.app G) (k := BoolS.hd x.gates (WireS.hd x.net (MinderS.hd x.two k))) (by omega) (by omega) (by omega)
  have v3 : InS.hd x.line (BoolS.hd x.gates (WireS.hd x.net (MinderS.hd x.two k))) ≤ BoolS.hd x.gates (WireS.hd x.net (MinderS.hd x.two k)) + 8 * x.line.length := by unfold InS.hd heldL; split <;> omega
  simp [c2, e3]
  by_cases c3 : InS.hd x.line (BoolS.hd x.gates (WireS.hd x.net (MinderS.hd x.two k))) < 0
  · simp [c3]
    exact fin _ _ (-1) (by simp) (by simp [Box.hd, c0, c1, c2, c3])
  have e4 := fun G => heldOutS_is (h4.app G) (k := InS.hd x.line (BoolS.hd x.gates (WireS.hd x.net (MinderS.hd x.two k)))) (by omega) (by omega) (by omega)
  simp [c3, e4]
  by_cases c4 : OutS.hd x.said (InS.hd x.line (BoolS.hd x.gates (WireS.hd x.net (MinderS.hd x.two k)))) < 0
  · simp [c4]
    exact fin _ _ (-1) (by simp) (by simp [Box.hd, c0, c1, c2, c3, c4])
  · simp [c4]
    exact fin _ _ _ (by simp; rfl) (by simp [Box.hd, c0, c1, c2, c3, c4])

def openBy (role wait : Int) : Bool := (decide (role = 1) || decide (role = 2)) && decide (wait = 0)
def Port.ok (p : Port) : Bool :=
  (if p.has then p.up && p.vec.ok && (decide (0 ≤ p.hops) && decide (p.hops ≤ 8)) && (decide (1 ≤ p.left) && decide (p.left ≤ 3)) else decide (p.vec = ⟨0, 0, 0, 0⟩) && decide (p.hops = 0) && decide (p.left = 0)) &&
  (decide (0 ≤ p.role) && decide (p.role ≤ 3)) && decide (decide (p.role = 0) = !p.up) && (decide (0 ≤ p.wait) && decide (p.wait ≤ 4)) && decide (p.opn = openBy p.role p.wait)

theorem specPortOk (H : Heap) (p : Port) : run env 156 [.agg p.enc] H = some (.bool p.ok, H) := by
  obtain ⟨a1, a2, ⟨b1, b2, b3, b4⟩, a4, a5, a6, a7, a8⟩ := p
  have e := fun H => specVecOk H ⟨b1, b2, b3, b4⟩
  simp only [Vec.enc, Port.enc] at e
  refine run_walk ok156 Try.func156 rfl (by simp [Try.f156]) fun Q hQ => ?_
  simp only [Try.f156, strip, stripL, stripI, stripG, chkT, tagsB, tagsL, tagD, addT, tagA, lookN, tagOp, elmT, ty22, ty23, ty28, ty29, ty37, ty38, ty39, ty40, ty41, ty50, ty51, ty52, ty53, ty72, ty81, ty141, ty189, Nat.reduceEqDiff, if_false, reduceIte, Option.getD_some, Option.getD_none, dstAt, dstOk, Nat.reduceLT, decide_true, if_true]
  simp [Port.enc, e, l1In]
  repeat' (first | (refine gdL_t (fun h => ?_) (fun h => ?_) <;> simp [h, e, l1In]) | (refine gdL_f (fun h => ?_) (fun h => ?_) <;> simp [h, e, l1In]) | (refine selS_intro (fun h => ?_) (fun h => ?_) <;> simp [h, e, l1In]))
  all_goals (refine hQ _ _ _ (by simp) ?_)
  all_goals (clear hQ e; simp_all [Try.f156, Port.ok, openBy])
  all_goals (try (intros; exfalso; omega))

def Bridge.ok (b : Bridge) : Bool := b.ports.all Port.ok && (decide (1 ≤ b.id) && decide (b.id ≤ 9)) && (decide (1 ≤ (b.ports.length : Int)) && decide ((b.ports.length : Int) ≤ 4))

theorem specBridgeOk_is {H : Heap} {l : List Lf} {b : Bridge} (h : RdBridge H l b) (hn : b.sz ≤ 1048576) : run env 110 [.agg l] H = some (.bool b.ok, H) := by
  obtain ⟨a, rfl, h⟩ := h
  have hn : b.ports.length ≤ 1048576 := hn
  refine run_walk ok110 Try.func110 rfl (by simp [Try.f110]) fun Q hQ => ?_
  simp only [Try.f110, strip, stripL, stripI, stripG, chkT, tagsB, tagsL, tagD, addT, tagA, lookN, tagOp, elmT, ty22, ty23, ty28, ty29, ty37, ty38, ty39, ty40, ty41, ty50, ty51, ty52, ty53, ty72, ty81, ty141, ty189, Nat.reduceEqDiff, if_false, reduceIte, Option.getD_some, Option.getD_none, dstAt, dstOk, Nat.reduceLT, decide_true, if_true]
  simp [Bridge.enc, builtinV, pureB, lenV]
  refine wpS_loop (fun j tm H' => ∃ i, i + j = b.ports.length ∧ tm 1 = .ptr H.length 0 0 ∧ tm 3 = .int i ∧ H' = H ++ [some ⟨74, .wr, [b.enc a]⟩] ∧ (b.ports.take i).all Port.ok = true) b.ports.length (by rw [env_K]; omega) ⟨0, by simp, by simp, by simp, by simp [Bridge.enc], by simp⟩ ?_
  rintro j tm H' hj ⟨i, hij, t1, t3, rfl, hall⟩ Q' hn' he' hr'
  simp [t1, t3, Bridge.enc, builtinV, pureB, lenV]
  refine selS_intro (fun hc => ?_) (fun hc => ?_)
  · simp at hc
    obtain ⟨id, r, bl, rfl, hbl, hbe, hrow⟩ := h i _ (by simp [hc]; rfl)
    have hid := blkAt_len hbl
    have g4 : IntKind.i64.wrap ((i : Int) + 1) = (i : Int) + 1 := wrap64 (by omega) (by omega)
    simp [t1, t3, indexAddrV, elemIs, hid, hbl, hbe, hc, hrow, specPortOk]
    refine selS_intro (fun hd => ?_) (fun hd => ?_)
    · simp
      refine hr' _ _ ?_
      simp
      refine hQ _ _ _ (by simp) ?_
      have : b.ports.all Port.ok = false := List.all_eq_false.2 ⟨b.ports[i], by simp, by simpa using hd⟩
      simp [Try.f110, this, Bridge.ok]
    · simp at hd
      simp [t1, t3, g4]
      refine hn' (j - 1) _ _ (by omega) ⟨i + 1, by omega, by simp [t1], by simp, by simp [Bridge.enc], ?_⟩
      rw [List.take_add_one, List.all_append, hall]
      simp [hc, hd]
  · simp at hc
    simp [t1, t3]
    refine he' _ _ _ ?_
    simp [t1, builtinV, pureB, lenV, Bridge.enc, l1In]
    rw [List.take_of_length_le (by omega)] at hall
    repeat' (first | (refine gdL_t (fun h => ?_) (fun h => ?_) <;> simp [h, t1, l1In, builtinV, pureB, lenV]) | (refine gdL_f (fun h => ?_) (fun h => ?_) <;> simp [h, t1, l1In, builtinV, pureB, lenV]) | (refine selS_intro (fun h => ?_) (fun h => ?_) <;> simp [h, t1, l1In, builtinV, pureB, lenV]))
    all_goals (refine hQ _ _ _ (by simp) ?_)
    all_goals (simp [Try.f110, Bridge.ok, hall])
    all_goals (simp_all)
    all_goals (try (intros; omega))

def better (a b : Vec) : Bool := if a.root ≠ b.root then decide (a.root < b.root) else if a.cost ≠ b.cost then decide (a.cost < b.cost) else if a.bridge ≠ b.bridge then decide (a.bridge < b.bridge) else decide (a.port < b.port)
def cmpI' (a b : Int) : Int := if a < b then -1 else if b < a then 1 else 0
def orL (xs : List Int) : Int := (xs.find? fun x => !decide (x = 0)).getD 0

def rootSkip (b : Bridge) (p : Port) : Bool := !p.has || decide (p.vec.bridge = b.id) || decide (b.id ≤ p.vec.root) || decide (20 ≤ p.vec.cost) || decide (8 ≤ p.hops)
def rootStep (b : Bridge) (best : Int) (i : Nat) (p : Port) : Int := if rootSkip b p then best else if decide (best < 0) || better p.vec (b.ports.getD best.toNat default).vec then i else best
def rootUpto (b : Bridge) : Nat → Int
  | 0 => -1
  | i + 1 => match b.ports[i]? with
    | some p => rootStep b (rootUpto b i) i p
    | none => rootUpto b i
def rootAt (b : Bridge) : Int := rootUpto b b.ports.length
theorem rootUpto_lt (b : Bridge) : ∀ i, -1 ≤ rootUpto b i ∧ rootUpto b i < i
  | 0 => by simp [rootUpto]
  | i + 1 => by
    have ih := rootUpto_lt b i
    unfold rootUpto
    split
    · unfold rootStep
      split
      · omega
      · split <;> omega
    · omega
def rootPort (b : Bridge) : Int × Bool := if b.ok then (rootAt b, decide (0 ≤ rootAt b)) else (-1, false)

def bridgeNew (id ports : Int) : Bridge × Bool := if (decide (1 ≤ id) && decide (id ≤ 9)) && (decide (1 ≤ ports) && decide (ports ≤ 4)) then (⟨id, List.replicate ports.toNat Port.zv⟩, true) else (⟨0, []⟩, false)
theorem Port.zv_ok : Port.zv.ok = true := by decide
theorem bridgeNew_ok {id ports : Int} (h : (bridgeNew id ports).2 = true) : (bridgeNew id ports).1.ok = true := by
  unfold bridgeNew at h ⊢
  split at h
  · rename_i h1
    rw [if_pos h1]
    simp at h1
    have hl : (List.replicate ports.toNat Port.zv).all Port.ok = true := by
      rw [List.all_eq_true]; intro p hp; rw [(List.mem_replicate.1 hp).2]; exact Port.zv_ok
    simp only [Bridge.ok, hl, Bool.true_and, List.length_replicate, Bool.and_eq_true, decide_eq_true_eq]
    omega
  · simp at h

theorem implBridgeNew (H : Heap) (id ports : Int) : Runs env 67 [.int id, .int ports] H fun v H' => ∃ l fp, v = .tup [.agg l, .lf (.b (bridgeNew id ports).2)] ∧ IsBridge H' l (bridgeNew id ports).1 fp ∧ Fresh H H' fp := by
  refine Runs.walk ok67 Try.func67 rfl (by simp [Try.f67]) fun Q hQ => ?_
  simp only [Try.f67, strip, stripL, stripI, stripG, chkT, tagsB, tagsL, tagD, addT, tagA, lookN, tagOp, elmT, ty22, ty23, ty28, ty29, ty37, ty38, ty39, ty40, ty41, ty50, ty51, ty52, ty53, ty72, ty81, ty141, ty189, Nat.reduceEqDiff, if_false, reduceIte, Option.getD_some, Option.getD_none, dstAt, dstOk, Nat.reduceLT, decide_true, if_true]
  simp [inRange]
  by_cases h1 : 1 ≤ id ∧ id ≤ 9
  · by_cases h2 : 1 ≤ ports ∧ ports ≤ 4
    · have hb : bridgeNew id ports = (⟨id, List.replicate ports.toNat Port.zv⟩, true) := by simp [bridgeNew, h1, h2]
      have k1 : ports * 80 ≤ 281474976710656 := by omega
      have k2 : ports ≤ 9223372036854775807 := by omega
      have k3 : 0 ≤ ports := by omega
      simp [h1, h2, makeSliceV, makeSliceR, newBlk, k1, k2, k3, inRange]
      refine hQ _ _ _ (by simp) ?_
      simp [Try.f67, hb]
      have ho : ∀ B : Option Blk, IsBridge (H ++ [B, some ⟨148, .wr, List.replicate ports.toNat Port.z⟩]) [.i .i64 id, .sl (some (H.length + 1, 0)) ports.toNat] ⟨id, List.replicate ports.toNat Port.zv⟩ [H.length + 1] := fun B =>
        ⟨some (H.length + 1, 0), by simp [Bridge.enc], Own.of (by simp [Port.enc])⟩
      exact (ho _).leave (Fresh.app H _ (by simp)) (by simp)
    · have hb : bridgeNew id ports = (⟨0, []⟩, false) := by
        unfold bridgeNew; rw [if_neg]; simp; intros; omega
      have h2' : (decide (1 ≤ ports) && decide (ports ≤ 4)) = false := by rw [Bool.and_eq_false_iff]; simp; omega
      simp [h1, h2', inRange]
      refine hQ _ _ _ (by simp) ?_
      simp [Try.f67, hb]
      exact ⟨[], ⟨none, rfl, Own.nil _ _⟩, Fresh.refl _⟩
  · have hb : bridgeNew id ports = (⟨0, []⟩, false) := by
      unfold bridgeNew; rw [if_neg]; simp; intros; omega
    rcases (show ¬ 1 ≤ id ∨ ¬ id ≤ 9 by omega) with h | h
    all_goals (simp [h]; refine hQ _ _ _ (by simp) ?_; simp [Try.f67, hb]; exact ⟨[], ⟨none, rfl, Own.nil _ _⟩, Fresh.refl _⟩)

theorem l1Min (H : Heap) (a b : Int) : run env 121 [.int a, .int b] H = some (.int (if a < b then a else b), H) := by
  refine run_walk ok121 Try.func121 rfl (by simp [Try.f121]) fun Q hQ => ?_
  simp only [Try.f121, strip, stripL, stripI, stripG, chkT, tagsB, tagsL, tagD, addT, tagA, lookN, tagOp, elmT, ty22, ty23, ty28, ty29, ty37, ty38, ty39, ty40, ty41, ty50, ty51, ty52, ty53, ty72, ty81, ty141, ty189, Nat.reduceEqDiff, if_false, reduceIte, Option.getD_some, Option.getD_none, dstAt, dstOk, Nat.reduceLT, decide_true, if_true]
  simp
  refine selS_intro (fun h => ?_) (fun h => ?_)
  all_goals (simp; refine hQ _ _ _ (by simp) ?_; simp at h; simp [Try.f121]; omega)

def Wire.ok (w : Wire) : Bool := (decide (0 ≤ w.frm) && decide (w.frm ≤ 1)) && (decide (0 ≤ w.life) && decide (w.life ≤ 100000)) && (decide (0 ≤ w.n) && decide (w.n ≤ 100000)) && (if w.ack then decide (w.inn = ⟨0, 0, ⟨0, 0, 0, 0⟩, 0, false⟩) else w.inn.ok)

def Box.ok (x : Box) : Bool := (bridgeNew x.id x.ports).2 && x.reg.ok && decide (x.two.length = 2) && decide (x.net.length ≤ 20) && x.two.all Minder.ok && x.net.all Wire.ok && decide ((x.gates.length : Int) = x.ports) && logOk x.line && decide (x.said.length ≤ 40)

theorem specNew_ok (id ports : Int) : (⟨id, List.replicate (if ports < 5 then ports else 5).toNat Port.zv⟩ : Bridge).ok = (bridgeNew id ports).2 := by
  have hl : ∀ n, (List.replicate n Port.zv).all Port.ok = true := fun n => by
    rw [List.all_eq_true]; intro p hp; rw [(List.mem_replicate.1 hp).2]; exact Port.zv_ok
  by_cases h : (1 ≤ id ∧ id ≤ 9) ∧ 1 ≤ ports ∧ ports ≤ 4
  · have h1 : bridgeNew id ports = (⟨id, List.replicate ports.toNat Port.zv⟩, true) := by unfold bridgeNew; rw [if_pos (by simp; omega)]
    rw [h1, if_pos (by omega)]
    simp only [Bridge.ok, hl, Bool.true_and, List.length_replicate, Bool.and_eq_true, decide_eq_true_eq]
    omega
  · have h1 : bridgeNew id ports = (⟨0, []⟩, false) := by unfold bridgeNew; rw [if_neg (by simp; intros; omega)]
    rw [h1, Bool.eq_false_iff]
    simp only [Bridge.ok, hl, Bool.true_and, List.length_replicate, ne_eq, Bool.and_eq_true, decide_eq_true_eq]
    intro h2
    split at h2 <;> omega
theorem specBridgeNew (H : Heap) (id ports : Int) : Runs env 64 [.int id, .int ports] H fun v H' => ∃ l fp, v = .tup [.agg l, .lf (.b (bridgeNew id ports).2)] ∧ IsBridge H' l (bridgeNew id ports).1 fp ∧ Fresh H H' fp := by
  obtain ⟨n, hn⟩ : ∃ n, n = (if ports < 5 then ports else 5).toNat := ⟨_, rfl⟩
  have hn5 : n ≤ 5 := by rw [hn]; split <;> omega
  obtain ⟨C, hC⟩ : ∃ C : Option Blk, C = some ⟨74, .wr, [[.i .i64 0, .sl none 0]]⟩ := ⟨_, rfl⟩
  have e1 := fun H a b => l1Min H a b
  refine Runs.walk ok64 Try.func64 rfl (by simp [Try.f64]) fun Q hQ => ?_
  simp only [Try.f64, strip, stripL, stripI, stripG, chkT, tagsB, tagsL, tagD, addT, tagA, lookN, tagOp, elmT, ty22, ty23, ty28, ty29, ty37, ty38, ty39, ty40, ty41, ty50, ty51, ty52, ty53, ty72, ty81, ty141, ty189, Nat.reduceEqDiff, if_false, reduceIte, Option.getD_some, Option.getD_none, dstAt, dstOk, Nat.reduceLT, decide_true, if_true]
  simp
  refine wpS_loop (fun j tm H' => ∃ i a' fp G, i + j = n ∧ tm 0 = .int id ∧ tm 1 = .int ports ∧ tm 4 = .ptr H.length 0 0 ∧ tm 6 = .ptr (H.length + 1) 0 0 ∧ tm 7 = .int i ∧ H' = H ++ C :: some ⟨74, .wr, [[.i .i64 id, .sl a' i]]⟩ :: G ∧
      Own (H ++ C :: some ⟨74, .wr, [[.i .i64 id, .sl a' i]]⟩ :: G) 148 a' (List.replicate i Port.z) fp ∧ ∀ k ∈ fp, H.length + 2 ≤ k) n (by rw [env_K]; omega)
    ⟨0, none, [], [], by simp, by simp, by simp, by simp, by simp, by simp, by simp [hC], Own.nil _ _, by simp⟩ ?_
  rintro j tm H' hj ⟨i, a', fp, G, hij, t0, t1, t4, t6, t7, rfl, ho, hfp⟩ Q2 hn2 he2 hr2
  simp [t0, t1, t4, t6, t7, e1]
  refine selS_intro (fun hc => ?_) (fun hc => ?_)
  · simp at hc
    have hin : i < n := by rw [hn]; omega
    have g4 : IntKind.i64.wrap ((i : Int) + 1) = (i : Int) + 1 := wrap64 (by omega) (by omega)
    simp [t0, t1, t4, t6, t7]
    refine stpL_append (rows := List.replicate i Port.z) (ys := [Port.z]) (by simpa using ho.app _) (Sl.of (by simp)) rfl rfl rfl (by simp) (by simp; omega) (by simp) rfl ?_
    intro a2 H2 f2 o2 hk2 hf2
    obtain ⟨G2, rfl, -, -⟩ := Keep.cut (L := [_, _]) hk2 (by intro k hk; have := hfp k hk; simp; omega)
    have lo2 : ∀ k ∈ f2, H.length + 2 ≤ k := fun k hk => by
      rcases hf2 k hk with h | h
      · exact hfp k h
      · simp at h; omega
    have o3 := fun y => o2.keep (Keep.set (id := H.length + 1) _ y) (fun k hk => by have := lo2 k hk; simp; omega)
    simp at o3
    simp [t0, t1, t4, t6, t7, g4]
    refine hn2 (j - 1) _ _ (by omega) ⟨i + 1, a2, f2, G2, by omega, by simp [t0], by simp [t1], by simp [t4], by simp [t6], by simp, rfl, ?_, lo2⟩
    rw [List.replicate_succ']
    exact o3 _
  · simp at hc
    have hin : i = n := by rw [hn]; omega
    subst hin
    have hd : RdBridge (H ++ C :: some ⟨74, .wr, [[.i .i64 id, .sl a' i]]⟩ :: G) [.i .i64 id, .sl a' i] ⟨id, List.replicate i Port.zv⟩ := ⟨a', by simp [Bridge.enc], by simpa [Port.enc] using ho.sl⟩
    have e2 := specBridgeOk_is hd (by simp [Bridge.sz]; omega)
    have hok := specNew_ok id ports
    rw [← hn] at hok
    rw [hok] at e2
    simp [t0, t1, t4, t6, t7]
    refine he2 _ _ _ ?_
    simp [t4, t6, e2]
    refine selS_intro (fun hd => ?_) (fun hd => ?_)
    · simp at hd
      simp [t4, t6, hC]
      refine hQ _ _ _ (by simp) ?_
      have hb : bridgeNew id ports = (⟨0, []⟩, false) := by
        unfold bridgeNew at hd ⊢
        split at hd
        · cases hd
        · rename_i h; rw [if_neg h]
      simp [Try.f64, hb, t4]
      exact ⟨[], ⟨none, rfl, Own.nil _ _⟩, Fresh.refl _⟩
    · simp at hd
      simp [t4, t6, hC]
      refine hQ _ _ _ (by simp) ?_
      have hb : bridgeNew id ports = (⟨id, List.replicate i Port.zv⟩, true) := by
        unfold bridgeNew at hd ⊢
        split at hd
        · rename_i h
          rw [if_pos h]
          simp at h
          have : ports.toNat = i := by rw [hn, if_pos (by omega)]
          rw [this]
        · cases hd
      simp [Try.f64, hb, t4]
      have o5 := fun y => ho.keep (Keep.set (id := H.length) _ y) (fun k hk => by have := hfp k hk; simp; omega)
      simp at o5
      exact IsBridge.leave ⟨a', by simp [Bridge.enc], by simpa [Port.enc] using o5 _⟩ (Fresh.app H _ fun k hk => by have := hfp k hk; omega) (by simp)

theorem l14Net {H : Heap} {l : List Lf} {x : Box} (h : RdBox H l x) (hn : x.sz ≤ 2000000) : run env 124 [.agg l] H = some (.bool (x.net.all Wire.ok && decide ((x.net.length : Int) ≤ 20)), H) := by
  obtain ⟨q0, _, q2, q3, q4, rfl, -, ⟨a1, rfl, r1⟩, -, -, -⟩ := h
  unfold Box.sz at hn
  have e1 := fun H x => specInOk H x
  have e2 := fun H (b1 b2 c1 c2 c3 c4 b4 : Int) (b5 : Bool) => specInOk H ⟨b1, b2, ⟨c1, c2, c3, c4⟩, b4, b5⟩
  simp only [In.enc] at e2
  obtain ⟨B, hB⟩ : ∃ B : Option Blk, B = some ⟨43, .wr, [x.enc q0 (.sl a1 x.net.length) q2 q3 q4]⟩ := ⟨_, rfl⟩
  refine run_walk ok124 Try.func124 rfl (by simp [Try.f124]) fun Q hQ => ?_
  simp only [Try.f124, strip, stripL, stripI, stripG, chkT, tagsB, tagsL, tagD, addT, tagA, lookN, tagOp, elmT, ty22, ty23, ty28, ty29, ty37, ty38, ty39, ty40, ty41, ty50, ty51, ty52, ty53, ty72, ty81, ty141, ty189, Nat.reduceEqDiff, if_false, reduceIte, Option.getD_some, Option.getD_none, dstAt, dstOk, Nat.reduceLT, decide_true, if_true]
  simp
  refine wpS_loop (fun j tm H' => ∃ i T, i + j = x.net.length ∧ tm 1 = .ptr H.length 0 0 ∧ tm 3 = .int i ∧ H' = H ++ B :: T ∧ ∀ m ∈ x.net.take i, m.ok = true) x.net.length (by rw [env_K]; omega)
    ⟨0, _, by simp, by simp, by simp, by simp [hB]; rfl, by simp⟩ ?_
  rintro j tm H' hj ⟨i, T, hij, t1, t3, rfl, hall⟩ Q2 hn2 he2 hr2
  simp [t1, t3, hB, Box.enc, builtinV, pureB, lenV]
  refine selS_intro (fun hc => ?_) (fun hc => ?_)
  · simp at hc
    obtain ⟨id2, r, bl, rfl, hbl, hbe, hrow⟩ := r1 i _ (by simp [hc]; rfl)
    have hid := blkAt_len hbl
    have g4 : IntKind.i64.wrap ((i : Int) + 1) = (i : Int) + 1 := wrap64 (by omega) (by omega)
    have hbad : x.net[i].ok = false → ∀ tm, tm 2 = .bool false → ∀ T', Q2 .ret tm (H ++ some ⟨43, .wr, [x.enc q0 (.sl (some (id2, r)) x.net.length) q2 q3 q4]⟩ :: T') := by
      intro hx tm h2 T'
      refine hr2 _ _ ?_
      simp
      refine hQ _ _ _ (by simp) ?_
      have : x.net.all Wire.ok = false := List.all_eq_false.2 ⟨x.net[i], by simp, by simp [hx]⟩
      simp [Try.f124, h2, this]
    have hgood : x.net[i].ok = true → ∀ tm, tm 1 = .ptr H.length 0 0 → tm 3 = .int ((i : Int) + 1) → ∀ T', Q2 .normal tm (H ++ some ⟨43, .wr, [x.enc q0 (.sl (some (id2, r)) x.net.length) q2 q3 q4]⟩ :: T') := by
      intro hx tm a1 a3 T'
      refine hn2 (j - 1) _ _ (by omega) ⟨i + 1, T', by omega, a1, by simpa using a3, by rw [hB], ?_⟩
      intro m hm
      rw [List.take_add_one, List.getElem?_eq_getElem hc, List.mem_append] at hm
      rcases hm with hm | hm
      · exact hall m hm
      · simp at hm
        rw [hm]
        exact hx
    simp only [Box.enc] at hbad hgood
    obtain ⟨w, hw⟩ : ∃ w, w = x.net[i] := ⟨_, rfl⟩
    rw [← hw] at hbad hgood
    obtain ⟨w1, w2, w3, w4, ⟨b1, b2, ⟨c1, c2, c3, c4⟩, b4, b5⟩⟩ := w
    simp [t1, t3, indexAddrV, elemIs, hid, hbl, hbe, hc, hrow, ← hw, Wire.enc, l1In]
    repeat' (first | (refine gdL_t (fun h => ?_) (fun h => ?_) <;> simp [h, t1, t3, l1In, e2, g4]) | (refine gdL_f (fun h => ?_) (fun h => ?_) <;> simp [h, t1, t3, l1In, e2, g4]) | (refine selS_intro (fun h => ?_) (fun h => ?_) <;> simp [h, t1, t3, l1In, e2, g4]))
    iterate 3 (refine hbad ?_ _ (by simp) _; rw [Wire.ok]; clear hbad hgood hQ hn2 he2 hr2 e1 e2; simp_all; try omega)
    · refine hbad ?_ _ (by simp) _
      rw [Wire.ok]; clear hbad hgood hQ hn2 he2 hr2 e1 e2; simp_all; try (intros; simp_all)
    · refine hgood ?_ _ (by simp [t1]) (by simp) _
      rw [Wire.ok]; clear hbad hgood hQ hn2 he2 hr2 e1 e2; simp_all; try (intros; simp_all)
    · refine hbad ?_ _ (by simp) _
      rw [Wire.ok]; clear hbad hgood hQ hn2 he2 hr2 e1 e2; simp_all; try (intros; simp_all)
    · refine hgood ?_ _ (by simp [t1]) (by simp) _
      rw [Wire.ok]; clear hbad hgood hQ hn2 he2 hr2 e1 e2; simp_all; try (intros; simp_all)
  · simp at hc
    rw [List.take_of_length_le (by omega)] at hall
    have halln : x.net.all Wire.ok = true := List.all_eq_true.2 hall
    simp [t1, t3]
    refine he2 _ _ _ ?_
    simp [t1, hB, Box.enc, builtinV, pureB, lenV]
    refine hQ _ _ _ (by simp) ?_
    simp [Try.f124, halln]

theorem specBoxOk_is {H : Heap} {l : List Lf} {x : Box} (h : RdBox H l x) (hn : x.sz ≤ 2000000) : run env 66 [.agg l] H = some (.bool x.ok, H) := by
  have hR := h
  obtain ⟨_, _, _, _, _, rfl, ⟨a0, rws, rfl, hs, hlen, hat⟩, ⟨a1, rfl, r1⟩, ⟨a2, rfl, r2⟩, ⟨a3, rfl, r3⟩, ⟨a4, rfl, r4⟩⟩ := h
  have hn0 := hn
  unfold Box.sz at hn
  have hl0 := MinderS.sz_len x.two
  have er := fun H => specRegOk H x.reg
  have el := fun G => specLogOk (H ++ G) a3 x.line (r3.app G) (by omega)
  have en := fun G => l14Net (hR.app G) hn0
  simp only [Reg.enc] at er
  simp only [Box.enc] at en
  refine run_walk ok66 Try.func66 rfl (by simp [Try.f66]) fun Q hQ => ?_
  simp only [Try.f66, strip, stripL, stripI, stripG, chkT, tagsB, tagsL, tagD, addT, tagA, lookN, tagOp, elmT, ty22, ty23, ty28, ty29, ty37, ty38, ty39, ty40, ty41, ty50, ty51, ty52, ty53, ty72, ty81, ty141, ty189, Nat.reduceEqDiff, if_false, reduceIte, Option.getD_some, Option.getD_none, dstAt, dstOk, Nat.reduceLT, decide_true, if_true]
  have bad : x.ok = false → ∀ tm H', (∃ G, H' = H ++ G) → tm 2 = .bool false → Q .ret tm H' := by
    rintro hx tm _ ⟨G, rfl⟩ h4
    refine hQ _ _ _ (by simp) ?_
    simp [Try.f66, h4, hx]
  simp [Box.enc]
  refine stpL_runs (specBridgeNew _ _ _) ?_
  rintro _ _ ⟨lb, fb, rfl, ob, ⟨⟨G0, rfl⟩, -⟩⟩
  have hbL := ob.len
  by_cases h2 : x.two.length = 2
  · obtain ⟨m0, m1, hm⟩ : ∃ m0 m1, x.two = [m0, m1] := by
      match hx : x.two, h2 with
      | [m0, m1], _ => exact ⟨m0, m1, rfl⟩
    obtain ⟨l0, l1, hrw⟩ : ∃ l0 l1, rws = [l0, l1] := by
      match hx : rws, (by rw [hlen, h2] : rws.length = 2) with
      | [l0, l1], _ => exact ⟨l0, l1, rfl⟩
    subst hrw
    rw [hm] at hat
    obtain ⟨id2, r, bl, rfl, hbl, hbe, hrow0⟩ := hs 0 l0 rfl
    obtain ⟨id3, r3', bl3, hx3, hbl3, hbe3, hrow1⟩ := hs 1 l1 rfl
    cases hx3
    rw [hbl] at hbl3
    injection hbl3 with hbl3
    subst hbl3
    have hid := blkAt_len hbl
    have he0 := hat 0 l0 m0 rfl rfl
    have he1 := hat 1 l1 m1 rfl rfl
    have hs0 := MinderS.sz_at (xs := x.two) (x := m0) (by simp [hm])
    have hs1 := MinderS.sz_at (xs := x.two) (x := m1) (by simp [hm])
    have e0 := fun G => specMinderOk_is (he0.app G) (by omega)
    have e1 := fun G => specMinderOk_is (he1.app G) (by omega)
    have hL0 := he0.len
    have hT0 : l0.take l0.length = l0 := List.take_length
    rw [hL0] at hT0
    have hL1 := he1.len
    have hT1 : l1.take l1.length = l1 := List.take_length
    rw [hL1] at hT1
    have hbase : x.ok = ((bridgeNew x.id x.ports).2 && x.reg.ok && m0.ok && m1.ok && (x.net.all Wire.ok && decide ((x.net.length : Int) ≤ 20)) && decide ((x.gates.length : Int) = x.ports) && logOk x.line && decide ((x.said.length : Int) ≤ 40)) := by
      have e20 : decide (x.net.length ≤ 20) = decide ((x.net.length : Int) ≤ 20) := by rw [decide_eq_decide]; omega
      have e40 : decide (x.said.length ≤ 40) = decide ((x.said.length : Int) ≤ 40) := by rw [decide_eq_decide]; omega
      have ea : x.two.all Minder.ok = (m0.ok && m1.ok) := by rw [hm]; simp
      have e2 : decide (x.two.length = 2) = true := by simpa using h2
      unfold Box.ok
      rw [e20, e40, ea, e2]
      cases (bridgeNew x.id x.ports).2 <;> cases x.reg.ok <;> cases m0.ok <;> cases m1.ok <;> cases x.net.all Wire.ok <;> cases decide ((x.net.length : Int) ≤ 20) <;> rfl
    simp only [Nat.add_zero] at hrow0
    simp only [h2] at en
    simp [hbL, er, h2, builtinV, pureB, lenV, indexAddrV, elemIs, hid, hbl, hbe, hrow0, hrow1, hL0, hT0, hL1, hT1, e0, e1]
    repeat' (first | (refine gdL_t (fun h => ?_) (fun h => ?_) <;> simp [h, hbL, er, h2, builtinV, pureB, lenV, indexAddrV, elemIs, hid, hbl, hbe, hrow0, hrow1, hL0, hT0, hL1, hT1, e0, e1, en, el]) | (refine gdL_f (fun h => ?_) (fun h => ?_) <;> simp [h, hbL, er, h2, builtinV, pureB, lenV, indexAddrV, elemIs, hid, hbl, hbe, hrow0, hrow1, hL0, hT0, hL1, hT1, e0, e1, en, el]) | (refine selS_intro (fun h => ?_) (fun h => ?_) <;> simp [h, hbL, er, h2, builtinV, pureB, lenV, indexAddrV, elemIs, hid, hbl, hbe, hrow0, hrow1, hL0, hT0, hL1, hT1, e0, e1, en, el]))
    all_goals (refine hQ _ _ _ (by simp) ?_)
    all_goals (rw [hbase])
    all_goals (clear hbase; simp [Try.f66])
    all_goals (clear hQ; simp_all)
    all_goals (try omega)
    all_goals (try (intro ha hb; have := h ha; omega))
  · have hx : x.ok = false := by simp [Box.ok, h2]
    have h2i : ¬ (x.two.length : Int) = 2 := by omega
    simp [hbL, er, h2i, builtinV, pureB, lenV]
    repeat' (first | (refine gdL_t (fun h => ?_) (fun h => ?_) <;> simp [h, hbL, er, h2i, builtinV, pureB, lenV]) | (refine gdL_f (fun h => ?_) (fun h => ?_) <;> simp [h, hbL, er, h2i, builtinV, pureB, lenV]) | (refine selS_intro (fun h => ?_) (fun h => ?_) <;> simp [h, hbL, er, h2i, builtinV, pureB, lenV]))
    all_goals exact bad hx _ _ ⟨_, rfl⟩ (by simp)

def hopsOk (h : Int) : Bool := decide (0 ≤ h) && decide (h ≤ 8)
def claimP (p : Port) (v : Vec) (h : Int) : Port :=
  if (p.ok && p.up && v.ok && hopsOk h) = false then p
  else if (p.has && better p.vec v && !(decide (v.bridge = p.vec.bridge) && decide (v.port = p.vec.port))) = true then p
  else ⟨p.up, true, v, h, 3, p.role, p.wait, p.opn⟩
theorem claimP_ok {p : Port} (v : Vec) (h : Int) (hp : p.ok = true) : (claimP p v h).ok = true := by
  unfold claimP
  split
  · exact hp
  · rename_i h1
    split
    · exact hp
    · have h2 : p.ok = true ∧ p.up = true ∧ v.ok = true ∧ hopsOk h = true := by
        cases a : p.ok <;> cases b : p.up <;> cases c : v.ok <;> cases d : hopsOk h <;> simp_all
      obtain ⟨-, h3, h4, h5⟩ := h2
      simp [hopsOk] at h5
      simp [Port.ok] at hp ⊢
      simp_all
theorem claimP_up (p : Port) (v : Vec) (h : Int) : (claimP p v h).up = p.up := by unfold claimP; split <;> (try split) <;> rfl

def fadeP (p : Port) : Port := if (p.has && p.ok) = false then p else if p.left = 1 then ⟨p.up, false, Vec.zv, 0, 0, p.role, p.wait, p.opn⟩ else ⟨p.up, p.has, p.vec, p.hops, p.left - 1, p.role, p.wait, p.opn⟩
theorem fadeP_ok {p : Port} (hp : p.ok = true) : (fadeP p).ok = true := by
  unfold fadeP
  split
  · exact hp
  · rename_i h1
    simp [Port.ok] at h1 hp ⊢
    split <;> simp_all <;> omega
theorem fadeP_rest (p : Port) : (fadeP p).up = p.up ∧ (fadeP p).role = p.role ∧ (fadeP p).wait = p.wait ∧ (fadeP p).opn = p.opn := by
  unfold fadeP; split <;> (try split) <;> simp

def turnW (p : Port) (role : Int) : Int := if role = 3 then 0 else if p.role = 3 then 4 else p.wait
def turnP (p : Port) (role : Int) : Port := if (p.ok && p.up && (decide (1 ≤ role) && decide (role ≤ 3))) = false then p else ⟨p.up, p.has, p.vec, p.hops, p.left, role, turnW p role, openBy role (turnW p role)⟩
theorem turnP_ok {p : Port} (role : Int) (hp : p.ok = true) : (turnP p role).ok = true := by
  unfold turnP
  split
  · exact hp
  · rename_i h1
    have hw : 0 ≤ turnW p role ∧ turnW p role ≤ 4 := by
      simp [Port.ok] at hp
      unfold turnW; split
      · omega
      · split <;> omega
    simp [Port.ok] at h1 hp ⊢
    simp_all
    omega
theorem turnP_rest (p : Port) (role : Int) : (turnP p role).up = p.up ∧ (turnP p role).has = p.has ∧ (turnP p role).vec = p.vec ∧ (turnP p role).hops = p.hops ∧ (turnP p role).left = p.left := by
  unfold turnP; split <;> simp

/-- What a tick makes of a port that is right. -/
def tickW (q : Port) : Int := if (decide (q.role = 1) || decide (q.role = 2)) && decide (0 < q.wait) then q.wait - 1 else q.wait
def tickP (p : Port) : Port := ⟨(fadeP p).up, (fadeP p).has, (fadeP p).vec, (fadeP p).hops, (fadeP p).left, (fadeP p).role, tickW (fadeP p), openBy (fadeP p).role (tickW (fadeP p))⟩
theorem tickP_ok {p : Port} (hp : p.ok = true) : (tickP p).ok = true := by
  have h := fadeP_ok hp
  have hw : 0 ≤ tickW (fadeP p) ∧ tickW (fadeP p) ≤ 4 := by
    simp [Port.ok] at h
    unfold tickW; split <;> simp_all <;> omega
  unfold tickP
  simp [Port.ok] at h ⊢
  simp_all

/-- The first i elements turned. -/
def mixL {α : Type} (f : Nat → α → α) (xs : List α) (i : Nat) : List α := xs.mapIdx fun k x => if k < i then f k x else x
@[simp] theorem mixL_len {α : Type} (f : Nat → α → α) (xs : List α) (i : Nat) : (mixL f xs i).length = xs.length := by simp [mixL]
theorem mixL_zero {α : Type} (f : Nat → α → α) (xs : List α) : mixL f xs 0 = xs := by
  refine List.ext_getElem? fun k => ?_
  simp [mixL, List.getElem?_mapIdx]
theorem mixL_all {α : Type} (f : Nat → α → α) (xs : List α) {i : Nat} (h : xs.length ≤ i) : mixL f xs i = xs.mapIdx f := by
  refine List.ext_getElem? fun k => ?_
  simp only [mixL, List.getElem?_mapIdx]
  cases hx : xs[k]? with
  | none => rfl
  | some x =>
    have := (List.getElem?_eq_some_iff.1 hx).1
    simp; omega
theorem mixL_at {α : Type} (f : Nat → α → α) (xs : List α) {i k : Nat} (h : i ≤ k) : (mixL f xs i)[k]? = xs[k]? := by
  simp only [mixL, List.getElem?_mapIdx]
  cases hx : xs[k]? with
  | none => rfl
  | some x => simp; omega
theorem mixL_step {α : Type} (f : Nat → α → α) (xs : List α) {i : Nat} (h : i < xs.length) : (mixL f xs i).set i (f i xs[i]) = mixL f xs (i + 1) := by
  refine List.ext_getElem? fun k => ?_
  rw [List.getElem?_set]
  split
  · rename_i he
    subst he
    simp [mixL, h]
  · rename_i he
    simp only [mixL, List.getElem?_mapIdx]
    cases hx : xs[k]? with
    | none => rfl
    | some x =>
      simp only [Option.map_some]
      congr 1
      split
      · rw [if_pos (by omega)]
      · rw [if_neg (by omega)]
theorem mixL_same {α : Type} (f : Nat → α → α) (xs : List α) {i : Nat} (h : i < xs.length) (he : f i xs[i] = xs[i]) : mixL f xs (i + 1) = mixL f xs i := by
  rw [← mixL_step f xs h, he]
  refine List.ext_getElem? fun k => ?_
  rw [List.getElem?_set]
  split
  · rename_i he
    subst he
    rw [mixL_at f xs (Nat.le_refl _), List.getElem?_eq_getElem h]
    simp [h]
  · rfl

/-- Elements made one behind the other. -/
def upto {α : Type} (f : Nat → List α) : Nat → List α
  | 0 => []
  | i + 1 => upto f i ++ f i
theorem upto_len {α : Type} {f : Nat → List α} (h : ∀ i, (f i).length ≤ 1) : ∀ i, (upto f i).length ≤ i
  | 0 => by simp [upto]
  | i + 1 => by
    have := upto_len h i
    have := h i
    simp [upto]; omega
theorem upto_all {α : Type} {f : Nat → List α} {p : α → Prop} (h : ∀ i, ∀ x ∈ f i, p x) : ∀ i, ∀ x ∈ upto f i, p x
  | 0 => by simp [upto]
  | i + 1 => by
    intro x hx
    rw [upto, List.mem_append] at hx
    rcases hx with hx | hx
    · exact upto_all h i x hx
    · exact h i x hx

def keyP (p : Port) : Bool × Vec × Int := (p.has, p.vec, p.hops)
theorem rootSkip_key {b c : Bridge} {p q : Port} (hi : b.id = c.id) (h : keyP p = keyP q) : rootSkip b p = rootSkip c q := by
  simp only [keyP, Prod.mk.injEq] at h
  unfold rootSkip
  rw [h.1, h.2.1, h.2.2, hi]
theorem getD_key {xs ys : List Port} (h : xs.map keyP = ys.map keyP) (k : Nat) : keyP (xs.getD k default) = keyP (ys.getD k default) := by
  have hg : (xs[k]?).map keyP = (ys[k]?).map keyP := by rw [← List.getElem?_map, ← List.getElem?_map, h]
  rw [List.getD_eq_getElem?_getD, List.getD_eq_getElem?_getD]
  cases hb : xs[k]? <;> cases hc : ys[k]? <;> simp [hb, hc] at hg ⊢
  exact hg
theorem rootUpto_key {b c : Bridge} (hi : b.id = c.id) (h : b.ports.map keyP = c.ports.map keyP) : ∀ i, rootUpto b i = rootUpto c i
  | 0 => rfl
  | i + 1 => by
    have ih := rootUpto_key hi h i
    have hg : (b.ports[i]?).map keyP = (c.ports[i]?).map keyP := by rw [← List.getElem?_map, ← List.getElem?_map, h]
    rw [rootUpto, rootUpto]
    cases hb : b.ports[i]? <;> cases hc : c.ports[i]? <;> simp [hb, hc] at hg
    · exact ih
    · rename_i p q
      have hv := getD_key h (rootUpto c i).toNat
      have h2 := rootSkip_key hi hg
      simp only [keyP, Prod.mk.injEq] at hv hg
      simp only [rootStep, h2, ih, hv.2.1, hg.2.1]
theorem rootAt_key {b c : Bridge} (hi : b.id = c.id) (h : b.ports.map keyP = c.ports.map keyP) : rootAt b = rootAt c := by
  have hl : b.ports.length = c.ports.length := by simpa using congrArg List.length h
  unfold rootAt
  rw [rootUpto_key hi h, hl]
def ownV (b : Bridge) (port : Int) : Vec := if rootAt b < 0 then ⟨b.id, 0, b.id, port⟩ else ⟨(b.ports.getD (rootAt b).toNat default).vec.root, (b.ports.getD (rootAt b).toNat default).vec.cost + 1, b.id, port⟩
def hopsB (b : Bridge) : Int := if rootAt b < 0 then 0 else (b.ports.getD (rootAt b).toNat default).hops + 1
theorem ownV_key {b c : Bridge} (hi : b.id = c.id) (h : b.ports.map keyP = c.ports.map keyP) (port : Int) : ownV b port = ownV c port := by
  have hv := getD_key h (rootAt c).toNat
  simp only [keyP, Prod.mk.injEq] at hv
  unfold ownV
  rw [rootAt_key hi h, hi, hv.2.1]
theorem hopsB_key {b c : Bridge} (hi : b.id = c.id) (h : b.ports.map keyP = c.ports.map keyP) : hopsB b = hopsB c := by
  have hv := getD_key h (rootAt c).toNat
  simp only [keyP, Prod.mk.injEq] at hv
  unfold hopsB
  rw [rootAt_key hi h, hv.2.2]
theorem Port.ok_bd {p : Port} (h : p.ok = true) : 0 ≤ p.vec.cost ∧ p.vec.cost ≤ 20 ∧ 0 ≤ p.hops ∧ p.hops ≤ 8 := by
  obtain ⟨a1, a2, ⟨b1, b2, b3, b4⟩, a4, a5, a6, a7, a8⟩ := p
  cases a2
  · simp [Port.ok] at h
    simp only
    omega
  · simp [Port.ok, Vec.ok] at h
    simp only
    omega
theorem Bridge.ok_all {b : Bridge} (h : b.ok = true) : (∀ p ∈ b.ports, p.ok = true) ∧ 1 ≤ b.id ∧ b.id ≤ 9 ∧ 1 ≤ b.ports.length ∧ b.ports.length ≤ 4 := by
  simp [Bridge.ok] at h
  refine ⟨h.1.1, ?_⟩
  omega
theorem Bridge.ok_of {b : Bridge} (h1 : ∀ p ∈ b.ports, p.ok = true) (h2 : 1 ≤ b.id ∧ b.id ≤ 9 ∧ 1 ≤ b.ports.length ∧ b.ports.length ≤ 4) : b.ok = true := by
  simp [Bridge.ok]
  refine ⟨⟨h1, ?_⟩, ?_⟩ <;> omega
theorem Bridge.ok_at {b : Bridge} (h : b.ok = true) {i : Nat} (hi : i < b.ports.length) : b.ports[i].ok = true := (Bridge.ok_all h).1 _ (List.getElem_mem hi)

def tickB (b : Bridge) : Bridge := ⟨b.id, b.ports.mapIdx fun _ p => tickP p⟩
theorem mapIdx_ok {f : Nat → Port → Port} {b : Bridge} (h : b.ok = true) (hf : ∀ i p, p.ok = true → (f i p).ok = true) : (⟨b.id, b.ports.mapIdx f⟩ : Bridge).ok = true := by
  obtain ⟨h1, h2⟩ := Bridge.ok_all h
  refine Bridge.ok_of (fun p hp => ?_) (by simpa using h2)
  rw [List.mem_mapIdx] at hp
  obtain ⟨i, hi, rfl⟩ := hp
  exact hf _ _ (h1 _ (List.getElem_mem hi))
theorem tickB_ok {b : Bridge} (h : b.ok = true) : (tickB b).ok = true := mapIdx_ok h fun _ _ hp => tickP_ok hp

def roleB (b : Bridge) (i : Nat) (p : Port) : Int := if (i : Int) = rootAt b then 1 else if (p.has && better p.vec (ownV b i)) = true then 3 else 2
def decP (b : Bridge) (i : Nat) (p : Port) : Port := if p.up = true then turnP p (roleB b i p) else p
def decideB (b : Bridge) : Bridge := ⟨b.id, b.ports.mapIdx (decP b)⟩
theorem decP_key (b : Bridge) (i : Nat) (p : Port) : keyP (decP b i p) = keyP p := by
  unfold decP
  split
  · have := turnP_rest p (roleB b i p)
    simp [keyP, this]
  · rfl
theorem decP_ok (b : Bridge) (i : Nat) {p : Port} (h : p.ok = true) : (decP b i p).ok = true := by
  unfold decP
  split
  · exact turnP_ok _ h
  · exact h
theorem decideB_ok {b : Bridge} (h : b.ok = true) : (decideB b).ok = true := mapIdx_ok h fun i _ hp => decP_ok b i hp
/-- The bridge of which the first ports are decided. -/
def decU (b : Bridge) (i : Nat) : Bridge := ⟨b.id, mixL (decP b) b.ports i⟩
theorem decU_key (b : Bridge) (i : Nat) : (decU b i).ports.map keyP = b.ports.map keyP := by
  refine List.ext_getElem? fun k => ?_
  simp only [decU, mixL, List.getElem?_map, List.getElem?_mapIdx, Option.map_map]
  cases b.ports[k]? with
  | none => rfl
  | some p =>
    simp only [Option.map_some, Function.comp]
    congr 1
    split
    · exact decP_key _ _ _
    · rfl
theorem decU_ok {b : Bridge} (h : b.ok = true) (i : Nat) : (decU b i).ok = true := mapIdx_ok (f := fun k x => if k < i then decP b k x else x) h fun k p hp => by
  split
  · exact decP_ok b k hp
  · exact hp
theorem decideB_key (b : Bridge) : (decideB b).ports.map keyP = b.ports.map keyP := by
  have := decU_key b b.ports.length
  unfold decU at this
  rwa [mixL_all _ _ (Nat.le_refl _)] at this

def upPort : Port := ⟨true, false, ⟨0, 0, 0, 0⟩, 0, 0, 3, 0, false⟩
def inB (b : Bridge) (x : In) : Bridge := if x.kind = 1 then ⟨b.id, b.ports.set x.port.toNat (claimP (b.ports.getD x.port.toNat default) x.vec x.hops)⟩ else if x.kind = 2 then tickB b else ⟨b.id, b.ports.set x.port.toNat (if x.up = true then upPort else Port.zv)⟩
/-- A link that is as it was: nothing turns. -/
def quiet (b : Bridge) (x : In) : Prop := x.kind = 3 ∧ (b.ports.getD x.port.toNat default).up = x.up
instance (b : Bridge) (x : In) : Decidable (quiet b x) := inferInstanceAs (Decidable (_ ∧ _))
def nextB (b : Bridge) (x : In) : Bridge := if quiet b x then b else decideB (inB b x)
theorem inB_id (b : Bridge) (x : In) : (inB b x).id = b.id := by unfold inB; split <;> (try split) <;> rfl
theorem inB_len (b : Bridge) (x : In) : (inB b x).ports.length = b.ports.length := by unfold inB; split <;> (try split) <;> simp [tickB]
theorem set_ok {b : Bridge} (h : b.ok = true) {k : Nat} {p : Port} (hp : p.ok = true) : (⟨b.id, b.ports.set k p⟩ : Bridge).ok = true := by
  obtain ⟨h1, h2⟩ := Bridge.ok_all h
  refine Bridge.ok_of (fun q hq => ?_) (by simpa using h2)
  rcases List.mem_or_eq_of_mem_set hq with hq | rfl
  · exact h1 _ hq
  · exact hp
theorem upPort_ok : upPort.ok = true := by decide
theorem zv_ok : Port.zv.ok = true := by decide
theorem inB_ok {b : Bridge} {x : In} (h : b.ok = true) (hk : x.port.toNat < b.ports.length) : (inB b x).ok = true := by
  unfold inB
  split
  · refine set_ok h (claimP_ok _ _ ?_)
    simp only [List.getD, List.getElem?_eq_getElem hk, Option.getD_some]
    exact Bridge.ok_at h hk
  · split
    · exact tickB_ok h
    · refine set_ok h ?_
      split
      · exact upPort_ok
      · exact zv_ok
theorem nextB_ok {b : Bridge} {x : In} (h : b.ok = true) (hk : x.port.toNat < b.ports.length) : (nextB b x).ok = true := by
  unfold nextB
  split
  · exact h
  · exact decideB_ok (inB_ok h hk)
theorem nextB_id (b : Bridge) (x : In) : (nextB b x).id = b.id := by
  unfold nextB; split
  · rfl
  · simp [decideB, inB_id]
theorem nextB_len (b : Bridge) (x : In) : (nextB b x).ports.length = b.ports.length := by
  unfold nextB; split
  · rfl
  · simp [decideB, inB_len]
theorem In.ok_kind {x : In} (h : x.ok = true) : (x.kind = 1 ∨ x.kind = 2 ∨ x.kind = 3) ∧ 0 ≤ x.port ∧ x.port ≤ 3 := by
  unfold In.ok at h
  split at h
  · rename_i h1
    simp at h
    exact ⟨.inl h1, h.1.1.1⟩
  · split at h
    · rename_i h1
      simp at h
      exact ⟨.inr (.inr h1), h.1.1⟩
    · simp at h
      rw [h]
      decide

def gateAt (b c : Bridge) (i : Nat) : List Out := match b.ports[i]?, c.ports[i]? with
  | some p, some q => if q.opn = p.opn then [] else [⟨2, i, ⟨0, 0, 0, 0⟩, 0, q.opn⟩]
  | _, _ => []
def claimAt (c : Bridge) (i : Nat) : List Out := match c.ports[i]? with
  | some q => if q.role = 2 then [⟨1, i, ownV c i, hopsB c, false⟩] else []
  | none => []
theorem gateAt_len (b c : Bridge) (i : Nat) : (gateAt b c i).length ≤ 1 := by
  unfold gateAt; split
  · split <;> simp
  · simp
theorem claimAt_len (c : Bridge) (i : Nat) : (claimAt c i).length ≤ 1 := by
  unfold claimAt; split
  · split <;> simp
  · simp
theorem gateAt_same (b : Bridge) : ∀ i, upto (gateAt b b) i = []
  | 0 => rfl
  | i + 1 => by
    rw [upto, gateAt_same b i]
    unfold gateAt
    cases b.ports[i]? <;> simp
def outsB (b c : Bridge) (x : In) : List Out := upto (gateAt b c) b.ports.length ++ (if x.kind = 2 then upto (claimAt c) b.ports.length else [])
def reactB (b : Bridge) (x : In) : Bridge × List Out := if (b.ok && x.ok && decide (x.port < b.ports.length)) = true then (nextB b x, outsB b (nextB b x) x) else (b, [])
theorem reactB_yes {b : Bridge} {x : In} (h1 : b.ok = true) (h2 : x.ok = true) (h3 : x.port < b.ports.length) : reactB b x = (nextB b x, outsB b (nextB b x) x) := by simp [reactB, h1, h2, h3]
theorem reactB_no {b : Bridge} {x : In} (h : ¬ (b.ok = true ∧ x.ok = true ∧ x.port < b.ports.length)) : reactB b x = (b, []) := by
  unfold reactB
  rw [if_neg]
  simp
  intro h1 h2
  exact Int.not_lt.1 fun h3 => h ⟨h1, h2, h3⟩
theorem quiet_outs {b : Bridge} {x : In} (h : quiet b x) : outsB b (nextB b x) x = [] := by
  unfold outsB nextB
  rw [if_pos h, gateAt_same, if_neg (by rw [h.1]; decide)]
  rfl
theorem outsB_len (b c : Bridge) (x : In) : (outsB b c x).length ≤ 2 * b.ports.length := by
  unfold outsB
  have h1 := upto_len (gateAt_len b c) b.ports.length
  have h2 := upto_len (claimAt_len c) b.ports.length
  rw [List.length_append]
  split
  · omega
  · simp; omega
theorem reactB_id (b : Bridge) (x : In) : (reactB b x).1.id = b.id := by
  unfold reactB; split
  · exact nextB_id b x
  · rfl
theorem reactB_len (b : Bridge) (x : In) : (reactB b x).1.ports.length = b.ports.length := by
  unfold reactB; split
  · exact nextB_len b x
  · rfl
theorem reactB_outs (b : Bridge) (x : In) : (reactB b x).2.length ≤ 2 * b.ports.length := by
  unfold reactB; split
  · exact outsB_len _ _ _
  · simp
theorem reactB_ok {b : Bridge} (x : In) (h : b.ok = true) : (reactB b x).1.ok = true := by
  unfold reactB; split
  · rename_i h1
    simp at h1
    have := (In.ok_kind h1.1.2).2
    exact nextB_ok h (by omega)
  · exact h

def stepBr (b : Bridge) (x : In) : Bridge := (reactB b x).1
def bridgeOf (id ports : Int) (log : List In) : Bridge := log.foldl stepBr (bridgeNew id ports).1
theorem bridgeOf_step (id ports : Int) (log : List In) {i : Nat} (h : i < log.length) : bridgeOf id ports (log.take (i + 1)) = stepBr (bridgeOf id ports (log.take i)) log[i] := by
  unfold bridgeOf
  rw [List.take_add_one, List.getElem?_eq_getElem h, List.foldl_append]
  rfl
theorem bridgeOf_len (id ports : Int) (log : List In) : (bridgeOf id ports log).ports.length ≤ 4 := by
  have key : ∀ (log : List In) (b : Bridge), b.ports.length ≤ 4 → (log.foldl stepBr b).ports.length ≤ 4 := by
    intro log
    induction log with
    | nil => intro b h; exact h
    | cons x xs ih => intro b h; exact ih _ (by rw [stepBr, reactB_len]; exact h)
  refine key log _ ?_
  unfold bridgeNew
  split
  · rename_i h
    simp at h ⊢
    omega
  · simp
theorem bridgeOf_sz0 {id ports : Int} {log : List In} (_ : log.length ≤ 1048576) : (bridgeOf id ports log).sz ≤ 1048576 := by
  have := bridgeOf_len id ports log
  have h2 : (bridgeOf id ports log).sz = (bridgeOf id ports log).ports.length := rfl
  omega
theorem bridgeOf_bad {id ports : Int} (h : (bridgeNew id ports).2 = false) (log : List In) : bridgeOf id ports log = ⟨0, []⟩ := by
  have h0 : (bridgeNew id ports).1 = ⟨0, []⟩ := by
    unfold bridgeNew at h ⊢
    split at h
    · simp at h
    · rename_i h1; rw [if_neg h1]
  have key : ∀ log : List In, log.foldl stepBr ⟨0, []⟩ = ⟨0, []⟩ := by
    intro log
    induction log with
    | nil => rfl
    | cons x xs ih =>
      have : stepBr ⟨0, []⟩ x = ⟨0, []⟩ := by
        rw [stepBr, reactB_no (by intro h; have := h.1; simp [Bridge.ok] at this)]
      rw [List.foldl_cons, this, ih]
  unfold bridgeOf
  rw [h0, key]

def newM0 : Minder := ⟨true, 1, 1, [], 0, 0, 0⟩
def newM1 : Minder := ⟨true, 2, 0, [], 0, 0, 0⟩
def boxNew (id ports : Int) : Box × Bool := if (bridgeNew id ports).2 = true then (⟨id, ports, ⟨1, 0, 0⟩, [newM0, newM1], [], List.replicate ports.toNat false, [], []⟩, true) else (⟨0, 0, ⟨0, 0, 0⟩, [], [], [], [], []⟩, false)
theorem bridgeNew_yes {id ports : Int} (h : (bridgeNew id ports).2 = true) : (1 ≤ id ∧ id ≤ 9) ∧ (1 ≤ ports ∧ ports ≤ 4) ∧ (bridgeNew id ports).1 = ⟨id, List.replicate ports.toNat Port.zv⟩ := by
  unfold bridgeNew at h ⊢
  split at h
  · rename_i h1
    rw [if_pos h1]
    simp at h1
    exact ⟨h1.1, h1.2, rfl⟩
  · simp at h
theorem boxNew_sz0 {id ports : Int} : (boxNew id ports).1.sz ≤ 1048576 := by
  unfold boxNew
  split
  · rename_i h
    have := (bridgeNew_yes h).2.1
    simp [Box.sz, MinderS.sz, Minder.sz, newM0, newM1]
    omega
  · simp [Box.sz, MinderS.sz]
theorem boxNew_ok {id ports : Int} (h : (bridgeNew id ports).2 = true) : (⟨id, ports, ⟨1, 0, 0⟩, [newM0, newM1], [], List.replicate ports.toNat false, [], []⟩ : Box).ok = true := by
  have hp := (bridgeNew_yes h).2.1
  have e0 : newM0.ok = true := by decide
  have e1 : newM1.ok = true := by decide
  have e2 : Reg.ok ⟨1, 0, 0⟩ = true := by decide
  simp [Box.ok, h, e0, e1, e2, logOk]
  omega
theorem newTwo {H : Heap} {id : Nat} (hb : blkAt H id = some ⟨98, .wr, [newM0.enc none, newM1.enc none]⟩) : IsMinderS H (.sl (some (id, 0)) 2) [newM0, newM1] [id] := by
  refine ⟨some (id, 0), [newM0.enc none, newM1.enc none], [id], [[], []], rfl, Own.of hb, ⟨rfl, rfl, fun i row x f h1 h2 h3 => ?_, by simp⟩, by simp, by simp⟩
  match i with
  | 0 => simp at h1 h2 h3; subst h1; subst h2; subst h3; exact ⟨none, rfl, Own.nil _ _⟩
  | 1 => simp at h1 h2 h3; subst h1; subst h2; subst h3; exact ⟨none, rfl, Own.nil _ _⟩
  | i + 2 => simp at h1

theorem implBoxNew_is {H : Heap} (id : Int) (_ : I64 id) (ports : Int) (_ : I64 ports) : Runs env 21 [.int id, .int ports] H fun v H' => ∃ l fp, v = .tup [.agg l, .lf (.b (boxNew id ports).2)] ∧ IsBox H' l (boxNew id ports).1 fp ∧ Fresh H H' fp := by
  refine Runs.walk ok21 Try.func21 rfl (by simp [Try.f21]) fun Q hQ => ?_
  simp only [Try.f21, strip, stripL, stripI, stripG, chkT, tagsB, tagsL, tagD, addT, tagA, lookN, tagOp, elmT, ty22, ty23, ty28, ty29, ty37, ty38, ty39, ty40, ty41, ty50, ty51, ty52, ty53, ty72, ty81, ty141, ty189, Nat.reduceEqDiff, if_false, reduceIte, Option.getD_some, Option.getD_none, dstAt, dstOk, Nat.reduceLT, decide_true, if_true]
  simp
  refine stpL_runs (implBridgeNew _ _ _) ?_
  rintro _ _ ⟨_, f1, rfl, ⟨a1, rfl, o1⟩, ⟨⟨G1, rfl⟩, hf1⟩⟩
  simp [Bridge.enc]
  cases hok : (bridgeNew id ports).2
  · have hbn : boxNew id ports = (⟨0, 0, ⟨0, 0, 0⟩, [], [], [], [], []⟩, false) := by simp [boxNew, hok]
    simp
    refine hQ _ _ _ (by simp) ?_
    simp [Try.f21, hbn]
    refine ⟨[], ⟨.sl none 0, .sl none 0, .sl none 0, .sl none 0, .sl none 0, [], [], [], [], [], rfl, IsL.emp _ _ _, ⟨none, rfl, Own.nil _ _⟩, ⟨none, rfl, Own.nil _ _⟩, ⟨none, rfl, Own.nil _ _⟩, ⟨none, rfl, Own.nil _ _⟩, rfl, by simp⟩, Fresh.refl _⟩
  · obtain ⟨h1, h2, -⟩ := bridgeNew_yes hok
    have hbn : boxNew id ports = (⟨id, ports, ⟨1, 0, 0⟩, [newM0, newM1], [], List.replicate ports.toNat false, [], []⟩, true) := by simp [boxNew, hok]
    have k1 : ports ≤ 281474976710656 := by omega
    have k2 : ports ≤ 9223372036854775807 := by omega
    have k3 : 0 ≤ ports := by omega
    simp [makeSliceV, makeSliceR, newBlk, k1, k2, k3, fillRows]
    refine hQ _ _ _ (by simp) ?_
    obtain ⟨G2, hG2⟩ : ∃ G2, G2 = G1 ++ [some ⟨74, .wr, [[.i .i64 (bridgeNew id ports).1.id, .sl a1 (bridgeNew id ports).1.ports.length]]⟩] := ⟨_, rfl⟩
    have hl2 : G2.length = G1.length + 1 := by rw [hG2]; simp
    simp [Try.f21, hbn]
    have hI : ∀ B : Option Blk, IsBox (H ++ B :: (G1 ++ [some ⟨74, .wr, [[.i .i64 (bridgeNew id ports).1.id, .sl a1 (bridgeNew id ports).1.ports.length]]⟩, some ⟨98, .wr, [newM0.enc none, newM1.enc none]⟩, some ⟨4, .wr, List.replicate ports.toNat [.b false]⟩])) [.i .i64 id, .i .i64 ports, .i .i64 1, .i .i64 0, .i .i64 0, .sl (some (H.length + (G1.length + 2), 0)) 2, .sl none 0, .sl (some (H.length + (G1.length + 3), 0)) ports.toNat, .sl none 0, .sl none 0] ⟨id, ports, ⟨1, 0, 0⟩, [newM0, newM1], [], List.replicate ports.toNat false, [], []⟩ ([H.length + (G1.length + 2)] ++ ([] ++ ([H.length + (G1.length + 3)] ++ ([] ++ [])))) := fun B =>
      ⟨_, _, _, _, _, _, _, _, _, _, rfl, newTwo (by simp), ⟨none, rfl, Own.nil _ _⟩, ⟨some (H.length + (G1.length + 3), 0), by simp, Own.of (by simp [encB])⟩, ⟨none, rfl, Own.nil _ _⟩, ⟨none, rfl, Own.nil _ _⟩, rfl, by simp⟩
    exact (hI _).leave (Fresh.app H _ (by simp)) (by simp)

theorem specBoxNew_is {H : Heap} (id : Int) (_ : I64 id) (ports : Int) (_ : I64 ports) : Runs env 20 [.int id, .int ports] H fun v H' => ∃ l fp, v = .tup [.agg l, .lf (.b (boxNew id ports).2)] ∧ IsBox H' l (boxNew id ports).1 fp ∧ Fresh H H' fp := by
  refine Runs.walk ok20 Try.func20 rfl (by simp [Try.f20]) fun Q hQ => ?_
  simp only [Try.f20, strip, stripL, stripI, stripG, chkT, tagsB, tagsL, tagD, addT, tagA, lookN, tagOp, elmT, ty22, ty23, ty28, ty29, ty37, ty38, ty39, ty40, ty41, ty50, ty51, ty52, ty53, ty72, ty81, ty141, ty189, Nat.reduceEqDiff, if_false, reduceIte, Option.getD_some, Option.getD_none, dstAt, dstOk, Nat.reduceLT, decide_true, if_true]
  simp
  refine stpL_runs (specBridgeNew _ _ _) ?_
  rintro _ _ ⟨_, f1, rfl, ⟨a1, rfl, o1⟩, ⟨⟨G1, rfl⟩, hf1⟩⟩
  have hb4 := bridgeOf_len id ports []
  have hb4' : (bridgeNew id ports).1.ports.length ≤ 4 := hb4
  obtain ⟨b, hb⟩ : ∃ b, b = (bridgeNew id ports).1 := ⟨_, rfl⟩
  rw [← hb] at o1 hb4' ⊢
  have s1 := (o1.app [some ⟨74, .wr, [[.i .i64 b.id, .sl a1 b.ports.length]]⟩]).sl
  simp only [List.append_assoc, List.cons_append, List.nil_append] at s1
  have hRb : RdBridge _ [.i .i64 b.id, .sl a1 b.ports.length] b := ⟨a1, rfl, s1⟩
  have hbs : b.sz = b.ports.length := rfl
  simp [Bridge.enc]
  refine stpL_runs (specGates_is (b := b) hRb (by omega)) ?_
  rintro _ _ ⟨_, f9, rfl, ⟨a9, rfl, o9⟩, ⟨⟨G2, rfl⟩, hf9⟩⟩
  obtain ⟨gs, hgs⟩ : ∃ gs, gs = gates b := ⟨_, rfl⟩
  have hgl : gs.length ≤ 4 := by rw [hgs]; simpa [gates] using hb4'
  rw [← hgs] at o9 ⊢
  obtain ⟨x, hx⟩ : ∃ x : Box, x = ⟨id, ports, ⟨1, 0, 0⟩, [newM0, newM1], [], gs, [], []⟩ := ⟨_, rfl⟩
  have hI : ∀ B, IsBox (H ++ some ⟨43, .wr, [[.i .i64 0, .i .i64 0, .i .i64 0, .i .i64 0, .i .i64 0, .sl none 0, .sl none 0, .sl none 0, .sl none 0, .sl none 0]]⟩ :: (G1 ++ some ⟨74, .wr, [[.i .i64 b.id, .sl a1 b.ports.length]]⟩ :: (G2 ++ [B, some ⟨98, .wr, [newM0.enc none, newM1.enc none]⟩]))) [.i .i64 id, .i .i64 ports, .i .i64 1, .i .i64 0, .i .i64 0, .sl (some (H.length + (G1.length + (G2.length + 3)), 0)) 2, .sl none 0, .sl a9 gs.length, .sl none 0, .sl none 0] x ([H.length + (G1.length + (G2.length + 3))] ++ ([] ++ (f9 ++ ([] ++ [])))) := fun B => by
    rw [hx]
    have o9' := o9.app [B, some ⟨98, .wr, [newM0.enc none, newM1.enc none]⟩]
    have hlt9 := o9.lt
    simp only [List.append_assoc, List.cons_append, List.nil_append] at o9'
    refine ⟨_, _, _, _, _, _, _, _, _, _, rfl, newTwo (by simp), ⟨none, rfl, Own.nil _ _⟩, ⟨a9, rfl, o9'⟩, ⟨none, rfl, Own.nil _ _⟩, ⟨none, rfl, Own.nil _ _⟩, rfl, ?_⟩
    simp
    refine ⟨fun h => ?_, o9.nodup⟩
    have := hlt9 _ h
    simp at this
  have hsz : x.sz ≤ 1048576 := by rw [hx]; simp [Box.sz, MinderS.sz, Minder.sz, newM0, newM1]; omega
  have e1 := fun B => specBoxOk_is (hI B).rd (by omega)
  have f9g : ∀ i ∈ f9, H.length ≤ i := fun i hi => by have := hf9 i hi; simp at this; omega
  simp [fillRows]
  simp [newM0, newM1, Minder.enc] at e1
  simp [e1]
  cases hok : (bridgeNew id ports).2
  · have hbn : boxNew id ports = (⟨0, 0, ⟨0, 0, 0⟩, [], [], [], [], []⟩, false) := by simp [boxNew, hok]
    have hxo : x.ok = false := by rw [hx]; simp [Box.ok, hok]
    simp [hxo]
    refine hQ _ _ _ (by simp) ?_
    simp [Try.f20, hbn]
    refine ⟨[], ⟨.sl none 0, .sl none 0, .sl none 0, .sl none 0, .sl none 0, [], [], [], [], [], rfl, IsL.emp _ _ _, ⟨none, rfl, Own.nil _ _⟩, ⟨none, rfl, Own.nil _ _⟩, ⟨none, rfl, Own.nil _ _⟩, ⟨none, rfl, Own.nil _ _⟩, rfl, by simp⟩, Fresh.refl _⟩
  · obtain ⟨h1, h2, h3⟩ := bridgeNew_yes hok
    have hbn : boxNew id ports = (⟨id, ports, ⟨1, 0, 0⟩, [newM0, newM1], [], List.replicate ports.toNat false, [], []⟩, true) := by simp [boxNew, hok]
    have hgr : gs = List.replicate ports.toNat false := by rw [hgs, hb, h3]; simp [gates]
    have hxn : x = (boxNew id ports).1 := by rw [hx, hbn, hgr]
    have hxo : x.ok = true := by rw [hx, hgr]; exact boxNew_ok hok
    simp [hxo]
    refine hQ _ _ _ (by simp) ?_
    have h4 : (boxNew id ports).2 = true := by rw [hbn]
    rw [hxn] at hI
    simp [Try.f20, h4]
    have hfr : ∀ y : Option Blk, Fresh H (H ++ y :: (G1 ++ some ⟨74, .wr, [[.i .i64 b.id, .sl a1 b.ports.length]]⟩ :: (G2 ++ [some ⟨43, .wr, [[.i .i64 id, .i .i64 ports, .i .i64 1, .i .i64 0, .i .i64 0, .sl (some (H.length + (G1.length + (G2.length + 3)), 0)) 2, .sl none 0, .sl a9 gs.length, .sl none 0, .sl none 0]]⟩, some ⟨98, .wr, [newM0.enc none, newM1.enc none]⟩]))) ([H.length + (G1.length + (G2.length + 3))] ++ ([] ++ (f9 ++ ([] ++ [])))) := fun y => Fresh.app H _ (fun i hi => by
      simp at hi
      rcases hi with rfl | hi
      · omega
      · exact f9g i hi)
    have hK : ∀ y : Blk, Keep [H.length] (H ++ some ⟨43, .wr, [[.i .i64 0, .i .i64 0, .i .i64 0, .i .i64 0, .i .i64 0, .sl none 0, .sl none 0, .sl none 0, .sl none 0, .sl none 0]]⟩ :: (G1 ++ some ⟨74, .wr, [[.i .i64 b.id, .sl a1 b.ports.length]]⟩ :: (G2 ++ [some ⟨43, .wr, [[.i .i64 id, .i .i64 ports, .i .i64 1, .i .i64 0, .i .i64 0, .sl (some (H.length + (G1.length + (G2.length + 3)), 0)) 2, .sl none 0, .sl a9 gs.length, .sl none 0, .sl none 0]]⟩, some ⟨98, .wr, [newM0.enc none, newM1.enc none]⟩]))) (H ++ some y :: (G1 ++ some ⟨74, .wr, [[.i .i64 b.id, .sl a1 b.ports.length]]⟩ :: (G2 ++ [some ⟨43, .wr, [[.i .i64 id, .i .i64 ports, .i .i64 1, .i .i64 0, .i .i64 0, .sl (some (H.length + (G1.length + (G2.length + 3)), 0)) 2, .sl none 0, .sl a9 gs.length, .sl none 0, .sl none 0]]⟩, some ⟨98, .wr, [newM0.enc none, newM1.enc none]⟩]))) := fun y => by
      have := Keep.set (id := H.length) (H ++ some ⟨43, .wr, [[.i .i64 0, .i .i64 0, .i .i64 0, .i .i64 0, .i .i64 0, .sl none 0, .sl none 0, .sl none 0, .sl none 0, .sl none 0]]⟩ :: (G1 ++ some ⟨74, .wr, [[.i .i64 b.id, .sl a1 b.ports.length]]⟩ :: (G2 ++ [some ⟨43, .wr, [[.i .i64 id, .i .i64 ports, .i .i64 1, .i .i64 0, .i .i64 0, .sl (some (H.length + (G1.length + (G2.length + 3)), 0)) 2, .sl none 0, .sl a9 gs.length, .sl none 0, .sl none 0]]⟩, some ⟨98, .wr, [newM0.enc none, newM1.enc none]⟩]))) (some y)
      simpa using this
    have hI2 := fun y => (hI _).keep (hK y) (fun i hi hj => by
      simp at hi hj
      rcases hi with rfl | hi
      · omega
      · have := hf9 i hi; simp at this; omega)
    have hend := fun y => (hI2 y).leave (ws := [W.agg [.i .i64 id, .i .i64 ports, .i .i64 1, .i .i64 0, .i .i64 0, .sl (some (H.length + (G1.length + (G2.length + 3)), 0)) 2, .sl none 0, .sl a9 gs.length, .sl none 0, .sl none 0], W.lf (.b true)]) (hfr _) (by simp)
    simp only [newM0, newM1, Minder.enc] at hend
    exact hend _
end W
end Go.Proofs.Ytjbjpdifgfnaeaa

/- The functions that this law reaches: what each computes. Conditions: those that each theorem names. -/
import Derived.Test.YtfhaanknijlamaaGreatAbEnvBoxes
set_option maxRecDepth 100000
set_option maxHeartbeats 4000000
set_option linter.unusedSimpArgs false
set_option linter.unusedVariables false
set_option linter.unnecessarySimpa false
namespace Go.Proofs.YtfhaanknijlamaaGreat
open Go Go.Ab Go.ChangeShapes Go.WideShapes Go.ChangeAt Go.RowKit
namespace W
theorem inRange (H : Heap) (n a b : Int) : run env 69 [.int n, .int a, .int b] H = some (.bool (decide (a ≤ n) && decide (n ≤ b)), H) := by
  refine run_walk ok69 Tryz.func69 rfl (by simp [Tryz.f69]) fun Q hQ => ?_
  simp only [Tryz.f69, strip, stripL, stripI, stripG, chkT, tagsB, tagsL, tagD, addT, tagA, lookN, tagOp, elmT, ty22, ty26, ty27, ty28, ty29, ty30, ty41, ty53, ty56, Nat.reduceEqDiff, if_false, reduceIte, Option.getD_some, Option.getD_none, dstAt, dstOk, Nat.reduceLT, decide_true, if_true]
  simp
  repeat' (first | (refine gdL_t (fun h => ?_) (fun h => ?_) <;> simp [h]) | (refine gdL_f (fun h => ?_) (fun h => ?_) <;> simp [h]) | (refine selS_intro (fun h => ?_) (fun h => ?_) <;> simp [h]))
  all_goals (refine hQ _ _ _ (by simp) ?_)
  all_goals (clear hQ; simp_all [Tryz.f69] <;> omega)

theorem l1In (H : Heap) (n a b : Int) : run env 82 [.int n, .int a, .int b] H = some (.bool (decide (a ≤ n) && decide (n ≤ b)), H) := by
  refine run_walk ok82 Tryz.func82 rfl (by simp [Tryz.f82]) fun Q hQ => ?_
  simp only [Tryz.f82, strip, stripL, stripI, stripG, chkT, tagsB, tagsL, tagD, addT, tagA, lookN, tagOp, elmT, ty22, ty26, ty27, ty28, ty29, ty30, ty41, ty53, ty56, Nat.reduceEqDiff, if_false, reduceIte, Option.getD_some, Option.getD_none, dstAt, dstOk, Nat.reduceLT, decide_true, if_true]
  simp
  repeat' (first | (refine gdL_t (fun h => ?_) (fun h => ?_) <;> simp [h]) | (refine gdL_f (fun h => ?_) (fun h => ?_) <;> simp [h]) | (refine selS_intro (fun h => ?_) (fun h => ?_) <;> simp [h]))
  all_goals (refine hQ _ _ _ (by simp) ?_)
  all_goals (clear hQ; simp_all [Tryz.f82] <;> omega)

theorem isNum (H : Heap) (n : Int) : run env 106 [.int n] H = some (.bool (decide (0 ≤ n) && decide (n ≤ 100000)), H) := by
  refine run_walk ok106 Tryz.func106 rfl (by simp [Tryz.f106]) fun Q hQ => ?_
  simp only [Tryz.f106, strip, stripL, stripI, stripG, chkT, tagsB, tagsL, tagD, addT, tagA, lookN, tagOp, elmT, ty22, ty26, ty27, ty28, ty29, ty30, ty41, ty53, ty56, Nat.reduceEqDiff, if_false, reduceIte, Option.getD_some, Option.getD_none, dstAt, dstOk, Nat.reduceLT, decide_true, if_true]
  simp [inRange]
  all_goals (refine hQ _ _ _ (by simp) ?_)
  all_goals (clear hQ; simp [Tryz.f106])

theorem isSide (H : Heap) (n : Int) : run env 105 [.int n] H = some (.bool (decide (n = 0) || decide (n = 1)), H) := by
  refine run_walk ok105 Tryz.func105 rfl (by simp [Tryz.f105]) fun Q hQ => ?_
  simp only [Tryz.f105, strip, stripL, stripI, stripG, chkT, tagsB, tagsL, tagD, addT, tagA, lookN, tagOp, elmT, ty22, ty26, ty27, ty28, ty29, ty30, ty41, ty53, ty56, Nat.reduceEqDiff, if_false, reduceIte, Option.getD_some, Option.getD_none, dstAt, dstOk, Nat.reduceLT, decide_true, if_true]
  simp
  repeat' (first | (refine gdL_t (fun h => ?_) (fun h => ?_) <;> simp [h]) | (refine gdL_f (fun h => ?_) (fun h => ?_) <;> simp [h]) | (refine selS_intro (fun h => ?_) (fun h => ?_) <;> simp [h]))
  all_goals (refine hQ _ _ _ (by simp) ?_)
  all_goals (clear hQ; simp_all [Tryz.f105] <;> omega)

theorem isPort (H : Heap) (n : Int) : run env 127 [.int n] H = some (.bool (decide (0 ≤ n) && decide (n ≤ 3)), H) := by
  refine run_walk ok127 Tryz.func127 rfl (by simp [Tryz.f127]) fun Q hQ => ?_
  simp only [Tryz.f127, strip, stripL, stripI, stripG, chkT, tagsB, tagsL, tagD, addT, tagA, lookN, tagOp, elmT, ty22, ty26, ty27, ty28, ty29, ty30, ty41, ty53, ty56, Nat.reduceEqDiff, if_false, reduceIte, Option.getD_some, Option.getD_none, dstAt, dstOk, Nat.reduceLT, decide_true, if_true]
  simp [inRange]
  all_goals (refine hQ _ _ _ (by simp) ?_)
  all_goals (clear hQ; simp [Tryz.f127])

theorem isHops (H : Heap) (n : Int) : run env 129 [.int n] H = some (.bool (decide (0 ≤ n) && decide (n ≤ 8)), H) := by
  refine run_walk ok129 Tryz.func129 rfl (by simp [Tryz.f129]) fun Q hQ => ?_
  simp only [Tryz.f129, strip, stripL, stripI, stripG, chkT, tagsB, tagsL, tagD, addT, tagA, lookN, tagOp, elmT, ty22, ty26, ty27, ty28, ty29, ty30, ty41, ty53, ty56, Nat.reduceEqDiff, if_false, reduceIte, Option.getD_some, Option.getD_none, dstAt, dstOk, Nat.reduceLT, decide_true, if_true]
  simp [inRange]
  all_goals (refine hQ _ _ _ (by simp) ?_)
  all_goals (clear hQ; simp [Tryz.f129])

structure Vec where
  root : Int
  cost : Int
  bridge : Int
  port : Int
  deriving DecidableEq, Inhabited
def Vec.enc (x : Vec) : List Lf := [.i .i64 x.root, .i .i64 x.cost, .i .i64 x.bridge, .i .i64 x.port]
@[simp] theorem Vec.enc_len (x : Vec) : x.enc.length = 4 := rfl
@[simp] theorem Vec.enc_take (x : Vec) : List.take 4 x.enc = x.enc := rfl
@[simp] theorem Vec.enc_drop (x : Vec) : List.drop 4 x.enc = [] := rfl
abbrev Vec.z : List Lf := [.i .i64 0, .i .i64 0, .i .i64 0, .i .i64 0]
abbrev Vec.zv : Vec := ⟨0, 0, 0, 0⟩
theorem Vec.enc_inj {x y : Vec} (h : x.enc = y.enc) : x = y := by
  obtain ⟨_, _, _, _⟩ := x
  obtain ⟨_, _, _, _⟩ := y
  simp [Vec.enc] at h
  simp_all
def Vec.mk' (k : Int) : Vec := ⟨k, k + 1, k + 2, k + 3⟩
theorem Vec.mk'_of {y : Vec} {c : Int} (h0 : y.root = c) (h1 : y.cost = c + 1) (h2 : y.bridge = c + 2) (h3 : y.port = c + 3) : y = Vec.mk' c := by
  rcases y with ⟨w0, v1, v2, v3⟩
  simp only at h0 h1 h2 h3
  subst h0 h1 h2 h3
  rfl

structure Port where
  up : Bool
  has : Bool
  vec : Vec
  hops : Int
  left : Int
  role : Int
  wait : Int
  opn : Bool
  deriving DecidableEq, Inhabited
def Port.enc (x : Port) : List Lf := [.b x.up, .b x.has, .i .i64 x.vec.root, .i .i64 x.vec.cost, .i .i64 x.vec.bridge, .i .i64 x.vec.port, .i .i64 x.hops, .i .i64 x.left, .i .i64 x.role, .i .i64 x.wait, .b x.opn]
@[simp] theorem Port.enc_len (x : Port) : x.enc.length = 11 := rfl
@[simp] theorem Port.enc_take (x : Port) : List.take 11 x.enc = x.enc := rfl
@[simp] theorem Port.enc_drop (x : Port) : List.drop 11 x.enc = [] := rfl
abbrev Port.z : List Lf := [.b false, .b false, .i .i64 0, .i .i64 0, .i .i64 0, .i .i64 0, .i .i64 0, .i .i64 0, .i .i64 0, .i .i64 0, .b false]
abbrev Port.zv : Port := ⟨false, false, ⟨0, 0, 0, 0⟩, 0, 0, 0, 0, false⟩
theorem Port.enc_inj {x y : Port} (h : x.enc = y.enc) : x = y := by
  rcases x with ⟨v0, v1, ⟨v2_0, v2_1, v2_2, v2_3⟩, v3, v4, v5, v6, v7⟩
  rcases y with ⟨w0, v1, ⟨v2_0, v2_1, v2_2, v2_3⟩, v3, v4, v5, v6, v7⟩
  simp [Port.enc] at h
  simp_all
def Port.mk' (k : Int) : Port := ⟨decide ((k).tmod 3 = 0), decide ((k + 1).tmod 3 = 0), ⟨k + 2, k + 3, k + 4, k + 5⟩, k + 6, k + 7, k + 8, k + 9, decide ((k + 10).tmod 3 = 0)⟩
theorem Port.mk'_of {y : Port} {c : Int} (h0 : y.up = decide ((c).tmod 3 = 0)) (h1 : y.has = decide ((c + 1).tmod 3 = 0)) (h2 : y.vec.root = c + 2) (h3 : y.vec.cost = c + 3) (h4 : y.vec.bridge = c + 4) (h5 : y.vec.port = c + 5) (h6 : y.hops = c + 6) (h7 : y.left = c + 7) (h8 : y.role = c + 8) (h9 : y.wait = c + 9) (h10 : y.opn = decide ((c + 10).tmod 3 = 0)) : y = Port.mk' c := by
  rcases y with ⟨w0, v1, ⟨v2_0, v2_1, v2_2, v2_3⟩, v3, v4, v5, v6, v7⟩
  simp only at h0 h1 h2 h3 h4 h5 h6 h7 h8 h9 h10
  subst h0 h1 h2 h3 h4 h5 h6 h7 h8 h9 h10
  rfl

structure In where
  kind : Int
  port : Int
  vec : Vec
  hops : Int
  up : Bool
  deriving DecidableEq, Inhabited
def In.enc (x : In) : List Lf := [.i .i64 x.kind, .i .i64 x.port, .i .i64 x.vec.root, .i .i64 x.vec.cost, .i .i64 x.vec.bridge, .i .i64 x.vec.port, .i .i64 x.hops, .b x.up]
@[simp] theorem In.enc_len (x : In) : x.enc.length = 8 := rfl
@[simp] theorem In.enc_take (x : In) : List.take 8 x.enc = x.enc := rfl
@[simp] theorem In.enc_drop (x : In) : List.drop 8 x.enc = [] := rfl
abbrev In.z : List Lf := [.i .i64 0, .i .i64 0, .i .i64 0, .i .i64 0, .i .i64 0, .i .i64 0, .i .i64 0, .b false]
abbrev In.zv : In := ⟨0, 0, ⟨0, 0, 0, 0⟩, 0, false⟩
theorem In.enc_inj {x y : In} (h : x.enc = y.enc) : x = y := by
  rcases x with ⟨v0, v1, ⟨v2_0, v2_1, v2_2, v2_3⟩, v3, v4⟩
  rcases y with ⟨w0, v1, ⟨v2_0, v2_1, v2_2, v2_3⟩, v3, v4⟩
  simp [In.enc] at h
  simp_all
def In.mk' (k : Int) : In := ⟨k, k + 1, ⟨k + 2, k + 3, k + 4, k + 5⟩, k + 6, decide ((k + 7).tmod 3 = 0)⟩
theorem In.mk'_of {y : In} {c : Int} (h0 : y.kind = c) (h1 : y.port = c + 1) (h2 : y.vec.root = c + 2) (h3 : y.vec.cost = c + 3) (h4 : y.vec.bridge = c + 4) (h5 : y.vec.port = c + 5) (h6 : y.hops = c + 6) (h7 : y.up = decide ((c + 7).tmod 3 = 0)) : y = In.mk' c := by
  rcases y with ⟨w0, v1, ⟨v2_0, v2_1, v2_2, v2_3⟩, v3, v4⟩
  simp only at h0 h1 h2 h3 h4 h5 h6 h7
  subst h0 h1 h2 h3 h4 h5 h6 h7
  rfl

structure Out where
  kind : Int
  port : Int
  vec : Vec
  hops : Int
  on : Bool
  deriving DecidableEq, Inhabited
def Out.enc (x : Out) : List Lf := [.i .i64 x.kind, .i .i64 x.port, .i .i64 x.vec.root, .i .i64 x.vec.cost, .i .i64 x.vec.bridge, .i .i64 x.vec.port, .i .i64 x.hops, .b x.on]
@[simp] theorem Out.enc_len (x : Out) : x.enc.length = 8 := rfl
@[simp] theorem Out.enc_take (x : Out) : List.take 8 x.enc = x.enc := rfl
@[simp] theorem Out.enc_drop (x : Out) : List.drop 8 x.enc = [] := rfl
abbrev Out.z : List Lf := [.i .i64 0, .i .i64 0, .i .i64 0, .i .i64 0, .i .i64 0, .i .i64 0, .i .i64 0, .b false]
abbrev Out.zv : Out := ⟨0, 0, ⟨0, 0, 0, 0⟩, 0, false⟩
theorem Out.enc_inj {x y : Out} (h : x.enc = y.enc) : x = y := by
  rcases x with ⟨v0, v1, ⟨v2_0, v2_1, v2_2, v2_3⟩, v3, v4⟩
  rcases y with ⟨w0, v1, ⟨v2_0, v2_1, v2_2, v2_3⟩, v3, v4⟩
  simp [Out.enc] at h
  simp_all
def Out.mk' (k : Int) : Out := ⟨k, k + 1, ⟨k + 2, k + 3, k + 4, k + 5⟩, k + 6, decide ((k + 7).tmod 3 = 0)⟩
theorem Out.mk'_of {y : Out} {c : Int} (h0 : y.kind = c) (h1 : y.port = c + 1) (h2 : y.vec.root = c + 2) (h3 : y.vec.cost = c + 3) (h4 : y.vec.bridge = c + 4) (h5 : y.vec.port = c + 5) (h6 : y.hops = c + 6) (h7 : y.on = decide ((c + 7).tmod 3 = 0)) : y = Out.mk' c := by
  rcases y with ⟨w0, v1, ⟨v2_0, v2_1, v2_2, v2_3⟩, v3, v4⟩
  simp only at h0 h1 h2 h3 h4 h5 h6 h7
  subst h0 h1 h2 h3 h4 h5 h6 h7
  rfl

structure Reg where
  epoch : Int
  owner : Int
  pair : Int
  deriving DecidableEq, Inhabited
def Reg.enc (x : Reg) : List Lf := [.i .i64 x.epoch, .i .i64 x.owner, .i .i64 x.pair]
@[simp] theorem Reg.enc_len (x : Reg) : x.enc.length = 3 := rfl
@[simp] theorem Reg.enc_take (x : Reg) : List.take 3 x.enc = x.enc := rfl
@[simp] theorem Reg.enc_drop (x : Reg) : List.drop 3 x.enc = [] := rfl
abbrev Reg.z : List Lf := [.i .i64 0, .i .i64 0, .i .i64 0]
abbrev Reg.zv : Reg := ⟨0, 0, 0⟩
theorem Reg.enc_inj {x y : Reg} (h : x.enc = y.enc) : x = y := by
  obtain ⟨_, _, _⟩ := x
  obtain ⟨_, _, _⟩ := y
  simp [Reg.enc] at h
  simp_all
def Reg.mk' (k : Int) : Reg := ⟨k, k + 1, k + 2⟩
theorem Reg.mk'_of {y : Reg} {c : Int} (h0 : y.epoch = c) (h1 : y.owner = c + 1) (h2 : y.pair = c + 2) : y = Reg.mk' c := by
  rcases y with ⟨w0, v1, v2⟩
  simp only at h0 h1 h2
  subst h0 h1 h2
  rfl

structure Wire where
  frm : Int
  ack : Bool
  life : Int
  n : Int
  inn : In
  deriving DecidableEq, Inhabited
def Wire.enc (x : Wire) : List Lf := [.i .i64 x.frm, .b x.ack, .i .i64 x.life, .i .i64 x.n, .i .i64 x.inn.kind, .i .i64 x.inn.port, .i .i64 x.inn.vec.root, .i .i64 x.inn.vec.cost, .i .i64 x.inn.vec.bridge, .i .i64 x.inn.vec.port, .i .i64 x.inn.hops, .b x.inn.up]
@[simp] theorem Wire.enc_len (x : Wire) : x.enc.length = 12 := rfl
@[simp] theorem Wire.enc_take (x : Wire) : List.take 12 x.enc = x.enc := rfl
@[simp] theorem Wire.enc_drop (x : Wire) : List.drop 12 x.enc = [] := rfl
abbrev Wire.z : List Lf := [.i .i64 0, .b false, .i .i64 0, .i .i64 0, .i .i64 0, .i .i64 0, .i .i64 0, .i .i64 0, .i .i64 0, .i .i64 0, .i .i64 0, .b false]
abbrev Wire.zv : Wire := ⟨0, false, 0, 0, ⟨0, 0, ⟨0, 0, 0, 0⟩, 0, false⟩⟩
theorem Wire.enc_inj {x y : Wire} (h : x.enc = y.enc) : x = y := by
  rcases x with ⟨v0, v1, v2, v3, ⟨v4_0, v4_1, ⟨v4_2_0, v4_2_1, v4_2_2, v4_2_3⟩, v4_3, v4_4⟩⟩
  rcases y with ⟨w0, v1, v2, v3, ⟨v4_0, v4_1, ⟨v4_2_0, v4_2_1, v4_2_2, v4_2_3⟩, v4_3, v4_4⟩⟩
  simp [Wire.enc] at h
  simp_all
def Wire.mk' (k : Int) : Wire := ⟨k, decide ((k + 1).tmod 3 = 0), k + 2, k + 3, ⟨k + 4, k + 5, ⟨k + 6, k + 7, k + 8, k + 9⟩, k + 10, decide ((k + 11).tmod 3 = 0)⟩⟩
theorem Wire.mk'_of {y : Wire} {c : Int} (h0 : y.frm = c) (h1 : y.ack = decide ((c + 1).tmod 3 = 0)) (h2 : y.life = c + 2) (h3 : y.n = c + 3) (h4 : y.inn.kind = c + 4) (h5 : y.inn.port = c + 5) (h6 : y.inn.vec.root = c + 6) (h7 : y.inn.vec.cost = c + 7) (h8 : y.inn.vec.bridge = c + 8) (h9 : y.inn.vec.port = c + 9) (h10 : y.inn.hops = c + 10) (h11 : y.inn.up = decide ((c + 11).tmod 3 = 0)) : y = Wire.mk' c := by
  rcases y with ⟨w0, v1, v2, v3, ⟨v4_0, v4_1, ⟨v4_2_0, v4_2_1, v4_2_2, v4_2_3⟩, v4_3, v4_4⟩⟩
  simp only at h0 h1 h2 h3 h4 h5 h6 h7 h8 h9 h10 h11
  subst h0 h1 h2 h3 h4 h5 h6 h7 h8 h9 h10 h11
  rfl

structure Deed where
  kind : Int
  a : Int
  inn : In
  deriving DecidableEq, Inhabited
def Deed.enc (x : Deed) : List Lf := [.i .i64 x.kind, .i .i64 x.a, .i .i64 x.inn.kind, .i .i64 x.inn.port, .i .i64 x.inn.vec.root, .i .i64 x.inn.vec.cost, .i .i64 x.inn.vec.bridge, .i .i64 x.inn.vec.port, .i .i64 x.inn.hops, .b x.inn.up]
@[simp] theorem Deed.enc_len (x : Deed) : x.enc.length = 10 := rfl
@[simp] theorem Deed.enc_take (x : Deed) : List.take 10 x.enc = x.enc := rfl
@[simp] theorem Deed.enc_drop (x : Deed) : List.drop 10 x.enc = [] := rfl
abbrev Deed.z : List Lf := [.i .i64 0, .i .i64 0, .i .i64 0, .i .i64 0, .i .i64 0, .i .i64 0, .i .i64 0, .i .i64 0, .i .i64 0, .b false]
abbrev Deed.zv : Deed := ⟨0, 0, ⟨0, 0, ⟨0, 0, 0, 0⟩, 0, false⟩⟩
theorem Deed.enc_inj {x y : Deed} (h : x.enc = y.enc) : x = y := by
  rcases x with ⟨v0, v1, ⟨v2_0, v2_1, ⟨v2_2_0, v2_2_1, v2_2_2, v2_2_3⟩, v2_3, v2_4⟩⟩
  rcases y with ⟨w0, v1, ⟨v2_0, v2_1, ⟨v2_2_0, v2_2_1, v2_2_2, v2_2_3⟩, v2_3, v2_4⟩⟩
  simp [Deed.enc] at h
  simp_all
def Deed.mk' (k : Int) : Deed := ⟨k, k + 1, ⟨k + 2, k + 3, ⟨k + 4, k + 5, k + 6, k + 7⟩, k + 8, decide ((k + 9).tmod 3 = 0)⟩⟩
theorem Deed.mk'_of {y : Deed} {c : Int} (h0 : y.kind = c) (h1 : y.a = c + 1) (h2 : y.inn.kind = c + 2) (h3 : y.inn.port = c + 3) (h4 : y.inn.vec.root = c + 4) (h5 : y.inn.vec.cost = c + 5) (h6 : y.inn.vec.bridge = c + 6) (h7 : y.inn.vec.port = c + 7) (h8 : y.inn.hops = c + 8) (h9 : y.inn.up = decide ((c + 9).tmod 3 = 0)) : y = Deed.mk' c := by
  rcases y with ⟨w0, v1, ⟨v2_0, v2_1, ⟨v2_2_0, v2_2_1, v2_2_2, v2_2_3⟩, v2_3, v2_4⟩⟩
  simp only at h0 h1 h2 h3 h4 h5 h6 h7 h8 h9
  subst h0 h1 h2 h3 h4 h5 h6 h7 h8 h9
  rfl

def encB (x : Bool) : List Lf := [.b x]
@[simp] theorem encB_len (x : Bool) : (encB x).length = 1 := rfl
@[simp] theorem encB_take (x : Bool) : List.take 1 (encB x) = [.b x] := rfl
def mkB (k : Int) : Bool := decide (k.tmod 3 = 0)
theorem encB_inj {x y : Bool} (h : encB x = encB y) : x = y := by simpa [encB] using h

def encI (x : Int) : List Lf := [.i .i64 x]
@[simp] theorem encI_len (x : Int) : (encI x).length = 1 := rfl
@[simp] theorem encI_take (x : Int) : List.take 1 (encI x) = [.i .i64 x] := rfl
def mkI (k : Int) : Int := k
theorem encI_inj {x y : Int} (h : encI x = encI y) : x = y := by simpa [encI] using h

abbrev IsBoolS := IsSl 4 encB
abbrev RdBoolS := RdSl 4 encB
abbrev RdLBoolS := RdSl 4 encB
def BoolS.mk' (xs : List Bool) (k : Int) : List Bool := marked mkB 1 xs.length k
def BoolS.mkN (xs : List Bool) (k : Int) : Int := k + 1 * xs.length
def BoolS.hd (xs : List Bool) (k : Int) : Int := heldL mkB 1 xs k
theorem BoolS.hd_mk (xs : List Bool) (k : Int) : BoolS.hd (BoolS.mk' xs k) k = BoolS.mkN xs k := by simp [BoolS.hd, BoolS.mk', BoolS.mkN]
theorem BoolS.mk_sz (xs : List Bool) (k : Int) : (BoolS.mk' xs k).length = xs.length := by simp [BoolS.mk']
theorem BoolS.mkN_le {xs : List Bool} {k : Int} (h : xs.length ≤ 1048576) : k ≤ BoolS.mkN xs k ∧ BoolS.mkN xs k ≤ k + 1000000000 := by unfold BoolS.mkN; omega

theorem cloneBoolS {H : Heap} {q : Lf} {xs : List Bool} (h : RdBoolS H q xs) (hn : xs.length ≤ 1048576) : Runs env 113 [.w (.lf q)] H fun v H' => ∃ q' fp, v = .w (.lf q') ∧ IsBoolS H' q' xs fp ∧ Fresh H H' fp := by
  obtain ⟨a, rfl, h⟩ := h
  refine Runs.walk ok113 Tryz.func113 rfl (by simp [Tryz.f113]) fun Q hQ => ?_
  simp only [Tryz.f113, strip, stripL, stripI, stripG, chkT, tagsB, tagsL, tagD, addT, tagA, lookN, tagOp, elmT, ty22, ty26, ty27, ty28, ty29, ty30, ty41, ty53, ty56, Nat.reduceEqDiff, if_false, reduceIte, Option.getD_some, Option.getD_none, dstAt, dstOk, Nat.reduceLT, decide_true, if_true]
  simp [binV]
  cases a with
  | none =>
    have : xs = [] := by
      cases xs with
      | nil => rfl
      | cons x xs => obtain ⟨_, _, _, h0, _⟩ := h 0 _ rfl; cases h0
    subst this
    simp
    refine hQ _ _ _ (by simp) ?_
    simp [Tryz.f113]
    exact ⟨_, ⟨none, rfl, Own.nil _ _⟩, Fresh.refl _⟩
  | some p =>
    simp
    refine stpL_append (rows := []) (ys := xs.map encB) (Own.of (by simp)) (h.app _) rfl rfl rfl (by simp) (by simp; omega) rfl (by simp) fun a'' H'' fp'' ho'' hk'' hf'' => ?_
    simp
    refine hQ _ _ _ (by simp) ?_
    simp [Tryz.f113]
    have ho : IsBoolS H'' (.sl a'' xs.length) xs fp'' := ⟨a'', rfl, by simpa using ho''⟩
    have hf : Fresh H H'' fp'' := Fresh.grow (fp := [H.length]) (by simp) hk'' hf''
    obtain ⟨f, h1, h2⟩ := ho.leave (ws := [W.lf (Lf.sl a'' xs.length)]) hf (by simp)
    exact ⟨f, h1, h2⟩

theorem equalBoolS {H : Heap} {q r : Lf} {xs ys : List Bool} (h : RdBoolS H q xs) (h2 : RdBoolS H r ys) (hn : xs.length ≤ 1048576) : run env 48 [.w (.lf q), .w (.lf r)] H = some (.bool (decide (xs = ys)), H) := by
  obtain ⟨a, rfl, ha⟩ := h
  obtain ⟨b, rfl, hb⟩ := h2
  refine run_walk ok48 Tryz.func48 rfl (by simp [Tryz.f48]) fun Q hQ => ?_
  simp only [Tryz.f48, strip, stripL, stripI, stripG, chkT, tagsB, tagsL, tagD, addT, tagA, lookN, tagOp, elmT, ty22, ty26, ty27, ty28, ty29, ty30, ty41, ty53, ty56, Nat.reduceEqDiff, if_false, reduceIte, Option.getD_some, Option.getD_none, dstAt, dstOk, Nat.reduceLT, decide_true, if_true]
  simp [builtinV, pureB, lenV]
  refine selS_intro (fun hl => ?_) (fun hl => ?_)
  · simp
    refine hQ _ _ _ (by simp) ?_
    simp at hl
    have : ¬ xs = ys := fun h => hl (by rw [h])
    simp [Tryz.f48, this]
  simp at hl
  simp [builtinV, pureB, lenV]
  refine wpS_loop (fun j tm H' => ∃ i, i + j = xs.length ∧ tm 0 = .w (.lf (.sl a xs.length)) ∧ tm 1 = .w (.lf (.sl b ys.length)) ∧ tm 12 = .int xs.length ∧ tm 13 = .int i ∧ H' = H ∧ xs.take i = ys.take i) xs.length (by rw [env_K]; omega) ⟨0, by simp, by simp, by simp, by simp, by simp, rfl, by simp⟩ ?_
  rintro j tm H' hj ⟨i, hij, h0, h1, h12, h13, rfl, heq⟩ Q' hn' he' hr'
  simp [h0, h1, h12, h13]
  refine selS_intro (fun hc => ?_) (fun hc => ?_)
  · simp at hc
    have hc2 : i < ys.length := by omega
    obtain ⟨id, r, bl, rfl, hbl, hbe, hrow⟩ := ha i _ (by simp [hc]; rfl)
    obtain ⟨id2, r2, bl2, rfl, hbl2, hbe2, hrow2⟩ := hb i _ (by simp [hc2]; rfl)
    have g4 : IntKind.i64.wrap ((i : Int) + 1) = (i : Int) + 1 := wrap64 (by omega) (by omega)
    simp [h0, h1, h12, h13, indexAddrV, elemIs, hbl, hbe, hbl2, hbe2, hc, hc2, hrow, hrow2, encB]
    refine selS_intro (fun hd => ?_) (fun hd => ?_)
    · simp
      refine hr' _ _ ?_
      simp
      refine hQ _ _ _ (by simp) ?_
      have : ¬ xs = ys := fun h => by subst h; simp at hd
      simp [Tryz.f48, this]
    · have hxy : xs[i] = ys[i] := by
        simpa using hd
      simp [h0, h1, h12, h13, g4]
      exact hn' (j - 1) _ _ (by omega) ⟨i + 1, by omega, by simp [h0], by simp [h1], by simp [h12], by simp, rfl, by rw [List.take_add_one, List.take_add_one, heq]; simp [hc, hc2, hxy]⟩
  · simp at hc
    simp [h0, h1, h12, h13]
    refine he' _ _ _ ?_
    simp
    refine hQ _ _ _ (by simp) ?_
    have : xs = ys := by
      rw [List.take_of_length_le (by omega), List.take_of_length_le (by omega)] at heq
      exact heq
    simp [Tryz.f48, this]

abbrev IsPortS := IsSl 99 Port.enc
abbrev RdPortS := RdSl 99 Port.enc
abbrev RdLPortS := RdSl 999999 Port.enc
def PortS.mk' (xs : List Port) (k : Int) : List Port := marked Port.mk' 11 xs.length k
def PortS.mkN (xs : List Port) (k : Int) : Int := k + 11 * xs.length
def PortS.hd (xs : List Port) (k : Int) : Int := heldL Port.mk' 11 xs k
theorem PortS.hd_mk (xs : List Port) (k : Int) : PortS.hd (PortS.mk' xs k) k = PortS.mkN xs k := by simp [PortS.hd, PortS.mk', PortS.mkN]
theorem PortS.mk_sz (xs : List Port) (k : Int) : (PortS.mk' xs k).length = xs.length := by simp [PortS.mk']
theorem PortS.mkN_le {xs : List Port} {k : Int} (h : xs.length ≤ 1048576) : k ≤ PortS.mkN xs k ∧ PortS.mkN xs k ≤ k + 1000000000 := by unfold PortS.mkN; omega

theorem clonePortS {H : Heap} {q : Lf} {xs : List Port} (h : RdPortS H q xs) (hn : xs.length ≤ 1048576) : Runs env 126 [.w (.lf q)] H fun v H' => ∃ q' fp, v = .w (.lf q') ∧ IsPortS H' q' xs fp ∧ Fresh H H' fp := by
  obtain ⟨a, rfl, h⟩ := h
  refine Runs.walk ok126 Tryz.func126 rfl (by simp [Tryz.f126]) fun Q hQ => ?_
  simp only [Tryz.f126, strip, stripL, stripI, stripG, chkT, tagsB, tagsL, tagD, addT, tagA, lookN, tagOp, elmT, ty22, ty26, ty27, ty28, ty29, ty30, ty41, ty53, ty56, Nat.reduceEqDiff, if_false, reduceIte, Option.getD_some, Option.getD_none, dstAt, dstOk, Nat.reduceLT, decide_true, if_true]
  simp [binV]
  cases a with
  | none =>
    have : xs = [] := by
      cases xs with
      | nil => rfl
      | cons x xs => obtain ⟨_, _, _, h0, _⟩ := h 0 _ rfl; cases h0
    subst this
    simp
    refine hQ _ _ _ (by simp) ?_
    simp [Tryz.f126]
    exact ⟨_, ⟨none, rfl, Own.nil _ _⟩, Fresh.refl _⟩
  | some p =>
    simp
    refine stpL_append (rows := []) (ys := xs.map Port.enc) (Own.of (by simp)) (h.app _) rfl rfl rfl (by simp) (by simp; omega) rfl (by simp) fun a'' H'' fp'' ho'' hk'' hf'' => ?_
    simp
    refine hQ _ _ _ (by simp) ?_
    simp [Tryz.f126]
    have ho : IsPortS H'' (.sl a'' xs.length) xs fp'' := ⟨a'', rfl, by simpa using ho''⟩
    have hf : Fresh H H'' fp'' := Fresh.grow (fp := [H.length]) (by simp) hk'' hf''
    obtain ⟨f, h1, h2⟩ := ho.leave (ws := [W.lf (Lf.sl a'' xs.length)]) hf (by simp)
    exact ⟨f, h1, h2⟩

abbrev IsInS := IsSl 64 In.enc
abbrev RdInS := RdSl 64 In.enc
abbrev RdLInS := RdSl 999999 In.enc
def InS.mk' (xs : List In) (k : Int) : List In := marked In.mk' 8 xs.length k
def InS.mkN (xs : List In) (k : Int) : Int := k + 8 * xs.length
def InS.hd (xs : List In) (k : Int) : Int := heldL In.mk' 8 xs k
theorem InS.hd_mk (xs : List In) (k : Int) : InS.hd (InS.mk' xs k) k = InS.mkN xs k := by simp [InS.hd, InS.mk', InS.mkN]
theorem InS.mk_sz (xs : List In) (k : Int) : (InS.mk' xs k).length = xs.length := by simp [InS.mk']
theorem InS.mkN_le {xs : List In} {k : Int} (h : xs.length ≤ 1048576) : k ≤ InS.mkN xs k ∧ InS.mkN xs k ≤ k + 1000000000 := by unfold InS.mkN; omega

theorem cloneInS {H : Heap} {q : Lf} {xs : List In} (h : RdInS H q xs) (hn : xs.length ≤ 1048576) : Runs env 114 [.w (.lf q)] H fun v H' => ∃ q' fp, v = .w (.lf q') ∧ IsInS H' q' xs fp ∧ Fresh H H' fp := by
  obtain ⟨a, rfl, h⟩ := h
  refine Runs.walk ok114 Tryz.func114 rfl (by simp [Tryz.f114]) fun Q hQ => ?_
  simp only [Tryz.f114, strip, stripL, stripI, stripG, chkT, tagsB, tagsL, tagD, addT, tagA, lookN, tagOp, elmT, ty22, ty26, ty27, ty28, ty29, ty30, ty41, ty53, ty56, Nat.reduceEqDiff, if_false, reduceIte, Option.getD_some, Option.getD_none, dstAt, dstOk, Nat.reduceLT, decide_true, if_true]
  simp [binV]
  cases a with
  | none =>
    have : xs = [] := by
      cases xs with
      | nil => rfl
      | cons x xs => obtain ⟨_, _, _, h0, _⟩ := h 0 _ rfl; cases h0
    subst this
    simp
    refine hQ _ _ _ (by simp) ?_
    simp [Tryz.f114]
    exact ⟨_, ⟨none, rfl, Own.nil _ _⟩, Fresh.refl _⟩
  | some p =>
    simp
    refine stpL_append (rows := []) (ys := xs.map In.enc) (Own.of (by simp)) (h.app _) rfl rfl rfl (by simp) (by simp; omega) rfl (by simp) fun a'' H'' fp'' ho'' hk'' hf'' => ?_
    simp
    refine hQ _ _ _ (by simp) ?_
    simp [Tryz.f114]
    have ho : IsInS H'' (.sl a'' xs.length) xs fp'' := ⟨a'', rfl, by simpa using ho''⟩
    have hf : Fresh H H'' fp'' := Fresh.grow (fp := [H.length]) (by simp) hk'' hf''
    obtain ⟨f, h1, h2⟩ := ho.leave (ws := [W.lf (Lf.sl a'' xs.length)]) hf (by simp)
    exact ⟨f, h1, h2⟩

theorem equalInS {H : Heap} {q r : Lf} {xs ys : List In} (h : RdInS H q xs) (h2 : RdInS H r ys) (hn : xs.length ≤ 1048576) : run env 98 [.w (.lf q), .w (.lf r)] H = some (.bool (decide (xs = ys)), H) := by
  obtain ⟨a, rfl, ha⟩ := h
  obtain ⟨b, rfl, hb⟩ := h2
  refine run_walk ok98 Tryz.func98 rfl (by simp [Tryz.f98]) fun Q hQ => ?_
  simp only [Tryz.f98, strip, stripL, stripI, stripG, chkT, tagsB, tagsL, tagD, addT, tagA, lookN, tagOp, elmT, ty22, ty26, ty27, ty28, ty29, ty30, ty41, ty53, ty56, Nat.reduceEqDiff, if_false, reduceIte, Option.getD_some, Option.getD_none, dstAt, dstOk, Nat.reduceLT, decide_true, if_true]
  simp [builtinV, pureB, lenV]
  refine selS_intro (fun hl => ?_) (fun hl => ?_)
  · simp
    refine hQ _ _ _ (by simp) ?_
    simp at hl
    have : ¬ xs = ys := fun h => hl (by rw [h])
    simp [Tryz.f98, this]
  simp at hl
  simp [builtinV, pureB, lenV]
  refine wpS_loop (fun j tm H' => ∃ i, i + j = xs.length ∧ tm 0 = .w (.lf (.sl a xs.length)) ∧ tm 1 = .w (.lf (.sl b ys.length)) ∧ tm 12 = .int xs.length ∧ tm 13 = .int i ∧ H' = H ∧ xs.take i = ys.take i) xs.length (by rw [env_K]; omega) ⟨0, by simp, by simp, by simp, by simp, by simp, rfl, by simp⟩ ?_
  rintro j tm H' hj ⟨i, hij, h0, h1, h12, h13, rfl, heq⟩ Q' hn' he' hr'
  simp [h0, h1, h12, h13]
  refine selS_intro (fun hc => ?_) (fun hc => ?_)
  · simp at hc
    have hc2 : i < ys.length := by omega
    obtain ⟨id, r, bl, rfl, hbl, hbe, hrow⟩ := ha i _ (by simp [hc]; rfl)
    obtain ⟨id2, r2, bl2, rfl, hbl2, hbe2, hrow2⟩ := hb i _ (by simp [hc2]; rfl)
    have g4 : IntKind.i64.wrap ((i : Int) + 1) = (i : Int) + 1 := wrap64 (by omega) (by omega)
    simp [h0, h1, h12, h13, indexAddrV, elemIs, hbl, hbe, hbl2, hbe2, hc, hc2, hrow, hrow2, In.enc]
    refine selS_intro (fun hd => ?_) (fun hd => ?_)
    · simp
      refine hr' _ _ ?_
      simp
      refine hQ _ _ _ (by simp) ?_
      have : ¬ xs = ys := fun h => by subst h; simp at hd
      simp [Tryz.f98, this]
    · have hxy : xs[i] = ys[i] := by
        refine In.enc_inj ?_
        simpa [In.enc] using hd
      simp [h0, h1, h12, h13, g4]
      exact hn' (j - 1) _ _ (by omega) ⟨i + 1, by omega, by simp [h0], by simp [h1], by simp [h12], by simp, rfl, by rw [List.take_add_one, List.take_add_one, heq]; simp [hc, hc2, hxy]⟩
  · simp at hc
    simp [h0, h1, h12, h13]
    refine he' _ _ _ ?_
    simp
    refine hQ _ _ _ (by simp) ?_
    have : xs = ys := by
      rw [List.take_of_length_le (by omega), List.take_of_length_le (by omega)] at heq
      exact heq
    simp [Tryz.f98, this]

abbrev IsOutS := IsSl 62 Out.enc
abbrev RdOutS := RdSl 62 Out.enc
abbrev RdLOutS := RdSl 999999 Out.enc
def OutS.mk' (xs : List Out) (k : Int) : List Out := marked Out.mk' 8 xs.length k
def OutS.mkN (xs : List Out) (k : Int) : Int := k + 8 * xs.length
def OutS.hd (xs : List Out) (k : Int) : Int := heldL Out.mk' 8 xs k
theorem OutS.hd_mk (xs : List Out) (k : Int) : OutS.hd (OutS.mk' xs k) k = OutS.mkN xs k := by simp [OutS.hd, OutS.mk', OutS.mkN]
theorem OutS.mk_sz (xs : List Out) (k : Int) : (OutS.mk' xs k).length = xs.length := by simp [OutS.mk']
theorem OutS.mkN_le {xs : List Out} {k : Int} (h : xs.length ≤ 1048576) : k ≤ OutS.mkN xs k ∧ OutS.mkN xs k ≤ k + 1000000000 := by unfold OutS.mkN; omega

theorem cloneOutS {H : Heap} {q : Lf} {xs : List Out} (h : RdOutS H q xs) (hn : xs.length ≤ 1048576) : Runs env 97 [.w (.lf q)] H fun v H' => ∃ q' fp, v = .w (.lf q') ∧ IsOutS H' q' xs fp ∧ Fresh H H' fp := by
  obtain ⟨a, rfl, h⟩ := h
  refine Runs.walk ok97 Tryz.func97 rfl (by simp [Tryz.f97]) fun Q hQ => ?_
  simp only [Tryz.f97, strip, stripL, stripI, stripG, chkT, tagsB, tagsL, tagD, addT, tagA, lookN, tagOp, elmT, ty22, ty26, ty27, ty28, ty29, ty30, ty41, ty53, ty56, Nat.reduceEqDiff, if_false, reduceIte, Option.getD_some, Option.getD_none, dstAt, dstOk, Nat.reduceLT, decide_true, if_true]
  simp [binV]
  cases a with
  | none =>
    have : xs = [] := by
      cases xs with
      | nil => rfl
      | cons x xs => obtain ⟨_, _, _, h0, _⟩ := h 0 _ rfl; cases h0
    subst this
    simp
    refine hQ _ _ _ (by simp) ?_
    simp [Tryz.f97]
    exact ⟨_, ⟨none, rfl, Own.nil _ _⟩, Fresh.refl _⟩
  | some p =>
    simp
    refine stpL_append (rows := []) (ys := xs.map Out.enc) (Own.of (by simp)) (h.app _) rfl rfl rfl (by simp) (by simp; omega) rfl (by simp) fun a'' H'' fp'' ho'' hk'' hf'' => ?_
    simp
    refine hQ _ _ _ (by simp) ?_
    simp [Tryz.f97]
    have ho : IsOutS H'' (.sl a'' xs.length) xs fp'' := ⟨a'', rfl, by simpa using ho''⟩
    have hf : Fresh H H'' fp'' := Fresh.grow (fp := [H.length]) (by simp) hk'' hf''
    obtain ⟨f, h1, h2⟩ := ho.leave (ws := [W.lf (Lf.sl a'' xs.length)]) hf (by simp)
    exact ⟨f, h1, h2⟩

theorem equalOutS {H : Heap} {q r : Lf} {xs ys : List Out} (h : RdOutS H q xs) (h2 : RdOutS H r ys) (hn : xs.length ≤ 1048576) : run env 52 [.w (.lf q), .w (.lf r)] H = some (.bool (decide (xs = ys)), H) := by
  obtain ⟨a, rfl, ha⟩ := h
  obtain ⟨b, rfl, hb⟩ := h2
  refine run_walk ok52 Tryz.func52 rfl (by simp [Tryz.f52]) fun Q hQ => ?_
  simp only [Tryz.f52, strip, stripL, stripI, stripG, chkT, tagsB, tagsL, tagD, addT, tagA, lookN, tagOp, elmT, ty22, ty26, ty27, ty28, ty29, ty30, ty41, ty53, ty56, Nat.reduceEqDiff, if_false, reduceIte, Option.getD_some, Option.getD_none, dstAt, dstOk, Nat.reduceLT, decide_true, if_true]
  simp [builtinV, pureB, lenV]
  refine selS_intro (fun hl => ?_) (fun hl => ?_)
  · simp
    refine hQ _ _ _ (by simp) ?_
    simp at hl
    have : ¬ xs = ys := fun h => hl (by rw [h])
    simp [Tryz.f52, this]
  simp at hl
  simp [builtinV, pureB, lenV]
  refine wpS_loop (fun j tm H' => ∃ i, i + j = xs.length ∧ tm 0 = .w (.lf (.sl a xs.length)) ∧ tm 1 = .w (.lf (.sl b ys.length)) ∧ tm 12 = .int xs.length ∧ tm 13 = .int i ∧ H' = H ∧ xs.take i = ys.take i) xs.length (by rw [env_K]; omega) ⟨0, by simp, by simp, by simp, by simp, by simp, rfl, by simp⟩ ?_
  rintro j tm H' hj ⟨i, hij, h0, h1, h12, h13, rfl, heq⟩ Q' hn' he' hr'
  simp [h0, h1, h12, h13]
  refine selS_intro (fun hc => ?_) (fun hc => ?_)
  · simp at hc
    have hc2 : i < ys.length := by omega
    obtain ⟨id, r, bl, rfl, hbl, hbe, hrow⟩ := ha i _ (by simp [hc]; rfl)
    obtain ⟨id2, r2, bl2, rfl, hbl2, hbe2, hrow2⟩ := hb i _ (by simp [hc2]; rfl)
    have g4 : IntKind.i64.wrap ((i : Int) + 1) = (i : Int) + 1 := wrap64 (by omega) (by omega)
    simp [h0, h1, h12, h13, indexAddrV, elemIs, hbl, hbe, hbl2, hbe2, hc, hc2, hrow, hrow2, Out.enc]
    refine selS_intro (fun hd => ?_) (fun hd => ?_)
    · simp
      refine hr' _ _ ?_
      simp
      refine hQ _ _ _ (by simp) ?_
      have : ¬ xs = ys := fun h => by subst h; simp at hd
      simp [Tryz.f52, this]
    · have hxy : xs[i] = ys[i] := by
        refine Out.enc_inj ?_
        simpa [Out.enc] using hd
      simp [h0, h1, h12, h13, g4]
      exact hn' (j - 1) _ _ (by omega) ⟨i + 1, by omega, by simp [h0], by simp [h1], by simp [h12], by simp, rfl, by rw [List.take_add_one, List.take_add_one, heq]; simp [hc, hc2, hxy]⟩
  · simp at hc
    simp [h0, h1, h12, h13]
    refine he' _ _ _ ?_
    simp
    refine hQ _ _ _ (by simp) ?_
    have : xs = ys := by
      rw [List.take_of_length_le (by omega), List.take_of_length_le (by omega)] at heq
      exact heq
    simp [Tryz.f52, this]

abbrev IsWireS := IsSl 91 Wire.enc
abbrev RdWireS := RdSl 91 Wire.enc
abbrev RdLWireS := RdSl 999999 Wire.enc
def WireS.mk' (xs : List Wire) (k : Int) : List Wire := marked Wire.mk' 12 xs.length k
def WireS.mkN (xs : List Wire) (k : Int) : Int := k + 12 * xs.length
def WireS.hd (xs : List Wire) (k : Int) : Int := heldL Wire.mk' 12 xs k
theorem WireS.hd_mk (xs : List Wire) (k : Int) : WireS.hd (WireS.mk' xs k) k = WireS.mkN xs k := by simp [WireS.hd, WireS.mk', WireS.mkN]
theorem WireS.mk_sz (xs : List Wire) (k : Int) : (WireS.mk' xs k).length = xs.length := by simp [WireS.mk']
theorem WireS.mkN_le {xs : List Wire} {k : Int} (h : xs.length ≤ 1048576) : k ≤ WireS.mkN xs k ∧ WireS.mkN xs k ≤ k + 1000000000 := by unfold WireS.mkN; omega

theorem cloneWireS {H : Heap} {q : Lf} {xs : List Wire} (h : RdWireS H q xs) (hn : xs.length ≤ 1048576) : Runs env 112 [.w (.lf q)] H fun v H' => ∃ q' fp, v = .w (.lf q') ∧ IsWireS H' q' xs fp ∧ Fresh H H' fp := by
  obtain ⟨a, rfl, h⟩ := h
  refine Runs.walk ok112 Tryz.func112 rfl (by simp [Tryz.f112]) fun Q hQ => ?_
  simp only [Tryz.f112, strip, stripL, stripI, stripG, chkT, tagsB, tagsL, tagD, addT, tagA, lookN, tagOp, elmT, ty22, ty26, ty27, ty28, ty29, ty30, ty41, ty53, ty56, Nat.reduceEqDiff, if_false, reduceIte, Option.getD_some, Option.getD_none, dstAt, dstOk, Nat.reduceLT, decide_true, if_true]
  simp [binV]
  cases a with
  | none =>
    have : xs = [] := by
      cases xs with
      | nil => rfl
      | cons x xs => obtain ⟨_, _, _, h0, _⟩ := h 0 _ rfl; cases h0
    subst this
    simp
    refine hQ _ _ _ (by simp) ?_
    simp [Tryz.f112]
    exact ⟨_, ⟨none, rfl, Own.nil _ _⟩, Fresh.refl _⟩
  | some p =>
    simp
    refine stpL_append (rows := []) (ys := xs.map Wire.enc) (Own.of (by simp)) (h.app _) rfl rfl rfl (by simp) (by simp; omega) rfl (by simp) fun a'' H'' fp'' ho'' hk'' hf'' => ?_
    simp
    refine hQ _ _ _ (by simp) ?_
    simp [Tryz.f112]
    have ho : IsWireS H'' (.sl a'' xs.length) xs fp'' := ⟨a'', rfl, by simpa using ho''⟩
    have hf : Fresh H H'' fp'' := Fresh.grow (fp := [H.length]) (by simp) hk'' hf''
    obtain ⟨f, h1, h2⟩ := ho.leave (ws := [W.lf (Lf.sl a'' xs.length)]) hf (by simp)
    exact ⟨f, h1, h2⟩

abbrev IsDeedS := IsSl 66 Deed.enc
abbrev RdDeedS := RdSl 66 Deed.enc
abbrev RdLDeedS := RdSl 999999 Deed.enc
def DeedS.mk' (xs : List Deed) (k : Int) : List Deed := marked Deed.mk' 10 xs.length k
def DeedS.mkN (xs : List Deed) (k : Int) : Int := k + 10 * xs.length
def DeedS.hd (xs : List Deed) (k : Int) : Int := heldL Deed.mk' 10 xs k
theorem DeedS.hd_mk (xs : List Deed) (k : Int) : DeedS.hd (DeedS.mk' xs k) k = DeedS.mkN xs k := by simp [DeedS.hd, DeedS.mk', DeedS.mkN]
theorem DeedS.mk_sz (xs : List Deed) (k : Int) : (DeedS.mk' xs k).length = xs.length := by simp [DeedS.mk']
theorem DeedS.mkN_le {xs : List Deed} {k : Int} (h : xs.length ≤ 1048576) : k ≤ DeedS.mkN xs k ∧ DeedS.mkN xs k ≤ k + 1000000000 := by unfold DeedS.mkN; omega

def Reg.ok (r : Reg) : Bool := decide (1 ≤ r.epoch) && decide (r.epoch ≤ 100000) && (decide (0 ≤ r.owner) && decide (r.owner ≤ 1)) && (decide (0 ≤ r.pair) && decide (r.pair ≤ 100000))

theorem specRegOk (H : Heap) (r : Reg) : run env 75 [.agg r.enc] H = some (.bool r.ok, H) := by
  refine run_walk ok75 Tryz.func75 rfl (by simp [Tryz.f75]) fun Q hQ => ?_
  simp only [Tryz.f75, strip, stripL, stripI, stripG, chkT, tagsB, tagsL, tagD, addT, tagA, lookN, tagOp, elmT, ty22, ty26, ty27, ty28, ty29, ty30, ty41, ty53, ty56, Nat.reduceEqDiff, if_false, reduceIte, Option.getD_some, Option.getD_none, dstAt, dstOk, Nat.reduceLT, decide_true, if_true]
  simp [Reg.enc, l1In]
  repeat' (first | (refine gdL_t (fun h => ?_) (fun h => ?_) <;> simp [h, l1In]) | (refine gdL_f (fun h => ?_) (fun h => ?_) <;> simp [h, l1In]) | (refine selS_intro (fun h => ?_) (fun h => ?_) <;> simp [h, l1In]))
  all_goals (refine hQ _ _ _ (by simp) ?_)
  all_goals (clear hQ; simp_all [Tryz.f75, Reg.ok] <;> omega)

theorem implRegOk (H : Heap) (r : Reg) : run env 62 [.agg r.enc] H = some (.bool r.ok, H) := by
  refine run_walk ok62 Tryz.func62 rfl (by simp [Tryz.f62]) fun Q hQ => ?_
  simp only [Tryz.f62, strip, stripL, stripI, stripG, chkT, tagsB, tagsL, tagD, addT, tagA, lookN, tagOp, elmT, ty22, ty26, ty27, ty28, ty29, ty30, ty41, ty53, ty56, Nat.reduceEqDiff, if_false, reduceIte, Option.getD_some, Option.getD_none, dstAt, dstOk, Nat.reduceLT, decide_true, if_true]
  simp [Reg.enc, inRange, isSide, isNum]
  repeat' (first | (refine gdL_t (fun h => ?_) (fun h => ?_) <;> simp [h, inRange, isSide, isNum]) | (refine gdL_f (fun h => ?_) (fun h => ?_) <;> simp [h, inRange, isSide, isNum]) | (refine selS_intro (fun h => ?_) (fun h => ?_) <;> simp [h, inRange, isSide, isNum]))
  all_goals (refine hQ _ _ _ (by simp) ?_)
  all_goals (clear hQ; simp_all [Tryz.f62, Reg.ok] <;> omega)

structure Bridge where
  id : Int
  ports : List Port
  deriving DecidableEq, Inhabited
def Bridge.enc (b : Bridge) (a : Option (Nat × Nat)) : List Lf := [.i .i64 b.id, .sl a b.ports.length]
@[simp] theorem Bridge.enc_len (b : Bridge) (a : Option (Nat × Nat)) : (b.enc a).length = 2 := rfl
@[simp] theorem Bridge.enc_take (b : Bridge) (a : Option (Nat × Nat)) : List.take 2 (b.enc a) = b.enc a := rfl

structure Minder where
  up : Bool
  life : Int
  epoch : Int
  log : List In
  said : Int
  acked : Int
  ackLife : Int
  deriving DecidableEq
def Minder.enc (m : Minder) (a : Option (Nat × Nat)) : List Lf := [.b m.up, .i .i64 m.life, .i .i64 m.epoch, .sl a m.log.length, .i .i64 m.said, .i .i64 m.acked, .i .i64 m.ackLife]
@[simp] theorem Minder.enc_len (m : Minder) (a : Option (Nat × Nat)) : (m.enc a).length = 7 := rfl
@[simp] theorem Minder.enc_take (m : Minder) (a : Option (Nat × Nat)) : List.take 7 (m.enc a) = m.enc a := rfl

def ready (m : Minder) (pair : Int) : Bool := m.up && decide (0 < m.epoch) && decide (m.said < m.log.length) && (decide (pair = 0) || decide (m.ackLife = pair) && decide (m.said < m.acked))

theorem specReady (H : Heap) (a : Option (Nat × Nat)) (m : Minder) (pair : Int) : run env 148 [.agg (m.enc a), .int pair] H = some (.bool (ready m pair), H) := by
  obtain ⟨a1, a2, a3, a4, a5, a6, a7⟩ := m
  refine run_walk ok148 Tryz.func148 rfl (by simp [Tryz.f148]) fun Q hQ => ?_
  simp only [Tryz.f148, strip, stripL, stripI, stripG, chkT, tagsB, tagsL, tagD, addT, tagA, lookN, tagOp, elmT, ty22, ty26, ty27, ty28, ty29, ty30, ty41, ty53, ty56, Nat.reduceEqDiff, if_false, reduceIte, Option.getD_some, Option.getD_none, dstAt, dstOk, Nat.reduceLT, decide_true, if_true]
  simp [Minder.enc, builtinV, pureB, lenV]
  repeat' (first | (refine gdL_t (fun h => ?_) (fun h => ?_) <;> simp [h, builtinV, pureB, lenV]) | (refine gdL_f (fun h => ?_) (fun h => ?_) <;> simp [h, builtinV, pureB, lenV]) | (refine selS_intro (fun h => ?_) (fun h => ?_) <;> simp [h, builtinV, pureB, lenV]))
  all_goals (refine hQ _ _ _ (by simp) ?_)
  all_goals (clear hQ; simp_all [Tryz.f148, ready])
  all_goals omega

def Vec.ok (v : Vec) : Bool := (decide (1 ≤ v.root) && decide (v.root ≤ 9)) && (decide (1 ≤ v.bridge) && decide (v.bridge ≤ 9)) && decide (v.root ≤ v.bridge) && (decide (0 ≤ v.cost) && decide (v.cost ≤ 20)) && (decide (v.cost = 0) == decide (v.root = v.bridge)) && (decide (0 ≤ v.port) && decide (v.port ≤ 3))

theorem implVecOk (H : Heap) (v : Vec) : run env 128 [.agg v.enc] H = some (.bool v.ok, H) := by
  obtain ⟨a1, a2, a3, a4⟩ := v
  refine run_walk ok128 Tryz.func128 rfl (by simp [Tryz.f128]) fun Q hQ => ?_
  simp only [Tryz.f128, strip, stripL, stripI, stripG, chkT, tagsB, tagsL, tagD, addT, tagA, lookN, tagOp, elmT, ty22, ty26, ty27, ty28, ty29, ty30, ty41, ty53, ty56, Nat.reduceEqDiff, if_false, reduceIte, Option.getD_some, Option.getD_none, dstAt, dstOk, Nat.reduceLT, decide_true, if_true]
  simp [Vec.enc, inRange, isPort]
  repeat' (first | (refine gdL_t (fun h => ?_) (fun h => ?_) <;> simp [h, inRange, isPort]) | (refine gdL_f (fun h => ?_) (fun h => ?_) <;> simp [h, inRange, isPort]) | (refine selS_intro (fun h => ?_) (fun h => ?_) <;> simp [h, inRange, isPort]))
  all_goals (refine hQ _ _ _ (by simp) ?_)
  all_goals (clear hQ; simp_all [Tryz.f128, Vec.ok])
  all_goals (first | omega | (intros; omega))

theorem specVecOk (H : Heap) (v : Vec) : run env 136 [.agg v.enc] H = some (.bool v.ok, H) := by
  obtain ⟨a1, a2, a3, a4⟩ := v
  refine run_walk ok136 Tryz.func136 rfl (by simp [Tryz.f136]) fun Q hQ => ?_
  simp only [Tryz.f136, strip, stripL, stripI, stripG, chkT, tagsB, tagsL, tagD, addT, tagA, lookN, tagOp, elmT, ty22, ty26, ty27, ty28, ty29, ty30, ty41, ty53, ty56, Nat.reduceEqDiff, if_false, reduceIte, Option.getD_some, Option.getD_none, dstAt, dstOk, Nat.reduceLT, decide_true, if_true]
  simp [Vec.enc, l1In]
  repeat' (first | (refine gdL_t (fun h => ?_) (fun h => ?_) <;> simp [h, l1In]) | (refine gdL_f (fun h => ?_) (fun h => ?_) <;> simp [h, l1In]) | (refine selS_intro (fun h => ?_) (fun h => ?_) <;> simp [h, l1In]))
  all_goals (refine hQ _ _ _ (by simp) ?_)
  all_goals (clear hQ; simp_all [Tryz.f136, Vec.ok])
  all_goals (first | omega | (intros; omega))

def In.ok (x : In) : Bool := if x.kind = 1 then (decide (0 ≤ x.port) && decide (x.port ≤ 3)) && x.vec.ok && (decide (0 ≤ x.hops) && decide (x.hops ≤ 8)) && !x.up
  else if x.kind = 3 then (decide (0 ≤ x.port) && decide (x.port ≤ 3)) && decide (x.vec = ⟨0, 0, 0, 0⟩) && decide (x.hops = 0)
  else decide (x = ⟨2, 0, ⟨0, 0, 0, 0⟩, 0, false⟩)

theorem implInOk (H : Heap) (x : In) : run env 94 [.agg x.enc] H = some (.bool x.ok, H) := by
  obtain ⟨a1, a2, ⟨b1, b2, b3, b4⟩, a4, a5⟩ := x
  have e := fun H => implVecOk H ⟨b1, b2, b3, b4⟩
  simp only [Vec.enc] at e
  refine run_walk ok94 Tryz.func94 rfl (by simp [Tryz.f94]) fun Q hQ => ?_
  simp only [Tryz.f94, strip, stripL, stripI, stripG, chkT, tagsB, tagsL, tagD, addT, tagA, lookN, tagOp, elmT, ty22, ty26, ty27, ty28, ty29, ty30, ty41, ty53, ty56, Nat.reduceEqDiff, if_false, reduceIte, Option.getD_some, Option.getD_none, dstAt, dstOk, Nat.reduceLT, decide_true, if_true]
  simp [In.enc, isPort, isHops, e]
  repeat' (first | (refine gdL_t (fun h => ?_) (fun h => ?_) <;> simp [h, isPort, isHops, e]) | (refine gdL_f (fun h => ?_) (fun h => ?_) <;> simp [h, isPort, isHops, e]) | (refine selS_intro (fun h => ?_) (fun h => ?_) <;> simp [h, isPort, isHops, e]))
  all_goals (refine hQ _ _ _ (by simp) ?_)
  all_goals (clear hQ; simp_all [Tryz.f94, In.ok])
  all_goals (first | (intros; exfalso; omega) | simp [Bool.and_assoc])

theorem specInOk (H : Heap) (x : In) : run env 99 [.agg x.enc] H = some (.bool x.ok, H) := by
  obtain ⟨a1, a2, ⟨b1, b2, b3, b4⟩, a4, a5⟩ := x
  have e := fun H => specVecOk H ⟨b1, b2, b3, b4⟩
  simp only [Vec.enc] at e
  refine run_walk ok99 Tryz.func99 rfl (by simp [Tryz.f99]) fun Q hQ => ?_
  simp only [Tryz.f99, strip, stripL, stripI, stripG, chkT, tagsB, tagsL, tagD, addT, tagA, lookN, tagOp, elmT, ty22, ty26, ty27, ty28, ty29, ty30, ty41, ty53, ty56, Nat.reduceEqDiff, if_false, reduceIte, Option.getD_some, Option.getD_none, dstAt, dstOk, Nat.reduceLT, decide_true, if_true]
  simp [In.enc, l1In, e]
  repeat' (first | (refine gdL_t (fun h => ?_) (fun h => ?_) <;> simp [h, l1In, e]) | (refine gdL_f (fun h => ?_) (fun h => ?_) <;> simp [h, l1In, e]) | (refine selS_intro (fun h => ?_) (fun h => ?_) <;> simp [h, l1In, e]))
  all_goals (refine hQ _ _ _ (by simp) ?_)
  all_goals (clear hQ; simp_all [Tryz.f99, In.ok])
  all_goals (first | (intros; exfalso; omega) | simp [Bool.and_assoc])

def IsBridge (H : Heap) (l : List Lf) (x : Bridge) (fp : List Nat) : Prop := ∃ a, l = x.enc a ∧ Own H 99 a (x.ports.map Port.enc) fp
def RdBridge (H : Heap) (l : List Lf) (x : Bridge) : Prop := ∃ a, l = x.enc a ∧ Sl H 99 a (x.ports.map Port.enc)
def RdLBridge (H : Heap) (l : List Lf) (x : Bridge) : Prop := ∃ a, l = x.enc a ∧ Sl H 999999 a (x.ports.map Port.enc)
abbrev Bridge.sz (x : Bridge) : Nat := x.ports.length
def Bridge.fit (x : Bridge) : Prop := x.ports.length ≤ maxLen
section
variable {H H' : Heap} {l : List Lf} {x : Bridge} {fp : List Nat}
theorem IsBridge.keep {f : List Nat} (h : IsBridge H l x fp) (hk : Keep f H H') (hd : ∀ i ∈ fp, i ∉ f) : IsBridge H' l x fp := let ⟨a, h1, h2⟩ := h; ⟨a, h1, h2.keep hk hd⟩
theorem IsBridge.app (h : IsBridge H l x fp) (G : Heap) : IsBridge (H ++ G) l x fp := let ⟨a, h1, h2⟩ := h; ⟨a, h1, h2.app G⟩
theorem IsBridge.lt (h : IsBridge H l x fp) : ∀ i ∈ fp, i < H.length := let ⟨_, _, h2⟩ := h; h2.lt
theorem IsBridge.nodup (h : IsBridge H l x fp) : fp.Nodup := let ⟨_, _, h2⟩ := h; h2.nodup
theorem IsBridge.rd (h : IsBridge H l x fp) : RdBridge H l x := let ⟨a, h1, h2⟩ := h; ⟨a, h1, h2.sl⟩
theorem RdBridge.base (h : RdBridge H l x) (hk : Keep [] H H') : RdBridge H' l x := let ⟨a, h1, h2⟩ := h; ⟨a, h1, h2.keep hk (by simp)⟩
theorem RdBridge.app (h : RdBridge H l x) (G : Heap) : RdBridge (H ++ G) l x := h.base (Keep.app _ _ _)
theorem RdLBridge.base (h : RdLBridge H l x) (hk : Keep [] H H') : RdLBridge H' l x := let ⟨a, h1, h2⟩ := h; ⟨a, h1, h2.keep hk (by simp)⟩
theorem RdLBridge.app (h : RdLBridge H l x) (G : Heap) : RdLBridge (H ++ G) l x := h.base (Keep.app _ _ _)
theorem IsBridge.len (h : IsBridge H l x fp) : l.length = 2 := by obtain ⟨a, rfl, -⟩ := h; rfl
theorem RdLBridge.len (h : RdLBridge H l x) : l.length = 2 := by obtain ⟨a, rfl, -⟩ := h; rfl
theorem RdBridge.len (h : RdBridge H l x) : l.length = 2 := by obtain ⟨a, rfl, -⟩ := h; rfl
theorem IsBridge.free (h : IsBridge H' l x fp) (hr : l.all refFree = true) (H2 : Heap) : IsBridge H2 l x [] := by
  obtain ⟨a, rfl, h2⟩ := h
  exact ⟨a, rfl, h2.free (n := x.ports.length) (by simp [Bridge.enc] at hr; exact hr) H2⟩
theorem IsBridge.leave {ws : List W} (h : IsBridge H' l x fp) (hf : Fresh H H' fp) (hw : ws.all W.free = true → l.all refFree = true) : ∃ fp', IsBridge (leave H H' ws) l x fp' ∧ Fresh H (leave H H' ws) fp' := by
  rcases leave_opt H H' ws with e | ⟨e, hr⟩ <;> rw [e]
  · exact ⟨fp, h, hf⟩
  · exact ⟨[], h.free (hw hr) H, Fresh.refl H⟩
end

def IsMinder (H : Heap) (l : List Lf) (x : Minder) (fp : List Nat) : Prop := ∃ a, l = x.enc a ∧ Own H 64 a (x.log.map In.enc) fp
def RdMinder (H : Heap) (l : List Lf) (x : Minder) : Prop := ∃ a, l = x.enc a ∧ Sl H 64 a (x.log.map In.enc)
def RdLMinder (H : Heap) (l : List Lf) (x : Minder) : Prop := ∃ a, l = x.enc a ∧ Sl H 999999 a (x.log.map In.enc)
abbrev Minder.sz (x : Minder) : Nat := x.log.length
def Minder.fit (x : Minder) : Prop := x.log.length ≤ maxLen
section
variable {H H' : Heap} {l : List Lf} {x : Minder} {fp : List Nat}
theorem IsMinder.keep {f : List Nat} (h : IsMinder H l x fp) (hk : Keep f H H') (hd : ∀ i ∈ fp, i ∉ f) : IsMinder H' l x fp := let ⟨a, h1, h2⟩ := h; ⟨a, h1, h2.keep hk hd⟩
theorem IsMinder.app (h : IsMinder H l x fp) (G : Heap) : IsMinder (H ++ G) l x fp := let ⟨a, h1, h2⟩ := h; ⟨a, h1, h2.app G⟩
theorem IsMinder.lt (h : IsMinder H l x fp) : ∀ i ∈ fp, i < H.length := let ⟨_, _, h2⟩ := h; h2.lt
theorem IsMinder.nodup (h : IsMinder H l x fp) : fp.Nodup := let ⟨_, _, h2⟩ := h; h2.nodup
theorem IsMinder.rd (h : IsMinder H l x fp) : RdMinder H l x := let ⟨a, h1, h2⟩ := h; ⟨a, h1, h2.sl⟩
theorem RdMinder.base (h : RdMinder H l x) (hk : Keep [] H H') : RdMinder H' l x := let ⟨a, h1, h2⟩ := h; ⟨a, h1, h2.keep hk (by simp)⟩
theorem RdMinder.app (h : RdMinder H l x) (G : Heap) : RdMinder (H ++ G) l x := h.base (Keep.app _ _ _)
theorem RdLMinder.base (h : RdLMinder H l x) (hk : Keep [] H H') : RdLMinder H' l x := let ⟨a, h1, h2⟩ := h; ⟨a, h1, h2.keep hk (by simp)⟩
theorem RdLMinder.app (h : RdLMinder H l x) (G : Heap) : RdLMinder (H ++ G) l x := h.base (Keep.app _ _ _)
theorem IsMinder.len (h : IsMinder H l x fp) : l.length = 7 := by obtain ⟨a, rfl, -⟩ := h; rfl
theorem RdLMinder.len (h : RdLMinder H l x) : l.length = 7 := by obtain ⟨a, rfl, -⟩ := h; rfl
theorem RdMinder.len (h : RdMinder H l x) : l.length = 7 := by obtain ⟨a, rfl, -⟩ := h; rfl
theorem IsMinder.free (h : IsMinder H' l x fp) (hr : l.all refFree = true) (H2 : Heap) : IsMinder H2 l x [] := by
  obtain ⟨a, rfl, h2⟩ := h
  exact ⟨a, rfl, h2.free (n := x.log.length) (by simp [Minder.enc] at hr; exact hr) H2⟩
theorem IsMinder.leave {ws : List W} (h : IsMinder H' l x fp) (hf : Fresh H H' fp) (hw : ws.all W.free = true → l.all refFree = true) : ∃ fp', IsMinder (leave H H' ws) l x fp' ∧ Fresh H (leave H H' ws) fp' := by
  rcases leave_opt H H' ws with e | ⟨e, hr⟩ <;> rw [e]
  · exact ⟨fp, h, hf⟩
  · exact ⟨[], h.free (hw hr) H, Fresh.refl H⟩
end

def logOk (xs : List In) : Bool := xs.all In.ok && decide ((xs.length : Int) ≤ 60)

theorem implLogOk (H : Heap) (a : Option (Nat × Nat)) (xs : List In) (h : Sl H 64 a (xs.map In.enc)) (hn : xs.length ≤ 2000000) :
    run env 65 [.w (.lf (.sl a xs.length))] H = some (.bool (logOk xs), H) := by
  refine run_walk ok65 Tryz.func65 rfl (by simp [Tryz.f65]) fun Q hQ => ?_
  simp only [Tryz.f65, strip, stripL, stripI, stripG, chkT, tagsB, tagsL, tagD, addT, tagA, lookN, tagOp, elmT, ty22, ty26, ty27, ty28, ty29, ty30, ty41, ty53, ty56, Nat.reduceEqDiff, if_false, reduceIte, Option.getD_some, Option.getD_none, dstAt, dstOk, Nat.reduceLT, decide_true, if_true]
  simp [builtinV, pureB, lenV]
  refine wpS_loop (fun j tm H' => ∃ i G, i + j = xs.length ∧ tm 0 = .w (.lf (.sl a xs.length)) ∧ tm 5 = .w (.lf (.sl a xs.length)) ∧ tm 6 = .int xs.length ∧ tm 7 = .int i ∧ H' = H ++ G ∧ (xs.take i).all In.ok = true) xs.length (by rw [env_K]; omega) ⟨0, [], by simp, by simp, by simp, by simp, by simp, by simp, by simp⟩ ?_
  rintro j tm H' hj ⟨i, G, hij, h0, h5, h6, h7, rfl, hall⟩ Q' hn' he' hr'
  simp [h0, h5, h6, h7, builtinV, pureB, lenV]
  refine selS_intro (fun hc => ?_) (fun hc => ?_)
  · simp at hc
    obtain ⟨id, r, bl, rfl, hbl, hbe, hrow⟩ := h i _ (by simp [hc]; rfl)
    have hid := blkAt_len hbl
    have g4 : IntKind.i64.wrap ((i : Int) + 1) = (i : Int) + 1 := wrap64 (by omega) (by omega)
    simp [h0, h5, h6, h7, indexAddrV, elemIs, hid, hbl, hbe, hc, hrow, implInOk]
    refine selS_intro (fun hd => ?_) (fun hd => ?_)
    · simp
      refine hr' _ _ ?_
      simp
      refine hQ _ _ _ (by simp) ?_
      have : xs.all In.ok = false := List.all_eq_false.2 ⟨xs[i], by simp, by simpa using hd⟩
      simp [Tryz.f65, this, logOk]
    · simp at hd
      simp [h0, h5, h6, h7, g4]
      refine hn' (j - 1) _ _ (by omega) ⟨i + 1, _, by omega, by simp [h0], by simp [h5], by simp [h6], by simp, rfl, ?_⟩
      rw [List.take_add_one, List.all_append, hall]
      simp [hc, hd]
  · simp at hc
    simp [h0, h5, h6, h7]
    refine he' _ _ _ ?_
    simp [h0, builtinV, pureB, lenV]
    refine hQ _ _ _ (by simp) ?_
    rw [List.take_of_length_le (by omega)] at hall
    simp [Tryz.f65, hall, logOk]

theorem specLogOk (H : Heap) (a : Option (Nat × Nat)) (xs : List In) (h : Sl H 64 a (xs.map In.enc)) (hn : xs.length ≤ 2000000) :
    run env 78 [.w (.lf (.sl a xs.length))] H = some (.bool (logOk xs), H) := by
  refine run_walk ok78 Tryz.func78 rfl (by simp [Tryz.f78]) fun Q hQ => ?_
  simp only [Tryz.f78, strip, stripL, stripI, stripG, chkT, tagsB, tagsL, tagD, addT, tagA, lookN, tagOp, elmT, ty22, ty26, ty27, ty28, ty29, ty30, ty41, ty53, ty56, Nat.reduceEqDiff, if_false, reduceIte, Option.getD_some, Option.getD_none, dstAt, dstOk, Nat.reduceLT, decide_true, if_true]
  simp [builtinV, pureB, lenV]
  refine wpS_loop (fun j tm H' => ∃ i, i + j = xs.length ∧ tm 0 = .w (.lf (.sl a xs.length)) ∧ tm 3 = .int i ∧ H' = H ∧ (xs.take i).all In.ok = true) xs.length (by rw [env_K]; omega) ⟨0, by simp, by simp, by simp, rfl, by simp⟩ ?_
  rintro j tm H' hj ⟨i, hij, h0, h3, rfl, hall⟩ Q' hn' he' hr'
  simp [h0, h3, builtinV, pureB, lenV]
  refine selS_intro (fun hc => ?_) (fun hc => ?_)
  · simp at hc
    obtain ⟨id, r, bl, rfl, hbl, hbe, hrow⟩ := h i _ (by simp [hc]; rfl)
    have g4 : IntKind.i64.wrap ((i : Int) + 1) = (i : Int) + 1 := wrap64 (by omega) (by omega)
    simp [h0, h3, indexAddrV, elemIs, hbl, hbe, hc, hrow, specInOk]
    refine selS_intro (fun hd => ?_) (fun hd => ?_)
    · simp
      refine hr' _ _ ?_
      simp
      refine hQ _ _ _ (by simp) ?_
      have : xs.all In.ok = false := List.all_eq_false.2 ⟨xs[i], by simp, by simpa using hd⟩
      simp [Tryz.f78, this, logOk]
    · simp at hd
      simp [h0, h3, g4]
      refine hn' (j - 1) _ _ (by omega) ⟨i + 1, by omega, by simp [h0], by simp, rfl, ?_⟩
      rw [List.take_add_one, List.all_append, hall]
      simp [hc, hd]
  · simp at hc
    simp [h0, h3]
    refine he' _ _ _ ?_
    simp [h0, builtinV, pureB, lenV]
    refine hQ _ _ _ (by simp) ?_
    rw [List.take_of_length_le (by omega)] at hall
    simp [Tryz.f78, hall, logOk]

def Minder.ok (m : Minder) : Bool := (decide (0 ≤ m.life) && decide (m.life ≤ 100000)) && (decide (0 ≤ m.epoch) && decide (m.epoch ≤ 100000)) && (decide (0 ≤ m.ackLife) && decide (m.ackLife ≤ 100000)) && logOk m.log &&
  (decide (0 ≤ m.said) && decide (m.said ≤ m.log.length)) && (decide (0 ≤ m.acked) && decide (m.acked ≤ m.log.length)) && (m.up || decide (m.epoch = 0) && decide ((m.log.length : Int) = 0) && decide (m.ackLife = 0))

theorem implMinderOk (H : Heap) (a : Option (Nat × Nat)) (m : Minder) (h : Sl H 64 a (m.log.map In.enc)) (hn : m.log.length ≤ 2000000) :
    run env 63 [.agg (m.enc a)] H = some (.bool m.ok, H) := by
  have e := fun G => implLogOk (H ++ G) a m.log (h.app _) hn
  obtain ⟨a1, a2, a3, a4, a5, a6, a7⟩ := m
  simp only at e
  refine run_walk ok63 Tryz.func63 rfl (by simp [Tryz.f63]) fun Q hQ => ?_
  simp only [Tryz.f63, strip, stripL, stripI, stripG, chkT, tagsB, tagsL, tagD, addT, tagA, lookN, tagOp, elmT, ty22, ty26, ty27, ty28, ty29, ty30, ty41, ty53, ty56, Nat.reduceEqDiff, if_false, reduceIte, Option.getD_some, Option.getD_none, dstAt, dstOk, Nat.reduceLT, decide_true, if_true]
  simp [Minder.enc, isNum]
  repeat' (first | (refine gdL_t (fun h => ?_) (fun h => ?_) <;> simp [h, isNum, inRange, e, builtinV, pureB, lenV]) | (refine gdL_f (fun h => ?_) (fun h => ?_) <;> simp [h, isNum, inRange, e, builtinV, pureB, lenV]) | (refine selS_intro (fun h => ?_) (fun h => ?_) <;> simp [h, isNum, inRange, e, builtinV, pureB, lenV]))
  all_goals (refine hQ _ _ _ (by simp) ?_)
  all_goals (clear hQ; simp_all [Tryz.f63, Minder.ok])
  all_goals (try (intros; exfalso; omega))

theorem specMinderOk (H : Heap) (a : Option (Nat × Nat)) (m : Minder) (h : Sl H 64 a (m.log.map In.enc)) (hn : m.log.length ≤ 2000000) :
    run env 76 [.agg (m.enc a)] H = some (.bool m.ok, H) := by
  have e := fun G => specLogOk (H ++ G) a m.log (h.app _) hn
  obtain ⟨a1, a2, a3, a4, a5, a6, a7⟩ := m
  simp only at e
  refine run_walk ok76 Tryz.func76 rfl (by simp [Tryz.f76]) fun Q hQ => ?_
  simp only [Tryz.f76, strip, stripL, stripI, stripG, chkT, tagsB, tagsL, tagD, addT, tagA, lookN, tagOp, elmT, ty22, ty26, ty27, ty28, ty29, ty30, ty41, ty53, ty56, Nat.reduceEqDiff, if_false, reduceIte, Option.getD_some, Option.getD_none, dstAt, dstOk, Nat.reduceLT, decide_true, if_true]
  simp [Minder.enc, l1In]
  repeat' (first | (refine gdL_t (fun h => ?_) (fun h => ?_) <;> simp [h, l1In, e, builtinV, pureB, lenV]) | (refine gdL_f (fun h => ?_) (fun h => ?_) <;> simp [h, l1In, e, builtinV, pureB, lenV]) | (refine selS_intro (fun h => ?_) (fun h => ?_) <;> simp [h, l1In, e, builtinV, pureB, lenV]))
  all_goals (refine hQ _ _ _ (by simp) ?_)
  all_goals (clear hQ; simp_all [Tryz.f76, Minder.ok])
  all_goals (try (intros; exfalso; omega))

def gates (b : Bridge) : List Bool := b.ports.map Port.opn
@[simp] theorem gates_len (b : Bridge) : (gates b).length = b.ports.length := by simp [gates]

theorem implGates (H : Heap) (a : Option (Nat × Nat)) (b : Bridge) (h : Sl H 99 a (b.ports.map Port.enc)) (hn : b.ports.length ≤ 1048576) :
    Runs env 49 [.agg (b.enc a)] H fun v H' => ∃ a' fp, v = .w (.lf (.sl a' (gates b).length)) ∧ Own H' 4 a' ((gates b).map encB) fp ∧ Fresh H H' fp := by
  refine Runs.walk ok49 Tryz.func49 rfl (by simp [Tryz.f49]) fun Q hQ => ?_
  simp only [Tryz.f49, strip, stripL, stripI, stripG, chkT, tagsB, tagsL, tagD, addT, tagA, lookN, tagOp, elmT, ty22, ty26, ty27, ty28, ty29, ty30, ty41, ty53, ty56, Nat.reduceEqDiff, if_false, reduceIte, Option.getD_some, Option.getD_none, dstAt, dstOk, Nat.reduceLT, decide_true, if_true]
  simp [Bridge.enc, builtinV, pureB, lenV]
  refine wpS_loop (fun j tm H' => ∃ i a' fp, i + j = b.ports.length ∧ tm 7 = .w (.lf (.sl a b.ports.length)) ∧ tm 8 = .int b.ports.length ∧ tm 9 = .int i ∧ tm 3 = .w (.lf (.sl a' i)) ∧ Own H' 4 a' (((gates b).take i).map encB) fp ∧ Fresh H H' fp) b.ports.length (by rw [env_K]; omega)
    ⟨0, none, [], by simp, by simp, by simp, by simp, by simp, Own.nil _ _, Fresh.app _ _ (by simp)⟩ ?_
  rintro j tm H' hj ⟨i, a', fp, hij, h7, h8, h9, h3, ho, ⟨⟨G, rfl⟩, hf⟩⟩ Q' hn' he' hr'
  simp [h7, h8, h9]
  refine selS_intro (fun hc => ?_) (fun hc => ?_)
  · simp at hc
    obtain ⟨id, r, bl, rfl, hbl, hbe, hrow⟩ := h i _ (by simp [hc]; rfl)
    have hid := blkAt_len hbl
    have g4 : IntKind.i64.wrap ((i : Int) + 1) = (i : Int) + 1 := wrap64 (by omega) (by omega)
    simp [h7, h8, h9, h3, indexAddrV, elemIs, hid, hbl, hbe, hc, hrow, Port.enc]
    refine stpL_append (rows := ((gates b).take i).map encB) (ys := [[.b b.ports[i].opn]]) (ho.app2 _) (Sl.of (by simp)) rfl rfl rfl (by simp) (by simp; omega) (by simp; omega) rfl fun a'' H'' fp'' ho'' hk'' hf'' => ?_
    simp [h7, h8, h9, g4]
    refine hn' (j - 1) _ _ (by omega) ⟨i + 1, a'', fp'', by omega, by simp [h7], by simp [h8], by simp, by simp, ?_, Fresh.grow hf hk'' hf''⟩
    simpa [List.take_add_one, gates, hc, encB] using ho''
  · simp at hc
    obtain rfl : i = b.ports.length := by omega
    simp [h7, h8, h9]
    refine he' _ _ _ ?_
    simp [h3]
    refine hQ _ _ _ (by simp) ?_
    rw [List.take_of_length_le (by simp)] at ho
    simp [Tryz.f49]
    exact leave_got (n := b.ports.length) ho (Fresh.app _ _ hf) (by simp)

theorem specGates (H : Heap) (a : Option (Nat × Nat)) (b : Bridge) (h : Sl H 99 a (b.ports.map Port.enc)) (hn : b.ports.length ≤ 1048576) :
    Runs env 57 [.agg (b.enc a)] H fun v H' => ∃ a' fp, v = .w (.lf (.sl a' (gates b).length)) ∧ Own H' 4 a' ((gates b).map encB) fp ∧ Fresh H H' fp := by
  refine Runs.walk ok57 Tryz.func57 rfl (by simp [Tryz.f57]) fun Q hQ => ?_
  simp only [Tryz.f57, strip, stripL, stripI, stripG, chkT, tagsB, tagsL, tagD, addT, tagA, lookN, tagOp, elmT, ty22, ty26, ty27, ty28, ty29, ty30, ty41, ty53, ty56, Nat.reduceEqDiff, if_false, reduceIte, Option.getD_some, Option.getD_none, dstAt, dstOk, Nat.reduceLT, decide_true, if_true]
  simp [Bridge.enc, builtinV, pureB, lenV]
  obtain ⟨H1, hH1⟩ : ∃ H1, H1 = H ++ [some ⟨43, .wr, [[.i .i64 b.id, .sl a b.ports.length]]⟩] := ⟨_, rfl⟩
  have hb1 : blkAt H1 H.length = some ⟨43, .wr, [[.i .i64 b.id, .sl a b.ports.length]]⟩ := by simp [hH1]
  have hl1 := blkAt_len hb1
  have h1 : Sl H1 99 a (b.ports.map Port.enc) := by rw [hH1]; exact h.app _
  refine wpS_loop (fun j tm H' => ∃ i a' fp, i + j = b.ports.length ∧ tm 1 = .ptr H.length 0 0 ∧ tm 4 = .int i ∧ tm 3 = .w (.lf (.sl a' i)) ∧ Own H' 4 a' (((gates b).take i).map encB) fp ∧ Fresh H1 H' fp) b.ports.length (by rw [env_K]; omega)
    ⟨0, some (H.length + 1, 0), [H.length + 1], by simp, by simp, by simp, by simp, Own.of (by simp), ⟨[some ⟨4, .wr, []⟩], by simp [hH1]⟩, by simp [hH1]⟩ ?_
  rintro j tm H' hj ⟨i, a', fp, hij, t1, t4, t3, ho, ⟨⟨G, rfl⟩, hf⟩⟩ Q' hn' he' hr'
  simp [t1, t4, t3, hb1, hl1, builtinV, pureB, lenV]
  refine selS_intro (fun hc => ?_) (fun hc => ?_)
  · simp at hc
    obtain ⟨id, r, bl, rfl, hbl, hbe, hrow⟩ := h1 i _ (by simp [hc]; rfl)
    have hid := blkAt_len hbl
    have g4 : IntKind.i64.wrap ((i : Int) + 1) = (i : Int) + 1 := wrap64 (by omega) (by omega)
    simp [t1, t4, t3, hb1, hl1, indexAddrV, elemIs, hid, hbl, hbe, hc, hrow, Port.enc]
    refine stpL_append (rows := ((gates b).take i).map encB) (ys := [[.b b.ports[i].opn]]) (ho.app2 _) (Sl.of (by simp)) rfl rfl rfl (by simp) (by simp; omega) (by simp; omega) rfl fun a'' H'' fp'' ho'' hk'' hf'' => ?_
    simp [t1, t4, g4]
    refine hn' (j - 1) _ _ (by omega) ⟨i + 1, a'', fp'', by omega, by simp [t1], by simp, by simp, ?_, Fresh.grow hf hk'' hf''⟩
    simpa [List.take_add_one, gates, hc, encB] using ho''
  · simp at hc
    obtain rfl : i = b.ports.length := by omega
    simp [t1, t4, t3]
    refine he' _ _ _ ?_
    simp [t3]
    refine hQ _ _ _ (by simp) ?_
    rw [List.take_of_length_le (by simp)] at ho
    have hf : Fresh H (H1 ++ G) fp := by
      have := Fresh.app H1 G hf
      rw [hH1] at this ⊢
      exact this.base
    simp [Tryz.f57]
    exact leave_got (n := b.ports.length) ho hf (by simp)

theorem implGates_is {H : Heap} {l : List Lf} {b : Bridge} (h : RdBridge H l b) (hn : b.sz ≤ 1048576) : Runs env 49 [.agg l] H fun v H' => ∃ q fp, v = .w (.lf q) ∧ IsBoolS H' q (gates b) fp ∧ Fresh H H' fp := by
  obtain ⟨a, rfl, h⟩ := h
  exact (implGates H a b h hn).mono fun v H' ⟨a', fp, h1, h2, h3⟩ => ⟨_, fp, h1, ⟨a', rfl, h2⟩, h3⟩

theorem specGates_is {H : Heap} {l : List Lf} {b : Bridge} (h : RdBridge H l b) (hn : b.sz ≤ 1048576) : Runs env 57 [.agg l] H fun v H' => ∃ q fp, v = .w (.lf q) ∧ IsBoolS H' q (gates b) fp ∧ Fresh H H' fp := by
  obtain ⟨a, rfl, h⟩ := h
  exact (specGates H a b h hn).mono fun v H' ⟨a', fp, h1, h2, h3⟩ => ⟨_, fp, h1, ⟨a', rfl, h2⟩, h3⟩

theorem implMinderOk_is {H : Heap} {l : List Lf} {m : Minder} (h : RdMinder H l m) (hn : m.sz ≤ 2000000) : run env 63 [.agg l] H = some (.bool m.ok, H) := by
  obtain ⟨a, rfl, h⟩ := h
  exact implMinderOk H a m h hn

theorem specMinderOk_is {H : Heap} {l : List Lf} {m : Minder} (h : RdMinder H l m) (hn : m.sz ≤ 2000000) : run env 76 [.agg l] H = some (.bool m.ok, H) := by
  obtain ⟨a, rfl, h⟩ := h
  exact specMinderOk H a m h hn

theorem specReady_is {H : Heap} {l : List Lf} {m : Minder} (h : RdMinder H l m) (hn : m.sz ≤ 1048576) (p : Int) (_ : I64 p) : run env 148 [.agg l, .int p] H = some (.bool (ready m p), H) := by
  obtain ⟨a, rfl, h⟩ := h
  exact specReady H a m p

def minds (r : Reg) (s : Int) (m : Minder) : Bool := r.ok && m.ok && m.up && decide (s = r.owner) && decide (m.epoch = r.epoch)

theorem implMinds_is {H : Heap} {l : List Lf} {m : Minder} (h : RdMinder H l m) (hn : m.sz ≤ 1048576) (r : Reg) (s : Int) (_ : I64 s) : run env 36 [.agg r.enc, .int s, .agg l] H = some (.bool (minds r s m), H) := by
  have e := fun G => implMinderOk_is (h.app G) (by omega)
  have e2 := fun H => implRegOk H r
  obtain ⟨a, rfl, h⟩ := h
  have hp : r.ok = true → 1 ≤ r.epoch := by simp [Reg.ok]; omega
  simp only [Reg.enc, Minder.enc] at e e2 ⊢
  refine run_walk ok36 Tryz.func36 rfl (by simp [Tryz.f36]) fun Q hQ => ?_
  simp only [Tryz.f36, strip, stripL, stripI, stripG, chkT, tagsB, tagsL, tagD, addT, tagA, lookN, tagOp, elmT, ty22, ty26, ty27, ty28, ty29, ty30, ty41, ty53, ty56, Nat.reduceEqDiff, if_false, reduceIte, Option.getD_some, Option.getD_none, dstAt, dstOk, Nat.reduceLT, decide_true, if_true]
  simp [Minder.enc, Reg.enc, e2]
  repeat' (first | (refine gdL_t (fun h => ?_) (fun h => ?_) <;> simp [h, e, e2]) | (refine gdL_f (fun h => ?_) (fun h => ?_) <;> simp [h, e, e2]) | (refine selS_intro (fun h => ?_) (fun h => ?_) <;> simp [h, e, e2]))
  all_goals (refine hQ _ _ _ (by simp) ?_)
  all_goals (clear hQ; simp_all [Tryz.f36, minds])
  all_goals (try omega)

theorem specMinds_is {H : Heap} {l : List Lf} {m : Minder} (h : RdMinder H l m) (hn : m.sz ≤ 1048576) (r : Reg) (s : Int) (_ : I64 s) : run env 104 [.agg r.enc, .int s, .agg l] H = some (.bool (minds r s m), H) := by
  have e := fun G => specMinderOk_is (h.app G) (by omega)
  have e2 := fun H => specRegOk H r
  obtain ⟨a, rfl, h⟩ := h
  simp only [Reg.enc, Minder.enc] at e e2 ⊢
  refine run_walk ok104 Tryz.func104 rfl (by simp [Tryz.f104]) fun Q hQ => ?_
  simp only [Tryz.f104, strip, stripL, stripI, stripG, chkT, tagsB, tagsL, tagD, addT, tagA, lookN, tagOp, elmT, ty22, ty26, ty27, ty28, ty29, ty30, ty41, ty53, ty56, Nat.reduceEqDiff, if_false, reduceIte, Option.getD_some, Option.getD_none, dstAt, dstOk, Nat.reduceLT, decide_true, if_true]
  simp [Minder.enc, Reg.enc, e2]
  repeat' (first | (refine gdL_t (fun h => ?_) (fun h => ?_) <;> simp [h, e, e2]) | (refine gdL_f (fun h => ?_) (fun h => ?_) <;> simp [h, e, e2]) | (refine selS_intro (fun h => ?_) (fun h => ?_) <;> simp [h, e, e2]))
  all_goals (refine hQ _ _ _ (by simp) ?_)
  all_goals (clear hQ; simp_all [Tryz.f104, minds])
  all_goals (try omega)

def pairs (r : Reg) (s : Int) (m : Minder) (pair : Int) : Reg × Bool := if minds r s m && (decide (pair = 0) || decide (pair = m.ackLife) && decide (m.acked = m.log.length)) then ({ r with pair := pair }, true) else (r, false)

theorem specPairs_is {H : Heap} {l : List Lf} {m : Minder} (h : RdMinder H l m) (hn : m.sz ≤ 1048576) (r : Reg) (s : Int) (hs : I64 s) (p : Int) (_ : I64 p) : run env 153 [.agg r.enc, .int s, .agg l, .int p] H = some (.tup [.agg (pairs r s m p).1.enc, .lf (.b (pairs r s m p).2)], H) := by
  have e := fun G => specMinds_is (h.app G) hn r s hs
  obtain ⟨a, rfl, h⟩ := h
  simp only [Reg.enc, Minder.enc] at e ⊢
  refine run_walk ok153 Tryz.func153 rfl (by simp [Tryz.f153]) fun Q hQ => ?_
  simp only [Tryz.f153, strip, stripL, stripI, stripG, chkT, tagsB, tagsL, tagD, addT, tagA, lookN, tagOp, elmT, ty22, ty26, ty27, ty28, ty29, ty30, ty41, ty53, ty56, Nat.reduceEqDiff, if_false, reduceIte, Option.getD_some, Option.getD_none, dstAt, dstOk, Nat.reduceLT, decide_true, if_true]
  simp [Minder.enc, Reg.enc, e]
  repeat' (first | (refine gdL_t (fun h => ?_) (fun h => ?_) <;> simp [h, e, builtinV, pureB, lenV]) | (refine gdL_f (fun h => ?_) (fun h => ?_) <;> simp [h, e, builtinV, pureB, lenV]) | (refine selS_intro (fun h => ?_) (fun h => ?_) <;> simp [h, e, builtinV, pureB, lenV]))
  all_goals (refine hQ _ _ _ (by simp) ?_)
  all_goals (clear hQ; simp_all [Tryz.f153, pairs])

theorem copyMinder {H : Heap} {l : List Lf} {m : Minder} (h : RdMinder H l m) (hn : m.sz ≤ 1048576) : Runs env 111 [.agg l] H fun v H' => ∃ l' fp, v = .agg l' ∧ IsMinder H' l' m fp ∧ Fresh H H' fp := by
  obtain ⟨a, rfl, h⟩ := h
  refine Runs.walk ok111 Tryz.func111 rfl (by simp [Tryz.f111]) fun Q hQ => ?_
  simp only [Tryz.f111, strip, stripL, stripI, stripG, chkT, tagsB, tagsL, tagD, addT, tagA, lookN, tagOp, elmT, ty22, ty26, ty27, ty28, ty29, ty30, ty41, ty53, ty56, Nat.reduceEqDiff, if_false, reduceIte, Option.getD_some, Option.getD_none, dstAt, dstOk, Nat.reduceLT, decide_true, if_true]
  simp [Minder.enc]
  refine stpL_runs (cloneInS (q := .sl a m.log.length) ⟨a, rfl, h.app _⟩ hn) ?_
  rintro _ H1 ⟨_, f, rfl, ⟨a1, rfl, o1⟩, ⟨⟨G, rfl⟩, hf⟩⟩
  simp
  refine hQ _ _ _ (by simp) ?_
  simp [Tryz.f111]
  have ho : IsMinder (H ++ [some ⟨52, .wr, [m.enc a1]⟩, some ⟨52, .wr, [m.enc a1]⟩] ++ G) (m.enc a1) m f := ⟨a1, rfl, o1.keep (Keep.swap G (by simp)) fun i hi => by have := hf i hi; simp at this ⊢; omega⟩
  simp [Minder.enc] at ho
  obtain ⟨f', h1, h2⟩ := ho.leave (H := H) (ws := [W.agg (m.enc a1)]) (Fresh.app H _ fun i hi => by have := hf i hi; simp at this; omega) (by simp [Minder.enc])
  exact ⟨f', h1, h2⟩

theorem specCopyM {H : Heap} {l : List Lf} {m : Minder} (h : RdMinder H l m) (hn : m.sz ≤ 1048576) : Runs env 115 [.agg l] H fun v H' => ∃ l' fp, v = .agg l' ∧ IsMinder H' l' m fp ∧ Fresh H H' fp := by
  obtain ⟨a, rfl, h⟩ := h
  refine Runs.walk ok115 Tryz.func115 rfl (by simp [Tryz.f115]) fun Q hQ => ?_
  simp only [Tryz.f115, strip, stripL, stripI, stripG, chkT, tagsB, tagsL, tagD, addT, tagA, lookN, tagOp, elmT, ty22, ty26, ty27, ty28, ty29, ty30, ty41, ty53, ty56, Nat.reduceEqDiff, if_false, reduceIte, Option.getD_some, Option.getD_none, dstAt, dstOk, Nat.reduceLT, decide_true, if_true]
  simp [Minder.enc]
  refine stpL_append (rows := []) (ys := m.log.map In.enc) (Own.of (by simp)) (h.app _) rfl rfl rfl (by simp) (by have : m.log.length ≤ 1048576 := hn; simp; omega) rfl (by simp) fun a1 H1 f o1 hk hf => ?_
  obtain ⟨⟨G, rfl⟩, hf⟩ : Fresh (H ++ [some ⟨52, .wr, [m.enc a]⟩, some ⟨52, .wr, [(⟨false, 0, 0, [], 0, 0, 0⟩ : Minder).enc none]⟩]) H1 f := by
    refine Fresh.grow (fp := [H.length + 2]) (G := [some ⟨64, .wr, []⟩]) (by simp) (by simpa [Minder.enc] using hk) ?_
    intro i hi
    have := hf i hi
    simp at this ⊢
    omega
  simp
  refine hQ _ _ _ (by simp) ?_
  simp [Tryz.f115]
  have ho : IsMinder (H ++ [some ⟨52, .wr, [m.enc a1]⟩, some ⟨52, .wr, [m.enc a1]⟩] ++ G) (m.enc a1) m f := ⟨a1, rfl, o1.keep (Keep.swap G (by simp)) fun i hi => by have := hf i hi; simp at this ⊢; omega⟩
  simp [Minder.enc] at ho
  obtain ⟨f', h1, h2⟩ := ho.leave (H := H) (ws := [W.agg (m.enc a1)]) (Fresh.app H _ fun i hi => by have := hf i hi; simp at this; omega) (by simp [Minder.enc])
  exact ⟨f', h1, h2⟩

def note (m : Minder) (x : In) : Minder × Bool := if m.up && ({ m with log := m.log ++ [x] } : Minder).ok then ({ m with log := m.log ++ [x] }, true) else (m, false)

theorem specNote_is {H : Heap} {l : List Lf} {m : Minder} (h : RdMinder H l m) (hn : m.sz ≤ 1048576) (x : In) : Runs env 147 [.agg l, .agg x.enc] H fun v H' => ∃ l' fp, v = .tup [.agg l', .lf (.b (note m x).2)] ∧ IsMinder H' l' (note m x).1 fp ∧ Fresh H H' fp := by
  have hR := h
  have hn' : m.log.length ≤ 1048576 := hn
  obtain ⟨a, rfl, h⟩ := h
  refine Runs.walk ok147 Tryz.func147 rfl (by simp [Tryz.f147]) fun Q hQ => ?_
  simp only [Tryz.f147, strip, stripL, stripI, stripG, chkT, tagsB, tagsL, tagD, addT, tagA, lookN, tagOp, elmT, ty22, ty26, ty27, ty28, ty29, ty30, ty41, ty53, ty56, Nat.reduceEqDiff, if_false, reduceIte, Option.getD_some, Option.getD_none, dstAt, dstOk, Nat.reduceLT, decide_true, if_true]
  simp
  refine stpL_runs (specCopyM (hR.app _) hn) ?_
  rintro _ H1 ⟨_, f, rfl, ⟨a1, rfl, o1⟩, ⟨⟨G, rfl⟩, hf⟩⟩
  simp [Minder.enc]
  have hfl := o1.lt
  refine stpL_append (rows := m.log.map In.enc) (ys := [x.enc]) (by simpa [Minder.enc] using o1.app _) (Sl.of (by simp)) rfl rfl rfl (by simp) (by simp; omega) (by simp) rfl ?_
  intro a2 H2 f2 o2 hk2 hf2
  obtain ⟨G2, rfl, hG2, hx2⟩ := Keep.cut (L := [_, _, _]) hk2 (by intro i hi; have := hf i hi; simp at this ⊢; omega)
  have hx := hx2 G.length _ (by simp; rfl) (by intro hi; have := hfl _ hi; simp at this; omega)
  simp at hG2
  have hG3 : G.length < G2.length := by omega
  have lo2 : ∀ i ∈ f2, H.length + 3 ≤ i ∧ i ≠ H.length + (G.length + 3) := fun i hi => by
    rcases hf2 i hi with h1 | h1
    · have h3 := hf i h1
      have h4 := hfl i h1
      simp at h3 h4
      omega
    · simp at h1
      omega
  have o3 := fun y => o2.keep (Keep.set (id := H.length + (G.length + 3)) _ y) (fun i hi => by have := lo2 i hi; simp; omega)
  simp at o3
  have e2 := fun y => specMinderOk_is (m := { m with log := m.log ++ [x] }) ⟨a2, rfl, by simpa using (o3 y).sl⟩ (by simp [Minder.sz]; omega)
  simp [Minder.enc] at e2
  simp [hx, hG3, blkAt_set]
  repeat' (first | (refine gdL_t (fun h => ?_) (fun h => ?_) <;> simp [h, e2, hG3, blkAt_set]) | (refine gdL_f (fun h => ?_) (fun h => ?_) <;> simp [h, e2, hG3, blkAt_set]) | (refine selS_intro (fun h => ?_) (fun h => ?_) <;> simp [h, e2, hG3, blkAt_set]))
  · refine stpL_runs (specCopyM (hR.base (Keep.app _ H _)) hn) ?_
    rintro _ H4 ⟨_, f4, rfl, ⟨a4, rfl, o4⟩, ⟨⟨G4, rfl⟩, hf4⟩⟩
    simp
    refine hQ _ _ _ (by simp) ?_
    have hnote : note m x = (m, false) := by
      clear hQ
      simp [note]
      simp_all
    simp [Tryz.f147, hnote, Minder.enc]
    have o5 := fun y => o4.keep (Keep.set (id := H.length + 2) _ y) (fun i hi => by have := hf4 i hi; simp at this ⊢; omega)
    simp at o5
    exact IsMinder.leave ⟨a4, rfl, o5 _⟩ (Fresh.app H _ fun i hi => by have := hf4 i hi; simp at this; omega) (by simp)
  · refine stpL_runs (specCopyM (hR.base (Keep.app _ H _)) hn) ?_
    rintro _ H4 ⟨_, f4, rfl, ⟨a4, rfl, o4⟩, ⟨⟨G4, rfl⟩, hf4⟩⟩
    simp
    refine hQ _ _ _ (by simp) ?_
    have hnote : note m x = (m, false) := by
      clear hQ
      simp [note]
      simp_all
    simp [Tryz.f147, hnote, Minder.enc]
    have o5 := fun y => o4.keep (Keep.set (id := H.length + 2) _ y) (fun i hi => by have := hf4 i hi; simp at this ⊢; omega)
    simp at o5
    exact IsMinder.leave ⟨a4, rfl, o5 _⟩ (Fresh.app H _ fun i hi => by have := hf4 i hi; simp at this; omega) (by simp)
  · refine hQ _ _ _ (by simp) ?_
    have hnote : note m x = ({ m with log := m.log ++ [x] }, true) := by
      clear hQ
      simp [note]
      simp_all
    simp [Tryz.f147, hnote, Minder.enc]
    have o5 := fun y z => (o3 y).keep (Keep.set (id := H.length + 2) _ z) (fun i hi => by have := lo2 i hi; simp; omega)
    simp at o5
    exact IsMinder.leave ⟨a2, by simp [Minder.enc], by simpa using o5 _ _⟩ (Fresh.app H _ fun i hi => by have := lo2 i hi; omega) (by simp)

def takeR (r : Reg) (s : Int) (m : Minder) : Reg × Minder × Bool :=
  if r.ok && m.ok && m.up && (decide (s = 0) || decide (s = 1)) && !decide (s = r.owner) && decide (0 < m.life) && decide (m.life = r.pair) && (⟨r.epoch + 1, s, 0⟩ : Reg).ok then (⟨r.epoch + 1, s, 0⟩, { m with epoch := r.epoch + 1, acked := 0, ackLife := 0 }, true) else (r, m, false)
theorem takeR_sz {r : Reg} {s : Int} {m : Minder} (hn : m.sz ≤ 1048576) : (takeR r s m).2.1.sz ≤ 1048576 := by
  unfold takeR
  split <;> exact hn

theorem specTake_is {H : Heap} {l : List Lf} {m : Minder} (h : RdMinder H l m) (hn : m.sz ≤ 1048576) (r : Reg) (s : Int) (_ : I64 s) : Runs env 152 [.agg r.enc, .int s, .agg l] H fun v H' => ∃ l' fp, v = .tup [.agg (takeR r s m).1.enc, .agg l', .lf (.b (takeR r s m).2.2)] ∧ IsMinder H' l' (takeR r s m).2.1 fp ∧ Fresh H H' fp := by
  have hR := h
  have hn' : m.log.length ≤ 1048576 := hn
  have e := fun G => specMinderOk_is (hR.app G) (by omega)
  have e2 := fun H x y z => specRegOk H ⟨x, y, z⟩
  have hw : r.ok = true → IntKind.i64.wrap (r.epoch + 1) = r.epoch + 1 := fun hr => by simp [Reg.ok] at hr; exact wrap64 (by omega) (by omega)
  obtain ⟨a, rfl, h⟩ := h
  obtain ⟨r1, r2, r3⟩ := r
  simp only at hw
  refine Runs.walk ok152 Tryz.func152 rfl (by simp [Tryz.f152]) fun Q hQ => ?_
  simp only [Tryz.f152, strip, stripL, stripI, stripG, chkT, tagsB, tagsL, tagD, addT, tagA, lookN, tagOp, elmT, ty22, ty26, ty27, ty28, ty29, ty30, ty41, ty53, ty56, Nat.reduceEqDiff, if_false, reduceIte, Option.getD_some, Option.getD_none, dstAt, dstOk, Nat.reduceLT, decide_true, if_true]
  simp
  refine stpL_runs (specCopyM (hR.app _) hn) ?_
  rintro _ H1 ⟨_, f, rfl, ⟨a1, rfl, o1⟩, ⟨⟨G, rfl⟩, hf⟩⟩
  simp only [Reg.enc, Minder.enc] at e e2
  simp [Minder.enc, Reg.enc, e2]
  repeat' (first | (refine gdL_t (fun h => ?_) (fun h => ?_) <;> simp [h, e, e2, l1In]) | (refine gdL_f (fun h => ?_) (fun h => ?_) <;> simp [h, e, e2, l1In]) | (refine selS_intro (fun h => ?_) (fun h => ?_) <;> simp [h, e, e2, l1In]))
  · refine hQ _ _ _ (by simp) ?_
    have ht : takeR ⟨r1, r2, r3⟩ s m = (⟨r1, r2, r3⟩, m, false) := by
      clear hQ
      simp [takeR]
      simp_all
      try (intros; first | omega | (exfalso; omega))
    simp [Tryz.f152, ht, Minder.enc, Reg.enc]
    exact IsMinder.leave ⟨a1, by simp [Minder.enc], o1.cut (L' := [_, _, _, _]) hf rfl⟩ (Fresh.app H _ fun i hi => by have := hf i hi; simp at this; omega) (by simp)
  · refine hQ _ _ _ (by simp) ?_
    have ht : takeR ⟨r1, r2, r3⟩ s m = (⟨r1, r2, r3⟩, m, false) := by
      clear hQ
      simp [takeR]
      simp_all
      try (intros; first | omega | (exfalso; omega))
    simp [Tryz.f152, ht, Minder.enc, Reg.enc]
    exact IsMinder.leave ⟨a1, by simp [Minder.enc], o1.cut (L' := [_, _, _, _]) hf rfl⟩ (Fresh.app H _ fun i hi => by have := hf i hi; simp at this; omega) (by simp)
  · refine hQ _ _ _ (by simp) ?_
    have ht : takeR ⟨r1, r2, r3⟩ s m = (⟨r1, r2, r3⟩, m, false) := by
      clear hQ
      simp [takeR]
      simp_all
      try (intros; first | omega | (exfalso; omega))
    simp [Tryz.f152, ht, Minder.enc, Reg.enc]
    exact IsMinder.leave ⟨a1, by simp [Minder.enc], o1.cut (L' := [_, _, _, _]) hf rfl⟩ (Fresh.app H _ fun i hi => by have := hf i hi; simp at this; omega) (by simp)
  · refine hQ _ _ _ (by simp) ?_
    have ht : takeR ⟨r1, r2, r3⟩ s m = (⟨r1, r2, r3⟩, m, false) := by
      clear hQ
      simp [takeR]
      simp_all
      try (intros; first | omega | (exfalso; omega))
    simp [Tryz.f152, ht, Minder.enc, Reg.enc]
    exact IsMinder.leave ⟨a1, by simp [Minder.enc], o1.cut (L' := [_, _, _, _]) hf rfl⟩ (Fresh.app H _ fun i hi => by have := hf i hi; simp at this; omega) (by simp)
  · refine hQ _ _ _ (by simp) ?_
    have ht : takeR ⟨r1, r2, r3⟩ s m = (⟨r1, r2, r3⟩, m, false) := by
      clear hQ
      simp [takeR]
      simp_all
      try (intros; first | omega | (exfalso; omega))
    simp [Tryz.f152, ht, Minder.enc, Reg.enc]
    exact IsMinder.leave ⟨a1, by simp [Minder.enc], o1.cut (L' := [_, _, _, _]) hf rfl⟩ (Fresh.app H _ fun i hi => by have := hf i hi; simp at this; omega) (by simp)
  · refine hQ _ _ _ (by simp) ?_
    have ht : takeR ⟨r1, r2, r3⟩ s m = (⟨r1, r2, r3⟩, m, false) := by
      clear hQ
      simp [takeR]
      simp_all
      try (intros; first | omega | (exfalso; omega))
    simp [Tryz.f152, ht, Minder.enc, Reg.enc]
    exact IsMinder.leave ⟨a1, by simp [Minder.enc], o1.cut (L' := [_, _, _, _]) hf rfl⟩ (Fresh.app H _ fun i hi => by have := hf i hi; simp at this; omega) (by simp)
  · refine hQ _ _ _ (by simp) ?_
    have ht : takeR ⟨r1, r2, r3⟩ s m = (⟨r1, r2, r3⟩, m, false) := by
      clear hQ
      simp [takeR]
      simp_all
      try (intros; first | omega | (exfalso; omega))
    simp [Tryz.f152, ht, Minder.enc, Reg.enc]
    exact IsMinder.leave ⟨a1, by simp [Minder.enc], o1.cut (L' := [_, _, _, _]) hf rfl⟩ (Fresh.app H _ fun i hi => by have := hf i hi; simp at this; omega) (by simp)
  · refine stpL_runs_f (specCopyM (hR.base (Keep.app _ H _)) hn) (by rintro _ _ ⟨_, _, _, _, hf⟩; exact hf.1) ?_
    rintro _ H4 ⟨_, f4, rfl, ⟨a4, rfl, o4⟩, ⟨⟨G4, rfl⟩, hf4⟩⟩
    simp
    refine hQ _ _ _ (by simp) ?_
    have hr1 : Reg.ok ⟨r1, r2, r3⟩ = true := by clear hQ; simp_all
    rw [hw hr1] at *
    have ht : takeR ⟨r1, r2, r3⟩ s m = (⟨r1, r2, r3⟩, m, false) := by
      clear hQ
      simp [takeR]
      simp_all
      try (intros; first | omega | (exfalso; omega))
    simp [Tryz.f152, ht, Minder.enc, Reg.enc]
    have o5 := fun y z => (o4.keep (Keep.set (id := H.length + 2) _ y) (fun i hi => by have := hf4 i hi; simp at this ⊢; omega)).keep (Keep.set (id := H.length + 3) _ z) (fun i hi => by have := hf4 i hi; simp at this ⊢; omega)
    simp at o5
    exact IsMinder.leave ⟨a4, by simp [Minder.enc], o5 _ _⟩ (Fresh.app H _ fun i hi => by have := hf4 i hi; simp at this; omega) (by simp)
  · have hr1 : Reg.ok ⟨r1, r2, r3⟩ = true := by clear hQ; simp_all
    rw [hw hr1] at *
    have e3 := fun B1 B2 B3 B4 T => specMinderOk_is (m := { m with epoch := r1 + 1, acked := 0, ackLife := 0 }) ⟨a1, rfl, (o1.cut (L' := [B1, B2, B3, B4]) (T := T) hf rfl).sl⟩ (by simp [Minder.sz]; omega)
    simp [Minder.enc] at e3
    have hok : Minder.ok { m with epoch := r1 + 1, acked := 0, ackLife := 0 } = true := by
      clear hQ
      have h1 : m.ok = true := by simp_all
      have h2 : Reg.ok ⟨r1 + 1, s, 0⟩ = true := by simp_all
      have h3 : m.up = true := by simp_all
      simp [Minder.ok] at h1 ⊢
      simp [Reg.ok] at h2
      simp [h3]
      simp_all
      omega
    simp [e3, hok]
    refine hQ _ _ _ (by simp) ?_
    have ht : takeR ⟨r1, r2, r3⟩ s m = (⟨r1 + 1, s, 0⟩, { m with epoch := r1 + 1, acked := 0, ackLife := 0 }, true) := by
      clear hQ
      simp [takeR]
      simp_all
      try omega
    simp [Tryz.f152, ht, Minder.enc, Reg.enc]
    exact IsMinder.leave ⟨a1, by simp [Minder.enc], o1.cut (L' := [_, _, _, _]) hf rfl⟩ (Fresh.app H _ fun i hi => by have := hf i hi; simp at this; omega) (by simp)

theorem okMinder : RepOk IsMinder := ⟨fun h hk hd => h.keep hk hd, fun h => h.lt, fun h => h.nodup⟩
theorem unMinder : UnOk IsMinder := fun ⟨a, h1, h2⟩ hf => ⟨a, h1, h2.unapp hf⟩
abbrev IsMinderS := IsL 52 IsMinder
abbrev RdMinderS := RdL 52 RdMinder
abbrev RdLMinderS := RdL 999999 RdLMinder
def MinderS.sz (xs : List Minder) : Nat := xs.length + (xs.map Minder.sz).sum
theorem MinderS.sz_len (xs : List Minder) : xs.length ≤ MinderS.sz xs := by unfold MinderS.sz; omega
theorem MinderS.sz_at {xs : List Minder} {x : Minder} (h : x ∈ xs) : x.sz ≤ MinderS.sz xs := by
  have key : ∀ {ys : List Minder}, x ∈ ys → x.sz ≤ (ys.map Minder.sz).sum := by
    intro ys hy
    induction ys with
    | nil => simp at hy
    | cons y ys ih =>
      simp only [List.map_cons, List.sum_cons]
      rcases List.mem_cons.1 hy with rfl | hy
      · omega
      · have := ih hy; omega
  have := key h
  unfold MinderS.sz
  omega
def MinderS.ps (xs : List Minder) (i : Nat) : Nat := ((xs.take i).map Minder.sz).sum
theorem MinderS.ps_zero (xs : List Minder) : MinderS.ps xs 0 = 0 := by simp [MinderS.ps]
theorem MinderS.ps_succ (xs : List Minder) {i : Nat} (h : i < xs.length) : MinderS.ps xs (i + 1) = MinderS.ps xs i + xs[i].sz := by
  unfold MinderS.ps
  rw [List.take_add_one, List.getElem?_eq_getElem h, List.map_append, List.sum_append]
  simp
theorem MinderS.ps_le (xs : List Minder) (i : Nat) : xs.length + MinderS.ps xs i ≤ MinderS.sz xs := by
  have := congrArg (fun l => (l.map Minder.sz).sum) (List.take_append_drop i xs)
  simp only [List.map_append, List.sum_append] at this
  unfold MinderS.ps MinderS.sz
  omega
theorem MinderS.ps_len (xs : List Minder) : xs.length + MinderS.ps xs xs.length = MinderS.sz xs := by unfold MinderS.ps MinderS.sz; rw [List.take_length]
def MinderS.fit (xs : List Minder) : Prop := xs.length ≤ maxLen ∧ ∀ x ∈ xs, x.fit
theorem RdMinderS_base {H H' : Heap} {q : Lf} {xs : List Minder} (h : RdMinderS H q xs) (hk : Keep [] H H') : RdMinderS H' q xs := RdL.base h (fun h hk => h.base hk) hk
theorem RdLMinderS_base {H H' : Heap} {q : Lf} {xs : List Minder} (h : RdLMinderS H q xs) (hk : Keep [] H H') : RdLMinderS H' q xs := RdL.base h (fun h hk => h.base hk) hk
theorem IsMinderS_rd {H : Heap} {q : Lf} {xs : List Minder} {fp : List Nat} (h : IsMinderS H q xs fp) : RdMinderS H q xs := IsL.rd h fun h => h.rd

structure Box where
  id : Int
  ports : Int
  reg : Reg
  two : List Minder
  net : List Wire
  gates : List Bool
  line : List In
  said : List Out
  deriving DecidableEq, Inhabited
def Box.enc (x : Box) (q0 q1 q2 q3 q4 : Lf) : List Lf := [.i .i64 x.id, .i .i64 x.ports, .i .i64 x.reg.epoch, .i .i64 x.reg.owner, .i .i64 x.reg.pair, q0, q1, q2, q3, q4]
@[simp] theorem Box.enc_len (x : Box) (q0 q1 q2 q3 q4 : Lf) : (x.enc q0 q1 q2 q3 q4).length = 10 := rfl
@[simp] theorem Box.enc_take (x : Box) (q0 q1 q2 q3 q4 : Lf) : List.take 10 (x.enc q0 q1 q2 q3 q4) = x.enc q0 q1 q2 q3 q4 := rfl

def IsBox (H : Heap) (l : List Lf) (x : Box) (fp : List Nat) : Prop := ∃ q0 q1 q2 q3 q4 f0 f1 f2 f3 f4, l = x.enc q0 q1 q2 q3 q4 ∧ IsMinderS H q0 x.two f0 ∧ IsWireS H q1 x.net f1 ∧ IsBoolS H q2 x.gates f2 ∧ IsInS H q3 x.line f3 ∧ IsOutS H q4 x.said f4 ∧ fp = f0 ++ (f1 ++ (f2 ++ (f3 ++ (f4)))) ∧ fp.Nodup
def RdBox (H : Heap) (l : List Lf) (x : Box) : Prop := ∃ q0 q1 q2 q3 q4, l = x.enc q0 q1 q2 q3 q4 ∧ RdMinderS H q0 x.two ∧ RdWireS H q1 x.net ∧ RdBoolS H q2 x.gates ∧ RdInS H q3 x.line ∧ RdOutS H q4 x.said
def RdLBox (H : Heap) (l : List Lf) (x : Box) : Prop := ∃ q0 q1 q2 q3 q4, l = x.enc q0 q1 q2 q3 q4 ∧ RdLMinderS H q0 x.two ∧ RdLWireS H q1 x.net ∧ RdLBoolS H q2 x.gates ∧ RdLInS H q3 x.line ∧ RdLOutS H q4 x.said
def Box.sz (x : Box) : Nat := MinderS.sz x.two + x.net.length + x.gates.length + x.line.length + x.said.length
def Box.fit (x : Box) : Prop := MinderS.fit x.two ∧ x.net.length ≤ maxLen ∧ x.gates.length ≤ maxLen ∧ x.line.length ≤ maxLen ∧ x.said.length ≤ maxLen
section
variable {H H' : Heap} {l : List Lf} {x : Box} {fp : List Nat}
theorem IsBox.keep {f : List Nat} (h : IsBox H l x fp) (hk : Keep f H H') (hd : ∀ i ∈ fp, i ∉ f) : IsBox H' l x fp := by
  obtain ⟨q0, q1, q2, q3, q4, f0, f1, f2, f3, f4, rfl, h0, h1, h2, h3, h4, rfl, hnd⟩ := h
  exact ⟨q0, q1, q2, q3, q4, f0, f1, f2, f3, f4, rfl, h0.keep okMinder hk (fun i hi => hd i (by simp [hi])), h1.keep hk (fun i hi => hd i (by simp [hi])), h2.keep hk (fun i hi => hd i (by simp [hi])), h3.keep hk (fun i hi => hd i (by simp [hi])), h4.keep hk (fun i hi => hd i (by simp [hi])), rfl, hnd⟩
theorem IsBox.app (h : IsBox H l x fp) (G : Heap) : IsBox (H ++ G) l x fp := h.keep (Keep.app [] H G) (by simp)
theorem IsBox.lt (h : IsBox H l x fp) : ∀ i ∈ fp, i < H.length := by
  obtain ⟨q0, q1, q2, q3, q4, f0, f1, f2, f3, f4, rfl, h0, h1, h2, h3, h4, rfl, hnd⟩ := h
  intro i hi
  simp at hi
  rcases hi with hi | hi | hi | hi | hi
  · exact h0.lt okMinder i hi
  · exact h1.lt i hi
  · exact h2.lt i hi
  · exact h3.lt i hi
  · exact h4.lt i hi
theorem IsBox.nodup (h : IsBox H l x fp) : fp.Nodup := by
  obtain ⟨q0, q1, q2, q3, q4, f0, f1, f2, f3, f4, rfl, h0, h1, h2, h3, h4, rfl, hnd⟩ := h
  exact hnd
theorem IsBox.rd (h : IsBox H l x fp) : RdBox H l x := by
  obtain ⟨q0, q1, q2, q3, q4, f0, f1, f2, f3, f4, rfl, h0, h1, h2, h3, h4, rfl, hnd⟩ := h
  exact ⟨q0, q1, q2, q3, q4, rfl, IsMinderS_rd h0, h1.rd, h2.rd, h3.rd, h4.rd⟩
theorem RdBox.base (h : RdBox H l x) (hk : Keep [] H H') : RdBox H' l x := by
  obtain ⟨q0, q1, q2, q3, q4, rfl, h0, h1, h2, h3, h4⟩ := h
  exact ⟨q0, q1, q2, q3, q4, rfl, RdMinderS_base h0 hk, h1.base hk, h2.base hk, h3.base hk, h4.base hk⟩
theorem RdBox.app (h : RdBox H l x) (G : Heap) : RdBox (H ++ G) l x := h.base (Keep.app _ _ _)
theorem RdBox.len (h : RdBox H l x) : l.length = 10 := by
  obtain ⟨q0, q1, q2, q3, q4, rfl, h0, h1, h2, h3, h4⟩ := h
  rfl
theorem RdLBox.base (h : RdLBox H l x) (hk : Keep [] H H') : RdLBox H' l x := by
  obtain ⟨q0, q1, q2, q3, q4, rfl, h0, h1, h2, h3, h4⟩ := h
  exact ⟨q0, q1, q2, q3, q4, rfl, RdLMinderS_base h0 hk, h1.base hk, h2.base hk, h3.base hk, h4.base hk⟩
theorem RdLBox.app (h : RdLBox H l x) (G : Heap) : RdLBox (H ++ G) l x := h.base (Keep.app _ _ _)
theorem RdLBox.len (h : RdLBox H l x) : l.length = 10 := by
  obtain ⟨q0, q1, q2, q3, q4, rfl, h0, h1, h2, h3, h4⟩ := h
  rfl
theorem IsBox.len (h : IsBox H l x fp) : l.length = 10 := by
  obtain ⟨q0, q1, q2, q3, q4, f0, f1, f2, f3, f4, rfl, h0, h1, h2, h3, h4, rfl, hnd⟩ := h
  rfl
theorem IsBox.free (h : IsBox H' l x fp) (hr : l.all refFree = true) (H2 : Heap) : IsBox H2 l x [] := by
  obtain ⟨q0, q1, q2, q3, q4, f0, f1, f2, f3, f4, rfl, h0, h1, h2, h3, h4, rfl, hnd⟩ := h
  simp [Box.enc] at hr
  have a0 : IsMinderS H2 q0 x.two [] := by
    obtain ⟨e1, e2⟩ := h0.empty hr.1
    rw [e1, e2]
    exact IsL.emp _ _ _
  have a1 : IsWireS H2 q1 x.net [] := h1.free hr.2.1 H2
  have a2 : IsBoolS H2 q2 x.gates [] := h2.free hr.2.2.1 H2
  have a3 : IsInS H2 q3 x.line [] := h3.free hr.2.2.2.1 H2
  have a4 : IsOutS H2 q4 x.said [] := h4.free hr.2.2.2.2 H2
  exact ⟨q0, q1, q2, q3, q4, [], [], [], [], [], rfl, a0, a1, a2, a3, a4, by simp, by simp⟩
theorem IsBox.leave {ws : List W} (h : IsBox H' l x fp) (hf : Fresh H H' fp) (hw : ws.all W.free = true → l.all refFree = true) : ∃ fp', IsBox (leave H H' ws) l x fp' ∧ Fresh H (leave H H' ws) fp' := by
  rcases leave_opt H H' ws with e | ⟨e, hr⟩ <;> rw [e]
  · exact ⟨fp, h, hf⟩
  · exact ⟨[], h.free (hw hr) H, Fresh.refl H⟩
end

def openBy (role wait : Int) : Bool := (decide (role = 1) || decide (role = 2)) && decide (wait = 0)
def Port.ok (p : Port) : Bool :=
  (if p.has then p.up && p.vec.ok && (decide (0 ≤ p.hops) && decide (p.hops ≤ 8)) && (decide (1 ≤ p.left) && decide (p.left ≤ 3)) else decide (p.vec = ⟨0, 0, 0, 0⟩) && decide (p.hops = 0) && decide (p.left = 0)) &&
  (decide (0 ≤ p.role) && decide (p.role ≤ 3)) && decide (decide (p.role = 0) = !p.up) && (decide (0 ≤ p.wait) && decide (p.wait ≤ 4)) && decide (p.opn = openBy p.role p.wait)

theorem isOpenBy (H : Heap) (p : Port) : run env 154 [.agg p.enc] H = some (.bool (openBy p.role p.wait), H) := by
  obtain ⟨a1, a2, ⟨b1, b2, b3, b4⟩, a4, a5, a6, a7, a8⟩ := p
  refine run_walk ok154 Tryz.func154 rfl (by simp [Tryz.f154]) fun Q hQ => ?_
  simp only [Tryz.f154, strip, stripL, stripI, stripG, chkT, tagsB, tagsL, tagD, addT, tagA, lookN, tagOp, elmT, ty22, ty26, ty27, ty28, ty29, ty30, ty41, ty53, ty56, Nat.reduceEqDiff, if_false, reduceIte, Option.getD_some, Option.getD_none, dstAt, dstOk, Nat.reduceLT, decide_true, if_true]
  simp [Port.enc]
  repeat' (first | (refine gdL_t (fun h => ?_) (fun h => ?_) <;> simp [h]) | (refine gdL_f (fun h => ?_) (fun h => ?_) <;> simp [h]) | (refine selS_intro (fun h => ?_) (fun h => ?_) <;> simp [h]))
  all_goals (refine hQ _ _ _ (by simp) ?_)
  all_goals (clear hQ; simp_all [Tryz.f154, openBy])

theorem implPortOk (H : Heap) (p : Port) : run env 130 [.agg p.enc] H = some (.bool p.ok, H) := by
  obtain ⟨a1, a2, ⟨b1, b2, b3, b4⟩, a4, a5, a6, a7, a8⟩ := p
  have e := fun H => implVecOk H ⟨b1, b2, b3, b4⟩
  have e2 := fun H a1 a2 b1 b2 b3 b4 a4 a5 a6 a7 a8 => isOpenBy H ⟨a1, a2, ⟨b1, b2, b3, b4⟩, a4, a5, a6, a7, a8⟩
  simp only [Vec.enc, Port.enc] at e e2
  refine run_walk ok130 Tryz.func130 rfl (by simp [Tryz.f130]) fun Q hQ => ?_
  simp only [Tryz.f130, strip, stripL, stripI, stripG, chkT, tagsB, tagsL, tagD, addT, tagA, lookN, tagOp, elmT, ty22, ty26, ty27, ty28, ty29, ty30, ty41, ty53, ty56, Nat.reduceEqDiff, if_false, reduceIte, Option.getD_some, Option.getD_none, dstAt, dstOk, Nat.reduceLT, decide_true, if_true]
  simp [Port.enc, e, e2, inRange, isHops]
  repeat' (first | (refine gdL_t (fun h => ?_) (fun h => ?_) <;> simp [h, e, e2, inRange, isHops]) | (refine gdL_f (fun h => ?_) (fun h => ?_) <;> simp [h, e, e2, inRange, isHops]) | (refine selS_intro (fun h => ?_) (fun h => ?_) <;> simp [h, e, e2, inRange, isHops]))
  all_goals (refine hQ _ _ _ (by simp) ?_)
  all_goals (clear hQ e e2; simp_all [Tryz.f130, Port.ok])
  all_goals (try (cases a1 <;> simp_all))
  all_goals (try (intros; exfalso; omega))

theorem specPortOk (H : Heap) (p : Port) : run env 110 [.agg p.enc] H = some (.bool p.ok, H) := by
  obtain ⟨a1, a2, ⟨b1, b2, b3, b4⟩, a4, a5, a6, a7, a8⟩ := p
  have e := fun H => specVecOk H ⟨b1, b2, b3, b4⟩
  simp only [Vec.enc, Port.enc] at e
  refine run_walk ok110 Tryz.func110 rfl (by simp [Tryz.f110]) fun Q hQ => ?_
  simp only [Tryz.f110, strip, stripL, stripI, stripG, chkT, tagsB, tagsL, tagD, addT, tagA, lookN, tagOp, elmT, ty22, ty26, ty27, ty28, ty29, ty30, ty41, ty53, ty56, Nat.reduceEqDiff, if_false, reduceIte, Option.getD_some, Option.getD_none, dstAt, dstOk, Nat.reduceLT, decide_true, if_true]
  simp [Port.enc, e, l1In]
  repeat' (first | (refine gdL_t (fun h => ?_) (fun h => ?_) <;> simp [h, e, l1In]) | (refine gdL_f (fun h => ?_) (fun h => ?_) <;> simp [h, e, l1In]) | (refine selS_intro (fun h => ?_) (fun h => ?_) <;> simp [h, e, l1In]))
  all_goals (refine hQ _ _ _ (by simp) ?_)
  all_goals (clear hQ e; simp_all [Tryz.f110, Port.ok, openBy])
  all_goals (try (intros; exfalso; omega))

def Bridge.ok (b : Bridge) : Bool := b.ports.all Port.ok && (decide (1 ≤ b.id) && decide (b.id ≤ 9)) && (decide (1 ≤ (b.ports.length : Int)) && decide ((b.ports.length : Int) ≤ 4))

theorem implBridgeOk_is {H : Heap} {l : List Lf} {b : Bridge} (h : RdBridge H l b) (hn : b.sz ≤ 1048576) : run env 95 [.agg l] H = some (.bool b.ok, H) := by
  obtain ⟨a, rfl, h⟩ := h
  have hn : b.ports.length ≤ 1048576 := hn
  refine run_walk ok95 Tryz.func95 rfl (by simp [Tryz.f95]) fun Q hQ => ?_
  simp only [Tryz.f95, strip, stripL, stripI, stripG, chkT, tagsB, tagsL, tagD, addT, tagA, lookN, tagOp, elmT, ty22, ty26, ty27, ty28, ty29, ty30, ty41, ty53, ty56, Nat.reduceEqDiff, if_false, reduceIte, Option.getD_some, Option.getD_none, dstAt, dstOk, Nat.reduceLT, decide_true, if_true]
  simp [Bridge.enc, builtinV, pureB, lenV]
  refine wpS_loop (fun j tm H' => ∃ i G, i + j = b.ports.length ∧ tm 1 = .ptr H.length 0 0 ∧ tm 6 = .w (.lf (.sl a b.ports.length)) ∧ tm 7 = .int b.ports.length ∧ tm 8 = .int i ∧ H' = H ++ some ⟨43, .wr, [b.enc a]⟩ :: G ∧ (b.ports.take i).all Port.ok = true) b.ports.length (by rw [env_K]; omega) ⟨0, [], by simp, by simp, by simp, by simp, by simp, by simp [Bridge.enc], by simp⟩ ?_
  rintro j tm H' hj ⟨i, G, hij, t1, t6, t7, t8, rfl, hall⟩ Q' hn' he' hr'
  simp [t1, t6, t7, t8]
  refine selS_intro (fun hc => ?_) (fun hc => ?_)
  · simp at hc
    obtain ⟨id, r, bl, rfl, hbl, hbe, hrow⟩ := h i _ (by simp [hc]; rfl)
    have hid := blkAt_len hbl
    have g4 : IntKind.i64.wrap ((i : Int) + 1) = (i : Int) + 1 := wrap64 (by omega) (by omega)
    simp [t1, t6, t7, t8, indexAddrV, elemIs, hid, hbl, hbe, hc, hrow, implPortOk]
    refine selS_intro (fun hd => ?_) (fun hd => ?_)
    · simp
      refine hr' _ _ ?_
      simp
      refine hQ _ _ _ (by simp) ?_
      have : b.ports.all Port.ok = false := List.all_eq_false.2 ⟨b.ports[i], by simp, by simpa using hd⟩
      simp [Tryz.f95, this, Bridge.ok]
    · simp at hd
      simp [t1, t6, t7, t8, g4]
      refine hn' (j - 1) _ _ (by omega) ⟨i + 1, _, by omega, by simp [t1], by simp [t6], by simp [t7], by simp, rfl, ?_⟩
      rw [List.take_add_one, List.all_append, hall]
      simp [hc, hd]
  · simp at hc
    simp [t1, t6, t7, t8]
    refine he' _ _ _ ?_
    simp [t1, builtinV, pureB, lenV, Bridge.enc, inRange]
    rw [List.take_of_length_le (by omega)] at hall
    repeat' (first | (refine gdL_t (fun h => ?_) (fun h => ?_) <;> simp [h, t1, inRange, builtinV, pureB, lenV]) | (refine gdL_f (fun h => ?_) (fun h => ?_) <;> simp [h, t1, inRange, builtinV, pureB, lenV]) | (refine selS_intro (fun h => ?_) (fun h => ?_) <;> simp [h, t1, inRange, builtinV, pureB, lenV]))
    all_goals (refine hQ _ _ _ (by simp) ?_)
    all_goals (simp [Tryz.f95, Bridge.ok, hall])
    all_goals (simp_all)
    all_goals (try (intros; omega))

theorem specBridgeOk_is {H : Heap} {l : List Lf} {b : Bridge} (h : RdBridge H l b) (hn : b.sz ≤ 1048576) : run env 71 [.agg l] H = some (.bool b.ok, H) := by
  obtain ⟨a, rfl, h⟩ := h
  have hn : b.ports.length ≤ 1048576 := hn
  refine run_walk ok71 Tryz.func71 rfl (by simp [Tryz.f71]) fun Q hQ => ?_
  simp only [Tryz.f71, strip, stripL, stripI, stripG, chkT, tagsB, tagsL, tagD, addT, tagA, lookN, tagOp, elmT, ty22, ty26, ty27, ty28, ty29, ty30, ty41, ty53, ty56, Nat.reduceEqDiff, if_false, reduceIte, Option.getD_some, Option.getD_none, dstAt, dstOk, Nat.reduceLT, decide_true, if_true]
  simp [Bridge.enc, builtinV, pureB, lenV]
  refine wpS_loop (fun j tm H' => ∃ i, i + j = b.ports.length ∧ tm 1 = .ptr H.length 0 0 ∧ tm 3 = .int i ∧ H' = H ++ [some ⟨43, .wr, [b.enc a]⟩] ∧ (b.ports.take i).all Port.ok = true) b.ports.length (by rw [env_K]; omega) ⟨0, by simp, by simp, by simp, by simp [Bridge.enc], by simp⟩ ?_
  rintro j tm H' hj ⟨i, hij, t1, t3, rfl, hall⟩ Q' hn' he' hr'
  simp [t1, t3, Bridge.enc, builtinV, pureB, lenV]
  refine selS_intro (fun hc => ?_) (fun hc => ?_)
  · simp at hc
    obtain ⟨id, r, bl, rfl, hbl, hbe, hrow⟩ := h i _ (by simp [hc]; rfl)
    have hid := blkAt_len hbl
    have g4 : IntKind.i64.wrap ((i : Int) + 1) = (i : Int) + 1 := wrap64 (by omega) (by omega)
    simp [t1, t3, indexAddrV, elemIs, hid, hbl, hbe, hc, hrow, specPortOk]
    refine selS_intro (fun hd => ?_) (fun hd => ?_)
    · simp
      refine hr' _ _ ?_
      simp
      refine hQ _ _ _ (by simp) ?_
      have : b.ports.all Port.ok = false := List.all_eq_false.2 ⟨b.ports[i], by simp, by simpa using hd⟩
      simp [Tryz.f71, this, Bridge.ok]
    · simp at hd
      simp [t1, t3, g4]
      refine hn' (j - 1) _ _ (by omega) ⟨i + 1, by omega, by simp [t1], by simp, by simp [Bridge.enc], ?_⟩
      rw [List.take_add_one, List.all_append, hall]
      simp [hc, hd]
  · simp at hc
    simp [t1, t3]
    refine he' _ _ _ ?_
    simp [t1, builtinV, pureB, lenV, Bridge.enc, l1In]
    rw [List.take_of_length_le (by omega)] at hall
    repeat' (first | (refine gdL_t (fun h => ?_) (fun h => ?_) <;> simp [h, t1, l1In, builtinV, pureB, lenV]) | (refine gdL_f (fun h => ?_) (fun h => ?_) <;> simp [h, t1, l1In, builtinV, pureB, lenV]) | (refine selS_intro (fun h => ?_) (fun h => ?_) <;> simp [h, t1, l1In, builtinV, pureB, lenV]))
    all_goals (refine hQ _ _ _ (by simp) ?_)
    all_goals (simp [Tryz.f71, Bridge.ok, hall])
    all_goals (simp_all)
    all_goals (try (intros; omega))

theorem implReleased_is {H : Heap} {l : List Lf} {x : Box} (h : RdBox H l x) (hn : x.sz ≤ 1048576) : run env 31 [.agg l] H = some (.int (x.line.length : Int), H) := by
  obtain ⟨q0, q1, q2, q3, q4, rfl, _, _, _, ⟨a, rfl, h⟩, _⟩ := h
  refine run_walk ok31 Tryz.func31 rfl (by simp [Tryz.f31]) fun Q hQ => ?_
  simp only [Tryz.f31, strip, stripL, stripI, stripG, chkT, tagsB, tagsL, tagD, addT, tagA, lookN, tagOp, elmT, ty22, ty26, ty27, ty28, ty29, ty30, ty41, ty53, ty56, Nat.reduceEqDiff, if_false, reduceIte, Option.getD_some, Option.getD_none, dstAt, dstOk, Nat.reduceLT, decide_true, if_true]
  simp [Box.enc, builtinV, pureB, lenV]
  all_goals (refine hQ _ _ _ (by simp) ?_)
  all_goals (clear hQ; simp [Tryz.f31])

theorem specReleased_is {H : Heap} {l : List Lf} {x : Box} (h : RdBox H l x) (hn : x.sz ≤ 1048576) : run env 32 [.agg l] H = some (.int (x.line.length : Int), H) := by
  obtain ⟨q0, q1, q2, q3, q4, rfl, _, _, _, ⟨a, rfl, h⟩, _⟩ := h
  refine run_walk ok32 Tryz.func32 rfl (by simp [Tryz.f32]) fun Q hQ => ?_
  simp only [Tryz.f32, strip, stripL, stripI, stripG, chkT, tagsB, tagsL, tagD, addT, tagA, lookN, tagOp, elmT, ty22, ty26, ty27, ty28, ty29, ty30, ty41, ty53, ty56, Nat.reduceEqDiff, if_false, reduceIte, Option.getD_some, Option.getD_none, dstAt, dstOk, Nat.reduceLT, decide_true, if_true]
  simp [Box.enc, builtinV, pureB, lenV]
  all_goals (refine hQ _ _ _ (by simp) ?_)
  all_goals (clear hQ; simp [Tryz.f32])

def better (a b : Vec) : Bool := if a.root ≠ b.root then decide (a.root < b.root) else if a.cost ≠ b.cost then decide (a.cost < b.cost) else if a.bridge ≠ b.bridge then decide (a.bridge < b.bridge) else decide (a.port < b.port)
def cmpI' (a b : Int) : Int := if a < b then -1 else if b < a then 1 else 0
def orL (xs : List Int) : Int := (xs.find? fun x => !decide (x = 0)).getD 0

theorem cmpNaN (H : Heap) (a : Int) : run env 177 [.int a] H = some (.bool false, H) := by
  refine run_walk ok177 Tryz.func177 rfl (by simp [Tryz.f177]) fun Q hQ => ?_
  simp only [Tryz.f177, strip, stripL, stripI, stripG, chkT, tagsB, tagsL, tagD, addT, tagA, lookN, tagOp, elmT, ty22, ty26, ty27, ty28, ty29, ty30, ty41, ty53, ty56, Nat.reduceEqDiff, if_false, reduceIte, Option.getD_some, Option.getD_none, dstAt, dstOk, Nat.reduceLT, decide_true, if_true]
  simp
  all_goals (refine hQ _ _ _ (by simp) ?_)
  all_goals (clear hQ; simp [Tryz.f177])

theorem cmpCompare (H : Heap) (a b : Int) : run env 174 [.int a, .int b] H = some (.int (cmpI' a b), H) := by
  refine run_walk ok174 Tryz.func174 rfl (by simp [Tryz.f174]) fun Q hQ => ?_
  simp only [Tryz.f174, strip, stripL, stripI, stripG, chkT, tagsB, tagsL, tagD, addT, tagA, lookN, tagOp, elmT, ty22, ty26, ty27, ty28, ty29, ty30, ty41, ty53, ty56, Nat.reduceEqDiff, if_false, reduceIte, Option.getD_some, Option.getD_none, dstAt, dstOk, Nat.reduceLT, decide_true, if_true]
  simp [cmpNaN]
  refine selS_intro (fun h => ?_) (fun h => ?_)
  · simp
    refine hQ _ _ _ (by simp) ?_
    simp at h
    simp [Tryz.f174, cmpI', h]
  simp
  refine selS_intro (fun h2 => ?_) (fun h2 => ?_)
  all_goals (simp; refine hQ _ _ _ (by simp) ?_; simp at h h2; simp [Tryz.f174, cmpI']; omega)

theorem cmpOr {H : Heap} {a : Option (Nat × Nat)} {xs : List Int} (h : Sl H 3 a (xs.map encI)) (hn : xs.length ≤ 1048576) :
    run env 173 [.w (.lf (.sl a xs.length))] H = some (.int (orL xs), H) := by
  refine run_walk ok173 Tryz.func173 rfl (by simp [Tryz.f173]) fun Q hQ => ?_
  simp only [Tryz.f173, strip, stripL, stripI, stripG, chkT, tagsB, tagsL, tagD, addT, tagA, lookN, tagOp, elmT, ty22, ty26, ty27, ty28, ty29, ty30, ty41, ty53, ty56, Nat.reduceEqDiff, if_false, reduceIte, Option.getD_some, Option.getD_none, dstAt, dstOk, Nat.reduceLT, decide_true, if_true]
  simp [builtinV, pureB, lenV]
  refine wpS_loop (fun j tm H' => ∃ i, i + j = xs.length ∧ tm 3 = .int 0 ∧ tm 6 = .w (.lf (.sl a xs.length)) ∧ tm 7 = .int xs.length ∧ tm 8 = .int i ∧ H' = H ∧ ∀ x ∈ xs.take i, x = 0) xs.length (by rw [env_K]; omega) ⟨0, by simp, by simp, by simp, by simp, by simp, rfl, by simp⟩ ?_
  rintro j tm H' hj ⟨i, hij, t3, t6, t7, t8, rfl, hz⟩ Q2 hn2 he2 hr2
  simp [t3, t6, t7, t8]
  refine selS_intro (fun hc => ?_) (fun hc => ?_)
  · simp at hc
    obtain ⟨id, r, bl, rfl, hbl, hbe, hrow⟩ := h i _ (by simp [hc]; rfl)
    have g4 : IntKind.i64.wrap ((i : Int) + 1) = (i : Int) + 1 := wrap64 (by omega) (by omega)
    simp [t3, t6, t7, t8, indexAddrV, elemIs, hbl, hbe, hc, hrow, encI]
    refine selS_intro (fun hd => ?_) (fun hd => ?_)
    · simp
      refine hr2 _ _ ?_
      simp
      refine hQ _ _ _ (by simp) ?_
      have hf : xs.find? (fun x => !decide (x = 0)) = some xs[i] := by
        rw [List.find?_eq_some_iff_getElem]
        refine ⟨by simpa using hd, i, hc, rfl, fun j hj => ?_⟩
        have := hz xs[j] (List.mem_take_iff_getElem.2 ⟨j, by omega, rfl⟩)
        simp [this]
      simp [Tryz.f173, orL, hf]
    · simp at hd
      simp [t3, t6, t7, t8, g4]
      refine hn2 (j - 1) _ _ (by omega) ⟨i + 1, by omega, by simp [t3], by simp [t6], by simp [t7], by simp, rfl, ?_⟩
      intro x hx
      rw [List.take_add_one, List.getElem?_eq_getElem hc, List.mem_append] at hx
      rcases hx with hx | hx
      · exact hz x hx
      · simp at hx
        rw [hx]; exact hd
  · simp at hc
    rw [List.take_of_length_le (by omega)] at hz
    simp [t3, t6, t7, t8]
    refine he2 _ _ _ ?_
    simp [t3]
    refine hQ _ _ _ (by simp) ?_
    have hf : xs.find? (fun x => !decide (x = 0)) = none := by
      rw [List.find?_eq_none]
      intro x hx
      simp [hz x hx]
    simp [Tryz.f173, orL, hf]

theorem implBetter (H : Heap) (x y : Vec) : run env 155 [.agg x.enc, .agg y.enc] H = some (.bool (better x y), H) := by
  have e1 := fun H a b => cmpCompare H a b
  have e3 := fun p q u v B1 B2 => cmpOr (H := H ++ [B1, B2, some ⟨3, .wr, [[.i .i64 p], [.i .i64 q], [.i .i64 u], [.i .i64 v]]⟩]) (a := some (H.length + 2, 0)) (xs := [p, q, u, v]) (Sl.of (by simp [encI])) (by simp)
  simp at e3
  refine run_walk ok155 Tryz.func155 rfl (by simp [Tryz.f155]) fun Q hQ => ?_
  simp only [Tryz.f155, strip, stripL, stripI, stripG, chkT, tagsB, tagsL, tagD, addT, tagA, lookN, tagOp, elmT, ty22, ty26, ty27, ty28, ty29, ty30, ty41, ty53, ty56, Nat.reduceEqDiff, if_false, reduceIte, Option.getD_some, Option.getD_none, dstAt, dstOk, Nat.reduceLT, decide_true, if_true]
  simp [Vec.enc, e1, e3]
  refine hQ _ _ _ (by simp) ?_
  simp [Tryz.f155]
  unfold orL better cmpI'
  by_cases h1 : x.root < y.root <;> by_cases h2 : y.root < x.root <;> by_cases h3 : x.cost < y.cost <;> by_cases h4 : y.cost < x.cost <;> by_cases h5 : x.bridge < y.bridge <;> by_cases h6 : y.bridge < x.bridge <;> by_cases h7 : x.port < y.port <;> by_cases h8 : y.port < x.port <;> simp [h1, h2, h3, h4, h5, h6, h7, h8, List.find?] <;> omega

theorem specBetter (H : Heap) (x y : Vec) : run env 159 [.agg x.enc, .agg y.enc] H = some (.bool (better x y), H) := by
  obtain ⟨a1, a2, a3, a4⟩ := x
  obtain ⟨b1, b2, b3, b4⟩ := y
  refine run_walk ok159 Tryz.func159 rfl (by simp [Tryz.f159]) fun Q hQ => ?_
  simp only [Tryz.f159, strip, stripL, stripI, stripG, chkT, tagsB, tagsL, tagD, addT, tagA, lookN, tagOp, elmT, ty22, ty26, ty27, ty28, ty29, ty30, ty41, ty53, ty56, Nat.reduceEqDiff, if_false, reduceIte, Option.getD_some, Option.getD_none, dstAt, dstOk, Nat.reduceLT, decide_true, if_true]
  simp [Vec.enc]
  repeat' (first | (refine gdL_t (fun h => ?_) (fun h => ?_) <;> simp [h]) | (refine gdL_f (fun h => ?_) (fun h => ?_) <;> simp [h]) | (refine selS_intro (fun h => ?_) (fun h => ?_) <;> simp [h]))
  all_goals (refine hQ _ _ _ (by simp) ?_)
  all_goals (clear hQ; simp_all [Tryz.f159, better])

def rootSkip (b : Bridge) (p : Port) : Bool := !p.has || decide (p.vec.bridge = b.id) || decide (b.id ≤ p.vec.root) || decide (20 ≤ p.vec.cost) || decide (8 ≤ p.hops)
def rootStep (b : Bridge) (best : Int) (i : Nat) (p : Port) : Int := if rootSkip b p then best else if decide (best < 0) || better p.vec (b.ports.getD best.toNat default).vec then i else best
def rootUpto (b : Bridge) : Nat → Int
  | 0 => -1
  | i + 1 => match b.ports[i]? with
    | some p => rootStep b (rootUpto b i) i p
    | none => rootUpto b i
def rootAt (b : Bridge) : Int := rootUpto b b.ports.length
theorem rootUpto_lt (b : Bridge) : ∀ i, -1 ≤ rootUpto b i ∧ rootUpto b i < i
  | 0 => by simp [rootUpto]
  | i + 1 => by
    have ih := rootUpto_lt b i
    unfold rootUpto
    split
    · unfold rootStep
      split
      · omega
      · split <;> omega
    · omega
def rootPort (b : Bridge) : Int × Bool := if b.ok then (rootAt b, decide (0 ≤ rootAt b)) else (-1, false)

theorem specRootPort {H : Heap} {l : List Lf} {b : Bridge} (h : RdBridge H l b) (hn : b.sz ≤ 1048576) : run env 140 [.agg l] H = some (.tup [.lf (.i .i64 (rootPort b).1), .lf (.b (rootPort b).2)], H) := by
  have hR := h
  have eo := fun G => specBridgeOk_is (hR.app G) (by omega)
  have e1 := fun H (c1 c2 c3 c4 d1 d2 d3 d4 : Int) => specBetter H ⟨c1, c2, c3, c4⟩ ⟨d1, d2, d3, d4⟩
  simp only [Vec.enc] at e1
  obtain ⟨a, rfl, h_⟩ := h
  have hn : b.ports.length ≤ 1048576 := hn
  simp only [Bridge.enc] at eo
  refine run_walk ok140 Tryz.func140 rfl (by simp [Tryz.f140]) fun Q hQ => ?_
  simp only [Tryz.f140, strip, stripL, stripI, stripG, chkT, tagsB, tagsL, tagD, addT, tagA, lookN, tagOp, elmT, ty22, ty26, ty27, ty28, ty29, ty30, ty41, ty53, ty56, Nat.reduceEqDiff, if_false, reduceIte, Option.getD_some, Option.getD_none, dstAt, dstOk, Nat.reduceLT, decide_true, if_true]
  simp
  obtain ⟨B, hB⟩ : ∃ B : Option Blk, B = some ⟨43, .wr, [[.i .i64 b.id, .sl a b.ports.length]]⟩ := ⟨_, rfl⟩
  cases hok : b.ok
  · refine wpS_loop (fun j tm H' => tm 1 = .ptr H.length 0 0 ∧ tm 4 = .int (-1) ∧ tm 5 = .int 0 ∧ H' = H ++ [B]) 0 (by rw [env_K]; omega) ⟨by simp, by simp, by simp, by simp [hB, Bridge.enc]⟩ ?_
    rintro j tm H' hj ⟨t1, t4, t5, rfl⟩ Q2 hn2 he2 hr2
    simp [t1, t4, t5, hB, builtinV, pureB, lenV]
    rw [hok] at eo
    repeat' (first | (refine gdL_t (fun h => ?_) (fun h => ?_) <;> simp [h, t1, eo]) | (refine gdL_f (fun h => ?_) (fun h => ?_) <;> simp [h, t1, eo]) | (refine selS_intro (fun h => ?_) (fun h => ?_) <;> simp [h, t1, eo]))
    all_goals (refine he2 _ _ _ ?_)
    all_goals (simp [t4]; refine hQ _ _ _ (by simp) ?_; simp [Tryz.f140, rootPort, hok])
  · rw [hok] at eo
    refine wpS_loop (fun j tm H' => ∃ i T, i + j = b.ports.length ∧ tm 1 = .ptr H.length 0 0 ∧ tm 4 = .int (rootUpto b i) ∧ tm 5 = .int i ∧ H' = H ++ B :: T) b.ports.length (by rw [env_K]; omega) ⟨0, [], by simp, by simp, by simp [rootUpto], by simp, by simp [hB, Bridge.enc]⟩ ?_
    rintro j tm H' hj ⟨i, T, hij, t1, t4, t5, rfl⟩ Q2 hn2 he2 hr2
    simp [t1, t4, t5, hB, builtinV, pureB, lenV]
    refine gdL_t (fun hc => ?_) (fun hc => ?_)
    · simp [hc, eo, t1]
      simp at hc
      obtain ⟨id2, r, bl, rfl, hbl, hbe, hrow⟩ := h_ i _ (by simp [hc]; rfl)
      have hid := blkAt_len hbl
      have g4 : IntKind.i64.wrap ((i : Int) + 1) = (i : Int) + 1 := wrap64 (by omega) (by omega)
      have hlt := rootUpto_lt b i
      have hstep : rootUpto b (i + 1) = rootStep b (rootUpto b i) i b.ports[i] := by rw [rootUpto, List.getElem?_eq_getElem hc]
      have hskip : ∀ tm', tm' 1 = .ptr H.length 0 0 → tm' 4 = .int (rootUpto b (i + 1)) → tm' 5 = .int ((i : Int) + 1) → ∀ T', Q2 .normal tm' (H ++ some ⟨43, .wr, [[.i .i64 b.id, .sl (some (id2, r)) b.ports.length]]⟩ :: T') := fun tm' a1 a4 a5 T' =>
        hn2 (j - 1) _ _ (by omega) ⟨i + 1, T', by omega, a1, a4, by simpa using a5, by rw [hB]⟩
      obtain ⟨p, hp⟩ : ∃ p, p = b.ports[i] := ⟨_, rfl⟩
      rw [← hp] at hstep
      have skipped : rootSkip b p = true → rootUpto b (i + 1) = rootUpto b i := fun hs => by rw [hstep, rootStep, if_pos hs]
      simp [t1, t4, t5, indexAddrV, elemIs, hid, hbl, hbe, hc, hrow, ← hp, Port.enc]
      repeat' (first | (refine gdL_t (fun h => ?_) (fun h => ?_) <;> simp [h, t1, t4, t5, g4]) | (refine gdL_f (fun h => ?_) (fun h => ?_) <;> simp [h, t1, t4, t5, g4]) | (refine selS_intro (fun h => ?_) (fun h => ?_) <;> simp [h, t1, t4, t5, g4]))
      iterate 5 (refine hskip _ (by simp [t1]) ?_ (by simp) _; rw [skipped (by clear hQ hn2 he2 hr2 hskip; simp_all [rootSkip])]; simp [t4])
      · have hns : rootSkip b p = false := by clear hQ hn2 he2 hr2 hskip skipped; simp_all [rootSkip]
        refine hskip _ (by simp [t1]) ?_ (by simp) _
        rw [hstep, rootStep, hns]
        have h0 : rootUpto b i < 0 := by simpa using h
        simp [h0]
      · have hns : rootSkip b p = false := by clear hQ hn2 he2 hr2 hskip skipped; simp_all [rootSkip]
        have h0 : 0 ≤ rootUpto b i := by simpa using h
        have hki : (rootUpto b i).toNat < b.ports.length := by omega
        have hkl : rootUpto b i < (b.ports.length : Int) := by omega
        obtain ⟨id3, r3, bl3, hx3, hbl3, hbe3, hrow3⟩ := h_ (rootUpto b i).toNat _ (by simp [hki]; rfl)
        cases hx3
        rw [hbl] at hbl3
        injection hbl3 with hbl3
        subst hbl3
        have hgd : (b.ports.getD (rootUpto b i).toNat default) = b.ports[(rootUpto b i).toNat] := by simp [List.getD, List.getElem?_eq_getElem hki]
        have hnl : ¬ rootUpto b i < 0 := by omega
        rw [rootStep, hns, hgd] at hstep
        simp only [Bool.false_eq_true, if_false, hnl, decide_false, Bool.false_or] at hstep
        simp [t1, t4, t5, indexAddrV, elemIs, hid, hbl, hbe, h0, hkl, hrow3, Port.enc, e1]
        refine selS_intro (fun hd => ?_) (fun hd => ?_)
        · simp [t1, t4, t5, g4]
          refine hskip _ (by simp [t1]) ?_ (by simp) _
          rw [hstep, if_pos (by simpa using hd)]
          simp
        · simp [t1, t4, t5, g4]
          refine hskip _ (by simp [t1]) ?_ (by simp) _
          rw [hstep, if_neg (by simpa using hd)]
          simp [t4]
    · simp [hc]
      simp at hc
      obtain rfl : i = b.ports.length := by omega
      refine he2 _ _ _ ?_
      simp [t4]
      refine hQ _ _ _ (by simp) ?_
      simp [Tryz.f140, rootPort, rootAt, hok]
      exact decide_eq_decide.2 Iff.rfl

def bridgeNew (id ports : Int) : Bridge × Bool := if (decide (1 ≤ id) && decide (id ≤ 9)) && (decide (1 ≤ ports) && decide (ports ≤ 4)) then (⟨id, List.replicate ports.toNat Port.zv⟩, true) else (⟨0, []⟩, false)
theorem Port.zv_ok : Port.zv.ok = true := by decide
theorem bridgeNew_ok {id ports : Int} (h : (bridgeNew id ports).2 = true) : (bridgeNew id ports).1.ok = true := by
  unfold bridgeNew at h ⊢
  split at h
  · rename_i h1
    rw [if_pos h1]
    simp at h1
    have hl : (List.replicate ports.toNat Port.zv).all Port.ok = true := by
      rw [List.all_eq_true]; intro p hp; rw [(List.mem_replicate.1 hp).2]; exact Port.zv_ok
    simp only [Bridge.ok, hl, Bool.true_and, List.length_replicate, Bool.and_eq_true, decide_eq_true_eq]
    omega
  · simp at h

theorem implBridgeNew (H : Heap) (id ports : Int) : Runs env 27 [.int id, .int ports] H fun v H' => ∃ l fp, v = .tup [.agg l, .lf (.b (bridgeNew id ports).2)] ∧ IsBridge H' l (bridgeNew id ports).1 fp ∧ Fresh H H' fp := by
  refine Runs.walk ok27 Tryz.func27 rfl (by simp [Tryz.f27]) fun Q hQ => ?_
  simp only [Tryz.f27, strip, stripL, stripI, stripG, chkT, tagsB, tagsL, tagD, addT, tagA, lookN, tagOp, elmT, ty22, ty26, ty27, ty28, ty29, ty30, ty41, ty53, ty56, Nat.reduceEqDiff, if_false, reduceIte, Option.getD_some, Option.getD_none, dstAt, dstOk, Nat.reduceLT, decide_true, if_true]
  simp [inRange]
  by_cases h1 : 1 ≤ id ∧ id ≤ 9
  · by_cases h2 : 1 ≤ ports ∧ ports ≤ 4
    · have hb : bridgeNew id ports = (⟨id, List.replicate ports.toNat Port.zv⟩, true) := by simp [bridgeNew, h1, h2]
      have k1 : ports * 80 ≤ 281474976710656 := by omega
      have k2 : ports ≤ 9223372036854775807 := by omega
      have k3 : 0 ≤ ports := by omega
      simp [h1, h2, makeSliceV, makeSliceR, newBlk, k1, k2, k3, inRange]
      refine hQ _ _ _ (by simp) ?_
      simp [Tryz.f27, hb]
      have ho : ∀ B : Option Blk, IsBridge (H ++ [B, some ⟨99, .wr, List.replicate ports.toNat Port.z⟩]) [.i .i64 id, .sl (some (H.length + 1, 0)) ports.toNat] ⟨id, List.replicate ports.toNat Port.zv⟩ [H.length + 1] := fun B =>
        ⟨some (H.length + 1, 0), by simp [Bridge.enc], Own.of (by simp [Port.enc])⟩
      exact (ho _).leave (Fresh.app H _ (by simp)) (by simp)
    · have hb : bridgeNew id ports = (⟨0, []⟩, false) := by
        unfold bridgeNew; rw [if_neg]; simp; intros; omega
      have h2' : (decide (1 ≤ ports) && decide (ports ≤ 4)) = false := by rw [Bool.and_eq_false_iff]; simp; omega
      simp [h1, h2', inRange]
      refine hQ _ _ _ (by simp) ?_
      simp [Tryz.f27, hb]
      exact ⟨[], ⟨none, rfl, Own.nil _ _⟩, Fresh.refl _⟩
  · have hb : bridgeNew id ports = (⟨0, []⟩, false) := by
      unfold bridgeNew; rw [if_neg]; simp; intros; omega
    rcases (show ¬ 1 ≤ id ∨ ¬ id ≤ 9 by omega) with h | h
    all_goals (simp [h]; refine hQ _ _ _ (by simp) ?_; simp [Tryz.f27, hb]; exact ⟨[], ⟨none, rfl, Own.nil _ _⟩, Fresh.refl _⟩)

theorem l1Min (H : Heap) (a b : Int) : run env 70 [.int a, .int b] H = some (.int (if a < b then a else b), H) := by
  refine run_walk ok70 Tryz.func70 rfl (by simp [Tryz.f70]) fun Q hQ => ?_
  simp only [Tryz.f70, strip, stripL, stripI, stripG, chkT, tagsB, tagsL, tagD, addT, tagA, lookN, tagOp, elmT, ty22, ty26, ty27, ty28, ty29, ty30, ty41, ty53, ty56, Nat.reduceEqDiff, if_false, reduceIte, Option.getD_some, Option.getD_none, dstAt, dstOk, Nat.reduceLT, decide_true, if_true]
  simp
  refine selS_intro (fun h => ?_) (fun h => ?_)
  all_goals (simp; refine hQ _ _ _ (by simp) ?_; simp at h; simp [Tryz.f70]; omega)

def Wire.ok (w : Wire) : Bool := (decide (0 ≤ w.frm) && decide (w.frm ≤ 1)) && (decide (0 ≤ w.life) && decide (w.life ≤ 100000)) && (decide (0 ≤ w.n) && decide (w.n ≤ 100000)) && (if w.ack then decide (w.inn = ⟨0, 0, ⟨0, 0, 0, 0⟩, 0, false⟩) else w.inn.ok)

theorem wireOk (H : Heap) (w : Wire) : run env 64 [.agg w.enc] H = some (.bool w.ok, H) := by
  obtain ⟨a1, a2, a3, a4, ⟨b1, b2, ⟨c1, c2, c3, c4⟩, b4, b5⟩⟩ := w
  have e := fun H => implInOk H ⟨b1, b2, ⟨c1, c2, c3, c4⟩, b4, b5⟩
  simp only [In.enc] at e
  refine run_walk ok64 Tryz.func64 rfl (by simp [Tryz.f64]) fun Q hQ => ?_
  simp only [Tryz.f64, strip, stripL, stripI, stripG, chkT, tagsB, tagsL, tagD, addT, tagA, lookN, tagOp, elmT, ty22, ty26, ty27, ty28, ty29, ty30, ty41, ty53, ty56, Nat.reduceEqDiff, if_false, reduceIte, Option.getD_some, Option.getD_none, dstAt, dstOk, Nat.reduceLT, decide_true, if_true]
  simp [Wire.enc, isSide]
  repeat' (first | (refine gdL_t (fun h => ?_) (fun h => ?_) <;> simp [h, isSide, isNum, e]) | (refine gdL_f (fun h => ?_) (fun h => ?_) <;> simp [h, isSide, isNum, e]) | (refine selS_intro (fun h => ?_) (fun h => ?_) <;> simp [h, isSide, isNum, e]))
  all_goals (refine hQ _ _ _ (by simp) ?_)
  all_goals (clear hQ e; simp_all [Tryz.f64, Wire.ok])
  all_goals (try (intros; exfalso; omega))
  all_goals (try omega)
  all_goals (by_cases z0 : a1 = 0 <;> by_cases z1 : a1 = 1 <;> simp_all [Bool.and_assoc])

def Box.ok (x : Box) : Bool := (bridgeNew x.id x.ports).2 && x.reg.ok && decide (x.two.length = 2) && decide (x.net.length ≤ 20) && x.two.all Minder.ok && x.net.all Wire.ok && decide ((x.gates.length : Int) = x.ports) && logOk x.line && decide (x.said.length ≤ 40)

theorem implBoxOk_is {H : Heap} {l : List Lf} {x : Box} (h : RdBox H l x) (hn : x.sz ≤ 2000000) : run env 19 [.agg l] H = some (.bool x.ok, H) := by
  have hR := h
  obtain ⟨_, _, _, _, _, rfl, ⟨a0, rws, rfl, hs, hlen, hat⟩, ⟨a1, rfl, r1⟩, ⟨a2, rfl, r2⟩, ⟨a3, rfl, r3⟩, ⟨a4, rfl, r4⟩⟩ := h
  unfold Box.sz at hn
  have hl0 := MinderS.sz_len x.two
  have er := fun H => implRegOk H x.reg
  have el := fun G => implLogOk (H ++ G) a3 x.line (r3.app G) (by omega)
  simp only [Reg.enc] at er
  refine run_walk ok19 Tryz.func19 rfl (by simp [Tryz.f19]) fun Q hQ => ?_
  simp only [Tryz.f19, strip, stripL, stripI, stripG, chkT, tagsB, tagsL, tagD, addT, tagA, lookN, tagOp, elmT, ty22, ty26, ty27, ty28, ty29, ty30, ty41, ty53, ty56, Nat.reduceEqDiff, if_false, reduceIte, Option.getD_some, Option.getD_none, dstAt, dstOk, Nat.reduceLT, decide_true, if_true]
  have bad : x.ok = false → ∀ tm H', (∃ G, H' = H ++ G) → tm 2 = .bool false → Q .ret tm H' := by
    rintro hx tm _ ⟨G, rfl⟩ h4
    refine hQ _ _ _ (by simp) ?_
    simp [Tryz.f19, h4, hx]
  simp [Box.enc]
  refine stpL_runs (implBridgeNew _ _ _) ?_
  rintro _ _ ⟨lb, fb, rfl, ob, ⟨⟨G0, rfl⟩, -⟩⟩
  have hbL := ob.len
  simp [hbL, er, builtinV, pureB, lenV]
  repeat' (first | (refine gdL_t (fun h => ?_) (fun h => ?_) <;> simp [h, hbL, er, builtinV, pureB, lenV]) | (refine gdL_f (fun h => ?_) (fun h => ?_) <;> simp [h, hbL, er, builtinV, pureB, lenV]) | (refine selS_intro (fun h => ?_) (fun h => ?_) <;> simp [h, hbL, er, builtinV, pureB, lenV]))
  · exact bad (by simp only [Box.ok]; simp_all) _ _ ⟨_, rfl⟩ (by simp)
  · exact bad (by simp only [Box.ok]; simp_all) _ _ ⟨_, rfl⟩ (by simp)
  · exact bad (by simp only [Box.ok]; simp at h; simp; intros; omega) _ _ ⟨_, rfl⟩ (by simp)
  · exact bad (by simp only [Box.ok]; simp at h; simp; intros; omega) _ _ ⟨_, rfl⟩ (by simp)
  rename_i k1 k2 k3
  have h2 : x.two.length = 2 := by simp at k3; omega
  have h20 : x.net.length ≤ 20 := by simp at h; omega
  have kb : (bridgeNew x.id x.ports).2 = true := by simpa using k1
  have kr : x.reg.ok = true := by simpa using k2
  clear k1 k2 k3
  obtain ⟨B, hB⟩ : ∃ B : Option Blk, B = some ⟨32, .wr, [[.i .i64 x.id, .i .i64 x.ports, .i .i64 x.reg.epoch, .i .i64 x.reg.owner, .i .i64 x.reg.pair, .sl a0 x.two.length, .sl a1 x.net.length, .sl a2 x.gates.length, .sl a3 x.line.length, .sl a4 x.said.length]]⟩ := ⟨_, rfl⟩
  refine wpS_loop (fun j tm H' => ∃ i T, i + j = x.two.length ∧ tm 1 = .ptr H.length 0 0 ∧ tm 38 = .w (.lf (.sl a0 x.two.length)) ∧ tm 39 = .int x.two.length ∧ tm 40 = .int i ∧ H' = H ++ B :: T ∧ ∀ m ∈ x.two.take i, m.ok = true) x.two.length (by rw [env_K]; omega)
    ⟨0, _, by simp, by simp, by simp, by simp, by simp, by simp [hB]; rfl, by simp⟩ ?_
  rintro j tm H' hj ⟨i, T, hij, t1, t38, t39, t40, rfl, hall⟩ Q2 hn2 he2 hr2
  simp [t1, t38, t39, t40]
  refine selS_intro (fun hc => ?_) (fun hc => ?_)
  · simp at hc
    have hri : i < rws.length := by omega
    obtain ⟨id2, r, bl, rfl, hbl, hbe, hrow⟩ := hs i _ (List.getElem?_eq_getElem hri)
    have hid := blkAt_len hbl
    have he := hat i _ _ (List.getElem?_eq_getElem hri) (List.getElem?_eq_getElem hc)
    have hsz := MinderS.sz_at (List.getElem_mem hc)
    have e1 := fun G => implMinderOk_is (he.app G) (by omega)
    have hL := he.len
    have hT : rws[i].take rws[i].length = rws[i] := List.take_length
    rw [hL] at hT
    have g4 : IntKind.i64.wrap ((i : Int) + 1) = (i : Int) + 1 := wrap64 (by omega) (by omega)
    simp [t1, t38, t39, t40, indexAddrV, elemIs, hid, hbl, hbe, hc, hrow, hL, hT, e1]
    refine selS_intro (fun hd => ?_) (fun hd => ?_)
    · simp
      refine hr2 _ _ ?_
      simp
      refine bad ?_ _ _ ⟨_, rfl⟩ (by simp)
      have : x.two.all Minder.ok = false := List.all_eq_false.2 ⟨x.two[i], by simp, by simpa using hd⟩
      simp [Box.ok, this]
    · simp [t1, t38, t39, t40, g4]
      refine hn2 (j - 1) _ _ (by omega) ⟨i + 1, _, by omega, by simp [t1], by simp [t38], by simp [t39], by simp, rfl, ?_⟩
      intro m hm
      rw [List.take_add_one, List.getElem?_eq_getElem hc, List.mem_append] at hm
      rcases hm with hm | hm
      · exact hall m hm
      · simp at hm
        rw [hm]
        simpa using hd
  · simp at hc
    rw [List.take_of_length_le (by omega)] at hall
    have hallm : x.two.all Minder.ok = true := List.all_eq_true.2 hall
    simp [t1, t38, t39, t40]
    refine he2 _ _ _ ?_
    simp [t1, hB, builtinV, pureB, lenV]
    refine wpS_loop (fun j tm H' => ∃ i T, i + j = x.net.length ∧ tm 1 = .ptr H.length 0 0 ∧ tm 49 = .w (.lf (.sl a1 x.net.length)) ∧ tm 50 = .int x.net.length ∧ tm 51 = .int i ∧ H' = H ++ B :: T ∧ ∀ m ∈ x.net.take i, m.ok = true) x.net.length (by rw [env_K]; omega)
      ⟨0, _, by simp, by simp [t1], by simp, by simp, by simp, by rw [hB], by simp⟩ ?_
    rintro j tm H' hj ⟨i, T, hij, t1, t49, t50, t51, rfl, hall2⟩ Q3 hn3 he3 hr3
    simp [t1, t49, t50, t51]
    refine selS_intro (fun hc => ?_) (fun hc => ?_)
    · simp at hc
      obtain ⟨id2, r, bl, rfl, hbl, hbe, hrow⟩ := r1 i _ (by simp [hc]; rfl)
      have hid := blkAt_len hbl
      have g4 : IntKind.i64.wrap ((i : Int) + 1) = (i : Int) + 1 := wrap64 (by omega) (by omega)
      simp [t1, t49, t50, t51, indexAddrV, elemIs, hid, hbl, hbe, hc, hrow, wireOk]
      refine selS_intro (fun hd => ?_) (fun hd => ?_)
      · simp
        refine hr3 _ _ ?_
        simp
        refine bad ?_ _ _ ⟨_, rfl⟩ (by simp)
        have : x.net.all Wire.ok = false := List.all_eq_false.2 ⟨x.net[i], by simp, by simpa using hd⟩
        simp [Box.ok, this]
      · simp [t1, t49, t50, t51, g4]
        refine hn3 (j - 1) _ _ (by omega) ⟨i + 1, _, by omega, by simp [t1], by simp [t49], by simp [t50], by simp, rfl, ?_⟩
        intro m hm
        rw [List.take_add_one, List.getElem?_eq_getElem hc, List.mem_append] at hm
        rcases hm with hm | hm
        · exact hall2 m hm
        · simp at hm
          rw [hm]
          simpa using hd
    · simp at hc
      rw [List.take_of_length_le (by omega)] at hall2
      have halln : x.net.all Wire.ok = true := List.all_eq_true.2 hall2
      have hbase : x.ok = (decide ((x.gates.length : Int) = x.ports) && logOk x.line && decide ((x.said.length : Int) ≤ 40)) := by
        have e2 : decide (x.two.length = 2) = true := by simpa using h2
        have e20 : decide (x.net.length ≤ 20) = true := by simpa using h20
        have e40 : decide (x.said.length ≤ 40) = decide ((x.said.length : Int) ≤ 40) := by rw [decide_eq_decide]; omega
        unfold Box.ok
        rw [kb, kr, e2, e20, hallm, halln, e40]
        simp
      simp [t1, t49, t50, t51]
      refine he3 _ _ _ ?_
      simp [t1, hB, builtinV, pureB, lenV]
      repeat' (first | (refine gdL_t (fun h => ?_) (fun h => ?_) <;> simp [h, t1, hB, el, builtinV, pureB, lenV]) | (refine gdL_f (fun h => ?_) (fun h => ?_) <;> simp [h, t1, hB, el, builtinV, pureB, lenV]) | (refine selS_intro (fun h => ?_) (fun h => ?_) <;> simp [h, t1, hB, el, builtinV, pureB, lenV]))
      all_goals (refine hQ _ _ _ (by simp) ?_)
      all_goals (simp [Tryz.f19, hbase])
      all_goals (clear hQ; simp_all)

theorem specNew_ok (id ports : Int) : (⟨id, List.replicate (if ports < 5 then ports else 5).toNat Port.zv⟩ : Bridge).ok = (bridgeNew id ports).2 := by
  have hl : ∀ n, (List.replicate n Port.zv).all Port.ok = true := fun n => by
    rw [List.all_eq_true]; intro p hp; rw [(List.mem_replicate.1 hp).2]; exact Port.zv_ok
  by_cases h : (1 ≤ id ∧ id ≤ 9) ∧ 1 ≤ ports ∧ ports ≤ 4
  · have h1 : bridgeNew id ports = (⟨id, List.replicate ports.toNat Port.zv⟩, true) := by unfold bridgeNew; rw [if_pos (by simp; omega)]
    rw [h1, if_pos (by omega)]
    simp only [Bridge.ok, hl, Bool.true_and, List.length_replicate, Bool.and_eq_true, decide_eq_true_eq]
    omega
  · have h1 : bridgeNew id ports = (⟨0, []⟩, false) := by unfold bridgeNew; rw [if_neg (by simp; intros; omega)]
    rw [h1, Bool.eq_false_iff]
    simp only [Bridge.ok, hl, Bool.true_and, List.length_replicate, ne_eq, Bool.and_eq_true, decide_eq_true_eq]
    intro h2
    split at h2 <;> omega
theorem specBridgeNew (H : Heap) (id ports : Int) : Runs env 28 [.int id, .int ports] H fun v H' => ∃ l fp, v = .tup [.agg l, .lf (.b (bridgeNew id ports).2)] ∧ IsBridge H' l (bridgeNew id ports).1 fp ∧ Fresh H H' fp := by
  obtain ⟨n, hn⟩ : ∃ n, n = (if ports < 5 then ports else 5).toNat := ⟨_, rfl⟩
  have hn5 : n ≤ 5 := by rw [hn]; split <;> omega
  obtain ⟨C, hC⟩ : ∃ C : Option Blk, C = some ⟨43, .wr, [[.i .i64 0, .sl none 0]]⟩ := ⟨_, rfl⟩
  have e1 := fun H a b => l1Min H a b
  refine Runs.walk ok28 Tryz.func28 rfl (by simp [Tryz.f28]) fun Q hQ => ?_
  simp only [Tryz.f28, strip, stripL, stripI, stripG, chkT, tagsB, tagsL, tagD, addT, tagA, lookN, tagOp, elmT, ty22, ty26, ty27, ty28, ty29, ty30, ty41, ty53, ty56, Nat.reduceEqDiff, if_false, reduceIte, Option.getD_some, Option.getD_none, dstAt, dstOk, Nat.reduceLT, decide_true, if_true]
  simp
  refine wpS_loop (fun j tm H' => ∃ i a' fp G, i + j = n ∧ tm 0 = .int id ∧ tm 1 = .int ports ∧ tm 4 = .ptr H.length 0 0 ∧ tm 6 = .ptr (H.length + 1) 0 0 ∧ tm 7 = .int i ∧ H' = H ++ C :: some ⟨43, .wr, [[.i .i64 id, .sl a' i]]⟩ :: G ∧
      Own (H ++ C :: some ⟨43, .wr, [[.i .i64 id, .sl a' i]]⟩ :: G) 99 a' (List.replicate i Port.z) fp ∧ ∀ k ∈ fp, H.length + 2 ≤ k) n (by rw [env_K]; omega)
    ⟨0, none, [], [], by simp, by simp, by simp, by simp, by simp, by simp, by simp [hC], Own.nil _ _, by simp⟩ ?_
  rintro j tm H' hj ⟨i, a', fp, G, hij, t0, t1, t4, t6, t7, rfl, ho, hfp⟩ Q2 hn2 he2 hr2
  simp [t0, t1, t4, t6, t7, e1]
  refine selS_intro (fun hc => ?_) (fun hc => ?_)
  · simp at hc
    have hin : i < n := by rw [hn]; omega
    have g4 : IntKind.i64.wrap ((i : Int) + 1) = (i : Int) + 1 := wrap64 (by omega) (by omega)
    simp [t0, t1, t4, t6, t7]
    refine stpL_append (rows := List.replicate i Port.z) (ys := [Port.z]) (by simpa using ho.app _) (Sl.of (by simp)) rfl rfl rfl (by simp) (by simp; omega) (by simp) rfl ?_
    intro a2 H2 f2 o2 hk2 hf2
    obtain ⟨G2, rfl, -, -⟩ := Keep.cut (L := [_, _]) hk2 (by intro k hk; have := hfp k hk; simp; omega)
    have lo2 : ∀ k ∈ f2, H.length + 2 ≤ k := fun k hk => by
      rcases hf2 k hk with h | h
      · exact hfp k h
      · simp at h; omega
    have o3 := fun y => o2.keep (Keep.set (id := H.length + 1) _ y) (fun k hk => by have := lo2 k hk; simp; omega)
    simp at o3
    simp [t0, t1, t4, t6, t7, g4]
    refine hn2 (j - 1) _ _ (by omega) ⟨i + 1, a2, f2, G2, by omega, by simp [t0], by simp [t1], by simp [t4], by simp [t6], by simp, rfl, ?_, lo2⟩
    rw [List.replicate_succ']
    exact o3 _
  · simp at hc
    have hin : i = n := by rw [hn]; omega
    subst hin
    have hd : RdBridge (H ++ C :: some ⟨43, .wr, [[.i .i64 id, .sl a' i]]⟩ :: G) [.i .i64 id, .sl a' i] ⟨id, List.replicate i Port.zv⟩ := ⟨a', by simp [Bridge.enc], by simpa [Port.enc] using ho.sl⟩
    have e2 := specBridgeOk_is hd (by simp [Bridge.sz]; omega)
    have hok := specNew_ok id ports
    rw [← hn] at hok
    rw [hok] at e2
    simp [t0, t1, t4, t6, t7]
    refine he2 _ _ _ ?_
    simp [t4, t6, e2]
    refine selS_intro (fun hd => ?_) (fun hd => ?_)
    · simp at hd
      simp [t4, t6, hC]
      refine hQ _ _ _ (by simp) ?_
      have hb : bridgeNew id ports = (⟨0, []⟩, false) := by
        unfold bridgeNew at hd ⊢
        split at hd
        · cases hd
        · rename_i h; rw [if_neg h]
      simp [Tryz.f28, hb, t4]
      exact ⟨[], ⟨none, rfl, Own.nil _ _⟩, Fresh.refl _⟩
    · simp at hd
      simp [t4, t6, hC]
      refine hQ _ _ _ (by simp) ?_
      have hb : bridgeNew id ports = (⟨id, List.replicate i Port.zv⟩, true) := by
        unfold bridgeNew at hd ⊢
        split at hd
        · rename_i h
          rw [if_pos h]
          simp at h
          have : ports.toNat = i := by rw [hn, if_pos (by omega)]
          rw [this]
        · cases hd
      simp [Tryz.f28, hb, t4]
      have o5 := fun y => ho.keep (Keep.set (id := H.length) _ y) (fun k hk => by have := hfp k hk; simp; omega)
      simp at o5
      exact IsBridge.leave ⟨a', by simp [Bridge.enc], by simpa [Port.enc] using o5 _⟩ (Fresh.app H _ fun k hk => by have := hfp k hk; omega) (by simp)

theorem l14Net {H : Heap} {l : List Lf} {x : Box} (h : RdBox H l x) (hn : x.sz ≤ 2000000) : run env 77 [.agg l] H = some (.bool (x.net.all Wire.ok && decide ((x.net.length : Int) ≤ 20)), H) := by
  obtain ⟨q0, _, q2, q3, q4, rfl, -, ⟨a1, rfl, r1⟩, -, -, -⟩ := h
  unfold Box.sz at hn
  have e1 := fun H x => specInOk H x
  have e2 := fun H (b1 b2 c1 c2 c3 c4 b4 : Int) (b5 : Bool) => specInOk H ⟨b1, b2, ⟨c1, c2, c3, c4⟩, b4, b5⟩
  simp only [In.enc] at e2
  obtain ⟨B, hB⟩ : ∃ B : Option Blk, B = some ⟨32, .wr, [x.enc q0 (.sl a1 x.net.length) q2 q3 q4]⟩ := ⟨_, rfl⟩
  refine run_walk ok77 Tryz.func77 rfl (by simp [Tryz.f77]) fun Q hQ => ?_
  simp only [Tryz.f77, strip, stripL, stripI, stripG, chkT, tagsB, tagsL, tagD, addT, tagA, lookN, tagOp, elmT, ty22, ty26, ty27, ty28, ty29, ty30, ty41, ty53, ty56, Nat.reduceEqDiff, if_false, reduceIte, Option.getD_some, Option.getD_none, dstAt, dstOk, Nat.reduceLT, decide_true, if_true]
  simp
  refine wpS_loop (fun j tm H' => ∃ i T, i + j = x.net.length ∧ tm 1 = .ptr H.length 0 0 ∧ tm 3 = .int i ∧ H' = H ++ B :: T ∧ ∀ m ∈ x.net.take i, m.ok = true) x.net.length (by rw [env_K]; omega)
    ⟨0, _, by simp, by simp, by simp, by simp [hB]; rfl, by simp⟩ ?_
  rintro j tm H' hj ⟨i, T, hij, t1, t3, rfl, hall⟩ Q2 hn2 he2 hr2
  simp [t1, t3, hB, Box.enc, builtinV, pureB, lenV]
  refine selS_intro (fun hc => ?_) (fun hc => ?_)
  · simp at hc
    obtain ⟨id2, r, bl, rfl, hbl, hbe, hrow⟩ := r1 i _ (by simp [hc]; rfl)
    have hid := blkAt_len hbl
    have g4 : IntKind.i64.wrap ((i : Int) + 1) = (i : Int) + 1 := wrap64 (by omega) (by omega)
    have hbad : x.net[i].ok = false → ∀ tm, tm 2 = .bool false → ∀ T', Q2 .ret tm (H ++ some ⟨32, .wr, [x.enc q0 (.sl (some (id2, r)) x.net.length) q2 q3 q4]⟩ :: T') := by
      intro hx tm h2 T'
      refine hr2 _ _ ?_
      simp
      refine hQ _ _ _ (by simp) ?_
      have : x.net.all Wire.ok = false := List.all_eq_false.2 ⟨x.net[i], by simp, by simp [hx]⟩
      simp [Tryz.f77, h2, this]
    have hgood : x.net[i].ok = true → ∀ tm, tm 1 = .ptr H.length 0 0 → tm 3 = .int ((i : Int) + 1) → ∀ T', Q2 .normal tm (H ++ some ⟨32, .wr, [x.enc q0 (.sl (some (id2, r)) x.net.length) q2 q3 q4]⟩ :: T') := by
      intro hx tm a1 a3 T'
      refine hn2 (j - 1) _ _ (by omega) ⟨i + 1, T', by omega, a1, by simpa using a3, by rw [hB], ?_⟩
      intro m hm
      rw [List.take_add_one, List.getElem?_eq_getElem hc, List.mem_append] at hm
      rcases hm with hm | hm
      · exact hall m hm
      · simp at hm
        rw [hm]
        exact hx
    simp only [Box.enc] at hbad hgood
    obtain ⟨w, hw⟩ : ∃ w, w = x.net[i] := ⟨_, rfl⟩
    rw [← hw] at hbad hgood
    obtain ⟨w1, w2, w3, w4, ⟨b1, b2, ⟨c1, c2, c3, c4⟩, b4, b5⟩⟩ := w
    simp [t1, t3, indexAddrV, elemIs, hid, hbl, hbe, hc, hrow, ← hw, Wire.enc, l1In]
    repeat' (first | (refine gdL_t (fun h => ?_) (fun h => ?_) <;> simp [h, t1, t3, l1In, e2, g4]) | (refine gdL_f (fun h => ?_) (fun h => ?_) <;> simp [h, t1, t3, l1In, e2, g4]) | (refine selS_intro (fun h => ?_) (fun h => ?_) <;> simp [h, t1, t3, l1In, e2, g4]))
    iterate 3 (refine hbad ?_ _ (by simp) _; rw [Wire.ok]; clear hbad hgood hQ hn2 he2 hr2 e1 e2; simp_all; try omega)
    · refine hbad ?_ _ (by simp) _
      rw [Wire.ok]; clear hbad hgood hQ hn2 he2 hr2 e1 e2; simp_all; try (intros; simp_all)
    · refine hgood ?_ _ (by simp [t1]) (by simp) _
      rw [Wire.ok]; clear hbad hgood hQ hn2 he2 hr2 e1 e2; simp_all; try (intros; simp_all)
    · refine hbad ?_ _ (by simp) _
      rw [Wire.ok]; clear hbad hgood hQ hn2 he2 hr2 e1 e2; simp_all; try (intros; simp_all)
    · refine hgood ?_ _ (by simp [t1]) (by simp) _
      rw [Wire.ok]; clear hbad hgood hQ hn2 he2 hr2 e1 e2; simp_all; try (intros; simp_all)
  · simp at hc
    rw [List.take_of_length_le (by omega)] at hall
    have halln : x.net.all Wire.ok = true := List.all_eq_true.2 hall
    simp [t1, t3]
    refine he2 _ _ _ ?_
    simp [t1, hB, Box.enc, builtinV, pureB, lenV]
    refine hQ _ _ _ (by simp) ?_
    simp [Tryz.f77, halln]

theorem specBoxOk_is {H : Heap} {l : List Lf} {x : Box} (h : RdBox H l x) (hn : x.sz ≤ 2000000) : run env 30 [.agg l] H = some (.bool x.ok, H) := by
  have hR := h
  obtain ⟨_, _, _, _, _, rfl, ⟨a0, rws, rfl, hs, hlen, hat⟩, ⟨a1, rfl, r1⟩, ⟨a2, rfl, r2⟩, ⟨a3, rfl, r3⟩, ⟨a4, rfl, r4⟩⟩ := h
  have hn0 := hn
  unfold Box.sz at hn
  have hl0 := MinderS.sz_len x.two
  have er := fun H => specRegOk H x.reg
  have el := fun G => specLogOk (H ++ G) a3 x.line (r3.app G) (by omega)
  have en := fun G => l14Net (hR.app G) hn0
  simp only [Reg.enc] at er
  simp only [Box.enc] at en
  refine run_walk ok30 Tryz.func30 rfl (by simp [Tryz.f30]) fun Q hQ => ?_
  simp only [Tryz.f30, strip, stripL, stripI, stripG, chkT, tagsB, tagsL, tagD, addT, tagA, lookN, tagOp, elmT, ty22, ty26, ty27, ty28, ty29, ty30, ty41, ty53, ty56, Nat.reduceEqDiff, if_false, reduceIte, Option.getD_some, Option.getD_none, dstAt, dstOk, Nat.reduceLT, decide_true, if_true]
  have bad : x.ok = false → ∀ tm H', (∃ G, H' = H ++ G) → tm 2 = .bool false → Q .ret tm H' := by
    rintro hx tm _ ⟨G, rfl⟩ h4
    refine hQ _ _ _ (by simp) ?_
    simp [Tryz.f30, h4, hx]
  simp [Box.enc]
  refine stpL_runs (specBridgeNew _ _ _) ?_
  rintro _ _ ⟨lb, fb, rfl, ob, ⟨⟨G0, rfl⟩, -⟩⟩
  have hbL := ob.len
  by_cases h2 : x.two.length = 2
  · obtain ⟨m0, m1, hm⟩ : ∃ m0 m1, x.two = [m0, m1] := by
      match hx : x.two, h2 with
      | [m0, m1], _ => exact ⟨m0, m1, rfl⟩
    obtain ⟨l0, l1, hrw⟩ : ∃ l0 l1, rws = [l0, l1] := by
      match hx : rws, (by rw [hlen, h2] : rws.length = 2) with
      | [l0, l1], _ => exact ⟨l0, l1, rfl⟩
    subst hrw
    rw [hm] at hat
    obtain ⟨id2, r, bl, rfl, hbl, hbe, hrow0⟩ := hs 0 l0 rfl
    obtain ⟨id3, r3', bl3, hx3, hbl3, hbe3, hrow1⟩ := hs 1 l1 rfl
    cases hx3
    rw [hbl] at hbl3
    injection hbl3 with hbl3
    subst hbl3
    have hid := blkAt_len hbl
    have he0 := hat 0 l0 m0 rfl rfl
    have he1 := hat 1 l1 m1 rfl rfl
    have hs0 := MinderS.sz_at (xs := x.two) (x := m0) (by simp [hm])
    have hs1 := MinderS.sz_at (xs := x.two) (x := m1) (by simp [hm])
    have e0 := fun G => specMinderOk_is (he0.app G) (by omega)
    have e1 := fun G => specMinderOk_is (he1.app G) (by omega)
    have hL0 := he0.len
    have hT0 : l0.take l0.length = l0 := List.take_length
    rw [hL0] at hT0
    have hL1 := he1.len
    have hT1 : l1.take l1.length = l1 := List.take_length
    rw [hL1] at hT1
    have hbase : x.ok = ((bridgeNew x.id x.ports).2 && x.reg.ok && m0.ok && m1.ok && (x.net.all Wire.ok && decide ((x.net.length : Int) ≤ 20)) && decide ((x.gates.length : Int) = x.ports) && logOk x.line && decide ((x.said.length : Int) ≤ 40)) := by
      have e20 : decide (x.net.length ≤ 20) = decide ((x.net.length : Int) ≤ 20) := by rw [decide_eq_decide]; omega
      have e40 : decide (x.said.length ≤ 40) = decide ((x.said.length : Int) ≤ 40) := by rw [decide_eq_decide]; omega
      have ea : x.two.all Minder.ok = (m0.ok && m1.ok) := by rw [hm]; simp
      have e2 : decide (x.two.length = 2) = true := by simpa using h2
      unfold Box.ok
      rw [e20, e40, ea, e2]
      cases (bridgeNew x.id x.ports).2 <;> cases x.reg.ok <;> cases m0.ok <;> cases m1.ok <;> cases x.net.all Wire.ok <;> cases decide ((x.net.length : Int) ≤ 20) <;> rfl
    simp only [Nat.add_zero] at hrow0
    simp only [h2] at en
    simp [hbL, er, h2, builtinV, pureB, lenV, indexAddrV, elemIs, hid, hbl, hbe, hrow0, hrow1, hL0, hT0, hL1, hT1, e0, e1]
    repeat' (first | (refine gdL_t (fun h => ?_) (fun h => ?_) <;> simp [h, hbL, er, h2, builtinV, pureB, lenV, indexAddrV, elemIs, hid, hbl, hbe, hrow0, hrow1, hL0, hT0, hL1, hT1, e0, e1, en, el]) | (refine gdL_f (fun h => ?_) (fun h => ?_) <;> simp [h, hbL, er, h2, builtinV, pureB, lenV, indexAddrV, elemIs, hid, hbl, hbe, hrow0, hrow1, hL0, hT0, hL1, hT1, e0, e1, en, el]) | (refine selS_intro (fun h => ?_) (fun h => ?_) <;> simp [h, hbL, er, h2, builtinV, pureB, lenV, indexAddrV, elemIs, hid, hbl, hbe, hrow0, hrow1, hL0, hT0, hL1, hT1, e0, e1, en, el]))
    all_goals (refine hQ _ _ _ (by simp) ?_)
    all_goals (rw [hbase])
    all_goals (clear hbase; simp [Tryz.f30])
    all_goals (clear hQ; simp_all)
    all_goals (try omega)
    all_goals (try (intro ha hb; have := h ha; omega))
  · have hx : x.ok = false := by simp [Box.ok, h2]
    have h2i : ¬ (x.two.length : Int) = 2 := by omega
    simp [hbL, er, h2i, builtinV, pureB, lenV]
    repeat' (first | (refine gdL_t (fun h => ?_) (fun h => ?_) <;> simp [h, hbL, er, h2i, builtinV, pureB, lenV]) | (refine gdL_f (fun h => ?_) (fun h => ?_) <;> simp [h, hbL, er, h2i, builtinV, pureB, lenV]) | (refine selS_intro (fun h => ?_) (fun h => ?_) <;> simp [h, hbL, er, h2i, builtinV, pureB, lenV]))
    all_goals exact bad hx _ _ ⟨_, rfl⟩ (by simp)

def heirM (x : Box) : Bool := match x.two[(1 - x.reg.owner).toNat]? with
  | some m => m.up && decide (0 < m.life) && decide (m.life = x.reg.pair) && decide (m.epoch = 0)
  | none => false
def heir (x : Box) : Bool := x.ok && heirM x
theorem Box.ok_owner {x : Box} (h : x.ok = true) : (x.reg.owner = 0 ∨ x.reg.owner = 1) ∧ x.two.length = 2 := by
  simp [Box.ok, Reg.ok] at h
  omega
/-- The minder at a place. -/
theorem minderAt {H : Heap} {rws : List (List Lf)} {xs : List Minder} {a : Option (Nat × Nat)} (hlen : rws.length = xs.length) (hs : Sl H 52 a rws) (hat : ∀ (i : Nat) (row : List Lf) (x : Minder), rws[i]? = some row → xs[i]? = some x → RdMinder H row x) {i : Nat} (hi : i < xs.length) :
    ∃ (id r : Nat) (bl : Blk) (q : Option (Nat × Nat)), a = some (id, r) ∧ id < H.length ∧ blkAt H id = some bl ∧ bl.elem = 52 ∧ bl.rows[r + i]? = some (xs[i].enc q) ∧ Sl H 64 q (xs[i].log.map In.enc) := by
  have hri : i < rws.length := by omega
  obtain ⟨id, r, bl, rfl, hbl, hbe, hrow⟩ := hs i _ (List.getElem?_eq_getElem hri)
  obtain ⟨q, hrw, hq⟩ := hat i _ _ (List.getElem?_eq_getElem hri) (List.getElem?_eq_getElem hi)
  exact ⟨id, r, bl, q, rfl, blkAt_len hbl, hbl, hbe, by rw [hrow, hrw], hq⟩

theorem heirMth {H : Heap} {id : Nat} {l : List Lf} {x : Box} (hb : blkAt H id = some ⟨32, .wr, [l]⟩) (h : RdBox H l x) (hk : x.ok = true) :
    run env 56 [.ptr id 0 0] H = some (.bool (heirM x), H) := by
  obtain ⟨_, _, _, _, _, rfl, ⟨a0, rws, rfl, hs, hlen, hat⟩, ⟨a1, rfl, r1⟩, ⟨a2, rfl, r2⟩, ⟨a3, rfl, r3⟩, ⟨a4, rfl, r4⟩⟩ := h
  have hid0 := blkAt_len hb
  obtain ⟨ho, h2⟩ := Box.ok_owner hk
  have w1 : IntKind.i64.wrap (1 - x.reg.owner) = 1 - x.reg.owner := wrap64 (by omega) (by omega)
  have hi : (1 - x.reg.owner).toNat < x.two.length := by omega
  obtain ⟨id2, r, bl, q, rfl, hid, hbl, hbe, hrow, -⟩ := minderAt hlen hs hat hi
  have hge : x.reg.owner ≤ 1 := by omega
  have hlt : 1 - x.reg.owner < (x.two.length : Int) := by omega
  have hlt2 : 0 ≤ 1 - x.reg.owner := by omega
  have hm : heirM x = (x.two[(1 - x.reg.owner).toNat].up && decide (0 < x.two[(1 - x.reg.owner).toNat].life) && decide (x.two[(1 - x.reg.owner).toNat].life = x.reg.pair) && decide (x.two[(1 - x.reg.owner).toNat].epoch = 0)) := by
    unfold heirM
    rw [List.getElem?_eq_getElem hi]
  obtain ⟨m, hmm⟩ : ∃ m, m = x.two[(1 - x.reg.owner).toNat] := ⟨_, rfl⟩
  rw [← hmm] at hm hrow
  refine run_walk ok56 Tryz.func56 rfl (by simp [Tryz.f56]) fun Q hQ => ?_
  simp only [Tryz.f56, strip, stripL, stripI, stripG, chkT, tagsB, tagsL, tagD, addT, tagA, lookN, tagOp, elmT, ty22, ty26, ty27, ty28, ty29, ty30, ty41, ty53, ty56, Nat.reduceEqDiff, if_false, reduceIte, Option.getD_some, Option.getD_none, dstAt, dstOk, Nat.reduceLT, decide_true, if_true]
  simp [hb, hid0, Box.enc, w1, indexAddrV, elemIs, hid, hbl, hbe, hrow, hge, hlt, Minder.enc]
  repeat' (first | (refine gdL_t (fun h => ?_) (fun h => ?_) <;> simp [h, hb, hid0, Box.enc]) | (refine gdL_f (fun h => ?_) (fun h => ?_) <;> simp [h, hb, hid0, Box.enc]) | (refine selS_intro (fun h => ?_) (fun h => ?_) <;> simp [h, hb, hid0, Box.enc]))
  all_goals (refine hQ _ _ _ (by simp) ?_)
  all_goals (rw [hm]; clear hm; simp [Tryz.f56])
  all_goals (clear hQ; simp_all)
  all_goals (try (intros; omega))

theorem implHeir_is {H : Heap} {l : List Lf} {x : Box} (h : RdBox H l x) (hn : x.sz ≤ 1048576) : run env 16 [.agg l] H = some (.bool (heir x), H) := by
  have hR := h
  have hL := h.len
  have hT : l.take l.length = l := List.take_length
  rw [hL] at hT
  have e1 := fun G => implBoxOk_is (hR.app G) (by omega)
  refine run_walk ok16 Tryz.func16 rfl (by simp [Tryz.f16]) fun Q hQ => ?_
  simp only [Tryz.f16, strip, stripL, stripI, stripG, chkT, tagsB, tagsL, tagD, addT, tagA, lookN, tagOp, elmT, ty22, ty26, ty27, ty28, ty29, ty30, ty41, ty53, ty56, Nat.reduceEqDiff, if_false, reduceIte, Option.getD_some, Option.getD_none, dstAt, dstOk, Nat.reduceLT, decide_true, if_true]
  simp [hL, hT, e1]
  refine gdL_t (fun hd => ?_) (fun hd => ?_)
  · have e2 := fun G => heirMth (H := H ++ some ⟨32, .wr, [l]⟩ :: G) (id := H.length) (l := l) (x := x) (by simp) (hR.app _) hd
    simp [hd, e2]
    refine hQ _ _ _ (by simp) ?_
    simp [Tryz.f16, heir, hd]
  · simp [hd]
    refine hQ _ _ _ (by simp) ?_
    simp [Tryz.f16, heir, hd]

def hopsOk (h : Int) : Bool := decide (0 ≤ h) && decide (h ≤ 8)
def claimP (p : Port) (v : Vec) (h : Int) : Port :=
  if (p.ok && p.up && v.ok && hopsOk h) = false then p
  else if (p.has && better p.vec v && !(decide (v.bridge = p.vec.bridge) && decide (v.port = p.vec.port))) = true then p
  else ⟨p.up, true, v, h, 3, p.role, p.wait, p.opn⟩
theorem claimP_ok {p : Port} (v : Vec) (h : Int) (hp : p.ok = true) : (claimP p v h).ok = true := by
  unfold claimP
  split
  · exact hp
  · rename_i h1
    split
    · exact hp
    · have h2 : p.ok = true ∧ p.up = true ∧ v.ok = true ∧ hopsOk h = true := by
        cases a : p.ok <;> cases b : p.up <;> cases c : v.ok <;> cases d : hopsOk h <;> simp_all
      obtain ⟨-, h3, h4, h5⟩ := h2
      simp [hopsOk] at h5
      simp [Port.ok] at hp ⊢
      simp_all
theorem claimP_up (p : Port) (v : Vec) (h : Int) : (claimP p v h).up = p.up := by unfold claimP; split <;> (try split) <;> rfl

theorem implClaim (H : Heap) (p : Port) (v : Vec) (ho : Int) : run env 131 [.agg p.enc, .agg v.enc, .int ho] H = some (.agg (claimP p v ho).enc, H) := by
  obtain ⟨a1, a2, ⟨b1, b2, b3, b4⟩, a4, a5, a6, a7, a8⟩ := p
  obtain ⟨c1, c2, c3, c4⟩ := v
  have e1 := fun H => implVecOk H ⟨c1, c2, c3, c4⟩
  have e2 := fun H => implPortOk H ⟨a1, a2, ⟨b1, b2, b3, b4⟩, a4, a5, a6, a7, a8⟩
  have e3 := fun H => implBetter H ⟨b1, b2, b3, b4⟩ ⟨c1, c2, c3, c4⟩
  simp only [Vec.enc, Port.enc] at e1 e2 e3
  have hcl : claimP ⟨a1, a2, ⟨b1, b2, b3, b4⟩, a4, a5, a6, a7, a8⟩ ⟨c1, c2, c3, c4⟩ ho = if ((⟨a1, a2, ⟨b1, b2, b3, b4⟩, a4, a5, a6, a7, a8⟩ : Port).ok && a1 && (⟨c1, c2, c3, c4⟩ : Vec).ok && (decide (0 ≤ ho) && decide (ho ≤ 8))) = false then ⟨a1, a2, ⟨b1, b2, b3, b4⟩, a4, a5, a6, a7, a8⟩
    else if (a2 && better ⟨b1, b2, b3, b4⟩ ⟨c1, c2, c3, c4⟩ && !(decide (c3 = b3) && decide (c4 = b4))) = true then ⟨a1, a2, ⟨b1, b2, b3, b4⟩, a4, a5, a6, a7, a8⟩ else ⟨a1, true, ⟨c1, c2, c3, c4⟩, ho, 3, a6, a7, a8⟩ := rfl
  rw [hcl]
  clear hcl
  have e4 := fun H => isHops H ho
  generalize (decide (0 ≤ ho) && decide (ho ≤ 8)) = hok at e4 ⊢
  generalize (⟨a1, a2, ⟨b1, b2, b3, b4⟩, a4, a5, a6, a7, a8⟩ : Port).ok = pok at e2 ⊢
  generalize (⟨c1, c2, c3, c4⟩ : Vec).ok = vok at e1 ⊢
  generalize better ⟨b1, b2, b3, b4⟩ ⟨c1, c2, c3, c4⟩ = bet at e3 ⊢
  refine run_walk ok131 Tryz.func131 rfl (by simp [Tryz.f131]) fun Q hQ => ?_
  simp only [Tryz.f131, strip, stripL, stripI, stripG, chkT, tagsB, tagsL, tagD, addT, tagA, lookN, tagOp, elmT, ty22, ty26, ty27, ty28, ty29, ty30, ty41, ty53, ty56, Nat.reduceEqDiff, if_false, reduceIte, Option.getD_some, Option.getD_none, dstAt, dstOk, Nat.reduceLT, decide_true, if_true]
  simp [Port.enc, Vec.enc, e4, e1, e2, e3]
  repeat' (first | (refine gdL_t (fun h => ?_) (fun h => ?_) <;> simp [h, e4, e1, e2, e3]) | (refine gdL_f (fun h => ?_) (fun h => ?_) <;> simp [h, e4, e1, e2, e3]) | (refine selS_intro (fun h => ?_) (fun h => ?_) <;> simp [h, e4, e1, e2, e3]))
  all_goals (refine hQ _ _ _ (by simp) ?_)
  all_goals (clear hQ e1 e2 e3 e4; simp [Tryz.f131])
  all_goals ((repeat' split) <;> simp_all [Port.enc, Vec.enc] <;> omega)

theorem specClaim (H : Heap) (p : Port) (v : Vec) (ho : Int) : run env 137 [.agg p.enc, .agg v.enc, .int ho] H = some (.agg (claimP p v ho).enc, H) := by
  obtain ⟨a1, a2, ⟨b1, b2, b3, b4⟩, a4, a5, a6, a7, a8⟩ := p
  obtain ⟨c1, c2, c3, c4⟩ := v
  have e1 := fun H => specVecOk H ⟨c1, c2, c3, c4⟩
  have e2 := fun H => specPortOk H ⟨a1, a2, ⟨b1, b2, b3, b4⟩, a4, a5, a6, a7, a8⟩
  have e3 := fun H => specBetter H ⟨b1, b2, b3, b4⟩ ⟨c1, c2, c3, c4⟩
  simp only [Vec.enc, Port.enc] at e1 e2 e3
  have hcl : claimP ⟨a1, a2, ⟨b1, b2, b3, b4⟩, a4, a5, a6, a7, a8⟩ ⟨c1, c2, c3, c4⟩ ho = if ((⟨a1, a2, ⟨b1, b2, b3, b4⟩, a4, a5, a6, a7, a8⟩ : Port).ok && a1 && (⟨c1, c2, c3, c4⟩ : Vec).ok && (decide (0 ≤ ho) && decide (ho ≤ 8))) = false then ⟨a1, a2, ⟨b1, b2, b3, b4⟩, a4, a5, a6, a7, a8⟩
    else if (a2 && better ⟨b1, b2, b3, b4⟩ ⟨c1, c2, c3, c4⟩ && !(decide (c3 = b3) && decide (c4 = b4))) = true then ⟨a1, a2, ⟨b1, b2, b3, b4⟩, a4, a5, a6, a7, a8⟩ else ⟨a1, true, ⟨c1, c2, c3, c4⟩, ho, 3, a6, a7, a8⟩ := rfl
  rw [hcl]
  clear hcl
  have e4 := fun H => l1In H ho 0 8
  generalize (decide (0 ≤ ho) && decide (ho ≤ 8)) = hok at e4 ⊢
  generalize (⟨a1, a2, ⟨b1, b2, b3, b4⟩, a4, a5, a6, a7, a8⟩ : Port).ok = pok at e2 ⊢
  generalize (⟨c1, c2, c3, c4⟩ : Vec).ok = vok at e1 ⊢
  generalize better ⟨b1, b2, b3, b4⟩ ⟨c1, c2, c3, c4⟩ = bet at e3 ⊢
  refine run_walk ok137 Tryz.func137 rfl (by simp [Tryz.f137]) fun Q hQ => ?_
  simp only [Tryz.f137, strip, stripL, stripI, stripG, chkT, tagsB, tagsL, tagD, addT, tagA, lookN, tagOp, elmT, ty22, ty26, ty27, ty28, ty29, ty30, ty41, ty53, ty56, Nat.reduceEqDiff, if_false, reduceIte, Option.getD_some, Option.getD_none, dstAt, dstOk, Nat.reduceLT, decide_true, if_true]
  simp [Port.enc, Vec.enc, e4, e1, e2, e3]
  repeat' (first | (refine gdL_t (fun h => ?_) (fun h => ?_) <;> simp [h, e4, e1, e2, e3]) | (refine gdL_f (fun h => ?_) (fun h => ?_) <;> simp [h, e4, e1, e2, e3]) | (refine selS_intro (fun h => ?_) (fun h => ?_) <;> simp [h, e4, e1, e2, e3]))
  all_goals (refine hQ _ _ _ (by simp) ?_)
  all_goals (clear hQ e1 e2 e3 e4; simp [Tryz.f137])
  all_goals ((repeat' split) <;> simp_all [Port.enc, Vec.enc] <;> omega)

def fadeP (p : Port) : Port := if (p.has && p.ok) = false then p else if p.left = 1 then ⟨p.up, false, Vec.zv, 0, 0, p.role, p.wait, p.opn⟩ else ⟨p.up, p.has, p.vec, p.hops, p.left - 1, p.role, p.wait, p.opn⟩
theorem fadeP_ok {p : Port} (hp : p.ok = true) : (fadeP p).ok = true := by
  unfold fadeP
  split
  · exact hp
  · rename_i h1
    simp [Port.ok] at h1 hp ⊢
    split <;> simp_all <;> omega
theorem fadeP_rest (p : Port) : (fadeP p).up = p.up ∧ (fadeP p).role = p.role ∧ (fadeP p).wait = p.wait ∧ (fadeP p).opn = p.opn := by
  unfold fadeP; split <;> (try split) <;> simp

theorem implFade (H : Heap) (p : Port) : run env 156 [.agg p.enc] H = some (.agg (fadeP p).enc, H) := by
  obtain ⟨a1, a2, ⟨b1, b2, b3, b4⟩, a4, a5, a6, a7, a8⟩ := p
  have e2 := fun H => implPortOk H ⟨a1, a2, ⟨b1, b2, b3, b4⟩, a4, a5, a6, a7, a8⟩
  have w : (⟨a1, a2, ⟨b1, b2, b3, b4⟩, a4, a5, a6, a7, a8⟩ : Port).ok = true → a2 = true → IntKind.i64.wrap (a5 - 1) = a5 - 1 := fun h h2 => by
    simp [Port.ok, h2] at h
    exact wrap64 (by omega) (by omega)
  have w2 : a5 - 1 = 0 ↔ a5 = 1 := by omega
  simp only [Vec.enc, Port.enc] at e2
  refine run_walk ok156 Tryz.func156 rfl (by simp [Tryz.f156]) fun Q hQ => ?_
  simp only [Tryz.f156, strip, stripL, stripI, stripG, chkT, tagsB, tagsL, tagD, addT, tagA, lookN, tagOp, elmT, ty22, ty26, ty27, ty28, ty29, ty30, ty41, ty53, ty56, Nat.reduceEqDiff, if_false, reduceIte, Option.getD_some, Option.getD_none, dstAt, dstOk, Nat.reduceLT, decide_true, if_true]
  simp [Port.enc, Vec.enc, e2]
  cases a2
  · simp [e2]
    refine hQ _ _ _ (by simp) ?_
    simp [Tryz.f156, Port.enc, fadeP]
  cases hok : (⟨a1, true, ⟨b1, b2, b3, b4⟩, a4, a5, a6, a7, a8⟩ : Port).ok
  · simp [e2, hok]
    refine hQ _ _ _ (by simp) ?_
    simp [Tryz.f156, Port.enc, fadeP, hok]
  · rw [hok] at e2
    simp [e2, w hok rfl, w2]
    by_cases h1 : a5 = 1
    · subst h1
      simp
      refine hQ _ _ _ (by simp) ?_
      simp [Tryz.f156, Port.enc, fadeP, hok]
    · simp [h1]
      refine hQ _ _ _ (by simp) ?_
      simp [Tryz.f156, Port.enc, fadeP, hok, h1]

theorem specFade (H : Heap) (p : Port) : run env 160 [.agg p.enc] H = some (.agg (fadeP p).enc, H) := by
  obtain ⟨a1, a2, ⟨b1, b2, b3, b4⟩, a4, a5, a6, a7, a8⟩ := p
  have e2 := fun H => specPortOk H ⟨a1, a2, ⟨b1, b2, b3, b4⟩, a4, a5, a6, a7, a8⟩
  have w : (⟨a1, a2, ⟨b1, b2, b3, b4⟩, a4, a5, a6, a7, a8⟩ : Port).ok = true → a2 = true → IntKind.i64.wrap (a5 - 1) = a5 - 1 := fun h h2 => by
    simp [Port.ok, h2] at h
    exact wrap64 (by omega) (by omega)
  have w2 : a5 - 1 = 0 ↔ a5 = 1 := by omega
  simp only [Vec.enc, Port.enc] at e2
  refine run_walk ok160 Tryz.func160 rfl (by simp [Tryz.f160]) fun Q hQ => ?_
  simp only [Tryz.f160, strip, stripL, stripI, stripG, chkT, tagsB, tagsL, tagD, addT, tagA, lookN, tagOp, elmT, ty22, ty26, ty27, ty28, ty29, ty30, ty41, ty53, ty56, Nat.reduceEqDiff, if_false, reduceIte, Option.getD_some, Option.getD_none, dstAt, dstOk, Nat.reduceLT, decide_true, if_true]
  simp [Port.enc, Vec.enc, e2]
  cases a2
  · skip
    repeat' (first | (refine gdL_t (fun h => ?_) (fun h => ?_) <;> simp [h, e2]) | (refine gdL_f (fun h => ?_) (fun h => ?_) <;> simp [h, e2]) | (refine selS_intro (fun h => ?_) (fun h => ?_) <;> simp [h, e2]))
    all_goals (refine hQ _ _ _ (by simp) ?_)
    all_goals (simp [Tryz.f160, Port.enc, fadeP])
  cases hok : (⟨a1, true, ⟨b1, b2, b3, b4⟩, a4, a5, a6, a7, a8⟩ : Port).ok
  · simp [e2, hok]
    refine hQ _ _ _ (by simp) ?_
    simp [Tryz.f160, Port.enc, fadeP, hok]
  · rw [hok] at e2
    simp [e2, w hok rfl, w2]
    by_cases h1 : a5 = 1
    · subst h1
      simp
      refine hQ _ _ _ (by simp) ?_
      simp [Tryz.f160, Port.enc, fadeP, hok]
    · simp [h1]
      refine hQ _ _ _ (by simp) ?_
      simp [Tryz.f160, Port.enc, fadeP, hok, h1]

def turnW (p : Port) (role : Int) : Int := if role = 3 then 0 else if p.role = 3 then 4 else p.wait
def turnP (p : Port) (role : Int) : Port := if (p.ok && p.up && (decide (1 ≤ role) && decide (role ≤ 3))) = false then p else ⟨p.up, p.has, p.vec, p.hops, p.left, role, turnW p role, openBy role (turnW p role)⟩
theorem turnP_ok {p : Port} (role : Int) (hp : p.ok = true) : (turnP p role).ok = true := by
  unfold turnP
  split
  · exact hp
  · rename_i h1
    have hw : 0 ≤ turnW p role ∧ turnW p role ≤ 4 := by
      simp [Port.ok] at hp
      unfold turnW; split
      · omega
      · split <;> omega
    simp [Port.ok] at h1 hp ⊢
    simp_all
    omega
theorem turnP_rest (p : Port) (role : Int) : (turnP p role).up = p.up ∧ (turnP p role).has = p.has ∧ (turnP p role).vec = p.vec ∧ (turnP p role).hops = p.hops ∧ (turnP p role).left = p.left := by
  unfold turnP; split <;> simp

theorem implTurn (H : Heap) (p : Port) (role : Int) : run env 158 [.agg p.enc, .int role] H = some (.agg (turnP p role).enc, H) := by
  obtain ⟨a1, a2, ⟨b1, b2, b3, b4⟩, a4, a5, a6, a7, a8⟩ := p
  have e2 := fun H => implPortOk H ⟨a1, a2, ⟨b1, b2, b3, b4⟩, a4, a5, a6, a7, a8⟩
  have e4 := fun H a1 a2 b1 b2 b3 b4 a4 a5 a6 a7 a8 => isOpenBy H ⟨a1, a2, ⟨b1, b2, b3, b4⟩, a4, a5, a6, a7, a8⟩
  simp only [Vec.enc, Port.enc] at e2 e4
  have e5 := fun H => inRange H role 1 3
  unfold turnP
  generalize (decide (1 ≤ role) && decide (role ≤ 3)) = rok at e5 ⊢
  refine run_walk ok158 Tryz.func158 rfl (by simp [Tryz.f158]) fun Q hQ => ?_
  simp only [Tryz.f158, strip, stripL, stripI, stripG, chkT, tagsB, tagsL, tagD, addT, tagA, lookN, tagOp, elmT, ty22, ty26, ty27, ty28, ty29, ty30, ty41, ty53, ty56, Nat.reduceEqDiff, if_false, reduceIte, Option.getD_some, Option.getD_none, dstAt, dstOk, Nat.reduceLT, decide_true, if_true]
  simp [Port.enc, Vec.enc, e5, e2]
  repeat' (first | (refine gdL_t (fun h => ?_) (fun h => ?_) <;> simp [h, e5, e2, e4]) | (refine gdL_f (fun h => ?_) (fun h => ?_) <;> simp [h, e5, e2, e4]) | (refine selS_intro (fun h => ?_) (fun h => ?_) <;> simp [h, e5, e2, e4]))
  all_goals (refine hQ _ _ _ (by simp) ?_)
  all_goals (clear hQ e2 e4 e5; simp [Tryz.f158]; unfold turnW; (repeat' split) <;> simp_all [Port.enc, Vec.enc])

theorem l7Open (H : Heap) (p : Port) : run env 161 [.agg p.enc] H = some (.agg ({ p with opn := openBy p.role p.wait } : Port).enc, H) := by
  obtain ⟨a1, a2, ⟨b1, b2, b3, b4⟩, a4, a5, a6, a7, a8⟩ := p
  refine run_walk ok161 Tryz.func161 rfl (by simp [Tryz.f161]) fun Q hQ => ?_
  simp only [Tryz.f161, strip, stripL, stripI, stripG, chkT, tagsB, tagsL, tagD, addT, tagA, lookN, tagOp, elmT, ty22, ty26, ty27, ty28, ty29, ty30, ty41, ty53, ty56, Nat.reduceEqDiff, if_false, reduceIte, Option.getD_some, Option.getD_none, dstAt, dstOk, Nat.reduceLT, decide_true, if_true]
  simp [Port.enc]
  repeat' (first | (refine gdL_t (fun h => ?_) (fun h => ?_) <;> simp [h]) | (refine gdL_f (fun h => ?_) (fun h => ?_) <;> simp [h]) | (refine selS_intro (fun h => ?_) (fun h => ?_) <;> simp [h]))
  all_goals (refine hQ _ _ _ (by simp) ?_)
  all_goals (clear hQ; simp_all [Tryz.f161, openBy, Port.enc])

theorem specTurn (H : Heap) (p : Port) (role : Int) : run env 162 [.agg p.enc, .int role] H = some (.agg (turnP p role).enc, H) := by
  obtain ⟨a1, a2, ⟨b1, b2, b3, b4⟩, a4, a5, a6, a7, a8⟩ := p
  have e2 := fun H => specPortOk H ⟨a1, a2, ⟨b1, b2, b3, b4⟩, a4, a5, a6, a7, a8⟩
  have e4 := fun H a1 a2 b1 b2 b3 b4 a4 a5 a6 a7 a8 => l7Open H ⟨a1, a2, ⟨b1, b2, b3, b4⟩, a4, a5, a6, a7, a8⟩
  simp only [Vec.enc, Port.enc] at e2 e4
  have e5 := fun H => l1In H role 1 3
  unfold turnP
  generalize (decide (1 ≤ role) && decide (role ≤ 3)) = rok at e5 ⊢
  refine run_walk ok162 Tryz.func162 rfl (by simp [Tryz.f162]) fun Q hQ => ?_
  simp only [Tryz.f162, strip, stripL, stripI, stripG, chkT, tagsB, tagsL, tagD, addT, tagA, lookN, tagOp, elmT, ty22, ty26, ty27, ty28, ty29, ty30, ty41, ty53, ty56, Nat.reduceEqDiff, if_false, reduceIte, Option.getD_some, Option.getD_none, dstAt, dstOk, Nat.reduceLT, decide_true, if_true]
  simp [Port.enc, Vec.enc, e5, e2]
  repeat' (first | (refine gdL_t (fun h => ?_) (fun h => ?_) <;> simp [h, e5, e2, e4]) | (refine gdL_f (fun h => ?_) (fun h => ?_) <;> simp [h, e5, e2, e4]) | (refine selS_intro (fun h => ?_) (fun h => ?_) <;> simp [h, e5, e2, e4]))
  all_goals (refine hQ _ _ _ (by simp) ?_)
  all_goals (clear hQ e2 e4 e5; simp [Tryz.f162]; unfold turnW; (repeat' split) <;> simp_all [Port.enc, Vec.enc])

/-- What a tick makes of a port that is right. -/
def tickW (q : Port) : Int := if (decide (q.role = 1) || decide (q.role = 2)) && decide (0 < q.wait) then q.wait - 1 else q.wait
def tickP (p : Port) : Port := ⟨(fadeP p).up, (fadeP p).has, (fadeP p).vec, (fadeP p).hops, (fadeP p).left, (fadeP p).role, tickW (fadeP p), openBy (fadeP p).role (tickW (fadeP p))⟩
theorem tickP_ok {p : Port} (hp : p.ok = true) : (tickP p).ok = true := by
  have h := fadeP_ok hp
  have hw : 0 ≤ tickW (fadeP p) ∧ tickW (fadeP p) ≤ 4 := by
    simp [Port.ok] at h
    unfold tickW; split <;> simp_all <;> omega
  unfold tickP
  simp [Port.ok] at h ⊢
  simp_all

theorem l8Tick (H : Heap) (p : Port) (hp : p.ok = true) : run env 138 [.agg p.enc] H = some (.agg (tickP p).enc, H) := by
  have e1 := fun H => specFade H p
  have hok := fadeP_ok hp
  obtain ⟨q, hq⟩ : ∃ q, q = fadeP p := ⟨_, rfl⟩
  have hx : tickP p = ⟨q.up, q.has, q.vec, q.hops, q.left, q.role, tickW q, openBy q.role (tickW q)⟩ := by rw [hq]; rfl
  rw [hx]
  rw [← hq] at e1 hok
  clear hx hq hp
  obtain ⟨a1, a2, ⟨b1, b2, b3, b4⟩, a4, a5, a6, a7, a8⟩ := p
  obtain ⟨q1, q2, ⟨c1, c2, c3, c4⟩, q4, q5, q6, q7, q8⟩ := q
  have w : IntKind.i64.wrap (q7 - 1) = q7 - 1 := by
    simp [Port.ok] at hok
    exact wrap64 (by omega) (by omega)
  have e4 := fun H a1 a2 b1 b2 b3 b4 a4 a5 a6 a7 a8 => l7Open H ⟨a1, a2, ⟨b1, b2, b3, b4⟩, a4, a5, a6, a7, a8⟩
  simp only [Vec.enc, Port.enc] at e1 e4
  refine run_walk ok138 Tryz.func138 rfl (by simp [Tryz.f138]) fun Q hQ => ?_
  simp only [Tryz.f138, strip, stripL, stripI, stripG, chkT, tagsB, tagsL, tagD, addT, tagA, lookN, tagOp, elmT, ty22, ty26, ty27, ty28, ty29, ty30, ty41, ty53, ty56, Nat.reduceEqDiff, if_false, reduceIte, Option.getD_some, Option.getD_none, dstAt, dstOk, Nat.reduceLT, decide_true, if_true]
  simp [Port.enc, Vec.enc, e1]
  repeat' (first | (refine gdL_t (fun h => ?_) (fun h => ?_) <;> simp [h, e1, e4, w]) | (refine gdL_f (fun h => ?_) (fun h => ?_) <;> simp [h, e1, e4, w]) | (refine selS_intro (fun h => ?_) (fun h => ?_) <;> simp [h, e1, e4, w]))
  all_goals (refine hQ _ _ _ (by simp) ?_)
  all_goals (clear hQ e1 e4; simp [Tryz.f138]; unfold tickW; (repeat' split) <;> simp_all [Port.enc, Vec.enc] <;> omega)

theorem kont_app {E : Env} {call : Fun} (f2 : List Fr) : ∀ (f1 : List Fr) (e : Ex) (tm : Ab.T) (H : Heap) (Q : Ex → Ab.T → Heap → Prop), kont E call (f1 ++ f2) e tm H Q = kont E call f1 e tm H fun e tm H => kont E call f2 e tm H Q
  | [], e, tm, H, Q => rfl
  | .seq c :: f1, .normal, tm, H, Q => by
    simp only [List.cons_append, kont]
    refine wpC_ext fun e tm H => ?_
    exact kont_app f2 f1 e tm H Q
  | .seq c :: f1, .exit j, tm, H, Q => by
    simp only [List.cons_append, kont]
    exact kont_app f2 f1 _ tm H Q
  | .seq c :: f1, .ret, tm, H, Q => by
    simp only [List.cons_append, kont]
    exact kont_app f2 f1 _ tm H Q
  | .blk id :: f1, .exit j, tm, H, Q => by
    simp only [List.cons_append, kont]
    split
    · exact kont_app f2 f1 _ tm H Q
    · exact kont_app f2 f1 _ tm H Q
  | .blk id :: f1, .normal, tm, H, Q => by
    simp only [List.cons_append, kont]
    exact kont_app f2 f1 _ tm H Q
  | .blk id :: f1, .ret, tm, H, Q => by
    simp only [List.cons_append, kont]
    exact kont_app f2 f1 _ tm H Q
theorem wpS_app {E : Env} {call : Fun} {c : C2} {f1 f2 : List Fr} {tm : Ab.T} {H : Heap} {Q : Ex → Ab.T → Heap → Prop} (h : wpS E call c f1 tm H fun e tm H => kont E call f2 e tm H Q) : wpS E call c (f1 ++ f2) tm H Q := by
  unfold wpS at h ⊢
  have : (fun e tm H => kont E call (f1 ++ f2) e tm H Q) = fun e tm H => kont E call f1 e tm H fun e tm H => kont E call f2 e tm H Q := by
    funext e tm H
    exact kont_app f2 f1 e tm H Q
  rw [this]
  exact h
/-- What stands ahead, and what is behind it: a cut. -/
theorem wpS_cut {E : Env} {call : Fun} {c : C2} {f1 fr : List Fr} {rest : C2} {tm : Ab.T} {H : Heap} {Q : Ex → Ab.T → Heap → Prop} (I : Ab.T → Heap → Prop)
    (h1 : ∀ Q' : Ex → Ab.T → Heap → Prop, (∀ tm H, I tm H → Q' .normal tm H) → (∀ j tm H, kont E call fr (.exit j) tm H Q → Q' (.exit j) tm H) → (∀ tm H, kont E call fr .ret tm H Q → Q' .ret tm H) → wpS E call c f1 tm H Q')
    (h2 : ∀ tm H, I tm H → wpS E call rest fr tm H Q) : wpS E call c (f1 ++ .seq rest :: fr) tm H Q := by
  refine wpS_app (h1 _ (fun tm H hI => ?_) (fun j tm H h => ?_) (fun tm H h => ?_))
  · rw [kont_seq_n]; exact h2 tm H hI
  · rw [kont_seq_e]; exact h
  · rw [kont_seq_r]; exact h
theorem selS_cut {E : Env} {call : Fun} {b : Bool} {x y rest : C2} {f1 fr : List Fr} {tm : Ab.T} {H : Heap} {Q : Ex → Ab.T → Heap → Prop} (I : Ab.T → Heap → Prop)
    (h1 : ∀ Q' : Ex → Ab.T → Heap → Prop, (∀ tm H, I tm H → Q' .normal tm H) → (∀ j tm H, kont E call fr (.exit j) tm H Q → Q' (.exit j) tm H) → (∀ tm H, kont E call fr .ret tm H Q → Q' .ret tm H) → selS E call (.w (.lf (.b b))) x y f1 tm H Q')
    (h2 : ∀ tm H, I tm H → wpS E call rest fr tm H Q) : selS E call (.w (.lf (.b b))) x y (f1 ++ .seq rest :: fr) tm H Q := by
  cases b
  · exact wpS_cut I (fun Q' a b c => by have := h1 Q' a b c; simpa using this) h2
  · exact wpS_cut I (fun Q' a b c => by have := h1 Q' a b c; simpa using this) h2
/-- A call, within a region that draws its order, of one that may write. -/
theorem stpL_runs_w {E : Env} {call : Fun} {draw : Bool} {tm : Ab.T} {H : Heap} {Q : Ex → Ab.T → Heap → Prop} {fr : List Fr} {is : List I2} {f : Nat} {args : List V} {d : Option Nat} {K : V → Heap → Prop} {x y : List (Nat × Nat × Nat)} (h : Runs E f args H K) (hw : E.wr f = true) (hf : ∀ v H', K v H' → H.length ≤ H'.length)
    (hk : ∀ v H', K v H' → stpL E call (some (v, H')) d draw is fr tm Q) (hn : E.wt f = none := by rfl) : stpL E call (guardCall E draw (.w (.lf (.fn f x y))) H (run E f args H)) d draw is fr tm Q := by
  obtain ⟨v, H', hr, hK⟩ := h
  have : guardCall E draw (.w (.lf (.fn f x y))) H (run E f args H) = some (v, H') := by
    rw [hr]
    unfold guardCall
    split
    · rfl
    · simp [hw, hf v H' hK, hn, onlyT]
  rw [this]
  exact hk v H' hK

/-- The first i elements turned. -/
def mixL {α : Type} (f : Nat → α → α) (xs : List α) (i : Nat) : List α := xs.mapIdx fun k x => if k < i then f k x else x
@[simp] theorem mixL_len {α : Type} (f : Nat → α → α) (xs : List α) (i : Nat) : (mixL f xs i).length = xs.length := by simp [mixL]
theorem mixL_zero {α : Type} (f : Nat → α → α) (xs : List α) : mixL f xs 0 = xs := by
  refine List.ext_getElem? fun k => ?_
  simp [mixL, List.getElem?_mapIdx]
theorem mixL_all {α : Type} (f : Nat → α → α) (xs : List α) {i : Nat} (h : xs.length ≤ i) : mixL f xs i = xs.mapIdx f := by
  refine List.ext_getElem? fun k => ?_
  simp only [mixL, List.getElem?_mapIdx]
  cases hx : xs[k]? with
  | none => rfl
  | some x =>
    have := (List.getElem?_eq_some_iff.1 hx).1
    simp; omega
theorem mixL_at {α : Type} (f : Nat → α → α) (xs : List α) {i k : Nat} (h : i ≤ k) : (mixL f xs i)[k]? = xs[k]? := by
  simp only [mixL, List.getElem?_mapIdx]
  cases hx : xs[k]? with
  | none => rfl
  | some x => simp; omega
theorem mixL_step {α : Type} (f : Nat → α → α) (xs : List α) {i : Nat} (h : i < xs.length) : (mixL f xs i).set i (f i xs[i]) = mixL f xs (i + 1) := by
  refine List.ext_getElem? fun k => ?_
  rw [List.getElem?_set]
  split
  · rename_i he
    subst he
    simp [mixL, h]
  · rename_i he
    simp only [mixL, List.getElem?_mapIdx]
    cases hx : xs[k]? with
    | none => rfl
    | some x =>
      simp only [Option.map_some]
      congr 1
      split
      · rw [if_pos (by omega)]
      · rw [if_neg (by omega)]
theorem mixL_same {α : Type} (f : Nat → α → α) (xs : List α) {i : Nat} (h : i < xs.length) (he : f i xs[i] = xs[i]) : mixL f xs (i + 1) = mixL f xs i := by
  rw [← mixL_step f xs h, he]
  refine List.ext_getElem? fun k => ?_
  rw [List.getElem?_set]
  split
  · rename_i he
    subst he
    rw [mixL_at f xs (Nat.le_refl _), List.getElem?_eq_getElem h]
    simp [h]
  · rfl

/-- Elements made one behind the other. -/
def upto {α : Type} (f : Nat → List α) : Nat → List α
  | 0 => []
  | i + 1 => upto f i ++ f i
theorem upto_len {α : Type} {f : Nat → List α} (h : ∀ i, (f i).length ≤ 1) : ∀ i, (upto f i).length ≤ i
  | 0 => by simp [upto]
  | i + 1 => by
    have := upto_len h i
    have := h i
    simp [upto]; omega
theorem upto_all {α : Type} {f : Nat → List α} {p : α → Prop} (h : ∀ i, ∀ x ∈ f i, p x) : ∀ i, ∀ x ∈ upto f i, p x
  | 0 => by simp [upto]
  | i + 1 => by
    intro x hx
    rw [upto, List.mem_append] at hx
    rcases hx with hx | hx
    · exact upto_all h i x hx
    · exact h i x hx

def keyP (p : Port) : Bool × Vec × Int := (p.has, p.vec, p.hops)
theorem rootSkip_key {b c : Bridge} {p q : Port} (hi : b.id = c.id) (h : keyP p = keyP q) : rootSkip b p = rootSkip c q := by
  simp only [keyP, Prod.mk.injEq] at h
  unfold rootSkip
  rw [h.1, h.2.1, h.2.2, hi]
theorem getD_key {xs ys : List Port} (h : xs.map keyP = ys.map keyP) (k : Nat) : keyP (xs.getD k default) = keyP (ys.getD k default) := by
  have hg : (xs[k]?).map keyP = (ys[k]?).map keyP := by rw [← List.getElem?_map, ← List.getElem?_map, h]
  rw [List.getD_eq_getElem?_getD, List.getD_eq_getElem?_getD]
  cases hb : xs[k]? <;> cases hc : ys[k]? <;> simp [hb, hc] at hg ⊢
  exact hg
theorem rootUpto_key {b c : Bridge} (hi : b.id = c.id) (h : b.ports.map keyP = c.ports.map keyP) : ∀ i, rootUpto b i = rootUpto c i
  | 0 => rfl
  | i + 1 => by
    have ih := rootUpto_key hi h i
    have hg : (b.ports[i]?).map keyP = (c.ports[i]?).map keyP := by rw [← List.getElem?_map, ← List.getElem?_map, h]
    rw [rootUpto, rootUpto]
    cases hb : b.ports[i]? <;> cases hc : c.ports[i]? <;> simp [hb, hc] at hg
    · exact ih
    · rename_i p q
      have hv := getD_key h (rootUpto c i).toNat
      have h2 := rootSkip_key hi hg
      simp only [keyP, Prod.mk.injEq] at hv hg
      simp only [rootStep, h2, ih, hv.2.1, hg.2.1]
theorem rootAt_key {b c : Bridge} (hi : b.id = c.id) (h : b.ports.map keyP = c.ports.map keyP) : rootAt b = rootAt c := by
  have hl : b.ports.length = c.ports.length := by simpa using congrArg List.length h
  unfold rootAt
  rw [rootUpto_key hi h, hl]
def ownV (b : Bridge) (port : Int) : Vec := if rootAt b < 0 then ⟨b.id, 0, b.id, port⟩ else ⟨(b.ports.getD (rootAt b).toNat default).vec.root, (b.ports.getD (rootAt b).toNat default).vec.cost + 1, b.id, port⟩
def hopsB (b : Bridge) : Int := if rootAt b < 0 then 0 else (b.ports.getD (rootAt b).toNat default).hops + 1
theorem ownV_key {b c : Bridge} (hi : b.id = c.id) (h : b.ports.map keyP = c.ports.map keyP) (port : Int) : ownV b port = ownV c port := by
  have hv := getD_key h (rootAt c).toNat
  simp only [keyP, Prod.mk.injEq] at hv
  unfold ownV
  rw [rootAt_key hi h, hi, hv.2.1]
theorem hopsB_key {b c : Bridge} (hi : b.id = c.id) (h : b.ports.map keyP = c.ports.map keyP) : hopsB b = hopsB c := by
  have hv := getD_key h (rootAt c).toNat
  simp only [keyP, Prod.mk.injEq] at hv
  unfold hopsB
  rw [rootAt_key hi h, hv.2.2]
theorem Port.ok_bd {p : Port} (h : p.ok = true) : 0 ≤ p.vec.cost ∧ p.vec.cost ≤ 20 ∧ 0 ≤ p.hops ∧ p.hops ≤ 8 := by
  obtain ⟨a1, a2, ⟨b1, b2, b3, b4⟩, a4, a5, a6, a7, a8⟩ := p
  cases a2
  · simp [Port.ok] at h
    simp only
    omega
  · simp [Port.ok, Vec.ok] at h
    simp only
    omega
theorem Bridge.ok_all {b : Bridge} (h : b.ok = true) : (∀ p ∈ b.ports, p.ok = true) ∧ 1 ≤ b.id ∧ b.id ≤ 9 ∧ 1 ≤ b.ports.length ∧ b.ports.length ≤ 4 := by
  simp [Bridge.ok] at h
  refine ⟨h.1.1, ?_⟩
  omega
theorem Bridge.ok_of {b : Bridge} (h1 : ∀ p ∈ b.ports, p.ok = true) (h2 : 1 ≤ b.id ∧ b.id ≤ 9 ∧ 1 ≤ b.ports.length ∧ b.ports.length ≤ 4) : b.ok = true := by
  simp [Bridge.ok]
  refine ⟨⟨h1, ?_⟩, ?_⟩ <;> omega
theorem Bridge.ok_at {b : Bridge} (h : b.ok = true) {i : Nat} (hi : i < b.ports.length) : b.ports[i].ok = true := (Bridge.ok_all h).1 _ (List.getElem_mem hi)

theorem rootPortG {H : Heap} {id ro : Nat} {blo : Blk} {b : Bridge} {a : Option (Nat × Nat)} (hb : blkAt H id = some blo) (hbe0 : blo.elem = 43) (hrow0 : blo.rows[ro]? = some (b.enc a)) (h_ : Sl H 99 a (b.ports.map Port.enc)) (hn : b.ports.length ≤ 1048576) :
    run env 157 [.ptr id ro 0] H = some (.int (rootAt b), H) := by
  have hid0 := blkAt_len hb
  simp only [Bridge.enc] at hrow0
  have e1 := fun H (c1 c2 c3 c4 d1 d2 d3 d4 : Int) => implBetter H ⟨c1, c2, c3, c4⟩ ⟨d1, d2, d3, d4⟩
  simp only [Vec.enc] at e1
  refine run_walk ok157 Tryz.func157 rfl (by simp [Tryz.f157]) fun Q hQ => ?_
  simp only [Tryz.f157, strip, stripL, stripI, stripG, chkT, tagsB, tagsL, tagD, addT, tagA, lookN, tagOp, elmT, ty22, ty26, ty27, ty28, ty29, ty30, ty41, ty53, ty56, Nat.reduceEqDiff, if_false, reduceIte, Option.getD_some, Option.getD_none, dstAt, dstOk, Nat.reduceLT, decide_true, if_true]
  simp [hb, hbe0, hrow0, builtinV, pureB, lenV]
  refine wpS_loop (fun j tm H' => ∃ i T, i + j = b.ports.length ∧ tm 0 = .ptr id ro 0 ∧ tm 3 = .int (rootUpto b i) ∧ tm 9 = .w (.lf (.sl a b.ports.length)) ∧ tm 10 = .int b.ports.length ∧ tm 11 = .int i ∧ H' = H ++ T) b.ports.length (by rw [env_K]; omega) ⟨0, [], by simp, by simp, by simp [rootUpto], by simp, by simp, by simp, by simp⟩ ?_
  rintro j tm H' hj ⟨i, T, hij, t0, t3, t9, t10, t11, rfl⟩ Q2 hn2 he2 hr2
  simp [t0, t3, t9, t10, t11]
  refine selS_intro (fun hc => ?_) (fun hc => ?_)
  · simp at hc
    obtain ⟨id2, r, bl, rfl, hbl, hbe, hrow⟩ := h_ i _ (by simp [hc]; rfl)
    have hid := blkAt_len hbl
    have g4 : IntKind.i64.wrap ((i : Int) + 1) = (i : Int) + 1 := wrap64 (by omega) (by omega)
    have hlt := rootUpto_lt b i
    have hstep : rootUpto b (i + 1) = rootStep b (rootUpto b i) i b.ports[i] := by rw [rootUpto, List.getElem?_eq_getElem hc]
    have hskip : ∀ tm', tm' 0 = .ptr id ro 0 → tm' 3 = .int (rootUpto b (i + 1)) → tm' 9 = .w (.lf (.sl (some (id2, r)) b.ports.length)) → tm' 10 = .int b.ports.length → tm' 11 = .int ((i : Int) + 1) → ∀ T', Q2 .normal tm' (H ++ T') := fun tm' a0 a3 a9 a10 a11 T' =>
      hn2 (j - 1) _ _ (by omega) ⟨i + 1, T', by omega, a0, a3, a9, a10, by simpa using a11, rfl⟩
    obtain ⟨p, hp⟩ : ∃ p, p = b.ports[i] := ⟨_, rfl⟩
    rw [← hp] at hstep
    simp [t0, t3, t9, t10, t11, indexAddrV, elemIs, hid, hbl, hbe, hc, hrow, ← hp, Port.enc]
    have skipped : rootSkip b p = true → rootUpto b (i + 1) = rootUpto b i := fun hs => by rw [hstep, rootStep, if_pos hs]
    repeat' (first | (refine gdL_t (fun h => ?_) (fun h => ?_) <;> simp [h, t0, t3, t9, t10, t11, hb, hbe0, hrow0, hid0, g4]) | (refine gdL_f (fun h => ?_) (fun h => ?_) <;> simp [h, t0, t3, t9, t10, t11, hb, hbe0, hrow0, hid0, g4]) | (refine selS_intro (fun h => ?_) (fun h => ?_) <;> simp [h, t0, t3, t9, t10, t11, hb, hbe0, hrow0, hid0, g4]))
    iterate 5 (refine hskip _ (by simp [t0]) ?_ (by simp [t9]) (by simp [t10]) (by simp) _; rw [skipped (by clear hQ hn2 he2 hr2 hskip; simp_all [rootSkip])]; simp [t3])
    · have hns : rootSkip b p = false := by clear hQ hn2 he2 hr2 hskip skipped; simp_all [rootSkip]
      refine hskip _ (by simp [t0]) ?_ (by simp [t9]) (by simp [t10]) (by simp) _
      rw [hstep, rootStep, hns]
      have h0 : rootUpto b i < 0 := by simpa using h
      simp [h0]
    · have hns : rootSkip b p = false := by clear hQ hn2 he2 hr2 hskip skipped; simp_all [rootSkip]
      have h0 : 0 ≤ rootUpto b i := by simpa using h
      have hki : (rootUpto b i).toNat < b.ports.length := by omega
      have hkl : rootUpto b i < (b.ports.length : Int) := by omega
      obtain ⟨id3, r3, bl3, hx3, hbl3, hbe3, hrow3⟩ := h_ (rootUpto b i).toNat _ (by simp [hki]; rfl)
      cases hx3
      rw [hbl] at hbl3
      injection hbl3 with hbl3
      subst hbl3
      have hgd : (b.ports.getD (rootUpto b i).toNat default) = b.ports[(rootUpto b i).toNat] := by simp [List.getD, List.getElem?_eq_getElem hki]
      have hnl : ¬ rootUpto b i < 0 := by omega
      rw [rootStep, hns, hgd] at hstep
      simp only [Bool.false_eq_true, if_false, hnl, decide_false, Bool.false_or] at hstep
      simp [t0, t3, t9, t10, t11, hb, hbe0, hrow0, hid0, indexAddrV, elemIs, hid, hbl, hbe, h0, hkl, hrow3, Port.enc, e1]
      refine selS_intro (fun hd => ?_) (fun hd => ?_)
      · simp [t0, t3, t9, t10, t11, g4]
        refine hskip _ (by simp [t0]) ?_ (by simp [t9]) (by simp [t10]) (by simp) _
        rw [hstep, if_pos (by simpa using hd)]
        simp
      · simp [t0, t3, t9, t10, t11, g4]
        refine hskip _ (by simp [t0]) ?_ (by simp [t9]) (by simp [t10]) (by simp) _
        rw [hstep, if_neg (by simpa using hd)]
        simp [t3]
  · simp at hc
    obtain rfl : i = b.ports.length := by omega
    simp [t0, t3, t9, t10, t11]
    refine he2 _ _ _ ?_
    simp [t3]
    refine hQ _ _ _ (by simp) ?_
    simp [Tryz.f157, rootAt]

/-- The port that the root port is, where there is one. -/
theorem rootGet {b : Bridge} (hok : b.ok = true) (hr : 0 ≤ rootAt b) : ∃ (h : (rootAt b).toNat < b.ports.length), rootAt b < (b.ports.length : Int) ∧ b.ports.getD (rootAt b).toNat default = b.ports[(rootAt b).toNat] ∧ b.ports[(rootAt b).toNat].ok = true ∧
    0 ≤ b.ports[(rootAt b).toNat].vec.cost ∧ b.ports[(rootAt b).toNat].vec.cost ≤ 20 ∧ 0 ≤ b.ports[(rootAt b).toNat].hops ∧ b.ports[(rootAt b).toNat].hops ≤ 8 := by
  have hlt := (rootUpto_lt b b.ports.length).2
  have h : (rootAt b).toNat < b.ports.length := by unfold rootAt at hr ⊢; omega
  have hp := Bridge.ok_at hok h
  exact ⟨h, by omega, by simp [List.getD, List.getElem?_eq_getElem h], hp, Port.ok_bd hp⟩

theorem ownM {H : Heap} {id ro : Nat} {blo : Blk} {b : Bridge} {a : Option (Nat × Nat)} (hb : blkAt H id = some blo) (hbe0 : blo.elem = 43) (hrow0 : blo.rows[ro]? = some (b.enc a)) (h_ : Sl H 99 a (b.ports.map Port.enc)) (hok : b.ok = true) (port : Int) :
    run env 134 [.ptr id ro 0, .int port] H = some (.agg (ownV b port).enc, H) := by
  have hl := (Bridge.ok_all hok).2.2.2.2
  have hid0 := blkAt_len hb
  have e1 := fun G => rootPortG (H := H ++ G) (blkAt_app hb G) hbe0 hrow0 (h_.app G) (by omega)
  simp only [Bridge.enc] at hrow0
  refine run_walk ok134 Tryz.func134 rfl (by simp [Tryz.f134]) fun Q hQ => ?_
  simp only [Tryz.f134, strip, stripL, stripI, stripG, chkT, tagsB, tagsL, tagD, addT, tagA, lookN, tagOp, elmT, ty22, ty26, ty27, ty28, ty29, ty30, ty41, ty53, ty56, Nat.reduceEqDiff, if_false, reduceIte, Option.getD_some, Option.getD_none, dstAt, dstOk, Nat.reduceLT, decide_true, if_true]
  simp [hb, hbe0, hrow0, hid0, e1]
  by_cases hr : 0 ≤ rootAt b
  · obtain ⟨hk, hkl, hgd, hpo, c0, c1, -, -⟩ := rootGet hok hr
    obtain ⟨id3, r3, bl3, rfl, hbl3, hbe3, hrow3⟩ := h_ (rootAt b).toNat _ (by simp [hk]; rfl)
    have hid3 := blkAt_len hbl3
    have hv : ownV b port = ⟨b.ports[(rootAt b).toNat].vec.root, b.ports[(rootAt b).toNat].vec.cost + 1, b.id, port⟩ := by
      unfold ownV
      rw [if_neg (by omega), hgd]
    have g : IntKind.i64.wrap (b.ports[(rootAt b).toNat].vec.cost + 1) = b.ports[(rootAt b).toNat].vec.cost + 1 := wrap64 (by omega) (by omega)
    obtain ⟨p, hp⟩ : ∃ p, p = b.ports[(rootAt b).toNat] := ⟨_, rfl⟩
    rw [← hp] at hv g hrow3
    simp [hr, hb, hbe0, hrow0, hid0, indexAddrV, elemIs, hid3, hbl3, hbe3, hkl, hrow3, Port.enc, g]
    refine hQ _ _ _ (by simp) ?_
    simp [Tryz.f134, hv, Vec.enc]
  · have hv : ownV b port = ⟨b.id, 0, b.id, port⟩ := by unfold ownV; rw [if_pos (by omega)]
    simp [hr]
    refine hQ _ _ _ (by simp) ?_
    simp [Tryz.f134, hv, Vec.enc]

theorem hopsM {H : Heap} {id ro : Nat} {blo : Blk} {b : Bridge} {a : Option (Nat × Nat)} (hb : blkAt H id = some blo) (hbe0 : blo.elem = 43) (hrow0 : blo.rows[ro]? = some (b.enc a)) (h_ : Sl H 99 a (b.ports.map Port.enc)) (hok : b.ok = true) :
    run env 135 [.ptr id ro 0] H = some (.int (hopsB b), H) := by
  have hl := (Bridge.ok_all hok).2.2.2.2
  have hid0 := blkAt_len hb
  have e1 := rootPortG hb hbe0 hrow0 h_ (by omega)
  simp only [Bridge.enc] at hrow0
  refine run_walk ok135 Tryz.func135 rfl (by simp [Tryz.f135]) fun Q hQ => ?_
  simp only [Tryz.f135, strip, stripL, stripI, stripG, chkT, tagsB, tagsL, tagD, addT, tagA, lookN, tagOp, elmT, ty22, ty26, ty27, ty28, ty29, ty30, ty41, ty53, ty56, Nat.reduceEqDiff, if_false, reduceIte, Option.getD_some, Option.getD_none, dstAt, dstOk, Nat.reduceLT, decide_true, if_true]
  simp [hb, hbe0, hrow0, hid0, e1]
  by_cases hr : 0 ≤ rootAt b
  · obtain ⟨hk, hkl, hgd, hpo, -, -, c0, c1⟩ := rootGet hok hr
    obtain ⟨id3, r3, bl3, rfl, hbl3, hbe3, hrow3⟩ := h_ (rootAt b).toNat _ (by simp [hk]; rfl)
    have hid3 := blkAt_len hbl3
    have hv : hopsB b = b.ports[(rootAt b).toNat].hops + 1 := by
      unfold hopsB
      rw [if_neg (by omega), hgd]
    have g : IntKind.i64.wrap (b.ports[(rootAt b).toNat].hops + 1) = b.ports[(rootAt b).toNat].hops + 1 := wrap64 (by omega) (by omega)
    obtain ⟨p, hp⟩ : ∃ p, p = b.ports[(rootAt b).toNat] := ⟨_, rfl⟩
    rw [← hp] at hv g hrow3
    simp [hr, hb, hbe0, hrow0, hid0, indexAddrV, elemIs, hid3, hbl3, hbe3, hkl, hrow3, Port.enc, g]
    refine hQ _ _ _ (by simp) ?_
    simp [Tryz.f135, hv]
  · have hv : hopsB b = 0 := by unfold hopsB; rw [if_pos (by omega)]
    simp [hr]
    refine hQ _ _ _ (by simp) ?_
    simp [Tryz.f135, hv]

theorem specOwn {H : Heap} {l : List Lf} {b : Bridge} (h : RdBridge H l b) (hok : b.ok = true) {port : Int} (h0 : 0 ≤ port) (h1 : port < b.ports.length) : run env 102 [.agg l, .int port] H = some (.agg (ownV b port).enc, H) := by
  have hl := (Bridge.ok_all hok).2.2.2.2
  have e1 := fun G => specBridgeOk_is (h.app G) (by have : b.sz = b.ports.length := rfl; omega)
  have e2 := fun G => specRootPort (h.app G) (by have : b.sz = b.ports.length := rfl; omega)
  have hrp : rootPort b = (rootAt b, decide (0 ≤ rootAt b)) := by simp [rootPort, hok]
  obtain ⟨a, rfl, h_⟩ := h
  rw [hrp] at e2
  rw [hok] at e1
  simp only [Bridge.enc] at e1 e2
  have g2 : IntKind.i64.wrap ((b.ports.length : Int) - 1) = (b.ports.length : Int) - 1 := wrap64 (by omega) (by omega)
  have h2 : port ≤ (b.ports.length : Int) - 1 := by omega
  refine run_walk ok102 Tryz.func102 rfl (by simp [Tryz.f102]) fun Q hQ => ?_
  simp only [Tryz.f102, strip, stripL, stripI, stripG, chkT, tagsB, tagsL, tagD, addT, tagA, lookN, tagOp, elmT, ty22, ty26, ty27, ty28, ty29, ty30, ty41, ty53, ty56, Nat.reduceEqDiff, if_false, reduceIte, Option.getD_some, Option.getD_none, dstAt, dstOk, Nat.reduceLT, decide_true, if_true]
  simp [Bridge.enc, e1, e2, builtinV, pureB, lenV, g2, l1In, h0, h2]
  by_cases hr : 0 ≤ rootAt b
  · obtain ⟨hk, hkl, hgd, hpo, c0, c1, -, -⟩ := rootGet hok hr
    obtain ⟨id3, r3, bl3, rfl, hbl3, hbe3, hrow3⟩ := h_ (rootAt b).toNat _ (by simp [hk]; rfl)
    have hid3 := blkAt_len hbl3
    have hv : ownV b port = ⟨b.ports[(rootAt b).toNat].vec.root, b.ports[(rootAt b).toNat].vec.cost + 1, b.id, port⟩ := by
      unfold ownV
      rw [if_neg (by omega), hgd]
    have g : IntKind.i64.wrap (b.ports[(rootAt b).toNat].vec.cost + 1) = b.ports[(rootAt b).toNat].vec.cost + 1 := wrap64 (by omega) (by omega)
    obtain ⟨p, hp⟩ : ∃ p, p = b.ports[(rootAt b).toNat] := ⟨_, rfl⟩
    rw [← hp] at hv g hrow3
    simp [hr, indexAddrV, elemIs, hid3, hbl3, hbe3, hkl, hrow3, Port.enc, g]
    refine hQ _ _ _ (by simp) ?_
    simp [Tryz.f102, hv, Vec.enc]
  · have hv : ownV b port = ⟨b.id, 0, b.id, port⟩ := by unfold ownV; rw [if_pos (by omega)]
    simp [hr]
    refine hQ _ _ _ (by simp) ?_
    simp [Tryz.f102, hv, Vec.enc]

theorem specHops {H : Heap} {l : List Lf} {b : Bridge} (h : RdBridge H l b) (hok : b.ok = true) : run env 103 [.agg l] H = some (.int (hopsB b), H) := by
  have hl := (Bridge.ok_all hok).2.2.2.2
  have e2 := fun G => specRootPort (h.app G) (by have : b.sz = b.ports.length := rfl; omega)
  have hrp : rootPort b = (rootAt b, decide (0 ≤ rootAt b)) := by simp [rootPort, hok]
  obtain ⟨a, rfl, h_⟩ := h
  rw [hrp] at e2
  simp only [Bridge.enc] at e2
  refine run_walk ok103 Tryz.func103 rfl (by simp [Tryz.f103]) fun Q hQ => ?_
  simp only [Tryz.f103, strip, stripL, stripI, stripG, chkT, tagsB, tagsL, tagD, addT, tagA, lookN, tagOp, elmT, ty22, ty26, ty27, ty28, ty29, ty30, ty41, ty53, ty56, Nat.reduceEqDiff, if_false, reduceIte, Option.getD_some, Option.getD_none, dstAt, dstOk, Nat.reduceLT, decide_true, if_true]
  simp [Bridge.enc, e2]
  by_cases hr : 0 ≤ rootAt b
  · obtain ⟨hk, hkl, hgd, hpo, -, -, c0, c1⟩ := rootGet hok hr
    obtain ⟨id3, r3, bl3, rfl, hbl3, hbe3, hrow3⟩ := h_ (rootAt b).toNat _ (by simp [hk]; rfl)
    have hid3 := blkAt_len hbl3
    have hv : hopsB b = b.ports[(rootAt b).toNat].hops + 1 := by
      unfold hopsB
      rw [if_neg (by omega), hgd]
    have g : IntKind.i64.wrap (b.ports[(rootAt b).toNat].hops + 1) = b.ports[(rootAt b).toNat].hops + 1 := wrap64 (by omega) (by omega)
    obtain ⟨p, hp⟩ : ∃ p, p = b.ports[(rootAt b).toNat] := ⟨_, rfl⟩
    rw [← hp] at hv g hrow3
    simp [hr, indexAddrV, elemIs, hid3, hbl3, hbe3, hkl, hrow3, Port.enc, g]
    refine hQ _ _ _ (by simp) ?_
    simp [Tryz.f103, hv]
  · have hv : hopsB b = 0 := by unfold hopsB; rw [if_pos (by omega)]
    simp [hr]
    refine hQ _ _ _ (by simp) ?_
    simp [Tryz.f103, hv]

def tickB (b : Bridge) : Bridge := ⟨b.id, b.ports.mapIdx fun _ p => tickP p⟩
theorem mapIdx_ok {f : Nat → Port → Port} {b : Bridge} (h : b.ok = true) (hf : ∀ i p, p.ok = true → (f i p).ok = true) : (⟨b.id, b.ports.mapIdx f⟩ : Bridge).ok = true := by
  obtain ⟨h1, h2⟩ := Bridge.ok_all h
  refine Bridge.ok_of (fun p hp => ?_) (by simpa using h2)
  rw [List.mem_mapIdx] at hp
  obtain ⟨i, hi, rfl⟩ := hp
  exact hf _ _ (h1 _ (List.getElem_mem hi))
theorem tickB_ok {b : Bridge} (h : b.ok = true) : (tickB b).ok = true := mapIdx_ok h fun _ _ hp => tickP_ok hp

theorem tickM {H : Heap} {id ro : Nat} {blo : Blk} {b : Bridge} {a : Option (Nat × Nat)} {fp : List Nat} (hb : blkAt H id = some blo) (hbe0 : blo.elem = 43) (hrow0 : blo.rows[ro]? = some (b.enc a)) (ho : Own H 99 a (b.ports.map Port.enc) fp) (hidf : id ∉ fp) (hok : b.ok = true) :
    Runs env 132 [.ptr id ro 0] H fun v H' => v = .tup [] ∧ Own H' 99 a ((tickB b).ports.map Port.enc) fp ∧ Keep fp H H' := by
  obtain ⟨hpok, -, -, hl1, hl4⟩ := Bridge.ok_all hok
  simp only [Bridge.enc] at hrow0
  refine Runs.walk ok132 Tryz.func132 rfl (by simp [Tryz.f132]) fun Q hQ => ?_
  simp only [Tryz.f132, strip, stripL, stripI, stripG, chkT, tagsB, tagsL, tagD, addT, tagA, lookN, tagOp, elmT, ty22, ty26, ty27, ty28, ty29, ty30, ty41, ty53, ty56, Nat.reduceEqDiff, if_false, reduceIte, Option.getD_some, Option.getD_none, dstAt, dstOk, Nat.reduceLT, decide_true, if_true]
  simp [hb, hbe0, hrow0, builtinV, pureB, lenV]
  refine wpS_loop (fun j tm H' => ∃ i, i + j = b.ports.length ∧ tm 0 = .ptr id ro 0 ∧ tm 8 = .int b.ports.length ∧ tm 9 = .int i ∧ Own H' 99 a ((mixL (fun _ p => tickP p) b.ports i).map Port.enc) fp ∧ Keep fp H H') b.ports.length (by rw [env_K]; omega) ⟨0, by simp, by simp, by simp, by simp, by rw [mixL_zero]; exact ho, Keep.refl _ _⟩ ?_
  rintro j tm H1 hj ⟨i, hij, t0, t8, t9, ho1, hk1⟩ Q' hn' he' hr'
  have hb1 := hk1.blk hb hidf
  have hid1 := blkAt_len hb1
  simp [t0, t8, t9]
  refine selS_intro (fun hc => ?_) (fun hc => ?_)
  · simp at hc
    obtain ⟨pid, pb, rfl, rfl, hpb, hpe, hpm, hpre⟩ := ho1.blk (by intro h; have := congrArg List.length h; simp only [List.length_map, mixL_len, List.length_nil] at this; omega)
    have hpl := blkAt_len hpb
    obtain ⟨t, ht⟩ := hpre
    have hrw : pb.rows[i]? = some b.ports[i].enc := by
      rw [← ht, List.getElem?_append_left (by simp; omega), List.getElem?_map, mixL_at _ _ (Nat.le_refl _), List.getElem?_eq_getElem hc]; rfl
    have g4 : IntKind.i64.wrap ((i : Int) + 1) = (i : Int) + 1 := wrap64 (by omega) (by omega)
    have hpo := hpok _ (List.getElem_mem hc)
    obtain ⟨p, hp⟩ : ∃ p, p = b.ports[i] := ⟨_, rfl⟩
    have e1 := fun H => implFade H p
    have hqo := fadeP_ok (p := p) (by rw [hp]; exact hpo)
    obtain ⟨q, hq⟩ : ∃ q, q = fadeP p := ⟨_, rfl⟩
    have hx : tickP p = ⟨q.up, q.has, q.vec, q.hops, q.left, q.role, tickW q, openBy q.role (tickW q)⟩ := by rw [hq]; rfl
    rw [← hq] at e1 hqo
    rw [← hp] at hrw
    have hqw : 0 ≤ q.wait ∧ q.wait ≤ 4 ∧ q.opn = openBy q.role q.wait := by
      simp [Port.ok] at hqo
      exact ⟨hqo.1.2.1, hqo.1.2.2, hqo.2⟩
    have w : IntKind.i64.wrap (q.wait - 1) = q.wait - 1 := wrap64 (by omega) (by omega)
    have e4 := fun H a1 a2 b1 b2 b3 b4 a4 a5 a6 a7 a8 => isOpenBy H ⟨a1, a2, ⟨b1, b2, b3, b4⟩, a4, a5, a6, a7, a8⟩
    simp only [Port.enc] at e1 e4 hrw
    have next : ∀ (tm' : Ab.T) (G' : Heap) (row : List Lf), tm' 0 = .ptr id ro 0 → tm' 8 = .int b.ports.length → tm' 9 = .int ((i : Int) + 1) → row = (tickP p).enc → Q' .normal tm' (H1.set pid (some ⟨99, .wr, pb.rows.set i row⟩) ++ G') := by
      rintro tm' G' row a0 a8 a9 rfl
      refine hn' (j - 1) _ _ (by omega) ⟨i + 1, by omega, a0, a8, by simpa using a9, ?_, ?_⟩
      · have := ho1.set (row := (tickP p).enc) hpb (i := i) (by simp; omega)
        rw [hpm, hpe] at this
        rw [← mixL_step _ _ hc, List.map_set, ← hp]
        exact this.app _
      · exact Keep.trans (h := [pid]) (hk1.trans (h := [pid]) (Keep.set _ _) (by simp) (by simp)) (Keep.app [] _ _) (by simp) (by simp)
    simp [t0, t8, t9, hb1, hid1, hbe0, hrow0, indexAddrV, elemIs, hpl, hpb, hpe, hpm, hc, hrw, e1, g4]
    repeat' (first | (refine gdL_t (fun h => ?_) (fun h => ?_) <;> simp [h, t0, t8, t9, hb1, hid1, hbe0, hrow0, indexAddrV, elemIs, hpl, hpb, hpe, hpm, hc, hrw, e4, g4, w]) | (refine gdL_f (fun h => ?_) (fun h => ?_) <;> simp [h, t0, t8, t9, hb1, hid1, hbe0, hrow0, indexAddrV, elemIs, hpl, hpb, hpe, hpm, hc, hrw, e4, g4, w]) | (refine selS_intro (fun h => ?_) (fun h => ?_) <;> simp [h, t0, t8, t9, hb1, hid1, hbe0, hrow0, indexAddrV, elemIs, hpl, hpb, hpe, hpm, hc, hrw, e4, g4, w]))
    all_goals (refine next _ _ _ (by simp [t0]) (by simp [t8]) (by simp) ?_)
    all_goals (rw [hx]; clear hQ hn' he' hr' next e1 e4 hx; simp only [tickW])
    all_goals ((repeat' split) <;> simp_all [Port.enc] <;> omega)
  · simp at hc
    obtain rfl : i = b.ports.length := by omega
    simp [t0, t8, t9]
    refine he' _ _ _ ?_
    simp
    refine hQ _ _ _ (by simp) ?_
    rw [mixL_all _ _ (Nat.le_refl _)] at ho1
    simp [Tryz.f132]
    exact ⟨leave_own ho1 ho.lt, leave_keep' hk1⟩

def roleB (b : Bridge) (i : Nat) (p : Port) : Int := if (i : Int) = rootAt b then 1 else if (p.has && better p.vec (ownV b i)) = true then 3 else 2
def decP (b : Bridge) (i : Nat) (p : Port) : Port := if p.up = true then turnP p (roleB b i p) else p
def decideB (b : Bridge) : Bridge := ⟨b.id, b.ports.mapIdx (decP b)⟩
theorem decP_key (b : Bridge) (i : Nat) (p : Port) : keyP (decP b i p) = keyP p := by
  unfold decP
  split
  · have := turnP_rest p (roleB b i p)
    simp [keyP, this]
  · rfl
theorem decP_ok (b : Bridge) (i : Nat) {p : Port} (h : p.ok = true) : (decP b i p).ok = true := by
  unfold decP
  split
  · exact turnP_ok _ h
  · exact h
theorem decideB_ok {b : Bridge} (h : b.ok = true) : (decideB b).ok = true := mapIdx_ok h fun i _ hp => decP_ok b i hp
/-- The bridge of which the first ports are decided. -/
def decU (b : Bridge) (i : Nat) : Bridge := ⟨b.id, mixL (decP b) b.ports i⟩
theorem decU_key (b : Bridge) (i : Nat) : (decU b i).ports.map keyP = b.ports.map keyP := by
  refine List.ext_getElem? fun k => ?_
  simp only [decU, mixL, List.getElem?_map, List.getElem?_mapIdx, Option.map_map]
  cases b.ports[k]? with
  | none => rfl
  | some p =>
    simp only [Option.map_some, Function.comp]
    congr 1
    split
    · exact decP_key _ _ _
    · rfl
theorem decU_ok {b : Bridge} (h : b.ok = true) (i : Nat) : (decU b i).ok = true := mapIdx_ok (f := fun k x => if k < i then decP b k x else x) h fun k p hp => by
  split
  · exact decP_ok b k hp
  · exact hp
theorem decideB_key (b : Bridge) : (decideB b).ports.map keyP = b.ports.map keyP := by
  have := decU_key b b.ports.length
  unfold decU at this
  rwa [mixL_all _ _ (Nat.le_refl _)] at this

theorem decideM {H : Heap} {id ro : Nat} {blo : Blk} {b : Bridge} {a : Option (Nat × Nat)} {fp : List Nat} (hb : blkAt H id = some blo) (hbe0 : blo.elem = 43) (hrow0 : blo.rows[ro]? = some (b.enc a)) (ho : Own H 99 a (b.ports.map Port.enc) fp) (hidf : id ∉ fp) (hok : b.ok = true) :
    Runs env 133 [.ptr id ro 0] H fun v H' => v = .tup [] ∧ Own H' 99 a ((decideB b).ports.map Port.enc) fp ∧ Keep fp H H' := by
  obtain ⟨hpok, -, -, hl1, hl4⟩ := Bridge.ok_all hok
  have er := rootPortG hb hbe0 hrow0 ho.sl (by omega)
  have hrowE := hrow0
  simp only [Bridge.enc] at hrow0
  refine Runs.walk ok133 Tryz.func133 rfl (by simp [Tryz.f133]) fun Q hQ => ?_
  simp only [Tryz.f133, strip, stripL, stripI, stripG, chkT, tagsB, tagsL, tagD, addT, tagA, lookN, tagOp, elmT, ty22, ty26, ty27, ty28, ty29, ty30, ty41, ty53, ty56, Nat.reduceEqDiff, if_false, reduceIte, Option.getD_some, Option.getD_none, dstAt, dstOk, Nat.reduceLT, decide_true, if_true]
  simp [hb, hbe0, hrow0, er, builtinV, pureB, lenV]
  refine wpS_loop (fun j tm H' => ∃ i, i + j = b.ports.length ∧ tm 0 = .ptr id ro 0 ∧ tm 2 = .int (rootAt b) ∧ tm 10 = .w (.lf (.sl a b.ports.length)) ∧ tm 11 = .int b.ports.length ∧ tm 12 = .int i ∧ Own H' 99 a ((mixL (decP b) b.ports i).map Port.enc) fp ∧ Keep fp H H') b.ports.length (by rw [env_K]; omega) ⟨0, by simp, by simp, by simp, by simp, by simp, by simp, by rw [mixL_zero]; exact ho, Keep.refl _ _⟩ ?_
  rintro j tm H1 hj ⟨i, hij, t0, t2, t10, t11, t12, ho1, hk1⟩ Q' hn' he' hr'
  have hb1 := hk1.blk hb hidf
  have hid1 := blkAt_len hb1
  simp [t0, t2, t10, t11, t12]
  refine selS_intro (fun hc => ?_) (fun hc => ?_)
  · simp at hc
    have hsl := ho1.sl
    obtain ⟨pid, pb, rfl, rfl, hpb, hpe, hpm, hpre⟩ := ho1.blk (by intro h; have := congrArg List.length h; simp only [List.length_map, mixL_len, List.length_nil] at this; omega)
    have hpl := blkAt_len hpb
    obtain ⟨t, ht⟩ := hpre
    have hrw : pb.rows[i]? = some b.ports[i].enc := by
      rw [← ht, List.getElem?_append_left (by simp; omega), List.getElem?_map, mixL_at _ _ (Nat.le_refl _), List.getElem?_eq_getElem hc]; rfl
    have g4 : IntKind.i64.wrap ((i : Int) + 1) = (i : Int) + 1 := wrap64 (by omega) (by omega)
    have eo := fun G => ownM (H := H1 ++ G) (b := decU b i) (a := some (pid, 0)) (blkAt_app hb1 G) hbe0 (by rw [hrowE]; simp [Bridge.enc, decU]) ((hsl.app G)) (decU_ok hok i) (i : Int)
    simp only [ownV_key (b := decU b i) (c := b) rfl (decU_key b i)] at eo
    have next : ∀ (tm' : Ab.T) (G' : Heap) (row : List Lf), tm' 0 = .ptr id ro 0 → tm' 2 = .int (rootAt b) → tm' 10 = .w (.lf (.sl (some (pid, 0)) b.ports.length)) → tm' 11 = .int b.ports.length → tm' 12 = .int ((i : Int) + 1) → row = (decP b i b.ports[i]).enc → Q' .normal tm' (H1.set pid (some ⟨99, .wr, pb.rows.set i row⟩) ++ G') := by
      rintro tm' G' row a0 a2 a10 a11 a12 rfl
      refine hn' (j - 1) _ _ (by omega) ⟨i + 1, by omega, a0, a2, a10, a11, by simpa using a12, ?_, ?_⟩
      · have := ho1.set (row := (decP b i b.ports[i]).enc) hpb (i := i) (by simp; omega)
        rw [hpm, hpe] at this
        rw [← mixL_step _ _ hc, List.map_set]
        exact this.app _
      · exact Keep.trans (h := [pid]) (hk1.trans (h := [pid]) (Keep.set _ _) (by simp) (by simp)) (Keep.app [] _ _) (by simp) (by simp)
    have keepit : ∀ (tm' : Ab.T) (G' : Heap), tm' 0 = .ptr id ro 0 → tm' 2 = .int (rootAt b) → tm' 10 = .w (.lf (.sl (some (pid, 0)) b.ports.length)) → tm' 11 = .int b.ports.length → tm' 12 = .int ((i : Int) + 1) → b.ports[i].up = false → Q' .normal tm' (H1 ++ G') := by
      intro tm' G' a0 a2 a10 a11 a12 hu
      refine hn' (j - 1) _ _ (by omega) ⟨i + 1, by omega, a0, a2, a10, a11, by simpa using a12, ?_, hk1.trans (Keep.app [] _ _) (by simp) (by simp)⟩
      rw [mixL_same _ _ hc (by unfold decP; rw [if_neg (by rw [hu]; simp)])]
      exact ho1.app _
    obtain ⟨p, hp⟩ : ∃ p, p = b.ports[i] := ⟨_, rfl⟩
    rw [← hp] at hrw next keepit
    have eT : ∀ H role, run env 158 [.agg [.b p.up, .b p.has, .i .i64 p.vec.root, .i .i64 p.vec.cost, .i .i64 p.vec.bridge, .i .i64 p.vec.port, .i .i64 p.hops, .i .i64 p.left, .i .i64 p.role, .i .i64 p.wait, .b p.opn], .int role] H = some (.agg (turnP p role).enc, H) := fun H role => implTurn H p role
    have eB : ∀ H, run env 155 [.agg [.i .i64 p.vec.root, .i .i64 p.vec.cost, .i .i64 p.vec.bridge, .i .i64 p.vec.port], .agg (ownV b i).enc] H = some (.bool (better p.vec (ownV b i)), H) := fun H => implBetter H p.vec (ownV b i)
    simp only [Port.enc] at hrw
    simp [t0, t2, t10, t11, t12, hb1, hid1, hbe0, hrow0, indexAddrV, elemIs, hpl, hpb, hpe, hpm, hc, hrw, eo]
    cases hup : p.up
    · rw [hup] at hrw eT
      simp [t0, t2, t10, t11, t12, g4]
      exact keepit _ _ (by simp [t0]) (by simp [t2]) (by simp [t10]) (by simp [t11]) (by simp) hup
    rw [hup] at hrw eT
    simp [t0, t2]
    by_cases hir : (i : Int) = rootAt b
    · simp [hir, t0, t2, t10, t11, t12, hb1, hid1, hbe0, hrow0, indexAddrV, elemIs, hpl, hpb, hpe, hpm, hc, hrw, eT]
      rw [← hir]
      simp [t0, t2, t10, t11, t12, hb1, hid1, hbe0, hrow0, indexAddrV, elemIs, hpl, hpb, hpe, hpm, hc, hrw, eT, g4]
      refine next _ _ _ (by simp [t0]) (by simp [t2]) (by simp [t10]) (by simp [t11]) (by simp) ?_
      simp [decP, hup, roleB, hir]
    · simp [hir]
      cases hha : p.has
      · rw [hha] at hrw eT
        simp [t0, t2, t10, t11, t12, hb1, hid1, hbe0, hrow0, indexAddrV, elemIs, hpl, hpb, hpe, hpm, hc, hrw, eT, g4]
        refine next _ _ _ (by simp [t0]) (by simp [t2]) (by simp [t10]) (by simp [t11]) (by simp) ?_
        simp [decP, hup, roleB, hir, hha]
      · rw [hha] at hrw eT
        simp [t0, eo, eB]
        refine selS_intro (fun hd => ?_) (fun hd => ?_)
        · simp [t0, t2, t10, t11, t12, hb1, hid1, hbe0, hrow0, indexAddrV, elemIs, hpl, hpb, hpe, hpm, hc, hrw, eT, g4]
          refine next _ _ _ (by simp [t0]) (by simp [t2]) (by simp [t10]) (by simp [t11]) (by simp) ?_
          simp [decP, hup, roleB, hir, hha, hd]
        · simp [t0, t2, t10, t11, t12, hb1, hid1, hbe0, hrow0, indexAddrV, elemIs, hpl, hpb, hpe, hpm, hc, hrw, eT, g4]
          refine next _ _ _ (by simp [t0]) (by simp [t2]) (by simp [t10]) (by simp [t11]) (by simp) ?_
          simp [decP, hup, roleB, hir, hha, hd]
  · simp at hc
    obtain rfl : i = b.ports.length := by omega
    simp [t0, t2, t10, t11, t12]
    refine he' _ _ _ ?_
    simp
    refine hQ _ _ _ (by simp) ?_
    rw [mixL_all _ _ (Nat.le_refl _)] at ho1
    simp [Tryz.f133]
    exact ⟨leave_own ho1 ho.lt, leave_keep' hk1⟩

theorem copyBridge {H : Heap} {l : List Lf} {b : Bridge} (h : RdBridge H l b) (hn : b.sz ≤ 1048576) : Runs env 93 [.agg l] H fun v H' => ∃ l' fp, v = .agg l' ∧ IsBridge H' l' b fp ∧ Fresh H H' fp := by
  obtain ⟨a, rfl, h⟩ := h
  refine Runs.walk ok93 Tryz.func93 rfl (by simp [Tryz.f93]) fun Q hQ => ?_
  simp only [Tryz.f93, strip, stripL, stripI, stripG, chkT, tagsB, tagsL, tagD, addT, tagA, lookN, tagOp, elmT, ty22, ty26, ty27, ty28, ty29, ty30, ty41, ty53, ty56, Nat.reduceEqDiff, if_false, reduceIte, Option.getD_some, Option.getD_none, dstAt, dstOk, Nat.reduceLT, decide_true, if_true]
  simp [Bridge.enc]
  refine stpL_runs_f (clonePortS (q := .sl a b.ports.length) ⟨a, rfl, h.app _⟩ hn) (by rintro _ _ ⟨_, _, _, _, hf⟩; exact hf.1) ?_
  rintro _ H1 ⟨_, f, rfl, ⟨a1, rfl, o1⟩, ⟨⟨G, rfl⟩, hf⟩⟩
  simp
  refine hQ _ _ _ (by simp) ?_
  simp [Tryz.f93]
  have ho : IsBridge (H ++ [some ⟨43, .wr, [b.enc a]⟩, some ⟨43, .wr, [b.enc a1]⟩] ++ G) (b.enc a1) b f := ⟨a1, rfl, o1.keep (Keep.swap G (by simp)) fun i hi => by have := hf i hi; simp at this ⊢; omega⟩
  simp [Bridge.enc] at ho
  obtain ⟨f', h1, h2⟩ := ho.leave (H := H) (ws := [W.agg (b.enc a1)]) (Fresh.app H _ fun i hi => by have := hf i hi; simp at this; omega) (by simp [Bridge.enc])
  exact ⟨f', h1, h2⟩

theorem specCopyB {H : Heap} {l : List Lf} {b : Bridge} (h : RdBridge H l b) (hn : b.sz ≤ 1048576) : Runs env 100 [.agg l] H fun v H' => ∃ l' fp, v = .agg l' ∧ IsBridge H' l' b fp ∧ Fresh H H' fp := by
  obtain ⟨a, rfl, h⟩ := h
  have hn : b.ports.length ≤ 1048576 := hn
  refine Runs.walk ok100 Tryz.func100 rfl (by simp [Tryz.f100]) fun Q hQ => ?_
  simp only [Tryz.f100, strip, stripL, stripI, stripG, chkT, tagsB, tagsL, tagD, addT, tagA, lookN, tagOp, elmT, ty22, ty26, ty27, ty28, ty29, ty30, ty41, ty53, ty56, Nat.reduceEqDiff, if_false, reduceIte, Option.getD_some, Option.getD_none, dstAt, dstOk, Nat.reduceLT, decide_true, if_true]
  simp [Bridge.enc]
  refine stpL_append (rows := []) (ys := b.ports.map Port.enc) (Own.of (by simp)) (h.app _) rfl rfl rfl (by simp) (by simp; omega) rfl (by simp) fun a1 H1 f o1 hk hf => ?_
  obtain ⟨⟨G, rfl⟩, hf⟩ : Fresh (H ++ [some ⟨43, .wr, [b.enc a]⟩, some ⟨43, .wr, [(⟨0, []⟩ : Bridge).enc none]⟩]) H1 f := by
    refine Fresh.grow (fp := [H.length + 2]) (G := [some ⟨99, .wr, []⟩]) (by simp) (by simpa [Bridge.enc] using hk) ?_
    intro i hi
    have := hf i hi
    simp at this ⊢
    omega
  simp
  refine hQ _ _ _ (by simp) ?_
  simp [Tryz.f100]
  have ho : IsBridge (H ++ [some ⟨43, .wr, [b.enc a]⟩, some ⟨43, .wr, [b.enc a1]⟩] ++ G) (b.enc a1) b f := ⟨a1, rfl, o1.keep (Keep.swap G (by simp)) fun i hi => by have := hf i hi; simp at this ⊢; omega⟩
  simp [Bridge.enc] at ho
  obtain ⟨f', h1, h2⟩ := ho.leave (H := H) (ws := [W.agg (b.enc a1)]) (Fresh.app H _ fun i hi => by have := hf i hi; simp at this; omega) (by simp [Bridge.enc])
  exact ⟨f', h1, h2⟩
end W
end Go.Proofs.YtfhaanknijlamaaGreat

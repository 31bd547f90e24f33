/- The functions that this law reaches: what each computes. Conditions: those that each theorem names. -/
import Derived.Test.YtjbjpdifgfnaeaaAbEnvIsTree
set_option maxRecDepth 100000
set_option maxHeartbeats 4000000
set_option linter.unusedSimpArgs false
set_option linter.unusedVariables false
set_option linter.unnecessarySimpa false
namespace Go.Proofs.Ytjbjpdifgfnaeaa
open Go Go.Ab Go.ChangeShapes Go.WideShapes Go.ChangeAt Go.RowKit
namespace W
theorem inRange (H : Heap) (n a b : Int) : run env 91 [.int n, .int a, .int b] H = some (.bool (decide (a ≤ n) && decide (n ≤ b)), H) := by
  refine run_walk ok91 Try.func91 rfl (by simp [Try.f91]) fun Q hQ => ?_
  simp only [Try.f91, strip, stripL, stripI, stripG, chkT, tagsB, tagsL, tagD, addT, tagA, lookN, tagOp, elmT, ty22, ty23, ty28, ty29, ty37, ty38, ty39, ty40, ty41, ty50, ty51, ty52, ty53, ty72, ty81, ty141, ty189, Nat.reduceEqDiff, if_false, reduceIte, Option.getD_some, Option.getD_none, dstAt, dstOk, Nat.reduceLT, decide_true, if_true]
  simp
  repeat' (first | (refine gdL_t (fun h => ?_) (fun h => ?_) <;> simp [h]) | (refine gdL_f (fun h => ?_) (fun h => ?_) <;> simp [h]) | (refine selS_intro (fun h => ?_) (fun h => ?_) <;> simp [h]))
  all_goals (refine hQ _ _ _ (by simp) ?_)
  all_goals (clear hQ; simp_all [Try.f91] <;> omega)

theorem l1In (H : Heap) (n a b : Int) : run env 84 [.int n, .int a, .int b] H = some (.bool (decide (a ≤ n) && decide (n ≤ b)), H) := by
  refine run_walk ok84 Try.func84 rfl (by simp [Try.f84]) fun Q hQ => ?_
  simp only [Try.f84, strip, stripL, stripI, stripG, chkT, tagsB, tagsL, tagD, addT, tagA, lookN, tagOp, elmT, ty22, ty23, ty28, ty29, ty37, ty38, ty39, ty40, ty41, ty50, ty51, ty52, ty53, ty72, ty81, ty141, ty189, Nat.reduceEqDiff, if_false, reduceIte, Option.getD_some, Option.getD_none, dstAt, dstOk, Nat.reduceLT, decide_true, if_true]
  simp
  repeat' (first | (refine gdL_t (fun h => ?_) (fun h => ?_) <;> simp [h]) | (refine gdL_f (fun h => ?_) (fun h => ?_) <;> simp [h]) | (refine selS_intro (fun h => ?_) (fun h => ?_) <;> simp [h]))
  all_goals (refine hQ _ _ _ (by simp) ?_)
  all_goals (clear hQ; simp_all [Try.f84] <;> omega)

theorem isPort (H : Heap) (n : Int) : run env 171 [.int n] H = some (.bool (decide (0 ≤ n) && decide (n ≤ 3)), H) := by
  refine run_walk ok171 Try.func171 rfl (by simp [Try.f171]) fun Q hQ => ?_
  simp only [Try.f171, strip, stripL, stripI, stripG, chkT, tagsB, tagsL, tagD, addT, tagA, lookN, tagOp, elmT, ty22, ty23, ty28, ty29, ty37, ty38, ty39, ty40, ty41, ty50, ty51, ty52, ty53, ty72, ty81, ty141, ty189, Nat.reduceEqDiff, if_false, reduceIte, Option.getD_some, Option.getD_none, dstAt, dstOk, Nat.reduceLT, decide_true, if_true]
  simp [inRange]
  all_goals (refine hQ _ _ _ (by simp) ?_)
  all_goals (clear hQ; simp [Try.f171])

theorem isHops (H : Heap) (n : Int) : run env 173 [.int n] H = some (.bool (decide (0 ≤ n) && decide (n ≤ 8)), H) := by
  refine run_walk ok173 Try.func173 rfl (by simp [Try.f173]) fun Q hQ => ?_
  simp only [Try.f173, strip, stripL, stripI, stripG, chkT, tagsB, tagsL, tagD, addT, tagA, lookN, tagOp, elmT, ty22, ty23, ty28, ty29, ty37, ty38, ty39, ty40, ty41, ty50, ty51, ty52, ty53, ty72, ty81, ty141, ty189, Nat.reduceEqDiff, if_false, reduceIte, Option.getD_some, Option.getD_none, dstAt, dstOk, Nat.reduceLT, decide_true, if_true]
  simp [inRange]
  all_goals (refine hQ _ _ _ (by simp) ?_)
  all_goals (clear hQ; simp [Try.f173])

structure Vec where
  root : Int
  cost : Int
  bridge : Int
  port : Int
  deriving DecidableEq, Inhabited
def Vec.enc (x : Vec) : List Lf := [.i .i64 x.root, .i .i64 x.cost, .i .i64 x.bridge, .i .i64 x.port]
@[simp] theorem Vec.enc_len (x : Vec) : x.enc.length = 4 := rfl
@[simp] theorem Vec.enc_take (x : Vec) : List.take 4 x.enc = x.enc := rfl
@[simp] theorem Vec.enc_drop (x : Vec) : List.drop 4 x.enc = [] := rfl
abbrev Vec.z : List Lf := [.i .i64 0, .i .i64 0, .i .i64 0, .i .i64 0]
abbrev Vec.zv : Vec := ⟨0, 0, 0, 0⟩
theorem Vec.enc_inj {x y : Vec} (h : x.enc = y.enc) : x = y := by
  obtain ⟨_, _, _, _⟩ := x
  obtain ⟨_, _, _, _⟩ := y
  simp [Vec.enc] at h
  simp_all
def Vec.mk' (k : Int) : Vec := ⟨k, k + 1, k + 2, k + 3⟩
theorem Vec.mk'_of {y : Vec} {c : Int} (h0 : y.root = c) (h1 : y.cost = c + 1) (h2 : y.bridge = c + 2) (h3 : y.port = c + 3) : y = Vec.mk' c := by
  rcases y with ⟨w0, v1, v2, v3⟩
  simp only at h0 h1 h2 h3
  subst h0 h1 h2 h3
  rfl

theorem toVec (H : Heap) (x : Vec) : run env 133 [.agg x.enc] H = some (.agg x.enc, H) := by
  refine run_walk ok133 Try.func133 rfl (by simp [Try.f133]) fun Q hQ => ?_
  simp only [Try.f133, strip, stripL, stripI, stripG, chkT, tagsB, tagsL, tagD, addT, tagA, lookN, tagOp, elmT, ty22, ty23, ty28, ty29, ty37, ty38, ty39, ty40, ty41, ty50, ty51, ty52, ty53, ty72, ty81, ty141, ty189, Nat.reduceEqDiff, if_false, reduceIte, Option.getD_some, Option.getD_none, dstAt, dstOk, Nat.reduceLT, decide_true, if_true]
  simp [Vec.enc]
  all_goals (refine hQ _ _ _ (by simp) ?_)
  all_goals (clear hQ; simp [Try.f133, Vec.enc])

theorem eqVec (H : Heap) (x y : Vec) : run env 142 [.agg x.enc, .agg y.enc] H = some (.bool (decide (x = y)), H) := by
  obtain ⟨a0, a1, a2, a3⟩ := x
  obtain ⟨b0, b1, b2, b3⟩ := y
  refine run_walk ok142 Try.func142 rfl (by simp [Try.f142]) fun Q hQ => ?_
  simp only [Try.f142, strip, stripL, stripI, stripG, chkT, tagsB, tagsL, tagD, addT, tagA, lookN, tagOp, elmT, ty22, ty23, ty28, ty29, ty37, ty38, ty39, ty40, ty41, ty50, ty51, ty52, ty53, ty72, ty81, ty141, ty189, Nat.reduceEqDiff, if_false, reduceIte, Option.getD_some, Option.getD_none, dstAt, dstOk, Nat.reduceLT, decide_true, if_true]
  simp [Vec.enc]
  repeat' (first | (refine gdL_t (fun h => ?_) (fun h => ?_) <;> simp [h]) | (refine gdL_f (fun h => ?_) (fun h => ?_) <;> simp [h]) | (refine selS_intro (fun h => ?_) (fun h => ?_) <;> simp [h]))
  all_goals (refine hQ _ _ _ (by simp) ?_)
  all_goals (clear hQ; simp_all [Try.f142])

theorem shpVec {H : Heap} {k : Nat} {l : List Lf} (h : Shp Try.prog H (k + 2) 120 l) : ∃ x : Vec, l = x.enc := by
  obtain ⟨_, _, rfl, h0, _, _, rfl, h1, _, _, rfl, h2, _, _, rfl, h3, rfl⟩ := h.struct Try.underlying120
  obtain ⟨a0, rfl, -⟩ := h0.i64 Try.underlying3
  obtain ⟨a1, rfl, -⟩ := h1.i64 Try.underlying3
  obtain ⟨a2, rfl, -⟩ := h2.i64 Try.underlying3
  obtain ⟨a3, rfl, -⟩ := h3.i64 Try.underlying3
  exact ⟨⟨a0, a1, a2, a3⟩, rfl⟩

structure Port where
  up : Bool
  has : Bool
  vec : Vec
  hops : Int
  left : Int
  role : Int
  wait : Int
  opn : Bool
  deriving DecidableEq, Inhabited
def Port.enc (x : Port) : List Lf := [.b x.up, .b x.has, .i .i64 x.vec.root, .i .i64 x.vec.cost, .i .i64 x.vec.bridge, .i .i64 x.vec.port, .i .i64 x.hops, .i .i64 x.left, .i .i64 x.role, .i .i64 x.wait, .b x.opn]
@[simp] theorem Port.enc_len (x : Port) : x.enc.length = 11 := rfl
@[simp] theorem Port.enc_take (x : Port) : List.take 11 x.enc = x.enc := rfl
@[simp] theorem Port.enc_drop (x : Port) : List.drop 11 x.enc = [] := rfl
abbrev Port.z : List Lf := [.b false, .b false, .i .i64 0, .i .i64 0, .i .i64 0, .i .i64 0, .i .i64 0, .i .i64 0, .i .i64 0, .i .i64 0, .b false]
abbrev Port.zv : Port := ⟨false, false, ⟨0, 0, 0, 0⟩, 0, 0, 0, 0, false⟩
theorem Port.enc_inj {x y : Port} (h : x.enc = y.enc) : x = y := by
  rcases x with ⟨v0, v1, ⟨v2_0, v2_1, v2_2, v2_3⟩, v3, v4, v5, v6, v7⟩
  rcases y with ⟨w0, v1, ⟨v2_0, v2_1, v2_2, v2_3⟩, v3, v4, v5, v6, v7⟩
  simp [Port.enc] at h
  simp_all
def Port.mk' (k : Int) : Port := ⟨decide ((k).tmod 3 = 0), decide ((k + 1).tmod 3 = 0), ⟨k + 2, k + 3, k + 4, k + 5⟩, k + 6, k + 7, k + 8, k + 9, decide ((k + 10).tmod 3 = 0)⟩
theorem Port.mk'_of {y : Port} {c : Int} (h0 : y.up = decide ((c).tmod 3 = 0)) (h1 : y.has = decide ((c + 1).tmod 3 = 0)) (h2 : y.vec.root = c + 2) (h3 : y.vec.cost = c + 3) (h4 : y.vec.bridge = c + 4) (h5 : y.vec.port = c + 5) (h6 : y.hops = c + 6) (h7 : y.left = c + 7) (h8 : y.role = c + 8) (h9 : y.wait = c + 9) (h10 : y.opn = decide ((c + 10).tmod 3 = 0)) : y = Port.mk' c := by
  rcases y with ⟨w0, v1, ⟨v2_0, v2_1, v2_2, v2_3⟩, v3, v4, v5, v6, v7⟩
  simp only at h0 h1 h2 h3 h4 h5 h6 h7 h8 h9 h10
  subst h0 h1 h2 h3 h4 h5 h6 h7 h8 h9 h10
  rfl

theorem toPort (H : Heap) (x : Port) : run env 179 [.agg x.enc] H = some (.agg x.enc, H) := by
  refine run_walk ok179 Try.func179 rfl (by simp [Try.f179]) fun Q hQ => ?_
  simp only [Try.f179, strip, stripL, stripI, stripG, chkT, tagsB, tagsL, tagD, addT, tagA, lookN, tagOp, elmT, ty22, ty23, ty28, ty29, ty37, ty38, ty39, ty40, ty41, ty50, ty51, ty52, ty53, ty72, ty81, ty141, ty189, Nat.reduceEqDiff, if_false, reduceIte, Option.getD_some, Option.getD_none, dstAt, dstOk, Nat.reduceLT, decide_true, if_true]
  have e0 := fun H => toVec H x.vec
  simp only [Vec.enc] at e0
  simp [Port.enc, e0]
  all_goals (refine hQ _ _ _ (by simp) ?_)
  all_goals (clear hQ; simp [Try.f179, Port.enc])

theorem eqPort (H : Heap) (x y : Port) : run env 154 [.agg x.enc, .agg y.enc] H = some (.bool (decide (x = y)), H) := by
  have e0 := fun H => eqVec H x.vec y.vec
  obtain ⟨a0, a1, a2, a3, a4, a5, a6, a7⟩ := x
  obtain ⟨b0, b1, b2, b3, b4, b5, b6, b7⟩ := y
  simp only [Vec.enc] at e0
  refine run_walk ok154 Try.func154 rfl (by simp [Try.f154]) fun Q hQ => ?_
  simp only [Try.f154, strip, stripL, stripI, stripG, chkT, tagsB, tagsL, tagD, addT, tagA, lookN, tagOp, elmT, ty22, ty23, ty28, ty29, ty37, ty38, ty39, ty40, ty41, ty50, ty51, ty52, ty53, ty72, ty81, ty141, ty189, Nat.reduceEqDiff, if_false, reduceIte, Option.getD_some, Option.getD_none, dstAt, dstOk, Nat.reduceLT, decide_true, if_true]
  simp [Port.enc]
  repeat' (first | (refine gdL_t (fun h => ?_) (fun h => ?_) <;> simp [h, e0]) | (refine gdL_f (fun h => ?_) (fun h => ?_) <;> simp [h, e0]) | (refine selS_intro (fun h => ?_) (fun h => ?_) <;> simp [h, e0]))
  all_goals (refine hQ _ _ _ (by simp) ?_)
  all_goals (clear hQ; simp_all [Try.f154])

theorem shpPort {H : Heap} {k : Nat} {l : List Lf} (h : Shp Try.prog H (k + 3) 205 l) : ∃ x : Port, l = x.enc := by
  obtain ⟨_, _, rfl, h0, _, _, rfl, h1, _, _, rfl, h2, _, _, rfl, h3, _, _, rfl, h4, _, _, rfl, h5, _, _, rfl, h6, _, _, rfl, h7, rfl⟩ := h.struct Try.underlying205
  obtain ⟨a0, rfl⟩ := h0.bool Try.underlying4
  obtain ⟨a1, rfl⟩ := h1.bool Try.underlying4
  obtain ⟨a2, rfl⟩ := shpVec h2
  obtain ⟨a3, rfl, -⟩ := h3.i64 Try.underlying3
  obtain ⟨a4, rfl, -⟩ := h4.i64 Try.underlying3
  obtain ⟨a5, rfl, -⟩ := h5.i64 Try.underlying3
  obtain ⟨a6, rfl, -⟩ := h6.i64 Try.underlying3
  obtain ⟨a7, rfl⟩ := h7.bool Try.underlying4
  exact ⟨⟨a0, a1, a2, a3, a4, a5, a6, a7⟩, rfl⟩

structure Link where
  a : Int
  p : Int
  b : Int
  q : Int
  deriving DecidableEq, Inhabited
def Link.enc (x : Link) : List Lf := [.i .i64 x.a, .i .i64 x.p, .i .i64 x.b, .i .i64 x.q]
@[simp] theorem Link.enc_len (x : Link) : x.enc.length = 4 := rfl
@[simp] theorem Link.enc_take (x : Link) : List.take 4 x.enc = x.enc := rfl
@[simp] theorem Link.enc_drop (x : Link) : List.drop 4 x.enc = [] := rfl
abbrev Link.z : List Lf := [.i .i64 0, .i .i64 0, .i .i64 0, .i .i64 0]
abbrev Link.zv : Link := ⟨0, 0, 0, 0⟩
theorem Link.enc_inj {x y : Link} (h : x.enc = y.enc) : x = y := by
  obtain ⟨_, _, _, _⟩ := x
  obtain ⟨_, _, _, _⟩ := y
  simp [Link.enc] at h
  simp_all
def Link.mk' (k : Int) : Link := ⟨k, k + 1, k + 2, k + 3⟩
theorem Link.mk'_of {y : Link} {c : Int} (h0 : y.a = c) (h1 : y.p = c + 1) (h2 : y.b = c + 2) (h3 : y.q = c + 3) : y = Link.mk' c := by
  rcases y with ⟨w0, v1, v2, v3⟩
  simp only at h0 h1 h2 h3
  subst h0 h1 h2 h3
  rfl

theorem toLink (H : Heap) (x : Link) : run env 115 [.agg x.enc] H = some (.agg x.enc, H) := by
  refine run_walk ok115 Try.func115 rfl (by simp [Try.f115]) fun Q hQ => ?_
  simp only [Try.f115, strip, stripL, stripI, stripG, chkT, tagsB, tagsL, tagD, addT, tagA, lookN, tagOp, elmT, ty22, ty23, ty28, ty29, ty37, ty38, ty39, ty40, ty41, ty50, ty51, ty52, ty53, ty72, ty81, ty141, ty189, Nat.reduceEqDiff, if_false, reduceIte, Option.getD_some, Option.getD_none, dstAt, dstOk, Nat.reduceLT, decide_true, if_true]
  simp [Link.enc]
  all_goals (refine hQ _ _ _ (by simp) ?_)
  all_goals (clear hQ; simp [Try.f115, Link.enc])

theorem eqLink (H : Heap) (x y : Link) : run env 118 [.agg x.enc, .agg y.enc] H = some (.bool (decide (x = y)), H) := by
  obtain ⟨a0, a1, a2, a3⟩ := x
  obtain ⟨b0, b1, b2, b3⟩ := y
  refine run_walk ok118 Try.func118 rfl (by simp [Try.f118]) fun Q hQ => ?_
  simp only [Try.f118, strip, stripL, stripI, stripG, chkT, tagsB, tagsL, tagD, addT, tagA, lookN, tagOp, elmT, ty22, ty23, ty28, ty29, ty37, ty38, ty39, ty40, ty41, ty50, ty51, ty52, ty53, ty72, ty81, ty141, ty189, Nat.reduceEqDiff, if_false, reduceIte, Option.getD_some, Option.getD_none, dstAt, dstOk, Nat.reduceLT, decide_true, if_true]
  simp [Link.enc]
  repeat' (first | (refine gdL_t (fun h => ?_) (fun h => ?_) <;> simp [h]) | (refine gdL_f (fun h => ?_) (fun h => ?_) <;> simp [h]) | (refine selS_intro (fun h => ?_) (fun h => ?_) <;> simp [h]))
  all_goals (refine hQ _ _ _ (by simp) ?_)
  all_goals (clear hQ; simp_all [Try.f118])

theorem shpLink {H : Heap} {k : Nat} {l : List Lf} (h : Shp Try.prog H (k + 2) 152 l) : ∃ x : Link, l = x.enc := by
  obtain ⟨_, _, rfl, h0, _, _, rfl, h1, _, _, rfl, h2, _, _, rfl, h3, rfl⟩ := h.struct Try.underlying152
  obtain ⟨a0, rfl, -⟩ := h0.i64 Try.underlying3
  obtain ⟨a1, rfl, -⟩ := h1.i64 Try.underlying3
  obtain ⟨a2, rfl, -⟩ := h2.i64 Try.underlying3
  obtain ⟨a3, rfl, -⟩ := h3.i64 Try.underlying3
  exact ⟨⟨a0, a1, a2, a3⟩, rfl⟩

def encB (x : Bool) : List Lf := [.b x]
@[simp] theorem encB_len (x : Bool) : (encB x).length = 1 := rfl
@[simp] theorem encB_take (x : Bool) : List.take 1 (encB x) = [.b x] := rfl
def mkB (k : Int) : Bool := decide (k.tmod 3 = 0)
theorem encB_inj {x y : Bool} (h : encB x = encB y) : x = y := by simpa [encB] using h

def encI (x : Int) : List Lf := [.i .i64 x]
@[simp] theorem encI_len (x : Int) : (encI x).length = 1 := rfl
@[simp] theorem encI_take (x : Int) : List.take 1 (encI x) = [.i .i64 x] := rfl
def mkI (k : Int) : Int := k
theorem encI_inj {x y : Int} (h : encI x = encI y) : x = y := by simpa [encI] using h

abbrev IsBoolS := IsSl 4 encB
abbrev RdBoolS := RdSl 4 encB
abbrev RdLBoolS := RdSl 4 encB
def BoolS.mk' (xs : List Bool) (k : Int) : List Bool := marked mkB 1 xs.length k
def BoolS.mkN (xs : List Bool) (k : Int) : Int := k + 1 * xs.length
def BoolS.hd (xs : List Bool) (k : Int) : Int := heldL mkB 1 xs k
theorem BoolS.hd_mk (xs : List Bool) (k : Int) : BoolS.hd (BoolS.mk' xs k) k = BoolS.mkN xs k := by simp [BoolS.hd, BoolS.mk', BoolS.mkN]
theorem BoolS.mk_sz (xs : List Bool) (k : Int) : (BoolS.mk' xs k).length = xs.length := by simp [BoolS.mk']
theorem BoolS.mkN_le {xs : List Bool} {k : Int} (h : xs.length ≤ 1048576) : k ≤ BoolS.mkN xs k ∧ BoolS.mkN xs k ≤ k + 1000000000 := by unfold BoolS.mkN; omega

abbrev IsIntS := IsSl 3 encI
abbrev RdIntS := RdSl 3 encI
abbrev RdLIntS := RdSl 3 encI
def IntS.mk' (xs : List Int) (k : Int) : List Int := marked mkI 1 xs.length k
def IntS.mkN (xs : List Int) (k : Int) : Int := k + 1 * xs.length
def IntS.hd (xs : List Int) (k : Int) : Int := heldL mkI 1 xs k
theorem IntS.hd_mk (xs : List Int) (k : Int) : IntS.hd (IntS.mk' xs k) k = IntS.mkN xs k := by simp [IntS.hd, IntS.mk', IntS.mkN]
theorem IntS.mk_sz (xs : List Int) (k : Int) : (IntS.mk' xs k).length = xs.length := by simp [IntS.mk']
theorem IntS.mkN_le {xs : List Int} {k : Int} (h : xs.length ≤ 1048576) : k ≤ IntS.mkN xs k ∧ IntS.mkN xs k ≤ k + 1000000000 := by unfold IntS.mkN; omega

theorem toPortS (H : Heap) (a : Option (Nat × Nat)) (xs : List Port) (h : Sl H 205 a (xs.map Port.enc)) (hn : xs.length ≤ 1048576) :
    run env 157 [.w (.lf (.sl a xs.length))] H = some (.sl H.length 0 xs.length, H ++ [some ⟨148, .wr, xs.map Port.enc⟩]) := by
  refine run_walk ok157 Try.func157 rfl (by simp [Try.f157]) fun Q hQ => ?_
  simp only [Try.f157, strip, stripL, stripI, stripG, chkT, tagsB, tagsL, tagD, addT, tagA, lookN, tagOp, elmT, ty22, ty23, ty28, ty29, ty37, ty38, ty39, ty40, ty41, ty50, ty51, ty52, ty53, ty72, ty81, ty141, ty189, Nat.reduceEqDiff, if_false, reduceIte, Option.getD_some, Option.getD_none, dstAt, dstOk, Nat.reduceLT, decide_true, if_true]
  have k1 : (xs.length : Int) * 80 ≤ 281474976710656 := by omega
  have k2 : (xs.length : Int) ≤ 9223372036854775807 := by omega
  have k3 : (xs.length : Int) ≤ 281474976710656 := by omega
  simp [builtinV, pureB, lenV, makeSliceV, makeSliceR, newBlk, k1, k2, k3]
  refine wpS_loop (fun j tm H' => ∃ i, i + j = xs.length ∧ tm 0 = .w (.lf (.sl a xs.length)) ∧ tm 3 = .sl H.length 0 xs.length ∧ tm 4 = .int i ∧ H' = H ++ [some ⟨148, .wr, fillR (xs.map Port.enc) Port.z i j⟩]) xs.length (by rw [env_K]; omega) ⟨0, by simp, by simp, by simp, by simp, by rw [fillR_zero _ _ (by simp)]⟩ ?_
  rintro j tm H' hj ⟨i, hij, h0, h3, h4, rfl⟩ Q' hn' he' hr'
  simp [h0, h3, h4, builtinV, pureB, lenV]
  refine selS_intro (fun hc => ?_) (fun hc => ?_)
  · simp at hc
    obtain ⟨j, rfl⟩ : ∃ j', j = j' + 1 := ⟨j - 1, by omega⟩
    obtain ⟨id, r, b, rfl, hb, hbe, hrow⟩ := h i _ (by simp [hc]; rfl)
    have hid := blkAt_len hb
    have g2 := fillR_get (ys := xs.map Port.enc) (z := Port.z) (i := i) (j := j) (by simpa using hij)
    have g3 := fillR_set (ys := xs.map Port.enc) (z := Port.z) (i := i) (j := j) (y := Port.enc xs[i]) (by simpa using hij) (by simp [hc])
    have g4 : IntKind.i64.wrap ((i : Int) + 1) = (i : Int) + 1 := wrap64 (by omega) (by omega)
    simp [h0, h3, h4, indexAddrV, elemIs, hid, hb, hbe, hc, hrow, toPort, g2, g3, g4]
    exact hn' j _ _ (by omega) ⟨i + 1, by omega, by simp [h0], by simp [h3], by simp, by simpa using congrArg (fun r => H ++ [some (⟨148, .wr, r⟩ : Blk)]) g3⟩
  · simp at hc
    have hj0 : j = 0 := by omega
    subst hj0
    simp [h0, h3, h4]
    refine he' _ _ _ ?_
    simp [h3]
    refine hQ _ _ _ (by simp) ?_
    simp [Try.f157, leave, fillR_done (ys := xs.map Port.enc) (i := i) (z := Port.z) (by simpa using hij), refFree]

theorem szPortS (H : Heap) (a : Option (Nat × Nat)) (n : Nat) (left : Int) (h1 : 0 ≤ left) (h2 : left ≤ 1048576) (h3 : n ≤ maxLen) :
    run env 155 [.w (.lf (.sl a n)), .int left] H = some (.int (if left < n then -1 else left - n), H) := by
  have hm : (n : Int) ≤ 9223372036854775807 := by unfold maxLen at h3; omega
  refine run_walk ok155 Try.func155 rfl (by simp [Try.f155]) fun Q hQ => ?_
  simp only [Try.f155, strip, stripL, stripI, stripG, chkT, tagsB, tagsL, tagD, addT, tagA, lookN, tagOp, elmT, ty22, ty23, ty28, ty29, ty37, ty38, ty39, ty40, ty41, ty50, ty51, ty52, ty53, ty72, ty81, ty141, ty189, Nat.reduceEqDiff, if_false, reduceIte, Option.getD_some, Option.getD_none, dstAt, dstOk, Nat.reduceLT, decide_true, if_true]
  have g : IntKind.i64.wrap (left - n) = left - n := wrap64 (by omega) (by omega)
  simp [builtinV, pureB, lenV, g]
  repeat' (first | (refine gdL_t (fun h => ?_) (fun h => ?_) <;> simp [h]) | (refine gdL_f (fun h => ?_) (fun h => ?_) <;> simp [h]) | (refine selS_intro (fun h => ?_) (fun h => ?_) <;> simp [h]))
  all_goals (refine hQ _ _ _ (by simp) ?_)
  all_goals (clear hQ; simp_all [Try.f155] <;> omega)

theorem eqPortS (H : Heap) (a b : Option (Nat × Nat)) (xs ys : List Port) (ha : Sl H 148 a (xs.map Port.enc)) (hb : Sl H 148 b (ys.map Port.enc)) (hn : xs.length ≤ 1048576) :
    run env 106 [.w (.lf (.sl a xs.length)), .w (.lf (.sl b ys.length))] H = some (.bool (decide (xs = ys)), H) := by
  refine run_walk ok106 Try.func106 rfl (by simp [Try.f106]) fun Q hQ => ?_
  simp only [Try.f106, strip, stripL, stripI, stripG, chkT, tagsB, tagsL, tagD, addT, tagA, lookN, tagOp, elmT, ty22, ty23, ty28, ty29, ty37, ty38, ty39, ty40, ty41, ty50, ty51, ty52, ty53, ty72, ty81, ty141, ty189, Nat.reduceEqDiff, if_false, reduceIte, Option.getD_some, Option.getD_none, dstAt, dstOk, Nat.reduceLT, decide_true, if_true]
  simp [builtinV, pureB, lenV]
  refine selS_intro (fun hl => ?_) (fun hl => ?_)
  · simp
    refine hQ _ _ _ (by simp) ?_
    simp at hl
    have : ¬ xs = ys := fun h => hl (by rw [h])
    simp [Try.f106, this]
  simp at hl
  simp
  refine wpS_loop (fun j tm H' => ∃ i, i + j = xs.length ∧ tm 0 = .w (.lf (.sl a xs.length)) ∧ tm 1 = .w (.lf (.sl b ys.length)) ∧ tm 5 = .int i ∧ H' = H ∧ xs.take i = ys.take i) xs.length (by rw [env_K]; omega) ⟨0, by simp, by simp, by simp, by simp, rfl, by simp⟩ ?_
  rintro j tm H' hj ⟨i, hij, h0, h1, h5, rfl, heq⟩ Q' hn' he' hr'
  simp [h0, h1, h5, builtinV, pureB, lenV]
  refine selS_intro (fun hc => ?_) (fun hc => ?_)
  · simp at hc
    have hc2 : i < ys.length := by omega
    obtain ⟨id, r, bl, rfl, hbl, hbe, hrow⟩ := ha i _ (by simp [hc]; rfl)
    obtain ⟨id2, r2, bl2, rfl, hbl2, hbe2, hrow2⟩ := hb i _ (by simp [hc2]; rfl)
    have g4 : IntKind.i64.wrap ((i : Int) + 1) = (i : Int) + 1 := wrap64 (by omega) (by omega)
    simp [h0, h1, h5, indexAddrV, elemIs, hbl, hbe, hbl2, hbe2, hc, hc2, hrow, hrow2, eqPort]
    refine selS_intro (fun hd => ?_) (fun hd => ?_)
    · simp
      refine hr' _ _ ?_
      simp
      refine hQ _ _ _ (by simp) ?_
      simp at hd
      have : ¬ xs = ys := fun h => by subst h; simp at hd
      simp [Try.f106, this]
    · simp at hd
      simp [h0, h1, h5, g4]
      exact hn' (j - 1) _ _ (by omega) ⟨i + 1, by omega, by simp [h0], by simp [h1], by simp, rfl, by rw [List.take_add_one, List.take_add_one, heq]; simp [hc, hc2, hd]⟩
  · simp at hc
    simp [h0, h1, h5]
    refine he' _ _ _ ?_
    simp
    refine hQ _ _ _ (by simp) ?_
    have : xs = ys := by
      rw [List.take_of_length_le (by omega), List.take_of_length_le (by omega)] at heq
      exact heq
    simp [Try.f106, this]

theorem toLinkS (H : Heap) (a : Option (Nat × Nat)) (xs : List Link) (h : Sl H 152 a (xs.map Link.enc)) (hn : xs.length ≤ 1048576) :
    run env 52 [.w (.lf (.sl a xs.length))] H = some (.sl H.length 0 xs.length, H ++ [some ⟨92, .wr, xs.map Link.enc⟩]) := by
  refine run_walk ok52 Try.func52 rfl (by simp [Try.f52]) fun Q hQ => ?_
  simp only [Try.f52, strip, stripL, stripI, stripG, chkT, tagsB, tagsL, tagD, addT, tagA, lookN, tagOp, elmT, ty22, ty23, ty28, ty29, ty37, ty38, ty39, ty40, ty41, ty50, ty51, ty52, ty53, ty72, ty81, ty141, ty189, Nat.reduceEqDiff, if_false, reduceIte, Option.getD_some, Option.getD_none, dstAt, dstOk, Nat.reduceLT, decide_true, if_true]
  have k1 : (xs.length : Int) * 32 ≤ 281474976710656 := by omega
  have k2 : (xs.length : Int) ≤ 9223372036854775807 := by omega
  have k3 : (xs.length : Int) ≤ 281474976710656 := by omega
  simp [builtinV, pureB, lenV, makeSliceV, makeSliceR, newBlk, k1, k2, k3]
  refine wpS_loop (fun j tm H' => ∃ i, i + j = xs.length ∧ tm 0 = .w (.lf (.sl a xs.length)) ∧ tm 3 = .sl H.length 0 xs.length ∧ tm 4 = .int i ∧ H' = H ++ [some ⟨92, .wr, fillR (xs.map Link.enc) Link.z i j⟩]) xs.length (by rw [env_K]; omega) ⟨0, by simp, by simp, by simp, by simp, by rw [fillR_zero _ _ (by simp)]⟩ ?_
  rintro j tm H' hj ⟨i, hij, h0, h3, h4, rfl⟩ Q' hn' he' hr'
  simp [h0, h3, h4, builtinV, pureB, lenV]
  refine selS_intro (fun hc => ?_) (fun hc => ?_)
  · simp at hc
    obtain ⟨j, rfl⟩ : ∃ j', j = j' + 1 := ⟨j - 1, by omega⟩
    obtain ⟨id, r, b, rfl, hb, hbe, hrow⟩ := h i _ (by simp [hc]; rfl)
    have hid := blkAt_len hb
    have g2 := fillR_get (ys := xs.map Link.enc) (z := Link.z) (i := i) (j := j) (by simpa using hij)
    have g3 := fillR_set (ys := xs.map Link.enc) (z := Link.z) (i := i) (j := j) (y := Link.enc xs[i]) (by simpa using hij) (by simp [hc])
    have g4 : IntKind.i64.wrap ((i : Int) + 1) = (i : Int) + 1 := wrap64 (by omega) (by omega)
    simp [h0, h3, h4, indexAddrV, elemIs, hid, hb, hbe, hc, hrow, toLink, g2, g3, g4]
    exact hn' j _ _ (by omega) ⟨i + 1, by omega, by simp [h0], by simp [h3], by simp, by simpa using congrArg (fun r => H ++ [some (⟨92, .wr, r⟩ : Blk)]) g3⟩
  · simp at hc
    have hj0 : j = 0 := by omega
    subst hj0
    simp [h0, h3, h4]
    refine he' _ _ _ ?_
    simp [h3]
    refine hQ _ _ _ (by simp) ?_
    simp [Try.f52, leave, fillR_done (ys := xs.map Link.enc) (i := i) (z := Link.z) (by simpa using hij), refFree]

theorem szLinkS (H : Heap) (a : Option (Nat × Nat)) (n : Nat) (left : Int) (h1 : 0 ≤ left) (h2 : left ≤ 1048576) (h3 : n ≤ maxLen) :
    run env 48 [.w (.lf (.sl a n)), .int left] H = some (.int (if left < n then -1 else left - n), H) := by
  have hm : (n : Int) ≤ 9223372036854775807 := by unfold maxLen at h3; omega
  refine run_walk ok48 Try.func48 rfl (by simp [Try.f48]) fun Q hQ => ?_
  simp only [Try.f48, strip, stripL, stripI, stripG, chkT, tagsB, tagsL, tagD, addT, tagA, lookN, tagOp, elmT, ty22, ty23, ty28, ty29, ty37, ty38, ty39, ty40, ty41, ty50, ty51, ty52, ty53, ty72, ty81, ty141, ty189, Nat.reduceEqDiff, if_false, reduceIte, Option.getD_some, Option.getD_none, dstAt, dstOk, Nat.reduceLT, decide_true, if_true]
  have g : IntKind.i64.wrap (left - n) = left - n := wrap64 (by omega) (by omega)
  simp [builtinV, pureB, lenV, g]
  repeat' (first | (refine gdL_t (fun h => ?_) (fun h => ?_) <;> simp [h]) | (refine gdL_f (fun h => ?_) (fun h => ?_) <;> simp [h]) | (refine selS_intro (fun h => ?_) (fun h => ?_) <;> simp [h]))
  all_goals (refine hQ _ _ _ (by simp) ?_)
  all_goals (clear hQ; simp_all [Try.f48] <;> omega)

theorem eqLinkS (H : Heap) (a b : Option (Nat × Nat)) (xs ys : List Link) (ha : Sl H 92 a (xs.map Link.enc)) (hb : Sl H 92 b (ys.map Link.enc)) (hn : xs.length ≤ 1048576) :
    run env 58 [.w (.lf (.sl a xs.length)), .w (.lf (.sl b ys.length))] H = some (.bool (decide (xs = ys)), H) := by
  refine run_walk ok58 Try.func58 rfl (by simp [Try.f58]) fun Q hQ => ?_
  simp only [Try.f58, strip, stripL, stripI, stripG, chkT, tagsB, tagsL, tagD, addT, tagA, lookN, tagOp, elmT, ty22, ty23, ty28, ty29, ty37, ty38, ty39, ty40, ty41, ty50, ty51, ty52, ty53, ty72, ty81, ty141, ty189, Nat.reduceEqDiff, if_false, reduceIte, Option.getD_some, Option.getD_none, dstAt, dstOk, Nat.reduceLT, decide_true, if_true]
  simp [builtinV, pureB, lenV]
  refine selS_intro (fun hl => ?_) (fun hl => ?_)
  · simp
    refine hQ _ _ _ (by simp) ?_
    simp at hl
    have : ¬ xs = ys := fun h => hl (by rw [h])
    simp [Try.f58, this]
  simp at hl
  simp
  refine wpS_loop (fun j tm H' => ∃ i, i + j = xs.length ∧ tm 0 = .w (.lf (.sl a xs.length)) ∧ tm 1 = .w (.lf (.sl b ys.length)) ∧ tm 5 = .int i ∧ H' = H ∧ xs.take i = ys.take i) xs.length (by rw [env_K]; omega) ⟨0, by simp, by simp, by simp, by simp, rfl, by simp⟩ ?_
  rintro j tm H' hj ⟨i, hij, h0, h1, h5, rfl, heq⟩ Q' hn' he' hr'
  simp [h0, h1, h5, builtinV, pureB, lenV]
  refine selS_intro (fun hc => ?_) (fun hc => ?_)
  · simp at hc
    have hc2 : i < ys.length := by omega
    obtain ⟨id, r, bl, rfl, hbl, hbe, hrow⟩ := ha i _ (by simp [hc]; rfl)
    obtain ⟨id2, r2, bl2, rfl, hbl2, hbe2, hrow2⟩ := hb i _ (by simp [hc2]; rfl)
    have g4 : IntKind.i64.wrap ((i : Int) + 1) = (i : Int) + 1 := wrap64 (by omega) (by omega)
    simp [h0, h1, h5, indexAddrV, elemIs, hbl, hbe, hbl2, hbe2, hc, hc2, hrow, hrow2, eqLink]
    refine selS_intro (fun hd => ?_) (fun hd => ?_)
    · simp
      refine hr' _ _ ?_
      simp
      refine hQ _ _ _ (by simp) ?_
      simp at hd
      have : ¬ xs = ys := fun h => by subst h; simp at hd
      simp [Try.f58, this]
    · simp at hd
      simp [h0, h1, h5, g4]
      exact hn' (j - 1) _ _ (by omega) ⟨i + 1, by omega, by simp [h0], by simp [h1], by simp, rfl, by rw [List.take_add_one, List.take_add_one, heq]; simp [hc, hc2, hd]⟩
  · simp at hc
    simp [h0, h1, h5]
    refine he' _ _ _ ?_
    simp
    refine hQ _ _ _ (by simp) ?_
    have : xs = ys := by
      rw [List.take_of_length_le (by omega), List.take_of_length_le (by omega)] at heq
      exact heq
    simp [Try.f58, this]

abbrev IsLinkS := IsSl 92 Link.enc
abbrev RdLinkS := RdSl 92 Link.enc
abbrev RdLLinkS := RdSl 152 Link.enc
def LinkS.mk' (xs : List Link) (k : Int) : List Link := marked Link.mk' 4 xs.length k
def LinkS.mkN (xs : List Link) (k : Int) : Int := k + 4 * xs.length
def LinkS.hd (xs : List Link) (k : Int) : Int := heldL Link.mk' 4 xs k
theorem LinkS.hd_mk (xs : List Link) (k : Int) : LinkS.hd (LinkS.mk' xs k) k = LinkS.mkN xs k := by simp [LinkS.hd, LinkS.mk', LinkS.mkN]
theorem LinkS.mk_sz (xs : List Link) (k : Int) : (LinkS.mk' xs k).length = xs.length := by simp [LinkS.mk']
theorem LinkS.mkN_le {xs : List Link} {k : Int} (h : xs.length ≤ 1048576) : k ≤ LinkS.mkN xs k ∧ LinkS.mkN xs k ≤ k + 1000000000 := by unfold LinkS.mkN; omega

theorem shpLinkS_is {H : Heap} {k : Nat} {l : List Lf} (h : Shp Try.prog H (k + 3) 23 l) : ∃ (q : Lf) (xs : List Link), l = [q] ∧ RdLLinkS H q xs ∧ xs.length ≤ maxLen := by
  obtain ⟨xs, a, rfl, hs, hl, -⟩ := h.sl (f := Link.enc) (R := fun _ => True) Try.underlying23 fun row hr => let ⟨x, hx⟩ := shpLink hr; ⟨x, hx, trivial⟩
  exact ⟨_, xs, rfl, ⟨a, rfl, hs⟩, hl⟩

theorem toLinkS_is {H : Heap} {q : Lf} {xs : List Link} (h : RdLLinkS H q xs) (hn : xs.length ≤ 1048576) : Runs env 52 [.w (.lf q)] H fun v H' => ∃ q' fp, v = .w (.lf q') ∧ IsLinkS H' q' xs fp ∧ Fresh H H' fp := by
  obtain ⟨a, rfl, h⟩ := h
  exact .of (toLinkS H a xs h hn) ⟨_, _, rfl, ⟨_, rfl, Own.of (by simp)⟩, Fresh.app _ _ (by simp)⟩

theorem eqLinkS_is {H : Heap} {q r : Lf} {xs ys : List Link} (h : RdLinkS H q xs) (h2 : RdLinkS H r ys) (hn : xs.length ≤ 1048576) : run env 58 [.w (.lf q), .w (.lf r)] H = some (.bool (decide (xs = ys)), H) := by
  obtain ⟨a, rfl, h⟩ := h
  obtain ⟨b, rfl, h2⟩ := h2
  exact eqLinkS H a b xs ys h h2 hn

structure Bridge where
  id : Int
  ports : List Port
  deriving DecidableEq, Inhabited
def Bridge.enc (b : Bridge) (a : Option (Nat × Nat)) : List Lf := [.i .i64 b.id, .sl a b.ports.length]
@[simp] theorem Bridge.enc_len (b : Bridge) (a : Option (Nat × Nat)) : (b.enc a).length = 2 := rfl
@[simp] theorem Bridge.enc_take (b : Bridge) (a : Option (Nat × Nat)) : List.take 2 (b.enc a) = b.enc a := rfl

theorem szBridge (H : Heap) (a : Option (Nat × Nat)) (b : Bridge) (left : Int) (h1 : 0 ≤ left) (h2 : left ≤ 1048576) (h3 : b.ports.length ≤ maxLen) :
    run env 109 [.agg (b.enc a), .int left] H = some (.int (if left < b.ports.length then -1 else left - b.ports.length), H) := by
  have e := fun H => szPortS H a b.ports.length left h1 h2 h3
  refine run_walk ok109 Try.func109 rfl (by simp [Try.f109]) fun Q hQ => ?_
  simp only [Try.f109, strip, stripL, stripI, stripG, chkT, tagsB, tagsL, tagD, addT, tagA, lookN, tagOp, elmT, ty22, ty23, ty28, ty29, ty37, ty38, ty39, ty40, ty41, ty50, ty51, ty52, ty53, ty72, ty81, ty141, ty189, Nat.reduceEqDiff, if_false, reduceIte, Option.getD_some, Option.getD_none, dstAt, dstOk, Nat.reduceLT, decide_true, if_true]
  simp [Bridge.enc, e]
  repeat' (first | (refine gdL_t (fun h => ?_) (fun h => ?_) <;> simp [h]) | (refine gdL_f (fun h => ?_) (fun h => ?_) <;> simp [h]) | (refine selS_intro (fun h => ?_) (fun h => ?_) <;> simp [h]))
  all_goals (refine hQ _ _ _ (by simp) ?_)
  all_goals (clear hQ; simp_all [Try.f109] <;> omega)

theorem toBridge (H : Heap) (a : Option (Nat × Nat)) (b : Bridge) (h : Sl H 205 a (b.ports.map Port.enc)) (hn : b.ports.length ≤ 1048576) :
    Runs env 114 [.agg (b.enc a)] H fun v H' => ∃ a' fp, v = .agg (b.enc a') ∧ Own H' 148 a' (b.ports.map Port.enc) fp ∧ Fresh H H' fp := by
  have e := fun H h => toPortS H a b.ports h hn
  refine Runs.walk ok114 Try.func114 rfl (by simp [Try.f114]) fun Q hQ => ?_
  simp only [Try.f114, strip, stripL, stripI, stripG, chkT, tagsB, tagsL, tagD, addT, tagA, lookN, tagOp, elmT, ty22, ty23, ty28, ty29, ty37, ty38, ty39, ty40, ty41, ty50, ty51, ty52, ty53, ty72, ty81, ty141, ty189, Nat.reduceEqDiff, if_false, reduceIte, Option.getD_some, Option.getD_none, dstAt, dstOk, Nat.reduceLT, decide_true, if_true]
  simp [Bridge.enc]
  rw [e _ (by simpa using h.app _)]
  simp
  refine hQ _ _ _ (by simp) ?_
  simp [Try.f114, leave, refFree, Bridge.enc]
  exact ⟨_, Own.of (by simp), Fresh.app _ _ (by simp)⟩

theorem eqBridge (H : Heap) (a b : Option (Nat × Nat)) (m n : Bridge) (ha : Sl H 148 a (m.ports.map Port.enc)) (hb : Sl H 148 b (n.ports.map Port.enc)) (hn : m.ports.length ≤ 1048576) :
    run env 44 [.agg (m.enc a), .agg (n.enc b)] H = some (.bool (decide (m = n)), H) := by
  have e := fun G => eqPortS (H ++ G) a b m.ports n.ports (ha.app _) (hb.app _) hn
  obtain ⟨a1, a2⟩ := m
  obtain ⟨b1, b2⟩ := n
  simp only at e
  refine run_walk ok44 Try.func44 rfl (by simp [Try.f44]) fun Q hQ => ?_
  simp only [Try.f44, strip, stripL, stripI, stripG, chkT, tagsB, tagsL, tagD, addT, tagA, lookN, tagOp, elmT, ty22, ty23, ty28, ty29, ty37, ty38, ty39, ty40, ty41, ty50, ty51, ty52, ty53, ty72, ty81, ty141, ty189, Nat.reduceEqDiff, if_false, reduceIte, Option.getD_some, Option.getD_none, dstAt, dstOk, Nat.reduceLT, decide_true, if_true]
  simp [Bridge.enc]
  repeat' (first | (refine gdL_t (fun h => ?_) (fun h => ?_) <;> simp [h, e]) | (refine gdL_f (fun h => ?_) (fun h => ?_) <;> simp [h, e]) | (refine selS_intro (fun h => ?_) (fun h => ?_) <;> simp [h, e]))
  all_goals (refine hQ _ _ _ (by simp) ?_)
  all_goals (clear hQ; simp_all [Try.f44])

theorem shpBridge {H : Heap} {k : Nat} {l : List Lf} (h : Shp Try.prog H (k + 5) 143 l) : ∃ (b : Bridge) (a : Option (Nat × Nat)), l = b.enc a ∧ Sl H 205 a (b.ports.map Port.enc) ∧ b.ports.length ≤ maxLen := by
  obtain ⟨_, _, rfl, h1, _, _, rfl, h2, rfl⟩ := h.struct Try.underlying143
  obtain ⟨x1, rfl, -⟩ := h1.i64 Try.underlying3
  obtain ⟨xs, a, rfl, hs, hl, -⟩ := h2.sl (f := Port.enc) (R := fun _ => True) Try.underlying141 fun row hr => let ⟨x, hx⟩ := shpPort hr; ⟨x, hx, trivial⟩
  exact ⟨⟨x1, xs⟩, a, rfl, hs, hl⟩

def Vec.ok (v : Vec) : Bool := (decide (1 ≤ v.root) && decide (v.root ≤ 9)) && (decide (1 ≤ v.bridge) && decide (v.bridge ≤ 9)) && decide (v.root ≤ v.bridge) && (decide (0 ≤ v.cost) && decide (v.cost ≤ 20)) && (decide (v.cost = 0) == decide (v.root = v.bridge)) && (decide (0 ≤ v.port) && decide (v.port ≤ 3))

theorem implVecOk (H : Heap) (v : Vec) : run env 172 [.agg v.enc] H = some (.bool v.ok, H) := by
  obtain ⟨a1, a2, a3, a4⟩ := v
  refine run_walk ok172 Try.func172 rfl (by simp [Try.f172]) fun Q hQ => ?_
  simp only [Try.f172, strip, stripL, stripI, stripG, chkT, tagsB, tagsL, tagD, addT, tagA, lookN, tagOp, elmT, ty22, ty23, ty28, ty29, ty37, ty38, ty39, ty40, ty41, ty50, ty51, ty52, ty53, ty72, ty81, ty141, ty189, Nat.reduceEqDiff, if_false, reduceIte, Option.getD_some, Option.getD_none, dstAt, dstOk, Nat.reduceLT, decide_true, if_true]
  simp [Vec.enc, inRange, isPort]
  repeat' (first | (refine gdL_t (fun h => ?_) (fun h => ?_) <;> simp [h, inRange, isPort]) | (refine gdL_f (fun h => ?_) (fun h => ?_) <;> simp [h, inRange, isPort]) | (refine selS_intro (fun h => ?_) (fun h => ?_) <;> simp [h, inRange, isPort]))
  all_goals (refine hQ _ _ _ (by simp) ?_)
  all_goals (clear hQ; simp_all [Try.f172, Vec.ok])
  all_goals (first | omega | (intros; omega))

theorem specVecOk (H : Heap) (v : Vec) : run env 166 [.agg v.enc] H = some (.bool v.ok, H) := by
  obtain ⟨a1, a2, a3, a4⟩ := v
  refine run_walk ok166 Try.func166 rfl (by simp [Try.f166]) fun Q hQ => ?_
  simp only [Try.f166, strip, stripL, stripI, stripG, chkT, tagsB, tagsL, tagD, addT, tagA, lookN, tagOp, elmT, ty22, ty23, ty28, ty29, ty37, ty38, ty39, ty40, ty41, ty50, ty51, ty52, ty53, ty72, ty81, ty141, ty189, Nat.reduceEqDiff, if_false, reduceIte, Option.getD_some, Option.getD_none, dstAt, dstOk, Nat.reduceLT, decide_true, if_true]
  simp [Vec.enc, l1In]
  repeat' (first | (refine gdL_t (fun h => ?_) (fun h => ?_) <;> simp [h, l1In]) | (refine gdL_f (fun h => ?_) (fun h => ?_) <;> simp [h, l1In]) | (refine selS_intro (fun h => ?_) (fun h => ?_) <;> simp [h, l1In]))
  all_goals (refine hQ _ _ _ (by simp) ?_)
  all_goals (clear hQ; simp_all [Try.f166, Vec.ok])
  all_goals (first | omega | (intros; omega))

def IsBridge (H : Heap) (l : List Lf) (x : Bridge) (fp : List Nat) : Prop := ∃ a, l = x.enc a ∧ Own H 148 a (x.ports.map Port.enc) fp
def RdBridge (H : Heap) (l : List Lf) (x : Bridge) : Prop := ∃ a, l = x.enc a ∧ Sl H 148 a (x.ports.map Port.enc)
def RdLBridge (H : Heap) (l : List Lf) (x : Bridge) : Prop := ∃ a, l = x.enc a ∧ Sl H 205 a (x.ports.map Port.enc)
abbrev Bridge.sz (x : Bridge) : Nat := x.ports.length
def Bridge.fit (x : Bridge) : Prop := x.ports.length ≤ maxLen
section
variable {H H' : Heap} {l : List Lf} {x : Bridge} {fp : List Nat}
theorem IsBridge.keep {f : List Nat} (h : IsBridge H l x fp) (hk : Keep f H H') (hd : ∀ i ∈ fp, i ∉ f) : IsBridge H' l x fp := let ⟨a, h1, h2⟩ := h; ⟨a, h1, h2.keep hk hd⟩
theorem IsBridge.app (h : IsBridge H l x fp) (G : Heap) : IsBridge (H ++ G) l x fp := let ⟨a, h1, h2⟩ := h; ⟨a, h1, h2.app G⟩
theorem IsBridge.lt (h : IsBridge H l x fp) : ∀ i ∈ fp, i < H.length := let ⟨_, _, h2⟩ := h; h2.lt
theorem IsBridge.nodup (h : IsBridge H l x fp) : fp.Nodup := let ⟨_, _, h2⟩ := h; h2.nodup
theorem IsBridge.rd (h : IsBridge H l x fp) : RdBridge H l x := let ⟨a, h1, h2⟩ := h; ⟨a, h1, h2.sl⟩
theorem RdBridge.base (h : RdBridge H l x) (hk : Keep [] H H') : RdBridge H' l x := let ⟨a, h1, h2⟩ := h; ⟨a, h1, h2.keep hk (by simp)⟩
theorem RdBridge.app (h : RdBridge H l x) (G : Heap) : RdBridge (H ++ G) l x := h.base (Keep.app _ _ _)
theorem RdLBridge.base (h : RdLBridge H l x) (hk : Keep [] H H') : RdLBridge H' l x := let ⟨a, h1, h2⟩ := h; ⟨a, h1, h2.keep hk (by simp)⟩
theorem RdLBridge.app (h : RdLBridge H l x) (G : Heap) : RdLBridge (H ++ G) l x := h.base (Keep.app _ _ _)
theorem IsBridge.len (h : IsBridge H l x fp) : l.length = 2 := by obtain ⟨a, rfl, -⟩ := h; rfl
theorem RdLBridge.len (h : RdLBridge H l x) : l.length = 2 := by obtain ⟨a, rfl, -⟩ := h; rfl
theorem RdBridge.len (h : RdBridge H l x) : l.length = 2 := by obtain ⟨a, rfl, -⟩ := h; rfl
theorem IsBridge.free (h : IsBridge H' l x fp) (hr : l.all refFree = true) (H2 : Heap) : IsBridge H2 l x [] := by
  obtain ⟨a, rfl, h2⟩ := h
  exact ⟨a, rfl, h2.free (n := x.ports.length) (by simp [Bridge.enc] at hr; exact hr) H2⟩
theorem IsBridge.leave {ws : List W} (h : IsBridge H' l x fp) (hf : Fresh H H' fp) (hw : ws.all W.free = true → l.all refFree = true) : ∃ fp', IsBridge (leave H H' ws) l x fp' ∧ Fresh H (leave H H' ws) fp' := by
  rcases leave_opt H H' ws with e | ⟨e, hr⟩ <;> rw [e]
  · exact ⟨fp, h, hf⟩
  · exact ⟨[], h.free (hw hr) H, Fresh.refl H⟩
end

theorem szBridge_is {H : Heap} {l : List Lf} {x : Bridge} (h : RdLBridge H l x) (hf : x.fit) {left : Int} (h1 : 0 ≤ left) (h2 : left ≤ 1048576) (G : Heap) :
    run env 109 [.agg l, .int left] (H ++ G) = some (.int (if left < x.sz then -1 else left - x.sz), H ++ G) := by
  obtain ⟨a, rfl, h⟩ := h
  exact szBridge _ a x left h1 h2 hf

theorem toBridge_is {H : Heap} {l : List Lf} {x : Bridge} (h : RdLBridge H l x) (hn : x.sz ≤ 1048576) : Runs env 114 [.agg l] H fun v H' => ∃ l' fp, v = .agg l' ∧ IsBridge H' l' x fp ∧ Fresh H H' fp := by
  obtain ⟨a, rfl, h⟩ := h
  exact (toBridge H a x h hn).mono fun v H' ⟨a', fp, h1, h2, h3⟩ => ⟨_, fp, h1, ⟨a', rfl, h2⟩, h3⟩

theorem eqBridge_is {H : Heap} {l r : List Lf} {x y : Bridge} (h : RdBridge H l x) (h2 : RdBridge H r y) (hn : x.sz ≤ 1048576) : run env 44 [.agg l, .agg r] H = some (.bool (decide (x = y)), H) := by
  obtain ⟨a, rfl, h⟩ := h
  obtain ⟨b, rfl, h2⟩ := h2
  exact eqBridge H a b x y h h2 hn

theorem shpBridge_is {H : Heap} {k : Nat} {l : List Lf} (h : Shp Try.prog H (k + 5) 143 l) : ∃ x : Bridge, RdLBridge H l x ∧ x.fit := by
  obtain ⟨x, a, rfl, hs, hl⟩ := shpBridge h
  exact ⟨x, ⟨a, rfl, hs⟩, hl⟩

theorem okBridge : RepOk IsBridge := ⟨fun h hk hd => h.keep hk hd, fun h => h.lt, fun h => h.nodup⟩
theorem unBridge : UnOk IsBridge := fun ⟨a, h1, h2⟩ hf => ⟨a, h1, h2.unapp hf⟩
abbrev IsBridgeS := IsL 74 IsBridge
abbrev RdBridgeS := RdL 74 RdBridge
abbrev RdLBridgeS := RdL 143 RdLBridge
def BridgeS.sz (xs : List Bridge) : Nat := xs.length + (xs.map Bridge.sz).sum
theorem BridgeS.sz_len (xs : List Bridge) : xs.length ≤ BridgeS.sz xs := by unfold BridgeS.sz; omega
theorem BridgeS.sz_at {xs : List Bridge} {x : Bridge} (h : x ∈ xs) : x.sz ≤ BridgeS.sz xs := by
  have key : ∀ {ys : List Bridge}, x ∈ ys → x.sz ≤ (ys.map Bridge.sz).sum := by
    intro ys hy
    induction ys with
    | nil => simp at hy
    | cons y ys ih =>
      simp only [List.map_cons, List.sum_cons]
      rcases List.mem_cons.1 hy with rfl | hy
      · omega
      · have := ih hy; omega
  have := key h
  unfold BridgeS.sz
  omega
def BridgeS.ps (xs : List Bridge) (i : Nat) : Nat := ((xs.take i).map Bridge.sz).sum
theorem BridgeS.ps_zero (xs : List Bridge) : BridgeS.ps xs 0 = 0 := by simp [BridgeS.ps]
theorem BridgeS.ps_succ (xs : List Bridge) {i : Nat} (h : i < xs.length) : BridgeS.ps xs (i + 1) = BridgeS.ps xs i + xs[i].sz := by
  unfold BridgeS.ps
  rw [List.take_add_one, List.getElem?_eq_getElem h, List.map_append, List.sum_append]
  simp
theorem BridgeS.ps_le (xs : List Bridge) (i : Nat) : xs.length + BridgeS.ps xs i ≤ BridgeS.sz xs := by
  have := congrArg (fun l => (l.map Bridge.sz).sum) (List.take_append_drop i xs)
  simp only [List.map_append, List.sum_append] at this
  unfold BridgeS.ps BridgeS.sz
  omega
theorem BridgeS.ps_len (xs : List Bridge) : xs.length + BridgeS.ps xs xs.length = BridgeS.sz xs := by unfold BridgeS.ps BridgeS.sz; rw [List.take_length]
def BridgeS.fit (xs : List Bridge) : Prop := xs.length ≤ maxLen ∧ ∀ x ∈ xs, x.fit
theorem RdBridgeS_base {H H' : Heap} {q : Lf} {xs : List Bridge} (h : RdBridgeS H q xs) (hk : Keep [] H H') : RdBridgeS H' q xs := RdL.base h (fun h hk => h.base hk) hk
theorem RdLBridgeS_base {H H' : Heap} {q : Lf} {xs : List Bridge} (h : RdLBridgeS H q xs) (hk : Keep [] H H') : RdLBridgeS H' q xs := RdL.base h (fun h hk => h.base hk) hk
theorem IsBridgeS_rd {H : Heap} {q : Lf} {xs : List Bridge} {fp : List Nat} (h : IsBridgeS H q xs fp) : RdBridgeS H q xs := IsL.rd h fun h => h.rd

theorem toBridgeS_is {H : Heap} {q : Lf} {xs : List Bridge} (h : RdLBridgeS H q xs) (hn : BridgeS.sz xs ≤ 1048576) :
    Runs env 51 [.w (.lf q)] H fun v H' => ∃ q' fp, v = .w (.lf q') ∧ IsBridgeS H' q' xs fp ∧ Fresh H H' fp := by
  have hR := h
  obtain ⟨a, rws, rfl, hs, hlen, hat⟩ := h
  have hl := BridgeS.sz_len xs
  refine Runs.walk ok51 Try.func51 rfl (by simp [Try.f51]) fun Q hQ => ?_
  simp only [Try.f51, strip, stripL, stripI, stripG, chkT, tagsB, tagsL, tagD, addT, tagA, lookN, tagOp, elmT, ty22, ty23, ty28, ty29, ty37, ty38, ty39, ty40, ty41, ty50, ty51, ty52, ty53, ty72, ty81, ty141, ty189, Nat.reduceEqDiff, if_false, reduceIte, Option.getD_some, Option.getD_none, dstAt, dstOk, Nat.reduceLT, decide_true, if_true]
  have k1 : (xs.length : Int) * 32 ≤ 281474976710656 := by omega
  have k2 : (xs.length : Int) ≤ 9223372036854775807 := by omega
  simp [builtinV, pureB, lenV, makeSliceV, makeSliceR, newBlk, k1, k2]
  obtain ⟨z, hz⟩ : ∃ z, z = ([.i .i64 0, .sl none 0] : List Lf) := ⟨_, rfl⟩
  refine wpS_loop (fun j tm H' => ∃ i rows fps, i + j = xs.length ∧ tm 0 = .w (.lf (.sl a xs.length)) ∧ tm 3 = .sl H.length 0 xs.length ∧ tm 4 = .int i ∧ blkAt H' H.length = some ⟨74, .wr, rows ++ List.replicate j z⟩ ∧ Part IsBridge H' rows (xs.take i) fps ∧ (∀ k ∈ fps.flatten, H.length < k) ∧ Keep [] H H') xs.length (by rw [env_K]; omega)
    ⟨0, [], [], by simp, by simp, by simp, by simp, by simp [hz], Part.nil _ _, by simp, Keep.app _ _ _⟩ ?_
  rintro j tm H' hj ⟨i, rows, fps, hij, t0, t3, t4, hb, hp, hlo, hk⟩ Q' hn' he' hr'
  simp [t0, t3, t4, builtinV, pureB, lenV]
  refine selS_intro (fun hc => ?_) (fun hc => ?_)
  · simp at hc
    obtain ⟨j, rfl⟩ : ∃ j', j = j' + 1 := ⟨j - 1, by omega⟩
    have hri : i < rws.length := by omega
    obtain ⟨id, r, bl, rfl, hbl, hbe, hrow⟩ := hs i _ (List.getElem?_eq_getElem hri)
    have he := hat i _ _ (List.getElem?_eq_getElem hri) (List.getElem?_eq_getElem hc)
    have hL := he.len
    have hT : rws[i].take rws[i].length = rws[i] := List.take_length
    rw [hL] at hT
    have hbl' := hk.blk hbl (by simp)
    have hbH := blkAt_len hb
    have g4 : IntKind.i64.wrap ((i : Int) + 1) = (i : Int) + 1 := wrap64 (by omega) (by omega)
    simp [t0, t3, t4, indexAddrV, elemIs, hbl', hbe, hc, hrow, hL, hT]
    have hsz := BridgeS.sz_at (List.getElem_mem hc)
    refine stpL_runs (toBridge_is (he.base hk) (by omega)) ?_
    rintro _ H2 ⟨l2, f2, rfl, o2, fr2⟩
    have hb2 := fr2.kp.blk hb (by simp)
    have hb2L := blkAt_len hb2
    have hl2 := o2.len
    have hrl : rows.length = i := by rw [hp.len]; simp; omega
    have hget : (rows ++ List.replicate (j + 1) z)[i]? = some z := by
      rw [List.getElem?_append_right (by omega), hrl]; simp
    have hset : (rows ++ List.replicate (j + 1) z).set i l2 = (rows ++ [l2]) ++ List.replicate j z := by
      rw [List.set_append_right _ _ (by omega), hrl]; simp [List.replicate_succ]
    have hzl : z.length = 2 := by rw [hz]; rfl
    have hdrop : z.drop 2 = [] := by rw [hz]; rfl
    simp [t0, t3, t4, indexAddrV, hb2, hb2L, hget, hl2, hzl, hdrop, hset, hc, elemIs, g4]
    refine hn' j _ _ (by omega) ⟨i + 1, rows ++ [l2], fps ++ [f2], by omega, by simp [t0], by simp [t3], by simp, ?_, ?_, ?_, ?_⟩
    · rw [blkAt_set hb2L]; simp
    · have hd := hp.lt okBridge
      have h1 := (hp.keep okBridge fr2.kp (by simp)).snoc (x := xs[i]) okBridge o2 (fun k hk' hk2 => by have := hd k hk2; have := fr2.2 k hk'; omega)
      have h2 := h1.keep okBridge (Keep.set (id := H.length) H2 (some ⟨74, .wr, (rows ++ [l2]) ++ List.replicate j z⟩)) (fun k hk' => by
        simp at hk'
        rcases hk' with ⟨g, hg, hkg⟩ | hk'
        · have := hlo k (List.mem_flatten.2 ⟨g, hg, hkg⟩); simp; omega
        · have := fr2.2 k hk'; simp; omega)
      rw [List.take_add_one, List.getElem?_eq_getElem hc]
      simpa using h2
    · intro k hk'
      simp at hk'
      rcases hk' with ⟨g, hg, hkg⟩ | hk'
      · exact hlo k (List.mem_flatten.2 ⟨g, hg, hkg⟩)
      · have := fr2.2 k hk'; omega
    · exact (hk.next fr2.kp (by simp)).next (Keep.set _ _) (by simp)
  · simp at hc
    have hj0 : j = 0 := by omega
    subst hj0
    simp [t0, t3, t4]
    refine he' _ _ _ ?_
    simp [t3]
    refine hQ _ _ _ (by simp) ?_
    have hi : i = xs.length := by omega
    subst hi
    rw [List.take_length] at hp
    simp [Try.f51]
    have ho : IsBridgeS H' (.sl (some (H.length, 0)) xs.length) xs ([H.length] ++ fps.flatten) := ⟨_, rows, [H.length], fps, rfl, Own.of (by simpa using hb), hp, rfl, by
      simp only [List.singleton_append, List.nodup_cons]
      exact ⟨fun hm => by have := hlo _ hm; omega, hp.nodup⟩⟩
    have hf : Fresh H H' ([H.length] ++ fps.flatten) := ⟨hk.ext, fun k hk' => by
      simp only [List.singleton_append, List.mem_cons] at hk'
      rcases hk' with rfl | hk'
      · exact Nat.le_refl _
      · have := hlo k hk'; omega⟩
    rcases leave_opt H H' [W.lf (Lf.sl (some (H.length, 0)) xs.length)] with e | ⟨e, hr⟩
    · rw [e]; exact ⟨_, ho, hf⟩
    · simp [refFree] at hr

theorem szBridgeS_is {H : Heap} {q : Lf} {xs : List Bridge} (h : RdLBridgeS H q xs) (hf : BridgeS.fit xs) {left : Int} (h1 : 0 ≤ left) (h2 : left ≤ 1048576) :
    run env 47 [.w (.lf q), .int left] H = some (.int (if left < BridgeS.sz xs then -1 else left - BridgeS.sz xs), H) := by
  obtain ⟨a, rws, rfl, hs, hlen, hat⟩ := h
  have hm : (xs.length : Int) ≤ 9223372036854775807 := by have := hf.1; unfold maxLen at this; omega
  have hS := BridgeS.ps_le xs
  refine run_walk ok47 Try.func47 rfl (by simp [Try.f47]) fun Q hQ => ?_
  simp only [Try.f47, strip, stripL, stripI, stripG, chkT, tagsB, tagsL, tagD, addT, tagA, lookN, tagOp, elmT, ty22, ty23, ty28, ty29, ty37, ty38, ty39, ty40, ty41, ty50, ty51, ty52, ty53, ty72, ty81, ty141, ty189, Nat.reduceEqDiff, if_false, reduceIte, Option.getD_some, Option.getD_none, dstAt, dstOk, Nat.reduceLT, decide_true, if_true]
  have g : IntKind.i64.wrap (left - xs.length) = left - xs.length := wrap64 (by omega) (by omega)
  simp [builtinV, pureB, lenV, g]
  refine selS_intro (fun hc => ?_) (fun hc => ?_)
  · simp at hc
    simp
    refine hQ _ _ _ (by simp) ?_
    simp [Try.f47, BridgeS.sz]
    omega
  simp at hc
  simp
  refine wpS_loop (fun j tm H' => ∃ i, i + j = xs.length ∧ tm 0 = .w (.lf (.sl a xs.length)) ∧ tm 1 = .int (left - xs.length - BridgeS.ps xs i) ∧ tm 5 = .int i ∧ H' = H ∧ 0 ≤ left - xs.length - BridgeS.ps xs i) xs.length (by rw [env_K]; omega)
    ⟨0, by simp, by simp, by simp [BridgeS.ps_zero], by simp, rfl, by rw [BridgeS.ps_zero]; omega⟩ ?_
  rintro j tm H' hj ⟨i, hij, t0, t1, t5, rfl, hpos⟩ Q' hn' he' hr'
  simp [t0, t1, t5, builtinV, pureB, lenV]
  refine selS_intro (fun hc => ?_) (fun hc => ?_)
  · simp at hc
    have hri : i < rws.length := by omega
    obtain ⟨id, r, bl, rfl, hbl, hbe, hrow⟩ := hs i _ (List.getElem?_eq_getElem hri)
    have he := hat i _ _ (List.getElem?_eq_getElem hri) (List.getElem?_eq_getElem hc)
    have hL := he.len
    have hT : rws[i].take rws[i].length = rws[i] := List.take_length
    rw [hL] at hT
    have g4 : IntKind.i64.wrap ((i : Int) + 1) = (i : Int) + 1 := wrap64 (by omega) (by omega)
    have es := szBridge_is he (hf.2 _ (List.getElem_mem hc)) hpos (by omega) []
    simp only [List.append_nil] at es
    have hS1 := BridgeS.ps_succ xs hc
    have hS2 := hS (i + 1)
    simp [t0, t1, t5, indexAddrV, elemIs, hbl, hbe, hc, hrow, hL, hT, es]
    by_cases hb : left - (xs.length : Int) - (BridgeS.ps xs i : Int) < (xs[i].sz : Int)
    · simp [hb]
      refine hr' _ _ ?_
      simp
      refine hQ _ _ _ (by simp) ?_
      simp [Try.f47]
      omega
    · have hz : ¬ (left - (xs.length : Int) - (BridgeS.ps xs i : Int) - (xs[i].sz : Int) < 0) := by omega
      simp [hb, hz, t0, t1, t5, g4]
      exact hn' (j - 1) _ _ (by omega) ⟨i + 1, by omega, by simp [t0], by simp [hS1]; omega, by simp, rfl, by omega⟩
  · simp at hc
    simp [t0, t1, t5]
    refine he' _ _ _ ?_
    simp [t1]
    refine hQ _ _ _ (by simp) ?_
    have hi : i = xs.length := by omega
    subst hi
    have hp := BridgeS.ps_len xs
    simp [Try.f47]
    rw [if_neg (by omega)]
    omega

theorem shpBridgeS_is {H : Heap} {k : Nat} {l : List Lf} (h : Shp Try.prog H (k + 6) 22 l) : ∃ (q : Lf) (xs : List Bridge), l = [q] ∧ RdLBridgeS H q xs ∧ BridgeS.fit xs := by
  rcases h.slice Try.underlying22 with rfl | ⟨id, b, rfl, hb, he, hm, hrows⟩
  · exact ⟨_, [], rfl, ⟨none, [], rfl, Sl.nil _ _ _, rfl, by simp⟩, by simp [BridgeS.fit]⟩
  · have key : ∀ rows : List (List Lf), (∀ row ∈ rows, Shp Try.prog H (k + 5) 143 row) → ∃ xs : List Bridge, rows.length = xs.length ∧ (∀ (i : Nat) (row : List Lf) (x : Bridge), rows[i]? = some row → xs[i]? = some x → RdLBridge H row x) ∧ ∀ x ∈ xs, x.fit := by
      intro rows
      induction rows with
      | nil => intro _; exact ⟨[], rfl, by simp, by simp⟩
      | cons row rows ih =>
        intro hr
        obtain ⟨x, h1, h2⟩ := shpBridge_is (hr row (by simp))
        obtain ⟨xs, h3, h4, h5⟩ := ih fun r hr' => hr r (by simp [hr'])
        refine ⟨x :: xs, by simp [h3], fun i row' x' a1 a2 => ?_, ?_⟩
        · cases i with
          | zero => simp at a1 a2; subst a1; subst a2; exact h1
          | succ i => exact h4 i row' x' (by simpa using a1) (by simpa using a2)
        · intro y hy
          rcases List.mem_cons.1 hy with rfl | hy
          · exact h2
          · exact h5 y hy
    obtain ⟨xs, h1, h2, h3⟩ := key b.rows hrows
    refine ⟨_, xs, rfl, ⟨some (id, 0), b.rows, by rw [h1], fun i row hi => ⟨id, 0, b, rfl, hb, he, by simpa using hi⟩, h1, h2⟩, by rw [← h1]; exact hm, h3⟩

theorem eqBridgeS_is {H : Heap} {q r : Lf} {xs ys : List Bridge} (h : RdBridgeS H q xs) (h2 : RdBridgeS H r ys) (hn : BridgeS.sz xs ≤ 1048576) : run env 57 [.w (.lf q), .w (.lf r)] H = some (.bool (decide (xs = ys)), H) := by
  obtain ⟨a, rws, rfl, hs, hlen, hat⟩ := h
  obtain ⟨b, rws2, rfl, hs2, hlen2, hat2⟩ := h2
  have hl := BridgeS.sz_len xs
  refine run_walk ok57 Try.func57 rfl (by simp [Try.f57]) fun Q hQ => ?_
  simp only [Try.f57, strip, stripL, stripI, stripG, chkT, tagsB, tagsL, tagD, addT, tagA, lookN, tagOp, elmT, ty22, ty23, ty28, ty29, ty37, ty38, ty39, ty40, ty41, ty50, ty51, ty52, ty53, ty72, ty81, ty141, ty189, Nat.reduceEqDiff, if_false, reduceIte, Option.getD_some, Option.getD_none, dstAt, dstOk, Nat.reduceLT, decide_true, if_true]
  simp [builtinV, pureB, lenV]
  refine selS_intro (fun hl => ?_) (fun hl => ?_)
  · simp
    refine hQ _ _ _ (by simp) ?_
    simp at hl
    have : ¬ xs = ys := fun h => hl (by rw [h])
    simp [Try.f57, this]
  simp at hl
  simp
  refine wpS_loop (fun j tm H' => ∃ i, i + j = xs.length ∧ tm 0 = .w (.lf (.sl a xs.length)) ∧ tm 1 = .w (.lf (.sl b ys.length)) ∧ tm 5 = .int i ∧ H' = H ∧ xs.take i = ys.take i) xs.length (by rw [env_K]; omega) ⟨0, by simp, by simp, by simp, by simp, rfl, by simp⟩ ?_
  rintro j tm H' hj ⟨i, hij, h0, h1, h5, rfl, heq⟩ Q' hn' he' hr'
  simp [h0, h1, h5, builtinV, pureB, lenV]
  refine selS_intro (fun hc => ?_) (fun hc => ?_)
  · simp at hc
    have hc2 : i < ys.length := by omega
    have hri : i < rws.length := by omega
    have hri2 : i < rws2.length := by omega
    obtain ⟨id, r, bl, rfl, hbl, hbe, hrow⟩ := hs i _ (List.getElem?_eq_getElem hri)
    obtain ⟨id2, r2, bl2, rfl, hbl2, hbe2, hrow2⟩ := hs2 i _ (List.getElem?_eq_getElem hri2)
    have he := hat i _ _ (List.getElem?_eq_getElem hri) (List.getElem?_eq_getElem hc)
    have he2 := hat2 i _ _ (List.getElem?_eq_getElem hri2) (List.getElem?_eq_getElem hc2)
    have hL := he.len
    have hT : rws[i].take rws[i].length = rws[i] := List.take_length
    rw [hL] at hT
    have hL2 := he2.len
    have hT2 : rws2[i].take rws2[i].length = rws2[i] := List.take_length
    rw [hL2] at hT2
    have g4 : IntKind.i64.wrap ((i : Int) + 1) = (i : Int) + 1 := wrap64 (by omega) (by omega)
    have hsz := BridgeS.sz_at (List.getElem_mem hc)
    have ee := eqBridge_is he he2 (by omega)
    simp [h0, h1, h5, indexAddrV, elemIs, hbl, hbe, hbl2, hbe2, hc, hc2, hrow, hrow2, hL, hT, hL2, hT2, ee]
    refine selS_intro (fun hd => ?_) (fun hd => ?_)
    · simp
      refine hr' _ _ ?_
      simp
      refine hQ _ _ _ (by simp) ?_
      simp at hd
      have : ¬ xs = ys := fun h => by subst h; simp at hd
      simp [Try.f57, this]
    · simp at hd
      simp [h0, h1, h5, g4]
      exact hn' (j - 1) _ _ (by omega) ⟨i + 1, by omega, by simp [h0], by simp [h1], by simp, rfl, by rw [List.take_add_one, List.take_add_one, heq]; simp [hc, hc2, hd]⟩
  · simp at hc
    simp [h0, h1, h5]
    refine he' _ _ _ ?_
    simp
    refine hQ _ _ _ (by simp) ?_
    have : xs = ys := by
      rw [List.take_of_length_le (by omega), List.take_of_length_le (by omega)] at heq
      exact heq
    simp [Try.f57, this]

structure Net where
  bridges : List Bridge
  links : List Link
  deriving DecidableEq, Inhabited
def Net.enc (x : Net) (q0 q1 : Lf) : List Lf := [q0, q1]
@[simp] theorem Net.enc_len (x : Net) (q0 q1 : Lf) : (x.enc q0 q1).length = 2 := rfl
@[simp] theorem Net.enc_take (x : Net) (q0 q1 : Lf) : List.take 2 (x.enc q0 q1) = x.enc q0 q1 := rfl

def IsNet (H : Heap) (l : List Lf) (x : Net) (fp : List Nat) : Prop := ∃ q0 q1 f0 f1, l = x.enc q0 q1 ∧ IsBridgeS H q0 x.bridges f0 ∧ IsLinkS H q1 x.links f1 ∧ fp = f0 ++ (f1) ∧ fp.Nodup
def RdNet (H : Heap) (l : List Lf) (x : Net) : Prop := ∃ q0 q1, l = x.enc q0 q1 ∧ RdBridgeS H q0 x.bridges ∧ RdLinkS H q1 x.links
def RdLNet (H : Heap) (l : List Lf) (x : Net) : Prop := ∃ q0 q1, l = x.enc q0 q1 ∧ RdLBridgeS H q0 x.bridges ∧ RdLLinkS H q1 x.links
def Net.sz (x : Net) : Nat := BridgeS.sz x.bridges + x.links.length
def Net.fit (x : Net) : Prop := BridgeS.fit x.bridges ∧ x.links.length ≤ maxLen
section
variable {H H' : Heap} {l : List Lf} {x : Net} {fp : List Nat}
theorem IsNet.keep {f : List Nat} (h : IsNet H l x fp) (hk : Keep f H H') (hd : ∀ i ∈ fp, i ∉ f) : IsNet H' l x fp := by
  obtain ⟨q0, q1, f0, f1, rfl, h0, h1, rfl, hnd⟩ := h
  exact ⟨q0, q1, f0, f1, rfl, h0.keep okBridge hk (fun i hi => hd i (by simp [hi])), h1.keep hk (fun i hi => hd i (by simp [hi])), rfl, hnd⟩
theorem IsNet.app (h : IsNet H l x fp) (G : Heap) : IsNet (H ++ G) l x fp := h.keep (Keep.app [] H G) (by simp)
theorem IsNet.lt (h : IsNet H l x fp) : ∀ i ∈ fp, i < H.length := by
  obtain ⟨q0, q1, f0, f1, rfl, h0, h1, rfl, hnd⟩ := h
  intro i hi
  simp at hi
  rcases hi with hi | hi
  · exact h0.lt okBridge i hi
  · exact h1.lt i hi
theorem IsNet.nodup (h : IsNet H l x fp) : fp.Nodup := by
  obtain ⟨q0, q1, f0, f1, rfl, h0, h1, rfl, hnd⟩ := h
  exact hnd
theorem IsNet.rd (h : IsNet H l x fp) : RdNet H l x := by
  obtain ⟨q0, q1, f0, f1, rfl, h0, h1, rfl, hnd⟩ := h
  exact ⟨q0, q1, rfl, IsBridgeS_rd h0, h1.rd⟩
theorem RdNet.base (h : RdNet H l x) (hk : Keep [] H H') : RdNet H' l x := by
  obtain ⟨q0, q1, rfl, h0, h1⟩ := h
  exact ⟨q0, q1, rfl, RdBridgeS_base h0 hk, h1.base hk⟩
theorem RdNet.app (h : RdNet H l x) (G : Heap) : RdNet (H ++ G) l x := h.base (Keep.app _ _ _)
theorem RdNet.len (h : RdNet H l x) : l.length = 2 := by
  obtain ⟨q0, q1, rfl, h0, h1⟩ := h
  rfl
theorem RdLNet.base (h : RdLNet H l x) (hk : Keep [] H H') : RdLNet H' l x := by
  obtain ⟨q0, q1, rfl, h0, h1⟩ := h
  exact ⟨q0, q1, rfl, RdLBridgeS_base h0 hk, h1.base hk⟩
theorem RdLNet.app (h : RdLNet H l x) (G : Heap) : RdLNet (H ++ G) l x := h.base (Keep.app _ _ _)
theorem RdLNet.len (h : RdLNet H l x) : l.length = 2 := by
  obtain ⟨q0, q1, rfl, h0, h1⟩ := h
  rfl
theorem IsNet.len (h : IsNet H l x fp) : l.length = 2 := by
  obtain ⟨q0, q1, f0, f1, rfl, h0, h1, rfl, hnd⟩ := h
  rfl
theorem IsNet.free (h : IsNet H' l x fp) (hr : l.all refFree = true) (H2 : Heap) : IsNet H2 l x [] := by
  obtain ⟨q0, q1, f0, f1, rfl, h0, h1, rfl, hnd⟩ := h
  simp [Net.enc] at hr
  have a0 : IsBridgeS H2 q0 x.bridges [] := by
    obtain ⟨e1, e2⟩ := h0.empty hr.1
    rw [e1, e2]
    exact IsL.emp _ _ _
  have a1 : IsLinkS H2 q1 x.links [] := h1.free hr.2 H2
  exact ⟨q0, q1, [], [], rfl, a0, a1, by simp, by simp⟩
theorem IsNet.leave {ws : List W} (h : IsNet H' l x fp) (hf : Fresh H H' fp) (hw : ws.all W.free = true → l.all refFree = true) : ∃ fp', IsNet (leave H H' ws) l x fp' ∧ Fresh H (leave H H' ws) fp' := by
  rcases leave_opt H H' ws with e | ⟨e, hr⟩ <;> rw [e]
  · exact ⟨fp, h, hf⟩
  · exact ⟨[], h.free (hw hr) H, Fresh.refl H⟩
end

theorem szNet_at {H : Heap} {l : List Lf} {x : Net} (h : RdLNet H l x) (hf : x.fit) {left : Int} (h1 : 0 ≤ left) (h2 : left ≤ 1048576) :
    run env 11 [.agg l, .int left] H = some (.int (if left < x.sz then -1 else left - x.sz), H) := by
  obtain ⟨q0, q1, rfl, r0, r1⟩ := h
  obtain ⟨t0, t1⟩ := hf
  refine run_walk ok11 Try.func11 rfl (by simp [Try.f11]) fun Q hQ => ?_
  simp only [Try.f11, strip, stripL, stripI, stripG, chkT, tagsB, tagsL, tagD, addT, tagA, lookN, tagOp, elmT, ty22, ty23, ty28, ty29, ty37, ty38, ty39, ty40, ty41, ty50, ty51, ty52, ty53, ty72, ty81, ty141, ty189, Nat.reduceEqDiff, if_false, reduceIte, Option.getD_some, Option.getD_none, dstAt, dstOk, Nat.reduceLT, decide_true, if_true]
  simp [Net.enc]
  have e0 := fun G' => szBridgeS_is (RdLBridgeS_base r0 (Keep.app [] _ G')) t0 (left := left) (by omega) (by omega)
  simp [e0]
  by_cases b0 : left < ((BridgeS.sz x.bridges : Nat) : Int)
  · simp [b0]
    refine hQ _ _ _ (by simp) ?_
    simp [Try.f11, Net.sz]
    omega
  have z0 : ¬ ((left - ((BridgeS.sz x.bridges : Nat) : Int)) < 0) := by omega
  simp [b0, z0, Net.enc]
  obtain ⟨a1, rfl, s1⟩ := r1
  have e1 := fun H => szLinkS H a1 x.links.length ((left - ((BridgeS.sz x.bridges : Nat) : Int))) (by omega) (by omega) t1
  simp [e1]
  by_cases b1 : (left - ((BridgeS.sz x.bridges : Nat) : Int)) < ((x.links.length : Nat) : Int)
  · simp [b1]
    refine hQ _ _ _ (by simp) ?_
    simp [Try.f11, Net.sz]
    omega
  have z1 : ¬ (((left - ((BridgeS.sz x.bridges : Nat) : Int)) - ((x.links.length : Nat) : Int)) < 0) := by omega
  simp [b1, z1, Net.enc]
  have hfin : ¬ (left < (x.sz : Int)) := by unfold Net.sz; omega
  refine hQ _ _ _ (by simp) ?_
  simp [Try.f11, hfin]
  unfold Net.sz
  omega
theorem szNet_is {H : Heap} {l : List Lf} {x : Net} (h : RdLNet H l x) (hf : x.fit) {left : Int} (h1 : 0 ≤ left) (h2 : left ≤ 1048576) (G : Heap) :
    run env 11 [.agg l, .int left] (H ++ G) = some (.int (if left < x.sz then -1 else left - x.sz), H ++ G) := szNet_at (h.app G) hf h1 h2

theorem toNet_is {H : Heap} {l : List Lf} {x : Net} (h : RdLNet H l x) (hn : x.sz ≤ 1048576) : Runs env 13 [.agg l] H fun v H' => ∃ l' fp, v = .agg l' ∧ IsNet H' l' x fp ∧ Fresh H H' fp := by
  obtain ⟨q0, q1, rfl, r0, r1⟩ := h
  unfold Net.sz at hn
  refine Runs.walk ok13 Try.func13 rfl (by simp [Try.f13]) fun Q hQ => ?_
  simp only [Try.f13, strip, stripL, stripI, stripG, chkT, tagsB, tagsL, tagD, addT, tagA, lookN, tagOp, elmT, ty22, ty23, ty28, ty29, ty37, ty38, ty39, ty40, ty41, ty50, ty51, ty52, ty53, ty72, ty81, ty141, ty189, Nat.reduceEqDiff, if_false, reduceIte, Option.getD_some, Option.getD_none, dstAt, dstOk, Nat.reduceLT, decide_true, if_true]
  simp [Net.enc]
  refine stpL_runs (toBridgeS_is (RdLBridgeS_base r0 (Keep.app [] H _)) (by omega)) ?_
  rintro _ _ ⟨p0, g0, rfl, o0, ⟨⟨G0, rfl⟩, hf0⟩⟩
  simp only [List.append_assoc, List.cons_append, List.nil_append] at o0
  have b0 : ∀ i ∈ g0, H.length + (3) ≤ i := fun i hi => by have := hf0 i hi; simp at this; omega
  have c0 : ∀ i ∈ g0, i < H.length + (3 + G0.length) := fun i hi => by have := o0.lt okBridge i hi; simp at this; omega
  try simp
  refine stpL_runs (toLinkS_is (r1.base (Keep.app [] H _)) (by omega)) ?_
  rintro _ _ ⟨p1, g1, rfl, o1, ⟨⟨G1, rfl⟩, hf1⟩⟩
  simp only [List.append_assoc, List.cons_append, List.nil_append] at o1
  have b1 : ∀ i ∈ g1, H.length + (3 + G0.length) ≤ i := fun i hi => by have := hf1 i hi; simp at this; omega
  have c1 : ∀ i ∈ g1, i < H.length + (3 + G0.length + G1.length) := fun i hi => by have := o1.lt i hi; simp at this; omega
  try simp
  refine hQ _ _ _ (by simp) ?_
  simp [Try.f13]
  have u0 := fun B1 B2 B3 G' (hp : G0 <+: G') => o0.keep okBridge (Keep.cutP (H := H) (L := [_, _, _]) (L' := [B1, B2, B3]) (G' := G') rfl hp) (fun i hi => by have := b0 i hi; simp; omega)
  have u1 := fun B1 B2 B3 G' (hp : G0 ++ (G1) <+: G') => o1.keep (Keep.cutP (H := H) (L := [_, _, _]) (L' := [B1, B2, B3]) (G' := G') rfl hp) (fun i hi => by have := b1 i hi; simp; omega)
  have hnd : (g0 ++ (g1) : List Nat).Nodup := by
    have n0 : g1.Nodup := o1.nodup
    have m0 : (g0 ++ g1).Nodup := nodup_app o0.nodup n0 (fun i hi hj => by
      have := c0 i hi
      try simp at hj
      rcases hj with hj
      · have := b1 i hj; omega)
    exact m0
  refine IsNet.leave (fp := g0 ++ g1) ⟨p0, p1, g0, g1, by simp [Net.enc], u0 _ _ _ _ (by simp), u1 _ _ _ _ (by simp), rfl, hnd⟩ (Fresh.app H _ fun i hi => ?_) (by simp [Net.enc])
  simp at hi
  rcases hi with hi | hi
  · have := b0 i hi; omega
  · have := b1 i hi; omega

theorem eqNet_is {H : Heap} {l r : List Lf} {x y : Net} (h : RdNet H l x) (h2 : RdNet H r y) (hn : x.sz ≤ 1048576) : run env 15 [.agg l, .agg r] H = some (.bool (decide (x = y)), H) := by
  obtain ⟨q0, q1, rfl, r0, r1⟩ := h
  obtain ⟨p0, p1, rfl, s0, s1⟩ := h2
  unfold Net.sz at hn
  have e0 := fun G => eqBridgeS_is (RdBridgeS_base r0 (Keep.app [] _ G)) (RdBridgeS_base s0 (Keep.app [] _ G)) (by omega)
  have e1 := fun G => eqLinkS_is (r1.app G) (s1.app G) (by omega)
  obtain ⟨x0, x1⟩ := x
  obtain ⟨y0, y1⟩ := y
  simp only at e0 e1
  refine run_walk ok15 Try.func15 rfl (by simp [Try.f15]) fun Q hQ => ?_
  simp only [Try.f15, strip, stripL, stripI, stripG, chkT, tagsB, tagsL, tagD, addT, tagA, lookN, tagOp, elmT, ty22, ty23, ty28, ty29, ty37, ty38, ty39, ty40, ty41, ty50, ty51, ty52, ty53, ty72, ty81, ty141, ty189, Nat.reduceEqDiff, if_false, reduceIte, Option.getD_some, Option.getD_none, dstAt, dstOk, Nat.reduceLT, decide_true, if_true]
  simp [Net.enc, e0, e1]
  repeat' (first | (refine gdL_t (fun h => ?_) (fun h => ?_) <;> simp [h, e0, e1]) | (refine gdL_f (fun h => ?_) (fun h => ?_) <;> simp [h, e0, e1]) | (refine selS_intro (fun h => ?_) (fun h => ?_) <;> simp [h, e0, e1]))
  all_goals (refine hQ _ _ _ (by simp) ?_)
  all_goals (clear hQ; simp_all [Try.f15])

theorem shpNet_is {H : Heap} {l : List Lf} (h : Shp Try.prog H 8 25 l) : ∃ x : Net, RdLNet H l x ∧ x.fit := by
  obtain ⟨_, _, rfl, h0, _, _, rfl, h1, rfl⟩ := h.struct Try.underlying25
  obtain ⟨q0, x0, rfl, r0, t0⟩ := shpBridgeS_is h0
  obtain ⟨q1, x1, rfl, r1, t1⟩ := shpLinkS_is h1
  exact ⟨⟨x0, x1⟩, ⟨q0, q1, rfl, r0, r1⟩, t0, t1⟩

def openBy (role wait : Int) : Bool := (decide (role = 1) || decide (role = 2)) && decide (wait = 0)
def Port.ok (p : Port) : Bool :=
  (if p.has then p.up && p.vec.ok && (decide (0 ≤ p.hops) && decide (p.hops ≤ 8)) && (decide (1 ≤ p.left) && decide (p.left ≤ 3)) else decide (p.vec = ⟨0, 0, 0, 0⟩) && decide (p.hops = 0) && decide (p.left = 0)) &&
  (decide (0 ≤ p.role) && decide (p.role ≤ 3)) && decide (decide (p.role = 0) = !p.up) && (decide (0 ≤ p.wait) && decide (p.wait ≤ 4)) && decide (p.opn = openBy p.role p.wait)

theorem isOpenBy (H : Heap) (p : Port) : run env 180 [.agg p.enc] H = some (.bool (openBy p.role p.wait), H) := by
  obtain ⟨a1, a2, ⟨b1, b2, b3, b4⟩, a4, a5, a6, a7, a8⟩ := p
  refine run_walk ok180 Try.func180 rfl (by simp [Try.f180]) fun Q hQ => ?_
  simp only [Try.f180, strip, stripL, stripI, stripG, chkT, tagsB, tagsL, tagD, addT, tagA, lookN, tagOp, elmT, ty22, ty23, ty28, ty29, ty37, ty38, ty39, ty40, ty41, ty50, ty51, ty52, ty53, ty72, ty81, ty141, ty189, Nat.reduceEqDiff, if_false, reduceIte, Option.getD_some, Option.getD_none, dstAt, dstOk, Nat.reduceLT, decide_true, if_true]
  simp [Port.enc]
  repeat' (first | (refine gdL_t (fun h => ?_) (fun h => ?_) <;> simp [h]) | (refine gdL_f (fun h => ?_) (fun h => ?_) <;> simp [h]) | (refine selS_intro (fun h => ?_) (fun h => ?_) <;> simp [h]))
  all_goals (refine hQ _ _ _ (by simp) ?_)
  all_goals (clear hQ; simp_all [Try.f180, openBy])

theorem implPortOk (H : Heap) (p : Port) : run env 158 [.agg p.enc] H = some (.bool p.ok, H) := by
  obtain ⟨a1, a2, ⟨b1, b2, b3, b4⟩, a4, a5, a6, a7, a8⟩ := p
  have e := fun H => implVecOk H ⟨b1, b2, b3, b4⟩
  have e2 := fun H a1 a2 b1 b2 b3 b4 a4 a5 a6 a7 a8 => isOpenBy H ⟨a1, a2, ⟨b1, b2, b3, b4⟩, a4, a5, a6, a7, a8⟩
  simp only [Vec.enc, Port.enc] at e e2
  refine run_walk ok158 Try.func158 rfl (by simp [Try.f158]) fun Q hQ => ?_
  simp only [Try.f158, strip, stripL, stripI, stripG, chkT, tagsB, tagsL, tagD, addT, tagA, lookN, tagOp, elmT, ty22, ty23, ty28, ty29, ty37, ty38, ty39, ty40, ty41, ty50, ty51, ty52, ty53, ty72, ty81, ty141, ty189, Nat.reduceEqDiff, if_false, reduceIte, Option.getD_some, Option.getD_none, dstAt, dstOk, Nat.reduceLT, decide_true, if_true]
  simp [Port.enc, e, e2, inRange, isHops]
  repeat' (first | (refine gdL_t (fun h => ?_) (fun h => ?_) <;> simp [h, e, e2, inRange, isHops]) | (refine gdL_f (fun h => ?_) (fun h => ?_) <;> simp [h, e, e2, inRange, isHops]) | (refine selS_intro (fun h => ?_) (fun h => ?_) <;> simp [h, e, e2, inRange, isHops]))
  all_goals (refine hQ _ _ _ (by simp) ?_)
  all_goals (clear hQ e e2; simp_all [Try.f158, Port.ok])
  all_goals (try (cases a1 <;> simp_all))
  all_goals (try (intros; exfalso; omega))

theorem specPortOk (H : Heap) (p : Port) : run env 156 [.agg p.enc] H = some (.bool p.ok, H) := by
  obtain ⟨a1, a2, ⟨b1, b2, b3, b4⟩, a4, a5, a6, a7, a8⟩ := p
  have e := fun H => specVecOk H ⟨b1, b2, b3, b4⟩
  simp only [Vec.enc, Port.enc] at e
  refine run_walk ok156 Try.func156 rfl (by simp [Try.f156]) fun Q hQ => ?_
  simp only [Try.f156, strip, stripL, stripI, stripG, chkT, tagsB, tagsL, tagD, addT, tagA, lookN, tagOp, elmT, ty22, ty23, ty28, ty29, ty37, ty38, ty39, ty40, ty41, ty50, ty51, ty52, ty53, ty72, ty81, ty141, ty189, Nat.reduceEqDiff, if_false, reduceIte, Option.getD_some, Option.getD_none, dstAt, dstOk, Nat.reduceLT, decide_true, if_true]
  simp [Port.enc, e, l1In]
  repeat' (first | (refine gdL_t (fun h => ?_) (fun h => ?_) <;> simp [h, e, l1In]) | (refine gdL_f (fun h => ?_) (fun h => ?_) <;> simp [h, e, l1In]) | (refine selS_intro (fun h => ?_) (fun h => ?_) <;> simp [h, e, l1In]))
  all_goals (refine hQ _ _ _ (by simp) ?_)
  all_goals (clear hQ e; simp_all [Try.f156, Port.ok, openBy])
  all_goals (try (intros; exfalso; omega))

def Bridge.ok (b : Bridge) : Bool := b.ports.all Port.ok && (decide (1 ≤ b.id) && decide (b.id ≤ 9)) && (decide (1 ≤ (b.ports.length : Int)) && decide ((b.ports.length : Int) ≤ 4))

theorem implBridgeOk_is {H : Heap} {l : List Lf} {b : Bridge} (h : RdBridge H l b) (hn : b.sz ≤ 1048576) : run env 116 [.agg l] H = some (.bool b.ok, H) := by
  obtain ⟨a, rfl, h⟩ := h
  have hn : b.ports.length ≤ 1048576 := hn
  refine run_walk ok116 Try.func116 rfl (by simp [Try.f116]) fun Q hQ => ?_
  simp only [Try.f116, strip, stripL, stripI, stripG, chkT, tagsB, tagsL, tagD, addT, tagA, lookN, tagOp, elmT, ty22, ty23, ty28, ty29, ty37, ty38, ty39, ty40, ty41, ty50, ty51, ty52, ty53, ty72, ty81, ty141, ty189, Nat.reduceEqDiff, if_false, reduceIte, Option.getD_some, Option.getD_none, dstAt, dstOk, Nat.reduceLT, decide_true, if_true]
  simp [Bridge.enc, builtinV, pureB, lenV]
  refine wpS_loop (fun j tm H' => ∃ i G, i + j = b.ports.length ∧ tm 1 = .ptr H.length 0 0 ∧ tm 6 = .w (.lf (.sl a b.ports.length)) ∧ tm 7 = .int b.ports.length ∧ tm 8 = .int i ∧ H' = H ++ some ⟨74, .wr, [b.enc a]⟩ :: G ∧ (b.ports.take i).all Port.ok = true) b.ports.length (by rw [env_K]; omega) ⟨0, [], by simp, by simp, by simp, by simp, by simp, by simp [Bridge.enc], by simp⟩ ?_
  rintro j tm H' hj ⟨i, G, hij, t1, t6, t7, t8, rfl, hall⟩ Q' hn' he' hr'
  simp [t1, t6, t7, t8]
  refine selS_intro (fun hc => ?_) (fun hc => ?_)
  · simp at hc
    obtain ⟨id, r, bl, rfl, hbl, hbe, hrow⟩ := h i _ (by simp [hc]; rfl)
    have hid := blkAt_len hbl
    have g4 : IntKind.i64.wrap ((i : Int) + 1) = (i : Int) + 1 := wrap64 (by omega) (by omega)
    simp [t1, t6, t7, t8, indexAddrV, elemIs, hid, hbl, hbe, hc, hrow, implPortOk]
    refine selS_intro (fun hd => ?_) (fun hd => ?_)
    · simp
      refine hr' _ _ ?_
      simp
      refine hQ _ _ _ (by simp) ?_
      have : b.ports.all Port.ok = false := List.all_eq_false.2 ⟨b.ports[i], by simp, by simpa using hd⟩
      simp [Try.f116, this, Bridge.ok]
    · simp at hd
      simp [t1, t6, t7, t8, g4]
      refine hn' (j - 1) _ _ (by omega) ⟨i + 1, _, by omega, by simp [t1], by simp [t6], by simp [t7], by simp, rfl, ?_⟩
      rw [List.take_add_one, List.all_append, hall]
      simp [hc, hd]
  · simp at hc
    simp [t1, t6, t7, t8]
    refine he' _ _ _ ?_
    simp [t1, builtinV, pureB, lenV, Bridge.enc, inRange]
    rw [List.take_of_length_le (by omega)] at hall
    repeat' (first | (refine gdL_t (fun h => ?_) (fun h => ?_) <;> simp [h, t1, inRange, builtinV, pureB, lenV]) | (refine gdL_f (fun h => ?_) (fun h => ?_) <;> simp [h, t1, inRange, builtinV, pureB, lenV]) | (refine selS_intro (fun h => ?_) (fun h => ?_) <;> simp [h, t1, inRange, builtinV, pureB, lenV]))
    all_goals (refine hQ _ _ _ (by simp) ?_)
    all_goals (simp [Try.f116, Bridge.ok, hall])
    all_goals (simp_all)
    all_goals (try (intros; omega))

theorem specBridgeOk_is {H : Heap} {l : List Lf} {b : Bridge} (h : RdBridge H l b) (hn : b.sz ≤ 1048576) : run env 110 [.agg l] H = some (.bool b.ok, H) := by
  obtain ⟨a, rfl, h⟩ := h
  have hn : b.ports.length ≤ 1048576 := hn
  refine run_walk ok110 Try.func110 rfl (by simp [Try.f110]) fun Q hQ => ?_
  simp only [Try.f110, strip, stripL, stripI, stripG, chkT, tagsB, tagsL, tagD, addT, tagA, lookN, tagOp, elmT, ty22, ty23, ty28, ty29, ty37, ty38, ty39, ty40, ty41, ty50, ty51, ty52, ty53, ty72, ty81, ty141, ty189, Nat.reduceEqDiff, if_false, reduceIte, Option.getD_some, Option.getD_none, dstAt, dstOk, Nat.reduceLT, decide_true, if_true]
  simp [Bridge.enc, builtinV, pureB, lenV]
  refine wpS_loop (fun j tm H' => ∃ i, i + j = b.ports.length ∧ tm 1 = .ptr H.length 0 0 ∧ tm 3 = .int i ∧ H' = H ++ [some ⟨74, .wr, [b.enc a]⟩] ∧ (b.ports.take i).all Port.ok = true) b.ports.length (by rw [env_K]; omega) ⟨0, by simp, by simp, by simp, by simp [Bridge.enc], by simp⟩ ?_
  rintro j tm H' hj ⟨i, hij, t1, t3, rfl, hall⟩ Q' hn' he' hr'
  simp [t1, t3, Bridge.enc, builtinV, pureB, lenV]
  refine selS_intro (fun hc => ?_) (fun hc => ?_)
  · simp at hc
    obtain ⟨id, r, bl, rfl, hbl, hbe, hrow⟩ := h i _ (by simp [hc]; rfl)
    have hid := blkAt_len hbl
    have g4 : IntKind.i64.wrap ((i : Int) + 1) = (i : Int) + 1 := wrap64 (by omega) (by omega)
    simp [t1, t3, indexAddrV, elemIs, hid, hbl, hbe, hc, hrow, specPortOk]
    refine selS_intro (fun hd => ?_) (fun hd => ?_)
    · simp
      refine hr' _ _ ?_
      simp
      refine hQ _ _ _ (by simp) ?_
      have : b.ports.all Port.ok = false := List.all_eq_false.2 ⟨b.ports[i], by simp, by simpa using hd⟩
      simp [Try.f110, this, Bridge.ok]
    · simp at hd
      simp [t1, t3, g4]
      refine hn' (j - 1) _ _ (by omega) ⟨i + 1, by omega, by simp [t1], by simp, by simp [Bridge.enc], ?_⟩
      rw [List.take_add_one, List.all_append, hall]
      simp [hc, hd]
  · simp at hc
    simp [t1, t3]
    refine he' _ _ _ ?_
    simp [t1, builtinV, pureB, lenV, Bridge.enc, l1In]
    rw [List.take_of_length_le (by omega)] at hall
    repeat' (first | (refine gdL_t (fun h => ?_) (fun h => ?_) <;> simp [h, t1, l1In, builtinV, pureB, lenV]) | (refine gdL_f (fun h => ?_) (fun h => ?_) <;> simp [h, t1, l1In, builtinV, pureB, lenV]) | (refine selS_intro (fun h => ?_) (fun h => ?_) <;> simp [h, t1, l1In, builtinV, pureB, lenV]))
    all_goals (refine hQ _ _ _ (by simp) ?_)
    all_goals (simp [Try.f110, Bridge.ok, hall])
    all_goals (simp_all)
    all_goals (try (intros; omega))

def isEndP (n : Net) (a p : Int) : Prop := ∃ (i k : Nat) (b : Bridge), a = i ∧ p = k ∧ n.bridges[i]? = some b ∧ k < b.ports.length
def endsOf (ls : List Link) : List (Int × Int) := ls.flatMap fun l => [(l.a, l.p), (l.b, l.q)]
def Net.P (n : Net) : Prop := (1 ≤ n.bridges.length ∧ n.bridges.length ≤ 5) ∧ n.links.length ≤ 6 ∧ (∀ b ∈ n.bridges, b.ok = true) ∧ (∀ (i j : Nat) (b c : Bridge), i < j → n.bridges[i]? = some b → n.bridges[j]? = some c → b.id ≠ c.id) ∧
  (∀ l ∈ n.links, l.a ≠ l.b ∧ isEndP n l.a l.p ∧ isEndP n l.b l.q) ∧ (endsOf n.links).Nodup ∧ ∀ (i k : Nat) (b : Bridge) (p : Port), n.bridges[i]? = some b → b.ports[k]? = some p → (p.up = true ↔ ((i : Int), (k : Int)) ∈ endsOf n.links)
noncomputable def Net.ok (n : Net) : Bool := @decide n.P (Classical.propDecidable _)
theorem Net.ok_iff (n : Net) : n.ok = true ↔ n.P := by unfold Net.ok; exact @decide_eq_true_iff _ (Classical.propDecidable _)
theorem Net.ok_false {n : Net} (h : ¬ n.P) : n.ok = false := by
  cases hk : n.ok
  · rfl
  · exact absurd ((Net.ok_iff n).1 hk) h
noncomputable def isEndB (n : Net) (a p : Int) : Bool := @decide (isEndP n a p) (Classical.propDecidable _)
theorem isEndB_iff (n : Net) (a p : Int) : isEndB n a p = true ↔ isEndP n a p := by unfold isEndB; exact @decide_eq_true_iff _ (Classical.propDecidable _)
theorem isEndB_false {n : Net} {a p : Int} (h : ¬ isEndP n a p) : isEndB n a p = false := by
  cases hk : isEndB n a p
  · rfl
  · exact absurd ((isEndB_iff n a p).1 hk) h
def encE (e : Int × Int) : List Lf := [.i .i64 e.1, .i .i64 e.2]
@[simp] theorem encE_len (e : Int × Int) : (encE e).length = 2 := rfl
@[simp] theorem encE_take (e : Int × Int) : List.take 2 (encE e) = encE e := rfl

theorem linkEnds (H : Heap) (l : Link) : run env 159 [.agg l.enc] H = some (.tup [.agg (encE (l.a, l.p)), .agg (encE (l.b, l.q))], H) := by
  refine run_walk ok159 Try.func159 rfl (by simp [Try.f159]) fun Q hQ => ?_
  simp only [Try.f159, strip, stripL, stripI, stripG, chkT, tagsB, tagsL, tagD, addT, tagA, lookN, tagOp, elmT, ty22, ty23, ty28, ty29, ty37, ty38, ty39, ty40, ty41, ty50, ty51, ty52, ty53, ty72, ty81, ty141, ty189, Nat.reduceEqDiff, if_false, reduceIte, Option.getD_some, Option.getD_none, dstAt, dstOk, Nat.reduceLT, decide_true, if_true]
  simp [Link.enc]
  refine hQ _ _ _ (by simp) ?_
  simp [Try.f159, encE]

theorem isEnd {H : Heap} {id : Nat} {l : List Lf} {n : Net} (hb : blkAt H id = some ⟨31, .wr, [l]⟩) (h : RdNet H l n) (hn : n.sz ≤ 1048576) (a p : Int) :
    run env 160 [.ptr id 0 0, .agg (encE (a, p))] H = some (.bool (isEndB n a p), H) := by
  obtain ⟨_, _, rfl, ⟨a0, rws, rfl, hs, hlen, hat⟩, ⟨c, rfl, hc1⟩⟩ := h
  unfold Net.sz at hn
  have hbl0 := BridgeS.sz_len n.bridges
  have hid0 := blkAt_len hb
  have w1 : IntKind.i64.wrap ((n.bridges.length : Int) - 1) = (n.bridges.length : Int) - 1 := wrap64 (by omega) (by omega)
  refine run_walk ok160 Try.func160 rfl (by simp [Try.f160]) fun Q hQ => ?_
  simp only [Try.f160, strip, stripL, stripI, stripG, chkT, tagsB, tagsL, tagD, addT, tagA, lookN, tagOp, elmT, ty22, ty23, ty28, ty29, ty37, ty38, ty39, ty40, ty41, ty50, ty51, ty52, ty53, ty72, ty81, ty141, ty189, Nat.reduceEqDiff, if_false, reduceIte, Option.getD_some, Option.getD_none, dstAt, dstOk, Nat.reduceLT, decide_true, if_true]
  simp [Net.enc, encE, hb, hid0, builtinV, pureB, lenV, w1, inRange]
  refine gdL_t (fun hd => ?_) (fun hd => ?_)
  · simp [hd]
    simp at hd
    have hai : a.toNat < n.bridges.length := by omega
    have hri : a.toNat < rws.length := by omega
    obtain ⟨id2, r, bl, rfl, hbl, hbe, hrow⟩ := hs a.toNat _ (List.getElem?_eq_getElem hri)
    have hid := blkAt_len hbl
    have he := hat a.toNat _ _ (List.getElem?_eq_getElem hri) (List.getElem?_eq_getElem hai)
    obtain ⟨a1, hrw, hpo⟩ := he
    have hsz := BridgeS.sz_at (List.getElem_mem hai)
    have hsz2 : (n.bridges[a.toNat]).ports.length ≤ 1048576 := by have : (n.bridges[a.toNat]).sz = (n.bridges[a.toNat]).ports.length := rfl; omega
    have w2 : IntKind.i64.wrap (((n.bridges[a.toNat]).ports.length : Int) - 1) = ((n.bridges[a.toNat]).ports.length : Int) - 1 := wrap64 (by omega) (by omega)
    have hd1 : a < (n.bridges.length : Int) := by omega
    have hd0 : 0 ≤ a := by omega
    simp [hb, hid0, indexAddrV, elemIs, hid, hbl, hbe, hrow, hd0, hd1, hrw, Net.enc, Bridge.enc, builtinV, pureB, lenV, w2, inRange]
    refine hQ _ _ _ (by simp) ?_
    simp [Try.f160]
    by_cases hp : 0 ≤ p ∧ p ≤ (n.bridges[a.toNat]).ports.length - 1
    · have : isEndB n a p = true := (isEndB_iff n a p).2 ⟨a.toNat, p.toNat, n.bridges[a.toNat], by omega, by omega, List.getElem?_eq_getElem hai, by omega⟩
      simp [this, hp]
    · have : isEndB n a p = false := isEndB_false fun ⟨i, k, b, h1, h2, h3, h4⟩ => hp (by
        subst h1; subst h2
        simp at hai h3
        rw [List.getElem?_eq_getElem hai] at h3
        injection h3 with h3
        simp [h3]
        omega)
      simp [this]
      omega
  · simp [hd]
    refine hQ _ _ _ (by simp) ?_
    simp at hd
    have : isEndB n a p = false := isEndB_false fun ⟨i, k, b, h1, h2, h3, h4⟩ => by
      have := (List.getElem?_eq_some_iff.1 h3).1
      omega
    simp [Try.f160, this]

theorem endsIndex {H : Heap} {a : Option (Nat × Nat)} {es : List (Int × Int)} (h : Sl H 191 a (es.map encE)) (hn : es.length ≤ 2500000) (e : Int × Int) :
    run env 161 [.w (.lf (.sl a es.length)), .agg (encE e)] H = some (.bool (decide (e ∈ es)), H) := by
  have key : ∀ G, Runs env 181 [.w (.lf (.sl a es.length)), .agg (encE e)] (H ++ G) fun v H' => H' = H ++ G ∧ ∃ k : Int, v = .int k ∧ (0 ≤ k ↔ e ∈ es) := by
    intro G
    have h := h.app G
    refine Runs.walk ok181 Try.func181 rfl (by simp [Try.f181]) fun Q hQ => ?_
    simp only [Try.f181, strip, stripL, stripI, stripG, chkT, tagsB, tagsL, tagD, addT, tagA, lookN, tagOp, elmT, ty22, ty23, ty28, ty29, ty37, ty38, ty39, ty40, ty41, ty50, ty51, ty52, ty53, ty72, ty81, ty141, ty189, Nat.reduceEqDiff, if_false, reduceIte, Option.getD_some, Option.getD_none, dstAt, dstOk, Nat.reduceLT, decide_true, if_true]
    simp [builtinV, pureB, lenV]
    refine wpS_loop (fun j tm H' => ∃ i, i + j = es.length ∧ tm 0 = .w (.lf (.sl a es.length)) ∧ tm 3 = .ptr (H ++ G).length 0 0 ∧ tm 7 = .int es.length ∧ tm 8 = .int i ∧ H' = (H ++ G) ++ [some ⟨191, .wr, [encE e]⟩] ∧ ∀ x ∈ es.take i, x ≠ e) es.length (by rw [env_K]; omega) ⟨0, by simp, by simp, by simp, by simp, by simp, by simp, by simp⟩ ?_
    rintro j tm H' hj ⟨i, hij, t0, t3, t7, t8, rfl, hno⟩ Q' hn' he' hr'
    simp [t0, t3, t7, t8]
    refine selS_intro (fun hc => ?_) (fun hc => ?_)
    · simp at hc
      obtain ⟨id, r, bl, rfl, hbl, hbe, hrow⟩ := h i _ (by simp [hc]; rfl)
      have hid := blkAt_len hbl
      have hbl2 := fun T => blkAt_app hbl T
      simp only [List.append_assoc] at hbl2
      have g4 : IntKind.i64.wrap ((i : Int) + 1) = (i : Int) + 1 := wrap64 (by omega) (by omega)
      simp [t0, t3, t7, t8, indexAddrV, elemIs, hbl2, hbe, hc, hrow, encE]
      refine selS_intro (fun hd => ?_) (fun hd => ?_)
      · simp
        refine hr' _ _ ?_
        simp
        refine hQ _ _ _ (by simp) ?_
        simp at hd
        have : e = es[i] := Prod.ext hd.1 hd.2
        simp [Try.f181]
        refine ⟨?_, ?_⟩
        · rw [← List.append_assoc]; exact leave_free _ _ _ (by simp)
        · rw [this]; exact List.getElem_mem hc
      · simp [t0, t3, t7, t8, g4]
        refine hn' (j - 1) _ _ (by omega) ⟨i + 1, by omega, by simp [t0], by simp [t3], by simp [t7], by simp, by simp [encE], ?_⟩
        intro x hx
        rw [List.take_add_one, List.getElem?_eq_getElem hc, List.mem_append] at hx
        rcases hx with hx | hx
        · exact hno x hx
        · simp at hx
          subst hx
          intro hx2
          subst hx2
          simp at hd
    · simp at hc
      simp [t0, t3, t7, t8]
      refine he' _ _ _ ?_
      simp
      refine hQ _ _ _ (by simp) ?_
      rw [List.take_of_length_le (by omega)] at hno
      simp [Try.f181]
      refine ⟨?_, ?_⟩
      · rw [← List.append_assoc]; exact leave_free _ _ _ (by simp)
      · intro hm; exact hno e hm rfl
  refine run_walk ok161 Try.func161 rfl (by simp [Try.f161]) fun Q hQ => ?_
  simp only [Try.f161, strip, stripL, stripI, stripG, chkT, tagsB, tagsL, tagD, addT, tagA, lookN, tagOp, elmT, ty22, ty23, ty28, ty29, ty37, ty38, ty39, ty40, ty41, ty50, ty51, ty52, ty53, ty72, ty81, ty141, ty189, Nat.reduceEqDiff, if_false, reduceIte, Option.getD_some, Option.getD_none, dstAt, dstOk, Nat.reduceLT, decide_true, if_true]
  simp
  refine stpL_runs (key _) ?_
  rintro _ _ ⟨rfl, k, rfl, hk⟩
  simp
  refine hQ _ _ _ (by simp) ?_
  simp [Try.f161, hk]

def linksP (n : Net) : Prop := (∀ l ∈ n.links, l.a ≠ l.b ∧ isEndP n l.a l.p ∧ isEndP n l.b l.q) ∧ (endsOf n.links).Nodup ∧ (∀ (i k : Nat) (b : Bridge) (p : Port), n.bridges[i]? = some b → b.ports[k]? = some p → (p.up = true ↔ ((i : Int), (k : Int)) ∈ endsOf n.links)) ∧ n.links.length ≤ 6
noncomputable def linksB (n : Net) : Bool := @decide (linksP n) (Classical.propDecidable _)
theorem linksB_iff (n : Net) : linksB n = true ↔ linksP n := by unfold linksB; exact @decide_eq_true_iff _ (Classical.propDecidable _)
theorem linksB_false {n : Net} (h : ¬ linksP n) : linksB n = false := by
  cases hk : linksB n
  · rfl
  · exact absurd ((linksB_iff n).1 hk) h
theorem endsOf_split {ls : List Link} {i : Nat} (h : i < ls.length) : endsOf ls = endsOf (ls.take i) ++ ((ls[i].a, ls[i].p) :: (ls[i].b, ls[i].q) :: endsOf (ls.drop (i + 1))) := by
  have e : ls = ls.take i ++ (ls[i] :: ls.drop (i + 1)) := by rw [← List.drop_eq_getElem_cons h, List.take_append_drop]
  unfold endsOf
  conv => lhs; rw [e]
  rw [List.flatMap_append, List.flatMap_cons]; rfl
theorem endsOf_take {ls : List Link} {i : Nat} (h : i < ls.length) : endsOf (ls.take (i + 1)) = endsOf (ls.take i) ++ [(ls[i].a, ls[i].p), (ls[i].b, ls[i].q)] := by
  unfold endsOf
  rw [List.take_add_one, List.getElem?_eq_getElem h, List.flatMap_append]; simp
theorem endsOf_len (ls : List Link) : (endsOf ls).length = 2 * ls.length := by
  induction ls with
  | nil => rfl
  | cons l ls ih => unfold endsOf at ih ⊢; rw [List.flatMap_cons, List.length_append, ih]; simp; omega
theorem linksOk {H : Heap} {id : Nat} {l : List Lf} {n : Net} (hb : blkAt H id = some ⟨31, .wr, [l]⟩) (h : RdNet H l n) (hn : n.sz ≤ 1048576) :
    run env 117 [.ptr id 0 0] H = some (.bool (linksB n), H) := by
  have hR := h
  have hn0 := hn
  obtain ⟨_, _, rfl, ⟨a0, rws, rfl, hs, hlen, hat⟩, ⟨c, rfl, hc1⟩⟩ := h
  unfold Net.sz at hn
  have hbl0 := BridgeS.sz_len n.bridges
  have hid0 := blkAt_len hb
  refine run_walk ok117 Try.func117 rfl (by simp [Try.f117]) fun Q hQ => ?_
  simp only [Try.f117, strip, stripL, stripI, stripG, chkT, tagsB, tagsL, tagD, addT, tagA, lookN, tagOp, elmT, ty22, ty23, ty28, ty29, ty37, ty38, ty39, ty40, ty41, ty50, ty51, ty52, ty53, ty72, ty81, ty141, ty189, Nat.reduceEqDiff, if_false, reduceIte, Option.getD_some, Option.getD_none, dstAt, dstOk, Nat.reduceLT, decide_true, if_true]
  have bad : ¬ linksP n → ∀ tm H', (∃ G, H' = H ++ G) → tm 2 = .bool false → Q .ret tm H' := by
    rintro hx tm _ ⟨G, rfl⟩ h4
    refine hQ _ _ _ (by simp) ?_
    simp [Try.f117, h4, linksB_false hx]
  simp [hb, Net.enc, builtinV, pureB, lenV]
  refine wpS_loop (fun j tm H' => ∃ i G aU fU, i + j = n.links.length ∧ tm 0 = .ptr id 0 0 ∧ tm 3 = .w (.lf (.sl aU (endsOf (n.links.take i)).length)) ∧ tm 15 = .w (.lf (.sl c n.links.length)) ∧ tm 16 = .int n.links.length ∧ tm 17 = .int i ∧ H' = H ++ G ∧
      Own (H ++ G) 191 aU ((endsOf (n.links.take i)).map encE) fU ∧ (∀ k ∈ fU, H.length ≤ k) ∧ (∀ l ∈ n.links.take i, l.a ≠ l.b ∧ isEndP n l.a l.p ∧ isEndP n l.b l.q) ∧ (endsOf (n.links.take i)).Nodup) n.links.length (by rw [env_K]; omega)
    ⟨0, [], none, [], by simp, by simp, by simp [endsOf], by simp, by simp, by simp, by simp, by simpa [endsOf] using Own.nil H _, by simp, by simp, by simp [endsOf]⟩ ?_
  rintro j tm H' hj ⟨i, G, aU, fU, hij, t0, t3, t15, t16, t17, rfl, ho, hfU, hall, hnd⟩ Q' hn' he' hr'
  simp [t0, t3, t15, t16, t17]
  refine selS_intro (fun hc => ?_) (fun hc => ?_)
  · simp at hc
    obtain ⟨id2, r, bl, rfl, hbl, hbe, hrow⟩ := hc1 i _ (by simp [hc]; rfl)
    have hid := blkAt_len hbl
    have g4 : IntKind.i64.wrap ((i : Int) + 1) = (i : Int) + 1 := wrap64 (by omega) (by omega)
    obtain ⟨L, hL⟩ : ∃ L, L = n.links[i] := ⟨_, rfl⟩
    have hLm : L ∈ n.links := by rw [hL]; exact List.getElem_mem hc
    have hsp := endsOf_split hc
    have htk := endsOf_take hc
    rw [← hL] at hsp htk
    have hel := endsOf_len (n.links.take i)
    have hel2 : (n.links.take i).length ≤ n.links.length := by simp; omega
    have e1 := fun G => linkEnds (H ++ G) L
    have e2 := fun G a p => isEnd (blkAt_app hb G) (hR.app G) hn0 a p
    have e3 := fun T e => endsIndex (ho.app2 T).sl (by omega) e
    have e1' := e1
    simp only [Link.enc, encE] at e1 e2 e3
    have e2 := fun G a p => e2 G a p
    have e3 := fun T x y => e3 T (x, y)
    simp only at e3
    simp [t0, t3, t15, t16, t17, indexAddrV, elemIs, hid, hbl, hbe, hc, hrow, ← hL, Link.enc, e1]
    repeat' (first | (refine gdL_t (fun h => ?_) (fun h => ?_) <;> simp [h, e2, e3, t0, t3]) | (refine gdL_f (fun h => ?_) (fun h => ?_) <;> simp [h, e2, e3, t0, t3]) | (refine selS_intro (fun h => ?_) (fun h => ?_) <;> simp [h, e2, e3, t0, t3]))
    · refine hr' _ _ ?_
      simp
      refine bad (fun hp => (hp.1 L hLm).1 (by simpa using h)) _ _ ⟨_, rfl⟩ (by simp)
    · refine hr' _ _ ?_
      simp
      refine bad (fun hp => ?_) _ _ ⟨_, rfl⟩ (by simp)
      have := (isEndB_iff n L.a L.p).2 (hp.1 L hLm).2.1
      simp [this] at h
    · refine hr' _ _ ?_
      simp
      refine bad (fun hp => ?_) _ _ ⟨_, rfl⟩ (by simp)
      have := (isEndB_iff n L.b L.q).2 (hp.1 L hLm).2.2
      simp [this] at h
    · refine hr' _ _ ?_
      simp
      refine bad (fun hp => ?_) _ _ ⟨_, rfl⟩ (by simp)
      have := hp.2.1
      rw [hsp, List.nodup_append] at this
      exact this.2.2 _ (by simpa using h) (L.a, L.p) (by simp) rfl
    · refine hr' _ _ ?_
      simp
      refine bad (fun hp => ?_) _ _ ⟨_, rfl⟩ (by simp)
      have := hp.2.1
      rw [hsp, List.nodup_append] at this
      exact this.2.2 _ (by simpa using h) (L.b, L.q) (by simp) rfl
    · refine stpL_append (rows := (endsOf (n.links.take i)).map encE) (ys := [encE (L.a, L.p), encE (L.b, L.q)]) (ho.app2 _) (Sl.of (by simp [encE])) rfl rfl rfl (by simp) (by simp; omega) (by simp) rfl ?_
      intro a2 H2 f2 o2 hk2 hf2
      obtain ⟨⟨G2, rfl⟩, hf3⟩ := Fresh.grow hfU hk2 hf2
      simp [t0, t3, t15, t16, t17, g4]
      refine hn' (j - 1) _ _ (by omega) ⟨i + 1, G2, a2, f2, by omega, by simp [t0], by simp [htk], by simp [t15], by simp [t16], by simp, rfl, by simpa [htk] using o2, hf3, ?_, ?_⟩
      · intro l hl
        rw [List.take_add_one, List.getElem?_eq_getElem hc, List.mem_append] at hl
        rcases hl with hl | hl
        · exact hall l hl
        · simp at hl
          subst hl
          rw [← hL]
          exact ⟨by simp_all, (isEndB_iff n L.a L.p).1 (by simp_all), (isEndB_iff n L.b L.q).1 (by simp_all)⟩
      · rw [htk, List.nodup_append]
        refine ⟨hnd, ?_, ?_⟩
        · simp
          intro h1
          simp_all
        · intro x hx y hy
          simp at hy
          rintro rfl
          rcases hy with rfl | rfl <;> simp_all
  · simp at hc
    simp [t0, t3, t15, t16, t17]
    refine he' _ _ _ ?_
    rw [List.take_of_length_le (by omega)] at ho hall hnd t3
    have hel := endsOf_len n.links
    have e3 := fun T e => endsIndex (ho.app2 T).sl (by omega) e
    simp only [encE] at e3
    have e3 := fun T x y => e3 T (x, y)
    simp only at e3
    have hbG := fun T => blkAt_app hb T
    simp [t0, hbG, Net.enc, builtinV, pureB, lenV]
    refine wpS_loop (fun j tm H' => ∃ i T, i + j = n.bridges.length ∧ tm 0 = .ptr id 0 0 ∧ tm 3 = .w (.lf (.sl aU (endsOf n.links).length)) ∧ tm 62 = .w (.lf (.sl a0 n.bridges.length)) ∧ tm 63 = .int n.bridges.length ∧ tm 64 = .int i ∧ H' = H ++ (G ++ T) ∧
        ∀ (i' k : Nat) (b : Bridge) (p : Port), i' < i → n.bridges[i']? = some b → b.ports[k]? = some p → (p.up = true ↔ ((i' : Int), (k : Int)) ∈ endsOf n.links)) n.bridges.length (by rw [env_K]; omega)
      ⟨0, [], by simp, by simp [t0], by simp [t3], by simp, by simp, by simp, by simp, by simp⟩ ?_
    rintro j tm H' hj ⟨i, T, hij, t0, t3, t62, t63, t64, rfl, hup⟩ Q2 hn2 he2 hr2
    simp [t0, t3, t62, t63, t64]
    refine selS_intro (fun hc => ?_) (fun hc => ?_)
    · simp at hc
      have hri : i < rws.length := by omega
      obtain ⟨id2, r, bl, rfl, hbl, hbe, hrow⟩ := hs i _ (List.getElem?_eq_getElem hri)
      have hid := blkAt_len hbl
      have he := hat i _ _ (List.getElem?_eq_getElem hri) (List.getElem?_eq_getElem hc)
      obtain ⟨a1, hrw, hpo⟩ := he
      have hsz := BridgeS.sz_at (List.getElem_mem hc)
      have hsz2 : (n.bridges[i]).ports.length ≤ 1048576 := by have : (n.bridges[i]).sz = (n.bridges[i]).ports.length := rfl; omega
      have g4 : IntKind.i64.wrap ((i : Int) + 1) = (i : Int) + 1 := wrap64 (by omega) (by omega)
      simp [t0, t3, t62, t63, t64, indexAddrV, elemIs, hid, hbl, hbe, hc, hrow, hrw, Bridge.enc, builtinV, pureB, lenV]
      refine wpS_loop (fun j tm H' => ∃ k T, k + j = (n.bridges[i]).ports.length ∧ tm 0 = .ptr id 0 0 ∧ tm 3 = .w (.lf (.sl aU (endsOf n.links).length)) ∧ tm 62 = .w (.lf (.sl (some (id2, r)) n.bridges.length)) ∧ tm 63 = .int n.bridges.length ∧ tm 64 = .int i ∧ tm 8 = .int i ∧ tm 70 = .w (.lf (.sl a1 (n.bridges[i]).ports.length)) ∧ tm 71 = .int (n.bridges[i]).ports.length ∧ tm 72 = .int k ∧ H' = H ++ (G ++ T) ∧
          ∀ (k' : Nat) (p : Port), k' < k → (n.bridges[i]).ports[k']? = some p → (p.up = true ↔ ((i : Int), (k' : Int)) ∈ endsOf n.links)) (n.bridges[i]).ports.length (by rw [env_K]; omega)
        ⟨0, _, by simp, by simp [t0], by simp [t3], by simp [t62], by simp [t63], by simp [t64], by simp, by simp, by simp, by simp, rfl, by simp⟩ ?_
      rintro j2 tm H' hj2 ⟨k, T2, hij2, t0, t3, t62, t63, t64, t8, t70, t71, t72, rfl, hup2⟩ Q3 hn3 he3 hr3
      simp [t0, t3, t62, t63, t64, t8, t70, t71, t72]
      refine selS_intro (fun hc2 => ?_) (fun hc2 => ?_)
      · simp at hc2
        obtain ⟨id3, r3, bl3, rfl, hbl3, hbe3, hrow3⟩ := hpo k _ (by simp [hc2]; rfl)
        have hid3 := blkAt_len hbl3
        have g5 : IntKind.i64.wrap ((k : Int) + 1) = (k : Int) + 1 := wrap64 (by omega) (by omega)
        simp [t0, t3, t62, t63, t64, t8, t70, t71, t72, indexAddrV, elemIs, hid3, hbl3, hbe3, hc2, hrow3, Port.enc, e3]
        refine selS_intro (fun hd => ?_) (fun hd => ?_)
        · simp
          refine hr3 _ _ ?_
          simp
          refine hr2 _ _ ?_
          simp
          refine bad (fun hp => ?_) _ _ ⟨_, rfl⟩ (by simp)
          have h1 := hp.2.2.1 i k _ _ (List.getElem?_eq_getElem hc) (List.getElem?_eq_getElem hc2)
          have h2 : (n.bridges[i]).ports[k].up = decide (((i : Int), (k : Int)) ∈ endsOf n.links) := by
            rw [Bool.eq_iff_iff]
            simpa using h1
          rw [h2] at hd
          simp at hd
        · simp [t0, t3, t62, t63, t64, t8, t70, t71, t72, g5]
          refine hn3 (j2 - 1) _ _ (by omega) ⟨k + 1, _, by omega, by simp [t0], by simp [t3], by simp [t62], by simp [t63], by simp [t64], by simp [t8], by simp [t70], by simp [t71], by simp, rfl, ?_⟩
          intro k' p hk' hp
          rcases Nat.lt_or_ge k' k with hlt | hge
          · exact hup2 k' p hlt hp
          · obtain rfl : k' = k := by omega
            rw [List.getElem?_eq_getElem hc2] at hp
            injection hp with hp
            subst hp
            simp at hd
            simp [hd]
      · simp at hc2
        simp [t0, t3, t62, t63, t64, t8, t70, t71, t72]
        refine he3 _ _ _ ?_
        simp [t0, t3, t62, t63, t64, g4]
        refine hn2 (j - 1) _ _ (by omega) ⟨i + 1, _, by omega, by simp [t0], by simp [t3], by simp [t62], by simp [t63], by simp, rfl, ?_⟩
        intro i' k' b p hi' hb' hp'
        rcases Nat.lt_or_ge i' i with hlt | hge
        · exact hup i' k' b p hlt hb' hp'
        · obtain rfl : i' = i := by omega
          rw [List.getElem?_eq_getElem hc] at hb'
          injection hb' with hb'
          subst hb'
          exact hup2 k' p (by have := (List.getElem?_eq_some_iff.1 hp').1; omega) hp'
    · simp at hc
      simp [t0, t3, t62, t63, t64]
      refine he2 _ _ _ ?_
      simp [t0, hbG, Net.enc, builtinV, pureB, lenV]
      refine hQ _ _ _ (by simp) ?_
      have hfin : linksB n = decide ((n.links.length : Int) ≤ 6) := by
        by_cases h6 : n.links.length ≤ 6
        · have : linksB n = true := (linksB_iff n).2 ⟨hall, hnd, fun i k b p h1 h2 => hup i k b p (by have := (List.getElem?_eq_some_iff.1 h1).1; omega) h1 h2, h6⟩
          rw [this]
          simp
          omega
        · rw [linksB_false fun hp => h6 hp.2.2.2]
          simp
          omega
      simp [Try.f117, hfin]

theorem netP_iff (n : Net) : n.P ↔ (∀ b ∈ n.bridges, b.ok = true) ∧ (∀ (i j : Nat) (b c : Bridge), i < j → n.bridges[i]? = some b → n.bridges[j]? = some c → b.id ≠ c.id) ∧ (1 ≤ n.bridges.length ∧ n.bridges.length ≤ 5) ∧ linksP n := by
  unfold Net.P linksP
  constructor
  · rintro ⟨h1, h2, h3, h4, h5, h6, h7⟩; exact ⟨h3, h4, h1, h5, h6, h7, h2⟩
  · rintro ⟨h3, h4, h1, h5, h6, h7, h2⟩; exact ⟨h1, h2, h3, h4, h5, h6, h7⟩
theorem implNetOk_is {H : Heap} {l : List Lf} {n : Net} (h : RdNet H l n) (hn : n.sz ≤ 1048576) : run env 53 [.agg l] H = some (.bool n.ok, H) := by
  have hR := h
  have hn0 := hn
  obtain ⟨_, _, rfl, ⟨a0, rws, rfl, hs, hlen, hat⟩, ⟨c, rfl, hc1⟩⟩ := h
  unfold Net.sz at hn
  have hbl0 := BridgeS.sz_len n.bridges
  refine run_walk ok53 Try.func53 rfl (by simp [Try.f53]) fun Q hQ => ?_
  simp only [Try.f53, strip, stripL, stripI, stripG, chkT, tagsB, tagsL, tagD, addT, tagA, lookN, tagOp, elmT, ty22, ty23, ty28, ty29, ty37, ty38, ty39, ty40, ty41, ty50, ty51, ty52, ty53, ty72, ty81, ty141, ty189, Nat.reduceEqDiff, if_false, reduceIte, Option.getD_some, Option.getD_none, dstAt, dstOk, Nat.reduceLT, decide_true, if_true]
  have bad : ¬ n.P → ∀ tm H', (∃ G, H' = H ++ G) → tm 2 = .bool false → Q .ret tm H' := by
    rintro hx tm _ ⟨G, rfl⟩ h4
    refine hQ _ _ _ (by simp) ?_
    simp [Try.f53, h4, Net.ok_false hx]
  simp [Net.enc, builtinV, pureB, lenV]
  obtain ⟨B, hB⟩ : ∃ B : Option Blk, B = some ⟨31, .wr, [n.enc (.sl a0 n.bridges.length) (.sl c n.links.length)]⟩ := ⟨_, rfl⟩
  refine wpS_loop (fun j tm H' => ∃ i T, i + j = n.bridges.length ∧ tm 1 = .ptr H.length 0 0 ∧ tm 8 = .w (.lf (.sl a0 n.bridges.length)) ∧ tm 9 = .int n.bridges.length ∧ tm 10 = .int i ∧ H' = H ++ B :: T ∧
      (∀ (i' : Nat) (b : Bridge), i' < i → n.bridges[i']? = some b → b.ok = true) ∧ ∀ (i' j' : Nat) (b d : Bridge), i' < j' → j' < i → n.bridges[i']? = some b → n.bridges[j']? = some d → b.id ≠ d.id) n.bridges.length (by rw [env_K]; omega)
    ⟨0, [], by simp, by simp, by simp, by simp, by simp, by simp [hB, Net.enc], by simp, by simp⟩ ?_
  rintro j tm H' hj ⟨i, T, hij, t1, t8, t9, t10, rfl, hok, hid⟩ Q2 hn2 he2 hr2
  simp [t1, t8, t9, t10]
  refine selS_intro (fun hc => ?_) (fun hc => ?_)
  · simp at hc
    have hri : i < rws.length := by omega
    obtain ⟨id2, r, bl, rfl, hbl, hbe, hrow⟩ := hs i _ (List.getElem?_eq_getElem hri)
    have hid2 := blkAt_len hbl
    have he := hat i _ _ (List.getElem?_eq_getElem hri) (List.getElem?_eq_getElem hc)
    have hsz := BridgeS.sz_at (List.getElem_mem hc)
    have e1 := fun G => implBridgeOk_is (he.app G) (by omega)
    obtain ⟨a1, hrw, hpo⟩ := he
    rw [hrw] at e1 hrow
    simp only [Bridge.enc] at e1
    have g4 : IntKind.i64.wrap ((i : Int) + 1) = (i : Int) + 1 := wrap64 (by omega) (by omega)
    simp [t1, t8, t9, t10, indexAddrV, elemIs, hid2, hbl, hbe, hc, hrow, Bridge.enc, e1]
    refine selS_intro (fun hd => ?_) (fun hd => ?_)
    · simp
      refine hr2 _ _ ?_
      simp
      refine bad (fun hp => ?_) _ _ ⟨_, rfl⟩ (by simp)
      have := hp.2.2.1 _ (List.getElem_mem hc)
      simp [this] at hd
    · have hi1 : (i : Int) ≤ n.bridges.length := by omega
      simp [t1, t8, t9, t10, hB, Net.enc, sliceV, elemIs, hid2, hbl, hbe, bnd, hi1, builtinV, pureB, lenV]
      obtain ⟨BB, hBB⟩ : ∃ BB : Option Blk, BB = some ⟨74, .wr, [[.i .i64 (n.bridges[i]).id, .sl a1 (n.bridges[i]).ports.length]]⟩ := ⟨_, rfl⟩
      refine wpS_loop (fun j tm H' => ∃ k T2, k + j = i ∧ tm 1 = .ptr H.length 0 0 ∧ tm 8 = .w (.lf (.sl (some (id2, r)) n.bridges.length)) ∧ tm 9 = .int n.bridges.length ∧ tm 10 = .int i ∧ tm 4 = .ptr (H.length + (T.length + 1)) 0 0 ∧ tm 21 = .w (.lf (.sl (some (id2, r)) i)) ∧ tm 22 = .int i ∧ tm 23 = .int k ∧ H' = H ++ B :: (T ++ BB :: T2) ∧
          ∀ (k' : Nat) (b : Bridge), k' < k → n.bridges[k']? = some b → b.id ≠ (n.bridges[i]).id) i (by rw [env_K]; omega)
        ⟨0, [], by simp, by simp [t1], by simp [t8], by simp [t9], by simp [t10], by simp, by simp, by simp, by simp, by simp [hB, hBB, Net.enc], by simp⟩ ?_
      rintro j2 tm H' hj2 ⟨k, T2, hij2, t1, t8, t9, t10, t4, t21, t22, t23, rfl, hne2⟩ Q3 hn3 he3 hr3
      simp [t1, t8, t9, t10, t4, t21, t22, t23]
      refine selS_intro (fun hc2 => ?_) (fun hc2 => ?_)
      · simp at hc2
        have hck : k < n.bridges.length := by omega
        have hrk : k < rws.length := by omega
        obtain ⟨id3, r3, bl3, h0, hbl3, hbe3, hrow3⟩ := hs k _ (List.getElem?_eq_getElem hrk)
        cases h0
        rw [hbl] at hbl3
        injection hbl3 with hbl3
        subst hbl3
        obtain ⟨a3, hrw3, hpo3⟩ := hat k _ _ (List.getElem?_eq_getElem hrk) (List.getElem?_eq_getElem hck)
        rw [hrw3] at hrow3
        have g5 : IntKind.i64.wrap ((k : Int) + 1) = (k : Int) + 1 := wrap64 (by omega) (by omega)
        simp [t1, t8, t9, t10, t4, t21, t22, t23, hBB, indexAddrV, elemIs, hid2, hbl, hbe, hc2, hrow3, Bridge.enc]
        refine selS_intro (fun hd2 => ?_) (fun hd2 => ?_)
        · simp
          refine hr3 _ _ ?_
          simp
          refine hr2 _ _ ?_
          simp
          refine bad (fun hp => ?_) _ _ ⟨_, rfl⟩ (by simp)
          simp at hd2
          exact hp.2.2.2.1 k i _ _ (by omega) (List.getElem?_eq_getElem hck) (List.getElem?_eq_getElem hc) hd2
        · simp [t1, t8, t9, t10, t4, t21, t22, t23, g5]
          refine hn3 (j2 - 1) _ _ (by omega) ⟨k + 1, _, by omega, by simp [t1], by simp [t8], by simp [t9], by simp [t10], by simp [t4], by simp [t21], by simp [t22], by simp, by rw [hBB], ?_⟩
          intro k' b hk' hb'
          rcases Nat.lt_or_ge k' k with hlt | hge
          · exact hne2 k' b hlt hb'
          · obtain rfl : k' = k := by omega
            rw [List.getElem?_eq_getElem hck] at hb'
            injection hb' with hb'
            subst hb'
            simpa using hd2
      · simp at hc2
        simp [t1, t8, t9, t10, t4, t21, t22, t23]
        refine he3 _ _ _ ?_
        simp [t1, t8, t9, t10, g4]
        refine hn2 (j - 1) _ _ (by omega) ⟨i + 1, _, by omega, by simp [t1], by simp [t8], by simp [t9], by simp, rfl, ?_, ?_⟩
        · intro i' b hi' hb'
          rcases Nat.lt_or_ge i' i with hlt | hge
          · exact hok i' b hlt hb'
          · obtain rfl : i' = i := by omega
            rw [List.getElem?_eq_getElem hc] at hb'
            injection hb' with hb'
            subst hb'
            simpa using hd
        · intro i' j' b d hij' hj' hb' hd'
          rcases Nat.lt_or_ge j' i with hlt | hge
          · exact hid i' j' b d hij' hlt hb' hd'
          · obtain rfl : j' = i := by omega
            rw [List.getElem?_eq_getElem hc] at hd'
            injection hd' with hd'
            subst hd'
            exact hne2 i' b (by omega) hb'
  · simp at hc
    obtain rfl : i = n.bridges.length := by omega
    have hall : ∀ b ∈ n.bridges, b.ok = true := fun b hb => by
      obtain ⟨i', hi', rfl⟩ := List.mem_iff_getElem.1 hb
      exact hok i' _ hi' (List.getElem?_eq_getElem hi')
    have hids : ∀ (i j : Nat) (b c : Bridge), i < j → n.bridges[i]? = some b → n.bridges[j]? = some c → b.id ≠ c.id := fun i' j' b d h1 h2 h3 => hid i' j' b d h1 (List.getElem?_eq_some_iff.1 h3).1 h2 h3
    have el := linksOk (H := H ++ B :: T) (id := H.length) (n := n) (by simp [hB]) (hR.app _) hn0
    have hfin : n.ok = (decide (1 ≤ (n.bridges.length : Int)) && decide ((n.bridges.length : Int) ≤ 5) && linksB n) := by
      rw [Bool.eq_iff_iff]
      rw [Net.ok_iff, netP_iff]
      simp only [Bool.and_eq_true, decide_eq_true_eq, linksB_iff]
      constructor
      · rintro ⟨-, -, h1, h2⟩; exact ⟨⟨by omega, by omega⟩, h2⟩
      · rintro ⟨⟨h1, h2⟩, h3⟩; exact ⟨hall, hids, ⟨by omega, by omega⟩, h3⟩
    simp [t1, t8, t9, t10]
    refine he2 _ _ _ ?_
    simp [t1, hB, Net.enc, builtinV, pureB, lenV, inRange]
    rw [hB] at el
    simp only [Net.enc] at el
    repeat' (first | (refine gdL_t (fun h => ?_) (fun h => ?_) <;> simp [h, t1, el, inRange]) | (refine gdL_f (fun h => ?_) (fun h => ?_) <;> simp [h, t1, el, inRange]) | (refine selS_intro (fun h => ?_) (fun h => ?_) <;> simp [h, t1, el, inRange]))
    all_goals (refine hQ _ _ _ (by simp) ?_)
    all_goals (clear hQ; simp_all [Try.f53])

theorem l1Bit (H : Heap) (b : Bool) : run env 112 [.bool b] H = some (.int (if b then 1 else 0), H) := by
  refine run_walk ok112 Try.func112 rfl (by simp [Try.f112]) fun Q hQ => ?_
  simp only [Try.f112, strip, stripL, stripI, stripG, chkT, tagsB, tagsL, tagD, addT, tagA, lookN, tagOp, elmT, ty22, ty23, ty28, ty29, ty37, ty38, ty39, ty40, ty41, ty50, ty51, ty52, ty53, ty72, ty81, ty141, ty189, Nat.reduceEqDiff, if_false, reduceIte, Option.getD_some, Option.getD_none, dstAt, dstOk, Nat.reduceLT, decide_true, if_true]
  simp
  refine selS_intro (fun h => ?_) (fun h => ?_)
  all_goals (simp; refine hQ _ _ _ (by simp) ?_; simp [Try.f112, h])

theorem count_step {ls : List Link} {i : Nat} (h : i < ls.length) (e : Int × Int) : (endsOf (ls.take (i + 1))).count e = (endsOf (ls.take i)).count e + (if (ls[i].a, ls[i].p) = e then 1 else 0) + (if (ls[i].b, ls[i].q) = e then 1 else 0) := by
  rw [endsOf_take h, List.count_append, List.count_cons, List.count_cons, List.count_nil]
  simp only [beq_iff_eq]
  omega
theorem l10Once {H : Heap} {l : List Lf} {n : Net} (h : RdNet H l n) (hn : n.sz ≤ 1048576) (a p : Int) :
    run env 111 [.agg l, .int a, .int p] H = some (.int ((endsOf n.links).count (a, p)), H) := by
  obtain ⟨q0, _, rfl, h0, ⟨c, rfl, hc1⟩⟩ := h
  unfold Net.sz at hn
  have e1 := fun H b => l1Bit H b
  refine run_walk ok111 Try.func111 rfl (by simp [Try.f111]) fun Q hQ => ?_
  simp only [Try.f111, strip, stripL, stripI, stripG, chkT, tagsB, tagsL, tagD, addT, tagA, lookN, tagOp, elmT, ty22, ty23, ty28, ty29, ty37, ty38, ty39, ty40, ty41, ty50, ty51, ty52, ty53, ty72, ty81, ty141, ty189, Nat.reduceEqDiff, if_false, reduceIte, Option.getD_some, Option.getD_none, dstAt, dstOk, Nat.reduceLT, decide_true, if_true]
  simp [Net.enc, builtinV, pureB, lenV]
  obtain ⟨B, hB⟩ : ∃ B : Option Blk, B = some ⟨31, .wr, [[q0, .sl c n.links.length]]⟩ := ⟨_, rfl⟩
  refine wpS_loop (fun j tm H' => ∃ i T, i + j = n.links.length ∧ tm 1 = .int a ∧ tm 2 = .int p ∧ tm 3 = .ptr H.length 0 0 ∧ tm 7 = .int ((endsOf (n.links.take i)).count (a, p)) ∧ tm 8 = .int i ∧ H' = H ++ B :: T) n.links.length (by rw [env_K]; omega)
    ⟨0, [], by simp, by simp, by simp, by simp, by simp [endsOf], by simp, by simp [hB]⟩ ?_
  rintro j tm H' hj ⟨i, T, hij, t1, t2, t3, t7, t8, rfl⟩ Q2 hn2 he2 hr2
  simp [t1, t2, t3, t7, t8, hB, builtinV, pureB, lenV]
  refine selS_intro (fun hc => ?_) (fun hc => ?_)
  · simp at hc
    obtain ⟨id2, r, bl, rfl, hbl, hbe, hrow⟩ := hc1 i _ (by simp [hc]; rfl)
    have hid := blkAt_len hbl
    have g4 : IntKind.i64.wrap ((i : Int) + 1) = (i : Int) + 1 := wrap64 (by omega) (by omega)
    have hcs := count_step hc (a, p)
    have hcl := List.count_le_length (a := (a, p)) (l := endsOf (n.links.take i))
    rw [endsOf_len] at hcl
    have hcl2 : (n.links.take i).length ≤ n.links.length := by simp; omega
    obtain ⟨L, hL⟩ : ∃ L, L = n.links[i] := ⟨_, rfl⟩
    rw [← hL] at hcs
    have w : ∀ x y : Int, 0 ≤ x → x ≤ 2 → IntKind.i64.wrap (((endsOf (n.links.take i)).count (a, p) : Int) + x) = ((endsOf (n.links.take i)).count (a, p) : Int) + x := fun x _ h1 h2 => wrap64 (by omega) (by omega)
    have w0 := w 0 0 (by omega) (by omega)
    have w1 := w 1 0 (by omega) (by omega)
    have w2 := w 2 0 (by omega) (by omega)
    simp only [Int.add_zero] at w0
    simp [t1, t2, t3, t7, t8, indexAddrV, elemIs, hid, hbl, hbe, hc, hrow, ← hL, Link.enc]
    repeat' (first | (refine gdL_t (fun h => ?_) (fun h => ?_) <;> simp [h, e1, w0, w1, w2, t1, t2, t3, t7, t8, Int.add_assoc, g4]) | (refine gdL_f (fun h => ?_) (fun h => ?_) <;> simp [h, e1, w0, w1, w2, t1, t2, t3, t7, t8, Int.add_assoc, g4]) | (refine selS_intro (fun h => ?_) (fun h => ?_) <;> simp [h, e1, w0, w1, w2, t1, t2, t3, t7, t8, Int.add_assoc, g4]))
    all_goals (refine hn2 (j - 1) _ _ (by omega) ⟨i + 1, _, by omega, by simp [t1], by simp [t2], by simp [t3], ?_, by simp, by rw [hB]⟩)
    all_goals (rw [hcs]; clear hQ hn2 he2 hr2; simp at *; by_cases hp : L.p = p <;> by_cases hq : L.q = p <;> simp_all [Int.add_assoc])
  · simp at hc
    obtain rfl : i = n.links.length := by omega
    simp [t1, t2, t3, t7, t8]
    refine he2 _ _ _ ?_
    simp [t7]
    refine hQ _ _ _ (by simp) ?_
    simp [Try.f111]

def endUpP (n : Net) (a p : Int) : Prop := ∃ (i k : Nat) (b : Bridge) (q : Port), a = i ∧ p = k ∧ n.bridges[i]? = some b ∧ b.ports[k]? = some q ∧ q.up = true
noncomputable def endUpB (n : Net) (a p : Int) : Bool := @decide (endUpP n a p) (Classical.propDecidable _)
theorem endUpB_iff (n : Net) (a p : Int) : endUpB n a p = true ↔ endUpP n a p := by unfold endUpB; exact @decide_eq_true_iff _ (Classical.propDecidable _)
theorem endUpB_false {n : Net} {a p : Int} (h : ¬ endUpP n a p) : endUpB n a p = false := by
  cases hk : endUpB n a p
  · rfl
  · exact absurd ((endUpB_iff n a p).1 hk) h
theorem l10End {H : Heap} {l : List Lf} {n : Net} (h : RdNet H l n) (hn : n.sz ≤ 1048576) (a p : Int) :
    run env 113 [.agg l, .int a, .int p] H = some (.bool (endUpB n a p), H) := by
  obtain ⟨_, _, rfl, ⟨a0, rws, rfl, hs, hlen, hat⟩, ⟨c, rfl, hc1⟩⟩ := h
  unfold Net.sz at hn
  have hbl0 := BridgeS.sz_len n.bridges
  have w1 : IntKind.i64.wrap ((n.bridges.length : Int) - 1) = (n.bridges.length : Int) - 1 := wrap64 (by omega) (by omega)
  refine run_walk ok113 Try.func113 rfl (by simp [Try.f113]) fun Q hQ => ?_
  simp only [Try.f113, strip, stripL, stripI, stripG, chkT, tagsB, tagsL, tagD, addT, tagA, lookN, tagOp, elmT, ty22, ty23, ty28, ty29, ty37, ty38, ty39, ty40, ty41, ty50, ty51, ty52, ty53, ty72, ty81, ty141, ty189, Nat.reduceEqDiff, if_false, reduceIte, Option.getD_some, Option.getD_none, dstAt, dstOk, Nat.reduceLT, decide_true, if_true]
  simp [Net.enc, builtinV, pureB, lenV, w1, l1In]
  have no : ∀ tm H', (∃ G, H' = H ++ G) → tm 6 = .bool false → ¬ endUpP n a p → Q .ret tm H' := by
    rintro tm _ ⟨G, rfl⟩ h6 hx
    refine hQ _ _ _ (by simp) ?_
    simp [Try.f113, h6, endUpB_false hx]
  refine gdL_t (fun hd => ?_) (fun hd => ?_)
  · simp [hd]
    simp at hd
    have hai : a.toNat < n.bridges.length := by omega
    have hri : a.toNat < rws.length := by omega
    obtain ⟨id2, r, bl, rfl, hbl, hbe, hrow⟩ := hs a.toNat _ (List.getElem?_eq_getElem hri)
    have hid := blkAt_len hbl
    obtain ⟨a1, hrw, hpo⟩ := hat a.toNat _ _ (List.getElem?_eq_getElem hri) (List.getElem?_eq_getElem hai)
    have hsz := BridgeS.sz_at (List.getElem_mem hai)
    have hsz2 : (n.bridges[a.toNat]).ports.length ≤ 1048576 := by have : (n.bridges[a.toNat]).sz = (n.bridges[a.toNat]).ports.length := rfl; omega
    have w2 : IntKind.i64.wrap (((n.bridges[a.toNat]).ports.length : Int) - 1) = ((n.bridges[a.toNat]).ports.length : Int) - 1 := wrap64 (by omega) (by omega)
    have hd1 : a < (n.bridges.length : Int) := by omega
    have hd0 : 0 ≤ a := by omega
    simp [indexAddrV, elemIs, hid, hbl, hbe, hrow, hd0, hd1, hrw, Net.enc, Bridge.enc, builtinV, pureB, lenV, w2, l1In]
    refine gdL_t (fun he => ?_) (fun he => ?_)
    · simp [he]
      simp at he
      have hpk : p.toNat < (n.bridges[a.toNat]).ports.length := by omega
      obtain ⟨id3, r3, bl3, rfl, hbl3, hbe3, hrow3⟩ := hpo p.toNat _ (by simp [hpk]; rfl)
      have hid3 := blkAt_len hbl3
      have he1 : p < ((n.bridges[a.toNat]).ports.length : Int) := by omega
      have he0 : 0 ≤ p := by omega
      simp [indexAddrV, elemIs, hid, hbl, hbe, hrow, hd0, hd1, hrw, Net.enc, Bridge.enc, hid3, hbl3, hbe3, hrow3, he0, he1, Port.enc]
      refine hQ _ _ _ (by simp) ?_
      have hfin : endUpB n a p = (n.bridges[a.toNat]).ports[p.toNat].up := by
        rw [Bool.eq_iff_iff, endUpB_iff]
        constructor
        · rintro ⟨i, k, b, q, h1, h2, h3, h4, h5⟩
          subst h1; subst h2
          simp at hai hpk
          rw [List.getElem?_eq_getElem hai] at h3
          injection h3 with h3
          subst h3
          rw [List.getElem?_eq_getElem hpk] at h4
          injection h4 with h4
          subst h4
          simpa using h5
        · intro h
          exact ⟨a.toNat, p.toNat, _, _, by omega, by omega, List.getElem?_eq_getElem hai, List.getElem?_eq_getElem hpk, h⟩
      simp [Try.f113, hfin]
    · simp [he]
      simp at he
      refine no _ _ ⟨_, rfl⟩ (by simp) ?_
      rintro ⟨i, k, b, q, h1, h2, h3, h4, h5⟩
      subst h1; subst h2
      simp at hai he
      rw [List.getElem?_eq_getElem hai] at h3
      injection h3 with h3
      have := (List.getElem?_eq_some_iff.1 h4).1
      rw [h3] at he
      omega
  · simp [hd]
    simp at hd
    refine no _ _ ⟨_, rfl⟩ (by simp) ?_
    rintro ⟨i, k, b, q, h1, h2, h3, h4, h5⟩
    have := (List.getElem?_eq_some_iff.1 h3).1
    omega

theorem specNetP (n : Net) : n.P ↔ (1 ≤ n.bridges.length ∧ n.bridges.length ≤ 5) ∧ n.links.length ≤ 6 ∧ (∀ b ∈ n.bridges, b.ok = true) ∧ (∀ (i j : Nat) (b c : Bridge), i < j → n.bridges[i]? = some b → n.bridges[j]? = some c → b.id ≠ c.id) ∧
    (∀ (i k : Nat) (b : Bridge) (p : Port), n.bridges[i]? = some b → b.ports[k]? = some p → (endsOf n.links).count ((i : Int), (k : Int)) = if p.up then 1 else 0) ∧ (∀ l ∈ n.links, l.a ≠ l.b ∧ endUpP n l.a l.p ∧ endUpP n l.b l.q) := by
  have memE : ∀ e : Int × Int, e ∈ endsOf n.links → ∃ l ∈ n.links, e = (l.a, l.p) ∨ e = (l.b, l.q) := fun e he => by
    unfold endsOf at he
    obtain ⟨l, hl, h⟩ := List.mem_flatMap.1 he
    simp at h
    exact ⟨l, hl, h⟩
  have inE : ∀ l ∈ n.links, (l.a, l.p) ∈ endsOf n.links ∧ (l.b, l.q) ∈ endsOf n.links := fun l hl => by
    unfold endsOf
    exact ⟨List.mem_flatMap.2 ⟨l, hl, by simp⟩, List.mem_flatMap.2 ⟨l, hl, by simp⟩⟩
  unfold Net.P
  constructor
  · rintro ⟨h1, h2, h3, h4, h5, h6, h7⟩
    refine ⟨h1, h2, h3, h4, fun i k b p hb hp => ?_, fun l hl => ?_⟩
    · have hc := List.nodup_iff_count.1 h6 ((i : Int), (k : Int))
      have hm := h7 i k b p hb hp
      cases hu : p.up
      · simp only [hu] at hm
        simp
        refine List.count_eq_zero.2 fun h => ?_
        simp [h] at hm
      · simp only [hu] at hm
        have := List.count_pos_iff.2 (hm.1 trivial)
        simp
        omega
    · obtain ⟨h8, ⟨i, k, b, e1, e2, e3, e4⟩, ⟨i', k', b', f1, f2, f3, f4⟩⟩ := h5 l hl
      refine ⟨h8, ⟨i, k, b, b.ports[k], e1, e2, e3, List.getElem?_eq_getElem e4, ?_⟩, ⟨i', k', b', b'.ports[k'], f1, f2, f3, List.getElem?_eq_getElem f4, ?_⟩⟩
      · refine (h7 i k b _ e3 (List.getElem?_eq_getElem e4)).2 ?_
        rw [← e1, ← e2]; exact (inE l hl).1
      · refine (h7 i' k' b' _ f3 (List.getElem?_eq_getElem f4)).2 ?_
        rw [← f1, ← f2]; exact (inE l hl).2
  · rintro ⟨h1, h2, h3, h4, h5, h6⟩
    refine ⟨h1, h2, h3, h4, fun l hl => ?_, ?_, fun i k b p hb hp => ?_⟩
    · obtain ⟨h8, ⟨i, k, b, q, e1, e2, e3, e4, -⟩, ⟨i', k', b', q', f1, f2, f3, f4, -⟩⟩ := h6 l hl
      exact ⟨h8, ⟨i, k, b, e1, e2, e3, (List.getElem?_eq_some_iff.1 e4).1⟩, ⟨i', k', b', f1, f2, f3, (List.getElem?_eq_some_iff.1 f4).1⟩⟩
    · refine List.nodup_iff_count.2 fun e => ?_
      by_cases he : e ∈ endsOf n.links
      · obtain ⟨l, hl, he⟩ := memE e he
        obtain ⟨h8, ⟨i, k, b, q, e1, e2, e3, e4, -⟩, ⟨i', k', b', q', f1, f2, f3, f4, -⟩⟩ := h6 l hl
        rcases he with rfl | rfl
        · rw [e1, e2, h5 i k b q e3 e4]; split <;> omega
        · rw [f1, f2, h5 i' k' b' q' f3 f4]; split <;> omega
      · rw [List.count_eq_zero.2 he]; omega
    · have hc := h5 i k b p hb hp
      rw [← List.count_pos_iff, hc]
      cases p.up <;> simp

theorem specNetOk_is {H : Heap} {l : List Lf} {n : Net} (h : RdNet H l n) (hn : n.sz ≤ 1048576) : run env 49 [.agg l] H = some (.bool n.ok, H) := by
  have hR := h
  have hn0 := hn
  obtain ⟨_, _, rfl, ⟨a0, rws, rfl, hs, hlen, hat⟩, ⟨c, rfl, hc1⟩⟩ := h
  unfold Net.sz at hn
  have hbl0 := BridgeS.sz_len n.bridges
  have e2 := fun G a p => l10Once (hR.app G) hn0 a p
  have e3 := fun G a p => l10End (hR.app G) hn0 a p
  simp only [Net.enc] at e2 e3
  refine run_walk ok49 Try.func49 rfl (by simp [Try.f49]) fun Q hQ => ?_
  simp only [Try.f49, strip, stripL, stripI, stripG, chkT, tagsB, tagsL, tagD, addT, tagA, lookN, tagOp, elmT, ty22, ty23, ty28, ty29, ty37, ty38, ty39, ty40, ty41, ty50, ty51, ty52, ty53, ty72, ty81, ty141, ty189, Nat.reduceEqDiff, if_false, reduceIte, Option.getD_some, Option.getD_none, dstAt, dstOk, Nat.reduceLT, decide_true, if_true]
  have bad : ¬ n.P → ∀ tm H', (∃ G, H' = H ++ G) → tm 2 = .bool false → Q .ret tm H' := by
    rintro hx tm _ ⟨G, rfl⟩ h4
    refine hQ _ _ _ (by simp) ?_
    simp [Try.f49, h4, Net.ok_false hx]
  obtain ⟨B, hB⟩ : ∃ B : Option Blk, B = some ⟨31, .wr, [[.sl a0 n.bridges.length, .sl c n.links.length]]⟩ := ⟨_, rfl⟩
  simp [Net.enc, builtinV, pureB, lenV, l1In]
  refine gdL_f (fun hd => ?_) (fun hd => ?_)
  · simp [hd]
    refine bad (fun hp => ?_) _ _ ⟨_, rfl⟩ (by simp)
    have := hp.1
    simp at hd
    omega
  simp [hd, builtinV, pureB, lenV]
  refine selS_intro (fun hd2 => ?_) (fun hd2 => ?_)
  · simp
    refine bad (fun hp => ?_) _ _ ⟨_, rfl⟩ (by simp)
    have := hp.2.1
    simp at hd2
    omega
  simp at hd hd2
  simp
  refine wpS_loop (fun j tm H' => ∃ i, i + j = n.bridges.length ∧ tm 1 = .ptr H.length 0 0 ∧ tm 3 = .int i ∧ H' = H ++ [B] ∧
      (∀ (i' : Nat) (b : Bridge), i' < i → n.bridges[i']? = some b → b.ok = true) ∧ (∀ (i' j' : Nat) (b d : Bridge), i' < j' → j' < i → n.bridges[i']? = some b → n.bridges[j']? = some d → b.id ≠ d.id) ∧
      ∀ (i' k : Nat) (b : Bridge) (p : Port), i' < i → n.bridges[i']? = some b → b.ports[k]? = some p → (endsOf n.links).count ((i' : Int), (k : Int)) = if p.up then 1 else 0) n.bridges.length (by rw [env_K]; omega)
    ⟨0, by simp, by simp, by simp, by simp [hB], by simp, by simp, by simp⟩ ?_
  rintro j tm H' hj ⟨i, hij, t1, t3, rfl, hok, hid, hct⟩ Q2 hn2 he2 hr2
  simp [t1, t3, hB, builtinV, pureB, lenV]
  refine selS_intro (fun hc => ?_) (fun hc => ?_)
  · simp at hc
    have hri : i < rws.length := by omega
    obtain ⟨id2, r, bl, rfl, hbl, hbe, hrow⟩ := hs i _ (List.getElem?_eq_getElem hri)
    have hid2 := blkAt_len hbl
    have he := hat i _ _ (List.getElem?_eq_getElem hri) (List.getElem?_eq_getElem hc)
    have hsz := BridgeS.sz_at (List.getElem_mem hc)
    have hsz2 : (n.bridges[i]).ports.length ≤ 1048576 := by have : (n.bridges[i]).sz = (n.bridges[i]).ports.length := rfl; omega
    have e1 := fun G => specBridgeOk_is (he.app G) (by omega)
    obtain ⟨a1, hrw, hpo⟩ := he
    rw [hrw] at e1 hrow
    simp only [Bridge.enc] at e1 hrow
    have g4 : IntKind.i64.wrap ((i : Int) + 1) = (i : Int) + 1 := wrap64 (by omega) (by omega)
    simp [t1, t3, indexAddrV, elemIs, hid2, hbl, hbe, hc, hrow, e1]
    refine selS_intro (fun hd => ?_) (fun hd => ?_)
    · simp
      refine hr2 _ _ ?_
      simp
      refine bad (fun hp => ?_) _ _ ⟨_, rfl⟩ (by simp)
      have := hp.2.2.1 _ (List.getElem_mem hc)
      simp [this] at hd
    simp
    refine wpS_loop (fun j tm H' => ∃ k, k + j = i ∧ tm 1 = .ptr H.length 0 0 ∧ tm 3 = .int i ∧ tm 4 = .int k ∧ H' = H ++ [B] ∧
        ∀ (k' : Nat) (b : Bridge), k' < k → n.bridges[k']? = some b → b.id ≠ (n.bridges[i]).id) i (by rw [env_K]; omega)
      ⟨0, by simp, by simp [t1], by simp [t3], by simp, by simp [hB], by simp⟩ ?_
    rintro j2 tm H' hj2 ⟨k, hij2, t1, t3, t4, rfl, hne2⟩ Q3 hn3 he3 hr3
    simp [t1, t3, t4]
    refine selS_intro (fun hc2 => ?_) (fun hc2 => ?_)
    · simp at hc2
      have hck : k < n.bridges.length := by omega
      have hrk : k < rws.length := by omega
      obtain ⟨id3, r3, bl3, h0, hbl3, hbe3, hrow3⟩ := hs k _ (List.getElem?_eq_getElem hrk)
      cases h0
      rw [hbl] at hbl3
      injection hbl3 with hbl3
      subst hbl3
      obtain ⟨a3, hrw3, hpo3⟩ := hat k _ _ (List.getElem?_eq_getElem hrk) (List.getElem?_eq_getElem hck)
      rw [hrw3] at hrow3
      simp only [Bridge.enc] at hrow3
      have g5 : IntKind.i64.wrap ((k : Int) + 1) = (k : Int) + 1 := wrap64 (by omega) (by omega)
      simp [t1, t3, t4, hB, indexAddrV, elemIs, hid2, hbl, hbe, hc, hck, hrow, hrow3]
      refine selS_intro (fun hd2 => ?_) (fun hd2 => ?_)
      · simp
        refine hr3 _ _ ?_
        simp
        refine hr2 _ _ ?_
        simp
        refine bad (fun hp => ?_) _ _ ⟨_, rfl⟩ (by simp)
        simp at hd2
        exact hp.2.2.2.1 k i _ _ (by omega) (List.getElem?_eq_getElem hck) (List.getElem?_eq_getElem hc) hd2
      · simp [t1, t3, t4, g5]
        refine hn3 (j2 - 1) _ _ (by omega) ⟨k + 1, by omega, by simp [t1], by simp [t3], by simp, by rw [hB], ?_⟩
        intro k' b hk' hb'
        rcases Nat.lt_or_ge k' k with hlt | hge
        · exact hne2 k' b hlt hb'
        · obtain rfl : k' = k := by omega
          rw [List.getElem?_eq_getElem hck] at hb'
          injection hb' with hb'
          subst hb'
          simpa using hd2
    · simp at hc2
      simp [t1, t3, t4]
      refine he3 _ _ _ ?_
      simp
      refine wpS_loop (fun j tm H' => ∃ k, k + j = (n.bridges[i]).ports.length ∧ tm 1 = .ptr H.length 0 0 ∧ tm 3 = .int i ∧ tm 5 = .int k ∧ H' = H ++ [B] ∧
          ∀ (k' : Nat) (p : Port), k' < k → (n.bridges[i]).ports[k']? = some p → (endsOf n.links).count ((i : Int), (k' : Int)) = if p.up then 1 else 0) (n.bridges[i]).ports.length (by rw [env_K]; omega)
        ⟨0, by simp, by simp [t1], by simp [t3], by simp, by simp, by simp⟩ ?_
      rintro j3 tm H' hj3 ⟨k2, hij3, t1, t3, t5, rfl, hup2⟩ Q4 hn4 he4 hr4
      simp [t1, t3, t5, hB, indexAddrV, elemIs, hid2, hbl, hbe, hc, hrow, builtinV, pureB, lenV]
      refine selS_intro (fun hc3 => ?_) (fun hc3 => ?_)
      · simp at hc3
        obtain ⟨id4, r4, bl4, rfl, hbl4, hbe4, hrow4⟩ := hpo k2 _ (by simp [hc3]; rfl)
        have hid4 := blkAt_len hbl4
        have g5 : IntKind.i64.wrap ((k2 : Int) + 1) = (k2 : Int) + 1 := wrap64 (by omega) (by omega)
        simp [t1, t3, t5, indexAddrV, elemIs, hid2, hbl, hbe, hc, hrow, hid4, hbl4, hbe4, hc3, hrow4, Port.enc, e2, l1Bit]
        refine selS_intro (fun hd3 => ?_) (fun hd3 => ?_)
        · simp
          refine hr4 _ _ ?_
          simp
          refine hr2 _ _ ?_
          simp
          refine bad (fun hp => ?_) _ _ ⟨_, rfl⟩ (by simp)
          have h1 := ((specNetP n).1 hp).2.2.2.2.1 i k2 _ _ (List.getElem?_eq_getElem hc) (List.getElem?_eq_getElem hc3)
          rw [h1] at hd3
          revert hd3
          cases (n.bridges[i]).ports[k2].up <;> simp
        · simp [t1, t3, t5, g5]
          refine hn4 (j3 - 1) _ _ (by omega) ⟨k2 + 1, by omega, by simp [t1], by simp [t3], by simp, by rw [hB], ?_⟩
          intro k' p hk' hp
          rcases Nat.lt_or_ge k' k2 with hlt | hge
          · exact hup2 k' p hlt hp
          · obtain rfl : k' = k2 := by omega
            rw [List.getElem?_eq_getElem hc3] at hp
            injection hp with hp
            subst hp
            revert hd3
            cases (n.bridges[i]).ports[k'].up <;> simp <;> omega
      · simp at hc3
        simp [t1, t3, t5]
        refine he4 _ _ _ ?_
        simp [t1, t3, g4]
        refine hn2 (j - 1) _ _ (by omega) ⟨i + 1, by omega, by simp [t1], by simp, by rw [hB], ?_, ?_, ?_⟩
        · intro i' b hi' hb'
          rcases Nat.lt_or_ge i' i with hlt | hge
          · exact hok i' b hlt hb'
          · obtain rfl : i' = i := by omega
            rw [List.getElem?_eq_getElem hc] at hb'
            injection hb' with hb'
            subst hb'
            simpa using hd
        · intro i' j' b d hij' hj' hb' hd'
          rcases Nat.lt_or_ge j' i with hlt | hge
          · exact hid i' j' b d hij' hlt hb' hd'
          · obtain rfl : j' = i := by omega
            rw [List.getElem?_eq_getElem hc] at hd'
            injection hd' with hd'
            subst hd'
            exact hne2 i' b (by omega) hb'
        · intro i' k' b p hi' hb' hp'
          rcases Nat.lt_or_ge i' i with hlt | hge
          · exact hct i' k' b p hlt hb' hp'
          · obtain rfl : i' = i := by omega
            rw [List.getElem?_eq_getElem hc] at hb'
            injection hb' with hb'
            subst hb'
            exact hup2 k' p (by have := (List.getElem?_eq_some_iff.1 hp').1; omega) hp'
  · simp at hc
    obtain rfl : i = n.bridges.length := by omega
    have hall : ∀ b ∈ n.bridges, b.ok = true := fun b hb => by
      obtain ⟨i', hi', rfl⟩ := List.mem_iff_getElem.1 hb
      exact hok i' _ hi' (List.getElem?_eq_getElem hi')
    have hids : ∀ (i j : Nat) (b c : Bridge), i < j → n.bridges[i]? = some b → n.bridges[j]? = some c → b.id ≠ c.id := fun i' j' b d h1 h2 h3 => hid i' j' b d h1 (List.getElem?_eq_some_iff.1 h3).1 h2 h3
    have hcts : ∀ (i k : Nat) (b : Bridge) (p : Port), n.bridges[i]? = some b → b.ports[k]? = some p → (endsOf n.links).count ((i : Int), (k : Int)) = if p.up then 1 else 0 := fun i' k' b p h1 h2 => hct i' k' b p (List.getElem?_eq_some_iff.1 h1).1 h1 h2
    simp [t1, t3]
    refine he2 _ _ _ ?_
    simp
    refine wpS_loop (fun j tm H' => ∃ i T, i + j = n.links.length ∧ tm 1 = .ptr H.length 0 0 ∧ tm 6 = .int i ∧ H' = H ++ B :: T ∧ ∀ l ∈ n.links.take i, l.a ≠ l.b ∧ endUpP n l.a l.p ∧ endUpP n l.b l.q) n.links.length (by rw [env_K]; omega)
      ⟨0, [], by simp, by simp [t1], by simp, by simp [hB], by simp⟩ ?_
    rintro j5 tm H' hj5 ⟨i, T, hij, t1, t6, rfl, hlk⟩ Q5 hn5 he5 hr5
    simp [t1, t6, hB, builtinV, pureB, lenV]
    refine selS_intro (fun hc => ?_) (fun hc => ?_)
    · simp at hc
      obtain ⟨id2, r, bl, rfl, hbl, hbe, hrow⟩ := hc1 i _ (by simp [hc]; rfl)
      have hid := blkAt_len hbl
      have g4 : IntKind.i64.wrap ((i : Int) + 1) = (i : Int) + 1 := wrap64 (by omega) (by omega)
      obtain ⟨L, hL⟩ : ∃ L, L = n.links[i] := ⟨_, rfl⟩
      have hLm : L ∈ n.links := by rw [hL]; exact List.getElem_mem hc
      simp [t1, t6, indexAddrV, elemIs, hid, hbl, hbe, hc, hrow, ← hL, Link.enc]
      repeat' (first | (refine gdL_t (fun h => ?_) (fun h => ?_) <;> simp [h, e3, t1, t6]) | (refine gdL_f (fun h => ?_) (fun h => ?_) <;> simp [h, e3, t1, t6]) | (refine selS_intro (fun h => ?_) (fun h => ?_) <;> simp [h, e3, t1, t6]))
      · refine hr5 _ _ ?_
        simp
        refine bad (fun hp => ?_) _ _ ⟨_, rfl⟩ (by simp)
        exact (((specNetP n).1 hp).2.2.2.2.2 L hLm).1 (by simpa using h)
      · refine hr5 _ _ ?_
        simp
        refine bad (fun hp => ?_) _ _ ⟨_, rfl⟩ (by simp)
        have := (endUpB_iff n L.a L.p).2 (((specNetP n).1 hp).2.2.2.2.2 L hLm).2.1
        simp [this] at h
      · refine hr5 _ _ ?_
        simp
        refine bad (fun hp => ?_) _ _ ⟨_, rfl⟩ (by simp)
        have := (endUpB_iff n L.b L.q).2 (((specNetP n).1 hp).2.2.2.2.2 L hLm).2.2
        simp [this] at h
      · simp [t1, t6, g4]
        refine hn5 (j5 - 1) _ _ (by omega) ⟨i + 1, _, by omega, by simp [t1], by simp, by rw [hB], ?_⟩
        intro l hl
        rw [List.take_add_one, List.getElem?_eq_getElem hc, List.mem_append] at hl
        rcases hl with hl | hl
        · exact hlk l hl
        · simp at hl
          subst hl
          rw [← hL]
          exact ⟨by simp_all, (endUpB_iff n L.a L.p).1 (by simp_all), (endUpB_iff n L.b L.q).1 (by simp_all)⟩
    · simp at hc
      rw [List.take_of_length_le (by omega)] at hlk
      simp [t1, t6]
      refine he5 _ _ _ ?_
      simp
      refine hQ _ _ _ (by simp) ?_
      have hfin : n.ok = true := (Net.ok_iff n).2 ((specNetP n).2 ⟨⟨by omega, by omega⟩, by omega, hall, hids, hcts, hlk⟩)
      simp [Try.f49, hfin]

def openAt (n : Net) (a p : Int) : Bool := match n.bridges[a.toNat]? with
  | some b => match b.ports[p.toNat]? with
    | some q => q.opn
    | none => false
  | none => false
def passesAt (n : Net) (k : Nat) : Bool := match n.links[k]? with
  | some l => openAt n l.a l.p && openAt n l.b l.q
  | none => false
noncomputable def passes (n : Net) (link : Int) : Bool := n.ok && (decide (0 ≤ link) && decide (link < (n.links.length : Int))) && passesAt n link.toNat
/-- What is there at an end. -/
theorem endAt {H : Heap} {n : Net} {rws : List (List Lf)} {id r : Nat} {bl : Blk} (hlen : rws.length = n.bridges.length) (hs : Sl H 74 (some (id, r)) rws) (hbl : blkAt H id = some bl) (hat : ∀ (i : Nat) (row : List Lf) (x : Bridge), rws[i]? = some row → n.bridges[i]? = some x → RdBridge H row x)
    {a p : Int} (h : isEndP n a p) : ∃ (b : Bridge) (a1 : Option (Nat × Nat)) (q : Port) (id3 r3 : Nat) (bl3 : Blk), 0 ≤ a ∧ a < (n.bridges.length : Int) ∧ bl.rows[r + a.toNat]? = some (b.enc a1) ∧ 0 ≤ p ∧ p < (b.ports.length : Int) ∧ a1 = some (id3, r3) ∧ id3 < H.length ∧ blkAt H id3 = some bl3 ∧ bl3.elem = 148 ∧ bl3.rows[r3 + p.toNat]? = some q.enc ∧ openAt n a p = q.opn := by
  obtain ⟨i, k, b, rfl, rfl, hb, hk⟩ := h
  have hi := (List.getElem?_eq_some_iff.1 hb).1
  have hri : i < rws.length := by omega
  obtain ⟨id2, r2, bl2, h0, hbl2, hbe, hrow⟩ := hs i _ (List.getElem?_eq_getElem hri)
  cases h0
  rw [hbl] at hbl2
  injection hbl2 with hbl2
  subst hbl2
  obtain ⟨a1, hrw, hpo⟩ := hat i _ _ (List.getElem?_eq_getElem hri) hb
  obtain ⟨id3, r3, bl3, rfl, hbl3, hbe3, hrow3⟩ := hpo k _ (by simp [hk]; rfl)
  exact ⟨b, some (id3, r3), b.ports[k], id3, r3, bl3, by omega, by omega, by simpa [hrw] using hrow, by omega, by omega, rfl, blkAt_len hbl3, hbl3, hbe3, by simpa using hrow3, by simp [openAt, hb, hk]⟩

theorem passesM {H : Heap} {id : Nat} {l : List Lf} {n : Net} (hb : blkAt H id = some ⟨31, .wr, [l]⟩) (h : RdNet H l n) (hp : n.P) (k : Nat) (hk : k < n.links.length) :
    run env 55 [.ptr id 0 0, .int k] H = some (.bool (passesAt n k), H) := by
  obtain ⟨_, _, rfl, ⟨a0, rws, rfl, hs, hlen, hat⟩, ⟨c, rfl, hc1⟩⟩ := h
  have hid0 := blkAt_len hb
  obtain ⟨id2, r, bl, rfl, hbl, hbe, hrow⟩ := hc1 k _ (by simp [hk]; rfl)
  have hid := blkAt_len hbl
  obtain ⟨L, hL⟩ : ∃ L, L = n.links[k] := ⟨_, rfl⟩
  have hLm : L ∈ n.links := by rw [hL]; exact List.getElem_mem hk
  have hx := hp.2.2.2.2.1 L hLm
  have h1 : 1 ≤ n.bridges.length := hp.1.1
  obtain ⟨id0, r0, bl0, rfl, hbl0, hbe0, -⟩ := hs 0 _ (List.getElem?_eq_getElem (by omega))
  have hid00 := blkAt_len hbl0
  obtain ⟨b1, a1, q1, id3, r3, bl3, e1, e2, e3, e4, e5, rfl, e7, e8, e9, e10, e11⟩ := endAt hlen hs hbl0 hat hx.2.1
  obtain ⟨b2, a2, q2, id4, r4, bl4, f1, f2, f3, f4, f5, rfl, f7, f8, f9, f10, f11⟩ := endAt hlen hs hbl0 hat hx.2.2
  have hpa : passesAt n k = (q1.opn && q2.opn) := by
    unfold passesAt
    rw [List.getElem?_eq_getElem hk, ← hL]
    simp [e11, f11]
  refine run_walk ok55 Try.func55 rfl (by simp [Try.f55]) fun Q hQ => ?_
  simp only [Try.f55, strip, stripL, stripI, stripG, chkT, tagsB, tagsL, tagD, addT, tagA, lookN, tagOp, elmT, ty22, ty23, ty28, ty29, ty37, ty38, ty39, ty40, ty41, ty50, ty51, ty52, ty53, ty72, ty81, ty141, ty189, Nat.reduceEqDiff, if_false, reduceIte, Option.getD_some, Option.getD_none, dstAt, dstOk, Nat.reduceLT, decide_true, if_true]
  simp [hb, hid0, Net.enc, indexAddrV, elemIs, hid, hbl, hbe, hk, hrow, ← hL, Link.enc, hid00, hbl0, hbe0, e1, e2, e3, e4, e5, e7, e8, e9, e10, Bridge.enc, Port.enc]
  repeat' (first | (refine gdL_t (fun h => ?_) (fun h => ?_) <;> simp [h, hb, hid0, Net.enc, indexAddrV, elemIs, hid00, hbl0, hbe0, f1, f2, f3, f4, f5, f7, f8, f9, f10, Bridge.enc, Port.enc]) | (refine gdL_f (fun h => ?_) (fun h => ?_) <;> simp [h, hb, hid0, Net.enc, indexAddrV, elemIs, hid00, hbl0, hbe0, f1, f2, f3, f4, f5, f7, f8, f9, f10, Bridge.enc, Port.enc]) | (refine selS_intro (fun h => ?_) (fun h => ?_) <;> simp [h, hb, hid0, Net.enc, indexAddrV, elemIs, hid00, hbl0, hbe0, f1, f2, f3, f4, f5, f7, f8, f9, f10, Bridge.enc, Port.enc]))
  all_goals (refine hQ _ _ _ (by simp) ?_)
  all_goals (clear hQ; simp_all [Try.f55])

theorem specPasses_is {H : Heap} {l : List Lf} {n : Net} (h : RdNet H l n) (hn : n.sz ≤ 1048576) (k : Int) (_ : I64 k) : run env 59 [.agg l, .int k] H = some (.bool (passes n k), H) := by
  have hR := h
  obtain ⟨_, _, rfl, ⟨a0, rws, rfl, hs, hlen, hat⟩, ⟨c, rfl, hc1⟩⟩ := h
  have hl : n.links.length ≤ 1048576 := by unfold Net.sz at hn; omega
  have e1 := fun G => specNetOk_is (hR.app G) hn
  have w1 : IntKind.i64.wrap ((n.links.length : Int) - 1) = (n.links.length : Int) - 1 := wrap64 (by omega) (by omega)
  simp only [Net.enc] at e1
  refine run_walk ok59 Try.func59 rfl (by simp [Try.f59]) fun Q hQ => ?_
  simp only [Try.f59, strip, stripL, stripI, stripG, chkT, tagsB, tagsL, tagD, addT, tagA, lookN, tagOp, elmT, ty22, ty23, ty28, ty29, ty37, ty38, ty39, ty40, ty41, ty50, ty51, ty52, ty53, ty72, ty81, ty141, ty189, Nat.reduceEqDiff, if_false, reduceIte, Option.getD_some, Option.getD_none, dstAt, dstOk, Nat.reduceLT, decide_true, if_true]
  have no : ∀ tm H', (∃ G, H' = H ++ G) → tm 4 = .bool false → passes n k = false → Q .ret tm H' := by
    rintro tm _ ⟨G, rfl⟩ h6 hx
    refine hQ _ _ _ (by simp) ?_
    simp [Try.f59, h6, hx]
  simp [Net.enc, e1]
  refine gdL_f (fun hd => ?_) (fun hd => ?_)
  · simp [hd]
    simp at hd
    refine no _ _ ⟨_, rfl⟩ (by simp) ?_
    simp [passes, hd]
  simp [hd, builtinV, pureB, lenV, w1, l1In]
  simp at hd
  refine selS_intro (fun he => ?_) (fun he => ?_)
  · simp
    simp at he
    refine no _ _ ⟨_, rfl⟩ (by simp) ?_
    unfold passes
    have : (decide (0 ≤ k) && decide (k < (n.links.length : Int))) = false := by
      rw [Bool.and_eq_false_iff]
      simp
      omega
    rw [this]; simp
  simp at he
  have hp := (Net.ok_iff n).1 hd
  obtain ⟨k, rfl⟩ : ∃ k' : Nat, k = k' := ⟨k.toNat, by omega⟩
  have hk : k < n.links.length := by omega
  obtain ⟨id2, r, bl, rfl, hbl, hbe, hrow⟩ := hc1 k _ (by simp [hk]; rfl)
  have hid := blkAt_len hbl
  obtain ⟨L, hL⟩ : ∃ L, L = n.links[k] := ⟨_, rfl⟩
  have hLm : L ∈ n.links := by rw [hL]; exact List.getElem_mem hk
  have hx := hp.2.2.2.2.1 L hLm
  have h1 : 1 ≤ n.bridges.length := hp.1.1
  obtain ⟨id0, r0, bl0, rfl, hbl0, hbe0, -⟩ := hs 0 _ (List.getElem?_eq_getElem (by omega))
  have hid00 := blkAt_len hbl0
  obtain ⟨b1, a1, q1, id3, r3, bl3, e1, e2, e3, e4, e5, rfl, e7, e8, e9, e10, e11⟩ := endAt hlen hs hbl0 hat hx.2.1
  obtain ⟨b2, a2, q2, id4, r4, bl4, f1, f2, f3, f4, f5, rfl, f7, f8, f9, f10, f11⟩ := endAt hlen hs hbl0 hat hx.2.2
  have hpa : passes n k = (q1.opn && q2.opn) := by
    have h2 : passesAt n k = (q1.opn && q2.opn) := by
      unfold passesAt
      rw [List.getElem?_eq_getElem hk, ← hL]
      simp [e11, f11]
    unfold passes
    rw [hd]
    simp [h2, hk]
  simp [Net.enc, indexAddrV, elemIs, hid, hbl, hbe, hk, hrow, ← hL, Link.enc, hid00, hbl0, hbe0, e1, e2, e3, e4, e5, e7, e8, e9, e10, Bridge.enc, Port.enc]
  repeat' (first | (refine gdL_t (fun h => ?_) (fun h => ?_) <;> simp [h, Net.enc, indexAddrV, elemIs, hid00, hbl0, hbe0, f1, f2, f3, f4, f5, f7, f8, f9, f10, Bridge.enc, Port.enc]) | (refine gdL_f (fun h => ?_) (fun h => ?_) <;> simp [h, Net.enc, indexAddrV, elemIs, hid00, hbl0, hbe0, f1, f2, f3, f4, f5, f7, f8, f9, f10, Bridge.enc, Port.enc]) | (refine selS_intro (fun h => ?_) (fun h => ?_) <;> simp [h, Net.enc, indexAddrV, elemIs, hid00, hbl0, hbe0, f1, f2, f3, f4, f5, f7, f8, f9, f10, Bridge.enc, Port.enc]))
  all_goals (refine hQ _ _ _ (by simp) ?_)
  all_goals (clear hQ no; simp_all [Try.f59])

def better (a b : Vec) : Bool := if a.root ≠ b.root then decide (a.root < b.root) else if a.cost ≠ b.cost then decide (a.cost < b.cost) else if a.bridge ≠ b.bridge then decide (a.bridge < b.bridge) else decide (a.port < b.port)
def cmpI' (a b : Int) : Int := if a < b then -1 else if b < a then 1 else 0
def orL (xs : List Int) : Int := (xs.find? fun x => !decide (x = 0)).getD 0

theorem cmpNaN (H : Heap) (a : Int) : run env 190 [.int a] H = some (.bool false, H) := by
  refine run_walk ok190 Try.func190 rfl (by simp [Try.f190]) fun Q hQ => ?_
  simp only [Try.f190, strip, stripL, stripI, stripG, chkT, tagsB, tagsL, tagD, addT, tagA, lookN, tagOp, elmT, ty22, ty23, ty28, ty29, ty37, ty38, ty39, ty40, ty41, ty50, ty51, ty52, ty53, ty72, ty81, ty141, ty189, Nat.reduceEqDiff, if_false, reduceIte, Option.getD_some, Option.getD_none, dstAt, dstOk, Nat.reduceLT, decide_true, if_true]
  simp
  all_goals (refine hQ _ _ _ (by simp) ?_)
  all_goals (clear hQ; simp [Try.f190])

theorem cmpCompare (H : Heap) (a b : Int) : run env 189 [.int a, .int b] H = some (.int (cmpI' a b), H) := by
  refine run_walk ok189 Try.func189 rfl (by simp [Try.f189]) fun Q hQ => ?_
  simp only [Try.f189, strip, stripL, stripI, stripG, chkT, tagsB, tagsL, tagD, addT, tagA, lookN, tagOp, elmT, ty22, ty23, ty28, ty29, ty37, ty38, ty39, ty40, ty41, ty50, ty51, ty52, ty53, ty72, ty81, ty141, ty189, Nat.reduceEqDiff, if_false, reduceIte, Option.getD_some, Option.getD_none, dstAt, dstOk, Nat.reduceLT, decide_true, if_true]
  simp [cmpNaN]
  refine selS_intro (fun h => ?_) (fun h => ?_)
  · simp
    refine hQ _ _ _ (by simp) ?_
    simp at h
    simp [Try.f189, cmpI', h]
  simp
  refine selS_intro (fun h2 => ?_) (fun h2 => ?_)
  all_goals (simp; refine hQ _ _ _ (by simp) ?_; simp at h h2; simp [Try.f189, cmpI']; omega)

theorem cmpOr {H : Heap} {a : Option (Nat × Nat)} {xs : List Int} (h : Sl H 3 a (xs.map encI)) (hn : xs.length ≤ 1048576) :
    run env 188 [.w (.lf (.sl a xs.length))] H = some (.int (orL xs), H) := by
  refine run_walk ok188 Try.func188 rfl (by simp [Try.f188]) fun Q hQ => ?_
  simp only [Try.f188, strip, stripL, stripI, stripG, chkT, tagsB, tagsL, tagD, addT, tagA, lookN, tagOp, elmT, ty22, ty23, ty28, ty29, ty37, ty38, ty39, ty40, ty41, ty50, ty51, ty52, ty53, ty72, ty81, ty141, ty189, Nat.reduceEqDiff, if_false, reduceIte, Option.getD_some, Option.getD_none, dstAt, dstOk, Nat.reduceLT, decide_true, if_true]
  simp [builtinV, pureB, lenV]
  refine wpS_loop (fun j tm H' => ∃ i, i + j = xs.length ∧ tm 3 = .int 0 ∧ tm 6 = .w (.lf (.sl a xs.length)) ∧ tm 7 = .int xs.length ∧ tm 8 = .int i ∧ H' = H ∧ ∀ x ∈ xs.take i, x = 0) xs.length (by rw [env_K]; omega) ⟨0, by simp, by simp, by simp, by simp, by simp, rfl, by simp⟩ ?_
  rintro j tm H' hj ⟨i, hij, t3, t6, t7, t8, rfl, hz⟩ Q2 hn2 he2 hr2
  simp [t3, t6, t7, t8]
  refine selS_intro (fun hc => ?_) (fun hc => ?_)
  · simp at hc
    obtain ⟨id, r, bl, rfl, hbl, hbe, hrow⟩ := h i _ (by simp [hc]; rfl)
    have g4 : IntKind.i64.wrap ((i : Int) + 1) = (i : Int) + 1 := wrap64 (by omega) (by omega)
    simp [t3, t6, t7, t8, indexAddrV, elemIs, hbl, hbe, hc, hrow, encI]
    refine selS_intro (fun hd => ?_) (fun hd => ?_)
    · simp
      refine hr2 _ _ ?_
      simp
      refine hQ _ _ _ (by simp) ?_
      have hf : xs.find? (fun x => !decide (x = 0)) = some xs[i] := by
        rw [List.find?_eq_some_iff_getElem]
        refine ⟨by simpa using hd, i, hc, rfl, fun j hj => ?_⟩
        have := hz xs[j] (List.mem_take_iff_getElem.2 ⟨j, by omega, rfl⟩)
        simp [this]
      simp [Try.f188, orL, hf]
    · simp at hd
      simp [t3, t6, t7, t8, g4]
      refine hn2 (j - 1) _ _ (by omega) ⟨i + 1, by omega, by simp [t3], by simp [t6], by simp [t7], by simp, rfl, ?_⟩
      intro x hx
      rw [List.take_add_one, List.getElem?_eq_getElem hc, List.mem_append] at hx
      rcases hx with hx | hx
      · exact hz x hx
      · simp at hx
        rw [hx]; exact hd
  · simp at hc
    rw [List.take_of_length_le (by omega)] at hz
    simp [t3, t6, t7, t8]
    refine he2 _ _ _ ?_
    simp [t3]
    refine hQ _ _ _ (by simp) ?_
    have hf : xs.find? (fun x => !decide (x = 0)) = none := by
      rw [List.find?_eq_none]
      intro x hx
      simp [hz x hx]
    simp [Try.f188, orL, hf]

theorem implBetter (H : Heap) (x y : Vec) : run env 182 [.agg x.enc, .agg y.enc] H = some (.bool (better x y), H) := by
  have e1 := fun H a b => cmpCompare H a b
  have e3 := fun p q u v B1 B2 => cmpOr (H := H ++ [B1, B2, some ⟨3, .wr, [[.i .i64 p], [.i .i64 q], [.i .i64 u], [.i .i64 v]]⟩]) (a := some (H.length + 2, 0)) (xs := [p, q, u, v]) (Sl.of (by simp [encI])) (by simp)
  simp at e3
  refine run_walk ok182 Try.func182 rfl (by simp [Try.f182]) fun Q hQ => ?_
  simp only [Try.f182, strip, stripL, stripI, stripG, chkT, tagsB, tagsL, tagD, addT, tagA, lookN, tagOp, elmT, ty22, ty23, ty28, ty29, ty37, ty38, ty39, ty40, ty41, ty50, ty51, ty52, ty53, ty72, ty81, ty141, ty189, Nat.reduceEqDiff, if_false, reduceIte, Option.getD_some, Option.getD_none, dstAt, dstOk, Nat.reduceLT, decide_true, if_true]
  simp [Vec.enc, e1, e3]
  refine hQ _ _ _ (by simp) ?_
  simp [Try.f182]
  unfold orL better cmpI'
  by_cases h1 : x.root < y.root <;> by_cases h2 : y.root < x.root <;> by_cases h3 : x.cost < y.cost <;> by_cases h4 : y.cost < x.cost <;> by_cases h5 : x.bridge < y.bridge <;> by_cases h6 : y.bridge < x.bridge <;> by_cases h7 : x.port < y.port <;> by_cases h8 : y.port < x.port <;> simp [h1, h2, h3, h4, h5, h6, h7, h8, List.find?] <;> omega

theorem specBetter (H : Heap) (x y : Vec) : run env 162 [.agg x.enc, .agg y.enc] H = some (.bool (better x y), H) := by
  obtain ⟨a1, a2, a3, a4⟩ := x
  obtain ⟨b1, b2, b3, b4⟩ := y
  refine run_walk ok162 Try.func162 rfl (by simp [Try.f162]) fun Q hQ => ?_
  simp only [Try.f162, strip, stripL, stripI, stripG, chkT, tagsB, tagsL, tagD, addT, tagA, lookN, tagOp, elmT, ty22, ty23, ty28, ty29, ty37, ty38, ty39, ty40, ty41, ty50, ty51, ty52, ty53, ty72, ty81, ty141, ty189, Nat.reduceEqDiff, if_false, reduceIte, Option.getD_some, Option.getD_none, dstAt, dstOk, Nat.reduceLT, decide_true, if_true]
  simp [Vec.enc]
  repeat' (first | (refine gdL_t (fun h => ?_) (fun h => ?_) <;> simp [h]) | (refine gdL_f (fun h => ?_) (fun h => ?_) <;> simp [h]) | (refine selS_intro (fun h => ?_) (fun h => ?_) <;> simp [h]))
  all_goals (refine hQ _ _ _ (by simp) ?_)
  all_goals (clear hQ; simp_all [Try.f162, better])

def rootSkip (b : Bridge) (p : Port) : Bool := !p.has || decide (p.vec.bridge = b.id) || decide (b.id ≤ p.vec.root) || decide (20 ≤ p.vec.cost) || decide (8 ≤ p.hops)
def rootStep (b : Bridge) (best : Int) (i : Nat) (p : Port) : Int := if rootSkip b p then best else if decide (best < 0) || better p.vec (b.ports.getD best.toNat default).vec then i else best
def rootUpto (b : Bridge) : Nat → Int
  | 0 => -1
  | i + 1 => match b.ports[i]? with
    | some p => rootStep b (rootUpto b i) i p
    | none => rootUpto b i
def rootAt (b : Bridge) : Int := rootUpto b b.ports.length
theorem rootUpto_lt (b : Bridge) : ∀ i, -1 ≤ rootUpto b i ∧ rootUpto b i < i
  | 0 => by simp [rootUpto]
  | i + 1 => by
    have ih := rootUpto_lt b i
    unfold rootUpto
    split
    · unfold rootStep
      split
      · omega
      · split <;> omega
    · omega
def rootPort (b : Bridge) : Int × Bool := if b.ok then (rootAt b, decide (0 ≤ rootAt b)) else (-1, false)

theorem rootPortM {H : Heap} {id : Nat} {b : Bridge} {a : Option (Nat × Nat)} (hb : blkAt H id = some ⟨74, .wr, [b.enc a]⟩) (h_ : Sl H 148 a (b.ports.map Port.enc)) (hn : b.ports.length ≤ 1048576) :
    run env 163 [.ptr id 0 0] H = some (.int (rootAt b), H) := by
  have hid0 := blkAt_len hb
  simp only [Bridge.enc] at hb
  have e1 := fun H (c1 c2 c3 c4 d1 d2 d3 d4 : Int) => implBetter H ⟨c1, c2, c3, c4⟩ ⟨d1, d2, d3, d4⟩
  simp only [Vec.enc] at e1
  refine run_walk ok163 Try.func163 rfl (by simp [Try.f163]) fun Q hQ => ?_
  simp only [Try.f163, strip, stripL, stripI, stripG, chkT, tagsB, tagsL, tagD, addT, tagA, lookN, tagOp, elmT, ty22, ty23, ty28, ty29, ty37, ty38, ty39, ty40, ty41, ty50, ty51, ty52, ty53, ty72, ty81, ty141, ty189, Nat.reduceEqDiff, if_false, reduceIte, Option.getD_some, Option.getD_none, dstAt, dstOk, Nat.reduceLT, decide_true, if_true]
  simp [hb, builtinV, pureB, lenV]
  refine wpS_loop (fun j tm H' => ∃ i T, i + j = b.ports.length ∧ tm 0 = .ptr id 0 0 ∧ tm 3 = .int (rootUpto b i) ∧ tm 9 = .w (.lf (.sl a b.ports.length)) ∧ tm 10 = .int b.ports.length ∧ tm 11 = .int i ∧ H' = H ++ T) b.ports.length (by rw [env_K]; omega) ⟨0, [], by simp, by simp, by simp [rootUpto], by simp, by simp, by simp, by simp⟩ ?_
  rintro j tm H' hj ⟨i, T, hij, t0, t3, t9, t10, t11, rfl⟩ Q2 hn2 he2 hr2
  simp [t0, t3, t9, t10, t11]
  refine selS_intro (fun hc => ?_) (fun hc => ?_)
  · simp at hc
    obtain ⟨id2, r, bl, rfl, hbl, hbe, hrow⟩ := h_ i _ (by simp [hc]; rfl)
    have hid := blkAt_len hbl
    have g4 : IntKind.i64.wrap ((i : Int) + 1) = (i : Int) + 1 := wrap64 (by omega) (by omega)
    have hlt := rootUpto_lt b i
    have hstep : rootUpto b (i + 1) = rootStep b (rootUpto b i) i b.ports[i] := by rw [rootUpto, List.getElem?_eq_getElem hc]
    have hskip : ∀ tm', tm' 0 = .ptr id 0 0 → tm' 3 = .int (rootUpto b (i + 1)) → tm' 9 = .w (.lf (.sl (some (id2, r)) b.ports.length)) → tm' 10 = .int b.ports.length → tm' 11 = .int ((i : Int) + 1) → ∀ T', Q2 .normal tm' (H ++ T') := fun tm' a0 a3 a9 a10 a11 T' =>
      hn2 (j - 1) _ _ (by omega) ⟨i + 1, T', by omega, a0, a3, a9, a10, by simpa using a11, rfl⟩
    obtain ⟨p, hp⟩ : ∃ p, p = b.ports[i] := ⟨_, rfl⟩
    rw [← hp] at hstep
    simp [t0, t3, t9, t10, t11, indexAddrV, elemIs, hid, hbl, hbe, hc, hrow, ← hp, Port.enc]
    have skipped : rootSkip b p = true → rootUpto b (i + 1) = rootUpto b i := fun hs => by rw [hstep, rootStep, if_pos hs]
    repeat' (first | (refine gdL_t (fun h => ?_) (fun h => ?_) <;> simp [h, t0, t3, t9, t10, t11, hb, hid0, g4]) | (refine gdL_f (fun h => ?_) (fun h => ?_) <;> simp [h, t0, t3, t9, t10, t11, hb, hid0, g4]) | (refine selS_intro (fun h => ?_) (fun h => ?_) <;> simp [h, t0, t3, t9, t10, t11, hb, hid0, g4]))
    iterate 5 (refine hskip _ (by simp [t0]) ?_ (by simp [t9]) (by simp [t10]) (by simp) _; rw [skipped (by clear hQ hn2 he2 hr2 hskip; simp_all [rootSkip])]; simp [t3])
    · have hns : rootSkip b p = false := by clear hQ hn2 he2 hr2 hskip skipped; simp_all [rootSkip]
      refine hskip _ (by simp [t0]) ?_ (by simp [t9]) (by simp [t10]) (by simp) _
      rw [hstep, rootStep, hns]
      have h0 : rootUpto b i < 0 := by simpa using h
      simp [h0]
    · have hns : rootSkip b p = false := by clear hQ hn2 he2 hr2 hskip skipped; simp_all [rootSkip]
      have h0 : 0 ≤ rootUpto b i := by simpa using h
      have hki : (rootUpto b i).toNat < b.ports.length := by omega
      have hkl : rootUpto b i < (b.ports.length : Int) := by omega
      obtain ⟨id3, r3, bl3, hx3, hbl3, hbe3, hrow3⟩ := h_ (rootUpto b i).toNat _ (by simp [hki]; rfl)
      cases hx3
      rw [hbl] at hbl3
      injection hbl3 with hbl3
      subst hbl3
      have hgd : (b.ports.getD (rootUpto b i).toNat default) = b.ports[(rootUpto b i).toNat] := by simp [List.getD, List.getElem?_eq_getElem hki]
      have hnl : ¬ rootUpto b i < 0 := by omega
      rw [rootStep, hns, hgd] at hstep
      simp only [Bool.false_eq_true, if_false, hnl, decide_false, Bool.false_or] at hstep
      simp [t0, t3, t9, t10, t11, hb, hid0, indexAddrV, elemIs, hid, hbl, hbe, h0, hkl, hrow3, Port.enc, e1]
      refine selS_intro (fun hd => ?_) (fun hd => ?_)
      · simp [t0, t3, t9, t10, t11, g4]
        refine hskip _ (by simp [t0]) ?_ (by simp [t9]) (by simp [t10]) (by simp) _
        rw [hstep, if_pos (by simpa using hd)]
        simp
      · simp [t0, t3, t9, t10, t11, g4]
        refine hskip _ (by simp [t0]) ?_ (by simp [t9]) (by simp [t10]) (by simp) _
        rw [hstep, if_neg (by simpa using hd)]
        simp [t3]
  · simp at hc
    obtain rfl : i = b.ports.length := by omega
    simp [t0, t3, t9, t10, t11]
    refine he2 _ _ _ ?_
    simp [t3]
    refine hQ _ _ _ (by simp) ?_
    simp [Try.f163, rootAt]

theorem implRootPort {H : Heap} {l : List Lf} {b : Bridge} (h : RdBridge H l b) (hn : b.sz ≤ 1048576) : run env 120 [.agg l] H = some (.tup [.lf (.i .i64 (rootPort b).1), .lf (.b (rootPort b).2)], H) := by
  have hR := h
  have e1 := fun G => implBridgeOk_is (hR.app G) (by omega)
  obtain ⟨a, rfl, h⟩ := h
  have e2 := fun G => rootPortM (H := H ++ some ⟨74, .wr, [b.enc a]⟩ :: G) (id := H.length) (b := b) (a := a) (by simp) (h.app _) hn
  refine run_walk ok120 Try.func120 rfl (by simp [Try.f120]) fun Q hQ => ?_
  simp only [Try.f120, strip, stripL, stripI, stripG, chkT, tagsB, tagsL, tagD, addT, tagA, lookN, tagOp, elmT, ty22, ty23, ty28, ty29, ty37, ty38, ty39, ty40, ty41, ty50, ty51, ty52, ty53, ty72, ty81, ty141, ty189, Nat.reduceEqDiff, if_false, reduceIte, Option.getD_some, Option.getD_none, dstAt, dstOk, Nat.reduceLT, decide_true, if_true]
  simp [e1]
  refine selS_intro (fun hd => ?_) (fun hd => ?_)
  · simp at hd
    simp
    refine hQ _ _ _ (by simp) ?_
    simp [Try.f120, rootPort, hd]
  · simp at hd
    simp [e2]
    refine hQ _ _ _ (by simp) ?_
    simp [Try.f120, rootPort, hd]

theorem specRootPort {H : Heap} {l : List Lf} {b : Bridge} (h : RdBridge H l b) (hn : b.sz ≤ 1048576) : run env 119 [.agg l] H = some (.tup [.lf (.i .i64 (rootPort b).1), .lf (.b (rootPort b).2)], H) := by
  have hR := h
  have eo := fun G => specBridgeOk_is (hR.app G) (by omega)
  have e1 := fun H (c1 c2 c3 c4 d1 d2 d3 d4 : Int) => specBetter H ⟨c1, c2, c3, c4⟩ ⟨d1, d2, d3, d4⟩
  simp only [Vec.enc] at e1
  obtain ⟨a, rfl, h_⟩ := h
  have hn : b.ports.length ≤ 1048576 := hn
  simp only [Bridge.enc] at eo
  refine run_walk ok119 Try.func119 rfl (by simp [Try.f119]) fun Q hQ => ?_
  simp only [Try.f119, strip, stripL, stripI, stripG, chkT, tagsB, tagsL, tagD, addT, tagA, lookN, tagOp, elmT, ty22, ty23, ty28, ty29, ty37, ty38, ty39, ty40, ty41, ty50, ty51, ty52, ty53, ty72, ty81, ty141, ty189, Nat.reduceEqDiff, if_false, reduceIte, Option.getD_some, Option.getD_none, dstAt, dstOk, Nat.reduceLT, decide_true, if_true]
  simp
  obtain ⟨B, hB⟩ : ∃ B : Option Blk, B = some ⟨74, .wr, [[.i .i64 b.id, .sl a b.ports.length]]⟩ := ⟨_, rfl⟩
  cases hok : b.ok
  · refine wpS_loop (fun j tm H' => tm 1 = .ptr H.length 0 0 ∧ tm 4 = .int (-1) ∧ tm 5 = .int 0 ∧ H' = H ++ [B]) 0 (by rw [env_K]; omega) ⟨by simp, by simp, by simp, by simp [hB, Bridge.enc]⟩ ?_
    rintro j tm H' hj ⟨t1, t4, t5, rfl⟩ Q2 hn2 he2 hr2
    simp [t1, t4, t5, hB, builtinV, pureB, lenV]
    rw [hok] at eo
    repeat' (first | (refine gdL_t (fun h => ?_) (fun h => ?_) <;> simp [h, t1, eo]) | (refine gdL_f (fun h => ?_) (fun h => ?_) <;> simp [h, t1, eo]) | (refine selS_intro (fun h => ?_) (fun h => ?_) <;> simp [h, t1, eo]))
    all_goals (refine he2 _ _ _ ?_)
    all_goals (simp [t4]; refine hQ _ _ _ (by simp) ?_; simp [Try.f119, rootPort, hok])
  · rw [hok] at eo
    refine wpS_loop (fun j tm H' => ∃ i T, i + j = b.ports.length ∧ tm 1 = .ptr H.length 0 0 ∧ tm 4 = .int (rootUpto b i) ∧ tm 5 = .int i ∧ H' = H ++ B :: T) b.ports.length (by rw [env_K]; omega) ⟨0, [], by simp, by simp, by simp [rootUpto], by simp, by simp [hB, Bridge.enc]⟩ ?_
    rintro j tm H' hj ⟨i, T, hij, t1, t4, t5, rfl⟩ Q2 hn2 he2 hr2
    simp [t1, t4, t5, hB, builtinV, pureB, lenV]
    refine gdL_t (fun hc => ?_) (fun hc => ?_)
    · simp [hc, eo, t1]
      simp at hc
      obtain ⟨id2, r, bl, rfl, hbl, hbe, hrow⟩ := h_ i _ (by simp [hc]; rfl)
      have hid := blkAt_len hbl
      have g4 : IntKind.i64.wrap ((i : Int) + 1) = (i : Int) + 1 := wrap64 (by omega) (by omega)
      have hlt := rootUpto_lt b i
      have hstep : rootUpto b (i + 1) = rootStep b (rootUpto b i) i b.ports[i] := by rw [rootUpto, List.getElem?_eq_getElem hc]
      have hskip : ∀ tm', tm' 1 = .ptr H.length 0 0 → tm' 4 = .int (rootUpto b (i + 1)) → tm' 5 = .int ((i : Int) + 1) → ∀ T', Q2 .normal tm' (H ++ some ⟨74, .wr, [[.i .i64 b.id, .sl (some (id2, r)) b.ports.length]]⟩ :: T') := fun tm' a1 a4 a5 T' =>
        hn2 (j - 1) _ _ (by omega) ⟨i + 1, T', by omega, a1, a4, by simpa using a5, by rw [hB]⟩
      obtain ⟨p, hp⟩ : ∃ p, p = b.ports[i] := ⟨_, rfl⟩
      rw [← hp] at hstep
      have skipped : rootSkip b p = true → rootUpto b (i + 1) = rootUpto b i := fun hs => by rw [hstep, rootStep, if_pos hs]
      simp [t1, t4, t5, indexAddrV, elemIs, hid, hbl, hbe, hc, hrow, ← hp, Port.enc]
      repeat' (first | (refine gdL_t (fun h => ?_) (fun h => ?_) <;> simp [h, t1, t4, t5, g4]) | (refine gdL_f (fun h => ?_) (fun h => ?_) <;> simp [h, t1, t4, t5, g4]) | (refine selS_intro (fun h => ?_) (fun h => ?_) <;> simp [h, t1, t4, t5, g4]))
      iterate 5 (refine hskip _ (by simp [t1]) ?_ (by simp) _; rw [skipped (by clear hQ hn2 he2 hr2 hskip; simp_all [rootSkip])]; simp [t4])
      · have hns : rootSkip b p = false := by clear hQ hn2 he2 hr2 hskip skipped; simp_all [rootSkip]
        refine hskip _ (by simp [t1]) ?_ (by simp) _
        rw [hstep, rootStep, hns]
        have h0 : rootUpto b i < 0 := by simpa using h
        simp [h0]
      · have hns : rootSkip b p = false := by clear hQ hn2 he2 hr2 hskip skipped; simp_all [rootSkip]
        have h0 : 0 ≤ rootUpto b i := by simpa using h
        have hki : (rootUpto b i).toNat < b.ports.length := by omega
        have hkl : rootUpto b i < (b.ports.length : Int) := by omega
        obtain ⟨id3, r3, bl3, hx3, hbl3, hbe3, hrow3⟩ := h_ (rootUpto b i).toNat _ (by simp [hki]; rfl)
        cases hx3
        rw [hbl] at hbl3
        injection hbl3 with hbl3
        subst hbl3
        have hgd : (b.ports.getD (rootUpto b i).toNat default) = b.ports[(rootUpto b i).toNat] := by simp [List.getD, List.getElem?_eq_getElem hki]
        have hnl : ¬ rootUpto b i < 0 := by omega
        rw [rootStep, hns, hgd] at hstep
        simp only [Bool.false_eq_true, if_false, hnl, decide_false, Bool.false_or] at hstep
        simp [t1, t4, t5, indexAddrV, elemIs, hid, hbl, hbe, h0, hkl, hrow3, Port.enc, e1]
        refine selS_intro (fun hd => ?_) (fun hd => ?_)
        · simp [t1, t4, t5, g4]
          refine hskip _ (by simp [t1]) ?_ (by simp) _
          rw [hstep, if_pos (by simpa using hd)]
          simp
        · simp [t1, t4, t5, g4]
          refine hskip _ (by simp [t1]) ?_ (by simp) _
          rw [hstep, if_neg (by simpa using hd)]
          simp [t4]
    · simp [hc]
      simp at hc
      obtain rfl : i = b.ports.length := by omega
      refine he2 _ _ _ ?_
      simp [t4]
      refine hQ _ _ _ (by simp) ?_
      simp [Try.f119, rootPort, rootAt, hok]
      exact decide_eq_decide.2 Iff.rfl

def rootsUpto (n : Net) : Nat → List Int
  | 0 => []
  | i + 1 => rootsUpto n i ++ (match n.bridges[i]? with
    | some b => if (rootPort b).2 then [] else [(i : Int)]
    | none => [])
def roots (n : Net) : List Int := rootsUpto n n.bridges.length
theorem rootsUpto_len (n : Net) : ∀ i, (rootsUpto n i).length ≤ i
  | 0 => by simp [rootsUpto]
  | i + 1 => by
    have := rootsUpto_len n i
    unfold rootsUpto
    rw [List.length_append]
    split
    · split <;> simp <;> omega
    · simp; omega
theorem roots_sz0 {n : Net} (hn : n.sz ≤ 1048576) : (roots n).length ≤ 1048576 := by
  have h1 := rootsUpto_len n n.bridges.length
  have h2 := BridgeS.sz_len n.bridges
  unfold Net.sz at hn
  unfold roots
  omega

theorem implRoots_is {H : Heap} {l : List Lf} {n : Net} (h : RdNet H l n) (hn : n.sz ≤ 1048576) : Runs env 63 [.agg l] H fun v H' => ∃ q fp, v = .w (.lf q) ∧ IsIntS H' q (roots n) fp ∧ Fresh H H' fp := by
  obtain ⟨_, q1, rfl, ⟨a0, rws, rfl, hs, hlen, hat⟩, -⟩ := h
  unfold Net.sz at hn
  have hl0 := BridgeS.sz_len n.bridges
  refine Runs.walk ok63 Try.func63 rfl (by simp [Try.f63]) fun Q hQ => ?_
  simp only [Try.f63, strip, stripL, stripI, stripG, chkT, tagsB, tagsL, tagD, addT, tagA, lookN, tagOp, elmT, ty22, ty23, ty28, ty29, ty37, ty38, ty39, ty40, ty41, ty50, ty51, ty52, ty53, ty72, ty81, ty141, ty189, Nat.reduceEqDiff, if_false, reduceIte, Option.getD_some, Option.getD_none, dstAt, dstOk, Nat.reduceLT, decide_true, if_true]
  simp [Net.enc, builtinV, pureB, lenV]
  refine wpS_loop (fun j tm H' => ∃ i a' fp, i + j = n.bridges.length ∧ tm 9 = .w (.lf (.sl a0 n.bridges.length)) ∧ tm 10 = .int n.bridges.length ∧ tm 11 = .int i ∧ tm 3 = .w (.lf (.sl a' (rootsUpto n i).length)) ∧ Own H' 3 a' ((rootsUpto n i).map encI) fp ∧ Fresh H H' fp) n.bridges.length (by rw [env_K]; omega)
    ⟨0, none, [], by simp, by simp, by simp, by simp, by simp [rootsUpto], Own.nil _ _, Fresh.app _ _ (by simp)⟩ ?_
  rintro j tm H' hj ⟨i, a', fp, hij, t9, t10, t11, t3, ho, ⟨⟨G, rfl⟩, hf⟩⟩ Q' hn' he' hr'
  simp [t9, t10, t11]
  refine selS_intro (fun hc => ?_) (fun hc => ?_)
  · simp at hc
    have hri : i < rws.length := by omega
    obtain ⟨id2, r, bl, rfl, hbl, hbe, hrow⟩ := hs i _ (List.getElem?_eq_getElem hri)
    have hid := blkAt_len hbl
    have he := hat i _ _ (List.getElem?_eq_getElem hri) (List.getElem?_eq_getElem hc)
    have hsz := BridgeS.sz_at (List.getElem_mem hc)
    have e1 := fun G => implRootPort (he.app G) (by omega)
    have hL := he.len
    have hT : rws[i].take rws[i].length = rws[i] := List.take_length
    rw [hL] at hT
    have hlr := rootsUpto_len n i
    have hst : rootsUpto n (i + 1) = rootsUpto n i ++ (if (rootPort n.bridges[i]).2 then [] else [(i : Int)]) := by rw [rootsUpto, List.getElem?_eq_getElem hc]
    have g4 : IntKind.i64.wrap ((i : Int) + 1) = (i : Int) + 1 := wrap64 (by omega) (by omega)
    simp [t9, t10, t11, t3, indexAddrV, elemIs, hid, hbl, hbe, hc, hrow, hL, hT, e1]
    refine selS_intro (fun hd => ?_) (fun hd => ?_)
    · simp at hd
      rw [hd] at hst
      simp [t3]
      refine stpL_append (rows := (rootsUpto n i).map encI) (ys := [[.i .i64 i]]) (ho.app2 _) (Sl.of (by simp)) rfl rfl rfl (by simp) (by simp; omega) (by simp) rfl fun a'' H'' fp'' ho'' hk'' hf'' => ?_
      simp [t9, t10, t11, g4]
      refine hn' (j - 1) _ _ (by omega) ⟨i + 1, a'', fp'', by omega, by simp [t9], by simp [t10], by simp, by simp [hst], ?_, Fresh.grow hf hk'' hf''⟩
      simpa [hst, encI] using ho''
    · simp at hd
      rw [hd] at hst
      simp [t9, t10, t11, t3, g4]
      refine hn' (j - 1) _ _ (by omega) ⟨i + 1, a', fp, by omega, by simp [t9], by simp [t10], by simp, by simp [hst, t3], ?_, Fresh.app _ _ hf⟩
      simpa [hst] using ho.app2 _
  · simp at hc
    obtain rfl : i = n.bridges.length := by omega
    simp [t9, t10, t11]
    refine he' _ _ _ ?_
    simp [t3]
    refine hQ _ _ _ (by simp) ?_
    simp [Try.f63]
    exact IsSl.leave (⟨a', rfl, ho⟩ : IsIntS (H ++ G) (.sl a' (roots n).length) (roots n) fp) (Fresh.app _ _ hf) (by simp [roots])

theorem specRoots_is {H : Heap} {l : List Lf} {n : Net} (h : RdNet H l n) (hn : n.sz ≤ 1048576) : Runs env 62 [.agg l] H fun v H' => ∃ q fp, v = .w (.lf q) ∧ IsIntS H' q (roots n) fp ∧ Fresh H H' fp := by
  obtain ⟨_, q1, rfl, ⟨a0, rws, rfl, hs, hlen, hat⟩, -⟩ := h
  unfold Net.sz at hn
  have hl0 := BridgeS.sz_len n.bridges
  refine Runs.walk ok62 Try.func62 rfl (by simp [Try.f62]) fun Q hQ => ?_
  simp only [Try.f62, strip, stripL, stripI, stripG, chkT, tagsB, tagsL, tagD, addT, tagA, lookN, tagOp, elmT, ty22, ty23, ty28, ty29, ty37, ty38, ty39, ty40, ty41, ty50, ty51, ty52, ty53, ty72, ty81, ty141, ty189, Nat.reduceEqDiff, if_false, reduceIte, Option.getD_some, Option.getD_none, dstAt, dstOk, Nat.reduceLT, decide_true, if_true]
  simp [Net.enc, builtinV, pureB, lenV]
  obtain ⟨H1, hH1⟩ : ∃ H1, H1 = H ++ [some ⟨31, .wr, [[.sl a0 n.bridges.length, q1]]⟩] := ⟨_, rfl⟩
  have hb1 : blkAt H1 H.length = some ⟨31, .wr, [[.sl a0 n.bridges.length, q1]]⟩ := by simp [hH1]
  have hl1 := blkAt_len hb1
  have hs1 : Sl H1 74 a0 rws := by rw [hH1]; exact hs.app _
  have hat1 : ∀ (i : Nat) (row : List Lf) (x : Bridge), rws[i]? = some row → n.bridges[i]? = some x → RdBridge H1 row x := fun i row x h1 h2 => by rw [hH1]; exact (hat i row x h1 h2).app _
  refine wpS_loop (fun j tm H' => ∃ i a' fp, i + j = n.bridges.length ∧ tm 1 = .ptr H.length 0 0 ∧ tm 4 = .int i ∧ tm 3 = .w (.lf (.sl a' (rootsUpto n i).length)) ∧ Own H' 3 a' ((rootsUpto n i).map encI) fp ∧ Fresh H1 H' fp) n.bridges.length (by rw [env_K]; omega)
    ⟨0, some (H.length + 1, 0), [H.length + 1], by simp, by simp, by simp, by simp [rootsUpto], Own.of (by simp [rootsUpto]), ⟨[some ⟨3, .wr, []⟩], by simp [hH1]⟩, by simp [hH1]⟩ ?_
  rintro j tm H' hj ⟨i, a', fp, hij, t1, t4, t3, ho, ⟨⟨G, rfl⟩, hf⟩⟩ Q' hn' he' hr'
  simp [t1, t4, hb1, hl1, builtinV, pureB, lenV]
  refine selS_intro (fun hc => ?_) (fun hc => ?_)
  · simp at hc
    have hri : i < rws.length := by omega
    obtain ⟨id2, r, bl, rfl, hbl, hbe, hrow⟩ := hs1 i _ (List.getElem?_eq_getElem hri)
    have hid := blkAt_len hbl
    have he := hat1 i _ _ (List.getElem?_eq_getElem hri) (List.getElem?_eq_getElem hc)
    have hsz := BridgeS.sz_at (List.getElem_mem hc)
    have e1 := fun G => specRootPort (he.app G) (by omega)
    have hL := he.len
    have hT : rws[i].take rws[i].length = rws[i] := List.take_length
    rw [hL] at hT
    have hlr := rootsUpto_len n i
    have hst : rootsUpto n (i + 1) = rootsUpto n i ++ (if (rootPort n.bridges[i]).2 then [] else [(i : Int)]) := by rw [rootsUpto, List.getElem?_eq_getElem hc]
    have g4 : IntKind.i64.wrap ((i : Int) + 1) = (i : Int) + 1 := wrap64 (by omega) (by omega)
    simp [t1, t4, t3, hb1, hl1, indexAddrV, elemIs, hid, hbl, hbe, hc, hrow, hL, hT, e1]
    refine selS_intro (fun hd => ?_) (fun hd => ?_)
    · simp at hd
      rw [hd] at hst
      simp [t3, t4]
      refine stpL_append (rows := (rootsUpto n i).map encI) (ys := [[.i .i64 i]]) (ho.app2 _) (Sl.of (by simp)) rfl rfl rfl (by simp) (by simp; omega) (by simp) rfl fun a'' H'' fp'' ho'' hk'' hf'' => ?_
      simp [t1, t4, g4]
      refine hn' (j - 1) _ _ (by omega) ⟨i + 1, a'', fp'', by omega, by simp [t1], by simp, by simp [hst], ?_, Fresh.grow hf hk'' hf''⟩
      simpa [hst, encI] using ho''
    · simp at hd
      rw [hd] at hst
      simp [t1, t4, t3, g4]
      refine hn' (j - 1) _ _ (by omega) ⟨i + 1, a', fp, by omega, by simp [t1], by simp, by simp [hst, t3], ?_, Fresh.app _ _ hf⟩
      simpa [hst] using ho
  · simp at hc
    obtain rfl : i = n.bridges.length := by omega
    simp [t1, t4]
    refine he' _ _ _ ?_
    simp [t3]
    refine hQ _ _ _ (by simp) ?_
    have hfr : Fresh H (H1 ++ G) fp := by
      have := Fresh.app H1 G hf
      rw [hH1] at this ⊢
      exact this.base
    simp [Try.f62]
    exact IsSl.leave (⟨a', rfl, ho⟩ : IsIntS (H1 ++ G) (.sl a' (roots n).length) (roots n) fp) hfr (by simp [roots])

/-- Bridges that can be come to by the links that are wanted. -/
inductive Conn (n : Net) (W : Nat → Bool) (s : Nat) : Nat → Prop where
  | base : Conn n W s s
  | fwd {k : Nat} {l : Link} : n.links[k]? = some l → W k = true → Conn n W s l.a.toNat → Conn n W s l.b.toNat
  | bwd {k : Nat} {l : Link} : n.links[k]? = some l → W k = true → Conn n W s l.b.toNat → Conn n W s l.a.toNat
noncomputable def connB (n : Net) (W : Nat → Bool) (s i : Nat) : Bool := @decide (Conn n W s i) (Classical.propDecidable _)
theorem connB_iff (n : Net) (W : Nat → Bool) (s i : Nat) : connB n W s i = true ↔ Conn n W s i := by unfold connB; exact @decide_eq_true_iff _ (Classical.propDecidable _)
noncomputable def connL (n : Net) (W : Nat → Bool) (s : Nat) : List Bool := (List.range n.bridges.length).map (connB n W s)
def Closed (n : Net) (W : Nat → Bool) (ms : List Bool) : Prop := ∀ (k : Nat) (l : Link), n.links[k]? = some l → W k = true → ms[l.a.toNat]? = ms[l.b.toNat]?
def Sound (n : Net) (W : Nat → Bool) (s : Nat) (ms : List Bool) : Prop := ms.length = n.bridges.length ∧ ms[s]? = some true ∧ ∀ i, ms[i]? = some true → Conn n W s i
theorem conn_done {n : Net} {W : Nat → Bool} {s : Nat} {ms : List Bool} (h : Sound n W s ms) (hc : Closed n W ms) : ms = connL n W s := by
  have key : ∀ i, Conn n W s i → ms[i]? = some true := by
    intro i hi
    induction hi with
    | base => exact h.2.1
    | fwd h1 h2 _ ih => rw [← hc _ _ h1 h2]; exact ih
    | bwd h1 h2 _ ih => rw [hc _ _ h1 h2]; exact ih
  refine List.ext_getElem (by simp [connL, h.1]) fun i h1 h2 => ?_
  simp only [connL, List.getElem_map, List.getElem_range]
  rw [Bool.eq_iff_iff, connB_iff]
  constructor
  · intro hm; exact h.2.2 i (by rw [List.getElem?_eq_getElem h1, hm])
  · intro hcn
    have := key i hcn
    rw [List.getElem?_eq_getElem h1] at this
    injection this
/-- A link's ends are bridges. -/
theorem link_in {n : Net} (hp : n.P) {k : Nat} {l : Link} (h : n.links[k]? = some l) : 0 ≤ l.a ∧ l.a.toNat < n.bridges.length ∧ 0 ≤ l.b ∧ l.b.toNat < n.bridges.length := by
  obtain ⟨-, ⟨i, _, b, e1, -, e3, -⟩, ⟨i', _, b', f1, -, f3, -⟩⟩ := hp.2.2.2.2.1 l (List.mem_of_getElem? h)
  have h1 := (List.getElem?_eq_some_iff.1 e3).1
  have h2 := (List.getElem?_eq_some_iff.1 f3).1
  omega
/-- What one link does. -/
def both (l : Link) (ms : List Bool) : List Bool := (ms.set l.a.toNat true).set l.b.toNat true
theorem both_sound {n : Net} {W : Nat → Bool} {s k : Nat} {l : Link} {ms : List Bool} (h : Sound n W s ms) (hl : n.links[k]? = some l) (hw : W k = true) (hm : ms[l.a.toNat]? = some true ∨ ms[l.b.toNat]? = some true) : Sound n W s (both l ms) := by
  have hconn : Conn n W s l.a.toNat ∧ Conn n W s l.b.toNat := by
    rcases hm with hm | hm
    · have := h.2.2 _ hm; exact ⟨this, .fwd hl hw this⟩
    · have := h.2.2 _ hm; exact ⟨.bwd hl hw this, this⟩
  refine ⟨by simp [both, h.1], ?_, fun i hi => ?_⟩
  · have hs := h.2.1
    have hlt := (List.getElem?_eq_some_iff.1 hs).1
    unfold both
    rw [List.getElem?_set]
    split
    · rename_i e; subst e; simp [hlt]
    · rw [List.getElem?_set]
      split
      · rename_i e; subst e; simp [hlt]
      · exact hs
  · unfold both at hi
    rw [List.getElem?_set] at hi
    split at hi
    · rename_i e; subst e; exact hconn.2
    · rw [List.getElem?_set] at hi
      split at hi
      · rename_i e; subst e; exact hconn.1
      · exact h.2.2 i hi
/-- How many are not marked. -/
def unm (ms : List Bool) : Nat := ms.count false
theorem set_unm {ms : List Bool} {i : Nat} : unm (ms.set i true) ≤ unm ms := by
  unfold unm
  induction ms generalizing i with
  | nil => simp
  | cons x xs ih =>
    cases i with
    | zero => cases x <;> simp [List.count_cons]
    | succ i => have := ih (i := i); simp only [List.set_cons_succ, List.count_cons]; omega
theorem set_unm_lt {ms : List Bool} {i : Nat} (h : ms[i]? = some false) : unm (ms.set i true) < unm ms := by
  unfold unm
  induction ms generalizing i with
  | nil => simp at h
  | cons x xs ih =>
    cases i with
    | zero => simp at h; subst h; simp [List.count_cons]
    | succ i => have := ih (i := i) (by simpa using h); simp only [List.set_cons_succ, List.count_cons]; omega
theorem set_same {ms : List Bool} {i : Nat} (h : ms[i]? = some true) : ms.set i true = ms := by
  refine List.ext_getElem? fun j => ?_
  rw [List.getElem?_set]
  split
  · rename_i e; subst e; rw [h, if_pos (List.getElem?_eq_some_iff.1 h).1]
  · rfl
theorem both_lt {n : Net} (hp : n.P) {k : Nat} {l : Link} {ms : List Bool} (hl : n.links[k]? = some l) (hlen : ms.length = n.bridges.length) (hm : ms[l.a.toNat]? ≠ ms[l.b.toNat]?) : unm (both l ms) < unm ms := by
  obtain ⟨h1, h2, h3, h4⟩ := link_in hp hl
  rw [← hlen] at h2 h4
  rw [List.getElem?_eq_getElem h2, List.getElem?_eq_getElem h4] at hm
  unfold both
  by_cases ha : ms[l.a.toNat] = true
  · have hb : ms[l.b.toNat] = false := by
      cases hx : ms[l.b.toNat] with
      | false => rfl
      | true => rw [ha, hx] at hm; exact absurd rfl hm
    have e : ms.set l.a.toNat true = ms := set_same (by rw [List.getElem?_eq_getElem h2, ha])
    rw [e]
    exact set_unm_lt (by rw [List.getElem?_eq_getElem h4, hb])
  · have ha : ms[l.a.toNat] = false := by simpa using ha
    have := set_unm_lt (ms := ms) (i := l.a.toNat) (by rw [List.getElem?_eq_getElem h2, ha])
    have := set_unm (ms := ms.set l.a.toNat true) (i := l.b.toNat)
    omega
theorem both_same {l : Link} {ms : List Bool} (ha : ms[l.a.toNat]? = some true) (hb : ms[l.b.toNat]? = some true) : both l ms = ms := by
  unfold both
  rw [set_same ha, set_same hb]

theorem reachM {H : Heap} {id : Nat} {l : List Lf} {n : Net} (hb : blkAt H id = some ⟨31, .wr, [l]⟩) (h : RdNet H l n) (hn : n.sz ≤ 1048576) (hp : n.P) {s : Nat} (hs : s < n.bridges.length) {W : Nat → Bool} {fv : Nat} {f1 f2 : List (Nat × Nat × Nat)}
    (hW : ∀ (G : Heap) (k : Nat), k < n.links.length → callV (run env) (H ++ G) (.w (.lf (.fn fv f1 f2))) [.int k] = some (.bool (W k), H ++ G)) :
    Runs env 54 [.ptr id 0 0, .int s, .w (.lf (.fn fv f1 f2))] H fun v H' => ∃ q fp, v = .w (.lf q) ∧ IsBoolS H' q (connL n W s) fp ∧ Fresh H H' fp := by
  obtain ⟨_, _, rfl, ⟨a0, rws, rfl, hs0, hlen, hat⟩, ⟨c, rfl, hc1⟩⟩ := h
  unfold Net.sz at hn
  have hbl0 := BridgeS.sz_len n.bridges
  have hid0 := blkAt_len hb
  have k1 : (n.bridges.length : Int) ≤ 281474976710656 := by omega
  have k2 : (n.bridges.length : Int) ≤ 9223372036854775807 := by omega
  have hsi : (s : Int) < n.bridges.length := by omega
  refine Runs.walk ok54 Try.func54 rfl (by simp [Try.f54]) fun Q hQ => ?_
  simp only [Try.f54, strip, stripL, stripI, stripG, chkT, tagsB, tagsL, tagD, addT, tagA, lookN, tagOp, elmT, ty22, ty23, ty28, ty29, ty37, ty38, ty39, ty40, ty41, ty50, ty51, ty52, ty53, ty72, ty81, ty141, ty189, Nat.reduceEqDiff, if_false, reduceIte, Option.getD_some, Option.getD_none, dstAt, dstOk, Nat.reduceLT, decide_true, if_true]
  have hrep : (List.replicate n.bridges.length [Lf.b false])[s]? = some [Lf.b false] := by simp [hs]
  simp [hb, hid0, Net.enc, builtinV, pureB, lenV, makeSliceV, makeSliceR, newBlk, k1, k2, indexAddrV, elemIs, hs, hsi, hrep]
  have hms0 : ((List.replicate n.bridges.length false).set s true).map encB = (List.replicate n.bridges.length [Lf.b false]).set s [Lf.b true] := by
    rw [List.map_set]; simp [encB]
  refine wpS_loop (fun j tm H' => ∃ ms T more, tm 0 = .ptr id 0 0 ∧ tm 2 = .w (.lf (.fn fv f1 f2)) ∧ tm 7 = .sl H.length 0 n.bridges.length ∧ tm 8 = .bool more ∧ H' = H ++ some ⟨4, .wr, ms.map encB⟩ :: T ∧ Sound n W s ms ∧ ((more = true ∧ unm ms + 1 ≤ j) ∨ (more = false ∧ Closed n W ms))) (n.bridges.length + 1) (by rw [env_K]; omega)
    ⟨(List.replicate n.bridges.length false).set s true, [], true, by simp, by simp, by simp, by simp, by rw [hms0], ⟨by simp, by simp [hs], fun i hi => ?_⟩, .inl ⟨rfl, ?_⟩⟩ ?_
  · by_cases he : s = i
    · subst he; exact .base
    · rw [List.getElem?_set_ne he] at hi
      have := List.mem_of_getElem? hi
      rw [List.mem_replicate] at this
      simp at this
  · have := set_unm (ms := List.replicate n.bridges.length false) (i := s)
    have h2 : unm (List.replicate n.bridges.length false) ≤ n.bridges.length := by unfold unm; simpa using List.count_le_length (a := false) (l := List.replicate n.bridges.length false)
    omega
  rintro j tm H' hj ⟨ms, T, more, t0, t2, t7, t8, rfl, hso, hmo⟩ Q2 hn2 he2 hr2
  simp [t0, t2, t7, t8]
  cases more
  · simp
    refine he2 _ _ _ ?_
    simp [t7]
    refine hQ _ _ _ (by simp) ?_
    have hcl : Closed n W ms := by simpa using hmo
    have hms := conn_done hso hcl
    simp [Try.f54]
    have hI : IsBoolS (H ++ some ⟨4, .wr, ms.map encB⟩ :: T) (.sl (some (H.length, 0)) n.bridges.length) (connL n W s) [H.length] := by
      rw [← hms]
      exact ⟨some (H.length, 0), by rw [hso.1], Own.of (by simp)⟩
    exact IsSl.leave hI (Fresh.app H _ (by simp)) (by simp [refFree])
  simp at hmo
  have hbT := fun T => blkAt_app hb T
  simp [t0, t2, t7, hbT, Net.enc, builtinV, pureB, lenV]
  refine wpS_loop (fun j2 tm H' => ∃ i ms2 T more, i + j2 = n.links.length ∧ tm 0 = .ptr id 0 0 ∧ tm 2 = .w (.lf (.fn fv f1 f2)) ∧ tm 7 = .sl H.length 0 n.bridges.length ∧ tm 8 = .bool more ∧ tm 24 = .w (.lf (.sl c n.links.length)) ∧ tm 25 = .int n.links.length ∧ tm 26 = .int i ∧ H' = H ++ some ⟨4, .wr, ms2.map encB⟩ :: T ∧ Sound n W s ms2 ∧
      ((more = true ∧ unm ms2 < unm ms) ∨ (more = false ∧ ms2 = ms ∧ ∀ (k : Nat) (l : Link), k < i → n.links[k]? = some l → W k = true → ms[l.a.toNat]? = ms[l.b.toNat]?))) n.links.length (by rw [env_K]; omega)
    ⟨0, ms, T, false, by simp, by simp [t0], by simp [t2], by simp [t7], by simp, by simp, by simp, by simp, rfl, hso, .inr ⟨rfl, rfl, by simp⟩⟩ ?_
  rintro j2 tm H' hj2 ⟨i, ms2, T2, more, hij, t0, t2, t7, t8, t24, t25, t26, rfl, hso2, hmo2⟩ Q3 hn3 he3 hr3
  simp [t0, t2, t7, t8, t24, t25, t26]
  refine selS_intro (fun hc => ?_) (fun hc => ?_)
  · simp at hc
    obtain ⟨id2, r, bl, rfl, hbl, hbe, hrow⟩ := hc1 i _ (by simp [hc]; rfl)
    have hid := blkAt_len hbl
    have g4 : IntKind.i64.wrap ((i : Int) + 1) = (i : Int) + 1 := wrap64 (by omega) (by omega)
    have hlk : n.links[i]? = some n.links[i] := List.getElem?_eq_getElem hc
    obtain ⟨L, hL⟩ : ∃ L, L = n.links[i] := ⟨_, rfl⟩
    rw [← hL] at hlk
    obtain ⟨la0, la1, lb0, lb1⟩ := link_in hp hlk
    have la2 : L.a < (n.bridges.length : Int) := by omega
    have lb2 : L.b < (n.bridges.length : Int) := by omega
    have hla : L.a.toNat < ms2.length := by rw [hso2.1]; exact la1
    have hlb : L.b.toNat < ms2.length := by rw [hso2.1]; exact lb1
    have hw := fun G => hW G i hc
    have step : ∀ tm' : Ab.T, tm' 0 = .ptr id 0 0 → tm' 2 = .w (.lf (.fn fv f1 f2)) → tm' 7 = .sl H.length 0 n.bridges.length → tm' 24 = .w (.lf (.sl (some (id2, r)) n.links.length)) → tm' 25 = .int n.links.length → tm' 26 = .int ((i : Int) + 1) →
        (tm' 8 = .bool more → (W i = true → ms2[L.a.toNat]? = ms2[L.b.toNat]?) → ∀ T', Q3 .normal tm' (H ++ some ⟨4, .wr, ms2.map encB⟩ :: T')) := by
      intro tm' a0 a2 a7 a24 a25 a26 a8 hx T'
      refine hn3 (j2 - 1) _ _ (by omega) ⟨i + 1, ms2, T', more, by omega, a0, a2, a7, a8, a24, a25, by simpa using a26, rfl, hso2, ?_⟩
      rcases hmo2 with h1 | ⟨h1, h2, h3⟩
      · exact .inl h1
      · refine .inr ⟨h1, h2, fun k l hk hl hwk => ?_⟩
        rcases Nat.lt_or_ge k i with hlt | hge
        · exact h3 k l hlt hl hwk
        · obtain rfl : k = i := by omega
          rw [hlk] at hl
          injection hl with hl
          subst hl
          rw [← h2]; exact hx hwk
    simp [t0, t2, t7, t8, t24, t25, t26, indexAddrV, elemIs, hid, hbl, hbe, hc, hrow, ← hL, Link.enc, hw]
    refine gdL_t (fun hd => ?_) (fun hd => ?_)
    · simp [hd, t7, indexAddrV, elemIs, la0, la2, lb0, lb2, hla, hlb, encB]
      refine selS_intro (fun he => ?_) (fun he => ?_)
      · have hne : ms2[L.a.toNat]? ≠ ms2[L.b.toNat]? := by
          rw [List.getElem?_eq_getElem hla, List.getElem?_eq_getElem hlb]
          intro hx
          injection hx with hx
          simp [hx] at he
        have hor : ms2[L.a.toNat]? = some true ∨ ms2[L.b.toNat]? = some true := by
          rw [List.getElem?_eq_getElem hla, List.getElem?_eq_getElem hlb] at hne ⊢
          cases hx : ms2[L.a.toNat] <;> cases hy : ms2[L.b.toNat] <;> simp_all
        have hbs := both_sound hso2 hlk hd hor
        have hlt := both_lt hp hlk hso2.1 hne
        have hle : unm ms2 ≤ unm ms := by
          rcases hmo2 with h1 | ⟨-, h2, -⟩
          · omega
          · rw [h2]; exact Nat.le_refl _
        have hx2 : ((ms2.map encB).set L.a.toNat [Lf.b true])[L.b.toNat]'(by simpa using hlb) = [Lf.b (if L.a.toNat = L.b.toNat then true else ms2[L.b.toNat])] := by
          rw [List.getElem_set]
          split <;> simp [encB]
        simp [t0, t2, t7, t24, t25, t26, indexAddrV, elemIs, la0, la2, lb0, lb2, hla, hlb, encB, hx2, g4]
        refine hn3 (j2 - 1) _ _ (by omega) ⟨i + 1, both L ms2, T2 ++ [some ⟨92, .wr, [[.i .i64 L.a, .i .i64 L.p, .i .i64 L.b, .i .i64 L.q]]⟩], true, by omega, by simp [t0], by simp [t2], by simp [t7], by simp, by simp [t24], by simp [t25], by simp, ?_, hbs, .inl ⟨rfl, by omega⟩⟩
        simp [both, List.map_set, encB]
      · simp [t0, t2, t7, t8, t24, t25, t26, g4]
        refine step _ (by simp [t0]) (by simp [t2]) (by simp [t7]) (by simp [t24]) (by simp [t25]) (by simp) (by simp [t8]) (fun _ => ?_) _
        rw [List.getElem?_eq_getElem hla, List.getElem?_eq_getElem hlb]
        simpa using he
    · simp [hd, t0, t2, t7, t8, t24, t25, t26, g4]
      refine step _ (by simp [t0]) (by simp [t2]) (by simp [t7]) (by simp [t24]) (by simp [t25]) (by simp) (by simp [t8]) (fun hx => by rw [hd] at hx; cases hx) _
  · simp at hc
    simp [t0, t2, t7, t8, t24, t25, t26]
    refine he3 _ _ _ ?_
    simp
    rcases hmo2 with ⟨rfl, h2⟩ | ⟨rfl, h2, h3⟩
    · exact hn2 (j - 1) _ _ (by omega) ⟨ms2, T2, true, by simp [t0], by simp [t2], by simp [t7], by simp [t8], rfl, hso2, .inl ⟨rfl, by omega⟩⟩
    · refine hn2 (j - 1) _ _ (by omega) ⟨ms2, T2, false, by simp [t0], by simp [t2], by simp [t7], by simp [t8], rfl, hso2, .inr ⟨rfl, ?_⟩⟩
      intro k l hl hw
      rw [h2]
      exact h3 k l (by have := (List.getElem?_eq_some_iff.1 hl).1; omega) hl hw

/-- What a link is wanted for: all links but one, or those that pass. -/
noncomputable def wantS (n : Net) (all : Bool) (w : Int) (k : Nat) : Bool := !decide ((k : Int) = w) && (all || passes n k)
def idxL (ms : List Bool) : Nat → List Int
  | 0 => []
  | i + 1 => idxL ms i ++ (if ms[i]? = some true then [(i : Int)] else [])
theorem idxL_len (ms : List Bool) : ∀ i, (idxL ms i).length ≤ i
  | 0 => by simp [idxL]
  | i + 1 => by
    have := idxL_len ms i
    unfold idxL
    rw [List.length_append]
    split <;> simp <;> omega
theorem conn_least {n : Net} {W : Nat → Bool} {s : Nat} {ms ms2 : List Bool} (h : Sound n W s ms2) (hm : ms = connL n W s) : unm ms ≤ unm ms2 := by
  have key : ∀ (xs ys : List Bool), xs.length = ys.length → (∀ i : Nat, ys[i]? = some true → xs[i]? = some true) → unm xs ≤ unm ys := by
    intro xs
    induction xs with
    | nil => intro ys _ _; simp [unm]
    | cons x xs ih =>
      intro ys hl hk
      cases ys with
      | nil => simp at hl
      | cons y ys =>
        have h1 := ih ys (by simpa using hl) (fun i hi => by have := hk (i + 1) (by simpa using hi); simpa using this)
        have h2 := hk 0
        unfold unm at *
        cases x <;> cases y <;> simp_all [List.count_cons] <;> omega
  refine key _ _ (by rw [hm, h.1]; simp [connL]) fun i hi => ?_
  have hlt := (List.getElem?_eq_some_iff.1 hi).1
  have hc := h.2.2 i hi
  rw [h.1] at hlt
  rw [hm]
  simp [connL, hlt, connB_iff, hc]
noncomputable def reachL (n : Net) (s : Nat) (W : Nat → Bool) : List Int := idxL (connL n W s) n.bridges.length
theorem reachL_len (n : Net) (s : Nat) (W : Nat → Bool) : (reachL n s W).length ≤ n.bridges.length := idxL_len _ _
noncomputable def reach (n : Net) (s : Int) (all : Bool) : List Int := if n.ok && (decide (0 ≤ s) && decide (s < (n.bridges.length : Int))) then reachL n s.toNat (wantS n all (-1)) else []
theorem reach_sz0 {n : Net} (hn : n.sz ≤ 1048576) (s : Int) (all : Bool) : (reach n s all).length ≤ 1048576 := by
  have h2 := BridgeS.sz_len n.bridges
  unfold Net.sz at hn
  unfold reach
  split
  · have := reachL_len n s.toNat (wantS n all (-1)); omega
  · simp
theorem connL_len (n : Net) (W : Nat → Bool) (s : Nat) : (connL n W s).length = n.bridges.length := by simp [connL]

theorem l11ReachM {H : Heap} {l : List Lf} {n : Net} (h : RdNet H l n) (hn : n.sz ≤ 1048576) (hp : n.P) {s : Nat} (hs : s < n.bridges.length) (all : Bool) (w : Int) :
    Runs env 50 [.agg l, .int s, .bool all, .int w] H fun v H' => ∃ q fp, v = .w (.lf q) ∧ IsIntS H' q (reachL n s (wantS n all w)) fp ∧ Fresh H H' fp := by
  have hR := h
  have hn0 := hn
  obtain ⟨_, _, rfl, ⟨a0, rws, rfl, hs0, hlen, hat⟩, ⟨c, rfl, hc1⟩⟩ := h
  unfold Net.sz at hn
  have hbl0 := BridgeS.sz_len n.bridges
  have k1 : (n.bridges.length : Int) ≤ 281474976710656 := by omega
  have k2 : (n.bridges.length : Int) ≤ 9223372036854775807 := by omega
  have hsi : (s : Int) < n.bridges.length := by omega
  refine Runs.walk ok50 Try.func50 rfl (by simp [Try.f50]) fun Q hQ => ?_
  simp only [Try.f50, strip, stripL, stripI, stripG, chkT, tagsB, tagsL, tagD, addT, tagA, lookN, tagOp, elmT, ty22, ty23, ty28, ty29, ty37, ty38, ty39, ty40, ty41, ty50, ty51, ty52, ty53, ty72, ty81, ty141, ty189, Nat.reduceEqDiff, if_false, reduceIte, Option.getD_some, Option.getD_none, dstAt, dstOk, Nat.reduceLT, decide_true, if_true]
  have hrep : (List.replicate n.bridges.length [Lf.b false])[s]? = some [Lf.b false] := by simp [hs]
  simp [Net.enc, builtinV, pureB, lenV, makeSliceV, makeSliceR, newBlk, k1, k2, indexAddrV, elemIs, hs, hsi, hrep]
  have hms0 : ((List.replicate n.bridges.length false).set s true).map encB = (List.replicate n.bridges.length [Lf.b false]).set s [Lf.b true] := by
    rw [List.map_set]; simp [encB]
  obtain ⟨B, hB⟩ : ∃ B : Option Blk, B = some ⟨31, .wr, [[.sl a0 n.bridges.length, .sl c n.links.length]]⟩ := ⟨_, rfl⟩
  obtain ⟨W, hWd⟩ : ∃ W, W = wantS n all w := ⟨_, rfl⟩
  rw [← hWd] at hQ
  refine wpS_loop (fun j tm H' => ∃ i ms T, i + j = n.bridges.length ∧ tm 2 = .bool all ∧ tm 3 = .int w ∧ tm 4 = .ptr H.length 0 0 ∧ tm 9 = .sl (H.length + 1) 0 n.bridges.length ∧ tm 10 = .int i ∧ H' = H ++ some ⟨31, .wr, [[.sl a0 n.bridges.length, .sl c n.links.length]]⟩ :: some ⟨4, .wr, ms.map encB⟩ :: T ∧ Sound n W s ms ∧ (unm ms + i + 1 ≤ n.bridges.length ∨ Closed n W ms)) n.bridges.length (by rw [env_K]; omega)
    ⟨0, (List.replicate n.bridges.length false).set s true, [], by simp, by simp, by simp, by simp, by simp, by simp, by rw [hms0], ⟨by simp, by simp [hs], fun i hi => ?_⟩, .inl ?_⟩ ?_
  · by_cases he : s = i
    · subst he; exact .base
    · rw [List.getElem?_set_ne he] at hi
      have := List.mem_of_getElem? hi
      rw [List.mem_replicate] at this
      simp at this
  · have hx : (List.replicate n.bridges.length false)[s]? = some false := by simp [hs]
    have := set_unm_lt hx
    have h2 : unm (List.replicate n.bridges.length false) ≤ n.bridges.length := by unfold unm; simpa using List.count_le_length (a := false) (l := List.replicate n.bridges.length false)
    omega
  rintro j tm H' hj ⟨i, ms, T, hij, t2, t3, t4, t9, t10, rfl, hso, hmo⟩ Q2 hn2 he2 hr2
  simp [t2, t3, t4, t9, t10, builtinV, pureB, lenV]
  refine selS_intro (fun hc0 => ?_) (fun hc0 => ?_)
  · simp at hc0
    have g1 : IntKind.i64.wrap ((i : Int) + 1) = (i : Int) + 1 := wrap64 (by omega) (by omega)
    simp [t2, t3, t4, t9, t10]
    refine wpS_loop (fun j2 tm H' => ∃ i2 ms2 T, i2 + j2 = n.links.length ∧ tm 2 = .bool all ∧ tm 3 = .int w ∧ tm 4 = .ptr H.length 0 0 ∧ tm 9 = .sl (H.length + 1) 0 n.bridges.length ∧ tm 10 = .int i ∧ tm 11 = .int i2 ∧ H' = H ++ some ⟨31, .wr, [[.sl a0 n.bridges.length, .sl c n.links.length]]⟩ :: some ⟨4, .wr, ms2.map encB⟩ :: T ∧ Sound n W s ms2 ∧
      (unm ms2 < unm ms ∨ (ms2 = ms ∧ ∀ (k : Nat) (l : Link), k < i2 → n.links[k]? = some l → W k = true → ms[l.a.toNat]? = ms[l.b.toNat]?))) n.links.length (by rw [env_K]; omega)
      ⟨0, ms, T, by simp, by simp [t2], by simp [t3], by simp [t4], by simp [t9], by simp [t10], by simp, rfl, hso, .inr ⟨rfl, by simp⟩⟩ ?_
    rintro j2 tm H' hj2 ⟨i2, ms2, T2, hij2, t2, t3, t4, t9, t10, t11, rfl, hso2, hmo2⟩ Q3 hn3 he3 hr3
    simp [t2, t3, t4, t9, t10, t11, builtinV, pureB, lenV]
    refine selS_intro (fun hc => ?_) (fun hc => ?_)
    · simp at hc
      obtain ⟨id2, r, bl, rfl, hbl, hbe, hrow⟩ := hc1 i2 _ (by simp [hc]; rfl)
      have hid := blkAt_len hbl
      have g4 : IntKind.i64.wrap ((i2 : Int) + 1) = (i2 : Int) + 1 := wrap64 (by omega) (by omega)
      have hlk : n.links[i2]? = some n.links[i2] := List.getElem?_eq_getElem hc
      obtain ⟨L, hL⟩ : ∃ L, L = n.links[i2] := ⟨_, rfl⟩
      rw [← hL] at hlk
      obtain ⟨la0, la1, lb0, lb1⟩ := link_in hp hlk
      have la2 : L.a < (n.bridges.length : Int) := by omega
      have lb2 : L.b < (n.bridges.length : Int) := by omega
      have hla : L.a.toNat < ms2.length := by rw [hso2.1]; exact la1
      have hlb : L.b.toNat < ms2.length := by rw [hso2.1]; exact lb1
      have e1 := fun G => specPasses_is (hR.app G) hn0 (i2 : Int) ⟨by omega, by omega⟩
      simp only [Net.enc] at e1
      have step : ∀ tm' : Ab.T, tm' 2 = .bool all → tm' 3 = .int w → tm' 4 = .ptr H.length 0 0 → tm' 9 = .sl (H.length + 1) 0 n.bridges.length → tm' 10 = .int i → tm' 11 = .int ((i2 : Int) + 1) →
          ((W i2 = true → ms2[L.a.toNat]? = ms2[L.b.toNat]?) → ∀ T', Q3 .normal tm' (H ++ some ⟨31, .wr, [[.sl a0 n.bridges.length, .sl (some (id2, r)) n.links.length]]⟩ :: some ⟨4, .wr, ms2.map encB⟩ :: T')) := by
        intro tm' a2 a3 a4 a9 a10 a11 hx T'
        refine hn3 (j2 - 1) _ _ (by omega) ⟨i2 + 1, ms2, T', by omega, a2, a3, a4, a9, a10, by simpa using a11, rfl, hso2, ?_⟩
        rcases hmo2 with h1 | ⟨h2, h3⟩
        · exact .inl h1
        · refine .inr ⟨h2, fun k l hk hl hwk => ?_⟩
          rcases Nat.lt_or_ge k i2 with hlt | hge
          · exact h3 k l hlt hl hwk
          · obtain rfl : k = i2 := by omega
            rw [hlk] at hl
            injection hl with hl
            subst hl
            rw [← h2]; exact hx hwk
      have stepB : (ms2[L.a.toNat]? = some true ∨ ms2[L.b.toNat]? = some true) → W i2 = true → ∀ tm' : Ab.T, tm' 2 = .bool all → tm' 3 = .int w → tm' 4 = .ptr H.length 0 0 → tm' 9 = .sl (H.length + 1) 0 n.bridges.length → tm' 10 = .int i → tm' 11 = .int ((i2 : Int) + 1) →
          ∀ T' H'', H'' = H ++ some ⟨31, .wr, [[.sl a0 n.bridges.length, .sl (some (id2, r)) n.links.length]]⟩ :: some ⟨4, .wr, (both L ms2).map encB⟩ :: T' → Q3 .normal tm' H'' := by
        intro hor hWi tm' a2 a3 a4 a9 a10 a11 T' H'' hH
        by_cases hne : ms2[L.a.toNat]? = ms2[L.b.toNat]?
        · have h2 : both L ms2 = ms2 := both_same (by rcases hor with h | h; exact h; rw [hne]; exact h) (by rcases hor with h | h; rw [← hne]; exact h; exact h)
          rw [hH, h2]
          exact step tm' a2 a3 a4 a9 a10 a11 (fun _ => hne) T'
        · have hbs := both_sound hso2 hlk hWi hor
          have hlt := both_lt hp hlk hso2.1 hne
          have hle : unm ms2 ≤ unm ms := by
            rcases hmo2 with h1 | ⟨h2, -⟩
            · omega
            · rw [h2]; exact Nat.le_refl _
          exact hn3 (j2 - 1) _ _ (by omega) ⟨i2 + 1, both L ms2, T', by omega, a2, a3, a4, a9, a10, by simpa using a11, hH, hbs, .inl (by omega)⟩
      by_cases hkw : (i2 : Int) = w
      · have hWf : W i2 = false := by rw [hWd]; simp [wantS, hkw]
        subst hkw
        simp [t2, t3, t4, t9, t10, t11, indexAddrV, elemIs, hid, hbl, hbe, hc, hrow, ← hL, Link.enc, g4]
        refine step _ (by simp [t2]) (by simp [t3]) (by simp [t4]) (by simp [t9]) (by simp [t10]) (by simp) (fun hx => by rw [hWf] at hx; cases hx) _
      · by_cases hWi : W i2 = true
        · have hpx : all = false → passes n i2 = true := by
            intro ha
            rw [hWd] at hWi
            simpa [wantS, hkw, ha] using hWi
          have hx2 : ((ms2.map encB).set L.a.toNat [Lf.b true])[L.b.toNat]'(by simpa using hlb) = [Lf.b (if L.a.toNat = L.b.toNat then true else ms2[L.b.toNat])] := by
            rw [List.getElem_set]
            split <;> simp [encB]
          cases all
          all_goals
            simp [t2, t3, t4, t9, t10, t11, indexAddrV, elemIs, hid, hbl, hbe, hc, hrow, ← hL, Link.enc, hkw, e1, hpx, la0, la2, lb0, lb2, hla, hlb, encB]
            refine gdL_f (fun hd => ?_) (fun hd => ?_)
            · simp [hd, t2, t3, t4, t9, t10, t11, indexAddrV, elemIs, la0, la2, lb0, lb2, hla, hlb, encB, hx2, g4]
              refine stepB (.inl (by rw [List.getElem?_eq_getElem hla, hd])) hWi _ (by simp [t2]) (by simp [t3]) (by simp [t4]) (by simp [t9]) (by simp [t10]) (by simp) (T2 ++ [some ⟨92, .wr, [[.i .i64 L.a, .i .i64 L.p, .i .i64 L.b, .i .i64 L.q]]⟩]) _ ?_
              simp [both, List.map_set, encB]
            · simp [hd, t2, t3, t4, t9, t10, t11, indexAddrV, elemIs, la0, la2, lb0, lb2, hla, hlb, encB]
              refine selS_intro (fun he => ?_) (fun he => ?_)
              · simp [t2, t3, t4, t9, t10, t11, indexAddrV, elemIs, la0, la2, lb0, lb2, hla, hlb, encB, hx2, g4]
                refine stepB (.inr (by rw [List.getElem?_eq_getElem hlb, he])) hWi _ (by simp [t2]) (by simp [t3]) (by simp [t4]) (by simp [t9]) (by simp [t10]) (by simp) (T2 ++ [some ⟨92, .wr, [[.i .i64 L.a, .i .i64 L.p, .i .i64 L.b, .i .i64 L.q]]⟩]) _ ?_
                simp [both, List.map_set, encB]
              · simp [t2, t3, t4, t9, t10, t11, g4]
                refine step _ (by simp [t2]) (by simp [t3]) (by simp [t4]) (by simp [t9]) (by simp [t10]) (by simp) (fun _ => ?_) _
                rw [List.getElem?_eq_getElem hla, List.getElem?_eq_getElem hlb, hd, he]
        · have hpx : all = false ∧ passes n i2 = false := by
            rw [hWd] at hWi
            simpa [wantS, hkw] using hWi
          obtain ⟨rfl, hpx⟩ := hpx
          simp [t2, t3, t4, t9, t10, t11, indexAddrV, elemIs, hid, hbl, hbe, hc, hrow, ← hL, Link.enc, hkw, e1, hpx, g4]
          refine step _ (by simp [t2]) (by simp [t3]) (by simp [t4]) (by simp [t9]) (by simp [t10]) (by simp) (fun hx => absurd hx hWi) _
    · simp at hc
      simp [t2, t3, t4, t9, t10, t11]
      refine he3 _ _ _ ?_
      simp [t10, g1]
      refine hn2 (j - 1) _ _ (by omega) ⟨i + 1, ms2, T2, by omega, by simp [t2], by simp [t3], by simp [t4], by simp [t9], by simp, rfl, hso2, ?_⟩
      rcases hmo with hmo | hmo
      · rcases hmo2 with h1 | ⟨h2, h3⟩
        · exact .inl (by omega)
        · refine .inr fun k l hl hw => ?_
          rw [h2]
          exact h3 k l (by have := (List.getElem?_eq_some_iff.1 hl).1; omega) hl hw
      · refine .inr fun k l hl hw => ?_
        have hmc := conn_done hso hmo
        rcases hmo2 with h1 | ⟨h2, h3⟩
        · have hle : unm ms ≤ unm ms2 := conn_least hso2 hmc
          omega
        · rw [h2]
          exact hmo k l hl hw
  · simp at hc0
    obtain rfl : i = n.bridges.length := by omega
    have hcl : Closed n W ms := by
      rcases hmo with h1 | h1
      · omega
      · exact h1
    have hms := conn_done hso hcl
    simp [t2, t3, t4, t9, t10]
    refine he2 _ _ _ ?_
    simp [t9]
    obtain ⟨H1, hH1⟩ : ∃ H1, H1 = H ++ some ⟨31, .wr, [[.sl a0 n.bridges.length, .sl c n.links.length]]⟩ :: some ⟨4, .wr, ms.map encB⟩ :: T := ⟨_, rfl⟩
    have hb1 : blkAt H1 (H.length + 1) = some ⟨4, .wr, ms.map encB⟩ := by simp [hH1]
    have hl1 := blkAt_len hb1
    have hml := hso.1
    refine wpS_loop (fun j tm H' => ∃ i a' fp, i + j = n.bridges.length ∧ tm 9 = .sl (H.length + 1) 0 n.bridges.length ∧ tm 14 = .int i ∧ tm 13 = .w (.lf (.sl a' (idxL ms i).length)) ∧ Own H' 3 a' ((idxL ms i).map encI) fp ∧ Fresh H1 H' fp) n.bridges.length (by rw [env_K]; omega)
      ⟨0, some (H1.length, 0), [H1.length], by simp, by simp [t9], by simp, by simp [idxL, hH1], by rw [hH1]; exact Own.of (by simp [idxL]), ⟨[some ⟨3, .wr, []⟩], by simp [hH1]⟩, by simp⟩ ?_
    rintro j tm H' hj ⟨i, a', fp, hij, t9, t14, t13, ho, ⟨⟨G, rfl⟩, hf⟩⟩ Q' hn' he' hr'
    simp [t9, t14, builtinV, pureB, lenV]
    refine selS_intro (fun hc => ?_) (fun hc => ?_)
    · simp at hc
      have g4 : IntKind.i64.wrap ((i : Int) + 1) = (i : Int) + 1 := wrap64 (by omega) (by omega)
      have him : i < ms.length := by omega
      have hlr := idxL_len ms i
      have hst : idxL ms (i + 1) = idxL ms i ++ (if ms[i] then [(i : Int)] else []) := by rw [idxL, List.getElem?_eq_getElem him]; simp
      simp [t9, t14, t13, hb1, hl1, indexAddrV, elemIs, hc, him, encB]
      refine selS_intro (fun hd => ?_) (fun hd => ?_)
      · rw [hd] at hst
        simp [t13, t14]
        refine stpL_append (rows := (idxL ms i).map encI) (ys := [[.i .i64 i]]) (ho.app2 _) (Sl.of (by simp)) rfl rfl rfl (by simp) (by simp; omega) (by simp) rfl fun a'' H'' fp'' ho'' hk'' hf'' => ?_
        simp [t9, t14, g4]
        refine hn' (j - 1) _ _ (by omega) ⟨i + 1, a'', fp'', by omega, by simp [t9], by simp, by simp [hst], ?_, Fresh.grow hf hk'' hf''⟩
        simpa [hst, encI] using ho''
      · rw [hd] at hst
        simp [t9, t14, t13, g4]
        refine hn' (j - 1) _ _ (by omega) ⟨i + 1, a', fp, by omega, by simp [t9], by simp, by simp [hst, t13], ?_, Fresh.app _ _ hf⟩
        simpa [hst] using ho
    · simp at hc
      obtain rfl : i = n.bridges.length := by omega
      simp [t9, t14]
      refine he' _ _ _ ?_
      simp [t13]
      refine hQ _ _ _ (by simp) ?_
      have hfr : Fresh H (H1 ++ G) fp := by
        have := Fresh.app H1 G hf
        rw [hH1] at this ⊢
        exact this.base
      have hxx : reachL n s W = idxL ms n.bridges.length := by rw [reachL, ← hms]
      simp [Try.f50, hxx]
      exact IsSl.leave (⟨a', rfl, ho⟩ : IsIntS (H1 ++ G) (.sl a' (idxL ms n.bridges.length).length) (idxL ms n.bridges.length) fp) hfr (by simp)

theorem isAny (H : Heap) (k : Int) : run env 56 [.int k] H = some (.bool true, H) := by
  refine run_walk ok56 Try.func56 rfl (by simp [Try.f56]) fun Q hQ => ?_
  simp only [Try.f56, strip, stripL, stripI, stripG, chkT, tagsB, tagsL, tagD, addT, tagA, lookN, tagOp, elmT, ty22, ty23, ty28, ty29, ty37, ty38, ty39, ty40, ty41, ty50, ty51, ty52, ty53, ty72, ty81, ty141, ty189, Nat.reduceEqDiff, if_false, reduceIte, Option.getD_some, Option.getD_none, dstAt, dstOk, Nat.reduceLT, decide_true, if_true]
  simp
  refine hQ _ _ _ (by simp) ?_
  simp [Try.f56]

noncomputable def spanAt (n : Net) (i : Nat) : Bool := decide (connL n (wantS n false (-1)) i = connL n (wantS n true (-1)) i)
noncomputable def spans (n : Net) : Bool := n.ok && (List.range n.bridges.length).all (spanAt n)
theorem conn_mono {n : Net} {W W' : Nat → Bool} {s : Nat} (h : ∀ k, W k = true → W' k = true) {i : Nat} (hc : Conn n W s i) : Conn n W' s i := by
  induction hc with
  | base => exact .base
  | fwd h1 h2 _ ih => exact .fwd h1 (h _ h2) ih
  | bwd h1 h2 _ ih => exact .bwd h1 (h _ h2) ih
theorem idxL_count (ms : List Bool) : ∀ i, i ≤ ms.length → (idxL ms i).length = (ms.take i).count true
  | 0, _ => by simp [idxL]
  | i + 1, h => by
    have := idxL_count ms i (by omega)
    have hi : i < ms.length := by omega
    rw [idxL, List.length_append, this, List.take_add_one, List.count_append, List.getElem?_eq_getElem hi]
    cases ms[i] <;> simp
theorem count_le : ∀ {xs ys : List Bool}, xs.length = ys.length → (∀ i : Nat, xs[i]? = some true → ys[i]? = some true) → xs.count true ≤ ys.count true ∧ (xs.count true = ys.count true → xs = ys)
  | [], ys, h, _ => by
    cases ys with
    | nil => simp
    | cons y ys => simp at h
  | x :: xs, [], h, _ => by simp at h
  | x :: xs, y :: ys, h, hk => by
    have ih := count_le (xs := xs) (ys := ys) (by simpa using h) (fun i hi => by have := hk (i + 1) (by simpa using hi); simpa using this)
    have h0 := hk 0
    cases x <;> cases y <;> simp [List.count_cons] at h0 ⊢
    · exact ih
    · refine ⟨by omega, fun he => ?_⟩
      omega
    · exact ih
theorem reachL_span (n : Net) (i : Nat) : ((reachL n i (wantS n true (-1))).length = (reachL n i (wantS n false (-1))).length) ↔ spanAt n i = true := by
  have l1 := connL_len n (wantS n true (-1)) i
  have l2 := connL_len n (wantS n false (-1)) i
  unfold reachL spanAt
  rw [idxL_count _ _ (by omega), idxL_count _ _ (by omega), List.take_of_length_le (by omega), List.take_of_length_le (by omega), decide_eq_true_iff]
  constructor
  · intro h
    refine (count_le (by omega) fun j hj => ?_).2 h.symm
    have hlt := (List.getElem?_eq_some_iff.1 hj).1
    rw [l2] at hlt
    simp [connL, hlt, connB_iff] at hj ⊢
    exact conn_mono (fun k hk => by simp [wantS]) hj
  · intro h
    rw [h]

theorem specSpans_is {H : Heap} {l : List Lf} {n : Net} (h : RdNet H l n) (hn : n.sz ≤ 1048576) : run env 12 [.agg l] H = some (.bool (spans n), H) := by
  have hR := h
  obtain ⟨_, q1, rfl, ⟨a0, rws, rfl, hs, hlen, hat⟩, ⟨c, rfl, hc1⟩⟩ := h
  have hl0 := BridgeS.sz_len n.bridges
  have hl : n.bridges.length ≤ 1048576 := by unfold Net.sz at hn; omega
  have e1 := fun G => specNetOk_is (hR.app G) hn
  simp only [Net.enc] at e1
  refine run_walk ok12 Try.func12 rfl (by simp [Try.f12]) fun Q hQ => ?_
  simp only [Try.f12, strip, stripL, stripI, stripG, chkT, tagsB, tagsL, tagD, addT, tagA, lookN, tagOp, elmT, ty22, ty23, ty28, ty29, ty37, ty38, ty39, ty40, ty41, ty50, ty51, ty52, ty53, ty72, ty81, ty141, ty189, Nat.reduceEqDiff, if_false, reduceIte, Option.getD_some, Option.getD_none, dstAt, dstOk, Nat.reduceLT, decide_true, if_true]
  have fin : ∀ tm H' b, (∃ G, H' = H ++ G) → tm 2 = .bool b → spans n = b → Q .ret tm H' := by
    rintro tm _ b ⟨G, rfl⟩ h6 hx
    refine hQ _ _ _ (by simp) ?_
    simp [Try.f12, h6, hx]
  simp [Net.enc, e1]
  refine selS_intro (fun hd => ?_) (fun hd => ?_)
  · simp at hd
    simp
    refine fin _ _ false ⟨_, rfl⟩ (by simp) (by simp [spans, hd])
  simp at hd
  have hp := (Net.ok_iff n).1 hd
  simp
  refine wpS_loop (fun j tm H' => ∃ i G, i + j = n.bridges.length ∧ tm 1 = .ptr H.length 0 0 ∧ tm 3 = .int i ∧ H' = H ++ some ⟨31, .wr, [[.sl a0 n.bridges.length, .sl c n.links.length]]⟩ :: G ∧ ∀ k < i, spanAt n k = true) n.bridges.length (by rw [env_K]; omega) ⟨0, [], by simp, by simp, by simp, rfl, by simp⟩ ?_
  rintro j tm H' hj ⟨i, G, hij, t1, t3, rfl, hz⟩ Q2 hn2 he2 hr2
  simp [t1, t3, builtinV, pureB, lenV]
  refine selS_intro (fun hc => ?_) (fun hc => ?_)
  · simp at hc
    have g4 : IntKind.i64.wrap ((i : Int) + 1) = (i : Int) + 1 := wrap64 (by omega) (by omega)
    simp [t1, t3]
    refine stpL_runs_f (l11ReachM (hR.app _) hn hp hc true (-1)) (by rintro _ _ ⟨_, _, _, _, hf⟩; exact hf.1) ?_
    rintro _ _ ⟨_, fp, rfl, ⟨b1, rfl, -⟩, ⟨⟨G1, rfl⟩, -⟩⟩
    simp [t1, t3, builtinV, pureB, lenV]
    refine stpL_runs_f (l11ReachM (hR.app _) hn hp hc false (-1)) (by rintro _ _ ⟨_, _, _, _, hf⟩; exact hf.1) ?_
    rintro _ _ ⟨_, fp, rfl, ⟨b2, rfl, -⟩, ⟨⟨G2, rfl⟩, -⟩⟩
    simp [t1, t3, builtinV, pureB, lenV]
    have hsp := reachL_span n i
    refine selS_intro (fun hd2 => ?_) (fun hd2 => ?_)
    · simp at hd2
      have hd3 : ¬ (reachL n i (wantS n true (-1))).length = (reachL n i (wantS n false (-1))).length := by intro hh; exact hd2 (by rw [hh])
      rw [hsp] at hd3
      simp
      refine hr2 _ _ ?_
      simp
      refine fin _ _ false ⟨_, rfl⟩ (by simp) ?_
      simp only [spans, hd, Bool.true_and]
      rw [List.all_eq_false]
      exact ⟨i, by simpa using hc, hd3⟩
    · simp at hd2
      have hd3 : (reachL n i (wantS n true (-1))).length = (reachL n i (wantS n false (-1))).length := by omega
      rw [hsp] at hd3
      simp [t1, t3, g4]
      refine hn2 (j - 1) _ _ (by omega) ⟨i + 1, G ++ G1 ++ G2, by omega, by simp [t1], by simp, by simp, fun k hk => ?_⟩
      rcases Nat.lt_or_ge k i with h | h
      · exact hz k h
      · obtain rfl : k = i := by omega
        exact hd3
  · simp at hc
    obtain rfl : i = n.bridges.length := by omega
    simp [t1, t3]
    refine he2 _ _ _ ?_
    simp
    refine fin _ _ true ⟨_, rfl⟩ (by simp) ?_
    simp only [spans, hd, Bool.true_and, List.all_eq_true, List.mem_range]
    exact hz

theorem wantAny {n : Net} (H G : Heap) (k : Nat) : callV (run env) (H ++ G) (.w (.lf (.fn 56 [] []))) [.int k] = some (.bool (wantS n true (-1) k), H ++ G) := by
  have : wantS n true (-1) k = true := by simp [wantS]
  rw [this]
  simp [isAny]
end W
end Go.Proofs.Ytjbjpdifgfnaeaa

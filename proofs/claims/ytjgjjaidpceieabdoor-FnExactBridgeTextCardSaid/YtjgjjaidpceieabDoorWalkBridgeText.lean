/- The functions that this law reaches: what each computes. Conditions: those that each theorem names. -/
import Derived.Test.YtjgjjaidpceieabDoorAbEnvBridgeText
set_option maxRecDepth 100000
set_option maxHeartbeats 4000000
set_option linter.unusedSimpArgs false
set_option linter.unusedVariables false
set_option linter.unnecessarySimpa false
namespace Go.Proofs.YtjgjjaidpceieabDoor
open Go Go.Ab Go.ChangeShapes Go.WideShapes Go.ChangeAt Go.RowKit
namespace W
theorem l1In (H : Heap) (n a b : Int) : run env 25 [.int n, .int a, .int b] H = some (.bool (decide (a ≤ n) && decide (n ≤ b)), H) := by
  refine run_walk ok25 Tryd.func25 rfl (by simp [Tryd.f25]) fun Q hQ => ?_
  simp only [Tryd.f25, strip, stripL, stripI, stripG, chkT, tagsB, tagsL, tagD, addT, tagA, lookN, tagOp, elmT, ty32, ty37, ty43, ty48, ty56, ty57, ty58, ty59, ty65, ty66, ty67, ty74, ty80, ty97, Nat.reduceEqDiff, if_false, reduceIte, Option.getD_some, Option.getD_none, dstAt, dstOk, Nat.reduceLT, decide_true, if_true]
  simp
  repeat' (first | (refine gdL_t (fun h => ?_) (fun h => ?_) <;> simp [h]) | (refine gdL_f (fun h => ?_) (fun h => ?_) <;> simp [h]) | (refine selS_intro (fun h => ?_) (fun h => ?_) <;> simp [h]))
  all_goals (refine hQ _ _ _ (by simp) ?_)
  all_goals (clear hQ; simp_all [Tryd.f25] <;> omega)

structure Vec where
  root : Int
  cost : Int
  bridge : Int
  port : Int
  deriving DecidableEq, Inhabited
def Vec.enc (x : Vec) : List Lf := [.i .i64 x.root, .i .i64 x.cost, .i .i64 x.bridge, .i .i64 x.port]
@[simp] theorem Vec.enc_len (x : Vec) : x.enc.length = 4 := rfl
@[simp] theorem Vec.enc_take (x : Vec) : List.take 4 x.enc = x.enc := rfl
@[simp] theorem Vec.enc_drop (x : Vec) : List.drop 4 x.enc = [] := rfl
abbrev Vec.z : List Lf := [.i .i64 0, .i .i64 0, .i .i64 0, .i .i64 0]
abbrev Vec.zv : Vec := ⟨0, 0, 0, 0⟩
theorem Vec.enc_inj {x y : Vec} (h : x.enc = y.enc) : x = y := by
  obtain ⟨_, _, _, _⟩ := x
  obtain ⟨_, _, _, _⟩ := y
  simp [Vec.enc] at h
  simp_all
def Vec.mk' (k : Int) : Vec := ⟨k, k + 1, k + 2, k + 3⟩
theorem Vec.mk'_of {y : Vec} {c : Int} (h0 : y.root = c) (h1 : y.cost = c + 1) (h2 : y.bridge = c + 2) (h3 : y.port = c + 3) : y = Vec.mk' c := by
  rcases y with ⟨w0, v1, v2, v3⟩
  simp only at h0 h1 h2 h3
  subst h0 h1 h2 h3
  rfl

theorem toVec (H : Heap) (x : Vec) : run env 28 [.agg x.enc] H = some (.agg x.enc, H) := by
  refine run_walk ok28 Tryd.func28 rfl (by simp [Tryd.f28]) fun Q hQ => ?_
  simp only [Tryd.f28, strip, stripL, stripI, stripG, chkT, tagsB, tagsL, tagD, addT, tagA, lookN, tagOp, elmT, ty32, ty37, ty43, ty48, ty56, ty57, ty58, ty59, ty65, ty66, ty67, ty74, ty80, ty97, Nat.reduceEqDiff, if_false, reduceIte, Option.getD_some, Option.getD_none, dstAt, dstOk, Nat.reduceLT, decide_true, if_true]
  simp [Vec.enc]
  all_goals (refine hQ _ _ _ (by simp) ?_)
  all_goals (clear hQ; simp [Tryd.f28, Vec.enc])

theorem eqVec (H : Heap) (x y : Vec) : run env 69 [.agg x.enc, .agg y.enc] H = some (.bool (decide (x = y)), H) := by
  obtain ⟨a0, a1, a2, a3⟩ := x
  obtain ⟨b0, b1, b2, b3⟩ := y
  refine run_walk ok69 Tryd.func69 rfl (by simp [Tryd.f69]) fun Q hQ => ?_
  simp only [Tryd.f69, strip, stripL, stripI, stripG, chkT, tagsB, tagsL, tagD, addT, tagA, lookN, tagOp, elmT, ty32, ty37, ty43, ty48, ty56, ty57, ty58, ty59, ty65, ty66, ty67, ty74, ty80, ty97, Nat.reduceEqDiff, if_false, reduceIte, Option.getD_some, Option.getD_none, dstAt, dstOk, Nat.reduceLT, decide_true, if_true]
  simp [Vec.enc]
  repeat' (first | (refine gdL_t (fun h => ?_) (fun h => ?_) <;> simp [h]) | (refine gdL_f (fun h => ?_) (fun h => ?_) <;> simp [h]) | (refine selS_intro (fun h => ?_) (fun h => ?_) <;> simp [h]))
  all_goals (refine hQ _ _ _ (by simp) ?_)
  all_goals (clear hQ; simp_all [Tryd.f69])

structure Port where
  up : Bool
  has : Bool
  vec : Vec
  hops : Int
  left : Int
  role : Int
  wait : Int
  opn : Bool
  deriving DecidableEq, Inhabited
def Port.enc (x : Port) : List Lf := [.b x.up, .b x.has, .i .i64 x.vec.root, .i .i64 x.vec.cost, .i .i64 x.vec.bridge, .i .i64 x.vec.port, .i .i64 x.hops, .i .i64 x.left, .i .i64 x.role, .i .i64 x.wait, .b x.opn]
@[simp] theorem Port.enc_len (x : Port) : x.enc.length = 11 := rfl
@[simp] theorem Port.enc_take (x : Port) : List.take 11 x.enc = x.enc := rfl
@[simp] theorem Port.enc_drop (x : Port) : List.drop 11 x.enc = [] := rfl
abbrev Port.z : List Lf := [.b false, .b false, .i .i64 0, .i .i64 0, .i .i64 0, .i .i64 0, .i .i64 0, .i .i64 0, .i .i64 0, .i .i64 0, .b false]
abbrev Port.zv : Port := ⟨false, false, ⟨0, 0, 0, 0⟩, 0, 0, 0, 0, false⟩
theorem Port.enc_inj {x y : Port} (h : x.enc = y.enc) : x = y := by
  rcases x with ⟨v0, v1, ⟨v2_0, v2_1, v2_2, v2_3⟩, v3, v4, v5, v6, v7⟩
  rcases y with ⟨w0, v1, ⟨v2_0, v2_1, v2_2, v2_3⟩, v3, v4, v5, v6, v7⟩
  simp [Port.enc] at h
  simp_all
def Port.mk' (k : Int) : Port := ⟨decide ((k).tmod 3 = 0), decide ((k + 1).tmod 3 = 0), ⟨k + 2, k + 3, k + 4, k + 5⟩, k + 6, k + 7, k + 8, k + 9, decide ((k + 10).tmod 3 = 0)⟩
theorem Port.mk'_of {y : Port} {c : Int} (h0 : y.up = decide ((c).tmod 3 = 0)) (h1 : y.has = decide ((c + 1).tmod 3 = 0)) (h2 : y.vec.root = c + 2) (h3 : y.vec.cost = c + 3) (h4 : y.vec.bridge = c + 4) (h5 : y.vec.port = c + 5) (h6 : y.hops = c + 6) (h7 : y.left = c + 7) (h8 : y.role = c + 8) (h9 : y.wait = c + 9) (h10 : y.opn = decide ((c + 10).tmod 3 = 0)) : y = Port.mk' c := by
  rcases y with ⟨w0, v1, ⟨v2_0, v2_1, v2_2, v2_3⟩, v3, v4, v5, v6, v7⟩
  simp only at h0 h1 h2 h3 h4 h5 h6 h7 h8 h9 h10
  subst h0 h1 h2 h3 h4 h5 h6 h7 h8 h9 h10
  rfl

theorem toPort (H : Heap) (x : Port) : run env 8 [.agg x.enc] H = some (.agg x.enc, H) := by
  refine run_walk ok8 Tryd.func8 rfl (by simp [Tryd.f8]) fun Q hQ => ?_
  simp only [Tryd.f8, strip, stripL, stripI, stripG, chkT, tagsB, tagsL, tagD, addT, tagA, lookN, tagOp, elmT, ty32, ty37, ty43, ty48, ty56, ty57, ty58, ty59, ty65, ty66, ty67, ty74, ty80, ty97, Nat.reduceEqDiff, if_false, reduceIte, Option.getD_some, Option.getD_none, dstAt, dstOk, Nat.reduceLT, decide_true, if_true]
  have e0 := fun H => toVec H x.vec
  simp only [Vec.enc] at e0
  simp [Port.enc, e0]
  all_goals (refine hQ _ _ _ (by simp) ?_)
  all_goals (clear hQ; simp [Tryd.f8, Port.enc])

theorem eqPort (H : Heap) (x y : Port) : run env 61 [.agg x.enc, .agg y.enc] H = some (.bool (decide (x = y)), H) := by
  have e0 := fun H => eqVec H x.vec y.vec
  obtain ⟨a0, a1, a2, a3, a4, a5, a6, a7⟩ := x
  obtain ⟨b0, b1, b2, b3, b4, b5, b6, b7⟩ := y
  simp only [Vec.enc] at e0
  refine run_walk ok61 Tryd.func61 rfl (by simp [Tryd.f61]) fun Q hQ => ?_
  simp only [Tryd.f61, strip, stripL, stripI, stripG, chkT, tagsB, tagsL, tagD, addT, tagA, lookN, tagOp, elmT, ty32, ty37, ty43, ty48, ty56, ty57, ty58, ty59, ty65, ty66, ty67, ty74, ty80, ty97, Nat.reduceEqDiff, if_false, reduceIte, Option.getD_some, Option.getD_none, dstAt, dstOk, Nat.reduceLT, decide_true, if_true]
  simp [Port.enc]
  repeat' (first | (refine gdL_t (fun h => ?_) (fun h => ?_) <;> simp [h, e0]) | (refine gdL_f (fun h => ?_) (fun h => ?_) <;> simp [h, e0]) | (refine selS_intro (fun h => ?_) (fun h => ?_) <;> simp [h, e0]))
  all_goals (refine hQ _ _ _ (by simp) ?_)
  all_goals (clear hQ; simp_all [Tryd.f61])

theorem toPortS (H : Heap) (a : Option (Nat × Nat)) (xs : List Port) (h : Sl H 25 a (xs.map Port.enc)) (hn : xs.length ≤ 1048576) :
    run env 38 [.w (.lf (.sl a xs.length))] H = some (.sl H.length 0 xs.length, H ++ [some ⟨29, .wr, xs.map Port.enc⟩]) := by
  refine run_walk ok38 Tryd.func38 rfl (by simp [Tryd.f38]) fun Q hQ => ?_
  simp only [Tryd.f38, strip, stripL, stripI, stripG, chkT, tagsB, tagsL, tagD, addT, tagA, lookN, tagOp, elmT, ty32, ty37, ty43, ty48, ty56, ty57, ty58, ty59, ty65, ty66, ty67, ty74, ty80, ty97, Nat.reduceEqDiff, if_false, reduceIte, Option.getD_some, Option.getD_none, dstAt, dstOk, Nat.reduceLT, decide_true, if_true]
  have k1 : (xs.length : Int) * 80 ≤ 281474976710656 := by omega
  have k2 : (xs.length : Int) ≤ 9223372036854775807 := by omega
  have k3 : (xs.length : Int) ≤ 281474976710656 := by omega
  simp [builtinV, pureB, lenV, makeSliceV, makeSliceR, newBlk, k1, k2, k3]
  refine wpS_loop (fun j tm H' => ∃ i, i + j = xs.length ∧ tm 0 = .w (.lf (.sl a xs.length)) ∧ tm 3 = .sl H.length 0 xs.length ∧ tm 4 = .int i ∧ H' = H ++ [some ⟨29, .wr, fillR (xs.map Port.enc) Port.z i j⟩]) xs.length (by rw [env_K]; omega) ⟨0, by simp, by simp, by simp, by simp, by rw [fillR_zero _ _ (by simp)]⟩ ?_
  rintro j tm H' hj ⟨i, hij, h0, h3, h4, rfl⟩ Q' hn' he' hr'
  simp [h0, h3, h4, builtinV, pureB, lenV]
  refine selS_intro (fun hc => ?_) (fun hc => ?_)
  · simp at hc
    obtain ⟨j, rfl⟩ : ∃ j', j = j' + 1 := ⟨j - 1, by omega⟩
    obtain ⟨id, r, b, rfl, hb, hbe, hrow⟩ := h i _ (by simp [hc]; rfl)
    have hid := blkAt_len hb
    have g2 := fillR_get (ys := xs.map Port.enc) (z := Port.z) (i := i) (j := j) (by simpa using hij)
    have g3 := fillR_set (ys := xs.map Port.enc) (z := Port.z) (i := i) (j := j) (y := Port.enc xs[i]) (by simpa using hij) (by simp [hc])
    have g4 : IntKind.i64.wrap ((i : Int) + 1) = (i : Int) + 1 := wrap64 (by omega) (by omega)
    simp [h0, h3, h4, indexAddrV, elemIs, hid, hb, hbe, hc, hrow, toPort, g2, g3, g4]
    exact hn' j _ _ (by omega) ⟨i + 1, by omega, by simp [h0], by simp [h3], by simp, by simpa using congrArg (fun r => H ++ [some (⟨29, .wr, r⟩ : Blk)]) g3⟩
  · simp at hc
    have hj0 : j = 0 := by omega
    subst hj0
    simp [h0, h3, h4]
    refine he' _ _ _ ?_
    simp [h3]
    refine hQ _ _ _ (by simp) ?_
    simp [Tryd.f38, leave, fillR_done (ys := xs.map Port.enc) (i := i) (z := Port.z) (by simpa using hij), refFree]

theorem szPortS (H : Heap) (a : Option (Nat × Nat)) (n : Nat) (left : Int) (h1 : 0 ≤ left) (h2 : left ≤ 1048576) (h3 : n ≤ maxLen) :
    run env 37 [.w (.lf (.sl a n)), .int left] H = some (.int (if left < n then -1 else left - n), H) := by
  have hm : (n : Int) ≤ 9223372036854775807 := by unfold maxLen at h3; omega
  refine run_walk ok37 Tryd.func37 rfl (by simp [Tryd.f37]) fun Q hQ => ?_
  simp only [Tryd.f37, strip, stripL, stripI, stripG, chkT, tagsB, tagsL, tagD, addT, tagA, lookN, tagOp, elmT, ty32, ty37, ty43, ty48, ty56, ty57, ty58, ty59, ty65, ty66, ty67, ty74, ty80, ty97, Nat.reduceEqDiff, if_false, reduceIte, Option.getD_some, Option.getD_none, dstAt, dstOk, Nat.reduceLT, decide_true, if_true]
  have g : IntKind.i64.wrap (left - n) = left - n := wrap64 (by omega) (by omega)
  simp [builtinV, pureB, lenV, g]
  repeat' (first | (refine gdL_t (fun h => ?_) (fun h => ?_) <;> simp [h]) | (refine gdL_f (fun h => ?_) (fun h => ?_) <;> simp [h]) | (refine selS_intro (fun h => ?_) (fun h => ?_) <;> simp [h]))
  all_goals (refine hQ _ _ _ (by simp) ?_)
  all_goals (clear hQ; simp_all [Tryd.f37] <;> omega)

theorem eqPortS (H : Heap) (a b : Option (Nat × Nat)) (xs ys : List Port) (ha : Sl H 29 a (xs.map Port.enc)) (hb : Sl H 29 b (ys.map Port.enc)) (hn : xs.length ≤ 1048576) :
    run env 39 [.w (.lf (.sl a xs.length)), .w (.lf (.sl b ys.length))] H = some (.bool (decide (xs = ys)), H) := by
  refine run_walk ok39 Tryd.func39 rfl (by simp [Tryd.f39]) fun Q hQ => ?_
  simp only [Tryd.f39, strip, stripL, stripI, stripG, chkT, tagsB, tagsL, tagD, addT, tagA, lookN, tagOp, elmT, ty32, ty37, ty43, ty48, ty56, ty57, ty58, ty59, ty65, ty66, ty67, ty74, ty80, ty97, Nat.reduceEqDiff, if_false, reduceIte, Option.getD_some, Option.getD_none, dstAt, dstOk, Nat.reduceLT, decide_true, if_true]
  simp [builtinV, pureB, lenV]
  refine selS_intro (fun hl => ?_) (fun hl => ?_)
  · simp
    refine hQ _ _ _ (by simp) ?_
    simp at hl
    have : ¬ xs = ys := fun h => hl (by rw [h])
    simp [Tryd.f39, this]
  simp at hl
  simp
  refine wpS_loop (fun j tm H' => ∃ i, i + j = xs.length ∧ tm 0 = .w (.lf (.sl a xs.length)) ∧ tm 1 = .w (.lf (.sl b ys.length)) ∧ tm 5 = .int i ∧ H' = H ∧ xs.take i = ys.take i) xs.length (by rw [env_K]; omega) ⟨0, by simp, by simp, by simp, by simp, rfl, by simp⟩ ?_
  rintro j tm H' hj ⟨i, hij, h0, h1, h5, rfl, heq⟩ Q' hn' he' hr'
  simp [h0, h1, h5, builtinV, pureB, lenV]
  refine selS_intro (fun hc => ?_) (fun hc => ?_)
  · simp at hc
    have hc2 : i < ys.length := by omega
    obtain ⟨id, r, bl, rfl, hbl, hbe, hrow⟩ := ha i _ (by simp [hc]; rfl)
    obtain ⟨id2, r2, bl2, rfl, hbl2, hbe2, hrow2⟩ := hb i _ (by simp [hc2]; rfl)
    have g4 : IntKind.i64.wrap ((i : Int) + 1) = (i : Int) + 1 := wrap64 (by omega) (by omega)
    simp [h0, h1, h5, indexAddrV, elemIs, hbl, hbe, hbl2, hbe2, hc, hc2, hrow, hrow2, eqPort]
    refine selS_intro (fun hd => ?_) (fun hd => ?_)
    · simp
      refine hr' _ _ ?_
      simp
      refine hQ _ _ _ (by simp) ?_
      simp at hd
      have : ¬ xs = ys := fun h => by subst h; simp at hd
      simp [Tryd.f39, this]
    · simp at hd
      simp [h0, h1, h5, g4]
      exact hn' (j - 1) _ _ (by omega) ⟨i + 1, by omega, by simp [h0], by simp [h1], by simp, rfl, by rw [List.take_add_one, List.take_add_one, heq]; simp [hc, hc2, hd]⟩
  · simp at hc
    simp [h0, h1, h5]
    refine he' _ _ _ ?_
    simp
    refine hQ _ _ _ (by simp) ?_
    have : xs = ys := by
      rw [List.take_of_length_le (by omega), List.take_of_length_le (by omega)] at heq
      exact heq
    simp [Tryd.f39, this]

structure Bridge where
  id : Int
  ports : List Port
  deriving DecidableEq, Inhabited
def Bridge.enc (b : Bridge) (a : Option (Nat × Nat)) : List Lf := [.i .i64 b.id, .sl a b.ports.length]
@[simp] theorem Bridge.enc_len (b : Bridge) (a : Option (Nat × Nat)) : (b.enc a).length = 2 := rfl
@[simp] theorem Bridge.enc_take (b : Bridge) (a : Option (Nat × Nat)) : List.take 2 (b.enc a) = b.enc a := rfl

theorem szBridge (H : Heap) (a : Option (Nat × Nat)) (b : Bridge) (left : Int) (h1 : 0 ≤ left) (h2 : left ≤ 1048576) (h3 : b.ports.length ≤ maxLen) :
    run env 15 [.agg (b.enc a), .int left] H = some (.int (if left < b.ports.length then -1 else left - b.ports.length), H) := by
  have e := fun H => szPortS H a b.ports.length left h1 h2 h3
  refine run_walk ok15 Tryd.func15 rfl (by simp [Tryd.f15]) fun Q hQ => ?_
  simp only [Tryd.f15, strip, stripL, stripI, stripG, chkT, tagsB, tagsL, tagD, addT, tagA, lookN, tagOp, elmT, ty32, ty37, ty43, ty48, ty56, ty57, ty58, ty59, ty65, ty66, ty67, ty74, ty80, ty97, Nat.reduceEqDiff, if_false, reduceIte, Option.getD_some, Option.getD_none, dstAt, dstOk, Nat.reduceLT, decide_true, if_true]
  simp [Bridge.enc, e]
  repeat' (first | (refine gdL_t (fun h => ?_) (fun h => ?_) <;> simp [h]) | (refine gdL_f (fun h => ?_) (fun h => ?_) <;> simp [h]) | (refine selS_intro (fun h => ?_) (fun h => ?_) <;> simp [h]))
  all_goals (refine hQ _ _ _ (by simp) ?_)
  all_goals (clear hQ; simp_all [Tryd.f15] <;> omega)

theorem toBridge (H : Heap) (a : Option (Nat × Nat)) (b : Bridge) (h : Sl H 25 a (b.ports.map Port.enc)) (hn : b.ports.length ≤ 1048576) :
    Runs env 17 [.agg (b.enc a)] H fun v H' => ∃ a' fp, v = .agg (b.enc a') ∧ Own H' 29 a' (b.ports.map Port.enc) fp ∧ Fresh H H' fp := by
  have e := fun H h => toPortS H a b.ports h hn
  refine Runs.walk ok17 Tryd.func17 rfl (by simp [Tryd.f17]) fun Q hQ => ?_
  simp only [Tryd.f17, strip, stripL, stripI, stripG, chkT, tagsB, tagsL, tagD, addT, tagA, lookN, tagOp, elmT, ty32, ty37, ty43, ty48, ty56, ty57, ty58, ty59, ty65, ty66, ty67, ty74, ty80, ty97, Nat.reduceEqDiff, if_false, reduceIte, Option.getD_some, Option.getD_none, dstAt, dstOk, Nat.reduceLT, decide_true, if_true]
  simp [Bridge.enc]
  rw [e _ (by simpa using h.app _)]
  simp
  refine hQ _ _ _ (by simp) ?_
  simp [Tryd.f17, leave, refFree, Bridge.enc]
  exact ⟨_, Own.of (by simp), Fresh.app _ _ (by simp)⟩

theorem eqBridge (H : Heap) (a b : Option (Nat × Nat)) (m n : Bridge) (ha : Sl H 29 a (m.ports.map Port.enc)) (hb : Sl H 29 b (n.ports.map Port.enc)) (hn : m.ports.length ≤ 1048576) :
    run env 19 [.agg (m.enc a), .agg (n.enc b)] H = some (.bool (decide (m = n)), H) := by
  have e := fun G => eqPortS (H ++ G) a b m.ports n.ports (ha.app _) (hb.app _) hn
  obtain ⟨a1, a2⟩ := m
  obtain ⟨b1, b2⟩ := n
  simp only at e
  refine run_walk ok19 Tryd.func19 rfl (by simp [Tryd.f19]) fun Q hQ => ?_
  simp only [Tryd.f19, strip, stripL, stripI, stripG, chkT, tagsB, tagsL, tagD, addT, tagA, lookN, tagOp, elmT, ty32, ty37, ty43, ty48, ty56, ty57, ty58, ty59, ty65, ty66, ty67, ty74, ty80, ty97, Nat.reduceEqDiff, if_false, reduceIte, Option.getD_some, Option.getD_none, dstAt, dstOk, Nat.reduceLT, decide_true, if_true]
  simp [Bridge.enc]
  repeat' (first | (refine gdL_t (fun h => ?_) (fun h => ?_) <;> simp [h, e]) | (refine gdL_f (fun h => ?_) (fun h => ?_) <;> simp [h, e]) | (refine selS_intro (fun h => ?_) (fun h => ?_) <;> simp [h, e]))
  all_goals (refine hQ _ _ _ (by simp) ?_)
  all_goals (clear hQ; simp_all [Tryd.f19])

def IsBridge (H : Heap) (l : List Lf) (x : Bridge) (fp : List Nat) : Prop := ∃ a, l = x.enc a ∧ Own H 29 a (x.ports.map Port.enc) fp
def RdBridge (H : Heap) (l : List Lf) (x : Bridge) : Prop := ∃ a, l = x.enc a ∧ Sl H 29 a (x.ports.map Port.enc)
def RdLBridge (H : Heap) (l : List Lf) (x : Bridge) : Prop := ∃ a, l = x.enc a ∧ Sl H 25 a (x.ports.map Port.enc)
abbrev Bridge.sz (x : Bridge) : Nat := x.ports.length
def Bridge.fit (x : Bridge) : Prop := x.ports.length ≤ maxLen
section
variable {H H' : Heap} {l : List Lf} {x : Bridge} {fp : List Nat}
theorem IsBridge.keep {f : List Nat} (h : IsBridge H l x fp) (hk : Keep f H H') (hd : ∀ i ∈ fp, i ∉ f) : IsBridge H' l x fp := let ⟨a, h1, h2⟩ := h; ⟨a, h1, h2.keep hk hd⟩
theorem IsBridge.app (h : IsBridge H l x fp) (G : Heap) : IsBridge (H ++ G) l x fp := let ⟨a, h1, h2⟩ := h; ⟨a, h1, h2.app G⟩
theorem IsBridge.lt (h : IsBridge H l x fp) : ∀ i ∈ fp, i < H.length := let ⟨_, _, h2⟩ := h; h2.lt
theorem IsBridge.nodup (h : IsBridge H l x fp) : fp.Nodup := let ⟨_, _, h2⟩ := h; h2.nodup
theorem IsBridge.rd (h : IsBridge H l x fp) : RdBridge H l x := let ⟨a, h1, h2⟩ := h; ⟨a, h1, h2.sl⟩
theorem RdBridge.base (h : RdBridge H l x) (hk : Keep [] H H') : RdBridge H' l x := let ⟨a, h1, h2⟩ := h; ⟨a, h1, h2.keep hk (by simp)⟩
theorem RdBridge.app (h : RdBridge H l x) (G : Heap) : RdBridge (H ++ G) l x := h.base (Keep.app _ _ _)
theorem RdLBridge.base (h : RdLBridge H l x) (hk : Keep [] H H') : RdLBridge H' l x := let ⟨a, h1, h2⟩ := h; ⟨a, h1, h2.keep hk (by simp)⟩
theorem RdLBridge.app (h : RdLBridge H l x) (G : Heap) : RdLBridge (H ++ G) l x := h.base (Keep.app _ _ _)
theorem IsBridge.len (h : IsBridge H l x fp) : l.length = 2 := by obtain ⟨a, rfl, -⟩ := h; rfl
theorem RdLBridge.len (h : RdLBridge H l x) : l.length = 2 := by obtain ⟨a, rfl, -⟩ := h; rfl
theorem RdBridge.len (h : RdBridge H l x) : l.length = 2 := by obtain ⟨a, rfl, -⟩ := h; rfl
theorem IsBridge.free (h : IsBridge H' l x fp) (hr : l.all refFree = true) (H2 : Heap) : IsBridge H2 l x [] := by
  obtain ⟨a, rfl, h2⟩ := h
  exact ⟨a, rfl, h2.free (n := x.ports.length) (by simp [Bridge.enc] at hr; exact hr) H2⟩
theorem IsBridge.leave {ws : List W} (h : IsBridge H' l x fp) (hf : Fresh H H' fp) (hw : ws.all W.free = true → l.all refFree = true) : ∃ fp', IsBridge (leave H H' ws) l x fp' ∧ Fresh H (leave H H' ws) fp' := by
  rcases leave_opt H H' ws with e | ⟨e, hr⟩ <;> rw [e]
  · exact ⟨fp, h, hf⟩
  · exact ⟨[], h.free (hw hr) H, Fresh.refl H⟩
end

theorem szBridge_is {H : Heap} {l : List Lf} {x : Bridge} (h : RdLBridge H l x) (hf : x.fit) {left : Int} (h1 : 0 ≤ left) (h2 : left ≤ 1048576) (G : Heap) :
    run env 15 [.agg l, .int left] (H ++ G) = some (.int (if left < x.sz then -1 else left - x.sz), H ++ G) := by
  obtain ⟨a, rfl, h⟩ := h
  exact szBridge _ a x left h1 h2 hf

theorem toBridge_is {H : Heap} {l : List Lf} {x : Bridge} (h : RdLBridge H l x) (hn : x.sz ≤ 1048576) : Runs env 17 [.agg l] H fun v H' => ∃ l' fp, v = .agg l' ∧ IsBridge H' l' x fp ∧ Fresh H H' fp := by
  obtain ⟨a, rfl, h⟩ := h
  exact (toBridge H a x h hn).mono fun v H' ⟨a', fp, h1, h2, h3⟩ => ⟨_, fp, h1, ⟨a', rfl, h2⟩, h3⟩

theorem eqBridge_is {H : Heap} {l r : List Lf} {x y : Bridge} (h : RdBridge H l x) (h2 : RdBridge H r y) (hn : x.sz ≤ 1048576) : run env 19 [.agg l, .agg r] H = some (.bool (decide (x = y)), H) := by
  obtain ⟨a, rfl, h⟩ := h
  obtain ⟨b, rfl, h2⟩ := h2
  exact eqBridge H a b x y h h2 hn

/-- A text, of its bytes. -/
abbrev BA (l : List UInt8) : ByteArray := ⟨l.toArray⟩
theorem BA_append (a b : List UInt8) : BA a ++ BA b = BA (a ++ b) := by
  apply ByteArray.ext
  apply Array.ext'
  simp
@[simp] theorem BA_size (a : List UInt8) : (BA a).size = a.length := by
  show (a.toArray).size = _
  simp
theorem BA_inj {a b : List UInt8} (h : BA a = BA b) : a = b := by
  have := congrArg (fun x => x.data.toList) h
  simpa using this
theorem binStr_add {a b : List UInt8} (h : a.length + b.length ≤ 9223372036854775807) : binStr .add (BA a) (BA b) = some (.str (BA (a ++ b))) := by
  unfold binStr
  simp only [BA_size, if_pos h, BA_append]
theorem binV_add (τ : Tab) (t : Nat) {a b : List UInt8} (h : a.length + b.length ≤ 9223372036854775807) : binV τ .add t (.str (BA a)) (.str (BA b)) = some (.str (BA (a ++ b))) := by
  show binStr .add (BA a) (BA b) = _
  exact binStr_add h
theorem wrap8 {n : Int} (h0 : 0 ≤ n) (h1 : n < 256) : IntKind.u8.wrap n = n := by
  simp [IntKind.wrap, IntKind.bits, IntKind.signed]
  omega

/-- The digits of a number but 0. -/
def decD (u : Nat) : List UInt8 := if u = 0 then [] else Lib.decDigits u
theorem decD_step {u : Nat} (h : u ≠ 0) : decD u = decD (u / 10) ++ [UInt8.ofNat (48 + u % 10)] := by
  unfold decD
  rw [if_neg h, Lib.decDigits]
  split
  · rename_i h1
    have h2 : u / 10 = 0 := by omega
    have h3 : u % 10 = u := by omega
    rw [h2, h3]; simp
  · rename_i h1
    have h2 : u / 10 ≠ 0 := by omega
    rw [if_neg h2]
theorem decD_len : ∀ (j u : Nat), u < 10 ^ j → (decD u).length ≤ j
  | 0, u, h => by
    have : u = 0 := by simpa using h
    subst this; simp [decD]
  | j + 1, u, h => by
    by_cases h0 : u = 0
    · subst h0; simp [decD]
    · rw [decD_step h0, List.length_append]
      have := decD_len j (u / 10) (by rw [Nat.pow_succ] at h; omega)
      simp; omega
theorem bytesStr_new {H : Heap} {n : Nat} (hn : n < 256) : bytesStr env.τ (H ++ [some ⟨5, .wr, [[.i .u8 (n : Int)]]⟩]) 97 9 (.sl H.length 0 1) = some (.str (BA [UInt8.ofNat n])) := by
  have hb : blkAt (H ++ [some ⟨5, .wr, [[.i .u8 (n : Int)]]⟩]) H.length = some ⟨5, .wr, [[.i .u8 (n : Int)]]⟩ := by simp [blkAt]
  have h1 : (0 : Int) ≤ (n : Int) ∧ (n : Int) < 256 := by omega
  simp [bytesStr, elemIs, rowsOf, hb, bytesV, h1]
theorem specDigits {H : Heap} {n : Int} (hn : I64 n) : run env 26 [.int n] H = some (.str (BA (Lib.itoa n)), H) := by
  refine run_walk ok26 Tryd.func26 rfl (by simp [Tryd.f26]) fun Q hQ => ?_
  simp only [Tryd.f26, strip, stripL, stripI, stripG, chkT, tagsB, tagsL, tagD, addT, tagA, lookN, tagOp, elmT, ty32, ty37, ty43, ty48, ty56, ty57, ty58, ty59, ty65, ty66, ty67, ty74, ty80, ty97, Nat.reduceEqDiff, if_false, reduceIte, Option.getD_some, Option.getD_none, dstAt, dstOk, Nat.reduceLT, decide_true, if_true]
  simp
  refine selS_intro (fun hc => ?_) (fun hc => ?_)
  · simp at hc
    subst hc
    simp
    refine hQ _ _ _ (by simp) ?_
    simp [Tryd.f26, leave]
    simp [Lib.itoa, Lib.decDigits]
  · simp at hc
    simp
    refine wpS_loop (fun j tm A => ∃ (x : Int) (acc : List UInt8) (G : Heap), A = H ++ G ∧ I64 x ∧ x.natAbs < 10 ^ j ∧ tm 0 = .int x ∧ tm 3 = .bool (decide (n < 0)) ∧ tm 4 = .str (BA acc) ∧ decD x.natAbs ++ acc = Lib.decDigits n.natAbs) 20 (by rw [env_K]; omega) ⟨n, [], [], by simp, hn, by unfold I64 at hn; simp; omega, by simp, by simp, rfl, by simp [decD]; omega⟩ ?_
    rintro j tm A hj ⟨x, acc, G, hA, hx, hxj, t0, t3, t4, hd⟩ Q2 hn2 he2 hr2
    have hacc : acc.length ≤ 100 := by
      have h1 : (decD x.natAbs ++ acc).length ≤ 20 := by
        rw [hd]
        have h2 := decD_len 20 n.natAbs (by unfold I64 at hn; omega)
        unfold decD at h2
        rw [if_neg (by omega)] at h2
        exact h2
      simp at h1; omega
    simp [t0, t4]
    refine selS_intro (fun hx0 => ?_) (fun hx0 => ?_)
    · simp at hx0
      obtain ⟨d, hdd⟩ : ∃ d : Nat, d = x.natAbs % 10 := ⟨_, rfl⟩
      have hd10 : d < 10 := by omega
      have hj0 : 0 < j := by
        rcases Nat.eq_zero_or_pos j with h | h
        · subst h; simp at hxj; omega
        · exact h
      have hstep := decD_step (u := x.natAbs) (by omega)
      rw [← hdd] at hstep
      obtain ⟨c, hc8⟩ : ∃ c : UInt8, c = UInt8.ofNat (48 + d) := ⟨_, rfl⟩
      rw [← hc8] at hstep
      have hq : (x.tdiv 10).natAbs = x.natAbs / 10 := by rw [Int.natAbs_tdiv]; rfl
      have hq2 : (x.tdiv 10).natAbs < 10 ^ (j - 1) := by
        rw [hq]
        have : 10 ^ j = 10 ^ (j - 1) * 10 := by rw [← Nat.pow_succ]; congr 1; omega
        omega
      have hq64 : I64 (x.tdiv 10) := by unfold I64 at hx ⊢; omega
      have hwq : IntKind.i64.wrap (x.tdiv 10) = x.tdiv 10 := wrap64 (by unfold I64 at hq64; omega) (by unfold I64 at hq64; omega)
      have hw5 : IntKind.i64.wrap (48 + (d : Int)) = 48 + (d : Int) := wrap64 (by omega) (by omega)
      have hw8 : IntKind.u8.wrap (48 + (d : Int)) = ((48 + d : Nat) : Int) := by
        rw [show (48 + (d : Int)) = ((48 + d : Nat) : Int) by omega]
        exact wrap8 (by omega) (by omega)
      have e6 : (x.tmod 10).natAbs = x.natAbs % 10 := Int.natAbs_tmod x 10
      have hadd := binV_add env.τ 9 (a := [c]) (b := acc) (by simp; omega)
      have hnew : bytesStr env.τ (A ++ [some ⟨5, .wr, [[.i .u8 (48 + (d : Int))]]⟩]) 97 9 (.sl A.length 0 1) = some (.str (BA [c])) := by
        rw [hc8, show (48 + (d : Int)) = ((48 + d : Nat) : Int) by omega]
        exact bytesStr_new (by omega)
      by_cases hneg : x.tmod 10 < 0
      · have e5 : -x.tmod 10 = d := by omega
        have hw0 : IntKind.i64.wrap (d : Int) = (d : Int) := wrap64 (by omega) (by omega)
        simp [t0, t3, t4, hneg, e5, hw0, hw5, hw8, convV, hnew, hadd, hwq]
        refine hn2 (j - 1) _ _ (by omega) ⟨x.tdiv 10, c :: acc, _, by rw [hA, List.append_assoc], hq64, hq2, by simp, by simp [t3], by simp, ?_⟩
        rw [hq, ← hd, hstep]; simp
      · have e5 : x.tmod 10 = d := by omega
        have hdn : ¬ ((d : Int) < 0) := by omega
        simp [t0, t3, t4, e5, hdn, hw5, hw8, convV, hnew, hadd, hwq]
        refine hn2 (j - 1) _ _ (by omega) ⟨x.tdiv 10, c :: acc, _, by rw [hA, List.append_assoc], hq64, hq2, by simp, by simp [t3], by simp, ?_⟩
        rw [hq, ← hd, hstep]; simp
    · simp at hx0
      subst hx0
      simp
      refine he2 _ _ _ ?_
      have hd' : acc = Lib.decDigits n.natAbs := by rw [← hd]; simp [decD]
      simp [t3, t4]
      refine selS_intro (fun hneg => ?_) (fun hneg => ?_)
      · simp at hneg
        have hadd := binV_add env.τ 9 (a := [45]) (b := acc) (by simp; omega)
        simp [t4, hadd]
        refine hQ _ _ _ (by simp) ?_
        simp [Tryd.f26, leave, hA]
        simp [Lib.itoa, hneg, hd']
      · simp at hneg
        simp [t4]
        refine hQ _ _ _ (by simp) ?_
        simp [Tryd.f26, leave, hA]
        rw [hd', Lib.itoa, if_neg (by omega)]
        rw [show n.natAbs = n.toNat by omega]

def Vec.rg (v : Vec) : Prop := I64 v.root ∧ I64 v.cost ∧ I64 v.bridge ∧ I64 v.port
def Port.rg (p : Port) : Prop := p.vec.rg ∧ I64 p.role ∧ I64 p.wait
theorem shpVec_rg {H : Heap} {k : Nat} {l : List Lf} (h : Shp Tryd.prog H (k + 2) 23 l) : ∃ x : Vec, l = x.enc ∧ x.rg := by
  obtain ⟨_, _, rfl, h0, _, _, rfl, h1, _, _, rfl, h2, _, _, rfl, h3, rfl⟩ := h.struct Tryd.underlying23
  obtain ⟨a0, rfl, r0⟩ := h0.i64 Tryd.underlying3
  obtain ⟨a1, rfl, r1⟩ := h1.i64 Tryd.underlying3
  obtain ⟨a2, rfl, r2⟩ := h2.i64 Tryd.underlying3
  obtain ⟨a3, rfl, r3⟩ := h3.i64 Tryd.underlying3
  exact ⟨⟨a0, a1, a2, a3⟩, rfl, r0, r1, r2, r3⟩
theorem shpPort_rg {H : Heap} {k : Nat} {l : List Lf} (h : Shp Tryd.prog H (k + 3) 25 l) : ∃ x : Port, l = x.enc ∧ x.rg := by
  obtain ⟨_, _, rfl, h0, _, _, rfl, h1, _, _, rfl, h2, _, _, rfl, h3, _, _, rfl, h4, _, _, rfl, h5, _, _, rfl, h6, _, _, rfl, h7, rfl⟩ := h.struct Tryd.underlying25
  obtain ⟨a0, rfl⟩ := h0.bool Tryd.underlying4
  obtain ⟨a1, rfl⟩ := h1.bool Tryd.underlying4
  obtain ⟨a2, rfl, r2⟩ := shpVec_rg h2
  obtain ⟨a3, rfl, -⟩ := h3.i64 Tryd.underlying3
  obtain ⟨a4, rfl, -⟩ := h4.i64 Tryd.underlying3
  obtain ⟨a5, rfl, r5⟩ := h5.i64 Tryd.underlying3
  obtain ⟨a6, rfl, r6⟩ := h6.i64 Tryd.underlying3
  obtain ⟨a7, rfl⟩ := h7.bool Tryd.underlying4
  exact ⟨⟨a0, a1, a2, a3, a4, a5, a6, a7⟩, rfl, r2, r5, r6⟩

/-- The plain texts. -/
def vecT (v : Vec) : List UInt8 := Lib.itoa v.root ++ [46] ++ Lib.itoa v.cost ++ [46] ++ Lib.itoa v.bridge ++ [46] ++ Lib.itoa v.port
def roleT (r : Int) : List UInt8 := if r = 0 then [111, 102, 102] else if r = 1 then [114, 111, 111, 116] else if r = 2 then [100, 101, 115] else if r = 3 then [97, 108, 116] else [110, 111, 110, 101]
def openT (b : Bool) : List UInt8 := if b then [111, 112, 101, 110] else [115, 104, 117, 116]
def portT (p : Port) : List UInt8 := roleT p.role ++ [32] ++ openT p.opn ++ [32] ++ Lib.itoa p.wait ++ [32] ++ (if p.has then vecT p.vec else [45])
theorem itoa_len {n : Int} (h : I64 n) : (Lib.itoa n).length ≤ 21 := Lib.itoa_length_le n h.1 h.2
theorem vecT_len {v : Vec} (h : v.rg) : (vecT v).length ≤ 87 := by
  have h1 := itoa_len h.1
  have h2 := itoa_len h.2.1
  have h3 := itoa_len h.2.2.1
  have h4 := itoa_len h.2.2.2
  simp [vecT]; omega
theorem roleT_len (r : Int) : (roleT r).length ≤ 4 := by
  unfold roleT
  repeat' split
  all_goals simp
theorem openT_len (b : Bool) : (openT b).length = 4 := by cases b <;> rfl
theorem portT_len {p : Port} (h : p.rg) : (portT p).length ≤ 120 := by
  have h1 := vecT_len h.1
  have h2 := itoa_len h.2.2
  have h3 := roleT_len p.role
  have h4 := openT_len p.opn
  simp [portT]
  split <;> (try simp) <;> omega

theorem itoaRun {H : Heap} {n : Int} (h : I64 n) : run env 58 [.int n] H = some (.str (BA (Lib.itoa n)), H) := by
  refine run_ext nok58 ?_
  rw [ext_is, if_pos rfl]
  unfold I64 at h
  simp [itoaX, h]
theorem joinRun {H : Heap} {a : Option (Nat × Nat)} {xs : List (List UInt8)} {sep : List UInt8} (hr : rowsOf H a xs.length = some (xs.map fun x => [Lf.s (BA x)])) (hn : xs.length ≤ 140737488355328) (hl : (Lib.join xs sep).length ≤ 140737488355328) :
    run env 30 [.w (.lf (.sl a xs.length)), .str (BA sep)] H = some (.str (BA (Lib.join xs sep)), H) := by
  have h1 : ∀ ys : List (List UInt8), strsV (ys.map fun x => [Lf.s (BA x)]) = some (ys.map BA) := by
    intro ys
    induction ys with
    | nil => rfl
    | cons y ys ih => simp [strsV, ih]
  have h2 : joinT (xs.map BA) (BA sep) = Lib.join xs sep := by
    unfold joinT
    rw [List.map_map]
    show Lib.join (xs.map fun x => x) sep = _
    rw [List.map_id']
  refine run_ext nok30 ?_
  rw [ext_is, if_neg (by decide), if_pos rfl]
  simp [joinX, hr, h1, h2, hn, hl]

theorem implDigits {H : Heap} {n : Int} (h : I64 n) : run env 32 [.int n] H = some (.str (BA (Lib.itoa n)), H) := by
  refine run_walk ok32 Tryd.func32 rfl (by simp [Tryd.f32]) fun Q hQ => ?_
  simp only [Tryd.f32, strip, stripL, stripI, stripG, chkT, tagsB, tagsL, tagD, addT, tagA, lookN, tagOp, elmT, ty32, ty37, ty43, ty48, ty56, ty57, ty58, ty59, ty65, ty66, ty67, ty74, ty80, ty97, Nat.reduceEqDiff, if_false, reduceIte, Option.getD_some, Option.getD_none, dstAt, dstOk, Nat.reduceLT, decide_true, if_true]
  have e0 := fun H => itoaRun (H := H) h
  simp [e0]
  all_goals (refine hQ _ _ _ (by simp) ?_)
  all_goals (clear hQ; simp [Tryd.f32])

theorem specVecText {H : Heap} {v : Vec} (h : v.rg) : run env 27 [.agg v.enc] H = some (.str (BA (vecT v)), H) := by
  refine run_walk ok27 Tryd.func27 rfl (by simp [Tryd.f27]) fun Q hQ => ?_
  simp only [Tryd.f27, strip, stripL, stripI, stripG, chkT, tagsB, tagsL, tagD, addT, tagA, lookN, tagOp, elmT, ty32, ty37, ty43, ty48, ty56, ty57, ty58, ty59, ty65, ty66, ty67, ty74, ty80, ty97, Nat.reduceEqDiff, if_false, reduceIte, Option.getD_some, Option.getD_none, dstAt, dstOk, Nat.reduceLT, decide_true, if_true]
  have e1 := fun H => specDigits (H := H) h.1
  have e2 := fun H => specDigits (H := H) h.2.1
  have e3 := fun H => specDigits (H := H) h.2.2.1
  have e4 := fun H => specDigits (H := H) h.2.2.2
  have h1 := itoa_len h.1
  have h2 := itoa_len h.2.1
  have h3 := itoa_len h.2.2.1
  have h4 := itoa_len h.2.2.2
  simp [Vec.enc, e1, e2, e3, e4]
  rw [binV_add _ _ (by simp; omega)]
  simp [Vec.enc, e1, e2, e3, e4]
  rw [binV_add _ _ (by simp; omega)]
  simp
  rw [binV_add _ _ (by simp; omega)]
  simp [e3]
  rw [binV_add _ _ (by simp; omega)]
  simp
  rw [binV_add _ _ (by simp; omega)]
  simp [e4]
  rw [binV_add _ _ (by simp; omega)]
  simp
  all_goals (refine hQ _ _ _ (by simp) ?_)
  all_goals (clear hQ; simp [Tryd.f27, leave, vecT])

theorem implVecText {H : Heap} {v : Vec} (h : v.rg) : run env 29 [.agg v.enc] H = some (.str (BA (vecT v)), H) := by
  refine run_walk ok29 Tryd.func29 rfl (by simp [Tryd.f29]) fun Q hQ => ?_
  simp only [Tryd.f29, strip, stripL, stripI, stripG, chkT, tagsB, tagsL, tagD, addT, tagA, lookN, tagOp, elmT, ty32, ty37, ty43, ty48, ty56, ty57, ty58, ty59, ty65, ty66, ty67, ty74, ty80, ty97, Nat.reduceEqDiff, if_false, reduceIte, Option.getD_some, Option.getD_none, dstAt, dstOk, Nat.reduceLT, decide_true, if_true]
  have e1 := fun H => implDigits (H := H) h.1
  have e2 := fun H => implDigits (H := H) h.2.1
  have e3 := fun H => implDigits (H := H) h.2.2.1
  have e4 := fun H => implDigits (H := H) h.2.2.2
  have h1 := itoa_len h.1
  have h2 := itoa_len h.2.1
  have h3 := itoa_len h.2.2.1
  have h4 := itoa_len h.2.2.2
  simp [Vec.enc, e1, e2, e3, e4]
  rw [binV_add _ _ (by simp; omega)]
  simp [Vec.enc, e1, e2, e3, e4]
  rw [binV_add _ _ (by simp; omega)]
  simp
  rw [binV_add _ _ (by simp; omega)]
  simp [e3]
  rw [binV_add _ _ (by simp; omega)]
  simp
  rw [binV_add _ _ (by simp; omega)]
  simp [e4]
  rw [binV_add _ _ (by simp; omega)]
  simp
  all_goals (refine hQ _ _ _ (by simp) ?_)
  all_goals (clear hQ; simp [Tryd.f29, leave, vecT])

theorem implRoleText {H : Heap} {r : Int} : run env 31 [.int r] H = some (.str (BA (roleT r)), H) := by
  refine run_walk ok31 Tryd.func31 rfl (by simp [Tryd.f31]) fun Q hQ => ?_
  simp only [Tryd.f31, strip, stripL, stripI, stripG, chkT, tagsB, tagsL, tagD, addT, tagA, lookN, tagOp, elmT, ty32, ty37, ty43, ty48, ty56, ty57, ty58, ty59, ty65, ty66, ty67, ty74, ty80, ty97, Nat.reduceEqDiff, if_false, reduceIte, Option.getD_some, Option.getD_none, dstAt, dstOk, Nat.reduceLT, decide_true, if_true]
  by_cases h0 : r = 0
  · simp [h0]
    all_goals (refine hQ _ _ _ (by simp) ?_)
    all_goals (clear hQ; simp [Tryd.f31, leave, roleT, h0])
  by_cases h1 : r = 1
  · simp [h0, h1]
    all_goals (refine hQ _ _ _ (by simp) ?_)
    all_goals (clear hQ; simp [Tryd.f31, leave, roleT, h0, h1])
  by_cases h2 : r = 2
  · simp [h0, h1, h2]
    all_goals (refine hQ _ _ _ (by simp) ?_)
    all_goals (clear hQ; simp [Tryd.f31, leave, roleT, h0, h1, h2])
  by_cases h3 : r = 3
  · simp [h0, h1, h2, h3]
    all_goals (refine hQ _ _ _ (by simp) ?_)
    all_goals (clear hQ; simp [Tryd.f31, leave, roleT, h0, h1, h2, h3])
  · simp [h0, h1, h2, h3]
    all_goals (refine hQ _ _ _ (by simp) ?_)
    all_goals (clear hQ; simp [Tryd.f31, leave, roleT, h0, h1, h2, h3])

theorem specPortText {H : Heap} {p : Port} (h : p.rg) : run env 7 [.agg p.enc] H = some (.str (BA (portT p)), H) := by
  have e1 := fun H => specDigits (H := H) h.2.2
  have e2 := fun H => specVecText (H := H) h.1
  have h1 := itoa_len h.2.2
  have h2 := vecT_len h.1
  simp only [Vec.enc] at e2
  refine run_walk ok7 Tryd.func7 rfl (by simp [Tryd.f7]) fun Q hQ => ?_
  simp only [Tryd.f7, strip, stripL, stripI, stripG, chkT, tagsB, tagsL, tagD, addT, tagA, lookN, tagOp, elmT, ty32, ty37, ty43, ty48, ty56, ty57, ty58, ty59, ty65, ty66, ty67, ty74, ty80, ty97, Nat.reduceEqDiff, if_false, reduceIte, Option.getD_some, Option.getD_none, dstAt, dstOk, Nat.reduceLT, decide_true, if_true]
  obtain ⟨up, has, vec, hops, left, role, wait, opn⟩ := p
  simp only at h1 h2 e1 e2
  by_cases hr : 0 ≤ role ∧ role ≤ 3
  · have hr4 : role = 0 ∨ role = 1 ∨ role = 2 ∨ role = 3 := by omega
    rcases hr4 with rfl | rfl | rfl | rfl <;> cases opn <;> cases has
    all_goals simp (disch := (simp; try omega)) [Port.enc, l1In, e1, e2, indexAddrV, elemIs, binV_add]
    all_goals (refine hQ _ _ _ (by simp) ?_)
    all_goals (simp [Tryd.f7, leave, portT, roleT, openT])
  · have hx : roleT role = [110, 111, 110, 101] := by
      unfold roleT
      rw [if_neg (by omega), if_neg (by omega), if_neg (by omega), if_neg (by omega)]
    have hr2 : (decide (0 ≤ role) && decide (role ≤ 3)) = false := by
      rw [Bool.and_eq_false_iff]
      simp; omega
    clear hr
    cases opn <;> cases has
    all_goals simp (disch := (simp; try omega)) [Port.enc, l1In, hr2, e1, e2, indexAddrV, elemIs, binV_add]
    all_goals (refine hQ _ _ _ (by simp) ?_)
    all_goals (simp [Tryd.f7, leave, portT, hx, openT])

theorem implPortText {H : Heap} {p : Port} (h : p.rg) : run env 9 [.agg p.enc] H = some (.str (BA (portT p)), H) := by
  have e1 := fun H => implDigits (H := H) h.2.2
  have e2 := fun H => implVecText (H := H) h.1
  have e3 := fun H => implRoleText (H := H) (r := p.role)
  have h1 := itoa_len h.2.2
  have h2 := vecT_len h.1
  have h3 := roleT_len p.role
  have h4 := portT_len h
  simp only [Vec.enc] at e2
  refine run_walk ok9 Tryd.func9 rfl (by simp [Tryd.f9]) fun Q hQ => ?_
  simp only [Tryd.f9, strip, stripL, stripI, stripG, chkT, tagsB, tagsL, tagD, addT, tagA, lookN, tagOp, elmT, ty32, ty37, ty43, ty48, ty56, ty57, ty58, ty59, ty65, ty66, ty67, ty74, ty80, ty97, Nat.reduceEqDiff, if_false, reduceIte, Option.getD_some, Option.getD_none, dstAt, dstOk, Nat.reduceLT, decide_true, if_true]
  obtain ⟨up, has, vec, hops, left, role, wait, opn⟩ := p
  simp only at h1 h2 h3 e1 e2 e3
  have ej : ∀ (H : Heap) (B : Option Blk) (o x : List UInt8), o.length ≤ 4 → x.length ≤ 100 →
      run env 30 [.sl (H.length + 1) 0 4, .str (BA [32])] (H ++ [B, some ⟨9, .wr, [[.s (BA (roleT role))], [.s (BA o)], [.s (BA (Lib.itoa wait))], [.s (BA x)]]⟩]) =
        some (.str (BA (Lib.join [roleT role, o, Lib.itoa wait, x] [32])), H ++ [B, some ⟨9, .wr, [[.s (BA (roleT role))], [.s (BA o)], [.s (BA (Lib.itoa wait))], [.s (BA x)]]⟩]) := by
    intro H B o x ho hx
    refine joinRun (xs := [roleT role, o, Lib.itoa wait, x]) (by simp [rowsOf, blkAt]) (by simp) ?_
    rw [Lib.join_cons]
    simp [Lib.joinTail]
    omega
  cases opn <;> cases has
  all_goals simp (disch := ((try simp); (try omega))) [Port.enc, e1, e2, e3, ej]
  all_goals (refine hQ _ _ _ (by simp) ?_)
  all_goals (simp [Tryd.f9, leave, portT, openT, Lib.join_cons, Lib.joinTail])

def bridgeT (b : Bridge) : List UInt8 := Lib.itoa b.id ++ [10] ++ (b.ports.map fun p => portT p ++ [10]).flatten
def Bridge.rg (b : Bridge) : Prop := I64 b.id ∧ ∀ p ∈ b.ports, p.rg
theorem shpBridge_rg {H : Heap} {k : Nat} {l : List Lf} (h : Shp Tryd.prog H (k + 5) 45 l) : ∃ x : Bridge, RdLBridge H l x ∧ x.fit ∧ x.rg := by
  obtain ⟨_, _, rfl, h1, _, _, rfl, h2, rfl⟩ := h.struct Tryd.underlying45
  obtain ⟨x1, rfl, r1⟩ := h1.i64 Tryd.underlying3
  obtain ⟨xs, a, rfl, hs, hl, hr⟩ := h2.sl (f := Port.enc) (R := Port.rg) Tryd.underlying43 fun row hr => shpPort_rg hr
  exact ⟨⟨x1, xs⟩, ⟨a, rfl, hs⟩, hl, r1, hr⟩
theorem bridgeT_len {b : Bridge} (h : b.rg) (i : Nat) : (Lib.itoa b.id ++ [10] ++ ((b.ports.take i).map fun p => portT p ++ [10]).flatten).length ≤ 22 + 121 * i := by
  have h0 := itoa_len h.1
  induction i with
  | zero => simp; omega
  | succ i ih =>
    rw [List.take_add_one]
    cases hi : b.ports[i]? with
    | none => simp at ih ⊢; omega
    | some p =>
      have := portT_len (h.2 p (List.mem_of_getElem? hi))
      simp at ih ⊢; omega

theorem specBridgeText_is {H : Heap} {l : List Lf} {b : Bridge} (h : RdBridge H l b) (hl : b.ports.length ≤ 1048576) (hg : b.rg) : run env 16 [.agg l] H = some (.str (BA (bridgeT b)), H) := by
  obtain ⟨a, rfl, hs⟩ := h
  have hlen := bridgeT_len hg
  have e0 := fun H => specDigits (H := H) hg.1
  have h0 := itoa_len hg.1
  refine run_walk ok16 Tryd.func16 rfl (by simp [Tryd.f16]) fun Q hQ => ?_
  simp only [Tryd.f16, strip, stripL, stripI, stripG, chkT, tagsB, tagsL, tagD, addT, tagA, lookN, tagOp, elmT, ty32, ty37, ty43, ty48, ty56, ty57, ty58, ty59, ty65, ty66, ty67, ty74, ty80, ty97, Nat.reduceEqDiff, if_false, reduceIte, Option.getD_some, Option.getD_none, dstAt, dstOk, Nat.reduceLT, decide_true, if_true]
  simp [Bridge.enc, e0]
  rw [binV_add _ _ (by simp; omega)]
  simp
  refine wpS_loop (fun j tm A => ∃ (i : Nat) (G : Heap), A = H ++ G ∧ i + j = b.ports.length ∧ tm 1 = .ptr H.length 0 0 ∧ tm 3 = .str (BA (Lib.itoa b.id ++ [10] ++ ((b.ports.take i).map fun p => portT p ++ [10]).flatten)) ∧ tm 4 = .int i ∧ blkAt A H.length = some ⟨50, .wr, [b.enc a]⟩) b.ports.length (by rw [env_K]; omega) ⟨0, _, rfl, by simp, by simp, by simp, by simp, by simp [blkAt, Bridge.enc]⟩ ?_
  rintro j tm A hj ⟨i, G, hA, hij, t1, t3, t4, hb⟩ Q2 hn2 he2 hr2
  simp [t1, t3, t4, hb, Bridge.enc, builtinV, pureB, lenV]
  refine selS_intro (fun hc => ?_) (fun hc => ?_)
  · simp at hc
    obtain ⟨id, r, bl, rfl, hbl, hbe, hrow⟩ := (hs.app G) i _ (by simp [hc]; rfl)
    rw [← hA] at hbl
    have g4 : IntKind.i64.wrap ((i : Int) + 1) = (i : Int) + 1 := wrap64 (by omega) (by omega)
    have hp := hg.2 b.ports[i] (by simp)
    have e1 := fun H => specPortText (H := H) hp
    have h1 := hlen i
    have h2 := portT_len hp
    obtain ⟨acc, hacc⟩ : ∃ acc, acc = Lib.itoa b.id ++ [10] ++ ((b.ports.take i).map fun p => portT p ++ [10]).flatten := ⟨_, rfl⟩
    rw [← hacc] at t3 h1
    simp [t1, t3, t4, hb, Bridge.enc, builtinV, pureB, lenV, indexAddrV, elemIs, hbl, hbe, hc, hrow, e1, g4]
    rw [binV_add _ _ (by omega)]
    simp [t1, t3, t4]
    rw [binV_add _ _ (by simp; omega)]
    simp [t1, t4, g4]
    refine hn2 (j - 1) _ _ (by omega) ⟨i + 1, G, hA, by omega, by simp [t1], ?_, by simp, hb⟩
    have e : Lib.itoa b.id ++ [10] ++ ((b.ports.take (i + 1)).map fun p => portT p ++ [10]).flatten = acc ++ portT b.ports[i] ++ [10] := by
      rw [List.take_add_one, List.getElem?_eq_getElem hc, hacc]
      simp only [Option.toList_some, List.map_append, List.flatten_append, List.map_cons, List.map_nil, List.flatten_cons, List.flatten_nil, List.append_assoc, List.append_nil, List.cons_append, List.nil_append]
    rw [e]
    simp
  · simp at hc
    have hi : i = b.ports.length := by omega
    subst hi
    rw [List.take_length] at t3
    simp [t1, t3, t4]
    refine he2 _ _ _ ?_
    simp [t3]
    refine hQ _ _ _ (by simp) ?_
    simp [Tryd.f16, leave, hA, bridgeT]

theorem implBridgeText_is {H : Heap} {l : List Lf} {b : Bridge} (h : RdBridge H l b) (hl : b.ports.length ≤ 1048576) (hg : b.rg) : run env 18 [.agg l] H = some (.str (BA (bridgeT b)), H) := by
  obtain ⟨a, rfl, hs⟩ := h
  have hlen := bridgeT_len hg
  have e0 := fun H => implDigits (H := H) hg.1
  have h0 := itoa_len hg.1
  refine run_walk ok18 Tryd.func18 rfl (by simp [Tryd.f18]) fun Q hQ => ?_
  simp only [Tryd.f18, strip, stripL, stripI, stripG, chkT, tagsB, tagsL, tagD, addT, tagA, lookN, tagOp, elmT, ty32, ty37, ty43, ty48, ty56, ty57, ty58, ty59, ty65, ty66, ty67, ty74, ty80, ty97, Nat.reduceEqDiff, if_false, reduceIte, Option.getD_some, Option.getD_none, dstAt, dstOk, Nat.reduceLT, decide_true, if_true]
  simp [Bridge.enc, e0]
  rw [binV_add _ _ (by simp; omega)]
  simp [Bridge.enc, builtinV, pureB, lenV]
  refine wpS_loop (fun j tm A => ∃ (i : Nat) (G : Heap), A = H ++ G ∧ i + j = b.ports.length ∧ tm 11 = .w (.lf (.sl a b.ports.length)) ∧ tm 12 = .int b.ports.length ∧ tm 3 = .str (BA (Lib.itoa b.id ++ [10] ++ ((b.ports.take i).map fun p => portT p ++ [10]).flatten)) ∧ tm 13 = .int i) b.ports.length (by rw [env_K]; omega) ⟨0, _, rfl, by simp, by simp, by simp, by simp, by simp⟩ ?_
  rintro j tm A hj ⟨i, G, hA, hij, t11, t12, t3, t13⟩ Q2 hn2 he2 hr2
  simp [t11, t12, t3, t13]
  refine selS_intro (fun hc => ?_) (fun hc => ?_)
  · simp at hc
    obtain ⟨id, r, bl, rfl, hbl, hbe, hrow⟩ := (hs.app G) i _ (by simp [hc]; rfl)
    rw [← hA] at hbl
    have g4 : IntKind.i64.wrap ((i : Int) + 1) = (i : Int) + 1 := wrap64 (by omega) (by omega)
    have hp := hg.2 b.ports[i] (by simp)
    have e1 := fun H => implPortText (H := H) hp
    have h1 := hlen i
    have h2 := portT_len hp
    have hbl2 := fun G => blkAt_app hbl G
    have hid := blkAt_len hbl
    obtain ⟨acc, hacc⟩ : ∃ acc, acc = Lib.itoa b.id ++ [10] ++ ((b.ports.take i).map fun p => portT p ++ [10]).flatten := ⟨_, rfl⟩
    rw [← hacc] at t3 h1
    simp [t11, t12, t3, t13, indexAddrV, elemIs, hbl, hbe, hc, hrow, e1, g4]
    rw [binV_add _ _ (by simp; omega)]
    simp [t3]
    rw [binV_add _ _ (by simp; omega)]
    simp [t11, t12, t13, g4]
    refine hn2 (j - 1) _ _ (by omega) ⟨i + 1, _, by rw [hA, List.append_assoc], by omega, by simp [t11], by simp [t12], ?_, by simp⟩
    have e : Lib.itoa b.id ++ [10] ++ ((b.ports.take (i + 1)).map fun p => portT p ++ [10]).flatten = acc ++ (portT b.ports[i] ++ [10]) := by
      rw [List.take_add_one, List.getElem?_eq_getElem hc, hacc]
      simp only [Option.toList_some, List.map_append, List.flatten_append, List.map_cons, List.map_nil, List.flatten_cons, List.flatten_nil, List.append_assoc, List.append_nil, List.cons_append, List.nil_append]
    rw [e]
    simp
  · simp at hc
    have hi : i = b.ports.length := by omega
    subst hi
    rw [List.take_length] at t3
    simp [t3]
    refine he2 _ _ _ ?_
    simp [t3]
    refine hQ _ _ _ (by simp) ?_
    simp [Tryd.f18, leave, hA, bridgeT]
end W
end Go.Proofs.YtjgjjaidpceieabDoor

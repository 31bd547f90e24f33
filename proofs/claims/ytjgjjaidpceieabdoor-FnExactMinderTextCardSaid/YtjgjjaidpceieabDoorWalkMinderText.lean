/- The functions that this law reaches: what each computes. Conditions: those that each theorem names. -/
import Derived.Test.YtjgjjaidpceieabDoorAbEnvMinderText
set_option maxRecDepth 100000
set_option maxHeartbeats 4000000
set_option linter.unusedSimpArgs false
set_option linter.unusedVariables false
set_option linter.unnecessarySimpa false
namespace Go.Proofs.YtjgjjaidpceieabDoor
open Go Go.Ab Go.ChangeShapes Go.WideShapes Go.ChangeAt Go.RowKit
namespace W
structure Vec where
  root : Int
  cost : Int
  bridge : Int
  port : Int
  deriving DecidableEq, Inhabited
def Vec.enc (x : Vec) : List Lf := [.i .i64 x.root, .i .i64 x.cost, .i .i64 x.bridge, .i .i64 x.port]
@[simp] theorem Vec.enc_len (x : Vec) : x.enc.length = 4 := rfl
@[simp] theorem Vec.enc_take (x : Vec) : List.take 4 x.enc = x.enc := rfl
@[simp] theorem Vec.enc_drop (x : Vec) : List.drop 4 x.enc = [] := rfl
abbrev Vec.z : List Lf := [.i .i64 0, .i .i64 0, .i .i64 0, .i .i64 0]
abbrev Vec.zv : Vec := ⟨0, 0, 0, 0⟩
theorem Vec.enc_inj {x y : Vec} (h : x.enc = y.enc) : x = y := by
  obtain ⟨_, _, _, _⟩ := x
  obtain ⟨_, _, _, _⟩ := y
  simp [Vec.enc] at h
  simp_all
def Vec.mk' (k : Int) : Vec := ⟨k, k + 1, k + 2, k + 3⟩
theorem Vec.mk'_of {y : Vec} {c : Int} (h0 : y.root = c) (h1 : y.cost = c + 1) (h2 : y.bridge = c + 2) (h3 : y.port = c + 3) : y = Vec.mk' c := by
  rcases y with ⟨w0, v1, v2, v3⟩
  simp only at h0 h1 h2 h3
  subst h0 h1 h2 h3
  rfl

theorem toVec (H : Heap) (x : Vec) : run env 28 [.agg x.enc] H = some (.agg x.enc, H) := by
  refine run_walk ok28 Tryd.func28 rfl (by simp [Tryd.f28]) fun Q hQ => ?_
  simp only [Tryd.f28, strip, stripL, stripI, stripG, chkT, tagsB, tagsL, tagD, addT, tagA, lookN, tagOp, elmT, ty32, ty37, ty43, ty48, ty56, ty57, ty58, ty59, ty65, ty66, ty67, ty74, ty80, ty97, Nat.reduceEqDiff, if_false, reduceIte, Option.getD_some, Option.getD_none, dstAt, dstOk, Nat.reduceLT, decide_true, if_true]
  simp [Vec.enc]
  all_goals (refine hQ _ _ _ (by simp) ?_)
  all_goals (clear hQ; simp [Tryd.f28, Vec.enc])

theorem eqVec (H : Heap) (x y : Vec) : run env 69 [.agg x.enc, .agg y.enc] H = some (.bool (decide (x = y)), H) := by
  obtain ⟨a0, a1, a2, a3⟩ := x
  obtain ⟨b0, b1, b2, b3⟩ := y
  refine run_walk ok69 Tryd.func69 rfl (by simp [Tryd.f69]) fun Q hQ => ?_
  simp only [Tryd.f69, strip, stripL, stripI, stripG, chkT, tagsB, tagsL, tagD, addT, tagA, lookN, tagOp, elmT, ty32, ty37, ty43, ty48, ty56, ty57, ty58, ty59, ty65, ty66, ty67, ty74, ty80, ty97, Nat.reduceEqDiff, if_false, reduceIte, Option.getD_some, Option.getD_none, dstAt, dstOk, Nat.reduceLT, decide_true, if_true]
  simp [Vec.enc]
  repeat' (first | (refine gdL_t (fun h => ?_) (fun h => ?_) <;> simp [h]) | (refine gdL_f (fun h => ?_) (fun h => ?_) <;> simp [h]) | (refine selS_intro (fun h => ?_) (fun h => ?_) <;> simp [h]))
  all_goals (refine hQ _ _ _ (by simp) ?_)
  all_goals (clear hQ; simp_all [Tryd.f69])

theorem shpVec {H : Heap} {k : Nat} {l : List Lf} (h : Shp Tryd.prog H (k + 2) 23 l) : ∃ x : Vec, l = x.enc := by
  obtain ⟨_, _, rfl, h0, _, _, rfl, h1, _, _, rfl, h2, _, _, rfl, h3, rfl⟩ := h.struct Tryd.underlying23
  obtain ⟨a0, rfl, -⟩ := h0.i64 Tryd.underlying3
  obtain ⟨a1, rfl, -⟩ := h1.i64 Tryd.underlying3
  obtain ⟨a2, rfl, -⟩ := h2.i64 Tryd.underlying3
  obtain ⟨a3, rfl, -⟩ := h3.i64 Tryd.underlying3
  exact ⟨⟨a0, a1, a2, a3⟩, rfl⟩

structure Port where
  up : Bool
  has : Bool
  vec : Vec
  hops : Int
  left : Int
  role : Int
  wait : Int
  opn : Bool
  deriving DecidableEq, Inhabited
def Port.enc (x : Port) : List Lf := [.b x.up, .b x.has, .i .i64 x.vec.root, .i .i64 x.vec.cost, .i .i64 x.vec.bridge, .i .i64 x.vec.port, .i .i64 x.hops, .i .i64 x.left, .i .i64 x.role, .i .i64 x.wait, .b x.opn]
@[simp] theorem Port.enc_len (x : Port) : x.enc.length = 11 := rfl
@[simp] theorem Port.enc_take (x : Port) : List.take 11 x.enc = x.enc := rfl
@[simp] theorem Port.enc_drop (x : Port) : List.drop 11 x.enc = [] := rfl
abbrev Port.z : List Lf := [.b false, .b false, .i .i64 0, .i .i64 0, .i .i64 0, .i .i64 0, .i .i64 0, .i .i64 0, .i .i64 0, .i .i64 0, .b false]
abbrev Port.zv : Port := ⟨false, false, ⟨0, 0, 0, 0⟩, 0, 0, 0, 0, false⟩
theorem Port.enc_inj {x y : Port} (h : x.enc = y.enc) : x = y := by
  rcases x with ⟨v0, v1, ⟨v2_0, v2_1, v2_2, v2_3⟩, v3, v4, v5, v6, v7⟩
  rcases y with ⟨w0, v1, ⟨v2_0, v2_1, v2_2, v2_3⟩, v3, v4, v5, v6, v7⟩
  simp [Port.enc] at h
  simp_all
def Port.mk' (k : Int) : Port := ⟨decide ((k).tmod 3 = 0), decide ((k + 1).tmod 3 = 0), ⟨k + 2, k + 3, k + 4, k + 5⟩, k + 6, k + 7, k + 8, k + 9, decide ((k + 10).tmod 3 = 0)⟩
theorem Port.mk'_of {y : Port} {c : Int} (h0 : y.up = decide ((c).tmod 3 = 0)) (h1 : y.has = decide ((c + 1).tmod 3 = 0)) (h2 : y.vec.root = c + 2) (h3 : y.vec.cost = c + 3) (h4 : y.vec.bridge = c + 4) (h5 : y.vec.port = c + 5) (h6 : y.hops = c + 6) (h7 : y.left = c + 7) (h8 : y.role = c + 8) (h9 : y.wait = c + 9) (h10 : y.opn = decide ((c + 10).tmod 3 = 0)) : y = Port.mk' c := by
  rcases y with ⟨w0, v1, ⟨v2_0, v2_1, v2_2, v2_3⟩, v3, v4, v5, v6, v7⟩
  simp only at h0 h1 h2 h3 h4 h5 h6 h7 h8 h9 h10
  subst h0 h1 h2 h3 h4 h5 h6 h7 h8 h9 h10
  rfl

structure In where
  kind : Int
  port : Int
  vec : Vec
  hops : Int
  up : Bool
  deriving DecidableEq, Inhabited
def In.enc (x : In) : List Lf := [.i .i64 x.kind, .i .i64 x.port, .i .i64 x.vec.root, .i .i64 x.vec.cost, .i .i64 x.vec.bridge, .i .i64 x.vec.port, .i .i64 x.hops, .b x.up]
@[simp] theorem In.enc_len (x : In) : x.enc.length = 8 := rfl
@[simp] theorem In.enc_take (x : In) : List.take 8 x.enc = x.enc := rfl
@[simp] theorem In.enc_drop (x : In) : List.drop 8 x.enc = [] := rfl
abbrev In.z : List Lf := [.i .i64 0, .i .i64 0, .i .i64 0, .i .i64 0, .i .i64 0, .i .i64 0, .i .i64 0, .b false]
abbrev In.zv : In := ⟨0, 0, ⟨0, 0, 0, 0⟩, 0, false⟩
theorem In.enc_inj {x y : In} (h : x.enc = y.enc) : x = y := by
  rcases x with ⟨v0, v1, ⟨v2_0, v2_1, v2_2, v2_3⟩, v3, v4⟩
  rcases y with ⟨w0, v1, ⟨v2_0, v2_1, v2_2, v2_3⟩, v3, v4⟩
  simp [In.enc] at h
  simp_all
def In.mk' (k : Int) : In := ⟨k, k + 1, ⟨k + 2, k + 3, k + 4, k + 5⟩, k + 6, decide ((k + 7).tmod 3 = 0)⟩
theorem In.mk'_of {y : In} {c : Int} (h0 : y.kind = c) (h1 : y.port = c + 1) (h2 : y.vec.root = c + 2) (h3 : y.vec.cost = c + 3) (h4 : y.vec.bridge = c + 4) (h5 : y.vec.port = c + 5) (h6 : y.hops = c + 6) (h7 : y.up = decide ((c + 7).tmod 3 = 0)) : y = In.mk' c := by
  rcases y with ⟨w0, v1, ⟨v2_0, v2_1, v2_2, v2_3⟩, v3, v4⟩
  simp only at h0 h1 h2 h3 h4 h5 h6 h7
  subst h0 h1 h2 h3 h4 h5 h6 h7
  rfl

theorem toIn (H : Heap) (x : In) : run env 59 [.agg x.enc] H = some (.agg x.enc, H) := by
  refine run_walk ok59 Tryd.func59 rfl (by simp [Tryd.f59]) fun Q hQ => ?_
  simp only [Tryd.f59, strip, stripL, stripI, stripG, chkT, tagsB, tagsL, tagD, addT, tagA, lookN, tagOp, elmT, ty32, ty37, ty43, ty48, ty56, ty57, ty58, ty59, ty65, ty66, ty67, ty74, ty80, ty97, Nat.reduceEqDiff, if_false, reduceIte, Option.getD_some, Option.getD_none, dstAt, dstOk, Nat.reduceLT, decide_true, if_true]
  have e0 := fun H => toVec H x.vec
  simp only [Vec.enc] at e0
  simp [In.enc, e0]
  all_goals (refine hQ _ _ _ (by simp) ?_)
  all_goals (clear hQ; simp [Tryd.f59, In.enc])

theorem eqIn (H : Heap) (x y : In) : run env 60 [.agg x.enc, .agg y.enc] H = some (.bool (decide (x = y)), H) := by
  have e0 := fun H => eqVec H x.vec y.vec
  obtain ⟨a0, a1, a2, a3, a4⟩ := x
  obtain ⟨b0, b1, b2, b3, b4⟩ := y
  simp only [Vec.enc] at e0
  refine run_walk ok60 Tryd.func60 rfl (by simp [Tryd.f60]) fun Q hQ => ?_
  simp only [Tryd.f60, strip, stripL, stripI, stripG, chkT, tagsB, tagsL, tagD, addT, tagA, lookN, tagOp, elmT, ty32, ty37, ty43, ty48, ty56, ty57, ty58, ty59, ty65, ty66, ty67, ty74, ty80, ty97, Nat.reduceEqDiff, if_false, reduceIte, Option.getD_some, Option.getD_none, dstAt, dstOk, Nat.reduceLT, decide_true, if_true]
  simp [In.enc]
  repeat' (first | (refine gdL_t (fun h => ?_) (fun h => ?_) <;> simp [h, e0]) | (refine gdL_f (fun h => ?_) (fun h => ?_) <;> simp [h, e0]) | (refine selS_intro (fun h => ?_) (fun h => ?_) <;> simp [h, e0]))
  all_goals (refine hQ _ _ _ (by simp) ?_)
  all_goals (clear hQ; simp_all [Tryd.f60])

theorem shpIn {H : Heap} {k : Nat} {l : List Lf} (h : Shp Tryd.prog H (k + 3) 116 l) : ∃ x : In, l = x.enc := by
  obtain ⟨_, _, rfl, h0, _, _, rfl, h1, _, _, rfl, h2, _, _, rfl, h3, _, _, rfl, h4, rfl⟩ := h.struct Tryd.underlying116
  obtain ⟨a0, rfl, -⟩ := h0.i64 Tryd.underlying3
  obtain ⟨a1, rfl, -⟩ := h1.i64 Tryd.underlying3
  obtain ⟨a2, rfl⟩ := shpVec h2
  obtain ⟨a3, rfl, -⟩ := h3.i64 Tryd.underlying3
  obtain ⟨a4, rfl⟩ := h4.bool Tryd.underlying4
  exact ⟨⟨a0, a1, a2, a3, a4⟩, rfl⟩

def encI (x : Int) : List Lf := [.i .i64 x]
@[simp] theorem encI_len (x : Int) : (encI x).length = 1 := rfl
@[simp] theorem encI_take (x : Int) : List.take 1 (encI x) = [.i .i64 x] := rfl
def mkI (k : Int) : Int := k
theorem encI_inj {x y : Int} (h : encI x = encI y) : x = y := by simpa [encI] using h

theorem toInS (H : Heap) (a : Option (Nat × Nat)) (xs : List In) (h : Sl H 116 a (xs.map In.enc)) (hn : xs.length ≤ 1048576) :
    run env 34 [.w (.lf (.sl a xs.length))] H = some (.sl H.length 0 xs.length, H ++ [some ⟨113, .wr, xs.map In.enc⟩]) := by
  refine run_walk ok34 Tryd.func34 rfl (by simp [Tryd.f34]) fun Q hQ => ?_
  simp only [Tryd.f34, strip, stripL, stripI, stripG, chkT, tagsB, tagsL, tagD, addT, tagA, lookN, tagOp, elmT, ty32, ty37, ty43, ty48, ty56, ty57, ty58, ty59, ty65, ty66, ty67, ty74, ty80, ty97, Nat.reduceEqDiff, if_false, reduceIte, Option.getD_some, Option.getD_none, dstAt, dstOk, Nat.reduceLT, decide_true, if_true]
  have k1 : (xs.length : Int) * 64 ≤ 281474976710656 := by omega
  have k2 : (xs.length : Int) ≤ 9223372036854775807 := by omega
  have k3 : (xs.length : Int) ≤ 281474976710656 := by omega
  simp [builtinV, pureB, lenV, makeSliceV, makeSliceR, newBlk, k1, k2, k3]
  refine wpS_loop (fun j tm H' => ∃ i, i + j = xs.length ∧ tm 0 = .w (.lf (.sl a xs.length)) ∧ tm 3 = .sl H.length 0 xs.length ∧ tm 4 = .int i ∧ H' = H ++ [some ⟨113, .wr, fillR (xs.map In.enc) In.z i j⟩]) xs.length (by rw [env_K]; omega) ⟨0, by simp, by simp, by simp, by simp, by rw [fillR_zero _ _ (by simp)]⟩ ?_
  rintro j tm H' hj ⟨i, hij, h0, h3, h4, rfl⟩ Q' hn' he' hr'
  simp [h0, h3, h4, builtinV, pureB, lenV]
  refine selS_intro (fun hc => ?_) (fun hc => ?_)
  · simp at hc
    obtain ⟨j, rfl⟩ : ∃ j', j = j' + 1 := ⟨j - 1, by omega⟩
    obtain ⟨id, r, b, rfl, hb, hbe, hrow⟩ := h i _ (by simp [hc]; rfl)
    have hid := blkAt_len hb
    have g2 := fillR_get (ys := xs.map In.enc) (z := In.z) (i := i) (j := j) (by simpa using hij)
    have g3 := fillR_set (ys := xs.map In.enc) (z := In.z) (i := i) (j := j) (y := In.enc xs[i]) (by simpa using hij) (by simp [hc])
    have g4 : IntKind.i64.wrap ((i : Int) + 1) = (i : Int) + 1 := wrap64 (by omega) (by omega)
    simp [h0, h3, h4, indexAddrV, elemIs, hid, hb, hbe, hc, hrow, toIn, g2, g3, g4]
    exact hn' j _ _ (by omega) ⟨i + 1, by omega, by simp [h0], by simp [h3], by simp, by simpa using congrArg (fun r => H ++ [some (⟨113, .wr, r⟩ : Blk)]) g3⟩
  · simp at hc
    have hj0 : j = 0 := by omega
    subst hj0
    simp [h0, h3, h4]
    refine he' _ _ _ ?_
    simp [h3]
    refine hQ _ _ _ (by simp) ?_
    simp [Tryd.f34, leave, fillR_done (ys := xs.map In.enc) (i := i) (z := In.z) (by simpa using hij), refFree]

theorem szInS (H : Heap) (a : Option (Nat × Nat)) (n : Nat) (left : Int) (h1 : 0 ≤ left) (h2 : left ≤ 1048576) (h3 : n ≤ maxLen) :
    run env 33 [.w (.lf (.sl a n)), .int left] H = some (.int (if left < n then -1 else left - n), H) := by
  have hm : (n : Int) ≤ 9223372036854775807 := by unfold maxLen at h3; omega
  refine run_walk ok33 Tryd.func33 rfl (by simp [Tryd.f33]) fun Q hQ => ?_
  simp only [Tryd.f33, strip, stripL, stripI, stripG, chkT, tagsB, tagsL, tagD, addT, tagA, lookN, tagOp, elmT, ty32, ty37, ty43, ty48, ty56, ty57, ty58, ty59, ty65, ty66, ty67, ty74, ty80, ty97, Nat.reduceEqDiff, if_false, reduceIte, Option.getD_some, Option.getD_none, dstAt, dstOk, Nat.reduceLT, decide_true, if_true]
  have g : IntKind.i64.wrap (left - n) = left - n := wrap64 (by omega) (by omega)
  simp [builtinV, pureB, lenV, g]
  repeat' (first | (refine gdL_t (fun h => ?_) (fun h => ?_) <;> simp [h]) | (refine gdL_f (fun h => ?_) (fun h => ?_) <;> simp [h]) | (refine selS_intro (fun h => ?_) (fun h => ?_) <;> simp [h]))
  all_goals (refine hQ _ _ _ (by simp) ?_)
  all_goals (clear hQ; simp_all [Tryd.f33] <;> omega)

theorem eqInS (H : Heap) (a b : Option (Nat × Nat)) (xs ys : List In) (ha : Sl H 113 a (xs.map In.enc)) (hb : Sl H 113 b (ys.map In.enc)) (hn : xs.length ≤ 1048576) :
    run env 36 [.w (.lf (.sl a xs.length)), .w (.lf (.sl b ys.length))] H = some (.bool (decide (xs = ys)), H) := by
  refine run_walk ok36 Tryd.func36 rfl (by simp [Tryd.f36]) fun Q hQ => ?_
  simp only [Tryd.f36, strip, stripL, stripI, stripG, chkT, tagsB, tagsL, tagD, addT, tagA, lookN, tagOp, elmT, ty32, ty37, ty43, ty48, ty56, ty57, ty58, ty59, ty65, ty66, ty67, ty74, ty80, ty97, Nat.reduceEqDiff, if_false, reduceIte, Option.getD_some, Option.getD_none, dstAt, dstOk, Nat.reduceLT, decide_true, if_true]
  simp [builtinV, pureB, lenV]
  refine selS_intro (fun hl => ?_) (fun hl => ?_)
  · simp
    refine hQ _ _ _ (by simp) ?_
    simp at hl
    have : ¬ xs = ys := fun h => hl (by rw [h])
    simp [Tryd.f36, this]
  simp at hl
  simp
  refine wpS_loop (fun j tm H' => ∃ i, i + j = xs.length ∧ tm 0 = .w (.lf (.sl a xs.length)) ∧ tm 1 = .w (.lf (.sl b ys.length)) ∧ tm 5 = .int i ∧ H' = H ∧ xs.take i = ys.take i) xs.length (by rw [env_K]; omega) ⟨0, by simp, by simp, by simp, by simp, rfl, by simp⟩ ?_
  rintro j tm H' hj ⟨i, hij, h0, h1, h5, rfl, heq⟩ Q' hn' he' hr'
  simp [h0, h1, h5, builtinV, pureB, lenV]
  refine selS_intro (fun hc => ?_) (fun hc => ?_)
  · simp at hc
    have hc2 : i < ys.length := by omega
    obtain ⟨id, r, bl, rfl, hbl, hbe, hrow⟩ := ha i _ (by simp [hc]; rfl)
    obtain ⟨id2, r2, bl2, rfl, hbl2, hbe2, hrow2⟩ := hb i _ (by simp [hc2]; rfl)
    have g4 : IntKind.i64.wrap ((i : Int) + 1) = (i : Int) + 1 := wrap64 (by omega) (by omega)
    simp [h0, h1, h5, indexAddrV, elemIs, hbl, hbe, hbl2, hbe2, hc, hc2, hrow, hrow2, eqIn]
    refine selS_intro (fun hd => ?_) (fun hd => ?_)
    · simp
      refine hr' _ _ ?_
      simp
      refine hQ _ _ _ (by simp) ?_
      simp at hd
      have : ¬ xs = ys := fun h => by subst h; simp at hd
      simp [Tryd.f36, this]
    · simp at hd
      simp [h0, h1, h5, g4]
      exact hn' (j - 1) _ _ (by omega) ⟨i + 1, by omega, by simp [h0], by simp [h1], by simp, rfl, by rw [List.take_add_one, List.take_add_one, heq]; simp [hc, hc2, hd]⟩
  · simp at hc
    simp [h0, h1, h5]
    refine he' _ _ _ ?_
    simp
    refine hQ _ _ _ (by simp) ?_
    have : xs = ys := by
      rw [List.take_of_length_le (by omega), List.take_of_length_le (by omega)] at heq
      exact heq
    simp [Tryd.f36, this]

structure Minder where
  up : Bool
  life : Int
  epoch : Int
  log : List In
  said : Int
  acked : Int
  ackLife : Int
  deriving DecidableEq
def Minder.enc (m : Minder) (a : Option (Nat × Nat)) : List Lf := [.b m.up, .i .i64 m.life, .i .i64 m.epoch, .sl a m.log.length, .i .i64 m.said, .i .i64 m.acked, .i .i64 m.ackLife]
@[simp] theorem Minder.enc_len (m : Minder) (a : Option (Nat × Nat)) : (m.enc a).length = 7 := rfl
@[simp] theorem Minder.enc_take (m : Minder) (a : Option (Nat × Nat)) : List.take 7 (m.enc a) = m.enc a := rfl

theorem szMinder (H : Heap) (a : Option (Nat × Nat)) (m : Minder) (left : Int) (h1 : 0 ≤ left) (h2 : left ≤ 1048576) (h3 : m.log.length ≤ maxLen) :
    run env 10 [.agg (m.enc a), .int left] H = some (.int (if left < m.log.length then -1 else left - m.log.length), H) := by
  have e := fun H => szInS H a m.log.length left h1 h2 h3
  refine run_walk ok10 Tryd.func10 rfl (by simp [Tryd.f10]) fun Q hQ => ?_
  simp only [Tryd.f10, strip, stripL, stripI, stripG, chkT, tagsB, tagsL, tagD, addT, tagA, lookN, tagOp, elmT, ty32, ty37, ty43, ty48, ty56, ty57, ty58, ty59, ty65, ty66, ty67, ty74, ty80, ty97, Nat.reduceEqDiff, if_false, reduceIte, Option.getD_some, Option.getD_none, dstAt, dstOk, Nat.reduceLT, decide_true, if_true]
  simp [Minder.enc, e]
  repeat' (first | (refine gdL_t (fun h => ?_) (fun h => ?_) <;> simp [h]) | (refine gdL_f (fun h => ?_) (fun h => ?_) <;> simp [h]) | (refine selS_intro (fun h => ?_) (fun h => ?_) <;> simp [h]))
  all_goals (refine hQ _ _ _ (by simp) ?_)
  all_goals (clear hQ; simp_all [Tryd.f10] <;> omega)

theorem toMinder (H : Heap) (a : Option (Nat × Nat)) (m : Minder) (h : Sl H 116 a (m.log.map In.enc)) (hn : m.log.length ≤ 1048576) :
    Runs env 12 [.agg (m.enc a)] H fun v H' => ∃ a' fp, v = .agg (m.enc a') ∧ Own H' 113 a' (m.log.map In.enc) fp ∧ Fresh H H' fp := by
  have e := fun H h => toInS H a m.log h hn
  refine Runs.walk ok12 Tryd.func12 rfl (by simp [Tryd.f12]) fun Q hQ => ?_
  simp only [Tryd.f12, strip, stripL, stripI, stripG, chkT, tagsB, tagsL, tagD, addT, tagA, lookN, tagOp, elmT, ty32, ty37, ty43, ty48, ty56, ty57, ty58, ty59, ty65, ty66, ty67, ty74, ty80, ty97, Nat.reduceEqDiff, if_false, reduceIte, Option.getD_some, Option.getD_none, dstAt, dstOk, Nat.reduceLT, decide_true, if_true]
  simp [Minder.enc]
  rw [e _ (by simpa using h.app _)]
  simp
  refine hQ _ _ _ (by simp) ?_
  simp [Tryd.f12, leave, refFree, Minder.enc]
  exact ⟨_, Own.of (by simp), Fresh.app _ _ (by simp)⟩

theorem eqMinder (H : Heap) (a b : Option (Nat × Nat)) (m n : Minder) (ha : Sl H 113 a (m.log.map In.enc)) (hb : Sl H 113 b (n.log.map In.enc)) (hn : m.log.length ≤ 1048576) :
    run env 14 [.agg (m.enc a), .agg (n.enc b)] H = some (.bool (decide (m = n)), H) := by
  have e := fun G => eqInS (H ++ G) a b m.log n.log (ha.app _) (hb.app _) hn
  obtain ⟨a1, a2, a3, a4, a5, a6, a7⟩ := m
  obtain ⟨b1, b2, b3, b4, b5, b6, b7⟩ := n
  simp only at e
  refine run_walk ok14 Tryd.func14 rfl (by simp [Tryd.f14]) fun Q hQ => ?_
  simp only [Tryd.f14, strip, stripL, stripI, stripG, chkT, tagsB, tagsL, tagD, addT, tagA, lookN, tagOp, elmT, ty32, ty37, ty43, ty48, ty56, ty57, ty58, ty59, ty65, ty66, ty67, ty74, ty80, ty97, Nat.reduceEqDiff, if_false, reduceIte, Option.getD_some, Option.getD_none, dstAt, dstOk, Nat.reduceLT, decide_true, if_true]
  simp [Minder.enc]
  repeat' (first | (refine gdL_t (fun h => ?_) (fun h => ?_) <;> simp [h, e]) | (refine gdL_f (fun h => ?_) (fun h => ?_) <;> simp [h, e]) | (refine selS_intro (fun h => ?_) (fun h => ?_) <;> simp [h, e]))
  all_goals (refine hQ _ _ _ (by simp) ?_)
  all_goals (clear hQ; simp_all [Tryd.f14])

def IsMinder (H : Heap) (l : List Lf) (x : Minder) (fp : List Nat) : Prop := ∃ a, l = x.enc a ∧ Own H 113 a (x.log.map In.enc) fp
def RdMinder (H : Heap) (l : List Lf) (x : Minder) : Prop := ∃ a, l = x.enc a ∧ Sl H 113 a (x.log.map In.enc)
def RdLMinder (H : Heap) (l : List Lf) (x : Minder) : Prop := ∃ a, l = x.enc a ∧ Sl H 116 a (x.log.map In.enc)
abbrev Minder.sz (x : Minder) : Nat := x.log.length
def Minder.fit (x : Minder) : Prop := x.log.length ≤ maxLen
section
variable {H H' : Heap} {l : List Lf} {x : Minder} {fp : List Nat}
theorem IsMinder.keep {f : List Nat} (h : IsMinder H l x fp) (hk : Keep f H H') (hd : ∀ i ∈ fp, i ∉ f) : IsMinder H' l x fp := let ⟨a, h1, h2⟩ := h; ⟨a, h1, h2.keep hk hd⟩
theorem IsMinder.app (h : IsMinder H l x fp) (G : Heap) : IsMinder (H ++ G) l x fp := let ⟨a, h1, h2⟩ := h; ⟨a, h1, h2.app G⟩
theorem IsMinder.lt (h : IsMinder H l x fp) : ∀ i ∈ fp, i < H.length := let ⟨_, _, h2⟩ := h; h2.lt
theorem IsMinder.nodup (h : IsMinder H l x fp) : fp.Nodup := let ⟨_, _, h2⟩ := h; h2.nodup
theorem IsMinder.rd (h : IsMinder H l x fp) : RdMinder H l x := let ⟨a, h1, h2⟩ := h; ⟨a, h1, h2.sl⟩
theorem RdMinder.base (h : RdMinder H l x) (hk : Keep [] H H') : RdMinder H' l x := let ⟨a, h1, h2⟩ := h; ⟨a, h1, h2.keep hk (by simp)⟩
theorem RdMinder.app (h : RdMinder H l x) (G : Heap) : RdMinder (H ++ G) l x := h.base (Keep.app _ _ _)
theorem RdLMinder.base (h : RdLMinder H l x) (hk : Keep [] H H') : RdLMinder H' l x := let ⟨a, h1, h2⟩ := h; ⟨a, h1, h2.keep hk (by simp)⟩
theorem RdLMinder.app (h : RdLMinder H l x) (G : Heap) : RdLMinder (H ++ G) l x := h.base (Keep.app _ _ _)
theorem IsMinder.len (h : IsMinder H l x fp) : l.length = 7 := by obtain ⟨a, rfl, -⟩ := h; rfl
theorem RdLMinder.len (h : RdLMinder H l x) : l.length = 7 := by obtain ⟨a, rfl, -⟩ := h; rfl
theorem RdMinder.len (h : RdMinder H l x) : l.length = 7 := by obtain ⟨a, rfl, -⟩ := h; rfl
theorem IsMinder.free (h : IsMinder H' l x fp) (hr : l.all refFree = true) (H2 : Heap) : IsMinder H2 l x [] := by
  obtain ⟨a, rfl, h2⟩ := h
  exact ⟨a, rfl, h2.free (n := x.log.length) (by simp [Minder.enc] at hr; exact hr) H2⟩
theorem IsMinder.leave {ws : List W} (h : IsMinder H' l x fp) (hf : Fresh H H' fp) (hw : ws.all W.free = true → l.all refFree = true) : ∃ fp', IsMinder (leave H H' ws) l x fp' ∧ Fresh H (leave H H' ws) fp' := by
  rcases leave_opt H H' ws with e | ⟨e, hr⟩ <;> rw [e]
  · exact ⟨fp, h, hf⟩
  · exact ⟨[], h.free (hw hr) H, Fresh.refl H⟩
end

theorem szMinder_is {H : Heap} {l : List Lf} {x : Minder} (h : RdLMinder H l x) (hf : x.fit) {left : Int} (h1 : 0 ≤ left) (h2 : left ≤ 1048576) (G : Heap) :
    run env 10 [.agg l, .int left] (H ++ G) = some (.int (if left < x.sz then -1 else left - x.sz), H ++ G) := by
  obtain ⟨a, rfl, h⟩ := h
  exact szMinder _ a x left h1 h2 hf

theorem toMinder_is {H : Heap} {l : List Lf} {x : Minder} (h : RdLMinder H l x) (hn : x.sz ≤ 1048576) : Runs env 12 [.agg l] H fun v H' => ∃ l' fp, v = .agg l' ∧ IsMinder H' l' x fp ∧ Fresh H H' fp := by
  obtain ⟨a, rfl, h⟩ := h
  exact (toMinder H a x h hn).mono fun v H' ⟨a', fp, h1, h2, h3⟩ => ⟨_, fp, h1, ⟨a', rfl, h2⟩, h3⟩

theorem eqMinder_is {H : Heap} {l r : List Lf} {x y : Minder} (h : RdMinder H l x) (h2 : RdMinder H r y) (hn : x.sz ≤ 1048576) : run env 14 [.agg l, .agg r] H = some (.bool (decide (x = y)), H) := by
  obtain ⟨a, rfl, h⟩ := h
  obtain ⟨b, rfl, h2⟩ := h2
  exact eqMinder H a b x y h h2 hn

/-- A text, of its bytes. -/
abbrev BA (l : List UInt8) : ByteArray := ⟨l.toArray⟩
theorem BA_append (a b : List UInt8) : BA a ++ BA b = BA (a ++ b) := by
  apply ByteArray.ext
  apply Array.ext'
  simp
@[simp] theorem BA_size (a : List UInt8) : (BA a).size = a.length := by
  show (a.toArray).size = _
  simp
theorem BA_inj {a b : List UInt8} (h : BA a = BA b) : a = b := by
  have := congrArg (fun x => x.data.toList) h
  simpa using this
theorem binStr_add {a b : List UInt8} (h : a.length + b.length ≤ 9223372036854775807) : binStr .add (BA a) (BA b) = some (.str (BA (a ++ b))) := by
  unfold binStr
  simp only [BA_size, if_pos h, BA_append]
theorem binV_add (τ : Tab) (t : Nat) {a b : List UInt8} (h : a.length + b.length ≤ 9223372036854775807) : binV τ .add t (.str (BA a)) (.str (BA b)) = some (.str (BA (a ++ b))) := by
  show binStr .add (BA a) (BA b) = _
  exact binStr_add h
theorem wrap8 {n : Int} (h0 : 0 ≤ n) (h1 : n < 256) : IntKind.u8.wrap n = n := by
  simp [IntKind.wrap, IntKind.bits, IntKind.signed]
  omega

/-- The digits of a number but 0. -/
def decD (u : Nat) : List UInt8 := if u = 0 then [] else Lib.decDigits u
theorem decD_step {u : Nat} (h : u ≠ 0) : decD u = decD (u / 10) ++ [UInt8.ofNat (48 + u % 10)] := by
  unfold decD
  rw [if_neg h, Lib.decDigits]
  split
  · rename_i h1
    have h2 : u / 10 = 0 := by omega
    have h3 : u % 10 = u := by omega
    rw [h2, h3]; simp
  · rename_i h1
    have h2 : u / 10 ≠ 0 := by omega
    rw [if_neg h2]
theorem decD_len : ∀ (j u : Nat), u < 10 ^ j → (decD u).length ≤ j
  | 0, u, h => by
    have : u = 0 := by simpa using h
    subst this; simp [decD]
  | j + 1, u, h => by
    by_cases h0 : u = 0
    · subst h0; simp [decD]
    · rw [decD_step h0, List.length_append]
      have := decD_len j (u / 10) (by rw [Nat.pow_succ] at h; omega)
      simp; omega
theorem bytesStr_new {H : Heap} {n : Nat} (hn : n < 256) : bytesStr env.τ (H ++ [some ⟨5, .wr, [[.i .u8 (n : Int)]]⟩]) 97 9 (.sl H.length 0 1) = some (.str (BA [UInt8.ofNat n])) := by
  have hb : blkAt (H ++ [some ⟨5, .wr, [[.i .u8 (n : Int)]]⟩]) H.length = some ⟨5, .wr, [[.i .u8 (n : Int)]]⟩ := by simp [blkAt]
  have h1 : (0 : Int) ≤ (n : Int) ∧ (n : Int) < 256 := by omega
  simp [bytesStr, elemIs, rowsOf, hb, bytesV, h1]
theorem specDigits {H : Heap} {n : Int} (hn : I64 n) : run env 26 [.int n] H = some (.str (BA (Lib.itoa n)), H) := by
  refine run_walk ok26 Tryd.func26 rfl (by simp [Tryd.f26]) fun Q hQ => ?_
  simp only [Tryd.f26, strip, stripL, stripI, stripG, chkT, tagsB, tagsL, tagD, addT, tagA, lookN, tagOp, elmT, ty32, ty37, ty43, ty48, ty56, ty57, ty58, ty59, ty65, ty66, ty67, ty74, ty80, ty97, Nat.reduceEqDiff, if_false, reduceIte, Option.getD_some, Option.getD_none, dstAt, dstOk, Nat.reduceLT, decide_true, if_true]
  simp
  refine selS_intro (fun hc => ?_) (fun hc => ?_)
  · simp at hc
    subst hc
    simp
    refine hQ _ _ _ (by simp) ?_
    simp [Tryd.f26, leave]
    simp [Lib.itoa, Lib.decDigits]
  · simp at hc
    simp
    refine wpS_loop (fun j tm A => ∃ (x : Int) (acc : List UInt8) (G : Heap), A = H ++ G ∧ I64 x ∧ x.natAbs < 10 ^ j ∧ tm 0 = .int x ∧ tm 3 = .bool (decide (n < 0)) ∧ tm 4 = .str (BA acc) ∧ decD x.natAbs ++ acc = Lib.decDigits n.natAbs) 20 (by rw [env_K]; omega) ⟨n, [], [], by simp, hn, by unfold I64 at hn; simp; omega, by simp, by simp, rfl, by simp [decD]; omega⟩ ?_
    rintro j tm A hj ⟨x, acc, G, hA, hx, hxj, t0, t3, t4, hd⟩ Q2 hn2 he2 hr2
    have hacc : acc.length ≤ 100 := by
      have h1 : (decD x.natAbs ++ acc).length ≤ 20 := by
        rw [hd]
        have h2 := decD_len 20 n.natAbs (by unfold I64 at hn; omega)
        unfold decD at h2
        rw [if_neg (by omega)] at h2
        exact h2
      simp at h1; omega
    simp [t0, t4]
    refine selS_intro (fun hx0 => ?_) (fun hx0 => ?_)
    · simp at hx0
      obtain ⟨d, hdd⟩ : ∃ d : Nat, d = x.natAbs % 10 := ⟨_, rfl⟩
      have hd10 : d < 10 := by omega
      have hj0 : 0 < j := by
        rcases Nat.eq_zero_or_pos j with h | h
        · subst h; simp at hxj; omega
        · exact h
      have hstep := decD_step (u := x.natAbs) (by omega)
      rw [← hdd] at hstep
      obtain ⟨c, hc8⟩ : ∃ c : UInt8, c = UInt8.ofNat (48 + d) := ⟨_, rfl⟩
      rw [← hc8] at hstep
      have hq : (x.tdiv 10).natAbs = x.natAbs / 10 := by rw [Int.natAbs_tdiv]; rfl
      have hq2 : (x.tdiv 10).natAbs < 10 ^ (j - 1) := by
        rw [hq]
        have : 10 ^ j = 10 ^ (j - 1) * 10 := by rw [← Nat.pow_succ]; congr 1; omega
        omega
      have hq64 : I64 (x.tdiv 10) := by unfold I64 at hx ⊢; omega
      have hwq : IntKind.i64.wrap (x.tdiv 10) = x.tdiv 10 := wrap64 (by unfold I64 at hq64; omega) (by unfold I64 at hq64; omega)
      have hw5 : IntKind.i64.wrap (48 + (d : Int)) = 48 + (d : Int) := wrap64 (by omega) (by omega)
      have hw8 : IntKind.u8.wrap (48 + (d : Int)) = ((48 + d : Nat) : Int) := by
        rw [show (48 + (d : Int)) = ((48 + d : Nat) : Int) by omega]
        exact wrap8 (by omega) (by omega)
      have e6 : (x.tmod 10).natAbs = x.natAbs % 10 := Int.natAbs_tmod x 10
      have hadd := binV_add env.τ 9 (a := [c]) (b := acc) (by simp; omega)
      have hnew : bytesStr env.τ (A ++ [some ⟨5, .wr, [[.i .u8 (48 + (d : Int))]]⟩]) 97 9 (.sl A.length 0 1) = some (.str (BA [c])) := by
        rw [hc8, show (48 + (d : Int)) = ((48 + d : Nat) : Int) by omega]
        exact bytesStr_new (by omega)
      by_cases hneg : x.tmod 10 < 0
      · have e5 : -x.tmod 10 = d := by omega
        have hw0 : IntKind.i64.wrap (d : Int) = (d : Int) := wrap64 (by omega) (by omega)
        simp [t0, t3, t4, hneg, e5, hw0, hw5, hw8, convV, hnew, hadd, hwq]
        refine hn2 (j - 1) _ _ (by omega) ⟨x.tdiv 10, c :: acc, _, by rw [hA, List.append_assoc], hq64, hq2, by simp, by simp [t3], by simp, ?_⟩
        rw [hq, ← hd, hstep]; simp
      · have e5 : x.tmod 10 = d := by omega
        have hdn : ¬ ((d : Int) < 0) := by omega
        simp [t0, t3, t4, e5, hdn, hw5, hw8, convV, hnew, hadd, hwq]
        refine hn2 (j - 1) _ _ (by omega) ⟨x.tdiv 10, c :: acc, _, by rw [hA, List.append_assoc], hq64, hq2, by simp, by simp [t3], by simp, ?_⟩
        rw [hq, ← hd, hstep]; simp
    · simp at hx0
      subst hx0
      simp
      refine he2 _ _ _ ?_
      have hd' : acc = Lib.decDigits n.natAbs := by rw [← hd]; simp [decD]
      simp [t3, t4]
      refine selS_intro (fun hneg => ?_) (fun hneg => ?_)
      · simp at hneg
        have hadd := binV_add env.τ 9 (a := [45]) (b := acc) (by simp; omega)
        simp [t4, hadd]
        refine hQ _ _ _ (by simp) ?_
        simp [Tryd.f26, leave, hA]
        simp [Lib.itoa, hneg, hd']
      · simp at hneg
        simp [t4]
        refine hQ _ _ _ (by simp) ?_
        simp [Tryd.f26, leave, hA]
        rw [hd', Lib.itoa, if_neg (by omega)]
        rw [show n.natAbs = n.toNat by omega]

def Vec.rg (v : Vec) : Prop := I64 v.root ∧ I64 v.cost ∧ I64 v.bridge ∧ I64 v.port
def Port.rg (p : Port) : Prop := p.vec.rg ∧ I64 p.role ∧ I64 p.wait
theorem shpVec_rg {H : Heap} {k : Nat} {l : List Lf} (h : Shp Tryd.prog H (k + 2) 23 l) : ∃ x : Vec, l = x.enc ∧ x.rg := by
  obtain ⟨_, _, rfl, h0, _, _, rfl, h1, _, _, rfl, h2, _, _, rfl, h3, rfl⟩ := h.struct Tryd.underlying23
  obtain ⟨a0, rfl, r0⟩ := h0.i64 Tryd.underlying3
  obtain ⟨a1, rfl, r1⟩ := h1.i64 Tryd.underlying3
  obtain ⟨a2, rfl, r2⟩ := h2.i64 Tryd.underlying3
  obtain ⟨a3, rfl, r3⟩ := h3.i64 Tryd.underlying3
  exact ⟨⟨a0, a1, a2, a3⟩, rfl, r0, r1, r2, r3⟩
theorem shpPort_rg {H : Heap} {k : Nat} {l : List Lf} (h : Shp Tryd.prog H (k + 3) 25 l) : ∃ x : Port, l = x.enc ∧ x.rg := by
  obtain ⟨_, _, rfl, h0, _, _, rfl, h1, _, _, rfl, h2, _, _, rfl, h3, _, _, rfl, h4, _, _, rfl, h5, _, _, rfl, h6, _, _, rfl, h7, rfl⟩ := h.struct Tryd.underlying25
  obtain ⟨a0, rfl⟩ := h0.bool Tryd.underlying4
  obtain ⟨a1, rfl⟩ := h1.bool Tryd.underlying4
  obtain ⟨a2, rfl, r2⟩ := shpVec_rg h2
  obtain ⟨a3, rfl, -⟩ := h3.i64 Tryd.underlying3
  obtain ⟨a4, rfl, -⟩ := h4.i64 Tryd.underlying3
  obtain ⟨a5, rfl, r5⟩ := h5.i64 Tryd.underlying3
  obtain ⟨a6, rfl, r6⟩ := h6.i64 Tryd.underlying3
  obtain ⟨a7, rfl⟩ := h7.bool Tryd.underlying4
  exact ⟨⟨a0, a1, a2, a3, a4, a5, a6, a7⟩, rfl, r2, r5, r6⟩

/-- The plain texts. -/
def vecT (v : Vec) : List UInt8 := Lib.itoa v.root ++ [46] ++ Lib.itoa v.cost ++ [46] ++ Lib.itoa v.bridge ++ [46] ++ Lib.itoa v.port
def roleT (r : Int) : List UInt8 := if r = 0 then [111, 102, 102] else if r = 1 then [114, 111, 111, 116] else if r = 2 then [100, 101, 115] else if r = 3 then [97, 108, 116] else [110, 111, 110, 101]
def openT (b : Bool) : List UInt8 := if b then [111, 112, 101, 110] else [115, 104, 117, 116]
def portT (p : Port) : List UInt8 := roleT p.role ++ [32] ++ openT p.opn ++ [32] ++ Lib.itoa p.wait ++ [32] ++ (if p.has then vecT p.vec else [45])
theorem itoa_len {n : Int} (h : I64 n) : (Lib.itoa n).length ≤ 21 := Lib.itoa_length_le n h.1 h.2
theorem vecT_len {v : Vec} (h : v.rg) : (vecT v).length ≤ 87 := by
  have h1 := itoa_len h.1
  have h2 := itoa_len h.2.1
  have h3 := itoa_len h.2.2.1
  have h4 := itoa_len h.2.2.2
  simp [vecT]; omega
theorem roleT_len (r : Int) : (roleT r).length ≤ 4 := by
  unfold roleT
  repeat' split
  all_goals simp
theorem openT_len (b : Bool) : (openT b).length = 4 := by cases b <;> rfl
theorem portT_len {p : Port} (h : p.rg) : (portT p).length ≤ 120 := by
  have h1 := vecT_len h.1
  have h2 := itoa_len h.2.2
  have h3 := roleT_len p.role
  have h4 := openT_len p.opn
  simp [portT]
  split <;> (try simp) <;> omega

theorem itoaRun {H : Heap} {n : Int} (h : I64 n) : run env 58 [.int n] H = some (.str (BA (Lib.itoa n)), H) := by
  refine run_ext nok58 ?_
  rw [ext_is, if_pos rfl]
  unfold I64 at h
  simp [itoaX, h]
theorem joinRun {H : Heap} {a : Option (Nat × Nat)} {xs : List (List UInt8)} {sep : List UInt8} (hr : rowsOf H a xs.length = some (xs.map fun x => [Lf.s (BA x)])) (hn : xs.length ≤ 140737488355328) (hl : (Lib.join xs sep).length ≤ 140737488355328) :
    run env 30 [.w (.lf (.sl a xs.length)), .str (BA sep)] H = some (.str (BA (Lib.join xs sep)), H) := by
  have h1 : ∀ ys : List (List UInt8), strsV (ys.map fun x => [Lf.s (BA x)]) = some (ys.map BA) := by
    intro ys
    induction ys with
    | nil => rfl
    | cons y ys ih => simp [strsV, ih]
  have h2 : joinT (xs.map BA) (BA sep) = Lib.join xs sep := by
    unfold joinT
    rw [List.map_map]
    show Lib.join (xs.map fun x => x) sep = _
    rw [List.map_id']
  refine run_ext nok30 ?_
  rw [ext_is, if_neg (by decide), if_pos rfl]
  simp [joinX, hr, h1, h2, hn, hl]

theorem implDigits {H : Heap} {n : Int} (h : I64 n) : run env 32 [.int n] H = some (.str (BA (Lib.itoa n)), H) := by
  refine run_walk ok32 Tryd.func32 rfl (by simp [Tryd.f32]) fun Q hQ => ?_
  simp only [Tryd.f32, strip, stripL, stripI, stripG, chkT, tagsB, tagsL, tagD, addT, tagA, lookN, tagOp, elmT, ty32, ty37, ty43, ty48, ty56, ty57, ty58, ty59, ty65, ty66, ty67, ty74, ty80, ty97, Nat.reduceEqDiff, if_false, reduceIte, Option.getD_some, Option.getD_none, dstAt, dstOk, Nat.reduceLT, decide_true, if_true]
  have e0 := fun H => itoaRun (H := H) h
  simp [e0]
  all_goals (refine hQ _ _ _ (by simp) ?_)
  all_goals (clear hQ; simp [Tryd.f32])

abbrev strRow (l : List UInt8) : List Lf := [.s (BA l)]
theorem joinSl {H : Heap} {a : Option (Nat × Nat)} {xs : List (List UInt8)} {sep : List UInt8} {m : Nat} (h : Sl H 9 a (xs.map strRow)) (hm : m = xs.length) (hn : xs.length ≤ 140737488355328) (hl : (Lib.join xs sep).length ≤ 140737488355328) :
    run env 30 [.w (.lf (.sl a m)), .str (BA sep)] H = some (.str (BA (Lib.join xs sep)), H) := by
  subst hm
  exact joinRun (rowsOf_sl h (by simp)) hn hl
theorem joinLen (xs : List (List UInt8)) (h : ∀ x ∈ xs, x.length ≤ 21) : (Lib.join xs [32]).length ≤ 22 * xs.length := by
  have key : ∀ ys : List (List UInt8), (∀ x ∈ ys, x.length ≤ 21) → (Lib.joinTail [32] ys).length ≤ 22 * ys.length := by
    intro ys
    induction ys with
    | nil => intro _; simp [Lib.joinTail]
    | cons y ys ih =>
      intro hy
      have h1 := ih fun x hx => hy x (by simp [hx])
      have h2 := hy y (by simp)
      simp [Lib.joinTail] at h1 ⊢
      omega
  cases xs with
  | nil => simp [Lib.join_nil]
  | cons x xs =>
    rw [Lib.join_cons, List.length_append]
    have h1 := key xs fun y hy => h y (by simp [hy])
    have h2 := h x (by simp)
    simp
    omega

theorem implNumbers {H : Heap} {a : Option (Nat × Nat)} {ns : List Int} (hs : Sl H 3 a (ns.map encI)) (hr : ∀ n ∈ ns, I64 n) (hn : ns.length ≤ 100) :
    run env 35 [.w (.lf (.sl a ns.length))] H = some (.str (BA (Lib.join (ns.map Lib.itoa) [32])), H) := by
  refine run_walk ok35 Tryd.func35 rfl (by simp [Tryd.f35]) fun Q hQ => ?_
  simp only [Tryd.f35, strip, stripL, stripI, stripG, chkT, tagsB, tagsL, tagD, addT, tagA, lookN, tagOp, elmT, ty32, ty37, ty43, ty48, ty56, ty57, ty58, ty59, ty65, ty66, ty67, ty74, ty80, ty97, Nat.reduceEqDiff, if_false, reduceIte, Option.getD_some, Option.getD_none, dstAt, dstOk, Nat.reduceLT, decide_true, if_true]
  simp [builtinV, pureB, lenV]
  refine wpS_loop (fun j tm A => ∃ (i : Nat) (aa : Option (Nat × Nat)) (fd : List Nat), i + j = ns.length ∧ tm 6 = .w (.lf (.sl a ns.length)) ∧ tm 7 = .int ns.length ∧ tm 8 = .int i ∧ tm 3 = .w (.lf (.sl aa i)) ∧ Own A 9 aa (((ns.take i).map Lib.itoa).map strRow) fd ∧ (∀ k ∈ fd, H.length ≤ k) ∧ Keep [] H A) ns.length (by rw [env_K]; omega) ⟨0, none, [], by simp, by simp, by simp, by simp, by simp, Own.nil _ _, by simp, Keep.refl _ _⟩ ?_
  rintro j tm A hj ⟨i, aa, fd, hij, t6, t7, t8, t3, oD, hfd, hk⟩ Q2 hn2 he2 hr2
  simp [t3, t6, t7, t8]
  refine selS_intro (fun hc => ?_) (fun hc => ?_)
  · simp at hc
    obtain ⟨id, r, bl, rfl, hbl, hbe, hrow⟩ := (hs.keep hk (by simp)) i _ (by simp [hc]; rfl)
    have g4 : IntKind.i64.wrap ((i : Int) + 1) = (i : Int) + 1 := wrap64 (by omega) (by omega)
    have e1 := fun H => implDigits (H := H) (hr ns[i] (by simp))
    simp [t3, t6, t7, t8, indexAddrV, elemIs, hbl, hbe, hc, hrow, encI, e1]
    refine stpL_append (e := 9) (rows := ((ns.take i).map Lib.itoa).map strRow) (ys := [strRow (Lib.itoa ns[i])]) (oD.app _) (Sl.of (by simp)) rfl rfl rfl (by simp) (by simp; omega) (by simp; omega) rfl fun a2 E fc hoE hkE hfE => ?_
    simp [t8, g4]
    have hlA := hk.1
    refine hn2 (j - 1) _ _ (by omega) ⟨i + 1, a2, fc, by omega, by simp [t6], by simp [t7], by simp, by simp, ?_, ?_, ?_⟩
    · rw [List.take_add_one, List.getElem?_eq_getElem hc]
      rw [List.map_append, List.map_append]
      exact hoE
    · intro k hkk
      rcases hfE k hkk with h | h
      · exact hfd k h
      · simp at h; omega
    · exact (hk.next (Keep.app [] _ _) (by simp)).next hkE hfd
  · simp at hc
    have hi : i = ns.length := by omega
    subst hi
    rw [List.take_length] at oD
    have hj1 := joinSl (sep := [32]) (m := ns.length) oD.sl (by simp) (by simp; omega) (by have := joinLen (ns.map Lib.itoa) (by simp; exact fun n hn => itoa_len (hr n hn)); simp at this ⊢; omega)
    simp [t3, t6, t7, t8]
    refine he2 _ _ _ ?_
    simp [t3, hj1]
    refine hQ _ _ _ (by simp) ?_
    obtain ⟨G, rfl⟩ := hk.ext
    simp [Tryd.f35, leave]

def minderT (m : Minder) : List UInt8 := (if m.up then [117, 112] else [100, 111, 119, 110]) ++ [32] ++ Lib.join ([m.life, m.epoch, (m.log.length : Int), m.said, m.acked, m.ackLife].map Lib.itoa) [32]
def Minder.rg (m : Minder) : Prop := I64 m.life ∧ I64 m.epoch ∧ I64 m.said ∧ I64 m.acked ∧ I64 m.ackLife
theorem minderT_len {m : Minder} (h : m.rg) (hl : m.log.length ≤ 1048576) : (minderT m).length ≤ 140 := by
  obtain ⟨h1, h2, h3, h4, h5⟩ := h
  have h6 := joinLen ([m.life, m.epoch, (m.log.length : Int), m.said, m.acked, m.ackLife].map Lib.itoa) (by
    intro x hx
    obtain ⟨n, hn, rfl⟩ := List.mem_map.1 hx
    simp at hn
    rcases hn with rfl | rfl | rfl | rfl | rfl | rfl <;> apply itoa_len <;> first | assumption | (unfold I64; omega))
  simp only [List.length_map, List.length_cons, List.length_nil] at h6
  unfold minderT
  simp only [List.length_append]
  split <;> simp only [List.length_cons, List.length_nil] <;> omega
theorem implMinderText_is {H : Heap} {l : List Lf} {m : Minder} (h : RdMinder H l m) (hl : m.log.length ≤ 1048576) (hg : m.rg) : run env 13 [.agg l] H = some (.str (BA (minderT m)), H) := by
  obtain ⟨a, rfl, hs⟩ := h
  obtain ⟨g1, g2, g3, g4, g5⟩ := hg
  have en : ∀ (H : Heap) (B : Option Blk), run env 35 [.sl (H.length + 1) 0 6] (H ++ [B, some ⟨3, .wr, [[.i .i64 m.life], [.i .i64 m.epoch], [.i .i64 (m.log.length : Int)], [.i .i64 m.said], [.i .i64 m.acked], [.i .i64 m.ackLife]]⟩]) =
      some (.str (BA (Lib.join ([m.life, m.epoch, (m.log.length : Int), m.said, m.acked, m.ackLife].map Lib.itoa) [32])), H ++ [B, some ⟨3, .wr, [[.i .i64 m.life], [.i .i64 m.epoch], [.i .i64 (m.log.length : Int)], [.i .i64 m.said], [.i .i64 m.acked], [.i .i64 m.ackLife]]⟩]) := fun H B =>
    implNumbers (a := some (H.length + 1, 0)) (ns := [m.life, m.epoch, (m.log.length : Int), m.said, m.acked, m.ackLife]) (fun i row hr => ⟨H.length + 1, 0, ⟨3, .wr, _⟩, rfl, by simp [blkAt]; rfl, rfl, by simpa [encI] using hr⟩) (by
      intro n hn
      simp at hn
      rcases hn with rfl | rfl | rfl | rfl | rfl | rfl <;> first | assumption | (unfold I64; omega)) (by simp)
  have hlen := minderT_len (m := m) ⟨g1, g2, g3, g4, g5⟩ hl
  unfold minderT at hlen
  simp only [List.length_append] at hlen
  refine run_walk ok13 Tryd.func13 rfl (by simp [Tryd.f13]) fun Q hQ => ?_
  simp only [Tryd.f13, strip, stripL, stripI, stripG, chkT, tagsB, tagsL, tagD, addT, tagA, lookN, tagOp, elmT, ty32, ty37, ty43, ty48, ty56, ty57, ty58, ty59, ty65, ty66, ty67, ty74, ty80, ty97, Nat.reduceEqDiff, if_false, reduceIte, Option.getD_some, Option.getD_none, dstAt, dstOk, Nat.reduceLT, decide_true, if_true]
  cases hup : m.up
  all_goals simp [Minder.enc, hup, builtinV, pureB, lenV]
  all_goals rw [binV_add _ _ (by simp)]
  all_goals simp [Minder.enc, hup, builtinV, pureB, lenV, en]
  all_goals rw [binV_add _ _ (by simp [hup] at hlen ⊢; omega)]
  all_goals simp
  all_goals (refine hQ _ _ _ (by simp) ?_)
  all_goals (simp [Tryd.f13, leave, minderT, hup])

theorem specMinderText_is {H : Heap} {l : List Lf} {m : Minder} (h : RdMinder H l m) (hl : m.log.length ≤ 1048576) (hg : m.rg) : run env 11 [.agg l] H = some (.str (BA (minderT m)), H) := by
  obtain ⟨a, rfl, hs⟩ := h
  obtain ⟨ns, hns⟩ : ∃ ns : List Int, ns = [m.life, m.epoch, (m.log.length : Int), m.said, m.acked, m.ackLife] := ⟨_, rfl⟩
  have hnl : ns.length = 6 := by rw [hns]; rfl
  have hr : ∀ n ∈ ns, I64 n := by
    obtain ⟨g1, g2, g3, g4, g5⟩ := hg
    intro n hn
    rw [hns] at hn
    simp at hn
    rcases hn with rfl | rfl | rfl | rfl | rfl | rfl <;> first | assumption | (unfold I64; omega)
  obtain ⟨base, hbase⟩ : ∃ base : List UInt8, base = if m.up then [117, 112] else [100, 111, 119, 110] := ⟨_, rfl⟩
  have hbl : base.length ≤ 4 := by rw [hbase]; split <;> simp
  have hfin : base ++ (ns.map fun n => 32 :: Lib.itoa n).flatten = minderT m := by
    rw [hns, hbase, minderT]
    simp [Lib.join_cons, Lib.joinTail]
  have hlen : ∀ i, (base ++ ((ns.take i).map fun n => 32 :: Lib.itoa n).flatten).length ≤ 4 + 22 * i := by
    intro i
    induction i with
    | zero => simp; omega
    | succ i ih =>
      rw [List.take_add_one]
      cases hi : ns[i]? with
      | none => simp at ih ⊢; omega
      | some n =>
        have := itoa_len (hr n (List.mem_of_getElem? hi))
        simp at ih ⊢; omega
  refine run_walk ok11 Tryd.func11 rfl (by simp [Tryd.f11]) fun Q hQ => ?_
  simp only [Tryd.f11, strip, stripL, stripI, stripG, chkT, tagsB, tagsL, tagD, addT, tagA, lookN, tagOp, elmT, ty32, ty37, ty43, ty48, ty56, ty57, ty58, ty59, ty65, ty66, ty67, ty74, ty80, ty97, Nat.reduceEqDiff, if_false, reduceIte, Option.getD_some, Option.getD_none, dstAt, dstOk, Nat.reduceLT, decide_true, if_true]
  cases hup : m.up
  all_goals simp [Minder.enc, hup, builtinV, pureB, lenV]
  all_goals refine wpS_loop (fun j tm A => ∃ (i : Nat) (G : Heap), A = H ++ G ∧ i + j = 6 ∧ tm 3 = .str (BA (base ++ ((ns.take i).map fun n => 32 :: Lib.itoa n).flatten)) ∧ tm 4 = .sl (H.length + 1) 0 6 ∧ tm 5 = .int i ∧ blkAt A (H.length + 1) = some ⟨3, .wr, ns.map encI⟩) 6 (by rw [env_K]; omega) ⟨0, _, rfl, by simp, by simp [hbase, hup], by simp, by simp, by rw [hns]; simp [blkAt, encI]⟩ ?_
  all_goals rintro j tm A hj ⟨i, G, hA, hij, t3, t4, t5, hb⟩ Q2 hn2 he2 hr2
  all_goals simp [t3, t4, t5, builtinV, pureB, lenV]
  all_goals refine selS_intro (fun hc => ?_) (fun hc => ?_)
  all_goals simp at hc
  case false.refine_1 | true.refine_1 =>
    have hi6 : i < ns.length := by omega
    have hrow : (ns.map encI)[i]? = some (encI ns[i]) := by simp [hi6]
    have g4 : IntKind.i64.wrap ((i : Int) + 1) = (i : Int) + 1 := wrap64 (by omega) (by omega)
    have e1 := fun H => specDigits (H := H) (hr ns[i] (by simp))
    have h1 := hlen i
    have h2 := itoa_len (hr ns[i] (by simp))
    have hi6' : (i : Int) < 6 := by omega
    obtain ⟨acc, hacc⟩ : ∃ acc, acc = base ++ ((ns.take i).map fun n => 32 :: Lib.itoa n).flatten := ⟨_, rfl⟩
    rw [← hacc] at t3 h1
    have a1 := binV_add env.τ 9 (a := acc) (b := [32]) (by simp; omega)
    have a2 := binV_add env.τ 9 (a := acc ++ [32]) (b := Lib.itoa ns[i]) (by simp; omega)
    simp [t3, t4, t5, indexAddrV, elemIs, hb, hrow, encI, e1, a1, g4, hi6', hc]
    rw [a2]
    simp [t4, t5, g4]
    refine hn2 (j - 1) _ _ (by omega) ⟨i + 1, G, hA, by omega, ?_, by simp [t4], by simp, hb⟩
    have e : base ++ ((ns.take (i + 1)).map fun n => 32 :: Lib.itoa n).flatten = acc ++ [32] ++ Lib.itoa ns[i] := by
      rw [List.take_add_one, List.getElem?_eq_getElem hi6, hacc]
      simp only [Option.toList_some, List.map_append, List.flatten_append, List.map_cons, List.map_nil, List.flatten_cons, List.flatten_nil, List.append_assoc, List.append_nil, List.cons_append, List.nil_append]
    rw [e]
    simp
  case false.refine_2 | true.refine_2 =>
    have hi : i = 6 := by omega
    subst hi
    rw [List.take_of_length_le (by omega), hfin] at t3
    simp [hc, t3]
    refine he2 _ _ _ ?_
    simp [t3]
    refine hQ _ _ _ (by simp) ?_
    simp [Tryd.f11, leave, hA]

theorem shpMinder_rg {H : Heap} {k : Nat} {l : List Lf} (h : Shp Tryd.prog H (k + 5) 34 l) : ∃ x : Minder, RdLMinder H l x ∧ x.fit ∧ x.rg := by
  obtain ⟨_, _, rfl, h1, _, _, rfl, h2, _, _, rfl, h3, _, _, rfl, h4, _, _, rfl, h5, _, _, rfl, h6, _, _, rfl, h7, rfl⟩ := h.struct Tryd.underlying34
  obtain ⟨x1, rfl⟩ := h1.bool Tryd.underlying4
  obtain ⟨x2, rfl, r2⟩ := h2.i64 Tryd.underlying3
  obtain ⟨x3, rfl, r3⟩ := h3.i64 Tryd.underlying3
  obtain ⟨xs, a, rfl, hs, hl, -⟩ := h4.sl (f := In.enc) (R := fun _ => True) Tryd.underlying32 fun row hr => let ⟨x, hx⟩ := shpIn hr; ⟨x, hx, trivial⟩
  obtain ⟨x5, rfl, r5⟩ := h5.i64 Tryd.underlying3
  obtain ⟨x6, rfl, r6⟩ := h6.i64 Tryd.underlying3
  obtain ⟨x7, rfl, r7⟩ := h7.i64 Tryd.underlying3
  exact ⟨⟨x1, x2, x3, xs, x5, x6, x7⟩, ⟨a, rfl, hs⟩, hl, r2, r3, r5, r6, r7⟩
end W
end Go.Proofs.YtjgjjaidpceieabDoor

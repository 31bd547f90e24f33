/- The functions that this law reaches: what each computes. Conditions: those that each theorem names. -/
import Derived.Test.YtiajpfbghkmiiaaAbEnvReady
set_option maxRecDepth 100000
set_option maxHeartbeats 4000000
set_option linter.unusedSimpArgs false
set_option linter.unusedVariables false
set_option linter.unnecessarySimpa false
namespace Go.Proofs.Ytiajpfbghkmiiaa
open Go Go.Ab Go.ChangeShapes Go.WideShapes Go.ChangeAt Go.RowKit
namespace W
structure Vec where
  root : Int
  cost : Int
  bridge : Int
  port : Int
  deriving DecidableEq
def Vec.enc (v : Vec) : List Lf := [.i .i64 v.root, .i .i64 v.cost, .i .i64 v.bridge, .i .i64 v.port]

structure In where
  kind : Int
  port : Int
  vec : Vec
  hops : Int
  up : Bool
  deriving DecidableEq
def In.enc (x : In) : List Lf := [.i .i64 x.kind, .i .i64 x.port, .i .i64 x.vec.root, .i .i64 x.vec.cost, .i .i64 x.vec.bridge, .i .i64 x.vec.port, .i .i64 x.hops, .b x.up]
@[simp] theorem In.enc_len (x : In) : x.enc.length = 8 := rfl
@[simp] theorem In.enc_take (x : In) : List.take 8 x.enc = x.enc := rfl
abbrev In.z : List Lf := [.i .i64 0, .i .i64 0, .i .i64 0, .i .i64 0, .i .i64 0, .i .i64 0, .i .i64 0, .b false]

theorem toVec (H : Heap) (v : Vec) : run env 82 [.agg v.enc] H = some (.agg v.enc, H) := by
  refine run_walk ok82 Try.func82 rfl (by simp [Try.f82]) fun Q hQ => ?_
  simp only [Try.f82, strip, stripL, stripI, stripG, chkT, tagsB, tagsL, tagD, addT, tagA, lookN, tagOp, elmT, ty22, ty27, ty33, ty37, ty39, ty72, ty73, ty74, ty79, ty80, ty81, ty87, ty88, ty93, ty94, ty103, ty162, ty190, ty206, Nat.reduceEqDiff, if_false, reduceIte, Option.getD_some, Option.getD_none, dstAt, dstOk, Nat.reduceLT, decide_true, if_true]
  simp [Vec.enc]
  all_goals (refine hQ _ _ _ (by simp) ?_)
  all_goals (clear hQ; simp [Try.f82, Vec.enc])

theorem toIn (H : Heap) (x : In) : run env 38 [.agg x.enc] H = some (.agg x.enc, H) := by
  refine run_walk ok38 Try.func38 rfl (by simp [Try.f38]) fun Q hQ => ?_
  simp only [Try.f38, strip, stripL, stripI, stripG, chkT, tagsB, tagsL, tagD, addT, tagA, lookN, tagOp, elmT, ty22, ty27, ty33, ty37, ty39, ty72, ty73, ty74, ty79, ty80, ty81, ty87, ty88, ty93, ty94, ty103, ty162, ty190, ty206, Nat.reduceEqDiff, if_false, reduceIte, Option.getD_some, Option.getD_none, dstAt, dstOk, Nat.reduceLT, decide_true, if_true]
  have e := fun H => toVec H x.vec
  simp only [Vec.enc] at e
  simp [In.enc, e]
  all_goals (refine hQ _ _ _ (by simp) ?_)
  all_goals (clear hQ; simp [Try.f38, In.enc])

theorem toInS (H : Heap) (a : Option (Nat × Nat)) (xs : List In) (h : Sl H 63 a (xs.map In.enc)) (hn : xs.length ≤ 1048576) :
    run env 70 [.w (.lf (.sl a xs.length))] H = some (.sl H.length 0 xs.length, H ++ [some ⟨68, .wr, xs.map In.enc⟩]) := by
  refine run_walk ok70 Try.func70 rfl (by simp [Try.f70]) fun Q hQ => ?_
  simp only [Try.f70, strip, stripL, stripI, stripG, chkT, tagsB, tagsL, tagD, addT, tagA, lookN, tagOp, elmT, ty22, ty27, ty33, ty37, ty39, ty72, ty73, ty74, ty79, ty80, ty81, ty87, ty88, ty93, ty94, ty103, ty162, ty190, ty206, Nat.reduceEqDiff, if_false, reduceIte, Option.getD_some, Option.getD_none, dstAt, dstOk, Nat.reduceLT, decide_true, if_true]
  have k1 : (xs.length : Int) * 64 ≤ 281474976710656 := by omega
  have k2 : (xs.length : Int) ≤ 9223372036854775807 := by omega
  simp [builtinV, pureB, lenV, makeSliceV, makeSliceR, newBlk, k1, k2]
  refine wpS_loop (fun j tm H' => ∃ i, i + j = xs.length ∧ tm 0 = .w (.lf (.sl a xs.length)) ∧ tm 3 = .sl H.length 0 xs.length ∧ tm 4 = .int i ∧ H' = H ++ [some ⟨68, .wr, fillR (xs.map In.enc) In.z i j⟩]) xs.length (by rw [env_K]; omega) ⟨0, by simp, by simp, by simp, by simp, by rw [fillR_zero _ _ (by simp)]⟩ ?_
  rintro j tm H' hj ⟨i, hij, h0, h3, h4, rfl⟩ Q' hn' he' hr'
  simp [h0, h3, h4, builtinV, pureB, lenV]
  refine selS_intro (fun hc => ?_) (fun hc => ?_)
  · simp at hc
    obtain ⟨j, rfl⟩ : ∃ j', j = j' + 1 := ⟨j - 1, by omega⟩
    obtain ⟨id, r, b, rfl, hb, hbe, hrow⟩ := h i _ (by simp [hc]; rfl)
    have hid := blkAt_len hb
    have g2 := fillR_get (ys := xs.map In.enc) (z := In.z) (i := i) (j := j) (by simpa using hij)
    have g3 := fillR_set (ys := xs.map In.enc) (z := In.z) (i := i) (j := j) (y := xs[i].enc) (by simpa using hij) (by simp [hc])
    have g4 : IntKind.i64.wrap ((i : Int) + 1) = (i : Int) + 1 := wrap64 (by omega) (by omega)
    simp [h0, h3, h4, indexAddrV, elemIs, hid, hb, hbe, hc, hrow, toIn, g2, g3, g4]
    exact hn' j _ _ (by omega) ⟨i + 1, by omega, by simp [h0], by simp [h3], by simp, rfl⟩
  · simp at hc
    have hj0 : j = 0 := by omega
    subst hj0
    simp [h0, h3, h4]
    refine he' _ _ _ ?_
    simp [h3]
    refine hQ _ _ _ (by simp) ?_
    simp [Try.f70, leave, fillR_done (ys := xs.map In.enc) (i := i) (z := In.z) (by simpa using hij), refFree]

theorem szInS (H : Heap) (a : Option (Nat × Nat)) (n : Nat) (left : Int) (h1 : 0 ≤ left) (h2 : left ≤ 1048576) (h3 : n ≤ maxLen) :
    run env 69 [.w (.lf (.sl a n)), .int left] H = some (.int (if left < n then -1 else left - n), H) := by
  have hm : (n : Int) ≤ 9223372036854775807 := by unfold maxLen at h3; omega
  refine run_walk ok69 Try.func69 rfl (by simp [Try.f69]) fun Q hQ => ?_
  simp only [Try.f69, strip, stripL, stripI, stripG, chkT, tagsB, tagsL, tagD, addT, tagA, lookN, tagOp, elmT, ty22, ty27, ty33, ty37, ty39, ty72, ty73, ty74, ty79, ty80, ty81, ty87, ty88, ty93, ty94, ty103, ty162, ty190, ty206, Nat.reduceEqDiff, if_false, reduceIte, Option.getD_some, Option.getD_none, dstAt, dstOk, Nat.reduceLT, decide_true, if_true]
  have g : IntKind.i64.wrap (left - n) = left - n := wrap64 (by omega) (by omega)
  simp [builtinV, pureB, lenV, g]
  repeat' (first | (refine gdL_t (fun h => ?_) (fun h => ?_) <;> simp [h]) | (refine gdL_f (fun h => ?_) (fun h => ?_) <;> simp [h]) | (refine selS_intro (fun h => ?_) (fun h => ?_) <;> simp [h]))
  all_goals (refine hQ _ _ _ (by simp) ?_)
  all_goals (clear hQ; simp_all [Try.f69] <;> omega)

theorem eqVec (H : Heap) (v w : Vec) : run env 146 [.agg v.enc, .agg w.enc] H = some (.bool (decide (v = w)), H) := by
  obtain ⟨a1, a2, a3, a4⟩ := v
  obtain ⟨b1, b2, b3, b4⟩ := w
  refine run_walk ok146 Try.func146 rfl (by simp [Try.f146]) fun Q hQ => ?_
  simp only [Try.f146, strip, stripL, stripI, stripG, chkT, tagsB, tagsL, tagD, addT, tagA, lookN, tagOp, elmT, ty22, ty27, ty33, ty37, ty39, ty72, ty73, ty74, ty79, ty80, ty81, ty87, ty88, ty93, ty94, ty103, ty162, ty190, ty206, Nat.reduceEqDiff, if_false, reduceIte, Option.getD_some, Option.getD_none, dstAt, dstOk, Nat.reduceLT, decide_true, if_true]
  simp [Vec.enc]
  repeat' (first | (refine gdL_t (fun h => ?_) (fun h => ?_) <;> simp [h]) | (refine gdL_f (fun h => ?_) (fun h => ?_) <;> simp [h]) | (refine selS_intro (fun h => ?_) (fun h => ?_) <;> simp [h]))
  all_goals (refine hQ _ _ _ (by simp) ?_)
  all_goals (clear hQ; simp_all [Try.f146])

theorem eqIn (H : Heap) (x y : In) : run env 124 [.agg x.enc, .agg y.enc] H = some (.bool (decide (x = y)), H) := by
  have e := fun H => eqVec H x.vec y.vec
  obtain ⟨a1, a2, a3, a4, a5⟩ := x
  obtain ⟨b1, b2, b3, b4, b5⟩ := y
  simp only [Vec.enc] at e
  refine run_walk ok124 Try.func124 rfl (by simp [Try.f124]) fun Q hQ => ?_
  simp only [Try.f124, strip, stripL, stripI, stripG, chkT, tagsB, tagsL, tagD, addT, tagA, lookN, tagOp, elmT, ty22, ty27, ty33, ty37, ty39, ty72, ty73, ty74, ty79, ty80, ty81, ty87, ty88, ty93, ty94, ty103, ty162, ty190, ty206, Nat.reduceEqDiff, if_false, reduceIte, Option.getD_some, Option.getD_none, dstAt, dstOk, Nat.reduceLT, decide_true, if_true]
  simp [In.enc]
  repeat' (first | (refine gdL_t (fun h => ?_) (fun h => ?_) <;> simp [h, e]) | (refine gdL_f (fun h => ?_) (fun h => ?_) <;> simp [h, e]) | (refine selS_intro (fun h => ?_) (fun h => ?_) <;> simp [h, e]))
  all_goals (refine hQ _ _ _ (by simp) ?_)
  all_goals (clear hQ; simp_all [Try.f124])

theorem eqInS (H : Heap) (a b : Option (Nat × Nat)) (xs ys : List In) (ha : Sl H 68 a (xs.map In.enc)) (hb : Sl H 68 b (ys.map In.enc)) (hn : xs.length ≤ 1048576) :
    run env 71 [.w (.lf (.sl a xs.length)), .w (.lf (.sl b ys.length))] H = some (.bool (decide (xs = ys)), H) := by
  refine run_walk ok71 Try.func71 rfl (by simp [Try.f71]) fun Q hQ => ?_
  simp only [Try.f71, strip, stripL, stripI, stripG, chkT, tagsB, tagsL, tagD, addT, tagA, lookN, tagOp, elmT, ty22, ty27, ty33, ty37, ty39, ty72, ty73, ty74, ty79, ty80, ty81, ty87, ty88, ty93, ty94, ty103, ty162, ty190, ty206, Nat.reduceEqDiff, if_false, reduceIte, Option.getD_some, Option.getD_none, dstAt, dstOk, Nat.reduceLT, decide_true, if_true]
  simp [builtinV, pureB, lenV]
  refine selS_intro (fun hl => ?_) (fun hl => ?_)
  · simp
    refine hQ _ _ _ (by simp) ?_
    simp at hl
    have : ¬ xs = ys := fun h => hl (by rw [h])
    simp [Try.f71, this]
  simp at hl
  simp
  refine wpS_loop (fun j tm H' => ∃ i, i + j = xs.length ∧ tm 0 = .w (.lf (.sl a xs.length)) ∧ tm 1 = .w (.lf (.sl b ys.length)) ∧ tm 5 = .int i ∧ H' = H ∧ xs.take i = ys.take i) xs.length (by rw [env_K]; omega) ⟨0, by simp, by simp, by simp, by simp, rfl, by simp⟩ ?_
  rintro j tm H' hj ⟨i, hij, h0, h1, h5, rfl, heq⟩ Q' hn' he' hr'
  simp [h0, h1, h5, builtinV, pureB, lenV]
  refine selS_intro (fun hc => ?_) (fun hc => ?_)
  · simp at hc
    have hc2 : i < ys.length := by omega
    obtain ⟨id, r, bl, rfl, hbl, hbe, hrow⟩ := ha i _ (by simp [hc]; rfl)
    obtain ⟨id2, r2, bl2, rfl, hbl2, hbe2, hrow2⟩ := hb i _ (by simp [hc2]; rfl)
    have g4 : IntKind.i64.wrap ((i : Int) + 1) = (i : Int) + 1 := wrap64 (by omega) (by omega)
    simp [h0, h1, h5, indexAddrV, elemIs, hbl, hbe, hbl2, hbe2, hc, hc2, hrow, hrow2, eqIn]
    refine selS_intro (fun hd => ?_) (fun hd => ?_)
    · simp
      refine hr' _ _ ?_
      simp
      refine hQ _ _ _ (by simp) ?_
      simp at hd
      have : ¬ xs = ys := fun h => hd (by simp [h])
      simp [Try.f71, this]
    · simp at hd
      simp [h0, h1, h5, g4]
      exact hn' (j - 1) _ _ (by omega) ⟨i + 1, by omega, by simp [h0], by simp [h1], by simp, rfl, by rw [List.take_add_one, List.take_add_one, heq]; simp [hc, hc2, hd]⟩
  · simp at hc
    simp [h0, h1, h5]
    refine he' _ _ _ ?_
    simp
    refine hQ _ _ _ (by simp) ?_
    have : xs = ys := by
      rw [List.take_of_length_le (by omega), List.take_of_length_le (by omega)] at heq
      exact heq
    simp [Try.f71, this]

structure Minder where
  up : Bool
  life : Int
  epoch : Int
  log : List In
  said : Int
  acked : Int
  ackLife : Int
  deriving DecidableEq
def Minder.enc (m : Minder) (a : Option (Nat × Nat)) : List Lf := [.b m.up, .i .i64 m.life, .i .i64 m.epoch, .sl a m.log.length, .i .i64 m.said, .i .i64 m.acked, .i .i64 m.ackLife]
@[simp] theorem Minder.enc_len (m : Minder) (a : Option (Nat × Nat)) : (m.enc a).length = 7 := rfl
@[simp] theorem Minder.enc_take (m : Minder) (a : Option (Nat × Nat)) : List.take 7 (m.enc a) = m.enc a := rfl

theorem szMinder (H : Heap) (a : Option (Nat × Nat)) (m : Minder) (left : Int) (h1 : 0 ≤ left) (h2 : left ≤ 1048576) (h3 : m.log.length ≤ maxLen) :
    run env 15 [.agg (m.enc a), .int left] H = some (.int (if left < m.log.length then -1 else left - m.log.length), H) := by
  have e := fun H => szInS H a m.log.length left h1 h2 h3
  refine run_walk ok15 Try.func15 rfl (by simp [Try.f15]) fun Q hQ => ?_
  simp only [Try.f15, strip, stripL, stripI, stripG, chkT, tagsB, tagsL, tagD, addT, tagA, lookN, tagOp, elmT, ty22, ty27, ty33, ty37, ty39, ty72, ty73, ty74, ty79, ty80, ty81, ty87, ty88, ty93, ty94, ty103, ty162, ty190, ty206, Nat.reduceEqDiff, if_false, reduceIte, Option.getD_some, Option.getD_none, dstAt, dstOk, Nat.reduceLT, decide_true, if_true]
  simp [Minder.enc, e]
  repeat' (first | (refine gdL_t (fun h => ?_) (fun h => ?_) <;> simp [h]) | (refine gdL_f (fun h => ?_) (fun h => ?_) <;> simp [h]) | (refine selS_intro (fun h => ?_) (fun h => ?_) <;> simp [h]))
  all_goals (refine hQ _ _ _ (by simp) ?_)
  all_goals (clear hQ; simp_all [Try.f15] <;> omega)

theorem toMinder (H : Heap) (a : Option (Nat × Nat)) (m : Minder) (h : Sl H 63 a (m.log.map In.enc)) (hn : m.log.length ≤ 1048576) :
    run env 17 [.agg (m.enc a)] H = some (.agg (m.enc (some (H.length + 3, 0))), H ++ [some ⟨24, .wr, [m.enc a]⟩, some ⟨29, .wr, [m.enc (some (H.length + 3, 0))]⟩,
      some ⟨29, .wr, [m.enc (some (H.length + 3, 0))]⟩, some ⟨68, .wr, m.log.map In.enc⟩]) := by
  have e := fun H h => toInS H a m.log h hn
  refine run_walk ok17 Try.func17 rfl (by simp [Try.f17]) fun Q hQ => ?_
  simp only [Try.f17, strip, stripL, stripI, stripG, chkT, tagsB, tagsL, tagD, addT, tagA, lookN, tagOp, elmT, ty22, ty27, ty33, ty37, ty39, ty72, ty73, ty74, ty79, ty80, ty81, ty87, ty88, ty93, ty94, ty103, ty162, ty190, ty206, Nat.reduceEqDiff, if_false, reduceIte, Option.getD_some, Option.getD_none, dstAt, dstOk, Nat.reduceLT, decide_true, if_true]
  simp [Minder.enc]
  rw [e _ (by simpa using h.app _)]
  simp
  refine hQ _ _ _ (by simp) ?_
  simp [Try.f17, leave, refFree, Minder.enc]

theorem eqMinder (H : Heap) (a b : Option (Nat × Nat)) (m n : Minder) (ha : Sl H 68 a (m.log.map In.enc)) (hb : Sl H 68 b (n.log.map In.enc)) (hn : m.log.length ≤ 1048576) :
    run env 19 [.agg (m.enc a), .agg (n.enc b)] H = some (.bool (decide (m = n)), H) := by
  have e := fun G => eqInS (H ++ G) a b m.log n.log (ha.app _) (hb.app _) hn
  obtain ⟨a1, a2, a3, a4, a5, a6, a7⟩ := m
  obtain ⟨b1, b2, b3, b4, b5, b6, b7⟩ := n
  simp only at e
  refine run_walk ok19 Try.func19 rfl (by simp [Try.f19]) fun Q hQ => ?_
  simp only [Try.f19, strip, stripL, stripI, stripG, chkT, tagsB, tagsL, tagD, addT, tagA, lookN, tagOp, elmT, ty22, ty27, ty33, ty37, ty39, ty72, ty73, ty74, ty79, ty80, ty81, ty87, ty88, ty93, ty94, ty103, ty162, ty190, ty206, Nat.reduceEqDiff, if_false, reduceIte, Option.getD_some, Option.getD_none, dstAt, dstOk, Nat.reduceLT, decide_true, if_true]
  simp [Minder.enc]
  repeat' (first | (refine gdL_t (fun h => ?_) (fun h => ?_) <;> simp [h, e]) | (refine gdL_f (fun h => ?_) (fun h => ?_) <;> simp [h, e]) | (refine selS_intro (fun h => ?_) (fun h => ?_) <;> simp [h, e]))
  all_goals (refine hQ _ _ _ (by simp) ?_)
  all_goals (clear hQ; simp_all [Try.f19])

def ready (m : Minder) (pair : Int) : Bool := m.up && decide (0 < m.epoch) && decide (m.said < m.log.length) && (decide (pair = 0) || decide (m.ackLife = pair) && decide (m.said < m.acked))

theorem specReady (H : Heap) (a : Option (Nat × Nat)) (m : Minder) (pair : Int) : run env 16 [.agg (m.enc a), .int pair] H = some (.bool (ready m pair), H) := by
  obtain ⟨a1, a2, a3, a4, a5, a6, a7⟩ := m
  refine run_walk ok16 Try.func16 rfl (by simp [Try.f16]) fun Q hQ => ?_
  simp only [Try.f16, strip, stripL, stripI, stripG, chkT, tagsB, tagsL, tagD, addT, tagA, lookN, tagOp, elmT, ty22, ty27, ty33, ty37, ty39, ty72, ty73, ty74, ty79, ty80, ty81, ty87, ty88, ty93, ty94, ty103, ty162, ty190, ty206, Nat.reduceEqDiff, if_false, reduceIte, Option.getD_some, Option.getD_none, dstAt, dstOk, Nat.reduceLT, decide_true, if_true]
  simp [Minder.enc, builtinV, pureB, lenV]
  repeat' (first | (refine gdL_t (fun h => ?_) (fun h => ?_) <;> simp [h, builtinV, pureB, lenV]) | (refine gdL_f (fun h => ?_) (fun h => ?_) <;> simp [h, builtinV, pureB, lenV]) | (refine selS_intro (fun h => ?_) (fun h => ?_) <;> simp [h, builtinV, pureB, lenV]))
  all_goals (refine hQ _ _ _ (by simp) ?_)
  all_goals (clear hQ; simp_all [Try.f16, ready])
  all_goals omega

theorem implReady (H : Heap) (a : Option (Nat × Nat)) (m : Minder) (pair : Int) : run env 18 [.agg (m.enc a), .int pair] H = some (.bool (ready m pair), H) := by
  obtain ⟨a1, a2, a3, a4, a5, a6, a7⟩ := m
  refine run_walk ok18 Try.func18 rfl (by simp [Try.f18]) fun Q hQ => ?_
  simp only [Try.f18, strip, stripL, stripI, stripG, chkT, tagsB, tagsL, tagD, addT, tagA, lookN, tagOp, elmT, ty22, ty27, ty33, ty37, ty39, ty72, ty73, ty74, ty79, ty80, ty81, ty87, ty88, ty93, ty94, ty103, ty162, ty190, ty206, Nat.reduceEqDiff, if_false, reduceIte, Option.getD_some, Option.getD_none, dstAt, dstOk, Nat.reduceLT, decide_true, if_true]
  simp [Minder.enc, builtinV, pureB, lenV]
  repeat' (first | (refine gdL_t (fun h => ?_) (fun h => ?_) <;> simp [h, builtinV, pureB, lenV]) | (refine gdL_f (fun h => ?_) (fun h => ?_) <;> simp [h, builtinV, pureB, lenV]) | (refine selS_intro (fun h => ?_) (fun h => ?_) <;> simp [h, builtinV, pureB, lenV]))
  all_goals (refine hQ _ _ _ (by simp) ?_)
  all_goals (clear hQ; simp_all [Try.f18, ready])
  all_goals omega

theorem shpVec {H : Heap} {k : Nat} {l : List Lf} (h : Shp Try.prog H (k + 2) 61 l) : ∃ v : Vec, l = v.enc := by
  obtain ⟨_, _, rfl, h1, _, _, rfl, h2, _, _, rfl, h3, _, _, rfl, h4, rfl⟩ := h.struct Try.underlying61
  obtain ⟨a, rfl, -⟩ := h1.i64 Try.underlying3
  obtain ⟨b, rfl, -⟩ := h2.i64 Try.underlying3
  obtain ⟨c, rfl, -⟩ := h3.i64 Try.underlying3
  obtain ⟨d, rfl, -⟩ := h4.i64 Try.underlying3
  exact ⟨⟨a, b, c, d⟩, rfl⟩

theorem shpIn {H : Heap} {k : Nat} {l : List Lf} (h : Shp Try.prog H (k + 3) 63 l) : ∃ x : In, l = x.enc := by
  obtain ⟨_, _, rfl, h1, _, _, rfl, h2, _, _, rfl, h3, _, _, rfl, h4, _, _, rfl, h5, rfl⟩ := h.struct Try.underlying63
  obtain ⟨a, rfl, -⟩ := h1.i64 Try.underlying3
  obtain ⟨b, rfl, -⟩ := h2.i64 Try.underlying3
  obtain ⟨v, rfl⟩ := shpVec h3
  obtain ⟨c, rfl, -⟩ := h4.i64 Try.underlying3
  obtain ⟨d, rfl⟩ := h5.bool Try.underlying4
  exact ⟨⟨a, b, v, c, d⟩, rfl⟩

theorem shpMinder {H : Heap} {k : Nat} {l : List Lf} (h : Shp Try.prog H (k + 5) 24 l) : ∃ (m : Minder) (a : Option (Nat × Nat)), l = m.enc a ∧ Sl H 63 a (m.log.map In.enc) ∧ m.log.length ≤ maxLen := by
  obtain ⟨_, _, rfl, h1, _, _, rfl, h2, _, _, rfl, h3, _, _, rfl, h4, _, _, rfl, h5, _, _, rfl, h6, _, _, rfl, h7, rfl⟩ := h.struct Try.underlying24
  obtain ⟨x1, rfl⟩ := h1.bool Try.underlying4
  obtain ⟨x2, rfl, -⟩ := h2.i64 Try.underlying3
  obtain ⟨x3, rfl, -⟩ := h3.i64 Try.underlying3
  obtain ⟨xs, a, rfl, hs, hl, -⟩ := h4.sl (f := In.enc) (R := fun _ => True) Try.underlying22 fun row hr => let ⟨x, hx⟩ := shpIn hr; ⟨x, hx, trivial⟩
  obtain ⟨x5, rfl, -⟩ := h5.i64 Try.underlying3
  obtain ⟨x6, rfl, -⟩ := h6.i64 Try.underlying3
  obtain ⟨x7, rfl, -⟩ := h7.i64 Try.underlying3
  exact ⟨⟨x1, x2, x3, xs, x5, x6, x7⟩, a, rfl, hs, hl⟩
end W
end Go.Proofs.Ytiajpfbghkmiiaa

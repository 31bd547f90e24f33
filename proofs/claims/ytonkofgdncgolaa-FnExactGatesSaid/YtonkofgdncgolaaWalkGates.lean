/- The functions that this law reaches: what each computes. Conditions: those that each theorem names. -/
import Derived.Test.YtonkofgdncgolaaAbEnvGates
set_option maxRecDepth 100000
set_option maxHeartbeats 4000000
set_option linter.unusedSimpArgs false
set_option linter.unusedVariables false
set_option linter.unnecessarySimpa false
namespace Go.Proofs.Ytonkofgdncgolaa
open Go Go.Ab Go.ChangeShapes Go.WideShapes Go.ChangeAt Go.RowKit
namespace W
structure Vec where
  root : Int
  cost : Int
  bridge : Int
  port : Int
  deriving DecidableEq, Inhabited
def Vec.enc (x : Vec) : List Lf := [.i .i64 x.root, .i .i64 x.cost, .i .i64 x.bridge, .i .i64 x.port]
@[simp] theorem Vec.enc_len (x : Vec) : x.enc.length = 4 := rfl
@[simp] theorem Vec.enc_take (x : Vec) : List.take 4 x.enc = x.enc := rfl
@[simp] theorem Vec.enc_drop (x : Vec) : List.drop 4 x.enc = [] := rfl
abbrev Vec.z : List Lf := [.i .i64 0, .i .i64 0, .i .i64 0, .i .i64 0]
abbrev Vec.zv : Vec := ⟨0, 0, 0, 0⟩
theorem Vec.enc_inj {x y : Vec} (h : x.enc = y.enc) : x = y := by
  obtain ⟨_, _, _, _⟩ := x
  obtain ⟨_, _, _, _⟩ := y
  simp [Vec.enc] at h
  simp_all
def Vec.mk' (k : Int) : Vec := ⟨k, k + 1, k + 2, k + 3⟩
theorem Vec.mk'_of {y : Vec} {c : Int} (h0 : y.root = c) (h1 : y.cost = c + 1) (h2 : y.bridge = c + 2) (h3 : y.port = c + 3) : y = Vec.mk' c := by
  rcases y with ⟨w0, v1, v2, v3⟩
  simp only at h0 h1 h2 h3
  subst h0 h1 h2 h3
  rfl

theorem toVec (H : Heap) (x : Vec) : run env 59 [.agg x.enc] H = some (.agg x.enc, H) := by
  refine run_walk ok59 Try.func59 rfl (by simp [Try.f59]) fun Q hQ => ?_
  simp only [Try.f59, strip, stripL, stripI, stripG, chkT, tagsB, tagsL, tagD, addT, tagA, lookN, tagOp, elmT, ty28, ty32, ty34, ty43, ty48, ty74, ty75, ty76, ty81, ty82, ty83, Nat.reduceEqDiff, if_false, reduceIte, Option.getD_some, Option.getD_none, dstAt, dstOk, Nat.reduceLT, decide_true, if_true]
  simp [Vec.enc]
  all_goals (refine hQ _ _ _ (by simp) ?_)
  all_goals (clear hQ; simp [Try.f59, Vec.enc])

theorem eqVec (H : Heap) (x y : Vec) : run env 84 [.agg x.enc, .agg y.enc] H = some (.bool (decide (x = y)), H) := by
  obtain ⟨a0, a1, a2, a3⟩ := x
  obtain ⟨b0, b1, b2, b3⟩ := y
  refine run_walk ok84 Try.func84 rfl (by simp [Try.f84]) fun Q hQ => ?_
  simp only [Try.f84, strip, stripL, stripI, stripG, chkT, tagsB, tagsL, tagD, addT, tagA, lookN, tagOp, elmT, ty28, ty32, ty34, ty43, ty48, ty74, ty75, ty76, ty81, ty82, ty83, Nat.reduceEqDiff, if_false, reduceIte, Option.getD_some, Option.getD_none, dstAt, dstOk, Nat.reduceLT, decide_true, if_true]
  simp [Vec.enc]
  repeat' (first | (refine gdL_t (fun h => ?_) (fun h => ?_) <;> simp [h]) | (refine gdL_f (fun h => ?_) (fun h => ?_) <;> simp [h]) | (refine selS_intro (fun h => ?_) (fun h => ?_) <;> simp [h]))
  all_goals (refine hQ _ _ _ (by simp) ?_)
  all_goals (clear hQ; simp_all [Try.f84])

theorem shpVec {H : Heap} {k : Nat} {l : List Lf} (h : Shp Try.prog H (k + 2) 61 l) : ∃ x : Vec, l = x.enc := by
  obtain ⟨_, _, rfl, h0, _, _, rfl, h1, _, _, rfl, h2, _, _, rfl, h3, rfl⟩ := h.struct Try.underlying61
  obtain ⟨a0, rfl, -⟩ := h0.i64 Try.underlying3
  obtain ⟨a1, rfl, -⟩ := h1.i64 Try.underlying3
  obtain ⟨a2, rfl, -⟩ := h2.i64 Try.underlying3
  obtain ⟨a3, rfl, -⟩ := h3.i64 Try.underlying3
  exact ⟨⟨a0, a1, a2, a3⟩, rfl⟩

structure Port where
  up : Bool
  has : Bool
  vec : Vec
  hops : Int
  left : Int
  role : Int
  wait : Int
  opn : Bool
  deriving DecidableEq, Inhabited
def Port.enc (x : Port) : List Lf := [.b x.up, .b x.has, .i .i64 x.vec.root, .i .i64 x.vec.cost, .i .i64 x.vec.bridge, .i .i64 x.vec.port, .i .i64 x.hops, .i .i64 x.left, .i .i64 x.role, .i .i64 x.wait, .b x.opn]
@[simp] theorem Port.enc_len (x : Port) : x.enc.length = 11 := rfl
@[simp] theorem Port.enc_take (x : Port) : List.take 11 x.enc = x.enc := rfl
@[simp] theorem Port.enc_drop (x : Port) : List.drop 11 x.enc = [] := rfl
abbrev Port.z : List Lf := [.b false, .b false, .i .i64 0, .i .i64 0, .i .i64 0, .i .i64 0, .i .i64 0, .i .i64 0, .i .i64 0, .i .i64 0, .b false]
abbrev Port.zv : Port := ⟨false, false, ⟨0, 0, 0, 0⟩, 0, 0, 0, 0, false⟩
theorem Port.enc_inj {x y : Port} (h : x.enc = y.enc) : x = y := by
  rcases x with ⟨v0, v1, ⟨v2_0, v2_1, v2_2, v2_3⟩, v3, v4, v5, v6, v7⟩
  rcases y with ⟨w0, v1, ⟨v2_0, v2_1, v2_2, v2_3⟩, v3, v4, v5, v6, v7⟩
  simp [Port.enc] at h
  simp_all
def Port.mk' (k : Int) : Port := ⟨decide ((k).tmod 3 = 0), decide ((k + 1).tmod 3 = 0), ⟨k + 2, k + 3, k + 4, k + 5⟩, k + 6, k + 7, k + 8, k + 9, decide ((k + 10).tmod 3 = 0)⟩
theorem Port.mk'_of {y : Port} {c : Int} (h0 : y.up = decide ((c).tmod 3 = 0)) (h1 : y.has = decide ((c + 1).tmod 3 = 0)) (h2 : y.vec.root = c + 2) (h3 : y.vec.cost = c + 3) (h4 : y.vec.bridge = c + 4) (h5 : y.vec.port = c + 5) (h6 : y.hops = c + 6) (h7 : y.left = c + 7) (h8 : y.role = c + 8) (h9 : y.wait = c + 9) (h10 : y.opn = decide ((c + 10).tmod 3 = 0)) : y = Port.mk' c := by
  rcases y with ⟨w0, v1, ⟨v2_0, v2_1, v2_2, v2_3⟩, v3, v4, v5, v6, v7⟩
  simp only at h0 h1 h2 h3 h4 h5 h6 h7 h8 h9 h10
  subst h0 h1 h2 h3 h4 h5 h6 h7 h8 h9 h10
  rfl

theorem toPort (H : Heap) (x : Port) : run env 74 [.agg x.enc] H = some (.agg x.enc, H) := by
  refine run_walk ok74 Try.func74 rfl (by simp [Try.f74]) fun Q hQ => ?_
  simp only [Try.f74, strip, stripL, stripI, stripG, chkT, tagsB, tagsL, tagD, addT, tagA, lookN, tagOp, elmT, ty28, ty32, ty34, ty43, ty48, ty74, ty75, ty76, ty81, ty82, ty83, Nat.reduceEqDiff, if_false, reduceIte, Option.getD_some, Option.getD_none, dstAt, dstOk, Nat.reduceLT, decide_true, if_true]
  have e0 := fun H => toVec H x.vec
  simp only [Vec.enc] at e0
  simp [Port.enc, e0]
  all_goals (refine hQ _ _ _ (by simp) ?_)
  all_goals (clear hQ; simp [Try.f74, Port.enc])

theorem eqPort (H : Heap) (x y : Port) : run env 75 [.agg x.enc, .agg y.enc] H = some (.bool (decide (x = y)), H) := by
  have e0 := fun H => eqVec H x.vec y.vec
  obtain ⟨a0, a1, a2, a3, a4, a5, a6, a7⟩ := x
  obtain ⟨b0, b1, b2, b3, b4, b5, b6, b7⟩ := y
  simp only [Vec.enc] at e0
  refine run_walk ok75 Try.func75 rfl (by simp [Try.f75]) fun Q hQ => ?_
  simp only [Try.f75, strip, stripL, stripI, stripG, chkT, tagsB, tagsL, tagD, addT, tagA, lookN, tagOp, elmT, ty28, ty32, ty34, ty43, ty48, ty74, ty75, ty76, ty81, ty82, ty83, Nat.reduceEqDiff, if_false, reduceIte, Option.getD_some, Option.getD_none, dstAt, dstOk, Nat.reduceLT, decide_true, if_true]
  simp [Port.enc]
  repeat' (first | (refine gdL_t (fun h => ?_) (fun h => ?_) <;> simp [h, e0]) | (refine gdL_f (fun h => ?_) (fun h => ?_) <;> simp [h, e0]) | (refine selS_intro (fun h => ?_) (fun h => ?_) <;> simp [h, e0]))
  all_goals (refine hQ _ _ _ (by simp) ?_)
  all_goals (clear hQ; simp_all [Try.f75])

theorem shpPort {H : Heap} {k : Nat} {l : List Lf} (h : Shp Try.prog H (k + 3) 116 l) : ∃ x : Port, l = x.enc := by
  obtain ⟨_, _, rfl, h0, _, _, rfl, h1, _, _, rfl, h2, _, _, rfl, h3, _, _, rfl, h4, _, _, rfl, h5, _, _, rfl, h6, _, _, rfl, h7, rfl⟩ := h.struct Try.underlying116
  obtain ⟨a0, rfl⟩ := h0.bool Try.underlying4
  obtain ⟨a1, rfl⟩ := h1.bool Try.underlying4
  obtain ⟨a2, rfl⟩ := shpVec h2
  obtain ⟨a3, rfl, -⟩ := h3.i64 Try.underlying3
  obtain ⟨a4, rfl, -⟩ := h4.i64 Try.underlying3
  obtain ⟨a5, rfl, -⟩ := h5.i64 Try.underlying3
  obtain ⟨a6, rfl, -⟩ := h6.i64 Try.underlying3
  obtain ⟨a7, rfl⟩ := h7.bool Try.underlying4
  exact ⟨⟨a0, a1, a2, a3, a4, a5, a6, a7⟩, rfl⟩

def encB (x : Bool) : List Lf := [.b x]
@[simp] theorem encB_len (x : Bool) : (encB x).length = 1 := rfl
@[simp] theorem encB_take (x : Bool) : List.take 1 (encB x) = [.b x] := rfl
def mkB (k : Int) : Bool := decide (k.tmod 3 = 0)
theorem encB_inj {x y : Bool} (h : encB x = encB y) : x = y := by simpa [encB] using h

theorem eqBoolS (H : Heap) (a b : Option (Nat × Nat)) (xs ys : List Bool) (ha : Sl H 4 a (xs.map encB)) (hb : Sl H 4 b (ys.map encB)) (hn : xs.length ≤ 1048576) :
    run env 18 [.w (.lf (.sl a xs.length)), .w (.lf (.sl b ys.length))] H = some (.bool (decide (xs = ys)), H) := by
  refine run_walk ok18 Try.func18 rfl (by simp [Try.f18]) fun Q hQ => ?_
  simp only [Try.f18, strip, stripL, stripI, stripG, chkT, tagsB, tagsL, tagD, addT, tagA, lookN, tagOp, elmT, ty28, ty32, ty34, ty43, ty48, ty74, ty75, ty76, ty81, ty82, ty83, Nat.reduceEqDiff, if_false, reduceIte, Option.getD_some, Option.getD_none, dstAt, dstOk, Nat.reduceLT, decide_true, if_true]
  simp [builtinV, pureB, lenV]
  refine selS_intro (fun hl => ?_) (fun hl => ?_)
  · simp
    refine hQ _ _ _ (by simp) ?_
    simp at hl
    have : ¬ xs = ys := fun h => hl (by rw [h])
    simp [Try.f18, this]
  simp at hl
  simp
  refine wpS_loop (fun j tm H' => ∃ i, i + j = xs.length ∧ tm 0 = .w (.lf (.sl a xs.length)) ∧ tm 1 = .w (.lf (.sl b ys.length)) ∧ tm 5 = .int i ∧ H' = H ∧ xs.take i = ys.take i) xs.length (by rw [env_K]; omega) ⟨0, by simp, by simp, by simp, by simp, rfl, by simp⟩ ?_
  rintro j tm H' hj ⟨i, hij, h0, h1, h5, rfl, heq⟩ Q' hn' he' hr'
  simp [h0, h1, h5, builtinV, pureB, lenV]
  refine selS_intro (fun hc => ?_) (fun hc => ?_)
  · simp at hc
    have hc2 : i < ys.length := by omega
    obtain ⟨id, r, bl, rfl, hbl, hbe, hrow⟩ := ha i _ (by simp [hc]; rfl)
    obtain ⟨id2, r2, bl2, rfl, hbl2, hbe2, hrow2⟩ := hb i _ (by simp [hc2]; rfl)
    have g4 : IntKind.i64.wrap ((i : Int) + 1) = (i : Int) + 1 := wrap64 (by omega) (by omega)
    simp [h0, h1, h5, indexAddrV, elemIs, hbl, hbe, hbl2, hbe2, hc, hc2, hrow, hrow2, encB]
    refine selS_intro (fun hd => ?_) (fun hd => ?_)
    · simp
      refine hr' _ _ ?_
      simp
      refine hQ _ _ _ (by simp) ?_
      simp at hd
      have : ¬ xs = ys := fun h => by subst h; simp at hd
      simp [Try.f18, this]
    · simp at hd
      simp [h0, h1, h5, g4]
      exact hn' (j - 1) _ _ (by omega) ⟨i + 1, by omega, by simp [h0], by simp [h1], by simp, rfl, by rw [List.take_add_one, List.take_add_one, heq]; simp [hc, hc2, hd]⟩
  · simp at hc
    simp [h0, h1, h5]
    refine he' _ _ _ ?_
    simp
    refine hQ _ _ _ (by simp) ?_
    have : xs = ys := by
      rw [List.take_of_length_le (by omega), List.take_of_length_le (by omega)] at heq
      exact heq
    simp [Try.f18, this]

theorem markBoolS (H : Heap) (a : Option (Nat × Nat)) (xs : List Bool) (fp : List Nat) (k : Int) (h : Own H 4 a (xs.map encB) fp) (hk : 0 ≤ k) (hk2 : k + 1 * xs.length ≤ 4611686018427387904) (hn : xs.length ≤ 1048576) :
    Runs env 21 [.w (.lf (.sl a xs.length)), .int k] H fun v H' => v = .int (k + 1 * xs.length) ∧ Own H' 4 a ((marked mkB 1 xs.length k).map encB) fp ∧ Keep fp H H' := by
  refine Runs.walk ok21 Try.func21 rfl (by simp [Try.f21]) fun Q hQ => ?_
  simp only [Try.f21, strip, stripL, stripI, stripG, chkT, tagsB, tagsL, tagD, addT, tagA, lookN, tagOp, elmT, ty28, ty32, ty34, ty43, ty48, ty74, ty75, ty76, ty81, ty82, ty83, Nat.reduceEqDiff, if_false, reduceIte, Option.getD_some, Option.getD_none, dstAt, dstOk, Nat.reduceLT, decide_true, if_true]
  simp
  refine wpS_loop (fun j tm H' => ∃ i, i + j = xs.length ∧ tm 0 = .w (.lf (.sl a xs.length)) ∧ tm 1 = .int (k + 1 * i) ∧ tm 5 = .int i ∧ Own H' 4 a ((marked mkB 1 i k ++ xs.drop i).map encB) fp ∧ Keep fp H H') xs.length (by rw [env_K]; omega) ⟨0, by simp, by simp, by simp, by simp, by simpa [marked] using h, Keep.refl _ _⟩ ?_
  rintro j tm H' hj ⟨i, hij, h0, h1, h5, ho, hkp⟩ Q' hn' he' hr'
  simp [h0, h1, h5, builtinV, pureB, lenV]
  refine selS_intro (fun hc => ?_) (fun hc => ?_)
  · simp at hc
    obtain ⟨id, b, rfl, rfl, hb, hbe, hm, hpre⟩ := ho.blk (by simp; omega)
    have hid := blkAt_len hb
    obtain ⟨t, ht⟩ := hpre
    obtain ⟨hi, hrow2⟩ := marked_at mkB 1 encB xs hc k ht
    have g4 : IntKind.i64.wrap ((i : Int) + 1) = (i : Int) + 1 := wrap64 (by omega) (by omega)
    obtain ⟨c, hcc⟩ : ∃ c, c = k + 1 * (i : Int) := ⟨_, rfl⟩
    rw [← hcc] at h1
    have w : ∀ d : Int, 0 ≤ d → d ≤ 100 → IntKind.i64.wrap (c + d) = c + d := fun d h1 h2 => wrap64 (by omega) (by omega)
    simp [h0, h1, h5, indexAddrV, elemIs, hid, hb, hbe, hm, hc, hi, hrow2, blkAt_set, encB, w, Int.add_assoc, g4]
    refine hn' (j - 1) _ _ (by omega) ⟨i + 1, by omega, by simp [h0], by simp [hcc]; omega, by simp, ?_, ?_⟩
    · have := ho.set (row := encB (mkB c)) hb (i := i) (by simp; omega)
      have e := marked_put mkB 1 encB xs hc k
      rw [← hcc] at e
      rw [e, hm, hbe] at this
      simpa [encB, mkB] using this
    · exact hkp.trans (Keep.set _ _) (by simp) (by simp)
  · simp at hc
    obtain rfl : i = xs.length := by omega
    simp [h0, h1, h5]
    refine he' _ _ _ ?_
    simp [h1]
    refine hQ _ _ _ (by simp) ?_
    simp [Try.f21]
    exact ⟨leave_own (by simpa using ho) h.lt, leave_keep' hkp⟩

theorem heldBoolS (H : Heap) (a : Option (Nat × Nat)) (xs : List Bool) (k : Int) (h : Sl H 4 a (xs.map encB)) (hk : 0 ≤ k) (hk2 : k + 1 * xs.length ≤ 4611686018427387904) (hn : xs.length ≤ 1048576) :
    run env 22 [.w (.lf (.sl a xs.length)), .int k] H = some (.int (heldL mkB 1 xs k), H) := by
  refine run_walk ok22 Try.func22 rfl (by simp [Try.f22]) fun Q hQ => ?_
  simp only [Try.f22, strip, stripL, stripI, stripG, chkT, tagsB, tagsL, tagD, addT, tagA, lookN, tagOp, elmT, ty28, ty32, ty34, ty43, ty48, ty74, ty75, ty76, ty81, ty82, ty83, Nat.reduceEqDiff, if_false, reduceIte, Option.getD_some, Option.getD_none, dstAt, dstOk, Nat.reduceLT, decide_true, if_true]
  simp
  refine wpS_loop (fun j tm H' => ∃ i, i + j = xs.length ∧ tm 0 = .w (.lf (.sl a xs.length)) ∧ tm 1 = .int (k + 1 * i) ∧ tm 5 = .int i ∧ H' = H ∧ xs.take i = marked mkB 1 i k) xs.length (by rw [env_K]; omega) ⟨0, by simp, by simp, by simp, by simp, rfl, by simp [marked]⟩ ?_
  rintro j tm H' hj ⟨i, hij, h0, h1, h5, rfl, heq⟩ Q' hn' he' hr'
  simp [h0, h1, h5, builtinV, pureB, lenV]
  refine selS_intro (fun hc => ?_) (fun hc => ?_)
  · simp at hc
    obtain ⟨id, r, b, rfl, hb, hbe, hrow⟩ := h i _ (by simp [hc]; rfl)
    have g4 : IntKind.i64.wrap ((i : Int) + 1) = (i : Int) + 1 := wrap64 (by omega) (by omega)
    obtain ⟨c, hcc⟩ : ∃ c, c = k + 1 * (i : Int) := ⟨_, rfl⟩
    rw [← hcc] at h1
    have w : ∀ d : Int, 0 ≤ d → d ≤ 100 → IntKind.i64.wrap (c + d) = c + d := fun d h1 h2 => wrap64 (by omega) (by omega)
    have fin : xs[i] ≠ mkB c → ∀ tm'' : T, tm'' 4 = .int (-1) → Q' .ret tm'' H' := by
      intro hx tm'' ht
      refine hr' _ _ ?_
      simp
      refine hQ _ _ _ (by simp) ?_
      have : heldL mkB 1 xs k = -1 := heldL_bad hc (by rw [← hcc]; exact hx)
      simp [Try.f22, ht, this]
    simp [h0, h1, h5, indexAddrV, elemIs, hb, hbe, hc, hrow, encB, w, Int.add_assoc, g4]
    refine selS_intro (fun hd => ?_) (fun hd => ?_)
    · simp
      exact fin (fun he => by rw [he] at hd; simp [mkB] at hd) _ (by simp)
    have hd0 : xs[i] = decide ((c).tmod 3 = 0) := by simpa using hd
    simp [h0, h1, h5, indexAddrV, elemIs, hb, hbe, hc, hrow, encB, w, Int.add_assoc, g4]
    refine hn' (j - 1) _ _ (by omega) ⟨i + 1, by omega, by simp [h0], by simp [hcc]; omega, by simp, rfl, heldL_step hc ?_ heq⟩
    rw [← hcc]
    exact hd0
  · simp at hc
    obtain rfl : i = xs.length := by omega
    simp [h0, h1, h5]
    refine he' _ _ _ ?_
    simp [h1]
    refine hQ _ _ _ (by simp) ?_
    rw [List.take_of_length_le (Nat.le_refl _)] at heq
    have : heldL mkB 1 xs k = k + 1 * xs.length := by rw [heldL, if_pos heq]
    simp [Try.f22, this]

abbrev IsBoolS := IsSl 4 encB
abbrev RdBoolS := RdSl 4 encB
abbrev RdLBoolS := RdSl 4 encB
def BoolS.mk' (xs : List Bool) (k : Int) : List Bool := marked mkB 1 xs.length k
def BoolS.mkN (xs : List Bool) (k : Int) : Int := k + 1 * xs.length
def BoolS.hd (xs : List Bool) (k : Int) : Int := heldL mkB 1 xs k
theorem BoolS.hd_mk (xs : List Bool) (k : Int) : BoolS.hd (BoolS.mk' xs k) k = BoolS.mkN xs k := by simp [BoolS.hd, BoolS.mk', BoolS.mkN]
theorem BoolS.mk_sz (xs : List Bool) (k : Int) : (BoolS.mk' xs k).length = xs.length := by simp [BoolS.mk']
theorem BoolS.mkN_le {xs : List Bool} {k : Int} (h : xs.length ≤ 1048576) : k ≤ BoolS.mkN xs k ∧ BoolS.mkN xs k ≤ k + 1000000000 := by unfold BoolS.mkN; omega

theorem eqBoolS_is {H : Heap} {q r : Lf} {xs ys : List Bool} (h : RdBoolS H q xs) (h2 : RdBoolS H r ys) (hn : xs.length ≤ 1048576) : run env 18 [.w (.lf q), .w (.lf r)] H = some (.bool (decide (xs = ys)), H) := by
  obtain ⟨a, rfl, h⟩ := h
  obtain ⟨b, rfl, h2⟩ := h2
  exact eqBoolS H a b xs ys h h2 hn

theorem markBoolS_is {H : Heap} {q : Lf} {xs : List Bool} {fp : List Nat} {k : Int} (h : IsBoolS H q xs fp) (hk : 0 ≤ k) (hk2 : k ≤ 2305843009213693952) (hn : xs.length ≤ 1048576) :
    Runs env 21 [.w (.lf q), .int k] H fun v H' => v = .int (BoolS.mkN xs k) ∧ IsBoolS H' q (BoolS.mk' xs k) fp ∧ Keep fp H H' := by
  obtain ⟨a, rfl, h⟩ := h
  exact (markBoolS H a xs fp k h hk (by omega) hn).mono fun v H' ⟨h1, h2, h3⟩ => ⟨h1, ⟨a, by simp [BoolS.mk'], h2⟩, h3⟩

theorem heldBoolS_is {H : Heap} {q : Lf} {xs : List Bool} {k : Int} (h : RdBoolS H q xs) (hk : 0 ≤ k) (hk2 : k ≤ 2305843009213693952) (hn : xs.length ≤ 1048576) :
    run env 22 [.w (.lf q), .int k] H = some (.int (BoolS.hd xs k), H) := by
  obtain ⟨a, rfl, h⟩ := h
  exact heldBoolS H a xs k h hk (by omega) hn

theorem toPortS (H : Heap) (a : Option (Nat × Nat)) (xs : List Port) (h : Sl H 116 a (xs.map Port.enc)) (hn : xs.length ≤ 1048576) :
    run env 50 [.w (.lf (.sl a xs.length))] H = some (.sl H.length 0 xs.length, H ++ [some ⟨93, .wr, xs.map Port.enc⟩]) := by
  refine run_walk ok50 Try.func50 rfl (by simp [Try.f50]) fun Q hQ => ?_
  simp only [Try.f50, strip, stripL, stripI, stripG, chkT, tagsB, tagsL, tagD, addT, tagA, lookN, tagOp, elmT, ty28, ty32, ty34, ty43, ty48, ty74, ty75, ty76, ty81, ty82, ty83, Nat.reduceEqDiff, if_false, reduceIte, Option.getD_some, Option.getD_none, dstAt, dstOk, Nat.reduceLT, decide_true, if_true]
  have k1 : (xs.length : Int) * 80 ≤ 281474976710656 := by omega
  have k2 : (xs.length : Int) ≤ 9223372036854775807 := by omega
  have k3 : (xs.length : Int) ≤ 281474976710656 := by omega
  simp [builtinV, pureB, lenV, makeSliceV, makeSliceR, newBlk, k1, k2, k3]
  refine wpS_loop (fun j tm H' => ∃ i, i + j = xs.length ∧ tm 0 = .w (.lf (.sl a xs.length)) ∧ tm 3 = .sl H.length 0 xs.length ∧ tm 4 = .int i ∧ H' = H ++ [some ⟨93, .wr, fillR (xs.map Port.enc) Port.z i j⟩]) xs.length (by rw [env_K]; omega) ⟨0, by simp, by simp, by simp, by simp, by rw [fillR_zero _ _ (by simp)]⟩ ?_
  rintro j tm H' hj ⟨i, hij, h0, h3, h4, rfl⟩ Q' hn' he' hr'
  simp [h0, h3, h4, builtinV, pureB, lenV]
  refine selS_intro (fun hc => ?_) (fun hc => ?_)
  · simp at hc
    obtain ⟨j, rfl⟩ : ∃ j', j = j' + 1 := ⟨j - 1, by omega⟩
    obtain ⟨id, r, b, rfl, hb, hbe, hrow⟩ := h i _ (by simp [hc]; rfl)
    have hid := blkAt_len hb
    have g2 := fillR_get (ys := xs.map Port.enc) (z := Port.z) (i := i) (j := j) (by simpa using hij)
    have g3 := fillR_set (ys := xs.map Port.enc) (z := Port.z) (i := i) (j := j) (y := Port.enc xs[i]) (by simpa using hij) (by simp [hc])
    have g4 : IntKind.i64.wrap ((i : Int) + 1) = (i : Int) + 1 := wrap64 (by omega) (by omega)
    simp [h0, h3, h4, indexAddrV, elemIs, hid, hb, hbe, hc, hrow, toPort, g2, g3, g4]
    exact hn' j _ _ (by omega) ⟨i + 1, by omega, by simp [h0], by simp [h3], by simp, by simpa using congrArg (fun r => H ++ [some (⟨93, .wr, r⟩ : Blk)]) g3⟩
  · simp at hc
    have hj0 : j = 0 := by omega
    subst hj0
    simp [h0, h3, h4]
    refine he' _ _ _ ?_
    simp [h3]
    refine hQ _ _ _ (by simp) ?_
    simp [Try.f50, leave, fillR_done (ys := xs.map Port.enc) (i := i) (z := Port.z) (by simpa using hij), refFree]

theorem szPortS (H : Heap) (a : Option (Nat × Nat)) (n : Nat) (left : Int) (h1 : 0 ≤ left) (h2 : left ≤ 1048576) (h3 : n ≤ maxLen) :
    run env 49 [.w (.lf (.sl a n)), .int left] H = some (.int (if left < n then -1 else left - n), H) := by
  have hm : (n : Int) ≤ 9223372036854775807 := by unfold maxLen at h3; omega
  refine run_walk ok49 Try.func49 rfl (by simp [Try.f49]) fun Q hQ => ?_
  simp only [Try.f49, strip, stripL, stripI, stripG, chkT, tagsB, tagsL, tagD, addT, tagA, lookN, tagOp, elmT, ty28, ty32, ty34, ty43, ty48, ty74, ty75, ty76, ty81, ty82, ty83, Nat.reduceEqDiff, if_false, reduceIte, Option.getD_some, Option.getD_none, dstAt, dstOk, Nat.reduceLT, decide_true, if_true]
  have g : IntKind.i64.wrap (left - n) = left - n := wrap64 (by omega) (by omega)
  simp [builtinV, pureB, lenV, g]
  repeat' (first | (refine gdL_t (fun h => ?_) (fun h => ?_) <;> simp [h]) | (refine gdL_f (fun h => ?_) (fun h => ?_) <;> simp [h]) | (refine selS_intro (fun h => ?_) (fun h => ?_) <;> simp [h]))
  all_goals (refine hQ _ _ _ (by simp) ?_)
  all_goals (clear hQ; simp_all [Try.f49] <;> omega)

theorem eqPortS (H : Heap) (a b : Option (Nat × Nat)) (xs ys : List Port) (ha : Sl H 93 a (xs.map Port.enc)) (hb : Sl H 93 b (ys.map Port.enc)) (hn : xs.length ≤ 1048576) :
    run env 51 [.w (.lf (.sl a xs.length)), .w (.lf (.sl b ys.length))] H = some (.bool (decide (xs = ys)), H) := by
  refine run_walk ok51 Try.func51 rfl (by simp [Try.f51]) fun Q hQ => ?_
  simp only [Try.f51, strip, stripL, stripI, stripG, chkT, tagsB, tagsL, tagD, addT, tagA, lookN, tagOp, elmT, ty28, ty32, ty34, ty43, ty48, ty74, ty75, ty76, ty81, ty82, ty83, Nat.reduceEqDiff, if_false, reduceIte, Option.getD_some, Option.getD_none, dstAt, dstOk, Nat.reduceLT, decide_true, if_true]
  simp [builtinV, pureB, lenV]
  refine selS_intro (fun hl => ?_) (fun hl => ?_)
  · simp
    refine hQ _ _ _ (by simp) ?_
    simp at hl
    have : ¬ xs = ys := fun h => hl (by rw [h])
    simp [Try.f51, this]
  simp at hl
  simp
  refine wpS_loop (fun j tm H' => ∃ i, i + j = xs.length ∧ tm 0 = .w (.lf (.sl a xs.length)) ∧ tm 1 = .w (.lf (.sl b ys.length)) ∧ tm 5 = .int i ∧ H' = H ∧ xs.take i = ys.take i) xs.length (by rw [env_K]; omega) ⟨0, by simp, by simp, by simp, by simp, rfl, by simp⟩ ?_
  rintro j tm H' hj ⟨i, hij, h0, h1, h5, rfl, heq⟩ Q' hn' he' hr'
  simp [h0, h1, h5, builtinV, pureB, lenV]
  refine selS_intro (fun hc => ?_) (fun hc => ?_)
  · simp at hc
    have hc2 : i < ys.length := by omega
    obtain ⟨id, r, bl, rfl, hbl, hbe, hrow⟩ := ha i _ (by simp [hc]; rfl)
    obtain ⟨id2, r2, bl2, rfl, hbl2, hbe2, hrow2⟩ := hb i _ (by simp [hc2]; rfl)
    have g4 : IntKind.i64.wrap ((i : Int) + 1) = (i : Int) + 1 := wrap64 (by omega) (by omega)
    simp [h0, h1, h5, indexAddrV, elemIs, hbl, hbe, hbl2, hbe2, hc, hc2, hrow, hrow2, eqPort]
    refine selS_intro (fun hd => ?_) (fun hd => ?_)
    · simp
      refine hr' _ _ ?_
      simp
      refine hQ _ _ _ (by simp) ?_
      simp at hd
      have : ¬ xs = ys := fun h => by subst h; simp at hd
      simp [Try.f51, this]
    · simp at hd
      simp [h0, h1, h5, g4]
      exact hn' (j - 1) _ _ (by omega) ⟨i + 1, by omega, by simp [h0], by simp [h1], by simp, rfl, by rw [List.take_add_one, List.take_add_one, heq]; simp [hc, hc2, hd]⟩
  · simp at hc
    simp [h0, h1, h5]
    refine he' _ _ _ ?_
    simp
    refine hQ _ _ _ (by simp) ?_
    have : xs = ys := by
      rw [List.take_of_length_le (by omega), List.take_of_length_le (by omega)] at heq
      exact heq
    simp [Try.f51, this]

theorem markPortS (H : Heap) (a : Option (Nat × Nat)) (xs : List Port) (fp : List Nat) (k : Int) (h : Own H 93 a (xs.map Port.enc) fp) (hk : 0 ≤ k) (hk2 : k + 11 * xs.length ≤ 4611686018427387904) (hn : xs.length ≤ 1048576) :
    Runs env 52 [.w (.lf (.sl a xs.length)), .int k] H fun v H' => v = .int (k + 11 * xs.length) ∧ Own H' 93 a ((marked Port.mk' 11 xs.length k).map Port.enc) fp ∧ Keep fp H H' := by
  refine Runs.walk ok52 Try.func52 rfl (by simp [Try.f52]) fun Q hQ => ?_
  simp only [Try.f52, strip, stripL, stripI, stripG, chkT, tagsB, tagsL, tagD, addT, tagA, lookN, tagOp, elmT, ty28, ty32, ty34, ty43, ty48, ty74, ty75, ty76, ty81, ty82, ty83, Nat.reduceEqDiff, if_false, reduceIte, Option.getD_some, Option.getD_none, dstAt, dstOk, Nat.reduceLT, decide_true, if_true]
  simp
  refine wpS_loop (fun j tm H' => ∃ i, i + j = xs.length ∧ tm 0 = .w (.lf (.sl a xs.length)) ∧ tm 1 = .int (k + 11 * i) ∧ tm 5 = .int i ∧ Own H' 93 a ((marked Port.mk' 11 i k ++ xs.drop i).map Port.enc) fp ∧ Keep fp H H') xs.length (by rw [env_K]; omega) ⟨0, by simp, by simp, by simp, by simp, by simpa [marked] using h, Keep.refl _ _⟩ ?_
  rintro j tm H' hj ⟨i, hij, h0, h1, h5, ho, hkp⟩ Q' hn' he' hr'
  simp [h0, h1, h5, builtinV, pureB, lenV]
  refine selS_intro (fun hc => ?_) (fun hc => ?_)
  · simp at hc
    obtain ⟨id, b, rfl, rfl, hb, hbe, hm, hpre⟩ := ho.blk (by simp; omega)
    have hid := blkAt_len hb
    obtain ⟨t, ht⟩ := hpre
    obtain ⟨hi, hrow2⟩ := marked_at Port.mk' 11 Port.enc xs hc k ht
    have g4 : IntKind.i64.wrap ((i : Int) + 1) = (i : Int) + 1 := wrap64 (by omega) (by omega)
    obtain ⟨c, hcc⟩ : ∃ c, c = k + 11 * (i : Int) := ⟨_, rfl⟩
    rw [← hcc] at h1
    have w : ∀ d : Int, 0 ≤ d → d ≤ 100 → IntKind.i64.wrap (c + d) = c + d := fun d h1 h2 => wrap64 (by omega) (by omega)
    simp [h0, h1, h5, indexAddrV, elemIs, hid, hb, hbe, hm, hc, hi, hrow2, blkAt_set, Port.enc, w, Int.add_assoc, g4]
    refine hn' (j - 1) _ _ (by omega) ⟨i + 1, by omega, by simp [h0], by simp [hcc]; omega, by simp, ?_, ?_⟩
    · have := ho.set (row := Port.enc (Port.mk' c)) hb (i := i) (by simp; omega)
      have e := marked_put Port.mk' 11 Port.enc xs hc k
      rw [← hcc] at e
      rw [e, hm, hbe] at this
      simpa [Port.enc, Port.mk'] using this
    · exact hkp.trans (Keep.set _ _) (by simp) (by simp)
  · simp at hc
    obtain rfl : i = xs.length := by omega
    simp [h0, h1, h5]
    refine he' _ _ _ ?_
    simp [h1]
    refine hQ _ _ _ (by simp) ?_
    simp [Try.f52]
    exact ⟨leave_own (by simpa using ho) h.lt, leave_keep' hkp⟩

abbrev IsPortS := IsSl 93 Port.enc
abbrev RdPortS := RdSl 93 Port.enc
abbrev RdLPortS := RdSl 116 Port.enc
def PortS.mk' (xs : List Port) (k : Int) : List Port := marked Port.mk' 11 xs.length k
def PortS.mkN (xs : List Port) (k : Int) : Int := k + 11 * xs.length
def PortS.hd (xs : List Port) (k : Int) : Int := heldL Port.mk' 11 xs k
theorem PortS.hd_mk (xs : List Port) (k : Int) : PortS.hd (PortS.mk' xs k) k = PortS.mkN xs k := by simp [PortS.hd, PortS.mk', PortS.mkN]
theorem PortS.mk_sz (xs : List Port) (k : Int) : (PortS.mk' xs k).length = xs.length := by simp [PortS.mk']
theorem PortS.mkN_le {xs : List Port} {k : Int} (h : xs.length ≤ 1048576) : k ≤ PortS.mkN xs k ∧ PortS.mkN xs k ≤ k + 1000000000 := by unfold PortS.mkN; omega

theorem markPortS_is {H : Heap} {q : Lf} {xs : List Port} {fp : List Nat} {k : Int} (h : IsPortS H q xs fp) (hk : 0 ≤ k) (hk2 : k ≤ 2305843009213693952) (hn : xs.length ≤ 1048576) :
    Runs env 52 [.w (.lf q), .int k] H fun v H' => v = .int (PortS.mkN xs k) ∧ IsPortS H' q (PortS.mk' xs k) fp ∧ Keep fp H H' := by
  obtain ⟨a, rfl, h⟩ := h
  exact (markPortS H a xs fp k h hk (by omega) hn).mono fun v H' ⟨h1, h2, h3⟩ => ⟨h1, ⟨a, by simp [PortS.mk'], h2⟩, h3⟩

structure Bridge where
  id : Int
  ports : List Port
  deriving DecidableEq, Inhabited
def Bridge.enc (b : Bridge) (a : Option (Nat × Nat)) : List Lf := [.i .i64 b.id, .sl a b.ports.length]
@[simp] theorem Bridge.enc_len (b : Bridge) (a : Option (Nat × Nat)) : (b.enc a).length = 2 := rfl
@[simp] theorem Bridge.enc_take (b : Bridge) (a : Option (Nat × Nat)) : List.take 2 (b.enc a) = b.enc a := rfl

theorem szBridge (H : Heap) (a : Option (Nat × Nat)) (b : Bridge) (left : Int) (h1 : 0 ≤ left) (h2 : left ≤ 1048576) (h3 : b.ports.length ≤ maxLen) :
    run env 14 [.agg (b.enc a), .int left] H = some (.int (if left < b.ports.length then -1 else left - b.ports.length), H) := by
  have e := fun H => szPortS H a b.ports.length left h1 h2 h3
  refine run_walk ok14 Try.func14 rfl (by simp [Try.f14]) fun Q hQ => ?_
  simp only [Try.f14, strip, stripL, stripI, stripG, chkT, tagsB, tagsL, tagD, addT, tagA, lookN, tagOp, elmT, ty28, ty32, ty34, ty43, ty48, ty74, ty75, ty76, ty81, ty82, ty83, Nat.reduceEqDiff, if_false, reduceIte, Option.getD_some, Option.getD_none, dstAt, dstOk, Nat.reduceLT, decide_true, if_true]
  simp [Bridge.enc, e]
  repeat' (first | (refine gdL_t (fun h => ?_) (fun h => ?_) <;> simp [h]) | (refine gdL_f (fun h => ?_) (fun h => ?_) <;> simp [h]) | (refine selS_intro (fun h => ?_) (fun h => ?_) <;> simp [h]))
  all_goals (refine hQ _ _ _ (by simp) ?_)
  all_goals (clear hQ; simp_all [Try.f14] <;> omega)

theorem toBridge (H : Heap) (a : Option (Nat × Nat)) (b : Bridge) (h : Sl H 116 a (b.ports.map Port.enc)) (hn : b.ports.length ≤ 1048576) :
    Runs env 16 [.agg (b.enc a)] H fun v H' => ∃ a' fp, v = .agg (b.enc a') ∧ Own H' 93 a' (b.ports.map Port.enc) fp ∧ Fresh H H' fp := by
  have e := fun H h => toPortS H a b.ports h hn
  refine Runs.walk ok16 Try.func16 rfl (by simp [Try.f16]) fun Q hQ => ?_
  simp only [Try.f16, strip, stripL, stripI, stripG, chkT, tagsB, tagsL, tagD, addT, tagA, lookN, tagOp, elmT, ty28, ty32, ty34, ty43, ty48, ty74, ty75, ty76, ty81, ty82, ty83, Nat.reduceEqDiff, if_false, reduceIte, Option.getD_some, Option.getD_none, dstAt, dstOk, Nat.reduceLT, decide_true, if_true]
  simp [Bridge.enc]
  rw [e _ (by simpa using h.app _)]
  simp
  refine hQ _ _ _ (by simp) ?_
  simp [Try.f16, leave, refFree, Bridge.enc]
  exact ⟨_, Own.of (by simp), Fresh.app _ _ (by simp)⟩

theorem eqBridge (H : Heap) (a b : Option (Nat × Nat)) (m n : Bridge) (ha : Sl H 93 a (m.ports.map Port.enc)) (hb : Sl H 93 b (n.ports.map Port.enc)) (hn : m.ports.length ≤ 1048576) :
    run env 19 [.agg (m.enc a), .agg (n.enc b)] H = some (.bool (decide (m = n)), H) := by
  have e := fun G => eqPortS (H ++ G) a b m.ports n.ports (ha.app _) (hb.app _) hn
  obtain ⟨a1, a2⟩ := m
  obtain ⟨b1, b2⟩ := n
  simp only at e
  refine run_walk ok19 Try.func19 rfl (by simp [Try.f19]) fun Q hQ => ?_
  simp only [Try.f19, strip, stripL, stripI, stripG, chkT, tagsB, tagsL, tagD, addT, tagA, lookN, tagOp, elmT, ty28, ty32, ty34, ty43, ty48, ty74, ty75, ty76, ty81, ty82, ty83, Nat.reduceEqDiff, if_false, reduceIte, Option.getD_some, Option.getD_none, dstAt, dstOk, Nat.reduceLT, decide_true, if_true]
  simp [Bridge.enc]
  repeat' (first | (refine gdL_t (fun h => ?_) (fun h => ?_) <;> simp [h, e]) | (refine gdL_f (fun h => ?_) (fun h => ?_) <;> simp [h, e]) | (refine selS_intro (fun h => ?_) (fun h => ?_) <;> simp [h, e]))
  all_goals (refine hQ _ _ _ (by simp) ?_)
  all_goals (clear hQ; simp_all [Try.f19])

theorem shpBridge {H : Heap} {k : Nat} {l : List Lf} (h : Shp Try.prog H (k + 5) 30 l) : ∃ (b : Bridge) (a : Option (Nat × Nat)), l = b.enc a ∧ Sl H 116 a (b.ports.map Port.enc) ∧ b.ports.length ≤ maxLen := by
  obtain ⟨_, _, rfl, h1, _, _, rfl, h2, rfl⟩ := h.struct Try.underlying30
  obtain ⟨x1, rfl, -⟩ := h1.i64 Try.underlying3
  obtain ⟨xs, a, rfl, hs, hl, -⟩ := h2.sl (f := Port.enc) (R := fun _ => True) Try.underlying28 fun row hr => let ⟨x, hx⟩ := shpPort hr; ⟨x, hx, trivial⟩
  exact ⟨⟨x1, xs⟩, a, rfl, hs, hl⟩

def IsBridge (H : Heap) (l : List Lf) (x : Bridge) (fp : List Nat) : Prop := ∃ a, l = x.enc a ∧ Own H 93 a (x.ports.map Port.enc) fp
def RdBridge (H : Heap) (l : List Lf) (x : Bridge) : Prop := ∃ a, l = x.enc a ∧ Sl H 93 a (x.ports.map Port.enc)
def RdLBridge (H : Heap) (l : List Lf) (x : Bridge) : Prop := ∃ a, l = x.enc a ∧ Sl H 116 a (x.ports.map Port.enc)
abbrev Bridge.sz (x : Bridge) : Nat := x.ports.length
def Bridge.fit (x : Bridge) : Prop := x.ports.length ≤ maxLen
section
variable {H H' : Heap} {l : List Lf} {x : Bridge} {fp : List Nat}
theorem IsBridge.keep {f : List Nat} (h : IsBridge H l x fp) (hk : Keep f H H') (hd : ∀ i ∈ fp, i ∉ f) : IsBridge H' l x fp := let ⟨a, h1, h2⟩ := h; ⟨a, h1, h2.keep hk hd⟩
theorem IsBridge.app (h : IsBridge H l x fp) (G : Heap) : IsBridge (H ++ G) l x fp := let ⟨a, h1, h2⟩ := h; ⟨a, h1, h2.app G⟩
theorem IsBridge.lt (h : IsBridge H l x fp) : ∀ i ∈ fp, i < H.length := let ⟨_, _, h2⟩ := h; h2.lt
theorem IsBridge.nodup (h : IsBridge H l x fp) : fp.Nodup := let ⟨_, _, h2⟩ := h; h2.nodup
theorem IsBridge.rd (h : IsBridge H l x fp) : RdBridge H l x := let ⟨a, h1, h2⟩ := h; ⟨a, h1, h2.sl⟩
theorem RdBridge.base (h : RdBridge H l x) (hk : Keep [] H H') : RdBridge H' l x := let ⟨a, h1, h2⟩ := h; ⟨a, h1, h2.keep hk (by simp)⟩
theorem RdBridge.app (h : RdBridge H l x) (G : Heap) : RdBridge (H ++ G) l x := h.base (Keep.app _ _ _)
theorem RdLBridge.base (h : RdLBridge H l x) (hk : Keep [] H H') : RdLBridge H' l x := let ⟨a, h1, h2⟩ := h; ⟨a, h1, h2.keep hk (by simp)⟩
theorem RdLBridge.app (h : RdLBridge H l x) (G : Heap) : RdLBridge (H ++ G) l x := h.base (Keep.app _ _ _)
theorem IsBridge.len (h : IsBridge H l x fp) : l.length = 2 := by obtain ⟨a, rfl, -⟩ := h; rfl
theorem RdLBridge.len (h : RdLBridge H l x) : l.length = 2 := by obtain ⟨a, rfl, -⟩ := h; rfl
theorem RdBridge.len (h : RdBridge H l x) : l.length = 2 := by obtain ⟨a, rfl, -⟩ := h; rfl
theorem IsBridge.free (h : IsBridge H' l x fp) (hr : l.all refFree = true) (H2 : Heap) : IsBridge H2 l x [] := by
  obtain ⟨a, rfl, h2⟩ := h
  exact ⟨a, rfl, h2.free (n := x.ports.length) (by simp [Bridge.enc] at hr; exact hr) H2⟩
theorem IsBridge.leave {ws : List W} (h : IsBridge H' l x fp) (hf : Fresh H H' fp) (hw : ws.all W.free = true → l.all refFree = true) : ∃ fp', IsBridge (leave H H' ws) l x fp' ∧ Fresh H (leave H H' ws) fp' := by
  rcases leave_opt H H' ws with e | ⟨e, hr⟩ <;> rw [e]
  · exact ⟨fp, h, hf⟩
  · exact ⟨[], h.free (hw hr) H, Fresh.refl H⟩
end

def Bridge.mk' (x : Bridge) (k : Int) : Bridge := { x with ports := PortS.mk' x.ports k }
def Bridge.mkN (x : Bridge) (k : Int) : Int := PortS.mkN x.ports k
def Bridge.hd (x : Bridge) (k : Int) : Int := PortS.hd x.ports k
theorem Bridge.hd_mk (x : Bridge) (k : Int) : (x.mk' k).hd k = x.mkN k := PortS.hd_mk _ _
theorem Bridge.mk_sz (x : Bridge) (k : Int) : (x.mk' k).sz = x.sz := PortS.mk_sz _ _
theorem Bridge.mkN_le {x : Bridge} {k : Int} (h : x.sz ≤ 1048576) : k ≤ x.mkN k ∧ x.mkN k ≤ k + 1000000000 := PortS.mkN_le h

theorem szBridge_is {H : Heap} {l : List Lf} {x : Bridge} (h : RdLBridge H l x) (hf : x.fit) {left : Int} (h1 : 0 ≤ left) (h2 : left ≤ 1048576) (G : Heap) :
    run env 14 [.agg l, .int left] (H ++ G) = some (.int (if left < x.sz then -1 else left - x.sz), H ++ G) := by
  obtain ⟨a, rfl, h⟩ := h
  exact szBridge _ a x left h1 h2 hf

theorem toBridge_is {H : Heap} {l : List Lf} {x : Bridge} (h : RdLBridge H l x) (hn : x.sz ≤ 1048576) : Runs env 16 [.agg l] H fun v H' => ∃ l' fp, v = .agg l' ∧ IsBridge H' l' x fp ∧ Fresh H H' fp := by
  obtain ⟨a, rfl, h⟩ := h
  exact (toBridge H a x h hn).mono fun v H' ⟨a', fp, h1, h2, h3⟩ => ⟨_, fp, h1, ⟨a', rfl, h2⟩, h3⟩

theorem eqBridge_is {H : Heap} {l r : List Lf} {x y : Bridge} (h : RdBridge H l x) (h2 : RdBridge H r y) (hn : x.sz ≤ 1048576) : run env 19 [.agg l, .agg r] H = some (.bool (decide (x = y)), H) := by
  obtain ⟨a, rfl, h⟩ := h
  obtain ⟨b, rfl, h2⟩ := h2
  exact eqBridge H a b x y h h2 hn

theorem markBridge_is {H : Heap} {l : List Lf} {x : Bridge} {fp : List Nat} {k : Int} (h : IsBridge H l x fp) (hk : 0 ≤ k) (hk2 : k ≤ 2305843009213693952) (hn : x.sz ≤ 1048576) :
    Runs env 20 [.agg l, .int k] H fun v H' => v = .int (x.mkN k) ∧ IsBridge H' l (x.mk' k) fp ∧ Keep fp H H' := by
  obtain ⟨a, rfl, h⟩ := h
  refine Runs.walk ok20 Try.func20 rfl (by simp [Try.f20]) fun Q hQ => ?_
  simp only [Try.f20, strip, stripL, stripI, stripG, chkT, tagsB, tagsL, tagD, addT, tagA, lookN, tagOp, elmT, ty28, ty32, ty34, ty43, ty48, ty74, ty75, ty76, ty81, ty82, ty83, Nat.reduceEqDiff, if_false, reduceIte, Option.getD_some, Option.getD_none, dstAt, dstOk, Nat.reduceLT, decide_true, if_true]
  simp [Bridge.enc]
  refine stpL_runs (markPortS_is (q := .sl a x.ports.length) ⟨a, rfl, h.app _⟩ hk hk2 hn) fun v H' hh => ?_
  obtain ⟨rfl, ⟨a', ha, ho⟩, hkp⟩ := hh
  injection ha with ha
  subst ha
  simp
  refine hQ _ _ _ (by simp) ?_
  simp [Try.f20]
  exact ⟨rfl, ⟨a, by simp [Bridge.mk', Bridge.enc, PortS.mk_sz], leave_own ho h.lt⟩, leave_keep' hkp.base⟩

theorem shpBridge_is {H : Heap} {k : Nat} {l : List Lf} (h : Shp Try.prog H (k + 5) 30 l) : ∃ x : Bridge, RdLBridge H l x ∧ x.fit := by
  obtain ⟨x, a, rfl, hs, hl⟩ := shpBridge h
  exact ⟨x, ⟨a, rfl, hs⟩, hl⟩

def gates (b : Bridge) : List Bool := b.ports.map Port.opn
@[simp] theorem gates_len (b : Bridge) : (gates b).length = b.ports.length := by simp [gates]

theorem implGates (H : Heap) (a : Option (Nat × Nat)) (b : Bridge) (h : Sl H 93 a (b.ports.map Port.enc)) (hn : b.ports.length ≤ 1048576) :
    Runs env 17 [.agg (b.enc a)] H fun v H' => ∃ a' fp, v = .w (.lf (.sl a' (gates b).length)) ∧ Own H' 4 a' ((gates b).map encB) fp ∧ Fresh H H' fp := by
  refine Runs.walk ok17 Try.func17 rfl (by simp [Try.f17]) fun Q hQ => ?_
  simp only [Try.f17, strip, stripL, stripI, stripG, chkT, tagsB, tagsL, tagD, addT, tagA, lookN, tagOp, elmT, ty28, ty32, ty34, ty43, ty48, ty74, ty75, ty76, ty81, ty82, ty83, Nat.reduceEqDiff, if_false, reduceIte, Option.getD_some, Option.getD_none, dstAt, dstOk, Nat.reduceLT, decide_true, if_true]
  simp [Bridge.enc, builtinV, pureB, lenV]
  refine wpS_loop (fun j tm H' => ∃ i a' fp, i + j = b.ports.length ∧ tm 7 = .w (.lf (.sl a b.ports.length)) ∧ tm 8 = .int b.ports.length ∧ tm 9 = .int i ∧ tm 3 = .w (.lf (.sl a' i)) ∧ Own H' 4 a' (((gates b).take i).map encB) fp ∧ Fresh H H' fp) b.ports.length (by rw [env_K]; omega)
    ⟨0, none, [], by simp, by simp, by simp, by simp, by simp, Own.nil _ _, Fresh.app _ _ (by simp)⟩ ?_
  rintro j tm H' hj ⟨i, a', fp, hij, h7, h8, h9, h3, ho, ⟨⟨G, rfl⟩, hf⟩⟩ Q' hn' he' hr'
  simp [h7, h8, h9]
  refine selS_intro (fun hc => ?_) (fun hc => ?_)
  · simp at hc
    obtain ⟨id, r, bl, rfl, hbl, hbe, hrow⟩ := h i _ (by simp [hc]; rfl)
    have hid := blkAt_len hbl
    have g4 : IntKind.i64.wrap ((i : Int) + 1) = (i : Int) + 1 := wrap64 (by omega) (by omega)
    simp [h7, h8, h9, h3, indexAddrV, elemIs, hid, hbl, hbe, hc, hrow, Port.enc]
    refine stpL_append (rows := ((gates b).take i).map encB) (ys := [[.b b.ports[i].opn]]) (ho.app2 _) (Sl.of (by simp)) rfl rfl rfl (by simp) (by simp; omega) (by simp; omega) rfl fun a'' H'' fp'' ho'' hk'' hf'' => ?_
    simp [h7, h8, h9, g4]
    refine hn' (j - 1) _ _ (by omega) ⟨i + 1, a'', fp'', by omega, by simp [h7], by simp [h8], by simp, by simp, ?_, Fresh.grow hf hk'' hf''⟩
    simpa [List.take_add_one, gates, hc, encB] using ho''
  · simp at hc
    obtain rfl : i = b.ports.length := by omega
    simp [h7, h8, h9]
    refine he' _ _ _ ?_
    simp [h3]
    refine hQ _ _ _ (by simp) ?_
    rw [List.take_of_length_le (by simp)] at ho
    simp [Try.f17]
    exact leave_got (n := b.ports.length) ho (Fresh.app _ _ hf) (by simp)

theorem specGates (H : Heap) (a : Option (Nat × Nat)) (b : Bridge) (h : Sl H 93 a (b.ports.map Port.enc)) (hn : b.ports.length ≤ 1048576) :
    Runs env 15 [.agg (b.enc a)] H fun v H' => ∃ a' fp, v = .w (.lf (.sl a' (gates b).length)) ∧ Own H' 4 a' ((gates b).map encB) fp ∧ Fresh H H' fp := by
  refine Runs.walk ok15 Try.func15 rfl (by simp [Try.f15]) fun Q hQ => ?_
  simp only [Try.f15, strip, stripL, stripI, stripG, chkT, tagsB, tagsL, tagD, addT, tagA, lookN, tagOp, elmT, ty28, ty32, ty34, ty43, ty48, ty74, ty75, ty76, ty81, ty82, ty83, Nat.reduceEqDiff, if_false, reduceIte, Option.getD_some, Option.getD_none, dstAt, dstOk, Nat.reduceLT, decide_true, if_true]
  simp [Bridge.enc, builtinV, pureB, lenV]
  obtain ⟨H1, hH1⟩ : ∃ H1, H1 = H ++ [some ⟨36, .wr, [[.i .i64 b.id, .sl a b.ports.length]]⟩] := ⟨_, rfl⟩
  have hb1 : blkAt H1 H.length = some ⟨36, .wr, [[.i .i64 b.id, .sl a b.ports.length]]⟩ := by simp [hH1]
  have hl1 := blkAt_len hb1
  have h1 : Sl H1 93 a (b.ports.map Port.enc) := by rw [hH1]; exact h.app _
  refine wpS_loop (fun j tm H' => ∃ i a' fp, i + j = b.ports.length ∧ tm 1 = .ptr H.length 0 0 ∧ tm 4 = .int i ∧ tm 3 = .w (.lf (.sl a' i)) ∧ Own H' 4 a' (((gates b).take i).map encB) fp ∧ Fresh H1 H' fp) b.ports.length (by rw [env_K]; omega)
    ⟨0, some (H.length + 1, 0), [H.length + 1], by simp, by simp, by simp, by simp, Own.of (by simp), ⟨[some ⟨4, .wr, []⟩], by simp [hH1]⟩, by simp [hH1]⟩ ?_
  rintro j tm H' hj ⟨i, a', fp, hij, t1, t4, t3, ho, ⟨⟨G, rfl⟩, hf⟩⟩ Q' hn' he' hr'
  simp [t1, t4, t3, hb1, hl1, builtinV, pureB, lenV]
  refine selS_intro (fun hc => ?_) (fun hc => ?_)
  · simp at hc
    obtain ⟨id, r, bl, rfl, hbl, hbe, hrow⟩ := h1 i _ (by simp [hc]; rfl)
    have hid := blkAt_len hbl
    have g4 : IntKind.i64.wrap ((i : Int) + 1) = (i : Int) + 1 := wrap64 (by omega) (by omega)
    simp [t1, t4, t3, hb1, hl1, indexAddrV, elemIs, hid, hbl, hbe, hc, hrow, Port.enc]
    refine stpL_append (rows := ((gates b).take i).map encB) (ys := [[.b b.ports[i].opn]]) (ho.app2 _) (Sl.of (by simp)) rfl rfl rfl (by simp) (by simp; omega) (by simp; omega) rfl fun a'' H'' fp'' ho'' hk'' hf'' => ?_
    simp [t1, t4, g4]
    refine hn' (j - 1) _ _ (by omega) ⟨i + 1, a'', fp'', by omega, by simp [t1], by simp, by simp, ?_, Fresh.grow hf hk'' hf''⟩
    simpa [List.take_add_one, gates, hc, encB] using ho''
  · simp at hc
    obtain rfl : i = b.ports.length := by omega
    simp [t1, t4, t3]
    refine he' _ _ _ ?_
    simp [t3]
    refine hQ _ _ _ (by simp) ?_
    rw [List.take_of_length_le (by simp)] at ho
    have hf : Fresh H (H1 ++ G) fp := by
      have := Fresh.app H1 G hf
      rw [hH1] at this ⊢
      exact this.base
    simp [Try.f15]
    exact leave_got (n := b.ports.length) ho hf (by simp)

theorem implGates_is {H : Heap} {l : List Lf} {b : Bridge} (h : RdBridge H l b) (hn : b.sz ≤ 1048576) : Runs env 17 [.agg l] H fun v H' => ∃ q fp, v = .w (.lf q) ∧ IsBoolS H' q (gates b) fp ∧ Fresh H H' fp := by
  obtain ⟨a, rfl, h⟩ := h
  exact (implGates H a b h hn).mono fun v H' ⟨a', fp, h1, h2, h3⟩ => ⟨_, fp, h1, ⟨a', rfl, h2⟩, h3⟩

theorem specGates_is {H : Heap} {l : List Lf} {b : Bridge} (h : RdBridge H l b) (hn : b.sz ≤ 1048576) : Runs env 15 [.agg l] H fun v H' => ∃ q fp, v = .w (.lf q) ∧ IsBoolS H' q (gates b) fp ∧ Fresh H H' fp := by
  obtain ⟨a, rfl, h⟩ := h
  exact (specGates H a b h hn).mono fun v H' ⟨a', fp, h1, h2, h3⟩ => ⟨_, fp, h1, ⟨a', rfl, h2⟩, h3⟩
end W
end Go.Proofs.Ytonkofgdncgolaa

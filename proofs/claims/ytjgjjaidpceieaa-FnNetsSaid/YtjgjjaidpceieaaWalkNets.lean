/- The functions that this law reaches: what each computes. Conditions: those that each theorem names. -/
import Derived.Test.YtjgjjaidpceieaaAbEnvNets
set_option maxRecDepth 100000
set_option maxHeartbeats 4000000
set_option linter.unusedSimpArgs false
set_option linter.unusedVariables false
set_option linter.unnecessarySimpa false
namespace Go.Proofs.Ytjgjjaidpceieaa
open Go Go.Ab Go.ChangeShapes Go.WideShapes Go.ChangeAt Go.RowKit
namespace W
theorem inRange (H : Heap) (n a b : Int) : run env 57 [.int n, .int a, .int b] H = some (.bool (decide (a ≤ n) && decide (n ≤ b)), H) := by
  refine run_walk ok57 Try.func57 rfl (by simp [Try.f57]) fun Q hQ => ?_
  simp only [Try.f57, strip, stripL, stripI, stripG, chkT, tagsB, tagsL, tagD, addT, tagA, lookN, tagOp, elmT, ty22, ty24, ty25, ty33, ty54, ty58, ty95, ty122, Nat.reduceEqDiff, if_false, reduceIte, Option.getD_some, Option.getD_none, dstAt, dstOk, Nat.reduceLT, decide_true, if_true]
  simp
  repeat' (first | (refine gdL_t (fun h => ?_) (fun h => ?_) <;> simp [h]) | (refine gdL_f (fun h => ?_) (fun h => ?_) <;> simp [h]) | (refine selS_intro (fun h => ?_) (fun h => ?_) <;> simp [h]))
  all_goals (refine hQ _ _ _ (by simp) ?_)
  all_goals (clear hQ; simp_all [Try.f57] <;> omega)

theorem l1In (H : Heap) (n a b : Int) : run env 77 [.int n, .int a, .int b] H = some (.bool (decide (a ≤ n) && decide (n ≤ b)), H) := by
  refine run_walk ok77 Try.func77 rfl (by simp [Try.f77]) fun Q hQ => ?_
  simp only [Try.f77, strip, stripL, stripI, stripG, chkT, tagsB, tagsL, tagD, addT, tagA, lookN, tagOp, elmT, ty22, ty24, ty25, ty33, ty54, ty58, ty95, ty122, Nat.reduceEqDiff, if_false, reduceIte, Option.getD_some, Option.getD_none, dstAt, dstOk, Nat.reduceLT, decide_true, if_true]
  simp
  repeat' (first | (refine gdL_t (fun h => ?_) (fun h => ?_) <;> simp [h]) | (refine gdL_f (fun h => ?_) (fun h => ?_) <;> simp [h]) | (refine selS_intro (fun h => ?_) (fun h => ?_) <;> simp [h]))
  all_goals (refine hQ _ _ _ (by simp) ?_)
  all_goals (clear hQ; simp_all [Try.f77] <;> omega)

theorem isPort (H : Heap) (n : Int) : run env 113 [.int n] H = some (.bool (decide (0 ≤ n) && decide (n ≤ 3)), H) := by
  refine run_walk ok113 Try.func113 rfl (by simp [Try.f113]) fun Q hQ => ?_
  simp only [Try.f113, strip, stripL, stripI, stripG, chkT, tagsB, tagsL, tagD, addT, tagA, lookN, tagOp, elmT, ty22, ty24, ty25, ty33, ty54, ty58, ty95, ty122, Nat.reduceEqDiff, if_false, reduceIte, Option.getD_some, Option.getD_none, dstAt, dstOk, Nat.reduceLT, decide_true, if_true]
  simp [inRange]
  all_goals (refine hQ _ _ _ (by simp) ?_)
  all_goals (clear hQ; simp [Try.f113])

theorem isHops (H : Heap) (n : Int) : run env 115 [.int n] H = some (.bool (decide (0 ≤ n) && decide (n ≤ 8)), H) := by
  refine run_walk ok115 Try.func115 rfl (by simp [Try.f115]) fun Q hQ => ?_
  simp only [Try.f115, strip, stripL, stripI, stripG, chkT, tagsB, tagsL, tagD, addT, tagA, lookN, tagOp, elmT, ty22, ty24, ty25, ty33, ty54, ty58, ty95, ty122, Nat.reduceEqDiff, if_false, reduceIte, Option.getD_some, Option.getD_none, dstAt, dstOk, Nat.reduceLT, decide_true, if_true]
  simp [inRange]
  all_goals (refine hQ _ _ _ (by simp) ?_)
  all_goals (clear hQ; simp [Try.f115])

structure Vec where
  root : Int
  cost : Int
  bridge : Int
  port : Int
  deriving DecidableEq, Inhabited
def Vec.enc (x : Vec) : List Lf := [.i .i64 x.root, .i .i64 x.cost, .i .i64 x.bridge, .i .i64 x.port]
@[simp] theorem Vec.enc_len (x : Vec) : x.enc.length = 4 := rfl
@[simp] theorem Vec.enc_take (x : Vec) : List.take 4 x.enc = x.enc := rfl
@[simp] theorem Vec.enc_drop (x : Vec) : List.drop 4 x.enc = [] := rfl
abbrev Vec.z : List Lf := [.i .i64 0, .i .i64 0, .i .i64 0, .i .i64 0]
abbrev Vec.zv : Vec := ⟨0, 0, 0, 0⟩
theorem Vec.enc_inj {x y : Vec} (h : x.enc = y.enc) : x = y := by
  obtain ⟨_, _, _, _⟩ := x
  obtain ⟨_, _, _, _⟩ := y
  simp [Vec.enc] at h
  simp_all
def Vec.mk' (k : Int) : Vec := ⟨k, k + 1, k + 2, k + 3⟩
theorem Vec.mk'_of {y : Vec} {c : Int} (h0 : y.root = c) (h1 : y.cost = c + 1) (h2 : y.bridge = c + 2) (h3 : y.port = c + 3) : y = Vec.mk' c := by
  rcases y with ⟨w0, v1, v2, v3⟩
  simp only at h0 h1 h2 h3
  subst h0 h1 h2 h3
  rfl

structure Port where
  up : Bool
  has : Bool
  vec : Vec
  hops : Int
  left : Int
  role : Int
  wait : Int
  opn : Bool
  deriving DecidableEq, Inhabited
def Port.enc (x : Port) : List Lf := [.b x.up, .b x.has, .i .i64 x.vec.root, .i .i64 x.vec.cost, .i .i64 x.vec.bridge, .i .i64 x.vec.port, .i .i64 x.hops, .i .i64 x.left, .i .i64 x.role, .i .i64 x.wait, .b x.opn]
@[simp] theorem Port.enc_len (x : Port) : x.enc.length = 11 := rfl
@[simp] theorem Port.enc_take (x : Port) : List.take 11 x.enc = x.enc := rfl
@[simp] theorem Port.enc_drop (x : Port) : List.drop 11 x.enc = [] := rfl
abbrev Port.z : List Lf := [.b false, .b false, .i .i64 0, .i .i64 0, .i .i64 0, .i .i64 0, .i .i64 0, .i .i64 0, .i .i64 0, .i .i64 0, .b false]
abbrev Port.zv : Port := ⟨false, false, ⟨0, 0, 0, 0⟩, 0, 0, 0, 0, false⟩
theorem Port.enc_inj {x y : Port} (h : x.enc = y.enc) : x = y := by
  rcases x with ⟨v0, v1, ⟨v2_0, v2_1, v2_2, v2_3⟩, v3, v4, v5, v6, v7⟩
  rcases y with ⟨w0, v1, ⟨v2_0, v2_1, v2_2, v2_3⟩, v3, v4, v5, v6, v7⟩
  simp [Port.enc] at h
  simp_all
def Port.mk' (k : Int) : Port := ⟨decide ((k).tmod 3 = 0), decide ((k + 1).tmod 3 = 0), ⟨k + 2, k + 3, k + 4, k + 5⟩, k + 6, k + 7, k + 8, k + 9, decide ((k + 10).tmod 3 = 0)⟩
theorem Port.mk'_of {y : Port} {c : Int} (h0 : y.up = decide ((c).tmod 3 = 0)) (h1 : y.has = decide ((c + 1).tmod 3 = 0)) (h2 : y.vec.root = c + 2) (h3 : y.vec.cost = c + 3) (h4 : y.vec.bridge = c + 4) (h5 : y.vec.port = c + 5) (h6 : y.hops = c + 6) (h7 : y.left = c + 7) (h8 : y.role = c + 8) (h9 : y.wait = c + 9) (h10 : y.opn = decide ((c + 10).tmod 3 = 0)) : y = Port.mk' c := by
  rcases y with ⟨w0, v1, ⟨v2_0, v2_1, v2_2, v2_3⟩, v3, v4, v5, v6, v7⟩
  simp only at h0 h1 h2 h3 h4 h5 h6 h7 h8 h9 h10
  subst h0 h1 h2 h3 h4 h5 h6 h7 h8 h9 h10
  rfl

structure In where
  kind : Int
  port : Int
  vec : Vec
  hops : Int
  up : Bool
  deriving DecidableEq, Inhabited
def In.enc (x : In) : List Lf := [.i .i64 x.kind, .i .i64 x.port, .i .i64 x.vec.root, .i .i64 x.vec.cost, .i .i64 x.vec.bridge, .i .i64 x.vec.port, .i .i64 x.hops, .b x.up]
@[simp] theorem In.enc_len (x : In) : x.enc.length = 8 := rfl
@[simp] theorem In.enc_take (x : In) : List.take 8 x.enc = x.enc := rfl
@[simp] theorem In.enc_drop (x : In) : List.drop 8 x.enc = [] := rfl
abbrev In.z : List Lf := [.i .i64 0, .i .i64 0, .i .i64 0, .i .i64 0, .i .i64 0, .i .i64 0, .i .i64 0, .b false]
abbrev In.zv : In := ⟨0, 0, ⟨0, 0, 0, 0⟩, 0, false⟩
theorem In.enc_inj {x y : In} (h : x.enc = y.enc) : x = y := by
  rcases x with ⟨v0, v1, ⟨v2_0, v2_1, v2_2, v2_3⟩, v3, v4⟩
  rcases y with ⟨w0, v1, ⟨v2_0, v2_1, v2_2, v2_3⟩, v3, v4⟩
  simp [In.enc] at h
  simp_all
def In.mk' (k : Int) : In := ⟨k, k + 1, ⟨k + 2, k + 3, k + 4, k + 5⟩, k + 6, decide ((k + 7).tmod 3 = 0)⟩
theorem In.mk'_of {y : In} {c : Int} (h0 : y.kind = c) (h1 : y.port = c + 1) (h2 : y.vec.root = c + 2) (h3 : y.vec.cost = c + 3) (h4 : y.vec.bridge = c + 4) (h5 : y.vec.port = c + 5) (h6 : y.hops = c + 6) (h7 : y.up = decide ((c + 7).tmod 3 = 0)) : y = In.mk' c := by
  rcases y with ⟨w0, v1, ⟨v2_0, v2_1, v2_2, v2_3⟩, v3, v4⟩
  simp only at h0 h1 h2 h3 h4 h5 h6 h7
  subst h0 h1 h2 h3 h4 h5 h6 h7
  rfl

structure Out where
  kind : Int
  port : Int
  vec : Vec
  hops : Int
  on : Bool
  deriving DecidableEq, Inhabited
def Out.enc (x : Out) : List Lf := [.i .i64 x.kind, .i .i64 x.port, .i .i64 x.vec.root, .i .i64 x.vec.cost, .i .i64 x.vec.bridge, .i .i64 x.vec.port, .i .i64 x.hops, .b x.on]
@[simp] theorem Out.enc_len (x : Out) : x.enc.length = 8 := rfl
@[simp] theorem Out.enc_take (x : Out) : List.take 8 x.enc = x.enc := rfl
@[simp] theorem Out.enc_drop (x : Out) : List.drop 8 x.enc = [] := rfl
abbrev Out.z : List Lf := [.i .i64 0, .i .i64 0, .i .i64 0, .i .i64 0, .i .i64 0, .i .i64 0, .i .i64 0, .b false]
abbrev Out.zv : Out := ⟨0, 0, ⟨0, 0, 0, 0⟩, 0, false⟩
theorem Out.enc_inj {x y : Out} (h : x.enc = y.enc) : x = y := by
  rcases x with ⟨v0, v1, ⟨v2_0, v2_1, v2_2, v2_3⟩, v3, v4⟩
  rcases y with ⟨w0, v1, ⟨v2_0, v2_1, v2_2, v2_3⟩, v3, v4⟩
  simp [Out.enc] at h
  simp_all
def Out.mk' (k : Int) : Out := ⟨k, k + 1, ⟨k + 2, k + 3, k + 4, k + 5⟩, k + 6, decide ((k + 7).tmod 3 = 0)⟩
theorem Out.mk'_of {y : Out} {c : Int} (h0 : y.kind = c) (h1 : y.port = c + 1) (h2 : y.vec.root = c + 2) (h3 : y.vec.cost = c + 3) (h4 : y.vec.bridge = c + 4) (h5 : y.vec.port = c + 5) (h6 : y.hops = c + 6) (h7 : y.on = decide ((c + 7).tmod 3 = 0)) : y = Out.mk' c := by
  rcases y with ⟨w0, v1, ⟨v2_0, v2_1, v2_2, v2_3⟩, v3, v4⟩
  simp only at h0 h1 h2 h3 h4 h5 h6 h7
  subst h0 h1 h2 h3 h4 h5 h6 h7
  rfl

structure Link where
  a : Int
  p : Int
  b : Int
  q : Int
  deriving DecidableEq, Inhabited
def Link.enc (x : Link) : List Lf := [.i .i64 x.a, .i .i64 x.p, .i .i64 x.b, .i .i64 x.q]
@[simp] theorem Link.enc_len (x : Link) : x.enc.length = 4 := rfl
@[simp] theorem Link.enc_take (x : Link) : List.take 4 x.enc = x.enc := rfl
@[simp] theorem Link.enc_drop (x : Link) : List.drop 4 x.enc = [] := rfl
abbrev Link.z : List Lf := [.i .i64 0, .i .i64 0, .i .i64 0, .i .i64 0]
abbrev Link.zv : Link := ⟨0, 0, 0, 0⟩
theorem Link.enc_inj {x y : Link} (h : x.enc = y.enc) : x = y := by
  obtain ⟨_, _, _, _⟩ := x
  obtain ⟨_, _, _, _⟩ := y
  simp [Link.enc] at h
  simp_all
def Link.mk' (k : Int) : Link := ⟨k, k + 1, k + 2, k + 3⟩
theorem Link.mk'_of {y : Link} {c : Int} (h0 : y.a = c) (h1 : y.p = c + 1) (h2 : y.b = c + 2) (h3 : y.q = c + 3) : y = Link.mk' c := by
  rcases y with ⟨w0, v1, v2, v3⟩
  simp only at h0 h1 h2 h3
  subst h0 h1 h2 h3
  rfl

def encI (x : Int) : List Lf := [.i .i64 x]
@[simp] theorem encI_len (x : Int) : (encI x).length = 1 := rfl
@[simp] theorem encI_take (x : Int) : List.take 1 (encI x) = [.i .i64 x] := rfl
def mkI (k : Int) : Int := k
theorem encI_inj {x y : Int} (h : encI x = encI y) : x = y := by simpa [encI] using h

abbrev IsIntS := IsSl 3 encI
abbrev RdIntS := RdSl 3 encI
abbrev RdLIntS := RdSl 3 encI
def IntS.mk' (xs : List Int) (k : Int) : List Int := marked mkI 1 xs.length k
def IntS.mkN (xs : List Int) (k : Int) : Int := k + 1 * xs.length
def IntS.hd (xs : List Int) (k : Int) : Int := heldL mkI 1 xs k
theorem IntS.hd_mk (xs : List Int) (k : Int) : IntS.hd (IntS.mk' xs k) k = IntS.mkN xs k := by simp [IntS.hd, IntS.mk', IntS.mkN]
theorem IntS.mk_sz (xs : List Int) (k : Int) : (IntS.mk' xs k).length = xs.length := by simp [IntS.mk']
theorem IntS.mkN_le {xs : List Int} {k : Int} (h : xs.length ≤ 1048576) : k ≤ IntS.mkN xs k ∧ IntS.mkN xs k ≤ k + 1000000000 := by unfold IntS.mkN; omega

abbrev IsPortS := IsSl 87 Port.enc
abbrev RdPortS := RdSl 87 Port.enc
abbrev RdLPortS := RdSl 999999 Port.enc
def PortS.mk' (xs : List Port) (k : Int) : List Port := marked Port.mk' 11 xs.length k
def PortS.mkN (xs : List Port) (k : Int) : Int := k + 11 * xs.length
def PortS.hd (xs : List Port) (k : Int) : Int := heldL Port.mk' 11 xs k
theorem PortS.hd_mk (xs : List Port) (k : Int) : PortS.hd (PortS.mk' xs k) k = PortS.mkN xs k := by simp [PortS.hd, PortS.mk', PortS.mkN]
theorem PortS.mk_sz (xs : List Port) (k : Int) : (PortS.mk' xs k).length = xs.length := by simp [PortS.mk']
theorem PortS.mkN_le {xs : List Port} {k : Int} (h : xs.length ≤ 1048576) : k ≤ PortS.mkN xs k ∧ PortS.mkN xs k ≤ k + 1000000000 := by unfold PortS.mkN; omega

theorem clonePortS {H : Heap} {q : Lf} {xs : List Port} (h : RdPortS H q xs) (hn : xs.length ≤ 1048576) : Runs env 96 [.w (.lf q)] H fun v H' => ∃ q' fp, v = .w (.lf q') ∧ IsPortS H' q' xs fp ∧ Fresh H H' fp := by
  obtain ⟨a, rfl, h⟩ := h
  refine Runs.walk ok96 Try.func96 rfl (by simp [Try.f96]) fun Q hQ => ?_
  simp only [Try.f96, strip, stripL, stripI, stripG, chkT, tagsB, tagsL, tagD, addT, tagA, lookN, tagOp, elmT, ty22, ty24, ty25, ty33, ty54, ty58, ty95, ty122, Nat.reduceEqDiff, if_false, reduceIte, Option.getD_some, Option.getD_none, dstAt, dstOk, Nat.reduceLT, decide_true, if_true]
  simp [binV]
  cases a with
  | none =>
    have : xs = [] := by
      cases xs with
      | nil => rfl
      | cons x xs => obtain ⟨_, _, _, h0, _⟩ := h 0 _ rfl; cases h0
    subst this
    simp
    refine hQ _ _ _ (by simp) ?_
    simp [Try.f96]
    exact ⟨_, ⟨none, rfl, Own.nil _ _⟩, Fresh.refl _⟩
  | some p =>
    simp
    refine stpL_append (rows := []) (ys := xs.map Port.enc) (Own.of (by simp)) (h.app _) rfl rfl rfl (by simp) (by simp; omega) rfl (by simp) fun a'' H'' fp'' ho'' hk'' hf'' => ?_
    simp
    refine hQ _ _ _ (by simp) ?_
    simp [Try.f96]
    have ho : IsPortS H'' (.sl a'' xs.length) xs fp'' := ⟨a'', rfl, by simpa using ho''⟩
    have hf : Fresh H H'' fp'' := Fresh.grow (fp := [H.length]) (by simp) hk'' hf''
    obtain ⟨f, h1, h2⟩ := ho.leave (ws := [W.lf (Lf.sl a'' xs.length)]) hf (by simp)
    exact ⟨f, h1, h2⟩

theorem equalPortS {H : Heap} {q r : Lf} {xs ys : List Port} (h : RdPortS H q xs) (h2 : RdPortS H r ys) (hn : xs.length ≤ 1048576) : run env 71 [.w (.lf q), .w (.lf r)] H = some (.bool (decide (xs = ys)), H) := by
  obtain ⟨a, rfl, ha⟩ := h
  obtain ⟨b, rfl, hb⟩ := h2
  refine run_walk ok71 Try.func71 rfl (by simp [Try.f71]) fun Q hQ => ?_
  simp only [Try.f71, strip, stripL, stripI, stripG, chkT, tagsB, tagsL, tagD, addT, tagA, lookN, tagOp, elmT, ty22, ty24, ty25, ty33, ty54, ty58, ty95, ty122, Nat.reduceEqDiff, if_false, reduceIte, Option.getD_some, Option.getD_none, dstAt, dstOk, Nat.reduceLT, decide_true, if_true]
  simp [builtinV, pureB, lenV]
  refine selS_intro (fun hl => ?_) (fun hl => ?_)
  · simp
    refine hQ _ _ _ (by simp) ?_
    simp at hl
    have : ¬ xs = ys := fun h => hl (by rw [h])
    simp [Try.f71, this]
  simp at hl
  simp [builtinV, pureB, lenV]
  refine wpS_loop (fun j tm H' => ∃ i, i + j = xs.length ∧ tm 0 = .w (.lf (.sl a xs.length)) ∧ tm 1 = .w (.lf (.sl b ys.length)) ∧ tm 12 = .int xs.length ∧ tm 13 = .int i ∧ H' = H ∧ xs.take i = ys.take i) xs.length (by rw [env_K]; omega) ⟨0, by simp, by simp, by simp, by simp, by simp, rfl, by simp⟩ ?_
  rintro j tm H' hj ⟨i, hij, h0, h1, h12, h13, rfl, heq⟩ Q' hn' he' hr'
  simp [h0, h1, h12, h13]
  refine selS_intro (fun hc => ?_) (fun hc => ?_)
  · simp at hc
    have hc2 : i < ys.length := by omega
    obtain ⟨id, r, bl, rfl, hbl, hbe, hrow⟩ := ha i _ (by simp [hc]; rfl)
    obtain ⟨id2, r2, bl2, rfl, hbl2, hbe2, hrow2⟩ := hb i _ (by simp [hc2]; rfl)
    have g4 : IntKind.i64.wrap ((i : Int) + 1) = (i : Int) + 1 := wrap64 (by omega) (by omega)
    simp [h0, h1, h12, h13, indexAddrV, elemIs, hbl, hbe, hbl2, hbe2, hc, hc2, hrow, hrow2, Port.enc]
    refine selS_intro (fun hd => ?_) (fun hd => ?_)
    · simp
      refine hr' _ _ ?_
      simp
      refine hQ _ _ _ (by simp) ?_
      have : ¬ xs = ys := fun h => by subst h; simp at hd
      simp [Try.f71, this]
    · have hxy : xs[i] = ys[i] := by
        refine Port.enc_inj ?_
        simpa [Port.enc] using hd
      simp [h0, h1, h12, h13, g4]
      exact hn' (j - 1) _ _ (by omega) ⟨i + 1, by omega, by simp [h0], by simp [h1], by simp [h12], by simp, rfl, by rw [List.take_add_one, List.take_add_one, heq]; simp [hc, hc2, hxy]⟩
  · simp at hc
    simp [h0, h1, h12, h13]
    refine he' _ _ _ ?_
    simp
    refine hQ _ _ _ (by simp) ?_
    have : xs = ys := by
      rw [List.take_of_length_le (by omega), List.take_of_length_le (by omega)] at heq
      exact heq
    simp [Try.f71, this]

abbrev IsOutS := IsSl 108 Out.enc
abbrev RdOutS := RdSl 108 Out.enc
abbrev RdLOutS := RdSl 999999 Out.enc
def OutS.mk' (xs : List Out) (k : Int) : List Out := marked Out.mk' 8 xs.length k
def OutS.mkN (xs : List Out) (k : Int) : Int := k + 8 * xs.length
def OutS.hd (xs : List Out) (k : Int) : Int := heldL Out.mk' 8 xs k
theorem OutS.hd_mk (xs : List Out) (k : Int) : OutS.hd (OutS.mk' xs k) k = OutS.mkN xs k := by simp [OutS.hd, OutS.mk', OutS.mkN]
theorem OutS.mk_sz (xs : List Out) (k : Int) : (OutS.mk' xs k).length = xs.length := by simp [OutS.mk']
theorem OutS.mkN_le {xs : List Out} {k : Int} (h : xs.length ≤ 1048576) : k ≤ OutS.mkN xs k ∧ OutS.mkN xs k ≤ k + 1000000000 := by unfold OutS.mkN; omega

abbrev IsLinkS := IsSl 50 Link.enc
abbrev RdLinkS := RdSl 50 Link.enc
abbrev RdLLinkS := RdSl 999999 Link.enc
def LinkS.mk' (xs : List Link) (k : Int) : List Link := marked Link.mk' 4 xs.length k
def LinkS.mkN (xs : List Link) (k : Int) : Int := k + 4 * xs.length
def LinkS.hd (xs : List Link) (k : Int) : Int := heldL Link.mk' 4 xs k
theorem LinkS.hd_mk (xs : List Link) (k : Int) : LinkS.hd (LinkS.mk' xs k) k = LinkS.mkN xs k := by simp [LinkS.hd, LinkS.mk', LinkS.mkN]
theorem LinkS.mk_sz (xs : List Link) (k : Int) : (LinkS.mk' xs k).length = xs.length := by simp [LinkS.mk']
theorem LinkS.mkN_le {xs : List Link} {k : Int} (h : xs.length ≤ 1048576) : k ≤ LinkS.mkN xs k ∧ LinkS.mkN xs k ≤ k + 1000000000 := by unfold LinkS.mkN; omega

theorem cloneLinkS {H : Heap} {q : Lf} {xs : List Link} (h : RdLinkS H q xs) (hn : xs.length ≤ 1048576) : Runs env 58 [.w (.lf q)] H fun v H' => ∃ q' fp, v = .w (.lf q') ∧ IsLinkS H' q' xs fp ∧ Fresh H H' fp := by
  obtain ⟨a, rfl, h⟩ := h
  refine Runs.walk ok58 Try.func58 rfl (by simp [Try.f58]) fun Q hQ => ?_
  simp only [Try.f58, strip, stripL, stripI, stripG, chkT, tagsB, tagsL, tagD, addT, tagA, lookN, tagOp, elmT, ty22, ty24, ty25, ty33, ty54, ty58, ty95, ty122, Nat.reduceEqDiff, if_false, reduceIte, Option.getD_some, Option.getD_none, dstAt, dstOk, Nat.reduceLT, decide_true, if_true]
  simp [binV]
  cases a with
  | none =>
    have : xs = [] := by
      cases xs with
      | nil => rfl
      | cons x xs => obtain ⟨_, _, _, h0, _⟩ := h 0 _ rfl; cases h0
    subst this
    simp
    refine hQ _ _ _ (by simp) ?_
    simp [Try.f58]
    exact ⟨_, ⟨none, rfl, Own.nil _ _⟩, Fresh.refl _⟩
  | some p =>
    simp
    refine stpL_append (rows := []) (ys := xs.map Link.enc) (Own.of (by simp)) (h.app _) rfl rfl rfl (by simp) (by simp; omega) rfl (by simp) fun a'' H'' fp'' ho'' hk'' hf'' => ?_
    simp
    refine hQ _ _ _ (by simp) ?_
    simp [Try.f58]
    have ho : IsLinkS H'' (.sl a'' xs.length) xs fp'' := ⟨a'', rfl, by simpa using ho''⟩
    have hf : Fresh H H'' fp'' := Fresh.grow (fp := [H.length]) (by simp) hk'' hf''
    obtain ⟨f, h1, h2⟩ := ho.leave (ws := [W.lf (Lf.sl a'' xs.length)]) hf (by simp)
    exact ⟨f, h1, h2⟩

theorem equalLinkS {H : Heap} {q r : Lf} {xs ys : List Link} (h : RdLinkS H q xs) (h2 : RdLinkS H r ys) (hn : xs.length ≤ 1048576) : run env 68 [.w (.lf q), .w (.lf r)] H = some (.bool (decide (xs = ys)), H) := by
  obtain ⟨a, rfl, ha⟩ := h
  obtain ⟨b, rfl, hb⟩ := h2
  refine run_walk ok68 Try.func68 rfl (by simp [Try.f68]) fun Q hQ => ?_
  simp only [Try.f68, strip, stripL, stripI, stripG, chkT, tagsB, tagsL, tagD, addT, tagA, lookN, tagOp, elmT, ty22, ty24, ty25, ty33, ty54, ty58, ty95, ty122, Nat.reduceEqDiff, if_false, reduceIte, Option.getD_some, Option.getD_none, dstAt, dstOk, Nat.reduceLT, decide_true, if_true]
  simp [builtinV, pureB, lenV]
  refine selS_intro (fun hl => ?_) (fun hl => ?_)
  · simp
    refine hQ _ _ _ (by simp) ?_
    simp at hl
    have : ¬ xs = ys := fun h => hl (by rw [h])
    simp [Try.f68, this]
  simp at hl
  simp [builtinV, pureB, lenV]
  refine wpS_loop (fun j tm H' => ∃ i, i + j = xs.length ∧ tm 0 = .w (.lf (.sl a xs.length)) ∧ tm 1 = .w (.lf (.sl b ys.length)) ∧ tm 12 = .int xs.length ∧ tm 13 = .int i ∧ H' = H ∧ xs.take i = ys.take i) xs.length (by rw [env_K]; omega) ⟨0, by simp, by simp, by simp, by simp, by simp, rfl, by simp⟩ ?_
  rintro j tm H' hj ⟨i, hij, h0, h1, h12, h13, rfl, heq⟩ Q' hn' he' hr'
  simp [h0, h1, h12, h13]
  refine selS_intro (fun hc => ?_) (fun hc => ?_)
  · simp at hc
    have hc2 : i < ys.length := by omega
    obtain ⟨id, r, bl, rfl, hbl, hbe, hrow⟩ := ha i _ (by simp [hc]; rfl)
    obtain ⟨id2, r2, bl2, rfl, hbl2, hbe2, hrow2⟩ := hb i _ (by simp [hc2]; rfl)
    have g4 : IntKind.i64.wrap ((i : Int) + 1) = (i : Int) + 1 := wrap64 (by omega) (by omega)
    simp [h0, h1, h12, h13, indexAddrV, elemIs, hbl, hbe, hbl2, hbe2, hc, hc2, hrow, hrow2, Link.enc]
    refine selS_intro (fun hd => ?_) (fun hd => ?_)
    · simp
      refine hr' _ _ ?_
      simp
      refine hQ _ _ _ (by simp) ?_
      have : ¬ xs = ys := fun h => by subst h; simp at hd
      simp [Try.f68, this]
    · have hxy : xs[i] = ys[i] := by
        refine Link.enc_inj ?_
        simpa [Link.enc] using hd
      simp [h0, h1, h12, h13, g4]
      exact hn' (j - 1) _ _ (by omega) ⟨i + 1, by omega, by simp [h0], by simp [h1], by simp [h12], by simp, rfl, by rw [List.take_add_one, List.take_add_one, heq]; simp [hc, hc2, hxy]⟩
  · simp at hc
    simp [h0, h1, h12, h13]
    refine he' _ _ _ ?_
    simp
    refine hQ _ _ _ (by simp) ?_
    have : xs = ys := by
      rw [List.take_of_length_le (by omega), List.take_of_length_le (by omega)] at heq
      exact heq
    simp [Try.f68, this]

structure Bridge where
  id : Int
  ports : List Port
  deriving DecidableEq, Inhabited
def Bridge.enc (b : Bridge) (a : Option (Nat × Nat)) : List Lf := [.i .i64 b.id, .sl a b.ports.length]
@[simp] theorem Bridge.enc_len (b : Bridge) (a : Option (Nat × Nat)) : (b.enc a).length = 2 := rfl
@[simp] theorem Bridge.enc_take (b : Bridge) (a : Option (Nat × Nat)) : List.take 2 (b.enc a) = b.enc a := rfl

def Vec.ok (v : Vec) : Bool := (decide (1 ≤ v.root) && decide (v.root ≤ 9)) && (decide (1 ≤ v.bridge) && decide (v.bridge ≤ 9)) && decide (v.root ≤ v.bridge) && (decide (0 ≤ v.cost) && decide (v.cost ≤ 20)) && (decide (v.cost = 0) == decide (v.root = v.bridge)) && (decide (0 ≤ v.port) && decide (v.port ≤ 3))

theorem implVecOk (H : Heap) (v : Vec) : run env 114 [.agg v.enc] H = some (.bool v.ok, H) := by
  obtain ⟨a1, a2, a3, a4⟩ := v
  refine run_walk ok114 Try.func114 rfl (by simp [Try.f114]) fun Q hQ => ?_
  simp only [Try.f114, strip, stripL, stripI, stripG, chkT, tagsB, tagsL, tagD, addT, tagA, lookN, tagOp, elmT, ty22, ty24, ty25, ty33, ty54, ty58, ty95, ty122, Nat.reduceEqDiff, if_false, reduceIte, Option.getD_some, Option.getD_none, dstAt, dstOk, Nat.reduceLT, decide_true, if_true]
  simp [Vec.enc, inRange, isPort]
  repeat' (first | (refine gdL_t (fun h => ?_) (fun h => ?_) <;> simp [h, inRange, isPort]) | (refine gdL_f (fun h => ?_) (fun h => ?_) <;> simp [h, inRange, isPort]) | (refine selS_intro (fun h => ?_) (fun h => ?_) <;> simp [h, inRange, isPort]))
  all_goals (refine hQ _ _ _ (by simp) ?_)
  all_goals (clear hQ; simp_all [Try.f114, Vec.ok])
  all_goals (first | omega | (intros; omega))

theorem specVecOk (H : Heap) (v : Vec) : run env 122 [.agg v.enc] H = some (.bool v.ok, H) := by
  obtain ⟨a1, a2, a3, a4⟩ := v
  refine run_walk ok122 Try.func122 rfl (by simp [Try.f122]) fun Q hQ => ?_
  simp only [Try.f122, strip, stripL, stripI, stripG, chkT, tagsB, tagsL, tagD, addT, tagA, lookN, tagOp, elmT, ty22, ty24, ty25, ty33, ty54, ty58, ty95, ty122, Nat.reduceEqDiff, if_false, reduceIte, Option.getD_some, Option.getD_none, dstAt, dstOk, Nat.reduceLT, decide_true, if_true]
  simp [Vec.enc, l1In]
  repeat' (first | (refine gdL_t (fun h => ?_) (fun h => ?_) <;> simp [h, l1In]) | (refine gdL_f (fun h => ?_) (fun h => ?_) <;> simp [h, l1In]) | (refine selS_intro (fun h => ?_) (fun h => ?_) <;> simp [h, l1In]))
  all_goals (refine hQ _ _ _ (by simp) ?_)
  all_goals (clear hQ; simp_all [Try.f122, Vec.ok])
  all_goals (first | omega | (intros; omega))

def In.ok (x : In) : Bool := if x.kind = 1 then (decide (0 ≤ x.port) && decide (x.port ≤ 3)) && x.vec.ok && (decide (0 ≤ x.hops) && decide (x.hops ≤ 8)) && !x.up
  else if x.kind = 3 then (decide (0 ≤ x.port) && decide (x.port ≤ 3)) && decide (x.vec = ⟨0, 0, 0, 0⟩) && decide (x.hops = 0)
  else decide (x = ⟨2, 0, ⟨0, 0, 0, 0⟩, 0, false⟩)

theorem specInOk (H : Heap) (x : In) : run env 101 [.agg x.enc] H = some (.bool x.ok, H) := by
  obtain ⟨a1, a2, ⟨b1, b2, b3, b4⟩, a4, a5⟩ := x
  have e := fun H => specVecOk H ⟨b1, b2, b3, b4⟩
  simp only [Vec.enc] at e
  refine run_walk ok101 Try.func101 rfl (by simp [Try.f101]) fun Q hQ => ?_
  simp only [Try.f101, strip, stripL, stripI, stripG, chkT, tagsB, tagsL, tagD, addT, tagA, lookN, tagOp, elmT, ty22, ty24, ty25, ty33, ty54, ty58, ty95, ty122, Nat.reduceEqDiff, if_false, reduceIte, Option.getD_some, Option.getD_none, dstAt, dstOk, Nat.reduceLT, decide_true, if_true]
  simp [In.enc, l1In, e]
  repeat' (first | (refine gdL_t (fun h => ?_) (fun h => ?_) <;> simp [h, l1In, e]) | (refine gdL_f (fun h => ?_) (fun h => ?_) <;> simp [h, l1In, e]) | (refine selS_intro (fun h => ?_) (fun h => ?_) <;> simp [h, l1In, e]))
  all_goals (refine hQ _ _ _ (by simp) ?_)
  all_goals (clear hQ; simp_all [Try.f101, In.ok])
  all_goals (first | (intros; exfalso; omega) | simp [Bool.and_assoc])

def IsBridge (H : Heap) (l : List Lf) (x : Bridge) (fp : List Nat) : Prop := ∃ a, l = x.enc a ∧ Own H 87 a (x.ports.map Port.enc) fp
def RdBridge (H : Heap) (l : List Lf) (x : Bridge) : Prop := ∃ a, l = x.enc a ∧ Sl H 87 a (x.ports.map Port.enc)
def RdLBridge (H : Heap) (l : List Lf) (x : Bridge) : Prop := ∃ a, l = x.enc a ∧ Sl H 999999 a (x.ports.map Port.enc)
abbrev Bridge.sz (x : Bridge) : Nat := x.ports.length
def Bridge.fit (x : Bridge) : Prop := x.ports.length ≤ maxLen
section
variable {H H' : Heap} {l : List Lf} {x : Bridge} {fp : List Nat}
theorem IsBridge.keep {f : List Nat} (h : IsBridge H l x fp) (hk : Keep f H H') (hd : ∀ i ∈ fp, i ∉ f) : IsBridge H' l x fp := let ⟨a, h1, h2⟩ := h; ⟨a, h1, h2.keep hk hd⟩
theorem IsBridge.app (h : IsBridge H l x fp) (G : Heap) : IsBridge (H ++ G) l x fp := let ⟨a, h1, h2⟩ := h; ⟨a, h1, h2.app G⟩
theorem IsBridge.lt (h : IsBridge H l x fp) : ∀ i ∈ fp, i < H.length := let ⟨_, _, h2⟩ := h; h2.lt
theorem IsBridge.nodup (h : IsBridge H l x fp) : fp.Nodup := let ⟨_, _, h2⟩ := h; h2.nodup
theorem IsBridge.rd (h : IsBridge H l x fp) : RdBridge H l x := let ⟨a, h1, h2⟩ := h; ⟨a, h1, h2.sl⟩
theorem RdBridge.base (h : RdBridge H l x) (hk : Keep [] H H') : RdBridge H' l x := let ⟨a, h1, h2⟩ := h; ⟨a, h1, h2.keep hk (by simp)⟩
theorem RdBridge.app (h : RdBridge H l x) (G : Heap) : RdBridge (H ++ G) l x := h.base (Keep.app _ _ _)
theorem RdLBridge.base (h : RdLBridge H l x) (hk : Keep [] H H') : RdLBridge H' l x := let ⟨a, h1, h2⟩ := h; ⟨a, h1, h2.keep hk (by simp)⟩
theorem RdLBridge.app (h : RdLBridge H l x) (G : Heap) : RdLBridge (H ++ G) l x := h.base (Keep.app _ _ _)
theorem IsBridge.len (h : IsBridge H l x fp) : l.length = 2 := by obtain ⟨a, rfl, -⟩ := h; rfl
theorem RdLBridge.len (h : RdLBridge H l x) : l.length = 2 := by obtain ⟨a, rfl, -⟩ := h; rfl
theorem RdBridge.len (h : RdBridge H l x) : l.length = 2 := by obtain ⟨a, rfl, -⟩ := h; rfl
theorem IsBridge.free (h : IsBridge H' l x fp) (hr : l.all refFree = true) (H2 : Heap) : IsBridge H2 l x [] := by
  obtain ⟨a, rfl, h2⟩ := h
  exact ⟨a, rfl, h2.free (n := x.ports.length) (by simp [Bridge.enc] at hr; exact hr) H2⟩
theorem IsBridge.leave {ws : List W} (h : IsBridge H' l x fp) (hf : Fresh H H' fp) (hw : ws.all W.free = true → l.all refFree = true) : ∃ fp', IsBridge (leave H H' ws) l x fp' ∧ Fresh H (leave H H' ws) fp' := by
  rcases leave_opt H H' ws with e | ⟨e, hr⟩ <;> rw [e]
  · exact ⟨fp, h, hf⟩
  · exact ⟨[], h.free (hw hr) H, Fresh.refl H⟩
end

theorem okBridge : RepOk IsBridge := ⟨fun h hk hd => h.keep hk hd, fun h => h.lt, fun h => h.nodup⟩
theorem unBridge : UnOk IsBridge := fun ⟨a, h1, h2⟩ hf => ⟨a, h1, h2.unapp hf⟩
abbrev IsBridgeS := IsL 56 IsBridge
abbrev RdBridgeS := RdL 56 RdBridge
abbrev RdLBridgeS := RdL 999999 RdLBridge
def BridgeS.sz (xs : List Bridge) : Nat := xs.length + (xs.map Bridge.sz).sum
theorem BridgeS.sz_len (xs : List Bridge) : xs.length ≤ BridgeS.sz xs := by unfold BridgeS.sz; omega
theorem BridgeS.sz_at {xs : List Bridge} {x : Bridge} (h : x ∈ xs) : x.sz ≤ BridgeS.sz xs := by
  have key : ∀ {ys : List Bridge}, x ∈ ys → x.sz ≤ (ys.map Bridge.sz).sum := by
    intro ys hy
    induction ys with
    | nil => simp at hy
    | cons y ys ih =>
      simp only [List.map_cons, List.sum_cons]
      rcases List.mem_cons.1 hy with rfl | hy
      · omega
      · have := ih hy; omega
  have := key h
  unfold BridgeS.sz
  omega
def BridgeS.ps (xs : List Bridge) (i : Nat) : Nat := ((xs.take i).map Bridge.sz).sum
theorem BridgeS.ps_zero (xs : List Bridge) : BridgeS.ps xs 0 = 0 := by simp [BridgeS.ps]
theorem BridgeS.ps_succ (xs : List Bridge) {i : Nat} (h : i < xs.length) : BridgeS.ps xs (i + 1) = BridgeS.ps xs i + xs[i].sz := by
  unfold BridgeS.ps
  rw [List.take_add_one, List.getElem?_eq_getElem h, List.map_append, List.sum_append]
  simp
theorem BridgeS.ps_le (xs : List Bridge) (i : Nat) : xs.length + BridgeS.ps xs i ≤ BridgeS.sz xs := by
  have := congrArg (fun l => (l.map Bridge.sz).sum) (List.take_append_drop i xs)
  simp only [List.map_append, List.sum_append] at this
  unfold BridgeS.ps BridgeS.sz
  omega
theorem BridgeS.ps_len (xs : List Bridge) : xs.length + BridgeS.ps xs xs.length = BridgeS.sz xs := by unfold BridgeS.ps BridgeS.sz; rw [List.take_length]
def BridgeS.fit (xs : List Bridge) : Prop := xs.length ≤ maxLen ∧ ∀ x ∈ xs, x.fit
theorem RdBridgeS_base {H H' : Heap} {q : Lf} {xs : List Bridge} (h : RdBridgeS H q xs) (hk : Keep [] H H') : RdBridgeS H' q xs := RdL.base h (fun h hk => h.base hk) hk
theorem RdLBridgeS_base {H H' : Heap} {q : Lf} {xs : List Bridge} (h : RdLBridgeS H q xs) (hk : Keep [] H H') : RdLBridgeS H' q xs := RdL.base h (fun h hk => h.base hk) hk
theorem IsBridgeS_rd {H : Heap} {q : Lf} {xs : List Bridge} {fp : List Nat} (h : IsBridgeS H q xs fp) : RdBridgeS H q xs := IsL.rd h fun h => h.rd

structure Net where
  bridges : List Bridge
  links : List Link
  deriving DecidableEq, Inhabited
def Net.enc (x : Net) (q0 q1 : Lf) : List Lf := [q0, q1]
@[simp] theorem Net.enc_len (x : Net) (q0 q1 : Lf) : (x.enc q0 q1).length = 2 := rfl
@[simp] theorem Net.enc_take (x : Net) (q0 q1 : Lf) : List.take 2 (x.enc q0 q1) = x.enc q0 q1 := rfl

def IsNet (H : Heap) (l : List Lf) (x : Net) (fp : List Nat) : Prop := ∃ q0 q1 f0 f1, l = x.enc q0 q1 ∧ IsBridgeS H q0 x.bridges f0 ∧ IsLinkS H q1 x.links f1 ∧ fp = f0 ++ (f1) ∧ fp.Nodup
def RdNet (H : Heap) (l : List Lf) (x : Net) : Prop := ∃ q0 q1, l = x.enc q0 q1 ∧ RdBridgeS H q0 x.bridges ∧ RdLinkS H q1 x.links
def RdLNet (H : Heap) (l : List Lf) (x : Net) : Prop := ∃ q0 q1, l = x.enc q0 q1 ∧ RdLBridgeS H q0 x.bridges ∧ RdLLinkS H q1 x.links
def Net.sz (x : Net) : Nat := BridgeS.sz x.bridges + x.links.length
def Net.fit (x : Net) : Prop := BridgeS.fit x.bridges ∧ x.links.length ≤ maxLen
section
variable {H H' : Heap} {l : List Lf} {x : Net} {fp : List Nat}
theorem IsNet.keep {f : List Nat} (h : IsNet H l x fp) (hk : Keep f H H') (hd : ∀ i ∈ fp, i ∉ f) : IsNet H' l x fp := by
  obtain ⟨q0, q1, f0, f1, rfl, h0, h1, rfl, hnd⟩ := h
  exact ⟨q0, q1, f0, f1, rfl, h0.keep okBridge hk (fun i hi => hd i (by simp [hi])), h1.keep hk (fun i hi => hd i (by simp [hi])), rfl, hnd⟩
theorem IsNet.app (h : IsNet H l x fp) (G : Heap) : IsNet (H ++ G) l x fp := h.keep (Keep.app [] H G) (by simp)
theorem IsNet.lt (h : IsNet H l x fp) : ∀ i ∈ fp, i < H.length := by
  obtain ⟨q0, q1, f0, f1, rfl, h0, h1, rfl, hnd⟩ := h
  intro i hi
  simp at hi
  rcases hi with hi | hi
  · exact h0.lt okBridge i hi
  · exact h1.lt i hi
theorem IsNet.nodup (h : IsNet H l x fp) : fp.Nodup := by
  obtain ⟨q0, q1, f0, f1, rfl, h0, h1, rfl, hnd⟩ := h
  exact hnd
theorem IsNet.rd (h : IsNet H l x fp) : RdNet H l x := by
  obtain ⟨q0, q1, f0, f1, rfl, h0, h1, rfl, hnd⟩ := h
  exact ⟨q0, q1, rfl, IsBridgeS_rd h0, h1.rd⟩
theorem RdNet.base (h : RdNet H l x) (hk : Keep [] H H') : RdNet H' l x := by
  obtain ⟨q0, q1, rfl, h0, h1⟩ := h
  exact ⟨q0, q1, rfl, RdBridgeS_base h0 hk, h1.base hk⟩
theorem RdNet.app (h : RdNet H l x) (G : Heap) : RdNet (H ++ G) l x := h.base (Keep.app _ _ _)
theorem RdNet.len (h : RdNet H l x) : l.length = 2 := by
  obtain ⟨q0, q1, rfl, h0, h1⟩ := h
  rfl
theorem RdLNet.base (h : RdLNet H l x) (hk : Keep [] H H') : RdLNet H' l x := by
  obtain ⟨q0, q1, rfl, h0, h1⟩ := h
  exact ⟨q0, q1, rfl, RdLBridgeS_base h0 hk, h1.base hk⟩
theorem RdLNet.app (h : RdLNet H l x) (G : Heap) : RdLNet (H ++ G) l x := h.base (Keep.app _ _ _)
theorem RdLNet.len (h : RdLNet H l x) : l.length = 2 := by
  obtain ⟨q0, q1, rfl, h0, h1⟩ := h
  rfl
theorem IsNet.len (h : IsNet H l x fp) : l.length = 2 := by
  obtain ⟨q0, q1, f0, f1, rfl, h0, h1, rfl, hnd⟩ := h
  rfl
theorem IsNet.free (h : IsNet H' l x fp) (hr : l.all refFree = true) (H2 : Heap) : IsNet H2 l x [] := by
  obtain ⟨q0, q1, f0, f1, rfl, h0, h1, rfl, hnd⟩ := h
  simp [Net.enc] at hr
  have a0 : IsBridgeS H2 q0 x.bridges [] := by
    obtain ⟨e1, e2⟩ := h0.empty hr.1
    rw [e1, e2]
    exact IsL.emp _ _ _
  have a1 : IsLinkS H2 q1 x.links [] := h1.free hr.2 H2
  exact ⟨q0, q1, [], [], rfl, a0, a1, by simp, by simp⟩
theorem IsNet.leave {ws : List W} (h : IsNet H' l x fp) (hf : Fresh H H' fp) (hw : ws.all W.free = true → l.all refFree = true) : ∃ fp', IsNet (leave H H' ws) l x fp' ∧ Fresh H (leave H H' ws) fp' := by
  rcases leave_opt H H' ws with e | ⟨e, hr⟩ <;> rw [e]
  · exact ⟨fp, h, hf⟩
  · exact ⟨[], h.free (hw hr) H, Fresh.refl H⟩
end

def openBy (role wait : Int) : Bool := (decide (role = 1) || decide (role = 2)) && decide (wait = 0)
def Port.ok (p : Port) : Bool :=
  (if p.has then p.up && p.vec.ok && (decide (0 ≤ p.hops) && decide (p.hops ≤ 8)) && (decide (1 ≤ p.left) && decide (p.left ≤ 3)) else decide (p.vec = ⟨0, 0, 0, 0⟩) && decide (p.hops = 0) && decide (p.left = 0)) &&
  (decide (0 ≤ p.role) && decide (p.role ≤ 3)) && decide (decide (p.role = 0) = !p.up) && (decide (0 ≤ p.wait) && decide (p.wait ≤ 4)) && decide (p.opn = openBy p.role p.wait)

theorem isOpenBy (H : Heap) (p : Port) : run env 120 [.agg p.enc] H = some (.bool (openBy p.role p.wait), H) := by
  obtain ⟨a1, a2, ⟨b1, b2, b3, b4⟩, a4, a5, a6, a7, a8⟩ := p
  refine run_walk ok120 Try.func120 rfl (by simp [Try.f120]) fun Q hQ => ?_
  simp only [Try.f120, strip, stripL, stripI, stripG, chkT, tagsB, tagsL, tagD, addT, tagA, lookN, tagOp, elmT, ty22, ty24, ty25, ty33, ty54, ty58, ty95, ty122, Nat.reduceEqDiff, if_false, reduceIte, Option.getD_some, Option.getD_none, dstAt, dstOk, Nat.reduceLT, decide_true, if_true]
  simp [Port.enc]
  repeat' (first | (refine gdL_t (fun h => ?_) (fun h => ?_) <;> simp [h]) | (refine gdL_f (fun h => ?_) (fun h => ?_) <;> simp [h]) | (refine selS_intro (fun h => ?_) (fun h => ?_) <;> simp [h]))
  all_goals (refine hQ _ _ _ (by simp) ?_)
  all_goals (clear hQ; simp_all [Try.f120, openBy])

theorem implPortOk (H : Heap) (p : Port) : run env 107 [.agg p.enc] H = some (.bool p.ok, H) := by
  obtain ⟨a1, a2, ⟨b1, b2, b3, b4⟩, a4, a5, a6, a7, a8⟩ := p
  have e := fun H => implVecOk H ⟨b1, b2, b3, b4⟩
  have e2 := fun H a1 a2 b1 b2 b3 b4 a4 a5 a6 a7 a8 => isOpenBy H ⟨a1, a2, ⟨b1, b2, b3, b4⟩, a4, a5, a6, a7, a8⟩
  simp only [Vec.enc, Port.enc] at e e2
  refine run_walk ok107 Try.func107 rfl (by simp [Try.f107]) fun Q hQ => ?_
  simp only [Try.f107, strip, stripL, stripI, stripG, chkT, tagsB, tagsL, tagD, addT, tagA, lookN, tagOp, elmT, ty22, ty24, ty25, ty33, ty54, ty58, ty95, ty122, Nat.reduceEqDiff, if_false, reduceIte, Option.getD_some, Option.getD_none, dstAt, dstOk, Nat.reduceLT, decide_true, if_true]
  simp [Port.enc, e, e2, inRange, isHops]
  repeat' (first | (refine gdL_t (fun h => ?_) (fun h => ?_) <;> simp [h, e, e2, inRange, isHops]) | (refine gdL_f (fun h => ?_) (fun h => ?_) <;> simp [h, e, e2, inRange, isHops]) | (refine selS_intro (fun h => ?_) (fun h => ?_) <;> simp [h, e, e2, inRange, isHops]))
  all_goals (refine hQ _ _ _ (by simp) ?_)
  all_goals (clear hQ e e2; simp_all [Try.f107, Port.ok])
  all_goals (try (cases a1 <;> simp_all))
  all_goals (try (intros; exfalso; omega))

theorem specPortOk (H : Heap) (p : Port) : run env 109 [.agg p.enc] H = some (.bool p.ok, H) := by
  obtain ⟨a1, a2, ⟨b1, b2, b3, b4⟩, a4, a5, a6, a7, a8⟩ := p
  have e := fun H => specVecOk H ⟨b1, b2, b3, b4⟩
  simp only [Vec.enc, Port.enc] at e
  refine run_walk ok109 Try.func109 rfl (by simp [Try.f109]) fun Q hQ => ?_
  simp only [Try.f109, strip, stripL, stripI, stripG, chkT, tagsB, tagsL, tagD, addT, tagA, lookN, tagOp, elmT, ty22, ty24, ty25, ty33, ty54, ty58, ty95, ty122, Nat.reduceEqDiff, if_false, reduceIte, Option.getD_some, Option.getD_none, dstAt, dstOk, Nat.reduceLT, decide_true, if_true]
  simp [Port.enc, e, l1In]
  repeat' (first | (refine gdL_t (fun h => ?_) (fun h => ?_) <;> simp [h, e, l1In]) | (refine gdL_f (fun h => ?_) (fun h => ?_) <;> simp [h, e, l1In]) | (refine selS_intro (fun h => ?_) (fun h => ?_) <;> simp [h, e, l1In]))
  all_goals (refine hQ _ _ _ (by simp) ?_)
  all_goals (clear hQ e; simp_all [Try.f109, Port.ok, openBy])
  all_goals (try (intros; exfalso; omega))

def Bridge.ok (b : Bridge) : Bool := b.ports.all Port.ok && (decide (1 ≤ b.id) && decide (b.id ≤ 9)) && (decide (1 ≤ (b.ports.length : Int)) && decide ((b.ports.length : Int) ≤ 4))

theorem implBridgeOk_is {H : Heap} {l : List Lf} {b : Bridge} (h : RdBridge H l b) (hn : b.sz ≤ 1048576) : run env 75 [.agg l] H = some (.bool b.ok, H) := by
  obtain ⟨a, rfl, h⟩ := h
  have hn : b.ports.length ≤ 1048576 := hn
  refine run_walk ok75 Try.func75 rfl (by simp [Try.f75]) fun Q hQ => ?_
  simp only [Try.f75, strip, stripL, stripI, stripG, chkT, tagsB, tagsL, tagD, addT, tagA, lookN, tagOp, elmT, ty22, ty24, ty25, ty33, ty54, ty58, ty95, ty122, Nat.reduceEqDiff, if_false, reduceIte, Option.getD_some, Option.getD_none, dstAt, dstOk, Nat.reduceLT, decide_true, if_true]
  simp [Bridge.enc, builtinV, pureB, lenV]
  refine wpS_loop (fun j tm H' => ∃ i G, i + j = b.ports.length ∧ tm 1 = .ptr H.length 0 0 ∧ tm 6 = .w (.lf (.sl a b.ports.length)) ∧ tm 7 = .int b.ports.length ∧ tm 8 = .int i ∧ H' = H ++ some ⟨56, .wr, [b.enc a]⟩ :: G ∧ (b.ports.take i).all Port.ok = true) b.ports.length (by rw [env_K]; omega) ⟨0, [], by simp, by simp, by simp, by simp, by simp, by simp [Bridge.enc], by simp⟩ ?_
  rintro j tm H' hj ⟨i, G, hij, t1, t6, t7, t8, rfl, hall⟩ Q' hn' he' hr'
  simp [t1, t6, t7, t8]
  refine selS_intro (fun hc => ?_) (fun hc => ?_)
  · simp at hc
    obtain ⟨id, r, bl, rfl, hbl, hbe, hrow⟩ := h i _ (by simp [hc]; rfl)
    have hid := blkAt_len hbl
    have g4 : IntKind.i64.wrap ((i : Int) + 1) = (i : Int) + 1 := wrap64 (by omega) (by omega)
    simp [t1, t6, t7, t8, indexAddrV, elemIs, hid, hbl, hbe, hc, hrow, implPortOk]
    refine selS_intro (fun hd => ?_) (fun hd => ?_)
    · simp
      refine hr' _ _ ?_
      simp
      refine hQ _ _ _ (by simp) ?_
      have : b.ports.all Port.ok = false := List.all_eq_false.2 ⟨b.ports[i], by simp, by simpa using hd⟩
      simp [Try.f75, this, Bridge.ok]
    · simp at hd
      simp [t1, t6, t7, t8, g4]
      refine hn' (j - 1) _ _ (by omega) ⟨i + 1, _, by omega, by simp [t1], by simp [t6], by simp [t7], by simp, rfl, ?_⟩
      rw [List.take_add_one, List.all_append, hall]
      simp [hc, hd]
  · simp at hc
    simp [t1, t6, t7, t8]
    refine he' _ _ _ ?_
    simp [t1, builtinV, pureB, lenV, Bridge.enc, inRange]
    rw [List.take_of_length_le (by omega)] at hall
    repeat' (first | (refine gdL_t (fun h => ?_) (fun h => ?_) <;> simp [h, t1, inRange, builtinV, pureB, lenV]) | (refine gdL_f (fun h => ?_) (fun h => ?_) <;> simp [h, t1, inRange, builtinV, pureB, lenV]) | (refine selS_intro (fun h => ?_) (fun h => ?_) <;> simp [h, t1, inRange, builtinV, pureB, lenV]))
    all_goals (refine hQ _ _ _ (by simp) ?_)
    all_goals (simp [Try.f75, Bridge.ok, hall])
    all_goals (simp_all)
    all_goals (try (intros; omega))

theorem specBridgeOk_is {H : Heap} {l : List Lf} {b : Bridge} (h : RdBridge H l b) (hn : b.sz ≤ 1048576) : run env 78 [.agg l] H = some (.bool b.ok, H) := by
  obtain ⟨a, rfl, h⟩ := h
  have hn : b.ports.length ≤ 1048576 := hn
  refine run_walk ok78 Try.func78 rfl (by simp [Try.f78]) fun Q hQ => ?_
  simp only [Try.f78, strip, stripL, stripI, stripG, chkT, tagsB, tagsL, tagD, addT, tagA, lookN, tagOp, elmT, ty22, ty24, ty25, ty33, ty54, ty58, ty95, ty122, Nat.reduceEqDiff, if_false, reduceIte, Option.getD_some, Option.getD_none, dstAt, dstOk, Nat.reduceLT, decide_true, if_true]
  simp [Bridge.enc, builtinV, pureB, lenV]
  refine wpS_loop (fun j tm H' => ∃ i, i + j = b.ports.length ∧ tm 1 = .ptr H.length 0 0 ∧ tm 3 = .int i ∧ H' = H ++ [some ⟨56, .wr, [b.enc a]⟩] ∧ (b.ports.take i).all Port.ok = true) b.ports.length (by rw [env_K]; omega) ⟨0, by simp, by simp, by simp, by simp [Bridge.enc], by simp⟩ ?_
  rintro j tm H' hj ⟨i, hij, t1, t3, rfl, hall⟩ Q' hn' he' hr'
  simp [t1, t3, Bridge.enc, builtinV, pureB, lenV]
  refine selS_intro (fun hc => ?_) (fun hc => ?_)
  · simp at hc
    obtain ⟨id, r, bl, rfl, hbl, hbe, hrow⟩ := h i _ (by simp [hc]; rfl)
    have hid := blkAt_len hbl
    have g4 : IntKind.i64.wrap ((i : Int) + 1) = (i : Int) + 1 := wrap64 (by omega) (by omega)
    simp [t1, t3, indexAddrV, elemIs, hid, hbl, hbe, hc, hrow, specPortOk]
    refine selS_intro (fun hd => ?_) (fun hd => ?_)
    · simp
      refine hr' _ _ ?_
      simp
      refine hQ _ _ _ (by simp) ?_
      have : b.ports.all Port.ok = false := List.all_eq_false.2 ⟨b.ports[i], by simp, by simpa using hd⟩
      simp [Try.f78, this, Bridge.ok]
    · simp at hd
      simp [t1, t3, g4]
      refine hn' (j - 1) _ _ (by omega) ⟨i + 1, by omega, by simp [t1], by simp, by simp [Bridge.enc], ?_⟩
      rw [List.take_add_one, List.all_append, hall]
      simp [hc, hd]
  · simp at hc
    simp [t1, t3]
    refine he' _ _ _ ?_
    simp [t1, builtinV, pureB, lenV, Bridge.enc, l1In]
    rw [List.take_of_length_le (by omega)] at hall
    repeat' (first | (refine gdL_t (fun h => ?_) (fun h => ?_) <;> simp [h, t1, l1In, builtinV, pureB, lenV]) | (refine gdL_f (fun h => ?_) (fun h => ?_) <;> simp [h, t1, l1In, builtinV, pureB, lenV]) | (refine selS_intro (fun h => ?_) (fun h => ?_) <;> simp [h, t1, l1In, builtinV, pureB, lenV]))
    all_goals (refine hQ _ _ _ (by simp) ?_)
    all_goals (simp [Try.f78, Bridge.ok, hall])
    all_goals (simp_all)
    all_goals (try (intros; omega))

theorem sameOne {H : Heap} {l r : List Lf} {x y : Bridge} (h : RdBridge H l x) (h2 : RdBridge H r y) (hn : x.sz ≤ 1048576) : run env 70 [.agg l, .agg r] H = some (.bool (decide (x = y)), H) := by
  have h3 := h
  have h4 := h2
  obtain ⟨a, rfl, h⟩ := h
  obtain ⟨b, rfl, h2⟩ := h2
  have e := fun G => equalPortS (q := .sl a x.ports.length) (r := .sl b y.ports.length) (xs := x.ports) (ys := y.ports) (H := H ++ G) ⟨a, rfl, h.app G⟩ ⟨b, rfl, h2.app G⟩ hn
  refine run_walk ok70 Try.func70 rfl (by simp [Try.f70]) fun Q hQ => ?_
  simp only [Try.f70, strip, stripL, stripI, stripG, chkT, tagsB, tagsL, tagD, addT, tagA, lookN, tagOp, elmT, ty22, ty24, ty25, ty33, ty54, ty58, ty95, ty122, Nat.reduceEqDiff, if_false, reduceIte, Option.getD_some, Option.getD_none, dstAt, dstOk, Nat.reduceLT, decide_true, if_true]
  simp [Bridge.enc]
  repeat' (first | (refine gdL_t (fun h => ?_) (fun h => ?_) <;> simp [h, e]) | (refine gdL_f (fun h => ?_) (fun h => ?_) <;> simp [h, e]) | (refine selS_intro (fun h => ?_) (fun h => ?_) <;> simp [h, e]))
  all_goals (refine hQ _ _ _ (by simp) ?_)
  all_goals (clear hQ; obtain ⟨x1, x2⟩ := x; obtain ⟨y1, y2⟩ := y; simp_all [Try.f70])

theorem sameAll {H : Heap} {q r : Lf} {xs ys : List Bridge} (h : RdBridgeS H q xs) (h2 : RdBridgeS H r ys) (hn : BridgeS.sz xs ≤ 1048576) :
    run env 69 [.w (.lf q), .w (.lf r), .w (.lf (.fn 70 [] []))] H = some (.bool (decide (xs = ys)), H) := by
  obtain ⟨a, rws, rfl, hs, hlen, hat⟩ := h
  obtain ⟨b, rws2, rfl, hs2, hlen2, hat2⟩ := h2
  have hl := BridgeS.sz_len xs
  refine run_walk ok69 Try.func69 rfl (by simp [Try.f69]) fun Q hQ => ?_
  simp only [Try.f69, strip, stripL, stripI, stripG, chkT, tagsB, tagsL, tagD, addT, tagA, lookN, tagOp, elmT, ty22, ty24, ty25, ty33, ty54, ty58, ty95, ty122, Nat.reduceEqDiff, if_false, reduceIte, Option.getD_some, Option.getD_none, dstAt, dstOk, Nat.reduceLT, decide_true, if_true]
  simp [builtinV, pureB, lenV]
  refine selS_intro (fun hl => ?_) (fun hl => ?_)
  · simp
    refine hQ _ _ _ (by simp) ?_
    simp at hl
    have : ¬ xs = ys := fun h => hl (by rw [h])
    simp [Try.f69, this]
  simp at hl
  simp [builtinV, pureB, lenV]
  refine wpS_loop (fun j tm H' => ∃ i G, i + j = xs.length ∧ tm 1 = .w (.lf (.sl b ys.length)) ∧ tm 2 = .w (.lf (.fn 70 [] [])) ∧ tm 15 = .w (.lf (.sl a xs.length)) ∧ tm 16 = .int xs.length ∧ tm 17 = .int i ∧ H' = H ++ G ∧ xs.take i = ys.take i) xs.length (by rw [env_K]; omega) ⟨0, [], by simp, by simp, by simp, by simp, by simp, by simp, by simp, by simp⟩ ?_
  rintro j tm H' hj ⟨i, G, hij, h1, h2, h15, h16, h17, rfl, heq⟩ Q' hn' he' hr'
  simp [h1, h2, h15, h16, h17]
  refine selS_intro (fun hc => ?_) (fun hc => ?_)
  · simp at hc
    have hc2 : i < ys.length := by omega
    have hri : i < rws.length := by omega
    have hri2 : i < rws2.length := by omega
    obtain ⟨id, r, bl, rfl, hbl, hbe, hrow⟩ := hs i _ (List.getElem?_eq_getElem hri)
    obtain ⟨id2, r2, bl2, rfl, hbl2, hbe2, hrow2⟩ := hs2 i _ (List.getElem?_eq_getElem hri2)
    have hid := blkAt_len hbl
    have hid2 := blkAt_len hbl2
    have he := hat i _ _ (List.getElem?_eq_getElem hri) (List.getElem?_eq_getElem hc)
    have he2 := hat2 i _ _ (List.getElem?_eq_getElem hri2) (List.getElem?_eq_getElem hc2)
    have hL := he.len
    have hT : rws[i].take rws[i].length = rws[i] := List.take_length
    rw [hL] at hT
    have hL2 := he2.len
    have hT2 : rws2[i].take rws2[i].length = rws2[i] := List.take_length
    rw [hL2] at hT2
    have g4 : IntKind.i64.wrap ((i : Int) + 1) = (i : Int) + 1 := wrap64 (by omega) (by omega)
    have hsz := BridgeS.sz_at (List.getElem_mem hc)
    have ee := fun G => sameOne (he.app G) (he2.app G) (by omega)
    simp [h1, h2, h15, h16, h17, indexAddrV, elemIs, hid, hid2, hbl, hbe, hbl2, hbe2, hc, hc2, hrow, hrow2, hL, hT, hL2, hT2, ee]
    refine selS_intro (fun hd => ?_) (fun hd => ?_)
    · simp
      refine hr' _ _ ?_
      simp
      refine hQ _ _ _ (by simp) ?_
      simp at hd
      have : ¬ xs = ys := fun h => by subst h; simp at hd
      simp [Try.f69, this]
    · simp at hd
      simp [h1, h2, h15, h16, h17, g4]
      exact hn' (j - 1) _ _ (by omega) ⟨i + 1, _, by omega, by simp [h1], by simp [h2], by simp [h15], by simp [h16], by simp, rfl, by rw [List.take_add_one, List.take_add_one, heq]; simp [hc, hc2, hd]⟩
  · simp at hc
    simp [h1, h2, h15, h16, h17]
    refine he' _ _ _ ?_
    simp
    refine hQ _ _ _ (by simp) ?_
    have : xs = ys := by
      rw [List.take_of_length_le (by omega), List.take_of_length_le (by omega)] at heq
      exact heq
    simp [Try.f69, this]

theorem implSame_is {H : Heap} {l r : List Lf} {x y : Net} (h : RdNet H l x) (hn : x.sz ≤ 1048576) (h2 : RdNet H r y) (hn2 : y.sz ≤ 1048576) : run env 19 [.agg l, .agg r] H = some (.bool (decide (x = y)), H) := by
  obtain ⟨q0, q1, rfl, h3, h4⟩ := h
  obtain ⟨r0, r1, rfl, h5, h6⟩ := h2
  unfold Net.sz at hn
  have e1 := fun G => equalLinkS (h4.app G) (h6.app G) (by omega)
  have e2 := fun G => sameAll (RdBridgeS_base h3 (Keep.app [] _ G)) (RdBridgeS_base h5 (Keep.app [] _ G)) (by omega)
  refine run_walk ok19 Try.func19 rfl (by simp [Try.f19]) fun Q hQ => ?_
  simp only [Try.f19, strip, stripL, stripI, stripG, chkT, tagsB, tagsL, tagD, addT, tagA, lookN, tagOp, elmT, ty22, ty24, ty25, ty33, ty54, ty58, ty95, ty122, Nat.reduceEqDiff, if_false, reduceIte, Option.getD_some, Option.getD_none, dstAt, dstOk, Nat.reduceLT, decide_true, if_true]
  simp [Net.enc, e1]
  repeat' (first | (refine gdL_t (fun h => ?_) (fun h => ?_) <;> simp [h, e1, e2]) | (refine gdL_f (fun h => ?_) (fun h => ?_) <;> simp [h, e1, e2]) | (refine selS_intro (fun h => ?_) (fun h => ?_) <;> simp [h, e1, e2]))
  all_goals (refine hQ _ _ _ (by simp) ?_)
  all_goals (clear hQ; obtain ⟨x1, x2⟩ := x; obtain ⟨y1, y2⟩ := y; simp_all [Try.f19])

theorem specL10Bridge {H : Heap} {l r : List Lf} {x y : Bridge} (h : RdBridge H l x) (h2 : RdBridge H r y) (hn : x.sz ≤ 1048576) : run env 74 [.agg l, .agg r] H = some (.bool (decide (x = y)), H) := by
  obtain ⟨a, rfl, ha⟩ := h
  obtain ⟨b, rfl, hb⟩ := h2
  have hn : x.ports.length ≤ 1048576 := hn
  refine run_walk ok74 Try.func74 rfl (by simp [Try.f74]) fun Q hQ => ?_
  simp only [Try.f74, strip, stripL, stripI, stripG, chkT, tagsB, tagsL, tagD, addT, tagA, lookN, tagOp, elmT, ty22, ty24, ty25, ty33, ty54, ty58, ty95, ty122, Nat.reduceEqDiff, if_false, reduceIte, Option.getD_some, Option.getD_none, dstAt, dstOk, Nat.reduceLT, decide_true, if_true]
  simp [Bridge.enc, builtinV, pureB, lenV]
  have bad : x ≠ y → ∀ tm H', (∃ G, H' = H ++ G) → tm 4 = .bool false → Q .ret tm H' := by
    rintro hx tm _ ⟨G, rfl⟩ h4
    refine hQ _ _ _ (by simp) ?_
    simp [Try.f74, h4, hx]
  refine gdL_f (fun hd => ?_) (fun hd => ?_)
  · simp [hd]
    refine bad (fun hx => by subst hx; simp at hd) _ _ ⟨_, rfl⟩ (by simp)
  simp [hd, builtinV, pureB, lenV]
  refine selS_intro (fun hl => ?_) (fun hl => ?_)
  · simp
    refine bad (fun hx => by subst hx; simp at hl) _ _ ⟨_, rfl⟩ (by simp)
  simp at hl hd
  simp
  refine wpS_loop (fun j tm H' => ∃ i, i + j = x.ports.length ∧ tm 2 = .ptr H.length 0 0 ∧ tm 3 = .ptr (H.length + 1) 0 0 ∧ tm 5 = .int i ∧ H' = H ++ [some ⟨56, .wr, [x.enc a]⟩, some ⟨56, .wr, [y.enc b]⟩] ∧ x.ports.take i = y.ports.take i) x.ports.length (by rw [env_K]; omega) ⟨0, by simp, by simp, by simp, by simp, by simp [Bridge.enc], by simp⟩ ?_
  rintro j tm H' hj ⟨i, hij, t2, t3, t5, rfl, heq⟩ Q' hn' he' hr'
  simp [t2, t3, t5, Bridge.enc, builtinV, pureB, lenV]
  refine selS_intro (fun hc => ?_) (fun hc => ?_)
  · simp at hc
    have hc2 : i < y.ports.length := by omega
    obtain ⟨id, r, bl, rfl, hbl, hbe, hrow⟩ := ha i _ (by simp [hc]; rfl)
    obtain ⟨id2, r2, bl2, rfl, hbl2, hbe2, hrow2⟩ := hb i _ (by simp [hc2]; rfl)
    have hid := blkAt_len hbl
    have hid2 := blkAt_len hbl2
    have g4 : IntKind.i64.wrap ((i : Int) + 1) = (i : Int) + 1 := wrap64 (by omega) (by omega)
    simp [t2, t3, t5, indexAddrV, elemIs, hid, hid2, hbl, hbe, hbl2, hbe2, hc, hc2, hrow, hrow2, Port.enc]
    refine selS_intro (fun hd2 => ?_) (fun hd2 => ?_)
    · simp
      refine hr' _ _ ?_
      simp
      refine bad (fun hx => by subst hx; simp at hd2) _ _ ⟨_, rfl⟩ (by simp)
    · have hxy : x.ports[i] = y.ports[i] := by
        refine Port.enc_inj ?_
        simpa [Port.enc] using hd2
      simp [t2, t3, t5, g4]
      exact hn' (j - 1) _ _ (by omega) ⟨i + 1, by omega, by simp [t2], by simp [t3], by simp, by simp [Bridge.enc], by rw [List.take_add_one, List.take_add_one, heq]; simp [hc, hc2, hxy]⟩
  · simp at hc
    simp [t2, t3, t5]
    refine he' _ _ _ ?_
    simp
    refine hQ _ _ _ (by simp) ?_
    have hp : x.ports = y.ports := by
      rw [List.take_of_length_le (by omega), List.take_of_length_le (by omega)] at heq
      exact heq
    have : x = y := by
      obtain ⟨x1, x2⟩ := x
      obtain ⟨y1, y2⟩ := y
      simp_all
    simp [Try.f74, this]

theorem specSame_is {H : Heap} {l r : List Lf} {x y : Net} (h : RdNet H l x) (hn : x.sz ≤ 1048576) (h2 : RdNet H r y) (hn2 : y.sz ≤ 1048576) : run env 22 [.agg l, .agg r] H = some (.bool (decide (x = y)), H) := by
  obtain ⟨_, _, rfl, ⟨a, rws, rfl, hs, hlen, hat⟩, ⟨c, rfl, hc1⟩⟩ := h
  obtain ⟨_, _, rfl, ⟨b, rws2, rfl, hs2, hlen2, hat2⟩, ⟨d, rfl, hd1⟩⟩ := h2
  unfold Net.sz at hn
  have hbl0 := BridgeS.sz_len x.bridges
  refine run_walk ok22 Try.func22 rfl (by simp [Try.f22]) fun Q hQ => ?_
  simp only [Try.f22, strip, stripL, stripI, stripG, chkT, tagsB, tagsL, tagD, addT, tagA, lookN, tagOp, elmT, ty22, ty24, ty25, ty33, ty54, ty58, ty95, ty122, Nat.reduceEqDiff, if_false, reduceIte, Option.getD_some, Option.getD_none, dstAt, dstOk, Nat.reduceLT, decide_true, if_true]
  simp [Net.enc, builtinV, pureB, lenV]
  have bad : x ≠ y → ∀ tm H', (∃ G, H' = H ++ G) → tm 4 = .bool false → Q .ret tm H' := by
    rintro hx tm _ ⟨G, rfl⟩ h4
    refine hQ _ _ _ (by simp) ?_
    simp [Try.f22, h4, hx]
  refine gdL_f (fun hd => ?_) (fun hd => ?_)
  · simp [hd]
    refine bad (fun hx => by subst hx; simp at hd) _ _ ⟨_, rfl⟩ (by simp)
  simp [hd, builtinV, pureB, lenV]
  refine selS_intro (fun hl => ?_) (fun hl => ?_)
  · simp
    refine bad (fun hx => by subst hx; simp at hl) _ _ ⟨_, rfl⟩ (by simp)
  simp at hl hd
  simp
  refine wpS_loop (fun j tm H' => ∃ i, i + j = x.bridges.length ∧ tm 2 = .ptr H.length 0 0 ∧ tm 3 = .ptr (H.length + 1) 0 0 ∧ tm 5 = .int i ∧ H' = H ++ [some ⟨27, .wr, [x.enc (.sl a x.bridges.length) (.sl c x.links.length)]⟩, some ⟨27, .wr, [y.enc (.sl b y.bridges.length) (.sl d y.links.length)]⟩] ∧ x.bridges.take i = y.bridges.take i) x.bridges.length (by rw [env_K]; omega) ⟨0, by simp, by simp, by simp, by simp, by simp [Net.enc], by simp⟩ ?_
  rintro j tm H' hj ⟨i, hij, t2, t3, t5, rfl, heq⟩ Q' hn' he' hr'
  simp [t2, t3, t5, Net.enc, builtinV, pureB, lenV]
  refine selS_intro (fun hc => ?_) (fun hc => ?_)
  · simp at hc
    have hc2 : i < y.bridges.length := by omega
    have hri : i < rws.length := by omega
    have hri2 : i < rws2.length := by omega
    obtain ⟨id, r, bl, rfl, hbl, hbe, hrow⟩ := hs i _ (List.getElem?_eq_getElem hri)
    obtain ⟨id2, r2, bl2, rfl, hbl2, hbe2, hrow2⟩ := hs2 i _ (List.getElem?_eq_getElem hri2)
    have hid := blkAt_len hbl
    have hid2 := blkAt_len hbl2
    have he := hat i _ _ (List.getElem?_eq_getElem hri) (List.getElem?_eq_getElem hc)
    have he2 := hat2 i _ _ (List.getElem?_eq_getElem hri2) (List.getElem?_eq_getElem hc2)
    have hL := he.len
    have hT : rws[i].take rws[i].length = rws[i] := List.take_length
    rw [hL] at hT
    have hL2 := he2.len
    have hT2 : rws2[i].take rws2[i].length = rws2[i] := List.take_length
    rw [hL2] at hT2
    have g4 : IntKind.i64.wrap ((i : Int) + 1) = (i : Int) + 1 := wrap64 (by omega) (by omega)
    have hsz := BridgeS.sz_at (List.getElem_mem hc)
    have ee := fun G => specL10Bridge (he.app G) (he2.app G) (by omega)
    simp [t2, t3, t5, indexAddrV, elemIs, hid, hid2, hbl, hbe, hbl2, hbe2, hc, hc2, hrow, hrow2, hL, hT, hL2, hT2, ee]
    refine selS_intro (fun hd => ?_) (fun hd => ?_)
    · simp
      refine hr' _ _ ?_
      simp
      simp at hd
      refine bad (fun hx => by subst hx; simp at hd) _ _ ⟨_, rfl⟩ (by simp)
    · simp at hd
      simp [t2, t3, t5, g4]
      exact hn' (j - 1) _ _ (by omega) ⟨i + 1, by omega, by simp [t2], by simp [t3], by simp, by simp [Net.enc], by rw [List.take_add_one, List.take_add_one, heq]; simp [hc, hc2, hd]⟩
  · simp at hc
    have hbr : x.bridges = y.bridges := by
      rw [List.take_of_length_le (by omega), List.take_of_length_le (by omega)] at heq
      exact heq
    simp [t2, t3, t5]
    refine he' _ _ _ ?_
    simp
    refine wpS_loop (fun j tm H' => ∃ i, i + j = x.links.length ∧ tm 2 = .ptr H.length 0 0 ∧ tm 3 = .ptr (H.length + 1) 0 0 ∧ tm 6 = .int i ∧ H' = H ++ [some ⟨27, .wr, [x.enc (.sl a x.bridges.length) (.sl c x.links.length)]⟩, some ⟨27, .wr, [y.enc (.sl b y.bridges.length) (.sl d y.links.length)]⟩] ∧ x.links.take i = y.links.take i) x.links.length (by rw [env_K]; omega) ⟨0, by simp, by simp [t2], by simp [t3], by simp, by simp [Net.enc], by simp⟩ ?_
    rintro j tm H' hj ⟨i, hij, t2, t3, t6, rfl, heq⟩ Q'' hn'' he'' hr''
    simp [t2, t3, t6, Net.enc, builtinV, pureB, lenV]
    refine selS_intro (fun hc => ?_) (fun hc => ?_)
    · simp at hc
      have hc2 : i < y.links.length := by omega
      obtain ⟨id, r, bl, rfl, hbl, hbe, hrow⟩ := hc1 i _ (by simp [hc]; rfl)
      obtain ⟨id2, r2, bl2, rfl, hbl2, hbe2, hrow2⟩ := hd1 i _ (by simp [hc2]; rfl)
      have hid := blkAt_len hbl
      have hid2 := blkAt_len hbl2
      have g4 : IntKind.i64.wrap ((i : Int) + 1) = (i : Int) + 1 := wrap64 (by omega) (by omega)
      simp [t2, t3, t6, indexAddrV, elemIs, hid, hid2, hbl, hbe, hbl2, hbe2, hc, hc2, hrow, hrow2, Link.enc]
      refine selS_intro (fun hd2 => ?_) (fun hd2 => ?_)
      · simp
        refine hr'' _ _ ?_
        simp
        refine bad (fun hx => by subst hx; simp at hd2) _ _ ⟨_, rfl⟩ (by simp)
      · have hxy : x.links[i] = y.links[i] := by
          refine Link.enc_inj ?_
          simpa [Link.enc] using hd2
        simp [t2, t3, t6, g4]
        exact hn'' (j - 1) _ _ (by omega) ⟨i + 1, by omega, by simp [t2], by simp [t3], by simp, by simp [Net.enc], by rw [List.take_add_one, List.take_add_one, heq]; simp [hc, hc2, hxy]⟩
    · simp at hc
      simp [t2, t3, t6]
      refine he'' _ _ _ ?_
      simp
      refine hQ _ _ _ (by simp) ?_
      have hp : x.links = y.links := by
        rw [List.take_of_length_le (by omega), List.take_of_length_le (by omega)] at heq
        exact heq
      have : x = y := by
        obtain ⟨x1, x2⟩ := x
        obtain ⟨y1, y2⟩ := y
        simp_all
      simp [Try.f22, this]

def isEndP (n : Net) (a p : Int) : Prop := ∃ (i k : Nat) (b : Bridge), a = i ∧ p = k ∧ n.bridges[i]? = some b ∧ k < b.ports.length
def endsOf (ls : List Link) : List (Int × Int) := ls.flatMap fun l => [(l.a, l.p), (l.b, l.q)]
def Net.P (n : Net) : Prop := (1 ≤ n.bridges.length ∧ n.bridges.length ≤ 5) ∧ n.links.length ≤ 6 ∧ (∀ b ∈ n.bridges, b.ok = true) ∧ (∀ (i j : Nat) (b c : Bridge), i < j → n.bridges[i]? = some b → n.bridges[j]? = some c → b.id ≠ c.id) ∧
  (∀ l ∈ n.links, l.a ≠ l.b ∧ isEndP n l.a l.p ∧ isEndP n l.b l.q) ∧ (endsOf n.links).Nodup ∧ ∀ (i k : Nat) (b : Bridge) (p : Port), n.bridges[i]? = some b → b.ports[k]? = some p → (p.up = true ↔ ((i : Int), (k : Int)) ∈ endsOf n.links)
noncomputable def Net.ok (n : Net) : Bool := @decide n.P (Classical.propDecidable _)
theorem Net.ok_iff (n : Net) : n.ok = true ↔ n.P := by unfold Net.ok; exact @decide_eq_true_iff _ (Classical.propDecidable _)
theorem Net.ok_false {n : Net} (h : ¬ n.P) : n.ok = false := by
  cases hk : n.ok
  · rfl
  · exact absurd ((Net.ok_iff n).1 hk) h
noncomputable def isEndB (n : Net) (a p : Int) : Bool := @decide (isEndP n a p) (Classical.propDecidable _)
theorem isEndB_iff (n : Net) (a p : Int) : isEndB n a p = true ↔ isEndP n a p := by unfold isEndB; exact @decide_eq_true_iff _ (Classical.propDecidable _)
theorem isEndB_false {n : Net} {a p : Int} (h : ¬ isEndP n a p) : isEndB n a p = false := by
  cases hk : isEndB n a p
  · rfl
  · exact absurd ((isEndB_iff n a p).1 hk) h
def encE (e : Int × Int) : List Lf := [.i .i64 e.1, .i .i64 e.2]
@[simp] theorem encE_len (e : Int × Int) : (encE e).length = 2 := rfl
@[simp] theorem encE_take (e : Int × Int) : List.take 2 (encE e) = encE e := rfl

theorem linkEnds (H : Heap) (l : Link) : run env 60 [.agg l.enc] H = some (.tup [.agg (encE (l.a, l.p)), .agg (encE (l.b, l.q))], H) := by
  refine run_walk ok60 Try.func60 rfl (by simp [Try.f60]) fun Q hQ => ?_
  simp only [Try.f60, strip, stripL, stripI, stripG, chkT, tagsB, tagsL, tagD, addT, tagA, lookN, tagOp, elmT, ty22, ty24, ty25, ty33, ty54, ty58, ty95, ty122, Nat.reduceEqDiff, if_false, reduceIte, Option.getD_some, Option.getD_none, dstAt, dstOk, Nat.reduceLT, decide_true, if_true]
  simp [Link.enc]
  refine hQ _ _ _ (by simp) ?_
  simp [Try.f60, encE]

theorem isEnd {H : Heap} {id : Nat} {l : List Lf} {n : Net} (hb : blkAt H id = some ⟨27, .wr, [l]⟩) (h : RdNet H l n) (hn : n.sz ≤ 1048576) (a p : Int) :
    run env 61 [.ptr id 0 0, .agg (encE (a, p))] H = some (.bool (isEndB n a p), H) := by
  obtain ⟨_, _, rfl, ⟨a0, rws, rfl, hs, hlen, hat⟩, ⟨c, rfl, hc1⟩⟩ := h
  unfold Net.sz at hn
  have hbl0 := BridgeS.sz_len n.bridges
  have hid0 := blkAt_len hb
  have w1 : IntKind.i64.wrap ((n.bridges.length : Int) - 1) = (n.bridges.length : Int) - 1 := wrap64 (by omega) (by omega)
  refine run_walk ok61 Try.func61 rfl (by simp [Try.f61]) fun Q hQ => ?_
  simp only [Try.f61, strip, stripL, stripI, stripG, chkT, tagsB, tagsL, tagD, addT, tagA, lookN, tagOp, elmT, ty22, ty24, ty25, ty33, ty54, ty58, ty95, ty122, Nat.reduceEqDiff, if_false, reduceIte, Option.getD_some, Option.getD_none, dstAt, dstOk, Nat.reduceLT, decide_true, if_true]
  simp [Net.enc, encE, hb, hid0, builtinV, pureB, lenV, w1, inRange]
  refine gdL_t (fun hd => ?_) (fun hd => ?_)
  · simp [hd]
    simp at hd
    have hai : a.toNat < n.bridges.length := by omega
    have hri : a.toNat < rws.length := by omega
    obtain ⟨id2, r, bl, rfl, hbl, hbe, hrow⟩ := hs a.toNat _ (List.getElem?_eq_getElem hri)
    have hid := blkAt_len hbl
    have he := hat a.toNat _ _ (List.getElem?_eq_getElem hri) (List.getElem?_eq_getElem hai)
    obtain ⟨a1, hrw, hpo⟩ := he
    have hsz := BridgeS.sz_at (List.getElem_mem hai)
    have hsz2 : (n.bridges[a.toNat]).ports.length ≤ 1048576 := by have : (n.bridges[a.toNat]).sz = (n.bridges[a.toNat]).ports.length := rfl; omega
    have w2 : IntKind.i64.wrap (((n.bridges[a.toNat]).ports.length : Int) - 1) = ((n.bridges[a.toNat]).ports.length : Int) - 1 := wrap64 (by omega) (by omega)
    have hd1 : a < (n.bridges.length : Int) := by omega
    have hd0 : 0 ≤ a := by omega
    simp [hb, hid0, indexAddrV, elemIs, hid, hbl, hbe, hrow, hd0, hd1, hrw, Net.enc, Bridge.enc, builtinV, pureB, lenV, w2, inRange]
    refine hQ _ _ _ (by simp) ?_
    simp [Try.f61]
    by_cases hp : 0 ≤ p ∧ p ≤ (n.bridges[a.toNat]).ports.length - 1
    · have : isEndB n a p = true := (isEndB_iff n a p).2 ⟨a.toNat, p.toNat, n.bridges[a.toNat], by omega, by omega, List.getElem?_eq_getElem hai, by omega⟩
      simp [this, hp]
    · have : isEndB n a p = false := isEndB_false fun ⟨i, k, b, h1, h2, h3, h4⟩ => hp (by
        subst h1; subst h2
        simp at hai h3
        rw [List.getElem?_eq_getElem hai] at h3
        injection h3 with h3
        simp [h3]
        omega)
      simp [this]
      omega
  · simp [hd]
    refine hQ _ _ _ (by simp) ?_
    simp at hd
    have : isEndB n a p = false := isEndB_false fun ⟨i, k, b, h1, h2, h3, h4⟩ => by
      have := (List.getElem?_eq_some_iff.1 h3).1
      omega
    simp [Try.f61, this]

theorem endsIndex {H : Heap} {a : Option (Nat × Nat)} {es : List (Int × Int)} (h : Sl H 75 a (es.map encE)) (hn : es.length ≤ 2500000) (e : Int × Int) :
    run env 108 [.w (.lf (.sl a es.length)), .agg (encE e)] H = some (.bool (decide (e ∈ es)), H) := by
  have key : ∀ G, Runs env 126 [.w (.lf (.sl a es.length)), .agg (encE e)] (H ++ G) fun v H' => H' = H ++ G ∧ ∃ k : Int, v = .int k ∧ (0 ≤ k ↔ e ∈ es) := by
    intro G
    have h := h.app G
    refine Runs.walk ok126 Try.func126 rfl (by simp [Try.f126]) fun Q hQ => ?_
    simp only [Try.f126, strip, stripL, stripI, stripG, chkT, tagsB, tagsL, tagD, addT, tagA, lookN, tagOp, elmT, ty22, ty24, ty25, ty33, ty54, ty58, ty95, ty122, Nat.reduceEqDiff, if_false, reduceIte, Option.getD_some, Option.getD_none, dstAt, dstOk, Nat.reduceLT, decide_true, if_true]
    simp [builtinV, pureB, lenV]
    refine wpS_loop (fun j tm H' => ∃ i, i + j = es.length ∧ tm 0 = .w (.lf (.sl a es.length)) ∧ tm 3 = .ptr (H ++ G).length 0 0 ∧ tm 7 = .int es.length ∧ tm 8 = .int i ∧ H' = (H ++ G) ++ [some ⟨75, .wr, [encE e]⟩] ∧ ∀ x ∈ es.take i, x ≠ e) es.length (by rw [env_K]; omega) ⟨0, by simp, by simp, by simp, by simp, by simp, by simp, by simp⟩ ?_
    rintro j tm H' hj ⟨i, hij, t0, t3, t7, t8, rfl, hno⟩ Q' hn' he' hr'
    simp [t0, t3, t7, t8]
    refine selS_intro (fun hc => ?_) (fun hc => ?_)
    · simp at hc
      obtain ⟨id, r, bl, rfl, hbl, hbe, hrow⟩ := h i _ (by simp [hc]; rfl)
      have hid := blkAt_len hbl
      have hbl2 := fun T => blkAt_app hbl T
      simp only [List.append_assoc] at hbl2
      have g4 : IntKind.i64.wrap ((i : Int) + 1) = (i : Int) + 1 := wrap64 (by omega) (by omega)
      simp [t0, t3, t7, t8, indexAddrV, elemIs, hbl2, hbe, hc, hrow, encE]
      refine selS_intro (fun hd => ?_) (fun hd => ?_)
      · simp
        refine hr' _ _ ?_
        simp
        refine hQ _ _ _ (by simp) ?_
        simp at hd
        have : e = es[i] := Prod.ext hd.1 hd.2
        simp [Try.f126]
        refine ⟨?_, ?_⟩
        · rw [← List.append_assoc]; exact leave_free _ _ _ (by simp)
        · rw [this]; exact List.getElem_mem hc
      · simp [t0, t3, t7, t8, g4]
        refine hn' (j - 1) _ _ (by omega) ⟨i + 1, by omega, by simp [t0], by simp [t3], by simp [t7], by simp, by simp [encE], ?_⟩
        intro x hx
        rw [List.take_add_one, List.getElem?_eq_getElem hc, List.mem_append] at hx
        rcases hx with hx | hx
        · exact hno x hx
        · simp at hx
          subst hx
          intro hx2
          subst hx2
          simp at hd
    · simp at hc
      simp [t0, t3, t7, t8]
      refine he' _ _ _ ?_
      simp
      refine hQ _ _ _ (by simp) ?_
      rw [List.take_of_length_le (by omega)] at hno
      simp [Try.f126]
      refine ⟨?_, ?_⟩
      · rw [← List.append_assoc]; exact leave_free _ _ _ (by simp)
      · intro hm; exact hno e hm rfl
  refine run_walk ok108 Try.func108 rfl (by simp [Try.f108]) fun Q hQ => ?_
  simp only [Try.f108, strip, stripL, stripI, stripG, chkT, tagsB, tagsL, tagD, addT, tagA, lookN, tagOp, elmT, ty22, ty24, ty25, ty33, ty54, ty58, ty95, ty122, Nat.reduceEqDiff, if_false, reduceIte, Option.getD_some, Option.getD_none, dstAt, dstOk, Nat.reduceLT, decide_true, if_true]
  simp
  refine stpL_runs (key _) ?_
  rintro _ _ ⟨rfl, k, rfl, hk⟩
  simp
  refine hQ _ _ _ (by simp) ?_
  simp [Try.f108, hk]

def linksP (n : Net) : Prop := (∀ l ∈ n.links, l.a ≠ l.b ∧ isEndP n l.a l.p ∧ isEndP n l.b l.q) ∧ (endsOf n.links).Nodup ∧ (∀ (i k : Nat) (b : Bridge) (p : Port), n.bridges[i]? = some b → b.ports[k]? = some p → (p.up = true ↔ ((i : Int), (k : Int)) ∈ endsOf n.links)) ∧ n.links.length ≤ 6
noncomputable def linksB (n : Net) : Bool := @decide (linksP n) (Classical.propDecidable _)
theorem linksB_iff (n : Net) : linksB n = true ↔ linksP n := by unfold linksB; exact @decide_eq_true_iff _ (Classical.propDecidable _)
theorem linksB_false {n : Net} (h : ¬ linksP n) : linksB n = false := by
  cases hk : linksB n
  · rfl
  · exact absurd ((linksB_iff n).1 hk) h
theorem endsOf_split {ls : List Link} {i : Nat} (h : i < ls.length) : endsOf ls = endsOf (ls.take i) ++ ((ls[i].a, ls[i].p) :: (ls[i].b, ls[i].q) :: endsOf (ls.drop (i + 1))) := by
  have e : ls = ls.take i ++ (ls[i] :: ls.drop (i + 1)) := by rw [← List.drop_eq_getElem_cons h, List.take_append_drop]
  unfold endsOf
  conv => lhs; rw [e]
  rw [List.flatMap_append, List.flatMap_cons]; rfl
theorem endsOf_take {ls : List Link} {i : Nat} (h : i < ls.length) : endsOf (ls.take (i + 1)) = endsOf (ls.take i) ++ [(ls[i].a, ls[i].p), (ls[i].b, ls[i].q)] := by
  unfold endsOf
  rw [List.take_add_one, List.getElem?_eq_getElem h, List.flatMap_append]; simp
theorem endsOf_len (ls : List Link) : (endsOf ls).length = 2 * ls.length := by
  induction ls with
  | nil => rfl
  | cons l ls ih => unfold endsOf at ih ⊢; rw [List.flatMap_cons, List.length_append, ih]; simp; omega
theorem linksOk {H : Heap} {id : Nat} {l : List Lf} {n : Net} (hb : blkAt H id = some ⟨27, .wr, [l]⟩) (h : RdNet H l n) (hn : n.sz ≤ 1048576) :
    run env 76 [.ptr id 0 0] H = some (.bool (linksB n), H) := by
  have hR := h
  have hn0 := hn
  obtain ⟨_, _, rfl, ⟨a0, rws, rfl, hs, hlen, hat⟩, ⟨c, rfl, hc1⟩⟩ := h
  unfold Net.sz at hn
  have hbl0 := BridgeS.sz_len n.bridges
  have hid0 := blkAt_len hb
  refine run_walk ok76 Try.func76 rfl (by simp [Try.f76]) fun Q hQ => ?_
  simp only [Try.f76, strip, stripL, stripI, stripG, chkT, tagsB, tagsL, tagD, addT, tagA, lookN, tagOp, elmT, ty22, ty24, ty25, ty33, ty54, ty58, ty95, ty122, Nat.reduceEqDiff, if_false, reduceIte, Option.getD_some, Option.getD_none, dstAt, dstOk, Nat.reduceLT, decide_true, if_true]
  have bad : ¬ linksP n → ∀ tm H', (∃ G, H' = H ++ G) → tm 2 = .bool false → Q .ret tm H' := by
    rintro hx tm _ ⟨G, rfl⟩ h4
    refine hQ _ _ _ (by simp) ?_
    simp [Try.f76, h4, linksB_false hx]
  simp [hb, Net.enc, builtinV, pureB, lenV]
  refine wpS_loop (fun j tm H' => ∃ i G aU fU, i + j = n.links.length ∧ tm 0 = .ptr id 0 0 ∧ tm 3 = .w (.lf (.sl aU (endsOf (n.links.take i)).length)) ∧ tm 15 = .w (.lf (.sl c n.links.length)) ∧ tm 16 = .int n.links.length ∧ tm 17 = .int i ∧ H' = H ++ G ∧
      Own (H ++ G) 75 aU ((endsOf (n.links.take i)).map encE) fU ∧ (∀ k ∈ fU, H.length ≤ k) ∧ (∀ l ∈ n.links.take i, l.a ≠ l.b ∧ isEndP n l.a l.p ∧ isEndP n l.b l.q) ∧ (endsOf (n.links.take i)).Nodup) n.links.length (by rw [env_K]; omega)
    ⟨0, [], none, [], by simp, by simp, by simp [endsOf], by simp, by simp, by simp, by simp, by simpa [endsOf] using Own.nil H _, by simp, by simp, by simp [endsOf]⟩ ?_
  rintro j tm H' hj ⟨i, G, aU, fU, hij, t0, t3, t15, t16, t17, rfl, ho, hfU, hall, hnd⟩ Q' hn' he' hr'
  simp [t0, t3, t15, t16, t17]
  refine selS_intro (fun hc => ?_) (fun hc => ?_)
  · simp at hc
    obtain ⟨id2, r, bl, rfl, hbl, hbe, hrow⟩ := hc1 i _ (by simp [hc]; rfl)
    have hid := blkAt_len hbl
    have g4 : IntKind.i64.wrap ((i : Int) + 1) = (i : Int) + 1 := wrap64 (by omega) (by omega)
    obtain ⟨L, hL⟩ : ∃ L, L = n.links[i] := ⟨_, rfl⟩
    have hLm : L ∈ n.links := by rw [hL]; exact List.getElem_mem hc
    have hsp := endsOf_split hc
    have htk := endsOf_take hc
    rw [← hL] at hsp htk
    have hel := endsOf_len (n.links.take i)
    have hel2 : (n.links.take i).length ≤ n.links.length := by simp; omega
    have e1 := fun G => linkEnds (H ++ G) L
    have e2 := fun G a p => isEnd (blkAt_app hb G) (hR.app G) hn0 a p
    have e3 := fun T e => endsIndex (ho.app2 T).sl (by omega) e
    have e1' := e1
    simp only [Link.enc, encE] at e1 e2 e3
    have e2 := fun G a p => e2 G a p
    have e3 := fun T x y => e3 T (x, y)
    simp only at e3
    simp [t0, t3, t15, t16, t17, indexAddrV, elemIs, hid, hbl, hbe, hc, hrow, ← hL, Link.enc, e1]
    repeat' (first | (refine gdL_t (fun h => ?_) (fun h => ?_) <;> simp [h, e2, e3, t0, t3]) | (refine gdL_f (fun h => ?_) (fun h => ?_) <;> simp [h, e2, e3, t0, t3]) | (refine selS_intro (fun h => ?_) (fun h => ?_) <;> simp [h, e2, e3, t0, t3]))
    · refine hr' _ _ ?_
      simp
      refine bad (fun hp => (hp.1 L hLm).1 (by simpa using h)) _ _ ⟨_, rfl⟩ (by simp)
    · refine hr' _ _ ?_
      simp
      refine bad (fun hp => ?_) _ _ ⟨_, rfl⟩ (by simp)
      have := (isEndB_iff n L.a L.p).2 (hp.1 L hLm).2.1
      simp [this] at h
    · refine hr' _ _ ?_
      simp
      refine bad (fun hp => ?_) _ _ ⟨_, rfl⟩ (by simp)
      have := (isEndB_iff n L.b L.q).2 (hp.1 L hLm).2.2
      simp [this] at h
    · refine hr' _ _ ?_
      simp
      refine bad (fun hp => ?_) _ _ ⟨_, rfl⟩ (by simp)
      have := hp.2.1
      rw [hsp, List.nodup_append] at this
      exact this.2.2 _ (by simpa using h) (L.a, L.p) (by simp) rfl
    · refine hr' _ _ ?_
      simp
      refine bad (fun hp => ?_) _ _ ⟨_, rfl⟩ (by simp)
      have := hp.2.1
      rw [hsp, List.nodup_append] at this
      exact this.2.2 _ (by simpa using h) (L.b, L.q) (by simp) rfl
    · refine stpL_append (rows := (endsOf (n.links.take i)).map encE) (ys := [encE (L.a, L.p), encE (L.b, L.q)]) (ho.app2 _) (Sl.of (by simp [encE])) rfl rfl rfl (by simp) (by simp; omega) (by simp) rfl ?_
      intro a2 H2 f2 o2 hk2 hf2
      obtain ⟨⟨G2, rfl⟩, hf3⟩ := Fresh.grow hfU hk2 hf2
      simp [t0, t3, t15, t16, t17, g4]
      refine hn' (j - 1) _ _ (by omega) ⟨i + 1, G2, a2, f2, by omega, by simp [t0], by simp [htk], by simp [t15], by simp [t16], by simp, rfl, by simpa [htk] using o2, hf3, ?_, ?_⟩
      · intro l hl
        rw [List.take_add_one, List.getElem?_eq_getElem hc, List.mem_append] at hl
        rcases hl with hl | hl
        · exact hall l hl
        · simp at hl
          subst hl
          rw [← hL]
          exact ⟨by simp_all, (isEndB_iff n L.a L.p).1 (by simp_all), (isEndB_iff n L.b L.q).1 (by simp_all)⟩
      · rw [htk, List.nodup_append]
        refine ⟨hnd, ?_, ?_⟩
        · simp
          intro h1
          simp_all
        · intro x hx y hy
          simp at hy
          rintro rfl
          rcases hy with rfl | rfl <;> simp_all
  · simp at hc
    simp [t0, t3, t15, t16, t17]
    refine he' _ _ _ ?_
    rw [List.take_of_length_le (by omega)] at ho hall hnd t3
    have hel := endsOf_len n.links
    have e3 := fun T e => endsIndex (ho.app2 T).sl (by omega) e
    simp only [encE] at e3
    have e3 := fun T x y => e3 T (x, y)
    simp only at e3
    have hbG := fun T => blkAt_app hb T
    simp [t0, hbG, Net.enc, builtinV, pureB, lenV]
    refine wpS_loop (fun j tm H' => ∃ i T, i + j = n.bridges.length ∧ tm 0 = .ptr id 0 0 ∧ tm 3 = .w (.lf (.sl aU (endsOf n.links).length)) ∧ tm 62 = .w (.lf (.sl a0 n.bridges.length)) ∧ tm 63 = .int n.bridges.length ∧ tm 64 = .int i ∧ H' = H ++ (G ++ T) ∧
        ∀ (i' k : Nat) (b : Bridge) (p : Port), i' < i → n.bridges[i']? = some b → b.ports[k]? = some p → (p.up = true ↔ ((i' : Int), (k : Int)) ∈ endsOf n.links)) n.bridges.length (by rw [env_K]; omega)
      ⟨0, [], by simp, by simp [t0], by simp [t3], by simp, by simp, by simp, by simp, by simp⟩ ?_
    rintro j tm H' hj ⟨i, T, hij, t0, t3, t62, t63, t64, rfl, hup⟩ Q2 hn2 he2 hr2
    simp [t0, t3, t62, t63, t64]
    refine selS_intro (fun hc => ?_) (fun hc => ?_)
    · simp at hc
      have hri : i < rws.length := by omega
      obtain ⟨id2, r, bl, rfl, hbl, hbe, hrow⟩ := hs i _ (List.getElem?_eq_getElem hri)
      have hid := blkAt_len hbl
      have he := hat i _ _ (List.getElem?_eq_getElem hri) (List.getElem?_eq_getElem hc)
      obtain ⟨a1, hrw, hpo⟩ := he
      have hsz := BridgeS.sz_at (List.getElem_mem hc)
      have hsz2 : (n.bridges[i]).ports.length ≤ 1048576 := by have : (n.bridges[i]).sz = (n.bridges[i]).ports.length := rfl; omega
      have g4 : IntKind.i64.wrap ((i : Int) + 1) = (i : Int) + 1 := wrap64 (by omega) (by omega)
      simp [t0, t3, t62, t63, t64, indexAddrV, elemIs, hid, hbl, hbe, hc, hrow, hrw, Bridge.enc, builtinV, pureB, lenV]
      refine wpS_loop (fun j tm H' => ∃ k T, k + j = (n.bridges[i]).ports.length ∧ tm 0 = .ptr id 0 0 ∧ tm 3 = .w (.lf (.sl aU (endsOf n.links).length)) ∧ tm 62 = .w (.lf (.sl (some (id2, r)) n.bridges.length)) ∧ tm 63 = .int n.bridges.length ∧ tm 64 = .int i ∧ tm 8 = .int i ∧ tm 70 = .w (.lf (.sl a1 (n.bridges[i]).ports.length)) ∧ tm 71 = .int (n.bridges[i]).ports.length ∧ tm 72 = .int k ∧ H' = H ++ (G ++ T) ∧
          ∀ (k' : Nat) (p : Port), k' < k → (n.bridges[i]).ports[k']? = some p → (p.up = true ↔ ((i : Int), (k' : Int)) ∈ endsOf n.links)) (n.bridges[i]).ports.length (by rw [env_K]; omega)
        ⟨0, _, by simp, by simp [t0], by simp [t3], by simp [t62], by simp [t63], by simp [t64], by simp, by simp, by simp, by simp, rfl, by simp⟩ ?_
      rintro j2 tm H' hj2 ⟨k, T2, hij2, t0, t3, t62, t63, t64, t8, t70, t71, t72, rfl, hup2⟩ Q3 hn3 he3 hr3
      simp [t0, t3, t62, t63, t64, t8, t70, t71, t72]
      refine selS_intro (fun hc2 => ?_) (fun hc2 => ?_)
      · simp at hc2
        obtain ⟨id3, r3, bl3, rfl, hbl3, hbe3, hrow3⟩ := hpo k _ (by simp [hc2]; rfl)
        have hid3 := blkAt_len hbl3
        have g5 : IntKind.i64.wrap ((k : Int) + 1) = (k : Int) + 1 := wrap64 (by omega) (by omega)
        simp [t0, t3, t62, t63, t64, t8, t70, t71, t72, indexAddrV, elemIs, hid3, hbl3, hbe3, hc2, hrow3, Port.enc, e3]
        refine selS_intro (fun hd => ?_) (fun hd => ?_)
        · simp
          refine hr3 _ _ ?_
          simp
          refine hr2 _ _ ?_
          simp
          refine bad (fun hp => ?_) _ _ ⟨_, rfl⟩ (by simp)
          have h1 := hp.2.2.1 i k _ _ (List.getElem?_eq_getElem hc) (List.getElem?_eq_getElem hc2)
          have h2 : (n.bridges[i]).ports[k].up = decide (((i : Int), (k : Int)) ∈ endsOf n.links) := by
            rw [Bool.eq_iff_iff]
            simpa using h1
          rw [h2] at hd
          simp at hd
        · simp [t0, t3, t62, t63, t64, t8, t70, t71, t72, g5]
          refine hn3 (j2 - 1) _ _ (by omega) ⟨k + 1, _, by omega, by simp [t0], by simp [t3], by simp [t62], by simp [t63], by simp [t64], by simp [t8], by simp [t70], by simp [t71], by simp, rfl, ?_⟩
          intro k' p hk' hp
          rcases Nat.lt_or_ge k' k with hlt | hge
          · exact hup2 k' p hlt hp
          · obtain rfl : k' = k := by omega
            rw [List.getElem?_eq_getElem hc2] at hp
            injection hp with hp
            subst hp
            simp at hd
            simp [hd]
      · simp at hc2
        simp [t0, t3, t62, t63, t64, t8, t70, t71, t72]
        refine he3 _ _ _ ?_
        simp [t0, t3, t62, t63, t64, g4]
        refine hn2 (j - 1) _ _ (by omega) ⟨i + 1, _, by omega, by simp [t0], by simp [t3], by simp [t62], by simp [t63], by simp, rfl, ?_⟩
        intro i' k' b p hi' hb' hp'
        rcases Nat.lt_or_ge i' i with hlt | hge
        · exact hup i' k' b p hlt hb' hp'
        · obtain rfl : i' = i := by omega
          rw [List.getElem?_eq_getElem hc] at hb'
          injection hb' with hb'
          subst hb'
          exact hup2 k' p (by have := (List.getElem?_eq_some_iff.1 hp').1; omega) hp'
    · simp at hc
      simp [t0, t3, t62, t63, t64]
      refine he2 _ _ _ ?_
      simp [t0, hbG, Net.enc, builtinV, pureB, lenV]
      refine hQ _ _ _ (by simp) ?_
      have hfin : linksB n = decide ((n.links.length : Int) ≤ 6) := by
        by_cases h6 : n.links.length ≤ 6
        · have : linksB n = true := (linksB_iff n).2 ⟨hall, hnd, fun i k b p h1 h2 => hup i k b p (by have := (List.getElem?_eq_some_iff.1 h1).1; omega) h1 h2, h6⟩
          rw [this]
          simp
          omega
        · rw [linksB_false fun hp => h6 hp.2.2.2]
          simp
          omega
      simp [Try.f76, hfin]

theorem netP_iff (n : Net) : n.P ↔ (∀ b ∈ n.bridges, b.ok = true) ∧ (∀ (i j : Nat) (b c : Bridge), i < j → n.bridges[i]? = some b → n.bridges[j]? = some c → b.id ≠ c.id) ∧ (1 ≤ n.bridges.length ∧ n.bridges.length ≤ 5) ∧ linksP n := by
  unfold Net.P linksP
  constructor
  · rintro ⟨h1, h2, h3, h4, h5, h6, h7⟩; exact ⟨h3, h4, h1, h5, h6, h7, h2⟩
  · rintro ⟨h3, h4, h1, h5, h6, h7, h2⟩; exact ⟨h1, h2, h3, h4, h5, h6, h7⟩
theorem implNetOk_is {H : Heap} {l : List Lf} {n : Net} (h : RdNet H l n) (hn : n.sz ≤ 1048576) : run env 23 [.agg l] H = some (.bool n.ok, H) := by
  have hR := h
  have hn0 := hn
  obtain ⟨_, _, rfl, ⟨a0, rws, rfl, hs, hlen, hat⟩, ⟨c, rfl, hc1⟩⟩ := h
  unfold Net.sz at hn
  have hbl0 := BridgeS.sz_len n.bridges
  refine run_walk ok23 Try.func23 rfl (by simp [Try.f23]) fun Q hQ => ?_
  simp only [Try.f23, strip, stripL, stripI, stripG, chkT, tagsB, tagsL, tagD, addT, tagA, lookN, tagOp, elmT, ty22, ty24, ty25, ty33, ty54, ty58, ty95, ty122, Nat.reduceEqDiff, if_false, reduceIte, Option.getD_some, Option.getD_none, dstAt, dstOk, Nat.reduceLT, decide_true, if_true]
  have bad : ¬ n.P → ∀ tm H', (∃ G, H' = H ++ G) → tm 2 = .bool false → Q .ret tm H' := by
    rintro hx tm _ ⟨G, rfl⟩ h4
    refine hQ _ _ _ (by simp) ?_
    simp [Try.f23, h4, Net.ok_false hx]
  simp [Net.enc, builtinV, pureB, lenV]
  obtain ⟨B, hB⟩ : ∃ B : Option Blk, B = some ⟨27, .wr, [n.enc (.sl a0 n.bridges.length) (.sl c n.links.length)]⟩ := ⟨_, rfl⟩
  refine wpS_loop (fun j tm H' => ∃ i T, i + j = n.bridges.length ∧ tm 1 = .ptr H.length 0 0 ∧ tm 8 = .w (.lf (.sl a0 n.bridges.length)) ∧ tm 9 = .int n.bridges.length ∧ tm 10 = .int i ∧ H' = H ++ B :: T ∧
      (∀ (i' : Nat) (b : Bridge), i' < i → n.bridges[i']? = some b → b.ok = true) ∧ ∀ (i' j' : Nat) (b d : Bridge), i' < j' → j' < i → n.bridges[i']? = some b → n.bridges[j']? = some d → b.id ≠ d.id) n.bridges.length (by rw [env_K]; omega)
    ⟨0, [], by simp, by simp, by simp, by simp, by simp, by simp [hB, Net.enc], by simp, by simp⟩ ?_
  rintro j tm H' hj ⟨i, T, hij, t1, t8, t9, t10, rfl, hok, hid⟩ Q2 hn2 he2 hr2
  simp [t1, t8, t9, t10]
  refine selS_intro (fun hc => ?_) (fun hc => ?_)
  · simp at hc
    have hri : i < rws.length := by omega
    obtain ⟨id2, r, bl, rfl, hbl, hbe, hrow⟩ := hs i _ (List.getElem?_eq_getElem hri)
    have hid2 := blkAt_len hbl
    have he := hat i _ _ (List.getElem?_eq_getElem hri) (List.getElem?_eq_getElem hc)
    have hsz := BridgeS.sz_at (List.getElem_mem hc)
    have e1 := fun G => implBridgeOk_is (he.app G) (by omega)
    obtain ⟨a1, hrw, hpo⟩ := he
    rw [hrw] at e1 hrow
    simp only [Bridge.enc] at e1
    have g4 : IntKind.i64.wrap ((i : Int) + 1) = (i : Int) + 1 := wrap64 (by omega) (by omega)
    simp [t1, t8, t9, t10, indexAddrV, elemIs, hid2, hbl, hbe, hc, hrow, Bridge.enc, e1]
    refine selS_intro (fun hd => ?_) (fun hd => ?_)
    · simp
      refine hr2 _ _ ?_
      simp
      refine bad (fun hp => ?_) _ _ ⟨_, rfl⟩ (by simp)
      have := hp.2.2.1 _ (List.getElem_mem hc)
      simp [this] at hd
    · have hi1 : (i : Int) ≤ n.bridges.length := by omega
      simp [t1, t8, t9, t10, hB, Net.enc, sliceV, elemIs, hid2, hbl, hbe, bnd, hi1, builtinV, pureB, lenV]
      obtain ⟨BB, hBB⟩ : ∃ BB : Option Blk, BB = some ⟨56, .wr, [[.i .i64 (n.bridges[i]).id, .sl a1 (n.bridges[i]).ports.length]]⟩ := ⟨_, rfl⟩
      refine wpS_loop (fun j tm H' => ∃ k T2, k + j = i ∧ tm 1 = .ptr H.length 0 0 ∧ tm 8 = .w (.lf (.sl (some (id2, r)) n.bridges.length)) ∧ tm 9 = .int n.bridges.length ∧ tm 10 = .int i ∧ tm 4 = .ptr (H.length + (T.length + 1)) 0 0 ∧ tm 21 = .w (.lf (.sl (some (id2, r)) i)) ∧ tm 22 = .int i ∧ tm 23 = .int k ∧ H' = H ++ B :: (T ++ BB :: T2) ∧
          ∀ (k' : Nat) (b : Bridge), k' < k → n.bridges[k']? = some b → b.id ≠ (n.bridges[i]).id) i (by rw [env_K]; omega)
        ⟨0, [], by simp, by simp [t1], by simp [t8], by simp [t9], by simp [t10], by simp, by simp, by simp, by simp, by simp [hB, hBB, Net.enc], by simp⟩ ?_
      rintro j2 tm H' hj2 ⟨k, T2, hij2, t1, t8, t9, t10, t4, t21, t22, t23, rfl, hne2⟩ Q3 hn3 he3 hr3
      simp [t1, t8, t9, t10, t4, t21, t22, t23]
      refine selS_intro (fun hc2 => ?_) (fun hc2 => ?_)
      · simp at hc2
        have hck : k < n.bridges.length := by omega
        have hrk : k < rws.length := by omega
        obtain ⟨id3, r3, bl3, h0, hbl3, hbe3, hrow3⟩ := hs k _ (List.getElem?_eq_getElem hrk)
        cases h0
        rw [hbl] at hbl3
        injection hbl3 with hbl3
        subst hbl3
        obtain ⟨a3, hrw3, hpo3⟩ := hat k _ _ (List.getElem?_eq_getElem hrk) (List.getElem?_eq_getElem hck)
        rw [hrw3] at hrow3
        have g5 : IntKind.i64.wrap ((k : Int) + 1) = (k : Int) + 1 := wrap64 (by omega) (by omega)
        simp [t1, t8, t9, t10, t4, t21, t22, t23, hBB, indexAddrV, elemIs, hid2, hbl, hbe, hc2, hrow3, Bridge.enc]
        refine selS_intro (fun hd2 => ?_) (fun hd2 => ?_)
        · simp
          refine hr3 _ _ ?_
          simp
          refine hr2 _ _ ?_
          simp
          refine bad (fun hp => ?_) _ _ ⟨_, rfl⟩ (by simp)
          simp at hd2
          exact hp.2.2.2.1 k i _ _ (by omega) (List.getElem?_eq_getElem hck) (List.getElem?_eq_getElem hc) hd2
        · simp [t1, t8, t9, t10, t4, t21, t22, t23, g5]
          refine hn3 (j2 - 1) _ _ (by omega) ⟨k + 1, _, by omega, by simp [t1], by simp [t8], by simp [t9], by simp [t10], by simp [t4], by simp [t21], by simp [t22], by simp, by rw [hBB], ?_⟩
          intro k' b hk' hb'
          rcases Nat.lt_or_ge k' k with hlt | hge
          · exact hne2 k' b hlt hb'
          · obtain rfl : k' = k := by omega
            rw [List.getElem?_eq_getElem hck] at hb'
            injection hb' with hb'
            subst hb'
            simpa using hd2
      · simp at hc2
        simp [t1, t8, t9, t10, t4, t21, t22, t23]
        refine he3 _ _ _ ?_
        simp [t1, t8, t9, t10, g4]
        refine hn2 (j - 1) _ _ (by omega) ⟨i + 1, _, by omega, by simp [t1], by simp [t8], by simp [t9], by simp, rfl, ?_, ?_⟩
        · intro i' b hi' hb'
          rcases Nat.lt_or_ge i' i with hlt | hge
          · exact hok i' b hlt hb'
          · obtain rfl : i' = i := by omega
            rw [List.getElem?_eq_getElem hc] at hb'
            injection hb' with hb'
            subst hb'
            simpa using hd
        · intro i' j' b d hij' hj' hb' hd'
          rcases Nat.lt_or_ge j' i with hlt | hge
          · exact hid i' j' b d hij' hlt hb' hd'
          · obtain rfl : j' = i := by omega
            rw [List.getElem?_eq_getElem hc] at hd'
            injection hd' with hd'
            subst hd'
            exact hne2 i' b (by omega) hb'
  · simp at hc
    obtain rfl : i = n.bridges.length := by omega
    have hall : ∀ b ∈ n.bridges, b.ok = true := fun b hb => by
      obtain ⟨i', hi', rfl⟩ := List.mem_iff_getElem.1 hb
      exact hok i' _ hi' (List.getElem?_eq_getElem hi')
    have hids : ∀ (i j : Nat) (b c : Bridge), i < j → n.bridges[i]? = some b → n.bridges[j]? = some c → b.id ≠ c.id := fun i' j' b d h1 h2 h3 => hid i' j' b d h1 (List.getElem?_eq_some_iff.1 h3).1 h2 h3
    have el := linksOk (H := H ++ B :: T) (id := H.length) (n := n) (by simp [hB]) (hR.app _) hn0
    have hfin : n.ok = (decide (1 ≤ (n.bridges.length : Int)) && decide ((n.bridges.length : Int) ≤ 5) && linksB n) := by
      rw [Bool.eq_iff_iff]
      rw [Net.ok_iff, netP_iff]
      simp only [Bool.and_eq_true, decide_eq_true_eq, linksB_iff]
      constructor
      · rintro ⟨-, -, h1, h2⟩; exact ⟨⟨by omega, by omega⟩, h2⟩
      · rintro ⟨⟨h1, h2⟩, h3⟩; exact ⟨hall, hids, ⟨by omega, by omega⟩, h3⟩
    simp [t1, t8, t9, t10]
    refine he2 _ _ _ ?_
    simp [t1, hB, Net.enc, builtinV, pureB, lenV, inRange]
    rw [hB] at el
    simp only [Net.enc] at el
    repeat' (first | (refine gdL_t (fun h => ?_) (fun h => ?_) <;> simp [h, t1, el, inRange]) | (refine gdL_f (fun h => ?_) (fun h => ?_) <;> simp [h, t1, el, inRange]) | (refine selS_intro (fun h => ?_) (fun h => ?_) <;> simp [h, t1, el, inRange]))
    all_goals (refine hQ _ _ _ (by simp) ?_)
    all_goals (clear hQ; simp_all [Try.f23])

theorem l1Bit (H : Heap) (b : Bool) : run env 79 [.bool b] H = some (.int (if b then 1 else 0), H) := by
  refine run_walk ok79 Try.func79 rfl (by simp [Try.f79]) fun Q hQ => ?_
  simp only [Try.f79, strip, stripL, stripI, stripG, chkT, tagsB, tagsL, tagD, addT, tagA, lookN, tagOp, elmT, ty22, ty24, ty25, ty33, ty54, ty58, ty95, ty122, Nat.reduceEqDiff, if_false, reduceIte, Option.getD_some, Option.getD_none, dstAt, dstOk, Nat.reduceLT, decide_true, if_true]
  simp
  refine selS_intro (fun h => ?_) (fun h => ?_)
  all_goals (simp; refine hQ _ _ _ (by simp) ?_; simp [Try.f79, h])

theorem count_step {ls : List Link} {i : Nat} (h : i < ls.length) (e : Int × Int) : (endsOf (ls.take (i + 1))).count e = (endsOf (ls.take i)).count e + (if (ls[i].a, ls[i].p) = e then 1 else 0) + (if (ls[i].b, ls[i].q) = e then 1 else 0) := by
  rw [endsOf_take h, List.count_append, List.count_cons, List.count_cons, List.count_nil]
  simp only [beq_iff_eq]
  omega
theorem l10Once {H : Heap} {l : List Lf} {n : Net} (h : RdNet H l n) (hn : n.links.length ≤ 1048576) (a p : Int) :
    run env 64 [.agg l, .int a, .int p] H = some (.int ((endsOf n.links).count (a, p)), H) := by
  obtain ⟨q0, _, rfl, h0, ⟨c, rfl, hc1⟩⟩ := h
  have e1 := fun H b => l1Bit H b
  refine run_walk ok64 Try.func64 rfl (by simp [Try.f64]) fun Q hQ => ?_
  simp only [Try.f64, strip, stripL, stripI, stripG, chkT, tagsB, tagsL, tagD, addT, tagA, lookN, tagOp, elmT, ty22, ty24, ty25, ty33, ty54, ty58, ty95, ty122, Nat.reduceEqDiff, if_false, reduceIte, Option.getD_some, Option.getD_none, dstAt, dstOk, Nat.reduceLT, decide_true, if_true]
  simp [Net.enc, builtinV, pureB, lenV]
  obtain ⟨B, hB⟩ : ∃ B : Option Blk, B = some ⟨27, .wr, [[q0, .sl c n.links.length]]⟩ := ⟨_, rfl⟩
  refine wpS_loop (fun j tm H' => ∃ i T, i + j = n.links.length ∧ tm 1 = .int a ∧ tm 2 = .int p ∧ tm 3 = .ptr H.length 0 0 ∧ tm 7 = .int ((endsOf (n.links.take i)).count (a, p)) ∧ tm 8 = .int i ∧ H' = H ++ B :: T) n.links.length (by rw [env_K]; omega)
    ⟨0, [], by simp, by simp, by simp, by simp, by simp [endsOf], by simp, by simp [hB]⟩ ?_
  rintro j tm H' hj ⟨i, T, hij, t1, t2, t3, t7, t8, rfl⟩ Q2 hn2 he2 hr2
  simp [t1, t2, t3, t7, t8, hB, builtinV, pureB, lenV]
  refine selS_intro (fun hc => ?_) (fun hc => ?_)
  · simp at hc
    obtain ⟨id2, r, bl, rfl, hbl, hbe, hrow⟩ := hc1 i _ (by simp [hc]; rfl)
    have hid := blkAt_len hbl
    have g4 : IntKind.i64.wrap ((i : Int) + 1) = (i : Int) + 1 := wrap64 (by omega) (by omega)
    have hcs := count_step hc (a, p)
    have hcl := List.count_le_length (a := (a, p)) (l := endsOf (n.links.take i))
    rw [endsOf_len] at hcl
    have hcl2 : (n.links.take i).length ≤ n.links.length := by simp; omega
    obtain ⟨L, hL⟩ : ∃ L, L = n.links[i] := ⟨_, rfl⟩
    rw [← hL] at hcs
    have w : ∀ x y : Int, 0 ≤ x → x ≤ 2 → IntKind.i64.wrap (((endsOf (n.links.take i)).count (a, p) : Int) + x) = ((endsOf (n.links.take i)).count (a, p) : Int) + x := fun x _ h1 h2 => wrap64 (by omega) (by omega)
    have w0 := w 0 0 (by omega) (by omega)
    have w1 := w 1 0 (by omega) (by omega)
    have w2 := w 2 0 (by omega) (by omega)
    simp only [Int.add_zero] at w0
    simp [t1, t2, t3, t7, t8, indexAddrV, elemIs, hid, hbl, hbe, hc, hrow, ← hL, Link.enc]
    repeat' (first | (refine gdL_t (fun h => ?_) (fun h => ?_) <;> simp [h, e1, w0, w1, w2, t1, t2, t3, t7, t8, Int.add_assoc, g4]) | (refine gdL_f (fun h => ?_) (fun h => ?_) <;> simp [h, e1, w0, w1, w2, t1, t2, t3, t7, t8, Int.add_assoc, g4]) | (refine selS_intro (fun h => ?_) (fun h => ?_) <;> simp [h, e1, w0, w1, w2, t1, t2, t3, t7, t8, Int.add_assoc, g4]))
    all_goals (refine hn2 (j - 1) _ _ (by omega) ⟨i + 1, _, by omega, by simp [t1], by simp [t2], by simp [t3], ?_, by simp, by rw [hB]⟩)
    all_goals (rw [hcs]; clear hQ hn2 he2 hr2; simp at *; by_cases hp : L.p = p <;> by_cases hq : L.q = p <;> simp_all [Int.add_assoc])
  · simp at hc
    obtain rfl : i = n.links.length := by omega
    simp [t1, t2, t3, t7, t8]
    refine he2 _ _ _ ?_
    simp [t7]
    refine hQ _ _ _ (by simp) ?_
    simp [Try.f64]

def endUpP (n : Net) (a p : Int) : Prop := ∃ (i k : Nat) (b : Bridge) (q : Port), a = i ∧ p = k ∧ n.bridges[i]? = some b ∧ b.ports[k]? = some q ∧ q.up = true
noncomputable def endUpB (n : Net) (a p : Int) : Bool := @decide (endUpP n a p) (Classical.propDecidable _)
theorem endUpB_iff (n : Net) (a p : Int) : endUpB n a p = true ↔ endUpP n a p := by unfold endUpB; exact @decide_eq_true_iff _ (Classical.propDecidable _)
theorem endUpB_false {n : Net} {a p : Int} (h : ¬ endUpP n a p) : endUpB n a p = false := by
  cases hk : endUpB n a p
  · rfl
  · exact absurd ((endUpB_iff n a p).1 hk) h
theorem l10End {H : Heap} {l : List Lf} {n : Net} (h : RdNet H l n) (hn : n.sz ≤ 1048576) (a p : Int) :
    run env 80 [.agg l, .int a, .int p] H = some (.bool (endUpB n a p), H) := by
  obtain ⟨_, _, rfl, ⟨a0, rws, rfl, hs, hlen, hat⟩, ⟨c, rfl, hc1⟩⟩ := h
  unfold Net.sz at hn
  have hbl0 := BridgeS.sz_len n.bridges
  have w1 : IntKind.i64.wrap ((n.bridges.length : Int) - 1) = (n.bridges.length : Int) - 1 := wrap64 (by omega) (by omega)
  refine run_walk ok80 Try.func80 rfl (by simp [Try.f80]) fun Q hQ => ?_
  simp only [Try.f80, strip, stripL, stripI, stripG, chkT, tagsB, tagsL, tagD, addT, tagA, lookN, tagOp, elmT, ty22, ty24, ty25, ty33, ty54, ty58, ty95, ty122, Nat.reduceEqDiff, if_false, reduceIte, Option.getD_some, Option.getD_none, dstAt, dstOk, Nat.reduceLT, decide_true, if_true]
  simp [Net.enc, builtinV, pureB, lenV, w1, l1In]
  have no : ∀ tm H', (∃ G, H' = H ++ G) → tm 6 = .bool false → ¬ endUpP n a p → Q .ret tm H' := by
    rintro tm _ ⟨G, rfl⟩ h6 hx
    refine hQ _ _ _ (by simp) ?_
    simp [Try.f80, h6, endUpB_false hx]
  refine gdL_t (fun hd => ?_) (fun hd => ?_)
  · simp [hd]
    simp at hd
    have hai : a.toNat < n.bridges.length := by omega
    have hri : a.toNat < rws.length := by omega
    obtain ⟨id2, r, bl, rfl, hbl, hbe, hrow⟩ := hs a.toNat _ (List.getElem?_eq_getElem hri)
    have hid := blkAt_len hbl
    obtain ⟨a1, hrw, hpo⟩ := hat a.toNat _ _ (List.getElem?_eq_getElem hri) (List.getElem?_eq_getElem hai)
    have hsz := BridgeS.sz_at (List.getElem_mem hai)
    have hsz2 : (n.bridges[a.toNat]).ports.length ≤ 1048576 := by have : (n.bridges[a.toNat]).sz = (n.bridges[a.toNat]).ports.length := rfl; omega
    have w2 : IntKind.i64.wrap (((n.bridges[a.toNat]).ports.length : Int) - 1) = ((n.bridges[a.toNat]).ports.length : Int) - 1 := wrap64 (by omega) (by omega)
    have hd1 : a < (n.bridges.length : Int) := by omega
    have hd0 : 0 ≤ a := by omega
    simp [indexAddrV, elemIs, hid, hbl, hbe, hrow, hd0, hd1, hrw, Net.enc, Bridge.enc, builtinV, pureB, lenV, w2, l1In]
    refine gdL_t (fun he => ?_) (fun he => ?_)
    · simp [he]
      simp at he
      have hpk : p.toNat < (n.bridges[a.toNat]).ports.length := by omega
      obtain ⟨id3, r3, bl3, rfl, hbl3, hbe3, hrow3⟩ := hpo p.toNat _ (by simp [hpk]; rfl)
      have hid3 := blkAt_len hbl3
      have he1 : p < ((n.bridges[a.toNat]).ports.length : Int) := by omega
      have he0 : 0 ≤ p := by omega
      simp [indexAddrV, elemIs, hid, hbl, hbe, hrow, hd0, hd1, hrw, Net.enc, Bridge.enc, hid3, hbl3, hbe3, hrow3, he0, he1, Port.enc]
      refine hQ _ _ _ (by simp) ?_
      have hfin : endUpB n a p = (n.bridges[a.toNat]).ports[p.toNat].up := by
        rw [Bool.eq_iff_iff, endUpB_iff]
        constructor
        · rintro ⟨i, k, b, q, h1, h2, h3, h4, h5⟩
          subst h1; subst h2
          simp at hai hpk
          rw [List.getElem?_eq_getElem hai] at h3
          injection h3 with h3
          subst h3
          rw [List.getElem?_eq_getElem hpk] at h4
          injection h4 with h4
          subst h4
          simpa using h5
        · intro h
          exact ⟨a.toNat, p.toNat, _, _, by omega, by omega, List.getElem?_eq_getElem hai, List.getElem?_eq_getElem hpk, h⟩
      simp [Try.f80, hfin]
    · simp [he]
      simp at he
      refine no _ _ ⟨_, rfl⟩ (by simp) ?_
      rintro ⟨i, k, b, q, h1, h2, h3, h4, h5⟩
      subst h1; subst h2
      simp at hai he
      rw [List.getElem?_eq_getElem hai] at h3
      injection h3 with h3
      have := (List.getElem?_eq_some_iff.1 h4).1
      rw [h3] at he
      omega
  · simp [hd]
    simp at hd
    refine no _ _ ⟨_, rfl⟩ (by simp) ?_
    rintro ⟨i, k, b, q, h1, h2, h3, h4, h5⟩
    have := (List.getElem?_eq_some_iff.1 h3).1
    omega

theorem specNetP (n : Net) : n.P ↔ (1 ≤ n.bridges.length ∧ n.bridges.length ≤ 5) ∧ n.links.length ≤ 6 ∧ (∀ b ∈ n.bridges, b.ok = true) ∧ (∀ (i j : Nat) (b c : Bridge), i < j → n.bridges[i]? = some b → n.bridges[j]? = some c → b.id ≠ c.id) ∧
    (∀ (i k : Nat) (b : Bridge) (p : Port), n.bridges[i]? = some b → b.ports[k]? = some p → (endsOf n.links).count ((i : Int), (k : Int)) = if p.up then 1 else 0) ∧ (∀ l ∈ n.links, l.a ≠ l.b ∧ endUpP n l.a l.p ∧ endUpP n l.b l.q) := by
  have memE : ∀ e : Int × Int, e ∈ endsOf n.links → ∃ l ∈ n.links, e = (l.a, l.p) ∨ e = (l.b, l.q) := fun e he => by
    unfold endsOf at he
    obtain ⟨l, hl, h⟩ := List.mem_flatMap.1 he
    simp at h
    exact ⟨l, hl, h⟩
  have inE : ∀ l ∈ n.links, (l.a, l.p) ∈ endsOf n.links ∧ (l.b, l.q) ∈ endsOf n.links := fun l hl => by
    unfold endsOf
    exact ⟨List.mem_flatMap.2 ⟨l, hl, by simp⟩, List.mem_flatMap.2 ⟨l, hl, by simp⟩⟩
  unfold Net.P
  constructor
  · rintro ⟨h1, h2, h3, h4, h5, h6, h7⟩
    refine ⟨h1, h2, h3, h4, fun i k b p hb hp => ?_, fun l hl => ?_⟩
    · have hc := List.nodup_iff_count.1 h6 ((i : Int), (k : Int))
      have hm := h7 i k b p hb hp
      cases hu : p.up
      · simp only [hu] at hm
        simp
        refine List.count_eq_zero.2 fun h => ?_
        simp [h] at hm
      · simp only [hu] at hm
        have := List.count_pos_iff.2 (hm.1 trivial)
        simp
        omega
    · obtain ⟨h8, ⟨i, k, b, e1, e2, e3, e4⟩, ⟨i', k', b', f1, f2, f3, f4⟩⟩ := h5 l hl
      refine ⟨h8, ⟨i, k, b, b.ports[k], e1, e2, e3, List.getElem?_eq_getElem e4, ?_⟩, ⟨i', k', b', b'.ports[k'], f1, f2, f3, List.getElem?_eq_getElem f4, ?_⟩⟩
      · refine (h7 i k b _ e3 (List.getElem?_eq_getElem e4)).2 ?_
        rw [← e1, ← e2]; exact (inE l hl).1
      · refine (h7 i' k' b' _ f3 (List.getElem?_eq_getElem f4)).2 ?_
        rw [← f1, ← f2]; exact (inE l hl).2
  · rintro ⟨h1, h2, h3, h4, h5, h6⟩
    refine ⟨h1, h2, h3, h4, fun l hl => ?_, ?_, fun i k b p hb hp => ?_⟩
    · obtain ⟨h8, ⟨i, k, b, q, e1, e2, e3, e4, -⟩, ⟨i', k', b', q', f1, f2, f3, f4, -⟩⟩ := h6 l hl
      exact ⟨h8, ⟨i, k, b, e1, e2, e3, (List.getElem?_eq_some_iff.1 e4).1⟩, ⟨i', k', b', f1, f2, f3, (List.getElem?_eq_some_iff.1 f4).1⟩⟩
    · refine List.nodup_iff_count.2 fun e => ?_
      by_cases he : e ∈ endsOf n.links
      · obtain ⟨l, hl, he⟩ := memE e he
        obtain ⟨h8, ⟨i, k, b, q, e1, e2, e3, e4, -⟩, ⟨i', k', b', q', f1, f2, f3, f4, -⟩⟩ := h6 l hl
        rcases he with rfl | rfl
        · rw [e1, e2, h5 i k b q e3 e4]; split <;> omega
        · rw [f1, f2, h5 i' k' b' q' f3 f4]; split <;> omega
      · rw [List.count_eq_zero.2 he]; omega
    · have hc := h5 i k b p hb hp
      rw [← List.count_pos_iff, hc]
      cases p.up <;> simp

theorem specNetOk_is {H : Heap} {l : List Lf} {n : Net} (h : RdNet H l n) (hn : n.sz ≤ 1048576) : run env 24 [.agg l] H = some (.bool n.ok, H) := by
  have hR := h
  have hn0 := hn
  obtain ⟨_, _, rfl, ⟨a0, rws, rfl, hs, hlen, hat⟩, ⟨c, rfl, hc1⟩⟩ := h
  unfold Net.sz at hn
  have hbl0 := BridgeS.sz_len n.bridges
  have e2 := fun G a p => l10Once (hR.app G) (by omega) a p
  have e3 := fun G a p => l10End (hR.app G) hn0 a p
  simp only [Net.enc] at e2 e3
  refine run_walk ok24 Try.func24 rfl (by simp [Try.f24]) fun Q hQ => ?_
  simp only [Try.f24, strip, stripL, stripI, stripG, chkT, tagsB, tagsL, tagD, addT, tagA, lookN, tagOp, elmT, ty22, ty24, ty25, ty33, ty54, ty58, ty95, ty122, Nat.reduceEqDiff, if_false, reduceIte, Option.getD_some, Option.getD_none, dstAt, dstOk, Nat.reduceLT, decide_true, if_true]
  have bad : ¬ n.P → ∀ tm H', (∃ G, H' = H ++ G) → tm 2 = .bool false → Q .ret tm H' := by
    rintro hx tm _ ⟨G, rfl⟩ h4
    refine hQ _ _ _ (by simp) ?_
    simp [Try.f24, h4, Net.ok_false hx]
  obtain ⟨B, hB⟩ : ∃ B : Option Blk, B = some ⟨27, .wr, [[.sl a0 n.bridges.length, .sl c n.links.length]]⟩ := ⟨_, rfl⟩
  simp [Net.enc, builtinV, pureB, lenV, l1In]
  refine gdL_f (fun hd => ?_) (fun hd => ?_)
  · simp [hd]
    refine bad (fun hp => ?_) _ _ ⟨_, rfl⟩ (by simp)
    have := hp.1
    simp at hd
    omega
  simp [hd, builtinV, pureB, lenV]
  refine selS_intro (fun hd2 => ?_) (fun hd2 => ?_)
  · simp
    refine bad (fun hp => ?_) _ _ ⟨_, rfl⟩ (by simp)
    have := hp.2.1
    simp at hd2
    omega
  simp at hd hd2
  simp
  refine wpS_loop (fun j tm H' => ∃ i, i + j = n.bridges.length ∧ tm 1 = .ptr H.length 0 0 ∧ tm 3 = .int i ∧ H' = H ++ [B] ∧
      (∀ (i' : Nat) (b : Bridge), i' < i → n.bridges[i']? = some b → b.ok = true) ∧ (∀ (i' j' : Nat) (b d : Bridge), i' < j' → j' < i → n.bridges[i']? = some b → n.bridges[j']? = some d → b.id ≠ d.id) ∧
      ∀ (i' k : Nat) (b : Bridge) (p : Port), i' < i → n.bridges[i']? = some b → b.ports[k]? = some p → (endsOf n.links).count ((i' : Int), (k : Int)) = if p.up then 1 else 0) n.bridges.length (by rw [env_K]; omega)
    ⟨0, by simp, by simp, by simp, by simp [hB], by simp, by simp, by simp⟩ ?_
  rintro j tm H' hj ⟨i, hij, t1, t3, rfl, hok, hid, hct⟩ Q2 hn2 he2 hr2
  simp [t1, t3, hB, builtinV, pureB, lenV]
  refine selS_intro (fun hc => ?_) (fun hc => ?_)
  · simp at hc
    have hri : i < rws.length := by omega
    obtain ⟨id2, r, bl, rfl, hbl, hbe, hrow⟩ := hs i _ (List.getElem?_eq_getElem hri)
    have hid2 := blkAt_len hbl
    have he := hat i _ _ (List.getElem?_eq_getElem hri) (List.getElem?_eq_getElem hc)
    have hsz := BridgeS.sz_at (List.getElem_mem hc)
    have hsz2 : (n.bridges[i]).ports.length ≤ 1048576 := by have : (n.bridges[i]).sz = (n.bridges[i]).ports.length := rfl; omega
    have e1 := fun G => specBridgeOk_is (he.app G) (by omega)
    obtain ⟨a1, hrw, hpo⟩ := he
    rw [hrw] at e1 hrow
    simp only [Bridge.enc] at e1 hrow
    have g4 : IntKind.i64.wrap ((i : Int) + 1) = (i : Int) + 1 := wrap64 (by omega) (by omega)
    simp [t1, t3, indexAddrV, elemIs, hid2, hbl, hbe, hc, hrow, e1]
    refine selS_intro (fun hd => ?_) (fun hd => ?_)
    · simp
      refine hr2 _ _ ?_
      simp
      refine bad (fun hp => ?_) _ _ ⟨_, rfl⟩ (by simp)
      have := hp.2.2.1 _ (List.getElem_mem hc)
      simp [this] at hd
    simp
    refine wpS_loop (fun j tm H' => ∃ k, k + j = i ∧ tm 1 = .ptr H.length 0 0 ∧ tm 3 = .int i ∧ tm 4 = .int k ∧ H' = H ++ [B] ∧
        ∀ (k' : Nat) (b : Bridge), k' < k → n.bridges[k']? = some b → b.id ≠ (n.bridges[i]).id) i (by rw [env_K]; omega)
      ⟨0, by simp, by simp [t1], by simp [t3], by simp, by simp [hB], by simp⟩ ?_
    rintro j2 tm H' hj2 ⟨k, hij2, t1, t3, t4, rfl, hne2⟩ Q3 hn3 he3 hr3
    simp [t1, t3, t4]
    refine selS_intro (fun hc2 => ?_) (fun hc2 => ?_)
    · simp at hc2
      have hck : k < n.bridges.length := by omega
      have hrk : k < rws.length := by omega
      obtain ⟨id3, r3, bl3, h0, hbl3, hbe3, hrow3⟩ := hs k _ (List.getElem?_eq_getElem hrk)
      cases h0
      rw [hbl] at hbl3
      injection hbl3 with hbl3
      subst hbl3
      obtain ⟨a3, hrw3, hpo3⟩ := hat k _ _ (List.getElem?_eq_getElem hrk) (List.getElem?_eq_getElem hck)
      rw [hrw3] at hrow3
      simp only [Bridge.enc] at hrow3
      have g5 : IntKind.i64.wrap ((k : Int) + 1) = (k : Int) + 1 := wrap64 (by omega) (by omega)
      simp [t1, t3, t4, hB, indexAddrV, elemIs, hid2, hbl, hbe, hc, hck, hrow, hrow3]
      refine selS_intro (fun hd2 => ?_) (fun hd2 => ?_)
      · simp
        refine hr3 _ _ ?_
        simp
        refine hr2 _ _ ?_
        simp
        refine bad (fun hp => ?_) _ _ ⟨_, rfl⟩ (by simp)
        simp at hd2
        exact hp.2.2.2.1 k i _ _ (by omega) (List.getElem?_eq_getElem hck) (List.getElem?_eq_getElem hc) hd2
      · simp [t1, t3, t4, g5]
        refine hn3 (j2 - 1) _ _ (by omega) ⟨k + 1, by omega, by simp [t1], by simp [t3], by simp, by rw [hB], ?_⟩
        intro k' b hk' hb'
        rcases Nat.lt_or_ge k' k with hlt | hge
        · exact hne2 k' b hlt hb'
        · obtain rfl : k' = k := by omega
          rw [List.getElem?_eq_getElem hck] at hb'
          injection hb' with hb'
          subst hb'
          simpa using hd2
    · simp at hc2
      simp [t1, t3, t4]
      refine he3 _ _ _ ?_
      simp
      refine wpS_loop (fun j tm H' => ∃ k, k + j = (n.bridges[i]).ports.length ∧ tm 1 = .ptr H.length 0 0 ∧ tm 3 = .int i ∧ tm 5 = .int k ∧ H' = H ++ [B] ∧
          ∀ (k' : Nat) (p : Port), k' < k → (n.bridges[i]).ports[k']? = some p → (endsOf n.links).count ((i : Int), (k' : Int)) = if p.up then 1 else 0) (n.bridges[i]).ports.length (by rw [env_K]; omega)
        ⟨0, by simp, by simp [t1], by simp [t3], by simp, by simp, by simp⟩ ?_
      rintro j3 tm H' hj3 ⟨k2, hij3, t1, t3, t5, rfl, hup2⟩ Q4 hn4 he4 hr4
      simp [t1, t3, t5, hB, indexAddrV, elemIs, hid2, hbl, hbe, hc, hrow, builtinV, pureB, lenV]
      refine selS_intro (fun hc3 => ?_) (fun hc3 => ?_)
      · simp at hc3
        obtain ⟨id4, r4, bl4, rfl, hbl4, hbe4, hrow4⟩ := hpo k2 _ (by simp [hc3]; rfl)
        have hid4 := blkAt_len hbl4
        have g5 : IntKind.i64.wrap ((k2 : Int) + 1) = (k2 : Int) + 1 := wrap64 (by omega) (by omega)
        simp [t1, t3, t5, indexAddrV, elemIs, hid2, hbl, hbe, hc, hrow, hid4, hbl4, hbe4, hc3, hrow4, Port.enc, e2, l1Bit]
        refine selS_intro (fun hd3 => ?_) (fun hd3 => ?_)
        · simp
          refine hr4 _ _ ?_
          simp
          refine hr2 _ _ ?_
          simp
          refine bad (fun hp => ?_) _ _ ⟨_, rfl⟩ (by simp)
          have h1 := ((specNetP n).1 hp).2.2.2.2.1 i k2 _ _ (List.getElem?_eq_getElem hc) (List.getElem?_eq_getElem hc3)
          rw [h1] at hd3
          revert hd3
          cases (n.bridges[i]).ports[k2].up <;> simp
        · simp [t1, t3, t5, g5]
          refine hn4 (j3 - 1) _ _ (by omega) ⟨k2 + 1, by omega, by simp [t1], by simp [t3], by simp, by rw [hB], ?_⟩
          intro k' p hk' hp
          rcases Nat.lt_or_ge k' k2 with hlt | hge
          · exact hup2 k' p hlt hp
          · obtain rfl : k' = k2 := by omega
            rw [List.getElem?_eq_getElem hc3] at hp
            injection hp with hp
            subst hp
            revert hd3
            cases (n.bridges[i]).ports[k'].up <;> simp <;> omega
      · simp at hc3
        simp [t1, t3, t5]
        refine he4 _ _ _ ?_
        simp [t1, t3, g4]
        refine hn2 (j - 1) _ _ (by omega) ⟨i + 1, by omega, by simp [t1], by simp, by rw [hB], ?_, ?_, ?_⟩
        · intro i' b hi' hb'
          rcases Nat.lt_or_ge i' i with hlt | hge
          · exact hok i' b hlt hb'
          · obtain rfl : i' = i := by omega
            rw [List.getElem?_eq_getElem hc] at hb'
            injection hb' with hb'
            subst hb'
            simpa using hd
        · intro i' j' b d hij' hj' hb' hd'
          rcases Nat.lt_or_ge j' i with hlt | hge
          · exact hid i' j' b d hij' hlt hb' hd'
          · obtain rfl : j' = i := by omega
            rw [List.getElem?_eq_getElem hc] at hd'
            injection hd' with hd'
            subst hd'
            exact hne2 i' b (by omega) hb'
        · intro i' k' b p hi' hb' hp'
          rcases Nat.lt_or_ge i' i with hlt | hge
          · exact hct i' k' b p hlt hb' hp'
          · obtain rfl : i' = i := by omega
            rw [List.getElem?_eq_getElem hc] at hb'
            injection hb' with hb'
            subst hb'
            exact hup2 k' p (by have := (List.getElem?_eq_some_iff.1 hp').1; omega) hp'
  · simp at hc
    obtain rfl : i = n.bridges.length := by omega
    have hall : ∀ b ∈ n.bridges, b.ok = true := fun b hb => by
      obtain ⟨i', hi', rfl⟩ := List.mem_iff_getElem.1 hb
      exact hok i' _ hi' (List.getElem?_eq_getElem hi')
    have hids : ∀ (i j : Nat) (b c : Bridge), i < j → n.bridges[i]? = some b → n.bridges[j]? = some c → b.id ≠ c.id := fun i' j' b d h1 h2 h3 => hid i' j' b d h1 (List.getElem?_eq_some_iff.1 h3).1 h2 h3
    have hcts : ∀ (i k : Nat) (b : Bridge) (p : Port), n.bridges[i]? = some b → b.ports[k]? = some p → (endsOf n.links).count ((i : Int), (k : Int)) = if p.up then 1 else 0 := fun i' k' b p h1 h2 => hct i' k' b p (List.getElem?_eq_some_iff.1 h1).1 h1 h2
    simp [t1, t3]
    refine he2 _ _ _ ?_
    simp
    refine wpS_loop (fun j tm H' => ∃ i T, i + j = n.links.length ∧ tm 1 = .ptr H.length 0 0 ∧ tm 6 = .int i ∧ H' = H ++ B :: T ∧ ∀ l ∈ n.links.take i, l.a ≠ l.b ∧ endUpP n l.a l.p ∧ endUpP n l.b l.q) n.links.length (by rw [env_K]; omega)
      ⟨0, [], by simp, by simp [t1], by simp, by simp [hB], by simp⟩ ?_
    rintro j5 tm H' hj5 ⟨i, T, hij, t1, t6, rfl, hlk⟩ Q5 hn5 he5 hr5
    simp [t1, t6, hB, builtinV, pureB, lenV]
    refine selS_intro (fun hc => ?_) (fun hc => ?_)
    · simp at hc
      obtain ⟨id2, r, bl, rfl, hbl, hbe, hrow⟩ := hc1 i _ (by simp [hc]; rfl)
      have hid := blkAt_len hbl
      have g4 : IntKind.i64.wrap ((i : Int) + 1) = (i : Int) + 1 := wrap64 (by omega) (by omega)
      obtain ⟨L, hL⟩ : ∃ L, L = n.links[i] := ⟨_, rfl⟩
      have hLm : L ∈ n.links := by rw [hL]; exact List.getElem_mem hc
      simp [t1, t6, indexAddrV, elemIs, hid, hbl, hbe, hc, hrow, ← hL, Link.enc]
      repeat' (first | (refine gdL_t (fun h => ?_) (fun h => ?_) <;> simp [h, e3, t1, t6]) | (refine gdL_f (fun h => ?_) (fun h => ?_) <;> simp [h, e3, t1, t6]) | (refine selS_intro (fun h => ?_) (fun h => ?_) <;> simp [h, e3, t1, t6]))
      · refine hr5 _ _ ?_
        simp
        refine bad (fun hp => ?_) _ _ ⟨_, rfl⟩ (by simp)
        exact (((specNetP n).1 hp).2.2.2.2.2 L hLm).1 (by simpa using h)
      · refine hr5 _ _ ?_
        simp
        refine bad (fun hp => ?_) _ _ ⟨_, rfl⟩ (by simp)
        have := (endUpB_iff n L.a L.p).2 (((specNetP n).1 hp).2.2.2.2.2 L hLm).2.1
        simp [this] at h
      · refine hr5 _ _ ?_
        simp
        refine bad (fun hp => ?_) _ _ ⟨_, rfl⟩ (by simp)
        have := (endUpB_iff n L.b L.q).2 (((specNetP n).1 hp).2.2.2.2.2 L hLm).2.2
        simp [this] at h
      · simp [t1, t6, g4]
        refine hn5 (j5 - 1) _ _ (by omega) ⟨i + 1, _, by omega, by simp [t1], by simp, by rw [hB], ?_⟩
        intro l hl
        rw [List.take_add_one, List.getElem?_eq_getElem hc, List.mem_append] at hl
        rcases hl with hl | hl
        · exact hlk l hl
        · simp at hl
          subst hl
          rw [← hL]
          exact ⟨by simp_all, (endUpB_iff n L.a L.p).1 (by simp_all), (endUpB_iff n L.b L.q).1 (by simp_all)⟩
    · simp at hc
      rw [List.take_of_length_le (by omega)] at hlk
      simp [t1, t6]
      refine he5 _ _ _ ?_
      simp
      refine hQ _ _ _ (by simp) ?_
      have hfin : n.ok = true := (Net.ok_iff n).2 ((specNetP n).2 ⟨⟨by omega, by omega⟩, by omega, hall, hids, hcts, hlk⟩)
      simp [Try.f24, hfin]

def better (a b : Vec) : Bool := if a.root ≠ b.root then decide (a.root < b.root) else if a.cost ≠ b.cost then decide (a.cost < b.cost) else if a.bridge ≠ b.bridge then decide (a.bridge < b.bridge) else decide (a.port < b.port)
def cmpI' (a b : Int) : Int := if a < b then -1 else if b < a then 1 else 0
def orL (xs : List Int) : Int := (xs.find? fun x => !decide (x = 0)).getD 0

theorem cmpNaN (H : Heap) (a : Int) : run env 135 [.int a] H = some (.bool false, H) := by
  refine run_walk ok135 Try.func135 rfl (by simp [Try.f135]) fun Q hQ => ?_
  simp only [Try.f135, strip, stripL, stripI, stripG, chkT, tagsB, tagsL, tagD, addT, tagA, lookN, tagOp, elmT, ty22, ty24, ty25, ty33, ty54, ty58, ty95, ty122, Nat.reduceEqDiff, if_false, reduceIte, Option.getD_some, Option.getD_none, dstAt, dstOk, Nat.reduceLT, decide_true, if_true]
  simp
  all_goals (refine hQ _ _ _ (by simp) ?_)
  all_goals (clear hQ; simp [Try.f135])

theorem cmpCompare (H : Heap) (a b : Int) : run env 131 [.int a, .int b] H = some (.int (cmpI' a b), H) := by
  refine run_walk ok131 Try.func131 rfl (by simp [Try.f131]) fun Q hQ => ?_
  simp only [Try.f131, strip, stripL, stripI, stripG, chkT, tagsB, tagsL, tagD, addT, tagA, lookN, tagOp, elmT, ty22, ty24, ty25, ty33, ty54, ty58, ty95, ty122, Nat.reduceEqDiff, if_false, reduceIte, Option.getD_some, Option.getD_none, dstAt, dstOk, Nat.reduceLT, decide_true, if_true]
  simp [cmpNaN]
  refine selS_intro (fun h => ?_) (fun h => ?_)
  · simp
    refine hQ _ _ _ (by simp) ?_
    simp at h
    simp [Try.f131, cmpI', h]
  simp
  refine selS_intro (fun h2 => ?_) (fun h2 => ?_)
  all_goals (simp; refine hQ _ _ _ (by simp) ?_; simp at h h2; simp [Try.f131, cmpI']; omega)

theorem cmpOr {H : Heap} {a : Option (Nat × Nat)} {xs : List Int} (h : Sl H 3 a (xs.map encI)) (hn : xs.length ≤ 1048576) :
    run env 130 [.w (.lf (.sl a xs.length))] H = some (.int (orL xs), H) := by
  refine run_walk ok130 Try.func130 rfl (by simp [Try.f130]) fun Q hQ => ?_
  simp only [Try.f130, strip, stripL, stripI, stripG, chkT, tagsB, tagsL, tagD, addT, tagA, lookN, tagOp, elmT, ty22, ty24, ty25, ty33, ty54, ty58, ty95, ty122, Nat.reduceEqDiff, if_false, reduceIte, Option.getD_some, Option.getD_none, dstAt, dstOk, Nat.reduceLT, decide_true, if_true]
  simp [builtinV, pureB, lenV]
  refine wpS_loop (fun j tm H' => ∃ i, i + j = xs.length ∧ tm 3 = .int 0 ∧ tm 6 = .w (.lf (.sl a xs.length)) ∧ tm 7 = .int xs.length ∧ tm 8 = .int i ∧ H' = H ∧ ∀ x ∈ xs.take i, x = 0) xs.length (by rw [env_K]; omega) ⟨0, by simp, by simp, by simp, by simp, by simp, rfl, by simp⟩ ?_
  rintro j tm H' hj ⟨i, hij, t3, t6, t7, t8, rfl, hz⟩ Q2 hn2 he2 hr2
  simp [t3, t6, t7, t8]
  refine selS_intro (fun hc => ?_) (fun hc => ?_)
  · simp at hc
    obtain ⟨id, r, bl, rfl, hbl, hbe, hrow⟩ := h i _ (by simp [hc]; rfl)
    have g4 : IntKind.i64.wrap ((i : Int) + 1) = (i : Int) + 1 := wrap64 (by omega) (by omega)
    simp [t3, t6, t7, t8, indexAddrV, elemIs, hbl, hbe, hc, hrow, encI]
    refine selS_intro (fun hd => ?_) (fun hd => ?_)
    · simp
      refine hr2 _ _ ?_
      simp
      refine hQ _ _ _ (by simp) ?_
      have hf : xs.find? (fun x => !decide (x = 0)) = some xs[i] := by
        rw [List.find?_eq_some_iff_getElem]
        refine ⟨by simpa using hd, i, hc, rfl, fun j hj => ?_⟩
        have := hz xs[j] (List.mem_take_iff_getElem.2 ⟨j, by omega, rfl⟩)
        simp [this]
      simp [Try.f130, orL, hf]
    · simp at hd
      simp [t3, t6, t7, t8, g4]
      refine hn2 (j - 1) _ _ (by omega) ⟨i + 1, by omega, by simp [t3], by simp [t6], by simp [t7], by simp, rfl, ?_⟩
      intro x hx
      rw [List.take_add_one, List.getElem?_eq_getElem hc, List.mem_append] at hx
      rcases hx with hx | hx
      · exact hz x hx
      · simp at hx
        rw [hx]; exact hd
  · simp at hc
    rw [List.take_of_length_le (by omega)] at hz
    simp [t3, t6, t7, t8]
    refine he2 _ _ _ ?_
    simp [t3]
    refine hQ _ _ _ (by simp) ?_
    have hf : xs.find? (fun x => !decide (x = 0)) = none := by
      rw [List.find?_eq_none]
      intro x hx
      simp [hz x hx]
    simp [Try.f130, orL, hf]

theorem implBetter (H : Heap) (x y : Vec) : run env 118 [.agg x.enc, .agg y.enc] H = some (.bool (better x y), H) := by
  have e1 := fun H a b => cmpCompare H a b
  have e3 := fun p q u v B1 B2 => cmpOr (H := H ++ [B1, B2, some ⟨3, .wr, [[.i .i64 p], [.i .i64 q], [.i .i64 u], [.i .i64 v]]⟩]) (a := some (H.length + 2, 0)) (xs := [p, q, u, v]) (Sl.of (by simp [encI])) (by simp)
  simp at e3
  refine run_walk ok118 Try.func118 rfl (by simp [Try.f118]) fun Q hQ => ?_
  simp only [Try.f118, strip, stripL, stripI, stripG, chkT, tagsB, tagsL, tagD, addT, tagA, lookN, tagOp, elmT, ty22, ty24, ty25, ty33, ty54, ty58, ty95, ty122, Nat.reduceEqDiff, if_false, reduceIte, Option.getD_some, Option.getD_none, dstAt, dstOk, Nat.reduceLT, decide_true, if_true]
  simp [Vec.enc, e1, e3]
  refine hQ _ _ _ (by simp) ?_
  simp [Try.f118]
  unfold orL better cmpI'
  by_cases h1 : x.root < y.root <;> by_cases h2 : y.root < x.root <;> by_cases h3 : x.cost < y.cost <;> by_cases h4 : y.cost < x.cost <;> by_cases h5 : x.bridge < y.bridge <;> by_cases h6 : y.bridge < x.bridge <;> by_cases h7 : x.port < y.port <;> by_cases h8 : y.port < x.port <;> simp [h1, h2, h3, h4, h5, h6, h7, h8, List.find?] <;> omega

theorem specBetter (H : Heap) (x y : Vec) : run env 111 [.agg x.enc, .agg y.enc] H = some (.bool (better x y), H) := by
  obtain ⟨a1, a2, a3, a4⟩ := x
  obtain ⟨b1, b2, b3, b4⟩ := y
  refine run_walk ok111 Try.func111 rfl (by simp [Try.f111]) fun Q hQ => ?_
  simp only [Try.f111, strip, stripL, stripI, stripG, chkT, tagsB, tagsL, tagD, addT, tagA, lookN, tagOp, elmT, ty22, ty24, ty25, ty33, ty54, ty58, ty95, ty122, Nat.reduceEqDiff, if_false, reduceIte, Option.getD_some, Option.getD_none, dstAt, dstOk, Nat.reduceLT, decide_true, if_true]
  simp [Vec.enc]
  repeat' (first | (refine gdL_t (fun h => ?_) (fun h => ?_) <;> simp [h]) | (refine gdL_f (fun h => ?_) (fun h => ?_) <;> simp [h]) | (refine selS_intro (fun h => ?_) (fun h => ?_) <;> simp [h]))
  all_goals (refine hQ _ _ _ (by simp) ?_)
  all_goals (clear hQ; simp_all [Try.f111, better])

def rootSkip (b : Bridge) (p : Port) : Bool := !p.has || decide (p.vec.bridge = b.id) || decide (b.id ≤ p.vec.root) || decide (20 ≤ p.vec.cost) || decide (8 ≤ p.hops)
def rootStep (b : Bridge) (best : Int) (i : Nat) (p : Port) : Int := if rootSkip b p then best else if decide (best < 0) || better p.vec (b.ports.getD best.toNat default).vec then i else best
def rootUpto (b : Bridge) : Nat → Int
  | 0 => -1
  | i + 1 => match b.ports[i]? with
    | some p => rootStep b (rootUpto b i) i p
    | none => rootUpto b i
def rootAt (b : Bridge) : Int := rootUpto b b.ports.length
theorem rootUpto_lt (b : Bridge) : ∀ i, -1 ≤ rootUpto b i ∧ rootUpto b i < i
  | 0 => by simp [rootUpto]
  | i + 1 => by
    have ih := rootUpto_lt b i
    unfold rootUpto
    split
    · unfold rootStep
      split
      · omega
      · split <;> omega
    · omega
def rootPort (b : Bridge) : Int × Bool := if b.ok then (rootAt b, decide (0 ≤ rootAt b)) else (-1, false)

theorem specRootPort {H : Heap} {l : List Lf} {b : Bridge} (h : RdBridge H l b) (hn : b.sz ≤ 1048576) : run env 88 [.agg l] H = some (.tup [.lf (.i .i64 (rootPort b).1), .lf (.b (rootPort b).2)], H) := by
  have hR := h
  have eo := fun G => specBridgeOk_is (hR.app G) (by omega)
  have e1 := fun H (c1 c2 c3 c4 d1 d2 d3 d4 : Int) => specBetter H ⟨c1, c2, c3, c4⟩ ⟨d1, d2, d3, d4⟩
  simp only [Vec.enc] at e1
  obtain ⟨a, rfl, h_⟩ := h
  have hn : b.ports.length ≤ 1048576 := hn
  simp only [Bridge.enc] at eo
  refine run_walk ok88 Try.func88 rfl (by simp [Try.f88]) fun Q hQ => ?_
  simp only [Try.f88, strip, stripL, stripI, stripG, chkT, tagsB, tagsL, tagD, addT, tagA, lookN, tagOp, elmT, ty22, ty24, ty25, ty33, ty54, ty58, ty95, ty122, Nat.reduceEqDiff, if_false, reduceIte, Option.getD_some, Option.getD_none, dstAt, dstOk, Nat.reduceLT, decide_true, if_true]
  simp
  obtain ⟨B, hB⟩ : ∃ B : Option Blk, B = some ⟨56, .wr, [[.i .i64 b.id, .sl a b.ports.length]]⟩ := ⟨_, rfl⟩
  cases hok : b.ok
  · refine wpS_loop (fun j tm H' => tm 1 = .ptr H.length 0 0 ∧ tm 4 = .int (-1) ∧ tm 5 = .int 0 ∧ H' = H ++ [B]) 0 (by rw [env_K]; omega) ⟨by simp, by simp, by simp, by simp [hB, Bridge.enc]⟩ ?_
    rintro j tm H' hj ⟨t1, t4, t5, rfl⟩ Q2 hn2 he2 hr2
    simp [t1, t4, t5, hB, builtinV, pureB, lenV]
    rw [hok] at eo
    repeat' (first | (refine gdL_t (fun h => ?_) (fun h => ?_) <;> simp [h, t1, eo]) | (refine gdL_f (fun h => ?_) (fun h => ?_) <;> simp [h, t1, eo]) | (refine selS_intro (fun h => ?_) (fun h => ?_) <;> simp [h, t1, eo]))
    all_goals (refine he2 _ _ _ ?_)
    all_goals (simp [t4]; refine hQ _ _ _ (by simp) ?_; simp [Try.f88, rootPort, hok])
  · rw [hok] at eo
    refine wpS_loop (fun j tm H' => ∃ i T, i + j = b.ports.length ∧ tm 1 = .ptr H.length 0 0 ∧ tm 4 = .int (rootUpto b i) ∧ tm 5 = .int i ∧ H' = H ++ B :: T) b.ports.length (by rw [env_K]; omega) ⟨0, [], by simp, by simp, by simp [rootUpto], by simp, by simp [hB, Bridge.enc]⟩ ?_
    rintro j tm H' hj ⟨i, T, hij, t1, t4, t5, rfl⟩ Q2 hn2 he2 hr2
    simp [t1, t4, t5, hB, builtinV, pureB, lenV]
    refine gdL_t (fun hc => ?_) (fun hc => ?_)
    · simp [hc, eo, t1]
      simp at hc
      obtain ⟨id2, r, bl, rfl, hbl, hbe, hrow⟩ := h_ i _ (by simp [hc]; rfl)
      have hid := blkAt_len hbl
      have g4 : IntKind.i64.wrap ((i : Int) + 1) = (i : Int) + 1 := wrap64 (by omega) (by omega)
      have hlt := rootUpto_lt b i
      have hstep : rootUpto b (i + 1) = rootStep b (rootUpto b i) i b.ports[i] := by rw [rootUpto, List.getElem?_eq_getElem hc]
      have hskip : ∀ tm', tm' 1 = .ptr H.length 0 0 → tm' 4 = .int (rootUpto b (i + 1)) → tm' 5 = .int ((i : Int) + 1) → ∀ T', Q2 .normal tm' (H ++ some ⟨56, .wr, [[.i .i64 b.id, .sl (some (id2, r)) b.ports.length]]⟩ :: T') := fun tm' a1 a4 a5 T' =>
        hn2 (j - 1) _ _ (by omega) ⟨i + 1, T', by omega, a1, a4, by simpa using a5, by rw [hB]⟩
      obtain ⟨p, hp⟩ : ∃ p, p = b.ports[i] := ⟨_, rfl⟩
      rw [← hp] at hstep
      have skipped : rootSkip b p = true → rootUpto b (i + 1) = rootUpto b i := fun hs => by rw [hstep, rootStep, if_pos hs]
      simp [t1, t4, t5, indexAddrV, elemIs, hid, hbl, hbe, hc, hrow, ← hp, Port.enc]
      repeat' (first | (refine gdL_t (fun h => ?_) (fun h => ?_) <;> simp [h, t1, t4, t5, g4]) | (refine gdL_f (fun h => ?_) (fun h => ?_) <;> simp [h, t1, t4, t5, g4]) | (refine selS_intro (fun h => ?_) (fun h => ?_) <;> simp [h, t1, t4, t5, g4]))
      iterate 5 (refine hskip _ (by simp [t1]) ?_ (by simp) _; rw [skipped (by clear hQ hn2 he2 hr2 hskip; simp_all [rootSkip])]; simp [t4])
      · have hns : rootSkip b p = false := by clear hQ hn2 he2 hr2 hskip skipped; simp_all [rootSkip]
        refine hskip _ (by simp [t1]) ?_ (by simp) _
        rw [hstep, rootStep, hns]
        have h0 : rootUpto b i < 0 := by simpa using h
        simp [h0]
      · have hns : rootSkip b p = false := by clear hQ hn2 he2 hr2 hskip skipped; simp_all [rootSkip]
        have h0 : 0 ≤ rootUpto b i := by simpa using h
        have hki : (rootUpto b i).toNat < b.ports.length := by omega
        have hkl : rootUpto b i < (b.ports.length : Int) := by omega
        obtain ⟨id3, r3, bl3, hx3, hbl3, hbe3, hrow3⟩ := h_ (rootUpto b i).toNat _ (by simp [hki]; rfl)
        cases hx3
        rw [hbl] at hbl3
        injection hbl3 with hbl3
        subst hbl3
        have hgd : (b.ports.getD (rootUpto b i).toNat default) = b.ports[(rootUpto b i).toNat] := by simp [List.getD, List.getElem?_eq_getElem hki]
        have hnl : ¬ rootUpto b i < 0 := by omega
        rw [rootStep, hns, hgd] at hstep
        simp only [Bool.false_eq_true, if_false, hnl, decide_false, Bool.false_or] at hstep
        simp [t1, t4, t5, indexAddrV, elemIs, hid, hbl, hbe, h0, hkl, hrow3, Port.enc, e1]
        refine selS_intro (fun hd => ?_) (fun hd => ?_)
        · simp [t1, t4, t5, g4]
          refine hskip _ (by simp [t1]) ?_ (by simp) _
          rw [hstep, if_pos (by simpa using hd)]
          simp
        · simp [t1, t4, t5, g4]
          refine hskip _ (by simp [t1]) ?_ (by simp) _
          rw [hstep, if_neg (by simpa using hd)]
          simp [t4]
    · simp [hc]
      simp at hc
      obtain rfl : i = b.ports.length := by omega
      refine he2 _ _ _ ?_
      simp [t4]
      refine hQ _ _ _ (by simp) ?_
      simp [Try.f88, rootPort, rootAt, hok]
      exact decide_eq_decide.2 Iff.rfl

def bridgeNew (id ports : Int) : Bridge × Bool := if (decide (1 ≤ id) && decide (id ≤ 9)) && (decide (1 ≤ ports) && decide (ports ≤ 4)) then (⟨id, List.replicate ports.toNat Port.zv⟩, true) else (⟨0, []⟩, false)
theorem Port.zv_ok : Port.zv.ok = true := by decide
theorem bridgeNew_ok {id ports : Int} (h : (bridgeNew id ports).2 = true) : (bridgeNew id ports).1.ok = true := by
  unfold bridgeNew at h ⊢
  split at h
  · rename_i h1
    rw [if_pos h1]
    simp at h1
    have hl : (List.replicate ports.toNat Port.zv).all Port.ok = true := by
      rw [List.all_eq_true]; intro p hp; rw [(List.mem_replicate.1 hp).2]; exact Port.zv_ok
    simp only [Bridge.ok, hl, Bool.true_and, List.length_replicate, Bool.and_eq_true, decide_eq_true_eq]
    omega
  · simp at h

theorem implBridgeNew (H : Heap) (id ports : Int) : Runs env 59 [.int id, .int ports] H fun v H' => ∃ l fp, v = .tup [.agg l, .lf (.b (bridgeNew id ports).2)] ∧ IsBridge H' l (bridgeNew id ports).1 fp ∧ Fresh H H' fp := by
  refine Runs.walk ok59 Try.func59 rfl (by simp [Try.f59]) fun Q hQ => ?_
  simp only [Try.f59, strip, stripL, stripI, stripG, chkT, tagsB, tagsL, tagD, addT, tagA, lookN, tagOp, elmT, ty22, ty24, ty25, ty33, ty54, ty58, ty95, ty122, Nat.reduceEqDiff, if_false, reduceIte, Option.getD_some, Option.getD_none, dstAt, dstOk, Nat.reduceLT, decide_true, if_true]
  simp [inRange]
  by_cases h1 : 1 ≤ id ∧ id ≤ 9
  · by_cases h2 : 1 ≤ ports ∧ ports ≤ 4
    · have hb : bridgeNew id ports = (⟨id, List.replicate ports.toNat Port.zv⟩, true) := by simp [bridgeNew, h1, h2]
      have k1 : ports * 80 ≤ 281474976710656 := by omega
      have k2 : ports ≤ 9223372036854775807 := by omega
      have k3 : 0 ≤ ports := by omega
      simp [h1, h2, makeSliceV, makeSliceR, newBlk, k1, k2, k3, inRange]
      refine hQ _ _ _ (by simp) ?_
      simp [Try.f59, hb]
      have ho : ∀ B : Option Blk, IsBridge (H ++ [B, some ⟨87, .wr, List.replicate ports.toNat Port.z⟩]) [.i .i64 id, .sl (some (H.length + 1, 0)) ports.toNat] ⟨id, List.replicate ports.toNat Port.zv⟩ [H.length + 1] := fun B =>
        ⟨some (H.length + 1, 0), by simp [Bridge.enc], Own.of (by simp [Port.enc])⟩
      exact (ho _).leave (Fresh.app H _ (by simp)) (by simp)
    · have hb : bridgeNew id ports = (⟨0, []⟩, false) := by
        unfold bridgeNew; rw [if_neg]; simp; intros; omega
      have h2' : (decide (1 ≤ ports) && decide (ports ≤ 4)) = false := by rw [Bool.and_eq_false_iff]; simp; omega
      simp [h1, h2', inRange]
      refine hQ _ _ _ (by simp) ?_
      simp [Try.f59, hb]
      exact ⟨[], ⟨none, rfl, Own.nil _ _⟩, Fresh.refl _⟩
  · have hb : bridgeNew id ports = (⟨0, []⟩, false) := by
      unfold bridgeNew; rw [if_neg]; simp; intros; omega
    rcases (show ¬ 1 ≤ id ∨ ¬ id ≤ 9 by omega) with h | h
    all_goals (simp [h]; refine hQ _ _ _ (by simp) ?_; simp [Try.f59, hb]; exact ⟨[], ⟨none, rfl, Own.nil _ _⟩, Fresh.refl _⟩)

theorem l1Min (H : Heap) (a b : Int) : run env 73 [.int a, .int b] H = some (.int (if a < b then a else b), H) := by
  refine run_walk ok73 Try.func73 rfl (by simp [Try.f73]) fun Q hQ => ?_
  simp only [Try.f73, strip, stripL, stripI, stripG, chkT, tagsB, tagsL, tagD, addT, tagA, lookN, tagOp, elmT, ty22, ty24, ty25, ty33, ty54, ty58, ty95, ty122, Nat.reduceEqDiff, if_false, reduceIte, Option.getD_some, Option.getD_none, dstAt, dstOk, Nat.reduceLT, decide_true, if_true]
  simp
  refine selS_intro (fun h => ?_) (fun h => ?_)
  all_goals (simp; refine hQ _ _ _ (by simp) ?_; simp at h; simp [Try.f73]; omega)

theorem specNew_ok (id ports : Int) : (⟨id, List.replicate (if ports < 5 then ports else 5).toNat Port.zv⟩ : Bridge).ok = (bridgeNew id ports).2 := by
  have hl : ∀ n, (List.replicate n Port.zv).all Port.ok = true := fun n => by
    rw [List.all_eq_true]; intro p hp; rw [(List.mem_replicate.1 hp).2]; exact Port.zv_ok
  by_cases h : (1 ≤ id ∧ id ≤ 9) ∧ 1 ≤ ports ∧ ports ≤ 4
  · have h1 : bridgeNew id ports = (⟨id, List.replicate ports.toNat Port.zv⟩, true) := by unfold bridgeNew; rw [if_pos (by simp; omega)]
    rw [h1, if_pos (by omega)]
    simp only [Bridge.ok, hl, Bool.true_and, List.length_replicate, Bool.and_eq_true, decide_eq_true_eq]
    omega
  · have h1 : bridgeNew id ports = (⟨0, []⟩, false) := by unfold bridgeNew; rw [if_neg (by simp; intros; omega)]
    rw [h1, Bool.eq_false_iff]
    simp only [Bridge.ok, hl, Bool.true_and, List.length_replicate, ne_eq, Bool.and_eq_true, decide_eq_true_eq]
    intro h2
    split at h2 <;> omega
theorem specBridgeNew (H : Heap) (id ports : Int) : Runs env 63 [.int id, .int ports] H fun v H' => ∃ l fp, v = .tup [.agg l, .lf (.b (bridgeNew id ports).2)] ∧ IsBridge H' l (bridgeNew id ports).1 fp ∧ Fresh H H' fp := by
  obtain ⟨n, hn⟩ : ∃ n, n = (if ports < 5 then ports else 5).toNat := ⟨_, rfl⟩
  have hn5 : n ≤ 5 := by rw [hn]; split <;> omega
  obtain ⟨C, hC⟩ : ∃ C : Option Blk, C = some ⟨56, .wr, [[.i .i64 0, .sl none 0]]⟩ := ⟨_, rfl⟩
  have e1 := fun H a b => l1Min H a b
  refine Runs.walk ok63 Try.func63 rfl (by simp [Try.f63]) fun Q hQ => ?_
  simp only [Try.f63, strip, stripL, stripI, stripG, chkT, tagsB, tagsL, tagD, addT, tagA, lookN, tagOp, elmT, ty22, ty24, ty25, ty33, ty54, ty58, ty95, ty122, Nat.reduceEqDiff, if_false, reduceIte, Option.getD_some, Option.getD_none, dstAt, dstOk, Nat.reduceLT, decide_true, if_true]
  simp
  refine wpS_loop (fun j tm H' => ∃ i a' fp G, i + j = n ∧ tm 0 = .int id ∧ tm 1 = .int ports ∧ tm 4 = .ptr H.length 0 0 ∧ tm 6 = .ptr (H.length + 1) 0 0 ∧ tm 7 = .int i ∧ H' = H ++ C :: some ⟨56, .wr, [[.i .i64 id, .sl a' i]]⟩ :: G ∧
      Own (H ++ C :: some ⟨56, .wr, [[.i .i64 id, .sl a' i]]⟩ :: G) 87 a' (List.replicate i Port.z) fp ∧ ∀ k ∈ fp, H.length + 2 ≤ k) n (by rw [env_K]; omega)
    ⟨0, none, [], [], by simp, by simp, by simp, by simp, by simp, by simp, by simp [hC], Own.nil _ _, by simp⟩ ?_
  rintro j tm H' hj ⟨i, a', fp, G, hij, t0, t1, t4, t6, t7, rfl, ho, hfp⟩ Q2 hn2 he2 hr2
  simp [t0, t1, t4, t6, t7, e1]
  refine selS_intro (fun hc => ?_) (fun hc => ?_)
  · simp at hc
    have hin : i < n := by rw [hn]; omega
    have g4 : IntKind.i64.wrap ((i : Int) + 1) = (i : Int) + 1 := wrap64 (by omega) (by omega)
    simp [t0, t1, t4, t6, t7]
    refine stpL_append (rows := List.replicate i Port.z) (ys := [Port.z]) (by simpa using ho.app _) (Sl.of (by simp)) rfl rfl rfl (by simp) (by simp; omega) (by simp) rfl ?_
    intro a2 H2 f2 o2 hk2 hf2
    obtain ⟨G2, rfl, -, -⟩ := Keep.cut (L := [_, _]) hk2 (by intro k hk; have := hfp k hk; simp; omega)
    have lo2 : ∀ k ∈ f2, H.length + 2 ≤ k := fun k hk => by
      rcases hf2 k hk with h | h
      · exact hfp k h
      · simp at h; omega
    have o3 := fun y => o2.keep (Keep.set (id := H.length + 1) _ y) (fun k hk => by have := lo2 k hk; simp; omega)
    simp at o3
    simp [t0, t1, t4, t6, t7, g4]
    refine hn2 (j - 1) _ _ (by omega) ⟨i + 1, a2, f2, G2, by omega, by simp [t0], by simp [t1], by simp [t4], by simp [t6], by simp, rfl, ?_, lo2⟩
    rw [List.replicate_succ']
    exact o3 _
  · simp at hc
    have hin : i = n := by rw [hn]; omega
    subst hin
    have hd : RdBridge (H ++ C :: some ⟨56, .wr, [[.i .i64 id, .sl a' i]]⟩ :: G) [.i .i64 id, .sl a' i] ⟨id, List.replicate i Port.zv⟩ := ⟨a', by simp [Bridge.enc], by simpa [Port.enc] using ho.sl⟩
    have e2 := specBridgeOk_is hd (by simp [Bridge.sz]; omega)
    have hok := specNew_ok id ports
    rw [← hn] at hok
    rw [hok] at e2
    simp [t0, t1, t4, t6, t7]
    refine he2 _ _ _ ?_
    simp [t4, t6, e2]
    refine selS_intro (fun hd => ?_) (fun hd => ?_)
    · simp at hd
      simp [t4, t6, hC]
      refine hQ _ _ _ (by simp) ?_
      have hb : bridgeNew id ports = (⟨0, []⟩, false) := by
        unfold bridgeNew at hd ⊢
        split at hd
        · cases hd
        · rename_i h; rw [if_neg h]
      simp [Try.f63, hb, t4]
      exact ⟨[], ⟨none, rfl, Own.nil _ _⟩, Fresh.refl _⟩
    · simp at hd
      simp [t4, t6, hC]
      refine hQ _ _ _ (by simp) ?_
      have hb : bridgeNew id ports = (⟨id, List.replicate i Port.zv⟩, true) := by
        unfold bridgeNew at hd ⊢
        split at hd
        · rename_i h
          rw [if_pos h]
          simp at h
          have : ports.toNat = i := by rw [hn, if_pos (by omega)]
          rw [this]
        · cases hd
      simp [Try.f63, hb, t4]
      have o5 := fun y => ho.keep (Keep.set (id := H.length) _ y) (fun k hk => by have := hfp k hk; simp; omega)
      simp at o5
      exact IsBridge.leave ⟨a', by simp [Bridge.enc], by simpa [Port.enc] using o5 _⟩ (Fresh.app H _ fun k hk => by have := hfp k hk; omega) (by simp)

theorem l4Has {H : Heap} {a : Option (Nat × Nat)} {xs : List Int} (h : Sl H 3 a (xs.map encI)) (hn : xs.length ≤ 1048576) (x : Int) :
    run env 86 [.w (.lf (.sl a xs.length)), .int x] H = some (.bool (decide (x ∈ xs)), H) := by
  refine run_walk ok86 Try.func86 rfl (by simp [Try.f86]) fun Q hQ => ?_
  simp only [Try.f86, strip, stripL, stripI, stripG, chkT, tagsB, tagsL, tagD, addT, tagA, lookN, tagOp, elmT, ty22, ty24, ty25, ty33, ty54, ty58, ty95, ty122, Nat.reduceEqDiff, if_false, reduceIte, Option.getD_some, Option.getD_none, dstAt, dstOk, Nat.reduceLT, decide_true, if_true]
  simp
  refine wpS_loop (fun j tm H' => ∃ i, i + j = xs.length ∧ tm 0 = .w (.lf (.sl a xs.length)) ∧ tm 1 = .int x ∧ tm 5 = .int i ∧ H' = H ∧ x ∉ xs.take i) xs.length (by rw [env_K]; omega) ⟨0, by simp, by simp, by simp, by simp, rfl, by simp⟩ ?_
  rintro j tm H' hj ⟨i, hij, t0, t1, t5, rfl, hz⟩ Q2 hn2 he2 hr2
  simp [t0, t1, t5, builtinV, pureB, lenV]
  refine selS_intro (fun hc => ?_) (fun hc => ?_)
  · simp at hc
    obtain ⟨id, r, bl, rfl, hbl, hbe, hrow⟩ := h i _ (by simp [hc]; rfl)
    have g4 : IntKind.i64.wrap ((i : Int) + 1) = (i : Int) + 1 := wrap64 (by omega) (by omega)
    simp [t0, t1, t5, indexAddrV, elemIs, hbl, hbe, hc, hrow, encI]
    refine selS_intro (fun hd => ?_) (fun hd => ?_)
    · simp at hd
      simp
      refine hr2 _ _ ?_
      simp
      refine hQ _ _ _ (by simp) ?_
      simp [Try.f86]
      exact hd ▸ List.getElem_mem hc
    · simp at hd
      simp [t0, t1, t5, g4]
      refine hn2 (j - 1) _ _ (by omega) ⟨i + 1, by omega, by simp [t0], by simp [t1], by simp, rfl, ?_⟩
      rw [List.take_add_one, List.getElem?_eq_getElem hc, List.mem_append]
      rintro (hx | hx)
      · exact hz hx
      · simp at hx; exact hd hx.symm
  · simp at hc
    rw [List.take_of_length_le (by omega)] at hz
    simp [t0, t5]
    refine he2 _ _ _ ?_
    simp
    refine hQ _ _ _ (by simp) ?_
    simp [Try.f86, hz]

def hopsOk (h : Int) : Bool := decide (0 ≤ h) && decide (h ≤ 8)
def claimP (p : Port) (v : Vec) (h : Int) : Port :=
  if (p.ok && p.up && v.ok && hopsOk h) = false then p
  else if (p.has && better p.vec v && !(decide (v.bridge = p.vec.bridge) && decide (v.port = p.vec.port))) = true then p
  else ⟨p.up, true, v, h, 3, p.role, p.wait, p.opn⟩
theorem claimP_ok {p : Port} (v : Vec) (h : Int) (hp : p.ok = true) : (claimP p v h).ok = true := by
  unfold claimP
  split
  · exact hp
  · rename_i h1
    split
    · exact hp
    · have h2 : p.ok = true ∧ p.up = true ∧ v.ok = true ∧ hopsOk h = true := by
        cases a : p.ok <;> cases b : p.up <;> cases c : v.ok <;> cases d : hopsOk h <;> simp_all
      obtain ⟨-, h3, h4, h5⟩ := h2
      simp [hopsOk] at h5
      simp [Port.ok] at hp ⊢
      simp_all
theorem claimP_up (p : Port) (v : Vec) (h : Int) : (claimP p v h).up = p.up := by unfold claimP; split <;> (try split) <;> rfl

theorem implClaim (H : Heap) (p : Port) (v : Vec) (ho : Int) : run env 97 [.agg p.enc, .agg v.enc, .int ho] H = some (.agg (claimP p v ho).enc, H) := by
  obtain ⟨a1, a2, ⟨b1, b2, b3, b4⟩, a4, a5, a6, a7, a8⟩ := p
  obtain ⟨c1, c2, c3, c4⟩ := v
  have e1 := fun H => implVecOk H ⟨c1, c2, c3, c4⟩
  have e2 := fun H => implPortOk H ⟨a1, a2, ⟨b1, b2, b3, b4⟩, a4, a5, a6, a7, a8⟩
  have e3 := fun H => implBetter H ⟨b1, b2, b3, b4⟩ ⟨c1, c2, c3, c4⟩
  simp only [Vec.enc, Port.enc] at e1 e2 e3
  have hcl : claimP ⟨a1, a2, ⟨b1, b2, b3, b4⟩, a4, a5, a6, a7, a8⟩ ⟨c1, c2, c3, c4⟩ ho = if ((⟨a1, a2, ⟨b1, b2, b3, b4⟩, a4, a5, a6, a7, a8⟩ : Port).ok && a1 && (⟨c1, c2, c3, c4⟩ : Vec).ok && (decide (0 ≤ ho) && decide (ho ≤ 8))) = false then ⟨a1, a2, ⟨b1, b2, b3, b4⟩, a4, a5, a6, a7, a8⟩
    else if (a2 && better ⟨b1, b2, b3, b4⟩ ⟨c1, c2, c3, c4⟩ && !(decide (c3 = b3) && decide (c4 = b4))) = true then ⟨a1, a2, ⟨b1, b2, b3, b4⟩, a4, a5, a6, a7, a8⟩ else ⟨a1, true, ⟨c1, c2, c3, c4⟩, ho, 3, a6, a7, a8⟩ := rfl
  rw [hcl]
  clear hcl
  have e4 := fun H => isHops H ho
  generalize (decide (0 ≤ ho) && decide (ho ≤ 8)) = hok at e4 ⊢
  generalize (⟨a1, a2, ⟨b1, b2, b3, b4⟩, a4, a5, a6, a7, a8⟩ : Port).ok = pok at e2 ⊢
  generalize (⟨c1, c2, c3, c4⟩ : Vec).ok = vok at e1 ⊢
  generalize better ⟨b1, b2, b3, b4⟩ ⟨c1, c2, c3, c4⟩ = bet at e3 ⊢
  refine run_walk ok97 Try.func97 rfl (by simp [Try.f97]) fun Q hQ => ?_
  simp only [Try.f97, strip, stripL, stripI, stripG, chkT, tagsB, tagsL, tagD, addT, tagA, lookN, tagOp, elmT, ty22, ty24, ty25, ty33, ty54, ty58, ty95, ty122, Nat.reduceEqDiff, if_false, reduceIte, Option.getD_some, Option.getD_none, dstAt, dstOk, Nat.reduceLT, decide_true, if_true]
  simp [Port.enc, Vec.enc, e4, e1, e2, e3]
  repeat' (first | (refine gdL_t (fun h => ?_) (fun h => ?_) <;> simp [h, e4, e1, e2, e3]) | (refine gdL_f (fun h => ?_) (fun h => ?_) <;> simp [h, e4, e1, e2, e3]) | (refine selS_intro (fun h => ?_) (fun h => ?_) <;> simp [h, e4, e1, e2, e3]))
  all_goals (refine hQ _ _ _ (by simp) ?_)
  all_goals (clear hQ e1 e2 e3 e4; simp [Try.f97])
  all_goals ((repeat' split) <;> simp_all [Port.enc, Vec.enc] <;> omega)

theorem specClaim (H : Heap) (p : Port) (v : Vec) (ho : Int) : run env 123 [.agg p.enc, .agg v.enc, .int ho] H = some (.agg (claimP p v ho).enc, H) := by
  obtain ⟨a1, a2, ⟨b1, b2, b3, b4⟩, a4, a5, a6, a7, a8⟩ := p
  obtain ⟨c1, c2, c3, c4⟩ := v
  have e1 := fun H => specVecOk H ⟨c1, c2, c3, c4⟩
  have e2 := fun H => specPortOk H ⟨a1, a2, ⟨b1, b2, b3, b4⟩, a4, a5, a6, a7, a8⟩
  have e3 := fun H => specBetter H ⟨b1, b2, b3, b4⟩ ⟨c1, c2, c3, c4⟩
  simp only [Vec.enc, Port.enc] at e1 e2 e3
  have hcl : claimP ⟨a1, a2, ⟨b1, b2, b3, b4⟩, a4, a5, a6, a7, a8⟩ ⟨c1, c2, c3, c4⟩ ho = if ((⟨a1, a2, ⟨b1, b2, b3, b4⟩, a4, a5, a6, a7, a8⟩ : Port).ok && a1 && (⟨c1, c2, c3, c4⟩ : Vec).ok && (decide (0 ≤ ho) && decide (ho ≤ 8))) = false then ⟨a1, a2, ⟨b1, b2, b3, b4⟩, a4, a5, a6, a7, a8⟩
    else if (a2 && better ⟨b1, b2, b3, b4⟩ ⟨c1, c2, c3, c4⟩ && !(decide (c3 = b3) && decide (c4 = b4))) = true then ⟨a1, a2, ⟨b1, b2, b3, b4⟩, a4, a5, a6, a7, a8⟩ else ⟨a1, true, ⟨c1, c2, c3, c4⟩, ho, 3, a6, a7, a8⟩ := rfl
  rw [hcl]
  clear hcl
  have e4 := fun H => l1In H ho 0 8
  generalize (decide (0 ≤ ho) && decide (ho ≤ 8)) = hok at e4 ⊢
  generalize (⟨a1, a2, ⟨b1, b2, b3, b4⟩, a4, a5, a6, a7, a8⟩ : Port).ok = pok at e2 ⊢
  generalize (⟨c1, c2, c3, c4⟩ : Vec).ok = vok at e1 ⊢
  generalize better ⟨b1, b2, b3, b4⟩ ⟨c1, c2, c3, c4⟩ = bet at e3 ⊢
  refine run_walk ok123 Try.func123 rfl (by simp [Try.f123]) fun Q hQ => ?_
  simp only [Try.f123, strip, stripL, stripI, stripG, chkT, tagsB, tagsL, tagD, addT, tagA, lookN, tagOp, elmT, ty22, ty24, ty25, ty33, ty54, ty58, ty95, ty122, Nat.reduceEqDiff, if_false, reduceIte, Option.getD_some, Option.getD_none, dstAt, dstOk, Nat.reduceLT, decide_true, if_true]
  simp [Port.enc, Vec.enc, e4, e1, e2, e3]
  repeat' (first | (refine gdL_t (fun h => ?_) (fun h => ?_) <;> simp [h, e4, e1, e2, e3]) | (refine gdL_f (fun h => ?_) (fun h => ?_) <;> simp [h, e4, e1, e2, e3]) | (refine selS_intro (fun h => ?_) (fun h => ?_) <;> simp [h, e4, e1, e2, e3]))
  all_goals (refine hQ _ _ _ (by simp) ?_)
  all_goals (clear hQ e1 e2 e3 e4; simp [Try.f123])
  all_goals ((repeat' split) <;> simp_all [Port.enc, Vec.enc] <;> omega)

def fadeP (p : Port) : Port := if (p.has && p.ok) = false then p else if p.left = 1 then ⟨p.up, false, Vec.zv, 0, 0, p.role, p.wait, p.opn⟩ else ⟨p.up, p.has, p.vec, p.hops, p.left - 1, p.role, p.wait, p.opn⟩
theorem fadeP_ok {p : Port} (hp : p.ok = true) : (fadeP p).ok = true := by
  unfold fadeP
  split
  · exact hp
  · rename_i h1
    simp [Port.ok] at h1 hp ⊢
    split <;> simp_all <;> omega
theorem fadeP_rest (p : Port) : (fadeP p).up = p.up ∧ (fadeP p).role = p.role ∧ (fadeP p).wait = p.wait ∧ (fadeP p).opn = p.opn := by
  unfold fadeP; split <;> (try split) <;> simp

theorem implFade (H : Heap) (p : Port) : run env 119 [.agg p.enc] H = some (.agg (fadeP p).enc, H) := by
  obtain ⟨a1, a2, ⟨b1, b2, b3, b4⟩, a4, a5, a6, a7, a8⟩ := p
  have e2 := fun H => implPortOk H ⟨a1, a2, ⟨b1, b2, b3, b4⟩, a4, a5, a6, a7, a8⟩
  have w : (⟨a1, a2, ⟨b1, b2, b3, b4⟩, a4, a5, a6, a7, a8⟩ : Port).ok = true → a2 = true → IntKind.i64.wrap (a5 - 1) = a5 - 1 := fun h h2 => by
    simp [Port.ok, h2] at h
    exact wrap64 (by omega) (by omega)
  have w2 : a5 - 1 = 0 ↔ a5 = 1 := by omega
  simp only [Vec.enc, Port.enc] at e2
  refine run_walk ok119 Try.func119 rfl (by simp [Try.f119]) fun Q hQ => ?_
  simp only [Try.f119, strip, stripL, stripI, stripG, chkT, tagsB, tagsL, tagD, addT, tagA, lookN, tagOp, elmT, ty22, ty24, ty25, ty33, ty54, ty58, ty95, ty122, Nat.reduceEqDiff, if_false, reduceIte, Option.getD_some, Option.getD_none, dstAt, dstOk, Nat.reduceLT, decide_true, if_true]
  simp [Port.enc, Vec.enc, e2]
  cases a2
  · simp [e2]
    refine hQ _ _ _ (by simp) ?_
    simp [Try.f119, Port.enc, fadeP]
  cases hok : (⟨a1, true, ⟨b1, b2, b3, b4⟩, a4, a5, a6, a7, a8⟩ : Port).ok
  · simp [e2, hok]
    refine hQ _ _ _ (by simp) ?_
    simp [Try.f119, Port.enc, fadeP, hok]
  · rw [hok] at e2
    simp [e2, w hok rfl, w2]
    by_cases h1 : a5 = 1
    · subst h1
      simp
      refine hQ _ _ _ (by simp) ?_
      simp [Try.f119, Port.enc, fadeP, hok]
    · simp [h1]
      refine hQ _ _ _ (by simp) ?_
      simp [Try.f119, Port.enc, fadeP, hok, h1]

theorem specFade (H : Heap) (p : Port) : run env 132 [.agg p.enc] H = some (.agg (fadeP p).enc, H) := by
  obtain ⟨a1, a2, ⟨b1, b2, b3, b4⟩, a4, a5, a6, a7, a8⟩ := p
  have e2 := fun H => specPortOk H ⟨a1, a2, ⟨b1, b2, b3, b4⟩, a4, a5, a6, a7, a8⟩
  have w : (⟨a1, a2, ⟨b1, b2, b3, b4⟩, a4, a5, a6, a7, a8⟩ : Port).ok = true → a2 = true → IntKind.i64.wrap (a5 - 1) = a5 - 1 := fun h h2 => by
    simp [Port.ok, h2] at h
    exact wrap64 (by omega) (by omega)
  have w2 : a5 - 1 = 0 ↔ a5 = 1 := by omega
  simp only [Vec.enc, Port.enc] at e2
  refine run_walk ok132 Try.func132 rfl (by simp [Try.f132]) fun Q hQ => ?_
  simp only [Try.f132, strip, stripL, stripI, stripG, chkT, tagsB, tagsL, tagD, addT, tagA, lookN, tagOp, elmT, ty22, ty24, ty25, ty33, ty54, ty58, ty95, ty122, Nat.reduceEqDiff, if_false, reduceIte, Option.getD_some, Option.getD_none, dstAt, dstOk, Nat.reduceLT, decide_true, if_true]
  simp [Port.enc, Vec.enc, e2]
  cases a2
  · skip
    repeat' (first | (refine gdL_t (fun h => ?_) (fun h => ?_) <;> simp [h, e2]) | (refine gdL_f (fun h => ?_) (fun h => ?_) <;> simp [h, e2]) | (refine selS_intro (fun h => ?_) (fun h => ?_) <;> simp [h, e2]))
    all_goals (refine hQ _ _ _ (by simp) ?_)
    all_goals (simp [Try.f132, Port.enc, fadeP])
  cases hok : (⟨a1, true, ⟨b1, b2, b3, b4⟩, a4, a5, a6, a7, a8⟩ : Port).ok
  · simp [e2, hok]
    refine hQ _ _ _ (by simp) ?_
    simp [Try.f132, Port.enc, fadeP, hok]
  · rw [hok] at e2
    simp [e2, w hok rfl, w2]
    by_cases h1 : a5 = 1
    · subst h1
      simp
      refine hQ _ _ _ (by simp) ?_
      simp [Try.f132, Port.enc, fadeP, hok]
    · simp [h1]
      refine hQ _ _ _ (by simp) ?_
      simp [Try.f132, Port.enc, fadeP, hok, h1]

def turnW (p : Port) (role : Int) : Int := if role = 3 then 0 else if p.role = 3 then 4 else p.wait
def turnP (p : Port) (role : Int) : Port := if (p.ok && p.up && (decide (1 ≤ role) && decide (role ≤ 3))) = false then p else ⟨p.up, p.has, p.vec, p.hops, p.left, role, turnW p role, openBy role (turnW p role)⟩
theorem turnP_ok {p : Port} (role : Int) (hp : p.ok = true) : (turnP p role).ok = true := by
  unfold turnP
  split
  · exact hp
  · rename_i h1
    have hw : 0 ≤ turnW p role ∧ turnW p role ≤ 4 := by
      simp [Port.ok] at hp
      unfold turnW; split
      · omega
      · split <;> omega
    simp [Port.ok] at h1 hp ⊢
    simp_all
    omega
theorem turnP_rest (p : Port) (role : Int) : (turnP p role).up = p.up ∧ (turnP p role).has = p.has ∧ (turnP p role).vec = p.vec ∧ (turnP p role).hops = p.hops ∧ (turnP p role).left = p.left := by
  unfold turnP; split <;> simp

theorem implTurn (H : Heap) (p : Port) (role : Int) : run env 121 [.agg p.enc, .int role] H = some (.agg (turnP p role).enc, H) := by
  obtain ⟨a1, a2, ⟨b1, b2, b3, b4⟩, a4, a5, a6, a7, a8⟩ := p
  have e2 := fun H => implPortOk H ⟨a1, a2, ⟨b1, b2, b3, b4⟩, a4, a5, a6, a7, a8⟩
  have e4 := fun H a1 a2 b1 b2 b3 b4 a4 a5 a6 a7 a8 => isOpenBy H ⟨a1, a2, ⟨b1, b2, b3, b4⟩, a4, a5, a6, a7, a8⟩
  simp only [Vec.enc, Port.enc] at e2 e4
  have e5 := fun H => inRange H role 1 3
  unfold turnP
  generalize (decide (1 ≤ role) && decide (role ≤ 3)) = rok at e5 ⊢
  refine run_walk ok121 Try.func121 rfl (by simp [Try.f121]) fun Q hQ => ?_
  simp only [Try.f121, strip, stripL, stripI, stripG, chkT, tagsB, tagsL, tagD, addT, tagA, lookN, tagOp, elmT, ty22, ty24, ty25, ty33, ty54, ty58, ty95, ty122, Nat.reduceEqDiff, if_false, reduceIte, Option.getD_some, Option.getD_none, dstAt, dstOk, Nat.reduceLT, decide_true, if_true]
  simp [Port.enc, Vec.enc, e5, e2]
  repeat' (first | (refine gdL_t (fun h => ?_) (fun h => ?_) <;> simp [h, e5, e2, e4]) | (refine gdL_f (fun h => ?_) (fun h => ?_) <;> simp [h, e5, e2, e4]) | (refine selS_intro (fun h => ?_) (fun h => ?_) <;> simp [h, e5, e2, e4]))
  all_goals (refine hQ _ _ _ (by simp) ?_)
  all_goals (clear hQ e2 e4 e5; simp [Try.f121]; unfold turnW; (repeat' split) <;> simp_all [Port.enc, Vec.enc])

theorem l7Open (H : Heap) (p : Port) : run env 133 [.agg p.enc] H = some (.agg ({ p with opn := openBy p.role p.wait } : Port).enc, H) := by
  obtain ⟨a1, a2, ⟨b1, b2, b3, b4⟩, a4, a5, a6, a7, a8⟩ := p
  refine run_walk ok133 Try.func133 rfl (by simp [Try.f133]) fun Q hQ => ?_
  simp only [Try.f133, strip, stripL, stripI, stripG, chkT, tagsB, tagsL, tagD, addT, tagA, lookN, tagOp, elmT, ty22, ty24, ty25, ty33, ty54, ty58, ty95, ty122, Nat.reduceEqDiff, if_false, reduceIte, Option.getD_some, Option.getD_none, dstAt, dstOk, Nat.reduceLT, decide_true, if_true]
  simp [Port.enc]
  repeat' (first | (refine gdL_t (fun h => ?_) (fun h => ?_) <;> simp [h]) | (refine gdL_f (fun h => ?_) (fun h => ?_) <;> simp [h]) | (refine selS_intro (fun h => ?_) (fun h => ?_) <;> simp [h]))
  all_goals (refine hQ _ _ _ (by simp) ?_)
  all_goals (clear hQ; simp_all [Try.f133, openBy, Port.enc])

theorem specTurn (H : Heap) (p : Port) (role : Int) : run env 134 [.agg p.enc, .int role] H = some (.agg (turnP p role).enc, H) := by
  obtain ⟨a1, a2, ⟨b1, b2, b3, b4⟩, a4, a5, a6, a7, a8⟩ := p
  have e2 := fun H => specPortOk H ⟨a1, a2, ⟨b1, b2, b3, b4⟩, a4, a5, a6, a7, a8⟩
  have e4 := fun H a1 a2 b1 b2 b3 b4 a4 a5 a6 a7 a8 => l7Open H ⟨a1, a2, ⟨b1, b2, b3, b4⟩, a4, a5, a6, a7, a8⟩
  simp only [Vec.enc, Port.enc] at e2 e4
  have e5 := fun H => l1In H role 1 3
  unfold turnP
  generalize (decide (1 ≤ role) && decide (role ≤ 3)) = rok at e5 ⊢
  refine run_walk ok134 Try.func134 rfl (by simp [Try.f134]) fun Q hQ => ?_
  simp only [Try.f134, strip, stripL, stripI, stripG, chkT, tagsB, tagsL, tagD, addT, tagA, lookN, tagOp, elmT, ty22, ty24, ty25, ty33, ty54, ty58, ty95, ty122, Nat.reduceEqDiff, if_false, reduceIte, Option.getD_some, Option.getD_none, dstAt, dstOk, Nat.reduceLT, decide_true, if_true]
  simp [Port.enc, Vec.enc, e5, e2]
  repeat' (first | (refine gdL_t (fun h => ?_) (fun h => ?_) <;> simp [h, e5, e2, e4]) | (refine gdL_f (fun h => ?_) (fun h => ?_) <;> simp [h, e5, e2, e4]) | (refine selS_intro (fun h => ?_) (fun h => ?_) <;> simp [h, e5, e2, e4]))
  all_goals (refine hQ _ _ _ (by simp) ?_)
  all_goals (clear hQ e2 e4 e5; simp [Try.f134]; unfold turnW; (repeat' split) <;> simp_all [Port.enc, Vec.enc])

/-- What a tick makes of a port that is right. -/
def tickW (q : Port) : Int := if (decide (q.role = 1) || decide (q.role = 2)) && decide (0 < q.wait) then q.wait - 1 else q.wait
def tickP (p : Port) : Port := ⟨(fadeP p).up, (fadeP p).has, (fadeP p).vec, (fadeP p).hops, (fadeP p).left, (fadeP p).role, tickW (fadeP p), openBy (fadeP p).role (tickW (fadeP p))⟩
theorem tickP_ok {p : Port} (hp : p.ok = true) : (tickP p).ok = true := by
  have h := fadeP_ok hp
  have hw : 0 ≤ tickW (fadeP p) ∧ tickW (fadeP p) ≤ 4 := by
    simp [Port.ok] at h
    unfold tickW; split <;> simp_all <;> omega
  unfold tickP
  simp [Port.ok] at h ⊢
  simp_all

theorem l8Tick (H : Heap) (p : Port) (hp : p.ok = true) : run env 124 [.agg p.enc] H = some (.agg (tickP p).enc, H) := by
  have e1 := fun H => specFade H p
  have hok := fadeP_ok hp
  obtain ⟨q, hq⟩ : ∃ q, q = fadeP p := ⟨_, rfl⟩
  have hx : tickP p = ⟨q.up, q.has, q.vec, q.hops, q.left, q.role, tickW q, openBy q.role (tickW q)⟩ := by rw [hq]; rfl
  rw [hx]
  rw [← hq] at e1 hok
  clear hx hq hp
  obtain ⟨a1, a2, ⟨b1, b2, b3, b4⟩, a4, a5, a6, a7, a8⟩ := p
  obtain ⟨q1, q2, ⟨c1, c2, c3, c4⟩, q4, q5, q6, q7, q8⟩ := q
  have w : IntKind.i64.wrap (q7 - 1) = q7 - 1 := by
    simp [Port.ok] at hok
    exact wrap64 (by omega) (by omega)
  have e4 := fun H a1 a2 b1 b2 b3 b4 a4 a5 a6 a7 a8 => l7Open H ⟨a1, a2, ⟨b1, b2, b3, b4⟩, a4, a5, a6, a7, a8⟩
  simp only [Vec.enc, Port.enc] at e1 e4
  refine run_walk ok124 Try.func124 rfl (by simp [Try.f124]) fun Q hQ => ?_
  simp only [Try.f124, strip, stripL, stripI, stripG, chkT, tagsB, tagsL, tagD, addT, tagA, lookN, tagOp, elmT, ty22, ty24, ty25, ty33, ty54, ty58, ty95, ty122, Nat.reduceEqDiff, if_false, reduceIte, Option.getD_some, Option.getD_none, dstAt, dstOk, Nat.reduceLT, decide_true, if_true]
  simp [Port.enc, Vec.enc, e1]
  repeat' (first | (refine gdL_t (fun h => ?_) (fun h => ?_) <;> simp [h, e1, e4, w]) | (refine gdL_f (fun h => ?_) (fun h => ?_) <;> simp [h, e1, e4, w]) | (refine selS_intro (fun h => ?_) (fun h => ?_) <;> simp [h, e1, e4, w]))
  all_goals (refine hQ _ _ _ (by simp) ?_)
  all_goals (clear hQ e1 e4; simp [Try.f124]; unfold tickW; (repeat' split) <;> simp_all [Port.enc, Vec.enc] <;> omega)

theorem kont_app {E : Env} {call : Fun} (f2 : List Fr) : ∀ (f1 : List Fr) (e : Ex) (tm : Ab.T) (H : Heap) (Q : Ex → Ab.T → Heap → Prop), kont E call (f1 ++ f2) e tm H Q = kont E call f1 e tm H fun e tm H => kont E call f2 e tm H Q
  | [], e, tm, H, Q => rfl
  | .seq c :: f1, .normal, tm, H, Q => by
    simp only [List.cons_append, kont]
    refine wpC_ext fun e tm H => ?_
    exact kont_app f2 f1 e tm H Q
  | .seq c :: f1, .exit j, tm, H, Q => by
    simp only [List.cons_append, kont]
    exact kont_app f2 f1 _ tm H Q
  | .seq c :: f1, .ret, tm, H, Q => by
    simp only [List.cons_append, kont]
    exact kont_app f2 f1 _ tm H Q
  | .blk id :: f1, .exit j, tm, H, Q => by
    simp only [List.cons_append, kont]
    split
    · exact kont_app f2 f1 _ tm H Q
    · exact kont_app f2 f1 _ tm H Q
  | .blk id :: f1, .normal, tm, H, Q => by
    simp only [List.cons_append, kont]
    exact kont_app f2 f1 _ tm H Q
  | .blk id :: f1, .ret, tm, H, Q => by
    simp only [List.cons_append, kont]
    exact kont_app f2 f1 _ tm H Q
theorem wpS_app {E : Env} {call : Fun} {c : C2} {f1 f2 : List Fr} {tm : Ab.T} {H : Heap} {Q : Ex → Ab.T → Heap → Prop} (h : wpS E call c f1 tm H fun e tm H => kont E call f2 e tm H Q) : wpS E call c (f1 ++ f2) tm H Q := by
  unfold wpS at h ⊢
  have : (fun e tm H => kont E call (f1 ++ f2) e tm H Q) = fun e tm H => kont E call f1 e tm H fun e tm H => kont E call f2 e tm H Q := by
    funext e tm H
    exact kont_app f2 f1 e tm H Q
  rw [this]
  exact h
/-- What stands ahead, and what is behind it: a cut. -/
theorem wpS_cut {E : Env} {call : Fun} {c : C2} {f1 fr : List Fr} {rest : C2} {tm : Ab.T} {H : Heap} {Q : Ex → Ab.T → Heap → Prop} (I : Ab.T → Heap → Prop)
    (h1 : ∀ Q' : Ex → Ab.T → Heap → Prop, (∀ tm H, I tm H → Q' .normal tm H) → (∀ j tm H, kont E call fr (.exit j) tm H Q → Q' (.exit j) tm H) → (∀ tm H, kont E call fr .ret tm H Q → Q' .ret tm H) → wpS E call c f1 tm H Q')
    (h2 : ∀ tm H, I tm H → wpS E call rest fr tm H Q) : wpS E call c (f1 ++ .seq rest :: fr) tm H Q := by
  refine wpS_app (h1 _ (fun tm H hI => ?_) (fun j tm H h => ?_) (fun tm H h => ?_))
  · rw [kont_seq_n]; exact h2 tm H hI
  · rw [kont_seq_e]; exact h
  · rw [kont_seq_r]; exact h
theorem selS_cut {E : Env} {call : Fun} {b : Bool} {x y rest : C2} {f1 fr : List Fr} {tm : Ab.T} {H : Heap} {Q : Ex → Ab.T → Heap → Prop} (I : Ab.T → Heap → Prop)
    (h1 : ∀ Q' : Ex → Ab.T → Heap → Prop, (∀ tm H, I tm H → Q' .normal tm H) → (∀ j tm H, kont E call fr (.exit j) tm H Q → Q' (.exit j) tm H) → (∀ tm H, kont E call fr .ret tm H Q → Q' .ret tm H) → selS E call (.w (.lf (.b b))) x y f1 tm H Q')
    (h2 : ∀ tm H, I tm H → wpS E call rest fr tm H Q) : selS E call (.w (.lf (.b b))) x y (f1 ++ .seq rest :: fr) tm H Q := by
  cases b
  · exact wpS_cut I (fun Q' a b c => by have := h1 Q' a b c; simpa using this) h2
  · exact wpS_cut I (fun Q' a b c => by have := h1 Q' a b c; simpa using this) h2
/-- A call, within a region that draws its order, of one that may write. -/
theorem stpL_runs_w {E : Env} {call : Fun} {draw : Bool} {tm : Ab.T} {H : Heap} {Q : Ex → Ab.T → Heap → Prop} {fr : List Fr} {is : List I2} {f : Nat} {args : List V} {d : Option Nat} {K : V → Heap → Prop} {x y : List (Nat × Nat × Nat)} (h : Runs E f args H K) (hw : E.wr f = true) (hf : ∀ v H', K v H' → H.length ≤ H'.length)
    (hk : ∀ v H', K v H' → stpL E call (some (v, H')) d draw is fr tm Q) (hn : E.wt f = none := by rfl) : stpL E call (guardCall E draw (.w (.lf (.fn f x y))) H (run E f args H)) d draw is fr tm Q := by
  obtain ⟨v, H', hr, hK⟩ := h
  have : guardCall E draw (.w (.lf (.fn f x y))) H (run E f args H) = some (v, H') := by
    rw [hr]
    unfold guardCall
    split
    · rfl
    · simp [hw, hf v H' hK, hn, onlyT]
  rw [this]
  exact hk v H' hK

/-- The first i elements turned. -/
def mixL {α : Type} (f : Nat → α → α) (xs : List α) (i : Nat) : List α := xs.mapIdx fun k x => if k < i then f k x else x
@[simp] theorem mixL_len {α : Type} (f : Nat → α → α) (xs : List α) (i : Nat) : (mixL f xs i).length = xs.length := by simp [mixL]
theorem mixL_zero {α : Type} (f : Nat → α → α) (xs : List α) : mixL f xs 0 = xs := by
  refine List.ext_getElem? fun k => ?_
  simp [mixL, List.getElem?_mapIdx]
theorem mixL_all {α : Type} (f : Nat → α → α) (xs : List α) {i : Nat} (h : xs.length ≤ i) : mixL f xs i = xs.mapIdx f := by
  refine List.ext_getElem? fun k => ?_
  simp only [mixL, List.getElem?_mapIdx]
  cases hx : xs[k]? with
  | none => rfl
  | some x =>
    have := (List.getElem?_eq_some_iff.1 hx).1
    simp; omega
theorem mixL_at {α : Type} (f : Nat → α → α) (xs : List α) {i k : Nat} (h : i ≤ k) : (mixL f xs i)[k]? = xs[k]? := by
  simp only [mixL, List.getElem?_mapIdx]
  cases hx : xs[k]? with
  | none => rfl
  | some x => simp; omega
theorem mixL_step {α : Type} (f : Nat → α → α) (xs : List α) {i : Nat} (h : i < xs.length) : (mixL f xs i).set i (f i xs[i]) = mixL f xs (i + 1) := by
  refine List.ext_getElem? fun k => ?_
  rw [List.getElem?_set]
  split
  · rename_i he
    subst he
    simp [mixL, h]
  · rename_i he
    simp only [mixL, List.getElem?_mapIdx]
    cases hx : xs[k]? with
    | none => rfl
    | some x =>
      simp only [Option.map_some]
      congr 1
      split
      · rw [if_pos (by omega)]
      · rw [if_neg (by omega)]
theorem mixL_same {α : Type} (f : Nat → α → α) (xs : List α) {i : Nat} (h : i < xs.length) (he : f i xs[i] = xs[i]) : mixL f xs (i + 1) = mixL f xs i := by
  rw [← mixL_step f xs h, he]
  refine List.ext_getElem? fun k => ?_
  rw [List.getElem?_set]
  split
  · rename_i he
    subst he
    rw [mixL_at f xs (Nat.le_refl _), List.getElem?_eq_getElem h]
    simp [h]
  · rfl

/-- Elements made one behind the other. -/
def upto {α : Type} (f : Nat → List α) : Nat → List α
  | 0 => []
  | i + 1 => upto f i ++ f i
theorem upto_len {α : Type} {f : Nat → List α} (h : ∀ i, (f i).length ≤ 1) : ∀ i, (upto f i).length ≤ i
  | 0 => by simp [upto]
  | i + 1 => by
    have := upto_len h i
    have := h i
    simp [upto]; omega
theorem upto_all {α : Type} {f : Nat → List α} {p : α → Prop} (h : ∀ i, ∀ x ∈ f i, p x) : ∀ i, ∀ x ∈ upto f i, p x
  | 0 => by simp [upto]
  | i + 1 => by
    intro x hx
    rw [upto, List.mem_append] at hx
    rcases hx with hx | hx
    · exact upto_all h i x hx
    · exact h i x hx

def keyP (p : Port) : Bool × Vec × Int := (p.has, p.vec, p.hops)
theorem rootSkip_key {b c : Bridge} {p q : Port} (hi : b.id = c.id) (h : keyP p = keyP q) : rootSkip b p = rootSkip c q := by
  simp only [keyP, Prod.mk.injEq] at h
  unfold rootSkip
  rw [h.1, h.2.1, h.2.2, hi]
theorem getD_key {xs ys : List Port} (h : xs.map keyP = ys.map keyP) (k : Nat) : keyP (xs.getD k default) = keyP (ys.getD k default) := by
  have hg : (xs[k]?).map keyP = (ys[k]?).map keyP := by rw [← List.getElem?_map, ← List.getElem?_map, h]
  rw [List.getD_eq_getElem?_getD, List.getD_eq_getElem?_getD]
  cases hb : xs[k]? <;> cases hc : ys[k]? <;> simp [hb, hc] at hg ⊢
  exact hg
theorem rootUpto_key {b c : Bridge} (hi : b.id = c.id) (h : b.ports.map keyP = c.ports.map keyP) : ∀ i, rootUpto b i = rootUpto c i
  | 0 => rfl
  | i + 1 => by
    have ih := rootUpto_key hi h i
    have hg : (b.ports[i]?).map keyP = (c.ports[i]?).map keyP := by rw [← List.getElem?_map, ← List.getElem?_map, h]
    rw [rootUpto, rootUpto]
    cases hb : b.ports[i]? <;> cases hc : c.ports[i]? <;> simp [hb, hc] at hg
    · exact ih
    · rename_i p q
      have hv := getD_key h (rootUpto c i).toNat
      have h2 := rootSkip_key hi hg
      simp only [keyP, Prod.mk.injEq] at hv hg
      simp only [rootStep, h2, ih, hv.2.1, hg.2.1]
theorem rootAt_key {b c : Bridge} (hi : b.id = c.id) (h : b.ports.map keyP = c.ports.map keyP) : rootAt b = rootAt c := by
  have hl : b.ports.length = c.ports.length := by simpa using congrArg List.length h
  unfold rootAt
  rw [rootUpto_key hi h, hl]
def ownV (b : Bridge) (port : Int) : Vec := if rootAt b < 0 then ⟨b.id, 0, b.id, port⟩ else ⟨(b.ports.getD (rootAt b).toNat default).vec.root, (b.ports.getD (rootAt b).toNat default).vec.cost + 1, b.id, port⟩
def hopsB (b : Bridge) : Int := if rootAt b < 0 then 0 else (b.ports.getD (rootAt b).toNat default).hops + 1
theorem ownV_key {b c : Bridge} (hi : b.id = c.id) (h : b.ports.map keyP = c.ports.map keyP) (port : Int) : ownV b port = ownV c port := by
  have hv := getD_key h (rootAt c).toNat
  simp only [keyP, Prod.mk.injEq] at hv
  unfold ownV
  rw [rootAt_key hi h, hi, hv.2.1]
theorem hopsB_key {b c : Bridge} (hi : b.id = c.id) (h : b.ports.map keyP = c.ports.map keyP) : hopsB b = hopsB c := by
  have hv := getD_key h (rootAt c).toNat
  simp only [keyP, Prod.mk.injEq] at hv
  unfold hopsB
  rw [rootAt_key hi h, hv.2.2]
theorem Port.ok_bd {p : Port} (h : p.ok = true) : 0 ≤ p.vec.cost ∧ p.vec.cost ≤ 20 ∧ 0 ≤ p.hops ∧ p.hops ≤ 8 := by
  obtain ⟨a1, a2, ⟨b1, b2, b3, b4⟩, a4, a5, a6, a7, a8⟩ := p
  cases a2
  · simp [Port.ok] at h
    simp only
    omega
  · simp [Port.ok, Vec.ok] at h
    simp only
    omega
theorem Bridge.ok_all {b : Bridge} (h : b.ok = true) : (∀ p ∈ b.ports, p.ok = true) ∧ 1 ≤ b.id ∧ b.id ≤ 9 ∧ 1 ≤ b.ports.length ∧ b.ports.length ≤ 4 := by
  simp [Bridge.ok] at h
  refine ⟨h.1.1, ?_⟩
  omega
theorem Bridge.ok_of {b : Bridge} (h1 : ∀ p ∈ b.ports, p.ok = true) (h2 : 1 ≤ b.id ∧ b.id ≤ 9 ∧ 1 ≤ b.ports.length ∧ b.ports.length ≤ 4) : b.ok = true := by
  simp [Bridge.ok]
  refine ⟨⟨h1, ?_⟩, ?_⟩ <;> omega
theorem Bridge.ok_at {b : Bridge} (h : b.ok = true) {i : Nat} (hi : i < b.ports.length) : b.ports[i].ok = true := (Bridge.ok_all h).1 _ (List.getElem_mem hi)

theorem rootPortG {H : Heap} {id ro : Nat} {blo : Blk} {b : Bridge} {a : Option (Nat × Nat)} (hb : blkAt H id = some blo) (hbe0 : blo.elem = 56) (hrow0 : blo.rows[ro]? = some (b.enc a)) (h_ : Sl H 87 a (b.ports.map Port.enc)) (hn : b.ports.length ≤ 1048576) :
    run env 110 [.ptr id ro 0] H = some (.int (rootAt b), H) := by
  have hid0 := blkAt_len hb
  simp only [Bridge.enc] at hrow0
  have e1 := fun H (c1 c2 c3 c4 d1 d2 d3 d4 : Int) => implBetter H ⟨c1, c2, c3, c4⟩ ⟨d1, d2, d3, d4⟩
  simp only [Vec.enc] at e1
  refine run_walk ok110 Try.func110 rfl (by simp [Try.f110]) fun Q hQ => ?_
  simp only [Try.f110, strip, stripL, stripI, stripG, chkT, tagsB, tagsL, tagD, addT, tagA, lookN, tagOp, elmT, ty22, ty24, ty25, ty33, ty54, ty58, ty95, ty122, Nat.reduceEqDiff, if_false, reduceIte, Option.getD_some, Option.getD_none, dstAt, dstOk, Nat.reduceLT, decide_true, if_true]
  simp [hb, hbe0, hrow0, builtinV, pureB, lenV]
  refine wpS_loop (fun j tm H' => ∃ i T, i + j = b.ports.length ∧ tm 0 = .ptr id ro 0 ∧ tm 3 = .int (rootUpto b i) ∧ tm 9 = .w (.lf (.sl a b.ports.length)) ∧ tm 10 = .int b.ports.length ∧ tm 11 = .int i ∧ H' = H ++ T) b.ports.length (by rw [env_K]; omega) ⟨0, [], by simp, by simp, by simp [rootUpto], by simp, by simp, by simp, by simp⟩ ?_
  rintro j tm H' hj ⟨i, T, hij, t0, t3, t9, t10, t11, rfl⟩ Q2 hn2 he2 hr2
  simp [t0, t3, t9, t10, t11]
  refine selS_intro (fun hc => ?_) (fun hc => ?_)
  · simp at hc
    obtain ⟨id2, r, bl, rfl, hbl, hbe, hrow⟩ := h_ i _ (by simp [hc]; rfl)
    have hid := blkAt_len hbl
    have g4 : IntKind.i64.wrap ((i : Int) + 1) = (i : Int) + 1 := wrap64 (by omega) (by omega)
    have hlt := rootUpto_lt b i
    have hstep : rootUpto b (i + 1) = rootStep b (rootUpto b i) i b.ports[i] := by rw [rootUpto, List.getElem?_eq_getElem hc]
    have hskip : ∀ tm', tm' 0 = .ptr id ro 0 → tm' 3 = .int (rootUpto b (i + 1)) → tm' 9 = .w (.lf (.sl (some (id2, r)) b.ports.length)) → tm' 10 = .int b.ports.length → tm' 11 = .int ((i : Int) + 1) → ∀ T', Q2 .normal tm' (H ++ T') := fun tm' a0 a3 a9 a10 a11 T' =>
      hn2 (j - 1) _ _ (by omega) ⟨i + 1, T', by omega, a0, a3, a9, a10, by simpa using a11, rfl⟩
    obtain ⟨p, hp⟩ : ∃ p, p = b.ports[i] := ⟨_, rfl⟩
    rw [← hp] at hstep
    simp [t0, t3, t9, t10, t11, indexAddrV, elemIs, hid, hbl, hbe, hc, hrow, ← hp, Port.enc]
    have skipped : rootSkip b p = true → rootUpto b (i + 1) = rootUpto b i := fun hs => by rw [hstep, rootStep, if_pos hs]
    repeat' (first | (refine gdL_t (fun h => ?_) (fun h => ?_) <;> simp [h, t0, t3, t9, t10, t11, hb, hbe0, hrow0, hid0, g4]) | (refine gdL_f (fun h => ?_) (fun h => ?_) <;> simp [h, t0, t3, t9, t10, t11, hb, hbe0, hrow0, hid0, g4]) | (refine selS_intro (fun h => ?_) (fun h => ?_) <;> simp [h, t0, t3, t9, t10, t11, hb, hbe0, hrow0, hid0, g4]))
    iterate 5 (refine hskip _ (by simp [t0]) ?_ (by simp [t9]) (by simp [t10]) (by simp) _; rw [skipped (by clear hQ hn2 he2 hr2 hskip; simp_all [rootSkip])]; simp [t3])
    · have hns : rootSkip b p = false := by clear hQ hn2 he2 hr2 hskip skipped; simp_all [rootSkip]
      refine hskip _ (by simp [t0]) ?_ (by simp [t9]) (by simp [t10]) (by simp) _
      rw [hstep, rootStep, hns]
      have h0 : rootUpto b i < 0 := by simpa using h
      simp [h0]
    · have hns : rootSkip b p = false := by clear hQ hn2 he2 hr2 hskip skipped; simp_all [rootSkip]
      have h0 : 0 ≤ rootUpto b i := by simpa using h
      have hki : (rootUpto b i).toNat < b.ports.length := by omega
      have hkl : rootUpto b i < (b.ports.length : Int) := by omega
      obtain ⟨id3, r3, bl3, hx3, hbl3, hbe3, hrow3⟩ := h_ (rootUpto b i).toNat _ (by simp [hki]; rfl)
      cases hx3
      rw [hbl] at hbl3
      injection hbl3 with hbl3
      subst hbl3
      have hgd : (b.ports.getD (rootUpto b i).toNat default) = b.ports[(rootUpto b i).toNat] := by simp [List.getD, List.getElem?_eq_getElem hki]
      have hnl : ¬ rootUpto b i < 0 := by omega
      rw [rootStep, hns, hgd] at hstep
      simp only [Bool.false_eq_true, if_false, hnl, decide_false, Bool.false_or] at hstep
      simp [t0, t3, t9, t10, t11, hb, hbe0, hrow0, hid0, indexAddrV, elemIs, hid, hbl, hbe, h0, hkl, hrow3, Port.enc, e1]
      refine selS_intro (fun hd => ?_) (fun hd => ?_)
      · simp [t0, t3, t9, t10, t11, g4]
        refine hskip _ (by simp [t0]) ?_ (by simp [t9]) (by simp [t10]) (by simp) _
        rw [hstep, if_pos (by simpa using hd)]
        simp
      · simp [t0, t3, t9, t10, t11, g4]
        refine hskip _ (by simp [t0]) ?_ (by simp [t9]) (by simp [t10]) (by simp) _
        rw [hstep, if_neg (by simpa using hd)]
        simp [t3]
  · simp at hc
    obtain rfl : i = b.ports.length := by omega
    simp [t0, t3, t9, t10, t11]
    refine he2 _ _ _ ?_
    simp [t3]
    refine hQ _ _ _ (by simp) ?_
    simp [Try.f110, rootAt]

/-- The port that the root port is, where there is one. -/
theorem rootGet {b : Bridge} (hok : b.ok = true) (hr : 0 ≤ rootAt b) : ∃ (h : (rootAt b).toNat < b.ports.length), rootAt b < (b.ports.length : Int) ∧ b.ports.getD (rootAt b).toNat default = b.ports[(rootAt b).toNat] ∧ b.ports[(rootAt b).toNat].ok = true ∧
    0 ≤ b.ports[(rootAt b).toNat].vec.cost ∧ b.ports[(rootAt b).toNat].vec.cost ≤ 20 ∧ 0 ≤ b.ports[(rootAt b).toNat].hops ∧ b.ports[(rootAt b).toNat].hops ≤ 8 := by
  have hlt := (rootUpto_lt b b.ports.length).2
  have h : (rootAt b).toNat < b.ports.length := by unfold rootAt at hr ⊢; omega
  have hp := Bridge.ok_at hok h
  exact ⟨h, by omega, by simp [List.getD, List.getElem?_eq_getElem h], hp, Port.ok_bd hp⟩

theorem ownM {H : Heap} {id ro : Nat} {blo : Blk} {b : Bridge} {a : Option (Nat × Nat)} (hb : blkAt H id = some blo) (hbe0 : blo.elem = 56) (hrow0 : blo.rows[ro]? = some (b.enc a)) (h_ : Sl H 87 a (b.ports.map Port.enc)) (hok : b.ok = true) (port : Int) :
    run env 90 [.ptr id ro 0, .int port] H = some (.agg (ownV b port).enc, H) := by
  have hl := (Bridge.ok_all hok).2.2.2.2
  have hid0 := blkAt_len hb
  have e1 := fun G => rootPortG (H := H ++ G) (blkAt_app hb G) hbe0 hrow0 (h_.app G) (by omega)
  simp only [Bridge.enc] at hrow0
  refine run_walk ok90 Try.func90 rfl (by simp [Try.f90]) fun Q hQ => ?_
  simp only [Try.f90, strip, stripL, stripI, stripG, chkT, tagsB, tagsL, tagD, addT, tagA, lookN, tagOp, elmT, ty22, ty24, ty25, ty33, ty54, ty58, ty95, ty122, Nat.reduceEqDiff, if_false, reduceIte, Option.getD_some, Option.getD_none, dstAt, dstOk, Nat.reduceLT, decide_true, if_true]
  simp [hb, hbe0, hrow0, hid0, e1]
  by_cases hr : 0 ≤ rootAt b
  · obtain ⟨hk, hkl, hgd, hpo, c0, c1, -, -⟩ := rootGet hok hr
    obtain ⟨id3, r3, bl3, rfl, hbl3, hbe3, hrow3⟩ := h_ (rootAt b).toNat _ (by simp [hk]; rfl)
    have hid3 := blkAt_len hbl3
    have hv : ownV b port = ⟨b.ports[(rootAt b).toNat].vec.root, b.ports[(rootAt b).toNat].vec.cost + 1, b.id, port⟩ := by
      unfold ownV
      rw [if_neg (by omega), hgd]
    have g : IntKind.i64.wrap (b.ports[(rootAt b).toNat].vec.cost + 1) = b.ports[(rootAt b).toNat].vec.cost + 1 := wrap64 (by omega) (by omega)
    obtain ⟨p, hp⟩ : ∃ p, p = b.ports[(rootAt b).toNat] := ⟨_, rfl⟩
    rw [← hp] at hv g hrow3
    simp [hr, hb, hbe0, hrow0, hid0, indexAddrV, elemIs, hid3, hbl3, hbe3, hkl, hrow3, Port.enc, g]
    refine hQ _ _ _ (by simp) ?_
    simp [Try.f90, hv, Vec.enc]
  · have hv : ownV b port = ⟨b.id, 0, b.id, port⟩ := by unfold ownV; rw [if_pos (by omega)]
    simp [hr]
    refine hQ _ _ _ (by simp) ?_
    simp [Try.f90, hv, Vec.enc]

theorem hopsM {H : Heap} {id ro : Nat} {blo : Blk} {b : Bridge} {a : Option (Nat × Nat)} (hb : blkAt H id = some blo) (hbe0 : blo.elem = 56) (hrow0 : blo.rows[ro]? = some (b.enc a)) (h_ : Sl H 87 a (b.ports.map Port.enc)) (hok : b.ok = true) :
    run env 100 [.ptr id ro 0] H = some (.int (hopsB b), H) := by
  have hl := (Bridge.ok_all hok).2.2.2.2
  have hid0 := blkAt_len hb
  have e1 := rootPortG hb hbe0 hrow0 h_ (by omega)
  simp only [Bridge.enc] at hrow0
  refine run_walk ok100 Try.func100 rfl (by simp [Try.f100]) fun Q hQ => ?_
  simp only [Try.f100, strip, stripL, stripI, stripG, chkT, tagsB, tagsL, tagD, addT, tagA, lookN, tagOp, elmT, ty22, ty24, ty25, ty33, ty54, ty58, ty95, ty122, Nat.reduceEqDiff, if_false, reduceIte, Option.getD_some, Option.getD_none, dstAt, dstOk, Nat.reduceLT, decide_true, if_true]
  simp [hb, hbe0, hrow0, hid0, e1]
  by_cases hr : 0 ≤ rootAt b
  · obtain ⟨hk, hkl, hgd, hpo, -, -, c0, c1⟩ := rootGet hok hr
    obtain ⟨id3, r3, bl3, rfl, hbl3, hbe3, hrow3⟩ := h_ (rootAt b).toNat _ (by simp [hk]; rfl)
    have hid3 := blkAt_len hbl3
    have hv : hopsB b = b.ports[(rootAt b).toNat].hops + 1 := by
      unfold hopsB
      rw [if_neg (by omega), hgd]
    have g : IntKind.i64.wrap (b.ports[(rootAt b).toNat].hops + 1) = b.ports[(rootAt b).toNat].hops + 1 := wrap64 (by omega) (by omega)
    obtain ⟨p, hp⟩ : ∃ p, p = b.ports[(rootAt b).toNat] := ⟨_, rfl⟩
    rw [← hp] at hv g hrow3
    simp [hr, hb, hbe0, hrow0, hid0, indexAddrV, elemIs, hid3, hbl3, hbe3, hkl, hrow3, Port.enc, g]
    refine hQ _ _ _ (by simp) ?_
    simp [Try.f100, hv]
  · have hv : hopsB b = 0 := by unfold hopsB; rw [if_pos (by omega)]
    simp [hr]
    refine hQ _ _ _ (by simp) ?_
    simp [Try.f100, hv]

theorem specOwn {H : Heap} {l : List Lf} {b : Bridge} (h : RdBridge H l b) (hok : b.ok = true) {port : Int} (h0 : 0 ≤ port) (h1 : port < b.ports.length) : run env 104 [.agg l, .int port] H = some (.agg (ownV b port).enc, H) := by
  have hl := (Bridge.ok_all hok).2.2.2.2
  have e1 := fun G => specBridgeOk_is (h.app G) (by have : b.sz = b.ports.length := rfl; omega)
  have e2 := fun G => specRootPort (h.app G) (by have : b.sz = b.ports.length := rfl; omega)
  have hrp : rootPort b = (rootAt b, decide (0 ≤ rootAt b)) := by simp [rootPort, hok]
  obtain ⟨a, rfl, h_⟩ := h
  rw [hrp] at e2
  rw [hok] at e1
  simp only [Bridge.enc] at e1 e2
  have g2 : IntKind.i64.wrap ((b.ports.length : Int) - 1) = (b.ports.length : Int) - 1 := wrap64 (by omega) (by omega)
  have h2 : port ≤ (b.ports.length : Int) - 1 := by omega
  refine run_walk ok104 Try.func104 rfl (by simp [Try.f104]) fun Q hQ => ?_
  simp only [Try.f104, strip, stripL, stripI, stripG, chkT, tagsB, tagsL, tagD, addT, tagA, lookN, tagOp, elmT, ty22, ty24, ty25, ty33, ty54, ty58, ty95, ty122, Nat.reduceEqDiff, if_false, reduceIte, Option.getD_some, Option.getD_none, dstAt, dstOk, Nat.reduceLT, decide_true, if_true]
  simp [Bridge.enc, e1, e2, builtinV, pureB, lenV, g2, l1In, h0, h2]
  by_cases hr : 0 ≤ rootAt b
  · obtain ⟨hk, hkl, hgd, hpo, c0, c1, -, -⟩ := rootGet hok hr
    obtain ⟨id3, r3, bl3, rfl, hbl3, hbe3, hrow3⟩ := h_ (rootAt b).toNat _ (by simp [hk]; rfl)
    have hid3 := blkAt_len hbl3
    have hv : ownV b port = ⟨b.ports[(rootAt b).toNat].vec.root, b.ports[(rootAt b).toNat].vec.cost + 1, b.id, port⟩ := by
      unfold ownV
      rw [if_neg (by omega), hgd]
    have g : IntKind.i64.wrap (b.ports[(rootAt b).toNat].vec.cost + 1) = b.ports[(rootAt b).toNat].vec.cost + 1 := wrap64 (by omega) (by omega)
    obtain ⟨p, hp⟩ : ∃ p, p = b.ports[(rootAt b).toNat] := ⟨_, rfl⟩
    rw [← hp] at hv g hrow3
    simp [hr, indexAddrV, elemIs, hid3, hbl3, hbe3, hkl, hrow3, Port.enc, g]
    refine hQ _ _ _ (by simp) ?_
    simp [Try.f104, hv, Vec.enc]
  · have hv : ownV b port = ⟨b.id, 0, b.id, port⟩ := by unfold ownV; rw [if_pos (by omega)]
    simp [hr]
    refine hQ _ _ _ (by simp) ?_
    simp [Try.f104, hv, Vec.enc]

theorem specHops {H : Heap} {l : List Lf} {b : Bridge} (h : RdBridge H l b) (hok : b.ok = true) : run env 105 [.agg l] H = some (.int (hopsB b), H) := by
  have hl := (Bridge.ok_all hok).2.2.2.2
  have e2 := fun G => specRootPort (h.app G) (by have : b.sz = b.ports.length := rfl; omega)
  have hrp : rootPort b = (rootAt b, decide (0 ≤ rootAt b)) := by simp [rootPort, hok]
  obtain ⟨a, rfl, h_⟩ := h
  rw [hrp] at e2
  simp only [Bridge.enc] at e2
  refine run_walk ok105 Try.func105 rfl (by simp [Try.f105]) fun Q hQ => ?_
  simp only [Try.f105, strip, stripL, stripI, stripG, chkT, tagsB, tagsL, tagD, addT, tagA, lookN, tagOp, elmT, ty22, ty24, ty25, ty33, ty54, ty58, ty95, ty122, Nat.reduceEqDiff, if_false, reduceIte, Option.getD_some, Option.getD_none, dstAt, dstOk, Nat.reduceLT, decide_true, if_true]
  simp [Bridge.enc, e2]
  by_cases hr : 0 ≤ rootAt b
  · obtain ⟨hk, hkl, hgd, hpo, -, -, c0, c1⟩ := rootGet hok hr
    obtain ⟨id3, r3, bl3, rfl, hbl3, hbe3, hrow3⟩ := h_ (rootAt b).toNat _ (by simp [hk]; rfl)
    have hid3 := blkAt_len hbl3
    have hv : hopsB b = b.ports[(rootAt b).toNat].hops + 1 := by
      unfold hopsB
      rw [if_neg (by omega), hgd]
    have g : IntKind.i64.wrap (b.ports[(rootAt b).toNat].hops + 1) = b.ports[(rootAt b).toNat].hops + 1 := wrap64 (by omega) (by omega)
    obtain ⟨p, hp⟩ : ∃ p, p = b.ports[(rootAt b).toNat] := ⟨_, rfl⟩
    rw [← hp] at hv g hrow3
    simp [hr, indexAddrV, elemIs, hid3, hbl3, hbe3, hkl, hrow3, Port.enc, g]
    refine hQ _ _ _ (by simp) ?_
    simp [Try.f105, hv]
  · have hv : hopsB b = 0 := by unfold hopsB; rw [if_pos (by omega)]
    simp [hr]
    refine hQ _ _ _ (by simp) ?_
    simp [Try.f105, hv]

def tickB (b : Bridge) : Bridge := ⟨b.id, b.ports.mapIdx fun _ p => tickP p⟩
theorem mapIdx_ok {f : Nat → Port → Port} {b : Bridge} (h : b.ok = true) (hf : ∀ i p, p.ok = true → (f i p).ok = true) : (⟨b.id, b.ports.mapIdx f⟩ : Bridge).ok = true := by
  obtain ⟨h1, h2⟩ := Bridge.ok_all h
  refine Bridge.ok_of (fun p hp => ?_) (by simpa using h2)
  rw [List.mem_mapIdx] at hp
  obtain ⟨i, hi, rfl⟩ := hp
  exact hf _ _ (h1 _ (List.getElem_mem hi))
theorem tickB_ok {b : Bridge} (h : b.ok = true) : (tickB b).ok = true := mapIdx_ok h fun _ _ hp => tickP_ok hp

theorem tickM {H : Heap} {id ro : Nat} {blo : Blk} {b : Bridge} {a : Option (Nat × Nat)} {fp : List Nat} (hb : blkAt H id = some blo) (hbe0 : blo.elem = 56) (hrow0 : blo.rows[ro]? = some (b.enc a)) (ho : Own H 87 a (b.ports.map Port.enc) fp) (hidf : id ∉ fp) (hok : b.ok = true) :
    Runs env 98 [.ptr id ro 0] H fun v H' => v = .tup [] ∧ Own H' 87 a ((tickB b).ports.map Port.enc) fp ∧ Keep fp H H' := by
  obtain ⟨hpok, -, -, hl1, hl4⟩ := Bridge.ok_all hok
  simp only [Bridge.enc] at hrow0
  refine Runs.walk ok98 Try.func98 rfl (by simp [Try.f98]) fun Q hQ => ?_
  simp only [Try.f98, strip, stripL, stripI, stripG, chkT, tagsB, tagsL, tagD, addT, tagA, lookN, tagOp, elmT, ty22, ty24, ty25, ty33, ty54, ty58, ty95, ty122, Nat.reduceEqDiff, if_false, reduceIte, Option.getD_some, Option.getD_none, dstAt, dstOk, Nat.reduceLT, decide_true, if_true]
  simp [hb, hbe0, hrow0, builtinV, pureB, lenV]
  refine wpS_loop (fun j tm H' => ∃ i, i + j = b.ports.length ∧ tm 0 = .ptr id ro 0 ∧ tm 8 = .int b.ports.length ∧ tm 9 = .int i ∧ Own H' 87 a ((mixL (fun _ p => tickP p) b.ports i).map Port.enc) fp ∧ Keep fp H H') b.ports.length (by rw [env_K]; omega) ⟨0, by simp, by simp, by simp, by simp, by rw [mixL_zero]; exact ho, Keep.refl _ _⟩ ?_
  rintro j tm H1 hj ⟨i, hij, t0, t8, t9, ho1, hk1⟩ Q' hn' he' hr'
  have hb1 := hk1.blk hb hidf
  have hid1 := blkAt_len hb1
  simp [t0, t8, t9]
  refine selS_intro (fun hc => ?_) (fun hc => ?_)
  · simp at hc
    obtain ⟨pid, pb, rfl, rfl, hpb, hpe, hpm, hpre⟩ := ho1.blk (by intro h; have := congrArg List.length h; simp only [List.length_map, mixL_len, List.length_nil] at this; omega)
    have hpl := blkAt_len hpb
    obtain ⟨t, ht⟩ := hpre
    have hrw : pb.rows[i]? = some b.ports[i].enc := by
      rw [← ht, List.getElem?_append_left (by simp; omega), List.getElem?_map, mixL_at _ _ (Nat.le_refl _), List.getElem?_eq_getElem hc]; rfl
    have g4 : IntKind.i64.wrap ((i : Int) + 1) = (i : Int) + 1 := wrap64 (by omega) (by omega)
    have hpo := hpok _ (List.getElem_mem hc)
    obtain ⟨p, hp⟩ : ∃ p, p = b.ports[i] := ⟨_, rfl⟩
    have e1 := fun H => implFade H p
    have hqo := fadeP_ok (p := p) (by rw [hp]; exact hpo)
    obtain ⟨q, hq⟩ : ∃ q, q = fadeP p := ⟨_, rfl⟩
    have hx : tickP p = ⟨q.up, q.has, q.vec, q.hops, q.left, q.role, tickW q, openBy q.role (tickW q)⟩ := by rw [hq]; rfl
    rw [← hq] at e1 hqo
    rw [← hp] at hrw
    have hqw : 0 ≤ q.wait ∧ q.wait ≤ 4 ∧ q.opn = openBy q.role q.wait := by
      simp [Port.ok] at hqo
      exact ⟨hqo.1.2.1, hqo.1.2.2, hqo.2⟩
    have w : IntKind.i64.wrap (q.wait - 1) = q.wait - 1 := wrap64 (by omega) (by omega)
    have e4 := fun H a1 a2 b1 b2 b3 b4 a4 a5 a6 a7 a8 => isOpenBy H ⟨a1, a2, ⟨b1, b2, b3, b4⟩, a4, a5, a6, a7, a8⟩
    simp only [Port.enc] at e1 e4 hrw
    have next : ∀ (tm' : Ab.T) (G' : Heap) (row : List Lf), tm' 0 = .ptr id ro 0 → tm' 8 = .int b.ports.length → tm' 9 = .int ((i : Int) + 1) → row = (tickP p).enc → Q' .normal tm' (H1.set pid (some ⟨87, .wr, pb.rows.set i row⟩) ++ G') := by
      rintro tm' G' row a0 a8 a9 rfl
      refine hn' (j - 1) _ _ (by omega) ⟨i + 1, by omega, a0, a8, by simpa using a9, ?_, ?_⟩
      · have := ho1.set (row := (tickP p).enc) hpb (i := i) (by simp; omega)
        rw [hpm, hpe] at this
        rw [← mixL_step _ _ hc, List.map_set, ← hp]
        exact this.app _
      · exact Keep.trans (h := [pid]) (hk1.trans (h := [pid]) (Keep.set _ _) (by simp) (by simp)) (Keep.app [] _ _) (by simp) (by simp)
    simp [t0, t8, t9, hb1, hid1, hbe0, hrow0, indexAddrV, elemIs, hpl, hpb, hpe, hpm, hc, hrw, e1, g4]
    repeat' (first | (refine gdL_t (fun h => ?_) (fun h => ?_) <;> simp [h, t0, t8, t9, hb1, hid1, hbe0, hrow0, indexAddrV, elemIs, hpl, hpb, hpe, hpm, hc, hrw, e4, g4, w]) | (refine gdL_f (fun h => ?_) (fun h => ?_) <;> simp [h, t0, t8, t9, hb1, hid1, hbe0, hrow0, indexAddrV, elemIs, hpl, hpb, hpe, hpm, hc, hrw, e4, g4, w]) | (refine selS_intro (fun h => ?_) (fun h => ?_) <;> simp [h, t0, t8, t9, hb1, hid1, hbe0, hrow0, indexAddrV, elemIs, hpl, hpb, hpe, hpm, hc, hrw, e4, g4, w]))
    all_goals (refine next _ _ _ (by simp [t0]) (by simp [t8]) (by simp) ?_)
    all_goals (rw [hx]; clear hQ hn' he' hr' next e1 e4 hx; simp only [tickW])
    all_goals ((repeat' split) <;> simp_all [Port.enc] <;> omega)
  · simp at hc
    obtain rfl : i = b.ports.length := by omega
    simp [t0, t8, t9]
    refine he' _ _ _ ?_
    simp
    refine hQ _ _ _ (by simp) ?_
    rw [mixL_all _ _ (Nat.le_refl _)] at ho1
    simp [Try.f98]
    exact ⟨leave_own ho1 ho.lt, leave_keep' hk1⟩

def roleB (b : Bridge) (i : Nat) (p : Port) : Int := if (i : Int) = rootAt b then 1 else if (p.has && better p.vec (ownV b i)) = true then 3 else 2
def decP (b : Bridge) (i : Nat) (p : Port) : Port := if p.up = true then turnP p (roleB b i p) else p
def decideB (b : Bridge) : Bridge := ⟨b.id, b.ports.mapIdx (decP b)⟩
theorem decP_key (b : Bridge) (i : Nat) (p : Port) : keyP (decP b i p) = keyP p := by
  unfold decP
  split
  · have := turnP_rest p (roleB b i p)
    simp [keyP, this]
  · rfl
theorem decP_ok (b : Bridge) (i : Nat) {p : Port} (h : p.ok = true) : (decP b i p).ok = true := by
  unfold decP
  split
  · exact turnP_ok _ h
  · exact h
theorem decideB_ok {b : Bridge} (h : b.ok = true) : (decideB b).ok = true := mapIdx_ok h fun i _ hp => decP_ok b i hp
/-- The bridge of which the first ports are decided. -/
def decU (b : Bridge) (i : Nat) : Bridge := ⟨b.id, mixL (decP b) b.ports i⟩
theorem decU_key (b : Bridge) (i : Nat) : (decU b i).ports.map keyP = b.ports.map keyP := by
  refine List.ext_getElem? fun k => ?_
  simp only [decU, mixL, List.getElem?_map, List.getElem?_mapIdx, Option.map_map]
  cases b.ports[k]? with
  | none => rfl
  | some p =>
    simp only [Option.map_some, Function.comp]
    congr 1
    split
    · exact decP_key _ _ _
    · rfl
theorem decU_ok {b : Bridge} (h : b.ok = true) (i : Nat) : (decU b i).ok = true := mapIdx_ok (f := fun k x => if k < i then decP b k x else x) h fun k p hp => by
  split
  · exact decP_ok b k hp
  · exact hp
theorem decideB_key (b : Bridge) : (decideB b).ports.map keyP = b.ports.map keyP := by
  have := decU_key b b.ports.length
  unfold decU at this
  rwa [mixL_all _ _ (Nat.le_refl _)] at this

theorem decideM {H : Heap} {id ro : Nat} {blo : Blk} {b : Bridge} {a : Option (Nat × Nat)} {fp : List Nat} (hb : blkAt H id = some blo) (hbe0 : blo.elem = 56) (hrow0 : blo.rows[ro]? = some (b.enc a)) (ho : Own H 87 a (b.ports.map Port.enc) fp) (hidf : id ∉ fp) (hok : b.ok = true) :
    Runs env 99 [.ptr id ro 0] H fun v H' => v = .tup [] ∧ Own H' 87 a ((decideB b).ports.map Port.enc) fp ∧ Keep fp H H' := by
  obtain ⟨hpok, -, -, hl1, hl4⟩ := Bridge.ok_all hok
  have er := rootPortG hb hbe0 hrow0 ho.sl (by omega)
  have hrowE := hrow0
  simp only [Bridge.enc] at hrow0
  refine Runs.walk ok99 Try.func99 rfl (by simp [Try.f99]) fun Q hQ => ?_
  simp only [Try.f99, strip, stripL, stripI, stripG, chkT, tagsB, tagsL, tagD, addT, tagA, lookN, tagOp, elmT, ty22, ty24, ty25, ty33, ty54, ty58, ty95, ty122, Nat.reduceEqDiff, if_false, reduceIte, Option.getD_some, Option.getD_none, dstAt, dstOk, Nat.reduceLT, decide_true, if_true]
  simp [hb, hbe0, hrow0, er, builtinV, pureB, lenV]
  refine wpS_loop (fun j tm H' => ∃ i, i + j = b.ports.length ∧ tm 0 = .ptr id ro 0 ∧ tm 2 = .int (rootAt b) ∧ tm 10 = .w (.lf (.sl a b.ports.length)) ∧ tm 11 = .int b.ports.length ∧ tm 12 = .int i ∧ Own H' 87 a ((mixL (decP b) b.ports i).map Port.enc) fp ∧ Keep fp H H') b.ports.length (by rw [env_K]; omega) ⟨0, by simp, by simp, by simp, by simp, by simp, by simp, by rw [mixL_zero]; exact ho, Keep.refl _ _⟩ ?_
  rintro j tm H1 hj ⟨i, hij, t0, t2, t10, t11, t12, ho1, hk1⟩ Q' hn' he' hr'
  have hb1 := hk1.blk hb hidf
  have hid1 := blkAt_len hb1
  simp [t0, t2, t10, t11, t12]
  refine selS_intro (fun hc => ?_) (fun hc => ?_)
  · simp at hc
    have hsl := ho1.sl
    obtain ⟨pid, pb, rfl, rfl, hpb, hpe, hpm, hpre⟩ := ho1.blk (by intro h; have := congrArg List.length h; simp only [List.length_map, mixL_len, List.length_nil] at this; omega)
    have hpl := blkAt_len hpb
    obtain ⟨t, ht⟩ := hpre
    have hrw : pb.rows[i]? = some b.ports[i].enc := by
      rw [← ht, List.getElem?_append_left (by simp; omega), List.getElem?_map, mixL_at _ _ (Nat.le_refl _), List.getElem?_eq_getElem hc]; rfl
    have g4 : IntKind.i64.wrap ((i : Int) + 1) = (i : Int) + 1 := wrap64 (by omega) (by omega)
    have eo := fun G => ownM (H := H1 ++ G) (b := decU b i) (a := some (pid, 0)) (blkAt_app hb1 G) hbe0 (by rw [hrowE]; simp [Bridge.enc, decU]) ((hsl.app G)) (decU_ok hok i) (i : Int)
    simp only [ownV_key (b := decU b i) (c := b) rfl (decU_key b i)] at eo
    have next : ∀ (tm' : Ab.T) (G' : Heap) (row : List Lf), tm' 0 = .ptr id ro 0 → tm' 2 = .int (rootAt b) → tm' 10 = .w (.lf (.sl (some (pid, 0)) b.ports.length)) → tm' 11 = .int b.ports.length → tm' 12 = .int ((i : Int) + 1) → row = (decP b i b.ports[i]).enc → Q' .normal tm' (H1.set pid (some ⟨87, .wr, pb.rows.set i row⟩) ++ G') := by
      rintro tm' G' row a0 a2 a10 a11 a12 rfl
      refine hn' (j - 1) _ _ (by omega) ⟨i + 1, by omega, a0, a2, a10, a11, by simpa using a12, ?_, ?_⟩
      · have := ho1.set (row := (decP b i b.ports[i]).enc) hpb (i := i) (by simp; omega)
        rw [hpm, hpe] at this
        rw [← mixL_step _ _ hc, List.map_set]
        exact this.app _
      · exact Keep.trans (h := [pid]) (hk1.trans (h := [pid]) (Keep.set _ _) (by simp) (by simp)) (Keep.app [] _ _) (by simp) (by simp)
    have keepit : ∀ (tm' : Ab.T) (G' : Heap), tm' 0 = .ptr id ro 0 → tm' 2 = .int (rootAt b) → tm' 10 = .w (.lf (.sl (some (pid, 0)) b.ports.length)) → tm' 11 = .int b.ports.length → tm' 12 = .int ((i : Int) + 1) → b.ports[i].up = false → Q' .normal tm' (H1 ++ G') := by
      intro tm' G' a0 a2 a10 a11 a12 hu
      refine hn' (j - 1) _ _ (by omega) ⟨i + 1, by omega, a0, a2, a10, a11, by simpa using a12, ?_, hk1.trans (Keep.app [] _ _) (by simp) (by simp)⟩
      rw [mixL_same _ _ hc (by unfold decP; rw [if_neg (by rw [hu]; simp)])]
      exact ho1.app _
    obtain ⟨p, hp⟩ : ∃ p, p = b.ports[i] := ⟨_, rfl⟩
    rw [← hp] at hrw next keepit
    have eT : ∀ H role, run env 121 [.agg [.b p.up, .b p.has, .i .i64 p.vec.root, .i .i64 p.vec.cost, .i .i64 p.vec.bridge, .i .i64 p.vec.port, .i .i64 p.hops, .i .i64 p.left, .i .i64 p.role, .i .i64 p.wait, .b p.opn], .int role] H = some (.agg (turnP p role).enc, H) := fun H role => implTurn H p role
    have eB : ∀ H, run env 118 [.agg [.i .i64 p.vec.root, .i .i64 p.vec.cost, .i .i64 p.vec.bridge, .i .i64 p.vec.port], .agg (ownV b i).enc] H = some (.bool (better p.vec (ownV b i)), H) := fun H => implBetter H p.vec (ownV b i)
    simp only [Port.enc] at hrw
    simp [t0, t2, t10, t11, t12, hb1, hid1, hbe0, hrow0, indexAddrV, elemIs, hpl, hpb, hpe, hpm, hc, hrw, eo]
    cases hup : p.up
    · rw [hup] at hrw eT
      simp [t0, t2, t10, t11, t12, g4]
      exact keepit _ _ (by simp [t0]) (by simp [t2]) (by simp [t10]) (by simp [t11]) (by simp) hup
    rw [hup] at hrw eT
    simp [t0, t2]
    by_cases hir : (i : Int) = rootAt b
    · simp [hir, t0, t2, t10, t11, t12, hb1, hid1, hbe0, hrow0, indexAddrV, elemIs, hpl, hpb, hpe, hpm, hc, hrw, eT]
      rw [← hir]
      simp [t0, t2, t10, t11, t12, hb1, hid1, hbe0, hrow0, indexAddrV, elemIs, hpl, hpb, hpe, hpm, hc, hrw, eT, g4]
      refine next _ _ _ (by simp [t0]) (by simp [t2]) (by simp [t10]) (by simp [t11]) (by simp) ?_
      simp [decP, hup, roleB, hir]
    · simp [hir]
      cases hha : p.has
      · rw [hha] at hrw eT
        simp [t0, t2, t10, t11, t12, hb1, hid1, hbe0, hrow0, indexAddrV, elemIs, hpl, hpb, hpe, hpm, hc, hrw, eT, g4]
        refine next _ _ _ (by simp [t0]) (by simp [t2]) (by simp [t10]) (by simp [t11]) (by simp) ?_
        simp [decP, hup, roleB, hir, hha]
      · rw [hha] at hrw eT
        simp [t0, eo, eB]
        refine selS_intro (fun hd => ?_) (fun hd => ?_)
        · simp [t0, t2, t10, t11, t12, hb1, hid1, hbe0, hrow0, indexAddrV, elemIs, hpl, hpb, hpe, hpm, hc, hrw, eT, g4]
          refine next _ _ _ (by simp [t0]) (by simp [t2]) (by simp [t10]) (by simp [t11]) (by simp) ?_
          simp [decP, hup, roleB, hir, hha, hd]
        · simp [t0, t2, t10, t11, t12, hb1, hid1, hbe0, hrow0, indexAddrV, elemIs, hpl, hpb, hpe, hpm, hc, hrw, eT, g4]
          refine next _ _ _ (by simp [t0]) (by simp [t2]) (by simp [t10]) (by simp [t11]) (by simp) ?_
          simp [decP, hup, roleB, hir, hha, hd]
  · simp at hc
    obtain rfl : i = b.ports.length := by omega
    simp [t0, t2, t10, t11, t12]
    refine he' _ _ _ ?_
    simp
    refine hQ _ _ _ (by simp) ?_
    rw [mixL_all _ _ (Nat.le_refl _)] at ho1
    simp [Try.f99]
    exact ⟨leave_own ho1 ho.lt, leave_keep' hk1⟩

theorem copyBridge {H : Heap} {l : List Lf} {b : Bridge} (h : RdBridge H l b) (hn : b.sz ≤ 1048576) : Runs env 91 [.agg l] H fun v H' => ∃ l' fp, v = .agg l' ∧ IsBridge H' l' b fp ∧ Fresh H H' fp := by
  obtain ⟨a, rfl, h⟩ := h
  refine Runs.walk ok91 Try.func91 rfl (by simp [Try.f91]) fun Q hQ => ?_
  simp only [Try.f91, strip, stripL, stripI, stripG, chkT, tagsB, tagsL, tagD, addT, tagA, lookN, tagOp, elmT, ty22, ty24, ty25, ty33, ty54, ty58, ty95, ty122, Nat.reduceEqDiff, if_false, reduceIte, Option.getD_some, Option.getD_none, dstAt, dstOk, Nat.reduceLT, decide_true, if_true]
  simp [Bridge.enc]
  refine stpL_runs_f (clonePortS (q := .sl a b.ports.length) ⟨a, rfl, h.app _⟩ hn) (by rintro _ _ ⟨_, _, _, _, hf⟩; exact hf.1) ?_
  rintro _ H1 ⟨_, f, rfl, ⟨a1, rfl, o1⟩, ⟨⟨G, rfl⟩, hf⟩⟩
  simp
  refine hQ _ _ _ (by simp) ?_
  simp [Try.f91]
  have ho : IsBridge (H ++ [some ⟨56, .wr, [b.enc a]⟩, some ⟨56, .wr, [b.enc a1]⟩] ++ G) (b.enc a1) b f := ⟨a1, rfl, o1.keep (Keep.swap G (by simp)) fun i hi => by have := hf i hi; simp at this ⊢; omega⟩
  simp [Bridge.enc] at ho
  obtain ⟨f', h1, h2⟩ := ho.leave (H := H) (ws := [W.agg (b.enc a1)]) (Fresh.app H _ fun i hi => by have := hf i hi; simp at this; omega) (by simp [Bridge.enc])
  exact ⟨f', h1, h2⟩

theorem specCopyB {H : Heap} {l : List Lf} {b : Bridge} (h : RdBridge H l b) (hn : b.sz ≤ 1048576) : Runs env 102 [.agg l] H fun v H' => ∃ l' fp, v = .agg l' ∧ IsBridge H' l' b fp ∧ Fresh H H' fp := by
  obtain ⟨a, rfl, h⟩ := h
  have hn : b.ports.length ≤ 1048576 := hn
  refine Runs.walk ok102 Try.func102 rfl (by simp [Try.f102]) fun Q hQ => ?_
  simp only [Try.f102, strip, stripL, stripI, stripG, chkT, tagsB, tagsL, tagD, addT, tagA, lookN, tagOp, elmT, ty22, ty24, ty25, ty33, ty54, ty58, ty95, ty122, Nat.reduceEqDiff, if_false, reduceIte, Option.getD_some, Option.getD_none, dstAt, dstOk, Nat.reduceLT, decide_true, if_true]
  simp [Bridge.enc]
  refine stpL_append (rows := []) (ys := b.ports.map Port.enc) (Own.of (by simp)) (h.app _) rfl rfl rfl (by simp) (by simp; omega) rfl (by simp) fun a1 H1 f o1 hk hf => ?_
  obtain ⟨⟨G, rfl⟩, hf⟩ : Fresh (H ++ [some ⟨56, .wr, [b.enc a]⟩, some ⟨56, .wr, [(⟨0, []⟩ : Bridge).enc none]⟩]) H1 f := by
    refine Fresh.grow (fp := [H.length + 2]) (G := [some ⟨87, .wr, []⟩]) (by simp) (by simpa [Bridge.enc] using hk) ?_
    intro i hi
    have := hf i hi
    simp at this ⊢
    omega
  simp
  refine hQ _ _ _ (by simp) ?_
  simp [Try.f102]
  have ho : IsBridge (H ++ [some ⟨56, .wr, [b.enc a]⟩, some ⟨56, .wr, [b.enc a1]⟩] ++ G) (b.enc a1) b f := ⟨a1, rfl, o1.keep (Keep.swap G (by simp)) fun i hi => by have := hf i hi; simp at this ⊢; omega⟩
  simp [Bridge.enc] at ho
  obtain ⟨f', h1, h2⟩ := ho.leave (H := H) (ws := [W.agg (b.enc a1)]) (Fresh.app H _ fun i hi => by have := hf i hi; simp at this; omega) (by simp [Bridge.enc])
  exact ⟨f', h1, h2⟩

theorem specDecide {H : Heap} {l : List Lf} {b : Bridge} (h : RdBridge H l b) (hok : b.ok = true) : Runs env 125 [.agg l] H fun v H' => ∃ l' fp, v = .agg l' ∧ IsBridge H' l' (decideB b) fp ∧ Fresh H H' fp := by
  obtain ⟨hpok, -, -, hl1, hl4⟩ := Bridge.ok_all hok
  have hR := h
  have hsz : b.sz ≤ 1048576 := by have : b.sz = b.ports.length := rfl; omega
  have e1 := fun G => specBridgeOk_is (hR.app G) hsz
  have e2 := fun G => specRootPort (hR.app G) hsz
  have hrp : rootPort b = (rootAt b, decide (0 ≤ rootAt b)) := by simp [rootPort, hok]
  rw [hrp] at e2
  rw [hok] at e1
  obtain ⟨a, rfl, h_⟩ := h
  simp only [Bridge.enc] at e1 e2
  refine Runs.walk ok125 Try.func125 rfl (by simp [Try.f125]) fun Q hQ => ?_
  simp only [Try.f125, strip, stripL, stripI, stripG, chkT, tagsB, tagsL, tagD, addT, tagA, lookN, tagOp, elmT, ty22, ty24, ty25, ty33, ty54, ty58, ty95, ty122, Nat.reduceEqDiff, if_false, reduceIte, Option.getD_some, Option.getD_none, dstAt, dstOk, Nat.reduceLT, decide_true, if_true]
  simp [Bridge.enc]
  refine stpL_runs (specCopyB (hR.app _) hsz) ?_
  rintro _ _ ⟨_, f1, rfl, ⟨a1, rfl, o1⟩, ⟨⟨G1, rfl⟩, hf1⟩⟩
  have hlt1 := o1.lt
  simp [Bridge.enc, e1, e2]
  obtain ⟨H3, hH3⟩ : ∃ H3 : Heap, H3 = H ++ some ⟨56, .wr, [[.i .i64 b.id, .sl a b.ports.length]]⟩ :: some ⟨56, .wr, [[.i .i64 0, .sl none 0]]⟩ :: (G1 ++ [some ⟨56, .wr, [[.i .i64 b.id, .sl a1 b.ports.length]]⟩]) := ⟨_, rfl⟩
  have b1 : blkAt H3 H.length = some ⟨56, .wr, [[.i .i64 b.id, .sl a b.ports.length]]⟩ := by rw [hH3]; simp
  have b2 : blkAt H3 (H.length + 1) = some ⟨56, .wr, [[.i .i64 0, .sl none 0]]⟩ := by rw [hH3]; simp
  have b3 : blkAt H3 (H.length + (G1.length + 1 + 1)) = some ⟨56, .wr, [[.i .i64 b.id, .sl a1 b.ports.length]]⟩ := by rw [hH3]; simp
  have o3 : Own H3 87 a1 (b.ports.map Port.enc) f1 := by
    rw [hH3]
    have := o1.app [some ⟨56, .wr, [[.i .i64 b.id, .sl a1 b.ports.length]]⟩]
    simpa [Bridge.enc] using this
  have k03 : Keep [] H H3 := by rw [hH3]; exact Keep.app _ _ _
  have n1 : H.length ∉ f1 := fun hi => by have := hf1 _ hi; simp only [List.length_append, List.length_cons, List.length_nil] at this; omega
  have n2 : H.length + 1 ∉ f1 := fun hi => by have := hf1 _ hi; simp only [List.length_append, List.length_cons, List.length_nil] at this; omega
  have n3 : H.length + (G1.length + 1 + 1) ∉ f1 := fun hi => by have := hlt1 _ hi; simp only [List.length_append, List.length_cons, List.length_nil] at this; omega
  have n0 : ∀ i ∈ f1, H.length ≤ i := fun i hi => by have := hf1 _ hi; simp only [List.length_append, List.length_cons, List.length_nil] at this; omega
  rw [← hH3]
  clear o1 hH3 hf1 hlt1
  refine wpS_loop (fun j tm H' => ∃ i, i + j = b.ports.length ∧ tm 1 = .ptr H.length 0 0 ∧ tm 2 = .ptr (H.length + 1) 0 0 ∧ tm 3 = .ptr (H.length + (G1.length + 1 + 1)) 0 0 ∧ tm 4 = .int (rootAt b) ∧ tm 6 = .int i ∧ Own H' 87 a1 ((mixL (decP b) b.ports i).map Port.enc) f1 ∧ Keep f1 H3 H') b.ports.length (by rw [env_K]; omega) ⟨0, by simp, by simp, by simp, by simp, by simp, by simp, by rw [mixL_zero]; exact o3, Keep.refl _ _⟩ ?_
  rintro j tm H1 hj ⟨i, hij, t1, t2, t3, t4, t6, ho1, hk1⟩ Q' hn' he' hr'
  have c1 := hk1.blk b1 n1
  have c2 := hk1.blk b2 n2
  have c3 := hk1.blk b3 n3
  have d1 := blkAt_len c1
  have d2 := blkAt_len c2
  have d3 := blkAt_len c3
  have k01 : Keep [] H H1 := k03.next hk1 n0
  simp [t1, t6, c1, builtinV, pureB, lenV]
  refine selS_intro (fun hc => ?_) (fun hc => ?_)
  · simp at hc
    have hR1 := hR.base k01
    have h1 := h_.keep k01 (by simp)
    obtain ⟨id2, r2, bl2, rfl, hbl, hbe, hrow⟩ := h1 i _ (by simp [hc]; rfl)
    have hid2 := blkAt_len hbl
    obtain ⟨pid, pb, rfl, rfl, hpb, hpe, hpm, hpre⟩ := ho1.blk (by intro h; have := congrArg List.length h; simp only [List.length_map, mixL_len, List.length_nil] at this; omega)
    have hpl := blkAt_len hpb
    obtain ⟨t, ht⟩ := hpre
    have hrw : ∃ row, pb.rows[i]? = some row ∧ row.length = 11 := by
      refine ⟨b.ports[i].enc, ?_, rfl⟩
      rw [← ht, List.getElem?_append_left (by simp; omega), List.getElem?_map, mixL_at _ _ (Nat.le_refl _), List.getElem?_eq_getElem hc]; rfl
    obtain ⟨row0, hrw, hrlen⟩ := hrw
    obtain ⟨hrl, hrw⟩ := List.getElem?_eq_some_iff.1 hrw
    have hdrop : row0.drop 11 = [] := List.drop_of_length_le (by omega)
    have g4 : IntKind.i64.wrap ((i : Int) + 1) = (i : Int) + 1 := wrap64 (by omega) (by omega)
    have eo := fun G => specOwn (hR1.app G) hok (port := (i : Int)) (by omega) (by omega)
    simp only [Bridge.enc] at eo
    have next : ∀ (tm' : Ab.T) (G' : Heap) (row : List Lf), tm' 1 = .ptr H.length 0 0 → tm' 2 = .ptr (H.length + 1) 0 0 → tm' 3 = .ptr (H.length + (G1.length + 1 + 1)) 0 0 → tm' 4 = .int (rootAt b) → tm' 6 = .int ((i : Int) + 1) → row = (decP b i b.ports[i]).enc → Q' .normal tm' (H1.set pid (some ⟨87, .wr, pb.rows.set i row⟩) ++ G') := by
      rintro tm' G' row a1 a2 a3 a4 a6 rfl
      refine hn' (j - 1) _ _ (by omega) ⟨i + 1, by omega, a1, a2, a3, a4, by simpa using a6, ?_, ?_⟩
      · have := ho1.set (row := (decP b i b.ports[i]).enc) hpb (i := i) (by simp; omega)
        rw [hpm, hpe] at this
        rw [← mixL_step _ _ hc, List.map_set]
        exact this.app _
      · exact Keep.trans (h := [pid]) (hk1.trans (h := [pid]) (Keep.set _ _) (by simp) (by simp)) (Keep.app [] _ _) (by simp) (by simp)
    have keepit : ∀ (tm' : Ab.T) (G' : Heap), tm' 1 = .ptr H.length 0 0 → tm' 2 = .ptr (H.length + 1) 0 0 → tm' 3 = .ptr (H.length + (G1.length + 1 + 1)) 0 0 → tm' 4 = .int (rootAt b) → tm' 6 = .int ((i : Int) + 1) → b.ports[i].up = false → Q' .normal tm' (H1 ++ G') := by
      intro tm' G' a1 a2 a3 a4 a6 hu
      refine hn' (j - 1) _ _ (by omega) ⟨i + 1, by omega, a1, a2, a3, a4, by simpa using a6, ?_, hk1.trans (Keep.app [] _ _) (by simp) (by simp)⟩
      rw [mixL_same _ _ hc (by unfold decP; rw [if_neg (by rw [hu]; simp)])]
      exact ho1.app _
    obtain ⟨p, hp⟩ : ∃ p, p = b.ports[i] := ⟨_, rfl⟩
    rw [← hp] at hrow next keepit
    have eT : ∀ H role, run env 134 [.agg [.b p.up, .b p.has, .i .i64 p.vec.root, .i .i64 p.vec.cost, .i .i64 p.vec.bridge, .i .i64 p.vec.port, .i .i64 p.hops, .i .i64 p.left, .i .i64 p.role, .i .i64 p.wait, .b p.opn], .int role] H = some (.agg (turnP p role).enc, H) := fun H role => specTurn H p role
    have eB : ∀ H, run env 111 [.agg [.i .i64 p.vec.root, .i .i64 p.vec.cost, .i .i64 p.vec.bridge, .i .i64 p.vec.port], .agg (ownV b i).enc] H = some (.bool (better p.vec (ownV b i)), H) := fun H => specBetter H p.vec (ownV b i)
    simp only [Port.enc] at hrow
    simp [t1, t2, t3, t4, t6, c1, c2, c3, d1, d2, d3, indexAddrV, elemIs, hid2, hbl, hbe, hc, hrow]
    have fin : ∀ role, roleB b i p = role → p.up = true → decP b i p = turnP p role := fun role h1 h2 => by rw [decP, if_pos h2, h1]
    cases hup : p.up
    · rw [hup] at hrow eT
      by_cases hir : (i : Int) = rootAt b
      · simp [hir, t1, t2, t3, t4, t6]
        rw [← hir]
        simp [t1, t2, t3, t4, t6, g4]
        exact keepit _ _ (by simp [t1]) (by simp [t2]) (by simp [t3]) (by simp [t4]) (by simp) hup
      · simp [hir]
        cases hha : p.has
        · simp [t1, t2, t3, t4, t6, g4]
          exact keepit _ _ (by simp [t1]) (by simp [t2]) (by simp [t3]) (by simp [t4]) (by simp) hup
        · simp [t1, t6, c1, d1, eo, eB]
          refine selS_intro (fun hd => ?_) (fun hd => ?_)
          all_goals (simp [t1, t2, t3, t4, t6, g4]; exact keepit _ _ (by simp [t1]) (by simp [t2]) (by simp [t3]) (by simp [t4]) (by simp) hup)
    rw [hup] at hrow eT
    by_cases hir : (i : Int) = rootAt b
    · simp [hir, t1, t2, t3, t4, t6]
      rw [← hir]
      simp [t1, t2, t3, t4, t6, c1, c2, c3, d1, d2, d3, indexAddrV, elemIs, hpl, hpb, hpe, hpm, hc, hrw, hrlen, hdrop, hrl, eT, g4]
      exact next _ _ _ (by simp [t1]) (by simp [t2]) (by simp [t3]) (by simp [t4]) (by simp) (by rw [fin 1 (by simp [roleB, hir]) hup])
    · simp [hir]
      cases hha : p.has
      · rw [hha] at hrow eT
        simp [t1, t2, t3, t4, t6, c1, c2, c3, d1, d2, d3, indexAddrV, elemIs, hpl, hpb, hpe, hpm, hc, hrw, hrlen, hdrop, hrl, eT, g4]
        exact next _ _ _ (by simp [t1]) (by simp [t2]) (by simp [t3]) (by simp [t4]) (by simp) (by rw [fin 2 (by simp [roleB, hir, hha]) hup])
      · rw [hha] at hrow eT
        simp [t1, t6, c1, d1, eo, eB]
        refine selS_intro (fun hd => ?_) (fun hd => ?_)
        · simp [t1, t2, t3, t4, t6, c1, c2, c3, d1, d2, d3, indexAddrV, elemIs, hpl, hpb, hpe, hpm, hc, hrw, hrlen, hdrop, hrl, eT, g4]
          exact next _ _ _ (by simp [t1]) (by simp [t2]) (by simp [t3]) (by simp [t4]) (by simp) (by rw [fin 3 (by simp [roleB, hir, hha, hd]) hup])
        · simp [t1, t2, t3, t4, t6, c1, c2, c3, d1, d2, d3, indexAddrV, elemIs, hpl, hpb, hpe, hpm, hc, hrw, hrlen, hdrop, hrl, eT, g4]
          exact next _ _ _ (by simp [t1]) (by simp [t2]) (by simp [t3]) (by simp [t4]) (by simp) (by rw [fin 2 (by simp [roleB, hir, hha, hd]) hup])
  · simp at hc
    obtain rfl : i = b.ports.length := by omega
    simp [t1, t6]
    refine he' _ _ _ ?_
    simp [t2, t3, c2, c3, d2, d3]
    refine hQ _ _ _ (by simp) ?_
    rw [mixL_all _ _ (Nat.le_refl _)] at ho1
    simp [Try.f125, t2, blkAt_set d2]
    have kf : Keep [] H (H1.set (H.length + 1) (some ⟨56, .wr, [[.i .i64 b.id, .sl a1 b.ports.length]]⟩)) := k01.next (Keep.set _ _) (by simp)
    have ho : IsBridge (H1.set (H.length + 1) (some ⟨56, .wr, [[.i .i64 b.id, .sl a1 b.ports.length]]⟩)) [.i .i64 b.id, .sl a1 b.ports.length] (decideB b) f1 := ⟨a1, by simp [Bridge.enc, decideB], ho1.keep (Keep.set _ _) (fun i hi hj => by simp at hj; subst hj; exact n2 hi)⟩
    exact ho.leave ⟨kf.ext, n0⟩ (by simp)
end W
end Go.Proofs.Ytjgjjaidpceieaa

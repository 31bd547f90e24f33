/- The functions that this law reaches: what each computes. Conditions: those that each theorem names. -/
import Derived.Test.YtjgjjaidpceieaaAbEnvReaches
set_option maxRecDepth 100000
set_option maxHeartbeats 4000000
set_option linter.unusedSimpArgs false
set_option linter.unusedVariables false
set_option linter.unnecessarySimpa false
namespace Go.Proofs.Ytjgjjaidpceieaa
open Go Go.Ab Go.ChangeShapes Go.WideShapes Go.ChangeAt Go.RowKit
namespace W
theorem inRange (H : Heap) (n a b : Int) : run env 57 [.int n, .int a, .int b] H = some (.bool (decide (a ≤ n) && decide (n ≤ b)), H) := by
  refine run_walk ok57 Try.func57 rfl (by simp [Try.f57]) fun Q hQ => ?_
  simp only [Try.f57, strip, stripL, stripI, stripG, chkT, tagsB, tagsL, tagD, addT, tagA, lookN, tagOp, elmT, ty22, ty24, ty25, ty33, ty54, ty58, ty95, ty122, Nat.reduceEqDiff, if_false, reduceIte, Option.getD_some, Option.getD_none, dstAt, dstOk, Nat.reduceLT, decide_true, if_true]
  simp
  repeat' (first | (refine gdL_t (fun h => ?_) (fun h => ?_) <;> simp [h]) | (refine gdL_f (fun h => ?_) (fun h => ?_) <;> simp [h]) | (refine selS_intro (fun h => ?_) (fun h => ?_) <;> simp [h]))
  all_goals (refine hQ _ _ _ (by simp) ?_)
  all_goals (clear hQ; simp_all [Try.f57] <;> omega)

theorem l1In (H : Heap) (n a b : Int) : run env 77 [.int n, .int a, .int b] H = some (.bool (decide (a ≤ n) && decide (n ≤ b)), H) := by
  refine run_walk ok77 Try.func77 rfl (by simp [Try.f77]) fun Q hQ => ?_
  simp only [Try.f77, strip, stripL, stripI, stripG, chkT, tagsB, tagsL, tagD, addT, tagA, lookN, tagOp, elmT, ty22, ty24, ty25, ty33, ty54, ty58, ty95, ty122, Nat.reduceEqDiff, if_false, reduceIte, Option.getD_some, Option.getD_none, dstAt, dstOk, Nat.reduceLT, decide_true, if_true]
  simp
  repeat' (first | (refine gdL_t (fun h => ?_) (fun h => ?_) <;> simp [h]) | (refine gdL_f (fun h => ?_) (fun h => ?_) <;> simp [h]) | (refine selS_intro (fun h => ?_) (fun h => ?_) <;> simp [h]))
  all_goals (refine hQ _ _ _ (by simp) ?_)
  all_goals (clear hQ; simp_all [Try.f77] <;> omega)

theorem isPort (H : Heap) (n : Int) : run env 113 [.int n] H = some (.bool (decide (0 ≤ n) && decide (n ≤ 3)), H) := by
  refine run_walk ok113 Try.func113 rfl (by simp [Try.f113]) fun Q hQ => ?_
  simp only [Try.f113, strip, stripL, stripI, stripG, chkT, tagsB, tagsL, tagD, addT, tagA, lookN, tagOp, elmT, ty22, ty24, ty25, ty33, ty54, ty58, ty95, ty122, Nat.reduceEqDiff, if_false, reduceIte, Option.getD_some, Option.getD_none, dstAt, dstOk, Nat.reduceLT, decide_true, if_true]
  simp [inRange]
  all_goals (refine hQ _ _ _ (by simp) ?_)
  all_goals (clear hQ; simp [Try.f113])

theorem isHops (H : Heap) (n : Int) : run env 115 [.int n] H = some (.bool (decide (0 ≤ n) && decide (n ≤ 8)), H) := by
  refine run_walk ok115 Try.func115 rfl (by simp [Try.f115]) fun Q hQ => ?_
  simp only [Try.f115, strip, stripL, stripI, stripG, chkT, tagsB, tagsL, tagD, addT, tagA, lookN, tagOp, elmT, ty22, ty24, ty25, ty33, ty54, ty58, ty95, ty122, Nat.reduceEqDiff, if_false, reduceIte, Option.getD_some, Option.getD_none, dstAt, dstOk, Nat.reduceLT, decide_true, if_true]
  simp [inRange]
  all_goals (refine hQ _ _ _ (by simp) ?_)
  all_goals (clear hQ; simp [Try.f115])

structure Vec where
  root : Int
  cost : Int
  bridge : Int
  port : Int
  deriving DecidableEq, Inhabited
def Vec.enc (x : Vec) : List Lf := [.i .i64 x.root, .i .i64 x.cost, .i .i64 x.bridge, .i .i64 x.port]
@[simp] theorem Vec.enc_len (x : Vec) : x.enc.length = 4 := rfl
@[simp] theorem Vec.enc_take (x : Vec) : List.take 4 x.enc = x.enc := rfl
@[simp] theorem Vec.enc_drop (x : Vec) : List.drop 4 x.enc = [] := rfl
abbrev Vec.z : List Lf := [.i .i64 0, .i .i64 0, .i .i64 0, .i .i64 0]
abbrev Vec.zv : Vec := ⟨0, 0, 0, 0⟩
theorem Vec.enc_inj {x y : Vec} (h : x.enc = y.enc) : x = y := by
  obtain ⟨_, _, _, _⟩ := x
  obtain ⟨_, _, _, _⟩ := y
  simp [Vec.enc] at h
  simp_all
def Vec.mk' (k : Int) : Vec := ⟨k, k + 1, k + 2, k + 3⟩
theorem Vec.mk'_of {y : Vec} {c : Int} (h0 : y.root = c) (h1 : y.cost = c + 1) (h2 : y.bridge = c + 2) (h3 : y.port = c + 3) : y = Vec.mk' c := by
  rcases y with ⟨w0, v1, v2, v3⟩
  simp only at h0 h1 h2 h3
  subst h0 h1 h2 h3
  rfl

structure Port where
  up : Bool
  has : Bool
  vec : Vec
  hops : Int
  left : Int
  role : Int
  wait : Int
  opn : Bool
  deriving DecidableEq, Inhabited
def Port.enc (x : Port) : List Lf := [.b x.up, .b x.has, .i .i64 x.vec.root, .i .i64 x.vec.cost, .i .i64 x.vec.bridge, .i .i64 x.vec.port, .i .i64 x.hops, .i .i64 x.left, .i .i64 x.role, .i .i64 x.wait, .b x.opn]
@[simp] theorem Port.enc_len (x : Port) : x.enc.length = 11 := rfl
@[simp] theorem Port.enc_take (x : Port) : List.take 11 x.enc = x.enc := rfl
@[simp] theorem Port.enc_drop (x : Port) : List.drop 11 x.enc = [] := rfl
abbrev Port.z : List Lf := [.b false, .b false, .i .i64 0, .i .i64 0, .i .i64 0, .i .i64 0, .i .i64 0, .i .i64 0, .i .i64 0, .i .i64 0, .b false]
abbrev Port.zv : Port := ⟨false, false, ⟨0, 0, 0, 0⟩, 0, 0, 0, 0, false⟩
theorem Port.enc_inj {x y : Port} (h : x.enc = y.enc) : x = y := by
  rcases x with ⟨v0, v1, ⟨v2_0, v2_1, v2_2, v2_3⟩, v3, v4, v5, v6, v7⟩
  rcases y with ⟨w0, v1, ⟨v2_0, v2_1, v2_2, v2_3⟩, v3, v4, v5, v6, v7⟩
  simp [Port.enc] at h
  simp_all
def Port.mk' (k : Int) : Port := ⟨decide ((k).tmod 3 = 0), decide ((k + 1).tmod 3 = 0), ⟨k + 2, k + 3, k + 4, k + 5⟩, k + 6, k + 7, k + 8, k + 9, decide ((k + 10).tmod 3 = 0)⟩
theorem Port.mk'_of {y : Port} {c : Int} (h0 : y.up = decide ((c).tmod 3 = 0)) (h1 : y.has = decide ((c + 1).tmod 3 = 0)) (h2 : y.vec.root = c + 2) (h3 : y.vec.cost = c + 3) (h4 : y.vec.bridge = c + 4) (h5 : y.vec.port = c + 5) (h6 : y.hops = c + 6) (h7 : y.left = c + 7) (h8 : y.role = c + 8) (h9 : y.wait = c + 9) (h10 : y.opn = decide ((c + 10).tmod 3 = 0)) : y = Port.mk' c := by
  rcases y with ⟨w0, v1, ⟨v2_0, v2_1, v2_2, v2_3⟩, v3, v4, v5, v6, v7⟩
  simp only at h0 h1 h2 h3 h4 h5 h6 h7 h8 h9 h10
  subst h0 h1 h2 h3 h4 h5 h6 h7 h8 h9 h10
  rfl

structure In where
  kind : Int
  port : Int
  vec : Vec
  hops : Int
  up : Bool
  deriving DecidableEq, Inhabited
def In.enc (x : In) : List Lf := [.i .i64 x.kind, .i .i64 x.port, .i .i64 x.vec.root, .i .i64 x.vec.cost, .i .i64 x.vec.bridge, .i .i64 x.vec.port, .i .i64 x.hops, .b x.up]
@[simp] theorem In.enc_len (x : In) : x.enc.length = 8 := rfl
@[simp] theorem In.enc_take (x : In) : List.take 8 x.enc = x.enc := rfl
@[simp] theorem In.enc_drop (x : In) : List.drop 8 x.enc = [] := rfl
abbrev In.z : List Lf := [.i .i64 0, .i .i64 0, .i .i64 0, .i .i64 0, .i .i64 0, .i .i64 0, .i .i64 0, .b false]
abbrev In.zv : In := ⟨0, 0, ⟨0, 0, 0, 0⟩, 0, false⟩
theorem In.enc_inj {x y : In} (h : x.enc = y.enc) : x = y := by
  rcases x with ⟨v0, v1, ⟨v2_0, v2_1, v2_2, v2_3⟩, v3, v4⟩
  rcases y with ⟨w0, v1, ⟨v2_0, v2_1, v2_2, v2_3⟩, v3, v4⟩
  simp [In.enc] at h
  simp_all
def In.mk' (k : Int) : In := ⟨k, k + 1, ⟨k + 2, k + 3, k + 4, k + 5⟩, k + 6, decide ((k + 7).tmod 3 = 0)⟩
theorem In.mk'_of {y : In} {c : Int} (h0 : y.kind = c) (h1 : y.port = c + 1) (h2 : y.vec.root = c + 2) (h3 : y.vec.cost = c + 3) (h4 : y.vec.bridge = c + 4) (h5 : y.vec.port = c + 5) (h6 : y.hops = c + 6) (h7 : y.up = decide ((c + 7).tmod 3 = 0)) : y = In.mk' c := by
  rcases y with ⟨w0, v1, ⟨v2_0, v2_1, v2_2, v2_3⟩, v3, v4⟩
  simp only at h0 h1 h2 h3 h4 h5 h6 h7
  subst h0 h1 h2 h3 h4 h5 h6 h7
  rfl

structure Out where
  kind : Int
  port : Int
  vec : Vec
  hops : Int
  on : Bool
  deriving DecidableEq, Inhabited
def Out.enc (x : Out) : List Lf := [.i .i64 x.kind, .i .i64 x.port, .i .i64 x.vec.root, .i .i64 x.vec.cost, .i .i64 x.vec.bridge, .i .i64 x.vec.port, .i .i64 x.hops, .b x.on]
@[simp] theorem Out.enc_len (x : Out) : x.enc.length = 8 := rfl
@[simp] theorem Out.enc_take (x : Out) : List.take 8 x.enc = x.enc := rfl
@[simp] theorem Out.enc_drop (x : Out) : List.drop 8 x.enc = [] := rfl
abbrev Out.z : List Lf := [.i .i64 0, .i .i64 0, .i .i64 0, .i .i64 0, .i .i64 0, .i .i64 0, .i .i64 0, .b false]
abbrev Out.zv : Out := ⟨0, 0, ⟨0, 0, 0, 0⟩, 0, false⟩
theorem Out.enc_inj {x y : Out} (h : x.enc = y.enc) : x = y := by
  rcases x with ⟨v0, v1, ⟨v2_0, v2_1, v2_2, v2_3⟩, v3, v4⟩
  rcases y with ⟨w0, v1, ⟨v2_0, v2_1, v2_2, v2_3⟩, v3, v4⟩
  simp [Out.enc] at h
  simp_all
def Out.mk' (k : Int) : Out := ⟨k, k + 1, ⟨k + 2, k + 3, k + 4, k + 5⟩, k + 6, decide ((k + 7).tmod 3 = 0)⟩
theorem Out.mk'_of {y : Out} {c : Int} (h0 : y.kind = c) (h1 : y.port = c + 1) (h2 : y.vec.root = c + 2) (h3 : y.vec.cost = c + 3) (h4 : y.vec.bridge = c + 4) (h5 : y.vec.port = c + 5) (h6 : y.hops = c + 6) (h7 : y.on = decide ((c + 7).tmod 3 = 0)) : y = Out.mk' c := by
  rcases y with ⟨w0, v1, ⟨v2_0, v2_1, v2_2, v2_3⟩, v3, v4⟩
  simp only at h0 h1 h2 h3 h4 h5 h6 h7
  subst h0 h1 h2 h3 h4 h5 h6 h7
  rfl

structure Link where
  a : Int
  p : Int
  b : Int
  q : Int
  deriving DecidableEq, Inhabited
def Link.enc (x : Link) : List Lf := [.i .i64 x.a, .i .i64 x.p, .i .i64 x.b, .i .i64 x.q]
@[simp] theorem Link.enc_len (x : Link) : x.enc.length = 4 := rfl
@[simp] theorem Link.enc_take (x : Link) : List.take 4 x.enc = x.enc := rfl
@[simp] theorem Link.enc_drop (x : Link) : List.drop 4 x.enc = [] := rfl
abbrev Link.z : List Lf := [.i .i64 0, .i .i64 0, .i .i64 0, .i .i64 0]
abbrev Link.zv : Link := ⟨0, 0, 0, 0⟩
theorem Link.enc_inj {x y : Link} (h : x.enc = y.enc) : x = y := by
  obtain ⟨_, _, _, _⟩ := x
  obtain ⟨_, _, _, _⟩ := y
  simp [Link.enc] at h
  simp_all
def Link.mk' (k : Int) : Link := ⟨k, k + 1, k + 2, k + 3⟩
theorem Link.mk'_of {y : Link} {c : Int} (h0 : y.a = c) (h1 : y.p = c + 1) (h2 : y.b = c + 2) (h3 : y.q = c + 3) : y = Link.mk' c := by
  rcases y with ⟨w0, v1, v2, v3⟩
  simp only at h0 h1 h2 h3
  subst h0 h1 h2 h3
  rfl

def encB (x : Bool) : List Lf := [.b x]
@[simp] theorem encB_len (x : Bool) : (encB x).length = 1 := rfl
@[simp] theorem encB_take (x : Bool) : List.take 1 (encB x) = [.b x] := rfl
def mkB (k : Int) : Bool := decide (k.tmod 3 = 0)
theorem encB_inj {x y : Bool} (h : encB x = encB y) : x = y := by simpa [encB] using h

def encI (x : Int) : List Lf := [.i .i64 x]
@[simp] theorem encI_len (x : Int) : (encI x).length = 1 := rfl
@[simp] theorem encI_take (x : Int) : List.take 1 (encI x) = [.i .i64 x] := rfl
def mkI (k : Int) : Int := k
theorem encI_inj {x y : Int} (h : encI x = encI y) : x = y := by simpa [encI] using h

abbrev IsBoolS := IsSl 4 encB
abbrev RdBoolS := RdSl 4 encB
abbrev RdLBoolS := RdSl 4 encB
def BoolS.mk' (xs : List Bool) (k : Int) : List Bool := marked mkB 1 xs.length k
def BoolS.mkN (xs : List Bool) (k : Int) : Int := k + 1 * xs.length
def BoolS.hd (xs : List Bool) (k : Int) : Int := heldL mkB 1 xs k
theorem BoolS.hd_mk (xs : List Bool) (k : Int) : BoolS.hd (BoolS.mk' xs k) k = BoolS.mkN xs k := by simp [BoolS.hd, BoolS.mk', BoolS.mkN]
theorem BoolS.mk_sz (xs : List Bool) (k : Int) : (BoolS.mk' xs k).length = xs.length := by simp [BoolS.mk']
theorem BoolS.mkN_le {xs : List Bool} {k : Int} (h : xs.length ≤ 1048576) : k ≤ BoolS.mkN xs k ∧ BoolS.mkN xs k ≤ k + 1000000000 := by unfold BoolS.mkN; omega

abbrev IsIntS := IsSl 3 encI
abbrev RdIntS := RdSl 3 encI
abbrev RdLIntS := RdSl 3 encI
def IntS.mk' (xs : List Int) (k : Int) : List Int := marked mkI 1 xs.length k
def IntS.mkN (xs : List Int) (k : Int) : Int := k + 1 * xs.length
def IntS.hd (xs : List Int) (k : Int) : Int := heldL mkI 1 xs k
theorem IntS.hd_mk (xs : List Int) (k : Int) : IntS.hd (IntS.mk' xs k) k = IntS.mkN xs k := by simp [IntS.hd, IntS.mk', IntS.mkN]
theorem IntS.mk_sz (xs : List Int) (k : Int) : (IntS.mk' xs k).length = xs.length := by simp [IntS.mk']
theorem IntS.mkN_le {xs : List Int} {k : Int} (h : xs.length ≤ 1048576) : k ≤ IntS.mkN xs k ∧ IntS.mkN xs k ≤ k + 1000000000 := by unfold IntS.mkN; omega

abbrev IsPortS := IsSl 87 Port.enc
abbrev RdPortS := RdSl 87 Port.enc
abbrev RdLPortS := RdSl 999999 Port.enc
def PortS.mk' (xs : List Port) (k : Int) : List Port := marked Port.mk' 11 xs.length k
def PortS.mkN (xs : List Port) (k : Int) : Int := k + 11 * xs.length
def PortS.hd (xs : List Port) (k : Int) : Int := heldL Port.mk' 11 xs k
theorem PortS.hd_mk (xs : List Port) (k : Int) : PortS.hd (PortS.mk' xs k) k = PortS.mkN xs k := by simp [PortS.hd, PortS.mk', PortS.mkN]
theorem PortS.mk_sz (xs : List Port) (k : Int) : (PortS.mk' xs k).length = xs.length := by simp [PortS.mk']
theorem PortS.mkN_le {xs : List Port} {k : Int} (h : xs.length ≤ 1048576) : k ≤ PortS.mkN xs k ∧ PortS.mkN xs k ≤ k + 1000000000 := by unfold PortS.mkN; omega

abbrev IsOutS := IsSl 108 Out.enc
abbrev RdOutS := RdSl 108 Out.enc
abbrev RdLOutS := RdSl 999999 Out.enc
def OutS.mk' (xs : List Out) (k : Int) : List Out := marked Out.mk' 8 xs.length k
def OutS.mkN (xs : List Out) (k : Int) : Int := k + 8 * xs.length
def OutS.hd (xs : List Out) (k : Int) : Int := heldL Out.mk' 8 xs k
theorem OutS.hd_mk (xs : List Out) (k : Int) : OutS.hd (OutS.mk' xs k) k = OutS.mkN xs k := by simp [OutS.hd, OutS.mk', OutS.mkN]
theorem OutS.mk_sz (xs : List Out) (k : Int) : (OutS.mk' xs k).length = xs.length := by simp [OutS.mk']
theorem OutS.mkN_le {xs : List Out} {k : Int} (h : xs.length ≤ 1048576) : k ≤ OutS.mkN xs k ∧ OutS.mkN xs k ≤ k + 1000000000 := by unfold OutS.mkN; omega

abbrev IsLinkS := IsSl 50 Link.enc
abbrev RdLinkS := RdSl 50 Link.enc
abbrev RdLLinkS := RdSl 999999 Link.enc
def LinkS.mk' (xs : List Link) (k : Int) : List Link := marked Link.mk' 4 xs.length k
def LinkS.mkN (xs : List Link) (k : Int) : Int := k + 4 * xs.length
def LinkS.hd (xs : List Link) (k : Int) : Int := heldL Link.mk' 4 xs k
theorem LinkS.hd_mk (xs : List Link) (k : Int) : LinkS.hd (LinkS.mk' xs k) k = LinkS.mkN xs k := by simp [LinkS.hd, LinkS.mk', LinkS.mkN]
theorem LinkS.mk_sz (xs : List Link) (k : Int) : (LinkS.mk' xs k).length = xs.length := by simp [LinkS.mk']
theorem LinkS.mkN_le {xs : List Link} {k : Int} (h : xs.length ≤ 1048576) : k ≤ LinkS.mkN xs k ∧ LinkS.mkN xs k ≤ k + 1000000000 := by unfold LinkS.mkN; omega

structure Bridge where
  id : Int
  ports : List Port
  deriving DecidableEq, Inhabited
def Bridge.enc (b : Bridge) (a : Option (Nat × Nat)) : List Lf := [.i .i64 b.id, .sl a b.ports.length]
@[simp] theorem Bridge.enc_len (b : Bridge) (a : Option (Nat × Nat)) : (b.enc a).length = 2 := rfl
@[simp] theorem Bridge.enc_take (b : Bridge) (a : Option (Nat × Nat)) : List.take 2 (b.enc a) = b.enc a := rfl

def Vec.ok (v : Vec) : Bool := (decide (1 ≤ v.root) && decide (v.root ≤ 9)) && (decide (1 ≤ v.bridge) && decide (v.bridge ≤ 9)) && decide (v.root ≤ v.bridge) && (decide (0 ≤ v.cost) && decide (v.cost ≤ 20)) && (decide (v.cost = 0) == decide (v.root = v.bridge)) && (decide (0 ≤ v.port) && decide (v.port ≤ 3))

theorem implVecOk (H : Heap) (v : Vec) : run env 114 [.agg v.enc] H = some (.bool v.ok, H) := by
  obtain ⟨a1, a2, a3, a4⟩ := v
  refine run_walk ok114 Try.func114 rfl (by simp [Try.f114]) fun Q hQ => ?_
  simp only [Try.f114, strip, stripL, stripI, stripG, chkT, tagsB, tagsL, tagD, addT, tagA, lookN, tagOp, elmT, ty22, ty24, ty25, ty33, ty54, ty58, ty95, ty122, Nat.reduceEqDiff, if_false, reduceIte, Option.getD_some, Option.getD_none, dstAt, dstOk, Nat.reduceLT, decide_true, if_true]
  simp [Vec.enc, inRange, isPort]
  repeat' (first | (refine gdL_t (fun h => ?_) (fun h => ?_) <;> simp [h, inRange, isPort]) | (refine gdL_f (fun h => ?_) (fun h => ?_) <;> simp [h, inRange, isPort]) | (refine selS_intro (fun h => ?_) (fun h => ?_) <;> simp [h, inRange, isPort]))
  all_goals (refine hQ _ _ _ (by simp) ?_)
  all_goals (clear hQ; simp_all [Try.f114, Vec.ok])
  all_goals (first | omega | (intros; omega))

theorem specVecOk (H : Heap) (v : Vec) : run env 122 [.agg v.enc] H = some (.bool v.ok, H) := by
  obtain ⟨a1, a2, a3, a4⟩ := v
  refine run_walk ok122 Try.func122 rfl (by simp [Try.f122]) fun Q hQ => ?_
  simp only [Try.f122, strip, stripL, stripI, stripG, chkT, tagsB, tagsL, tagD, addT, tagA, lookN, tagOp, elmT, ty22, ty24, ty25, ty33, ty54, ty58, ty95, ty122, Nat.reduceEqDiff, if_false, reduceIte, Option.getD_some, Option.getD_none, dstAt, dstOk, Nat.reduceLT, decide_true, if_true]
  simp [Vec.enc, l1In]
  repeat' (first | (refine gdL_t (fun h => ?_) (fun h => ?_) <;> simp [h, l1In]) | (refine gdL_f (fun h => ?_) (fun h => ?_) <;> simp [h, l1In]) | (refine selS_intro (fun h => ?_) (fun h => ?_) <;> simp [h, l1In]))
  all_goals (refine hQ _ _ _ (by simp) ?_)
  all_goals (clear hQ; simp_all [Try.f122, Vec.ok])
  all_goals (first | omega | (intros; omega))

def In.ok (x : In) : Bool := if x.kind = 1 then (decide (0 ≤ x.port) && decide (x.port ≤ 3)) && x.vec.ok && (decide (0 ≤ x.hops) && decide (x.hops ≤ 8)) && !x.up
  else if x.kind = 3 then (decide (0 ≤ x.port) && decide (x.port ≤ 3)) && decide (x.vec = ⟨0, 0, 0, 0⟩) && decide (x.hops = 0)
  else decide (x = ⟨2, 0, ⟨0, 0, 0, 0⟩, 0, false⟩)

theorem specInOk (H : Heap) (x : In) : run env 101 [.agg x.enc] H = some (.bool x.ok, H) := by
  obtain ⟨a1, a2, ⟨b1, b2, b3, b4⟩, a4, a5⟩ := x
  have e := fun H => specVecOk H ⟨b1, b2, b3, b4⟩
  simp only [Vec.enc] at e
  refine run_walk ok101 Try.func101 rfl (by simp [Try.f101]) fun Q hQ => ?_
  simp only [Try.f101, strip, stripL, stripI, stripG, chkT, tagsB, tagsL, tagD, addT, tagA, lookN, tagOp, elmT, ty22, ty24, ty25, ty33, ty54, ty58, ty95, ty122, Nat.reduceEqDiff, if_false, reduceIte, Option.getD_some, Option.getD_none, dstAt, dstOk, Nat.reduceLT, decide_true, if_true]
  simp [In.enc, l1In, e]
  repeat' (first | (refine gdL_t (fun h => ?_) (fun h => ?_) <;> simp [h, l1In, e]) | (refine gdL_f (fun h => ?_) (fun h => ?_) <;> simp [h, l1In, e]) | (refine selS_intro (fun h => ?_) (fun h => ?_) <;> simp [h, l1In, e]))
  all_goals (refine hQ _ _ _ (by simp) ?_)
  all_goals (clear hQ; simp_all [Try.f101, In.ok])
  all_goals (first | (intros; exfalso; omega) | simp [Bool.and_assoc])

def IsBridge (H : Heap) (l : List Lf) (x : Bridge) (fp : List Nat) : Prop := ∃ a, l = x.enc a ∧ Own H 87 a (x.ports.map Port.enc) fp
def RdBridge (H : Heap) (l : List Lf) (x : Bridge) : Prop := ∃ a, l = x.enc a ∧ Sl H 87 a (x.ports.map Port.enc)
def RdLBridge (H : Heap) (l : List Lf) (x : Bridge) : Prop := ∃ a, l = x.enc a ∧ Sl H 999999 a (x.ports.map Port.enc)
abbrev Bridge.sz (x : Bridge) : Nat := x.ports.length
def Bridge.fit (x : Bridge) : Prop := x.ports.length ≤ maxLen
section
variable {H H' : Heap} {l : List Lf} {x : Bridge} {fp : List Nat}
theorem IsBridge.keep {f : List Nat} (h : IsBridge H l x fp) (hk : Keep f H H') (hd : ∀ i ∈ fp, i ∉ f) : IsBridge H' l x fp := let ⟨a, h1, h2⟩ := h; ⟨a, h1, h2.keep hk hd⟩
theorem IsBridge.app (h : IsBridge H l x fp) (G : Heap) : IsBridge (H ++ G) l x fp := let ⟨a, h1, h2⟩ := h; ⟨a, h1, h2.app G⟩
theorem IsBridge.lt (h : IsBridge H l x fp) : ∀ i ∈ fp, i < H.length := let ⟨_, _, h2⟩ := h; h2.lt
theorem IsBridge.nodup (h : IsBridge H l x fp) : fp.Nodup := let ⟨_, _, h2⟩ := h; h2.nodup
theorem IsBridge.rd (h : IsBridge H l x fp) : RdBridge H l x := let ⟨a, h1, h2⟩ := h; ⟨a, h1, h2.sl⟩
theorem RdBridge.base (h : RdBridge H l x) (hk : Keep [] H H') : RdBridge H' l x := let ⟨a, h1, h2⟩ := h; ⟨a, h1, h2.keep hk (by simp)⟩
theorem RdBridge.app (h : RdBridge H l x) (G : Heap) : RdBridge (H ++ G) l x := h.base (Keep.app _ _ _)
theorem RdLBridge.base (h : RdLBridge H l x) (hk : Keep [] H H') : RdLBridge H' l x := let ⟨a, h1, h2⟩ := h; ⟨a, h1, h2.keep hk (by simp)⟩
theorem RdLBridge.app (h : RdLBridge H l x) (G : Heap) : RdLBridge (H ++ G) l x := h.base (Keep.app _ _ _)
theorem IsBridge.len (h : IsBridge H l x fp) : l.length = 2 := by obtain ⟨a, rfl, -⟩ := h; rfl
theorem RdLBridge.len (h : RdLBridge H l x) : l.length = 2 := by obtain ⟨a, rfl, -⟩ := h; rfl
theorem RdBridge.len (h : RdBridge H l x) : l.length = 2 := by obtain ⟨a, rfl, -⟩ := h; rfl
theorem IsBridge.free (h : IsBridge H' l x fp) (hr : l.all refFree = true) (H2 : Heap) : IsBridge H2 l x [] := by
  obtain ⟨a, rfl, h2⟩ := h
  exact ⟨a, rfl, h2.free (n := x.ports.length) (by simp [Bridge.enc] at hr; exact hr) H2⟩
theorem IsBridge.leave {ws : List W} (h : IsBridge H' l x fp) (hf : Fresh H H' fp) (hw : ws.all W.free = true → l.all refFree = true) : ∃ fp', IsBridge (leave H H' ws) l x fp' ∧ Fresh H (leave H H' ws) fp' := by
  rcases leave_opt H H' ws with e | ⟨e, hr⟩ <;> rw [e]
  · exact ⟨fp, h, hf⟩
  · exact ⟨[], h.free (hw hr) H, Fresh.refl H⟩
end

theorem okBridge : RepOk IsBridge := ⟨fun h hk hd => h.keep hk hd, fun h => h.lt, fun h => h.nodup⟩
theorem unBridge : UnOk IsBridge := fun ⟨a, h1, h2⟩ hf => ⟨a, h1, h2.unapp hf⟩
abbrev IsBridgeS := IsL 56 IsBridge
abbrev RdBridgeS := RdL 56 RdBridge
abbrev RdLBridgeS := RdL 999999 RdLBridge
def BridgeS.sz (xs : List Bridge) : Nat := xs.length + (xs.map Bridge.sz).sum
theorem BridgeS.sz_len (xs : List Bridge) : xs.length ≤ BridgeS.sz xs := by unfold BridgeS.sz; omega
theorem BridgeS.sz_at {xs : List Bridge} {x : Bridge} (h : x ∈ xs) : x.sz ≤ BridgeS.sz xs := by
  have key : ∀ {ys : List Bridge}, x ∈ ys → x.sz ≤ (ys.map Bridge.sz).sum := by
    intro ys hy
    induction ys with
    | nil => simp at hy
    | cons y ys ih =>
      simp only [List.map_cons, List.sum_cons]
      rcases List.mem_cons.1 hy with rfl | hy
      · omega
      · have := ih hy; omega
  have := key h
  unfold BridgeS.sz
  omega
def BridgeS.ps (xs : List Bridge) (i : Nat) : Nat := ((xs.take i).map Bridge.sz).sum
theorem BridgeS.ps_zero (xs : List Bridge) : BridgeS.ps xs 0 = 0 := by simp [BridgeS.ps]
theorem BridgeS.ps_succ (xs : List Bridge) {i : Nat} (h : i < xs.length) : BridgeS.ps xs (i + 1) = BridgeS.ps xs i + xs[i].sz := by
  unfold BridgeS.ps
  rw [List.take_add_one, List.getElem?_eq_getElem h, List.map_append, List.sum_append]
  simp
theorem BridgeS.ps_le (xs : List Bridge) (i : Nat) : xs.length + BridgeS.ps xs i ≤ BridgeS.sz xs := by
  have := congrArg (fun l => (l.map Bridge.sz).sum) (List.take_append_drop i xs)
  simp only [List.map_append, List.sum_append] at this
  unfold BridgeS.ps BridgeS.sz
  omega
theorem BridgeS.ps_len (xs : List Bridge) : xs.length + BridgeS.ps xs xs.length = BridgeS.sz xs := by unfold BridgeS.ps BridgeS.sz; rw [List.take_length]
def BridgeS.fit (xs : List Bridge) : Prop := xs.length ≤ maxLen ∧ ∀ x ∈ xs, x.fit
theorem RdBridgeS_base {H H' : Heap} {q : Lf} {xs : List Bridge} (h : RdBridgeS H q xs) (hk : Keep [] H H') : RdBridgeS H' q xs := RdL.base h (fun h hk => h.base hk) hk
theorem RdLBridgeS_base {H H' : Heap} {q : Lf} {xs : List Bridge} (h : RdLBridgeS H q xs) (hk : Keep [] H H') : RdLBridgeS H' q xs := RdL.base h (fun h hk => h.base hk) hk
theorem IsBridgeS_rd {H : Heap} {q : Lf} {xs : List Bridge} {fp : List Nat} (h : IsBridgeS H q xs fp) : RdBridgeS H q xs := IsL.rd h fun h => h.rd

structure Net where
  bridges : List Bridge
  links : List Link
  deriving DecidableEq, Inhabited
def Net.enc (x : Net) (q0 q1 : Lf) : List Lf := [q0, q1]
@[simp] theorem Net.enc_len (x : Net) (q0 q1 : Lf) : (x.enc q0 q1).length = 2 := rfl
@[simp] theorem Net.enc_take (x : Net) (q0 q1 : Lf) : List.take 2 (x.enc q0 q1) = x.enc q0 q1 := rfl

def IsNet (H : Heap) (l : List Lf) (x : Net) (fp : List Nat) : Prop := ∃ q0 q1 f0 f1, l = x.enc q0 q1 ∧ IsBridgeS H q0 x.bridges f0 ∧ IsLinkS H q1 x.links f1 ∧ fp = f0 ++ (f1) ∧ fp.Nodup
def RdNet (H : Heap) (l : List Lf) (x : Net) : Prop := ∃ q0 q1, l = x.enc q0 q1 ∧ RdBridgeS H q0 x.bridges ∧ RdLinkS H q1 x.links
def RdLNet (H : Heap) (l : List Lf) (x : Net) : Prop := ∃ q0 q1, l = x.enc q0 q1 ∧ RdLBridgeS H q0 x.bridges ∧ RdLLinkS H q1 x.links
def Net.sz (x : Net) : Nat := BridgeS.sz x.bridges + x.links.length
def Net.fit (x : Net) : Prop := BridgeS.fit x.bridges ∧ x.links.length ≤ maxLen
section
variable {H H' : Heap} {l : List Lf} {x : Net} {fp : List Nat}
theorem IsNet.keep {f : List Nat} (h : IsNet H l x fp) (hk : Keep f H H') (hd : ∀ i ∈ fp, i ∉ f) : IsNet H' l x fp := by
  obtain ⟨q0, q1, f0, f1, rfl, h0, h1, rfl, hnd⟩ := h
  exact ⟨q0, q1, f0, f1, rfl, h0.keep okBridge hk (fun i hi => hd i (by simp [hi])), h1.keep hk (fun i hi => hd i (by simp [hi])), rfl, hnd⟩
theorem IsNet.app (h : IsNet H l x fp) (G : Heap) : IsNet (H ++ G) l x fp := h.keep (Keep.app [] H G) (by simp)
theorem IsNet.lt (h : IsNet H l x fp) : ∀ i ∈ fp, i < H.length := by
  obtain ⟨q0, q1, f0, f1, rfl, h0, h1, rfl, hnd⟩ := h
  intro i hi
  simp at hi
  rcases hi with hi | hi
  · exact h0.lt okBridge i hi
  · exact h1.lt i hi
theorem IsNet.nodup (h : IsNet H l x fp) : fp.Nodup := by
  obtain ⟨q0, q1, f0, f1, rfl, h0, h1, rfl, hnd⟩ := h
  exact hnd
theorem IsNet.rd (h : IsNet H l x fp) : RdNet H l x := by
  obtain ⟨q0, q1, f0, f1, rfl, h0, h1, rfl, hnd⟩ := h
  exact ⟨q0, q1, rfl, IsBridgeS_rd h0, h1.rd⟩
theorem RdNet.base (h : RdNet H l x) (hk : Keep [] H H') : RdNet H' l x := by
  obtain ⟨q0, q1, rfl, h0, h1⟩ := h
  exact ⟨q0, q1, rfl, RdBridgeS_base h0 hk, h1.base hk⟩
theorem RdNet.app (h : RdNet H l x) (G : Heap) : RdNet (H ++ G) l x := h.base (Keep.app _ _ _)
theorem RdNet.len (h : RdNet H l x) : l.length = 2 := by
  obtain ⟨q0, q1, rfl, h0, h1⟩ := h
  rfl
theorem RdLNet.base (h : RdLNet H l x) (hk : Keep [] H H') : RdLNet H' l x := by
  obtain ⟨q0, q1, rfl, h0, h1⟩ := h
  exact ⟨q0, q1, rfl, RdLBridgeS_base h0 hk, h1.base hk⟩
theorem RdLNet.app (h : RdLNet H l x) (G : Heap) : RdLNet (H ++ G) l x := h.base (Keep.app _ _ _)
theorem RdLNet.len (h : RdLNet H l x) : l.length = 2 := by
  obtain ⟨q0, q1, rfl, h0, h1⟩ := h
  rfl
theorem IsNet.len (h : IsNet H l x fp) : l.length = 2 := by
  obtain ⟨q0, q1, f0, f1, rfl, h0, h1, rfl, hnd⟩ := h
  rfl
theorem IsNet.free (h : IsNet H' l x fp) (hr : l.all refFree = true) (H2 : Heap) : IsNet H2 l x [] := by
  obtain ⟨q0, q1, f0, f1, rfl, h0, h1, rfl, hnd⟩ := h
  simp [Net.enc] at hr
  have a0 : IsBridgeS H2 q0 x.bridges [] := by
    obtain ⟨e1, e2⟩ := h0.empty hr.1
    rw [e1, e2]
    exact IsL.emp _ _ _
  have a1 : IsLinkS H2 q1 x.links [] := h1.free hr.2 H2
  exact ⟨q0, q1, [], [], rfl, a0, a1, by simp, by simp⟩
theorem IsNet.leave {ws : List W} (h : IsNet H' l x fp) (hf : Fresh H H' fp) (hw : ws.all W.free = true → l.all refFree = true) : ∃ fp', IsNet (leave H H' ws) l x fp' ∧ Fresh H (leave H H' ws) fp' := by
  rcases leave_opt H H' ws with e | ⟨e, hr⟩ <;> rw [e]
  · exact ⟨fp, h, hf⟩
  · exact ⟨[], h.free (hw hr) H, Fresh.refl H⟩
end

def openBy (role wait : Int) : Bool := (decide (role = 1) || decide (role = 2)) && decide (wait = 0)
def Port.ok (p : Port) : Bool :=
  (if p.has then p.up && p.vec.ok && (decide (0 ≤ p.hops) && decide (p.hops ≤ 8)) && (decide (1 ≤ p.left) && decide (p.left ≤ 3)) else decide (p.vec = ⟨0, 0, 0, 0⟩) && decide (p.hops = 0) && decide (p.left = 0)) &&
  (decide (0 ≤ p.role) && decide (p.role ≤ 3)) && decide (decide (p.role = 0) = !p.up) && (decide (0 ≤ p.wait) && decide (p.wait ≤ 4)) && decide (p.opn = openBy p.role p.wait)

theorem isOpenBy (H : Heap) (p : Port) : run env 120 [.agg p.enc] H = some (.bool (openBy p.role p.wait), H) := by
  obtain ⟨a1, a2, ⟨b1, b2, b3, b4⟩, a4, a5, a6, a7, a8⟩ := p
  refine run_walk ok120 Try.func120 rfl (by simp [Try.f120]) fun Q hQ => ?_
  simp only [Try.f120, strip, stripL, stripI, stripG, chkT, tagsB, tagsL, tagD, addT, tagA, lookN, tagOp, elmT, ty22, ty24, ty25, ty33, ty54, ty58, ty95, ty122, Nat.reduceEqDiff, if_false, reduceIte, Option.getD_some, Option.getD_none, dstAt, dstOk, Nat.reduceLT, decide_true, if_true]
  simp [Port.enc]
  repeat' (first | (refine gdL_t (fun h => ?_) (fun h => ?_) <;> simp [h]) | (refine gdL_f (fun h => ?_) (fun h => ?_) <;> simp [h]) | (refine selS_intro (fun h => ?_) (fun h => ?_) <;> simp [h]))
  all_goals (refine hQ _ _ _ (by simp) ?_)
  all_goals (clear hQ; simp_all [Try.f120, openBy])

theorem implPortOk (H : Heap) (p : Port) : run env 107 [.agg p.enc] H = some (.bool p.ok, H) := by
  obtain ⟨a1, a2, ⟨b1, b2, b3, b4⟩, a4, a5, a6, a7, a8⟩ := p
  have e := fun H => implVecOk H ⟨b1, b2, b3, b4⟩
  have e2 := fun H a1 a2 b1 b2 b3 b4 a4 a5 a6 a7 a8 => isOpenBy H ⟨a1, a2, ⟨b1, b2, b3, b4⟩, a4, a5, a6, a7, a8⟩
  simp only [Vec.enc, Port.enc] at e e2
  refine run_walk ok107 Try.func107 rfl (by simp [Try.f107]) fun Q hQ => ?_
  simp only [Try.f107, strip, stripL, stripI, stripG, chkT, tagsB, tagsL, tagD, addT, tagA, lookN, tagOp, elmT, ty22, ty24, ty25, ty33, ty54, ty58, ty95, ty122, Nat.reduceEqDiff, if_false, reduceIte, Option.getD_some, Option.getD_none, dstAt, dstOk, Nat.reduceLT, decide_true, if_true]
  simp [Port.enc, e, e2, inRange, isHops]
  repeat' (first | (refine gdL_t (fun h => ?_) (fun h => ?_) <;> simp [h, e, e2, inRange, isHops]) | (refine gdL_f (fun h => ?_) (fun h => ?_) <;> simp [h, e, e2, inRange, isHops]) | (refine selS_intro (fun h => ?_) (fun h => ?_) <;> simp [h, e, e2, inRange, isHops]))
  all_goals (refine hQ _ _ _ (by simp) ?_)
  all_goals (clear hQ e e2; simp_all [Try.f107, Port.ok])
  all_goals (try (cases a1 <;> simp_all))
  all_goals (try (intros; exfalso; omega))

theorem specPortOk (H : Heap) (p : Port) : run env 109 [.agg p.enc] H = some (.bool p.ok, H) := by
  obtain ⟨a1, a2, ⟨b1, b2, b3, b4⟩, a4, a5, a6, a7, a8⟩ := p
  have e := fun H => specVecOk H ⟨b1, b2, b3, b4⟩
  simp only [Vec.enc, Port.enc] at e
  refine run_walk ok109 Try.func109 rfl (by simp [Try.f109]) fun Q hQ => ?_
  simp only [Try.f109, strip, stripL, stripI, stripG, chkT, tagsB, tagsL, tagD, addT, tagA, lookN, tagOp, elmT, ty22, ty24, ty25, ty33, ty54, ty58, ty95, ty122, Nat.reduceEqDiff, if_false, reduceIte, Option.getD_some, Option.getD_none, dstAt, dstOk, Nat.reduceLT, decide_true, if_true]
  simp [Port.enc, e, l1In]
  repeat' (first | (refine gdL_t (fun h => ?_) (fun h => ?_) <;> simp [h, e, l1In]) | (refine gdL_f (fun h => ?_) (fun h => ?_) <;> simp [h, e, l1In]) | (refine selS_intro (fun h => ?_) (fun h => ?_) <;> simp [h, e, l1In]))
  all_goals (refine hQ _ _ _ (by simp) ?_)
  all_goals (clear hQ e; simp_all [Try.f109, Port.ok, openBy])
  all_goals (try (intros; exfalso; omega))

def Bridge.ok (b : Bridge) : Bool := b.ports.all Port.ok && (decide (1 ≤ b.id) && decide (b.id ≤ 9)) && (decide (1 ≤ (b.ports.length : Int)) && decide ((b.ports.length : Int) ≤ 4))

theorem implBridgeOk_is {H : Heap} {l : List Lf} {b : Bridge} (h : RdBridge H l b) (hn : b.sz ≤ 1048576) : run env 75 [.agg l] H = some (.bool b.ok, H) := by
  obtain ⟨a, rfl, h⟩ := h
  have hn : b.ports.length ≤ 1048576 := hn
  refine run_walk ok75 Try.func75 rfl (by simp [Try.f75]) fun Q hQ => ?_
  simp only [Try.f75, strip, stripL, stripI, stripG, chkT, tagsB, tagsL, tagD, addT, tagA, lookN, tagOp, elmT, ty22, ty24, ty25, ty33, ty54, ty58, ty95, ty122, Nat.reduceEqDiff, if_false, reduceIte, Option.getD_some, Option.getD_none, dstAt, dstOk, Nat.reduceLT, decide_true, if_true]
  simp [Bridge.enc, builtinV, pureB, lenV]
  refine wpS_loop (fun j tm H' => ∃ i G, i + j = b.ports.length ∧ tm 1 = .ptr H.length 0 0 ∧ tm 6 = .w (.lf (.sl a b.ports.length)) ∧ tm 7 = .int b.ports.length ∧ tm 8 = .int i ∧ H' = H ++ some ⟨56, .wr, [b.enc a]⟩ :: G ∧ (b.ports.take i).all Port.ok = true) b.ports.length (by rw [env_K]; omega) ⟨0, [], by simp, by simp, by simp, by simp, by simp, by simp [Bridge.enc], by simp⟩ ?_
  rintro j tm H' hj ⟨i, G, hij, t1, t6, t7, t8, rfl, hall⟩ Q' hn' he' hr'
  simp [t1, t6, t7, t8]
  refine selS_intro (fun hc => ?_) (fun hc => ?_)
  · simp at hc
    obtain ⟨id, r, bl, rfl, hbl, hbe, hrow⟩ := h i _ (by simp [hc]; rfl)
    have hid := blkAt_len hbl
    have g4 : IntKind.i64.wrap ((i : Int) + 1) = (i : Int) + 1 := wrap64 (by omega) (by omega)
    simp [t1, t6, t7, t8, indexAddrV, elemIs, hid, hbl, hbe, hc, hrow, implPortOk]
    refine selS_intro (fun hd => ?_) (fun hd => ?_)
    · simp
      refine hr' _ _ ?_
      simp
      refine hQ _ _ _ (by simp) ?_
      have : b.ports.all Port.ok = false := List.all_eq_false.2 ⟨b.ports[i], by simp, by simpa using hd⟩
      simp [Try.f75, this, Bridge.ok]
    · simp at hd
      simp [t1, t6, t7, t8, g4]
      refine hn' (j - 1) _ _ (by omega) ⟨i + 1, _, by omega, by simp [t1], by simp [t6], by simp [t7], by simp, rfl, ?_⟩
      rw [List.take_add_one, List.all_append, hall]
      simp [hc, hd]
  · simp at hc
    simp [t1, t6, t7, t8]
    refine he' _ _ _ ?_
    simp [t1, builtinV, pureB, lenV, Bridge.enc, inRange]
    rw [List.take_of_length_le (by omega)] at hall
    repeat' (first | (refine gdL_t (fun h => ?_) (fun h => ?_) <;> simp [h, t1, inRange, builtinV, pureB, lenV]) | (refine gdL_f (fun h => ?_) (fun h => ?_) <;> simp [h, t1, inRange, builtinV, pureB, lenV]) | (refine selS_intro (fun h => ?_) (fun h => ?_) <;> simp [h, t1, inRange, builtinV, pureB, lenV]))
    all_goals (refine hQ _ _ _ (by simp) ?_)
    all_goals (simp [Try.f75, Bridge.ok, hall])
    all_goals (simp_all)
    all_goals (try (intros; omega))

theorem specBridgeOk_is {H : Heap} {l : List Lf} {b : Bridge} (h : RdBridge H l b) (hn : b.sz ≤ 1048576) : run env 78 [.agg l] H = some (.bool b.ok, H) := by
  obtain ⟨a, rfl, h⟩ := h
  have hn : b.ports.length ≤ 1048576 := hn
  refine run_walk ok78 Try.func78 rfl (by simp [Try.f78]) fun Q hQ => ?_
  simp only [Try.f78, strip, stripL, stripI, stripG, chkT, tagsB, tagsL, tagD, addT, tagA, lookN, tagOp, elmT, ty22, ty24, ty25, ty33, ty54, ty58, ty95, ty122, Nat.reduceEqDiff, if_false, reduceIte, Option.getD_some, Option.getD_none, dstAt, dstOk, Nat.reduceLT, decide_true, if_true]
  simp [Bridge.enc, builtinV, pureB, lenV]
  refine wpS_loop (fun j tm H' => ∃ i, i + j = b.ports.length ∧ tm 1 = .ptr H.length 0 0 ∧ tm 3 = .int i ∧ H' = H ++ [some ⟨56, .wr, [b.enc a]⟩] ∧ (b.ports.take i).all Port.ok = true) b.ports.length (by rw [env_K]; omega) ⟨0, by simp, by simp, by simp, by simp [Bridge.enc], by simp⟩ ?_
  rintro j tm H' hj ⟨i, hij, t1, t3, rfl, hall⟩ Q' hn' he' hr'
  simp [t1, t3, Bridge.enc, builtinV, pureB, lenV]
  refine selS_intro (fun hc => ?_) (fun hc => ?_)
  · simp at hc
    obtain ⟨id, r, bl, rfl, hbl, hbe, hrow⟩ := h i _ (by simp [hc]; rfl)
    have hid := blkAt_len hbl
    have g4 : IntKind.i64.wrap ((i : Int) + 1) = (i : Int) + 1 := wrap64 (by omega) (by omega)
    simp [t1, t3, indexAddrV, elemIs, hid, hbl, hbe, hc, hrow, specPortOk]
    refine selS_intro (fun hd => ?_) (fun hd => ?_)
    · simp
      refine hr' _ _ ?_
      simp
      refine hQ _ _ _ (by simp) ?_
      have : b.ports.all Port.ok = false := List.all_eq_false.2 ⟨b.ports[i], by simp, by simpa using hd⟩
      simp [Try.f78, this, Bridge.ok]
    · simp at hd
      simp [t1, t3, g4]
      refine hn' (j - 1) _ _ (by omega) ⟨i + 1, by omega, by simp [t1], by simp, by simp [Bridge.enc], ?_⟩
      rw [List.take_add_one, List.all_append, hall]
      simp [hc, hd]
  · simp at hc
    simp [t1, t3]
    refine he' _ _ _ ?_
    simp [t1, builtinV, pureB, lenV, Bridge.enc, l1In]
    rw [List.take_of_length_le (by omega)] at hall
    repeat' (first | (refine gdL_t (fun h => ?_) (fun h => ?_) <;> simp [h, t1, l1In, builtinV, pureB, lenV]) | (refine gdL_f (fun h => ?_) (fun h => ?_) <;> simp [h, t1, l1In, builtinV, pureB, lenV]) | (refine selS_intro (fun h => ?_) (fun h => ?_) <;> simp [h, t1, l1In, builtinV, pureB, lenV]))
    all_goals (refine hQ _ _ _ (by simp) ?_)
    all_goals (simp [Try.f78, Bridge.ok, hall])
    all_goals (simp_all)
    all_goals (try (intros; omega))

def isEndP (n : Net) (a p : Int) : Prop := ∃ (i k : Nat) (b : Bridge), a = i ∧ p = k ∧ n.bridges[i]? = some b ∧ k < b.ports.length
def endsOf (ls : List Link) : List (Int × Int) := ls.flatMap fun l => [(l.a, l.p), (l.b, l.q)]
def Net.P (n : Net) : Prop := (1 ≤ n.bridges.length ∧ n.bridges.length ≤ 5) ∧ n.links.length ≤ 6 ∧ (∀ b ∈ n.bridges, b.ok = true) ∧ (∀ (i j : Nat) (b c : Bridge), i < j → n.bridges[i]? = some b → n.bridges[j]? = some c → b.id ≠ c.id) ∧
  (∀ l ∈ n.links, l.a ≠ l.b ∧ isEndP n l.a l.p ∧ isEndP n l.b l.q) ∧ (endsOf n.links).Nodup ∧ ∀ (i k : Nat) (b : Bridge) (p : Port), n.bridges[i]? = some b → b.ports[k]? = some p → (p.up = true ↔ ((i : Int), (k : Int)) ∈ endsOf n.links)
noncomputable def Net.ok (n : Net) : Bool := @decide n.P (Classical.propDecidable _)
theorem Net.ok_iff (n : Net) : n.ok = true ↔ n.P := by unfold Net.ok; exact @decide_eq_true_iff _ (Classical.propDecidable _)
theorem Net.ok_false {n : Net} (h : ¬ n.P) : n.ok = false := by
  cases hk : n.ok
  · rfl
  · exact absurd ((Net.ok_iff n).1 hk) h
noncomputable def isEndB (n : Net) (a p : Int) : Bool := @decide (isEndP n a p) (Classical.propDecidable _)
theorem isEndB_iff (n : Net) (a p : Int) : isEndB n a p = true ↔ isEndP n a p := by unfold isEndB; exact @decide_eq_true_iff _ (Classical.propDecidable _)
theorem isEndB_false {n : Net} {a p : Int} (h : ¬ isEndP n a p) : isEndB n a p = false := by
  cases hk : isEndB n a p
  · rfl
  · exact absurd ((isEndB_iff n a p).1 hk) h
def encE (e : Int × Int) : List Lf := [.i .i64 e.1, .i .i64 e.2]
@[simp] theorem encE_len (e : Int × Int) : (encE e).length = 2 := rfl
@[simp] theorem encE_take (e : Int × Int) : List.take 2 (encE e) = encE e := rfl

theorem linkEnds (H : Heap) (l : Link) : run env 60 [.agg l.enc] H = some (.tup [.agg (encE (l.a, l.p)), .agg (encE (l.b, l.q))], H) := by
  refine run_walk ok60 Try.func60 rfl (by simp [Try.f60]) fun Q hQ => ?_
  simp only [Try.f60, strip, stripL, stripI, stripG, chkT, tagsB, tagsL, tagD, addT, tagA, lookN, tagOp, elmT, ty22, ty24, ty25, ty33, ty54, ty58, ty95, ty122, Nat.reduceEqDiff, if_false, reduceIte, Option.getD_some, Option.getD_none, dstAt, dstOk, Nat.reduceLT, decide_true, if_true]
  simp [Link.enc]
  refine hQ _ _ _ (by simp) ?_
  simp [Try.f60, encE]

theorem isEnd {H : Heap} {id : Nat} {l : List Lf} {n : Net} (hb : blkAt H id = some ⟨27, .wr, [l]⟩) (h : RdNet H l n) (hn : n.sz ≤ 1048576) (a p : Int) :
    run env 61 [.ptr id 0 0, .agg (encE (a, p))] H = some (.bool (isEndB n a p), H) := by
  obtain ⟨_, _, rfl, ⟨a0, rws, rfl, hs, hlen, hat⟩, ⟨c, rfl, hc1⟩⟩ := h
  unfold Net.sz at hn
  have hbl0 := BridgeS.sz_len n.bridges
  have hid0 := blkAt_len hb
  have w1 : IntKind.i64.wrap ((n.bridges.length : Int) - 1) = (n.bridges.length : Int) - 1 := wrap64 (by omega) (by omega)
  refine run_walk ok61 Try.func61 rfl (by simp [Try.f61]) fun Q hQ => ?_
  simp only [Try.f61, strip, stripL, stripI, stripG, chkT, tagsB, tagsL, tagD, addT, tagA, lookN, tagOp, elmT, ty22, ty24, ty25, ty33, ty54, ty58, ty95, ty122, Nat.reduceEqDiff, if_false, reduceIte, Option.getD_some, Option.getD_none, dstAt, dstOk, Nat.reduceLT, decide_true, if_true]
  simp [Net.enc, encE, hb, hid0, builtinV, pureB, lenV, w1, inRange]
  refine gdL_t (fun hd => ?_) (fun hd => ?_)
  · simp [hd]
    simp at hd
    have hai : a.toNat < n.bridges.length := by omega
    have hri : a.toNat < rws.length := by omega
    obtain ⟨id2, r, bl, rfl, hbl, hbe, hrow⟩ := hs a.toNat _ (List.getElem?_eq_getElem hri)
    have hid := blkAt_len hbl
    have he := hat a.toNat _ _ (List.getElem?_eq_getElem hri) (List.getElem?_eq_getElem hai)
    obtain ⟨a1, hrw, hpo⟩ := he
    have hsz := BridgeS.sz_at (List.getElem_mem hai)
    have hsz2 : (n.bridges[a.toNat]).ports.length ≤ 1048576 := by have : (n.bridges[a.toNat]).sz = (n.bridges[a.toNat]).ports.length := rfl; omega
    have w2 : IntKind.i64.wrap (((n.bridges[a.toNat]).ports.length : Int) - 1) = ((n.bridges[a.toNat]).ports.length : Int) - 1 := wrap64 (by omega) (by omega)
    have hd1 : a < (n.bridges.length : Int) := by omega
    have hd0 : 0 ≤ a := by omega
    simp [hb, hid0, indexAddrV, elemIs, hid, hbl, hbe, hrow, hd0, hd1, hrw, Net.enc, Bridge.enc, builtinV, pureB, lenV, w2, inRange]
    refine hQ _ _ _ (by simp) ?_
    simp [Try.f61]
    by_cases hp : 0 ≤ p ∧ p ≤ (n.bridges[a.toNat]).ports.length - 1
    · have : isEndB n a p = true := (isEndB_iff n a p).2 ⟨a.toNat, p.toNat, n.bridges[a.toNat], by omega, by omega, List.getElem?_eq_getElem hai, by omega⟩
      simp [this, hp]
    · have : isEndB n a p = false := isEndB_false fun ⟨i, k, b, h1, h2, h3, h4⟩ => hp (by
        subst h1; subst h2
        simp at hai h3
        rw [List.getElem?_eq_getElem hai] at h3
        injection h3 with h3
        simp [h3]
        omega)
      simp [this]
      omega
  · simp [hd]
    refine hQ _ _ _ (by simp) ?_
    simp at hd
    have : isEndB n a p = false := isEndB_false fun ⟨i, k, b, h1, h2, h3, h4⟩ => by
      have := (List.getElem?_eq_some_iff.1 h3).1
      omega
    simp [Try.f61, this]

theorem endsIndex {H : Heap} {a : Option (Nat × Nat)} {es : List (Int × Int)} (h : Sl H 75 a (es.map encE)) (hn : es.length ≤ 2500000) (e : Int × Int) :
    run env 108 [.w (.lf (.sl a es.length)), .agg (encE e)] H = some (.bool (decide (e ∈ es)), H) := by
  have key : ∀ G, Runs env 126 [.w (.lf (.sl a es.length)), .agg (encE e)] (H ++ G) fun v H' => H' = H ++ G ∧ ∃ k : Int, v = .int k ∧ (0 ≤ k ↔ e ∈ es) := by
    intro G
    have h := h.app G
    refine Runs.walk ok126 Try.func126 rfl (by simp [Try.f126]) fun Q hQ => ?_
    simp only [Try.f126, strip, stripL, stripI, stripG, chkT, tagsB, tagsL, tagD, addT, tagA, lookN, tagOp, elmT, ty22, ty24, ty25, ty33, ty54, ty58, ty95, ty122, Nat.reduceEqDiff, if_false, reduceIte, Option.getD_some, Option.getD_none, dstAt, dstOk, Nat.reduceLT, decide_true, if_true]
    simp [builtinV, pureB, lenV]
    refine wpS_loop (fun j tm H' => ∃ i, i + j = es.length ∧ tm 0 = .w (.lf (.sl a es.length)) ∧ tm 3 = .ptr (H ++ G).length 0 0 ∧ tm 7 = .int es.length ∧ tm 8 = .int i ∧ H' = (H ++ G) ++ [some ⟨75, .wr, [encE e]⟩] ∧ ∀ x ∈ es.take i, x ≠ e) es.length (by rw [env_K]; omega) ⟨0, by simp, by simp, by simp, by simp, by simp, by simp, by simp⟩ ?_
    rintro j tm H' hj ⟨i, hij, t0, t3, t7, t8, rfl, hno⟩ Q' hn' he' hr'
    simp [t0, t3, t7, t8]
    refine selS_intro (fun hc => ?_) (fun hc => ?_)
    · simp at hc
      obtain ⟨id, r, bl, rfl, hbl, hbe, hrow⟩ := h i _ (by simp [hc]; rfl)
      have hid := blkAt_len hbl
      have hbl2 := fun T => blkAt_app hbl T
      simp only [List.append_assoc] at hbl2
      have g4 : IntKind.i64.wrap ((i : Int) + 1) = (i : Int) + 1 := wrap64 (by omega) (by omega)
      simp [t0, t3, t7, t8, indexAddrV, elemIs, hbl2, hbe, hc, hrow, encE]
      refine selS_intro (fun hd => ?_) (fun hd => ?_)
      · simp
        refine hr' _ _ ?_
        simp
        refine hQ _ _ _ (by simp) ?_
        simp at hd
        have : e = es[i] := Prod.ext hd.1 hd.2
        simp [Try.f126]
        refine ⟨?_, ?_⟩
        · rw [← List.append_assoc]; exact leave_free _ _ _ (by simp)
        · rw [this]; exact List.getElem_mem hc
      · simp [t0, t3, t7, t8, g4]
        refine hn' (j - 1) _ _ (by omega) ⟨i + 1, by omega, by simp [t0], by simp [t3], by simp [t7], by simp, by simp [encE], ?_⟩
        intro x hx
        rw [List.take_add_one, List.getElem?_eq_getElem hc, List.mem_append] at hx
        rcases hx with hx | hx
        · exact hno x hx
        · simp at hx
          subst hx
          intro hx2
          subst hx2
          simp at hd
    · simp at hc
      simp [t0, t3, t7, t8]
      refine he' _ _ _ ?_
      simp
      refine hQ _ _ _ (by simp) ?_
      rw [List.take_of_length_le (by omega)] at hno
      simp [Try.f126]
      refine ⟨?_, ?_⟩
      · rw [← List.append_assoc]; exact leave_free _ _ _ (by simp)
      · intro hm; exact hno e hm rfl
  refine run_walk ok108 Try.func108 rfl (by simp [Try.f108]) fun Q hQ => ?_
  simp only [Try.f108, strip, stripL, stripI, stripG, chkT, tagsB, tagsL, tagD, addT, tagA, lookN, tagOp, elmT, ty22, ty24, ty25, ty33, ty54, ty58, ty95, ty122, Nat.reduceEqDiff, if_false, reduceIte, Option.getD_some, Option.getD_none, dstAt, dstOk, Nat.reduceLT, decide_true, if_true]
  simp
  refine stpL_runs (key _) ?_
  rintro _ _ ⟨rfl, k, rfl, hk⟩
  simp
  refine hQ _ _ _ (by simp) ?_
  simp [Try.f108, hk]

def linksP (n : Net) : Prop := (∀ l ∈ n.links, l.a ≠ l.b ∧ isEndP n l.a l.p ∧ isEndP n l.b l.q) ∧ (endsOf n.links).Nodup ∧ (∀ (i k : Nat) (b : Bridge) (p : Port), n.bridges[i]? = some b → b.ports[k]? = some p → (p.up = true ↔ ((i : Int), (k : Int)) ∈ endsOf n.links)) ∧ n.links.length ≤ 6
noncomputable def linksB (n : Net) : Bool := @decide (linksP n) (Classical.propDecidable _)
theorem linksB_iff (n : Net) : linksB n = true ↔ linksP n := by unfold linksB; exact @decide_eq_true_iff _ (Classical.propDecidable _)
theorem linksB_false {n : Net} (h : ¬ linksP n) : linksB n = false := by
  cases hk : linksB n
  · rfl
  · exact absurd ((linksB_iff n).1 hk) h
theorem endsOf_split {ls : List Link} {i : Nat} (h : i < ls.length) : endsOf ls = endsOf (ls.take i) ++ ((ls[i].a, ls[i].p) :: (ls[i].b, ls[i].q) :: endsOf (ls.drop (i + 1))) := by
  have e : ls = ls.take i ++ (ls[i] :: ls.drop (i + 1)) := by rw [← List.drop_eq_getElem_cons h, List.take_append_drop]
  unfold endsOf
  conv => lhs; rw [e]
  rw [List.flatMap_append, List.flatMap_cons]; rfl
theorem endsOf_take {ls : List Link} {i : Nat} (h : i < ls.length) : endsOf (ls.take (i + 1)) = endsOf (ls.take i) ++ [(ls[i].a, ls[i].p), (ls[i].b, ls[i].q)] := by
  unfold endsOf
  rw [List.take_add_one, List.getElem?_eq_getElem h, List.flatMap_append]; simp
theorem endsOf_len (ls : List Link) : (endsOf ls).length = 2 * ls.length := by
  induction ls with
  | nil => rfl
  | cons l ls ih => unfold endsOf at ih ⊢; rw [List.flatMap_cons, List.length_append, ih]; simp; omega
theorem linksOk {H : Heap} {id : Nat} {l : List Lf} {n : Net} (hb : blkAt H id = some ⟨27, .wr, [l]⟩) (h : RdNet H l n) (hn : n.sz ≤ 1048576) :
    run env 76 [.ptr id 0 0] H = some (.bool (linksB n), H) := by
  have hR := h
  have hn0 := hn
  obtain ⟨_, _, rfl, ⟨a0, rws, rfl, hs, hlen, hat⟩, ⟨c, rfl, hc1⟩⟩ := h
  unfold Net.sz at hn
  have hbl0 := BridgeS.sz_len n.bridges
  have hid0 := blkAt_len hb
  refine run_walk ok76 Try.func76 rfl (by simp [Try.f76]) fun Q hQ => ?_
  simp only [Try.f76, strip, stripL, stripI, stripG, chkT, tagsB, tagsL, tagD, addT, tagA, lookN, tagOp, elmT, ty22, ty24, ty25, ty33, ty54, ty58, ty95, ty122, Nat.reduceEqDiff, if_false, reduceIte, Option.getD_some, Option.getD_none, dstAt, dstOk, Nat.reduceLT, decide_true, if_true]
  have bad : ¬ linksP n → ∀ tm H', (∃ G, H' = H ++ G) → tm 2 = .bool false → Q .ret tm H' := by
    rintro hx tm _ ⟨G, rfl⟩ h4
    refine hQ _ _ _ (by simp) ?_
    simp [Try.f76, h4, linksB_false hx]
  simp [hb, Net.enc, builtinV, pureB, lenV]
  refine wpS_loop (fun j tm H' => ∃ i G aU fU, i + j = n.links.length ∧ tm 0 = .ptr id 0 0 ∧ tm 3 = .w (.lf (.sl aU (endsOf (n.links.take i)).length)) ∧ tm 15 = .w (.lf (.sl c n.links.length)) ∧ tm 16 = .int n.links.length ∧ tm 17 = .int i ∧ H' = H ++ G ∧
      Own (H ++ G) 75 aU ((endsOf (n.links.take i)).map encE) fU ∧ (∀ k ∈ fU, H.length ≤ k) ∧ (∀ l ∈ n.links.take i, l.a ≠ l.b ∧ isEndP n l.a l.p ∧ isEndP n l.b l.q) ∧ (endsOf (n.links.take i)).Nodup) n.links.length (by rw [env_K]; omega)
    ⟨0, [], none, [], by simp, by simp, by simp [endsOf], by simp, by simp, by simp, by simp, by simpa [endsOf] using Own.nil H _, by simp, by simp, by simp [endsOf]⟩ ?_
  rintro j tm H' hj ⟨i, G, aU, fU, hij, t0, t3, t15, t16, t17, rfl, ho, hfU, hall, hnd⟩ Q' hn' he' hr'
  simp [t0, t3, t15, t16, t17]
  refine selS_intro (fun hc => ?_) (fun hc => ?_)
  · simp at hc
    obtain ⟨id2, r, bl, rfl, hbl, hbe, hrow⟩ := hc1 i _ (by simp [hc]; rfl)
    have hid := blkAt_len hbl
    have g4 : IntKind.i64.wrap ((i : Int) + 1) = (i : Int) + 1 := wrap64 (by omega) (by omega)
    obtain ⟨L, hL⟩ : ∃ L, L = n.links[i] := ⟨_, rfl⟩
    have hLm : L ∈ n.links := by rw [hL]; exact List.getElem_mem hc
    have hsp := endsOf_split hc
    have htk := endsOf_take hc
    rw [← hL] at hsp htk
    have hel := endsOf_len (n.links.take i)
    have hel2 : (n.links.take i).length ≤ n.links.length := by simp; omega
    have e1 := fun G => linkEnds (H ++ G) L
    have e2 := fun G a p => isEnd (blkAt_app hb G) (hR.app G) hn0 a p
    have e3 := fun T e => endsIndex (ho.app2 T).sl (by omega) e
    have e1' := e1
    simp only [Link.enc, encE] at e1 e2 e3
    have e2 := fun G a p => e2 G a p
    have e3 := fun T x y => e3 T (x, y)
    simp only at e3
    simp [t0, t3, t15, t16, t17, indexAddrV, elemIs, hid, hbl, hbe, hc, hrow, ← hL, Link.enc, e1]
    repeat' (first | (refine gdL_t (fun h => ?_) (fun h => ?_) <;> simp [h, e2, e3, t0, t3]) | (refine gdL_f (fun h => ?_) (fun h => ?_) <;> simp [h, e2, e3, t0, t3]) | (refine selS_intro (fun h => ?_) (fun h => ?_) <;> simp [h, e2, e3, t0, t3]))
    · refine hr' _ _ ?_
      simp
      refine bad (fun hp => (hp.1 L hLm).1 (by simpa using h)) _ _ ⟨_, rfl⟩ (by simp)
    · refine hr' _ _ ?_
      simp
      refine bad (fun hp => ?_) _ _ ⟨_, rfl⟩ (by simp)
      have := (isEndB_iff n L.a L.p).2 (hp.1 L hLm).2.1
      simp [this] at h
    · refine hr' _ _ ?_
      simp
      refine bad (fun hp => ?_) _ _ ⟨_, rfl⟩ (by simp)
      have := (isEndB_iff n L.b L.q).2 (hp.1 L hLm).2.2
      simp [this] at h
    · refine hr' _ _ ?_
      simp
      refine bad (fun hp => ?_) _ _ ⟨_, rfl⟩ (by simp)
      have := hp.2.1
      rw [hsp, List.nodup_append] at this
      exact this.2.2 _ (by simpa using h) (L.a, L.p) (by simp) rfl
    · refine hr' _ _ ?_
      simp
      refine bad (fun hp => ?_) _ _ ⟨_, rfl⟩ (by simp)
      have := hp.2.1
      rw [hsp, List.nodup_append] at this
      exact this.2.2 _ (by simpa using h) (L.b, L.q) (by simp) rfl
    · refine stpL_append (rows := (endsOf (n.links.take i)).map encE) (ys := [encE (L.a, L.p), encE (L.b, L.q)]) (ho.app2 _) (Sl.of (by simp [encE])) rfl rfl rfl (by simp) (by simp; omega) (by simp) rfl ?_
      intro a2 H2 f2 o2 hk2 hf2
      obtain ⟨⟨G2, rfl⟩, hf3⟩ := Fresh.grow hfU hk2 hf2
      simp [t0, t3, t15, t16, t17, g4]
      refine hn' (j - 1) _ _ (by omega) ⟨i + 1, G2, a2, f2, by omega, by simp [t0], by simp [htk], by simp [t15], by simp [t16], by simp, rfl, by simpa [htk] using o2, hf3, ?_, ?_⟩
      · intro l hl
        rw [List.take_add_one, List.getElem?_eq_getElem hc, List.mem_append] at hl
        rcases hl with hl | hl
        · exact hall l hl
        · simp at hl
          subst hl
          rw [← hL]
          exact ⟨by simp_all, (isEndB_iff n L.a L.p).1 (by simp_all), (isEndB_iff n L.b L.q).1 (by simp_all)⟩
      · rw [htk, List.nodup_append]
        refine ⟨hnd, ?_, ?_⟩
        · simp
          intro h1
          simp_all
        · intro x hx y hy
          simp at hy
          rintro rfl
          rcases hy with rfl | rfl <;> simp_all
  · simp at hc
    simp [t0, t3, t15, t16, t17]
    refine he' _ _ _ ?_
    rw [List.take_of_length_le (by omega)] at ho hall hnd t3
    have hel := endsOf_len n.links
    have e3 := fun T e => endsIndex (ho.app2 T).sl (by omega) e
    simp only [encE] at e3
    have e3 := fun T x y => e3 T (x, y)
    simp only at e3
    have hbG := fun T => blkAt_app hb T
    simp [t0, hbG, Net.enc, builtinV, pureB, lenV]
    refine wpS_loop (fun j tm H' => ∃ i T, i + j = n.bridges.length ∧ tm 0 = .ptr id 0 0 ∧ tm 3 = .w (.lf (.sl aU (endsOf n.links).length)) ∧ tm 62 = .w (.lf (.sl a0 n.bridges.length)) ∧ tm 63 = .int n.bridges.length ∧ tm 64 = .int i ∧ H' = H ++ (G ++ T) ∧
        ∀ (i' k : Nat) (b : Bridge) (p : Port), i' < i → n.bridges[i']? = some b → b.ports[k]? = some p → (p.up = true ↔ ((i' : Int), (k : Int)) ∈ endsOf n.links)) n.bridges.length (by rw [env_K]; omega)
      ⟨0, [], by simp, by simp [t0], by simp [t3], by simp, by simp, by simp, by simp, by simp⟩ ?_
    rintro j tm H' hj ⟨i, T, hij, t0, t3, t62, t63, t64, rfl, hup⟩ Q2 hn2 he2 hr2
    simp [t0, t3, t62, t63, t64]
    refine selS_intro (fun hc => ?_) (fun hc => ?_)
    · simp at hc
      have hri : i < rws.length := by omega
      obtain ⟨id2, r, bl, rfl, hbl, hbe, hrow⟩ := hs i _ (List.getElem?_eq_getElem hri)
      have hid := blkAt_len hbl
      have he := hat i _ _ (List.getElem?_eq_getElem hri) (List.getElem?_eq_getElem hc)
      obtain ⟨a1, hrw, hpo⟩ := he
      have hsz := BridgeS.sz_at (List.getElem_mem hc)
      have hsz2 : (n.bridges[i]).ports.length ≤ 1048576 := by have : (n.bridges[i]).sz = (n.bridges[i]).ports.length := rfl; omega
      have g4 : IntKind.i64.wrap ((i : Int) + 1) = (i : Int) + 1 := wrap64 (by omega) (by omega)
      simp [t0, t3, t62, t63, t64, indexAddrV, elemIs, hid, hbl, hbe, hc, hrow, hrw, Bridge.enc, builtinV, pureB, lenV]
      refine wpS_loop (fun j tm H' => ∃ k T, k + j = (n.bridges[i]).ports.length ∧ tm 0 = .ptr id 0 0 ∧ tm 3 = .w (.lf (.sl aU (endsOf n.links).length)) ∧ tm 62 = .w (.lf (.sl (some (id2, r)) n.bridges.length)) ∧ tm 63 = .int n.bridges.length ∧ tm 64 = .int i ∧ tm 8 = .int i ∧ tm 70 = .w (.lf (.sl a1 (n.bridges[i]).ports.length)) ∧ tm 71 = .int (n.bridges[i]).ports.length ∧ tm 72 = .int k ∧ H' = H ++ (G ++ T) ∧
          ∀ (k' : Nat) (p : Port), k' < k → (n.bridges[i]).ports[k']? = some p → (p.up = true ↔ ((i : Int), (k' : Int)) ∈ endsOf n.links)) (n.bridges[i]).ports.length (by rw [env_K]; omega)
        ⟨0, _, by simp, by simp [t0], by simp [t3], by simp [t62], by simp [t63], by simp [t64], by simp, by simp, by simp, by simp, rfl, by simp⟩ ?_
      rintro j2 tm H' hj2 ⟨k, T2, hij2, t0, t3, t62, t63, t64, t8, t70, t71, t72, rfl, hup2⟩ Q3 hn3 he3 hr3
      simp [t0, t3, t62, t63, t64, t8, t70, t71, t72]
      refine selS_intro (fun hc2 => ?_) (fun hc2 => ?_)
      · simp at hc2
        obtain ⟨id3, r3, bl3, rfl, hbl3, hbe3, hrow3⟩ := hpo k _ (by simp [hc2]; rfl)
        have hid3 := blkAt_len hbl3
        have g5 : IntKind.i64.wrap ((k : Int) + 1) = (k : Int) + 1 := wrap64 (by omega) (by omega)
        simp [t0, t3, t62, t63, t64, t8, t70, t71, t72, indexAddrV, elemIs, hid3, hbl3, hbe3, hc2, hrow3, Port.enc, e3]
        refine selS_intro (fun hd => ?_) (fun hd => ?_)
        · simp
          refine hr3 _ _ ?_
          simp
          refine hr2 _ _ ?_
          simp
          refine bad (fun hp => ?_) _ _ ⟨_, rfl⟩ (by simp)
          have h1 := hp.2.2.1 i k _ _ (List.getElem?_eq_getElem hc) (List.getElem?_eq_getElem hc2)
          have h2 : (n.bridges[i]).ports[k].up = decide (((i : Int), (k : Int)) ∈ endsOf n.links) := by
            rw [Bool.eq_iff_iff]
            simpa using h1
          rw [h2] at hd
          simp at hd
        · simp [t0, t3, t62, t63, t64, t8, t70, t71, t72, g5]
          refine hn3 (j2 - 1) _ _ (by omega) ⟨k + 1, _, by omega, by simp [t0], by simp [t3], by simp [t62], by simp [t63], by simp [t64], by simp [t8], by simp [t70], by simp [t71], by simp, rfl, ?_⟩
          intro k' p hk' hp
          rcases Nat.lt_or_ge k' k with hlt | hge
          · exact hup2 k' p hlt hp
          · obtain rfl : k' = k := by omega
            rw [List.getElem?_eq_getElem hc2] at hp
            injection hp with hp
            subst hp
            simp at hd
            simp [hd]
      · simp at hc2
        simp [t0, t3, t62, t63, t64, t8, t70, t71, t72]
        refine he3 _ _ _ ?_
        simp [t0, t3, t62, t63, t64, g4]
        refine hn2 (j - 1) _ _ (by omega) ⟨i + 1, _, by omega, by simp [t0], by simp [t3], by simp [t62], by simp [t63], by simp, rfl, ?_⟩
        intro i' k' b p hi' hb' hp'
        rcases Nat.lt_or_ge i' i with hlt | hge
        · exact hup i' k' b p hlt hb' hp'
        · obtain rfl : i' = i := by omega
          rw [List.getElem?_eq_getElem hc] at hb'
          injection hb' with hb'
          subst hb'
          exact hup2 k' p (by have := (List.getElem?_eq_some_iff.1 hp').1; omega) hp'
    · simp at hc
      simp [t0, t3, t62, t63, t64]
      refine he2 _ _ _ ?_
      simp [t0, hbG, Net.enc, builtinV, pureB, lenV]
      refine hQ _ _ _ (by simp) ?_
      have hfin : linksB n = decide ((n.links.length : Int) ≤ 6) := by
        by_cases h6 : n.links.length ≤ 6
        · have : linksB n = true := (linksB_iff n).2 ⟨hall, hnd, fun i k b p h1 h2 => hup i k b p (by have := (List.getElem?_eq_some_iff.1 h1).1; omega) h1 h2, h6⟩
          rw [this]
          simp
          omega
        · rw [linksB_false fun hp => h6 hp.2.2.2]
          simp
          omega
      simp [Try.f76, hfin]

theorem netP_iff (n : Net) : n.P ↔ (∀ b ∈ n.bridges, b.ok = true) ∧ (∀ (i j : Nat) (b c : Bridge), i < j → n.bridges[i]? = some b → n.bridges[j]? = some c → b.id ≠ c.id) ∧ (1 ≤ n.bridges.length ∧ n.bridges.length ≤ 5) ∧ linksP n := by
  unfold Net.P linksP
  constructor
  · rintro ⟨h1, h2, h3, h4, h5, h6, h7⟩; exact ⟨h3, h4, h1, h5, h6, h7, h2⟩
  · rintro ⟨h3, h4, h1, h5, h6, h7, h2⟩; exact ⟨h1, h2, h3, h4, h5, h6, h7⟩
theorem implNetOk_is {H : Heap} {l : List Lf} {n : Net} (h : RdNet H l n) (hn : n.sz ≤ 1048576) : run env 23 [.agg l] H = some (.bool n.ok, H) := by
  have hR := h
  have hn0 := hn
  obtain ⟨_, _, rfl, ⟨a0, rws, rfl, hs, hlen, hat⟩, ⟨c, rfl, hc1⟩⟩ := h
  unfold Net.sz at hn
  have hbl0 := BridgeS.sz_len n.bridges
  refine run_walk ok23 Try.func23 rfl (by simp [Try.f23]) fun Q hQ => ?_
  simp only [Try.f23, strip, stripL, stripI, stripG, chkT, tagsB, tagsL, tagD, addT, tagA, lookN, tagOp, elmT, ty22, ty24, ty25, ty33, ty54, ty58, ty95, ty122, Nat.reduceEqDiff, if_false, reduceIte, Option.getD_some, Option.getD_none, dstAt, dstOk, Nat.reduceLT, decide_true, if_true]
  have bad : ¬ n.P → ∀ tm H', (∃ G, H' = H ++ G) → tm 2 = .bool false → Q .ret tm H' := by
    rintro hx tm _ ⟨G, rfl⟩ h4
    refine hQ _ _ _ (by simp) ?_
    simp [Try.f23, h4, Net.ok_false hx]
  simp [Net.enc, builtinV, pureB, lenV]
  obtain ⟨B, hB⟩ : ∃ B : Option Blk, B = some ⟨27, .wr, [n.enc (.sl a0 n.bridges.length) (.sl c n.links.length)]⟩ := ⟨_, rfl⟩
  refine wpS_loop (fun j tm H' => ∃ i T, i + j = n.bridges.length ∧ tm 1 = .ptr H.length 0 0 ∧ tm 8 = .w (.lf (.sl a0 n.bridges.length)) ∧ tm 9 = .int n.bridges.length ∧ tm 10 = .int i ∧ H' = H ++ B :: T ∧
      (∀ (i' : Nat) (b : Bridge), i' < i → n.bridges[i']? = some b → b.ok = true) ∧ ∀ (i' j' : Nat) (b d : Bridge), i' < j' → j' < i → n.bridges[i']? = some b → n.bridges[j']? = some d → b.id ≠ d.id) n.bridges.length (by rw [env_K]; omega)
    ⟨0, [], by simp, by simp, by simp, by simp, by simp, by simp [hB, Net.enc], by simp, by simp⟩ ?_
  rintro j tm H' hj ⟨i, T, hij, t1, t8, t9, t10, rfl, hok, hid⟩ Q2 hn2 he2 hr2
  simp [t1, t8, t9, t10]
  refine selS_intro (fun hc => ?_) (fun hc => ?_)
  · simp at hc
    have hri : i < rws.length := by omega
    obtain ⟨id2, r, bl, rfl, hbl, hbe, hrow⟩ := hs i _ (List.getElem?_eq_getElem hri)
    have hid2 := blkAt_len hbl
    have he := hat i _ _ (List.getElem?_eq_getElem hri) (List.getElem?_eq_getElem hc)
    have hsz := BridgeS.sz_at (List.getElem_mem hc)
    have e1 := fun G => implBridgeOk_is (he.app G) (by omega)
    obtain ⟨a1, hrw, hpo⟩ := he
    rw [hrw] at e1 hrow
    simp only [Bridge.enc] at e1
    have g4 : IntKind.i64.wrap ((i : Int) + 1) = (i : Int) + 1 := wrap64 (by omega) (by omega)
    simp [t1, t8, t9, t10, indexAddrV, elemIs, hid2, hbl, hbe, hc, hrow, Bridge.enc, e1]
    refine selS_intro (fun hd => ?_) (fun hd => ?_)
    · simp
      refine hr2 _ _ ?_
      simp
      refine bad (fun hp => ?_) _ _ ⟨_, rfl⟩ (by simp)
      have := hp.2.2.1 _ (List.getElem_mem hc)
      simp [this] at hd
    · have hi1 : (i : Int) ≤ n.bridges.length := by omega
      simp [t1, t8, t9, t10, hB, Net.enc, sliceV, elemIs, hid2, hbl, hbe, bnd, hi1, builtinV, pureB, lenV]
      obtain ⟨BB, hBB⟩ : ∃ BB : Option Blk, BB = some ⟨56, .wr, [[.i .i64 (n.bridges[i]).id, .sl a1 (n.bridges[i]).ports.length]]⟩ := ⟨_, rfl⟩
      refine wpS_loop (fun j tm H' => ∃ k T2, k + j = i ∧ tm 1 = .ptr H.length 0 0 ∧ tm 8 = .w (.lf (.sl (some (id2, r)) n.bridges.length)) ∧ tm 9 = .int n.bridges.length ∧ tm 10 = .int i ∧ tm 4 = .ptr (H.length + (T.length + 1)) 0 0 ∧ tm 21 = .w (.lf (.sl (some (id2, r)) i)) ∧ tm 22 = .int i ∧ tm 23 = .int k ∧ H' = H ++ B :: (T ++ BB :: T2) ∧
          ∀ (k' : Nat) (b : Bridge), k' < k → n.bridges[k']? = some b → b.id ≠ (n.bridges[i]).id) i (by rw [env_K]; omega)
        ⟨0, [], by simp, by simp [t1], by simp [t8], by simp [t9], by simp [t10], by simp, by simp, by simp, by simp, by simp [hB, hBB, Net.enc], by simp⟩ ?_
      rintro j2 tm H' hj2 ⟨k, T2, hij2, t1, t8, t9, t10, t4, t21, t22, t23, rfl, hne2⟩ Q3 hn3 he3 hr3
      simp [t1, t8, t9, t10, t4, t21, t22, t23]
      refine selS_intro (fun hc2 => ?_) (fun hc2 => ?_)
      · simp at hc2
        have hck : k < n.bridges.length := by omega
        have hrk : k < rws.length := by omega
        obtain ⟨id3, r3, bl3, h0, hbl3, hbe3, hrow3⟩ := hs k _ (List.getElem?_eq_getElem hrk)
        cases h0
        rw [hbl] at hbl3
        injection hbl3 with hbl3
        subst hbl3
        obtain ⟨a3, hrw3, hpo3⟩ := hat k _ _ (List.getElem?_eq_getElem hrk) (List.getElem?_eq_getElem hck)
        rw [hrw3] at hrow3
        have g5 : IntKind.i64.wrap ((k : Int) + 1) = (k : Int) + 1 := wrap64 (by omega) (by omega)
        simp [t1, t8, t9, t10, t4, t21, t22, t23, hBB, indexAddrV, elemIs, hid2, hbl, hbe, hc2, hrow3, Bridge.enc]
        refine selS_intro (fun hd2 => ?_) (fun hd2 => ?_)
        · simp
          refine hr3 _ _ ?_
          simp
          refine hr2 _ _ ?_
          simp
          refine bad (fun hp => ?_) _ _ ⟨_, rfl⟩ (by simp)
          simp at hd2
          exact hp.2.2.2.1 k i _ _ (by omega) (List.getElem?_eq_getElem hck) (List.getElem?_eq_getElem hc) hd2
        · simp [t1, t8, t9, t10, t4, t21, t22, t23, g5]
          refine hn3 (j2 - 1) _ _ (by omega) ⟨k + 1, _, by omega, by simp [t1], by simp [t8], by simp [t9], by simp [t10], by simp [t4], by simp [t21], by simp [t22], by simp, by rw [hBB], ?_⟩
          intro k' b hk' hb'
          rcases Nat.lt_or_ge k' k with hlt | hge
          · exact hne2 k' b hlt hb'
          · obtain rfl : k' = k := by omega
            rw [List.getElem?_eq_getElem hck] at hb'
            injection hb' with hb'
            subst hb'
            simpa using hd2
      · simp at hc2
        simp [t1, t8, t9, t10, t4, t21, t22, t23]
        refine he3 _ _ _ ?_
        simp [t1, t8, t9, t10, g4]
        refine hn2 (j - 1) _ _ (by omega) ⟨i + 1, _, by omega, by simp [t1], by simp [t8], by simp [t9], by simp, rfl, ?_, ?_⟩
        · intro i' b hi' hb'
          rcases Nat.lt_or_ge i' i with hlt | hge
          · exact hok i' b hlt hb'
          · obtain rfl : i' = i := by omega
            rw [List.getElem?_eq_getElem hc] at hb'
            injection hb' with hb'
            subst hb'
            simpa using hd
        · intro i' j' b d hij' hj' hb' hd'
          rcases Nat.lt_or_ge j' i with hlt | hge
          · exact hid i' j' b d hij' hlt hb' hd'
          · obtain rfl : j' = i := by omega
            rw [List.getElem?_eq_getElem hc] at hd'
            injection hd' with hd'
            subst hd'
            exact hne2 i' b (by omega) hb'
  · simp at hc
    obtain rfl : i = n.bridges.length := by omega
    have hall : ∀ b ∈ n.bridges, b.ok = true := fun b hb => by
      obtain ⟨i', hi', rfl⟩ := List.mem_iff_getElem.1 hb
      exact hok i' _ hi' (List.getElem?_eq_getElem hi')
    have hids : ∀ (i j : Nat) (b c : Bridge), i < j → n.bridges[i]? = some b → n.bridges[j]? = some c → b.id ≠ c.id := fun i' j' b d h1 h2 h3 => hid i' j' b d h1 (List.getElem?_eq_some_iff.1 h3).1 h2 h3
    have el := linksOk (H := H ++ B :: T) (id := H.length) (n := n) (by simp [hB]) (hR.app _) hn0
    have hfin : n.ok = (decide (1 ≤ (n.bridges.length : Int)) && decide ((n.bridges.length : Int) ≤ 5) && linksB n) := by
      rw [Bool.eq_iff_iff]
      rw [Net.ok_iff, netP_iff]
      simp only [Bool.and_eq_true, decide_eq_true_eq, linksB_iff]
      constructor
      · rintro ⟨-, -, h1, h2⟩; exact ⟨⟨by omega, by omega⟩, h2⟩
      · rintro ⟨⟨h1, h2⟩, h3⟩; exact ⟨hall, hids, ⟨by omega, by omega⟩, h3⟩
    simp [t1, t8, t9, t10]
    refine he2 _ _ _ ?_
    simp [t1, hB, Net.enc, builtinV, pureB, lenV, inRange]
    rw [hB] at el
    simp only [Net.enc] at el
    repeat' (first | (refine gdL_t (fun h => ?_) (fun h => ?_) <;> simp [h, t1, el, inRange]) | (refine gdL_f (fun h => ?_) (fun h => ?_) <;> simp [h, t1, el, inRange]) | (refine selS_intro (fun h => ?_) (fun h => ?_) <;> simp [h, t1, el, inRange]))
    all_goals (refine hQ _ _ _ (by simp) ?_)
    all_goals (clear hQ; simp_all [Try.f23])

theorem l1Bit (H : Heap) (b : Bool) : run env 79 [.bool b] H = some (.int (if b then 1 else 0), H) := by
  refine run_walk ok79 Try.func79 rfl (by simp [Try.f79]) fun Q hQ => ?_
  simp only [Try.f79, strip, stripL, stripI, stripG, chkT, tagsB, tagsL, tagD, addT, tagA, lookN, tagOp, elmT, ty22, ty24, ty25, ty33, ty54, ty58, ty95, ty122, Nat.reduceEqDiff, if_false, reduceIte, Option.getD_some, Option.getD_none, dstAt, dstOk, Nat.reduceLT, decide_true, if_true]
  simp
  refine selS_intro (fun h => ?_) (fun h => ?_)
  all_goals (simp; refine hQ _ _ _ (by simp) ?_; simp [Try.f79, h])

theorem count_step {ls : List Link} {i : Nat} (h : i < ls.length) (e : Int × Int) : (endsOf (ls.take (i + 1))).count e = (endsOf (ls.take i)).count e + (if (ls[i].a, ls[i].p) = e then 1 else 0) + (if (ls[i].b, ls[i].q) = e then 1 else 0) := by
  rw [endsOf_take h, List.count_append, List.count_cons, List.count_cons, List.count_nil]
  simp only [beq_iff_eq]
  omega
theorem l10Once {H : Heap} {l : List Lf} {n : Net} (h : RdNet H l n) (hn : n.links.length ≤ 1048576) (a p : Int) :
    run env 64 [.agg l, .int a, .int p] H = some (.int ((endsOf n.links).count (a, p)), H) := by
  obtain ⟨q0, _, rfl, h0, ⟨c, rfl, hc1⟩⟩ := h
  have e1 := fun H b => l1Bit H b
  refine run_walk ok64 Try.func64 rfl (by simp [Try.f64]) fun Q hQ => ?_
  simp only [Try.f64, strip, stripL, stripI, stripG, chkT, tagsB, tagsL, tagD, addT, tagA, lookN, tagOp, elmT, ty22, ty24, ty25, ty33, ty54, ty58, ty95, ty122, Nat.reduceEqDiff, if_false, reduceIte, Option.getD_some, Option.getD_none, dstAt, dstOk, Nat.reduceLT, decide_true, if_true]
  simp [Net.enc, builtinV, pureB, lenV]
  obtain ⟨B, hB⟩ : ∃ B : Option Blk, B = some ⟨27, .wr, [[q0, .sl c n.links.length]]⟩ := ⟨_, rfl⟩
  refine wpS_loop (fun j tm H' => ∃ i T, i + j = n.links.length ∧ tm 1 = .int a ∧ tm 2 = .int p ∧ tm 3 = .ptr H.length 0 0 ∧ tm 7 = .int ((endsOf (n.links.take i)).count (a, p)) ∧ tm 8 = .int i ∧ H' = H ++ B :: T) n.links.length (by rw [env_K]; omega)
    ⟨0, [], by simp, by simp, by simp, by simp, by simp [endsOf], by simp, by simp [hB]⟩ ?_
  rintro j tm H' hj ⟨i, T, hij, t1, t2, t3, t7, t8, rfl⟩ Q2 hn2 he2 hr2
  simp [t1, t2, t3, t7, t8, hB, builtinV, pureB, lenV]
  refine selS_intro (fun hc => ?_) (fun hc => ?_)
  · simp at hc
    obtain ⟨id2, r, bl, rfl, hbl, hbe, hrow⟩ := hc1 i _ (by simp [hc]; rfl)
    have hid := blkAt_len hbl
    have g4 : IntKind.i64.wrap ((i : Int) + 1) = (i : Int) + 1 := wrap64 (by omega) (by omega)
    have hcs := count_step hc (a, p)
    have hcl := List.count_le_length (a := (a, p)) (l := endsOf (n.links.take i))
    rw [endsOf_len] at hcl
    have hcl2 : (n.links.take i).length ≤ n.links.length := by simp; omega
    obtain ⟨L, hL⟩ : ∃ L, L = n.links[i] := ⟨_, rfl⟩
    rw [← hL] at hcs
    have w : ∀ x y : Int, 0 ≤ x → x ≤ 2 → IntKind.i64.wrap (((endsOf (n.links.take i)).count (a, p) : Int) + x) = ((endsOf (n.links.take i)).count (a, p) : Int) + x := fun x _ h1 h2 => wrap64 (by omega) (by omega)
    have w0 := w 0 0 (by omega) (by omega)
    have w1 := w 1 0 (by omega) (by omega)
    have w2 := w 2 0 (by omega) (by omega)
    simp only [Int.add_zero] at w0
    simp [t1, t2, t3, t7, t8, indexAddrV, elemIs, hid, hbl, hbe, hc, hrow, ← hL, Link.enc]
    repeat' (first | (refine gdL_t (fun h => ?_) (fun h => ?_) <;> simp [h, e1, w0, w1, w2, t1, t2, t3, t7, t8, Int.add_assoc, g4]) | (refine gdL_f (fun h => ?_) (fun h => ?_) <;> simp [h, e1, w0, w1, w2, t1, t2, t3, t7, t8, Int.add_assoc, g4]) | (refine selS_intro (fun h => ?_) (fun h => ?_) <;> simp [h, e1, w0, w1, w2, t1, t2, t3, t7, t8, Int.add_assoc, g4]))
    all_goals (refine hn2 (j - 1) _ _ (by omega) ⟨i + 1, _, by omega, by simp [t1], by simp [t2], by simp [t3], ?_, by simp, by rw [hB]⟩)
    all_goals (rw [hcs]; clear hQ hn2 he2 hr2; simp at *; by_cases hp : L.p = p <;> by_cases hq : L.q = p <;> simp_all [Int.add_assoc])
  · simp at hc
    obtain rfl : i = n.links.length := by omega
    simp [t1, t2, t3, t7, t8]
    refine he2 _ _ _ ?_
    simp [t7]
    refine hQ _ _ _ (by simp) ?_
    simp [Try.f64]

def endUpP (n : Net) (a p : Int) : Prop := ∃ (i k : Nat) (b : Bridge) (q : Port), a = i ∧ p = k ∧ n.bridges[i]? = some b ∧ b.ports[k]? = some q ∧ q.up = true
noncomputable def endUpB (n : Net) (a p : Int) : Bool := @decide (endUpP n a p) (Classical.propDecidable _)
theorem endUpB_iff (n : Net) (a p : Int) : endUpB n a p = true ↔ endUpP n a p := by unfold endUpB; exact @decide_eq_true_iff _ (Classical.propDecidable _)
theorem endUpB_false {n : Net} {a p : Int} (h : ¬ endUpP n a p) : endUpB n a p = false := by
  cases hk : endUpB n a p
  · rfl
  · exact absurd ((endUpB_iff n a p).1 hk) h
theorem l10End {H : Heap} {l : List Lf} {n : Net} (h : RdNet H l n) (hn : n.sz ≤ 1048576) (a p : Int) :
    run env 80 [.agg l, .int a, .int p] H = some (.bool (endUpB n a p), H) := by
  obtain ⟨_, _, rfl, ⟨a0, rws, rfl, hs, hlen, hat⟩, ⟨c, rfl, hc1⟩⟩ := h
  unfold Net.sz at hn
  have hbl0 := BridgeS.sz_len n.bridges
  have w1 : IntKind.i64.wrap ((n.bridges.length : Int) - 1) = (n.bridges.length : Int) - 1 := wrap64 (by omega) (by omega)
  refine run_walk ok80 Try.func80 rfl (by simp [Try.f80]) fun Q hQ => ?_
  simp only [Try.f80, strip, stripL, stripI, stripG, chkT, tagsB, tagsL, tagD, addT, tagA, lookN, tagOp, elmT, ty22, ty24, ty25, ty33, ty54, ty58, ty95, ty122, Nat.reduceEqDiff, if_false, reduceIte, Option.getD_some, Option.getD_none, dstAt, dstOk, Nat.reduceLT, decide_true, if_true]
  simp [Net.enc, builtinV, pureB, lenV, w1, l1In]
  have no : ∀ tm H', (∃ G, H' = H ++ G) → tm 6 = .bool false → ¬ endUpP n a p → Q .ret tm H' := by
    rintro tm _ ⟨G, rfl⟩ h6 hx
    refine hQ _ _ _ (by simp) ?_
    simp [Try.f80, h6, endUpB_false hx]
  refine gdL_t (fun hd => ?_) (fun hd => ?_)
  · simp [hd]
    simp at hd
    have hai : a.toNat < n.bridges.length := by omega
    have hri : a.toNat < rws.length := by omega
    obtain ⟨id2, r, bl, rfl, hbl, hbe, hrow⟩ := hs a.toNat _ (List.getElem?_eq_getElem hri)
    have hid := blkAt_len hbl
    obtain ⟨a1, hrw, hpo⟩ := hat a.toNat _ _ (List.getElem?_eq_getElem hri) (List.getElem?_eq_getElem hai)
    have hsz := BridgeS.sz_at (List.getElem_mem hai)
    have hsz2 : (n.bridges[a.toNat]).ports.length ≤ 1048576 := by have : (n.bridges[a.toNat]).sz = (n.bridges[a.toNat]).ports.length := rfl; omega
    have w2 : IntKind.i64.wrap (((n.bridges[a.toNat]).ports.length : Int) - 1) = ((n.bridges[a.toNat]).ports.length : Int) - 1 := wrap64 (by omega) (by omega)
    have hd1 : a < (n.bridges.length : Int) := by omega
    have hd0 : 0 ≤ a := by omega
    simp [indexAddrV, elemIs, hid, hbl, hbe, hrow, hd0, hd1, hrw, Net.enc, Bridge.enc, builtinV, pureB, lenV, w2, l1In]
    refine gdL_t (fun he => ?_) (fun he => ?_)
    · simp [he]
      simp at he
      have hpk : p.toNat < (n.bridges[a.toNat]).ports.length := by omega
      obtain ⟨id3, r3, bl3, rfl, hbl3, hbe3, hrow3⟩ := hpo p.toNat _ (by simp [hpk]; rfl)
      have hid3 := blkAt_len hbl3
      have he1 : p < ((n.bridges[a.toNat]).ports.length : Int) := by omega
      have he0 : 0 ≤ p := by omega
      simp [indexAddrV, elemIs, hid, hbl, hbe, hrow, hd0, hd1, hrw, Net.enc, Bridge.enc, hid3, hbl3, hbe3, hrow3, he0, he1, Port.enc]
      refine hQ _ _ _ (by simp) ?_
      have hfin : endUpB n a p = (n.bridges[a.toNat]).ports[p.toNat].up := by
        rw [Bool.eq_iff_iff, endUpB_iff]
        constructor
        · rintro ⟨i, k, b, q, h1, h2, h3, h4, h5⟩
          subst h1; subst h2
          simp at hai hpk
          rw [List.getElem?_eq_getElem hai] at h3
          injection h3 with h3
          subst h3
          rw [List.getElem?_eq_getElem hpk] at h4
          injection h4 with h4
          subst h4
          simpa using h5
        · intro h
          exact ⟨a.toNat, p.toNat, _, _, by omega, by omega, List.getElem?_eq_getElem hai, List.getElem?_eq_getElem hpk, h⟩
      simp [Try.f80, hfin]
    · simp [he]
      simp at he
      refine no _ _ ⟨_, rfl⟩ (by simp) ?_
      rintro ⟨i, k, b, q, h1, h2, h3, h4, h5⟩
      subst h1; subst h2
      simp at hai he
      rw [List.getElem?_eq_getElem hai] at h3
      injection h3 with h3
      have := (List.getElem?_eq_some_iff.1 h4).1
      rw [h3] at he
      omega
  · simp [hd]
    simp at hd
    refine no _ _ ⟨_, rfl⟩ (by simp) ?_
    rintro ⟨i, k, b, q, h1, h2, h3, h4, h5⟩
    have := (List.getElem?_eq_some_iff.1 h3).1
    omega

theorem specNetP (n : Net) : n.P ↔ (1 ≤ n.bridges.length ∧ n.bridges.length ≤ 5) ∧ n.links.length ≤ 6 ∧ (∀ b ∈ n.bridges, b.ok = true) ∧ (∀ (i j : Nat) (b c : Bridge), i < j → n.bridges[i]? = some b → n.bridges[j]? = some c → b.id ≠ c.id) ∧
    (∀ (i k : Nat) (b : Bridge) (p : Port), n.bridges[i]? = some b → b.ports[k]? = some p → (endsOf n.links).count ((i : Int), (k : Int)) = if p.up then 1 else 0) ∧ (∀ l ∈ n.links, l.a ≠ l.b ∧ endUpP n l.a l.p ∧ endUpP n l.b l.q) := by
  have memE : ∀ e : Int × Int, e ∈ endsOf n.links → ∃ l ∈ n.links, e = (l.a, l.p) ∨ e = (l.b, l.q) := fun e he => by
    unfold endsOf at he
    obtain ⟨l, hl, h⟩ := List.mem_flatMap.1 he
    simp at h
    exact ⟨l, hl, h⟩
  have inE : ∀ l ∈ n.links, (l.a, l.p) ∈ endsOf n.links ∧ (l.b, l.q) ∈ endsOf n.links := fun l hl => by
    unfold endsOf
    exact ⟨List.mem_flatMap.2 ⟨l, hl, by simp⟩, List.mem_flatMap.2 ⟨l, hl, by simp⟩⟩
  unfold Net.P
  constructor
  · rintro ⟨h1, h2, h3, h4, h5, h6, h7⟩
    refine ⟨h1, h2, h3, h4, fun i k b p hb hp => ?_, fun l hl => ?_⟩
    · have hc := List.nodup_iff_count.1 h6 ((i : Int), (k : Int))
      have hm := h7 i k b p hb hp
      cases hu : p.up
      · simp only [hu] at hm
        simp
        refine List.count_eq_zero.2 fun h => ?_
        simp [h] at hm
      · simp only [hu] at hm
        have := List.count_pos_iff.2 (hm.1 trivial)
        simp
        omega
    · obtain ⟨h8, ⟨i, k, b, e1, e2, e3, e4⟩, ⟨i', k', b', f1, f2, f3, f4⟩⟩ := h5 l hl
      refine ⟨h8, ⟨i, k, b, b.ports[k], e1, e2, e3, List.getElem?_eq_getElem e4, ?_⟩, ⟨i', k', b', b'.ports[k'], f1, f2, f3, List.getElem?_eq_getElem f4, ?_⟩⟩
      · refine (h7 i k b _ e3 (List.getElem?_eq_getElem e4)).2 ?_
        rw [← e1, ← e2]; exact (inE l hl).1
      · refine (h7 i' k' b' _ f3 (List.getElem?_eq_getElem f4)).2 ?_
        rw [← f1, ← f2]; exact (inE l hl).2
  · rintro ⟨h1, h2, h3, h4, h5, h6⟩
    refine ⟨h1, h2, h3, h4, fun l hl => ?_, ?_, fun i k b p hb hp => ?_⟩
    · obtain ⟨h8, ⟨i, k, b, q, e1, e2, e3, e4, -⟩, ⟨i', k', b', q', f1, f2, f3, f4, -⟩⟩ := h6 l hl
      exact ⟨h8, ⟨i, k, b, e1, e2, e3, (List.getElem?_eq_some_iff.1 e4).1⟩, ⟨i', k', b', f1, f2, f3, (List.getElem?_eq_some_iff.1 f4).1⟩⟩
    · refine List.nodup_iff_count.2 fun e => ?_
      by_cases he : e ∈ endsOf n.links
      · obtain ⟨l, hl, he⟩ := memE e he
        obtain ⟨h8, ⟨i, k, b, q, e1, e2, e3, e4, -⟩, ⟨i', k', b', q', f1, f2, f3, f4, -⟩⟩ := h6 l hl
        rcases he with rfl | rfl
        · rw [e1, e2, h5 i k b q e3 e4]; split <;> omega
        · rw [f1, f2, h5 i' k' b' q' f3 f4]; split <;> omega
      · rw [List.count_eq_zero.2 he]; omega
    · have hc := h5 i k b p hb hp
      rw [← List.count_pos_iff, hc]
      cases p.up <;> simp

theorem specNetOk_is {H : Heap} {l : List Lf} {n : Net} (h : RdNet H l n) (hn : n.sz ≤ 1048576) : run env 24 [.agg l] H = some (.bool n.ok, H) := by
  have hR := h
  have hn0 := hn
  obtain ⟨_, _, rfl, ⟨a0, rws, rfl, hs, hlen, hat⟩, ⟨c, rfl, hc1⟩⟩ := h
  unfold Net.sz at hn
  have hbl0 := BridgeS.sz_len n.bridges
  have e2 := fun G a p => l10Once (hR.app G) (by omega) a p
  have e3 := fun G a p => l10End (hR.app G) hn0 a p
  simp only [Net.enc] at e2 e3
  refine run_walk ok24 Try.func24 rfl (by simp [Try.f24]) fun Q hQ => ?_
  simp only [Try.f24, strip, stripL, stripI, stripG, chkT, tagsB, tagsL, tagD, addT, tagA, lookN, tagOp, elmT, ty22, ty24, ty25, ty33, ty54, ty58, ty95, ty122, Nat.reduceEqDiff, if_false, reduceIte, Option.getD_some, Option.getD_none, dstAt, dstOk, Nat.reduceLT, decide_true, if_true]
  have bad : ¬ n.P → ∀ tm H', (∃ G, H' = H ++ G) → tm 2 = .bool false → Q .ret tm H' := by
    rintro hx tm _ ⟨G, rfl⟩ h4
    refine hQ _ _ _ (by simp) ?_
    simp [Try.f24, h4, Net.ok_false hx]
  obtain ⟨B, hB⟩ : ∃ B : Option Blk, B = some ⟨27, .wr, [[.sl a0 n.bridges.length, .sl c n.links.length]]⟩ := ⟨_, rfl⟩
  simp [Net.enc, builtinV, pureB, lenV, l1In]
  refine gdL_f (fun hd => ?_) (fun hd => ?_)
  · simp [hd]
    refine bad (fun hp => ?_) _ _ ⟨_, rfl⟩ (by simp)
    have := hp.1
    simp at hd
    omega
  simp [hd, builtinV, pureB, lenV]
  refine selS_intro (fun hd2 => ?_) (fun hd2 => ?_)
  · simp
    refine bad (fun hp => ?_) _ _ ⟨_, rfl⟩ (by simp)
    have := hp.2.1
    simp at hd2
    omega
  simp at hd hd2
  simp
  refine wpS_loop (fun j tm H' => ∃ i, i + j = n.bridges.length ∧ tm 1 = .ptr H.length 0 0 ∧ tm 3 = .int i ∧ H' = H ++ [B] ∧
      (∀ (i' : Nat) (b : Bridge), i' < i → n.bridges[i']? = some b → b.ok = true) ∧ (∀ (i' j' : Nat) (b d : Bridge), i' < j' → j' < i → n.bridges[i']? = some b → n.bridges[j']? = some d → b.id ≠ d.id) ∧
      ∀ (i' k : Nat) (b : Bridge) (p : Port), i' < i → n.bridges[i']? = some b → b.ports[k]? = some p → (endsOf n.links).count ((i' : Int), (k : Int)) = if p.up then 1 else 0) n.bridges.length (by rw [env_K]; omega)
    ⟨0, by simp, by simp, by simp, by simp [hB], by simp, by simp, by simp⟩ ?_
  rintro j tm H' hj ⟨i, hij, t1, t3, rfl, hok, hid, hct⟩ Q2 hn2 he2 hr2
  simp [t1, t3, hB, builtinV, pureB, lenV]
  refine selS_intro (fun hc => ?_) (fun hc => ?_)
  · simp at hc
    have hri : i < rws.length := by omega
    obtain ⟨id2, r, bl, rfl, hbl, hbe, hrow⟩ := hs i _ (List.getElem?_eq_getElem hri)
    have hid2 := blkAt_len hbl
    have he := hat i _ _ (List.getElem?_eq_getElem hri) (List.getElem?_eq_getElem hc)
    have hsz := BridgeS.sz_at (List.getElem_mem hc)
    have hsz2 : (n.bridges[i]).ports.length ≤ 1048576 := by have : (n.bridges[i]).sz = (n.bridges[i]).ports.length := rfl; omega
    have e1 := fun G => specBridgeOk_is (he.app G) (by omega)
    obtain ⟨a1, hrw, hpo⟩ := he
    rw [hrw] at e1 hrow
    simp only [Bridge.enc] at e1 hrow
    have g4 : IntKind.i64.wrap ((i : Int) + 1) = (i : Int) + 1 := wrap64 (by omega) (by omega)
    simp [t1, t3, indexAddrV, elemIs, hid2, hbl, hbe, hc, hrow, e1]
    refine selS_intro (fun hd => ?_) (fun hd => ?_)
    · simp
      refine hr2 _ _ ?_
      simp
      refine bad (fun hp => ?_) _ _ ⟨_, rfl⟩ (by simp)
      have := hp.2.2.1 _ (List.getElem_mem hc)
      simp [this] at hd
    simp
    refine wpS_loop (fun j tm H' => ∃ k, k + j = i ∧ tm 1 = .ptr H.length 0 0 ∧ tm 3 = .int i ∧ tm 4 = .int k ∧ H' = H ++ [B] ∧
        ∀ (k' : Nat) (b : Bridge), k' < k → n.bridges[k']? = some b → b.id ≠ (n.bridges[i]).id) i (by rw [env_K]; omega)
      ⟨0, by simp, by simp [t1], by simp [t3], by simp, by simp [hB], by simp⟩ ?_
    rintro j2 tm H' hj2 ⟨k, hij2, t1, t3, t4, rfl, hne2⟩ Q3 hn3 he3 hr3
    simp [t1, t3, t4]
    refine selS_intro (fun hc2 => ?_) (fun hc2 => ?_)
    · simp at hc2
      have hck : k < n.bridges.length := by omega
      have hrk : k < rws.length := by omega
      obtain ⟨id3, r3, bl3, h0, hbl3, hbe3, hrow3⟩ := hs k _ (List.getElem?_eq_getElem hrk)
      cases h0
      rw [hbl] at hbl3
      injection hbl3 with hbl3
      subst hbl3
      obtain ⟨a3, hrw3, hpo3⟩ := hat k _ _ (List.getElem?_eq_getElem hrk) (List.getElem?_eq_getElem hck)
      rw [hrw3] at hrow3
      simp only [Bridge.enc] at hrow3
      have g5 : IntKind.i64.wrap ((k : Int) + 1) = (k : Int) + 1 := wrap64 (by omega) (by omega)
      simp [t1, t3, t4, hB, indexAddrV, elemIs, hid2, hbl, hbe, hc, hck, hrow, hrow3]
      refine selS_intro (fun hd2 => ?_) (fun hd2 => ?_)
      · simp
        refine hr3 _ _ ?_
        simp
        refine hr2 _ _ ?_
        simp
        refine bad (fun hp => ?_) _ _ ⟨_, rfl⟩ (by simp)
        simp at hd2
        exact hp.2.2.2.1 k i _ _ (by omega) (List.getElem?_eq_getElem hck) (List.getElem?_eq_getElem hc) hd2
      · simp [t1, t3, t4, g5]
        refine hn3 (j2 - 1) _ _ (by omega) ⟨k + 1, by omega, by simp [t1], by simp [t3], by simp, by rw [hB], ?_⟩
        intro k' b hk' hb'
        rcases Nat.lt_or_ge k' k with hlt | hge
        · exact hne2 k' b hlt hb'
        · obtain rfl : k' = k := by omega
          rw [List.getElem?_eq_getElem hck] at hb'
          injection hb' with hb'
          subst hb'
          simpa using hd2
    · simp at hc2
      simp [t1, t3, t4]
      refine he3 _ _ _ ?_
      simp
      refine wpS_loop (fun j tm H' => ∃ k, k + j = (n.bridges[i]).ports.length ∧ tm 1 = .ptr H.length 0 0 ∧ tm 3 = .int i ∧ tm 5 = .int k ∧ H' = H ++ [B] ∧
          ∀ (k' : Nat) (p : Port), k' < k → (n.bridges[i]).ports[k']? = some p → (endsOf n.links).count ((i : Int), (k' : Int)) = if p.up then 1 else 0) (n.bridges[i]).ports.length (by rw [env_K]; omega)
        ⟨0, by simp, by simp [t1], by simp [t3], by simp, by simp, by simp⟩ ?_
      rintro j3 tm H' hj3 ⟨k2, hij3, t1, t3, t5, rfl, hup2⟩ Q4 hn4 he4 hr4
      simp [t1, t3, t5, hB, indexAddrV, elemIs, hid2, hbl, hbe, hc, hrow, builtinV, pureB, lenV]
      refine selS_intro (fun hc3 => ?_) (fun hc3 => ?_)
      · simp at hc3
        obtain ⟨id4, r4, bl4, rfl, hbl4, hbe4, hrow4⟩ := hpo k2 _ (by simp [hc3]; rfl)
        have hid4 := blkAt_len hbl4
        have g5 : IntKind.i64.wrap ((k2 : Int) + 1) = (k2 : Int) + 1 := wrap64 (by omega) (by omega)
        simp [t1, t3, t5, indexAddrV, elemIs, hid2, hbl, hbe, hc, hrow, hid4, hbl4, hbe4, hc3, hrow4, Port.enc, e2, l1Bit]
        refine selS_intro (fun hd3 => ?_) (fun hd3 => ?_)
        · simp
          refine hr4 _ _ ?_
          simp
          refine hr2 _ _ ?_
          simp
          refine bad (fun hp => ?_) _ _ ⟨_, rfl⟩ (by simp)
          have h1 := ((specNetP n).1 hp).2.2.2.2.1 i k2 _ _ (List.getElem?_eq_getElem hc) (List.getElem?_eq_getElem hc3)
          rw [h1] at hd3
          revert hd3
          cases (n.bridges[i]).ports[k2].up <;> simp
        · simp [t1, t3, t5, g5]
          refine hn4 (j3 - 1) _ _ (by omega) ⟨k2 + 1, by omega, by simp [t1], by simp [t3], by simp, by rw [hB], ?_⟩
          intro k' p hk' hp
          rcases Nat.lt_or_ge k' k2 with hlt | hge
          · exact hup2 k' p hlt hp
          · obtain rfl : k' = k2 := by omega
            rw [List.getElem?_eq_getElem hc3] at hp
            injection hp with hp
            subst hp
            revert hd3
            cases (n.bridges[i]).ports[k'].up <;> simp <;> omega
      · simp at hc3
        simp [t1, t3, t5]
        refine he4 _ _ _ ?_
        simp [t1, t3, g4]
        refine hn2 (j - 1) _ _ (by omega) ⟨i + 1, by omega, by simp [t1], by simp, by rw [hB], ?_, ?_, ?_⟩
        · intro i' b hi' hb'
          rcases Nat.lt_or_ge i' i with hlt | hge
          · exact hok i' b hlt hb'
          · obtain rfl : i' = i := by omega
            rw [List.getElem?_eq_getElem hc] at hb'
            injection hb' with hb'
            subst hb'
            simpa using hd
        · intro i' j' b d hij' hj' hb' hd'
          rcases Nat.lt_or_ge j' i with hlt | hge
          · exact hid i' j' b d hij' hlt hb' hd'
          · obtain rfl : j' = i := by omega
            rw [List.getElem?_eq_getElem hc] at hd'
            injection hd' with hd'
            subst hd'
            exact hne2 i' b (by omega) hb'
        · intro i' k' b p hi' hb' hp'
          rcases Nat.lt_or_ge i' i with hlt | hge
          · exact hct i' k' b p hlt hb' hp'
          · obtain rfl : i' = i := by omega
            rw [List.getElem?_eq_getElem hc] at hb'
            injection hb' with hb'
            subst hb'
            exact hup2 k' p (by have := (List.getElem?_eq_some_iff.1 hp').1; omega) hp'
  · simp at hc
    obtain rfl : i = n.bridges.length := by omega
    have hall : ∀ b ∈ n.bridges, b.ok = true := fun b hb => by
      obtain ⟨i', hi', rfl⟩ := List.mem_iff_getElem.1 hb
      exact hok i' _ hi' (List.getElem?_eq_getElem hi')
    have hids : ∀ (i j : Nat) (b c : Bridge), i < j → n.bridges[i]? = some b → n.bridges[j]? = some c → b.id ≠ c.id := fun i' j' b d h1 h2 h3 => hid i' j' b d h1 (List.getElem?_eq_some_iff.1 h3).1 h2 h3
    have hcts : ∀ (i k : Nat) (b : Bridge) (p : Port), n.bridges[i]? = some b → b.ports[k]? = some p → (endsOf n.links).count ((i : Int), (k : Int)) = if p.up then 1 else 0 := fun i' k' b p h1 h2 => hct i' k' b p (List.getElem?_eq_some_iff.1 h1).1 h1 h2
    simp [t1, t3]
    refine he2 _ _ _ ?_
    simp
    refine wpS_loop (fun j tm H' => ∃ i T, i + j = n.links.length ∧ tm 1 = .ptr H.length 0 0 ∧ tm 6 = .int i ∧ H' = H ++ B :: T ∧ ∀ l ∈ n.links.take i, l.a ≠ l.b ∧ endUpP n l.a l.p ∧ endUpP n l.b l.q) n.links.length (by rw [env_K]; omega)
      ⟨0, [], by simp, by simp [t1], by simp, by simp [hB], by simp⟩ ?_
    rintro j5 tm H' hj5 ⟨i, T, hij, t1, t6, rfl, hlk⟩ Q5 hn5 he5 hr5
    simp [t1, t6, hB, builtinV, pureB, lenV]
    refine selS_intro (fun hc => ?_) (fun hc => ?_)
    · simp at hc
      obtain ⟨id2, r, bl, rfl, hbl, hbe, hrow⟩ := hc1 i _ (by simp [hc]; rfl)
      have hid := blkAt_len hbl
      have g4 : IntKind.i64.wrap ((i : Int) + 1) = (i : Int) + 1 := wrap64 (by omega) (by omega)
      obtain ⟨L, hL⟩ : ∃ L, L = n.links[i] := ⟨_, rfl⟩
      have hLm : L ∈ n.links := by rw [hL]; exact List.getElem_mem hc
      simp [t1, t6, indexAddrV, elemIs, hid, hbl, hbe, hc, hrow, ← hL, Link.enc]
      repeat' (first | (refine gdL_t (fun h => ?_) (fun h => ?_) <;> simp [h, e3, t1, t6]) | (refine gdL_f (fun h => ?_) (fun h => ?_) <;> simp [h, e3, t1, t6]) | (refine selS_intro (fun h => ?_) (fun h => ?_) <;> simp [h, e3, t1, t6]))
      · refine hr5 _ _ ?_
        simp
        refine bad (fun hp => ?_) _ _ ⟨_, rfl⟩ (by simp)
        exact (((specNetP n).1 hp).2.2.2.2.2 L hLm).1 (by simpa using h)
      · refine hr5 _ _ ?_
        simp
        refine bad (fun hp => ?_) _ _ ⟨_, rfl⟩ (by simp)
        have := (endUpB_iff n L.a L.p).2 (((specNetP n).1 hp).2.2.2.2.2 L hLm).2.1
        simp [this] at h
      · refine hr5 _ _ ?_
        simp
        refine bad (fun hp => ?_) _ _ ⟨_, rfl⟩ (by simp)
        have := (endUpB_iff n L.b L.q).2 (((specNetP n).1 hp).2.2.2.2.2 L hLm).2.2
        simp [this] at h
      · simp [t1, t6, g4]
        refine hn5 (j5 - 1) _ _ (by omega) ⟨i + 1, _, by omega, by simp [t1], by simp, by rw [hB], ?_⟩
        intro l hl
        rw [List.take_add_one, List.getElem?_eq_getElem hc, List.mem_append] at hl
        rcases hl with hl | hl
        · exact hlk l hl
        · simp at hl
          subst hl
          rw [← hL]
          exact ⟨by simp_all, (endUpB_iff n L.a L.p).1 (by simp_all), (endUpB_iff n L.b L.q).1 (by simp_all)⟩
    · simp at hc
      rw [List.take_of_length_le (by omega)] at hlk
      simp [t1, t6]
      refine he5 _ _ _ ?_
      simp
      refine hQ _ _ _ (by simp) ?_
      have hfin : n.ok = true := (Net.ok_iff n).2 ((specNetP n).2 ⟨⟨by omega, by omega⟩, by omega, hall, hids, hcts, hlk⟩)
      simp [Try.f24, hfin]

def openAt (n : Net) (a p : Int) : Bool := match n.bridges[a.toNat]? with
  | some b => match b.ports[p.toNat]? with
    | some q => q.opn
    | none => false
  | none => false
def passesAt (n : Net) (k : Nat) : Bool := match n.links[k]? with
  | some l => openAt n l.a l.p && openAt n l.b l.q
  | none => false
noncomputable def passes (n : Net) (link : Int) : Bool := n.ok && (decide (0 ≤ link) && decide (link < (n.links.length : Int))) && passesAt n link.toNat
/-- What is there at an end. -/
theorem endAt {H : Heap} {n : Net} {rws : List (List Lf)} {id r : Nat} {bl : Blk} (hlen : rws.length = n.bridges.length) (hs : Sl H 56 (some (id, r)) rws) (hbl : blkAt H id = some bl) (hat : ∀ (i : Nat) (row : List Lf) (x : Bridge), rws[i]? = some row → n.bridges[i]? = some x → RdBridge H row x)
    {a p : Int} (h : isEndP n a p) : ∃ (b : Bridge) (a1 : Option (Nat × Nat)) (q : Port) (id3 r3 : Nat) (bl3 : Blk), 0 ≤ a ∧ a < (n.bridges.length : Int) ∧ bl.rows[r + a.toNat]? = some (b.enc a1) ∧ 0 ≤ p ∧ p < (b.ports.length : Int) ∧ a1 = some (id3, r3) ∧ id3 < H.length ∧ blkAt H id3 = some bl3 ∧ bl3.elem = 87 ∧ bl3.rows[r3 + p.toNat]? = some q.enc ∧ openAt n a p = q.opn := by
  obtain ⟨i, k, b, rfl, rfl, hb, hk⟩ := h
  have hi := (List.getElem?_eq_some_iff.1 hb).1
  have hri : i < rws.length := by omega
  obtain ⟨id2, r2, bl2, h0, hbl2, hbe, hrow⟩ := hs i _ (List.getElem?_eq_getElem hri)
  cases h0
  rw [hbl] at hbl2
  injection hbl2 with hbl2
  subst hbl2
  obtain ⟨a1, hrw, hpo⟩ := hat i _ _ (List.getElem?_eq_getElem hri) hb
  obtain ⟨id3, r3, bl3, rfl, hbl3, hbe3, hrow3⟩ := hpo k _ (by simp [hk]; rfl)
  exact ⟨b, some (id3, r3), b.ports[k], id3, r3, bl3, by omega, by omega, by simpa [hrw] using hrow, by omega, by omega, rfl, blkAt_len hbl3, hbl3, hbe3, by simpa using hrow3, by simp [openAt, hb, hk]⟩

theorem passesM {H : Heap} {id : Nat} {l : List Lf} {n : Net} (hb : blkAt H id = some ⟨27, .wr, [l]⟩) (h : RdNet H l n) (hp : n.P) (k : Nat) (hk : k < n.links.length) :
    run env 81 [.ptr id 0 0, .int k] H = some (.bool (passesAt n k), H) := by
  obtain ⟨_, _, rfl, ⟨a0, rws, rfl, hs, hlen, hat⟩, ⟨c, rfl, hc1⟩⟩ := h
  have hid0 := blkAt_len hb
  obtain ⟨id2, r, bl, rfl, hbl, hbe, hrow⟩ := hc1 k _ (by simp [hk]; rfl)
  have hid := blkAt_len hbl
  obtain ⟨L, hL⟩ : ∃ L, L = n.links[k] := ⟨_, rfl⟩
  have hLm : L ∈ n.links := by rw [hL]; exact List.getElem_mem hk
  have hx := hp.2.2.2.2.1 L hLm
  have h1 : 1 ≤ n.bridges.length := hp.1.1
  obtain ⟨id0, r0, bl0, rfl, hbl0, hbe0, -⟩ := hs 0 _ (List.getElem?_eq_getElem (by omega))
  have hid00 := blkAt_len hbl0
  obtain ⟨b1, a1, q1, id3, r3, bl3, e1, e2, e3, e4, e5, rfl, e7, e8, e9, e10, e11⟩ := endAt hlen hs hbl0 hat hx.2.1
  obtain ⟨b2, a2, q2, id4, r4, bl4, f1, f2, f3, f4, f5, rfl, f7, f8, f9, f10, f11⟩ := endAt hlen hs hbl0 hat hx.2.2
  have hpa : passesAt n k = (q1.opn && q2.opn) := by
    unfold passesAt
    rw [List.getElem?_eq_getElem hk, ← hL]
    simp [e11, f11]
  refine run_walk ok81 Try.func81 rfl (by simp [Try.f81]) fun Q hQ => ?_
  simp only [Try.f81, strip, stripL, stripI, stripG, chkT, tagsB, tagsL, tagD, addT, tagA, lookN, tagOp, elmT, ty22, ty24, ty25, ty33, ty54, ty58, ty95, ty122, Nat.reduceEqDiff, if_false, reduceIte, Option.getD_some, Option.getD_none, dstAt, dstOk, Nat.reduceLT, decide_true, if_true]
  simp [hb, hid0, Net.enc, indexAddrV, elemIs, hid, hbl, hbe, hk, hrow, ← hL, Link.enc, hid00, hbl0, hbe0, e1, e2, e3, e4, e5, e7, e8, e9, e10, Bridge.enc, Port.enc]
  repeat' (first | (refine gdL_t (fun h => ?_) (fun h => ?_) <;> simp [h, hb, hid0, Net.enc, indexAddrV, elemIs, hid00, hbl0, hbe0, f1, f2, f3, f4, f5, f7, f8, f9, f10, Bridge.enc, Port.enc]) | (refine gdL_f (fun h => ?_) (fun h => ?_) <;> simp [h, hb, hid0, Net.enc, indexAddrV, elemIs, hid00, hbl0, hbe0, f1, f2, f3, f4, f5, f7, f8, f9, f10, Bridge.enc, Port.enc]) | (refine selS_intro (fun h => ?_) (fun h => ?_) <;> simp [h, hb, hid0, Net.enc, indexAddrV, elemIs, hid00, hbl0, hbe0, f1, f2, f3, f4, f5, f7, f8, f9, f10, Bridge.enc, Port.enc]))
  all_goals (refine hQ _ _ _ (by simp) ?_)
  all_goals (clear hQ; simp_all [Try.f81])

theorem implPasses_is {H : Heap} {l : List Lf} {n : Net} (h : RdNet H l n) (hn : n.sz ≤ 1048576) (k : Int) (_ : I64 k) : run env 34 [.agg l, .int k] H = some (.bool (passes n k), H) := by
  have hR := h
  obtain ⟨q0, _, rfl, h0, ⟨c, rfl, hc1⟩⟩ := h
  have hl : n.links.length ≤ 1048576 := by unfold Net.sz at hn; omega
  have e1 := fun G => implNetOk_is (hR.app G) hn
  have w1 : IntKind.i64.wrap ((n.links.length : Int) - 1) = (n.links.length : Int) - 1 := wrap64 (by omega) (by omega)
  simp only [Net.enc] at e1
  refine run_walk ok34 Try.func34 rfl (by simp [Try.f34]) fun Q hQ => ?_
  simp only [Try.f34, strip, stripL, stripI, stripG, chkT, tagsB, tagsL, tagD, addT, tagA, lookN, tagOp, elmT, ty22, ty24, ty25, ty33, ty54, ty58, ty95, ty122, Nat.reduceEqDiff, if_false, reduceIte, Option.getD_some, Option.getD_none, dstAt, dstOk, Nat.reduceLT, decide_true, if_true]
  simp [Net.enc, builtinV, pureB, lenV, w1, inRange]
  refine gdL_t (fun hd => ?_) (fun hd => ?_)
  · simp [hd, e1]
    simp at hd
    refine gdL_t (fun ho => ?_) (fun ho => ?_)
    · have e2 := fun G => passesM (H := H ++ some ⟨27, .wr, [[q0, .sl c n.links.length]]⟩ :: G) (id := H.length) (l := [q0, .sl c n.links.length]) (n := n) (by simp) (by simpa [Net.enc] using hR.app _) ((Net.ok_iff n).1 ho) k.toNat (by omega)
      have hkk : ((k.toNat : Nat) : Int) = k := by omega
      rw [hkk] at e2
      simp [ho, e2]
      refine hQ _ _ _ (by simp) ?_
      have hfin : passes n k = passesAt n k.toNat := by
        unfold passes
        rw [ho]
        have h1 : decide (0 ≤ k) = true := by simp; omega
        have h2 : decide (k < (n.links.length : Int)) = true := by simp; omega
        rw [h1, h2]; rfl
      simp [Try.f34, hfin]
    · simp [ho]
      refine hQ _ _ _ (by simp) ?_
      simp [Try.f34, passes, ho]
  · simp [hd]
    refine hQ _ _ _ (by simp) ?_
    simp at hd
    have hfin : passes n k = false := by
      unfold passes
      have : (decide (0 ≤ k) && decide (k < (n.links.length : Int))) = false := by
        rw [Bool.and_eq_false_iff]
        simp
        omega
      rw [this]; simp
    simp [Try.f34, hfin]

theorem specPasses_is {H : Heap} {l : List Lf} {n : Net} (h : RdNet H l n) (hn : n.sz ≤ 1048576) (k : Int) (_ : I64 k) : run env 35 [.agg l, .int k] H = some (.bool (passes n k), H) := by
  have hR := h
  obtain ⟨_, _, rfl, ⟨a0, rws, rfl, hs, hlen, hat⟩, ⟨c, rfl, hc1⟩⟩ := h
  have hl : n.links.length ≤ 1048576 := by unfold Net.sz at hn; omega
  have e1 := fun G => specNetOk_is (hR.app G) hn
  have w1 : IntKind.i64.wrap ((n.links.length : Int) - 1) = (n.links.length : Int) - 1 := wrap64 (by omega) (by omega)
  simp only [Net.enc] at e1
  refine run_walk ok35 Try.func35 rfl (by simp [Try.f35]) fun Q hQ => ?_
  simp only [Try.f35, strip, stripL, stripI, stripG, chkT, tagsB, tagsL, tagD, addT, tagA, lookN, tagOp, elmT, ty22, ty24, ty25, ty33, ty54, ty58, ty95, ty122, Nat.reduceEqDiff, if_false, reduceIte, Option.getD_some, Option.getD_none, dstAt, dstOk, Nat.reduceLT, decide_true, if_true]
  have no : ∀ tm H', (∃ G, H' = H ++ G) → tm 4 = .bool false → passes n k = false → Q .ret tm H' := by
    rintro tm _ ⟨G, rfl⟩ h6 hx
    refine hQ _ _ _ (by simp) ?_
    simp [Try.f35, h6, hx]
  simp [Net.enc, e1]
  refine gdL_f (fun hd => ?_) (fun hd => ?_)
  · simp [hd]
    simp at hd
    refine no _ _ ⟨_, rfl⟩ (by simp) ?_
    simp [passes, hd]
  simp [hd, builtinV, pureB, lenV, w1, l1In]
  simp at hd
  refine selS_intro (fun he => ?_) (fun he => ?_)
  · simp
    simp at he
    refine no _ _ ⟨_, rfl⟩ (by simp) ?_
    unfold passes
    have : (decide (0 ≤ k) && decide (k < (n.links.length : Int))) = false := by
      rw [Bool.and_eq_false_iff]
      simp
      omega
    rw [this]; simp
  simp at he
  have hp := (Net.ok_iff n).1 hd
  obtain ⟨k, rfl⟩ : ∃ k' : Nat, k = k' := ⟨k.toNat, by omega⟩
  have hk : k < n.links.length := by omega
  obtain ⟨id2, r, bl, rfl, hbl, hbe, hrow⟩ := hc1 k _ (by simp [hk]; rfl)
  have hid := blkAt_len hbl
  obtain ⟨L, hL⟩ : ∃ L, L = n.links[k] := ⟨_, rfl⟩
  have hLm : L ∈ n.links := by rw [hL]; exact List.getElem_mem hk
  have hx := hp.2.2.2.2.1 L hLm
  have h1 : 1 ≤ n.bridges.length := hp.1.1
  obtain ⟨id0, r0, bl0, rfl, hbl0, hbe0, -⟩ := hs 0 _ (List.getElem?_eq_getElem (by omega))
  have hid00 := blkAt_len hbl0
  obtain ⟨b1, a1, q1, id3, r3, bl3, e1, e2, e3, e4, e5, rfl, e7, e8, e9, e10, e11⟩ := endAt hlen hs hbl0 hat hx.2.1
  obtain ⟨b2, a2, q2, id4, r4, bl4, f1, f2, f3, f4, f5, rfl, f7, f8, f9, f10, f11⟩ := endAt hlen hs hbl0 hat hx.2.2
  have hpa : passes n k = (q1.opn && q2.opn) := by
    have h2 : passesAt n k = (q1.opn && q2.opn) := by
      unfold passesAt
      rw [List.getElem?_eq_getElem hk, ← hL]
      simp [e11, f11]
    unfold passes
    rw [hd]
    simp [h2, hk]
  simp [Net.enc, indexAddrV, elemIs, hid, hbl, hbe, hk, hrow, ← hL, Link.enc, hid00, hbl0, hbe0, e1, e2, e3, e4, e5, e7, e8, e9, e10, Bridge.enc, Port.enc]
  repeat' (first | (refine gdL_t (fun h => ?_) (fun h => ?_) <;> simp [h, Net.enc, indexAddrV, elemIs, hid00, hbl0, hbe0, f1, f2, f3, f4, f5, f7, f8, f9, f10, Bridge.enc, Port.enc]) | (refine gdL_f (fun h => ?_) (fun h => ?_) <;> simp [h, Net.enc, indexAddrV, elemIs, hid00, hbl0, hbe0, f1, f2, f3, f4, f5, f7, f8, f9, f10, Bridge.enc, Port.enc]) | (refine selS_intro (fun h => ?_) (fun h => ?_) <;> simp [h, Net.enc, indexAddrV, elemIs, hid00, hbl0, hbe0, f1, f2, f3, f4, f5, f7, f8, f9, f10, Bridge.enc, Port.enc]))
  all_goals (refine hQ _ _ _ (by simp) ?_)
  all_goals (clear hQ no; simp_all [Try.f35])

def better (a b : Vec) : Bool := if a.root ≠ b.root then decide (a.root < b.root) else if a.cost ≠ b.cost then decide (a.cost < b.cost) else if a.bridge ≠ b.bridge then decide (a.bridge < b.bridge) else decide (a.port < b.port)
def cmpI' (a b : Int) : Int := if a < b then -1 else if b < a then 1 else 0
def orL (xs : List Int) : Int := (xs.find? fun x => !decide (x = 0)).getD 0

theorem cmpNaN (H : Heap) (a : Int) : run env 135 [.int a] H = some (.bool false, H) := by
  refine run_walk ok135 Try.func135 rfl (by simp [Try.f135]) fun Q hQ => ?_
  simp only [Try.f135, strip, stripL, stripI, stripG, chkT, tagsB, tagsL, tagD, addT, tagA, lookN, tagOp, elmT, ty22, ty24, ty25, ty33, ty54, ty58, ty95, ty122, Nat.reduceEqDiff, if_false, reduceIte, Option.getD_some, Option.getD_none, dstAt, dstOk, Nat.reduceLT, decide_true, if_true]
  simp
  all_goals (refine hQ _ _ _ (by simp) ?_)
  all_goals (clear hQ; simp [Try.f135])

theorem cmpCompare (H : Heap) (a b : Int) : run env 131 [.int a, .int b] H = some (.int (cmpI' a b), H) := by
  refine run_walk ok131 Try.func131 rfl (by simp [Try.f131]) fun Q hQ => ?_
  simp only [Try.f131, strip, stripL, stripI, stripG, chkT, tagsB, tagsL, tagD, addT, tagA, lookN, tagOp, elmT, ty22, ty24, ty25, ty33, ty54, ty58, ty95, ty122, Nat.reduceEqDiff, if_false, reduceIte, Option.getD_some, Option.getD_none, dstAt, dstOk, Nat.reduceLT, decide_true, if_true]
  simp [cmpNaN]
  refine selS_intro (fun h => ?_) (fun h => ?_)
  · simp
    refine hQ _ _ _ (by simp) ?_
    simp at h
    simp [Try.f131, cmpI', h]
  simp
  refine selS_intro (fun h2 => ?_) (fun h2 => ?_)
  all_goals (simp; refine hQ _ _ _ (by simp) ?_; simp at h h2; simp [Try.f131, cmpI']; omega)

theorem cmpOr {H : Heap} {a : Option (Nat × Nat)} {xs : List Int} (h : Sl H 3 a (xs.map encI)) (hn : xs.length ≤ 1048576) :
    run env 130 [.w (.lf (.sl a xs.length))] H = some (.int (orL xs), H) := by
  refine run_walk ok130 Try.func130 rfl (by simp [Try.f130]) fun Q hQ => ?_
  simp only [Try.f130, strip, stripL, stripI, stripG, chkT, tagsB, tagsL, tagD, addT, tagA, lookN, tagOp, elmT, ty22, ty24, ty25, ty33, ty54, ty58, ty95, ty122, Nat.reduceEqDiff, if_false, reduceIte, Option.getD_some, Option.getD_none, dstAt, dstOk, Nat.reduceLT, decide_true, if_true]
  simp [builtinV, pureB, lenV]
  refine wpS_loop (fun j tm H' => ∃ i, i + j = xs.length ∧ tm 3 = .int 0 ∧ tm 6 = .w (.lf (.sl a xs.length)) ∧ tm 7 = .int xs.length ∧ tm 8 = .int i ∧ H' = H ∧ ∀ x ∈ xs.take i, x = 0) xs.length (by rw [env_K]; omega) ⟨0, by simp, by simp, by simp, by simp, by simp, rfl, by simp⟩ ?_
  rintro j tm H' hj ⟨i, hij, t3, t6, t7, t8, rfl, hz⟩ Q2 hn2 he2 hr2
  simp [t3, t6, t7, t8]
  refine selS_intro (fun hc => ?_) (fun hc => ?_)
  · simp at hc
    obtain ⟨id, r, bl, rfl, hbl, hbe, hrow⟩ := h i _ (by simp [hc]; rfl)
    have g4 : IntKind.i64.wrap ((i : Int) + 1) = (i : Int) + 1 := wrap64 (by omega) (by omega)
    simp [t3, t6, t7, t8, indexAddrV, elemIs, hbl, hbe, hc, hrow, encI]
    refine selS_intro (fun hd => ?_) (fun hd => ?_)
    · simp
      refine hr2 _ _ ?_
      simp
      refine hQ _ _ _ (by simp) ?_
      have hf : xs.find? (fun x => !decide (x = 0)) = some xs[i] := by
        rw [List.find?_eq_some_iff_getElem]
        refine ⟨by simpa using hd, i, hc, rfl, fun j hj => ?_⟩
        have := hz xs[j] (List.mem_take_iff_getElem.2 ⟨j, by omega, rfl⟩)
        simp [this]
      simp [Try.f130, orL, hf]
    · simp at hd
      simp [t3, t6, t7, t8, g4]
      refine hn2 (j - 1) _ _ (by omega) ⟨i + 1, by omega, by simp [t3], by simp [t6], by simp [t7], by simp, rfl, ?_⟩
      intro x hx
      rw [List.take_add_one, List.getElem?_eq_getElem hc, List.mem_append] at hx
      rcases hx with hx | hx
      · exact hz x hx
      · simp at hx
        rw [hx]; exact hd
  · simp at hc
    rw [List.take_of_length_le (by omega)] at hz
    simp [t3, t6, t7, t8]
    refine he2 _ _ _ ?_
    simp [t3]
    refine hQ _ _ _ (by simp) ?_
    have hf : xs.find? (fun x => !decide (x = 0)) = none := by
      rw [List.find?_eq_none]
      intro x hx
      simp [hz x hx]
    simp [Try.f130, orL, hf]

theorem implBetter (H : Heap) (x y : Vec) : run env 118 [.agg x.enc, .agg y.enc] H = some (.bool (better x y), H) := by
  have e1 := fun H a b => cmpCompare H a b
  have e3 := fun p q u v B1 B2 => cmpOr (H := H ++ [B1, B2, some ⟨3, .wr, [[.i .i64 p], [.i .i64 q], [.i .i64 u], [.i .i64 v]]⟩]) (a := some (H.length + 2, 0)) (xs := [p, q, u, v]) (Sl.of (by simp [encI])) (by simp)
  simp at e3
  refine run_walk ok118 Try.func118 rfl (by simp [Try.f118]) fun Q hQ => ?_
  simp only [Try.f118, strip, stripL, stripI, stripG, chkT, tagsB, tagsL, tagD, addT, tagA, lookN, tagOp, elmT, ty22, ty24, ty25, ty33, ty54, ty58, ty95, ty122, Nat.reduceEqDiff, if_false, reduceIte, Option.getD_some, Option.getD_none, dstAt, dstOk, Nat.reduceLT, decide_true, if_true]
  simp [Vec.enc, e1, e3]
  refine hQ _ _ _ (by simp) ?_
  simp [Try.f118]
  unfold orL better cmpI'
  by_cases h1 : x.root < y.root <;> by_cases h2 : y.root < x.root <;> by_cases h3 : x.cost < y.cost <;> by_cases h4 : y.cost < x.cost <;> by_cases h5 : x.bridge < y.bridge <;> by_cases h6 : y.bridge < x.bridge <;> by_cases h7 : x.port < y.port <;> by_cases h8 : y.port < x.port <;> simp [h1, h2, h3, h4, h5, h6, h7, h8, List.find?] <;> omega

theorem specBetter (H : Heap) (x y : Vec) : run env 111 [.agg x.enc, .agg y.enc] H = some (.bool (better x y), H) := by
  obtain ⟨a1, a2, a3, a4⟩ := x
  obtain ⟨b1, b2, b3, b4⟩ := y
  refine run_walk ok111 Try.func111 rfl (by simp [Try.f111]) fun Q hQ => ?_
  simp only [Try.f111, strip, stripL, stripI, stripG, chkT, tagsB, tagsL, tagD, addT, tagA, lookN, tagOp, elmT, ty22, ty24, ty25, ty33, ty54, ty58, ty95, ty122, Nat.reduceEqDiff, if_false, reduceIte, Option.getD_some, Option.getD_none, dstAt, dstOk, Nat.reduceLT, decide_true, if_true]
  simp [Vec.enc]
  repeat' (first | (refine gdL_t (fun h => ?_) (fun h => ?_) <;> simp [h]) | (refine gdL_f (fun h => ?_) (fun h => ?_) <;> simp [h]) | (refine selS_intro (fun h => ?_) (fun h => ?_) <;> simp [h]))
  all_goals (refine hQ _ _ _ (by simp) ?_)
  all_goals (clear hQ; simp_all [Try.f111, better])

def rootSkip (b : Bridge) (p : Port) : Bool := !p.has || decide (p.vec.bridge = b.id) || decide (b.id ≤ p.vec.root) || decide (20 ≤ p.vec.cost) || decide (8 ≤ p.hops)
def rootStep (b : Bridge) (best : Int) (i : Nat) (p : Port) : Int := if rootSkip b p then best else if decide (best < 0) || better p.vec (b.ports.getD best.toNat default).vec then i else best
def rootUpto (b : Bridge) : Nat → Int
  | 0 => -1
  | i + 1 => match b.ports[i]? with
    | some p => rootStep b (rootUpto b i) i p
    | none => rootUpto b i
def rootAt (b : Bridge) : Int := rootUpto b b.ports.length
theorem rootUpto_lt (b : Bridge) : ∀ i, -1 ≤ rootUpto b i ∧ rootUpto b i < i
  | 0 => by simp [rootUpto]
  | i + 1 => by
    have ih := rootUpto_lt b i
    unfold rootUpto
    split
    · unfold rootStep
      split
      · omega
      · split <;> omega
    · omega
def rootPort (b : Bridge) : Int × Bool := if b.ok then (rootAt b, decide (0 ≤ rootAt b)) else (-1, false)

theorem rootPortM {H : Heap} {id : Nat} {b : Bridge} {a : Option (Nat × Nat)} (hb : blkAt H id = some ⟨56, .wr, [b.enc a]⟩) (h_ : Sl H 87 a (b.ports.map Port.enc)) (hn : b.ports.length ≤ 1048576) :
    run env 110 [.ptr id 0 0] H = some (.int (rootAt b), H) := by
  have hid0 := blkAt_len hb
  simp only [Bridge.enc] at hb
  have e1 := fun H (c1 c2 c3 c4 d1 d2 d3 d4 : Int) => implBetter H ⟨c1, c2, c3, c4⟩ ⟨d1, d2, d3, d4⟩
  simp only [Vec.enc] at e1
  refine run_walk ok110 Try.func110 rfl (by simp [Try.f110]) fun Q hQ => ?_
  simp only [Try.f110, strip, stripL, stripI, stripG, chkT, tagsB, tagsL, tagD, addT, tagA, lookN, tagOp, elmT, ty22, ty24, ty25, ty33, ty54, ty58, ty95, ty122, Nat.reduceEqDiff, if_false, reduceIte, Option.getD_some, Option.getD_none, dstAt, dstOk, Nat.reduceLT, decide_true, if_true]
  simp [hb, builtinV, pureB, lenV]
  refine wpS_loop (fun j tm H' => ∃ i T, i + j = b.ports.length ∧ tm 0 = .ptr id 0 0 ∧ tm 3 = .int (rootUpto b i) ∧ tm 9 = .w (.lf (.sl a b.ports.length)) ∧ tm 10 = .int b.ports.length ∧ tm 11 = .int i ∧ H' = H ++ T) b.ports.length (by rw [env_K]; omega) ⟨0, [], by simp, by simp, by simp [rootUpto], by simp, by simp, by simp, by simp⟩ ?_
  rintro j tm H' hj ⟨i, T, hij, t0, t3, t9, t10, t11, rfl⟩ Q2 hn2 he2 hr2
  simp [t0, t3, t9, t10, t11]
  refine selS_intro (fun hc => ?_) (fun hc => ?_)
  · simp at hc
    obtain ⟨id2, r, bl, rfl, hbl, hbe, hrow⟩ := h_ i _ (by simp [hc]; rfl)
    have hid := blkAt_len hbl
    have g4 : IntKind.i64.wrap ((i : Int) + 1) = (i : Int) + 1 := wrap64 (by omega) (by omega)
    have hlt := rootUpto_lt b i
    have hstep : rootUpto b (i + 1) = rootStep b (rootUpto b i) i b.ports[i] := by rw [rootUpto, List.getElem?_eq_getElem hc]
    have hskip : ∀ tm', tm' 0 = .ptr id 0 0 → tm' 3 = .int (rootUpto b (i + 1)) → tm' 9 = .w (.lf (.sl (some (id2, r)) b.ports.length)) → tm' 10 = .int b.ports.length → tm' 11 = .int ((i : Int) + 1) → ∀ T', Q2 .normal tm' (H ++ T') := fun tm' a0 a3 a9 a10 a11 T' =>
      hn2 (j - 1) _ _ (by omega) ⟨i + 1, T', by omega, a0, a3, a9, a10, by simpa using a11, rfl⟩
    obtain ⟨p, hp⟩ : ∃ p, p = b.ports[i] := ⟨_, rfl⟩
    rw [← hp] at hstep
    simp [t0, t3, t9, t10, t11, indexAddrV, elemIs, hid, hbl, hbe, hc, hrow, ← hp, Port.enc]
    have skipped : rootSkip b p = true → rootUpto b (i + 1) = rootUpto b i := fun hs => by rw [hstep, rootStep, if_pos hs]
    repeat' (first | (refine gdL_t (fun h => ?_) (fun h => ?_) <;> simp [h, t0, t3, t9, t10, t11, hb, hid0, g4]) | (refine gdL_f (fun h => ?_) (fun h => ?_) <;> simp [h, t0, t3, t9, t10, t11, hb, hid0, g4]) | (refine selS_intro (fun h => ?_) (fun h => ?_) <;> simp [h, t0, t3, t9, t10, t11, hb, hid0, g4]))
    iterate 5 (refine hskip _ (by simp [t0]) ?_ (by simp [t9]) (by simp [t10]) (by simp) _; rw [skipped (by clear hQ hn2 he2 hr2 hskip; simp_all [rootSkip])]; simp [t3])
    · have hns : rootSkip b p = false := by clear hQ hn2 he2 hr2 hskip skipped; simp_all [rootSkip]
      refine hskip _ (by simp [t0]) ?_ (by simp [t9]) (by simp [t10]) (by simp) _
      rw [hstep, rootStep, hns]
      have h0 : rootUpto b i < 0 := by simpa using h
      simp [h0]
    · have hns : rootSkip b p = false := by clear hQ hn2 he2 hr2 hskip skipped; simp_all [rootSkip]
      have h0 : 0 ≤ rootUpto b i := by simpa using h
      have hki : (rootUpto b i).toNat < b.ports.length := by omega
      have hkl : rootUpto b i < (b.ports.length : Int) := by omega
      obtain ⟨id3, r3, bl3, hx3, hbl3, hbe3, hrow3⟩ := h_ (rootUpto b i).toNat _ (by simp [hki]; rfl)
      cases hx3
      rw [hbl] at hbl3
      injection hbl3 with hbl3
      subst hbl3
      have hgd : (b.ports.getD (rootUpto b i).toNat default) = b.ports[(rootUpto b i).toNat] := by simp [List.getD, List.getElem?_eq_getElem hki]
      have hnl : ¬ rootUpto b i < 0 := by omega
      rw [rootStep, hns, hgd] at hstep
      simp only [Bool.false_eq_true, if_false, hnl, decide_false, Bool.false_or] at hstep
      simp [t0, t3, t9, t10, t11, hb, hid0, indexAddrV, elemIs, hid, hbl, hbe, h0, hkl, hrow3, Port.enc, e1]
      refine selS_intro (fun hd => ?_) (fun hd => ?_)
      · simp [t0, t3, t9, t10, t11, g4]
        refine hskip _ (by simp [t0]) ?_ (by simp [t9]) (by simp [t10]) (by simp) _
        rw [hstep, if_pos (by simpa using hd)]
        simp
      · simp [t0, t3, t9, t10, t11, g4]
        refine hskip _ (by simp [t0]) ?_ (by simp [t9]) (by simp [t10]) (by simp) _
        rw [hstep, if_neg (by simpa using hd)]
        simp [t3]
  · simp at hc
    obtain rfl : i = b.ports.length := by omega
    simp [t0, t3, t9, t10, t11]
    refine he2 _ _ _ ?_
    simp [t3]
    refine hQ _ _ _ (by simp) ?_
    simp [Try.f110, rootAt]

theorem implRootPort {H : Heap} {l : List Lf} {b : Bridge} (h : RdBridge H l b) (hn : b.sz ≤ 1048576) : run env 87 [.agg l] H = some (.tup [.lf (.i .i64 (rootPort b).1), .lf (.b (rootPort b).2)], H) := by
  have hR := h
  have e1 := fun G => implBridgeOk_is (hR.app G) (by omega)
  obtain ⟨a, rfl, h⟩ := h
  have e2 := fun G => rootPortM (H := H ++ some ⟨56, .wr, [b.enc a]⟩ :: G) (id := H.length) (b := b) (a := a) (by simp) (h.app _) hn
  refine run_walk ok87 Try.func87 rfl (by simp [Try.f87]) fun Q hQ => ?_
  simp only [Try.f87, strip, stripL, stripI, stripG, chkT, tagsB, tagsL, tagD, addT, tagA, lookN, tagOp, elmT, ty22, ty24, ty25, ty33, ty54, ty58, ty95, ty122, Nat.reduceEqDiff, if_false, reduceIte, Option.getD_some, Option.getD_none, dstAt, dstOk, Nat.reduceLT, decide_true, if_true]
  simp [e1]
  refine selS_intro (fun hd => ?_) (fun hd => ?_)
  · simp at hd
    simp
    refine hQ _ _ _ (by simp) ?_
    simp [Try.f87, rootPort, hd]
  · simp at hd
    simp [e2]
    refine hQ _ _ _ (by simp) ?_
    simp [Try.f87, rootPort, hd]

theorem specRootPort {H : Heap} {l : List Lf} {b : Bridge} (h : RdBridge H l b) (hn : b.sz ≤ 1048576) : run env 88 [.agg l] H = some (.tup [.lf (.i .i64 (rootPort b).1), .lf (.b (rootPort b).2)], H) := by
  have hR := h
  have eo := fun G => specBridgeOk_is (hR.app G) (by omega)
  have e1 := fun H (c1 c2 c3 c4 d1 d2 d3 d4 : Int) => specBetter H ⟨c1, c2, c3, c4⟩ ⟨d1, d2, d3, d4⟩
  simp only [Vec.enc] at e1
  obtain ⟨a, rfl, h_⟩ := h
  have hn : b.ports.length ≤ 1048576 := hn
  simp only [Bridge.enc] at eo
  refine run_walk ok88 Try.func88 rfl (by simp [Try.f88]) fun Q hQ => ?_
  simp only [Try.f88, strip, stripL, stripI, stripG, chkT, tagsB, tagsL, tagD, addT, tagA, lookN, tagOp, elmT, ty22, ty24, ty25, ty33, ty54, ty58, ty95, ty122, Nat.reduceEqDiff, if_false, reduceIte, Option.getD_some, Option.getD_none, dstAt, dstOk, Nat.reduceLT, decide_true, if_true]
  simp
  obtain ⟨B, hB⟩ : ∃ B : Option Blk, B = some ⟨56, .wr, [[.i .i64 b.id, .sl a b.ports.length]]⟩ := ⟨_, rfl⟩
  cases hok : b.ok
  · refine wpS_loop (fun j tm H' => tm 1 = .ptr H.length 0 0 ∧ tm 4 = .int (-1) ∧ tm 5 = .int 0 ∧ H' = H ++ [B]) 0 (by rw [env_K]; omega) ⟨by simp, by simp, by simp, by simp [hB, Bridge.enc]⟩ ?_
    rintro j tm H' hj ⟨t1, t4, t5, rfl⟩ Q2 hn2 he2 hr2
    simp [t1, t4, t5, hB, builtinV, pureB, lenV]
    rw [hok] at eo
    repeat' (first | (refine gdL_t (fun h => ?_) (fun h => ?_) <;> simp [h, t1, eo]) | (refine gdL_f (fun h => ?_) (fun h => ?_) <;> simp [h, t1, eo]) | (refine selS_intro (fun h => ?_) (fun h => ?_) <;> simp [h, t1, eo]))
    all_goals (refine he2 _ _ _ ?_)
    all_goals (simp [t4]; refine hQ _ _ _ (by simp) ?_; simp [Try.f88, rootPort, hok])
  · rw [hok] at eo
    refine wpS_loop (fun j tm H' => ∃ i T, i + j = b.ports.length ∧ tm 1 = .ptr H.length 0 0 ∧ tm 4 = .int (rootUpto b i) ∧ tm 5 = .int i ∧ H' = H ++ B :: T) b.ports.length (by rw [env_K]; omega) ⟨0, [], by simp, by simp, by simp [rootUpto], by simp, by simp [hB, Bridge.enc]⟩ ?_
    rintro j tm H' hj ⟨i, T, hij, t1, t4, t5, rfl⟩ Q2 hn2 he2 hr2
    simp [t1, t4, t5, hB, builtinV, pureB, lenV]
    refine gdL_t (fun hc => ?_) (fun hc => ?_)
    · simp [hc, eo, t1]
      simp at hc
      obtain ⟨id2, r, bl, rfl, hbl, hbe, hrow⟩ := h_ i _ (by simp [hc]; rfl)
      have hid := blkAt_len hbl
      have g4 : IntKind.i64.wrap ((i : Int) + 1) = (i : Int) + 1 := wrap64 (by omega) (by omega)
      have hlt := rootUpto_lt b i
      have hstep : rootUpto b (i + 1) = rootStep b (rootUpto b i) i b.ports[i] := by rw [rootUpto, List.getElem?_eq_getElem hc]
      have hskip : ∀ tm', tm' 1 = .ptr H.length 0 0 → tm' 4 = .int (rootUpto b (i + 1)) → tm' 5 = .int ((i : Int) + 1) → ∀ T', Q2 .normal tm' (H ++ some ⟨56, .wr, [[.i .i64 b.id, .sl (some (id2, r)) b.ports.length]]⟩ :: T') := fun tm' a1 a4 a5 T' =>
        hn2 (j - 1) _ _ (by omega) ⟨i + 1, T', by omega, a1, a4, by simpa using a5, by rw [hB]⟩
      obtain ⟨p, hp⟩ : ∃ p, p = b.ports[i] := ⟨_, rfl⟩
      rw [← hp] at hstep
      have skipped : rootSkip b p = true → rootUpto b (i + 1) = rootUpto b i := fun hs => by rw [hstep, rootStep, if_pos hs]
      simp [t1, t4, t5, indexAddrV, elemIs, hid, hbl, hbe, hc, hrow, ← hp, Port.enc]
      repeat' (first | (refine gdL_t (fun h => ?_) (fun h => ?_) <;> simp [h, t1, t4, t5, g4]) | (refine gdL_f (fun h => ?_) (fun h => ?_) <;> simp [h, t1, t4, t5, g4]) | (refine selS_intro (fun h => ?_) (fun h => ?_) <;> simp [h, t1, t4, t5, g4]))
      iterate 5 (refine hskip _ (by simp [t1]) ?_ (by simp) _; rw [skipped (by clear hQ hn2 he2 hr2 hskip; simp_all [rootSkip])]; simp [t4])
      · have hns : rootSkip b p = false := by clear hQ hn2 he2 hr2 hskip skipped; simp_all [rootSkip]
        refine hskip _ (by simp [t1]) ?_ (by simp) _
        rw [hstep, rootStep, hns]
        have h0 : rootUpto b i < 0 := by simpa using h
        simp [h0]
      · have hns : rootSkip b p = false := by clear hQ hn2 he2 hr2 hskip skipped; simp_all [rootSkip]
        have h0 : 0 ≤ rootUpto b i := by simpa using h
        have hki : (rootUpto b i).toNat < b.ports.length := by omega
        have hkl : rootUpto b i < (b.ports.length : Int) := by omega
        obtain ⟨id3, r3, bl3, hx3, hbl3, hbe3, hrow3⟩ := h_ (rootUpto b i).toNat _ (by simp [hki]; rfl)
        cases hx3
        rw [hbl] at hbl3
        injection hbl3 with hbl3
        subst hbl3
        have hgd : (b.ports.getD (rootUpto b i).toNat default) = b.ports[(rootUpto b i).toNat] := by simp [List.getD, List.getElem?_eq_getElem hki]
        have hnl : ¬ rootUpto b i < 0 := by omega
        rw [rootStep, hns, hgd] at hstep
        simp only [Bool.false_eq_true, if_false, hnl, decide_false, Bool.false_or] at hstep
        simp [t1, t4, t5, indexAddrV, elemIs, hid, hbl, hbe, h0, hkl, hrow3, Port.enc, e1]
        refine selS_intro (fun hd => ?_) (fun hd => ?_)
        · simp [t1, t4, t5, g4]
          refine hskip _ (by simp [t1]) ?_ (by simp) _
          rw [hstep, if_pos (by simpa using hd)]
          simp
        · simp [t1, t4, t5, g4]
          refine hskip _ (by simp [t1]) ?_ (by simp) _
          rw [hstep, if_neg (by simpa using hd)]
          simp [t4]
    · simp [hc]
      simp at hc
      obtain rfl : i = b.ports.length := by omega
      refine he2 _ _ _ ?_
      simp [t4]
      refine hQ _ _ _ (by simp) ?_
      simp [Try.f88, rootPort, rootAt, hok]
      exact decide_eq_decide.2 Iff.rfl

def rootsUpto (n : Net) : Nat → List Int
  | 0 => []
  | i + 1 => rootsUpto n i ++ (match n.bridges[i]? with
    | some b => if (rootPort b).2 then [] else [(i : Int)]
    | none => [])
def roots (n : Net) : List Int := rootsUpto n n.bridges.length
theorem rootsUpto_len (n : Net) : ∀ i, (rootsUpto n i).length ≤ i
  | 0 => by simp [rootsUpto]
  | i + 1 => by
    have := rootsUpto_len n i
    unfold rootsUpto
    rw [List.length_append]
    split
    · split <;> simp <;> omega
    · simp; omega
theorem roots_sz0 {n : Net} (hn : n.sz ≤ 1048576) : (roots n).length ≤ 1048576 := by
  have h1 := rootsUpto_len n n.bridges.length
  have h2 := BridgeS.sz_len n.bridges
  unfold Net.sz at hn
  unfold roots
  omega

theorem implRoots_is {H : Heap} {l : List Lf} {n : Net} (h : RdNet H l n) (hn : n.sz ≤ 1048576) : Runs env 40 [.agg l] H fun v H' => ∃ q fp, v = .w (.lf q) ∧ IsIntS H' q (roots n) fp ∧ Fresh H H' fp := by
  obtain ⟨_, q1, rfl, ⟨a0, rws, rfl, hs, hlen, hat⟩, -⟩ := h
  unfold Net.sz at hn
  have hl0 := BridgeS.sz_len n.bridges
  refine Runs.walk ok40 Try.func40 rfl (by simp [Try.f40]) fun Q hQ => ?_
  simp only [Try.f40, strip, stripL, stripI, stripG, chkT, tagsB, tagsL, tagD, addT, tagA, lookN, tagOp, elmT, ty22, ty24, ty25, ty33, ty54, ty58, ty95, ty122, Nat.reduceEqDiff, if_false, reduceIte, Option.getD_some, Option.getD_none, dstAt, dstOk, Nat.reduceLT, decide_true, if_true]
  simp [Net.enc, builtinV, pureB, lenV]
  refine wpS_loop (fun j tm H' => ∃ i a' fp, i + j = n.bridges.length ∧ tm 9 = .w (.lf (.sl a0 n.bridges.length)) ∧ tm 10 = .int n.bridges.length ∧ tm 11 = .int i ∧ tm 3 = .w (.lf (.sl a' (rootsUpto n i).length)) ∧ Own H' 3 a' ((rootsUpto n i).map encI) fp ∧ Fresh H H' fp) n.bridges.length (by rw [env_K]; omega)
    ⟨0, none, [], by simp, by simp, by simp, by simp, by simp [rootsUpto], Own.nil _ _, Fresh.app _ _ (by simp)⟩ ?_
  rintro j tm H' hj ⟨i, a', fp, hij, t9, t10, t11, t3, ho, ⟨⟨G, rfl⟩, hf⟩⟩ Q' hn' he' hr'
  simp [t9, t10, t11]
  refine selS_intro (fun hc => ?_) (fun hc => ?_)
  · simp at hc
    have hri : i < rws.length := by omega
    obtain ⟨id2, r, bl, rfl, hbl, hbe, hrow⟩ := hs i _ (List.getElem?_eq_getElem hri)
    have hid := blkAt_len hbl
    have he := hat i _ _ (List.getElem?_eq_getElem hri) (List.getElem?_eq_getElem hc)
    have hsz := BridgeS.sz_at (List.getElem_mem hc)
    have e1 := fun G => implRootPort (he.app G) (by omega)
    have hL := he.len
    have hT : rws[i].take rws[i].length = rws[i] := List.take_length
    rw [hL] at hT
    have hlr := rootsUpto_len n i
    have hst : rootsUpto n (i + 1) = rootsUpto n i ++ (if (rootPort n.bridges[i]).2 then [] else [(i : Int)]) := by rw [rootsUpto, List.getElem?_eq_getElem hc]
    have g4 : IntKind.i64.wrap ((i : Int) + 1) = (i : Int) + 1 := wrap64 (by omega) (by omega)
    simp [t9, t10, t11, t3, indexAddrV, elemIs, hid, hbl, hbe, hc, hrow, hL, hT, e1]
    refine selS_intro (fun hd => ?_) (fun hd => ?_)
    · simp at hd
      rw [hd] at hst
      simp [t3]
      refine stpL_append (rows := (rootsUpto n i).map encI) (ys := [[.i .i64 i]]) (ho.app2 _) (Sl.of (by simp)) rfl rfl rfl (by simp) (by simp; omega) (by simp) rfl fun a'' H'' fp'' ho'' hk'' hf'' => ?_
      simp [t9, t10, t11, g4]
      refine hn' (j - 1) _ _ (by omega) ⟨i + 1, a'', fp'', by omega, by simp [t9], by simp [t10], by simp, by simp [hst], ?_, Fresh.grow hf hk'' hf''⟩
      simpa [hst, encI] using ho''
    · simp at hd
      rw [hd] at hst
      simp [t9, t10, t11, t3, g4]
      refine hn' (j - 1) _ _ (by omega) ⟨i + 1, a', fp, by omega, by simp [t9], by simp [t10], by simp, by simp [hst, t3], ?_, Fresh.app _ _ hf⟩
      simpa [hst] using ho.app2 _
  · simp at hc
    obtain rfl : i = n.bridges.length := by omega
    simp [t9, t10, t11]
    refine he' _ _ _ ?_
    simp [t3]
    refine hQ _ _ _ (by simp) ?_
    simp [Try.f40]
    exact IsSl.leave (⟨a', rfl, ho⟩ : IsIntS (H ++ G) (.sl a' (roots n).length) (roots n) fp) (Fresh.app _ _ hf) (by simp [roots])

theorem specRoots_is {H : Heap} {l : List Lf} {n : Net} (h : RdNet H l n) (hn : n.sz ≤ 1048576) : Runs env 41 [.agg l] H fun v H' => ∃ q fp, v = .w (.lf q) ∧ IsIntS H' q (roots n) fp ∧ Fresh H H' fp := by
  obtain ⟨_, q1, rfl, ⟨a0, rws, rfl, hs, hlen, hat⟩, -⟩ := h
  unfold Net.sz at hn
  have hl0 := BridgeS.sz_len n.bridges
  refine Runs.walk ok41 Try.func41 rfl (by simp [Try.f41]) fun Q hQ => ?_
  simp only [Try.f41, strip, stripL, stripI, stripG, chkT, tagsB, tagsL, tagD, addT, tagA, lookN, tagOp, elmT, ty22, ty24, ty25, ty33, ty54, ty58, ty95, ty122, Nat.reduceEqDiff, if_false, reduceIte, Option.getD_some, Option.getD_none, dstAt, dstOk, Nat.reduceLT, decide_true, if_true]
  simp [Net.enc, builtinV, pureB, lenV]
  obtain ⟨H1, hH1⟩ : ∃ H1, H1 = H ++ [some ⟨27, .wr, [[.sl a0 n.bridges.length, q1]]⟩] := ⟨_, rfl⟩
  have hb1 : blkAt H1 H.length = some ⟨27, .wr, [[.sl a0 n.bridges.length, q1]]⟩ := by simp [hH1]
  have hl1 := blkAt_len hb1
  have hs1 : Sl H1 56 a0 rws := by rw [hH1]; exact hs.app _
  have hat1 : ∀ (i : Nat) (row : List Lf) (x : Bridge), rws[i]? = some row → n.bridges[i]? = some x → RdBridge H1 row x := fun i row x h1 h2 => by rw [hH1]; exact (hat i row x h1 h2).app _
  refine wpS_loop (fun j tm H' => ∃ i a' fp, i + j = n.bridges.length ∧ tm 1 = .ptr H.length 0 0 ∧ tm 4 = .int i ∧ tm 3 = .w (.lf (.sl a' (rootsUpto n i).length)) ∧ Own H' 3 a' ((rootsUpto n i).map encI) fp ∧ Fresh H1 H' fp) n.bridges.length (by rw [env_K]; omega)
    ⟨0, some (H.length + 1, 0), [H.length + 1], by simp, by simp, by simp, by simp [rootsUpto], Own.of (by simp [rootsUpto]), ⟨[some ⟨3, .wr, []⟩], by simp [hH1]⟩, by simp [hH1]⟩ ?_
  rintro j tm H' hj ⟨i, a', fp, hij, t1, t4, t3, ho, ⟨⟨G, rfl⟩, hf⟩⟩ Q' hn' he' hr'
  simp [t1, t4, hb1, hl1, builtinV, pureB, lenV]
  refine selS_intro (fun hc => ?_) (fun hc => ?_)
  · simp at hc
    have hri : i < rws.length := by omega
    obtain ⟨id2, r, bl, rfl, hbl, hbe, hrow⟩ := hs1 i _ (List.getElem?_eq_getElem hri)
    have hid := blkAt_len hbl
    have he := hat1 i _ _ (List.getElem?_eq_getElem hri) (List.getElem?_eq_getElem hc)
    have hsz := BridgeS.sz_at (List.getElem_mem hc)
    have e1 := fun G => specRootPort (he.app G) (by omega)
    have hL := he.len
    have hT : rws[i].take rws[i].length = rws[i] := List.take_length
    rw [hL] at hT
    have hlr := rootsUpto_len n i
    have hst : rootsUpto n (i + 1) = rootsUpto n i ++ (if (rootPort n.bridges[i]).2 then [] else [(i : Int)]) := by rw [rootsUpto, List.getElem?_eq_getElem hc]
    have g4 : IntKind.i64.wrap ((i : Int) + 1) = (i : Int) + 1 := wrap64 (by omega) (by omega)
    simp [t1, t4, t3, hb1, hl1, indexAddrV, elemIs, hid, hbl, hbe, hc, hrow, hL, hT, e1]
    refine selS_intro (fun hd => ?_) (fun hd => ?_)
    · simp at hd
      rw [hd] at hst
      simp [t3, t4]
      refine stpL_append (rows := (rootsUpto n i).map encI) (ys := [[.i .i64 i]]) (ho.app2 _) (Sl.of (by simp)) rfl rfl rfl (by simp) (by simp; omega) (by simp) rfl fun a'' H'' fp'' ho'' hk'' hf'' => ?_
      simp [t1, t4, g4]
      refine hn' (j - 1) _ _ (by omega) ⟨i + 1, a'', fp'', by omega, by simp [t1], by simp, by simp [hst], ?_, Fresh.grow hf hk'' hf''⟩
      simpa [hst, encI] using ho''
    · simp at hd
      rw [hd] at hst
      simp [t1, t4, t3, g4]
      refine hn' (j - 1) _ _ (by omega) ⟨i + 1, a', fp, by omega, by simp [t1], by simp, by simp [hst, t3], ?_, Fresh.app _ _ hf⟩
      simpa [hst] using ho
  · simp at hc
    obtain rfl : i = n.bridges.length := by omega
    simp [t1, t4]
    refine he' _ _ _ ?_
    simp [t3]
    refine hQ _ _ _ (by simp) ?_
    have hfr : Fresh H (H1 ++ G) fp := by
      have := Fresh.app H1 G hf
      rw [hH1] at this ⊢
      exact this.base
    simp [Try.f41]
    exact IsSl.leave (⟨a', rfl, ho⟩ : IsIntS (H1 ++ G) (.sl a' (roots n).length) (roots n) fp) hfr (by simp [roots])

def bridgeNew (id ports : Int) : Bridge × Bool := if (decide (1 ≤ id) && decide (id ≤ 9)) && (decide (1 ≤ ports) && decide (ports ≤ 4)) then (⟨id, List.replicate ports.toNat Port.zv⟩, true) else (⟨0, []⟩, false)
theorem Port.zv_ok : Port.zv.ok = true := by decide
theorem bridgeNew_ok {id ports : Int} (h : (bridgeNew id ports).2 = true) : (bridgeNew id ports).1.ok = true := by
  unfold bridgeNew at h ⊢
  split at h
  · rename_i h1
    rw [if_pos h1]
    simp at h1
    have hl : (List.replicate ports.toNat Port.zv).all Port.ok = true := by
      rw [List.all_eq_true]; intro p hp; rw [(List.mem_replicate.1 hp).2]; exact Port.zv_ok
    simp only [Bridge.ok, hl, Bool.true_and, List.length_replicate, Bool.and_eq_true, decide_eq_true_eq]
    omega
  · simp at h

theorem l1Min (H : Heap) (a b : Int) : run env 73 [.int a, .int b] H = some (.int (if a < b then a else b), H) := by
  refine run_walk ok73 Try.func73 rfl (by simp [Try.f73]) fun Q hQ => ?_
  simp only [Try.f73, strip, stripL, stripI, stripG, chkT, tagsB, tagsL, tagD, addT, tagA, lookN, tagOp, elmT, ty22, ty24, ty25, ty33, ty54, ty58, ty95, ty122, Nat.reduceEqDiff, if_false, reduceIte, Option.getD_some, Option.getD_none, dstAt, dstOk, Nat.reduceLT, decide_true, if_true]
  simp
  refine selS_intro (fun h => ?_) (fun h => ?_)
  all_goals (simp; refine hQ _ _ _ (by simp) ?_; simp at h; simp [Try.f73]; omega)

theorem specNew_ok (id ports : Int) : (⟨id, List.replicate (if ports < 5 then ports else 5).toNat Port.zv⟩ : Bridge).ok = (bridgeNew id ports).2 := by
  have hl : ∀ n, (List.replicate n Port.zv).all Port.ok = true := fun n => by
    rw [List.all_eq_true]; intro p hp; rw [(List.mem_replicate.1 hp).2]; exact Port.zv_ok
  by_cases h : (1 ≤ id ∧ id ≤ 9) ∧ 1 ≤ ports ∧ ports ≤ 4
  · have h1 : bridgeNew id ports = (⟨id, List.replicate ports.toNat Port.zv⟩, true) := by unfold bridgeNew; rw [if_pos (by simp; omega)]
    rw [h1, if_pos (by omega)]
    simp only [Bridge.ok, hl, Bool.true_and, List.length_replicate, Bool.and_eq_true, decide_eq_true_eq]
    omega
  · have h1 : bridgeNew id ports = (⟨0, []⟩, false) := by unfold bridgeNew; rw [if_neg (by simp; intros; omega)]
    rw [h1, Bool.eq_false_iff]
    simp only [Bridge.ok, hl, Bool.true_and, List.length_replicate, ne_eq, Bool.and_eq_true, decide_eq_true_eq]
    intro h2
    split at h2 <;> omega
theorem specBridgeNew (H : Heap) (id ports : Int) : Runs env 63 [.int id, .int ports] H fun v H' => ∃ l fp, v = .tup [.agg l, .lf (.b (bridgeNew id ports).2)] ∧ IsBridge H' l (bridgeNew id ports).1 fp ∧ Fresh H H' fp := by
  obtain ⟨n, hn⟩ : ∃ n, n = (if ports < 5 then ports else 5).toNat := ⟨_, rfl⟩
  have hn5 : n ≤ 5 := by rw [hn]; split <;> omega
  obtain ⟨C, hC⟩ : ∃ C : Option Blk, C = some ⟨56, .wr, [[.i .i64 0, .sl none 0]]⟩ := ⟨_, rfl⟩
  have e1 := fun H a b => l1Min H a b
  refine Runs.walk ok63 Try.func63 rfl (by simp [Try.f63]) fun Q hQ => ?_
  simp only [Try.f63, strip, stripL, stripI, stripG, chkT, tagsB, tagsL, tagD, addT, tagA, lookN, tagOp, elmT, ty22, ty24, ty25, ty33, ty54, ty58, ty95, ty122, Nat.reduceEqDiff, if_false, reduceIte, Option.getD_some, Option.getD_none, dstAt, dstOk, Nat.reduceLT, decide_true, if_true]
  simp
  refine wpS_loop (fun j tm H' => ∃ i a' fp G, i + j = n ∧ tm 0 = .int id ∧ tm 1 = .int ports ∧ tm 4 = .ptr H.length 0 0 ∧ tm 6 = .ptr (H.length + 1) 0 0 ∧ tm 7 = .int i ∧ H' = H ++ C :: some ⟨56, .wr, [[.i .i64 id, .sl a' i]]⟩ :: G ∧
      Own (H ++ C :: some ⟨56, .wr, [[.i .i64 id, .sl a' i]]⟩ :: G) 87 a' (List.replicate i Port.z) fp ∧ ∀ k ∈ fp, H.length + 2 ≤ k) n (by rw [env_K]; omega)
    ⟨0, none, [], [], by simp, by simp, by simp, by simp, by simp, by simp, by simp [hC], Own.nil _ _, by simp⟩ ?_
  rintro j tm H' hj ⟨i, a', fp, G, hij, t0, t1, t4, t6, t7, rfl, ho, hfp⟩ Q2 hn2 he2 hr2
  simp [t0, t1, t4, t6, t7, e1]
  refine selS_intro (fun hc => ?_) (fun hc => ?_)
  · simp at hc
    have hin : i < n := by rw [hn]; omega
    have g4 : IntKind.i64.wrap ((i : Int) + 1) = (i : Int) + 1 := wrap64 (by omega) (by omega)
    simp [t0, t1, t4, t6, t7]
    refine stpL_append (rows := List.replicate i Port.z) (ys := [Port.z]) (by simpa using ho.app _) (Sl.of (by simp)) rfl rfl rfl (by simp) (by simp; omega) (by simp) rfl ?_
    intro a2 H2 f2 o2 hk2 hf2
    obtain ⟨G2, rfl, -, -⟩ := Keep.cut (L := [_, _]) hk2 (by intro k hk; have := hfp k hk; simp; omega)
    have lo2 : ∀ k ∈ f2, H.length + 2 ≤ k := fun k hk => by
      rcases hf2 k hk with h | h
      · exact hfp k h
      · simp at h; omega
    have o3 := fun y => o2.keep (Keep.set (id := H.length + 1) _ y) (fun k hk => by have := lo2 k hk; simp; omega)
    simp at o3
    simp [t0, t1, t4, t6, t7, g4]
    refine hn2 (j - 1) _ _ (by omega) ⟨i + 1, a2, f2, G2, by omega, by simp [t0], by simp [t1], by simp [t4], by simp [t6], by simp, rfl, ?_, lo2⟩
    rw [List.replicate_succ']
    exact o3 _
  · simp at hc
    have hin : i = n := by rw [hn]; omega
    subst hin
    have hd : RdBridge (H ++ C :: some ⟨56, .wr, [[.i .i64 id, .sl a' i]]⟩ :: G) [.i .i64 id, .sl a' i] ⟨id, List.replicate i Port.zv⟩ := ⟨a', by simp [Bridge.enc], by simpa [Port.enc] using ho.sl⟩
    have e2 := specBridgeOk_is hd (by simp [Bridge.sz]; omega)
    have hok := specNew_ok id ports
    rw [← hn] at hok
    rw [hok] at e2
    simp [t0, t1, t4, t6, t7]
    refine he2 _ _ _ ?_
    simp [t4, t6, e2]
    refine selS_intro (fun hd => ?_) (fun hd => ?_)
    · simp at hd
      simp [t4, t6, hC]
      refine hQ _ _ _ (by simp) ?_
      have hb : bridgeNew id ports = (⟨0, []⟩, false) := by
        unfold bridgeNew at hd ⊢
        split at hd
        · cases hd
        · rename_i h; rw [if_neg h]
      simp [Try.f63, hb, t4]
      exact ⟨[], ⟨none, rfl, Own.nil _ _⟩, Fresh.refl _⟩
    · simp at hd
      simp [t4, t6, hC]
      refine hQ _ _ _ (by simp) ?_
      have hb : bridgeNew id ports = (⟨id, List.replicate i Port.zv⟩, true) := by
        unfold bridgeNew at hd ⊢
        split at hd
        · rename_i h
          rw [if_pos h]
          simp at h
          have : ports.toNat = i := by rw [hn, if_pos (by omega)]
          rw [this]
        · cases hd
      simp [Try.f63, hb, t4]
      have o5 := fun y => ho.keep (Keep.set (id := H.length) _ y) (fun k hk => by have := hfp k hk; simp; omega)
      simp at o5
      exact IsBridge.leave ⟨a', by simp [Bridge.enc], by simpa [Port.enc] using o5 _⟩ (Fresh.app H _ fun k hk => by have := hfp k hk; omega) (by simp)

/-- Bridges that can be come to by the links that are wanted. -/
inductive Conn (n : Net) (W : Nat → Bool) (s : Nat) : Nat → Prop where
  | base : Conn n W s s
  | fwd {k : Nat} {l : Link} : n.links[k]? = some l → W k = true → Conn n W s l.a.toNat → Conn n W s l.b.toNat
  | bwd {k : Nat} {l : Link} : n.links[k]? = some l → W k = true → Conn n W s l.b.toNat → Conn n W s l.a.toNat
noncomputable def connB (n : Net) (W : Nat → Bool) (s i : Nat) : Bool := @decide (Conn n W s i) (Classical.propDecidable _)
theorem connB_iff (n : Net) (W : Nat → Bool) (s i : Nat) : connB n W s i = true ↔ Conn n W s i := by unfold connB; exact @decide_eq_true_iff _ (Classical.propDecidable _)
noncomputable def connL (n : Net) (W : Nat → Bool) (s : Nat) : List Bool := (List.range n.bridges.length).map (connB n W s)
def Closed (n : Net) (W : Nat → Bool) (ms : List Bool) : Prop := ∀ (k : Nat) (l : Link), n.links[k]? = some l → W k = true → ms[l.a.toNat]? = ms[l.b.toNat]?
def Sound (n : Net) (W : Nat → Bool) (s : Nat) (ms : List Bool) : Prop := ms.length = n.bridges.length ∧ ms[s]? = some true ∧ ∀ i, ms[i]? = some true → Conn n W s i
theorem conn_done {n : Net} {W : Nat → Bool} {s : Nat} {ms : List Bool} (h : Sound n W s ms) (hc : Closed n W ms) : ms = connL n W s := by
  have key : ∀ i, Conn n W s i → ms[i]? = some true := by
    intro i hi
    induction hi with
    | base => exact h.2.1
    | fwd h1 h2 _ ih => rw [← hc _ _ h1 h2]; exact ih
    | bwd h1 h2 _ ih => rw [hc _ _ h1 h2]; exact ih
  refine List.ext_getElem (by simp [connL, h.1]) fun i h1 h2 => ?_
  simp only [connL, List.getElem_map, List.getElem_range]
  rw [Bool.eq_iff_iff, connB_iff]
  constructor
  · intro hm; exact h.2.2 i (by rw [List.getElem?_eq_getElem h1, hm])
  · intro hcn
    have := key i hcn
    rw [List.getElem?_eq_getElem h1] at this
    injection this
/-- A link's ends are bridges. -/
theorem link_in {n : Net} (hp : n.P) {k : Nat} {l : Link} (h : n.links[k]? = some l) : 0 ≤ l.a ∧ l.a.toNat < n.bridges.length ∧ 0 ≤ l.b ∧ l.b.toNat < n.bridges.length := by
  obtain ⟨-, ⟨i, _, b, e1, -, e3, -⟩, ⟨i', _, b', f1, -, f3, -⟩⟩ := hp.2.2.2.2.1 l (List.mem_of_getElem? h)
  have h1 := (List.getElem?_eq_some_iff.1 e3).1
  have h2 := (List.getElem?_eq_some_iff.1 f3).1
  omega
/-- What one link does. -/
def both (l : Link) (ms : List Bool) : List Bool := (ms.set l.a.toNat true).set l.b.toNat true
theorem both_sound {n : Net} {W : Nat → Bool} {s k : Nat} {l : Link} {ms : List Bool} (h : Sound n W s ms) (hl : n.links[k]? = some l) (hw : W k = true) (hm : ms[l.a.toNat]? = some true ∨ ms[l.b.toNat]? = some true) : Sound n W s (both l ms) := by
  have hconn : Conn n W s l.a.toNat ∧ Conn n W s l.b.toNat := by
    rcases hm with hm | hm
    · have := h.2.2 _ hm; exact ⟨this, .fwd hl hw this⟩
    · have := h.2.2 _ hm; exact ⟨.bwd hl hw this, this⟩
  refine ⟨by simp [both, h.1], ?_, fun i hi => ?_⟩
  · have hs := h.2.1
    have hlt := (List.getElem?_eq_some_iff.1 hs).1
    unfold both
    rw [List.getElem?_set]
    split
    · rename_i e; subst e; simp [hlt]
    · rw [List.getElem?_set]
      split
      · rename_i e; subst e; simp [hlt]
      · exact hs
  · unfold both at hi
    rw [List.getElem?_set] at hi
    split at hi
    · rename_i e; subst e; exact hconn.2
    · rw [List.getElem?_set] at hi
      split at hi
      · rename_i e; subst e; exact hconn.1
      · exact h.2.2 i hi
/-- How many are not marked. -/
def unm (ms : List Bool) : Nat := ms.count false
theorem set_unm {ms : List Bool} {i : Nat} : unm (ms.set i true) ≤ unm ms := by
  unfold unm
  induction ms generalizing i with
  | nil => simp
  | cons x xs ih =>
    cases i with
    | zero => cases x <;> simp [List.count_cons]
    | succ i => have := ih (i := i); simp only [List.set_cons_succ, List.count_cons]; omega
theorem set_unm_lt {ms : List Bool} {i : Nat} (h : ms[i]? = some false) : unm (ms.set i true) < unm ms := by
  unfold unm
  induction ms generalizing i with
  | nil => simp at h
  | cons x xs ih =>
    cases i with
    | zero => simp at h; subst h; simp [List.count_cons]
    | succ i => have := ih (i := i) (by simpa using h); simp only [List.set_cons_succ, List.count_cons]; omega
theorem set_same {ms : List Bool} {i : Nat} (h : ms[i]? = some true) : ms.set i true = ms := by
  refine List.ext_getElem? fun j => ?_
  rw [List.getElem?_set]
  split
  · rename_i e; subst e; rw [h, if_pos (List.getElem?_eq_some_iff.1 h).1]
  · rfl
theorem both_lt {n : Net} (hp : n.P) {k : Nat} {l : Link} {ms : List Bool} (hl : n.links[k]? = some l) (hlen : ms.length = n.bridges.length) (hm : ms[l.a.toNat]? ≠ ms[l.b.toNat]?) : unm (both l ms) < unm ms := by
  obtain ⟨h1, h2, h3, h4⟩ := link_in hp hl
  rw [← hlen] at h2 h4
  rw [List.getElem?_eq_getElem h2, List.getElem?_eq_getElem h4] at hm
  unfold both
  by_cases ha : ms[l.a.toNat] = true
  · have hb : ms[l.b.toNat] = false := by
      cases hx : ms[l.b.toNat] with
      | false => rfl
      | true => rw [ha, hx] at hm; exact absurd rfl hm
    have e : ms.set l.a.toNat true = ms := set_same (by rw [List.getElem?_eq_getElem h2, ha])
    rw [e]
    exact set_unm_lt (by rw [List.getElem?_eq_getElem h4, hb])
  · have ha : ms[l.a.toNat] = false := by simpa using ha
    have := set_unm_lt (ms := ms) (i := l.a.toNat) (by rw [List.getElem?_eq_getElem h2, ha])
    have := set_unm (ms := ms.set l.a.toNat true) (i := l.b.toNat)
    omega
theorem both_same {l : Link} {ms : List Bool} (ha : ms[l.a.toNat]? = some true) (hb : ms[l.b.toNat]? = some true) : both l ms = ms := by
  unfold both
  rw [set_same ha, set_same hb]

theorem reachM {H : Heap} {id : Nat} {l : List Lf} {n : Net} (hb : blkAt H id = some ⟨27, .wr, [l]⟩) (h : RdNet H l n) (hn : n.sz ≤ 1048576) (hp : n.P) {s : Nat} (hs : s < n.bridges.length) {W : Nat → Bool} {fv : Nat} {f1 f2 : List (Nat × Nat × Nat)}
    (hW : ∀ (G : Heap) (k : Nat), k < n.links.length → callV (run env) (H ++ G) (.w (.lf (.fn fv f1 f2))) [.int k] = some (.bool (W k), H ++ G)) :
    Runs env 83 [.ptr id 0 0, .int s, .w (.lf (.fn fv f1 f2))] H fun v H' => ∃ q fp, v = .w (.lf q) ∧ IsBoolS H' q (connL n W s) fp ∧ Fresh H H' fp := by
  obtain ⟨_, _, rfl, ⟨a0, rws, rfl, hs0, hlen, hat⟩, ⟨c, rfl, hc1⟩⟩ := h
  unfold Net.sz at hn
  have hbl0 := BridgeS.sz_len n.bridges
  have hid0 := blkAt_len hb
  have k1 : (n.bridges.length : Int) ≤ 281474976710656 := by omega
  have k2 : (n.bridges.length : Int) ≤ 9223372036854775807 := by omega
  have hsi : (s : Int) < n.bridges.length := by omega
  refine Runs.walk ok83 Try.func83 rfl (by simp [Try.f83]) fun Q hQ => ?_
  simp only [Try.f83, strip, stripL, stripI, stripG, chkT, tagsB, tagsL, tagD, addT, tagA, lookN, tagOp, elmT, ty22, ty24, ty25, ty33, ty54, ty58, ty95, ty122, Nat.reduceEqDiff, if_false, reduceIte, Option.getD_some, Option.getD_none, dstAt, dstOk, Nat.reduceLT, decide_true, if_true]
  have hrep : (List.replicate n.bridges.length [Lf.b false])[s]? = some [Lf.b false] := by simp [hs]
  simp [hb, hid0, Net.enc, builtinV, pureB, lenV, makeSliceV, makeSliceR, newBlk, k1, k2, indexAddrV, elemIs, hs, hsi, hrep]
  have hms0 : ((List.replicate n.bridges.length false).set s true).map encB = (List.replicate n.bridges.length [Lf.b false]).set s [Lf.b true] := by
    rw [List.map_set]; simp [encB]
  refine wpS_loop (fun j tm H' => ∃ ms T more, tm 0 = .ptr id 0 0 ∧ tm 2 = .w (.lf (.fn fv f1 f2)) ∧ tm 7 = .sl H.length 0 n.bridges.length ∧ tm 8 = .bool more ∧ H' = H ++ some ⟨4, .wr, ms.map encB⟩ :: T ∧ Sound n W s ms ∧ ((more = true ∧ unm ms + 1 ≤ j) ∨ (more = false ∧ Closed n W ms))) (n.bridges.length + 1) (by rw [env_K]; omega)
    ⟨(List.replicate n.bridges.length false).set s true, [], true, by simp, by simp, by simp, by simp, by rw [hms0], ⟨by simp, by simp [hs], fun i hi => ?_⟩, .inl ⟨rfl, ?_⟩⟩ ?_
  · by_cases he : s = i
    · subst he; exact .base
    · rw [List.getElem?_set_ne he] at hi
      have := List.mem_of_getElem? hi
      rw [List.mem_replicate] at this
      simp at this
  · have := set_unm (ms := List.replicate n.bridges.length false) (i := s)
    have h2 : unm (List.replicate n.bridges.length false) ≤ n.bridges.length := by unfold unm; simpa using List.count_le_length (a := false) (l := List.replicate n.bridges.length false)
    omega
  rintro j tm H' hj ⟨ms, T, more, t0, t2, t7, t8, rfl, hso, hmo⟩ Q2 hn2 he2 hr2
  simp [t0, t2, t7, t8]
  cases more
  · simp
    refine he2 _ _ _ ?_
    simp [t7]
    refine hQ _ _ _ (by simp) ?_
    have hcl : Closed n W ms := by simpa using hmo
    have hms := conn_done hso hcl
    simp [Try.f83]
    have hI : IsBoolS (H ++ some ⟨4, .wr, ms.map encB⟩ :: T) (.sl (some (H.length, 0)) n.bridges.length) (connL n W s) [H.length] := by
      rw [← hms]
      exact ⟨some (H.length, 0), by rw [hso.1], Own.of (by simp)⟩
    exact IsSl.leave hI (Fresh.app H _ (by simp)) (by simp [refFree])
  simp at hmo
  have hbT := fun T => blkAt_app hb T
  simp [t0, t2, t7, hbT, Net.enc, builtinV, pureB, lenV]
  refine wpS_loop (fun j2 tm H' => ∃ i ms2 T more, i + j2 = n.links.length ∧ tm 0 = .ptr id 0 0 ∧ tm 2 = .w (.lf (.fn fv f1 f2)) ∧ tm 7 = .sl H.length 0 n.bridges.length ∧ tm 8 = .bool more ∧ tm 24 = .w (.lf (.sl c n.links.length)) ∧ tm 25 = .int n.links.length ∧ tm 26 = .int i ∧ H' = H ++ some ⟨4, .wr, ms2.map encB⟩ :: T ∧ Sound n W s ms2 ∧
      ((more = true ∧ unm ms2 < unm ms) ∨ (more = false ∧ ms2 = ms ∧ ∀ (k : Nat) (l : Link), k < i → n.links[k]? = some l → W k = true → ms[l.a.toNat]? = ms[l.b.toNat]?))) n.links.length (by rw [env_K]; omega)
    ⟨0, ms, T, false, by simp, by simp [t0], by simp [t2], by simp [t7], by simp, by simp, by simp, by simp, rfl, hso, .inr ⟨rfl, rfl, by simp⟩⟩ ?_
  rintro j2 tm H' hj2 ⟨i, ms2, T2, more, hij, t0, t2, t7, t8, t24, t25, t26, rfl, hso2, hmo2⟩ Q3 hn3 he3 hr3
  simp [t0, t2, t7, t8, t24, t25, t26]
  refine selS_intro (fun hc => ?_) (fun hc => ?_)
  · simp at hc
    obtain ⟨id2, r, bl, rfl, hbl, hbe, hrow⟩ := hc1 i _ (by simp [hc]; rfl)
    have hid := blkAt_len hbl
    have g4 : IntKind.i64.wrap ((i : Int) + 1) = (i : Int) + 1 := wrap64 (by omega) (by omega)
    have hlk : n.links[i]? = some n.links[i] := List.getElem?_eq_getElem hc
    obtain ⟨L, hL⟩ : ∃ L, L = n.links[i] := ⟨_, rfl⟩
    rw [← hL] at hlk
    obtain ⟨la0, la1, lb0, lb1⟩ := link_in hp hlk
    have la2 : L.a < (n.bridges.length : Int) := by omega
    have lb2 : L.b < (n.bridges.length : Int) := by omega
    have hla : L.a.toNat < ms2.length := by rw [hso2.1]; exact la1
    have hlb : L.b.toNat < ms2.length := by rw [hso2.1]; exact lb1
    have hw := fun G => hW G i hc
    have step : ∀ tm' : Ab.T, tm' 0 = .ptr id 0 0 → tm' 2 = .w (.lf (.fn fv f1 f2)) → tm' 7 = .sl H.length 0 n.bridges.length → tm' 24 = .w (.lf (.sl (some (id2, r)) n.links.length)) → tm' 25 = .int n.links.length → tm' 26 = .int ((i : Int) + 1) →
        (tm' 8 = .bool more → (W i = true → ms2[L.a.toNat]? = ms2[L.b.toNat]?) → ∀ T', Q3 .normal tm' (H ++ some ⟨4, .wr, ms2.map encB⟩ :: T')) := by
      intro tm' a0 a2 a7 a24 a25 a26 a8 hx T'
      refine hn3 (j2 - 1) _ _ (by omega) ⟨i + 1, ms2, T', more, by omega, a0, a2, a7, a8, a24, a25, by simpa using a26, rfl, hso2, ?_⟩
      rcases hmo2 with h1 | ⟨h1, h2, h3⟩
      · exact .inl h1
      · refine .inr ⟨h1, h2, fun k l hk hl hwk => ?_⟩
        rcases Nat.lt_or_ge k i with hlt | hge
        · exact h3 k l hlt hl hwk
        · obtain rfl : k = i := by omega
          rw [hlk] at hl
          injection hl with hl
          subst hl
          rw [← h2]; exact hx hwk
    simp [t0, t2, t7, t8, t24, t25, t26, indexAddrV, elemIs, hid, hbl, hbe, hc, hrow, ← hL, Link.enc, hw]
    refine gdL_t (fun hd => ?_) (fun hd => ?_)
    · simp [hd, t7, indexAddrV, elemIs, la0, la2, lb0, lb2, hla, hlb, encB]
      refine selS_intro (fun he => ?_) (fun he => ?_)
      · have hne : ms2[L.a.toNat]? ≠ ms2[L.b.toNat]? := by
          rw [List.getElem?_eq_getElem hla, List.getElem?_eq_getElem hlb]
          intro hx
          injection hx with hx
          simp [hx] at he
        have hor : ms2[L.a.toNat]? = some true ∨ ms2[L.b.toNat]? = some true := by
          rw [List.getElem?_eq_getElem hla, List.getElem?_eq_getElem hlb] at hne ⊢
          cases hx : ms2[L.a.toNat] <;> cases hy : ms2[L.b.toNat] <;> simp_all
        have hbs := both_sound hso2 hlk hd hor
        have hlt := both_lt hp hlk hso2.1 hne
        have hle : unm ms2 ≤ unm ms := by
          rcases hmo2 with h1 | ⟨-, h2, -⟩
          · omega
          · rw [h2]; exact Nat.le_refl _
        have hx2 : ((ms2.map encB).set L.a.toNat [Lf.b true])[L.b.toNat]'(by simpa using hlb) = [Lf.b (if L.a.toNat = L.b.toNat then true else ms2[L.b.toNat])] := by
          rw [List.getElem_set]
          split <;> simp [encB]
        simp [t0, t2, t7, t24, t25, t26, indexAddrV, elemIs, la0, la2, lb0, lb2, hla, hlb, encB, hx2, g4]
        refine hn3 (j2 - 1) _ _ (by omega) ⟨i + 1, both L ms2, T2 ++ [some ⟨50, .wr, [[.i .i64 L.a, .i .i64 L.p, .i .i64 L.b, .i .i64 L.q]]⟩], true, by omega, by simp [t0], by simp [t2], by simp [t7], by simp, by simp [t24], by simp [t25], by simp, ?_, hbs, .inl ⟨rfl, by omega⟩⟩
        simp [both, List.map_set, encB]
      · simp [t0, t2, t7, t8, t24, t25, t26, g4]
        refine step _ (by simp [t0]) (by simp [t2]) (by simp [t7]) (by simp [t24]) (by simp [t25]) (by simp) (by simp [t8]) (fun _ => ?_) _
        rw [List.getElem?_eq_getElem hla, List.getElem?_eq_getElem hlb]
        simpa using he
    · simp [hd, t0, t2, t7, t8, t24, t25, t26, g4]
      refine step _ (by simp [t0]) (by simp [t2]) (by simp [t7]) (by simp [t24]) (by simp [t25]) (by simp) (by simp [t8]) (fun hx => by rw [hd] at hx; cases hx) _
  · simp at hc
    simp [t0, t2, t7, t8, t24, t25, t26]
    refine he3 _ _ _ ?_
    simp
    rcases hmo2 with ⟨rfl, h2⟩ | ⟨rfl, h2, h3⟩
    · exact hn2 (j - 1) _ _ (by omega) ⟨ms2, T2, true, by simp [t0], by simp [t2], by simp [t7], by simp [t8], rfl, hso2, .inl ⟨rfl, by omega⟩⟩
    · refine hn2 (j - 1) _ _ (by omega) ⟨ms2, T2, false, by simp [t0], by simp [t2], by simp [t7], by simp [t8], rfl, hso2, .inr ⟨rfl, ?_⟩⟩
      intro k l hl hw
      rw [h2]
      exact h3 k l (by have := (List.getElem?_eq_some_iff.1 hl).1; omega) hl hw

/-- What a link is wanted for: all links but one, or those that pass. -/
noncomputable def wantS (n : Net) (all : Bool) (w : Int) (k : Nat) : Bool := !decide ((k : Int) = w) && (all || passes n k)
def idxL (ms : List Bool) : Nat → List Int
  | 0 => []
  | i + 1 => idxL ms i ++ (if ms[i]? = some true then [(i : Int)] else [])
theorem idxL_len (ms : List Bool) : ∀ i, (idxL ms i).length ≤ i
  | 0 => by simp [idxL]
  | i + 1 => by
    have := idxL_len ms i
    unfold idxL
    rw [List.length_append]
    split <;> simp <;> omega
theorem conn_least {n : Net} {W : Nat → Bool} {s : Nat} {ms ms2 : List Bool} (h : Sound n W s ms2) (hm : ms = connL n W s) : unm ms ≤ unm ms2 := by
  have key : ∀ (xs ys : List Bool), xs.length = ys.length → (∀ i : Nat, ys[i]? = some true → xs[i]? = some true) → unm xs ≤ unm ys := by
    intro xs
    induction xs with
    | nil => intro ys _ _; simp [unm]
    | cons x xs ih =>
      intro ys hl hk
      cases ys with
      | nil => simp at hl
      | cons y ys =>
        have h1 := ih ys (by simpa using hl) (fun i hi => by have := hk (i + 1) (by simpa using hi); simpa using this)
        have h2 := hk 0
        unfold unm at *
        cases x <;> cases y <;> simp_all [List.count_cons] <;> omega
  refine key _ _ (by rw [hm, h.1]; simp [connL]) fun i hi => ?_
  have hlt := (List.getElem?_eq_some_iff.1 hi).1
  have hc := h.2.2 i hi
  rw [h.1] at hlt
  rw [hm]
  simp [connL, hlt, connB_iff, hc]
noncomputable def reachL (n : Net) (s : Nat) (W : Nat → Bool) : List Int := idxL (connL n W s) n.bridges.length
theorem reachL_len (n : Net) (s : Nat) (W : Nat → Bool) : (reachL n s W).length ≤ n.bridges.length := idxL_len _ _
noncomputable def reach (n : Net) (s : Int) (all : Bool) : List Int := if n.ok && (decide (0 ≤ s) && decide (s < (n.bridges.length : Int))) then reachL n s.toNat (wantS n all (-1)) else []
theorem reach_sz0 {n : Net} (hn : n.sz ≤ 1048576) (s : Int) (all : Bool) : (reach n s all).length ≤ 1048576 := by
  have h2 := BridgeS.sz_len n.bridges
  unfold Net.sz at hn
  unfold reach
  split
  · have := reachL_len n s.toNat (wantS n all (-1)); omega
  · simp
theorem connL_len (n : Net) (W : Nat → Bool) (s : Nat) : (connL n W s).length = n.bridges.length := by simp [connL]

theorem l11ReachM {H : Heap} {l : List Lf} {n : Net} (h : RdNet H l n) (hn : n.sz ≤ 1048576) (hp : n.P) {s : Nat} (hs : s < n.bridges.length) (all : Bool) (w : Int) :
    Runs env 84 [.agg l, .int s, .bool all, .int w] H fun v H' => ∃ q fp, v = .w (.lf q) ∧ IsIntS H' q (reachL n s (wantS n all w)) fp ∧ Fresh H H' fp := by
  have hR := h
  have hn0 := hn
  obtain ⟨_, _, rfl, ⟨a0, rws, rfl, hs0, hlen, hat⟩, ⟨c, rfl, hc1⟩⟩ := h
  unfold Net.sz at hn
  have hbl0 := BridgeS.sz_len n.bridges
  have k1 : (n.bridges.length : Int) ≤ 281474976710656 := by omega
  have k2 : (n.bridges.length : Int) ≤ 9223372036854775807 := by omega
  have hsi : (s : Int) < n.bridges.length := by omega
  refine Runs.walk ok84 Try.func84 rfl (by simp [Try.f84]) fun Q hQ => ?_
  simp only [Try.f84, strip, stripL, stripI, stripG, chkT, tagsB, tagsL, tagD, addT, tagA, lookN, tagOp, elmT, ty22, ty24, ty25, ty33, ty54, ty58, ty95, ty122, Nat.reduceEqDiff, if_false, reduceIte, Option.getD_some, Option.getD_none, dstAt, dstOk, Nat.reduceLT, decide_true, if_true]
  have hrep : (List.replicate n.bridges.length [Lf.b false])[s]? = some [Lf.b false] := by simp [hs]
  simp [Net.enc, builtinV, pureB, lenV, makeSliceV, makeSliceR, newBlk, k1, k2, indexAddrV, elemIs, hs, hsi, hrep]
  have hms0 : ((List.replicate n.bridges.length false).set s true).map encB = (List.replicate n.bridges.length [Lf.b false]).set s [Lf.b true] := by
    rw [List.map_set]; simp [encB]
  obtain ⟨B, hB⟩ : ∃ B : Option Blk, B = some ⟨27, .wr, [[.sl a0 n.bridges.length, .sl c n.links.length]]⟩ := ⟨_, rfl⟩
  obtain ⟨W, hWd⟩ : ∃ W, W = wantS n all w := ⟨_, rfl⟩
  rw [← hWd] at hQ
  refine wpS_loop (fun j tm H' => ∃ i ms T, i + j = n.bridges.length ∧ tm 2 = .bool all ∧ tm 3 = .int w ∧ tm 4 = .ptr H.length 0 0 ∧ tm 9 = .sl (H.length + 1) 0 n.bridges.length ∧ tm 10 = .int i ∧ H' = H ++ some ⟨27, .wr, [[.sl a0 n.bridges.length, .sl c n.links.length]]⟩ :: some ⟨4, .wr, ms.map encB⟩ :: T ∧ Sound n W s ms ∧ (unm ms + i + 1 ≤ n.bridges.length ∨ Closed n W ms)) n.bridges.length (by rw [env_K]; omega)
    ⟨0, (List.replicate n.bridges.length false).set s true, [], by simp, by simp, by simp, by simp, by simp, by simp, by rw [hms0], ⟨by simp, by simp [hs], fun i hi => ?_⟩, .inl ?_⟩ ?_
  · by_cases he : s = i
    · subst he; exact .base
    · rw [List.getElem?_set_ne he] at hi
      have := List.mem_of_getElem? hi
      rw [List.mem_replicate] at this
      simp at this
  · have hx : (List.replicate n.bridges.length false)[s]? = some false := by simp [hs]
    have := set_unm_lt hx
    have h2 : unm (List.replicate n.bridges.length false) ≤ n.bridges.length := by unfold unm; simpa using List.count_le_length (a := false) (l := List.replicate n.bridges.length false)
    omega
  rintro j tm H' hj ⟨i, ms, T, hij, t2, t3, t4, t9, t10, rfl, hso, hmo⟩ Q2 hn2 he2 hr2
  simp [t2, t3, t4, t9, t10, builtinV, pureB, lenV]
  refine selS_intro (fun hc0 => ?_) (fun hc0 => ?_)
  · simp at hc0
    have g1 : IntKind.i64.wrap ((i : Int) + 1) = (i : Int) + 1 := wrap64 (by omega) (by omega)
    simp [t2, t3, t4, t9, t10]
    refine wpS_loop (fun j2 tm H' => ∃ i2 ms2 T, i2 + j2 = n.links.length ∧ tm 2 = .bool all ∧ tm 3 = .int w ∧ tm 4 = .ptr H.length 0 0 ∧ tm 9 = .sl (H.length + 1) 0 n.bridges.length ∧ tm 10 = .int i ∧ tm 11 = .int i2 ∧ H' = H ++ some ⟨27, .wr, [[.sl a0 n.bridges.length, .sl c n.links.length]]⟩ :: some ⟨4, .wr, ms2.map encB⟩ :: T ∧ Sound n W s ms2 ∧
      (unm ms2 < unm ms ∨ (ms2 = ms ∧ ∀ (k : Nat) (l : Link), k < i2 → n.links[k]? = some l → W k = true → ms[l.a.toNat]? = ms[l.b.toNat]?))) n.links.length (by rw [env_K]; omega)
      ⟨0, ms, T, by simp, by simp [t2], by simp [t3], by simp [t4], by simp [t9], by simp [t10], by simp, rfl, hso, .inr ⟨rfl, by simp⟩⟩ ?_
    rintro j2 tm H' hj2 ⟨i2, ms2, T2, hij2, t2, t3, t4, t9, t10, t11, rfl, hso2, hmo2⟩ Q3 hn3 he3 hr3
    simp [t2, t3, t4, t9, t10, t11, builtinV, pureB, lenV]
    refine selS_intro (fun hc => ?_) (fun hc => ?_)
    · simp at hc
      obtain ⟨id2, r, bl, rfl, hbl, hbe, hrow⟩ := hc1 i2 _ (by simp [hc]; rfl)
      have hid := blkAt_len hbl
      have g4 : IntKind.i64.wrap ((i2 : Int) + 1) = (i2 : Int) + 1 := wrap64 (by omega) (by omega)
      have hlk : n.links[i2]? = some n.links[i2] := List.getElem?_eq_getElem hc
      obtain ⟨L, hL⟩ : ∃ L, L = n.links[i2] := ⟨_, rfl⟩
      rw [← hL] at hlk
      obtain ⟨la0, la1, lb0, lb1⟩ := link_in hp hlk
      have la2 : L.a < (n.bridges.length : Int) := by omega
      have lb2 : L.b < (n.bridges.length : Int) := by omega
      have hla : L.a.toNat < ms2.length := by rw [hso2.1]; exact la1
      have hlb : L.b.toNat < ms2.length := by rw [hso2.1]; exact lb1
      have e1 := fun G => specPasses_is (hR.app G) hn0 (i2 : Int) ⟨by omega, by omega⟩
      simp only [Net.enc] at e1
      have step : ∀ tm' : Ab.T, tm' 2 = .bool all → tm' 3 = .int w → tm' 4 = .ptr H.length 0 0 → tm' 9 = .sl (H.length + 1) 0 n.bridges.length → tm' 10 = .int i → tm' 11 = .int ((i2 : Int) + 1) →
          ((W i2 = true → ms2[L.a.toNat]? = ms2[L.b.toNat]?) → ∀ T', Q3 .normal tm' (H ++ some ⟨27, .wr, [[.sl a0 n.bridges.length, .sl (some (id2, r)) n.links.length]]⟩ :: some ⟨4, .wr, ms2.map encB⟩ :: T')) := by
        intro tm' a2 a3 a4 a9 a10 a11 hx T'
        refine hn3 (j2 - 1) _ _ (by omega) ⟨i2 + 1, ms2, T', by omega, a2, a3, a4, a9, a10, by simpa using a11, rfl, hso2, ?_⟩
        rcases hmo2 with h1 | ⟨h2, h3⟩
        · exact .inl h1
        · refine .inr ⟨h2, fun k l hk hl hwk => ?_⟩
          rcases Nat.lt_or_ge k i2 with hlt | hge
          · exact h3 k l hlt hl hwk
          · obtain rfl : k = i2 := by omega
            rw [hlk] at hl
            injection hl with hl
            subst hl
            rw [← h2]; exact hx hwk
      have stepB : (ms2[L.a.toNat]? = some true ∨ ms2[L.b.toNat]? = some true) → W i2 = true → ∀ tm' : Ab.T, tm' 2 = .bool all → tm' 3 = .int w → tm' 4 = .ptr H.length 0 0 → tm' 9 = .sl (H.length + 1) 0 n.bridges.length → tm' 10 = .int i → tm' 11 = .int ((i2 : Int) + 1) →
          ∀ T' H'', H'' = H ++ some ⟨27, .wr, [[.sl a0 n.bridges.length, .sl (some (id2, r)) n.links.length]]⟩ :: some ⟨4, .wr, (both L ms2).map encB⟩ :: T' → Q3 .normal tm' H'' := by
        intro hor hWi tm' a2 a3 a4 a9 a10 a11 T' H'' hH
        by_cases hne : ms2[L.a.toNat]? = ms2[L.b.toNat]?
        · have h2 : both L ms2 = ms2 := both_same (by rcases hor with h | h; exact h; rw [hne]; exact h) (by rcases hor with h | h; rw [← hne]; exact h; exact h)
          rw [hH, h2]
          exact step tm' a2 a3 a4 a9 a10 a11 (fun _ => hne) T'
        · have hbs := both_sound hso2 hlk hWi hor
          have hlt := both_lt hp hlk hso2.1 hne
          have hle : unm ms2 ≤ unm ms := by
            rcases hmo2 with h1 | ⟨h2, -⟩
            · omega
            · rw [h2]; exact Nat.le_refl _
          exact hn3 (j2 - 1) _ _ (by omega) ⟨i2 + 1, both L ms2, T', by omega, a2, a3, a4, a9, a10, by simpa using a11, hH, hbs, .inl (by omega)⟩
      by_cases hkw : (i2 : Int) = w
      · have hWf : W i2 = false := by rw [hWd]; simp [wantS, hkw]
        subst hkw
        simp [t2, t3, t4, t9, t10, t11, indexAddrV, elemIs, hid, hbl, hbe, hc, hrow, ← hL, Link.enc, g4]
        refine step _ (by simp [t2]) (by simp [t3]) (by simp [t4]) (by simp [t9]) (by simp [t10]) (by simp) (fun hx => by rw [hWf] at hx; cases hx) _
      · by_cases hWi : W i2 = true
        · have hpx : all = false → passes n i2 = true := by
            intro ha
            rw [hWd] at hWi
            simpa [wantS, hkw, ha] using hWi
          have hx2 : ((ms2.map encB).set L.a.toNat [Lf.b true])[L.b.toNat]'(by simpa using hlb) = [Lf.b (if L.a.toNat = L.b.toNat then true else ms2[L.b.toNat])] := by
            rw [List.getElem_set]
            split <;> simp [encB]
          cases all
          all_goals
            simp [t2, t3, t4, t9, t10, t11, indexAddrV, elemIs, hid, hbl, hbe, hc, hrow, ← hL, Link.enc, hkw, e1, hpx, la0, la2, lb0, lb2, hla, hlb, encB]
            refine gdL_f (fun hd => ?_) (fun hd => ?_)
            · simp [hd, t2, t3, t4, t9, t10, t11, indexAddrV, elemIs, la0, la2, lb0, lb2, hla, hlb, encB, hx2, g4]
              refine stepB (.inl (by rw [List.getElem?_eq_getElem hla, hd])) hWi _ (by simp [t2]) (by simp [t3]) (by simp [t4]) (by simp [t9]) (by simp [t10]) (by simp) (T2 ++ [some ⟨50, .wr, [[.i .i64 L.a, .i .i64 L.p, .i .i64 L.b, .i .i64 L.q]]⟩]) _ ?_
              simp [both, List.map_set, encB]
            · simp [hd, t2, t3, t4, t9, t10, t11, indexAddrV, elemIs, la0, la2, lb0, lb2, hla, hlb, encB]
              refine selS_intro (fun he => ?_) (fun he => ?_)
              · simp [t2, t3, t4, t9, t10, t11, indexAddrV, elemIs, la0, la2, lb0, lb2, hla, hlb, encB, hx2, g4]
                refine stepB (.inr (by rw [List.getElem?_eq_getElem hlb, he])) hWi _ (by simp [t2]) (by simp [t3]) (by simp [t4]) (by simp [t9]) (by simp [t10]) (by simp) (T2 ++ [some ⟨50, .wr, [[.i .i64 L.a, .i .i64 L.p, .i .i64 L.b, .i .i64 L.q]]⟩]) _ ?_
                simp [both, List.map_set, encB]
              · simp [t2, t3, t4, t9, t10, t11, g4]
                refine step _ (by simp [t2]) (by simp [t3]) (by simp [t4]) (by simp [t9]) (by simp [t10]) (by simp) (fun _ => ?_) _
                rw [List.getElem?_eq_getElem hla, List.getElem?_eq_getElem hlb, hd, he]
        · have hpx : all = false ∧ passes n i2 = false := by
            rw [hWd] at hWi
            simpa [wantS, hkw] using hWi
          obtain ⟨rfl, hpx⟩ := hpx
          simp [t2, t3, t4, t9, t10, t11, indexAddrV, elemIs, hid, hbl, hbe, hc, hrow, ← hL, Link.enc, hkw, e1, hpx, g4]
          refine step _ (by simp [t2]) (by simp [t3]) (by simp [t4]) (by simp [t9]) (by simp [t10]) (by simp) (fun hx => absurd hx hWi) _
    · simp at hc
      simp [t2, t3, t4, t9, t10, t11]
      refine he3 _ _ _ ?_
      simp [t10, g1]
      refine hn2 (j - 1) _ _ (by omega) ⟨i + 1, ms2, T2, by omega, by simp [t2], by simp [t3], by simp [t4], by simp [t9], by simp, rfl, hso2, ?_⟩
      rcases hmo with hmo | hmo
      · rcases hmo2 with h1 | ⟨h2, h3⟩
        · exact .inl (by omega)
        · refine .inr fun k l hl hw => ?_
          rw [h2]
          exact h3 k l (by have := (List.getElem?_eq_some_iff.1 hl).1; omega) hl hw
      · refine .inr fun k l hl hw => ?_
        have hmc := conn_done hso hmo
        rcases hmo2 with h1 | ⟨h2, h3⟩
        · have hle : unm ms ≤ unm ms2 := conn_least hso2 hmc
          omega
        · rw [h2]
          exact hmo k l hl hw
  · simp at hc0
    obtain rfl : i = n.bridges.length := by omega
    have hcl : Closed n W ms := by
      rcases hmo with h1 | h1
      · omega
      · exact h1
    have hms := conn_done hso hcl
    simp [t2, t3, t4, t9, t10]
    refine he2 _ _ _ ?_
    simp [t9]
    obtain ⟨H1, hH1⟩ : ∃ H1, H1 = H ++ some ⟨27, .wr, [[.sl a0 n.bridges.length, .sl c n.links.length]]⟩ :: some ⟨4, .wr, ms.map encB⟩ :: T := ⟨_, rfl⟩
    have hb1 : blkAt H1 (H.length + 1) = some ⟨4, .wr, ms.map encB⟩ := by simp [hH1]
    have hl1 := blkAt_len hb1
    have hml := hso.1
    refine wpS_loop (fun j tm H' => ∃ i a' fp, i + j = n.bridges.length ∧ tm 9 = .sl (H.length + 1) 0 n.bridges.length ∧ tm 14 = .int i ∧ tm 13 = .w (.lf (.sl a' (idxL ms i).length)) ∧ Own H' 3 a' ((idxL ms i).map encI) fp ∧ Fresh H1 H' fp) n.bridges.length (by rw [env_K]; omega)
      ⟨0, some (H1.length, 0), [H1.length], by simp, by simp [t9], by simp, by simp [idxL, hH1], by rw [hH1]; exact Own.of (by simp [idxL]), ⟨[some ⟨3, .wr, []⟩], by simp [hH1]⟩, by simp⟩ ?_
    rintro j tm H' hj ⟨i, a', fp, hij, t9, t14, t13, ho, ⟨⟨G, rfl⟩, hf⟩⟩ Q' hn' he' hr'
    simp [t9, t14, builtinV, pureB, lenV]
    refine selS_intro (fun hc => ?_) (fun hc => ?_)
    · simp at hc
      have g4 : IntKind.i64.wrap ((i : Int) + 1) = (i : Int) + 1 := wrap64 (by omega) (by omega)
      have him : i < ms.length := by omega
      have hlr := idxL_len ms i
      have hst : idxL ms (i + 1) = idxL ms i ++ (if ms[i] then [(i : Int)] else []) := by rw [idxL, List.getElem?_eq_getElem him]; simp
      simp [t9, t14, t13, hb1, hl1, indexAddrV, elemIs, hc, him, encB]
      refine selS_intro (fun hd => ?_) (fun hd => ?_)
      · rw [hd] at hst
        simp [t13, t14]
        refine stpL_append (rows := (idxL ms i).map encI) (ys := [[.i .i64 i]]) (ho.app2 _) (Sl.of (by simp)) rfl rfl rfl (by simp) (by simp; omega) (by simp) rfl fun a'' H'' fp'' ho'' hk'' hf'' => ?_
        simp [t9, t14, g4]
        refine hn' (j - 1) _ _ (by omega) ⟨i + 1, a'', fp'', by omega, by simp [t9], by simp, by simp [hst], ?_, Fresh.grow hf hk'' hf''⟩
        simpa [hst, encI] using ho''
      · rw [hd] at hst
        simp [t9, t14, t13, g4]
        refine hn' (j - 1) _ _ (by omega) ⟨i + 1, a', fp, by omega, by simp [t9], by simp, by simp [hst, t13], ?_, Fresh.app _ _ hf⟩
        simpa [hst] using ho
    · simp at hc
      obtain rfl : i = n.bridges.length := by omega
      simp [t9, t14]
      refine he' _ _ _ ?_
      simp [t13]
      refine hQ _ _ _ (by simp) ?_
      have hfr : Fresh H (H1 ++ G) fp := by
        have := Fresh.app H1 G hf
        rw [hH1] at this ⊢
        exact this.base
      have hxx : reachL n s W = idxL ms n.bridges.length := by rw [reachL, ← hms]
      simp [Try.f84, hxx]
      exact IsSl.leave (⟨a', rfl, ho⟩ : IsIntS (H1 ++ G) (.sl a' (idxL ms n.bridges.length).length) (idxL ms n.bridges.length) fp) hfr (by simp)

theorem specReach_is {H : Heap} {l : List Lf} {n : Net} (h : RdNet H l n) (hn : n.sz ≤ 1048576) (s : Int) (_ : I64 s) (all : Bool) : Runs env 33 [.agg l, .int s, .bool all] H fun v H' => ∃ q fp, v = .w (.lf q) ∧ IsIntS H' q (reach n s all) fp ∧ Fresh H H' fp := by
  have hR := h
  obtain ⟨_, q1, rfl, ⟨a0, rws, rfl, hs, hlen, hat⟩, ⟨c, rfl, hc1⟩⟩ := h
  have hl0 := BridgeS.sz_len n.bridges
  have hl : n.bridges.length ≤ 1048576 := by unfold Net.sz at hn; omega
  have e1 := fun G => specNetOk_is (hR.app G) hn
  have w1 : IntKind.i64.wrap ((n.bridges.length : Int) - 1) = (n.bridges.length : Int) - 1 := wrap64 (by omega) (by omega)
  simp only [Net.enc] at e1
  refine Runs.walk ok33 Try.func33 rfl (by simp [Try.f33]) fun Q hQ => ?_
  simp only [Try.f33, strip, stripL, stripI, stripG, chkT, tagsB, tagsL, tagD, addT, tagA, lookN, tagOp, elmT, ty22, ty24, ty25, ty33, ty54, ty58, ty95, ty122, Nat.reduceEqDiff, if_false, reduceIte, Option.getD_some, Option.getD_none, dstAt, dstOk, Nat.reduceLT, decide_true, if_true]
  have no : ∀ tm H', (∃ G, H' = H ++ G) → tm 6 = .sl (H.length + 1) 0 0 → reach n s all = [] → blkAt H' (H.length + 1) = some ⟨3, .wr, []⟩ → Q .ret tm H' := by
    rintro tm _ ⟨G, rfl⟩ h6 hx hb
    refine hQ _ _ _ (by simp) ?_
    simp [Try.f33, h6, hx]
    exact IsSl.leave (⟨some (H.length + 1, 0), rfl, Own.of (by simpa using hb)⟩ : IsIntS (H ++ G) (.sl (some (H.length + 1, 0)) 0) [] [H.length + 1]) (Fresh.app H G (by simp)) (by simp [refFree])
  simp [Net.enc, e1]
  refine gdL_f (fun hd => ?_) (fun hd => ?_)
  · simp [hd]
    simp at hd
    refine no _ _ ⟨_, rfl⟩ (by simp) (by simp [reach, hd]) (by simp)
  simp [hd, builtinV, pureB, lenV, w1, l1In]
  simp at hd
  have hp := (Net.ok_iff n).1 hd
  refine selS_intro (fun he => ?_) (fun he => ?_)
  · simp
    simp at he
    refine no _ _ ⟨_, rfl⟩ (by simp) ?_ (by simp)
    unfold reach
    have : (decide (0 ≤ s) && decide (s < (n.bridges.length : Int))) = false := by
      rw [Bool.and_eq_false_iff]
      simp
      omega
    rw [this]; simp
  simp at he
  obtain ⟨s, rfl⟩ : ∃ s' : Nat, s = s' := ⟨s.toNat, by omega⟩
  have hsn : s < n.bridges.length := by omega
  simp
  have hR1 : RdNet (H ++ [some ⟨27, .wr, [[.sl a0 n.bridges.length, .sl c n.links.length]]⟩]) [.sl a0 n.bridges.length, .sl c n.links.length] n := hR.app _
  refine stpL_runs (l11ReachM hR1 hn hp hsn all (-1)) ?_
  rintro _ _ ⟨q, fp, rfl, hi, ⟨⟨G, rfl⟩, hf⟩⟩
  simp
  refine hQ _ _ _ (by simp) ?_
  have hfin : reach n (s : Int) all = reachL n s (wantS n all (-1)) := by
    unfold reach
    rw [hd]
    simp [hsn]
  simp [Try.f33, hfin]
  have hi2 : IsIntS (H ++ some ⟨27, .wr, [[.sl a0 n.bridges.length, .sl c n.links.length]]⟩ :: G) q (reachL n s (wantS n all (-1))) fp := by simpa using hi
  refine IsSl.leave hi2 ⟨⟨_, rfl⟩, fun i hi => ?_⟩ (by simp)
  have := hf i hi
  simp at this
  omega

theorem isAny (H : Heap) (k : Int) : run env 82 [.int k] H = some (.bool true, H) := by
  refine run_walk ok82 Try.func82 rfl (by simp [Try.f82]) fun Q hQ => ?_
  simp only [Try.f82, strip, stripL, stripI, stripG, chkT, tagsB, tagsL, tagD, addT, tagA, lookN, tagOp, elmT, ty22, ty24, ty25, ty33, ty54, ty58, ty95, ty122, Nat.reduceEqDiff, if_false, reduceIte, Option.getD_some, Option.getD_none, dstAt, dstOk, Nat.reduceLT, decide_true, if_true]
  simp
  refine hQ _ _ _ (by simp) ?_
  simp [Try.f82]

theorem implReach_is {H : Heap} {l : List Lf} {n : Net} (h : RdNet H l n) (hn : n.sz ≤ 1048576) (s : Int) (_ : I64 s) (all : Bool) : Runs env 26 [.agg l, .int s, .bool all] H fun v H' => ∃ q fp, v = .w (.lf q) ∧ IsIntS H' q (reach n s all) fp ∧ Fresh H H' fp := by
  have hR := h
  obtain ⟨_, q1, rfl, ⟨a0, rws, rfl, hs, hlen, hat⟩, ⟨c, rfl, hc1⟩⟩ := h
  have hl0 := BridgeS.sz_len n.bridges
  have hl : n.bridges.length ≤ 1048576 := by unfold Net.sz at hn; omega
  have e1 := fun G => implNetOk_is (hR.app G) hn
  have w1 : IntKind.i64.wrap ((n.bridges.length : Int) - 1) = (n.bridges.length : Int) - 1 := wrap64 (by omega) (by omega)
  simp only [Net.enc] at e1
  refine Runs.walk ok26 Try.func26 rfl (by simp [Try.f26]) fun Q hQ => ?_
  simp only [Try.f26, strip, stripL, stripI, stripG, chkT, tagsB, tagsL, tagD, addT, tagA, lookN, tagOp, elmT, ty22, ty24, ty25, ty33, ty54, ty58, ty95, ty122, Nat.reduceEqDiff, if_false, reduceIte, Option.getD_some, Option.getD_none, dstAt, dstOk, Nat.reduceLT, decide_true, if_true]
  have no : ∀ tm H', (∃ G, H' = H ++ G) → tm 6 = .w (.lf (.sl none 0)) → reach n s all = [] → Q .ret tm H' := by
    rintro tm _ ⟨G, rfl⟩ h6 hx
    refine hQ _ _ _ (by simp) ?_
    simp [Try.f26, h6, hx]
    exact ⟨[], ⟨none, rfl, Own.nil _ _⟩, ⟨⟨[], by simp⟩, by simp⟩⟩
  simp [Net.enc, builtinV, pureB, lenV, w1, inRange]
  refine gdL_f (fun hd => ?_) (fun hd => ?_)
  · simp [hd]
    simp at hd
    refine no _ _ ⟨_, rfl⟩ (by simp) ?_
    unfold reach
    have : (decide (0 ≤ s) && decide (s < (n.bridges.length : Int))) = false := by
      rw [Bool.and_eq_false_iff]
      simp
      omega
    rw [this]; simp
  simp [hd, e1]
  simp at hd
  refine selS_intro (fun he => ?_) (fun he => ?_)
  · simp
    simp at he
    exact no _ _ ⟨_, rfl⟩ (by simp) (by simp [reach, he])
  simp at he
  have hp := (Net.ok_iff n).1 he
  obtain ⟨s, rfl⟩ : ∃ s' : Nat, s = s' := ⟨s.toNat, by omega⟩
  have hsn : s < n.bridges.length := by omega
  have hfin : reach n (s : Int) all = reachL n s (wantS n all (-1)) := by
    unfold reach
    rw [he]
    simp [hsn]
  have hR1 : RdNet (H ++ [some ⟨27, .wr, [[.sl a0 n.bridges.length, .sl c n.links.length]]⟩]) [.sl a0 n.bridges.length, .sl c n.links.length] n := hR.app _
  have hb1 : blkAt (H ++ [some ⟨27, .wr, [[.sl a0 n.bridges.length, .sl c n.links.length]]⟩]) H.length = some ⟨27, .wr, [[.sl a0 n.bridges.length, .sl c n.links.length]]⟩ := by simp
  have hw1 : ∀ (G : Heap) (k : Nat), k < n.links.length → callV (run env) ((H ++ [some ⟨27, .wr, [[.sl a0 n.bridges.length, .sl c n.links.length]]⟩]) ++ G) (.w (.lf (.fn 82 [] []))) [.int k] = some (.bool (wantS n true (-1) k), (H ++ [some ⟨27, .wr, [[.sl a0 n.bridges.length, .sl c n.links.length]]⟩]) ++ G) := by
    intro G k hk
    have : wantS n true (-1) k = true := by simp [wantS]
    rw [this]
    simp [isAny]
  have hw2 : ∀ (G : Heap) (k : Nat), k < n.links.length → callV (run env) ((H ++ [some ⟨27, .wr, [[.sl a0 n.bridges.length, .sl c n.links.length]]⟩]) ++ G) (.w (.lf (.fn 81 [(H.length, 0, 0)] []))) [.int k] = some (.bool (wantS n false (-1) k), (H ++ [some ⟨27, .wr, [[.sl a0 n.bridges.length, .sl c n.links.length]]⟩]) ++ G) := by
    intro G k hk
    have e2 := passesM (H := (H ++ [some ⟨27, .wr, [[.sl a0 n.bridges.length, .sl c n.links.length]]⟩]) ++ G) (id := H.length) (l := [.sl a0 n.bridges.length, .sl c n.links.length]) (n := n) (by simp) (hR1.app _) hp k hk
    have : wantS n false (-1) k = passesAt n k := by
      have h1 : ¬ ((k : Int) = -1) := by omega
      have h2 : (k : Int) < (n.links.length : Int) := by omega
      simp [wantS, passes, he, h1, h2]
    rw [this]
    simpa [callV] using e2
  obtain ⟨W, hWW⟩ : ∃ W, W = wantS n all (-1) := ⟨_, rfl⟩
  rw [hfin, ← hWW] at hQ
  have hx1 : all = true → ∀ (G : Heap) (k : Nat), k < n.links.length → callV (run env) ((H ++ [some ⟨27, .wr, [[.sl a0 n.bridges.length, .sl c n.links.length]]⟩]) ++ G) (.w (.lf (.fn 82 [] []))) [.int k] = some (.bool (W k), (H ++ [some ⟨27, .wr, [[.sl a0 n.bridges.length, .sl c n.links.length]]⟩]) ++ G) := by
    intro ha; rw [hWW, ha]; exact hw1
  have hx2 : all = false → ∀ (G : Heap) (k : Nat), k < n.links.length → callV (run env) ((H ++ [some ⟨27, .wr, [[.sl a0 n.bridges.length, .sl c n.links.length]]⟩]) ++ G) (.w (.lf (.fn 81 [(H.length, 0, 0)] []))) [.int k] = some (.bool (W k), (H ++ [some ⟨27, .wr, [[.sl a0 n.bridges.length, .sl c n.links.length]]⟩]) ++ G) := by
    intro ha; rw [hWW, ha]; exact hw2
  clear hWW hfin
  cases all
  all_goals
    simp [funcT, ptrs]
    refine stpL_runs (reachM hb1 hR1 hn hp hsn (W := W) (by first | exact hx1 rfl | exact hx2 rfl)) ?_
    rintro _ H1 ⟨_, fp0, rfl, ⟨b, rfl, hob⟩, hfr⟩
    obtain ⟨ms, hms⟩ : ∃ ms, ms = connL n W s := ⟨_, rfl⟩
    rw [← hms] at hob
    have hml : ms.length = n.bridges.length := by rw [hms]; exact connL_len _ _ _
    have hxx : reachL n s W = idxL ms n.bridges.length := by rw [reachL, ← hms]
    have hsl := hob.sl
    rw [← hms, hml]
    simp [builtinV, pureB, lenV]
    refine wpS_loop (fun j tm H' => ∃ i a' fp, i + j = n.bridges.length ∧ tm 27 = .w (.lf (.sl b n.bridges.length)) ∧ tm 28 = .int n.bridges.length ∧ tm 29 = .int i ∧ tm 8 = .w (.lf (.sl a' (idxL ms i).length)) ∧ Own H' 3 a' ((idxL ms i).map encI) fp ∧ Fresh H1 H' fp) n.bridges.length (by rw [env_K]; omega)
      ⟨0, none, [], by simp, by simp, by simp, by simp, by simp [idxL], Own.nil _ _, ⟨[], by simp⟩, by simp⟩ ?_
    rintro j tm H' hj ⟨i, a', fp, hij, t27, t28, t29, t8, ho, ⟨⟨G, rfl⟩, hf⟩⟩ Q' hn' he' hr'
    simp [t27, t28, t29]
    refine selS_intro (fun hc => ?_) (fun hc => ?_)
    · simp at hc
      have g4 : IntKind.i64.wrap ((i : Int) + 1) = (i : Int) + 1 := wrap64 (by omega) (by omega)
      have him : i < ms.length := by omega
      have hlr := idxL_len ms i
      have hst : idxL ms (i + 1) = idxL ms i ++ (if ms[i] then [(i : Int)] else []) := by rw [idxL, List.getElem?_eq_getElem him]; simp
      obtain ⟨id2, r, bl, rfl, hbl, hbe, hrow⟩ := hsl i [.b ms[i]] (by simp [him, encB])
      have hid := blkAt_len hbl
      simp [t27, t28, t29, t8, indexAddrV, elemIs, hc, hid, hbl, hbe, hrow]
      refine selS_intro (fun hd => ?_) (fun hd => ?_)
      · rw [hd] at hst
        simp [t8]
        refine stpL_append (rows := (idxL ms i).map encI) (ys := [[.i .i64 i]]) (ho.app2 _) (Sl.of (by simp)) rfl rfl rfl (by simp) (by simp; omega) (by simp) rfl fun a'' H'' fp'' ho'' hk'' hf'' => ?_
        simp [t27, t28, t29, g4]
        refine hn' (j - 1) _ _ (by omega) ⟨i + 1, a'', fp'', by omega, by simp [t27], by simp [t28], by simp, by simp [hst], ?_, Fresh.grow hf hk'' hf''⟩
        simpa [hst, encI] using ho''
      · rw [hd] at hst
        simp [t27, t28, t29, t8, g4]
        refine hn' (j - 1) _ _ (by omega) ⟨i + 1, a', fp, by omega, by simp [t27], by simp [t28], by simp, by simp [hst, t8], ?_, Fresh.app _ _ hf⟩
        simpa [hst] using ho
    · simp at hc
      obtain rfl : i = n.bridges.length := by omega
      simp [t27, t28, t29]
      refine he' _ _ _ ?_
      simp [t8]
      obtain ⟨⟨G1, rfl⟩, -⟩ := hfr
      have hfr2 : Fresh H ((H ++ [some ⟨27, .wr, [[.sl a0 n.bridges.length, .sl c n.links.length]]⟩]) ++ G1 ++ G) fp := by
        have := Fresh.app _ G hf
        rw [List.append_assoc, List.append_assoc] at this ⊢
        exact this.base
      refine hQ _ _ _ (by simp) ?_
      simp [Try.f26, hxx]
      have ho2 : Own (H ++ some ⟨27, .wr, [[.sl a0 n.bridges.length, .sl c n.links.length]]⟩ :: (G1 ++ G)) 3 a' ((idxL ms n.bridges.length).map encI) fp := by simpa using ho
      have hfr3 : Fresh H (H ++ some ⟨27, .wr, [[.sl a0 n.bridges.length, .sl c n.links.length]]⟩ :: (G1 ++ G)) fp := by simpa using hfr2
      exact IsSl.leave (⟨a', rfl, ho2⟩ : IsIntS (H ++ some ⟨27, .wr, [[.sl a0 n.bridges.length, .sl c n.links.length]]⟩ :: (G1 ++ G)) (.sl a' (idxL ms n.bridges.length).length) (idxL ms n.bridges.length) fp) hfr3 (by simp)

noncomputable def spanAt (n : Net) (i : Nat) : Bool := decide (connL n (wantS n false (-1)) i = connL n (wantS n true (-1)) i)
noncomputable def spans (n : Net) : Bool := n.ok && (List.range n.bridges.length).all (spanAt n)
theorem conn_mono {n : Net} {W W' : Nat → Bool} {s : Nat} (h : ∀ k, W k = true → W' k = true) {i : Nat} (hc : Conn n W s i) : Conn n W' s i := by
  induction hc with
  | base => exact .base
  | fwd h1 h2 _ ih => exact .fwd h1 (h _ h2) ih
  | bwd h1 h2 _ ih => exact .bwd h1 (h _ h2) ih
theorem idxL_count (ms : List Bool) : ∀ i, i ≤ ms.length → (idxL ms i).length = (ms.take i).count true
  | 0, _ => by simp [idxL]
  | i + 1, h => by
    have := idxL_count ms i (by omega)
    have hi : i < ms.length := by omega
    rw [idxL, List.length_append, this, List.take_add_one, List.count_append, List.getElem?_eq_getElem hi]
    cases ms[i] <;> simp
theorem count_le : ∀ {xs ys : List Bool}, xs.length = ys.length → (∀ i : Nat, xs[i]? = some true → ys[i]? = some true) → xs.count true ≤ ys.count true ∧ (xs.count true = ys.count true → xs = ys)
  | [], ys, h, _ => by
    cases ys with
    | nil => simp
    | cons y ys => simp at h
  | x :: xs, [], h, _ => by simp at h
  | x :: xs, y :: ys, h, hk => by
    have ih := count_le (xs := xs) (ys := ys) (by simpa using h) (fun i hi => by have := hk (i + 1) (by simpa using hi); simpa using this)
    have h0 := hk 0
    cases x <;> cases y <;> simp [List.count_cons] at h0 ⊢
    · exact ih
    · refine ⟨by omega, fun he => ?_⟩
      omega
    · exact ih
theorem reachL_span (n : Net) (i : Nat) : ((reachL n i (wantS n true (-1))).length = (reachL n i (wantS n false (-1))).length) ↔ spanAt n i = true := by
  have l1 := connL_len n (wantS n true (-1)) i
  have l2 := connL_len n (wantS n false (-1)) i
  unfold reachL spanAt
  rw [idxL_count _ _ (by omega), idxL_count _ _ (by omega), List.take_of_length_le (by omega), List.take_of_length_le (by omega), decide_eq_true_iff]
  constructor
  · intro h
    refine (count_le (by omega) fun j hj => ?_).2 h.symm
    have hlt := (List.getElem?_eq_some_iff.1 hj).1
    rw [l2] at hlt
    simp [connL, hlt, connB_iff] at hj ⊢
    exact conn_mono (fun k hk => by simp [wantS]) hj
  · intro h
    rw [h]

theorem specSpans_is {H : Heap} {l : List Lf} {n : Net} (h : RdNet H l n) (hn : n.sz ≤ 1048576) : run env 39 [.agg l] H = some (.bool (spans n), H) := by
  have hR := h
  obtain ⟨_, q1, rfl, ⟨a0, rws, rfl, hs, hlen, hat⟩, ⟨c, rfl, hc1⟩⟩ := h
  have hl0 := BridgeS.sz_len n.bridges
  have hl : n.bridges.length ≤ 1048576 := by unfold Net.sz at hn; omega
  have e1 := fun G => specNetOk_is (hR.app G) hn
  simp only [Net.enc] at e1
  refine run_walk ok39 Try.func39 rfl (by simp [Try.f39]) fun Q hQ => ?_
  simp only [Try.f39, strip, stripL, stripI, stripG, chkT, tagsB, tagsL, tagD, addT, tagA, lookN, tagOp, elmT, ty22, ty24, ty25, ty33, ty54, ty58, ty95, ty122, Nat.reduceEqDiff, if_false, reduceIte, Option.getD_some, Option.getD_none, dstAt, dstOk, Nat.reduceLT, decide_true, if_true]
  have fin : ∀ tm H' b, (∃ G, H' = H ++ G) → tm 2 = .bool b → spans n = b → Q .ret tm H' := by
    rintro tm _ b ⟨G, rfl⟩ h6 hx
    refine hQ _ _ _ (by simp) ?_
    simp [Try.f39, h6, hx]
  simp [Net.enc, e1]
  refine selS_intro (fun hd => ?_) (fun hd => ?_)
  · simp at hd
    simp
    refine fin _ _ false ⟨_, rfl⟩ (by simp) (by simp [spans, hd])
  simp at hd
  have hp := (Net.ok_iff n).1 hd
  simp
  refine wpS_loop (fun j tm H' => ∃ i G, i + j = n.bridges.length ∧ tm 1 = .ptr H.length 0 0 ∧ tm 3 = .int i ∧ H' = H ++ some ⟨27, .wr, [[.sl a0 n.bridges.length, .sl c n.links.length]]⟩ :: G ∧ ∀ k < i, spanAt n k = true) n.bridges.length (by rw [env_K]; omega) ⟨0, [], by simp, by simp, by simp, rfl, by simp⟩ ?_
  rintro j tm H' hj ⟨i, G, hij, t1, t3, rfl, hz⟩ Q2 hn2 he2 hr2
  simp [t1, t3, builtinV, pureB, lenV]
  refine selS_intro (fun hc => ?_) (fun hc => ?_)
  · simp at hc
    have g4 : IntKind.i64.wrap ((i : Int) + 1) = (i : Int) + 1 := wrap64 (by omega) (by omega)
    simp [t1, t3]
    refine stpL_runs_f (l11ReachM (hR.app _) hn hp hc true (-1)) (by rintro _ _ ⟨_, _, _, _, hf⟩; exact hf.1) ?_
    rintro _ _ ⟨_, fp, rfl, ⟨b1, rfl, -⟩, ⟨⟨G1, rfl⟩, -⟩⟩
    simp [t1, t3, builtinV, pureB, lenV]
    refine stpL_runs_f (l11ReachM (hR.app _) hn hp hc false (-1)) (by rintro _ _ ⟨_, _, _, _, hf⟩; exact hf.1) ?_
    rintro _ _ ⟨_, fp, rfl, ⟨b2, rfl, -⟩, ⟨⟨G2, rfl⟩, -⟩⟩
    simp [t1, t3, builtinV, pureB, lenV]
    have hsp := reachL_span n i
    refine selS_intro (fun hd2 => ?_) (fun hd2 => ?_)
    · simp at hd2
      have hd3 : ¬ (reachL n i (wantS n true (-1))).length = (reachL n i (wantS n false (-1))).length := by intro hh; exact hd2 (by rw [hh])
      rw [hsp] at hd3
      simp
      refine hr2 _ _ ?_
      simp
      refine fin _ _ false ⟨_, rfl⟩ (by simp) ?_
      simp only [spans, hd, Bool.true_and]
      rw [List.all_eq_false]
      exact ⟨i, by simpa using hc, hd3⟩
    · simp at hd2
      have hd3 : (reachL n i (wantS n true (-1))).length = (reachL n i (wantS n false (-1))).length := by omega
      rw [hsp] at hd3
      simp [t1, t3, g4]
      refine hn2 (j - 1) _ _ (by omega) ⟨i + 1, G ++ G1 ++ G2, by omega, by simp [t1], by simp, by simp, fun k hk => ?_⟩
      rcases Nat.lt_or_ge k i with h | h
      · exact hz k h
      · obtain rfl : k = i := by omega
        exact hd3
  · simp at hc
    obtain rfl : i = n.bridges.length := by omega
    simp [t1, t3]
    refine he2 _ _ _ ?_
    simp
    refine fin _ _ true ⟨_, rfl⟩ (by simp) ?_
    simp only [spans, hd, Bool.true_and, List.all_eq_true, List.mem_range]
    exact hz

theorem wantAny {n : Net} (H G : Heap) (k : Nat) : callV (run env) (H ++ G) (.w (.lf (.fn 82 [] []))) [.int k] = some (.bool (wantS n true (-1) k), H ++ G) := by
  have : wantS n true (-1) k = true := by simp [wantS]
  rw [this]
  simp [isAny]

theorem wantPass {H : Heap} {id : Nat} {l : List Lf} {n : Net} (hb : blkAt H id = some ⟨27, .wr, [l]⟩) (h : RdNet H l n) (hp : n.P) (G : Heap) (k : Nat) (hk : k < n.links.length) :
    callV (run env) (H ++ G) (.w (.lf (.fn 81 [(id, 0, 0)] []))) [.int k] = some (.bool (wantS n false (-1) k), H ++ G) := by
  have e2 := passesM (H := H ++ G) (id := id) (l := l) (n := n) (blkAt_app hb G) (h.app _) hp k hk
  have : wantS n false (-1) k = passesAt n k := by
    have h1 : ¬ ((k : Int) = -1) := by omega
    have h2 : (k : Int) < (n.links.length : Int) := by omega
    simp [wantS, passes, (Net.ok_iff n).2 hp, h1, h2]
  rw [this]
  simpa [callV] using e2

theorem implSpans_is {H : Heap} {l : List Lf} {n : Net} (h : RdNet H l n) (hn : n.sz ≤ 1048576) : run env 38 [.agg l] H = some (.bool (spans n), H) := by
  have hR := h
  obtain ⟨_, q1, rfl, ⟨a0, rws, rfl, hs, hlen, hat⟩, ⟨c, rfl, hc1⟩⟩ := h
  have hl0 := BridgeS.sz_len n.bridges
  have hl : n.bridges.length ≤ 1048576 := by unfold Net.sz at hn; omega
  have e1 := fun G => implNetOk_is (hR.app G) hn
  simp only [Net.enc] at e1
  refine run_walk ok38 Try.func38 rfl (by simp [Try.f38]) fun Q hQ => ?_
  simp only [Try.f38, strip, stripL, stripI, stripG, chkT, tagsB, tagsL, tagD, addT, tagA, lookN, tagOp, elmT, ty22, ty24, ty25, ty33, ty54, ty58, ty95, ty122, Nat.reduceEqDiff, if_false, reduceIte, Option.getD_some, Option.getD_none, dstAt, dstOk, Nat.reduceLT, decide_true, if_true]
  have fin : ∀ tm H' b, (∃ G, H' = H ++ G) → tm 2 = .bool b → spans n = b → Q .ret tm H' := by
    rintro tm _ b ⟨G, rfl⟩ h6 hx
    refine hQ _ _ _ (by simp) ?_
    simp [Try.f38, h6, hx]
  simp [Net.enc, e1]
  refine selS_intro (fun hd => ?_) (fun hd => ?_)
  · simp at hd
    simp
    refine fin _ _ false ⟨_, rfl⟩ (by simp) (by simp [spans, hd])
  simp at hd
  have hp := (Net.ok_iff n).1 hd
  simp [builtinV, pureB, lenV]
  refine wpS_loop (fun j tm H' => ∃ i G, i + j = n.bridges.length ∧ tm 1 = .ptr H.length 0 0 ∧ tm 12 = .int n.bridges.length ∧ tm 13 = .int i ∧ H' = H ++ some ⟨27, .wr, [[.sl a0 n.bridges.length, .sl c n.links.length]]⟩ :: G ∧ ∀ k < i, spanAt n k = true) n.bridges.length (by rw [env_K]; omega) ⟨0, [], by simp, by simp, by simp, by simp, rfl, by simp⟩ ?_
  rintro j tm H' hj ⟨i, G, hij, t1, t12, t13, rfl, hz⟩ Q2 hn2 he2 hr2
  simp [t1, t12, t13]
  refine selS_intro (fun hc => ?_) (fun hc => ?_)
  · simp at hc
    have g4 : IntKind.i64.wrap ((i : Int) + 1) = (i : Int) + 1 := wrap64 (by omega) (by omega)
    have hb1 : ∀ G, blkAt (H ++ some ⟨27, .wr, [[.sl a0 n.bridges.length, .sl c n.links.length]]⟩ :: G) H.length = some ⟨27, .wr, [[.sl a0 n.bridges.length, .sl c n.links.length]]⟩ := by simp
    have hr1 : ∀ G, RdNet (H ++ G) [.sl a0 n.bridges.length, .sl c n.links.length] n := fun G => hR.app G
    simp [t1, t12, t13, funcT, ptrs]
    refine stpL_runs (reachM (hb1 _) (hr1 _) hn hp hc (W := wantS n false (-1)) (wantPass (hb1 _) (hr1 _) hp)) ?_
    rintro _ _ ⟨_, fp, rfl, ⟨b1, rfl, ho1⟩, ⟨⟨G1, rfl⟩, -⟩⟩
    simp [t1, t12, t13]
    refine stpL_runs (reachM (hb1 _) (hr1 _) hn hp hc (W := wantS n true (-1)) (fun G k _ => wantAny _ G k)) ?_
    rintro _ _ ⟨_, fp2, rfl, ⟨b2, rfl, ho2⟩, ⟨⟨G2, rfl⟩, -⟩⟩
    have hs1 := (ho1.app G2).sl
    have hs2 := ho2.sl
    obtain ⟨ms1, hm1⟩ : ∃ ms, ms = connL n (wantS n false (-1)) i := ⟨_, rfl⟩
    obtain ⟨ms2, hm2⟩ : ∃ ms, ms = connL n (wantS n true (-1)) i := ⟨_, rfl⟩
    have l1 : ms1.length = n.bridges.length := by rw [hm1]; exact connL_len _ _ _
    have l2 : ms2.length = n.bridges.length := by rw [hm2]; exact connL_len _ _ _
    have hsp : spanAt n i = decide (ms1 = ms2) := by unfold spanAt; rw [← hm1, ← hm2]
    rw [← hm1] at hs1 ⊢
    rw [← hm2] at hs2 ⊢
    rw [l1, l2]
    simp at hs1 hs2
    clear ho1 ho2 hm1 hm2
    obtain ⟨H1, hH1⟩ : ∃ H1, H1 = G ++ (G1 ++ G2) := ⟨_, rfl⟩
    simp [t1, t12, t13, builtinV, pureB, lenV]
    rw [← hH1] at hs1 hs2 ⊢
    refine wpS_loop (fun j2 tm H' => ∃ i2, i2 + j2 = n.bridges.length ∧ tm 1 = .ptr H.length 0 0 ∧ tm 12 = .int n.bridges.length ∧ tm 13 = .int i ∧ tm 4 = .w (.lf (.sl b1 n.bridges.length)) ∧ tm 5 = .w (.lf (.sl b2 n.bridges.length)) ∧ tm 22 = .int n.bridges.length ∧ tm 23 = .int i2 ∧ H' = H ++ some ⟨27, .wr, [[.sl a0 n.bridges.length, .sl c n.links.length]]⟩ :: H1 ∧ ∀ k < i2, ms1[k]? = ms2[k]?) n.bridges.length (by rw [env_K]; omega) ⟨0, by simp, by simp [t1], by simp [t12], by simp [t13], by simp, by simp, by simp, by simp, rfl, by simp⟩ ?_
    rintro j2 tm H' hj2 ⟨i2, hij2, t1, t12, t13, t4, t5, t22, t23, rfl, hz2⟩ Q3 hn3 he3 hr3
    simp [t22, t23]
    refine selS_intro (fun hc2 => ?_) (fun hc2 => ?_)
    · simp at hc2
      have g5 : IntKind.i64.wrap ((i2 : Int) + 1) = (i2 : Int) + 1 := wrap64 (by omega) (by omega)
      obtain ⟨id1, r1, bl1, rfl, hbl1, hbe1, hrow1⟩ := hs1 i2 [.b (ms1[i2]'(by omega))] (by rw [List.getElem?_map, List.getElem?_eq_getElem (by omega)]; rfl)
      obtain ⟨id2, r2, bl2, rfl, hbl2, hbe2, hrow2⟩ := hs2 i2 [.b (ms2[i2]'(by omega))] (by rw [List.getElem?_map, List.getElem?_eq_getElem (by omega)]; rfl)
      have hi1 := blkAt_len hbl1
      have hi2 := blkAt_len hbl2
      simp at hi1 hi2
      simp [t1, t12, t13, t4, t5, t22, t23, indexAddrV, elemIs, hc2, hbl1, hbe1, hrow1, hbl2, hbe2, hrow2, hi1, hi2]
      refine selS_intro (fun hd2 => ?_) (fun hd2 => ?_)
      · simp at hd2
        simp
        refine hr3 _ _ ?_
        simp
        refine hr2 _ _ ?_
        simp
        refine fin _ _ false ⟨_, rfl⟩ (by simp) ?_
        have hne : spanAt n i = false := by
          rw [hsp]
          simp
          intro hh
          subst hh
          exact hd2 rfl
        simp only [spans, hd, Bool.true_and]
        rw [List.all_eq_false]
        exact ⟨i, by simpa using hc, by rw [hne]; simp⟩
      · simp at hd2
        simp [t1, t12, t13, t4, t5, t22, t23, g5]
        refine hn3 (j2 - 1) _ _ (by omega) ⟨i2 + 1, by omega, by simp [t1], by simp [t12], by simp [t13], by simp [t4], by simp [t5], by simp [t22], by simp, rfl, fun k hk => ?_⟩
        rcases Nat.lt_or_ge k i2 with h | h
        · exact hz2 k h
        · obtain rfl : k = i2 := by omega
          rw [List.getElem?_eq_getElem (by omega), List.getElem?_eq_getElem (by omega), hd2]
    · simp at hc2
      obtain rfl : i2 = n.bridges.length := by omega
      simp [t1, t12, t13, t4, t5, t22, t23]
      refine he3 _ _ _ ?_
      simp [t1, t12, t13, g4]
      refine hn2 (j - 1) _ _ (by omega) ⟨i + 1, H1, by omega, by simp [t1], by simp [t12], by simp, by simp, fun k hk => ?_⟩
      rcases Nat.lt_or_ge k i with h | h
      · exact hz k h
      · obtain rfl : k = i := by omega
        rw [hsp]
        simp
        refine List.ext_getElem? fun m => ?_
        rcases Nat.lt_or_ge m n.bridges.length with hm | hm
        · exact hz2 m hm
        · rw [List.getElem?_eq_none (by omega), List.getElem?_eq_none (by omega)]
  · simp at hc
    obtain rfl : i = n.bridges.length := by omega
    simp [t1, t12, t13]
    refine he2 _ _ _ ?_
    simp
    refine fin _ _ true ⟨_, rfl⟩ (by simp) ?_
    simp only [spans, hd, Bool.true_and, List.all_eq_true, List.mem_range]
    exact hz

theorem idxL_mem (ms : List Bool) (x : Int) : ∀ i, x ∈ idxL ms i ↔ ∃ j : Nat, j < i ∧ x = j ∧ ms[j]? = some true
  | 0 => by simp [idxL]
  | i + 1 => by
    rw [idxL, List.mem_append, idxL_mem ms x i]
    constructor
    · rintro (⟨j, h1, h2, h3⟩ | h)
      · exact ⟨j, by omega, h2, h3⟩
      · split at h
        · rename_i hm
          simp at h
          exact ⟨i, by omega, h, hm⟩
        · simp at h
    · rintro ⟨j, h1, h2, h3⟩
      rcases Nat.lt_or_ge j i with h | h
      · exact .inl ⟨j, h, h2, h3⟩
      · obtain rfl : j = i := by omega
        rw [if_pos h3]
        exact .inr (by simp [h2])
theorem connL_at {n : Net} {W : Nat → Bool} {s j : Nat} (hj : j < n.bridges.length) : (connL n W s)[j]? = some (connB n W s j) := by simp [connL, hj]
theorem reachL_mem {n : Net} {W : Nat → Bool} {s j : Nat} (hj : j < n.bridges.length) : (j : Int) ∈ reachL n s W ↔ connB n W s j = true := by
  unfold reachL
  rw [idxL_mem]
  constructor
  · rintro ⟨k, h1, h2, h3⟩
    obtain rfl : j = k := by omega
    rw [connL_at hj] at h3
    injection h3
  · intro h
    exact ⟨j, hj, rfl, by rw [connL_at hj, h]⟩
noncomputable def ringAt (n : Net) (k : Nat) : Bool := match n.links[k]? with
  | some l => passesAt n k && connB n (wantS n false k) l.a.toNat l.b.toNat
  | none => false
noncomputable def ringless (n : Net) : Bool := n.ok && (List.range n.links.length).all fun k => !ringAt n k
theorem passes_at {n : Net} (hp : n.P) {k : Nat} (hk : k < n.links.length) : passes n k = passesAt n k := by
  have h2 : (k : Int) < (n.links.length : Int) := by omega
  simp [passes, (Net.ok_iff n).2 hp, h2]

theorem l4Has {H : Heap} {a : Option (Nat × Nat)} {xs : List Int} (h : Sl H 3 a (xs.map encI)) (hn : xs.length ≤ 1048576) (x : Int) :
    run env 86 [.w (.lf (.sl a xs.length)), .int x] H = some (.bool (decide (x ∈ xs)), H) := by
  refine run_walk ok86 Try.func86 rfl (by simp [Try.f86]) fun Q hQ => ?_
  simp only [Try.f86, strip, stripL, stripI, stripG, chkT, tagsB, tagsL, tagD, addT, tagA, lookN, tagOp, elmT, ty22, ty24, ty25, ty33, ty54, ty58, ty95, ty122, Nat.reduceEqDiff, if_false, reduceIte, Option.getD_some, Option.getD_none, dstAt, dstOk, Nat.reduceLT, decide_true, if_true]
  simp
  refine wpS_loop (fun j tm H' => ∃ i, i + j = xs.length ∧ tm 0 = .w (.lf (.sl a xs.length)) ∧ tm 1 = .int x ∧ tm 5 = .int i ∧ H' = H ∧ x ∉ xs.take i) xs.length (by rw [env_K]; omega) ⟨0, by simp, by simp, by simp, by simp, rfl, by simp⟩ ?_
  rintro j tm H' hj ⟨i, hij, t0, t1, t5, rfl, hz⟩ Q2 hn2 he2 hr2
  simp [t0, t1, t5, builtinV, pureB, lenV]
  refine selS_intro (fun hc => ?_) (fun hc => ?_)
  · simp at hc
    obtain ⟨id, r, bl, rfl, hbl, hbe, hrow⟩ := h i _ (by simp [hc]; rfl)
    have g4 : IntKind.i64.wrap ((i : Int) + 1) = (i : Int) + 1 := wrap64 (by omega) (by omega)
    simp [t0, t1, t5, indexAddrV, elemIs, hbl, hbe, hc, hrow, encI]
    refine selS_intro (fun hd => ?_) (fun hd => ?_)
    · simp at hd
      simp
      refine hr2 _ _ ?_
      simp
      refine hQ _ _ _ (by simp) ?_
      simp [Try.f86]
      exact hd ▸ List.getElem_mem hc
    · simp at hd
      simp [t0, t1, t5, g4]
      refine hn2 (j - 1) _ _ (by omega) ⟨i + 1, by omega, by simp [t0], by simp [t1], by simp, rfl, ?_⟩
      rw [List.take_add_one, List.getElem?_eq_getElem hc, List.mem_append]
      rintro (hx | hx)
      · exact hz hx
      · simp at hx; exact hd hx.symm
  · simp at hc
    rw [List.take_of_length_le (by omega)] at hz
    simp [t0, t5]
    refine he2 _ _ _ ?_
    simp
    refine hQ _ _ _ (by simp) ?_
    simp [Try.f86, hz]

theorem specRingless_is {H : Heap} {l : List Lf} {n : Net} (h : RdNet H l n) (hn : n.sz ≤ 1048576) : run env 37 [.agg l] H = some (.bool (ringless n), H) := by
  have hR := h
  obtain ⟨_, q1, rfl, ⟨a0, rws, rfl, hs, hlen, hat⟩, ⟨c, rfl, hc1⟩⟩ := h
  have hl0 := BridgeS.sz_len n.bridges
  have hl : n.bridges.length ≤ 1048576 := by unfold Net.sz at hn; omega
  have hl2 : n.links.length ≤ 1048576 := by unfold Net.sz at hn; omega
  have e1 := fun G => specNetOk_is (hR.app G) hn
  simp only [Net.enc] at e1
  refine run_walk ok37 Try.func37 rfl (by simp [Try.f37]) fun Q hQ => ?_
  simp only [Try.f37, strip, stripL, stripI, stripG, chkT, tagsB, tagsL, tagD, addT, tagA, lookN, tagOp, elmT, ty22, ty24, ty25, ty33, ty54, ty58, ty95, ty122, Nat.reduceEqDiff, if_false, reduceIte, Option.getD_some, Option.getD_none, dstAt, dstOk, Nat.reduceLT, decide_true, if_true]
  have fin : ∀ tm H' b, (∃ G, H' = H ++ G) → tm 2 = .bool b → ringless n = b → Q .ret tm H' := by
    rintro tm _ b ⟨G, rfl⟩ h6 hx
    refine hQ _ _ _ (by simp) ?_
    simp [Try.f37, h6, hx]
  simp [Net.enc, e1]
  refine selS_intro (fun hd => ?_) (fun hd => ?_)
  · simp at hd
    simp
    refine fin _ _ false ⟨_, rfl⟩ (by simp) (by simp [ringless, hd])
  simp at hd
  have hp := (Net.ok_iff n).1 hd
  simp
  refine wpS_loop (fun j tm H' => ∃ i G, i + j = n.links.length ∧ tm 1 = .ptr H.length 0 0 ∧ tm 3 = .int i ∧ H' = H ++ some ⟨27, .wr, [[.sl a0 n.bridges.length, .sl c n.links.length]]⟩ :: G ∧ ∀ k < i, ringAt n k = false) n.links.length (by rw [env_K]; omega) ⟨0, [], by simp, by simp, by simp, rfl, by simp⟩ ?_
  rintro j tm H' hj ⟨i, G, hij, t1, t3, rfl, hz⟩ Q2 hn2 he2 hr2
  simp [t1, t3, builtinV, pureB, lenV]
  refine selS_intro (fun hc => ?_) (fun hc => ?_)
  · simp at hc
    have g4 : IntKind.i64.wrap ((i : Int) + 1) = (i : Int) + 1 := wrap64 (by omega) (by omega)
    obtain ⟨id2, r, bl, rfl, hbl, hbe, hrow⟩ := hc1 i _ (by simp [hc]; rfl)
    have hid := blkAt_len hbl
    have hlk : n.links[i]? = some n.links[i] := List.getElem?_eq_getElem hc
    obtain ⟨L, hL⟩ : ∃ L, L = n.links[i] := ⟨_, rfl⟩
    rw [← hL] at hlk
    obtain ⟨la0, la1, lb0, lb1⟩ := link_in hp hlk
    have e2 := fun G => specPasses_is (hR.app G) hn (i : Int) ⟨by omega, by omega⟩
    simp only [Net.enc, passes_at hp hc] at e2
    have next : ∀ tm' G', tm' 1 = .ptr H.length 0 0 → tm' 3 = .int ((i : Int) + 1) → ringAt n i = false → Q2 .normal tm' (H ++ some ⟨27, .wr, [[.sl a0 n.bridges.length, .sl (some (id2, r)) n.links.length]]⟩ :: G') := by
      intro tm' G' a1 a3 hx
      refine hn2 (j - 1) _ _ (by omega) ⟨i + 1, G', by omega, a1, by simpa using a3, rfl, fun k hk => ?_⟩
      rcases Nat.lt_or_ge k i with h | h
      · exact hz k h
      · obtain rfl : k = i := by omega
        exact hx
    cases hpz : passesAt n i
    · rw [hpz] at e2
      simp [t1, t3, e2, g4]
      refine next _ _ (by simp [t1]) (by simp) (by simp [ringAt, hlk, hpz])
    · rw [hpz] at e2
      simp [t1, t3, e2, indexAddrV, elemIs, hid, hbl, hbe, hc, hrow, ← hL, Link.enc]
      have hla : ((L.a.toNat : Nat) : Int) = L.a := by omega
      have hrr := l11ReachM (hR.app (some ⟨27, .wr, [[.sl a0 n.bridges.length, .sl (some (id2, r)) n.links.length]]⟩ :: G)) hn hp la1 false (i : Int)
      rw [hla] at hrr
      refine stpL_runs_f hrr (by rintro _ _ ⟨_, _, _, _, hf⟩; exact hf.1) ?_
      rintro _ _ ⟨_, fp, rfl, ⟨b1, rfl, ho⟩, ⟨⟨G1, rfl⟩, -⟩⟩
      have hrl := reachL_len n L.a.toNat (wantS n false (i : Int))
      have e3 := l4Has ho.sl (by omega) L.b
      simp only [List.append_assoc, List.cons_append] at e3
      simp [t1, t3, indexAddrV, elemIs, hid, hbl, hbe, hc, hrow, ← hL, Link.enc, e3]
      have hring : ringAt n i = decide (L.b ∈ reachL n L.a.toNat (wantS n false (i : Int))) := by
        have hlb : ((L.b.toNat : Nat) : Int) = L.b := by omega
        have := reachL_mem (n := n) (W := wantS n false (i : Int)) (s := L.a.toNat) lb1
        rw [hlb] at this
        rw [ringAt, hlk]
        simp only [hpz, Bool.true_and]
        rw [Bool.eq_iff_iff, decide_eq_true_iff, this]
      refine selS_intro (fun hd2 => ?_) (fun hd2 => ?_)
      · simp
        refine hr2 _ _ ?_
        simp
        refine fin _ _ false ⟨_, rfl⟩ (by simp) ?_
        simp only [ringless, hd, Bool.true_and]
        rw [List.all_eq_false]
        exact ⟨i, by simpa using hc, by rw [hring, hd2]; simp⟩
      · simp [t1, t3, g4]
        refine next _ _ (by simp [t1]) (by simp) (by rw [hring, hd2])
  · simp at hc
    obtain rfl : i = n.links.length := by omega
    simp [t1, t3]
    refine he2 _ _ _ ?_
    simp
    refine fin _ _ true ⟨_, rfl⟩ (by simp) ?_
    simp only [ringless, hd, Bool.true_and, List.all_eq_true, List.mem_range]
    exact fun k hk => by rw [hz k hk]; rfl

theorem ringless1 {H : Heap} {id id3 : Nat} {l : List Lf} {n : Net} {i : Int} (hb : blkAt H id = some ⟨27, .wr, [l]⟩) (hb3 : blkAt H id3 = some ⟨3, .wr, [[.i .i64 i]]⟩) (h : RdNet H l n) (hp : n.P) (k : Nat) (hk : k < n.links.length) :
    run env 85 [.int k, .ptr id3 0 0, .ptr id 0 0] H = some (.bool (wantS n false i k), H) := by
  have e2 := passesM hb h hp k hk
  have hw : wantS n false i k = (!decide ((k : Int) = i) && passesAt n k) := by simp [wantS, passes_at hp hk]
  rw [hw]
  refine run_walk ok85 Try.func85 rfl (by simp [Try.f85]) fun Q hQ => ?_
  simp only [Try.f85, strip, stripL, stripI, stripG, chkT, tagsB, tagsL, tagD, addT, tagA, lookN, tagOp, elmT, ty22, ty24, ty25, ty33, ty54, ty58, ty95, ty122, Nat.reduceEqDiff, if_false, reduceIte, Option.getD_some, Option.getD_none, dstAt, dstOk, Nat.reduceLT, decide_true, if_true]
  simp [hb3]
  by_cases hki : (k : Int) = i
  · simp [hki]
    refine hQ _ _ _ (by simp) ?_
    simp [Try.f85, hki]
  · simp [hki, e2]
    refine hQ _ _ _ (by simp) ?_
    simp [Try.f85, hki]
end W
end Go.Proofs.Ytjgjjaidpceieaa

/- The functions that this law reaches: what each computes. Conditions: those that each theorem names. -/
import Derived.Test.YtdojljjiekgapaaGreatDoorAbEnvShown
set_option maxRecDepth 100000
set_option maxHeartbeats 4000000
set_option linter.unusedSimpArgs false
set_option linter.unusedVariables false
set_option linter.unnecessarySimpa false
namespace Go.Proofs.YtdojljjiekgapaaGreatDoor
open Go Go.Ab Go.ChangeShapes Go.WideShapes Go.ChangeAt Go.RowKit
namespace W
theorem l1In (H : Heap) (n a b : Int) : run env 30 [.int n, .int a, .int b] H = some (.bool (decide (a ≤ n) && decide (n ≤ b)), H) := by
  refine run_walk ok30 Tryz.func30 rfl (by simp [Tryz.f30]) fun Q hQ => ?_
  simp only [Tryz.f30, strip, stripL, stripI, stripG, chkT, tagsB, tagsL, tagD, addT, tagA, lookN, tagOp, elmT, ty22, ty29, ty33, ty39, ty40, ty41, ty42, ty69, ty71, ty95, Nat.reduceEqDiff, if_false, reduceIte, Option.getD_some, Option.getD_none, dstAt, dstOk, Nat.reduceLT, decide_true, if_true]
  simp
  repeat' (first | (refine gdL_t (fun h => ?_) (fun h => ?_) <;> simp [h]) | (refine gdL_f (fun h => ?_) (fun h => ?_) <;> simp [h]) | (refine selS_intro (fun h => ?_) (fun h => ?_) <;> simp [h]))
  all_goals (refine hQ _ _ _ (by simp) ?_)
  all_goals (clear hQ; simp_all [Tryz.f30] <;> omega)

structure Vec where
  root : Int
  cost : Int
  bridge : Int
  port : Int
  deriving DecidableEq, Inhabited
def Vec.enc (x : Vec) : List Lf := [.i .i64 x.root, .i .i64 x.cost, .i .i64 x.bridge, .i .i64 x.port]
@[simp] theorem Vec.enc_len (x : Vec) : x.enc.length = 4 := rfl
@[simp] theorem Vec.enc_take (x : Vec) : List.take 4 x.enc = x.enc := rfl
@[simp] theorem Vec.enc_drop (x : Vec) : List.drop 4 x.enc = [] := rfl
abbrev Vec.z : List Lf := [.i .i64 0, .i .i64 0, .i .i64 0, .i .i64 0]
abbrev Vec.zv : Vec := ⟨0, 0, 0, 0⟩
theorem Vec.enc_inj {x y : Vec} (h : x.enc = y.enc) : x = y := by
  obtain ⟨_, _, _, _⟩ := x
  obtain ⟨_, _, _, _⟩ := y
  simp [Vec.enc] at h
  simp_all
def Vec.mk' (k : Int) : Vec := ⟨k, k + 1, k + 2, k + 3⟩
theorem Vec.mk'_of {y : Vec} {c : Int} (h0 : y.root = c) (h1 : y.cost = c + 1) (h2 : y.bridge = c + 2) (h3 : y.port = c + 3) : y = Vec.mk' c := by
  rcases y with ⟨w0, v1, v2, v3⟩
  simp only at h0 h1 h2 h3
  subst h0 h1 h2 h3
  rfl

structure Port where
  up : Bool
  has : Bool
  vec : Vec
  hops : Int
  left : Int
  role : Int
  wait : Int
  opn : Bool
  deriving DecidableEq, Inhabited
def Port.enc (x : Port) : List Lf := [.b x.up, .b x.has, .i .i64 x.vec.root, .i .i64 x.vec.cost, .i .i64 x.vec.bridge, .i .i64 x.vec.port, .i .i64 x.hops, .i .i64 x.left, .i .i64 x.role, .i .i64 x.wait, .b x.opn]
@[simp] theorem Port.enc_len (x : Port) : x.enc.length = 11 := rfl
@[simp] theorem Port.enc_take (x : Port) : List.take 11 x.enc = x.enc := rfl
@[simp] theorem Port.enc_drop (x : Port) : List.drop 11 x.enc = [] := rfl
abbrev Port.z : List Lf := [.b false, .b false, .i .i64 0, .i .i64 0, .i .i64 0, .i .i64 0, .i .i64 0, .i .i64 0, .i .i64 0, .i .i64 0, .b false]
abbrev Port.zv : Port := ⟨false, false, ⟨0, 0, 0, 0⟩, 0, 0, 0, 0, false⟩
theorem Port.enc_inj {x y : Port} (h : x.enc = y.enc) : x = y := by
  rcases x with ⟨v0, v1, ⟨v2_0, v2_1, v2_2, v2_3⟩, v3, v4, v5, v6, v7⟩
  rcases y with ⟨w0, v1, ⟨v2_0, v2_1, v2_2, v2_3⟩, v3, v4, v5, v6, v7⟩
  simp [Port.enc] at h
  simp_all
def Port.mk' (k : Int) : Port := ⟨decide ((k).tmod 3 = 0), decide ((k + 1).tmod 3 = 0), ⟨k + 2, k + 3, k + 4, k + 5⟩, k + 6, k + 7, k + 8, k + 9, decide ((k + 10).tmod 3 = 0)⟩
theorem Port.mk'_of {y : Port} {c : Int} (h0 : y.up = decide ((c).tmod 3 = 0)) (h1 : y.has = decide ((c + 1).tmod 3 = 0)) (h2 : y.vec.root = c + 2) (h3 : y.vec.cost = c + 3) (h4 : y.vec.bridge = c + 4) (h5 : y.vec.port = c + 5) (h6 : y.hops = c + 6) (h7 : y.left = c + 7) (h8 : y.role = c + 8) (h9 : y.wait = c + 9) (h10 : y.opn = decide ((c + 10).tmod 3 = 0)) : y = Port.mk' c := by
  rcases y with ⟨w0, v1, ⟨v2_0, v2_1, v2_2, v2_3⟩, v3, v4, v5, v6, v7⟩
  simp only at h0 h1 h2 h3 h4 h5 h6 h7 h8 h9 h10
  subst h0 h1 h2 h3 h4 h5 h6 h7 h8 h9 h10
  rfl

structure In where
  kind : Int
  port : Int
  vec : Vec
  hops : Int
  up : Bool
  deriving DecidableEq, Inhabited
def In.enc (x : In) : List Lf := [.i .i64 x.kind, .i .i64 x.port, .i .i64 x.vec.root, .i .i64 x.vec.cost, .i .i64 x.vec.bridge, .i .i64 x.vec.port, .i .i64 x.hops, .b x.up]
@[simp] theorem In.enc_len (x : In) : x.enc.length = 8 := rfl
@[simp] theorem In.enc_take (x : In) : List.take 8 x.enc = x.enc := rfl
@[simp] theorem In.enc_drop (x : In) : List.drop 8 x.enc = [] := rfl
abbrev In.z : List Lf := [.i .i64 0, .i .i64 0, .i .i64 0, .i .i64 0, .i .i64 0, .i .i64 0, .i .i64 0, .b false]
abbrev In.zv : In := ⟨0, 0, ⟨0, 0, 0, 0⟩, 0, false⟩
theorem In.enc_inj {x y : In} (h : x.enc = y.enc) : x = y := by
  rcases x with ⟨v0, v1, ⟨v2_0, v2_1, v2_2, v2_3⟩, v3, v4⟩
  rcases y with ⟨w0, v1, ⟨v2_0, v2_1, v2_2, v2_3⟩, v3, v4⟩
  simp [In.enc] at h
  simp_all
def In.mk' (k : Int) : In := ⟨k, k + 1, ⟨k + 2, k + 3, k + 4, k + 5⟩, k + 6, decide ((k + 7).tmod 3 = 0)⟩
theorem In.mk'_of {y : In} {c : Int} (h0 : y.kind = c) (h1 : y.port = c + 1) (h2 : y.vec.root = c + 2) (h3 : y.vec.cost = c + 3) (h4 : y.vec.bridge = c + 4) (h5 : y.vec.port = c + 5) (h6 : y.hops = c + 6) (h7 : y.up = decide ((c + 7).tmod 3 = 0)) : y = In.mk' c := by
  rcases y with ⟨w0, v1, ⟨v2_0, v2_1, v2_2, v2_3⟩, v3, v4⟩
  simp only at h0 h1 h2 h3 h4 h5 h6 h7
  subst h0 h1 h2 h3 h4 h5 h6 h7
  rfl

structure Out where
  kind : Int
  port : Int
  vec : Vec
  hops : Int
  on : Bool
  deriving DecidableEq, Inhabited
def Out.enc (x : Out) : List Lf := [.i .i64 x.kind, .i .i64 x.port, .i .i64 x.vec.root, .i .i64 x.vec.cost, .i .i64 x.vec.bridge, .i .i64 x.vec.port, .i .i64 x.hops, .b x.on]
@[simp] theorem Out.enc_len (x : Out) : x.enc.length = 8 := rfl
@[simp] theorem Out.enc_take (x : Out) : List.take 8 x.enc = x.enc := rfl
@[simp] theorem Out.enc_drop (x : Out) : List.drop 8 x.enc = [] := rfl
abbrev Out.z : List Lf := [.i .i64 0, .i .i64 0, .i .i64 0, .i .i64 0, .i .i64 0, .i .i64 0, .i .i64 0, .b false]
abbrev Out.zv : Out := ⟨0, 0, ⟨0, 0, 0, 0⟩, 0, false⟩
theorem Out.enc_inj {x y : Out} (h : x.enc = y.enc) : x = y := by
  rcases x with ⟨v0, v1, ⟨v2_0, v2_1, v2_2, v2_3⟩, v3, v4⟩
  rcases y with ⟨w0, v1, ⟨v2_0, v2_1, v2_2, v2_3⟩, v3, v4⟩
  simp [Out.enc] at h
  simp_all
def Out.mk' (k : Int) : Out := ⟨k, k + 1, ⟨k + 2, k + 3, k + 4, k + 5⟩, k + 6, decide ((k + 7).tmod 3 = 0)⟩
theorem Out.mk'_of {y : Out} {c : Int} (h0 : y.kind = c) (h1 : y.port = c + 1) (h2 : y.vec.root = c + 2) (h3 : y.vec.cost = c + 3) (h4 : y.vec.bridge = c + 4) (h5 : y.vec.port = c + 5) (h6 : y.hops = c + 6) (h7 : y.on = decide ((c + 7).tmod 3 = 0)) : y = Out.mk' c := by
  rcases y with ⟨w0, v1, ⟨v2_0, v2_1, v2_2, v2_3⟩, v3, v4⟩
  simp only at h0 h1 h2 h3 h4 h5 h6 h7
  subst h0 h1 h2 h3 h4 h5 h6 h7
  rfl

structure Reg where
  epoch : Int
  owner : Int
  pair : Int
  deriving DecidableEq, Inhabited
def Reg.enc (x : Reg) : List Lf := [.i .i64 x.epoch, .i .i64 x.owner, .i .i64 x.pair]
@[simp] theorem Reg.enc_len (x : Reg) : x.enc.length = 3 := rfl
@[simp] theorem Reg.enc_take (x : Reg) : List.take 3 x.enc = x.enc := rfl
@[simp] theorem Reg.enc_drop (x : Reg) : List.drop 3 x.enc = [] := rfl
abbrev Reg.z : List Lf := [.i .i64 0, .i .i64 0, .i .i64 0]
abbrev Reg.zv : Reg := ⟨0, 0, 0⟩
theorem Reg.enc_inj {x y : Reg} (h : x.enc = y.enc) : x = y := by
  obtain ⟨_, _, _⟩ := x
  obtain ⟨_, _, _⟩ := y
  simp [Reg.enc] at h
  simp_all
def Reg.mk' (k : Int) : Reg := ⟨k, k + 1, k + 2⟩
theorem Reg.mk'_of {y : Reg} {c : Int} (h0 : y.epoch = c) (h1 : y.owner = c + 1) (h2 : y.pair = c + 2) : y = Reg.mk' c := by
  rcases y with ⟨w0, v1, v2⟩
  simp only at h0 h1 h2
  subst h0 h1 h2
  rfl

structure Wire where
  frm : Int
  ack : Bool
  life : Int
  n : Int
  inn : In
  deriving DecidableEq, Inhabited
def Wire.enc (x : Wire) : List Lf := [.i .i64 x.frm, .b x.ack, .i .i64 x.life, .i .i64 x.n, .i .i64 x.inn.kind, .i .i64 x.inn.port, .i .i64 x.inn.vec.root, .i .i64 x.inn.vec.cost, .i .i64 x.inn.vec.bridge, .i .i64 x.inn.vec.port, .i .i64 x.inn.hops, .b x.inn.up]
@[simp] theorem Wire.enc_len (x : Wire) : x.enc.length = 12 := rfl
@[simp] theorem Wire.enc_take (x : Wire) : List.take 12 x.enc = x.enc := rfl
@[simp] theorem Wire.enc_drop (x : Wire) : List.drop 12 x.enc = [] := rfl
abbrev Wire.z : List Lf := [.i .i64 0, .b false, .i .i64 0, .i .i64 0, .i .i64 0, .i .i64 0, .i .i64 0, .i .i64 0, .i .i64 0, .i .i64 0, .i .i64 0, .b false]
abbrev Wire.zv : Wire := ⟨0, false, 0, 0, ⟨0, 0, ⟨0, 0, 0, 0⟩, 0, false⟩⟩
theorem Wire.enc_inj {x y : Wire} (h : x.enc = y.enc) : x = y := by
  rcases x with ⟨v0, v1, v2, v3, ⟨v4_0, v4_1, ⟨v4_2_0, v4_2_1, v4_2_2, v4_2_3⟩, v4_3, v4_4⟩⟩
  rcases y with ⟨w0, v1, v2, v3, ⟨v4_0, v4_1, ⟨v4_2_0, v4_2_1, v4_2_2, v4_2_3⟩, v4_3, v4_4⟩⟩
  simp [Wire.enc] at h
  simp_all
def Wire.mk' (k : Int) : Wire := ⟨k, decide ((k + 1).tmod 3 = 0), k + 2, k + 3, ⟨k + 4, k + 5, ⟨k + 6, k + 7, k + 8, k + 9⟩, k + 10, decide ((k + 11).tmod 3 = 0)⟩⟩
theorem Wire.mk'_of {y : Wire} {c : Int} (h0 : y.frm = c) (h1 : y.ack = decide ((c + 1).tmod 3 = 0)) (h2 : y.life = c + 2) (h3 : y.n = c + 3) (h4 : y.inn.kind = c + 4) (h5 : y.inn.port = c + 5) (h6 : y.inn.vec.root = c + 6) (h7 : y.inn.vec.cost = c + 7) (h8 : y.inn.vec.bridge = c + 8) (h9 : y.inn.vec.port = c + 9) (h10 : y.inn.hops = c + 10) (h11 : y.inn.up = decide ((c + 11).tmod 3 = 0)) : y = Wire.mk' c := by
  rcases y with ⟨w0, v1, v2, v3, ⟨v4_0, v4_1, ⟨v4_2_0, v4_2_1, v4_2_2, v4_2_3⟩, v4_3, v4_4⟩⟩
  simp only at h0 h1 h2 h3 h4 h5 h6 h7 h8 h9 h10 h11
  subst h0 h1 h2 h3 h4 h5 h6 h7 h8 h9 h10 h11
  rfl

structure Deed where
  kind : Int
  a : Int
  inn : In
  deriving DecidableEq, Inhabited
def Deed.enc (x : Deed) : List Lf := [.i .i64 x.kind, .i .i64 x.a, .i .i64 x.inn.kind, .i .i64 x.inn.port, .i .i64 x.inn.vec.root, .i .i64 x.inn.vec.cost, .i .i64 x.inn.vec.bridge, .i .i64 x.inn.vec.port, .i .i64 x.inn.hops, .b x.inn.up]
@[simp] theorem Deed.enc_len (x : Deed) : x.enc.length = 10 := rfl
@[simp] theorem Deed.enc_take (x : Deed) : List.take 10 x.enc = x.enc := rfl
@[simp] theorem Deed.enc_drop (x : Deed) : List.drop 10 x.enc = [] := rfl
abbrev Deed.z : List Lf := [.i .i64 0, .i .i64 0, .i .i64 0, .i .i64 0, .i .i64 0, .i .i64 0, .i .i64 0, .i .i64 0, .i .i64 0, .b false]
abbrev Deed.zv : Deed := ⟨0, 0, ⟨0, 0, ⟨0, 0, 0, 0⟩, 0, false⟩⟩
theorem Deed.enc_inj {x y : Deed} (h : x.enc = y.enc) : x = y := by
  rcases x with ⟨v0, v1, ⟨v2_0, v2_1, ⟨v2_2_0, v2_2_1, v2_2_2, v2_2_3⟩, v2_3, v2_4⟩⟩
  rcases y with ⟨w0, v1, ⟨v2_0, v2_1, ⟨v2_2_0, v2_2_1, v2_2_2, v2_2_3⟩, v2_3, v2_4⟩⟩
  simp [Deed.enc] at h
  simp_all
def Deed.mk' (k : Int) : Deed := ⟨k, k + 1, ⟨k + 2, k + 3, ⟨k + 4, k + 5, k + 6, k + 7⟩, k + 8, decide ((k + 9).tmod 3 = 0)⟩⟩
theorem Deed.mk'_of {y : Deed} {c : Int} (h0 : y.kind = c) (h1 : y.a = c + 1) (h2 : y.inn.kind = c + 2) (h3 : y.inn.port = c + 3) (h4 : y.inn.vec.root = c + 4) (h5 : y.inn.vec.cost = c + 5) (h6 : y.inn.vec.bridge = c + 6) (h7 : y.inn.vec.port = c + 7) (h8 : y.inn.hops = c + 8) (h9 : y.inn.up = decide ((c + 9).tmod 3 = 0)) : y = Deed.mk' c := by
  rcases y with ⟨w0, v1, ⟨v2_0, v2_1, ⟨v2_2_0, v2_2_1, v2_2_2, v2_2_3⟩, v2_3, v2_4⟩⟩
  simp only at h0 h1 h2 h3 h4 h5 h6 h7 h8 h9
  subst h0 h1 h2 h3 h4 h5 h6 h7 h8 h9
  rfl

def encB (x : Bool) : List Lf := [.b x]
@[simp] theorem encB_len (x : Bool) : (encB x).length = 1 := rfl
@[simp] theorem encB_take (x : Bool) : List.take 1 (encB x) = [.b x] := rfl
def mkB (k : Int) : Bool := decide (k.tmod 3 = 0)
theorem encB_inj {x y : Bool} (h : encB x = encB y) : x = y := by simpa [encB] using h

def encI (x : Int) : List Lf := [.i .i64 x]
@[simp] theorem encI_len (x : Int) : (encI x).length = 1 := rfl
@[simp] theorem encI_take (x : Int) : List.take 1 (encI x) = [.i .i64 x] := rfl
def mkI (k : Int) : Int := k
theorem encI_inj {x y : Int} (h : encI x = encI y) : x = y := by simpa [encI] using h

abbrev IsBoolS := IsSl 4 encB
abbrev RdBoolS := RdSl 4 encB
abbrev RdLBoolS := RdSl 4 encB
def BoolS.mk' (xs : List Bool) (k : Int) : List Bool := marked mkB 1 xs.length k
def BoolS.mkN (xs : List Bool) (k : Int) : Int := k + 1 * xs.length
def BoolS.hd (xs : List Bool) (k : Int) : Int := heldL mkB 1 xs k
theorem BoolS.hd_mk (xs : List Bool) (k : Int) : BoolS.hd (BoolS.mk' xs k) k = BoolS.mkN xs k := by simp [BoolS.hd, BoolS.mk', BoolS.mkN]
theorem BoolS.mk_sz (xs : List Bool) (k : Int) : (BoolS.mk' xs k).length = xs.length := by simp [BoolS.mk']
theorem BoolS.mkN_le {xs : List Bool} {k : Int} (h : xs.length ≤ 1048576) : k ≤ BoolS.mkN xs k ∧ BoolS.mkN xs k ≤ k + 1000000000 := by unfold BoolS.mkN; omega

abbrev IsPortS := IsSl 27 Port.enc
abbrev RdPortS := RdSl 27 Port.enc
abbrev RdLPortS := RdSl 999999 Port.enc
def PortS.mk' (xs : List Port) (k : Int) : List Port := marked Port.mk' 11 xs.length k
def PortS.mkN (xs : List Port) (k : Int) : Int := k + 11 * xs.length
def PortS.hd (xs : List Port) (k : Int) : Int := heldL Port.mk' 11 xs k
theorem PortS.hd_mk (xs : List Port) (k : Int) : PortS.hd (PortS.mk' xs k) k = PortS.mkN xs k := by simp [PortS.hd, PortS.mk', PortS.mkN]
theorem PortS.mk_sz (xs : List Port) (k : Int) : (PortS.mk' xs k).length = xs.length := by simp [PortS.mk']
theorem PortS.mkN_le {xs : List Port} {k : Int} (h : xs.length ≤ 1048576) : k ≤ PortS.mkN xs k ∧ PortS.mkN xs k ≤ k + 1000000000 := by unfold PortS.mkN; omega

abbrev IsInS := IsSl 78 In.enc
abbrev RdInS := RdSl 78 In.enc
abbrev RdLInS := RdSl 999999 In.enc
def InS.mk' (xs : List In) (k : Int) : List In := marked In.mk' 8 xs.length k
def InS.mkN (xs : List In) (k : Int) : Int := k + 8 * xs.length
def InS.hd (xs : List In) (k : Int) : Int := heldL In.mk' 8 xs k
theorem InS.hd_mk (xs : List In) (k : Int) : InS.hd (InS.mk' xs k) k = InS.mkN xs k := by simp [InS.hd, InS.mk', InS.mkN]
theorem InS.mk_sz (xs : List In) (k : Int) : (InS.mk' xs k).length = xs.length := by simp [InS.mk']
theorem InS.mkN_le {xs : List In} {k : Int} (h : xs.length ≤ 1048576) : k ≤ InS.mkN xs k ∧ InS.mkN xs k ≤ k + 1000000000 := by unfold InS.mkN; omega

abbrev IsOutS := IsSl 110 Out.enc
abbrev RdOutS := RdSl 110 Out.enc
abbrev RdLOutS := RdSl 999999 Out.enc
def OutS.mk' (xs : List Out) (k : Int) : List Out := marked Out.mk' 8 xs.length k
def OutS.mkN (xs : List Out) (k : Int) : Int := k + 8 * xs.length
def OutS.hd (xs : List Out) (k : Int) : Int := heldL Out.mk' 8 xs k
theorem OutS.hd_mk (xs : List Out) (k : Int) : OutS.hd (OutS.mk' xs k) k = OutS.mkN xs k := by simp [OutS.hd, OutS.mk', OutS.mkN]
theorem OutS.mk_sz (xs : List Out) (k : Int) : (OutS.mk' xs k).length = xs.length := by simp [OutS.mk']
theorem OutS.mkN_le {xs : List Out} {k : Int} (h : xs.length ≤ 1048576) : k ≤ OutS.mkN xs k ∧ OutS.mkN xs k ≤ k + 1000000000 := by unfold OutS.mkN; omega

abbrev IsWireS := IsSl 82 Wire.enc
abbrev RdWireS := RdSl 82 Wire.enc
abbrev RdLWireS := RdSl 999999 Wire.enc
def WireS.mk' (xs : List Wire) (k : Int) : List Wire := marked Wire.mk' 12 xs.length k
def WireS.mkN (xs : List Wire) (k : Int) : Int := k + 12 * xs.length
def WireS.hd (xs : List Wire) (k : Int) : Int := heldL Wire.mk' 12 xs k
theorem WireS.hd_mk (xs : List Wire) (k : Int) : WireS.hd (WireS.mk' xs k) k = WireS.mkN xs k := by simp [WireS.hd, WireS.mk', WireS.mkN]
theorem WireS.mk_sz (xs : List Wire) (k : Int) : (WireS.mk' xs k).length = xs.length := by simp [WireS.mk']
theorem WireS.mkN_le {xs : List Wire} {k : Int} (h : xs.length ≤ 1048576) : k ≤ WireS.mkN xs k ∧ WireS.mkN xs k ≤ k + 1000000000 := by unfold WireS.mkN; omega

abbrev IsDeedS := IsSl 117 Deed.enc
abbrev RdDeedS := RdSl 117 Deed.enc
abbrev RdLDeedS := RdSl 999999 Deed.enc
def DeedS.mk' (xs : List Deed) (k : Int) : List Deed := marked Deed.mk' 10 xs.length k
def DeedS.mkN (xs : List Deed) (k : Int) : Int := k + 10 * xs.length
def DeedS.hd (xs : List Deed) (k : Int) : Int := heldL Deed.mk' 10 xs k
theorem DeedS.hd_mk (xs : List Deed) (k : Int) : DeedS.hd (DeedS.mk' xs k) k = DeedS.mkN xs k := by simp [DeedS.hd, DeedS.mk', DeedS.mkN]
theorem DeedS.mk_sz (xs : List Deed) (k : Int) : (DeedS.mk' xs k).length = xs.length := by simp [DeedS.mk']
theorem DeedS.mkN_le {xs : List Deed} {k : Int} (h : xs.length ≤ 1048576) : k ≤ DeedS.mkN xs k ∧ DeedS.mkN xs k ≤ k + 1000000000 := by unfold DeedS.mkN; omega

def Reg.ok (r : Reg) : Bool := decide (1 ≤ r.epoch) && decide (r.epoch ≤ 100000) && (decide (0 ≤ r.owner) && decide (r.owner ≤ 1)) && (decide (0 ≤ r.pair) && decide (r.pair ≤ 100000))

theorem specRegOk (H : Heap) (r : Reg) : run env 88 [.agg r.enc] H = some (.bool r.ok, H) := by
  refine run_walk ok88 Tryz.func88 rfl (by simp [Tryz.f88]) fun Q hQ => ?_
  simp only [Tryz.f88, strip, stripL, stripI, stripG, chkT, tagsB, tagsL, tagD, addT, tagA, lookN, tagOp, elmT, ty22, ty29, ty33, ty39, ty40, ty41, ty42, ty69, ty71, ty95, Nat.reduceEqDiff, if_false, reduceIte, Option.getD_some, Option.getD_none, dstAt, dstOk, Nat.reduceLT, decide_true, if_true]
  simp [Reg.enc, l1In]
  repeat' (first | (refine gdL_t (fun h => ?_) (fun h => ?_) <;> simp [h, l1In]) | (refine gdL_f (fun h => ?_) (fun h => ?_) <;> simp [h, l1In]) | (refine selS_intro (fun h => ?_) (fun h => ?_) <;> simp [h, l1In]))
  all_goals (refine hQ _ _ _ (by simp) ?_)
  all_goals (clear hQ; simp_all [Tryz.f88, Reg.ok] <;> omega)

structure Bridge where
  id : Int
  ports : List Port
  deriving DecidableEq, Inhabited
def Bridge.enc (b : Bridge) (a : Option (Nat × Nat)) : List Lf := [.i .i64 b.id, .sl a b.ports.length]
@[simp] theorem Bridge.enc_len (b : Bridge) (a : Option (Nat × Nat)) : (b.enc a).length = 2 := rfl
@[simp] theorem Bridge.enc_take (b : Bridge) (a : Option (Nat × Nat)) : List.take 2 (b.enc a) = b.enc a := rfl

structure Minder where
  up : Bool
  life : Int
  epoch : Int
  log : List In
  said : Int
  acked : Int
  ackLife : Int
  deriving DecidableEq
def Minder.enc (m : Minder) (a : Option (Nat × Nat)) : List Lf := [.b m.up, .i .i64 m.life, .i .i64 m.epoch, .sl a m.log.length, .i .i64 m.said, .i .i64 m.acked, .i .i64 m.ackLife]
@[simp] theorem Minder.enc_len (m : Minder) (a : Option (Nat × Nat)) : (m.enc a).length = 7 := rfl
@[simp] theorem Minder.enc_take (m : Minder) (a : Option (Nat × Nat)) : List.take 7 (m.enc a) = m.enc a := rfl

def ready (m : Minder) (pair : Int) : Bool := m.up && decide (0 < m.epoch) && decide (m.said < m.log.length) && (decide (pair = 0) || decide (m.ackLife = pair) && decide (m.said < m.acked))

theorem specReady (H : Heap) (a : Option (Nat × Nat)) (m : Minder) (pair : Int) : run env 98 [.agg (m.enc a), .int pair] H = some (.bool (ready m pair), H) := by
  obtain ⟨a1, a2, a3, a4, a5, a6, a7⟩ := m
  refine run_walk ok98 Tryz.func98 rfl (by simp [Tryz.f98]) fun Q hQ => ?_
  simp only [Tryz.f98, strip, stripL, stripI, stripG, chkT, tagsB, tagsL, tagD, addT, tagA, lookN, tagOp, elmT, ty22, ty29, ty33, ty39, ty40, ty41, ty42, ty69, ty71, ty95, Nat.reduceEqDiff, if_false, reduceIte, Option.getD_some, Option.getD_none, dstAt, dstOk, Nat.reduceLT, decide_true, if_true]
  simp [Minder.enc, builtinV, pureB, lenV]
  repeat' (first | (refine gdL_t (fun h => ?_) (fun h => ?_) <;> simp [h, builtinV, pureB, lenV]) | (refine gdL_f (fun h => ?_) (fun h => ?_) <;> simp [h, builtinV, pureB, lenV]) | (refine selS_intro (fun h => ?_) (fun h => ?_) <;> simp [h, builtinV, pureB, lenV]))
  all_goals (refine hQ _ _ _ (by simp) ?_)
  all_goals (clear hQ; simp_all [Tryz.f98, ready])
  all_goals omega

def Vec.ok (v : Vec) : Bool := (decide (1 ≤ v.root) && decide (v.root ≤ 9)) && (decide (1 ≤ v.bridge) && decide (v.bridge ≤ 9)) && decide (v.root ≤ v.bridge) && (decide (0 ≤ v.cost) && decide (v.cost ≤ 20)) && (decide (v.cost = 0) == decide (v.root = v.bridge)) && (decide (0 ≤ v.port) && decide (v.port ≤ 3))

theorem specVecOk (H : Heap) (v : Vec) : run env 61 [.agg v.enc] H = some (.bool v.ok, H) := by
  obtain ⟨a1, a2, a3, a4⟩ := v
  refine run_walk ok61 Tryz.func61 rfl (by simp [Tryz.f61]) fun Q hQ => ?_
  simp only [Tryz.f61, strip, stripL, stripI, stripG, chkT, tagsB, tagsL, tagD, addT, tagA, lookN, tagOp, elmT, ty22, ty29, ty33, ty39, ty40, ty41, ty42, ty69, ty71, ty95, Nat.reduceEqDiff, if_false, reduceIte, Option.getD_some, Option.getD_none, dstAt, dstOk, Nat.reduceLT, decide_true, if_true]
  simp [Vec.enc, l1In]
  repeat' (first | (refine gdL_t (fun h => ?_) (fun h => ?_) <;> simp [h, l1In]) | (refine gdL_f (fun h => ?_) (fun h => ?_) <;> simp [h, l1In]) | (refine selS_intro (fun h => ?_) (fun h => ?_) <;> simp [h, l1In]))
  all_goals (refine hQ _ _ _ (by simp) ?_)
  all_goals (clear hQ; simp_all [Tryz.f61, Vec.ok])
  all_goals (first | omega | (intros; omega))

def In.ok (x : In) : Bool := if x.kind = 1 then (decide (0 ≤ x.port) && decide (x.port ≤ 3)) && x.vec.ok && (decide (0 ≤ x.hops) && decide (x.hops ≤ 8)) && !x.up
  else if x.kind = 3 then (decide (0 ≤ x.port) && decide (x.port ≤ 3)) && decide (x.vec = ⟨0, 0, 0, 0⟩) && decide (x.hops = 0)
  else decide (x = ⟨2, 0, ⟨0, 0, 0, 0⟩, 0, false⟩)

theorem specInOk (H : Heap) (x : In) : run env 65 [.agg x.enc] H = some (.bool x.ok, H) := by
  obtain ⟨a1, a2, ⟨b1, b2, b3, b4⟩, a4, a5⟩ := x
  have e := fun H => specVecOk H ⟨b1, b2, b3, b4⟩
  simp only [Vec.enc] at e
  refine run_walk ok65 Tryz.func65 rfl (by simp [Tryz.f65]) fun Q hQ => ?_
  simp only [Tryz.f65, strip, stripL, stripI, stripG, chkT, tagsB, tagsL, tagD, addT, tagA, lookN, tagOp, elmT, ty22, ty29, ty33, ty39, ty40, ty41, ty42, ty69, ty71, ty95, Nat.reduceEqDiff, if_false, reduceIte, Option.getD_some, Option.getD_none, dstAt, dstOk, Nat.reduceLT, decide_true, if_true]
  simp [In.enc, l1In, e]
  repeat' (first | (refine gdL_t (fun h => ?_) (fun h => ?_) <;> simp [h, l1In, e]) | (refine gdL_f (fun h => ?_) (fun h => ?_) <;> simp [h, l1In, e]) | (refine selS_intro (fun h => ?_) (fun h => ?_) <;> simp [h, l1In, e]))
  all_goals (refine hQ _ _ _ (by simp) ?_)
  all_goals (clear hQ; simp_all [Tryz.f65, In.ok])
  all_goals (first | (intros; exfalso; omega) | simp [Bool.and_assoc])

def IsBridge (H : Heap) (l : List Lf) (x : Bridge) (fp : List Nat) : Prop := ∃ a, l = x.enc a ∧ Own H 27 a (x.ports.map Port.enc) fp
def RdBridge (H : Heap) (l : List Lf) (x : Bridge) : Prop := ∃ a, l = x.enc a ∧ Sl H 27 a (x.ports.map Port.enc)
def RdLBridge (H : Heap) (l : List Lf) (x : Bridge) : Prop := ∃ a, l = x.enc a ∧ Sl H 999999 a (x.ports.map Port.enc)
abbrev Bridge.sz (x : Bridge) : Nat := x.ports.length
def Bridge.fit (x : Bridge) : Prop := x.ports.length ≤ maxLen
section
variable {H H' : Heap} {l : List Lf} {x : Bridge} {fp : List Nat}
theorem IsBridge.keep {f : List Nat} (h : IsBridge H l x fp) (hk : Keep f H H') (hd : ∀ i ∈ fp, i ∉ f) : IsBridge H' l x fp := let ⟨a, h1, h2⟩ := h; ⟨a, h1, h2.keep hk hd⟩
theorem IsBridge.app (h : IsBridge H l x fp) (G : Heap) : IsBridge (H ++ G) l x fp := let ⟨a, h1, h2⟩ := h; ⟨a, h1, h2.app G⟩
theorem IsBridge.lt (h : IsBridge H l x fp) : ∀ i ∈ fp, i < H.length := let ⟨_, _, h2⟩ := h; h2.lt
theorem IsBridge.nodup (h : IsBridge H l x fp) : fp.Nodup := let ⟨_, _, h2⟩ := h; h2.nodup
theorem IsBridge.rd (h : IsBridge H l x fp) : RdBridge H l x := let ⟨a, h1, h2⟩ := h; ⟨a, h1, h2.sl⟩
theorem RdBridge.base (h : RdBridge H l x) (hk : Keep [] H H') : RdBridge H' l x := let ⟨a, h1, h2⟩ := h; ⟨a, h1, h2.keep hk (by simp)⟩
theorem RdBridge.app (h : RdBridge H l x) (G : Heap) : RdBridge (H ++ G) l x := h.base (Keep.app _ _ _)
theorem RdLBridge.base (h : RdLBridge H l x) (hk : Keep [] H H') : RdLBridge H' l x := let ⟨a, h1, h2⟩ := h; ⟨a, h1, h2.keep hk (by simp)⟩
theorem RdLBridge.app (h : RdLBridge H l x) (G : Heap) : RdLBridge (H ++ G) l x := h.base (Keep.app _ _ _)
theorem IsBridge.len (h : IsBridge H l x fp) : l.length = 2 := by obtain ⟨a, rfl, -⟩ := h; rfl
theorem RdLBridge.len (h : RdLBridge H l x) : l.length = 2 := by obtain ⟨a, rfl, -⟩ := h; rfl
theorem RdBridge.len (h : RdBridge H l x) : l.length = 2 := by obtain ⟨a, rfl, -⟩ := h; rfl
theorem IsBridge.free (h : IsBridge H' l x fp) (hr : l.all refFree = true) (H2 : Heap) : IsBridge H2 l x [] := by
  obtain ⟨a, rfl, h2⟩ := h
  exact ⟨a, rfl, h2.free (n := x.ports.length) (by simp [Bridge.enc] at hr; exact hr) H2⟩
theorem IsBridge.leave {ws : List W} (h : IsBridge H' l x fp) (hf : Fresh H H' fp) (hw : ws.all W.free = true → l.all refFree = true) : ∃ fp', IsBridge (leave H H' ws) l x fp' ∧ Fresh H (leave H H' ws) fp' := by
  rcases leave_opt H H' ws with e | ⟨e, hr⟩ <;> rw [e]
  · exact ⟨fp, h, hf⟩
  · exact ⟨[], h.free (hw hr) H, Fresh.refl H⟩
end

def IsMinder (H : Heap) (l : List Lf) (x : Minder) (fp : List Nat) : Prop := ∃ a, l = x.enc a ∧ Own H 78 a (x.log.map In.enc) fp
def RdMinder (H : Heap) (l : List Lf) (x : Minder) : Prop := ∃ a, l = x.enc a ∧ Sl H 78 a (x.log.map In.enc)
def RdLMinder (H : Heap) (l : List Lf) (x : Minder) : Prop := ∃ a, l = x.enc a ∧ Sl H 999999 a (x.log.map In.enc)
abbrev Minder.sz (x : Minder) : Nat := x.log.length
def Minder.fit (x : Minder) : Prop := x.log.length ≤ maxLen
section
variable {H H' : Heap} {l : List Lf} {x : Minder} {fp : List Nat}
theorem IsMinder.keep {f : List Nat} (h : IsMinder H l x fp) (hk : Keep f H H') (hd : ∀ i ∈ fp, i ∉ f) : IsMinder H' l x fp := let ⟨a, h1, h2⟩ := h; ⟨a, h1, h2.keep hk hd⟩
theorem IsMinder.app (h : IsMinder H l x fp) (G : Heap) : IsMinder (H ++ G) l x fp := let ⟨a, h1, h2⟩ := h; ⟨a, h1, h2.app G⟩
theorem IsMinder.lt (h : IsMinder H l x fp) : ∀ i ∈ fp, i < H.length := let ⟨_, _, h2⟩ := h; h2.lt
theorem IsMinder.nodup (h : IsMinder H l x fp) : fp.Nodup := let ⟨_, _, h2⟩ := h; h2.nodup
theorem IsMinder.rd (h : IsMinder H l x fp) : RdMinder H l x := let ⟨a, h1, h2⟩ := h; ⟨a, h1, h2.sl⟩
theorem RdMinder.base (h : RdMinder H l x) (hk : Keep [] H H') : RdMinder H' l x := let ⟨a, h1, h2⟩ := h; ⟨a, h1, h2.keep hk (by simp)⟩
theorem RdMinder.app (h : RdMinder H l x) (G : Heap) : RdMinder (H ++ G) l x := h.base (Keep.app _ _ _)
theorem RdLMinder.base (h : RdLMinder H l x) (hk : Keep [] H H') : RdLMinder H' l x := let ⟨a, h1, h2⟩ := h; ⟨a, h1, h2.keep hk (by simp)⟩
theorem RdLMinder.app (h : RdLMinder H l x) (G : Heap) : RdLMinder (H ++ G) l x := h.base (Keep.app _ _ _)
theorem IsMinder.len (h : IsMinder H l x fp) : l.length = 7 := by obtain ⟨a, rfl, -⟩ := h; rfl
theorem RdLMinder.len (h : RdLMinder H l x) : l.length = 7 := by obtain ⟨a, rfl, -⟩ := h; rfl
theorem RdMinder.len (h : RdMinder H l x) : l.length = 7 := by obtain ⟨a, rfl, -⟩ := h; rfl
theorem IsMinder.free (h : IsMinder H' l x fp) (hr : l.all refFree = true) (H2 : Heap) : IsMinder H2 l x [] := by
  obtain ⟨a, rfl, h2⟩ := h
  exact ⟨a, rfl, h2.free (n := x.log.length) (by simp [Minder.enc] at hr; exact hr) H2⟩
theorem IsMinder.leave {ws : List W} (h : IsMinder H' l x fp) (hf : Fresh H H' fp) (hw : ws.all W.free = true → l.all refFree = true) : ∃ fp', IsMinder (leave H H' ws) l x fp' ∧ Fresh H (leave H H' ws) fp' := by
  rcases leave_opt H H' ws with e | ⟨e, hr⟩ <;> rw [e]
  · exact ⟨fp, h, hf⟩
  · exact ⟨[], h.free (hw hr) H, Fresh.refl H⟩
end

def logOk (xs : List In) : Bool := xs.all In.ok && decide ((xs.length : Int) ≤ 60)

theorem specLogOk (H : Heap) (a : Option (Nat × Nat)) (xs : List In) (h : Sl H 78 a (xs.map In.enc)) (hn : xs.length ≤ 2000000) :
    run env 91 [.w (.lf (.sl a xs.length))] H = some (.bool (logOk xs), H) := by
  refine run_walk ok91 Tryz.func91 rfl (by simp [Tryz.f91]) fun Q hQ => ?_
  simp only [Tryz.f91, strip, stripL, stripI, stripG, chkT, tagsB, tagsL, tagD, addT, tagA, lookN, tagOp, elmT, ty22, ty29, ty33, ty39, ty40, ty41, ty42, ty69, ty71, ty95, Nat.reduceEqDiff, if_false, reduceIte, Option.getD_some, Option.getD_none, dstAt, dstOk, Nat.reduceLT, decide_true, if_true]
  simp [builtinV, pureB, lenV]
  refine wpS_loop (fun j tm H' => ∃ i, i + j = xs.length ∧ tm 0 = .w (.lf (.sl a xs.length)) ∧ tm 3 = .int i ∧ H' = H ∧ (xs.take i).all In.ok = true) xs.length (by rw [env_K]; omega) ⟨0, by simp, by simp, by simp, rfl, by simp⟩ ?_
  rintro j tm H' hj ⟨i, hij, h0, h3, rfl, hall⟩ Q' hn' he' hr'
  simp [h0, h3, builtinV, pureB, lenV]
  refine selS_intro (fun hc => ?_) (fun hc => ?_)
  · simp at hc
    obtain ⟨id, r, bl, rfl, hbl, hbe, hrow⟩ := h i _ (by simp [hc]; rfl)
    have g4 : IntKind.i64.wrap ((i : Int) + 1) = (i : Int) + 1 := wrap64 (by omega) (by omega)
    simp [h0, h3, indexAddrV, elemIs, hbl, hbe, hc, hrow, specInOk]
    refine selS_intro (fun hd => ?_) (fun hd => ?_)
    · simp
      refine hr' _ _ ?_
      simp
      refine hQ _ _ _ (by simp) ?_
      have : xs.all In.ok = false := List.all_eq_false.2 ⟨xs[i], by simp, by simpa using hd⟩
      simp [Tryz.f91, this, logOk]
    · simp at hd
      simp [h0, h3, g4]
      refine hn' (j - 1) _ _ (by omega) ⟨i + 1, by omega, by simp [h0], by simp, rfl, ?_⟩
      rw [List.take_add_one, List.all_append, hall]
      simp [hc, hd]
  · simp at hc
    simp [h0, h3]
    refine he' _ _ _ ?_
    simp [h0, builtinV, pureB, lenV]
    refine hQ _ _ _ (by simp) ?_
    rw [List.take_of_length_le (by omega)] at hall
    simp [Tryz.f91, hall, logOk]

def Minder.ok (m : Minder) : Bool := (decide (0 ≤ m.life) && decide (m.life ≤ 100000)) && (decide (0 ≤ m.epoch) && decide (m.epoch ≤ 100000)) && (decide (0 ≤ m.ackLife) && decide (m.ackLife ≤ 100000)) && logOk m.log &&
  (decide (0 ≤ m.said) && decide (m.said ≤ m.log.length)) && (decide (0 ≤ m.acked) && decide (m.acked ≤ m.log.length)) && (m.up || decide (m.epoch = 0) && decide ((m.log.length : Int) = 0) && decide (m.ackLife = 0))

theorem specMinderOk (H : Heap) (a : Option (Nat × Nat)) (m : Minder) (h : Sl H 78 a (m.log.map In.enc)) (hn : m.log.length ≤ 2000000) :
    run env 89 [.agg (m.enc a)] H = some (.bool m.ok, H) := by
  have e := fun G => specLogOk (H ++ G) a m.log (h.app _) hn
  obtain ⟨a1, a2, a3, a4, a5, a6, a7⟩ := m
  simp only at e
  refine run_walk ok89 Tryz.func89 rfl (by simp [Tryz.f89]) fun Q hQ => ?_
  simp only [Tryz.f89, strip, stripL, stripI, stripG, chkT, tagsB, tagsL, tagD, addT, tagA, lookN, tagOp, elmT, ty22, ty29, ty33, ty39, ty40, ty41, ty42, ty69, ty71, ty95, Nat.reduceEqDiff, if_false, reduceIte, Option.getD_some, Option.getD_none, dstAt, dstOk, Nat.reduceLT, decide_true, if_true]
  simp [Minder.enc, l1In]
  repeat' (first | (refine gdL_t (fun h => ?_) (fun h => ?_) <;> simp [h, l1In, e, builtinV, pureB, lenV]) | (refine gdL_f (fun h => ?_) (fun h => ?_) <;> simp [h, l1In, e, builtinV, pureB, lenV]) | (refine selS_intro (fun h => ?_) (fun h => ?_) <;> simp [h, l1In, e, builtinV, pureB, lenV]))
  all_goals (refine hQ _ _ _ (by simp) ?_)
  all_goals (clear hQ; simp_all [Tryz.f89, Minder.ok])
  all_goals (try (intros; exfalso; omega))

def gates (b : Bridge) : List Bool := b.ports.map Port.opn
@[simp] theorem gates_len (b : Bridge) : (gates b).length = b.ports.length := by simp [gates]

theorem specGates (H : Heap) (a : Option (Nat × Nat)) (b : Bridge) (h : Sl H 27 a (b.ports.map Port.enc)) (hn : b.ports.length ≤ 1048576) :
    Runs env 80 [.agg (b.enc a)] H fun v H' => ∃ a' fp, v = .w (.lf (.sl a' (gates b).length)) ∧ Own H' 4 a' ((gates b).map encB) fp ∧ Fresh H H' fp := by
  refine Runs.walk ok80 Tryz.func80 rfl (by simp [Tryz.f80]) fun Q hQ => ?_
  simp only [Tryz.f80, strip, stripL, stripI, stripG, chkT, tagsB, tagsL, tagD, addT, tagA, lookN, tagOp, elmT, ty22, ty29, ty33, ty39, ty40, ty41, ty42, ty69, ty71, ty95, Nat.reduceEqDiff, if_false, reduceIte, Option.getD_some, Option.getD_none, dstAt, dstOk, Nat.reduceLT, decide_true, if_true]
  simp [Bridge.enc, builtinV, pureB, lenV]
  obtain ⟨H1, hH1⟩ : ∃ H1, H1 = H ++ [some ⟨31, .wr, [[.i .i64 b.id, .sl a b.ports.length]]⟩] := ⟨_, rfl⟩
  have hb1 : blkAt H1 H.length = some ⟨31, .wr, [[.i .i64 b.id, .sl a b.ports.length]]⟩ := by simp [hH1]
  have hl1 := blkAt_len hb1
  have h1 : Sl H1 27 a (b.ports.map Port.enc) := by rw [hH1]; exact h.app _
  refine wpS_loop (fun j tm H' => ∃ i a' fp, i + j = b.ports.length ∧ tm 1 = .ptr H.length 0 0 ∧ tm 4 = .int i ∧ tm 3 = .w (.lf (.sl a' i)) ∧ Own H' 4 a' (((gates b).take i).map encB) fp ∧ Fresh H1 H' fp) b.ports.length (by rw [env_K]; omega)
    ⟨0, some (H.length + 1, 0), [H.length + 1], by simp, by simp, by simp, by simp, Own.of (by simp), ⟨[some ⟨4, .wr, []⟩], by simp [hH1]⟩, by simp [hH1]⟩ ?_
  rintro j tm H' hj ⟨i, a', fp, hij, t1, t4, t3, ho, ⟨⟨G, rfl⟩, hf⟩⟩ Q' hn' he' hr'
  simp [t1, t4, t3, hb1, hl1, builtinV, pureB, lenV]
  refine selS_intro (fun hc => ?_) (fun hc => ?_)
  · simp at hc
    obtain ⟨id, r, bl, rfl, hbl, hbe, hrow⟩ := h1 i _ (by simp [hc]; rfl)
    have hid := blkAt_len hbl
    have g4 : IntKind.i64.wrap ((i : Int) + 1) = (i : Int) + 1 := wrap64 (by omega) (by omega)
    simp [t1, t4, t3, hb1, hl1, indexAddrV, elemIs, hid, hbl, hbe, hc, hrow, Port.enc]
    refine stpL_append (rows := ((gates b).take i).map encB) (ys := [[.b b.ports[i].opn]]) (ho.app2 _) (Sl.of (by simp)) rfl rfl rfl (by simp) (by simp; omega) (by simp; omega) rfl fun a'' H'' fp'' ho'' hk'' hf'' => ?_
    simp [t1, t4, g4]
    refine hn' (j - 1) _ _ (by omega) ⟨i + 1, a'', fp'', by omega, by simp [t1], by simp, by simp, ?_, Fresh.grow hf hk'' hf''⟩
    simpa [List.take_add_one, gates, hc, encB] using ho''
  · simp at hc
    obtain rfl : i = b.ports.length := by omega
    simp [t1, t4, t3]
    refine he' _ _ _ ?_
    simp [t3]
    refine hQ _ _ _ (by simp) ?_
    rw [List.take_of_length_le (by simp)] at ho
    have hf : Fresh H (H1 ++ G) fp := by
      have := Fresh.app H1 G hf
      rw [hH1] at this ⊢
      exact this.base
    simp [Tryz.f80]
    exact leave_got (n := b.ports.length) ho hf (by simp)

theorem specGates_is {H : Heap} {l : List Lf} {b : Bridge} (h : RdBridge H l b) (hn : b.sz ≤ 1048576) : Runs env 80 [.agg l] H fun v H' => ∃ q fp, v = .w (.lf q) ∧ IsBoolS H' q (gates b) fp ∧ Fresh H H' fp := by
  obtain ⟨a, rfl, h⟩ := h
  exact (specGates H a b h hn).mono fun v H' ⟨a', fp, h1, h2, h3⟩ => ⟨_, fp, h1, ⟨a', rfl, h2⟩, h3⟩

theorem specMinderOk_is {H : Heap} {l : List Lf} {m : Minder} (h : RdMinder H l m) (hn : m.sz ≤ 2000000) : run env 89 [.agg l] H = some (.bool m.ok, H) := by
  obtain ⟨a, rfl, h⟩ := h
  exact specMinderOk H a m h hn

theorem specReady_is {H : Heap} {l : List Lf} {m : Minder} (h : RdMinder H l m) (hn : m.sz ≤ 1048576) (p : Int) (_ : I64 p) : run env 98 [.agg l, .int p] H = some (.bool (ready m p), H) := by
  obtain ⟨a, rfl, h⟩ := h
  exact specReady H a m p

def minds (r : Reg) (s : Int) (m : Minder) : Bool := r.ok && m.ok && m.up && decide (s = r.owner) && decide (m.epoch = r.epoch)

theorem specMinds_is {H : Heap} {l : List Lf} {m : Minder} (h : RdMinder H l m) (hn : m.sz ≤ 1048576) (r : Reg) (s : Int) (_ : I64 s) : run env 112 [.agg r.enc, .int s, .agg l] H = some (.bool (minds r s m), H) := by
  have e := fun G => specMinderOk_is (h.app G) (by omega)
  have e2 := fun H => specRegOk H r
  obtain ⟨a, rfl, h⟩ := h
  simp only [Reg.enc, Minder.enc] at e e2 ⊢
  refine run_walk ok112 Tryz.func112 rfl (by simp [Tryz.f112]) fun Q hQ => ?_
  simp only [Tryz.f112, strip, stripL, stripI, stripG, chkT, tagsB, tagsL, tagD, addT, tagA, lookN, tagOp, elmT, ty22, ty29, ty33, ty39, ty40, ty41, ty42, ty69, ty71, ty95, Nat.reduceEqDiff, if_false, reduceIte, Option.getD_some, Option.getD_none, dstAt, dstOk, Nat.reduceLT, decide_true, if_true]
  simp [Minder.enc, Reg.enc, e2]
  repeat' (first | (refine gdL_t (fun h => ?_) (fun h => ?_) <;> simp [h, e, e2]) | (refine gdL_f (fun h => ?_) (fun h => ?_) <;> simp [h, e, e2]) | (refine selS_intro (fun h => ?_) (fun h => ?_) <;> simp [h, e, e2]))
  all_goals (refine hQ _ _ _ (by simp) ?_)
  all_goals (clear hQ; simp_all [Tryz.f112, minds])
  all_goals (try omega)

def pairs (r : Reg) (s : Int) (m : Minder) (pair : Int) : Reg × Bool := if minds r s m && (decide (pair = 0) || decide (pair = m.ackLife) && decide (m.acked = m.log.length)) then ({ r with pair := pair }, true) else (r, false)

theorem specPairs_is {H : Heap} {l : List Lf} {m : Minder} (h : RdMinder H l m) (hn : m.sz ≤ 1048576) (r : Reg) (s : Int) (hs : I64 s) (p : Int) (_ : I64 p) : run env 105 [.agg r.enc, .int s, .agg l, .int p] H = some (.tup [.agg (pairs r s m p).1.enc, .lf (.b (pairs r s m p).2)], H) := by
  have e := fun G => specMinds_is (h.app G) hn r s hs
  obtain ⟨a, rfl, h⟩ := h
  simp only [Reg.enc, Minder.enc] at e ⊢
  refine run_walk ok105 Tryz.func105 rfl (by simp [Tryz.f105]) fun Q hQ => ?_
  simp only [Tryz.f105, strip, stripL, stripI, stripG, chkT, tagsB, tagsL, tagD, addT, tagA, lookN, tagOp, elmT, ty22, ty29, ty33, ty39, ty40, ty41, ty42, ty69, ty71, ty95, Nat.reduceEqDiff, if_false, reduceIte, Option.getD_some, Option.getD_none, dstAt, dstOk, Nat.reduceLT, decide_true, if_true]
  simp [Minder.enc, Reg.enc, e]
  repeat' (first | (refine gdL_t (fun h => ?_) (fun h => ?_) <;> simp [h, e, builtinV, pureB, lenV]) | (refine gdL_f (fun h => ?_) (fun h => ?_) <;> simp [h, e, builtinV, pureB, lenV]) | (refine selS_intro (fun h => ?_) (fun h => ?_) <;> simp [h, e, builtinV, pureB, lenV]))
  all_goals (refine hQ _ _ _ (by simp) ?_)
  all_goals (clear hQ; simp_all [Tryz.f105, pairs])

theorem specCopyM {H : Heap} {l : List Lf} {m : Minder} (h : RdMinder H l m) (hn : m.sz ≤ 1048576) : Runs env 55 [.agg l] H fun v H' => ∃ l' fp, v = .agg l' ∧ IsMinder H' l' m fp ∧ Fresh H H' fp := by
  obtain ⟨a, rfl, h⟩ := h
  refine Runs.walk ok55 Tryz.func55 rfl (by simp [Tryz.f55]) fun Q hQ => ?_
  simp only [Tryz.f55, strip, stripL, stripI, stripG, chkT, tagsB, tagsL, tagD, addT, tagA, lookN, tagOp, elmT, ty22, ty29, ty33, ty39, ty40, ty41, ty42, ty69, ty71, ty95, Nat.reduceEqDiff, if_false, reduceIte, Option.getD_some, Option.getD_none, dstAt, dstOk, Nat.reduceLT, decide_true, if_true]
  simp [Minder.enc]
  refine stpL_append (rows := []) (ys := m.log.map In.enc) (Own.of (by simp)) (h.app _) rfl rfl rfl (by simp) (by have : m.log.length ≤ 1048576 := hn; simp; omega) rfl (by simp) fun a1 H1 f o1 hk hf => ?_
  obtain ⟨⟨G, rfl⟩, hf⟩ : Fresh (H ++ [some ⟨35, .wr, [m.enc a]⟩, some ⟨35, .wr, [(⟨false, 0, 0, [], 0, 0, 0⟩ : Minder).enc none]⟩]) H1 f := by
    refine Fresh.grow (fp := [H.length + 2]) (G := [some ⟨78, .wr, []⟩]) (by simp) (by simpa [Minder.enc] using hk) ?_
    intro i hi
    have := hf i hi
    simp at this ⊢
    omega
  simp
  refine hQ _ _ _ (by simp) ?_
  simp [Tryz.f55]
  have ho : IsMinder (H ++ [some ⟨35, .wr, [m.enc a1]⟩, some ⟨35, .wr, [m.enc a1]⟩] ++ G) (m.enc a1) m f := ⟨a1, rfl, o1.keep (Keep.swap G (by simp)) fun i hi => by have := hf i hi; simp at this ⊢; omega⟩
  simp [Minder.enc] at ho
  obtain ⟨f', h1, h2⟩ := ho.leave (H := H) (ws := [W.agg (m.enc a1)]) (Fresh.app H _ fun i hi => by have := hf i hi; simp at this; omega) (by simp [Minder.enc])
  exact ⟨f', h1, h2⟩

def note (m : Minder) (x : In) : Minder × Bool := if m.up && ({ m with log := m.log ++ [x] } : Minder).ok then ({ m with log := m.log ++ [x] }, true) else (m, false)

theorem specNote_is {H : Heap} {l : List Lf} {m : Minder} (h : RdMinder H l m) (hn : m.sz ≤ 1048576) (x : In) : Runs env 97 [.agg l, .agg x.enc] H fun v H' => ∃ l' fp, v = .tup [.agg l', .lf (.b (note m x).2)] ∧ IsMinder H' l' (note m x).1 fp ∧ Fresh H H' fp := by
  have hR := h
  have hn' : m.log.length ≤ 1048576 := hn
  obtain ⟨a, rfl, h⟩ := h
  refine Runs.walk ok97 Tryz.func97 rfl (by simp [Tryz.f97]) fun Q hQ => ?_
  simp only [Tryz.f97, strip, stripL, stripI, stripG, chkT, tagsB, tagsL, tagD, addT, tagA, lookN, tagOp, elmT, ty22, ty29, ty33, ty39, ty40, ty41, ty42, ty69, ty71, ty95, Nat.reduceEqDiff, if_false, reduceIte, Option.getD_some, Option.getD_none, dstAt, dstOk, Nat.reduceLT, decide_true, if_true]
  simp
  refine stpL_runs (specCopyM (hR.app _) hn) ?_
  rintro _ H1 ⟨_, f, rfl, ⟨a1, rfl, o1⟩, ⟨⟨G, rfl⟩, hf⟩⟩
  simp [Minder.enc]
  have hfl := o1.lt
  refine stpL_append (rows := m.log.map In.enc) (ys := [x.enc]) (by simpa [Minder.enc] using o1.app _) (Sl.of (by simp)) rfl rfl rfl (by simp) (by simp; omega) (by simp) rfl ?_
  intro a2 H2 f2 o2 hk2 hf2
  obtain ⟨G2, rfl, hG2, hx2⟩ := Keep.cut (L := [_, _, _]) hk2 (by intro i hi; have := hf i hi; simp at this ⊢; omega)
  have hx := hx2 G.length _ (by simp; rfl) (by intro hi; have := hfl _ hi; simp at this; omega)
  simp at hG2
  have hG3 : G.length < G2.length := by omega
  have lo2 : ∀ i ∈ f2, H.length + 3 ≤ i ∧ i ≠ H.length + (G.length + 3) := fun i hi => by
    rcases hf2 i hi with h1 | h1
    · have h3 := hf i h1
      have h4 := hfl i h1
      simp at h3 h4
      omega
    · simp at h1
      omega
  have o3 := fun y => o2.keep (Keep.set (id := H.length + (G.length + 3)) _ y) (fun i hi => by have := lo2 i hi; simp; omega)
  simp at o3
  have e2 := fun y => specMinderOk_is (m := { m with log := m.log ++ [x] }) ⟨a2, rfl, by simpa using (o3 y).sl⟩ (by simp [Minder.sz]; omega)
  simp [Minder.enc] at e2
  simp [hx, hG3, blkAt_set]
  repeat' (first | (refine gdL_t (fun h => ?_) (fun h => ?_) <;> simp [h, e2, hG3, blkAt_set]) | (refine gdL_f (fun h => ?_) (fun h => ?_) <;> simp [h, e2, hG3, blkAt_set]) | (refine selS_intro (fun h => ?_) (fun h => ?_) <;> simp [h, e2, hG3, blkAt_set]))
  · refine stpL_runs (specCopyM (hR.base (Keep.app _ H _)) hn) ?_
    rintro _ H4 ⟨_, f4, rfl, ⟨a4, rfl, o4⟩, ⟨⟨G4, rfl⟩, hf4⟩⟩
    simp
    refine hQ _ _ _ (by simp) ?_
    have hnote : note m x = (m, false) := by
      clear hQ
      simp [note]
      simp_all
    simp [Tryz.f97, hnote, Minder.enc]
    have o5 := fun y => o4.keep (Keep.set (id := H.length + 2) _ y) (fun i hi => by have := hf4 i hi; simp at this ⊢; omega)
    simp at o5
    exact IsMinder.leave ⟨a4, rfl, o5 _⟩ (Fresh.app H _ fun i hi => by have := hf4 i hi; simp at this; omega) (by simp)
  · refine stpL_runs (specCopyM (hR.base (Keep.app _ H _)) hn) ?_
    rintro _ H4 ⟨_, f4, rfl, ⟨a4, rfl, o4⟩, ⟨⟨G4, rfl⟩, hf4⟩⟩
    simp
    refine hQ _ _ _ (by simp) ?_
    have hnote : note m x = (m, false) := by
      clear hQ
      simp [note]
      simp_all
    simp [Tryz.f97, hnote, Minder.enc]
    have o5 := fun y => o4.keep (Keep.set (id := H.length + 2) _ y) (fun i hi => by have := hf4 i hi; simp at this ⊢; omega)
    simp at o5
    exact IsMinder.leave ⟨a4, rfl, o5 _⟩ (Fresh.app H _ fun i hi => by have := hf4 i hi; simp at this; omega) (by simp)
  · refine hQ _ _ _ (by simp) ?_
    have hnote : note m x = ({ m with log := m.log ++ [x] }, true) := by
      clear hQ
      simp [note]
      simp_all
    simp [Tryz.f97, hnote, Minder.enc]
    have o5 := fun y z => (o3 y).keep (Keep.set (id := H.length + 2) _ z) (fun i hi => by have := lo2 i hi; simp; omega)
    simp at o5
    exact IsMinder.leave ⟨a2, by simp [Minder.enc], by simpa using o5 _ _⟩ (Fresh.app H _ fun i hi => by have := lo2 i hi; omega) (by simp)

def takeR (r : Reg) (s : Int) (m : Minder) : Reg × Minder × Bool :=
  if r.ok && m.ok && m.up && (decide (s = 0) || decide (s = 1)) && !decide (s = r.owner) && decide (0 < m.life) && decide (m.life = r.pair) && (⟨r.epoch + 1, s, 0⟩ : Reg).ok then (⟨r.epoch + 1, s, 0⟩, { m with epoch := r.epoch + 1, acked := 0, ackLife := 0 }, true) else (r, m, false)
theorem takeR_sz {r : Reg} {s : Int} {m : Minder} (hn : m.sz ≤ 1048576) : (takeR r s m).2.1.sz ≤ 1048576 := by
  unfold takeR
  split <;> exact hn

theorem specTake_is {H : Heap} {l : List Lf} {m : Minder} (h : RdMinder H l m) (hn : m.sz ≤ 1048576) (r : Reg) (s : Int) (_ : I64 s) : Runs env 104 [.agg r.enc, .int s, .agg l] H fun v H' => ∃ l' fp, v = .tup [.agg (takeR r s m).1.enc, .agg l', .lf (.b (takeR r s m).2.2)] ∧ IsMinder H' l' (takeR r s m).2.1 fp ∧ Fresh H H' fp := by
  have hR := h
  have hn' : m.log.length ≤ 1048576 := hn
  have e := fun G => specMinderOk_is (hR.app G) (by omega)
  have e2 := fun H x y z => specRegOk H ⟨x, y, z⟩
  have hw : r.ok = true → IntKind.i64.wrap (r.epoch + 1) = r.epoch + 1 := fun hr => by simp [Reg.ok] at hr; exact wrap64 (by omega) (by omega)
  obtain ⟨a, rfl, h⟩ := h
  obtain ⟨r1, r2, r3⟩ := r
  simp only at hw
  refine Runs.walk ok104 Tryz.func104 rfl (by simp [Tryz.f104]) fun Q hQ => ?_
  simp only [Tryz.f104, strip, stripL, stripI, stripG, chkT, tagsB, tagsL, tagD, addT, tagA, lookN, tagOp, elmT, ty22, ty29, ty33, ty39, ty40, ty41, ty42, ty69, ty71, ty95, Nat.reduceEqDiff, if_false, reduceIte, Option.getD_some, Option.getD_none, dstAt, dstOk, Nat.reduceLT, decide_true, if_true]
  simp
  refine stpL_runs (specCopyM (hR.app _) hn) ?_
  rintro _ H1 ⟨_, f, rfl, ⟨a1, rfl, o1⟩, ⟨⟨G, rfl⟩, hf⟩⟩
  simp only [Reg.enc, Minder.enc] at e e2
  simp [Minder.enc, Reg.enc, e2]
  repeat' (first | (refine gdL_t (fun h => ?_) (fun h => ?_) <;> simp [h, e, e2, l1In]) | (refine gdL_f (fun h => ?_) (fun h => ?_) <;> simp [h, e, e2, l1In]) | (refine selS_intro (fun h => ?_) (fun h => ?_) <;> simp [h, e, e2, l1In]))
  · refine hQ _ _ _ (by simp) ?_
    have ht : takeR ⟨r1, r2, r3⟩ s m = (⟨r1, r2, r3⟩, m, false) := by
      clear hQ
      simp [takeR]
      simp_all
      try (intros; first | omega | (exfalso; omega))
    simp [Tryz.f104, ht, Minder.enc, Reg.enc]
    exact IsMinder.leave ⟨a1, by simp [Minder.enc], o1.cut (L' := [_, _, _, _]) hf rfl⟩ (Fresh.app H _ fun i hi => by have := hf i hi; simp at this; omega) (by simp)
  · refine hQ _ _ _ (by simp) ?_
    have ht : takeR ⟨r1, r2, r3⟩ s m = (⟨r1, r2, r3⟩, m, false) := by
      clear hQ
      simp [takeR]
      simp_all
      try (intros; first | omega | (exfalso; omega))
    simp [Tryz.f104, ht, Minder.enc, Reg.enc]
    exact IsMinder.leave ⟨a1, by simp [Minder.enc], o1.cut (L' := [_, _, _, _]) hf rfl⟩ (Fresh.app H _ fun i hi => by have := hf i hi; simp at this; omega) (by simp)
  · refine hQ _ _ _ (by simp) ?_
    have ht : takeR ⟨r1, r2, r3⟩ s m = (⟨r1, r2, r3⟩, m, false) := by
      clear hQ
      simp [takeR]
      simp_all
      try (intros; first | omega | (exfalso; omega))
    simp [Tryz.f104, ht, Minder.enc, Reg.enc]
    exact IsMinder.leave ⟨a1, by simp [Minder.enc], o1.cut (L' := [_, _, _, _]) hf rfl⟩ (Fresh.app H _ fun i hi => by have := hf i hi; simp at this; omega) (by simp)
  · refine hQ _ _ _ (by simp) ?_
    have ht : takeR ⟨r1, r2, r3⟩ s m = (⟨r1, r2, r3⟩, m, false) := by
      clear hQ
      simp [takeR]
      simp_all
      try (intros; first | omega | (exfalso; omega))
    simp [Tryz.f104, ht, Minder.enc, Reg.enc]
    exact IsMinder.leave ⟨a1, by simp [Minder.enc], o1.cut (L' := [_, _, _, _]) hf rfl⟩ (Fresh.app H _ fun i hi => by have := hf i hi; simp at this; omega) (by simp)
  · refine hQ _ _ _ (by simp) ?_
    have ht : takeR ⟨r1, r2, r3⟩ s m = (⟨r1, r2, r3⟩, m, false) := by
      clear hQ
      simp [takeR]
      simp_all
      try (intros; first | omega | (exfalso; omega))
    simp [Tryz.f104, ht, Minder.enc, Reg.enc]
    exact IsMinder.leave ⟨a1, by simp [Minder.enc], o1.cut (L' := [_, _, _, _]) hf rfl⟩ (Fresh.app H _ fun i hi => by have := hf i hi; simp at this; omega) (by simp)
  · refine hQ _ _ _ (by simp) ?_
    have ht : takeR ⟨r1, r2, r3⟩ s m = (⟨r1, r2, r3⟩, m, false) := by
      clear hQ
      simp [takeR]
      simp_all
      try (intros; first | omega | (exfalso; omega))
    simp [Tryz.f104, ht, Minder.enc, Reg.enc]
    exact IsMinder.leave ⟨a1, by simp [Minder.enc], o1.cut (L' := [_, _, _, _]) hf rfl⟩ (Fresh.app H _ fun i hi => by have := hf i hi; simp at this; omega) (by simp)
  · refine hQ _ _ _ (by simp) ?_
    have ht : takeR ⟨r1, r2, r3⟩ s m = (⟨r1, r2, r3⟩, m, false) := by
      clear hQ
      simp [takeR]
      simp_all
      try (intros; first | omega | (exfalso; omega))
    simp [Tryz.f104, ht, Minder.enc, Reg.enc]
    exact IsMinder.leave ⟨a1, by simp [Minder.enc], o1.cut (L' := [_, _, _, _]) hf rfl⟩ (Fresh.app H _ fun i hi => by have := hf i hi; simp at this; omega) (by simp)
  · refine stpL_runs_f (specCopyM (hR.base (Keep.app _ H _)) hn) (by rintro _ _ ⟨_, _, _, _, hf⟩; exact hf.1) ?_
    rintro _ H4 ⟨_, f4, rfl, ⟨a4, rfl, o4⟩, ⟨⟨G4, rfl⟩, hf4⟩⟩
    simp
    refine hQ _ _ _ (by simp) ?_
    have hr1 : Reg.ok ⟨r1, r2, r3⟩ = true := by clear hQ; simp_all
    rw [hw hr1] at *
    have ht : takeR ⟨r1, r2, r3⟩ s m = (⟨r1, r2, r3⟩, m, false) := by
      clear hQ
      simp [takeR]
      simp_all
      try (intros; first | omega | (exfalso; omega))
    simp [Tryz.f104, ht, Minder.enc, Reg.enc]
    have o5 := fun y z => (o4.keep (Keep.set (id := H.length + 2) _ y) (fun i hi => by have := hf4 i hi; simp at this ⊢; omega)).keep (Keep.set (id := H.length + 3) _ z) (fun i hi => by have := hf4 i hi; simp at this ⊢; omega)
    simp at o5
    exact IsMinder.leave ⟨a4, by simp [Minder.enc], o5 _ _⟩ (Fresh.app H _ fun i hi => by have := hf4 i hi; simp at this; omega) (by simp)
  · have hr1 : Reg.ok ⟨r1, r2, r3⟩ = true := by clear hQ; simp_all
    rw [hw hr1] at *
    have e3 := fun B1 B2 B3 B4 T => specMinderOk_is (m := { m with epoch := r1 + 1, acked := 0, ackLife := 0 }) ⟨a1, rfl, (o1.cut (L' := [B1, B2, B3, B4]) (T := T) hf rfl).sl⟩ (by simp [Minder.sz]; omega)
    simp [Minder.enc] at e3
    have hok : Minder.ok { m with epoch := r1 + 1, acked := 0, ackLife := 0 } = true := by
      clear hQ
      have h1 : m.ok = true := by simp_all
      have h2 : Reg.ok ⟨r1 + 1, s, 0⟩ = true := by simp_all
      have h3 : m.up = true := by simp_all
      simp [Minder.ok] at h1 ⊢
      simp [Reg.ok] at h2
      simp [h3]
      simp_all
      omega
    simp [e3, hok]
    refine hQ _ _ _ (by simp) ?_
    have ht : takeR ⟨r1, r2, r3⟩ s m = (⟨r1 + 1, s, 0⟩, { m with epoch := r1 + 1, acked := 0, ackLife := 0 }, true) := by
      clear hQ
      simp [takeR]
      simp_all
      try omega
    simp [Tryz.f104, ht, Minder.enc, Reg.enc]
    exact IsMinder.leave ⟨a1, by simp [Minder.enc], o1.cut (L' := [_, _, _, _]) hf rfl⟩ (Fresh.app H _ fun i hi => by have := hf i hi; simp at this; omega) (by simp)

theorem okMinder : RepOk IsMinder := ⟨fun h hk hd => h.keep hk hd, fun h => h.lt, fun h => h.nodup⟩
theorem unMinder : UnOk IsMinder := fun ⟨a, h1, h2⟩ hf => ⟨a, h1, h2.unapp hf⟩
abbrev IsMinderS := IsL 35 IsMinder
abbrev RdMinderS := RdL 35 RdMinder
abbrev RdLMinderS := RdL 999999 RdLMinder
def MinderS.sz (xs : List Minder) : Nat := xs.length + (xs.map Minder.sz).sum
theorem MinderS.sz_len (xs : List Minder) : xs.length ≤ MinderS.sz xs := by unfold MinderS.sz; omega
theorem MinderS.sz_at {xs : List Minder} {x : Minder} (h : x ∈ xs) : x.sz ≤ MinderS.sz xs := by
  have key : ∀ {ys : List Minder}, x ∈ ys → x.sz ≤ (ys.map Minder.sz).sum := by
    intro ys hy
    induction ys with
    | nil => simp at hy
    | cons y ys ih =>
      simp only [List.map_cons, List.sum_cons]
      rcases List.mem_cons.1 hy with rfl | hy
      · omega
      · have := ih hy; omega
  have := key h
  unfold MinderS.sz
  omega
def MinderS.ps (xs : List Minder) (i : Nat) : Nat := ((xs.take i).map Minder.sz).sum
theorem MinderS.ps_zero (xs : List Minder) : MinderS.ps xs 0 = 0 := by simp [MinderS.ps]
theorem MinderS.ps_succ (xs : List Minder) {i : Nat} (h : i < xs.length) : MinderS.ps xs (i + 1) = MinderS.ps xs i + xs[i].sz := by
  unfold MinderS.ps
  rw [List.take_add_one, List.getElem?_eq_getElem h, List.map_append, List.sum_append]
  simp
theorem MinderS.ps_le (xs : List Minder) (i : Nat) : xs.length + MinderS.ps xs i ≤ MinderS.sz xs := by
  have := congrArg (fun l => (l.map Minder.sz).sum) (List.take_append_drop i xs)
  simp only [List.map_append, List.sum_append] at this
  unfold MinderS.ps MinderS.sz
  omega
theorem MinderS.ps_len (xs : List Minder) : xs.length + MinderS.ps xs xs.length = MinderS.sz xs := by unfold MinderS.ps MinderS.sz; rw [List.take_length]
def MinderS.fit (xs : List Minder) : Prop := xs.length ≤ maxLen ∧ ∀ x ∈ xs, x.fit
theorem RdMinderS_base {H H' : Heap} {q : Lf} {xs : List Minder} (h : RdMinderS H q xs) (hk : Keep [] H H') : RdMinderS H' q xs := RdL.base h (fun h hk => h.base hk) hk
theorem RdLMinderS_base {H H' : Heap} {q : Lf} {xs : List Minder} (h : RdLMinderS H q xs) (hk : Keep [] H H') : RdLMinderS H' q xs := RdL.base h (fun h hk => h.base hk) hk
theorem IsMinderS_rd {H : Heap} {q : Lf} {xs : List Minder} {fp : List Nat} (h : IsMinderS H q xs fp) : RdMinderS H q xs := IsL.rd h fun h => h.rd

structure Box where
  id : Int
  ports : Int
  reg : Reg
  two : List Minder
  net : List Wire
  gates : List Bool
  line : List In
  said : List Out
  deriving DecidableEq, Inhabited
def Box.enc (x : Box) (q0 q1 q2 q3 q4 : Lf) : List Lf := [.i .i64 x.id, .i .i64 x.ports, .i .i64 x.reg.epoch, .i .i64 x.reg.owner, .i .i64 x.reg.pair, q0, q1, q2, q3, q4]
@[simp] theorem Box.enc_len (x : Box) (q0 q1 q2 q3 q4 : Lf) : (x.enc q0 q1 q2 q3 q4).length = 10 := rfl
@[simp] theorem Box.enc_take (x : Box) (q0 q1 q2 q3 q4 : Lf) : List.take 10 (x.enc q0 q1 q2 q3 q4) = x.enc q0 q1 q2 q3 q4 := rfl

def IsBox (H : Heap) (l : List Lf) (x : Box) (fp : List Nat) : Prop := ∃ q0 q1 q2 q3 q4 f0 f1 f2 f3 f4, l = x.enc q0 q1 q2 q3 q4 ∧ IsMinderS H q0 x.two f0 ∧ IsWireS H q1 x.net f1 ∧ IsBoolS H q2 x.gates f2 ∧ IsInS H q3 x.line f3 ∧ IsOutS H q4 x.said f4 ∧ fp = f0 ++ (f1 ++ (f2 ++ (f3 ++ (f4)))) ∧ fp.Nodup
def RdBox (H : Heap) (l : List Lf) (x : Box) : Prop := ∃ q0 q1 q2 q3 q4, l = x.enc q0 q1 q2 q3 q4 ∧ RdMinderS H q0 x.two ∧ RdWireS H q1 x.net ∧ RdBoolS H q2 x.gates ∧ RdInS H q3 x.line ∧ RdOutS H q4 x.said
def RdLBox (H : Heap) (l : List Lf) (x : Box) : Prop := ∃ q0 q1 q2 q3 q4, l = x.enc q0 q1 q2 q3 q4 ∧ RdLMinderS H q0 x.two ∧ RdLWireS H q1 x.net ∧ RdLBoolS H q2 x.gates ∧ RdLInS H q3 x.line ∧ RdLOutS H q4 x.said
def Box.sz (x : Box) : Nat := MinderS.sz x.two + x.net.length + x.gates.length + x.line.length + x.said.length
def Box.fit (x : Box) : Prop := MinderS.fit x.two ∧ x.net.length ≤ maxLen ∧ x.gates.length ≤ maxLen ∧ x.line.length ≤ maxLen ∧ x.said.length ≤ maxLen
section
variable {H H' : Heap} {l : List Lf} {x : Box} {fp : List Nat}
theorem IsBox.keep {f : List Nat} (h : IsBox H l x fp) (hk : Keep f H H') (hd : ∀ i ∈ fp, i ∉ f) : IsBox H' l x fp := by
  obtain ⟨q0, q1, q2, q3, q4, f0, f1, f2, f3, f4, rfl, h0, h1, h2, h3, h4, rfl, hnd⟩ := h
  exact ⟨q0, q1, q2, q3, q4, f0, f1, f2, f3, f4, rfl, h0.keep okMinder hk (fun i hi => hd i (by simp [hi])), h1.keep hk (fun i hi => hd i (by simp [hi])), h2.keep hk (fun i hi => hd i (by simp [hi])), h3.keep hk (fun i hi => hd i (by simp [hi])), h4.keep hk (fun i hi => hd i (by simp [hi])), rfl, hnd⟩
theorem IsBox.app (h : IsBox H l x fp) (G : Heap) : IsBox (H ++ G) l x fp := h.keep (Keep.app [] H G) (by simp)
theorem IsBox.lt (h : IsBox H l x fp) : ∀ i ∈ fp, i < H.length := by
  obtain ⟨q0, q1, q2, q3, q4, f0, f1, f2, f3, f4, rfl, h0, h1, h2, h3, h4, rfl, hnd⟩ := h
  intro i hi
  simp at hi
  rcases hi with hi | hi | hi | hi | hi
  · exact h0.lt okMinder i hi
  · exact h1.lt i hi
  · exact h2.lt i hi
  · exact h3.lt i hi
  · exact h4.lt i hi
theorem IsBox.nodup (h : IsBox H l x fp) : fp.Nodup := by
  obtain ⟨q0, q1, q2, q3, q4, f0, f1, f2, f3, f4, rfl, h0, h1, h2, h3, h4, rfl, hnd⟩ := h
  exact hnd
theorem IsBox.rd (h : IsBox H l x fp) : RdBox H l x := by
  obtain ⟨q0, q1, q2, q3, q4, f0, f1, f2, f3, f4, rfl, h0, h1, h2, h3, h4, rfl, hnd⟩ := h
  exact ⟨q0, q1, q2, q3, q4, rfl, IsMinderS_rd h0, h1.rd, h2.rd, h3.rd, h4.rd⟩
theorem RdBox.base (h : RdBox H l x) (hk : Keep [] H H') : RdBox H' l x := by
  obtain ⟨q0, q1, q2, q3, q4, rfl, h0, h1, h2, h3, h4⟩ := h
  exact ⟨q0, q1, q2, q3, q4, rfl, RdMinderS_base h0 hk, h1.base hk, h2.base hk, h3.base hk, h4.base hk⟩
theorem RdBox.app (h : RdBox H l x) (G : Heap) : RdBox (H ++ G) l x := h.base (Keep.app _ _ _)
theorem RdBox.len (h : RdBox H l x) : l.length = 10 := by
  obtain ⟨q0, q1, q2, q3, q4, rfl, h0, h1, h2, h3, h4⟩ := h
  rfl
theorem RdLBox.base (h : RdLBox H l x) (hk : Keep [] H H') : RdLBox H' l x := by
  obtain ⟨q0, q1, q2, q3, q4, rfl, h0, h1, h2, h3, h4⟩ := h
  exact ⟨q0, q1, q2, q3, q4, rfl, RdLMinderS_base h0 hk, h1.base hk, h2.base hk, h3.base hk, h4.base hk⟩
theorem RdLBox.app (h : RdLBox H l x) (G : Heap) : RdLBox (H ++ G) l x := h.base (Keep.app _ _ _)
theorem RdLBox.len (h : RdLBox H l x) : l.length = 10 := by
  obtain ⟨q0, q1, q2, q3, q4, rfl, h0, h1, h2, h3, h4⟩ := h
  rfl
theorem IsBox.len (h : IsBox H l x fp) : l.length = 10 := by
  obtain ⟨q0, q1, q2, q3, q4, f0, f1, f2, f3, f4, rfl, h0, h1, h2, h3, h4, rfl, hnd⟩ := h
  rfl
theorem IsBox.free (h : IsBox H' l x fp) (hr : l.all refFree = true) (H2 : Heap) : IsBox H2 l x [] := by
  obtain ⟨q0, q1, q2, q3, q4, f0, f1, f2, f3, f4, rfl, h0, h1, h2, h3, h4, rfl, hnd⟩ := h
  simp [Box.enc] at hr
  have a0 : IsMinderS H2 q0 x.two [] := by
    obtain ⟨e1, e2⟩ := h0.empty hr.1
    rw [e1, e2]
    exact IsL.emp _ _ _
  have a1 : IsWireS H2 q1 x.net [] := h1.free hr.2.1 H2
  have a2 : IsBoolS H2 q2 x.gates [] := h2.free hr.2.2.1 H2
  have a3 : IsInS H2 q3 x.line [] := h3.free hr.2.2.2.1 H2
  have a4 : IsOutS H2 q4 x.said [] := h4.free hr.2.2.2.2 H2
  exact ⟨q0, q1, q2, q3, q4, [], [], [], [], [], rfl, a0, a1, a2, a3, a4, by simp, by simp⟩
theorem IsBox.leave {ws : List W} (h : IsBox H' l x fp) (hf : Fresh H H' fp) (hw : ws.all W.free = true → l.all refFree = true) : ∃ fp', IsBox (leave H H' ws) l x fp' ∧ Fresh H (leave H H' ws) fp' := by
  rcases leave_opt H H' ws with e | ⟨e, hr⟩ <;> rw [e]
  · exact ⟨fp, h, hf⟩
  · exact ⟨[], h.free (hw hr) H, Fresh.refl H⟩
end

def openBy (role wait : Int) : Bool := (decide (role = 1) || decide (role = 2)) && decide (wait = 0)
def Port.ok (p : Port) : Bool :=
  (if p.has then p.up && p.vec.ok && (decide (0 ≤ p.hops) && decide (p.hops ≤ 8)) && (decide (1 ≤ p.left) && decide (p.left ≤ 3)) else decide (p.vec = ⟨0, 0, 0, 0⟩) && decide (p.hops = 0) && decide (p.left = 0)) &&
  (decide (0 ≤ p.role) && decide (p.role ≤ 3)) && decide (decide (p.role = 0) = !p.up) && (decide (0 ≤ p.wait) && decide (p.wait ≤ 4)) && decide (p.opn = openBy p.role p.wait)

theorem specPortOk (H : Heap) (p : Port) : run env 60 [.agg p.enc] H = some (.bool p.ok, H) := by
  obtain ⟨a1, a2, ⟨b1, b2, b3, b4⟩, a4, a5, a6, a7, a8⟩ := p
  have e := fun H => specVecOk H ⟨b1, b2, b3, b4⟩
  simp only [Vec.enc, Port.enc] at e
  refine run_walk ok60 Tryz.func60 rfl (by simp [Tryz.f60]) fun Q hQ => ?_
  simp only [Tryz.f60, strip, stripL, stripI, stripG, chkT, tagsB, tagsL, tagD, addT, tagA, lookN, tagOp, elmT, ty22, ty29, ty33, ty39, ty40, ty41, ty42, ty69, ty71, ty95, Nat.reduceEqDiff, if_false, reduceIte, Option.getD_some, Option.getD_none, dstAt, dstOk, Nat.reduceLT, decide_true, if_true]
  simp [Port.enc, e, l1In]
  repeat' (first | (refine gdL_t (fun h => ?_) (fun h => ?_) <;> simp [h, e, l1In]) | (refine gdL_f (fun h => ?_) (fun h => ?_) <;> simp [h, e, l1In]) | (refine selS_intro (fun h => ?_) (fun h => ?_) <;> simp [h, e, l1In]))
  all_goals (refine hQ _ _ _ (by simp) ?_)
  all_goals (clear hQ e; simp_all [Tryz.f60, Port.ok, openBy])
  all_goals (try (intros; exfalso; omega))

def Bridge.ok (b : Bridge) : Bool := b.ports.all Port.ok && (decide (1 ≤ b.id) && decide (b.id ≤ 9)) && (decide (1 ≤ (b.ports.length : Int)) && decide ((b.ports.length : Int) ≤ 4))

theorem specBridgeOk_is {H : Heap} {l : List Lf} {b : Bridge} (h : RdBridge H l b) (hn : b.sz ≤ 1048576) : run env 64 [.agg l] H = some (.bool b.ok, H) := by
  obtain ⟨a, rfl, h⟩ := h
  have hn : b.ports.length ≤ 1048576 := hn
  refine run_walk ok64 Tryz.func64 rfl (by simp [Tryz.f64]) fun Q hQ => ?_
  simp only [Tryz.f64, strip, stripL, stripI, stripG, chkT, tagsB, tagsL, tagD, addT, tagA, lookN, tagOp, elmT, ty22, ty29, ty33, ty39, ty40, ty41, ty42, ty69, ty71, ty95, Nat.reduceEqDiff, if_false, reduceIte, Option.getD_some, Option.getD_none, dstAt, dstOk, Nat.reduceLT, decide_true, if_true]
  simp [Bridge.enc, builtinV, pureB, lenV]
  refine wpS_loop (fun j tm H' => ∃ i, i + j = b.ports.length ∧ tm 1 = .ptr H.length 0 0 ∧ tm 3 = .int i ∧ H' = H ++ [some ⟨31, .wr, [b.enc a]⟩] ∧ (b.ports.take i).all Port.ok = true) b.ports.length (by rw [env_K]; omega) ⟨0, by simp, by simp, by simp, by simp [Bridge.enc], by simp⟩ ?_
  rintro j tm H' hj ⟨i, hij, t1, t3, rfl, hall⟩ Q' hn' he' hr'
  simp [t1, t3, Bridge.enc, builtinV, pureB, lenV]
  refine selS_intro (fun hc => ?_) (fun hc => ?_)
  · simp at hc
    obtain ⟨id, r, bl, rfl, hbl, hbe, hrow⟩ := h i _ (by simp [hc]; rfl)
    have hid := blkAt_len hbl
    have g4 : IntKind.i64.wrap ((i : Int) + 1) = (i : Int) + 1 := wrap64 (by omega) (by omega)
    simp [t1, t3, indexAddrV, elemIs, hid, hbl, hbe, hc, hrow, specPortOk]
    refine selS_intro (fun hd => ?_) (fun hd => ?_)
    · simp
      refine hr' _ _ ?_
      simp
      refine hQ _ _ _ (by simp) ?_
      have : b.ports.all Port.ok = false := List.all_eq_false.2 ⟨b.ports[i], by simp, by simpa using hd⟩
      simp [Tryz.f64, this, Bridge.ok]
    · simp at hd
      simp [t1, t3, g4]
      refine hn' (j - 1) _ _ (by omega) ⟨i + 1, by omega, by simp [t1], by simp, by simp [Bridge.enc], ?_⟩
      rw [List.take_add_one, List.all_append, hall]
      simp [hc, hd]
  · simp at hc
    simp [t1, t3]
    refine he' _ _ _ ?_
    simp [t1, builtinV, pureB, lenV, Bridge.enc, l1In]
    rw [List.take_of_length_le (by omega)] at hall
    repeat' (first | (refine gdL_t (fun h => ?_) (fun h => ?_) <;> simp [h, t1, l1In, builtinV, pureB, lenV]) | (refine gdL_f (fun h => ?_) (fun h => ?_) <;> simp [h, t1, l1In, builtinV, pureB, lenV]) | (refine selS_intro (fun h => ?_) (fun h => ?_) <;> simp [h, t1, l1In, builtinV, pureB, lenV]))
    all_goals (refine hQ _ _ _ (by simp) ?_)
    all_goals (simp [Tryz.f64, Bridge.ok, hall])
    all_goals (simp_all)
    all_goals (try (intros; omega))

def better (a b : Vec) : Bool := if a.root ≠ b.root then decide (a.root < b.root) else if a.cost ≠ b.cost then decide (a.cost < b.cost) else if a.bridge ≠ b.bridge then decide (a.bridge < b.bridge) else decide (a.port < b.port)
def cmpI' (a b : Int) : Int := if a < b then -1 else if b < a then 1 else 0
def orL (xs : List Int) : Int := (xs.find? fun x => !decide (x = 0)).getD 0

theorem specBetter (H : Heap) (x y : Vec) : run env 62 [.agg x.enc, .agg y.enc] H = some (.bool (better x y), H) := by
  obtain ⟨a1, a2, a3, a4⟩ := x
  obtain ⟨b1, b2, b3, b4⟩ := y
  refine run_walk ok62 Tryz.func62 rfl (by simp [Tryz.f62]) fun Q hQ => ?_
  simp only [Tryz.f62, strip, stripL, stripI, stripG, chkT, tagsB, tagsL, tagD, addT, tagA, lookN, tagOp, elmT, ty22, ty29, ty33, ty39, ty40, ty41, ty42, ty69, ty71, ty95, Nat.reduceEqDiff, if_false, reduceIte, Option.getD_some, Option.getD_none, dstAt, dstOk, Nat.reduceLT, decide_true, if_true]
  simp [Vec.enc]
  repeat' (first | (refine gdL_t (fun h => ?_) (fun h => ?_) <;> simp [h]) | (refine gdL_f (fun h => ?_) (fun h => ?_) <;> simp [h]) | (refine selS_intro (fun h => ?_) (fun h => ?_) <;> simp [h]))
  all_goals (refine hQ _ _ _ (by simp) ?_)
  all_goals (clear hQ; simp_all [Tryz.f62, better])

def rootSkip (b : Bridge) (p : Port) : Bool := !p.has || decide (p.vec.bridge = b.id) || decide (b.id ≤ p.vec.root) || decide (20 ≤ p.vec.cost) || decide (8 ≤ p.hops)
def rootStep (b : Bridge) (best : Int) (i : Nat) (p : Port) : Int := if rootSkip b p then best else if decide (best < 0) || better p.vec (b.ports.getD best.toNat default).vec then i else best
def rootUpto (b : Bridge) : Nat → Int
  | 0 => -1
  | i + 1 => match b.ports[i]? with
    | some p => rootStep b (rootUpto b i) i p
    | none => rootUpto b i
def rootAt (b : Bridge) : Int := rootUpto b b.ports.length
theorem rootUpto_lt (b : Bridge) : ∀ i, -1 ≤ rootUpto b i ∧ rootUpto b i < i
  | 0 => by simp [rootUpto]
  | i + 1 => by
    have ih := rootUpto_lt b i
    unfold rootUpto
    split
    · unfold rootStep
      split
      · omega
      · split <;> omega
    · omega
def rootPort (b : Bridge) : Int × Bool := if b.ok then (rootAt b, decide (0 ≤ rootAt b)) else (-1, false)

theorem specRootPort {H : Heap} {l : List Lf} {b : Bridge} (h : RdBridge H l b) (hn : b.sz ≤ 1048576) : run env 79 [.agg l] H = some (.tup [.lf (.i .i64 (rootPort b).1), .lf (.b (rootPort b).2)], H) := by
  have hR := h
  have eo := fun G => specBridgeOk_is (hR.app G) (by omega)
  have e1 := fun H (c1 c2 c3 c4 d1 d2 d3 d4 : Int) => specBetter H ⟨c1, c2, c3, c4⟩ ⟨d1, d2, d3, d4⟩
  simp only [Vec.enc] at e1
  obtain ⟨a, rfl, h_⟩ := h
  have hn : b.ports.length ≤ 1048576 := hn
  simp only [Bridge.enc] at eo
  refine run_walk ok79 Tryz.func79 rfl (by simp [Tryz.f79]) fun Q hQ => ?_
  simp only [Tryz.f79, strip, stripL, stripI, stripG, chkT, tagsB, tagsL, tagD, addT, tagA, lookN, tagOp, elmT, ty22, ty29, ty33, ty39, ty40, ty41, ty42, ty69, ty71, ty95, Nat.reduceEqDiff, if_false, reduceIte, Option.getD_some, Option.getD_none, dstAt, dstOk, Nat.reduceLT, decide_true, if_true]
  simp
  obtain ⟨B, hB⟩ : ∃ B : Option Blk, B = some ⟨31, .wr, [[.i .i64 b.id, .sl a b.ports.length]]⟩ := ⟨_, rfl⟩
  cases hok : b.ok
  · refine wpS_loop (fun j tm H' => tm 1 = .ptr H.length 0 0 ∧ tm 4 = .int (-1) ∧ tm 5 = .int 0 ∧ H' = H ++ [B]) 0 (by rw [env_K]; omega) ⟨by simp, by simp, by simp, by simp [hB, Bridge.enc]⟩ ?_
    rintro j tm H' hj ⟨t1, t4, t5, rfl⟩ Q2 hn2 he2 hr2
    simp [t1, t4, t5, hB, builtinV, pureB, lenV]
    rw [hok] at eo
    repeat' (first | (refine gdL_t (fun h => ?_) (fun h => ?_) <;> simp [h, t1, eo]) | (refine gdL_f (fun h => ?_) (fun h => ?_) <;> simp [h, t1, eo]) | (refine selS_intro (fun h => ?_) (fun h => ?_) <;> simp [h, t1, eo]))
    all_goals (refine he2 _ _ _ ?_)
    all_goals (simp [t4]; refine hQ _ _ _ (by simp) ?_; simp [Tryz.f79, rootPort, hok])
  · rw [hok] at eo
    refine wpS_loop (fun j tm H' => ∃ i T, i + j = b.ports.length ∧ tm 1 = .ptr H.length 0 0 ∧ tm 4 = .int (rootUpto b i) ∧ tm 5 = .int i ∧ H' = H ++ B :: T) b.ports.length (by rw [env_K]; omega) ⟨0, [], by simp, by simp, by simp [rootUpto], by simp, by simp [hB, Bridge.enc]⟩ ?_
    rintro j tm H' hj ⟨i, T, hij, t1, t4, t5, rfl⟩ Q2 hn2 he2 hr2
    simp [t1, t4, t5, hB, builtinV, pureB, lenV]
    refine gdL_t (fun hc => ?_) (fun hc => ?_)
    · simp [hc, eo, t1]
      simp at hc
      obtain ⟨id2, r, bl, rfl, hbl, hbe, hrow⟩ := h_ i _ (by simp [hc]; rfl)
      have hid := blkAt_len hbl
      have g4 : IntKind.i64.wrap ((i : Int) + 1) = (i : Int) + 1 := wrap64 (by omega) (by omega)
      have hlt := rootUpto_lt b i
      have hstep : rootUpto b (i + 1) = rootStep b (rootUpto b i) i b.ports[i] := by rw [rootUpto, List.getElem?_eq_getElem hc]
      have hskip : ∀ tm', tm' 1 = .ptr H.length 0 0 → tm' 4 = .int (rootUpto b (i + 1)) → tm' 5 = .int ((i : Int) + 1) → ∀ T', Q2 .normal tm' (H ++ some ⟨31, .wr, [[.i .i64 b.id, .sl (some (id2, r)) b.ports.length]]⟩ :: T') := fun tm' a1 a4 a5 T' =>
        hn2 (j - 1) _ _ (by omega) ⟨i + 1, T', by omega, a1, a4, by simpa using a5, by rw [hB]⟩
      obtain ⟨p, hp⟩ : ∃ p, p = b.ports[i] := ⟨_, rfl⟩
      rw [← hp] at hstep
      have skipped : rootSkip b p = true → rootUpto b (i + 1) = rootUpto b i := fun hs => by rw [hstep, rootStep, if_pos hs]
      simp [t1, t4, t5, indexAddrV, elemIs, hid, hbl, hbe, hc, hrow, ← hp, Port.enc]
      repeat' (first | (refine gdL_t (fun h => ?_) (fun h => ?_) <;> simp [h, t1, t4, t5, g4]) | (refine gdL_f (fun h => ?_) (fun h => ?_) <;> simp [h, t1, t4, t5, g4]) | (refine selS_intro (fun h => ?_) (fun h => ?_) <;> simp [h, t1, t4, t5, g4]))
      iterate 5 (refine hskip _ (by simp [t1]) ?_ (by simp) _; rw [skipped (by clear hQ hn2 he2 hr2 hskip; simp_all [rootSkip])]; simp [t4])
      · have hns : rootSkip b p = false := by clear hQ hn2 he2 hr2 hskip skipped; simp_all [rootSkip]
        refine hskip _ (by simp [t1]) ?_ (by simp) _
        rw [hstep, rootStep, hns]
        have h0 : rootUpto b i < 0 := by simpa using h
        simp [h0]
      · have hns : rootSkip b p = false := by clear hQ hn2 he2 hr2 hskip skipped; simp_all [rootSkip]
        have h0 : 0 ≤ rootUpto b i := by simpa using h
        have hki : (rootUpto b i).toNat < b.ports.length := by omega
        have hkl : rootUpto b i < (b.ports.length : Int) := by omega
        obtain ⟨id3, r3, bl3, hx3, hbl3, hbe3, hrow3⟩ := h_ (rootUpto b i).toNat _ (by simp [hki]; rfl)
        cases hx3
        rw [hbl] at hbl3
        injection hbl3 with hbl3
        subst hbl3
        have hgd : (b.ports.getD (rootUpto b i).toNat default) = b.ports[(rootUpto b i).toNat] := by simp [List.getD, List.getElem?_eq_getElem hki]
        have hnl : ¬ rootUpto b i < 0 := by omega
        rw [rootStep, hns, hgd] at hstep
        simp only [Bool.false_eq_true, if_false, hnl, decide_false, Bool.false_or] at hstep
        simp [t1, t4, t5, indexAddrV, elemIs, hid, hbl, hbe, h0, hkl, hrow3, Port.enc, e1]
        refine selS_intro (fun hd => ?_) (fun hd => ?_)
        · simp [t1, t4, t5, g4]
          refine hskip _ (by simp [t1]) ?_ (by simp) _
          rw [hstep, if_pos (by simpa using hd)]
          simp
        · simp [t1, t4, t5, g4]
          refine hskip _ (by simp [t1]) ?_ (by simp) _
          rw [hstep, if_neg (by simpa using hd)]
          simp [t4]
    · simp [hc]
      simp at hc
      obtain rfl : i = b.ports.length := by omega
      refine he2 _ _ _ ?_
      simp [t4]
      refine hQ _ _ _ (by simp) ?_
      simp [Tryz.f79, rootPort, rootAt, hok]
      exact decide_eq_decide.2 Iff.rfl

def bridgeNew (id ports : Int) : Bridge × Bool := if (decide (1 ≤ id) && decide (id ≤ 9)) && (decide (1 ≤ ports) && decide (ports ≤ 4)) then (⟨id, List.replicate ports.toNat Port.zv⟩, true) else (⟨0, []⟩, false)
theorem Port.zv_ok : Port.zv.ok = true := by decide
theorem bridgeNew_ok {id ports : Int} (h : (bridgeNew id ports).2 = true) : (bridgeNew id ports).1.ok = true := by
  unfold bridgeNew at h ⊢
  split at h
  · rename_i h1
    rw [if_pos h1]
    simp at h1
    have hl : (List.replicate ports.toNat Port.zv).all Port.ok = true := by
      rw [List.all_eq_true]; intro p hp; rw [(List.mem_replicate.1 hp).2]; exact Port.zv_ok
    simp only [Bridge.ok, hl, Bool.true_and, List.length_replicate, Bool.and_eq_true, decide_eq_true_eq]
    omega
  · simp at h

theorem l1Min (H : Heap) (a b : Int) : run env 63 [.int a, .int b] H = some (.int (if a < b then a else b), H) := by
  refine run_walk ok63 Tryz.func63 rfl (by simp [Tryz.f63]) fun Q hQ => ?_
  simp only [Tryz.f63, strip, stripL, stripI, stripG, chkT, tagsB, tagsL, tagD, addT, tagA, lookN, tagOp, elmT, ty22, ty29, ty33, ty39, ty40, ty41, ty42, ty69, ty71, ty95, Nat.reduceEqDiff, if_false, reduceIte, Option.getD_some, Option.getD_none, dstAt, dstOk, Nat.reduceLT, decide_true, if_true]
  simp
  refine selS_intro (fun h => ?_) (fun h => ?_)
  all_goals (simp; refine hQ _ _ _ (by simp) ?_; simp at h; simp [Tryz.f63]; omega)

def Wire.ok (w : Wire) : Bool := (decide (0 ≤ w.frm) && decide (w.frm ≤ 1)) && (decide (0 ≤ w.life) && decide (w.life ≤ 100000)) && (decide (0 ≤ w.n) && decide (w.n ≤ 100000)) && (if w.ack then decide (w.inn = ⟨0, 0, ⟨0, 0, 0, 0⟩, 0, false⟩) else w.inn.ok)

def Box.ok (x : Box) : Bool := (bridgeNew x.id x.ports).2 && x.reg.ok && decide (x.two.length = 2) && decide (x.net.length ≤ 20) && x.two.all Minder.ok && x.net.all Wire.ok && decide ((x.gates.length : Int) = x.ports) && logOk x.line && decide (x.said.length ≤ 40)

theorem specNew_ok (id ports : Int) : (⟨id, List.replicate (if ports < 5 then ports else 5).toNat Port.zv⟩ : Bridge).ok = (bridgeNew id ports).2 := by
  have hl : ∀ n, (List.replicate n Port.zv).all Port.ok = true := fun n => by
    rw [List.all_eq_true]; intro p hp; rw [(List.mem_replicate.1 hp).2]; exact Port.zv_ok
  by_cases h : (1 ≤ id ∧ id ≤ 9) ∧ 1 ≤ ports ∧ ports ≤ 4
  · have h1 : bridgeNew id ports = (⟨id, List.replicate ports.toNat Port.zv⟩, true) := by unfold bridgeNew; rw [if_pos (by simp; omega)]
    rw [h1, if_pos (by omega)]
    simp only [Bridge.ok, hl, Bool.true_and, List.length_replicate, Bool.and_eq_true, decide_eq_true_eq]
    omega
  · have h1 : bridgeNew id ports = (⟨0, []⟩, false) := by unfold bridgeNew; rw [if_neg (by simp; intros; omega)]
    rw [h1, Bool.eq_false_iff]
    simp only [Bridge.ok, hl, Bool.true_and, List.length_replicate, ne_eq, Bool.and_eq_true, decide_eq_true_eq]
    intro h2
    split at h2 <;> omega
theorem specBridgeNew (H : Heap) (id ports : Int) : Runs env 52 [.int id, .int ports] H fun v H' => ∃ l fp, v = .tup [.agg l, .lf (.b (bridgeNew id ports).2)] ∧ IsBridge H' l (bridgeNew id ports).1 fp ∧ Fresh H H' fp := by
  obtain ⟨n, hn⟩ : ∃ n, n = (if ports < 5 then ports else 5).toNat := ⟨_, rfl⟩
  have hn5 : n ≤ 5 := by rw [hn]; split <;> omega
  obtain ⟨C, hC⟩ : ∃ C : Option Blk, C = some ⟨31, .wr, [[.i .i64 0, .sl none 0]]⟩ := ⟨_, rfl⟩
  have e1 := fun H a b => l1Min H a b
  refine Runs.walk ok52 Tryz.func52 rfl (by simp [Tryz.f52]) fun Q hQ => ?_
  simp only [Tryz.f52, strip, stripL, stripI, stripG, chkT, tagsB, tagsL, tagD, addT, tagA, lookN, tagOp, elmT, ty22, ty29, ty33, ty39, ty40, ty41, ty42, ty69, ty71, ty95, Nat.reduceEqDiff, if_false, reduceIte, Option.getD_some, Option.getD_none, dstAt, dstOk, Nat.reduceLT, decide_true, if_true]
  simp
  refine wpS_loop (fun j tm H' => ∃ i a' fp G, i + j = n ∧ tm 0 = .int id ∧ tm 1 = .int ports ∧ tm 4 = .ptr H.length 0 0 ∧ tm 6 = .ptr (H.length + 1) 0 0 ∧ tm 7 = .int i ∧ H' = H ++ C :: some ⟨31, .wr, [[.i .i64 id, .sl a' i]]⟩ :: G ∧
      Own (H ++ C :: some ⟨31, .wr, [[.i .i64 id, .sl a' i]]⟩ :: G) 27 a' (List.replicate i Port.z) fp ∧ ∀ k ∈ fp, H.length + 2 ≤ k) n (by rw [env_K]; omega)
    ⟨0, none, [], [], by simp, by simp, by simp, by simp, by simp, by simp, by simp [hC], Own.nil _ _, by simp⟩ ?_
  rintro j tm H' hj ⟨i, a', fp, G, hij, t0, t1, t4, t6, t7, rfl, ho, hfp⟩ Q2 hn2 he2 hr2
  simp [t0, t1, t4, t6, t7, e1]
  refine selS_intro (fun hc => ?_) (fun hc => ?_)
  · simp at hc
    have hin : i < n := by rw [hn]; omega
    have g4 : IntKind.i64.wrap ((i : Int) + 1) = (i : Int) + 1 := wrap64 (by omega) (by omega)
    simp [t0, t1, t4, t6, t7]
    refine stpL_append (rows := List.replicate i Port.z) (ys := [Port.z]) (by simpa using ho.app _) (Sl.of (by simp)) rfl rfl rfl (by simp) (by simp; omega) (by simp) rfl ?_
    intro a2 H2 f2 o2 hk2 hf2
    obtain ⟨G2, rfl, -, -⟩ := Keep.cut (L := [_, _]) hk2 (by intro k hk; have := hfp k hk; simp; omega)
    have lo2 : ∀ k ∈ f2, H.length + 2 ≤ k := fun k hk => by
      rcases hf2 k hk with h | h
      · exact hfp k h
      · simp at h; omega
    have o3 := fun y => o2.keep (Keep.set (id := H.length + 1) _ y) (fun k hk => by have := lo2 k hk; simp; omega)
    simp at o3
    simp [t0, t1, t4, t6, t7, g4]
    refine hn2 (j - 1) _ _ (by omega) ⟨i + 1, a2, f2, G2, by omega, by simp [t0], by simp [t1], by simp [t4], by simp [t6], by simp, rfl, ?_, lo2⟩
    rw [List.replicate_succ']
    exact o3 _
  · simp at hc
    have hin : i = n := by rw [hn]; omega
    subst hin
    have hd : RdBridge (H ++ C :: some ⟨31, .wr, [[.i .i64 id, .sl a' i]]⟩ :: G) [.i .i64 id, .sl a' i] ⟨id, List.replicate i Port.zv⟩ := ⟨a', by simp [Bridge.enc], by simpa [Port.enc] using ho.sl⟩
    have e2 := specBridgeOk_is hd (by simp [Bridge.sz]; omega)
    have hok := specNew_ok id ports
    rw [← hn] at hok
    rw [hok] at e2
    simp [t0, t1, t4, t6, t7]
    refine he2 _ _ _ ?_
    simp [t4, t6, e2]
    refine selS_intro (fun hd => ?_) (fun hd => ?_)
    · simp at hd
      simp [t4, t6, hC]
      refine hQ _ _ _ (by simp) ?_
      have hb : bridgeNew id ports = (⟨0, []⟩, false) := by
        unfold bridgeNew at hd ⊢
        split at hd
        · cases hd
        · rename_i h; rw [if_neg h]
      simp [Tryz.f52, hb, t4]
      exact ⟨[], ⟨none, rfl, Own.nil _ _⟩, Fresh.refl _⟩
    · simp at hd
      simp [t4, t6, hC]
      refine hQ _ _ _ (by simp) ?_
      have hb : bridgeNew id ports = (⟨id, List.replicate i Port.zv⟩, true) := by
        unfold bridgeNew at hd ⊢
        split at hd
        · rename_i h
          rw [if_pos h]
          simp at h
          have : ports.toNat = i := by rw [hn, if_pos (by omega)]
          rw [this]
        · cases hd
      simp [Tryz.f52, hb, t4]
      have o5 := fun y => ho.keep (Keep.set (id := H.length) _ y) (fun k hk => by have := hfp k hk; simp; omega)
      simp at o5
      exact IsBridge.leave ⟨a', by simp [Bridge.enc], by simpa [Port.enc] using o5 _⟩ (Fresh.app H _ fun k hk => by have := hfp k hk; omega) (by simp)

theorem l14Net {H : Heap} {l : List Lf} {x : Box} (h : RdBox H l x) (hn : x.sz ≤ 2000000) : run env 90 [.agg l] H = some (.bool (x.net.all Wire.ok && decide ((x.net.length : Int) ≤ 20)), H) := by
  obtain ⟨q0, _, q2, q3, q4, rfl, -, ⟨a1, rfl, r1⟩, -, -, -⟩ := h
  unfold Box.sz at hn
  have e1 := fun H x => specInOk H x
  have e2 := fun H (b1 b2 c1 c2 c3 c4 b4 : Int) (b5 : Bool) => specInOk H ⟨b1, b2, ⟨c1, c2, c3, c4⟩, b4, b5⟩
  simp only [In.enc] at e2
  obtain ⟨B, hB⟩ : ∃ B : Option Blk, B = some ⟨44, .wr, [x.enc q0 (.sl a1 x.net.length) q2 q3 q4]⟩ := ⟨_, rfl⟩
  refine run_walk ok90 Tryz.func90 rfl (by simp [Tryz.f90]) fun Q hQ => ?_
  simp only [Tryz.f90, strip, stripL, stripI, stripG, chkT, tagsB, tagsL, tagD, addT, tagA, lookN, tagOp, elmT, ty22, ty29, ty33, ty39, ty40, ty41, ty42, ty69, ty71, ty95, Nat.reduceEqDiff, if_false, reduceIte, Option.getD_some, Option.getD_none, dstAt, dstOk, Nat.reduceLT, decide_true, if_true]
  simp
  refine wpS_loop (fun j tm H' => ∃ i T, i + j = x.net.length ∧ tm 1 = .ptr H.length 0 0 ∧ tm 3 = .int i ∧ H' = H ++ B :: T ∧ ∀ m ∈ x.net.take i, m.ok = true) x.net.length (by rw [env_K]; omega)
    ⟨0, _, by simp, by simp, by simp, by simp [hB]; rfl, by simp⟩ ?_
  rintro j tm H' hj ⟨i, T, hij, t1, t3, rfl, hall⟩ Q2 hn2 he2 hr2
  simp [t1, t3, hB, Box.enc, builtinV, pureB, lenV]
  refine selS_intro (fun hc => ?_) (fun hc => ?_)
  · simp at hc
    obtain ⟨id2, r, bl, rfl, hbl, hbe, hrow⟩ := r1 i _ (by simp [hc]; rfl)
    have hid := blkAt_len hbl
    have g4 : IntKind.i64.wrap ((i : Int) + 1) = (i : Int) + 1 := wrap64 (by omega) (by omega)
    have hbad : x.net[i].ok = false → ∀ tm, tm 2 = .bool false → ∀ T', Q2 .ret tm (H ++ some ⟨44, .wr, [x.enc q0 (.sl (some (id2, r)) x.net.length) q2 q3 q4]⟩ :: T') := by
      intro hx tm h2 T'
      refine hr2 _ _ ?_
      simp
      refine hQ _ _ _ (by simp) ?_
      have : x.net.all Wire.ok = false := List.all_eq_false.2 ⟨x.net[i], by simp, by simp [hx]⟩
      simp [Tryz.f90, h2, this]
    have hgood : x.net[i].ok = true → ∀ tm, tm 1 = .ptr H.length 0 0 → tm 3 = .int ((i : Int) + 1) → ∀ T', Q2 .normal tm (H ++ some ⟨44, .wr, [x.enc q0 (.sl (some (id2, r)) x.net.length) q2 q3 q4]⟩ :: T') := by
      intro hx tm a1 a3 T'
      refine hn2 (j - 1) _ _ (by omega) ⟨i + 1, T', by omega, a1, by simpa using a3, by rw [hB], ?_⟩
      intro m hm
      rw [List.take_add_one, List.getElem?_eq_getElem hc, List.mem_append] at hm
      rcases hm with hm | hm
      · exact hall m hm
      · simp at hm
        rw [hm]
        exact hx
    simp only [Box.enc] at hbad hgood
    obtain ⟨w, hw⟩ : ∃ w, w = x.net[i] := ⟨_, rfl⟩
    rw [← hw] at hbad hgood
    obtain ⟨w1, w2, w3, w4, ⟨b1, b2, ⟨c1, c2, c3, c4⟩, b4, b5⟩⟩ := w
    simp [t1, t3, indexAddrV, elemIs, hid, hbl, hbe, hc, hrow, ← hw, Wire.enc, l1In]
    repeat' (first | (refine gdL_t (fun h => ?_) (fun h => ?_) <;> simp [h, t1, t3, l1In, e2, g4]) | (refine gdL_f (fun h => ?_) (fun h => ?_) <;> simp [h, t1, t3, l1In, e2, g4]) | (refine selS_intro (fun h => ?_) (fun h => ?_) <;> simp [h, t1, t3, l1In, e2, g4]))
    iterate 3 (refine hbad ?_ _ (by simp) _; rw [Wire.ok]; clear hbad hgood hQ hn2 he2 hr2 e1 e2; simp_all; try omega)
    · refine hbad ?_ _ (by simp) _
      rw [Wire.ok]; clear hbad hgood hQ hn2 he2 hr2 e1 e2; simp_all; try (intros; simp_all)
    · refine hgood ?_ _ (by simp [t1]) (by simp) _
      rw [Wire.ok]; clear hbad hgood hQ hn2 he2 hr2 e1 e2; simp_all; try (intros; simp_all)
    · refine hbad ?_ _ (by simp) _
      rw [Wire.ok]; clear hbad hgood hQ hn2 he2 hr2 e1 e2; simp_all; try (intros; simp_all)
    · refine hgood ?_ _ (by simp [t1]) (by simp) _
      rw [Wire.ok]; clear hbad hgood hQ hn2 he2 hr2 e1 e2; simp_all; try (intros; simp_all)
  · simp at hc
    rw [List.take_of_length_le (by omega)] at hall
    have halln : x.net.all Wire.ok = true := List.all_eq_true.2 hall
    simp [t1, t3]
    refine he2 _ _ _ ?_
    simp [t1, hB, Box.enc, builtinV, pureB, lenV]
    refine hQ _ _ _ (by simp) ?_
    simp [Tryz.f90, halln]

theorem specBoxOk_is {H : Heap} {l : List Lf} {x : Box} (h : RdBox H l x) (hn : x.sz ≤ 2000000) : run env 74 [.agg l] H = some (.bool x.ok, H) := by
  have hR := h
  obtain ⟨_, _, _, _, _, rfl, ⟨a0, rws, rfl, hs, hlen, hat⟩, ⟨a1, rfl, r1⟩, ⟨a2, rfl, r2⟩, ⟨a3, rfl, r3⟩, ⟨a4, rfl, r4⟩⟩ := h
  have hn0 := hn
  unfold Box.sz at hn
  have hl0 := MinderS.sz_len x.two
  have er := fun H => specRegOk H x.reg
  have el := fun G => specLogOk (H ++ G) a3 x.line (r3.app G) (by omega)
  have en := fun G => l14Net (hR.app G) hn0
  simp only [Reg.enc] at er
  simp only [Box.enc] at en
  refine run_walk ok74 Tryz.func74 rfl (by simp [Tryz.f74]) fun Q hQ => ?_
  simp only [Tryz.f74, strip, stripL, stripI, stripG, chkT, tagsB, tagsL, tagD, addT, tagA, lookN, tagOp, elmT, ty22, ty29, ty33, ty39, ty40, ty41, ty42, ty69, ty71, ty95, Nat.reduceEqDiff, if_false, reduceIte, Option.getD_some, Option.getD_none, dstAt, dstOk, Nat.reduceLT, decide_true, if_true]
  have bad : x.ok = false → ∀ tm H', (∃ G, H' = H ++ G) → tm 2 = .bool false → Q .ret tm H' := by
    rintro hx tm _ ⟨G, rfl⟩ h4
    refine hQ _ _ _ (by simp) ?_
    simp [Tryz.f74, h4, hx]
  simp [Box.enc]
  refine stpL_runs (specBridgeNew _ _ _) ?_
  rintro _ _ ⟨lb, fb, rfl, ob, ⟨⟨G0, rfl⟩, -⟩⟩
  have hbL := ob.len
  by_cases h2 : x.two.length = 2
  · obtain ⟨m0, m1, hm⟩ : ∃ m0 m1, x.two = [m0, m1] := by
      match hx : x.two, h2 with
      | [m0, m1], _ => exact ⟨m0, m1, rfl⟩
    obtain ⟨l0, l1, hrw⟩ : ∃ l0 l1, rws = [l0, l1] := by
      match hx : rws, (by rw [hlen, h2] : rws.length = 2) with
      | [l0, l1], _ => exact ⟨l0, l1, rfl⟩
    subst hrw
    rw [hm] at hat
    obtain ⟨id2, r, bl, rfl, hbl, hbe, hrow0⟩ := hs 0 l0 rfl
    obtain ⟨id3, r3', bl3, hx3, hbl3, hbe3, hrow1⟩ := hs 1 l1 rfl
    cases hx3
    rw [hbl] at hbl3
    injection hbl3 with hbl3
    subst hbl3
    have hid := blkAt_len hbl
    have he0 := hat 0 l0 m0 rfl rfl
    have he1 := hat 1 l1 m1 rfl rfl
    have hs0 := MinderS.sz_at (xs := x.two) (x := m0) (by simp [hm])
    have hs1 := MinderS.sz_at (xs := x.two) (x := m1) (by simp [hm])
    have e0 := fun G => specMinderOk_is (he0.app G) (by omega)
    have e1 := fun G => specMinderOk_is (he1.app G) (by omega)
    have hL0 := he0.len
    have hT0 : l0.take l0.length = l0 := List.take_length
    rw [hL0] at hT0
    have hL1 := he1.len
    have hT1 : l1.take l1.length = l1 := List.take_length
    rw [hL1] at hT1
    have hbase : x.ok = ((bridgeNew x.id x.ports).2 && x.reg.ok && m0.ok && m1.ok && (x.net.all Wire.ok && decide ((x.net.length : Int) ≤ 20)) && decide ((x.gates.length : Int) = x.ports) && logOk x.line && decide ((x.said.length : Int) ≤ 40)) := by
      have e20 : decide (x.net.length ≤ 20) = decide ((x.net.length : Int) ≤ 20) := by rw [decide_eq_decide]; omega
      have e40 : decide (x.said.length ≤ 40) = decide ((x.said.length : Int) ≤ 40) := by rw [decide_eq_decide]; omega
      have ea : x.two.all Minder.ok = (m0.ok && m1.ok) := by rw [hm]; simp
      have e2 : decide (x.two.length = 2) = true := by simpa using h2
      unfold Box.ok
      rw [e20, e40, ea, e2]
      cases (bridgeNew x.id x.ports).2 <;> cases x.reg.ok <;> cases m0.ok <;> cases m1.ok <;> cases x.net.all Wire.ok <;> cases decide ((x.net.length : Int) ≤ 20) <;> rfl
    simp only [Nat.add_zero] at hrow0
    simp only [h2] at en
    simp [hbL, er, h2, builtinV, pureB, lenV, indexAddrV, elemIs, hid, hbl, hbe, hrow0, hrow1, hL0, hT0, hL1, hT1, e0, e1]
    repeat' (first | (refine gdL_t (fun h => ?_) (fun h => ?_) <;> simp [h, hbL, er, h2, builtinV, pureB, lenV, indexAddrV, elemIs, hid, hbl, hbe, hrow0, hrow1, hL0, hT0, hL1, hT1, e0, e1, en, el]) | (refine gdL_f (fun h => ?_) (fun h => ?_) <;> simp [h, hbL, er, h2, builtinV, pureB, lenV, indexAddrV, elemIs, hid, hbl, hbe, hrow0, hrow1, hL0, hT0, hL1, hT1, e0, e1, en, el]) | (refine selS_intro (fun h => ?_) (fun h => ?_) <;> simp [h, hbL, er, h2, builtinV, pureB, lenV, indexAddrV, elemIs, hid, hbl, hbe, hrow0, hrow1, hL0, hT0, hL1, hT1, e0, e1, en, el]))
    all_goals (refine hQ _ _ _ (by simp) ?_)
    all_goals (rw [hbase])
    all_goals (clear hbase; simp [Tryz.f74])
    all_goals (clear hQ; simp_all)
    all_goals (try omega)
    all_goals (try (intro ha hb; have := h ha; omega))
  · have hx : x.ok = false := by simp [Box.ok, h2]
    have h2i : ¬ (x.two.length : Int) = 2 := by omega
    simp [hbL, er, h2i, builtinV, pureB, lenV]
    repeat' (first | (refine gdL_t (fun h => ?_) (fun h => ?_) <;> simp [h, hbL, er, h2i, builtinV, pureB, lenV]) | (refine gdL_f (fun h => ?_) (fun h => ?_) <;> simp [h, hbL, er, h2i, builtinV, pureB, lenV]) | (refine selS_intro (fun h => ?_) (fun h => ?_) <;> simp [h, hbL, er, h2i, builtinV, pureB, lenV]))
    all_goals exact bad hx _ _ ⟨_, rfl⟩ (by simp)

def hopsOk (h : Int) : Bool := decide (0 ≤ h) && decide (h ≤ 8)
def claimP (p : Port) (v : Vec) (h : Int) : Port :=
  if (p.ok && p.up && v.ok && hopsOk h) = false then p
  else if (p.has && better p.vec v && !(decide (v.bridge = p.vec.bridge) && decide (v.port = p.vec.port))) = true then p
  else ⟨p.up, true, v, h, 3, p.role, p.wait, p.opn⟩
theorem claimP_ok {p : Port} (v : Vec) (h : Int) (hp : p.ok = true) : (claimP p v h).ok = true := by
  unfold claimP
  split
  · exact hp
  · rename_i h1
    split
    · exact hp
    · have h2 : p.ok = true ∧ p.up = true ∧ v.ok = true ∧ hopsOk h = true := by
        cases a : p.ok <;> cases b : p.up <;> cases c : v.ok <;> cases d : hopsOk h <;> simp_all
      obtain ⟨-, h3, h4, h5⟩ := h2
      simp [hopsOk] at h5
      simp [Port.ok] at hp ⊢
      simp_all
theorem claimP_up (p : Port) (v : Vec) (h : Int) : (claimP p v h).up = p.up := by unfold claimP; split <;> (try split) <;> rfl

theorem specClaim (H : Heap) (p : Port) (v : Vec) (ho : Int) : run env 46 [.agg p.enc, .agg v.enc, .int ho] H = some (.agg (claimP p v ho).enc, H) := by
  obtain ⟨a1, a2, ⟨b1, b2, b3, b4⟩, a4, a5, a6, a7, a8⟩ := p
  obtain ⟨c1, c2, c3, c4⟩ := v
  have e1 := fun H => specVecOk H ⟨c1, c2, c3, c4⟩
  have e2 := fun H => specPortOk H ⟨a1, a2, ⟨b1, b2, b3, b4⟩, a4, a5, a6, a7, a8⟩
  have e3 := fun H => specBetter H ⟨b1, b2, b3, b4⟩ ⟨c1, c2, c3, c4⟩
  simp only [Vec.enc, Port.enc] at e1 e2 e3
  have hcl : claimP ⟨a1, a2, ⟨b1, b2, b3, b4⟩, a4, a5, a6, a7, a8⟩ ⟨c1, c2, c3, c4⟩ ho = if ((⟨a1, a2, ⟨b1, b2, b3, b4⟩, a4, a5, a6, a7, a8⟩ : Port).ok && a1 && (⟨c1, c2, c3, c4⟩ : Vec).ok && (decide (0 ≤ ho) && decide (ho ≤ 8))) = false then ⟨a1, a2, ⟨b1, b2, b3, b4⟩, a4, a5, a6, a7, a8⟩
    else if (a2 && better ⟨b1, b2, b3, b4⟩ ⟨c1, c2, c3, c4⟩ && !(decide (c3 = b3) && decide (c4 = b4))) = true then ⟨a1, a2, ⟨b1, b2, b3, b4⟩, a4, a5, a6, a7, a8⟩ else ⟨a1, true, ⟨c1, c2, c3, c4⟩, ho, 3, a6, a7, a8⟩ := rfl
  rw [hcl]
  clear hcl
  have e4 := fun H => l1In H ho 0 8
  generalize (decide (0 ≤ ho) && decide (ho ≤ 8)) = hok at e4 ⊢
  generalize (⟨a1, a2, ⟨b1, b2, b3, b4⟩, a4, a5, a6, a7, a8⟩ : Port).ok = pok at e2 ⊢
  generalize (⟨c1, c2, c3, c4⟩ : Vec).ok = vok at e1 ⊢
  generalize better ⟨b1, b2, b3, b4⟩ ⟨c1, c2, c3, c4⟩ = bet at e3 ⊢
  refine run_walk ok46 Tryz.func46 rfl (by simp [Tryz.f46]) fun Q hQ => ?_
  simp only [Tryz.f46, strip, stripL, stripI, stripG, chkT, tagsB, tagsL, tagD, addT, tagA, lookN, tagOp, elmT, ty22, ty29, ty33, ty39, ty40, ty41, ty42, ty69, ty71, ty95, Nat.reduceEqDiff, if_false, reduceIte, Option.getD_some, Option.getD_none, dstAt, dstOk, Nat.reduceLT, decide_true, if_true]
  simp [Port.enc, Vec.enc, e4, e1, e2, e3]
  repeat' (first | (refine gdL_t (fun h => ?_) (fun h => ?_) <;> simp [h, e4, e1, e2, e3]) | (refine gdL_f (fun h => ?_) (fun h => ?_) <;> simp [h, e4, e1, e2, e3]) | (refine selS_intro (fun h => ?_) (fun h => ?_) <;> simp [h, e4, e1, e2, e3]))
  all_goals (refine hQ _ _ _ (by simp) ?_)
  all_goals (clear hQ e1 e2 e3 e4; simp [Tryz.f46])
  all_goals ((repeat' split) <;> simp_all [Port.enc, Vec.enc] <;> omega)

def fadeP (p : Port) : Port := if (p.has && p.ok) = false then p else if p.left = 1 then ⟨p.up, false, Vec.zv, 0, 0, p.role, p.wait, p.opn⟩ else ⟨p.up, p.has, p.vec, p.hops, p.left - 1, p.role, p.wait, p.opn⟩
theorem fadeP_ok {p : Port} (hp : p.ok = true) : (fadeP p).ok = true := by
  unfold fadeP
  split
  · exact hp
  · rename_i h1
    simp [Port.ok] at h1 hp ⊢
    split <;> simp_all <;> omega
theorem fadeP_rest (p : Port) : (fadeP p).up = p.up ∧ (fadeP p).role = p.role ∧ (fadeP p).wait = p.wait ∧ (fadeP p).opn = p.opn := by
  unfold fadeP; split <;> (try split) <;> simp

theorem specFade (H : Heap) (p : Port) : run env 49 [.agg p.enc] H = some (.agg (fadeP p).enc, H) := by
  obtain ⟨a1, a2, ⟨b1, b2, b3, b4⟩, a4, a5, a6, a7, a8⟩ := p
  have e2 := fun H => specPortOk H ⟨a1, a2, ⟨b1, b2, b3, b4⟩, a4, a5, a6, a7, a8⟩
  have w : (⟨a1, a2, ⟨b1, b2, b3, b4⟩, a4, a5, a6, a7, a8⟩ : Port).ok = true → a2 = true → IntKind.i64.wrap (a5 - 1) = a5 - 1 := fun h h2 => by
    simp [Port.ok, h2] at h
    exact wrap64 (by omega) (by omega)
  have w2 : a5 - 1 = 0 ↔ a5 = 1 := by omega
  simp only [Vec.enc, Port.enc] at e2
  refine run_walk ok49 Tryz.func49 rfl (by simp [Tryz.f49]) fun Q hQ => ?_
  simp only [Tryz.f49, strip, stripL, stripI, stripG, chkT, tagsB, tagsL, tagD, addT, tagA, lookN, tagOp, elmT, ty22, ty29, ty33, ty39, ty40, ty41, ty42, ty69, ty71, ty95, Nat.reduceEqDiff, if_false, reduceIte, Option.getD_some, Option.getD_none, dstAt, dstOk, Nat.reduceLT, decide_true, if_true]
  simp [Port.enc, Vec.enc, e2]
  cases a2
  · skip
    repeat' (first | (refine gdL_t (fun h => ?_) (fun h => ?_) <;> simp [h, e2]) | (refine gdL_f (fun h => ?_) (fun h => ?_) <;> simp [h, e2]) | (refine selS_intro (fun h => ?_) (fun h => ?_) <;> simp [h, e2]))
    all_goals (refine hQ _ _ _ (by simp) ?_)
    all_goals (simp [Tryz.f49, Port.enc, fadeP])
  cases hok : (⟨a1, true, ⟨b1, b2, b3, b4⟩, a4, a5, a6, a7, a8⟩ : Port).ok
  · simp [e2, hok]
    refine hQ _ _ _ (by simp) ?_
    simp [Tryz.f49, Port.enc, fadeP, hok]
  · rw [hok] at e2
    simp [e2, w hok rfl, w2]
    by_cases h1 : a5 = 1
    · subst h1
      simp
      refine hQ _ _ _ (by simp) ?_
      simp [Tryz.f49, Port.enc, fadeP, hok]
    · simp [h1]
      refine hQ _ _ _ (by simp) ?_
      simp [Tryz.f49, Port.enc, fadeP, hok, h1]

def turnW (p : Port) (role : Int) : Int := if role = 3 then 0 else if p.role = 3 then 4 else p.wait
def turnP (p : Port) (role : Int) : Port := if (p.ok && p.up && (decide (1 ≤ role) && decide (role ≤ 3))) = false then p else ⟨p.up, p.has, p.vec, p.hops, p.left, role, turnW p role, openBy role (turnW p role)⟩
theorem turnP_ok {p : Port} (role : Int) (hp : p.ok = true) : (turnP p role).ok = true := by
  unfold turnP
  split
  · exact hp
  · rename_i h1
    have hw : 0 ≤ turnW p role ∧ turnW p role ≤ 4 := by
      simp [Port.ok] at hp
      unfold turnW; split
      · omega
      · split <;> omega
    simp [Port.ok] at h1 hp ⊢
    simp_all
    omega
theorem turnP_rest (p : Port) (role : Int) : (turnP p role).up = p.up ∧ (turnP p role).has = p.has ∧ (turnP p role).vec = p.vec ∧ (turnP p role).hops = p.hops ∧ (turnP p role).left = p.left := by
  unfold turnP; split <;> simp

theorem l7Open (H : Heap) (p : Port) : run env 47 [.agg p.enc] H = some (.agg ({ p with opn := openBy p.role p.wait } : Port).enc, H) := by
  obtain ⟨a1, a2, ⟨b1, b2, b3, b4⟩, a4, a5, a6, a7, a8⟩ := p
  refine run_walk ok47 Tryz.func47 rfl (by simp [Tryz.f47]) fun Q hQ => ?_
  simp only [Tryz.f47, strip, stripL, stripI, stripG, chkT, tagsB, tagsL, tagD, addT, tagA, lookN, tagOp, elmT, ty22, ty29, ty33, ty39, ty40, ty41, ty42, ty69, ty71, ty95, Nat.reduceEqDiff, if_false, reduceIte, Option.getD_some, Option.getD_none, dstAt, dstOk, Nat.reduceLT, decide_true, if_true]
  simp [Port.enc]
  repeat' (first | (refine gdL_t (fun h => ?_) (fun h => ?_) <;> simp [h]) | (refine gdL_f (fun h => ?_) (fun h => ?_) <;> simp [h]) | (refine selS_intro (fun h => ?_) (fun h => ?_) <;> simp [h]))
  all_goals (refine hQ _ _ _ (by simp) ?_)
  all_goals (clear hQ; simp_all [Tryz.f47, openBy, Port.enc])

theorem specTurn (H : Heap) (p : Port) (role : Int) : run env 50 [.agg p.enc, .int role] H = some (.agg (turnP p role).enc, H) := by
  obtain ⟨a1, a2, ⟨b1, b2, b3, b4⟩, a4, a5, a6, a7, a8⟩ := p
  have e2 := fun H => specPortOk H ⟨a1, a2, ⟨b1, b2, b3, b4⟩, a4, a5, a6, a7, a8⟩
  have e4 := fun H a1 a2 b1 b2 b3 b4 a4 a5 a6 a7 a8 => l7Open H ⟨a1, a2, ⟨b1, b2, b3, b4⟩, a4, a5, a6, a7, a8⟩
  simp only [Vec.enc, Port.enc] at e2 e4
  have e5 := fun H => l1In H role 1 3
  unfold turnP
  generalize (decide (1 ≤ role) && decide (role ≤ 3)) = rok at e5 ⊢
  refine run_walk ok50 Tryz.func50 rfl (by simp [Tryz.f50]) fun Q hQ => ?_
  simp only [Tryz.f50, strip, stripL, stripI, stripG, chkT, tagsB, tagsL, tagD, addT, tagA, lookN, tagOp, elmT, ty22, ty29, ty33, ty39, ty40, ty41, ty42, ty69, ty71, ty95, Nat.reduceEqDiff, if_false, reduceIte, Option.getD_some, Option.getD_none, dstAt, dstOk, Nat.reduceLT, decide_true, if_true]
  simp [Port.enc, Vec.enc, e5, e2]
  repeat' (first | (refine gdL_t (fun h => ?_) (fun h => ?_) <;> simp [h, e5, e2, e4]) | (refine gdL_f (fun h => ?_) (fun h => ?_) <;> simp [h, e5, e2, e4]) | (refine selS_intro (fun h => ?_) (fun h => ?_) <;> simp [h, e5, e2, e4]))
  all_goals (refine hQ _ _ _ (by simp) ?_)
  all_goals (clear hQ e2 e4 e5; simp [Tryz.f50]; unfold turnW; (repeat' split) <;> simp_all [Port.enc, Vec.enc])

/-- What a tick makes of a port that is right. -/
def tickW (q : Port) : Int := if (decide (q.role = 1) || decide (q.role = 2)) && decide (0 < q.wait) then q.wait - 1 else q.wait
def tickP (p : Port) : Port := ⟨(fadeP p).up, (fadeP p).has, (fadeP p).vec, (fadeP p).hops, (fadeP p).left, (fadeP p).role, tickW (fadeP p), openBy (fadeP p).role (tickW (fadeP p))⟩
theorem tickP_ok {p : Port} (hp : p.ok = true) : (tickP p).ok = true := by
  have h := fadeP_ok hp
  have hw : 0 ≤ tickW (fadeP p) ∧ tickW (fadeP p) ≤ 4 := by
    simp [Port.ok] at h
    unfold tickW; split <;> simp_all <;> omega
  unfold tickP
  simp [Port.ok] at h ⊢
  simp_all

theorem l8Tick (H : Heap) (p : Port) (hp : p.ok = true) : run env 77 [.agg p.enc] H = some (.agg (tickP p).enc, H) := by
  have e1 := fun H => specFade H p
  have hok := fadeP_ok hp
  obtain ⟨q, hq⟩ : ∃ q, q = fadeP p := ⟨_, rfl⟩
  have hx : tickP p = ⟨q.up, q.has, q.vec, q.hops, q.left, q.role, tickW q, openBy q.role (tickW q)⟩ := by rw [hq]; rfl
  rw [hx]
  rw [← hq] at e1 hok
  clear hx hq hp
  obtain ⟨a1, a2, ⟨b1, b2, b3, b4⟩, a4, a5, a6, a7, a8⟩ := p
  obtain ⟨q1, q2, ⟨c1, c2, c3, c4⟩, q4, q5, q6, q7, q8⟩ := q
  have w : IntKind.i64.wrap (q7 - 1) = q7 - 1 := by
    simp [Port.ok] at hok
    exact wrap64 (by omega) (by omega)
  have e4 := fun H a1 a2 b1 b2 b3 b4 a4 a5 a6 a7 a8 => l7Open H ⟨a1, a2, ⟨b1, b2, b3, b4⟩, a4, a5, a6, a7, a8⟩
  simp only [Vec.enc, Port.enc] at e1 e4
  refine run_walk ok77 Tryz.func77 rfl (by simp [Tryz.f77]) fun Q hQ => ?_
  simp only [Tryz.f77, strip, stripL, stripI, stripG, chkT, tagsB, tagsL, tagD, addT, tagA, lookN, tagOp, elmT, ty22, ty29, ty33, ty39, ty40, ty41, ty42, ty69, ty71, ty95, Nat.reduceEqDiff, if_false, reduceIte, Option.getD_some, Option.getD_none, dstAt, dstOk, Nat.reduceLT, decide_true, if_true]
  simp [Port.enc, Vec.enc, e1]
  repeat' (first | (refine gdL_t (fun h => ?_) (fun h => ?_) <;> simp [h, e1, e4, w]) | (refine gdL_f (fun h => ?_) (fun h => ?_) <;> simp [h, e1, e4, w]) | (refine selS_intro (fun h => ?_) (fun h => ?_) <;> simp [h, e1, e4, w]))
  all_goals (refine hQ _ _ _ (by simp) ?_)
  all_goals (clear hQ e1 e4; simp [Tryz.f77]; unfold tickW; (repeat' split) <;> simp_all [Port.enc, Vec.enc] <;> omega)

theorem kont_app {E : Env} {call : Fun} (f2 : List Fr) : ∀ (f1 : List Fr) (e : Ex) (tm : Ab.T) (H : Heap) (Q : Ex → Ab.T → Heap → Prop), kont E call (f1 ++ f2) e tm H Q = kont E call f1 e tm H fun e tm H => kont E call f2 e tm H Q
  | [], e, tm, H, Q => rfl
  | .seq c :: f1, .normal, tm, H, Q => by
    simp only [List.cons_append, kont]
    refine wpC_ext fun e tm H => ?_
    exact kont_app f2 f1 e tm H Q
  | .seq c :: f1, .exit j, tm, H, Q => by
    simp only [List.cons_append, kont]
    exact kont_app f2 f1 _ tm H Q
  | .seq c :: f1, .ret, tm, H, Q => by
    simp only [List.cons_append, kont]
    exact kont_app f2 f1 _ tm H Q
  | .blk id :: f1, .exit j, tm, H, Q => by
    simp only [List.cons_append, kont]
    split
    · exact kont_app f2 f1 _ tm H Q
    · exact kont_app f2 f1 _ tm H Q
  | .blk id :: f1, .normal, tm, H, Q => by
    simp only [List.cons_append, kont]
    exact kont_app f2 f1 _ tm H Q
  | .blk id :: f1, .ret, tm, H, Q => by
    simp only [List.cons_append, kont]
    exact kont_app f2 f1 _ tm H Q
theorem wpS_app {E : Env} {call : Fun} {c : C2} {f1 f2 : List Fr} {tm : Ab.T} {H : Heap} {Q : Ex → Ab.T → Heap → Prop} (h : wpS E call c f1 tm H fun e tm H => kont E call f2 e tm H Q) : wpS E call c (f1 ++ f2) tm H Q := by
  unfold wpS at h ⊢
  have : (fun e tm H => kont E call (f1 ++ f2) e tm H Q) = fun e tm H => kont E call f1 e tm H fun e tm H => kont E call f2 e tm H Q := by
    funext e tm H
    exact kont_app f2 f1 e tm H Q
  rw [this]
  exact h
/-- What stands ahead, and what is behind it: a cut. -/
theorem wpS_cut {E : Env} {call : Fun} {c : C2} {f1 fr : List Fr} {rest : C2} {tm : Ab.T} {H : Heap} {Q : Ex → Ab.T → Heap → Prop} (I : Ab.T → Heap → Prop)
    (h1 : ∀ Q' : Ex → Ab.T → Heap → Prop, (∀ tm H, I tm H → Q' .normal tm H) → (∀ j tm H, kont E call fr (.exit j) tm H Q → Q' (.exit j) tm H) → (∀ tm H, kont E call fr .ret tm H Q → Q' .ret tm H) → wpS E call c f1 tm H Q')
    (h2 : ∀ tm H, I tm H → wpS E call rest fr tm H Q) : wpS E call c (f1 ++ .seq rest :: fr) tm H Q := by
  refine wpS_app (h1 _ (fun tm H hI => ?_) (fun j tm H h => ?_) (fun tm H h => ?_))
  · rw [kont_seq_n]; exact h2 tm H hI
  · rw [kont_seq_e]; exact h
  · rw [kont_seq_r]; exact h
theorem selS_cut {E : Env} {call : Fun} {b : Bool} {x y rest : C2} {f1 fr : List Fr} {tm : Ab.T} {H : Heap} {Q : Ex → Ab.T → Heap → Prop} (I : Ab.T → Heap → Prop)
    (h1 : ∀ Q' : Ex → Ab.T → Heap → Prop, (∀ tm H, I tm H → Q' .normal tm H) → (∀ j tm H, kont E call fr (.exit j) tm H Q → Q' (.exit j) tm H) → (∀ tm H, kont E call fr .ret tm H Q → Q' .ret tm H) → selS E call (.w (.lf (.b b))) x y f1 tm H Q')
    (h2 : ∀ tm H, I tm H → wpS E call rest fr tm H Q) : selS E call (.w (.lf (.b b))) x y (f1 ++ .seq rest :: fr) tm H Q := by
  cases b
  · exact wpS_cut I (fun Q' a b c => by have := h1 Q' a b c; simpa using this) h2
  · exact wpS_cut I (fun Q' a b c => by have := h1 Q' a b c; simpa using this) h2
/-- A call, within a region that draws its order, of one that may write. -/
theorem stpL_runs_w {E : Env} {call : Fun} {draw : Bool} {tm : Ab.T} {H : Heap} {Q : Ex → Ab.T → Heap → Prop} {fr : List Fr} {is : List I2} {f : Nat} {args : List V} {d : Option Nat} {K : V → Heap → Prop} {x y : List (Nat × Nat × Nat)} (h : Runs E f args H K) (hw : E.wr f = true) (hf : ∀ v H', K v H' → H.length ≤ H'.length)
    (hk : ∀ v H', K v H' → stpL E call (some (v, H')) d draw is fr tm Q) (hn : E.wt f = none := by rfl) : stpL E call (guardCall E draw (.w (.lf (.fn f x y))) H (run E f args H)) d draw is fr tm Q := by
  obtain ⟨v, H', hr, hK⟩ := h
  have : guardCall E draw (.w (.lf (.fn f x y))) H (run E f args H) = some (v, H') := by
    rw [hr]
    unfold guardCall
    split
    · rfl
    · simp [hw, hf v H' hK, hn, onlyT]
  rw [this]
  exact hk v H' hK

/-- The first i elements turned. -/
def mixL {α : Type} (f : Nat → α → α) (xs : List α) (i : Nat) : List α := xs.mapIdx fun k x => if k < i then f k x else x
@[simp] theorem mixL_len {α : Type} (f : Nat → α → α) (xs : List α) (i : Nat) : (mixL f xs i).length = xs.length := by simp [mixL]
theorem mixL_zero {α : Type} (f : Nat → α → α) (xs : List α) : mixL f xs 0 = xs := by
  refine List.ext_getElem? fun k => ?_
  simp [mixL, List.getElem?_mapIdx]
theorem mixL_all {α : Type} (f : Nat → α → α) (xs : List α) {i : Nat} (h : xs.length ≤ i) : mixL f xs i = xs.mapIdx f := by
  refine List.ext_getElem? fun k => ?_
  simp only [mixL, List.getElem?_mapIdx]
  cases hx : xs[k]? with
  | none => rfl
  | some x =>
    have := (List.getElem?_eq_some_iff.1 hx).1
    simp; omega
theorem mixL_at {α : Type} (f : Nat → α → α) (xs : List α) {i k : Nat} (h : i ≤ k) : (mixL f xs i)[k]? = xs[k]? := by
  simp only [mixL, List.getElem?_mapIdx]
  cases hx : xs[k]? with
  | none => rfl
  | some x => simp; omega
theorem mixL_step {α : Type} (f : Nat → α → α) (xs : List α) {i : Nat} (h : i < xs.length) : (mixL f xs i).set i (f i xs[i]) = mixL f xs (i + 1) := by
  refine List.ext_getElem? fun k => ?_
  rw [List.getElem?_set]
  split
  · rename_i he
    subst he
    simp [mixL, h]
  · rename_i he
    simp only [mixL, List.getElem?_mapIdx]
    cases hx : xs[k]? with
    | none => rfl
    | some x =>
      simp only [Option.map_some]
      congr 1
      split
      · rw [if_pos (by omega)]
      · rw [if_neg (by omega)]
theorem mixL_same {α : Type} (f : Nat → α → α) (xs : List α) {i : Nat} (h : i < xs.length) (he : f i xs[i] = xs[i]) : mixL f xs (i + 1) = mixL f xs i := by
  rw [← mixL_step f xs h, he]
  refine List.ext_getElem? fun k => ?_
  rw [List.getElem?_set]
  split
  · rename_i he
    subst he
    rw [mixL_at f xs (Nat.le_refl _), List.getElem?_eq_getElem h]
    simp [h]
  · rfl

/-- Elements made one behind the other. -/
def upto {α : Type} (f : Nat → List α) : Nat → List α
  | 0 => []
  | i + 1 => upto f i ++ f i
theorem upto_len {α : Type} {f : Nat → List α} (h : ∀ i, (f i).length ≤ 1) : ∀ i, (upto f i).length ≤ i
  | 0 => by simp [upto]
  | i + 1 => by
    have := upto_len h i
    have := h i
    simp [upto]; omega
theorem upto_all {α : Type} {f : Nat → List α} {p : α → Prop} (h : ∀ i, ∀ x ∈ f i, p x) : ∀ i, ∀ x ∈ upto f i, p x
  | 0 => by simp [upto]
  | i + 1 => by
    intro x hx
    rw [upto, List.mem_append] at hx
    rcases hx with hx | hx
    · exact upto_all h i x hx
    · exact h i x hx

def keyP (p : Port) : Bool × Vec × Int := (p.has, p.vec, p.hops)
theorem rootSkip_key {b c : Bridge} {p q : Port} (hi : b.id = c.id) (h : keyP p = keyP q) : rootSkip b p = rootSkip c q := by
  simp only [keyP, Prod.mk.injEq] at h
  unfold rootSkip
  rw [h.1, h.2.1, h.2.2, hi]
theorem getD_key {xs ys : List Port} (h : xs.map keyP = ys.map keyP) (k : Nat) : keyP (xs.getD k default) = keyP (ys.getD k default) := by
  have hg : (xs[k]?).map keyP = (ys[k]?).map keyP := by rw [← List.getElem?_map, ← List.getElem?_map, h]
  rw [List.getD_eq_getElem?_getD, List.getD_eq_getElem?_getD]
  cases hb : xs[k]? <;> cases hc : ys[k]? <;> simp [hb, hc] at hg ⊢
  exact hg
theorem rootUpto_key {b c : Bridge} (hi : b.id = c.id) (h : b.ports.map keyP = c.ports.map keyP) : ∀ i, rootUpto b i = rootUpto c i
  | 0 => rfl
  | i + 1 => by
    have ih := rootUpto_key hi h i
    have hg : (b.ports[i]?).map keyP = (c.ports[i]?).map keyP := by rw [← List.getElem?_map, ← List.getElem?_map, h]
    rw [rootUpto, rootUpto]
    cases hb : b.ports[i]? <;> cases hc : c.ports[i]? <;> simp [hb, hc] at hg
    · exact ih
    · rename_i p q
      have hv := getD_key h (rootUpto c i).toNat
      have h2 := rootSkip_key hi hg
      simp only [keyP, Prod.mk.injEq] at hv hg
      simp only [rootStep, h2, ih, hv.2.1, hg.2.1]
theorem rootAt_key {b c : Bridge} (hi : b.id = c.id) (h : b.ports.map keyP = c.ports.map keyP) : rootAt b = rootAt c := by
  have hl : b.ports.length = c.ports.length := by simpa using congrArg List.length h
  unfold rootAt
  rw [rootUpto_key hi h, hl]
def ownV (b : Bridge) (port : Int) : Vec := if rootAt b < 0 then ⟨b.id, 0, b.id, port⟩ else ⟨(b.ports.getD (rootAt b).toNat default).vec.root, (b.ports.getD (rootAt b).toNat default).vec.cost + 1, b.id, port⟩
def hopsB (b : Bridge) : Int := if rootAt b < 0 then 0 else (b.ports.getD (rootAt b).toNat default).hops + 1
theorem ownV_key {b c : Bridge} (hi : b.id = c.id) (h : b.ports.map keyP = c.ports.map keyP) (port : Int) : ownV b port = ownV c port := by
  have hv := getD_key h (rootAt c).toNat
  simp only [keyP, Prod.mk.injEq] at hv
  unfold ownV
  rw [rootAt_key hi h, hi, hv.2.1]
theorem hopsB_key {b c : Bridge} (hi : b.id = c.id) (h : b.ports.map keyP = c.ports.map keyP) : hopsB b = hopsB c := by
  have hv := getD_key h (rootAt c).toNat
  simp only [keyP, Prod.mk.injEq] at hv
  unfold hopsB
  rw [rootAt_key hi h, hv.2.2]
theorem Port.ok_bd {p : Port} (h : p.ok = true) : 0 ≤ p.vec.cost ∧ p.vec.cost ≤ 20 ∧ 0 ≤ p.hops ∧ p.hops ≤ 8 := by
  obtain ⟨a1, a2, ⟨b1, b2, b3, b4⟩, a4, a5, a6, a7, a8⟩ := p
  cases a2
  · simp [Port.ok] at h
    simp only
    omega
  · simp [Port.ok, Vec.ok] at h
    simp only
    omega
theorem Bridge.ok_all {b : Bridge} (h : b.ok = true) : (∀ p ∈ b.ports, p.ok = true) ∧ 1 ≤ b.id ∧ b.id ≤ 9 ∧ 1 ≤ b.ports.length ∧ b.ports.length ≤ 4 := by
  simp [Bridge.ok] at h
  refine ⟨h.1.1, ?_⟩
  omega
theorem Bridge.ok_of {b : Bridge} (h1 : ∀ p ∈ b.ports, p.ok = true) (h2 : 1 ≤ b.id ∧ b.id ≤ 9 ∧ 1 ≤ b.ports.length ∧ b.ports.length ≤ 4) : b.ok = true := by
  simp [Bridge.ok]
  refine ⟨⟨h1, ?_⟩, ?_⟩ <;> omega
theorem Bridge.ok_at {b : Bridge} (h : b.ok = true) {i : Nat} (hi : i < b.ports.length) : b.ports[i].ok = true := (Bridge.ok_all h).1 _ (List.getElem_mem hi)

/-- The port that the root port is, where there is one. -/
theorem rootGet {b : Bridge} (hok : b.ok = true) (hr : 0 ≤ rootAt b) : ∃ (h : (rootAt b).toNat < b.ports.length), rootAt b < (b.ports.length : Int) ∧ b.ports.getD (rootAt b).toNat default = b.ports[(rootAt b).toNat] ∧ b.ports[(rootAt b).toNat].ok = true ∧
    0 ≤ b.ports[(rootAt b).toNat].vec.cost ∧ b.ports[(rootAt b).toNat].vec.cost ≤ 20 ∧ 0 ≤ b.ports[(rootAt b).toNat].hops ∧ b.ports[(rootAt b).toNat].hops ≤ 8 := by
  have hlt := (rootUpto_lt b b.ports.length).2
  have h : (rootAt b).toNat < b.ports.length := by unfold rootAt at hr ⊢; omega
  have hp := Bridge.ok_at hok h
  exact ⟨h, by omega, by simp [List.getD, List.getElem?_eq_getElem h], hp, Port.ok_bd hp⟩

theorem specOwn {H : Heap} {l : List Lf} {b : Bridge} (h : RdBridge H l b) (hok : b.ok = true) {port : Int} (h0 : 0 ≤ port) (h1 : port < b.ports.length) : run env 68 [.agg l, .int port] H = some (.agg (ownV b port).enc, H) := by
  have hl := (Bridge.ok_all hok).2.2.2.2
  have e1 := fun G => specBridgeOk_is (h.app G) (by have : b.sz = b.ports.length := rfl; omega)
  have e2 := fun G => specRootPort (h.app G) (by have : b.sz = b.ports.length := rfl; omega)
  have hrp : rootPort b = (rootAt b, decide (0 ≤ rootAt b)) := by simp [rootPort, hok]
  obtain ⟨a, rfl, h_⟩ := h
  rw [hrp] at e2
  rw [hok] at e1
  simp only [Bridge.enc] at e1 e2
  have g2 : IntKind.i64.wrap ((b.ports.length : Int) - 1) = (b.ports.length : Int) - 1 := wrap64 (by omega) (by omega)
  have h2 : port ≤ (b.ports.length : Int) - 1 := by omega
  refine run_walk ok68 Tryz.func68 rfl (by simp [Tryz.f68]) fun Q hQ => ?_
  simp only [Tryz.f68, strip, stripL, stripI, stripG, chkT, tagsB, tagsL, tagD, addT, tagA, lookN, tagOp, elmT, ty22, ty29, ty33, ty39, ty40, ty41, ty42, ty69, ty71, ty95, Nat.reduceEqDiff, if_false, reduceIte, Option.getD_some, Option.getD_none, dstAt, dstOk, Nat.reduceLT, decide_true, if_true]
  simp [Bridge.enc, e1, e2, builtinV, pureB, lenV, g2, l1In, h0, h2]
  by_cases hr : 0 ≤ rootAt b
  · obtain ⟨hk, hkl, hgd, hpo, c0, c1, -, -⟩ := rootGet hok hr
    obtain ⟨id3, r3, bl3, rfl, hbl3, hbe3, hrow3⟩ := h_ (rootAt b).toNat _ (by simp [hk]; rfl)
    have hid3 := blkAt_len hbl3
    have hv : ownV b port = ⟨b.ports[(rootAt b).toNat].vec.root, b.ports[(rootAt b).toNat].vec.cost + 1, b.id, port⟩ := by
      unfold ownV
      rw [if_neg (by omega), hgd]
    have g : IntKind.i64.wrap (b.ports[(rootAt b).toNat].vec.cost + 1) = b.ports[(rootAt b).toNat].vec.cost + 1 := wrap64 (by omega) (by omega)
    obtain ⟨p, hp⟩ : ∃ p, p = b.ports[(rootAt b).toNat] := ⟨_, rfl⟩
    rw [← hp] at hv g hrow3
    simp [hr, indexAddrV, elemIs, hid3, hbl3, hbe3, hkl, hrow3, Port.enc, g]
    refine hQ _ _ _ (by simp) ?_
    simp [Tryz.f68, hv, Vec.enc]
  · have hv : ownV b port = ⟨b.id, 0, b.id, port⟩ := by unfold ownV; rw [if_pos (by omega)]
    simp [hr]
    refine hQ _ _ _ (by simp) ?_
    simp [Tryz.f68, hv, Vec.enc]

theorem specHops {H : Heap} {l : List Lf} {b : Bridge} (h : RdBridge H l b) (hok : b.ok = true) : run env 69 [.agg l] H = some (.int (hopsB b), H) := by
  have hl := (Bridge.ok_all hok).2.2.2.2
  have e2 := fun G => specRootPort (h.app G) (by have : b.sz = b.ports.length := rfl; omega)
  have hrp : rootPort b = (rootAt b, decide (0 ≤ rootAt b)) := by simp [rootPort, hok]
  obtain ⟨a, rfl, h_⟩ := h
  rw [hrp] at e2
  simp only [Bridge.enc] at e2
  refine run_walk ok69 Tryz.func69 rfl (by simp [Tryz.f69]) fun Q hQ => ?_
  simp only [Tryz.f69, strip, stripL, stripI, stripG, chkT, tagsB, tagsL, tagD, addT, tagA, lookN, tagOp, elmT, ty22, ty29, ty33, ty39, ty40, ty41, ty42, ty69, ty71, ty95, Nat.reduceEqDiff, if_false, reduceIte, Option.getD_some, Option.getD_none, dstAt, dstOk, Nat.reduceLT, decide_true, if_true]
  simp [Bridge.enc, e2]
  by_cases hr : 0 ≤ rootAt b
  · obtain ⟨hk, hkl, hgd, hpo, -, -, c0, c1⟩ := rootGet hok hr
    obtain ⟨id3, r3, bl3, rfl, hbl3, hbe3, hrow3⟩ := h_ (rootAt b).toNat _ (by simp [hk]; rfl)
    have hid3 := blkAt_len hbl3
    have hv : hopsB b = b.ports[(rootAt b).toNat].hops + 1 := by
      unfold hopsB
      rw [if_neg (by omega), hgd]
    have g : IntKind.i64.wrap (b.ports[(rootAt b).toNat].hops + 1) = b.ports[(rootAt b).toNat].hops + 1 := wrap64 (by omega) (by omega)
    obtain ⟨p, hp⟩ : ∃ p, p = b.ports[(rootAt b).toNat] := ⟨_, rfl⟩
    rw [← hp] at hv g hrow3
    simp [hr, indexAddrV, elemIs, hid3, hbl3, hbe3, hkl, hrow3, Port.enc, g]
    refine hQ _ _ _ (by simp) ?_
    simp [Tryz.f69, hv]
  · have hv : hopsB b = 0 := by unfold hopsB; rw [if_pos (by omega)]
    simp [hr]
    refine hQ _ _ _ (by simp) ?_
    simp [Tryz.f69, hv]

def tickB (b : Bridge) : Bridge := ⟨b.id, b.ports.mapIdx fun _ p => tickP p⟩
theorem mapIdx_ok {f : Nat → Port → Port} {b : Bridge} (h : b.ok = true) (hf : ∀ i p, p.ok = true → (f i p).ok = true) : (⟨b.id, b.ports.mapIdx f⟩ : Bridge).ok = true := by
  obtain ⟨h1, h2⟩ := Bridge.ok_all h
  refine Bridge.ok_of (fun p hp => ?_) (by simpa using h2)
  rw [List.mem_mapIdx] at hp
  obtain ⟨i, hi, rfl⟩ := hp
  exact hf _ _ (h1 _ (List.getElem_mem hi))
theorem tickB_ok {b : Bridge} (h : b.ok = true) : (tickB b).ok = true := mapIdx_ok h fun _ _ hp => tickP_ok hp

def roleB (b : Bridge) (i : Nat) (p : Port) : Int := if (i : Int) = rootAt b then 1 else if (p.has && better p.vec (ownV b i)) = true then 3 else 2
def decP (b : Bridge) (i : Nat) (p : Port) : Port := if p.up = true then turnP p (roleB b i p) else p
def decideB (b : Bridge) : Bridge := ⟨b.id, b.ports.mapIdx (decP b)⟩
theorem decP_key (b : Bridge) (i : Nat) (p : Port) : keyP (decP b i p) = keyP p := by
  unfold decP
  split
  · have := turnP_rest p (roleB b i p)
    simp [keyP, this]
  · rfl
theorem decP_ok (b : Bridge) (i : Nat) {p : Port} (h : p.ok = true) : (decP b i p).ok = true := by
  unfold decP
  split
  · exact turnP_ok _ h
  · exact h
theorem decideB_ok {b : Bridge} (h : b.ok = true) : (decideB b).ok = true := mapIdx_ok h fun i _ hp => decP_ok b i hp
/-- The bridge of which the first ports are decided. -/
def decU (b : Bridge) (i : Nat) : Bridge := ⟨b.id, mixL (decP b) b.ports i⟩
theorem decU_key (b : Bridge) (i : Nat) : (decU b i).ports.map keyP = b.ports.map keyP := by
  refine List.ext_getElem? fun k => ?_
  simp only [decU, mixL, List.getElem?_map, List.getElem?_mapIdx, Option.map_map]
  cases b.ports[k]? with
  | none => rfl
  | some p =>
    simp only [Option.map_some, Function.comp]
    congr 1
    split
    · exact decP_key _ _ _
    · rfl
theorem decU_ok {b : Bridge} (h : b.ok = true) (i : Nat) : (decU b i).ok = true := mapIdx_ok (f := fun k x => if k < i then decP b k x else x) h fun k p hp => by
  split
  · exact decP_ok b k hp
  · exact hp
theorem decideB_key (b : Bridge) : (decideB b).ports.map keyP = b.ports.map keyP := by
  have := decU_key b b.ports.length
  unfold decU at this
  rwa [mixL_all _ _ (Nat.le_refl _)] at this

theorem specCopyB {H : Heap} {l : List Lf} {b : Bridge} (h : RdBridge H l b) (hn : b.sz ≤ 1048576) : Runs env 66 [.agg l] H fun v H' => ∃ l' fp, v = .agg l' ∧ IsBridge H' l' b fp ∧ Fresh H H' fp := by
  obtain ⟨a, rfl, h⟩ := h
  have hn : b.ports.length ≤ 1048576 := hn
  refine Runs.walk ok66 Tryz.func66 rfl (by simp [Tryz.f66]) fun Q hQ => ?_
  simp only [Tryz.f66, strip, stripL, stripI, stripG, chkT, tagsB, tagsL, tagD, addT, tagA, lookN, tagOp, elmT, ty22, ty29, ty33, ty39, ty40, ty41, ty42, ty69, ty71, ty95, Nat.reduceEqDiff, if_false, reduceIte, Option.getD_some, Option.getD_none, dstAt, dstOk, Nat.reduceLT, decide_true, if_true]
  simp [Bridge.enc]
  refine stpL_append (rows := []) (ys := b.ports.map Port.enc) (Own.of (by simp)) (h.app _) rfl rfl rfl (by simp) (by simp; omega) rfl (by simp) fun a1 H1 f o1 hk hf => ?_
  obtain ⟨⟨G, rfl⟩, hf⟩ : Fresh (H ++ [some ⟨31, .wr, [b.enc a]⟩, some ⟨31, .wr, [(⟨0, []⟩ : Bridge).enc none]⟩]) H1 f := by
    refine Fresh.grow (fp := [H.length + 2]) (G := [some ⟨27, .wr, []⟩]) (by simp) (by simpa [Bridge.enc] using hk) ?_
    intro i hi
    have := hf i hi
    simp at this ⊢
    omega
  simp
  refine hQ _ _ _ (by simp) ?_
  simp [Tryz.f66]
  have ho : IsBridge (H ++ [some ⟨31, .wr, [b.enc a]⟩, some ⟨31, .wr, [b.enc a1]⟩] ++ G) (b.enc a1) b f := ⟨a1, rfl, o1.keep (Keep.swap G (by simp)) fun i hi => by have := hf i hi; simp at this ⊢; omega⟩
  simp [Bridge.enc] at ho
  obtain ⟨f', h1, h2⟩ := ho.leave (H := H) (ws := [W.agg (b.enc a1)]) (Fresh.app H _ fun i hi => by have := hf i hi; simp at this; omega) (by simp [Bridge.enc])
  exact ⟨f', h1, h2⟩

theorem specDecide {H : Heap} {l : List Lf} {b : Bridge} (h : RdBridge H l b) (hok : b.ok = true) : Runs env 78 [.agg l] H fun v H' => ∃ l' fp, v = .agg l' ∧ IsBridge H' l' (decideB b) fp ∧ Fresh H H' fp := by
  obtain ⟨hpok, -, -, hl1, hl4⟩ := Bridge.ok_all hok
  have hR := h
  have hsz : b.sz ≤ 1048576 := by have : b.sz = b.ports.length := rfl; omega
  have e1 := fun G => specBridgeOk_is (hR.app G) hsz
  have e2 := fun G => specRootPort (hR.app G) hsz
  have hrp : rootPort b = (rootAt b, decide (0 ≤ rootAt b)) := by simp [rootPort, hok]
  rw [hrp] at e2
  rw [hok] at e1
  obtain ⟨a, rfl, h_⟩ := h
  simp only [Bridge.enc] at e1 e2
  refine Runs.walk ok78 Tryz.func78 rfl (by simp [Tryz.f78]) fun Q hQ => ?_
  simp only [Tryz.f78, strip, stripL, stripI, stripG, chkT, tagsB, tagsL, tagD, addT, tagA, lookN, tagOp, elmT, ty22, ty29, ty33, ty39, ty40, ty41, ty42, ty69, ty71, ty95, Nat.reduceEqDiff, if_false, reduceIte, Option.getD_some, Option.getD_none, dstAt, dstOk, Nat.reduceLT, decide_true, if_true]
  simp [Bridge.enc]
  refine stpL_runs (specCopyB (hR.app _) hsz) ?_
  rintro _ _ ⟨_, f1, rfl, ⟨a1, rfl, o1⟩, ⟨⟨G1, rfl⟩, hf1⟩⟩
  have hlt1 := o1.lt
  simp [Bridge.enc, e1, e2]
  obtain ⟨H3, hH3⟩ : ∃ H3 : Heap, H3 = H ++ some ⟨31, .wr, [[.i .i64 b.id, .sl a b.ports.length]]⟩ :: some ⟨31, .wr, [[.i .i64 0, .sl none 0]]⟩ :: (G1 ++ [some ⟨31, .wr, [[.i .i64 b.id, .sl a1 b.ports.length]]⟩]) := ⟨_, rfl⟩
  have b1 : blkAt H3 H.length = some ⟨31, .wr, [[.i .i64 b.id, .sl a b.ports.length]]⟩ := by rw [hH3]; simp
  have b2 : blkAt H3 (H.length + 1) = some ⟨31, .wr, [[.i .i64 0, .sl none 0]]⟩ := by rw [hH3]; simp
  have b3 : blkAt H3 (H.length + (G1.length + 1 + 1)) = some ⟨31, .wr, [[.i .i64 b.id, .sl a1 b.ports.length]]⟩ := by rw [hH3]; simp
  have o3 : Own H3 27 a1 (b.ports.map Port.enc) f1 := by
    rw [hH3]
    have := o1.app [some ⟨31, .wr, [[.i .i64 b.id, .sl a1 b.ports.length]]⟩]
    simpa [Bridge.enc] using this
  have k03 : Keep [] H H3 := by rw [hH3]; exact Keep.app _ _ _
  have n1 : H.length ∉ f1 := fun hi => by have := hf1 _ hi; simp only [List.length_append, List.length_cons, List.length_nil] at this; omega
  have n2 : H.length + 1 ∉ f1 := fun hi => by have := hf1 _ hi; simp only [List.length_append, List.length_cons, List.length_nil] at this; omega
  have n3 : H.length + (G1.length + 1 + 1) ∉ f1 := fun hi => by have := hlt1 _ hi; simp only [List.length_append, List.length_cons, List.length_nil] at this; omega
  have n0 : ∀ i ∈ f1, H.length ≤ i := fun i hi => by have := hf1 _ hi; simp only [List.length_append, List.length_cons, List.length_nil] at this; omega
  rw [← hH3]
  clear o1 hH3 hf1 hlt1
  refine wpS_loop (fun j tm H' => ∃ i, i + j = b.ports.length ∧ tm 1 = .ptr H.length 0 0 ∧ tm 2 = .ptr (H.length + 1) 0 0 ∧ tm 3 = .ptr (H.length + (G1.length + 1 + 1)) 0 0 ∧ tm 4 = .int (rootAt b) ∧ tm 6 = .int i ∧ Own H' 27 a1 ((mixL (decP b) b.ports i).map Port.enc) f1 ∧ Keep f1 H3 H') b.ports.length (by rw [env_K]; omega) ⟨0, by simp, by simp, by simp, by simp, by simp, by simp, by rw [mixL_zero]; exact o3, Keep.refl _ _⟩ ?_
  rintro j tm H1 hj ⟨i, hij, t1, t2, t3, t4, t6, ho1, hk1⟩ Q' hn' he' hr'
  have c1 := hk1.blk b1 n1
  have c2 := hk1.blk b2 n2
  have c3 := hk1.blk b3 n3
  have d1 := blkAt_len c1
  have d2 := blkAt_len c2
  have d3 := blkAt_len c3
  have k01 : Keep [] H H1 := k03.next hk1 n0
  simp [t1, t6, c1, builtinV, pureB, lenV]
  refine selS_intro (fun hc => ?_) (fun hc => ?_)
  · simp at hc
    have hR1 := hR.base k01
    have h1 := h_.keep k01 (by simp)
    obtain ⟨id2, r2, bl2, rfl, hbl, hbe, hrow⟩ := h1 i _ (by simp [hc]; rfl)
    have hid2 := blkAt_len hbl
    obtain ⟨pid, pb, rfl, rfl, hpb, hpe, hpm, hpre⟩ := ho1.blk (by intro h; have := congrArg List.length h; simp only [List.length_map, mixL_len, List.length_nil] at this; omega)
    have hpl := blkAt_len hpb
    obtain ⟨t, ht⟩ := hpre
    have hrw : ∃ row, pb.rows[i]? = some row ∧ row.length = 11 := by
      refine ⟨b.ports[i].enc, ?_, rfl⟩
      rw [← ht, List.getElem?_append_left (by simp; omega), List.getElem?_map, mixL_at _ _ (Nat.le_refl _), List.getElem?_eq_getElem hc]; rfl
    obtain ⟨row0, hrw, hrlen⟩ := hrw
    obtain ⟨hrl, hrw⟩ := List.getElem?_eq_some_iff.1 hrw
    have hdrop : row0.drop 11 = [] := List.drop_of_length_le (by omega)
    have g4 : IntKind.i64.wrap ((i : Int) + 1) = (i : Int) + 1 := wrap64 (by omega) (by omega)
    have eo := fun G => specOwn (hR1.app G) hok (port := (i : Int)) (by omega) (by omega)
    simp only [Bridge.enc] at eo
    have next : ∀ (tm' : Ab.T) (G' : Heap) (row : List Lf), tm' 1 = .ptr H.length 0 0 → tm' 2 = .ptr (H.length + 1) 0 0 → tm' 3 = .ptr (H.length + (G1.length + 1 + 1)) 0 0 → tm' 4 = .int (rootAt b) → tm' 6 = .int ((i : Int) + 1) → row = (decP b i b.ports[i]).enc → Q' .normal tm' (H1.set pid (some ⟨27, .wr, pb.rows.set i row⟩) ++ G') := by
      rintro tm' G' row a1 a2 a3 a4 a6 rfl
      refine hn' (j - 1) _ _ (by omega) ⟨i + 1, by omega, a1, a2, a3, a4, by simpa using a6, ?_, ?_⟩
      · have := ho1.set (row := (decP b i b.ports[i]).enc) hpb (i := i) (by simp; omega)
        rw [hpm, hpe] at this
        rw [← mixL_step _ _ hc, List.map_set]
        exact this.app _
      · exact Keep.trans (h := [pid]) (hk1.trans (h := [pid]) (Keep.set _ _) (by simp) (by simp)) (Keep.app [] _ _) (by simp) (by simp)
    have keepit : ∀ (tm' : Ab.T) (G' : Heap), tm' 1 = .ptr H.length 0 0 → tm' 2 = .ptr (H.length + 1) 0 0 → tm' 3 = .ptr (H.length + (G1.length + 1 + 1)) 0 0 → tm' 4 = .int (rootAt b) → tm' 6 = .int ((i : Int) + 1) → b.ports[i].up = false → Q' .normal tm' (H1 ++ G') := by
      intro tm' G' a1 a2 a3 a4 a6 hu
      refine hn' (j - 1) _ _ (by omega) ⟨i + 1, by omega, a1, a2, a3, a4, by simpa using a6, ?_, hk1.trans (Keep.app [] _ _) (by simp) (by simp)⟩
      rw [mixL_same _ _ hc (by unfold decP; rw [if_neg (by rw [hu]; simp)])]
      exact ho1.app _
    obtain ⟨p, hp⟩ : ∃ p, p = b.ports[i] := ⟨_, rfl⟩
    rw [← hp] at hrow next keepit
    have eT : ∀ H role, run env 50 [.agg [.b p.up, .b p.has, .i .i64 p.vec.root, .i .i64 p.vec.cost, .i .i64 p.vec.bridge, .i .i64 p.vec.port, .i .i64 p.hops, .i .i64 p.left, .i .i64 p.role, .i .i64 p.wait, .b p.opn], .int role] H = some (.agg (turnP p role).enc, H) := fun H role => specTurn H p role
    have eB : ∀ H, run env 62 [.agg [.i .i64 p.vec.root, .i .i64 p.vec.cost, .i .i64 p.vec.bridge, .i .i64 p.vec.port], .agg (ownV b i).enc] H = some (.bool (better p.vec (ownV b i)), H) := fun H => specBetter H p.vec (ownV b i)
    simp only [Port.enc] at hrow
    simp [t1, t2, t3, t4, t6, c1, c2, c3, d1, d2, d3, indexAddrV, elemIs, hid2, hbl, hbe, hc, hrow]
    have fin : ∀ role, roleB b i p = role → p.up = true → decP b i p = turnP p role := fun role h1 h2 => by rw [decP, if_pos h2, h1]
    cases hup : p.up
    · rw [hup] at hrow eT
      by_cases hir : (i : Int) = rootAt b
      · simp [hir, t1, t2, t3, t4, t6]
        rw [← hir]
        simp [t1, t2, t3, t4, t6, g4]
        exact keepit _ _ (by simp [t1]) (by simp [t2]) (by simp [t3]) (by simp [t4]) (by simp) hup
      · simp [hir]
        cases hha : p.has
        · simp [t1, t2, t3, t4, t6, g4]
          exact keepit _ _ (by simp [t1]) (by simp [t2]) (by simp [t3]) (by simp [t4]) (by simp) hup
        · simp [t1, t6, c1, d1, eo, eB]
          refine selS_intro (fun hd => ?_) (fun hd => ?_)
          all_goals (simp [t1, t2, t3, t4, t6, g4]; exact keepit _ _ (by simp [t1]) (by simp [t2]) (by simp [t3]) (by simp [t4]) (by simp) hup)
    rw [hup] at hrow eT
    by_cases hir : (i : Int) = rootAt b
    · simp [hir, t1, t2, t3, t4, t6]
      rw [← hir]
      simp [t1, t2, t3, t4, t6, c1, c2, c3, d1, d2, d3, indexAddrV, elemIs, hpl, hpb, hpe, hpm, hc, hrw, hrlen, hdrop, hrl, eT, g4]
      exact next _ _ _ (by simp [t1]) (by simp [t2]) (by simp [t3]) (by simp [t4]) (by simp) (by rw [fin 1 (by simp [roleB, hir]) hup])
    · simp [hir]
      cases hha : p.has
      · rw [hha] at hrow eT
        simp [t1, t2, t3, t4, t6, c1, c2, c3, d1, d2, d3, indexAddrV, elemIs, hpl, hpb, hpe, hpm, hc, hrw, hrlen, hdrop, hrl, eT, g4]
        exact next _ _ _ (by simp [t1]) (by simp [t2]) (by simp [t3]) (by simp [t4]) (by simp) (by rw [fin 2 (by simp [roleB, hir, hha]) hup])
      · rw [hha] at hrow eT
        simp [t1, t6, c1, d1, eo, eB]
        refine selS_intro (fun hd => ?_) (fun hd => ?_)
        · simp [t1, t2, t3, t4, t6, c1, c2, c3, d1, d2, d3, indexAddrV, elemIs, hpl, hpb, hpe, hpm, hc, hrw, hrlen, hdrop, hrl, eT, g4]
          exact next _ _ _ (by simp [t1]) (by simp [t2]) (by simp [t3]) (by simp [t4]) (by simp) (by rw [fin 3 (by simp [roleB, hir, hha, hd]) hup])
        · simp [t1, t2, t3, t4, t6, c1, c2, c3, d1, d2, d3, indexAddrV, elemIs, hpl, hpb, hpe, hpm, hc, hrw, hrlen, hdrop, hrl, eT, g4]
          exact next _ _ _ (by simp [t1]) (by simp [t2]) (by simp [t3]) (by simp [t4]) (by simp) (by rw [fin 2 (by simp [roleB, hir, hha, hd]) hup])
  · simp at hc
    obtain rfl : i = b.ports.length := by omega
    simp [t1, t6]
    refine he' _ _ _ ?_
    simp [t2, t3, c2, c3, d2, d3]
    refine hQ _ _ _ (by simp) ?_
    rw [mixL_all _ _ (Nat.le_refl _)] at ho1
    simp [Tryz.f78, t2, blkAt_set d2]
    have kf : Keep [] H (H1.set (H.length + 1) (some ⟨31, .wr, [[.i .i64 b.id, .sl a1 b.ports.length]]⟩)) := k01.next (Keep.set _ _) (by simp)
    have ho : IsBridge (H1.set (H.length + 1) (some ⟨31, .wr, [[.i .i64 b.id, .sl a1 b.ports.length]]⟩)) [.i .i64 b.id, .sl a1 b.ports.length] (decideB b) f1 := ⟨a1, by simp [Bridge.enc, decideB], ho1.keep (Keep.set _ _) (fun i hi hj => by simp at hj; subst hj; exact n2 hi)⟩
    exact ho.leave ⟨kf.ext, n0⟩ (by simp)

theorem leave_both (H H' : Heap) (ws : List W) : leave H H' ws = H' ∨ (leave H H' ws = H ∧ ws.all W.free = true ∧ ∃ G, H' = H ++ G) := by
  unfold leave
  split
  · rename_i h
    refine .inr ⟨rfl, h.1, H'.drop H.length, ?_⟩
    have := List.take_append_drop H.length H'
    rw [h.2] at this
    exact this.symm
  · exact .inl rfl
theorem grow_next {H2 H' H'' T : Heap} {fp' fp'' : List Nat} (hK : Keep [] H2 H') (hf : ∀ j ∈ fp', H2.length ≤ j) (hk : Keep fp' (H' ++ T) H'') (h : ∀ j ∈ fp'', j ∈ fp' ∨ (H' ++ T).length ≤ j) : Keep [] H2 H'' ∧ ∀ j ∈ fp'', H2.length ≤ j := by
  have h1 := hK.1
  refine ⟨(Keep.trans (h := []) hK (Keep.app [] H' T) (by simp) (by simp)).next hk hf, fun j hj => ?_⟩
  rcases h j hj with h2 | h2
  · exact hf j h2
  · rw [List.length_append] at h2; omega
theorem keep_more0 {H H' : Heap} (h : Keep [] H H') (T : Heap) : Keep [] H (H' ++ T) := Keep.trans (h := []) h (Keep.app [] _ _) (by simp) (by simp)

def upPort : Port := ⟨true, false, ⟨0, 0, 0, 0⟩, 0, 0, 3, 0, false⟩
def inB (b : Bridge) (x : In) : Bridge := if x.kind = 1 then ⟨b.id, b.ports.set x.port.toNat (claimP (b.ports.getD x.port.toNat default) x.vec x.hops)⟩ else if x.kind = 2 then tickB b else ⟨b.id, b.ports.set x.port.toNat (if x.up = true then upPort else Port.zv)⟩
/-- A link that is as it was: nothing turns. -/
def quiet (b : Bridge) (x : In) : Prop := x.kind = 3 ∧ (b.ports.getD x.port.toNat default).up = x.up
instance (b : Bridge) (x : In) : Decidable (quiet b x) := inferInstanceAs (Decidable (_ ∧ _))
def nextB (b : Bridge) (x : In) : Bridge := if quiet b x then b else decideB (inB b x)
theorem inB_id (b : Bridge) (x : In) : (inB b x).id = b.id := by unfold inB; split <;> (try split) <;> rfl
theorem inB_len (b : Bridge) (x : In) : (inB b x).ports.length = b.ports.length := by unfold inB; split <;> (try split) <;> simp [tickB]
theorem set_ok {b : Bridge} (h : b.ok = true) {k : Nat} {p : Port} (hp : p.ok = true) : (⟨b.id, b.ports.set k p⟩ : Bridge).ok = true := by
  obtain ⟨h1, h2⟩ := Bridge.ok_all h
  refine Bridge.ok_of (fun q hq => ?_) (by simpa using h2)
  rcases List.mem_or_eq_of_mem_set hq with hq | rfl
  · exact h1 _ hq
  · exact hp
theorem upPort_ok : upPort.ok = true := by decide
theorem zv_ok : Port.zv.ok = true := by decide
theorem inB_ok {b : Bridge} {x : In} (h : b.ok = true) (hk : x.port.toNat < b.ports.length) : (inB b x).ok = true := by
  unfold inB
  split
  · refine set_ok h (claimP_ok _ _ ?_)
    simp only [List.getD, List.getElem?_eq_getElem hk, Option.getD_some]
    exact Bridge.ok_at h hk
  · split
    · exact tickB_ok h
    · refine set_ok h ?_
      split
      · exact upPort_ok
      · exact zv_ok
theorem nextB_ok {b : Bridge} {x : In} (h : b.ok = true) (hk : x.port.toNat < b.ports.length) : (nextB b x).ok = true := by
  unfold nextB
  split
  · exact h
  · exact decideB_ok (inB_ok h hk)
theorem nextB_id (b : Bridge) (x : In) : (nextB b x).id = b.id := by
  unfold nextB; split
  · rfl
  · simp [decideB, inB_id]
theorem nextB_len (b : Bridge) (x : In) : (nextB b x).ports.length = b.ports.length := by
  unfold nextB; split
  · rfl
  · simp [decideB, inB_len]
theorem In.ok_kind {x : In} (h : x.ok = true) : (x.kind = 1 ∨ x.kind = 2 ∨ x.kind = 3) ∧ 0 ≤ x.port ∧ x.port ≤ 3 := by
  unfold In.ok at h
  split at h
  · rename_i h1
    simp at h
    exact ⟨.inl h1, h.1.1.1⟩
  · split at h
    · rename_i h1
      simp at h
      exact ⟨.inr (.inr h1), h.1.1⟩
    · simp at h
      rw [h]
      decide

theorem l8InM {H : Heap} {l : List Lf} {b : Bridge} {fp : List Nat} (h : IsBridge H l b fp) (hok : b.ok = true) (x : In) (hx : x.ok = true) {k : Nat} (hk : x.port = k) (hkl : k < b.ports.length) :
    Runs env 67 [.agg l, .agg x.enc] H fun v H' => ∃ l' fp', v = .agg l' ∧ IsBridge H' l' (nextB b x) fp' ∧ Keep fp H H' ∧ (∀ i ∈ fp', i ∈ fp ∨ H.length ≤ i) := by
  obtain ⟨hpok, -, -, hl1, hl4⟩ := Bridge.ok_all hok
  have hlt := h.lt
  obtain ⟨a, rfl, ho⟩ := h
  obtain ⟨pid, pb, rfl, rfl, hpb, hpe, hpm, hpre⟩ := ho.blk (by intro h; have := congrArg List.length h; simp only [List.length_map, List.length_nil] at this; omega)
  have hxk := (In.ok_kind hx).1
  have hkT : x.port.toNat = k := by omega
  have hgd : b.ports.getD x.port.toNat default = b.ports[k] := by rw [hkT]; simp [List.getD, List.getElem?_eq_getElem hkl]
  have hkl2 : (k : Int) < (b.ports.length : Int) := by omega
  have hpl := blkAt_len hpb
  obtain ⟨t, ht⟩ := hpre
  have hrw0 : pb.rows[k]? = some b.ports[k].enc := by
    rw [← ht, List.getElem?_append_left (by simp; omega), List.getElem?_map, List.getElem?_eq_getElem hkl]; rfl
  obtain ⟨hrl, hrw⟩ := List.getElem?_eq_some_iff.1 hrw0
  refine Runs.walk ok67 Tryz.func67 rfl (by simp [Tryz.f67]) fun Q hQ => ?_
  simp only [Tryz.f67, strip, stripL, stripI, stripG, chkT, tagsB, tagsL, tagD, addT, tagA, lookN, tagOp, elmT, ty22, ty29, ty33, ty39, ty40, ty41, ty42, ty69, ty71, ty95, Nat.reduceEqDiff, if_false, reduceIte, Option.getD_some, Option.getD_none, dstAt, dstOk, Nat.reduceLT, decide_true, if_true]
  simp [Bridge.enc, In.enc]
  obtain ⟨H3, hH3⟩ : ∃ H3 : Heap, H3 = H ++ [some ⟨31, .wr, [[.i .i64 b.id, .sl (some (pid, 0)) b.ports.length]]⟩, some ⟨78, .wr, [[.i .i64 x.kind, .i .i64 x.port, .i .i64 x.vec.root, .i .i64 x.vec.cost, .i .i64 x.vec.bridge, .i .i64 x.vec.port, .i .i64 x.hops, .b x.up]]⟩, some ⟨31, .wr, [[.i .i64 0, .sl none 0]]⟩] := ⟨_, rfl⟩
  have b1 : blkAt H3 H.length = some ⟨31, .wr, [[.i .i64 b.id, .sl (some (pid, 0)) b.ports.length]]⟩ := by rw [hH3]; simp
  have b2 : blkAt H3 (H.length + 1) = some ⟨78, .wr, [[.i .i64 x.kind, .i .i64 x.port, .i .i64 x.vec.root, .i .i64 x.vec.cost, .i .i64 x.vec.bridge, .i .i64 x.vec.port, .i .i64 x.hops, .b x.up]]⟩ := by rw [hH3]; simp
  have b3 : blkAt H3 (H.length + 2) = some ⟨31, .wr, [[.i .i64 0, .sl none 0]]⟩ := by rw [hH3]; simp
  have o3 : Own H3 27 (some (pid, 0)) (b.ports.map Port.enc) [pid] := by rw [hH3]; exact ho.app _
  have p3 : blkAt H3 pid = some pb := by rw [hH3]; exact blkAt_app hpb _
  have k03 : Keep [] H H3 := by rw [hH3]; exact Keep.app _ _ _
  have hl3 : H3.length = H.length + 3 := by rw [hH3]; simp
  rw [← hH3]
  clear hH3
  have n1 : H.length ∉ [pid] := by simp; omega
  have n3 : H.length + 2 ∉ [pid] := by simp; omega
  have d1 := blkAt_len b1
  have d2 := blkAt_len b2
  have dp := blkAt_len p3
  obtain ⟨p, hp⟩ : ∃ p, p = b.ports[k] := ⟨_, rfl⟩
  rw [← hp] at hrw hgd
  have fin : ∀ (Hf : Heap) (tm : Ab.T) (c : Bridge) (pid2 : Nat) (fp2 : List Nat), tm 4 = .ptr (H.length + 2) 0 0 → blkAt Hf (H.length + 2) = some ⟨31, .wr, [[.i .i64 c.id, .sl (some (pid2, 0)) c.ports.length]]⟩ → Own Hf 27 (some (pid2, 0)) (c.ports.map Port.enc) fp2 → c = nextB b x → Keep [pid] H Hf → (∀ i ∈ fp2, i ∈ [pid] ∨ H.length ≤ i) → Q .ret tm Hf := by
    intro Hf tm c pid2 fp2 t4 hb4 ho4 hc hK hfp
    refine hQ _ _ _ (by simp) ?_
    have hlv : leave H Hf [W.agg [.i .i64 c.id, .sl (some (pid2, 0)) c.ports.length]] = Hf := by simp [leave, refFree]
    simp [Tryz.f67, t4, hb4, hlv]
    exact ⟨fp2, ⟨some (pid2, 0), by rw [hc]; rfl, by rw [← hc]; exact ho4⟩, hK, by simpa using hfp⟩
  refine selS_cut (f1 := [.blk 0]) (fun tm H' => ¬ quiet b x ∧ tm 2 = .ptr H.length 0 0 ∧ tm 4 = .ptr (H.length + 2) 0 0 ∧ Own H' 27 (some (pid, 0)) ((inB b x).ports.map Port.enc) [pid] ∧ Keep [pid] H3 H') ?_ ?_
  · intro Q' hn' he' hr'
    rcases hxk with hx1 | hx2 | hx3
    · have eC : ∀ H, run env 46 [.agg [.b p.up, .b p.has, .i .i64 p.vec.root, .i .i64 p.vec.cost, .i .i64 p.vec.bridge, .i .i64 p.vec.port, .i .i64 p.hops, .i .i64 p.left, .i .i64 p.role, .i .i64 p.wait, .b p.opn], .agg [.i .i64 x.vec.root, .i .i64 x.vec.cost, .i .i64 x.vec.bridge, .i .i64 x.vec.port], .int x.hops] H = some (.agg (claimP p x.vec x.hops).enc, H) := fun H => specClaim H p x.vec x.hops
      rw [hx1] at b2 ⊢
      simp [b1, b2, d1, d2, hk, indexAddrV, elemIs, dp, p3, hpe, hpm, hkl2, hkl, hrl, hrw, Port.enc, eC]
      refine hn' _ _ ⟨by unfold quiet; omega, by simp, by simp, ?_, Keep.set _ _⟩
      have := o3.set (row := (claimP p x.vec x.hops).enc) p3 (i := k) (by simp; omega)
      rw [hpm, hpe] at this
      unfold inB
      rw [if_pos hx1, hgd, hkT, List.map_set]
      exact this
    · rw [hx2] at b2 ⊢
      simp [b1, b2, d1, d2]
      refine wpS_loop (fun j tm H' => ∃ i, i + j = b.ports.length ∧ tm 2 = .ptr H.length 0 0 ∧ tm 4 = .ptr (H.length + 2) 0 0 ∧ tm 5 = .int i ∧ Own H' 27 (some (pid, 0)) ((mixL (fun _ p => tickP p) b.ports i).map Port.enc) [pid] ∧ Keep [pid] H3 H') b.ports.length (by rw [env_K]; omega) ⟨0, by simp, by simp, by simp, by simp, by rw [mixL_zero]; exact o3, Keep.refl _ _⟩ ?_
      rintro j tm H1 hj ⟨i, hij, t2, t4, t5, ho1, hk1⟩ Q2 hn2 he2 hr2
      have c1 := hk1.blk b1 n1
      have e1 := blkAt_len c1
      simp [t2, t4, t5, c1, e1, builtinV, pureB, lenV]
      refine selS_intro (fun hc => ?_) (fun hc => ?_)
      · simp at hc
        obtain ⟨pid', qb, hxx, -, hqb, hqe, hqm, hpre'⟩ := ho1.blk (by intro h; have := congrArg List.length h; simp only [List.length_map, mixL_len, List.length_nil] at this; omega)
        cases hxx
        have hql := blkAt_len hqb
        obtain ⟨t', ht'⟩ := hpre'
        have hrw1 : qb.rows[i]? = some b.ports[i].enc := by
          rw [← ht', List.getElem?_append_left (by simp; omega), List.getElem?_map, mixL_at _ _ (Nat.le_refl _), List.getElem?_eq_getElem hc]; rfl
        obtain ⟨hrl1, hrw1⟩ := List.getElem?_eq_some_iff.1 hrw1
        have g4 : IntKind.i64.wrap ((i : Int) + 1) = (i : Int) + 1 := wrap64 (by omega) (by omega)
        have eT := fun H => l8Tick H b.ports[i] (hpok _ (List.getElem_mem hc))
        simp [t2, t4, t5, c1, e1, indexAddrV, elemIs, hql, hqb, hqe, hqm, hc, hrl1, hrw1, eT, g4]
        refine hn2 (j - 1) _ _ (by omega) ⟨i + 1, by omega, by simp [t2], by simp [t4], by simp, ?_, hk1.trans (h := [pid]) (Keep.set _ _) (by simp) (by simp)⟩
        have := ho1.set (row := (tickP b.ports[i]).enc) hqb (i := i) (by simp; omega)
        rw [hqm, hqe] at this
        rw [← mixL_step _ _ hc, List.map_set]
        exact this
      · simp at hc
        obtain rfl : i = b.ports.length := by omega
        simp [t2, t4, t5]
        refine he2 _ _ _ ?_
        simp
        refine hn' _ _ ⟨by unfold quiet; omega, by simp [t2], by simp [t4], ?_, hk1⟩
        rw [mixL_all _ _ (Nat.le_refl _)] at ho1
        unfold inB
        rw [if_neg (by omega), if_pos hx2]
        exact ho1
    · rw [hx3] at b2 ⊢
      simp [b1, b2, d1, d2, hk, indexAddrV, elemIs, dp, p3, hpe, hpm, hkl2, hkl, hrl, hrw, Port.enc]
      by_cases hup : p.up = x.up
      · have hq : quiet b x := ⟨hx3, by rw [hgd]; exact hup⟩
        have b4 := blkAt_len b3
        simp [hup, b1, b3, d1, b4]
        refine hr' _ _ ?_
        simp
        refine fin _ _ b pid [pid] (by simp) (by rw [blkAt_set b4]) (o3.keep (Keep.set _ _) (by simp; omega)) (by rw [nextB, if_pos hq]) ?_ (by simp)
        exact (k03.trans (h := [pid]) (Keep.set _ _) (by simp) (by simp; omega))
      · have hq : ¬ quiet b x := fun h => hup (by have := h.2; rwa [hgd] at this)
        simp [hup, b1, b2, d1, d2, hk, indexAddrV, elemIs, dp, p3, hpe, hpm, hkl2, hkl, hrl, hrw, Port.enc]
        have hset : ∀ q : Port, q = (if x.up = true then upPort else Port.zv) → Own (H3.set pid (some ⟨27, .wr, pb.rows.set k q.enc⟩)) 27 (some (pid, 0)) ((inB b x).ports.map Port.enc) [pid] := by
          intro q hq2
          have := o3.set (row := q.enc) p3 (i := k) (by simp; omega)
          rw [hpm, hpe] at this
          unfold inB
          rw [if_neg (by omega), if_neg (by omega), hkT, List.map_set, ← hq2]
          exact this
        have b1' := fun y => (Keep.set (id := pid) H3 y).blk b1 n1
        have b2' := fun y => (Keep.set (id := pid) H3 y).blk b2 (by simp; omega)
        cases hxu : x.up
        · rw [hxu] at b2' hset
          simp [b1', b2', d1, d2]
          refine hn' _ _ ⟨hq, by simp, by simp, ?_, Keep.set _ _⟩
          have := hset Port.zv (by simp)
          simpa [Port.enc] using this
        · rw [hxu] at b2' hset
          simp [b1', b2', d1, d2, dp, hpe, hpm, blkAt_set dp, indexAddrV, elemIs, hkl2, hkl, hrl, hk]
          refine hn' _ _ ⟨hq, by simp, by simp, ?_, Keep.set _ _⟩
          have := hset upPort (by simp)
          simpa [Port.enc, upPort] using this
  · rintro tm H1 ⟨hnq, t2, t4, ho1, hk1⟩
    have c1 := hk1.blk b1 n1
    have c3 := hk1.blk b3 n3
    have e1 := blkAt_len c1
    have e3 := blkAt_len c3
    have hR : RdBridge H1 [.i .i64 b.id, .sl (some (pid, 0)) b.ports.length] (inB b x) := ⟨some (pid, 0), by simp [Bridge.enc, inB_id, inB_len], ho1.sl⟩
    simp [t2, t4, c1, e1]
    refine stpL_runs (specDecide hR (inB_ok hok (by omega))) ?_
    rintro _ _ ⟨_, f2, rfl, ⟨a2, rfl, o2⟩, ⟨⟨G2, rfl⟩, hf2⟩⟩
    have hlen2 : (decideB (inB b x)).ports.length = b.ports.length := by simp [decideB, inB_len]
    obtain ⟨pid2, pb2, rfl, rfl, hpb2, -⟩ := o2.blk (by intro h; have := congrArg List.length h; simp only [List.length_map, List.length_nil] at this; omega)
    simp [Bridge.enc, t4, c3, e3]
    have e3' : H.length + 2 < (H1.set (H.length + 2) (some ⟨31, .wr, [[.i .i64 (decideB (inB b x)).id, .sl (some (pid2, 0)) (decideB (inB b x)).ports.length]]⟩)).length := by simp; exact e3
    have h13 := hk1.1
    have hp2 := hf2 pid2 (by simp)
    refine fin _ _ (decideB (inB b x)) pid2 [pid2] (by simp [t4]) ?_ ?_ (by rw [nextB, if_neg hnq]) ?_ (by simp; omega)
    · rw [blkAt_lt e3', blkAt_set e3]
    · have := o2.keep (Keep.set (id := H.length + 2) (H1 ++ G2) (some ⟨31, .wr, [[.i .i64 (decideB (inB b x)).id, .sl (some (pid2, 0)) (decideB (inB b x)).ports.length]]⟩)) (by simp; omega)
      rwa [set_lt e3] at this
    · have ha : Keep [pid] H H1 := k03.trans (h := [pid]) hk1 (by simp) (by simp)
      have hb : Keep [pid] H (H1 ++ G2) := ha.trans (h := [pid]) (Keep.app [] _ _) (by simp) (by simp)
      have := hb.trans (h := [pid]) (Keep.set (id := H.length + 2) (H1 ++ G2) (some ⟨31, .wr, [[.i .i64 (decideB (inB b x)).id, .sl (some (pid2, 0)) (decideB (inB b x)).ports.length]]⟩)) (by simp) (by simp; omega)
      rwa [set_lt e3] at this

def gateAt (b c : Bridge) (i : Nat) : List Out := match b.ports[i]?, c.ports[i]? with
  | some p, some q => if q.opn = p.opn then [] else [⟨2, i, ⟨0, 0, 0, 0⟩, 0, q.opn⟩]
  | _, _ => []
def claimAt (c : Bridge) (i : Nat) : List Out := match c.ports[i]? with
  | some q => if q.role = 2 then [⟨1, i, ownV c i, hopsB c, false⟩] else []
  | none => []
theorem gateAt_len (b c : Bridge) (i : Nat) : (gateAt b c i).length ≤ 1 := by
  unfold gateAt; split
  · split <;> simp
  · simp
theorem claimAt_len (c : Bridge) (i : Nat) : (claimAt c i).length ≤ 1 := by
  unfold claimAt; split
  · split <;> simp
  · simp
theorem gateAt_same (b : Bridge) : ∀ i, upto (gateAt b b) i = []
  | 0 => rfl
  | i + 1 => by
    rw [upto, gateAt_same b i]
    unfold gateAt
    cases b.ports[i]? <;> simp
def outsB (b c : Bridge) (x : In) : List Out := upto (gateAt b c) b.ports.length ++ (if x.kind = 2 then upto (claimAt c) b.ports.length else [])
def reactB (b : Bridge) (x : In) : Bridge × List Out := if (b.ok && x.ok && decide (x.port < b.ports.length)) = true then (nextB b x, outsB b (nextB b x) x) else (b, [])
theorem reactB_yes {b : Bridge} {x : In} (h1 : b.ok = true) (h2 : x.ok = true) (h3 : x.port < b.ports.length) : reactB b x = (nextB b x, outsB b (nextB b x) x) := by simp [reactB, h1, h2, h3]
theorem reactB_no {b : Bridge} {x : In} (h : ¬ (b.ok = true ∧ x.ok = true ∧ x.port < b.ports.length)) : reactB b x = (b, []) := by
  unfold reactB
  rw [if_neg]
  simp
  intro h1 h2
  exact Int.not_lt.1 fun h3 => h ⟨h1, h2, h3⟩
theorem quiet_outs {b : Bridge} {x : In} (h : quiet b x) : outsB b (nextB b x) x = [] := by
  unfold outsB nextB
  rw [if_pos h, gateAt_same, if_neg (by rw [h.1]; decide)]
  rfl
theorem outsB_len (b c : Bridge) (x : In) : (outsB b c x).length ≤ 2 * b.ports.length := by
  unfold outsB
  have h1 := upto_len (gateAt_len b c) b.ports.length
  have h2 := upto_len (claimAt_len c) b.ports.length
  rw [List.length_append]
  split
  · omega
  · simp; omega
theorem reactB_id (b : Bridge) (x : In) : (reactB b x).1.id = b.id := by
  unfold reactB; split
  · exact nextB_id b x
  · rfl
theorem reactB_len (b : Bridge) (x : In) : (reactB b x).1.ports.length = b.ports.length := by
  unfold reactB; split
  · exact nextB_len b x
  · rfl
theorem reactB_outs (b : Bridge) (x : In) : (reactB b x).2.length ≤ 2 * b.ports.length := by
  unfold reactB; split
  · exact outsB_len _ _ _
  · simp
theorem reactB_ok {b : Bridge} (x : In) (h : b.ok = true) : (reactB b x).1.ok = true := by
  unfold reactB; split
  · rename_i h1
    simp at h1
    have := (In.ok_kind h1.1.2).2
    exact nextB_ok h (by omega)
  · exact h

theorem grow_next0 {H2 H' H'' T : Heap} {fp0 fp' fp'' : List Nat} (hK : Keep fp0 H2 H') (hf : ∀ j ∈ fp', j ∈ fp0 ∨ H2.length ≤ j) (hk : Keep fp' (H' ++ T) H'') (h : ∀ j ∈ fp'', j ∈ fp' ∨ (H' ++ T).length ≤ j) : Keep fp0 H2 H'' ∧ ∀ j ∈ fp'', j ∈ fp0 ∨ H2.length ≤ j := by
  have h1 := hK.1
  refine ⟨Keep.trans (h := fp0) (Keep.trans (h := fp0) hK (Keep.app [] H' T) (fun _ hi _ => hi) (by simp)) hk (fun _ hi _ => hi) (fun i hi hl => (hf i hi).resolve_right (by omega)), fun j hj => ?_⟩
  rcases h j hj with h2 | h2
  · exact hf j h2
  · rw [List.length_append] at h2; omega

theorem specReact {H : Heap} {l : List Lf} {b : Bridge} (h : RdBridge H l b) (hn : b.sz ≤ 1048576) (x : In) :
    Runs env 53 [.agg l, .agg x.enc] H fun v H' => ∃ l' fp q fp2, v = .tup [.agg l', .lf q] ∧ IsBridge H' l' (reactB b x).1 fp ∧ IsOutS H' q (reactB b x).2 fp2 ∧ Fresh H H' (fp ++ fp2) ∧ (∀ i ∈ fp, i ∉ fp2) := by
  have hR := h
  have e1 : ∀ H, run env 65 [.agg [.i .i64 x.kind, .i .i64 x.port, .i .i64 x.vec.root, .i .i64 x.vec.cost, .i .i64 x.vec.bridge, .i .i64 x.vec.port, .i .i64 x.hops, .b x.up]] H = some (.bool x.ok, H) := fun H => specInOk H x
  have e2 := fun G => specBridgeOk_is (hR.app G) hn
  obtain ⟨a, rfl, h_⟩ := h
  simp only [Bridge.enc] at e2
  refine Runs.walk ok53 Tryz.func53 rfl (by simp [Tryz.f53]) fun Q hQ => ?_
  simp only [Tryz.f53, strip, stripL, stripI, stripG, chkT, tagsB, tagsL, tagD, addT, tagA, lookN, tagOp, elmT, ty22, ty29, ty33, ty39, ty40, ty41, ty42, ty69, ty71, ty95, Nat.reduceEqDiff, if_false, reduceIte, Option.getD_some, Option.getD_none, dstAt, dstOk, Nat.reduceLT, decide_true, if_true]
  simp [Bridge.enc, In.enc]
  obtain ⟨H3, hH3⟩ : ∃ H3 : Heap, H3 = H ++ [some ⟨31, .wr, [[.i .i64 b.id, .sl a b.ports.length]]⟩, some ⟨78, .wr, [[.i .i64 x.kind, .i .i64 x.port, .i .i64 x.vec.root, .i .i64 x.vec.cost, .i .i64 x.vec.bridge, .i .i64 x.vec.port, .i .i64 x.hops, .b x.up]]⟩, some ⟨31, .wr, [[.i .i64 0, .sl none 0]]⟩, some ⟨110, .wr, []⟩] := ⟨_, rfl⟩
  have b1 : blkAt H3 H.length = some ⟨31, .wr, [[.i .i64 b.id, .sl a b.ports.length]]⟩ := by rw [hH3]; simp
  have bx : blkAt H3 (H.length + 1) = some ⟨78, .wr, [[.i .i64 x.kind, .i .i64 x.port, .i .i64 x.vec.root, .i .i64 x.vec.cost, .i .i64 x.vec.bridge, .i .i64 x.vec.port, .i .i64 x.hops, .b x.up]]⟩ := by rw [hH3]; simp
  have bz : blkAt H3 (H.length + 2) = some ⟨31, .wr, [[.i .i64 0, .sl none 0]]⟩ := by rw [hH3]; simp
  have bo : blkAt H3 (H.length + 3) = some ⟨110, .wr, []⟩ := by rw [hH3]; simp
  have hl3 : H3.length = H.length + 4 := by rw [hH3]; simp
  have k03 : Keep [] H H3 := by rw [hH3]; exact Keep.app _ _ _
  have hR3 : RdBridge H3 [.i .i64 b.id, .sl a b.ports.length] b := by rw [hH3]; exact hR.app _
  have e2' : run env 64 [.agg [.i .i64 b.id, .sl a b.ports.length]] H3 = some (.bool b.ok, H3) := by rw [hH3]; exact e2 _
  have d1 := blkAt_len b1
  have dx := blkAt_len bx
  have dz := blkAt_len bz
  rw [← hH3]
  clear hH3
  have fin : ∀ (Hf : Heap) (tm : Ab.T) (c : Bridge) (a7 : Option (Nat × Nat)) (f7 : List Nat) (os : List Out) (q : Lf) (f2 : List Nat), tm 4 = .ptr (H.length + 2) 0 0 → tm 5 = .w (.lf q) → blkAt Hf (H.length + 2) = some ⟨31, .wr, [[.i .i64 b.id, .sl a7 b.ports.length]]⟩ → Own Hf 27 a7 (c.ports.map Port.enc) f7 → IsOutS Hf q os f2 → c.id = b.id → c.ports.length = b.ports.length → reactB b x = (c, os) → Keep [] H Hf → (∀ i ∈ f7, H.length ≤ i) → (∀ i ∈ f2, H.length ≤ i) → (∀ i ∈ f7, i ∉ f2) → Q .ret tm Hf := by
    intro Hf tm c a7 f7 os q f2 t4 t5 hb4 ho4 hq hci hcl hr hK n0 hf2 hdj
    refine hQ _ _ _ (by simp) ?_
    have hres : resT env.τ tm Hf (Tryz.f53.results.toList) = some [W.agg [.i .i64 b.id, .sl a7 b.ports.length], W.lf q] := by simp [Tryz.f53, t4, t5, hb4]
    rw [hres, optK_some, hr]
    have hI : IsBridge Hf [.i .i64 b.id, .sl a7 b.ports.length] c f7 := ⟨a7, by simp [Bridge.enc, hci, hcl], ho4⟩
    rcases leave_both H Hf [W.agg [.i .i64 b.id, .sl a7 b.ports.length], W.lf q] with e | ⟨e, hfr, G, rfl⟩ <;> rw [e]
    · refine ⟨_, f7, _, f2, rfl, hI, hq, ⟨hK.ext, fun i hi => ?_⟩, hdj⟩
      rcases List.mem_append.1 hi with hi | hi
      · exact n0 i hi
      · exact hf2 i hi
    · simp at hfr
      exact ⟨_, [], _, [], rfl, hI.free (by simp [hfr]) H, hq.free hfr.2 H, Fresh.refl H, by simp⟩
  have done : ¬ (b.ok = true ∧ x.ok = true ∧ x.port < b.ports.length) → ∀ (tm : Ab.T) (f7 : List Nat) (a7 : Option (Nat × Nat)) (G7 : Heap), tm 4 = .ptr (H.length + 2) 0 0 → tm 5 = .sl (H.length + 3) 0 0 → Own (H3 ++ G7) 27 a7 (b.ports.map Port.enc) f7 → (∀ i ∈ f7, H3.length ≤ i) → Q .ret tm (H3.set (H.length + 2) (some ⟨31, .wr, [[.i .i64 b.id, .sl a7 b.ports.length]]⟩) ++ G7) := by
    intro hno tm f7 a7 G7 t4 t5 o7 hf7
    have hk := Keep.set (id := H.length + 2) (H3 ++ G7) (some ⟨31, .wr, [[.i .i64 b.id, .sl a7 b.ports.length]]⟩)
    rw [set_lt dz] at hk
    have bo7 : blkAt (H3 ++ G7) (H.length + 3) = some ⟨110, .wr, []⟩ := blkAt_app bo G7
    refine fin _ _ b a7 f7 [] (.sl (some (H.length + 3, 0)) 0) [H.length + 3] t4 t5 ?_ (o7.keep hk (fun i hi hj => by have := hf7 i hi; simp at hj; omega)) ⟨some (H.length + 3, 0), rfl, Own.of (hk.blk bo7 (by simp))⟩ rfl rfl (reactB_no hno) ?_ (fun i hi => by have := hf7 i hi; omega) (by simp) (fun i hi hj => by have := hf7 i hi; simp at hj; omega)
    · exact blkAt_app (blkAt_set dz) _
    · exact (keep_more0 k03 G7).next hk (by simp)
  cases hbo : b.ok
  · rw [hbo] at e2'
    simp [b1, d1, e2']
    refine stpL_runs (specCopyB hR3 hn) ?_
    rintro _ _ ⟨_, f7, rfl, ⟨a7, rfl, o7⟩, ⟨⟨G7, rfl⟩, hf7⟩⟩
    simp [Bridge.enc, bz, dz]
    exact done (by simp [hbo]) _ f7 a7 G7 (by simp) (by simp) o7 hf7
  rw [hbo] at e2'
  simp [b1, d1, bx, dx, e1, e2']
  cases hxo : x.ok
  · simp [b1, d1]
    refine stpL_runs (specCopyB hR3 hn) ?_
    rintro _ _ ⟨_, f7, rfl, ⟨a7, rfl, o7⟩, ⟨⟨G7, rfl⟩, hf7⟩⟩
    simp [Bridge.enc, bz, dz]
    exact done (by simp [hxo]) _ f7 a7 G7 (by simp) (by simp) o7 hf7
  simp [b1, d1, bx, dx, builtinV, pureB, lenV]
  by_cases hlx : x.port < (b.ports.length : Int)
  case neg =>
    have hlx' : (b.ports.length : Int) ≤ x.port := by omega
    simp [hlx', b1, d1]
    refine stpL_runs (specCopyB hR3 hn) ?_
    rintro _ _ ⟨_, f7, rfl, ⟨a7, rfl, o7⟩, ⟨⟨G7, rfl⟩, hf7⟩⟩
    simp [Bridge.enc, bz, dz]
    exact done (fun h => hlx h.2.2) _ f7 a7 G7 (by simp) (by simp) o7 hf7
  clear done
  have hlx' : ¬ (b.ports.length : Int) ≤ x.port := by omega
  obtain ⟨-, hx0, -⟩ := In.ok_kind hxo
  obtain ⟨hpok, -, -, hl1, hl4⟩ := Bridge.ok_all hbo
  simp [hlx', b1, d1]
  refine stpL_runs_f (specCopyB hR3 hn) (by rintro _ _ ⟨_, _, _, _, hf⟩; exact hf.1) ?_
  rintro _ _ ⟨_, f7, rfl, o7, ⟨⟨G7, rfl⟩, hf7⟩⟩
  have hlt7 := o7.lt
  simp [bx, dx]
  refine stpL_runs_w (l8InM o7 hbo x hxo (k := x.port.toNat) (by omega) (by omega)) rfl (by rintro _ _ ⟨_, _, _, _, hk, _⟩; exact hk.1) ?_
  rintro _ H4 ⟨_, f8, rfl, ⟨a8, rfl, o8⟩, k8, hf8⟩
  obtain ⟨c, hc⟩ : ∃ c, c = nextB b x := ⟨_, rfl⟩
  rw [← hc] at o8
  have hcl : c.ports.length = b.ports.length := by rw [hc]; exact nextB_len _ _
  have hci : c.id = b.id := by rw [hc]; exact nextB_id _ _
  have hcok : c.ok = true := by rw [hc]; exact nextB_ok hbo (by omega)
  have hrB : reactB b x = (c, outsB b c x) := by rw [hc]; exact reactB_yes hbo hxo hlx
  rw [← hc]
  clear hc
  simp [Bridge.enc, hci, hcl]
  obtain ⟨H5, hH5⟩ : ∃ H5 : Heap, H5 = H4 ++ [some ⟨31, .wr, [[.i .i64 b.id, .sl a8 b.ports.length]]⟩] := ⟨_, rfl⟩
  have k35 : Keep f7 (H3 ++ G7) H5 := by rw [hH5]; exact Keep.trans (h := f7) k8 (Keep.app [] _ _) (fun _ hi _ => hi) (by simp)
  have k345 : Keep [] H3 H5 := (Keep.app [] H3 G7).next k35 hf7
  have c1 := k345.blk b1 (by simp)
  have cx := k345.blk bx (by simp)
  have cz := k345.blk bz (by simp)
  have co := k345.blk bo (by simp)
  have k05 : Keep [] H H5 := k03.next k345 (by simp)
  have o5 : Own H5 27 a8 (c.ports.map Port.enc) f8 := by rw [hH5]; exact o8.app _
  have c7 : blkAt H5 H4.length = some ⟨31, .wr, [[.i .i64 b.id, .sl a8 b.ports.length]]⟩ := by rw [hH5]; simp
  have h84 := k8.1
  have hf8' : ∀ i ∈ f8, H3.length ≤ i ∧ i < H4.length := fun i hi => by
    have hl := o8.lt i hi
    rcases hf8 i hi with h | h
    · exact ⟨hf7 i h, hl⟩
    · rw [List.length_append] at h; exact ⟨by omega, hl⟩
  have hl45 : H4.length < H5.length := blkAt_len c7
  have hs0 : Sl H5 27 a (b.ports.map Port.enc) := h_.keep k05 (by simp)
  have h345 := k345.1
  have h34 : H3.length ≤ H4.length := by rw [List.length_append] at h84; omega
  rw [← hH5]
  clear hH5 k8 k35 o8 hlt7 hf8 hf7
  refine wpS_loop (fun j tm H' => ∃ i a' fp', i + j = b.ports.length ∧ tm 2 = .ptr H.length 0 0 ∧ tm 3 = .ptr (H.length + 1) 0 0 ∧ tm 4 = .ptr (H.length + 2) 0 0 ∧ tm 7 = .ptr H4.length 0 0 ∧ tm 8 = .int i ∧ tm 6 = .w (.lf (.sl a' (upto (gateAt b c) i).length)) ∧ Own H' 110 a' ((upto (gateAt b c) i).map Out.enc) fp' ∧ (∀ j ∈ fp', j ∈ [H.length + 3] ∨ H5.length ≤ j) ∧ Keep [H.length + 3] H5 H') b.ports.length (by rw [env_K]; omega)
    ⟨0, some (H.length + 3, 0), [H.length + 3], by simp, by simp, by simp, by simp, by simp, by simp, by simp [upto], Own.of co, by simp, Keep.refl _ _⟩ ?_
  rintro j tm H6 hj ⟨i, a', fp', hij, t2, t3, t4, t7, t8, t6, ho', hf', hK⟩ Q2 hn2 he2 hr2
  have c16 := hK.blk c1 (by simp)
  have c76 := hK.blk c7 (by simp; omega)
  have d16 := blkAt_len c16
  have d76 := blkAt_len c76
  simp [t2, t8, c16, d16, builtinV, pureB, lenV]
  refine selS_intro (fun hcc => ?_) (fun hcc => ?_)
  · simp at hcc
    have hc' : i < c.ports.length := by omega
    have s6 := (o5.keep hK (fun i hi hj => by have := hf8' i hi; simp at hj; omega)).sl
    have s0 := hs0.keep hK (fun id r hx hj => by
      have h1 := h_.keep (Keep.refl [] H) (by simp)
      subst hx
      have := Sl.len h1 (by intro h; have := congrArg List.length h; simp only [List.length_map, List.length_nil] at this; omega)
      simp at hj; omega)
    obtain ⟨id3, r3, bl3, rfl, hbl3, hbe3, hrow3⟩ := s6 i _ (by simp [hc']; rfl)
    obtain ⟨id4, r4, bl4, rfl, hbl4, hbe4, hrow4⟩ := s0 i _ (by simp [hcc]; rfl)
    have hid3 := blkAt_len hbl3
    have hid4 := blkAt_len hbl4
    have g4 : IntKind.i64.wrap ((i : Int) + 1) = (i : Int) + 1 := wrap64 (by omega) (by omega)
    have hst : upto (gateAt b c) (i + 1) = upto (gateAt b c) i ++ (if c.ports[i].opn = b.ports[i].opn then [] else [⟨2, i, ⟨0, 0, 0, 0⟩, 0, c.ports[i].opn⟩]) := by
      rw [upto, gateAt, List.getElem?_eq_getElem hcc, List.getElem?_eq_getElem hc']
    have hul := upto_len (gateAt_len b c) i
    simp [t2, t3, t4, t6, t7, t8, c16, d16, c76, d76, indexAddrV, elemIs, hid3, hbl3, hbe3, hcc, hrow3, hid4, hbl4, hbe4, hrow4, Port.enc]
    refine selS_intro (fun hd => ?_) (fun hd => ?_)
    · simp at hd
      rw [if_neg hd] at hst
      simp [t6, t7, t8, c76, d76, indexAddrV, elemIs, hid3, hbl3, hbe3, hcc, hrow3, Port.enc]
      refine stpL_append (rows := (upto (gateAt b c) i).map Out.enc) (ys := [[.i .i64 2, .i .i64 i, .i .i64 0, .i .i64 0, .i .i64 0, .i .i64 0, .i .i64 0, .b c.ports[i].opn]]) (ho'.app _) (Sl.of (by simp)) rfl rfl rfl (by simp) (by simp; omega) (by simp) rfl fun a'' H'' fp'' ho'' hk'' hf'' => ?_
      obtain ⟨hK2, hf2⟩ := grow_next0 hK hf' hk'' hf''
      simp [t2, t3, t4, t7, t8, g4]
      refine hn2 (j - 1) _ _ (by omega) ⟨i + 1, a'', fp'', by omega, by simp [t2], by simp [t3], by simp [t4], by simp [t7], by simp, by simp [hst], ?_, hf2, hK2⟩
      simpa [hst, Out.enc] using ho''
    · simp at hd
      rw [if_pos hd, List.append_nil] at hst
      simp [t2, t3, t4, t6, t7, t8, g4]
      refine hn2 (j - 1) _ _ (by omega) ⟨i + 1, a', fp', by omega, by simp [t2], by simp [t3], by simp [t4], by simp [t7], by simp, by rw [hst]; simp [t6], ?_, hf', hK⟩
      rw [hst]
      exact ho'
  · simp at hcc
    obtain rfl : i = b.ports.length := by omega
    simp [t2, t3, t4, t6, t7, t8]
    refine he2 _ _ _ ?_
    obtain ⟨gs, hgs⟩ : ∃ gs, gs = upto (gateAt b c) b.ports.length := ⟨_, rfl⟩
    have hgl : gs.length ≤ b.ports.length := by rw [hgs]; exact upto_len (gateAt_len b c) _
    rw [← hgs] at t6 ho'
    have last : ∀ (tm : Ab.T) (Hf : Heap) (os : List Out) (a' : Option (Nat × Nat)) (fp' : List Nat), tm 4 = .ptr (H.length + 2) 0 0 → tm 5 = .w (.lf (.sl a' os.length)) → Own Hf 110 a' (os.map Out.enc) fp' → (∀ j ∈ fp', j ∈ [H.length + 3] ∨ H5.length ≤ j) → Keep [H.length + 3] H5 Hf → os = outsB b c x → Q .ret tm (Hf.set (H.length + 2) (some ⟨31, .wr, [[.i .i64 b.id, .sl a8 b.ports.length]]⟩)) := by
      intro tm Hf os a' fp' t4 t5 ho' hf' hK hos
      have czf := hK.blk cz (by simp)
      have dzf := blkAt_len czf
      have ks := Keep.set (id := H.length + 2) Hf (some ⟨31, .wr, [[.i .i64 b.id, .sl a8 b.ports.length]]⟩)
      refine fin _ _ c a8 f8 os (.sl a' os.length) fp' t4 t5 (blkAt_set dzf) ((o5.keep hK (fun i hi hj => by have := hf8' i hi; simp at hj; omega)).keep ks (fun i hi hj => by have := hf8' i hi; simp at hj; omega)) (IsSl.keep ⟨a', rfl, ho'⟩ ks (fun i hi hj => by have := hf' i hi; simp at hj this; omega)) hci hcl (by rw [hrB, hos]) ((k05.next hK (by simp)).next ks (by simp)) (fun i hi => by have := hf8' i hi; omega) (fun i hi => by have := hf' i hi; simp at this; omega) (fun i hi hj => by have := hf8' i hi; have := hf' i hj; simp at this; omega)
    simp
    by_cases hx2 : x.kind = 2
    · have hout : outsB b c x = gs ++ upto (claimAt c) b.ports.length := by unfold outsB; rw [if_pos hx2, hgs]
      rw [hx2] at cx
      refine wpS_loop (fun j tm H' => ∃ i a' fp', i + j = b.ports.length ∧ tm 3 = .ptr (H.length + 1) 0 0 ∧ tm 4 = .ptr (H.length + 2) 0 0 ∧ tm 7 = .ptr H4.length 0 0 ∧ tm 9 = .int i ∧ tm 6 = .w (.lf (.sl a' (gs ++ upto (claimAt c) i).length)) ∧ Own H' 110 a' ((gs ++ upto (claimAt c) i).map Out.enc) fp' ∧ (∀ j ∈ fp', j ∈ [H.length + 3] ∨ H5.length ≤ j) ∧ Keep [H.length + 3] H5 H') b.ports.length (by rw [env_K]; omega)
        ⟨0, a', fp', by simp, by simp [t3], by simp [t4], by simp [t7], by simp, by simp [upto, t6], by simpa [upto] using ho', hf', hK⟩ ?_
      rintro j tm H6 hj ⟨i, a', fp', hij, t3, t4, t7, t9, t6, ho', hf', hK⟩ Q3 hn3 he3 hr3
      have c76 := hK.blk c7 (by simp; omega)
      have cx6 := hK.blk cx (by simp)
      have cz6 := hK.blk cz (by simp)
      have d76 := blkAt_len c76
      have dx6 := blkAt_len cx6
      have dz6 := blkAt_len cz6
      simp [t3, t7, t9, c76, d76, builtinV, pureB, lenV]
      by_cases hcc : i < b.ports.length
      · have hc' : i < c.ports.length := by omega
        have s6 := (o5.keep hK (fun i hi hj => by have := hf8' i hi; simp at hj; omega)).sl
        have hR6 : RdBridge H6 [.i .i64 b.id, .sl a8 b.ports.length] c := ⟨a8, by simp [Bridge.enc, hci, hcl], s6⟩
        obtain ⟨id3, r3, bl3, rfl, hbl3, hbe3, hrow3⟩ := s6 i _ (by simp [hc']; rfl)
        have hid3 := blkAt_len hbl3
        have g4 : IntKind.i64.wrap ((i : Int) + 1) = (i : Int) + 1 := wrap64 (by omega) (by omega)
        have hst : upto (claimAt c) (i + 1) = upto (claimAt c) i ++ (if c.ports[i].role = 2 then [⟨1, i, ownV c i, hopsB c, false⟩] else []) := by
          rw [upto, claimAt, List.getElem?_eq_getElem hc']
        have hul := upto_len (claimAt_len c) i
        have eO := specOwn hR6 hcok (port := (i : Int)) (by omega) (by omega)
        have eH := specHops hR6 hcok
        simp [hcc, t3, t4, t6, t7, t9, c76, d76, cx6, dx6, indexAddrV, elemIs, hid3, hbl3, hbe3, hrow3, Port.enc]
        refine selS_intro (fun hd => ?_) (fun hd => ?_)
        · simp at hd
          rw [if_pos hd] at hst
          simp [t6, t7, t9, c76, d76, eO, eH, Vec.enc]
          refine stpL_append (rows := (gs ++ upto (claimAt c) i).map Out.enc) (ys := [[.i .i64 1, .i .i64 i, .i .i64 (ownV c i).root, .i .i64 (ownV c i).cost, .i .i64 (ownV c i).bridge, .i .i64 (ownV c i).port, .i .i64 (hopsB c), .b false]]) (ho'.app _) (Sl.of (by simp)) rfl rfl rfl (by simp) (by simp; omega) (by simp) rfl fun a'' H'' fp'' ho'' hk'' hf'' => ?_
          obtain ⟨hK2, hf2⟩ := grow_next0 hK hf' hk'' hf''
          simp [t3, t4, t7, t9, g4]
          refine hn3 (j - 1) _ _ (by omega) ⟨i + 1, a'', fp'', by omega, by simp [t3], by simp [t4], by simp [t7], by simp, by simp [hst]; omega, ?_, hf2, hK2⟩
          simpa [hst, Out.enc] using ho''
        · simp at hd
          rw [if_neg hd, List.append_nil] at hst
          simp [t3, t4, t6, t7, t9, g4]
          refine hn3 (j - 1) _ _ (by omega) ⟨i + 1, a', fp', by omega, by simp [t3], by simp [t4], by simp [t7], by simp, by rw [hst]; simp [t6], ?_, hf', hK⟩
          rw [hst]
          exact ho'
      · obtain rfl : i = b.ports.length := by omega
        simp
        refine he3 _ _ _ ?_
        simp [t3, t4, t6, t7, t9, c76, d76, cz6, dz6]
        exact last _ _ (gs ++ upto (claimAt c) b.ports.length) a' fp' (by simp [t4]) (by simp) ho' hf' hK hout.symm
    · have hout : outsB b c x = gs := by unfold outsB; rw [if_neg hx2, hgs, List.append_nil]
      refine wpS_loop (fun j tm H' => tm 3 = .ptr (H.length + 1) 0 0 ∧ tm 4 = .ptr (H.length + 2) 0 0 ∧ tm 7 = .ptr H4.length 0 0 ∧ tm 9 = .int 0 ∧ tm 6 = .w (.lf (.sl a' gs.length)) ∧ H' = H6) 0 (by rw [env_K]; omega)
        ⟨by simp [t3], by simp [t4], by simp [t7], by simp, by simp [t6], rfl⟩ ?_
      rintro j tm H6' hj ⟨t3, t4, t7, t9, t6, rfl⟩ Q3 hn3 he3 hr3
      have cx6 := hK.blk cx (by simp)
      have cz6 := hK.blk cz (by simp)
      have dx6 := blkAt_len cx6
      have dz6 := blkAt_len cz6
      have hpos : (0 : Int) < b.ports.length := by omega
      simp [t3, t7, t9, c76, d76, cx6, dx6, builtinV, pureB, lenV, hx2]
      have hb0 : decide (0 < b.ports.length) = true := by simp; omega
      rw [hb0]
      simp [t3, cx6, dx6, hx2]
      refine he3 _ _ _ ?_
      simp [t3, t4, t6, t7, t9, c76, d76, cz6, dz6]
      exact last _ _ gs a' fp' (by simp [t4]) (by simp) ho' hf' hK hout.symm

def stepBr (b : Bridge) (x : In) : Bridge := (reactB b x).1
def bridgeOf (id ports : Int) (log : List In) : Bridge := log.foldl stepBr (bridgeNew id ports).1
theorem bridgeOf_step (id ports : Int) (log : List In) {i : Nat} (h : i < log.length) : bridgeOf id ports (log.take (i + 1)) = stepBr (bridgeOf id ports (log.take i)) log[i] := by
  unfold bridgeOf
  rw [List.take_add_one, List.getElem?_eq_getElem h, List.foldl_append]
  rfl
theorem bridgeOf_len (id ports : Int) (log : List In) : (bridgeOf id ports log).ports.length ≤ 4 := by
  have key : ∀ (log : List In) (b : Bridge), b.ports.length ≤ 4 → (log.foldl stepBr b).ports.length ≤ 4 := by
    intro log
    induction log with
    | nil => intro b h; exact h
    | cons x xs ih => intro b h; exact ih _ (by rw [stepBr, reactB_len]; exact h)
  refine key log _ ?_
  unfold bridgeNew
  split
  · rename_i h
    simp at h ⊢
    omega
  · simp
theorem bridgeOf_sz0 {id ports : Int} {log : List In} (_ : log.length ≤ 1048576) : (bridgeOf id ports log).sz ≤ 1048576 := by
  have := bridgeOf_len id ports log
  have h2 : (bridgeOf id ports log).sz = (bridgeOf id ports log).ports.length := rfl
  omega
theorem bridgeOf_bad {id ports : Int} (h : (bridgeNew id ports).2 = false) (log : List In) : bridgeOf id ports log = ⟨0, []⟩ := by
  have h0 : (bridgeNew id ports).1 = ⟨0, []⟩ := by
    unfold bridgeNew at h ⊢
    split at h
    · simp at h
    · rename_i h1; rw [if_neg h1]
  have key : ∀ log : List In, log.foldl stepBr ⟨0, []⟩ = ⟨0, []⟩ := by
    intro log
    induction log with
    | nil => rfl
    | cons x xs ih =>
      have : stepBr ⟨0, []⟩ x = ⟨0, []⟩ := by
        rw [stepBr, reactB_no (by intro h; have := h.1; simp [Bridge.ok] at this)]
      rw [List.foldl_cons, this, ih]
  unfold bridgeOf
  rw [h0, key]

theorem sl_take {H : Heap} {e : Nat} {a : Option (Nat × Nat)} {rows : List (List Lf)} (h : Sl H e a rows) (n : Nat) : Sl H e a (rows.take n) := fun i row hr => by
  rw [List.getElem?_take] at hr
  split at hr
  · exact h i row hr
  · cases hr
theorem sl_nil {H : Heap} {e : Nat} {rows : List (List Lf)} (h : Sl H e none rows) : rows = [] := by
  cases rows with
  | nil => rfl
  | cons x xs => obtain ⟨_, _, _, h0, _⟩ := h 0 _ rfl; cases h0
theorem sl_drop {H : Heap} {e id r : Nat} {rows : List (List Lf)} (h : Sl H e (some (id, r)) rows) (n : Nat) : Sl H e (some (id, r + n)) (rows.drop n) := fun i row hr => by
  rw [List.getElem?_drop] at hr
  obtain ⟨id', r', b, hx, hb, he, hrow⟩ := h _ row hr
  cases hx
  exact ⟨id, r + n, b, rfl, hb, he, by rw [Nat.add_assoc]; exact hrow⟩

theorem specBridgeOf_is {H : Heap} {q : Lf} {log : List In} (h : RdInS H q log) (hn : log.length ≤ 1048576) (id : Int) (_ : I64 id) (ports : Int) (_ : I64 ports) :
    Runs env 111 [.int id, .int ports, .w (.lf q)] H fun v H' => ∃ l' fp, v = .agg l' ∧ IsBridge H' l' (bridgeOf id ports log) fp ∧ Fresh H H' fp := by
  obtain ⟨a, rfl, hs⟩ := h
  refine Runs.walk ok111 Tryz.func111 rfl (by simp [Tryz.f111]) fun Q hQ => ?_
  simp only [Tryz.f111, strip, stripL, stripI, stripG, chkT, tagsB, tagsL, tagD, addT, tagA, lookN, tagOp, elmT, ty22, ty29, ty33, ty39, ty40, ty41, ty42, ty69, ty71, ty95, Nat.reduceEqDiff, if_false, reduceIte, Option.getD_some, Option.getD_none, dstAt, dstOk, Nat.reduceLT, decide_true, if_true]
  simp
  refine stpL_runs (specBridgeNew _ _ _) ?_
  rintro _ _ ⟨_, f1, rfl, ⟨a1, rfl, o1⟩, ⟨⟨G1, rfl⟩, hf1⟩⟩
  simp [Bridge.enc]
  obtain ⟨B0, hB0⟩ : ∃ B0, B0 = (bridgeNew id ports).1 := ⟨_, rfl⟩
  rw [← hB0] at o1 ⊢
  obtain ⟨H3, hH3⟩ : ∃ H3 : Heap, H3 = H ++ some ⟨31, .wr, [[.i .i64 0, .sl none 0]]⟩ :: (G1 ++ [some ⟨31, .wr, [[.i .i64 B0.id, .sl a1 B0.ports.length]]⟩]) := ⟨_, rfl⟩
  have bz : blkAt H3 H.length = some ⟨31, .wr, [[.i .i64 0, .sl none 0]]⟩ := by rw [hH3]; simp
  have b7 : blkAt H3 (H.length + (G1.length + 1)) = some ⟨31, .wr, [[.i .i64 B0.id, .sl a1 B0.ports.length]]⟩ := by rw [hH3]; simp
  have o3 : Own H3 27 a1 (B0.ports.map Port.enc) f1 := by
    rw [hH3]
    have := o1.app [some ⟨31, .wr, [[.i .i64 B0.id, .sl a1 B0.ports.length]]⟩]
    simpa using this
  have k03 : Keep [] H H3 := by rw [hH3]; exact Keep.app _ _ _
  have hlt1 := o1.lt
  have n0 : ∀ i ∈ f1, H.length < i ∧ i < H.length + (G1.length + 1) := fun i hi => by have h1 := hf1 _ hi; have h2 := hlt1 _ hi; simp only [List.length_append, List.length_cons, List.length_nil] at h1 h2; omega
  have dz := blkAt_len bz
  rw [← hH3]
  clear hH3 o1 hf1 hlt1
  have fin : ∀ (Hf : Heap) (tm : Ab.T) (c : Bridge) (a7 : Option (Nat × Nat)) (f7 : List Nat), tm 6 = .ptr H.length 0 0 → blkAt Hf H.length = some ⟨31, .wr, [[.i .i64 c.id, .sl a7 c.ports.length]]⟩ → Own Hf 27 a7 (c.ports.map Port.enc) f7 → c = bridgeOf id ports log → Keep [] H Hf → (∀ i ∈ f7, H.length ≤ i) → Q .ret tm Hf := by
    intro Hf tm c a7 f7 t6 hb4 ho4 hc hK hf7
    refine hQ _ _ _ (by simp) ?_
    have hres : resT env.τ tm Hf (Tryz.f111.results.toList) = some [W.agg [.i .i64 c.id, .sl a7 c.ports.length]] := by simp [Tryz.f111, t6, hb4]
    rw [hres, optK_some, ← hc]
    have hI : IsBridge Hf [.i .i64 c.id, .sl a7 c.ports.length] c f7 := ⟨a7, rfl, ho4⟩
    obtain ⟨fp, h1, h2⟩ := hI.leave (H := H) (ws := [W.agg [.i .i64 c.id, .sl a7 c.ports.length]]) ⟨hK.ext, hf7⟩ (by simp)
    exact ⟨_, fp, rfl, h1, h2⟩
  refine wpS_loop (fun j tm H' => ∃ i a7 f7, i + j = log.length ∧ tm 6 = .ptr H.length 0 0 ∧ tm 7 = .ptr (H.length + (G1.length + 1)) 0 0 ∧ tm 2 = .w (.lf (.sl a log.length)) ∧ tm 9 = .int i ∧ blkAt H' H.length = some ⟨31, .wr, [[.i .i64 0, .sl none 0]]⟩ ∧ blkAt H' (H.length + (G1.length + 1)) = some ⟨31, .wr, [[.i .i64 (bridgeOf id ports (log.take i)).id, .sl a7 (bridgeOf id ports (log.take i)).ports.length]]⟩ ∧ Own H' 27 a7 ((bridgeOf id ports (log.take i)).ports.map Port.enc) f7 ∧ (∀ j ∈ f7, H.length < j ∧ j ≠ H.length + (G1.length + 1)) ∧ Keep [] H H') log.length (by rw [env_K]; omega)
    ⟨0, a1, f1, by simp, by simp, by simp, by simp, by simp, bz, by rw [b7, hB0]; rfl, by rw [hB0] at o3; exact o3, fun j hj => by have := n0 j hj; omega, k03⟩ ?_
  rintro j tm H1 hj ⟨i, a7, f7, hij, t6, t7, t2, t9, cz, c7, o7, hf7, hK⟩ Q2 hn2 he2 hr2
  have ez := blkAt_len cz
  have e7 := blkAt_len c7
  simp [t2, t9, builtinV, pureB, lenV]
  refine selS_intro (fun hc => ?_) (fun hc => ?_)
  · simp at hc
    obtain ⟨id2, r, bl, rfl, hbl, hbe, hrow⟩ := (hs.keep hK (by simp)) i _ (by simp [hc]; rfl)
    have hid := blkAt_len hbl
    have g4 : IntKind.i64.wrap ((i : Int) + 1) = (i : Int) + 1 := wrap64 (by omega) (by omega)
    have hst := bridgeOf_step id ports log hc
    have hbl4 := bridgeOf_len id ports (log.take i)
    obtain ⟨b, hb⟩ : ∃ b, b = bridgeOf id ports (log.take i) := ⟨_, rfl⟩
    rw [← hb] at c7 o7 hst hbl4
    have hR : RdBridge H1 [.i .i64 b.id, .sl a7 b.ports.length] b := ⟨a7, rfl, o7.sl⟩
    obtain ⟨x, hx⟩ : ∃ x, x = log[i] := ⟨_, rfl⟩
    rw [← hx] at hst hrow
    simp only [In.enc] at hrow
    simp [t2, t6, t7, t9, c7, e7, indexAddrV, elemIs, hid, hbl, hbe, hc, hrow]
    refine stpL_runs_f (specReact hR (by have : b.sz = b.ports.length := rfl; omega) x) (by rintro _ _ ⟨_, _, _, _, _, _, _, hf, _⟩; exact hf.1) ?_
    rintro _ H2 ⟨_, f8, _, f9, rfl, ⟨a8, rfl, o8⟩, o9, hfr, hdj⟩
    have k12 : Keep [] H1 H2 := hfr.keep
    have c72 := k12.blk c7 (by simp)
    have cz2 := k12.blk cz (by simp)
    have e72 := blkAt_len c72
    have h0 := hK.1
    have h89 := hfr.2
    simp [Bridge.enc, t2, t6, t7, t9, c72, e72, g4]
    have hf8 : ∀ j ∈ f8, H1.length < j + 1 := fun j hj => by have := h89 j (by simp [hj]); omega
    refine hn2 (j - 1) _ _ (by omega) ⟨i + 1, a8, f8, by omega, by simp [t6], by simp [t7], by simp [t2], by simp, ?_, ?_, ?_, fun j hj => by have := hf8 j hj; omega, ?_⟩
    · rw [blkAt_set_ne (by omega)]; exact cz2
    · rw [blkAt_set e72, hst]; rfl
    · rw [hst]
      exact o8.keep (Keep.set _ _) (fun j hj => by have := hf8 j hj; simp; omega)
    · exact (hK.next k12 (by simp)).next (Keep.set _ _) (by simp)
  · simp at hc
    obtain rfl : i = log.length := by omega
    rw [List.take_length] at c7 o7
    simp [t2, t9]
    refine he2 _ _ _ ?_
    simp [t6, t7, c7, e7, cz, ez]
    refine fin _ _ (bridgeOf id ports log) a7 f7 (by simp [t6]) (blkAt_set ez) (o7.keep (Keep.set _ _) (fun j hj => by have := hf7 j hj; simp; omega)) rfl (hK.next (Keep.set _ _) (by simp)) (fun j hj => by have := hf7 j hj; omega)

def saying (id ports : Int) (log : List In) (n : Int) : List Out := if (decide (0 ≤ n) && decide (n ≤ (log.length : Int) - 1)) = true then (reactB (bridgeOf id ports (log.take n.toNat)) (log.getD n.toNat default)).2 else []
theorem saying_len (id ports : Int) (log : List In) (n : Int) : (saying id ports log n).length ≤ 8 := by
  unfold saying
  split
  · have h1 := reactB_outs (bridgeOf id ports (log.take n.toNat)) (log.getD n.toNat default)
    have h2 := bridgeOf_len id ports (log.take n.toNat)
    omega
  · simp
theorem saying_sz0 {id ports : Int} {log : List In} {n : Int} (_ : log.length ≤ 1048576) : (saying id ports log n).length ≤ 1048576 := by
  have := saying_len id ports log n; omega

theorem specSaying_is {H : Heap} {q : Lf} {log : List In} (h : RdInS H q log) (hn : log.length ≤ 1048576) (id : Int) (hid_ : I64 id) (ports : Int) (hpo_ : I64 ports) (n : Int) (_ : I64 n) :
    Runs env 100 [.int id, .int ports, .w (.lf q), .int n] H fun v H' => ∃ q' fp, v = .w (.lf q') ∧ IsOutS H' q' (saying id ports log n) fp ∧ Fresh H H' fp := by
  obtain ⟨a, rfl, hs⟩ := h
  have g : IntKind.i64.wrap ((log.length : Int) - 1) = (log.length : Int) - 1 := wrap64 (by omega) (by omega)
  refine Runs.walk ok100 Tryz.func100 rfl (by simp [Tryz.f100]) fun Q hQ => ?_
  simp only [Tryz.f100, strip, stripL, stripI, stripG, chkT, tagsB, tagsL, tagD, addT, tagA, lookN, tagOp, elmT, ty22, ty29, ty33, ty39, ty40, ty41, ty42, ty69, ty71, ty95, Nat.reduceEqDiff, if_false, reduceIte, Option.getD_some, Option.getD_none, dstAt, dstOk, Nat.reduceLT, decide_true, if_true]
  simp [builtinV, pureB, lenV, g]
  by_cases hc : 0 ≤ n ∧ n ≤ (log.length : Int) - 1
  · obtain ⟨k, rfl⟩ : ∃ k : Nat, n = k := ⟨n.toNat, by omega⟩
    have hk : k < log.length := by omega
    obtain ⟨id2, r, bl, rfl, hbl, hbe, hrow⟩ := hs k _ (by simp [hk]; rfl)
    have hid := blkAt_len hbl
    have hsy : saying id ports log k = (reactB (bridgeOf id ports (log.take k)) log[k]).2 := by
      unfold saying
      rw [if_pos (by simp; omega)]
      simp [List.getD, List.getElem?_eq_getElem hk]
    obtain ⟨x, hx⟩ : ∃ x, x = log[k] := ⟨_, rfl⟩
    rw [← hx] at hsy hrow
    simp only [In.enc] at hrow
    rw [hsy] at hQ
    have hkl : (k : Int) ≤ (log.length : Int) - 1 := by omega
    have hkl2 : k ≤ log.length := by omega
    simp [l1In, hkl, sliceV, elemIs, hid, hbl, hbe, bnd, hkl2]
    have hR : RdInS H (.sl (some (id2, r)) k) (log.take k) := ⟨some (id2, r), by simp; omega, by rw [List.map_take]; exact sl_take hs k⟩
    refine stpL_runs_f (specBridgeOf_is hR (by simp; omega) id hid_ ports hpo_) (by rintro _ _ ⟨_, _, _, _, hf⟩; exact hf.1) ?_
    rintro _ _ ⟨_, f1, rfl, ⟨a1, rfl, o1⟩, ⟨⟨G1, rfl⟩, hf1⟩⟩
    have hbl4 := bridgeOf_len id ports (log.take k)
    obtain ⟨b, hb⟩ : ∃ b, b = bridgeOf id ports (log.take k) := ⟨_, rfl⟩
    rw [← hb] at o1 hbl4 hQ ⊢
    have hRb : RdBridge (H ++ G1) (b.enc a1) b := ⟨a1, rfl, o1.sl⟩
    simp [indexAddrV, elemIs, hid, hbl, hbe, hk, hrow]
    refine stpL_runs_f (specReact hRb (by have : b.sz = b.ports.length := rfl; omega) x) (by rintro _ _ ⟨_, _, _, _, _, _, _, hf, _⟩; exact hf.1) ?_
    rintro _ _ ⟨_, f8, q9, f9, rfl, ⟨a8, rfl, o8⟩, o9, ⟨⟨G2, rfl⟩, hf2⟩, hdj⟩
    simp [Bridge.enc]
    refine hQ _ _ _ (by simp) ?_
    simp [Tryz.f100]
    have o9' := o9.app [some ⟨31, .wr, [[.i .i64 (reactB b x).1.id, .sl a8 (reactB b x).1.ports.length]]⟩]
    simp only [List.append_assoc] at o9'
    obtain ⟨fp, h1, h2⟩ := o9'.leave (H := H) (ws := [W.lf q9]) (Fresh.app H _ fun i hi => by have := hf2 i (by simp [hi]); rw [List.length_append] at this; omega) (by simp)
    exact ⟨fp, h1, h2⟩
  · have hcf : (decide (0 ≤ n) && decide (n ≤ (log.length : Int) - 1)) = false := by
      rw [Bool.and_eq_false_iff]; simp; omega
    have hsy : saying id ports log n = [] := by unfold saying; rw [hcf]; rfl
    simp [l1In, hcf]
    refine hQ _ _ _ (by simp) ?_
    simp [Tryz.f100, hsy]
    have hI : IsOutS (H ++ [some ⟨110, .wr, []⟩]) (.sl (some (H.length, 0)) 0) [] [H.length] := ⟨_, rfl, Own.of (by simp)⟩
    obtain ⟨fp, h1, h2⟩ := hI.leave (H := H) (ws := [W.lf (.sl (some (H.length, 0)) 0)]) (Fresh.app H _ (by simp)) (by simp)
    exact ⟨fp, h1, h2⟩

def judgeGates (x : Box) : Bool := x.ok && decide (x.gates = gates (bridgeOf x.id x.ports x.line))
theorem Box.ok_ids {x : Box} (h : x.ok = true) : (1 ≤ x.id ∧ x.id ≤ 9) ∧ (1 ≤ x.ports ∧ x.ports ≤ 4) ∧ x.line.length ≤ 60 ∧ (x.gates.length : Int) = x.ports := by
  unfold Box.ok at h
  simp only [Bool.and_eq_true, decide_eq_true_eq] at h
  obtain ⟨⟨⟨⟨⟨⟨⟨⟨h1, -⟩, -⟩, -⟩, -⟩, -⟩, h2⟩, h3⟩, -⟩ := h
  have hb : (1 ≤ x.id ∧ x.id ≤ 9) ∧ (1 ≤ x.ports ∧ x.ports ≤ 4) := by
    unfold bridgeNew at h1
    split at h1
    · rename_i hh; simp at hh; exact hh
    · simp at h1
  refine ⟨hb.1, hb.2, ?_, h2⟩
  simp [logOk] at h3
  omega

def saidAt (id ports : Int) (log : List In) (i : Nat) : List Out := (reactB (bridgeOf id ports (log.take i)) (log.getD i default)).2
def lastL (l : List Out) : List Out := l.drop (l.length - 40)
def judgeSaid (x : Box) : Bool := x.ok && decide (x.said = lastL (upto (saidAt x.id x.ports x.line) x.line.length))
theorem saidAt_len (id ports : Int) (log : List In) (i : Nat) : (saidAt id ports log i).length ≤ 8 := by
  unfold saidAt
  have h1 := reactB_outs (bridgeOf id ports (log.take i)) (log.getD i default)
  have h2 := bridgeOf_len id ports (log.take i)
  omega
theorem said_len (id ports : Int) (log : List In) : ∀ i, (upto (saidAt id ports log) i).length ≤ 8 * i
  | 0 => by simp [upto]
  | i + 1 => by
    have := said_len id ports log i
    have := saidAt_len id ports log i
    simp [upto]; omega

def zM : Minder := ⟨false, 0, 0, [], 0, 0, 0⟩
def mindsAt (x : Box) (s : Int) : Bool := (decide (0 ≤ s) && decide (s ≤ (x.two.length : Int) - 1)) && minds x.reg s (x.two.getD s.toNat zM)
def whoM (x : Box) : Int := if minds x.reg 0 (x.two.getD 0 zM) = true then 0 else if minds x.reg 1 (x.two.getD 1 zM) = true then 1 else -1
theorem whoM_cases (x : Box) : (whoM x = 0 ∧ minds x.reg 0 (x.two.getD 0 zM) = true) ∨ (whoM x = 1 ∧ minds x.reg 1 (x.two.getD 1 zM) = true) ∨ (whoM x = -1 ∧ minds x.reg 0 (x.two.getD 0 zM) = false ∧ minds x.reg 1 (x.two.getD 1 zM) = false) := by
  unfold whoM
  cases h0 : minds x.reg 0 (x.two.getD 0 zM) <;> cases h1 : minds x.reg 1 (x.two.getD 1 zM) <;> simp
theorem minds_one (r : Reg) (m n : Minder) : ¬ (minds r 0 m = true ∧ minds r 1 n = true) := by
  unfold minds
  rintro ⟨h1, h2⟩
  simp at h1 h2
  omega

theorem l14Minds {H : Heap} {l : List Lf} {x : Box} (h : RdBox H l x) (hn : x.sz ≤ 1048576) (s : Int) : run env 102 [.agg l, .int s] H = some (.bool (mindsAt x s), H) := by
  obtain ⟨_, _, _, _, _, rfl, ⟨a0, rws, rfl, hs, hlen, hat⟩, -⟩ := h
  unfold Box.sz at hn
  have hl0 := MinderS.sz_len x.two
  have g : IntKind.i64.wrap ((x.two.length : Int) - 1) = (x.two.length : Int) - 1 := wrap64 (by omega) (by omega)
  refine run_walk ok102 Tryz.func102 rfl (by simp [Tryz.f102]) fun Q hQ => ?_
  simp only [Tryz.f102, strip, stripL, stripI, stripG, chkT, tagsB, tagsL, tagD, addT, tagA, lookN, tagOp, elmT, ty22, ty29, ty33, ty39, ty40, ty41, ty42, ty69, ty71, ty95, Nat.reduceEqDiff, if_false, reduceIte, Option.getD_some, Option.getD_none, dstAt, dstOk, Nat.reduceLT, decide_true, if_true]
  simp [Box.enc, builtinV, pureB, lenV, g]
  by_cases hc : 0 ≤ s ∧ s ≤ (x.two.length : Int) - 1
  · obtain ⟨k, rfl⟩ : ∃ k : Nat, s = k := ⟨s.toNat, by omega⟩
    have hk : k < x.two.length := by omega
    have hri : k < rws.length := by omega
    obtain ⟨id2, r, bl, rfl, hbl, hbe, hrow⟩ := hs k _ (List.getElem?_eq_getElem hri)
    have hid := blkAt_len hbl
    have he := hat k _ _ (List.getElem?_eq_getElem hri) (List.getElem?_eq_getElem hk)
    have hL := he.len
    have hT : rws[k].take rws[k].length = rws[k] := List.take_length
    rw [hL] at hT
    have hszi := MinderS.sz_at (List.getElem_mem hk)
    have e1 := fun G => specMinds_is (he.app G) (by omega) x.reg (k : Int) ⟨by omega, by omega⟩
    simp only [Reg.enc] at e1
    have hkl : (k : Int) ≤ (x.two.length : Int) - 1 := by omega
    have hm : mindsAt x k = minds x.reg k x.two[k] := by
      unfold mindsAt
      simp [hkl, List.getD, List.getElem?_eq_getElem hk]
    simp [l1In, hkl, indexAddrV, elemIs, hid, hbl, hbe, hk, hrow, hL, hT, e1]
    refine hQ _ _ _ (by simp) ?_
    simp [Tryz.f102, hm]
  · have hcf : (decide (0 ≤ s) && decide (s ≤ (x.two.length : Int) - 1)) = false := by
      rw [Bool.and_eq_false_iff]; simp; omega
    simp [l1In, hcf]
    refine hQ _ _ _ (by simp) ?_
    simp [Tryz.f102, mindsAt, hcf]

theorem nd5 {f0 f1 f2 f3 f4 : List Nat} (n0 : f0.Nodup) (n1 : f1.Nodup) (n2 : f2.Nodup) (n3 : f3.Nodup) (n4 : f4.Nodup) {a b c d e : Nat} (h1 : ∀ i ∈ f1, a ≤ i ∧ i < b) (h2 : ∀ i ∈ f2, b ≤ i ∧ i < c) (h3 : ∀ i ∈ f3, c ≤ i ∧ i < d) (h4 : ∀ i ∈ f4, d ≤ i ∧ i < e) (h0 : ∀ i ∈ f0, i < a ∨ e ≤ i)
    (hab : a ≤ b) (hbc : b ≤ c) (hcd : c ≤ d) (hde : d ≤ e) : (f0 ++ (f1 ++ (f2 ++ (f3 ++ f4)))).Nodup := by
  refine nodup_app n0 (nodup_app n1 (nodup_app n2 (nodup_app n3 n4 fun i hi hj => ?_) fun i hi hj => ?_) fun i hi hj => ?_) fun i hi hj => ?_
  · have := h3 i hi; have := h4 i hj; omega
  · have := h2 i hi
    rcases List.mem_append.1 hj with hj | hj
    · have := h3 i hj; omega
    · have := h4 i hj; omega
  · have := h1 i hi
    rcases List.mem_append.1 hj with hj | hj
    · have := h2 i hj; omega
    · rcases List.mem_append.1 hj with hj | hj
      · have := h3 i hj; omega
      · have := h4 i hj; omega
  · have := h0 i hi
    rcases List.mem_append.1 hj with hj | hj
    · have := h1 i hj; omega
    · rcases List.mem_append.1 hj with hj | hj
      · have := h2 i hj; omega
      · rcases List.mem_append.1 hj with hj | hj
        · have := h3 i hj; omega
        · have := h4 i hj; omega
/-- One element more, in memory that grew. -/
theorem isL_snoc {α : Type} {R : Heap → List Lf → α → List Nat → Prop} {e : Nat} {H1 H2 H3 : Heap} {a' : Option (Nat × Nat)} {rows : List (List Lf)} {xs : List α} {fp0 fp0' f : List Nat} {fps : List (List Nat)} {row : List Lf} {x : α} (ok : RepOk R) (hp : Part R H1 rows xs fps) (hnd : (fp0 ++ fps.flatten).Nodup) (hlt0 : ∀ i ∈ fp0, i < H1.length)
    (k12 : Keep [] H1 H2) (hr : R H2 row x f) (hf : ∀ i ∈ f, H1.length ≤ i) (k23 : Keep fp0 H2 H3) (ho : Own H3 e a' (rows ++ [row]) fp0') (hf0 : ∀ i ∈ fp0', i ∈ fp0 ∨ H2.length ≤ i) :
    Part R H3 (rows ++ [row]) (xs ++ [x]) (fps ++ [f]) ∧ (fp0' ++ (fps ++ [f]).flatten).Nodup := by
  have hlt := hp.lt ok
  have hfl := ok.lt hr
  have h12 := k12.1
  have hd : ∀ i ∈ fp0, i ∉ fps.flatten := fun i hi hj => (List.nodup_append.1 hnd).2.2 i hi i hj rfl
  have p2 := hp.keep ok k12 (by simp)
  have p3 := p2.keep ok k23 (fun i hi hj => hd i hj hi)
  have r3 := ok.keep hr k23 (fun i hi hj => by have := hf i hi; have := hlt0 i hj; omega)
  refine ⟨p3.snoc ok r3 (fun i hi hj => by have := hf i hi; have := hlt i hj; omega), ?_⟩
  rw [List.flatten_append]
  refine nodup_app ho.nodup (nodup_app hp.nodup (by simpa using ok.nodup hr) fun i hi hj => ?_) fun i hi hj => ?_
  · have := hlt i hi
    simp at hj
    have := hf i hj; omega
  · rcases List.mem_append.1 hj with hj | hj
    · rcases hf0 i hi with h | h
      · exact hd i h hj
      · have := hlt i hj; omega
    · simp at hj
      have := hf i hj
      have := hfl i hj
      rcases hf0 i hi with h | h
      · have := hlt0 i h; omega
      · omega

theorem specCopyBox {H : Heap} {l : List Lf} {x : Box} (h : RdBox H l x) (hn : x.sz ≤ 1048576) : Runs env 71 [.agg l] H fun v H' => ∃ l' fp, v = .agg l' ∧ IsBox H' l' x fp ∧ Fresh H H' fp := by
  obtain ⟨_, _, _, _, _, rfl, ⟨a0, rws, rfl, hs, hlen, hat⟩, ⟨a1, rfl, r1⟩, ⟨a2, rfl, r2⟩, ⟨a3, rfl, r3⟩, ⟨a4, rfl, r4⟩⟩ := h
  unfold Box.sz at hn
  have hl0 := MinderS.sz_len x.two
  refine Runs.walk ok71 Tryz.func71 rfl (by simp [Tryz.f71]) fun Q hQ => ?_
  simp only [Tryz.f71, strip, stripL, stripI, stripG, chkT, tagsB, tagsL, tagD, addT, tagA, lookN, tagOp, elmT, ty22, ty29, ty33, ty39, ty40, ty41, ty42, ty69, ty71, ty95, Nat.reduceEqDiff, if_false, reduceIte, Option.getD_some, Option.getD_none, dstAt, dstOk, Nat.reduceLT, decide_true, if_true]
  simp [Box.enc]
  obtain ⟨Z, hZ⟩ : ∃ Z : List Lf, Z = [.i .i64 0, .i .i64 0, .i .i64 0, .i .i64 0, .i .i64 0, .sl none 0, .sl none 0, .sl none 0, .sl none 0, .sl none 0] := ⟨_, rfl⟩
  obtain ⟨HX0, hH0⟩ : ∃ H3 : Heap, H3 = H ++ [some ⟨44, .wr, [[.i .i64 x.id, .i .i64 x.ports, .i .i64 x.reg.epoch, .i .i64 x.reg.owner, .i .i64 x.reg.pair, .sl a0 x.two.length, .sl a1 x.net.length, .sl a2 x.gates.length, .sl a3 x.line.length, .sl a4 x.said.length]]⟩, some ⟨44, .wr, [Z]⟩] := ⟨_, rfl⟩
  have c1_0 : blkAt HX0 H.length = some ⟨44, .wr, [[.i .i64 x.id, .i .i64 x.ports, .i .i64 x.reg.epoch, .i .i64 x.reg.owner, .i .i64 x.reg.pair, .sl a0 x.two.length, .sl a1 x.net.length, .sl a2 x.gates.length, .sl a3 x.line.length, .sl a4 x.said.length]]⟩ := by rw [hH0]; simp
  have c2_0 : blkAt HX0 (H.length + 1) = some ⟨44, .wr, [Z]⟩ := by rw [hH0]; simp
  have k0_0 : Keep [] H HX0 := by rw [hH0]; exact Keep.app _ _ _
  have lx0 : HX0.length = H.length + 2 := by rw [hH0]; simp
  have hZl : Z.length = 10 := by rw [hZ]; rfl
  have hT : ∀ tmp : Option Blk, H ++ [some ⟨44, .wr, [[.i .i64 x.id, .i .i64 x.ports, .i .i64 x.reg.epoch, .i .i64 x.reg.owner, .i .i64 x.reg.pair, .sl a0 x.two.length, .sl a1 x.net.length, .sl a2 x.gates.length, .sl a3 x.line.length, .sl a4 x.said.length]]⟩, some ⟨44, .wr, [[.i .i64 0, .i .i64 0, .i .i64 0, .i .i64 0, .i .i64 0, .sl none 0, .sl none 0, .sl none 0, .sl none 0, .sl none 0]]⟩, tmp] = HX0 ++ [tmp] := by intro tmp; rw [hH0, hZ]; simp
  rw [hT]
  rw [show H.length + 2 = HX0.length from lx0.symm]
  clear hT hH0
  refine stpL_append (rows := []) (ys := x.net.map Wire.enc) (Own.of (by simp)) ((r1.keep k0_0 (by simp)).app _) rfl rfl rfl (by simp) (by simp; omega) rfl (by simp) fun q1 HX1 f1 o1 kt1 ft1 => ?_
  rw [List.nil_append] at o1
  have kx1 : Keep [] HX0 HX1 := (Keep.app [] _ _).next kt1 (by simp)
  have lx1' := kx1.1
  have lt1 := o1.lt
  have ge1 : ∀ i ∈ f1, HX0.length ≤ i := fun i hi => by
    rcases ft1 i hi with h | h
    · simp at h; omega
    · rw [List.length_append] at h; omega
  have c1_1 := kx1.blk c1_0 (by simp)
  have c2_1 := kx1.blk c2_0 (by simp)
  have d1_1 := blkAt_len c1_1
  have k0_1 : Keep [] H HX1 := k0_0.next kx1 (by simp)
  simp [c1_1, d1_1, Box.enc]
  refine stpL_append (rows := []) (ys := x.gates.map encB) (Own.of (by simp)) ((r2.keep k0_1 (by simp)).app _) rfl rfl rfl (by simp) (by simp; omega) rfl (by simp) fun q2 HX2 f2 o2 kt2 ft2 => ?_
  rw [List.nil_append] at o2
  have kx2 : Keep [] HX1 HX2 := (Keep.app [] _ _).next kt2 (by simp)
  have lx2' := kx2.1
  have lt2 := o2.lt
  have ge2 : ∀ i ∈ f2, HX1.length ≤ i := fun i hi => by
    rcases ft2 i hi with h | h
    · simp at h; omega
    · rw [List.length_append] at h; omega
  have c1_2 := kx2.blk c1_1 (by simp)
  have c2_2 := kx2.blk c2_1 (by simp)
  have d1_2 := blkAt_len c1_2
  have k0_2 : Keep [] H HX2 := k0_1.next kx2 (by simp)
  have o1 := o1.keep kx2 (by simp)
  simp [c1_2, d1_2, Box.enc]
  refine stpL_append (rows := []) (ys := x.line.map In.enc) (Own.of (by simp)) ((r3.keep k0_2 (by simp)).app _) rfl rfl rfl (by simp) (by simp; omega) rfl (by simp) fun q3 HX3 f3 o3 kt3 ft3 => ?_
  rw [List.nil_append] at o3
  have kx3 : Keep [] HX2 HX3 := (Keep.app [] _ _).next kt3 (by simp)
  have lx3' := kx3.1
  have lt3 := o3.lt
  have ge3 : ∀ i ∈ f3, HX2.length ≤ i := fun i hi => by
    rcases ft3 i hi with h | h
    · simp at h; omega
    · rw [List.length_append] at h; omega
  have c1_3 := kx3.blk c1_2 (by simp)
  have c2_3 := kx3.blk c2_2 (by simp)
  have d1_3 := blkAt_len c1_3
  have k0_3 : Keep [] H HX3 := k0_2.next kx3 (by simp)
  have o1 := o1.keep kx3 (by simp)
  have o2 := o2.keep kx3 (by simp)
  simp [c1_3, d1_3, Box.enc]
  refine stpL_append (rows := []) (ys := x.said.map Out.enc) (Own.of (by simp)) ((r4.keep k0_3 (by simp)).app _) rfl rfl rfl (by simp) (by simp; omega) rfl (by simp) fun q4 HX4 f4 o4 kt4 ft4 => ?_
  rw [List.nil_append] at o4
  have kx4 : Keep [] HX3 HX4 := (Keep.app [] _ _).next kt4 (by simp)
  have lx4' := kx4.1
  have lt4 := o4.lt
  have ge4 : ∀ i ∈ f4, HX3.length ≤ i := fun i hi => by
    rcases ft4 i hi with h | h
    · simp at h; omega
    · rw [List.length_append] at h; omega
  have c1_4 := kx4.blk c1_3 (by simp)
  have c2_4 := kx4.blk c2_3 (by simp)
  have d1_4 := blkAt_len c1_4
  have k0_4 : Keep [] H HX4 := k0_3.next kx4 (by simp)
  have o1 := o1.keep kx4 (by simp)
  have o2 := o2.keep kx4 (by simp)
  have o3 := o3.keep kx4 (by simp)
  simp [c1_4, d1_4, Box.enc]
  obtain ⟨H3, hH3⟩ : ∃ H3 : Heap, H3 = HX4 ++ [some ⟨44, .wr, [[.i .i64 x.id, .i .i64 x.ports, .i .i64 x.reg.epoch, .i .i64 x.reg.owner, .i .i64 x.reg.pair, .sl none 0, .sl q1 x.net.length, .sl q2 x.gates.length, .sl q3 x.line.length, .sl q4 x.said.length]]⟩] := ⟨_, rfl⟩
  have b3 : blkAt H3 HX4.length = some ⟨44, .wr, [[.i .i64 x.id, .i .i64 x.ports, .i .i64 x.reg.epoch, .i .i64 x.reg.owner, .i .i64 x.reg.pair, .sl none 0, .sl q1 x.net.length, .sl q2 x.gates.length, .sl q3 x.line.length, .sl q4 x.said.length]]⟩ := by rw [hH3]; simp
  have k43 : Keep [] HX4 H3 := by rw [hH3]; exact Keep.app _ _ _
  have hl3 : H3.length = HX4.length + 1 := by rw [hH3]; simp
  rw [← hH3]
  clear hH3
  have b1 := k43.blk c1_4 (by simp)
  have b2 := k43.blk c2_4 (by simp)
  have o1 := o1.keep k43 (by simp)
  have o2 := o2.keep k43 (by simp)
  have o3 := o3.keep k43 (by simp)
  have o4 := o4.keep k43 (by simp)
  have k03 : Keep [] H H3 := k0_4.next k43 (by simp)
  refine wpS_loop (fun j tm H' => ∃ i a' rows fp0 fps, i + j = x.two.length ∧ tm 1 = .ptr H.length 0 0 ∧ tm 2 = .ptr (H.length + 1) 0 0 ∧ tm 3 = .ptr HX4.length 0 0 ∧ tm 4 = .int i ∧ blkAt H' HX4.length = some ⟨44, .wr, [[.i .i64 x.id, .i .i64 x.ports, .i .i64 x.reg.epoch, .i .i64 x.reg.owner, .i .i64 x.reg.pair, .sl a' i, .sl q1 x.net.length, .sl q2 x.gates.length, .sl q3 x.line.length, .sl q4 x.said.length]]⟩ ∧ Own H' 35 a' rows fp0 ∧ Part IsMinder H' rows (x.two.take i) fps ∧ (fp0 ++ fps.flatten).Nodup ∧ (∀ k ∈ fp0 ++ fps.flatten, H3.length ≤ k) ∧ Keep [HX4.length] H3 H') x.two.length (by rw [env_K]; omega)
    ⟨0, none, [], [], [], by simp, by simp, by simp, by simp, by simp, b3, Own.nil _ _, Part.nil _ _, by simp, by simp, Keep.refl _ _⟩ ?_
  rintro j tm H1 hj ⟨i, a', rows, fp0, fps, hij, t1, t2, t3, t4, c3, ho, hp, hnd, hge, hK3⟩ Q2 hn2 he2 hr2
  have c1 := hK3.blk b1 (by simp; omega)
  have c2 := hK3.blk b2 (by simp; omega)
  have d1 := blkAt_len c1
  have d2 := blkAt_len c2
  have d3 := blkAt_len c3
  have hK : Keep [] H H1 := k03.next hK3 (by simp; omega)
  have h31 := hK3.1
  simp [t1, t4, c1, d1, builtinV, pureB, lenV]
  refine selS_intro (fun hc => ?_) (fun hc => ?_)
  · simp at hc
    have hri : i < rws.length := by omega
    obtain ⟨id2, r, bl, rfl, hbl, hbe, hrow⟩ := (hs.keep hK (by simp)) i _ (List.getElem?_eq_getElem hri)
    have hid := blkAt_len hbl
    have he := (hat i _ _ (List.getElem?_eq_getElem hri) (List.getElem?_eq_getElem hc)).base hK
    have hL := he.len
    have hT : rws[i].take rws[i].length = rws[i] := List.take_length
    rw [hL] at hT
    have hszi := MinderS.sz_at (List.getElem_mem hc)
    have g4 : IntKind.i64.wrap ((i : Int) + 1) = (i : Int) + 1 := wrap64 (by omega) (by omega)
    have hrl : rows.length = i := by rw [hp.len]; simp; omega
    simp [t1, t2, t3, t4, c1, d1, c3, d3, Box.enc, indexAddrV, elemIs, hid, hbl, hbe, hc, hrow, hL, hT]
    refine stpL_runs_f (specCopyM he (by omega)) (by rintro _ _ ⟨_, _, _, _, hf⟩; exact hf.1) ?_
    rintro _ _ ⟨l2, f2, rfl, o2', ⟨⟨G2, rfl⟩, hf2⟩⟩
    have hl2 := o2'.len
    have hT2 : l2.take l2.length = l2 := List.take_length
    rw [hl2] at hT2
    simp [hl2, hT2]
    have hlt0 := ho.lt
    refine stpL_append (e := 35) (rows := rows) (ys := [l2]) (ho.app _) (Sl.of (by simp)) rfl rfl rfl (by simp) (by simp; omega) (by omega) rfl fun a'' H'' fp'' ho'' hk'' hf'' => ?_
    have k12 : Keep [] H1 (H1 ++ (G2 ++ [some ⟨35, .wr, [l2]⟩])) := Keep.app _ _ _
    have o2'' := o2'.app [some ⟨35, .wr, [l2]⟩]
    simp only [List.append_assoc, List.cons_append, List.nil_append] at o2''
    obtain ⟨hp2, hnd2⟩ := isL_snoc okMinder hp hnd hlt0 k12 o2'' hf2 hk'' ho'' hf''
    have c3' := (hk''.blk (k12.blk c3 (by simp)) (fun h => by have := hge _ (List.mem_append.2 (.inl h)); omega))
    have d3' := blkAt_len c3'
    have hk1 : Keep [HX4.length] H3 H'' := Keep.trans (h := [HX4.length]) (Keep.trans (h := [HX4.length]) hK3 k12 (by simp) (by simp)) hk'' (by simp) (fun k hk hl => by have := hge k (List.mem_append.2 (.inl hk)); omega)
    have hge2 : ∀ k ∈ fp'' ++ (fps ++ [f2]).flatten, H3.length ≤ k := fun k hk => by
      rcases List.mem_append.1 hk with hk | hk
      · rcases hf'' k hk with h | h
        · exact hge k (List.mem_append.2 (.inl h))
        · rw [List.length_append] at h; omega
      · rw [List.flatten_append] at hk
        rcases List.mem_append.1 hk with hk | hk
        · exact hge k (List.mem_append.2 (.inr hk))
        · simp at hk
          have := hf2 k hk; omega
    have ks := fun y => Keep.set (id := HX4.length) H'' y
    have hno : ∀ k ∈ fp'' ++ (fps ++ [f2]).flatten, k ∉ [HX4.length] := fun k hk => by have := hge2 k hk; simp; omega
    simp [t1, t2, t3, t4, c3', d3', Box.enc, g4]
    refine hn2 (j - 1) _ _ (by omega) ⟨i + 1, a'', rows ++ [l2], fp'', fps ++ [f2], by omega, by simp [t1], by simp [t2], by simp [t3], by simp, by rw [blkAt_set d3'], ho''.keep (ks _) (fun k hk => hno k (List.mem_append.2 (.inl hk))), ?_, hnd2, hge2, hk1.trans (h := [HX4.length]) (ks _) (by simp) (by simp)⟩
    rw [List.take_add_one, List.getElem?_eq_getElem hc]
    exact hp2.keep okMinder (ks _) (fun k hk => hno k (List.mem_append.2 (.inr hk)))
  · simp at hc
    obtain rfl : i = x.two.length := by omega
    rw [List.take_length] at hp
    simp [t1, t4]
    refine he2 _ _ _ ?_
    have o0 : IsMinderS H1 (.sl a' x.two.length) x.two (fp0 ++ fps.flatten) := ⟨a', rows, fp0, fps, rfl, ho, hp, rfl, hnd⟩
    have n3 : ∀ i ∈ [HX4.length], HX4.length ≤ i := by simp
    have o1 := o1.keep hK3 (fun i hi hj => by have := lt1 i hi; simp at hj; omega)
    have o2 := o2.keep hK3 (fun i hi hj => by have := lt2 i hi; simp at hj; omega)
    have o3 := o3.keep hK3 (fun i hi hj => by have := lt3 i hi; simp at hj; omega)
    have o4 := o4.keep hK3 (fun i hi hj => by have := lt4 i hi; simp at hj; omega)
    simp [t2, t3, c2, d2, c3, d3, hZl]
    have hdz : List.drop 10 Z = [] := List.drop_of_length_le (by omega)
    try simp [hdz]
    obtain ⟨HF, hHF⟩ : ∃ HF : Heap, HF = H1.set (H.length + 1) (some ⟨44, .wr, [[.i .i64 x.id, .i .i64 x.ports, .i .i64 x.reg.epoch, .i .i64 x.reg.owner, .i .i64 x.reg.pair, .sl a' x.two.length, .sl q1 x.net.length, .sl q2 x.gates.length, .sl q3 x.line.length, .sl q4 x.said.length]]⟩) := ⟨_, rfl⟩
    rw [← hHF]
    have kF : Keep [H.length + 1] H1 HF := by rw [hHF]; exact Keep.set _ _
    have cF : blkAt HF (H.length + 1) = some ⟨44, .wr, [[.i .i64 x.id, .i .i64 x.ports, .i .i64 x.reg.epoch, .i .i64 x.reg.owner, .i .i64 x.reg.pair, .sl a' x.two.length, .sl q1 x.net.length, .sl q2 x.gates.length, .sl q3 x.line.length, .sl q4 x.said.length]]⟩ := by rw [hHF]; exact blkAt_set d2
    clear hHF
    refine hQ _ _ _ (by simp) ?_
    simp [Tryz.f71, t2, cF]
    have hI : IsBox HF [.i .i64 x.id, .i .i64 x.ports, .i .i64 x.reg.epoch, .i .i64 x.reg.owner, .i .i64 x.reg.pair, .sl a' x.two.length, .sl q1 x.net.length, .sl q2 x.gates.length, .sl q3 x.line.length, .sl q4 x.said.length] x ((fp0 ++ fps.flatten) ++ (f1 ++ (f2 ++ (f3 ++ f4)))) := ⟨_, _, _, _, _, _, f1, f2, f3, f4, rfl, o0.keep okMinder kF (fun i hi hj => by have := hge i hi; simp at hj; omega), ⟨q1, rfl, o1.keep kF (fun i hi hj => by have := ge1 i hi; simp at hj; omega)⟩, ⟨q2, rfl, o2.keep kF (fun i hi hj => by have := ge2 i hi; simp at hj; omega)⟩, ⟨q3, rfl, o3.keep kF (fun i hi hj => by have := ge3 i hi; simp at hj; omega)⟩, ⟨q4, rfl, o4.keep kF (fun i hi hj => by have := ge4 i hi; simp at hj; omega)⟩, rfl,
      nd5 hnd o1.nodup o2.nodup o3.nodup o4.nodup (a := HX0.length) (b := HX1.length) (c := HX2.length) (d := HX3.length) (e := HX4.length) (fun i hi => ⟨ge1 i hi, lt1 i hi⟩) (fun i hi => ⟨ge2 i hi, lt2 i hi⟩) (fun i hi => ⟨ge3 i hi, lt3 i hi⟩) (fun i hi => ⟨ge4 i hi, lt4 i hi⟩) (fun i hi => .inr (by have := hge i hi; omega)) lx1' lx2' lx3' lx4'⟩
    have hfr : Fresh H HF ((fp0 ++ fps.flatten) ++ (f1 ++ (f2 ++ (f3 ++ f4)))) := ⟨(hK.next kF (by simp)).ext, fun i hi => by
      rcases List.mem_append.1 hi with hi | hi
      · have := hge i hi; omega
      · rcases List.mem_append.1 hi with hi | hi
        · have := ge1 i hi; omega
        · rcases List.mem_append.1 hi with hi | hi
          · have := ge2 i hi; omega
          · rcases List.mem_append.1 hi with hi | hi
            · have := ge3 i hi; omega
            · have := ge4 i hi; omega⟩
    exact hI.leave hfr (by simp)

theorem sl_uniq {α : Type} {H : Heap} {e : Nat} {enc : α → List Lf} {a : Option (Nat × Nat)} {xs ys : List α} (inj : ∀ x y, enc x = enc y → x = y) (h : Sl H e a (xs.map enc)) (h2 : Sl H e a (ys.map enc)) (hl : xs.length = ys.length) : xs = ys := by
  refine List.ext_getElem hl fun i h3 h4 => ?_
  obtain ⟨id, r, b, rfl, hb, -, hrow⟩ := h i (enc xs[i]) (by simp [h3])
  obtain ⟨id', r', b', hx, hb', -, hrow'⟩ := h2 i (enc ys[i]) (by simp [h4])
  cases hx
  rw [hb] at hb'
  injection hb' with hb'
  subst hb'
  rw [hrow] at hrow'
  injection hrow' with hrow'
  exact inj _ _ hrow'
theorem rdSl_uniq {α : Type} {H : Heap} {e : Nat} {enc : α → List Lf} {q : Lf} {xs ys : List α} (inj : ∀ x y, enc x = enc y → x = y) (h : RdSl e enc H q xs) (h2 : RdSl e enc H q ys) : xs = ys := by
  obtain ⟨a, rfl, s1⟩ := h
  obtain ⟨b, hq, s2⟩ := h2
  injection hq with h1 h2
  subst h1
  exact sl_uniq inj s1 s2 h2
theorem rdMinder_uniq {H : Heap} {l : List Lf} {x y : Minder} (h : RdMinder H l x) (h2 : RdMinder H l y) : x = y := by
  obtain ⟨a, rfl, s1⟩ := h
  obtain ⟨b, hq, s2⟩ := h2
  simp [Minder.enc] at hq
  obtain ⟨e1, e2, e3, ⟨e4, e5⟩, e6, e7, e8⟩ := hq
  subst e4
  have := sl_uniq (fun x y h => In.enc_inj h) s1 s2 e5
  cases x; cases y; simp_all
theorem rdMinderS_uniq {H : Heap} {q : Lf} {xs ys : List Minder} (h : RdMinderS H q xs) (h2 : RdMinderS H q ys) : xs = ys := by
  obtain ⟨a, rws, rfl, s1, l1, at1⟩ := h
  obtain ⟨b, rws2, hq, s2, l2, at2⟩ := h2
  injection hq with h1 h2
  subst h1
  refine List.ext_getElem h2 fun i h3 h4 => ?_
  have r1 : i < rws.length := by omega
  have r2 : i < rws2.length := by omega
  obtain ⟨id, r, b, rfl, hb, -, hrow⟩ := s1 i _ (List.getElem?_eq_getElem r1)
  obtain ⟨id', r', b', hx, hb', -, hrow'⟩ := s2 i _ (List.getElem?_eq_getElem r2)
  cases hx
  rw [hb] at hb'
  injection hb' with hb'
  subst hb'
  rw [hrow] at hrow'
  injection hrow' with hrow'
  have e1 := at1 i _ _ (List.getElem?_eq_getElem r1) (List.getElem?_eq_getElem h3)
  have e2 := at2 i _ _ (List.getElem?_eq_getElem r2) (List.getElem?_eq_getElem h4)
  rw [← hrow'] at e2
  exact rdMinder_uniq e1 e2
theorem encB_one (x y : Bool) (h : encB x = encB y) : x = y := by simpa [encB] using h
theorem rdBox_uniq {H : Heap} {l : List Lf} {x y : Box} (h : RdBox H l x) (h2 : RdBox H l y) : x = y := by
  obtain ⟨q0, q1, q2, q3, q4, rfl, a0, a1, a2, a3, a4⟩ := h
  obtain ⟨p0, p1, p2, p3, p4, hl, b0, b1, b2, b3, b4⟩ := h2
  simp [Box.enc] at hl
  obtain ⟨e1, e2, e3, e4, e5, rfl, rfl, rfl, rfl, rfl⟩ := hl
  have c0 := rdMinderS_uniq a0 b0
  have c1 := rdSl_uniq (fun x y h => Wire.enc_inj h) a1 b1
  have c2 := rdSl_uniq encB_one a2 b2
  have c3 := rdSl_uniq (fun x y h => In.enc_inj h) a3 b3
  have c4 := rdSl_uniq (fun x y h => Out.enc_inj h) a4 b4
  cases x; cases y
  rename_i r1 _ _ _ _ _ _ _ r2 _ _ _ _ _
  cases r1; cases r2
  simp_all
/-- What a call leaves of a box that was turned in its place. -/
theorem leave_box {H HF : Heap} {id : Nat} {l l' : List Lf} {x x' : Box} {fp fp' : List Nat} (hb : blkAt H id = some ⟨44, .wr, [l]⟩) (hI : IsBox H l x fp) (hb' : blkAt HF id = some ⟨44, .wr, [l']⟩) (hI' : IsBox HF l' x' fp') (hK : Keep (id :: fp) H HF) (hf : ∀ i ∈ fp', i ∈ fp ∨ H.length ≤ i) (ws : List W) :
    ∃ fp2, blkAt (leave H HF ws) id = some ⟨44, .wr, [l']⟩ ∧ IsBox (leave H HF ws) l' x' fp2 ∧ Keep (id :: fp) H (leave H HF ws) ∧ (∀ i ∈ fp2, i ∈ fp ∨ H.length ≤ i) := by
  rcases leave_or H HF ws with e | ⟨e, G, rfl⟩ <;> rw [e]
  · exact ⟨fp', hb', hI', hK, hf⟩
  · rw [blkAt_app hb] at hb'
    injection hb' with hb'
    simp at hb'
    subst hb'
    have := rdBox_uniq (hI.rd.app G) hI'.rd
    subst this
    exact ⟨fp, hb, hI, Keep.refl _ _, fun i hi => .inl hi⟩
end W
end Go.Proofs.YtdojljjiekgapaaGreatDoor

/- The table of types of this translation, the functions that are run, and the checks that both are the program's. No conditions. -/
import Derived.Test.YtjgjjaidpceieaaAbRep2
import Derived.Test.YtjgjjaidpceieaaProg
set_option maxRecDepth 100000
namespace Go.Proofs.Ytjgjjaidpceieaa
open Go Go.Ab
namespace W
def rows : List (Nat × TI) := [
  (2, ⟨1, 8, .int .i64, [.i .i64 0], false⟩),
  (3, ⟨1, 8, .int .i64, [.i .i64 0], false⟩),
  (4, ⟨1, 1, .bool, [.b false], false⟩),
  (5, ⟨1, 1, .int .u8, [.i .u8 0], false⟩),
  (9, ⟨1, 16, .str, [.s ByteArray.empty], false⟩),
  (12, ⟨1, 8, .int .u64, [.i .u64 0], false⟩),
  (21, ⟨1, 4, .int .i32, [.i .i32 0], false⟩),
  (22, ⟨1, 24, .slice 5, [.sl none 0], false⟩),
  (24, ⟨1, 24, .slice 56, [.sl none 0], false⟩),
  (25, ⟨1, 24, .slice 50, [.sl none 0], false⟩),
  (27, ⟨2, 48, .struct [(0, 1), (1, 1)], [.sl none 0, .sl none 0], false⟩),
  (33, ⟨1, 24, .slice 3, [.sl none 0], false⟩),
  (50, ⟨4, 32, .struct [(0, 1), (1, 1), (2, 1), (3, 1)], [.i .i64 0, .i .i64 0, .i .i64 0, .i .i64 0], true⟩),
  (52, ⟨4, 32, .struct [(0, 1), (1, 1), (2, 1), (3, 1)], [.i .i64 0, .i .i64 0, .i .i64 0, .i .i64 0], true⟩),
  (54, ⟨1, 24, .slice 87, [.sl none 0], false⟩),
  (56, ⟨2, 32, .struct [(0, 1), (1, 1)], [.i .i64 0, .sl none 0], false⟩),
  (58, ⟨1, 24, .slice 108, [.sl none 0], false⟩),
  (62, ⟨8, 64, .struct [(0, 1), (1, 1), (2, 4), (6, 1), (7, 1)], [.i .i64 0, .i .i64 0, .i .i64 0, .i .i64 0, .i .i64 0, .i .i64 0, .i .i64 0, .b false], true⟩),
  (64, ⟨1, 8, .other, [.p none], false⟩),
  (75, ⟨2, 16, .struct [(0, 1), (1, 1)], [.i .i64 0, .i .i64 0], true⟩),
  (78, ⟨4, 32, .array 2 75, [.i .i64 0, .i .i64 0, .i .i64 0, .i .i64 0], false⟩),
  (87, ⟨11, 80, .struct [(0, 1), (1, 1), (2, 4), (6, 1), (7, 1), (8, 1), (9, 1), (10, 1)], [.b false, .b false, .i .i64 0, .i .i64 0, .i .i64 0, .i .i64 0, .i .i64 0, .i .i64 0, .i .i64 0, .i .i64 0, .b false], true⟩),
  (95, ⟨1, 24, .slice 4, [.sl none 0], false⟩),
  (105, ⟨3, 40, .struct [(0, 1), (1, 1), (2, 1)], [.sl none 0, .i .i64 0, .i .i64 0], false⟩),
  (106, ⟨1, 8, .other, [.p none], false⟩),
  (108, ⟨8, 64, .struct [(0, 1), (1, 1), (2, 4), (6, 1), (7, 1)], [.i .i64 0, .i .i64 0, .i .i64 0, .i .i64 0, .i .i64 0, .i .i64 0, .i .i64 0, .b false], true⟩),
  (112, ⟨1, 8, .other, [.p none], false⟩),
  (114, ⟨1, 8, .other, [.p none], false⟩),
  (122, ⟨1, 24, .slice 75, [.sl none 0], false⟩),
  (128, ⟨1, 8, .int .u64, [.i .u64 0], false⟩),
  (140, ⟨1, 4, .int .u32, [.i .u32 0], false⟩),
  (144, ⟨1, 8, .other, [.p none], false⟩)]
def fns : List Nat := [3, 9, 10, 11, 12, 13, 14, 15, 16, 17, 18, 19, 20, 21, 22, 23, 24, 49, 50, 51, 52, 53, 54, 55, 56, 57, 58, 59, 60, 61, 62, 63, 64, 65, 66, 67, 68, 69, 70, 71, 72, 73, 74, 75, 76, 77, 78, 79, 80, 86, 88, 89, 90, 91, 93, 94, 95, 96, 97, 98, 99, 100, 101, 102, 103, 104, 105, 106, 107, 108, 109, 110, 111, 112, 113, 114, 115, 116, 117, 118, 119, 120, 121, 122, 123, 124, 125, 126, 127, 128, 129, 130, 131, 132, 133, 134, 135]
def wrs : List Nat := [62, 49, 54, 89, 55, 56, 95, 66, 51, 129, 127, 117, 128, 93, 112, 116, 103]
def wts : List (Nat × Nat) := [(49, 105), (54, 105), (89, 105), (55, 105), (56, 105), (95, 105), (66, 105), (51, 105), (129, 105), (127, 105), (117, 105), (128, 105), (93, 105), (112, 105), (116, 105)]
noncomputable def env : Env := { P := Try.prog, τ := tabOf rows, K := 3000000, wr := fun f => wrs.contains f, ok := fun f => fns.contains f, wt := fun f => (wts.find? fun p => p.1 == f).map Prod.snd, dif := [] }
theorem tab_ok : TabOk env.P env.τ := tabOk_of (by kernel_rfl)
theorem draws_ok : env.P.follows .mixedOrders = true := by kernel_rfl
theorem prog_ok : progB env fns = true := by kernel_rfl
theorem sound_all : CallOk env.P (run env) := sound_run fun d => sound draws_ok tab_ok fns (fun f h => by simpa [env] using h) prog_ok d
theorem env_P : env.P = Try.prog := rfl
@[simp] theorem ty2 : env.τ 2 = some ⟨1, 8, .int .i64, [.i .i64 0], false⟩ := rfl
@[simp] theorem ty3 : env.τ 3 = some ⟨1, 8, .int .i64, [.i .i64 0], false⟩ := rfl
@[simp] theorem ty4 : env.τ 4 = some ⟨1, 1, .bool, [.b false], false⟩ := rfl
@[simp] theorem ty5 : env.τ 5 = some ⟨1, 1, .int .u8, [.i .u8 0], false⟩ := rfl
@[simp] theorem ty9 : env.τ 9 = some ⟨1, 16, .str, [.s ByteArray.empty], false⟩ := rfl
@[simp] theorem ty12 : env.τ 12 = some ⟨1, 8, .int .u64, [.i .u64 0], false⟩ := rfl
@[simp] theorem ty21 : env.τ 21 = some ⟨1, 4, .int .i32, [.i .i32 0], false⟩ := rfl
@[simp] theorem ty22 : env.τ 22 = some ⟨1, 24, .slice 5, [.sl none 0], false⟩ := rfl
@[simp] theorem ty24 : env.τ 24 = some ⟨1, 24, .slice 56, [.sl none 0], false⟩ := rfl
@[simp] theorem ty25 : env.τ 25 = some ⟨1, 24, .slice 50, [.sl none 0], false⟩ := rfl
@[simp] theorem ty27 : env.τ 27 = some ⟨2, 48, .struct [(0, 1), (1, 1)], [.sl none 0, .sl none 0], false⟩ := rfl
@[simp] theorem ty33 : env.τ 33 = some ⟨1, 24, .slice 3, [.sl none 0], false⟩ := rfl
@[simp] theorem ty50 : env.τ 50 = some ⟨4, 32, .struct [(0, 1), (1, 1), (2, 1), (3, 1)], [.i .i64 0, .i .i64 0, .i .i64 0, .i .i64 0], true⟩ := rfl
@[simp] theorem ty52 : env.τ 52 = some ⟨4, 32, .struct [(0, 1), (1, 1), (2, 1), (3, 1)], [.i .i64 0, .i .i64 0, .i .i64 0, .i .i64 0], true⟩ := rfl
@[simp] theorem ty54 : env.τ 54 = some ⟨1, 24, .slice 87, [.sl none 0], false⟩ := rfl
@[simp] theorem ty56 : env.τ 56 = some ⟨2, 32, .struct [(0, 1), (1, 1)], [.i .i64 0, .sl none 0], false⟩ := rfl
@[simp] theorem ty58 : env.τ 58 = some ⟨1, 24, .slice 108, [.sl none 0], false⟩ := rfl
@[simp] theorem ty62 : env.τ 62 = some ⟨8, 64, .struct [(0, 1), (1, 1), (2, 4), (6, 1), (7, 1)], [.i .i64 0, .i .i64 0, .i .i64 0, .i .i64 0, .i .i64 0, .i .i64 0, .i .i64 0, .b false], true⟩ := rfl
@[simp] theorem ty64 : env.τ 64 = some ⟨1, 8, .other, [.p none], false⟩ := rfl
@[simp] theorem ty75 : env.τ 75 = some ⟨2, 16, .struct [(0, 1), (1, 1)], [.i .i64 0, .i .i64 0], true⟩ := rfl
@[simp] theorem ty78 : env.τ 78 = some ⟨4, 32, .array 2 75, [.i .i64 0, .i .i64 0, .i .i64 0, .i .i64 0], false⟩ := rfl
@[simp] theorem ty87 : env.τ 87 = some ⟨11, 80, .struct [(0, 1), (1, 1), (2, 4), (6, 1), (7, 1), (8, 1), (9, 1), (10, 1)], [.b false, .b false, .i .i64 0, .i .i64 0, .i .i64 0, .i .i64 0, .i .i64 0, .i .i64 0, .i .i64 0, .i .i64 0, .b false], true⟩ := rfl
@[simp] theorem ty95 : env.τ 95 = some ⟨1, 24, .slice 4, [.sl none 0], false⟩ := rfl
@[simp] theorem ty105 : env.τ 105 = some ⟨3, 40, .struct [(0, 1), (1, 1), (2, 1)], [.sl none 0, .i .i64 0, .i .i64 0], false⟩ := rfl
@[simp] theorem ty106 : env.τ 106 = some ⟨1, 8, .other, [.p none], false⟩ := rfl
@[simp] theorem ty108 : env.τ 108 = some ⟨8, 64, .struct [(0, 1), (1, 1), (2, 4), (6, 1), (7, 1)], [.i .i64 0, .i .i64 0, .i .i64 0, .i .i64 0, .i .i64 0, .i .i64 0, .i .i64 0, .b false], true⟩ := rfl
@[simp] theorem ty112 : env.τ 112 = some ⟨1, 8, .other, [.p none], false⟩ := rfl
@[simp] theorem ty114 : env.τ 114 = some ⟨1, 8, .other, [.p none], false⟩ := rfl
@[simp] theorem ty122 : env.τ 122 = some ⟨1, 24, .slice 75, [.sl none 0], false⟩ := rfl
@[simp] theorem ty128 : env.τ 128 = some ⟨1, 8, .int .u64, [.i .u64 0], false⟩ := rfl
@[simp] theorem ty140 : env.τ 140 = some ⟨1, 4, .int .u32, [.i .u32 0], false⟩ := rfl
@[simp] theorem ty144 : env.τ 144 = some ⟨1, 8, .other, [.p none], false⟩ := rfl
theorem ok3 : env.ok 3 = true := rfl
theorem ok9 : env.ok 9 = true := rfl
theorem ok10 : env.ok 10 = true := rfl
theorem ok11 : env.ok 11 = true := rfl
theorem ok12 : env.ok 12 = true := rfl
theorem ok13 : env.ok 13 = true := rfl
theorem ok14 : env.ok 14 = true := rfl
theorem ok15 : env.ok 15 = true := rfl
theorem ok16 : env.ok 16 = true := rfl
theorem ok17 : env.ok 17 = true := rfl
theorem ok18 : env.ok 18 = true := rfl
theorem ok19 : env.ok 19 = true := rfl
theorem ok20 : env.ok 20 = true := rfl
theorem ok21 : env.ok 21 = true := rfl
theorem ok22 : env.ok 22 = true := rfl
theorem ok23 : env.ok 23 = true := rfl
theorem ok24 : env.ok 24 = true := rfl
theorem ok49 : env.ok 49 = true := rfl
theorem ok50 : env.ok 50 = true := rfl
theorem ok51 : env.ok 51 = true := rfl
theorem ok52 : env.ok 52 = true := rfl
theorem ok53 : env.ok 53 = true := rfl
theorem ok54 : env.ok 54 = true := rfl
theorem ok55 : env.ok 55 = true := rfl
theorem ok56 : env.ok 56 = true := rfl
theorem ok57 : env.ok 57 = true := rfl
theorem ok58 : env.ok 58 = true := rfl
theorem ok59 : env.ok 59 = true := rfl
theorem ok60 : env.ok 60 = true := rfl
theorem ok61 : env.ok 61 = true := rfl
theorem ok62 : env.ok 62 = true := rfl
theorem ok63 : env.ok 63 = true := rfl
theorem ok64 : env.ok 64 = true := rfl
theorem ok65 : env.ok 65 = true := rfl
theorem ok66 : env.ok 66 = true := rfl
theorem ok67 : env.ok 67 = true := rfl
theorem ok68 : env.ok 68 = true := rfl
theorem ok69 : env.ok 69 = true := rfl
theorem ok70 : env.ok 70 = true := rfl
theorem ok71 : env.ok 71 = true := rfl
theorem ok72 : env.ok 72 = true := rfl
theorem ok73 : env.ok 73 = true := rfl
theorem ok74 : env.ok 74 = true := rfl
theorem ok75 : env.ok 75 = true := rfl
theorem ok76 : env.ok 76 = true := rfl
theorem ok77 : env.ok 77 = true := rfl
theorem ok78 : env.ok 78 = true := rfl
theorem ok79 : env.ok 79 = true := rfl
theorem ok80 : env.ok 80 = true := rfl
theorem ok86 : env.ok 86 = true := rfl
theorem ok88 : env.ok 88 = true := rfl
theorem ok89 : env.ok 89 = true := rfl
theorem ok90 : env.ok 90 = true := rfl
theorem ok91 : env.ok 91 = true := rfl
theorem ok93 : env.ok 93 = true := rfl
theorem ok94 : env.ok 94 = true := rfl
theorem ok95 : env.ok 95 = true := rfl
theorem ok96 : env.ok 96 = true := rfl
theorem ok97 : env.ok 97 = true := rfl
theorem ok98 : env.ok 98 = true := rfl
theorem ok99 : env.ok 99 = true := rfl
theorem ok100 : env.ok 100 = true := rfl
theorem ok101 : env.ok 101 = true := rfl
theorem ok102 : env.ok 102 = true := rfl
theorem ok103 : env.ok 103 = true := rfl
theorem ok104 : env.ok 104 = true := rfl
theorem ok105 : env.ok 105 = true := rfl
theorem ok106 : env.ok 106 = true := rfl
theorem ok107 : env.ok 107 = true := rfl
theorem ok108 : env.ok 108 = true := rfl
theorem ok109 : env.ok 109 = true := rfl
theorem ok110 : env.ok 110 = true := rfl
theorem ok111 : env.ok 111 = true := rfl
theorem ok112 : env.ok 112 = true := rfl
theorem ok113 : env.ok 113 = true := rfl
theorem ok114 : env.ok 114 = true := rfl
theorem ok115 : env.ok 115 = true := rfl
theorem ok116 : env.ok 116 = true := rfl
theorem ok117 : env.ok 117 = true := rfl
theorem ok118 : env.ok 118 = true := rfl
theorem ok119 : env.ok 119 = true := rfl
theorem ok120 : env.ok 120 = true := rfl
theorem ok121 : env.ok 121 = true := rfl
theorem ok122 : env.ok 122 = true := rfl
theorem ok123 : env.ok 123 = true := rfl
theorem ok124 : env.ok 124 = true := rfl
theorem ok125 : env.ok 125 = true := rfl
theorem ok126 : env.ok 126 = true := rfl
theorem ok127 : env.ok 127 = true := rfl
theorem ok128 : env.ok 128 = true := rfl
theorem ok129 : env.ok 129 = true := rfl
theorem ok130 : env.ok 130 = true := rfl
theorem ok131 : env.ok 131 = true := rfl
theorem ok132 : env.ok 132 = true := rfl
theorem ok133 : env.ok 133 = true := rfl
theorem ok134 : env.ok 134 = true := rfl
theorem ok135 : env.ok 135 = true := rfl
theorem env_K : env.K = 3000000 := rfl
@[simp] theorem env_dif : env.dif = [] := rfl
end W
end Go.Proofs.Ytjgjjaidpceieaa

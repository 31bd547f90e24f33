/- The table of types of this translation, the functions that are run, and the checks that both are the program's. No conditions. -/
import Derived.Test.YtnphceekmfmbcaaGreatAbRep2
import Derived.Test.YtnphceekmfmbcaaGreatProg
set_option maxRecDepth 100000
namespace Go.Proofs.YtnphceekmfmbcaaGreat
open Go Go.Ab
namespace W
def rows : List (Nat × TI) := [
  (2, ⟨1, 8, .int .i64, [.i .i64 0], false⟩),
  (3, ⟨1, 8, .int .i64, [.i .i64 0], false⟩),
  (4, ⟨1, 1, .bool, [.b false], false⟩),
  (5, ⟨1, 1, .int .u8, [.i .u8 0], false⟩),
  (9, ⟨1, 16, .str, [.s ByteArray.empty], false⟩),
  (12, ⟨1, 8, .int .u64, [.i .u64 0], false⟩),
  (21, ⟨1, 4, .int .i32, [.i .i32 0], false⟩),
  (23, ⟨3, 24, .struct [(0, 1), (1, 1), (2, 1)], [.i .i64 0, .i .i64 0, .i .i64 0], true⟩),
  (24, ⟨1, 24, .slice 98, [.sl none 0], false⟩),
  (25, ⟨1, 24, .slice 118, [.sl none 0], false⟩),
  (26, ⟨1, 24, .slice 4, [.sl none 0], false⟩),
  (27, ⟨1, 24, .slice 46, [.sl none 0], false⟩),
  (28, ⟨1, 24, .slice 121, [.sl none 0], false⟩),
  (30, ⟨10, 160, .struct [(0, 1), (1, 1), (2, 3), (5, 1), (6, 1), (7, 1), (8, 1), (9, 1)], [.i .i64 0, .i .i64 0, .i .i64 0, .i .i64 0, .i .i64 0, .sl none 0, .sl none 0, .sl none 0, .sl none 0, .sl none 0], false⟩),
  (33, ⟨3, 24, .struct [(0, 1), (1, 1), (2, 1)], [.i .i64 0, .i .i64 0, .i .i64 0], true⟩),
  (34, ⟨1, 24, .slice 111, [.sl none 0], false⟩),
  (35, ⟨1, 24, .slice 115, [.sl none 0], false⟩),
  (36, ⟨1, 24, .slice 53, [.sl none 0], false⟩),
  (37, ⟨1, 24, .slice 109, [.sl none 0], false⟩),
  (39, ⟨10, 160, .struct [(0, 1), (1, 1), (2, 3), (5, 1), (6, 1), (7, 1), (8, 1), (9, 1)], [.i .i64 0, .i .i64 0, .i .i64 0, .i .i64 0, .i .i64 0, .sl none 0, .sl none 0, .sl none 0, .sl none 0, .sl none 0], false⟩),
  (44, ⟨4, 32, .struct [(0, 1), (1, 1), (2, 1), (3, 1)], [.i .i64 0, .i .i64 0, .i .i64 0, .i .i64 0], true⟩),
  (46, ⟨8, 64, .struct [(0, 1), (1, 1), (2, 4), (6, 1), (7, 1)], [.i .i64 0, .i .i64 0, .i .i64 0, .i .i64 0, .i .i64 0, .i .i64 0, .i .i64 0, .b false], true⟩),
  (48, ⟨10, 80, .struct [(0, 1), (1, 1), (2, 8)], [.i .i64 0, .i .i64 0, .i .i64 0, .i .i64 0, .i .i64 0, .i .i64 0, .i .i64 0, .i .i64 0, .i .i64 0, .b false], true⟩),
  (51, ⟨4, 32, .struct [(0, 1), (1, 1), (2, 1), (3, 1)], [.i .i64 0, .i .i64 0, .i .i64 0, .i .i64 0], true⟩),
  (53, ⟨8, 64, .struct [(0, 1), (1, 1), (2, 4), (6, 1), (7, 1)], [.i .i64 0, .i .i64 0, .i .i64 0, .i .i64 0, .i .i64 0, .i .i64 0, .i .i64 0, .b false], true⟩),
  (55, ⟨10, 80, .struct [(0, 1), (1, 1), (2, 8)], [.i .i64 0, .i .i64 0, .i .i64 0, .i .i64 0, .i .i64 0, .i .i64 0, .i .i64 0, .i .i64 0, .i .i64 0, .b false], true⟩),
  (59, ⟨1, 24, .slice 48, [.sl none 0], false⟩),
  (61, ⟨1, 24, .slice 3, [.sl none 0], false⟩),
  (64, ⟨1, 24, .slice 55, [.sl none 0], false⟩),
  (98, ⟨7, 72, .struct [(0, 1), (1, 1), (2, 1), (3, 1), (4, 1), (5, 1), (6, 1)], [.b false, .i .i64 0, .i .i64 0, .sl none 0, .i .i64 0, .i .i64 0, .i .i64 0], false⟩),
  (100, ⟨1, 24, .slice 142, [.sl none 0], false⟩),
  (102, ⟨2, 32, .struct [(0, 1), (1, 1)], [.i .i64 0, .sl none 0], false⟩),
  (109, ⟨8, 64, .struct [(0, 1), (1, 1), (2, 4), (6, 1), (7, 1)], [.i .i64 0, .i .i64 0, .i .i64 0, .i .i64 0, .i .i64 0, .i .i64 0, .i .i64 0, .b false], true⟩),
  (111, ⟨7, 72, .struct [(0, 1), (1, 1), (2, 1), (3, 1), (4, 1), (5, 1), (6, 1)], [.b false, .i .i64 0, .i .i64 0, .sl none 0, .i .i64 0, .i .i64 0, .i .i64 0], false⟩),
  (115, ⟨12, 96, .struct [(0, 1), (1, 1), (2, 1), (3, 1), (4, 8)], [.i .i64 0, .b false, .i .i64 0, .i .i64 0, .i .i64 0, .i .i64 0, .i .i64 0, .i .i64 0, .i .i64 0, .i .i64 0, .i .i64 0, .b false], true⟩),
  (118, ⟨12, 96, .struct [(0, 1), (1, 1), (2, 1), (3, 1), (4, 8)], [.i .i64 0, .b false, .i .i64 0, .i .i64 0, .i .i64 0, .i .i64 0, .i .i64 0, .i .i64 0, .i .i64 0, .i .i64 0, .i .i64 0, .b false], true⟩),
  (121, ⟨8, 64, .struct [(0, 1), (1, 1), (2, 4), (6, 1), (7, 1)], [.i .i64 0, .i .i64 0, .i .i64 0, .i .i64 0, .i .i64 0, .i .i64 0, .i .i64 0, .b false], true⟩),
  (142, ⟨11, 80, .struct [(0, 1), (1, 1), (2, 4), (6, 1), (7, 1), (8, 1), (9, 1), (10, 1)], [.b false, .b false, .i .i64 0, .i .i64 0, .i .i64 0, .i .i64 0, .i .i64 0, .i .i64 0, .i .i64 0, .i .i64 0, .b false], true⟩),
  (152, ⟨1, 8, .other, [.p none], false⟩),
  (174, ⟨1, 8, .other, [.p none], false⟩),
  (175, ⟨1, 8, .other, [.p none], false⟩),
  (177, ⟨1, 8, .other, [.p none], false⟩),
  (191, ⟨1, 4, .int .u32, [.i .u32 0], false⟩),
  (195, ⟨1, 8, .other, [.p none], false⟩)]
def fns : List Nat := [3, 6, 7, 8, 9, 10, 25, 26, 27, 28, 29, 30, 31, 32, 33, 34, 35, 36, 37, 38, 39, 40, 41, 42, 43, 44, 45, 46, 47, 48, 49, 52, 53, 54, 68, 69, 70, 71, 72, 73, 74, 75, 76, 77, 78, 79, 80, 81, 82, 83, 84, 85, 86, 87, 88, 89, 90, 91, 92, 93, 94, 95, 96, 97, 105, 106, 107, 108, 109, 115, 116, 117, 118, 119, 120, 121, 122, 123, 124, 125, 126, 127, 128, 129, 130, 140, 141, 146, 147, 148, 149, 150, 151, 152, 153, 154, 155, 156, 157, 158, 159, 160, 161, 174, 175, 176, 177, 178, 179, 180, 181, 182, 185, 186, 187]
def wrs : List Nat := [127, 120]
noncomputable def env : Env := { P := Tryz.prog, τ := tabOf rows, K := 3000000, wr := fun f => wrs.contains f, ok := fun f => fns.contains f }
theorem tab_ok : TabOk env.P env.τ := tabOk_of (by kernel_rfl)
theorem draws_ok : env.P.follows .mixedOrders = true := by kernel_rfl
theorem prog_ok : progB env fns = true := by kernel_rfl
theorem sound_all : CallOk env.P (run env) := sound_run fun d => sound draws_ok tab_ok fns (fun f h => by simpa [env] using h) prog_ok d
theorem env_P : env.P = Tryz.prog := rfl
@[simp] theorem ty2 : env.τ 2 = some ⟨1, 8, .int .i64, [.i .i64 0], false⟩ := rfl
@[simp] theorem ty3 : env.τ 3 = some ⟨1, 8, .int .i64, [.i .i64 0], false⟩ := rfl
@[simp] theorem ty4 : env.τ 4 = some ⟨1, 1, .bool, [.b false], false⟩ := rfl
@[simp] theorem ty5 : env.τ 5 = some ⟨1, 1, .int .u8, [.i .u8 0], false⟩ := rfl
@[simp] theorem ty9 : env.τ 9 = some ⟨1, 16, .str, [.s ByteArray.empty], false⟩ := rfl
@[simp] theorem ty12 : env.τ 12 = some ⟨1, 8, .int .u64, [.i .u64 0], false⟩ := rfl
@[simp] theorem ty21 : env.τ 21 = some ⟨1, 4, .int .i32, [.i .i32 0], false⟩ := rfl
@[simp] theorem ty23 : env.τ 23 = some ⟨3, 24, .struct [(0, 1), (1, 1), (2, 1)], [.i .i64 0, .i .i64 0, .i .i64 0], true⟩ := rfl
@[simp] theorem ty24 : env.τ 24 = some ⟨1, 24, .slice 98, [.sl none 0], false⟩ := rfl
@[simp] theorem ty25 : env.τ 25 = some ⟨1, 24, .slice 118, [.sl none 0], false⟩ := rfl
@[simp] theorem ty26 : env.τ 26 = some ⟨1, 24, .slice 4, [.sl none 0], false⟩ := rfl
@[simp] theorem ty27 : env.τ 27 = some ⟨1, 24, .slice 46, [.sl none 0], false⟩ := rfl
@[simp] theorem ty28 : env.τ 28 = some ⟨1, 24, .slice 121, [.sl none 0], false⟩ := rfl
@[simp] theorem ty30 : env.τ 30 = some ⟨10, 160, .struct [(0, 1), (1, 1), (2, 3), (5, 1), (6, 1), (7, 1), (8, 1), (9, 1)], [.i .i64 0, .i .i64 0, .i .i64 0, .i .i64 0, .i .i64 0, .sl none 0, .sl none 0, .sl none 0, .sl none 0, .sl none 0], false⟩ := rfl
@[simp] theorem ty33 : env.τ 33 = some ⟨3, 24, .struct [(0, 1), (1, 1), (2, 1)], [.i .i64 0, .i .i64 0, .i .i64 0], true⟩ := rfl
@[simp] theorem ty34 : env.τ 34 = some ⟨1, 24, .slice 111, [.sl none 0], false⟩ := rfl
@[simp] theorem ty35 : env.τ 35 = some ⟨1, 24, .slice 115, [.sl none 0], false⟩ := rfl
@[simp] theorem ty36 : env.τ 36 = some ⟨1, 24, .slice 53, [.sl none 0], false⟩ := rfl
@[simp] theorem ty37 : env.τ 37 = some ⟨1, 24, .slice 109, [.sl none 0], false⟩ := rfl
@[simp] theorem ty39 : env.τ 39 = some ⟨10, 160, .struct [(0, 1), (1, 1), (2, 3), (5, 1), (6, 1), (7, 1), (8, 1), (9, 1)], [.i .i64 0, .i .i64 0, .i .i64 0, .i .i64 0, .i .i64 0, .sl none 0, .sl none 0, .sl none 0, .sl none 0, .sl none 0], false⟩ := rfl
@[simp] theorem ty44 : env.τ 44 = some ⟨4, 32, .struct [(0, 1), (1, 1), (2, 1), (3, 1)], [.i .i64 0, .i .i64 0, .i .i64 0, .i .i64 0], true⟩ := rfl
@[simp] theorem ty46 : env.τ 46 = some ⟨8, 64, .struct [(0, 1), (1, 1), (2, 4), (6, 1), (7, 1)], [.i .i64 0, .i .i64 0, .i .i64 0, .i .i64 0, .i .i64 0, .i .i64 0, .i .i64 0, .b false], true⟩ := rfl
@[simp] theorem ty48 : env.τ 48 = some ⟨10, 80, .struct [(0, 1), (1, 1), (2, 8)], [.i .i64 0, .i .i64 0, .i .i64 0, .i .i64 0, .i .i64 0, .i .i64 0, .i .i64 0, .i .i64 0, .i .i64 0, .b false], true⟩ := rfl
@[simp] theorem ty51 : env.τ 51 = some ⟨4, 32, .struct [(0, 1), (1, 1), (2, 1), (3, 1)], [.i .i64 0, .i .i64 0, .i .i64 0, .i .i64 0], true⟩ := rfl
@[simp] theorem ty53 : env.τ 53 = some ⟨8, 64, .struct [(0, 1), (1, 1), (2, 4), (6, 1), (7, 1)], [.i .i64 0, .i .i64 0, .i .i64 0, .i .i64 0, .i .i64 0, .i .i64 0, .i .i64 0, .b false], true⟩ := rfl
@[simp] theorem ty55 : env.τ 55 = some ⟨10, 80, .struct [(0, 1), (1, 1), (2, 8)], [.i .i64 0, .i .i64 0, .i .i64 0, .i .i64 0, .i .i64 0, .i .i64 0, .i .i64 0, .i .i64 0, .i .i64 0, .b false], true⟩ := rfl
@[simp] theorem ty59 : env.τ 59 = some ⟨1, 24, .slice 48, [.sl none 0], false⟩ := rfl
@[simp] theorem ty61 : env.τ 61 = some ⟨1, 24, .slice 3, [.sl none 0], false⟩ := rfl
@[simp] theorem ty64 : env.τ 64 = some ⟨1, 24, .slice 55, [.sl none 0], false⟩ := rfl
@[simp] theorem ty98 : env.τ 98 = some ⟨7, 72, .struct [(0, 1), (1, 1), (2, 1), (3, 1), (4, 1), (5, 1), (6, 1)], [.b false, .i .i64 0, .i .i64 0, .sl none 0, .i .i64 0, .i .i64 0, .i .i64 0], false⟩ := rfl
@[simp] theorem ty100 : env.τ 100 = some ⟨1, 24, .slice 142, [.sl none 0], false⟩ := rfl
@[simp] theorem ty102 : env.τ 102 = some ⟨2, 32, .struct [(0, 1), (1, 1)], [.i .i64 0, .sl none 0], false⟩ := rfl
@[simp] theorem ty109 : env.τ 109 = some ⟨8, 64, .struct [(0, 1), (1, 1), (2, 4), (6, 1), (7, 1)], [.i .i64 0, .i .i64 0, .i .i64 0, .i .i64 0, .i .i64 0, .i .i64 0, .i .i64 0, .b false], true⟩ := rfl
@[simp] theorem ty111 : env.τ 111 = some ⟨7, 72, .struct [(0, 1), (1, 1), (2, 1), (3, 1), (4, 1), (5, 1), (6, 1)], [.b false, .i .i64 0, .i .i64 0, .sl none 0, .i .i64 0, .i .i64 0, .i .i64 0], false⟩ := rfl
@[simp] theorem ty115 : env.τ 115 = some ⟨12, 96, .struct [(0, 1), (1, 1), (2, 1), (3, 1), (4, 8)], [.i .i64 0, .b false, .i .i64 0, .i .i64 0, .i .i64 0, .i .i64 0, .i .i64 0, .i .i64 0, .i .i64 0, .i .i64 0, .i .i64 0, .b false], true⟩ := rfl
@[simp] theorem ty118 : env.τ 118 = some ⟨12, 96, .struct [(0, 1), (1, 1), (2, 1), (3, 1), (4, 8)], [.i .i64 0, .b false, .i .i64 0, .i .i64 0, .i .i64 0, .i .i64 0, .i .i64 0, .i .i64 0, .i .i64 0, .i .i64 0, .i .i64 0, .b false], true⟩ := rfl
@[simp] theorem ty121 : env.τ 121 = some ⟨8, 64, .struct [(0, 1), (1, 1), (2, 4), (6, 1), (7, 1)], [.i .i64 0, .i .i64 0, .i .i64 0, .i .i64 0, .i .i64 0, .i .i64 0, .i .i64 0, .b false], true⟩ := rfl
@[simp] theorem ty142 : env.τ 142 = some ⟨11, 80, .struct [(0, 1), (1, 1), (2, 4), (6, 1), (7, 1), (8, 1), (9, 1), (10, 1)], [.b false, .b false, .i .i64 0, .i .i64 0, .i .i64 0, .i .i64 0, .i .i64 0, .i .i64 0, .i .i64 0, .i .i64 0, .b false], true⟩ := rfl
@[simp] theorem ty152 : env.τ 152 = some ⟨1, 8, .other, [.p none], false⟩ := rfl
@[simp] theorem ty174 : env.τ 174 = some ⟨1, 8, .other, [.p none], false⟩ := rfl
@[simp] theorem ty175 : env.τ 175 = some ⟨1, 8, .other, [.p none], false⟩ := rfl
@[simp] theorem ty177 : env.τ 177 = some ⟨1, 8, .other, [.p none], false⟩ := rfl
@[simp] theorem ty191 : env.τ 191 = some ⟨1, 4, .int .u32, [.i .u32 0], false⟩ := rfl
@[simp] theorem ty195 : env.τ 195 = some ⟨1, 8, .other, [.p none], false⟩ := rfl
theorem ok3 : env.ok 3 = true := rfl
theorem ok6 : env.ok 6 = true := rfl
theorem ok7 : env.ok 7 = true := rfl
theorem ok8 : env.ok 8 = true := rfl
theorem ok9 : env.ok 9 = true := rfl
theorem ok10 : env.ok 10 = true := rfl
theorem ok25 : env.ok 25 = true := rfl
theorem ok26 : env.ok 26 = true := rfl
theorem ok27 : env.ok 27 = true := rfl
theorem ok28 : env.ok 28 = true := rfl
theorem ok29 : env.ok 29 = true := rfl
theorem ok30 : env.ok 30 = true := rfl
theorem ok31 : env.ok 31 = true := rfl
theorem ok32 : env.ok 32 = true := rfl
theorem ok33 : env.ok 33 = true := rfl
theorem ok34 : env.ok 34 = true := rfl
theorem ok35 : env.ok 35 = true := rfl
theorem ok36 : env.ok 36 = true := rfl
theorem ok37 : env.ok 37 = true := rfl
theorem ok38 : env.ok 38 = true := rfl
theorem ok39 : env.ok 39 = true := rfl
theorem ok40 : env.ok 40 = true := rfl
theorem ok41 : env.ok 41 = true := rfl
theorem ok42 : env.ok 42 = true := rfl
theorem ok43 : env.ok 43 = true := rfl
theorem ok44 : env.ok 44 = true := rfl
theorem ok45 : env.ok 45 = true := rfl
theorem ok46 : env.ok 46 = true := rfl
theorem ok47 : env.ok 47 = true := rfl
theorem ok48 : env.ok 48 = true := rfl
theorem ok49 : env.ok 49 = true := rfl
theorem ok52 : env.ok 52 = true := rfl
theorem ok53 : env.ok 53 = true := rfl
theorem ok54 : env.ok 54 = true := rfl
theorem ok68 : env.ok 68 = true := rfl
theorem ok69 : env.ok 69 = true := rfl
theorem ok70 : env.ok 70 = true := rfl
theorem ok71 : env.ok 71 = true := rfl
theorem ok72 : env.ok 72 = true := rfl
theorem ok73 : env.ok 73 = true := rfl
theorem ok74 : env.ok 74 = true := rfl
theorem ok75 : env.ok 75 = true := rfl
theorem ok76 : env.ok 76 = true := rfl
theorem ok77 : env.ok 77 = true := rfl
theorem ok78 : env.ok 78 = true := rfl
theorem ok79 : env.ok 79 = true := rfl
theorem ok80 : env.ok 80 = true := rfl
theorem ok81 : env.ok 81 = true := rfl
theorem ok82 : env.ok 82 = true := rfl
theorem ok83 : env.ok 83 = true := rfl
theorem ok84 : env.ok 84 = true := rfl
theorem ok85 : env.ok 85 = true := rfl
theorem ok86 : env.ok 86 = true := rfl
theorem ok87 : env.ok 87 = true := rfl
theorem ok88 : env.ok 88 = true := rfl
theorem ok89 : env.ok 89 = true := rfl
theorem ok90 : env.ok 90 = true := rfl
theorem ok91 : env.ok 91 = true := rfl
theorem ok92 : env.ok 92 = true := rfl
theorem ok93 : env.ok 93 = true := rfl
theorem ok94 : env.ok 94 = true := rfl
theorem ok95 : env.ok 95 = true := rfl
theorem ok96 : env.ok 96 = true := rfl
theorem ok97 : env.ok 97 = true := rfl
theorem ok105 : env.ok 105 = true := rfl
theorem ok106 : env.ok 106 = true := rfl
theorem ok107 : env.ok 107 = true := rfl
theorem ok108 : env.ok 108 = true := rfl
theorem ok109 : env.ok 109 = true := rfl
theorem ok115 : env.ok 115 = true := rfl
theorem ok116 : env.ok 116 = true := rfl
theorem ok117 : env.ok 117 = true := rfl
theorem ok118 : env.ok 118 = true := rfl
theorem ok119 : env.ok 119 = true := rfl
theorem ok120 : env.ok 120 = true := rfl
theorem ok121 : env.ok 121 = true := rfl
theorem ok122 : env.ok 122 = true := rfl
theorem ok123 : env.ok 123 = true := rfl
theorem ok124 : env.ok 124 = true := rfl
theorem ok125 : env.ok 125 = true := rfl
theorem ok126 : env.ok 126 = true := rfl
theorem ok127 : env.ok 127 = true := rfl
theorem ok128 : env.ok 128 = true := rfl
theorem ok129 : env.ok 129 = true := rfl
theorem ok130 : env.ok 130 = true := rfl
theorem ok140 : env.ok 140 = true := rfl
theorem ok141 : env.ok 141 = true := rfl
theorem ok146 : env.ok 146 = true := rfl
theorem ok147 : env.ok 147 = true := rfl
theorem ok148 : env.ok 148 = true := rfl
theorem ok149 : env.ok 149 = true := rfl
theorem ok150 : env.ok 150 = true := rfl
theorem ok151 : env.ok 151 = true := rfl
theorem ok152 : env.ok 152 = true := rfl
theorem ok153 : env.ok 153 = true := rfl
theorem ok154 : env.ok 154 = true := rfl
theorem ok155 : env.ok 155 = true := rfl
theorem ok156 : env.ok 156 = true := rfl
theorem ok157 : env.ok 157 = true := rfl
theorem ok158 : env.ok 158 = true := rfl
theorem ok159 : env.ok 159 = true := rfl
theorem ok160 : env.ok 160 = true := rfl
theorem ok161 : env.ok 161 = true := rfl
theorem ok174 : env.ok 174 = true := rfl
theorem ok175 : env.ok 175 = true := rfl
theorem ok176 : env.ok 176 = true := rfl
theorem ok177 : env.ok 177 = true := rfl
theorem ok178 : env.ok 178 = true := rfl
theorem ok179 : env.ok 179 = true := rfl
theorem ok180 : env.ok 180 = true := rfl
theorem ok181 : env.ok 181 = true := rfl
theorem ok182 : env.ok 182 = true := rfl
theorem ok185 : env.ok 185 = true := rfl
theorem ok186 : env.ok 186 = true := rfl
theorem ok187 : env.ok 187 = true := rfl
theorem env_K : env.K = 3000000 := rfl
end W
end Go.Proofs.YtnphceekmfmbcaaGreat

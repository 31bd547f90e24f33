/- The table of types of this translation, the functions that are run, and the checks that both are the program's. No conditions. -/
import Derived.Test.YtnphceekmfmbcaaAbRep2
import Derived.Test.YtnphceekmfmbcaaProg
set_option maxRecDepth 100000
namespace Go.Proofs.Ytnphceekmfmbcaa
open Go Go.Ab
namespace W
def rows : List (Nat × TI) := [
  (2, ⟨1, 8, .int .i64, [.i .i64 0], false⟩),
  (3, ⟨1, 8, .int .i64, [.i .i64 0], false⟩),
  (4, ⟨1, 1, .bool, [.b false], false⟩),
  (5, ⟨1, 1, .int .u8, [.i .u8 0], false⟩),
  (9, ⟨1, 16, .str, [.s ByteArray.empty], false⟩),
  (12, ⟨1, 8, .int .u64, [.i .u64 0], false⟩),
  (21, ⟨1, 4, .int .i32, [.i .i32 0], false⟩),
  (22, ⟨1, 24, .slice 3, [.sl none 0], false⟩),
  (23, ⟨1, 24, .slice 86, [.sl none 0], false⟩),
  (25, ⟨1, 24, .slice 72, [.sl none 0], false⟩),
  (26, ⟨1, 24, .slice 84, [.sl none 0], false⟩),
  (28, ⟨2, 48, .struct [(0, 1), (1, 1)], [.sl none 0, .sl none 0], false⟩),
  (41, ⟨3, 24, .struct [(0, 1), (1, 1), (2, 1)], [.i .i64 0, .i .i64 0, .i .i64 0], true⟩),
  (42, ⟨1, 24, .slice 146, [.sl none 0], false⟩),
  (43, ⟨1, 24, .slice 160, [.sl none 0], false⟩),
  (44, ⟨1, 24, .slice 4, [.sl none 0], false⟩),
  (45, ⟨1, 24, .slice 158, [.sl none 0], false⟩),
  (46, ⟨1, 24, .slice 164, [.sl none 0], false⟩),
  (48, ⟨10, 160, .struct [(0, 1), (1, 1), (2, 3), (5, 1), (6, 1), (7, 1), (8, 1), (9, 1)], [.i .i64 0, .i .i64 0, .i .i64 0, .i .i64 0, .i .i64 0, .sl none 0, .sl none 0, .sl none 0, .sl none 0, .sl none 0], false⟩),
  (51, ⟨3, 24, .struct [(0, 1), (1, 1), (2, 1)], [.i .i64 0, .i .i64 0, .i .i64 0], true⟩),
  (52, ⟨1, 24, .slice 150, [.sl none 0], false⟩),
  (53, ⟨1, 24, .slice 154, [.sl none 0], false⟩),
  (54, ⟨1, 24, .slice 81, [.sl none 0], false⟩),
  (55, ⟨1, 24, .slice 105, [.sl none 0], false⟩),
  (57, ⟨10, 160, .struct [(0, 1), (1, 1), (2, 3), (5, 1), (6, 1), (7, 1), (8, 1), (9, 1)], [.i .i64 0, .i .i64 0, .i .i64 0, .i .i64 0, .i .i64 0, .sl none 0, .sl none 0, .sl none 0, .sl none 0, .sl none 0], false⟩),
  (61, ⟨1, 24, .slice 173, [.sl none 0], false⟩),
  (63, ⟨2, 48, .struct [(0, 1), (1, 1)], [.sl none 0, .sl none 0], false⟩),
  (70, ⟨1, 24, .slice 125, [.sl none 0], false⟩),
  (72, ⟨2, 32, .struct [(0, 1), (1, 1)], [.i .i64 0, .sl none 0], false⟩),
  (79, ⟨4, 32, .struct [(0, 1), (1, 1), (2, 1), (3, 1)], [.i .i64 0, .i .i64 0, .i .i64 0, .i .i64 0], true⟩),
  (81, ⟨8, 64, .struct [(0, 1), (1, 1), (2, 4), (6, 1), (7, 1)], [.i .i64 0, .i .i64 0, .i .i64 0, .i .i64 0, .i .i64 0, .i .i64 0, .i .i64 0, .b false], true⟩),
  (84, ⟨4, 32, .struct [(0, 1), (1, 1), (2, 1), (3, 1)], [.i .i64 0, .i .i64 0, .i .i64 0, .i .i64 0], true⟩),
  (86, ⟨4, 32, .struct [(0, 1), (1, 1), (2, 1), (3, 1)], [.i .i64 0, .i .i64 0, .i .i64 0, .i .i64 0], true⟩),
  (90, ⟨2, 16, .struct [(0, 1), (1, 1)], [.i .i64 0, .i .i64 0], true⟩),
  (93, ⟨4, 32, .array 2 90, [.i .i64 0, .i .i64 0, .i .i64 0, .i .i64 0], false⟩),
  (105, ⟨8, 64, .struct [(0, 1), (1, 1), (2, 4), (6, 1), (7, 1)], [.i .i64 0, .i .i64 0, .i .i64 0, .i .i64 0, .i .i64 0, .i .i64 0, .i .i64 0, .b false], true⟩),
  (125, ⟨11, 80, .struct [(0, 1), (1, 1), (2, 4), (6, 1), (7, 1), (8, 1), (9, 1), (10, 1)], [.b false, .b false, .i .i64 0, .i .i64 0, .i .i64 0, .i .i64 0, .i .i64 0, .i .i64 0, .i .i64 0, .i .i64 0, .b false], true⟩),
  (134, ⟨1, 8, .other, [.p none], false⟩),
  (135, ⟨1, 8, .other, [.p none], false⟩),
  (137, ⟨1, 8, .other, [.p none], false⟩),
  (146, ⟨7, 72, .struct [(0, 1), (1, 1), (2, 1), (3, 1), (4, 1), (5, 1), (6, 1)], [.b false, .i .i64 0, .i .i64 0, .sl none 0, .i .i64 0, .i .i64 0, .i .i64 0], false⟩),
  (150, ⟨7, 72, .struct [(0, 1), (1, 1), (2, 1), (3, 1), (4, 1), (5, 1), (6, 1)], [.b false, .i .i64 0, .i .i64 0, .sl none 0, .i .i64 0, .i .i64 0, .i .i64 0], false⟩),
  (154, ⟨12, 96, .struct [(0, 1), (1, 1), (2, 1), (3, 1), (4, 8)], [.i .i64 0, .b false, .i .i64 0, .i .i64 0, .i .i64 0, .i .i64 0, .i .i64 0, .i .i64 0, .i .i64 0, .i .i64 0, .i .i64 0, .b false], true⟩),
  (156, ⟨4, 32, .struct [(0, 1), (1, 1), (2, 1), (3, 1)], [.i .i64 0, .i .i64 0, .i .i64 0, .i .i64 0], true⟩),
  (158, ⟨8, 64, .struct [(0, 1), (1, 1), (2, 4), (6, 1), (7, 1)], [.i .i64 0, .i .i64 0, .i .i64 0, .i .i64 0, .i .i64 0, .i .i64 0, .i .i64 0, .b false], true⟩),
  (160, ⟨12, 96, .struct [(0, 1), (1, 1), (2, 1), (3, 1), (4, 8)], [.i .i64 0, .b false, .i .i64 0, .i .i64 0, .i .i64 0, .i .i64 0, .i .i64 0, .i .i64 0, .i .i64 0, .i .i64 0, .i .i64 0, .b false], true⟩),
  (164, ⟨8, 64, .struct [(0, 1), (1, 1), (2, 4), (6, 1), (7, 1)], [.i .i64 0, .i .i64 0, .i .i64 0, .i .i64 0, .i .i64 0, .i .i64 0, .i .i64 0, .b false], true⟩),
  (171, ⟨1, 24, .slice 198, [.sl none 0], false⟩),
  (173, ⟨2, 32, .struct [(0, 1), (1, 1)], [.i .i64 0, .sl none 0], false⟩),
  (187, ⟨1, 24, .slice 90, [.sl none 0], false⟩),
  (198, ⟨11, 80, .struct [(0, 1), (1, 1), (2, 4), (6, 1), (7, 1), (8, 1), (9, 1), (10, 1)], [.b false, .b false, .i .i64 0, .i .i64 0, .i .i64 0, .i .i64 0, .i .i64 0, .i .i64 0, .i .i64 0, .i .i64 0, .b false], true⟩),
  (205, ⟨1, 4, .int .u32, [.i .u32 0], false⟩),
  (209, ⟨1, 8, .other, [.p none], false⟩)]
def fns : List Nat := [3, 8, 9, 10, 11, 12, 13, 14, 15, 16, 17, 18, 19, 33, 34, 35, 36, 37, 38, 39, 40, 41, 42, 43, 44, 45, 46, 47, 48, 49, 81, 84, 85, 86, 87, 88, 89, 90, 91, 92, 93, 94, 95, 96, 97, 98, 99, 100, 101, 102, 103, 128, 129, 130, 131, 132, 133, 134, 135, 136, 137, 138, 139, 140, 141, 142, 143, 147, 148, 151, 152, 153, 154, 155, 156, 157, 158, 160]
def wrs : List Nat := [43, 88]
noncomputable def env : Env := { P := Try.prog, τ := tabOf rows, K := 3000000, wr := fun f => wrs.contains f, ok := fun f => fns.contains f }
theorem tab_ok : TabOk env.P env.τ := tabOk_of (by kernel_rfl)
theorem draws_ok : env.P.follows .mixedOrders = true := by kernel_rfl
theorem prog_ok : progB env fns = true := by kernel_rfl
theorem sound_all : CallOk env.P (run env) := sound_run fun d => sound draws_ok tab_ok fns (fun f h => by simpa [env] using h) prog_ok d
theorem env_P : env.P = Try.prog := rfl
@[simp] theorem ty2 : env.τ 2 = some ⟨1, 8, .int .i64, [.i .i64 0], false⟩ := rfl
@[simp] theorem ty3 : env.τ 3 = some ⟨1, 8, .int .i64, [.i .i64 0], false⟩ := rfl
@[simp] theorem ty4 : env.τ 4 = some ⟨1, 1, .bool, [.b false], false⟩ := rfl
@[simp] theorem ty5 : env.τ 5 = some ⟨1, 1, .int .u8, [.i .u8 0], false⟩ := rfl
@[simp] theorem ty9 : env.τ 9 = some ⟨1, 16, .str, [.s ByteArray.empty], false⟩ := rfl
@[simp] theorem ty12 : env.τ 12 = some ⟨1, 8, .int .u64, [.i .u64 0], false⟩ := rfl
@[simp] theorem ty21 : env.τ 21 = some ⟨1, 4, .int .i32, [.i .i32 0], false⟩ := rfl
@[simp] theorem ty22 : env.τ 22 = some ⟨1, 24, .slice 3, [.sl none 0], false⟩ := rfl
@[simp] theorem ty23 : env.τ 23 = some ⟨1, 24, .slice 86, [.sl none 0], false⟩ := rfl
@[simp] theorem ty25 : env.τ 25 = some ⟨1, 24, .slice 72, [.sl none 0], false⟩ := rfl
@[simp] theorem ty26 : env.τ 26 = some ⟨1, 24, .slice 84, [.sl none 0], false⟩ := rfl
@[simp] theorem ty28 : env.τ 28 = some ⟨2, 48, .struct [(0, 1), (1, 1)], [.sl none 0, .sl none 0], false⟩ := rfl
@[simp] theorem ty41 : env.τ 41 = some ⟨3, 24, .struct [(0, 1), (1, 1), (2, 1)], [.i .i64 0, .i .i64 0, .i .i64 0], true⟩ := rfl
@[simp] theorem ty42 : env.τ 42 = some ⟨1, 24, .slice 146, [.sl none 0], false⟩ := rfl
@[simp] theorem ty43 : env.τ 43 = some ⟨1, 24, .slice 160, [.sl none 0], false⟩ := rfl
@[simp] theorem ty44 : env.τ 44 = some ⟨1, 24, .slice 4, [.sl none 0], false⟩ := rfl
@[simp] theorem ty45 : env.τ 45 = some ⟨1, 24, .slice 158, [.sl none 0], false⟩ := rfl
@[simp] theorem ty46 : env.τ 46 = some ⟨1, 24, .slice 164, [.sl none 0], false⟩ := rfl
@[simp] theorem ty48 : env.τ 48 = some ⟨10, 160, .struct [(0, 1), (1, 1), (2, 3), (5, 1), (6, 1), (7, 1), (8, 1), (9, 1)], [.i .i64 0, .i .i64 0, .i .i64 0, .i .i64 0, .i .i64 0, .sl none 0, .sl none 0, .sl none 0, .sl none 0, .sl none 0], false⟩ := rfl
@[simp] theorem ty51 : env.τ 51 = some ⟨3, 24, .struct [(0, 1), (1, 1), (2, 1)], [.i .i64 0, .i .i64 0, .i .i64 0], true⟩ := rfl
@[simp] theorem ty52 : env.τ 52 = some ⟨1, 24, .slice 150, [.sl none 0], false⟩ := rfl
@[simp] theorem ty53 : env.τ 53 = some ⟨1, 24, .slice 154, [.sl none 0], false⟩ := rfl
@[simp] theorem ty54 : env.τ 54 = some ⟨1, 24, .slice 81, [.sl none 0], false⟩ := rfl
@[simp] theorem ty55 : env.τ 55 = some ⟨1, 24, .slice 105, [.sl none 0], false⟩ := rfl
@[simp] theorem ty57 : env.τ 57 = some ⟨10, 160, .struct [(0, 1), (1, 1), (2, 3), (5, 1), (6, 1), (7, 1), (8, 1), (9, 1)], [.i .i64 0, .i .i64 0, .i .i64 0, .i .i64 0, .i .i64 0, .sl none 0, .sl none 0, .sl none 0, .sl none 0, .sl none 0], false⟩ := rfl
@[simp] theorem ty61 : env.τ 61 = some ⟨1, 24, .slice 173, [.sl none 0], false⟩ := rfl
@[simp] theorem ty63 : env.τ 63 = some ⟨2, 48, .struct [(0, 1), (1, 1)], [.sl none 0, .sl none 0], false⟩ := rfl
@[simp] theorem ty70 : env.τ 70 = some ⟨1, 24, .slice 125, [.sl none 0], false⟩ := rfl
@[simp] theorem ty72 : env.τ 72 = some ⟨2, 32, .struct [(0, 1), (1, 1)], [.i .i64 0, .sl none 0], false⟩ := rfl
@[simp] theorem ty79 : env.τ 79 = some ⟨4, 32, .struct [(0, 1), (1, 1), (2, 1), (3, 1)], [.i .i64 0, .i .i64 0, .i .i64 0, .i .i64 0], true⟩ := rfl
@[simp] theorem ty81 : env.τ 81 = some ⟨8, 64, .struct [(0, 1), (1, 1), (2, 4), (6, 1), (7, 1)], [.i .i64 0, .i .i64 0, .i .i64 0, .i .i64 0, .i .i64 0, .i .i64 0, .i .i64 0, .b false], true⟩ := rfl
@[simp] theorem ty84 : env.τ 84 = some ⟨4, 32, .struct [(0, 1), (1, 1), (2, 1), (3, 1)], [.i .i64 0, .i .i64 0, .i .i64 0, .i .i64 0], true⟩ := rfl
@[simp] theorem ty86 : env.τ 86 = some ⟨4, 32, .struct [(0, 1), (1, 1), (2, 1), (3, 1)], [.i .i64 0, .i .i64 0, .i .i64 0, .i .i64 0], true⟩ := rfl
@[simp] theorem ty90 : env.τ 90 = some ⟨2, 16, .struct [(0, 1), (1, 1)], [.i .i64 0, .i .i64 0], true⟩ := rfl
@[simp] theorem ty93 : env.τ 93 = some ⟨4, 32, .array 2 90, [.i .i64 0, .i .i64 0, .i .i64 0, .i .i64 0], false⟩ := rfl
@[simp] theorem ty105 : env.τ 105 = some ⟨8, 64, .struct [(0, 1), (1, 1), (2, 4), (6, 1), (7, 1)], [.i .i64 0, .i .i64 0, .i .i64 0, .i .i64 0, .i .i64 0, .i .i64 0, .i .i64 0, .b false], true⟩ := rfl
@[simp] theorem ty125 : env.τ 125 = some ⟨11, 80, .struct [(0, 1), (1, 1), (2, 4), (6, 1), (7, 1), (8, 1), (9, 1), (10, 1)], [.b false, .b false, .i .i64 0, .i .i64 0, .i .i64 0, .i .i64 0, .i .i64 0, .i .i64 0, .i .i64 0, .i .i64 0, .b false], true⟩ := rfl
@[simp] theorem ty134 : env.τ 134 = some ⟨1, 8, .other, [.p none], false⟩ := rfl
@[simp] theorem ty135 : env.τ 135 = some ⟨1, 8, .other, [.p none], false⟩ := rfl
@[simp] theorem ty137 : env.τ 137 = some ⟨1, 8, .other, [.p none], false⟩ := rfl
@[simp] theorem ty146 : env.τ 146 = some ⟨7, 72, .struct [(0, 1), (1, 1), (2, 1), (3, 1), (4, 1), (5, 1), (6, 1)], [.b false, .i .i64 0, .i .i64 0, .sl none 0, .i .i64 0, .i .i64 0, .i .i64 0], false⟩ := rfl
@[simp] theorem ty150 : env.τ 150 = some ⟨7, 72, .struct [(0, 1), (1, 1), (2, 1), (3, 1), (4, 1), (5, 1), (6, 1)], [.b false, .i .i64 0, .i .i64 0, .sl none 0, .i .i64 0, .i .i64 0, .i .i64 0], false⟩ := rfl
@[simp] theorem ty154 : env.τ 154 = some ⟨12, 96, .struct [(0, 1), (1, 1), (2, 1), (3, 1), (4, 8)], [.i .i64 0, .b false, .i .i64 0, .i .i64 0, .i .i64 0, .i .i64 0, .i .i64 0, .i .i64 0, .i .i64 0, .i .i64 0, .i .i64 0, .b false], true⟩ := rfl
@[simp] theorem ty156 : env.τ 156 = some ⟨4, 32, .struct [(0, 1), (1, 1), (2, 1), (3, 1)], [.i .i64 0, .i .i64 0, .i .i64 0, .i .i64 0], true⟩ := rfl
@[simp] theorem ty158 : env.τ 158 = some ⟨8, 64, .struct [(0, 1), (1, 1), (2, 4), (6, 1), (7, 1)], [.i .i64 0, .i .i64 0, .i .i64 0, .i .i64 0, .i .i64 0, .i .i64 0, .i .i64 0, .b false], true⟩ := rfl
@[simp] theorem ty160 : env.τ 160 = some ⟨12, 96, .struct [(0, 1), (1, 1), (2, 1), (3, 1), (4, 8)], [.i .i64 0, .b false, .i .i64 0, .i .i64 0, .i .i64 0, .i .i64 0, .i .i64 0, .i .i64 0, .i .i64 0, .i .i64 0, .i .i64 0, .b false], true⟩ := rfl
@[simp] theorem ty164 : env.τ 164 = some ⟨8, 64, .struct [(0, 1), (1, 1), (2, 4), (6, 1), (7, 1)], [.i .i64 0, .i .i64 0, .i .i64 0, .i .i64 0, .i .i64 0, .i .i64 0, .i .i64 0, .b false], true⟩ := rfl
@[simp] theorem ty171 : env.τ 171 = some ⟨1, 24, .slice 198, [.sl none 0], false⟩ := rfl
@[simp] theorem ty173 : env.τ 173 = some ⟨2, 32, .struct [(0, 1), (1, 1)], [.i .i64 0, .sl none 0], false⟩ := rfl
@[simp] theorem ty187 : env.τ 187 = some ⟨1, 24, .slice 90, [.sl none 0], false⟩ := rfl
@[simp] theorem ty198 : env.τ 198 = some ⟨11, 80, .struct [(0, 1), (1, 1), (2, 4), (6, 1), (7, 1), (8, 1), (9, 1), (10, 1)], [.b false, .b false, .i .i64 0, .i .i64 0, .i .i64 0, .i .i64 0, .i .i64 0, .i .i64 0, .i .i64 0, .i .i64 0, .b false], true⟩ := rfl
@[simp] theorem ty205 : env.τ 205 = some ⟨1, 4, .int .u32, [.i .u32 0], false⟩ := rfl
@[simp] theorem ty209 : env.τ 209 = some ⟨1, 8, .other, [.p none], false⟩ := rfl
theorem ok3 : env.ok 3 = true := rfl
theorem ok8 : env.ok 8 = true := rfl
theorem ok9 : env.ok 9 = true := rfl
theorem ok10 : env.ok 10 = true := rfl
theorem ok11 : env.ok 11 = true := rfl
theorem ok12 : env.ok 12 = true := rfl
theorem ok13 : env.ok 13 = true := rfl
theorem ok14 : env.ok 14 = true := rfl
theorem ok15 : env.ok 15 = true := rfl
theorem ok16 : env.ok 16 = true := rfl
theorem ok17 : env.ok 17 = true := rfl
theorem ok18 : env.ok 18 = true := rfl
theorem ok19 : env.ok 19 = true := rfl
theorem ok33 : env.ok 33 = true := rfl
theorem ok34 : env.ok 34 = true := rfl
theorem ok35 : env.ok 35 = true := rfl
theorem ok36 : env.ok 36 = true := rfl
theorem ok37 : env.ok 37 = true := rfl
theorem ok38 : env.ok 38 = true := rfl
theorem ok39 : env.ok 39 = true := rfl
theorem ok40 : env.ok 40 = true := rfl
theorem ok41 : env.ok 41 = true := rfl
theorem ok42 : env.ok 42 = true := rfl
theorem ok43 : env.ok 43 = true := rfl
theorem ok44 : env.ok 44 = true := rfl
theorem ok45 : env.ok 45 = true := rfl
theorem ok46 : env.ok 46 = true := rfl
theorem ok47 : env.ok 47 = true := rfl
theorem ok48 : env.ok 48 = true := rfl
theorem ok49 : env.ok 49 = true := rfl
theorem ok81 : env.ok 81 = true := rfl
theorem ok84 : env.ok 84 = true := rfl
theorem ok85 : env.ok 85 = true := rfl
theorem ok86 : env.ok 86 = true := rfl
theorem ok87 : env.ok 87 = true := rfl
theorem ok88 : env.ok 88 = true := rfl
theorem ok89 : env.ok 89 = true := rfl
theorem ok90 : env.ok 90 = true := rfl
theorem ok91 : env.ok 91 = true := rfl
theorem ok92 : env.ok 92 = true := rfl
theorem ok93 : env.ok 93 = true := rfl
theorem ok94 : env.ok 94 = true := rfl
theorem ok95 : env.ok 95 = true := rfl
theorem ok96 : env.ok 96 = true := rfl
theorem ok97 : env.ok 97 = true := rfl
theorem ok98 : env.ok 98 = true := rfl
theorem ok99 : env.ok 99 = true := rfl
theorem ok100 : env.ok 100 = true := rfl
theorem ok101 : env.ok 101 = true := rfl
theorem ok102 : env.ok 102 = true := rfl
theorem ok103 : env.ok 103 = true := rfl
theorem ok128 : env.ok 128 = true := rfl
theorem ok129 : env.ok 129 = true := rfl
theorem ok130 : env.ok 130 = true := rfl
theorem ok131 : env.ok 131 = true := rfl
theorem ok132 : env.ok 132 = true := rfl
theorem ok133 : env.ok 133 = true := rfl
theorem ok134 : env.ok 134 = true := rfl
theorem ok135 : env.ok 135 = true := rfl
theorem ok136 : env.ok 136 = true := rfl
theorem ok137 : env.ok 137 = true := rfl
theorem ok138 : env.ok 138 = true := rfl
theorem ok139 : env.ok 139 = true := rfl
theorem ok140 : env.ok 140 = true := rfl
theorem ok141 : env.ok 141 = true := rfl
theorem ok142 : env.ok 142 = true := rfl
theorem ok143 : env.ok 143 = true := rfl
theorem ok147 : env.ok 147 = true := rfl
theorem ok148 : env.ok 148 = true := rfl
theorem ok151 : env.ok 151 = true := rfl
theorem ok152 : env.ok 152 = true := rfl
theorem ok153 : env.ok 153 = true := rfl
theorem ok154 : env.ok 154 = true := rfl
theorem ok155 : env.ok 155 = true := rfl
theorem ok156 : env.ok 156 = true := rfl
theorem ok157 : env.ok 157 = true := rfl
theorem ok158 : env.ok 158 = true := rfl
theorem ok160 : env.ok 160 = true := rfl
theorem env_K : env.K = 3000000 := rfl
end W
end Go.Proofs.Ytnphceekmfmbcaa

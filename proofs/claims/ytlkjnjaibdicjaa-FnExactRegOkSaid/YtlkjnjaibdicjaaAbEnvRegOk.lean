/- The table of types of this translation, the functions that are run, and the checks that both are the program's. No conditions. -/
import Derived.Test.YtlkjnjaibdicjaaAbShp
import Derived.Test.YtlkjnjaibdicjaaProg
set_option maxRecDepth 100000
namespace Go.Proofs.Ytlkjnjaibdicjaa
open Go Go.Ab
namespace W
def rows : List (Nat × TI) := [
  (2, ⟨1, 8, .int .i64, [.i .i64 0], false⟩),
  (3, ⟨1, 8, .int .i64, [.i .i64 0], false⟩),
  (4, ⟨1, 1, .bool, [.b false], false⟩),
  (5, ⟨1, 1, .int .u8, [.i .u8 0], false⟩),
  (9, ⟨1, 16, .str, [.s ByteArray.empty], false⟩),
  (12, ⟨1, 8, .int .u64, [.i .u64 0], false⟩),
  (21, ⟨1, 4, .int .i32, [.i .i32 0], false⟩),
  (23, ⟨3, 24, .struct [(0, 1), (1, 1), (2, 1)], [.i .i64 0, .i .i64 0, .i .i64 0], true⟩),
  (25, ⟨3, 24, .struct [(0, 1), (1, 1), (2, 1)], [.i .i64 0, .i .i64 0, .i .i64 0], true⟩),
  (28, ⟨1, 24, .slice 129, [.sl none 0], false⟩),
  (30, ⟨7, 72, .struct [(0, 1), (1, 1), (2, 1), (3, 1), (4, 1), (5, 1), (6, 1)], [.b false, .i .i64 0, .i .i64 0, .sl none 0, .i .i64 0, .i .i64 0, .i .i64 0], false⟩),
  (32, ⟨1, 24, .slice 111, [.sl none 0], false⟩),
  (34, ⟨7, 72, .struct [(0, 1), (1, 1), (2, 1), (3, 1), (4, 1), (5, 1), (6, 1)], [.b false, .i .i64 0, .i .i64 0, .sl none 0, .i .i64 0, .i .i64 0, .i .i64 0], false⟩),
  (42, ⟨1, 24, .slice 135, [.sl none 0], false⟩),
  (43, ⟨1, 24, .slice 113, [.sl none 0], false⟩),
  (45, ⟨2, 48, .struct [(0, 1), (1, 1)], [.sl none 0, .sl none 0], false⟩),
  (48, ⟨1, 24, .slice 85, [.sl none 0], false⟩),
  (49, ⟨1, 24, .slice 102, [.sl none 0], false⟩),
  (51, ⟨2, 48, .struct [(0, 1), (1, 1)], [.sl none 0, .sl none 0], false⟩),
  (55, ⟨1, 24, .slice 5, [.sl none 0], false⟩),
  (59, ⟨1, 24, .slice 3, [.sl none 0], false⟩),
  (83, ⟨1, 24, .slice 100, [.sl none 0], false⟩),
  (85, ⟨2, 32, .struct [(0, 1), (1, 1)], [.i .i64 0, .sl none 0], false⟩),
  (87, ⟨1, 24, .slice 4, [.sl none 0], false⟩),
  (91, ⟨1, 8, .other, [.p none], false⟩),
  (98, ⟨4, 32, .struct [(0, 1), (1, 1), (2, 1), (3, 1)], [.i .i64 0, .i .i64 0, .i .i64 0, .i .i64 0], true⟩),
  (100, ⟨11, 80, .struct [(0, 1), (1, 1), (2, 4), (6, 1), (7, 1), (8, 1), (9, 1), (10, 1)], [.b false, .b false, .i .i64 0, .i .i64 0, .i .i64 0, .i .i64 0, .i .i64 0, .i .i64 0, .i .i64 0, .i .i64 0, .b false], true⟩),
  (102, ⟨4, 32, .struct [(0, 1), (1, 1), (2, 1), (3, 1)], [.i .i64 0, .i .i64 0, .i .i64 0, .i .i64 0], true⟩),
  (107, ⟨1, 24, .slice 155, [.sl none 0], false⟩),
  (111, ⟨8, 64, .struct [(0, 1), (1, 1), (2, 4), (6, 1), (7, 1)], [.i .i64 0, .i .i64 0, .i .i64 0, .i .i64 0, .i .i64 0, .i .i64 0, .i .i64 0, .b false], true⟩),
  (113, ⟨4, 32, .struct [(0, 1), (1, 1), (2, 1), (3, 1)], [.i .i64 0, .i .i64 0, .i .i64 0, .i .i64 0], true⟩),
  (116, ⟨2, 16, .struct [(0, 1), (1, 1)], [.i .i64 0, .i .i64 0], true⟩),
  (119, ⟨4, 32, .array 2 116, [.i .i64 0, .i .i64 0, .i .i64 0, .i .i64 0], false⟩),
  (127, ⟨4, 32, .struct [(0, 1), (1, 1), (2, 1), (3, 1)], [.i .i64 0, .i .i64 0, .i .i64 0, .i .i64 0], true⟩),
  (129, ⟨8, 64, .struct [(0, 1), (1, 1), (2, 4), (6, 1), (7, 1)], [.i .i64 0, .i .i64 0, .i .i64 0, .i .i64 0, .i .i64 0, .i .i64 0, .i .i64 0, .b false], true⟩),
  (133, ⟨1, 24, .slice 185, [.sl none 0], false⟩),
  (135, ⟨2, 32, .struct [(0, 1), (1, 1)], [.i .i64 0, .sl none 0], false⟩),
  (141, ⟨1, 8, .other, [.p none], false⟩),
  (149, ⟨3, 40, .struct [(0, 1), (1, 1), (2, 1)], [.sl none 0, .i .i64 0, .i .i64 0], false⟩),
  (151, ⟨1, 24, .slice 116, [.sl none 0], false⟩),
  (155, ⟨8, 64, .struct [(0, 1), (1, 1), (2, 4), (6, 1), (7, 1)], [.i .i64 0, .i .i64 0, .i .i64 0, .i .i64 0, .i .i64 0, .i .i64 0, .i .i64 0, .b false], true⟩),
  (162, ⟨1, 8, .other, [.p none], false⟩),
  (164, ⟨1, 8, .other, [.p none], false⟩),
  (185, ⟨11, 80, .struct [(0, 1), (1, 1), (2, 4), (6, 1), (7, 1), (8, 1), (9, 1), (10, 1)], [.b false, .b false, .i .i64 0, .i .i64 0, .i .i64 0, .i .i64 0, .i .i64 0, .i .i64 0, .i .i64 0, .i .i64 0, .b false], true⟩),
  (187, ⟨1, 8, .int .u64, [.i .u64 0], false⟩),
  (195, ⟨1, 4, .int .u32, [.i .u32 0], false⟩),
  (199, ⟨1, 8, .other, [.p none], false⟩)]
def fns : List Nat := [3, 9, 10, 11, 44, 45, 46, 47]
def wrs : List Nat := []
noncomputable def env : Env := { P := Try.prog, τ := tabOf rows, K := 3000000, wr := fun f => wrs.contains f, ok := fun f => fns.contains f }
theorem tab_ok : TabOk env.P env.τ := tabOk_of (by kernel_rfl)
theorem draws_ok : env.P.follows .mixedOrders = true := by kernel_rfl
theorem prog_ok : progB env fns = true := by kernel_rfl
theorem sound_all : CallOk env.P (run env) := sound_run fun d => sound draws_ok tab_ok fns (fun f h => by simpa [env] using h) prog_ok d
theorem env_P : env.P = Try.prog := rfl
@[simp] theorem ty2 : env.τ 2 = some ⟨1, 8, .int .i64, [.i .i64 0], false⟩ := rfl
@[simp] theorem ty3 : env.τ 3 = some ⟨1, 8, .int .i64, [.i .i64 0], false⟩ := rfl
@[simp] theorem ty4 : env.τ 4 = some ⟨1, 1, .bool, [.b false], false⟩ := rfl
@[simp] theorem ty5 : env.τ 5 = some ⟨1, 1, .int .u8, [.i .u8 0], false⟩ := rfl
@[simp] theorem ty9 : env.τ 9 = some ⟨1, 16, .str, [.s ByteArray.empty], false⟩ := rfl
@[simp] theorem ty12 : env.τ 12 = some ⟨1, 8, .int .u64, [.i .u64 0], false⟩ := rfl
@[simp] theorem ty21 : env.τ 21 = some ⟨1, 4, .int .i32, [.i .i32 0], false⟩ := rfl
@[simp] theorem ty23 : env.τ 23 = some ⟨3, 24, .struct [(0, 1), (1, 1), (2, 1)], [.i .i64 0, .i .i64 0, .i .i64 0], true⟩ := rfl
@[simp] theorem ty25 : env.τ 25 = some ⟨3, 24, .struct [(0, 1), (1, 1), (2, 1)], [.i .i64 0, .i .i64 0, .i .i64 0], true⟩ := rfl
@[simp] theorem ty28 : env.τ 28 = some ⟨1, 24, .slice 129, [.sl none 0], false⟩ := rfl
@[simp] theorem ty30 : env.τ 30 = some ⟨7, 72, .struct [(0, 1), (1, 1), (2, 1), (3, 1), (4, 1), (5, 1), (6, 1)], [.b false, .i .i64 0, .i .i64 0, .sl none 0, .i .i64 0, .i .i64 0, .i .i64 0], false⟩ := rfl
@[simp] theorem ty32 : env.τ 32 = some ⟨1, 24, .slice 111, [.sl none 0], false⟩ := rfl
@[simp] theorem ty34 : env.τ 34 = some ⟨7, 72, .struct [(0, 1), (1, 1), (2, 1), (3, 1), (4, 1), (5, 1), (6, 1)], [.b false, .i .i64 0, .i .i64 0, .sl none 0, .i .i64 0, .i .i64 0, .i .i64 0], false⟩ := rfl
@[simp] theorem ty42 : env.τ 42 = some ⟨1, 24, .slice 135, [.sl none 0], false⟩ := rfl
@[simp] theorem ty43 : env.τ 43 = some ⟨1, 24, .slice 113, [.sl none 0], false⟩ := rfl
@[simp] theorem ty45 : env.τ 45 = some ⟨2, 48, .struct [(0, 1), (1, 1)], [.sl none 0, .sl none 0], false⟩ := rfl
@[simp] theorem ty48 : env.τ 48 = some ⟨1, 24, .slice 85, [.sl none 0], false⟩ := rfl
@[simp] theorem ty49 : env.τ 49 = some ⟨1, 24, .slice 102, [.sl none 0], false⟩ := rfl
@[simp] theorem ty51 : env.τ 51 = some ⟨2, 48, .struct [(0, 1), (1, 1)], [.sl none 0, .sl none 0], false⟩ := rfl
@[simp] theorem ty55 : env.τ 55 = some ⟨1, 24, .slice 5, [.sl none 0], false⟩ := rfl
@[simp] theorem ty59 : env.τ 59 = some ⟨1, 24, .slice 3, [.sl none 0], false⟩ := rfl
@[simp] theorem ty83 : env.τ 83 = some ⟨1, 24, .slice 100, [.sl none 0], false⟩ := rfl
@[simp] theorem ty85 : env.τ 85 = some ⟨2, 32, .struct [(0, 1), (1, 1)], [.i .i64 0, .sl none 0], false⟩ := rfl
@[simp] theorem ty87 : env.τ 87 = some ⟨1, 24, .slice 4, [.sl none 0], false⟩ := rfl
@[simp] theorem ty91 : env.τ 91 = some ⟨1, 8, .other, [.p none], false⟩ := rfl
@[simp] theorem ty98 : env.τ 98 = some ⟨4, 32, .struct [(0, 1), (1, 1), (2, 1), (3, 1)], [.i .i64 0, .i .i64 0, .i .i64 0, .i .i64 0], true⟩ := rfl
@[simp] theorem ty100 : env.τ 100 = some ⟨11, 80, .struct [(0, 1), (1, 1), (2, 4), (6, 1), (7, 1), (8, 1), (9, 1), (10, 1)], [.b false, .b false, .i .i64 0, .i .i64 0, .i .i64 0, .i .i64 0, .i .i64 0, .i .i64 0, .i .i64 0, .i .i64 0, .b false], true⟩ := rfl
@[simp] theorem ty102 : env.τ 102 = some ⟨4, 32, .struct [(0, 1), (1, 1), (2, 1), (3, 1)], [.i .i64 0, .i .i64 0, .i .i64 0, .i .i64 0], true⟩ := rfl
@[simp] theorem ty107 : env.τ 107 = some ⟨1, 24, .slice 155, [.sl none 0], false⟩ := rfl
@[simp] theorem ty111 : env.τ 111 = some ⟨8, 64, .struct [(0, 1), (1, 1), (2, 4), (6, 1), (7, 1)], [.i .i64 0, .i .i64 0, .i .i64 0, .i .i64 0, .i .i64 0, .i .i64 0, .i .i64 0, .b false], true⟩ := rfl
@[simp] theorem ty113 : env.τ 113 = some ⟨4, 32, .struct [(0, 1), (1, 1), (2, 1), (3, 1)], [.i .i64 0, .i .i64 0, .i .i64 0, .i .i64 0], true⟩ := rfl
@[simp] theorem ty116 : env.τ 116 = some ⟨2, 16, .struct [(0, 1), (1, 1)], [.i .i64 0, .i .i64 0], true⟩ := rfl
@[simp] theorem ty119 : env.τ 119 = some ⟨4, 32, .array 2 116, [.i .i64 0, .i .i64 0, .i .i64 0, .i .i64 0], false⟩ := rfl
@[simp] theorem ty127 : env.τ 127 = some ⟨4, 32, .struct [(0, 1), (1, 1), (2, 1), (3, 1)], [.i .i64 0, .i .i64 0, .i .i64 0, .i .i64 0], true⟩ := rfl
@[simp] theorem ty129 : env.τ 129 = some ⟨8, 64, .struct [(0, 1), (1, 1), (2, 4), (6, 1), (7, 1)], [.i .i64 0, .i .i64 0, .i .i64 0, .i .i64 0, .i .i64 0, .i .i64 0, .i .i64 0, .b false], true⟩ := rfl
@[simp] theorem ty133 : env.τ 133 = some ⟨1, 24, .slice 185, [.sl none 0], false⟩ := rfl
@[simp] theorem ty135 : env.τ 135 = some ⟨2, 32, .struct [(0, 1), (1, 1)], [.i .i64 0, .sl none 0], false⟩ := rfl
@[simp] theorem ty141 : env.τ 141 = some ⟨1, 8, .other, [.p none], false⟩ := rfl
@[simp] theorem ty149 : env.τ 149 = some ⟨3, 40, .struct [(0, 1), (1, 1), (2, 1)], [.sl none 0, .i .i64 0, .i .i64 0], false⟩ := rfl
@[simp] theorem ty151 : env.τ 151 = some ⟨1, 24, .slice 116, [.sl none 0], false⟩ := rfl
@[simp] theorem ty155 : env.τ 155 = some ⟨8, 64, .struct [(0, 1), (1, 1), (2, 4), (6, 1), (7, 1)], [.i .i64 0, .i .i64 0, .i .i64 0, .i .i64 0, .i .i64 0, .i .i64 0, .i .i64 0, .b false], true⟩ := rfl
@[simp] theorem ty162 : env.τ 162 = some ⟨1, 8, .other, [.p none], false⟩ := rfl
@[simp] theorem ty164 : env.τ 164 = some ⟨1, 8, .other, [.p none], false⟩ := rfl
@[simp] theorem ty185 : env.τ 185 = some ⟨11, 80, .struct [(0, 1), (1, 1), (2, 4), (6, 1), (7, 1), (8, 1), (9, 1), (10, 1)], [.b false, .b false, .i .i64 0, .i .i64 0, .i .i64 0, .i .i64 0, .i .i64 0, .i .i64 0, .i .i64 0, .i .i64 0, .b false], true⟩ := rfl
@[simp] theorem ty187 : env.τ 187 = some ⟨1, 8, .int .u64, [.i .u64 0], false⟩ := rfl
@[simp] theorem ty195 : env.τ 195 = some ⟨1, 4, .int .u32, [.i .u32 0], false⟩ := rfl
@[simp] theorem ty199 : env.τ 199 = some ⟨1, 8, .other, [.p none], false⟩ := rfl
theorem ok3 : env.ok 3 = true := rfl
theorem ok9 : env.ok 9 = true := rfl
theorem ok10 : env.ok 10 = true := rfl
theorem ok11 : env.ok 11 = true := rfl
theorem ok44 : env.ok 44 = true := rfl
theorem ok45 : env.ok 45 = true := rfl
theorem ok46 : env.ok 46 = true := rfl
theorem ok47 : env.ok 47 = true := rfl
theorem env_K : env.K = 3000000 := rfl
end W
end Go.Proofs.Ytlkjnjaibdicjaa


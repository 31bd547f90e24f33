/- The table of types of this translation, the functions that are run, and the checks that both are the program's. No conditions. -/
import Derived.Test.YtonkofgdncgolaaAbRep2
import Derived.Test.YtonkofgdncgolaaProg
set_option maxRecDepth 100000
namespace Go.Proofs.Ytonkofgdncgolaa
open Go Go.Ab
namespace W
def rows : List (Nat × TI) := [
  (2, ⟨1, 8, .int .i64, [.i .i64 0], false⟩),
  (3, ⟨1, 8, .int .i64, [.i .i64 0], false⟩),
  (4, ⟨1, 1, .bool, [.b false], false⟩),
  (5, ⟨1, 1, .int .u8, [.i .u8 0], false⟩),
  (9, ⟨1, 16, .str, [.s ByteArray.empty], false⟩),
  (12, ⟨1, 8, .int .u64, [.i .u64 0], false⟩),
  (21, ⟨1, 4, .int .i32, [.i .i32 0], false⟩),
  (23, ⟨3, 24, .struct [(0, 1), (1, 1), (2, 1)], [.i .i64 0, .i .i64 0, .i .i64 0], true⟩),
  (25, ⟨3, 24, .struct [(0, 1), (1, 1), (2, 1)], [.i .i64 0, .i .i64 0, .i .i64 0], true⟩),
  (28, ⟨1, 24, .slice 116, [.sl none 0], false⟩),
  (30, ⟨2, 32, .struct [(0, 1), (1, 1)], [.i .i64 0, .sl none 0], false⟩),
  (32, ⟨1, 24, .slice 4, [.sl none 0], false⟩),
  (34, ⟨1, 24, .slice 93, [.sl none 0], false⟩),
  (36, ⟨2, 32, .struct [(0, 1), (1, 1)], [.i .i64 0, .sl none 0], false⟩),
  (43, ⟨1, 24, .slice 63, [.sl none 0], false⟩),
  (45, ⟨7, 72, .struct [(0, 1), (1, 1), (2, 1), (3, 1), (4, 1), (5, 1), (6, 1)], [.b false, .i .i64 0, .i .i64 0, .sl none 0, .i .i64 0, .i .i64 0, .i .i64 0], false⟩),
  (48, ⟨1, 24, .slice 68, [.sl none 0], false⟩),
  (50, ⟨7, 72, .struct [(0, 1), (1, 1), (2, 1), (3, 1), (4, 1), (5, 1), (6, 1)], [.b false, .i .i64 0, .i .i64 0, .sl none 0, .i .i64 0, .i .i64 0, .i .i64 0], false⟩),
  (61, ⟨4, 32, .struct [(0, 1), (1, 1), (2, 1), (3, 1)], [.i .i64 0, .i .i64 0, .i .i64 0, .i .i64 0], true⟩),
  (63, ⟨8, 64, .struct [(0, 1), (1, 1), (2, 4), (6, 1), (7, 1)], [.i .i64 0, .i .i64 0, .i .i64 0, .i .i64 0, .i .i64 0, .i .i64 0, .i .i64 0, .b false], true⟩),
  (66, ⟨4, 32, .struct [(0, 1), (1, 1), (2, 1), (3, 1)], [.i .i64 0, .i .i64 0, .i .i64 0, .i .i64 0], true⟩),
  (68, ⟨8, 64, .struct [(0, 1), (1, 1), (2, 4), (6, 1), (7, 1)], [.i .i64 0, .i .i64 0, .i .i64 0, .i .i64 0, .i .i64 0, .i .i64 0, .i .i64 0, .b false], true⟩),
  (74, ⟨1, 24, .slice 45, [.sl none 0], false⟩),
  (75, ⟨1, 24, .slice 125, [.sl none 0], false⟩),
  (76, ⟨1, 24, .slice 130, [.sl none 0], false⟩),
  (78, ⟨10, 160, .struct [(0, 1), (1, 1), (2, 3), (5, 1), (6, 1), (7, 1), (8, 1), (9, 1)], [.i .i64 0, .i .i64 0, .i .i64 0, .i .i64 0, .i .i64 0, .sl none 0, .sl none 0, .sl none 0, .sl none 0, .sl none 0], false⟩),
  (81, ⟨1, 24, .slice 50, [.sl none 0], false⟩),
  (82, ⟨1, 24, .slice 122, [.sl none 0], false⟩),
  (83, ⟨1, 24, .slice 127, [.sl none 0], false⟩),
  (85, ⟨10, 160, .struct [(0, 1), (1, 1), (2, 3), (5, 1), (6, 1), (7, 1), (8, 1), (9, 1)], [.i .i64 0, .i .i64 0, .i .i64 0, .i .i64 0, .i .i64 0, .sl none 0, .sl none 0, .sl none 0, .sl none 0, .sl none 0], false⟩),
  (93, ⟨11, 80, .struct [(0, 1), (1, 1), (2, 4), (6, 1), (7, 1), (8, 1), (9, 1), (10, 1)], [.b false, .b false, .i .i64 0, .i .i64 0, .i .i64 0, .i .i64 0, .i .i64 0, .i .i64 0, .i .i64 0, .i .i64 0, .b false], true⟩),
  (116, ⟨11, 80, .struct [(0, 1), (1, 1), (2, 4), (6, 1), (7, 1), (8, 1), (9, 1), (10, 1)], [.b false, .b false, .i .i64 0, .i .i64 0, .i .i64 0, .i .i64 0, .i .i64 0, .i .i64 0, .i .i64 0, .i .i64 0, .b false], true⟩),
  (122, ⟨12, 96, .struct [(0, 1), (1, 1), (2, 1), (3, 1), (4, 8)], [.i .i64 0, .b false, .i .i64 0, .i .i64 0, .i .i64 0, .i .i64 0, .i .i64 0, .i .i64 0, .i .i64 0, .i .i64 0, .i .i64 0, .b false], true⟩),
  (125, ⟨12, 96, .struct [(0, 1), (1, 1), (2, 1), (3, 1), (4, 8)], [.i .i64 0, .b false, .i .i64 0, .i .i64 0, .i .i64 0, .i .i64 0, .i .i64 0, .i .i64 0, .i .i64 0, .i .i64 0, .i .i64 0, .b false], true⟩),
  (127, ⟨8, 64, .struct [(0, 1), (1, 1), (2, 4), (6, 1), (7, 1)], [.i .i64 0, .i .i64 0, .i .i64 0, .i .i64 0, .i .i64 0, .i .i64 0, .i .i64 0, .b false], true⟩),
  (130, ⟨8, 64, .struct [(0, 1), (1, 1), (2, 4), (6, 1), (7, 1)], [.i .i64 0, .i .i64 0, .i .i64 0, .i .i64 0, .i .i64 0, .i .i64 0, .i .i64 0, .b false], true⟩),
  (142, ⟨1, 4, .int .u32, [.i .u32 0], false⟩),
  (146, ⟨1, 8, .other, [.p none], false⟩)]
def fns : List Nat := [10, 12, 18, 23, 25, 27, 32, 34, 40, 41, 42, 43, 44, 53, 55, 57, 59, 63, 64, 65, 66, 67, 68, 69, 70, 71, 72, 73, 78, 80, 81, 82, 83, 84]
def wrs : List Nat := []
noncomputable def env : Env := { P := Try.prog, τ := tabOf rows, K := 3000000, wr := fun f => wrs.contains f, ok := fun f => fns.contains f }
theorem tab_ok : TabOk env.P env.τ := tabOk_of (by kernel_rfl)
theorem draws_ok : env.P.follows .mixedOrders = true := by kernel_rfl
theorem prog_ok : progB env fns = true := by kernel_rfl
theorem sound_all : CallOk env.P (run env) := sound_run fun d => sound draws_ok tab_ok fns (fun f h => by simpa [env] using h) prog_ok d
theorem env_P : env.P = Try.prog := rfl
@[simp] theorem ty2 : env.τ 2 = some ⟨1, 8, .int .i64, [.i .i64 0], false⟩ := rfl
@[simp] theorem ty3 : env.τ 3 = some ⟨1, 8, .int .i64, [.i .i64 0], false⟩ := rfl
@[simp] theorem ty4 : env.τ 4 = some ⟨1, 1, .bool, [.b false], false⟩ := rfl
@[simp] theorem ty5 : env.τ 5 = some ⟨1, 1, .int .u8, [.i .u8 0], false⟩ := rfl
@[simp] theorem ty9 : env.τ 9 = some ⟨1, 16, .str, [.s ByteArray.empty], false⟩ := rfl
@[simp] theorem ty12 : env.τ 12 = some ⟨1, 8, .int .u64, [.i .u64 0], false⟩ := rfl
@[simp] theorem ty21 : env.τ 21 = some ⟨1, 4, .int .i32, [.i .i32 0], false⟩ := rfl
@[simp] theorem ty23 : env.τ 23 = some ⟨3, 24, .struct [(0, 1), (1, 1), (2, 1)], [.i .i64 0, .i .i64 0, .i .i64 0], true⟩ := rfl
@[simp] theorem ty25 : env.τ 25 = some ⟨3, 24, .struct [(0, 1), (1, 1), (2, 1)], [.i .i64 0, .i .i64 0, .i .i64 0], true⟩ := rfl
@[simp] theorem ty28 : env.τ 28 = some ⟨1, 24, .slice 116, [.sl none 0], false⟩ := rfl
@[simp] theorem ty30 : env.τ 30 = some ⟨2, 32, .struct [(0, 1), (1, 1)], [.i .i64 0, .sl none 0], false⟩ := rfl
@[simp] theorem ty32 : env.τ 32 = some ⟨1, 24, .slice 4, [.sl none 0], false⟩ := rfl
@[simp] theorem ty34 : env.τ 34 = some ⟨1, 24, .slice 93, [.sl none 0], false⟩ := rfl
@[simp] theorem ty36 : env.τ 36 = some ⟨2, 32, .struct [(0, 1), (1, 1)], [.i .i64 0, .sl none 0], false⟩ := rfl
@[simp] theorem ty43 : env.τ 43 = some ⟨1, 24, .slice 63, [.sl none 0], false⟩ := rfl
@[simp] theorem ty45 : env.τ 45 = some ⟨7, 72, .struct [(0, 1), (1, 1), (2, 1), (3, 1), (4, 1), (5, 1), (6, 1)], [.b false, .i .i64 0, .i .i64 0, .sl none 0, .i .i64 0, .i .i64 0, .i .i64 0], false⟩ := rfl
@[simp] theorem ty48 : env.τ 48 = some ⟨1, 24, .slice 68, [.sl none 0], false⟩ := rfl
@[simp] theorem ty50 : env.τ 50 = some ⟨7, 72, .struct [(0, 1), (1, 1), (2, 1), (3, 1), (4, 1), (5, 1), (6, 1)], [.b false, .i .i64 0, .i .i64 0, .sl none 0, .i .i64 0, .i .i64 0, .i .i64 0], false⟩ := rfl
@[simp] theorem ty61 : env.τ 61 = some ⟨4, 32, .struct [(0, 1), (1, 1), (2, 1), (3, 1)], [.i .i64 0, .i .i64 0, .i .i64 0, .i .i64 0], true⟩ := rfl
@[simp] theorem ty63 : env.τ 63 = some ⟨8, 64, .struct [(0, 1), (1, 1), (2, 4), (6, 1), (7, 1)], [.i .i64 0, .i .i64 0, .i .i64 0, .i .i64 0, .i .i64 0, .i .i64 0, .i .i64 0, .b false], true⟩ := rfl
@[simp] theorem ty66 : env.τ 66 = some ⟨4, 32, .struct [(0, 1), (1, 1), (2, 1), (3, 1)], [.i .i64 0, .i .i64 0, .i .i64 0, .i .i64 0], true⟩ := rfl
@[simp] theorem ty68 : env.τ 68 = some ⟨8, 64, .struct [(0, 1), (1, 1), (2, 4), (6, 1), (7, 1)], [.i .i64 0, .i .i64 0, .i .i64 0, .i .i64 0, .i .i64 0, .i .i64 0, .i .i64 0, .b false], true⟩ := rfl
@[simp] theorem ty74 : env.τ 74 = some ⟨1, 24, .slice 45, [.sl none 0], false⟩ := rfl
@[simp] theorem ty75 : env.τ 75 = some ⟨1, 24, .slice 125, [.sl none 0], false⟩ := rfl
@[simp] theorem ty76 : env.τ 76 = some ⟨1, 24, .slice 130, [.sl none 0], false⟩ := rfl
@[simp] theorem ty78 : env.τ 78 = some ⟨10, 160, .struct [(0, 1), (1, 1), (2, 3), (5, 1), (6, 1), (7, 1), (8, 1), (9, 1)], [.i .i64 0, .i .i64 0, .i .i64 0, .i .i64 0, .i .i64 0, .sl none 0, .sl none 0, .sl none 0, .sl none 0, .sl none 0], false⟩ := rfl
@[simp] theorem ty81 : env.τ 81 = some ⟨1, 24, .slice 50, [.sl none 0], false⟩ := rfl
@[simp] theorem ty82 : env.τ 82 = some ⟨1, 24, .slice 122, [.sl none 0], false⟩ := rfl
@[simp] theorem ty83 : env.τ 83 = some ⟨1, 24, .slice 127, [.sl none 0], false⟩ := rfl
@[simp] theorem ty85 : env.τ 85 = some ⟨10, 160, .struct [(0, 1), (1, 1), (2, 3), (5, 1), (6, 1), (7, 1), (8, 1), (9, 1)], [.i .i64 0, .i .i64 0, .i .i64 0, .i .i64 0, .i .i64 0, .sl none 0, .sl none 0, .sl none 0, .sl none 0, .sl none 0], false⟩ := rfl
@[simp] theorem ty93 : env.τ 93 = some ⟨11, 80, .struct [(0, 1), (1, 1), (2, 4), (6, 1), (7, 1), (8, 1), (9, 1), (10, 1)], [.b false, .b false, .i .i64 0, .i .i64 0, .i .i64 0, .i .i64 0, .i .i64 0, .i .i64 0, .i .i64 0, .i .i64 0, .b false], true⟩ := rfl
@[simp] theorem ty116 : env.τ 116 = some ⟨11, 80, .struct [(0, 1), (1, 1), (2, 4), (6, 1), (7, 1), (8, 1), (9, 1), (10, 1)], [.b false, .b false, .i .i64 0, .i .i64 0, .i .i64 0, .i .i64 0, .i .i64 0, .i .i64 0, .i .i64 0, .i .i64 0, .b false], true⟩ := rfl
@[simp] theorem ty122 : env.τ 122 = some ⟨12, 96, .struct [(0, 1), (1, 1), (2, 1), (3, 1), (4, 8)], [.i .i64 0, .b false, .i .i64 0, .i .i64 0, .i .i64 0, .i .i64 0, .i .i64 0, .i .i64 0, .i .i64 0, .i .i64 0, .i .i64 0, .b false], true⟩ := rfl
@[simp] theorem ty125 : env.τ 125 = some ⟨12, 96, .struct [(0, 1), (1, 1), (2, 1), (3, 1), (4, 8)], [.i .i64 0, .b false, .i .i64 0, .i .i64 0, .i .i64 0, .i .i64 0, .i .i64 0, .i .i64 0, .i .i64 0, .i .i64 0, .i .i64 0, .b false], true⟩ := rfl
@[simp] theorem ty127 : env.τ 127 = some ⟨8, 64, .struct [(0, 1), (1, 1), (2, 4), (6, 1), (7, 1)], [.i .i64 0, .i .i64 0, .i .i64 0, .i .i64 0, .i .i64 0, .i .i64 0, .i .i64 0, .b false], true⟩ := rfl
@[simp] theorem ty130 : env.τ 130 = some ⟨8, 64, .struct [(0, 1), (1, 1), (2, 4), (6, 1), (7, 1)], [.i .i64 0, .i .i64 0, .i .i64 0, .i .i64 0, .i .i64 0, .i .i64 0, .i .i64 0, .b false], true⟩ := rfl
@[simp] theorem ty142 : env.τ 142 = some ⟨1, 4, .int .u32, [.i .u32 0], false⟩ := rfl
@[simp] theorem ty146 : env.τ 146 = some ⟨1, 8, .other, [.p none], false⟩ := rfl
theorem ok10 : env.ok 10 = true := rfl
theorem ok12 : env.ok 12 = true := rfl
theorem ok18 : env.ok 18 = true := rfl
theorem ok23 : env.ok 23 = true := rfl
theorem ok25 : env.ok 25 = true := rfl
theorem ok27 : env.ok 27 = true := rfl
theorem ok32 : env.ok 32 = true := rfl
theorem ok34 : env.ok 34 = true := rfl
theorem ok40 : env.ok 40 = true := rfl
theorem ok41 : env.ok 41 = true := rfl
theorem ok42 : env.ok 42 = true := rfl
theorem ok43 : env.ok 43 = true := rfl
theorem ok44 : env.ok 44 = true := rfl
theorem ok53 : env.ok 53 = true := rfl
theorem ok55 : env.ok 55 = true := rfl
theorem ok57 : env.ok 57 = true := rfl
theorem ok59 : env.ok 59 = true := rfl
theorem ok63 : env.ok 63 = true := rfl
theorem ok64 : env.ok 64 = true := rfl
theorem ok65 : env.ok 65 = true := rfl
theorem ok66 : env.ok 66 = true := rfl
theorem ok67 : env.ok 67 = true := rfl
theorem ok68 : env.ok 68 = true := rfl
theorem ok69 : env.ok 69 = true := rfl
theorem ok70 : env.ok 70 = true := rfl
theorem ok71 : env.ok 71 = true := rfl
theorem ok72 : env.ok 72 = true := rfl
theorem ok73 : env.ok 73 = true := rfl
theorem ok78 : env.ok 78 = true := rfl
theorem ok80 : env.ok 80 = true := rfl
theorem ok81 : env.ok 81 = true := rfl
theorem ok82 : env.ok 82 = true := rfl
theorem ok83 : env.ok 83 = true := rfl
theorem ok84 : env.ok 84 = true := rfl
theorem env_K : env.K = 3000000 := rfl
end W
end Go.Proofs.Ytonkofgdncgolaa

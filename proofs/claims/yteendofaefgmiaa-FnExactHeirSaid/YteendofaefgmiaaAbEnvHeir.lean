/- The table of types of this translation, the functions that are run, and the checks that both are the program's. No conditions. -/
import Derived.Test.YteendofaefgmiaaAbRep2
import Derived.Test.YteendofaefgmiaaProg
set_option maxRecDepth 100000
namespace Go.Proofs.Yteendofaefgmiaa
open Go Go.Ab
namespace W
def rows : List (Nat × TI) := [
  (2, ⟨1, 8, .int .i64, [.i .i64 0], false⟩),
  (3, ⟨1, 8, .int .i64, [.i .i64 0], false⟩),
  (4, ⟨1, 1, .bool, [.b false], false⟩),
  (5, ⟨1, 1, .int .u8, [.i .u8 0], false⟩),
  (9, ⟨1, 16, .str, [.s ByteArray.empty], false⟩),
  (12, ⟨1, 8, .int .u64, [.i .u64 0], false⟩),
  (21, ⟨1, 4, .int .i32, [.i .i32 0], false⟩),
  (23, ⟨3, 24, .struct [(0, 1), (1, 1), (2, 1)], [.i .i64 0, .i .i64 0, .i .i64 0], true⟩),
  (24, ⟨1, 24, .slice 105, [.sl none 0], false⟩),
  (25, ⟨1, 24, .slice 116, [.sl none 0], false⟩),
  (26, ⟨1, 24, .slice 4, [.sl none 0], false⟩),
  (27, ⟨1, 24, .slice 114, [.sl none 0], false⟩),
  (28, ⟨1, 24, .slice 99, [.sl none 0], false⟩),
  (30, ⟨10, 160, .struct [(0, 1), (1, 1), (2, 3), (5, 1), (6, 1), (7, 1), (8, 1), (9, 1)], [.i .i64 0, .i .i64 0, .i .i64 0, .i .i64 0, .i .i64 0, .sl none 0, .sl none 0, .sl none 0, .sl none 0, .sl none 0], false⟩),
  (33, ⟨3, 24, .struct [(0, 1), (1, 1), (2, 1)], [.i .i64 0, .i .i64 0, .i .i64 0], true⟩),
  (34, ⟨1, 24, .slice 65, [.sl none 0], false⟩),
  (35, ⟨1, 24, .slice 77, [.sl none 0], false⟩),
  (36, ⟨1, 24, .slice 75, [.sl none 0], false⟩),
  (37, ⟨1, 24, .slice 94, [.sl none 0], false⟩),
  (39, ⟨10, 160, .struct [(0, 1), (1, 1), (2, 3), (5, 1), (6, 1), (7, 1), (8, 1), (9, 1)], [.i .i64 0, .i .i64 0, .i .i64 0, .i .i64 0, .i .i64 0, .sl none 0, .sl none 0, .sl none 0, .sl none 0, .sl none 0], false⟩),
  (57, ⟨1, 24, .slice 108, [.sl none 0], false⟩),
  (59, ⟨2, 32, .struct [(0, 1), (1, 1)], [.i .i64 0, .sl none 0], false⟩),
  (65, ⟨7, 72, .struct [(0, 1), (1, 1), (2, 1), (3, 1), (4, 1), (5, 1), (6, 1)], [.b false, .i .i64 0, .i .i64 0, .sl none 0, .i .i64 0, .i .i64 0, .i .i64 0], false⟩),
  (73, ⟨4, 32, .struct [(0, 1), (1, 1), (2, 1), (3, 1)], [.i .i64 0, .i .i64 0, .i .i64 0, .i .i64 0], true⟩),
  (75, ⟨8, 64, .struct [(0, 1), (1, 1), (2, 4), (6, 1), (7, 1)], [.i .i64 0, .i .i64 0, .i .i64 0, .i .i64 0, .i .i64 0, .i .i64 0, .i .i64 0, .b false], true⟩),
  (77, ⟨12, 96, .struct [(0, 1), (1, 1), (2, 1), (3, 1), (4, 8)], [.i .i64 0, .b false, .i .i64 0, .i .i64 0, .i .i64 0, .i .i64 0, .i .i64 0, .i .i64 0, .i .i64 0, .i .i64 0, .i .i64 0, .b false], true⟩),
  (94, ⟨8, 64, .struct [(0, 1), (1, 1), (2, 4), (6, 1), (7, 1)], [.i .i64 0, .i .i64 0, .i .i64 0, .i .i64 0, .i .i64 0, .i .i64 0, .i .i64 0, .b false], true⟩),
  (97, ⟨4, 32, .struct [(0, 1), (1, 1), (2, 1), (3, 1)], [.i .i64 0, .i .i64 0, .i .i64 0, .i .i64 0], true⟩),
  (99, ⟨8, 64, .struct [(0, 1), (1, 1), (2, 4), (6, 1), (7, 1)], [.i .i64 0, .i .i64 0, .i .i64 0, .i .i64 0, .i .i64 0, .i .i64 0, .i .i64 0, .b false], true⟩),
  (105, ⟨7, 72, .struct [(0, 1), (1, 1), (2, 1), (3, 1), (4, 1), (5, 1), (6, 1)], [.b false, .i .i64 0, .i .i64 0, .sl none 0, .i .i64 0, .i .i64 0, .i .i64 0], false⟩),
  (108, ⟨11, 80, .struct [(0, 1), (1, 1), (2, 4), (6, 1), (7, 1), (8, 1), (9, 1), (10, 1)], [.b false, .b false, .i .i64 0, .i .i64 0, .i .i64 0, .i .i64 0, .i .i64 0, .i .i64 0, .i .i64 0, .i .i64 0, .b false], true⟩),
  (114, ⟨8, 64, .struct [(0, 1), (1, 1), (2, 4), (6, 1), (7, 1)], [.i .i64 0, .i .i64 0, .i .i64 0, .i .i64 0, .i .i64 0, .i .i64 0, .i .i64 0, .b false], true⟩),
  (116, ⟨12, 96, .struct [(0, 1), (1, 1), (2, 1), (3, 1), (4, 8)], [.i .i64 0, .b false, .i .i64 0, .i .i64 0, .i .i64 0, .i .i64 0, .i .i64 0, .i .i64 0, .i .i64 0, .i .i64 0, .i .i64 0, .b false], true⟩),
  (122, ⟨1, 8, .other, [.p none], false⟩),
  (137, ⟨1, 4, .int .u32, [.i .u32 0], false⟩),
  (141, ⟨1, 8, .other, [.p none], false⟩)]
def fns : List Nat := [4, 8, 9, 10, 11, 12, 13, 14, 21, 23, 25, 27, 28, 29, 30, 31, 32, 33, 34, 35, 36, 37, 38, 39, 40, 41, 42, 43, 44, 45, 46, 47, 48, 49, 50, 51, 68, 69, 71, 74, 75, 76, 77, 78, 79, 80, 81, 82, 83, 84, 85, 86, 87, 91, 98, 99, 100, 101, 102, 103]
def wrs : List Nat := []
noncomputable def env : Env := { P := Try.prog, τ := tabOf rows, K := 3000000, wr := fun f => wrs.contains f, ok := fun f => fns.contains f }
theorem tab_ok : TabOk env.P env.τ := tabOk_of (by kernel_rfl)
theorem draws_ok : env.P.follows .mixedOrders = true := by kernel_rfl
theorem prog_ok : progB env fns = true := by kernel_rfl
theorem sound_all : CallOk env.P (run env) := sound_run fun d => sound draws_ok tab_ok fns (fun f h => by simpa [env] using h) prog_ok d
theorem env_P : env.P = Try.prog := rfl
@[simp] theorem ty2 : env.τ 2 = some ⟨1, 8, .int .i64, [.i .i64 0], false⟩ := rfl
@[simp] theorem ty3 : env.τ 3 = some ⟨1, 8, .int .i64, [.i .i64 0], false⟩ := rfl
@[simp] theorem ty4 : env.τ 4 = some ⟨1, 1, .bool, [.b false], false⟩ := rfl
@[simp] theorem ty5 : env.τ 5 = some ⟨1, 1, .int .u8, [.i .u8 0], false⟩ := rfl
@[simp] theorem ty9 : env.τ 9 = some ⟨1, 16, .str, [.s ByteArray.empty], false⟩ := rfl
@[simp] theorem ty12 : env.τ 12 = some ⟨1, 8, .int .u64, [.i .u64 0], false⟩ := rfl
@[simp] theorem ty21 : env.τ 21 = some ⟨1, 4, .int .i32, [.i .i32 0], false⟩ := rfl
@[simp] theorem ty23 : env.τ 23 = some ⟨3, 24, .struct [(0, 1), (1, 1), (2, 1)], [.i .i64 0, .i .i64 0, .i .i64 0], true⟩ := rfl
@[simp] theorem ty24 : env.τ 24 = some ⟨1, 24, .slice 105, [.sl none 0], false⟩ := rfl
@[simp] theorem ty25 : env.τ 25 = some ⟨1, 24, .slice 116, [.sl none 0], false⟩ := rfl
@[simp] theorem ty26 : env.τ 26 = some ⟨1, 24, .slice 4, [.sl none 0], false⟩ := rfl
@[simp] theorem ty27 : env.τ 27 = some ⟨1, 24, .slice 114, [.sl none 0], false⟩ := rfl
@[simp] theorem ty28 : env.τ 28 = some ⟨1, 24, .slice 99, [.sl none 0], false⟩ := rfl
@[simp] theorem ty30 : env.τ 30 = some ⟨10, 160, .struct [(0, 1), (1, 1), (2, 3), (5, 1), (6, 1), (7, 1), (8, 1), (9, 1)], [.i .i64 0, .i .i64 0, .i .i64 0, .i .i64 0, .i .i64 0, .sl none 0, .sl none 0, .sl none 0, .sl none 0, .sl none 0], false⟩ := rfl
@[simp] theorem ty33 : env.τ 33 = some ⟨3, 24, .struct [(0, 1), (1, 1), (2, 1)], [.i .i64 0, .i .i64 0, .i .i64 0], true⟩ := rfl
@[simp] theorem ty34 : env.τ 34 = some ⟨1, 24, .slice 65, [.sl none 0], false⟩ := rfl
@[simp] theorem ty35 : env.τ 35 = some ⟨1, 24, .slice 77, [.sl none 0], false⟩ := rfl
@[simp] theorem ty36 : env.τ 36 = some ⟨1, 24, .slice 75, [.sl none 0], false⟩ := rfl
@[simp] theorem ty37 : env.τ 37 = some ⟨1, 24, .slice 94, [.sl none 0], false⟩ := rfl
@[simp] theorem ty39 : env.τ 39 = some ⟨10, 160, .struct [(0, 1), (1, 1), (2, 3), (5, 1), (6, 1), (7, 1), (8, 1), (9, 1)], [.i .i64 0, .i .i64 0, .i .i64 0, .i .i64 0, .i .i64 0, .sl none 0, .sl none 0, .sl none 0, .sl none 0, .sl none 0], false⟩ := rfl
@[simp] theorem ty57 : env.τ 57 = some ⟨1, 24, .slice 108, [.sl none 0], false⟩ := rfl
@[simp] theorem ty59 : env.τ 59 = some ⟨2, 32, .struct [(0, 1), (1, 1)], [.i .i64 0, .sl none 0], false⟩ := rfl
@[simp] theorem ty65 : env.τ 65 = some ⟨7, 72, .struct [(0, 1), (1, 1), (2, 1), (3, 1), (4, 1), (5, 1), (6, 1)], [.b false, .i .i64 0, .i .i64 0, .sl none 0, .i .i64 0, .i .i64 0, .i .i64 0], false⟩ := rfl
@[simp] theorem ty73 : env.τ 73 = some ⟨4, 32, .struct [(0, 1), (1, 1), (2, 1), (3, 1)], [.i .i64 0, .i .i64 0, .i .i64 0, .i .i64 0], true⟩ := rfl
@[simp] theorem ty75 : env.τ 75 = some ⟨8, 64, .struct [(0, 1), (1, 1), (2, 4), (6, 1), (7, 1)], [.i .i64 0, .i .i64 0, .i .i64 0, .i .i64 0, .i .i64 0, .i .i64 0, .i .i64 0, .b false], true⟩ := rfl
@[simp] theorem ty77 : env.τ 77 = some ⟨12, 96, .struct [(0, 1), (1, 1), (2, 1), (3, 1), (4, 8)], [.i .i64 0, .b false, .i .i64 0, .i .i64 0, .i .i64 0, .i .i64 0, .i .i64 0, .i .i64 0, .i .i64 0, .i .i64 0, .i .i64 0, .b false], true⟩ := rfl
@[simp] theorem ty94 : env.τ 94 = some ⟨8, 64, .struct [(0, 1), (1, 1), (2, 4), (6, 1), (7, 1)], [.i .i64 0, .i .i64 0, .i .i64 0, .i .i64 0, .i .i64 0, .i .i64 0, .i .i64 0, .b false], true⟩ := rfl
@[simp] theorem ty97 : env.τ 97 = some ⟨4, 32, .struct [(0, 1), (1, 1), (2, 1), (3, 1)], [.i .i64 0, .i .i64 0, .i .i64 0, .i .i64 0], true⟩ := rfl
@[simp] theorem ty99 : env.τ 99 = some ⟨8, 64, .struct [(0, 1), (1, 1), (2, 4), (6, 1), (7, 1)], [.i .i64 0, .i .i64 0, .i .i64 0, .i .i64 0, .i .i64 0, .i .i64 0, .i .i64 0, .b false], true⟩ := rfl
@[simp] theorem ty105 : env.τ 105 = some ⟨7, 72, .struct [(0, 1), (1, 1), (2, 1), (3, 1), (4, 1), (5, 1), (6, 1)], [.b false, .i .i64 0, .i .i64 0, .sl none 0, .i .i64 0, .i .i64 0, .i .i64 0], false⟩ := rfl
@[simp] theorem ty108 : env.τ 108 = some ⟨11, 80, .struct [(0, 1), (1, 1), (2, 4), (6, 1), (7, 1), (8, 1), (9, 1), (10, 1)], [.b false, .b false, .i .i64 0, .i .i64 0, .i .i64 0, .i .i64 0, .i .i64 0, .i .i64 0, .i .i64 0, .i .i64 0, .b false], true⟩ := rfl
@[simp] theorem ty114 : env.τ 114 = some ⟨8, 64, .struct [(0, 1), (1, 1), (2, 4), (6, 1), (7, 1)], [.i .i64 0, .i .i64 0, .i .i64 0, .i .i64 0, .i .i64 0, .i .i64 0, .i .i64 0, .b false], true⟩ := rfl
@[simp] theorem ty116 : env.τ 116 = some ⟨12, 96, .struct [(0, 1), (1, 1), (2, 1), (3, 1), (4, 8)], [.i .i64 0, .b false, .i .i64 0, .i .i64 0, .i .i64 0, .i .i64 0, .i .i64 0, .i .i64 0, .i .i64 0, .i .i64 0, .i .i64 0, .b false], true⟩ := rfl
@[simp] theorem ty122 : env.τ 122 = some ⟨1, 8, .other, [.p none], false⟩ := rfl
@[simp] theorem ty137 : env.τ 137 = some ⟨1, 4, .int .u32, [.i .u32 0], false⟩ := rfl
@[simp] theorem ty141 : env.τ 141 = some ⟨1, 8, .other, [.p none], false⟩ := rfl
theorem ok4 : env.ok 4 = true := rfl
theorem ok8 : env.ok 8 = true := rfl
theorem ok9 : env.ok 9 = true := rfl
theorem ok10 : env.ok 10 = true := rfl
theorem ok11 : env.ok 11 = true := rfl
theorem ok12 : env.ok 12 = true := rfl
theorem ok13 : env.ok 13 = true := rfl
theorem ok14 : env.ok 14 = true := rfl
theorem ok21 : env.ok 21 = true := rfl
theorem ok23 : env.ok 23 = true := rfl
theorem ok25 : env.ok 25 = true := rfl
theorem ok27 : env.ok 27 = true := rfl
theorem ok28 : env.ok 28 = true := rfl
theorem ok29 : env.ok 29 = true := rfl
theorem ok30 : env.ok 30 = true := rfl
theorem ok31 : env.ok 31 = true := rfl
theorem ok32 : env.ok 32 = true := rfl
theorem ok33 : env.ok 33 = true := rfl
theorem ok34 : env.ok 34 = true := rfl
theorem ok35 : env.ok 35 = true := rfl
theorem ok36 : env.ok 36 = true := rfl
theorem ok37 : env.ok 37 = true := rfl
theorem ok38 : env.ok 38 = true := rfl
theorem ok39 : env.ok 39 = true := rfl
theorem ok40 : env.ok 40 = true := rfl
theorem ok41 : env.ok 41 = true := rfl
theorem ok42 : env.ok 42 = true := rfl
theorem ok43 : env.ok 43 = true := rfl
theorem ok44 : env.ok 44 = true := rfl
theorem ok45 : env.ok 45 = true := rfl
theorem ok46 : env.ok 46 = true := rfl
theorem ok47 : env.ok 47 = true := rfl
theorem ok48 : env.ok 48 = true := rfl
theorem ok49 : env.ok 49 = true := rfl
theorem ok50 : env.ok 50 = true := rfl
theorem ok51 : env.ok 51 = true := rfl
theorem ok68 : env.ok 68 = true := rfl
theorem ok69 : env.ok 69 = true := rfl
theorem ok71 : env.ok 71 = true := rfl
theorem ok74 : env.ok 74 = true := rfl
theorem ok75 : env.ok 75 = true := rfl
theorem ok76 : env.ok 76 = true := rfl
theorem ok77 : env.ok 77 = true := rfl
theorem ok78 : env.ok 78 = true := rfl
theorem ok79 : env.ok 79 = true := rfl
theorem ok80 : env.ok 80 = true := rfl
theorem ok81 : env.ok 81 = true := rfl
theorem ok82 : env.ok 82 = true := rfl
theorem ok83 : env.ok 83 = true := rfl
theorem ok84 : env.ok 84 = true := rfl
theorem ok85 : env.ok 85 = true := rfl
theorem ok86 : env.ok 86 = true := rfl
theorem ok87 : env.ok 87 = true := rfl
theorem ok91 : env.ok 91 = true := rfl
theorem ok98 : env.ok 98 = true := rfl
theorem ok99 : env.ok 99 = true := rfl
theorem ok100 : env.ok 100 = true := rfl
theorem ok101 : env.ok 101 = true := rfl
theorem ok102 : env.ok 102 = true := rfl
theorem ok103 : env.ok 103 = true := rfl
theorem env_K : env.K = 3000000 := rfl
end W
end Go.Proofs.Yteendofaefgmiaa

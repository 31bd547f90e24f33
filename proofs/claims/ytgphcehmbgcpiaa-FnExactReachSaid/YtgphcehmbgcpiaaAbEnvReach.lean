/- The table of types of this translation, the functions that are run, and the checks that both are the program's. No conditions. -/
import Derived.Test.YtgphcehmbgcpiaaAbRep2
import Derived.Test.YtgphcehmbgcpiaaProg
set_option maxRecDepth 100000
namespace Go.Proofs.Ytgphcehmbgcpiaa
open Go Go.Ab
namespace W
def rows : List (Nat × TI) := [
  (2, ⟨1, 8, .int .i64, [.i .i64 0], false⟩),
  (3, ⟨1, 8, .int .i64, [.i .i64 0], false⟩),
  (4, ⟨1, 1, .bool, [.b false], false⟩),
  (5, ⟨1, 1, .int .u8, [.i .u8 0], false⟩),
  (9, ⟨1, 16, .str, [.s ByteArray.empty], false⟩),
  (12, ⟨1, 8, .int .u64, [.i .u64 0], false⟩),
  (21, ⟨1, 4, .int .i32, [.i .i32 0], false⟩),
  (22, ⟨1, 24, .slice 81, [.sl none 0], false⟩),
  (23, ⟨1, 24, .slice 84, [.sl none 0], false⟩),
  (25, ⟨2, 48, .struct [(0, 1), (1, 1)], [.sl none 0, .sl none 0], false⟩),
  (28, ⟨1, 24, .slice 50, [.sl none 0], false⟩),
  (29, ⟨1, 24, .slice 52, [.sl none 0], false⟩),
  (31, ⟨2, 48, .struct [(0, 1), (1, 1)], [.sl none 0, .sl none 0], false⟩),
  (38, ⟨1, 24, .slice 3, [.sl none 0], false⟩),
  (48, ⟨1, 24, .slice 61, [.sl none 0], false⟩),
  (50, ⟨2, 32, .struct [(0, 1), (1, 1)], [.i .i64 0, .sl none 0], false⟩),
  (52, ⟨4, 32, .struct [(0, 1), (1, 1), (2, 1), (3, 1)], [.i .i64 0, .i .i64 0, .i .i64 0, .i .i64 0], true⟩),
  (59, ⟨4, 32, .struct [(0, 1), (1, 1), (2, 1), (3, 1)], [.i .i64 0, .i .i64 0, .i .i64 0, .i .i64 0], true⟩),
  (61, ⟨11, 80, .struct [(0, 1), (1, 1), (2, 4), (6, 1), (7, 1), (8, 1), (9, 1), (10, 1)], [.b false, .b false, .i .i64 0, .i .i64 0, .i .i64 0, .i .i64 0, .i .i64 0, .i .i64 0, .i .i64 0, .i .i64 0, .b false], true⟩),
  (71, ⟨1, 24, .slice 4, [.sl none 0], false⟩),
  (79, ⟨1, 24, .slice 106, [.sl none 0], false⟩),
  (81, ⟨2, 32, .struct [(0, 1), (1, 1)], [.i .i64 0, .sl none 0], false⟩),
  (84, ⟨4, 32, .struct [(0, 1), (1, 1), (2, 1), (3, 1)], [.i .i64 0, .i .i64 0, .i .i64 0, .i .i64 0], true⟩),
  (87, ⟨1, 8, .other, [.p none], false⟩),
  (88, ⟨1, 24, .slice 90, [.sl none 0], false⟩),
  (90, ⟨2, 16, .struct [(0, 1), (1, 1)], [.i .i64 0, .i .i64 0], true⟩),
  (102, ⟨1, 8, .other, [.p none], false⟩),
  (104, ⟨4, 32, .struct [(0, 1), (1, 1), (2, 1), (3, 1)], [.i .i64 0, .i .i64 0, .i .i64 0, .i .i64 0], true⟩),
  (106, ⟨11, 80, .struct [(0, 1), (1, 1), (2, 4), (6, 1), (7, 1), (8, 1), (9, 1), (10, 1)], [.b false, .b false, .i .i64 0, .i .i64 0, .i .i64 0, .i .i64 0, .i .i64 0, .i .i64 0, .i .i64 0, .i .i64 0, .b false], true⟩),
  (117, ⟨1, 4, .int .u32, [.i .u32 0], false⟩),
  (121, ⟨1, 8, .other, [.p none], false⟩)]
def fns : List Nat := [9, 11, 13, 15, 16, 17, 18, 26, 27, 28, 29, 30, 31, 34, 35, 37, 38, 43, 44, 45, 46, 47, 48, 49, 50, 51, 52, 53, 54, 55, 56, 61, 62, 63, 64, 65, 66, 67, 68, 69, 70, 71, 72, 75, 76, 77, 78, 79, 80, 81, 82, 83, 85, 86, 87, 90, 91]
def wrs : List Nat := []
noncomputable def env : Env := { P := Try.prog, τ := tabOf rows, K := 3000000, wr := fun f => wrs.contains f, ok := fun f => fns.contains f }
theorem tab_ok : TabOk env.P env.τ := tabOk_of (by kernel_rfl)
theorem draws_ok : env.P.follows .mixedOrders = true := by kernel_rfl
theorem prog_ok : progB env fns = true := by kernel_rfl
theorem sound_all : CallOk env.P (run env) := sound_run fun d => sound draws_ok tab_ok fns (fun f h => by simpa [env] using h) prog_ok d
theorem env_P : env.P = Try.prog := rfl
@[simp] theorem ty2 : env.τ 2 = some ⟨1, 8, .int .i64, [.i .i64 0], false⟩ := rfl
@[simp] theorem ty3 : env.τ 3 = some ⟨1, 8, .int .i64, [.i .i64 0], false⟩ := rfl
@[simp] theorem ty4 : env.τ 4 = some ⟨1, 1, .bool, [.b false], false⟩ := rfl
@[simp] theorem ty5 : env.τ 5 = some ⟨1, 1, .int .u8, [.i .u8 0], false⟩ := rfl
@[simp] theorem ty9 : env.τ 9 = some ⟨1, 16, .str, [.s ByteArray.empty], false⟩ := rfl
@[simp] theorem ty12 : env.τ 12 = some ⟨1, 8, .int .u64, [.i .u64 0], false⟩ := rfl
@[simp] theorem ty21 : env.τ 21 = some ⟨1, 4, .int .i32, [.i .i32 0], false⟩ := rfl
@[simp] theorem ty22 : env.τ 22 = some ⟨1, 24, .slice 81, [.sl none 0], false⟩ := rfl
@[simp] theorem ty23 : env.τ 23 = some ⟨1, 24, .slice 84, [.sl none 0], false⟩ := rfl
@[simp] theorem ty25 : env.τ 25 = some ⟨2, 48, .struct [(0, 1), (1, 1)], [.sl none 0, .sl none 0], false⟩ := rfl
@[simp] theorem ty28 : env.τ 28 = some ⟨1, 24, .slice 50, [.sl none 0], false⟩ := rfl
@[simp] theorem ty29 : env.τ 29 = some ⟨1, 24, .slice 52, [.sl none 0], false⟩ := rfl
@[simp] theorem ty31 : env.τ 31 = some ⟨2, 48, .struct [(0, 1), (1, 1)], [.sl none 0, .sl none 0], false⟩ := rfl
@[simp] theorem ty38 : env.τ 38 = some ⟨1, 24, .slice 3, [.sl none 0], false⟩ := rfl
@[simp] theorem ty48 : env.τ 48 = some ⟨1, 24, .slice 61, [.sl none 0], false⟩ := rfl
@[simp] theorem ty50 : env.τ 50 = some ⟨2, 32, .struct [(0, 1), (1, 1)], [.i .i64 0, .sl none 0], false⟩ := rfl
@[simp] theorem ty52 : env.τ 52 = some ⟨4, 32, .struct [(0, 1), (1, 1), (2, 1), (3, 1)], [.i .i64 0, .i .i64 0, .i .i64 0, .i .i64 0], true⟩ := rfl
@[simp] theorem ty59 : env.τ 59 = some ⟨4, 32, .struct [(0, 1), (1, 1), (2, 1), (3, 1)], [.i .i64 0, .i .i64 0, .i .i64 0, .i .i64 0], true⟩ := rfl
@[simp] theorem ty61 : env.τ 61 = some ⟨11, 80, .struct [(0, 1), (1, 1), (2, 4), (6, 1), (7, 1), (8, 1), (9, 1), (10, 1)], [.b false, .b false, .i .i64 0, .i .i64 0, .i .i64 0, .i .i64 0, .i .i64 0, .i .i64 0, .i .i64 0, .i .i64 0, .b false], true⟩ := rfl
@[simp] theorem ty71 : env.τ 71 = some ⟨1, 24, .slice 4, [.sl none 0], false⟩ := rfl
@[simp] theorem ty79 : env.τ 79 = some ⟨1, 24, .slice 106, [.sl none 0], false⟩ := rfl
@[simp] theorem ty81 : env.τ 81 = some ⟨2, 32, .struct [(0, 1), (1, 1)], [.i .i64 0, .sl none 0], false⟩ := rfl
@[simp] theorem ty84 : env.τ 84 = some ⟨4, 32, .struct [(0, 1), (1, 1), (2, 1), (3, 1)], [.i .i64 0, .i .i64 0, .i .i64 0, .i .i64 0], true⟩ := rfl
@[simp] theorem ty87 : env.τ 87 = some ⟨1, 8, .other, [.p none], false⟩ := rfl
@[simp] theorem ty88 : env.τ 88 = some ⟨1, 24, .slice 90, [.sl none 0], false⟩ := rfl
@[simp] theorem ty90 : env.τ 90 = some ⟨2, 16, .struct [(0, 1), (1, 1)], [.i .i64 0, .i .i64 0], true⟩ := rfl
@[simp] theorem ty102 : env.τ 102 = some ⟨1, 8, .other, [.p none], false⟩ := rfl
@[simp] theorem ty104 : env.τ 104 = some ⟨4, 32, .struct [(0, 1), (1, 1), (2, 1), (3, 1)], [.i .i64 0, .i .i64 0, .i .i64 0, .i .i64 0], true⟩ := rfl
@[simp] theorem ty106 : env.τ 106 = some ⟨11, 80, .struct [(0, 1), (1, 1), (2, 4), (6, 1), (7, 1), (8, 1), (9, 1), (10, 1)], [.b false, .b false, .i .i64 0, .i .i64 0, .i .i64 0, .i .i64 0, .i .i64 0, .i .i64 0, .i .i64 0, .i .i64 0, .b false], true⟩ := rfl
@[simp] theorem ty117 : env.τ 117 = some ⟨1, 4, .int .u32, [.i .u32 0], false⟩ := rfl
@[simp] theorem ty121 : env.τ 121 = some ⟨1, 8, .other, [.p none], false⟩ := rfl
theorem ok9 : env.ok 9 = true := rfl
theorem ok11 : env.ok 11 = true := rfl
theorem ok13 : env.ok 13 = true := rfl
theorem ok15 : env.ok 15 = true := rfl
theorem ok16 : env.ok 16 = true := rfl
theorem ok17 : env.ok 17 = true := rfl
theorem ok18 : env.ok 18 = true := rfl
theorem ok26 : env.ok 26 = true := rfl
theorem ok27 : env.ok 27 = true := rfl
theorem ok28 : env.ok 28 = true := rfl
theorem ok29 : env.ok 29 = true := rfl
theorem ok30 : env.ok 30 = true := rfl
theorem ok31 : env.ok 31 = true := rfl
theorem ok34 : env.ok 34 = true := rfl
theorem ok35 : env.ok 35 = true := rfl
theorem ok37 : env.ok 37 = true := rfl
theorem ok38 : env.ok 38 = true := rfl
theorem ok43 : env.ok 43 = true := rfl
theorem ok44 : env.ok 44 = true := rfl
theorem ok45 : env.ok 45 = true := rfl
theorem ok46 : env.ok 46 = true := rfl
theorem ok47 : env.ok 47 = true := rfl
theorem ok48 : env.ok 48 = true := rfl
theorem ok49 : env.ok 49 = true := rfl
theorem ok50 : env.ok 50 = true := rfl
theorem ok51 : env.ok 51 = true := rfl
theorem ok52 : env.ok 52 = true := rfl
theorem ok53 : env.ok 53 = true := rfl
theorem ok54 : env.ok 54 = true := rfl
theorem ok55 : env.ok 55 = true := rfl
theorem ok56 : env.ok 56 = true := rfl
theorem ok61 : env.ok 61 = true := rfl
theorem ok62 : env.ok 62 = true := rfl
theorem ok63 : env.ok 63 = true := rfl
theorem ok64 : env.ok 64 = true := rfl
theorem ok65 : env.ok 65 = true := rfl
theorem ok66 : env.ok 66 = true := rfl
theorem ok67 : env.ok 67 = true := rfl
theorem ok68 : env.ok 68 = true := rfl
theorem ok69 : env.ok 69 = true := rfl
theorem ok70 : env.ok 70 = true := rfl
theorem ok71 : env.ok 71 = true := rfl
theorem ok72 : env.ok 72 = true := rfl
theorem ok75 : env.ok 75 = true := rfl
theorem ok76 : env.ok 76 = true := rfl
theorem ok77 : env.ok 77 = true := rfl
theorem ok78 : env.ok 78 = true := rfl
theorem ok79 : env.ok 79 = true := rfl
theorem ok80 : env.ok 80 = true := rfl
theorem ok81 : env.ok 81 = true := rfl
theorem ok82 : env.ok 82 = true := rfl
theorem ok83 : env.ok 83 = true := rfl
theorem ok85 : env.ok 85 = true := rfl
theorem ok86 : env.ok 86 = true := rfl
theorem ok87 : env.ok 87 = true := rfl
theorem ok90 : env.ok 90 = true := rfl
theorem ok91 : env.ok 91 = true := rfl
theorem env_K : env.K = 3000000 := rfl
end W
end Go.Proofs.Ytgphcehmbgcpiaa

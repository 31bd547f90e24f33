/- The table of types of this translation, the functions that are run, and the checks that both are the program's. No conditions. -/
import Derived.Test.YtiajpfbghkmiiaaAbShp
import Derived.Test.YtiajpfbghkmiiaaProg
set_option maxRecDepth 100000
namespace Go.Proofs.Ytiajpfbghkmiiaa
open Go Go.Ab
namespace W
def rows : List (Nat × TI) := [
  (2, ⟨1, 8, .int .i64, [.i .i64 0], false⟩),
  (3, ⟨1, 8, .int .i64, [.i .i64 0], false⟩),
  (4, ⟨1, 1, .bool, [.b false], false⟩),
  (5, ⟨1, 1, .int .u8, [.i .u8 0], false⟩),
  (9, ⟨1, 16, .str, [.s ByteArray.empty], false⟩),
  (12, ⟨1, 8, .int .u64, [.i .u64 0], false⟩),
  (21, ⟨1, 4, .int .i32, [.i .i32 0], false⟩),
  (22, ⟨1, 24, .slice 63, [.sl none 0], false⟩),
  (24, ⟨7, 72, .struct [(0, 1), (1, 1), (2, 1), (3, 1), (4, 1), (5, 1), (6, 1)], [.b false, .i .i64 0, .i .i64 0, .sl none 0, .i .i64 0, .i .i64 0, .i .i64 0], false⟩),
  (27, ⟨1, 24, .slice 68, [.sl none 0], false⟩),
  (29, ⟨7, 72, .struct [(0, 1), (1, 1), (2, 1), (3, 1), (4, 1), (5, 1), (6, 1)], [.b false, .i .i64 0, .i .i64 0, .sl none 0, .i .i64 0, .i .i64 0, .i .i64 0], false⟩),
  (33, ⟨1, 24, .slice 169, [.sl none 0], false⟩),
  (35, ⟨2, 32, .struct [(0, 1), (1, 1)], [.i .i64 0, .sl none 0], false⟩),
  (37, ⟨1, 24, .slice 4, [.sl none 0], false⟩),
  (39, ⟨1, 24, .slice 123, [.sl none 0], false⟩),
  (41, ⟨2, 32, .struct [(0, 1), (1, 1)], [.i .i64 0, .sl none 0], false⟩),
  (51, ⟨3, 24, .struct [(0, 1), (1, 1), (2, 1)], [.i .i64 0, .i .i64 0, .i .i64 0], true⟩),
  (53, ⟨3, 24, .struct [(0, 1), (1, 1), (2, 1)], [.i .i64 0, .i .i64 0, .i .i64 0], true⟩),
  (61, ⟨4, 32, .struct [(0, 1), (1, 1), (2, 1), (3, 1)], [.i .i64 0, .i .i64 0, .i .i64 0, .i .i64 0], true⟩),
  (63, ⟨8, 64, .struct [(0, 1), (1, 1), (2, 4), (6, 1), (7, 1)], [.i .i64 0, .i .i64 0, .i .i64 0, .i .i64 0, .i .i64 0, .i .i64 0, .i .i64 0, .b false], true⟩),
  (66, ⟨4, 32, .struct [(0, 1), (1, 1), (2, 1), (3, 1)], [.i .i64 0, .i .i64 0, .i .i64 0, .i .i64 0], true⟩),
  (68, ⟨8, 64, .struct [(0, 1), (1, 1), (2, 4), (6, 1), (7, 1)], [.i .i64 0, .i .i64 0, .i .i64 0, .i .i64 0, .i .i64 0, .i .i64 0, .i .i64 0, .b false], true⟩),
  (72, ⟨1, 24, .slice 24, [.sl none 0], false⟩),
  (73, ⟨1, 24, .slice 177, [.sl none 0], false⟩),
  (74, ⟨1, 24, .slice 182, [.sl none 0], false⟩),
  (76, ⟨10, 160, .struct [(0, 1), (1, 1), (2, 3), (5, 1), (6, 1), (7, 1), (8, 1), (9, 1)], [.i .i64 0, .i .i64 0, .i .i64 0, .i .i64 0, .i .i64 0, .sl none 0, .sl none 0, .sl none 0, .sl none 0, .sl none 0], false⟩),
  (79, ⟨1, 24, .slice 29, [.sl none 0], false⟩),
  (80, ⟨1, 24, .slice 174, [.sl none 0], false⟩),
  (81, ⟨1, 24, .slice 179, [.sl none 0], false⟩),
  (83, ⟨10, 160, .struct [(0, 1), (1, 1), (2, 3), (5, 1), (6, 1), (7, 1), (8, 1), (9, 1)], [.i .i64 0, .i .i64 0, .i .i64 0, .i .i64 0, .i .i64 0, .sl none 0, .sl none 0, .sl none 0, .sl none 0, .sl none 0], false⟩),
  (87, ⟨1, 24, .slice 35, [.sl none 0], false⟩),
  (88, ⟨1, 24, .slice 186, [.sl none 0], false⟩),
  (90, ⟨2, 48, .struct [(0, 1), (1, 1)], [.sl none 0, .sl none 0], false⟩),
  (93, ⟨1, 24, .slice 41, [.sl none 0], false⟩),
  (94, ⟨1, 24, .slice 146, [.sl none 0], false⟩),
  (96, ⟨2, 48, .struct [(0, 1), (1, 1)], [.sl none 0, .sl none 0], false⟩),
  (103, ⟨1, 24, .slice 5, [.sl none 0], false⟩),
  (123, ⟨11, 80, .struct [(0, 1), (1, 1), (2, 4), (6, 1), (7, 1), (8, 1), (9, 1), (10, 1)], [.b false, .b false, .i .i64 0, .i .i64 0, .i .i64 0, .i .i64 0, .i .i64 0, .i .i64 0, .i .i64 0, .i .i64 0, .b false], true⟩),
  (146, ⟨4, 32, .struct [(0, 1), (1, 1), (2, 1), (3, 1)], [.i .i64 0, .i .i64 0, .i .i64 0, .i .i64 0], true⟩),
  (157, ⟨1, 8, .other, [.p none], false⟩),
  (162, ⟨1, 24, .slice 3, [.sl none 0], false⟩),
  (169, ⟨11, 80, .struct [(0, 1), (1, 1), (2, 4), (6, 1), (7, 1), (8, 1), (9, 1), (10, 1)], [.b false, .b false, .i .i64 0, .i .i64 0, .i .i64 0, .i .i64 0, .i .i64 0, .i .i64 0, .i .i64 0, .i .i64 0, .b false], true⟩),
  (174, ⟨12, 96, .struct [(0, 1), (1, 1), (2, 1), (3, 1), (4, 8)], [.i .i64 0, .b false, .i .i64 0, .i .i64 0, .i .i64 0, .i .i64 0, .i .i64 0, .i .i64 0, .i .i64 0, .i .i64 0, .i .i64 0, .b false], true⟩),
  (177, ⟨12, 96, .struct [(0, 1), (1, 1), (2, 1), (3, 1), (4, 8)], [.i .i64 0, .b false, .i .i64 0, .i .i64 0, .i .i64 0, .i .i64 0, .i .i64 0, .i .i64 0, .i .i64 0, .i .i64 0, .i .i64 0, .b false], true⟩),
  (179, ⟨8, 64, .struct [(0, 1), (1, 1), (2, 4), (6, 1), (7, 1)], [.i .i64 0, .i .i64 0, .i .i64 0, .i .i64 0, .i .i64 0, .i .i64 0, .i .i64 0, .b false], true⟩),
  (182, ⟨8, 64, .struct [(0, 1), (1, 1), (2, 4), (6, 1), (7, 1)], [.i .i64 0, .i .i64 0, .i .i64 0, .i .i64 0, .i .i64 0, .i .i64 0, .i .i64 0, .b false], true⟩),
  (186, ⟨4, 32, .struct [(0, 1), (1, 1), (2, 1), (3, 1)], [.i .i64 0, .i .i64 0, .i .i64 0, .i .i64 0], true⟩),
  (189, ⟨1, 8, .other, [.p none], false⟩),
  (190, ⟨1, 24, .slice 192, [.sl none 0], false⟩),
  (192, ⟨2, 16, .struct [(0, 1), (1, 1)], [.i .i64 0, .i .i64 0], true⟩),
  (198, ⟨3, 40, .struct [(0, 1), (1, 1), (2, 1)], [.sl none 0, .i .i64 0, .i .i64 0], false⟩),
  (206, ⟨1, 24, .slice 214, [.sl none 0], false⟩),
  (209, ⟨1, 8, .int .u64, [.i .u64 0], false⟩),
  (214, ⟨10, 80, .struct [(0, 1), (1, 1), (2, 8)], [.i .i64 0, .i .i64 0, .i .i64 0, .i .i64 0, .i .i64 0, .i .i64 0, .i .i64 0, .i .i64 0, .i .i64 0, .b false], true⟩),
  (248, ⟨1, 4, .int .u32, [.i .u32 0], false⟩),
  (252, ⟨1, 8, .other, [.p none], false⟩)]
def fns : List Nat := [3, 15, 16, 17, 18, 19, 38, 69, 70, 71, 82, 124, 146]
def wrs : List Nat := []
noncomputable def env : Env := { P := Try.prog, τ := tabOf rows, K := 3000000, wr := fun f => wrs.contains f, ok := fun f => fns.contains f }
theorem tab_ok : TabOk env.P env.τ := tabOk_of (by kernel_rfl)
theorem draws_ok : env.P.follows .mixedOrders = true := by kernel_rfl
theorem prog_ok : progB env fns = true := by kernel_rfl
theorem sound_all : CallOk env.P (run env) := sound_run fun d => sound draws_ok tab_ok fns (fun f h => by simpa [env] using h) prog_ok d
theorem env_P : env.P = Try.prog := rfl
@[simp] theorem ty2 : env.τ 2 = some ⟨1, 8, .int .i64, [.i .i64 0], false⟩ := rfl
@[simp] theorem ty3 : env.τ 3 = some ⟨1, 8, .int .i64, [.i .i64 0], false⟩ := rfl
@[simp] theorem ty4 : env.τ 4 = some ⟨1, 1, .bool, [.b false], false⟩ := rfl
@[simp] theorem ty5 : env.τ 5 = some ⟨1, 1, .int .u8, [.i .u8 0], false⟩ := rfl
@[simp] theorem ty9 : env.τ 9 = some ⟨1, 16, .str, [.s ByteArray.empty], false⟩ := rfl
@[simp] theorem ty12 : env.τ 12 = some ⟨1, 8, .int .u64, [.i .u64 0], false⟩ := rfl
@[simp] theorem ty21 : env.τ 21 = some ⟨1, 4, .int .i32, [.i .i32 0], false⟩ := rfl
@[simp] theorem ty22 : env.τ 22 = some ⟨1, 24, .slice 63, [.sl none 0], false⟩ := rfl
@[simp] theorem ty24 : env.τ 24 = some ⟨7, 72, .struct [(0, 1), (1, 1), (2, 1), (3, 1), (4, 1), (5, 1), (6, 1)], [.b false, .i .i64 0, .i .i64 0, .sl none 0, .i .i64 0, .i .i64 0, .i .i64 0], false⟩ := rfl
@[simp] theorem ty27 : env.τ 27 = some ⟨1, 24, .slice 68, [.sl none 0], false⟩ := rfl
@[simp] theorem ty29 : env.τ 29 = some ⟨7, 72, .struct [(0, 1), (1, 1), (2, 1), (3, 1), (4, 1), (5, 1), (6, 1)], [.b false, .i .i64 0, .i .i64 0, .sl none 0, .i .i64 0, .i .i64 0, .i .i64 0], false⟩ := rfl
@[simp] theorem ty33 : env.τ 33 = some ⟨1, 24, .slice 169, [.sl none 0], false⟩ := rfl
@[simp] theorem ty35 : env.τ 35 = some ⟨2, 32, .struct [(0, 1), (1, 1)], [.i .i64 0, .sl none 0], false⟩ := rfl
@[simp] theorem ty37 : env.τ 37 = some ⟨1, 24, .slice 4, [.sl none 0], false⟩ := rfl
@[simp] theorem ty39 : env.τ 39 = some ⟨1, 24, .slice 123, [.sl none 0], false⟩ := rfl
@[simp] theorem ty41 : env.τ 41 = some ⟨2, 32, .struct [(0, 1), (1, 1)], [.i .i64 0, .sl none 0], false⟩ := rfl
@[simp] theorem ty51 : env.τ 51 = some ⟨3, 24, .struct [(0, 1), (1, 1), (2, 1)], [.i .i64 0, .i .i64 0, .i .i64 0], true⟩ := rfl
@[simp] theorem ty53 : env.τ 53 = some ⟨3, 24, .struct [(0, 1), (1, 1), (2, 1)], [.i .i64 0, .i .i64 0, .i .i64 0], true⟩ := rfl
@[simp] theorem ty61 : env.τ 61 = some ⟨4, 32, .struct [(0, 1), (1, 1), (2, 1), (3, 1)], [.i .i64 0, .i .i64 0, .i .i64 0, .i .i64 0], true⟩ := rfl
@[simp] theorem ty63 : env.τ 63 = some ⟨8, 64, .struct [(0, 1), (1, 1), (2, 4), (6, 1), (7, 1)], [.i .i64 0, .i .i64 0, .i .i64 0, .i .i64 0, .i .i64 0, .i .i64 0, .i .i64 0, .b false], true⟩ := rfl
@[simp] theorem ty66 : env.τ 66 = some ⟨4, 32, .struct [(0, 1), (1, 1), (2, 1), (3, 1)], [.i .i64 0, .i .i64 0, .i .i64 0, .i .i64 0], true⟩ := rfl
@[simp] theorem ty68 : env.τ 68 = some ⟨8, 64, .struct [(0, 1), (1, 1), (2, 4), (6, 1), (7, 1)], [.i .i64 0, .i .i64 0, .i .i64 0, .i .i64 0, .i .i64 0, .i .i64 0, .i .i64 0, .b false], true⟩ := rfl
@[simp] theorem ty72 : env.τ 72 = some ⟨1, 24, .slice 24, [.sl none 0], false⟩ := rfl
@[simp] theorem ty73 : env.τ 73 = some ⟨1, 24, .slice 177, [.sl none 0], false⟩ := rfl
@[simp] theorem ty74 : env.τ 74 = some ⟨1, 24, .slice 182, [.sl none 0], false⟩ := rfl
@[simp] theorem ty76 : env.τ 76 = some ⟨10, 160, .struct [(0, 1), (1, 1), (2, 3), (5, 1), (6, 1), (7, 1), (8, 1), (9, 1)], [.i .i64 0, .i .i64 0, .i .i64 0, .i .i64 0, .i .i64 0, .sl none 0, .sl none 0, .sl none 0, .sl none 0, .sl none 0], false⟩ := rfl
@[simp] theorem ty79 : env.τ 79 = some ⟨1, 24, .slice 29, [.sl none 0], false⟩ := rfl
@[simp] theorem ty80 : env.τ 80 = some ⟨1, 24, .slice 174, [.sl none 0], false⟩ := rfl
@[simp] theorem ty81 : env.τ 81 = some ⟨1, 24, .slice 179, [.sl none 0], false⟩ := rfl
@[simp] theorem ty83 : env.τ 83 = some ⟨10, 160, .struct [(0, 1), (1, 1), (2, 3), (5, 1), (6, 1), (7, 1), (8, 1), (9, 1)], [.i .i64 0, .i .i64 0, .i .i64 0, .i .i64 0, .i .i64 0, .sl none 0, .sl none 0, .sl none 0, .sl none 0, .sl none 0], false⟩ := rfl
@[simp] theorem ty87 : env.τ 87 = some ⟨1, 24, .slice 35, [.sl none 0], false⟩ := rfl
@[simp] theorem ty88 : env.τ 88 = some ⟨1, 24, .slice 186, [.sl none 0], false⟩ := rfl
@[simp] theorem ty90 : env.τ 90 = some ⟨2, 48, .struct [(0, 1), (1, 1)], [.sl none 0, .sl none 0], false⟩ := rfl
@[simp] theorem ty93 : env.τ 93 = some ⟨1, 24, .slice 41, [.sl none 0], false⟩ := rfl
@[simp] theorem ty94 : env.τ 94 = some ⟨1, 24, .slice 146, [.sl none 0], false⟩ := rfl
@[simp] theorem ty96 : env.τ 96 = some ⟨2, 48, .struct [(0, 1), (1, 1)], [.sl none 0, .sl none 0], false⟩ := rfl
@[simp] theorem ty103 : env.τ 103 = some ⟨1, 24, .slice 5, [.sl none 0], false⟩ := rfl
@[simp] theorem ty123 : env.τ 123 = some ⟨11, 80, .struct [(0, 1), (1, 1), (2, 4), (6, 1), (7, 1), (8, 1), (9, 1), (10, 1)], [.b false, .b false, .i .i64 0, .i .i64 0, .i .i64 0, .i .i64 0, .i .i64 0, .i .i64 0, .i .i64 0, .i .i64 0, .b false], true⟩ := rfl
@[simp] theorem ty146 : env.τ 146 = some ⟨4, 32, .struct [(0, 1), (1, 1), (2, 1), (3, 1)], [.i .i64 0, .i .i64 0, .i .i64 0, .i .i64 0], true⟩ := rfl
@[simp] theorem ty157 : env.τ 157 = some ⟨1, 8, .other, [.p none], false⟩ := rfl
@[simp] theorem ty162 : env.τ 162 = some ⟨1, 24, .slice 3, [.sl none 0], false⟩ := rfl
@[simp] theorem ty169 : env.τ 169 = some ⟨11, 80, .struct [(0, 1), (1, 1), (2, 4), (6, 1), (7, 1), (8, 1), (9, 1), (10, 1)], [.b false, .b false, .i .i64 0, .i .i64 0, .i .i64 0, .i .i64 0, .i .i64 0, .i .i64 0, .i .i64 0, .i .i64 0, .b false], true⟩ := rfl
@[simp] theorem ty174 : env.τ 174 = some ⟨12, 96, .struct [(0, 1), (1, 1), (2, 1), (3, 1), (4, 8)], [.i .i64 0, .b false, .i .i64 0, .i .i64 0, .i .i64 0, .i .i64 0, .i .i64 0, .i .i64 0, .i .i64 0, .i .i64 0, .i .i64 0, .b false], true⟩ := rfl
@[simp] theorem ty177 : env.τ 177 = some ⟨12, 96, .struct [(0, 1), (1, 1), (2, 1), (3, 1), (4, 8)], [.i .i64 0, .b false, .i .i64 0, .i .i64 0, .i .i64 0, .i .i64 0, .i .i64 0, .i .i64 0, .i .i64 0, .i .i64 0, .i .i64 0, .b false], true⟩ := rfl
@[simp] theorem ty179 : env.τ 179 = some ⟨8, 64, .struct [(0, 1), (1, 1), (2, 4), (6, 1), (7, 1)], [.i .i64 0, .i .i64 0, .i .i64 0, .i .i64 0, .i .i64 0, .i .i64 0, .i .i64 0, .b false], true⟩ := rfl
@[simp] theorem ty182 : env.τ 182 = some ⟨8, 64, .struct [(0, 1), (1, 1), (2, 4), (6, 1), (7, 1)], [.i .i64 0, .i .i64 0, .i .i64 0, .i .i64 0, .i .i64 0, .i .i64 0, .i .i64 0, .b false], true⟩ := rfl
@[simp] theorem ty186 : env.τ 186 = some ⟨4, 32, .struct [(0, 1), (1, 1), (2, 1), (3, 1)], [.i .i64 0, .i .i64 0, .i .i64 0, .i .i64 0], true⟩ := rfl
@[simp] theorem ty189 : env.τ 189 = some ⟨1, 8, .other, [.p none], false⟩ := rfl
@[simp] theorem ty190 : env.τ 190 = some ⟨1, 24, .slice 192, [.sl none 0], false⟩ := rfl
@[simp] theorem ty192 : env.τ 192 = some ⟨2, 16, .struct [(0, 1), (1, 1)], [.i .i64 0, .i .i64 0], true⟩ := rfl
@[simp] theorem ty198 : env.τ 198 = some ⟨3, 40, .struct [(0, 1), (1, 1), (2, 1)], [.sl none 0, .i .i64 0, .i .i64 0], false⟩ := rfl
@[simp] theorem ty206 : env.τ 206 = some ⟨1, 24, .slice 214, [.sl none 0], false⟩ := rfl
@[simp] theorem ty209 : env.τ 209 = some ⟨1, 8, .int .u64, [.i .u64 0], false⟩ := rfl
@[simp] theorem ty214 : env.τ 214 = some ⟨10, 80, .struct [(0, 1), (1, 1), (2, 8)], [.i .i64 0, .i .i64 0, .i .i64 0, .i .i64 0, .i .i64 0, .i .i64 0, .i .i64 0, .i .i64 0, .i .i64 0, .b false], true⟩ := rfl
@[simp] theorem ty248 : env.τ 248 = some ⟨1, 4, .int .u32, [.i .u32 0], false⟩ := rfl
@[simp] theorem ty252 : env.τ 252 = some ⟨1, 8, .other, [.p none], false⟩ := rfl
theorem ok3 : env.ok 3 = true := rfl
theorem ok15 : env.ok 15 = true := rfl
theorem ok16 : env.ok 16 = true := rfl
theorem ok17 : env.ok 17 = true := rfl
theorem ok18 : env.ok 18 = true := rfl
theorem ok19 : env.ok 19 = true := rfl
theorem ok38 : env.ok 38 = true := rfl
theorem ok69 : env.ok 69 = true := rfl
theorem ok70 : env.ok 70 = true := rfl
theorem ok71 : env.ok 71 = true := rfl
theorem ok82 : env.ok 82 = true := rfl
theorem ok124 : env.ok 124 = true := rfl
theorem ok146 : env.ok 146 = true := rfl
theorem env_K : env.K = 3000000 := rfl
end W
end Go.Proofs.Ytiajpfbghkmiiaa

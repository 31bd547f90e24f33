/- The table of types of this translation, the functions that are run, and the checks that both are the program's. No conditions. -/
import Derived.Test.YtjbjpdifgfnaeaaAbRep2
import Derived.Test.YtjbjpdifgfnaeaaProg
set_option maxRecDepth 100000
namespace Go.Proofs.Ytjbjpdifgfnaeaa
open Go Go.Ab
namespace W
def rows : List (Nat × TI) := [
  (2, ⟨1, 8, .int .i64, [.i .i64 0], false⟩),
  (3, ⟨1, 8, .int .i64, [.i .i64 0], false⟩),
  (4, ⟨1, 1, .bool, [.b false], false⟩),
  (5, ⟨1, 1, .int .u8, [.i .u8 0], false⟩),
  (9, ⟨1, 16, .str, [.s ByteArray.empty], false⟩),
  (12, ⟨1, 8, .int .u64, [.i .u64 0], false⟩),
  (21, ⟨1, 4, .int .i32, [.i .i32 0], false⟩),
  (22, ⟨1, 24, .slice 143, [.sl none 0], false⟩),
  (23, ⟨1, 24, .slice 152, [.sl none 0], false⟩),
  (25, ⟨2, 48, .struct [(0, 1), (1, 1)], [.sl none 0, .sl none 0], false⟩),
  (28, ⟨1, 24, .slice 74, [.sl none 0], false⟩),
  (29, ⟨1, 24, .slice 92, [.sl none 0], false⟩),
  (31, ⟨2, 48, .struct [(0, 1), (1, 1)], [.sl none 0, .sl none 0], false⟩),
  (36, ⟨3, 24, .struct [(0, 1), (1, 1), (2, 1)], [.i .i64 0, .i .i64 0, .i .i64 0], true⟩),
  (37, ⟨1, 24, .slice 98, [.sl none 0], false⟩),
  (38, ⟨1, 24, .slice 163, [.sl none 0], false⟩),
  (39, ⟨1, 24, .slice 4, [.sl none 0], false⟩),
  (40, ⟨1, 24, .slice 133, [.sl none 0], false⟩),
  (41, ⟨1, 24, .slice 113, [.sl none 0], false⟩),
  (43, ⟨10, 160, .struct [(0, 1), (1, 1), (2, 3), (5, 1), (6, 1), (7, 1), (8, 1), (9, 1)], [.i .i64 0, .i .i64 0, .i .i64 0, .i .i64 0, .i .i64 0, .sl none 0, .sl none 0, .sl none 0, .sl none 0, .sl none 0], false⟩),
  (49, ⟨3, 24, .struct [(0, 1), (1, 1), (2, 1)], [.i .i64 0, .i .i64 0, .i .i64 0], true⟩),
  (50, ⟨1, 24, .slice 166, [.sl none 0], false⟩),
  (51, ⟨1, 24, .slice 171, [.sl none 0], false⟩),
  (52, ⟨1, 24, .slice 136, [.sl none 0], false⟩),
  (53, ⟨1, 24, .slice 122, [.sl none 0], false⟩),
  (55, ⟨10, 160, .struct [(0, 1), (1, 1), (2, 3), (5, 1), (6, 1), (7, 1), (8, 1), (9, 1)], [.i .i64 0, .i .i64 0, .i .i64 0, .i .i64 0, .i .i64 0, .sl none 0, .sl none 0, .sl none 0, .sl none 0, .sl none 0], false⟩),
  (72, ⟨1, 24, .slice 148, [.sl none 0], false⟩),
  (74, ⟨2, 32, .struct [(0, 1), (1, 1)], [.i .i64 0, .sl none 0], false⟩),
  (81, ⟨1, 24, .slice 3, [.sl none 0], false⟩),
  (92, ⟨4, 32, .struct [(0, 1), (1, 1), (2, 1), (3, 1)], [.i .i64 0, .i .i64 0, .i .i64 0, .i .i64 0], true⟩),
  (98, ⟨7, 72, .struct [(0, 1), (1, 1), (2, 1), (3, 1), (4, 1), (5, 1), (6, 1)], [.b false, .i .i64 0, .i .i64 0, .sl none 0, .i .i64 0, .i .i64 0, .i .i64 0], false⟩),
  (111, ⟨4, 32, .struct [(0, 1), (1, 1), (2, 1), (3, 1)], [.i .i64 0, .i .i64 0, .i .i64 0, .i .i64 0], true⟩),
  (113, ⟨8, 64, .struct [(0, 1), (1, 1), (2, 4), (6, 1), (7, 1)], [.i .i64 0, .i .i64 0, .i .i64 0, .i .i64 0, .i .i64 0, .i .i64 0, .i .i64 0, .b false], true⟩),
  (120, ⟨4, 32, .struct [(0, 1), (1, 1), (2, 1), (3, 1)], [.i .i64 0, .i .i64 0, .i .i64 0, .i .i64 0], true⟩),
  (122, ⟨8, 64, .struct [(0, 1), (1, 1), (2, 4), (6, 1), (7, 1)], [.i .i64 0, .i .i64 0, .i .i64 0, .i .i64 0, .i .i64 0, .i .i64 0, .i .i64 0, .b false], true⟩),
  (133, ⟨8, 64, .struct [(0, 1), (1, 1), (2, 4), (6, 1), (7, 1)], [.i .i64 0, .i .i64 0, .i .i64 0, .i .i64 0, .i .i64 0, .i .i64 0, .i .i64 0, .b false], true⟩),
  (136, ⟨8, 64, .struct [(0, 1), (1, 1), (2, 4), (6, 1), (7, 1)], [.i .i64 0, .i .i64 0, .i .i64 0, .i .i64 0, .i .i64 0, .i .i64 0, .i .i64 0, .b false], true⟩),
  (141, ⟨1, 24, .slice 205, [.sl none 0], false⟩),
  (143, ⟨2, 32, .struct [(0, 1), (1, 1)], [.i .i64 0, .sl none 0], false⟩),
  (148, ⟨11, 80, .struct [(0, 1), (1, 1), (2, 4), (6, 1), (7, 1), (8, 1), (9, 1), (10, 1)], [.b false, .b false, .i .i64 0, .i .i64 0, .i .i64 0, .i .i64 0, .i .i64 0, .i .i64 0, .i .i64 0, .i .i64 0, .b false], true⟩),
  (152, ⟨4, 32, .struct [(0, 1), (1, 1), (2, 1), (3, 1)], [.i .i64 0, .i .i64 0, .i .i64 0, .i .i64 0], true⟩),
  (153, ⟨1, 8, .other, [.p none], false⟩),
  (163, ⟨12, 96, .struct [(0, 1), (1, 1), (2, 1), (3, 1), (4, 8)], [.i .i64 0, .b false, .i .i64 0, .i .i64 0, .i .i64 0, .i .i64 0, .i .i64 0, .i .i64 0, .i .i64 0, .i .i64 0, .i .i64 0, .b false], true⟩),
  (166, ⟨7, 72, .struct [(0, 1), (1, 1), (2, 1), (3, 1), (4, 1), (5, 1), (6, 1)], [.b false, .i .i64 0, .i .i64 0, .sl none 0, .i .i64 0, .i .i64 0, .i .i64 0], false⟩),
  (171, ⟨12, 96, .struct [(0, 1), (1, 1), (2, 1), (3, 1), (4, 8)], [.i .i64 0, .b false, .i .i64 0, .i .i64 0, .i .i64 0, .i .i64 0, .i .i64 0, .i .i64 0, .i .i64 0, .i .i64 0, .i .i64 0, .b false], true⟩),
  (176, ⟨1, 8, .other, [.p none], false⟩),
  (189, ⟨1, 24, .slice 191, [.sl none 0], false⟩),
  (191, ⟨2, 16, .struct [(0, 1), (1, 1)], [.i .i64 0, .i .i64 0], true⟩),
  (200, ⟨1, 8, .other, [.p none], false⟩),
  (201, ⟨1, 8, .other, [.p none], false⟩),
  (205, ⟨11, 80, .struct [(0, 1), (1, 1), (2, 4), (6, 1), (7, 1), (8, 1), (9, 1), (10, 1)], [.b false, .b false, .i .i64 0, .i .i64 0, .i .i64 0, .i .i64 0, .i .i64 0, .i .i64 0, .i .i64 0, .i .i64 0, .b false], true⟩),
  (215, ⟨1, 4, .int .u32, [.i .u32 0], false⟩),
  (219, ⟨1, 8, .other, [.p none], false⟩)]
def fns : List Nat := [5, 11, 12, 13, 14, 15, 16, 17, 18, 19, 44, 47, 48, 49, 50, 51, 52, 53, 54, 55, 56, 57, 58, 59, 60, 61, 62, 63, 84, 91, 106, 109, 110, 111, 112, 113, 114, 115, 116, 117, 118, 119, 120, 133, 142, 154, 155, 156, 157, 158, 159, 160, 161, 162, 163, 166, 171, 172, 173, 179, 180, 181, 182, 188, 189, 190]
def wrs : List Nat := []
noncomputable def env : Env := { P := Try.prog, τ := tabOf rows, K := 3000000, wr := fun f => wrs.contains f, ok := fun f => fns.contains f }
theorem tab_ok : TabOk env.P env.τ := tabOk_of (by kernel_rfl)
theorem draws_ok : env.P.follows .mixedOrders = true := by kernel_rfl
theorem prog_ok : progB env fns = true := by kernel_rfl
theorem sound_all : CallOk env.P (run env) := sound_run fun d => sound draws_ok tab_ok fns (fun f h => by simpa [env] using h) prog_ok d
theorem env_P : env.P = Try.prog := rfl
@[simp] theorem ty2 : env.τ 2 = some ⟨1, 8, .int .i64, [.i .i64 0], false⟩ := rfl
@[simp] theorem ty3 : env.τ 3 = some ⟨1, 8, .int .i64, [.i .i64 0], false⟩ := rfl
@[simp] theorem ty4 : env.τ 4 = some ⟨1, 1, .bool, [.b false], false⟩ := rfl
@[simp] theorem ty5 : env.τ 5 = some ⟨1, 1, .int .u8, [.i .u8 0], false⟩ := rfl
@[simp] theorem ty9 : env.τ 9 = some ⟨1, 16, .str, [.s ByteArray.empty], false⟩ := rfl
@[simp] theorem ty12 : env.τ 12 = some ⟨1, 8, .int .u64, [.i .u64 0], false⟩ := rfl
@[simp] theorem ty21 : env.τ 21 = some ⟨1, 4, .int .i32, [.i .i32 0], false⟩ := rfl
@[simp] theorem ty22 : env.τ 22 = some ⟨1, 24, .slice 143, [.sl none 0], false⟩ := rfl
@[simp] theorem ty23 : env.τ 23 = some ⟨1, 24, .slice 152, [.sl none 0], false⟩ := rfl
@[simp] theorem ty25 : env.τ 25 = some ⟨2, 48, .struct [(0, 1), (1, 1)], [.sl none 0, .sl none 0], false⟩ := rfl
@[simp] theorem ty28 : env.τ 28 = some ⟨1, 24, .slice 74, [.sl none 0], false⟩ := rfl
@[simp] theorem ty29 : env.τ 29 = some ⟨1, 24, .slice 92, [.sl none 0], false⟩ := rfl
@[simp] theorem ty31 : env.τ 31 = some ⟨2, 48, .struct [(0, 1), (1, 1)], [.sl none 0, .sl none 0], false⟩ := rfl
@[simp] theorem ty36 : env.τ 36 = some ⟨3, 24, .struct [(0, 1), (1, 1), (2, 1)], [.i .i64 0, .i .i64 0, .i .i64 0], true⟩ := rfl
@[simp] theorem ty37 : env.τ 37 = some ⟨1, 24, .slice 98, [.sl none 0], false⟩ := rfl
@[simp] theorem ty38 : env.τ 38 = some ⟨1, 24, .slice 163, [.sl none 0], false⟩ := rfl
@[simp] theorem ty39 : env.τ 39 = some ⟨1, 24, .slice 4, [.sl none 0], false⟩ := rfl
@[simp] theorem ty40 : env.τ 40 = some ⟨1, 24, .slice 133, [.sl none 0], false⟩ := rfl
@[simp] theorem ty41 : env.τ 41 = some ⟨1, 24, .slice 113, [.sl none 0], false⟩ := rfl
@[simp] theorem ty43 : env.τ 43 = some ⟨10, 160, .struct [(0, 1), (1, 1), (2, 3), (5, 1), (6, 1), (7, 1), (8, 1), (9, 1)], [.i .i64 0, .i .i64 0, .i .i64 0, .i .i64 0, .i .i64 0, .sl none 0, .sl none 0, .sl none 0, .sl none 0, .sl none 0], false⟩ := rfl
@[simp] theorem ty49 : env.τ 49 = some ⟨3, 24, .struct [(0, 1), (1, 1), (2, 1)], [.i .i64 0, .i .i64 0, .i .i64 0], true⟩ := rfl
@[simp] theorem ty50 : env.τ 50 = some ⟨1, 24, .slice 166, [.sl none 0], false⟩ := rfl
@[simp] theorem ty51 : env.τ 51 = some ⟨1, 24, .slice 171, [.sl none 0], false⟩ := rfl
@[simp] theorem ty52 : env.τ 52 = some ⟨1, 24, .slice 136, [.sl none 0], false⟩ := rfl
@[simp] theorem ty53 : env.τ 53 = some ⟨1, 24, .slice 122, [.sl none 0], false⟩ := rfl
@[simp] theorem ty55 : env.τ 55 = some ⟨10, 160, .struct [(0, 1), (1, 1), (2, 3), (5, 1), (6, 1), (7, 1), (8, 1), (9, 1)], [.i .i64 0, .i .i64 0, .i .i64 0, .i .i64 0, .i .i64 0, .sl none 0, .sl none 0, .sl none 0, .sl none 0, .sl none 0], false⟩ := rfl
@[simp] theorem ty72 : env.τ 72 = some ⟨1, 24, .slice 148, [.sl none 0], false⟩ := rfl
@[simp] theorem ty74 : env.τ 74 = some ⟨2, 32, .struct [(0, 1), (1, 1)], [.i .i64 0, .sl none 0], false⟩ := rfl
@[simp] theorem ty81 : env.τ 81 = some ⟨1, 24, .slice 3, [.sl none 0], false⟩ := rfl
@[simp] theorem ty92 : env.τ 92 = some ⟨4, 32, .struct [(0, 1), (1, 1), (2, 1), (3, 1)], [.i .i64 0, .i .i64 0, .i .i64 0, .i .i64 0], true⟩ := rfl
@[simp] theorem ty98 : env.τ 98 = some ⟨7, 72, .struct [(0, 1), (1, 1), (2, 1), (3, 1), (4, 1), (5, 1), (6, 1)], [.b false, .i .i64 0, .i .i64 0, .sl none 0, .i .i64 0, .i .i64 0, .i .i64 0], false⟩ := rfl
@[simp] theorem ty111 : env.τ 111 = some ⟨4, 32, .struct [(0, 1), (1, 1), (2, 1), (3, 1)], [.i .i64 0, .i .i64 0, .i .i64 0, .i .i64 0], true⟩ := rfl
@[simp] theorem ty113 : env.τ 113 = some ⟨8, 64, .struct [(0, 1), (1, 1), (2, 4), (6, 1), (7, 1)], [.i .i64 0, .i .i64 0, .i .i64 0, .i .i64 0, .i .i64 0, .i .i64 0, .i .i64 0, .b false], true⟩ := rfl
@[simp] theorem ty120 : env.τ 120 = some ⟨4, 32, .struct [(0, 1), (1, 1), (2, 1), (3, 1)], [.i .i64 0, .i .i64 0, .i .i64 0, .i .i64 0], true⟩ := rfl
@[simp] theorem ty122 : env.τ 122 = some ⟨8, 64, .struct [(0, 1), (1, 1), (2, 4), (6, 1), (7, 1)], [.i .i64 0, .i .i64 0, .i .i64 0, .i .i64 0, .i .i64 0, .i .i64 0, .i .i64 0, .b false], true⟩ := rfl
@[simp] theorem ty133 : env.τ 133 = some ⟨8, 64, .struct [(0, 1), (1, 1), (2, 4), (6, 1), (7, 1)], [.i .i64 0, .i .i64 0, .i .i64 0, .i .i64 0, .i .i64 0, .i .i64 0, .i .i64 0, .b false], true⟩ := rfl
@[simp] theorem ty136 : env.τ 136 = some ⟨8, 64, .struct [(0, 1), (1, 1), (2, 4), (6, 1), (7, 1)], [.i .i64 0, .i .i64 0, .i .i64 0, .i .i64 0, .i .i64 0, .i .i64 0, .i .i64 0, .b false], true⟩ := rfl
@[simp] theorem ty141 : env.τ 141 = some ⟨1, 24, .slice 205, [.sl none 0], false⟩ := rfl
@[simp] theorem ty143 : env.τ 143 = some ⟨2, 32, .struct [(0, 1), (1, 1)], [.i .i64 0, .sl none 0], false⟩ := rfl
@[simp] theorem ty148 : env.τ 148 = some ⟨11, 80, .struct [(0, 1), (1, 1), (2, 4), (6, 1), (7, 1), (8, 1), (9, 1), (10, 1)], [.b false, .b false, .i .i64 0, .i .i64 0, .i .i64 0, .i .i64 0, .i .i64 0, .i .i64 0, .i .i64 0, .i .i64 0, .b false], true⟩ := rfl
@[simp] theorem ty152 : env.τ 152 = some ⟨4, 32, .struct [(0, 1), (1, 1), (2, 1), (3, 1)], [.i .i64 0, .i .i64 0, .i .i64 0, .i .i64 0], true⟩ := rfl
@[simp] theorem ty153 : env.τ 153 = some ⟨1, 8, .other, [.p none], false⟩ := rfl
@[simp] theorem ty163 : env.τ 163 = some ⟨12, 96, .struct [(0, 1), (1, 1), (2, 1), (3, 1), (4, 8)], [.i .i64 0, .b false, .i .i64 0, .i .i64 0, .i .i64 0, .i .i64 0, .i .i64 0, .i .i64 0, .i .i64 0, .i .i64 0, .i .i64 0, .b false], true⟩ := rfl
@[simp] theorem ty166 : env.τ 166 = some ⟨7, 72, .struct [(0, 1), (1, 1), (2, 1), (3, 1), (4, 1), (5, 1), (6, 1)], [.b false, .i .i64 0, .i .i64 0, .sl none 0, .i .i64 0, .i .i64 0, .i .i64 0], false⟩ := rfl
@[simp] theorem ty171 : env.τ 171 = some ⟨12, 96, .struct [(0, 1), (1, 1), (2, 1), (3, 1), (4, 8)], [.i .i64 0, .b false, .i .i64 0, .i .i64 0, .i .i64 0, .i .i64 0, .i .i64 0, .i .i64 0, .i .i64 0, .i .i64 0, .i .i64 0, .b false], true⟩ := rfl
@[simp] theorem ty176 : env.τ 176 = some ⟨1, 8, .other, [.p none], false⟩ := rfl
@[simp] theorem ty189 : env.τ 189 = some ⟨1, 24, .slice 191, [.sl none 0], false⟩ := rfl
@[simp] theorem ty191 : env.τ 191 = some ⟨2, 16, .struct [(0, 1), (1, 1)], [.i .i64 0, .i .i64 0], true⟩ := rfl
@[simp] theorem ty200 : env.τ 200 = some ⟨1, 8, .other, [.p none], false⟩ := rfl
@[simp] theorem ty201 : env.τ 201 = some ⟨1, 8, .other, [.p none], false⟩ := rfl
@[simp] theorem ty205 : env.τ 205 = some ⟨11, 80, .struct [(0, 1), (1, 1), (2, 4), (6, 1), (7, 1), (8, 1), (9, 1), (10, 1)], [.b false, .b false, .i .i64 0, .i .i64 0, .i .i64 0, .i .i64 0, .i .i64 0, .i .i64 0, .i .i64 0, .i .i64 0, .b false], true⟩ := rfl
@[simp] theorem ty215 : env.τ 215 = some ⟨1, 4, .int .u32, [.i .u32 0], false⟩ := rfl
@[simp] theorem ty219 : env.τ 219 = some ⟨1, 8, .other, [.p none], false⟩ := rfl
theorem ok5 : env.ok 5 = true := rfl
theorem ok11 : env.ok 11 = true := rfl
theorem ok12 : env.ok 12 = true := rfl
theorem ok13 : env.ok 13 = true := rfl
theorem ok14 : env.ok 14 = true := rfl
theorem ok15 : env.ok 15 = true := rfl
theorem ok16 : env.ok 16 = true := rfl
theorem ok17 : env.ok 17 = true := rfl
theorem ok18 : env.ok 18 = true := rfl
theorem ok19 : env.ok 19 = true := rfl
theorem ok44 : env.ok 44 = true := rfl
theorem ok47 : env.ok 47 = true := rfl
theorem ok48 : env.ok 48 = true := rfl
theorem ok49 : env.ok 49 = true := rfl
theorem ok50 : env.ok 50 = true := rfl
theorem ok51 : env.ok 51 = true := rfl
theorem ok52 : env.ok 52 = true := rfl
theorem ok53 : env.ok 53 = true := rfl
theorem ok54 : env.ok 54 = true := rfl
theorem ok55 : env.ok 55 = true := rfl
theorem ok56 : env.ok 56 = true := rfl
theorem ok57 : env.ok 57 = true := rfl
theorem ok58 : env.ok 58 = true := rfl
theorem ok59 : env.ok 59 = true := rfl
theorem ok60 : env.ok 60 = true := rfl
theorem ok61 : env.ok 61 = true := rfl
theorem ok62 : env.ok 62 = true := rfl
theorem ok63 : env.ok 63 = true := rfl
theorem ok84 : env.ok 84 = true := rfl
theorem ok91 : env.ok 91 = true := rfl
theorem ok106 : env.ok 106 = true := rfl
theorem ok109 : env.ok 109 = true := rfl
theorem ok110 : env.ok 110 = true := rfl
theorem ok111 : env.ok 111 = true := rfl
theorem ok112 : env.ok 112 = true := rfl
theorem ok113 : env.ok 113 = true := rfl
theorem ok114 : env.ok 114 = true := rfl
theorem ok115 : env.ok 115 = true := rfl
theorem ok116 : env.ok 116 = true := rfl
theorem ok117 : env.ok 117 = true := rfl
theorem ok118 : env.ok 118 = true := rfl
theorem ok119 : env.ok 119 = true := rfl
theorem ok120 : env.ok 120 = true := rfl
theorem ok133 : env.ok 133 = true := rfl
theorem ok142 : env.ok 142 = true := rfl
theorem ok154 : env.ok 154 = true := rfl
theorem ok155 : env.ok 155 = true := rfl
theorem ok156 : env.ok 156 = true := rfl
theorem ok157 : env.ok 157 = true := rfl
theorem ok158 : env.ok 158 = true := rfl
theorem ok159 : env.ok 159 = true := rfl
theorem ok160 : env.ok 160 = true := rfl
theorem ok161 : env.ok 161 = true := rfl
theorem ok162 : env.ok 162 = true := rfl
theorem ok163 : env.ok 163 = true := rfl
theorem ok166 : env.ok 166 = true := rfl
theorem ok171 : env.ok 171 = true := rfl
theorem ok172 : env.ok 172 = true := rfl
theorem ok173 : env.ok 173 = true := rfl
theorem ok179 : env.ok 179 = true := rfl
theorem ok180 : env.ok 180 = true := rfl
theorem ok181 : env.ok 181 = true := rfl
theorem ok182 : env.ok 182 = true := rfl
theorem ok188 : env.ok 188 = true := rfl
theorem ok189 : env.ok 189 = true := rfl
theorem ok190 : env.ok 190 = true := rfl
theorem env_K : env.K = 3000000 := rfl
end W
end Go.Proofs.Ytjbjpdifgfnaeaa

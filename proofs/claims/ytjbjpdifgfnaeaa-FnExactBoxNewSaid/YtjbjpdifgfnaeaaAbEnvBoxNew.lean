/- The table of types of this translation, the functions that are run, and the checks that both are the program's. No conditions. -/
import Derived.Test.YtjbjpdifgfnaeaaAbRep2
import Derived.Test.YtjbjpdifgfnaeaaProg
set_option maxRecDepth 100000
namespace Go.Proofs.Ytjbjpdifgfnaeaa
open Go Go.Ab
namespace W
def rows : List (Nat × TI) := [
  (2, ⟨1, 8, .int .i64, [.i .i64 0], false⟩),
  (3, ⟨1, 8, .int .i64, [.i .i64 0], false⟩),
  (4, ⟨1, 1, .bool, [.b false], false⟩),
  (5, ⟨1, 1, .int .u8, [.i .u8 0], false⟩),
  (9, ⟨1, 16, .str, [.s ByteArray.empty], false⟩),
  (12, ⟨1, 8, .int .u64, [.i .u64 0], false⟩),
  (21, ⟨1, 4, .int .i32, [.i .i32 0], false⟩),
  (22, ⟨1, 24, .slice 143, [.sl none 0], false⟩),
  (23, ⟨1, 24, .slice 152, [.sl none 0], false⟩),
  (25, ⟨2, 48, .struct [(0, 1), (1, 1)], [.sl none 0, .sl none 0], false⟩),
  (28, ⟨1, 24, .slice 74, [.sl none 0], false⟩),
  (29, ⟨1, 24, .slice 92, [.sl none 0], false⟩),
  (31, ⟨2, 48, .struct [(0, 1), (1, 1)], [.sl none 0, .sl none 0], false⟩),
  (36, ⟨3, 24, .struct [(0, 1), (1, 1), (2, 1)], [.i .i64 0, .i .i64 0, .i .i64 0], true⟩),
  (37, ⟨1, 24, .slice 98, [.sl none 0], false⟩),
  (38, ⟨1, 24, .slice 163, [.sl none 0], false⟩),
  (39, ⟨1, 24, .slice 4, [.sl none 0], false⟩),
  (40, ⟨1, 24, .slice 133, [.sl none 0], false⟩),
  (41, ⟨1, 24, .slice 113, [.sl none 0], false⟩),
  (43, ⟨10, 160, .struct [(0, 1), (1, 1), (2, 3), (5, 1), (6, 1), (7, 1), (8, 1), (9, 1)], [.i .i64 0, .i .i64 0, .i .i64 0, .i .i64 0, .i .i64 0, .sl none 0, .sl none 0, .sl none 0, .sl none 0, .sl none 0], false⟩),
  (49, ⟨3, 24, .struct [(0, 1), (1, 1), (2, 1)], [.i .i64 0, .i .i64 0, .i .i64 0], true⟩),
  (50, ⟨1, 24, .slice 166, [.sl none 0], false⟩),
  (51, ⟨1, 24, .slice 171, [.sl none 0], false⟩),
  (52, ⟨1, 24, .slice 136, [.sl none 0], false⟩),
  (53, ⟨1, 24, .slice 122, [.sl none 0], false⟩),
  (55, ⟨10, 160, .struct [(0, 1), (1, 1), (2, 3), (5, 1), (6, 1), (7, 1), (8, 1), (9, 1)], [.i .i64 0, .i .i64 0, .i .i64 0, .i .i64 0, .i .i64 0, .sl none 0, .sl none 0, .sl none 0, .sl none 0, .sl none 0], false⟩),
  (72, ⟨1, 24, .slice 148, [.sl none 0], false⟩),
  (74, ⟨2, 32, .struct [(0, 1), (1, 1)], [.i .i64 0, .sl none 0], false⟩),
  (81, ⟨1, 24, .slice 3, [.sl none 0], false⟩),
  (92, ⟨4, 32, .struct [(0, 1), (1, 1), (2, 1), (3, 1)], [.i .i64 0, .i .i64 0, .i .i64 0, .i .i64 0], true⟩),
  (98, ⟨7, 72, .struct [(0, 1), (1, 1), (2, 1), (3, 1), (4, 1), (5, 1), (6, 1)], [.b false, .i .i64 0, .i .i64 0, .sl none 0, .i .i64 0, .i .i64 0, .i .i64 0], false⟩),
  (111, ⟨4, 32, .struct [(0, 1), (1, 1), (2, 1), (3, 1)], [.i .i64 0, .i .i64 0, .i .i64 0, .i .i64 0], true⟩),
  (113, ⟨8, 64, .struct [(0, 1), (1, 1), (2, 4), (6, 1), (7, 1)], [.i .i64 0, .i .i64 0, .i .i64 0, .i .i64 0, .i .i64 0, .i .i64 0, .i .i64 0, .b false], true⟩),
  (120, ⟨4, 32, .struct [(0, 1), (1, 1), (2, 1), (3, 1)], [.i .i64 0, .i .i64 0, .i .i64 0, .i .i64 0], true⟩),
  (122, ⟨8, 64, .struct [(0, 1), (1, 1), (2, 4), (6, 1), (7, 1)], [.i .i64 0, .i .i64 0, .i .i64 0, .i .i64 0, .i .i64 0, .i .i64 0, .i .i64 0, .b false], true⟩),
  (133, ⟨8, 64, .struct [(0, 1), (1, 1), (2, 4), (6, 1), (7, 1)], [.i .i64 0, .i .i64 0, .i .i64 0, .i .i64 0, .i .i64 0, .i .i64 0, .i .i64 0, .b false], true⟩),
  (136, ⟨8, 64, .struct [(0, 1), (1, 1), (2, 4), (6, 1), (7, 1)], [.i .i64 0, .i .i64 0, .i .i64 0, .i .i64 0, .i .i64 0, .i .i64 0, .i .i64 0, .b false], true⟩),
  (141, ⟨1, 24, .slice 205, [.sl none 0], false⟩),
  (143, ⟨2, 32, .struct [(0, 1), (1, 1)], [.i .i64 0, .sl none 0], false⟩),
  (148, ⟨11, 80, .struct [(0, 1), (1, 1), (2, 4), (6, 1), (7, 1), (8, 1), (9, 1), (10, 1)], [.b false, .b false, .i .i64 0, .i .i64 0, .i .i64 0, .i .i64 0, .i .i64 0, .i .i64 0, .i .i64 0, .i .i64 0, .b false], true⟩),
  (152, ⟨4, 32, .struct [(0, 1), (1, 1), (2, 1), (3, 1)], [.i .i64 0, .i .i64 0, .i .i64 0, .i .i64 0], true⟩),
  (153, ⟨1, 8, .other, [.p none], false⟩),
  (163, ⟨12, 96, .struct [(0, 1), (1, 1), (2, 1), (3, 1), (4, 8)], [.i .i64 0, .b false, .i .i64 0, .i .i64 0, .i .i64 0, .i .i64 0, .i .i64 0, .i .i64 0, .i .i64 0, .i .i64 0, .i .i64 0, .b false], true⟩),
  (166, ⟨7, 72, .struct [(0, 1), (1, 1), (2, 1), (3, 1), (4, 1), (5, 1), (6, 1)], [.b false, .i .i64 0, .i .i64 0, .sl none 0, .i .i64 0, .i .i64 0, .i .i64 0], false⟩),
  (171, ⟨12, 96, .struct [(0, 1), (1, 1), (2, 1), (3, 1), (4, 8)], [.i .i64 0, .b false, .i .i64 0, .i .i64 0, .i .i64 0, .i .i64 0, .i .i64 0, .i .i64 0, .i .i64 0, .i .i64 0, .i .i64 0, .b false], true⟩),
  (176, ⟨1, 8, .other, [.p none], false⟩),
  (189, ⟨1, 24, .slice 191, [.sl none 0], false⟩),
  (191, ⟨2, 16, .struct [(0, 1), (1, 1)], [.i .i64 0, .i .i64 0], true⟩),
  (200, ⟨1, 8, .other, [.p none], false⟩),
  (201, ⟨1, 8, .other, [.p none], false⟩),
  (205, ⟨11, 80, .struct [(0, 1), (1, 1), (2, 4), (6, 1), (7, 1), (8, 1), (9, 1), (10, 1)], [.b false, .b false, .i .i64 0, .i .i64 0, .i .i64 0, .i .i64 0, .i .i64 0, .i .i64 0, .i .i64 0, .i .i64 0, .b false], true⟩),
  (215, ⟨1, 4, .int .u32, [.i .u32 0], false⟩),
  (219, ⟨1, 8, .other, [.p none], false⟩)]
def fns : List Nat := [6, 20, 21, 22, 23, 24, 31, 32, 39, 40, 41, 64, 65, 66, 67, 68, 69, 70, 71, 72, 73, 74, 75, 76, 77, 78, 84, 91, 94, 105, 110, 121, 122, 123, 124, 125, 126, 127, 142, 146, 156, 166]
def wrs : List Nat := []
noncomputable def env : Env := { P := Try.prog, τ := tabOf rows, K := 3000000, wr := fun f => wrs.contains f, ok := fun f => fns.contains f }
theorem tab_ok : TabOk env.P env.τ := tabOk_of (by kernel_rfl)
theorem draws_ok : env.P.follows .mixedOrders = true := by kernel_rfl
theorem prog_ok : progB env fns = true := by kernel_rfl
theorem sound_all : CallOk env.P (run env) := sound_run fun d => sound draws_ok tab_ok fns (fun f h => by simpa [env] using h) prog_ok d
theorem env_P : env.P = Try.prog := rfl
@[simp] theorem ty2 : env.τ 2 = some ⟨1, 8, .int .i64, [.i .i64 0], false⟩ := rfl
@[simp] theorem ty3 : env.τ 3 = some ⟨1, 8, .int .i64, [.i .i64 0], false⟩ := rfl
@[simp] theorem ty4 : env.τ 4 = some ⟨1, 1, .bool, [.b false], false⟩ := rfl
@[simp] theorem ty5 : env.τ 5 = some ⟨1, 1, .int .u8, [.i .u8 0], false⟩ := rfl
@[simp] theorem ty9 : env.τ 9 = some ⟨1, 16, .str, [.s ByteArray.empty], false⟩ := rfl
@[simp] theorem ty12 : env.τ 12 = some ⟨1, 8, .int .u64, [.i .u64 0], false⟩ := rfl
@[simp] theorem ty21 : env.τ 21 = some ⟨1, 4, .int .i32, [.i .i32 0], false⟩ := rfl
@[simp] theorem ty22 : env.τ 22 = some ⟨1, 24, .slice 143, [.sl none 0], false⟩ := rfl
@[simp] theorem ty23 : env.τ 23 = some ⟨1, 24, .slice 152, [.sl none 0], false⟩ := rfl
@[simp] theorem ty25 : env.τ 25 = some ⟨2, 48, .struct [(0, 1), (1, 1)], [.sl none 0, .sl none 0], false⟩ := rfl
@[simp] theorem ty28 : env.τ 28 = some ⟨1, 24, .slice 74, [.sl none 0], false⟩ := rfl
@[simp] theorem ty29 : env.τ 29 = some ⟨1, 24, .slice 92, [.sl none 0], false⟩ := rfl
@[simp] theorem ty31 : env.τ 31 = some ⟨2, 48, .struct [(0, 1), (1, 1)], [.sl none 0, .sl none 0], false⟩ := rfl
@[simp] theorem ty36 : env.τ 36 = some ⟨3, 24, .struct [(0, 1), (1, 1), (2, 1)], [.i .i64 0, .i .i64 0, .i .i64 0], true⟩ := rfl
@[simp] theorem ty37 : env.τ 37 = some ⟨1, 24, .slice 98, [.sl none 0], false⟩ := rfl
@[simp] theorem ty38 : env.τ 38 = some ⟨1, 24, .slice 163, [.sl none 0], false⟩ := rfl
@[simp] theorem ty39 : env.τ 39 = some ⟨1, 24, .slice 4, [.sl none 0], false⟩ := rfl
@[simp] theorem ty40 : env.τ 40 = some ⟨1, 24, .slice 133, [.sl none 0], false⟩ := rfl
@[simp] theorem ty41 : env.τ 41 = some ⟨1, 24, .slice 113, [.sl none 0], false⟩ := rfl
@[simp] theorem ty43 : env.τ 43 = some ⟨10, 160, .struct [(0, 1), (1, 1), (2, 3), (5, 1), (6, 1), (7, 1), (8, 1), (9, 1)], [.i .i64 0, .i .i64 0, .i .i64 0, .i .i64 0, .i .i64 0, .sl none 0, .sl none 0, .sl none 0, .sl none 0, .sl none 0], false⟩ := rfl
@[simp] theorem ty49 : env.τ 49 = some ⟨3, 24, .struct [(0, 1), (1, 1), (2, 1)], [.i .i64 0, .i .i64 0, .i .i64 0], true⟩ := rfl
@[simp] theorem ty50 : env.τ 50 = some ⟨1, 24, .slice 166, [.sl none 0], false⟩ := rfl
@[simp] theorem ty51 : env.τ 51 = some ⟨1, 24, .slice 171, [.sl none 0], false⟩ := rfl
@[simp] theorem ty52 : env.τ 52 = some ⟨1, 24, .slice 136, [.sl none 0], false⟩ := rfl
@[simp] theorem ty53 : env.τ 53 = some ⟨1, 24, .slice 122, [.sl none 0], false⟩ := rfl
@[simp] theorem ty55 : env.τ 55 = some ⟨10, 160, .struct [(0, 1), (1, 1), (2, 3), (5, 1), (6, 1), (7, 1), (8, 1), (9, 1)], [.i .i64 0, .i .i64 0, .i .i64 0, .i .i64 0, .i .i64 0, .sl none 0, .sl none 0, .sl none 0, .sl none 0, .sl none 0], false⟩ := rfl
@[simp] theorem ty72 : env.τ 72 = some ⟨1, 24, .slice 148, [.sl none 0], false⟩ := rfl
@[simp] theorem ty74 : env.τ 74 = some ⟨2, 32, .struct [(0, 1), (1, 1)], [.i .i64 0, .sl none 0], false⟩ := rfl
@[simp] theorem ty81 : env.τ 81 = some ⟨1, 24, .slice 3, [.sl none 0], false⟩ := rfl
@[simp] theorem ty92 : env.τ 92 = some ⟨4, 32, .struct [(0, 1), (1, 1), (2, 1), (3, 1)], [.i .i64 0, .i .i64 0, .i .i64 0, .i .i64 0], true⟩ := rfl
@[simp] theorem ty98 : env.τ 98 = some ⟨7, 72, .struct [(0, 1), (1, 1), (2, 1), (3, 1), (4, 1), (5, 1), (6, 1)], [.b false, .i .i64 0, .i .i64 0, .sl none 0, .i .i64 0, .i .i64 0, .i .i64 0], false⟩ := rfl
@[simp] theorem ty111 : env.τ 111 = some ⟨4, 32, .struct [(0, 1), (1, 1), (2, 1), (3, 1)], [.i .i64 0, .i .i64 0, .i .i64 0, .i .i64 0], true⟩ := rfl
@[simp] theorem ty113 : env.τ 113 = some ⟨8, 64, .struct [(0, 1), (1, 1), (2, 4), (6, 1), (7, 1)], [.i .i64 0, .i .i64 0, .i .i64 0, .i .i64 0, .i .i64 0, .i .i64 0, .i .i64 0, .b false], true⟩ := rfl
@[simp] theorem ty120 : env.τ 120 = some ⟨4, 32, .struct [(0, 1), (1, 1), (2, 1), (3, 1)], [.i .i64 0, .i .i64 0, .i .i64 0, .i .i64 0], true⟩ := rfl
@[simp] theorem ty122 : env.τ 122 = some ⟨8, 64, .struct [(0, 1), (1, 1), (2, 4), (6, 1), (7, 1)], [.i .i64 0, .i .i64 0, .i .i64 0, .i .i64 0, .i .i64 0, .i .i64 0, .i .i64 0, .b false], true⟩ := rfl
@[simp] theorem ty133 : env.τ 133 = some ⟨8, 64, .struct [(0, 1), (1, 1), (2, 4), (6, 1), (7, 1)], [.i .i64 0, .i .i64 0, .i .i64 0, .i .i64 0, .i .i64 0, .i .i64 0, .i .i64 0, .b false], true⟩ := rfl
@[simp] theorem ty136 : env.τ 136 = some ⟨8, 64, .struct [(0, 1), (1, 1), (2, 4), (6, 1), (7, 1)], [.i .i64 0, .i .i64 0, .i .i64 0, .i .i64 0, .i .i64 0, .i .i64 0, .i .i64 0, .b false], true⟩ := rfl
@[simp] theorem ty141 : env.τ 141 = some ⟨1, 24, .slice 205, [.sl none 0], false⟩ := rfl
@[simp] theorem ty143 : env.τ 143 = some ⟨2, 32, .struct [(0, 1), (1, 1)], [.i .i64 0, .sl none 0], false⟩ := rfl
@[simp] theorem ty148 : env.τ 148 = some ⟨11, 80, .struct [(0, 1), (1, 1), (2, 4), (6, 1), (7, 1), (8, 1), (9, 1), (10, 1)], [.b false, .b false, .i .i64 0, .i .i64 0, .i .i64 0, .i .i64 0, .i .i64 0, .i .i64 0, .i .i64 0, .i .i64 0, .b false], true⟩ := rfl
@[simp] theorem ty152 : env.τ 152 = some ⟨4, 32, .struct [(0, 1), (1, 1), (2, 1), (3, 1)], [.i .i64 0, .i .i64 0, .i .i64 0, .i .i64 0], true⟩ := rfl
@[simp] theorem ty153 : env.τ 153 = some ⟨1, 8, .other, [.p none], false⟩ := rfl
@[simp] theorem ty163 : env.τ 163 = some ⟨12, 96, .struct [(0, 1), (1, 1), (2, 1), (3, 1), (4, 8)], [.i .i64 0, .b false, .i .i64 0, .i .i64 0, .i .i64 0, .i .i64 0, .i .i64 0, .i .i64 0, .i .i64 0, .i .i64 0, .i .i64 0, .b false], true⟩ := rfl
@[simp] theorem ty166 : env.τ 166 = some ⟨7, 72, .struct [(0, 1), (1, 1), (2, 1), (3, 1), (4, 1), (5, 1), (6, 1)], [.b false, .i .i64 0, .i .i64 0, .sl none 0, .i .i64 0, .i .i64 0, .i .i64 0], false⟩ := rfl
@[simp] theorem ty171 : env.τ 171 = some ⟨12, 96, .struct [(0, 1), (1, 1), (2, 1), (3, 1), (4, 8)], [.i .i64 0, .b false, .i .i64 0, .i .i64 0, .i .i64 0, .i .i64 0, .i .i64 0, .i .i64 0, .i .i64 0, .i .i64 0, .i .i64 0, .b false], true⟩ := rfl
@[simp] theorem ty176 : env.τ 176 = some ⟨1, 8, .other, [.p none], false⟩ := rfl
@[simp] theorem ty189 : env.τ 189 = some ⟨1, 24, .slice 191, [.sl none 0], false⟩ := rfl
@[simp] theorem ty191 : env.τ 191 = some ⟨2, 16, .struct [(0, 1), (1, 1)], [.i .i64 0, .i .i64 0], true⟩ := rfl
@[simp] theorem ty200 : env.τ 200 = some ⟨1, 8, .other, [.p none], false⟩ := rfl
@[simp] theorem ty201 : env.τ 201 = some ⟨1, 8, .other, [.p none], false⟩ := rfl
@[simp] theorem ty205 : env.τ 205 = some ⟨11, 80, .struct [(0, 1), (1, 1), (2, 4), (6, 1), (7, 1), (8, 1), (9, 1), (10, 1)], [.b false, .b false, .i .i64 0, .i .i64 0, .i .i64 0, .i .i64 0, .i .i64 0, .i .i64 0, .i .i64 0, .i .i64 0, .b false], true⟩ := rfl
@[simp] theorem ty215 : env.τ 215 = some ⟨1, 4, .int .u32, [.i .u32 0], false⟩ := rfl
@[simp] theorem ty219 : env.τ 219 = some ⟨1, 8, .other, [.p none], false⟩ := rfl
theorem ok6 : env.ok 6 = true := rfl
theorem ok20 : env.ok 20 = true := rfl
theorem ok21 : env.ok 21 = true := rfl
theorem ok22 : env.ok 22 = true := rfl
theorem ok23 : env.ok 23 = true := rfl
theorem ok24 : env.ok 24 = true := rfl
theorem ok31 : env.ok 31 = true := rfl
theorem ok32 : env.ok 32 = true := rfl
theorem ok39 : env.ok 39 = true := rfl
theorem ok40 : env.ok 40 = true := rfl
theorem ok41 : env.ok 41 = true := rfl
theorem ok64 : env.ok 64 = true := rfl
theorem ok65 : env.ok 65 = true := rfl
theorem ok66 : env.ok 66 = true := rfl
theorem ok67 : env.ok 67 = true := rfl
theorem ok68 : env.ok 68 = true := rfl
theorem ok69 : env.ok 69 = true := rfl
theorem ok70 : env.ok 70 = true := rfl
theorem ok71 : env.ok 71 = true := rfl
theorem ok72 : env.ok 72 = true := rfl
theorem ok73 : env.ok 73 = true := rfl
theorem ok74 : env.ok 74 = true := rfl
theorem ok75 : env.ok 75 = true := rfl
theorem ok76 : env.ok 76 = true := rfl
theorem ok77 : env.ok 77 = true := rfl
theorem ok78 : env.ok 78 = true := rfl
theorem ok84 : env.ok 84 = true := rfl
theorem ok91 : env.ok 91 = true := rfl
theorem ok94 : env.ok 94 = true := rfl
theorem ok105 : env.ok 105 = true := rfl
theorem ok110 : env.ok 110 = true := rfl
theorem ok121 : env.ok 121 = true := rfl
theorem ok122 : env.ok 122 = true := rfl
theorem ok123 : env.ok 123 = true := rfl
theorem ok124 : env.ok 124 = true := rfl
theorem ok125 : env.ok 125 = true := rfl
theorem ok126 : env.ok 126 = true := rfl
theorem ok127 : env.ok 127 = true := rfl
theorem ok142 : env.ok 142 = true := rfl
theorem ok146 : env.ok 146 = true := rfl
theorem ok156 : env.ok 156 = true := rfl
theorem ok166 : env.ok 166 = true := rfl
theorem env_K : env.K = 3000000 := rfl
end W
end Go.Proofs.Ytjbjpdifgfnaeaa

/- The table of types of this translation, the functions that are run, and the checks that both are the program's. No conditions. -/
import Derived.Test.YtfhaanknijlamaaAbRep2
import Derived.Test.YtfhaanknijlamaaProg
set_option maxRecDepth 100000
namespace Go.Proofs.Ytfhaanknijlamaa
open Go Go.Ab
namespace W
def rows : List (Nat × TI) := [
  (2, ⟨1, 8, .int .i64, [.i .i64 0], false⟩),
  (3, ⟨1, 8, .int .i64, [.i .i64 0], false⟩),
  (4, ⟨1, 1, .bool, [.b false], false⟩),
  (5, ⟨1, 1, .int .u8, [.i .u8 0], false⟩),
  (9, ⟨1, 16, .str, [.s ByteArray.empty], false⟩),
  (12, ⟨1, 8, .int .u64, [.i .u64 0], false⟩),
  (21, ⟨1, 4, .int .i32, [.i .i32 0], false⟩),
  (22, ⟨1, 24, .slice 5, [.sl none 0], false⟩),
  (24, ⟨1, 24, .slice 43, [.sl none 0], false⟩),
  (26, ⟨2, 32, .struct [(0, 1), (1, 1)], [.i .i64 0, .sl none 0], false⟩),
  (28, ⟨4, 32, .struct [(0, 1), (1, 1), (2, 1), (3, 1)], [.i .i64 0, .i .i64 0, .i .i64 0, .i .i64 0], true⟩),
  (30, ⟨8, 64, .struct [(0, 1), (1, 1), (2, 4), (6, 1), (7, 1)], [.i .i64 0, .i .i64 0, .i .i64 0, .i .i64 0, .i .i64 0, .i .i64 0, .i .i64 0, .b false], true⟩),
  (33, ⟨1, 24, .slice 38, [.sl none 0], false⟩),
  (38, ⟨8, 64, .struct [(0, 1), (1, 1), (2, 4), (6, 1), (7, 1)], [.i .i64 0, .i .i64 0, .i .i64 0, .i .i64 0, .i .i64 0, .i .i64 0, .i .i64 0, .b false], true⟩),
  (40, ⟨1, 24, .slice 4, [.sl none 0], false⟩),
  (43, ⟨11, 80, .struct [(0, 1), (1, 1), (2, 4), (6, 1), (7, 1), (8, 1), (9, 1), (10, 1)], [.b false, .b false, .i .i64 0, .i .i64 0, .i .i64 0, .i .i64 0, .i .i64 0, .i .i64 0, .i .i64 0, .i .i64 0, .b false], true⟩),
  (44, ⟨1, 24, .slice 30, [.sl none 0], false⟩),
  (54, ⟨1, 24, .slice 26, [.sl none 0], false⟩),
  (55, ⟨1, 24, .slice 126, [.sl none 0], false⟩),
  (57, ⟨2, 48, .struct [(0, 1), (1, 1)], [.sl none 0, .sl none 0], false⟩),
  (63, ⟨1, 24, .slice 3, [.sl none 0], false⟩),
  (80, ⟨7, 72, .struct [(0, 1), (1, 1), (2, 1), (3, 1), (4, 1), (5, 1), (6, 1)], [.b false, .i .i64 0, .i .i64 0, .sl none 0, .i .i64 0, .i .i64 0, .i .i64 0], false⟩),
  (92, ⟨3, 24, .struct [(0, 1), (1, 1), (2, 1)], [.i .i64 0, .i .i64 0, .i .i64 0], true⟩),
  (104, ⟨1, 8, .other, [.p none], false⟩),
  (126, ⟨4, 32, .struct [(0, 1), (1, 1), (2, 1), (3, 1)], [.i .i64 0, .i .i64 0, .i .i64 0, .i .i64 0], true⟩),
  (129, ⟨2, 16, .struct [(0, 1), (1, 1)], [.i .i64 0, .i .i64 0], true⟩),
  (132, ⟨4, 32, .array 2 129, [.i .i64 0, .i .i64 0, .i .i64 0, .i .i64 0], false⟩),
  (154, ⟨3, 40, .struct [(0, 1), (1, 1), (2, 1)], [.sl none 0, .i .i64 0, .i .i64 0], false⟩),
  (159, ⟨1, 8, .other, [.p none], false⟩),
  (160, ⟨1, 8, .other, [.p none], false⟩),
  (166, ⟨1, 8, .other, [.p none], false⟩),
  (171, ⟨1, 24, .slice 129, [.sl none 0], false⟩),
  (175, ⟨1, 24, .slice 80, [.sl none 0], false⟩),
  (176, ⟨1, 24, .slice 201, [.sl none 0], false⟩),
  (178, ⟨10, 160, .struct [(0, 1), (1, 1), (2, 3), (5, 1), (6, 1), (7, 1), (8, 1), (9, 1)], [.i .i64 0, .i .i64 0, .i .i64 0, .i .i64 0, .i .i64 0, .sl none 0, .sl none 0, .sl none 0, .sl none 0, .sl none 0], false⟩),
  (181, ⟨1, 8, .int .u64, [.i .u64 0], false⟩),
  (183, ⟨1, 24, .slice 191, [.sl none 0], false⟩),
  (191, ⟨10, 80, .struct [(0, 1), (1, 1), (2, 8)], [.i .i64 0, .i .i64 0, .i .i64 0, .i .i64 0, .i .i64 0, .i .i64 0, .i .i64 0, .i .i64 0, .i .i64 0, .b false], true⟩),
  (201, ⟨12, 96, .struct [(0, 1), (1, 1), (2, 1), (3, 1), (4, 8)], [.i .i64 0, .b false, .i .i64 0, .i .i64 0, .i .i64 0, .i .i64 0, .i .i64 0, .i .i64 0, .i .i64 0, .i .i64 0, .i .i64 0, .b false], true⟩),
  (211, ⟨1, 4, .int .u32, [.i .u32 0], false⟩),
  (215, ⟨1, 8, .other, [.p none], false⟩)]
def fns : List Nat := [4, 9, 11, 12, 13, 14, 15, 16, 17, 18, 19, 20, 21, 22, 23, 24, 25, 83, 84, 85, 86, 87, 88, 89, 90, 91, 92, 93, 94, 95, 96, 97, 98, 99, 100, 101, 102, 104, 119, 131, 142, 143, 144, 145, 146, 147, 148, 149, 150, 151, 152, 153, 154, 155, 156, 157, 158, 159, 160, 161, 166, 167, 171, 172, 173, 174, 175, 176, 177, 178, 181, 182, 188]
def wrs : List Nat := [88, 97, 161, 99, 104, 145, 172, 143, 171, 84, 85, 144, 142, 92, 98]
def wts : List (Nat × Nat) := [(97, 154), (161, 154), (99, 154), (104, 154), (145, 154), (172, 154), (143, 154), (171, 154), (84, 154), (85, 154), (144, 154), (142, 154), (98, 154)]
noncomputable def env : Env := { P := Try.prog, τ := tabOf rows, K := 3000000, wr := fun f => wrs.contains f, ok := fun f => fns.contains f, wt := fun f => (wts.find? fun p => p.1 == f).map Prod.snd, dif := [] }
theorem tab_ok : TabOk env.P env.τ := tabOk_of (by kernel_rfl)
theorem draws_ok : env.P.follows .mixedOrders = true := by kernel_rfl
theorem prog_ok : progB env fns = true := by kernel_rfl
theorem sound_all : CallOk env.P (run env) := sound_run fun d => sound draws_ok tab_ok fns (fun f h => by simpa [env] using h) prog_ok d
theorem env_P : env.P = Try.prog := rfl
@[simp] theorem ty2 : env.τ 2 = some ⟨1, 8, .int .i64, [.i .i64 0], false⟩ := rfl
@[simp] theorem ty3 : env.τ 3 = some ⟨1, 8, .int .i64, [.i .i64 0], false⟩ := rfl
@[simp] theorem ty4 : env.τ 4 = some ⟨1, 1, .bool, [.b false], false⟩ := rfl
@[simp] theorem ty5 : env.τ 5 = some ⟨1, 1, .int .u8, [.i .u8 0], false⟩ := rfl
@[simp] theorem ty9 : env.τ 9 = some ⟨1, 16, .str, [.s ByteArray.empty], false⟩ := rfl
@[simp] theorem ty12 : env.τ 12 = some ⟨1, 8, .int .u64, [.i .u64 0], false⟩ := rfl
@[simp] theorem ty21 : env.τ 21 = some ⟨1, 4, .int .i32, [.i .i32 0], false⟩ := rfl
@[simp] theorem ty22 : env.τ 22 = some ⟨1, 24, .slice 5, [.sl none 0], false⟩ := rfl
@[simp] theorem ty24 : env.τ 24 = some ⟨1, 24, .slice 43, [.sl none 0], false⟩ := rfl
@[simp] theorem ty26 : env.τ 26 = some ⟨2, 32, .struct [(0, 1), (1, 1)], [.i .i64 0, .sl none 0], false⟩ := rfl
@[simp] theorem ty28 : env.τ 28 = some ⟨4, 32, .struct [(0, 1), (1, 1), (2, 1), (3, 1)], [.i .i64 0, .i .i64 0, .i .i64 0, .i .i64 0], true⟩ := rfl
@[simp] theorem ty30 : env.τ 30 = some ⟨8, 64, .struct [(0, 1), (1, 1), (2, 4), (6, 1), (7, 1)], [.i .i64 0, .i .i64 0, .i .i64 0, .i .i64 0, .i .i64 0, .i .i64 0, .i .i64 0, .b false], true⟩ := rfl
@[simp] theorem ty33 : env.τ 33 = some ⟨1, 24, .slice 38, [.sl none 0], false⟩ := rfl
@[simp] theorem ty38 : env.τ 38 = some ⟨8, 64, .struct [(0, 1), (1, 1), (2, 4), (6, 1), (7, 1)], [.i .i64 0, .i .i64 0, .i .i64 0, .i .i64 0, .i .i64 0, .i .i64 0, .i .i64 0, .b false], true⟩ := rfl
@[simp] theorem ty40 : env.τ 40 = some ⟨1, 24, .slice 4, [.sl none 0], false⟩ := rfl
@[simp] theorem ty43 : env.τ 43 = some ⟨11, 80, .struct [(0, 1), (1, 1), (2, 4), (6, 1), (7, 1), (8, 1), (9, 1), (10, 1)], [.b false, .b false, .i .i64 0, .i .i64 0, .i .i64 0, .i .i64 0, .i .i64 0, .i .i64 0, .i .i64 0, .i .i64 0, .b false], true⟩ := rfl
@[simp] theorem ty44 : env.τ 44 = some ⟨1, 24, .slice 30, [.sl none 0], false⟩ := rfl
@[simp] theorem ty54 : env.τ 54 = some ⟨1, 24, .slice 26, [.sl none 0], false⟩ := rfl
@[simp] theorem ty55 : env.τ 55 = some ⟨1, 24, .slice 126, [.sl none 0], false⟩ := rfl
@[simp] theorem ty57 : env.τ 57 = some ⟨2, 48, .struct [(0, 1), (1, 1)], [.sl none 0, .sl none 0], false⟩ := rfl
@[simp] theorem ty63 : env.τ 63 = some ⟨1, 24, .slice 3, [.sl none 0], false⟩ := rfl
@[simp] theorem ty80 : env.τ 80 = some ⟨7, 72, .struct [(0, 1), (1, 1), (2, 1), (3, 1), (4, 1), (5, 1), (6, 1)], [.b false, .i .i64 0, .i .i64 0, .sl none 0, .i .i64 0, .i .i64 0, .i .i64 0], false⟩ := rfl
@[simp] theorem ty92 : env.τ 92 = some ⟨3, 24, .struct [(0, 1), (1, 1), (2, 1)], [.i .i64 0, .i .i64 0, .i .i64 0], true⟩ := rfl
@[simp] theorem ty104 : env.τ 104 = some ⟨1, 8, .other, [.p none], false⟩ := rfl
@[simp] theorem ty126 : env.τ 126 = some ⟨4, 32, .struct [(0, 1), (1, 1), (2, 1), (3, 1)], [.i .i64 0, .i .i64 0, .i .i64 0, .i .i64 0], true⟩ := rfl
@[simp] theorem ty129 : env.τ 129 = some ⟨2, 16, .struct [(0, 1), (1, 1)], [.i .i64 0, .i .i64 0], true⟩ := rfl
@[simp] theorem ty132 : env.τ 132 = some ⟨4, 32, .array 2 129, [.i .i64 0, .i .i64 0, .i .i64 0, .i .i64 0], false⟩ := rfl
@[simp] theorem ty154 : env.τ 154 = some ⟨3, 40, .struct [(0, 1), (1, 1), (2, 1)], [.sl none 0, .i .i64 0, .i .i64 0], false⟩ := rfl
@[simp] theorem ty159 : env.τ 159 = some ⟨1, 8, .other, [.p none], false⟩ := rfl
@[simp] theorem ty160 : env.τ 160 = some ⟨1, 8, .other, [.p none], false⟩ := rfl
@[simp] theorem ty166 : env.τ 166 = some ⟨1, 8, .other, [.p none], false⟩ := rfl
@[simp] theorem ty171 : env.τ 171 = some ⟨1, 24, .slice 129, [.sl none 0], false⟩ := rfl
@[simp] theorem ty175 : env.τ 175 = some ⟨1, 24, .slice 80, [.sl none 0], false⟩ := rfl
@[simp] theorem ty176 : env.τ 176 = some ⟨1, 24, .slice 201, [.sl none 0], false⟩ := rfl
@[simp] theorem ty178 : env.τ 178 = some ⟨10, 160, .struct [(0, 1), (1, 1), (2, 3), (5, 1), (6, 1), (7, 1), (8, 1), (9, 1)], [.i .i64 0, .i .i64 0, .i .i64 0, .i .i64 0, .i .i64 0, .sl none 0, .sl none 0, .sl none 0, .sl none 0, .sl none 0], false⟩ := rfl
@[simp] theorem ty181 : env.τ 181 = some ⟨1, 8, .int .u64, [.i .u64 0], false⟩ := rfl
@[simp] theorem ty183 : env.τ 183 = some ⟨1, 24, .slice 191, [.sl none 0], false⟩ := rfl
@[simp] theorem ty191 : env.τ 191 = some ⟨10, 80, .struct [(0, 1), (1, 1), (2, 8)], [.i .i64 0, .i .i64 0, .i .i64 0, .i .i64 0, .i .i64 0, .i .i64 0, .i .i64 0, .i .i64 0, .i .i64 0, .b false], true⟩ := rfl
@[simp] theorem ty201 : env.τ 201 = some ⟨12, 96, .struct [(0, 1), (1, 1), (2, 1), (3, 1), (4, 8)], [.i .i64 0, .b false, .i .i64 0, .i .i64 0, .i .i64 0, .i .i64 0, .i .i64 0, .i .i64 0, .i .i64 0, .i .i64 0, .i .i64 0, .b false], true⟩ := rfl
@[simp] theorem ty211 : env.τ 211 = some ⟨1, 4, .int .u32, [.i .u32 0], false⟩ := rfl
@[simp] theorem ty215 : env.τ 215 = some ⟨1, 8, .other, [.p none], false⟩ := rfl
theorem ok4 : env.ok 4 = true := rfl
theorem ok9 : env.ok 9 = true := rfl
theorem ok11 : env.ok 11 = true := rfl
theorem ok12 : env.ok 12 = true := rfl
theorem ok13 : env.ok 13 = true := rfl
theorem ok14 : env.ok 14 = true := rfl
theorem ok15 : env.ok 15 = true := rfl
theorem ok16 : env.ok 16 = true := rfl
theorem ok17 : env.ok 17 = true := rfl
theorem ok18 : env.ok 18 = true := rfl
theorem ok19 : env.ok 19 = true := rfl
theorem ok20 : env.ok 20 = true := rfl
theorem ok21 : env.ok 21 = true := rfl
theorem ok22 : env.ok 22 = true := rfl
theorem ok23 : env.ok 23 = true := rfl
theorem ok24 : env.ok 24 = true := rfl
theorem ok25 : env.ok 25 = true := rfl
theorem ok83 : env.ok 83 = true := rfl
theorem ok84 : env.ok 84 = true := rfl
theorem ok85 : env.ok 85 = true := rfl
theorem ok86 : env.ok 86 = true := rfl
theorem ok87 : env.ok 87 = true := rfl
theorem ok88 : env.ok 88 = true := rfl
theorem ok89 : env.ok 89 = true := rfl
theorem ok90 : env.ok 90 = true := rfl
theorem ok91 : env.ok 91 = true := rfl
theorem ok92 : env.ok 92 = true := rfl
theorem ok93 : env.ok 93 = true := rfl
theorem ok94 : env.ok 94 = true := rfl
theorem ok95 : env.ok 95 = true := rfl
theorem ok96 : env.ok 96 = true := rfl
theorem ok97 : env.ok 97 = true := rfl
theorem ok98 : env.ok 98 = true := rfl
theorem ok99 : env.ok 99 = true := rfl
theorem ok100 : env.ok 100 = true := rfl
theorem ok101 : env.ok 101 = true := rfl
theorem ok102 : env.ok 102 = true := rfl
theorem ok104 : env.ok 104 = true := rfl
theorem ok119 : env.ok 119 = true := rfl
theorem ok131 : env.ok 131 = true := rfl
theorem ok142 : env.ok 142 = true := rfl
theorem ok143 : env.ok 143 = true := rfl
theorem ok144 : env.ok 144 = true := rfl
theorem ok145 : env.ok 145 = true := rfl
theorem ok146 : env.ok 146 = true := rfl
theorem ok147 : env.ok 147 = true := rfl
theorem ok148 : env.ok 148 = true := rfl
theorem ok149 : env.ok 149 = true := rfl
theorem ok150 : env.ok 150 = true := rfl
theorem ok151 : env.ok 151 = true := rfl
theorem ok152 : env.ok 152 = true := rfl
theorem ok153 : env.ok 153 = true := rfl
theorem ok154 : env.ok 154 = true := rfl
theorem ok155 : env.ok 155 = true := rfl
theorem ok156 : env.ok 156 = true := rfl
theorem ok157 : env.ok 157 = true := rfl
theorem ok158 : env.ok 158 = true := rfl
theorem ok159 : env.ok 159 = true := rfl
theorem ok160 : env.ok 160 = true := rfl
theorem ok161 : env.ok 161 = true := rfl
theorem ok166 : env.ok 166 = true := rfl
theorem ok167 : env.ok 167 = true := rfl
theorem ok171 : env.ok 171 = true := rfl
theorem ok172 : env.ok 172 = true := rfl
theorem ok173 : env.ok 173 = true := rfl
theorem ok174 : env.ok 174 = true := rfl
theorem ok175 : env.ok 175 = true := rfl
theorem ok176 : env.ok 176 = true := rfl
theorem ok177 : env.ok 177 = true := rfl
theorem ok178 : env.ok 178 = true := rfl
theorem ok181 : env.ok 181 = true := rfl
theorem ok182 : env.ok 182 = true := rfl
theorem ok188 : env.ok 188 = true := rfl
theorem env_K : env.K = 3000000 := rfl
@[simp] theorem env_dif : env.dif = [] := rfl
end W
end Go.Proofs.Ytfhaanknijlamaa

/- The table of types of this translation, the functions that are run, and the checks that both are the program's. No conditions. -/
import Derived.Test.YtfhaanknijlamaaGreatAbRep2
import Derived.Test.YtfhaanknijlamaaGreatProg
set_option maxRecDepth 100000
namespace Go.Proofs.YtfhaanknijlamaaGreat
open Go Go.Ab
namespace W
def rows : List (Nat × TI) := [
  (2, ⟨1, 8, .int .i64, [.i .i64 0], false⟩),
  (3, ⟨1, 8, .int .i64, [.i .i64 0], false⟩),
  (4, ⟨1, 1, .bool, [.b false], false⟩),
  (5, ⟨1, 1, .int .u8, [.i .u8 0], false⟩),
  (9, ⟨1, 16, .str, [.s ByteArray.empty], false⟩),
  (12, ⟨1, 8, .int .u64, [.i .u64 0], false⟩),
  (21, ⟨1, 4, .int .i32, [.i .i32 0], false⟩),
  (22, ⟨1, 24, .slice 5, [.sl none 0], false⟩),
  (25, ⟨3, 24, .struct [(0, 1), (1, 1), (2, 1)], [.i .i64 0, .i .i64 0, .i .i64 0], true⟩),
  (26, ⟨1, 24, .slice 52, [.sl none 0], false⟩),
  (27, ⟨1, 24, .slice 91, [.sl none 0], false⟩),
  (28, ⟨1, 24, .slice 4, [.sl none 0], false⟩),
  (29, ⟨1, 24, .slice 64, [.sl none 0], false⟩),
  (30, ⟨1, 24, .slice 62, [.sl none 0], false⟩),
  (32, ⟨10, 160, .struct [(0, 1), (1, 1), (2, 3), (5, 1), (6, 1), (7, 1), (8, 1), (9, 1)], [.i .i64 0, .i .i64 0, .i .i64 0, .i .i64 0, .i .i64 0, .sl none 0, .sl none 0, .sl none 0, .sl none 0, .sl none 0], false⟩),
  (41, ⟨1, 24, .slice 99, [.sl none 0], false⟩),
  (43, ⟨2, 32, .struct [(0, 1), (1, 1)], [.i .i64 0, .sl none 0], false⟩),
  (52, ⟨7, 72, .struct [(0, 1), (1, 1), (2, 1), (3, 1), (4, 1), (5, 1), (6, 1)], [.b false, .i .i64 0, .i .i64 0, .sl none 0, .i .i64 0, .i .i64 0, .i .i64 0], false⟩),
  (53, ⟨1, 24, .slice 66, [.sl none 0], false⟩),
  (56, ⟨1, 24, .slice 3, [.sl none 0], false⟩),
  (60, ⟨4, 32, .struct [(0, 1), (1, 1), (2, 1), (3, 1)], [.i .i64 0, .i .i64 0, .i .i64 0, .i .i64 0], true⟩),
  (62, ⟨8, 64, .struct [(0, 1), (1, 1), (2, 4), (6, 1), (7, 1)], [.i .i64 0, .i .i64 0, .i .i64 0, .i .i64 0, .i .i64 0, .i .i64 0, .i .i64 0, .b false], true⟩),
  (64, ⟨8, 64, .struct [(0, 1), (1, 1), (2, 4), (6, 1), (7, 1)], [.i .i64 0, .i .i64 0, .i .i64 0, .i .i64 0, .i .i64 0, .i .i64 0, .i .i64 0, .b false], true⟩),
  (66, ⟨10, 80, .struct [(0, 1), (1, 1), (2, 8)], [.i .i64 0, .i .i64 0, .i .i64 0, .i .i64 0, .i .i64 0, .i .i64 0, .i .i64 0, .i .i64 0, .i .i64 0, .b false], true⟩),
  (74, ⟨1, 8, .other, [.p none], false⟩),
  (91, ⟨12, 96, .struct [(0, 1), (1, 1), (2, 1), (3, 1), (4, 8)], [.i .i64 0, .b false, .i .i64 0, .i .i64 0, .i .i64 0, .i .i64 0, .i .i64 0, .i .i64 0, .i .i64 0, .i .i64 0, .i .i64 0, .b false], true⟩),
  (99, ⟨11, 80, .struct [(0, 1), (1, 1), (2, 4), (6, 1), (7, 1), (8, 1), (9, 1), (10, 1)], [.b false, .b false, .i .i64 0, .i .i64 0, .i .i64 0, .i .i64 0, .i .i64 0, .i .i64 0, .i .i64 0, .i .i64 0, .b false], true⟩),
  (113, ⟨3, 40, .struct [(0, 1), (1, 1), (2, 1)], [.sl none 0, .i .i64 0, .i .i64 0], false⟩),
  (117, ⟨1, 8, .other, [.p none], false⟩),
  (135, ⟨1, 8, .other, [.p none], false⟩),
  (136, ⟨1, 8, .other, [.p none], false⟩),
  (142, ⟨1, 8, .int .u64, [.i .u64 0], false⟩),
  (156, ⟨1, 8, .other, [.p none], false⟩),
  (168, ⟨1, 4, .int .u32, [.i .u32 0], false⟩),
  (172, ⟨1, 8, .other, [.p none], false⟩)]
def fns : List Nat := [4, 8, 10, 11, 12, 16, 18, 19, 20, 21, 22, 23, 24, 25, 26, 27, 28, 29, 30, 31, 32, 33, 34, 35, 36, 46, 47, 48, 49, 50, 51, 52, 53, 54, 55, 56, 57, 58, 59, 60, 62, 63, 64, 65, 66, 67, 68, 69, 70, 71, 72, 73, 74, 75, 76, 77, 78, 79, 80, 81, 82, 83, 86, 88, 89, 90, 91, 92, 93, 94, 95, 96, 97, 98, 99, 100, 101, 102, 103, 104, 105, 106, 107, 108, 109, 110, 111, 112, 113, 114, 115, 116, 118, 119, 120, 121, 122, 123, 124, 125, 126, 127, 128, 129, 130, 131, 132, 133, 134, 135, 136, 137, 138, 139, 140, 141, 146, 147, 148, 149, 150, 151, 152, 153, 154, 155, 156, 157, 158, 159, 160, 161, 162, 173, 174, 177]
def wrs : List Nat := [96, 90, 124, 91, 46, 86, 89, 83, 88, 66, 107, 108, 68, 125, 141, 92, 109, 67, 101]
def wts : List (Nat × Nat) := [(90, 113), (124, 113), (91, 113), (46, 113), (86, 113), (89, 113), (83, 113), (66, 113), (107, 113), (108, 113), (68, 113), (125, 113), (141, 113), (92, 113), (109, 113), (67, 113)]
noncomputable def env : Env := { P := Tryz.prog, τ := tabOf rows, K := 3000000, wr := fun f => wrs.contains f, ok := fun f => fns.contains f, wt := fun f => (wts.find? fun p => p.1 == f).map Prod.snd, dif := [(32, 4, 9)] }
theorem tab_ok : TabOk env.P env.τ := tabOk_of (by kernel_rfl)
theorem draws_ok : env.P.follows .mixedOrders = true := by kernel_rfl
theorem prog_ok : progB env fns = true := by kernel_rfl
theorem sound_all : CallOk env.P (run env) := sound_run fun d => sound draws_ok tab_ok fns (fun f h => by simpa [env] using h) prog_ok d
theorem env_P : env.P = Tryz.prog := rfl
@[simp] theorem ty2 : env.τ 2 = some ⟨1, 8, .int .i64, [.i .i64 0], false⟩ := rfl
@[simp] theorem ty3 : env.τ 3 = some ⟨1, 8, .int .i64, [.i .i64 0], false⟩ := rfl
@[simp] theorem ty4 : env.τ 4 = some ⟨1, 1, .bool, [.b false], false⟩ := rfl
@[simp] theorem ty5 : env.τ 5 = some ⟨1, 1, .int .u8, [.i .u8 0], false⟩ := rfl
@[simp] theorem ty9 : env.τ 9 = some ⟨1, 16, .str, [.s ByteArray.empty], false⟩ := rfl
@[simp] theorem ty12 : env.τ 12 = some ⟨1, 8, .int .u64, [.i .u64 0], false⟩ := rfl
@[simp] theorem ty21 : env.τ 21 = some ⟨1, 4, .int .i32, [.i .i32 0], false⟩ := rfl
@[simp] theorem ty22 : env.τ 22 = some ⟨1, 24, .slice 5, [.sl none 0], false⟩ := rfl
@[simp] theorem ty25 : env.τ 25 = some ⟨3, 24, .struct [(0, 1), (1, 1), (2, 1)], [.i .i64 0, .i .i64 0, .i .i64 0], true⟩ := rfl
@[simp] theorem ty26 : env.τ 26 = some ⟨1, 24, .slice 52, [.sl none 0], false⟩ := rfl
@[simp] theorem ty27 : env.τ 27 = some ⟨1, 24, .slice 91, [.sl none 0], false⟩ := rfl
@[simp] theorem ty28 : env.τ 28 = some ⟨1, 24, .slice 4, [.sl none 0], false⟩ := rfl
@[simp] theorem ty29 : env.τ 29 = some ⟨1, 24, .slice 64, [.sl none 0], false⟩ := rfl
@[simp] theorem ty30 : env.τ 30 = some ⟨1, 24, .slice 62, [.sl none 0], false⟩ := rfl
@[simp] theorem ty32 : env.τ 32 = some ⟨10, 160, .struct [(0, 1), (1, 1), (2, 3), (5, 1), (6, 1), (7, 1), (8, 1), (9, 1)], [.i .i64 0, .i .i64 0, .i .i64 0, .i .i64 0, .i .i64 0, .sl none 0, .sl none 0, .sl none 0, .sl none 0, .sl none 0], false⟩ := rfl
@[simp] theorem ty41 : env.τ 41 = some ⟨1, 24, .slice 99, [.sl none 0], false⟩ := rfl
@[simp] theorem ty43 : env.τ 43 = some ⟨2, 32, .struct [(0, 1), (1, 1)], [.i .i64 0, .sl none 0], false⟩ := rfl
@[simp] theorem ty52 : env.τ 52 = some ⟨7, 72, .struct [(0, 1), (1, 1), (2, 1), (3, 1), (4, 1), (5, 1), (6, 1)], [.b false, .i .i64 0, .i .i64 0, .sl none 0, .i .i64 0, .i .i64 0, .i .i64 0], false⟩ := rfl
@[simp] theorem ty53 : env.τ 53 = some ⟨1, 24, .slice 66, [.sl none 0], false⟩ := rfl
@[simp] theorem ty56 : env.τ 56 = some ⟨1, 24, .slice 3, [.sl none 0], false⟩ := rfl
@[simp] theorem ty60 : env.τ 60 = some ⟨4, 32, .struct [(0, 1), (1, 1), (2, 1), (3, 1)], [.i .i64 0, .i .i64 0, .i .i64 0, .i .i64 0], true⟩ := rfl
@[simp] theorem ty62 : env.τ 62 = some ⟨8, 64, .struct [(0, 1), (1, 1), (2, 4), (6, 1), (7, 1)], [.i .i64 0, .i .i64 0, .i .i64 0, .i .i64 0, .i .i64 0, .i .i64 0, .i .i64 0, .b false], true⟩ := rfl
@[simp] theorem ty64 : env.τ 64 = some ⟨8, 64, .struct [(0, 1), (1, 1), (2, 4), (6, 1), (7, 1)], [.i .i64 0, .i .i64 0, .i .i64 0, .i .i64 0, .i .i64 0, .i .i64 0, .i .i64 0, .b false], true⟩ := rfl
@[simp] theorem ty66 : env.τ 66 = some ⟨10, 80, .struct [(0, 1), (1, 1), (2, 8)], [.i .i64 0, .i .i64 0, .i .i64 0, .i .i64 0, .i .i64 0, .i .i64 0, .i .i64 0, .i .i64 0, .i .i64 0, .b false], true⟩ := rfl
@[simp] theorem ty74 : env.τ 74 = some ⟨1, 8, .other, [.p none], false⟩ := rfl
@[simp] theorem ty91 : env.τ 91 = some ⟨12, 96, .struct [(0, 1), (1, 1), (2, 1), (3, 1), (4, 8)], [.i .i64 0, .b false, .i .i64 0, .i .i64 0, .i .i64 0, .i .i64 0, .i .i64 0, .i .i64 0, .i .i64 0, .i .i64 0, .i .i64 0, .b false], true⟩ := rfl
@[simp] theorem ty99 : env.τ 99 = some ⟨11, 80, .struct [(0, 1), (1, 1), (2, 4), (6, 1), (7, 1), (8, 1), (9, 1), (10, 1)], [.b false, .b false, .i .i64 0, .i .i64 0, .i .i64 0, .i .i64 0, .i .i64 0, .i .i64 0, .i .i64 0, .i .i64 0, .b false], true⟩ := rfl
@[simp] theorem ty113 : env.τ 113 = some ⟨3, 40, .struct [(0, 1), (1, 1), (2, 1)], [.sl none 0, .i .i64 0, .i .i64 0], false⟩ := rfl
@[simp] theorem ty117 : env.τ 117 = some ⟨1, 8, .other, [.p none], false⟩ := rfl
@[simp] theorem ty135 : env.τ 135 = some ⟨1, 8, .other, [.p none], false⟩ := rfl
@[simp] theorem ty136 : env.τ 136 = some ⟨1, 8, .other, [.p none], false⟩ := rfl
@[simp] theorem ty142 : env.τ 142 = some ⟨1, 8, .int .u64, [.i .u64 0], false⟩ := rfl
@[simp] theorem ty156 : env.τ 156 = some ⟨1, 8, .other, [.p none], false⟩ := rfl
@[simp] theorem ty168 : env.τ 168 = some ⟨1, 4, .int .u32, [.i .u32 0], false⟩ := rfl
@[simp] theorem ty172 : env.τ 172 = some ⟨1, 8, .other, [.p none], false⟩ := rfl
theorem ok4 : env.ok 4 = true := rfl
theorem ok8 : env.ok 8 = true := rfl
theorem ok10 : env.ok 10 = true := rfl
theorem ok11 : env.ok 11 = true := rfl
theorem ok12 : env.ok 12 = true := rfl
theorem ok16 : env.ok 16 = true := rfl
theorem ok18 : env.ok 18 = true := rfl
theorem ok19 : env.ok 19 = true := rfl
theorem ok20 : env.ok 20 = true := rfl
theorem ok21 : env.ok 21 = true := rfl
theorem ok22 : env.ok 22 = true := rfl
theorem ok23 : env.ok 23 = true := rfl
theorem ok24 : env.ok 24 = true := rfl
theorem ok25 : env.ok 25 = true := rfl
theorem ok26 : env.ok 26 = true := rfl
theorem ok27 : env.ok 27 = true := rfl
theorem ok28 : env.ok 28 = true := rfl
theorem ok29 : env.ok 29 = true := rfl
theorem ok30 : env.ok 30 = true := rfl
theorem ok31 : env.ok 31 = true := rfl
theorem ok32 : env.ok 32 = true := rfl
theorem ok33 : env.ok 33 = true := rfl
theorem ok34 : env.ok 34 = true := rfl
theorem ok35 : env.ok 35 = true := rfl
theorem ok36 : env.ok 36 = true := rfl
theorem ok46 : env.ok 46 = true := rfl
theorem ok47 : env.ok 47 = true := rfl
theorem ok48 : env.ok 48 = true := rfl
theorem ok49 : env.ok 49 = true := rfl
theorem ok50 : env.ok 50 = true := rfl
theorem ok51 : env.ok 51 = true := rfl
theorem ok52 : env.ok 52 = true := rfl
theorem ok53 : env.ok 53 = true := rfl
theorem ok54 : env.ok 54 = true := rfl
theorem ok55 : env.ok 55 = true := rfl
theorem ok56 : env.ok 56 = true := rfl
theorem ok57 : env.ok 57 = true := rfl
theorem ok58 : env.ok 58 = true := rfl
theorem ok59 : env.ok 59 = true := rfl
theorem ok60 : env.ok 60 = true := rfl
theorem ok62 : env.ok 62 = true := rfl
theorem ok63 : env.ok 63 = true := rfl
theorem ok64 : env.ok 64 = true := rfl
theorem ok65 : env.ok 65 = true := rfl
theorem ok66 : env.ok 66 = true := rfl
theorem ok67 : env.ok 67 = true := rfl
theorem ok68 : env.ok 68 = true := rfl
theorem ok69 : env.ok 69 = true := rfl
theorem ok70 : env.ok 70 = true := rfl
theorem ok71 : env.ok 71 = true := rfl
theorem ok72 : env.ok 72 = true := rfl
theorem ok73 : env.ok 73 = true := rfl
theorem ok74 : env.ok 74 = true := rfl
theorem ok75 : env.ok 75 = true := rfl
theorem ok76 : env.ok 76 = true := rfl
theorem ok77 : env.ok 77 = true := rfl
theorem ok78 : env.ok 78 = true := rfl
theorem ok79 : env.ok 79 = true := rfl
theorem ok80 : env.ok 80 = true := rfl
theorem ok81 : env.ok 81 = true := rfl
theorem ok82 : env.ok 82 = true := rfl
theorem ok83 : env.ok 83 = true := rfl
theorem ok86 : env.ok 86 = true := rfl
theorem ok88 : env.ok 88 = true := rfl
theorem ok89 : env.ok 89 = true := rfl
theorem ok90 : env.ok 90 = true := rfl
theorem ok91 : env.ok 91 = true := rfl
theorem ok92 : env.ok 92 = true := rfl
theorem ok93 : env.ok 93 = true := rfl
theorem ok94 : env.ok 94 = true := rfl
theorem ok95 : env.ok 95 = true := rfl
theorem ok96 : env.ok 96 = true := rfl
theorem ok97 : env.ok 97 = true := rfl
theorem ok98 : env.ok 98 = true := rfl
theorem ok99 : env.ok 99 = true := rfl
theorem ok100 : env.ok 100 = true := rfl
theorem ok101 : env.ok 101 = true := rfl
theorem ok102 : env.ok 102 = true := rfl
theorem ok103 : env.ok 103 = true := rfl
theorem ok104 : env.ok 104 = true := rfl
theorem ok105 : env.ok 105 = true := rfl
theorem ok106 : env.ok 106 = true := rfl
theorem ok107 : env.ok 107 = true := rfl
theorem ok108 : env.ok 108 = true := rfl
theorem ok109 : env.ok 109 = true := rfl
theorem ok110 : env.ok 110 = true := rfl
theorem ok111 : env.ok 111 = true := rfl
theorem ok112 : env.ok 112 = true := rfl
theorem ok113 : env.ok 113 = true := rfl
theorem ok114 : env.ok 114 = true := rfl
theorem ok115 : env.ok 115 = true := rfl
theorem ok116 : env.ok 116 = true := rfl
theorem ok118 : env.ok 118 = true := rfl
theorem ok119 : env.ok 119 = true := rfl
theorem ok120 : env.ok 120 = true := rfl
theorem ok121 : env.ok 121 = true := rfl
theorem ok122 : env.ok 122 = true := rfl
theorem ok123 : env.ok 123 = true := rfl
theorem ok124 : env.ok 124 = true := rfl
theorem ok125 : env.ok 125 = true := rfl
theorem ok126 : env.ok 126 = true := rfl
theorem ok127 : env.ok 127 = true := rfl
theorem ok128 : env.ok 128 = true := rfl
theorem ok129 : env.ok 129 = true := rfl
theorem ok130 : env.ok 130 = true := rfl
theorem ok131 : env.ok 131 = true := rfl
theorem ok132 : env.ok 132 = true := rfl
theorem ok133 : env.ok 133 = true := rfl
theorem ok134 : env.ok 134 = true := rfl
theorem ok135 : env.ok 135 = true := rfl
theorem ok136 : env.ok 136 = true := rfl
theorem ok137 : env.ok 137 = true := rfl
theorem ok138 : env.ok 138 = true := rfl
theorem ok139 : env.ok 139 = true := rfl
theorem ok140 : env.ok 140 = true := rfl
theorem ok141 : env.ok 141 = true := rfl
theorem ok146 : env.ok 146 = true := rfl
theorem ok147 : env.ok 147 = true := rfl
theorem ok148 : env.ok 148 = true := rfl
theorem ok149 : env.ok 149 = true := rfl
theorem ok150 : env.ok 150 = true := rfl
theorem ok151 : env.ok 151 = true := rfl
theorem ok152 : env.ok 152 = true := rfl
theorem ok153 : env.ok 153 = true := rfl
theorem ok154 : env.ok 154 = true := rfl
theorem ok155 : env.ok 155 = true := rfl
theorem ok156 : env.ok 156 = true := rfl
theorem ok157 : env.ok 157 = true := rfl
theorem ok158 : env.ok 158 = true := rfl
theorem ok159 : env.ok 159 = true := rfl
theorem ok160 : env.ok 160 = true := rfl
theorem ok161 : env.ok 161 = true := rfl
theorem ok162 : env.ok 162 = true := rfl
theorem ok173 : env.ok 173 = true := rfl
theorem ok174 : env.ok 174 = true := rfl
theorem ok177 : env.ok 177 = true := rfl
theorem env_K : env.K = 3000000 := rfl
@[simp] theorem env_dif : env.dif = [(32, 4, 9)] := rfl
end W
end Go.Proofs.YtfhaanknijlamaaGreat

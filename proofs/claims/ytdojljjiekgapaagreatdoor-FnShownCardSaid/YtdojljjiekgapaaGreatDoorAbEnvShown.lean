/- The table of types of this translation, the functions that are run, and the checks that both are the program's. No conditions. -/
import Derived.Test.YtdojljjiekgapaaGreatDoorAbRep2
import Derived.Test.YtdojljjiekgapaaGreatDoorProg
import Derived.Test.YtdojljjiekgapaaGreatDoorAbBuild
import Derived.Test.YtdojljjiekgapaaGreatDoorShelf
set_option maxRecDepth 100000
namespace Go.Proofs.YtdojljjiekgapaaGreatDoor
open Go Go.Ab
namespace W
def rows : List (Nat × TI) := [
  (2, ⟨1, 8, .int .i64, [.i .i64 0], false⟩),
  (3, ⟨1, 8, .int .i64, [.i .i64 0], false⟩),
  (4, ⟨1, 1, .bool, [.b false], false⟩),
  (5, ⟨1, 1, .int .u8, [.i .u8 0], false⟩),
  (9, ⟨1, 16, .str, [.s ByteArray.empty], false⟩),
  (12, ⟨1, 8, .int .u64, [.i .u64 0], false⟩),
  (21, ⟨1, 4, .int .i32, [.i .i32 0], false⟩),
  (22, ⟨1, 24, .slice 5, [.sl none 0], false⟩),
  (25, ⟨4, 32, .struct [(0, 1), (1, 1), (2, 1), (3, 1)], [.i .i64 0, .i .i64 0, .i .i64 0, .i .i64 0], true⟩),
  (27, ⟨11, 80, .struct [(0, 1), (1, 1), (2, 4), (6, 1), (7, 1), (8, 1), (9, 1), (10, 1)], [.b false, .b false, .i .i64 0, .i .i64 0, .i .i64 0, .i .i64 0, .i .i64 0, .i .i64 0, .i .i64 0, .i .i64 0, .b false], true⟩),
  (29, ⟨1, 24, .slice 27, [.sl none 0], false⟩),
  (31, ⟨2, 32, .struct [(0, 1), (1, 1)], [.i .i64 0, .sl none 0], false⟩),
  (33, ⟨1, 24, .slice 78, [.sl none 0], false⟩),
  (35, ⟨7, 72, .struct [(0, 1), (1, 1), (2, 1), (3, 1), (4, 1), (5, 1), (6, 1)], [.b false, .i .i64 0, .i .i64 0, .sl none 0, .i .i64 0, .i .i64 0, .i .i64 0], false⟩),
  (38, ⟨3, 24, .struct [(0, 1), (1, 1), (2, 1)], [.i .i64 0, .i .i64 0, .i .i64 0], true⟩),
  (39, ⟨1, 24, .slice 35, [.sl none 0], false⟩),
  (40, ⟨1, 24, .slice 82, [.sl none 0], false⟩),
  (41, ⟨1, 24, .slice 4, [.sl none 0], false⟩),
  (42, ⟨1, 24, .slice 110, [.sl none 0], false⟩),
  (44, ⟨10, 160, .struct [(0, 1), (1, 1), (2, 3), (5, 1), (6, 1), (7, 1), (8, 1), (9, 1)], [.i .i64 0, .i .i64 0, .i .i64 0, .i .i64 0, .i .i64 0, .sl none 0, .sl none 0, .sl none 0, .sl none 0, .sl none 0], false⟩),
  (51, ⟨1, 8, .other, [.p none], false⟩),
  (56, ⟨1, 8, .other, [.p none], false⟩),
  (58, ⟨2, 32, .struct [(0, 1), (1, 1)], [.p none, .sl none 0], false⟩),
  (69, ⟨1, 24, .slice 9, [.sl none 0], false⟩),
  (71, ⟨1, 24, .slice 3, [.sl none 0], false⟩),
  (76, ⟨3, 40, .struct [(0, 1), (1, 1), (2, 1)], [.sl none 0, .i .i64 0, .i .i64 0], false⟩),
  (78, ⟨8, 64, .struct [(0, 1), (1, 1), (2, 4), (6, 1), (7, 1)], [.i .i64 0, .i .i64 0, .i .i64 0, .i .i64 0, .i .i64 0, .i .i64 0, .i .i64 0, .b false], true⟩),
  (82, ⟨12, 96, .struct [(0, 1), (1, 1), (2, 1), (3, 1), (4, 8)], [.i .i64 0, .b false, .i .i64 0, .i .i64 0, .i .i64 0, .i .i64 0, .i .i64 0, .i .i64 0, .i .i64 0, .i .i64 0, .i .i64 0, .b false], true⟩),
  (83, ⟨1, 8, .other, [.p none], false⟩),
  (95, ⟨1, 24, .slice 117, [.sl none 0], false⟩),
  (103, ⟨1, 8, .int .u64, [.i .u64 0], false⟩),
  (110, ⟨8, 64, .struct [(0, 1), (1, 1), (2, 4), (6, 1), (7, 1)], [.i .i64 0, .i .i64 0, .i .i64 0, .i .i64 0, .i .i64 0, .i .i64 0, .i .i64 0, .b false], true⟩),
  (117, ⟨10, 80, .struct [(0, 1), (1, 1), (2, 8)], [.i .i64 0, .i .i64 0, .i .i64 0, .i .i64 0, .i .i64 0, .i .i64 0, .i .i64 0, .i .i64 0, .i .i64 0, .b false], true⟩),
  (132, ⟨24, 24, .array 24 5, [.i .u8 0, .i .u8 0, .i .u8 0, .i .u8 0, .i .u8 0, .i .u8 0, .i .u8 0, .i .u8 0, .i .u8 0, .i .u8 0, .i .u8 0, .i .u8 0, .i .u8 0, .i .u8 0, .i .u8 0, .i .u8 0, .i .u8 0, .i .u8 0, .i .u8 0, .i .u8 0, .i .u8 0, .i .u8 0, .i .u8 0, .i .u8 0], false⟩),
  (133, ⟨1, 8, .int .u64, [.i .u64 0], false⟩),
  (153, ⟨20, 160, .array 20 133, [.i .u64 0, .i .u64 0, .i .u64 0, .i .u64 0, .i .u64 0, .i .u64 0, .i .u64 0, .i .u64 0, .i .u64 0, .i .u64 0, .i .u64 0, .i .u64 0, .i .u64 0, .i .u64 0, .i .u64 0, .i .u64 0, .i .u64 0, .i .u64 0, .i .u64 0, .i .u64 0], false⟩),
  (154, ⟨1, 4, .int .u32, [.i .u32 0], false⟩),
  (155, ⟨65, 65, .array 65 5, [.i .u8 0, .i .u8 0, .i .u8 0, .i .u8 0, .i .u8 0, .i .u8 0, .i .u8 0, .i .u8 0, .i .u8 0, .i .u8 0, .i .u8 0, .i .u8 0, .i .u8 0, .i .u8 0, .i .u8 0, .i .u8 0, .i .u8 0, .i .u8 0, .i .u8 0, .i .u8 0, .i .u8 0, .i .u8 0, .i .u8 0, .i .u8 0, .i .u8 0, .i .u8 0, .i .u8 0, .i .u8 0, .i .u8 0, .i .u8 0, .i .u8 0, .i .u8 0, .i .u8 0, .i .u8 0, .i .u8 0, .i .u8 0, .i .u8 0, .i .u8 0, .i .u8 0, .i .u8 0, .i .u8 0, .i .u8 0, .i .u8 0, .i .u8 0, .i .u8 0, .i .u8 0, .i .u8 0, .i .u8 0, .i .u8 0, .i .u8 0, .i .u8 0, .i .u8 0, .i .u8 0, .i .u8 0, .i .u8 0, .i .u8 0, .i .u8 0, .i .u8 0, .i .u8 0, .i .u8 0, .i .u8 0, .i .u8 0, .i .u8 0, .i .u8 0, .i .u8 0], false⟩),
  (161, ⟨32, 32, .array 32 5, [.i .u8 0, .i .u8 0, .i .u8 0, .i .u8 0, .i .u8 0, .i .u8 0, .i .u8 0, .i .u8 0, .i .u8 0, .i .u8 0, .i .u8 0, .i .u8 0, .i .u8 0, .i .u8 0, .i .u8 0, .i .u8 0, .i .u8 0, .i .u8 0, .i .u8 0, .i .u8 0, .i .u8 0, .i .u8 0, .i .u8 0, .i .u8 0, .i .u8 0, .i .u8 0, .i .u8 0, .i .u8 0, .i .u8 0, .i .u8 0, .i .u8 0, .i .u8 0], false⟩),
  (162, ⟨64, 64, .array 64 5, [.i .u8 0, .i .u8 0, .i .u8 0, .i .u8 0, .i .u8 0, .i .u8 0, .i .u8 0, .i .u8 0, .i .u8 0, .i .u8 0, .i .u8 0, .i .u8 0, .i .u8 0, .i .u8 0, .i .u8 0, .i .u8 0, .i .u8 0, .i .u8 0, .i .u8 0, .i .u8 0, .i .u8 0, .i .u8 0, .i .u8 0, .i .u8 0, .i .u8 0, .i .u8 0, .i .u8 0, .i .u8 0, .i .u8 0, .i .u8 0, .i .u8 0, .i .u8 0, .i .u8 0, .i .u8 0, .i .u8 0, .i .u8 0, .i .u8 0, .i .u8 0, .i .u8 0, .i .u8 0, .i .u8 0, .i .u8 0, .i .u8 0, .i .u8 0, .i .u8 0, .i .u8 0, .i .u8 0, .i .u8 0, .i .u8 0, .i .u8 0, .i .u8 0, .i .u8 0, .i .u8 0, .i .u8 0, .i .u8 0, .i .u8 0, .i .u8 0, .i .u8 0, .i .u8 0, .i .u8 0, .i .u8 0, .i .u8 0, .i .u8 0, .i .u8 0], false⟩)]
def fns : List Nat := [3, 4, 5, 6, 7, 8, 9, 10, 11, 12, 13, 14, 15, 16, 17, 18, 19, 20, 21, 22, 23, 24, 25, 27, 29, 30, 31, 32, 33, 34, 35, 36, 37, 38, 39, 40, 41, 45, 46, 47, 48, 49, 50, 51, 52, 53, 54, 55, 56, 60, 61, 62, 63, 64, 65, 66, 67, 68, 69, 70, 71, 72, 73, 74, 77, 78, 79, 80, 81, 82, 83, 84, 85, 86, 87, 88, 89, 90, 91, 96, 97, 98, 99, 100, 101, 102, 103, 104, 105, 111, 112]
def wrs : List Nat := [20, 38, 41, 21, 72, 40, 56, 73, 34, 51, 45, 36, 35, 48, 17, 33, 19, 39, 54, 37, 67]
def wts : List (Nat × Nat) := [(20, 76), (38, 76), (41, 76), (21, 76), (72, 76), (40, 76), (56, 76), (34, 76), (51, 76), (45, 76), (36, 76), (35, 76), (48, 76), (17, 76), (33, 76), (19, 76), (39, 76), (54, 76), (37, 76)]
noncomputable def env : Env := { P := Tryz.prog, τ := tabOf rows, K := 3000000, wr := fun f => wrs.contains f, ok := fun f => fns.contains f, wt := fun f => (wts.find? fun p => p.1 == f).map Prod.snd, dif := [(44, 4, 9)], ext := fun f args H => if f = 43 then itoaX args H else if f = 28 then joinX args H else if f = 42 then checkX args H else if f = 26 then bstrX 5 args H else none }
theorem tab_ok : TabOk env.P env.τ := tabOk_of (by kernel_rfl)
theorem draws_ok : env.P.follows .mixedOrders = true := by kernel_rfl
theorem prog_ok : progB env fns = true := by kernel_rfl
theorem tab_here : (1, Lib.pow10Tab.map fun z => Value.int .u64 z) ∈ tabs := List.Mem.head _
theorem tab_name : Tryz.prog.globalNamed "internal/strconv.uint64pow10" = some 1 := by kernel_rfl
theorem whole_is : ∀ e, noW e = false → e = 58 := by intro e h; simpa [noW, wholes] using h
theorem lays240 : Lays.n240 Tryz.prog Tryz.lays156_ren := { Tryz.lays156 with }
theorem lays169 : Lays.n169 Tryz.prog Tryz.lays156_ren := { Tryz.lays156 with }
theorem ext_is (f : Nat) (args : List V) (H : Heap) : env.ext f args H = if f = 43 then itoaX args H else if f = 28 then joinX args H else if f = 42 then checkX args H else if f = 26 then bstrX 5 args H else none := rfl
theorem ext_ok : ExtOk env := by
  intro f args H v H' _ he
  rw [ext_is] at he
  split at he
  · rename_i hf
    subst hf
    exact ⟨⟨_, _, Tryz.func43, rfl, by kernel_rfl⟩, fun μ w cargs hR hT ha => itoa_ok tab_name tab_here Tryz.strconv_Itoa he hR hT ha⟩
  split at he
  · rename_i hf
    subst hf
    exact ⟨⟨_, _, Tryz.func28, rfl, by kernel_rfl⟩, fun μ w cargs hR hT ha => join_ok Tryz.strings_Join_none Tryz.strings_Join he hR ha⟩
  split at he
  · rename_i hf
    subst hf
    exact ⟨⟨_, _, Tryz.func42, rfl, by kernel_rfl⟩, fun μ w cargs hR hT ha => check_ok whole_is (fun b w h1 h2 h3 => Any.Builder_copyCheck_fresh lays240 Tryz.Builder_Extra_156.toX72 b w h1 h2 h3) (fun b w h1 => Any.Builder_copyCheck_used lays240 Tryz.Builder_Extra_156.toX72 b w h1) he hR ha⟩
  split at he
  · rename_i hf
    subst hf
    exact ⟨⟨_, _, Tryz.func26, rfl, by kernel_rfl⟩, fun μ w cargs hR hT ha => bstr_ok (by kernel_rfl) (fun b g o cap cells l w h1 h2 h3 h4 h5 h6 h7 => Bstr.bstr lays169 Tryz.Builder_Extra_156 b g o cap cells l w h1 h2 h3 h4 h5 h6 h7) he hR ha⟩
  · cases he
theorem nok43 : env.ok 43 = false := rfl
theorem nok28 : env.ok 28 = false := rfl
theorem nok42 : env.ok 42 = false := rfl
theorem nok26 : env.ok 26 = false := rfl
theorem sound_all : CallOk env.P (run env) := sound_run fun d => sound draws_ok tab_ok ext_ok fns (fun f h => by simpa [env] using h) prog_ok d
theorem env_P : env.P = Tryz.prog := rfl
@[simp] theorem ty2 : env.τ 2 = some ⟨1, 8, .int .i64, [.i .i64 0], false⟩ := rfl
@[simp] theorem ty3 : env.τ 3 = some ⟨1, 8, .int .i64, [.i .i64 0], false⟩ := rfl
@[simp] theorem ty4 : env.τ 4 = some ⟨1, 1, .bool, [.b false], false⟩ := rfl
@[simp] theorem ty5 : env.τ 5 = some ⟨1, 1, .int .u8, [.i .u8 0], false⟩ := rfl
@[simp] theorem ty9 : env.τ 9 = some ⟨1, 16, .str, [.s ByteArray.empty], false⟩ := rfl
@[simp] theorem ty12 : env.τ 12 = some ⟨1, 8, .int .u64, [.i .u64 0], false⟩ := rfl
@[simp] theorem ty21 : env.τ 21 = some ⟨1, 4, .int .i32, [.i .i32 0], false⟩ := rfl
@[simp] theorem ty22 : env.τ 22 = some ⟨1, 24, .slice 5, [.sl none 0], false⟩ := rfl
@[simp] theorem ty25 : env.τ 25 = some ⟨4, 32, .struct [(0, 1), (1, 1), (2, 1), (3, 1)], [.i .i64 0, .i .i64 0, .i .i64 0, .i .i64 0], true⟩ := rfl
@[simp] theorem ty27 : env.τ 27 = some ⟨11, 80, .struct [(0, 1), (1, 1), (2, 4), (6, 1), (7, 1), (8, 1), (9, 1), (10, 1)], [.b false, .b false, .i .i64 0, .i .i64 0, .i .i64 0, .i .i64 0, .i .i64 0, .i .i64 0, .i .i64 0, .i .i64 0, .b false], true⟩ := rfl
@[simp] theorem ty29 : env.τ 29 = some ⟨1, 24, .slice 27, [.sl none 0], false⟩ := rfl
@[simp] theorem ty31 : env.τ 31 = some ⟨2, 32, .struct [(0, 1), (1, 1)], [.i .i64 0, .sl none 0], false⟩ := rfl
@[simp] theorem ty33 : env.τ 33 = some ⟨1, 24, .slice 78, [.sl none 0], false⟩ := rfl
@[simp] theorem ty35 : env.τ 35 = some ⟨7, 72, .struct [(0, 1), (1, 1), (2, 1), (3, 1), (4, 1), (5, 1), (6, 1)], [.b false, .i .i64 0, .i .i64 0, .sl none 0, .i .i64 0, .i .i64 0, .i .i64 0], false⟩ := rfl
@[simp] theorem ty38 : env.τ 38 = some ⟨3, 24, .struct [(0, 1), (1, 1), (2, 1)], [.i .i64 0, .i .i64 0, .i .i64 0], true⟩ := rfl
@[simp] theorem ty39 : env.τ 39 = some ⟨1, 24, .slice 35, [.sl none 0], false⟩ := rfl
@[simp] theorem ty40 : env.τ 40 = some ⟨1, 24, .slice 82, [.sl none 0], false⟩ := rfl
@[simp] theorem ty41 : env.τ 41 = some ⟨1, 24, .slice 4, [.sl none 0], false⟩ := rfl
@[simp] theorem ty42 : env.τ 42 = some ⟨1, 24, .slice 110, [.sl none 0], false⟩ := rfl
@[simp] theorem ty44 : env.τ 44 = some ⟨10, 160, .struct [(0, 1), (1, 1), (2, 3), (5, 1), (6, 1), (7, 1), (8, 1), (9, 1)], [.i .i64 0, .i .i64 0, .i .i64 0, .i .i64 0, .i .i64 0, .sl none 0, .sl none 0, .sl none 0, .sl none 0, .sl none 0], false⟩ := rfl
@[simp] theorem ty51 : env.τ 51 = some ⟨1, 8, .other, [.p none], false⟩ := rfl
@[simp] theorem ty56 : env.τ 56 = some ⟨1, 8, .other, [.p none], false⟩ := rfl
@[simp] theorem ty58 : env.τ 58 = some ⟨2, 32, .struct [(0, 1), (1, 1)], [.p none, .sl none 0], false⟩ := rfl
@[simp] theorem ty69 : env.τ 69 = some ⟨1, 24, .slice 9, [.sl none 0], false⟩ := rfl
@[simp] theorem ty71 : env.τ 71 = some ⟨1, 24, .slice 3, [.sl none 0], false⟩ := rfl
@[simp] theorem ty76 : env.τ 76 = some ⟨3, 40, .struct [(0, 1), (1, 1), (2, 1)], [.sl none 0, .i .i64 0, .i .i64 0], false⟩ := rfl
@[simp] theorem ty78 : env.τ 78 = some ⟨8, 64, .struct [(0, 1), (1, 1), (2, 4), (6, 1), (7, 1)], [.i .i64 0, .i .i64 0, .i .i64 0, .i .i64 0, .i .i64 0, .i .i64 0, .i .i64 0, .b false], true⟩ := rfl
@[simp] theorem ty82 : env.τ 82 = some ⟨12, 96, .struct [(0, 1), (1, 1), (2, 1), (3, 1), (4, 8)], [.i .i64 0, .b false, .i .i64 0, .i .i64 0, .i .i64 0, .i .i64 0, .i .i64 0, .i .i64 0, .i .i64 0, .i .i64 0, .i .i64 0, .b false], true⟩ := rfl
@[simp] theorem ty83 : env.τ 83 = some ⟨1, 8, .other, [.p none], false⟩ := rfl
@[simp] theorem ty95 : env.τ 95 = some ⟨1, 24, .slice 117, [.sl none 0], false⟩ := rfl
@[simp] theorem ty103 : env.τ 103 = some ⟨1, 8, .int .u64, [.i .u64 0], false⟩ := rfl
@[simp] theorem ty110 : env.τ 110 = some ⟨8, 64, .struct [(0, 1), (1, 1), (2, 4), (6, 1), (7, 1)], [.i .i64 0, .i .i64 0, .i .i64 0, .i .i64 0, .i .i64 0, .i .i64 0, .i .i64 0, .b false], true⟩ := rfl
@[simp] theorem ty117 : env.τ 117 = some ⟨10, 80, .struct [(0, 1), (1, 1), (2, 8)], [.i .i64 0, .i .i64 0, .i .i64 0, .i .i64 0, .i .i64 0, .i .i64 0, .i .i64 0, .i .i64 0, .i .i64 0, .b false], true⟩ := rfl
@[simp] theorem ty132 : env.τ 132 = some ⟨24, 24, .array 24 5, [.i .u8 0, .i .u8 0, .i .u8 0, .i .u8 0, .i .u8 0, .i .u8 0, .i .u8 0, .i .u8 0, .i .u8 0, .i .u8 0, .i .u8 0, .i .u8 0, .i .u8 0, .i .u8 0, .i .u8 0, .i .u8 0, .i .u8 0, .i .u8 0, .i .u8 0, .i .u8 0, .i .u8 0, .i .u8 0, .i .u8 0, .i .u8 0], false⟩ := rfl
@[simp] theorem ty133 : env.τ 133 = some ⟨1, 8, .int .u64, [.i .u64 0], false⟩ := rfl
@[simp] theorem ty153 : env.τ 153 = some ⟨20, 160, .array 20 133, [.i .u64 0, .i .u64 0, .i .u64 0, .i .u64 0, .i .u64 0, .i .u64 0, .i .u64 0, .i .u64 0, .i .u64 0, .i .u64 0, .i .u64 0, .i .u64 0, .i .u64 0, .i .u64 0, .i .u64 0, .i .u64 0, .i .u64 0, .i .u64 0, .i .u64 0, .i .u64 0], false⟩ := rfl
@[simp] theorem ty154 : env.τ 154 = some ⟨1, 4, .int .u32, [.i .u32 0], false⟩ := rfl
@[simp] theorem ty155 : env.τ 155 = some ⟨65, 65, .array 65 5, [.i .u8 0, .i .u8 0, .i .u8 0, .i .u8 0, .i .u8 0, .i .u8 0, .i .u8 0, .i .u8 0, .i .u8 0, .i .u8 0, .i .u8 0, .i .u8 0, .i .u8 0, .i .u8 0, .i .u8 0, .i .u8 0, .i .u8 0, .i .u8 0, .i .u8 0, .i .u8 0, .i .u8 0, .i .u8 0, .i .u8 0, .i .u8 0, .i .u8 0, .i .u8 0, .i .u8 0, .i .u8 0, .i .u8 0, .i .u8 0, .i .u8 0, .i .u8 0, .i .u8 0, .i .u8 0, .i .u8 0, .i .u8 0, .i .u8 0, .i .u8 0, .i .u8 0, .i .u8 0, .i .u8 0, .i .u8 0, .i .u8 0, .i .u8 0, .i .u8 0, .i .u8 0, .i .u8 0, .i .u8 0, .i .u8 0, .i .u8 0, .i .u8 0, .i .u8 0, .i .u8 0, .i .u8 0, .i .u8 0, .i .u8 0, .i .u8 0, .i .u8 0, .i .u8 0, .i .u8 0, .i .u8 0, .i .u8 0, .i .u8 0, .i .u8 0, .i .u8 0], false⟩ := rfl
@[simp] theorem ty161 : env.τ 161 = some ⟨32, 32, .array 32 5, [.i .u8 0, .i .u8 0, .i .u8 0, .i .u8 0, .i .u8 0, .i .u8 0, .i .u8 0, .i .u8 0, .i .u8 0, .i .u8 0, .i .u8 0, .i .u8 0, .i .u8 0, .i .u8 0, .i .u8 0, .i .u8 0, .i .u8 0, .i .u8 0, .i .u8 0, .i .u8 0, .i .u8 0, .i .u8 0, .i .u8 0, .i .u8 0, .i .u8 0, .i .u8 0, .i .u8 0, .i .u8 0, .i .u8 0, .i .u8 0, .i .u8 0, .i .u8 0], false⟩ := rfl
@[simp] theorem ty162 : env.τ 162 = some ⟨64, 64, .array 64 5, [.i .u8 0, .i .u8 0, .i .u8 0, .i .u8 0, .i .u8 0, .i .u8 0, .i .u8 0, .i .u8 0, .i .u8 0, .i .u8 0, .i .u8 0, .i .u8 0, .i .u8 0, .i .u8 0, .i .u8 0, .i .u8 0, .i .u8 0, .i .u8 0, .i .u8 0, .i .u8 0, .i .u8 0, .i .u8 0, .i .u8 0, .i .u8 0, .i .u8 0, .i .u8 0, .i .u8 0, .i .u8 0, .i .u8 0, .i .u8 0, .i .u8 0, .i .u8 0, .i .u8 0, .i .u8 0, .i .u8 0, .i .u8 0, .i .u8 0, .i .u8 0, .i .u8 0, .i .u8 0, .i .u8 0, .i .u8 0, .i .u8 0, .i .u8 0, .i .u8 0, .i .u8 0, .i .u8 0, .i .u8 0, .i .u8 0, .i .u8 0, .i .u8 0, .i .u8 0, .i .u8 0, .i .u8 0, .i .u8 0, .i .u8 0, .i .u8 0, .i .u8 0, .i .u8 0, .i .u8 0, .i .u8 0, .i .u8 0, .i .u8 0, .i .u8 0], false⟩ := rfl
theorem ok3 : env.ok 3 = true := rfl
theorem ok4 : env.ok 4 = true := rfl
theorem ok5 : env.ok 5 = true := rfl
theorem ok6 : env.ok 6 = true := rfl
theorem ok7 : env.ok 7 = true := rfl
theorem ok8 : env.ok 8 = true := rfl
theorem ok9 : env.ok 9 = true := rfl
theorem ok10 : env.ok 10 = true := rfl
theorem ok11 : env.ok 11 = true := rfl
theorem ok12 : env.ok 12 = true := rfl
theorem ok13 : env.ok 13 = true := rfl
theorem ok14 : env.ok 14 = true := rfl
theorem ok15 : env.ok 15 = true := rfl
theorem ok16 : env.ok 16 = true := rfl
theorem ok17 : env.ok 17 = true := rfl
theorem ok18 : env.ok 18 = true := rfl
theorem ok19 : env.ok 19 = true := rfl
theorem ok20 : env.ok 20 = true := rfl
theorem ok21 : env.ok 21 = true := rfl
theorem ok22 : env.ok 22 = true := rfl
theorem ok23 : env.ok 23 = true := rfl
theorem ok24 : env.ok 24 = true := rfl
theorem ok25 : env.ok 25 = true := rfl
theorem ok27 : env.ok 27 = true := rfl
theorem ok29 : env.ok 29 = true := rfl
theorem ok30 : env.ok 30 = true := rfl
theorem ok31 : env.ok 31 = true := rfl
theorem ok32 : env.ok 32 = true := rfl
theorem ok33 : env.ok 33 = true := rfl
theorem ok34 : env.ok 34 = true := rfl
theorem ok35 : env.ok 35 = true := rfl
theorem ok36 : env.ok 36 = true := rfl
theorem ok37 : env.ok 37 = true := rfl
theorem ok38 : env.ok 38 = true := rfl
theorem ok39 : env.ok 39 = true := rfl
theorem ok40 : env.ok 40 = true := rfl
theorem ok41 : env.ok 41 = true := rfl
theorem ok45 : env.ok 45 = true := rfl
theorem ok46 : env.ok 46 = true := rfl
theorem ok47 : env.ok 47 = true := rfl
theorem ok48 : env.ok 48 = true := rfl
theorem ok49 : env.ok 49 = true := rfl
theorem ok50 : env.ok 50 = true := rfl
theorem ok51 : env.ok 51 = true := rfl
theorem ok52 : env.ok 52 = true := rfl
theorem ok53 : env.ok 53 = true := rfl
theorem ok54 : env.ok 54 = true := rfl
theorem ok55 : env.ok 55 = true := rfl
theorem ok56 : env.ok 56 = true := rfl
theorem ok60 : env.ok 60 = true := rfl
theorem ok61 : env.ok 61 = true := rfl
theorem ok62 : env.ok 62 = true := rfl
theorem ok63 : env.ok 63 = true := rfl
theorem ok64 : env.ok 64 = true := rfl
theorem ok65 : env.ok 65 = true := rfl
theorem ok66 : env.ok 66 = true := rfl
theorem ok67 : env.ok 67 = true := rfl
theorem ok68 : env.ok 68 = true := rfl
theorem ok69 : env.ok 69 = true := rfl
theorem ok70 : env.ok 70 = true := rfl
theorem ok71 : env.ok 71 = true := rfl
theorem ok72 : env.ok 72 = true := rfl
theorem ok73 : env.ok 73 = true := rfl
theorem ok74 : env.ok 74 = true := rfl
theorem ok77 : env.ok 77 = true := rfl
theorem ok78 : env.ok 78 = true := rfl
theorem ok79 : env.ok 79 = true := rfl
theorem ok80 : env.ok 80 = true := rfl
theorem ok81 : env.ok 81 = true := rfl
theorem ok82 : env.ok 82 = true := rfl
theorem ok83 : env.ok 83 = true := rfl
theorem ok84 : env.ok 84 = true := rfl
theorem ok85 : env.ok 85 = true := rfl
theorem ok86 : env.ok 86 = true := rfl
theorem ok87 : env.ok 87 = true := rfl
theorem ok88 : env.ok 88 = true := rfl
theorem ok89 : env.ok 89 = true := rfl
theorem ok90 : env.ok 90 = true := rfl
theorem ok91 : env.ok 91 = true := rfl
theorem ok96 : env.ok 96 = true := rfl
theorem ok97 : env.ok 97 = true := rfl
theorem ok98 : env.ok 98 = true := rfl
theorem ok99 : env.ok 99 = true := rfl
theorem ok100 : env.ok 100 = true := rfl
theorem ok101 : env.ok 101 = true := rfl
theorem ok102 : env.ok 102 = true := rfl
theorem ok103 : env.ok 103 = true := rfl
theorem ok104 : env.ok 104 = true := rfl
theorem ok105 : env.ok 105 = true := rfl
theorem ok111 : env.ok 111 = true := rfl
theorem ok112 : env.ok 112 = true := rfl
theorem env_K : env.K = 3000000 := rfl
@[simp] theorem env_dif : env.dif = [(44, 4, 9)] := rfl
end W
end Go.Proofs.YtdojljjiekgapaaGreatDoor

/- The table of types of this translation, the functions that are run, and the checks that both are the program's. No conditions. -/
import Derived.Test.YtjgjjaidpceieabDoorAbRep2
import Derived.Test.YtjgjjaidpceieabDoorProg
import Derived.Test.YtjgjjaidpceieabDoorAbBuild
import Derived.Test.YtjgjjaidpceieabDoorShelf
set_option maxRecDepth 100000
namespace Go.Proofs.YtjgjjaidpceieabDoor
open Go Go.Ab
namespace W
def rows : List (Nat × TI) := [
  (2, ⟨1, 8, .int .i64, [.i .i64 0], false⟩),
  (3, ⟨1, 8, .int .i64, [.i .i64 0], false⟩),
  (4, ⟨1, 1, .bool, [.b false], false⟩),
  (5, ⟨1, 1, .int .u8, [.i .u8 0], false⟩),
  (9, ⟨1, 16, .str, [.s ByteArray.empty], false⟩),
  (12, ⟨1, 8, .int .u64, [.i .u64 0], false⟩),
  (21, ⟨1, 4, .int .i32, [.i .i32 0], false⟩),
  (23, ⟨4, 32, .struct [(0, 1), (1, 1), (2, 1), (3, 1)], [.i .i64 0, .i .i64 0, .i .i64 0, .i .i64 0], true⟩),
  (25, ⟨11, 80, .struct [(0, 1), (1, 1), (2, 4), (6, 1), (7, 1), (8, 1), (9, 1), (10, 1)], [.b false, .b false, .i .i64 0, .i .i64 0, .i .i64 0, .i .i64 0, .i .i64 0, .i .i64 0, .i .i64 0, .i .i64 0, .b false], true⟩),
  (27, ⟨4, 32, .struct [(0, 1), (1, 1), (2, 1), (3, 1)], [.i .i64 0, .i .i64 0, .i .i64 0, .i .i64 0], true⟩),
  (29, ⟨11, 80, .struct [(0, 1), (1, 1), (2, 4), (6, 1), (7, 1), (8, 1), (9, 1), (10, 1)], [.b false, .b false, .i .i64 0, .i .i64 0, .i .i64 0, .i .i64 0, .i .i64 0, .i .i64 0, .i .i64 0, .i .i64 0, .b false], true⟩),
  (32, ⟨1, 24, .slice 116, [.sl none 0], false⟩),
  (34, ⟨7, 72, .struct [(0, 1), (1, 1), (2, 1), (3, 1), (4, 1), (5, 1), (6, 1)], [.b false, .i .i64 0, .i .i64 0, .sl none 0, .i .i64 0, .i .i64 0, .i .i64 0], false⟩),
  (37, ⟨1, 24, .slice 113, [.sl none 0], false⟩),
  (39, ⟨7, 72, .struct [(0, 1), (1, 1), (2, 1), (3, 1), (4, 1), (5, 1), (6, 1)], [.b false, .i .i64 0, .i .i64 0, .sl none 0, .i .i64 0, .i .i64 0, .i .i64 0], false⟩),
  (43, ⟨1, 24, .slice 25, [.sl none 0], false⟩),
  (45, ⟨2, 32, .struct [(0, 1), (1, 1)], [.i .i64 0, .sl none 0], false⟩),
  (48, ⟨1, 24, .slice 29, [.sl none 0], false⟩),
  (50, ⟨2, 32, .struct [(0, 1), (1, 1)], [.i .i64 0, .sl none 0], false⟩),
  (55, ⟨3, 24, .struct [(0, 1), (1, 1), (2, 1)], [.i .i64 0, .i .i64 0, .i .i64 0], true⟩),
  (56, ⟨1, 24, .slice 34, [.sl none 0], false⟩),
  (57, ⟨1, 24, .slice 123, [.sl none 0], false⟩),
  (58, ⟨1, 24, .slice 4, [.sl none 0], false⟩),
  (59, ⟨1, 24, .slice 128, [.sl none 0], false⟩),
  (61, ⟨10, 160, .struct [(0, 1), (1, 1), (2, 3), (5, 1), (6, 1), (7, 1), (8, 1), (9, 1)], [.i .i64 0, .i .i64 0, .i .i64 0, .i .i64 0, .i .i64 0, .sl none 0, .sl none 0, .sl none 0, .sl none 0, .sl none 0], false⟩),
  (64, ⟨3, 24, .struct [(0, 1), (1, 1), (2, 1)], [.i .i64 0, .i .i64 0, .i .i64 0], true⟩),
  (65, ⟨1, 24, .slice 39, [.sl none 0], false⟩),
  (66, ⟨1, 24, .slice 120, [.sl none 0], false⟩),
  (67, ⟨1, 24, .slice 125, [.sl none 0], false⟩),
  (69, ⟨10, 160, .struct [(0, 1), (1, 1), (2, 3), (5, 1), (6, 1), (7, 1), (8, 1), (9, 1)], [.i .i64 0, .i .i64 0, .i .i64 0, .i .i64 0, .i .i64 0, .sl none 0, .sl none 0, .sl none 0, .sl none 0, .sl none 0], false⟩),
  (74, ⟨1, 24, .slice 9, [.sl none 0], false⟩),
  (80, ⟨1, 24, .slice 3, [.sl none 0], false⟩),
  (96, ⟨1, 8, .other, [.p none], false⟩),
  (97, ⟨1, 24, .slice 5, [.sl none 0], false⟩),
  (99, ⟨2, 32, .struct [(0, 1), (1, 1)], [.p none, .sl none 0], false⟩),
  (113, ⟨8, 64, .struct [(0, 1), (1, 1), (2, 4), (6, 1), (7, 1)], [.i .i64 0, .i .i64 0, .i .i64 0, .i .i64 0, .i .i64 0, .i .i64 0, .i .i64 0, .b false], true⟩),
  (116, ⟨8, 64, .struct [(0, 1), (1, 1), (2, 4), (6, 1), (7, 1)], [.i .i64 0, .i .i64 0, .i .i64 0, .i .i64 0, .i .i64 0, .i .i64 0, .i .i64 0, .b false], true⟩),
  (120, ⟨12, 96, .struct [(0, 1), (1, 1), (2, 1), (3, 1), (4, 8)], [.i .i64 0, .b false, .i .i64 0, .i .i64 0, .i .i64 0, .i .i64 0, .i .i64 0, .i .i64 0, .i .i64 0, .i .i64 0, .i .i64 0, .b false], true⟩),
  (123, ⟨12, 96, .struct [(0, 1), (1, 1), (2, 1), (3, 1), (4, 8)], [.i .i64 0, .b false, .i .i64 0, .i .i64 0, .i .i64 0, .i .i64 0, .i .i64 0, .i .i64 0, .i .i64 0, .i .i64 0, .i .i64 0, .b false], true⟩),
  (125, ⟨8, 64, .struct [(0, 1), (1, 1), (2, 4), (6, 1), (7, 1)], [.i .i64 0, .i .i64 0, .i .i64 0, .i .i64 0, .i .i64 0, .i .i64 0, .i .i64 0, .b false], true⟩),
  (128, ⟨8, 64, .struct [(0, 1), (1, 1), (2, 4), (6, 1), (7, 1)], [.i .i64 0, .i .i64 0, .i .i64 0, .i .i64 0, .i .i64 0, .i .i64 0, .i .i64 0, .b false], true⟩),
  (129, ⟨1, 8, .other, [.p none], false⟩),
  (137, ⟨24, 24, .array 24 5, [.i .u8 0, .i .u8 0, .i .u8 0, .i .u8 0, .i .u8 0, .i .u8 0, .i .u8 0, .i .u8 0, .i .u8 0, .i .u8 0, .i .u8 0, .i .u8 0, .i .u8 0, .i .u8 0, .i .u8 0, .i .u8 0, .i .u8 0, .i .u8 0, .i .u8 0, .i .u8 0, .i .u8 0, .i .u8 0, .i .u8 0, .i .u8 0], false⟩),
  (138, ⟨1, 8, .int .u64, [.i .u64 0], false⟩),
  (145, ⟨20, 160, .array 20 138, [.i .u64 0, .i .u64 0, .i .u64 0, .i .u64 0, .i .u64 0, .i .u64 0, .i .u64 0, .i .u64 0, .i .u64 0, .i .u64 0, .i .u64 0, .i .u64 0, .i .u64 0, .i .u64 0, .i .u64 0, .i .u64 0, .i .u64 0, .i .u64 0, .i .u64 0, .i .u64 0], false⟩),
  (146, ⟨1, 4, .int .u32, [.i .u32 0], false⟩),
  (147, ⟨65, 65, .array 65 5, [.i .u8 0, .i .u8 0, .i .u8 0, .i .u8 0, .i .u8 0, .i .u8 0, .i .u8 0, .i .u8 0, .i .u8 0, .i .u8 0, .i .u8 0, .i .u8 0, .i .u8 0, .i .u8 0, .i .u8 0, .i .u8 0, .i .u8 0, .i .u8 0, .i .u8 0, .i .u8 0, .i .u8 0, .i .u8 0, .i .u8 0, .i .u8 0, .i .u8 0, .i .u8 0, .i .u8 0, .i .u8 0, .i .u8 0, .i .u8 0, .i .u8 0, .i .u8 0, .i .u8 0, .i .u8 0, .i .u8 0, .i .u8 0, .i .u8 0, .i .u8 0, .i .u8 0, .i .u8 0, .i .u8 0, .i .u8 0, .i .u8 0, .i .u8 0, .i .u8 0, .i .u8 0, .i .u8 0, .i .u8 0, .i .u8 0, .i .u8 0, .i .u8 0, .i .u8 0, .i .u8 0, .i .u8 0, .i .u8 0, .i .u8 0, .i .u8 0, .i .u8 0, .i .u8 0, .i .u8 0, .i .u8 0, .i .u8 0, .i .u8 0, .i .u8 0, .i .u8 0], false⟩),
  (149, ⟨1, 8, .int .u64, [.i .u64 0], false⟩),
  (152, ⟨32, 32, .array 32 5, [.i .u8 0, .i .u8 0, .i .u8 0, .i .u8 0, .i .u8 0, .i .u8 0, .i .u8 0, .i .u8 0, .i .u8 0, .i .u8 0, .i .u8 0, .i .u8 0, .i .u8 0, .i .u8 0, .i .u8 0, .i .u8 0, .i .u8 0, .i .u8 0, .i .u8 0, .i .u8 0, .i .u8 0, .i .u8 0, .i .u8 0, .i .u8 0, .i .u8 0, .i .u8 0, .i .u8 0, .i .u8 0, .i .u8 0, .i .u8 0, .i .u8 0, .i .u8 0], false⟩),
  (153, ⟨64, 64, .array 64 5, [.i .u8 0, .i .u8 0, .i .u8 0, .i .u8 0, .i .u8 0, .i .u8 0, .i .u8 0, .i .u8 0, .i .u8 0, .i .u8 0, .i .u8 0, .i .u8 0, .i .u8 0, .i .u8 0, .i .u8 0, .i .u8 0, .i .u8 0, .i .u8 0, .i .u8 0, .i .u8 0, .i .u8 0, .i .u8 0, .i .u8 0, .i .u8 0, .i .u8 0, .i .u8 0, .i .u8 0, .i .u8 0, .i .u8 0, .i .u8 0, .i .u8 0, .i .u8 0, .i .u8 0, .i .u8 0, .i .u8 0, .i .u8 0, .i .u8 0, .i .u8 0, .i .u8 0, .i .u8 0, .i .u8 0, .i .u8 0, .i .u8 0, .i .u8 0, .i .u8 0, .i .u8 0, .i .u8 0, .i .u8 0, .i .u8 0, .i .u8 0, .i .u8 0, .i .u8 0, .i .u8 0, .i .u8 0, .i .u8 0, .i .u8 0, .i .u8 0, .i .u8 0, .i .u8 0, .i .u8 0, .i .u8 0, .i .u8 0, .i .u8 0, .i .u8 0], false⟩)]
def fns : List Nat := [6, 10, 11, 12, 13, 14, 20, 21, 22, 23, 24, 26, 28, 32, 33, 34, 35, 36, 40, 41, 42, 43, 44, 45, 46, 47, 48, 49, 50, 52, 53, 54, 55, 56, 59, 60, 62, 63, 65, 66, 69]
def wrs : List Nat := []
def wts : List (Nat × Nat) := []
noncomputable def env : Env := { P := Tryd.prog, τ := tabOf rows, K := 3000000, wr := fun f => wrs.contains f, ok := fun f => fns.contains f, wt := fun f => (wts.find? fun p => p.1 == f).map Prod.snd, dif := [], ext := fun f args H => if f = 58 then itoaX args H else if f = 30 then joinX args H else if f = 64 then checkX args H else if f = 51 then bstrX 5 args H else none }
theorem tab_ok : TabOk env.P env.τ := tabOk_of (by kernel_rfl)
theorem draws_ok : env.P.follows .mixedOrders = true := by kernel_rfl
theorem prog_ok : progB env fns = true := by kernel_rfl
theorem tab_here : (1, Lib.pow10Tab.map fun z => Value.int .u64 z) ∈ tabs := List.Mem.head _
theorem tab_name : Tryd.prog.globalNamed "internal/strconv.uint64pow10" = some 1 := by kernel_rfl
theorem whole_is : ∀ e, noW e = false → e = 99 := by intro e h; simpa [noW, wholes] using h
theorem lays240 : Lays.n240 Tryd.prog Tryd.lays156_ren := { Tryd.lays156 with }
theorem lays169 : Lays.n169 Tryd.prog Tryd.lays156_ren := { Tryd.lays156 with }
theorem ext_is (f : Nat) (args : List V) (H : Heap) : env.ext f args H = if f = 58 then itoaX args H else if f = 30 then joinX args H else if f = 64 then checkX args H else if f = 51 then bstrX 5 args H else none := rfl
theorem ext_ok : ExtOk env := by
  intro f args H v H' _ he
  rw [ext_is] at he
  split at he
  · rename_i hf
    subst hf
    exact ⟨⟨_, _, Tryd.func58, rfl, by kernel_rfl⟩, fun μ w cargs hR hT ha => itoa_ok tab_name tab_here Tryd.strconv_Itoa he hR hT ha⟩
  split at he
  · rename_i hf
    subst hf
    exact ⟨⟨_, _, Tryd.func30, rfl, by kernel_rfl⟩, fun μ w cargs hR hT ha => join_ok Tryd.strings_Join_none Tryd.strings_Join he hR ha⟩
  split at he
  · rename_i hf
    subst hf
    exact ⟨⟨_, _, Tryd.func64, rfl, by kernel_rfl⟩, fun μ w cargs hR hT ha => check_ok whole_is (fun b w h1 h2 h3 => Any.Builder_copyCheck_fresh lays240 Tryd.Builder_Extra_156.toX72 b w h1 h2 h3) (fun b w h1 => Any.Builder_copyCheck_used lays240 Tryd.Builder_Extra_156.toX72 b w h1) he hR ha⟩
  split at he
  · rename_i hf
    subst hf
    exact ⟨⟨_, _, Tryd.func51, rfl, by kernel_rfl⟩, fun μ w cargs hR hT ha => bstr_ok (by kernel_rfl) (fun b g o cap cells l w h1 h2 h3 h4 h5 h6 h7 => Bstr.bstr lays169 Tryd.Builder_Extra_156 b g o cap cells l w h1 h2 h3 h4 h5 h6 h7) he hR ha⟩
  · cases he
theorem nok58 : env.ok 58 = false := rfl
theorem nok30 : env.ok 30 = false := rfl
theorem nok64 : env.ok 64 = false := rfl
theorem nok51 : env.ok 51 = false := rfl
theorem sound_all : CallOk env.P (run env) := sound_run fun d => sound draws_ok tab_ok ext_ok fns (fun f h => by simpa [env] using h) prog_ok d
theorem env_P : env.P = Tryd.prog := rfl
@[simp] theorem ty2 : env.τ 2 = some ⟨1, 8, .int .i64, [.i .i64 0], false⟩ := rfl
@[simp] theorem ty3 : env.τ 3 = some ⟨1, 8, .int .i64, [.i .i64 0], false⟩ := rfl
@[simp] theorem ty4 : env.τ 4 = some ⟨1, 1, .bool, [.b false], false⟩ := rfl
@[simp] theorem ty5 : env.τ 5 = some ⟨1, 1, .int .u8, [.i .u8 0], false⟩ := rfl
@[simp] theorem ty9 : env.τ 9 = some ⟨1, 16, .str, [.s ByteArray.empty], false⟩ := rfl
@[simp] theorem ty12 : env.τ 12 = some ⟨1, 8, .int .u64, [.i .u64 0], false⟩ := rfl
@[simp] theorem ty21 : env.τ 21 = some ⟨1, 4, .int .i32, [.i .i32 0], false⟩ := rfl
@[simp] theorem ty23 : env.τ 23 = some ⟨4, 32, .struct [(0, 1), (1, 1), (2, 1), (3, 1)], [.i .i64 0, .i .i64 0, .i .i64 0, .i .i64 0], true⟩ := rfl
@[simp] theorem ty25 : env.τ 25 = some ⟨11, 80, .struct [(0, 1), (1, 1), (2, 4), (6, 1), (7, 1), (8, 1), (9, 1), (10, 1)], [.b false, .b false, .i .i64 0, .i .i64 0, .i .i64 0, .i .i64 0, .i .i64 0, .i .i64 0, .i .i64 0, .i .i64 0, .b false], true⟩ := rfl
@[simp] theorem ty27 : env.τ 27 = some ⟨4, 32, .struct [(0, 1), (1, 1), (2, 1), (3, 1)], [.i .i64 0, .i .i64 0, .i .i64 0, .i .i64 0], true⟩ := rfl
@[simp] theorem ty29 : env.τ 29 = some ⟨11, 80, .struct [(0, 1), (1, 1), (2, 4), (6, 1), (7, 1), (8, 1), (9, 1), (10, 1)], [.b false, .b false, .i .i64 0, .i .i64 0, .i .i64 0, .i .i64 0, .i .i64 0, .i .i64 0, .i .i64 0, .i .i64 0, .b false], true⟩ := rfl
@[simp] theorem ty32 : env.τ 32 = some ⟨1, 24, .slice 116, [.sl none 0], false⟩ := rfl
@[simp] theorem ty34 : env.τ 34 = some ⟨7, 72, .struct [(0, 1), (1, 1), (2, 1), (3, 1), (4, 1), (5, 1), (6, 1)], [.b false, .i .i64 0, .i .i64 0, .sl none 0, .i .i64 0, .i .i64 0, .i .i64 0], false⟩ := rfl
@[simp] theorem ty37 : env.τ 37 = some ⟨1, 24, .slice 113, [.sl none 0], false⟩ := rfl
@[simp] theorem ty39 : env.τ 39 = some ⟨7, 72, .struct [(0, 1), (1, 1), (2, 1), (3, 1), (4, 1), (5, 1), (6, 1)], [.b false, .i .i64 0, .i .i64 0, .sl none 0, .i .i64 0, .i .i64 0, .i .i64 0], false⟩ := rfl
@[simp] theorem ty43 : env.τ 43 = some ⟨1, 24, .slice 25, [.sl none 0], false⟩ := rfl
@[simp] theorem ty45 : env.τ 45 = some ⟨2, 32, .struct [(0, 1), (1, 1)], [.i .i64 0, .sl none 0], false⟩ := rfl
@[simp] theorem ty48 : env.τ 48 = some ⟨1, 24, .slice 29, [.sl none 0], false⟩ := rfl
@[simp] theorem ty50 : env.τ 50 = some ⟨2, 32, .struct [(0, 1), (1, 1)], [.i .i64 0, .sl none 0], false⟩ := rfl
@[simp] theorem ty55 : env.τ 55 = some ⟨3, 24, .struct [(0, 1), (1, 1), (2, 1)], [.i .i64 0, .i .i64 0, .i .i64 0], true⟩ := rfl
@[simp] theorem ty56 : env.τ 56 = some ⟨1, 24, .slice 34, [.sl none 0], false⟩ := rfl
@[simp] theorem ty57 : env.τ 57 = some ⟨1, 24, .slice 123, [.sl none 0], false⟩ := rfl
@[simp] theorem ty58 : env.τ 58 = some ⟨1, 24, .slice 4, [.sl none 0], false⟩ := rfl
@[simp] theorem ty59 : env.τ 59 = some ⟨1, 24, .slice 128, [.sl none 0], false⟩ := rfl
@[simp] theorem ty61 : env.τ 61 = some ⟨10, 160, .struct [(0, 1), (1, 1), (2, 3), (5, 1), (6, 1), (7, 1), (8, 1), (9, 1)], [.i .i64 0, .i .i64 0, .i .i64 0, .i .i64 0, .i .i64 0, .sl none 0, .sl none 0, .sl none 0, .sl none 0, .sl none 0], false⟩ := rfl
@[simp] theorem ty64 : env.τ 64 = some ⟨3, 24, .struct [(0, 1), (1, 1), (2, 1)], [.i .i64 0, .i .i64 0, .i .i64 0], true⟩ := rfl
@[simp] theorem ty65 : env.τ 65 = some ⟨1, 24, .slice 39, [.sl none 0], false⟩ := rfl
@[simp] theorem ty66 : env.τ 66 = some ⟨1, 24, .slice 120, [.sl none 0], false⟩ := rfl
@[simp] theorem ty67 : env.τ 67 = some ⟨1, 24, .slice 125, [.sl none 0], false⟩ := rfl
@[simp] theorem ty69 : env.τ 69 = some ⟨10, 160, .struct [(0, 1), (1, 1), (2, 3), (5, 1), (6, 1), (7, 1), (8, 1), (9, 1)], [.i .i64 0, .i .i64 0, .i .i64 0, .i .i64 0, .i .i64 0, .sl none 0, .sl none 0, .sl none 0, .sl none 0, .sl none 0], false⟩ := rfl
@[simp] theorem ty74 : env.τ 74 = some ⟨1, 24, .slice 9, [.sl none 0], false⟩ := rfl
@[simp] theorem ty80 : env.τ 80 = some ⟨1, 24, .slice 3, [.sl none 0], false⟩ := rfl
@[simp] theorem ty96 : env.τ 96 = some ⟨1, 8, .other, [.p none], false⟩ := rfl
@[simp] theorem ty97 : env.τ 97 = some ⟨1, 24, .slice 5, [.sl none 0], false⟩ := rfl
@[simp] theorem ty99 : env.τ 99 = some ⟨2, 32, .struct [(0, 1), (1, 1)], [.p none, .sl none 0], false⟩ := rfl
@[simp] theorem ty113 : env.τ 113 = some ⟨8, 64, .struct [(0, 1), (1, 1), (2, 4), (6, 1), (7, 1)], [.i .i64 0, .i .i64 0, .i .i64 0, .i .i64 0, .i .i64 0, .i .i64 0, .i .i64 0, .b false], true⟩ := rfl
@[simp] theorem ty116 : env.τ 116 = some ⟨8, 64, .struct [(0, 1), (1, 1), (2, 4), (6, 1), (7, 1)], [.i .i64 0, .i .i64 0, .i .i64 0, .i .i64 0, .i .i64 0, .i .i64 0, .i .i64 0, .b false], true⟩ := rfl
@[simp] theorem ty120 : env.τ 120 = some ⟨12, 96, .struct [(0, 1), (1, 1), (2, 1), (3, 1), (4, 8)], [.i .i64 0, .b false, .i .i64 0, .i .i64 0, .i .i64 0, .i .i64 0, .i .i64 0, .i .i64 0, .i .i64 0, .i .i64 0, .i .i64 0, .b false], true⟩ := rfl
@[simp] theorem ty123 : env.τ 123 = some ⟨12, 96, .struct [(0, 1), (1, 1), (2, 1), (3, 1), (4, 8)], [.i .i64 0, .b false, .i .i64 0, .i .i64 0, .i .i64 0, .i .i64 0, .i .i64 0, .i .i64 0, .i .i64 0, .i .i64 0, .i .i64 0, .b false], true⟩ := rfl
@[simp] theorem ty125 : env.τ 125 = some ⟨8, 64, .struct [(0, 1), (1, 1), (2, 4), (6, 1), (7, 1)], [.i .i64 0, .i .i64 0, .i .i64 0, .i .i64 0, .i .i64 0, .i .i64 0, .i .i64 0, .b false], true⟩ := rfl
@[simp] theorem ty128 : env.τ 128 = some ⟨8, 64, .struct [(0, 1), (1, 1), (2, 4), (6, 1), (7, 1)], [.i .i64 0, .i .i64 0, .i .i64 0, .i .i64 0, .i .i64 0, .i .i64 0, .i .i64 0, .b false], true⟩ := rfl
@[simp] theorem ty129 : env.τ 129 = some ⟨1, 8, .other, [.p none], false⟩ := rfl
@[simp] theorem ty137 : env.τ 137 = some ⟨24, 24, .array 24 5, [.i .u8 0, .i .u8 0, .i .u8 0, .i .u8 0, .i .u8 0, .i .u8 0, .i .u8 0, .i .u8 0, .i .u8 0, .i .u8 0, .i .u8 0, .i .u8 0, .i .u8 0, .i .u8 0, .i .u8 0, .i .u8 0, .i .u8 0, .i .u8 0, .i .u8 0, .i .u8 0, .i .u8 0, .i .u8 0, .i .u8 0, .i .u8 0], false⟩ := rfl
@[simp] theorem ty138 : env.τ 138 = some ⟨1, 8, .int .u64, [.i .u64 0], false⟩ := rfl
@[simp] theorem ty145 : env.τ 145 = some ⟨20, 160, .array 20 138, [.i .u64 0, .i .u64 0, .i .u64 0, .i .u64 0, .i .u64 0, .i .u64 0, .i .u64 0, .i .u64 0, .i .u64 0, .i .u64 0, .i .u64 0, .i .u64 0, .i .u64 0, .i .u64 0, .i .u64 0, .i .u64 0, .i .u64 0, .i .u64 0, .i .u64 0, .i .u64 0], false⟩ := rfl
@[simp] theorem ty146 : env.τ 146 = some ⟨1, 4, .int .u32, [.i .u32 0], false⟩ := rfl
@[simp] theorem ty147 : env.τ 147 = some ⟨65, 65, .array 65 5, [.i .u8 0, .i .u8 0, .i .u8 0, .i .u8 0, .i .u8 0, .i .u8 0, .i .u8 0, .i .u8 0, .i .u8 0, .i .u8 0, .i .u8 0, .i .u8 0, .i .u8 0, .i .u8 0, .i .u8 0, .i .u8 0, .i .u8 0, .i .u8 0, .i .u8 0, .i .u8 0, .i .u8 0, .i .u8 0, .i .u8 0, .i .u8 0, .i .u8 0, .i .u8 0, .i .u8 0, .i .u8 0, .i .u8 0, .i .u8 0, .i .u8 0, .i .u8 0, .i .u8 0, .i .u8 0, .i .u8 0, .i .u8 0, .i .u8 0, .i .u8 0, .i .u8 0, .i .u8 0, .i .u8 0, .i .u8 0, .i .u8 0, .i .u8 0, .i .u8 0, .i .u8 0, .i .u8 0, .i .u8 0, .i .u8 0, .i .u8 0, .i .u8 0, .i .u8 0, .i .u8 0, .i .u8 0, .i .u8 0, .i .u8 0, .i .u8 0, .i .u8 0, .i .u8 0, .i .u8 0, .i .u8 0, .i .u8 0, .i .u8 0, .i .u8 0, .i .u8 0], false⟩ := rfl
@[simp] theorem ty149 : env.τ 149 = some ⟨1, 8, .int .u64, [.i .u64 0], false⟩ := rfl
@[simp] theorem ty152 : env.τ 152 = some ⟨32, 32, .array 32 5, [.i .u8 0, .i .u8 0, .i .u8 0, .i .u8 0, .i .u8 0, .i .u8 0, .i .u8 0, .i .u8 0, .i .u8 0, .i .u8 0, .i .u8 0, .i .u8 0, .i .u8 0, .i .u8 0, .i .u8 0, .i .u8 0, .i .u8 0, .i .u8 0, .i .u8 0, .i .u8 0, .i .u8 0, .i .u8 0, .i .u8 0, .i .u8 0, .i .u8 0, .i .u8 0, .i .u8 0, .i .u8 0, .i .u8 0, .i .u8 0, .i .u8 0, .i .u8 0], false⟩ := rfl
@[simp] theorem ty153 : env.τ 153 = some ⟨64, 64, .array 64 5, [.i .u8 0, .i .u8 0, .i .u8 0, .i .u8 0, .i .u8 0, .i .u8 0, .i .u8 0, .i .u8 0, .i .u8 0, .i .u8 0, .i .u8 0, .i .u8 0, .i .u8 0, .i .u8 0, .i .u8 0, .i .u8 0, .i .u8 0, .i .u8 0, .i .u8 0, .i .u8 0, .i .u8 0, .i .u8 0, .i .u8 0, .i .u8 0, .i .u8 0, .i .u8 0, .i .u8 0, .i .u8 0, .i .u8 0, .i .u8 0, .i .u8 0, .i .u8 0, .i .u8 0, .i .u8 0, .i .u8 0, .i .u8 0, .i .u8 0, .i .u8 0, .i .u8 0, .i .u8 0, .i .u8 0, .i .u8 0, .i .u8 0, .i .u8 0, .i .u8 0, .i .u8 0, .i .u8 0, .i .u8 0, .i .u8 0, .i .u8 0, .i .u8 0, .i .u8 0, .i .u8 0, .i .u8 0, .i .u8 0, .i .u8 0, .i .u8 0, .i .u8 0, .i .u8 0, .i .u8 0, .i .u8 0, .i .u8 0, .i .u8 0, .i .u8 0], false⟩ := rfl
theorem ok6 : env.ok 6 = true := rfl
theorem ok10 : env.ok 10 = true := rfl
theorem ok11 : env.ok 11 = true := rfl
theorem ok12 : env.ok 12 = true := rfl
theorem ok13 : env.ok 13 = true := rfl
theorem ok14 : env.ok 14 = true := rfl
theorem ok20 : env.ok 20 = true := rfl
theorem ok21 : env.ok 21 = true := rfl
theorem ok22 : env.ok 22 = true := rfl
theorem ok23 : env.ok 23 = true := rfl
theorem ok24 : env.ok 24 = true := rfl
theorem ok26 : env.ok 26 = true := rfl
theorem ok28 : env.ok 28 = true := rfl
theorem ok32 : env.ok 32 = true := rfl
theorem ok33 : env.ok 33 = true := rfl
theorem ok34 : env.ok 34 = true := rfl
theorem ok35 : env.ok 35 = true := rfl
theorem ok36 : env.ok 36 = true := rfl
theorem ok40 : env.ok 40 = true := rfl
theorem ok41 : env.ok 41 = true := rfl
theorem ok42 : env.ok 42 = true := rfl
theorem ok43 : env.ok 43 = true := rfl
theorem ok44 : env.ok 44 = true := rfl
theorem ok45 : env.ok 45 = true := rfl
theorem ok46 : env.ok 46 = true := rfl
theorem ok47 : env.ok 47 = true := rfl
theorem ok48 : env.ok 48 = true := rfl
theorem ok49 : env.ok 49 = true := rfl
theorem ok50 : env.ok 50 = true := rfl
theorem ok52 : env.ok 52 = true := rfl
theorem ok53 : env.ok 53 = true := rfl
theorem ok54 : env.ok 54 = true := rfl
theorem ok55 : env.ok 55 = true := rfl
theorem ok56 : env.ok 56 = true := rfl
theorem ok59 : env.ok 59 = true := rfl
theorem ok60 : env.ok 60 = true := rfl
theorem ok62 : env.ok 62 = true := rfl
theorem ok63 : env.ok 63 = true := rfl
theorem ok65 : env.ok 65 = true := rfl
theorem ok66 : env.ok 66 = true := rfl
theorem ok69 : env.ok 69 = true := rfl
theorem env_K : env.K = 3000000 := rfl
@[simp] theorem env_dif : env.dif = [] := rfl
end W
end Go.Proofs.YtjgjjaidpceieabDoor

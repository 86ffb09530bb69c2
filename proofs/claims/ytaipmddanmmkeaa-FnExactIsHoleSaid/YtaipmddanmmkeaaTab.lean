/-
  The types of this seat's program as the table of Core6, each held against the program.
-/
import Derived.Test.YtaipmddanmmkeaaCore10
import Derived.Test.YtaipmddanmmkeaaProg
import Derived.KernelRfl
namespace Go.Proofs.Try
open Go.Av
set_option maxRecDepth 100000

theorem ty1 : TyAt Try.prog 1 { d := .other, size := 1, bytes := 8, zero := [.nilFunc], cmp := false } :=
  ⟨⟨Try.t1, _, by kernel_rfl, rfl, rfl, rfl, rfl, rfl, rfl⟩, ⟨_, Try.underlying1, by first | rfl | trivial⟩, fun h => by cases h⟩
theorem ty2 : TyAt Try.prog 2 { d := .int .i64, size := 1, bytes := 8, zero := [.int .i64 0], cmp := false } :=
  ⟨⟨Try.t2, _, by kernel_rfl, rfl, rfl, rfl, rfl, rfl, rfl⟩, ⟨_, Try.underlying2, by first | rfl | trivial⟩, fun h => by cases h⟩
theorem ty3 : TyAt Try.prog 3 { d := .int .i64, size := 1, bytes := 8, zero := [.int .i64 0], cmp := false } :=
  ⟨⟨Try.t3, _, by kernel_rfl, rfl, rfl, rfl, rfl, rfl, rfl⟩, ⟨_, Try.underlying3, by first | rfl | trivial⟩, fun h => by cases h⟩
theorem ty4 : TyAt Try.prog 4 { d := .bool, size := 1, bytes := 1, zero := [.bool false], cmp := false } :=
  ⟨⟨Try.t4, _, by kernel_rfl, rfl, rfl, rfl, rfl, rfl, rfl⟩, ⟨_, Try.underlying4, by first | rfl | trivial⟩, fun h => by cases h⟩
theorem ty5 : TyAt Try.prog 5 { d := .int .u8, size := 1, bytes := 1, zero := [.int .u8 0], cmp := false } :=
  ⟨⟨Try.t5, _, by kernel_rfl, rfl, rfl, rfl, rfl, rfl, rfl⟩, ⟨_, Try.underlying5, by first | rfl | trivial⟩, fun h => by cases h⟩
theorem ty6 : TyAt Try.prog 6 { d := .int .u8, size := 1, bytes := 1, zero := [.int .u8 0], cmp := false } :=
  ⟨⟨Try.t6, _, by kernel_rfl, rfl, rfl, rfl, rfl, rfl, rfl⟩, ⟨_, Try.underlying6, by first | rfl | trivial⟩, fun h => by cases h⟩
theorem ty7 : TyAt Try.prog 7 { d := .struct [(0, 2), (1, 3), (2, 4), (3, 6)], size := 4, bytes := 24, zero := [.int .i64 0, .int .i64 0, .bool false, .int .u8 0], cmp := true } :=
  ⟨⟨Try.t7, _, by kernel_rfl, rfl, rfl, rfl, rfl, rfl, rfl⟩, ⟨_, Try.underlying7, by first | rfl | trivial⟩, fun _ => ⟨Try.stoodInHeld7, Try.eqGuardType7, of_decide_eq_true (by kernel_rfl)⟩⟩
theorem ty8 : TyAt Try.prog 8 { d := .struct [(0, 2), (1, 3), (2, 4), (3, 6)], size := 4, bytes := 24, zero := [.int .i64 0, .int .i64 0, .bool false, .int .u8 0], cmp := true } :=
  ⟨⟨Try.t8, _, by kernel_rfl, rfl, rfl, rfl, rfl, rfl, rfl⟩, ⟨_, Try.underlying8, by first | rfl | trivial⟩, fun _ => ⟨Try.stoodInHeld8, Try.eqGuardType8, of_decide_eq_true (by kernel_rfl)⟩⟩
theorem ty9 : TyAt Try.prog 9 { d := .str, size := 1, bytes := 16, zero := [.string ⟨#[]⟩], cmp := false } :=
  ⟨⟨Try.t9, _, by kernel_rfl, rfl, rfl, rfl, rfl, rfl, rfl⟩, ⟨_, Try.underlying9, by first | rfl | trivial⟩, fun h => by cases h⟩
theorem ty10 : TyAt Try.prog 10 { d := .str, size := 1, bytes := 16, zero := [.string ⟨#[]⟩], cmp := false } :=
  ⟨⟨Try.t10, _, by kernel_rfl, rfl, rfl, rfl, rfl, rfl, rfl⟩, ⟨_, Try.underlying10, by first | rfl | trivial⟩, fun h => by cases h⟩
theorem ty11 : TyAt Try.prog 11 { d := .str, size := 1, bytes := 16, zero := [.string ⟨#[]⟩], cmp := false } :=
  ⟨⟨Try.t11, _, by kernel_rfl, rfl, rfl, rfl, rfl, rfl, rfl⟩, ⟨_, Try.underlying11, by first | rfl | trivial⟩, fun h => by cases h⟩
theorem ty12 : TyAt Try.prog 12 { d := .int .u64, size := 1, bytes := 8, zero := [.int .u64 0], cmp := false } :=
  ⟨⟨Try.t12, _, by kernel_rfl, rfl, rfl, rfl, rfl, rfl, rfl⟩, ⟨_, Try.underlying12, by first | rfl | trivial⟩, fun h => by cases h⟩
theorem ty13 : TyAt Try.prog 13 { d := .struct [(0, 9), (1, 12)], size := 2, bytes := 24, zero := [.string ⟨#[]⟩, .int .u64 0], cmp := false } :=
  ⟨⟨Try.t13, _, by kernel_rfl, rfl, rfl, rfl, rfl, rfl, rfl⟩, ⟨_, Try.underlying13, by first | rfl | trivial⟩, fun h => by cases h⟩
theorem ty14 : TyAt Try.prog 14 { d := .struct [(0, 9), (1, 12)], size := 2, bytes := 24, zero := [.string ⟨#[]⟩, .int .u64 0], cmp := false } :=
  ⟨⟨Try.t14, _, by kernel_rfl, rfl, rfl, rfl, rfl, rfl, rfl⟩, ⟨_, Try.underlying14, by first | rfl | trivial⟩, fun h => by cases h⟩
theorem ty15 : TyAt Try.prog 15 { d := .other, size := 1, bytes := 8, zero := [.pointer none], cmp := false } :=
  ⟨⟨Try.t15, _, by kernel_rfl, rfl, rfl, rfl, rfl, rfl, rfl⟩, ⟨_, Try.underlying15, by first | rfl | trivial⟩, fun h => by cases h⟩
theorem ty16 : TyAt Try.prog 16 { d := .other, size := 1, bytes := 8, zero := [.pointer none], cmp := false } :=
  ⟨⟨Try.t16, _, by kernel_rfl, rfl, rfl, rfl, rfl, rfl, rfl⟩, ⟨_, Try.underlying16, by first | rfl | trivial⟩, fun h => by cases h⟩
theorem ty17 : TyAt Try.prog 17 { d := .other, size := 1, bytes := 8, zero := [.pointer none], cmp := false } :=
  ⟨⟨Try.t17, _, by kernel_rfl, rfl, rfl, rfl, rfl, rfl, rfl⟩, ⟨_, Try.underlying17, by first | rfl | trivial⟩, fun h => by cases h⟩
theorem ty18 : TyAt Try.prog 18 { d := .struct [(0, 17)], size := 1, bytes := 8, zero := [.pointer none], cmp := false } :=
  ⟨⟨Try.t18, _, by kernel_rfl, rfl, rfl, rfl, rfl, rfl, rfl⟩, ⟨_, Try.underlying18, by first | rfl | trivial⟩, fun h => by cases h⟩
theorem ty19 : TyAt Try.prog 19 { d := .struct [(0, 17)], size := 1, bytes := 8, zero := [.pointer none], cmp := false } :=
  ⟨⟨Try.t19, _, by kernel_rfl, rfl, rfl, rfl, rfl, rfl, rfl⟩, ⟨_, Try.underlying19, by first | rfl | trivial⟩, fun h => by cases h⟩
theorem ty21 : TyAt Try.prog 21 { d := .int .i32, size := 1, bytes := 4, zero := [.int .i32 0], cmp := false } :=
  ⟨⟨Try.t21, _, by kernel_rfl, rfl, rfl, rfl, rfl, rfl, rfl⟩, ⟨_, Try.underlying21, by first | rfl | trivial⟩, fun h => by cases h⟩
theorem ty22 : TyAt Try.prog 22 { d := .other, size := 1, bytes := 8, zero := [.nilFunc], cmp := false } :=
  ⟨⟨Try.t22, _, by kernel_rfl, rfl, rfl, rfl, rfl, rfl, rfl⟩, ⟨_, Try.underlying22, by first | rfl | trivial⟩, fun h => by cases h⟩
theorem ty23 : TyAt Try.prog 23 { d := .other, size := 1, bytes := 8, zero := [.nilFunc], cmp := false } :=
  ⟨⟨Try.t23, _, by kernel_rfl, rfl, rfl, rfl, rfl, rfl, rfl⟩, ⟨_, Try.underlying23, by first | rfl | trivial⟩, fun h => by cases h⟩
theorem ty25 : TyAt Try.prog 25 { d := .other, size := 1, bytes := 8, zero := [.nilFunc], cmp := false } :=
  ⟨⟨Try.t25, _, by kernel_rfl, rfl, rfl, rfl, rfl, rfl, rfl⟩, ⟨_, Try.underlying25, by first | rfl | trivial⟩, fun h => by cases h⟩
theorem ty26 : TyAt Try.prog 26 { d := .other, size := 1, bytes := 8, zero := [.nilFunc], cmp := false } :=
  ⟨⟨Try.t26, _, by kernel_rfl, rfl, rfl, rfl, rfl, rfl, rfl⟩, ⟨_, Try.underlying26, by first | rfl | trivial⟩, fun h => by cases h⟩
theorem ty27 : TyAt Try.prog 27 { d := .slice 48, size := 1, bytes := 24, zero := [.slice none 0 0], cmp := false } :=
  ⟨⟨Try.t27, _, by kernel_rfl, rfl, rfl, rfl, rfl, rfl, rfl⟩, ⟨_, Try.underlying27, by first | rfl | trivial⟩, fun h => by cases h⟩
theorem ty28 : TyAt Try.prog 28 { d := .other, size := 1, bytes := 8, zero := [.nilFunc], cmp := false } :=
  ⟨⟨Try.t28, _, by kernel_rfl, rfl, rfl, rfl, rfl, rfl, rfl⟩, ⟨_, Try.underlying28, by first | rfl | trivial⟩, fun h => by cases h⟩
theorem ty29 : TyAt Try.prog 29 { d := .other, size := 1, bytes := 8, zero := [.nilFunc], cmp := false } :=
  ⟨⟨Try.t29, _, by kernel_rfl, rfl, rfl, rfl, rfl, rfl, rfl⟩, ⟨_, Try.underlying29, by first | rfl | trivial⟩, fun h => by cases h⟩
theorem ty30 : TyAt Try.prog 30 { d := .slice 49, size := 1, bytes := 24, zero := [.slice none 0 0], cmp := false } :=
  ⟨⟨Try.t30, _, by kernel_rfl, rfl, rfl, rfl, rfl, rfl, rfl⟩, ⟨_, Try.underlying30, by first | rfl | trivial⟩, fun h => by cases h⟩
theorem ty31 : TyAt Try.prog 31 { d := .other, size := 1, bytes := 8, zero := [.nilFunc], cmp := false } :=
  ⟨⟨Try.t31, _, by kernel_rfl, rfl, rfl, rfl, rfl, rfl, rfl⟩, ⟨_, Try.underlying31, by first | rfl | trivial⟩, fun h => by cases h⟩
theorem ty32 : TyAt Try.prog 32 { d := .other, size := 1, bytes := 8, zero := [.nilFunc], cmp := false } :=
  ⟨⟨Try.t32, _, by kernel_rfl, rfl, rfl, rfl, rfl, rfl, rfl⟩, ⟨_, Try.underlying32, by first | rfl | trivial⟩, fun h => by cases h⟩
theorem ty33 : TyAt Try.prog 33 { d := .other, size := 1, bytes := 8, zero := [.nilFunc], cmp := false } :=
  ⟨⟨Try.t33, _, by kernel_rfl, rfl, rfl, rfl, rfl, rfl, rfl⟩, ⟨_, Try.underlying33, by first | rfl | trivial⟩, fun h => by cases h⟩
theorem ty34 : TyAt Try.prog 34 { d := .slice 3, size := 1, bytes := 24, zero := [.slice none 0 0], cmp := false } :=
  ⟨⟨Try.t34, _, by kernel_rfl, rfl, rfl, rfl, rfl, rfl, rfl⟩, ⟨_, Try.underlying34, by first | rfl | trivial⟩, fun h => by cases h⟩
theorem ty35 : TyAt Try.prog 35 { d := .struct [(0, 3), (1, 3), (2, 9), (3, 9), (4, 34)], size := 5, bytes := 72, zero := [.int .i64 0, .int .i64 0, .string ⟨#[]⟩, .string ⟨#[]⟩, .slice none 0 0], cmp := false } :=
  ⟨⟨Try.t35, _, by kernel_rfl, rfl, rfl, rfl, rfl, rfl, rfl⟩, ⟨_, Try.underlying35, by first | rfl | trivial⟩, fun h => by cases h⟩
theorem ty36 : TyAt Try.prog 36 { d := .struct [(0, 3), (1, 3), (2, 9), (3, 9), (4, 34)], size := 5, bytes := 72, zero := [.int .i64 0, .int .i64 0, .string ⟨#[]⟩, .string ⟨#[]⟩, .slice none 0 0], cmp := false } :=
  ⟨⟨Try.t36, _, by kernel_rfl, rfl, rfl, rfl, rfl, rfl, rfl⟩, ⟨_, Try.underlying36, by first | rfl | trivial⟩, fun h => by cases h⟩
theorem ty37 : TyAt Try.prog 37 { d := .other, size := 1, bytes := 8, zero := [.nilFunc], cmp := false } :=
  ⟨⟨Try.t37, _, by kernel_rfl, rfl, rfl, rfl, rfl, rfl, rfl⟩, ⟨_, Try.underlying37, by first | rfl | trivial⟩, fun h => by cases h⟩
theorem ty38 : TyAt Try.prog 38 { d := .other, size := 1, bytes := 8, zero := [.nilFunc], cmp := false } :=
  ⟨⟨Try.t38, _, by kernel_rfl, rfl, rfl, rfl, rfl, rfl, rfl⟩, ⟨_, Try.underlying38, by first | rfl | trivial⟩, fun h => by cases h⟩
theorem ty39 : TyAt Try.prog 39 { d := .struct [(0, 3), (1, 3), (2, 9), (3, 9), (4, 34)], size := 5, bytes := 72, zero := [.int .i64 0, .int .i64 0, .string ⟨#[]⟩, .string ⟨#[]⟩, .slice none 0 0], cmp := false } :=
  ⟨⟨Try.t39, _, by kernel_rfl, rfl, rfl, rfl, rfl, rfl, rfl⟩, ⟨_, Try.underlying39, by first | rfl | trivial⟩, fun h => by cases h⟩
theorem ty40 : TyAt Try.prog 40 { d := .other, size := 1, bytes := 8, zero := [.nilFunc], cmp := false } :=
  ⟨⟨Try.t40, _, by kernel_rfl, rfl, rfl, rfl, rfl, rfl, rfl⟩, ⟨_, Try.underlying40, by first | rfl | trivial⟩, fun h => by cases h⟩
theorem ty41 : TyAt Try.prog 41 { d := .other, size := 1, bytes := 8, zero := [.nilFunc], cmp := false } :=
  ⟨⟨Try.t41, _, by kernel_rfl, rfl, rfl, rfl, rfl, rfl, rfl⟩, ⟨_, Try.underlying41, by first | rfl | trivial⟩, fun h => by cases h⟩
theorem ty42 : TyAt Try.prog 42 { d := .other, size := 1, bytes := 8, zero := [.nilFunc], cmp := false } :=
  ⟨⟨Try.t42, _, by kernel_rfl, rfl, rfl, rfl, rfl, rfl, rfl⟩, ⟨_, Try.underlying42, by first | rfl | trivial⟩, fun h => by cases h⟩
theorem ty43 : TyAt Try.prog 43 { d := .other, size := 1, bytes := 8, zero := [.nilFunc], cmp := false } :=
  ⟨⟨Try.t43, _, by kernel_rfl, rfl, rfl, rfl, rfl, rfl, rfl⟩, ⟨_, Try.underlying43, by first | rfl | trivial⟩, fun h => by cases h⟩
theorem ty44 : TyAt Try.prog 44 { d := .slice 9, size := 1, bytes := 24, zero := [.slice none 0 0], cmp := false } :=
  ⟨⟨Try.t44, _, by kernel_rfl, rfl, rfl, rfl, rfl, rfl, rfl⟩, ⟨_, Try.underlying44, by first | rfl | trivial⟩, fun h => by cases h⟩
theorem ty45 : TyAt Try.prog 45 { d := .arr 4 9, size := 4, bytes := 64, zero := [.string ⟨#[]⟩, .string ⟨#[]⟩, .string ⟨#[]⟩, .string ⟨#[]⟩], cmp := false } :=
  ⟨⟨Try.t45, _, by kernel_rfl, rfl, rfl, rfl, rfl, rfl, rfl⟩, ⟨_, Try.underlying45, by first | rfl | trivial⟩, fun h => by cases h⟩
theorem ty46 : TyAt Try.prog 46 { d := .other, size := 1, bytes := 8, zero := [.nilFunc], cmp := false } :=
  ⟨⟨Try.t46, _, by kernel_rfl, rfl, rfl, rfl, rfl, rfl, rfl⟩, ⟨_, Try.underlying46, by first | rfl | trivial⟩, fun h => by cases h⟩
theorem ty47 : TyAt Try.prog 47 { d := .struct [(0, 3), (1, 9), (2, 3)], size := 3, bytes := 32, zero := [.int .i64 0, .string ⟨#[]⟩, .int .i64 0], cmp := true } :=
  ⟨⟨Try.t47, _, by kernel_rfl, rfl, rfl, rfl, rfl, rfl, rfl⟩, ⟨_, Try.underlying47, by first | rfl | trivial⟩, fun _ => ⟨Try.stoodInHeld47, Try.eqGuardType47, of_decide_eq_true (by kernel_rfl)⟩⟩
theorem ty48 : TyAt Try.prog 48 { d := .struct [(0, 3), (1, 9), (2, 3)], size := 3, bytes := 32, zero := [.int .i64 0, .string ⟨#[]⟩, .int .i64 0], cmp := true } :=
  ⟨⟨Try.t48, _, by kernel_rfl, rfl, rfl, rfl, rfl, rfl, rfl⟩, ⟨_, Try.underlying48, by first | rfl | trivial⟩, fun _ => ⟨Try.stoodInHeld48, Try.eqGuardType48, of_decide_eq_true (by kernel_rfl)⟩⟩
theorem ty49 : TyAt Try.prog 49 { d := .struct [(0, 3), (1, 9), (2, 3)], size := 3, bytes := 32, zero := [.int .i64 0, .string ⟨#[]⟩, .int .i64 0], cmp := true } :=
  ⟨⟨Try.t49, _, by kernel_rfl, rfl, rfl, rfl, rfl, rfl, rfl⟩, ⟨_, Try.underlying49, by first | rfl | trivial⟩, fun _ => ⟨Try.stoodInHeld49, Try.eqGuardType49, of_decide_eq_true (by kernel_rfl)⟩⟩
theorem ty50 : TyAt Try.prog 50 { d := .other, size := 1, bytes := 8, zero := [.nilFunc], cmp := false } :=
  ⟨⟨Try.t50, _, by kernel_rfl, rfl, rfl, rfl, rfl, rfl, rfl⟩, ⟨_, Try.underlying50, by first | rfl | trivial⟩, fun h => by cases h⟩
theorem ty51 : TyAt Try.prog 51 { d := .int .u64, size := 1, bytes := 8, zero := [.int .u64 0], cmp := false } :=
  ⟨⟨Try.t51, _, by kernel_rfl, rfl, rfl, rfl, rfl, rfl, rfl⟩, ⟨_, Try.underlying51, by first | rfl | trivial⟩, fun h => by cases h⟩
theorem ty52 : TyAt Try.prog 52 { d := .other, size := 1, bytes := 8, zero := [.nilFunc], cmp := false } :=
  ⟨⟨Try.t52, _, by kernel_rfl, rfl, rfl, rfl, rfl, rfl, rfl⟩, ⟨_, Try.underlying52, by first | rfl | trivial⟩, fun h => by cases h⟩
theorem ty53 : TyAt Try.prog 53 { d := .other, size := 1, bytes := 8, zero := [.nilFunc], cmp := false } :=
  ⟨⟨Try.t53, _, by kernel_rfl, rfl, rfl, rfl, rfl, rfl, rfl⟩, ⟨_, Try.underlying53, by first | rfl | trivial⟩, fun h => by cases h⟩
theorem ty54 : TyAt Try.prog 54 { d := .other, size := 1, bytes := 8, zero := [.nilFunc], cmp := false } :=
  ⟨⟨Try.t54, _, by kernel_rfl, rfl, rfl, rfl, rfl, rfl, rfl⟩, ⟨_, Try.underlying54, by first | rfl | trivial⟩, fun h => by cases h⟩
theorem ty55 : TyAt Try.prog 55 { d := .other, size := 1, bytes := 8, zero := [.nilFunc], cmp := false } :=
  ⟨⟨Try.t55, _, by kernel_rfl, rfl, rfl, rfl, rfl, rfl, rfl⟩, ⟨_, Try.underlying55, by first | rfl | trivial⟩, fun h => by cases h⟩
theorem ty56 : TyAt Try.prog 56 { d := .other, size := 1, bytes := 8, zero := [.nilFunc], cmp := false } :=
  ⟨⟨Try.t56, _, by kernel_rfl, rfl, rfl, rfl, rfl, rfl, rfl⟩, ⟨_, Try.underlying56, by first | rfl | trivial⟩, fun h => by cases h⟩
theorem ty57 : TyAt Try.prog 57 { d := .struct [(0, 17), (1, 17), (2, 17), (3, 9)], size := 4, bytes := 40, zero := [.pointer none, .pointer none, .pointer none, .string ⟨#[]⟩], cmp := false } :=
  ⟨⟨Try.t57, _, by kernel_rfl, rfl, rfl, rfl, rfl, rfl, rfl⟩, ⟨_, Try.underlying57, by first | rfl | trivial⟩, fun h => by cases h⟩
theorem ty58 : TyAt Try.prog 58 { d := .struct [(0, 17), (1, 17), (2, 17), (3, 9)], size := 4, bytes := 40, zero := [.pointer none, .pointer none, .pointer none, .string ⟨#[]⟩], cmp := false } :=
  ⟨⟨Try.t58, _, by kernel_rfl, rfl, rfl, rfl, rfl, rfl, rfl⟩, ⟨_, Try.underlying58, by first | rfl | trivial⟩, fun h => by cases h⟩
theorem ty59 : TyAt Try.prog 59 { d := .arr 0 16, size := 0, bytes := 0, zero := [], cmp := false } :=
  ⟨⟨Try.t59, _, by kernel_rfl, rfl, rfl, rfl, rfl, rfl, rfl⟩, ⟨_, Try.underlying59, by first | rfl | trivial⟩, fun h => by cases h⟩
theorem ty60 : TyAt Try.prog 60 { d := .struct [(0, 59)], size := 0, bytes := 0, zero := [], cmp := false } :=
  ⟨⟨Try.t60, _, by kernel_rfl, rfl, rfl, rfl, rfl, rfl, rfl⟩, ⟨_, Try.underlying60, by first | rfl | trivial⟩, fun h => by cases h⟩
theorem ty61 : TyAt Try.prog 61 { d := .struct [(0, 59)], size := 0, bytes := 0, zero := [], cmp := false } :=
  ⟨⟨Try.t61, _, by kernel_rfl, rfl, rfl, rfl, rfl, rfl, rfl⟩, ⟨_, Try.underlying61, by first | rfl | trivial⟩, fun h => by cases h⟩
theorem ty62 : TyAt Try.prog 62 { d := .other, size := 1, bytes := 8, zero := [.nilFunc], cmp := false } :=
  ⟨⟨Try.t62, _, by kernel_rfl, rfl, rfl, rfl, rfl, rfl, rfl⟩, ⟨_, Try.underlying62, by first | rfl | trivial⟩, fun h => by cases h⟩
theorem ty63 : TyAt Try.prog 63 { d := .int .u32, size := 1, bytes := 4, zero := [.int .u32 0], cmp := false } :=
  ⟨⟨Try.t63, _, by kernel_rfl, rfl, rfl, rfl, rfl, rfl, rfl⟩, ⟨_, Try.underlying63, by first | rfl | trivial⟩, fun h => by cases h⟩
theorem ty64 : TyAt Try.prog 64 { d := .int .u8, size := 1, bytes := 1, zero := [.int .u8 0], cmp := false } :=
  ⟨⟨Try.t64, _, by kernel_rfl, rfl, rfl, rfl, rfl, rfl, rfl⟩, ⟨_, Try.underlying64, by first | rfl | trivial⟩, fun h => by cases h⟩
theorem ty65 : TyAt Try.prog 65 { d := .int .u8, size := 1, bytes := 1, zero := [.int .u8 0], cmp := false } :=
  ⟨⟨Try.t65, _, by kernel_rfl, rfl, rfl, rfl, rfl, rfl, rfl⟩, ⟨_, Try.underlying65, by first | rfl | trivial⟩, fun h => by cases h⟩
theorem ty66 : TyAt Try.prog 66 { d := .other, size := 1, bytes := 8, zero := [.nilFunc], cmp := false } :=
  ⟨⟨Try.t66, _, by kernel_rfl, rfl, rfl, rfl, rfl, rfl, rfl⟩, ⟨_, Try.underlying66, by first | rfl | trivial⟩, fun h => by cases h⟩
theorem ty67 : TyAt Try.prog 67 { d := .other, size := 1, bytes := 8, zero := [.pointer none], cmp := false } :=
  ⟨⟨Try.t67, _, by kernel_rfl, rfl, rfl, rfl, rfl, rfl, rfl⟩, ⟨_, Try.underlying67, by first | rfl | trivial⟩, fun h => by cases h⟩
theorem ty68 : TyAt Try.prog 68 { d := .int .i32, size := 1, bytes := 4, zero := [.int .i32 0], cmp := false } :=
  ⟨⟨Try.t68, _, by kernel_rfl, rfl, rfl, rfl, rfl, rfl, rfl⟩, ⟨_, Try.underlying68, by first | rfl | trivial⟩, fun h => by cases h⟩
theorem ty69 : TyAt Try.prog 69 { d := .int .i32, size := 1, bytes := 4, zero := [.int .i32 0], cmp := false } :=
  ⟨⟨Try.t69, _, by kernel_rfl, rfl, rfl, rfl, rfl, rfl, rfl⟩, ⟨_, Try.underlying69, by first | rfl | trivial⟩, fun h => by cases h⟩
theorem ty70 : TyAt Try.prog 70 { d := .struct [(0, 12), (1, 12), (2, 63), (3, 64), (4, 5), (5, 5), (6, 65), (7, 66), (8, 67), (9, 68), (10, 69)], size := 11, bytes := 48, zero := [.int .u64 0, .int .u64 0, .int .u32 0, .int .u8 0, .int .u8 0, .int .u8 0, .int .u8 0, .nilFunc, .pointer none, .int .i32 0, .int .i32 0], cmp := false } :=
  ⟨⟨Try.t70, _, by kernel_rfl, rfl, rfl, rfl, rfl, rfl, rfl⟩, ⟨_, Try.underlying70, by first | rfl | trivial⟩, fun h => by cases h⟩
theorem ty71 : TyAt Try.prog 71 { d := .struct [(0, 12), (1, 12), (2, 63), (3, 64), (4, 5), (5, 5), (6, 65), (7, 66), (8, 67), (9, 68), (10, 69)], size := 11, bytes := 48, zero := [.int .u64 0, .int .u64 0, .int .u32 0, .int .u8 0, .int .u8 0, .int .u8 0, .int .u8 0, .nilFunc, .pointer none, .int .i32 0, .int .i32 0], cmp := false } :=
  ⟨⟨Try.t71, _, by kernel_rfl, rfl, rfl, rfl, rfl, rfl, rfl⟩, ⟨_, Try.underlying71, by first | rfl | trivial⟩, fun h => by cases h⟩
def D : Tab := [none,
  some { d := .other, size := 1, bytes := 8, zero := [.nilFunc], cmp := false },
  some { d := .int .i64, size := 1, bytes := 8, zero := [.int .i64 0], cmp := false },
  some { d := .int .i64, size := 1, bytes := 8, zero := [.int .i64 0], cmp := false },
  some { d := .bool, size := 1, bytes := 1, zero := [.bool false], cmp := false },
  some { d := .int .u8, size := 1, bytes := 1, zero := [.int .u8 0], cmp := false },
  some { d := .int .u8, size := 1, bytes := 1, zero := [.int .u8 0], cmp := false },
  some { d := .struct [(0, 2), (1, 3), (2, 4), (3, 6)], size := 4, bytes := 24, zero := [.int .i64 0, .int .i64 0, .bool false, .int .u8 0], cmp := true },
  some { d := .struct [(0, 2), (1, 3), (2, 4), (3, 6)], size := 4, bytes := 24, zero := [.int .i64 0, .int .i64 0, .bool false, .int .u8 0], cmp := true },
  some { d := .str, size := 1, bytes := 16, zero := [.string ⟨#[]⟩], cmp := false },
  some { d := .str, size := 1, bytes := 16, zero := [.string ⟨#[]⟩], cmp := false },
  some { d := .str, size := 1, bytes := 16, zero := [.string ⟨#[]⟩], cmp := false },
  some { d := .int .u64, size := 1, bytes := 8, zero := [.int .u64 0], cmp := false },
  some { d := .struct [(0, 9), (1, 12)], size := 2, bytes := 24, zero := [.string ⟨#[]⟩, .int .u64 0], cmp := false },
  some { d := .struct [(0, 9), (1, 12)], size := 2, bytes := 24, zero := [.string ⟨#[]⟩, .int .u64 0], cmp := false },
  some { d := .other, size := 1, bytes := 8, zero := [.pointer none], cmp := false },
  some { d := .other, size := 1, bytes := 8, zero := [.pointer none], cmp := false },
  some { d := .other, size := 1, bytes := 8, zero := [.pointer none], cmp := false },
  some { d := .struct [(0, 17)], size := 1, bytes := 8, zero := [.pointer none], cmp := false },
  some { d := .struct [(0, 17)], size := 1, bytes := 8, zero := [.pointer none], cmp := false },
  none,
  some { d := .int .i32, size := 1, bytes := 4, zero := [.int .i32 0], cmp := false },
  some { d := .other, size := 1, bytes := 8, zero := [.nilFunc], cmp := false },
  some { d := .other, size := 1, bytes := 8, zero := [.nilFunc], cmp := false },
  none,
  some { d := .other, size := 1, bytes := 8, zero := [.nilFunc], cmp := false },
  some { d := .other, size := 1, bytes := 8, zero := [.nilFunc], cmp := false },
  some { d := .slice 48, size := 1, bytes := 24, zero := [.slice none 0 0], cmp := false },
  some { d := .other, size := 1, bytes := 8, zero := [.nilFunc], cmp := false },
  some { d := .other, size := 1, bytes := 8, zero := [.nilFunc], cmp := false },
  some { d := .slice 49, size := 1, bytes := 24, zero := [.slice none 0 0], cmp := false },
  some { d := .other, size := 1, bytes := 8, zero := [.nilFunc], cmp := false },
  some { d := .other, size := 1, bytes := 8, zero := [.nilFunc], cmp := false },
  some { d := .other, size := 1, bytes := 8, zero := [.nilFunc], cmp := false },
  some { d := .slice 3, size := 1, bytes := 24, zero := [.slice none 0 0], cmp := false },
  some { d := .struct [(0, 3), (1, 3), (2, 9), (3, 9), (4, 34)], size := 5, bytes := 72, zero := [.int .i64 0, .int .i64 0, .string ⟨#[]⟩, .string ⟨#[]⟩, .slice none 0 0], cmp := false },
  some { d := .struct [(0, 3), (1, 3), (2, 9), (3, 9), (4, 34)], size := 5, bytes := 72, zero := [.int .i64 0, .int .i64 0, .string ⟨#[]⟩, .string ⟨#[]⟩, .slice none 0 0], cmp := false },
  some { d := .other, size := 1, bytes := 8, zero := [.nilFunc], cmp := false },
  some { d := .other, size := 1, bytes := 8, zero := [.nilFunc], cmp := false },
  some { d := .struct [(0, 3), (1, 3), (2, 9), (3, 9), (4, 34)], size := 5, bytes := 72, zero := [.int .i64 0, .int .i64 0, .string ⟨#[]⟩, .string ⟨#[]⟩, .slice none 0 0], cmp := false },
  some { d := .other, size := 1, bytes := 8, zero := [.nilFunc], cmp := false },
  some { d := .other, size := 1, bytes := 8, zero := [.nilFunc], cmp := false },
  some { d := .other, size := 1, bytes := 8, zero := [.nilFunc], cmp := false },
  some { d := .other, size := 1, bytes := 8, zero := [.nilFunc], cmp := false },
  some { d := .slice 9, size := 1, bytes := 24, zero := [.slice none 0 0], cmp := false },
  some { d := .arr 4 9, size := 4, bytes := 64, zero := [.string ⟨#[]⟩, .string ⟨#[]⟩, .string ⟨#[]⟩, .string ⟨#[]⟩], cmp := false },
  some { d := .other, size := 1, bytes := 8, zero := [.nilFunc], cmp := false },
  some { d := .struct [(0, 3), (1, 9), (2, 3)], size := 3, bytes := 32, zero := [.int .i64 0, .string ⟨#[]⟩, .int .i64 0], cmp := true },
  some { d := .struct [(0, 3), (1, 9), (2, 3)], size := 3, bytes := 32, zero := [.int .i64 0, .string ⟨#[]⟩, .int .i64 0], cmp := true },
  some { d := .struct [(0, 3), (1, 9), (2, 3)], size := 3, bytes := 32, zero := [.int .i64 0, .string ⟨#[]⟩, .int .i64 0], cmp := true },
  some { d := .other, size := 1, bytes := 8, zero := [.nilFunc], cmp := false },
  some { d := .int .u64, size := 1, bytes := 8, zero := [.int .u64 0], cmp := false },
  some { d := .other, size := 1, bytes := 8, zero := [.nilFunc], cmp := false },
  some { d := .other, size := 1, bytes := 8, zero := [.nilFunc], cmp := false },
  some { d := .other, size := 1, bytes := 8, zero := [.nilFunc], cmp := false },
  some { d := .other, size := 1, bytes := 8, zero := [.nilFunc], cmp := false },
  some { d := .other, size := 1, bytes := 8, zero := [.nilFunc], cmp := false },
  some { d := .struct [(0, 17), (1, 17), (2, 17), (3, 9)], size := 4, bytes := 40, zero := [.pointer none, .pointer none, .pointer none, .string ⟨#[]⟩], cmp := false },
  some { d := .struct [(0, 17), (1, 17), (2, 17), (3, 9)], size := 4, bytes := 40, zero := [.pointer none, .pointer none, .pointer none, .string ⟨#[]⟩], cmp := false },
  some { d := .arr 0 16, size := 0, bytes := 0, zero := [], cmp := false },
  some { d := .struct [(0, 59)], size := 0, bytes := 0, zero := [], cmp := false },
  some { d := .struct [(0, 59)], size := 0, bytes := 0, zero := [], cmp := false },
  some { d := .other, size := 1, bytes := 8, zero := [.nilFunc], cmp := false },
  some { d := .int .u32, size := 1, bytes := 4, zero := [.int .u32 0], cmp := false },
  some { d := .int .u8, size := 1, bytes := 1, zero := [.int .u8 0], cmp := false },
  some { d := .int .u8, size := 1, bytes := 1, zero := [.int .u8 0], cmp := false },
  some { d := .other, size := 1, bytes := 8, zero := [.nilFunc], cmp := false },
  some { d := .other, size := 1, bytes := 8, zero := [.pointer none], cmp := false },
  some { d := .int .i32, size := 1, bytes := 4, zero := [.int .i32 0], cmp := false },
  some { d := .int .i32, size := 1, bytes := 4, zero := [.int .i32 0], cmp := false },
  some { d := .struct [(0, 12), (1, 12), (2, 63), (3, 64), (4, 5), (5, 5), (6, 65), (7, 66), (8, 67), (9, 68), (10, 69)], size := 11, bytes := 48, zero := [.int .u64 0, .int .u64 0, .int .u32 0, .int .u8 0, .int .u8 0, .int .u8 0, .int .u8 0, .nilFunc, .pointer none, .int .i32 0, .int .i32 0], cmp := false },
  some { d := .struct [(0, 12), (1, 12), (2, 63), (3, 64), (4, 5), (5, 5), (6, 65), (7, 66), (8, 67), (9, 68), (10, 69)], size := 11, bytes := 48, zero := [.int .u64 0, .int .u64 0, .int .u32 0, .int .u8 0, .int .u8 0, .int .u8 0, .int .u8 0, .nilFunc, .pointer none, .int .i32 0, .int .i32 0], cmp := false },
  none]
theorem D_ok : TabOk Try.prog D := TyAll.ok ⟨ty1, ty2, ty3, ty4, ty5, ty6, ty7, ty8, ty9, ty10, ty11, ty12, ty13, ty14, ty15, ty16, ty17, ty18, ty19, ty21, ty22, ty23, ty25, ty26, ty27, ty28, ty29, ty30, ty31, ty32, ty33, ty34, ty35, ty36, ty37, ty38, ty39, ty40, ty41, ty42, ty43, ty44, ty45, ty46, ty47, ty48, ty49, ty50, ty51, ty52, ty53, ty54, ty55, ty56, ty57, ty58, ty59, ty60, ty61, ty62, ty63, ty64, ty65, ty66, ty67, ty68, ty69, ty70, ty71, trivial⟩
end Go.Proofs.Try

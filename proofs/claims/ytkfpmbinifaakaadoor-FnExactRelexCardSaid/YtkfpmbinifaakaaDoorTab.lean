/-
  The types of this seat's program as the table of Core6, each held against the program.
-/
import Derived.Test.YtkfpmbinifaakaaDoorCore10
import Derived.Test.YtkfpmbinifaakaaDoorProg
import Derived.KernelRfl
namespace Go.Proofs.Tryd
open Go.Av
set_option maxRecDepth 100000

theorem ty1 : TyAt Tryd.prog 1 { d := .other, size := 1, bytes := 8, zero := [.nilFunc], cmp := false } :=
  ⟨⟨Tryd.t1, _, by kernel_rfl, rfl, rfl, rfl, rfl, rfl, rfl⟩, ⟨_, Tryd.underlying1, by first | rfl | trivial⟩, fun h => by cases h⟩
theorem ty2 : TyAt Tryd.prog 2 { d := .int .i64, size := 1, bytes := 8, zero := [.int .i64 0], cmp := false } :=
  ⟨⟨Tryd.t2, _, by kernel_rfl, rfl, rfl, rfl, rfl, rfl, rfl⟩, ⟨_, Tryd.underlying2, by first | rfl | trivial⟩, fun h => by cases h⟩
theorem ty3 : TyAt Tryd.prog 3 { d := .int .i64, size := 1, bytes := 8, zero := [.int .i64 0], cmp := false } :=
  ⟨⟨Tryd.t3, _, by kernel_rfl, rfl, rfl, rfl, rfl, rfl, rfl⟩, ⟨_, Tryd.underlying3, by first | rfl | trivial⟩, fun h => by cases h⟩
theorem ty4 : TyAt Tryd.prog 4 { d := .bool, size := 1, bytes := 1, zero := [.bool false], cmp := false } :=
  ⟨⟨Tryd.t4, _, by kernel_rfl, rfl, rfl, rfl, rfl, rfl, rfl⟩, ⟨_, Tryd.underlying4, by first | rfl | trivial⟩, fun h => by cases h⟩
theorem ty5 : TyAt Tryd.prog 5 { d := .int .u8, size := 1, bytes := 1, zero := [.int .u8 0], cmp := false } :=
  ⟨⟨Tryd.t5, _, by kernel_rfl, rfl, rfl, rfl, rfl, rfl, rfl⟩, ⟨_, Tryd.underlying5, by first | rfl | trivial⟩, fun h => by cases h⟩
theorem ty6 : TyAt Tryd.prog 6 { d := .int .u8, size := 1, bytes := 1, zero := [.int .u8 0], cmp := false } :=
  ⟨⟨Tryd.t6, _, by kernel_rfl, rfl, rfl, rfl, rfl, rfl, rfl⟩, ⟨_, Tryd.underlying6, by first | rfl | trivial⟩, fun h => by cases h⟩
theorem ty7 : TyAt Tryd.prog 7 { d := .struct [(0, 2), (1, 3), (2, 4), (3, 6)], size := 4, bytes := 24, zero := [.int .i64 0, .int .i64 0, .bool false, .int .u8 0], cmp := true } :=
  ⟨⟨Tryd.t7, _, by kernel_rfl, rfl, rfl, rfl, rfl, rfl, rfl⟩, ⟨_, Tryd.underlying7, by first | rfl | trivial⟩, fun _ => ⟨Tryd.stoodInHeld7, Tryd.eqGuardType7, of_decide_eq_true (by kernel_rfl)⟩⟩
theorem ty8 : TyAt Tryd.prog 8 { d := .struct [(0, 2), (1, 3), (2, 4), (3, 6)], size := 4, bytes := 24, zero := [.int .i64 0, .int .i64 0, .bool false, .int .u8 0], cmp := true } :=
  ⟨⟨Tryd.t8, _, by kernel_rfl, rfl, rfl, rfl, rfl, rfl, rfl⟩, ⟨_, Tryd.underlying8, by first | rfl | trivial⟩, fun _ => ⟨Tryd.stoodInHeld8, Tryd.eqGuardType8, of_decide_eq_true (by kernel_rfl)⟩⟩
theorem ty9 : TyAt Tryd.prog 9 { d := .str, size := 1, bytes := 16, zero := [.string ⟨#[]⟩], cmp := false } :=
  ⟨⟨Tryd.t9, _, by kernel_rfl, rfl, rfl, rfl, rfl, rfl, rfl⟩, ⟨_, Tryd.underlying9, by first | rfl | trivial⟩, fun h => by cases h⟩
theorem ty10 : TyAt Tryd.prog 10 { d := .str, size := 1, bytes := 16, zero := [.string ⟨#[]⟩], cmp := false } :=
  ⟨⟨Tryd.t10, _, by kernel_rfl, rfl, rfl, rfl, rfl, rfl, rfl⟩, ⟨_, Tryd.underlying10, by first | rfl | trivial⟩, fun h => by cases h⟩
theorem ty11 : TyAt Tryd.prog 11 { d := .str, size := 1, bytes := 16, zero := [.string ⟨#[]⟩], cmp := false } :=
  ⟨⟨Tryd.t11, _, by kernel_rfl, rfl, rfl, rfl, rfl, rfl, rfl⟩, ⟨_, Tryd.underlying11, by first | rfl | trivial⟩, fun h => by cases h⟩
theorem ty12 : TyAt Tryd.prog 12 { d := .int .u64, size := 1, bytes := 8, zero := [.int .u64 0], cmp := false } :=
  ⟨⟨Tryd.t12, _, by kernel_rfl, rfl, rfl, rfl, rfl, rfl, rfl⟩, ⟨_, Tryd.underlying12, by first | rfl | trivial⟩, fun h => by cases h⟩
theorem ty13 : TyAt Tryd.prog 13 { d := .struct [(0, 9), (1, 12)], size := 2, bytes := 24, zero := [.string ⟨#[]⟩, .int .u64 0], cmp := false } :=
  ⟨⟨Tryd.t13, _, by kernel_rfl, rfl, rfl, rfl, rfl, rfl, rfl⟩, ⟨_, Tryd.underlying13, by first | rfl | trivial⟩, fun h => by cases h⟩
theorem ty14 : TyAt Tryd.prog 14 { d := .struct [(0, 9), (1, 12)], size := 2, bytes := 24, zero := [.string ⟨#[]⟩, .int .u64 0], cmp := false } :=
  ⟨⟨Tryd.t14, _, by kernel_rfl, rfl, rfl, rfl, rfl, rfl, rfl⟩, ⟨_, Tryd.underlying14, by first | rfl | trivial⟩, fun h => by cases h⟩
theorem ty15 : TyAt Tryd.prog 15 { d := .other, size := 1, bytes := 8, zero := [.pointer none], cmp := false } :=
  ⟨⟨Tryd.t15, _, by kernel_rfl, rfl, rfl, rfl, rfl, rfl, rfl⟩, ⟨_, Tryd.underlying15, by first | rfl | trivial⟩, fun h => by cases h⟩
theorem ty16 : TyAt Tryd.prog 16 { d := .other, size := 1, bytes := 8, zero := [.pointer none], cmp := false } :=
  ⟨⟨Tryd.t16, _, by kernel_rfl, rfl, rfl, rfl, rfl, rfl, rfl⟩, ⟨_, Tryd.underlying16, by first | rfl | trivial⟩, fun h => by cases h⟩
theorem ty17 : TyAt Tryd.prog 17 { d := .other, size := 1, bytes := 8, zero := [.pointer none], cmp := false } :=
  ⟨⟨Tryd.t17, _, by kernel_rfl, rfl, rfl, rfl, rfl, rfl, rfl⟩, ⟨_, Tryd.underlying17, by first | rfl | trivial⟩, fun h => by cases h⟩
theorem ty18 : TyAt Tryd.prog 18 { d := .struct [(0, 17)], size := 1, bytes := 8, zero := [.pointer none], cmp := false } :=
  ⟨⟨Tryd.t18, _, by kernel_rfl, rfl, rfl, rfl, rfl, rfl, rfl⟩, ⟨_, Tryd.underlying18, by first | rfl | trivial⟩, fun h => by cases h⟩
theorem ty19 : TyAt Tryd.prog 19 { d := .struct [(0, 17)], size := 1, bytes := 8, zero := [.pointer none], cmp := false } :=
  ⟨⟨Tryd.t19, _, by kernel_rfl, rfl, rfl, rfl, rfl, rfl, rfl⟩, ⟨_, Tryd.underlying19, by first | rfl | trivial⟩, fun h => by cases h⟩
theorem ty21 : TyAt Tryd.prog 21 { d := .int .i32, size := 1, bytes := 4, zero := [.int .i32 0], cmp := false } :=
  ⟨⟨Tryd.t21, _, by kernel_rfl, rfl, rfl, rfl, rfl, rfl, rfl⟩, ⟨_, Tryd.underlying21, by first | rfl | trivial⟩, fun h => by cases h⟩
theorem ty22 : TyAt Tryd.prog 22 { d := .slice 45, size := 1, bytes := 24, zero := [.slice none 0 0], cmp := false } :=
  ⟨⟨Tryd.t22, _, by kernel_rfl, rfl, rfl, rfl, rfl, rfl, rfl⟩, ⟨_, Tryd.underlying22, by first | rfl | trivial⟩, fun h => by cases h⟩
theorem ty23 : TyAt Tryd.prog 23 { d := .other, size := 1, bytes := 8, zero := [.nilFunc], cmp := false } :=
  ⟨⟨Tryd.t23, _, by kernel_rfl, rfl, rfl, rfl, rfl, rfl, rfl⟩, ⟨_, Tryd.underlying23, by first | rfl | trivial⟩, fun h => by cases h⟩
theorem ty24 : TyAt Tryd.prog 24 { d := .other, size := 1, bytes := 8, zero := [.nilFunc], cmp := false } :=
  ⟨⟨Tryd.t24, _, by kernel_rfl, rfl, rfl, rfl, rfl, rfl, rfl⟩, ⟨_, Tryd.underlying24, by first | rfl | trivial⟩, fun h => by cases h⟩
theorem ty25 : TyAt Tryd.prog 25 { d := .slice 46, size := 1, bytes := 24, zero := [.slice none 0 0], cmp := false } :=
  ⟨⟨Tryd.t25, _, by kernel_rfl, rfl, rfl, rfl, rfl, rfl, rfl⟩, ⟨_, Tryd.underlying25, by first | rfl | trivial⟩, fun h => by cases h⟩
theorem ty26 : TyAt Tryd.prog 26 { d := .other, size := 1, bytes := 8, zero := [.nilFunc], cmp := false } :=
  ⟨⟨Tryd.t26, _, by kernel_rfl, rfl, rfl, rfl, rfl, rfl, rfl⟩, ⟨_, Tryd.underlying26, by first | rfl | trivial⟩, fun h => by cases h⟩
theorem ty27 : TyAt Tryd.prog 27 { d := .other, size := 1, bytes := 8, zero := [.nilFunc], cmp := false } :=
  ⟨⟨Tryd.t27, _, by kernel_rfl, rfl, rfl, rfl, rfl, rfl, rfl⟩, ⟨_, Tryd.underlying27, by first | rfl | trivial⟩, fun h => by cases h⟩
theorem ty28 : TyAt Tryd.prog 28 { d := .other, size := 1, bytes := 8, zero := [.nilFunc], cmp := false } :=
  ⟨⟨Tryd.t28, _, by kernel_rfl, rfl, rfl, rfl, rfl, rfl, rfl⟩, ⟨_, Tryd.underlying28, by first | rfl | trivial⟩, fun h => by cases h⟩
theorem ty29 : TyAt Tryd.prog 29 { d := .struct [(0, 3), (1, 3)], size := 2, bytes := 16, zero := [.int .i64 0, .int .i64 0], cmp := true } :=
  ⟨⟨Tryd.t29, _, by kernel_rfl, rfl, rfl, rfl, rfl, rfl, rfl⟩, ⟨_, Tryd.underlying29, by first | rfl | trivial⟩, fun _ => ⟨Tryd.stoodInHeld29, Tryd.eqGuardType29, of_decide_eq_true (by kernel_rfl)⟩⟩
theorem ty30 : TyAt Tryd.prog 30 { d := .struct [(0, 3), (1, 3)], size := 2, bytes := 16, zero := [.int .i64 0, .int .i64 0], cmp := true } :=
  ⟨⟨Tryd.t30, _, by kernel_rfl, rfl, rfl, rfl, rfl, rfl, rfl⟩, ⟨_, Tryd.underlying30, by first | rfl | trivial⟩, fun _ => ⟨Tryd.stoodInHeld30, Tryd.eqGuardType30, of_decide_eq_true (by kernel_rfl)⟩⟩
theorem ty32 : TyAt Tryd.prog 32 { d := .other, size := 1, bytes := 8, zero := [.nilFunc], cmp := false } :=
  ⟨⟨Tryd.t32, _, by kernel_rfl, rfl, rfl, rfl, rfl, rfl, rfl⟩, ⟨_, Tryd.underlying32, by first | rfl | trivial⟩, fun h => by cases h⟩
theorem ty33 : TyAt Tryd.prog 33 { d := .other, size := 1, bytes := 8, zero := [.nilFunc], cmp := false } :=
  ⟨⟨Tryd.t33, _, by kernel_rfl, rfl, rfl, rfl, rfl, rfl, rfl⟩, ⟨_, Tryd.underlying33, by first | rfl | trivial⟩, fun h => by cases h⟩
theorem ty34 : TyAt Tryd.prog 34 { d := .other, size := 1, bytes := 8, zero := [.nilFunc], cmp := false } :=
  ⟨⟨Tryd.t34, _, by kernel_rfl, rfl, rfl, rfl, rfl, rfl, rfl⟩, ⟨_, Tryd.underlying34, by first | rfl | trivial⟩, fun h => by cases h⟩
theorem ty35 : TyAt Tryd.prog 35 { d := .other, size := 1, bytes := 8, zero := [.nilFunc], cmp := false } :=
  ⟨⟨Tryd.t35, _, by kernel_rfl, rfl, rfl, rfl, rfl, rfl, rfl⟩, ⟨_, Tryd.underlying35, by first | rfl | trivial⟩, fun h => by cases h⟩
theorem ty36 : TyAt Tryd.prog 36 { d := .slice 58, size := 1, bytes := 24, zero := [.slice none 0 0], cmp := false } :=
  ⟨⟨Tryd.t36, _, by kernel_rfl, rfl, rfl, rfl, rfl, rfl, rfl⟩, ⟨_, Tryd.underlying36, by first | rfl | trivial⟩, fun h => by cases h⟩
theorem ty37 : TyAt Tryd.prog 37 { d := .other, size := 1, bytes := 8, zero := [.nilFunc], cmp := false } :=
  ⟨⟨Tryd.t37, _, by kernel_rfl, rfl, rfl, rfl, rfl, rfl, rfl⟩, ⟨_, Tryd.underlying37, by first | rfl | trivial⟩, fun h => by cases h⟩
theorem ty38 : TyAt Tryd.prog 38 { d := .other, size := 1, bytes := 8, zero := [.nilFunc], cmp := false } :=
  ⟨⟨Tryd.t38, _, by kernel_rfl, rfl, rfl, rfl, rfl, rfl, rfl⟩, ⟨_, Tryd.underlying38, by first | rfl | trivial⟩, fun h => by cases h⟩
theorem ty39 : TyAt Tryd.prog 39 { d := .slice 60, size := 1, bytes := 24, zero := [.slice none 0 0], cmp := false } :=
  ⟨⟨Tryd.t39, _, by kernel_rfl, rfl, rfl, rfl, rfl, rfl, rfl⟩, ⟨_, Tryd.underlying39, by first | rfl | trivial⟩, fun h => by cases h⟩
theorem ty40 : TyAt Tryd.prog 40 { d := .other, size := 1, bytes := 8, zero := [.nilFunc], cmp := false } :=
  ⟨⟨Tryd.t40, _, by kernel_rfl, rfl, rfl, rfl, rfl, rfl, rfl⟩, ⟨_, Tryd.underlying40, by first | rfl | trivial⟩, fun h => by cases h⟩
theorem ty41 : TyAt Tryd.prog 41 { d := .other, size := 1, bytes := 8, zero := [.nilFunc], cmp := false } :=
  ⟨⟨Tryd.t41, _, by kernel_rfl, rfl, rfl, rfl, rfl, rfl, rfl⟩, ⟨_, Tryd.underlying41, by first | rfl | trivial⟩, fun h => by cases h⟩
theorem ty42 : TyAt Tryd.prog 42 { d := .other, size := 1, bytes := 8, zero := [.nilFunc], cmp := false } :=
  ⟨⟨Tryd.t42, _, by kernel_rfl, rfl, rfl, rfl, rfl, rfl, rfl⟩, ⟨_, Tryd.underlying42, by first | rfl | trivial⟩, fun h => by cases h⟩
theorem ty43 : TyAt Tryd.prog 43 { d := .other, size := 1, bytes := 8, zero := [.nilFunc], cmp := false } :=
  ⟨⟨Tryd.t43, _, by kernel_rfl, rfl, rfl, rfl, rfl, rfl, rfl⟩, ⟨_, Tryd.underlying43, by first | rfl | trivial⟩, fun h => by cases h⟩
theorem ty44 : TyAt Tryd.prog 44 { d := .struct [(0, 3), (1, 9), (2, 3)], size := 3, bytes := 32, zero := [.int .i64 0, .string ⟨#[]⟩, .int .i64 0], cmp := true } :=
  ⟨⟨Tryd.t44, _, by kernel_rfl, rfl, rfl, rfl, rfl, rfl, rfl⟩, ⟨_, Tryd.underlying44, by first | rfl | trivial⟩, fun _ => ⟨Tryd.stoodInHeld44, Tryd.eqGuardType44, of_decide_eq_true (by kernel_rfl)⟩⟩
theorem ty45 : TyAt Tryd.prog 45 { d := .struct [(0, 3), (1, 9), (2, 3)], size := 3, bytes := 32, zero := [.int .i64 0, .string ⟨#[]⟩, .int .i64 0], cmp := true } :=
  ⟨⟨Tryd.t45, _, by kernel_rfl, rfl, rfl, rfl, rfl, rfl, rfl⟩, ⟨_, Tryd.underlying45, by first | rfl | trivial⟩, fun _ => ⟨Tryd.stoodInHeld45, Tryd.eqGuardType45, of_decide_eq_true (by kernel_rfl)⟩⟩
theorem ty46 : TyAt Tryd.prog 46 { d := .struct [(0, 3), (1, 9), (2, 3)], size := 3, bytes := 32, zero := [.int .i64 0, .string ⟨#[]⟩, .int .i64 0], cmp := true } :=
  ⟨⟨Tryd.t46, _, by kernel_rfl, rfl, rfl, rfl, rfl, rfl, rfl⟩, ⟨_, Tryd.underlying46, by first | rfl | trivial⟩, fun _ => ⟨Tryd.stoodInHeld46, Tryd.eqGuardType46, of_decide_eq_true (by kernel_rfl)⟩⟩
theorem ty47 : TyAt Tryd.prog 47 { d := .other, size := 1, bytes := 8, zero := [.nilFunc], cmp := false } :=
  ⟨⟨Tryd.t47, _, by kernel_rfl, rfl, rfl, rfl, rfl, rfl, rfl⟩, ⟨_, Tryd.underlying47, by first | rfl | trivial⟩, fun h => by cases h⟩
theorem ty48 : TyAt Tryd.prog 48 { d := .other, size := 1, bytes := 8, zero := [.nilFunc], cmp := false } :=
  ⟨⟨Tryd.t48, _, by kernel_rfl, rfl, rfl, rfl, rfl, rfl, rfl⟩, ⟨_, Tryd.underlying48, by first | rfl | trivial⟩, fun h => by cases h⟩
theorem ty49 : TyAt Tryd.prog 49 { d := .other, size := 1, bytes := 8, zero := [.nilFunc], cmp := false } :=
  ⟨⟨Tryd.t49, _, by kernel_rfl, rfl, rfl, rfl, rfl, rfl, rfl⟩, ⟨_, Tryd.underlying49, by first | rfl | trivial⟩, fun h => by cases h⟩
theorem ty51 : TyAt Tryd.prog 51 { d := .other, size := 1, bytes := 8, zero := [.nilFunc], cmp := false } :=
  ⟨⟨Tryd.t51, _, by kernel_rfl, rfl, rfl, rfl, rfl, rfl, rfl⟩, ⟨_, Tryd.underlying51, by first | rfl | trivial⟩, fun h => by cases h⟩
theorem ty52 : TyAt Tryd.prog 52 { d := .other, size := 1, bytes := 8, zero := [.nilFunc], cmp := false } :=
  ⟨⟨Tryd.t52, _, by kernel_rfl, rfl, rfl, rfl, rfl, rfl, rfl⟩, ⟨_, Tryd.underlying52, by first | rfl | trivial⟩, fun h => by cases h⟩
theorem ty53 : TyAt Tryd.prog 53 { d := .other, size := 1, bytes := 8, zero := [.nilFunc], cmp := false } :=
  ⟨⟨Tryd.t53, _, by kernel_rfl, rfl, rfl, rfl, rfl, rfl, rfl⟩, ⟨_, Tryd.underlying53, by first | rfl | trivial⟩, fun h => by cases h⟩
theorem ty54 : TyAt Tryd.prog 54 { d := .other, size := 1, bytes := 8, zero := [.nilFunc], cmp := false } :=
  ⟨⟨Tryd.t54, _, by kernel_rfl, rfl, rfl, rfl, rfl, rfl, rfl⟩, ⟨_, Tryd.underlying54, by first | rfl | trivial⟩, fun h => by cases h⟩
theorem ty55 : TyAt Tryd.prog 55 { d := .other, size := 1, bytes := 8, zero := [.nilFunc], cmp := false } :=
  ⟨⟨Tryd.t55, _, by kernel_rfl, rfl, rfl, rfl, rfl, rfl, rfl⟩, ⟨_, Tryd.underlying55, by first | rfl | trivial⟩, fun h => by cases h⟩
theorem ty56 : TyAt Tryd.prog 56 { d := .slice 3, size := 1, bytes := 24, zero := [.slice none 0 0], cmp := false } :=
  ⟨⟨Tryd.t56, _, by kernel_rfl, rfl, rfl, rfl, rfl, rfl, rfl⟩, ⟨_, Tryd.underlying56, by first | rfl | trivial⟩, fun h => by cases h⟩
theorem ty57 : TyAt Tryd.prog 57 { d := .struct [(0, 3), (1, 3), (2, 9), (3, 9), (4, 56)], size := 5, bytes := 72, zero := [.int .i64 0, .int .i64 0, .string ⟨#[]⟩, .string ⟨#[]⟩, .slice none 0 0], cmp := false } :=
  ⟨⟨Tryd.t57, _, by kernel_rfl, rfl, rfl, rfl, rfl, rfl, rfl⟩, ⟨_, Tryd.underlying57, by first | rfl | trivial⟩, fun h => by cases h⟩
theorem ty58 : TyAt Tryd.prog 58 { d := .struct [(0, 3), (1, 3), (2, 9), (3, 9), (4, 56)], size := 5, bytes := 72, zero := [.int .i64 0, .int .i64 0, .string ⟨#[]⟩, .string ⟨#[]⟩, .slice none 0 0], cmp := false } :=
  ⟨⟨Tryd.t58, _, by kernel_rfl, rfl, rfl, rfl, rfl, rfl, rfl⟩, ⟨_, Tryd.underlying58, by first | rfl | trivial⟩, fun h => by cases h⟩
theorem ty59 : TyAt Tryd.prog 59 { d := .other, size := 1, bytes := 8, zero := [.nilFunc], cmp := false } :=
  ⟨⟨Tryd.t59, _, by kernel_rfl, rfl, rfl, rfl, rfl, rfl, rfl⟩, ⟨_, Tryd.underlying59, by first | rfl | trivial⟩, fun h => by cases h⟩
theorem ty60 : TyAt Tryd.prog 60 { d := .struct [(0, 3), (1, 3), (2, 9), (3, 9), (4, 56)], size := 5, bytes := 72, zero := [.int .i64 0, .int .i64 0, .string ⟨#[]⟩, .string ⟨#[]⟩, .slice none 0 0], cmp := false } :=
  ⟨⟨Tryd.t60, _, by kernel_rfl, rfl, rfl, rfl, rfl, rfl, rfl⟩, ⟨_, Tryd.underlying60, by first | rfl | trivial⟩, fun h => by cases h⟩
theorem ty61 : TyAt Tryd.prog 61 { d := .other, size := 1, bytes := 8, zero := [.nilFunc], cmp := false } :=
  ⟨⟨Tryd.t61, _, by kernel_rfl, rfl, rfl, rfl, rfl, rfl, rfl⟩, ⟨_, Tryd.underlying61, by first | rfl | trivial⟩, fun h => by cases h⟩
theorem ty62 : TyAt Tryd.prog 62 { d := .other, size := 1, bytes := 8, zero := [.nilFunc], cmp := false } :=
  ⟨⟨Tryd.t62, _, by kernel_rfl, rfl, rfl, rfl, rfl, rfl, rfl⟩, ⟨_, Tryd.underlying62, by first | rfl | trivial⟩, fun h => by cases h⟩
theorem ty63 : TyAt Tryd.prog 63 { d := .other, size := 1, bytes := 8, zero := [.nilFunc], cmp := false } :=
  ⟨⟨Tryd.t63, _, by kernel_rfl, rfl, rfl, rfl, rfl, rfl, rfl⟩, ⟨_, Tryd.underlying63, by first | rfl | trivial⟩, fun h => by cases h⟩
theorem ty64 : TyAt Tryd.prog 64 { d := .other, size := 1, bytes := 8, zero := [.nilFunc], cmp := false } :=
  ⟨⟨Tryd.t64, _, by kernel_rfl, rfl, rfl, rfl, rfl, rfl, rfl⟩, ⟨_, Tryd.underlying64, by first | rfl | trivial⟩, fun h => by cases h⟩
theorem ty65 : TyAt Tryd.prog 65 { d := .other, size := 1, bytes := 8, zero := [.nilFunc], cmp := false } :=
  ⟨⟨Tryd.t65, _, by kernel_rfl, rfl, rfl, rfl, rfl, rfl, rfl⟩, ⟨_, Tryd.underlying65, by first | rfl | trivial⟩, fun h => by cases h⟩
theorem ty66 : TyAt Tryd.prog 66 { d := .other, size := 1, bytes := 8, zero := [.nilFunc], cmp := false } :=
  ⟨⟨Tryd.t66, _, by kernel_rfl, rfl, rfl, rfl, rfl, rfl, rfl⟩, ⟨_, Tryd.underlying66, by first | rfl | trivial⟩, fun h => by cases h⟩
theorem ty67 : TyAt Tryd.prog 67 { d := .other, size := 1, bytes := 8, zero := [.nilFunc], cmp := false } :=
  ⟨⟨Tryd.t67, _, by kernel_rfl, rfl, rfl, rfl, rfl, rfl, rfl⟩, ⟨_, Tryd.underlying67, by first | rfl | trivial⟩, fun h => by cases h⟩
theorem ty68 : TyAt Tryd.prog 68 { d := .other, size := 1, bytes := 8, zero := [.nilFunc], cmp := false } :=
  ⟨⟨Tryd.t68, _, by kernel_rfl, rfl, rfl, rfl, rfl, rfl, rfl⟩, ⟨_, Tryd.underlying68, by first | rfl | trivial⟩, fun h => by cases h⟩
theorem ty69 : TyAt Tryd.prog 69 { d := .other, size := 1, bytes := 8, zero := [.nilFunc], cmp := false } :=
  ⟨⟨Tryd.t69, _, by kernel_rfl, rfl, rfl, rfl, rfl, rfl, rfl⟩, ⟨_, Tryd.underlying69, by first | rfl | trivial⟩, fun h => by cases h⟩
theorem ty70 : TyAt Tryd.prog 70 { d := .slice 5, size := 1, bytes := 24, zero := [.slice none 0 0], cmp := false } :=
  ⟨⟨Tryd.t70, _, by kernel_rfl, rfl, rfl, rfl, rfl, rfl, rfl⟩, ⟨_, Tryd.underlying70, by first | rfl | trivial⟩, fun h => by cases h⟩
theorem ty71 : TyAt Tryd.prog 71 { d := .other, size := 1, bytes := 8, zero := [.nilFunc], cmp := false } :=
  ⟨⟨Tryd.t71, _, by kernel_rfl, rfl, rfl, rfl, rfl, rfl, rfl⟩, ⟨_, Tryd.underlying71, by first | rfl | trivial⟩, fun h => by cases h⟩
theorem ty72 : TyAt Tryd.prog 72 { d := .other, size := 1, bytes := 8, zero := [.nilFunc], cmp := false } :=
  ⟨⟨Tryd.t72, _, by kernel_rfl, rfl, rfl, rfl, rfl, rfl, rfl⟩, ⟨_, Tryd.underlying72, by first | rfl | trivial⟩, fun h => by cases h⟩
theorem ty73 : TyAt Tryd.prog 73 { d := .other, size := 1, bytes := 8, zero := [.nilFunc], cmp := false } :=
  ⟨⟨Tryd.t73, _, by kernel_rfl, rfl, rfl, rfl, rfl, rfl, rfl⟩, ⟨_, Tryd.underlying73, by first | rfl | trivial⟩, fun h => by cases h⟩
theorem ty74 : TyAt Tryd.prog 74 { d := .other, size := 1, bytes := 8, zero := [.nilFunc], cmp := false } :=
  ⟨⟨Tryd.t74, _, by kernel_rfl, rfl, rfl, rfl, rfl, rfl, rfl⟩, ⟨_, Tryd.underlying74, by first | rfl | trivial⟩, fun h => by cases h⟩
theorem ty75 : TyAt Tryd.prog 75 { d := .other, size := 1, bytes := 8, zero := [.nilFunc], cmp := false } :=
  ⟨⟨Tryd.t75, _, by kernel_rfl, rfl, rfl, rfl, rfl, rfl, rfl⟩, ⟨_, Tryd.underlying75, by first | rfl | trivial⟩, fun h => by cases h⟩
theorem ty76 : TyAt Tryd.prog 76 { d := .slice 78, size := 1, bytes := 24, zero := [.slice none 0 0], cmp := false } :=
  ⟨⟨Tryd.t76, _, by kernel_rfl, rfl, rfl, rfl, rfl, rfl, rfl⟩, ⟨_, Tryd.underlying76, by first | rfl | trivial⟩, fun h => by cases h⟩
theorem ty77 : TyAt Tryd.prog 77 { d := .struct [(0, 3), (1, 3), (2, 9), (3, 9), (4, 76)], size := 5, bytes := 72, zero := [.int .i64 0, .int .i64 0, .string ⟨#[]⟩, .string ⟨#[]⟩, .slice none 0 0], cmp := false } :=
  ⟨⟨Tryd.t77, _, by kernel_rfl, rfl, rfl, rfl, rfl, rfl, rfl⟩, ⟨_, Tryd.underlying77, by first | rfl | trivial⟩, fun h => by cases h⟩
theorem ty78 : TyAt Tryd.prog 78 { d := .struct [(0, 3), (1, 3), (2, 9), (3, 9), (4, 76)], size := 5, bytes := 72, zero := [.int .i64 0, .int .i64 0, .string ⟨#[]⟩, .string ⟨#[]⟩, .slice none 0 0], cmp := false } :=
  ⟨⟨Tryd.t78, _, by kernel_rfl, rfl, rfl, rfl, rfl, rfl, rfl⟩, ⟨_, Tryd.underlying78, by first | rfl | trivial⟩, fun h => by cases h⟩
theorem ty79 : TyAt Tryd.prog 79 { d := .other, size := 1, bytes := 8, zero := [.nilFunc], cmp := false } :=
  ⟨⟨Tryd.t79, _, by kernel_rfl, rfl, rfl, rfl, rfl, rfl, rfl⟩, ⟨_, Tryd.underlying79, by first | rfl | trivial⟩, fun h => by cases h⟩
theorem ty80 : TyAt Tryd.prog 80 { d := .other, size := 1, bytes := 8, zero := [.nilFunc], cmp := false } :=
  ⟨⟨Tryd.t80, _, by kernel_rfl, rfl, rfl, rfl, rfl, rfl, rfl⟩, ⟨_, Tryd.underlying80, by first | rfl | trivial⟩, fun h => by cases h⟩
theorem ty81 : TyAt Tryd.prog 81 { d := .int .u64, size := 1, bytes := 8, zero := [.int .u64 0], cmp := false } :=
  ⟨⟨Tryd.t81, _, by kernel_rfl, rfl, rfl, rfl, rfl, rfl, rfl⟩, ⟨_, Tryd.underlying81, by first | rfl | trivial⟩, fun h => by cases h⟩
theorem ty82 : TyAt Tryd.prog 82 { d := .other, size := 1, bytes := 8, zero := [.nilFunc], cmp := false } :=
  ⟨⟨Tryd.t82, _, by kernel_rfl, rfl, rfl, rfl, rfl, rfl, rfl⟩, ⟨_, Tryd.underlying82, by first | rfl | trivial⟩, fun h => by cases h⟩
theorem ty83 : TyAt Tryd.prog 83 { d := .other, size := 1, bytes := 8, zero := [.nilFunc], cmp := false } :=
  ⟨⟨Tryd.t83, _, by kernel_rfl, rfl, rfl, rfl, rfl, rfl, rfl⟩, ⟨_, Tryd.underlying83, by first | rfl | trivial⟩, fun h => by cases h⟩
theorem ty84 : TyAt Tryd.prog 84 { d := .other, size := 1, bytes := 8, zero := [.nilFunc], cmp := false } :=
  ⟨⟨Tryd.t84, _, by kernel_rfl, rfl, rfl, rfl, rfl, rfl, rfl⟩, ⟨_, Tryd.underlying84, by first | rfl | trivial⟩, fun h => by cases h⟩
theorem ty86 : TyAt Tryd.prog 86 { d := .other, size := 1, bytes := 8, zero := [.nilFunc], cmp := false } :=
  ⟨⟨Tryd.t86, _, by kernel_rfl, rfl, rfl, rfl, rfl, rfl, rfl⟩, ⟨_, Tryd.underlying86, by first | rfl | trivial⟩, fun h => by cases h⟩
theorem ty87 : TyAt Tryd.prog 87 { d := .other, size := 1, bytes := 8, zero := [.nilFunc], cmp := false } :=
  ⟨⟨Tryd.t87, _, by kernel_rfl, rfl, rfl, rfl, rfl, rfl, rfl⟩, ⟨_, Tryd.underlying87, by first | rfl | trivial⟩, fun h => by cases h⟩
theorem ty89 : TyAt Tryd.prog 89 { d := .other, size := 1, bytes := 8, zero := [.nilFunc], cmp := false } :=
  ⟨⟨Tryd.t89, _, by kernel_rfl, rfl, rfl, rfl, rfl, rfl, rfl⟩, ⟨_, Tryd.underlying89, by first | rfl | trivial⟩, fun h => by cases h⟩
theorem ty90 : TyAt Tryd.prog 90 { d := .other, size := 1, bytes := 8, zero := [.nilFunc], cmp := false } :=
  ⟨⟨Tryd.t90, _, by kernel_rfl, rfl, rfl, rfl, rfl, rfl, rfl⟩, ⟨_, Tryd.underlying90, by first | rfl | trivial⟩, fun h => by cases h⟩
theorem ty91 : TyAt Tryd.prog 91 { d := .struct [(0, 4), (1, 4), (2, 4), (3, 3), (4, 3)], size := 5, bytes := 24, zero := [.bool false, .bool false, .bool false, .int .i64 0, .int .i64 0], cmp := true } :=
  ⟨⟨Tryd.t91, _, by kernel_rfl, rfl, rfl, rfl, rfl, rfl, rfl⟩, ⟨_, Tryd.underlying91, by first | rfl | trivial⟩, fun _ => ⟨Tryd.stoodInHeld91, Tryd.eqGuardType91, of_decide_eq_true (by kernel_rfl)⟩⟩
theorem ty92 : TyAt Tryd.prog 92 { d := .struct [(0, 4), (1, 4), (2, 4), (3, 3), (4, 3)], size := 5, bytes := 24, zero := [.bool false, .bool false, .bool false, .int .i64 0, .int .i64 0], cmp := true } :=
  ⟨⟨Tryd.t92, _, by kernel_rfl, rfl, rfl, rfl, rfl, rfl, rfl⟩, ⟨_, Tryd.underlying92, by first | rfl | trivial⟩, fun _ => ⟨Tryd.stoodInHeld92, Tryd.eqGuardType92, of_decide_eq_true (by kernel_rfl)⟩⟩
theorem ty93 : TyAt Tryd.prog 93 { d := .other, size := 1, bytes := 8, zero := [.nilFunc], cmp := false } :=
  ⟨⟨Tryd.t93, _, by kernel_rfl, rfl, rfl, rfl, rfl, rfl, rfl⟩, ⟨_, Tryd.underlying93, by first | rfl | trivial⟩, fun h => by cases h⟩
theorem ty94 : TyAt Tryd.prog 94 { d := .other, size := 1, bytes := 8, zero := [.nilFunc], cmp := false } :=
  ⟨⟨Tryd.t94, _, by kernel_rfl, rfl, rfl, rfl, rfl, rfl, rfl⟩, ⟨_, Tryd.underlying94, by first | rfl | trivial⟩, fun h => by cases h⟩
theorem ty95 : TyAt Tryd.prog 95 { d := .other, size := 1, bytes := 8, zero := [.nilFunc], cmp := false } :=
  ⟨⟨Tryd.t95, _, by kernel_rfl, rfl, rfl, rfl, rfl, rfl, rfl⟩, ⟨_, Tryd.underlying95, by first | rfl | trivial⟩, fun h => by cases h⟩
theorem ty96 : TyAt Tryd.prog 96 { d := .other, size := 1, bytes := 8, zero := [.nilFunc], cmp := false } :=
  ⟨⟨Tryd.t96, _, by kernel_rfl, rfl, rfl, rfl, rfl, rfl, rfl⟩, ⟨_, Tryd.underlying96, by first | rfl | trivial⟩, fun h => by cases h⟩
theorem ty97 : TyAt Tryd.prog 97 { d := .other, size := 1, bytes := 8, zero := [.nilFunc], cmp := false } :=
  ⟨⟨Tryd.t97, _, by kernel_rfl, rfl, rfl, rfl, rfl, rfl, rfl⟩, ⟨_, Tryd.underlying97, by first | rfl | trivial⟩, fun h => by cases h⟩
theorem ty98 : TyAt Tryd.prog 98 { d := .slice 9, size := 1, bytes := 24, zero := [.slice none 0 0], cmp := false } :=
  ⟨⟨Tryd.t98, _, by kernel_rfl, rfl, rfl, rfl, rfl, rfl, rfl⟩, ⟨_, Tryd.underlying98, by first | rfl | trivial⟩, fun h => by cases h⟩
theorem ty99 : TyAt Tryd.prog 99 { d := .other, size := 1, bytes := 8, zero := [.nilFunc], cmp := false } :=
  ⟨⟨Tryd.t99, _, by kernel_rfl, rfl, rfl, rfl, rfl, rfl, rfl⟩, ⟨_, Tryd.underlying99, by first | rfl | trivial⟩, fun h => by cases h⟩
theorem ty100 : TyAt Tryd.prog 100 { d := .other, size := 1, bytes := 8, zero := [.nilFunc], cmp := false } :=
  ⟨⟨Tryd.t100, _, by kernel_rfl, rfl, rfl, rfl, rfl, rfl, rfl⟩, ⟨_, Tryd.underlying100, by first | rfl | trivial⟩, fun h => by cases h⟩
theorem ty101 : TyAt Tryd.prog 101 { d := .other, size := 1, bytes := 8, zero := [.nilFunc], cmp := false } :=
  ⟨⟨Tryd.t101, _, by kernel_rfl, rfl, rfl, rfl, rfl, rfl, rfl⟩, ⟨_, Tryd.underlying101, by first | rfl | trivial⟩, fun h => by cases h⟩
theorem ty102 : TyAt Tryd.prog 102 { d := .arr 21 9, size := 21, bytes := 336, zero := [.string ⟨#[]⟩, .string ⟨#[]⟩, .string ⟨#[]⟩, .string ⟨#[]⟩, .string ⟨#[]⟩, .string ⟨#[]⟩, .string ⟨#[]⟩, .string ⟨#[]⟩, .string ⟨#[]⟩, .string ⟨#[]⟩, .string ⟨#[]⟩, .string ⟨#[]⟩, .string ⟨#[]⟩, .string ⟨#[]⟩, .string ⟨#[]⟩, .string ⟨#[]⟩, .string ⟨#[]⟩, .string ⟨#[]⟩, .string ⟨#[]⟩, .string ⟨#[]⟩, .string ⟨#[]⟩], cmp := false } :=
  ⟨⟨Tryd.t102, _, by kernel_rfl, rfl, rfl, rfl, rfl, rfl, rfl⟩, ⟨_, Tryd.underlying102, by first | rfl | trivial⟩, fun h => by cases h⟩
theorem ty103 : TyAt Tryd.prog 103 { d := .arr 17 9, size := 17, bytes := 272, zero := [.string ⟨#[]⟩, .string ⟨#[]⟩, .string ⟨#[]⟩, .string ⟨#[]⟩, .string ⟨#[]⟩, .string ⟨#[]⟩, .string ⟨#[]⟩, .string ⟨#[]⟩, .string ⟨#[]⟩, .string ⟨#[]⟩, .string ⟨#[]⟩, .string ⟨#[]⟩, .string ⟨#[]⟩, .string ⟨#[]⟩, .string ⟨#[]⟩, .string ⟨#[]⟩, .string ⟨#[]⟩], cmp := false } :=
  ⟨⟨Tryd.t103, _, by kernel_rfl, rfl, rfl, rfl, rfl, rfl, rfl⟩, ⟨_, Tryd.underlying103, by first | rfl | trivial⟩, fun h => by cases h⟩
theorem ty104 : TyAt Tryd.prog 104 { d := .arr 39 9, size := 39, bytes := 624, zero := [.string ⟨#[]⟩, .string ⟨#[]⟩, .string ⟨#[]⟩, .string ⟨#[]⟩, .string ⟨#[]⟩, .string ⟨#[]⟩, .string ⟨#[]⟩, .string ⟨#[]⟩, .string ⟨#[]⟩, .string ⟨#[]⟩, .string ⟨#[]⟩, .string ⟨#[]⟩, .string ⟨#[]⟩, .string ⟨#[]⟩, .string ⟨#[]⟩, .string ⟨#[]⟩, .string ⟨#[]⟩, .string ⟨#[]⟩, .string ⟨#[]⟩, .string ⟨#[]⟩, .string ⟨#[]⟩, .string ⟨#[]⟩, .string ⟨#[]⟩, .string ⟨#[]⟩, .string ⟨#[]⟩, .string ⟨#[]⟩, .string ⟨#[]⟩, .string ⟨#[]⟩, .string ⟨#[]⟩, .string ⟨#[]⟩, .string ⟨#[]⟩, .string ⟨#[]⟩, .string ⟨#[]⟩, .string ⟨#[]⟩, .string ⟨#[]⟩, .string ⟨#[]⟩, .string ⟨#[]⟩, .string ⟨#[]⟩, .string ⟨#[]⟩], cmp := false } :=
  ⟨⟨Tryd.t104, _, by kernel_rfl, rfl, rfl, rfl, rfl, rfl, rfl⟩, ⟨_, Tryd.underlying104, by first | rfl | trivial⟩, fun h => by cases h⟩
theorem ty105 : TyAt Tryd.prog 105 { d := .other, size := 1, bytes := 8, zero := [.nilFunc], cmp := false } :=
  ⟨⟨Tryd.t105, _, by kernel_rfl, rfl, rfl, rfl, rfl, rfl, rfl⟩, ⟨_, Tryd.underlying105, by first | rfl | trivial⟩, fun h => by cases h⟩
theorem ty106 : TyAt Tryd.prog 106 { d := .other, size := 1, bytes := 8, zero := [.nilFunc], cmp := false } :=
  ⟨⟨Tryd.t106, _, by kernel_rfl, rfl, rfl, rfl, rfl, rfl, rfl⟩, ⟨_, Tryd.underlying106, by first | rfl | trivial⟩, fun h => by cases h⟩
theorem ty107 : TyAt Tryd.prog 107 { d := .other, size := 1, bytes := 8, zero := [.nilFunc], cmp := false } :=
  ⟨⟨Tryd.t107, _, by kernel_rfl, rfl, rfl, rfl, rfl, rfl, rfl⟩, ⟨_, Tryd.underlying107, by first | rfl | trivial⟩, fun h => by cases h⟩
theorem ty108 : TyAt Tryd.prog 108 { d := .arr 3 3, size := 3, bytes := 24, zero := [.int .i64 0, .int .i64 0, .int .i64 0], cmp := false } :=
  ⟨⟨Tryd.t108, _, by kernel_rfl, rfl, rfl, rfl, rfl, rfl, rfl⟩, ⟨_, Tryd.underlying108, by first | rfl | trivial⟩, fun h => by cases h⟩
theorem ty109 : TyAt Tryd.prog 109 { d := .other, size := 1, bytes := 8, zero := [.nilFunc], cmp := false } :=
  ⟨⟨Tryd.t109, _, by kernel_rfl, rfl, rfl, rfl, rfl, rfl, rfl⟩, ⟨_, Tryd.underlying109, by first | rfl | trivial⟩, fun h => by cases h⟩
theorem ty110 : TyAt Tryd.prog 110 { d := .int .u32, size := 1, bytes := 4, zero := [.int .u32 0], cmp := false } :=
  ⟨⟨Tryd.t110, _, by kernel_rfl, rfl, rfl, rfl, rfl, rfl, rfl⟩, ⟨_, Tryd.underlying110, by first | rfl | trivial⟩, fun h => by cases h⟩
theorem ty112 : TyAt Tryd.prog 112 { d := .other, size := 1, bytes := 8, zero := [.nilFunc], cmp := false } :=
  ⟨⟨Tryd.t112, _, by kernel_rfl, rfl, rfl, rfl, rfl, rfl, rfl⟩, ⟨_, Tryd.underlying112, by first | rfl | trivial⟩, fun h => by cases h⟩
theorem ty113 : TyAt Tryd.prog 113 { d := .other, size := 1, bytes := 8, zero := [.nilFunc], cmp := false } :=
  ⟨⟨Tryd.t113, _, by kernel_rfl, rfl, rfl, rfl, rfl, rfl, rfl⟩, ⟨_, Tryd.underlying113, by first | rfl | trivial⟩, fun h => by cases h⟩
theorem ty114 : TyAt Tryd.prog 114 { d := .struct [(0, 17), (1, 17), (2, 17), (3, 9)], size := 4, bytes := 40, zero := [.pointer none, .pointer none, .pointer none, .string ⟨#[]⟩], cmp := false } :=
  ⟨⟨Tryd.t114, _, by kernel_rfl, rfl, rfl, rfl, rfl, rfl, rfl⟩, ⟨_, Tryd.underlying114, by first | rfl | trivial⟩, fun h => by cases h⟩
theorem ty115 : TyAt Tryd.prog 115 { d := .struct [(0, 17), (1, 17), (2, 17), (3, 9)], size := 4, bytes := 40, zero := [.pointer none, .pointer none, .pointer none, .string ⟨#[]⟩], cmp := false } :=
  ⟨⟨Tryd.t115, _, by kernel_rfl, rfl, rfl, rfl, rfl, rfl, rfl⟩, ⟨_, Tryd.underlying115, by first | rfl | trivial⟩, fun h => by cases h⟩
theorem ty116 : TyAt Tryd.prog 116 { d := .arr 0 16, size := 0, bytes := 0, zero := [], cmp := false } :=
  ⟨⟨Tryd.t116, _, by kernel_rfl, rfl, rfl, rfl, rfl, rfl, rfl⟩, ⟨_, Tryd.underlying116, by first | rfl | trivial⟩, fun h => by cases h⟩
theorem ty117 : TyAt Tryd.prog 117 { d := .struct [(0, 116)], size := 0, bytes := 0, zero := [], cmp := false } :=
  ⟨⟨Tryd.t117, _, by kernel_rfl, rfl, rfl, rfl, rfl, rfl, rfl⟩, ⟨_, Tryd.underlying117, by first | rfl | trivial⟩, fun h => by cases h⟩
theorem ty118 : TyAt Tryd.prog 118 { d := .struct [(0, 116)], size := 0, bytes := 0, zero := [], cmp := false } :=
  ⟨⟨Tryd.t118, _, by kernel_rfl, rfl, rfl, rfl, rfl, rfl, rfl⟩, ⟨_, Tryd.underlying118, by first | rfl | trivial⟩, fun h => by cases h⟩
theorem ty119 : TyAt Tryd.prog 119 { d := .int .u8, size := 1, bytes := 1, zero := [.int .u8 0], cmp := false } :=
  ⟨⟨Tryd.t119, _, by kernel_rfl, rfl, rfl, rfl, rfl, rfl, rfl⟩, ⟨_, Tryd.underlying119, by first | rfl | trivial⟩, fun h => by cases h⟩
theorem ty120 : TyAt Tryd.prog 120 { d := .int .u8, size := 1, bytes := 1, zero := [.int .u8 0], cmp := false } :=
  ⟨⟨Tryd.t120, _, by kernel_rfl, rfl, rfl, rfl, rfl, rfl, rfl⟩, ⟨_, Tryd.underlying120, by first | rfl | trivial⟩, fun h => by cases h⟩
theorem ty121 : TyAt Tryd.prog 121 { d := .other, size := 1, bytes := 8, zero := [.nilFunc], cmp := false } :=
  ⟨⟨Tryd.t121, _, by kernel_rfl, rfl, rfl, rfl, rfl, rfl, rfl⟩, ⟨_, Tryd.underlying121, by first | rfl | trivial⟩, fun h => by cases h⟩
theorem ty122 : TyAt Tryd.prog 122 { d := .other, size := 1, bytes := 8, zero := [.pointer none], cmp := false } :=
  ⟨⟨Tryd.t122, _, by kernel_rfl, rfl, rfl, rfl, rfl, rfl, rfl⟩, ⟨_, Tryd.underlying122, by first | rfl | trivial⟩, fun h => by cases h⟩
theorem ty123 : TyAt Tryd.prog 123 { d := .int .i32, size := 1, bytes := 4, zero := [.int .i32 0], cmp := false } :=
  ⟨⟨Tryd.t123, _, by kernel_rfl, rfl, rfl, rfl, rfl, rfl, rfl⟩, ⟨_, Tryd.underlying123, by first | rfl | trivial⟩, fun h => by cases h⟩
theorem ty124 : TyAt Tryd.prog 124 { d := .int .i32, size := 1, bytes := 4, zero := [.int .i32 0], cmp := false } :=
  ⟨⟨Tryd.t124, _, by kernel_rfl, rfl, rfl, rfl, rfl, rfl, rfl⟩, ⟨_, Tryd.underlying124, by first | rfl | trivial⟩, fun h => by cases h⟩
theorem ty125 : TyAt Tryd.prog 125 { d := .struct [(0, 12), (1, 12), (2, 110), (3, 119), (4, 5), (5, 5), (6, 120), (7, 121), (8, 122), (9, 123), (10, 124)], size := 11, bytes := 48, zero := [.int .u64 0, .int .u64 0, .int .u32 0, .int .u8 0, .int .u8 0, .int .u8 0, .int .u8 0, .nilFunc, .pointer none, .int .i32 0, .int .i32 0], cmp := false } :=
  ⟨⟨Tryd.t125, _, by kernel_rfl, rfl, rfl, rfl, rfl, rfl, rfl⟩, ⟨_, Tryd.underlying125, by first | rfl | trivial⟩, fun h => by cases h⟩
theorem ty126 : TyAt Tryd.prog 126 { d := .struct [(0, 12), (1, 12), (2, 110), (3, 119), (4, 5), (5, 5), (6, 120), (7, 121), (8, 122), (9, 123), (10, 124)], size := 11, bytes := 48, zero := [.int .u64 0, .int .u64 0, .int .u32 0, .int .u8 0, .int .u8 0, .int .u8 0, .int .u8 0, .nilFunc, .pointer none, .int .i32 0, .int .i32 0], cmp := false } :=
  ⟨⟨Tryd.t126, _, by kernel_rfl, rfl, rfl, rfl, rfl, rfl, rfl⟩, ⟨_, Tryd.underlying126, by first | rfl | trivial⟩, fun h => by cases h⟩
def D : Tab := [none,
  some { d := .other, size := 1, bytes := 8, zero := [.nilFunc], cmp := false },
  some { d := .int .i64, size := 1, bytes := 8, zero := [.int .i64 0], cmp := false },
  some { d := .int .i64, size := 1, bytes := 8, zero := [.int .i64 0], cmp := false },
  some { d := .bool, size := 1, bytes := 1, zero := [.bool false], cmp := false },
  some { d := .int .u8, size := 1, bytes := 1, zero := [.int .u8 0], cmp := false },
  some { d := .int .u8, size := 1, bytes := 1, zero := [.int .u8 0], cmp := false },
  some { d := .struct [(0, 2), (1, 3), (2, 4), (3, 6)], size := 4, bytes := 24, zero := [.int .i64 0, .int .i64 0, .bool false, .int .u8 0], cmp := true },
  some { d := .struct [(0, 2), (1, 3), (2, 4), (3, 6)], size := 4, bytes := 24, zero := [.int .i64 0, .int .i64 0, .bool false, .int .u8 0], cmp := true },
  some { d := .str, size := 1, bytes := 16, zero := [.string ⟨#[]⟩], cmp := false },
  some { d := .str, size := 1, bytes := 16, zero := [.string ⟨#[]⟩], cmp := false },
  some { d := .str, size := 1, bytes := 16, zero := [.string ⟨#[]⟩], cmp := false },
  some { d := .int .u64, size := 1, bytes := 8, zero := [.int .u64 0], cmp := false },
  some { d := .struct [(0, 9), (1, 12)], size := 2, bytes := 24, zero := [.string ⟨#[]⟩, .int .u64 0], cmp := false },
  some { d := .struct [(0, 9), (1, 12)], size := 2, bytes := 24, zero := [.string ⟨#[]⟩, .int .u64 0], cmp := false },
  some { d := .other, size := 1, bytes := 8, zero := [.pointer none], cmp := false },
  some { d := .other, size := 1, bytes := 8, zero := [.pointer none], cmp := false },
  some { d := .other, size := 1, bytes := 8, zero := [.pointer none], cmp := false },
  some { d := .struct [(0, 17)], size := 1, bytes := 8, zero := [.pointer none], cmp := false },
  some { d := .struct [(0, 17)], size := 1, bytes := 8, zero := [.pointer none], cmp := false },
  none,
  some { d := .int .i32, size := 1, bytes := 4, zero := [.int .i32 0], cmp := false },
  some { d := .slice 45, size := 1, bytes := 24, zero := [.slice none 0 0], cmp := false },
  some { d := .other, size := 1, bytes := 8, zero := [.nilFunc], cmp := false },
  some { d := .other, size := 1, bytes := 8, zero := [.nilFunc], cmp := false },
  some { d := .slice 46, size := 1, bytes := 24, zero := [.slice none 0 0], cmp := false },
  some { d := .other, size := 1, bytes := 8, zero := [.nilFunc], cmp := false },
  some { d := .other, size := 1, bytes := 8, zero := [.nilFunc], cmp := false },
  some { d := .other, size := 1, bytes := 8, zero := [.nilFunc], cmp := false },
  some { d := .struct [(0, 3), (1, 3)], size := 2, bytes := 16, zero := [.int .i64 0, .int .i64 0], cmp := true },
  some { d := .struct [(0, 3), (1, 3)], size := 2, bytes := 16, zero := [.int .i64 0, .int .i64 0], cmp := true },
  none,
  some { d := .other, size := 1, bytes := 8, zero := [.nilFunc], cmp := false },
  some { d := .other, size := 1, bytes := 8, zero := [.nilFunc], cmp := false },
  some { d := .other, size := 1, bytes := 8, zero := [.nilFunc], cmp := false },
  some { d := .other, size := 1, bytes := 8, zero := [.nilFunc], cmp := false },
  some { d := .slice 58, size := 1, bytes := 24, zero := [.slice none 0 0], cmp := false },
  some { d := .other, size := 1, bytes := 8, zero := [.nilFunc], cmp := false },
  some { d := .other, size := 1, bytes := 8, zero := [.nilFunc], cmp := false },
  some { d := .slice 60, size := 1, bytes := 24, zero := [.slice none 0 0], cmp := false },
  some { d := .other, size := 1, bytes := 8, zero := [.nilFunc], cmp := false },
  some { d := .other, size := 1, bytes := 8, zero := [.nilFunc], cmp := false },
  some { d := .other, size := 1, bytes := 8, zero := [.nilFunc], cmp := false },
  some { d := .other, size := 1, bytes := 8, zero := [.nilFunc], cmp := false },
  some { d := .struct [(0, 3), (1, 9), (2, 3)], size := 3, bytes := 32, zero := [.int .i64 0, .string ⟨#[]⟩, .int .i64 0], cmp := true },
  some { d := .struct [(0, 3), (1, 9), (2, 3)], size := 3, bytes := 32, zero := [.int .i64 0, .string ⟨#[]⟩, .int .i64 0], cmp := true },
  some { d := .struct [(0, 3), (1, 9), (2, 3)], size := 3, bytes := 32, zero := [.int .i64 0, .string ⟨#[]⟩, .int .i64 0], cmp := true },
  some { d := .other, size := 1, bytes := 8, zero := [.nilFunc], cmp := false },
  some { d := .other, size := 1, bytes := 8, zero := [.nilFunc], cmp := false },
  some { d := .other, size := 1, bytes := 8, zero := [.nilFunc], cmp := false },
  none,
  some { d := .other, size := 1, bytes := 8, zero := [.nilFunc], cmp := false },
  some { d := .other, size := 1, bytes := 8, zero := [.nilFunc], cmp := false },
  some { d := .other, size := 1, bytes := 8, zero := [.nilFunc], cmp := false },
  some { d := .other, size := 1, bytes := 8, zero := [.nilFunc], cmp := false },
  some { d := .other, size := 1, bytes := 8, zero := [.nilFunc], cmp := false },
  some { d := .slice 3, size := 1, bytes := 24, zero := [.slice none 0 0], cmp := false },
  some { d := .struct [(0, 3), (1, 3), (2, 9), (3, 9), (4, 56)], size := 5, bytes := 72, zero := [.int .i64 0, .int .i64 0, .string ⟨#[]⟩, .string ⟨#[]⟩, .slice none 0 0], cmp := false },
  some { d := .struct [(0, 3), (1, 3), (2, 9), (3, 9), (4, 56)], size := 5, bytes := 72, zero := [.int .i64 0, .int .i64 0, .string ⟨#[]⟩, .string ⟨#[]⟩, .slice none 0 0], cmp := false },
  some { d := .other, size := 1, bytes := 8, zero := [.nilFunc], cmp := false },
  some { d := .struct [(0, 3), (1, 3), (2, 9), (3, 9), (4, 56)], size := 5, bytes := 72, zero := [.int .i64 0, .int .i64 0, .string ⟨#[]⟩, .string ⟨#[]⟩, .slice none 0 0], cmp := false },
  some { d := .other, size := 1, bytes := 8, zero := [.nilFunc], cmp := false },
  some { d := .other, size := 1, bytes := 8, zero := [.nilFunc], cmp := false },
  some { d := .other, size := 1, bytes := 8, zero := [.nilFunc], cmp := false },
  some { d := .other, size := 1, bytes := 8, zero := [.nilFunc], cmp := false },
  some { d := .other, size := 1, bytes := 8, zero := [.nilFunc], cmp := false },
  some { d := .other, size := 1, bytes := 8, zero := [.nilFunc], cmp := false },
  some { d := .other, size := 1, bytes := 8, zero := [.nilFunc], cmp := false },
  some { d := .other, size := 1, bytes := 8, zero := [.nilFunc], cmp := false },
  some { d := .other, size := 1, bytes := 8, zero := [.nilFunc], cmp := false },
  some { d := .slice 5, size := 1, bytes := 24, zero := [.slice none 0 0], cmp := false },
  some { d := .other, size := 1, bytes := 8, zero := [.nilFunc], cmp := false },
  some { d := .other, size := 1, bytes := 8, zero := [.nilFunc], cmp := false },
  some { d := .other, size := 1, bytes := 8, zero := [.nilFunc], cmp := false },
  some { d := .other, size := 1, bytes := 8, zero := [.nilFunc], cmp := false },
  some { d := .other, size := 1, bytes := 8, zero := [.nilFunc], cmp := false },
  some { d := .slice 78, size := 1, bytes := 24, zero := [.slice none 0 0], cmp := false },
  some { d := .struct [(0, 3), (1, 3), (2, 9), (3, 9), (4, 76)], size := 5, bytes := 72, zero := [.int .i64 0, .int .i64 0, .string ⟨#[]⟩, .string ⟨#[]⟩, .slice none 0 0], cmp := false },
  some { d := .struct [(0, 3), (1, 3), (2, 9), (3, 9), (4, 76)], size := 5, bytes := 72, zero := [.int .i64 0, .int .i64 0, .string ⟨#[]⟩, .string ⟨#[]⟩, .slice none 0 0], cmp := false },
  some { d := .other, size := 1, bytes := 8, zero := [.nilFunc], cmp := false },
  some { d := .other, size := 1, bytes := 8, zero := [.nilFunc], cmp := false },
  some { d := .int .u64, size := 1, bytes := 8, zero := [.int .u64 0], cmp := false },
  some { d := .other, size := 1, bytes := 8, zero := [.nilFunc], cmp := false },
  some { d := .other, size := 1, bytes := 8, zero := [.nilFunc], cmp := false },
  some { d := .other, size := 1, bytes := 8, zero := [.nilFunc], cmp := false },
  none,
  some { d := .other, size := 1, bytes := 8, zero := [.nilFunc], cmp := false },
  some { d := .other, size := 1, bytes := 8, zero := [.nilFunc], cmp := false },
  none,
  some { d := .other, size := 1, bytes := 8, zero := [.nilFunc], cmp := false },
  some { d := .other, size := 1, bytes := 8, zero := [.nilFunc], cmp := false },
  some { d := .struct [(0, 4), (1, 4), (2, 4), (3, 3), (4, 3)], size := 5, bytes := 24, zero := [.bool false, .bool false, .bool false, .int .i64 0, .int .i64 0], cmp := true },
  some { d := .struct [(0, 4), (1, 4), (2, 4), (3, 3), (4, 3)], size := 5, bytes := 24, zero := [.bool false, .bool false, .bool false, .int .i64 0, .int .i64 0], cmp := true },
  some { d := .other, size := 1, bytes := 8, zero := [.nilFunc], cmp := false },
  some { d := .other, size := 1, bytes := 8, zero := [.nilFunc], cmp := false },
  some { d := .other, size := 1, bytes := 8, zero := [.nilFunc], cmp := false },
  some { d := .other, size := 1, bytes := 8, zero := [.nilFunc], cmp := false },
  some { d := .other, size := 1, bytes := 8, zero := [.nilFunc], cmp := false },
  some { d := .slice 9, size := 1, bytes := 24, zero := [.slice none 0 0], cmp := false },
  some { d := .other, size := 1, bytes := 8, zero := [.nilFunc], cmp := false },
  some { d := .other, size := 1, bytes := 8, zero := [.nilFunc], cmp := false },
  some { d := .other, size := 1, bytes := 8, zero := [.nilFunc], cmp := false },
  some { d := .arr 21 9, size := 21, bytes := 336, zero := [.string ⟨#[]⟩, .string ⟨#[]⟩, .string ⟨#[]⟩, .string ⟨#[]⟩, .string ⟨#[]⟩, .string ⟨#[]⟩, .string ⟨#[]⟩, .string ⟨#[]⟩, .string ⟨#[]⟩, .string ⟨#[]⟩, .string ⟨#[]⟩, .string ⟨#[]⟩, .string ⟨#[]⟩, .string ⟨#[]⟩, .string ⟨#[]⟩, .string ⟨#[]⟩, .string ⟨#[]⟩, .string ⟨#[]⟩, .string ⟨#[]⟩, .string ⟨#[]⟩, .string ⟨#[]⟩], cmp := false },
  some { d := .arr 17 9, size := 17, bytes := 272, zero := [.string ⟨#[]⟩, .string ⟨#[]⟩, .string ⟨#[]⟩, .string ⟨#[]⟩, .string ⟨#[]⟩, .string ⟨#[]⟩, .string ⟨#[]⟩, .string ⟨#[]⟩, .string ⟨#[]⟩, .string ⟨#[]⟩, .string ⟨#[]⟩, .string ⟨#[]⟩, .string ⟨#[]⟩, .string ⟨#[]⟩, .string ⟨#[]⟩, .string ⟨#[]⟩, .string ⟨#[]⟩], cmp := false },
  some { d := .arr 39 9, size := 39, bytes := 624, zero := [.string ⟨#[]⟩, .string ⟨#[]⟩, .string ⟨#[]⟩, .string ⟨#[]⟩, .string ⟨#[]⟩, .string ⟨#[]⟩, .string ⟨#[]⟩, .string ⟨#[]⟩, .string ⟨#[]⟩, .string ⟨#[]⟩, .string ⟨#[]⟩, .string ⟨#[]⟩, .string ⟨#[]⟩, .string ⟨#[]⟩, .string ⟨#[]⟩, .string ⟨#[]⟩, .string ⟨#[]⟩, .string ⟨#[]⟩, .string ⟨#[]⟩, .string ⟨#[]⟩, .string ⟨#[]⟩, .string ⟨#[]⟩, .string ⟨#[]⟩, .string ⟨#[]⟩, .string ⟨#[]⟩, .string ⟨#[]⟩, .string ⟨#[]⟩, .string ⟨#[]⟩, .string ⟨#[]⟩, .string ⟨#[]⟩, .string ⟨#[]⟩, .string ⟨#[]⟩, .string ⟨#[]⟩, .string ⟨#[]⟩, .string ⟨#[]⟩, .string ⟨#[]⟩, .string ⟨#[]⟩, .string ⟨#[]⟩, .string ⟨#[]⟩], cmp := false },
  some { d := .other, size := 1, bytes := 8, zero := [.nilFunc], cmp := false },
  some { d := .other, size := 1, bytes := 8, zero := [.nilFunc], cmp := false },
  some { d := .other, size := 1, bytes := 8, zero := [.nilFunc], cmp := false },
  some { d := .arr 3 3, size := 3, bytes := 24, zero := [.int .i64 0, .int .i64 0, .int .i64 0], cmp := false },
  some { d := .other, size := 1, bytes := 8, zero := [.nilFunc], cmp := false },
  some { d := .int .u32, size := 1, bytes := 4, zero := [.int .u32 0], cmp := false },
  none,
  some { d := .other, size := 1, bytes := 8, zero := [.nilFunc], cmp := false },
  some { d := .other, size := 1, bytes := 8, zero := [.nilFunc], cmp := false },
  some { d := .struct [(0, 17), (1, 17), (2, 17), (3, 9)], size := 4, bytes := 40, zero := [.pointer none, .pointer none, .pointer none, .string ⟨#[]⟩], cmp := false },
  some { d := .struct [(0, 17), (1, 17), (2, 17), (3, 9)], size := 4, bytes := 40, zero := [.pointer none, .pointer none, .pointer none, .string ⟨#[]⟩], cmp := false },
  some { d := .arr 0 16, size := 0, bytes := 0, zero := [], cmp := false },
  some { d := .struct [(0, 116)], size := 0, bytes := 0, zero := [], cmp := false },
  some { d := .struct [(0, 116)], size := 0, bytes := 0, zero := [], cmp := false },
  some { d := .int .u8, size := 1, bytes := 1, zero := [.int .u8 0], cmp := false },
  some { d := .int .u8, size := 1, bytes := 1, zero := [.int .u8 0], cmp := false },
  some { d := .other, size := 1, bytes := 8, zero := [.nilFunc], cmp := false },
  some { d := .other, size := 1, bytes := 8, zero := [.pointer none], cmp := false },
  some { d := .int .i32, size := 1, bytes := 4, zero := [.int .i32 0], cmp := false },
  some { d := .int .i32, size := 1, bytes := 4, zero := [.int .i32 0], cmp := false },
  some { d := .struct [(0, 12), (1, 12), (2, 110), (3, 119), (4, 5), (5, 5), (6, 120), (7, 121), (8, 122), (9, 123), (10, 124)], size := 11, bytes := 48, zero := [.int .u64 0, .int .u64 0, .int .u32 0, .int .u8 0, .int .u8 0, .int .u8 0, .int .u8 0, .nilFunc, .pointer none, .int .i32 0, .int .i32 0], cmp := false },
  some { d := .struct [(0, 12), (1, 12), (2, 110), (3, 119), (4, 5), (5, 5), (6, 120), (7, 121), (8, 122), (9, 123), (10, 124)], size := 11, bytes := 48, zero := [.int .u64 0, .int .u64 0, .int .u32 0, .int .u8 0, .int .u8 0, .int .u8 0, .int .u8 0, .nilFunc, .pointer none, .int .i32 0, .int .i32 0], cmp := false },
  none]
theorem D_ok : TabOk Tryd.prog D := TyAll.ok ⟨ty1, ty2, ty3, ty4, ty5, ty6, ty7, ty8, ty9, ty10, ty11, ty12, ty13, ty14, ty15, ty16, ty17, ty18, ty19, ty21, ty22, ty23, ty24, ty25, ty26, ty27, ty28, ty29, ty30, ty32, ty33, ty34, ty35, ty36, ty37, ty38, ty39, ty40, ty41, ty42, ty43, ty44, ty45, ty46, ty47, ty48, ty49, ty51, ty52, ty53, ty54, ty55, ty56, ty57, ty58, ty59, ty60, ty61, ty62, ty63, ty64, ty65, ty66, ty67, ty68, ty69, ty70, ty71, ty72, ty73, ty74, ty75, ty76, ty77, ty78, ty79, ty80, ty81, ty82, ty83, ty84, ty86, ty87, ty89, ty90, ty91, ty92, ty93, ty94, ty95, ty96, ty97, ty98, ty99, ty100, ty101, ty102, ty103, ty104, ty105, ty106, ty107, ty108, ty109, ty110, ty112, ty113, ty114, ty115, ty116, ty117, ty118, ty119, ty120, ty121, ty122, ty123, ty124, ty125, ty126, trivial⟩
end Go.Proofs.Tryd

/-
  The types of this seat's program as the table of Core6, each held against the program.
-/
import Derived.Test.YtjmlnhngemeeaaaCore10
import Derived.Test.YtjmlnhngemeeaaaProg
import Derived.KernelRfl
namespace Go.Proofs.Try
open Go.Av
set_option maxRecDepth 100000

theorem ty1 : TyAt Try.prog 1 { d := .other, size := 1, bytes := 8, zero := [.nilFunc], cmp := false } :=
  ⟨⟨Try.t1, _, by kernel_rfl, rfl, rfl, rfl, rfl, rfl, rfl⟩, ⟨_, Try.underlying1, by first | rfl | trivial⟩, fun h => by cases h⟩
theorem ty2 : TyAt Try.prog 2 { d := .int .i64, size := 1, bytes := 8, zero := [.int .i64 0], cmp := false } :=
  ⟨⟨Try.t2, _, by kernel_rfl, rfl, rfl, rfl, rfl, rfl, rfl⟩, ⟨_, Try.underlying2, by first | rfl | trivial⟩, fun h => by cases h⟩
theorem ty3 : TyAt Try.prog 3 { d := .int .i64, size := 1, bytes := 8, zero := [.int .i64 0], cmp := false } :=
  ⟨⟨Try.t3, _, by kernel_rfl, rfl, rfl, rfl, rfl, rfl, rfl⟩, ⟨_, Try.underlying3, by first | rfl | trivial⟩, fun h => by cases h⟩
theorem ty4 : TyAt Try.prog 4 { d := .bool, size := 1, bytes := 1, zero := [.bool false], cmp := false } :=
  ⟨⟨Try.t4, _, by kernel_rfl, rfl, rfl, rfl, rfl, rfl, rfl⟩, ⟨_, Try.underlying4, by first | rfl | trivial⟩, fun h => by cases h⟩
theorem ty5 : TyAt Try.prog 5 { d := .int .u8, size := 1, bytes := 1, zero := [.int .u8 0], cmp := false } :=
  ⟨⟨Try.t5, _, by kernel_rfl, rfl, rfl, rfl, rfl, rfl, rfl⟩, ⟨_, Try.underlying5, by first | rfl | trivial⟩, fun h => by cases h⟩
theorem ty6 : TyAt Try.prog 6 { d := .int .u8, size := 1, bytes := 1, zero := [.int .u8 0], cmp := false } :=
  ⟨⟨Try.t6, _, by kernel_rfl, rfl, rfl, rfl, rfl, rfl, rfl⟩, ⟨_, Try.underlying6, by first | rfl | trivial⟩, fun h => by cases h⟩
theorem ty7 : TyAt Try.prog 7 { d := .struct [(0, 2), (1, 3), (2, 4), (3, 6)], size := 4, bytes := 24, zero := [.int .i64 0, .int .i64 0, .bool false, .int .u8 0], cmp := true } :=
  ⟨⟨Try.t7, _, by kernel_rfl, rfl, rfl, rfl, rfl, rfl, rfl⟩, ⟨_, Try.underlying7, by first | rfl | trivial⟩, fun _ => ⟨Try.stoodInHeld7, Try.eqGuardType7, of_decide_eq_true (by kernel_rfl)⟩⟩
theorem ty8 : TyAt Try.prog 8 { d := .struct [(0, 2), (1, 3), (2, 4), (3, 6)], size := 4, bytes := 24, zero := [.int .i64 0, .int .i64 0, .bool false, .int .u8 0], cmp := true } :=
  ⟨⟨Try.t8, _, by kernel_rfl, rfl, rfl, rfl, rfl, rfl, rfl⟩, ⟨_, Try.underlying8, by first | rfl | trivial⟩, fun _ => ⟨Try.stoodInHeld8, Try.eqGuardType8, of_decide_eq_true (by kernel_rfl)⟩⟩
theorem ty9 : TyAt Try.prog 9 { d := .str, size := 1, bytes := 16, zero := [.string ⟨#[]⟩], cmp := false } :=
  ⟨⟨Try.t9, _, by kernel_rfl, rfl, rfl, rfl, rfl, rfl, rfl⟩, ⟨_, Try.underlying9, by first | rfl | trivial⟩, fun h => by cases h⟩
theorem ty10 : TyAt Try.prog 10 { d := .str, size := 1, bytes := 16, zero := [.string ⟨#[]⟩], cmp := false } :=
  ⟨⟨Try.t10, _, by kernel_rfl, rfl, rfl, rfl, rfl, rfl, rfl⟩, ⟨_, Try.underlying10, by first | rfl | trivial⟩, fun h => by cases h⟩
theorem ty11 : TyAt Try.prog 11 { d := .str, size := 1, bytes := 16, zero := [.string ⟨#[]⟩], cmp := false } :=
  ⟨⟨Try.t11, _, by kernel_rfl, rfl, rfl, rfl, rfl, rfl, rfl⟩, ⟨_, Try.underlying11, by first | rfl | trivial⟩, fun h => by cases h⟩
theorem ty12 : TyAt Try.prog 12 { d := .int .u64, size := 1, bytes := 8, zero := [.int .u64 0], cmp := false } :=
  ⟨⟨Try.t12, _, by kernel_rfl, rfl, rfl, rfl, rfl, rfl, rfl⟩, ⟨_, Try.underlying12, by first | rfl | trivial⟩, fun h => by cases h⟩
theorem ty13 : TyAt Try.prog 13 { d := .struct [(0, 9), (1, 12)], size := 2, bytes := 24, zero := [.string ⟨#[]⟩, .int .u64 0], cmp := false } :=
  ⟨⟨Try.t13, _, by kernel_rfl, rfl, rfl, rfl, rfl, rfl, rfl⟩, ⟨_, Try.underlying13, by first | rfl | trivial⟩, fun h => by cases h⟩
theorem ty14 : TyAt Try.prog 14 { d := .struct [(0, 9), (1, 12)], size := 2, bytes := 24, zero := [.string ⟨#[]⟩, .int .u64 0], cmp := false } :=
  ⟨⟨Try.t14, _, by kernel_rfl, rfl, rfl, rfl, rfl, rfl, rfl⟩, ⟨_, Try.underlying14, by first | rfl | trivial⟩, fun h => by cases h⟩
theorem ty15 : TyAt Try.prog 15 { d := .other, size := 1, bytes := 8, zero := [.pointer none], cmp := false } :=
  ⟨⟨Try.t15, _, by kernel_rfl, rfl, rfl, rfl, rfl, rfl, rfl⟩, ⟨_, Try.underlying15, by first | rfl | trivial⟩, fun h => by cases h⟩
theorem ty16 : TyAt Try.prog 16 { d := .other, size := 1, bytes := 8, zero := [.pointer none], cmp := false } :=
  ⟨⟨Try.t16, _, by kernel_rfl, rfl, rfl, rfl, rfl, rfl, rfl⟩, ⟨_, Try.underlying16, by first | rfl | trivial⟩, fun h => by cases h⟩
theorem ty17 : TyAt Try.prog 17 { d := .other, size := 1, bytes := 8, zero := [.pointer none], cmp := false } :=
  ⟨⟨Try.t17, _, by kernel_rfl, rfl, rfl, rfl, rfl, rfl, rfl⟩, ⟨_, Try.underlying17, by first | rfl | trivial⟩, fun h => by cases h⟩
theorem ty18 : TyAt Try.prog 18 { d := .struct [(0, 17)], size := 1, bytes := 8, zero := [.pointer none], cmp := false } :=
  ⟨⟨Try.t18, _, by kernel_rfl, rfl, rfl, rfl, rfl, rfl, rfl⟩, ⟨_, Try.underlying18, by first | rfl | trivial⟩, fun h => by cases h⟩
theorem ty19 : TyAt Try.prog 19 { d := .struct [(0, 17)], size := 1, bytes := 8, zero := [.pointer none], cmp := false } :=
  ⟨⟨Try.t19, _, by kernel_rfl, rfl, rfl, rfl, rfl, rfl, rfl⟩, ⟨_, Try.underlying19, by first | rfl | trivial⟩, fun h => by cases h⟩
theorem ty21 : TyAt Try.prog 21 { d := .int .i32, size := 1, bytes := 4, zero := [.int .i32 0], cmp := false } :=
  ⟨⟨Try.t21, _, by kernel_rfl, rfl, rfl, rfl, rfl, rfl, rfl⟩, ⟨_, Try.underlying21, by first | rfl | trivial⟩, fun h => by cases h⟩
theorem ty22 : TyAt Try.prog 22 { d := .slice 3, size := 1, bytes := 24, zero := [.slice none 0 0], cmp := false } :=
  ⟨⟨Try.t22, _, by kernel_rfl, rfl, rfl, rfl, rfl, rfl, rfl⟩, ⟨_, Try.underlying22, by first | rfl | trivial⟩, fun h => by cases h⟩
theorem ty23 : TyAt Try.prog 23 { d := .struct [(0, 3), (1, 3), (2, 9), (3, 9), (4, 22)], size := 5, bytes := 72, zero := [.int .i64 0, .int .i64 0, .string ⟨#[]⟩, .string ⟨#[]⟩, .slice none 0 0], cmp := false } :=
  ⟨⟨Try.t23, _, by kernel_rfl, rfl, rfl, rfl, rfl, rfl, rfl⟩, ⟨_, Try.underlying23, by first | rfl | trivial⟩, fun h => by cases h⟩
theorem ty24 : TyAt Try.prog 24 { d := .struct [(0, 3), (1, 3), (2, 9), (3, 9), (4, 22)], size := 5, bytes := 72, zero := [.int .i64 0, .int .i64 0, .string ⟨#[]⟩, .string ⟨#[]⟩, .slice none 0 0], cmp := false } :=
  ⟨⟨Try.t24, _, by kernel_rfl, rfl, rfl, rfl, rfl, rfl, rfl⟩, ⟨_, Try.underlying24, by first | rfl | trivial⟩, fun h => by cases h⟩
theorem ty25 : TyAt Try.prog 25 { d := .other, size := 1, bytes := 8, zero := [.nilFunc], cmp := false } :=
  ⟨⟨Try.t25, _, by kernel_rfl, rfl, rfl, rfl, rfl, rfl, rfl⟩, ⟨_, Try.underlying25, by first | rfl | trivial⟩, fun h => by cases h⟩
theorem ty26 : TyAt Try.prog 26 { d := .other, size := 1, bytes := 8, zero := [.nilFunc], cmp := false } :=
  ⟨⟨Try.t26, _, by kernel_rfl, rfl, rfl, rfl, rfl, rfl, rfl⟩, ⟨_, Try.underlying26, by first | rfl | trivial⟩, fun h => by cases h⟩
theorem ty27 : TyAt Try.prog 27 { d := .struct [(0, 3), (1, 3), (2, 9), (3, 9), (4, 22)], size := 5, bytes := 72, zero := [.int .i64 0, .int .i64 0, .string ⟨#[]⟩, .string ⟨#[]⟩, .slice none 0 0], cmp := false } :=
  ⟨⟨Try.t27, _, by kernel_rfl, rfl, rfl, rfl, rfl, rfl, rfl⟩, ⟨_, Try.underlying27, by first | rfl | trivial⟩, fun h => by cases h⟩
theorem ty28 : TyAt Try.prog 28 { d := .other, size := 1, bytes := 8, zero := [.nilFunc], cmp := false } :=
  ⟨⟨Try.t28, _, by kernel_rfl, rfl, rfl, rfl, rfl, rfl, rfl⟩, ⟨_, Try.underlying28, by first | rfl | trivial⟩, fun h => by cases h⟩
theorem ty29 : TyAt Try.prog 29 { d := .other, size := 1, bytes := 8, zero := [.nilFunc], cmp := false } :=
  ⟨⟨Try.t29, _, by kernel_rfl, rfl, rfl, rfl, rfl, rfl, rfl⟩, ⟨_, Try.underlying29, by first | rfl | trivial⟩, fun h => by cases h⟩
theorem ty30 : TyAt Try.prog 30 { d := .other, size := 1, bytes := 8, zero := [.nilFunc], cmp := false } :=
  ⟨⟨Try.t30, _, by kernel_rfl, rfl, rfl, rfl, rfl, rfl, rfl⟩, ⟨_, Try.underlying30, by first | rfl | trivial⟩, fun h => by cases h⟩
theorem ty31 : TyAt Try.prog 31 { d := .slice 24, size := 1, bytes := 24, zero := [.slice none 0 0], cmp := false } :=
  ⟨⟨Try.t31, _, by kernel_rfl, rfl, rfl, rfl, rfl, rfl, rfl⟩, ⟨_, Try.underlying31, by first | rfl | trivial⟩, fun h => by cases h⟩
theorem ty32 : TyAt Try.prog 32 { d := .other, size := 1, bytes := 8, zero := [.nilFunc], cmp := false } :=
  ⟨⟨Try.t32, _, by kernel_rfl, rfl, rfl, rfl, rfl, rfl, rfl⟩, ⟨_, Try.underlying32, by first | rfl | trivial⟩, fun h => by cases h⟩
theorem ty33 : TyAt Try.prog 33 { d := .other, size := 1, bytes := 8, zero := [.nilFunc], cmp := false } :=
  ⟨⟨Try.t33, _, by kernel_rfl, rfl, rfl, rfl, rfl, rfl, rfl⟩, ⟨_, Try.underlying33, by first | rfl | trivial⟩, fun h => by cases h⟩
theorem ty34 : TyAt Try.prog 34 { d := .slice 27, size := 1, bytes := 24, zero := [.slice none 0 0], cmp := false } :=
  ⟨⟨Try.t34, _, by kernel_rfl, rfl, rfl, rfl, rfl, rfl, rfl⟩, ⟨_, Try.underlying34, by first | rfl | trivial⟩, fun h => by cases h⟩
theorem ty35 : TyAt Try.prog 35 { d := .other, size := 1, bytes := 8, zero := [.nilFunc], cmp := false } :=
  ⟨⟨Try.t35, _, by kernel_rfl, rfl, rfl, rfl, rfl, rfl, rfl⟩, ⟨_, Try.underlying35, by first | rfl | trivial⟩, fun h => by cases h⟩
theorem ty36 : TyAt Try.prog 36 { d := .other, size := 1, bytes := 8, zero := [.nilFunc], cmp := false } :=
  ⟨⟨Try.t36, _, by kernel_rfl, rfl, rfl, rfl, rfl, rfl, rfl⟩, ⟨_, Try.underlying36, by first | rfl | trivial⟩, fun h => by cases h⟩
theorem ty37 : TyAt Try.prog 37 { d := .other, size := 1, bytes := 8, zero := [.nilFunc], cmp := false } :=
  ⟨⟨Try.t37, _, by kernel_rfl, rfl, rfl, rfl, rfl, rfl, rfl⟩, ⟨_, Try.underlying37, by first | rfl | trivial⟩, fun h => by cases h⟩
theorem ty39 : TyAt Try.prog 39 { d := .other, size := 1, bytes := 8, zero := [.nilFunc], cmp := false } :=
  ⟨⟨Try.t39, _, by kernel_rfl, rfl, rfl, rfl, rfl, rfl, rfl⟩, ⟨_, Try.underlying39, by first | rfl | trivial⟩, fun h => by cases h⟩
theorem ty40 : TyAt Try.prog 40 { d := .other, size := 1, bytes := 8, zero := [.nilFunc], cmp := false } :=
  ⟨⟨Try.t40, _, by kernel_rfl, rfl, rfl, rfl, rfl, rfl, rfl⟩, ⟨_, Try.underlying40, by first | rfl | trivial⟩, fun h => by cases h⟩
theorem ty41 : TyAt Try.prog 41 { d := .slice 69, size := 1, bytes := 24, zero := [.slice none 0 0], cmp := false } :=
  ⟨⟨Try.t41, _, by kernel_rfl, rfl, rfl, rfl, rfl, rfl, rfl⟩, ⟨_, Try.underlying41, by first | rfl | trivial⟩, fun h => by cases h⟩
theorem ty42 : TyAt Try.prog 42 { d := .other, size := 1, bytes := 8, zero := [.nilFunc], cmp := false } :=
  ⟨⟨Try.t42, _, by kernel_rfl, rfl, rfl, rfl, rfl, rfl, rfl⟩, ⟨_, Try.underlying42, by first | rfl | trivial⟩, fun h => by cases h⟩
theorem ty43 : TyAt Try.prog 43 { d := .slice 70, size := 1, bytes := 24, zero := [.slice none 0 0], cmp := false } :=
  ⟨⟨Try.t43, _, by kernel_rfl, rfl, rfl, rfl, rfl, rfl, rfl⟩, ⟨_, Try.underlying43, by first | rfl | trivial⟩, fun h => by cases h⟩
theorem ty44 : TyAt Try.prog 44 { d := .other, size := 1, bytes := 8, zero := [.nilFunc], cmp := false } :=
  ⟨⟨Try.t44, _, by kernel_rfl, rfl, rfl, rfl, rfl, rfl, rfl⟩, ⟨_, Try.underlying44, by first | rfl | trivial⟩, fun h => by cases h⟩
theorem ty45 : TyAt Try.prog 45 { d := .other, size := 1, bytes := 8, zero := [.nilFunc], cmp := false } :=
  ⟨⟨Try.t45, _, by kernel_rfl, rfl, rfl, rfl, rfl, rfl, rfl⟩, ⟨_, Try.underlying45, by first | rfl | trivial⟩, fun h => by cases h⟩
theorem ty46 : TyAt Try.prog 46 { d := .other, size := 1, bytes := 8, zero := [.nilFunc], cmp := false } :=
  ⟨⟨Try.t46, _, by kernel_rfl, rfl, rfl, rfl, rfl, rfl, rfl⟩, ⟨_, Try.underlying46, by first | rfl | trivial⟩, fun h => by cases h⟩
theorem ty47 : TyAt Try.prog 47 { d := .other, size := 1, bytes := 8, zero := [.nilFunc], cmp := false } :=
  ⟨⟨Try.t47, _, by kernel_rfl, rfl, rfl, rfl, rfl, rfl, rfl⟩, ⟨_, Try.underlying47, by first | rfl | trivial⟩, fun h => by cases h⟩
theorem ty48 : TyAt Try.prog 48 { d := .other, size := 1, bytes := 8, zero := [.nilFunc], cmp := false } :=
  ⟨⟨Try.t48, _, by kernel_rfl, rfl, rfl, rfl, rfl, rfl, rfl⟩, ⟨_, Try.underlying48, by first | rfl | trivial⟩, fun h => by cases h⟩
theorem ty49 : TyAt Try.prog 49 { d := .slice 81, size := 1, bytes := 24, zero := [.slice none 0 0], cmp := false } :=
  ⟨⟨Try.t49, _, by kernel_rfl, rfl, rfl, rfl, rfl, rfl, rfl⟩, ⟨_, Try.underlying49, by first | rfl | trivial⟩, fun h => by cases h⟩
theorem ty50 : TyAt Try.prog 50 { d := .other, size := 1, bytes := 8, zero := [.nilFunc], cmp := false } :=
  ⟨⟨Try.t50, _, by kernel_rfl, rfl, rfl, rfl, rfl, rfl, rfl⟩, ⟨_, Try.underlying50, by first | rfl | trivial⟩, fun h => by cases h⟩
theorem ty51 : TyAt Try.prog 51 { d := .slice 83, size := 1, bytes := 24, zero := [.slice none 0 0], cmp := false } :=
  ⟨⟨Try.t51, _, by kernel_rfl, rfl, rfl, rfl, rfl, rfl, rfl⟩, ⟨_, Try.underlying51, by first | rfl | trivial⟩, fun h => by cases h⟩
theorem ty52 : TyAt Try.prog 52 { d := .other, size := 1, bytes := 8, zero := [.nilFunc], cmp := false } :=
  ⟨⟨Try.t52, _, by kernel_rfl, rfl, rfl, rfl, rfl, rfl, rfl⟩, ⟨_, Try.underlying52, by first | rfl | trivial⟩, fun h => by cases h⟩
theorem ty53 : TyAt Try.prog 53 { d := .other, size := 1, bytes := 8, zero := [.nilFunc], cmp := false } :=
  ⟨⟨Try.t53, _, by kernel_rfl, rfl, rfl, rfl, rfl, rfl, rfl⟩, ⟨_, Try.underlying53, by first | rfl | trivial⟩, fun h => by cases h⟩
theorem ty54 : TyAt Try.prog 54 { d := .other, size := 1, bytes := 8, zero := [.nilFunc], cmp := false } :=
  ⟨⟨Try.t54, _, by kernel_rfl, rfl, rfl, rfl, rfl, rfl, rfl⟩, ⟨_, Try.underlying54, by first | rfl | trivial⟩, fun h => by cases h⟩
theorem ty55 : TyAt Try.prog 55 { d := .other, size := 1, bytes := 8, zero := [.nilFunc], cmp := false } :=
  ⟨⟨Try.t55, _, by kernel_rfl, rfl, rfl, rfl, rfl, rfl, rfl⟩, ⟨_, Try.underlying55, by first | rfl | trivial⟩, fun h => by cases h⟩
theorem ty56 : TyAt Try.prog 56 { d := .other, size := 1, bytes := 8, zero := [.nilFunc], cmp := false } :=
  ⟨⟨Try.t56, _, by kernel_rfl, rfl, rfl, rfl, rfl, rfl, rfl⟩, ⟨_, Try.underlying56, by first | rfl | trivial⟩, fun h => by cases h⟩
theorem ty57 : TyAt Try.prog 57 { d := .other, size := 1, bytes := 8, zero := [.nilFunc], cmp := false } :=
  ⟨⟨Try.t57, _, by kernel_rfl, rfl, rfl, rfl, rfl, rfl, rfl⟩, ⟨_, Try.underlying57, by first | rfl | trivial⟩, fun h => by cases h⟩
theorem ty58 : TyAt Try.prog 58 { d := .other, size := 1, bytes := 8, zero := [.nilFunc], cmp := false } :=
  ⟨⟨Try.t58, _, by kernel_rfl, rfl, rfl, rfl, rfl, rfl, rfl⟩, ⟨_, Try.underlying58, by first | rfl | trivial⟩, fun h => by cases h⟩
theorem ty59 : TyAt Try.prog 59 { d := .other, size := 1, bytes := 8, zero := [.nilFunc], cmp := false } :=
  ⟨⟨Try.t59, _, by kernel_rfl, rfl, rfl, rfl, rfl, rfl, rfl⟩, ⟨_, Try.underlying59, by first | rfl | trivial⟩, fun h => by cases h⟩
theorem ty60 : TyAt Try.prog 60 { d := .other, size := 1, bytes := 8, zero := [.nilFunc], cmp := false } :=
  ⟨⟨Try.t60, _, by kernel_rfl, rfl, rfl, rfl, rfl, rfl, rfl⟩, ⟨_, Try.underlying60, by first | rfl | trivial⟩, fun h => by cases h⟩
theorem ty61 : TyAt Try.prog 61 { d := .other, size := 1, bytes := 8, zero := [.nilFunc], cmp := false } :=
  ⟨⟨Try.t61, _, by kernel_rfl, rfl, rfl, rfl, rfl, rfl, rfl⟩, ⟨_, Try.underlying61, by first | rfl | trivial⟩, fun h => by cases h⟩
theorem ty62 : TyAt Try.prog 62 { d := .other, size := 1, bytes := 8, zero := [.nilFunc], cmp := false } :=
  ⟨⟨Try.t62, _, by kernel_rfl, rfl, rfl, rfl, rfl, rfl, rfl⟩, ⟨_, Try.underlying62, by first | rfl | trivial⟩, fun h => by cases h⟩
theorem ty63 : TyAt Try.prog 63 { d := .other, size := 1, bytes := 8, zero := [.nilFunc], cmp := false } :=
  ⟨⟨Try.t63, _, by kernel_rfl, rfl, rfl, rfl, rfl, rfl, rfl⟩, ⟨_, Try.underlying63, by first | rfl | trivial⟩, fun h => by cases h⟩
theorem ty64 : TyAt Try.prog 64 { d := .other, size := 1, bytes := 8, zero := [.nilFunc], cmp := false } :=
  ⟨⟨Try.t64, _, by kernel_rfl, rfl, rfl, rfl, rfl, rfl, rfl⟩, ⟨_, Try.underlying64, by first | rfl | trivial⟩, fun h => by cases h⟩
theorem ty65 : TyAt Try.prog 65 { d := .other, size := 1, bytes := 8, zero := [.nilFunc], cmp := false } :=
  ⟨⟨Try.t65, _, by kernel_rfl, rfl, rfl, rfl, rfl, rfl, rfl⟩, ⟨_, Try.underlying65, by first | rfl | trivial⟩, fun h => by cases h⟩
theorem ty66 : TyAt Try.prog 66 { d := .other, size := 1, bytes := 8, zero := [.nilFunc], cmp := false } :=
  ⟨⟨Try.t66, _, by kernel_rfl, rfl, rfl, rfl, rfl, rfl, rfl⟩, ⟨_, Try.underlying66, by first | rfl | trivial⟩, fun h => by cases h⟩
theorem ty67 : TyAt Try.prog 67 { d := .other, size := 1, bytes := 8, zero := [.nilFunc], cmp := false } :=
  ⟨⟨Try.t67, _, by kernel_rfl, rfl, rfl, rfl, rfl, rfl, rfl⟩, ⟨_, Try.underlying67, by first | rfl | trivial⟩, fun h => by cases h⟩
theorem ty68 : TyAt Try.prog 68 { d := .struct [(0, 9), (1, 3)], size := 2, bytes := 24, zero := [.string ⟨#[]⟩, .int .i64 0], cmp := true } :=
  ⟨⟨Try.t68, _, by kernel_rfl, rfl, rfl, rfl, rfl, rfl, rfl⟩, ⟨_, Try.underlying68, by first | rfl | trivial⟩, fun _ => ⟨Try.stoodInHeld68, Try.eqGuardType68, of_decide_eq_true (by kernel_rfl)⟩⟩
theorem ty69 : TyAt Try.prog 69 { d := .struct [(0, 9), (1, 3)], size := 2, bytes := 24, zero := [.string ⟨#[]⟩, .int .i64 0], cmp := true } :=
  ⟨⟨Try.t69, _, by kernel_rfl, rfl, rfl, rfl, rfl, rfl, rfl⟩, ⟨_, Try.underlying69, by first | rfl | trivial⟩, fun _ => ⟨Try.stoodInHeld69, Try.eqGuardType69, of_decide_eq_true (by kernel_rfl)⟩⟩
theorem ty70 : TyAt Try.prog 70 { d := .struct [(0, 9), (1, 3)], size := 2, bytes := 24, zero := [.string ⟨#[]⟩, .int .i64 0], cmp := true } :=
  ⟨⟨Try.t70, _, by kernel_rfl, rfl, rfl, rfl, rfl, rfl, rfl⟩, ⟨_, Try.underlying70, by first | rfl | trivial⟩, fun _ => ⟨Try.stoodInHeld70, Try.eqGuardType70, of_decide_eq_true (by kernel_rfl)⟩⟩
theorem ty71 : TyAt Try.prog 71 { d := .other, size := 1, bytes := 8, zero := [.nilFunc], cmp := false } :=
  ⟨⟨Try.t71, _, by kernel_rfl, rfl, rfl, rfl, rfl, rfl, rfl⟩, ⟨_, Try.underlying71, by first | rfl | trivial⟩, fun h => by cases h⟩
theorem ty72 : TyAt Try.prog 72 { d := .other, size := 1, bytes := 8, zero := [.nilFunc], cmp := false } :=
  ⟨⟨Try.t72, _, by kernel_rfl, rfl, rfl, rfl, rfl, rfl, rfl⟩, ⟨_, Try.underlying72, by first | rfl | trivial⟩, fun h => by cases h⟩
theorem ty73 : TyAt Try.prog 73 { d := .other, size := 1, bytes := 8, zero := [.nilFunc], cmp := false } :=
  ⟨⟨Try.t73, _, by kernel_rfl, rfl, rfl, rfl, rfl, rfl, rfl⟩, ⟨_, Try.underlying73, by first | rfl | trivial⟩, fun h => by cases h⟩
theorem ty74 : TyAt Try.prog 74 { d := .other, size := 1, bytes := 8, zero := [.nilFunc], cmp := false } :=
  ⟨⟨Try.t74, _, by kernel_rfl, rfl, rfl, rfl, rfl, rfl, rfl⟩, ⟨_, Try.underlying74, by first | rfl | trivial⟩, fun h => by cases h⟩
theorem ty75 : TyAt Try.prog 75 { d := .other, size := 1, bytes := 8, zero := [.nilFunc], cmp := false } :=
  ⟨⟨Try.t75, _, by kernel_rfl, rfl, rfl, rfl, rfl, rfl, rfl⟩, ⟨_, Try.underlying75, by first | rfl | trivial⟩, fun h => by cases h⟩
theorem ty76 : TyAt Try.prog 76 { d := .other, size := 1, bytes := 8, zero := [.nilFunc], cmp := false } :=
  ⟨⟨Try.t76, _, by kernel_rfl, rfl, rfl, rfl, rfl, rfl, rfl⟩, ⟨_, Try.underlying76, by first | rfl | trivial⟩, fun h => by cases h⟩
theorem ty77 : TyAt Try.prog 77 { d := .other, size := 1, bytes := 8, zero := [.nilFunc], cmp := false } :=
  ⟨⟨Try.t77, _, by kernel_rfl, rfl, rfl, rfl, rfl, rfl, rfl⟩, ⟨_, Try.underlying77, by first | rfl | trivial⟩, fun h => by cases h⟩
theorem ty78 : TyAt Try.prog 78 { d := .other, size := 1, bytes := 8, zero := [.nilFunc], cmp := false } :=
  ⟨⟨Try.t78, _, by kernel_rfl, rfl, rfl, rfl, rfl, rfl, rfl⟩, ⟨_, Try.underlying78, by first | rfl | trivial⟩, fun h => by cases h⟩
theorem ty79 : TyAt Try.prog 79 { d := .other, size := 1, bytes := 8, zero := [.nilFunc], cmp := false } :=
  ⟨⟨Try.t79, _, by kernel_rfl, rfl, rfl, rfl, rfl, rfl, rfl⟩, ⟨_, Try.underlying79, by first | rfl | trivial⟩, fun h => by cases h⟩
theorem ty80 : TyAt Try.prog 80 { d := .struct [(0, 3), (1, 3), (2, 9), (3, 22)], size := 4, bytes := 56, zero := [.int .i64 0, .int .i64 0, .string ⟨#[]⟩, .slice none 0 0], cmp := false } :=
  ⟨⟨Try.t80, _, by kernel_rfl, rfl, rfl, rfl, rfl, rfl, rfl⟩, ⟨_, Try.underlying80, by first | rfl | trivial⟩, fun h => by cases h⟩
theorem ty81 : TyAt Try.prog 81 { d := .struct [(0, 3), (1, 3), (2, 9), (3, 22)], size := 4, bytes := 56, zero := [.int .i64 0, .int .i64 0, .string ⟨#[]⟩, .slice none 0 0], cmp := false } :=
  ⟨⟨Try.t81, _, by kernel_rfl, rfl, rfl, rfl, rfl, rfl, rfl⟩, ⟨_, Try.underlying81, by first | rfl | trivial⟩, fun h => by cases h⟩
theorem ty82 : TyAt Try.prog 82 { d := .other, size := 1, bytes := 8, zero := [.nilFunc], cmp := false } :=
  ⟨⟨Try.t82, _, by kernel_rfl, rfl, rfl, rfl, rfl, rfl, rfl⟩, ⟨_, Try.underlying82, by first | rfl | trivial⟩, fun h => by cases h⟩
theorem ty83 : TyAt Try.prog 83 { d := .struct [(0, 3), (1, 3), (2, 9), (3, 22)], size := 4, bytes := 56, zero := [.int .i64 0, .int .i64 0, .string ⟨#[]⟩, .slice none 0 0], cmp := false } :=
  ⟨⟨Try.t83, _, by kernel_rfl, rfl, rfl, rfl, rfl, rfl, rfl⟩, ⟨_, Try.underlying83, by first | rfl | trivial⟩, fun h => by cases h⟩
theorem ty84 : TyAt Try.prog 84 { d := .other, size := 1, bytes := 8, zero := [.nilFunc], cmp := false } :=
  ⟨⟨Try.t84, _, by kernel_rfl, rfl, rfl, rfl, rfl, rfl, rfl⟩, ⟨_, Try.underlying84, by first | rfl | trivial⟩, fun h => by cases h⟩
theorem ty85 : TyAt Try.prog 85 { d := .other, size := 1, bytes := 8, zero := [.nilFunc], cmp := false } :=
  ⟨⟨Try.t85, _, by kernel_rfl, rfl, rfl, rfl, rfl, rfl, rfl⟩, ⟨_, Try.underlying85, by first | rfl | trivial⟩, fun h => by cases h⟩
theorem ty86 : TyAt Try.prog 86 { d := .other, size := 1, bytes := 8, zero := [.nilFunc], cmp := false } :=
  ⟨⟨Try.t86, _, by kernel_rfl, rfl, rfl, rfl, rfl, rfl, rfl⟩, ⟨_, Try.underlying86, by first | rfl | trivial⟩, fun h => by cases h⟩
theorem ty87 : TyAt Try.prog 87 { d := .other, size := 1, bytes := 8, zero := [.nilFunc], cmp := false } :=
  ⟨⟨Try.t87, _, by kernel_rfl, rfl, rfl, rfl, rfl, rfl, rfl⟩, ⟨_, Try.underlying87, by first | rfl | trivial⟩, fun h => by cases h⟩
theorem ty88 : TyAt Try.prog 88 { d := .slice 90, size := 1, bytes := 24, zero := [.slice none 0 0], cmp := false } :=
  ⟨⟨Try.t88, _, by kernel_rfl, rfl, rfl, rfl, rfl, rfl, rfl⟩, ⟨_, Try.underlying88, by first | rfl | trivial⟩, fun h => by cases h⟩
theorem ty89 : TyAt Try.prog 89 { d := .struct [(0, 3), (1, 3), (2, 9), (3, 88), (4, 3)], size := 5, bytes := 64, zero := [.int .i64 0, .int .i64 0, .string ⟨#[]⟩, .slice none 0 0, .int .i64 0], cmp := false } :=
  ⟨⟨Try.t89, _, by kernel_rfl, rfl, rfl, rfl, rfl, rfl, rfl⟩, ⟨_, Try.underlying89, by first | rfl | trivial⟩, fun h => by cases h⟩
theorem ty90 : TyAt Try.prog 90 { d := .struct [(0, 3), (1, 3), (2, 9), (3, 88), (4, 3)], size := 5, bytes := 64, zero := [.int .i64 0, .int .i64 0, .string ⟨#[]⟩, .slice none 0 0, .int .i64 0], cmp := false } :=
  ⟨⟨Try.t90, _, by kernel_rfl, rfl, rfl, rfl, rfl, rfl, rfl⟩, ⟨_, Try.underlying90, by first | rfl | trivial⟩, fun h => by cases h⟩
theorem ty91 : TyAt Try.prog 91 { d := .other, size := 1, bytes := 8, zero := [.nilFunc], cmp := false } :=
  ⟨⟨Try.t91, _, by kernel_rfl, rfl, rfl, rfl, rfl, rfl, rfl⟩, ⟨_, Try.underlying91, by first | rfl | trivial⟩, fun h => by cases h⟩
theorem ty92 : TyAt Try.prog 92 { d := .other, size := 1, bytes := 8, zero := [.nilFunc], cmp := false } :=
  ⟨⟨Try.t92, _, by kernel_rfl, rfl, rfl, rfl, rfl, rfl, rfl⟩, ⟨_, Try.underlying92, by first | rfl | trivial⟩, fun h => by cases h⟩
theorem ty93 : TyAt Try.prog 93 { d := .other, size := 1, bytes := 8, zero := [.nilFunc], cmp := false } :=
  ⟨⟨Try.t93, _, by kernel_rfl, rfl, rfl, rfl, rfl, rfl, rfl⟩, ⟨_, Try.underlying93, by first | rfl | trivial⟩, fun h => by cases h⟩
theorem ty94 : TyAt Try.prog 94 { d := .other, size := 1, bytes := 8, zero := [.nilFunc], cmp := false } :=
  ⟨⟨Try.t94, _, by kernel_rfl, rfl, rfl, rfl, rfl, rfl, rfl⟩, ⟨_, Try.underlying94, by first | rfl | trivial⟩, fun h => by cases h⟩
theorem ty95 : TyAt Try.prog 95 { d := .other, size := 1, bytes := 8, zero := [.nilFunc], cmp := false } :=
  ⟨⟨Try.t95, _, by kernel_rfl, rfl, rfl, rfl, rfl, rfl, rfl⟩, ⟨_, Try.underlying95, by first | rfl | trivial⟩, fun h => by cases h⟩
theorem ty96 : TyAt Try.prog 96 { d := .slice 5, size := 1, bytes := 24, zero := [.slice none 0 0], cmp := false } :=
  ⟨⟨Try.t96, _, by kernel_rfl, rfl, rfl, rfl, rfl, rfl, rfl⟩, ⟨_, Try.underlying96, by first | rfl | trivial⟩, fun h => by cases h⟩
theorem ty97 : TyAt Try.prog 97 { d := .other, size := 1, bytes := 8, zero := [.nilFunc], cmp := false } :=
  ⟨⟨Try.t97, _, by kernel_rfl, rfl, rfl, rfl, rfl, rfl, rfl⟩, ⟨_, Try.underlying97, by first | rfl | trivial⟩, fun h => by cases h⟩
theorem ty99 : TyAt Try.prog 99 { d := .other, size := 1, bytes := 8, zero := [.nilFunc], cmp := false } :=
  ⟨⟨Try.t99, _, by kernel_rfl, rfl, rfl, rfl, rfl, rfl, rfl⟩, ⟨_, Try.underlying99, by first | rfl | trivial⟩, fun h => by cases h⟩
theorem ty100 : TyAt Try.prog 100 { d := .slice 51, size := 1, bytes := 24, zero := [.slice none 0 0], cmp := false } :=
  ⟨⟨Try.t100, _, by kernel_rfl, rfl, rfl, rfl, rfl, rfl, rfl⟩, ⟨_, Try.underlying100, by first | rfl | trivial⟩, fun h => by cases h⟩
theorem ty101 : TyAt Try.prog 101 { d := .other, size := 1, bytes := 8, zero := [.nilFunc], cmp := false } :=
  ⟨⟨Try.t101, _, by kernel_rfl, rfl, rfl, rfl, rfl, rfl, rfl⟩, ⟨_, Try.underlying101, by first | rfl | trivial⟩, fun h => by cases h⟩
theorem ty102 : TyAt Try.prog 102 { d := .other, size := 1, bytes := 8, zero := [.nilFunc], cmp := false } :=
  ⟨⟨Try.t102, _, by kernel_rfl, rfl, rfl, rfl, rfl, rfl, rfl⟩, ⟨_, Try.underlying102, by first | rfl | trivial⟩, fun h => by cases h⟩
theorem ty103 : TyAt Try.prog 103 { d := .other, size := 1, bytes := 8, zero := [.nilFunc], cmp := false } :=
  ⟨⟨Try.t103, _, by kernel_rfl, rfl, rfl, rfl, rfl, rfl, rfl⟩, ⟨_, Try.underlying103, by first | rfl | trivial⟩, fun h => by cases h⟩
theorem ty104 : TyAt Try.prog 104 { d := .other, size := 1, bytes := 8, zero := [.nilFunc], cmp := false } :=
  ⟨⟨Try.t104, _, by kernel_rfl, rfl, rfl, rfl, rfl, rfl, rfl⟩, ⟨_, Try.underlying104, by first | rfl | trivial⟩, fun h => by cases h⟩
theorem ty105 : TyAt Try.prog 105 { d := .other, size := 1, bytes := 8, zero := [.nilFunc], cmp := false } :=
  ⟨⟨Try.t105, _, by kernel_rfl, rfl, rfl, rfl, rfl, rfl, rfl⟩, ⟨_, Try.underlying105, by first | rfl | trivial⟩, fun h => by cases h⟩
theorem ty106 : TyAt Try.prog 106 { d := .int .u64, size := 1, bytes := 8, zero := [.int .u64 0], cmp := false } :=
  ⟨⟨Try.t106, _, by kernel_rfl, rfl, rfl, rfl, rfl, rfl, rfl⟩, ⟨_, Try.underlying106, by first | rfl | trivial⟩, fun h => by cases h⟩
theorem ty107 : TyAt Try.prog 107 { d := .other, size := 1, bytes := 8, zero := [.nilFunc], cmp := false } :=
  ⟨⟨Try.t107, _, by kernel_rfl, rfl, rfl, rfl, rfl, rfl, rfl⟩, ⟨_, Try.underlying107, by first | rfl | trivial⟩, fun h => by cases h⟩
theorem ty108 : TyAt Try.prog 108 { d := .int .u32, size := 1, bytes := 4, zero := [.int .u32 0], cmp := false } :=
  ⟨⟨Try.t108, _, by kernel_rfl, rfl, rfl, rfl, rfl, rfl, rfl⟩, ⟨_, Try.underlying108, by first | rfl | trivial⟩, fun h => by cases h⟩
theorem ty110 : TyAt Try.prog 110 { d := .other, size := 1, bytes := 8, zero := [.nilFunc], cmp := false } :=
  ⟨⟨Try.t110, _, by kernel_rfl, rfl, rfl, rfl, rfl, rfl, rfl⟩, ⟨_, Try.underlying110, by first | rfl | trivial⟩, fun h => by cases h⟩
theorem ty111 : TyAt Try.prog 111 { d := .other, size := 1, bytes := 8, zero := [.nilFunc], cmp := false } :=
  ⟨⟨Try.t111, _, by kernel_rfl, rfl, rfl, rfl, rfl, rfl, rfl⟩, ⟨_, Try.underlying111, by first | rfl | trivial⟩, fun h => by cases h⟩
theorem ty112 : TyAt Try.prog 112 { d := .struct [(0, 17), (1, 17), (2, 17), (3, 9)], size := 4, bytes := 40, zero := [.pointer none, .pointer none, .pointer none, .string ⟨#[]⟩], cmp := false } :=
  ⟨⟨Try.t112, _, by kernel_rfl, rfl, rfl, rfl, rfl, rfl, rfl⟩, ⟨_, Try.underlying112, by first | rfl | trivial⟩, fun h => by cases h⟩
theorem ty113 : TyAt Try.prog 113 { d := .struct [(0, 17), (1, 17), (2, 17), (3, 9)], size := 4, bytes := 40, zero := [.pointer none, .pointer none, .pointer none, .string ⟨#[]⟩], cmp := false } :=
  ⟨⟨Try.t113, _, by kernel_rfl, rfl, rfl, rfl, rfl, rfl, rfl⟩, ⟨_, Try.underlying113, by first | rfl | trivial⟩, fun h => by cases h⟩
theorem ty114 : TyAt Try.prog 114 { d := .arr 0 16, size := 0, bytes := 0, zero := [], cmp := false } :=
  ⟨⟨Try.t114, _, by kernel_rfl, rfl, rfl, rfl, rfl, rfl, rfl⟩, ⟨_, Try.underlying114, by first | rfl | trivial⟩, fun h => by cases h⟩
theorem ty115 : TyAt Try.prog 115 { d := .struct [(0, 114)], size := 0, bytes := 0, zero := [], cmp := false } :=
  ⟨⟨Try.t115, _, by kernel_rfl, rfl, rfl, rfl, rfl, rfl, rfl⟩, ⟨_, Try.underlying115, by first | rfl | trivial⟩, fun h => by cases h⟩
theorem ty116 : TyAt Try.prog 116 { d := .struct [(0, 114)], size := 0, bytes := 0, zero := [], cmp := false } :=
  ⟨⟨Try.t116, _, by kernel_rfl, rfl, rfl, rfl, rfl, rfl, rfl⟩, ⟨_, Try.underlying116, by first | rfl | trivial⟩, fun h => by cases h⟩
theorem ty117 : TyAt Try.prog 117 { d := .other, size := 1, bytes := 8, zero := [.nilFunc], cmp := false } :=
  ⟨⟨Try.t117, _, by kernel_rfl, rfl, rfl, rfl, rfl, rfl, rfl⟩, ⟨_, Try.underlying117, by first | rfl | trivial⟩, fun h => by cases h⟩
theorem ty118 : TyAt Try.prog 118 { d := .int .u8, size := 1, bytes := 1, zero := [.int .u8 0], cmp := false } :=
  ⟨⟨Try.t118, _, by kernel_rfl, rfl, rfl, rfl, rfl, rfl, rfl⟩, ⟨_, Try.underlying118, by first | rfl | trivial⟩, fun h => by cases h⟩
theorem ty119 : TyAt Try.prog 119 { d := .int .u8, size := 1, bytes := 1, zero := [.int .u8 0], cmp := false } :=
  ⟨⟨Try.t119, _, by kernel_rfl, rfl, rfl, rfl, rfl, rfl, rfl⟩, ⟨_, Try.underlying119, by first | rfl | trivial⟩, fun h => by cases h⟩
theorem ty120 : TyAt Try.prog 120 { d := .other, size := 1, bytes := 8, zero := [.nilFunc], cmp := false } :=
  ⟨⟨Try.t120, _, by kernel_rfl, rfl, rfl, rfl, rfl, rfl, rfl⟩, ⟨_, Try.underlying120, by first | rfl | trivial⟩, fun h => by cases h⟩
theorem ty121 : TyAt Try.prog 121 { d := .other, size := 1, bytes := 8, zero := [.pointer none], cmp := false } :=
  ⟨⟨Try.t121, _, by kernel_rfl, rfl, rfl, rfl, rfl, rfl, rfl⟩, ⟨_, Try.underlying121, by first | rfl | trivial⟩, fun h => by cases h⟩
theorem ty122 : TyAt Try.prog 122 { d := .int .i32, size := 1, bytes := 4, zero := [.int .i32 0], cmp := false } :=
  ⟨⟨Try.t122, _, by kernel_rfl, rfl, rfl, rfl, rfl, rfl, rfl⟩, ⟨_, Try.underlying122, by first | rfl | trivial⟩, fun h => by cases h⟩
theorem ty123 : TyAt Try.prog 123 { d := .int .i32, size := 1, bytes := 4, zero := [.int .i32 0], cmp := false } :=
  ⟨⟨Try.t123, _, by kernel_rfl, rfl, rfl, rfl, rfl, rfl, rfl⟩, ⟨_, Try.underlying123, by first | rfl | trivial⟩, fun h => by cases h⟩
theorem ty124 : TyAt Try.prog 124 { d := .struct [(0, 12), (1, 12), (2, 108), (3, 118), (4, 5), (5, 5), (6, 119), (7, 120), (8, 121), (9, 122), (10, 123)], size := 11, bytes := 48, zero := [.int .u64 0, .int .u64 0, .int .u32 0, .int .u8 0, .int .u8 0, .int .u8 0, .int .u8 0, .nilFunc, .pointer none, .int .i32 0, .int .i32 0], cmp := false } :=
  ⟨⟨Try.t124, _, by kernel_rfl, rfl, rfl, rfl, rfl, rfl, rfl⟩, ⟨_, Try.underlying124, by first | rfl | trivial⟩, fun h => by cases h⟩
theorem ty125 : TyAt Try.prog 125 { d := .struct [(0, 12), (1, 12), (2, 108), (3, 118), (4, 5), (5, 5), (6, 119), (7, 120), (8, 121), (9, 122), (10, 123)], size := 11, bytes := 48, zero := [.int .u64 0, .int .u64 0, .int .u32 0, .int .u8 0, .int .u8 0, .int .u8 0, .int .u8 0, .nilFunc, .pointer none, .int .i32 0, .int .i32 0], cmp := false } :=
  ⟨⟨Try.t125, _, by kernel_rfl, rfl, rfl, rfl, rfl, rfl, rfl⟩, ⟨_, Try.underlying125, by first | rfl | trivial⟩, fun h => by cases h⟩
theorem ty126 : TyAt Try.prog 126 { d := .other, size := 1, bytes := 8, zero := [.nilFunc], cmp := false } :=
  ⟨⟨Try.t126, _, by kernel_rfl, rfl, rfl, rfl, rfl, rfl, rfl⟩, ⟨_, Try.underlying126, by first | rfl | trivial⟩, fun h => by cases h⟩
def D : Tab := [none,
  some { d := .other, size := 1, bytes := 8, zero := [.nilFunc], cmp := false },
  some { d := .int .i64, size := 1, bytes := 8, zero := [.int .i64 0], cmp := false },
  some { d := .int .i64, size := 1, bytes := 8, zero := [.int .i64 0], cmp := false },
  some { d := .bool, size := 1, bytes := 1, zero := [.bool false], cmp := false },
  some { d := .int .u8, size := 1, bytes := 1, zero := [.int .u8 0], cmp := false },
  some { d := .int .u8, size := 1, bytes := 1, zero := [.int .u8 0], cmp := false },
  some { d := .struct [(0, 2), (1, 3), (2, 4), (3, 6)], size := 4, bytes := 24, zero := [.int .i64 0, .int .i64 0, .bool false, .int .u8 0], cmp := true },
  some { d := .struct [(0, 2), (1, 3), (2, 4), (3, 6)], size := 4, bytes := 24, zero := [.int .i64 0, .int .i64 0, .bool false, .int .u8 0], cmp := true },
  some { d := .str, size := 1, bytes := 16, zero := [.string ⟨#[]⟩], cmp := false },
  some { d := .str, size := 1, bytes := 16, zero := [.string ⟨#[]⟩], cmp := false },
  some { d := .str, size := 1, bytes := 16, zero := [.string ⟨#[]⟩], cmp := false },
  some { d := .int .u64, size := 1, bytes := 8, zero := [.int .u64 0], cmp := false },
  some { d := .struct [(0, 9), (1, 12)], size := 2, bytes := 24, zero := [.string ⟨#[]⟩, .int .u64 0], cmp := false },
  some { d := .struct [(0, 9), (1, 12)], size := 2, bytes := 24, zero := [.string ⟨#[]⟩, .int .u64 0], cmp := false },
  some { d := .other, size := 1, bytes := 8, zero := [.pointer none], cmp := false },
  some { d := .other, size := 1, bytes := 8, zero := [.pointer none], cmp := false },
  some { d := .other, size := 1, bytes := 8, zero := [.pointer none], cmp := false },
  some { d := .struct [(0, 17)], size := 1, bytes := 8, zero := [.pointer none], cmp := false },
  some { d := .struct [(0, 17)], size := 1, bytes := 8, zero := [.pointer none], cmp := false },
  none,
  some { d := .int .i32, size := 1, bytes := 4, zero := [.int .i32 0], cmp := false },
  some { d := .slice 3, size := 1, bytes := 24, zero := [.slice none 0 0], cmp := false },
  some { d := .struct [(0, 3), (1, 3), (2, 9), (3, 9), (4, 22)], size := 5, bytes := 72, zero := [.int .i64 0, .int .i64 0, .string ⟨#[]⟩, .string ⟨#[]⟩, .slice none 0 0], cmp := false },
  some { d := .struct [(0, 3), (1, 3), (2, 9), (3, 9), (4, 22)], size := 5, bytes := 72, zero := [.int .i64 0, .int .i64 0, .string ⟨#[]⟩, .string ⟨#[]⟩, .slice none 0 0], cmp := false },
  some { d := .other, size := 1, bytes := 8, zero := [.nilFunc], cmp := false },
  some { d := .other, size := 1, bytes := 8, zero := [.nilFunc], cmp := false },
  some { d := .struct [(0, 3), (1, 3), (2, 9), (3, 9), (4, 22)], size := 5, bytes := 72, zero := [.int .i64 0, .int .i64 0, .string ⟨#[]⟩, .string ⟨#[]⟩, .slice none 0 0], cmp := false },
  some { d := .other, size := 1, bytes := 8, zero := [.nilFunc], cmp := false },
  some { d := .other, size := 1, bytes := 8, zero := [.nilFunc], cmp := false },
  some { d := .other, size := 1, bytes := 8, zero := [.nilFunc], cmp := false },
  some { d := .slice 24, size := 1, bytes := 24, zero := [.slice none 0 0], cmp := false },
  some { d := .other, size := 1, bytes := 8, zero := [.nilFunc], cmp := false },
  some { d := .other, size := 1, bytes := 8, zero := [.nilFunc], cmp := false },
  some { d := .slice 27, size := 1, bytes := 24, zero := [.slice none 0 0], cmp := false },
  some { d := .other, size := 1, bytes := 8, zero := [.nilFunc], cmp := false },
  some { d := .other, size := 1, bytes := 8, zero := [.nilFunc], cmp := false },
  some { d := .other, size := 1, bytes := 8, zero := [.nilFunc], cmp := false },
  none,
  some { d := .other, size := 1, bytes := 8, zero := [.nilFunc], cmp := false },
  some { d := .other, size := 1, bytes := 8, zero := [.nilFunc], cmp := false },
  some { d := .slice 69, size := 1, bytes := 24, zero := [.slice none 0 0], cmp := false },
  some { d := .other, size := 1, bytes := 8, zero := [.nilFunc], cmp := false },
  some { d := .slice 70, size := 1, bytes := 24, zero := [.slice none 0 0], cmp := false },
  some { d := .other, size := 1, bytes := 8, zero := [.nilFunc], cmp := false },
  some { d := .other, size := 1, bytes := 8, zero := [.nilFunc], cmp := false },
  some { d := .other, size := 1, bytes := 8, zero := [.nilFunc], cmp := false },
  some { d := .other, size := 1, bytes := 8, zero := [.nilFunc], cmp := false },
  some { d := .other, size := 1, bytes := 8, zero := [.nilFunc], cmp := false },
  some { d := .slice 81, size := 1, bytes := 24, zero := [.slice none 0 0], cmp := false },
  some { d := .other, size := 1, bytes := 8, zero := [.nilFunc], cmp := false },
  some { d := .slice 83, size := 1, bytes := 24, zero := [.slice none 0 0], cmp := false },
  some { d := .other, size := 1, bytes := 8, zero := [.nilFunc], cmp := false },
  some { d := .other, size := 1, bytes := 8, zero := [.nilFunc], cmp := false },
  some { d := .other, size := 1, bytes := 8, zero := [.nilFunc], cmp := false },
  some { d := .other, size := 1, bytes := 8, zero := [.nilFunc], cmp := false },
  some { d := .other, size := 1, bytes := 8, zero := [.nilFunc], cmp := false },
  some { d := .other, size := 1, bytes := 8, zero := [.nilFunc], cmp := false },
  some { d := .other, size := 1, bytes := 8, zero := [.nilFunc], cmp := false },
  some { d := .other, size := 1, bytes := 8, zero := [.nilFunc], cmp := false },
  some { d := .other, size := 1, bytes := 8, zero := [.nilFunc], cmp := false },
  some { d := .other, size := 1, bytes := 8, zero := [.nilFunc], cmp := false },
  some { d := .other, size := 1, bytes := 8, zero := [.nilFunc], cmp := false },
  some { d := .other, size := 1, bytes := 8, zero := [.nilFunc], cmp := false },
  some { d := .other, size := 1, bytes := 8, zero := [.nilFunc], cmp := false },
  some { d := .other, size := 1, bytes := 8, zero := [.nilFunc], cmp := false },
  some { d := .other, size := 1, bytes := 8, zero := [.nilFunc], cmp := false },
  some { d := .other, size := 1, bytes := 8, zero := [.nilFunc], cmp := false },
  some { d := .struct [(0, 9), (1, 3)], size := 2, bytes := 24, zero := [.string ⟨#[]⟩, .int .i64 0], cmp := true },
  some { d := .struct [(0, 9), (1, 3)], size := 2, bytes := 24, zero := [.string ⟨#[]⟩, .int .i64 0], cmp := true },
  some { d := .struct [(0, 9), (1, 3)], size := 2, bytes := 24, zero := [.string ⟨#[]⟩, .int .i64 0], cmp := true },
  some { d := .other, size := 1, bytes := 8, zero := [.nilFunc], cmp := false },
  some { d := .other, size := 1, bytes := 8, zero := [.nilFunc], cmp := false },
  some { d := .other, size := 1, bytes := 8, zero := [.nilFunc], cmp := false },
  some { d := .other, size := 1, bytes := 8, zero := [.nilFunc], cmp := false },
  some { d := .other, size := 1, bytes := 8, zero := [.nilFunc], cmp := false },
  some { d := .other, size := 1, bytes := 8, zero := [.nilFunc], cmp := false },
  some { d := .other, size := 1, bytes := 8, zero := [.nilFunc], cmp := false },
  some { d := .other, size := 1, bytes := 8, zero := [.nilFunc], cmp := false },
  some { d := .other, size := 1, bytes := 8, zero := [.nilFunc], cmp := false },
  some { d := .struct [(0, 3), (1, 3), (2, 9), (3, 22)], size := 4, bytes := 56, zero := [.int .i64 0, .int .i64 0, .string ⟨#[]⟩, .slice none 0 0], cmp := false },
  some { d := .struct [(0, 3), (1, 3), (2, 9), (3, 22)], size := 4, bytes := 56, zero := [.int .i64 0, .int .i64 0, .string ⟨#[]⟩, .slice none 0 0], cmp := false },
  some { d := .other, size := 1, bytes := 8, zero := [.nilFunc], cmp := false },
  some { d := .struct [(0, 3), (1, 3), (2, 9), (3, 22)], size := 4, bytes := 56, zero := [.int .i64 0, .int .i64 0, .string ⟨#[]⟩, .slice none 0 0], cmp := false },
  some { d := .other, size := 1, bytes := 8, zero := [.nilFunc], cmp := false },
  some { d := .other, size := 1, bytes := 8, zero := [.nilFunc], cmp := false },
  some { d := .other, size := 1, bytes := 8, zero := [.nilFunc], cmp := false },
  some { d := .other, size := 1, bytes := 8, zero := [.nilFunc], cmp := false },
  some { d := .slice 90, size := 1, bytes := 24, zero := [.slice none 0 0], cmp := false },
  some { d := .struct [(0, 3), (1, 3), (2, 9), (3, 88), (4, 3)], size := 5, bytes := 64, zero := [.int .i64 0, .int .i64 0, .string ⟨#[]⟩, .slice none 0 0, .int .i64 0], cmp := false },
  some { d := .struct [(0, 3), (1, 3), (2, 9), (3, 88), (4, 3)], size := 5, bytes := 64, zero := [.int .i64 0, .int .i64 0, .string ⟨#[]⟩, .slice none 0 0, .int .i64 0], cmp := false },
  some { d := .other, size := 1, bytes := 8, zero := [.nilFunc], cmp := false },
  some { d := .other, size := 1, bytes := 8, zero := [.nilFunc], cmp := false },
  some { d := .other, size := 1, bytes := 8, zero := [.nilFunc], cmp := false },
  some { d := .other, size := 1, bytes := 8, zero := [.nilFunc], cmp := false },
  some { d := .other, size := 1, bytes := 8, zero := [.nilFunc], cmp := false },
  some { d := .slice 5, size := 1, bytes := 24, zero := [.slice none 0 0], cmp := false },
  some { d := .other, size := 1, bytes := 8, zero := [.nilFunc], cmp := false },
  none,
  some { d := .other, size := 1, bytes := 8, zero := [.nilFunc], cmp := false },
  some { d := .slice 51, size := 1, bytes := 24, zero := [.slice none 0 0], cmp := false },
  some { d := .other, size := 1, bytes := 8, zero := [.nilFunc], cmp := false },
  some { d := .other, size := 1, bytes := 8, zero := [.nilFunc], cmp := false },
  some { d := .other, size := 1, bytes := 8, zero := [.nilFunc], cmp := false },
  some { d := .other, size := 1, bytes := 8, zero := [.nilFunc], cmp := false },
  some { d := .other, size := 1, bytes := 8, zero := [.nilFunc], cmp := false },
  some { d := .int .u64, size := 1, bytes := 8, zero := [.int .u64 0], cmp := false },
  some { d := .other, size := 1, bytes := 8, zero := [.nilFunc], cmp := false },
  some { d := .int .u32, size := 1, bytes := 4, zero := [.int .u32 0], cmp := false },
  none,
  some { d := .other, size := 1, bytes := 8, zero := [.nilFunc], cmp := false },
  some { d := .other, size := 1, bytes := 8, zero := [.nilFunc], cmp := false },
  some { d := .struct [(0, 17), (1, 17), (2, 17), (3, 9)], size := 4, bytes := 40, zero := [.pointer none, .pointer none, .pointer none, .string ⟨#[]⟩], cmp := false },
  some { d := .struct [(0, 17), (1, 17), (2, 17), (3, 9)], size := 4, bytes := 40, zero := [.pointer none, .pointer none, .pointer none, .string ⟨#[]⟩], cmp := false },
  some { d := .arr 0 16, size := 0, bytes := 0, zero := [], cmp := false },
  some { d := .struct [(0, 114)], size := 0, bytes := 0, zero := [], cmp := false },
  some { d := .struct [(0, 114)], size := 0, bytes := 0, zero := [], cmp := false },
  some { d := .other, size := 1, bytes := 8, zero := [.nilFunc], cmp := false },
  some { d := .int .u8, size := 1, bytes := 1, zero := [.int .u8 0], cmp := false },
  some { d := .int .u8, size := 1, bytes := 1, zero := [.int .u8 0], cmp := false },
  some { d := .other, size := 1, bytes := 8, zero := [.nilFunc], cmp := false },
  some { d := .other, size := 1, bytes := 8, zero := [.pointer none], cmp := false },
  some { d := .int .i32, size := 1, bytes := 4, zero := [.int .i32 0], cmp := false },
  some { d := .int .i32, size := 1, bytes := 4, zero := [.int .i32 0], cmp := false },
  some { d := .struct [(0, 12), (1, 12), (2, 108), (3, 118), (4, 5), (5, 5), (6, 119), (7, 120), (8, 121), (9, 122), (10, 123)], size := 11, bytes := 48, zero := [.int .u64 0, .int .u64 0, .int .u32 0, .int .u8 0, .int .u8 0, .int .u8 0, .int .u8 0, .nilFunc, .pointer none, .int .i32 0, .int .i32 0], cmp := false },
  some { d := .struct [(0, 12), (1, 12), (2, 108), (3, 118), (4, 5), (5, 5), (6, 119), (7, 120), (8, 121), (9, 122), (10, 123)], size := 11, bytes := 48, zero := [.int .u64 0, .int .u64 0, .int .u32 0, .int .u8 0, .int .u8 0, .int .u8 0, .int .u8 0, .nilFunc, .pointer none, .int .i32 0, .int .i32 0], cmp := false },
  some { d := .other, size := 1, bytes := 8, zero := [.nilFunc], cmp := false },
  none]
theorem D_ok : TabOk Try.prog D := TyAll.ok ⟨ty1, ty2, ty3, ty4, ty5, ty6, ty7, ty8, ty9, ty10, ty11, ty12, ty13, ty14, ty15, ty16, ty17, ty18, ty19, ty21, ty22, ty23, ty24, ty25, ty26, ty27, ty28, ty29, ty30, ty31, ty32, ty33, ty34, ty35, ty36, ty37, ty39, ty40, ty41, ty42, ty43, ty44, ty45, ty46, ty47, ty48, ty49, ty50, ty51, ty52, ty53, ty54, ty55, ty56, ty57, ty58, ty59, ty60, ty61, ty62, ty63, ty64, ty65, ty66, ty67, ty68, ty69, ty70, ty71, ty72, ty73, ty74, ty75, ty76, ty77, ty78, ty79, ty80, ty81, ty82, ty83, ty84, ty85, ty86, ty87, ty88, ty89, ty90, ty91, ty92, ty93, ty94, ty95, ty96, ty97, ty99, ty100, ty101, ty102, ty103, ty104, ty105, ty106, ty107, ty108, ty110, ty111, ty112, ty113, ty114, ty115, ty116, ty117, ty118, ty119, ty120, ty121, ty122, ty123, ty124, ty125, ty126, trivial⟩
end Go.Proofs.Try

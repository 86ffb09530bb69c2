/-
  The types of this seat's program as the table of Core6, each held against the program.
-/
import Derived.Test.YtjhcdnpbmppkkaaGreatDoorTCore5
import Derived.Test.YtjhcdnpbmppkkaaGreatDoorProg
import Derived.KernelRfl
namespace Go.Proofs.Tryz
open Go.Av
set_option maxRecDepth 100000
set_option linter.unusedSimpArgs false
set_option linter.unusedVariables false

abbrev y1 : Ty := ⟨.other, 1, 8, [.nilFunc], false⟩
theorem ty1 : TyAt Tryz.prog 1 y1 :=
  ⟨⟨Tryz.t1, _, by kernel_rfl, rfl, rfl, rfl, rfl, rfl, rfl⟩, ⟨_, Tryz.underlying1, by first | rfl | trivial⟩, fun h => by cases h⟩
abbrev y2 : Ty := ⟨.int .i64, 1, 8, [.int .i64 0], false⟩
theorem ty2 : TyAt Tryz.prog 2 y2 :=
  ⟨⟨Tryz.t2, _, by kernel_rfl, rfl, rfl, rfl, rfl, rfl, rfl⟩, ⟨_, Tryz.underlying2, by first | rfl | trivial⟩, fun h => by cases h⟩
abbrev y3 : Ty := ⟨.int .i64, 1, 8, [.int .i64 0], false⟩
theorem ty3 : TyAt Tryz.prog 3 y3 :=
  ⟨⟨Tryz.t3, _, by kernel_rfl, rfl, rfl, rfl, rfl, rfl, rfl⟩, ⟨_, Tryz.underlying3, by first | rfl | trivial⟩, fun h => by cases h⟩
abbrev y4 : Ty := ⟨.bool, 1, 1, [.bool false], false⟩
theorem ty4 : TyAt Tryz.prog 4 y4 :=
  ⟨⟨Tryz.t4, _, by kernel_rfl, rfl, rfl, rfl, rfl, rfl, rfl⟩, ⟨_, Tryz.underlying4, by first | rfl | trivial⟩, fun h => by cases h⟩
abbrev y5 : Ty := ⟨.int .u8, 1, 1, [.int .u8 0], false⟩
theorem ty5 : TyAt Tryz.prog 5 y5 :=
  ⟨⟨Tryz.t5, _, by kernel_rfl, rfl, rfl, rfl, rfl, rfl, rfl⟩, ⟨_, Tryz.underlying5, by first | rfl | trivial⟩, fun h => by cases h⟩
abbrev y6 : Ty := ⟨.int .u8, 1, 1, [.int .u8 0], false⟩
theorem ty6 : TyAt Tryz.prog 6 y6 :=
  ⟨⟨Tryz.t6, _, by kernel_rfl, rfl, rfl, rfl, rfl, rfl, rfl⟩, ⟨_, Tryz.underlying6, by first | rfl | trivial⟩, fun h => by cases h⟩
abbrev y7 : Ty := ⟨.struct [(0, 2), (1, 3), (2, 4), (3, 6)], 4, 24, [.int .i64 0, .int .i64 0, .bool false, .int .u8 0], true⟩
theorem ty7 : TyAt Tryz.prog 7 y7 :=
  ⟨⟨Tryz.t7, _, by kernel_rfl, rfl, rfl, rfl, rfl, rfl, rfl⟩, ⟨_, Tryz.underlying7, by first | rfl | trivial⟩, fun _ => ⟨Tryz.stoodInHeld7, Tryz.eqGuardType7, of_decide_eq_true (by kernel_rfl)⟩⟩
abbrev y8 : Ty := ⟨.struct [(0, 2), (1, 3), (2, 4), (3, 6)], 4, 24, [.int .i64 0, .int .i64 0, .bool false, .int .u8 0], true⟩
theorem ty8 : TyAt Tryz.prog 8 y8 :=
  ⟨⟨Tryz.t8, _, by kernel_rfl, rfl, rfl, rfl, rfl, rfl, rfl⟩, ⟨_, Tryz.underlying8, by first | rfl | trivial⟩, fun _ => ⟨Tryz.stoodInHeld8, Tryz.eqGuardType8, of_decide_eq_true (by kernel_rfl)⟩⟩
abbrev y9 : Ty := ⟨.str, 1, 16, [.string ⟨#[]⟩], false⟩
theorem ty9 : TyAt Tryz.prog 9 y9 :=
  ⟨⟨Tryz.t9, _, by kernel_rfl, rfl, rfl, rfl, rfl, rfl, rfl⟩, ⟨_, Tryz.underlying9, by first | rfl | trivial⟩, fun h => by cases h⟩
abbrev y11 : Ty := ⟨.str, 1, 16, [.string ⟨#[]⟩], false⟩
theorem ty11 : TyAt Tryz.prog 11 y11 :=
  ⟨⟨Tryz.t11, _, by kernel_rfl, rfl, rfl, rfl, rfl, rfl, rfl⟩, ⟨_, Tryz.underlying11, by first | rfl | trivial⟩, fun h => by cases h⟩
abbrev y12 : Ty := ⟨.int .u64, 1, 8, [.int .u64 0], false⟩
theorem ty12 : TyAt Tryz.prog 12 y12 :=
  ⟨⟨Tryz.t12, _, by kernel_rfl, rfl, rfl, rfl, rfl, rfl, rfl⟩, ⟨_, Tryz.underlying12, by first | rfl | trivial⟩, fun h => by cases h⟩
abbrev y17 : Ty := ⟨.other, 1, 8, [.pointer none], false⟩
theorem ty17 : TyAt Tryz.prog 17 y17 :=
  ⟨⟨Tryz.t17, _, by kernel_rfl, rfl, rfl, rfl, rfl, rfl, rfl⟩, ⟨_, Tryz.underlying17, by first | rfl | trivial⟩, fun h => by cases h⟩
abbrev y21 : Ty := ⟨.int .i32, 1, 4, [.int .i32 0], false⟩
theorem ty21 : TyAt Tryz.prog 21 y21 :=
  ⟨⟨Tryz.t21, _, by kernel_rfl, rfl, rfl, rfl, rfl, rfl, rfl⟩, ⟨_, Tryz.underlying21, by first | rfl | trivial⟩, fun h => by cases h⟩
abbrev y22 : Ty := ⟨.slice 5, 1, 24, [.slice none 0 0], false⟩
theorem ty22 : TyAt Tryz.prog 22 y22 :=
  ⟨⟨Tryz.t22, _, by kernel_rfl, rfl, rfl, rfl, rfl, rfl, rfl⟩, ⟨_, Tryz.underlying22, by first | rfl | trivial⟩, fun h => by cases h⟩
abbrev y24 : Ty := ⟨.slice 36, 1, 24, [.slice none 0 0], false⟩
theorem ty24 : TyAt Tryz.prog 24 y24 :=
  ⟨⟨Tryz.t24, _, by kernel_rfl, rfl, rfl, rfl, rfl, rfl, rfl⟩, ⟨_, Tryz.underlying24, by first | rfl | trivial⟩, fun h => by cases h⟩
abbrev y30 : Ty := ⟨.struct [(0, 3), (1, 3)], 2, 16, [.int .i64 0, .int .i64 0], true⟩
theorem ty30 : TyAt Tryz.prog 30 y30 :=
  ⟨⟨Tryz.t30, _, by kernel_rfl, rfl, rfl, rfl, rfl, rfl, rfl⟩, ⟨_, Tryz.underlying30, by first | rfl | trivial⟩, fun _ => ⟨Tryz.stoodInHeld30, Tryz.eqGuardType30, of_decide_eq_true (by kernel_rfl)⟩⟩
abbrev y36 : Ty := ⟨.struct [(0, 3), (1, 9), (2, 3)], 3, 32, [.int .i64 0, .string ⟨#[]⟩, .int .i64 0], true⟩
theorem ty36 : TyAt Tryz.prog 36 y36 :=
  ⟨⟨Tryz.t36, _, by kernel_rfl, rfl, rfl, rfl, rfl, rfl, rfl⟩, ⟨_, Tryz.underlying36, by first | rfl | trivial⟩, fun _ => ⟨Tryz.stoodInHeld36, Tryz.eqGuardType36, of_decide_eq_true (by kernel_rfl)⟩⟩
abbrev y39 : Ty := ⟨.other, 1, 8, [.nilFunc], false⟩
theorem ty39 : TyAt Tryz.prog 39 y39 :=
  ⟨⟨Tryz.t39, _, by kernel_rfl, rfl, rfl, rfl, rfl, rfl, rfl⟩, ⟨_, Tryz.underlying39, by first | rfl | trivial⟩, fun h => by cases h⟩
abbrev y47 : Ty := ⟨.other, 1, 8, [.pointer none], false⟩
theorem ty47 : TyAt Tryz.prog 47 y47 :=
  ⟨⟨Tryz.t47, _, by kernel_rfl, rfl, rfl, rfl, rfl, rfl, rfl⟩, ⟨_, Tryz.underlying47, by first | rfl | trivial⟩, fun h => by cases h⟩
abbrev y61 : Ty := ⟨.slice 9, 1, 24, [.slice none 0 0], false⟩
theorem ty61 : TyAt Tryz.prog 61 y61 :=
  ⟨⟨Tryz.t61, _, by kernel_rfl, rfl, rfl, rfl, rfl, rfl, rfl⟩, ⟨_, Tryz.underlying61, by first | rfl | trivial⟩, fun h => by cases h⟩
abbrev y63 : Ty := ⟨.int .u64, 1, 8, [.int .u64 0], false⟩
theorem ty63 : TyAt Tryz.prog 63 y63 :=
  ⟨⟨Tryz.t63, _, by kernel_rfl, rfl, rfl, rfl, rfl, rfl, rfl⟩, ⟨_, Tryz.underlying63, by first | rfl | trivial⟩, fun h => by cases h⟩
abbrev y65 : Ty := ⟨.struct [(0, 22), (1, 3), (2, 3)], 3, 40, [.slice none 0 0, .int .i64 0, .int .i64 0], false⟩
theorem ty65 : TyAt Tryz.prog 65 y65 :=
  ⟨⟨Tryz.t65, _, by kernel_rfl, rfl, rfl, rfl, rfl, rfl, rfl⟩, ⟨_, Tryz.underlying65, by first | rfl | trivial⟩, fun h => by cases h⟩
abbrev y69 : Ty := ⟨.slice 3, 1, 24, [.slice none 0 0], false⟩
theorem ty69 : TyAt Tryz.prog 69 y69 :=
  ⟨⟨Tryz.t69, _, by kernel_rfl, rfl, rfl, rfl, rfl, rfl, rfl⟩, ⟨_, Tryz.underlying69, by first | rfl | trivial⟩, fun h => by cases h⟩
abbrev y76 : Ty := ⟨.arr 5 9, 5, 80, [.string ⟨#[]⟩, .string ⟨#[]⟩, .string ⟨#[]⟩, .string ⟨#[]⟩, .string ⟨#[]⟩], false⟩
theorem ty76 : TyAt Tryz.prog 76 y76 :=
  ⟨⟨Tryz.t76, _, by kernel_rfl, rfl, rfl, rfl, rfl, rfl, rfl⟩, ⟨_, Tryz.underlying76, by first | rfl | trivial⟩, fun h => by cases h⟩
abbrev y82 : Ty := ⟨.int .u64, 1, 8, [.int .u64 0], false⟩
theorem ty82 : TyAt Tryz.prog 82 y82 :=
  ⟨⟨Tryz.t82, _, by kernel_rfl, rfl, rfl, rfl, rfl, rfl, rfl⟩, ⟨_, Tryz.underlying82, by first | rfl | trivial⟩, fun h => by cases h⟩
abbrev y90 : Ty := ⟨.slice 108, 1, 24, [.slice none 0 0], false⟩
theorem ty90 : TyAt Tryz.prog 90 y90 :=
  ⟨⟨Tryz.t90, _, by kernel_rfl, rfl, rfl, rfl, rfl, rfl, rfl⟩, ⟨_, Tryz.underlying90, by first | rfl | trivial⟩, fun h => by cases h⟩
abbrev y93 : Ty := ⟨.struct [(0, 3), (1, 4), (2, 4), (3, 4), (4, 4)], 5, 16, [.int .i64 0, .bool false, .bool false, .bool false, .bool false], true⟩
theorem ty93 : TyAt Tryz.prog 93 y93 :=
  ⟨⟨Tryz.t93, _, by kernel_rfl, rfl, rfl, rfl, rfl, rfl, rfl⟩, ⟨_, Tryz.underlying93, by first | rfl | trivial⟩, fun _ => ⟨Tryz.stoodInHeld93, Tryz.eqGuardType93, of_decide_eq_true (by kernel_rfl)⟩⟩
abbrev y103 : Ty := ⟨.slice 121, 1, 24, [.slice none 0 0], false⟩
theorem ty103 : TyAt Tryz.prog 103 y103 :=
  ⟨⟨Tryz.t103, _, by kernel_rfl, rfl, rfl, rfl, rfl, rfl, rfl⟩, ⟨_, Tryz.underlying103, by first | rfl | trivial⟩, fun h => by cases h⟩
abbrev y108 : Ty := ⟨.struct [(0, 3), (1, 3), (2, 9), (3, 9), (4, 69)], 5, 72, [.int .i64 0, .int .i64 0, .string ⟨#[]⟩, .string ⟨#[]⟩, .slice none 0 0], false⟩
theorem ty108 : TyAt Tryz.prog 108 y108 :=
  ⟨⟨Tryz.t108, _, by kernel_rfl, rfl, rfl, rfl, rfl, rfl, rfl⟩, ⟨_, Tryz.underlying108, by first | rfl | trivial⟩, fun h => by cases h⟩
abbrev y109 : Ty := ⟨.slice 90, 1, 24, [.slice none 0 0], false⟩
theorem ty109 : TyAt Tryz.prog 109 y109 :=
  ⟨⟨Tryz.t109, _, by kernel_rfl, rfl, rfl, rfl, rfl, rfl, rfl⟩, ⟨_, Tryz.underlying109, by first | rfl | trivial⟩, fun h => by cases h⟩
abbrev y111 : Ty := ⟨.int .u32, 1, 4, [.int .u32 0], false⟩
theorem ty111 : TyAt Tryz.prog 111 y111 :=
  ⟨⟨Tryz.t111, _, by kernel_rfl, rfl, rfl, rfl, rfl, rfl, rfl⟩, ⟨_, Tryz.underlying111, by first | rfl | trivial⟩, fun h => by cases h⟩
abbrev y121 : Ty := ⟨.struct [(0, 3), (1, 3), (2, 9), (3, 69)], 4, 56, [.int .i64 0, .int .i64 0, .string ⟨#[]⟩, .slice none 0 0], false⟩
theorem ty121 : TyAt Tryz.prog 121 y121 :=
  ⟨⟨Tryz.t121, _, by kernel_rfl, rfl, rfl, rfl, rfl, rfl, rfl⟩, ⟨_, Tryz.underlying121, by first | rfl | trivial⟩, fun h => by cases h⟩
abbrev y126 : Ty := ⟨.struct [(0, 90), (1, 4)], 2, 32, [.slice none 0 0, .bool false], false⟩
theorem ty126 : TyAt Tryz.prog 126 y126 :=
  ⟨⟨Tryz.t126, _, by kernel_rfl, rfl, rfl, rfl, rfl, rfl, rfl⟩, ⟨_, Tryz.underlying126, by first | rfl | trivial⟩, fun h => by cases h⟩
abbrev y155 : Ty := ⟨.slice 103, 1, 24, [.slice none 0 0], false⟩
theorem ty155 : TyAt Tryz.prog 155 y155 :=
  ⟨⟨Tryz.t155, _, by kernel_rfl, rfl, rfl, rfl, rfl, rfl, rfl⟩, ⟨_, Tryz.underlying155, by first | rfl | trivial⟩, fun h => by cases h⟩
abbrev y175 : Ty := ⟨.int .u8, 1, 1, [.int .u8 0], false⟩
theorem ty175 : TyAt Tryz.prog 175 y175 :=
  ⟨⟨Tryz.t175, _, by kernel_rfl, rfl, rfl, rfl, rfl, rfl, rfl⟩, ⟨_, Tryz.underlying175, by first | rfl | trivial⟩, fun h => by cases h⟩
abbrev y176 : Ty := ⟨.int .u8, 1, 1, [.int .u8 0], false⟩
theorem ty176 : TyAt Tryz.prog 176 y176 :=
  ⟨⟨Tryz.t176, _, by kernel_rfl, rfl, rfl, rfl, rfl, rfl, rfl⟩, ⟨_, Tryz.underlying176, by first | rfl | trivial⟩, fun h => by cases h⟩
abbrev y177 : Ty := ⟨.other, 1, 8, [.nilFunc], false⟩
theorem ty177 : TyAt Tryz.prog 177 y177 :=
  ⟨⟨Tryz.t177, _, by kernel_rfl, rfl, rfl, rfl, rfl, rfl, rfl⟩, ⟨_, Tryz.underlying177, by first | rfl | trivial⟩, fun h => by cases h⟩
abbrev y178 : Ty := ⟨.other, 1, 8, [.pointer none], false⟩
theorem ty178 : TyAt Tryz.prog 178 y178 :=
  ⟨⟨Tryz.t178, _, by kernel_rfl, rfl, rfl, rfl, rfl, rfl, rfl⟩, ⟨_, Tryz.underlying178, by first | rfl | trivial⟩, fun h => by cases h⟩
abbrev y179 : Ty := ⟨.int .i32, 1, 4, [.int .i32 0], false⟩
theorem ty179 : TyAt Tryz.prog 179 y179 :=
  ⟨⟨Tryz.t179, _, by kernel_rfl, rfl, rfl, rfl, rfl, rfl, rfl⟩, ⟨_, Tryz.underlying179, by first | rfl | trivial⟩, fun h => by cases h⟩
abbrev y180 : Ty := ⟨.int .i32, 1, 4, [.int .i32 0], false⟩
theorem ty180 : TyAt Tryz.prog 180 y180 :=
  ⟨⟨Tryz.t180, _, by kernel_rfl, rfl, rfl, rfl, rfl, rfl, rfl⟩, ⟨_, Tryz.underlying180, by first | rfl | trivial⟩, fun h => by cases h⟩
abbrev y182 : Ty := ⟨.struct [(0, 12), (1, 12), (2, 111), (3, 175), (4, 5), (5, 5), (6, 176), (7, 177), (8, 178), (9, 179), (10, 180)], 11, 48, [.int .u64 0, .int .u64 0, .int .u32 0, .int .u8 0, .int .u8 0, .int .u8 0, .int .u8 0, .nilFunc, .pointer none, .int .i32 0, .int .i32 0], false⟩
theorem ty182 : TyAt Tryz.prog 182 y182 :=
  ⟨⟨Tryz.t182, _, by kernel_rfl, rfl, rfl, rfl, rfl, rfl, rfl⟩, ⟨_, Tryz.underlying182, by first | rfl | trivial⟩, fun h => by cases h⟩
def D : Tab := [none, some y1, some y2, some y3, some y4, some y5, some y6, some y7, some y8, some y9, none, some y11, some y12, none, none, none, none, some y17, none, none, none, some y21, some y22, none, some y24, none, none, none, none, none, some y30, none, none, none, none, none, some y36, none, none, some y39, none, none, none, none, none, none, none, some y47, none, none, none, none, none, none, none, none, none, none, none, none, none, some y61, none, some y63, none, some y65, none, none, none, some y69, none, none, none, none, none, none, some y76, none, none, none, none, none, some y82, none, none, none, none, none, none, none, some y90, none, none, some y93, none, none, none, none, none, none, none, none, none, some y103, none, none, none, none, some y108, some y109, none, some y111, none, none, none, none, none, none, none, none, none, some y121, none, none, none, none, some y126, none, none, none, none, none, none, none, none, none, none, none, none, none, none, none, none, none, none, none, none, none, none, none, none, none, none, none, none, some y155, none, none, none, none, none, none, none, none, none, none, none, none, none, none, none, none, none, none, none, some y175, some y176, some y177, some y178, some y179, some y180, none, some y182, none]
theorem Dk : TabOk Tryz.prog D := TyAll.ok ⟨ty1, ty2, ty3, ty4, ty5, ty6, ty7, ty8, ty9, ty11, ty12, ty17, ty21, ty22, ty24, ty30, ty36, ty39, ty47, ty61, ty63, ty65, ty69, ty76, ty82, ty90, ty93, ty103, ty108, ty109, ty111, ty121, ty126, ty155, ty175, ty176, ty177, ty178, ty179, ty180, ty182, trivial⟩
end Go.Proofs.Tryz

/-
  Models of the functions that this seat reaches.
-/
import Derived.Test.YtllanibkffnogaaTab
import Derived.Test.YtllanibkffnogaaCore6
namespace Go.Proofs.Try
open Go.Av
set_option maxRecDepth 100000
set_option maxHeartbeats 8000000
set_option linter.unusedSimpArgs false
set_option linter.unusedVariables false

abbrev GG : Nat → Option (List V) := fun _ => none
theorem mix : Try.prog.follows .mixedOrders = true := by kernel_rfl

structure SBind where
  Name : List UInt8
  Val : Int
  deriving DecidableEq, Inhabited

def encSBind (x : SBind) : List V := [V.str x.Name, V.int x.Val]

/-! ### laws.big -/
def m_laws_big (a0 : List UInt8) : Option Bool :=
  some (decide ((a0.length : Int) > 1048576))

/-! ### spec.l1New -/
def m_spec_l1New_l1 (N : Nat) : Nat → ((List UInt8) × Int × Int) → Option ((List UInt8) × Int × Int)
  | 0, _ => none
  | n1 + 1, (a0, y29, y30) => Option.bind (bif (decide (y30 < (a0.length : Int))) then some (decide (y30 < 4000)) else (some false)) fun y40 => bif y40 then Option.bind (ix a0 y30) fun e44 => (m_spec_l1New_l1 N n1) (a0, (bits .and .i64 (IntKind.wrap .i64 ((IntKind.wrap .i64 ((IntKind.wrap .i64 (y29 * 131)) + (IntKind.wrap .i64 ((e44).toNat : Int)))) + 7)) 1073741823), (IntKind.wrap .i64 (y30 + 1))) else (some (a0, 0, y29))
def m_spec_l1New (N : Nat) (a0 : List UInt8) : Option ((List UInt8) × Int × Int) :=
  m_spec_l1New_l1 N N (a0, (IntKind.wrap .i64 (10101 + (a0.length : Int))), 0)

/-! ### spec.l1Byte -/
def m_spec_l1Byte_k1 (p0_0 : List UInt8) : (Int × Int × Int) → Option (Int × Int × Int)
  | (p0_2, y3, y4) => some (y3, y4, (IntKind.wrap .i64 ((IntKind.wrap .i64 (p0_2 * 6364136223846793005)) + 1442695040888963407)))
def m_spec_l1Byte (p0_0 : List UInt8) (p0_1 : Int) (p0_2 : Int) : Option (Int × Int × Int) :=
  bif (decide (p0_1 < (p0_0.length : Int))) then Option.bind (ix p0_0 p0_1) fun e6 => m_spec_l1Byte_k1 p0_0 (p0_2, (bits .and .i64 (IntKind.wrap .i64 ((bits .and .i64 (bits .xor .i64 (Int.fdiv (IntKind.wrap .i64 ((IntKind.wrap .i64 (p0_2 * 6364136223846793005)) + 1442695040888963407)) (2 ^ (min 33 64))) (Int.fdiv (IntKind.wrap .i64 ((IntKind.wrap .i64 (p0_2 * 6364136223846793005)) + 1442695040888963407)) (2 ^ (min 45 64)))) 255) + (IntKind.wrap .i64 ((e6).toNat : Int)))) 255), (IntKind.wrap .i64 (p0_1 + 1))) else (m_spec_l1Byte_k1 p0_0 (p0_2, (bits .and .i64 (bits .xor .i64 (Int.fdiv (IntKind.wrap .i64 ((IntKind.wrap .i64 (p0_2 * 6364136223846793005)) + 1442695040888963407)) (2 ^ (min 33 64))) (Int.fdiv (IntKind.wrap .i64 ((IntKind.wrap .i64 (p0_2 * 6364136223846793005)) + 1442695040888963407)) (2 ^ (min 45 64)))) 255), p0_1))

/-! ### spec.l1Below -/
def m_spec_l1Below (a1 : Int) (p0_0 : List UInt8) (p0_1 : Int) (p0_2 : Int) : Option (Int × Int × Int) :=
  bif (decide (a1 ≤ 0)) then some (0, p0_1, p0_2) else (bif (decide (a1 ≤ 256)) then Option.bind (m_spec_l1Byte p0_0 p0_1 p0_2) fun r7 => Option.bind (remO r7.1 a1) fun x8 => some (x8, r7.2.1, r7.2.2) else (Option.bind (m_spec_l1Byte p0_0 p0_1 p0_2) fun r10 => Option.bind (m_spec_l1Byte p0_0 r10.2.1 r10.2.2) fun r12 => Option.bind (m_spec_l1Byte p0_0 r12.2.1 r12.2.2) fun r14 => Option.bind (m_spec_l1Byte p0_0 r14.2.1 r14.2.2) fun r16 => Option.bind (remO (IntKind.wrap .i64 ((IntKind.wrap .i64 ((IntKind.wrap .i64 ((IntKind.wrap .i64 (r10.1 * 16777216)) + (IntKind.wrap .i64 (r12.1 * 65536)))) + (IntKind.wrap .i64 (r14.1 * 256)))) + r16.1)) a1) fun x18 => some (x18, r16.2.1, r16.2.2)))

/-! ### spec.l1Pick -/
def m_spec_l1Pick (a1 : List (List UInt8)) (p0_0 : List UInt8) (p0_1 : Int) (p0_2 : Int) : Option ((List UInt8) × Int × Int) :=
  Option.bind (m_spec_l1Below (a1.length : Int) p0_0 p0_1 p0_2) fun r3 => Option.bind (ix a1 r3.1) fun e4 => some (e4, r3.2.1, r3.2.2)

/-! ### spec.SetVar -/
def m_spec_SetVar_k2 (N : Nat) (kb1 : ((List SBind) × (List UInt8) × Int × Bool × Int × (List SBind)) → Option (List SBind)) : ((List SBind) × (List UInt8) × Int × Int × Bool × (List SBind)) → Option (List SBind)
  | (a0, a1, a2, y168, y235, y236) => kb1 (a0, a1, a2, y235, (IntKind.wrap .i64 (y168 + 1)), y236)
def m_spec_SetVar_k3 (N : Nat) (kb1 : ((List SBind) × (List UInt8) × Int × Bool × Int × (List SBind)) → Option (List SBind)) : ((List SBind) × (List UInt8) × Int × Int × Bool × (List SBind)) → Option (List SBind)
  | (a0, a1, a2, y168, y246, y247) => Option.bind (ix a0 y168) fun e250 => Option.bind (app 24 y247 [e250]) fun x251 => m_spec_SetVar_k2 N kb1 (a0, a1, a2, y168, y246, x251)
def m_spec_SetVar_k4 (N : Nat) (kb1 : ((List SBind) × (List UInt8) × Int × Bool × Int × (List SBind)) → Option (List SBind)) : (List SBind) → Option (List SBind)
  | y259 => some y259
def m_spec_SetVar_l1 (N : Nat) : Nat → ((List SBind) × (List UInt8) × Int × Bool × Int × (List SBind)) → Option (List SBind)
  | 0, _ => none
  | n1 + 1, (a0, a1, a2, y167, y168, y169) => bif (decide (y168 < (a0.length : Int))) then Option.bind (ix a0 y168) fun e240 => bif (e240.Name == a1) then m_spec_SetVar_k2 N (m_spec_SetVar_l1 N n1) (a0, a1, a2, y168, y167, y169) else (Option.bind (bif (!y167) then Option.bind (ix a0 y168) fun e254 => some (!(Op.bytesLess e254.Name a1 || e254.Name == a1)) else (some false)) fun y253 => bif y253 then Option.bind (app 24 y169 [(⟨a1, a2⟩ : SBind)]) fun x256 => m_spec_SetVar_k3 N (m_spec_SetVar_l1 N n1) (a0, a1, a2, y168, true, x256) else (m_spec_SetVar_k3 N (m_spec_SetVar_l1 N n1) (a0, a1, a2, y168, y167, y169))) else (bif (!y167) then Option.bind (app 24 y169 [(⟨a1, a2⟩ : SBind)]) fun x261 => m_spec_SetVar_k4 N (m_spec_SetVar_l1 N n1) x261 else (m_spec_SetVar_k4 N (m_spec_SetVar_l1 N n1) y169))
def m_spec_SetVar (N : Nat) (a0 : List SBind) (a1 : List UInt8) (a2 : Int) : Option (List SBind) :=
  m_spec_SetVar_l1 N N (a0, a1, a2, false, 0, [])

/-! ### spec.l1Once -/
def m_spec_l1Once (a1 : Int) (p0_0 : List UInt8) (p0_1 : Int) (p0_2 : Int) : Option (Bool × Int × Int) :=
  Option.bind (m_spec_l1Below a1 p0_0 p0_1 p0_2) fun r2 => some ((r2.1 == 0), r2.2.1, r2.2.2)

/-! ### spec.l1PickInt -/
def m_spec_l1PickInt (a1 : List Int) (p0_0 : List UInt8) (p0_1 : Int) (p0_2 : Int) : Option (Int × Int × Int) :=
  Option.bind (m_spec_l1Below (a1.length : Int) p0_0 p0_1 p0_2) fun r3 => Option.bind (ix a1 r3.1) fun e4 => some (e4, r3.2.1, r3.2.2)

/-! ### spec.l27Env -/
def m_spec_l27Env_l1 (N : Nat) (p0_0 : List UInt8) : Nat → (Int × Int × Int × (List SBind)) → Option ((List SBind) × Int × Int)
  | 0, _ => none
  | n1 + 1, (y77, y78, y79, y80) => bif (decide (y77 > 0)) then Option.bind (m_spec_l1Pick [[120], [121], [110]] p0_0 y78 y79) fun r113 => Option.bind (m_spec_l1Below 100 p0_0 r113.2.1 r113.2.2) fun r114 => Option.bind (m_spec_l1PickInt [0, 1, (-1), 5, 1000000000, 1000000001, r114.1] p0_0 r114.2.1 r114.2.2) fun r115 => Option.bind (app 24 y80 [(⟨r113.1, r115.1⟩ : SBind)]) fun x116 => (m_spec_l27Env_l1 N p0_0 n1) ((IntKind.wrap .i64 (y77 - 1)), r115.2.1, r115.2.2, x116) else (some (y80, y78, y79))
def m_spec_l27Env (N : Nat) (p0_0 : List UInt8) (p0_1 : Int) (p0_2 : Int) : Option ((List SBind) × Int × Int) :=
  Option.bind (m_spec_l1Below 4 p0_0 p0_1 p0_2) fun r60 => m_spec_l27Env_l1 N p0_0 N (r60.1, r60.2.1, r60.2.2, [])

/-! ### spec.DrawSetVar -/
def m_spec_DrawSetVar_k2 (N : Nat) (kb1 : (((List UInt8) × Int × Int) × Int × Int × Int × (List SBind)) → Option ((List SBind) × (List UInt8) × Int)) : (((List UInt8) × Int × Int) × Int × Int × (List SBind)) → Option ((List SBind) × (List UInt8) × Int)
  | (r2, y99, y100, y101) => Option.bind (m_spec_l1Pick [[97], [107], [120], [122]] r2.1 y99 y100) fun r104 => Option.bind (m_spec_l1Below 99 r2.1 r104.2.1 r104.2.2) fun r105 => some (y101, r104.1, r105.1)
def m_spec_DrawSetVar_l1 (N : Nat) : Nat → (((List UInt8) × Int × Int) × Int × Int × Int × (List SBind)) → Option ((List SBind) × (List UInt8) × Int)
  | 0, _ => none
  | n1 + 1, (r2, y63, y64, y65, y66) => bif (decide (y63 > 0)) then Option.bind (m_spec_l1Pick [[97], [109], [120]] r2.1 y64 y65) fun r92 => Option.bind (m_spec_l1Below 9 r2.1 r92.2.1 r92.2.2) fun r93 => Option.bind (m_spec_SetVar N y66 r92.1 r93.1) fun r94 => (m_spec_DrawSetVar_l1 N n1) (r2, (IntKind.wrap .i64 (y63 - 1)), r93.2.1, r93.2.2, r94) else (Option.bind (m_spec_l1Once 6 r2.1 y64 y65) fun r107 => bif r107.1 then Option.bind (m_spec_l27Env N r2.1 r107.2.1 r107.2.2) fun r109 => m_spec_DrawSetVar_k2 N (m_spec_DrawSetVar_l1 N n1) (r2, r109.2.1, r109.2.2, r109.1) else (m_spec_DrawSetVar_k2 N (m_spec_DrawSetVar_l1 N n1) (r2, r107.2.1, r107.2.2, y66)))
def m_spec_DrawSetVar (N : Nat) (a0 : List UInt8) : Option ((List SBind) × (List UInt8) × Int) :=
  Option.bind (m_spec_l1New N a0) fun r2 => Option.bind (m_spec_l1Below 4 r2.1 r2.2.1 r2.2.2) fun r50 => m_spec_DrawSetVar_l1 N N (r2, r50.1, r50.2.1, r50.2.2, [])

/-! ### impl.Bind] -/
def m_slices_Clone_Bind (a0 : List SBind) : Option (List SBind) :=
  Option.bind (app 24 [] a0) fun x2 => some x2

/-! ### impl.SetVar$1 -/
def m_impl_SetVar_1 (a0 : SBind) (p0_0 : List UInt8) : Option Bool :=
  some (a0.Name == p0_0)

/-! ### impl.Bind] -/
def m_slices_IndexFunc_Bind_l1 (N : Nat) (p0 : List SBind) (p1_0 : List UInt8) : Nat → Int → Option Int
  | 0, _ => none
  | n1 + 1, y35 => bif (decide (y35 < (p0.length : Int))) then Option.bind (ix p0 y35) fun e51 => Option.bind (m_impl_SetVar_1 e51 p1_0) fun r52 => bif r52 then some y35 else ((m_slices_IndexFunc_Bind_l1 N p0 p1_0 n1) (IntKind.wrap .i64 (y35 + 1))) else (some (-1))
def m_slices_IndexFunc_Bind (N : Nat) (p0 : List SBind) (p1_0 : List UInt8) : Option Int :=
  m_slices_IndexFunc_Bind_l1 N p0 p1_0 N 0

/-! ### impl.Bind] -/
def m_slices_DeleteFunc_Bind_k2 (N : Nat) (p1_0 : List UInt8) (kb1 : (Int × Int × (List SBind)) → Option (List SBind)) : (Int × Int × (List SBind)) → Option (List SBind)
  | (y82, y113, y114) => kb1 (y113, (IntKind.wrap .i64 (y82 + 1)), y114)
def m_slices_DeleteFunc_Bind_l1 (N : Nat) (p1_0 : List UInt8) : Nat → (Int × Int × (List SBind)) → Option (List SBind)
  | 0, _ => none
  | n1 + 1, (y81, y82, y83) => bif (decide (y82 < (y83.length : Int))) then Option.bind (ix y83 y82) fun e116 => Option.bind (m_impl_SetVar_1 e116 p1_0) fun r118 => bif (!r118) then Option.bind (ix y83 y81) fun e121 => Option.bind (upd y83 y81 e116) fun x122 => m_slices_DeleteFunc_Bind_k2 N p1_0 (m_slices_DeleteFunc_Bind_l1 N p1_0 n1) (y82, (IntKind.wrap .i64 (y81 + 1)), x122) else (m_slices_DeleteFunc_Bind_k2 N p1_0 (m_slices_DeleteFunc_Bind_l1 N p1_0 n1) (y82, y81, y83)) else (Option.bind (cut y83 y81 (y83.length : Int)) fun l124 => Option.bind (cut (clr (⟨[], 0⟩ : SBind) y81.toNat y83) 0 y81) fun l126 => some l126)
def m_slices_DeleteFunc_Bind (N : Nat) (p0 : List SBind) (p1_0 : List UInt8) : Option (List SBind) :=
  Option.bind (m_slices_IndexFunc_Bind N p0 p1_0) fun r2 => bif (r2 == (-1)) then some p0 else (m_slices_DeleteFunc_Bind_l1 N p1_0 N (r2, (IntKind.wrap .i64 (r2 + 1)), p0))

/-! ### impl.SetVar$2 -/
def m_impl_SetVar_2 (a0 : SBind) (p0_0 : List UInt8) : Option Bool :=
  some (!(Op.bytesLess a0.Name p0_0 || a0.Name == p0_0))

/-! ### impl.Bind] -/
def m_slices_IndexFunc_Bind_v2_l1 (N : Nat) (p0 : List SBind) (p1_0 : List UInt8) : Nat → Int → Option Int
  | 0, _ => none
  | n1 + 1, y35 => bif (decide (y35 < (p0.length : Int))) then Option.bind (ix p0 y35) fun e51 => Option.bind (m_impl_SetVar_2 e51 p1_0) fun r52 => bif r52 then some y35 else ((m_slices_IndexFunc_Bind_v2_l1 N p0 p1_0 n1) (IntKind.wrap .i64 (y35 + 1))) else (some (-1))
def m_slices_IndexFunc_Bind_v2 (N : Nat) (p0 : List SBind) (p1_0 : List UInt8) : Option Int :=
  m_slices_IndexFunc_Bind_v2_l1 N p0 p1_0 N 0

/-! ### impl.Bind] -/
def m_slices_Insert_Bind (a1 : Int) (p0 : List SBind) (p1 : List SBind) : Option (List SBind) :=
  insO 24 a1 p0 p1

/-! ### impl.SetVar -/
def m_impl_SetVar_k1 (N : Nat) : (Int × (List UInt8) × (List SBind) × Int) → Option (List SBind)
  | (a2, a1, r4, y7) => Option.bind (m_slices_Insert_Bind y7 r4 [(⟨a1, a2⟩ : SBind)]) fun r9 => some r9
def m_impl_SetVar (N : Nat) (a0 : List SBind) (a1 : List UInt8) (a2 : Int) : Option (List SBind) :=
  Option.bind (m_slices_Clone_Bind a0) fun r3 => Option.bind (m_slices_DeleteFunc_Bind N r3 a1) fun r4 => Option.bind (m_slices_IndexFunc_Bind_v2 N r4 a1) fun r6 => bif (decide (r6 < 0)) then m_impl_SetVar_k1 N (a2, a1, r4, (r4.length : Int)) else (m_impl_SetVar_k1 N (a2, a1, r4, r6))

/-! ### impl.VarOf -/
def m_impl_VarOf_l1 (N : Nat) : Nat → ((List UInt8) × (List SBind) × Int) → Option Int
  | 0, _ => none
  | n1 + 1, (a1, a0, y19) => bif (decide (y19 < (a0.length : Int))) then Option.bind (ix a0 y19) fun e28 => bif (e28.Name == a1) then some e28.Val else ((m_impl_VarOf_l1 N n1) (a1, a0, (IntKind.wrap .i64 (y19 + 1)))) else (some 0)
def m_impl_VarOf (N : Nat) (a0 : List SBind) (a1 : List UInt8) : Option Int :=
  m_impl_VarOf_l1 N N (a1, a0, 0)

/-! ### spec.VarOf -/
def m_spec_VarOf_l1 (N : Nat) : Nat → ((List SBind) × (List UInt8) × Int) → Option Int
  | 0, _ => none
  | n1 + 1, (a0, a1, y35) => bif (decide (y35 < (a0.length : Int))) then Option.bind (ix a0 y35) fun e50 => bif (e50.Name == a1) then Option.bind (ix a0 y35) fun e52 => some e52.Val else ((m_spec_VarOf_l1 N n1) (a0, a1, (IntKind.wrap .i64 (y35 + 1)))) else (some 0)
def m_spec_VarOf (N : Nat) (a0 : List SBind) (a1 : List UInt8) : Option Int :=
  m_spec_VarOf_l1 N N (a0, a1, 0)

/-! ### laws.FnVars -/
def m_laws_FnVars_l1 (N : Nat) : Nat → (((List SBind) × (List UInt8) × Int) × (List SBind) × Int) → Option Bool
  | 0, _ => none
  | n1 + 1, (r6, r8, y99) => bif (decide (y99 < 7)) then Option.bind (Option.bind (ix [[97], [107], [109], [110], [120], [121], [122]] y99) fun e140 => bif (!(e140 == r6.2.1)) then Option.bind (ix [[97], [107], [109], [110], [120], [121], [122]] y99) fun e141 => Option.bind (m_impl_VarOf N r8 e141) fun r142 => Option.bind (ix [[97], [107], [109], [110], [120], [121], [122]] y99) fun e143 => Option.bind (m_spec_VarOf N r6.1 e143) fun r144 => some (r142 != r144) else (some false)) fun y139 => bif y139 then some false else ((m_laws_FnVars_l1 N n1) (r6, r8, (IntKind.wrap .i64 (y99 + 1)))) else (Option.bind (m_impl_SetVar N r8 r6.2.1 r6.2.2) fun r146 => Option.bind (Option.bind (m_impl_VarOf N r8 r6.2.1) fun r149 => bif (r149 == r6.2.2) then bif (decide ((r8.length : Int) ≤ (IntKind.wrap .i64 ((r6.1.length : Int) + 1)))) then some ((r146.length : Int) == (r8.length : Int)) else (some false) else (some false)) fun y148 => some y148)
def m_laws_FnVars (N : Nat) (a0 : List UInt8) : Option Bool :=
  Option.bind (m_laws_big a0) fun r4 => bif r4 then some true else (Option.bind (m_spec_DrawSetVar N a0) fun r6 => Option.bind (m_impl_SetVar N r6.1 r6.2.1 r6.2.2) fun r8 => m_laws_FnVars_l1 N N (r6, r8, 0))

end Go.Proofs.Try

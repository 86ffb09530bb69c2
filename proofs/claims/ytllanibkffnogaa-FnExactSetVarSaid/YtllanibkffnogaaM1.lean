/-
  Models of the functions that this seat reaches.
-/
import Derived.Test.YtllanibkffnogaaTab
import Derived.Test.YtllanibkffnogaaCore6
namespace Go.Proofs.Try
open Go.Av
set_option maxRecDepth 100000
set_option maxHeartbeats 8000000
set_option linter.unusedSimpArgs false
set_option linter.unusedVariables false

abbrev GG : Nat → Option (List V) := fun _ => none
theorem mix : Try.prog.follows .mixedOrders = true := by kernel_rfl

structure SBind where
  Name : List UInt8
  Val : Int
  deriving DecidableEq, Inhabited

def encSBind (x : SBind) : List V := [V.str x.Name, V.int x.Val]

/-! ### laws.szBind -/
def m_laws_szBind (a0 : SBind) (a1 : Int) : Option Int :=
  bif (decide ((IntKind.wrap .i64 (a1 - (a0.Name.length : Int))) < 0)) then some (-1) else (some (IntKind.wrap .i64 (a1 - (a0.Name.length : Int))))

/-! ### laws.szBindS -/
def m_laws_szBindS_l1 (N : Nat) : Nat → ((List SBind) × Int × Int) → Option Int
  | 0, _ => none
  | n1 + 1, (a0, y37, y38) => bif (decide (y38 < (a0.length : Int))) then Option.bind (ix a0 y38) fun e55 => Option.bind (m_laws_szBind e55 y37) fun r56 => bif (decide (r56 < 0)) then some (-1) else ((m_laws_szBindS_l1 N n1) (a0, r56, (IntKind.wrap .i64 (y38 + 1)))) else (some y37)
def m_laws_szBindS (N : Nat) (a0 : List SBind) (a1 : Int) : Option Int :=
  bif (decide ((IntKind.wrap .i64 (a1 - (a0.length : Int))) < 0)) then some (-1) else (m_laws_szBindS_l1 N N (a0, (IntKind.wrap .i64 (a1 - (a0.length : Int))), 0))

/-! ### laws.toBind -/
def m_laws_toBind (a0 : SBind) : Option SBind :=
  some a0

/-! ### laws.toBindS -/
def m_laws_toBindS_l1 (N : Nat) : Nat → ((List SBind) × Int × (List SBind)) → Option (List SBind)
  | 0, _ => none
  | n1 + 1, (a0, y71, y72) => bif (decide (y71 < (a0.length : Int))) then Option.bind (ix a0 y71) fun e103 => Option.bind (m_laws_toBind e103) fun r104 => Option.bind (ix y72 y71) fun e105 => Option.bind (upd y72 y71 r104) fun x106 => (m_laws_toBindS_l1 N n1) (a0, (IntKind.wrap .i64 (y71 + 1)), x106) else (some y72)
def m_laws_toBindS (N : Nat) (a0 : List SBind) : Option (List SBind) :=
  Option.bind (mk 24 (⟨[], 0⟩ : SBind) (a0.length : Int)) fun x2 => m_laws_toBindS_l1 N N (a0, 0, x2)

/-! ### spec.SetVar -/
def m_spec_SetVar_k2 (N : Nat) (kb1 : ((List SBind) × (List UInt8) × Int × Bool × Int × (List SBind)) → Option (List SBind)) : ((List SBind) × (List UInt8) × Int × Int × Bool × (List SBind)) → Option (List SBind)
  | (a0, a1, a2, y168, y235, y236) => kb1 (a0, a1, a2, y235, (IntKind.wrap .i64 (y168 + 1)), y236)
def m_spec_SetVar_k3 (N : Nat) (kb1 : ((List SBind) × (List UInt8) × Int × Bool × Int × (List SBind)) → Option (List SBind)) : ((List SBind) × (List UInt8) × Int × Int × Bool × (List SBind)) → Option (List SBind)
  | (a0, a1, a2, y168, y246, y247) => Option.bind (ix a0 y168) fun e250 => Option.bind (app 24 y247 [e250]) fun x251 => m_spec_SetVar_k2 N kb1 (a0, a1, a2, y168, y246, x251)
def m_spec_SetVar_k4 (N : Nat) (kb1 : ((List SBind) × (List UInt8) × Int × Bool × Int × (List SBind)) → Option (List SBind)) : (List SBind) → Option (List SBind)
  | y259 => some y259
def m_spec_SetVar_l1 (N : Nat) : Nat → ((List SBind) × (List UInt8) × Int × Bool × Int × (List SBind)) → Option (List SBind)
  | 0, _ => none
  | n1 + 1, (a0, a1, a2, y167, y168, y169) => bif (decide (y168 < (a0.length : Int))) then Option.bind (ix a0 y168) fun e240 => bif (e240.Name == a1) then m_spec_SetVar_k2 N (m_spec_SetVar_l1 N n1) (a0, a1, a2, y168, y167, y169) else (Option.bind (bif (!y167) then Option.bind (ix a0 y168) fun e254 => some (!(Op.bytesLess e254.Name a1 || e254.Name == a1)) else (some false)) fun y253 => bif y253 then Option.bind (app 24 y169 [(⟨a1, a2⟩ : SBind)]) fun x256 => m_spec_SetVar_k3 N (m_spec_SetVar_l1 N n1) (a0, a1, a2, y168, true, x256) else (m_spec_SetVar_k3 N (m_spec_SetVar_l1 N n1) (a0, a1, a2, y168, y167, y169))) else (bif (!y167) then Option.bind (app 24 y169 [(⟨a1, a2⟩ : SBind)]) fun x261 => m_spec_SetVar_k4 N (m_spec_SetVar_l1 N n1) x261 else (m_spec_SetVar_k4 N (m_spec_SetVar_l1 N n1) y169))
def m_spec_SetVar (N : Nat) (a0 : List SBind) (a1 : List UInt8) (a2 : Int) : Option (List SBind) :=
  m_spec_SetVar_l1 N N (a0, a1, a2, false, 0, [])

/-! ### impl.Bind] -/
def m_slices_Clone_Bind (a0 : List SBind) : Option (List SBind) :=
  Option.bind (app 24 [] a0) fun x2 => some x2

/-! ### impl.SetVar$1 -/
def m_impl_SetVar_1 (a0 : SBind) (p0_0 : List UInt8) : Option Bool :=
  some (a0.Name == p0_0)

/-! ### impl.Bind] -/
def m_slices_IndexFunc_Bind_l1 (N : Nat) (p0 : List SBind) (p1_0 : List UInt8) : Nat → Int → Option Int
  | 0, _ => none
  | n1 + 1, y35 => bif (decide (y35 < (p0.length : Int))) then Option.bind (ix p0 y35) fun e51 => Option.bind (m_impl_SetVar_1 e51 p1_0) fun r52 => bif r52 then some y35 else ((m_slices_IndexFunc_Bind_l1 N p0 p1_0 n1) (IntKind.wrap .i64 (y35 + 1))) else (some (-1))
def m_slices_IndexFunc_Bind (N : Nat) (p0 : List SBind) (p1_0 : List UInt8) : Option Int :=
  m_slices_IndexFunc_Bind_l1 N p0 p1_0 N 0

/-! ### impl.Bind] -/
def m_slices_DeleteFunc_Bind_k2 (N : Nat) (p1_0 : List UInt8) (kb1 : (Int × Int × (List SBind)) → Option (List SBind)) : (Int × Int × (List SBind)) → Option (List SBind)
  | (y82, y113, y114) => kb1 (y113, (IntKind.wrap .i64 (y82 + 1)), y114)
def m_slices_DeleteFunc_Bind_l1 (N : Nat) (p1_0 : List UInt8) : Nat → (Int × Int × (List SBind)) → Option (List SBind)
  | 0, _ => none
  | n1 + 1, (y81, y82, y83) => bif (decide (y82 < (y83.length : Int))) then Option.bind (ix y83 y82) fun e116 => Option.bind (m_impl_SetVar_1 e116 p1_0) fun r118 => bif (!r118) then Option.bind (ix y83 y81) fun e121 => Option.bind (upd y83 y81 e116) fun x122 => m_slices_DeleteFunc_Bind_k2 N p1_0 (m_slices_DeleteFunc_Bind_l1 N p1_0 n1) (y82, (IntKind.wrap .i64 (y81 + 1)), x122) else (m_slices_DeleteFunc_Bind_k2 N p1_0 (m_slices_DeleteFunc_Bind_l1 N p1_0 n1) (y82, y81, y83)) else (Option.bind (cut y83 y81 (y83.length : Int)) fun l124 => Option.bind (cut (clr (⟨[], 0⟩ : SBind) y81.toNat y83) 0 y81) fun l126 => some l126)
def m_slices_DeleteFunc_Bind (N : Nat) (p0 : List SBind) (p1_0 : List UInt8) : Option (List SBind) :=
  Option.bind (m_slices_IndexFunc_Bind N p0 p1_0) fun r2 => bif (r2 == (-1)) then some p0 else (m_slices_DeleteFunc_Bind_l1 N p1_0 N (r2, (IntKind.wrap .i64 (r2 + 1)), p0))

/-! ### impl.SetVar$2 -/
def m_impl_SetVar_2 (a0 : SBind) (p0_0 : List UInt8) : Option Bool :=
  some (!(Op.bytesLess a0.Name p0_0 || a0.Name == p0_0))

/-! ### impl.Bind] -/
def m_slices_IndexFunc_Bind_v2_l1 (N : Nat) (p0 : List SBind) (p1_0 : List UInt8) : Nat → Int → Option Int
  | 0, _ => none
  | n1 + 1, y35 => bif (decide (y35 < (p0.length : Int))) then Option.bind (ix p0 y35) fun e51 => Option.bind (m_impl_SetVar_2 e51 p1_0) fun r52 => bif r52 then some y35 else ((m_slices_IndexFunc_Bind_v2_l1 N p0 p1_0 n1) (IntKind.wrap .i64 (y35 + 1))) else (some (-1))
def m_slices_IndexFunc_Bind_v2 (N : Nat) (p0 : List SBind) (p1_0 : List UInt8) : Option Int :=
  m_slices_IndexFunc_Bind_v2_l1 N p0 p1_0 N 0

/-! ### impl.Bind] -/
def m_slices_Insert_Bind (a1 : Int) (p0 : List SBind) (p1 : List SBind) : Option (List SBind) :=
  insO 24 a1 p0 p1

/-! ### impl.SetVar -/
def m_impl_SetVar_k1 (N : Nat) : (Int × (List UInt8) × (List SBind) × Int) → Option (List SBind)
  | (a2, a1, r4, y7) => Option.bind (m_slices_Insert_Bind y7 r4 [(⟨a1, a2⟩ : SBind)]) fun r9 => some r9
def m_impl_SetVar (N : Nat) (a0 : List SBind) (a1 : List UInt8) (a2 : Int) : Option (List SBind) :=
  Option.bind (m_slices_Clone_Bind a0) fun r3 => Option.bind (m_slices_DeleteFunc_Bind N r3 a1) fun r4 => Option.bind (m_slices_IndexFunc_Bind_v2 N r4 a1) fun r6 => bif (decide (r6 < 0)) then m_impl_SetVar_k1 N (a2, a1, r4, (r4.length : Int)) else (m_impl_SetVar_k1 N (a2, a1, r4, r6))

/-! ### laws.eqBind -/
def m_laws_eqBind (a0 : SBind) (a1 : SBind) : Option Bool :=
  bif (!(a0.Name == a1.Name)) then some false else (bif (a0.Val != a1.Val) then some false else (some true))

/-! ### laws.eqBindS -/
def m_laws_eqBindS_l1 (N : Nat) : Nat → ((List SBind) × (List SBind) × Int) → Option Bool
  | 0, _ => none
  | n1 + 1, (a0, a1, y51) => bif (decide (y51 < (a0.length : Int))) then Option.bind (ix a0 y51) fun e74 => Option.bind (ix a1 y51) fun e75 => Option.bind (m_laws_eqBind e74 e75) fun r76 => bif (!r76) then some false else ((m_laws_eqBindS_l1 N n1) (a0, a1, (IntKind.wrap .i64 (y51 + 1)))) else (some true)
def m_laws_eqBindS (N : Nat) (a0 : List SBind) (a1 : List SBind) : Option Bool :=
  bif ((a0.length : Int) != (a1.length : Int)) then some false else (m_laws_eqBindS_l1 N N (a0, a1, 0))

/-! ### laws.markText -/
def m_laws_markText_l1 (N : Nat) : Nat → (Int × (List UInt8)) → Option (List UInt8)
  | 0, _ => none
  | n1 + 1, (y13, y14) => bif (decide (y13 > 0)) then Option.bind (cat [(bytI (IntKind.wrap .i64 (48 + (Int.tmod y13 10))))] y14) fun s20 => (m_laws_markText_l1 N n1) ((IntKind.wrap .i64 (Int.tdiv y13 10)), s20) else (Option.bind (cat ([109] : List UInt8) y14) fun s22 => some s22)
def m_laws_markText (N : Nat) (a0 : Int) : Option (List UInt8) :=
  bif (decide (a0 ≤ 0)) then some [109, 48] else (m_laws_markText_l1 N N (a0, []))

/-! ### laws.markBindS -/
def m_laws_markBindS_l1 (N : Nat) : Nat → (Int × Int × (List SBind)) → Option (Int × (List SBind))
  | 0, _ => none
  | n1 + 1, (y87, y88, y89) => bif (decide (y88 < (y89.length : Int))) then Option.bind (m_laws_markText N y87) fun r126 => Option.bind (ix y89 y88) fun e127 => Option.bind (upd y89 y88 (⟨r126, e127.Val⟩ : SBind)) fun x128 => Option.bind (ix x128 y88) fun e131 => Option.bind (upd x128 y88 (⟨e131.Name, (IntKind.wrap .i64 (y87 + 1))⟩ : SBind)) fun x132 => (m_laws_markBindS_l1 N n1) ((IntKind.wrap .i64 ((IntKind.wrap .i64 (y87 + 1)) + 1)), (IntKind.wrap .i64 (y88 + 1)), x132) else (some (y87, y89))
def m_laws_markBindS (N : Nat) (a1 : Int) (p0 : List SBind) : Option (Int × (List SBind)) :=
  m_laws_markBindS_l1 N N (a1, 0, p0)

/-! ### laws.heldBindS -/
def m_laws_heldBindS_l1 (N : Nat) : Nat → ((List SBind) × Int × Int) → Option Int
  | 0, _ => none
  | n1 + 1, (a0, y101, y102) => bif (decide (y102 < (a0.length : Int))) then Option.bind (ix a0 y102) fun e147 => Option.bind (m_laws_markText N y101) fun r148 => bif (!(e147.Name == r148)) then some (-1) else (Option.bind (ix a0 y102) fun e152 => bif (e152.Val != (IntKind.wrap .i64 (y101 + 1))) then some (-1) else ((m_laws_heldBindS_l1 N n1) (a0, (IntKind.wrap .i64 ((IntKind.wrap .i64 (y101 + 1)) + 1)), (IntKind.wrap .i64 (y102 + 1))))) else (some y101)
def m_laws_heldBindS (N : Nat) (a0 : List SBind) (a1 : Int) : Option Int :=
  m_laws_heldBindS_l1 N N (a0, a1, 0)

/-! ### laws.FnExactSetVar -/
def m_laws_FnExactSetVar (N : Nat) (a0 : List SBind) (a1 : List UInt8) (a2 : Int) : Option Bool :=
  bif (decide ((a1.length : Int) > 1048576)) then some true else (Option.bind (m_laws_szBindS N a0 1048576) fun r2 => bif (decide (r2 < 0)) then some true else (Option.bind (m_laws_toBindS N a0) fun r5 => Option.bind (m_spec_SetVar N r5 a1 a2) fun r6 => Option.bind (m_laws_toBindS N a0) fun r8 => Option.bind (m_impl_SetVar N r8 a1 a2) fun r10 => Option.bind (m_laws_eqBindS N r10 r6) fun r14 => bif (!r14) then some false else (Option.bind (m_laws_toBindS N a0) fun r21 => Option.bind (m_laws_eqBindS N r8 r21) fun r22 => bif (!r22) then some false else (Option.bind (m_laws_markBindS N 1 r8) fun r24 => Option.bind (bif (decide (r24.1 < 0)) then some true else (Option.bind (m_laws_eqBindS N r10 r6) fun r30 => some (!r30))) fun y29 => bif y29 then some false else (Option.bind (m_laws_markBindS N 1 r10) fun r32 => Option.bind (m_laws_heldBindS N r32.2 1) fun r34 => bif (decide (r34 < 0)) then some false else (bif (r34 != r32.1) then some false else (Option.bind (m_laws_toBindS N a0) fun r37 => Option.bind (m_impl_SetVar N r37 a1 a2) fun r38 => Option.bind (m_laws_eqBindS N r38 r6) fun r42 => bif (!r42) then some false else (Option.bind (m_laws_heldBindS N r32.2 1) fun r44 => bif (decide (r44 < 0)) then some false else (bif (r44 != r32.1) then some false else (some true))))))))))

end Go.Proofs.Try

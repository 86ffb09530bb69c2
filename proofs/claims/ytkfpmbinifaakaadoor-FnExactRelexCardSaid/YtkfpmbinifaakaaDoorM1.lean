/-
  Models of the functions that this seat reaches.
-/
import Derived.Test.YtkfpmbinifaakaaDoorTab
import Derived.Test.YtkfpmbinifaakaaDoorCore41
namespace Go.Proofs.Tryd
open Go.Av
set_option maxRecDepth 100000

def tab_builtins : List (List UInt8) := [[97, 116, 97, 110, 50], [99, 108, 111, 115, 101], [99, 111, 115], [101, 120, 112], [103, 115, 117, 98], [105, 110, 100, 101, 120], [105, 110, 116], [108, 101, 110, 103, 116, 104], [108, 111, 103], [109, 97, 116, 99, 104], [114, 97, 110, 100], [115, 105, 110], [115, 112, 108, 105, 116], [115, 112, 114, 105, 110, 116, 102], [115, 113, 114, 116], [115, 114, 97, 110, 100], [115, 117, 98], [115, 117, 98, 115, 116, 114], [115, 121, 115, 116, 101, 109], [116, 111, 108, 111, 119, 101, 114], [116, 111, 117, 112, 112, 101, 114]]
def tab_keywords : List (List UInt8) := [[66, 69, 71, 73, 78], [69, 78, 68], [102, 117, 110, 99, 116, 105, 111, 110], [105, 102], [101, 108, 115, 101], [119, 104, 105, 108, 101], [102, 111, 114], [100, 111], [98, 114, 101, 97, 107], [99, 111, 110, 116, 105, 110, 117, 101], [110, 101, 120, 116], [101, 120, 105, 116], [114, 101, 116, 117, 114, 110], [100, 101, 108, 101, 116, 101], [105, 110], [112, 114, 105, 110, 116], [112, 114, 105, 110, 116, 102]]
def tab_signs : List (List UInt8) := [[123], [125], [40], [41], [91], [93], [44], [59], [43, 61], [45, 61], [42, 61], [47, 61], [37, 61], [94, 61], [124, 124], [38, 38], [33, 126], [61, 61], [60, 61], [62, 61], [33, 61], [43, 43], [45, 45], [62, 62], [61], [43], [45], [42], [47], [37], [94], [33], [62], [60], [124], [63], [58], [126], [36]]
def GG : Nat → Option (List V)
  | 0 => some (tab_builtins.map V.str)
  | 1 => some (tab_keywords.map V.str)
  | 2 => some (tab_signs.map V.str)
  | _ => none
def GS (l : List Nat) (g : Nat) : Option (List V) := bif l.contains g then GG g else none

theorem AC.gs {f : FuncId} {vs : List V} {H : Hp} {r : V} {H1 : Hp} {l l1 : List Nat} (h : AC Tryd.prog (GS l) f vs H r H1) (hs : (l.all fun g => l1.contains g) = true) : AC Tryd.prog (GS l1) f vs H r H1 := by
  refine Go.Av.AC.mono h fun g cs hg => ?_
  unfold GS at hg ⊢
  cases hc : l.contains g with
  | false => rw [hc] at hg; cases hg
  | true =>
    rw [hc] at hg
    have := List.all_eq_true.1 hs g (List.contains_iff_mem.1 hc)
    rw [this]
    exact hg

theorem mix : Tryd.prog.follows .mixedOrders = true := by kernel_rfl

structure SToken where
  Kind : Int
  Text : List UInt8
  At : Int
  deriving DecidableEq, Inhabited

def encSToken (x : SToken) : List V := [V.int x.Kind, V.str x.Text, V.int x.At]

structure SFault where
  Kind : Int
  At : Int
  deriving DecidableEq, Inhabited

def encSFault (x : SFault) : List V := [V.int x.Kind, V.int x.At]

/-! ### laws.szToken -/
def m_laws_szToken (a0 : SToken) (a1 : Int) : Option Int :=
  bif (decide ((IntKind.wrap .i64 (a1 - (a0.Text.length : Int))) < 0)) then some (-1) else (some (IntKind.wrap .i64 (a1 - (a0.Text.length : Int))))

/-! ### laws.szTokenS -/
def m_laws_szTokenS_l1 (N : Nat) : Nat → ((List SToken) × Int × Int) → Option Int
  | 0, _ => none
  | n1 + 1, (a0, y37, y38) => bif (decide (y38 < (a0.length : Int))) then Option.bind (ix a0 y38) fun e55 => Option.bind (m_laws_szToken e55 y37) fun r56 => bif (decide (r56 < 0)) then some (-1) else ((m_laws_szTokenS_l1 N n1) (a0, r56, (IntKind.wrap .i64 (y38 + 1)))) else (some y37)
def m_laws_szTokenS (N : Nat) (a0 : List SToken) (a1 : Int) : Option Int :=
  bif (decide ((IntKind.wrap .i64 (a1 - (a0.length : Int))) < 0)) then some (-1) else (m_laws_szTokenS_l1 N N (a0, (IntKind.wrap .i64 (a1 - (a0.length : Int))), 0))

/-! ### laws.toToken -/
def m_laws_toToken (a0 : SToken) : Option SToken :=
  some a0

/-! ### laws.toTokenS -/
def m_laws_toTokenS_l1 (N : Nat) : Nat → ((List SToken) × Int × (List SToken)) → Option (List SToken)
  | 0, _ => none
  | n1 + 1, (a0, y71, y72) => bif (decide (y71 < (a0.length : Int))) then Option.bind (ix a0 y71) fun e103 => Option.bind (m_laws_toToken e103) fun r104 => Option.bind (ix y72 y71) fun e105 => Option.bind (upd y72 y71 r104) fun x106 => (m_laws_toTokenS_l1 N n1) (a0, (IntKind.wrap .i64 (y71 + 1)), x106) else (some y72)
def m_laws_toTokenS (N : Nat) (a0 : List SToken) : Option (List SToken) :=
  Option.bind (mk 32 (⟨0, [], 0⟩ : SToken) (a0.length : Int)) fun x2 => m_laws_toTokenS_l1 N N (a0, 0, x2)

/-! ### spec.OpLevel -/
def m_spec_OpLevel_k4 : (Int × Bool) → Option Int
  | (a0, y8) => bif y8 then some 10 else (bif (a0 == 60) then some 12 else (some 0))
def m_spec_OpLevel_k3 : (Int × Bool) → Option Int
  | (a0, y7) => bif y7 then some 9 else (bif (a0 == 57) then m_spec_OpLevel_k4 (a0, (a0 == 57)) else (bif (a0 == 58) then m_spec_OpLevel_k4 (a0, (a0 == 58)) else (m_spec_OpLevel_k4 (a0, (a0 == 59)))))
def m_spec_OpLevel_k2 : (Int × Bool) → Option Int
  | (a0, y6) => bif y6 then some 7 else (bif (a0 == 99) then some 8 else (bif (a0 == 55) then m_spec_OpLevel_k3 (a0, (a0 == 55)) else (m_spec_OpLevel_k3 (a0, (a0 == 56)))))
def m_spec_OpLevel_k1 : (Int × Bool) → Option Int
  | (a0, y5) => bif y5 then some 6 else (bif (a0 == 63) then m_spec_OpLevel_k2 (a0, (a0 == 63)) else (bif (a0 == 48) then m_spec_OpLevel_k2 (a0, (a0 == 48)) else (bif (a0 == 47) then m_spec_OpLevel_k2 (a0, (a0 == 47)) else (bif (a0 == 50) then m_spec_OpLevel_k2 (a0, (a0 == 50)) else (bif (a0 == 62) then m_spec_OpLevel_k2 (a0, (a0 == 62)) else (m_spec_OpLevel_k2 (a0, (a0 == 49))))))))
def m_spec_OpLevel (a0 : Int) : Option Int :=
  bif (a0 == 44) then some 3 else (bif (a0 == 45) then some 4 else (bif (a0 == 67) then m_spec_OpLevel_k1 (a0, (a0 == 67)) else (m_spec_OpLevel_k1 (a0, (a0 == 46)))))

/-! ### spec.l4Plain -/
def m_spec_l4Plain_l1 (N : Nat) : Nat → ((List UInt8) × Int) → Option Bool
  | 0, _ => none
  | n1 + 1, (a0, y19) => bif (decide (y19 < (a0.length : Int))) then Option.bind (ix a0 y19) fun b28 => bif (((b28).toNat : Int) == 10) then some false else ((m_spec_l4Plain_l1 N n1) (a0, (IntKind.wrap .i64 (y19 + 1)))) else (some true)
def m_spec_l4Plain (N : Nat) (a0 : List UInt8) : Option Bool :=
  m_spec_l4Plain_l1 N N (a0, 0)

/-! ### spec.l4Byte -/
def m_spec_l4Byte (a0 : List UInt8) (a1 : Int) : Option Int :=
  Option.bind (bif (decide (a1 < 0)) then some true else (some (decide (a1 ≥ (a0.length : Int))))) fun y2 => bif y2 then some (-1) else (Option.bind (ix a0 a1) fun b4 => some (IntKind.wrap .i64 ((b4).toNat : Int)))

/-! ### spec.l1In -/
def m_spec_l1In (a0 : Int) (a1 : Int) (a2 : Int) : Option Bool :=
  Option.bind (bif (decide (a0 ≥ a1)) then some (decide (a0 ≤ a2)) else (some false)) fun y1 => some y1

/-! ### spec.IsDigit -/
def m_spec_IsDigit (a0 : Int) : Option Bool :=
  Option.bind (m_spec_l1In a0 48 57) fun r2 => some r2

/-! ### spec.l4Digits -/
def m_spec_l4Digits_l1 (N : Nat) : Nat → ((List UInt8) × Int) → Option Int
  | 0, _ => none
  | n1 + 1, (a0, a1) => Option.bind (m_spec_l4Byte a0 a1) fun r33 => Option.bind (m_spec_IsDigit r33) fun r34 => bif r34 then (m_spec_l4Digits_l1 N n1) (a0, (IntKind.wrap .i64 (a1 + 1))) else (some a1)
def m_spec_l4Digits (N : Nat) (a0 : List UInt8) (a1 : Int) : Option Int :=
  m_spec_l4Digits_l1 N N (a0, a1)

/-! ### spec.NumEnd -/
def m_spec_NumEnd_k2 (N : Nat) : Int → Option Int
  | y9 => some y9
def m_spec_NumEnd_k3 (N : Nat) : ((List UInt8) × Int × Int) → Option Int
  | (a0, y9, y40) => Option.bind (m_spec_l4Digits N a0 y40) fun r42 => bif (decide (r42 > y40)) then Option.bind (m_spec_l4Digits N a0 y40) fun r44 => some r44 else (m_spec_NumEnd_k2 N y9)
def m_spec_NumEnd_k1 (N : Nat) : ((List UInt8) × Int × Int) → Option Int
  | (a0, a1, y9) => bif (y9 == a1) then some (-1) else (Option.bind (Option.bind (m_spec_l4Byte a0 y9) fun r33 => bif (r33 == 101) then some true else (Option.bind (m_spec_l4Byte a0 y9) fun r34 => some (r34 == 69))) fun y32 => bif y32 then Option.bind (Option.bind (m_spec_l4Byte a0 (IntKind.wrap .i64 (y9 + 1))) fun r48 => bif (r48 == 43) then some true else (Option.bind (m_spec_l4Byte a0 (IntKind.wrap .i64 (y9 + 1))) fun r49 => some (r49 == 45))) fun y47 => bif y47 then m_spec_NumEnd_k3 N (a0, y9, (IntKind.wrap .i64 ((IntKind.wrap .i64 (y9 + 1)) + 1))) else (m_spec_NumEnd_k3 N (a0, y9, (IntKind.wrap .i64 (y9 + 1)))) else (m_spec_NumEnd_k2 N y9))
def m_spec_NumEnd (N : Nat) (a0 : List UInt8) (a1 : Int) : Option Int :=
  bif (decide (a1 < 0)) then some (-1) else (Option.bind (m_spec_l4Digits N a0 a1) fun r2 => Option.bind (m_spec_l4Byte a0 r2) fun r51 => bif (r51 == 46) then Option.bind (m_spec_l4Digits N a0 (IntKind.wrap .i64 (r2 + 1))) fun r53 => Option.bind (bif (r2 == a1) then some (r53 == (IntKind.wrap .i64 (r2 + 1))) else (some false)) fun y55 => bif y55 then some (-1) else (m_spec_NumEnd_k1 N (a0, a1, r53)) else (m_spec_NumEnd_k1 N (a0, a1, r2)))

/-! ### spec.l4Quoted -/
def m_spec_l4Quoted_k2 (N : Nat) (kb1 : ((List UInt8) × Int × Int) → Option Int) : ((List UInt8) × Int × Int) → Option Int
  | (a0, a2, y58) => kb1 (a0, a2, (IntKind.wrap .i64 (y58 + 1)))
def m_spec_l4Quoted_l1 (N : Nat) : Nat → ((List UInt8) × Int × Int) → Option Int
  | 0, _ => none
  | n1 + 1, (a0, a2, y43) => bif (decide (y43 < (a0.length : Int))) then Option.bind (ix a0 y43) fun b60 => bif ((IntKind.wrap .i64 ((b60).toNat : Int)) == a2) then some (IntKind.wrap .i64 (y43 + 1)) else (bif ((IntKind.wrap .i64 ((b60).toNat : Int)) == 10) then some (-1) else (bif ((IntKind.wrap .i64 ((b60).toNat : Int)) == 92) then Option.bind (m_spec_l4Byte a0 (IntKind.wrap .i64 (y43 + 1))) fun r62 => bif (r62 == 10) then some (-1) else (m_spec_l4Quoted_k2 N (m_spec_l4Quoted_l1 N n1) (a0, a2, (IntKind.wrap .i64 (y43 + 1)))) else (m_spec_l4Quoted_k2 N (m_spec_l4Quoted_l1 N n1) (a0, a2, y43)))) else (some (-1))
def m_spec_l4Quoted (N : Nat) (a0 : List UInt8) (a1 : Int) (a2 : Int) : Option Int :=
  Option.bind (m_spec_l4Byte a0 a1) fun r4 => bif (r4 != a2) then some (-1) else (m_spec_l4Quoted_l1 N N (a0, a2, (IntKind.wrap .i64 (a1 + 1))))

/-! ### spec.StrEnd -/
def m_spec_StrEnd (N : Nat) (a0 : List UInt8) (a1 : Int) : Option Int :=
  Option.bind (m_spec_l4Quoted N a0 a1 34) fun r2 => some r2

/-! ### spec.EreEnd -/
def m_spec_EreEnd (N : Nat) (a0 : List UInt8) (a1 : Int) : Option Int :=
  Option.bind (m_spec_l4Quoted N a0 a1 47) fun r2 => bif (r2 == (IntKind.wrap .i64 (a1 + 2))) then some (-1) else (some r2)

/-! ### spec.IsLetter -/
def m_spec_IsLetter (a0 : Int) : Option Bool :=
  Option.bind (Option.bind (m_spec_l1In a0 97 122) fun r4 => bif r4 then some true else (Option.bind (m_spec_l1In a0 65 90) fun r5 => bif r5 then some true else (some (a0 == 95)))) fun y3 => some y3

/-! ### spec.IsWordByte -/
def m_spec_IsWordByte (a0 : Int) : Option Bool :=
  Option.bind (Option.bind (m_spec_IsLetter a0) fun r4 => bif r4 then some true else (Option.bind (m_spec_IsDigit a0) fun r5 => some r5)) fun y3 => some y3

/-! ### spec.NameShape -/
def m_spec_NameShape_l1 (N : Nat) : Nat → ((List UInt8) × Int) → Option Bool
  | 0, _ => none
  | n1 + 1, (a0, y35) => bif (decide (y35 < (a0.length : Int))) then Option.bind (ix a0 y35) fun b51 => Option.bind (m_spec_IsWordByte (IntKind.wrap .i64 ((b51).toNat : Int))) fun r52 => bif (!r52) then some false else ((m_spec_NameShape_l1 N n1) (a0, (IntKind.wrap .i64 (y35 + 1)))) else (Option.bind (Option.bind (m_spec_l1In (a0.length : Int) 1 12) fun r57 => bif r57 then Option.bind (ix a0 0) fun b58 => Option.bind (m_spec_IsLetter (IntKind.wrap .i64 ((b58).toNat : Int))) fun r59 => some r59 else (some false)) fun y56 => some y56)
def m_spec_NameShape (N : Nat) (a0 : List UInt8) : Option Bool :=
  m_spec_NameShape_l1 N N (a0, 0)

/-! ### spec.l3Words -/
def m_spec_l3Words : Option (List (List UInt8)) :=
  some [[66, 69, 71, 73, 78], [69, 78, 68], [102, 117, 110, 99, 116, 105, 111, 110], [105, 102], [101, 108, 115, 101], [119, 104, 105, 108, 101], [102, 111, 114], [100, 111], [98, 114, 101, 97, 107], [99, 111, 110, 116, 105, 110, 117, 101], [110, 101, 120, 116], [101, 120, 105, 116], [114, 101, 116, 117, 114, 110], [100, 101, 108, 101, 116, 101], [105, 110], [112, 114, 105, 110, 116], [112, 114, 105, 110, 116, 102]]

/-! ### spec.l3Find -/
def m_spec_l3Find_l1 (N : Nat) : Nat → ((List (List UInt8)) × (List UInt8) × Int) → Option Int
  | 0, _ => none
  | n1 + 1, (a0, a1, y19) => bif (decide (y19 < (a0.length : Int))) then Option.bind (ix a0 y19) fun e28 => bif (e28 == a1) then some y19 else ((m_spec_l3Find_l1 N n1) (a0, a1, (IntKind.wrap .i64 (y19 + 1)))) else (some (-1))
def m_spec_l3Find (N : Nat) (a0 : List (List UInt8)) (a1 : List UInt8) : Option Int :=
  m_spec_l3Find_l1 N N (a0, a1, 0)

/-! ### spec.KeywordOf -/
def m_spec_KeywordOf (N : Nat) (a0 : List UInt8) : Option Int :=
  Option.bind m_spec_l3Words fun r3 => Option.bind (m_spec_l3Find N r3 a0) fun r4 => bif (decide (r4 < 0)) then some 0 else (some (IntKind.wrap .i64 (10 + r4)))

/-! ### spec.l3Builtins -/
def m_spec_l3Builtins : Option (List (List UInt8)) :=
  some [[97, 116, 97, 110, 50], [99, 108, 111, 115, 101], [99, 111, 115], [101, 120, 112], [103, 115, 117, 98], [105, 110, 100, 101, 120], [105, 110, 116], [108, 101, 110, 103, 116, 104], [108, 111, 103], [109, 97, 116, 99, 104], [114, 97, 110, 100], [115, 105, 110], [115, 112, 108, 105, 116], [115, 112, 114, 105, 110, 116, 102], [115, 113, 114, 116], [115, 114, 97, 110, 100], [115, 117, 98], [115, 117, 98, 115, 116, 114], [115, 121, 115, 116, 101, 109], [116, 111, 108, 111, 119, 101, 114], [116, 111, 117, 112, 112, 101, 114]]

/-! ### spec.IsBuiltin -/
def m_spec_IsBuiltin (N : Nat) (a0 : List UInt8) : Option Bool :=
  Option.bind m_spec_l3Builtins fun r3 => Option.bind (m_spec_l3Find N r3 a0) fun r4 => some (decide (r4 ≥ 0))

/-! ### spec.NameOk -/
def m_spec_NameOk (N : Nat) (a0 : List UInt8) : Option Bool :=
  Option.bind (Option.bind (m_spec_NameShape N a0) fun r5 => bif r5 then Option.bind (m_spec_KeywordOf N a0) fun r6 => bif (r6 == 0) then Option.bind (m_spec_IsBuiltin N a0) fun r7 => some (!r7) else (some false) else (some false)) fun y4 => some y4

/-! ### spec.l3Signs -/
def m_spec_l3Signs : Option (List (List UInt8)) :=
  some [[123], [125], [40], [41], [91], [93], [44], [59], [43, 61], [45, 61], [42, 61], [47, 61], [37, 61], [94, 61], [124, 124], [38, 38], [33, 126], [61, 61], [60, 61], [62, 61], [33, 61], [43, 43], [45, 45], [62, 62], [61], [43], [45], [42], [47], [37], [94], [33], [62], [60], [124], [63], [58], [126], [36]]

/-! ### spec.SpellOf -/
def m_spec_SpellOf (a0 : Int) : Option (List UInt8) :=
  bif (a0 == 1) then some [10] else (Option.bind (m_spec_l1In a0 10 26) fun r14 => bif r14 then Option.bind m_spec_l3Words fun r17 => Option.bind (ix r17 (IntKind.wrap .i64 (a0 - 10))) fun e18 => some e18 else (Option.bind (m_spec_l1In a0 30 68) fun r20 => bif r20 then Option.bind m_spec_l3Signs fun r23 => Option.bind (ix r23 (IntKind.wrap .i64 (a0 - 30))) fun e24 => some e24 else (some [])))

/-! ### spec.TokenOk -/
def m_spec_TokenOk_k1 (N : Nat) : (SToken × Bool) → Option Bool
  | (a0, y30) => bif y30 then Option.bind (m_spec_NameOk N a0.Text) fun r32 => some r32 else (bif (a0.Kind == 8) then Option.bind (m_spec_IsBuiltin N a0.Text) fun r34 => some r34 else (Option.bind (bif (!(a0.Text == [])) then Option.bind (m_spec_SpellOf a0.Kind) fun r37 => some (r37 == a0.Text) else (some false)) fun y36 => some y36))
def m_spec_TokenOk (N : Nat) (a0 : SToken) : Option Bool :=
  bif (a0.Kind == 2) then Option.bind (bif (decide ((a0.Text.length : Int) > 0)) then Option.bind (ix a0.Text 0) fun b21 => bif (((b21).toNat : Int) == 35) then Option.bind (m_spec_l4Plain N a0.Text) fun r22 => some r22 else (some false) else (some false)) fun y20 => some y20 else (bif (a0.Kind == 3) then Option.bind (bif (decide ((a0.Text.length : Int) > 0)) then Option.bind (m_spec_NumEnd N a0.Text 0) fun r25 => some (r25 == (a0.Text.length : Int)) else (some false)) fun y24 => some y24 else (bif (a0.Kind == 4) then Option.bind (m_spec_StrEnd N a0.Text 0) fun r27 => some (r27 == (a0.Text.length : Int)) else (bif (a0.Kind == 5) then Option.bind (m_spec_EreEnd N a0.Text 0) fun r29 => some (r29 == (a0.Text.length : Int)) else (bif (a0.Kind == 6) then m_spec_TokenOk_k1 N (a0, (a0.Kind == 6)) else (m_spec_TokenOk_k1 N (a0, (a0.Kind == 7)))))))

/-! ### spec.EndsOperand -/
def m_spec_EndsOperand_k1 : Bool → Option Bool
  | y2 => bif y2 then some true else (some false)
def m_spec_EndsOperand (a0 : Int) : Option Bool :=
  bif (a0 == 3) then m_spec_EndsOperand_k1 (a0 == 3) else (bif (a0 == 4) then m_spec_EndsOperand_k1 (a0 == 4) else (bif (a0 == 5) then m_spec_EndsOperand_k1 (a0 == 5) else (bif (a0 == 6) then m_spec_EndsOperand_k1 (a0 == 6) else (bif (a0 == 8) then m_spec_EndsOperand_k1 (a0 == 8) else (bif (a0 == 33) then m_spec_EndsOperand_k1 (a0 == 33) else (bif (a0 == 35) then m_spec_EndsOperand_k1 (a0 == 35) else (bif (a0 == 51) then m_spec_EndsOperand_k1 (a0 == 51) else (m_spec_EndsOperand_k1 (a0 == 52)))))))))

/-! ### spec.TokensOk -/
def m_spec_TokensOk_k2 (N : Nat) (kb1 : ((List SToken) × Int × Int) → Option Bool) : ((List SToken) × Int × Int × Int) → Option Bool
  | (a0, y317, y318, y440) => Option.bind (ix a0 y318) fun e442 => Option.bind (Option.bind (ix a0 y318) fun e451 => Option.bind (m_spec_TokenOk N e451) fun r452 => bif (!r452) then some true else (bif (e442.Kind == 7) then bif (y440 != 32) then some true else (bif (e442.Kind == 2) then bif (y440 != 1) then some (decide ((IntKind.wrap .i64 (y318 + 1)) < (a0.length : Int))) else (some false) else (some false)) else (bif (e442.Kind == 2) then bif (y440 != 1) then some (decide ((IntKind.wrap .i64 (y318 + 1)) < (a0.length : Int))) else (some false) else (some false)))) fun y450 => bif y450 then some false else (Option.bind (bif (e442.Kind == 5) then Option.bind (m_spec_EndsOperand y317) fun r470 => bif r470 then some true else (bif (e442.Kind == 58) then Option.bind (m_spec_EndsOperand y317) fun r471 => some (!r471) else (bif (e442.Kind == 41) then Option.bind (m_spec_EndsOperand y317) fun r472 => some (!r472) else (some false))) else (bif (e442.Kind == 58) then Option.bind (m_spec_EndsOperand y317) fun r473 => some (!r473) else (bif (e442.Kind == 41) then Option.bind (m_spec_EndsOperand y317) fun r474 => some (!r474) else (some false)))) fun y469 => bif y469 then some false else (kb1 (a0, e442.Kind, (IntKind.wrap .i64 (y318 + 1)))))
def m_spec_TokensOk_l1 (N : Nat) : Nat → ((List SToken) × Int × Int) → Option Bool
  | 0, _ => none
  | n1 + 1, (a0, y317, y318) => bif (decide (y318 < (a0.length : Int))) then bif (decide ((IntKind.wrap .i64 (y318 + 1)) < (a0.length : Int))) then Option.bind (ix a0 (IntKind.wrap .i64 (y318 + 1))) fun e476 => m_spec_TokensOk_k2 N (m_spec_TokensOk_l1 N n1) (a0, y317, y318, e476.Kind) else (m_spec_TokensOk_k2 N (m_spec_TokensOk_l1 N n1) (a0, y317, y318, 0)) else (some true)
def m_spec_TokensOk (N : Nat) (a0 : List SToken) : Option Bool :=
  bif (decide ((a0.length : Int) > 3000)) then some false else (m_spec_TokensOk_l1 N N (a0, 0, 0))

/-! ### spec.Shunts -/
def m_spec_Shunts_k2 (N : Nat) (kb1 : ((List SToken) × Bool × Int × Int) → Option Bool) : ((List SToken) × Int × Bool × Int) → Option Bool
  | (a0, y113, y173, y174) => bif (decide (y174 < 0)) then some false else (kb1 (a0, y173, y174, (IntKind.wrap .i64 (y113 + 1))))
def m_spec_Shunts_l1 (N : Nat) : Nat → ((List SToken) × Bool × Int × Int) → Option Bool
  | 0, _ => none
  | n1 + 1, (a0, y111, y112, y113) => bif (decide (y113 < (a0.length : Int))) then Option.bind (ix a0 y113) fun e166 => Option.bind (bif y111 then some (e166.Kind == 32) else (some false)) fun y175 => bif y175 then m_spec_Shunts_k2 N (m_spec_Shunts_l1 N n1) (a0, y113, y111, (IntKind.wrap .i64 (y112 + 1))) else (Option.bind (bif y111 then bif (e166.Kind == 6) then some true else (some (e166.Kind == 3)) else (some false)) fun y176 => bif y176 then m_spec_Shunts_k2 N (m_spec_Shunts_l1 N n1) (a0, y113, false, y112) else (Option.bind (bif (!y111) then some (e166.Kind == 33) else (some false)) fun y177 => bif y177 then m_spec_Shunts_k2 N (m_spec_Shunts_l1 N n1) (a0, y113, y111, (IntKind.wrap .i64 (y112 - 1))) else (Option.bind (bif (!y111) then bif (e166.Kind != 99) then Option.bind (m_spec_OpLevel e166.Kind) fun r180 => some (decide (r180 > 0)) else (some false) else (some false)) fun y179 => bif y179 then m_spec_Shunts_k2 N (m_spec_Shunts_l1 N n1) (a0, y113, true, y112) else (some false)))) else (Option.bind (bif (!y111) then bif (y112 == 0) then Option.bind (m_spec_TokensOk N a0) fun r183 => some r183 else (some false) else (some false)) fun y182 => some y182)
def m_spec_Shunts (N : Nat) (a0 : List SToken) : Option Bool :=
  m_spec_Shunts_l1 N N (a0, true, 0, 0)

/-! ### stringslite.IndexByte -/
def m_stringslite_IndexByte (a0 : List UInt8) (a1 : Int) : Option Int :=
  some (Go.Lib.indexByte a0 (Int.toNat a1).toUInt8)

/-! ### stringslite.Index -/
def m_stringslite_Index (a0 : List UInt8) : Option Int :=
  bif (([10] : List UInt8) == a0) then some 0 else (Option.bind (ix ([10] : List UInt8) 0) fun b7 => Option.bind (m_stringslite_IndexByte a0 ((b7).toNat : Int)) fun r8 => some r8)

/-! ### strings.Index -/
def m_strings_Index (a0 : List UInt8) : Option Int :=
  Option.bind (m_stringslite_Index a0) fun r2 => some r2

/-! ### strings.Contains -/
def m_strings_Contains (a0 : List UInt8) : Option Bool :=
  Option.bind (m_strings_Index a0) fun r2 => some (decide (r2 ≥ 0))

/-! ### impl.within -/
def m_impl_within (a0 : Int) (a1 : Int) (a2 : Int) : Option Bool :=
  Option.bind (bif (decide (a0 ≥ a1)) then some (decide (a0 ≤ a2)) else (some false)) fun y1 => some y1

/-! ### impl.byteAt -/
def m_impl_byteAt (a0 : List UInt8) (a1 : Int) : Option Int :=
  Option.bind (m_impl_within a1 0 (IntKind.wrap .i64 ((a0.length : Int) - 1))) fun r4 => bif (!r4) then some (-1) else (Option.bind (ix a0 a1) fun b6 => some (IntKind.wrap .i64 ((b6).toNat : Int)))

/-! ### impl.IsDigit -/
def m_impl_IsDigit (a0 : Int) : Option Bool :=
  Option.bind (bif (decide (a0 ≥ 48)) then some (decide (a0 ≤ 57)) else (some false)) fun y1 => some y1

/-! ### impl.digitsEnd -/
def m_impl_digitsEnd_l1 (N : Nat) : Nat → ((List UInt8) × Int) → Option Int
  | 0, _ => none
  | n1 + 1, (a0, a1) => Option.bind (m_impl_byteAt a0 a1) fun r33 => Option.bind (m_impl_IsDigit r33) fun r34 => bif r34 then (m_impl_digitsEnd_l1 N n1) (a0, (IntKind.wrap .i64 (a1 + 1))) else (some a1)
def m_impl_digitsEnd (N : Nat) (a0 : List UInt8) (a1 : Int) : Option Int :=
  m_impl_digitsEnd_l1 N N (a0, a1)

/-! ### impl.NumEnd -/
def m_impl_NumEnd_k2 (N : Nat) : Int → Option Int
  | y11 => some y11
def m_impl_NumEnd_k3 (N : Nat) : ((List UInt8) × Int × Int) → Option Int
  | (a0, y11, y31) => Option.bind (m_impl_digitsEnd N a0 y31) fun r33 => bif (decide (r33 > y31)) then some r33 else (m_impl_NumEnd_k2 N y11)
def m_impl_NumEnd_k1 (N : Nat) : ((List UInt8) × Int × Int) → Option Int
  | (a0, y11, y12) => bif (y12 == 0) then some (-1) else (Option.bind (m_impl_byteAt a0 y11) fun r26 => Option.bind (bif (r26 == 101) then some true else (some (r26 == 69))) fun y27 => bif y27 then Option.bind (m_impl_byteAt a0 (IntKind.wrap .i64 (y11 + 1))) fun r35 => Option.bind (bif (r35 == 43) then some true else (some (r35 == 45))) fun y36 => bif y36 then m_impl_NumEnd_k3 N (a0, y11, (IntKind.wrap .i64 ((IntKind.wrap .i64 (y11 + 1)) + 1))) else (m_impl_NumEnd_k3 N (a0, y11, (IntKind.wrap .i64 (y11 + 1)))) else (m_impl_NumEnd_k2 N y11))
def m_impl_NumEnd (N : Nat) (a0 : List UInt8) (a1 : Int) : Option Int :=
  Option.bind (m_impl_within a1 0 (IntKind.wrap .i64 ((a0.length : Int) - 1))) fun r4 => bif (!r4) then some (-1) else (Option.bind (m_impl_digitsEnd N a0 a1) fun r6 => Option.bind (m_impl_byteAt a0 r6) fun r38 => bif (r38 == 46) then Option.bind (m_impl_digitsEnd N a0 (IntKind.wrap .i64 (r6 + 1))) fun r40 => m_impl_NumEnd_k1 N (a0, r40, (IntKind.wrap .i64 ((IntKind.wrap .i64 (r6 - a1)) + (IntKind.wrap .i64 ((IntKind.wrap .i64 (r40 - r6)) - 1))))) else (m_impl_NumEnd_k1 N (a0, r6, (IntKind.wrap .i64 (r6 - a1)))))

/-! ### impl.quotedEnd -/
def m_impl_quotedEnd_k2 (N : Nat) (kb1 : ((List UInt8) × Int × Int) → Option Int) : ((List UInt8) × Int × Int) → Option Int
  | (a0, a2, y127) => kb1 (a0, a2, (IntKind.wrap .i64 (y127 + 1)))
def m_impl_quotedEnd_l1 (N : Nat) : Nat → ((List UInt8) × Int × Int) → Option Int
  | 0, _ => none
  | n1 + 1, (a0, a2, y91) => Option.bind (bif (decide (y91 < (a0.length : Int))) then Option.bind (ix a0 y91) fun b119 => some (((b119).toNat : Int) != 10) else (some false)) fun y118 => bif y118 then Option.bind (ix a0 y91) fun b129 => bif ((IntKind.wrap .i64 ((b129).toNat : Int)) == a2) then some (IntKind.wrap .i64 (y91 + 1)) else (Option.bind (Option.bind (ix a0 y91) fun b133 => bif (((b133).toNat : Int) == 92) then Option.bind (m_impl_byteAt a0 (IntKind.wrap .i64 (y91 + 1))) fun r134 => some (r134 != 10) else (some false)) fun y132 => bif y132 then m_impl_quotedEnd_k2 N (m_impl_quotedEnd_l1 N n1) (a0, a2, (IntKind.wrap .i64 (y91 + 1))) else (m_impl_quotedEnd_k2 N (m_impl_quotedEnd_l1 N n1) (a0, a2, y91))) else (some (-1))
def m_impl_quotedEnd (N : Nat) (a0 : List UInt8) (a1 : Int) (a2 : Int) : Option Int :=
  Option.bind (m_impl_byteAt a0 a1) fun r4 => bif (r4 != a2) then some (-1) else (m_impl_quotedEnd_l1 N N (a0, a2, (IntKind.wrap .i64 (a1 + 1))))

/-! ### impl.StrEnd -/
def m_impl_StrEnd (N : Nat) (a0 : List UInt8) (a1 : Int) : Option Int :=
  Option.bind (m_impl_quotedEnd N a0 a1 34) fun r2 => some r2

/-! ### impl.EreEnd -/
def m_impl_EreEnd (N : Nat) (a0 : List UInt8) (a1 : Int) : Option Int :=
  Option.bind (m_impl_quotedEnd N a0 a1 47) fun r2 => bif (r2 == (IntKind.wrap .i64 (a1 + 2))) then some (-1) else (some r2)

/-! ### impl.IsLetter -/
def m_impl_IsLetter (a0 : Int) : Option Bool :=
  Option.bind (bif (decide (a0 ≥ 97)) then bif (decide (a0 ≤ 122)) then some true else (bif (decide (a0 ≥ 65)) then bif (decide (a0 ≤ 90)) then some true else (some (a0 == 95)) else (some (a0 == 95))) else (bif (decide (a0 ≥ 65)) then bif (decide (a0 ≤ 90)) then some true else (some (a0 == 95)) else (some (a0 == 95)))) fun y1 => some y1

/-! ### impl.IsWordByte -/
def m_impl_IsWordByte (a0 : Int) : Option Bool :=
  Option.bind (Option.bind (m_impl_IsLetter a0) fun r4 => bif r4 then some true else (Option.bind (m_impl_IsDigit a0) fun r5 => some r5)) fun y3 => some y3

/-! ### impl.NameShape -/
def m_impl_NameShape_l1 (N : Nat) : Nat → ((List UInt8) × Int) → Option Bool
  | 0, _ => none
  | n1 + 1, (a0, y35) => bif (decide (y35 < (a0.length : Int))) then Option.bind (ix a0 y35) fun b51 => Option.bind (m_impl_IsWordByte (IntKind.wrap .i64 ((b51).toNat : Int))) fun r52 => bif (!r52) then some false else ((m_impl_NameShape_l1 N n1) (a0, (IntKind.wrap .i64 (y35 + 1)))) else (Option.bind (Option.bind (m_impl_within (a0.length : Int) 1 12) fun r57 => bif r57 then Option.bind (ix a0 0) fun b58 => Option.bind (m_impl_IsLetter (IntKind.wrap .i64 ((b58).toNat : Int))) fun r59 => some r59 else (some false)) fun y56 => some y56)
def m_impl_NameShape (N : Nat) (a0 : List UInt8) : Option Bool :=
  m_impl_NameShape_l1 N N (a0, 0)

/-! ### slices.Index[[]string,string] -/
def m_slices_Index_string_l1 (N : Nat) : Nat → ((List (List UInt8)) × (List UInt8) × Int) → Option Int
  | 0, _ => none
  | n1 + 1, (a0, a1, y19) => bif (decide (y19 < (a0.length : Int))) then Option.bind (ix a0 y19) fun e28 => bif (a1 == e28) then some y19 else ((m_slices_Index_string_l1 N n1) (a0, a1, (IntKind.wrap .i64 (y19 + 1)))) else (some (-1))
def m_slices_Index_string (N : Nat) (a0 : List (List UInt8)) (a1 : List UInt8) : Option Int :=
  m_slices_Index_string_l1 N N (a0, a1, 0)

/-! ### impl.KeywordOf -/
def m_impl_KeywordOf (N : Nat) (a0 : List UInt8) : Option Int :=
  Option.bind (m_slices_Index_string N tab_keywords a0) fun r2 => bif (decide (r2 < 0)) then some 0 else (some (IntKind.wrap .i64 (10 + r2)))

/-! ### slices.Contains[[]string,string] -/
def m_slices_Contains_string (N : Nat) (a0 : List (List UInt8)) (a1 : List UInt8) : Option Bool :=
  Option.bind (m_slices_Index_string N a0 a1) fun r2 => some (decide (r2 ≥ 0))

/-! ### impl.IsBuiltin -/
def m_impl_IsBuiltin (N : Nat) (a0 : List UInt8) : Option Bool :=
  Option.bind (m_slices_Contains_string N tab_builtins a0) fun r2 => some r2

/-! ### impl.NameOk -/
def m_impl_NameOk (N : Nat) (a0 : List UInt8) : Option Bool :=
  Option.bind (Option.bind (m_impl_NameShape N a0) fun r5 => bif r5 then Option.bind (m_impl_KeywordOf N a0) fun r6 => bif (r6 == 0) then Option.bind (m_impl_IsBuiltin N a0) fun r7 => some (!r7) else (some false) else (some false)) fun y4 => some y4

/-! ### impl.isKeywordKind -/
def m_impl_isKeywordKind (a0 : Int) : Option Bool :=
  Option.bind (m_impl_within a0 10 26) fun r2 => some r2

/-! ### impl.isSignKind -/
def m_impl_isSignKind (a0 : Int) : Option Bool :=
  Option.bind (m_impl_within a0 30 68) fun r2 => some r2

/-! ### impl.SpellOf -/
def m_impl_SpellOf (a0 : Int) : Option (List UInt8) :=
  bif (a0 == 1) then some [10] else (Option.bind (m_impl_isKeywordKind a0) fun r10 => bif r10 then Option.bind (ix tab_keywords (IntKind.wrap .i64 (a0 - 10))) fun e12 => some e12 else (Option.bind (m_impl_isSignKind a0) fun r14 => bif r14 then Option.bind (ix tab_signs (IntKind.wrap .i64 (a0 - 30))) fun e16 => some e16 else (some [])))

/-! ### impl.TokenOk -/
def m_impl_TokenOk_k1 (N : Nat) : (SToken × Bool) → Option Bool
  | (a0, y28) => bif y28 then Option.bind (m_impl_NameOk N a0.Text) fun r30 => some r30 else (bif (a0.Kind == 8) then Option.bind (m_impl_IsBuiltin N a0.Text) fun r32 => some r32 else (Option.bind (m_impl_SpellOf a0.Kind) fun r34 => some (a0.Text == r34)))
def m_impl_TokenOk (N : Nat) (a0 : SToken) : Option Bool :=
  bif (a0.Text == []) then some false else (bif (a0.Kind == 2) then Option.bind (Option.bind (ix a0.Text 0) fun b20 => bif (((b20).toNat : Int) == 35) then Option.bind (m_strings_Contains a0.Text) fun r21 => some (!r21) else (some false)) fun y19 => some y19 else (bif (a0.Kind == 3) then Option.bind (m_impl_NumEnd N a0.Text 0) fun r23 => some (r23 == (a0.Text.length : Int)) else (bif (a0.Kind == 4) then Option.bind (m_impl_StrEnd N a0.Text 0) fun r25 => some (r25 == (a0.Text.length : Int)) else (bif (a0.Kind == 5) then Option.bind (m_impl_EreEnd N a0.Text 0) fun r27 => some (r27 == (a0.Text.length : Int)) else (bif (a0.Kind == 6) then m_impl_TokenOk_k1 N (a0, (a0.Kind == 6)) else (m_impl_TokenOk_k1 N (a0, (a0.Kind == 7))))))))

/-! ### impl.EndsOperand -/
def m_impl_EndsOperand_k1 : Bool → Option Bool
  | y2 => bif y2 then some true else (some false)
def m_impl_EndsOperand (a0 : Int) : Option Bool :=
  bif (a0 == 3) then m_impl_EndsOperand_k1 (a0 == 3) else (bif (a0 == 4) then m_impl_EndsOperand_k1 (a0 == 4) else (bif (a0 == 5) then m_impl_EndsOperand_k1 (a0 == 5) else (bif (a0 == 6) then m_impl_EndsOperand_k1 (a0 == 6) else (bif (a0 == 8) then m_impl_EndsOperand_k1 (a0 == 8) else (bif (a0 == 33) then m_impl_EndsOperand_k1 (a0 == 33) else (bif (a0 == 35) then m_impl_EndsOperand_k1 (a0 == 35) else (bif (a0 == 51) then m_impl_EndsOperand_k1 (a0 == 51) else (m_impl_EndsOperand_k1 (a0 == 52)))))))))

/-! ### impl.TokensOk -/
def m_impl_TokensOk_k3 (N : Nat) (kb1 : ((List SToken) × Int × Int) → Option Bool) : ((List SToken) × Int × SToken × Bool) → Option Bool
  | (a0, y398, e549, y586) => bif y586 then some false else (kb1 (a0, e549.Kind, (IntKind.wrap .i64 (y398 + 1))))
def m_impl_TokensOk_k2 (N : Nat) (kb1 : ((List SToken) × Int × Int) → Option Bool) : ((List SToken) × Int × Int × SToken × Int) → Option Bool
  | (a0, y397, y398, e549, y552) => Option.bind (m_impl_TokenOk N e549) fun r575 => bif (!r575) then some false else (Option.bind (bif (e549.Kind == 7) then some (y552 != 32) else (some false)) fun y576 => bif y576 then some false else (Option.bind (bif (e549.Kind == 2) then bif (y552 != 1) then some (y552 != 0) else (some false) else (some false)) fun y577 => bif y577 then some false else (Option.bind (bif (e549.Kind == 5) then Option.bind (m_impl_EndsOperand y397) fun r589 => some r589 else (some false)) fun y588 => bif y588 then m_impl_TokensOk_k3 N kb1 (a0, y398, e549, y588) else (Option.bind (bif (e549.Kind == 58) then Option.bind (m_impl_EndsOperand y397) fun r593 => some (!r593) else (bif (e549.Kind == 41) then Option.bind (m_impl_EndsOperand y397) fun r594 => some (!r594) else (some false))) fun y592 => m_impl_TokensOk_k3 N kb1 (a0, y398, e549, y592)))))
def m_impl_TokensOk_l1 (N : Nat) : Nat → ((List SToken) × Int × Int) → Option Bool
  | 0, _ => none
  | n1 + 1, (a0, y397, y398) => bif (decide (y398 < (a0.length : Int))) then Option.bind (ix a0 y398) fun e549 => bif (decide ((IntKind.wrap .i64 (y398 + 1)) < (a0.length : Int))) then Option.bind (ix a0 (IntKind.wrap .i64 (y398 + 1))) fun e596 => m_impl_TokensOk_k2 N (m_impl_TokensOk_l1 N n1) (a0, y397, y398, e549, e596.Kind) else (m_impl_TokensOk_k2 N (m_impl_TokensOk_l1 N n1) (a0, y397, y398, e549, 0)) else (some true)
def m_impl_TokensOk (N : Nat) (a0 : List SToken) : Option Bool :=
  bif (decide ((a0.length : Int) > 3000)) then some false else (m_impl_TokensOk_l1 N N (a0, 0, 0))

/-! ### impl.OpLevel -/
def m_impl_OpLevel_k4 : (Int × Bool) → Option Int
  | (a0, y8) => bif y8 then some 10 else (bif (a0 == 60) then some 12 else (some 0))
def m_impl_OpLevel_k3 : (Int × Bool) → Option Int
  | (a0, y7) => bif y7 then some 9 else (bif (a0 == 57) then m_impl_OpLevel_k4 (a0, (a0 == 57)) else (bif (a0 == 58) then m_impl_OpLevel_k4 (a0, (a0 == 58)) else (m_impl_OpLevel_k4 (a0, (a0 == 59)))))
def m_impl_OpLevel_k2 : (Int × Bool) → Option Int
  | (a0, y6) => bif y6 then some 7 else (bif (a0 == 99) then some 8 else (bif (a0 == 55) then m_impl_OpLevel_k3 (a0, (a0 == 55)) else (m_impl_OpLevel_k3 (a0, (a0 == 56)))))
def m_impl_OpLevel_k1 : (Int × Bool) → Option Int
  | (a0, y5) => bif y5 then some 6 else (bif (a0 == 63) then m_impl_OpLevel_k2 (a0, (a0 == 63)) else (bif (a0 == 48) then m_impl_OpLevel_k2 (a0, (a0 == 48)) else (bif (a0 == 47) then m_impl_OpLevel_k2 (a0, (a0 == 47)) else (bif (a0 == 50) then m_impl_OpLevel_k2 (a0, (a0 == 50)) else (bif (a0 == 62) then m_impl_OpLevel_k2 (a0, (a0 == 62)) else (m_impl_OpLevel_k2 (a0, (a0 == 49))))))))
def m_impl_OpLevel (a0 : Int) : Option Int :=
  bif (a0 == 44) then some 3 else (bif (a0 == 45) then some 4 else (bif (a0 == 67) then m_impl_OpLevel_k1 (a0, (a0 == 67)) else (m_impl_OpLevel_k1 (a0, (a0 == 46)))))

/-! ### impl.Shunts -/
def m_impl_Shunts_k2 (N : Nat) (kb1 : ((List SToken) × Int × Bool × Int) → Option Bool) : ((List SToken) × Int × Int × Bool) → Option Bool
  | (a0, y77, y107, y108) => kb1 (a0, y107, y108, (IntKind.wrap .i64 (y77 + 1)))
def m_impl_Shunts_l1 (N : Nat) : Nat → ((List SToken) × Int × Bool × Int) → Option Bool
  | 0, _ => none
  | n1 + 1, (a0, y75, y76, y77) => bif (decide (y77 < (a0.length : Int))) then Option.bind (ix a0 y77) fun e110 => Option.bind (bif (e110.Kind == 32) then some (!y76) else (some false)) fun y111 => bif y111 then m_impl_Shunts_k2 N (m_impl_Shunts_l1 N n1) (a0, y77, (IntKind.wrap .i64 (y75 + 1)), y76) else (Option.bind (bif (e110.Kind == 6) then some (!y76) else (bif (e110.Kind == 3) then some (!y76) else (some false))) fun y112 => bif y112 then m_impl_Shunts_k2 N (m_impl_Shunts_l1 N n1) (a0, y77, y75, true) else (Option.bind (bif (e110.Kind == 33) then bif y76 then some (decide (y75 > 0)) else (some false) else (some false)) fun y113 => bif y113 then m_impl_Shunts_k2 N (m_impl_Shunts_l1 N n1) (a0, y77, (IntKind.wrap .i64 (y75 - 1)), y76) else (Option.bind (Option.bind (m_impl_OpLevel e110.Kind) fun r116 => bif (r116 != 0) then bif (e110.Kind != 99) then some y76 else (some false) else (some false)) fun y115 => bif y115 then m_impl_Shunts_k2 N (m_impl_Shunts_l1 N n1) (a0, y77, y75, false) else (some false)))) else (Option.bind (bif y76 then some (y75 == 0) else (some false)) fun y117 => some y117)
def m_impl_Shunts (N : Nat) (a0 : List SToken) : Option Bool :=
  Option.bind (m_impl_TokensOk N a0) fun r4 => bif (!r4) then some false else (m_impl_Shunts_l1 N N (a0, 0, false, 0))

/-! ### laws.eqToken -/
def m_laws_eqToken (a0 : SToken) (a1 : SToken) : Option Bool :=
  bif (a0.Kind != a1.Kind) then some false else (bif (!(a0.Text == a1.Text)) then some false else (bif (a0.At != a1.At) then some false else (some true)))

/-! ### laws.eqTokenS -/
def m_laws_eqTokenS_l1 (N : Nat) : Nat → ((List SToken) × (List SToken) × Int) → Option Bool
  | 0, _ => none
  | n1 + 1, (a0, a1, y51) => bif (decide (y51 < (a0.length : Int))) then Option.bind (ix a0 y51) fun e74 => Option.bind (ix a1 y51) fun e75 => Option.bind (m_laws_eqToken e74 e75) fun r76 => bif (!r76) then some false else ((m_laws_eqTokenS_l1 N n1) (a0, a1, (IntKind.wrap .i64 (y51 + 1)))) else (some true)
def m_laws_eqTokenS (N : Nat) (a0 : List SToken) (a1 : List SToken) : Option Bool :=
  bif ((a0.length : Int) != (a1.length : Int)) then some false else (m_laws_eqTokenS_l1 N N (a0, a1, 0))

/-! ### laws.FnExactShunts -/
def m_laws_FnExactShunts (N : Nat) (a0 : List SToken) : Option Bool :=
  Option.bind (m_laws_szTokenS N a0 1048576) fun r2 => bif (decide (r2 < 0)) then some true else (Option.bind (m_laws_toTokenS N a0) fun r5 => Option.bind (m_spec_Shunts N r5) fun r6 => Option.bind (m_laws_toTokenS N a0) fun r8 => Option.bind (m_impl_Shunts N r8) fun r10 => bif (!(r10 == r6)) then some false else (Option.bind (m_laws_toTokenS N a0) fun r17 => Option.bind (m_laws_eqTokenS N r8 r17) fun r18 => bif (!r18) then some false else (some true)))

/-! ### spec.Splice -/
def m_spec_Splice (a0 : List UInt8) (a1 : Int) (a2 : Int) (a3 : List UInt8) : Option ((List UInt8) × Bool) :=
  Option.bind (Option.bind (m_spec_l1In a1 0 (a0.length : Int)) fun r9 => bif (!r9) then some true else (Option.bind (m_spec_l1In a2 0 (IntKind.wrap .i64 ((a0.length : Int) - a1))) fun r10 => some (!r10))) fun y8 => bif y8 then some (a0, false) else (Option.bind (cut a0 0 a1) fun s15 => Option.bind (cat s15 a3) fun s16 => Option.bind (cut a0 (IntKind.wrap .i64 (a1 + a2)) (a0.length : Int)) fun s17 => Option.bind (cat s16 s17) fun s18 => some (s18, true))

/-! ### spec.KeptTokens -/
def m_spec_KeptTokens_l1 (N : Nat) : Nat → ((List SToken) × Int × Int) → Option Int
  | 0, _ => none
  | n1 + 1, (a0, a1, y75) => Option.bind (bif (decide (y75 < (a0.length : Int))) then Option.bind (ix a0 y75) fun e109 => Option.bind (m_spec_l1In e109.At 0 a1) fun r110 => bif r110 then Option.bind (ix a0 y75) fun e111 => Option.bind (ix a0 y75) fun e112 => some (decide ((IntKind.wrap .i64 ((e111.Text.length : Int) + 2)) < (IntKind.wrap .i64 (a1 - e112.At)))) else (some false) else (some false)) fun y108 => bif y108 then (m_spec_KeptTokens_l1 N n1) (a0, a1, (IntKind.wrap .i64 (y75 + 1))) else (some y75)
def m_spec_KeptTokens (N : Nat) (a0 : List SToken) (a1 : Int) : Option Int :=
  m_spec_KeptTokens_l1 N N (a0, a1, 0)

/-! ### spec.IsBlank -/
def m_spec_IsBlank (a0 : Int) : Option Bool :=
  Option.bind (bif (a0 == 32) then some true else (some (a0 == 9))) fun y1 => some y1

/-! ### spec.NameEnd -/
def m_spec_NameEnd_l1 (N : Nat) : Nat → ((List UInt8) × Int) → Option Int
  | 0, _ => none
  | n1 + 1, (a0, a1) => Option.bind (m_spec_l4Byte a0 a1) fun r41 => Option.bind (m_spec_IsWordByte r41) fun r42 => bif r42 then (m_spec_NameEnd_l1 N n1) (a0, (IntKind.wrap .i64 (a1 + 1))) else (some a1)
def m_spec_NameEnd (N : Nat) (a0 : List UInt8) (a1 : Int) : Option Int :=
  Option.bind (m_spec_l4Byte a0 a1) fun r7 => Option.bind (m_spec_IsLetter r7) fun r8 => bif (!r8) then some (-1) else (m_spec_NameEnd_l1 N N (a0, a1))

/-! ### spec.l5Word -/
def m_spec_l5Word_k1 (N : Nat) : ((List UInt8) × Int × Int) → Option SToken
  | (s2, a1, y11) => some (⟨y11, s2, a1⟩ : SToken)
def m_spec_l5Word (N : Nat) (a0 : List UInt8) (a1 : Int) (a2 : Int) : Option SToken :=
  Option.bind (cut a0 a1 a2) fun s2 => Option.bind (m_spec_KeywordOf N s2) fun r13 => bif (r13 != 0) then Option.bind (m_spec_KeywordOf N s2) fun r15 => m_spec_l5Word_k1 N (s2, a1, r15) else (Option.bind (m_spec_IsBuiltin N s2) fun r17 => bif r17 then m_spec_l5Word_k1 N (s2, a1, 8) else (Option.bind (m_spec_l4Byte a0 a2) fun r19 => bif (r19 == 40) then m_spec_l5Word_k1 N (s2, a1, 7) else (m_spec_l5Word_k1 N (s2, a1, 6))))

/-! ### spec.OpAt -/
def m_spec_OpAt_k2 (N : Nat) (kb1 : ((List UInt8) × Int × (List (List UInt8)) × Int × Int × Int) → Option (Int × Int)) : ((List UInt8) × Int × Int × (List (List UInt8)) × Int × Int) → Option (Int × Int)
  | (a0, a1, y75, r2, y102, y103) => kb1 (a0, a1, r2, y102, y103, (IntKind.wrap .i64 (y75 + 1)))
def m_spec_OpAt_l1 (N : Nat) : Nat → ((List UInt8) × Int × (List (List UInt8)) × Int × Int × Int) → Option (Int × Int)
  | 0, _ => none
  | n1 + 1, (a0, a1, r2, y73, y74, y75) => bif (decide (y75 < (r2.length : Int))) then Option.bind (ix r2 y75) fun e105 => Option.bind (bif (decide (a1 ≥ 0)) then bif (decide (a1 ≤ (a0.length : Int))) then bif (decide ((e105.length : Int) ≤ (IntKind.wrap .i64 ((a0.length : Int) - a1)))) then Option.bind (cut a0 a1 (IntKind.wrap .i64 (a1 + (e105.length : Int)))) fun s109 => Option.bind (ix r2 y75) fun e110 => bif (s109 == e110) then some (decide ((e105.length : Int) > y74)) else (some false) else (some false) else (some false) else (some false)) fun y108 => bif y108 then m_spec_OpAt_k2 N (m_spec_OpAt_l1 N n1) (a0, a1, y75, r2, (IntKind.wrap .i64 (30 + y75)), (e105.length : Int)) else (m_spec_OpAt_k2 N (m_spec_OpAt_l1 N n1) (a0, a1, y75, r2, y73, y74)) else (some (y73, y74))
def m_spec_OpAt (N : Nat) (a0 : List UInt8) (a1 : Int) : Option (Int × Int) :=
  Option.bind m_spec_l3Signs fun r2 => m_spec_OpAt_l1 N N (a0, a1, r2, 0, 0, 0)

/-! ### spec.l5Next -/
def m_spec_l5Next_k1 (N : Nat) : ((List UInt8) × Int × Int × Int) → Option SToken
  | (a0, a1, y65, y66) => bif (decide (y65 < 0)) then some (⟨0, [], a1⟩ : SToken) else (Option.bind (cut a0 a1 y65) fun s68 => some (⟨y66, s68, a1⟩ : SToken))
def m_spec_l5Next_l2 (N : Nat) : Nat → ((List UInt8) × Int × Int) → Option SToken
  | 0, _ => none
  | n2 + 1, (a0, a1, y95) => Option.bind (bif (decide (y95 < (a0.length : Int))) then Option.bind (ix a0 y95) fun b108 => some (((b108).toNat : Int) != 10) else (some false)) fun y107 => bif y107 then (m_spec_l5Next_l2 N n2) (a0, a1, (IntKind.wrap .i64 (y95 + 1))) else (m_spec_l5Next_k1 N (a0, a1, y95, 2))
def m_spec_l5Next (N : Nat) (a0 : List UInt8) (a1 : Int) (a2 : Bool) : Option SToken :=
  Option.bind (ix a0 a1) fun b2 => bif ((IntKind.wrap .i64 ((b2).toNat : Int)) == 10) then some (⟨1, [10], a1⟩ : SToken) else (bif ((IntKind.wrap .i64 ((b2).toNat : Int)) == 35) then m_spec_l5Next_l2 N N (a0, a1, a1) else (Option.bind (Option.bind (m_spec_IsDigit (IntKind.wrap .i64 ((b2).toNat : Int))) fun r111 => bif r111 then some true else (some ((IntKind.wrap .i64 ((b2).toNat : Int)) == 46))) fun y110 => bif y110 then Option.bind (m_spec_NumEnd N a0 a1) fun r113 => m_spec_l5Next_k1 N (a0, a1, r113, 3) else (bif ((IntKind.wrap .i64 ((b2).toNat : Int)) == 34) then Option.bind (m_spec_StrEnd N a0 a1) fun r115 => m_spec_l5Next_k1 N (a0, a1, r115, 4) else (Option.bind (bif ((IntKind.wrap .i64 ((b2).toNat : Int)) == 47) then some a2 else (some false)) fun y116 => bif y116 then Option.bind (m_spec_EreEnd N a0 a1) fun r118 => m_spec_l5Next_k1 N (a0, a1, r118, 5) else (Option.bind (m_spec_IsLetter (IntKind.wrap .i64 ((b2).toNat : Int))) fun r120 => bif r120 then Option.bind (m_spec_NameEnd N a0 a1) fun r123 => Option.bind (m_spec_l5Word N a0 a1 r123) fun r124 => Option.bind (m_spec_NameShape N r124.Text) fun r128 => bif (!r128) then some (⟨0, [], a1⟩ : SToken) else (some r124) else (Option.bind (m_spec_OpAt N a0 a1) fun r130 => bif (r130.2 == 0) then some (⟨0, [], a1⟩ : SToken) else (m_spec_l5Next_k1 N (a0, a1, (IntKind.wrap .i64 (a1 + r130.2)), r130.1))))))))

/-! ### spec.l36From -/
def m_spec_l36From_l1 (N : Nat) : Nat → ((List UInt8) × Int × Int × (List SToken)) → Option ((List SToken) × SFault)
  | 0, _ => none
  | n1 + 1, (a0, y103, y104, y105) => bif (decide (y103 < (a0.length : Int))) then Option.bind (ix a0 y103) fun b139 => Option.bind (m_spec_IsBlank (IntKind.wrap .i64 ((b139).toNat : Int))) fun r140 => bif r140 then (m_spec_l36From_l1 N n1) (a0, (IntKind.wrap .i64 (y103 + 1)), y104, y105) else (Option.bind (Option.bind (ix a0 y103) fun b149 => bif (((b149).toNat : Int) == 92) then Option.bind (m_spec_l4Byte a0 (IntKind.wrap .i64 (y103 + 1))) fun r150 => some (r150 == 10) else (some false)) fun y148 => bif y148 then (m_spec_l36From_l1 N n1) (a0, (IntKind.wrap .i64 (y103 + 2)), y104, y105) else (Option.bind (m_spec_EndsOperand y104) fun r153 => Option.bind (m_spec_l5Next N a0 y103 (!r153)) fun r154 => bif (r154.Kind == 0) then some (y105, (⟨2, y103⟩ : SFault)) else (Option.bind (app 32 y105 [r154]) fun x156 => (m_spec_l36From_l1 N n1) (a0, (IntKind.wrap .i64 (y103 + (r154.Text.length : Int))), r154.Kind, x156)))) else (some (y105, (⟨0, 0⟩ : SFault)))
def m_spec_l36From (N : Nat) (a0 : List UInt8) (a1 : Int) (a2 : Int) : Option ((List SToken) × SFault) :=
  m_spec_l36From_l1 N N (a0, a1, a2, [])

/-! ### spec.Relex -/
def m_spec_Relex_k1 (N : Nat) : (((List UInt8) × Bool) × (List SToken) × Int × Int) → Option ((List SToken) × SFault)
  | (r2, x10, y17, y18) => Option.bind (m_spec_l36From N r2.1 y17 y18) fun r20 => bif (r20.2.Kind != 0) then some ([], r20.2) else (Option.bind (app 32 x10 r20.1) fun x22 => some (x22, r20.2))
def m_spec_Relex (N : Nat) (a0 : List SToken) (a1 : List UInt8) (a2 : Int) (a3 : Int) (a4 : List UInt8) : Option ((List SToken) × SFault) :=
  Option.bind (m_spec_Splice a1 a2 a3 a4) fun r2 => Option.bind (bif (!r2.2) then some true else (some (decide ((r2.1.length : Int) > 3000)))) fun y4 => bif y4 then some ([], (⟨1, 0⟩ : SFault)) else (Option.bind (m_spec_KeptTokens N a0 a2) fun r6 => Option.bind (cut a0 0 r6) fun l9 => Option.bind (app 32 [] l9) fun x10 => bif (decide (r6 > 0)) then Option.bind (ix a0 (IntKind.wrap .i64 (r6 - 1))) fun e25 => Option.bind (ix a0 (IntKind.wrap .i64 (r6 - 1))) fun e26 => Option.bind (ix a0 (IntKind.wrap .i64 (r6 - 1))) fun e28 => m_spec_Relex_k1 N (r2, x10, (IntKind.wrap .i64 (e25.At + (e26.Text.length : Int))), e28.Kind) else (m_spec_Relex_k1 N (r2, x10, 0, 0)))

/-! ### impl.Splice -/
def m_impl_Splice (a0 : List UInt8) (a1 : Int) (a2 : Int) (a3 : List UInt8) : Option ((List UInt8) × Bool) :=
  Option.bind (Option.bind (m_impl_within a1 0 (a0.length : Int)) fun r9 => bif (!r9) then some true else (Option.bind (m_impl_within a2 0 (IntKind.wrap .i64 ((a0.length : Int) - a1))) fun r10 => some (!r10))) fun y8 => bif y8 then some (a0, false) else (Option.bind (cut a0 0 a1) fun s15 => Option.bind (cat s15 a3) fun s16 => Option.bind (cut a0 (IntKind.wrap .i64 (a1 + a2)) (a0.length : Int)) fun s17 => Option.bind (cat s16 s17) fun s18 => some (s18, true))

/-! ### impl.KeptTokens -/
def m_impl_KeptTokens_l1 (N : Nat) : Nat → ((List SToken) × Int × Int) → Option Int
  | 0, _ => none
  | n1 + 1, (a0, a1, y43) => bif (decide (y43 < (a0.length : Int))) then Option.bind (ix a0 y43) fun e61 => Option.bind (Option.bind (m_impl_within e61.At 0 a1) fun r64 => bif (!r64) then some true else (some (decide ((IntKind.wrap .i64 (a1 - e61.At)) ≤ (IntKind.wrap .i64 ((e61.Text.length : Int) + 2)))))) fun y63 => bif y63 then some y43 else ((m_impl_KeptTokens_l1 N n1) (a0, a1, (IntKind.wrap .i64 (y43 + 1)))) else (some (a0.length : Int))
def m_impl_KeptTokens (N : Nat) (a0 : List SToken) (a1 : Int) : Option Int :=
  m_impl_KeptTokens_l1 N N (a0, a1, 0)

/-! ### impl.Token] -/
def m_slices_Clone_Token (a0 : List SToken) : Option (List SToken) :=
  Option.bind (app 32 [] a0) fun x2 => some x2

/-! ### impl.IsBlank -/
def m_impl_IsBlank (a0 : Int) : Option Bool :=
  Option.bind (bif (a0 == 32) then some true else (some (a0 == 9))) fun y1 => some y1

/-! ### strings.IndexByte -/
def m_strings_IndexByte (a0 : List UInt8) (a1 : Int) : Option Int :=
  Option.bind (m_stringslite_IndexByte a0 a1) fun r2 => some r2

/-! ### impl.NameEnd -/
def m_impl_NameEnd_l1 (N : Nat) : Nat → ((List UInt8) × Int) → Option Int
  | 0, _ => none
  | n1 + 1, (a0, a1) => Option.bind (m_impl_byteAt a0 a1) fun r41 => Option.bind (m_impl_IsWordByte r41) fun r42 => bif r42 then (m_impl_NameEnd_l1 N n1) (a0, (IntKind.wrap .i64 (a1 + 1))) else (some a1)
def m_impl_NameEnd (N : Nat) (a0 : List UInt8) (a1 : Int) : Option Int :=
  Option.bind (m_impl_byteAt a0 a1) fun r7 => Option.bind (m_impl_IsLetter r7) fun r8 => bif (!r8) then some (-1) else (m_impl_NameEnd_l1 N N (a0, a1))

/-! ### impl.wordToken -/
def m_impl_wordToken (N : Nat) (a0 : List UInt8) (a1 : Int) (a2 : Int) : Option SToken :=
  Option.bind (cut a0 a1 a2) fun s2 => Option.bind (m_impl_KeywordOf N s2) fun r12 => bif (r12 != 0) then Option.bind (m_impl_KeywordOf N s2) fun r14 => some (⟨r14, s2, a1⟩ : SToken) else (Option.bind (m_impl_IsBuiltin N s2) fun r16 => bif r16 then some (⟨8, s2, a1⟩ : SToken) else (Option.bind (m_impl_byteAt a0 a2) fun r18 => bif (r18 == 40) then some (⟨7, s2, a1⟩ : SToken) else (some (⟨6, s2, a1⟩ : SToken))))

/-! ### stringslite.HasPrefix -/
def m_stringslite_HasPrefix (a0 : List UInt8) (a1 : List UInt8) : Option Bool :=
  Option.bind (bif (decide ((a0.length : Int) ≥ (a1.length : Int))) then Option.bind (cut a0 0 (a1.length : Int)) fun s3 => some (s3 == a1) else (some false)) fun y2 => some y2

/-! ### strings.HasPrefix -/
def m_strings_HasPrefix (a0 : List UInt8) (a1 : List UInt8) : Option Bool :=
  Option.bind (m_stringslite_HasPrefix a0 a1) fun r2 => some r2

/-! ### impl.OpAt -/
def m_impl_OpAt_k2 (N : Nat) (kb1 : ((List UInt8) × Int × Int × Int × Int) → Option (Int × Int)) : ((List UInt8) × Int × Int × Int × Int) → Option (Int × Int)
  | (a0, a1, y77, y104, y105) => kb1 (a0, a1, y104, y105, (IntKind.wrap .i64 (y77 + 1)))
def m_impl_OpAt_l1 (N : Nat) : Nat → ((List UInt8) × Int × Int × Int × Int) → Option (Int × Int)
  | 0, _ => none
  | n1 + 1, (a0, a1, y75, y76, y77) => bif (decide (y77 < 39)) then Option.bind (ix tab_signs y77) fun e107 => Option.bind (bif (decide ((e107.length : Int) > y76)) then Option.bind (cut a0 a1 (a0.length : Int)) fun s111 => Option.bind (m_strings_HasPrefix s111 e107) fun r112 => some r112 else (some false)) fun y110 => bif y110 then m_impl_OpAt_k2 N (m_impl_OpAt_l1 N n1) (a0, a1, y77, (IntKind.wrap .i64 (30 + y77)), (e107.length : Int)) else (m_impl_OpAt_k2 N (m_impl_OpAt_l1 N n1) (a0, a1, y77, y75, y76)) else (some (y75, y76))
def m_impl_OpAt (N : Nat) (a0 : List UInt8) (a1 : Int) : Option (Int × Int) :=
  Option.bind (m_impl_within a1 0 (IntKind.wrap .i64 ((a0.length : Int) - 1))) fun r4 => bif (!r4) then some (0, 0) else (m_impl_OpAt_l1 N N (a0, a1, 0, 0, 0))

/-! ### impl.tokenAt -/
def m_impl_tokenAt_k1 (N : Nat) : ((List UInt8) × Int × Int × Int) → Option SToken
  | (a0, a1, y31, y32) => Option.bind (bif (y31 == 0) then some true else (some (decide (y32 < 0)))) fun y34 => bif y34 then some (⟨0, [], 0⟩ : SToken) else (Option.bind (cut a0 a1 y32) fun s36 => some (⟨y31, s36, a1⟩ : SToken))
def m_impl_tokenAt (N : Nat) (a0 : List UInt8) (a1 : Int) (a2 : Int) : Option SToken :=
  Option.bind (ix a0 a1) fun b38 => bif ((IntKind.wrap .i64 ((b38).toNat : Int)) == 10) then m_impl_tokenAt_k1 N (a0, a1, 1, (IntKind.wrap .i64 (a1 + 1))) else (bif ((IntKind.wrap .i64 ((b38).toNat : Int)) == 35) then Option.bind (cut a0 a1 (a0.length : Int)) fun s41 => Option.bind (m_strings_IndexByte s41 10) fun r42 => bif (decide (r42 ≥ 0)) then m_impl_tokenAt_k1 N (a0, a1, 2, (IntKind.wrap .i64 (a1 + r42))) else (m_impl_tokenAt_k1 N (a0, a1, 2, (a0.length : Int))) else (Option.bind (Option.bind (m_impl_IsDigit (IntKind.wrap .i64 ((b38).toNat : Int))) fun r45 => bif r45 then some true else (some ((IntKind.wrap .i64 ((b38).toNat : Int)) == 46))) fun y44 => bif y44 then Option.bind (m_impl_NumEnd N a0 a1) fun r47 => m_impl_tokenAt_k1 N (a0, a1, 3, r47) else (bif ((IntKind.wrap .i64 ((b38).toNat : Int)) == 34) then Option.bind (m_impl_StrEnd N a0 a1) fun r49 => m_impl_tokenAt_k1 N (a0, a1, 4, r49) else (Option.bind (bif ((IntKind.wrap .i64 ((b38).toNat : Int)) == 47) then Option.bind (m_impl_EndsOperand a2) fun r52 => some (!r52) else (some false)) fun y51 => bif y51 then Option.bind (m_impl_EreEnd N a0 a1) fun r54 => m_impl_tokenAt_k1 N (a0, a1, 5, r54) else (Option.bind (m_impl_IsLetter (IntKind.wrap .i64 ((b38).toNat : Int))) fun r56 => bif r56 then Option.bind (m_impl_NameEnd N a0 a1) fun r58 => Option.bind (cut a0 a1 r58) fun s61 => Option.bind (m_impl_NameShape N s61) fun r62 => bif r62 then Option.bind (m_impl_wordToken N a0 a1 r58) fun r64 => some r64 else (m_impl_tokenAt_k1 N (a0, a1, 0, r58)) else (Option.bind (m_impl_OpAt N a0 a1) fun r66 => m_impl_tokenAt_k1 N (a0, a1, r66.1, (IntKind.wrap .i64 (a1 + r66.2)))))))))

/-! ### impl.lexFrom -/
def m_impl_lexFrom_l1 (N : Nat) : Nat → ((List UInt8) × Int × Int × (List SToken)) → Option ((List SToken) × SFault)
  | 0, _ => none
  | n1 + 1, (a0, y95, y96, y97) => bif (decide (y95 < (a0.length : Int))) then Option.bind (ix a0 y95) fun b134 => Option.bind (m_impl_IsBlank (IntKind.wrap .i64 ((b134).toNat : Int))) fun r135 => bif r135 then (m_impl_lexFrom_l1 N n1) (a0, (IntKind.wrap .i64 (y95 + 1)), y96, y97) else (Option.bind (Option.bind (ix a0 y95) fun b139 => bif (((b139).toNat : Int) == 92) then Option.bind (m_impl_byteAt a0 (IntKind.wrap .i64 (y95 + 1))) fun r140 => some (r140 == 10) else (some false)) fun y138 => bif y138 then (m_impl_lexFrom_l1 N n1) (a0, (IntKind.wrap .i64 (y95 + 2)), y96, y97) else (Option.bind (m_impl_tokenAt N a0 y95 y96) fun r142 => bif (r142.Kind == 0) then some ([], (⟨2, y95⟩ : SFault)) else (Option.bind (app 32 y97 [r142]) fun x144 => (m_impl_lexFrom_l1 N n1) (a0, (IntKind.wrap .i64 (y95 + (r142.Text.length : Int))), r142.Kind, x144)))) else (some (y97, (⟨0, 0⟩ : SFault)))
def m_impl_lexFrom (N : Nat) (a0 : List UInt8) (a1 : Int) (a2 : Int) : Option ((List SToken) × SFault) :=
  m_impl_lexFrom_l1 N N (a0, a1, a2, [])

/-! ### impl.Relex -/
def m_impl_Relex_k1 (N : Nat) : (((List UInt8) × Bool) × (List SToken) × Int × Int) → Option ((List SToken) × SFault)
  | (r2, r10, y13, y14) => Option.bind (m_impl_lexFrom N r2.1 y13 y14) fun r16 => bif (!((r16.2.Kind == 0) && ((r16.2.At == 0) && true))) then some ([], r16.2) else (Option.bind (app 32 r10 r16.1) fun x18 => some (x18, (⟨0, 0⟩ : SFault)))
def m_impl_Relex (N : Nat) (a0 : List SToken) (a1 : List UInt8) (a2 : Int) (a3 : Int) (a4 : List UInt8) : Option ((List SToken) × SFault) :=
  Option.bind (m_impl_Splice a1 a2 a3 a4) fun r2 => Option.bind (bif (!r2.2) then some true else (some (decide ((r2.1.length : Int) > 3000)))) fun y4 => bif y4 then some ([], (⟨1, 0⟩ : SFault)) else (Option.bind (m_impl_KeptTokens N a0 a2) fun r8 => Option.bind (cut a0 0 r8) fun l9 => Option.bind (m_slices_Clone_Token l9) fun r10 => bif (decide ((r10.length : Int) > 0)) then Option.bind (ix r10 (IntKind.wrap .i64 ((r10.length : Int) - 1))) fun e20 => m_impl_Relex_k1 N (r2, r10, (IntKind.wrap .i64 (e20.At + (e20.Text.length : Int))), e20.Kind) else (m_impl_Relex_k1 N (r2, r10, 0, 0)))

/-! ### laws.eqFault -/
def m_laws_eqFault (a0 : SFault) (a1 : SFault) : Option Bool :=
  bif (a0.Kind != a1.Kind) then some false else (bif (a0.At != a1.At) then some false else (some true))

/-! ### laws.markText -/
def m_laws_markText_l1 (N : Nat) : Nat → (Int × (List UInt8)) → Option (List UInt8)
  | 0, _ => none
  | n1 + 1, (y13, y14) => bif (decide (y13 > 0)) then Option.bind (cat [(bytI (IntKind.wrap .i64 (48 + (Int.tmod y13 10))))] y14) fun s20 => (m_laws_markText_l1 N n1) ((IntKind.wrap .i64 (Int.tdiv y13 10)), s20) else (Option.bind (cat ([109] : List UInt8) y14) fun s22 => some s22)
def m_laws_markText (N : Nat) (a0 : Int) : Option (List UInt8) :=
  bif (decide (a0 ≤ 0)) then some [109, 48] else (m_laws_markText_l1 N N (a0, []))

/-! ### laws.markTokenS -/
def m_laws_markTokenS_l1 (N : Nat) : Nat → (Int × Int × (List SToken)) → Option (Int × (List SToken))
  | 0, _ => none
  | n1 + 1, (y119, y120, y121) => bif (decide (y120 < (y121.length : Int))) then Option.bind (ix y121 y120) fun e169 => Option.bind (upd y121 y120 (⟨y119, e169.Text, e169.At⟩ : SToken)) fun x170 => Option.bind (m_laws_markText N (IntKind.wrap .i64 (y119 + 1))) fun r174 => Option.bind (ix x170 y120) fun e175 => Option.bind (upd x170 y120 (⟨e175.Kind, r174, e175.At⟩ : SToken)) fun x176 => Option.bind (ix x176 y120) fun e179 => Option.bind (upd x176 y120 (⟨e179.Kind, e179.Text, (IntKind.wrap .i64 ((IntKind.wrap .i64 (y119 + 1)) + 1))⟩ : SToken)) fun x180 => (m_laws_markTokenS_l1 N n1) ((IntKind.wrap .i64 ((IntKind.wrap .i64 ((IntKind.wrap .i64 (y119 + 1)) + 1)) + 1)), (IntKind.wrap .i64 (y120 + 1)), x180) else (some (y119, y121))
def m_laws_markTokenS (N : Nat) (a1 : Int) (p0 : List SToken) : Option (Int × (List SToken)) :=
  m_laws_markTokenS_l1 N N (a1, 0, p0)

/-! ### laws.heldTokenS -/
def m_laws_heldTokenS_l1 (N : Nat) : Nat → ((List SToken) × Int × Int) → Option Int
  | 0, _ => none
  | n1 + 1, (a0, y133, y134) => bif (decide (y134 < (a0.length : Int))) then Option.bind (ix a0 y134) fun e188 => bif (e188.Kind != y133) then some (-1) else (Option.bind (ix a0 y134) fun e195 => Option.bind (m_laws_markText N (IntKind.wrap .i64 (y133 + 1))) fun r196 => bif (!(e195.Text == r196)) then some (-1) else (Option.bind (ix a0 y134) fun e200 => bif (e200.At != (IntKind.wrap .i64 ((IntKind.wrap .i64 (y133 + 1)) + 1))) then some (-1) else ((m_laws_heldTokenS_l1 N n1) (a0, (IntKind.wrap .i64 ((IntKind.wrap .i64 ((IntKind.wrap .i64 (y133 + 1)) + 1)) + 1)), (IntKind.wrap .i64 (y134 + 1)))))) else (some y133)
def m_laws_heldTokenS (N : Nat) (a0 : List SToken) (a1 : Int) : Option Int :=
  m_laws_heldTokenS_l1 N N (a0, a1, 0)

/-! ### laws.FnExactRelex -/
def m_laws_FnExactRelex (N : Nat) (a0 : List SToken) (a1 : List UInt8) (a2 : Int) (a3 : Int) (a4 : List UInt8) : Option Bool :=
  bif (decide ((a1.length : Int) > 1048576)) then some true else (bif (decide ((a4.length : Int) > 1048576)) then some true else (Option.bind (m_laws_szTokenS N a0 1048576) fun r2 => bif (decide (r2 < 0)) then some true else (Option.bind (m_laws_toTokenS N a0) fun r5 => Option.bind (m_spec_Relex N r5 a1 a2 a3 a4) fun r6 => Option.bind (m_laws_toTokenS N a0) fun r8 => Option.bind (m_impl_Relex N r8 a1 a2 a3 a4) fun r10 => Option.bind (Option.bind (m_laws_eqTokenS N r10.1 r6.1) fun r19 => bif (!r19) then some true else (Option.bind (m_laws_eqFault r10.2 r6.2) fun r20 => some (!r20))) fun y18 => bif y18 then some false else (Option.bind (m_laws_toTokenS N a0) fun r27 => Option.bind (m_laws_eqTokenS N r8 r27) fun r28 => bif (!r28) then some false else (Option.bind (m_laws_markTokenS N 1 r8) fun r30 => Option.bind (bif (decide (r30.1 < 0)) then some true else (Option.bind (m_laws_eqTokenS N r10.1 r6.1) fun r39 => bif (!r39) then some true else (Option.bind (m_laws_eqFault r10.2 r6.2) fun r40 => some (!r40)))) fun y38 => bif y38 then some false else (Option.bind (m_laws_markTokenS N 1 r10.1) fun r42 => Option.bind (m_laws_heldTokenS N r42.2 1) fun r44 => bif (decide (r44 < 0)) then some false else (bif (r44 != r42.1) then some false else (Option.bind (m_laws_toTokenS N a0) fun r47 => Option.bind (m_impl_Relex N r47 a1 a2 a3 a4) fun r48 => Option.bind (Option.bind (m_laws_eqTokenS N r48.1 r6.1) fun r57 => bif (!r57) then some true else (Option.bind (m_laws_eqFault r48.2 r6.2) fun r58 => some (!r58))) fun y56 => bif y56 then some false else (Option.bind (m_laws_heldTokenS N r42.2 1) fun r60 => bif (decide (r60 < 0)) then some false else (bif (r60 != r42.1) then some false else (some true)))))))))))

end Go.Proofs.Tryd

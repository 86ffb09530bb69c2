/-
 Plain lemmas on the models, part 0.
-/
import Derived.Test.YtjhcdnpbmppkkaaGreatDoorCuTL1
namespace Go.Proofs.Tryz
open Go.Av
set_option maxRecDepth 100000
set_option linter.unusedSimpArgs false
set_option linter.unusedVariables false

def mi_IsBlank (a0 : Int) : Option Bool :=
 (bif (a0 == 32) then some true else (some (a0 == 9))).bind fun y1 => some y1

def mi_byteAt (a0 : List UInt8) (a1 : Int) : Option Int :=
 (mi_within a1 0 (IntKind.wrap .i64 ((a0.length : Int) - 1))).bind fun r4 => bif (!r4) then some (-1) else ((ix a0 a1).bind fun b6 => some (IntKind.wrap .i64 ((b6).toNat : Int)))

def m_strings_IndexByte (a0 : List UInt8) (a1 : Int) : Option Int :=
 (m_stringslite_IndexByte a0 a1).bind fun r2 => some r2

def mi_IsDigit (a0 : Int) : Option Bool :=
 (bif (decide (a0 ≥ 48)) then some (decide (a0 ≤ 57)) else (some false)).bind fun y1 => some y1

def mi_digitsEnd_l1 (N : Nat) : Nat → ((List UInt8) × Int) → Option Int
 | 0, _ => none
 | n1 + 1, (a0, a1) => (mi_byteAt a0 a1).bind fun r33 => (mi_IsDigit r33).bind fun r34 => bif r34 then (mi_digitsEnd_l1 N n1) (a0, (IntKind.wrap .i64 (a1 + 1))) else (some a1)
def mi_digitsEnd (N : Nat) (a0 : List UInt8) (a1 : Int) : Option Int :=
 mi_digitsEnd_l1 N N (a0, a1)

def mi_NumEnd_k2 (N : Nat) : Int → Option Int
 | y11 => some y11
def mi_NumEnd_k3 (N : Nat) : ((List UInt8) × Int × Int) → Option Int
 | (a0, y11, y31) => (mi_digitsEnd N a0 y31).bind fun r33 => bif (decide (r33 > y31)) then some r33 else (mi_NumEnd_k2 N y11)
def mi_NumEnd_k1 (N : Nat) : ((List UInt8) × Int × Int) → Option Int
 | (a0, y11, y12) => bif (y12 == 0) then some (-1) else ((mi_byteAt a0 y11).bind fun r26 => (bif (r26 == 101) then some true else (some (r26 == 69))).bind fun y27 => bif y27 then (mi_byteAt a0 (IntKind.wrap .i64 (y11 + 1))).bind fun r35 => (bif (r35 == 43) then some true else (some (r35 == 45))).bind fun y36 => bif y36 then mi_NumEnd_k3 N (a0, y11, (IntKind.wrap .i64 ((IntKind.wrap .i64 (y11 + 1)) + 1))) else (mi_NumEnd_k3 N (a0, y11, (IntKind.wrap .i64 (y11 + 1)))) else (mi_NumEnd_k2 N y11))
def mi_NumEnd (N : Nat) (a0 : List UInt8) (a1 : Int) : Option Int :=
 (mi_within a1 0 (IntKind.wrap .i64 ((a0.length : Int) - 1))).bind fun r4 => bif (!r4) then some (-1) else ((mi_digitsEnd N a0 a1).bind fun r6 => (mi_byteAt a0 r6).bind fun r38 => bif (r38 == 46) then (mi_digitsEnd N a0 (IntKind.wrap .i64 (r6 + 1))).bind fun r40 => mi_NumEnd_k1 N (a0, r40, (IntKind.wrap .i64 ((IntKind.wrap .i64 (r6 - a1)) + (IntKind.wrap .i64 ((IntKind.wrap .i64 (r40 - r6)) - 1))))) else (mi_NumEnd_k1 N (a0, r6, (IntKind.wrap .i64 (r6 - a1)))))

def mi_quotedEnd_k2 (N : Nat) (kb1 : ((List UInt8) × Int × Int) → Option Int) : ((List UInt8) × Int × Int) → Option Int
 | (a0, a2, y127) => kb1 (a0, a2, (IntKind.wrap .i64 (y127 + 1)))
def mi_quotedEnd_l1 (N : Nat) : Nat → ((List UInt8) × Int × Int) → Option Int
 | 0, _ => none
 | n1 + 1, (a0, a2, y91) => (bif (decide (y91 < (a0.length : Int))) then (ix a0 y91).bind fun b119 => some (((b119).toNat : Int) != 10) else (some false)).bind fun y118 => bif y118 then (ix a0 y91).bind fun b129 => bif ((IntKind.wrap .i64 ((b129).toNat : Int)) == a2) then some (IntKind.wrap .i64 (y91 + 1)) else (((ix a0 y91).bind fun b133 => bif (((b133).toNat : Int) == 92) then (mi_byteAt a0 (IntKind.wrap .i64 (y91 + 1))).bind fun r134 => some (r134 != 10) else (some false)).bind fun y132 => bif y132 then mi_quotedEnd_k2 N (mi_quotedEnd_l1 N n1) (a0, a2, (IntKind.wrap .i64 (y91 + 1))) else (mi_quotedEnd_k2 N (mi_quotedEnd_l1 N n1) (a0, a2, y91))) else (some (-1))
def mi_quotedEnd (N : Nat) (a0 : List UInt8) (a1 : Int) (a2 : Int) : Option Int :=
 (mi_byteAt a0 a1).bind fun r4 => bif (r4 != a2) then some (-1) else (mi_quotedEnd_l1 N N (a0, a2, (IntKind.wrap .i64 (a1 + 1))))

def mi_StrEnd (N : Nat) (a0 : List UInt8) (a1 : Int) : Option Int :=
 (mi_quotedEnd N a0 a1 34).bind fun r2 => some r2

def mi_EndsOperand_k1 : Bool → Option Bool
 | y2 => bif y2 then some true else (some false)
def mi_EndsOperand (a0 : Int) : Option Bool :=
 bif (a0 == 3) then mi_EndsOperand_k1 (a0 == 3) else (bif (a0 == 4) then mi_EndsOperand_k1 (a0 == 4) else (bif (a0 == 5) then mi_EndsOperand_k1 (a0 == 5) else (bif (a0 == 6) then mi_EndsOperand_k1 (a0 == 6) else (bif (a0 == 8) then mi_EndsOperand_k1 (a0 == 8) else (bif (a0 == 33) then mi_EndsOperand_k1 (a0 == 33) else (bif (a0 == 35) then mi_EndsOperand_k1 (a0 == 35) else (bif (a0 == 51) then mi_EndsOperand_k1 (a0 == 51) else (mi_EndsOperand_k1 (a0 == 52)))))))))

def mi_EreEnd (N : Nat) (a0 : List UInt8) (a1 : Int) : Option Int :=
 (mi_quotedEnd N a0 a1 47).bind fun r2 => bif (r2 == (IntKind.wrap .i64 (a1 + 2))) then some (-1) else (some r2)

def mi_IsLetter (a0 : Int) : Option Bool :=
 (bif (decide (a0 ≥ 97)) then bif (decide (a0 ≤ 122)) then some true else (bif (decide (a0 ≥ 65)) then bif (decide (a0 ≤ 90)) then some true else (some (a0 == 95)) else (some (a0 == 95))) else (bif (decide (a0 ≥ 65)) then bif (decide (a0 ≤ 90)) then some true else (some (a0 == 95)) else (some (a0 == 95)))).bind fun y1 => some y1

def mi_IsWordByte (a0 : Int) : Option Bool :=
 ((mi_IsLetter a0).bind fun r4 => bif r4 then some true else ((mi_IsDigit a0).bind fun r5 => some r5)).bind fun y3 => some y3

def mi_NameEnd_l1 (N : Nat) : Nat → ((List UInt8) × Int) → Option Int
 | 0, _ => none
 | n1 + 1, (a0, a1) => (mi_byteAt a0 a1).bind fun r41 => (mi_IsWordByte r41).bind fun r42 => bif r42 then (mi_NameEnd_l1 N n1) (a0, (IntKind.wrap .i64 (a1 + 1))) else (some a1)
def mi_NameEnd (N : Nat) (a0 : List UInt8) (a1 : Int) : Option Int :=
 (mi_byteAt a0 a1).bind fun r7 => (mi_IsLetter r7).bind fun r8 => bif (!r8) then some (-1) else (mi_NameEnd_l1 N N (a0, a1))

def mi_NameShape_l1 (N : Nat) : Nat → ((List UInt8) × Int) → Option Bool
 | 0, _ => none
 | n1 + 1, (a0, y35) => bif (decide (y35 < (a0.length : Int))) then (ix a0 y35).bind fun b51 => (mi_IsWordByte (IntKind.wrap .i64 ((b51).toNat : Int))).bind fun r52 => bif (!r52) then some false else ((mi_NameShape_l1 N n1) (a0, (IntKind.wrap .i64 (y35 + 1)))) else (((mi_within (a0.length : Int) 1 12).bind fun r57 => bif r57 then (ix a0 0).bind fun b58 => (mi_IsLetter (IntKind.wrap .i64 ((b58).toNat : Int))).bind fun r59 => some r59 else (some false)).bind fun y56 => some y56)
def mi_NameShape (N : Nat) (a0 : List UInt8) : Option Bool :=
 mi_NameShape_l1 N N (a0, 0)

def m_slices_Index_string_l1 (N : Nat) : Nat → ((List (List UInt8)) × (List UInt8) × Int) → Option Int
 | 0, _ => none
 | n1 + 1, (a0, a1, y19) => bif (decide (y19 < (a0.length : Int))) then (ix a0 y19).bind fun e28 => bif (a1 == e28) then some y19 else ((m_slices_Index_string_l1 N n1) (a0, a1, (IntKind.wrap .i64 (y19 + 1)))) else (some (-1))
def m_slices_Index_string (N : Nat) (a0 : List (List UInt8)) (a1 : List UInt8) : Option Int :=
 m_slices_Index_string_l1 N N (a0, a1, 0)

def mi_KeywordOf (N : Nat) (a0 : List UInt8) : Option Int :=
 (m_slices_Index_string N tab_keywords a0).bind fun r2 => bif (decide (r2 < 0)) then some 0 else (some (IntKind.wrap .i64 (10 + r2)))

def m_slices_Contains_string (N : Nat) (a0 : List (List UInt8)) (a1 : List UInt8) : Option Bool :=
 (m_slices_Index_string N a0 a1).bind fun r2 => some (decide (r2 ≥ 0))

def mi_IsBuiltin (N : Nat) (a0 : List UInt8) : Option Bool :=
 (m_slices_Contains_string N tab_builtins a0).bind fun r2 => some r2

def mi_wordToken (N : Nat) (a0 : List UInt8) (a1 : Int) (a2 : Int) : Option SToken :=
 (cut a0 a1 a2).bind fun s2 => (mi_KeywordOf N s2).bind fun r12 => bif (r12 != 0) then (mi_KeywordOf N s2).bind fun r14 => some (⟨r14, s2, a1⟩ : SToken) else ((mi_IsBuiltin N s2).bind fun r16 => bif r16 then some (⟨8, s2, a1⟩ : SToken) else ((mi_byteAt a0 a2).bind fun r18 => bif (r18 == 40) then some (⟨7, s2, a1⟩ : SToken) else (some (⟨6, s2, a1⟩ : SToken))))

def m_stringslite_HasPrefix (a0 : List UInt8) (a1 : List UInt8) : Option Bool :=
 (bif (decide ((a0.length : Int) ≥ (a1.length : Int))) then (cut a0 0 (a1.length : Int)).bind fun s3 => some (s3 == a1) else (some false)).bind fun y2 => some y2

def m_strings_HasPrefix (a0 : List UInt8) (a1 : List UInt8) : Option Bool :=
 (m_stringslite_HasPrefix a0 a1).bind fun r2 => some r2

def mi_OpAt_k2 (N : Nat) (kb1 : ((List UInt8) × Int × Int × Int × Int) → Option (Int × Int)) : ((List UInt8) × Int × Int × Int × Int) → Option (Int × Int)
 | (a0, a1, y77, y104, y105) => kb1 (a0, a1, y104, y105, (IntKind.wrap .i64 (y77 + 1)))
def mi_OpAt_l1 (N : Nat) : Nat → ((List UInt8) × Int × Int × Int × Int) → Option (Int × Int)
 | 0, _ => none
 | n1 + 1, (a0, a1, y75, y76, y77) => bif (decide (y77 < 39)) then (ix tab_signs y77).bind fun e107 => (bif (decide ((e107.length : Int) > y76)) then (cut a0 a1 (a0.length : Int)).bind fun s111 => (m_strings_HasPrefix s111 e107).bind fun r112 => some r112 else (some false)).bind fun y110 => bif y110 then mi_OpAt_k2 N (mi_OpAt_l1 N n1) (a0, a1, y77, (IntKind.wrap .i64 (30 + y77)), (e107.length : Int)) else (mi_OpAt_k2 N (mi_OpAt_l1 N n1) (a0, a1, y77, y75, y76)) else (some (y75, y76))
def mi_OpAt (N : Nat) (a0 : List UInt8) (a1 : Int) : Option (Int × Int) :=
 (mi_within a1 0 (IntKind.wrap .i64 ((a0.length : Int) - 1))).bind fun r4 => bif (!r4) then some (0, 0) else (mi_OpAt_l1 N N (a0, a1, 0, 0, 0))

def mi_tokenAt_k1 (N : Nat) : ((List UInt8) × Int × Int × Int) → Option SToken
 | (a0, a1, y31, y32) => (bif (y31 == 0) then some true else (some (decide (y32 < 0)))).bind fun y34 => bif y34 then some (⟨0, [], 0⟩ : SToken) else ((cut a0 a1 y32).bind fun s36 => some (⟨y31, s36, a1⟩ : SToken))
def mi_tokenAt (N : Nat) (a0 : List UInt8) (a1 : Int) (a2 : Int) : Option SToken :=
 (ix a0 a1).bind fun b38 => bif ((IntKind.wrap .i64 ((b38).toNat : Int)) == 10) then mi_tokenAt_k1 N (a0, a1, 1, (IntKind.wrap .i64 (a1 + 1))) else (bif ((IntKind.wrap .i64 ((b38).toNat : Int)) == 35) then (cut a0 a1 (a0.length : Int)).bind fun s41 => (m_strings_IndexByte s41 10).bind fun r42 => bif (decide (r42 ≥ 0)) then mi_tokenAt_k1 N (a0, a1, 2, (IntKind.wrap .i64 (a1 + r42))) else (mi_tokenAt_k1 N (a0, a1, 2, (a0.length : Int))) else (((mi_IsDigit (IntKind.wrap .i64 ((b38).toNat : Int))).bind fun r45 => bif r45 then some true else (some ((IntKind.wrap .i64 ((b38).toNat : Int)) == 46))).bind fun y44 => bif y44 then (mi_NumEnd N a0 a1).bind fun r47 => mi_tokenAt_k1 N (a0, a1, 3, r47) else (bif ((IntKind.wrap .i64 ((b38).toNat : Int)) == 34) then (mi_StrEnd N a0 a1).bind fun r49 => mi_tokenAt_k1 N (a0, a1, 4, r49) else ((bif ((IntKind.wrap .i64 ((b38).toNat : Int)) == 47) then (mi_EndsOperand a2).bind fun r52 => some (!r52) else (some false)).bind fun y51 => bif y51 then (mi_EreEnd N a0 a1).bind fun r54 => mi_tokenAt_k1 N (a0, a1, 5, r54) else ((mi_IsLetter (IntKind.wrap .i64 ((b38).toNat : Int))).bind fun r56 => bif r56 then (mi_NameEnd N a0 a1).bind fun r58 => (cut a0 a1 r58).bind fun s61 => (mi_NameShape N s61).bind fun r62 => bif r62 then (mi_wordToken N a0 a1 r58).bind fun r64 => some r64 else (mi_tokenAt_k1 N (a0, a1, 0, r58)) else ((mi_OpAt N a0 a1).bind fun r66 => mi_tokenAt_k1 N (a0, a1, r66.1, (IntKind.wrap .i64 (a1 + r66.2)))))))))

def mi_lexFrom_l1 (N : Nat) : Nat → ((List UInt8) × Int × Int × (List SToken)) → Option ((List SToken) × SFault)
 | 0, _ => none
 | n1 + 1, (a0, y95, y96, y97) => bif (decide (y95 < (a0.length : Int))) then (ix a0 y95).bind fun b134 => (mi_IsBlank (IntKind.wrap .i64 ((b134).toNat : Int))).bind fun r135 => bif r135 then (mi_lexFrom_l1 N n1) (a0, (IntKind.wrap .i64 (y95 + 1)), y96, y97) else (((ix a0 y95).bind fun b139 => bif (((b139).toNat : Int) == 92) then (mi_byteAt a0 (IntKind.wrap .i64 (y95 + 1))).bind fun r140 => some (r140 == 10) else (some false)).bind fun y138 => bif y138 then (mi_lexFrom_l1 N n1) (a0, (IntKind.wrap .i64 (y95 + 2)), y96, y97) else ((mi_tokenAt N a0 y95 y96).bind fun r142 => bif (r142.Kind == 0) then some ([], (⟨2, y95⟩ : SFault)) else ((app 32 y97 [r142]).bind fun x144 => (mi_lexFrom_l1 N n1) (a0, (IntKind.wrap .i64 (y95 + (r142.Text.length : Int))), r142.Kind, x144)))) else (some (y97, (⟨0, 0⟩ : SFault)))
def mi_lexFrom (N : Nat) (a0 : List UInt8) (a1 : Int) (a2 : Int) : Option ((List SToken) × SFault) :=
 mi_lexFrom_l1 N N (a0, a1, a2, [])

def mi_Lex (N : Nat) (a0 : List UInt8) : Option ((List SToken) × SFault) :=
 bif (decide ((a0.length : Int) > 3000)) then some ([], (⟨1, 0⟩ : SFault)) else ((mi_lexFrom N a0 0 0).bind fun r2 => some (r2.1, r2.2))


end Go.Proofs.Tryz

/-
  Models of the functions that this seat reaches.
-/
import Derived.Test.YtdmegpnacdgeoaaDoorTab
import Derived.Test.YtdmegpnacdgeoaaDoorCore6
namespace Go.Proofs.Tryd
open Go.Av
set_option maxRecDepth 100000
set_option maxHeartbeats 8000000
set_option linter.unusedSimpArgs false
set_option linter.unusedVariables false

def GG : Nat → Option (List V)
  | 3 => some (Lib.pow10Tab.map (numV .u64))
  | _ => none
def GS (l : List Nat) (g : Nat) : Option (List V) := bif l.contains g then GG g else none

theorem AC.gs {f : FuncId} {vs : List V} {H : Hp} {r : V} {H1 : Hp} {l l1 : List Nat} (h : AC Tryd.prog (GS l) f vs H r H1) (hs : (l.all fun g => l1.contains g) = true) : AC Tryd.prog (GS l1) f vs H r H1 := by
  refine Go.Av.AC.mono h fun g cs hg => ?_
  unfold GS at hg ⊢
  cases hc : l.contains g with
  | false => rw [hc] at hg; cases hg
  | true =>
    rw [hc] at hg
    have := List.all_eq_true.1 hs g (List.contains_iff_mem.1 hc)
    rw [this]
    exact hg

theorem mix : Tryd.prog.follows .mixedOrders = true := by kernel_rfl

structure SFault where
  Kind : Int
  At : Int
  deriving DecidableEq, Inhabited

def encSFault (x : SFault) : List V := [V.int x.Kind, V.int x.At]

/-! ### laws.toFault -/
def m_laws_toFault (a0 : SFault) : Option SFault :=
  some a0

/-! ### spec.l1In -/
def m_spec_l1In (a0 : Int) (a1 : Int) (a2 : Int) : Option Bool :=
  Option.bind (bif (decide (a0 ≥ a1)) then some (decide (a0 ≤ a2)) else (some false)) fun y1 => some y1

/-! ### spec.LineCol -/
def m_spec_LineCol_k2 (N : Nat) (kb1 : ((List UInt8) × Int × Int × Int × Int) → Option (Int × Int)) : ((List UInt8) × Int × Int × Int × Int) → Option (Int × Int)
  | (a0, a1, y37, y49, y50) => kb1 (a0, a1, y49, y50, (IntKind.wrap .i64 (y37 + 1)))
def m_spec_LineCol_l1 (N : Nat) : Nat → ((List UInt8) × Int × Int × Int × Int) → Option (Int × Int)
  | 0, _ => none
  | n1 + 1, (a0, a1, y35, y36, y37) => bif (decide (y37 < a1)) then Option.bind (ix a0 y37) fun b52 => bif (((b52).toNat : Int) == 10) then m_spec_LineCol_k2 N (m_spec_LineCol_l1 N n1) (a0, a1, y37, (IntKind.wrap .i64 (y35 + 1)), (IntKind.wrap .i64 (y37 + 1))) else (m_spec_LineCol_k2 N (m_spec_LineCol_l1 N n1) (a0, a1, y37, y35, y36)) else (some (y35, (IntKind.wrap .i64 ((IntKind.wrap .i64 (a1 - y36)) + 1))))
def m_spec_LineCol (N : Nat) (a0 : List UInt8) (a1 : Int) : Option (Int × Int) :=
  Option.bind (m_spec_l1In a1 0 (a0.length : Int)) fun r4 => bif (!r4) then some (0, 0) else (m_spec_LineCol_l1 N N (a0, a1, 1, 0, 0))

/-! ### spec.FaultWord -/
def m_spec_FaultWord (a0 : Int) : Option (List UInt8) :=
  Option.bind (m_spec_l1In a0 0 4) fun r4 => bif (!r4) then some [] else (Option.bind (ix [[110, 111, 110, 101], [108, 97, 114, 103, 101], [108, 101, 120], [115, 121, 110, 116, 97, 120], [100, 101, 101, 112]] a0) fun e6 => some e6)

/-! ### spec.Dec -/
def m_spec_Dec_k2 (N : Nat) (kb1 : (Int × Int × (List UInt8)) → Option (List UInt8)) : (Int × (List UInt8) × Int × Int) → Option (List UInt8)
  | (y17, y18, a0, y24) => Option.bind (cat [(bytI (IntKind.wrap .i64 (48 + y24)))] y18) fun s26 => kb1 (a0, (IntKind.wrap .i64 (Int.tdiv y17 10)), s26)
def m_spec_Dec_l1 (N : Nat) : Nat → (Int × Int × (List UInt8)) → Option (List UInt8)
  | 0, _ => none
  | n1 + 1, (a0, y17, y18) => bif (y17 != 0) then bif (decide ((Int.tmod y17 10) < 0)) then m_spec_Dec_k2 N (m_spec_Dec_l1 N n1) (y17, y18, a0, (IntKind.wrap .i64 (0 - (Int.tmod y17 10)))) else (m_spec_Dec_k2 N (m_spec_Dec_l1 N n1) (y17, y18, a0, (Int.tmod y17 10))) else (bif (decide (a0 < 0)) then Option.bind (cat ([45] : List UInt8) y18) fun s30 => some s30 else (some y18))
def m_spec_Dec (N : Nat) (a0 : Int) : Option (List UInt8) :=
  bif (a0 == 0) then some [48] else (m_spec_Dec_l1 N N (a0, a0, []))

/-! ### spec.FaultText -/
def m_spec_FaultText (N : Nat) (a0 : List UInt8) (a1 : SFault) : Option (List UInt8) :=
  Option.bind (m_spec_LineCol N a0 a1.At) fun r2 => Option.bind (bif (a1.Kind == 0) then some true else (Option.bind (m_spec_FaultWord a1.Kind) fun r8 => bif (r8 == []) then some true else (some (r2.1 == 0)))) fun y7 => bif y7 then some [] else (Option.bind (m_spec_Dec N r2.1) fun r16 => Option.bind (cat r16 ([58] : List UInt8)) fun s17 => Option.bind (m_spec_Dec N r2.2) fun r18 => Option.bind (cat s17 r18) fun s19 => Option.bind (cat s19 ([32] : List UInt8)) fun s20 => Option.bind (m_spec_FaultWord a1.Kind) fun r21 => Option.bind (cat s20 r21) fun s22 => some s22)

/-! ### impl.within -/
def m_impl_within (a0 : Int) (a1 : Int) (a2 : Int) : Option Bool :=
  Option.bind (bif (decide (a0 ≥ a1)) then some (decide (a0 ≤ a2)) else (some false)) fun y1 => some y1

/-! ### strings.Count -/
def m_strings_Count (a0 : List UInt8) : Option Int :=
  Option.bind (ix ([10] : List UInt8) 0) fun b4 => some ((Go.Lib.countByte a0 (Int.toNat ((b4).toNat : Int)).toUInt8) : Int)

/-! ### bytealg.LastIndexByteString -/
def m_bytealg_LastIndexByteString_l1 (N : Nat) : Nat → ((List UInt8) × Int × Int) → Option Int
  | 0, _ => none
  | n1 + 1, (a0, a1, y19) => bif (decide (y19 ≥ 0)) then Option.bind (ix a0 y19) fun b28 => bif (((b28).toNat : Int) == a1) then some y19 else ((m_bytealg_LastIndexByteString_l1 N n1) (a0, a1, (IntKind.wrap .i64 (y19 - 1)))) else (some (-1))
def m_bytealg_LastIndexByteString (N : Nat) (a0 : List UInt8) (a1 : Int) : Option Int :=
  m_bytealg_LastIndexByteString_l1 N N (a0, a1, (IntKind.wrap .i64 ((a0.length : Int) - 1)))

/-! ### strings.LastIndexByte -/
def m_strings_LastIndexByte (N : Nat) (a0 : List UInt8) (a1 : Int) : Option Int :=
  Option.bind (m_bytealg_LastIndexByteString N a0 a1) fun r2 => some r2

/-! ### impl.LineCol -/
def m_impl_LineCol (N : Nat) (a0 : List UInt8) (a1 : Int) : Option (Int × Int) :=
  Option.bind (m_impl_within a1 0 (a0.length : Int)) fun r4 => bif (!r4) then some (0, 0) else (Option.bind (cut a0 0 a1) fun s9 => Option.bind (m_strings_Count s9) fun r10 => Option.bind (cut a0 0 a1) fun s11 => Option.bind (m_strings_LastIndexByte N s11 10) fun r12 => some ((IntKind.wrap .i64 (r10 + 1)), (IntKind.wrap .i64 (a1 - r12))))

/-! ### impl.FaultWord -/
def m_impl_FaultWord (a0 : Int) : Option (List UInt8) :=
  Option.bind (m_impl_within a0 0 4) fun r4 => bif (!r4) then some [] else (Option.bind (ix [[110, 111, 110, 101], [108, 97, 114, 103, 101], [108, 101, 120], [115, 121, 110, 116, 97, 120], [100, 101, 101, 112]] a0) fun e6 => some e6)

/-! ### strconv.Itoa -/
def m_strconv_Itoa (a0 : Int) : Option (List UInt8) :=
  itoaO a0

/-! ### impl.Dec -/
def m_impl_Dec (a0 : Int) : Option (List UInt8) :=
  Option.bind (m_strconv_Itoa a0) fun r2 => some r2

/-! ### impl.FaultText -/
def m_impl_FaultText (N : Nat) (a0 : List UInt8) (a1 : SFault) : Option (List UInt8) :=
  Option.bind (m_impl_LineCol N a0 a1.At) fun r2 => Option.bind (bif (a1.Kind == 0) then some true else (Option.bind (m_impl_FaultWord a1.Kind) fun r8 => bif (r8 == []) then some true else (some (r2.1 == 0)))) fun y7 => bif y7 then some [] else (Option.bind (m_impl_Dec r2.1) fun r16 => Option.bind (cat r16 ([58] : List UInt8)) fun s17 => Option.bind (m_impl_Dec r2.2) fun r18 => Option.bind (cat s17 r18) fun s19 => Option.bind (cat s19 ([32] : List UInt8)) fun s20 => Option.bind (m_impl_FaultWord a1.Kind) fun r21 => Option.bind (cat s20 r21) fun s22 => some s22)

/-! ### laws.FnExactFaultText -/
def m_laws_FnExactFaultText (N : Nat) (a0 : List UInt8) (a1 : SFault) : Option Bool :=
  bif (decide ((a0.length : Int) > 1048576)) then some true else (Option.bind (m_laws_toFault a1) fun r3 => Option.bind (m_spec_FaultText N a0 r3) fun r4 => Option.bind (m_laws_toFault a1) fun r7 => Option.bind (m_impl_FaultText N a0 r7) fun r8 => bif (!(r8 == r4)) then some false else (some true))

end Go.Proofs.Tryd

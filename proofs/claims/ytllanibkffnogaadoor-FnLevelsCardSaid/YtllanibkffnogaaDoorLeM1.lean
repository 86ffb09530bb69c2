/-
  Models of the functions that this seat reaches.
-/
import Derived.Test.YtllanibkffnogaaDoorTab
import Derived.Test.YtllanibkffnogaaDoorCore6
namespace Go.Proofs.Tryd
open Go.Av
set_option maxRecDepth 100000
set_option maxHeartbeats 8000000
set_option linter.unusedSimpArgs false
set_option linter.unusedVariables false

def tab_keywords : List (List UInt8) := [[66, 69, 71, 73, 78], [69, 78, 68], [102, 117, 110, 99, 116, 105, 111, 110], [105, 102], [101, 108, 115, 101], [119, 104, 105, 108, 101], [102, 111, 114], [100, 111], [98, 114, 101, 97, 107], [99, 111, 110, 116, 105, 110, 117, 101], [110, 101, 120, 116], [101, 120, 105, 116], [114, 101, 116, 117, 114, 110], [100, 101, 108, 101, 116, 101], [105, 110], [112, 114, 105, 110, 116], [112, 114, 105, 110, 116, 102]]
def tab_signs : List (List UInt8) := [[123], [125], [40], [41], [91], [93], [44], [59], [43, 61], [45, 61], [42, 61], [47, 61], [37, 61], [94, 61], [124, 124], [38, 38], [33, 126], [61, 61], [60, 61], [62, 61], [33, 61], [43, 43], [45, 45], [62, 62], [61], [43], [45], [42], [47], [37], [94], [33], [62], [60], [124], [63], [58], [126], [36]]
def tab_builtins : List (List UInt8) := [[97, 116, 97, 110, 50], [99, 108, 111, 115, 101], [99, 111, 115], [101, 120, 112], [103, 115, 117, 98], [105, 110, 100, 101, 120], [105, 110, 116], [108, 101, 110, 103, 116, 104], [108, 111, 103], [109, 97, 116, 99, 104], [114, 97, 110, 100], [115, 105, 110], [115, 112, 108, 105, 116], [115, 112, 114, 105, 110, 116, 102], [115, 113, 114, 116], [115, 114, 97, 110, 100], [115, 117, 98], [115, 117, 98, 115, 116, 114], [115, 121, 115, 116, 101, 109], [116, 111, 108, 111, 119, 101, 114], [116, 111, 117, 112, 112, 101, 114]]
def GG : Nat → Option (List V)
  | 0 => some (tab_keywords.map V.str)
  | 1 => some (tab_signs.map V.str)
  | 5 => some (tab_builtins.map V.str)
  | _ => none
def GS (l : List Nat) (g : Nat) : Option (List V) := bif l.contains g then GG g else none

theorem AC.gs {f : FuncId} {vs : List V} {H : Hp} {r : V} {H1 : Hp} {l l1 : List Nat} (h : AC Tryd.prog (GS l) f vs H r H1) (hs : (l.all fun g => l1.contains g) = true) : AC Tryd.prog (GS l1) f vs H r H1 := by
  refine Go.Av.AC.mono h fun g cs hg => ?_
  unfold GS at hg ⊢
  cases hc : l.contains g with
  | false => rw [hc] at hg; cases hg
  | true =>
    rw [hc] at hg
    have := List.all_eq_true.1 hs g (List.contains_iff_mem.1 hc)
    rw [this]
    exact hg

theorem mix : Tryd.prog.follows .mixedOrders = true := by kernel_rfl

structure SToken where
  Kind : Int
  Text : List UInt8
  At : Int
  deriving DecidableEq, Inhabited

def encSToken (x : SToken) : List V := [V.int x.Kind, V.str x.Text, V.int x.At]

structure SFault where
  Kind : Int
  At : Int
  deriving DecidableEq, Inhabited

def encSFault (x : SFault) : List V := [V.int x.Kind, V.int x.At]

structure SNode where
  Kind : Int
  Op : Int
  Text : List UInt8
  Other : List UInt8
  Kids : List Int
  deriving DecidableEq, Inhabited

def encSNode (b : Bool) (x : SNode) : List V := [V.int x.Kind, V.int x.Op, V.str x.Text, V.str x.Other, .sl false b (x.Kids.map encI)]

theorem share_encSNode (b : Bool) (x : SNode) : V.shareL (encSNode b x) = encSNode false x := by
  simp only [encSNode, V.shareL, V.share, V.int, V.str, V.bool, shareR_map (enc := encI) (enc' := encI) (fun _ => rfl)]

structure SPos where
  Level : Int
  Dollar : Bool
  NoIn : Bool
  NoGt : Bool
  NoSign : Bool
  deriving DecidableEq, Inhabited

def encSPos (x : SPos) : List V := [V.int x.Level, V.bool x.Dollar, V.bool x.NoIn, V.bool x.NoGt, V.bool x.NoSign]

structure SRules where
  noIn : Bool
  noGt : Bool
  deriving DecidableEq, Inhabited

def encSRules (x : SRules) : List V := [V.bool x.noIn, V.bool x.noGt]

structure STree where
  kind : Int
  op : Int
  text : List UInt8
  other : List UInt8
  kids : List STree

instance : Inhabited STree := ⟨⟨0, 0, [], [], []⟩⟩

theorem STree.lt (x : STree) (y : STree) (h : y ∈ x.kids) : SizeOf.sizeOf y < SizeOf.sizeOf x := by
  have := List.sizeOf_lt_of_mem h
  cases x
  simp only [STree.mk.sizeOf_spec] at *
  omega

def encSTree (x : STree) : List V := [V.int x.kind, V.int x.op, V.str x.text, V.str x.other, .sl false false (x.kids.attach.map fun y => encSTree y.1)]
termination_by SizeOf.sizeOf x
decreasing_by exact STree.lt x y.1 y.2

theorem encSTree_eq (x : STree) : encSTree x = [V.int x.kind, V.int x.op, V.str x.text, V.str x.other, .sl false false (x.kids.map encSTree)] := by
  rw [encSTree]
  simp only [List.attach_map_val (f := encSTree), List.map_attach_eq_pmap, List.pmap_eq_map]

theorem share_encSTree (x : STree) : V.shareL (encSTree x) = encSTree x := by
  have hk : x.kids.map (V.shareL ∘ encSTree) = x.kids.map encSTree := List.map_congr_left fun y hy => share_encSTree y
  rw [encSTree_eq]
  simp only [V.shareL, V.share, V.shareR_eq, V.int, V.str, V.bool, List.map_map]
  rw [hk]
termination_by SizeOf.sizeOf x
decreasing_by exact STree.lt x y hy

structure SPart where
  tree : STree
  target : Bool
  deriving Inhabited

def encSPart (x : SPart) : List V := [V.int x.tree.kind, V.int x.tree.op, V.str x.tree.text, V.str x.tree.other, .sl false false (x.tree.kids.map encSTree), V.bool x.target]

theorem share_encSPart (x : SPart) : V.shareL (encSPart x) = encSPart x := by
  simp only [encSPart, V.shareL, V.share, V.int, V.str, V.bool, shareR_map (enc := encSTree) (enc' := encSTree) (share_encSTree)]

/-! ### laws.big -/
def m_laws_big (a0 : List UInt8) : Option Bool :=
  some (decide ((a0.length : Int) > 1048576))

/-! ### laws.at -/
def m_laws_at (a0 : List UInt8) (a1 : Int) : Option Int :=
  bif (decide (a1 < (a0.length : Int))) then Option.bind (ix a0 a1) fun e4 => some (IntKind.wrap .i64 ((e4).toNat : Int)) else (some (Int.tmod (IntKind.wrap .i64 ((IntKind.wrap .i64 (a1 * 37)) + (IntKind.wrap .i64 ((a0.length : Int) * 11)))) 256))

/-! ### impl.OpLevel -/
def m_impl_OpLevel_k4 : (Int × Bool) → Option Int
  | (a0, y8) => bif y8 then some 10 else (bif (a0 == 60) then some 12 else (some 0))
def m_impl_OpLevel_k3 : (Int × Bool) → Option Int
  | (a0, y7) => bif y7 then some 9 else (bif (a0 == 57) then m_impl_OpLevel_k4 (a0, (a0 == 57)) else (bif (a0 == 58) then m_impl_OpLevel_k4 (a0, (a0 == 58)) else (m_impl_OpLevel_k4 (a0, (a0 == 59)))))
def m_impl_OpLevel_k2 : (Int × Bool) → Option Int
  | (a0, y6) => bif y6 then some 7 else (bif (a0 == 99) then some 8 else (bif (a0 == 55) then m_impl_OpLevel_k3 (a0, (a0 == 55)) else (m_impl_OpLevel_k3 (a0, (a0 == 56)))))
def m_impl_OpLevel_k1 : (Int × Bool) → Option Int
  | (a0, y5) => bif y5 then some 6 else (bif (a0 == 63) then m_impl_OpLevel_k2 (a0, (a0 == 63)) else (bif (a0 == 48) then m_impl_OpLevel_k2 (a0, (a0 == 48)) else (bif (a0 == 47) then m_impl_OpLevel_k2 (a0, (a0 == 47)) else (bif (a0 == 50) then m_impl_OpLevel_k2 (a0, (a0 == 50)) else (bif (a0 == 62) then m_impl_OpLevel_k2 (a0, (a0 == 62)) else (m_impl_OpLevel_k2 (a0, (a0 == 49))))))))
def m_impl_OpLevel (a0 : Int) : Option Int :=
  bif (a0 == 44) then some 3 else (bif (a0 == 45) then some 4 else (bif (a0 == 67) then m_impl_OpLevel_k1 (a0, (a0 == 67)) else (m_impl_OpLevel_k1 (a0, (a0 == 46)))))

/-! ### impl.within -/
def m_impl_within (a0 : Int) (a1 : Int) (a2 : Int) : Option Bool :=
  Option.bind (bif (decide (a0 ≥ a1)) then some (decide (a0 ≤ a2)) else (some false)) fun y1 => some y1

/-! ### impl.isAssign -/
def m_impl_isAssign (a0 : Int) : Option Bool :=
  Option.bind (bif (a0 == 54) then some true else (Option.bind (m_impl_within a0 38 43) fun r3 => some r3)) fun y2 => some y2

/-! ### impl.isStep -/
def m_impl_isStep (a0 : Int) : Option Bool :=
  Option.bind (bif (a0 == 51) then some true else (some (a0 == 52))) fun y1 => some y1

/-! ### impl.isKeywordKind -/
def m_impl_isKeywordKind (a0 : Int) : Option Bool :=
  Option.bind (m_impl_within a0 10 26) fun r2 => some r2

/-! ### impl.isSignKind -/
def m_impl_isSignKind (a0 : Int) : Option Bool :=
  Option.bind (m_impl_within a0 30 68) fun r2 => some r2

/-! ### impl.SpellOf -/
def m_impl_SpellOf (a0 : Int) : Option (List UInt8) :=
  bif (a0 == 1) then some [10] else (Option.bind (m_impl_isKeywordKind a0) fun r10 => bif r10 then Option.bind (ix tab_keywords (IntKind.wrap .i64 (a0 - 10))) fun e12 => some e12 else (Option.bind (m_impl_isSignKind a0) fun r14 => bif r14 then Option.bind (ix tab_signs (IntKind.wrap .i64 (a0 - 30))) fun e16 => some e16 else (some [])))

/-! ### impl.OpSpell -/
def m_impl_OpSpell (a0 : Int) : Option (List UInt8) :=
  Option.bind (Option.bind (m_impl_OpLevel a0) fun r14 => bif (r14 != 0) then some true else (Option.bind (m_impl_isAssign a0) fun r15 => bif r15 then some true else (bif (a0 == 61) then some true else (Option.bind (m_impl_isStep a0) fun r16 => some r16)))) fun y13 => bif y13 then Option.bind (m_impl_SpellOf a0) fun r18 => some r18 else (some [])

/-! ### impl.IsBlank -/
def m_impl_IsBlank (a0 : Int) : Option Bool :=
  Option.bind (bif (a0 == 32) then some true else (some (a0 == 9))) fun y1 => some y1

/-! ### impl.byteAt -/
def m_impl_byteAt (a0 : List UInt8) (a1 : Int) : Option Int :=
  Option.bind (m_impl_within a1 0 (IntKind.wrap .i64 ((a0.length : Int) - 1))) fun r4 => bif (!r4) then some (-1) else (Option.bind (ix a0 a1) fun b6 => some (IntKind.wrap .i64 ((b6).toNat : Int)))

/-! ### stringslite.IndexByte -/
def m_stringslite_IndexByte (a0 : List UInt8) (a1 : Int) : Option Int :=
  some (Go.Lib.indexByte a0 (Int.toNat a1).toUInt8)

/-! ### strings.IndexByte -/
def m_strings_IndexByte (a0 : List UInt8) (a1 : Int) : Option Int :=
  Option.bind (m_stringslite_IndexByte a0 a1) fun r2 => some r2

/-! ### impl.IsDigit -/
def m_impl_IsDigit (a0 : Int) : Option Bool :=
  Option.bind (bif (decide (a0 ≥ 48)) then some (decide (a0 ≤ 57)) else (some false)) fun y1 => some y1

/-! ### impl.digitsEnd -/
def m_impl_digitsEnd_l1 (N : Nat) : Nat → ((List UInt8) × Int) → Option Int
  | 0, _ => none
  | n1 + 1, (a0, a1) => Option.bind (m_impl_byteAt a0 a1) fun r33 => Option.bind (m_impl_IsDigit r33) fun r34 => bif r34 then (m_impl_digitsEnd_l1 N n1) (a0, (IntKind.wrap .i64 (a1 + 1))) else (some a1)
def m_impl_digitsEnd (N : Nat) (a0 : List UInt8) (a1 : Int) : Option Int :=
  m_impl_digitsEnd_l1 N N (a0, a1)

/-! ### impl.NumEnd -/
def m_impl_NumEnd_k2 (N : Nat) : Int → Option Int
  | y11 => some y11
def m_impl_NumEnd_k3 (N : Nat) : ((List UInt8) × Int × Int) → Option Int
  | (a0, y11, y31) => Option.bind (m_impl_digitsEnd N a0 y31) fun r33 => bif (decide (r33 > y31)) then some r33 else (m_impl_NumEnd_k2 N y11)
def m_impl_NumEnd_k1 (N : Nat) : ((List UInt8) × Int × Int) → Option Int
  | (a0, y11, y12) => bif (y12 == 0) then some (-1) else (Option.bind (m_impl_byteAt a0 y11) fun r26 => Option.bind (bif (r26 == 101) then some true else (some (r26 == 69))) fun y27 => bif y27 then Option.bind (m_impl_byteAt a0 (IntKind.wrap .i64 (y11 + 1))) fun r35 => Option.bind (bif (r35 == 43) then some true else (some (r35 == 45))) fun y36 => bif y36 then m_impl_NumEnd_k3 N (a0, y11, (IntKind.wrap .i64 ((IntKind.wrap .i64 (y11 + 1)) + 1))) else (m_impl_NumEnd_k3 N (a0, y11, (IntKind.wrap .i64 (y11 + 1)))) else (m_impl_NumEnd_k2 N y11))
def m_impl_NumEnd (N : Nat) (a0 : List UInt8) (a1 : Int) : Option Int :=
  Option.bind (m_impl_within a1 0 (IntKind.wrap .i64 ((a0.length : Int) - 1))) fun r4 => bif (!r4) then some (-1) else (Option.bind (m_impl_digitsEnd N a0 a1) fun r6 => Option.bind (m_impl_byteAt a0 r6) fun r38 => bif (r38 == 46) then Option.bind (m_impl_digitsEnd N a0 (IntKind.wrap .i64 (r6 + 1))) fun r40 => m_impl_NumEnd_k1 N (a0, r40, (IntKind.wrap .i64 ((IntKind.wrap .i64 (r6 - a1)) + (IntKind.wrap .i64 ((IntKind.wrap .i64 (r40 - r6)) - 1))))) else (m_impl_NumEnd_k1 N (a0, r6, (IntKind.wrap .i64 (r6 - a1)))))

/-! ### impl.quotedEnd -/
def m_impl_quotedEnd_k2 (N : Nat) (kb1 : ((List UInt8) × Int × Int) → Option Int) : ((List UInt8) × Int × Int) → Option Int
  | (a0, a2, y127) => kb1 (a0, a2, (IntKind.wrap .i64 (y127 + 1)))
def m_impl_quotedEnd_l1 (N : Nat) : Nat → ((List UInt8) × Int × Int) → Option Int
  | 0, _ => none
  | n1 + 1, (a0, a2, y91) => Option.bind (bif (decide (y91 < (a0.length : Int))) then Option.bind (ix a0 y91) fun b119 => some (((b119).toNat : Int) != 10) else (some false)) fun y118 => bif y118 then Option.bind (ix a0 y91) fun b129 => bif ((IntKind.wrap .i64 ((b129).toNat : Int)) == a2) then some (IntKind.wrap .i64 (y91 + 1)) else (Option.bind (Option.bind (ix a0 y91) fun b133 => bif (((b133).toNat : Int) == 92) then Option.bind (m_impl_byteAt a0 (IntKind.wrap .i64 (y91 + 1))) fun r134 => some (r134 != 10) else (some false)) fun y132 => bif y132 then m_impl_quotedEnd_k2 N (m_impl_quotedEnd_l1 N n1) (a0, a2, (IntKind.wrap .i64 (y91 + 1))) else (m_impl_quotedEnd_k2 N (m_impl_quotedEnd_l1 N n1) (a0, a2, y91))) else (some (-1))
def m_impl_quotedEnd (N : Nat) (a0 : List UInt8) (a1 : Int) (a2 : Int) : Option Int :=
  Option.bind (m_impl_byteAt a0 a1) fun r4 => bif (r4 != a2) then some (-1) else (m_impl_quotedEnd_l1 N N (a0, a2, (IntKind.wrap .i64 (a1 + 1))))

/-! ### impl.StrEnd -/
def m_impl_StrEnd (N : Nat) (a0 : List UInt8) (a1 : Int) : Option Int :=
  Option.bind (m_impl_quotedEnd N a0 a1 34) fun r2 => some r2

/-! ### impl.EndsOperand -/
def m_impl_EndsOperand_k1 : Bool → Option Bool
  | y2 => bif y2 then some true else (some false)
def m_impl_EndsOperand (a0 : Int) : Option Bool :=
  bif (a0 == 3) then m_impl_EndsOperand_k1 (a0 == 3) else (bif (a0 == 4) then m_impl_EndsOperand_k1 (a0 == 4) else (bif (a0 == 5) then m_impl_EndsOperand_k1 (a0 == 5) else (bif (a0 == 6) then m_impl_EndsOperand_k1 (a0 == 6) else (bif (a0 == 8) then m_impl_EndsOperand_k1 (a0 == 8) else (bif (a0 == 33) then m_impl_EndsOperand_k1 (a0 == 33) else (bif (a0 == 35) then m_impl_EndsOperand_k1 (a0 == 35) else (bif (a0 == 51) then m_impl_EndsOperand_k1 (a0 == 51) else (m_impl_EndsOperand_k1 (a0 == 52)))))))))

/-! ### impl.EreEnd -/
def m_impl_EreEnd (N : Nat) (a0 : List UInt8) (a1 : Int) : Option Int :=
  Option.bind (m_impl_quotedEnd N a0 a1 47) fun r2 => bif (r2 == (IntKind.wrap .i64 (a1 + 2))) then some (-1) else (some r2)

/-! ### impl.IsLetter -/
def m_impl_IsLetter (a0 : Int) : Option Bool :=
  Option.bind (bif (decide (a0 ≥ 97)) then bif (decide (a0 ≤ 122)) then some true else (bif (decide (a0 ≥ 65)) then bif (decide (a0 ≤ 90)) then some true else (some (a0 == 95)) else (some (a0 == 95))) else (bif (decide (a0 ≥ 65)) then bif (decide (a0 ≤ 90)) then some true else (some (a0 == 95)) else (some (a0 == 95)))) fun y1 => some y1

/-! ### impl.IsWordByte -/
def m_impl_IsWordByte (a0 : Int) : Option Bool :=
  Option.bind (Option.bind (m_impl_IsLetter a0) fun r4 => bif r4 then some true else (Option.bind (m_impl_IsDigit a0) fun r5 => some r5)) fun y3 => some y3

/-! ### impl.NameEnd -/
def m_impl_NameEnd_l1 (N : Nat) : Nat → ((List UInt8) × Int) → Option Int
  | 0, _ => none
  | n1 + 1, (a0, a1) => Option.bind (m_impl_byteAt a0 a1) fun r41 => Option.bind (m_impl_IsWordByte r41) fun r42 => bif r42 then (m_impl_NameEnd_l1 N n1) (a0, (IntKind.wrap .i64 (a1 + 1))) else (some a1)
def m_impl_NameEnd (N : Nat) (a0 : List UInt8) (a1 : Int) : Option Int :=
  Option.bind (m_impl_byteAt a0 a1) fun r7 => Option.bind (m_impl_IsLetter r7) fun r8 => bif (!r8) then some (-1) else (m_impl_NameEnd_l1 N N (a0, a1))

/-! ### impl.NameShape -/
def m_impl_NameShape_l1 (N : Nat) : Nat → ((List UInt8) × Int) → Option Bool
  | 0, _ => none
  | n1 + 1, (a0, y35) => bif (decide (y35 < (a0.length : Int))) then Option.bind (ix a0 y35) fun b51 => Option.bind (m_impl_IsWordByte (IntKind.wrap .i64 ((b51).toNat : Int))) fun r52 => bif (!r52) then some false else ((m_impl_NameShape_l1 N n1) (a0, (IntKind.wrap .i64 (y35 + 1)))) else (Option.bind (Option.bind (m_impl_within (a0.length : Int) 1 12) fun r57 => bif r57 then Option.bind (ix a0 0) fun b58 => Option.bind (m_impl_IsLetter (IntKind.wrap .i64 ((b58).toNat : Int))) fun r59 => some r59 else (some false)) fun y56 => some y56)
def m_impl_NameShape (N : Nat) (a0 : List UInt8) : Option Bool :=
  m_impl_NameShape_l1 N N (a0, 0)

/-! ### slices.Index[[]string,string] -/
def m_slices_Index_string_l1 (N : Nat) : Nat → ((List (List UInt8)) × (List UInt8) × Int) → Option Int
  | 0, _ => none
  | n1 + 1, (a0, a1, y19) => bif (decide (y19 < (a0.length : Int))) then Option.bind (ix a0 y19) fun e28 => bif (a1 == e28) then some y19 else ((m_slices_Index_string_l1 N n1) (a0, a1, (IntKind.wrap .i64 (y19 + 1)))) else (some (-1))
def m_slices_Index_string (N : Nat) (a0 : List (List UInt8)) (a1 : List UInt8) : Option Int :=
  m_slices_Index_string_l1 N N (a0, a1, 0)

/-! ### impl.KeywordOf -/
def m_impl_KeywordOf (N : Nat) (a0 : List UInt8) : Option Int :=
  Option.bind (m_slices_Index_string N tab_keywords a0) fun r2 => bif (decide (r2 < 0)) then some 0 else (some (IntKind.wrap .i64 (10 + r2)))

/-! ### slices.Contains[[]string,string] -/
def m_slices_Contains_string (N : Nat) (a0 : List (List UInt8)) (a1 : List UInt8) : Option Bool :=
  Option.bind (m_slices_Index_string N a0 a1) fun r2 => some (decide (r2 ≥ 0))

/-! ### impl.IsBuiltin -/
def m_impl_IsBuiltin (N : Nat) (a0 : List UInt8) : Option Bool :=
  Option.bind (m_slices_Contains_string N tab_builtins a0) fun r2 => some r2

/-! ### impl.wordToken -/
def m_impl_wordToken (N : Nat) (a0 : List UInt8) (a1 : Int) (a2 : Int) : Option SToken :=
  Option.bind (cut a0 a1 a2) fun s2 => Option.bind (m_impl_KeywordOf N s2) fun r12 => bif (r12 != 0) then Option.bind (m_impl_KeywordOf N s2) fun r14 => some (⟨r14, s2, a1⟩ : SToken) else (Option.bind (m_impl_IsBuiltin N s2) fun r16 => bif r16 then some (⟨8, s2, a1⟩ : SToken) else (Option.bind (m_impl_byteAt a0 a2) fun r18 => bif (r18 == 40) then some (⟨7, s2, a1⟩ : SToken) else (some (⟨6, s2, a1⟩ : SToken))))

/-! ### stringslite.HasPrefix -/
def m_stringslite_HasPrefix (a0 : List UInt8) (a1 : List UInt8) : Option Bool :=
  Option.bind (bif (decide ((a0.length : Int) ≥ (a1.length : Int))) then Option.bind (cut a0 0 (a1.length : Int)) fun s3 => some (s3 == a1) else (some false)) fun y2 => some y2

/-! ### strings.HasPrefix -/
def m_strings_HasPrefix (a0 : List UInt8) (a1 : List UInt8) : Option Bool :=
  Option.bind (m_stringslite_HasPrefix a0 a1) fun r2 => some r2

/-! ### impl.OpAt -/
def m_impl_OpAt_k2 (N : Nat) (kb1 : ((List UInt8) × Int × Int × Int × Int) → Option (Int × Int)) : ((List UInt8) × Int × Int × Int × Int) → Option (Int × Int)
  | (a0, a1, y77, y104, y105) => kb1 (a0, a1, y104, y105, (IntKind.wrap .i64 (y77 + 1)))
def m_impl_OpAt_l1 (N : Nat) : Nat → ((List UInt8) × Int × Int × Int × Int) → Option (Int × Int)
  | 0, _ => none
  | n1 + 1, (a0, a1, y75, y76, y77) => bif (decide (y77 < 39)) then Option.bind (ix tab_signs y77) fun e107 => Option.bind (bif (decide ((e107.length : Int) > y76)) then Option.bind (cut a0 a1 (a0.length : Int)) fun s111 => Option.bind (m_strings_HasPrefix s111 e107) fun r112 => some r112 else (some false)) fun y110 => bif y110 then m_impl_OpAt_k2 N (m_impl_OpAt_l1 N n1) (a0, a1, y77, (IntKind.wrap .i64 (30 + y77)), (e107.length : Int)) else (m_impl_OpAt_k2 N (m_impl_OpAt_l1 N n1) (a0, a1, y77, y75, y76)) else (some (y75, y76))
def m_impl_OpAt (N : Nat) (a0 : List UInt8) (a1 : Int) : Option (Int × Int) :=
  Option.bind (m_impl_within a1 0 (IntKind.wrap .i64 ((a0.length : Int) - 1))) fun r4 => bif (!r4) then some (0, 0) else (m_impl_OpAt_l1 N N (a0, a1, 0, 0, 0))

/-! ### impl.tokenAt -/
def m_impl_tokenAt_k1 (N : Nat) : ((List UInt8) × Int × Int × Int) → Option SToken
  | (a0, a1, y31, y32) => Option.bind (bif (y31 == 0) then some true else (some (decide (y32 < 0)))) fun y34 => bif y34 then some (⟨0, [], 0⟩ : SToken) else (Option.bind (cut a0 a1 y32) fun s36 => some (⟨y31, s36, a1⟩ : SToken))
def m_impl_tokenAt (N : Nat) (a0 : List UInt8) (a1 : Int) (a2 : Int) : Option SToken :=
  Option.bind (ix a0 a1) fun b38 => bif ((IntKind.wrap .i64 ((b38).toNat : Int)) == 10) then m_impl_tokenAt_k1 N (a0, a1, 1, (IntKind.wrap .i64 (a1 + 1))) else (bif ((IntKind.wrap .i64 ((b38).toNat : Int)) == 35) then Option.bind (cut a0 a1 (a0.length : Int)) fun s41 => Option.bind (m_strings_IndexByte s41 10) fun r42 => bif (decide (r42 ≥ 0)) then m_impl_tokenAt_k1 N (a0, a1, 2, (IntKind.wrap .i64 (a1 + r42))) else (m_impl_tokenAt_k1 N (a0, a1, 2, (a0.length : Int))) else (Option.bind (Option.bind (m_impl_IsDigit (IntKind.wrap .i64 ((b38).toNat : Int))) fun r45 => bif r45 then some true else (some ((IntKind.wrap .i64 ((b38).toNat : Int)) == 46))) fun y44 => bif y44 then Option.bind (m_impl_NumEnd N a0 a1) fun r47 => m_impl_tokenAt_k1 N (a0, a1, 3, r47) else (bif ((IntKind.wrap .i64 ((b38).toNat : Int)) == 34) then Option.bind (m_impl_StrEnd N a0 a1) fun r49 => m_impl_tokenAt_k1 N (a0, a1, 4, r49) else (Option.bind (bif ((IntKind.wrap .i64 ((b38).toNat : Int)) == 47) then Option.bind (m_impl_EndsOperand a2) fun r52 => some (!r52) else (some false)) fun y51 => bif y51 then Option.bind (m_impl_EreEnd N a0 a1) fun r54 => m_impl_tokenAt_k1 N (a0, a1, 5, r54) else (Option.bind (m_impl_IsLetter (IntKind.wrap .i64 ((b38).toNat : Int))) fun r56 => bif r56 then Option.bind (m_impl_NameEnd N a0 a1) fun r58 => Option.bind (cut a0 a1 r58) fun s61 => Option.bind (m_impl_NameShape N s61) fun r62 => bif r62 then Option.bind (m_impl_wordToken N a0 a1 r58) fun r64 => some r64 else (m_impl_tokenAt_k1 N (a0, a1, 0, r58)) else (Option.bind (m_impl_OpAt N a0 a1) fun r66 => m_impl_tokenAt_k1 N (a0, a1, r66.1, (IntKind.wrap .i64 (a1 + r66.2)))))))))

/-! ### impl.lexFrom -/
def m_impl_lexFrom_l1 (N : Nat) : Nat → ((List UInt8) × Int × Int × (List SToken)) → Option ((List SToken) × SFault)
  | 0, _ => none
  | n1 + 1, (a0, y95, y96, y97) => bif (decide (y95 < (a0.length : Int))) then Option.bind (ix a0 y95) fun b134 => Option.bind (m_impl_IsBlank (IntKind.wrap .i64 ((b134).toNat : Int))) fun r135 => bif r135 then (m_impl_lexFrom_l1 N n1) (a0, (IntKind.wrap .i64 (y95 + 1)), y96, y97) else (Option.bind (Option.bind (ix a0 y95) fun b139 => bif (((b139).toNat : Int) == 92) then Option.bind (m_impl_byteAt a0 (IntKind.wrap .i64 (y95 + 1))) fun r140 => some (r140 == 10) else (some false)) fun y138 => bif y138 then (m_impl_lexFrom_l1 N n1) (a0, (IntKind.wrap .i64 (y95 + 2)), y96, y97) else (Option.bind (m_impl_tokenAt N a0 y95 y96) fun r142 => bif (r142.Kind == 0) then some ([], (⟨2, y95⟩ : SFault)) else (Option.bind (app 32 y97 [r142]) fun x144 => (m_impl_lexFrom_l1 N n1) (a0, (IntKind.wrap .i64 (y95 + (r142.Text.length : Int))), r142.Kind, x144)))) else (some (y97, (⟨0, 0⟩ : SFault)))
def m_impl_lexFrom (N : Nat) (a0 : List UInt8) (a1 : Int) (a2 : Int) : Option ((List SToken) × SFault) :=
  m_impl_lexFrom_l1 N N (a0, a1, a2, [])

/-! ### impl.Lex -/
def m_impl_Lex (N : Nat) (a0 : List UInt8) : Option ((List SToken) × SFault) :=
  bif (decide ((a0.length : Int) > 3000)) then some ([], (⟨1, 0⟩ : SFault)) else (Option.bind (m_impl_lexFrom N a0 0 0) fun r2 => some (r2.1, r2.2))

/-! ### impl.Top -/
def m_impl_Top : Option SPos :=
  some (⟨1, false, false, false, false⟩ : SPos)

/-! ### impl.PosOk -/
def m_impl_PosOk (a0 : SPos) : Option Bool :=
  Option.bind (Option.bind (m_impl_within a0.Level 1 15) fun r3 => bif r3 then bif (!a0.Dollar) then some true else (some (a0.Level == 14)) else (some false)) fun y2 => some y2

/-! ### stringslite.Index -/
def m_stringslite_Index (a0 : List UInt8) : Option Int :=
  bif (([10] : List UInt8) == a0) then some 0 else (Option.bind (ix ([10] : List UInt8) 0) fun b7 => Option.bind (m_stringslite_IndexByte a0 ((b7).toNat : Int)) fun r8 => some r8)

/-! ### strings.Index -/
def m_strings_Index (a0 : List UInt8) : Option Int :=
  Option.bind (m_stringslite_Index a0) fun r2 => some r2

/-! ### strings.Contains -/
def m_strings_Contains (a0 : List UInt8) : Option Bool :=
  Option.bind (m_strings_Index a0) fun r2 => some (decide (r2 ≥ 0))

/-! ### impl.NameOk -/
def m_impl_NameOk (N : Nat) (a0 : List UInt8) : Option Bool :=
  Option.bind (Option.bind (m_impl_NameShape N a0) fun r5 => bif r5 then Option.bind (m_impl_KeywordOf N a0) fun r6 => bif (r6 == 0) then Option.bind (m_impl_IsBuiltin N a0) fun r7 => some (!r7) else (some false) else (some false)) fun y4 => some y4

/-! ### impl.TokenOk -/
def m_impl_TokenOk_k1 (N : Nat) : (SToken × Bool) → Option Bool
  | (a0, y28) => bif y28 then Option.bind (m_impl_NameOk N a0.Text) fun r30 => some r30 else (bif (a0.Kind == 8) then Option.bind (m_impl_IsBuiltin N a0.Text) fun r32 => some r32 else (Option.bind (m_impl_SpellOf a0.Kind) fun r34 => some (a0.Text == r34)))
def m_impl_TokenOk (N : Nat) (a0 : SToken) : Option Bool :=
  bif (a0.Text == []) then some false else (bif (a0.Kind == 2) then Option.bind (Option.bind (ix a0.Text 0) fun b20 => bif (((b20).toNat : Int) == 35) then Option.bind (m_strings_Contains a0.Text) fun r21 => some (!r21) else (some false)) fun y19 => some y19 else (bif (a0.Kind == 3) then Option.bind (m_impl_NumEnd N a0.Text 0) fun r23 => some (r23 == (a0.Text.length : Int)) else (bif (a0.Kind == 4) then Option.bind (m_impl_StrEnd N a0.Text 0) fun r25 => some (r25 == (a0.Text.length : Int)) else (bif (a0.Kind == 5) then Option.bind (m_impl_EreEnd N a0.Text 0) fun r27 => some (r27 == (a0.Text.length : Int)) else (bif (a0.Kind == 6) then m_impl_TokenOk_k1 N (a0, (a0.Kind == 6)) else (m_impl_TokenOk_k1 N (a0, (a0.Kind == 7))))))))

/-! ### impl.TokensOk -/
def m_impl_TokensOk_k3 (N : Nat) (kb1 : ((List SToken) × Int × Int) → Option Bool) : ((List SToken) × Int × SToken × Bool) → Option Bool
  | (a0, y398, e549, y586) => bif y586 then some false else (kb1 (a0, e549.Kind, (IntKind.wrap .i64 (y398 + 1))))
def m_impl_TokensOk_k2 (N : Nat) (kb1 : ((List SToken) × Int × Int) → Option Bool) : ((List SToken) × Int × Int × SToken × Int) → Option Bool
  | (a0, y397, y398, e549, y552) => Option.bind (m_impl_TokenOk N e549) fun r575 => bif (!r575) then some false else (Option.bind (bif (e549.Kind == 7) then some (y552 != 32) else (some false)) fun y576 => bif y576 then some false else (Option.bind (bif (e549.Kind == 2) then bif (y552 != 1) then some (y552 != 0) else (some false) else (some false)) fun y577 => bif y577 then some false else (Option.bind (bif (e549.Kind == 5) then Option.bind (m_impl_EndsOperand y397) fun r589 => some r589 else (some false)) fun y588 => bif y588 then m_impl_TokensOk_k3 N kb1 (a0, y398, e549, y588) else (Option.bind (bif (e549.Kind == 58) then Option.bind (m_impl_EndsOperand y397) fun r593 => some (!r593) else (bif (e549.Kind == 41) then Option.bind (m_impl_EndsOperand y397) fun r594 => some (!r594) else (some false))) fun y592 => m_impl_TokensOk_k3 N kb1 (a0, y398, e549, y592)))))
def m_impl_TokensOk_l1 (N : Nat) : Nat → ((List SToken) × Int × Int) → Option Bool
  | 0, _ => none
  | n1 + 1, (a0, y397, y398) => bif (decide (y398 < (a0.length : Int))) then Option.bind (ix a0 y398) fun e549 => bif (decide ((IntKind.wrap .i64 (y398 + 1)) < (a0.length : Int))) then Option.bind (ix a0 (IntKind.wrap .i64 (y398 + 1))) fun e596 => m_impl_TokensOk_k2 N (m_impl_TokensOk_l1 N n1) (a0, y397, y398, e549, e596.Kind) else (m_impl_TokensOk_k2 N (m_impl_TokensOk_l1 N n1) (a0, y397, y398, e549, 0)) else (some true)
def m_impl_TokensOk (N : Nat) (a0 : List SToken) : Option Bool :=
  bif (decide ((a0.length : Int) > 3000)) then some false else (m_impl_TokensOk_l1 N N (a0, 0, 0))

/-! ### impl.opens -/
def m_impl_opens (a0 : Int) : Option Bool :=
  Option.bind (bif (a0 == 32) then some true else (bif (a0 == 34) then some true else (some (a0 == 30)))) fun y1 => some y1

/-! ### impl.shuts -/
def m_impl_shuts (a0 : Int) : Option Bool :=
  Option.bind (bif (a0 == 33) then some true else (bif (a0 == 35) then some true else (some (a0 == 31)))) fun y1 => some y1

/-! ### impl.NestOf -/
def m_impl_NestOf_k2 (N : Nat) (kb1 : ((List SToken) × Int × Int) → Option Int) : (Int × (List SToken) × Int) → Option Int
  | (y94, a0, y136) => bif (decide (y136 > 40)) then some y94 else (kb1 (a0, y136, (IntKind.wrap .i64 (y94 + 1))))
def m_impl_NestOf_l1 (N : Nat) : Nat → ((List SToken) × Int × Int) → Option Int
  | 0, _ => none
  | n1 + 1, (a0, y93, y94) => bif (decide (y94 < (a0.length : Int))) then Option.bind (ix a0 y94) fun e131 => Option.bind (m_impl_opens e131.Kind) fun r138 => bif r138 then m_impl_NestOf_k2 N (m_impl_NestOf_l1 N n1) (y94, a0, (IntKind.wrap .i64 (y93 + 1))) else (Option.bind (m_impl_shuts e131.Kind) fun r140 => bif r140 then m_impl_NestOf_k2 N (m_impl_NestOf_l1 N n1) (y94, a0, (if 0 > (IntKind.wrap .i64 (y93 - 1)) then 0 else (IntKind.wrap .i64 (y93 - 1)))) else (m_impl_NestOf_k2 N (m_impl_NestOf_l1 N n1) (y94, a0, y93))) else (some (-1))
def m_impl_NestOf (N : Nat) (a0 : List SToken) : Option Int :=
  m_impl_NestOf_l1 N N (a0, 0, 0)

/-! ### impl.placeOf -/
def m_impl_placeOf (a0 : List SToken) (a1 : Int) : Option Int :=
  bif (decide (a1 < (a0.length : Int))) then Option.bind (ix a0 a1) fun e4 => some e4.At else (bif ((a0.length : Int) == 0) then some 0 else (Option.bind (ix a0 (IntKind.wrap .i64 ((a0.length : Int) - 1))) fun e7 => Option.bind (ix a0 (IntKind.wrap .i64 ((a0.length : Int) - 1))) fun e8 => some (IntKind.wrap .i64 (e7.At + (e8.Text.length : Int)))))

/-! ### impl.checked -/
def m_impl_checked (N : Nat) (a0 : List SToken) : Option SFault :=
  Option.bind (m_impl_TokensOk N a0) fun r4 => bif (!r4) then some (⟨2, 0⟩ : SFault) else (Option.bind (m_impl_NestOf N a0) fun r10 => bif (decide (r10 ≥ 0)) then Option.bind (m_impl_placeOf a0 r10) fun r12 => some (⟨4, r12⟩ : SFault) else (some (⟨0, 0⟩ : SFault)))

/-! ### impl.parser).kind -/
def m_impl_parser__kind (p0_0 : List SToken) (p0_1 : Int) (p0_2 : Bool) (p1 : List (List UInt8)) : Option Int :=
  bif (decide (p0_1 ≥ (p0_0.length : Int))) then some 0 else (Option.bind (ix p0_0 p0_1) fun e2 => some e2.Kind)

/-! ### impl.BeginsOperand -/
def m_impl_BeginsOperand_k1 : Bool → Option Bool
  | y2 => bif y2 then some true else (some false)
def m_impl_BeginsOperand (a0 : Int) : Option Bool :=
  bif (a0 == 3) then m_impl_BeginsOperand_k1 (a0 == 3) else (bif (a0 == 4) then m_impl_BeginsOperand_k1 (a0 == 4) else (bif (a0 == 6) then m_impl_BeginsOperand_k1 (a0 == 6) else (bif (a0 == 7) then m_impl_BeginsOperand_k1 (a0 == 7) else (bif (a0 == 8) then m_impl_BeginsOperand_k1 (a0 == 8) else (bif (a0 == 32) then m_impl_BeginsOperand_k1 (a0 == 32) else (m_impl_BeginsOperand_k1 (a0 == 68)))))))

/-! ### impl.parser).fail -/
def m_impl_parser__fail (p0_0 : List SToken) (p0_1 : Int) (p0_2 : Bool) (p1 : List (List UInt8)) : Option (SPart × Bool) :=
  some ((⟨(⟨0, 0, [], [], []⟩ : STree), false⟩ : SPart), true)

/-! ### impl.parser).listAhead -/
def m_impl_parser__listAhead_k1 (N : Nat) (p0_0 : List SToken) (p0_1 : Int) (p0_2 : Bool) (p1 : List (List UInt8)) : Unit → Option Bool
  | _ => some false
def m_impl_parser__listAhead_k3 (N : Nat) (p0_0 : List SToken) (p0_1 : Int) (p0_2 : Bool) (p1 : List (List UInt8)) (kb2 : ((List SToken) × Int × Int) → Option Bool) : ((List SToken) × Int × Int) → Option Bool
  | (l82, y106, y155) => bif (decide (y155 ≤ 0)) then m_impl_parser__listAhead_k1 N p0_0 p0_1 p0_2 p1 () else (kb2 (l82, y155, (IntKind.wrap .i64 (y106 + 1))))
def m_impl_parser__listAhead_l2 (N : Nat) (p0_0 : List SToken) (p0_1 : Int) (p0_2 : Bool) (p1 : List (List UInt8)) : Nat → ((List SToken) × Int × Int) → Option Bool
  | 0, _ => none
  | n2 + 1, (l82, y105, y106) => bif (decide (y106 < (l82.length : Int))) then Option.bind (ix l82 y106) fun e149 => Option.bind (m_impl_opens e149.Kind) fun r157 => bif r157 then m_impl_parser__listAhead_k3 N p0_0 p0_1 p0_2 p1 (m_impl_parser__listAhead_l2 N p0_0 p0_1 p0_2 p1 n2) (l82, y106, (IntKind.wrap .i64 (y105 + 1))) else (Option.bind (m_impl_shuts e149.Kind) fun r159 => bif r159 then m_impl_parser__listAhead_k3 N p0_0 p0_1 p0_2 p1 (m_impl_parser__listAhead_l2 N p0_0 p0_1 p0_2 p1 n2) (l82, y106, (IntKind.wrap .i64 (y105 - 1))) else (Option.bind (bif (e149.Kind == 36) then some (y105 == 1) else (some false)) fun y160 => bif y160 then some true else (m_impl_parser__listAhead_k3 N p0_0 p0_1 p0_2 p1 (m_impl_parser__listAhead_l2 N p0_0 p0_1 p0_2 p1 n2) (l82, y106, y105)))) else (m_impl_parser__listAhead_k1 N p0_0 p0_1 p0_2 p1 ())
def m_impl_parser__listAhead (N : Nat) (p0_0 : List SToken) (p0_1 : Int) (p0_2 : Bool) (p1 : List (List UInt8)) : Option Bool :=
  Option.bind (cut p0_0 p0_1 (p0_0.length : Int)) fun l82 => m_impl_parser__listAhead_l2 N p0_0 p0_1 p0_2 p1 N (l82, 0, 0)

/-! ### impl.parser).newlines -/
def m_impl_parser__newlines_k2 (N : Nat) (p0_0 : List SToken) (p0_2 : Bool) (kb1 : (Int × (List (List UInt8))) → Option (Int × (List (List UInt8)))) : (Int × (List (List UInt8))) → Option (Int × (List (List UInt8)))
  | (y14, y37) => kb1 ((IntKind.wrap .i64 (y14 + 1)), y37)
def m_impl_parser__newlines_l1 (N : Nat) (p0_0 : List SToken) (p0_2 : Bool) : Nat → (Int × (List (List UInt8))) → Option (Int × (List (List UInt8)))
  | 0, _ => none
  | n1 + 1, (y14, y15) => bif (!p0_2) then Option.bind (m_impl_parser__kind p0_0 y14 p0_2 y15) fun r39 => bif (r39 == 1) then m_impl_parser__newlines_k2 N p0_0 p0_2 (m_impl_parser__newlines_l1 N p0_0 p0_2 n1) (y14, y15) else (bif (r39 == 2) then Option.bind (ix p0_0 y14) fun e42 => Option.bind (app 16 y15 [e42.Text]) fun x43 => m_impl_parser__newlines_k2 N p0_0 p0_2 (m_impl_parser__newlines_l1 N p0_0 p0_2 n1) (y14, x43) else (some (y14, y15))) else (some (y14, y15))
def m_impl_parser__newlines (N : Nat) (p0_0 : List SToken) (p0_1 : Int) (p0_2 : Bool) (p1 : List (List UInt8)) : Option (Int × (List (List UInt8))) :=
  m_impl_parser__newlines_l1 N p0_0 p0_2 N (p0_1, p1)

/-! ### impl.parser).take -/
def m_impl_parser__take (a1 : Int) (p0_0 : List SToken) (p0_1 : Int) (p0_2 : Bool) (p1 : List (List UInt8)) : Option (Bool × Int × Bool) :=
  Option.bind (bif p0_2 then some true else (Option.bind (m_impl_parser__kind p0_0 p0_1 p0_2 p1) fun r6 => some (r6 != a1))) fun y5 => bif y5 then some (false, p0_1, true) else (some (true, (IntKind.wrap .i64 (p0_1 + 1)), p0_2))

/-! ### impl.parser).text -/
def m_impl_parser__text (p0_0 : List SToken) (p0_1 : Int) (p0_2 : Bool) (p1 : List (List UInt8)) : Option ((List UInt8) × Int) :=
  Option.bind (ix p0_0 p0_1) fun e2 => some (e2.Text, (IntKind.wrap .i64 (p0_1 + 1)))

/-! ### impl.bin -/
def m_impl_bin (a0 : Int) (a1 : SPart) (a2 : SPart) : Option SPart :=
  some (⟨(⟨12, a0, [], [], [a1.tree, a2.tree]⟩ : STree), false⟩ : SPart)

/-! ### impl.parser).name -/
def m_impl_parser__name (p0_0 : List SToken) (p0_1 : Int) (p0_2 : Bool) (p1 : List (List UInt8)) : Option ((List UInt8) × Int × Bool) :=
  Option.bind (bif p0_2 then some true else (Option.bind (m_impl_parser__kind p0_0 p0_1 p0_2 p1) fun r6 => some (r6 != 6))) fun y5 => bif y5 then some ([], p0_1, true) else (Option.bind (m_impl_parser__text p0_0 p0_1 p0_2 p1) fun r8 => some (r8.1, r8.2, p0_2))

/-! ### a circle of 20 -/
structure Rec1 where
  m_impl_parser__variable : (List SToken) → Int → Bool → (List (List UInt8)) → Option (SPart × Int × Bool × (List (List UInt8)))
  m_impl_parser__primary : (List SToken) → Int → Bool → (List (List UInt8)) → Option (SPart × Int × Bool × (List (List UInt8)))
  m_impl_parser__field : (List SToken) → Int → Bool → (List (List UInt8)) → Option (SPart × Int × Bool × (List (List UInt8)))
  m_impl_parser__lvalue : (List SToken) → Int → Bool → (List (List UInt8)) → Option (SPart × Int × Bool × (List (List UInt8)))
  m_impl_parser__before : (List SToken) → Int → Bool → (List (List UInt8)) → Option (SPart × Int × Bool × (List (List UInt8)))
  m_impl_parser__incr : (List SToken) → Int → Bool → (List (List UInt8)) → Option (SPart × Int × Bool × (List (List UInt8)))
  m_impl_parser__pow : SRules → (List SToken) → Int → Bool → (List (List UInt8)) → Option (SPart × Int × Bool × (List (List UInt8)))
  m_impl_parser__unary : SRules → (List SToken) → Int → Bool → (List (List UInt8)) → Option (SPart × Int × Bool × (List (List UInt8)))
  m_impl_parser__mul : SRules → (List SToken) → Int → Bool → (List (List UInt8)) → Option (SPart × Int × Bool × (List (List UInt8)))
  m_impl_parser__add : SRules → (List SToken) → Int → Bool → (List (List UInt8)) → Option (SPart × Int × Bool × (List (List UInt8)))
  m_impl_parser__cat : SRules → (List SToken) → Int → Bool → (List (List UInt8)) → Option (SPart × Int × Bool × (List (List UInt8)))
  m_impl_parser__compare : SRules → (List SToken) → Int → Bool → (List (List UInt8)) → Option (SPart × Int × Bool × (List (List UInt8)))
  m_impl_parser__match : SRules → (List SToken) → Int → Bool → (List (List UInt8)) → Option (SPart × Int × Bool × (List (List UInt8)))
  m_impl_parser__items : SRules → (List SToken) → Int → Bool → (List (List UInt8)) → Option ((List STree) × Int × Bool × (List (List UInt8)))
  m_impl_parser__list : Int → (List SToken) → Int → Bool → (List (List UInt8)) → Option ((List STree) × Int × Bool × (List (List UInt8)))
  m_impl_parser__in : SRules → (List SToken) → Int → Bool → (List (List UInt8)) → Option (SPart × Int × Bool × (List (List UInt8)))
  m_impl_parser__and : SRules → (List SToken) → Int → Bool → (List (List UInt8)) → Option (SPart × Int × Bool × (List (List UInt8)))
  m_impl_parser__or : SRules → (List SToken) → Int → Bool → (List (List UInt8)) → Option (SPart × Int × Bool × (List (List UInt8)))
  m_impl_parser__cond : SRules → (List SToken) → Int → Bool → (List (List UInt8)) → Option (SPart × Int × Bool × (List (List UInt8)))
  m_impl_parser__assign : SRules → (List SToken) → Int → Bool → (List (List UInt8)) → Option (SPart × Int × Bool × (List (List UInt8)))

def m_impl_parser__variable_k1 (N : Nat) (R : Rec1) (p0_0 : List SToken) : (((List UInt8) × Int) × Int × Int × Bool × (List STree) × (List (List UInt8))) → Option (SPart × Int × Bool × (List (List UInt8)))
  | (r2, y7, y8, y9, y10, y11) => some ((⟨(⟨y7, 0, r2.1, [], y10⟩ : STree), true⟩ : SPart), y8, y9, y11)
def m_impl_parser__variable_F (N : Nat) (R : Rec1) (p0_0 : List SToken) (p0_1 : Int) (p0_2 : Bool) (p1 : List (List UInt8)) : Option (SPart × Int × Bool × (List (List UInt8))) :=
  Option.bind (m_impl_parser__text p0_0 p0_1 p0_2 p1) fun r2 => Option.bind (m_impl_parser__kind p0_0 r2.2 p0_2 p1) fun r13 => bif (r13 == 34) then Option.bind (R.m_impl_parser__list 35 p0_0 (IntKind.wrap .i64 (r2.2 + 1)) p0_2 p1) fun r15 => m_impl_parser__variable_k1 N R p0_0 (r2, 5, r15.2.1, r15.2.2.1, r15.1, r15.2.2.2) else (m_impl_parser__variable_k1 N R p0_0 (r2, 1, r2.2, p0_2, [], p1))

def m_impl_parser__primary_k3 (N : Nat) (R : Rec1) (p0_0 : List SToken) : (Int × ((List UInt8) × Int) × Int × Bool × (List STree) × (List (List UInt8))) → Option (SPart × Int × Bool × (List (List UInt8)))
  | (y53, r49, y58, y59, y60, y61) => some ((⟨(⟨y53, 0, r49.1, [], y60⟩ : STree), false⟩ : SPart), y58, y59, y61)
def m_impl_parser__primary_k2 (N : Nat) (R : Rec1) (p0_0 : List SToken) : (((List UInt8) × Int) × Bool × (List (List UInt8)) × Int) → Option (SPart × Int × Bool × (List (List UInt8)))
  | (r49, p0_2, p1, y53) => Option.bind (m_impl_parser__take 32 p0_0 r49.2 p0_2 p1) fun r63 => bif r63.1 then Option.bind (R.m_impl_parser__list 33 p0_0 r63.2.1 r63.2.2 p1) fun r65 => m_impl_parser__primary_k3 N R p0_0 (y53, r49, r65.2.1, r65.2.2.1, r65.1, r65.2.2.2) else (m_impl_parser__primary_k3 N R p0_0 (y53, r49, r63.2.1, r63.2.2, [], p1))
def m_impl_parser__primary_k1 (N : Nat) (R : Rec1) (p0_0 : List SToken) : (Int × Int × Bool × (List (List UInt8)) × Bool) → Option (SPart × Int × Bool × (List (List UInt8)))
  | (r38, p0_1, p0_2, p1, y47) => bif y47 then Option.bind (m_impl_parser__text p0_0 p0_1 p0_2 p1) fun r49 => bif (r38 == 8) then Option.bind (bif (r49.1 == [108, 101, 110, 103, 116, 104]) then Option.bind (m_impl_parser__kind p0_0 r49.2 p0_2 p1) fun r68 => some (r68 != 32) else (some false)) fun y67 => bif y67 then some ((⟨(⟨8, 0, r49.1, [], []⟩ : STree), false⟩ : SPart), r49.2, p0_2, p1) else (m_impl_parser__primary_k2 N R p0_0 (r49, p0_2, p1, 8)) else (m_impl_parser__primary_k2 N R p0_0 (r49, p0_2, p1, 7)) else (bif (r38 == 32) then Option.bind (R.m_impl_parser__assign (⟨false, false⟩ : SRules) p0_0 (IntKind.wrap .i64 (p0_1 + 1)) p0_2 p1) fun r70 => Option.bind (m_impl_parser__take 33 p0_0 r70.2.1 r70.2.2.1 r70.2.2.2) fun r72 => some ((⟨r70.1.tree, false⟩ : SPart), r72.2.1, r72.2.2, r70.2.2.2) else (Option.bind (m_impl_parser__fail p0_0 p0_1 p0_2 p1) fun r74 => some (r74.1, p0_1, r74.2, p1)))
def m_impl_parser__primary_F (N : Nat) (R : Rec1) (p0_0 : List SToken) (p0_1 : Int) (p0_2 : Bool) (p1 : List (List UInt8)) : Option (SPart × Int × Bool × (List (List UInt8))) :=
  bif p0_2 then some ((⟨(⟨0, 0, [], [], []⟩ : STree), false⟩ : SPart), p0_1, p0_2, p1) else (Option.bind (m_impl_parser__kind p0_0 p0_1 p0_2 p1) fun r38 => bif (r38 == 3) then Option.bind (m_impl_parser__text p0_0 p0_1 p0_2 p1) fun r40 => some ((⟨(⟨2, 0, r40.1, [], []⟩ : STree), false⟩ : SPart), r40.2, p0_2, p1) else (bif (r38 == 4) then Option.bind (m_impl_parser__text p0_0 p0_1 p0_2 p1) fun r42 => some ((⟨(⟨3, 0, r42.1, [], []⟩ : STree), false⟩ : SPart), r42.2, p0_2, p1) else (bif (r38 == 5) then Option.bind (m_impl_parser__text p0_0 p0_1 p0_2 p1) fun r44 => some ((⟨(⟨4, 0, r44.1, [], []⟩ : STree), false⟩ : SPart), r44.2, p0_2, p1) else (bif (r38 == 6) then Option.bind (R.m_impl_parser__variable p0_0 p0_1 p0_2 p1) fun r46 => some (r46.1, r46.2.1, r46.2.2.1, r46.2.2.2) else (bif (r38 == 7) then m_impl_parser__primary_k1 N R p0_0 (r38, p0_1, p0_2, p1, (r38 == 7)) else (m_impl_parser__primary_k1 N R p0_0 (r38, p0_1, p0_2, p1, (r38 == 8))))))))

def m_impl_parser__field_k1 (N : Nat) (R : Rec1) (p0_0 : List SToken) : (Int × Int × (List UInt8) × (List UInt8) × (List STree) × Bool × Int × Bool × (List (List UInt8))) → Option (SPart × Int × Bool × (List (List UInt8)))
  | (y19, y20, y21, y22, y23, y24, y25, y26, y27) => some ((⟨(⟨6, 0, [], [], [(⟨y19, y20, y21, y22, y23⟩ : STree)]⟩ : STree), true⟩ : SPart), y25, y26, y27)
def m_impl_parser__field_F (N : Nat) (R : Rec1) (p0_0 : List SToken) (p0_1 : Int) (p0_2 : Bool) (p1 : List (List UInt8)) : Option (SPart × Int × Bool × (List (List UInt8))) :=
  Option.bind (bif p0_2 then some true else (Option.bind (m_impl_parser__kind p0_0 p0_1 p0_2 p1) fun r8 => some (r8 != 68))) fun y7 => bif y7 then Option.bind (R.m_impl_parser__primary p0_0 p0_1 p0_2 p1) fun r10 => some (r10.1, r10.2.1, r10.2.2.1, r10.2.2.2) else (Option.bind (m_impl_parser__kind p0_0 (IntKind.wrap .i64 (p0_1 + 1)) p0_2 p1) fun r30 => Option.bind (m_impl_isStep r30) fun r31 => bif r31 then Option.bind (R.m_impl_parser__before p0_0 (IntKind.wrap .i64 (p0_1 + 1)) p0_2 p1) fun r33 => m_impl_parser__field_k1 N R p0_0 (r33.1.tree.kind, r33.1.tree.op, r33.1.tree.text, r33.1.tree.other, r33.1.tree.kids, r33.1.target, r33.2.1, r33.2.2.1, r33.2.2.2) else (Option.bind (R.m_impl_parser__field p0_0 (IntKind.wrap .i64 (p0_1 + 1)) p0_2 p1) fun r35 => m_impl_parser__field_k1 N R p0_0 (r35.1.tree.kind, r35.1.tree.op, r35.1.tree.text, r35.1.tree.other, r35.1.tree.kids, r35.1.target, r35.2.1, r35.2.2.1, r35.2.2.2)))

def m_impl_parser__lvalue_k1 (N : Nat) (R : Rec1) (p0_0 : List SToken) : (Int × Bool × (List (List UInt8))) → Option (SPart × Int × Bool × (List (List UInt8)))
  | (p0_1, p0_2, p1) => Option.bind (m_impl_parser__fail p0_0 p0_1 p0_2 p1) fun r10 => some (r10.1, p0_1, r10.2, p1)
def m_impl_parser__lvalue_F (N : Nat) (R : Rec1) (p0_0 : List SToken) (p0_1 : Int) (p0_2 : Bool) (p1 : List (List UInt8)) : Option (SPart × Int × Bool × (List (List UInt8))) :=
  bif p0_2 then m_impl_parser__lvalue_k1 N R p0_0 (p0_1, p0_2, p1) else (Option.bind (m_impl_parser__kind p0_0 p0_1 p0_2 p1) fun r12 => bif (r12 == 68) then Option.bind (R.m_impl_parser__field p0_0 p0_1 p0_2 p1) fun r14 => some (r14.1, r14.2.1, r14.2.2.1, r14.2.2.2) else (Option.bind (m_impl_parser__kind p0_0 p0_1 p0_2 p1) fun r16 => bif (r16 == 6) then Option.bind (R.m_impl_parser__variable p0_0 p0_1 p0_2 p1) fun r18 => some (r18.1, r18.2.1, r18.2.2.1, r18.2.2.2) else (m_impl_parser__lvalue_k1 N R p0_0 (p0_1, p0_2, p1))))

def m_impl_parser__before_F (N : Nat) (R : Rec1) (p0_0 : List SToken) (p0_1 : Int) (p0_2 : Bool) (p1 : List (List UInt8)) : Option (SPart × Int × Bool × (List (List UInt8))) :=
  Option.bind (m_impl_parser__kind p0_0 p0_1 p0_2 p1) fun r2 => Option.bind (R.m_impl_parser__lvalue p0_0 (IntKind.wrap .i64 (p0_1 + 1)) p0_2 p1) fun r4 => some ((⟨(⟨9, r2, [], [], [r4.1.tree]⟩ : STree), false⟩ : SPart), r4.2.1, r4.2.2.1, r4.2.2.2)

def m_impl_parser__incr_F (N : Nat) (R : Rec1) (p0_0 : List SToken) (p0_1 : Int) (p0_2 : Bool) (p1 : List (List UInt8)) : Option (SPart × Int × Bool × (List (List UInt8))) :=
  Option.bind (bif (!p0_2) then Option.bind (m_impl_parser__kind p0_0 p0_1 p0_2 p1) fun r11 => Option.bind (m_impl_isStep r11) fun r12 => some r12 else (some false)) fun y10 => bif y10 then Option.bind (R.m_impl_parser__before p0_0 p0_1 p0_2 p1) fun r14 => some (r14.1, r14.2.1, r14.2.2.1, r14.2.2.2) else (Option.bind (R.m_impl_parser__field p0_0 p0_1 p0_2 p1) fun r16 => Option.bind (bif r16.2.2.1 then some true else (bif (!r16.1.target) then some true else (Option.bind (m_impl_parser__kind p0_0 r16.2.1 r16.2.2.1 r16.2.2.2) fun r25 => Option.bind (m_impl_isStep r25) fun r26 => some (!r26)))) fun y24 => bif y24 then some (r16.1, r16.2.1, r16.2.2.1, r16.2.2.2) else (Option.bind (m_impl_parser__kind p0_0 r16.2.1 r16.2.2.1 r16.2.2.2) fun r28 => some ((⟨(⟨10, r28, [], [], [r16.1.tree]⟩ : STree), false⟩ : SPart), (IntKind.wrap .i64 (r16.2.1 + 1)), r16.2.2.1, r16.2.2.2)))

def m_impl_parser__pow_F (N : Nat) (R : Rec1) (a1 : SRules) (p0_0 : List SToken) (p0_1 : Int) (p0_2 : Bool) (p1 : List (List UInt8)) : Option (SPart × Int × Bool × (List (List UInt8))) :=
  Option.bind (R.m_impl_parser__incr p0_0 p0_1 p0_2 p1) fun r2 => Option.bind (bif r2.2.2.1 then some true else (Option.bind (m_impl_parser__kind p0_0 r2.2.1 r2.2.2.1 r2.2.2.2) fun r8 => some (r8 != 60))) fun y7 => bif y7 then some (r2.1, r2.2.1, r2.2.2.1, r2.2.2.2) else (Option.bind (R.m_impl_parser__unary a1 p0_0 (IntKind.wrap .i64 (r2.2.1 + 1)) r2.2.2.1 r2.2.2.2) fun r11 => Option.bind (m_impl_bin 60 r2.1 r11.1) fun r12 => some (r12, r11.2.1, r11.2.2.1, r11.2.2.2))

def m_impl_parser__unary_F (N : Nat) (R : Rec1) (a1 : SRules) (p0_0 : List SToken) (p0_1 : Int) (p0_2 : Bool) (p1 : List (List UInt8)) : Option (SPart × Int × Bool × (List (List UInt8))) :=
  Option.bind (m_impl_parser__kind p0_0 p0_1 p0_2 p1) fun r2 => Option.bind (bif p0_2 then some true else (bif (r2 != 55) then bif (r2 != 56) then some (r2 != 61) else (some false) else (some false))) fun y6 => bif y6 then Option.bind (R.m_impl_parser__pow a1 p0_0 p0_1 p0_2 p1) fun r8 => some (r8.1, r8.2.1, r8.2.2.1, r8.2.2.2) else (Option.bind (R.m_impl_parser__unary a1 p0_0 (IntKind.wrap .i64 (p0_1 + 1)) p0_2 p1) fun r10 => some ((⟨(⟨11, r2, [], [], [r10.1.tree]⟩ : STree), false⟩ : SPart), r10.2.1, r10.2.2.1, r10.2.2.2))

def m_impl_parser__mul_l1 (N : Nat) (R : Rec1) (p0_0 : List SToken) : Nat → (SRules × Int × Bool × Int × Int × (List UInt8) × (List UInt8) × (List STree) × Bool × (List (List UInt8))) → Option (SPart × Int × Bool × (List (List UInt8)))
  | 0, _ => none
  | n1 + 1, (a1, y85, y86, y87, y88, y89, y90, y91, y92, y93) => Option.bind (bif (!y86) then Option.bind (m_impl_parser__kind p0_0 y85 y86 y93) fun r127 => Option.bind (m_impl_OpLevel r127) fun r128 => some (r128 == 10) else (some false)) fun y126 => bif y126 then Option.bind (m_impl_parser__kind p0_0 y85 y86 y93) fun r130 => Option.bind (R.m_impl_parser__unary a1 p0_0 (IntKind.wrap .i64 (y85 + 1)) y86 y93) fun r133 => Option.bind (m_impl_bin r130 (⟨(⟨y87, y88, y89, y90, y91⟩ : STree), y92⟩ : SPart) r133.1) fun r134 => (m_impl_parser__mul_l1 N R p0_0 n1) (a1, r133.2.1, r133.2.2.1, r134.tree.kind, r134.tree.op, r134.tree.text, r134.tree.other, r134.tree.kids, r134.target, r133.2.2.2) else (some ((⟨(⟨y87, y88, y89, y90, y91⟩ : STree), y92⟩ : SPart), y85, y86, y93))
def m_impl_parser__mul_F (N : Nat) (R : Rec1) (a1 : SRules) (p0_0 : List SToken) (p0_1 : Int) (p0_2 : Bool) (p1 : List (List UInt8)) : Option (SPart × Int × Bool × (List (List UInt8))) :=
  Option.bind (R.m_impl_parser__unary a1 p0_0 p0_1 p0_2 p1) fun r2 => m_impl_parser__mul_l1 N R p0_0 N (a1, r2.2.1, r2.2.2.1, r2.1.tree.kind, r2.1.tree.op, r2.1.tree.text, r2.1.tree.other, r2.1.tree.kids, r2.1.target, r2.2.2.2)

def m_impl_parser__add_l1 (N : Nat) (R : Rec1) (p0_0 : List SToken) : Nat → (SRules × Int × Bool × Int × Int × (List UInt8) × (List UInt8) × (List STree) × Bool × (List (List UInt8))) → Option (SPart × Int × Bool × (List (List UInt8)))
  | 0, _ => none
  | n1 + 1, (a1, y85, y86, y87, y88, y89, y90, y91, y92, y93) => Option.bind (bif (!y86) then Option.bind (m_impl_parser__kind p0_0 y85 y86 y93) fun r127 => Option.bind (m_impl_OpLevel r127) fun r128 => some (r128 == 9) else (some false)) fun y126 => bif y126 then Option.bind (m_impl_parser__kind p0_0 y85 y86 y93) fun r130 => Option.bind (R.m_impl_parser__mul a1 p0_0 (IntKind.wrap .i64 (y85 + 1)) y86 y93) fun r133 => Option.bind (m_impl_bin r130 (⟨(⟨y87, y88, y89, y90, y91⟩ : STree), y92⟩ : SPart) r133.1) fun r134 => (m_impl_parser__add_l1 N R p0_0 n1) (a1, r133.2.1, r133.2.2.1, r134.tree.kind, r134.tree.op, r134.tree.text, r134.tree.other, r134.tree.kids, r134.target, r133.2.2.2) else (some ((⟨(⟨y87, y88, y89, y90, y91⟩ : STree), y92⟩ : SPart), y85, y86, y93))
def m_impl_parser__add_F (N : Nat) (R : Rec1) (a1 : SRules) (p0_0 : List SToken) (p0_1 : Int) (p0_2 : Bool) (p1 : List (List UInt8)) : Option (SPart × Int × Bool × (List (List UInt8))) :=
  Option.bind (R.m_impl_parser__mul a1 p0_0 p0_1 p0_2 p1) fun r2 => m_impl_parser__add_l1 N R p0_0 N (a1, r2.2.1, r2.2.2.1, r2.1.tree.kind, r2.1.tree.op, r2.1.tree.text, r2.1.tree.other, r2.1.tree.kids, r2.1.target, r2.2.2.2)

def m_impl_parser__cat_l1 (N : Nat) (R : Rec1) (p0_0 : List SToken) : Nat → (SRules × Int × Bool × Int × Int × (List UInt8) × (List UInt8) × (List STree) × Bool × (List (List UInt8))) → Option (SPart × Int × Bool × (List (List UInt8)))
  | 0, _ => none
  | n1 + 1, (a1, y77, y78, y79, y80, y81, y82, y83, y84, y85) => Option.bind (bif (!y78) then Option.bind (m_impl_parser__kind p0_0 y77 y78 y85) fun r117 => Option.bind (m_impl_BeginsOperand r117) fun r118 => some r118 else (some false)) fun y116 => bif y116 then Option.bind (R.m_impl_parser__add a1 p0_0 y77 y78 y85) fun r121 => Option.bind (m_impl_bin 99 (⟨(⟨y79, y80, y81, y82, y83⟩ : STree), y84⟩ : SPart) r121.1) fun r122 => (m_impl_parser__cat_l1 N R p0_0 n1) (a1, r121.2.1, r121.2.2.1, r122.tree.kind, r122.tree.op, r122.tree.text, r122.tree.other, r122.tree.kids, r122.target, r121.2.2.2) else (some ((⟨(⟨y79, y80, y81, y82, y83⟩ : STree), y84⟩ : SPart), y77, y78, y85))
def m_impl_parser__cat_F (N : Nat) (R : Rec1) (a1 : SRules) (p0_0 : List SToken) (p0_1 : Int) (p0_2 : Bool) (p1 : List (List UInt8)) : Option (SPart × Int × Bool × (List (List UInt8))) :=
  Option.bind (R.m_impl_parser__add a1 p0_0 p0_1 p0_2 p1) fun r2 => m_impl_parser__cat_l1 N R p0_0 N (a1, r2.2.1, r2.2.2.1, r2.1.tree.kind, r2.1.tree.op, r2.1.tree.text, r2.1.tree.other, r2.1.tree.kids, r2.1.target, r2.2.2.2)

def m_impl_parser__compare_F (N : Nat) (R : Rec1) (a1 : SRules) (p0_0 : List SToken) (p0_1 : Int) (p0_2 : Bool) (p1 : List (List UInt8)) : Option (SPart × Int × Bool × (List (List UInt8))) :=
  Option.bind (R.m_impl_parser__cat a1 p0_0 p0_1 p0_2 p1) fun r2 => Option.bind (bif r2.2.2.1 then some true else (Option.bind (m_impl_parser__kind p0_0 r2.2.1 r2.2.2.1 r2.2.2.2) fun r14 => Option.bind (m_impl_OpLevel r14) fun r15 => bif (r15 != 7) then some true else (bif a1.noGt then Option.bind (m_impl_parser__kind p0_0 r2.2.1 r2.2.2.1 r2.2.2.2) fun r16 => some (r16 == 62) else (some false)))) fun y13 => bif y13 then some (r2.1, r2.2.1, r2.2.2.1, r2.2.2.2) else (Option.bind (m_impl_parser__kind p0_0 r2.2.1 r2.2.2.1 r2.2.2.2) fun r18 => Option.bind (R.m_impl_parser__cat a1 p0_0 (IntKind.wrap .i64 (r2.2.1 + 1)) r2.2.2.1 r2.2.2.2) fun r21 => Option.bind (m_impl_bin r18 r2.1 r21.1) fun r22 => some (r22, r21.2.1, r21.2.2.1, r21.2.2.2))

def m_impl_parser__match_F (N : Nat) (R : Rec1) (a1 : SRules) (p0_0 : List SToken) (p0_1 : Int) (p0_2 : Bool) (p1 : List (List UInt8)) : Option (SPart × Int × Bool × (List (List UInt8))) :=
  Option.bind (R.m_impl_parser__compare a1 p0_0 p0_1 p0_2 p1) fun r2 => Option.bind (bif r2.2.2.1 then some true else (Option.bind (m_impl_parser__kind p0_0 r2.2.1 r2.2.2.1 r2.2.2.2) fun r11 => bif (r11 != 67) then Option.bind (m_impl_parser__kind p0_0 r2.2.1 r2.2.2.1 r2.2.2.2) fun r12 => some (r12 != 46) else (some false))) fun y10 => bif y10 then some (r2.1, r2.2.1, r2.2.2.1, r2.2.2.2) else (Option.bind (m_impl_parser__kind p0_0 r2.2.1 r2.2.2.1 r2.2.2.2) fun r14 => Option.bind (R.m_impl_parser__compare a1 p0_0 (IntKind.wrap .i64 (r2.2.1 + 1)) r2.2.2.1 r2.2.2.2) fun r17 => Option.bind (m_impl_bin r14 r2.1 r17.1) fun r18 => some (r18, r17.2.1, r17.2.2.1, r17.2.2.2))

def m_impl_parser__items_k1 (N : Nat) (R : Rec1) (p0_0 : List SToken) : ((List STree) × Int × Bool × (List (List UInt8))) → Option ((List STree) × Int × Bool × (List (List UInt8)))
  | (y45, y46, y47, y48) => some (y45, y46, y47, y48)
def m_impl_parser__items_l2 (N : Nat) (R : Rec1) (p0_0 : List SToken) : Nat → (SRules × Int × Bool × (List STree) × (List (List UInt8))) → Option ((List STree) × Int × Bool × (List (List UInt8)))
  | 0, _ => none
  | n2 + 1, (a1, y61, y62, y63, y64) => bif (!y62) then Option.bind (R.m_impl_parser__assign a1 p0_0 y61 y62 y64) fun r83 => Option.bind (app 72 y63 [r83.1.tree]) fun x84 => Option.bind (bif r83.2.2.1 then some true else (Option.bind (m_impl_parser__kind p0_0 r83.2.1 r83.2.2.1 r83.2.2.2) fun r90 => some (r90 != 36))) fun y89 => bif y89 then m_impl_parser__items_k1 N R p0_0 (x84, r83.2.1, r83.2.2.1, r83.2.2.2) else (bif ((x84.length : Int) == 6) then m_impl_parser__items_k1 N R p0_0 (x84, r83.2.1, true, r83.2.2.2) else (Option.bind (m_impl_parser__newlines N p0_0 (IntKind.wrap .i64 (r83.2.1 + 1)) r83.2.2.1 r83.2.2.2) fun r92 => (m_impl_parser__items_l2 N R p0_0 n2) (a1, r92.1, r83.2.2.1, x84, r92.2))) else (m_impl_parser__items_k1 N R p0_0 (y63, y61, y62, y64))
def m_impl_parser__items_F (N : Nat) (R : Rec1) (a1 : SRules) (p0_0 : List SToken) (p0_1 : Int) (p0_2 : Bool) (p1 : List (List UInt8)) : Option ((List STree) × Int × Bool × (List (List UInt8))) :=
  m_impl_parser__items_l2 N R p0_0 N (a1, p0_1, p0_2, [], p1)

def m_impl_parser__list_F (N : Nat) (R : Rec1) (a1 : Int) (p0_0 : List SToken) (p0_1 : Int) (p0_2 : Bool) (p1 : List (List UInt8)) : Option ((List STree) × Int × Bool × (List (List UInt8))) :=
  Option.bind (Option.bind (m_impl_parser__kind p0_0 p0_1 p0_2 p1) fun r6 => bif (r6 == a1) then some (a1 == 33) else (some false)) fun y5 => bif y5 then some ([], (IntKind.wrap .i64 (p0_1 + 1)), p0_2, p1) else (Option.bind (R.m_impl_parser__items (⟨false, false⟩ : SRules) p0_0 p0_1 p0_2 p1) fun r8 => Option.bind (m_impl_parser__take a1 p0_0 r8.2.1 r8.2.2.1 r8.2.2.2) fun r10 => some (r8.1, r10.2.1, r10.2.2, r8.2.2.2))

def m_impl_parser__in_l1 (N : Nat) (R : Rec1) (p0_0 : List SToken) : Nat → (SRules × ((List STree) × Int × Bool × (List (List UInt8))) × Int × Bool × (List UInt8) × (List STree)) → Option (SPart × Int × Bool × (List (List UInt8)))
  | 0, _ => none
  | n1 + 1, (a1, r21, y91, y92, y93, y94) => Option.bind (bif (!y92) then Option.bind (m_impl_parser__kind p0_0 y91 y92 r21.2.2.2) fun r112 => bif (r112 == 24) then some (!a1.noIn) else (some false) else (some false)) fun y111 => bif y111 then Option.bind (m_impl_parser__name p0_0 (IntKind.wrap .i64 (y91 + 1)) y92 r21.2.2.2) fun r114 => (m_impl_parser__in_l1 N R p0_0 n1) (a1, r21, r114.2.1, r114.2.2, r114.1, [(⟨13, 0, y93, [], y94⟩ : STree)]) else (some ((⟨(⟨13, 0, y93, [], y94⟩ : STree), false⟩ : SPart), y91, y92, r21.2.2.2))
def m_impl_parser__in_l2 (N : Nat) (R : Rec1) (p0_0 : List SToken) : Nat → (SRules × (SPart × Int × Bool × (List (List UInt8))) × Int × Bool × (List UInt8) × (List STree)) → Option (SPart × Int × Bool × (List (List UInt8)))
  | 0, _ => none
  | n2 + 1, (a1, r116, y173, y174, y175, y176) => Option.bind (bif (!y174) then Option.bind (m_impl_parser__kind p0_0 y173 y174 r116.2.2.2) fun r194 => bif (r194 == 24) then some (!a1.noIn) else (some false) else (some false)) fun y193 => bif y193 then Option.bind (m_impl_parser__name p0_0 (IntKind.wrap .i64 (y173 + 1)) y174 r116.2.2.2) fun r196 => (m_impl_parser__in_l2 N R p0_0 n2) (a1, r116, r196.2.1, r196.2.2, r196.1, [(⟨13, 0, y175, [], y176⟩ : STree)]) else (some ((⟨(⟨13, 0, y175, [], y176⟩ : STree), false⟩ : SPart), y173, y174, r116.2.2.2))
def m_impl_parser__in_F (N : Nat) (R : Rec1) (a1 : SRules) (p0_0 : List SToken) (p0_1 : Int) (p0_2 : Bool) (p1 : List (List UInt8)) : Option (SPart × Int × Bool × (List (List UInt8))) :=
  Option.bind (bif (!p0_2) then Option.bind (m_impl_parser__kind p0_0 p0_1 p0_2 p1) fun r18 => bif (r18 == 32) then bif (!a1.noIn) then Option.bind (m_impl_parser__listAhead N p0_0 p0_1 p0_2 p1) fun r19 => some r19 else (some false) else (some false) else (some false)) fun y17 => bif y17 then Option.bind (R.m_impl_parser__list 33 p0_0 (IntKind.wrap .i64 (p0_1 + 1)) p0_2 p1) fun r21 => Option.bind (bif (!r21.2.2.1) then Option.bind (m_impl_parser__kind p0_0 r21.2.1 r21.2.2.1 r21.2.2.2) fun r24 => some (r24 != 24) else (some false)) fun y23 => bif y23 then Option.bind (m_impl_parser__fail p0_0 r21.2.1 r21.2.2.1 r21.2.2.2) fun r26 => some (r26.1, r21.2.1, r26.2, r21.2.2.2) else (Option.bind (bif (!r21.2.2.1) then Option.bind (m_impl_parser__kind p0_0 r21.2.1 r21.2.2.1 r21.2.2.2) fun r76 => bif (r76 == 24) then some (!a1.noIn) else (some false) else (some false)) fun y75 => bif y75 then Option.bind (neN r21.1) fun b80 => Option.bind (m_impl_parser__name p0_0 (IntKind.wrap .i64 (r21.2.1 + 1)) r21.2.2.1 r21.2.2.2) fun r82 => m_impl_parser__in_l1 N R p0_0 N (a1, r21, r82.2.1, r82.2.2, r82.1, r21.1) else (some ((⟨(⟨0, 0, [], [], []⟩ : STree), false⟩ : SPart), r21.2.1, r21.2.2.1, r21.2.2.2))) else (Option.bind (R.m_impl_parser__match a1 p0_0 p0_1 p0_2 p1) fun r116 => Option.bind (bif (!r116.2.2.1) then Option.bind (m_impl_parser__kind p0_0 r116.2.1 r116.2.2.1 r116.2.2.2) fun r162 => bif (r162 == 24) then some (!a1.noIn) else (some false) else (some false)) fun y161 => bif y161 then Option.bind (m_impl_parser__name p0_0 (IntKind.wrap .i64 (r116.2.1 + 1)) r116.2.2.1 r116.2.2.2) fun r164 => m_impl_parser__in_l2 N R p0_0 N (a1, r116, r164.2.1, r164.2.2, r164.1, [r116.1.tree]) else (some (r116.1, r116.2.1, r116.2.2.1, r116.2.2.2)))

def m_impl_parser__and_l1 (N : Nat) (R : Rec1) (p0_0 : List SToken) : Nat → (SRules × Int × Bool × Int × Int × (List UInt8) × (List UInt8) × (List STree) × Bool × (List (List UInt8))) → Option (SPart × Int × Bool × (List (List UInt8)))
  | 0, _ => none
  | n1 + 1, (a1, y69, y70, y71, y72, y73, y74, y75, y76, y77) => Option.bind (bif (!y70) then Option.bind (m_impl_parser__kind p0_0 y69 y70 y77) fun r104 => some (r104 == 45) else (some false)) fun y103 => bif y103 then Option.bind (m_impl_parser__newlines N p0_0 (IntKind.wrap .i64 (y69 + 1)) y70 y77) fun r106 => Option.bind (R.m_impl_parser__in a1 p0_0 r106.1 y70 r106.2) fun r109 => Option.bind (m_impl_bin 45 (⟨(⟨y71, y72, y73, y74, y75⟩ : STree), y76⟩ : SPart) r109.1) fun r110 => (m_impl_parser__and_l1 N R p0_0 n1) (a1, r109.2.1, r109.2.2.1, r110.tree.kind, r110.tree.op, r110.tree.text, r110.tree.other, r110.tree.kids, r110.target, r109.2.2.2) else (some ((⟨(⟨y71, y72, y73, y74, y75⟩ : STree), y76⟩ : SPart), y69, y70, y77))
def m_impl_parser__and_F (N : Nat) (R : Rec1) (a1 : SRules) (p0_0 : List SToken) (p0_1 : Int) (p0_2 : Bool) (p1 : List (List UInt8)) : Option (SPart × Int × Bool × (List (List UInt8))) :=
  Option.bind (R.m_impl_parser__in a1 p0_0 p0_1 p0_2 p1) fun r2 => m_impl_parser__and_l1 N R p0_0 N (a1, r2.2.1, r2.2.2.1, r2.1.tree.kind, r2.1.tree.op, r2.1.tree.text, r2.1.tree.other, r2.1.tree.kids, r2.1.target, r2.2.2.2)

def m_impl_parser__or_l1 (N : Nat) (R : Rec1) (p0_0 : List SToken) : Nat → (SRules × Int × Bool × Int × Int × (List UInt8) × (List UInt8) × (List STree) × Bool × (List (List UInt8))) → Option (SPart × Int × Bool × (List (List UInt8)))
  | 0, _ => none
  | n1 + 1, (a1, y69, y70, y71, y72, y73, y74, y75, y76, y77) => Option.bind (bif (!y70) then Option.bind (m_impl_parser__kind p0_0 y69 y70 y77) fun r104 => some (r104 == 44) else (some false)) fun y103 => bif y103 then Option.bind (m_impl_parser__newlines N p0_0 (IntKind.wrap .i64 (y69 + 1)) y70 y77) fun r106 => Option.bind (R.m_impl_parser__and a1 p0_0 r106.1 y70 r106.2) fun r109 => Option.bind (m_impl_bin 44 (⟨(⟨y71, y72, y73, y74, y75⟩ : STree), y76⟩ : SPart) r109.1) fun r110 => (m_impl_parser__or_l1 N R p0_0 n1) (a1, r109.2.1, r109.2.2.1, r110.tree.kind, r110.tree.op, r110.tree.text, r110.tree.other, r110.tree.kids, r110.target, r109.2.2.2) else (some ((⟨(⟨y71, y72, y73, y74, y75⟩ : STree), y76⟩ : SPart), y69, y70, y77))
def m_impl_parser__or_F (N : Nat) (R : Rec1) (a1 : SRules) (p0_0 : List SToken) (p0_1 : Int) (p0_2 : Bool) (p1 : List (List UInt8)) : Option (SPart × Int × Bool × (List (List UInt8))) :=
  Option.bind (R.m_impl_parser__and a1 p0_0 p0_1 p0_2 p1) fun r2 => m_impl_parser__or_l1 N R p0_0 N (a1, r2.2.1, r2.2.2.1, r2.1.tree.kind, r2.1.tree.op, r2.1.tree.text, r2.1.tree.other, r2.1.tree.kids, r2.1.target, r2.2.2.2)

def m_impl_parser__cond_F (N : Nat) (R : Rec1) (a1 : SRules) (p0_0 : List SToken) (p0_1 : Int) (p0_2 : Bool) (p1 : List (List UInt8)) : Option (SPart × Int × Bool × (List (List UInt8))) :=
  Option.bind (R.m_impl_parser__or a1 p0_0 p0_1 p0_2 p1) fun r2 => Option.bind (bif r2.2.2.1 then some true else (Option.bind (m_impl_parser__kind p0_0 r2.2.1 r2.2.2.1 r2.2.2.2) fun r8 => some (r8 != 65))) fun y7 => bif y7 then some (r2.1, r2.2.1, r2.2.2.1, r2.2.2.2) else (Option.bind (R.m_impl_parser__cond a1 p0_0 (IntKind.wrap .i64 (r2.2.1 + 1)) r2.2.2.1 r2.2.2.2) fun r10 => Option.bind (m_impl_parser__take 66 p0_0 r10.2.1 r10.2.2.1 r10.2.2.2) fun r12 => bif r12.2.2 then some ((⟨(⟨0, 0, [], [], []⟩ : STree), false⟩ : SPart), r12.2.1, r12.2.2, r10.2.2.2) else (Option.bind (R.m_impl_parser__cond a1 p0_0 r12.2.1 r12.2.2 r10.2.2.2) fun r14 => some ((⟨(⟨14, 0, [], [], [r2.1.tree, r10.1.tree, r14.1.tree]⟩ : STree), false⟩ : SPart), r14.2.1, r14.2.2.1, r14.2.2.2)))

def m_impl_parser__assign_F (N : Nat) (R : Rec1) (a1 : SRules) (p0_0 : List SToken) (p0_1 : Int) (p0_2 : Bool) (p1 : List (List UInt8)) : Option (SPart × Int × Bool × (List (List UInt8))) :=
  Option.bind (R.m_impl_parser__cond a1 p0_0 p0_1 p0_2 p1) fun r2 => Option.bind (bif r2.2.2.1 then some true else (bif (!r2.1.target) then some true else (Option.bind (m_impl_parser__kind p0_0 r2.2.1 r2.2.2.1 r2.2.2.2) fun r11 => Option.bind (m_impl_isAssign r11) fun r12 => some (!r12)))) fun y10 => bif y10 then some (r2.1, r2.2.1, r2.2.2.1, r2.2.2.2) else (Option.bind (m_impl_parser__kind p0_0 r2.2.1 r2.2.2.1 r2.2.2.2) fun r14 => Option.bind (R.m_impl_parser__assign a1 p0_0 (IntKind.wrap .i64 (r2.2.1 + 1)) r2.2.2.1 r2.2.2.2) fun r16 => some ((⟨(⟨15, r14, [], [], [r2.1.tree, r16.1.tree]⟩ : STree), false⟩ : SPart), r16.2.1, r16.2.2.1, r16.2.2.2))
def scc1 : Nat → Rec1
  | 0 => ⟨fun _ _ _ _ => none, fun _ _ _ _ => none, fun _ _ _ _ => none, fun _ _ _ _ => none, fun _ _ _ _ => none, fun _ _ _ _ => none, fun _ _ _ _ _ => none, fun _ _ _ _ _ => none, fun _ _ _ _ _ => none, fun _ _ _ _ _ => none, fun _ _ _ _ _ => none, fun _ _ _ _ _ => none, fun _ _ _ _ _ => none, fun _ _ _ _ _ => none, fun _ _ _ _ _ => none, fun _ _ _ _ _ => none, fun _ _ _ _ _ => none, fun _ _ _ _ _ => none, fun _ _ _ _ _ => none, fun _ _ _ _ _ => none⟩
  | N + 1 => ⟨fun p0_0 p0_1 p0_2 p1 => m_impl_parser__variable_F N (scc1 N) p0_0 p0_1 p0_2 p1, fun p0_0 p0_1 p0_2 p1 => m_impl_parser__primary_F N (scc1 N) p0_0 p0_1 p0_2 p1, fun p0_0 p0_1 p0_2 p1 => m_impl_parser__field_F N (scc1 N) p0_0 p0_1 p0_2 p1, fun p0_0 p0_1 p0_2 p1 => m_impl_parser__lvalue_F N (scc1 N) p0_0 p0_1 p0_2 p1, fun p0_0 p0_1 p0_2 p1 => m_impl_parser__before_F N (scc1 N) p0_0 p0_1 p0_2 p1, fun p0_0 p0_1 p0_2 p1 => m_impl_parser__incr_F N (scc1 N) p0_0 p0_1 p0_2 p1, fun a1 p0_0 p0_1 p0_2 p1 => m_impl_parser__pow_F N (scc1 N) a1 p0_0 p0_1 p0_2 p1, fun a1 p0_0 p0_1 p0_2 p1 => m_impl_parser__unary_F N (scc1 N) a1 p0_0 p0_1 p0_2 p1, fun a1 p0_0 p0_1 p0_2 p1 => m_impl_parser__mul_F N (scc1 N) a1 p0_0 p0_1 p0_2 p1, fun a1 p0_0 p0_1 p0_2 p1 => m_impl_parser__add_F N (scc1 N) a1 p0_0 p0_1 p0_2 p1, fun a1 p0_0 p0_1 p0_2 p1 => m_impl_parser__cat_F N (scc1 N) a1 p0_0 p0_1 p0_2 p1, fun a1 p0_0 p0_1 p0_2 p1 => m_impl_parser__compare_F N (scc1 N) a1 p0_0 p0_1 p0_2 p1, fun a1 p0_0 p0_1 p0_2 p1 => m_impl_parser__match_F N (scc1 N) a1 p0_0 p0_1 p0_2 p1, fun a1 p0_0 p0_1 p0_2 p1 => m_impl_parser__items_F N (scc1 N) a1 p0_0 p0_1 p0_2 p1, fun a1 p0_0 p0_1 p0_2 p1 => m_impl_parser__list_F N (scc1 N) a1 p0_0 p0_1 p0_2 p1, fun a1 p0_0 p0_1 p0_2 p1 => m_impl_parser__in_F N (scc1 N) a1 p0_0 p0_1 p0_2 p1, fun a1 p0_0 p0_1 p0_2 p1 => m_impl_parser__and_F N (scc1 N) a1 p0_0 p0_1 p0_2 p1, fun a1 p0_0 p0_1 p0_2 p1 => m_impl_parser__or_F N (scc1 N) a1 p0_0 p0_1 p0_2 p1, fun a1 p0_0 p0_1 p0_2 p1 => m_impl_parser__cond_F N (scc1 N) a1 p0_0 p0_1 p0_2 p1, fun a1 p0_0 p0_1 p0_2 p1 => m_impl_parser__assign_F N (scc1 N) a1 p0_0 p0_1 p0_2 p1⟩
def m_impl_parser__variable (N : Nat) (p0_0 : List SToken) (p0_1 : Int) (p0_2 : Bool) (p1 : List (List UInt8)) : Option (SPart × Int × Bool × (List (List UInt8))) := (scc1 N).m_impl_parser__variable p0_0 p0_1 p0_2 p1
def m_impl_parser__primary (N : Nat) (p0_0 : List SToken) (p0_1 : Int) (p0_2 : Bool) (p1 : List (List UInt8)) : Option (SPart × Int × Bool × (List (List UInt8))) := (scc1 N).m_impl_parser__primary p0_0 p0_1 p0_2 p1
def m_impl_parser__field (N : Nat) (p0_0 : List SToken) (p0_1 : Int) (p0_2 : Bool) (p1 : List (List UInt8)) : Option (SPart × Int × Bool × (List (List UInt8))) := (scc1 N).m_impl_parser__field p0_0 p0_1 p0_2 p1
def m_impl_parser__lvalue (N : Nat) (p0_0 : List SToken) (p0_1 : Int) (p0_2 : Bool) (p1 : List (List UInt8)) : Option (SPart × Int × Bool × (List (List UInt8))) := (scc1 N).m_impl_parser__lvalue p0_0 p0_1 p0_2 p1
def m_impl_parser__before (N : Nat) (p0_0 : List SToken) (p0_1 : Int) (p0_2 : Bool) (p1 : List (List UInt8)) : Option (SPart × Int × Bool × (List (List UInt8))) := (scc1 N).m_impl_parser__before p0_0 p0_1 p0_2 p1
def m_impl_parser__incr (N : Nat) (p0_0 : List SToken) (p0_1 : Int) (p0_2 : Bool) (p1 : List (List UInt8)) : Option (SPart × Int × Bool × (List (List UInt8))) := (scc1 N).m_impl_parser__incr p0_0 p0_1 p0_2 p1
def m_impl_parser__pow (N : Nat) (a1 : SRules) (p0_0 : List SToken) (p0_1 : Int) (p0_2 : Bool) (p1 : List (List UInt8)) : Option (SPart × Int × Bool × (List (List UInt8))) := (scc1 N).m_impl_parser__pow a1 p0_0 p0_1 p0_2 p1
def m_impl_parser__unary (N : Nat) (a1 : SRules) (p0_0 : List SToken) (p0_1 : Int) (p0_2 : Bool) (p1 : List (List UInt8)) : Option (SPart × Int × Bool × (List (List UInt8))) := (scc1 N).m_impl_parser__unary a1 p0_0 p0_1 p0_2 p1
def m_impl_parser__mul (N : Nat) (a1 : SRules) (p0_0 : List SToken) (p0_1 : Int) (p0_2 : Bool) (p1 : List (List UInt8)) : Option (SPart × Int × Bool × (List (List UInt8))) := (scc1 N).m_impl_parser__mul a1 p0_0 p0_1 p0_2 p1
def m_impl_parser__add (N : Nat) (a1 : SRules) (p0_0 : List SToken) (p0_1 : Int) (p0_2 : Bool) (p1 : List (List UInt8)) : Option (SPart × Int × Bool × (List (List UInt8))) := (scc1 N).m_impl_parser__add a1 p0_0 p0_1 p0_2 p1
def m_impl_parser__cat (N : Nat) (a1 : SRules) (p0_0 : List SToken) (p0_1 : Int) (p0_2 : Bool) (p1 : List (List UInt8)) : Option (SPart × Int × Bool × (List (List UInt8))) := (scc1 N).m_impl_parser__cat a1 p0_0 p0_1 p0_2 p1
def m_impl_parser__compare (N : Nat) (a1 : SRules) (p0_0 : List SToken) (p0_1 : Int) (p0_2 : Bool) (p1 : List (List UInt8)) : Option (SPart × Int × Bool × (List (List UInt8))) := (scc1 N).m_impl_parser__compare a1 p0_0 p0_1 p0_2 p1
def m_impl_parser__match (N : Nat) (a1 : SRules) (p0_0 : List SToken) (p0_1 : Int) (p0_2 : Bool) (p1 : List (List UInt8)) : Option (SPart × Int × Bool × (List (List UInt8))) := (scc1 N).m_impl_parser__match a1 p0_0 p0_1 p0_2 p1
def m_impl_parser__items (N : Nat) (a1 : SRules) (p0_0 : List SToken) (p0_1 : Int) (p0_2 : Bool) (p1 : List (List UInt8)) : Option ((List STree) × Int × Bool × (List (List UInt8))) := (scc1 N).m_impl_parser__items a1 p0_0 p0_1 p0_2 p1
def m_impl_parser__list (N : Nat) (a1 : Int) (p0_0 : List SToken) (p0_1 : Int) (p0_2 : Bool) (p1 : List (List UInt8)) : Option ((List STree) × Int × Bool × (List (List UInt8))) := (scc1 N).m_impl_parser__list a1 p0_0 p0_1 p0_2 p1
def m_impl_parser__in (N : Nat) (a1 : SRules) (p0_0 : List SToken) (p0_1 : Int) (p0_2 : Bool) (p1 : List (List UInt8)) : Option (SPart × Int × Bool × (List (List UInt8))) := (scc1 N).m_impl_parser__in a1 p0_0 p0_1 p0_2 p1
def m_impl_parser__and (N : Nat) (a1 : SRules) (p0_0 : List SToken) (p0_1 : Int) (p0_2 : Bool) (p1 : List (List UInt8)) : Option (SPart × Int × Bool × (List (List UInt8))) := (scc1 N).m_impl_parser__and a1 p0_0 p0_1 p0_2 p1
def m_impl_parser__or (N : Nat) (a1 : SRules) (p0_0 : List SToken) (p0_1 : Int) (p0_2 : Bool) (p1 : List (List UInt8)) : Option (SPart × Int × Bool × (List (List UInt8))) := (scc1 N).m_impl_parser__or a1 p0_0 p0_1 p0_2 p1
def m_impl_parser__cond (N : Nat) (a1 : SRules) (p0_0 : List SToken) (p0_1 : Int) (p0_2 : Bool) (p1 : List (List UInt8)) : Option (SPart × Int × Bool × (List (List UInt8))) := (scc1 N).m_impl_parser__cond a1 p0_0 p0_1 p0_2 p1
def m_impl_parser__assign (N : Nat) (a1 : SRules) (p0_0 : List SToken) (p0_1 : Int) (p0_2 : Bool) (p1 : List (List UInt8)) : Option (SPart × Int × Bool × (List (List UInt8))) := (scc1 N).m_impl_parser__assign a1 p0_0 p0_1 p0_2 p1

/-! ### impl.parser).level -/
def m_impl_parser__level (N : Nat) (a1 : SPos) (p0_0 : List SToken) (p0_1 : Int) (p0_2 : Bool) (p1 : List (List UInt8)) : Option (SPart × Int × Bool × (List (List UInt8))) :=
  Option.bind (bif a1.NoSign then Option.bind (m_impl_parser__kind p0_0 p0_1 p0_2 p1) fun r11 => Option.bind (m_impl_BeginsOperand r11) fun r12 => some (!r12) else (some false)) fun y10 => bif y10 then Option.bind (m_impl_parser__fail p0_0 p0_1 p0_2 p1) fun r14 => some (r14.1, p0_1, r14.2, p1) else (bif (a1.Level == 1) then Option.bind (m_impl_parser__assign N (⟨a1.NoIn, a1.NoGt⟩ : SRules) p0_0 p0_1 p0_2 p1) fun r58 => some (r58.1, r58.2.1, r58.2.2.1, r58.2.2.2) else (bif (a1.Level == 2) then Option.bind (m_impl_parser__cond N (⟨a1.NoIn, a1.NoGt⟩ : SRules) p0_0 p0_1 p0_2 p1) fun r60 => some (r60.1, r60.2.1, r60.2.2.1, r60.2.2.2) else (bif (a1.Level == 3) then Option.bind (m_impl_parser__or N (⟨a1.NoIn, a1.NoGt⟩ : SRules) p0_0 p0_1 p0_2 p1) fun r62 => some (r62.1, r62.2.1, r62.2.2.1, r62.2.2.2) else (bif (a1.Level == 4) then Option.bind (m_impl_parser__and N (⟨a1.NoIn, a1.NoGt⟩ : SRules) p0_0 p0_1 p0_2 p1) fun r64 => some (r64.1, r64.2.1, r64.2.2.1, r64.2.2.2) else (bif (a1.Level == 5) then Option.bind (m_impl_parser__in N (⟨a1.NoIn, a1.NoGt⟩ : SRules) p0_0 p0_1 p0_2 p1) fun r66 => some (r66.1, r66.2.1, r66.2.2.1, r66.2.2.2) else (bif (a1.Level == 6) then Option.bind (m_impl_parser__match N (⟨a1.NoIn, a1.NoGt⟩ : SRules) p0_0 p0_1 p0_2 p1) fun r68 => some (r68.1, r68.2.1, r68.2.2.1, r68.2.2.2) else (bif (a1.Level == 7) then Option.bind (m_impl_parser__compare N (⟨a1.NoIn, a1.NoGt⟩ : SRules) p0_0 p0_1 p0_2 p1) fun r70 => some (r70.1, r70.2.1, r70.2.2.1, r70.2.2.2) else (bif (a1.Level == 8) then Option.bind (m_impl_parser__cat N (⟨a1.NoIn, a1.NoGt⟩ : SRules) p0_0 p0_1 p0_2 p1) fun r72 => some (r72.1, r72.2.1, r72.2.2.1, r72.2.2.2) else (bif (a1.Level == 9) then Option.bind (m_impl_parser__add N (⟨a1.NoIn, a1.NoGt⟩ : SRules) p0_0 p0_1 p0_2 p1) fun r74 => some (r74.1, r74.2.1, r74.2.2.1, r74.2.2.2) else (bif (a1.Level == 10) then Option.bind (m_impl_parser__mul N (⟨a1.NoIn, a1.NoGt⟩ : SRules) p0_0 p0_1 p0_2 p1) fun r76 => some (r76.1, r76.2.1, r76.2.2.1, r76.2.2.2) else (bif (a1.Level == 11) then Option.bind (m_impl_parser__unary N (⟨a1.NoIn, a1.NoGt⟩ : SRules) p0_0 p0_1 p0_2 p1) fun r78 => some (r78.1, r78.2.1, r78.2.2.1, r78.2.2.2) else (bif (a1.Level == 12) then Option.bind (m_impl_parser__pow N (⟨a1.NoIn, a1.NoGt⟩ : SRules) p0_0 p0_1 p0_2 p1) fun r80 => some (r80.1, r80.2.1, r80.2.2.1, r80.2.2.2) else (bif (a1.Level == 13) then Option.bind (m_impl_parser__incr N p0_0 p0_1 p0_2 p1) fun r82 => some (r82.1, r82.2.1, r82.2.2.1, r82.2.2.2) else (bif (a1.Level == 14) then Option.bind (bif a1.Dollar then Option.bind (m_impl_parser__kind p0_0 p0_1 p0_2 p1) fun r93 => Option.bind (m_impl_isStep r93) fun r94 => some r94 else (some false)) fun y92 => bif y92 then Option.bind (m_impl_parser__before N p0_0 p0_1 p0_2 p1) fun r96 => some (r96.1, r96.2.1, r96.2.2.1, r96.2.2.2) else (Option.bind (m_impl_parser__field N p0_0 p0_1 p0_2 p1) fun r98 => some (r98.1, r98.2.1, r98.2.2.1, r98.2.2.2)) else (Option.bind (m_impl_parser__primary N p0_0 p0_1 p0_2 p1) fun r100 => some (r100.1, r100.2.1, r100.2.2.1, r100.2.2.2))))))))))))))))

/-! ### a circle of 1 -/
structure Rec2 where
  m_impl_tree__size : STree → Option Int

def m_impl_tree__size_l1 (N : Nat) (R : Rec2) : Nat → (STree × Int × Int) → Option Int
  | 0, _ => none
  | n1 + 1, (a0, y37, y38) => bif (decide (y38 < (a0.kids.length : Int))) then Option.bind (ix a0.kids y38) fun e54 => Option.bind (R.m_impl_tree__size e54) fun r56 => (m_impl_tree__size_l1 N R n1) (a0, (IntKind.wrap .i64 (y37 + r56)), (IntKind.wrap .i64 (y38 + 1))) else (some y37)
def m_impl_tree__size_F (N : Nat) (R : Rec2) (a0 : STree) : Option Int :=
  m_impl_tree__size_l1 N R N (a0, 1, 0)
def scc2 : Nat → Rec2
  | 0 => ⟨fun _ => none⟩
  | N + 1 => ⟨fun a0 => m_impl_tree__size_F N (scc2 N) a0⟩
def m_impl_tree__size (N : Nat) (a0 : STree) : Option Int := (scc2 N).m_impl_tree__size a0

/-! ### a circle of 1 -/
structure Rec3 where
  m_impl_tree__depth : STree → Option Int

def m_impl_tree__depth_l1 (N : Nat) (R : Rec3) : Nat → (STree × Int × Int) → Option Int
  | 0, _ => none
  | n1 + 1, (a0, y37, y38) => bif (decide (y38 < (a0.kids.length : Int))) then Option.bind (ix a0.kids y38) fun e54 => Option.bind (R.m_impl_tree__depth e54) fun r56 => (m_impl_tree__depth_l1 N R n1) (a0, (if r56 > y37 then r56 else y37), (IntKind.wrap .i64 (y38 + 1))) else (some (IntKind.wrap .i64 (y37 + 1)))
def m_impl_tree__depth_F (N : Nat) (R : Rec3) (a0 : STree) : Option Int :=
  m_impl_tree__depth_l1 N R N (a0, 0, 0)
def scc3 : Nat → Rec3
  | 0 => ⟨fun _ => none⟩
  | N + 1 => ⟨fun a0 => m_impl_tree__depth_F N (scc3 N) a0⟩
def m_impl_tree__depth (N : Nat) (a0 : STree) : Option Int := (scc3 N).m_impl_tree__depth a0

/-! ### impl.bounded -/
def m_impl_bounded (N : Nat) (a0 : STree) : Option SFault :=
  Option.bind (m_impl_tree__size N a0) fun r6 => bif (decide (r6 > 400)) then some (⟨1, 0⟩ : SFault) else (Option.bind (m_impl_tree__depth N a0) fun r8 => bif (decide (r8 > 40)) then some (⟨4, 0⟩ : SFault) else (some (⟨0, 0⟩ : SFault)))

/-! ### a circle of 1 -/
structure Rec4 where
  m_impl_tree__add : STree → (List SNode) → Option (List SNode)

def m_impl_tree__add_l1 (N : Nat) (R : Rec4) : Nat → (STree × Int × (List SNode) × (List Int)) → Option (List SNode)
  | 0, _ => none
  | n1 + 1, (a0, y59, y60, y61) => bif (decide (y59 < (a0.kids.length : Int))) then Option.bind (ix a0.kids y59) fun e84 => Option.bind (R.m_impl_tree__add e84 y60) fun r86 => Option.bind (app 8 y61 [(IntKind.wrap .i64 ((r86.length : Int) - 1))]) fun x88 => (m_impl_tree__add_l1 N R n1) (a0, (IntKind.wrap .i64 (y59 + 1)), r86, x88) else (Option.bind (app 72 y60 [(⟨a0.kind, a0.op, a0.text, a0.other, y61⟩ : SNode)]) fun x90 => some x90)
def m_impl_tree__add_F (N : Nat) (R : Rec4) (a0 : STree) (p0 : List SNode) : Option (List SNode) :=
  m_impl_tree__add_l1 N R N (a0, 0, p0, [])
def scc4 : Nat → Rec4
  | 0 => ⟨fun _ _ => none⟩
  | N + 1 => ⟨fun a0 p0 => m_impl_tree__add_F N (scc4 N) a0 p0⟩
def m_impl_tree__add (N : Nat) (a0 : STree) (p0 : List SNode) : Option (List SNode) := (scc4 N).m_impl_tree__add a0 p0

/-! ### impl.tree).list -/
def m_impl_tree__list (N : Nat) (a0 : STree) : Option (List SNode) :=
  Option.bind (m_impl_tree__add N a0 []) fun r2 => some r2

/-! ### impl.ParseExpr -/
def m_impl_ParseExpr (N : Nat) (a0 : List SToken) (a1 : SPos) : Option ((List SNode) × Int × SFault) :=
  Option.bind (m_impl_PosOk a1) fun r4 => bif (!r4) then some ([], 0, (⟨3, 0⟩ : SFault)) else (Option.bind (m_impl_checked N a0) fun r8 => bif (!((r8.Kind == 0) && ((r8.At == 0) && true))) then some ([], 0, r8) else (Option.bind (m_impl_parser__level N a1 a0 0 false []) fun r11 => bif r11.2.2.1 then Option.bind (m_impl_placeOf a0 r11.2.1) fun r15 => some ([], 0, (⟨3, r15⟩ : SFault)) else (Option.bind (m_impl_bounded N r11.1.tree) fun r19 => bif (!((r19.Kind == 0) && ((r19.At == 0) && true))) then some ([], 0, r19) else (Option.bind (m_impl_tree__list N r11.1.tree) fun r21 => some (r21, r11.2.1, (⟨0, 0⟩ : SFault))))))

/-! ### impl.ReadExpr -/
def m_impl_ReadExpr (N : Nat) (a0 : List UInt8) : Option ((List SNode) × SFault) :=
  Option.bind (m_impl_Lex N a0) fun r2 => bif (!((r2.2.Kind == 0) && ((r2.2.At == 0) && true))) then some ([], r2.2) else (Option.bind m_impl_Top fun r5 => Option.bind (m_impl_ParseExpr N r2.1 r5) fun r6 => bif (!((r6.2.2.Kind == 0) && ((r6.2.2.At == 0) && true))) then some ([], r6.2.2) else (bif (decide (r6.2.1 < (r2.1.length : Int))) then Option.bind (m_impl_placeOf r2.1 r6.2.1) fun r10 => some ([], (⟨3, r10⟩ : SFault)) else (some (r6.1, (⟨0, 0⟩ : SFault)))))

/-! ### spec.l6Ints -/
def m_spec_l6Ints_l1 (N : Nat) : Nat → ((List Int) × (List Int) × Int) → Option Bool
  | 0, _ => none
  | n1 + 1, (a0, a1, y35) => bif (decide (y35 < (a0.length : Int))) then Option.bind (ix a0 y35) fun e51 => Option.bind (ix a1 y35) fun e52 => bif (e51 != e52) then some false else ((m_spec_l6Ints_l1 N n1) (a0, a1, (IntKind.wrap .i64 (y35 + 1)))) else (some true)
def m_spec_l6Ints (N : Nat) (a0 : List Int) (a1 : List Int) : Option Bool :=
  bif ((a0.length : Int) != (a1.length : Int)) then some false else (m_spec_l6Ints_l1 N N (a0, a1, 0))

/-! ### spec.SameTree -/
def m_spec_SameTree_l1 (N : Nat) : Nat → ((List SNode) × (List SNode) × Int) → Option Bool
  | 0, _ => none
  | n1 + 1, (a0, a1, y187) => bif (decide (y187 < (a0.length : Int))) then Option.bind (Option.bind (ix a0 y187) fun e270 => Option.bind (ix a1 y187) fun e271 => bif (e270.Kind != e271.Kind) then some true else (Option.bind (ix a0 y187) fun e272 => Option.bind (ix a1 y187) fun e273 => bif (e272.Op != e273.Op) then some true else (Option.bind (ix a0 y187) fun e274 => Option.bind (ix a1 y187) fun e275 => bif (!(e274.Text == e275.Text)) then some true else (Option.bind (ix a0 y187) fun e276 => Option.bind (ix a1 y187) fun e277 => bif (!(e276.Other == e277.Other)) then some true else (Option.bind (ix a0 y187) fun e278 => Option.bind (ix a1 y187) fun e279 => Option.bind (m_spec_l6Ints N e278.Kids e279.Kids) fun r280 => some (!r280)))))) fun y269 => bif y269 then some false else ((m_spec_SameTree_l1 N n1) (a0, a1, (IntKind.wrap .i64 (y187 + 1)))) else (some true)
def m_spec_SameTree (N : Nat) (a0 : List SNode) (a1 : List SNode) : Option Bool :=
  bif ((a0.length : Int) != (a1.length : Int)) then some false else (m_spec_SameTree_l1 N N (a0, a1, 0))

/-! ### laws.FnLevels -/
def m_laws_FnLevels (N : Nat) (a0 : List UInt8) : Option Bool :=
  Option.bind (m_laws_big a0) fun r4 => bif r4 then some true else (Option.bind (m_laws_at a0 0) fun r7 => Option.bind (ix [60, 57, 58, 59, 55, 56, 63, 47, 49, 67, 46, 45, 44] (Int.tmod r7 13)) fun e8 => Option.bind (m_laws_at a0 1) fun r11 => Option.bind (ix [60, 57, 58, 59, 55, 56, 63, 47, 49, 67, 46, 45, 44] (Int.tmod r11 13)) fun e12 => Option.bind (m_impl_OpLevel e8) fun r14 => Option.bind (m_impl_OpLevel e12) fun r16 => Option.bind (m_impl_OpSpell e8) fun r23 => Option.bind (cat ([120, 32] : List UInt8) r23) fun s24 => Option.bind (cat s24 ([32, 121, 32] : List UInt8)) fun s25 => Option.bind (m_impl_OpSpell e12) fun r26 => Option.bind (cat s25 r26) fun s27 => Option.bind (cat s27 ([32, 122] : List UInt8)) fun s28 => Option.bind (m_impl_ReadExpr N s28) fun r30 => Option.bind (bif (r14 == r16) then bif (r14 == 7) then some true else (some (r14 == 6)) else (some false)) fun y35 => bif y35 then Option.bind (Option.bind (m_impl_OpSpell e8) fun r38 => bif ((r30.2.Kind == 3) && ((r30.2.At == (IntKind.wrap .i64 (5 + (r38.length : Int)))) && true)) then some ((r30.1.length : Int) == 0) else (some false)) fun y37 => some y37 else (Option.bind (bif (r30.2.Kind != 0) then some true else (some ((r30.1.length : Int) != 5))) fun y40 => bif y40 then some false else (Option.bind (m_impl_OpSpell e8) fun r48 => Option.bind (cat ([40, 120, 32] : List UInt8) r48) fun s49 => Option.bind (cat s49 ([32, 121, 41, 32] : List UInt8)) fun s50 => Option.bind (m_impl_OpSpell e12) fun r51 => Option.bind (cat s50 r51) fun s52 => Option.bind (cat s52 ([32, 122] : List UInt8)) fun s53 => Option.bind (m_impl_ReadExpr N s53) fun r54 => Option.bind (m_impl_OpSpell e8) fun r62 => Option.bind (cat ([120, 32] : List UInt8) r62) fun s63 => Option.bind (cat s63 ([32, 40, 121, 32] : List UInt8)) fun s64 => Option.bind (m_impl_OpSpell e12) fun r65 => Option.bind (cat s64 r65) fun s66 => Option.bind (cat s66 ([32, 122, 41] : List UInt8)) fun s67 => Option.bind (m_impl_ReadExpr N s67) fun r68 => Option.bind (bif (decide (r14 > r16)) then some true else (bif (r14 == r16) then some (e8 != 60) else (some false))) fun y75 => bif y75 then Option.bind (Option.bind (m_spec_SameTree N r30.1 r54.1) fun r79 => bif r79 then Option.bind (m_spec_SameTree N r30.1 r68.1) fun r80 => some (!r80) else (some false)) fun y78 => some y78 else (Option.bind (Option.bind (m_spec_SameTree N r30.1 r68.1) fun r84 => bif r84 then Option.bind (m_spec_SameTree N r30.1 r54.1) fun r85 => some (!r85) else (some false)) fun y83 => some y83))))

end Go.Proofs.Tryd

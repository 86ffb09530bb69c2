/-
  Models of the functions that this seat reaches.
-/
import Derived.Test.YtllanibkffnogaaGreatDoorTab
import Derived.Test.YtllanibkffnogaaGreatDoorCore6
namespace Go.Proofs.Tryz
open Go.Av
set_option maxRecDepth 100000
set_option maxHeartbeats 8000000
set_option linter.unusedSimpArgs false
set_option linter.unusedVariables false

def tab_builtins : List (List UInt8) := [[97, 116, 97, 110, 50], [99, 108, 111, 115, 101], [99, 111, 115], [101, 120, 112], [103, 115, 117, 98], [105, 110, 100, 101, 120], [105, 110, 116], [108, 101, 110, 103, 116, 104], [108, 111, 103], [109, 97, 116, 99, 104], [114, 97, 110, 100], [115, 105, 110], [115, 112, 108, 105, 116], [115, 112, 114, 105, 110, 116, 102], [115, 113, 114, 116], [115, 114, 97, 110, 100], [115, 117, 98], [115, 117, 98, 115, 116, 114], [115, 121, 115, 116, 101, 109], [116, 111, 108, 111, 119, 101, 114], [116, 111, 117, 112, 112, 101, 114]]
def tab_keywords : List (List UInt8) := [[66, 69, 71, 73, 78], [69, 78, 68], [102, 117, 110, 99, 116, 105, 111, 110], [105, 102], [101, 108, 115, 101], [119, 104, 105, 108, 101], [102, 111, 114], [100, 111], [98, 114, 101, 97, 107], [99, 111, 110, 116, 105, 110, 117, 101], [110, 101, 120, 116], [101, 120, 105, 116], [114, 101, 116, 117, 114, 110], [100, 101, 108, 101, 116, 101], [105, 110], [112, 114, 105, 110, 116], [112, 114, 105, 110, 116, 102]]
def tab_signs : List (List UInt8) := [[123], [125], [40], [41], [91], [93], [44], [59], [43, 61], [45, 61], [42, 61], [47, 61], [37, 61], [94, 61], [124, 124], [38, 38], [33, 126], [61, 61], [60, 61], [62, 61], [33, 61], [43, 43], [45, 45], [62, 62], [61], [43], [45], [42], [47], [37], [94], [33], [62], [60], [124], [63], [58], [126], [36]]
def GG : Nat → Option (List V)
  | 0 => some (tab_builtins.map V.str)
  | 1 => some (tab_keywords.map V.str)
  | 2 => some (tab_signs.map V.str)
  | _ => none
def GS (l : List Nat) (g : Nat) : Option (List V) := bif l.contains g then GG g else none

theorem AC.gs {f : FuncId} {vs : List V} {H : Hp} {r : V} {H1 : Hp} {l l1 : List Nat} (h : AC Tryz.prog (GS l) f vs H r H1) (hs : (l.all fun g => l1.contains g) = true) : AC Tryz.prog (GS l1) f vs H r H1 := by
  refine Go.Av.AC.mono h fun g cs hg => ?_
  unfold GS at hg ⊢
  cases hc : l.contains g with
  | false => rw [hc] at hg; cases hg
  | true =>
    rw [hc] at hg
    have := List.all_eq_true.1 hs g (List.contains_iff_mem.1 hc)
    rw [this]
    exact hg

theorem mix : Tryz.prog.follows .mixedOrders = true := by kernel_rfl

structure SNode where
  Kind : Int
  Op : Int
  Text : List UInt8
  Other : List UInt8
  Kids : List Int
  deriving DecidableEq, Inhabited

def encSNode (b : Bool) (x : SNode) : List V := [V.int x.Kind, V.int x.Op, V.str x.Text, V.str x.Other, .sl false b (x.Kids.map encI)]

theorem share_encSNode (b : Bool) (x : SNode) : V.shareL (encSNode b x) = encSNode false x := by
  simp only [encSNode, V.shareL, V.share, V.int, V.str, V.bool, shareR_map (enc := encI) (enc' := encI) (fun _ => rfl)]

structure SToken where
  Kind : Int
  Text : List UInt8
  At : Int
  deriving DecidableEq, Inhabited

def encSToken (x : SToken) : List V := [V.int x.Kind, V.str x.Text, V.int x.At]

structure STree where
  kind : Int
  op : Int
  text : List UInt8
  other : List UInt8
  kids : List STree

instance : Inhabited STree := ⟨⟨0, 0, [], [], []⟩⟩

theorem STree.lt (x : STree) (y : STree) (h : y ∈ x.kids) : SizeOf.sizeOf y < SizeOf.sizeOf x := by
  have := List.sizeOf_lt_of_mem h
  cases x
  simp only [STree.mk.sizeOf_spec] at *
  omega

def encSTree (x : STree) : List V := [V.int x.kind, V.int x.op, V.str x.text, V.str x.other, .sl false false (x.kids.attach.map fun y => encSTree y.1)]
termination_by SizeOf.sizeOf x
decreasing_by exact STree.lt x y.1 y.2

theorem encSTree_eq (x : STree) : encSTree x = [V.int x.kind, V.int x.op, V.str x.text, V.str x.other, .sl false false (x.kids.map encSTree)] := by
  rw [encSTree]
  simp only [List.attach_map_val (f := encSTree), List.map_attach_eq_pmap, List.pmap_eq_map]

theorem share_encSTree (x : STree) : V.shareL (encSTree x) = encSTree x := by
  have hk : x.kids.map (V.shareL ∘ encSTree) = x.kids.map encSTree := List.map_congr_left fun y hy => share_encSTree y
  rw [encSTree_eq]
  simp only [V.shareL, V.share, V.shareR_eq, V.int, V.str, V.bool, List.map_map]
  rw [hk]
termination_by SizeOf.sizeOf x
decreasing_by exact STree.lt x y hy

structure SForm where
  op : Bool
  text : Bool
  other : Bool
  least : Int
  most : Int
  deriving DecidableEq, Inhabited

def encSForm (x : SForm) : List V := [V.bool x.op, V.bool x.text, V.bool x.other, V.int x.least, V.int x.most]

/-! ### spec.l1In -/
def m_spec_l1In (a0 : Int) (a1 : Int) (a2 : Int) : Option Bool :=
  Option.bind (bif (decide (a0 ≥ a1)) then some (decide (a0 ≤ a2)) else (some false)) fun y1 => some y1

/-! ### spec.Var -/
def m_spec_Var_l1 (N : Nat) : Nat → (Int × (List UInt8)) → Option (List UInt8)
  | 0, _ => none
  | n1 + 1, (y17, y18) => bif (decide (y17 ≥ 128)) then Option.bind (app 1 y18 [(bytI (IntKind.wrap .i64 (128 + (Int.tmod y17 128))))]) fun x24 => (m_spec_Var_l1 N n1) ((IntKind.wrap .i64 (Int.tdiv y17 128)), x24) else (Option.bind (app 1 y18 [(bytI y17)]) fun x26 => some x26)
def m_spec_Var (N : Nat) (a0 : Int) : Option (List UInt8) :=
  Option.bind (m_spec_l1In a0 0 562949953421311) fun r4 => bif (!r4) then some [] else (m_spec_Var_l1 N N (a0, []))

/-! ### spec.ReadVar -/
def m_spec_ReadVar_l2 (N : Nat) (kb1 : ((List UInt8) × Int) → Option (Int × Int)) : Nat → ((List UInt8) × Int × Int × Int) → Option (Int × Int)
  | 0, _ => none
  | n2 + 1, (a0, y295, y429, y430) => bif (decide (y430 ≥ 0)) then Option.bind (ix a0 y430) fun b440 => (m_spec_ReadVar_l2 N kb1 n2) (a0, y295, (IntKind.wrap .i64 ((IntKind.wrap .i64 (y429 * 128)) + (Int.tmod (IntKind.wrap .i64 ((b440).toNat : Int)) 128))), (IntKind.wrap .i64 (y430 - 1))) else (Option.bind (m_spec_Var N y429) fun r443 => Option.bind (cut a0 0 y295) fun s444 => bif (r443 == s444) then some (y429, y295) else (kb1 (a0, (IntKind.wrap .i64 (y295 + 1)))))
def m_spec_ReadVar_l1 (N : Nat) : Nat → ((List UInt8) × Int) → Option (Int × Int)
  | 0, _ => none
  | n1 + 1, (a0, y295) => Option.bind (bif (decide (y295 ≤ 7)) then some (decide (y295 ≤ (a0.length : Int))) else (some false)) fun y372 => bif y372 then m_spec_ReadVar_l2 N (m_spec_ReadVar_l1 N n1) N (a0, y295, 0, (IntKind.wrap .i64 (y295 - 1))) else (some (0, 0))
def m_spec_ReadVar (N : Nat) (a0 : List UInt8) : Option (Int × Int) :=
  m_spec_ReadVar_l1 N N (a0, 1)

/-! ### spec.l43Num -/
def m_spec_l43Num (N : Nat) (a0 : List UInt8) (a1 : Int) : Option (Int × Int) :=
  bif (decide (a1 < 0)) then some (0, (-1)) else (Option.bind (cut a0 a1 (a0.length : Int)) fun s3 => Option.bind (m_spec_ReadVar N s3) fun r4 => bif (r4.2 == 0) then some (0, (-1)) else (some (r4.1, (IntKind.wrap .i64 (a1 + r4.2)))))

/-! ### spec.l43Read -/
def m_spec_l43Read (N : Nat) (a0 : List UInt8) (a1 : Int) : Option ((List UInt8) × Int) :=
  Option.bind (m_spec_l43Num N a0 a1) fun r2 => Option.bind (bif (decide (r2.2 < 0)) then some true else (some (decide (r2.1 > (IntKind.wrap .i64 ((a0.length : Int) - r2.2)))))) fun y4 => bif y4 then some ([], (-1)) else (Option.bind (cut a0 r2.2 (IntKind.wrap .i64 (r2.2 + r2.1))) fun s6 => some (s6, (IntKind.wrap .i64 (r2.2 + r2.1))))

/-! ### spec.l43Kids -/
def m_spec_l43Kids (a0 : List Int) (a1 : Int) : Option ((List Int) × (List Int)) :=
  bif (decide (a1 > (a0.length : Int))) then some ([], [(-1)]) else (Option.bind (cut a0 0 (IntKind.wrap .i64 ((a0.length : Int) - a1))) fun l4 => Option.bind (cut a0 (IntKind.wrap .i64 ((a0.length : Int) - a1)) (a0.length : Int)) fun l5 => Option.bind (app 8 [] l5) fun x6 => some (l4, x6))

/-! ### spec.l6Starts -/
def m_spec_l6Starts_l2 (N : Nat) (kb1 : ((List SNode) × Int × (List Int)) → Option ((List Int) × Bool)) : Nat → ((List SNode) × Int × (List Int) × Int × Int) → Option ((List Int) × Bool)
  | 0, _ => none
  | n2 + 1, (a0, y917, y918, y1499, y1500) => bif (decide (y1500 ≥ 0)) then Option.bind (Option.bind (ix a0 y917) fun e1547 => Option.bind (ix e1547.Kids y1500) fun e1548 => bif (e1548 != (IntKind.wrap .i64 (y1499 - 1))) then some true else (some (y1499 == 0))) fun y1546 => bif y1546 then some ([], false) else (Option.bind (ix y918 (IntKind.wrap .i64 (y1499 - 1))) fun e1550 => (m_spec_l6Starts_l2 N kb1 n2) (a0, y917, y918, e1550, (IntKind.wrap .i64 (y1500 - 1)))) else (Option.bind (app 8 y918 [y1499]) fun x1552 => kb1 (a0, (IntKind.wrap .i64 (y917 + 1)), x1552))
def m_spec_l6Starts_l1 (N : Nat) : Nat → ((List SNode) × Int × (List Int)) → Option ((List Int) × Bool)
  | 0, _ => none
  | n1 + 1, (a0, y917, y918) => bif (decide (y917 < (a0.length : Int))) then Option.bind (ix a0 y917) fun e1474 => m_spec_l6Starts_l2 N (m_spec_l6Starts_l1 N n1) N (a0, y917, y918, y917, (IntKind.wrap .i64 ((e1474.Kids.length : Int) - 1))) else (some (y918, true))
def m_spec_l6Starts (N : Nat) (a0 : List SNode) : Option ((List Int) × Bool) :=
  m_spec_l6Starts_l1 N N (a0, 0, [])

/-! ### spec.ShapeOk -/
def m_spec_ShapeOk (N : Nat) (a0 : List SNode) : Option Bool :=
  Option.bind (m_spec_l1In (a0.length : Int) 1 400) fun r4 => bif (!r4) then some false else (Option.bind (m_spec_l6Starts N a0) fun r6 => Option.bind (bif r6.2 then Option.bind (ix r6.1 (IntKind.wrap .i64 ((a0.length : Int) - 1))) fun e9 => some (e9 == 0) else (some false)) fun y8 => some y8)

/-! ### spec.DepthOf -/
def m_spec_DepthOf_l2 (N : Nat) (kb1 : ((List SNode) × Int × (List Int)) → Option Int) : Nat → ((List SNode) × Int × (List Int) × Int × Int) → Option Int
  | 0, _ => none
  | n2 + 1, (a0, y857, y858, y1247, y1248) => Option.bind (ix a0 y857) fun e1270 => bif (decide (y1248 < (e1270.Kids.length : Int))) then Option.bind (ix a0 y857) fun e1280 => Option.bind (ix e1280.Kids y1248) fun e1281 => Option.bind (ix y858 e1281) fun e1282 => (m_spec_DepthOf_l2 N kb1 n2) (a0, y857, y858, (if (IntKind.wrap .i64 (1 + e1282)) > y1247 then (IntKind.wrap .i64 (1 + e1282)) else y1247), (IntKind.wrap .i64 (y1248 + 1))) else (Option.bind (app 8 y858 [y1247]) fun x1284 => kb1 (a0, (IntKind.wrap .i64 (y857 + 1)), x1284))
def m_spec_DepthOf_l1 (N : Nat) : Nat → ((List SNode) × Int × (List Int)) → Option Int
  | 0, _ => none
  | n1 + 1, (a0, y857, y858) => bif (decide (y857 < (a0.length : Int))) then m_spec_DepthOf_l2 N (m_spec_DepthOf_l1 N n1) N (a0, y857, y858, 1, 0) else (Option.bind (ix y858 (IntKind.wrap .i64 ((a0.length : Int) - 1))) fun e1286 => some e1286)
def m_spec_DepthOf (N : Nat) (a0 : List SNode) : Option Int :=
  Option.bind (m_spec_ShapeOk N a0) fun r4 => bif (!r4) then some 0 else (m_spec_DepthOf_l1 N N (a0, 0, []))

/-! ### spec.l7Many -/
def m_spec_l7Many_k6 : (SNode × Bool) → Option (Int × Int)
  | (a0, y12) => bif y12 then some (0, (a0.Kids.length : Int)) else (bif (a0.Kind == 42) then some ((IntKind.wrap .i64 (1 + (IntKind.wrap .i64 (Int.tdiv a0.Op 3)))), (IntKind.wrap .i64 (1 + (IntKind.wrap .i64 (Int.tdiv a0.Op 3))))) else (bif (a0.Kind == 43) then some ((IntKind.wrap .i64 (2 + (IntKind.wrap .i64 (Int.tdiv a0.Op 3)))), (IntKind.wrap .i64 (2 + (IntKind.wrap .i64 (Int.tdiv a0.Op 3))))) else (bif (a0.Kind == 44) then some (1, 7) else (some (0, 0)))))
def m_spec_l7Many_k5 : (SNode × Bool) → Option (Int × Int)
  | (a0, y11) => bif y11 then some (0, 1) else (bif (a0.Kind == 28) then some (2, 3) else (bif (a0.Kind == 31) then some (4, 4) else (bif (a0.Kind == 33) then m_spec_l7Many_k6 (a0, (a0.Kind == 33)) else (m_spec_l7Many_k6 (a0, (a0.Kind == 45))))))
def m_spec_l7Many_k4 : (SNode × Bool) → Option (Int × Int)
  | (a0, y10) => bif y10 then some (2, 2) else (bif (a0.Kind == 14) then some (3, 3) else (bif (a0.Kind == 21) then bif (!(a0.Other == [])) then some ((IntKind.wrap .i64 (a0.Op + 1)), 7) else (some (a0.Op, 6)) else (bif (a0.Kind == 23) then m_spec_l7Many_k5 (a0, (a0.Kind == 23)) else (m_spec_l7Many_k5 (a0, (a0.Kind == 24))))))
def m_spec_l7Many_k3 : (SNode × Bool) → Option (Int × Int)
  | (a0, y9) => bif y9 then some (1, 1) else (bif (a0.Kind == 12) then m_spec_l7Many_k4 (a0, (a0.Kind == 12)) else (bif (a0.Kind == 15) then m_spec_l7Many_k4 (a0, (a0.Kind == 15)) else (bif (a0.Kind == 29) then m_spec_l7Many_k4 (a0, (a0.Kind == 29)) else (m_spec_l7Many_k4 (a0, (a0.Kind == 30))))))
def m_spec_l7Many_k2 : (SNode × Bool) → Option (Int × Int)
  | (a0, y8) => bif y8 then some (0, 6) else (bif (a0.Kind == 6) then m_spec_l7Many_k3 (a0, (a0.Kind == 6)) else (bif (a0.Kind == 9) then m_spec_l7Many_k3 (a0, (a0.Kind == 9)) else (bif (a0.Kind == 10) then m_spec_l7Many_k3 (a0, (a0.Kind == 10)) else (bif (a0.Kind == 11) then m_spec_l7Many_k3 (a0, (a0.Kind == 11)) else (bif (a0.Kind == 20) then m_spec_l7Many_k3 (a0, (a0.Kind == 20)) else (bif (a0.Kind == 32) then m_spec_l7Many_k3 (a0, (a0.Kind == 32)) else (bif (a0.Kind == 40) then m_spec_l7Many_k3 (a0, (a0.Kind == 40)) else (m_spec_l7Many_k3 (a0, (a0.Kind == 41))))))))))
def m_spec_l7Many_k1 : (SNode × Bool) → Option (Int × Int)
  | (a0, y7) => bif y7 then some (1, 6) else (bif (a0.Kind == 7) then m_spec_l7Many_k2 (a0, (a0.Kind == 7)) else (bif (a0.Kind == 8) then m_spec_l7Many_k2 (a0, (a0.Kind == 8)) else (m_spec_l7Many_k2 (a0, (a0.Kind == 27)))))
def m_spec_l7Many (a0 : SNode) : Option (Int × Int) :=
  bif (a0.Kind == 5) then m_spec_l7Many_k1 (a0, (a0.Kind == 5)) else (m_spec_l7Many_k1 (a0, (a0.Kind == 13)))

/-! ### spec.l7IsBin -/
def m_spec_l7IsBin_k1 : Bool → Option Bool
  | y2 => bif y2 then some true else (some false)
def m_spec_l7IsBin (a0 : Int) : Option Bool :=
  bif (a0 == 60) then m_spec_l7IsBin_k1 (a0 == 60) else (bif (a0 == 57) then m_spec_l7IsBin_k1 (a0 == 57) else (bif (a0 == 58) then m_spec_l7IsBin_k1 (a0 == 58) else (bif (a0 == 59) then m_spec_l7IsBin_k1 (a0 == 59) else (bif (a0 == 55) then m_spec_l7IsBin_k1 (a0 == 55) else (bif (a0 == 56) then m_spec_l7IsBin_k1 (a0 == 56) else (bif (a0 == 99) then m_spec_l7IsBin_k1 (a0 == 99) else (bif (a0 == 63) then m_spec_l7IsBin_k1 (a0 == 63) else (bif (a0 == 48) then m_spec_l7IsBin_k1 (a0 == 48) else (bif (a0 == 47) then m_spec_l7IsBin_k1 (a0 == 47) else (bif (a0 == 50) then m_spec_l7IsBin_k1 (a0 == 50) else (bif (a0 == 62) then m_spec_l7IsBin_k1 (a0 == 62) else (bif (a0 == 49) then m_spec_l7IsBin_k1 (a0 == 49) else (bif (a0 == 67) then m_spec_l7IsBin_k1 (a0 == 67) else (bif (a0 == 46) then m_spec_l7IsBin_k1 (a0 == 46) else (bif (a0 == 45) then m_spec_l7IsBin_k1 (a0 == 45) else (m_spec_l7IsBin_k1 (a0 == 44)))))))))))))))))

/-! ### spec.l7IsAssign -/
def m_spec_l7IsAssign (a0 : Int) : Option Bool :=
  Option.bind (bif (a0 == 54) then some true else (Option.bind (m_spec_l1In a0 38 43) fun r3 => some r3)) fun y2 => some y2

/-! ### spec.l7Op -/
def m_spec_l7Op_k1 : (SNode × Bool) → Option Bool
  | (a0, y13) => bif y13 then Option.bind (bif (a0.Op == 51) then some true else (some (a0.Op == 52))) fun y14 => some y14 else (bif (a0.Kind == 11) then Option.bind (bif (a0.Op == 55) then some true else (bif (a0.Op == 56) then some true else (some (a0.Op == 61)))) fun y15 => some y15 else (bif (a0.Kind == 12) then Option.bind (m_spec_l7IsBin a0.Op) fun r17 => some r17 else (bif (a0.Kind == 15) then Option.bind (m_spec_l7IsAssign a0.Op) fun r19 => some r19 else (bif (a0.Kind == 21) then Option.bind (m_spec_l1In a0.Op 0 1) fun r21 => some r21 else (bif (a0.Kind == 42) then Option.bind (m_spec_l1In a0.Op 1 3) fun r23 => some r23 else (bif (a0.Kind == 43) then Option.bind (bif (a0.Op == 1) then some true else (some (a0.Op == 3))) fun y24 => some y24 else (some (a0.Op == 0))))))))
def m_spec_l7Op (a0 : SNode) : Option Bool :=
  bif (a0.Kind == 9) then m_spec_l7Op_k1 (a0, (a0.Kind == 9)) else (m_spec_l7Op_k1 (a0, (a0.Kind == 10)))

/-! ### spec.IsLetter -/
def m_spec_IsLetter (a0 : Int) : Option Bool :=
  Option.bind (Option.bind (m_spec_l1In a0 97 122) fun r4 => bif r4 then some true else (Option.bind (m_spec_l1In a0 65 90) fun r5 => bif r5 then some true else (some (a0 == 95)))) fun y3 => some y3

/-! ### spec.IsDigit -/
def m_spec_IsDigit (a0 : Int) : Option Bool :=
  Option.bind (m_spec_l1In a0 48 57) fun r2 => some r2

/-! ### spec.IsWordByte -/
def m_spec_IsWordByte (a0 : Int) : Option Bool :=
  Option.bind (Option.bind (m_spec_IsLetter a0) fun r4 => bif r4 then some true else (Option.bind (m_spec_IsDigit a0) fun r5 => some r5)) fun y3 => some y3

/-! ### spec.NameShape -/
def m_spec_NameShape_l1 (N : Nat) : Nat → ((List UInt8) × Int) → Option Bool
  | 0, _ => none
  | n1 + 1, (a0, y35) => bif (decide (y35 < (a0.length : Int))) then Option.bind (ix a0 y35) fun b51 => Option.bind (m_spec_IsWordByte (IntKind.wrap .i64 ((b51).toNat : Int))) fun r52 => bif (!r52) then some false else ((m_spec_NameShape_l1 N n1) (a0, (IntKind.wrap .i64 (y35 + 1)))) else (Option.bind (Option.bind (m_spec_l1In (a0.length : Int) 1 12) fun r57 => bif r57 then Option.bind (ix a0 0) fun b58 => Option.bind (m_spec_IsLetter (IntKind.wrap .i64 ((b58).toNat : Int))) fun r59 => some r59 else (some false)) fun y56 => some y56)
def m_spec_NameShape (N : Nat) (a0 : List UInt8) : Option Bool :=
  m_spec_NameShape_l1 N N (a0, 0)

/-! ### spec.l3Words -/
def m_spec_l3Words : Option (List (List UInt8)) :=
  some [[66, 69, 71, 73, 78], [69, 78, 68], [102, 117, 110, 99, 116, 105, 111, 110], [105, 102], [101, 108, 115, 101], [119, 104, 105, 108, 101], [102, 111, 114], [100, 111], [98, 114, 101, 97, 107], [99, 111, 110, 116, 105, 110, 117, 101], [110, 101, 120, 116], [101, 120, 105, 116], [114, 101, 116, 117, 114, 110], [100, 101, 108, 101, 116, 101], [105, 110], [112, 114, 105, 110, 116], [112, 114, 105, 110, 116, 102]]

/-! ### spec.l3Find -/
def m_spec_l3Find_l1 (N : Nat) : Nat → ((List (List UInt8)) × (List UInt8) × Int) → Option Int
  | 0, _ => none
  | n1 + 1, (a0, a1, y19) => bif (decide (y19 < (a0.length : Int))) then Option.bind (ix a0 y19) fun e28 => bif (e28 == a1) then some y19 else ((m_spec_l3Find_l1 N n1) (a0, a1, (IntKind.wrap .i64 (y19 + 1)))) else (some (-1))
def m_spec_l3Find (N : Nat) (a0 : List (List UInt8)) (a1 : List UInt8) : Option Int :=
  m_spec_l3Find_l1 N N (a0, a1, 0)

/-! ### spec.KeywordOf -/
def m_spec_KeywordOf (N : Nat) (a0 : List UInt8) : Option Int :=
  Option.bind m_spec_l3Words fun r3 => Option.bind (m_spec_l3Find N r3 a0) fun r4 => bif (decide (r4 < 0)) then some 0 else (some (IntKind.wrap .i64 (10 + r4)))

/-! ### spec.l3Builtins -/
def m_spec_l3Builtins : Option (List (List UInt8)) :=
  some [[97, 116, 97, 110, 50], [99, 108, 111, 115, 101], [99, 111, 115], [101, 120, 112], [103, 115, 117, 98], [105, 110, 100, 101, 120], [105, 110, 116], [108, 101, 110, 103, 116, 104], [108, 111, 103], [109, 97, 116, 99, 104], [114, 97, 110, 100], [115, 105, 110], [115, 112, 108, 105, 116], [115, 112, 114, 105, 110, 116, 102], [115, 113, 114, 116], [115, 114, 97, 110, 100], [115, 117, 98], [115, 117, 98, 115, 116, 114], [115, 121, 115, 116, 101, 109], [116, 111, 108, 111, 119, 101, 114], [116, 111, 117, 112, 112, 101, 114]]

/-! ### spec.IsBuiltin -/
def m_spec_IsBuiltin (N : Nat) (a0 : List UInt8) : Option Bool :=
  Option.bind m_spec_l3Builtins fun r3 => Option.bind (m_spec_l3Find N r3 a0) fun r4 => some (decide (r4 ≥ 0))

/-! ### spec.NameOk -/
def m_spec_NameOk (N : Nat) (a0 : List UInt8) : Option Bool :=
  Option.bind (Option.bind (m_spec_NameShape N a0) fun r5 => bif r5 then Option.bind (m_spec_KeywordOf N a0) fun r6 => bif (r6 == 0) then Option.bind (m_spec_IsBuiltin N a0) fun r7 => some (!r7) else (some false) else (some false)) fun y4 => some y4

/-! ### spec.l4Plain -/
def m_spec_l4Plain_l1 (N : Nat) : Nat → ((List UInt8) × Int) → Option Bool
  | 0, _ => none
  | n1 + 1, (a0, y19) => bif (decide (y19 < (a0.length : Int))) then Option.bind (ix a0 y19) fun b28 => bif (((b28).toNat : Int) == 10) then some false else ((m_spec_l4Plain_l1 N n1) (a0, (IntKind.wrap .i64 (y19 + 1)))) else (some true)
def m_spec_l4Plain (N : Nat) (a0 : List UInt8) : Option Bool :=
  m_spec_l4Plain_l1 N N (a0, 0)

/-! ### spec.l4Byte -/
def m_spec_l4Byte (a0 : List UInt8) (a1 : Int) : Option Int :=
  Option.bind (bif (decide (a1 < 0)) then some true else (some (decide (a1 ≥ (a0.length : Int))))) fun y2 => bif y2 then some (-1) else (Option.bind (ix a0 a1) fun b4 => some (IntKind.wrap .i64 ((b4).toNat : Int)))

/-! ### spec.l4Digits -/
def m_spec_l4Digits_l1 (N : Nat) : Nat → ((List UInt8) × Int) → Option Int
  | 0, _ => none
  | n1 + 1, (a0, a1) => Option.bind (m_spec_l4Byte a0 a1) fun r33 => Option.bind (m_spec_IsDigit r33) fun r34 => bif r34 then (m_spec_l4Digits_l1 N n1) (a0, (IntKind.wrap .i64 (a1 + 1))) else (some a1)
def m_spec_l4Digits (N : Nat) (a0 : List UInt8) (a1 : Int) : Option Int :=
  m_spec_l4Digits_l1 N N (a0, a1)

/-! ### spec.NumEnd -/
def m_spec_NumEnd_k2 (N : Nat) : Int → Option Int
  | y9 => some y9
def m_spec_NumEnd_k3 (N : Nat) : ((List UInt8) × Int × Int) → Option Int
  | (a0, y9, y40) => Option.bind (m_spec_l4Digits N a0 y40) fun r42 => bif (decide (r42 > y40)) then Option.bind (m_spec_l4Digits N a0 y40) fun r44 => some r44 else (m_spec_NumEnd_k2 N y9)
def m_spec_NumEnd_k1 (N : Nat) : ((List UInt8) × Int × Int) → Option Int
  | (a0, a1, y9) => bif (y9 == a1) then some (-1) else (Option.bind (Option.bind (m_spec_l4Byte a0 y9) fun r33 => bif (r33 == 101) then some true else (Option.bind (m_spec_l4Byte a0 y9) fun r34 => some (r34 == 69))) fun y32 => bif y32 then Option.bind (Option.bind (m_spec_l4Byte a0 (IntKind.wrap .i64 (y9 + 1))) fun r48 => bif (r48 == 43) then some true else (Option.bind (m_spec_l4Byte a0 (IntKind.wrap .i64 (y9 + 1))) fun r49 => some (r49 == 45))) fun y47 => bif y47 then m_spec_NumEnd_k3 N (a0, y9, (IntKind.wrap .i64 ((IntKind.wrap .i64 (y9 + 1)) + 1))) else (m_spec_NumEnd_k3 N (a0, y9, (IntKind.wrap .i64 (y9 + 1)))) else (m_spec_NumEnd_k2 N y9))
def m_spec_NumEnd (N : Nat) (a0 : List UInt8) (a1 : Int) : Option Int :=
  bif (decide (a1 < 0)) then some (-1) else (Option.bind (m_spec_l4Digits N a0 a1) fun r2 => Option.bind (m_spec_l4Byte a0 r2) fun r51 => bif (r51 == 46) then Option.bind (m_spec_l4Digits N a0 (IntKind.wrap .i64 (r2 + 1))) fun r53 => Option.bind (bif (r2 == a1) then some (r53 == (IntKind.wrap .i64 (r2 + 1))) else (some false)) fun y55 => bif y55 then some (-1) else (m_spec_NumEnd_k1 N (a0, a1, r53)) else (m_spec_NumEnd_k1 N (a0, a1, r2)))

/-! ### spec.l4Quoted -/
def m_spec_l4Quoted_k2 (N : Nat) (kb1 : ((List UInt8) × Int × Int) → Option Int) : ((List UInt8) × Int × Int) → Option Int
  | (a0, a2, y58) => kb1 (a0, a2, (IntKind.wrap .i64 (y58 + 1)))
def m_spec_l4Quoted_l1 (N : Nat) : Nat → ((List UInt8) × Int × Int) → Option Int
  | 0, _ => none
  | n1 + 1, (a0, a2, y43) => bif (decide (y43 < (a0.length : Int))) then Option.bind (ix a0 y43) fun b60 => bif ((IntKind.wrap .i64 ((b60).toNat : Int)) == a2) then some (IntKind.wrap .i64 (y43 + 1)) else (bif ((IntKind.wrap .i64 ((b60).toNat : Int)) == 10) then some (-1) else (bif ((IntKind.wrap .i64 ((b60).toNat : Int)) == 92) then Option.bind (m_spec_l4Byte a0 (IntKind.wrap .i64 (y43 + 1))) fun r62 => bif (r62 == 10) then some (-1) else (m_spec_l4Quoted_k2 N (m_spec_l4Quoted_l1 N n1) (a0, a2, (IntKind.wrap .i64 (y43 + 1)))) else (m_spec_l4Quoted_k2 N (m_spec_l4Quoted_l1 N n1) (a0, a2, y43)))) else (some (-1))
def m_spec_l4Quoted (N : Nat) (a0 : List UInt8) (a1 : Int) (a2 : Int) : Option Int :=
  Option.bind (m_spec_l4Byte a0 a1) fun r4 => bif (r4 != a2) then some (-1) else (m_spec_l4Quoted_l1 N N (a0, a2, (IntKind.wrap .i64 (a1 + 1))))

/-! ### spec.StrEnd -/
def m_spec_StrEnd (N : Nat) (a0 : List UInt8) (a1 : Int) : Option Int :=
  Option.bind (m_spec_l4Quoted N a0 a1 34) fun r2 => some r2

/-! ### spec.EreEnd -/
def m_spec_EreEnd (N : Nat) (a0 : List UInt8) (a1 : Int) : Option Int :=
  Option.bind (m_spec_l4Quoted N a0 a1 47) fun r2 => bif (r2 == (IntKind.wrap .i64 (a1 + 2))) then some (-1) else (some r2)

/-! ### spec.l3Signs -/
def m_spec_l3Signs : Option (List (List UInt8)) :=
  some [[123], [125], [40], [41], [91], [93], [44], [59], [43, 61], [45, 61], [42, 61], [47, 61], [37, 61], [94, 61], [124, 124], [38, 38], [33, 126], [61, 61], [60, 61], [62, 61], [33, 61], [43, 43], [45, 45], [62, 62], [61], [43], [45], [42], [47], [37], [94], [33], [62], [60], [124], [63], [58], [126], [36]]

/-! ### spec.SpellOf -/
def m_spec_SpellOf (a0 : Int) : Option (List UInt8) :=
  bif (a0 == 1) then some [10] else (Option.bind (m_spec_l1In a0 10 26) fun r14 => bif r14 then Option.bind m_spec_l3Words fun r17 => Option.bind (ix r17 (IntKind.wrap .i64 (a0 - 10))) fun e18 => some e18 else (Option.bind (m_spec_l1In a0 30 68) fun r20 => bif r20 then Option.bind m_spec_l3Signs fun r23 => Option.bind (ix r23 (IntKind.wrap .i64 (a0 - 30))) fun e24 => some e24 else (some [])))

/-! ### spec.TokenOk -/
def m_spec_TokenOk_k1 (N : Nat) : (SToken × Bool) → Option Bool
  | (a0, y30) => bif y30 then Option.bind (m_spec_NameOk N a0.Text) fun r32 => some r32 else (bif (a0.Kind == 8) then Option.bind (m_spec_IsBuiltin N a0.Text) fun r34 => some r34 else (Option.bind (bif (!(a0.Text == [])) then Option.bind (m_spec_SpellOf a0.Kind) fun r37 => some (r37 == a0.Text) else (some false)) fun y36 => some y36))
def m_spec_TokenOk (N : Nat) (a0 : SToken) : Option Bool :=
  bif (a0.Kind == 2) then Option.bind (bif (decide ((a0.Text.length : Int) > 0)) then Option.bind (ix a0.Text 0) fun b21 => bif (((b21).toNat : Int) == 35) then Option.bind (m_spec_l4Plain N a0.Text) fun r22 => some r22 else (some false) else (some false)) fun y20 => some y20 else (bif (a0.Kind == 3) then Option.bind (bif (decide ((a0.Text.length : Int) > 0)) then Option.bind (m_spec_NumEnd N a0.Text 0) fun r25 => some (r25 == (a0.Text.length : Int)) else (some false)) fun y24 => some y24 else (bif (a0.Kind == 4) then Option.bind (m_spec_StrEnd N a0.Text 0) fun r27 => some (r27 == (a0.Text.length : Int)) else (bif (a0.Kind == 5) then Option.bind (m_spec_EreEnd N a0.Text 0) fun r29 => some (r29 == (a0.Text.length : Int)) else (bif (a0.Kind == 6) then m_spec_TokenOk_k1 N (a0, (a0.Kind == 6)) else (m_spec_TokenOk_k1 N (a0, (a0.Kind == 7)))))))

/-! ### spec.l7Text -/
def m_spec_l7Text_k1 (N : Nat) : (SNode × Bool) → Option Bool
  | (a0, y26) => bif y26 then Option.bind (Option.bind (m_spec_NameOk N a0.Text) fun r29 => bif r29 then some (a0.Other == []) else (some false)) fun y28 => some y28 else (bif (a0.Kind == 2) then Option.bind (Option.bind (m_spec_TokenOk N (⟨3, a0.Text, 0⟩ : SToken)) fun r32 => bif r32 then some (a0.Other == []) else (some false)) fun y31 => some y31 else (bif (a0.Kind == 3) then Option.bind (Option.bind (m_spec_TokenOk N (⟨4, a0.Text, 0⟩ : SToken)) fun r35 => bif r35 then some (a0.Other == []) else (some false)) fun y34 => some y34 else (bif (a0.Kind == 4) then Option.bind (Option.bind (m_spec_TokenOk N (⟨5, a0.Text, 0⟩ : SToken)) fun r38 => bif r38 then some (a0.Other == []) else (some false)) fun y37 => some y37 else (bif (a0.Kind == 34) then Option.bind (Option.bind (m_spec_TokenOk N (⟨2, a0.Text, 0⟩ : SToken)) fun r41 => bif r41 then some (a0.Other == []) else (some false)) fun y40 => some y40 else (bif (a0.Kind == 8) then Option.bind (Option.bind (m_spec_IsBuiltin N a0.Text) fun r44 => bif r44 then some (a0.Other == []) else (some false)) fun y43 => some y43 else (bif (a0.Kind == 32) then Option.bind (Option.bind (m_spec_NameOk N a0.Text) fun r48 => bif r48 then Option.bind (m_spec_NameOk N a0.Other) fun r49 => some r49 else (some false)) fun y47 => some y47 else (bif (a0.Kind == 21) then Option.bind (bif (a0.Text == []) then bif (a0.Other == []) then some true else (bif (a0.Other == [62]) then some true else (bif (a0.Other == [62, 62]) then some true else (some (a0.Other == [124])))) else (some false)) fun y50 => some y50 else (Option.bind (bif (a0.Text == []) then some (a0.Other == []) else (some false)) fun y51 => some y51))))))))
def m_spec_l7Text (N : Nat) (a0 : SNode) : Option Bool :=
  bif (a0.Kind == 1) then m_spec_l7Text_k1 N (a0, (a0.Kind == 1)) else (bif (a0.Kind == 5) then m_spec_l7Text_k1 N (a0, (a0.Kind == 5)) else (bif (a0.Kind == 7) then m_spec_l7Text_k1 N (a0, (a0.Kind == 7)) else (bif (a0.Kind == 13) then m_spec_l7Text_k1 N (a0, (a0.Kind == 13)) else (bif (a0.Kind == 27) then m_spec_l7Text_k1 N (a0, (a0.Kind == 27)) else (m_spec_l7Text_k1 N (a0, (a0.Kind == 44)))))))

/-! ### spec.FieldsOk -/
def m_spec_FieldsOk (N : Nat) (a0 : SNode) : Option Bool :=
  Option.bind (m_spec_l7Many a0) fun r2 => Option.bind (Option.bind (m_spec_l1In a0.Kind 1 16) fun r7 => bif r7 then some true else (Option.bind (m_spec_l1In a0.Kind 20 34) fun r8 => bif r8 then some true else (Option.bind (m_spec_l1In a0.Kind 40 45) fun r9 => some r9))) fun y6 => Option.bind (bif y6 then Option.bind (m_spec_l7Op a0) fun r14 => bif r14 then Option.bind (m_spec_l7Text N a0) fun r15 => bif r15 then Option.bind (m_spec_l1In (a0.Kids.length : Int) r2.1 r2.2) fun r16 => some r16 else (some false) else (some false) else (some false)) fun y13 => some y13

/-! ### spec.IsLvalue -/
def m_spec_IsLvalue (a0 : Int) : Option Bool :=
  Option.bind (bif (a0 == 1) then some true else (bif (a0 == 5) then some true else (some (a0 == 6)))) fun y1 => some y1

/-! ### spec.IsExpr -/
def m_spec_IsExpr (a0 : Int) : Option Bool :=
  Option.bind (m_spec_l1In a0 1 15) fun r2 => some r2

/-! ### spec.IsStmt -/
def m_spec_IsStmt (a0 : Int) : Option Bool :=
  Option.bind (m_spec_l1In a0 20 34) fun r2 => some r2

/-! ### spec.l7Kid -/
def m_spec_l7Kid_k2 : (Int × Int × SNode × Bool) → Option Bool
  | (a1, a2, a0, y74) => bif y74 then some (a2 == 33) else (bif (a0.Kind == 33) then Option.bind (m_spec_IsStmt a2) fun r76 => some r76 else (bif (a0.Kind == 42) then Option.bind (bif (a0.Op == 1) then Option.bind (m_spec_IsExpr a2) fun r87 => bif r87 then some true else (bif (a0.Op == 2) then bif (a2 == 33) then some true else (bif (a0.Op == 3) then bif (a1 == (IntKind.wrap .i64 ((a0.Kids.length : Int) - 1))) then bif (a2 == 33) then some true else (bif (!(a1 == (IntKind.wrap .i64 ((a0.Kids.length : Int) - 1)))) then Option.bind (m_spec_IsExpr a2) fun r88 => some r88 else (some false)) else (bif (!(a1 == (IntKind.wrap .i64 ((a0.Kids.length : Int) - 1)))) then Option.bind (m_spec_IsExpr a2) fun r89 => some r89 else (some false)) else (some false)) else (bif (a0.Op == 3) then bif (a1 == (IntKind.wrap .i64 ((a0.Kids.length : Int) - 1))) then bif (a2 == 33) then some true else (bif (!(a1 == (IntKind.wrap .i64 ((a0.Kids.length : Int) - 1)))) then Option.bind (m_spec_IsExpr a2) fun r90 => some r90 else (some false)) else (bif (!(a1 == (IntKind.wrap .i64 ((a0.Kids.length : Int) - 1)))) then Option.bind (m_spec_IsExpr a2) fun r91 => some r91 else (some false)) else (some false))) else (bif (a0.Op == 2) then bif (a2 == 33) then some true else (bif (a0.Op == 3) then bif (a1 == (IntKind.wrap .i64 ((a0.Kids.length : Int) - 1))) then bif (a2 == 33) then some true else (bif (!(a1 == (IntKind.wrap .i64 ((a0.Kids.length : Int) - 1)))) then Option.bind (m_spec_IsExpr a2) fun r92 => some r92 else (some false)) else (bif (!(a1 == (IntKind.wrap .i64 ((a0.Kids.length : Int) - 1)))) then Option.bind (m_spec_IsExpr a2) fun r93 => some r93 else (some false)) else (some false)) else (bif (a0.Op == 3) then bif (a1 == (IntKind.wrap .i64 ((a0.Kids.length : Int) - 1))) then bif (a2 == 33) then some true else (bif (!(a1 == (IntKind.wrap .i64 ((a0.Kids.length : Int) - 1)))) then Option.bind (m_spec_IsExpr a2) fun r94 => some r94 else (some false)) else (bif (!(a1 == (IntKind.wrap .i64 ((a0.Kids.length : Int) - 1)))) then Option.bind (m_spec_IsExpr a2) fun r95 => some r95 else (some false)) else (some false)))) fun y86 => some y86 else (bif (a0.Kind == 43) then Option.bind (bif (decide (a1 < 2)) then Option.bind (m_spec_IsExpr a2) fun r98 => bif r98 then some true else (bif (a1 == 2) then some (a2 == 33) else (some false)) else (bif (a1 == 2) then some (a2 == 33) else (some false))) fun y97 => some y97 else (bif (a0.Kind == 44) then Option.bind (bif (a1 == (IntKind.wrap .i64 ((a0.Kids.length : Int) - 1))) then bif (a2 == 33) then some true else (bif (!(a1 == (IntKind.wrap .i64 ((a0.Kids.length : Int) - 1)))) then some (a2 == 1) else (some false)) else (bif (!(a1 == (IntKind.wrap .i64 ((a0.Kids.length : Int) - 1)))) then some (a2 == 1) else (some false))) fun y99 => some y99 else (bif (a0.Kind == 45) then Option.bind (Option.bind (m_spec_l1In a2 40 44) fun r102 => bif r102 then some true else (some (a2 == 34))) fun y101 => some y101 else (Option.bind (m_spec_IsExpr a2) fun r104 => some r104))))))
def m_spec_l7Kid_k1 : (Int × Int × SNode × Bool) → Option Bool
  | (a1, a2, a0, y52) => bif y52 then Option.bind (m_spec_IsLvalue a2) fun r54 => some r54 else (bif (a0.Kind == 15) then Option.bind (Option.bind (m_spec_IsExpr a2) fun r58 => bif r58 then bif (decide (a1 > 0)) then some true else (Option.bind (m_spec_IsLvalue a2) fun r59 => some r59) else (some false)) fun y57 => some y57 else (bif (a0.Kind == 28) then Option.bind (bif (a1 == 0) then Option.bind (m_spec_IsExpr a2) fun r62 => bif r62 then some true else (bif (decide (a1 > 0)) then some (a2 == 33) else (some false)) else (bif (decide (a1 > 0)) then some (a2 == 33) else (some false))) fun y61 => some y61 else (bif (a0.Kind == 29) then Option.bind (bif (a1 == 0) then Option.bind (m_spec_IsExpr a2) fun r65 => bif r65 then some true else (bif (a1 == 1) then some (a2 == 33) else (some false)) else (bif (a1 == 1) then some (a2 == 33) else (some false))) fun y64 => some y64 else (bif (a0.Kind == 30) then Option.bind (bif (a1 == 0) then bif (a2 == 33) then some true else (bif (a1 == 1) then Option.bind (m_spec_IsExpr a2) fun r69 => some r69 else (some false)) else (bif (a1 == 1) then Option.bind (m_spec_IsExpr a2) fun r70 => some r70 else (some false))) fun y68 => some y68 else (bif (a0.Kind == 31) then Option.bind (bif (decide (a1 < 3)) then Option.bind (m_spec_IsExpr a2) fun r73 => bif r73 then some true else (bif (a2 == 16) then some true else (bif (a1 == 3) then some (a2 == 33) else (some false))) else (bif (a1 == 3) then some (a2 == 33) else (some false))) fun y72 => some y72 else (bif (a0.Kind == 32) then m_spec_l7Kid_k2 (a1, a2, a0, (a0.Kind == 32)) else (bif (a0.Kind == 40) then m_spec_l7Kid_k2 (a1, a2, a0, (a0.Kind == 40)) else (m_spec_l7Kid_k2 (a1, a2, a0, (a0.Kind == 41))))))))))
def m_spec_l7Kid (a0 : SNode) (a1 : Int) (a2 : Int) : Option Bool :=
  bif (a0.Kind == 9) then m_spec_l7Kid_k1 (a1, a2, a0, (a0.Kind == 9)) else (m_spec_l7Kid_k1 (a1, a2, a0, (a0.Kind == 10)))

/-! ### spec.TreeOk -/
def m_spec_TreeOk_l2 (N : Nat) (kb1 : ((List SNode) × Int) → Option Bool) : Nat → ((List SNode) × Int × Int) → Option Bool
  | 0, _ => none
  | n2 + 1, (a0, y669, y949) => Option.bind (ix a0 y669) fun e978 => bif (decide (y949 < (e978.Kids.length : Int))) then Option.bind (ix a0 y669) fun e994 => Option.bind (ix a0 y669) fun e995 => Option.bind (ix e995.Kids y949) fun e996 => Option.bind (ix a0 e996) fun e997 => Option.bind (m_spec_l7Kid e994 y949 e997.Kind) fun r998 => bif (!r998) then some false else ((m_spec_TreeOk_l2 N kb1 n2) (a0, y669, (IntKind.wrap .i64 (y949 + 1)))) else (kb1 (a0, (IntKind.wrap .i64 (y669 + 1))))
def m_spec_TreeOk_l1 (N : Nat) : Nat → ((List SNode) × Int) → Option Bool
  | 0, _ => none
  | n1 + 1, (a0, y669) => bif (decide (y669 < (a0.length : Int))) then Option.bind (ix a0 y669) fun e923 => Option.bind (m_spec_FieldsOk N e923) fun r924 => bif (!r924) then some false else (m_spec_TreeOk_l2 N (m_spec_TreeOk_l1 N n1) N (a0, y669, 0)) else (some true)
def m_spec_TreeOk (N : Nat) (a0 : List SNode) : Option Bool :=
  Option.bind (Option.bind (m_spec_ShapeOk N a0) fun r9 => bif (!r9) then some true else (Option.bind (m_spec_DepthOf N a0) fun r10 => some (decide (r10 > 40)))) fun y8 => bif y8 then some false else (m_spec_TreeOk_l1 N N (a0, 0))

/-! ### spec.l43Text -/
def m_spec_l43Text (N : Nat) (a0 : List UInt8) : Option (List UInt8) :=
  Option.bind (m_spec_Var N (a0.length : Int)) fun r3 => Option.bind (cat r3 a0) fun s4 => some s4

/-! ### spec.ShowTree -/
def m_spec_ShowTree_l1 (N : Nat) : Nat → ((List SNode) × (List UInt8) × Int) → Option (List UInt8)
  | 0, _ => none
  | n1 + 1, (a0, y251, y252) => bif (decide (y252 < (a0.length : Int))) then Option.bind (ix a0 y252) fun e360 => Option.bind (m_spec_Var N e360.Kind) fun r361 => Option.bind (cat y251 r361) fun s362 => Option.bind (ix a0 y252) fun e363 => Option.bind (m_spec_Var N e363.Op) fun r364 => Option.bind (cat s362 r364) fun s365 => Option.bind (ix a0 y252) fun e366 => Option.bind (m_spec_l43Text N e366.Text) fun r367 => Option.bind (cat s365 r367) fun s368 => Option.bind (ix a0 y252) fun e369 => Option.bind (m_spec_l43Text N e369.Other) fun r370 => Option.bind (cat s368 r370) fun s371 => Option.bind (ix a0 y252) fun e372 => Option.bind (m_spec_Var N (e372.Kids.length : Int)) fun r373 => Option.bind (cat s371 r373) fun s374 => (m_spec_ShowTree_l1 N n1) (a0, s374, (IntKind.wrap .i64 (y252 + 1))) else (some y251)
def m_spec_ShowTree (N : Nat) (a0 : List SNode) : Option (List UInt8) :=
  Option.bind (m_spec_TreeOk N a0) fun r4 => bif (!r4) then some [] else (Option.bind (m_spec_Var N (a0.length : Int)) fun r6 => m_spec_ShowTree_l1 N N (a0, r6, 0))

/-! ### spec.ReadTree -/
def m_spec_ReadTree_l1 (N : Nat) : Nat → ((List UInt8) × (Int × Int) × Int × Int × (List SNode) × (List Int)) → Option ((List SNode) × Bool)
  | 0, _ => none
  | n1 + 1, (a0, r2, y171, y172, y173, y174) => Option.bind (bif (decide (y172 < r2.1)) then bif (decide (y172 < 400)) then some (decide (y171 ≥ 0)) else (some false) else (some false)) fun y220 => bif y220 then Option.bind (m_spec_l43Num N a0 y171) fun r241 => Option.bind (m_spec_l43Num N a0 r241.2) fun r243 => Option.bind (m_spec_l43Read N a0 r243.2) fun r245 => Option.bind (m_spec_l43Read N a0 r245.2) fun r247 => Option.bind (m_spec_l43Num N a0 r247.2) fun r249 => Option.bind (m_spec_l43Kids y174 r249.1) fun r252 => Option.bind (app 8 [] r252.1) fun x255 => Option.bind (app 8 x255 [y172]) fun x256 => Option.bind (app 72 y173 [(⟨r241.1, r243.1, r245.1, r247.1, r252.2⟩ : SNode)]) fun x258 => (m_spec_ReadTree_l1 N n1) (a0, r2, r249.2, (IntKind.wrap .i64 (y172 + 1)), x258, x256) else (Option.bind (bif (y171 != (a0.length : Int)) then some true else (bif ((y173.length : Int) != r2.1) then some true else (Option.bind (m_spec_TreeOk N y173) fun r267 => bif (!r267) then some true else (Option.bind (m_spec_ShowTree N y173) fun r268 => some (!(r268 == a0)))))) fun y266 => bif y266 then some ([], false) else (some (y173, true)))
def m_spec_ReadTree (N : Nat) (a0 : List UInt8) : Option ((List SNode) × Bool) :=
  Option.bind (m_spec_l43Num N a0 0) fun r2 => m_spec_ReadTree_l1 N N (a0, r2, r2.2, 0, [], [])

/-! ### impl.ReadVar -/
def m_impl_ReadVar_k1 (N : Nat) : Unit → Option (Int × Int)
  | _ => some (0, 0)
def m_impl_ReadVar_l2 (N : Nat) : Nat → ((List UInt8) × Int × Int) → Option (Int × Int)
  | 0, _ => none
  | n2 + 1, (a0, y77, y78) => bif (decide (y78 < (if 7 < (a0.length : Int) then 7 else (a0.length : Int)))) then Option.bind (ix a0 y78) fun b119 => Option.bind (shlO .i64 (IntKind.wrap .i64 (bits .and .u8 ((b119).toNat : Int) 127)) (IntKind.wrap .u64 (IntKind.wrap .i64 (7 * y78)))) fun x120 => Option.bind (ix a0 y78) fun b122 => bif (decide (((b122).toNat : Int) < 128)) then Option.bind (bif (decide (y78 > 0)) then Option.bind (ix a0 y78) fun b128 => some (((b128).toNat : Int) == 0) else (some false)) fun y127 => bif y127 then m_impl_ReadVar_k1 N () else (some ((bits .or .i64 y77 x120), (IntKind.wrap .i64 (y78 + 1)))) else ((m_impl_ReadVar_l2 N n2) (a0, (bits .or .i64 y77 x120), (IntKind.wrap .i64 (y78 + 1)))) else (m_impl_ReadVar_k1 N ())
def m_impl_ReadVar (N : Nat) (a0 : List UInt8) : Option (Int × Int) :=
  m_impl_ReadVar_l2 N N (a0, 0, 0)

/-! ### impl.byteReader).number -/
def m_impl_byteReader__number (N : Nat) (p0_0 : List UInt8) (p0_1 : Bool) : Option (Int × (List UInt8) × Bool) :=
  Option.bind (m_impl_ReadVar N p0_0) fun r2 => Option.bind (bif p0_1 then some true else (some (r2.2 == 0))) fun y3 => Option.bind (cut p0_0 r2.2 (p0_0.length : Int)) fun s5 => some (r2.1, s5, y3)

/-! ### impl.byteReader).text -/
def m_impl_byteReader__text (N : Nat) (p0_0 : List UInt8) (p0_1 : Bool) : Option ((List UInt8) × (List UInt8) × Bool) :=
  Option.bind (m_impl_byteReader__number N p0_0 p0_1) fun r2 => bif (decide (r2.1 > (r2.2.1.length : Int))) then some ([], r2.2.1, true) else (Option.bind (cut r2.2.1 0 r2.1) fun s4 => Option.bind (cut r2.2.1 r2.1 (r2.2.1.length : Int)) fun s6 => some (s4, s6, r2.2.2))

/-! ### impl.within -/
def m_impl_within (a0 : Int) (a1 : Int) (a2 : Int) : Option Bool :=
  Option.bind (bif (decide (a0 ≥ a1)) then some (decide (a0 ≤ a2)) else (some false)) fun y1 => some y1

/-! ### impl.startsOf -/
def m_impl_startsOf_r2 (N : Nat) (kb1 : ((List SNode) × Int × (List Int)) → Option ((List Int) × Bool)) (a0 : List SNode) (y203 : Int) (e322 : SNode) (y204 : List Int) : List Int → Int → Option ((List Int) × Bool)
  | [], y345 => Option.bind (ix y204 y203) fun e357 => Option.bind (upd y204 y203 (IntKind.wrap .i64 (y345 + 1))) fun x358 => kb1 (a0, (IntKind.wrap .i64 (y203 + 1)), x358)
  | e339 :: es340, y345 => Option.bind (bif (decide (y345 < 0)) then some true else (some (e339 != y345))) fun y352 => bif y352 then some ([], false) else (Option.bind (ix y204 e339) fun e354 => (m_impl_startsOf_r2 N kb1 a0 y203 e322 y204 es340) (IntKind.wrap .i64 (e354 - 1)))
def m_impl_startsOf_l1 (N : Nat) : Nat → ((List SNode) × Int × (List Int)) → Option ((List Int) × Bool)
  | 0, _ => none
  | n1 + 1, (a0, y203, y204) => bif (decide (y203 < (a0.length : Int))) then Option.bind (ix a0 y203) fun e322 => m_impl_startsOf_r2 N (m_impl_startsOf_l1 N n1) a0 y203 e322 y204 (e322.Kids.reverse) (IntKind.wrap .i64 (y203 - 1)) else (Option.bind (ix y204 (IntKind.wrap .i64 ((a0.length : Int) - 1))) fun e360 => some (y204, (e360 == 0)))
def m_impl_startsOf (N : Nat) (a0 : List SNode) : Option ((List Int) × Bool) :=
  Option.bind (m_impl_within (a0.length : Int) 1 400) fun r4 => bif (!r4) then some ([], false) else (Option.bind (mk 8 0 (a0.length : Int)) fun x6 => m_impl_startsOf_l1 N N (a0, 0, x6))

/-! ### impl.ShapeOk -/
def m_impl_ShapeOk (N : Nat) (a0 : List SNode) : Option Bool :=
  Option.bind (m_impl_startsOf N a0) fun r2 => some r2.2

/-! ### impl.IsExpr -/
def m_impl_IsExpr (a0 : Int) : Option Bool :=
  Option.bind (m_impl_within a0 1 15) fun r2 => some r2

/-! ### impl.IsLetter -/
def m_impl_IsLetter (a0 : Int) : Option Bool :=
  Option.bind (bif (decide (a0 ≥ 97)) then bif (decide (a0 ≤ 122)) then some true else (bif (decide (a0 ≥ 65)) then bif (decide (a0 ≤ 90)) then some true else (some (a0 == 95)) else (some (a0 == 95))) else (bif (decide (a0 ≥ 65)) then bif (decide (a0 ≤ 90)) then some true else (some (a0 == 95)) else (some (a0 == 95)))) fun y1 => some y1

/-! ### impl.IsDigit -/
def m_impl_IsDigit (a0 : Int) : Option Bool :=
  Option.bind (bif (decide (a0 ≥ 48)) then some (decide (a0 ≤ 57)) else (some false)) fun y1 => some y1

/-! ### impl.IsWordByte -/
def m_impl_IsWordByte (a0 : Int) : Option Bool :=
  Option.bind (Option.bind (m_impl_IsLetter a0) fun r4 => bif r4 then some true else (Option.bind (m_impl_IsDigit a0) fun r5 => some r5)) fun y3 => some y3

/-! ### impl.NameShape -/
def m_impl_NameShape_l1 (N : Nat) : Nat → ((List UInt8) × Int) → Option Bool
  | 0, _ => none
  | n1 + 1, (a0, y35) => bif (decide (y35 < (a0.length : Int))) then Option.bind (ix a0 y35) fun b51 => Option.bind (m_impl_IsWordByte (IntKind.wrap .i64 ((b51).toNat : Int))) fun r52 => bif (!r52) then some false else ((m_impl_NameShape_l1 N n1) (a0, (IntKind.wrap .i64 (y35 + 1)))) else (Option.bind (Option.bind (m_impl_within (a0.length : Int) 1 12) fun r57 => bif r57 then Option.bind (ix a0 0) fun b58 => Option.bind (m_impl_IsLetter (IntKind.wrap .i64 ((b58).toNat : Int))) fun r59 => some r59 else (some false)) fun y56 => some y56)
def m_impl_NameShape (N : Nat) (a0 : List UInt8) : Option Bool :=
  m_impl_NameShape_l1 N N (a0, 0)

/-! ### slices.Index[[]string,string] -/
def m_slices_Index_string_l1 (N : Nat) : Nat → ((List (List UInt8)) × (List UInt8) × Int) → Option Int
  | 0, _ => none
  | n1 + 1, (a0, a1, y19) => bif (decide (y19 < (a0.length : Int))) then Option.bind (ix a0 y19) fun e28 => bif (a1 == e28) then some y19 else ((m_slices_Index_string_l1 N n1) (a0, a1, (IntKind.wrap .i64 (y19 + 1)))) else (some (-1))
def m_slices_Index_string (N : Nat) (a0 : List (List UInt8)) (a1 : List UInt8) : Option Int :=
  m_slices_Index_string_l1 N N (a0, a1, 0)

/-! ### impl.KeywordOf -/
def m_impl_KeywordOf (N : Nat) (a0 : List UInt8) : Option Int :=
  Option.bind (m_slices_Index_string N tab_keywords a0) fun r2 => bif (decide (r2 < 0)) then some 0 else (some (IntKind.wrap .i64 (10 + r2)))

/-! ### slices.Contains[[]string,string] -/
def m_slices_Contains_string (N : Nat) (a0 : List (List UInt8)) (a1 : List UInt8) : Option Bool :=
  Option.bind (m_slices_Index_string N a0 a1) fun r2 => some (decide (r2 ≥ 0))

/-! ### impl.IsBuiltin -/
def m_impl_IsBuiltin (N : Nat) (a0 : List UInt8) : Option Bool :=
  Option.bind (m_slices_Contains_string N tab_builtins a0) fun r2 => some r2

/-! ### impl.NameOk -/
def m_impl_NameOk (N : Nat) (a0 : List UInt8) : Option Bool :=
  Option.bind (Option.bind (m_impl_NameShape N a0) fun r5 => bif r5 then Option.bind (m_impl_KeywordOf N a0) fun r6 => bif (r6 == 0) then Option.bind (m_impl_IsBuiltin N a0) fun r7 => some (!r7) else (some false) else (some false)) fun y4 => some y4

/-! ### stringslite.IndexByte -/
def m_stringslite_IndexByte (a0 : List UInt8) (a1 : Int) : Option Int :=
  some (Go.Lib.indexByte a0 (Int.toNat a1).toUInt8)

/-! ### stringslite.Index -/
def m_stringslite_Index (a0 : List UInt8) : Option Int :=
  bif (([10] : List UInt8) == a0) then some 0 else (Option.bind (ix ([10] : List UInt8) 0) fun b7 => Option.bind (m_stringslite_IndexByte a0 ((b7).toNat : Int)) fun r8 => some r8)

/-! ### strings.Index -/
def m_strings_Index (a0 : List UInt8) : Option Int :=
  Option.bind (m_stringslite_Index a0) fun r2 => some r2

/-! ### strings.Contains -/
def m_strings_Contains (a0 : List UInt8) : Option Bool :=
  Option.bind (m_strings_Index a0) fun r2 => some (decide (r2 ≥ 0))

/-! ### impl.byteAt -/
def m_impl_byteAt (a0 : List UInt8) (a1 : Int) : Option Int :=
  Option.bind (m_impl_within a1 0 (IntKind.wrap .i64 ((a0.length : Int) - 1))) fun r4 => bif (!r4) then some (-1) else (Option.bind (ix a0 a1) fun b6 => some (IntKind.wrap .i64 ((b6).toNat : Int)))

/-! ### impl.digitsEnd -/
def m_impl_digitsEnd_l1 (N : Nat) : Nat → ((List UInt8) × Int) → Option Int
  | 0, _ => none
  | n1 + 1, (a0, a1) => Option.bind (m_impl_byteAt a0 a1) fun r33 => Option.bind (m_impl_IsDigit r33) fun r34 => bif r34 then (m_impl_digitsEnd_l1 N n1) (a0, (IntKind.wrap .i64 (a1 + 1))) else (some a1)
def m_impl_digitsEnd (N : Nat) (a0 : List UInt8) (a1 : Int) : Option Int :=
  m_impl_digitsEnd_l1 N N (a0, a1)

/-! ### impl.NumEnd -/
def m_impl_NumEnd_k2 (N : Nat) : Int → Option Int
  | y11 => some y11
def m_impl_NumEnd_k3 (N : Nat) : ((List UInt8) × Int × Int) → Option Int
  | (a0, y11, y31) => Option.bind (m_impl_digitsEnd N a0 y31) fun r33 => bif (decide (r33 > y31)) then some r33 else (m_impl_NumEnd_k2 N y11)
def m_impl_NumEnd_k1 (N : Nat) : ((List UInt8) × Int × Int) → Option Int
  | (a0, y11, y12) => bif (y12 == 0) then some (-1) else (Option.bind (m_impl_byteAt a0 y11) fun r26 => Option.bind (bif (r26 == 101) then some true else (some (r26 == 69))) fun y27 => bif y27 then Option.bind (m_impl_byteAt a0 (IntKind.wrap .i64 (y11 + 1))) fun r35 => Option.bind (bif (r35 == 43) then some true else (some (r35 == 45))) fun y36 => bif y36 then m_impl_NumEnd_k3 N (a0, y11, (IntKind.wrap .i64 ((IntKind.wrap .i64 (y11 + 1)) + 1))) else (m_impl_NumEnd_k3 N (a0, y11, (IntKind.wrap .i64 (y11 + 1)))) else (m_impl_NumEnd_k2 N y11))
def m_impl_NumEnd (N : Nat) (a0 : List UInt8) (a1 : Int) : Option Int :=
  Option.bind (m_impl_within a1 0 (IntKind.wrap .i64 ((a0.length : Int) - 1))) fun r4 => bif (!r4) then some (-1) else (Option.bind (m_impl_digitsEnd N a0 a1) fun r6 => Option.bind (m_impl_byteAt a0 r6) fun r38 => bif (r38 == 46) then Option.bind (m_impl_digitsEnd N a0 (IntKind.wrap .i64 (r6 + 1))) fun r40 => m_impl_NumEnd_k1 N (a0, r40, (IntKind.wrap .i64 ((IntKind.wrap .i64 (r6 - a1)) + (IntKind.wrap .i64 ((IntKind.wrap .i64 (r40 - r6)) - 1))))) else (m_impl_NumEnd_k1 N (a0, r6, (IntKind.wrap .i64 (r6 - a1)))))

/-! ### impl.quotedEnd -/
def m_impl_quotedEnd_k2 (N : Nat) (kb1 : ((List UInt8) × Int × Int) → Option Int) : ((List UInt8) × Int × Int) → Option Int
  | (a0, a2, y127) => kb1 (a0, a2, (IntKind.wrap .i64 (y127 + 1)))
def m_impl_quotedEnd_l1 (N : Nat) : Nat → ((List UInt8) × Int × Int) → Option Int
  | 0, _ => none
  | n1 + 1, (a0, a2, y91) => Option.bind (bif (decide (y91 < (a0.length : Int))) then Option.bind (ix a0 y91) fun b119 => some (((b119).toNat : Int) != 10) else (some false)) fun y118 => bif y118 then Option.bind (ix a0 y91) fun b129 => bif ((IntKind.wrap .i64 ((b129).toNat : Int)) == a2) then some (IntKind.wrap .i64 (y91 + 1)) else (Option.bind (Option.bind (ix a0 y91) fun b133 => bif (((b133).toNat : Int) == 92) then Option.bind (m_impl_byteAt a0 (IntKind.wrap .i64 (y91 + 1))) fun r134 => some (r134 != 10) else (some false)) fun y132 => bif y132 then m_impl_quotedEnd_k2 N (m_impl_quotedEnd_l1 N n1) (a0, a2, (IntKind.wrap .i64 (y91 + 1))) else (m_impl_quotedEnd_k2 N (m_impl_quotedEnd_l1 N n1) (a0, a2, y91))) else (some (-1))
def m_impl_quotedEnd (N : Nat) (a0 : List UInt8) (a1 : Int) (a2 : Int) : Option Int :=
  Option.bind (m_impl_byteAt a0 a1) fun r4 => bif (r4 != a2) then some (-1) else (m_impl_quotedEnd_l1 N N (a0, a2, (IntKind.wrap .i64 (a1 + 1))))

/-! ### impl.StrEnd -/
def m_impl_StrEnd (N : Nat) (a0 : List UInt8) (a1 : Int) : Option Int :=
  Option.bind (m_impl_quotedEnd N a0 a1 34) fun r2 => some r2

/-! ### impl.EreEnd -/
def m_impl_EreEnd (N : Nat) (a0 : List UInt8) (a1 : Int) : Option Int :=
  Option.bind (m_impl_quotedEnd N a0 a1 47) fun r2 => bif (r2 == (IntKind.wrap .i64 (a1 + 2))) then some (-1) else (some r2)

/-! ### impl.isKeywordKind -/
def m_impl_isKeywordKind (a0 : Int) : Option Bool :=
  Option.bind (m_impl_within a0 10 26) fun r2 => some r2

/-! ### impl.isSignKind -/
def m_impl_isSignKind (a0 : Int) : Option Bool :=
  Option.bind (m_impl_within a0 30 68) fun r2 => some r2

/-! ### impl.SpellOf -/
def m_impl_SpellOf (a0 : Int) : Option (List UInt8) :=
  bif (a0 == 1) then some [10] else (Option.bind (m_impl_isKeywordKind a0) fun r10 => bif r10 then Option.bind (ix tab_keywords (IntKind.wrap .i64 (a0 - 10))) fun e12 => some e12 else (Option.bind (m_impl_isSignKind a0) fun r14 => bif r14 then Option.bind (ix tab_signs (IntKind.wrap .i64 (a0 - 30))) fun e16 => some e16 else (some [])))

/-! ### impl.TokenOk -/
def m_impl_TokenOk_k1 (N : Nat) : (SToken × Bool) → Option Bool
  | (a0, y28) => bif y28 then Option.bind (m_impl_NameOk N a0.Text) fun r30 => some r30 else (bif (a0.Kind == 8) then Option.bind (m_impl_IsBuiltin N a0.Text) fun r32 => some r32 else (Option.bind (m_impl_SpellOf a0.Kind) fun r34 => some (a0.Text == r34)))
def m_impl_TokenOk (N : Nat) (a0 : SToken) : Option Bool :=
  bif (a0.Text == []) then some false else (bif (a0.Kind == 2) then Option.bind (Option.bind (ix a0.Text 0) fun b20 => bif (((b20).toNat : Int) == 35) then Option.bind (m_strings_Contains a0.Text) fun r21 => some (!r21) else (some false)) fun y19 => some y19 else (bif (a0.Kind == 3) then Option.bind (m_impl_NumEnd N a0.Text 0) fun r23 => some (r23 == (a0.Text.length : Int)) else (bif (a0.Kind == 4) then Option.bind (m_impl_StrEnd N a0.Text 0) fun r25 => some (r25 == (a0.Text.length : Int)) else (bif (a0.Kind == 5) then Option.bind (m_impl_EreEnd N a0.Text 0) fun r27 => some (r27 == (a0.Text.length : Int)) else (bif (a0.Kind == 6) then m_impl_TokenOk_k1 N (a0, (a0.Kind == 6)) else (m_impl_TokenOk_k1 N (a0, (a0.Kind == 7))))))))

/-! ### impl.isStep -/
def m_impl_isStep (a0 : Int) : Option Bool :=
  Option.bind (bif (a0 == 51) then some true else (some (a0 == 52))) fun y1 => some y1

/-! ### impl.OpLevel -/
def m_impl_OpLevel_k4 : (Int × Bool) → Option Int
  | (a0, y8) => bif y8 then some 10 else (bif (a0 == 60) then some 12 else (some 0))
def m_impl_OpLevel_k3 : (Int × Bool) → Option Int
  | (a0, y7) => bif y7 then some 9 else (bif (a0 == 57) then m_impl_OpLevel_k4 (a0, (a0 == 57)) else (bif (a0 == 58) then m_impl_OpLevel_k4 (a0, (a0 == 58)) else (m_impl_OpLevel_k4 (a0, (a0 == 59)))))
def m_impl_OpLevel_k2 : (Int × Bool) → Option Int
  | (a0, y6) => bif y6 then some 7 else (bif (a0 == 99) then some 8 else (bif (a0 == 55) then m_impl_OpLevel_k3 (a0, (a0 == 55)) else (m_impl_OpLevel_k3 (a0, (a0 == 56)))))
def m_impl_OpLevel_k1 : (Int × Bool) → Option Int
  | (a0, y5) => bif y5 then some 6 else (bif (a0 == 63) then m_impl_OpLevel_k2 (a0, (a0 == 63)) else (bif (a0 == 48) then m_impl_OpLevel_k2 (a0, (a0 == 48)) else (bif (a0 == 47) then m_impl_OpLevel_k2 (a0, (a0 == 47)) else (bif (a0 == 50) then m_impl_OpLevel_k2 (a0, (a0 == 50)) else (bif (a0 == 62) then m_impl_OpLevel_k2 (a0, (a0 == 62)) else (m_impl_OpLevel_k2 (a0, (a0 == 49))))))))
def m_impl_OpLevel (a0 : Int) : Option Int :=
  bif (a0 == 44) then some 3 else (bif (a0 == 45) then some 4 else (bif (a0 == 67) then m_impl_OpLevel_k1 (a0, (a0 == 67)) else (m_impl_OpLevel_k1 (a0, (a0 == 46)))))

/-! ### impl.isAssign -/
def m_impl_isAssign (a0 : Int) : Option Bool :=
  Option.bind (bif (a0 == 54) then some true else (Option.bind (m_impl_within a0 38 43) fun r3 => some r3)) fun y2 => some y2

/-! ### impl.exprForm -/
def m_impl_exprForm_k3 (N : Nat) : (SNode × Bool) → Option SForm
  | (a0, y35) => bif y35 then Option.bind (m_impl_isStep a0.Op) fun r37 => some (⟨r37, (a0.Text == []), false, 1, 1⟩ : SForm) else (bif (a0.Kind == 11) then Option.bind (bif (a0.Op == 55) then some true else (bif (a0.Op == 56) then some true else (some (a0.Op == 61)))) fun y38 => some (⟨y38, (a0.Text == []), false, 1, 1⟩ : SForm) else (bif (a0.Kind == 12) then Option.bind (m_impl_OpLevel a0.Op) fun r40 => some (⟨(r40 != 0), (a0.Text == []), false, 2, 2⟩ : SForm) else (bif (a0.Kind == 14) then some (⟨(a0.Op == 0), (a0.Text == []), false, 3, 3⟩ : SForm) else (Option.bind (m_impl_isAssign a0.Op) fun r42 => some (⟨r42, (a0.Text == []), false, 2, 2⟩ : SForm)))))
def m_impl_exprForm_k2 (N : Nat) : (SNode × Bool) → Option SForm
  | (a0, y28) => bif y28 then Option.bind (m_impl_NameOk N a0.Text) fun r30 => some (⟨(a0.Op == 0), r30, false, 1, 6⟩ : SForm) else (bif (a0.Kind == 6) then some (⟨(a0.Op == 0), (a0.Text == []), false, 1, 1⟩ : SForm) else (bif (a0.Kind == 7) then Option.bind (m_impl_NameOk N a0.Text) fun r32 => some (⟨(a0.Op == 0), r32, false, 0, 6⟩ : SForm) else (bif (a0.Kind == 8) then Option.bind (m_impl_IsBuiltin N a0.Text) fun r34 => some (⟨(a0.Op == 0), r34, false, 0, 6⟩ : SForm) else (bif (a0.Kind == 9) then m_impl_exprForm_k3 N (a0, (a0.Kind == 9)) else (m_impl_exprForm_k3 N (a0, (a0.Kind == 10)))))))
def m_impl_exprForm_k1 (N : Nat) : (SNode × Bool) → Option SForm
  | (a0, y23) => bif y23 then Option.bind (ix [3, 4, 5] (IntKind.wrap .i64 (a0.Kind - 2))) fun e26 => Option.bind (m_impl_TokenOk N (⟨e26, a0.Text, 0⟩ : SToken)) fun r27 => some (⟨(a0.Op == 0), r27, false, 0, 0⟩ : SForm) else (bif (a0.Kind == 5) then m_impl_exprForm_k2 N (a0, (a0.Kind == 5)) else (m_impl_exprForm_k2 N (a0, (a0.Kind == 13))))
def m_impl_exprForm (N : Nat) (a0 : SNode) : Option SForm :=
  bif (a0.Kind == 1) then Option.bind (m_impl_NameOk N a0.Text) fun r22 => some (⟨(a0.Op == 0), r22, false, 0, 0⟩ : SForm) else (bif (a0.Kind == 2) then m_impl_exprForm_k1 N (a0, (a0.Kind == 2)) else (bif (a0.Kind == 3) then m_impl_exprForm_k1 N (a0, (a0.Kind == 3)) else (m_impl_exprForm_k1 N (a0, (a0.Kind == 4)))))

/-! ### impl.IsStmt -/
def m_impl_IsStmt (a0 : Int) : Option Bool :=
  Option.bind (m_impl_within a0 20 34) fun r2 => some r2

/-! ### impl.stmtForm -/
def m_impl_stmtForm_k1 (N : Nat) : (Bool × Bool × Bool × Int × Int) → Option SForm
  | (y14, y15, y16, y17, y18) => some (⟨y14, y15, y16, y17, y18⟩ : SForm)
def m_impl_stmtForm_k3 (N : Nat) : (SNode × Bool) → Option SForm
  | (a0, y25) => bif y25 then m_impl_stmtForm_k1 N ((a0.Op == 0), (a0.Text == []), (a0.Other == []), 2, 2) else (bif (a0.Kind == 31) then m_impl_stmtForm_k1 N ((a0.Op == 0), (a0.Text == []), (a0.Other == []), 4, 4) else (bif (a0.Kind == 32) then Option.bind (m_impl_NameOk N a0.Text) fun r28 => Option.bind (m_impl_NameOk N a0.Other) fun r29 => m_impl_stmtForm_k1 N ((a0.Op == 0), r28, r29, 1, 1) else (bif (a0.Kind == 33) then m_impl_stmtForm_k1 N ((a0.Op == 0), (a0.Text == []), (a0.Other == []), 0, 400) else (bif (a0.Kind == 34) then Option.bind (m_impl_TokenOk N (⟨2, a0.Text, 0⟩ : SToken)) fun r31 => m_impl_stmtForm_k1 N ((a0.Op == 0), r31, (a0.Other == []), 0, 0) else (m_impl_stmtForm_k1 N ((a0.Op == 0), (a0.Text == []), (a0.Other == []), 0, 0))))))
def m_impl_stmtForm_k2 (N : Nat) : (SNode × Bool) → Option SForm
  | (a0, y22) => bif y22 then m_impl_stmtForm_k1 N ((a0.Op == 0), (a0.Text == []), (a0.Other == []), 0, 1) else (bif (a0.Kind == 27) then Option.bind (m_impl_NameOk N a0.Text) fun r24 => m_impl_stmtForm_k1 N ((a0.Op == 0), r24, (a0.Other == []), 0, 6) else (bif (a0.Kind == 28) then m_impl_stmtForm_k1 N ((a0.Op == 0), (a0.Text == []), (a0.Other == []), 2, 3) else (bif (a0.Kind == 29) then m_impl_stmtForm_k3 N (a0, (a0.Kind == 29)) else (m_impl_stmtForm_k3 N (a0, (a0.Kind == 30))))))
def m_impl_stmtForm (N : Nat) (a0 : SNode) : Option SForm :=
  bif (a0.Kind == 20) then m_impl_stmtForm_k1 N ((a0.Op == 0), (a0.Text == []), (a0.Other == []), 1, 1) else (bif (a0.Kind == 21) then Option.bind (bif (a0.Op == 0) then some true else (some (a0.Op == 1))) fun y19 => Option.bind (m_slices_Contains_string N [[], [62], [62, 62], [124]] a0.Other) fun r21 => bif (!(a0.Other == [])) then m_impl_stmtForm_k1 N (y19, (a0.Text == []), r21, (IntKind.wrap .i64 (a0.Op + 1)), 7) else (m_impl_stmtForm_k1 N (y19, (a0.Text == []), r21, a0.Op, 6)) else (bif (a0.Kind == 23) then m_impl_stmtForm_k2 N (a0, (a0.Kind == 23)) else (m_impl_stmtForm_k2 N (a0, (a0.Kind == 24)))))

/-! ### impl.itemForm -/
def m_impl_itemForm_k1 (N : Nat) : (SNode × Bool × Bool × Int × Int) → Option SForm
  | (a0, y9, y10, y11, y12) => some (⟨y9, y10, (a0.Other == []), y11, y12⟩ : SForm)
def m_impl_itemForm_k3 (N : Nat) : (Bool × SNode × Int) → Option SForm
  | (r15, a0, y16) => m_impl_itemForm_k1 N (a0, r15, (a0.Text == []), y16, y16)
def m_impl_itemForm_k4 (N : Nat) : (Bool × SNode × Int) → Option SForm
  | (y17, a0, y18) => m_impl_itemForm_k1 N (a0, y17, (a0.Text == []), y18, y18)
def m_impl_itemForm_k2 (N : Nat) : (SNode × Bool) → Option SForm
  | (a0, y13) => bif y13 then m_impl_itemForm_k1 N (a0, (a0.Op == 0), (a0.Text == []), 1, 1) else (bif (a0.Kind == 42) then Option.bind (m_impl_within a0.Op 1 3) fun r15 => bif (a0.Op == 3) then m_impl_itemForm_k3 N (r15, a0, 2) else (m_impl_itemForm_k3 N (r15, a0, 1)) else (bif (a0.Kind == 43) then Option.bind (bif (a0.Op == 1) then some true else (some (a0.Op == 3))) fun y17 => bif (a0.Op == 3) then m_impl_itemForm_k4 N (y17, a0, 3) else (m_impl_itemForm_k4 N (y17, a0, 2)) else (bif (a0.Kind == 44) then Option.bind (m_impl_NameOk N a0.Text) fun r20 => m_impl_itemForm_k1 N (a0, (a0.Op == 0), r20, 1, 7) else (m_impl_itemForm_k1 N (a0, (a0.Op == 0), (a0.Text == []), 0, 400)))))
def m_impl_itemForm (N : Nat) (a0 : SNode) : Option SForm :=
  bif (a0.Kind == 40) then m_impl_itemForm_k2 N (a0, (a0.Kind == 40)) else (m_impl_itemForm_k2 N (a0, (a0.Kind == 41)))

/-! ### impl.FieldsOk -/
def m_impl_FieldsOk_k1 (N : Nat) : (SNode × Bool × Bool × Bool × Int × Int) → Option Bool
  | (a0, y13, y14, y15, y16, y17) => Option.bind (bif y13 then bif y14 then bif y15 then Option.bind (m_impl_within (a0.Kids.length : Int) y16 y17) fun r20 => some r20 else (some false) else (some false) else (some false)) fun y19 => some y19
def m_impl_FieldsOk (N : Nat) (a0 : SNode) : Option Bool :=
  Option.bind (m_impl_IsExpr a0.Kind) fun r22 => bif r22 then Option.bind (m_impl_exprForm N a0) fun r24 => m_impl_FieldsOk_k1 N (a0, r24.op, r24.text, (a0.Other == []), r24.least, r24.most) else (bif (a0.Kind == 16) then m_impl_FieldsOk_k1 N (a0, (a0.Op == 0), (a0.Text == []), (a0.Other == []), 0, 0) else (Option.bind (m_impl_IsStmt a0.Kind) fun r26 => bif r26 then Option.bind (m_impl_stmtForm N a0) fun r28 => m_impl_FieldsOk_k1 N (a0, r28.op, r28.text, r28.other, r28.least, r28.most) else (Option.bind (m_impl_within a0.Kind 40 45) fun r30 => bif r30 then Option.bind (m_impl_itemForm N a0) fun r32 => m_impl_FieldsOk_k1 N (a0, r32.op, r32.text, r32.other, r32.least, r32.most) else (some false))))

/-! ### impl.IsLvalue -/
def m_impl_IsLvalue (a0 : Int) : Option Bool :=
  Option.bind (bif (a0 == 1) then some true else (bif (a0 == 5) then some true else (some (a0 == 6)))) fun y1 => some y1

/-! ### impl.isItem -/
def m_impl_isItem (a0 : Int) : Option Bool :=
  Option.bind (m_impl_within a0 40 44) fun r2 => some r2

/-! ### impl.kidOk -/
def m_impl_kidOk_k1 : (Int × Bool) → Option Bool
  | (a2, y22) => bif y22 then some (a2 == 33) else (Option.bind (m_impl_IsExpr a2) fun r24 => some r24)
def m_impl_kidOk_k4 : (Int × Int × SNode × Bool) → Option Bool
  | (a2, a1, a0, y38) => bif y38 then m_impl_kidOk_k1 (a2, true) else (bif (a0.Kind == 33) then Option.bind (m_impl_IsStmt a2) fun r40 => some r40 else (bif (a0.Kind == 42) then Option.bind (bif (a1 == (IntKind.wrap .i64 ((a0.Kids.length : Int) - 1))) then some (decide (a0.Op ≥ 2)) else (some false)) fun y41 => m_impl_kidOk_k1 (a2, y41) else (bif (a0.Kind == 43) then Option.bind (bif (a1 == (IntKind.wrap .i64 ((a0.Kids.length : Int) - 1))) then some (a0.Op == 3) else (some false)) fun y42 => m_impl_kidOk_k1 (a2, y42) else (bif (a0.Kind == 44) then bif (!(a1 == (IntKind.wrap .i64 ((a0.Kids.length : Int) - 1)))) then some (a2 == 1) else (m_impl_kidOk_k1 (a2, true)) else (bif (a0.Kind == 45) then Option.bind (Option.bind (m_impl_isItem a2) fun r45 => bif r45 then some true else (some (a2 == 34))) fun y44 => some y44 else (m_impl_kidOk_k1 (a2, false)))))))
def m_impl_kidOk_k3 : (Int × Int × SNode × Bool) → Option Bool
  | (a1, a2, a0, y35) => bif y35 then m_impl_kidOk_k1 (a2, (decide (a1 > 0))) else (bif (a0.Kind == 31) then Option.bind (bif (decide (a1 < 3)) then some (a2 == 16) else (some false)) fun y37 => bif y37 then some true else (m_impl_kidOk_k1 (a2, (a1 == (IntKind.wrap .i64 ((a0.Kids.length : Int) - 1))))) else (bif (a0.Kind == 30) then m_impl_kidOk_k1 (a2, (a1 == 0)) else (bif (a0.Kind == 32) then m_impl_kidOk_k4 (a2, a1, a0, (a0.Kind == 32)) else (bif (a0.Kind == 40) then m_impl_kidOk_k4 (a2, a1, a0, (a0.Kind == 40)) else (m_impl_kidOk_k4 (a2, a1, a0, (a0.Kind == 41)))))))
def m_impl_kidOk_k2 : (Int × Int × SNode × Bool) → Option Bool
  | (a1, a2, a0, y25) => bif y25 then Option.bind (m_impl_IsLvalue a2) fun r27 => some r27 else (bif (a0.Kind == 15) then Option.bind (bif (a1 == 0) then Option.bind (m_impl_IsLvalue a2) fun r32 => bif r32 then some true else (bif (decide (a1 > 0)) then Option.bind (m_impl_IsExpr a2) fun r33 => some r33 else (some false)) else (bif (decide (a1 > 0)) then Option.bind (m_impl_IsExpr a2) fun r34 => some r34 else (some false))) fun y31 => some y31 else (bif (a0.Kind == 28) then m_impl_kidOk_k3 (a1, a2, a0, (a0.Kind == 28)) else (m_impl_kidOk_k3 (a1, a2, a0, (a0.Kind == 29)))))
def m_impl_kidOk (a0 : SNode) (a1 : Int) (a2 : Int) : Option Bool :=
  bif (a0.Kind == 9) then m_impl_kidOk_k2 (a1, a2, a0, (a0.Kind == 9)) else (m_impl_kidOk_k2 (a1, a2, a0, (a0.Kind == 10)))

/-! ### a circle of 1 -/
structure Rec1 where
  m_impl_treeAt : (List SNode) → Int → Option STree

def m_impl_treeAt_l1 (N : Nat) (R : Rec1) : Nat → ((List SNode) × SNode × Int × (List STree)) → Option STree
  | 0, _ => none
  | n1 + 1, (a0, e2, y63, y64) => bif (decide (y63 < (e2.Kids.length : Int))) then Option.bind (ix e2.Kids y63) fun e86 => Option.bind (R.m_impl_treeAt a0 e86) fun r89 => Option.bind (app 72 y64 [r89]) fun x90 => (m_impl_treeAt_l1 N R n1) (a0, e2, (IntKind.wrap .i64 (y63 + 1)), x90) else (some (⟨e2.Kind, e2.Op, e2.Text, e2.Other, y64⟩ : STree))
def m_impl_treeAt_F (N : Nat) (R : Rec1) (a0 : List SNode) (a1 : Int) : Option STree :=
  Option.bind (ix a0 a1) fun e2 => m_impl_treeAt_l1 N R N (a0, e2, 0, [])
def scc1 : Nat → Rec1
  | 0 => ⟨fun _ _ => none⟩
  | N + 1 => ⟨fun a0 a1 => m_impl_treeAt_F N (scc1 N) a0 a1⟩
def m_impl_treeAt (N : Nat) (a0 : List SNode) (a1 : Int) : Option STree := (scc1 N).m_impl_treeAt a0 a1

/-! ### impl.rootOf -/
def m_impl_rootOf (N : Nat) (a0 : List SNode) : Option STree :=
  Option.bind (m_impl_treeAt N a0 (IntKind.wrap .i64 ((a0.length : Int) - 1))) fun r2 => some r2

/-! ### a circle of 1 -/
structure Rec2 where
  m_impl_tree__depth : STree → Option Int

def m_impl_tree__depth_l1 (N : Nat) (R : Rec2) : Nat → (STree × Int × Int) → Option Int
  | 0, _ => none
  | n1 + 1, (a0, y37, y38) => bif (decide (y38 < (a0.kids.length : Int))) then Option.bind (ix a0.kids y38) fun e54 => Option.bind (R.m_impl_tree__depth e54) fun r56 => (m_impl_tree__depth_l1 N R n1) (a0, (if r56 > y37 then r56 else y37), (IntKind.wrap .i64 (y38 + 1))) else (some (IntKind.wrap .i64 (y37 + 1)))
def m_impl_tree__depth_F (N : Nat) (R : Rec2) (a0 : STree) : Option Int :=
  m_impl_tree__depth_l1 N R N (a0, 0, 0)
def scc2 : Nat → Rec2
  | 0 => ⟨fun _ => none⟩
  | N + 1 => ⟨fun a0 => m_impl_tree__depth_F N (scc2 N) a0⟩
def m_impl_tree__depth (N : Nat) (a0 : STree) : Option Int := (scc2 N).m_impl_tree__depth a0

/-! ### impl.TreeOk -/
def m_impl_TreeOk_l2 (N : Nat) (kb1 : ((List SNode) × Int) → Option Bool) : Nat → ((List SNode) × Int × SNode × Int) → Option Bool
  | 0, _ => none
  | n2 + 1, (a0, y359, e494, y511) => bif (decide (y511 < (e494.Kids.length : Int))) then Option.bind (ix e494.Kids y511) fun e532 => Option.bind (ix a0 e532) fun e535 => Option.bind (m_impl_kidOk e494 y511 e535.Kind) fun r536 => bif (!r536) then some false else ((m_impl_TreeOk_l2 N kb1 n2) (a0, y359, e494, (IntKind.wrap .i64 (y511 + 1)))) else (kb1 (a0, (IntKind.wrap .i64 (y359 + 1))))
def m_impl_TreeOk_l1 (N : Nat) : Nat → ((List SNode) × Int) → Option Bool
  | 0, _ => none
  | n1 + 1, (a0, y359) => bif (decide (y359 < (a0.length : Int))) then Option.bind (ix a0 y359) fun e494 => Option.bind (m_impl_FieldsOk N e494) fun r498 => bif (!r498) then some false else (m_impl_TreeOk_l2 N (m_impl_TreeOk_l1 N n1) N (a0, y359, e494, 0)) else (Option.bind (m_impl_rootOf N a0) fun r539 => Option.bind (m_impl_tree__depth N r539) fun r540 => some (decide (r540 ≤ 40)))
def m_impl_TreeOk (N : Nat) (a0 : List SNode) : Option Bool :=
  Option.bind (m_impl_ShapeOk N a0) fun r4 => bif (!r4) then some false else (m_impl_TreeOk_l1 N N (a0, 0))

/-! ### impl.Var -/
def m_impl_Var_l1 (N : Nat) : Nat → (Int × (List UInt8)) → Option (List UInt8)
  | 0, _ => none
  | n1 + 1, (y17, y18) => bif (decide (y17 > 127)) then Option.bind (app 1 y18 [(bytI (bits .or .i64 (bits .and .i64 y17 127) 128))]) fun x24 => (m_impl_Var_l1 N n1) ((Int.fdiv y17 (2 ^ (min 7 64))), x24) else (Option.bind (app 1 y18 [(bytI y17)]) fun x26 => some x26)
def m_impl_Var (N : Nat) (a0 : Int) : Option (List UInt8) :=
  Option.bind (m_impl_within a0 0 562949953421311) fun r4 => bif (!r4) then some [] else (m_impl_Var_l1 N N (a0, []))

/-! ### impl.ShowTree -/
def m_impl_ShowTree_l1 (N : Nat) : Nat → ((List SNode) × (List UInt8) × Int) → Option (List UInt8)
  | 0, _ => none
  | n1 + 1, (a0, y219, y220) => bif (decide (y220 < (a0.length : Int))) then Option.bind (ix a0 y220) fun e302 => Option.bind (m_impl_Var N e302.Kind) fun r315 => Option.bind (m_impl_Var N e302.Op) fun r316 => Option.bind (cat r315 r316) fun s317 => Option.bind (m_impl_Var N (e302.Text.length : Int)) fun r318 => Option.bind (cat s317 r318) fun s319 => Option.bind (cat s319 e302.Text) fun s320 => Option.bind (m_impl_Var N (e302.Other.length : Int)) fun r321 => Option.bind (cat s320 r321) fun s322 => Option.bind (cat s322 e302.Other) fun s323 => Option.bind (m_impl_Var N (e302.Kids.length : Int)) fun r324 => Option.bind (cat s323 r324) fun s325 => Option.bind (cat y219 s325) fun s326 => (m_impl_ShowTree_l1 N n1) (a0, s326, (IntKind.wrap .i64 (y220 + 1))) else (some y219)
def m_impl_ShowTree (N : Nat) (a0 : List SNode) : Option (List UInt8) :=
  Option.bind (m_impl_TreeOk N a0) fun r4 => bif (!r4) then some [] else (Option.bind (m_impl_Var N (a0.length : Int)) fun r6 => m_impl_ShowTree_l1 N N (a0, r6, 0))

/-! ### impl.ReadTree -/
def m_impl_ReadTree_l1 (N : Nat) : Nat → ((List UInt8) × (Int × (List UInt8) × Bool) × Int × (List UInt8) × Bool × (List SNode) × (List Int)) → Option ((List SNode) × Bool)
  | 0, _ => none
  | n1 + 1, (a0, r2, y189, y190, y191, y192, y193) => bif (decide (y189 < r2.1)) then Option.bind (m_impl_byteReader__number N y190 y191) fun r267 => Option.bind (m_impl_byteReader__number N r267.2.1 r267.2.2) fun r268 => Option.bind (m_impl_byteReader__text N r268.2.1 r268.2.2) fun r271 => Option.bind (m_impl_byteReader__text N r271.2.1 r271.2.2) fun r272 => Option.bind (m_impl_byteReader__number N r272.2.1 r272.2.2) fun r274 => Option.bind (bif r274.2.2 then some true else (some (decide (r274.1 > (y193.length : Int))))) fun y276 => bif y276 then some ([], false) else (Option.bind (cut y193 (IntKind.wrap .i64 ((y193.length : Int) - r274.1)) (y193.length : Int)) fun l279 => Option.bind (app 8 [] l279) fun x280 => Option.bind (cut y193 0 (IntKind.wrap .i64 ((y193.length : Int) - r274.1))) fun l283 => Option.bind (app 8 l283 [y189]) fun x284 => Option.bind (app 72 y192 [(⟨r267.1, r268.1, r271.1, r272.1, x280⟩ : SNode)]) fun x286 => (m_impl_ReadTree_l1 N n1) (a0, r2, (IntKind.wrap .i64 (y189 + 1)), r274.2.1, r274.2.2, x286, x284)) else (Option.bind (bif y191 then some true else (Option.bind (m_impl_TreeOk N y192) fun r295 => bif (!r295) then some true else (Option.bind (m_impl_ShowTree N y192) fun r296 => some (!(r296 == a0))))) fun y294 => bif y294 then some ([], false) else (some (y192, true)))
def m_impl_ReadTree (N : Nat) (a0 : List UInt8) : Option ((List SNode) × Bool) :=
  Option.bind (m_impl_byteReader__number N a0 false) fun r2 => bif (decide (r2.1 > 400)) then some ([], false) else (m_impl_ReadTree_l1 N N (a0, r2, 0, r2.2.1, r2.2.2, [], []))

/-! ### laws.eqIntS -/
def m_laws_eqIntS_l1 (N : Nat) : Nat → ((List Int) × (List Int) × Int) → Option Bool
  | 0, _ => none
  | n1 + 1, (a0, a1, y35) => bif (decide (y35 < (a0.length : Int))) then Option.bind (ix a0 y35) fun e51 => Option.bind (ix a1 y35) fun e52 => bif (e51 != e52) then some false else ((m_laws_eqIntS_l1 N n1) (a0, a1, (IntKind.wrap .i64 (y35 + 1)))) else (some true)
def m_laws_eqIntS (N : Nat) (a0 : List Int) (a1 : List Int) : Option Bool :=
  bif ((a0.length : Int) != (a1.length : Int)) then some false else (m_laws_eqIntS_l1 N N (a0, a1, 0))

/-! ### laws.eqNode -/
def m_laws_eqNode (N : Nat) (a0 : SNode) (a1 : SNode) : Option Bool :=
  bif (a0.Kind != a1.Kind) then some false else (bif (a0.Op != a1.Op) then some false else (bif (!(a0.Text == a1.Text)) then some false else (bif (!(a0.Other == a1.Other)) then some false else (Option.bind (m_laws_eqIntS N a0.Kids a1.Kids) fun r4 => bif (!r4) then some false else (some true)))))

/-! ### laws.eqNodeS -/
def m_laws_eqNodeS_l1 (N : Nat) : Nat → ((List SNode) × (List SNode) × Int) → Option Bool
  | 0, _ => none
  | n1 + 1, (a0, a1, y51) => bif (decide (y51 < (a0.length : Int))) then Option.bind (ix a0 y51) fun e74 => Option.bind (ix a1 y51) fun e75 => Option.bind (m_laws_eqNode N e74 e75) fun r76 => bif (!r76) then some false else ((m_laws_eqNodeS_l1 N n1) (a0, a1, (IntKind.wrap .i64 (y51 + 1)))) else (some true)
def m_laws_eqNodeS (N : Nat) (a0 : List SNode) (a1 : List SNode) : Option Bool :=
  bif ((a0.length : Int) != (a1.length : Int)) then some false else (m_laws_eqNodeS_l1 N N (a0, a1, 0))

/-! ### laws.markText -/
def m_laws_markText_l1 (N : Nat) : Nat → (Int × (List UInt8)) → Option (List UInt8)
  | 0, _ => none
  | n1 + 1, (y13, y14) => bif (decide (y13 > 0)) then Option.bind (cat [(bytI (IntKind.wrap .i64 (48 + (Int.tmod y13 10))))] y14) fun s20 => (m_laws_markText_l1 N n1) ((IntKind.wrap .i64 (Int.tdiv y13 10)), s20) else (Option.bind (cat ([109] : List UInt8) y14) fun s22 => some s22)
def m_laws_markText (N : Nat) (a0 : Int) : Option (List UInt8) :=
  bif (decide (a0 ≤ 0)) then some [109, 48] else (m_laws_markText_l1 N N (a0, []))

/-! ### laws.markIntS -/
def m_laws_markIntS_l1 (N : Nat) : Nat → (Int × Int × (List Int)) → Option (Int × (List Int))
  | 0, _ => none
  | n1 + 1, (y39, y40, y41) => bif (decide (y40 < (y41.length : Int))) then Option.bind (ix y41 y40) fun e59 => Option.bind (upd y41 y40 y39) fun x60 => (m_laws_markIntS_l1 N n1) ((IntKind.wrap .i64 (y39 + 1)), (IntKind.wrap .i64 (y40 + 1)), x60) else (some (y39, y41))
def m_laws_markIntS (N : Nat) (a1 : Int) (p0 : List Int) : Option (Int × (List Int)) :=
  m_laws_markIntS_l1 N N (a1, 0, p0)

/-! ### laws.markIntS -/
def m_laws_markIntS_v2_l1 (N : Nat) : Nat → Int → Option Int
  | 0, _ => none
  | n1 + 1, a1 => some a1
def m_laws_markIntS_v2 (N : Nat) (a1 : Int) : Option Int :=
  m_laws_markIntS_v2_l1 N N a1

/-! ### laws.markNodeS -/
def m_laws_markNodeS_l1 (N : Nat) : Nat → (Int × Int × (List SNode)) → Option (Int × (List SNode))
  | 0, _ => none
  | n1 + 1, (y191, y192, y193) => bif (decide (y192 < (y193.length : Int))) then Option.bind (ix y193 y192) fun e268 => Option.bind (upd y193 y192 (⟨y191, e268.Op, e268.Text, e268.Other, e268.Kids⟩ : SNode)) fun x269 => Option.bind (ix x269 y192) fun e272 => Option.bind (upd x269 y192 (⟨e272.Kind, (IntKind.wrap .i64 (y191 + 1)), e272.Text, e272.Other, e272.Kids⟩ : SNode)) fun x273 => Option.bind (m_laws_markText N (IntKind.wrap .i64 ((IntKind.wrap .i64 (y191 + 1)) + 1))) fun r277 => Option.bind (ix x273 y192) fun e278 => Option.bind (upd x273 y192 (⟨e278.Kind, e278.Op, r277, e278.Other, e278.Kids⟩ : SNode)) fun x279 => Option.bind (m_laws_markText N (IntKind.wrap .i64 ((IntKind.wrap .i64 ((IntKind.wrap .i64 (y191 + 1)) + 1)) + 1))) fun r283 => Option.bind (ix x279 y192) fun e284 => Option.bind (upd x279 y192 (⟨e284.Kind, e284.Op, e284.Text, r283, e284.Kids⟩ : SNode)) fun x285 => Option.bind (ix x285 y192) fun e286 => Option.bind (m_laws_markIntS N (IntKind.wrap .i64 ((IntKind.wrap .i64 ((IntKind.wrap .i64 ((IntKind.wrap .i64 (y191 + 1)) + 1)) + 1)) + 1)) e286.Kids) fun r287 => Option.bind (upd x285 y192 (⟨e286.Kind, e286.Op, e286.Text, e286.Other, r287.2⟩ : SNode)) fun x288 => (m_laws_markNodeS_l1 N n1) (r287.1, (IntKind.wrap .i64 (y192 + 1)), x288) else (some (y191, y193))
def m_laws_markNodeS (N : Nat) (a1 : Int) (p0 : List SNode) : Option (Int × (List SNode)) :=
  m_laws_markNodeS_l1 N N (a1, 0, p0)

/-! ### laws.heldIntS -/
def m_laws_heldIntS_l1 (N : Nat) : Nat → ((List Int) × Int × Int) → Option Int
  | 0, _ => none
  | n1 + 1, (a0, y37, y38) => bif (decide (y38 < (a0.length : Int))) then Option.bind (ix a0 y38) fun e56 => bif (e56 != y37) then some (-1) else ((m_laws_heldIntS_l1 N n1) (a0, (IntKind.wrap .i64 (y37 + 1)), (IntKind.wrap .i64 (y38 + 1)))) else (some y37)
def m_laws_heldIntS (N : Nat) (a0 : List Int) (a1 : Int) : Option Int :=
  m_laws_heldIntS_l1 N N (a0, a1, 0)

/-! ### laws.heldNodeS -/
def m_laws_heldNodeS_l1 (N : Nat) : Nat → ((List SNode) × Int × Int) → Option Int
  | 0, _ => none
  | n1 + 1, (a0, y229, y230) => bif (decide (y230 < (a0.length : Int))) then Option.bind (ix a0 y230) fun e320 => bif (e320.Kind != y229) then some (-1) else (Option.bind (ix a0 y230) fun e324 => bif (e324.Op != (IntKind.wrap .i64 (y229 + 1))) then some (-1) else (Option.bind (ix a0 y230) fun e331 => Option.bind (m_laws_markText N (IntKind.wrap .i64 ((IntKind.wrap .i64 (y229 + 1)) + 1))) fun r332 => bif (!(e331.Text == r332)) then some (-1) else (Option.bind (ix a0 y230) fun e339 => Option.bind (m_laws_markText N (IntKind.wrap .i64 ((IntKind.wrap .i64 ((IntKind.wrap .i64 (y229 + 1)) + 1)) + 1))) fun r340 => bif (!(e339.Other == r340)) then some (-1) else (Option.bind (ix a0 y230) fun e343 => Option.bind (m_laws_heldIntS N e343.Kids (IntKind.wrap .i64 ((IntKind.wrap .i64 ((IntKind.wrap .i64 ((IntKind.wrap .i64 (y229 + 1)) + 1)) + 1)) + 1))) fun r344 => bif (decide (r344 < 0)) then some (-1) else ((m_laws_heldNodeS_l1 N n1) (a0, r344, (IntKind.wrap .i64 (y230 + 1)))))))) else (some y229)
def m_laws_heldNodeS (N : Nat) (a0 : List SNode) (a1 : Int) : Option Int :=
  m_laws_heldNodeS_l1 N N (a0, a1, 0)

/-! ### laws.FnExactReadTree -/
def m_laws_FnExactReadTree (N : Nat) (a0 : List UInt8) : Option Bool :=
  bif (decide ((a0.length : Int) > 1048576)) then some true else (Option.bind (m_spec_ReadTree N a0) fun r2 => Option.bind (m_impl_ReadTree N a0) fun r4 => Option.bind (Option.bind (m_laws_eqNodeS N r4.1 r2.1) fun r10 => bif (!r10) then some true else (some (!(r4.2 == r2.2)))) fun y9 => bif y9 then some false else (Option.bind (m_laws_markNodeS N 1 r4.1) fun r12 => Option.bind (m_laws_heldNodeS N r12.2 1) fun r14 => bif (decide (r14 < 0)) then some false else (bif (r14 != r12.1) then some false else (Option.bind (m_impl_ReadTree N a0) fun r16 => Option.bind (Option.bind (m_laws_eqNodeS N r16.1 r2.1) fun r22 => bif (!r22) then some true else (some (!(r16.2 == r2.2)))) fun y21 => bif y21 then some false else (Option.bind (m_laws_heldNodeS N r12.2 1) fun r24 => bif (decide (r24 < 0)) then some false else (bif (r24 != r12.1) then some false else (some true)))))))

end Go.Proofs.Tryz

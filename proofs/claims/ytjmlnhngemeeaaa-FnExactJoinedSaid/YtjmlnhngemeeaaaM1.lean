/-
  Models of the functions that this seat reaches.
-/
import Derived.Test.YtjmlnhngemeeaaaTab
import Derived.Test.YtjmlnhngemeeaaaCore37
namespace Go.Proofs.Try
open Go.Av
set_option maxRecDepth 100000

abbrev GG : Nat → Option (List V) := fun _ => none
theorem mix : Try.prog.follows .mixedOrders = true := by kernel_rfl

structure SNode where
  Kind : Int
  Op : Int
  Text : List UInt8
  Other : List UInt8
  Kids : List Int
  deriving DecidableEq, Inhabited

def encSNode (b : Bool) (x : SNode) : List V := [V.int x.Kind, V.int x.Op, V.str x.Text, V.str x.Other, .sl false b (x.Kids.map encI)]

theorem share_encSNode (b : Bool) (x : SNode) : V.shareL (encSNode b x) = encSNode false x := by
  simp only [encSNode, V.shareL, V.share, V.int, V.str, V.bool, shareR_map (enc := encI) (enc' := encI) (fun _ => rfl)]

structure SDNode where
  Kind : Int
  N : Int
  Text : List UInt8
  Kids : List Int
  deriving DecidableEq, Inhabited

def encSDNode (b : Bool) (x : SDNode) : List V := [V.int x.Kind, V.int x.N, V.str x.Text, .sl false b (x.Kids.map encI)]

theorem share_encSDNode (b : Bool) (x : SDNode) : V.shareL (encSDNode b x) = encSDNode false x := by
  simp only [encSDNode, V.shareL, V.share, V.int, V.str, V.bool, shareR_map (enc := encI) (enc' := encI) (fun _ => rfl)]

structure SDoc where
  kind : Int
  n : Int
  text : List UInt8
  kids : List SDoc
  group : Int

instance : Inhabited SDoc := ⟨⟨0, 0, [], [], 0⟩⟩

theorem SDoc.lt (x : SDoc) (y : SDoc) (h : y ∈ x.kids) : SizeOf.sizeOf y < SizeOf.sizeOf x := by
  have := List.sizeOf_lt_of_mem h
  cases x
  simp only [SDoc.mk.sizeOf_spec] at *
  omega

def encSDoc (x : SDoc) : List V := [V.int x.kind, V.int x.n, V.str x.text, .sl false false (x.kids.attach.map fun y => encSDoc y.1), V.int x.group]
termination_by SizeOf.sizeOf x
decreasing_by exact SDoc.lt x y.1 y.2

theorem encSDoc_eq (x : SDoc) : encSDoc x = [V.int x.kind, V.int x.n, V.str x.text, .sl false false (x.kids.map encSDoc), V.int x.group] := by
  rw [encSDoc]
  simp only [List.attach_map_val (f := encSDoc), List.map_attach_eq_pmap, List.pmap_eq_map]

theorem share_encSDoc (x : SDoc) : V.shareL (encSDoc x) = encSDoc x := by
  rw [encSDoc_eq]
  simp only [V.shareL, V.share, V.shareR_eq, V.int, V.str, V.bool, List.map_map]
  congr 5
  refine List.map_congr_left fun y hy => ?_
  exact share_encSDoc y
termination_by SizeOf.sizeOf x
decreasing_by exact SDoc.lt x y hy

/-! ### laws.szIntS -/
def m_laws_szIntS (a0 : List Int) (a1 : Int) : Option Int :=
  bif (decide ((IntKind.wrap .i64 (a1 - (a0.length : Int))) < 0)) then some (-1) else (some (IntKind.wrap .i64 (a1 - (a0.length : Int))))

/-! ### laws.szNode -/
def m_laws_szNode (a0 : SNode) (a1 : Int) : Option Int :=
  bif (decide ((IntKind.wrap .i64 (a1 - (a0.Text.length : Int))) < 0)) then some (-1) else (bif (decide ((IntKind.wrap .i64 ((IntKind.wrap .i64 (a1 - (a0.Text.length : Int))) - (a0.Other.length : Int))) < 0)) then some (-1) else (Option.bind (m_laws_szIntS a0.Kids (IntKind.wrap .i64 ((IntKind.wrap .i64 (a1 - (a0.Text.length : Int))) - (a0.Other.length : Int)))) fun r2 => bif (decide (r2 < 0)) then some (-1) else (some r2)))

/-! ### laws.toIntS -/
def m_laws_toIntS_l1 (N : Nat) : Nat → ((List Int) × Int × (List Int)) → Option (List Int)
  | 0, _ => none
  | n1 + 1, (a0, y55, y56) => bif (decide (y55 < (a0.length : Int))) then Option.bind (ix a0 y55) fun e80 => Option.bind (ix y56 y55) fun e81 => Option.bind (upd y56 y55 e80) fun x82 => (m_laws_toIntS_l1 N n1) (a0, (IntKind.wrap .i64 (y55 + 1)), x82) else (some y56)
def m_laws_toIntS (N : Nat) (a0 : List Int) : Option (List Int) :=
  Option.bind (mk 8 0 (a0.length : Int)) fun x2 => m_laws_toIntS_l1 N N (a0, 0, x2)

/-! ### laws.toNode -/
def m_laws_toNode (N : Nat) (a0 : SNode) : Option SNode :=
  Option.bind (m_laws_toIntS N a0.Kids) fun r2 => some (⟨a0.Kind, a0.Op, a0.Text, a0.Other, r2⟩ : SNode)

/-! ### spec.Leaves -/
def m_spec_Leaves_k1 : Bool → Option Bool
  | y2 => bif y2 then some true else (some false)
def m_spec_Leaves (a0 : SNode) : Option Bool :=
  bif (a0.Kind == 22) then m_spec_Leaves_k1 (a0.Kind == 22) else (bif (a0.Kind == 23) then m_spec_Leaves_k1 (a0.Kind == 23) else (bif (a0.Kind == 24) then m_spec_Leaves_k1 (a0.Kind == 24) else (bif (a0.Kind == 25) then m_spec_Leaves_k1 (a0.Kind == 25) else (m_spec_Leaves_k1 (a0.Kind == 26)))))

/-! ### impl.Leaves -/
def m_impl_Leaves_k1 : Bool → Option Bool
  | y2 => bif y2 then some true else (some false)
def m_impl_Leaves (a0 : SNode) : Option Bool :=
  bif (a0.Kind == 22) then m_impl_Leaves_k1 (a0.Kind == 22) else (bif (a0.Kind == 23) then m_impl_Leaves_k1 (a0.Kind == 23) else (bif (a0.Kind == 24) then m_impl_Leaves_k1 (a0.Kind == 24) else (bif (a0.Kind == 25) then m_impl_Leaves_k1 (a0.Kind == 25) else (m_impl_Leaves_k1 (a0.Kind == 26)))))

/-! ### laws.eqIntS -/
def m_laws_eqIntS_l1 (N : Nat) : Nat → ((List Int) × (List Int) × Int) → Option Bool
  | 0, _ => none
  | n1 + 1, (a0, a1, y35) => bif (decide (y35 < (a0.length : Int))) then Option.bind (ix a0 y35) fun e51 => Option.bind (ix a1 y35) fun e52 => bif (e51 != e52) then some false else ((m_laws_eqIntS_l1 N n1) (a0, a1, (IntKind.wrap .i64 (y35 + 1)))) else (some true)
def m_laws_eqIntS (N : Nat) (a0 : List Int) (a1 : List Int) : Option Bool :=
  bif ((a0.length : Int) != (a1.length : Int)) then some false else (m_laws_eqIntS_l1 N N (a0, a1, 0))

/-! ### laws.eqNode -/
def m_laws_eqNode (N : Nat) (a0 : SNode) (a1 : SNode) : Option Bool :=
  bif (a0.Kind != a1.Kind) then some false else (bif (a0.Op != a1.Op) then some false else (bif (!(a0.Text == a1.Text)) then some false else (bif (!(a0.Other == a1.Other)) then some false else (Option.bind (m_laws_eqIntS N a0.Kids a1.Kids) fun r4 => bif (!r4) then some false else (some true)))))

/-! ### laws.FnExactLeaves -/
def m_laws_FnExactLeaves (N : Nat) (a0 : SNode) : Option Bool :=
  Option.bind (m_laws_szNode a0 1048576) fun r2 => bif (decide (r2 < 0)) then some true else (Option.bind (m_laws_toNode N a0) fun r5 => Option.bind (m_spec_Leaves r5) fun r6 => Option.bind (m_laws_toNode N a0) fun r8 => Option.bind (m_impl_Leaves r8) fun r10 => bif (!(r10 == r6)) then some false else (Option.bind (m_laws_toNode N a0) fun r17 => Option.bind (m_laws_eqNode N r8 r17) fun r18 => bif (!r18) then some false else (some true)))

/-! ### laws.szNodeS -/
def m_laws_szNodeS_l1 (N : Nat) : Nat → ((List SNode) × Int × Int) → Option Int
  | 0, _ => none
  | n1 + 1, (a0, y37, y38) => bif (decide (y38 < (a0.length : Int))) then Option.bind (ix a0 y38) fun e55 => Option.bind (m_laws_szNode e55 y37) fun r56 => bif (decide (r56 < 0)) then some (-1) else ((m_laws_szNodeS_l1 N n1) (a0, r56, (IntKind.wrap .i64 (y38 + 1)))) else (some y37)
def m_laws_szNodeS (N : Nat) (a0 : List SNode) (a1 : Int) : Option Int :=
  bif (decide ((IntKind.wrap .i64 (a1 - (a0.length : Int))) < 0)) then some (-1) else (m_laws_szNodeS_l1 N N (a0, (IntKind.wrap .i64 (a1 - (a0.length : Int))), 0))

/-! ### laws.toNodeS -/
def m_laws_toNodeS_l1 (N : Nat) : Nat → ((List SNode) × Int × (List SNode)) → Option (List SNode)
  | 0, _ => none
  | n1 + 1, (a0, y71, y72) => bif (decide (y71 < (a0.length : Int))) then Option.bind (ix a0 y71) fun e103 => Option.bind (m_laws_toNode N e103) fun r104 => Option.bind (ix y72 y71) fun e105 => Option.bind (upd y72 y71 r104) fun x106 => (m_laws_toNodeS_l1 N n1) (a0, (IntKind.wrap .i64 (y71 + 1)), x106) else (some y72)
def m_laws_toNodeS (N : Nat) (a0 : List SNode) : Option (List SNode) :=
  Option.bind (mk 72 (⟨0, 0, [], [], []⟩ : SNode) (a0.length : Int)) fun x2 => m_laws_toNodeS_l1 N N (a0, 0, x2)

/-! ### spec.Nots -/
def m_spec_Nots_k2 (N : Nat) (kb1 : ((List SNode) × Int × Int) → Option Int) : ((List SNode) × Int × Int) → Option Int
  | (a0, y50, y69) => kb1 (a0, y69, (IntKind.wrap .i64 (y50 + 1)))
def m_spec_Nots_l1 (N : Nat) : Nat → ((List SNode) × Int × Int) → Option Int
  | 0, _ => none
  | n1 + 1, (a0, y49, y50) => bif (decide (y50 < (a0.length : Int))) then Option.bind (Option.bind (ix a0 y50) fun e73 => bif (e73.Kind == 11) then Option.bind (ix a0 y50) fun e74 => some (e74.Op == 61) else (some false)) fun y72 => bif y72 then m_spec_Nots_k2 N (m_spec_Nots_l1 N n1) (a0, y50, (IntKind.wrap .i64 (y49 + 1))) else (m_spec_Nots_k2 N (m_spec_Nots_l1 N n1) (a0, y50, y49)) else (some y49)
def m_spec_Nots (N : Nat) (a0 : List SNode) : Option Int :=
  m_spec_Nots_l1 N N (a0, 0, 0)

/-! ### impl.Nots -/
def m_impl_Nots_k2 (N : Nat) (kb1 : ((List SNode) × Int × Int) → Option Int) : ((List SNode) × Int × Int) → Option Int
  | (a0, y34, y47) => kb1 (a0, y47, (IntKind.wrap .i64 (y34 + 1)))
def m_impl_Nots_l1 (N : Nat) : Nat → ((List SNode) × Int × Int) → Option Int
  | 0, _ => none
  | n1 + 1, (a0, y33, y34) => bif (decide (y34 < (a0.length : Int))) then Option.bind (ix a0 y34) fun e49 => Option.bind (bif (e49.Kind == 11) then some (e49.Op == 61) else (some false)) fun y50 => bif y50 then m_impl_Nots_k2 N (m_impl_Nots_l1 N n1) (a0, y34, (IntKind.wrap .i64 (y33 + 1))) else (m_impl_Nots_k2 N (m_impl_Nots_l1 N n1) (a0, y34, y33)) else (some y33)
def m_impl_Nots (N : Nat) (a0 : List SNode) : Option Int :=
  m_impl_Nots_l1 N N (a0, 0, 0)

/-! ### laws.eqNodeS -/
def m_laws_eqNodeS_l1 (N : Nat) : Nat → ((List SNode) × (List SNode) × Int) → Option Bool
  | 0, _ => none
  | n1 + 1, (a0, a1, y51) => bif (decide (y51 < (a0.length : Int))) then Option.bind (ix a0 y51) fun e74 => Option.bind (ix a1 y51) fun e75 => Option.bind (m_laws_eqNode N e74 e75) fun r76 => bif (!r76) then some false else ((m_laws_eqNodeS_l1 N n1) (a0, a1, (IntKind.wrap .i64 (y51 + 1)))) else (some true)
def m_laws_eqNodeS (N : Nat) (a0 : List SNode) (a1 : List SNode) : Option Bool :=
  bif ((a0.length : Int) != (a1.length : Int)) then some false else (m_laws_eqNodeS_l1 N N (a0, a1, 0))

/-! ### laws.FnExactNots -/
def m_laws_FnExactNots (N : Nat) (a0 : List SNode) : Option Bool :=
  Option.bind (m_laws_szNodeS N a0 1048576) fun r2 => bif (decide (r2 < 0)) then some true else (Option.bind (m_laws_toNodeS N a0) fun r5 => Option.bind (m_spec_Nots N r5) fun r6 => Option.bind (m_laws_toNodeS N a0) fun r8 => Option.bind (m_impl_Nots N r8) fun r10 => bif (r10 != r6) then some false else (Option.bind (m_laws_toNodeS N a0) fun r17 => Option.bind (m_laws_eqNodeS N r8 r17) fun r18 => bif (!r18) then some false else (some true)))

/-! ### spec.l1In -/
def m_spec_l1In (a0 : Int) (a1 : Int) (a2 : Int) : Option Bool :=
  Option.bind (bif (decide (a0 ≥ a1)) then some (decide (a0 ≤ a2)) else (some false)) fun y1 => some y1

/-! ### spec.LineCol -/
def m_spec_LineCol_k2 (N : Nat) (kb1 : ((List UInt8) × Int × Int × Int × Int) → Option (Int × Int)) : ((List UInt8) × Int × Int × Int × Int) → Option (Int × Int)
  | (a0, a1, y37, y49, y50) => kb1 (a0, a1, y49, y50, (IntKind.wrap .i64 (y37 + 1)))
def m_spec_LineCol_l1 (N : Nat) : Nat → ((List UInt8) × Int × Int × Int × Int) → Option (Int × Int)
  | 0, _ => none
  | n1 + 1, (a0, a1, y35, y36, y37) => bif (decide (y37 < a1)) then Option.bind (ix a0 y37) fun b52 => bif (((b52).toNat : Int) == 10) then m_spec_LineCol_k2 N (m_spec_LineCol_l1 N n1) (a0, a1, y37, (IntKind.wrap .i64 (y35 + 1)), (IntKind.wrap .i64 (y37 + 1))) else (m_spec_LineCol_k2 N (m_spec_LineCol_l1 N n1) (a0, a1, y37, y35, y36)) else (some (y35, (IntKind.wrap .i64 ((IntKind.wrap .i64 (a1 - y36)) + 1))))
def m_spec_LineCol (N : Nat) (a0 : List UInt8) (a1 : Int) : Option (Int × Int) :=
  Option.bind (m_spec_l1In a1 0 (a0.length : Int)) fun r4 => bif (!r4) then some (0, 0) else (m_spec_LineCol_l1 N N (a0, a1, 1, 0, 0))

/-! ### impl.within -/
def m_impl_within (a0 : Int) (a1 : Int) (a2 : Int) : Option Bool :=
  Option.bind (bif (decide (a0 ≥ a1)) then some (decide (a0 ≤ a2)) else (some false)) fun y1 => some y1

/-! ### strings.Count -/
def m_strings_Count (a0 : List UInt8) : Option Int :=
  Option.bind (ix ([10] : List UInt8) 0) fun b4 => some ((Go.Lib.countByte a0 (Int.toNat ((b4).toNat : Int)).toUInt8) : Int)

/-! ### bytealg.LastIndexByteString -/
def m_bytealg_LastIndexByteString_l1 (N : Nat) : Nat → ((List UInt8) × Int × Int) → Option Int
  | 0, _ => none
  | n1 + 1, (a0, a1, y19) => bif (decide (y19 ≥ 0)) then Option.bind (ix a0 y19) fun b28 => bif (((b28).toNat : Int) == a1) then some y19 else ((m_bytealg_LastIndexByteString_l1 N n1) (a0, a1, (IntKind.wrap .i64 (y19 - 1)))) else (some (-1))
def m_bytealg_LastIndexByteString (N : Nat) (a0 : List UInt8) (a1 : Int) : Option Int :=
  m_bytealg_LastIndexByteString_l1 N N (a0, a1, (IntKind.wrap .i64 ((a0.length : Int) - 1)))

/-! ### strings.LastIndexByte -/
def m_strings_LastIndexByte (N : Nat) (a0 : List UInt8) (a1 : Int) : Option Int :=
  Option.bind (m_bytealg_LastIndexByteString N a0 a1) fun r2 => some r2

/-! ### impl.LineCol -/
def m_impl_LineCol (N : Nat) (a0 : List UInt8) (a1 : Int) : Option (Int × Int) :=
  Option.bind (m_impl_within a1 0 (a0.length : Int)) fun r4 => bif (!r4) then some (0, 0) else (Option.bind (cut a0 0 a1) fun s9 => Option.bind (m_strings_Count s9) fun r10 => Option.bind (cut a0 0 a1) fun s11 => Option.bind (m_strings_LastIndexByte N s11 10) fun r12 => some ((IntKind.wrap .i64 (r10 + 1)), (IntKind.wrap .i64 (a1 - r12))))

/-! ### laws.FnExactLineCol -/
def m_laws_FnExactLineCol (N : Nat) (a0 : List UInt8) (a1 : Int) : Option Bool :=
  bif (decide ((a0.length : Int) > 1048576)) then some true else (Option.bind (m_spec_LineCol N a0 a1) fun r2 => Option.bind (m_impl_LineCol N a0 a1) fun r4 => Option.bind (bif (r4.1 != r2.1) then some true else (some (r4.2 != r2.2))) fun y6 => bif y6 then some false else (some true))

/-! ### laws.szDNode -/
def m_laws_szDNode (a0 : SDNode) (a1 : Int) : Option Int :=
  bif (decide ((IntKind.wrap .i64 (a1 - (a0.Text.length : Int))) < 0)) then some (-1) else (Option.bind (m_laws_szIntS a0.Kids (IntKind.wrap .i64 (a1 - (a0.Text.length : Int)))) fun r2 => bif (decide (r2 < 0)) then some (-1) else (some r2))

/-! ### laws.szDNodeS -/
def m_laws_szDNodeS_l1 (N : Nat) : Nat → ((List SDNode) × Int × Int) → Option Int
  | 0, _ => none
  | n1 + 1, (a0, y37, y38) => bif (decide (y38 < (a0.length : Int))) then Option.bind (ix a0 y38) fun e55 => Option.bind (m_laws_szDNode e55 y37) fun r56 => bif (decide (r56 < 0)) then some (-1) else ((m_laws_szDNodeS_l1 N n1) (a0, r56, (IntKind.wrap .i64 (y38 + 1)))) else (some y37)
def m_laws_szDNodeS (N : Nat) (a0 : List SDNode) (a1 : Int) : Option Int :=
  bif (decide ((IntKind.wrap .i64 (a1 - (a0.length : Int))) < 0)) then some (-1) else (m_laws_szDNodeS_l1 N N (a0, (IntKind.wrap .i64 (a1 - (a0.length : Int))), 0))

/-! ### laws.toDNode -/
def m_laws_toDNode (N : Nat) (a0 : SDNode) : Option SDNode :=
  Option.bind (m_laws_toIntS N a0.Kids) fun r2 => some (⟨a0.Kind, a0.N, a0.Text, r2⟩ : SDNode)

/-! ### laws.toDNodeS -/
def m_laws_toDNodeS_l1 (N : Nat) : Nat → ((List SDNode) × Int × (List SDNode)) → Option (List SDNode)
  | 0, _ => none
  | n1 + 1, (a0, y71, y72) => bif (decide (y71 < (a0.length : Int))) then Option.bind (ix a0 y71) fun e103 => Option.bind (m_laws_toDNode N e103) fun r104 => Option.bind (ix y72 y71) fun e105 => Option.bind (upd y72 y71 r104) fun x106 => (m_laws_toDNodeS_l1 N n1) (a0, (IntKind.wrap .i64 (y71 + 1)), x106) else (some y72)
def m_laws_toDNodeS (N : Nat) (a0 : List SDNode) : Option (List SDNode) :=
  Option.bind (mk 56 (⟨0, 0, [], []⟩ : SDNode) (a0.length : Int)) fun x2 => m_laws_toDNodeS_l1 N N (a0, 0, x2)

/-! ### spec.l4Plain -/
def m_spec_l4Plain_l1 (N : Nat) : Nat → ((List UInt8) × Int) → Option Bool
  | 0, _ => none
  | n1 + 1, (a0, y19) => bif (decide (y19 < (a0.length : Int))) then Option.bind (ix a0 y19) fun b28 => bif (((b28).toNat : Int) == 10) then some false else ((m_spec_l4Plain_l1 N n1) (a0, (IntKind.wrap .i64 (y19 + 1)))) else (some true)
def m_spec_l4Plain (N : Nat) (a0 : List UInt8) : Option Bool :=
  m_spec_l4Plain_l1 N N (a0, 0)

/-! ### spec.l15Node -/
def m_spec_l15Node_k1 (N : Nat) : (SDNode × Bool) → Option Bool
  | (a0, y13) => bif y13 then some ((a0.Kids.length : Int) == 0) else (bif (a0.Kind == 4) then Option.bind (Option.bind (m_spec_l1In a0.N 0 40) fun r16 => bif r16 then some ((a0.Kids.length : Int) == 1) else (some false)) fun y15 => some y15 else (bif (a0.Kind == 5) then some ((a0.Kids.length : Int) == 1) else (some (a0.Kind == 6))))
def m_spec_l15Node (N : Nat) (a0 : SDNode) : Option Bool :=
  Option.bind (bif (a0.Kind != 1) then bif (!(a0.Text == [])) then some true else (bif (a0.Kind != 4) then some (a0.N != 0) else (some false)) else (bif (a0.Kind != 4) then some (a0.N != 0) else (some false))) fun y2 => bif y2 then some false else (bif (a0.Kind == 1) then Option.bind (Option.bind (m_spec_l4Plain N a0.Text) fun r12 => bif r12 then some ((a0.Kids.length : Int) == 0) else (some false)) fun y11 => some y11 else (bif (a0.Kind == 2) then m_spec_l15Node_k1 N (a0, (a0.Kind == 2)) else (m_spec_l15Node_k1 N (a0, (a0.Kind == 3)))))

/-! ### spec.l15Starts -/
def m_spec_l15Starts_l2 (N : Nat) (kb1 : ((List SDNode) × Int × (List Int)) → Option ((List Int) × Bool)) : Nat → ((List SDNode) × Int × (List Int) × Int × Int) → Option ((List Int) × Bool)
  | 0, _ => none
  | n2 + 1, (a0, y917, y918, y1499, y1500) => bif (decide (y1500 ≥ 0)) then Option.bind (Option.bind (ix a0 y917) fun e1547 => Option.bind (ix e1547.Kids y1500) fun e1548 => bif (e1548 != (IntKind.wrap .i64 (y1499 - 1))) then some true else (some (y1499 == 0))) fun y1546 => bif y1546 then some ([], false) else (Option.bind (ix y918 (IntKind.wrap .i64 (y1499 - 1))) fun e1550 => (m_spec_l15Starts_l2 N kb1 n2) (a0, y917, y918, e1550, (IntKind.wrap .i64 (y1500 - 1)))) else (Option.bind (app 8 y918 [y1499]) fun x1552 => kb1 (a0, (IntKind.wrap .i64 (y917 + 1)), x1552))
def m_spec_l15Starts_l1 (N : Nat) : Nat → ((List SDNode) × Int × (List Int)) → Option ((List Int) × Bool)
  | 0, _ => none
  | n1 + 1, (a0, y917, y918) => bif (decide (y917 < (a0.length : Int))) then Option.bind (ix a0 y917) fun e1474 => m_spec_l15Starts_l2 N (m_spec_l15Starts_l1 N n1) N (a0, y917, y918, y917, (IntKind.wrap .i64 ((e1474.Kids.length : Int) - 1))) else (some (y918, true))
def m_spec_l15Starts (N : Nat) (a0 : List SDNode) : Option ((List Int) × Bool) :=
  m_spec_l15Starts_l1 N N (a0, 0, [])

/-! ### spec.DocOk -/
def m_spec_DocOk_l1 (N : Nat) : Nat → ((List SDNode) × Int) → Option Bool
  | 0, _ => none
  | n1 + 1, (a0, y39) => bif (decide (y39 < (a0.length : Int))) then Option.bind (ix a0 y39) fun e55 => Option.bind (m_spec_l15Node N e55) fun r56 => bif (!r56) then some false else ((m_spec_DocOk_l1 N n1) (a0, (IntKind.wrap .i64 (y39 + 1)))) else (Option.bind (m_spec_l15Starts N a0) fun r58 => Option.bind (bif r58.2 then Option.bind (ix r58.1 (IntKind.wrap .i64 ((a0.length : Int) - 1))) fun e61 => some (e61 == 0) else (some false)) fun y60 => some y60)
def m_spec_DocOk (N : Nat) (a0 : List SDNode) : Option Bool :=
  Option.bind (m_spec_l1In (a0.length : Int) 1 4000) fun r4 => bif (!r4) then some false else (m_spec_DocOk_l1 N N (a0, 0))

/-! ### spec.l15Shift -/
def m_spec_l15Shift_l2 (N : Nat) (kb1 : ((List SDNode) × Int × Int × (List SDNode)) → Option (List SDNode)) : Nat → ((List SDNode) × Int × Int × (List SDNode) × SDNode × Int × (List Int)) → Option (List SDNode)
  | 0, _ => none
  | n2 + 1, (a0, a1, y869, y870, e1198, y1267, y1268) => Option.bind (ix a0 y869) fun e1290 => bif (decide (y1267 < (e1290.Kids.length : Int))) then Option.bind (ix a0 y869) fun e1300 => Option.bind (ix e1300.Kids y1267) fun e1301 => Option.bind (app 8 y1268 [(IntKind.wrap .i64 (e1301 + a1))]) fun x1302 => (m_spec_l15Shift_l2 N kb1 n2) (a0, a1, y869, y870, e1198, (IntKind.wrap .i64 (y1267 + 1)), x1302) else (Option.bind (app 56 y870 [(⟨e1198.Kind, e1198.N, e1198.Text, y1268⟩ : SDNode)]) fun x1304 => kb1 (a0, a1, (IntKind.wrap .i64 (y869 + 1)), x1304))
def m_spec_l15Shift_l1 (N : Nat) : Nat → ((List SDNode) × Int × Int × (List SDNode)) → Option (List SDNode)
  | 0, _ => none
  | n1 + 1, (a0, a1, y869, y870) => bif (decide (y869 < (a0.length : Int))) then Option.bind (ix a0 y869) fun e1198 => m_spec_l15Shift_l2 N (m_spec_l15Shift_l1 N n1) N (a0, a1, y869, y870, e1198, 0, []) else (some y870)
def m_spec_l15Shift (N : Nat) (a0 : List SDNode) (a1 : Int) : Option (List SDNode) :=
  m_spec_l15Shift_l1 N N (a0, a1, 0, [])

/-! ### spec.Softened -/
def m_spec_Softened_k2 (N : Nat) (kb1 : (Int × (List SDNode)) → Option (List SDNode)) : (Int × (List SDNode)) → Option (List SDNode)
  | (y63, y86) => kb1 ((IntKind.wrap .i64 (y63 + 1)), y86)
def m_spec_Softened_l1 (N : Nat) : Nat → (Int × (List SDNode)) → Option (List SDNode)
  | 0, _ => none
  | n1 + 1, (y63, y64) => bif (decide (y63 < (y64.length : Int))) then Option.bind (ix y64 y63) fun e88 => bif (e88.Kind == 3) then Option.bind (ix y64 y63) fun e91 => Option.bind (upd y64 y63 (⟨2, e91.N, e91.Text, e91.Kids⟩ : SDNode)) fun x92 => m_spec_Softened_k2 N (m_spec_Softened_l1 N n1) (y63, x92) else (m_spec_Softened_k2 N (m_spec_Softened_l1 N n1) (y63, y64)) else (some y64)
def m_spec_Softened (N : Nat) (a0 : List SDNode) : Option (List SDNode) :=
  Option.bind (m_spec_DocOk N a0) fun r4 => bif (!r4) then some [] else (Option.bind (m_spec_l15Shift N a0 0) fun r6 => m_spec_Softened_l1 N N (0, r6))

/-! ### stringslite.IndexByte -/
def m_stringslite_IndexByte (a0 : List UInt8) (a1 : Int) : Option Int :=
  some (Go.Lib.indexByte a0 (Int.toNat a1).toUInt8)

/-! ### stringslite.Index -/
def m_stringslite_Index (a0 : List UInt8) : Option Int :=
  bif (([10] : List UInt8) == a0) then some 0 else (Option.bind (ix ([10] : List UInt8) 0) fun b7 => Option.bind (m_stringslite_IndexByte a0 ((b7).toNat : Int)) fun r8 => some r8)

/-! ### strings.Index -/
def m_strings_Index (a0 : List UInt8) : Option Int :=
  Option.bind (m_stringslite_Index a0) fun r2 => some r2

/-! ### strings.Contains -/
def m_strings_Contains (a0 : List UInt8) : Option Bool :=
  Option.bind (m_strings_Index a0) fun r2 => some (decide (r2 ≥ 0))

/-! ### impl.docNodeOk -/
def m_impl_docNodeOk_k1 : (SDNode × Bool) → Option Bool
  | (a0, y13) => bif y13 then some ((a0.Kids.length : Int) == 0) else (bif (a0.Kind == 4) then Option.bind (Option.bind (m_impl_within a0.N 0 40) fun r16 => bif r16 then some ((a0.Kids.length : Int) == 1) else (some false)) fun y15 => some y15 else (bif (a0.Kind == 5) then some ((a0.Kids.length : Int) == 1) else (bif (a0.Kind == 6) then some true else (some false))))
def m_impl_docNodeOk (a0 : SDNode) : Option Bool :=
  Option.bind (bif (a0.Kind != 4) then bif (a0.N != 0) then some true else (bif (a0.Kind != 1) then some (!(a0.Text == [])) else (some false)) else (bif (a0.Kind != 1) then some (!(a0.Text == [])) else (some false))) fun y2 => bif y2 then some false else (bif (a0.Kind == 1) then Option.bind (Option.bind (m_strings_Contains a0.Text) fun r12 => bif (!r12) then some ((a0.Kids.length : Int) == 0) else (some false)) fun y11 => some y11 else (bif (a0.Kind == 2) then m_impl_docNodeOk_k1 (a0, (a0.Kind == 2)) else (m_impl_docNodeOk_k1 (a0, (a0.Kind == 3)))))

/-! ### impl.docStarts -/
def m_impl_docStarts_l2 (N : Nat) (kb1 : ((List SDNode) × Int × (List Int)) → Option ((List Int) × Bool)) : Nat → ((List SDNode) × Int × (List Int) × SDNode × Int × Int) → Option ((List Int) × Bool)
  | 0, _ => none
  | n2 + 1, (a0, y475, y476, e810, y879, y880) => bif (decide (y880 ≥ 0)) then Option.bind (bif (decide (y879 < 0)) then some true else (Option.bind (ix e810.Kids y880) fun e912 => some (e912 != y879))) fun y911 => bif y911 then some ([], false) else (Option.bind (ix y476 y879) fun e914 => (m_impl_docStarts_l2 N kb1 n2) (a0, y475, y476, e810, (IntKind.wrap .i64 (e914 - 1)), (IntKind.wrap .i64 (y880 - 1)))) else (Option.bind (ix y476 y475) fun e917 => Option.bind (upd y476 y475 (IntKind.wrap .i64 (y879 + 1))) fun x918 => kb1 (a0, (IntKind.wrap .i64 (y475 + 1)), x918))
def m_impl_docStarts_l1 (N : Nat) : Nat → ((List SDNode) × Int × (List Int)) → Option ((List Int) × Bool)
  | 0, _ => none
  | n1 + 1, (a0, y475, y476) => bif (decide (y475 < (a0.length : Int))) then Option.bind (ix a0 y475) fun e810 => m_impl_docStarts_l2 N (m_impl_docStarts_l1 N n1) N (a0, y475, y476, e810, (IntKind.wrap .i64 (y475 - 1)), (IntKind.wrap .i64 ((e810.Kids.length : Int) - 1))) else (Option.bind (ix y476 (IntKind.wrap .i64 ((a0.length : Int) - 1))) fun e920 => some (y476, (e920 == 0)))
def m_impl_docStarts (N : Nat) (a0 : List SDNode) : Option ((List Int) × Bool) :=
  Option.bind (m_impl_within (a0.length : Int) 1 4000) fun r4 => bif (!r4) then some ([], false) else (Option.bind (mk 8 0 (a0.length : Int)) fun x6 => m_impl_docStarts_l1 N N (a0, 0, x6))

/-! ### impl.DocOk -/
def m_impl_DocOk_l1 (N : Nat) : Nat → ((List SDNode) × Int) → Option Bool
  | 0, _ => none
  | n1 + 1, (a0, y35) => bif (decide (y35 < (a0.length : Int))) then Option.bind (ix a0 y35) fun e50 => Option.bind (m_impl_docNodeOk e50) fun r52 => bif (!r52) then some false else ((m_impl_DocOk_l1 N n1) (a0, (IntKind.wrap .i64 (y35 + 1)))) else (Option.bind (m_impl_docStarts N a0) fun r54 => some r54.2)
def m_impl_DocOk (N : Nat) (a0 : List SDNode) : Option Bool :=
  m_impl_DocOk_l1 N N (a0, 0)

/-! ### impl.copyDoc -/
def m_impl_copyDoc_k2 (N : Nat) (kb1 : (Int × Int × (List SDNode) × Int × (List SDNode)) → Option (List SDNode)) : (Int × Int × (List SDNode) × Int × (List SDNode) × SDNode × Int) → Option (List SDNode)
  | (a1, a2, a0, y61, y62, e87, y88) => Option.bind (app 8 [] e87.Kids) fun x90 => Option.bind (app 56 y62 [(⟨y88, e87.N, e87.Text, x90⟩ : SDNode)]) fun x92 => kb1 (a1, a2, a0, (IntKind.wrap .i64 (y61 + 1)), x92)
def m_impl_copyDoc_l1 (N : Nat) : Nat → (Int × Int × (List SDNode) × Int × (List SDNode)) → Option (List SDNode)
  | 0, _ => none
  | n1 + 1, (a1, a2, a0, y61, y62) => bif (decide (y61 < (a0.length : Int))) then Option.bind (ix a0 y61) fun e87 => bif (e87.Kind == a1) then m_impl_copyDoc_k2 N (m_impl_copyDoc_l1 N n1) (a1, a2, a0, y61, y62, e87, a2) else (m_impl_copyDoc_k2 N (m_impl_copyDoc_l1 N n1) (a1, a2, a0, y61, y62, e87, e87.Kind)) else (some y62)
def m_impl_copyDoc (N : Nat) (a0 : List SDNode) (a1 : Int) (a2 : Int) : Option (List SDNode) :=
  m_impl_copyDoc_l1 N N (a1, a2, a0, 0, [])

/-! ### impl.Softened -/
def m_impl_Softened (N : Nat) (a0 : List SDNode) : Option (List SDNode) :=
  Option.bind (m_impl_DocOk N a0) fun r4 => bif (!r4) then some [] else (Option.bind (m_impl_copyDoc N a0 3 2) fun r6 => some r6)

/-! ### laws.eqDNode -/
def m_laws_eqDNode (N : Nat) (a0 : SDNode) (a1 : SDNode) : Option Bool :=
  bif (a0.Kind != a1.Kind) then some false else (bif (a0.N != a1.N) then some false else (bif (!(a0.Text == a1.Text)) then some false else (Option.bind (m_laws_eqIntS N a0.Kids a1.Kids) fun r4 => bif (!r4) then some false else (some true))))

/-! ### laws.eqDNodeS -/
def m_laws_eqDNodeS_l1 (N : Nat) : Nat → ((List SDNode) × (List SDNode) × Int) → Option Bool
  | 0, _ => none
  | n1 + 1, (a0, a1, y51) => bif (decide (y51 < (a0.length : Int))) then Option.bind (ix a0 y51) fun e74 => Option.bind (ix a1 y51) fun e75 => Option.bind (m_laws_eqDNode N e74 e75) fun r76 => bif (!r76) then some false else ((m_laws_eqDNodeS_l1 N n1) (a0, a1, (IntKind.wrap .i64 (y51 + 1)))) else (some true)
def m_laws_eqDNodeS (N : Nat) (a0 : List SDNode) (a1 : List SDNode) : Option Bool :=
  bif ((a0.length : Int) != (a1.length : Int)) then some false else (m_laws_eqDNodeS_l1 N N (a0, a1, 0))

/-! ### laws.markText -/
def m_laws_markText_l1 (N : Nat) : Nat → (Int × (List UInt8)) → Option (List UInt8)
  | 0, _ => none
  | n1 + 1, (y13, y14) => bif (decide (y13 > 0)) then Option.bind (cat [(bytI (IntKind.wrap .i64 (48 + (Int.tmod y13 10))))] y14) fun s20 => (m_laws_markText_l1 N n1) ((IntKind.wrap .i64 (Int.tdiv y13 10)), s20) else (Option.bind (cat ([109] : List UInt8) y14) fun s22 => some s22)
def m_laws_markText (N : Nat) (a0 : Int) : Option (List UInt8) :=
  bif (decide (a0 ≤ 0)) then some [109, 48] else (m_laws_markText_l1 N N (a0, []))

/-! ### laws.markIntS -/
def m_laws_markIntS_l1 (N : Nat) : Nat → (Int × Int × (List Int)) → Option (Int × (List Int))
  | 0, _ => none
  | n1 + 1, (y39, y40, y41) => bif (decide (y40 < (y41.length : Int))) then Option.bind (ix y41 y40) fun e59 => Option.bind (upd y41 y40 y39) fun x60 => (m_laws_markIntS_l1 N n1) ((IntKind.wrap .i64 (y39 + 1)), (IntKind.wrap .i64 (y40 + 1)), x60) else (some (y39, y41))
def m_laws_markIntS (N : Nat) (a1 : Int) (p0 : List Int) : Option (Int × (List Int)) :=
  m_laws_markIntS_l1 N N (a1, 0, p0)

/-! ### laws.markIntS -/
def m_laws_markIntS_v2_l1 (N : Nat) : Nat → Int → Option Int
  | 0, _ => none
  | n1 + 1, a1 => some a1
def m_laws_markIntS_v2 (N : Nat) (a1 : Int) : Option Int :=
  m_laws_markIntS_v2_l1 N N a1

/-! ### laws.markDNodeS -/
def m_laws_markDNodeS_l1 (N : Nat) : Nat → (Int × Int × (List SDNode)) → Option (Int × (List SDNode))
  | 0, _ => none
  | n1 + 1, (y143, y144, y145) => bif (decide (y144 < (y145.length : Int))) then Option.bind (ix y145 y144) fun e202 => Option.bind (upd y145 y144 (⟨y143, e202.N, e202.Text, e202.Kids⟩ : SDNode)) fun x203 => Option.bind (ix x203 y144) fun e206 => Option.bind (upd x203 y144 (⟨e206.Kind, (IntKind.wrap .i64 (y143 + 1)), e206.Text, e206.Kids⟩ : SDNode)) fun x207 => Option.bind (m_laws_markText N (IntKind.wrap .i64 ((IntKind.wrap .i64 (y143 + 1)) + 1))) fun r211 => Option.bind (ix x207 y144) fun e212 => Option.bind (upd x207 y144 (⟨e212.Kind, e212.N, r211, e212.Kids⟩ : SDNode)) fun x213 => Option.bind (ix x213 y144) fun e214 => Option.bind (m_laws_markIntS N (IntKind.wrap .i64 ((IntKind.wrap .i64 ((IntKind.wrap .i64 (y143 + 1)) + 1)) + 1)) e214.Kids) fun r215 => Option.bind (upd x213 y144 (⟨e214.Kind, e214.N, e214.Text, r215.2⟩ : SDNode)) fun x216 => (m_laws_markDNodeS_l1 N n1) (r215.1, (IntKind.wrap .i64 (y144 + 1)), x216) else (some (y143, y145))
def m_laws_markDNodeS (N : Nat) (a1 : Int) (p0 : List SDNode) : Option (Int × (List SDNode)) :=
  m_laws_markDNodeS_l1 N N (a1, 0, p0)

/-! ### laws.heldIntS -/
def m_laws_heldIntS_l1 (N : Nat) : Nat → ((List Int) × Int × Int) → Option Int
  | 0, _ => none
  | n1 + 1, (a0, y37, y38) => bif (decide (y38 < (a0.length : Int))) then Option.bind (ix a0 y38) fun e56 => bif (e56 != y37) then some (-1) else ((m_laws_heldIntS_l1 N n1) (a0, (IntKind.wrap .i64 (y37 + 1)), (IntKind.wrap .i64 (y38 + 1)))) else (some y37)
def m_laws_heldIntS (N : Nat) (a0 : List Int) (a1 : Int) : Option Int :=
  m_laws_heldIntS_l1 N N (a0, a1, 0)

/-! ### laws.heldDNodeS -/
def m_laws_heldDNodeS_l1 (N : Nat) : Nat → ((List SDNode) × Int × Int) → Option Int
  | 0, _ => none
  | n1 + 1, (a0, y165, y166) => bif (decide (y166 < (a0.length : Int))) then Option.bind (ix a0 y166) fun e232 => bif (e232.Kind != y165) then some (-1) else (Option.bind (ix a0 y166) fun e236 => bif (e236.N != (IntKind.wrap .i64 (y165 + 1))) then some (-1) else (Option.bind (ix a0 y166) fun e243 => Option.bind (m_laws_markText N (IntKind.wrap .i64 ((IntKind.wrap .i64 (y165 + 1)) + 1))) fun r244 => bif (!(e243.Text == r244)) then some (-1) else (Option.bind (ix a0 y166) fun e247 => Option.bind (m_laws_heldIntS N e247.Kids (IntKind.wrap .i64 ((IntKind.wrap .i64 ((IntKind.wrap .i64 (y165 + 1)) + 1)) + 1))) fun r248 => bif (decide (r248 < 0)) then some (-1) else ((m_laws_heldDNodeS_l1 N n1) (a0, r248, (IntKind.wrap .i64 (y166 + 1))))))) else (some y165)
def m_laws_heldDNodeS (N : Nat) (a0 : List SDNode) (a1 : Int) : Option Int :=
  m_laws_heldDNodeS_l1 N N (a0, a1, 0)

/-! ### laws.FnExactSoftened -/
def m_laws_FnExactSoftened (N : Nat) (a0 : List SDNode) : Option Bool :=
  Option.bind (m_laws_szDNodeS N a0 1048576) fun r2 => bif (decide (r2 < 0)) then some true else (Option.bind (m_laws_toDNodeS N a0) fun r5 => Option.bind (m_spec_Softened N r5) fun r6 => Option.bind (m_laws_toDNodeS N a0) fun r8 => Option.bind (m_impl_Softened N r8) fun r10 => Option.bind (m_laws_eqDNodeS N r10 r6) fun r14 => bif (!r14) then some false else (Option.bind (m_laws_toDNodeS N a0) fun r21 => Option.bind (m_laws_eqDNodeS N r8 r21) fun r22 => bif (!r22) then some false else (Option.bind (m_laws_markDNodeS N 1 r8) fun r24 => Option.bind (bif (decide (r24.1 < 0)) then some true else (Option.bind (m_laws_eqDNodeS N r10 r6) fun r30 => some (!r30))) fun y29 => bif y29 then some false else (Option.bind (m_laws_markDNodeS N 1 r10) fun r32 => Option.bind (m_laws_heldDNodeS N r32.2 1) fun r34 => bif (decide (r34 < 0)) then some false else (bif (r34 != r32.1) then some false else (Option.bind (m_laws_toDNodeS N a0) fun r37 => Option.bind (m_impl_Softened N r37) fun r38 => Option.bind (m_laws_eqDNodeS N r38 r6) fun r42 => bif (!r42) then some false else (Option.bind (m_laws_heldDNodeS N r32.2 1) fun r44 => bif (decide (r44 < 0)) then some false else (bif (r44 != r32.1) then some false else (some true)))))))))

/-! ### spec.Ungrouped -/
def m_spec_Ungrouped_k2 (N : Nat) (kb1 : (Int × (List SDNode)) → Option (List SDNode)) : (Int × (List SDNode)) → Option (List SDNode)
  | (y63, y86) => kb1 ((IntKind.wrap .i64 (y63 + 1)), y86)
def m_spec_Ungrouped_l1 (N : Nat) : Nat → (Int × (List SDNode)) → Option (List SDNode)
  | 0, _ => none
  | n1 + 1, (y63, y64) => bif (decide (y63 < (y64.length : Int))) then Option.bind (ix y64 y63) fun e88 => bif (e88.Kind == 5) then Option.bind (ix y64 y63) fun e91 => Option.bind (upd y64 y63 (⟨6, e91.N, e91.Text, e91.Kids⟩ : SDNode)) fun x92 => m_spec_Ungrouped_k2 N (m_spec_Ungrouped_l1 N n1) (y63, x92) else (m_spec_Ungrouped_k2 N (m_spec_Ungrouped_l1 N n1) (y63, y64)) else (some y64)
def m_spec_Ungrouped (N : Nat) (a0 : List SDNode) : Option (List SDNode) :=
  Option.bind (m_spec_DocOk N a0) fun r4 => bif (!r4) then some [] else (Option.bind (m_spec_l15Shift N a0 0) fun r6 => m_spec_Ungrouped_l1 N N (0, r6))

/-! ### impl.Ungrouped -/
def m_impl_Ungrouped (N : Nat) (a0 : List SDNode) : Option (List SDNode) :=
  Option.bind (m_impl_DocOk N a0) fun r4 => bif (!r4) then some [] else (Option.bind (m_impl_copyDoc N a0 5 6) fun r6 => some r6)

/-! ### laws.FnExactUngrouped -/
def m_laws_FnExactUngrouped (N : Nat) (a0 : List SDNode) : Option Bool :=
  Option.bind (m_laws_szDNodeS N a0 1048576) fun r2 => bif (decide (r2 < 0)) then some true else (Option.bind (m_laws_toDNodeS N a0) fun r5 => Option.bind (m_spec_Ungrouped N r5) fun r6 => Option.bind (m_laws_toDNodeS N a0) fun r8 => Option.bind (m_impl_Ungrouped N r8) fun r10 => Option.bind (m_laws_eqDNodeS N r10 r6) fun r14 => bif (!r14) then some false else (Option.bind (m_laws_toDNodeS N a0) fun r21 => Option.bind (m_laws_eqDNodeS N r8 r21) fun r22 => bif (!r22) then some false else (Option.bind (m_laws_markDNodeS N 1 r8) fun r24 => Option.bind (bif (decide (r24.1 < 0)) then some true else (Option.bind (m_laws_eqDNodeS N r10 r6) fun r30 => some (!r30))) fun y29 => bif y29 then some false else (Option.bind (m_laws_markDNodeS N 1 r10) fun r32 => Option.bind (m_laws_heldDNodeS N r32.2 1) fun r34 => bif (decide (r34 < 0)) then some false else (bif (r34 != r32.1) then some false else (Option.bind (m_laws_toDNodeS N a0) fun r37 => Option.bind (m_impl_Ungrouped N r37) fun r38 => Option.bind (m_laws_eqDNodeS N r38 r6) fun r42 => bif (!r42) then some false else (Option.bind (m_laws_heldDNodeS N r32.2 1) fun r44 => bif (decide (r44 < 0)) then some false else (bif (r44 != r32.1) then some false else (some true)))))))))

/-! ### spec.l15Over -/
def m_spec_l15Over_l1 (N : Nat) : Nat → ((List (List SDNode)) × Int × Int × Int × (List SDNode) × (List Int)) → Option (List SDNode)
  | 0, _ => none
  | n1 + 1, (a2, a0, a1, y75, y76, y77) => bif (decide (y75 < (a2.length : Int))) then Option.bind (ix a2 y75) fun e108 => Option.bind (m_spec_l15Shift N e108 (y76.length : Int)) fun r109 => Option.bind (app 56 y76 r109) fun x110 => Option.bind (app 8 y77 [(IntKind.wrap .i64 ((x110.length : Int) - 1))]) fun x112 => (m_spec_l15Over_l1 N n1) (a2, a0, a1, (IntKind.wrap .i64 (y75 + 1)), x110, x112) else (Option.bind (app 56 y76 [(⟨a0, a1, [], y77⟩ : SDNode)]) fun x114 => some x114)
def m_spec_l15Over (N : Nat) (a0 : Int) (a1 : Int) (a2 : List (List SDNode)) : Option (List SDNode) :=
  m_spec_l15Over_l1 N N (a2, a0, a1, 0, [], [])

/-! ### spec.Deeper -/
def m_spec_Deeper (N : Nat) (a0 : List SDNode) (a1 : Int) : Option (List SDNode) :=
  Option.bind (Option.bind (m_spec_DocOk N a0) fun r9 => bif (!r9) then some true else (Option.bind (m_spec_l1In a1 0 40) fun r10 => bif (!r10) then some true else (some (decide ((a0.length : Int) ≥ 4000))))) fun y8 => bif y8 then some [] else (Option.bind (m_spec_l15Over N 4 a1 [a0]) fun r12 => some r12)

/-! ### impl.GroupsIn -/
def m_impl_GroupsIn_k2 (N : Nat) (kb1 : ((List SDNode) × Int × Int) → Option Int) : ((List SDNode) × Int × Int) → Option Int
  | (a0, y26, y36) => kb1 (a0, y36, (IntKind.wrap .i64 (y26 + 1)))
def m_impl_GroupsIn_l1 (N : Nat) : Nat → ((List SDNode) × Int × Int) → Option Int
  | 0, _ => none
  | n1 + 1, (a0, y25, y26) => bif (decide (y26 < (a0.length : Int))) then Option.bind (ix a0 y26) fun e38 => bif (e38.Kind == 5) then m_impl_GroupsIn_k2 N (m_impl_GroupsIn_l1 N n1) (a0, y26, (IntKind.wrap .i64 (y25 + 1))) else (m_impl_GroupsIn_k2 N (m_impl_GroupsIn_l1 N n1) (a0, y26, y25)) else (some y25)
def m_impl_GroupsIn (N : Nat) (a0 : List SDNode) : Option Int :=
  m_impl_GroupsIn_l1 N N (a0, 0, 0)

/-! ### a circle of 1 -/
structure Rec1 where
  m_impl_docAt : (List SDNode) → Int → Option SDoc

def m_impl_docAt_l1 (N : Nat) (R : Rec1) : Nat → ((List SDNode) × SDNode × Int × Int × (List SDoc)) → Option SDoc
  | 0, _ => none
  | n1 + 1, (a0, e2, r6, y67, y68) => bif (decide (y67 < (e2.Kids.length : Int))) then Option.bind (ix e2.Kids y67) fun e90 => Option.bind (R.m_impl_docAt a0 e90) fun r93 => Option.bind (app 64 y68 [r93]) fun x94 => (m_impl_docAt_l1 N R n1) (a0, e2, r6, (IntKind.wrap .i64 (y67 + 1)), x94) else (some (⟨e2.Kind, e2.N, e2.Text, y68, r6⟩ : SDoc))
def m_impl_docAt_F (N : Nat) (R : Rec1) (a0 : List SDNode) (a1 : Int) : Option SDoc :=
  Option.bind (ix a0 a1) fun e2 => Option.bind (cut a0 0 a1) fun l5 => Option.bind (m_impl_GroupsIn N l5) fun r6 => m_impl_docAt_l1 N R N (a0, e2, r6, 0, [])
def scc1 : Nat → Rec1
  | 0 => ⟨fun _ _ => none⟩
  | N + 1 => ⟨fun a0 a1 => m_impl_docAt_F N (scc1 N) a0 a1⟩
def m_impl_docAt (N : Nat) (a0 : List SDNode) (a1 : Int) : Option SDoc := (scc1 N).m_impl_docAt a0 a1

/-! ### impl.docOf -/
def m_impl_docOf (N : Nat) (a0 : List SDNode) : Option SDoc :=
  Option.bind (m_impl_docAt N a0 (IntKind.wrap .i64 ((a0.length : Int) - 1))) fun r2 => some r2

/-! ### a circle of 1 -/
structure Rec2 where
  m_impl_doc__add : SDoc → (List SDNode) → Option (List SDNode)

def m_impl_doc__add_l1 (N : Nat) (R : Rec2) : Nat → (SDoc × Int × (List SDNode) × (List Int)) → Option (List SDNode)
  | 0, _ => none
  | n1 + 1, (a0, y59, y60, y61) => bif (decide (y59 < (a0.kids.length : Int))) then Option.bind (ix a0.kids y59) fun e84 => Option.bind (R.m_impl_doc__add e84 y60) fun r86 => Option.bind (app 8 y61 [(IntKind.wrap .i64 ((r86.length : Int) - 1))]) fun x88 => (m_impl_doc__add_l1 N R n1) (a0, (IntKind.wrap .i64 (y59 + 1)), r86, x88) else (Option.bind (app 56 y60 [(⟨a0.kind, a0.n, a0.text, y61⟩ : SDNode)]) fun x90 => some x90)
def m_impl_doc__add_F (N : Nat) (R : Rec2) (a0 : SDoc) (p0 : List SDNode) : Option (List SDNode) :=
  m_impl_doc__add_l1 N R N (a0, 0, p0, [])
def scc2 : Nat → Rec2
  | 0 => ⟨fun _ _ => none⟩
  | N + 1 => ⟨fun a0 p0 => m_impl_doc__add_F N (scc2 N) a0 p0⟩
def m_impl_doc__add (N : Nat) (a0 : SDoc) (p0 : List SDNode) : Option (List SDNode) := (scc2 N).m_impl_doc__add a0 p0

/-! ### impl.doc).list -/
def m_impl_doc__list (N : Nat) (a0 : SDoc) : Option (List SDNode) :=
  Option.bind (m_impl_doc__add N a0 []) fun r2 => some r2

/-! ### impl.Deeper -/
def m_impl_Deeper (N : Nat) (a0 : List SDNode) (a1 : Int) : Option (List SDNode) :=
  Option.bind (Option.bind (m_impl_DocOk N a0) fun r9 => bif (!r9) then some true else (Option.bind (m_impl_within a1 0 40) fun r10 => bif (!r10) then some true else (some (decide ((IntKind.wrap .i64 ((a0.length : Int) + 1)) > 4000))))) fun y8 => bif y8 then some [] else (Option.bind (m_impl_docOf N a0) fun r13 => Option.bind (m_impl_doc__list N (⟨4, a1, [], [r13], 0⟩ : SDoc)) fun r14 => some r14)

/-! ### laws.FnExactDeeper -/
def m_laws_FnExactDeeper (N : Nat) (a0 : List SDNode) (a1 : Int) : Option Bool :=
  Option.bind (m_laws_szDNodeS N a0 1048576) fun r2 => bif (decide (r2 < 0)) then some true else (Option.bind (m_laws_toDNodeS N a0) fun r5 => Option.bind (m_spec_Deeper N r5 a1) fun r6 => Option.bind (m_laws_toDNodeS N a0) fun r8 => Option.bind (m_impl_Deeper N r8 a1) fun r10 => Option.bind (m_laws_eqDNodeS N r10 r6) fun r14 => bif (!r14) then some false else (Option.bind (m_laws_toDNodeS N a0) fun r21 => Option.bind (m_laws_eqDNodeS N r8 r21) fun r22 => bif (!r22) then some false else (Option.bind (m_laws_markDNodeS N 1 r8) fun r24 => Option.bind (bif (decide (r24.1 < 0)) then some true else (Option.bind (m_laws_eqDNodeS N r10 r6) fun r30 => some (!r30))) fun y29 => bif y29 then some false else (Option.bind (m_laws_markDNodeS N 1 r10) fun r32 => Option.bind (m_laws_heldDNodeS N r32.2 1) fun r34 => bif (decide (r34 < 0)) then some false else (bif (r34 != r32.1) then some false else (Option.bind (m_laws_toDNodeS N a0) fun r37 => Option.bind (m_impl_Deeper N r37 a1) fun r38 => Option.bind (m_laws_eqDNodeS N r38 r6) fun r42 => bif (!r42) then some false else (Option.bind (m_laws_heldDNodeS N r32.2 1) fun r44 => bif (decide (r44 < 0)) then some false else (bif (r44 != r32.1) then some false else (some true)))))))))

/-! ### spec.Joined -/
def m_spec_Joined (N : Nat) (a0 : List SDNode) (a1 : List SDNode) : Option (List SDNode) :=
  Option.bind (Option.bind (m_spec_DocOk N a0) fun r9 => bif (!r9) then some true else (Option.bind (m_spec_DocOk N a1) fun r10 => bif (!r10) then some true else (some (decide ((IntKind.wrap .i64 ((a0.length : Int) + (a1.length : Int))) ≥ 4000))))) fun y8 => bif y8 then some [] else (Option.bind (m_spec_l15Over N 6 0 [a0, a1]) fun r12 => some r12)

/-! ### impl.cat -/
def m_impl_cat (a0 : List SDoc) : Option SDoc :=
  some (⟨6, 0, [], a0, 0⟩ : SDoc)

/-! ### impl.Joined -/
def m_impl_Joined (N : Nat) (a0 : List SDNode) (a1 : List SDNode) : Option (List SDNode) :=
  Option.bind (Option.bind (m_impl_DocOk N a0) fun r9 => bif (!r9) then some true else (Option.bind (m_impl_DocOk N a1) fun r10 => bif (!r10) then some true else (some (decide ((IntKind.wrap .i64 ((IntKind.wrap .i64 ((a0.length : Int) + (a1.length : Int))) + 1)) > 4000))))) fun y8 => bif y8 then some [] else (Option.bind (m_impl_docOf N a0) fun r15 => Option.bind (m_impl_docOf N a1) fun r16 => Option.bind (m_impl_cat [r15, r16]) fun r17 => Option.bind (m_impl_doc__list N r17) fun r18 => some r18)

/-! ### laws.FnExactJoined -/
def m_laws_FnExactJoined (N : Nat) (a0 : List SDNode) (a1 : List SDNode) : Option Bool :=
  Option.bind (m_laws_szDNodeS N a0 1048576) fun r2 => bif (decide (r2 < 0)) then some true else (Option.bind (m_laws_szDNodeS N a1 r2) fun r4 => bif (decide (r4 < 0)) then some true else (Option.bind (m_laws_toDNodeS N a0) fun r8 => Option.bind (m_laws_toDNodeS N a1) fun r9 => Option.bind (m_spec_Joined N r8 r9) fun r10 => Option.bind (m_laws_toDNodeS N a0) fun r12 => Option.bind (m_laws_toDNodeS N a1) fun r14 => Option.bind (m_impl_Joined N r12 r14) fun r16 => Option.bind (m_laws_eqDNodeS N r16 r10) fun r20 => bif (!r20) then some false else (Option.bind (m_laws_toDNodeS N a0) fun r27 => Option.bind (m_laws_eqDNodeS N r12 r27) fun r28 => bif (!r28) then some false else (Option.bind (m_laws_toDNodeS N a1) fun r35 => Option.bind (m_laws_eqDNodeS N r14 r35) fun r36 => bif (!r36) then some false else (Option.bind (m_laws_markDNodeS N 1 r12) fun r38 => Option.bind (m_laws_markDNodeS N r38.1 r14) fun r40 => Option.bind (bif (decide (r40.1 < 0)) then some true else (Option.bind (m_laws_eqDNodeS N r16 r10) fun r46 => some (!r46))) fun y45 => bif y45 then some false else (Option.bind (m_laws_markDNodeS N 1 r16) fun r48 => Option.bind (m_laws_heldDNodeS N r48.2 1) fun r50 => bif (decide (r50 < 0)) then some false else (bif (r50 != r48.1) then some false else (Option.bind (m_laws_toDNodeS N a0) fun r54 => Option.bind (m_laws_toDNodeS N a1) fun r55 => Option.bind (m_impl_Joined N r54 r55) fun r56 => Option.bind (m_laws_eqDNodeS N r56 r10) fun r60 => bif (!r60) then some false else (Option.bind (m_laws_heldDNodeS N r48.2 1) fun r62 => bif (decide (r62 < 0)) then some false else (bif (r62 != r48.1) then some false else (some true)))))))))))

end Go.Proofs.Try

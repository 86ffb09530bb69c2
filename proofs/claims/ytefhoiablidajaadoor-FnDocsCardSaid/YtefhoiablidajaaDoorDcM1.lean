/-
  Models of the functions that this seat reaches.
-/
import Derived.Test.YtefhoiablidajaaDoorTab
import Derived.Test.YtefhoiablidajaaDoorCore7
namespace Go.Proofs.Tryd
open Go.Av
set_option maxRecDepth 100000
set_option maxHeartbeats 8000000
set_option linter.unusedSimpArgs false
set_option linter.unusedVariables false

def GG : Nat → Option (List V)
  | _ => none
def GS (l : List Nat) (g : Nat) : Option (List V) := bif l.contains g then GG g else none

theorem AC.gs {f : FuncId} {vs : List V} {H : Hp} {r : V} {H1 : Hp} {l l1 : List Nat} (h : AC Tryd.prog (GS l) f vs H r H1) (hs : (l.all fun g => l1.contains g) = true) : AC Tryd.prog (GS l1) f vs H r H1 := by
  refine Go.Av.AC.mono h fun g cs hg => ?_
  unfold GS at hg ⊢
  cases hc : l.contains g with
  | false => rw [hc] at hg; cases hg
  | true =>
    rw [hc] at hg
    have := List.all_eq_true.1 hs g (List.contains_iff_mem.1 hc)
    rw [this]
    exact hg

theorem mix : Tryd.prog.follows .mixedOrders = true := by kernel_rfl

structure SDNode where
  Kind : Int
  N : Int
  Text : List UInt8
  Kids : List Int
  deriving DecidableEq, Inhabited

def encSDNode (b : Bool) (x : SDNode) : List V := [V.int x.Kind, V.int x.N, V.str x.Text, .sl false b (x.Kids.map encI)]

theorem share_encSDNode (b : Bool) (x : SDNode) : V.shareL (encSDNode b x) = encSDNode false x := by
  simp only [encSDNode, V.shareL, V.share, V.int, V.str, V.bool, shareR_map (enc := encI) (enc' := encI) (fun _ => rfl)]

structure SDoc where
  kind : Int
  n : Int
  text : List UInt8
  kids : List SDoc
  group : Int

instance : Inhabited SDoc := ⟨⟨0, 0, [], [], 0⟩⟩

theorem SDoc.lt (x : SDoc) (y : SDoc) (h : y ∈ x.kids) : SizeOf.sizeOf y < SizeOf.sizeOf x := by
  have := List.sizeOf_lt_of_mem h
  cases x
  simp only [SDoc.mk.sizeOf_spec] at *
  omega

def encSDoc (x : SDoc) : List V := [V.int x.kind, V.int x.n, V.str x.text, .sl false false (x.kids.attach.map fun y => encSDoc y.1), V.int x.group]
termination_by SizeOf.sizeOf x
decreasing_by exact SDoc.lt x y.1 y.2

theorem encSDoc_eq (x : SDoc) : encSDoc x = [V.int x.kind, V.int x.n, V.str x.text, .sl false false (x.kids.map encSDoc), V.int x.group] := by
  rw [encSDoc]
  simp only [List.attach_map_val (f := encSDoc), List.map_attach_eq_pmap, List.pmap_eq_map]

theorem share_encSDoc (x : SDoc) : V.shareL (encSDoc x) = encSDoc x := by
  have hk : x.kids.map (V.shareL ∘ encSDoc) = x.kids.map encSDoc := List.map_congr_left fun y hy => share_encSDoc y
  rw [encSDoc_eq]
  simp only [V.shareL, V.share, V.shareR_eq, V.int, V.str, V.bool, List.map_map]
  rw [hk]
termination_by SizeOf.sizeOf x
decreasing_by exact SDoc.lt x y hy

structure SPiece where
  doc : SDoc
  indent : Int
  flat : Bool
  deriving Inhabited

def encSPiece (x : SPiece) : List V := [V.int x.doc.kind, V.int x.doc.n, V.str x.doc.text, .sl false false (x.doc.kids.map encSDoc), V.int x.doc.group, V.int x.indent, V.bool x.flat]

theorem share_encSPiece (x : SPiece) : V.shareL (encSPiece x) = encSPiece x := by
  simp only [encSPiece, V.shareL, V.share, V.int, V.str, V.bool, shareR_map (enc := encSDoc) (enc' := encSDoc) (share_encSDoc)]

/-! ### laws.big -/
def m_laws_big (a0 : List UInt8) : Option Bool :=
  some (decide ((a0.length : Int) > 1048576))

/-! ### spec.l1New -/
def m_spec_l1New_l1 (N : Nat) : Nat → ((List UInt8) × Int × Int) → Option ((List UInt8) × Int × Int)
  | 0, _ => none
  | n1 + 1, (a0, y29, y30) => Option.bind (bif (decide (y30 < (a0.length : Int))) then some (decide (y30 < 4000)) else (some false)) fun y40 => bif y40 then Option.bind (ix a0 y30) fun e44 => (m_spec_l1New_l1 N n1) (a0, (bits .and .i64 (IntKind.wrap .i64 ((IntKind.wrap .i64 ((IntKind.wrap .i64 (y29 * 131)) + (IntKind.wrap .i64 ((e44).toNat : Int)))) + 7)) 1073741823), (IntKind.wrap .i64 (y30 + 1))) else (some (a0, 0, y29))
def m_spec_l1New (N : Nat) (a0 : List UInt8) : Option ((List UInt8) × Int × Int) :=
  m_spec_l1New_l1 N N (a0, (IntKind.wrap .i64 (10101 + (a0.length : Int))), 0)

/-! ### spec.l1Byte -/
def m_spec_l1Byte_k1 (p0_0 : List UInt8) : (Int × Int × Int) → Option (Int × Int × Int)
  | (p0_2, y3, y4) => some (y3, y4, (IntKind.wrap .i64 ((IntKind.wrap .i64 (p0_2 * 6364136223846793005)) + 1442695040888963407)))
def m_spec_l1Byte (p0_0 : List UInt8) (p0_1 : Int) (p0_2 : Int) : Option (Int × Int × Int) :=
  bif (decide (p0_1 < (p0_0.length : Int))) then Option.bind (ix p0_0 p0_1) fun e6 => m_spec_l1Byte_k1 p0_0 (p0_2, (bits .and .i64 (IntKind.wrap .i64 ((bits .and .i64 (bits .xor .i64 (Int.fdiv (IntKind.wrap .i64 ((IntKind.wrap .i64 (p0_2 * 6364136223846793005)) + 1442695040888963407)) (2 ^ (min 33 64))) (Int.fdiv (IntKind.wrap .i64 ((IntKind.wrap .i64 (p0_2 * 6364136223846793005)) + 1442695040888963407)) (2 ^ (min 45 64)))) 255) + (IntKind.wrap .i64 ((e6).toNat : Int)))) 255), (IntKind.wrap .i64 (p0_1 + 1))) else (m_spec_l1Byte_k1 p0_0 (p0_2, (bits .and .i64 (bits .xor .i64 (Int.fdiv (IntKind.wrap .i64 ((IntKind.wrap .i64 (p0_2 * 6364136223846793005)) + 1442695040888963407)) (2 ^ (min 33 64))) (Int.fdiv (IntKind.wrap .i64 ((IntKind.wrap .i64 (p0_2 * 6364136223846793005)) + 1442695040888963407)) (2 ^ (min 45 64)))) 255), p0_1))

/-! ### spec.l1Below -/
def m_spec_l1Below (a1 : Int) (p0_0 : List UInt8) (p0_1 : Int) (p0_2 : Int) : Option (Int × Int × Int) :=
  bif (decide (a1 ≤ 0)) then some (0, p0_1, p0_2) else (bif (decide (a1 ≤ 256)) then Option.bind (m_spec_l1Byte p0_0 p0_1 p0_2) fun r7 => Option.bind (remO r7.1 a1) fun x8 => some (x8, r7.2.1, r7.2.2) else (Option.bind (m_spec_l1Byte p0_0 p0_1 p0_2) fun r10 => Option.bind (m_spec_l1Byte p0_0 r10.2.1 r10.2.2) fun r12 => Option.bind (m_spec_l1Byte p0_0 r12.2.1 r12.2.2) fun r14 => Option.bind (m_spec_l1Byte p0_0 r14.2.1 r14.2.2) fun r16 => Option.bind (remO (IntKind.wrap .i64 ((IntKind.wrap .i64 ((IntKind.wrap .i64 ((IntKind.wrap .i64 (r10.1 * 16777216)) + (IntKind.wrap .i64 (r12.1 * 65536)))) + (IntKind.wrap .i64 (r14.1 * 256)))) + r16.1)) a1) fun x18 => some (x18, r16.2.1, r16.2.2)))

/-! ### spec.l1Pick -/
def m_spec_l1Pick (a1 : List (List UInt8)) (p0_0 : List UInt8) (p0_1 : Int) (p0_2 : Int) : Option ((List UInt8) × Int × Int) :=
  Option.bind (m_spec_l1Below (a1.length : Int) p0_0 p0_1 p0_2) fun r3 => Option.bind (ix a1 r3.1) fun e4 => some (e4, r3.2.1, r3.2.2)

/-! ### spec.l15Text -/
def m_spec_l15Text (a0 : List UInt8) : Option (List SDNode) :=
  some [(⟨1, 0, a0, []⟩ : SDNode)]

/-! ### spec.l1Once -/
def m_spec_l1Once (a1 : Int) (p0_0 : List UInt8) (p0_1 : Int) (p0_2 : Int) : Option (Bool × Int × Int) :=
  Option.bind (m_spec_l1Below a1 p0_0 p0_1 p0_2) fun r2 => some ((r2.1 == 0), r2.2.1, r2.2.2)

/-! ### spec.l15Hard -/
def m_spec_l15Hard : Option (List SDNode) :=
  some [(⟨3, 0, [], []⟩ : SDNode)]

/-! ### spec.l15Line -/
def m_spec_l15Line : Option (List SDNode) :=
  some [(⟨2, 0, [], []⟩ : SDNode)]

/-! ### spec.l15Shift -/
def m_spec_l15Shift_l2 (N : Nat) (kb1 : ((List SDNode) × Int × Int × (List SDNode)) → Option (List SDNode)) : Nat → ((List SDNode) × Int × Int × (List SDNode) × SDNode × Int × (List Int)) → Option (List SDNode)
  | 0, _ => none
  | n2 + 1, (a0, a1, y869, y870, e1198, y1267, y1268) => Option.bind (ix a0 y869) fun e1290 => bif (decide (y1267 < (e1290.Kids.length : Int))) then Option.bind (ix a0 y869) fun e1300 => Option.bind (ix e1300.Kids y1267) fun e1301 => Option.bind (app 8 y1268 [(IntKind.wrap .i64 (e1301 + a1))]) fun x1302 => (m_spec_l15Shift_l2 N kb1 n2) (a0, a1, y869, y870, e1198, (IntKind.wrap .i64 (y1267 + 1)), x1302) else (Option.bind (app 56 y870 [(⟨e1198.Kind, e1198.N, e1198.Text, y1268⟩ : SDNode)]) fun x1304 => kb1 (a0, a1, (IntKind.wrap .i64 (y869 + 1)), x1304))
def m_spec_l15Shift_l1 (N : Nat) : Nat → ((List SDNode) × Int × Int × (List SDNode)) → Option (List SDNode)
  | 0, _ => none
  | n1 + 1, (a0, a1, y869, y870) => bif (decide (y869 < (a0.length : Int))) then Option.bind (ix a0 y869) fun e1198 => m_spec_l15Shift_l2 N (m_spec_l15Shift_l1 N n1) N (a0, a1, y869, y870, e1198, 0, []) else (some y870)
def m_spec_l15Shift (N : Nat) (a0 : List SDNode) (a1 : Int) : Option (List SDNode) :=
  m_spec_l15Shift_l1 N N (a0, a1, 0, [])

/-! ### spec.l15Over -/
def m_spec_l15Over_l1 (N : Nat) : Nat → ((List (List SDNode)) × Int × Int × Int × (List SDNode) × (List Int)) → Option (List SDNode)
  | 0, _ => none
  | n1 + 1, (a2, a0, a1, y75, y76, y77) => bif (decide (y75 < (a2.length : Int))) then Option.bind (ix a2 y75) fun e108 => Option.bind (m_spec_l15Shift N e108 (y76.length : Int)) fun r109 => Option.bind (app 56 y76 r109) fun x110 => Option.bind (app 8 y77 [(IntKind.wrap .i64 ((x110.length : Int) - 1))]) fun x112 => (m_spec_l15Over_l1 N n1) (a2, a0, a1, (IntKind.wrap .i64 (y75 + 1)), x110, x112) else (Option.bind (app 56 y76 [(⟨a0, a1, [], y77⟩ : SDNode)]) fun x114 => some x114)
def m_spec_l15Over (N : Nat) (a0 : Int) (a1 : Int) (a2 : List (List SDNode)) : Option (List SDNode) :=
  m_spec_l15Over_l1 N N (a2, a0, a1, 0, [], [])

/-! ### a circle of 1 -/
structure Rec1 where
  m_spec_l15Draw : Int → (List UInt8) → Int → Int → Option ((List SDNode) × Int × Int)

def m_spec_l15Draw_l5 (N : Nat) (R : Rec1) (p0_0 : List UInt8) : Nat → (Int × Int × Int × Int × (List (List SDNode))) → Option ((List SDNode) × Int × Int)
  | 0, _ => none
  | n5 + 1, (a1, y107, y108, y109, y110) => bif (decide (y107 > 0)) then Option.bind (R.m_spec_l15Draw (IntKind.wrap .i64 (a1 - 1)) p0_0 y108 y109) fun r129 => Option.bind (app 24 y110 [r129.1]) fun x130 => (m_spec_l15Draw_l5 N R p0_0 n5) (a1, (IntKind.wrap .i64 (y107 - 1)), r129.2.1, r129.2.2, x130) else (Option.bind (m_spec_l15Over N 6 0 y110) fun r132 => some (r132, y108, y109))
def m_spec_l15Draw_k4 (N : Nat) (R : Rec1) (p0_0 : List UInt8) : (Int × Int × Int × Bool) → Option ((List SDNode) × Int × Int)
  | (a1, y7, y8, y58) => bif y58 then Option.bind (R.m_spec_l15Draw (IntKind.wrap .i64 (a1 - 1)) p0_0 y7 y8) fun r61 => Option.bind (m_spec_l15Over N 5 0 [r61.1]) fun r62 => some (r62, r61.2.1, r61.2.2) else (Option.bind (m_spec_l1Below 5 p0_0 y7 y8) fun r98 => m_spec_l15Draw_l5 N R p0_0 N (a1, (IntKind.wrap .i64 (1 + r98.1)), r98.2.1, r98.2.2, []))
def m_spec_l15Draw_k3 (N : Nat) (R : Rec1) (p0_0 : List UInt8) : (Int × Int × Int × Int × Bool) → Option ((List SDNode) × Int × Int)
  | (a1, y6, y7, y8, y41) => bif y41 then Option.bind (m_spec_l1Once 9 p0_0 y7 y8) fun r47 => bif r47.1 then Option.bind m_spec_l15Hard fun r49 => some (r49, r47.2.1, r47.2.2) else (Option.bind m_spec_l15Line fun r51 => some (r51, r47.2.1, r47.2.2)) else (bif (y6 == 4) then Option.bind (m_spec_l1Below 5 p0_0 y7 y8) fun r55 => Option.bind (R.m_spec_l15Draw (IntKind.wrap .i64 (a1 - 1)) p0_0 r55.2.1 r55.2.2) fun r56 => Option.bind (m_spec_l15Over N 4 r55.1 [r56.1]) fun r57 => some (r57, r56.2.1, r56.2.2) else (bif (y6 == 5) then m_spec_l15Draw_k4 N R p0_0 (a1, y7, y8, (y6 == 5)) else (m_spec_l15Draw_k4 N R p0_0 (a1, y7, y8, (y6 == 6)))))
def m_spec_l15Draw_k2 (N : Nat) (R : Rec1) (p0_0 : List UInt8) : (Int × Int × Int × Int × Bool) → Option ((List SDNode) × Int × Int)
  | (a1, y6, y7, y8, y36) => bif y36 then Option.bind (m_spec_l1Pick [[], [97], [98, 99, 100], [108, 111, 110, 103, 32, 119, 111, 114, 100], [40], [41]] p0_0 y7 y8) fun r39 => Option.bind (m_spec_l15Text r39.1) fun r40 => some (r40, r39.2.1, r39.2.2) else (bif (y6 == 2) then m_spec_l15Draw_k3 N R p0_0 (a1, y6, y7, y8, (y6 == 2)) else (m_spec_l15Draw_k3 N R p0_0 (a1, y6, y7, y8, (y6 == 3))))
def m_spec_l15Draw_k1 (N : Nat) (R : Rec1) (p0_0 : List UInt8) : (Int × Int × Int × Int) → Option ((List SDNode) × Int × Int)
  | (a1, y6, y7, y8) => bif (y6 == 0) then m_spec_l15Draw_k2 N R p0_0 (a1, y6, y7, y8, (y6 == 0)) else (m_spec_l15Draw_k2 N R p0_0 (a1, y6, y7, y8, (y6 == 1)))
def m_spec_l15Draw_F (N : Nat) (R : Rec1) (a1 : Int) (p0_0 : List UInt8) (p0_1 : Int) (p0_2 : Int) : Option ((List SDNode) × Int × Int) :=
  Option.bind (m_spec_l1Below 9 p0_0 p0_1 p0_2) fun r2 => Option.bind (bif (decide (a1 ≤ 0)) then some (decide (r2.1 > 3)) else (some false)) fun y133 => bif y133 then Option.bind (m_spec_l1Below 4 p0_0 r2.2.1 r2.2.2) fun r135 => m_spec_l15Draw_k1 N R p0_0 (a1, r135.1, r135.2.1, r135.2.2) else (m_spec_l15Draw_k1 N R p0_0 (a1, r2.1, r2.2.1, r2.2.2))
def scc1 : Nat → Rec1
  | 0 => ⟨fun _ _ _ _ => none⟩
  | N + 1 => ⟨fun a1 p0_0 p0_1 p0_2 => m_spec_l15Draw_F N (scc1 N) a1 p0_0 p0_1 p0_2⟩
def m_spec_l15Draw (N : Nat) (a1 : Int) (p0_0 : List UInt8) (p0_1 : Int) (p0_2 : Int) : Option ((List SDNode) × Int × Int) := (scc1 N).m_spec_l15Draw a1 p0_0 p0_1 p0_2

/-! ### spec.l1PickInt -/
def m_spec_l1PickInt (a1 : List Int) (p0_0 : List UInt8) (p0_1 : Int) (p0_2 : Int) : Option (Int × Int × Int) :=
  Option.bind (m_spec_l1Below (a1.length : Int) p0_0 p0_1 p0_2) fun r3 => Option.bind (ix a1 r3.1) fun e4 => some (e4, r3.2.1, r3.2.2)

/-! ### spec.l15Any -/
def m_spec_l15Any_k1 (N : Nat) (p0_0 : List UInt8) : ((List SDNode) × Int × Int) → Option ((List SDNode) × Int × Int)
  | (y31, y32, y33) => some (y31, y32, y33)
def m_spec_l15Any (N : Nat) (p0_0 : List UInt8) (p0_1 : Int) (p0_2 : Int) : Option ((List SDNode) × Int × Int) :=
  Option.bind (m_spec_l15Draw N 5 p0_0 p0_1 p0_2) fun r2 => Option.bind (m_spec_l1Below (r2.1.length : Int) p0_0 r2.2.1 r2.2.2) fun r4 => Option.bind (m_spec_l1Below 16 p0_0 r4.2.1 r4.2.2) fun r35 => bif (r35.1 == 0) then Option.bind (m_spec_l1Below 8 p0_0 r35.2.1 r35.2.2) fun r39 => Option.bind (ix r2.1 r4.1) fun e40 => Option.bind (upd r2.1 r4.1 (⟨r39.1, e40.N, e40.Text, e40.Kids⟩ : SDNode)) fun x41 => m_spec_l15Any_k1 N p0_0 (x41, r39.2.1, r39.2.2) else (bif (r35.1 == 1) then Option.bind (m_spec_l1PickInt [(-1), 40, 41, 1] p0_0 r35.2.1 r35.2.2) fun r45 => Option.bind (ix r2.1 r4.1) fun e46 => Option.bind (upd r2.1 r4.1 (⟨e46.Kind, r45.1, e46.Text, e46.Kids⟩ : SDNode)) fun x47 => m_spec_l15Any_k1 N p0_0 (x47, r45.2.1, r45.2.2) else (bif (r35.1 == 2) then Option.bind (ix r2.1 r4.1) fun e50 => Option.bind (upd r2.1 r4.1 (⟨e50.Kind, e50.N, [120, 10, 121], e50.Kids⟩ : SDNode)) fun x51 => m_spec_l15Any_k1 N p0_0 (x51, r35.2.1, r35.2.2) else (bif (r35.1 == 3) then Option.bind (ix r2.1 r4.1) fun e53 => Option.bind (app 8 e53.Kids [r4.1]) fun x56 => Option.bind (upd r2.1 r4.1 (⟨e53.Kind, e53.N, e53.Text, x56⟩ : SDNode)) fun x57 => m_spec_l15Any_k1 N p0_0 (x57, r35.2.1, r35.2.2) else (bif (r35.1 == 4) then Option.bind (cut r2.1 0 r4.1) fun l59 => some (l59, r35.2.1, r35.2.2) else (m_spec_l15Any_k1 N p0_0 (r2.1, r35.2.1, r35.2.2))))))

/-! ### spec.DrawJoined -/
def m_spec_DrawJoined (N : Nat) (a0 : List UInt8) : Option ((List SDNode) × (List SDNode)) :=
  Option.bind (m_spec_l1New N a0) fun r2 => Option.bind (m_spec_l15Any N r2.1 r2.2.1 r2.2.2) fun r4 => Option.bind (m_spec_l15Any N r2.1 r4.2.1 r4.2.2) fun r6 => some (r4.1, r6.1)

/-! ### stringslite.IndexByte -/
def m_stringslite_IndexByte (a0 : List UInt8) (a1 : Int) : Option Int :=
  some (Go.Lib.indexByte a0 (Int.toNat a1).toUInt8)

/-! ### stringslite.Index -/
def m_stringslite_Index (a0 : List UInt8) : Option Int :=
  bif (([10] : List UInt8) == a0) then some 0 else (Option.bind (ix ([10] : List UInt8) 0) fun b7 => Option.bind (m_stringslite_IndexByte a0 ((b7).toNat : Int)) fun r8 => some r8)

/-! ### strings.Index -/
def m_strings_Index (a0 : List UInt8) : Option Int :=
  Option.bind (m_stringslite_Index a0) fun r2 => some r2

/-! ### strings.Contains -/
def m_strings_Contains (a0 : List UInt8) : Option Bool :=
  Option.bind (m_strings_Index a0) fun r2 => some (decide (r2 ≥ 0))

/-! ### impl.within -/
def m_impl_within (a0 : Int) (a1 : Int) (a2 : Int) : Option Bool :=
  Option.bind (bif (decide (a0 ≥ a1)) then some (decide (a0 ≤ a2)) else (some false)) fun y1 => some y1

/-! ### impl.docNodeOk -/
def m_impl_docNodeOk_k1 : (SDNode × Bool) → Option Bool
  | (a0, y13) => bif y13 then some ((a0.Kids.length : Int) == 0) else (bif (a0.Kind == 4) then Option.bind (Option.bind (m_impl_within a0.N 0 40) fun r16 => bif r16 then some ((a0.Kids.length : Int) == 1) else (some false)) fun y15 => some y15 else (bif (a0.Kind == 5) then some ((a0.Kids.length : Int) == 1) else (bif (a0.Kind == 6) then some true else (some false))))
def m_impl_docNodeOk (a0 : SDNode) : Option Bool :=
  Option.bind (bif (a0.Kind != 4) then bif (a0.N != 0) then some true else (bif (a0.Kind != 1) then some (!(a0.Text == [])) else (some false)) else (bif (a0.Kind != 1) then some (!(a0.Text == [])) else (some false))) fun y2 => bif y2 then some false else (bif (a0.Kind == 1) then Option.bind (Option.bind (m_strings_Contains a0.Text) fun r12 => bif (!r12) then some ((a0.Kids.length : Int) == 0) else (some false)) fun y11 => some y11 else (bif (a0.Kind == 2) then m_impl_docNodeOk_k1 (a0, (a0.Kind == 2)) else (m_impl_docNodeOk_k1 (a0, (a0.Kind == 3)))))

/-! ### impl.docStarts -/
def m_impl_docStarts_l2 (N : Nat) (kb1 : ((List SDNode) × Int × (List Int)) → Option ((List Int) × Bool)) : Nat → ((List SDNode) × Int × (List Int) × SDNode × Int × Int) → Option ((List Int) × Bool)
  | 0, _ => none
  | n2 + 1, (a0, y475, y476, e810, y879, y880) => bif (decide (y880 ≥ 0)) then Option.bind (bif (decide (y879 < 0)) then some true else (Option.bind (ix e810.Kids y880) fun e912 => some (e912 != y879))) fun y911 => bif y911 then some ([], false) else (Option.bind (ix y476 y879) fun e914 => (m_impl_docStarts_l2 N kb1 n2) (a0, y475, y476, e810, (IntKind.wrap .i64 (e914 - 1)), (IntKind.wrap .i64 (y880 - 1)))) else (Option.bind (ix y476 y475) fun e917 => Option.bind (upd y476 y475 (IntKind.wrap .i64 (y879 + 1))) fun x918 => kb1 (a0, (IntKind.wrap .i64 (y475 + 1)), x918))
def m_impl_docStarts_l1 (N : Nat) : Nat → ((List SDNode) × Int × (List Int)) → Option ((List Int) × Bool)
  | 0, _ => none
  | n1 + 1, (a0, y475, y476) => bif (decide (y475 < (a0.length : Int))) then Option.bind (ix a0 y475) fun e810 => m_impl_docStarts_l2 N (m_impl_docStarts_l1 N n1) N (a0, y475, y476, e810, (IntKind.wrap .i64 (y475 - 1)), (IntKind.wrap .i64 ((e810.Kids.length : Int) - 1))) else (Option.bind (ix y476 (IntKind.wrap .i64 ((a0.length : Int) - 1))) fun e920 => some (y476, (e920 == 0)))
def m_impl_docStarts (N : Nat) (a0 : List SDNode) : Option ((List Int) × Bool) :=
  Option.bind (m_impl_within (a0.length : Int) 1 4000) fun r4 => bif (!r4) then some ([], false) else (Option.bind (mk 8 0 (a0.length : Int)) fun x6 => m_impl_docStarts_l1 N N (a0, 0, x6))

/-! ### impl.DocOk -/
def m_impl_DocOk_l1 (N : Nat) : Nat → ((List SDNode) × Int) → Option Bool
  | 0, _ => none
  | n1 + 1, (a0, y35) => bif (decide (y35 < (a0.length : Int))) then Option.bind (ix a0 y35) fun e50 => Option.bind (m_impl_docNodeOk e50) fun r52 => bif (!r52) then some false else ((m_impl_DocOk_l1 N n1) (a0, (IntKind.wrap .i64 (y35 + 1)))) else (Option.bind (m_impl_docStarts N a0) fun r54 => some r54.2)
def m_impl_DocOk (N : Nat) (a0 : List SDNode) : Option Bool :=
  m_impl_DocOk_l1 N N (a0, 0)

/-! ### impl.GroupsIn -/
def m_impl_GroupsIn_k2 (N : Nat) (kb1 : ((List SDNode) × Int × Int) → Option Int) : ((List SDNode) × Int × Int) → Option Int
  | (a0, y26, y36) => kb1 (a0, y36, (IntKind.wrap .i64 (y26 + 1)))
def m_impl_GroupsIn_l1 (N : Nat) : Nat → ((List SDNode) × Int × Int) → Option Int
  | 0, _ => none
  | n1 + 1, (a0, y25, y26) => bif (decide (y26 < (a0.length : Int))) then Option.bind (ix a0 y26) fun e38 => bif (e38.Kind == 5) then m_impl_GroupsIn_k2 N (m_impl_GroupsIn_l1 N n1) (a0, y26, (IntKind.wrap .i64 (y25 + 1))) else (m_impl_GroupsIn_k2 N (m_impl_GroupsIn_l1 N n1) (a0, y26, y25)) else (some y25)
def m_impl_GroupsIn (N : Nat) (a0 : List SDNode) : Option Int :=
  m_impl_GroupsIn_l1 N N (a0, 0, 0)

/-! ### a circle of 1 -/
structure Rec2 where
  m_impl_docAt : (List SDNode) → Int → Option SDoc

def m_impl_docAt_l1 (N : Nat) (R : Rec2) : Nat → ((List SDNode) × SDNode × Int × Int × (List SDoc)) → Option SDoc
  | 0, _ => none
  | n1 + 1, (a0, e2, r6, y67, y68) => bif (decide (y67 < (e2.Kids.length : Int))) then Option.bind (ix e2.Kids y67) fun e90 => Option.bind (R.m_impl_docAt a0 e90) fun r93 => Option.bind (app 64 y68 [r93]) fun x94 => (m_impl_docAt_l1 N R n1) (a0, e2, r6, (IntKind.wrap .i64 (y67 + 1)), x94) else (some (⟨e2.Kind, e2.N, e2.Text, y68, r6⟩ : SDoc))
def m_impl_docAt_F (N : Nat) (R : Rec2) (a0 : List SDNode) (a1 : Int) : Option SDoc :=
  Option.bind (ix a0 a1) fun e2 => Option.bind (cut a0 0 a1) fun l5 => Option.bind (m_impl_GroupsIn N l5) fun r6 => m_impl_docAt_l1 N R N (a0, e2, r6, 0, [])
def scc2 : Nat → Rec2
  | 0 => ⟨fun _ _ => none⟩
  | N + 1 => ⟨fun a0 a1 => m_impl_docAt_F N (scc2 N) a0 a1⟩
def m_impl_docAt (N : Nat) (a0 : List SDNode) (a1 : Int) : Option SDoc := (scc2 N).m_impl_docAt a0 a1

/-! ### impl.docOf -/
def m_impl_docOf (N : Nat) (a0 : List SDNode) : Option SDoc :=
  Option.bind (m_impl_docAt N a0 (IntKind.wrap .i64 ((a0.length : Int) - 1))) fun r2 => some r2

/-! ### impl.cat -/
def m_impl_cat (a0 : List SDoc) : Option SDoc :=
  some (⟨6, 0, [], a0, 0⟩ : SDoc)

/-! ### a circle of 1 -/
structure Rec3 where
  m_impl_doc__add : SDoc → (List SDNode) → Option (List SDNode)

def m_impl_doc__add_l1 (N : Nat) (R : Rec3) : Nat → (SDoc × Int × (List SDNode) × (List Int)) → Option (List SDNode)
  | 0, _ => none
  | n1 + 1, (a0, y59, y60, y61) => bif (decide (y59 < (a0.kids.length : Int))) then Option.bind (ix a0.kids y59) fun e84 => Option.bind (R.m_impl_doc__add e84 y60) fun r86 => Option.bind (app 8 y61 [(IntKind.wrap .i64 ((r86.length : Int) - 1))]) fun x88 => (m_impl_doc__add_l1 N R n1) (a0, (IntKind.wrap .i64 (y59 + 1)), r86, x88) else (Option.bind (app 56 y60 [(⟨a0.kind, a0.n, a0.text, y61⟩ : SDNode)]) fun x90 => some x90)
def m_impl_doc__add_F (N : Nat) (R : Rec3) (a0 : SDoc) (p0 : List SDNode) : Option (List SDNode) :=
  m_impl_doc__add_l1 N R N (a0, 0, p0, [])
def scc3 : Nat → Rec3
  | 0 => ⟨fun _ _ => none⟩
  | N + 1 => ⟨fun a0 p0 => m_impl_doc__add_F N (scc3 N) a0 p0⟩
def m_impl_doc__add (N : Nat) (a0 : SDoc) (p0 : List SDNode) : Option (List SDNode) := (scc3 N).m_impl_doc__add a0 p0

/-! ### impl.doc).list -/
def m_impl_doc__list (N : Nat) (a0 : SDoc) : Option (List SDNode) :=
  Option.bind (m_impl_doc__add N a0 []) fun r2 => some r2

/-! ### impl.Joined -/
def m_impl_Joined (N : Nat) (a0 : List SDNode) (a1 : List SDNode) : Option (List SDNode) :=
  Option.bind (Option.bind (m_impl_DocOk N a0) fun r9 => bif (!r9) then some true else (Option.bind (m_impl_DocOk N a1) fun r10 => bif (!r10) then some true else (some (decide ((IntKind.wrap .i64 ((IntKind.wrap .i64 ((a0.length : Int) + (a1.length : Int))) + 1)) > 4000))))) fun y8 => bif y8 then some [] else (Option.bind (m_impl_docOf N a0) fun r15 => Option.bind (m_impl_docOf N a1) fun r16 => Option.bind (m_impl_cat [r15, r16]) fun r17 => Option.bind (m_impl_doc__list N r17) fun r18 => some r18)

/-! ### spec.l1In -/
def m_spec_l1In (a0 : Int) (a1 : Int) (a2 : Int) : Option Bool :=
  Option.bind (bif (decide (a0 ≥ a1)) then some (decide (a0 ≤ a2)) else (some false)) fun y1 => some y1

/-! ### spec.l4Plain -/
def m_spec_l4Plain_l1 (N : Nat) : Nat → ((List UInt8) × Int) → Option Bool
  | 0, _ => none
  | n1 + 1, (a0, y19) => bif (decide (y19 < (a0.length : Int))) then Option.bind (ix a0 y19) fun b28 => bif (((b28).toNat : Int) == 10) then some false else ((m_spec_l4Plain_l1 N n1) (a0, (IntKind.wrap .i64 (y19 + 1)))) else (some true)
def m_spec_l4Plain (N : Nat) (a0 : List UInt8) : Option Bool :=
  m_spec_l4Plain_l1 N N (a0, 0)

/-! ### spec.l15Node -/
def m_spec_l15Node_k1 (N : Nat) : (SDNode × Bool) → Option Bool
  | (a0, y13) => bif y13 then some ((a0.Kids.length : Int) == 0) else (bif (a0.Kind == 4) then Option.bind (Option.bind (m_spec_l1In a0.N 0 40) fun r16 => bif r16 then some ((a0.Kids.length : Int) == 1) else (some false)) fun y15 => some y15 else (bif (a0.Kind == 5) then some ((a0.Kids.length : Int) == 1) else (some (a0.Kind == 6))))
def m_spec_l15Node (N : Nat) (a0 : SDNode) : Option Bool :=
  Option.bind (bif (a0.Kind != 1) then bif (!(a0.Text == [])) then some true else (bif (a0.Kind != 4) then some (a0.N != 0) else (some false)) else (bif (a0.Kind != 4) then some (a0.N != 0) else (some false))) fun y2 => bif y2 then some false else (bif (a0.Kind == 1) then Option.bind (Option.bind (m_spec_l4Plain N a0.Text) fun r12 => bif r12 then some ((a0.Kids.length : Int) == 0) else (some false)) fun y11 => some y11 else (bif (a0.Kind == 2) then m_spec_l15Node_k1 N (a0, (a0.Kind == 2)) else (m_spec_l15Node_k1 N (a0, (a0.Kind == 3)))))

/-! ### spec.l15Starts -/
def m_spec_l15Starts_l2 (N : Nat) (kb1 : ((List SDNode) × Int × (List Int)) → Option ((List Int) × Bool)) : Nat → ((List SDNode) × Int × (List Int) × Int × Int) → Option ((List Int) × Bool)
  | 0, _ => none
  | n2 + 1, (a0, y917, y918, y1499, y1500) => bif (decide (y1500 ≥ 0)) then Option.bind (Option.bind (ix a0 y917) fun e1547 => Option.bind (ix e1547.Kids y1500) fun e1548 => bif (e1548 != (IntKind.wrap .i64 (y1499 - 1))) then some true else (some (y1499 == 0))) fun y1546 => bif y1546 then some ([], false) else (Option.bind (ix y918 (IntKind.wrap .i64 (y1499 - 1))) fun e1550 => (m_spec_l15Starts_l2 N kb1 n2) (a0, y917, y918, e1550, (IntKind.wrap .i64 (y1500 - 1)))) else (Option.bind (app 8 y918 [y1499]) fun x1552 => kb1 (a0, (IntKind.wrap .i64 (y917 + 1)), x1552))
def m_spec_l15Starts_l1 (N : Nat) : Nat → ((List SDNode) × Int × (List Int)) → Option ((List Int) × Bool)
  | 0, _ => none
  | n1 + 1, (a0, y917, y918) => bif (decide (y917 < (a0.length : Int))) then Option.bind (ix a0 y917) fun e1474 => m_spec_l15Starts_l2 N (m_spec_l15Starts_l1 N n1) N (a0, y917, y918, y917, (IntKind.wrap .i64 ((e1474.Kids.length : Int) - 1))) else (some (y918, true))
def m_spec_l15Starts (N : Nat) (a0 : List SDNode) : Option ((List Int) × Bool) :=
  m_spec_l15Starts_l1 N N (a0, 0, [])

/-! ### spec.DocOk -/
def m_spec_DocOk_l1 (N : Nat) : Nat → ((List SDNode) × Int) → Option Bool
  | 0, _ => none
  | n1 + 1, (a0, y39) => bif (decide (y39 < (a0.length : Int))) then Option.bind (ix a0 y39) fun e55 => Option.bind (m_spec_l15Node N e55) fun r56 => bif (!r56) then some false else ((m_spec_DocOk_l1 N n1) (a0, (IntKind.wrap .i64 (y39 + 1)))) else (Option.bind (m_spec_l15Starts N a0) fun r58 => Option.bind (bif r58.2 then Option.bind (ix r58.1 (IntKind.wrap .i64 ((a0.length : Int) - 1))) fun e61 => some (e61 == 0) else (some false)) fun y60 => some y60)
def m_spec_DocOk (N : Nat) (a0 : List SDNode) : Option Bool :=
  Option.bind (m_spec_l1In (a0.length : Int) 1 4000) fun r4 => bif (!r4) then some false else (m_spec_DocOk_l1 N N (a0, 0))

/-! ### impl.copyDoc -/
def m_impl_copyDoc_k2 (N : Nat) (kb1 : (Int × Int × (List SDNode) × Int × (List SDNode)) → Option (List SDNode)) : (Int × Int × (List SDNode) × Int × (List SDNode) × SDNode × Int) → Option (List SDNode)
  | (a1, a2, a0, y61, y62, e87, y88) => Option.bind (app 8 [] e87.Kids) fun x90 => Option.bind (app 56 y62 [(⟨y88, e87.N, e87.Text, x90⟩ : SDNode)]) fun x92 => kb1 (a1, a2, a0, (IntKind.wrap .i64 (y61 + 1)), x92)
def m_impl_copyDoc_l1 (N : Nat) : Nat → (Int × Int × (List SDNode) × Int × (List SDNode)) → Option (List SDNode)
  | 0, _ => none
  | n1 + 1, (a1, a2, a0, y61, y62) => bif (decide (y61 < (a0.length : Int))) then Option.bind (ix a0 y61) fun e87 => bif (e87.Kind == a1) then m_impl_copyDoc_k2 N (m_impl_copyDoc_l1 N n1) (a1, a2, a0, y61, y62, e87, a2) else (m_impl_copyDoc_k2 N (m_impl_copyDoc_l1 N n1) (a1, a2, a0, y61, y62, e87, e87.Kind)) else (some y62)
def m_impl_copyDoc (N : Nat) (a0 : List SDNode) (a1 : Int) (a2 : Int) : Option (List SDNode) :=
  m_impl_copyDoc_l1 N N (a1, a2, a0, 0, [])

/-! ### impl.Ungrouped -/
def m_impl_Ungrouped (N : Nat) (a0 : List SDNode) : Option (List SDNode) :=
  Option.bind (m_impl_DocOk N a0) fun r4 => bif (!r4) then some [] else (Option.bind (m_impl_copyDoc N a0 5 6) fun r6 => some r6)

/-! ### laws.at -/
def m_laws_at (a0 : List UInt8) (a1 : Int) : Option Int :=
  bif (decide (a1 < (a0.length : Int))) then Option.bind (ix a0 a1) fun e4 => some (IntKind.wrap .i64 ((e4).toNat : Int)) else (some (Int.tmod (IntKind.wrap .i64 ((IntKind.wrap .i64 (a1 * 37)) + (IntKind.wrap .i64 ((a0.length : Int) * 11)))) 256))

/-! ### strings.Repeat -/
def m_strings_Repeat (a1 : Int) : Option (List UInt8) :=
  repO ([32] : List UInt8) a1

/-! ### impl.writer).line -/
def m_impl_writer__line (a1 : Int) (p0_1 : Int) (p1 : List UInt8) (p2 : List SPiece) : Option ((List UInt8) × Int) :=
  Option.bind (app 1 p1 [10]) fun x4 => Option.bind (m_strings_Repeat a1) fun r5 => Option.bind (app 1 x4 r5) fun x6 => some (x6, a1)

/-! ### impl.writer).push -/
def m_impl_writer__push_l1 (N : Nat) (p0_1 : Int) (p1 : List UInt8) : Nat → (Int × Bool × SDoc × Int × (List SPiece)) → Option (List SPiece)
  | 0, _ => none
  | n1 + 1, (a2, a3, a1, y9, y10) => bif (decide (y9 ≥ 0)) then Option.bind (ix a1.kids y9) fun e27 => Option.bind (app 80 y10 [(⟨e27, a2, a3⟩ : SPiece)]) fun x28 => (m_impl_writer__push_l1 N p0_1 p1 n1) (a2, a3, a1, (IntKind.wrap .i64 (y9 - 1)), x28) else (some y10)
def m_impl_writer__push (N : Nat) (a1 : SDoc) (a2 : Int) (a3 : Bool) (p0_1 : Int) (p1 : List UInt8) (p2 : List SPiece) : Option (List SPiece) :=
  m_impl_writer__push_l1 N p0_1 p1 N (a2, a3, a1, (IntKind.wrap .i64 ((a1.kids.length : Int) - 1)), p2)

/-! ### impl.Render$1 -/
def m_impl_Render_1 (a0 : SDoc) (p1_0 : Int) (p2_1 : Int) (p3 : List UInt8) (p4 : List SPiece) : Option Bool :=
  none

/-! ### impl.writer).lay -/
def m_impl_writer__lay_l1 (N : Nat) (p0_1 : Int) (p2_0 : Int) : Nat → ((List SPiece) × Int × (List UInt8) × (List SPiece)) → Option ((List UInt8) × Int × (List SPiece))
  | 0, _ => none
  | n1 + 1, (p4, y24, y25, y26) => bif (decide ((y26.length : Int) > 0)) then Option.bind (ix y26 (IntKind.wrap .i64 ((y26.length : Int) - 1))) fun e54 => Option.bind (cut y26 0 (IntKind.wrap .i64 ((y26.length : Int) - 1))) fun l56 => bif (e54.doc.kind == 1) then Option.bind (app 1 y25 e54.doc.text) fun x58 => (m_impl_writer__lay_l1 N p0_1 p2_0 n1) (p4, (IntKind.wrap .i64 (y24 + (e54.doc.text.length : Int))), x58, l56) else (bif (e54.doc.kind == 2) then bif e54.flat then Option.bind (app 1 y25 [32]) fun x60 => (m_impl_writer__lay_l1 N p0_1 p2_0 n1) (p4, (IntKind.wrap .i64 (y24 + 1)), x60, l56) else (Option.bind (m_impl_writer__line e54.indent y24 y25 l56) fun r62 => (m_impl_writer__lay_l1 N p0_1 p2_0 n1) (p4, r62.2, r62.1, l56)) else (bif (e54.doc.kind == 3) then Option.bind (m_impl_writer__line e54.indent y24 y25 l56) fun r64 => (m_impl_writer__lay_l1 N p0_1 p2_0 n1) (p4, r64.2, r64.1, l56) else (bif (e54.doc.kind == 4) then Option.bind (m_impl_writer__push N e54.doc (IntKind.wrap .i64 (e54.indent + e54.doc.n)) e54.flat y24 y25 l56) fun r66 => (m_impl_writer__lay_l1 N p0_1 p2_0 n1) (p4, y24, y25, r66) else (bif (e54.doc.kind == 5) then Option.bind (bif e54.flat then Option.bind (m_impl_writer__push N e54.doc e54.indent true y24 y25 l56) fun r71 => some r71 else (Option.bind (m_impl_Render_1 e54.doc p2_0 y24 y25 l56) fun r72 => Option.bind (m_impl_writer__push N e54.doc e54.indent r72 y24 y25 l56) fun r73 => some r73)) fun y70 => (m_impl_writer__lay_l1 N p0_1 p2_0 n1) (p4, y24, y25, y70) else (Option.bind (m_impl_writer__push N e54.doc e54.indent e54.flat y24 y25 l56) fun r75 => (m_impl_writer__lay_l1 N p0_1 p2_0 n1) (p4, y24, y25, r75)))))) else (some (y25, y24, y26))
def m_impl_writer__lay (N : Nat) (a1 : SDoc) (p0_1 : Int) (p2_0 : Int) (p3 : List UInt8) (p4 : List SPiece) : Option ((List UInt8) × Int × (List SPiece)) :=
  m_impl_writer__lay_l1 N p0_1 p2_0 N (p4, p0_1, p3, [(⟨a1, 0, false⟩ : SPiece)])

/-! ### impl.Render -/
def m_impl_Render (N : Nat) (a0 : List SDNode) (a1 : Int) : Option ((List UInt8) × Bool) :=
  Option.bind (Option.bind (m_impl_DocOk N a0) fun r9 => bif (!r9) then some true else (Option.bind (m_impl_within a1 0 10000) fun r10 => some (!r10))) fun y8 => bif y8 then some ([], false) else (Option.bind (m_impl_docOf N a0) fun r17 => Option.bind (m_impl_writer__lay N r17 0 a1 [] []) fun r18 => some (r18.1, true))

/-! ### impl.Softened -/
def m_impl_Softened (N : Nat) (a0 : List SDNode) : Option (List SDNode) :=
  Option.bind (m_impl_DocOk N a0) fun r4 => bif (!r4) then some [] else (Option.bind (m_impl_copyDoc N a0 3 2) fun r6 => some r6)

/-! ### a circle of 1 -/
structure Rec4 where
  m_impl_doc__flat : SDoc → Option ((List UInt8) × Bool)

def m_impl_doc__flat_l1 (N : Nat) (R : Rec4) : Nat → (SDoc × Int × (List UInt8)) → Option ((List UInt8) × Bool)
  | 0, _ => none
  | n1 + 1, (a0, y53, y54) => bif (decide (y53 < (a0.kids.length : Int))) then Option.bind (ix a0.kids y53) fun e76 => Option.bind (R.m_impl_doc__flat e76) fun r78 => bif (!r78.2) then some ([], false) else (Option.bind (app 1 y54 r78.1) fun x80 => (m_impl_doc__flat_l1 N R n1) (a0, (IntKind.wrap .i64 (y53 + 1)), x80)) else (some (y54, true))
def m_impl_doc__flat_F (N : Nat) (R : Rec4) (a0 : SDoc) : Option ((List UInt8) × Bool) :=
  bif (a0.kind == 1) then some (a0.text, true) else (bif (a0.kind == 2) then some ([32], true) else (bif (a0.kind == 3) then some ([], false) else (m_impl_doc__flat_l1 N R N (a0, 0, []))))
def scc4 : Nat → Rec4
  | 0 => ⟨fun _ => none⟩
  | N + 1 => ⟨fun a0 => m_impl_doc__flat_F N (scc4 N) a0⟩
def m_impl_doc__flat (N : Nat) (a0 : SDoc) : Option ((List UInt8) × Bool) := (scc4 N).m_impl_doc__flat a0

/-! ### impl.FlatText -/
def m_impl_FlatText (N : Nat) (a0 : List SDNode) : Option ((List UInt8) × Bool) :=
  Option.bind (m_impl_DocOk N a0) fun r4 => bif (!r4) then some ([], false) else (Option.bind (m_impl_docOf N a0) fun r7 => Option.bind (m_impl_doc__flat N r7) fun r8 => some (r8.1, r8.2))

/-! ### impl.Deeper -/
def m_impl_Deeper (N : Nat) (a0 : List SDNode) (a1 : Int) : Option (List SDNode) :=
  Option.bind (Option.bind (m_impl_DocOk N a0) fun r9 => bif (!r9) then some true else (Option.bind (m_impl_within a1 0 40) fun r10 => bif (!r10) then some true else (some (decide ((IntKind.wrap .i64 ((a0.length : Int) + 1)) > 4000))))) fun y8 => bif y8 then some [] else (Option.bind (m_impl_docOf N a0) fun r13 => Option.bind (m_impl_doc__list N (⟨4, a1, [], [r13], 0⟩ : SDoc)) fun r14 => some r14)

/-! ### strings.Count -/
def m_strings_Count (a0 : List UInt8) : Option Int :=
  Option.bind (ix ([10] : List UInt8) 0) fun b4 => some ((Go.Lib.countByte a0 (Int.toNat ((b4).toNat : Int)).toUInt8) : Int)

/-! ### strings.genSplit -/
def m_strings_genSplit_k2 (N : Nat) : ((List UInt8) × Int × (List (List UInt8))) → Option (List (List UInt8))
  | (y42, y43, y44) => Option.bind (ix y44 y43) fun e47 => Option.bind (upd y44 y43 y42) fun x48 => Option.bind (cut x48 0 (IntKind.wrap .i64 (y43 + 1))) fun l50 => some l50
def m_strings_genSplit_l3 (N : Nat) : Nat → (Int × (List UInt8) × Int × (List UInt8) × Int × (List (List UInt8))) → Option (List (List UInt8))
  | 0, _ => none
  | n3 + 1, (a2, a0, y3, y61, y62, y63) => bif (decide (y62 < (IntKind.wrap .i64 ((if (IntKind.wrap .i64 ((a0.length : Int) + 1)) < y3 then (IntKind.wrap .i64 ((a0.length : Int) + 1)) else y3) - 1)))) then Option.bind (m_strings_Index y61) fun r78 => bif (decide (r78 < 0)) then m_strings_genSplit_k2 N (y61, y62, y63) else (Option.bind (cut y61 0 (IntKind.wrap .i64 (r78 + a2))) fun s82 => Option.bind (ix y63 y62) fun e83 => Option.bind (upd y63 y62 s82) fun x84 => Option.bind (cut y61 (IntKind.wrap .i64 (r78 + 1)) (y61.length : Int)) fun s86 => (m_strings_genSplit_l3 N n3) (a2, a0, y3, s86, (IntKind.wrap .i64 (y62 + 1)), x84)) else (m_strings_genSplit_k2 N (y61, y62, y63))
def m_strings_genSplit_k1 (N : Nat) : ((List UInt8) × Int × Int) → Option (List (List UInt8))
  | (a0, a2, y3) => Option.bind (mk 16 [] (if (IntKind.wrap .i64 ((a0.length : Int) + 1)) < y3 then (IntKind.wrap .i64 ((a0.length : Int) + 1)) else y3)) fun x5 => m_strings_genSplit_l3 N N (a2, a0, y3, a0, 0, x5)
def m_strings_genSplit (N : Nat) (a0 : List UInt8) (a2 : Int) (a3 : Int) : Option (List (List UInt8)) :=
  bif (a3 == 0) then some [] else (bif (decide (a3 < 0)) then Option.bind (m_strings_Count a0) fun r88 => m_strings_genSplit_k1 N (a0, a2, (IntKind.wrap .i64 (r88 + 1))) else (m_strings_genSplit_k1 N (a0, a2, a3)))

/-! ### strings.Split -/
def m_strings_Split (N : Nat) (a0 : List UInt8) : Option (List (List UInt8)) :=
  Option.bind (m_strings_genSplit N a0 0 (-1)) fun r2 => some r2

/-! ### impl.LinesOf -/
def m_impl_LinesOf_k1 (N : Nat) : (List (List UInt8)) → Option (List (List UInt8))
  | y7 => some y7
def m_impl_LinesOf (N : Nat) (a0 : List UInt8) : Option (List (List UInt8)) :=
  Option.bind (m_strings_Split N a0) fun r2 => Option.bind (ix r2 (IntKind.wrap .i64 ((r2.length : Int) - 1))) fun e9 => bif (e9 == []) then Option.bind (cut r2 0 (IntKind.wrap .i64 ((r2.length : Int) - 1))) fun l11 => m_impl_LinesOf_k1 N l11 else (m_impl_LinesOf_k1 N r2)

/-! ### spec.GroupsIn -/
def m_spec_GroupsIn_k2 (N : Nat) (kb1 : ((List SDNode) × Int × Int) → Option Int) : ((List SDNode) × Int × Int) → Option Int
  | (a0, y26, y36) => kb1 (a0, y36, (IntKind.wrap .i64 (y26 + 1)))
def m_spec_GroupsIn_l1 (N : Nat) : Nat → ((List SDNode) × Int × Int) → Option Int
  | 0, _ => none
  | n1 + 1, (a0, y25, y26) => bif (decide (y26 < (a0.length : Int))) then Option.bind (ix a0 y26) fun e38 => bif (e38.Kind == 5) then m_spec_GroupsIn_k2 N (m_spec_GroupsIn_l1 N n1) (a0, y26, (IntKind.wrap .i64 (y25 + 1))) else (m_spec_GroupsIn_k2 N (m_spec_GroupsIn_l1 N n1) (a0, y26, y25)) else (some y25)
def m_spec_GroupsIn (N : Nat) (a0 : List SDNode) : Option Int :=
  m_spec_GroupsIn_l1 N N (a0, 0, 0)

/-! ### laws.FnDocs -/
def m_laws_FnDocs_l1 (N : Nat) : Nat → (((List SDNode) × (List SDNode)) × ((List UInt8) × Bool) × ((List UInt8) × Bool) × ((List UInt8) × Bool) × ((List UInt8) × Bool) × ((List UInt8) × Bool) × Int × (List SDNode) × (List SDNode) × (List (List UInt8)) × (List (List UInt8)) × Int) → Option Bool
  | 0, _ => none
  | n1 + 1, (r6, r24, r26, r30, r34, r38, r40, r8, r20, r48, r52, y145) => bif (decide (y145 < (r48.length : Int))) then Option.bind (Option.bind (ix r48 y145) fun e186 => Option.bind (ix r52 y145) fun e187 => bif ((e186.length : Int) != (IntKind.wrap .i64 ((e187.length : Int) + (Int.tmod r40 5)))) then some true else (Option.bind (ix r48 y145) fun e188 => Option.bind (cut e188 (Int.tmod r40 5) (e188.length : Int)) fun s189 => Option.bind (ix r52 y145) fun e190 => some (!(s189 == e190)))) fun y185 => bif y185 then some false else ((m_laws_FnDocs_l1 N n1) (r6, r24, r26, r30, r34, r38, r40, r8, r20, r48, r52, (IntKind.wrap .i64 (y145 + 1)))) else (Option.bind (bif (r24.1 == r26.1) then bif r30.2 then Option.bind (cat r34.1 r38.1) fun s200 => bif (r30.1 == s200) then Option.bind (m_impl_GroupsIn N r20) fun r201 => bif (r201 == 0) then Option.bind (m_impl_GroupsIn N r8) fun r202 => Option.bind (m_spec_GroupsIn N r6.1) fun r203 => Option.bind (m_spec_GroupsIn N r6.2) fun r204 => bif (r202 == (IntKind.wrap .i64 (r203 + r204))) then Option.bind (m_spec_DocOk N r8) fun r205 => bif r205 then bif ((r48.length : Int) == 0) then some true else (Option.bind (ix r48 0) fun e206 => Option.bind (ix r52 0) fun e207 => some (e206 == e207)) else (some false) else (some false) else (some false) else (some false) else (some false) else (some false)) fun y199 => some y199)
def m_laws_FnDocs (N : Nat) (a0 : List UInt8) : Option Bool :=
  Option.bind (m_laws_big a0) fun r4 => bif r4 then some true else (Option.bind (m_spec_DrawJoined N a0) fun r6 => Option.bind (m_impl_Joined N r6.1 r6.2) fun r8 => Option.bind (Option.bind (m_spec_DocOk N r6.1) fun r17 => bif (!r17) then some true else (Option.bind (m_spec_DocOk N r6.2) fun r18 => some (!r18))) fun y16 => bif y16 then some ((r8.length : Int) == 0) else (bif ((r8.length : Int) == 0) then some (decide ((IntKind.wrap .i64 ((r6.1.length : Int) + (r6.2.length : Int))) ≥ 4000)) else (Option.bind (m_impl_Ungrouped N r6.1) fun r20 => Option.bind (m_laws_at a0 0) fun r22 => Option.bind (m_impl_Render N r20 (Int.tmod r22 50)) fun r24 => Option.bind (m_impl_Render N r20 10000) fun r26 => Option.bind (m_impl_Softened N r8) fun r29 => Option.bind (m_impl_FlatText N r29) fun r30 => Option.bind (m_impl_Softened N r6.1) fun r33 => Option.bind (m_impl_FlatText N r33) fun r34 => Option.bind (m_impl_Softened N r6.2) fun r37 => Option.bind (m_impl_FlatText N r37) fun r38 => Option.bind (m_laws_at a0 1) fun r40 => Option.bind (m_impl_Deeper N r20 (Int.tmod r40 5)) fun r42 => Option.bind (m_impl_Render N r42 (Int.tmod r22 50)) fun r44 => Option.bind (cat r44.1 ([46] : List UInt8)) fun s47 => Option.bind (m_impl_LinesOf N s47) fun r48 => Option.bind (cat r24.1 ([46] : List UInt8)) fun s51 => Option.bind (m_impl_LinesOf N s51) fun r52 => Option.bind (bif ((r48.length : Int) != (r52.length : Int)) then some true else (some (!r44.2))) fun y54 => bif y54 then some false else (m_laws_FnDocs_l1 N N (r6, r24, r26, r30, r34, r38, r40, r8, r20, r48, r52, 1)))))

end Go.Proofs.Tryd

/-
  Models of the functions that this seat reaches.
-/
import Derived.Test.YtjlakgfgicjffaaGreatDoorSTab
import Derived.Test.YtjlakgfgicjffaaGreatDoorSCore6
namespace Go.Proofs.Tryz
open Go.Av
set_option maxRecDepth 100000
set_option maxHeartbeats 8000000
set_option linter.unusedSimpArgs false
set_option linter.unusedVariables false

def tab_builtins : List (List UInt8) := [[97, 116, 97, 110, 50], [99, 108, 111, 115, 101], [99, 111, 115], [101, 120, 112], [103, 115, 117, 98], [105, 110, 100, 101, 120], [105, 110, 116], [108, 101, 110, 103, 116, 104], [108, 111, 103], [109, 97, 116, 99, 104], [114, 97, 110, 100], [115, 105, 110], [115, 112, 108, 105, 116], [115, 112, 114, 105, 110, 116, 102], [115, 113, 114, 116], [115, 114, 97, 110, 100], [115, 117, 98], [115, 117, 98, 115, 116, 114], [115, 121, 115, 116, 101, 109], [116, 111, 108, 111, 119, 101, 114], [116, 111, 117, 112, 112, 101, 114]]
def tab_keywords : List (List UInt8) := [[66, 69, 71, 73, 78], [69, 78, 68], [102, 117, 110, 99, 116, 105, 111, 110], [105, 102], [101, 108, 115, 101], [119, 104, 105, 108, 101], [102, 111, 114], [100, 111], [98, 114, 101, 97, 107], [99, 111, 110, 116, 105, 110, 117, 101], [110, 101, 120, 116], [101, 120, 105, 116], [114, 101, 116, 117, 114, 110], [100, 101, 108, 101, 116, 101], [105, 110], [112, 114, 105, 110, 116], [112, 114, 105, 110, 116, 102]]
def tab_signs : List (List UInt8) := [[123], [125], [40], [41], [91], [93], [44], [59], [43, 61], [45, 61], [42, 61], [47, 61], [37, 61], [94, 61], [124, 124], [38, 38], [33, 126], [61, 61], [60, 61], [62, 61], [33, 61], [43, 43], [45, 45], [62, 62], [61], [43], [45], [42], [47], [37], [94], [33], [62], [60], [124], [63], [58], [126], [36]]
def GG : Nat → Option (List V)
  | 0 => some (tab_builtins.map V.s)
  | 1 => some (tab_keywords.map V.s)
  | 2 => some (tab_signs.map V.s)
  | _ => none
def GS (l : List Nat) (g : Nat) : Option (List V) := bif l.contains g then GG g else none

theorem AC.gs {f : FuncId} {vs : List V} {H : Hp} {r : V} {H1 : Hp} {l l1 : List Nat} (h : AC Tryz.prog (GS l) f vs H r H1) (hs : (l.all fun g => l1.contains g) = true) : AC Tryz.prog (GS l1) f vs H r H1 := by
  refine Go.Av.AC.mono h fun g cs hg => ?_
  unfold GS at hg ⊢
  cases hc : l.contains g with
  | false => rw [hc] at hg; cases hg
  | true =>
    rw [hc] at hg
    have := List.all_eq_true.1 hs g (List.contains_iff_mem.1 hc)
    rw [this]
    exact hg

theorem mix : Tryz.prog.follows .mixedOrders = true := by kernel_rfl

theorem wR {G : Nat → Option (List V)} {ops : Array Oper} {draw : Bool} {T0 : List V} {H0 : Hp} {Q : St → Prop} (n q : Nat) {i : Nat} {T : List V} {H : Hp} {Es : List (Bool × Eff)} (k : W Tryz.prog G ops draw T0 H0 (i + n) (aftE D G ops n q i T H).T (aftE D G ops n q i T H).H (Es ++ (aftE D G ops n q i T H).Es) Q) (h : (runE D G ops n q i T H).isSome = true := by kernel_rfl) : W Tryz.prog G ops draw T0 H0 i T H Es Q := W.run Dk n q h k
theorem cU {G : Nat → Option (List V)} {L : Option Nat} (n q : Nat) (T' : List V) (H' : Hp) {id : Nat} {l : List Oper} {draw : Bool} {c : Code} {T : List V} {H : Hp} {Q : Exit → St → Prop} (k : CO L Tryz.prog G c ⟨T', H'⟩ Q) (h : cuC D G l.toArray draw n q T H T' H' = (true, T', some H') := by kernel_rfl) : CO L Tryz.prog G (.seq (.region id l.toArray draw) c) ⟨T, H⟩ Q := cu Dk mix n q T' H' h k
theorem cE {G : Nat → Option (List V)} {L : Option Nat} (n q : Nat) (T' : List V) (H' : Hp) {id : Nat} {l : List Oper} {draw : Bool} {T : List V} {H : Hp} {Q : Exit → St → Prop} (hQ : ∀ st, Weak st ⟨T', H'⟩ → Q .normal st) (h : cuC D G l.toArray draw n q T H T' H' = (true, T', some H') := by kernel_rfl) : CO L Tryz.prog G (.region id l.toArray draw) ⟨T, H⟩ Q := ce Dk mix n q T' H' h hQ

theorem cV {G : Nat → Option (List V)} {L : Option Nat} (q : Nat) {id : Nat} {l : List Oper} {draw : Bool} {c : Code} {T : List V} {H : Hp} {Q : Exit → St → Prop} (k : CO L Tryz.prog G c ⟨(aftE D G l.toArray l.toArray.size q 0 T H).T, (aftE D G l.toArray l.toArray.size q 0 T H).H⟩ Q) (h : lzB D G l.toArray draw q T H = true := by kernel_rfl) : CO L Tryz.prog G (.seq (.region id l.toArray draw) c) ⟨T, H⟩ Q := cv Dk mix q k h
theorem cK {G : Nat → Option (List V)} {L : Option Nat} (q : Nat) {ι : Type} {J : ι → St} {R : ι → Prop} {id : Nat} {l : List Oper} {draw : Bool} {T : List V} {H : Hp} {Q : Exit → St → Prop} (hk : ∀ i, R i → ∀ st, Weak st (J i) → Q .normal st) (i : ι) (hi : R i) (m : Ren) (ks : List Nat) (h : jnC m ks (lzB D G l.toArray draw q T H) (aftE D G l.toArray l.toArray.size q 0 T H).T (aftE D G l.toArray l.toArray.size q 0 T H).H = (true, (J i).T, some (J i).H) := by kernel_rfl) : CO L Tryz.prog G (.region id l.toArray draw) ⟨T, H⟩ Q := ck Dk mix q hk i hi m ks h
theorem cC {G : Nat → Option (List V)} {L : Option Nat} (n q : Nat) {id : Nat} {l : List Oper} {draw : Bool} {c : Code} {T : List V} {H : Hp} {Q : Exit → St → Prop} {fid : FuncId} {vs : List V} {rc : V} (hA : AC Tryz.prog G fid vs [] rc []) (hcf : callOk Tryz.prog fid) (k : CO L Tryz.prog G c ⟨(ccR D G l.toArray n q rc T H).T, (ccR D G l.toArray n q rc T H).H⟩ Q) (h : ccC D G l.toArray draw n q rc T H = (true, some (fid, vs, []), rc) := by kernel_rfl) : CO L Tryz.prog G (.seq (.region id l.toArray draw) c) ⟨T, H⟩ Q := cc Dk mix n q hA hcf k h


structure SNode where
  Kind : Int
  Op : Int
  Text : List UInt8
  Other : List UInt8
  Kids : List Int
  deriving DecidableEq, Inhabited

def eSN (b : Bool) (x : SNode) : List V := [V.i x.Kind, V.i x.Op, V.s x.Text, V.s x.Other, .sl false b (x.Kids.map eNI)]

theorem sh_eSN (b : Bool) (x : SNode) : V.shareL (eSN b x) = eSN false x := by
  simp only [eSN, V.shareL, V.share, V.i, V.s, V.b, shareR_map (enc := eNI) (enc' := eNI) (fun _ => rfl)]

structure SHole where
  Name : List UInt8
  Part : List SNode
  deriving DecidableEq, Inhabited

def encSHole (b : Bool) (x : SHole) : List V := [V.s x.Name, .sl false b (x.Part.map (eSN b))]

theorem share_encSHole (b : Bool) (x : SHole) : V.shareL (encSHole b x) = encSHole false x := by
  simp only [encSHole, V.shareL, V.share, V.i, V.s, V.b, shareR_map (enc := (eSN b)) (enc' := (eSN false)) (sh_eSN _)]

structure SToken where
  Kind : Int
  Text : List UInt8
  At : Int
  deriving DecidableEq, Inhabited

def encSToken (x : SToken) : List V := [V.i x.Kind, V.s x.Text, V.i x.At]

structure STree where
  kind : Int
  op : Int
  text : List UInt8
  other : List UInt8
  kids : List STree

instance : Inhabited STree := ⟨⟨0, 0, [], [], []⟩⟩

theorem STree.lt (x : STree) (y : STree) (h : y ∈ x.kids) : SizeOf.sizeOf y < SizeOf.sizeOf x := by
  have := List.sizeOf_lt_of_mem h
  cases x
  simp only [STree.mk.sizeOf_spec] at *
  omega

def eST (x : STree) : List V := [V.i x.kind, V.i x.op, V.s x.text, V.s x.other, .sl false false (x.kids.attach.map fun y => eST y.1)]
termination_by SizeOf.sizeOf x
decreasing_by exact STree.lt x y.1 y.2

theorem encSTree_eq (x : STree) : eST x = [V.i x.kind, V.i x.op, V.s x.text, V.s x.other, .sl false false (x.kids.map eST)] := by
  rw [eST]
  simp only [List.attach_map_val (f := eST), List.map_attach_eq_pmap, List.pmap_eq_map]

theorem share_encSTree (x : STree) : V.shareL (eST x) = eST x := by
  have hk : x.kids.map (V.shareL ∘ eST) = x.kids.map eST := List.map_congr_left fun y hy => share_encSTree y
  rw [encSTree_eq]
  simp only [V.shareL, V.share, V.shareR_eq, V.i, V.s, V.b, List.map_map]
  rw [hk]
termination_by SizeOf.sizeOf x
decreasing_by exact STree.lt x y hy

structure SFilling where
  name : List UInt8
  tree : STree
  deriving Inhabited

def encSFilling (x : SFilling) : List V := [V.s x.name, V.i x.tree.kind, V.i x.tree.op, V.s x.tree.text, V.s x.tree.other, .sl false false (x.tree.kids.map eST)]

theorem share_encSFilling (x : SFilling) : V.shareL (encSFilling x) = encSFilling x := by
  simp only [encSFilling, V.shareL, V.share, V.i, V.s, V.b, shareR_map (enc := eST) (enc' := eST) (share_encSTree)]

structure SForm where
  op : Bool
  text : Bool
  other : Bool
  least : Int
  most : Int
  deriving DecidableEq, Inhabited

def encSForm (x : SForm) : List V := [V.b x.op, V.b x.text, V.b x.other, V.i x.least, V.i x.most]

def ml_szIntS (a0 : List Int) (a1 : Int) : Option Int :=
  bif (decide ((IntKind.wrap .i64 (a1 - (a0.length : Int))) < 0)) then some (-1) else (some (IntKind.wrap .i64 (a1 - (a0.length : Int))))

def ml_szNode (a0 : SNode) (a1 : Int) : Option Int :=
  bif (decide ((IntKind.wrap .i64 (a1 - (a0.Text.length : Int))) < 0)) then some (-1) else (bif (decide ((IntKind.wrap .i64 ((IntKind.wrap .i64 (a1 - (a0.Text.length : Int))) - (a0.Other.length : Int))) < 0)) then some (-1) else ((ml_szIntS a0.Kids (IntKind.wrap .i64 ((IntKind.wrap .i64 (a1 - (a0.Text.length : Int))) - (a0.Other.length : Int)))).bind fun r2 => bif (decide (r2 < 0)) then some (-1) else (some r2)))

def ml_szNodeS_l1 (N : Nat) : Nat → ((List SNode) × Int × Int) → Option Int
  | 0, _ => none
  | n1 + 1, (a0, y37, y38) => bif (decide (y38 < (a0.length : Int))) then (ix a0 y38).bind fun e55 => (ml_szNode e55 y37).bind fun r56 => bif (decide (r56 < 0)) then some (-1) else ((ml_szNodeS_l1 N n1) (a0, r56, (IntKind.wrap .i64 (y38 + 1)))) else (some y37)
def ml_szNodeS (N : Nat) (a0 : List SNode) (a1 : Int) : Option Int :=
  bif (decide ((IntKind.wrap .i64 (a1 - (a0.length : Int))) < 0)) then some (-1) else (ml_szNodeS_l1 N N (a0, (IntKind.wrap .i64 (a1 - (a0.length : Int))), 0))

def ml_szHole (N : Nat) (a0 : SHole) (a1 : Int) : Option Int :=
  bif (decide ((IntKind.wrap .i64 (a1 - (a0.Name.length : Int))) < 0)) then some (-1) else ((ml_szNodeS N a0.Part (IntKind.wrap .i64 (a1 - (a0.Name.length : Int)))).bind fun r2 => bif (decide (r2 < 0)) then some (-1) else (some r2))

def ml_szHoleS_l1 (N : Nat) : Nat → ((List SHole) × Int × Int) → Option Int
  | 0, _ => none
  | n1 + 1, (a0, y37, y38) => bif (decide (y38 < (a0.length : Int))) then (ix a0 y38).bind fun e55 => (ml_szHole N e55 y37).bind fun r56 => bif (decide (r56 < 0)) then some (-1) else ((ml_szHoleS_l1 N n1) (a0, r56, (IntKind.wrap .i64 (y38 + 1)))) else (some y37)
def ml_szHoleS (N : Nat) (a0 : List SHole) (a1 : Int) : Option Int :=
  bif (decide ((IntKind.wrap .i64 (a1 - (a0.length : Int))) < 0)) then some (-1) else (ml_szHoleS_l1 N N (a0, (IntKind.wrap .i64 (a1 - (a0.length : Int))), 0))

def ml_toIntS_l1 (N : Nat) : Nat → ((List Int) × Int × (List Int)) → Option (List Int)
  | 0, _ => none
  | n1 + 1, (a0, y55, y56) => bif (decide (y55 < (a0.length : Int))) then (ix a0 y55).bind fun e80 => (ix y56 y55).bind fun e81 => (upd y56 y55 e80).bind fun x82 => (ml_toIntS_l1 N n1) (a0, (IntKind.wrap .i64 (y55 + 1)), x82) else (some y56)
def ml_toIntS (N : Nat) (a0 : List Int) : Option (List Int) :=
  (mk 8 0 (a0.length : Int)).bind fun x2 => ml_toIntS_l1 N N (a0, 0, x2)

def ml_toNode (N : Nat) (a0 : SNode) : Option SNode :=
  (ml_toIntS N a0.Kids).bind fun r2 => some (⟨a0.Kind, a0.Op, a0.Text, a0.Other, r2⟩ : SNode)

def ml_toNodeS_l1 (N : Nat) : Nat → ((List SNode) × Int × (List SNode)) → Option (List SNode)
  | 0, _ => none
  | n1 + 1, (a0, y71, y72) => bif (decide (y71 < (a0.length : Int))) then (ix a0 y71).bind fun e103 => (ml_toNode N e103).bind fun r104 => (ix y72 y71).bind fun e105 => (upd y72 y71 r104).bind fun x106 => (ml_toNodeS_l1 N n1) (a0, (IntKind.wrap .i64 (y71 + 1)), x106) else (some y72)
def ml_toNodeS (N : Nat) (a0 : List SNode) : Option (List SNode) :=
  (mk 72 (⟨0, 0, [], [], []⟩ : SNode) (a0.length : Int)).bind fun x2 => ml_toNodeS_l1 N N (a0, 0, x2)

def ml_toHole (N : Nat) (a0 : SHole) : Option SHole :=
  (ml_toNodeS N a0.Part).bind fun r2 => some (⟨a0.Name, r2⟩ : SHole)

def ml_toHoleS_l1 (N : Nat) : Nat → ((List SHole) × Int × (List SHole)) → Option (List SHole)
  | 0, _ => none
  | n1 + 1, (a0, y71, y72) => bif (decide (y71 < (a0.length : Int))) then (ix a0 y71).bind fun e103 => (ml_toHole N e103).bind fun r104 => (ix y72 y71).bind fun e105 => (upd y72 y71 r104).bind fun x106 => (ml_toHoleS_l1 N n1) (a0, (IntKind.wrap .i64 (y71 + 1)), x106) else (some y72)
def ml_toHoleS (N : Nat) (a0 : List SHole) : Option (List SHole) :=
  (mk 40 (⟨[], []⟩ : SHole) (a0.length : Int)).bind fun x2 => ml_toHoleS_l1 N N (a0, 0, x2)

def ms_l1In (a0 : Int) (a1 : Int) (a2 : Int) : Option Bool :=
  (bif (decide (a0 ≥ a1)) then some (decide (a0 ≤ a2)) else (some false)).bind fun y1 => some y1

def ms_l6Starts_l2 (N : Nat) (kb1 : ((List SNode) × Int × (List Int)) → Option ((List Int) × Bool)) : Nat → ((List SNode) × Int × (List Int) × Int × Int) → Option ((List Int) × Bool)
  | 0, _ => none
  | n2 + 1, (a0, y917, y918, y1499, y1500) => bif (decide (y1500 ≥ 0)) then ((ix a0 y917).bind fun e1547 => (ix e1547.Kids y1500).bind fun e1548 => bif (e1548 != (IntKind.wrap .i64 (y1499 - 1))) then some true else (some (y1499 == 0))).bind fun y1546 => bif y1546 then some ([], false) else ((ix y918 (IntKind.wrap .i64 (y1499 - 1))).bind fun e1550 => (ms_l6Starts_l2 N kb1 n2) (a0, y917, y918, e1550, (IntKind.wrap .i64 (y1500 - 1)))) else ((app 8 y918 [y1499]).bind fun x1552 => kb1 (a0, (IntKind.wrap .i64 (y917 + 1)), x1552))
def ms_l6Starts_l1 (N : Nat) : Nat → ((List SNode) × Int × (List Int)) → Option ((List Int) × Bool)
  | 0, _ => none
  | n1 + 1, (a0, y917, y918) => bif (decide (y917 < (a0.length : Int))) then (ix a0 y917).bind fun e1474 => ms_l6Starts_l2 N (ms_l6Starts_l1 N n1) N (a0, y917, y918, y917, (IntKind.wrap .i64 ((e1474.Kids.length : Int) - 1))) else (some (y918, true))
def ms_l6Starts (N : Nat) (a0 : List SNode) : Option ((List Int) × Bool) :=
  ms_l6Starts_l1 N N (a0, 0, [])

def ms_ShapeOk (N : Nat) (a0 : List SNode) : Option Bool :=
  (ms_l1In (a0.length : Int) 1 400).bind fun r4 => bif (!r4) then some false else ((ms_l6Starts N a0).bind fun r6 => (bif r6.2 then (ix r6.1 (IntKind.wrap .i64 ((a0.length : Int) - 1))).bind fun e9 => some (e9 == 0) else (some false)).bind fun y8 => some y8)

def ms_DepthOf_l2 (N : Nat) (kb1 : ((List SNode) × Int × (List Int)) → Option Int) : Nat → ((List SNode) × Int × (List Int) × Int × Int) → Option Int
  | 0, _ => none
  | n2 + 1, (a0, y857, y858, y1247, y1248) => (ix a0 y857).bind fun e1270 => bif (decide (y1248 < (e1270.Kids.length : Int))) then (ix a0 y857).bind fun e1280 => (ix e1280.Kids y1248).bind fun e1281 => (ix y858 e1281).bind fun e1282 => (ms_DepthOf_l2 N kb1 n2) (a0, y857, y858, (if (IntKind.wrap .i64 (1 + e1282)) > y1247 then (IntKind.wrap .i64 (1 + e1282)) else y1247), (IntKind.wrap .i64 (y1248 + 1))) else ((app 8 y858 [y1247]).bind fun x1284 => kb1 (a0, (IntKind.wrap .i64 (y857 + 1)), x1284))
def ms_DepthOf_l1 (N : Nat) : Nat → ((List SNode) × Int × (List Int)) → Option Int
  | 0, _ => none
  | n1 + 1, (a0, y857, y858) => bif (decide (y857 < (a0.length : Int))) then ms_DepthOf_l2 N (ms_DepthOf_l1 N n1) N (a0, y857, y858, 1, 0) else ((ix y858 (IntKind.wrap .i64 ((a0.length : Int) - 1))).bind fun e1286 => some e1286)
def ms_DepthOf (N : Nat) (a0 : List SNode) : Option Int :=
  (ms_ShapeOk N a0).bind fun r4 => bif (!r4) then some 0 else (ms_DepthOf_l1 N N (a0, 0, []))

def ms_l7Many_k6 : (SNode × Bool) → Option (Int × Int)
  | (a0, y12) => bif y12 then some (0, (a0.Kids.length : Int)) else (bif (a0.Kind == 42) then some ((IntKind.wrap .i64 (1 + (IntKind.wrap .i64 (Int.tdiv a0.Op 3)))), (IntKind.wrap .i64 (1 + (IntKind.wrap .i64 (Int.tdiv a0.Op 3))))) else (bif (a0.Kind == 43) then some ((IntKind.wrap .i64 (2 + (IntKind.wrap .i64 (Int.tdiv a0.Op 3)))), (IntKind.wrap .i64 (2 + (IntKind.wrap .i64 (Int.tdiv a0.Op 3))))) else (bif (a0.Kind == 44) then some (1, 7) else (some (0, 0)))))
def ms_l7Many_k5 : (SNode × Bool) → Option (Int × Int)
  | (a0, y11) => bif y11 then some (0, 1) else (bif (a0.Kind == 28) then some (2, 3) else (bif (a0.Kind == 31) then some (4, 4) else (bif (a0.Kind == 33) then ms_l7Many_k6 (a0, (a0.Kind == 33)) else (ms_l7Many_k6 (a0, (a0.Kind == 45))))))
def ms_l7Many_k4 : (SNode × Bool) → Option (Int × Int)
  | (a0, y10) => bif y10 then some (2, 2) else (bif (a0.Kind == 14) then some (3, 3) else (bif (a0.Kind == 21) then bif (!(a0.Other == [])) then some ((IntKind.wrap .i64 (a0.Op + 1)), 7) else (some (a0.Op, 6)) else (bif (a0.Kind == 23) then ms_l7Many_k5 (a0, (a0.Kind == 23)) else (ms_l7Many_k5 (a0, (a0.Kind == 24))))))
def ms_l7Many_k3 : (SNode × Bool) → Option (Int × Int)
  | (a0, y9) => bif y9 then some (1, 1) else (bif (a0.Kind == 12) then ms_l7Many_k4 (a0, (a0.Kind == 12)) else (bif (a0.Kind == 15) then ms_l7Many_k4 (a0, (a0.Kind == 15)) else (bif (a0.Kind == 29) then ms_l7Many_k4 (a0, (a0.Kind == 29)) else (ms_l7Many_k4 (a0, (a0.Kind == 30))))))
def ms_l7Many_k2 : (SNode × Bool) → Option (Int × Int)
  | (a0, y8) => bif y8 then some (0, 6) else (bif (a0.Kind == 6) then ms_l7Many_k3 (a0, (a0.Kind == 6)) else (bif (a0.Kind == 9) then ms_l7Many_k3 (a0, (a0.Kind == 9)) else (bif (a0.Kind == 10) then ms_l7Many_k3 (a0, (a0.Kind == 10)) else (bif (a0.Kind == 11) then ms_l7Many_k3 (a0, (a0.Kind == 11)) else (bif (a0.Kind == 20) then ms_l7Many_k3 (a0, (a0.Kind == 20)) else (bif (a0.Kind == 32) then ms_l7Many_k3 (a0, (a0.Kind == 32)) else (bif (a0.Kind == 40) then ms_l7Many_k3 (a0, (a0.Kind == 40)) else (ms_l7Many_k3 (a0, (a0.Kind == 41))))))))))
def ms_l7Many_k1 : (SNode × Bool) → Option (Int × Int)
  | (a0, y7) => bif y7 then some (1, 6) else (bif (a0.Kind == 7) then ms_l7Many_k2 (a0, (a0.Kind == 7)) else (bif (a0.Kind == 8) then ms_l7Many_k2 (a0, (a0.Kind == 8)) else (ms_l7Many_k2 (a0, (a0.Kind == 27)))))
def ms_l7Many (a0 : SNode) : Option (Int × Int) :=
  bif (a0.Kind == 5) then ms_l7Many_k1 (a0, (a0.Kind == 5)) else (ms_l7Many_k1 (a0, (a0.Kind == 13)))

def ms_l7IsBin_k1 : Bool → Option Bool
  | y2 => bif y2 then some true else (some false)
def ms_l7IsBin (a0 : Int) : Option Bool :=
  bif (a0 == 60) then ms_l7IsBin_k1 (a0 == 60) else (bif (a0 == 57) then ms_l7IsBin_k1 (a0 == 57) else (bif (a0 == 58) then ms_l7IsBin_k1 (a0 == 58) else (bif (a0 == 59) then ms_l7IsBin_k1 (a0 == 59) else (bif (a0 == 55) then ms_l7IsBin_k1 (a0 == 55) else (bif (a0 == 56) then ms_l7IsBin_k1 (a0 == 56) else (bif (a0 == 99) then ms_l7IsBin_k1 (a0 == 99) else (bif (a0 == 63) then ms_l7IsBin_k1 (a0 == 63) else (bif (a0 == 48) then ms_l7IsBin_k1 (a0 == 48) else (bif (a0 == 47) then ms_l7IsBin_k1 (a0 == 47) else (bif (a0 == 50) then ms_l7IsBin_k1 (a0 == 50) else (bif (a0 == 62) then ms_l7IsBin_k1 (a0 == 62) else (bif (a0 == 49) then ms_l7IsBin_k1 (a0 == 49) else (bif (a0 == 67) then ms_l7IsBin_k1 (a0 == 67) else (bif (a0 == 46) then ms_l7IsBin_k1 (a0 == 46) else (bif (a0 == 45) then ms_l7IsBin_k1 (a0 == 45) else (ms_l7IsBin_k1 (a0 == 44)))))))))))))))))

def ms_l7IsAssign (a0 : Int) : Option Bool :=
  (bif (a0 == 54) then some true else ((ms_l1In a0 38 43).bind fun r3 => some r3)).bind fun y2 => some y2

def ms_l7Op_k1 : (SNode × Bool) → Option Bool
  | (a0, y13) => bif y13 then (bif (a0.Op == 51) then some true else (some (a0.Op == 52))).bind fun y14 => some y14 else (bif (a0.Kind == 11) then (bif (a0.Op == 55) then some true else (bif (a0.Op == 56) then some true else (some (a0.Op == 61)))).bind fun y15 => some y15 else (bif (a0.Kind == 12) then (ms_l7IsBin a0.Op).bind fun r17 => some r17 else (bif (a0.Kind == 15) then (ms_l7IsAssign a0.Op).bind fun r19 => some r19 else (bif (a0.Kind == 21) then (ms_l1In a0.Op 0 1).bind fun r21 => some r21 else (bif (a0.Kind == 42) then (ms_l1In a0.Op 1 3).bind fun r23 => some r23 else (bif (a0.Kind == 43) then (bif (a0.Op == 1) then some true else (some (a0.Op == 3))).bind fun y24 => some y24 else (some (a0.Op == 0))))))))
def ms_l7Op (a0 : SNode) : Option Bool :=
  bif (a0.Kind == 9) then ms_l7Op_k1 (a0, (a0.Kind == 9)) else (ms_l7Op_k1 (a0, (a0.Kind == 10)))

def ms_IsLetter (a0 : Int) : Option Bool :=
  ((ms_l1In a0 97 122).bind fun r4 => bif r4 then some true else ((ms_l1In a0 65 90).bind fun r5 => bif r5 then some true else (some (a0 == 95)))).bind fun y3 => some y3

def ms_IsDigit (a0 : Int) : Option Bool :=
  (ms_l1In a0 48 57).bind fun r2 => some r2

def ms_IsWordByte (a0 : Int) : Option Bool :=
  ((ms_IsLetter a0).bind fun r4 => bif r4 then some true else ((ms_IsDigit a0).bind fun r5 => some r5)).bind fun y3 => some y3

def ms_NameShape_l1 (N : Nat) : Nat → ((List UInt8) × Int) → Option Bool
  | 0, _ => none
  | n1 + 1, (a0, y35) => bif (decide (y35 < (a0.length : Int))) then (ix a0 y35).bind fun b51 => (ms_IsWordByte (IntKind.wrap .i64 ((b51).toNat : Int))).bind fun r52 => bif (!r52) then some false else ((ms_NameShape_l1 N n1) (a0, (IntKind.wrap .i64 (y35 + 1)))) else (((ms_l1In (a0.length : Int) 1 12).bind fun r57 => bif r57 then (ix a0 0).bind fun b58 => (ms_IsLetter (IntKind.wrap .i64 ((b58).toNat : Int))).bind fun r59 => some r59 else (some false)).bind fun y56 => some y56)
def ms_NameShape (N : Nat) (a0 : List UInt8) : Option Bool :=
  ms_NameShape_l1 N N (a0, 0)

def ms_l3Words : Option (List (List UInt8)) :=
  some [[66, 69, 71, 73, 78], [69, 78, 68], [102, 117, 110, 99, 116, 105, 111, 110], [105, 102], [101, 108, 115, 101], [119, 104, 105, 108, 101], [102, 111, 114], [100, 111], [98, 114, 101, 97, 107], [99, 111, 110, 116, 105, 110, 117, 101], [110, 101, 120, 116], [101, 120, 105, 116], [114, 101, 116, 117, 114, 110], [100, 101, 108, 101, 116, 101], [105, 110], [112, 114, 105, 110, 116], [112, 114, 105, 110, 116, 102]]

def ms_l3Find_l1 (N : Nat) : Nat → ((List (List UInt8)) × (List UInt8) × Int) → Option Int
  | 0, _ => none
  | n1 + 1, (a0, a1, y19) => bif (decide (y19 < (a0.length : Int))) then (ix a0 y19).bind fun e28 => bif (e28 == a1) then some y19 else ((ms_l3Find_l1 N n1) (a0, a1, (IntKind.wrap .i64 (y19 + 1)))) else (some (-1))
def ms_l3Find (N : Nat) (a0 : List (List UInt8)) (a1 : List UInt8) : Option Int :=
  ms_l3Find_l1 N N (a0, a1, 0)

def ms_KeywordOf (N : Nat) (a0 : List UInt8) : Option Int :=
  Option.bind ms_l3Words fun r3 => (ms_l3Find N r3 a0).bind fun r4 => bif (decide (r4 < 0)) then some 0 else (some (IntKind.wrap .i64 (10 + r4)))

def ms_l3Builtins : Option (List (List UInt8)) :=
  some [[97, 116, 97, 110, 50], [99, 108, 111, 115, 101], [99, 111, 115], [101, 120, 112], [103, 115, 117, 98], [105, 110, 100, 101, 120], [105, 110, 116], [108, 101, 110, 103, 116, 104], [108, 111, 103], [109, 97, 116, 99, 104], [114, 97, 110, 100], [115, 105, 110], [115, 112, 108, 105, 116], [115, 112, 114, 105, 110, 116, 102], [115, 113, 114, 116], [115, 114, 97, 110, 100], [115, 117, 98], [115, 117, 98, 115, 116, 114], [115, 121, 115, 116, 101, 109], [116, 111, 108, 111, 119, 101, 114], [116, 111, 117, 112, 112, 101, 114]]

def ms_IsBuiltin (N : Nat) (a0 : List UInt8) : Option Bool :=
  Option.bind ms_l3Builtins fun r3 => (ms_l3Find N r3 a0).bind fun r4 => some (decide (r4 ≥ 0))

def ms_NameOk (N : Nat) (a0 : List UInt8) : Option Bool :=
  ((ms_NameShape N a0).bind fun r5 => bif r5 then (ms_KeywordOf N a0).bind fun r6 => bif (r6 == 0) then (ms_IsBuiltin N a0).bind fun r7 => some (!r7) else (some false) else (some false)).bind fun y4 => some y4

def ms_l4Plain_l1 (N : Nat) : Nat → ((List UInt8) × Int) → Option Bool
  | 0, _ => none
  | n1 + 1, (a0, y19) => bif (decide (y19 < (a0.length : Int))) then (ix a0 y19).bind fun b28 => bif (((b28).toNat : Int) == 10) then some false else ((ms_l4Plain_l1 N n1) (a0, (IntKind.wrap .i64 (y19 + 1)))) else (some true)
def ms_l4Plain (N : Nat) (a0 : List UInt8) : Option Bool :=
  ms_l4Plain_l1 N N (a0, 0)

def ms_l4Byte (a0 : List UInt8) (a1 : Int) : Option Int :=
  (bif (decide (a1 < 0)) then some true else (some (decide (a1 ≥ (a0.length : Int))))).bind fun y2 => bif y2 then some (-1) else ((ix a0 a1).bind fun b4 => some (IntKind.wrap .i64 ((b4).toNat : Int)))

def ms_l4Digits_l1 (N : Nat) : Nat → ((List UInt8) × Int) → Option Int
  | 0, _ => none
  | n1 + 1, (a0, a1) => (ms_l4Byte a0 a1).bind fun r33 => (ms_IsDigit r33).bind fun r34 => bif r34 then (ms_l4Digits_l1 N n1) (a0, (IntKind.wrap .i64 (a1 + 1))) else (some a1)
def ms_l4Digits (N : Nat) (a0 : List UInt8) (a1 : Int) : Option Int :=
  ms_l4Digits_l1 N N (a0, a1)

def ms_NumEnd_k2 (N : Nat) : Int → Option Int
  | y9 => some y9
def ms_NumEnd_k3 (N : Nat) : ((List UInt8) × Int × Int) → Option Int
  | (a0, y9, y40) => (ms_l4Digits N a0 y40).bind fun r42 => bif (decide (r42 > y40)) then (ms_l4Digits N a0 y40).bind fun r44 => some r44 else (ms_NumEnd_k2 N y9)
def ms_NumEnd_k1 (N : Nat) : ((List UInt8) × Int × Int) → Option Int
  | (a0, a1, y9) => bif (y9 == a1) then some (-1) else (((ms_l4Byte a0 y9).bind fun r33 => bif (r33 == 101) then some true else ((ms_l4Byte a0 y9).bind fun r34 => some (r34 == 69))).bind fun y32 => bif y32 then ((ms_l4Byte a0 (IntKind.wrap .i64 (y9 + 1))).bind fun r48 => bif (r48 == 43) then some true else ((ms_l4Byte a0 (IntKind.wrap .i64 (y9 + 1))).bind fun r49 => some (r49 == 45))).bind fun y47 => bif y47 then ms_NumEnd_k3 N (a0, y9, (IntKind.wrap .i64 ((IntKind.wrap .i64 (y9 + 1)) + 1))) else (ms_NumEnd_k3 N (a0, y9, (IntKind.wrap .i64 (y9 + 1)))) else (ms_NumEnd_k2 N y9))
def ms_NumEnd (N : Nat) (a0 : List UInt8) (a1 : Int) : Option Int :=
  bif (decide (a1 < 0)) then some (-1) else ((ms_l4Digits N a0 a1).bind fun r2 => (ms_l4Byte a0 r2).bind fun r51 => bif (r51 == 46) then (ms_l4Digits N a0 (IntKind.wrap .i64 (r2 + 1))).bind fun r53 => (bif (r2 == a1) then some (r53 == (IntKind.wrap .i64 (r2 + 1))) else (some false)).bind fun y55 => bif y55 then some (-1) else (ms_NumEnd_k1 N (a0, a1, r53)) else (ms_NumEnd_k1 N (a0, a1, r2)))

def ms_l4Quoted_k2 (N : Nat) (kb1 : ((List UInt8) × Int × Int) → Option Int) : ((List UInt8) × Int × Int) → Option Int
  | (a0, a2, y58) => kb1 (a0, a2, (IntKind.wrap .i64 (y58 + 1)))
def ms_l4Quoted_l1 (N : Nat) : Nat → ((List UInt8) × Int × Int) → Option Int
  | 0, _ => none
  | n1 + 1, (a0, a2, y43) => bif (decide (y43 < (a0.length : Int))) then (ix a0 y43).bind fun b60 => bif ((IntKind.wrap .i64 ((b60).toNat : Int)) == a2) then some (IntKind.wrap .i64 (y43 + 1)) else (bif ((IntKind.wrap .i64 ((b60).toNat : Int)) == 10) then some (-1) else (bif ((IntKind.wrap .i64 ((b60).toNat : Int)) == 92) then (ms_l4Byte a0 (IntKind.wrap .i64 (y43 + 1))).bind fun r62 => bif (r62 == 10) then some (-1) else (ms_l4Quoted_k2 N (ms_l4Quoted_l1 N n1) (a0, a2, (IntKind.wrap .i64 (y43 + 1)))) else (ms_l4Quoted_k2 N (ms_l4Quoted_l1 N n1) (a0, a2, y43)))) else (some (-1))
def ms_l4Quoted (N : Nat) (a0 : List UInt8) (a1 : Int) (a2 : Int) : Option Int :=
  (ms_l4Byte a0 a1).bind fun r4 => bif (r4 != a2) then some (-1) else (ms_l4Quoted_l1 N N (a0, a2, (IntKind.wrap .i64 (a1 + 1))))

def ms_StrEnd (N : Nat) (a0 : List UInt8) (a1 : Int) : Option Int :=
  (ms_l4Quoted N a0 a1 34).bind fun r2 => some r2

def ms_EreEnd (N : Nat) (a0 : List UInt8) (a1 : Int) : Option Int :=
  (ms_l4Quoted N a0 a1 47).bind fun r2 => bif (r2 == (IntKind.wrap .i64 (a1 + 2))) then some (-1) else (some r2)

def ms_l3Signs : Option (List (List UInt8)) :=
  some [[123], [125], [40], [41], [91], [93], [44], [59], [43, 61], [45, 61], [42, 61], [47, 61], [37, 61], [94, 61], [124, 124], [38, 38], [33, 126], [61, 61], [60, 61], [62, 61], [33, 61], [43, 43], [45, 45], [62, 62], [61], [43], [45], [42], [47], [37], [94], [33], [62], [60], [124], [63], [58], [126], [36]]

def ms_SpellOf (a0 : Int) : Option (List UInt8) :=
  bif (a0 == 1) then some [10] else ((ms_l1In a0 10 26).bind fun r14 => bif r14 then Option.bind ms_l3Words fun r17 => (ix r17 (IntKind.wrap .i64 (a0 - 10))).bind fun e18 => some e18 else ((ms_l1In a0 30 68).bind fun r20 => bif r20 then Option.bind ms_l3Signs fun r23 => (ix r23 (IntKind.wrap .i64 (a0 - 30))).bind fun e24 => some e24 else (some [])))

def ms_TokenOk_k1 (N : Nat) : (SToken × Bool) → Option Bool
  | (a0, y30) => bif y30 then (ms_NameOk N a0.Text).bind fun r32 => some r32 else (bif (a0.Kind == 8) then (ms_IsBuiltin N a0.Text).bind fun r34 => some r34 else ((bif (!(a0.Text == [])) then (ms_SpellOf a0.Kind).bind fun r37 => some (r37 == a0.Text) else (some false)).bind fun y36 => some y36))
def ms_TokenOk (N : Nat) (a0 : SToken) : Option Bool :=
  bif (a0.Kind == 2) then (bif (decide ((a0.Text.length : Int) > 0)) then (ix a0.Text 0).bind fun b21 => bif (((b21).toNat : Int) == 35) then (ms_l4Plain N a0.Text).bind fun r22 => some r22 else (some false) else (some false)).bind fun y20 => some y20 else (bif (a0.Kind == 3) then (bif (decide ((a0.Text.length : Int) > 0)) then (ms_NumEnd N a0.Text 0).bind fun r25 => some (r25 == (a0.Text.length : Int)) else (some false)).bind fun y24 => some y24 else (bif (a0.Kind == 4) then (ms_StrEnd N a0.Text 0).bind fun r27 => some (r27 == (a0.Text.length : Int)) else (bif (a0.Kind == 5) then (ms_EreEnd N a0.Text 0).bind fun r29 => some (r29 == (a0.Text.length : Int)) else (bif (a0.Kind == 6) then ms_TokenOk_k1 N (a0, (a0.Kind == 6)) else (ms_TokenOk_k1 N (a0, (a0.Kind == 7)))))))

def ms_l7Text_k1 (N : Nat) : (SNode × Bool) → Option Bool
  | (a0, y26) => bif y26 then ((ms_NameOk N a0.Text).bind fun r29 => bif r29 then some (a0.Other == []) else (some false)).bind fun y28 => some y28 else (bif (a0.Kind == 2) then ((ms_TokenOk N (⟨3, a0.Text, 0⟩ : SToken)).bind fun r32 => bif r32 then some (a0.Other == []) else (some false)).bind fun y31 => some y31 else (bif (a0.Kind == 3) then ((ms_TokenOk N (⟨4, a0.Text, 0⟩ : SToken)).bind fun r35 => bif r35 then some (a0.Other == []) else (some false)).bind fun y34 => some y34 else (bif (a0.Kind == 4) then ((ms_TokenOk N (⟨5, a0.Text, 0⟩ : SToken)).bind fun r38 => bif r38 then some (a0.Other == []) else (some false)).bind fun y37 => some y37 else (bif (a0.Kind == 34) then ((ms_TokenOk N (⟨2, a0.Text, 0⟩ : SToken)).bind fun r41 => bif r41 then some (a0.Other == []) else (some false)).bind fun y40 => some y40 else (bif (a0.Kind == 8) then ((ms_IsBuiltin N a0.Text).bind fun r44 => bif r44 then some (a0.Other == []) else (some false)).bind fun y43 => some y43 else (bif (a0.Kind == 32) then ((ms_NameOk N a0.Text).bind fun r48 => bif r48 then (ms_NameOk N a0.Other).bind fun r49 => some r49 else (some false)).bind fun y47 => some y47 else (bif (a0.Kind == 21) then (bif (a0.Text == []) then bif (a0.Other == []) then some true else (bif (a0.Other == [62]) then some true else (bif (a0.Other == [62, 62]) then some true else (some (a0.Other == [124])))) else (some false)).bind fun y50 => some y50 else ((bif (a0.Text == []) then some (a0.Other == []) else (some false)).bind fun y51 => some y51))))))))
def ms_l7Text (N : Nat) (a0 : SNode) : Option Bool :=
  bif (a0.Kind == 1) then ms_l7Text_k1 N (a0, (a0.Kind == 1)) else (bif (a0.Kind == 5) then ms_l7Text_k1 N (a0, (a0.Kind == 5)) else (bif (a0.Kind == 7) then ms_l7Text_k1 N (a0, (a0.Kind == 7)) else (bif (a0.Kind == 13) then ms_l7Text_k1 N (a0, (a0.Kind == 13)) else (bif (a0.Kind == 27) then ms_l7Text_k1 N (a0, (a0.Kind == 27)) else (ms_l7Text_k1 N (a0, (a0.Kind == 44)))))))

def ms_FieldsOk (N : Nat) (a0 : SNode) : Option Bool :=
  (ms_l7Many a0).bind fun r2 => ((ms_l1In a0.Kind 1 16).bind fun r7 => bif r7 then some true else ((ms_l1In a0.Kind 20 34).bind fun r8 => bif r8 then some true else ((ms_l1In a0.Kind 40 45).bind fun r9 => some r9))).bind fun y6 => (bif y6 then (ms_l7Op a0).bind fun r14 => bif r14 then (ms_l7Text N a0).bind fun r15 => bif r15 then (ms_l1In (a0.Kids.length : Int) r2.1 r2.2).bind fun r16 => some r16 else (some false) else (some false) else (some false)).bind fun y13 => some y13

def ms_IsLvalue (a0 : Int) : Option Bool :=
  (bif (a0 == 1) then some true else (bif (a0 == 5) then some true else (some (a0 == 6)))).bind fun y1 => some y1

def ms_IsExpr (a0 : Int) : Option Bool :=
  (ms_l1In a0 1 15).bind fun r2 => some r2

def ms_IsStmt (a0 : Int) : Option Bool :=
  (ms_l1In a0 20 34).bind fun r2 => some r2

def ms_l7Kid_k2 : (Int × Int × SNode × Bool) → Option Bool
  | (a1, a2, a0, y74) => bif y74 then some (a2 == 33) else (bif (a0.Kind == 33) then (ms_IsStmt a2).bind fun r76 => some r76 else (bif (a0.Kind == 42) then (bif (a0.Op == 1) then (ms_IsExpr a2).bind fun r87 => bif r87 then some true else (bif (a0.Op == 2) then bif (a2 == 33) then some true else (bif (a0.Op == 3) then bif (a1 == (IntKind.wrap .i64 ((a0.Kids.length : Int) - 1))) then bif (a2 == 33) then some true else (bif (!(a1 == (IntKind.wrap .i64 ((a0.Kids.length : Int) - 1)))) then (ms_IsExpr a2).bind fun r88 => some r88 else (some false)) else (bif (!(a1 == (IntKind.wrap .i64 ((a0.Kids.length : Int) - 1)))) then (ms_IsExpr a2).bind fun r89 => some r89 else (some false)) else (some false)) else (bif (a0.Op == 3) then bif (a1 == (IntKind.wrap .i64 ((a0.Kids.length : Int) - 1))) then bif (a2 == 33) then some true else (bif (!(a1 == (IntKind.wrap .i64 ((a0.Kids.length : Int) - 1)))) then (ms_IsExpr a2).bind fun r90 => some r90 else (some false)) else (bif (!(a1 == (IntKind.wrap .i64 ((a0.Kids.length : Int) - 1)))) then (ms_IsExpr a2).bind fun r91 => some r91 else (some false)) else (some false))) else (bif (a0.Op == 2) then bif (a2 == 33) then some true else (bif (a0.Op == 3) then bif (a1 == (IntKind.wrap .i64 ((a0.Kids.length : Int) - 1))) then bif (a2 == 33) then some true else (bif (!(a1 == (IntKind.wrap .i64 ((a0.Kids.length : Int) - 1)))) then (ms_IsExpr a2).bind fun r92 => some r92 else (some false)) else (bif (!(a1 == (IntKind.wrap .i64 ((a0.Kids.length : Int) - 1)))) then (ms_IsExpr a2).bind fun r93 => some r93 else (some false)) else (some false)) else (bif (a0.Op == 3) then bif (a1 == (IntKind.wrap .i64 ((a0.Kids.length : Int) - 1))) then bif (a2 == 33) then some true else (bif (!(a1 == (IntKind.wrap .i64 ((a0.Kids.length : Int) - 1)))) then (ms_IsExpr a2).bind fun r94 => some r94 else (some false)) else (bif (!(a1 == (IntKind.wrap .i64 ((a0.Kids.length : Int) - 1)))) then (ms_IsExpr a2).bind fun r95 => some r95 else (some false)) else (some false)))).bind fun y86 => some y86 else (bif (a0.Kind == 43) then (bif (decide (a1 < 2)) then (ms_IsExpr a2).bind fun r98 => bif r98 then some true else (bif (a1 == 2) then some (a2 == 33) else (some false)) else (bif (a1 == 2) then some (a2 == 33) else (some false))).bind fun y97 => some y97 else (bif (a0.Kind == 44) then (bif (a1 == (IntKind.wrap .i64 ((a0.Kids.length : Int) - 1))) then bif (a2 == 33) then some true else (bif (!(a1 == (IntKind.wrap .i64 ((a0.Kids.length : Int) - 1)))) then some (a2 == 1) else (some false)) else (bif (!(a1 == (IntKind.wrap .i64 ((a0.Kids.length : Int) - 1)))) then some (a2 == 1) else (some false))).bind fun y99 => some y99 else (bif (a0.Kind == 45) then ((ms_l1In a2 40 44).bind fun r102 => bif r102 then some true else (some (a2 == 34))).bind fun y101 => some y101 else ((ms_IsExpr a2).bind fun r104 => some r104))))))
def ms_l7Kid_k1 : (Int × Int × SNode × Bool) → Option Bool
  | (a1, a2, a0, y52) => bif y52 then (ms_IsLvalue a2).bind fun r54 => some r54 else (bif (a0.Kind == 15) then ((ms_IsExpr a2).bind fun r58 => bif r58 then bif (decide (a1 > 0)) then some true else ((ms_IsLvalue a2).bind fun r59 => some r59) else (some false)).bind fun y57 => some y57 else (bif (a0.Kind == 28) then (bif (a1 == 0) then (ms_IsExpr a2).bind fun r62 => bif r62 then some true else (bif (decide (a1 > 0)) then some (a2 == 33) else (some false)) else (bif (decide (a1 > 0)) then some (a2 == 33) else (some false))).bind fun y61 => some y61 else (bif (a0.Kind == 29) then (bif (a1 == 0) then (ms_IsExpr a2).bind fun r65 => bif r65 then some true else (bif (a1 == 1) then some (a2 == 33) else (some false)) else (bif (a1 == 1) then some (a2 == 33) else (some false))).bind fun y64 => some y64 else (bif (a0.Kind == 30) then (bif (a1 == 0) then bif (a2 == 33) then some true else (bif (a1 == 1) then (ms_IsExpr a2).bind fun r69 => some r69 else (some false)) else (bif (a1 == 1) then (ms_IsExpr a2).bind fun r70 => some r70 else (some false))).bind fun y68 => some y68 else (bif (a0.Kind == 31) then (bif (decide (a1 < 3)) then (ms_IsExpr a2).bind fun r73 => bif r73 then some true else (bif (a2 == 16) then some true else (bif (a1 == 3) then some (a2 == 33) else (some false))) else (bif (a1 == 3) then some (a2 == 33) else (some false))).bind fun y72 => some y72 else (bif (a0.Kind == 32) then ms_l7Kid_k2 (a1, a2, a0, (a0.Kind == 32)) else (bif (a0.Kind == 40) then ms_l7Kid_k2 (a1, a2, a0, (a0.Kind == 40)) else (ms_l7Kid_k2 (a1, a2, a0, (a0.Kind == 41))))))))))
def ms_l7Kid (a0 : SNode) (a1 : Int) (a2 : Int) : Option Bool :=
  bif (a0.Kind == 9) then ms_l7Kid_k1 (a1, a2, a0, (a0.Kind == 9)) else (ms_l7Kid_k1 (a1, a2, a0, (a0.Kind == 10)))

def ms_TreeOk_l2 (N : Nat) (kb1 : ((List SNode) × Int) → Option Bool) : Nat → ((List SNode) × Int × Int) → Option Bool
  | 0, _ => none
  | n2 + 1, (a0, y669, y949) => (ix a0 y669).bind fun e978 => bif (decide (y949 < (e978.Kids.length : Int))) then (ix a0 y669).bind fun e994 => (ix a0 y669).bind fun e995 => (ix e995.Kids y949).bind fun e996 => (ix a0 e996).bind fun e997 => (ms_l7Kid e994 y949 e997.Kind).bind fun r998 => bif (!r998) then some false else ((ms_TreeOk_l2 N kb1 n2) (a0, y669, (IntKind.wrap .i64 (y949 + 1)))) else (kb1 (a0, (IntKind.wrap .i64 (y669 + 1))))
def ms_TreeOk_l1 (N : Nat) : Nat → ((List SNode) × Int) → Option Bool
  | 0, _ => none
  | n1 + 1, (a0, y669) => bif (decide (y669 < (a0.length : Int))) then (ix a0 y669).bind fun e923 => (ms_FieldsOk N e923).bind fun r924 => bif (!r924) then some false else (ms_TreeOk_l2 N (ms_TreeOk_l1 N n1) N (a0, y669, 0)) else (some true)
def ms_TreeOk (N : Nat) (a0 : List SNode) : Option Bool :=
  ((ms_ShapeOk N a0).bind fun r9 => bif (!r9) then some true else ((ms_DepthOf N a0).bind fun r10 => some (decide (r10 > 40)))).bind fun y8 => bif y8 then some false else (ms_TreeOk_l1 N N (a0, 0))

def ms_ExprOk (N : Nat) (a0 : List SNode) : Option Bool :=
  ((ms_TreeOk N a0).bind fun r5 => bif r5 then (ix a0 (IntKind.wrap .i64 ((a0.length : Int) - 1))).bind fun e6 => (ms_IsExpr e6.Kind).bind fun r7 => some r7 else (some false)).bind fun y4 => some y4

def ms_IsHole (a0 : SNode) : Option Bool :=
  (bif (a0.Kind == 1) then bif ((a0.Text.length : Int) == 1) then (ix a0.Text 0).bind fun b4 => (ms_l1In (IntKind.wrap .i64 ((b4).toNat : Int)) 97 122).bind fun r5 => some r5 else (some false) else (some false)).bind fun y3 => some y3

def ms_l32Of_l1 (N : Nat) : Nat → ((List SHole) × (List UInt8) × Int) → Option ((List SNode) × Bool)
  | 0, _ => none
  | n1 + 1, (a0, a1, y35) => bif (decide (y35 < (a0.length : Int))) then (ix a0 y35).bind fun e50 => bif (e50.Name == a1) then (ix a0 y35).bind fun e52 => some (e52.Part, true) else ((ms_l32Of_l1 N n1) (a0, a1, (IntKind.wrap .i64 (y35 + 1)))) else (some ([], false))
def ms_l32Of (N : Nat) (a0 : List SHole) (a1 : List UInt8) : Option ((List SNode) × Bool) :=
  ms_l32Of_l1 N N (a0, a1, 0)

def ms_l6Shift_l2 (N : Nat) (kb1 : ((List SNode) × Int × Int × (List SNode)) → Option (List SNode)) : Nat → ((List SNode) × Int × Int × (List SNode) × SNode × Int × (List Int)) → Option (List SNode)
  | 0, _ => none
  | n2 + 1, (a0, a1, y869, y870, e1198, y1267, y1268) => (ix a0 y869).bind fun e1290 => bif (decide (y1267 < (e1290.Kids.length : Int))) then (ix a0 y869).bind fun e1300 => (ix e1300.Kids y1267).bind fun e1301 => (app 8 y1268 [(IntKind.wrap .i64 (e1301 + a1))]).bind fun x1302 => (ms_l6Shift_l2 N kb1 n2) (a0, a1, y869, y870, e1198, (IntKind.wrap .i64 (y1267 + 1)), x1302) else ((app 72 y870 [(⟨e1198.Kind, e1198.Op, e1198.Text, e1198.Other, y1268⟩ : SNode)]).bind fun x1304 => kb1 (a0, a1, (IntKind.wrap .i64 (y869 + 1)), x1304))
def ms_l6Shift_l1 (N : Nat) : Nat → ((List SNode) × Int × Int × (List SNode)) → Option (List SNode)
  | 0, _ => none
  | n1 + 1, (a0, a1, y869, y870) => bif (decide (y869 < (a0.length : Int))) then (ix a0 y869).bind fun e1198 => ms_l6Shift_l2 N (ms_l6Shift_l1 N n1) N (a0, a1, y869, y870, e1198, 0, []) else (some y870)
def ms_l6Shift (N : Nat) (a0 : List SNode) (a1 : Int) : Option (List SNode) :=
  ms_l6Shift_l1 N N (a0, a1, 0, [])

def ms_l6Copy (N : Nat) (a0 : List SNode) : Option (List SNode) :=
  (ms_l6Shift N a0 0).bind fun r2 => some r2

def ms_l6Make_l1 (N : Nat) : Nat → ((List (List SNode)) × SNode × Int × (List SNode) × (List Int)) → Option (List SNode)
  | 0, _ => none
  | n1 + 1, (a1, a0, y71, y72, y73) => bif (decide (y71 < (a1.length : Int))) then (ix a1 y71).bind fun e104 => (ms_l6Shift N e104 (y72.length : Int)).bind fun r105 => (app 72 y72 r105).bind fun x106 => (app 8 y73 [(IntKind.wrap .i64 ((x106.length : Int) - 1))]).bind fun x108 => (ms_l6Make_l1 N n1) (a1, a0, (IntKind.wrap .i64 (y71 + 1)), x106, x108) else ((app 72 y72 [(⟨a0.Kind, a0.Op, a0.Text, a0.Other, y73⟩ : SNode)]).bind fun x110 => some x110)
def ms_l6Make (N : Nat) (a0 : SNode) (a1 : List (List SNode)) : Option (List SNode) :=
  ms_l6Make_l1 N N (a1, a0, 0, [], [])

structure Rec1 where
  ms_l32Fill : (List SNode) → Int → (List SHole) → Option (List SNode)

def ms_l32Fill_l2 (N : Nat) (R : Rec1) : Nat → ((List SNode) × Int × (List SHole) × Int × (List (List SNode))) → Option (List SNode)
  | 0, _ => none
  | n2 + 1, (a0, a1, a2, y96, y97) => (ix a0 a1).bind fun e123 => bif (decide (y96 < (e123.Kids.length : Int))) then (ix a0 a1).bind fun e136 => (ix e136.Kids y96).bind fun e137 => (R.ms_l32Fill a0 e137 a2).bind fun r138 => (app 24 y97 [r138]).bind fun x139 => (ms_l32Fill_l2 N R n2) (a0, a1, a2, (IntKind.wrap .i64 (y96 + 1)), x139) else ((ix a0 a1).bind fun e142 => (ms_l6Make N e142 y97).bind fun r143 => some r143)
def ms_l32Fill_k1 (N : Nat) (R : Rec1) : ((List SNode) × Int × (List SHole)) → Option (List SNode)
  | (a0, a1, a2) => ms_l32Fill_l2 N R N (a0, a1, a2, 0, [])
def ms_l32Fill_F (N : Nat) (R : Rec1) (a0 : List SNode) (a1 : Int) (a2 : List SHole) : Option (List SNode) :=
  (ix a0 a1).bind fun e146 => (ms_IsHole e146).bind fun r147 => bif r147 then (ix a0 a1).bind fun e150 => (ms_l32Of N a2 e150.Text).bind fun r151 => (bif r151.2 then some (decide ((r151.1.length : Int) > 0)) else (some false)).bind fun y152 => bif y152 then (ms_l6Copy N r151.1).bind fun r154 => some r154 else (ms_l32Fill_k1 N R (a0, a1, a2)) else (ms_l32Fill_k1 N R (a0, a1, a2))
def scc1 : Nat → Rec1
  | 0 => ⟨fun _ _ _ => none⟩
  | N + 1 => ⟨fun a0 a1 a2 => ms_l32Fill_F N (scc1 N) a0 a1 a2⟩
def ms_l32Fill (N : Nat) (a0 : List SNode) (a1 : Int) (a2 : List SHole) : Option (List SNode) := (scc1 N).ms_l32Fill a0 a1 a2

def ms_FillIn (N : Nat) (a0 : List SNode) (a1 : List SHole) : Option (List SNode) :=
  (ms_ExprOk N a0).bind fun r4 => bif (!r4) then some [] else ((ms_l32Fill N a0 (IntKind.wrap .i64 ((a0.length : Int) - 1)) a1).bind fun r6 => (ms_TreeOk N r6).bind fun r10 => bif (!r10) then some [] else (some r6))

def mi_within (a0 : Int) (a1 : Int) (a2 : Int) : Option Bool :=
  (bif (decide (a0 ≥ a1)) then some (decide (a0 ≤ a2)) else (some false)).bind fun y1 => some y1

def mi_startsOf_r2 (N : Nat) (kb1 : ((List SNode) × Int × (List Int)) → Option ((List Int) × Bool)) (a0 : List SNode) (y203 : Int) (e322 : SNode) (y204 : List Int) : List Int → Int → Option ((List Int) × Bool)
  | [], y345 => (ix y204 y203).bind fun e357 => (upd y204 y203 (IntKind.wrap .i64 (y345 + 1))).bind fun x358 => kb1 (a0, (IntKind.wrap .i64 (y203 + 1)), x358)
  | e339 :: es340, y345 => (bif (decide (y345 < 0)) then some true else (some (e339 != y345))).bind fun y352 => bif y352 then some ([], false) else ((ix y204 e339).bind fun e354 => (mi_startsOf_r2 N kb1 a0 y203 e322 y204 es340) (IntKind.wrap .i64 (e354 - 1)))
def mi_startsOf_l1 (N : Nat) : Nat → ((List SNode) × Int × (List Int)) → Option ((List Int) × Bool)
  | 0, _ => none
  | n1 + 1, (a0, y203, y204) => bif (decide (y203 < (a0.length : Int))) then (ix a0 y203).bind fun e322 => mi_startsOf_r2 N (mi_startsOf_l1 N n1) a0 y203 e322 y204 (e322.Kids.reverse) (IntKind.wrap .i64 (y203 - 1)) else ((ix y204 (IntKind.wrap .i64 ((a0.length : Int) - 1))).bind fun e360 => some (y204, (e360 == 0)))
def mi_startsOf (N : Nat) (a0 : List SNode) : Option ((List Int) × Bool) :=
  (mi_within (a0.length : Int) 1 400).bind fun r4 => bif (!r4) then some ([], false) else ((mk 8 0 (a0.length : Int)).bind fun x6 => mi_startsOf_l1 N N (a0, 0, x6))

def mi_ShapeOk (N : Nat) (a0 : List SNode) : Option Bool :=
  (mi_startsOf N a0).bind fun r2 => some r2.2

def mi_IsExpr (a0 : Int) : Option Bool :=
  (mi_within a0 1 15).bind fun r2 => some r2

def mi_IsLetter (a0 : Int) : Option Bool :=
  (bif (decide (a0 ≥ 97)) then bif (decide (a0 ≤ 122)) then some true else (bif (decide (a0 ≥ 65)) then bif (decide (a0 ≤ 90)) then some true else (some (a0 == 95)) else (some (a0 == 95))) else (bif (decide (a0 ≥ 65)) then bif (decide (a0 ≤ 90)) then some true else (some (a0 == 95)) else (some (a0 == 95)))).bind fun y1 => some y1

def mi_IsDigit (a0 : Int) : Option Bool :=
  (bif (decide (a0 ≥ 48)) then some (decide (a0 ≤ 57)) else (some false)).bind fun y1 => some y1

def mi_IsWordByte (a0 : Int) : Option Bool :=
  ((mi_IsLetter a0).bind fun r4 => bif r4 then some true else ((mi_IsDigit a0).bind fun r5 => some r5)).bind fun y3 => some y3

def mi_NameShape_l1 (N : Nat) : Nat → ((List UInt8) × Int) → Option Bool
  | 0, _ => none
  | n1 + 1, (a0, y35) => bif (decide (y35 < (a0.length : Int))) then (ix a0 y35).bind fun b51 => (mi_IsWordByte (IntKind.wrap .i64 ((b51).toNat : Int))).bind fun r52 => bif (!r52) then some false else ((mi_NameShape_l1 N n1) (a0, (IntKind.wrap .i64 (y35 + 1)))) else (((mi_within (a0.length : Int) 1 12).bind fun r57 => bif r57 then (ix a0 0).bind fun b58 => (mi_IsLetter (IntKind.wrap .i64 ((b58).toNat : Int))).bind fun r59 => some r59 else (some false)).bind fun y56 => some y56)
def mi_NameShape (N : Nat) (a0 : List UInt8) : Option Bool :=
  mi_NameShape_l1 N N (a0, 0)

def m_slices_Index_string_l1 (N : Nat) : Nat → ((List (List UInt8)) × (List UInt8) × Int) → Option Int
  | 0, _ => none
  | n1 + 1, (a0, a1, y19) => bif (decide (y19 < (a0.length : Int))) then (ix a0 y19).bind fun e28 => bif (a1 == e28) then some y19 else ((m_slices_Index_string_l1 N n1) (a0, a1, (IntKind.wrap .i64 (y19 + 1)))) else (some (-1))
def m_slices_Index_string (N : Nat) (a0 : List (List UInt8)) (a1 : List UInt8) : Option Int :=
  m_slices_Index_string_l1 N N (a0, a1, 0)

def mi_KeywordOf (N : Nat) (a0 : List UInt8) : Option Int :=
  (m_slices_Index_string N tab_keywords a0).bind fun r2 => bif (decide (r2 < 0)) then some 0 else (some (IntKind.wrap .i64 (10 + r2)))

def m_slices_Contains_string (N : Nat) (a0 : List (List UInt8)) (a1 : List UInt8) : Option Bool :=
  (m_slices_Index_string N a0 a1).bind fun r2 => some (decide (r2 ≥ 0))

def mi_IsBuiltin (N : Nat) (a0 : List UInt8) : Option Bool :=
  (m_slices_Contains_string N tab_builtins a0).bind fun r2 => some r2

def mi_NameOk (N : Nat) (a0 : List UInt8) : Option Bool :=
  ((mi_NameShape N a0).bind fun r5 => bif r5 then (mi_KeywordOf N a0).bind fun r6 => bif (r6 == 0) then (mi_IsBuiltin N a0).bind fun r7 => some (!r7) else (some false) else (some false)).bind fun y4 => some y4

def m_stringslite_IndexByte (a0 : List UInt8) (a1 : Int) : Option Int :=
  some (Go.Lib.indexByte a0 (Int.toNat a1).toUInt8)

def m_stringslite_Index (a0 : List UInt8) : Option Int :=
  bif (([10] : List UInt8) == a0) then some 0 else ((ix ([10] : List UInt8) 0).bind fun b7 => (m_stringslite_IndexByte a0 ((b7).toNat : Int)).bind fun r8 => some r8)

def m_strings_Index (a0 : List UInt8) : Option Int :=
  (m_stringslite_Index a0).bind fun r2 => some r2

def m_strings_Contains (a0 : List UInt8) : Option Bool :=
  (m_strings_Index a0).bind fun r2 => some (decide (r2 ≥ 0))

def mi_byteAt (a0 : List UInt8) (a1 : Int) : Option Int :=
  (mi_within a1 0 (IntKind.wrap .i64 ((a0.length : Int) - 1))).bind fun r4 => bif (!r4) then some (-1) else ((ix a0 a1).bind fun b6 => some (IntKind.wrap .i64 ((b6).toNat : Int)))

def mi_digitsEnd_l1 (N : Nat) : Nat → ((List UInt8) × Int) → Option Int
  | 0, _ => none
  | n1 + 1, (a0, a1) => (mi_byteAt a0 a1).bind fun r33 => (mi_IsDigit r33).bind fun r34 => bif r34 then (mi_digitsEnd_l1 N n1) (a0, (IntKind.wrap .i64 (a1 + 1))) else (some a1)
def mi_digitsEnd (N : Nat) (a0 : List UInt8) (a1 : Int) : Option Int :=
  mi_digitsEnd_l1 N N (a0, a1)

def mi_NumEnd_k2 (N : Nat) : Int → Option Int
  | y11 => some y11
def mi_NumEnd_k3 (N : Nat) : ((List UInt8) × Int × Int) → Option Int
  | (a0, y11, y31) => (mi_digitsEnd N a0 y31).bind fun r33 => bif (decide (r33 > y31)) then some r33 else (mi_NumEnd_k2 N y11)
def mi_NumEnd_k1 (N : Nat) : ((List UInt8) × Int × Int) → Option Int
  | (a0, y11, y12) => bif (y12 == 0) then some (-1) else ((mi_byteAt a0 y11).bind fun r26 => (bif (r26 == 101) then some true else (some (r26 == 69))).bind fun y27 => bif y27 then (mi_byteAt a0 (IntKind.wrap .i64 (y11 + 1))).bind fun r35 => (bif (r35 == 43) then some true else (some (r35 == 45))).bind fun y36 => bif y36 then mi_NumEnd_k3 N (a0, y11, (IntKind.wrap .i64 ((IntKind.wrap .i64 (y11 + 1)) + 1))) else (mi_NumEnd_k3 N (a0, y11, (IntKind.wrap .i64 (y11 + 1)))) else (mi_NumEnd_k2 N y11))
def mi_NumEnd (N : Nat) (a0 : List UInt8) (a1 : Int) : Option Int :=
  (mi_within a1 0 (IntKind.wrap .i64 ((a0.length : Int) - 1))).bind fun r4 => bif (!r4) then some (-1) else ((mi_digitsEnd N a0 a1).bind fun r6 => (mi_byteAt a0 r6).bind fun r38 => bif (r38 == 46) then (mi_digitsEnd N a0 (IntKind.wrap .i64 (r6 + 1))).bind fun r40 => mi_NumEnd_k1 N (a0, r40, (IntKind.wrap .i64 ((IntKind.wrap .i64 (r6 - a1)) + (IntKind.wrap .i64 ((IntKind.wrap .i64 (r40 - r6)) - 1))))) else (mi_NumEnd_k1 N (a0, r6, (IntKind.wrap .i64 (r6 - a1)))))

def mi_quotedEnd_k2 (N : Nat) (kb1 : ((List UInt8) × Int × Int) → Option Int) : ((List UInt8) × Int × Int) → Option Int
  | (a0, a2, y127) => kb1 (a0, a2, (IntKind.wrap .i64 (y127 + 1)))
def mi_quotedEnd_l1 (N : Nat) : Nat → ((List UInt8) × Int × Int) → Option Int
  | 0, _ => none
  | n1 + 1, (a0, a2, y91) => (bif (decide (y91 < (a0.length : Int))) then (ix a0 y91).bind fun b119 => some (((b119).toNat : Int) != 10) else (some false)).bind fun y118 => bif y118 then (ix a0 y91).bind fun b129 => bif ((IntKind.wrap .i64 ((b129).toNat : Int)) == a2) then some (IntKind.wrap .i64 (y91 + 1)) else (((ix a0 y91).bind fun b133 => bif (((b133).toNat : Int) == 92) then (mi_byteAt a0 (IntKind.wrap .i64 (y91 + 1))).bind fun r134 => some (r134 != 10) else (some false)).bind fun y132 => bif y132 then mi_quotedEnd_k2 N (mi_quotedEnd_l1 N n1) (a0, a2, (IntKind.wrap .i64 (y91 + 1))) else (mi_quotedEnd_k2 N (mi_quotedEnd_l1 N n1) (a0, a2, y91))) else (some (-1))
def mi_quotedEnd (N : Nat) (a0 : List UInt8) (a1 : Int) (a2 : Int) : Option Int :=
  (mi_byteAt a0 a1).bind fun r4 => bif (r4 != a2) then some (-1) else (mi_quotedEnd_l1 N N (a0, a2, (IntKind.wrap .i64 (a1 + 1))))

def mi_StrEnd (N : Nat) (a0 : List UInt8) (a1 : Int) : Option Int :=
  (mi_quotedEnd N a0 a1 34).bind fun r2 => some r2

def mi_EreEnd (N : Nat) (a0 : List UInt8) (a1 : Int) : Option Int :=
  (mi_quotedEnd N a0 a1 47).bind fun r2 => bif (r2 == (IntKind.wrap .i64 (a1 + 2))) then some (-1) else (some r2)

def mi_isKeywordKind (a0 : Int) : Option Bool :=
  (mi_within a0 10 26).bind fun r2 => some r2

def mi_isSignKind (a0 : Int) : Option Bool :=
  (mi_within a0 30 68).bind fun r2 => some r2

def mi_SpellOf (a0 : Int) : Option (List UInt8) :=
  bif (a0 == 1) then some [10] else ((mi_isKeywordKind a0).bind fun r10 => bif r10 then (ix tab_keywords (IntKind.wrap .i64 (a0 - 10))).bind fun e12 => some e12 else ((mi_isSignKind a0).bind fun r14 => bif r14 then (ix tab_signs (IntKind.wrap .i64 (a0 - 30))).bind fun e16 => some e16 else (some [])))

def mi_TokenOk_k1 (N : Nat) : (SToken × Bool) → Option Bool
  | (a0, y28) => bif y28 then (mi_NameOk N a0.Text).bind fun r30 => some r30 else (bif (a0.Kind == 8) then (mi_IsBuiltin N a0.Text).bind fun r32 => some r32 else ((mi_SpellOf a0.Kind).bind fun r34 => some (a0.Text == r34)))
def mi_TokenOk (N : Nat) (a0 : SToken) : Option Bool :=
  bif (a0.Text == []) then some false else (bif (a0.Kind == 2) then ((ix a0.Text 0).bind fun b20 => bif (((b20).toNat : Int) == 35) then (m_strings_Contains a0.Text).bind fun r21 => some (!r21) else (some false)).bind fun y19 => some y19 else (bif (a0.Kind == 3) then (mi_NumEnd N a0.Text 0).bind fun r23 => some (r23 == (a0.Text.length : Int)) else (bif (a0.Kind == 4) then (mi_StrEnd N a0.Text 0).bind fun r25 => some (r25 == (a0.Text.length : Int)) else (bif (a0.Kind == 5) then (mi_EreEnd N a0.Text 0).bind fun r27 => some (r27 == (a0.Text.length : Int)) else (bif (a0.Kind == 6) then mi_TokenOk_k1 N (a0, (a0.Kind == 6)) else (mi_TokenOk_k1 N (a0, (a0.Kind == 7))))))))

def mi_isStep (a0 : Int) : Option Bool :=
  (bif (a0 == 51) then some true else (some (a0 == 52))).bind fun y1 => some y1

def mi_OpLevel_k4 : (Int × Bool) → Option Int
  | (a0, y8) => bif y8 then some 10 else (bif (a0 == 60) then some 12 else (some 0))
def mi_OpLevel_k3 : (Int × Bool) → Option Int
  | (a0, y7) => bif y7 then some 9 else (bif (a0 == 57) then mi_OpLevel_k4 (a0, (a0 == 57)) else (bif (a0 == 58) then mi_OpLevel_k4 (a0, (a0 == 58)) else (mi_OpLevel_k4 (a0, (a0 == 59)))))
def mi_OpLevel_k2 : (Int × Bool) → Option Int
  | (a0, y6) => bif y6 then some 7 else (bif (a0 == 99) then some 8 else (bif (a0 == 55) then mi_OpLevel_k3 (a0, (a0 == 55)) else (mi_OpLevel_k3 (a0, (a0 == 56)))))
def mi_OpLevel_k1 : (Int × Bool) → Option Int
  | (a0, y5) => bif y5 then some 6 else (bif (a0 == 63) then mi_OpLevel_k2 (a0, (a0 == 63)) else (bif (a0 == 48) then mi_OpLevel_k2 (a0, (a0 == 48)) else (bif (a0 == 47) then mi_OpLevel_k2 (a0, (a0 == 47)) else (bif (a0 == 50) then mi_OpLevel_k2 (a0, (a0 == 50)) else (bif (a0 == 62) then mi_OpLevel_k2 (a0, (a0 == 62)) else (mi_OpLevel_k2 (a0, (a0 == 49))))))))
def mi_OpLevel (a0 : Int) : Option Int :=
  bif (a0 == 44) then some 3 else (bif (a0 == 45) then some 4 else (bif (a0 == 67) then mi_OpLevel_k1 (a0, (a0 == 67)) else (mi_OpLevel_k1 (a0, (a0 == 46)))))

def mi_isAssign (a0 : Int) : Option Bool :=
  (bif (a0 == 54) then some true else ((mi_within a0 38 43).bind fun r3 => some r3)).bind fun y2 => some y2

def mi_exprForm_k3 (N : Nat) : (SNode × Bool) → Option SForm
  | (a0, y35) => bif y35 then (mi_isStep a0.Op).bind fun r37 => some (⟨r37, (a0.Text == []), false, 1, 1⟩ : SForm) else (bif (a0.Kind == 11) then (bif (a0.Op == 55) then some true else (bif (a0.Op == 56) then some true else (some (a0.Op == 61)))).bind fun y38 => some (⟨y38, (a0.Text == []), false, 1, 1⟩ : SForm) else (bif (a0.Kind == 12) then (mi_OpLevel a0.Op).bind fun r40 => some (⟨(r40 != 0), (a0.Text == []), false, 2, 2⟩ : SForm) else (bif (a0.Kind == 14) then some (⟨(a0.Op == 0), (a0.Text == []), false, 3, 3⟩ : SForm) else ((mi_isAssign a0.Op).bind fun r42 => some (⟨r42, (a0.Text == []), false, 2, 2⟩ : SForm)))))
def mi_exprForm_k2 (N : Nat) : (SNode × Bool) → Option SForm
  | (a0, y28) => bif y28 then (mi_NameOk N a0.Text).bind fun r30 => some (⟨(a0.Op == 0), r30, false, 1, 6⟩ : SForm) else (bif (a0.Kind == 6) then some (⟨(a0.Op == 0), (a0.Text == []), false, 1, 1⟩ : SForm) else (bif (a0.Kind == 7) then (mi_NameOk N a0.Text).bind fun r32 => some (⟨(a0.Op == 0), r32, false, 0, 6⟩ : SForm) else (bif (a0.Kind == 8) then (mi_IsBuiltin N a0.Text).bind fun r34 => some (⟨(a0.Op == 0), r34, false, 0, 6⟩ : SForm) else (bif (a0.Kind == 9) then mi_exprForm_k3 N (a0, (a0.Kind == 9)) else (mi_exprForm_k3 N (a0, (a0.Kind == 10)))))))
def mi_exprForm_k1 (N : Nat) : (SNode × Bool) → Option SForm
  | (a0, y23) => bif y23 then (ix [3, 4, 5] (IntKind.wrap .i64 (a0.Kind - 2))).bind fun e26 => (mi_TokenOk N (⟨e26, a0.Text, 0⟩ : SToken)).bind fun r27 => some (⟨(a0.Op == 0), r27, false, 0, 0⟩ : SForm) else (bif (a0.Kind == 5) then mi_exprForm_k2 N (a0, (a0.Kind == 5)) else (mi_exprForm_k2 N (a0, (a0.Kind == 13))))
def mi_exprForm (N : Nat) (a0 : SNode) : Option SForm :=
  bif (a0.Kind == 1) then (mi_NameOk N a0.Text).bind fun r22 => some (⟨(a0.Op == 0), r22, false, 0, 0⟩ : SForm) else (bif (a0.Kind == 2) then mi_exprForm_k1 N (a0, (a0.Kind == 2)) else (bif (a0.Kind == 3) then mi_exprForm_k1 N (a0, (a0.Kind == 3)) else (mi_exprForm_k1 N (a0, (a0.Kind == 4)))))

def mi_IsStmt (a0 : Int) : Option Bool :=
  (mi_within a0 20 34).bind fun r2 => some r2

def mi_stmtForm_k1 (N : Nat) : (Bool × Bool × Bool × Int × Int) → Option SForm
  | (y14, y15, y16, y17, y18) => some (⟨y14, y15, y16, y17, y18⟩ : SForm)
def mi_stmtForm_k3 (N : Nat) : (SNode × Bool) → Option SForm
  | (a0, y25) => bif y25 then mi_stmtForm_k1 N ((a0.Op == 0), (a0.Text == []), (a0.Other == []), 2, 2) else (bif (a0.Kind == 31) then mi_stmtForm_k1 N ((a0.Op == 0), (a0.Text == []), (a0.Other == []), 4, 4) else (bif (a0.Kind == 32) then (mi_NameOk N a0.Text).bind fun r28 => (mi_NameOk N a0.Other).bind fun r29 => mi_stmtForm_k1 N ((a0.Op == 0), r28, r29, 1, 1) else (bif (a0.Kind == 33) then mi_stmtForm_k1 N ((a0.Op == 0), (a0.Text == []), (a0.Other == []), 0, 400) else (bif (a0.Kind == 34) then (mi_TokenOk N (⟨2, a0.Text, 0⟩ : SToken)).bind fun r31 => mi_stmtForm_k1 N ((a0.Op == 0), r31, (a0.Other == []), 0, 0) else (mi_stmtForm_k1 N ((a0.Op == 0), (a0.Text == []), (a0.Other == []), 0, 0))))))
def mi_stmtForm_k2 (N : Nat) : (SNode × Bool) → Option SForm
  | (a0, y22) => bif y22 then mi_stmtForm_k1 N ((a0.Op == 0), (a0.Text == []), (a0.Other == []), 0, 1) else (bif (a0.Kind == 27) then (mi_NameOk N a0.Text).bind fun r24 => mi_stmtForm_k1 N ((a0.Op == 0), r24, (a0.Other == []), 0, 6) else (bif (a0.Kind == 28) then mi_stmtForm_k1 N ((a0.Op == 0), (a0.Text == []), (a0.Other == []), 2, 3) else (bif (a0.Kind == 29) then mi_stmtForm_k3 N (a0, (a0.Kind == 29)) else (mi_stmtForm_k3 N (a0, (a0.Kind == 30))))))
def mi_stmtForm (N : Nat) (a0 : SNode) : Option SForm :=
  bif (a0.Kind == 20) then mi_stmtForm_k1 N ((a0.Op == 0), (a0.Text == []), (a0.Other == []), 1, 1) else (bif (a0.Kind == 21) then (bif (a0.Op == 0) then some true else (some (a0.Op == 1))).bind fun y19 => (m_slices_Contains_string N [[], [62], [62, 62], [124]] a0.Other).bind fun r21 => bif (!(a0.Other == [])) then mi_stmtForm_k1 N (y19, (a0.Text == []), r21, (IntKind.wrap .i64 (a0.Op + 1)), 7) else (mi_stmtForm_k1 N (y19, (a0.Text == []), r21, a0.Op, 6)) else (bif (a0.Kind == 23) then mi_stmtForm_k2 N (a0, (a0.Kind == 23)) else (mi_stmtForm_k2 N (a0, (a0.Kind == 24)))))

def mi_itemForm_k1 (N : Nat) : (SNode × Bool × Bool × Int × Int) → Option SForm
  | (a0, y9, y10, y11, y12) => some (⟨y9, y10, (a0.Other == []), y11, y12⟩ : SForm)
def mi_itemForm_k3 (N : Nat) : (Bool × SNode × Int) → Option SForm
  | (r15, a0, y16) => mi_itemForm_k1 N (a0, r15, (a0.Text == []), y16, y16)
def mi_itemForm_k4 (N : Nat) : (Bool × SNode × Int) → Option SForm
  | (y17, a0, y18) => mi_itemForm_k1 N (a0, y17, (a0.Text == []), y18, y18)
def mi_itemForm_k2 (N : Nat) : (SNode × Bool) → Option SForm
  | (a0, y13) => bif y13 then mi_itemForm_k1 N (a0, (a0.Op == 0), (a0.Text == []), 1, 1) else (bif (a0.Kind == 42) then (mi_within a0.Op 1 3).bind fun r15 => bif (a0.Op == 3) then mi_itemForm_k3 N (r15, a0, 2) else (mi_itemForm_k3 N (r15, a0, 1)) else (bif (a0.Kind == 43) then (bif (a0.Op == 1) then some true else (some (a0.Op == 3))).bind fun y17 => bif (a0.Op == 3) then mi_itemForm_k4 N (y17, a0, 3) else (mi_itemForm_k4 N (y17, a0, 2)) else (bif (a0.Kind == 44) then (mi_NameOk N a0.Text).bind fun r20 => mi_itemForm_k1 N (a0, (a0.Op == 0), r20, 1, 7) else (mi_itemForm_k1 N (a0, (a0.Op == 0), (a0.Text == []), 0, 400)))))
def mi_itemForm (N : Nat) (a0 : SNode) : Option SForm :=
  bif (a0.Kind == 40) then mi_itemForm_k2 N (a0, (a0.Kind == 40)) else (mi_itemForm_k2 N (a0, (a0.Kind == 41)))

def mi_FieldsOk_k1 (N : Nat) : (SNode × Bool × Bool × Bool × Int × Int) → Option Bool
  | (a0, y13, y14, y15, y16, y17) => (bif y13 then bif y14 then bif y15 then (mi_within (a0.Kids.length : Int) y16 y17).bind fun r20 => some r20 else (some false) else (some false) else (some false)).bind fun y19 => some y19
def mi_FieldsOk (N : Nat) (a0 : SNode) : Option Bool :=
  (mi_IsExpr a0.Kind).bind fun r22 => bif r22 then (mi_exprForm N a0).bind fun r24 => mi_FieldsOk_k1 N (a0, r24.op, r24.text, (a0.Other == []), r24.least, r24.most) else (bif (a0.Kind == 16) then mi_FieldsOk_k1 N (a0, (a0.Op == 0), (a0.Text == []), (a0.Other == []), 0, 0) else ((mi_IsStmt a0.Kind).bind fun r26 => bif r26 then (mi_stmtForm N a0).bind fun r28 => mi_FieldsOk_k1 N (a0, r28.op, r28.text, r28.other, r28.least, r28.most) else ((mi_within a0.Kind 40 45).bind fun r30 => bif r30 then (mi_itemForm N a0).bind fun r32 => mi_FieldsOk_k1 N (a0, r32.op, r32.text, r32.other, r32.least, r32.most) else (some false))))

def mi_IsLvalue (a0 : Int) : Option Bool :=
  (bif (a0 == 1) then some true else (bif (a0 == 5) then some true else (some (a0 == 6)))).bind fun y1 => some y1

def mi_isItem (a0 : Int) : Option Bool :=
  (mi_within a0 40 44).bind fun r2 => some r2

def mi_kidOk_k1 : (Int × Bool) → Option Bool
  | (a2, y22) => bif y22 then some (a2 == 33) else ((mi_IsExpr a2).bind fun r24 => some r24)
def mi_kidOk_k4 : (Int × Int × SNode × Bool) → Option Bool
  | (a2, a1, a0, y38) => bif y38 then mi_kidOk_k1 (a2, true) else (bif (a0.Kind == 33) then (mi_IsStmt a2).bind fun r40 => some r40 else (bif (a0.Kind == 42) then (bif (a1 == (IntKind.wrap .i64 ((a0.Kids.length : Int) - 1))) then some (decide (a0.Op ≥ 2)) else (some false)).bind fun y41 => mi_kidOk_k1 (a2, y41) else (bif (a0.Kind == 43) then (bif (a1 == (IntKind.wrap .i64 ((a0.Kids.length : Int) - 1))) then some (a0.Op == 3) else (some false)).bind fun y42 => mi_kidOk_k1 (a2, y42) else (bif (a0.Kind == 44) then bif (!(a1 == (IntKind.wrap .i64 ((a0.Kids.length : Int) - 1)))) then some (a2 == 1) else (mi_kidOk_k1 (a2, true)) else (bif (a0.Kind == 45) then ((mi_isItem a2).bind fun r45 => bif r45 then some true else (some (a2 == 34))).bind fun y44 => some y44 else (mi_kidOk_k1 (a2, false)))))))
def mi_kidOk_k3 : (Int × Int × SNode × Bool) → Option Bool
  | (a1, a2, a0, y35) => bif y35 then mi_kidOk_k1 (a2, (decide (a1 > 0))) else (bif (a0.Kind == 31) then (bif (decide (a1 < 3)) then some (a2 == 16) else (some false)).bind fun y37 => bif y37 then some true else (mi_kidOk_k1 (a2, (a1 == (IntKind.wrap .i64 ((a0.Kids.length : Int) - 1))))) else (bif (a0.Kind == 30) then mi_kidOk_k1 (a2, (a1 == 0)) else (bif (a0.Kind == 32) then mi_kidOk_k4 (a2, a1, a0, (a0.Kind == 32)) else (bif (a0.Kind == 40) then mi_kidOk_k4 (a2, a1, a0, (a0.Kind == 40)) else (mi_kidOk_k4 (a2, a1, a0, (a0.Kind == 41)))))))
def mi_kidOk_k2 : (Int × Int × SNode × Bool) → Option Bool
  | (a1, a2, a0, y25) => bif y25 then (mi_IsLvalue a2).bind fun r27 => some r27 else (bif (a0.Kind == 15) then (bif (a1 == 0) then (mi_IsLvalue a2).bind fun r32 => bif r32 then some true else (bif (decide (a1 > 0)) then (mi_IsExpr a2).bind fun r33 => some r33 else (some false)) else (bif (decide (a1 > 0)) then (mi_IsExpr a2).bind fun r34 => some r34 else (some false))).bind fun y31 => some y31 else (bif (a0.Kind == 28) then mi_kidOk_k3 (a1, a2, a0, (a0.Kind == 28)) else (mi_kidOk_k3 (a1, a2, a0, (a0.Kind == 29)))))
def mi_kidOk (a0 : SNode) (a1 : Int) (a2 : Int) : Option Bool :=
  bif (a0.Kind == 9) then mi_kidOk_k2 (a1, a2, a0, (a0.Kind == 9)) else (mi_kidOk_k2 (a1, a2, a0, (a0.Kind == 10)))

structure Rec2 where
  mi_treeAt : (List SNode) → Int → Option STree

def mi_treeAt_l1 (N : Nat) (R : Rec2) : Nat → ((List SNode) × SNode × Int × (List STree)) → Option STree
  | 0, _ => none
  | n1 + 1, (a0, e2, y63, y64) => bif (decide (y63 < (e2.Kids.length : Int))) then (ix e2.Kids y63).bind fun e86 => (R.mi_treeAt a0 e86).bind fun r89 => (app 72 y64 [r89]).bind fun x90 => (mi_treeAt_l1 N R n1) (a0, e2, (IntKind.wrap .i64 (y63 + 1)), x90) else (some (⟨e2.Kind, e2.Op, e2.Text, e2.Other, y64⟩ : STree))
def mi_treeAt_F (N : Nat) (R : Rec2) (a0 : List SNode) (a1 : Int) : Option STree :=
  (ix a0 a1).bind fun e2 => mi_treeAt_l1 N R N (a0, e2, 0, [])
def scc2 : Nat → Rec2
  | 0 => ⟨fun _ _ => none⟩
  | N + 1 => ⟨fun a0 a1 => mi_treeAt_F N (scc2 N) a0 a1⟩
def mi_treeAt (N : Nat) (a0 : List SNode) (a1 : Int) : Option STree := (scc2 N).mi_treeAt a0 a1

def mi_rootOf (N : Nat) (a0 : List SNode) : Option STree :=
  (mi_treeAt N a0 (IntKind.wrap .i64 ((a0.length : Int) - 1))).bind fun r2 => some r2

structure Rec3 where
  mi_tree__depth : STree → Option Int

def mi_tree__depth_l1 (N : Nat) (R : Rec3) : Nat → (STree × Int × Int) → Option Int
  | 0, _ => none
  | n1 + 1, (a0, y37, y38) => bif (decide (y38 < (a0.kids.length : Int))) then (ix a0.kids y38).bind fun e54 => (R.mi_tree__depth e54).bind fun r56 => (mi_tree__depth_l1 N R n1) (a0, (if r56 > y37 then r56 else y37), (IntKind.wrap .i64 (y38 + 1))) else (some (IntKind.wrap .i64 (y37 + 1)))
def mi_tree__depth_F (N : Nat) (R : Rec3) (a0 : STree) : Option Int :=
  mi_tree__depth_l1 N R N (a0, 0, 0)
def scc3 : Nat → Rec3
  | 0 => ⟨fun _ => none⟩
  | N + 1 => ⟨fun a0 => mi_tree__depth_F N (scc3 N) a0⟩
def mi_tree__depth (N : Nat) (a0 : STree) : Option Int := (scc3 N).mi_tree__depth a0

def mi_TreeOk_l2 (N : Nat) (kb1 : ((List SNode) × Int) → Option Bool) : Nat → ((List SNode) × Int × SNode × Int) → Option Bool
  | 0, _ => none
  | n2 + 1, (a0, y359, e494, y511) => bif (decide (y511 < (e494.Kids.length : Int))) then (ix e494.Kids y511).bind fun e532 => (ix a0 e532).bind fun e535 => (mi_kidOk e494 y511 e535.Kind).bind fun r536 => bif (!r536) then some false else ((mi_TreeOk_l2 N kb1 n2) (a0, y359, e494, (IntKind.wrap .i64 (y511 + 1)))) else (kb1 (a0, (IntKind.wrap .i64 (y359 + 1))))
def mi_TreeOk_l1 (N : Nat) : Nat → ((List SNode) × Int) → Option Bool
  | 0, _ => none
  | n1 + 1, (a0, y359) => bif (decide (y359 < (a0.length : Int))) then (ix a0 y359).bind fun e494 => (mi_FieldsOk N e494).bind fun r498 => bif (!r498) then some false else (mi_TreeOk_l2 N (mi_TreeOk_l1 N n1) N (a0, y359, e494, 0)) else ((mi_rootOf N a0).bind fun r539 => (mi_tree__depth N r539).bind fun r540 => some (decide (r540 ≤ 40)))
def mi_TreeOk (N : Nat) (a0 : List SNode) : Option Bool :=
  (mi_ShapeOk N a0).bind fun r4 => bif (!r4) then some false else (mi_TreeOk_l1 N N (a0, 0))

def mi_ExprOk (N : Nat) (a0 : List SNode) : Option Bool :=
  ((mi_TreeOk N a0).bind fun r5 => bif r5 then (ix a0 (IntKind.wrap .i64 ((a0.length : Int) - 1))).bind fun e6 => (mi_IsExpr e6.Kind).bind fun r7 => some r7 else (some false)).bind fun y4 => some y4

def mi_NamesOf_1 (p0_0 : Int) (p0_1 : Int) (p0_2 : List UInt8) (p0_3 : List UInt8) (p0_4 : List Int) (p2 : List (List UInt8)) : Option (List (List UInt8)) :=
  (app 16 p2 [p0_2]).bind fun x2 => some x2

def mi_NamesOf_1_v2 (p0_0 : Int) (p0_1 : Int) (p0_2 : List UInt8) (p0_3 : List UInt8) (p0_4 : List Int) (p2 : List (List UInt8)) : Option (List (List UInt8)) :=
  (app 16 p2 [p0_3]).bind fun x2 => some x2

def mi_namesIn_k1 (p0_0 : Int) (p0_1 : Int) (p0_2 : List UInt8) (p0_3 : List UInt8) (p0_4 : List Int) : (List (List UInt8)) → Option (List (List UInt8))
  | y4 => bif (p0_0 == 32) then (mi_NamesOf_1_v2 p0_0 p0_1 p0_2 p0_3 p0_4 y4).bind fun r6 => some r6 else (some y4)
def mi_namesIn_k2 (p0_0 : Int) (p0_1 : Int) (p0_2 : List UInt8) (p0_3 : List UInt8) (p0_4 : List Int) : ((List (List UInt8)) × Bool) → Option (List (List UInt8))
  | (p2, y7) => bif y7 then (mi_NamesOf_1 p0_0 p0_1 p0_2 p0_3 p0_4 p2).bind fun r9 => mi_namesIn_k1 p0_0 p0_1 p0_2 p0_3 p0_4 r9 else (mi_namesIn_k1 p0_0 p0_1 p0_2 p0_3 p0_4 p2)
def mi_namesIn (p0_0 : Int) (p0_1 : Int) (p0_2 : List UInt8) (p0_3 : List UInt8) (p0_4 : List Int) (p2 : List (List UInt8)) : Option (List (List UInt8)) :=
  bif (p0_0 == 1) then mi_namesIn_k2 p0_0 p0_1 p0_2 p0_3 p0_4 (p2, (p0_0 == 1)) else (bif (p0_0 == 5) then mi_namesIn_k2 p0_0 p0_1 p0_2 p0_3 p0_4 (p2, (p0_0 == 5)) else (bif (p0_0 == 13) then mi_namesIn_k2 p0_0 p0_1 p0_2 p0_3 p0_4 (p2, (p0_0 == 13)) else (bif (p0_0 == 27) then mi_namesIn_k2 p0_0 p0_1 p0_2 p0_3 p0_4 (p2, (p0_0 == 27)) else (mi_namesIn_k2 p0_0 p0_1 p0_2 p0_3 p0_4 (p2, (p0_0 == 32))))))

def m_slices_Sort_string (p0 : List (List UInt8)) : Option (List (List UInt8)) :=
  sortSO p0

def m_slices_Compact_string (p0 : List (List UInt8)) : Option (List (List UInt8)) :=
  compSO p0

def mi_once (p0 : List (List UInt8)) : Option (List (List UInt8)) :=
  (m_slices_Sort_string p0).bind fun r2 => (m_slices_Compact_string r2).bind fun r4 => some r4

def mi_NamesOf_l1 (N : Nat) : Nat → ((List SNode) × Int × (List (List UInt8))) → Option (List (List UInt8))
  | 0, _ => none
  | n1 + 1, (a0, y37, y38) => bif (decide (y37 < (a0.length : Int))) then (ix a0 y37).bind fun e54 => (mi_namesIn e54.Kind e54.Op e54.Text e54.Other e54.Kids y38).bind fun r56 => (mi_NamesOf_l1 N n1) (a0, (IntKind.wrap .i64 (y37 + 1)), r56) else ((mi_once y38).bind fun r58 => some r58)
def mi_NamesOf (N : Nat) (a0 : List SNode) : Option (List (List UInt8)) :=
  mi_NamesOf_l1 N N (a0, 0, [])

def mi_IsHole (a0 : SNode) : Option Bool :=
  (bif (a0.Kind == 1) then bif ((a0.Text.length : Int) == 1) then (ix a0.Text 0).bind fun b4 => bif (decide (((b4).toNat : Int) ≥ 97)) then (ix a0.Text 0).bind fun b5 => some (decide (((b5).toNat : Int) ≤ 122)) else (some false) else (some false) else (some false)).bind fun y3 => some y3

def mi_hasHole_1 (a0 : SNode) (p0_0 : List UInt8) : Option Bool :=
  ((mi_IsHole a0).bind fun r3 => bif r3 then some (a0.Text == p0_0) else (some false)).bind fun y2 => some y2

def m_slices_IndexFunc_Node_l1 (N : Nat) (p0_0 : List UInt8) : Nat → ((List SNode) × Int) → Option Int
  | 0, _ => none
  | n1 + 1, (a0, y35) => bif (decide (y35 < (a0.length : Int))) then (ix a0 y35).bind fun e51 => (mi_hasHole_1 e51 p0_0).bind fun r52 => bif r52 then some y35 else ((m_slices_IndexFunc_Node_l1 N p0_0 n1) (a0, (IntKind.wrap .i64 (y35 + 1)))) else (some (-1))
def m_slices_IndexFunc_Node (N : Nat) (a0 : List SNode) (p0_0 : List UInt8) : Option Int :=
  m_slices_IndexFunc_Node_l1 N p0_0 N (a0, 0)

def m_slices_ContainsFunc_Node (N : Nat) (a0 : List SNode) (p0_0 : List UInt8) : Option Bool :=
  (m_slices_IndexFunc_Node N a0 p0_0).bind fun r2 => some (decide (r2 ≥ 0))

def mi_hasHole (N : Nat) (a0 : List SNode) (a1 : List UInt8) : Option Bool :=
  (m_slices_ContainsFunc_Node N a0 a1).bind fun r2 => some r2

def mi_tree__isHole (a0 : STree) : Option Bool :=
  (mi_IsHole (⟨a0.kind, 0, a0.text, [], []⟩ : SNode)).bind fun r2 => some r2

def mi_tree__with (a0 : STree) (a1 : List STree) : Option STree :=
  some (⟨a0.kind, a0.op, a0.text, a0.other, a1⟩ : STree)

structure Rec4 where
  mi_tree__filled : STree → (List SFilling) → Option STree

def mi_tree__filled_l1 (N : Nat) (R : Rec4) : Nat → ((List SFilling) × STree × Int) → Option STree
  | 0, _ => none
  | n1 + 1, (a1, a0, y51) => bif (decide (y51 < (a1.length : Int))) then (ix a1 y51).bind fun e60 => bif (e60.name == a0.text) then some e60.tree else ((mi_tree__filled_l1 N R n1) (a1, a0, (IntKind.wrap .i64 (y51 + 1)))) else (some a0)
def mi_tree__filled_l2 (N : Nat) (R : Rec4) : Nat → ((List SFilling) × STree × Int × (List STree)) → Option STree
  | 0, _ => none
  | n2 + 1, (a1, a0, y113, y114) => bif (decide (y113 < (a0.kids.length : Int))) then (ix a0.kids y113).bind fun e136 => (R.mi_tree__filled e136 a1).bind fun r139 => (app 72 y114 [r139]).bind fun x140 => (mi_tree__filled_l2 N R n2) (a1, a0, (IntKind.wrap .i64 (y113 + 1)), x140) else ((mi_tree__with a0 y114).bind fun r142 => some r142)
def mi_tree__filled_F (N : Nat) (R : Rec4) (a0 : STree) (a1 : List SFilling) : Option STree :=
  (mi_tree__isHole a0).bind fun r32 => bif r32 then mi_tree__filled_l1 N R N (a1, a0, 0) else (mi_tree__filled_l2 N R N (a1, a0, 0, []))
def scc4 : Nat → Rec4
  | 0 => ⟨fun _ _ => none⟩
  | N + 1 => ⟨fun a0 a1 => mi_tree__filled_F N (scc4 N) a0 a1⟩
def mi_tree__filled (N : Nat) (a0 : STree) (a1 : List SFilling) : Option STree := (scc4 N).mi_tree__filled a0 a1

structure Rec5 where
  mi_tree__add : STree → (List SNode) → Option (List SNode)

def mi_tree__add_l1 (N : Nat) (R : Rec5) : Nat → (STree × Int × (List SNode) × (List Int)) → Option (List SNode)
  | 0, _ => none
  | n1 + 1, (a0, y59, y60, y61) => bif (decide (y59 < (a0.kids.length : Int))) then (ix a0.kids y59).bind fun e84 => (R.mi_tree__add e84 y60).bind fun r86 => (app 8 y61 [(IntKind.wrap .i64 ((r86.length : Int) - 1))]).bind fun x88 => (mi_tree__add_l1 N R n1) (a0, (IntKind.wrap .i64 (y59 + 1)), r86, x88) else ((app 72 y60 [(⟨a0.kind, a0.op, a0.text, a0.other, y61⟩ : SNode)]).bind fun x90 => some x90)
def mi_tree__add_F (N : Nat) (R : Rec5) (a0 : STree) (p0 : List SNode) : Option (List SNode) :=
  mi_tree__add_l1 N R N (a0, 0, p0, [])
def scc5 : Nat → Rec5
  | 0 => ⟨fun _ _ => none⟩
  | N + 1 => ⟨fun a0 p0 => mi_tree__add_F N (scc5 N) a0 p0⟩
def mi_tree__add (N : Nat) (a0 : STree) (p0 : List SNode) : Option (List SNode) := (scc5 N).mi_tree__add a0 p0

def mi_tree__list (N : Nat) (a0 : STree) : Option (List SNode) :=
  (mi_tree__add N a0 []).bind fun r2 => some r2

def mi_FillIn_k2 (N : Nat) (kb1 : ((List SNode) × (List SHole) × (List (List UInt8)) × Int × (List SFilling) × (List (List UInt8))) → Option (List SNode)) : ((List SNode) × (List SHole) × Int × (List (List UInt8)) × (List SFilling) × (List (List UInt8))) → Option (List SNode)
  | (a0, a1, y261, r6, y359, y360) => kb1 (a0, a1, r6, (IntKind.wrap .i64 (y261 + 1)), y359, y360)
def mi_FillIn_l1 (N : Nat) : Nat → ((List SNode) × (List SHole) × (List (List UInt8)) × Int × (List SFilling) × (List (List UInt8))) → Option (List SNode)
  | 0, _ => none
  | n1 + 1, (a0, a1, r6, y261, y262, y263) => bif (decide (y261 < (a1.length : Int))) then (ix a1 y261).bind fun e362 => (m_slices_Contains_string N y263 e362.Name).bind fun r366 => bif r366 then mi_FillIn_k2 N (mi_FillIn_l1 N n1) (a0, a1, y261, r6, y262, y263) else ((app 16 y263 [e362.Name]).bind fun x368 => (bif ((e362.Part.length : Int) == 0) then some true else ((m_slices_Contains_string N r6 e362.Name).bind fun r374 => some (!r374))).bind fun y373 => bif y373 then mi_FillIn_k2 N (mi_FillIn_l1 N n1) (a0, a1, y261, r6, y262, x368) else ((mi_ShapeOk N e362.Part).bind fun r382 => bif (!r382) then (mi_hasHole N a0 e362.Name).bind fun r386 => bif r386 then some [] else (mi_FillIn_k2 N (mi_FillIn_l1 N n1) (a0, a1, y261, r6, y262, x368)) else ((mi_rootOf N e362.Part).bind fun r389 => (app 88 y262 [(⟨e362.Name, r389⟩ : SFilling)]).bind fun x390 => mi_FillIn_k2 N (mi_FillIn_l1 N n1) (a0, a1, y261, r6, x390, x368)))) else ((mi_rootOf N a0).bind fun r394 => (mi_tree__filled N r394 y262).bind fun r395 => (mi_tree__list N r395).bind fun r396 => (mi_TreeOk N r396).bind fun r400 => bif (!r400) then some [] else (some r396))
def mi_FillIn (N : Nat) (a0 : List SNode) (a1 : List SHole) : Option (List SNode) :=
  (mi_ExprOk N a0).bind fun r4 => bif (!r4) then some [] else ((mi_NamesOf N a0).bind fun r6 => mi_FillIn_l1 N N (a0, a1, r6, 0, [], []))

def ml_eqIntS_l1 (N : Nat) : Nat → ((List Int) × (List Int) × Int) → Option Bool
  | 0, _ => none
  | n1 + 1, (a0, a1, y35) => bif (decide (y35 < (a0.length : Int))) then (ix a0 y35).bind fun e51 => (ix a1 y35).bind fun e52 => bif (e51 != e52) then some false else ((ml_eqIntS_l1 N n1) (a0, a1, (IntKind.wrap .i64 (y35 + 1)))) else (some true)
def ml_eqIntS (N : Nat) (a0 : List Int) (a1 : List Int) : Option Bool :=
  bif ((a0.length : Int) != (a1.length : Int)) then some false else (ml_eqIntS_l1 N N (a0, a1, 0))

def ml_eqNode (N : Nat) (a0 : SNode) (a1 : SNode) : Option Bool :=
  bif (a0.Kind != a1.Kind) then some false else (bif (a0.Op != a1.Op) then some false else (bif (!(a0.Text == a1.Text)) then some false else (bif (!(a0.Other == a1.Other)) then some false else ((ml_eqIntS N a0.Kids a1.Kids).bind fun r4 => bif (!r4) then some false else (some true)))))

def ml_eqNodeS_l1 (N : Nat) : Nat → ((List SNode) × (List SNode) × Int) → Option Bool
  | 0, _ => none
  | n1 + 1, (a0, a1, y51) => bif (decide (y51 < (a0.length : Int))) then (ix a0 y51).bind fun e74 => (ix a1 y51).bind fun e75 => (ml_eqNode N e74 e75).bind fun r76 => bif (!r76) then some false else ((ml_eqNodeS_l1 N n1) (a0, a1, (IntKind.wrap .i64 (y51 + 1)))) else (some true)
def ml_eqNodeS (N : Nat) (a0 : List SNode) (a1 : List SNode) : Option Bool :=
  bif ((a0.length : Int) != (a1.length : Int)) then some false else (ml_eqNodeS_l1 N N (a0, a1, 0))

def ml_eqHole (N : Nat) (a0 : SHole) (a1 : SHole) : Option Bool :=
  bif (!(a0.Name == a1.Name)) then some false else ((ml_eqNodeS N a0.Part a1.Part).bind fun r4 => bif (!r4) then some false else (some true))

def ml_eqHoleS_l1 (N : Nat) : Nat → ((List SHole) × (List SHole) × Int) → Option Bool
  | 0, _ => none
  | n1 + 1, (a0, a1, y51) => bif (decide (y51 < (a0.length : Int))) then (ix a0 y51).bind fun e74 => (ix a1 y51).bind fun e75 => (ml_eqHole N e74 e75).bind fun r76 => bif (!r76) then some false else ((ml_eqHoleS_l1 N n1) (a0, a1, (IntKind.wrap .i64 (y51 + 1)))) else (some true)
def ml_eqHoleS (N : Nat) (a0 : List SHole) (a1 : List SHole) : Option Bool :=
  bif ((a0.length : Int) != (a1.length : Int)) then some false else (ml_eqHoleS_l1 N N (a0, a1, 0))

def ml_markText_l1 (N : Nat) : Nat → (Int × (List UInt8)) → Option (List UInt8)
  | 0, _ => none
  | n1 + 1, (y13, y14) => bif (decide (y13 > 0)) then (cat [(bytI (IntKind.wrap .i64 (48 + (Int.tmod y13 10))))] y14).bind fun s20 => (ml_markText_l1 N n1) ((IntKind.wrap .i64 (Int.tdiv y13 10)), s20) else ((cat ([109] : List UInt8) y14).bind fun s22 => some s22)
def ml_markText (N : Nat) (a0 : Int) : Option (List UInt8) :=
  bif (decide (a0 ≤ 0)) then some [109, 48] else (ml_markText_l1 N N (a0, []))

def ml_markIntS_l1 (N : Nat) : Nat → (Int × Int × (List Int)) → Option (Int × (List Int))
  | 0, _ => none
  | n1 + 1, (y39, y40, y41) => bif (decide (y40 < (y41.length : Int))) then (ix y41 y40).bind fun e59 => (upd y41 y40 y39).bind fun x60 => (ml_markIntS_l1 N n1) ((IntKind.wrap .i64 (y39 + 1)), (IntKind.wrap .i64 (y40 + 1)), x60) else (some (y39, y41))
def ml_markIntS (N : Nat) (a1 : Int) (p0 : List Int) : Option (Int × (List Int)) :=
  ml_markIntS_l1 N N (a1, 0, p0)

def ml_markIntS_v2_l1 (N : Nat) : Nat → Int → Option Int
  | 0, _ => none
  | n1 + 1, a1 => some a1
def ml_markIntS_v2 (N : Nat) (a1 : Int) : Option Int :=
  ml_markIntS_v2_l1 N N a1

def ml_markNodeS_l1 (N : Nat) : Nat → (Int × Int × (List SNode)) → Option (Int × (List SNode))
  | 0, _ => none
  | n1 + 1, (y191, y192, y193) => bif (decide (y192 < (y193.length : Int))) then (ix y193 y192).bind fun e268 => (upd y193 y192 (⟨y191, e268.Op, e268.Text, e268.Other, e268.Kids⟩ : SNode)).bind fun x269 => (ix x269 y192).bind fun e272 => (upd x269 y192 (⟨e272.Kind, (IntKind.wrap .i64 (y191 + 1)), e272.Text, e272.Other, e272.Kids⟩ : SNode)).bind fun x273 => (ml_markText N (IntKind.wrap .i64 ((IntKind.wrap .i64 (y191 + 1)) + 1))).bind fun r277 => (ix x273 y192).bind fun e278 => (upd x273 y192 (⟨e278.Kind, e278.Op, r277, e278.Other, e278.Kids⟩ : SNode)).bind fun x279 => (ml_markText N (IntKind.wrap .i64 ((IntKind.wrap .i64 ((IntKind.wrap .i64 (y191 + 1)) + 1)) + 1))).bind fun r283 => (ix x279 y192).bind fun e284 => (upd x279 y192 (⟨e284.Kind, e284.Op, e284.Text, r283, e284.Kids⟩ : SNode)).bind fun x285 => (ix x285 y192).bind fun e286 => (ml_markIntS N (IntKind.wrap .i64 ((IntKind.wrap .i64 ((IntKind.wrap .i64 ((IntKind.wrap .i64 (y191 + 1)) + 1)) + 1)) + 1)) e286.Kids).bind fun r287 => (upd x285 y192 (⟨e286.Kind, e286.Op, e286.Text, e286.Other, r287.2⟩ : SNode)).bind fun x288 => (ml_markNodeS_l1 N n1) (r287.1, (IntKind.wrap .i64 (y192 + 1)), x288) else (some (y191, y193))
def ml_markNodeS (N : Nat) (a1 : Int) (p0 : List SNode) : Option (Int × (List SNode)) :=
  ml_markNodeS_l1 N N (a1, 0, p0)

def ml_markNodeS_v2_l1 (N : Nat) : Nat → Int → Option Int
  | 0, _ => none
  | n1 + 1, a1 => some a1
def ml_markNodeS_v2 (N : Nat) (a1 : Int) : Option Int :=
  ml_markNodeS_v2_l1 N N a1

def ml_markHoleS_l1 (N : Nat) : Nat → (Int × Int × (List SHole)) → Option (Int × (List SHole))
  | 0, _ => none
  | n1 + 1, (y79, y80, y81) => bif (decide (y80 < (y81.length : Int))) then (ml_markText N y79).bind fun r115 => (ix y81 y80).bind fun e116 => (upd y81 y80 (⟨r115, e116.Part⟩ : SHole)).bind fun x117 => (ix x117 y80).bind fun e118 => (ml_markNodeS N (IntKind.wrap .i64 (y79 + 1)) e118.Part).bind fun r119 => (upd x117 y80 (⟨e118.Name, r119.2⟩ : SHole)).bind fun x120 => (ml_markHoleS_l1 N n1) (r119.1, (IntKind.wrap .i64 (y80 + 1)), x120) else (some (y79, y81))
def ml_markHoleS (N : Nat) (a1 : Int) (p0 : List SHole) : Option (Int × (List SHole)) :=
  ml_markHoleS_l1 N N (a1, 0, p0)

def ml_heldIntS_l1 (N : Nat) : Nat → ((List Int) × Int × Int) → Option Int
  | 0, _ => none
  | n1 + 1, (a0, y37, y38) => bif (decide (y38 < (a0.length : Int))) then (ix a0 y38).bind fun e56 => bif (e56 != y37) then some (-1) else ((ml_heldIntS_l1 N n1) (a0, (IntKind.wrap .i64 (y37 + 1)), (IntKind.wrap .i64 (y38 + 1)))) else (some y37)
def ml_heldIntS (N : Nat) (a0 : List Int) (a1 : Int) : Option Int :=
  ml_heldIntS_l1 N N (a0, a1, 0)

def ml_heldNodeS_l1 (N : Nat) : Nat → ((List SNode) × Int × Int) → Option Int
  | 0, _ => none
  | n1 + 1, (a0, y229, y230) => bif (decide (y230 < (a0.length : Int))) then (ix a0 y230).bind fun e320 => bif (e320.Kind != y229) then some (-1) else ((ix a0 y230).bind fun e324 => bif (e324.Op != (IntKind.wrap .i64 (y229 + 1))) then some (-1) else ((ix a0 y230).bind fun e331 => (ml_markText N (IntKind.wrap .i64 ((IntKind.wrap .i64 (y229 + 1)) + 1))).bind fun r332 => bif (!(e331.Text == r332)) then some (-1) else ((ix a0 y230).bind fun e339 => (ml_markText N (IntKind.wrap .i64 ((IntKind.wrap .i64 ((IntKind.wrap .i64 (y229 + 1)) + 1)) + 1))).bind fun r340 => bif (!(e339.Other == r340)) then some (-1) else ((ix a0 y230).bind fun e343 => (ml_heldIntS N e343.Kids (IntKind.wrap .i64 ((IntKind.wrap .i64 ((IntKind.wrap .i64 ((IntKind.wrap .i64 (y229 + 1)) + 1)) + 1)) + 1))).bind fun r344 => bif (decide (r344 < 0)) then some (-1) else ((ml_heldNodeS_l1 N n1) (a0, r344, (IntKind.wrap .i64 (y230 + 1)))))))) else (some y229)
def ml_heldNodeS (N : Nat) (a0 : List SNode) (a1 : Int) : Option Int :=
  ml_heldNodeS_l1 N N (a0, a1, 0)

def ml_FnExactFillIn (N : Nat) (a0 : List SNode) (a1 : List SHole) : Option Bool :=
  (ml_szNodeS N a0 1048576).bind fun r2 => bif (decide (r2 < 0)) then some true else ((ml_szHoleS N a1 r2).bind fun r4 => bif (decide (r4 < 0)) then some true else ((ml_toNodeS N a0).bind fun r8 => (ml_toHoleS N a1).bind fun r9 => (ms_FillIn N r8 r9).bind fun r10 => (ml_toNodeS N a0).bind fun r12 => (ml_toHoleS N a1).bind fun r14 => (mi_FillIn N r12 r14).bind fun r16 => (ml_eqNodeS N r16 r10).bind fun r20 => bif (!r20) then some false else ((ml_toNodeS N a0).bind fun r27 => (ml_eqNodeS N r12 r27).bind fun r28 => bif (!r28) then some false else ((ml_toHoleS N a1).bind fun r35 => (ml_eqHoleS N r14 r35).bind fun r36 => bif (!r36) then some false else ((ml_markNodeS N 1 r12).bind fun r38 => (ml_markHoleS N r38.1 r14).bind fun r40 => (bif (decide (r40.1 < 0)) then some true else ((ml_eqNodeS N r16 r10).bind fun r46 => some (!r46))).bind fun y45 => bif y45 then some false else ((ml_markNodeS N 1 r16).bind fun r48 => (ml_heldNodeS N r48.2 1).bind fun r50 => bif (decide (r50 < 0)) then some false else (bif (r50 != r48.1) then some false else ((ml_toNodeS N a0).bind fun r54 => (ml_toHoleS N a1).bind fun r55 => (mi_FillIn N r54 r55).bind fun r56 => (ml_eqNodeS N r56 r10).bind fun r60 => bif (!r60) then some false else ((ml_heldNodeS N r48.2 1).bind fun r62 => bif (decide (r62 < 0)) then some false else (bif (r62 != r48.1) then some false else (some true)))))))))))

end Go.Proofs.Tryz

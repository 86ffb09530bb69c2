/-
  Models of the functions that this seat reaches.
-/
import Derived.Test.YtgnkbpkhbcmhlaaGreatDoorVTab
import Derived.Test.YtgnkbpkhbcmhlaaGreatDoorVCore5
namespace Go.Proofs.Tryz
open Go.Av
set_option maxRecDepth 100000
set_option maxHeartbeats 8000000
set_option linter.unusedSimpArgs false
set_option linter.unusedVariables false

def tab_keywords : List (List UInt8) := [[66, 69, 71, 73, 78], [69, 78, 68], [102, 117, 110, 99, 116, 105, 111, 110], [105, 102], [101, 108, 115, 101], [119, 104, 105, 108, 101], [102, 111, 114], [100, 111], [98, 114, 101, 97, 107], [99, 111, 110, 116, 105, 110, 117, 101], [110, 101, 120, 116], [101, 120, 105, 116], [114, 101, 116, 117, 114, 110], [100, 101, 108, 101, 116, 101], [105, 110], [112, 114, 105, 110, 116], [112, 114, 105, 110, 116, 102]]
def tab_signs : List (List UInt8) := [[123], [125], [40], [41], [91], [93], [44], [59], [43, 61], [45, 61], [42, 61], [47, 61], [37, 61], [94, 61], [124, 124], [38, 38], [33, 126], [61, 61], [60, 61], [62, 61], [33, 61], [43, 43], [45, 45], [62, 62], [61], [43], [45], [42], [47], [37], [94], [33], [62], [60], [124], [63], [58], [126], [36]]
def tab_builtins : List (List UInt8) := [[97, 116, 97, 110, 50], [99, 108, 111, 115, 101], [99, 111, 115], [101, 120, 112], [103, 115, 117, 98], [105, 110, 100, 101, 120], [105, 110, 116], [108, 101, 110, 103, 116, 104], [108, 111, 103], [109, 97, 116, 99, 104], [114, 97, 110, 100], [115, 105, 110], [115, 112, 108, 105, 116], [115, 112, 114, 105, 110, 116, 102], [115, 113, 114, 116], [115, 114, 97, 110, 100], [115, 117, 98], [115, 117, 98, 115, 116, 114], [115, 121, 115, 116, 101, 109], [116, 111, 108, 111, 119, 101, 114], [116, 111, 117, 112, 112, 101, 114]]
def GG : Nat → Option (List V)
  | 0 => some (tab_keywords.map V.s)
  | 1 => some (tab_signs.map V.s)
  | 2 => some (tab_builtins.map V.s)
  | _ => none
def GS (l : List Nat) (g : Nat) : Option (List V) := bif l.contains g then GG g else none

theorem AC.gs {f : FuncId} {vs : List V} {H : Hp} {r : V} {H1 : Hp} {l l1 : List Nat} (h : AC Tryz.prog (GS l) f vs H r H1) (hs : (l.all fun g => l1.contains g) = true) : AC Tryz.prog (GS l1) f vs H r H1 := by
  refine Go.Av.AC.mono h fun g cs hg => ?_
  unfold GS at hg ⊢
  cases hc : l.contains g with
  | false => rw [hc] at hg; cases hg
  | true =>
    rw [hc] at hg
    have := List.all_eq_true.1 hs g (List.contains_iff_mem.1 hc)
    rw [this]
    exact hg

theorem mix : Tryz.prog.follows .mixedOrders = true := by kernel_rfl

theorem wR {G : Nat → Option (List V)} {ops : Array Oper} {draw : Bool} {T0 : List V} {H0 : Hp} {Q : St → Prop} (n q : Nat) {i : Nat} {T : List V} {H : Hp} {Es : List (Bool × Eff)} (k : W Tryz.prog G ops draw T0 H0 (i + n) (aftE D G ops n q i T H).T (aftE D G ops n q i T H).H (Es ++ (aftE D G ops n q i T H).Es) Q) (h : (runE D G ops n q i T H).isSome = true := by kernel_rfl) : W Tryz.prog G ops draw T0 H0 i T H Es Q := W.run Dk n q h k
theorem cU {G : Nat → Option (List V)} {L : Option Nat} (n q : Nat) (T' : List V) (H' : Hp) {id : Nat} {l : List Oper} {draw : Bool} {c : Code} {T : List V} {H : Hp} {Q : Exit → St → Prop} (k : CO L Tryz.prog G c ⟨T', H'⟩ Q) (h : cuC D G l.toArray draw n q T H T' H' = (true, T', some H') := by kernel_rfl) : CO L Tryz.prog G (.seq (.region id l.toArray draw) c) ⟨T, H⟩ Q := cu Dk mix n q T' H' h k
theorem cE {G : Nat → Option (List V)} {L : Option Nat} (n q : Nat) (T' : List V) (H' : Hp) {id : Nat} {l : List Oper} {draw : Bool} {T : List V} {H : Hp} {Q : Exit → St → Prop} (hQ : ∀ st, Weak st ⟨T', H'⟩ → Q .normal st) (h : cuC D G l.toArray draw n q T H T' H' = (true, T', some H') := by kernel_rfl) : CO L Tryz.prog G (.region id l.toArray draw) ⟨T, H⟩ Q := ce Dk mix n q T' H' h hQ

theorem cV {G : Nat → Option (List V)} {L : Option Nat} (q : Nat) {id : Nat} {l : List Oper} {draw : Bool} {c : Code} {T : List V} {H : Hp} {Q : Exit → St → Prop} (k : CO L Tryz.prog G c ⟨(aftE D G l.toArray l.toArray.size q 0 T H).T, (aftE D G l.toArray l.toArray.size q 0 T H).H⟩ Q) (h : lzB D G l.toArray draw q T H = true := by kernel_rfl) : CO L Tryz.prog G (.seq (.region id l.toArray draw) c) ⟨T, H⟩ Q := cv Dk mix q k h
theorem cK {G : Nat → Option (List V)} {L : Option Nat} (q : Nat) {ι : Type} {J : ι → St} {R : ι → Prop} {id : Nat} {l : List Oper} {draw : Bool} {T : List V} {H : Hp} {Q : Exit → St → Prop} (hk : ∀ i, R i → ∀ st, Weak st (J i) → Q .normal st) (i : ι) (hi : R i) (m : Ren) (ks : List Nat) (h : jnC m ks (lzB D G l.toArray draw q T H) (aftE D G l.toArray l.toArray.size q 0 T H).T (aftE D G l.toArray l.toArray.size q 0 T H).H = (true, (J i).T, some (J i).H) := by kernel_rfl) : CO L Tryz.prog G (.region id l.toArray draw) ⟨T, H⟩ Q := ck Dk mix q hk i hi m ks h
theorem cC {G : Nat → Option (List V)} {L : Option Nat} (n q : Nat) {id : Nat} {l : List Oper} {draw : Bool} {c : Code} {T : List V} {H : Hp} {Q : Exit → St → Prop} {fid : FuncId} {vs : List V} {rc : V} (hA : AC Tryz.prog G fid vs [] rc []) (hcf : callOk Tryz.prog fid) (k : CO L Tryz.prog G c ⟨(ccR D G l.toArray n q rc T H).T, (ccR D G l.toArray n q rc T H).H⟩ Q) (h : ccC D G l.toArray draw n q rc T H = (true, some (fid, vs, []), rc) := by kernel_rfl) : CO L Tryz.prog G (.seq (.region id l.toArray draw) c) ⟨T, H⟩ Q := cc Dk mix n q hA hcf k h

theorem wD {G : Nat → Option (List V)} {ops : Array Oper} {draw : Bool} {T0 : List V} {H0 : Hp} {i : Nat} {T : List V} {H : Hp} {Es : List (Bool × Eff)} {Q : St → Prop} {fid : FuncId} {vs : List V} {Hc Hc' : Hp} {rc : V} (h : AC Tryz.prog G fid vs Hc rc Hc') (hcf : callOk Tryz.prog fid) (q m : Ren) {Z : List (Nat × List (List V))} (N : List Nat) (hZ : LayOk H Z) (k : W Tryz.prog G ops draw T0 H0 (i + 1) (setO T (dstW ops i) (rc.rn m)) (keepH m Hc' ++ hrem (Z.map (·.1) ++ q.map (·.1)) H) (Es ++ [(true, { v := rc.rn m, C := Z.map (·.1) ++ q.map (·.1), new := keepH m Hc', N := N })]) Q) (hn : (namesOk q m (Z.map (·.1)) N && nodupH Hc') = true := by kernel_rfl) (hc : callW G ops q Z i T H = some (fid, vs, Hc) := by kernel_rfl) : W Tryz.prog G ops draw T0 H0 i T H Es Q := W.call h hcf q m N hZ hn hc k
theorem wC {G : Nat → Option (List V)} {ops : Array Oper} {draw : Bool} {T0 : List V} {H0 : Hp} {i : Nat} {T : List V} {H : Hp} {Es : List (Bool × Eff)} {Q : St → Prop} {fid : FuncId} {vs : List V} {Hc Hc' : Hp} {rc : V} (h : AC Tryz.prog G fid vs Hc rc Hc') (hcf : callOk Tryz.prog fid) (q m : Ren) (N : List Nat) (k : W Tryz.prog G ops draw T0 H0 (i + 1) (setO T (dstW ops i) (rc.rn m)) (keepH m Hc' ++ hrem (([] : List (Nat × List (List V))).map (·.1) ++ q.map (·.1)) H) (Es ++ [(true, { v := rc.rn m, C := ([] : List (Nat × List (List V))).map (·.1) ++ q.map (·.1), new := keepH m Hc', N := N })]) Q) (hn : (namesOk q m (([] : List (Nat × List (List V))).map (·.1)) N && nodupH Hc') = true := by kernel_rfl) (hc : callW G ops q [] i T H = some (fid, vs, Hc) := by kernel_rfl) : W Tryz.prog G ops draw T0 H0 i T H Es Q := W.call h hcf q m N (show LayOk _ [] from trivial) hn hc k
theorem w0 {G : Nat → Option (List V)} {ops : Array Oper} {draw : Bool} {T0 : List V} {H0 : Hp} {i : Nat} {T : List V} {H : Hp} {Es : List (Bool × Eff)} {Q : St → Prop} {fid : FuncId} {vs : List V} {rc : V} (h : AC Tryz.prog G fid vs [] rc []) (hcf : callOk Tryz.prog fid) (k : W Tryz.prog G ops draw T0 H0 (i + 1) (setO T (dstW ops i) rc) H (Es ++ [(true, { v := rc })]) Q) (hc : callW G ops [] [] i T H = some (fid, vs, []) := by kernel_rfl) (hr : rc.rn [] = rc := by rfl) : W Tryz.prog G ops draw T0 H0 i T H Es Q := W.call0 h hcf hr hc k
theorem wN {G : Nat → Option (List V)} {ops : Array Oper} {draw : Bool} {T0 : List V} {H0 : Hp} {i : Nat} {T : List V} {H : Hp} {Es : List (Bool × Eff)} {Q : St → Prop} {α : Type} (enc : α → List V) (l : List α) (R : List Nat) (k : W Tryz.prog G ops draw T0 H0 (i + 1) (setO T (dstW ops i) (V.i l.length)) H (Es ++ [(true, { v := V.i l.length, R := R })]) Q) (h : lenW G ops i T H = some (l.map enc, R) := by kernel_rfl) (hs : ((opW ops i T).bind (stepV D H (ev G T))).isSome = true := by kernel_rfl) : W Tryz.prog G ops draw T0 H0 i T H Es Q := W.len Dk enc l R h hs k
theorem wX {G : Nat → Option (List V)} {ops : Array Oper} {draw : Bool} {T0 : List V} {H0 : Hp} {i : Nat} {T : List V} {H : Hp} {Es : List (Bool × Eff)} {Q : St → Prop} {α : Type} (enc : α → List V) {l : List α} {n : Int} {x : α} (hx : ix l n = some x) (sz : Nat) (k : W Tryz.prog G ops draw T0 H0 (i + 1) (setO T (dstW ops i) (.el (enc x))) H (Es ++ [(true, { v := .el (enc x) })]) Q) (h : ixD D G ops i T = some (l.map enc, n, sz) := by kernel_rfl) (hs : (enc x).length = sz := by kernel_rfl) : W Tryz.prog G ops draw T0 H0 i T H Es Q := W.ixD Dk enc hx sz h hs k


structure SNode where
  Kind : Int
  Op : Int
  Text : List UInt8
  Other : List UInt8
  Kids : List Int
  deriving DecidableEq, Inhabited

def eSN (b : Bool) (x : SNode) : List V := [V.i x.Kind, V.i x.Op, V.s x.Text, V.s x.Other, .sl false b (x.Kids.map eNI)]

theorem sh_eSN (b : Bool) (x : SNode) : V.shareL (eSN b x) = eSN false x := by
  simp only [eSN, V.shareL, V.share, V.i, V.s, V.b, shareR_map (enc := eNI) (enc' := eNI) (fun _ => rfl)]

structure SPos where
  Level : Int
  Dollar : Bool
  NoIn : Bool
  NoGt : Bool
  NoSign : Bool
  deriving DecidableEq, Inhabited

structure SL10W where
  l : List SNode
  full : Bool
  deriving DecidableEq, Inhabited

structure SToken where
  Kind : Int
  Text : List UInt8
  At : Int
  deriving DecidableEq, Inhabited

def eTk (x : SToken) : List V := [V.i x.Kind, V.s x.Text, V.i x.At]

structure STree where
  kind : Int
  op : Int
  text : List UInt8
  other : List UInt8
  kids : List STree

instance : Inhabited STree := ⟨⟨0, 0, [], [], []⟩⟩

theorem STree.lt (x : STree) (y : STree) (h : y ∈ x.kids) : SizeOf.sizeOf y < SizeOf.sizeOf x := by
  have := List.sizeOf_lt_of_mem h
  cases x
  simp only [STree.mk.sizeOf_spec] at *
  omega

def eST (x : STree) : List V := [V.i x.kind, V.i x.op, V.s x.text, V.s x.other, .sl false false (x.kids.attach.map fun y => eST y.1)]
termination_by SizeOf.sizeOf x
decreasing_by exact STree.lt x y.1 y.2

theorem encSTree_eq (x : STree) : eST x = [V.i x.kind, V.i x.op, V.s x.text, V.s x.other, .sl false false (x.kids.map eST)] := by
  rw [eST]
  simp only [List.attach_map_val (f := eST), List.map_attach_eq_pmap, List.pmap_eq_map]

theorem share_encSTree (x : STree) : V.shareL (eST x) = eST x := by
  have hk : x.kids.map (V.shareL ∘ eST) = x.kids.map eST := List.map_congr_left fun y hy => share_encSTree y
  rw [encSTree_eq]
  simp only [V.shareL, V.share, V.shareR_eq, V.i, V.s, V.b, List.map_map]
  rw [hk]
termination_by SizeOf.sizeOf x
decreasing_by exact STree.lt x y hy

structure SDNode where
  Kind : Int
  N : Int
  Text : List UInt8
  Kids : List Int
  deriving DecidableEq, Inhabited

def encSDNode (b : Bool) (x : SDNode) : List V := [V.i x.Kind, V.i x.N, V.s x.Text, .sl false b (x.Kids.map eNI)]

theorem share_encSDNode (b : Bool) (x : SDNode) : V.shareL (encSDNode b x) = encSDNode false x := by
  simp only [encSDNode, V.shareL, V.share, V.i, V.s, V.b, shareR_map (enc := eNI) (enc' := eNI) (fun _ => rfl)]

structure SForm where
  op : Bool
  text : Bool
  other : Bool
  least : Int
  most : Int
  deriving DecidableEq, Inhabited

structure SDoc where
  kind : Int
  n : Int
  text : List UInt8
  kids : List SDoc
  group : Int

instance : Inhabited SDoc := ⟨⟨0, 0, [], [], 0⟩⟩

theorem SDoc.lt (x : SDoc) (y : SDoc) (h : y ∈ x.kids) : SizeOf.sizeOf y < SizeOf.sizeOf x := by
  have := List.sizeOf_lt_of_mem h
  cases x
  simp only [SDoc.mk.sizeOf_spec] at *
  omega

def encSDoc (x : SDoc) : List V := [V.i x.kind, V.i x.n, V.s x.text, .sl false false (x.kids.attach.map fun y => encSDoc y.1), V.i x.group]
termination_by SizeOf.sizeOf x
decreasing_by exact SDoc.lt x y.1 y.2

theorem encSDoc_eq (x : SDoc) : encSDoc x = [V.i x.kind, V.i x.n, V.s x.text, .sl false false (x.kids.map encSDoc), V.i x.group] := by
  rw [encSDoc]
  simp only [List.attach_map_val (f := encSDoc), List.map_attach_eq_pmap, List.pmap_eq_map]

theorem share_encSDoc (x : SDoc) : V.shareL (encSDoc x) = encSDoc x := by
  have hk : x.kids.map (V.shareL ∘ encSDoc) = x.kids.map encSDoc := List.map_congr_left fun y hy => share_encSDoc y
  rw [encSDoc_eq]
  simp only [V.shareL, V.share, V.shareR_eq, V.i, V.s, V.b, List.map_map]
  rw [hk]
termination_by SizeOf.sizeOf x
decreasing_by exact SDoc.lt x y hy

structure SSpan where
  From : Int
  To : Int
  deriving DecidableEq, Inhabited

def encSSpan (x : SSpan) : List V := [V.i x.From, V.i x.To]

abbrev LU := List UInt8
abbrev LLU := List (List UInt8)
abbrev LT := List SToken
abbrev LN := List SNode
abbrev LD := List SDNode
abbrev LS := List STree
abbrev LO := List SDoc
abbrev wr (x : Int) : Int := IntKind.wrap .i64 x
abbrev sL {α : Type} (f : α → List V) (x : List α) : V := .sl false false (x.map f)
abbrev vX {α : Type} (t k : Nat) (f : α → List V) (x : List α) : Ob := .vec false t k (x.map f)
abbrev vN (x : LLU) : Ob := .vec false 9 1 (x.map eNS)
theorem lO {H : Hp} : LayOk H [] := trivial

def ml_szIntS (a0 : List Int) (a1 : Int) : Option Int :=
  bif (decide ((IntKind.wrap .i64 (a1 - (a0.length : Int))) < 0)) then some (-1) else (some (IntKind.wrap .i64 (a1 - (a0.length : Int))))

def ml_szNode (a0 : SNode) (a1 : Int) : Option Int :=
  bif (decide ((IntKind.wrap .i64 (a1 - (a0.Text.length : Int))) < 0)) then some (-1) else (bif (decide ((IntKind.wrap .i64 ((IntKind.wrap .i64 (a1 - (a0.Text.length : Int))) - (a0.Other.length : Int))) < 0)) then some (-1) else ((ml_szIntS a0.Kids (IntKind.wrap .i64 ((IntKind.wrap .i64 (a1 - (a0.Text.length : Int))) - (a0.Other.length : Int)))).bind fun r2 => bif (decide (r2 < 0)) then some (-1) else (some r2)))

def ml_szNodeS_l1 (N : Nat) : Nat → (LN × Int × Int) → Option Int
  | 0, _ => none
  | n1 + 1, (a0, y37, y38) => bif (decide (y38 < (a0.length : Int))) then (ix a0 y38).bind fun e55 => (ml_szNode e55 y37).bind fun r56 => bif (decide (r56 < 0)) then some (-1) else ((ml_szNodeS_l1 N n1) (a0, r56, (IntKind.wrap .i64 (y38 + 1)))) else (some y37)
def ml_szNodeS (N : Nat) (a0 : LN) (a1 : Int) : Option Int :=
  bif (decide ((IntKind.wrap .i64 (a1 - (a0.length : Int))) < 0)) then some (-1) else (ml_szNodeS_l1 N N (a0, (IntKind.wrap .i64 (a1 - (a0.length : Int))), 0))

def ml_toIntS_l1 (N : Nat) : Nat → ((List Int) × Int × (List Int)) → Option (List Int)
  | 0, _ => none
  | n1 + 1, (a0, y55, y56) => bif (decide (y55 < (a0.length : Int))) then (ix a0 y55).bind fun e80 => (ix y56 y55).bind fun e81 => (upd y56 y55 e80).bind fun x82 => (ml_toIntS_l1 N n1) (a0, (IntKind.wrap .i64 (y55 + 1)), x82) else (some y56)
def ml_toIntS (N : Nat) (a0 : List Int) : Option (List Int) :=
  (mk 8 0 (a0.length : Int)).bind fun x2 => ml_toIntS_l1 N N (a0, 0, x2)

def ml_toNode (N : Nat) (a0 : SNode) : Option SNode :=
  (ml_toIntS N a0.Kids).bind fun r2 => some (⟨a0.Kind, a0.Op, a0.Text, a0.Other, r2⟩ : SNode)

def ml_toNodeS_l1 (N : Nat) : Nat → (LN × Int × LN) → Option LN
  | 0, _ => none
  | n1 + 1, (a0, y71, y72) => bif (decide (y71 < (a0.length : Int))) then (ix a0 y71).bind fun e103 => (ml_toNode N e103).bind fun r104 => (ix y72 y71).bind fun e105 => (upd y72 y71 r104).bind fun x106 => (ml_toNodeS_l1 N n1) (a0, (IntKind.wrap .i64 (y71 + 1)), x106) else (some y72)
def ml_toNodeS (N : Nat) (a0 : LN) : Option LN :=
  (mk 72 (⟨0, 0, [], [], []⟩ : SNode) (a0.length : Int)).bind fun x2 => ml_toNodeS_l1 N N (a0, 0, x2)

def ms_l1In (a0 : Int) (a1 : Int) (a2 : Int) : Option Bool :=
  (bif (decide (a0 ≥ a1)) then some (decide (a0 ≤ a2)) else (some false)).bind fun y1 => some y1

def ms_l6Starts_l2 (N : Nat) (kb1 : (LN × Int × (List Int)) → Option ((List Int) × Bool)) : Nat → (LN × Int × (List Int) × Int × Int) → Option ((List Int) × Bool)
  | 0, _ => none
  | n2 + 1, (a0, y917, y918, y1499, y1500) => bif (decide (y1500 ≥ 0)) then ((ix a0 y917).bind fun e1547 => (ix e1547.Kids y1500).bind fun e1548 => bif (e1548 != (IntKind.wrap .i64 (y1499 - 1))) then some true else (some (y1499 == 0))).bind fun y1546 => bif y1546 then some ([], false) else ((ix y918 (IntKind.wrap .i64 (y1499 - 1))).bind fun e1550 => (ms_l6Starts_l2 N kb1 n2) (a0, y917, y918, e1550, (IntKind.wrap .i64 (y1500 - 1)))) else ((app 8 y918 [y1499]).bind fun x1552 => kb1 (a0, (IntKind.wrap .i64 (y917 + 1)), x1552))
def ms_l6Starts_l1 (N : Nat) : Nat → (LN × Int × (List Int)) → Option ((List Int) × Bool)
  | 0, _ => none
  | n1 + 1, (a0, y917, y918) => bif (decide (y917 < (a0.length : Int))) then (ix a0 y917).bind fun e1474 => ms_l6Starts_l2 N (ms_l6Starts_l1 N n1) N (a0, y917, y918, y917, (IntKind.wrap .i64 ((e1474.Kids.length : Int) - 1))) else (some (y918, true))
def ms_l6Starts (N : Nat) (a0 : LN) : Option ((List Int) × Bool) :=
  ms_l6Starts_l1 N N (a0, 0, [])

def ms_ShapeOk (N : Nat) (a0 : LN) : Option Bool :=
  (ms_l1In (a0.length : Int) 1 400).bind fun r4 => bif (!r4) then some false else ((ms_l6Starts N a0).bind fun r6 => (bif r6.2 then (ix r6.1 (IntKind.wrap .i64 ((a0.length : Int) - 1))).bind fun e9 => some (e9 == 0) else (some false)).bind fun y8 => some y8)

def ms_DepthOf_l2 (N : Nat) (kb1 : (LN × Int × (List Int)) → Option Int) : Nat → (LN × Int × (List Int) × Int × Int) → Option Int
  | 0, _ => none
  | n2 + 1, (a0, y857, y858, y1247, y1248) => (ix a0 y857).bind fun e1270 => bif (decide (y1248 < (e1270.Kids.length : Int))) then (ix a0 y857).bind fun e1280 => (ix e1280.Kids y1248).bind fun e1281 => (ix y858 e1281).bind fun e1282 => (ms_DepthOf_l2 N kb1 n2) (a0, y857, y858, (if (IntKind.wrap .i64 (1 + e1282)) > y1247 then (IntKind.wrap .i64 (1 + e1282)) else y1247), (IntKind.wrap .i64 (y1248 + 1))) else ((app 8 y858 [y1247]).bind fun x1284 => kb1 (a0, (IntKind.wrap .i64 (y857 + 1)), x1284))
def ms_DepthOf_l1 (N : Nat) : Nat → (LN × Int × (List Int)) → Option Int
  | 0, _ => none
  | n1 + 1, (a0, y857, y858) => bif (decide (y857 < (a0.length : Int))) then ms_DepthOf_l2 N (ms_DepthOf_l1 N n1) N (a0, y857, y858, 1, 0) else ((ix y858 (IntKind.wrap .i64 ((a0.length : Int) - 1))).bind fun e1286 => some e1286)
def ms_DepthOf (N : Nat) (a0 : LN) : Option Int :=
  (ms_ShapeOk N a0).bind fun r4 => bif (!r4) then some 0 else (ms_DepthOf_l1 N N (a0, 0, []))

def ms_l7Many_k6 : (SNode × Bool) → Option (Int × Int)
  | (a0, y12) => bif y12 then some (0, (a0.Kids.length : Int)) else (bif (a0.Kind == 42) then some ((IntKind.wrap .i64 (1 + (IntKind.wrap .i64 (Int.tdiv a0.Op 3)))), (IntKind.wrap .i64 (1 + (IntKind.wrap .i64 (Int.tdiv a0.Op 3))))) else (bif (a0.Kind == 43) then some ((IntKind.wrap .i64 (2 + (IntKind.wrap .i64 (Int.tdiv a0.Op 3)))), (IntKind.wrap .i64 (2 + (IntKind.wrap .i64 (Int.tdiv a0.Op 3))))) else (bif (a0.Kind == 44) then some (1, 7) else (some (0, 0)))))
def ms_l7Many_k5 : (SNode × Bool) → Option (Int × Int)
  | (a0, y11) => bif y11 then some (0, 1) else (bif (a0.Kind == 28) then some (2, 3) else (bif (a0.Kind == 31) then some (4, 4) else (bif (a0.Kind == 33) then ms_l7Many_k6 (a0, (a0.Kind == 33)) else (ms_l7Many_k6 (a0, (a0.Kind == 45))))))
def ms_l7Many_k4 : (SNode × Bool) → Option (Int × Int)
  | (a0, y10) => bif y10 then some (2, 2) else (bif (a0.Kind == 14) then some (3, 3) else (bif (a0.Kind == 21) then bif (!(a0.Other == [])) then some ((IntKind.wrap .i64 (a0.Op + 1)), 7) else (some (a0.Op, 6)) else (bif (a0.Kind == 23) then ms_l7Many_k5 (a0, (a0.Kind == 23)) else (ms_l7Many_k5 (a0, (a0.Kind == 24))))))
def ms_l7Many_k3 : (SNode × Bool) → Option (Int × Int)
  | (a0, y9) => bif y9 then some (1, 1) else (bif (a0.Kind == 12) then ms_l7Many_k4 (a0, (a0.Kind == 12)) else (bif (a0.Kind == 15) then ms_l7Many_k4 (a0, (a0.Kind == 15)) else (bif (a0.Kind == 29) then ms_l7Many_k4 (a0, (a0.Kind == 29)) else (ms_l7Many_k4 (a0, (a0.Kind == 30))))))
def ms_l7Many_k2 : (SNode × Bool) → Option (Int × Int)
  | (a0, y8) => bif y8 then some (0, 6) else (bif (a0.Kind == 6) then ms_l7Many_k3 (a0, (a0.Kind == 6)) else (bif (a0.Kind == 9) then ms_l7Many_k3 (a0, (a0.Kind == 9)) else (bif (a0.Kind == 10) then ms_l7Many_k3 (a0, (a0.Kind == 10)) else (bif (a0.Kind == 11) then ms_l7Many_k3 (a0, (a0.Kind == 11)) else (bif (a0.Kind == 20) then ms_l7Many_k3 (a0, (a0.Kind == 20)) else (bif (a0.Kind == 32) then ms_l7Many_k3 (a0, (a0.Kind == 32)) else (bif (a0.Kind == 40) then ms_l7Many_k3 (a0, (a0.Kind == 40)) else (ms_l7Many_k3 (a0, (a0.Kind == 41))))))))))
def ms_l7Many_k1 : (SNode × Bool) → Option (Int × Int)
  | (a0, y7) => bif y7 then some (1, 6) else (bif (a0.Kind == 7) then ms_l7Many_k2 (a0, (a0.Kind == 7)) else (bif (a0.Kind == 8) then ms_l7Many_k2 (a0, (a0.Kind == 8)) else (ms_l7Many_k2 (a0, (a0.Kind == 27)))))
def ms_l7Many (a0 : SNode) : Option (Int × Int) :=
  bif (a0.Kind == 5) then ms_l7Many_k1 (a0, (a0.Kind == 5)) else (ms_l7Many_k1 (a0, (a0.Kind == 13)))

def ms_l7IsBin_k1 : Bool → Option Bool
  | y2 => bif y2 then some true else (some false)
def ms_l7IsBin (a0 : Int) : Option Bool :=
  bif (a0 == 60) then ms_l7IsBin_k1 (a0 == 60) else (bif (a0 == 57) then ms_l7IsBin_k1 (a0 == 57) else (bif (a0 == 58) then ms_l7IsBin_k1 (a0 == 58) else (bif (a0 == 59) then ms_l7IsBin_k1 (a0 == 59) else (bif (a0 == 55) then ms_l7IsBin_k1 (a0 == 55) else (bif (a0 == 56) then ms_l7IsBin_k1 (a0 == 56) else (bif (a0 == 99) then ms_l7IsBin_k1 (a0 == 99) else (bif (a0 == 63) then ms_l7IsBin_k1 (a0 == 63) else (bif (a0 == 48) then ms_l7IsBin_k1 (a0 == 48) else (bif (a0 == 47) then ms_l7IsBin_k1 (a0 == 47) else (bif (a0 == 50) then ms_l7IsBin_k1 (a0 == 50) else (bif (a0 == 62) then ms_l7IsBin_k1 (a0 == 62) else (bif (a0 == 49) then ms_l7IsBin_k1 (a0 == 49) else (bif (a0 == 67) then ms_l7IsBin_k1 (a0 == 67) else (bif (a0 == 46) then ms_l7IsBin_k1 (a0 == 46) else (bif (a0 == 45) then ms_l7IsBin_k1 (a0 == 45) else (ms_l7IsBin_k1 (a0 == 44)))))))))))))))))

def ms_l7IsAssign (a0 : Int) : Option Bool :=
  (bif (a0 == 54) then some true else ((ms_l1In a0 38 43).bind fun r3 => some r3)).bind fun y2 => some y2

def ms_l7Op_k1 : (SNode × Bool) → Option Bool
  | (a0, y13) => bif y13 then (bif (a0.Op == 51) then some true else (some (a0.Op == 52))).bind fun y14 => some y14 else (bif (a0.Kind == 11) then (bif (a0.Op == 55) then some true else (bif (a0.Op == 56) then some true else (some (a0.Op == 61)))).bind fun y15 => some y15 else (bif (a0.Kind == 12) then (ms_l7IsBin a0.Op).bind fun r17 => some r17 else (bif (a0.Kind == 15) then (ms_l7IsAssign a0.Op).bind fun r19 => some r19 else (bif (a0.Kind == 21) then (ms_l1In a0.Op 0 1).bind fun r21 => some r21 else (bif (a0.Kind == 42) then (ms_l1In a0.Op 1 3).bind fun r23 => some r23 else (bif (a0.Kind == 43) then (bif (a0.Op == 1) then some true else (some (a0.Op == 3))).bind fun y24 => some y24 else (some (a0.Op == 0))))))))
def ms_l7Op (a0 : SNode) : Option Bool :=
  bif (a0.Kind == 9) then ms_l7Op_k1 (a0, (a0.Kind == 9)) else (ms_l7Op_k1 (a0, (a0.Kind == 10)))

def ms_IsLetter (a0 : Int) : Option Bool :=
  ((ms_l1In a0 97 122).bind fun r4 => bif r4 then some true else ((ms_l1In a0 65 90).bind fun r5 => bif r5 then some true else (some (a0 == 95)))).bind fun y3 => some y3

def ms_IsDigit (a0 : Int) : Option Bool :=
  (ms_l1In a0 48 57).bind fun r2 => some r2

def ms_IsWordByte (a0 : Int) : Option Bool :=
  ((ms_IsLetter a0).bind fun r4 => bif r4 then some true else ((ms_IsDigit a0).bind fun r5 => some r5)).bind fun y3 => some y3

def ms_NameShape_l1 (N : Nat) : Nat → (LU × Int) → Option Bool
  | 0, _ => none
  | n1 + 1, (a0, y35) => bif (decide (y35 < (a0.length : Int))) then (ix a0 y35).bind fun b51 => (ms_IsWordByte (IntKind.wrap .i64 ((b51).toNat : Int))).bind fun r52 => bif (!r52) then some false else ((ms_NameShape_l1 N n1) (a0, (IntKind.wrap .i64 (y35 + 1)))) else (((ms_l1In (a0.length : Int) 1 12).bind fun r57 => bif r57 then (ix a0 0).bind fun b58 => (ms_IsLetter (IntKind.wrap .i64 ((b58).toNat : Int))).bind fun r59 => some r59 else (some false)).bind fun y56 => some y56)
def ms_NameShape (N : Nat) (a0 : LU) : Option Bool :=
  ms_NameShape_l1 N N (a0, 0)

def ms_l3Words : Option LLU :=
  some [[66, 69, 71, 73, 78], [69, 78, 68], [102, 117, 110, 99, 116, 105, 111, 110], [105, 102], [101, 108, 115, 101], [119, 104, 105, 108, 101], [102, 111, 114], [100, 111], [98, 114, 101, 97, 107], [99, 111, 110, 116, 105, 110, 117, 101], [110, 101, 120, 116], [101, 120, 105, 116], [114, 101, 116, 117, 114, 110], [100, 101, 108, 101, 116, 101], [105, 110], [112, 114, 105, 110, 116], [112, 114, 105, 110, 116, 102]]

def ms_l3Find_l1 (N : Nat) : Nat → (LLU × LU × Int) → Option Int
  | 0, _ => none
  | n1 + 1, (a0, a1, y19) => bif (decide (y19 < (a0.length : Int))) then (ix a0 y19).bind fun e28 => bif (e28 == a1) then some y19 else ((ms_l3Find_l1 N n1) (a0, a1, (IntKind.wrap .i64 (y19 + 1)))) else (some (-1))
def ms_l3Find (N : Nat) (a0 : LLU) (a1 : LU) : Option Int :=
  ms_l3Find_l1 N N (a0, a1, 0)

def ms_KeywordOf (N : Nat) (a0 : LU) : Option Int :=
  Option.bind ms_l3Words fun r3 => (ms_l3Find N r3 a0).bind fun r4 => bif (decide (r4 < 0)) then some 0 else (some (IntKind.wrap .i64 (10 + r4)))

def ms_l3Builtins : Option LLU :=
  some [[97, 116, 97, 110, 50], [99, 108, 111, 115, 101], [99, 111, 115], [101, 120, 112], [103, 115, 117, 98], [105, 110, 100, 101, 120], [105, 110, 116], [108, 101, 110, 103, 116, 104], [108, 111, 103], [109, 97, 116, 99, 104], [114, 97, 110, 100], [115, 105, 110], [115, 112, 108, 105, 116], [115, 112, 114, 105, 110, 116, 102], [115, 113, 114, 116], [115, 114, 97, 110, 100], [115, 117, 98], [115, 117, 98, 115, 116, 114], [115, 121, 115, 116, 101, 109], [116, 111, 108, 111, 119, 101, 114], [116, 111, 117, 112, 112, 101, 114]]

def ms_IsBuiltin (N : Nat) (a0 : LU) : Option Bool :=
  Option.bind ms_l3Builtins fun r3 => (ms_l3Find N r3 a0).bind fun r4 => some (decide (r4 ≥ 0))

def ms_NameOk (N : Nat) (a0 : LU) : Option Bool :=
  ((ms_NameShape N a0).bind fun r5 => bif r5 then (ms_KeywordOf N a0).bind fun r6 => bif (r6 == 0) then (ms_IsBuiltin N a0).bind fun r7 => some (!r7) else (some false) else (some false)).bind fun y4 => some y4

def ms_l4Plain_l1 (N : Nat) : Nat → (LU × Int) → Option Bool
  | 0, _ => none
  | n1 + 1, (a0, y19) => bif (decide (y19 < (a0.length : Int))) then (ix a0 y19).bind fun b28 => bif (((b28).toNat : Int) == 10) then some false else ((ms_l4Plain_l1 N n1) (a0, (IntKind.wrap .i64 (y19 + 1)))) else (some true)
def ms_l4Plain (N : Nat) (a0 : LU) : Option Bool :=
  ms_l4Plain_l1 N N (a0, 0)

def ms_l4Byte (a0 : LU) (a1 : Int) : Option Int :=
  (bif (decide (a1 < 0)) then some true else (some (decide (a1 ≥ (a0.length : Int))))).bind fun y2 => bif y2 then some (-1) else ((ix a0 a1).bind fun b4 => some (IntKind.wrap .i64 ((b4).toNat : Int)))

def ms_l4Digits_l1 (N : Nat) : Nat → (LU × Int) → Option Int
  | 0, _ => none
  | n1 + 1, (a0, a1) => (ms_l4Byte a0 a1).bind fun r33 => (ms_IsDigit r33).bind fun r34 => bif r34 then (ms_l4Digits_l1 N n1) (a0, (IntKind.wrap .i64 (a1 + 1))) else (some a1)
def ms_l4Digits (N : Nat) (a0 : LU) (a1 : Int) : Option Int :=
  ms_l4Digits_l1 N N (a0, a1)

def ms_NumEnd_k2 (N : Nat) : Int → Option Int
  | y9 => some y9
def ms_NumEnd_k3 (N : Nat) : (LU × Int × Int) → Option Int
  | (a0, y9, y40) => (ms_l4Digits N a0 y40).bind fun r42 => bif (decide (r42 > y40)) then (ms_l4Digits N a0 y40).bind fun r44 => some r44 else (ms_NumEnd_k2 N y9)
def ms_NumEnd_k1 (N : Nat) : (LU × Int × Int) → Option Int
  | (a0, a1, y9) => bif (y9 == a1) then some (-1) else (((ms_l4Byte a0 y9).bind fun r33 => bif (r33 == 101) then some true else ((ms_l4Byte a0 y9).bind fun r34 => some (r34 == 69))).bind fun y32 => bif y32 then ((ms_l4Byte a0 (IntKind.wrap .i64 (y9 + 1))).bind fun r48 => bif (r48 == 43) then some true else ((ms_l4Byte a0 (IntKind.wrap .i64 (y9 + 1))).bind fun r49 => some (r49 == 45))).bind fun y47 => bif y47 then ms_NumEnd_k3 N (a0, y9, (IntKind.wrap .i64 ((IntKind.wrap .i64 (y9 + 1)) + 1))) else (ms_NumEnd_k3 N (a0, y9, (IntKind.wrap .i64 (y9 + 1)))) else (ms_NumEnd_k2 N y9))
def ms_NumEnd (N : Nat) (a0 : LU) (a1 : Int) : Option Int :=
  bif (decide (a1 < 0)) then some (-1) else ((ms_l4Digits N a0 a1).bind fun r2 => (ms_l4Byte a0 r2).bind fun r51 => bif (r51 == 46) then (ms_l4Digits N a0 (IntKind.wrap .i64 (r2 + 1))).bind fun r53 => (bif (r2 == a1) then some (r53 == (IntKind.wrap .i64 (r2 + 1))) else (some false)).bind fun y55 => bif y55 then some (-1) else (ms_NumEnd_k1 N (a0, a1, r53)) else (ms_NumEnd_k1 N (a0, a1, r2)))

def ms_l4Quoted_k2 (N : Nat) (kb1 : (LU × Int × Int) → Option Int) : (LU × Int × Int) → Option Int
  | (a0, a2, y58) => kb1 (a0, a2, (IntKind.wrap .i64 (y58 + 1)))
def ms_l4Quoted_l1 (N : Nat) : Nat → (LU × Int × Int) → Option Int
  | 0, _ => none
  | n1 + 1, (a0, a2, y43) => bif (decide (y43 < (a0.length : Int))) then (ix a0 y43).bind fun b60 => bif ((IntKind.wrap .i64 ((b60).toNat : Int)) == a2) then some (IntKind.wrap .i64 (y43 + 1)) else (bif ((IntKind.wrap .i64 ((b60).toNat : Int)) == 10) then some (-1) else (bif ((IntKind.wrap .i64 ((b60).toNat : Int)) == 92) then (ms_l4Byte a0 (IntKind.wrap .i64 (y43 + 1))).bind fun r62 => bif (r62 == 10) then some (-1) else (ms_l4Quoted_k2 N (ms_l4Quoted_l1 N n1) (a0, a2, (IntKind.wrap .i64 (y43 + 1)))) else (ms_l4Quoted_k2 N (ms_l4Quoted_l1 N n1) (a0, a2, y43)))) else (some (-1))
def ms_l4Quoted (N : Nat) (a0 : LU) (a1 : Int) (a2 : Int) : Option Int :=
  (ms_l4Byte a0 a1).bind fun r4 => bif (r4 != a2) then some (-1) else (ms_l4Quoted_l1 N N (a0, a2, (IntKind.wrap .i64 (a1 + 1))))

def ms_StrEnd (N : Nat) (a0 : LU) (a1 : Int) : Option Int :=
  (ms_l4Quoted N a0 a1 34).bind fun r2 => some r2

def ms_EreEnd (N : Nat) (a0 : LU) (a1 : Int) : Option Int :=
  (ms_l4Quoted N a0 a1 47).bind fun r2 => bif (r2 == (IntKind.wrap .i64 (a1 + 2))) then some (-1) else (some r2)

def ms_l3Signs : Option LLU :=
  some [[123], [125], [40], [41], [91], [93], [44], [59], [43, 61], [45, 61], [42, 61], [47, 61], [37, 61], [94, 61], [124, 124], [38, 38], [33, 126], [61, 61], [60, 61], [62, 61], [33, 61], [43, 43], [45, 45], [62, 62], [61], [43], [45], [42], [47], [37], [94], [33], [62], [60], [124], [63], [58], [126], [36]]

def ms_SpellOf (a0 : Int) : Option LU :=
  bif (a0 == 1) then some [10] else ((ms_l1In a0 10 26).bind fun r14 => bif r14 then Option.bind ms_l3Words fun r17 => (ix r17 (IntKind.wrap .i64 (a0 - 10))).bind fun e18 => some e18 else ((ms_l1In a0 30 68).bind fun r20 => bif r20 then Option.bind ms_l3Signs fun r23 => (ix r23 (IntKind.wrap .i64 (a0 - 30))).bind fun e24 => some e24 else (some [])))

def ms_TokenOk_k1 (N : Nat) : (SToken × Bool) → Option Bool
  | (a0, y30) => bif y30 then (ms_NameOk N a0.Text).bind fun r32 => some r32 else (bif (a0.Kind == 8) then (ms_IsBuiltin N a0.Text).bind fun r34 => some r34 else ((bif (!(a0.Text == [])) then (ms_SpellOf a0.Kind).bind fun r37 => some (r37 == a0.Text) else (some false)).bind fun y36 => some y36))
def ms_TokenOk (N : Nat) (a0 : SToken) : Option Bool :=
  bif (a0.Kind == 2) then (bif (decide ((a0.Text.length : Int) > 0)) then (ix a0.Text 0).bind fun b21 => bif (((b21).toNat : Int) == 35) then (ms_l4Plain N a0.Text).bind fun r22 => some r22 else (some false) else (some false)).bind fun y20 => some y20 else (bif (a0.Kind == 3) then (bif (decide ((a0.Text.length : Int) > 0)) then (ms_NumEnd N a0.Text 0).bind fun r25 => some (r25 == (a0.Text.length : Int)) else (some false)).bind fun y24 => some y24 else (bif (a0.Kind == 4) then (ms_StrEnd N a0.Text 0).bind fun r27 => some (r27 == (a0.Text.length : Int)) else (bif (a0.Kind == 5) then (ms_EreEnd N a0.Text 0).bind fun r29 => some (r29 == (a0.Text.length : Int)) else (bif (a0.Kind == 6) then ms_TokenOk_k1 N (a0, (a0.Kind == 6)) else (ms_TokenOk_k1 N (a0, (a0.Kind == 7)))))))

def ms_l7Text_k1 (N : Nat) : (SNode × Bool) → Option Bool
  | (a0, y26) => bif y26 then ((ms_NameOk N a0.Text).bind fun r29 => bif r29 then some (a0.Other == []) else (some false)).bind fun y28 => some y28 else (bif (a0.Kind == 2) then ((ms_TokenOk N (⟨3, a0.Text, 0⟩ : SToken)).bind fun r32 => bif r32 then some (a0.Other == []) else (some false)).bind fun y31 => some y31 else (bif (a0.Kind == 3) then ((ms_TokenOk N (⟨4, a0.Text, 0⟩ : SToken)).bind fun r35 => bif r35 then some (a0.Other == []) else (some false)).bind fun y34 => some y34 else (bif (a0.Kind == 4) then ((ms_TokenOk N (⟨5, a0.Text, 0⟩ : SToken)).bind fun r38 => bif r38 then some (a0.Other == []) else (some false)).bind fun y37 => some y37 else (bif (a0.Kind == 34) then ((ms_TokenOk N (⟨2, a0.Text, 0⟩ : SToken)).bind fun r41 => bif r41 then some (a0.Other == []) else (some false)).bind fun y40 => some y40 else (bif (a0.Kind == 8) then ((ms_IsBuiltin N a0.Text).bind fun r44 => bif r44 then some (a0.Other == []) else (some false)).bind fun y43 => some y43 else (bif (a0.Kind == 32) then ((ms_NameOk N a0.Text).bind fun r48 => bif r48 then (ms_NameOk N a0.Other).bind fun r49 => some r49 else (some false)).bind fun y47 => some y47 else (bif (a0.Kind == 21) then (bif (a0.Text == []) then bif (a0.Other == []) then some true else (bif (a0.Other == [62]) then some true else (bif (a0.Other == [62, 62]) then some true else (some (a0.Other == [124])))) else (some false)).bind fun y50 => some y50 else ((bif (a0.Text == []) then some (a0.Other == []) else (some false)).bind fun y51 => some y51))))))))
def ms_l7Text (N : Nat) (a0 : SNode) : Option Bool :=
  bif (a0.Kind == 1) then ms_l7Text_k1 N (a0, (a0.Kind == 1)) else (bif (a0.Kind == 5) then ms_l7Text_k1 N (a0, (a0.Kind == 5)) else (bif (a0.Kind == 7) then ms_l7Text_k1 N (a0, (a0.Kind == 7)) else (bif (a0.Kind == 13) then ms_l7Text_k1 N (a0, (a0.Kind == 13)) else (bif (a0.Kind == 27) then ms_l7Text_k1 N (a0, (a0.Kind == 27)) else (ms_l7Text_k1 N (a0, (a0.Kind == 44)))))))

def ms_FieldsOk (N : Nat) (a0 : SNode) : Option Bool :=
  (ms_l7Many a0).bind fun r2 => ((ms_l1In a0.Kind 1 16).bind fun r7 => bif r7 then some true else ((ms_l1In a0.Kind 20 34).bind fun r8 => bif r8 then some true else ((ms_l1In a0.Kind 40 45).bind fun r9 => some r9))).bind fun y6 => (bif y6 then (ms_l7Op a0).bind fun r14 => bif r14 then (ms_l7Text N a0).bind fun r15 => bif r15 then (ms_l1In (a0.Kids.length : Int) r2.1 r2.2).bind fun r16 => some r16 else (some false) else (some false) else (some false)).bind fun y13 => some y13

def ms_IsLvalue (a0 : Int) : Option Bool :=
  (bif (a0 == 1) then some true else (bif (a0 == 5) then some true else (some (a0 == 6)))).bind fun y1 => some y1

def ms_IsExpr (a0 : Int) : Option Bool :=
  (ms_l1In a0 1 15).bind fun r2 => some r2

def ms_IsStmt (a0 : Int) : Option Bool :=
  (ms_l1In a0 20 34).bind fun r2 => some r2

def ms_l7Kid_k2 : (Int × Int × SNode × Bool) → Option Bool
  | (a1, a2, a0, y74) => bif y74 then some (a2 == 33) else (bif (a0.Kind == 33) then (ms_IsStmt a2).bind fun r76 => some r76 else (bif (a0.Kind == 42) then (bif (a0.Op == 1) then (ms_IsExpr a2).bind fun r87 => bif r87 then some true else (bif (a0.Op == 2) then bif (a2 == 33) then some true else (bif (a0.Op == 3) then bif (a1 == (IntKind.wrap .i64 ((a0.Kids.length : Int) - 1))) then bif (a2 == 33) then some true else (bif (!(a1 == (IntKind.wrap .i64 ((a0.Kids.length : Int) - 1)))) then (ms_IsExpr a2).bind fun r88 => some r88 else (some false)) else (bif (!(a1 == (IntKind.wrap .i64 ((a0.Kids.length : Int) - 1)))) then (ms_IsExpr a2).bind fun r89 => some r89 else (some false)) else (some false)) else (bif (a0.Op == 3) then bif (a1 == (IntKind.wrap .i64 ((a0.Kids.length : Int) - 1))) then bif (a2 == 33) then some true else (bif (!(a1 == (IntKind.wrap .i64 ((a0.Kids.length : Int) - 1)))) then (ms_IsExpr a2).bind fun r90 => some r90 else (some false)) else (bif (!(a1 == (IntKind.wrap .i64 ((a0.Kids.length : Int) - 1)))) then (ms_IsExpr a2).bind fun r91 => some r91 else (some false)) else (some false))) else (bif (a0.Op == 2) then bif (a2 == 33) then some true else (bif (a0.Op == 3) then bif (a1 == (IntKind.wrap .i64 ((a0.Kids.length : Int) - 1))) then bif (a2 == 33) then some true else (bif (!(a1 == (IntKind.wrap .i64 ((a0.Kids.length : Int) - 1)))) then (ms_IsExpr a2).bind fun r92 => some r92 else (some false)) else (bif (!(a1 == (IntKind.wrap .i64 ((a0.Kids.length : Int) - 1)))) then (ms_IsExpr a2).bind fun r93 => some r93 else (some false)) else (some false)) else (bif (a0.Op == 3) then bif (a1 == (IntKind.wrap .i64 ((a0.Kids.length : Int) - 1))) then bif (a2 == 33) then some true else (bif (!(a1 == (IntKind.wrap .i64 ((a0.Kids.length : Int) - 1)))) then (ms_IsExpr a2).bind fun r94 => some r94 else (some false)) else (bif (!(a1 == (IntKind.wrap .i64 ((a0.Kids.length : Int) - 1)))) then (ms_IsExpr a2).bind fun r95 => some r95 else (some false)) else (some false)))).bind fun y86 => some y86 else (bif (a0.Kind == 43) then (bif (decide (a1 < 2)) then (ms_IsExpr a2).bind fun r98 => bif r98 then some true else (bif (a1 == 2) then some (a2 == 33) else (some false)) else (bif (a1 == 2) then some (a2 == 33) else (some false))).bind fun y97 => some y97 else (bif (a0.Kind == 44) then (bif (a1 == (IntKind.wrap .i64 ((a0.Kids.length : Int) - 1))) then bif (a2 == 33) then some true else (bif (!(a1 == (IntKind.wrap .i64 ((a0.Kids.length : Int) - 1)))) then some (a2 == 1) else (some false)) else (bif (!(a1 == (IntKind.wrap .i64 ((a0.Kids.length : Int) - 1)))) then some (a2 == 1) else (some false))).bind fun y99 => some y99 else (bif (a0.Kind == 45) then ((ms_l1In a2 40 44).bind fun r102 => bif r102 then some true else (some (a2 == 34))).bind fun y101 => some y101 else ((ms_IsExpr a2).bind fun r104 => some r104))))))
def ms_l7Kid_k1 : (Int × Int × SNode × Bool) → Option Bool
  | (a1, a2, a0, y52) => bif y52 then (ms_IsLvalue a2).bind fun r54 => some r54 else (bif (a0.Kind == 15) then ((ms_IsExpr a2).bind fun r58 => bif r58 then bif (decide (a1 > 0)) then some true else ((ms_IsLvalue a2).bind fun r59 => some r59) else (some false)).bind fun y57 => some y57 else (bif (a0.Kind == 28) then (bif (a1 == 0) then (ms_IsExpr a2).bind fun r62 => bif r62 then some true else (bif (decide (a1 > 0)) then some (a2 == 33) else (some false)) else (bif (decide (a1 > 0)) then some (a2 == 33) else (some false))).bind fun y61 => some y61 else (bif (a0.Kind == 29) then (bif (a1 == 0) then (ms_IsExpr a2).bind fun r65 => bif r65 then some true else (bif (a1 == 1) then some (a2 == 33) else (some false)) else (bif (a1 == 1) then some (a2 == 33) else (some false))).bind fun y64 => some y64 else (bif (a0.Kind == 30) then (bif (a1 == 0) then bif (a2 == 33) then some true else (bif (a1 == 1) then (ms_IsExpr a2).bind fun r69 => some r69 else (some false)) else (bif (a1 == 1) then (ms_IsExpr a2).bind fun r70 => some r70 else (some false))).bind fun y68 => some y68 else (bif (a0.Kind == 31) then (bif (decide (a1 < 3)) then (ms_IsExpr a2).bind fun r73 => bif r73 then some true else (bif (a2 == 16) then some true else (bif (a1 == 3) then some (a2 == 33) else (some false))) else (bif (a1 == 3) then some (a2 == 33) else (some false))).bind fun y72 => some y72 else (bif (a0.Kind == 32) then ms_l7Kid_k2 (a1, a2, a0, (a0.Kind == 32)) else (bif (a0.Kind == 40) then ms_l7Kid_k2 (a1, a2, a0, (a0.Kind == 40)) else (ms_l7Kid_k2 (a1, a2, a0, (a0.Kind == 41))))))))))
def ms_l7Kid (a0 : SNode) (a1 : Int) (a2 : Int) : Option Bool :=
  bif (a0.Kind == 9) then ms_l7Kid_k1 (a1, a2, a0, (a0.Kind == 9)) else (ms_l7Kid_k1 (a1, a2, a0, (a0.Kind == 10)))

def ms_TreeOk_l2 (N : Nat) (kb1 : (LN × Int) → Option Bool) : Nat → (LN × Int × Int) → Option Bool
  | 0, _ => none
  | n2 + 1, (a0, y669, y949) => (ix a0 y669).bind fun e978 => bif (decide (y949 < (e978.Kids.length : Int))) then (ix a0 y669).bind fun e994 => (ix a0 y669).bind fun e995 => (ix e995.Kids y949).bind fun e996 => (ix a0 e996).bind fun e997 => (ms_l7Kid e994 y949 e997.Kind).bind fun r998 => bif (!r998) then some false else ((ms_TreeOk_l2 N kb1 n2) (a0, y669, (IntKind.wrap .i64 (y949 + 1)))) else (kb1 (a0, (IntKind.wrap .i64 (y669 + 1))))
def ms_TreeOk_l1 (N : Nat) : Nat → (LN × Int) → Option Bool
  | 0, _ => none
  | n1 + 1, (a0, y669) => bif (decide (y669 < (a0.length : Int))) then (ix a0 y669).bind fun e923 => (ms_FieldsOk N e923).bind fun r924 => bif (!r924) then some false else (ms_TreeOk_l2 N (ms_TreeOk_l1 N n1) N (a0, y669, 0)) else (some true)
def ms_TreeOk (N : Nat) (a0 : LN) : Option Bool :=
  ((ms_ShapeOk N a0).bind fun r9 => bif (!r9) then some true else ((ms_DepthOf N a0).bind fun r10 => some (decide (r10 > 40)))).bind fun y8 => bif y8 then some false else (ms_TreeOk_l1 N N (a0, 0))

def ms_l24Params_l1 (N : Nat) : Nat → (LN × Int × Int × LLU) → Option LLU
  | 0, _ => none
  | n1 + 1, (a0, a1, y85, y86) => (ix a0 a1).bind fun e112 => bif (decide ((IntKind.wrap .i64 (y85 + 1)) < (e112.Kids.length : Int))) then (ix a0 a1).bind fun e125 => (ix e125.Kids y85).bind fun e126 => (ix a0 e126).bind fun e127 => (app 16 y86 [e127.Text]).bind fun x128 => (ms_l24Params_l1 N n1) (a0, a1, (IntKind.wrap .i64 (y85 + 1)), x128) else (some y86)
def ms_l24Params (N : Nat) (a0 : LN) (a1 : Int) : Option LLU :=
  ms_l24Params_l1 N N (a0, a1, 0, [])

def ms_Top : Option SPos :=
  some (⟨1, false, false, false, false⟩ : SPos)

def ms_PosOk (a0 : SPos) : Option Bool :=
  ((ms_l1In a0.Level 1 15).bind fun r3 => bif r3 then bif (!a0.Dollar) then some true else (some (a0.Level == 14)) else (some false)).bind fun y2 => some y2

def ms_OpLevel_k4 : (Int × Bool) → Option Int
  | (a0, y8) => bif y8 then some 10 else (bif (a0 == 60) then some 12 else (some 0))
def ms_OpLevel_k3 : (Int × Bool) → Option Int
  | (a0, y7) => bif y7 then some 9 else (bif (a0 == 57) then ms_OpLevel_k4 (a0, (a0 == 57)) else (bif (a0 == 58) then ms_OpLevel_k4 (a0, (a0 == 58)) else (ms_OpLevel_k4 (a0, (a0 == 59)))))
def ms_OpLevel_k2 : (Int × Bool) → Option Int
  | (a0, y6) => bif y6 then some 7 else (bif (a0 == 99) then some 8 else (bif (a0 == 55) then ms_OpLevel_k3 (a0, (a0 == 55)) else (ms_OpLevel_k3 (a0, (a0 == 56)))))
def ms_OpLevel_k1 : (Int × Bool) → Option Int
  | (a0, y5) => bif y5 then some 6 else (bif (a0 == 63) then ms_OpLevel_k2 (a0, (a0 == 63)) else (bif (a0 == 48) then ms_OpLevel_k2 (a0, (a0 == 48)) else (bif (a0 == 47) then ms_OpLevel_k2 (a0, (a0 == 47)) else (bif (a0 == 50) then ms_OpLevel_k2 (a0, (a0 == 50)) else (bif (a0 == 62) then ms_OpLevel_k2 (a0, (a0 == 62)) else (ms_OpLevel_k2 (a0, (a0 == 49))))))))
def ms_OpLevel (a0 : Int) : Option Int :=
  bif (a0 == 44) then some 3 else (bif (a0 == 45) then some 4 else (bif (a0 == 67) then ms_OpLevel_k1 (a0, (a0 == 67)) else (ms_OpLevel_k1 (a0, (a0 == 46)))))

def ms_LevelOf_k2 : Bool → Option Int
  | y8 => bif y8 then some 15 else (some 0)
def ms_LevelOf_k1 : (SNode × Bool) → Option Int
  | (a0, y7) => bif y7 then some 13 else (bif (a0.Kind == 6) then some 14 else (bif (a0.Kind == 1) then ms_LevelOf_k2 (a0.Kind == 1) else (bif (a0.Kind == 2) then ms_LevelOf_k2 (a0.Kind == 2) else (bif (a0.Kind == 3) then ms_LevelOf_k2 (a0.Kind == 3) else (bif (a0.Kind == 4) then ms_LevelOf_k2 (a0.Kind == 4) else (bif (a0.Kind == 5) then ms_LevelOf_k2 (a0.Kind == 5) else (bif (a0.Kind == 7) then ms_LevelOf_k2 (a0.Kind == 7) else (ms_LevelOf_k2 (a0.Kind == 8)))))))))
def ms_LevelOf (a0 : SNode) : Option Int :=
  bif (a0.Kind == 15) then some 1 else (bif (a0.Kind == 14) then some 2 else (bif (a0.Kind == 13) then some 5 else (bif (a0.Kind == 12) then (ms_OpLevel a0.Op).bind fun r6 => some r6 else (bif (a0.Kind == 11) then some 11 else (bif (a0.Kind == 9) then ms_LevelOf_k1 (a0, (a0.Kind == 9)) else (ms_LevelOf_k1 (a0, (a0.Kind == 10))))))))

def ms_Fits (a0 : SNode) (a1 : SPos) : Option Bool :=
  ((ms_PosOk a1).bind fun r13 => bif (!r13) then some true else ((ms_LevelOf a0).bind fun r14 => some (r14 == 0))).bind fun y12 => bif y12 then some false else ((bif a1.NoIn then some (a0.Kind == 13) else (some false)).bind fun y15 => bif y15 then some false else ((bif a1.NoGt then bif (a0.Kind == 12) then some (a0.Op == 62) else (some false) else (some false)).bind fun y16 => bif y16 then some false else ((bif a1.NoSign then bif (a0.Kind == 11) then some true else (bif (a0.Kind == 9) then some true else (some (a0.Kind == 4))) else (some false)).bind fun y17 => bif y17 then some false else ((bif a1.Dollar then some (a0.Kind == 9) else (some false)).bind fun y18 => bif y18 then some true else ((ms_LevelOf a0).bind fun r20 => some (decide (r20 ≥ a1.Level)))))))

def ms_l10Leaf (a0 : SNode) : Option SToken :=
  bif (a0.Kind == 1) then some (⟨6, a0.Text, 0⟩ : SToken) else (bif (a0.Kind == 2) then some (⟨3, a0.Text, 0⟩ : SToken) else (bif (a0.Kind == 3) then some (⟨4, a0.Text, 0⟩ : SToken) else (bif (a0.Kind == 4) then some (⟨5, a0.Text, 0⟩ : SToken) else (some (⟨0, [], 0⟩ : SToken)))))

def ms_l15Text (a0 : LU) : Option LD :=
  some [(⟨1, 0, a0, []⟩ : SDNode)]

def ms_l15Line : Option LD :=
  some [(⟨2, 0, [], []⟩ : SDNode)]

def ms_l15Shift_l2 (N : Nat) (kb1 : (LD × Int × Int × LD) → Option LD) : Nat → (LD × Int × Int × LD × SDNode × Int × (List Int)) → Option LD
  | 0, _ => none
  | n2 + 1, (a0, a1, y869, y870, e1198, y1267, y1268) => (ix a0 y869).bind fun e1290 => bif (decide (y1267 < (e1290.Kids.length : Int))) then (ix a0 y869).bind fun e1300 => (ix e1300.Kids y1267).bind fun e1301 => (app 8 y1268 [(IntKind.wrap .i64 (e1301 + a1))]).bind fun x1302 => (ms_l15Shift_l2 N kb1 n2) (a0, a1, y869, y870, e1198, (IntKind.wrap .i64 (y1267 + 1)), x1302) else ((app 56 y870 [(⟨e1198.Kind, e1198.N, e1198.Text, y1268⟩ : SDNode)]).bind fun x1304 => kb1 (a0, a1, (IntKind.wrap .i64 (y869 + 1)), x1304))
def ms_l15Shift_l1 (N : Nat) : Nat → (LD × Int × Int × LD) → Option LD
  | 0, _ => none
  | n1 + 1, (a0, a1, y869, y870) => bif (decide (y869 < (a0.length : Int))) then (ix a0 y869).bind fun e1198 => ms_l15Shift_l2 N (ms_l15Shift_l1 N n1) N (a0, a1, y869, y870, e1198, 0, []) else (some y870)
def ms_l15Shift (N : Nat) (a0 : LD) (a1 : Int) : Option LD :=
  ms_l15Shift_l1 N N (a0, a1, 0, [])

def ms_l15Over_l1 (N : Nat) : Nat → ((List LD) × Int × Int × Int × LD × (List Int)) → Option LD
  | 0, _ => none
  | n1 + 1, (a2, a0, a1, y75, y76, y77) => bif (decide (y75 < (a2.length : Int))) then (ix a2 y75).bind fun e108 => (ms_l15Shift N e108 (y76.length : Int)).bind fun r109 => (app 56 y76 r109).bind fun x110 => (app 8 y77 [(IntKind.wrap .i64 ((x110.length : Int) - 1))]).bind fun x112 => (ms_l15Over_l1 N n1) (a2, a0, a1, (IntKind.wrap .i64 (y75 + 1)), x110, x112) else ((app 56 y76 [(⟨a0, a1, [], y77⟩ : SDNode)]).bind fun x114 => some x114)
def ms_l15Over (N : Nat) (a0 : Int) (a1 : Int) (a2 : List LD) : Option LD :=
  ms_l15Over_l1 N N (a2, a0, a1, 0, [], [])

def ms_l9Sides (a0 : Int) : Option (Int × Int) :=
  (ms_OpLevel a0).bind fun r4 => bif (r4 == 3) then some (3, 4) else (bif (r4 == 4) then some (4, 5) else (bif (r4 == 6) then some (7, 7) else (bif (r4 == 7) then some (8, 8) else (bif (r4 == 8) then some (8, 9) else (bif (r4 == 9) then some (9, 10) else (bif (r4 == 10) then some (10, 11) else (some (13, 11))))))))

def ms_KidPos_k1 : (SPos × Int × Bool × Bool) → Option SPos
  | (a2, y25, y26, y27) => some (⟨y25, y26, a2.NoIn, a2.NoGt, y27⟩ : SPos)
def ms_KidPos_k2 : (SNode × SPos × Bool × Bool) → Option SPos
  | (a0, a2, y15, y34) => bif y34 then ms_KidPos_k1 (a2, 14, false, false) else (bif (a0.Kind == 6) then ms_KidPos_k1 (a2, 14, true, false) else (Option.bind ms_Top fun r36 => some r36))
def ms_KidPos (a0 : SNode) (a1 : Int) (a2 : SPos) : Option SPos :=
  ((ms_PosOk a2).bind fun r12 => bif (!r12) then some true else ((ms_l1In a1 0 (IntKind.wrap .i64 ((a0.Kids.length : Int) - 1))).bind fun r13 => bif (!r13) then some true else ((ms_LevelOf a0).bind fun r14 => some (r14 == 0)))).bind fun y11 => bif y11 then some (⟨0, false, false, false, false⟩ : SPos) else ((bif a2.NoSign then some (a1 == 0) else (some false)).bind fun y15 => bif (a0.Kind == 15) then bif (decide (a1 > 0)) then ms_KidPos_k1 (a2, 1, false, y15) else (ms_KidPos_k1 (a2, 14, false, y15)) else (bif (a0.Kind == 14) then bif (a1 == 0) then ms_KidPos_k1 (a2, 3, false, y15) else (ms_KidPos_k1 (a2, 2, false, y15)) else (bif (a0.Kind == 13) then bif (decide ((a0.Kids.length : Int) > 1)) then Option.bind ms_Top fun r31 => some r31 else (ms_KidPos_k1 (a2, 5, false, y15)) else (bif (a0.Kind == 12) then (ms_l9Sides a0.Op).bind fun r33 => bif (decide (a1 > 0)) then ms_KidPos_k1 (a2, r33.2, false, (a0.Op == 99)) else (ms_KidPos_k1 (a2, r33.1, false, y15)) else (bif (a0.Kind == 11) then ms_KidPos_k1 (a2, 11, false, false) else (bif (a0.Kind == 9) then ms_KidPos_k2 (a0, a2, y15, (a0.Kind == 9)) else (ms_KidPos_k2 (a0, a2, y15, (a0.Kind == 10)))))))))

def ms_l10Tok (a0 : Int) : Option SToken :=
  (ms_SpellOf a0).bind fun r2 => some (⟨a0, r2, 0⟩ : SToken)

structure Rec1 where
  ms_l10Sides : SL10W → SNode → SPos → Option LT
  ms_l10Lvalue : SL10W → Int → Option LT
  ms_l10List : SL10W → (List Int) → Option LT
  ms_l10Named : SL10W → SToken → (List Int) → Int → Option LT
  ms_l10Node : SL10W → Int → SPos → Option LT
  ms_l10At : SL10W → Int → SPos → Option LT

def ms_l10Sides_k1 (N : Nat) (R : Rec1) : (SL10W × SNode × SPos × LT) → Option LT
  | (a0, a1, a2, y59) => (ix a1.Kids 1).bind fun e64 => (ms_KidPos a1 1 a2).bind fun r65 => (R.ms_l10At a0 e64 r65).bind fun r66 => (app 32 y59 r66).bind fun x67 => some x67
def ms_l10Sides_F (N : Nat) (R : Rec1) (a0 : SL10W) (a1 : SNode) (a2 : SPos) : Option LT :=
  (ix a1.Kids 0).bind fun e4 => (ms_KidPos a1 0 a2).bind fun r5 => (R.ms_l10At a0 e4 r5).bind fun r6 => bif (a1.Kind == 14) then (ms_l10Tok 65).bind fun r33 => (app 32 r6 [r33]).bind fun x34 => (ix a1.Kids 1).bind fun e39 => (ms_KidPos a1 1 a2).bind fun r40 => (R.ms_l10At a0 e39 r40).bind fun r41 => (app 32 x34 r41).bind fun x42 => (ms_l10Tok 66).bind fun r45 => (app 32 x42 [r45]).bind fun x46 => (ix a1.Kids 2).bind fun e51 => (ms_KidPos a1 2 a2).bind fun r52 => (R.ms_l10At a0 e51 r52).bind fun r53 => (app 32 x46 r53).bind fun x54 => some x54 else (bif (a1.Op != 99) then (ms_l10Tok a1.Op).bind fun r70 => (app 32 r6 [r70]).bind fun x71 => ms_l10Sides_k1 N R (a0, a1, a2, x71) else (ms_l10Sides_k1 N R (a0, a1, a2, r6)))

def ms_l10Lvalue_F (N : Nat) (R : Rec1) (a0 : SL10W) (a1 : Int) : Option LT :=
  (R.ms_l10Node a0 a1 (⟨14, false, false, false, false⟩ : SPos)).bind fun r2 => some r2

def ms_l10List_k2 (N : Nat) (R : Rec1) (kb1 : ((List Int) × SL10W × Int × LT) → Option LT) : ((List Int) × Int × SL10W × LT) → Option LT
  | (a1, y105, a0, y164) => (ix a1 y105).bind fun e169 => Option.bind ms_Top fun r170 => (R.ms_l10At a0 e169 r170).bind fun r171 => (app 32 y164 r171).bind fun x172 => kb1 (a1, a0, (IntKind.wrap .i64 (y105 + 1)), x172)
def ms_l10List_l1 (N : Nat) (R : Rec1) : Nat → ((List Int) × SL10W × Int × LT) → Option LT
  | 0, _ => none
  | n1 + 1, (a1, a0, y105, y106) => bif (decide (y105 < (a1.length : Int))) then bif (decide (y105 > 0)) then (ms_l10Tok 36).bind fun r175 => (app 32 y106 [r175]).bind fun x176 => ms_l10List_k2 N R (ms_l10List_l1 N R n1) (a1, y105, a0, x176) else (ms_l10List_k2 N R (ms_l10List_l1 N R n1) (a1, y105, a0, y106)) else (some y106)
def ms_l10List_F (N : Nat) (R : Rec1) (a0 : SL10W) (a1 : List Int) : Option LT :=
  ms_l10List_l1 N R N (a1, a0, 0, [])

def ms_l10Named_F (N : Nat) (R : Rec1) (a0 : SL10W) (a1 : SToken) (a2 : List Int) (a3 : Int) : Option LT :=
  (ms_l10Tok a3).bind fun r4 => (R.ms_l10List a0 a2).bind fun r5 => (app 32 [a1, r4] r5).bind fun x6 => (ms_l10Tok (IntKind.wrap .i64 (a3 + 1))).bind fun r9 => (app 32 x6 [r9]).bind fun x10 => some x10

def ms_l10Node_k1 (N : Nat) (R : Rec1) : (SNode × LT) → Option LT
  | (e2, y168) => (ms_l10Tok 24).bind fun r171 => (app 32 y168 [r171, (⟨6, e2.Text, 0⟩ : SToken)]).bind fun x172 => some x172
def ms_l10Node_F (N : Nat) (R : Rec1) (a0 : SL10W) (a1 : Int) (a2 : SPos) : Option LT :=
  (ix a0.l a1).bind fun e2 => (ms_l10Leaf e2).bind fun r4 => bif (r4.Kind != 0) then some [r4] else (bif (e2.Kind == 5) then (R.ms_l10Named a0 (⟨6, e2.Text, 0⟩ : SToken) e2.Kids 34).bind fun r95 => some r95 else (bif (e2.Kind == 7) then (R.ms_l10Named a0 (⟨7, e2.Text, 0⟩ : SToken) e2.Kids 32).bind fun r97 => some r97 else (bif (e2.Kind == 8) then (R.ms_l10Named a0 (⟨8, e2.Text, 0⟩ : SToken) e2.Kids 32).bind fun r99 => some r99 else (bif (e2.Kind == 9) then (ms_l10Tok e2.Op).bind fun r104 => (ix e2.Kids 0).bind fun e105 => (R.ms_l10Lvalue a0 e105).bind fun r106 => (app 32 [r104] r106).bind fun x107 => some x107 else (bif (e2.Kind == 10) then (ix e2.Kids 0).bind fun e112 => (R.ms_l10Lvalue a0 e112).bind fun r113 => (ms_l10Tok e2.Op).bind fun r114 => (app 32 r113 [r114]).bind fun x115 => some x115 else (bif (e2.Kind == 15) then (ix e2.Kids 0).bind fun e120 => (R.ms_l10Lvalue a0 e120).bind fun r121 => (ms_l10Tok e2.Op).bind fun r122 => (app 32 r121 [r122]).bind fun x123 => (ix e2.Kids 1).bind fun e128 => (ms_KidPos e2 1 a2).bind fun r129 => (R.ms_l10At a0 e128 r129).bind fun r130 => (app 32 x123 r130).bind fun x131 => some x131 else (bif (e2.Kind == 6) then (ms_l10Tok 68).bind fun r137 => (ix e2.Kids 0).bind fun e138 => (ms_KidPos e2 0 a2).bind fun r139 => (R.ms_l10At a0 e138 r139).bind fun r140 => (app 32 [r137] r140).bind fun x141 => some x141 else (bif (e2.Kind == 11) then (ms_l10Tok e2.Op).bind fun r147 => (ix e2.Kids 0).bind fun e148 => (ms_KidPos e2 0 a2).bind fun r149 => (R.ms_l10At a0 e148 r149).bind fun r150 => (app 32 [r147] r150).bind fun x151 => some x151 else (bif (e2.Kind == 13) then (ix e2.Kids 0).bind fun e155 => (ms_KidPos e2 0 a2).bind fun r156 => (R.ms_l10At a0 e155 r156).bind fun r157 => bif (decide ((e2.Kids.length : Int) > 1)) then (ms_l10Tok 32).bind fun r176 => (R.ms_l10List a0 e2.Kids).bind fun r177 => (app 32 [r176] r177).bind fun x178 => (ms_l10Tok 33).bind fun r181 => (app 32 x178 [r181]).bind fun x182 => ms_l10Node_k1 N R (e2, x182) else (ms_l10Node_k1 N R (e2, r157)) else ((R.ms_l10Sides a0 e2 a2).bind fun r184 => some r184))))))))))

def ms_l10At_F (N : Nat) (R : Rec1) (a0 : SL10W) (a1 : Int) (a2 : SPos) : Option LT :=
  ((ix a0.l a1).bind fun e11 => (ms_Fits e11 a2).bind fun r12 => bif r12 then some (!a0.full) else (some false)).bind fun y10 => bif y10 then (R.ms_l10Node a0 a1 a2).bind fun r14 => some r14 else ((bif a0.full then (ix a0.l a1).bind fun e28 => (ms_LevelOf e28).bind fun r29 => bif (r29 == 15) then (ix a0.l a1).bind fun e30 => some (e30.Kind != 4) else (some false) else (some false)).bind fun y27 => bif y27 then (R.ms_l10Node a0 a1 a2).bind fun r32 => some r32 else ((ms_l10Tok 32).bind fun r37 => Option.bind ms_Top fun r38 => (R.ms_l10Node a0 a1 r38).bind fun r39 => (app 32 [r37] r39).bind fun x40 => (ms_l10Tok 33).bind fun r43 => (app 32 x40 [r43]).bind fun x44 => some x44))
def scc1 : Nat → Rec1
  | 0 => ⟨fun _ _ _ => none, fun _ _ => none, fun _ _ => none, fun _ _ _ _ => none, fun _ _ _ => none, fun _ _ _ => none⟩
  | N + 1 => ⟨fun a0 a1 a2 => ms_l10Sides_F N (scc1 N) a0 a1 a2, fun a0 a1 => ms_l10Lvalue_F N (scc1 N) a0 a1, fun a0 a1 => ms_l10List_F N (scc1 N) a0 a1, fun a0 a1 a2 a3 => ms_l10Named_F N (scc1 N) a0 a1 a2 a3, fun a0 a1 a2 => ms_l10Node_F N (scc1 N) a0 a1 a2, fun a0 a1 a2 => ms_l10At_F N (scc1 N) a0 a1 a2⟩
def ms_l10Sides (N : Nat) (a0 : SL10W) (a1 : SNode) (a2 : SPos) : Option LT := (scc1 N).ms_l10Sides a0 a1 a2
def ms_l10Lvalue (N : Nat) (a0 : SL10W) (a1 : Int) : Option LT := (scc1 N).ms_l10Lvalue a0 a1
def ms_l10List (N : Nat) (a0 : SL10W) (a1 : List Int) : Option LT := (scc1 N).ms_l10List a0 a1
def ms_l10Named (N : Nat) (a0 : SL10W) (a1 : SToken) (a2 : List Int) (a3 : Int) : Option LT := (scc1 N).ms_l10Named a0 a1 a2 a3
def ms_l10Node (N : Nat) (a0 : SL10W) (a1 : Int) (a2 : SPos) : Option LT := (scc1 N).ms_l10Node a0 a1 a2
def ms_l10At (N : Nat) (a0 : SL10W) (a1 : Int) (a2 : SPos) : Option LT := (scc1 N).ms_l10At a0 a1 a2

def ms_OpAt_k2 (N : Nat) (kb1 : (LU × Int × LLU × Int × Int × Int) → Option (Int × Int)) : (LU × Int × Int × LLU × Int × Int) → Option (Int × Int)
  | (a0, a1, y75, r2, y102, y103) => kb1 (a0, a1, r2, y102, y103, (IntKind.wrap .i64 (y75 + 1)))
def ms_OpAt_l1 (N : Nat) : Nat → (LU × Int × LLU × Int × Int × Int) → Option (Int × Int)
  | 0, _ => none
  | n1 + 1, (a0, a1, r2, y73, y74, y75) => bif (decide (y75 < (r2.length : Int))) then (ix r2 y75).bind fun e105 => (bif (decide (a1 ≥ 0)) then bif (decide (a1 ≤ (a0.length : Int))) then bif (decide ((e105.length : Int) ≤ (IntKind.wrap .i64 ((a0.length : Int) - a1)))) then (cut a0 a1 (IntKind.wrap .i64 (a1 + (e105.length : Int)))).bind fun s109 => (ix r2 y75).bind fun e110 => bif (s109 == e110) then some (decide ((e105.length : Int) > y74)) else (some false) else (some false) else (some false) else (some false)).bind fun y108 => bif y108 then ms_OpAt_k2 N (ms_OpAt_l1 N n1) (a0, a1, y75, r2, (IntKind.wrap .i64 (30 + y75)), (e105.length : Int)) else (ms_OpAt_k2 N (ms_OpAt_l1 N n1) (a0, a1, y75, r2, y73, y74)) else (some (y73, y74))
def ms_OpAt (N : Nat) (a0 : LU) (a1 : Int) : Option (Int × Int) :=
  Option.bind ms_l3Signs fun r2 => ms_OpAt_l1 N N (a0, a1, r2, 0, 0, 0)

def ms_NeedsGap (N : Nat) (a0 : SToken) (a1 : SToken) : Option Bool :=
  (bif (a0.Text == []) then some true else (bif (a1.Text == []) then some true else (bif (a0.Kind == 2) then some true else (bif (a0.Kind == 1) then some true else (some (a1.Kind == 1)))))).bind fun y2 => bif y2 then some false else ((ix a1.Text 0).bind fun b4 => (ix a0.Text (IntKind.wrap .i64 ((a0.Text.length : Int) - 1))).bind fun b6 => ((ms_IsWordByte (IntKind.wrap .i64 ((b6).toNat : Int))).bind fun r19 => bif r19 then (ms_IsWordByte (IntKind.wrap .i64 ((b4).toNat : Int))).bind fun r20 => some r20 else (some false)).bind fun y18 => bif y18 then some true else ((bif (a0.Kind == 3) then (ms_IsWordByte (IntKind.wrap .i64 ((b4).toNat : Int))).bind fun r23 => bif r23 then some true else (some ((IntKind.wrap .i64 ((b4).toNat : Int)) == 46)) else (some false)).bind fun y22 => bif y22 then some true else ((bif (a0.Kind == 6) then some (a1.Kind == 32) else (some false)).bind fun y24 => bif y24 then some true else ((cat a0.Text a1.Text).bind fun s27 => (ms_OpAt N s27 0).bind fun r28 => ((ms_l1In a0.Kind 30 68).bind fun r31 => bif r31 then some (decide (r28.2 > (a0.Text.length : Int))) else (some false)).bind fun y30 => some y30))))

structure Rec2 where
  ms_l18Bin : SL10W → SNode → SPos → Option LD
  ms_l18Lvalue : SL10W → Int → Option LD
  ms_l18List : SL10W → (List Int) → SPos → Option LD
  ms_l18Named : SL10W → SNode → LU → LU → Option LD
  ms_l18Node : SL10W → Int → SPos → Option LD
  ms_l18At : SL10W → Int → SPos → Option LD

def ms_l18Bin_k1 (N : Nat) (R : Rec2) : (SNode × LD × LD × Bool) → Option LD
  | (a1, r6, r12, y36) => bif y36 then (ms_SpellOf a1.Op).bind fun r44 => (cat ([32] : LU) r44).bind fun s45 => (ms_l15Text s45).bind fun r46 => Option.bind ms_l15Line fun r47 => (ms_l15Over N 6 0 [r6, r46, r47, r12]).bind fun r48 => (ms_l15Over N 4 4 [r48]).bind fun r49 => (ms_l15Over N 5 0 [r49]).bind fun r50 => some r50 else ((ms_SpellOf a1.Op).bind fun r56 => (cat ([32] : LU) r56).bind fun s57 => (cat s57 ([32] : LU)).bind fun s58 => (ms_l15Text s58).bind fun r59 => (ms_l15Over N 6 0 [r6, r59, r12]).bind fun r60 => some r60)
def ms_l18Bin_F (N : Nat) (R : Rec2) (a0 : SL10W) (a1 : SNode) (a2 : SPos) : Option LD :=
  (ix a1.Kids 0).bind fun e4 => (ms_KidPos a1 0 a2).bind fun r5 => (R.ms_l18At a0 e4 r5).bind fun r6 => (ix a1.Kids 1).bind fun e10 => (ms_KidPos a1 1 a2).bind fun r11 => (R.ms_l18At a0 e10 r11).bind fun r12 => bif (a1.Op == 99) then (ms_l15Text [32]).bind fun r34 => (ms_l15Over N 6 0 [r6, r34, r12]).bind fun r35 => some r35 else (bif (a1.Op == 45) then ms_l18Bin_k1 N R (a1, r6, r12, (a1.Op == 45)) else (ms_l18Bin_k1 N R (a1, r6, r12, (a1.Op == 44))))

def ms_l18Lvalue_F (N : Nat) (R : Rec2) (a0 : SL10W) (a1 : Int) : Option LD :=
  (R.ms_l18Node a0 a1 (⟨14, false, false, false, false⟩ : SPos)).bind fun r2 => some r2

def ms_l18List_k2 (N : Nat) (R : Rec2) (kb1 : ((List Int) × SL10W × SPos × Int × (List LD)) → Option LD) : ((List Int) × Int × SL10W × SPos × (List LD)) → Option LD
  | (a1, y105, a0, a2, y172) => (ix a1 y105).bind fun e176 => (R.ms_l18At a0 e176 a2).bind fun r177 => (app 24 y172 [r177]).bind fun x178 => kb1 (a1, a0, a2, (IntKind.wrap .i64 (y105 + 1)), x178)
def ms_l18List_l1 (N : Nat) (R : Rec2) : Nat → ((List Int) × SL10W × SPos × Int × (List LD)) → Option LD
  | 0, _ => none
  | n1 + 1, (a1, a0, a2, y105, y106) => bif (decide (y105 < (a1.length : Int))) then bif (decide (y105 > 0)) then (ms_l15Text [44]).bind fun r182 => Option.bind ms_l15Line fun r183 => (app 24 y106 [r182, r183]).bind fun x184 => ms_l18List_k2 N R (ms_l18List_l1 N R n1) (a1, y105, a0, a2, x184) else (ms_l18List_k2 N R (ms_l18List_l1 N R n1) (a1, y105, a0, a2, y106)) else ((ms_l15Over N 6 0 y106).bind fun r188 => (ms_l15Over N 4 4 [r188]).bind fun r189 => (ms_l15Over N 5 0 [r189]).bind fun r190 => some r190)
def ms_l18List_F (N : Nat) (R : Rec2) (a0 : SL10W) (a1 : List Int) (a2 : SPos) : Option LD :=
  ms_l18List_l1 N R N (a1, a0, a2, 0, [])

def ms_l18Named_F (N : Nat) (R : Rec2) (a0 : SL10W) (a1 : SNode) (a2 : LU) (a3 : LU) : Option LD :=
  (cat a1.Text a2).bind fun s7 => (ms_l15Text s7).bind fun r8 => Option.bind ms_Top fun r9 => (R.ms_l18List a0 a1.Kids r9).bind fun r10 => (ms_l15Text a3).bind fun r11 => (ms_l15Over N 6 0 [r8, r10, r11]).bind fun r12 => some r12

def ms_l18Node_k2 (N : Nat) (R : Rec2) : (SL10W × SPos × SNode × LU) → Option LD
  | (a0, a2, e2, y236) => (ms_l15Text y236).bind fun r242 => (ix e2.Kids 0).bind fun e243 => (ms_KidPos e2 0 a2).bind fun r244 => (R.ms_l18At a0 e243 r244).bind fun r245 => (ms_l15Over N 6 0 [r242, r245]).bind fun r246 => some r246
def ms_l18Node_k1 (N : Nat) (R : Rec2) : (SNode × SL10W × SPos × Bool) → Option LD
  | (e2, a0, a2, y167) => bif y167 then (R.ms_l18Named a0 e2 [40] [41]).bind fun r169 => some r169 else (bif (e2.Kind == 9) then (ms_SpellOf e2.Op).bind fun r175 => (ms_l15Text r175).bind fun r176 => (ix e2.Kids 0).bind fun e177 => (R.ms_l18Lvalue a0 e177).bind fun r178 => (ms_l15Over N 6 0 [r176, r178]).bind fun r179 => some r179 else (bif (e2.Kind == 10) then (ix e2.Kids 0).bind fun e185 => (R.ms_l18Lvalue a0 e185).bind fun r186 => (ms_SpellOf e2.Op).bind fun r187 => (ms_l15Text r187).bind fun r188 => (ms_l15Over N 6 0 [r186, r188]).bind fun r189 => some r189 else (bif (e2.Kind == 6) then (ms_l15Text [36]).bind fun r195 => (ix e2.Kids 0).bind fun e196 => (ms_KidPos e2 0 a2).bind fun r197 => (R.ms_l18At a0 e196 r197).bind fun r198 => (ms_l15Over N 6 0 [r195, r198]).bind fun r199 => some r199 else (bif (e2.Kind == 15) then (ix e2.Kids 0).bind fun e210 => (R.ms_l18Lvalue a0 e210).bind fun r211 => (ms_SpellOf e2.Op).bind fun r212 => (cat ([32] : LU) r212).bind fun s213 => (cat s213 ([32] : LU)).bind fun s214 => (ms_l15Text s214).bind fun r215 => (ix e2.Kids 1).bind fun e216 => (ms_KidPos e2 1 a2).bind fun r217 => (R.ms_l18At a0 e216 r217).bind fun r218 => (ms_l15Over N 6 0 [r211, r215, r218]).bind fun r219 => some r219 else (bif (e2.Kind == 11) then (ms_SpellOf e2.Op).bind fun r221 => (ms_l10Tok e2.Op).bind fun r253 => (ix e2.Kids 0).bind fun e254 => (ms_KidPos e2 0 a2).bind fun r255 => (ms_l10At N a0 e254 r255).bind fun r256 => (ix r256 0).bind fun e257 => (ms_NeedsGap N r253 e257).bind fun r258 => bif r258 then (cat r221 ([32] : LU)).bind fun s260 => ms_l18Node_k2 N R (a0, a2, e2, s260) else (ms_l18Node_k2 N R (a0, a2, e2, r221)) else (bif (e2.Kind == 14) then (ix e2.Kids 0).bind fun e273 => (ms_KidPos e2 0 a2).bind fun r274 => (R.ms_l18At a0 e273 r274).bind fun r275 => (ms_l15Text [32, 63, 32]).bind fun r276 => (ix e2.Kids 1).bind fun e277 => (ms_KidPos e2 1 a2).bind fun r278 => (R.ms_l18At a0 e277 r278).bind fun r279 => (ms_l15Text [32, 58, 32]).bind fun r280 => (ix e2.Kids 2).bind fun e281 => (ms_KidPos e2 2 a2).bind fun r282 => (R.ms_l18At a0 e281 r282).bind fun r283 => (ms_l15Over N 6 0 [r275, r276, r279, r280, r283]).bind fun r284 => some r284 else (bif (e2.Kind == 13) then bif ((e2.Kids.length : Int) == 1) then (ix e2.Kids 0).bind fun e303 => (ms_KidPos e2 0 a2).bind fun r304 => (R.ms_l18At a0 e303 r304).bind fun r305 => (cat ([32, 105, 110, 32] : LU) e2.Text).bind fun s306 => (ms_l15Text s306).bind fun r307 => (ms_l15Over N 6 0 [r305, r307]).bind fun r308 => some r308 else ((ms_l15Text [40]).bind fun r315 => Option.bind ms_Top fun r316 => (R.ms_l18List a0 e2.Kids r316).bind fun r317 => (cat ([41, 32, 105, 110, 32] : LU) e2.Text).bind fun s318 => (ms_l15Text s318).bind fun r319 => (ms_l15Over N 6 0 [r315, r317, r319]).bind fun r320 => some r320) else ((R.ms_l18Bin a0 e2 a2).bind fun r322 => some r322))))))))
def ms_l18Node_F (N : Nat) (R : Rec2) (a0 : SL10W) (a1 : Int) (a2 : SPos) : Option LD :=
  (ix a0.l a1).bind fun e2 => (ms_l10Leaf e2).bind fun r4 => bif (r4.Kind != 0) then (ms_l15Text r4.Text).bind fun r8 => some r8 else (bif (e2.Kind == 5) then (R.ms_l18Named a0 e2 [91] [93]).bind fun r166 => some r166 else (bif (e2.Kind == 7) then ms_l18Node_k1 N R (e2, a0, a2, (e2.Kind == 7)) else (ms_l18Node_k1 N R (e2, a0, a2, (e2.Kind == 8)))))

def ms_l18At_F (N : Nat) (R : Rec2) (a0 : SL10W) (a1 : Int) (a2 : SPos) : Option LD :=
  (ix a0.l a1).bind fun e9 => (ms_Fits e9 a2).bind fun r10 => bif r10 then (R.ms_l18Node a0 a1 a2).bind fun r12 => some r12 else ((ms_l15Text [40]).bind fun r18 => Option.bind ms_Top fun r19 => (R.ms_l18Node a0 a1 r19).bind fun r20 => (ms_l15Text [41]).bind fun r21 => (ms_l15Over N 6 0 [r18, r20, r21]).bind fun r22 => some r22)
def scc2 : Nat → Rec2
  | 0 => ⟨fun _ _ _ => none, fun _ _ => none, fun _ _ _ => none, fun _ _ _ _ => none, fun _ _ _ => none, fun _ _ _ => none⟩
  | N + 1 => ⟨fun a0 a1 a2 => ms_l18Bin_F N (scc2 N) a0 a1 a2, fun a0 a1 => ms_l18Lvalue_F N (scc2 N) a0 a1, fun a0 a1 a2 => ms_l18List_F N (scc2 N) a0 a1 a2, fun a0 a1 a2 a3 => ms_l18Named_F N (scc2 N) a0 a1 a2 a3, fun a0 a1 a2 => ms_l18Node_F N (scc2 N) a0 a1 a2, fun a0 a1 a2 => ms_l18At_F N (scc2 N) a0 a1 a2⟩
def ms_l18Bin (N : Nat) (a0 : SL10W) (a1 : SNode) (a2 : SPos) : Option LD := (scc2 N).ms_l18Bin a0 a1 a2
def ms_l18Lvalue (N : Nat) (a0 : SL10W) (a1 : Int) : Option LD := (scc2 N).ms_l18Lvalue a0 a1
def ms_l18List (N : Nat) (a0 : SL10W) (a1 : List Int) (a2 : SPos) : Option LD := (scc2 N).ms_l18List a0 a1 a2
def ms_l18Named (N : Nat) (a0 : SL10W) (a1 : SNode) (a2 : LU) (a3 : LU) : Option LD := (scc2 N).ms_l18Named a0 a1 a2 a3
def ms_l18Node (N : Nat) (a0 : SL10W) (a1 : Int) (a2 : SPos) : Option LD := (scc2 N).ms_l18Node a0 a1 a2
def ms_l18At (N : Nat) (a0 : SL10W) (a1 : Int) (a2 : SPos) : Option LD := (scc2 N).ms_l18At a0 a1 a2

def ms_l15Node_k1 (N : Nat) : (SDNode × Bool) → Option Bool
  | (a0, y13) => bif y13 then some ((a0.Kids.length : Int) == 0) else (bif (a0.Kind == 4) then ((ms_l1In a0.N 0 40).bind fun r16 => bif r16 then some ((a0.Kids.length : Int) == 1) else (some false)).bind fun y15 => some y15 else (bif (a0.Kind == 5) then some ((a0.Kids.length : Int) == 1) else (some (a0.Kind == 6))))
def ms_l15Node (N : Nat) (a0 : SDNode) : Option Bool :=
  (bif (a0.Kind != 1) then bif (!(a0.Text == [])) then some true else (bif (a0.Kind != 4) then some (a0.N != 0) else (some false)) else (bif (a0.Kind != 4) then some (a0.N != 0) else (some false))).bind fun y2 => bif y2 then some false else (bif (a0.Kind == 1) then ((ms_l4Plain N a0.Text).bind fun r12 => bif r12 then some ((a0.Kids.length : Int) == 0) else (some false)).bind fun y11 => some y11 else (bif (a0.Kind == 2) then ms_l15Node_k1 N (a0, (a0.Kind == 2)) else (ms_l15Node_k1 N (a0, (a0.Kind == 3)))))

def ms_l15Starts_l2 (N : Nat) (kb1 : (LD × Int × (List Int)) → Option ((List Int) × Bool)) : Nat → (LD × Int × (List Int) × Int × Int) → Option ((List Int) × Bool)
  | 0, _ => none
  | n2 + 1, (a0, y917, y918, y1499, y1500) => bif (decide (y1500 ≥ 0)) then ((ix a0 y917).bind fun e1547 => (ix e1547.Kids y1500).bind fun e1548 => bif (e1548 != (IntKind.wrap .i64 (y1499 - 1))) then some true else (some (y1499 == 0))).bind fun y1546 => bif y1546 then some ([], false) else ((ix y918 (IntKind.wrap .i64 (y1499 - 1))).bind fun e1550 => (ms_l15Starts_l2 N kb1 n2) (a0, y917, y918, e1550, (IntKind.wrap .i64 (y1500 - 1)))) else ((app 8 y918 [y1499]).bind fun x1552 => kb1 (a0, (IntKind.wrap .i64 (y917 + 1)), x1552))
def ms_l15Starts_l1 (N : Nat) : Nat → (LD × Int × (List Int)) → Option ((List Int) × Bool)
  | 0, _ => none
  | n1 + 1, (a0, y917, y918) => bif (decide (y917 < (a0.length : Int))) then (ix a0 y917).bind fun e1474 => ms_l15Starts_l2 N (ms_l15Starts_l1 N n1) N (a0, y917, y918, y917, (IntKind.wrap .i64 ((e1474.Kids.length : Int) - 1))) else (some (y918, true))
def ms_l15Starts (N : Nat) (a0 : LD) : Option ((List Int) × Bool) :=
  ms_l15Starts_l1 N N (a0, 0, [])

def ms_DocOk_l1 (N : Nat) : Nat → (LD × Int) → Option Bool
  | 0, _ => none
  | n1 + 1, (a0, y39) => bif (decide (y39 < (a0.length : Int))) then (ix a0 y39).bind fun e55 => (ms_l15Node N e55).bind fun r56 => bif (!r56) then some false else ((ms_DocOk_l1 N n1) (a0, (IntKind.wrap .i64 (y39 + 1)))) else ((ms_l15Starts N a0).bind fun r58 => (bif r58.2 then (ix r58.1 (IntKind.wrap .i64 ((a0.length : Int) - 1))).bind fun e61 => some (e61 == 0) else (some false)).bind fun y60 => some y60)
def ms_DocOk (N : Nat) (a0 : LD) : Option Bool :=
  (ms_l1In (a0.length : Int) 1 4000).bind fun r4 => bif (!r4) then some false else (ms_DocOk_l1 N N (a0, 0))

def ms_FlatText_k2 (N : Nat) (kb1 : (LD × Int × LU) → Option (LU × Bool)) : (LD × Int × LU) → Option (LU × Bool)
  | (a0, y77, y106) => kb1 (a0, (IntKind.wrap .i64 (y77 + 1)), y106)
def ms_FlatText_l1 (N : Nat) : Nat → (LD × Int × LU) → Option (LU × Bool)
  | 0, _ => none
  | n1 + 1, (a0, y77, y78) => bif (decide (y77 < (a0.length : Int))) then (ix a0 y77).bind fun e108 => bif (e108.Kind == 1) then (ix a0 y77).bind fun e111 => (app 1 y78 e111.Text).bind fun x112 => ms_FlatText_k2 N (ms_FlatText_l1 N n1) (a0, y77, x112) else (bif (e108.Kind == 2) then (app 1 y78 [32]).bind fun x114 => ms_FlatText_k2 N (ms_FlatText_l1 N n1) (a0, y77, x114) else (bif (e108.Kind == 3) then some ([], false) else (ms_FlatText_k2 N (ms_FlatText_l1 N n1) (a0, y77, y78)))) else (some (y78, true))
def ms_FlatText (N : Nat) (a0 : LD) : Option (LU × Bool) :=
  (ms_DocOk N a0).bind fun r4 => bif (!r4) then some ([], false) else (ms_FlatText_l1 N N (a0, 0, []))

def ms_l42Head_k2 (N : Nat) (kb1 : (LLU × LU × Int) → Option LU) : (Int × LLU × LU) → Option LU
  | (y441, r383, y473) => (ix r383 y441).bind fun e476 => (cat y473 e476).bind fun s477 => kb1 (r383, s477, (IntKind.wrap .i64 (y441 + 1)))
def ms_l42Head_l1 (N : Nat) : Nat → (LLU × LU × Int) → Option LU
  | 0, _ => none
  | n1 + 1, (r383, y440, y441) => bif (decide (y441 < (r383.length : Int))) then bif (decide (y441 > 0)) then (cat y440 ([44, 32] : LU)).bind fun s479 => ms_l42Head_k2 N (ms_l42Head_l1 N n1) (y441, r383, s479) else (ms_l42Head_k2 N (ms_l42Head_l1 N n1) (y441, r383, y440)) else ((cat y440 ([41] : LU)).bind fun s481 => some s481)
def ms_l42Head_k5 (N : Nat) (kb4 : (LN × SNode × LU × Int) → Option LU) : (LN × Int × SNode × LU) → Option LU
  | (a0, y656, e2, y729) => kb4 (a0, e2, y729, (IntKind.wrap .i64 (y656 + 1)))
def ms_l42Head_k6 (N : Nat) (kb4 : (LN × SNode × LU × Int) → Option LU) : (LN × Int × (LU × Bool) × SNode × LU) → Option LU
  | (a0, y656, r745, e2, y748) => (cat y748 r745.1).bind fun s750 => ms_l42Head_k5 N kb4 (a0, y656, e2, s750)
def ms_l42Head_l4 (N : Nat) : Nat → (LN × SNode × LU × Int) → Option LU
  | 0, _ => none
  | n4 + 1, (a0, e2, y655, y656) => bif (decide (y656 < (e2.Kids.length : Int))) then (ix e2.Kids y656).bind fun e736 => (ix a0 e736).bind fun e737 => bif (e737.Kind == 33) then ms_l42Head_k5 N (ms_l42Head_l4 N n4) (a0, y656, e2, y655) else ((ix e2.Kids y656).bind fun e742 => Option.bind ms_Top fun r743 => (ms_l18At N (⟨a0, false⟩ : SL10W) e742 r743).bind fun r744 => (ms_FlatText N r744).bind fun r745 => bif (decide (y656 > 0)) then (cat y655 ([44, 32] : LU)).bind fun s752 => ms_l42Head_k6 N (ms_l42Head_l4 N n4) (a0, y656, r745, e2, s752) else (ms_l42Head_k6 N (ms_l42Head_l4 N n4) (a0, y656, r745, e2, y655))) else (some y655)
def ms_l42Head_k3 (N : Nat) : (LN × SNode × Bool) → Option LU
  | (a0, e2, y482) => bif y482 then ms_l42Head_l4 N N (a0, e2, [], 0) else (some [])
def ms_l42Head (N : Nat) (a0 : LN) (a1 : Int) : Option LU :=
  (ix a0 a1).bind fun e2 => bif (e2.Kind == 40) then some [66, 69, 71, 73, 78] else (bif (e2.Kind == 41) then some [69, 78, 68] else (bif (e2.Kind == 44) then (cat ([102, 117, 110, 99, 116, 105, 111, 110, 32] : LU) e2.Text).bind fun s380 => (cat s380 ([40] : LU)).bind fun s381 => (ms_l24Params N a0 a1).bind fun r383 => ms_l42Head_l1 N N (r383, s381, 0) else (bif (e2.Kind == 42) then ms_l42Head_k3 N (a0, e2, (e2.Kind == 42)) else (ms_l42Head_k3 N (a0, e2, (e2.Kind == 43))))))

def ms_HeadOf (N : Nat) (a0 : LN) (a1 : Int) : Option LU :=
  ((ms_TreeOk N a0).bind fun r9 => bif (!r9) then some true else ((ms_l1In a1 0 (IntKind.wrap .i64 ((a0.length : Int) - 1))).bind fun r10 => some (!r10))).bind fun y8 => bif y8 then some [] else ((ms_l42Head N a0 a1).bind fun r12 => some r12)

def mi_within (a0 : Int) (a1 : Int) (a2 : Int) : Option Bool :=
  (bif (decide (a0 ≥ a1)) then some (decide (a0 ≤ a2)) else (some false)).bind fun y1 => some y1

def mi_startsOf_r2 (N : Nat) (kb1 : (LN × Int × (List Int)) → Option ((List Int) × Bool)) (a0 : LN) (y203 : Int) (e322 : SNode) (y204 : List Int) : List Int → Int → Option ((List Int) × Bool)
  | [], y345 => (ix y204 y203).bind fun e357 => (upd y204 y203 (IntKind.wrap .i64 (y345 + 1))).bind fun x358 => kb1 (a0, (IntKind.wrap .i64 (y203 + 1)), x358)
  | e339 :: es340, y345 => (bif (decide (y345 < 0)) then some true else (some (e339 != y345))).bind fun y352 => bif y352 then some ([], false) else ((ix y204 e339).bind fun e354 => (mi_startsOf_r2 N kb1 a0 y203 e322 y204 es340) (IntKind.wrap .i64 (e354 - 1)))
def mi_startsOf_l1 (N : Nat) : Nat → (LN × Int × (List Int)) → Option ((List Int) × Bool)
  | 0, _ => none
  | n1 + 1, (a0, y203, y204) => bif (decide (y203 < (a0.length : Int))) then (ix a0 y203).bind fun e322 => mi_startsOf_r2 N (mi_startsOf_l1 N n1) a0 y203 e322 y204 (e322.Kids.reverse) (IntKind.wrap .i64 (y203 - 1)) else ((ix y204 (IntKind.wrap .i64 ((a0.length : Int) - 1))).bind fun e360 => some (y204, (e360 == 0)))
def mi_startsOf (N : Nat) (a0 : LN) : Option ((List Int) × Bool) :=
  (mi_within (a0.length : Int) 1 400).bind fun r4 => bif (!r4) then some ([], false) else ((mk 8 0 (a0.length : Int)).bind fun x6 => mi_startsOf_l1 N N (a0, 0, x6))

def mi_ShapeOk (N : Nat) (a0 : LN) : Option Bool :=
  (mi_startsOf N a0).bind fun r2 => some r2.2

def mi_IsExpr (a0 : Int) : Option Bool :=
  (mi_within a0 1 15).bind fun r2 => some r2

def mi_IsLetter (a0 : Int) : Option Bool :=
  (bif (decide (a0 ≥ 97)) then bif (decide (a0 ≤ 122)) then some true else (bif (decide (a0 ≥ 65)) then bif (decide (a0 ≤ 90)) then some true else (some (a0 == 95)) else (some (a0 == 95))) else (bif (decide (a0 ≥ 65)) then bif (decide (a0 ≤ 90)) then some true else (some (a0 == 95)) else (some (a0 == 95)))).bind fun y1 => some y1

def mi_IsDigit (a0 : Int) : Option Bool :=
  (bif (decide (a0 ≥ 48)) then some (decide (a0 ≤ 57)) else (some false)).bind fun y1 => some y1

def mi_IsWordByte (a0 : Int) : Option Bool :=
  ((mi_IsLetter a0).bind fun r4 => bif r4 then some true else ((mi_IsDigit a0).bind fun r5 => some r5)).bind fun y3 => some y3

def mi_NameShape_l1 (N : Nat) : Nat → (LU × Int) → Option Bool
  | 0, _ => none
  | n1 + 1, (a0, y35) => bif (decide (y35 < (a0.length : Int))) then (ix a0 y35).bind fun b51 => (mi_IsWordByte (IntKind.wrap .i64 ((b51).toNat : Int))).bind fun r52 => bif (!r52) then some false else ((mi_NameShape_l1 N n1) (a0, (IntKind.wrap .i64 (y35 + 1)))) else (((mi_within (a0.length : Int) 1 12).bind fun r57 => bif r57 then (ix a0 0).bind fun b58 => (mi_IsLetter (IntKind.wrap .i64 ((b58).toNat : Int))).bind fun r59 => some r59 else (some false)).bind fun y56 => some y56)
def mi_NameShape (N : Nat) (a0 : LU) : Option Bool :=
  mi_NameShape_l1 N N (a0, 0)

def m_slices_Index_string_l1 (N : Nat) : Nat → (LLU × LU × Int) → Option Int
  | 0, _ => none
  | n1 + 1, (a0, a1, y19) => bif (decide (y19 < (a0.length : Int))) then (ix a0 y19).bind fun e28 => bif (a1 == e28) then some y19 else ((m_slices_Index_string_l1 N n1) (a0, a1, (IntKind.wrap .i64 (y19 + 1)))) else (some (-1))
def m_slices_Index_string (N : Nat) (a0 : LLU) (a1 : LU) : Option Int :=
  m_slices_Index_string_l1 N N (a0, a1, 0)

def mi_KeywordOf (N : Nat) (a0 : LU) : Option Int :=
  (m_slices_Index_string N tab_keywords a0).bind fun r2 => bif (decide (r2 < 0)) then some 0 else (some (IntKind.wrap .i64 (10 + r2)))

def m_slices_Contains_string (N : Nat) (a0 : LLU) (a1 : LU) : Option Bool :=
  (m_slices_Index_string N a0 a1).bind fun r2 => some (decide (r2 ≥ 0))

def mi_IsBuiltin (N : Nat) (a0 : LU) : Option Bool :=
  (m_slices_Contains_string N tab_builtins a0).bind fun r2 => some r2

def mi_NameOk (N : Nat) (a0 : LU) : Option Bool :=
  ((mi_NameShape N a0).bind fun r5 => bif r5 then (mi_KeywordOf N a0).bind fun r6 => bif (r6 == 0) then (mi_IsBuiltin N a0).bind fun r7 => some (!r7) else (some false) else (some false)).bind fun y4 => some y4

def m_stringslite_IndexByte (a0 : LU) (a1 : Int) : Option Int :=
  some (Go.Lib.indexByte a0 (Int.toNat a1).toUInt8)

def m_stringslite_Index (a0 : LU) : Option Int :=
  bif (([10] : LU) == a0) then some 0 else ((ix ([10] : LU) 0).bind fun b7 => (m_stringslite_IndexByte a0 ((b7).toNat : Int)).bind fun r8 => some r8)

def m_strings_Index (a0 : LU) : Option Int :=
  (m_stringslite_Index a0).bind fun r2 => some r2

def m_strings_Contains (a0 : LU) : Option Bool :=
  (m_strings_Index a0).bind fun r2 => some (decide (r2 ≥ 0))

def mi_byteAt (a0 : LU) (a1 : Int) : Option Int :=
  (mi_within a1 0 (IntKind.wrap .i64 ((a0.length : Int) - 1))).bind fun r4 => bif (!r4) then some (-1) else ((ix a0 a1).bind fun b6 => some (IntKind.wrap .i64 ((b6).toNat : Int)))

def mi_digitsEnd_l1 (N : Nat) : Nat → (LU × Int) → Option Int
  | 0, _ => none
  | n1 + 1, (a0, a1) => (mi_byteAt a0 a1).bind fun r33 => (mi_IsDigit r33).bind fun r34 => bif r34 then (mi_digitsEnd_l1 N n1) (a0, (IntKind.wrap .i64 (a1 + 1))) else (some a1)
def mi_digitsEnd (N : Nat) (a0 : LU) (a1 : Int) : Option Int :=
  mi_digitsEnd_l1 N N (a0, a1)

def mi_NumEnd_k2 (N : Nat) : Int → Option Int
  | y11 => some y11
def mi_NumEnd_k3 (N : Nat) : (LU × Int × Int) → Option Int
  | (a0, y11, y31) => (mi_digitsEnd N a0 y31).bind fun r33 => bif (decide (r33 > y31)) then some r33 else (mi_NumEnd_k2 N y11)
def mi_NumEnd_k1 (N : Nat) : (LU × Int × Int) → Option Int
  | (a0, y11, y12) => bif (y12 == 0) then some (-1) else ((mi_byteAt a0 y11).bind fun r26 => (bif (r26 == 101) then some true else (some (r26 == 69))).bind fun y27 => bif y27 then (mi_byteAt a0 (IntKind.wrap .i64 (y11 + 1))).bind fun r35 => (bif (r35 == 43) then some true else (some (r35 == 45))).bind fun y36 => bif y36 then mi_NumEnd_k3 N (a0, y11, (IntKind.wrap .i64 ((IntKind.wrap .i64 (y11 + 1)) + 1))) else (mi_NumEnd_k3 N (a0, y11, (IntKind.wrap .i64 (y11 + 1)))) else (mi_NumEnd_k2 N y11))
def mi_NumEnd (N : Nat) (a0 : LU) (a1 : Int) : Option Int :=
  (mi_within a1 0 (IntKind.wrap .i64 ((a0.length : Int) - 1))).bind fun r4 => bif (!r4) then some (-1) else ((mi_digitsEnd N a0 a1).bind fun r6 => (mi_byteAt a0 r6).bind fun r38 => bif (r38 == 46) then (mi_digitsEnd N a0 (IntKind.wrap .i64 (r6 + 1))).bind fun r40 => mi_NumEnd_k1 N (a0, r40, (IntKind.wrap .i64 ((IntKind.wrap .i64 (r6 - a1)) + (IntKind.wrap .i64 ((IntKind.wrap .i64 (r40 - r6)) - 1))))) else (mi_NumEnd_k1 N (a0, r6, (IntKind.wrap .i64 (r6 - a1)))))

def mi_quotedEnd_k2 (N : Nat) (kb1 : (LU × Int × Int) → Option Int) : (LU × Int × Int) → Option Int
  | (a0, a2, y127) => kb1 (a0, a2, (IntKind.wrap .i64 (y127 + 1)))
def mi_quotedEnd_l1 (N : Nat) : Nat → (LU × Int × Int) → Option Int
  | 0, _ => none
  | n1 + 1, (a0, a2, y91) => (bif (decide (y91 < (a0.length : Int))) then (ix a0 y91).bind fun b119 => some (((b119).toNat : Int) != 10) else (some false)).bind fun y118 => bif y118 then (ix a0 y91).bind fun b129 => bif ((IntKind.wrap .i64 ((b129).toNat : Int)) == a2) then some (IntKind.wrap .i64 (y91 + 1)) else (((ix a0 y91).bind fun b133 => bif (((b133).toNat : Int) == 92) then (mi_byteAt a0 (IntKind.wrap .i64 (y91 + 1))).bind fun r134 => some (r134 != 10) else (some false)).bind fun y132 => bif y132 then mi_quotedEnd_k2 N (mi_quotedEnd_l1 N n1) (a0, a2, (IntKind.wrap .i64 (y91 + 1))) else (mi_quotedEnd_k2 N (mi_quotedEnd_l1 N n1) (a0, a2, y91))) else (some (-1))
def mi_quotedEnd (N : Nat) (a0 : LU) (a1 : Int) (a2 : Int) : Option Int :=
  (mi_byteAt a0 a1).bind fun r4 => bif (r4 != a2) then some (-1) else (mi_quotedEnd_l1 N N (a0, a2, (IntKind.wrap .i64 (a1 + 1))))

def mi_StrEnd (N : Nat) (a0 : LU) (a1 : Int) : Option Int :=
  (mi_quotedEnd N a0 a1 34).bind fun r2 => some r2

def mi_EreEnd (N : Nat) (a0 : LU) (a1 : Int) : Option Int :=
  (mi_quotedEnd N a0 a1 47).bind fun r2 => bif (r2 == (IntKind.wrap .i64 (a1 + 2))) then some (-1) else (some r2)

def mi_isKeywordKind (a0 : Int) : Option Bool :=
  (mi_within a0 10 26).bind fun r2 => some r2

def mi_isSignKind (a0 : Int) : Option Bool :=
  (mi_within a0 30 68).bind fun r2 => some r2

def mi_SpellOf (a0 : Int) : Option LU :=
  bif (a0 == 1) then some [10] else ((mi_isKeywordKind a0).bind fun r10 => bif r10 then (ix tab_keywords (IntKind.wrap .i64 (a0 - 10))).bind fun e12 => some e12 else ((mi_isSignKind a0).bind fun r14 => bif r14 then (ix tab_signs (IntKind.wrap .i64 (a0 - 30))).bind fun e16 => some e16 else (some [])))

def mi_TokenOk_k1 (N : Nat) : (SToken × Bool) → Option Bool
  | (a0, y28) => bif y28 then (mi_NameOk N a0.Text).bind fun r30 => some r30 else (bif (a0.Kind == 8) then (mi_IsBuiltin N a0.Text).bind fun r32 => some r32 else ((mi_SpellOf a0.Kind).bind fun r34 => some (a0.Text == r34)))
def mi_TokenOk (N : Nat) (a0 : SToken) : Option Bool :=
  bif (a0.Text == []) then some false else (bif (a0.Kind == 2) then ((ix a0.Text 0).bind fun b20 => bif (((b20).toNat : Int) == 35) then (m_strings_Contains a0.Text).bind fun r21 => some (!r21) else (some false)).bind fun y19 => some y19 else (bif (a0.Kind == 3) then (mi_NumEnd N a0.Text 0).bind fun r23 => some (r23 == (a0.Text.length : Int)) else (bif (a0.Kind == 4) then (mi_StrEnd N a0.Text 0).bind fun r25 => some (r25 == (a0.Text.length : Int)) else (bif (a0.Kind == 5) then (mi_EreEnd N a0.Text 0).bind fun r27 => some (r27 == (a0.Text.length : Int)) else (bif (a0.Kind == 6) then mi_TokenOk_k1 N (a0, (a0.Kind == 6)) else (mi_TokenOk_k1 N (a0, (a0.Kind == 7))))))))

def mi_isStep (a0 : Int) : Option Bool :=
  (bif (a0 == 51) then some true else (some (a0 == 52))).bind fun y1 => some y1

def mi_OpLevel_k4 : (Int × Bool) → Option Int
  | (a0, y8) => bif y8 then some 10 else (bif (a0 == 60) then some 12 else (some 0))
def mi_OpLevel_k3 : (Int × Bool) → Option Int
  | (a0, y7) => bif y7 then some 9 else (bif (a0 == 57) then mi_OpLevel_k4 (a0, (a0 == 57)) else (bif (a0 == 58) then mi_OpLevel_k4 (a0, (a0 == 58)) else (mi_OpLevel_k4 (a0, (a0 == 59)))))
def mi_OpLevel_k2 : (Int × Bool) → Option Int
  | (a0, y6) => bif y6 then some 7 else (bif (a0 == 99) then some 8 else (bif (a0 == 55) then mi_OpLevel_k3 (a0, (a0 == 55)) else (mi_OpLevel_k3 (a0, (a0 == 56)))))
def mi_OpLevel_k1 : (Int × Bool) → Option Int
  | (a0, y5) => bif y5 then some 6 else (bif (a0 == 63) then mi_OpLevel_k2 (a0, (a0 == 63)) else (bif (a0 == 48) then mi_OpLevel_k2 (a0, (a0 == 48)) else (bif (a0 == 47) then mi_OpLevel_k2 (a0, (a0 == 47)) else (bif (a0 == 50) then mi_OpLevel_k2 (a0, (a0 == 50)) else (bif (a0 == 62) then mi_OpLevel_k2 (a0, (a0 == 62)) else (mi_OpLevel_k2 (a0, (a0 == 49))))))))
def mi_OpLevel (a0 : Int) : Option Int :=
  bif (a0 == 44) then some 3 else (bif (a0 == 45) then some 4 else (bif (a0 == 67) then mi_OpLevel_k1 (a0, (a0 == 67)) else (mi_OpLevel_k1 (a0, (a0 == 46)))))

def mi_isAssign (a0 : Int) : Option Bool :=
  (bif (a0 == 54) then some true else ((mi_within a0 38 43).bind fun r3 => some r3)).bind fun y2 => some y2

def mi_exprForm_k3 (N : Nat) : (SNode × Bool) → Option SForm
  | (a0, y35) => bif y35 then (mi_isStep a0.Op).bind fun r37 => some (⟨r37, (a0.Text == []), false, 1, 1⟩ : SForm) else (bif (a0.Kind == 11) then (bif (a0.Op == 55) then some true else (bif (a0.Op == 56) then some true else (some (a0.Op == 61)))).bind fun y38 => some (⟨y38, (a0.Text == []), false, 1, 1⟩ : SForm) else (bif (a0.Kind == 12) then (mi_OpLevel a0.Op).bind fun r40 => some (⟨(r40 != 0), (a0.Text == []), false, 2, 2⟩ : SForm) else (bif (a0.Kind == 14) then some (⟨(a0.Op == 0), (a0.Text == []), false, 3, 3⟩ : SForm) else ((mi_isAssign a0.Op).bind fun r42 => some (⟨r42, (a0.Text == []), false, 2, 2⟩ : SForm)))))
def mi_exprForm_k2 (N : Nat) : (SNode × Bool) → Option SForm
  | (a0, y28) => bif y28 then (mi_NameOk N a0.Text).bind fun r30 => some (⟨(a0.Op == 0), r30, false, 1, 6⟩ : SForm) else (bif (a0.Kind == 6) then some (⟨(a0.Op == 0), (a0.Text == []), false, 1, 1⟩ : SForm) else (bif (a0.Kind == 7) then (mi_NameOk N a0.Text).bind fun r32 => some (⟨(a0.Op == 0), r32, false, 0, 6⟩ : SForm) else (bif (a0.Kind == 8) then (mi_IsBuiltin N a0.Text).bind fun r34 => some (⟨(a0.Op == 0), r34, false, 0, 6⟩ : SForm) else (bif (a0.Kind == 9) then mi_exprForm_k3 N (a0, (a0.Kind == 9)) else (mi_exprForm_k3 N (a0, (a0.Kind == 10)))))))
def mi_exprForm_k1 (N : Nat) : (SNode × Bool) → Option SForm
  | (a0, y23) => bif y23 then (ix [3, 4, 5] (IntKind.wrap .i64 (a0.Kind - 2))).bind fun e26 => (mi_TokenOk N (⟨e26, a0.Text, 0⟩ : SToken)).bind fun r27 => some (⟨(a0.Op == 0), r27, false, 0, 0⟩ : SForm) else (bif (a0.Kind == 5) then mi_exprForm_k2 N (a0, (a0.Kind == 5)) else (mi_exprForm_k2 N (a0, (a0.Kind == 13))))
def mi_exprForm (N : Nat) (a0 : SNode) : Option SForm :=
  bif (a0.Kind == 1) then (mi_NameOk N a0.Text).bind fun r22 => some (⟨(a0.Op == 0), r22, false, 0, 0⟩ : SForm) else (bif (a0.Kind == 2) then mi_exprForm_k1 N (a0, (a0.Kind == 2)) else (bif (a0.Kind == 3) then mi_exprForm_k1 N (a0, (a0.Kind == 3)) else (mi_exprForm_k1 N (a0, (a0.Kind == 4)))))

def mi_IsStmt (a0 : Int) : Option Bool :=
  (mi_within a0 20 34).bind fun r2 => some r2

def mi_stmtForm_k1 (N : Nat) : (Bool × Bool × Bool × Int × Int) → Option SForm
  | (y14, y15, y16, y17, y18) => some (⟨y14, y15, y16, y17, y18⟩ : SForm)
def mi_stmtForm_k3 (N : Nat) : (SNode × Bool) → Option SForm
  | (a0, y25) => bif y25 then mi_stmtForm_k1 N ((a0.Op == 0), (a0.Text == []), (a0.Other == []), 2, 2) else (bif (a0.Kind == 31) then mi_stmtForm_k1 N ((a0.Op == 0), (a0.Text == []), (a0.Other == []), 4, 4) else (bif (a0.Kind == 32) then (mi_NameOk N a0.Text).bind fun r28 => (mi_NameOk N a0.Other).bind fun r29 => mi_stmtForm_k1 N ((a0.Op == 0), r28, r29, 1, 1) else (bif (a0.Kind == 33) then mi_stmtForm_k1 N ((a0.Op == 0), (a0.Text == []), (a0.Other == []), 0, 400) else (bif (a0.Kind == 34) then (mi_TokenOk N (⟨2, a0.Text, 0⟩ : SToken)).bind fun r31 => mi_stmtForm_k1 N ((a0.Op == 0), r31, (a0.Other == []), 0, 0) else (mi_stmtForm_k1 N ((a0.Op == 0), (a0.Text == []), (a0.Other == []), 0, 0))))))
def mi_stmtForm_k2 (N : Nat) : (SNode × Bool) → Option SForm
  | (a0, y22) => bif y22 then mi_stmtForm_k1 N ((a0.Op == 0), (a0.Text == []), (a0.Other == []), 0, 1) else (bif (a0.Kind == 27) then (mi_NameOk N a0.Text).bind fun r24 => mi_stmtForm_k1 N ((a0.Op == 0), r24, (a0.Other == []), 0, 6) else (bif (a0.Kind == 28) then mi_stmtForm_k1 N ((a0.Op == 0), (a0.Text == []), (a0.Other == []), 2, 3) else (bif (a0.Kind == 29) then mi_stmtForm_k3 N (a0, (a0.Kind == 29)) else (mi_stmtForm_k3 N (a0, (a0.Kind == 30))))))
def mi_stmtForm (N : Nat) (a0 : SNode) : Option SForm :=
  bif (a0.Kind == 20) then mi_stmtForm_k1 N ((a0.Op == 0), (a0.Text == []), (a0.Other == []), 1, 1) else (bif (a0.Kind == 21) then (bif (a0.Op == 0) then some true else (some (a0.Op == 1))).bind fun y19 => (m_slices_Contains_string N [[], [62], [62, 62], [124]] a0.Other).bind fun r21 => bif (!(a0.Other == [])) then mi_stmtForm_k1 N (y19, (a0.Text == []), r21, (IntKind.wrap .i64 (a0.Op + 1)), 7) else (mi_stmtForm_k1 N (y19, (a0.Text == []), r21, a0.Op, 6)) else (bif (a0.Kind == 23) then mi_stmtForm_k2 N (a0, (a0.Kind == 23)) else (mi_stmtForm_k2 N (a0, (a0.Kind == 24)))))

def mi_itemForm_k1 (N : Nat) : (SNode × Bool × Bool × Int × Int) → Option SForm
  | (a0, y9, y10, y11, y12) => some (⟨y9, y10, (a0.Other == []), y11, y12⟩ : SForm)
def mi_itemForm_k3 (N : Nat) : (Bool × SNode × Int) → Option SForm
  | (r15, a0, y16) => mi_itemForm_k1 N (a0, r15, (a0.Text == []), y16, y16)
def mi_itemForm_k4 (N : Nat) : (Bool × SNode × Int) → Option SForm
  | (y17, a0, y18) => mi_itemForm_k1 N (a0, y17, (a0.Text == []), y18, y18)
def mi_itemForm_k2 (N : Nat) : (SNode × Bool) → Option SForm
  | (a0, y13) => bif y13 then mi_itemForm_k1 N (a0, (a0.Op == 0), (a0.Text == []), 1, 1) else (bif (a0.Kind == 42) then (mi_within a0.Op 1 3).bind fun r15 => bif (a0.Op == 3) then mi_itemForm_k3 N (r15, a0, 2) else (mi_itemForm_k3 N (r15, a0, 1)) else (bif (a0.Kind == 43) then (bif (a0.Op == 1) then some true else (some (a0.Op == 3))).bind fun y17 => bif (a0.Op == 3) then mi_itemForm_k4 N (y17, a0, 3) else (mi_itemForm_k4 N (y17, a0, 2)) else (bif (a0.Kind == 44) then (mi_NameOk N a0.Text).bind fun r20 => mi_itemForm_k1 N (a0, (a0.Op == 0), r20, 1, 7) else (mi_itemForm_k1 N (a0, (a0.Op == 0), (a0.Text == []), 0, 400)))))
def mi_itemForm (N : Nat) (a0 : SNode) : Option SForm :=
  bif (a0.Kind == 40) then mi_itemForm_k2 N (a0, (a0.Kind == 40)) else (mi_itemForm_k2 N (a0, (a0.Kind == 41)))

def mi_FieldsOk_k1 (N : Nat) : (SNode × Bool × Bool × Bool × Int × Int) → Option Bool
  | (a0, y13, y14, y15, y16, y17) => (bif y13 then bif y14 then bif y15 then (mi_within (a0.Kids.length : Int) y16 y17).bind fun r20 => some r20 else (some false) else (some false) else (some false)).bind fun y19 => some y19
def mi_FieldsOk (N : Nat) (a0 : SNode) : Option Bool :=
  (mi_IsExpr a0.Kind).bind fun r22 => bif r22 then (mi_exprForm N a0).bind fun r24 => mi_FieldsOk_k1 N (a0, r24.op, r24.text, (a0.Other == []), r24.least, r24.most) else (bif (a0.Kind == 16) then mi_FieldsOk_k1 N (a0, (a0.Op == 0), (a0.Text == []), (a0.Other == []), 0, 0) else ((mi_IsStmt a0.Kind).bind fun r26 => bif r26 then (mi_stmtForm N a0).bind fun r28 => mi_FieldsOk_k1 N (a0, r28.op, r28.text, r28.other, r28.least, r28.most) else ((mi_within a0.Kind 40 45).bind fun r30 => bif r30 then (mi_itemForm N a0).bind fun r32 => mi_FieldsOk_k1 N (a0, r32.op, r32.text, r32.other, r32.least, r32.most) else (some false))))

def mi_IsLvalue (a0 : Int) : Option Bool :=
  (bif (a0 == 1) then some true else (bif (a0 == 5) then some true else (some (a0 == 6)))).bind fun y1 => some y1

def mi_isItem (a0 : Int) : Option Bool :=
  (mi_within a0 40 44).bind fun r2 => some r2

def mi_kidOk_k1 : (Int × Bool) → Option Bool
  | (a2, y22) => bif y22 then some (a2 == 33) else ((mi_IsExpr a2).bind fun r24 => some r24)
def mi_kidOk_k4 : (Int × Int × SNode × Bool) → Option Bool
  | (a2, a1, a0, y38) => bif y38 then mi_kidOk_k1 (a2, true) else (bif (a0.Kind == 33) then (mi_IsStmt a2).bind fun r40 => some r40 else (bif (a0.Kind == 42) then (bif (a1 == (IntKind.wrap .i64 ((a0.Kids.length : Int) - 1))) then some (decide (a0.Op ≥ 2)) else (some false)).bind fun y41 => mi_kidOk_k1 (a2, y41) else (bif (a0.Kind == 43) then (bif (a1 == (IntKind.wrap .i64 ((a0.Kids.length : Int) - 1))) then some (a0.Op == 3) else (some false)).bind fun y42 => mi_kidOk_k1 (a2, y42) else (bif (a0.Kind == 44) then bif (!(a1 == (IntKind.wrap .i64 ((a0.Kids.length : Int) - 1)))) then some (a2 == 1) else (mi_kidOk_k1 (a2, true)) else (bif (a0.Kind == 45) then ((mi_isItem a2).bind fun r45 => bif r45 then some true else (some (a2 == 34))).bind fun y44 => some y44 else (mi_kidOk_k1 (a2, false)))))))
def mi_kidOk_k3 : (Int × Int × SNode × Bool) → Option Bool
  | (a1, a2, a0, y35) => bif y35 then mi_kidOk_k1 (a2, (decide (a1 > 0))) else (bif (a0.Kind == 31) then (bif (decide (a1 < 3)) then some (a2 == 16) else (some false)).bind fun y37 => bif y37 then some true else (mi_kidOk_k1 (a2, (a1 == (IntKind.wrap .i64 ((a0.Kids.length : Int) - 1))))) else (bif (a0.Kind == 30) then mi_kidOk_k1 (a2, (a1 == 0)) else (bif (a0.Kind == 32) then mi_kidOk_k4 (a2, a1, a0, (a0.Kind == 32)) else (bif (a0.Kind == 40) then mi_kidOk_k4 (a2, a1, a0, (a0.Kind == 40)) else (mi_kidOk_k4 (a2, a1, a0, (a0.Kind == 41)))))))
def mi_kidOk_k2 : (Int × Int × SNode × Bool) → Option Bool
  | (a1, a2, a0, y25) => bif y25 then (mi_IsLvalue a2).bind fun r27 => some r27 else (bif (a0.Kind == 15) then (bif (a1 == 0) then (mi_IsLvalue a2).bind fun r32 => bif r32 then some true else (bif (decide (a1 > 0)) then (mi_IsExpr a2).bind fun r33 => some r33 else (some false)) else (bif (decide (a1 > 0)) then (mi_IsExpr a2).bind fun r34 => some r34 else (some false))).bind fun y31 => some y31 else (bif (a0.Kind == 28) then mi_kidOk_k3 (a1, a2, a0, (a0.Kind == 28)) else (mi_kidOk_k3 (a1, a2, a0, (a0.Kind == 29)))))
def mi_kidOk (a0 : SNode) (a1 : Int) (a2 : Int) : Option Bool :=
  bif (a0.Kind == 9) then mi_kidOk_k2 (a1, a2, a0, (a0.Kind == 9)) else (mi_kidOk_k2 (a1, a2, a0, (a0.Kind == 10)))

structure Rec3 where
  mi_treeAt : LN → Int → Option STree

def mi_treeAt_l1 (N : Nat) (R : Rec3) : Nat → (LN × SNode × Int × LS) → Option STree
  | 0, _ => none
  | n1 + 1, (a0, e2, y63, y64) => bif (decide (y63 < (e2.Kids.length : Int))) then (ix e2.Kids y63).bind fun e86 => (R.mi_treeAt a0 e86).bind fun r89 => (app 72 y64 [r89]).bind fun x90 => (mi_treeAt_l1 N R n1) (a0, e2, (IntKind.wrap .i64 (y63 + 1)), x90) else (some (⟨e2.Kind, e2.Op, e2.Text, e2.Other, y64⟩ : STree))
def mi_treeAt_F (N : Nat) (R : Rec3) (a0 : LN) (a1 : Int) : Option STree :=
  (ix a0 a1).bind fun e2 => mi_treeAt_l1 N R N (a0, e2, 0, [])
def scc3 : Nat → Rec3
  | 0 => ⟨fun _ _ => none⟩
  | N + 1 => ⟨fun a0 a1 => mi_treeAt_F N (scc3 N) a0 a1⟩
def mi_treeAt (N : Nat) (a0 : LN) (a1 : Int) : Option STree := (scc3 N).mi_treeAt a0 a1

def mi_rootOf (N : Nat) (a0 : LN) : Option STree :=
  (mi_treeAt N a0 (IntKind.wrap .i64 ((a0.length : Int) - 1))).bind fun r2 => some r2

structure Rec4 where
  mi_tree__depth : STree → Option Int

def mi_tree__depth_l1 (N : Nat) (R : Rec4) : Nat → (STree × Int × Int) → Option Int
  | 0, _ => none
  | n1 + 1, (a0, y37, y38) => bif (decide (y38 < (a0.kids.length : Int))) then (ix a0.kids y38).bind fun e54 => (R.mi_tree__depth e54).bind fun r56 => (mi_tree__depth_l1 N R n1) (a0, (if r56 > y37 then r56 else y37), (IntKind.wrap .i64 (y38 + 1))) else (some (IntKind.wrap .i64 (y37 + 1)))
def mi_tree__depth_F (N : Nat) (R : Rec4) (a0 : STree) : Option Int :=
  mi_tree__depth_l1 N R N (a0, 0, 0)
def scc4 : Nat → Rec4
  | 0 => ⟨fun _ => none⟩
  | N + 1 => ⟨fun a0 => mi_tree__depth_F N (scc4 N) a0⟩
def mi_tree__depth (N : Nat) (a0 : STree) : Option Int := (scc4 N).mi_tree__depth a0

def mi_TreeOk_l2 (N : Nat) (kb1 : (LN × Int) → Option Bool) : Nat → (LN × Int × SNode × Int) → Option Bool
  | 0, _ => none
  | n2 + 1, (a0, y359, e494, y511) => bif (decide (y511 < (e494.Kids.length : Int))) then (ix e494.Kids y511).bind fun e532 => (ix a0 e532).bind fun e535 => (mi_kidOk e494 y511 e535.Kind).bind fun r536 => bif (!r536) then some false else ((mi_TreeOk_l2 N kb1 n2) (a0, y359, e494, (IntKind.wrap .i64 (y511 + 1)))) else (kb1 (a0, (IntKind.wrap .i64 (y359 + 1))))
def mi_TreeOk_l1 (N : Nat) : Nat → (LN × Int) → Option Bool
  | 0, _ => none
  | n1 + 1, (a0, y359) => bif (decide (y359 < (a0.length : Int))) then (ix a0 y359).bind fun e494 => (mi_FieldsOk N e494).bind fun r498 => bif (!r498) then some false else (mi_TreeOk_l2 N (mi_TreeOk_l1 N n1) N (a0, y359, e494, 0)) else ((mi_rootOf N a0).bind fun r539 => (mi_tree__depth N r539).bind fun r540 => some (decide (r540 ≤ 40)))
def mi_TreeOk (N : Nat) (a0 : LN) : Option Bool :=
  (mi_ShapeOk N a0).bind fun r4 => bif (!r4) then some false else (mi_TreeOk_l1 N N (a0, 0))

def m_strings_Join (p0 : LLU) : Option LU :=
  joinO p0 [44, 32]

def mi_headOf_l1 (N : Nat) : Nat → (LS × STree × Int × LLU) → Option LU
  | 0, _ => none
  | n1 + 1, (l32, a0, y41, y42) => bif (decide (y41 < (l32.length : Int))) then (ix l32 y41).bind fun e58 => (app 16 y42 [e58.text]).bind fun x60 => (mi_headOf_l1 N n1) (l32, a0, (IntKind.wrap .i64 (y41 + 1)), x60) else ((cat ([102, 117, 110, 99, 116, 105, 111, 110, 32] : LU) a0.text).bind fun s66 => (cat s66 ([40] : LU)).bind fun s67 => (m_strings_Join y42).bind fun r68 => (cat s67 r68).bind fun s69 => (cat s69 ([41] : LU)).bind fun s70 => some s70)
def mi_headOf (N : Nat) (a0 : STree) : Option LU :=
  (cut a0.kids 0 (IntKind.wrap .i64 ((a0.kids.length : Int) - 1))).bind fun l32 => mi_headOf_l1 N N (l32, a0, 0, [])

def mi_Top : Option SPos :=
  some (⟨1, false, false, false, false⟩ : SPos)

def mi_tree__node_l1 (N : Nat) : Nat → (STree × Int × (List Int)) → Option SNode
  | 0, _ => none
  | n1 + 1, (a0, y25, y26) => bif (decide (y25 < (a0.kids.length : Int))) then (app 8 y26 [y25]).bind fun x36 => (mi_tree__node_l1 N n1) (a0, (IntKind.wrap .i64 (y25 + 1)), x36) else (some (⟨a0.kind, a0.op, a0.text, a0.other, y26⟩ : SNode))
def mi_tree__node (N : Nat) (a0 : STree) : Option SNode :=
  mi_tree__node_l1 N N (a0, 0, [])

def mi_LevelOf_k2 : Bool → Option Int
  | y8 => bif y8 then some 15 else (some 0)
def mi_LevelOf_k1 : (SNode × Bool) → Option Int
  | (a0, y7) => bif y7 then some 13 else (bif (a0.Kind == 6) then some 14 else (bif (a0.Kind == 1) then mi_LevelOf_k2 (a0.Kind == 1) else (bif (a0.Kind == 2) then mi_LevelOf_k2 (a0.Kind == 2) else (bif (a0.Kind == 3) then mi_LevelOf_k2 (a0.Kind == 3) else (bif (a0.Kind == 4) then mi_LevelOf_k2 (a0.Kind == 4) else (bif (a0.Kind == 5) then mi_LevelOf_k2 (a0.Kind == 5) else (bif (a0.Kind == 7) then mi_LevelOf_k2 (a0.Kind == 7) else (mi_LevelOf_k2 (a0.Kind == 8)))))))))
def mi_LevelOf (a0 : SNode) : Option Int :=
  bif (a0.Kind == 15) then some 1 else (bif (a0.Kind == 14) then some 2 else (bif (a0.Kind == 13) then some 5 else (bif (a0.Kind == 12) then (mi_OpLevel a0.Op).bind fun r6 => some r6 else (bif (a0.Kind == 11) then some 11 else (bif (a0.Kind == 9) then mi_LevelOf_k1 (a0, (a0.Kind == 9)) else (mi_LevelOf_k1 (a0, (a0.Kind == 10))))))))

def mi_PosOk (a0 : SPos) : Option Bool :=
  ((mi_within a0.Level 1 15).bind fun r3 => bif r3 then bif (!a0.Dollar) then some true else (some (a0.Level == 14)) else (some false)).bind fun y2 => some y2

def mi_Fits (a0 : SNode) (a1 : SPos) : Option Bool :=
  (mi_LevelOf a0).bind fun r2 => ((mi_PosOk a1).bind fun r11 => bif (!r11) then some true else (some (r2 == 0))).bind fun y10 => bif y10 then some false else ((bif a1.NoIn then some (a0.Kind == 13) else (some false)).bind fun y12 => bif y12 then some false else ((bif a1.NoGt then bif (a0.Kind == 12) then some (a0.Op == 62) else (some false) else (some false)).bind fun y13 => bif y13 then some false else ((bif a1.NoSign then bif (a0.Kind == 11) then some true else (bif (a0.Kind == 9) then some true else (some (a0.Kind == 4))) else (some false)).bind fun y14 => bif y14 then some false else ((bif a1.Dollar then bif (a0.Kind == 9) then some true else (some (decide (r2 ≥ a1.Level))) else (some (decide (r2 ≥ a1.Level)))).bind fun y15 => some y15))))

def mi_text (a0 : LU) : Option SDoc :=
  some (⟨1, 0, a0, [], 0⟩ : SDoc)

def mi_atTop (a0 : Int) : Option SPos :=
  Option.bind mi_Top fun r2 => some r2

def mi_line : Option SDoc :=
  some (⟨2, 0, [], [], 0⟩ : SDoc)

def mi_cat (a0 : LO) : Option SDoc :=
  some (⟨6, 0, [], a0, 0⟩ : SDoc)

def mi_nest (a0 : SDoc) : Option SDoc :=
  some (⟨4, 4, [], [a0], 0⟩ : SDoc)

def mi_group (a0 : SDoc) : Option SDoc :=
  some (⟨5, 0, [], [a0], 0⟩ : SDoc)

def mi_binLevel_k1 : (Int × Int × Int) → Option Int
  | (a1, y3, y4) => bif (a1 == 0) then some y3 else (some y4)
def mi_binLevel (a0 : Int) (a1 : Int) : Option Int :=
  (mi_OpLevel a0).bind fun r6 => bif (r6 == 3) then mi_binLevel_k1 (a1, 3, 4) else (bif (r6 == 4) then mi_binLevel_k1 (a1, 4, 5) else (bif (r6 == 6) then mi_binLevel_k1 (a1, 7, 7) else (bif (r6 == 7) then mi_binLevel_k1 (a1, 8, 8) else (bif (r6 == 8) then mi_binLevel_k1 (a1, 8, 9) else (bif (r6 == 9) then mi_binLevel_k1 (a1, 9, 10) else (bif (r6 == 10) then mi_binLevel_k1 (a1, 10, 11) else (mi_binLevel_k1 (a1, 13, 11))))))))

def mi_kidLevel (a0 : SNode) (a1 : Int) : Option Int :=
  bif (a0.Kind == 15) then bif (decide (a1 > 0)) then some 1 else (some 14) else (bif (a0.Kind == 14) then bif (decide (a1 > 0)) then some 2 else (some 3) else (bif (a0.Kind == 13) then some 5 else (bif (a0.Kind == 11) then some 11 else (bif (a0.Kind == 12) then (mi_binLevel a0.Op a1).bind fun r4 => some r4 else (some 14)))))

def mi_KidPos_k1 : (Int × SNode × SPos × Bool) → Option SPos
  | (r26, a0, a2, y29) => some (⟨r26, (a0.Kind == 6), a2.NoIn, a2.NoGt, y29⟩ : SPos)
def mi_KidPos_k2 : (Int × SNode × SPos × Int × Bool) → Option SPos
  | (a1, a0, a2, r26, y30) => bif y30 then mi_KidPos_k1 (r26, a0, a2, false) else ((bif (a1 == 0) then bif a2.NoSign then some true else (bif (a1 == 1) then bif (a0.Kind == 12) then some (a0.Op == 99) else (some false) else (some false)) else (bif (a1 == 1) then bif (a0.Kind == 12) then some (a0.Op == 99) else (some false) else (some false))).bind fun y31 => mi_KidPos_k1 (r26, a0, a2, y31))
def mi_KidPos (a0 : SNode) (a1 : Int) (a2 : SPos) : Option SPos :=
  ((mi_PosOk a2).bind fun r12 => bif (!r12) then some true else ((mi_within a1 0 (IntKind.wrap .i64 ((a0.Kids.length : Int) - 1))).bind fun r13 => bif (!r13) then some true else ((mi_LevelOf a0).bind fun r14 => some (r14 == 0)))).bind fun y11 => bif y11 then some (⟨0, false, false, false, false⟩ : SPos) else (((mi_LevelOf a0).bind fun r22 => bif (r22 == 15) then some true else (bif (a0.Kind == 13) then some (decide ((a0.Kids.length : Int) > 1)) else (some false))).bind fun y21 => bif y21 then Option.bind mi_Top fun r24 => some r24 else ((mi_kidLevel a0 a1).bind fun r26 => bif (a0.Kind == 11) then mi_KidPos_k2 (a1, a0, a2, r26, (a0.Kind == 11)) else (bif (a0.Kind == 9) then mi_KidPos_k2 (a1, a0, a2, r26, (a0.Kind == 9)) else (bif (a0.Kind == 10) then mi_KidPos_k2 (a1, a0, a2, r26, (a0.Kind == 10)) else (mi_KidPos_k2 (a1, a0, a2, r26, (a0.Kind == 6)))))))

def mi_isTarget (a0 : SNode) (a1 : Int) : Option Bool :=
  (bif (a1 == 0) then bif (a0.Kind == 9) then some true else (bif (a0.Kind == 10) then some true else (some (a0.Kind == 15))) else (some false)).bind fun y1 => some y1

def mi_speller__put (a1 : LT) (pc : Bool) (p1 : LT) (p2 : List SSpan) : Option LT :=
  (app 32 p1 a1).bind fun x2 => some x2

def mi_sign (a0 : Int) : Option SToken :=
  (mi_SpellOf a0).bind fun r2 => some (⟨a0, r2, 0⟩ : SToken)

structure Rec5 where
  mi_speller__expr : STree → SPos → Bool → LT → (List SSpan) → Option (LT × (List SSpan))
  mi_speller__operator : STree → SPos → Bool → LT → (List SSpan) → Option (LT × (List SSpan))
  mi_speller__list : STree → Int → Int → SPos → Bool → LT → (List SSpan) → Option (LT × (List SSpan))
  mi_speller__bare : STree → SPos → Bool → LT → (List SSpan) → Option (LT × (List SSpan))
  mi_speller__kid : STree → Int → SPos → Bool → LT → (List SSpan) → Option (LT × (List SSpan))

def mi_speller__expr_k1 (N : Nat) (R : Rec5) (pc : Bool) : (STree × SPos × LT × (List SSpan) × Bool) → Option (LT × (List SSpan))
  | (a1, a2, p1, p2, y8) => bif (!y8) then (R.mi_speller__bare a1 a2 pc p1 p2).bind fun r12 => some (r12.1, r12.2) else ((mi_sign 32).bind fun r15 => (mi_speller__put [r15] pc p1 p2).bind fun r16 => Option.bind mi_Top fun r19 => (R.mi_speller__bare a1 r19 pc r16 p2).bind fun r20 => (mi_sign 33).bind fun r23 => (mi_speller__put [r23] pc r20.1 r20.2).bind fun r24 => some (r24, r20.2))
def mi_speller__expr_F (N : Nat) (R : Rec5) (a1 : STree) (a2 : SPos) (pc : Bool) (p1 : LT) (p2 : List SSpan) : Option (LT × (List SSpan)) :=
  (mi_tree__node N a1).bind fun r2 => (mi_Fits r2 a2).bind fun r4 => bif pc then ((mi_LevelOf r2).bind fun r27 => bif (r27 != 15) then some true else (some (r2.Kind == 4))).bind fun y26 => mi_speller__expr_k1 N R pc (a1, a2, p1, p2, y26) else (mi_speller__expr_k1 N R pc (a1, a2, p1, p2, (!r4)))

def mi_speller__operator_k2 (N : Nat) (R : Rec5) (pc : Bool) : (STree × LT × (List SSpan)) → Option (LT × (List SSpan))
  | (a1, y24, y25) => (mi_sign 24).bind fun r28 => (mi_speller__put [r28, (⟨6, a1.text, 0⟩ : SToken)] pc y24 y25).bind fun r29 => some (r29, y25)
def mi_speller__operator_k3 (N : Nat) (R : Rec5) (pc : Bool) : (STree × SPos × (LT × (List SSpan)) × LT) → Option (LT × (List SSpan))
  | (a1, a2, r49, y54) => (R.mi_speller__kid a1 1 a2 pc y54 r49.2).bind fun r56 => some (r56.1, r56.2)
def mi_speller__operator_k1 (N : Nat) (R : Rec5) (pc : Bool) : (STree × SPos × LT × (List SSpan) × Bool) → Option (LT × (List SSpan))
  | (a1, a2, p1, p2, y1) => bif y1 then (mi_sign a1.op).bind fun r4 => (mi_speller__put [r4] pc p1 p2).bind fun r5 => (R.mi_speller__kid a1 0 a2 pc r5 p2).bind fun r7 => some (r7.1, r7.2) else (bif (a1.kind == 6) then (mi_sign 68).bind fun r10 => (mi_speller__put [r10] pc p1 p2).bind fun r11 => (R.mi_speller__kid a1 0 a2 pc r11 p2).bind fun r13 => some (r13.1, r13.2) else (bif (a1.kind == 10) then (R.mi_speller__kid a1 0 a2 pc p1 p2).bind fun r15 => (mi_sign a1.op).bind fun r18 => (mi_speller__put [r18] pc r15.1 r15.2).bind fun r19 => some (r19, r15.2) else (bif (a1.kind == 13) then bif (decide ((a1.kids.length : Int) > 1)) then (R.mi_speller__list a1 32 33 a2 pc p1 p2).bind fun r31 => mi_speller__operator_k2 N R pc (a1, r31.1, r31.2) else ((R.mi_speller__kid a1 0 a2 pc p1 p2).bind fun r33 => mi_speller__operator_k2 N R pc (a1, r33.1, r33.2)) else (bif (a1.kind == 14) then (R.mi_speller__kid a1 0 a2 pc p1 p2).bind fun r35 => (mi_sign 65).bind fun r38 => (mi_speller__put [r38] pc r35.1 r35.2).bind fun r39 => (R.mi_speller__kid a1 1 a2 pc r39 r35.2).bind fun r41 => (mi_sign 66).bind fun r44 => (mi_speller__put [r44] pc r41.1 r41.2).bind fun r45 => (R.mi_speller__kid a1 2 a2 pc r45 r41.2).bind fun r47 => some (r47.1, r47.2) else ((R.mi_speller__kid a1 0 a2 pc p1 p2).bind fun r49 => bif (a1.op != 99) then (mi_sign a1.op).bind fun r59 => (mi_speller__put [r59] pc r49.1 r49.2).bind fun r60 => mi_speller__operator_k3 N R pc (a1, a2, r49, r60) else (mi_speller__operator_k3 N R pc (a1, a2, r49, r49.1)))))))
def mi_speller__operator_F (N : Nat) (R : Rec5) (a1 : STree) (a2 : SPos) (pc : Bool) (p1 : LT) (p2 : List SSpan) : Option (LT × (List SSpan)) :=
  bif (a1.kind == 9) then mi_speller__operator_k1 N R pc (a1, a2, p1, p2, (a1.kind == 9)) else (mi_speller__operator_k1 N R pc (a1, a2, p1, p2, (a1.kind == 11)))

def mi_speller__list_k2 (N : Nat) (R : Rec5) (pc : Bool) (kb1 : (Int × STree × SPos × Int × LT × (List SSpan)) → Option (LT × (List SSpan))) : (Int × Int × STree × SPos × (List SSpan) × LT) → Option (LT × (List SSpan))
  | (a3, y63, a1, a4, y65, y106) => (R.mi_speller__kid a1 y63 a4 pc y106 y65).bind fun r108 => kb1 (a3, a1, a4, (IntKind.wrap .i64 (y63 + 1)), r108.1, r108.2)
def mi_speller__list_l1 (N : Nat) (R : Rec5) (pc : Bool) : Nat → (Int × STree × SPos × Int × LT × (List SSpan)) → Option (LT × (List SSpan))
  | 0, _ => none
  | n1 + 1, (a3, a1, a4, y63, y64, y65) => bif (decide (y63 < (a1.kids.length : Int))) then bif (decide (y63 > 0)) then (mi_sign 36).bind fun r111 => (mi_speller__put [r111] pc y64 y65).bind fun r112 => mi_speller__list_k2 N R pc (mi_speller__list_l1 N R pc n1) (a3, y63, a1, a4, y65, r112) else (mi_speller__list_k2 N R pc (mi_speller__list_l1 N R pc n1) (a3, y63, a1, a4, y65, y64)) else ((mi_sign a3).bind fun r115 => (mi_speller__put [r115] pc y64 y65).bind fun r116 => some (r116, y65))
def mi_speller__list_F (N : Nat) (R : Rec5) (a1 : STree) (a2 : Int) (a3 : Int) (a4 : SPos) (pc : Bool) (p1 : LT) (p2 : List SSpan) : Option (LT × (List SSpan)) :=
  (mi_sign a2).bind fun r3 => (mi_speller__put [r3] pc p1 p2).bind fun r4 => mi_speller__list_l1 N R pc N (a3, a1, a4, 0, r4, p2)

def mi_speller__bare_k1 (N : Nat) (R : Rec5) (pc : Bool) : (LT × LT × (List SSpan)) → Option (LT × (List SSpan))
  | (p1, y23, y24) => (app 16 y24 [(⟨(p1.length : Int), (y23.length : Int)⟩ : SSpan)]).bind fun x26 => some (y23, x26)
def mi_speller__bare_F (N : Nat) (R : Rec5) (a1 : STree) (a2 : SPos) (pc : Bool) (p1 : LT) (p2 : List SSpan) : Option (LT × (List SSpan)) :=
  bif (a1.kind == 1) then (mi_speller__put [(⟨6, a1.text, 0⟩ : SToken)] pc p1 p2).bind fun r28 => mi_speller__bare_k1 N R pc (p1, r28, p2) else (bif (a1.kind == 2) then (mi_speller__put [(⟨3, a1.text, 0⟩ : SToken)] pc p1 p2).bind fun r30 => mi_speller__bare_k1 N R pc (p1, r30, p2) else (bif (a1.kind == 3) then (mi_speller__put [(⟨4, a1.text, 0⟩ : SToken)] pc p1 p2).bind fun r32 => mi_speller__bare_k1 N R pc (p1, r32, p2) else (bif (a1.kind == 4) then (mi_speller__put [(⟨5, a1.text, 0⟩ : SToken)] pc p1 p2).bind fun r34 => mi_speller__bare_k1 N R pc (p1, r34, p2) else (bif (a1.kind == 5) then (mi_speller__put [(⟨6, a1.text, 0⟩ : SToken)] pc p1 p2).bind fun r36 => (R.mi_speller__list a1 34 35 a2 pc r36 p2).bind fun r38 => mi_speller__bare_k1 N R pc (p1, r38.1, r38.2) else (bif (a1.kind == 7) then (mi_speller__put [(⟨7, a1.text, 0⟩ : SToken)] pc p1 p2).bind fun r40 => (R.mi_speller__list a1 32 33 a2 pc r40 p2).bind fun r42 => mi_speller__bare_k1 N R pc (p1, r42.1, r42.2) else (bif (a1.kind == 8) then (mi_speller__put [(⟨8, a1.text, 0⟩ : SToken)] pc p1 p2).bind fun r44 => (R.mi_speller__list a1 32 33 a2 pc r44 p2).bind fun r46 => mi_speller__bare_k1 N R pc (p1, r46.1, r46.2) else ((R.mi_speller__operator a1 a2 pc p1 p2).bind fun r48 => mi_speller__bare_k1 N R pc (p1, r48.1, r48.2))))))))

def mi_speller__kid_F (N : Nat) (R : Rec5) (a1 : STree) (a2 : Int) (a3 : SPos) (pc : Bool) (p1 : LT) (p2 : List SSpan) : Option (LT × (List SSpan)) :=
  (mi_tree__node N a1).bind fun r3 => (ix a1.kids a2).bind fun e4 => (mi_KidPos r3 a2 a3).bind fun r6 => (mi_isTarget r3 a2).bind fun r12 => bif r12 then (R.mi_speller__bare e4 r6 pc p1 p2).bind fun r14 => some (r14.1, r14.2) else ((R.mi_speller__expr e4 r6 pc p1 p2).bind fun r16 => some (r16.1, r16.2))
def scc5 : Nat → Rec5
  | 0 => ⟨fun _ _ _ _ _ => none, fun _ _ _ _ _ => none, fun _ _ _ _ _ _ _ => none, fun _ _ _ _ _ => none, fun _ _ _ _ _ _ => none⟩
  | N + 1 => ⟨fun a1 a2 pc p1 p2 => mi_speller__expr_F N (scc5 N) a1 a2 pc p1 p2, fun a1 a2 pc p1 p2 => mi_speller__operator_F N (scc5 N) a1 a2 pc p1 p2, fun a1 a2 a3 a4 pc p1 p2 => mi_speller__list_F N (scc5 N) a1 a2 a3 a4 pc p1 p2, fun a1 a2 pc p1 p2 => mi_speller__bare_F N (scc5 N) a1 a2 pc p1 p2, fun a1 a2 a3 pc p1 p2 => mi_speller__kid_F N (scc5 N) a1 a2 a3 pc p1 p2⟩
def mi_speller__expr (N : Nat) (a1 : STree) (a2 : SPos) (pc : Bool) (p1 : LT) (p2 : List SSpan) : Option (LT × (List SSpan)) := (scc5 N).mi_speller__expr a1 a2 pc p1 p2
def mi_speller__operator (N : Nat) (a1 : STree) (a2 : SPos) (pc : Bool) (p1 : LT) (p2 : List SSpan) : Option (LT × (List SSpan)) := (scc5 N).mi_speller__operator a1 a2 pc p1 p2
def mi_speller__list (N : Nat) (a1 : STree) (a2 : Int) (a3 : Int) (a4 : SPos) (pc : Bool) (p1 : LT) (p2 : List SSpan) : Option (LT × (List SSpan)) := (scc5 N).mi_speller__list a1 a2 a3 a4 pc p1 p2
def mi_speller__bare (N : Nat) (a1 : STree) (a2 : SPos) (pc : Bool) (p1 : LT) (p2 : List SSpan) : Option (LT × (List SSpan)) := (scc5 N).mi_speller__bare a1 a2 pc p1 p2
def mi_speller__kid (N : Nat) (a1 : STree) (a2 : Int) (a3 : SPos) (pc : Bool) (p1 : LT) (p2 : List SSpan) : Option (LT × (List SSpan)) := (scc5 N).mi_speller__kid a1 a2 a3 pc p1 p2

def m_stringslite_HasPrefix (a0 : LU) (a1 : LU) : Option Bool :=
  (bif (decide ((a0.length : Int) ≥ (a1.length : Int))) then (cut a0 0 (a1.length : Int)).bind fun s3 => some (s3 == a1) else (some false)).bind fun y2 => some y2

def m_strings_HasPrefix (a0 : LU) (a1 : LU) : Option Bool :=
  (m_stringslite_HasPrefix a0 a1).bind fun r2 => some r2

def mi_OpAt_k2 (N : Nat) (kb1 : (LU × Int × Int × Int × Int) → Option (Int × Int)) : (LU × Int × Int × Int × Int) → Option (Int × Int)
  | (a0, a1, y77, y104, y105) => kb1 (a0, a1, y104, y105, (IntKind.wrap .i64 (y77 + 1)))
def mi_OpAt_l1 (N : Nat) : Nat → (LU × Int × Int × Int × Int) → Option (Int × Int)
  | 0, _ => none
  | n1 + 1, (a0, a1, y75, y76, y77) => bif (decide (y77 < 39)) then (ix tab_signs y77).bind fun e107 => (bif (decide ((e107.length : Int) > y76)) then (cut a0 a1 (a0.length : Int)).bind fun s111 => (m_strings_HasPrefix s111 e107).bind fun r112 => some r112 else (some false)).bind fun y110 => bif y110 then mi_OpAt_k2 N (mi_OpAt_l1 N n1) (a0, a1, y77, (IntKind.wrap .i64 (30 + y77)), (e107.length : Int)) else (mi_OpAt_k2 N (mi_OpAt_l1 N n1) (a0, a1, y77, y75, y76)) else (some (y75, y76))
def mi_OpAt (N : Nat) (a0 : LU) (a1 : Int) : Option (Int × Int) :=
  (mi_within a1 0 (IntKind.wrap .i64 ((a0.length : Int) - 1))).bind fun r4 => bif (!r4) then some (0, 0) else (mi_OpAt_l1 N N (a0, a1, 0, 0, 0))

def mi_NeedsGap (N : Nat) (a0 : SToken) (a1 : SToken) : Option Bool :=
  (bif (a0.Text == []) then some true else (bif (a1.Text == []) then some true else (bif (a0.Kind == 2) then some true else (bif (a0.Kind == 1) then some true else (some (a1.Kind == 1)))))).bind fun y2 => bif y2 then some false else ((ix a0.Text (IntKind.wrap .i64 ((a0.Text.length : Int) - 1))).bind fun b5 => (ix a1.Text 0).bind fun b6 => ((mi_IsWordByte (IntKind.wrap .i64 ((b5).toNat : Int))).bind fun r21 => bif r21 then (mi_IsWordByte (IntKind.wrap .i64 ((b6).toNat : Int))).bind fun r22 => some r22 else (some false)).bind fun y20 => bif y20 then some true else ((bif (a0.Kind == 3) then (mi_IsWordByte (IntKind.wrap .i64 ((b6).toNat : Int))).bind fun r25 => bif r25 then some true else (some ((IntKind.wrap .i64 ((b6).toNat : Int)) == 46)) else (some false)).bind fun y24 => bif y24 then some true else ((bif (a0.Kind == 6) then some (a1.Kind == 32) else (some false)).bind fun y26 => bif y26 then some true else ((mi_isSignKind a0.Kind).bind fun r28 => bif (!r28) then some false else ((cat a0.Text a1.Text).bind fun s31 => (mi_OpAt N s31 0).bind fun r32 => some (decide (r32.2 > (a0.Text.length : Int))))))))

structure Rec6 where
  mi_unaryDoc : STree → SPos → Option SDoc
  mi_kidDoc : STree → Int → SPos → Option SDoc
  mi_listDoc : LS → Option SDoc
  mi_bareDoc : STree → SPos → Option SDoc
  mi_exprDoc : STree → SPos → Option SDoc

def mi_unaryDoc_k1 (N : Nat) (R : Rec6) : (STree × SPos × LU) → Option SDoc
  | (a0, a1, y15) => (mi_text y15).bind fun r19 => (R.mi_kidDoc a0 0 a1).bind fun r20 => (mi_cat [r19, r20]).bind fun r21 => some r21
def mi_unaryDoc_F (N : Nat) (R : Rec6) (a0 : STree) (a1 : SPos) : Option SDoc :=
  (mi_speller__kid N a0 0 a1 false [] []).bind fun r4 => (mi_SpellOf a0.op).bind fun r6 => (mi_sign a0.op).bind fun r25 => (ix r4.1 0).bind fun e26 => (mi_NeedsGap N r25 e26).bind fun r27 => bif r27 then (cat r6 ([32] : LU)).bind fun s29 => mi_unaryDoc_k1 N R (a0, a1, s29) else (mi_unaryDoc_k1 N R (a0, a1, r6))

def mi_kidDoc_F (N : Nat) (R : Rec6) (a0 : STree) (a1 : Int) (a2 : SPos) : Option SDoc :=
  (mi_tree__node N a0).bind fun r2 => (mi_KidPos r2 a1 a2).bind fun r4 => (mi_isTarget r2 a1).bind fun r12 => bif r12 then (ix a0.kids a1).bind fun e15 => (R.mi_bareDoc e15 r4).bind fun r16 => some r16 else ((ix a0.kids a1).bind fun e19 => (R.mi_exprDoc e19 r4).bind fun r20 => some r20)

def mi_listDoc_k2 (N : Nat) (R : Rec6) (kb1 : (LS × Int × LO) → Option SDoc) : (Int × LS × STree × LO) → Option SDoc
  | (y121, a0, e189, y196) => (mi_atTop y121).bind fun r200 => (R.mi_exprDoc e189 r200).bind fun r201 => (app 64 y196 [r201]).bind fun x202 => kb1 (a0, (IntKind.wrap .i64 (y121 + 1)), x202)
def mi_listDoc_l1 (N : Nat) (R : Rec6) : Nat → (LS × Int × LO) → Option SDoc
  | 0, _ => none
  | n1 + 1, (a0, y121, y122) => bif (decide (y121 < (a0.length : Int))) then (ix a0 y121).bind fun e189 => bif (decide (y121 > 0)) then (mi_text [44]).bind fun r206 => Option.bind mi_line fun r207 => (app 64 y122 [r206, r207]).bind fun x208 => mi_listDoc_k2 N R (mi_listDoc_l1 N R n1) (y121, a0, e189, x208) else (mi_listDoc_k2 N R (mi_listDoc_l1 N R n1) (y121, a0, e189, y122)) else ((mi_cat y122).bind fun r212 => (mi_nest r212).bind fun r213 => (mi_group r213).bind fun r214 => some r214)
def mi_listDoc_F (N : Nat) (R : Rec6) (a0 : LS) : Option SDoc :=
  mi_listDoc_l1 N R N (a0, 0, [])

def mi_bareDoc_k2 (N : Nat) (R : Rec6) : (STree × SPos × Bool) → Option SDoc
  | (a0, a1, y102) => bif y102 then (cat a0.text ([40] : LU)).bind fun s108 => (mi_text s108).bind fun r109 => (R.mi_listDoc a0.kids).bind fun r110 => (mi_text [41]).bind fun r111 => (mi_cat [r109, r110, r111]).bind fun r112 => some r112 else (bif (a0.kind == 9) then (mi_SpellOf a0.op).bind fun r117 => (mi_text r117).bind fun r118 => (R.mi_kidDoc a0 0 a1).bind fun r119 => (mi_cat [r118, r119]).bind fun r120 => some r120 else (bif (a0.kind == 10) then (R.mi_kidDoc a0 0 a1).bind fun r125 => (mi_SpellOf a0.op).bind fun r126 => (mi_text r126).bind fun r127 => (mi_cat [r125, r127]).bind fun r128 => some r128 else (bif (a0.kind == 6) then (mi_text [36]).bind fun r132 => (R.mi_kidDoc a0 0 a1).bind fun r133 => (mi_cat [r132, r133]).bind fun r134 => some r134 else (bif (a0.kind == 11) then (R.mi_unaryDoc a0 a1).bind fun r136 => some r136 else (bif (a0.kind == 14) then (R.mi_kidDoc a0 0 a1).bind fun r143 => (mi_text [32, 63, 32]).bind fun r144 => (R.mi_kidDoc a0 1 a1).bind fun r145 => (mi_text [32, 58, 32]).bind fun r146 => (R.mi_kidDoc a0 2 a1).bind fun r147 => (mi_cat [r143, r144, r145, r146, r147]).bind fun r148 => some r148 else (bif (a0.kind == 13) then bif (decide ((a0.kids.length : Int) > 1)) then (mi_text [40]).bind fun r164 => (R.mi_listDoc a0.kids).bind fun r165 => (cat ([41, 32, 105, 110, 32] : LU) a0.text).bind fun s166 => (mi_text s166).bind fun r167 => (mi_cat [r164, r165, r167]).bind fun r168 => some r168 else ((R.mi_kidDoc a0 0 a1).bind fun r173 => (cat ([32, 105, 110, 32] : LU) a0.text).bind fun s174 => (mi_text s174).bind fun r175 => (mi_cat [r173, r175]).bind fun r176 => some r176) else ((R.mi_kidDoc a0 0 a1).bind fun r179 => (R.mi_kidDoc a0 1 a1).bind fun r180 => (bif (a0.kind == 12) then some (a0.op == 99) else (some false)).bind fun y201 => bif y201 then (mi_text [32]).bind fun r204 => (mi_cat [r179, r204, r180]).bind fun r205 => some r205 else ((bif (a0.kind == 12) then bif (a0.op == 45) then some true else (some (a0.op == 44)) else (some false)).bind fun y206 => bif y206 then (mi_SpellOf a0.op).bind fun r214 => (cat ([32] : LU) r214).bind fun s215 => (mi_text s215).bind fun r216 => Option.bind mi_line fun r217 => (mi_cat [r179, r216, r217, r180]).bind fun r218 => (mi_nest r218).bind fun r219 => (mi_group r219).bind fun r220 => some r220 else ((mi_SpellOf a0.op).bind fun r226 => (cat ([32] : LU) r226).bind fun s227 => (cat s227 ([32] : LU)).bind fun s228 => (mi_text s228).bind fun r229 => (mi_cat [r179, r229, r180]).bind fun r230 => some r230)))))))))
def mi_bareDoc_k1 (N : Nat) (R : Rec6) : (STree × SPos × Bool) → Option SDoc
  | (a0, a1, y89) => bif y89 then (mi_text a0.text).bind fun r91 => some r91 else (bif (a0.kind == 5) then (cat a0.text ([91] : LU)).bind fun s97 => (mi_text s97).bind fun r98 => (R.mi_listDoc a0.kids).bind fun r99 => (mi_text [93]).bind fun r100 => (mi_cat [r98, r99, r100]).bind fun r101 => some r101 else (bif (a0.kind == 7) then mi_bareDoc_k2 N R (a0, a1, (a0.kind == 7)) else (mi_bareDoc_k2 N R (a0, a1, (a0.kind == 8)))))
def mi_bareDoc_F (N : Nat) (R : Rec6) (a0 : STree) (a1 : SPos) : Option SDoc :=
  bif (a0.kind == 1) then mi_bareDoc_k1 N R (a0, a1, (a0.kind == 1)) else (bif (a0.kind == 2) then mi_bareDoc_k1 N R (a0, a1, (a0.kind == 2)) else (bif (a0.kind == 3) then mi_bareDoc_k1 N R (a0, a1, (a0.kind == 3)) else (mi_bareDoc_k1 N R (a0, a1, (a0.kind == 4)))))

def mi_exprDoc_F (N : Nat) (R : Rec6) (a0 : STree) (a1 : SPos) : Option SDoc :=
  (mi_tree__node N a0).bind fun r9 => (mi_Fits r9 a1).bind fun r10 => bif r10 then (R.mi_bareDoc a0 a1).bind fun r12 => some r12 else ((mi_text [40]).bind fun r18 => Option.bind mi_Top fun r19 => (R.mi_bareDoc a0 r19).bind fun r20 => (mi_text [41]).bind fun r21 => (mi_cat [r18, r20, r21]).bind fun r22 => some r22)
def scc6 : Nat → Rec6
  | 0 => ⟨fun _ _ => none, fun _ _ _ => none, fun _ => none, fun _ _ => none, fun _ _ => none⟩
  | N + 1 => ⟨fun a0 a1 => mi_unaryDoc_F N (scc6 N) a0 a1, fun a0 a1 a2 => mi_kidDoc_F N (scc6 N) a0 a1 a2, fun a0 => mi_listDoc_F N (scc6 N) a0, fun a0 a1 => mi_bareDoc_F N (scc6 N) a0 a1, fun a0 a1 => mi_exprDoc_F N (scc6 N) a0 a1⟩
def mi_unaryDoc (N : Nat) (a0 : STree) (a1 : SPos) : Option SDoc := (scc6 N).mi_unaryDoc a0 a1
def mi_kidDoc (N : Nat) (a0 : STree) (a1 : Int) (a2 : SPos) : Option SDoc := (scc6 N).mi_kidDoc a0 a1 a2
def mi_listDoc (N : Nat) (a0 : LS) : Option SDoc := (scc6 N).mi_listDoc a0
def mi_bareDoc (N : Nat) (a0 : STree) (a1 : SPos) : Option SDoc := (scc6 N).mi_bareDoc a0 a1
def mi_exprDoc (N : Nat) (a0 : STree) (a1 : SPos) : Option SDoc := (scc6 N).mi_exprDoc a0 a1

def mi_topDoc (N : Nat) (a0 : STree) : Option SDoc :=
  Option.bind mi_Top fun r3 => (mi_exprDoc N a0 r3).bind fun r4 => some r4

structure Rec7 where
  mi_doc__flat : SDoc → Option (LU × Bool)

def mi_doc__flat_l1 (N : Nat) (R : Rec7) : Nat → (SDoc × Int × LU) → Option (LU × Bool)
  | 0, _ => none
  | n1 + 1, (a0, y53, y54) => bif (decide (y53 < (a0.kids.length : Int))) then (ix a0.kids y53).bind fun e76 => (R.mi_doc__flat e76).bind fun r78 => bif (!r78.2) then some ([], false) else ((app 1 y54 r78.1).bind fun x80 => (mi_doc__flat_l1 N R n1) (a0, (IntKind.wrap .i64 (y53 + 1)), x80)) else (some (y54, true))
def mi_doc__flat_F (N : Nat) (R : Rec7) (a0 : SDoc) : Option (LU × Bool) :=
  bif (a0.kind == 1) then some (a0.text, true) else (bif (a0.kind == 2) then some ([32], true) else (bif (a0.kind == 3) then some ([], false) else (mi_doc__flat_l1 N R N (a0, 0, []))))
def scc7 : Nat → Rec7
  | 0 => ⟨fun _ => none⟩
  | N + 1 => ⟨fun a0 => mi_doc__flat_F N (scc7 N) a0⟩
def mi_doc__flat (N : Nat) (a0 : SDoc) : Option (LU × Bool) := (scc7 N).mi_doc__flat a0

def mi_HeadOf_k3 (N : Nat) (kb2 : (STree × Int × LLU) → Option LU) : (STree × Int × LLU) → Option LU
  | (r12, y203, y232) => kb2 (r12, (IntKind.wrap .i64 (y203 + 1)), y232)
def mi_HeadOf_l2 (N : Nat) : Nat → (STree × Int × LLU) → Option LU
  | 0, _ => none
  | n2 + 1, (r12, y203, y204) => bif (decide (y203 < (r12.kids.length : Int))) then (ix r12.kids y203).bind fun e234 => bif (e234.kind != 33) then (mi_topDoc N e234).bind fun r237 => (mi_doc__flat N r237).bind fun r238 => (app 16 y204 [r238.1]).bind fun x240 => mi_HeadOf_k3 N (mi_HeadOf_l2 N n2) (r12, y203, x240) else (mi_HeadOf_k3 N (mi_HeadOf_l2 N n2) (r12, y203, y204)) else ((m_strings_Join y204).bind fun r242 => some r242)
def mi_HeadOf_k1 (N : Nat) : (STree × Bool) → Option LU
  | (r12, y130) => bif y130 then mi_HeadOf_l2 N N (r12, 0, []) else (some [])
def mi_HeadOf (N : Nat) (a0 : LN) (a1 : Int) : Option LU :=
  ((mi_TreeOk N a0).bind fun r9 => bif (!r9) then some true else ((mi_within a1 0 (IntKind.wrap .i64 ((a0.length : Int) - 1))).bind fun r10 => some (!r10))).bind fun y8 => bif y8 then some [] else ((mi_treeAt N a0 a1).bind fun r12 => bif (r12.kind == 40) then some [66, 69, 71, 73, 78] else (bif (r12.kind == 41) then some [69, 78, 68] else (bif (r12.kind == 44) then (mi_headOf N r12).bind fun r129 => some r129 else (bif (r12.kind == 42) then mi_HeadOf_k1 N (r12, (r12.kind == 42)) else (mi_HeadOf_k1 N (r12, (r12.kind == 43)))))))

def ml_eqIntS_l1 (N : Nat) : Nat → ((List Int) × (List Int) × Int) → Option Bool
  | 0, _ => none
  | n1 + 1, (a0, a1, y35) => bif (decide (y35 < (a0.length : Int))) then (ix a0 y35).bind fun e51 => (ix a1 y35).bind fun e52 => bif (e51 != e52) then some false else ((ml_eqIntS_l1 N n1) (a0, a1, (IntKind.wrap .i64 (y35 + 1)))) else (some true)
def ml_eqIntS (N : Nat) (a0 : List Int) (a1 : List Int) : Option Bool :=
  bif ((a0.length : Int) != (a1.length : Int)) then some false else (ml_eqIntS_l1 N N (a0, a1, 0))

def ml_eqNode (N : Nat) (a0 : SNode) (a1 : SNode) : Option Bool :=
  bif (a0.Kind != a1.Kind) then some false else (bif (a0.Op != a1.Op) then some false else (bif (!(a0.Text == a1.Text)) then some false else (bif (!(a0.Other == a1.Other)) then some false else ((ml_eqIntS N a0.Kids a1.Kids).bind fun r4 => bif (!r4) then some false else (some true)))))

def ml_eqNodeS_l1 (N : Nat) : Nat → (LN × LN × Int) → Option Bool
  | 0, _ => none
  | n1 + 1, (a0, a1, y51) => bif (decide (y51 < (a0.length : Int))) then (ix a0 y51).bind fun e74 => (ix a1 y51).bind fun e75 => (ml_eqNode N e74 e75).bind fun r76 => bif (!r76) then some false else ((ml_eqNodeS_l1 N n1) (a0, a1, (IntKind.wrap .i64 (y51 + 1)))) else (some true)
def ml_eqNodeS (N : Nat) (a0 : LN) (a1 : LN) : Option Bool :=
  bif ((a0.length : Int) != (a1.length : Int)) then some false else (ml_eqNodeS_l1 N N (a0, a1, 0))

def ml_FnExactHeadOf (N : Nat) (a0 : LN) (a1 : Int) : Option Bool :=
  (ml_szNodeS N a0 1048576).bind fun r2 => bif (decide (r2 < 0)) then some true else ((ml_toNodeS N a0).bind fun r5 => (ms_HeadOf N r5 a1).bind fun r6 => (ml_toNodeS N a0).bind fun r8 => (mi_HeadOf N r8 a1).bind fun r10 => bif (!(r10 == r6)) then some false else ((ml_toNodeS N a0).bind fun r17 => (ml_eqNodeS N r8 r17).bind fun r18 => bif (!r18) then some false else (some true)))

end Go.Proofs.Tryz

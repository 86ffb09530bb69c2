/-
  Models of the functions that this seat reaches.
-/
import Derived.Test.YtkfcajnnbhahoaaGreatDoorFTab
import Derived.Test.YtkfcajnnbhahoaaGreatDoorFCore6
namespace Go.Proofs.Tryz
open Go.Av
set_option maxRecDepth 100000
set_option maxHeartbeats 8000000
set_option linter.unusedSimpArgs false
set_option linter.unusedVariables false

def tab_builtins : List (List UInt8) := [[97, 116, 97, 110, 50], [99, 108, 111, 115, 101], [99, 111, 115], [101, 120, 112], [103, 115, 117, 98], [105, 110, 100, 101, 120], [105, 110, 116], [108, 101, 110, 103, 116, 104], [108, 111, 103], [109, 97, 116, 99, 104], [114, 97, 110, 100], [115, 105, 110], [115, 112, 108, 105, 116], [115, 112, 114, 105, 110, 116, 102], [115, 113, 114, 116], [115, 114, 97, 110, 100], [115, 117, 98], [115, 117, 98, 115, 116, 114], [115, 121, 115, 116, 101, 109], [116, 111, 108, 111, 119, 101, 114], [116, 111, 117, 112, 112, 101, 114]]
def tab_keywords : List (List UInt8) := [[66, 69, 71, 73, 78], [69, 78, 68], [102, 117, 110, 99, 116, 105, 111, 110], [105, 102], [101, 108, 115, 101], [119, 104, 105, 108, 101], [102, 111, 114], [100, 111], [98, 114, 101, 97, 107], [99, 111, 110, 116, 105, 110, 117, 101], [110, 101, 120, 116], [101, 120, 105, 116], [114, 101, 116, 117, 114, 110], [100, 101, 108, 101, 116, 101], [105, 110], [112, 114, 105, 110, 116], [112, 114, 105, 110, 116, 102]]
def tab_signs : List (List UInt8) := [[123], [125], [40], [41], [91], [93], [44], [59], [43, 61], [45, 61], [42, 61], [47, 61], [37, 61], [94, 61], [124, 124], [38, 38], [33, 126], [61, 61], [60, 61], [62, 61], [33, 61], [43, 43], [45, 45], [62, 62], [61], [43], [45], [42], [47], [37], [94], [33], [62], [60], [124], [63], [58], [126], [36]]
def GG : Nat → Option (List V)
  | 0 => some (tab_builtins.map V.s)
  | 1 => some (tab_keywords.map V.s)
  | 2 => some (tab_signs.map V.s)
  | 6 => some (Lib.pow10Tab.map (numV .u64))
  | _ => none
def GS (l : List Nat) (g : Nat) : Option (List V) := bif l.contains g then GG g else none

theorem AC.gs {f : FuncId} {vs : List V} {H : Hp} {r : V} {H1 : Hp} {l l1 : List Nat} (h : AC Tryz.prog (GS l) f vs H r H1) (hs : (l.all fun g => l1.contains g) = true) : AC Tryz.prog (GS l1) f vs H r H1 := by
  refine Go.Av.AC.mono h fun g cs hg => ?_
  unfold GS at hg ⊢
  cases hc : l.contains g with
  | false => rw [hc] at hg; cases hg
  | true =>
    rw [hc] at hg
    have := List.all_eq_true.1 hs g (List.contains_iff_mem.1 hc)
    rw [this]
    exact hg

theorem mix : Tryz.prog.follows .mixedOrders = true := by kernel_rfl

theorem wR {G : Nat → Option (List V)} {ops : Array Oper} {draw : Bool} {T0 : List V} {H0 : Hp} {Q : St → Prop} (n q : Nat) {i : Nat} {T : List V} {H : Hp} {Es : List (Bool × Eff)} (k : W Tryz.prog G ops draw T0 H0 (i + n) (aftE D G ops n q i T H).T (aftE D G ops n q i T H).H (Es ++ (aftE D G ops n q i T H).Es) Q) (h : (runE D G ops n q i T H).isSome = true := by kernel_rfl) : W Tryz.prog G ops draw T0 H0 i T H Es Q := W.run Dk n q h k
theorem cU {G : Nat → Option (List V)} {L : Option Nat} (n q : Nat) (T' : List V) (H' : Hp) {id : Nat} {l : List Oper} {draw : Bool} {c : Code} {T : List V} {H : Hp} {Q : Exit → St → Prop} (k : CO L Tryz.prog G c ⟨T', H'⟩ Q) (h : cuC D G l.toArray draw n q T H T' H' = (true, T', some H') := by kernel_rfl) : CO L Tryz.prog G (.seq (.region id l.toArray draw) c) ⟨T, H⟩ Q := cu Dk mix n q T' H' h k
theorem cE {G : Nat → Option (List V)} {L : Option Nat} (n q : Nat) (T' : List V) (H' : Hp) {id : Nat} {l : List Oper} {draw : Bool} {T : List V} {H : Hp} {Q : Exit → St → Prop} (hQ : ∀ st, Weak st ⟨T', H'⟩ → Q .normal st) (h : cuC D G l.toArray draw n q T H T' H' = (true, T', some H') := by kernel_rfl) : CO L Tryz.prog G (.region id l.toArray draw) ⟨T, H⟩ Q := ce Dk mix n q T' H' h hQ

theorem cV {G : Nat → Option (List V)} {L : Option Nat} (q : Nat) {id : Nat} {l : List Oper} {draw : Bool} {c : Code} {T : List V} {H : Hp} {Q : Exit → St → Prop} (k : CO L Tryz.prog G c ⟨(aftE D G l.toArray l.toArray.size q 0 T H).T, (aftE D G l.toArray l.toArray.size q 0 T H).H⟩ Q) (h : lzB D G l.toArray draw q T H = true := by kernel_rfl) : CO L Tryz.prog G (.seq (.region id l.toArray draw) c) ⟨T, H⟩ Q := cv Dk mix q k h
theorem cK {G : Nat → Option (List V)} {L : Option Nat} (q : Nat) {ι : Type} {J : ι → St} {R : ι → Prop} {id : Nat} {l : List Oper} {draw : Bool} {T : List V} {H : Hp} {Q : Exit → St → Prop} (hk : ∀ i, R i → ∀ st, Weak st (J i) → Q .normal st) (i : ι) (hi : R i) (m : Ren) (ks : List Nat) (h : jnC m ks (lzB D G l.toArray draw q T H) (aftE D G l.toArray l.toArray.size q 0 T H).T (aftE D G l.toArray l.toArray.size q 0 T H).H = (true, (J i).T, some (J i).H) := by kernel_rfl) : CO L Tryz.prog G (.region id l.toArray draw) ⟨T, H⟩ Q := ck Dk mix q hk i hi m ks h
theorem cC {G : Nat → Option (List V)} {L : Option Nat} (n q : Nat) {id : Nat} {l : List Oper} {draw : Bool} {c : Code} {T : List V} {H : Hp} {Q : Exit → St → Prop} {fid : FuncId} {vs : List V} {rc : V} (hA : AC Tryz.prog G fid vs [] rc []) (hcf : callOk Tryz.prog fid) (k : CO L Tryz.prog G c ⟨(ccR D G l.toArray n q rc T H).T, (ccR D G l.toArray n q rc T H).H⟩ Q) (h : ccC D G l.toArray draw n q rc T H = (true, some (fid, vs, []), rc) := by kernel_rfl) : CO L Tryz.prog G (.seq (.region id l.toArray draw) c) ⟨T, H⟩ Q := cc Dk mix n q hA hcf k h

theorem wD {G : Nat → Option (List V)} {ops : Array Oper} {draw : Bool} {T0 : List V} {H0 : Hp} {i : Nat} {T : List V} {H : Hp} {Es : List (Bool × Eff)} {Q : St → Prop} {fid : FuncId} {vs : List V} {Hc Hc' : Hp} {rc : V} (h : AC Tryz.prog G fid vs Hc rc Hc') (hcf : callOk Tryz.prog fid) (q m : Ren) {Z : List (Nat × List (List V))} (N : List Nat) (hZ : LayOk H Z) (k : W Tryz.prog G ops draw T0 H0 (i + 1) (setO T (dstW ops i) (rc.rn m)) (keepH m Hc' ++ hrem (Z.map (·.1) ++ q.map (·.1)) H) (Es ++ [(true, { v := rc.rn m, C := Z.map (·.1) ++ q.map (·.1), new := keepH m Hc', N := N })]) Q) (hn : (namesOk q m (Z.map (·.1)) N && nodupH Hc') = true := by kernel_rfl) (hc : callW G ops q Z i T H = some (fid, vs, Hc) := by kernel_rfl) : W Tryz.prog G ops draw T0 H0 i T H Es Q := W.call h hcf q m N hZ hn hc k
theorem wC {G : Nat → Option (List V)} {ops : Array Oper} {draw : Bool} {T0 : List V} {H0 : Hp} {i : Nat} {T : List V} {H : Hp} {Es : List (Bool × Eff)} {Q : St → Prop} {fid : FuncId} {vs : List V} {Hc Hc' : Hp} {rc : V} (h : AC Tryz.prog G fid vs Hc rc Hc') (hcf : callOk Tryz.prog fid) (q m : Ren) (N : List Nat) (k : W Tryz.prog G ops draw T0 H0 (i + 1) (setO T (dstW ops i) (rc.rn m)) (keepH m Hc' ++ hrem (([] : List (Nat × List (List V))).map (·.1) ++ q.map (·.1)) H) (Es ++ [(true, { v := rc.rn m, C := ([] : List (Nat × List (List V))).map (·.1) ++ q.map (·.1), new := keepH m Hc', N := N })]) Q) (hn : (namesOk q m (([] : List (Nat × List (List V))).map (·.1)) N && nodupH Hc') = true := by kernel_rfl) (hc : callW G ops q [] i T H = some (fid, vs, Hc) := by kernel_rfl) : W Tryz.prog G ops draw T0 H0 i T H Es Q := W.call h hcf q m N (show LayOk _ [] from trivial) hn hc k
theorem w0 {G : Nat → Option (List V)} {ops : Array Oper} {draw : Bool} {T0 : List V} {H0 : Hp} {i : Nat} {T : List V} {H : Hp} {Es : List (Bool × Eff)} {Q : St → Prop} {fid : FuncId} {vs : List V} {rc : V} (h : AC Tryz.prog G fid vs [] rc []) (hcf : callOk Tryz.prog fid) (k : W Tryz.prog G ops draw T0 H0 (i + 1) (setO T (dstW ops i) rc) H (Es ++ [(true, { v := rc })]) Q) (hc : callW G ops [] [] i T H = some (fid, vs, []) := by kernel_rfl) (hr : rc.rn [] = rc := by rfl) : W Tryz.prog G ops draw T0 H0 i T H Es Q := W.call0 h hcf hr hc k
theorem wN {G : Nat → Option (List V)} {ops : Array Oper} {draw : Bool} {T0 : List V} {H0 : Hp} {i : Nat} {T : List V} {H : Hp} {Es : List (Bool × Eff)} {Q : St → Prop} {α : Type} (enc : α → List V) (l : List α) (R : List Nat) (k : W Tryz.prog G ops draw T0 H0 (i + 1) (setO T (dstW ops i) (V.i l.length)) H (Es ++ [(true, { v := V.i l.length, R := R })]) Q) (h : lenW G ops i T H = some (l.map enc, R) := by kernel_rfl) (hs : ((opW ops i T).bind (stepV D H (ev G T))).isSome = true := by kernel_rfl) : W Tryz.prog G ops draw T0 H0 i T H Es Q := W.len Dk enc l R h hs k
theorem wX {G : Nat → Option (List V)} {ops : Array Oper} {draw : Bool} {T0 : List V} {H0 : Hp} {i : Nat} {T : List V} {H : Hp} {Es : List (Bool × Eff)} {Q : St → Prop} {α : Type} (enc : α → List V) {l : List α} {n : Int} {x : α} (hx : ix l n = some x) (sz : Nat) (k : W Tryz.prog G ops draw T0 H0 (i + 1) (setO T (dstW ops i) (.el (enc x))) H (Es ++ [(true, { v := .el (enc x) })]) Q) (h : ixD D G ops i T = some (l.map enc, n, sz) := by kernel_rfl) (hs : (enc x).length = sz := by kernel_rfl) : W Tryz.prog G ops draw T0 H0 i T H Es Q := W.ixD Dk enc hx sz h hs k


structure SNode where
  Kind : Int
  Op : Int
  Text : List UInt8
  Other : List UInt8
  Kids : List Int
  deriving DecidableEq, Inhabited

def eSN (b : Bool) (x : SNode) : List V := [V.i x.Kind, V.i x.Op, V.s x.Text, V.s x.Other, .sl false b (x.Kids.map eNI)]

theorem sh_eSN (b : Bool) (x : SNode) : V.shareL (eSN b x) = eSN false x := by
  simp only [eSN, V.shareL, V.share, V.i, V.s, V.b, shareR_map (enc := eNI) (enc' := eNI) (fun _ => rfl)]

structure STree where
  kind : Int
  op : Int
  text : List UInt8
  other : List UInt8
  kids : List STree

instance : Inhabited STree := ⟨⟨0, 0, [], [], []⟩⟩

theorem STree.lt (x : STree) (y : STree) (h : y ∈ x.kids) : SizeOf.sizeOf y < SizeOf.sizeOf x := by
  have := List.sizeOf_lt_of_mem h
  cases x
  simp only [STree.mk.sizeOf_spec] at *
  omega

def eST (x : STree) : List V := [V.i x.kind, V.i x.op, V.s x.text, V.s x.other, .sl false false (x.kids.attach.map fun y => eST y.1)]
termination_by SizeOf.sizeOf x
decreasing_by exact STree.lt x y.1 y.2

theorem encSTree_eq (x : STree) : eST x = [V.i x.kind, V.i x.op, V.s x.text, V.s x.other, .sl false false (x.kids.map eST)] := by
  rw [eST]
  simp only [List.attach_map_val (f := eST), List.map_attach_eq_pmap, List.pmap_eq_map]

theorem share_encSTree (x : STree) : V.shareL (eST x) = eST x := by
  have hk : x.kids.map (V.shareL ∘ eST) = x.kids.map eST := List.map_congr_left fun y hy => share_encSTree y
  rw [encSTree_eq]
  simp only [V.shareL, V.share, V.shareR_eq, V.i, V.s, V.b, List.map_map]
  rw [hk]
termination_by SizeOf.sizeOf x
decreasing_by exact STree.lt x y hy

structure SToken where
  Kind : Int
  Text : List UInt8
  At : Int
  deriving DecidableEq, Inhabited

structure SForm where
  op : Bool
  text : Bool
  other : Bool
  least : Int
  most : Int
  deriving DecidableEq, Inhabited

structure SBind where
  Name : List UInt8
  Val : Int
  deriving DecidableEq, Inhabited

def encSBind (x : SBind) : List V := [V.s x.Name, V.i x.Val]

abbrev LU := List UInt8
abbrev LLU := List (List UInt8)
abbrev LN := List SNode
abbrev LS := List STree
abbrev wr (x : Int) : Int := IntKind.wrap .i64 x
abbrev sL {α : Type} (f : α → List V) (x : List α) : V := .sl false false (x.map f)
abbrev vX {α : Type} (t k : Nat) (f : α → List V) (x : List α) : Ob := .vec false t k (x.map f)
abbrev vN (x : LLU) : Ob := .vec false 9 1 (x.map eNS)
theorem lO {H : Hp} : LayOk H [] := trivial

def ml_big (a0 : LU) : Option Bool :=
  some (decide ((a0.length : Int) > 1048576))

def ms_l1New_l1 (N : Nat) : Nat → (LU × Int × Int) → Option (LU × Int × Int)
  | 0, _ => none
  | n1 + 1, (a0, y29, y30) => (bif (decide (y30 < (a0.length : Int))) then some (decide (y30 < 4000)) else (some false)).bind fun y40 => bif y40 then (ix a0 y30).bind fun e44 => (ms_l1New_l1 N n1) (a0, (bits .and .i64 (IntKind.wrap .i64 ((IntKind.wrap .i64 ((IntKind.wrap .i64 (y29 * 131)) + (IntKind.wrap .i64 ((e44).toNat : Int)))) + 7)) 1073741823), (IntKind.wrap .i64 (y30 + 1))) else (some (a0, 0, y29))
def ms_l1New (N : Nat) (a0 : LU) : Option (LU × Int × Int) :=
  ms_l1New_l1 N N (a0, (IntKind.wrap .i64 (10101 + (a0.length : Int))), 0)

def ms_l1Byte_k1 (pa : LU) : (Int × Int × Int) → Option (Int × Int × Int)
  | (pc, y3, y4) => some (y3, y4, (IntKind.wrap .i64 ((IntKind.wrap .i64 (pc * 6364136223846793005)) + 1442695040888963407)))
def ms_l1Byte (pa : LU) (pb : Int) (pc : Int) : Option (Int × Int × Int) :=
  bif (decide (pb < (pa.length : Int))) then (ix pa pb).bind fun e6 => ms_l1Byte_k1 pa (pc, (bits .and .i64 (IntKind.wrap .i64 ((bits .and .i64 (bits .xor .i64 (Int.fdiv (IntKind.wrap .i64 ((IntKind.wrap .i64 (pc * 6364136223846793005)) + 1442695040888963407)) (2 ^ (min 33 64))) (Int.fdiv (IntKind.wrap .i64 ((IntKind.wrap .i64 (pc * 6364136223846793005)) + 1442695040888963407)) (2 ^ (min 45 64)))) 255) + (IntKind.wrap .i64 ((e6).toNat : Int)))) 255), (IntKind.wrap .i64 (pb + 1))) else (ms_l1Byte_k1 pa (pc, (bits .and .i64 (bits .xor .i64 (Int.fdiv (IntKind.wrap .i64 ((IntKind.wrap .i64 (pc * 6364136223846793005)) + 1442695040888963407)) (2 ^ (min 33 64))) (Int.fdiv (IntKind.wrap .i64 ((IntKind.wrap .i64 (pc * 6364136223846793005)) + 1442695040888963407)) (2 ^ (min 45 64)))) 255), pb))

def ms_l1Below (a1 : Int) (pa : LU) (pb : Int) (pc : Int) : Option (Int × Int × Int) :=
  bif (decide (a1 ≤ 0)) then some (0, pb, pc) else (bif (decide (a1 ≤ 256)) then (ms_l1Byte pa pb pc).bind fun r7 => (remO r7.1 a1).bind fun x8 => some (x8, r7.2.1, r7.2.2) else ((ms_l1Byte pa pb pc).bind fun r10 => (ms_l1Byte pa r10.2.1 r10.2.2).bind fun r12 => (ms_l1Byte pa r12.2.1 r12.2.2).bind fun r14 => (ms_l1Byte pa r14.2.1 r14.2.2).bind fun r16 => (remO (IntKind.wrap .i64 ((IntKind.wrap .i64 ((IntKind.wrap .i64 ((IntKind.wrap .i64 (r10.1 * 16777216)) + (IntKind.wrap .i64 (r12.1 * 65536)))) + (IntKind.wrap .i64 (r14.1 * 256)))) + r16.1)) a1).bind fun x18 => some (x18, r16.2.1, r16.2.2)))

def ms_l1Once (a1 : Int) (pa : LU) (pb : Int) (pc : Int) : Option (Bool × Int × Int) :=
  (ms_l1Below a1 pa pb pc).bind fun r2 => some ((r2.1 == 0), r2.2.1, r2.2.2)

def ms_l1Pick (a1 : LLU) (pa : LU) (pb : Int) (pc : Int) : Option (LU × Int × Int) :=
  (ms_l1Below (a1.length : Int) pa pb pc).bind fun r3 => (ix a1 r3.1).bind fun e4 => some (e4, r3.2.1, r3.2.2)

def ms_l4Num (pa : LU) (pb : Int) (pc : Int) : Option (LU × Int × Int) :=
  (ms_l1Pick [[48], [49], [52, 50], [51, 46, 53], [46, 53], [55, 46], [49, 101, 51], [50, 69, 45, 52], [49, 48, 46, 50, 53, 101, 43, 49]] pa pb pc).bind fun r2 => some (r2.1, r2.2.1, r2.2.2)

def ms_l4Str (pa : LU) (pb : Int) (pc : Int) : Option (LU × Int × Int) :=
  (ms_l1Pick [[34, 34], [34, 97, 34], [34, 120, 32, 121, 34], [34, 113, 92, 34, 113, 34], [34, 92, 110, 34], [34, 35, 110, 111, 34], [34, 47, 34]] pa pb pc).bind fun r2 => some (r2.1, r2.2.1, r2.2.2)

def ms_l4Ere (pa : LU) (pb : Int) (pc : Int) : Option (LU × Int × Int) :=
  (ms_l1Pick [[47, 97, 47], [47, 94, 120, 43, 36, 47], [47, 97, 92, 47, 98, 47], [47, 61, 47], [47, 32, 47], [47, 91, 48, 45, 57, 93, 47]] pa pb pc).bind fun r2 => some (r2.1, r2.2.1, r2.2.2)

def ms_l2Word (pa : LU) (pb : Int) (pc : Int) : Option (LU × Int × Int) :=
  (ms_l1Pick [[120], [121], [110], [105], [97, 114, 114], [78, 82], [70, 83], [116, 111, 116, 97, 108], [97, 49], [95, 116], [99, 111, 117, 110, 116]] pa pb pc).bind fun r2 => some (r2.1, r2.2.1, r2.2.2)

def ms_l7Leaf_k1 (pa : LU) : (Int × Int) → Option (LN × Int × Int)
  | (y11, y12) => (ms_l2Word pa y11 y12).bind fun r14 => some ([(⟨1, 0, r14.1, [], []⟩ : SNode)], r14.2.1, r14.2.2)
def ms_l7Leaf (pa : LU) (pb : Int) (pc : Int) : Option (LN × Int × Int) :=
  (ms_l1Below 7 pa pb pc).bind fun r16 => bif (r16.1 == 0) then (ms_l4Num pa r16.2.1 r16.2.2).bind fun r18 => some ([(⟨2, 0, r18.1, [], []⟩ : SNode)], r18.2.1, r18.2.2) else (bif (r16.1 == 1) then (ms_l4Str pa r16.2.1 r16.2.2).bind fun r20 => some ([(⟨3, 0, r20.1, [], []⟩ : SNode)], r20.2.1, r20.2.2) else (bif (r16.1 == 2) then (ms_l1Once 2 pa r16.2.1 r16.2.2).bind fun r22 => bif r22.1 then (ms_l4Ere pa r22.2.1 r22.2.2).bind fun r24 => some ([(⟨4, 0, r24.1, [], []⟩ : SNode)], r24.2.1, r24.2.2) else (ms_l7Leaf_k1 pa (r22.2.1, r22.2.2)) else (ms_l7Leaf_k1 pa (r16.2.1, r16.2.2))))

def ms_l6Shift_l2 (N : Nat) (kb1 : (LN × Int × Int × LN) → Option LN) : Nat → (LN × Int × Int × LN × SNode × Int × (List Int)) → Option LN
  | 0, _ => none
  | n2 + 1, (a0, a1, y869, y870, e1198, y1267, y1268) => (ix a0 y869).bind fun e1290 => bif (decide (y1267 < (e1290.Kids.length : Int))) then (ix a0 y869).bind fun e1300 => (ix e1300.Kids y1267).bind fun e1301 => (app 8 y1268 [(IntKind.wrap .i64 (e1301 + a1))]).bind fun x1302 => (ms_l6Shift_l2 N kb1 n2) (a0, a1, y869, y870, e1198, (IntKind.wrap .i64 (y1267 + 1)), x1302) else ((app 72 y870 [(⟨e1198.Kind, e1198.Op, e1198.Text, e1198.Other, y1268⟩ : SNode)]).bind fun x1304 => kb1 (a0, a1, (IntKind.wrap .i64 (y869 + 1)), x1304))
def ms_l6Shift_l1 (N : Nat) : Nat → (LN × Int × Int × LN) → Option LN
  | 0, _ => none
  | n1 + 1, (a0, a1, y869, y870) => bif (decide (y869 < (a0.length : Int))) then (ix a0 y869).bind fun e1198 => ms_l6Shift_l2 N (ms_l6Shift_l1 N n1) N (a0, a1, y869, y870, e1198, 0, []) else (some y870)
def ms_l6Shift (N : Nat) (a0 : LN) (a1 : Int) : Option LN :=
  ms_l6Shift_l1 N N (a0, a1, 0, [])

def ms_l6Make_l1 (N : Nat) : Nat → ((List LN) × SNode × Int × LN × (List Int)) → Option LN
  | 0, _ => none
  | n1 + 1, (a1, a0, y71, y72, y73) => bif (decide (y71 < (a1.length : Int))) then (ix a1 y71).bind fun e104 => (ms_l6Shift N e104 (y72.length : Int)).bind fun r105 => (app 72 y72 r105).bind fun x106 => (app 8 y73 [(IntKind.wrap .i64 ((x106.length : Int) - 1))]).bind fun x108 => (ms_l6Make_l1 N n1) (a1, a0, (IntKind.wrap .i64 (y71 + 1)), x106, x108) else ((app 72 y72 [(⟨a0.Kind, a0.Op, a0.Text, a0.Other, y73⟩ : SNode)]).bind fun x110 => some x110)
def ms_l6Make (N : Nat) (a0 : SNode) (a1 : List LN) : Option LN :=
  ms_l6Make_l1 N N (a1, a0, 0, [], [])

def ms_l1PickInt (a1 : List Int) (pa : LU) (pb : Int) (pc : Int) : Option (Int × Int × Int) :=
  (ms_l1Below (a1.length : Int) pa pb pc).bind fun r3 => (ix a1 r3.1).bind fun e4 => some (e4, r3.2.1, r3.2.2)

def ms_l7BinOp (pa : LU) (pb : Int) (pc : Int) : Option (Int × Int × Int) :=
  (ms_l1PickInt [60, 57, 58, 59, 55, 56, 56, 99, 99, 99, 63, 48, 47, 50, 62, 62, 49, 67, 46, 45, 44] pa pb pc).bind fun r2 => some (r2.1, r2.2.1, r2.2.2)

structure Rec1 where
  ms_l7List : Int → Int → Int → LU → Int → Int → Option ((List LN) × Int × Int)
  ms_l7Lvalue : Int → LU → Int → Int → Option (LN × Int × Int)
  ms_l7Expr : Int → LU → Int → Int → Option (LN × Int × Int)

def ms_l7List_l1 (N : Nat) (R : Rec1) (pa : LU) : Nat → (Int × Int × Int × Int × (List LN)) → Option ((List LN) × Int × Int)
  | 0, _ => none
  | n1 + 1, (a3, y45, y46, y47, y48) => bif (decide (y45 > 0)) then (R.ms_l7Expr a3 pa y46 y47).bind fun r67 => (app 24 y48 [r67.1]).bind fun x68 => (ms_l7List_l1 N R pa n1) (a3, (IntKind.wrap .i64 (y45 - 1)), r67.2.1, r67.2.2, x68) else (some (y48, y46, y47))
def ms_l7List_F (N : Nat) (R : Rec1) (a1 : Int) (a2 : Int) (a3 : Int) (pa : LU) (pb : Int) (pc : Int) : Option ((List LN) × Int × Int) :=
  (ms_l1Below (IntKind.wrap .i64 ((IntKind.wrap .i64 (a2 - a1)) + 1)) pa pb pc).bind fun r36 => ms_l7List_l1 N R pa N (a3, (IntKind.wrap .i64 (a1 + r36.1)), r36.2.1, r36.2.2, [])

def ms_l7Lvalue_F (N : Nat) (R : Rec1) (a1 : Int) (pa : LU) (pb : Int) (pc : Int) : Option (LN × Int × Int) :=
  (ms_l1Below 4 pa pb pc).bind fun r14 => bif (r14.1 == 0) then (ms_l2Word pa r14.2.1 r14.2.2).bind fun r18 => (R.ms_l7Expr (IntKind.wrap .i64 (a1 - 1)) pa r18.2.1 r18.2.2).bind fun r19 => (ms_l6Make N (⟨5, 0, r18.1, [], []⟩ : SNode) [r19.1]).bind fun r20 => some (r20, r19.2.1, r19.2.2) else (bif (r14.1 == 1) then (R.ms_l7Expr (IntKind.wrap .i64 (a1 - 2)) pa r14.2.1 r14.2.2).bind fun r23 => (ms_l6Make N (⟨6, 0, [], [], []⟩ : SNode) [r23.1]).bind fun r24 => some (r24, r23.2.1, r23.2.2) else ((ms_l2Word pa r14.2.1 r14.2.2).bind fun r26 => some ([(⟨1, 0, r26.1, [], []⟩ : SNode)], r26.2.1, r26.2.2)))

def ms_l7Expr_k1 (N : Nat) (R : Rec1) (pa : LU) : (Int × (Int × Int × Int) × Bool) → Option (LN × Int × Int)
  | (a1, r67, y96) => bif y96 then (ms_l1PickInt [56, 55, 61] pa r67.2.1 r67.2.2).bind fun r100 => (R.ms_l7Expr (IntKind.wrap .i64 (a1 - 1)) pa r100.2.1 r100.2.2).bind fun r101 => (ms_l6Make N (⟨11, r100.1, [], [], []⟩ : SNode) [r101.1]).bind fun r102 => some (r102, r101.2.1, r101.2.2) else (bif (r67.1 == 9) then (ms_l2Word pa r67.2.1 r67.2.2).bind fun r106 => (R.ms_l7List 1 2 (IntKind.wrap .i64 (a1 - 1)) pa r106.2.1 r106.2.2).bind fun r107 => (ms_l6Make N (⟨13, 0, r106.1, [], []⟩ : SNode) r107.1).bind fun r108 => some (r108, r107.2.1, r107.2.2) else (bif (r67.1 == 10) then (R.ms_l7Expr (IntKind.wrap .i64 (a1 - 1)) pa r67.2.1 r67.2.2).bind fun r113 => (R.ms_l7Expr (IntKind.wrap .i64 (a1 - 1)) pa r113.2.1 r113.2.2).bind fun r114 => (R.ms_l7Expr (IntKind.wrap .i64 (a1 - 1)) pa r114.2.1 r114.2.2).bind fun r115 => (ms_l6Make N (⟨14, 0, [], [], []⟩ : SNode) [r113.1, r114.1, r115.1]).bind fun r116 => some (r116, r115.2.1, r115.2.2) else (bif (r67.1 == 11) then (ms_l1PickInt [54, 38, 43] pa r67.2.1 r67.2.2).bind fun r121 => (R.ms_l7Lvalue (IntKind.wrap .i64 (a1 - 1)) pa r121.2.1 r121.2.2).bind fun r122 => (R.ms_l7Expr (IntKind.wrap .i64 (a1 - 1)) pa r122.2.1 r122.2.2).bind fun r123 => (ms_l6Make N (⟨15, r121.1, [], [], []⟩ : SNode) [r122.1, r123.1]).bind fun r124 => some (r124, r123.2.1, r123.2.2) else ((ms_l7BinOp pa r67.2.1 r67.2.2).bind fun r129 => (R.ms_l7Expr (IntKind.wrap .i64 (a1 - 1)) pa r129.2.1 r129.2.2).bind fun r130 => (R.ms_l7Expr (IntKind.wrap .i64 (a1 - 1)) pa r130.2.1 r130.2.2).bind fun r131 => (ms_l6Make N (⟨12, r129.1, [], [], []⟩ : SNode) [r130.1, r131.1]).bind fun r132 => some (r132, r131.2.1, r131.2.2)))))
def ms_l7Expr_F (N : Nat) (R : Rec1) (a1 : Int) (pa : LU) (pb : Int) (pc : Int) : Option (LN × Int × Int) :=
  bif (decide (a1 ≤ 0)) then (ms_l7Leaf pa pb pc).bind fun r4 => some (r4.1, r4.2.1, r4.2.2) else ((ms_l1Below 2 pa pb pc).bind fun r6 => (ms_l1Below 16 pa r6.2.1 r6.2.2).bind fun r67 => bif (r67.1 == 0) then (ms_l7Leaf pa r67.2.1 r67.2.2).bind fun r69 => some (r69.1, r69.2.1, r69.2.2) else (bif (r67.1 == 1) then (R.ms_l7Lvalue a1 pa r67.2.1 r67.2.2).bind fun r71 => some (r71.1, r71.2.1, r71.2.2) else (bif (r67.1 == 2) then (R.ms_l7Expr (IntKind.wrap .i64 (a1 - 1)) pa r67.2.1 r67.2.2).bind fun r74 => (ms_l6Make N (⟨6, 0, [], [], []⟩ : SNode) [r74.1]).bind fun r75 => some (r75, r74.2.1, r74.2.2) else (bif (r67.1 == 3) then (ms_l2Word pa r67.2.1 r67.2.2).bind fun r79 => (R.ms_l7List 0 3 (IntKind.wrap .i64 (a1 - 1)) pa r79.2.1 r79.2.2).bind fun r80 => (ms_l6Make N (⟨7, 0, r79.1, [], []⟩ : SNode) r80.1).bind fun r81 => some (r81, r80.2.1, r80.2.2) else (bif (r67.1 == 4) then (ms_l1Pick [[108, 101, 110, 103, 116, 104], [115, 117, 98, 115, 116, 114], [105, 110, 100, 101, 120], [105, 110, 116], [116, 111, 117, 112, 112, 101, 114]] pa r67.2.1 r67.2.2).bind fun r85 => (R.ms_l7List 0 3 (IntKind.wrap .i64 (a1 - 2)) pa r85.2.1 r85.2.2).bind fun r86 => (ms_l6Make N (⟨8, 0, r85.1, [], []⟩ : SNode) r86.1).bind fun r87 => some (r87, r86.2.1, r86.2.2) else (bif (r67.1 == 5) then (R.ms_l7Lvalue (IntKind.wrap .i64 (a1 - 1)) pa r67.2.1 r67.2.2).bind fun r90 => (ms_l6Make N (⟨9, (IntKind.wrap .i64 (51 + r6.1)), [], [], []⟩ : SNode) [r90.1]).bind fun r91 => some (r91, r90.2.1, r90.2.2) else (bif (r67.1 == 6) then (R.ms_l7Lvalue (IntKind.wrap .i64 (a1 - 1)) pa r67.2.1 r67.2.2).bind fun r94 => (ms_l6Make N (⟨10, (IntKind.wrap .i64 (51 + r6.1)), [], [], []⟩ : SNode) [r94.1]).bind fun r95 => some (r95, r94.2.1, r94.2.2) else (bif (r67.1 == 7) then ms_l7Expr_k1 N R pa (a1, r67, (r67.1 == 7)) else (ms_l7Expr_k1 N R pa (a1, r67, (r67.1 == 8)))))))))))
def scc1 : Nat → Rec1
  | 0 => ⟨fun _ _ _ _ _ _ => none, fun _ _ _ _ => none, fun _ _ _ _ => none⟩
  | N + 1 => ⟨fun a1 a2 a3 pa pb pc => ms_l7List_F N (scc1 N) a1 a2 a3 pa pb pc, fun a1 pa pb pc => ms_l7Lvalue_F N (scc1 N) a1 pa pb pc, fun a1 pa pb pc => ms_l7Expr_F N (scc1 N) a1 pa pb pc⟩
def ms_l7List (N : Nat) (a1 : Int) (a2 : Int) (a3 : Int) (pa : LU) (pb : Int) (pc : Int) : Option ((List LN) × Int × Int) := (scc1 N).ms_l7List a1 a2 a3 pa pb pc
def ms_l7Lvalue (N : Nat) (a1 : Int) (pa : LU) (pb : Int) (pc : Int) : Option (LN × Int × Int) := (scc1 N).ms_l7Lvalue a1 pa pb pc
def ms_l7Expr (N : Nat) (a1 : Int) (pa : LU) (pb : Int) (pc : Int) : Option (LN × Int × Int) := (scc1 N).ms_l7Expr a1 pa pb pc

def ms_l7Some_l1 (N : Nat) (pa : LU) : Nat → (Int × Int) → Option (LN × Int × Int)
  | 0, _ => none
  | n1 + 1, (pb, pc) => (ms_l1Below 4 pa pb pc).bind fun r9 => (ms_l7Expr N (IntKind.wrap .i64 (1 + r9.1)) pa r9.2.1 r9.2.2).bind fun r10 => bif (decide ((r10.1.length : Int) ≤ 60)) then some (r10.1, r10.2.1, r10.2.2) else ((ms_l7Some_l1 N pa n1) (r10.2.1, r10.2.2))
def ms_l7Some (N : Nat) (pa : LU) (pb : Int) (pc : Int) : Option (LN × Int × Int) :=
  ms_l7Some_l1 N pa N (pb, pc)

def ms_l7Simple_k1 (N : Nat) (pa : LU) : (Int × Int × Int) → Option (LN × Int × Int)
  | (a1, y48, y49) => (ms_l7Expr N a1 pa y48 y49).bind fun r52 => (ms_l6Make N (⟨20, 0, [], [], []⟩ : SNode) [r52.1]).bind fun r53 => some (r53, r52.2.1, r52.2.2)
def ms_l7Simple_k3 (N : Nat) (pa : LU) : ((Int × Int × Int) × LU × (List LN) × Int × Int) → Option (LN × Int × Int)
  | (r58, y69, y70, y71, y72) => (ms_l6Make N (⟨21, r58.1, [], y69, []⟩ : SNode) y70).bind fun r74 => some (r74, y71, y72)
def ms_l7Simple_k2 (N : Nat) (pa : LU) : (Int × (Int × Int × Int) × Bool) → Option (LN × Int × Int)
  | (a1, r55, y56) => bif y56 then (ms_l1Below 2 pa r55.2.1 r55.2.2).bind fun r58 => (ms_l7List N r58.1 3 a1 pa r58.2.1 r58.2.2).bind fun r60 => (ms_l1Once 3 pa r60.2.1 r60.2.2).bind fun r76 => bif r76.1 then (ms_l1Pick [[62], [62, 62], [124]] pa r76.2.1 r76.2.2).bind fun r78 => (ms_l7Expr N (IntKind.wrap .i64 (a1 - 1)) pa r78.2.1 r78.2.2).bind fun r81 => (app 24 r60.1 [r81.1]).bind fun x82 => ms_l7Simple_k3 N pa (r58, r78.1, x82, r81.2.1, r81.2.2) else (ms_l7Simple_k3 N pa (r58, [], r60.1, r76.2.1, r76.2.2)) else (bif (r55.1 == 2) then (ms_l1PickInt [22, 25, 26] pa r55.2.1 r55.2.2).bind fun r84 => some ([(⟨r84.1, 0, [], [], []⟩ : SNode)], r84.2.1, r84.2.2) else (bif (r55.1 == 3) then (ms_l1PickInt [23, 24] pa r55.2.1 r55.2.2).bind fun r88 => (ms_l7List N 0 1 a1 pa r88.2.1 r88.2.2).bind fun r89 => (ms_l6Make N (⟨r88.1, 0, [], [], []⟩ : SNode) r89.1).bind fun r90 => some (r90, r89.2.1, r89.2.2) else (bif (r55.1 == 4) then (ms_l2Word pa r55.2.1 r55.2.2).bind fun r94 => (ms_l7List N 0 2 (IntKind.wrap .i64 (a1 - 1)) pa r94.2.1 r94.2.2).bind fun r95 => (ms_l6Make N (⟨27, 0, r94.1, [], []⟩ : SNode) r95.1).bind fun r96 => some (r96, r95.2.1, r95.2.2) else (bif (r55.1 == 5) then (ms_l1Once 2 pa r55.2.1 r55.2.2).bind fun r98 => bif r98.1 then (ms_l1Pick [[35], [35, 32, 110, 111, 116, 101], [35, 120, 32, 61, 32, 49]] pa r98.2.1 r98.2.2).bind fun r100 => some ([(⟨34, 0, r100.1, [], []⟩ : SNode)], r100.2.1, r100.2.2) else (ms_l7Simple_k1 N pa (a1, r98.2.1, r98.2.2)) else (ms_l7Simple_k1 N pa (a1, r55.2.1, r55.2.2))))))
def ms_l7Simple (N : Nat) (a1 : Int) (pa : LU) (pb : Int) (pc : Int) : Option (LN × Int × Int) :=
  (ms_l1Below 9 pa pb pc).bind fun r55 => bif (r55.1 == 0) then ms_l7Simple_k2 N pa (a1, r55, (r55.1 == 0)) else (ms_l7Simple_k2 N pa (a1, r55, (r55.1 == 1)))

def ms_l7Maybe (N : Nat) (a1 : Int) (pa : LU) (pb : Int) (pc : Int) : Option (LN × Int × Int) :=
  (ms_l1Once 3 pa pb pc).bind fun r4 => bif r4.1 then some ([(⟨16, 0, [], [], []⟩ : SNode)], r4.2.1, r4.2.2) else ((ms_l7Expr N a1 pa r4.2.1 r4.2.2).bind fun r6 => some (r6.1, r6.2.1, r6.2.2))

structure Rec2 where
  ms_l7Block : Int → LU → Int → Int → Option (LN × Int × Int)
  ms_l7Stmt : Int → LU → Int → Int → Option (LN × Int × Int)

def ms_l7Block_l1 (N : Nat) (R : Rec2) (pa : LU) : Nat → (Int × Int × Int × Int × (List LN)) → Option (LN × Int × Int)
  | 0, _ => none
  | n1 + 1, (a1, y45, y46, y47, y48) => bif (decide (y45 > 0)) then (R.ms_l7Stmt a1 pa y46 y47).bind fun r67 => (app 24 y48 [r67.1]).bind fun x68 => (ms_l7Block_l1 N R pa n1) (a1, (IntKind.wrap .i64 (y45 - 1)), r67.2.1, r67.2.2, x68) else ((ms_l6Make N (⟨33, 0, [], [], []⟩ : SNode) y48).bind fun r70 => some (r70, y46, y47))
def ms_l7Block_F (N : Nat) (R : Rec2) (a1 : Int) (pa : LU) (pb : Int) (pc : Int) : Option (LN × Int × Int) :=
  (ms_l1Below 3 pa pb pc).bind fun r36 => ms_l7Block_l1 N R pa N (a1, r36.1, r36.2.1, r36.2.2, [])

def ms_l7Stmt_F (N : Nat) (R : Rec2) (a1 : Int) (pa : LU) (pb : Int) (pc : Int) : Option (LN × Int × Int) :=
  (bif (decide (a1 ≤ 0)) then some (true, pb, pc) else ((ms_l1Once 3 pa pb pc).bind fun r12 => some ((!r12.1), r12.2.1, r12.2.2))).bind fun (y9, y10, y11) => bif y9 then (ms_l7Simple N (if 2 < a1 then 2 else a1) pa y10 y11).bind fun r14 => some (r14.1, r14.2.1, r14.2.2) else ((ms_l1Below 6 pa y10 y11).bind fun r54 => bif (r54.1 == 0) then (ms_l7Expr N 1 pa r54.2.1 r54.2.2).bind fun r58 => (R.ms_l7Block (IntKind.wrap .i64 (a1 - 1)) pa r58.2.1 r58.2.2).bind fun r59 => (ms_l6Make N (⟨28, 0, [], [], []⟩ : SNode) [r58.1, r59.1]).bind fun r60 => some (r60, r59.2.1, r59.2.2) else (bif (r54.1 == 1) then (ms_l7Expr N 1 pa r54.2.1 r54.2.2).bind fun r65 => (R.ms_l7Block (IntKind.wrap .i64 (a1 - 1)) pa r65.2.1 r65.2.2).bind fun r66 => (R.ms_l7Block (IntKind.wrap .i64 (a1 - 1)) pa r66.2.1 r66.2.2).bind fun r67 => (ms_l6Make N (⟨28, 0, [], [], []⟩ : SNode) [r65.1, r66.1, r67.1]).bind fun r68 => some (r68, r67.2.1, r67.2.2) else (bif (r54.1 == 2) then (ms_l7Expr N 1 pa r54.2.1 r54.2.2).bind fun r72 => (R.ms_l7Block (IntKind.wrap .i64 (a1 - 1)) pa r72.2.1 r72.2.2).bind fun r73 => (ms_l6Make N (⟨29, 0, [], [], []⟩ : SNode) [r72.1, r73.1]).bind fun r74 => some (r74, r73.2.1, r73.2.2) else (bif (r54.1 == 3) then (R.ms_l7Block (IntKind.wrap .i64 (a1 - 1)) pa r54.2.1 r54.2.2).bind fun r78 => (ms_l7Expr N 1 pa r78.2.1 r78.2.2).bind fun r79 => (ms_l6Make N (⟨30, 0, [], [], []⟩ : SNode) [r78.1, r79.1]).bind fun r80 => some (r80, r79.2.1, r79.2.2) else (bif (r54.1 == 4) then (ms_l7Maybe N 2 pa r54.2.1 r54.2.2).bind fun r86 => (ms_l7Maybe N 1 pa r86.2.1 r86.2.2).bind fun r87 => (ms_l7Maybe N 1 pa r87.2.1 r87.2.2).bind fun r88 => (R.ms_l7Block (IntKind.wrap .i64 (a1 - 1)) pa r88.2.1 r88.2.2).bind fun r89 => (ms_l6Make N (⟨31, 0, [], [], []⟩ : SNode) [r86.1, r87.1, r88.1, r89.1]).bind fun r90 => some (r90, r89.2.1, r89.2.2) else ((ms_l1Once 2 pa r54.2.1 r54.2.2).bind fun r96 => bif r96.1 then (R.ms_l7Block (IntKind.wrap .i64 (a1 - 1)) pa r96.2.1 r96.2.2).bind fun r98 => some (r98.1, r98.2.1, r98.2.2) else ((ms_l2Word pa r96.2.1 r96.2.2).bind fun r103 => (ms_l2Word pa r103.2.1 r103.2.2).bind fun r104 => (R.ms_l7Block (IntKind.wrap .i64 (a1 - 1)) pa r104.2.1 r104.2.2).bind fun r105 => (ms_l6Make N (⟨32, 0, r103.1, r104.1, []⟩ : SNode) [r105.1]).bind fun r106 => some (r106, r105.2.1, r105.2.2))))))))
def scc2 : Nat → Rec2
  | 0 => ⟨fun _ _ _ _ => none, fun _ _ _ _ => none⟩
  | N + 1 => ⟨fun a1 pa pb pc => ms_l7Block_F N (scc2 N) a1 pa pb pc, fun a1 pa pb pc => ms_l7Stmt_F N (scc2 N) a1 pa pb pc⟩
def ms_l7Block (N : Nat) (a1 : Int) (pa : LU) (pb : Int) (pc : Int) : Option (LN × Int × Int) := (scc2 N).ms_l7Block a1 pa pb pc
def ms_l7Stmt (N : Nat) (a1 : Int) (pa : LU) (pb : Int) (pc : Int) : Option (LN × Int × Int) := (scc2 N).ms_l7Stmt a1 pa pb pc

def ms_l7Item_l1 (N : Nat) (pa : LU) : Nat → ((Int × Int × Int) × Int × Int × Int × (List LN)) → Option (LN × Int × Int)
  | 0, _ => none
  | n1 + 1, (r2, y205, y206, y207, y208) => bif (decide (y205 > 0)) then (ms_l2Word pa y206 y207).bind fun r231 => (app 24 y208 [[(⟨1, 0, r231.1, [], []⟩ : SNode)]]).bind fun x232 => (ms_l7Item_l1 N pa n1) (r2, (IntKind.wrap .i64 (y205 - 1)), r231.2.1, r231.2.2, x232) else ((ms_l1Pick [[102], [103], [109, 97, 120]] pa y206 y207).bind fun r237 => (ms_l7Block N (IntKind.wrap .i64 (1 + r2.1)) pa r237.2.1 r237.2.2).bind fun r238 => (app 24 y208 [r238.1]).bind fun x239 => (ms_l6Make N (⟨44, 0, r237.1, [], []⟩ : SNode) x239).bind fun r240 => some (r240, r238.2.1, r238.2.2))
def ms_l7Item (N : Nat) (pa : LU) (pb : Int) (pc : Int) : Option (LN × Int × Int) :=
  (ms_l1Below 2 pa pb pc).bind fun r2 => (ms_l1Below 8 pa r2.2.1 r2.2.2).bind fun r124 => bif (r124.1 == 0) then (ms_l1Below 2 pa r124.2.1 r124.2.2).bind fun r128 => (ms_l7Block N (IntKind.wrap .i64 (1 + r2.1)) pa r128.2.1 r128.2.2).bind fun r129 => (ms_l6Make N (⟨(IntKind.wrap .i64 (40 + r128.1)), 0, [], [], []⟩ : SNode) [r129.1]).bind fun r130 => some (r130, r129.2.1, r129.2.2) else (bif (r124.1 == 1) then (ms_l7Expr N (IntKind.wrap .i64 (1 + r2.1)) pa r124.2.1 r124.2.2).bind fun r133 => (ms_l6Make N (⟨42, 1, [], [], []⟩ : SNode) [r133.1]).bind fun r134 => some (r134, r133.2.1, r133.2.2) else (bif (r124.1 == 2) then (ms_l7Block N (IntKind.wrap .i64 (1 + r2.1)) pa r124.2.1 r124.2.2).bind fun r137 => (ms_l6Make N (⟨42, 2, [], [], []⟩ : SNode) [r137.1]).bind fun r138 => some (r138, r137.2.1, r137.2.2) else (bif (r124.1 == 3) then (ms_l7Expr N 1 pa r124.2.1 r124.2.2).bind fun r142 => (ms_l7Expr N 1 pa r142.2.1 r142.2.2).bind fun r143 => (ms_l6Make N (⟨43, 1, [], [], []⟩ : SNode) [r142.1, r143.1]).bind fun r144 => some (r144, r143.2.1, r143.2.2) else (bif (r124.1 == 4) then (ms_l7Expr N 1 pa r124.2.1 r124.2.2).bind fun r149 => (ms_l7Expr N 1 pa r149.2.1 r149.2.2).bind fun r150 => (ms_l7Block N (IntKind.wrap .i64 (1 + r2.1)) pa r150.2.1 r150.2.2).bind fun r151 => (ms_l6Make N (⟨43, 3, [], [], []⟩ : SNode) [r149.1, r150.1, r151.1]).bind fun r152 => some (r152, r151.2.1, r151.2.2) else (bif (r124.1 == 5) then (ms_l1Below 3 pa r124.2.1 r124.2.2).bind fun r194 => ms_l7Item_l1 N pa N (r2, r194.1, r194.2.1, r194.2.2, []) else (bif (r124.1 == 6) then (ms_l1Pick [[35, 32, 116, 111, 112], [35]] pa r124.2.1 r124.2.2).bind fun r242 => some ([(⟨34, 0, r242.1, [], []⟩ : SNode)], r242.2.1, r242.2.2) else ((ms_l7Expr N (IntKind.wrap .i64 (1 + r2.1)) pa r124.2.1 r124.2.2).bind fun r246 => (ms_l7Block N (IntKind.wrap .i64 (1 + r2.1)) pa r246.2.1 r246.2.2).bind fun r247 => (ms_l6Make N (⟨42, 3, [], [], []⟩ : SNode) [r246.1, r247.1]).bind fun r248 => some (r248, r247.2.1, r247.2.2))))))))

def ms_l7Program_l2 (N : Nat) (pa : LU) (kb1 : (Int × Int) → Option (LN × Int × Int)) : Nat → (Int × Int × Int × (List LN)) → Option (LN × Int × Int)
  | 0, _ => none
  | n2 + 1, (y117, y118, y119, y120) => bif (decide (y117 > 0)) then (ms_l7Item N pa y118 y119).bind fun r139 => (app 24 y120 [r139.1]).bind fun x140 => (ms_l7Program_l2 N pa kb1 n2) ((IntKind.wrap .i64 (y117 - 1)), r139.2.1, r139.2.2, x140) else ((ms_l6Make N (⟨45, 0, [], [], []⟩ : SNode) y120).bind fun r142 => bif (decide ((r142.length : Int) ≤ 220)) then some (r142, y118, y119) else (kb1 (y118, y119)))
def ms_l7Program_l1 (N : Nat) (pa : LU) : Nat → (Int × Int) → Option (LN × Int × Int)
  | 0, _ => none
  | n1 + 1, (pb, pc) => (ms_l1Below 4 pa pb pc).bind fun r108 => ms_l7Program_l2 N pa (ms_l7Program_l1 N pa n1) N (r108.1, r108.2.1, r108.2.2, [])
def ms_l7Program (N : Nat) (pa : LU) (pb : Int) (pc : Int) : Option (LN × Int × Int) :=
  ms_l7Program_l1 N pa N (pb, pc)

def ms_l7Any_k1 (N : Nat) (pa : LU) : ((Int × Int × Int) × Bool) → Option (LN × Int × Int)
  | (r9, y10) => bif y10 then (ms_l7Some N pa r9.2.1 r9.2.2).bind fun r12 => some (r12.1, r12.2.1, r12.2.2) else (bif (r9.1 == 2) then (ms_l7Stmt N 2 pa r9.2.1 r9.2.2).bind fun r14 => some (r14.1, r14.2.1, r14.2.2) else ((ms_l7Program N pa r9.2.1 r9.2.2).bind fun r16 => some (r16.1, r16.2.1, r16.2.2)))
def ms_l7Any (N : Nat) (pa : LU) (pb : Int) (pc : Int) : Option (LN × Int × Int) :=
  (ms_l1Below 5 pa pb pc).bind fun r9 => bif (r9.1 == 0) then ms_l7Any_k1 N pa (r9, (r9.1 == 0)) else (ms_l7Any_k1 N pa (r9, (r9.1 == 1)))

def ms_l6Bent_k1 (N : Nat) (pa : LU) : (LN × Int × Int) → Option (LN × Int × Int)
  | (y31, y32, y33) => some (y31, y32, y33)
def ms_l6Bent (N : Nat) (pa : LU) (pb : Int) (pc : Int) : Option (LN × Int × Int) :=
  (ms_l7Any N pa pb pc).bind fun r2 => (ms_l1Below (r2.1.length : Int) pa r2.2.1 r2.2.2).bind fun r4 => (ms_l1Below 12 pa r4.2.1 r4.2.2).bind fun r35 => bif (r35.1 == 0) then (cut r2.1 0 r4.1).bind fun l37 => some (l37, r35.2.1, r35.2.2) else (bif (r35.1 == 1) then (ix r2.1 r4.1).bind fun e39 => (ms_l1PickInt [(-1), r4.1, 0, 99] pa r35.2.1 r35.2.2).bind fun r43 => (app 8 e39.Kids [r43.1]).bind fun x44 => (upd r2.1 r4.1 (⟨e39.Kind, e39.Op, e39.Text, e39.Other, x44⟩ : SNode)).bind fun x45 => ms_l6Bent_k1 N pa (x45, r43.2.1, r43.2.2) else (bif (r35.1 == 2) then (ix r2.1 r4.1).bind fun e47 => bif (decide ((e47.Kids.length : Int) > 0)) then (ix r2.1 r4.1).bind fun e49 => (ms_l1Below (IntKind.wrap .i64 (r4.1 + 1)) pa r35.2.1 r35.2.2).bind fun r53 => (ix e49.Kids 0).bind fun e54 => (upd e49.Kids 0 (IntKind.wrap .i64 (r53.1 - 1))).bind fun x55 => (upd r2.1 r4.1 (⟨e49.Kind, e49.Op, e49.Text, e49.Other, x55⟩ : SNode)).bind fun x56 => ms_l6Bent_k1 N pa (x56, r53.2.1, r53.2.2) else (ms_l6Bent_k1 N pa (r2.1, r35.2.1, r35.2.2)) else (bif (r35.1 == 3) then (app 72 r2.1 r2.1).bind fun x59 => some (x59, r35.2.1, r35.2.2) else (ms_l6Bent_k1 N pa (r2.1, r35.2.1, r35.2.2)))))

def ms_l7Spoilt_k1 (N : Nat) (pa : LU) : (LN × Int × Int) → Option (LN × Int × Int)
  | (y33, y34, y35) => some (y33, y34, y35)
def ms_l7Spoilt (N : Nat) (pa : LU) (pb : Int) (pc : Int) : Option (LN × Int × Int) :=
  (ms_l7Any N pa pb pc).bind fun r2 => (ms_l1Below (r2.1.length : Int) pa r2.2.1 r2.2.2).bind fun r4 => (ms_l1Below 14 pa r4.2.1 r4.2.2).bind fun r37 => bif (r37.1 == 0) then (ms_l1Below 47 pa r37.2.1 r37.2.2).bind fun r41 => (ix r2.1 r4.1).bind fun e42 => (upd r2.1 r4.1 (⟨r41.1, e42.Op, e42.Text, e42.Other, e42.Kids⟩ : SNode)).bind fun x43 => ms_l7Spoilt_k1 N pa (x43, r41.2.1, r41.2.2) else (bif (r37.1 == 1) then (ms_l1PickInt [0, 1, 56, 99, 54, 51, (-1)] pa r37.2.1 r37.2.2).bind fun r47 => (ix r2.1 r4.1).bind fun e48 => (upd r2.1 r4.1 (⟨e48.Kind, r47.1, e48.Text, e48.Other, e48.Kids⟩ : SNode)).bind fun x49 => ms_l7Spoilt_k1 N pa (x49, r47.2.1, r47.2.2) else (bif (r37.1 == 2) then (ms_l1Pick [[], [120], [105, 102], [108, 101, 110, 103, 116, 104], [49], [47]] pa r37.2.1 r37.2.2).bind fun r53 => (ix r2.1 r4.1).bind fun e54 => (upd r2.1 r4.1 (⟨e54.Kind, e54.Op, r53.1, e54.Other, e54.Kids⟩ : SNode)).bind fun x55 => ms_l7Spoilt_k1 N pa (x55, r53.2.1, r53.2.2) else (bif (r37.1 == 3) then (ms_l1Pick [[], [62], [120]] pa r37.2.1 r37.2.2).bind fun r59 => (ix r2.1 r4.1).bind fun e60 => (upd r2.1 r4.1 (⟨e60.Kind, e60.Op, e60.Text, r59.1, e60.Kids⟩ : SNode)).bind fun x61 => ms_l7Spoilt_k1 N pa (x61, r59.2.1, r59.2.2) else (bif (r37.1 == 4) then (ms_l6Bent N pa r37.2.1 r37.2.2).bind fun r63 => some (r63.1, r63.2.1, r63.2.2) else (ms_l7Spoilt_k1 N pa (r2.1, r37.2.1, r37.2.2))))))

def ms_l10Draw (N : Nat) (pa : LU) (pb : Int) (pc : Int) : Option (LN × Int × Int) :=
  (ms_l1Once 10 pa pb pc).bind fun r6 => bif r6.1 then (ms_l7Spoilt N pa r6.2.1 r6.2.2).bind fun r8 => some (r8.1, r8.2.1, r8.2.2) else ((ms_l7Some N pa r6.2.1 r6.2.2).bind fun r10 => some (r10.1, r10.2.1, r10.2.2))

structure Rec3 where
  ms_l27Expr : Int → LU → Int → Int → Option (LN × Int × Int)

def ms_l27Expr_k2 (N : Nat) (R : Rec3) (pa : LU) : (Int × Int × Int × Int × Bool) → Option (LN × Int × Int)
  | (a1, y5, y6, y7, y29) => bif y29 then (ms_l1Pick [[48], [49], [50], [55], [49, 48], [57, 57, 57, 57, 57, 57, 57, 57, 57], [51, 46, 53]] pa y6 y7).bind fun r31 => some ([(⟨2, 0, r31.1, [], []⟩ : SNode)], r31.2.1, r31.2.2) else (bif (y5 == 3) then (ms_l1PickInt [56, 61, 55] pa y6 y7).bind fun r35 => (R.ms_l27Expr (IntKind.wrap .i64 (a1 - 1)) pa r35.2.1 r35.2.2).bind fun r36 => (ms_l6Make N (⟨11, r35.1, [], [], []⟩ : SNode) [r36.1]).bind fun r37 => some (r37, r36.2.1, r36.2.2) else (bif (y5 == 4) then (R.ms_l27Expr (IntKind.wrap .i64 (a1 - 1)) pa y6 y7).bind fun r42 => (R.ms_l27Expr (IntKind.wrap .i64 (a1 - 1)) pa r42.2.1 r42.2.2).bind fun r43 => (R.ms_l27Expr (IntKind.wrap .i64 (a1 - 1)) pa r43.2.1 r43.2.2).bind fun r44 => (ms_l6Make N (⟨14, 0, [], [], []⟩ : SNode) [r42.1, r43.1, r44.1]).bind fun r45 => some (r45, r44.2.1, r44.2.2) else ((ms_l1PickInt [55, 56, 57, 59, 63, 47, 49, 45, 44, 55, 50, 62, 48, 58] pa y6 y7).bind fun r47 => (R.ms_l27Expr (IntKind.wrap .i64 (a1 - 1)) pa r47.2.1 r47.2.2).bind fun r51 => (R.ms_l27Expr (IntKind.wrap .i64 (a1 - 1)) pa r51.2.1 r51.2.2).bind fun r52 => (ms_l6Make N (⟨12, r47.1, [], [], []⟩ : SNode) [r51.1, r52.1]).bind fun r53 => some (r53, r52.2.1, r52.2.2))))
def ms_l27Expr_k1 (N : Nat) (R : Rec3) (pa : LU) : (Int × Int × Int × Int) → Option (LN × Int × Int)
  | (a1, y5, y6, y7) => bif (y5 == 0) then (ms_l1Pick [[120], [121], [110]] pa y6 y7).bind fun r28 => some ([(⟨1, 0, r28.1, [], []⟩ : SNode)], r28.2.1, r28.2.2) else (bif (y5 == 1) then ms_l27Expr_k2 N R pa (a1, y5, y6, y7, (y5 == 1)) else (ms_l27Expr_k2 N R pa (a1, y5, y6, y7, (y5 == 2))))
def ms_l27Expr_F (N : Nat) (R : Rec3) (a1 : Int) (pa : LU) (pb : Int) (pc : Int) : Option (LN × Int × Int) :=
  (ms_l1Below 10 pa pb pc).bind fun r2 => bif (decide (a1 ≤ 0)) then (ms_l1Below 3 pa r2.2.1 r2.2.2).bind fun r55 => ms_l27Expr_k1 N R pa (a1, r55.1, r55.2.1, r55.2.2) else (ms_l27Expr_k1 N R pa (a1, r2.1, r2.2.1, r2.2.2))
def scc3 : Nat → Rec3
  | 0 => ⟨fun _ _ _ _ => none⟩
  | N + 1 => ⟨fun a1 pa pb pc => ms_l27Expr_F N (scc3 N) a1 pa pb pc⟩
def ms_l27Expr (N : Nat) (a1 : Int) (pa : LU) (pb : Int) (pc : Int) : Option (LN × Int × Int) := (scc3 N).ms_l27Expr a1 pa pb pc

structure Rec4 where
  ms_l39Expr : Int → LU → Int → Int → Option (LN × Int × Int)

def ms_l39Expr_k1 (N : Nat) (R : Rec4) (pa : LU) : (Int × (Int × Int × Int) × Bool) → Option (LN × Int × Int)
  | (a1, r21, y22) => bif y22 then (R.ms_l39Expr (IntKind.wrap .i64 (a1 - 1)) pa r21.2.1 r21.2.2).bind fun r25 => (ms_l6Make N (⟨11, 61, [], [], []⟩ : SNode) [r25.1]).bind fun r26 => some (r26, r25.2.1, r25.2.2) else (bif (r21.1 == 2) then (ms_l1PickInt [45, 44] pa r21.2.1 r21.2.2).bind fun r31 => (R.ms_l39Expr (IntKind.wrap .i64 (a1 - 1)) pa r31.2.1 r31.2.2).bind fun r32 => (R.ms_l39Expr (IntKind.wrap .i64 (a1 - 1)) pa r32.2.1 r32.2.2).bind fun r33 => (ms_l6Make N (⟨12, r31.1, [], [], []⟩ : SNode) [r32.1, r33.1]).bind fun r34 => some (r34, r33.2.1, r33.2.2) else ((ms_l27Expr N 2 pa r21.2.1 r21.2.2).bind fun r36 => some (r36.1, r36.2.1, r36.2.2)))
def ms_l39Expr_F (N : Nat) (R : Rec4) (a1 : Int) (pa : LU) (pb : Int) (pc : Int) : Option (LN × Int × Int) :=
  bif (decide (a1 ≤ 0)) then (ms_l27Expr N 1 pa pb pc).bind fun r4 => some (r4.1, r4.2.1, r4.2.2) else ((ms_l1Below 4 pa pb pc).bind fun r21 => bif (r21.1 == 0) then ms_l39Expr_k1 N R pa (a1, r21, (r21.1 == 0)) else (ms_l39Expr_k1 N R pa (a1, r21, (r21.1 == 1))))
def scc4 : Nat → Rec4
  | 0 => ⟨fun _ _ _ _ => none⟩
  | N + 1 => ⟨fun a1 pa pb pc => ms_l39Expr_F N (scc4 N) a1 pa pb pc⟩
def ms_l39Expr (N : Nat) (a1 : Int) (pa : LU) (pb : Int) (pc : Int) : Option (LN × Int × Int) := (scc4 N).ms_l39Expr a1 pa pb pc

def ms_l39Draw (N : Nat) (pa : LU) (pb : Int) (pc : Int) : Option (LN × Int × Int) :=
  (ms_l1Once 5 pa pb pc).bind fun r6 => bif r6.1 then (ms_l10Draw N pa r6.2.1 r6.2.2).bind fun r8 => some (r8.1, r8.2.1, r8.2.2) else ((ms_l1Below 4 pa r6.2.1 r6.2.2).bind fun r11 => (ms_l39Expr N (IntKind.wrap .i64 (1 + r11.1)) pa r11.2.1 r11.2.2).bind fun r12 => some (r12.1, r12.2.1, r12.2.2))

def ms_DrawPushNot (N : Nat) (a0 : LU) : Option LN :=
  (ms_l1New N a0).bind fun r3 => (ms_l39Draw N r3.1 r3.2.1 r3.2.2).bind fun r4 => some r4.1

def mi_within (a0 : Int) (a1 : Int) (a2 : Int) : Option Bool :=
  (bif (decide (a0 ≥ a1)) then some (decide (a0 ≤ a2)) else (some false)).bind fun y1 => some y1

def mi_startsOf_r2 (N : Nat) (kb1 : (LN × Int × (List Int)) → Option ((List Int) × Bool)) (a0 : LN) (y203 : Int) (e322 : SNode) (y204 : List Int) : List Int → Int → Option ((List Int) × Bool)
  | [], y345 => (ix y204 y203).bind fun e357 => (upd y204 y203 (IntKind.wrap .i64 (y345 + 1))).bind fun x358 => kb1 (a0, (IntKind.wrap .i64 (y203 + 1)), x358)
  | e339 :: es340, y345 => (bif (decide (y345 < 0)) then some true else (some (e339 != y345))).bind fun y352 => bif y352 then some ([], false) else ((ix y204 e339).bind fun e354 => (mi_startsOf_r2 N kb1 a0 y203 e322 y204 es340) (IntKind.wrap .i64 (e354 - 1)))
def mi_startsOf_l1 (N : Nat) : Nat → (LN × Int × (List Int)) → Option ((List Int) × Bool)
  | 0, _ => none
  | n1 + 1, (a0, y203, y204) => bif (decide (y203 < (a0.length : Int))) then (ix a0 y203).bind fun e322 => mi_startsOf_r2 N (mi_startsOf_l1 N n1) a0 y203 e322 y204 (e322.Kids.reverse) (IntKind.wrap .i64 (y203 - 1)) else ((ix y204 (IntKind.wrap .i64 ((a0.length : Int) - 1))).bind fun e360 => some (y204, (e360 == 0)))
def mi_startsOf (N : Nat) (a0 : LN) : Option ((List Int) × Bool) :=
  (mi_within (a0.length : Int) 1 400).bind fun r4 => bif (!r4) then some ([], false) else ((mk 8 0 (a0.length : Int)).bind fun x6 => mi_startsOf_l1 N N (a0, 0, x6))

def mi_ShapeOk (N : Nat) (a0 : LN) : Option Bool :=
  (mi_startsOf N a0).bind fun r2 => some r2.2

def mi_IsExpr (a0 : Int) : Option Bool :=
  (mi_within a0 1 15).bind fun r2 => some r2

def mi_IsLetter (a0 : Int) : Option Bool :=
  (bif (decide (a0 ≥ 97)) then bif (decide (a0 ≤ 122)) then some true else (bif (decide (a0 ≥ 65)) then bif (decide (a0 ≤ 90)) then some true else (some (a0 == 95)) else (some (a0 == 95))) else (bif (decide (a0 ≥ 65)) then bif (decide (a0 ≤ 90)) then some true else (some (a0 == 95)) else (some (a0 == 95)))).bind fun y1 => some y1

def mi_IsDigit (a0 : Int) : Option Bool :=
  (bif (decide (a0 ≥ 48)) then some (decide (a0 ≤ 57)) else (some false)).bind fun y1 => some y1

def mi_IsWordByte (a0 : Int) : Option Bool :=
  ((mi_IsLetter a0).bind fun r4 => bif r4 then some true else ((mi_IsDigit a0).bind fun r5 => some r5)).bind fun y3 => some y3

def mi_NameShape_l1 (N : Nat) : Nat → (LU × Int) → Option Bool
  | 0, _ => none
  | n1 + 1, (a0, y35) => bif (decide (y35 < (a0.length : Int))) then (ix a0 y35).bind fun b51 => (mi_IsWordByte (IntKind.wrap .i64 ((b51).toNat : Int))).bind fun r52 => bif (!r52) then some false else ((mi_NameShape_l1 N n1) (a0, (IntKind.wrap .i64 (y35 + 1)))) else (((mi_within (a0.length : Int) 1 12).bind fun r57 => bif r57 then (ix a0 0).bind fun b58 => (mi_IsLetter (IntKind.wrap .i64 ((b58).toNat : Int))).bind fun r59 => some r59 else (some false)).bind fun y56 => some y56)
def mi_NameShape (N : Nat) (a0 : LU) : Option Bool :=
  mi_NameShape_l1 N N (a0, 0)

def m_slices_Index_string_l1 (N : Nat) : Nat → (LLU × LU × Int) → Option Int
  | 0, _ => none
  | n1 + 1, (a0, a1, y19) => bif (decide (y19 < (a0.length : Int))) then (ix a0 y19).bind fun e28 => bif (a1 == e28) then some y19 else ((m_slices_Index_string_l1 N n1) (a0, a1, (IntKind.wrap .i64 (y19 + 1)))) else (some (-1))
def m_slices_Index_string (N : Nat) (a0 : LLU) (a1 : LU) : Option Int :=
  m_slices_Index_string_l1 N N (a0, a1, 0)

def mi_KeywordOf (N : Nat) (a0 : LU) : Option Int :=
  (m_slices_Index_string N tab_keywords a0).bind fun r2 => bif (decide (r2 < 0)) then some 0 else (some (IntKind.wrap .i64 (10 + r2)))

def m_slices_Contains_string (N : Nat) (a0 : LLU) (a1 : LU) : Option Bool :=
  (m_slices_Index_string N a0 a1).bind fun r2 => some (decide (r2 ≥ 0))

def mi_IsBuiltin (N : Nat) (a0 : LU) : Option Bool :=
  (m_slices_Contains_string N tab_builtins a0).bind fun r2 => some r2

def mi_NameOk (N : Nat) (a0 : LU) : Option Bool :=
  ((mi_NameShape N a0).bind fun r5 => bif r5 then (mi_KeywordOf N a0).bind fun r6 => bif (r6 == 0) then (mi_IsBuiltin N a0).bind fun r7 => some (!r7) else (some false) else (some false)).bind fun y4 => some y4

def m_stringslite_IndexByte (a0 : LU) (a1 : Int) : Option Int :=
  some (Go.Lib.indexByte a0 (Int.toNat a1).toUInt8)

def m_stringslite_Index (a0 : LU) : Option Int :=
  bif (([10] : LU) == a0) then some 0 else ((ix ([10] : LU) 0).bind fun b7 => (m_stringslite_IndexByte a0 ((b7).toNat : Int)).bind fun r8 => some r8)

def m_strings_Index (a0 : LU) : Option Int :=
  (m_stringslite_Index a0).bind fun r2 => some r2

def m_strings_Contains (a0 : LU) : Option Bool :=
  (m_strings_Index a0).bind fun r2 => some (decide (r2 ≥ 0))

def mi_byteAt (a0 : LU) (a1 : Int) : Option Int :=
  (mi_within a1 0 (IntKind.wrap .i64 ((a0.length : Int) - 1))).bind fun r4 => bif (!r4) then some (-1) else ((ix a0 a1).bind fun b6 => some (IntKind.wrap .i64 ((b6).toNat : Int)))

def mi_digitsEnd_l1 (N : Nat) : Nat → (LU × Int) → Option Int
  | 0, _ => none
  | n1 + 1, (a0, a1) => (mi_byteAt a0 a1).bind fun r33 => (mi_IsDigit r33).bind fun r34 => bif r34 then (mi_digitsEnd_l1 N n1) (a0, (IntKind.wrap .i64 (a1 + 1))) else (some a1)
def mi_digitsEnd (N : Nat) (a0 : LU) (a1 : Int) : Option Int :=
  mi_digitsEnd_l1 N N (a0, a1)

def mi_NumEnd_k2 (N : Nat) : Int → Option Int
  | y11 => some y11
def mi_NumEnd_k3 (N : Nat) : (LU × Int × Int) → Option Int
  | (a0, y11, y31) => (mi_digitsEnd N a0 y31).bind fun r33 => bif (decide (r33 > y31)) then some r33 else (mi_NumEnd_k2 N y11)
def mi_NumEnd_k1 (N : Nat) : (LU × Int × Int) → Option Int
  | (a0, y11, y12) => bif (y12 == 0) then some (-1) else ((mi_byteAt a0 y11).bind fun r26 => (bif (r26 == 101) then some true else (some (r26 == 69))).bind fun y27 => bif y27 then (mi_byteAt a0 (IntKind.wrap .i64 (y11 + 1))).bind fun r35 => (bif (r35 == 43) then some true else (some (r35 == 45))).bind fun y36 => bif y36 then mi_NumEnd_k3 N (a0, y11, (IntKind.wrap .i64 ((IntKind.wrap .i64 (y11 + 1)) + 1))) else (mi_NumEnd_k3 N (a0, y11, (IntKind.wrap .i64 (y11 + 1)))) else (mi_NumEnd_k2 N y11))
def mi_NumEnd (N : Nat) (a0 : LU) (a1 : Int) : Option Int :=
  (mi_within a1 0 (IntKind.wrap .i64 ((a0.length : Int) - 1))).bind fun r4 => bif (!r4) then some (-1) else ((mi_digitsEnd N a0 a1).bind fun r6 => (mi_byteAt a0 r6).bind fun r38 => bif (r38 == 46) then (mi_digitsEnd N a0 (IntKind.wrap .i64 (r6 + 1))).bind fun r40 => mi_NumEnd_k1 N (a0, r40, (IntKind.wrap .i64 ((IntKind.wrap .i64 (r6 - a1)) + (IntKind.wrap .i64 ((IntKind.wrap .i64 (r40 - r6)) - 1))))) else (mi_NumEnd_k1 N (a0, r6, (IntKind.wrap .i64 (r6 - a1)))))

def mi_quotedEnd_k2 (N : Nat) (kb1 : (LU × Int × Int) → Option Int) : (LU × Int × Int) → Option Int
  | (a0, a2, y127) => kb1 (a0, a2, (IntKind.wrap .i64 (y127 + 1)))
def mi_quotedEnd_l1 (N : Nat) : Nat → (LU × Int × Int) → Option Int
  | 0, _ => none
  | n1 + 1, (a0, a2, y91) => (bif (decide (y91 < (a0.length : Int))) then (ix a0 y91).bind fun b119 => some (((b119).toNat : Int) != 10) else (some false)).bind fun y118 => bif y118 then (ix a0 y91).bind fun b129 => bif ((IntKind.wrap .i64 ((b129).toNat : Int)) == a2) then some (IntKind.wrap .i64 (y91 + 1)) else (((ix a0 y91).bind fun b133 => bif (((b133).toNat : Int) == 92) then (mi_byteAt a0 (IntKind.wrap .i64 (y91 + 1))).bind fun r134 => some (r134 != 10) else (some false)).bind fun y132 => bif y132 then mi_quotedEnd_k2 N (mi_quotedEnd_l1 N n1) (a0, a2, (IntKind.wrap .i64 (y91 + 1))) else (mi_quotedEnd_k2 N (mi_quotedEnd_l1 N n1) (a0, a2, y91))) else (some (-1))
def mi_quotedEnd (N : Nat) (a0 : LU) (a1 : Int) (a2 : Int) : Option Int :=
  (mi_byteAt a0 a1).bind fun r4 => bif (r4 != a2) then some (-1) else (mi_quotedEnd_l1 N N (a0, a2, (IntKind.wrap .i64 (a1 + 1))))

def mi_StrEnd (N : Nat) (a0 : LU) (a1 : Int) : Option Int :=
  (mi_quotedEnd N a0 a1 34).bind fun r2 => some r2

def mi_EreEnd (N : Nat) (a0 : LU) (a1 : Int) : Option Int :=
  (mi_quotedEnd N a0 a1 47).bind fun r2 => bif (r2 == (IntKind.wrap .i64 (a1 + 2))) then some (-1) else (some r2)

def mi_isKeywordKind (a0 : Int) : Option Bool :=
  (mi_within a0 10 26).bind fun r2 => some r2

def mi_isSignKind (a0 : Int) : Option Bool :=
  (mi_within a0 30 68).bind fun r2 => some r2

def mi_SpellOf (a0 : Int) : Option LU :=
  bif (a0 == 1) then some [10] else ((mi_isKeywordKind a0).bind fun r10 => bif r10 then (ix tab_keywords (IntKind.wrap .i64 (a0 - 10))).bind fun e12 => some e12 else ((mi_isSignKind a0).bind fun r14 => bif r14 then (ix tab_signs (IntKind.wrap .i64 (a0 - 30))).bind fun e16 => some e16 else (some [])))

def mi_TokenOk_k1 (N : Nat) : (SToken × Bool) → Option Bool
  | (a0, y28) => bif y28 then (mi_NameOk N a0.Text).bind fun r30 => some r30 else (bif (a0.Kind == 8) then (mi_IsBuiltin N a0.Text).bind fun r32 => some r32 else ((mi_SpellOf a0.Kind).bind fun r34 => some (a0.Text == r34)))
def mi_TokenOk (N : Nat) (a0 : SToken) : Option Bool :=
  bif (a0.Text == []) then some false else (bif (a0.Kind == 2) then ((ix a0.Text 0).bind fun b20 => bif (((b20).toNat : Int) == 35) then (m_strings_Contains a0.Text).bind fun r21 => some (!r21) else (some false)).bind fun y19 => some y19 else (bif (a0.Kind == 3) then (mi_NumEnd N a0.Text 0).bind fun r23 => some (r23 == (a0.Text.length : Int)) else (bif (a0.Kind == 4) then (mi_StrEnd N a0.Text 0).bind fun r25 => some (r25 == (a0.Text.length : Int)) else (bif (a0.Kind == 5) then (mi_EreEnd N a0.Text 0).bind fun r27 => some (r27 == (a0.Text.length : Int)) else (bif (a0.Kind == 6) then mi_TokenOk_k1 N (a0, (a0.Kind == 6)) else (mi_TokenOk_k1 N (a0, (a0.Kind == 7))))))))

def mi_isStep (a0 : Int) : Option Bool :=
  (bif (a0 == 51) then some true else (some (a0 == 52))).bind fun y1 => some y1

def mi_OpLevel_k4 : (Int × Bool) → Option Int
  | (a0, y8) => bif y8 then some 10 else (bif (a0 == 60) then some 12 else (some 0))
def mi_OpLevel_k3 : (Int × Bool) → Option Int
  | (a0, y7) => bif y7 then some 9 else (bif (a0 == 57) then mi_OpLevel_k4 (a0, (a0 == 57)) else (bif (a0 == 58) then mi_OpLevel_k4 (a0, (a0 == 58)) else (mi_OpLevel_k4 (a0, (a0 == 59)))))
def mi_OpLevel_k2 : (Int × Bool) → Option Int
  | (a0, y6) => bif y6 then some 7 else (bif (a0 == 99) then some 8 else (bif (a0 == 55) then mi_OpLevel_k3 (a0, (a0 == 55)) else (mi_OpLevel_k3 (a0, (a0 == 56)))))
def mi_OpLevel_k1 : (Int × Bool) → Option Int
  | (a0, y5) => bif y5 then some 6 else (bif (a0 == 63) then mi_OpLevel_k2 (a0, (a0 == 63)) else (bif (a0 == 48) then mi_OpLevel_k2 (a0, (a0 == 48)) else (bif (a0 == 47) then mi_OpLevel_k2 (a0, (a0 == 47)) else (bif (a0 == 50) then mi_OpLevel_k2 (a0, (a0 == 50)) else (bif (a0 == 62) then mi_OpLevel_k2 (a0, (a0 == 62)) else (mi_OpLevel_k2 (a0, (a0 == 49))))))))
def mi_OpLevel (a0 : Int) : Option Int :=
  bif (a0 == 44) then some 3 else (bif (a0 == 45) then some 4 else (bif (a0 == 67) then mi_OpLevel_k1 (a0, (a0 == 67)) else (mi_OpLevel_k1 (a0, (a0 == 46)))))

def mi_isAssign (a0 : Int) : Option Bool :=
  (bif (a0 == 54) then some true else ((mi_within a0 38 43).bind fun r3 => some r3)).bind fun y2 => some y2

def mi_exprForm_k3 (N : Nat) : (SNode × Bool) → Option SForm
  | (a0, y35) => bif y35 then (mi_isStep a0.Op).bind fun r37 => some (⟨r37, (a0.Text == []), false, 1, 1⟩ : SForm) else (bif (a0.Kind == 11) then (bif (a0.Op == 55) then some true else (bif (a0.Op == 56) then some true else (some (a0.Op == 61)))).bind fun y38 => some (⟨y38, (a0.Text == []), false, 1, 1⟩ : SForm) else (bif (a0.Kind == 12) then (mi_OpLevel a0.Op).bind fun r40 => some (⟨(r40 != 0), (a0.Text == []), false, 2, 2⟩ : SForm) else (bif (a0.Kind == 14) then some (⟨(a0.Op == 0), (a0.Text == []), false, 3, 3⟩ : SForm) else ((mi_isAssign a0.Op).bind fun r42 => some (⟨r42, (a0.Text == []), false, 2, 2⟩ : SForm)))))
def mi_exprForm_k2 (N : Nat) : (SNode × Bool) → Option SForm
  | (a0, y28) => bif y28 then (mi_NameOk N a0.Text).bind fun r30 => some (⟨(a0.Op == 0), r30, false, 1, 6⟩ : SForm) else (bif (a0.Kind == 6) then some (⟨(a0.Op == 0), (a0.Text == []), false, 1, 1⟩ : SForm) else (bif (a0.Kind == 7) then (mi_NameOk N a0.Text).bind fun r32 => some (⟨(a0.Op == 0), r32, false, 0, 6⟩ : SForm) else (bif (a0.Kind == 8) then (mi_IsBuiltin N a0.Text).bind fun r34 => some (⟨(a0.Op == 0), r34, false, 0, 6⟩ : SForm) else (bif (a0.Kind == 9) then mi_exprForm_k3 N (a0, (a0.Kind == 9)) else (mi_exprForm_k3 N (a0, (a0.Kind == 10)))))))
def mi_exprForm_k1 (N : Nat) : (SNode × Bool) → Option SForm
  | (a0, y23) => bif y23 then (ix [3, 4, 5] (IntKind.wrap .i64 (a0.Kind - 2))).bind fun e26 => (mi_TokenOk N (⟨e26, a0.Text, 0⟩ : SToken)).bind fun r27 => some (⟨(a0.Op == 0), r27, false, 0, 0⟩ : SForm) else (bif (a0.Kind == 5) then mi_exprForm_k2 N (a0, (a0.Kind == 5)) else (mi_exprForm_k2 N (a0, (a0.Kind == 13))))
def mi_exprForm (N : Nat) (a0 : SNode) : Option SForm :=
  bif (a0.Kind == 1) then (mi_NameOk N a0.Text).bind fun r22 => some (⟨(a0.Op == 0), r22, false, 0, 0⟩ : SForm) else (bif (a0.Kind == 2) then mi_exprForm_k1 N (a0, (a0.Kind == 2)) else (bif (a0.Kind == 3) then mi_exprForm_k1 N (a0, (a0.Kind == 3)) else (mi_exprForm_k1 N (a0, (a0.Kind == 4)))))

def mi_IsStmt (a0 : Int) : Option Bool :=
  (mi_within a0 20 34).bind fun r2 => some r2

def mi_stmtForm_k1 (N : Nat) : (Bool × Bool × Bool × Int × Int) → Option SForm
  | (y14, y15, y16, y17, y18) => some (⟨y14, y15, y16, y17, y18⟩ : SForm)
def mi_stmtForm_k3 (N : Nat) : (SNode × Bool) → Option SForm
  | (a0, y25) => bif y25 then mi_stmtForm_k1 N ((a0.Op == 0), (a0.Text == []), (a0.Other == []), 2, 2) else (bif (a0.Kind == 31) then mi_stmtForm_k1 N ((a0.Op == 0), (a0.Text == []), (a0.Other == []), 4, 4) else (bif (a0.Kind == 32) then (mi_NameOk N a0.Text).bind fun r28 => (mi_NameOk N a0.Other).bind fun r29 => mi_stmtForm_k1 N ((a0.Op == 0), r28, r29, 1, 1) else (bif (a0.Kind == 33) then mi_stmtForm_k1 N ((a0.Op == 0), (a0.Text == []), (a0.Other == []), 0, 400) else (bif (a0.Kind == 34) then (mi_TokenOk N (⟨2, a0.Text, 0⟩ : SToken)).bind fun r31 => mi_stmtForm_k1 N ((a0.Op == 0), r31, (a0.Other == []), 0, 0) else (mi_stmtForm_k1 N ((a0.Op == 0), (a0.Text == []), (a0.Other == []), 0, 0))))))
def mi_stmtForm_k2 (N : Nat) : (SNode × Bool) → Option SForm
  | (a0, y22) => bif y22 then mi_stmtForm_k1 N ((a0.Op == 0), (a0.Text == []), (a0.Other == []), 0, 1) else (bif (a0.Kind == 27) then (mi_NameOk N a0.Text).bind fun r24 => mi_stmtForm_k1 N ((a0.Op == 0), r24, (a0.Other == []), 0, 6) else (bif (a0.Kind == 28) then mi_stmtForm_k1 N ((a0.Op == 0), (a0.Text == []), (a0.Other == []), 2, 3) else (bif (a0.Kind == 29) then mi_stmtForm_k3 N (a0, (a0.Kind == 29)) else (mi_stmtForm_k3 N (a0, (a0.Kind == 30))))))
def mi_stmtForm (N : Nat) (a0 : SNode) : Option SForm :=
  bif (a0.Kind == 20) then mi_stmtForm_k1 N ((a0.Op == 0), (a0.Text == []), (a0.Other == []), 1, 1) else (bif (a0.Kind == 21) then (bif (a0.Op == 0) then some true else (some (a0.Op == 1))).bind fun y19 => (m_slices_Contains_string N [[], [62], [62, 62], [124]] a0.Other).bind fun r21 => bif (!(a0.Other == [])) then mi_stmtForm_k1 N (y19, (a0.Text == []), r21, (IntKind.wrap .i64 (a0.Op + 1)), 7) else (mi_stmtForm_k1 N (y19, (a0.Text == []), r21, a0.Op, 6)) else (bif (a0.Kind == 23) then mi_stmtForm_k2 N (a0, (a0.Kind == 23)) else (mi_stmtForm_k2 N (a0, (a0.Kind == 24)))))

def mi_itemForm_k1 (N : Nat) : (SNode × Bool × Bool × Int × Int) → Option SForm
  | (a0, y9, y10, y11, y12) => some (⟨y9, y10, (a0.Other == []), y11, y12⟩ : SForm)
def mi_itemForm_k3 (N : Nat) : (Bool × SNode × Int) → Option SForm
  | (r15, a0, y16) => mi_itemForm_k1 N (a0, r15, (a0.Text == []), y16, y16)
def mi_itemForm_k4 (N : Nat) : (Bool × SNode × Int) → Option SForm
  | (y17, a0, y18) => mi_itemForm_k1 N (a0, y17, (a0.Text == []), y18, y18)
def mi_itemForm_k2 (N : Nat) : (SNode × Bool) → Option SForm
  | (a0, y13) => bif y13 then mi_itemForm_k1 N (a0, (a0.Op == 0), (a0.Text == []), 1, 1) else (bif (a0.Kind == 42) then (mi_within a0.Op 1 3).bind fun r15 => bif (a0.Op == 3) then mi_itemForm_k3 N (r15, a0, 2) else (mi_itemForm_k3 N (r15, a0, 1)) else (bif (a0.Kind == 43) then (bif (a0.Op == 1) then some true else (some (a0.Op == 3))).bind fun y17 => bif (a0.Op == 3) then mi_itemForm_k4 N (y17, a0, 3) else (mi_itemForm_k4 N (y17, a0, 2)) else (bif (a0.Kind == 44) then (mi_NameOk N a0.Text).bind fun r20 => mi_itemForm_k1 N (a0, (a0.Op == 0), r20, 1, 7) else (mi_itemForm_k1 N (a0, (a0.Op == 0), (a0.Text == []), 0, 400)))))
def mi_itemForm (N : Nat) (a0 : SNode) : Option SForm :=
  bif (a0.Kind == 40) then mi_itemForm_k2 N (a0, (a0.Kind == 40)) else (mi_itemForm_k2 N (a0, (a0.Kind == 41)))

def mi_FieldsOk_k1 (N : Nat) : (SNode × Bool × Bool × Bool × Int × Int) → Option Bool
  | (a0, y13, y14, y15, y16, y17) => (bif y13 then bif y14 then bif y15 then (mi_within (a0.Kids.length : Int) y16 y17).bind fun r20 => some r20 else (some false) else (some false) else (some false)).bind fun y19 => some y19
def mi_FieldsOk (N : Nat) (a0 : SNode) : Option Bool :=
  (mi_IsExpr a0.Kind).bind fun r22 => bif r22 then (mi_exprForm N a0).bind fun r24 => mi_FieldsOk_k1 N (a0, r24.op, r24.text, (a0.Other == []), r24.least, r24.most) else (bif (a0.Kind == 16) then mi_FieldsOk_k1 N (a0, (a0.Op == 0), (a0.Text == []), (a0.Other == []), 0, 0) else ((mi_IsStmt a0.Kind).bind fun r26 => bif r26 then (mi_stmtForm N a0).bind fun r28 => mi_FieldsOk_k1 N (a0, r28.op, r28.text, r28.other, r28.least, r28.most) else ((mi_within a0.Kind 40 45).bind fun r30 => bif r30 then (mi_itemForm N a0).bind fun r32 => mi_FieldsOk_k1 N (a0, r32.op, r32.text, r32.other, r32.least, r32.most) else (some false))))

def mi_IsLvalue (a0 : Int) : Option Bool :=
  (bif (a0 == 1) then some true else (bif (a0 == 5) then some true else (some (a0 == 6)))).bind fun y1 => some y1

def mi_isItem (a0 : Int) : Option Bool :=
  (mi_within a0 40 44).bind fun r2 => some r2

def mi_kidOk_k1 : (Int × Bool) → Option Bool
  | (a2, y22) => bif y22 then some (a2 == 33) else ((mi_IsExpr a2).bind fun r24 => some r24)
def mi_kidOk_k4 : (Int × Int × SNode × Bool) → Option Bool
  | (a2, a1, a0, y38) => bif y38 then mi_kidOk_k1 (a2, true) else (bif (a0.Kind == 33) then (mi_IsStmt a2).bind fun r40 => some r40 else (bif (a0.Kind == 42) then (bif (a1 == (IntKind.wrap .i64 ((a0.Kids.length : Int) - 1))) then some (decide (a0.Op ≥ 2)) else (some false)).bind fun y41 => mi_kidOk_k1 (a2, y41) else (bif (a0.Kind == 43) then (bif (a1 == (IntKind.wrap .i64 ((a0.Kids.length : Int) - 1))) then some (a0.Op == 3) else (some false)).bind fun y42 => mi_kidOk_k1 (a2, y42) else (bif (a0.Kind == 44) then bif (!(a1 == (IntKind.wrap .i64 ((a0.Kids.length : Int) - 1)))) then some (a2 == 1) else (mi_kidOk_k1 (a2, true)) else (bif (a0.Kind == 45) then ((mi_isItem a2).bind fun r45 => bif r45 then some true else (some (a2 == 34))).bind fun y44 => some y44 else (mi_kidOk_k1 (a2, false)))))))
def mi_kidOk_k3 : (Int × Int × SNode × Bool) → Option Bool
  | (a1, a2, a0, y35) => bif y35 then mi_kidOk_k1 (a2, (decide (a1 > 0))) else (bif (a0.Kind == 31) then (bif (decide (a1 < 3)) then some (a2 == 16) else (some false)).bind fun y37 => bif y37 then some true else (mi_kidOk_k1 (a2, (a1 == (IntKind.wrap .i64 ((a0.Kids.length : Int) - 1))))) else (bif (a0.Kind == 30) then mi_kidOk_k1 (a2, (a1 == 0)) else (bif (a0.Kind == 32) then mi_kidOk_k4 (a2, a1, a0, (a0.Kind == 32)) else (bif (a0.Kind == 40) then mi_kidOk_k4 (a2, a1, a0, (a0.Kind == 40)) else (mi_kidOk_k4 (a2, a1, a0, (a0.Kind == 41)))))))
def mi_kidOk_k2 : (Int × Int × SNode × Bool) → Option Bool
  | (a1, a2, a0, y25) => bif y25 then (mi_IsLvalue a2).bind fun r27 => some r27 else (bif (a0.Kind == 15) then (bif (a1 == 0) then (mi_IsLvalue a2).bind fun r32 => bif r32 then some true else (bif (decide (a1 > 0)) then (mi_IsExpr a2).bind fun r33 => some r33 else (some false)) else (bif (decide (a1 > 0)) then (mi_IsExpr a2).bind fun r34 => some r34 else (some false))).bind fun y31 => some y31 else (bif (a0.Kind == 28) then mi_kidOk_k3 (a1, a2, a0, (a0.Kind == 28)) else (mi_kidOk_k3 (a1, a2, a0, (a0.Kind == 29)))))
def mi_kidOk (a0 : SNode) (a1 : Int) (a2 : Int) : Option Bool :=
  bif (a0.Kind == 9) then mi_kidOk_k2 (a1, a2, a0, (a0.Kind == 9)) else (mi_kidOk_k2 (a1, a2, a0, (a0.Kind == 10)))

structure Rec5 where
  mi_treeAt : LN → Int → Option STree

def mi_treeAt_l1 (N : Nat) (R : Rec5) : Nat → (LN × SNode × Int × LS) → Option STree
  | 0, _ => none
  | n1 + 1, (a0, e2, y63, y64) => bif (decide (y63 < (e2.Kids.length : Int))) then (ix e2.Kids y63).bind fun e86 => (R.mi_treeAt a0 e86).bind fun r89 => (app 72 y64 [r89]).bind fun x90 => (mi_treeAt_l1 N R n1) (a0, e2, (IntKind.wrap .i64 (y63 + 1)), x90) else (some (⟨e2.Kind, e2.Op, e2.Text, e2.Other, y64⟩ : STree))
def mi_treeAt_F (N : Nat) (R : Rec5) (a0 : LN) (a1 : Int) : Option STree :=
  (ix a0 a1).bind fun e2 => mi_treeAt_l1 N R N (a0, e2, 0, [])
def scc5 : Nat → Rec5
  | 0 => ⟨fun _ _ => none⟩
  | N + 1 => ⟨fun a0 a1 => mi_treeAt_F N (scc5 N) a0 a1⟩
def mi_treeAt (N : Nat) (a0 : LN) (a1 : Int) : Option STree := (scc5 N).mi_treeAt a0 a1

def mi_rootOf (N : Nat) (a0 : LN) : Option STree :=
  (mi_treeAt N a0 (IntKind.wrap .i64 ((a0.length : Int) - 1))).bind fun r2 => some r2

structure Rec6 where
  mi_tree__depth : STree → Option Int

def mi_tree__depth_l1 (N : Nat) (R : Rec6) : Nat → (STree × Int × Int) → Option Int
  | 0, _ => none
  | n1 + 1, (a0, y37, y38) => bif (decide (y38 < (a0.kids.length : Int))) then (ix a0.kids y38).bind fun e54 => (R.mi_tree__depth e54).bind fun r56 => (mi_tree__depth_l1 N R n1) (a0, (if r56 > y37 then r56 else y37), (IntKind.wrap .i64 (y38 + 1))) else (some (IntKind.wrap .i64 (y37 + 1)))
def mi_tree__depth_F (N : Nat) (R : Rec6) (a0 : STree) : Option Int :=
  mi_tree__depth_l1 N R N (a0, 0, 0)
def scc6 : Nat → Rec6
  | 0 => ⟨fun _ => none⟩
  | N + 1 => ⟨fun a0 => mi_tree__depth_F N (scc6 N) a0⟩
def mi_tree__depth (N : Nat) (a0 : STree) : Option Int := (scc6 N).mi_tree__depth a0

def mi_TreeOk_l2 (N : Nat) (kb1 : (LN × Int) → Option Bool) : Nat → (LN × Int × SNode × Int) → Option Bool
  | 0, _ => none
  | n2 + 1, (a0, y359, e494, y511) => bif (decide (y511 < (e494.Kids.length : Int))) then (ix e494.Kids y511).bind fun e532 => (ix a0 e532).bind fun e535 => (mi_kidOk e494 y511 e535.Kind).bind fun r536 => bif (!r536) then some false else ((mi_TreeOk_l2 N kb1 n2) (a0, y359, e494, (IntKind.wrap .i64 (y511 + 1)))) else (kb1 (a0, (IntKind.wrap .i64 (y359 + 1))))
def mi_TreeOk_l1 (N : Nat) : Nat → (LN × Int) → Option Bool
  | 0, _ => none
  | n1 + 1, (a0, y359) => bif (decide (y359 < (a0.length : Int))) then (ix a0 y359).bind fun e494 => (mi_FieldsOk N e494).bind fun r498 => bif (!r498) then some false else (mi_TreeOk_l2 N (mi_TreeOk_l1 N n1) N (a0, y359, e494, 0)) else ((mi_rootOf N a0).bind fun r539 => (mi_tree__depth N r539).bind fun r540 => some (decide (r540 ≤ 40)))
def mi_TreeOk (N : Nat) (a0 : LN) : Option Bool :=
  (mi_ShapeOk N a0).bind fun r4 => bif (!r4) then some false else (mi_TreeOk_l1 N N (a0, 0))

def mi_tree__isNot (a0 : STree) : Option Bool :=
  (bif (a0.kind == 11) then some (a0.op == 61) else (some false)).bind fun y1 => some y1

def mi_opposite (a0 : Int) : Option Int :=
  bif (a0 == 63) then some 49 else (bif (a0 == 49) then some 63 else (bif (a0 == 62) then some 48 else (bif (a0 == 48) then some 62 else (bif (a0 == 47) then some 50 else (bif (a0 == 50) then some 47 else (bif (a0 == 67) then some 46 else (bif (a0 == 46) then some 67 else (some 0))))))))

def mi_tree__isCompared (a0 : STree) : Option Bool :=
  (bif (a0.kind == 12) then (mi_opposite a0.op).bind fun r3 => some (r3 != 0) else (some false)).bind fun y2 => some y2

def mi_tree__isLogic (a0 : STree) : Option Bool :=
  (bif (a0.kind == 12) then bif (a0.op == 45) then some true else (some (a0.op == 44)) else (some false)).bind fun y1 => some y1

def mi_not (a0 : STree) : Option STree :=
  some (⟨11, 61, [], [], [a0]⟩ : STree)

def mi_tree__with (a0 : STree) (a1 : LS) : Option STree :=
  some (⟨a0.kind, a0.op, a0.text, a0.other, a1⟩ : STree)

structure Rec7 where
  mi_tree__negated : STree → Option STree
  mi_tree__pushed : STree → Option STree

def mi_tree__negated_F (N : Nat) (R : Rec7) (a0 : STree) : Option STree :=
  (mi_tree__isNot a0).bind fun r48 => bif r48 then (ix a0.kids 0).bind fun e50 => ((mi_tree__isNot e50).bind fun r64 => bif r64 then some true else ((mi_tree__isCompared e50).bind fun r65 => bif r65 then some true else ((mi_tree__isLogic e50).bind fun r66 => some r66))).bind fun y63 => bif y63 then (R.mi_tree__pushed e50).bind fun r68 => some r68 else ((R.mi_tree__pushed e50).bind fun r72 => (mi_not r72).bind fun r73 => (mi_not r73).bind fun r74 => some r74) else ((mi_tree__isCompared a0).bind fun r76 => bif r76 then (R.mi_tree__pushed a0).bind fun r78 => (mi_opposite a0.op).bind fun r80 => some (⟨r78.kind, r80, r78.text, r78.other, r78.kids⟩ : STree) else ((mi_tree__isLogic a0).bind fun r82 => bif r82 then (ix a0.kids 0).bind fun e88 => (R.mi_tree__negated e88).bind fun r89 => (ix a0.kids 1).bind fun e90 => (R.mi_tree__negated e90).bind fun r91 => (mi_tree__with a0 [r89, r91]).bind fun r92 => some (⟨r92.kind, (IntKind.wrap .i64 (89 - a0.op)), r92.text, r92.other, r92.kids⟩ : STree) else ((R.mi_tree__pushed a0).bind fun r95 => (mi_not r95).bind fun r96 => some r96)))

def mi_tree__pushed_l1 (N : Nat) (R : Rec7) : Nat → (STree × Int × LS) → Option STree
  | 0, _ => none
  | n1 + 1, (a0, y65, y66) => bif (decide (y65 < (a0.kids.length : Int))) then (ix a0.kids y65).bind fun e88 => (R.mi_tree__pushed e88).bind fun r91 => (app 72 y66 [r91]).bind fun x92 => (mi_tree__pushed_l1 N R n1) (a0, (IntKind.wrap .i64 (y65 + 1)), x92) else ((mi_tree__with a0 y66).bind fun r94 => some r94)
def mi_tree__pushed_F (N : Nat) (R : Rec7) (a0 : STree) : Option STree :=
  (mi_tree__isNot a0).bind fun r8 => bif r8 then (ix a0.kids 0).bind fun e11 => (R.mi_tree__negated e11).bind fun r12 => some r12 else (mi_tree__pushed_l1 N R N (a0, 0, []))
def scc7 : Nat → Rec7
  | 0 => ⟨fun _ => none, fun _ => none⟩
  | N + 1 => ⟨fun a0 => mi_tree__negated_F N (scc7 N) a0, fun a0 => mi_tree__pushed_F N (scc7 N) a0⟩
def mi_tree__negated (N : Nat) (a0 : STree) : Option STree := (scc7 N).mi_tree__negated a0
def mi_tree__pushed (N : Nat) (a0 : STree) : Option STree := (scc7 N).mi_tree__pushed a0

structure Rec8 where
  mi_tree__add : STree → LN → Option LN

def mi_tree__add_l1 (N : Nat) (R : Rec8) : Nat → (STree × Int × LN × (List Int)) → Option LN
  | 0, _ => none
  | n1 + 1, (a0, y59, y60, y61) => bif (decide (y59 < (a0.kids.length : Int))) then (ix a0.kids y59).bind fun e84 => (R.mi_tree__add e84 y60).bind fun r86 => (app 8 y61 [(IntKind.wrap .i64 ((r86.length : Int) - 1))]).bind fun x88 => (mi_tree__add_l1 N R n1) (a0, (IntKind.wrap .i64 (y59 + 1)), r86, x88) else ((app 72 y60 [(⟨a0.kind, a0.op, a0.text, a0.other, y61⟩ : SNode)]).bind fun x90 => some x90)
def mi_tree__add_F (N : Nat) (R : Rec8) (a0 : STree) (p0 : LN) : Option LN :=
  mi_tree__add_l1 N R N (a0, 0, p0, [])
def scc8 : Nat → Rec8
  | 0 => ⟨fun _ _ => none⟩
  | N + 1 => ⟨fun a0 p0 => mi_tree__add_F N (scc8 N) a0 p0⟩
def mi_tree__add (N : Nat) (a0 : STree) (p0 : LN) : Option LN := (scc8 N).mi_tree__add a0 p0

def mi_tree__list (N : Nat) (a0 : STree) : Option LN :=
  (mi_tree__add N a0 []).bind fun r2 => some r2

def m_slices_Clone_int (a0 : List Int) : Option (List Int) :=
  (app 8 [] a0).bind fun x2 => some x2

def mi_copyNodes_l1 (N : Nat) : Nat → (LN × Int × LN) → Option LN
  | 0, _ => none
  | n1 + 1, (a0, y53, y54) => bif (decide (y53 < (a0.length : Int))) then (ix a0 y53).bind fun e76 => (m_slices_Clone_int e76.Kids).bind fun r78 => (app 72 y54 [(⟨e76.Kind, e76.Op, e76.Text, e76.Other, r78⟩ : SNode)]).bind fun x80 => (mi_copyNodes_l1 N n1) (a0, (IntKind.wrap .i64 (y53 + 1)), x80) else (some y54)
def mi_copyNodes (N : Nat) (a0 : LN) : Option LN :=
  mi_copyNodes_l1 N N (a0, 0, [])

def mi_PushNot (N : Nat) (a0 : LN) : Option LN :=
  (mi_TreeOk N a0).bind fun r4 => bif (!r4) then some [] else ((mi_rootOf N a0).bind fun r8 => (mi_tree__pushed N r8).bind fun r9 => (mi_tree__list N r9).bind fun r10 => (mi_TreeOk N r10).bind fun r16 => bif (!r16) then (mi_copyNodes N a0).bind fun r18 => some r18 else (some r10))

def mi_ExprOk (N : Nat) (a0 : LN) : Option Bool :=
  ((mi_TreeOk N a0).bind fun r5 => bif r5 then (ix a0 (IntKind.wrap .i64 ((a0.length : Int) - 1))).bind fun e6 => (mi_IsExpr e6.Kind).bind fun r7 => some r7 else (some false)).bind fun y4 => some y4

def mi_Negate (N : Nat) (a0 : LN) : Option LN :=
  (mi_ExprOk N a0).bind fun r4 => bif (!r4) then some [] else ((mi_rootOf N a0).bind fun r8 => (mi_tree__negated N r8).bind fun r9 => (mi_tree__list N r9).bind fun r10 => (mi_TreeOk N r10).bind fun r14 => bif (!r14) then some [] else (some r10))

def ms_l1In (a0 : Int) (a1 : Int) (a2 : Int) : Option Bool :=
  (bif (decide (a0 ≥ a1)) then some (decide (a0 ≤ a2)) else (some false)).bind fun y1 => some y1

def ms_l6Starts_l2 (N : Nat) (kb1 : (LN × Int × (List Int)) → Option ((List Int) × Bool)) : Nat → (LN × Int × (List Int) × Int × Int) → Option ((List Int) × Bool)
  | 0, _ => none
  | n2 + 1, (a0, y917, y918, y1499, y1500) => bif (decide (y1500 ≥ 0)) then ((ix a0 y917).bind fun e1547 => (ix e1547.Kids y1500).bind fun e1548 => bif (e1548 != (IntKind.wrap .i64 (y1499 - 1))) then some true else (some (y1499 == 0))).bind fun y1546 => bif y1546 then some ([], false) else ((ix y918 (IntKind.wrap .i64 (y1499 - 1))).bind fun e1550 => (ms_l6Starts_l2 N kb1 n2) (a0, y917, y918, e1550, (IntKind.wrap .i64 (y1500 - 1)))) else ((app 8 y918 [y1499]).bind fun x1552 => kb1 (a0, (IntKind.wrap .i64 (y917 + 1)), x1552))
def ms_l6Starts_l1 (N : Nat) : Nat → (LN × Int × (List Int)) → Option ((List Int) × Bool)
  | 0, _ => none
  | n1 + 1, (a0, y917, y918) => bif (decide (y917 < (a0.length : Int))) then (ix a0 y917).bind fun e1474 => ms_l6Starts_l2 N (ms_l6Starts_l1 N n1) N (a0, y917, y918, y917, (IntKind.wrap .i64 ((e1474.Kids.length : Int) - 1))) else (some (y918, true))
def ms_l6Starts (N : Nat) (a0 : LN) : Option ((List Int) × Bool) :=
  ms_l6Starts_l1 N N (a0, 0, [])

def ms_ShapeOk (N : Nat) (a0 : LN) : Option Bool :=
  (ms_l1In (a0.length : Int) 1 400).bind fun r4 => bif (!r4) then some false else ((ms_l6Starts N a0).bind fun r6 => (bif r6.2 then (ix r6.1 (IntKind.wrap .i64 ((a0.length : Int) - 1))).bind fun e9 => some (e9 == 0) else (some false)).bind fun y8 => some y8)

def ms_DepthOf_l2 (N : Nat) (kb1 : (LN × Int × (List Int)) → Option Int) : Nat → (LN × Int × (List Int) × Int × Int) → Option Int
  | 0, _ => none
  | n2 + 1, (a0, y857, y858, y1247, y1248) => (ix a0 y857).bind fun e1270 => bif (decide (y1248 < (e1270.Kids.length : Int))) then (ix a0 y857).bind fun e1280 => (ix e1280.Kids y1248).bind fun e1281 => (ix y858 e1281).bind fun e1282 => (ms_DepthOf_l2 N kb1 n2) (a0, y857, y858, (if (IntKind.wrap .i64 (1 + e1282)) > y1247 then (IntKind.wrap .i64 (1 + e1282)) else y1247), (IntKind.wrap .i64 (y1248 + 1))) else ((app 8 y858 [y1247]).bind fun x1284 => kb1 (a0, (IntKind.wrap .i64 (y857 + 1)), x1284))
def ms_DepthOf_l1 (N : Nat) : Nat → (LN × Int × (List Int)) → Option Int
  | 0, _ => none
  | n1 + 1, (a0, y857, y858) => bif (decide (y857 < (a0.length : Int))) then ms_DepthOf_l2 N (ms_DepthOf_l1 N n1) N (a0, y857, y858, 1, 0) else ((ix y858 (IntKind.wrap .i64 ((a0.length : Int) - 1))).bind fun e1286 => some e1286)
def ms_DepthOf (N : Nat) (a0 : LN) : Option Int :=
  (ms_ShapeOk N a0).bind fun r4 => bif (!r4) then some 0 else (ms_DepthOf_l1 N N (a0, 0, []))

def ms_l7Many_k6 : (SNode × Bool) → Option (Int × Int)
  | (a0, y12) => bif y12 then some (0, (a0.Kids.length : Int)) else (bif (a0.Kind == 42) then some ((IntKind.wrap .i64 (1 + (IntKind.wrap .i64 (Int.tdiv a0.Op 3)))), (IntKind.wrap .i64 (1 + (IntKind.wrap .i64 (Int.tdiv a0.Op 3))))) else (bif (a0.Kind == 43) then some ((IntKind.wrap .i64 (2 + (IntKind.wrap .i64 (Int.tdiv a0.Op 3)))), (IntKind.wrap .i64 (2 + (IntKind.wrap .i64 (Int.tdiv a0.Op 3))))) else (bif (a0.Kind == 44) then some (1, 7) else (some (0, 0)))))
def ms_l7Many_k5 : (SNode × Bool) → Option (Int × Int)
  | (a0, y11) => bif y11 then some (0, 1) else (bif (a0.Kind == 28) then some (2, 3) else (bif (a0.Kind == 31) then some (4, 4) else (bif (a0.Kind == 33) then ms_l7Many_k6 (a0, (a0.Kind == 33)) else (ms_l7Many_k6 (a0, (a0.Kind == 45))))))
def ms_l7Many_k4 : (SNode × Bool) → Option (Int × Int)
  | (a0, y10) => bif y10 then some (2, 2) else (bif (a0.Kind == 14) then some (3, 3) else (bif (a0.Kind == 21) then bif (!(a0.Other == [])) then some ((IntKind.wrap .i64 (a0.Op + 1)), 7) else (some (a0.Op, 6)) else (bif (a0.Kind == 23) then ms_l7Many_k5 (a0, (a0.Kind == 23)) else (ms_l7Many_k5 (a0, (a0.Kind == 24))))))
def ms_l7Many_k3 : (SNode × Bool) → Option (Int × Int)
  | (a0, y9) => bif y9 then some (1, 1) else (bif (a0.Kind == 12) then ms_l7Many_k4 (a0, (a0.Kind == 12)) else (bif (a0.Kind == 15) then ms_l7Many_k4 (a0, (a0.Kind == 15)) else (bif (a0.Kind == 29) then ms_l7Many_k4 (a0, (a0.Kind == 29)) else (ms_l7Many_k4 (a0, (a0.Kind == 30))))))
def ms_l7Many_k2 : (SNode × Bool) → Option (Int × Int)
  | (a0, y8) => bif y8 then some (0, 6) else (bif (a0.Kind == 6) then ms_l7Many_k3 (a0, (a0.Kind == 6)) else (bif (a0.Kind == 9) then ms_l7Many_k3 (a0, (a0.Kind == 9)) else (bif (a0.Kind == 10) then ms_l7Many_k3 (a0, (a0.Kind == 10)) else (bif (a0.Kind == 11) then ms_l7Many_k3 (a0, (a0.Kind == 11)) else (bif (a0.Kind == 20) then ms_l7Many_k3 (a0, (a0.Kind == 20)) else (bif (a0.Kind == 32) then ms_l7Many_k3 (a0, (a0.Kind == 32)) else (bif (a0.Kind == 40) then ms_l7Many_k3 (a0, (a0.Kind == 40)) else (ms_l7Many_k3 (a0, (a0.Kind == 41))))))))))
def ms_l7Many_k1 : (SNode × Bool) → Option (Int × Int)
  | (a0, y7) => bif y7 then some (1, 6) else (bif (a0.Kind == 7) then ms_l7Many_k2 (a0, (a0.Kind == 7)) else (bif (a0.Kind == 8) then ms_l7Many_k2 (a0, (a0.Kind == 8)) else (ms_l7Many_k2 (a0, (a0.Kind == 27)))))
def ms_l7Many (a0 : SNode) : Option (Int × Int) :=
  bif (a0.Kind == 5) then ms_l7Many_k1 (a0, (a0.Kind == 5)) else (ms_l7Many_k1 (a0, (a0.Kind == 13)))

def ms_l7IsBin_k1 : Bool → Option Bool
  | y2 => bif y2 then some true else (some false)
def ms_l7IsBin (a0 : Int) : Option Bool :=
  bif (a0 == 60) then ms_l7IsBin_k1 (a0 == 60) else (bif (a0 == 57) then ms_l7IsBin_k1 (a0 == 57) else (bif (a0 == 58) then ms_l7IsBin_k1 (a0 == 58) else (bif (a0 == 59) then ms_l7IsBin_k1 (a0 == 59) else (bif (a0 == 55) then ms_l7IsBin_k1 (a0 == 55) else (bif (a0 == 56) then ms_l7IsBin_k1 (a0 == 56) else (bif (a0 == 99) then ms_l7IsBin_k1 (a0 == 99) else (bif (a0 == 63) then ms_l7IsBin_k1 (a0 == 63) else (bif (a0 == 48) then ms_l7IsBin_k1 (a0 == 48) else (bif (a0 == 47) then ms_l7IsBin_k1 (a0 == 47) else (bif (a0 == 50) then ms_l7IsBin_k1 (a0 == 50) else (bif (a0 == 62) then ms_l7IsBin_k1 (a0 == 62) else (bif (a0 == 49) then ms_l7IsBin_k1 (a0 == 49) else (bif (a0 == 67) then ms_l7IsBin_k1 (a0 == 67) else (bif (a0 == 46) then ms_l7IsBin_k1 (a0 == 46) else (bif (a0 == 45) then ms_l7IsBin_k1 (a0 == 45) else (ms_l7IsBin_k1 (a0 == 44)))))))))))))))))

def ms_l7IsAssign (a0 : Int) : Option Bool :=
  (bif (a0 == 54) then some true else ((ms_l1In a0 38 43).bind fun r3 => some r3)).bind fun y2 => some y2

def ms_l7Op_k1 : (SNode × Bool) → Option Bool
  | (a0, y13) => bif y13 then (bif (a0.Op == 51) then some true else (some (a0.Op == 52))).bind fun y14 => some y14 else (bif (a0.Kind == 11) then (bif (a0.Op == 55) then some true else (bif (a0.Op == 56) then some true else (some (a0.Op == 61)))).bind fun y15 => some y15 else (bif (a0.Kind == 12) then (ms_l7IsBin a0.Op).bind fun r17 => some r17 else (bif (a0.Kind == 15) then (ms_l7IsAssign a0.Op).bind fun r19 => some r19 else (bif (a0.Kind == 21) then (ms_l1In a0.Op 0 1).bind fun r21 => some r21 else (bif (a0.Kind == 42) then (ms_l1In a0.Op 1 3).bind fun r23 => some r23 else (bif (a0.Kind == 43) then (bif (a0.Op == 1) then some true else (some (a0.Op == 3))).bind fun y24 => some y24 else (some (a0.Op == 0))))))))
def ms_l7Op (a0 : SNode) : Option Bool :=
  bif (a0.Kind == 9) then ms_l7Op_k1 (a0, (a0.Kind == 9)) else (ms_l7Op_k1 (a0, (a0.Kind == 10)))

def ms_IsLetter (a0 : Int) : Option Bool :=
  ((ms_l1In a0 97 122).bind fun r4 => bif r4 then some true else ((ms_l1In a0 65 90).bind fun r5 => bif r5 then some true else (some (a0 == 95)))).bind fun y3 => some y3

def ms_IsDigit (a0 : Int) : Option Bool :=
  (ms_l1In a0 48 57).bind fun r2 => some r2

def ms_IsWordByte (a0 : Int) : Option Bool :=
  ((ms_IsLetter a0).bind fun r4 => bif r4 then some true else ((ms_IsDigit a0).bind fun r5 => some r5)).bind fun y3 => some y3

def ms_NameShape_l1 (N : Nat) : Nat → (LU × Int) → Option Bool
  | 0, _ => none
  | n1 + 1, (a0, y35) => bif (decide (y35 < (a0.length : Int))) then (ix a0 y35).bind fun b51 => (ms_IsWordByte (IntKind.wrap .i64 ((b51).toNat : Int))).bind fun r52 => bif (!r52) then some false else ((ms_NameShape_l1 N n1) (a0, (IntKind.wrap .i64 (y35 + 1)))) else (((ms_l1In (a0.length : Int) 1 12).bind fun r57 => bif r57 then (ix a0 0).bind fun b58 => (ms_IsLetter (IntKind.wrap .i64 ((b58).toNat : Int))).bind fun r59 => some r59 else (some false)).bind fun y56 => some y56)
def ms_NameShape (N : Nat) (a0 : LU) : Option Bool :=
  ms_NameShape_l1 N N (a0, 0)

def ms_l3Words : Option LLU :=
  some [[66, 69, 71, 73, 78], [69, 78, 68], [102, 117, 110, 99, 116, 105, 111, 110], [105, 102], [101, 108, 115, 101], [119, 104, 105, 108, 101], [102, 111, 114], [100, 111], [98, 114, 101, 97, 107], [99, 111, 110, 116, 105, 110, 117, 101], [110, 101, 120, 116], [101, 120, 105, 116], [114, 101, 116, 117, 114, 110], [100, 101, 108, 101, 116, 101], [105, 110], [112, 114, 105, 110, 116], [112, 114, 105, 110, 116, 102]]

def ms_l3Find_l1 (N : Nat) : Nat → (LLU × LU × Int) → Option Int
  | 0, _ => none
  | n1 + 1, (a0, a1, y19) => bif (decide (y19 < (a0.length : Int))) then (ix a0 y19).bind fun e28 => bif (e28 == a1) then some y19 else ((ms_l3Find_l1 N n1) (a0, a1, (IntKind.wrap .i64 (y19 + 1)))) else (some (-1))
def ms_l3Find (N : Nat) (a0 : LLU) (a1 : LU) : Option Int :=
  ms_l3Find_l1 N N (a0, a1, 0)

def ms_KeywordOf (N : Nat) (a0 : LU) : Option Int :=
  Option.bind ms_l3Words fun r3 => (ms_l3Find N r3 a0).bind fun r4 => bif (decide (r4 < 0)) then some 0 else (some (IntKind.wrap .i64 (10 + r4)))

def ms_l3Builtins : Option LLU :=
  some [[97, 116, 97, 110, 50], [99, 108, 111, 115, 101], [99, 111, 115], [101, 120, 112], [103, 115, 117, 98], [105, 110, 100, 101, 120], [105, 110, 116], [108, 101, 110, 103, 116, 104], [108, 111, 103], [109, 97, 116, 99, 104], [114, 97, 110, 100], [115, 105, 110], [115, 112, 108, 105, 116], [115, 112, 114, 105, 110, 116, 102], [115, 113, 114, 116], [115, 114, 97, 110, 100], [115, 117, 98], [115, 117, 98, 115, 116, 114], [115, 121, 115, 116, 101, 109], [116, 111, 108, 111, 119, 101, 114], [116, 111, 117, 112, 112, 101, 114]]

def ms_IsBuiltin (N : Nat) (a0 : LU) : Option Bool :=
  Option.bind ms_l3Builtins fun r3 => (ms_l3Find N r3 a0).bind fun r4 => some (decide (r4 ≥ 0))

def ms_NameOk (N : Nat) (a0 : LU) : Option Bool :=
  ((ms_NameShape N a0).bind fun r5 => bif r5 then (ms_KeywordOf N a0).bind fun r6 => bif (r6 == 0) then (ms_IsBuiltin N a0).bind fun r7 => some (!r7) else (some false) else (some false)).bind fun y4 => some y4

def ms_l4Plain_l1 (N : Nat) : Nat → (LU × Int) → Option Bool
  | 0, _ => none
  | n1 + 1, (a0, y19) => bif (decide (y19 < (a0.length : Int))) then (ix a0 y19).bind fun b28 => bif (((b28).toNat : Int) == 10) then some false else ((ms_l4Plain_l1 N n1) (a0, (IntKind.wrap .i64 (y19 + 1)))) else (some true)
def ms_l4Plain (N : Nat) (a0 : LU) : Option Bool :=
  ms_l4Plain_l1 N N (a0, 0)

def ms_l4Byte (a0 : LU) (a1 : Int) : Option Int :=
  (bif (decide (a1 < 0)) then some true else (some (decide (a1 ≥ (a0.length : Int))))).bind fun y2 => bif y2 then some (-1) else ((ix a0 a1).bind fun b4 => some (IntKind.wrap .i64 ((b4).toNat : Int)))

def ms_l4Digits_l1 (N : Nat) : Nat → (LU × Int) → Option Int
  | 0, _ => none
  | n1 + 1, (a0, a1) => (ms_l4Byte a0 a1).bind fun r33 => (ms_IsDigit r33).bind fun r34 => bif r34 then (ms_l4Digits_l1 N n1) (a0, (IntKind.wrap .i64 (a1 + 1))) else (some a1)
def ms_l4Digits (N : Nat) (a0 : LU) (a1 : Int) : Option Int :=
  ms_l4Digits_l1 N N (a0, a1)

def ms_NumEnd_k2 (N : Nat) : Int → Option Int
  | y9 => some y9
def ms_NumEnd_k3 (N : Nat) : (LU × Int × Int) → Option Int
  | (a0, y9, y40) => (ms_l4Digits N a0 y40).bind fun r42 => bif (decide (r42 > y40)) then (ms_l4Digits N a0 y40).bind fun r44 => some r44 else (ms_NumEnd_k2 N y9)
def ms_NumEnd_k1 (N : Nat) : (LU × Int × Int) → Option Int
  | (a0, a1, y9) => bif (y9 == a1) then some (-1) else (((ms_l4Byte a0 y9).bind fun r33 => bif (r33 == 101) then some true else ((ms_l4Byte a0 y9).bind fun r34 => some (r34 == 69))).bind fun y32 => bif y32 then ((ms_l4Byte a0 (IntKind.wrap .i64 (y9 + 1))).bind fun r48 => bif (r48 == 43) then some true else ((ms_l4Byte a0 (IntKind.wrap .i64 (y9 + 1))).bind fun r49 => some (r49 == 45))).bind fun y47 => bif y47 then ms_NumEnd_k3 N (a0, y9, (IntKind.wrap .i64 ((IntKind.wrap .i64 (y9 + 1)) + 1))) else (ms_NumEnd_k3 N (a0, y9, (IntKind.wrap .i64 (y9 + 1)))) else (ms_NumEnd_k2 N y9))
def ms_NumEnd (N : Nat) (a0 : LU) (a1 : Int) : Option Int :=
  bif (decide (a1 < 0)) then some (-1) else ((ms_l4Digits N a0 a1).bind fun r2 => (ms_l4Byte a0 r2).bind fun r51 => bif (r51 == 46) then (ms_l4Digits N a0 (IntKind.wrap .i64 (r2 + 1))).bind fun r53 => (bif (r2 == a1) then some (r53 == (IntKind.wrap .i64 (r2 + 1))) else (some false)).bind fun y55 => bif y55 then some (-1) else (ms_NumEnd_k1 N (a0, a1, r53)) else (ms_NumEnd_k1 N (a0, a1, r2)))

def ms_l4Quoted_k2 (N : Nat) (kb1 : (LU × Int × Int) → Option Int) : (LU × Int × Int) → Option Int
  | (a0, a2, y58) => kb1 (a0, a2, (IntKind.wrap .i64 (y58 + 1)))
def ms_l4Quoted_l1 (N : Nat) : Nat → (LU × Int × Int) → Option Int
  | 0, _ => none
  | n1 + 1, (a0, a2, y43) => bif (decide (y43 < (a0.length : Int))) then (ix a0 y43).bind fun b60 => bif ((IntKind.wrap .i64 ((b60).toNat : Int)) == a2) then some (IntKind.wrap .i64 (y43 + 1)) else (bif ((IntKind.wrap .i64 ((b60).toNat : Int)) == 10) then some (-1) else (bif ((IntKind.wrap .i64 ((b60).toNat : Int)) == 92) then (ms_l4Byte a0 (IntKind.wrap .i64 (y43 + 1))).bind fun r62 => bif (r62 == 10) then some (-1) else (ms_l4Quoted_k2 N (ms_l4Quoted_l1 N n1) (a0, a2, (IntKind.wrap .i64 (y43 + 1)))) else (ms_l4Quoted_k2 N (ms_l4Quoted_l1 N n1) (a0, a2, y43)))) else (some (-1))
def ms_l4Quoted (N : Nat) (a0 : LU) (a1 : Int) (a2 : Int) : Option Int :=
  (ms_l4Byte a0 a1).bind fun r4 => bif (r4 != a2) then some (-1) else (ms_l4Quoted_l1 N N (a0, a2, (IntKind.wrap .i64 (a1 + 1))))

def ms_StrEnd (N : Nat) (a0 : LU) (a1 : Int) : Option Int :=
  (ms_l4Quoted N a0 a1 34).bind fun r2 => some r2

def ms_EreEnd (N : Nat) (a0 : LU) (a1 : Int) : Option Int :=
  (ms_l4Quoted N a0 a1 47).bind fun r2 => bif (r2 == (IntKind.wrap .i64 (a1 + 2))) then some (-1) else (some r2)

def ms_l3Signs : Option LLU :=
  some [[123], [125], [40], [41], [91], [93], [44], [59], [43, 61], [45, 61], [42, 61], [47, 61], [37, 61], [94, 61], [124, 124], [38, 38], [33, 126], [61, 61], [60, 61], [62, 61], [33, 61], [43, 43], [45, 45], [62, 62], [61], [43], [45], [42], [47], [37], [94], [33], [62], [60], [124], [63], [58], [126], [36]]

def ms_SpellOf (a0 : Int) : Option LU :=
  bif (a0 == 1) then some [10] else ((ms_l1In a0 10 26).bind fun r14 => bif r14 then Option.bind ms_l3Words fun r17 => (ix r17 (IntKind.wrap .i64 (a0 - 10))).bind fun e18 => some e18 else ((ms_l1In a0 30 68).bind fun r20 => bif r20 then Option.bind ms_l3Signs fun r23 => (ix r23 (IntKind.wrap .i64 (a0 - 30))).bind fun e24 => some e24 else (some [])))

def ms_TokenOk_k1 (N : Nat) : (SToken × Bool) → Option Bool
  | (a0, y30) => bif y30 then (ms_NameOk N a0.Text).bind fun r32 => some r32 else (bif (a0.Kind == 8) then (ms_IsBuiltin N a0.Text).bind fun r34 => some r34 else ((bif (!(a0.Text == [])) then (ms_SpellOf a0.Kind).bind fun r37 => some (r37 == a0.Text) else (some false)).bind fun y36 => some y36))
def ms_TokenOk (N : Nat) (a0 : SToken) : Option Bool :=
  bif (a0.Kind == 2) then (bif (decide ((a0.Text.length : Int) > 0)) then (ix a0.Text 0).bind fun b21 => bif (((b21).toNat : Int) == 35) then (ms_l4Plain N a0.Text).bind fun r22 => some r22 else (some false) else (some false)).bind fun y20 => some y20 else (bif (a0.Kind == 3) then (bif (decide ((a0.Text.length : Int) > 0)) then (ms_NumEnd N a0.Text 0).bind fun r25 => some (r25 == (a0.Text.length : Int)) else (some false)).bind fun y24 => some y24 else (bif (a0.Kind == 4) then (ms_StrEnd N a0.Text 0).bind fun r27 => some (r27 == (a0.Text.length : Int)) else (bif (a0.Kind == 5) then (ms_EreEnd N a0.Text 0).bind fun r29 => some (r29 == (a0.Text.length : Int)) else (bif (a0.Kind == 6) then ms_TokenOk_k1 N (a0, (a0.Kind == 6)) else (ms_TokenOk_k1 N (a0, (a0.Kind == 7)))))))

def ms_l7Text_k1 (N : Nat) : (SNode × Bool) → Option Bool
  | (a0, y26) => bif y26 then ((ms_NameOk N a0.Text).bind fun r29 => bif r29 then some (a0.Other == []) else (some false)).bind fun y28 => some y28 else (bif (a0.Kind == 2) then ((ms_TokenOk N (⟨3, a0.Text, 0⟩ : SToken)).bind fun r32 => bif r32 then some (a0.Other == []) else (some false)).bind fun y31 => some y31 else (bif (a0.Kind == 3) then ((ms_TokenOk N (⟨4, a0.Text, 0⟩ : SToken)).bind fun r35 => bif r35 then some (a0.Other == []) else (some false)).bind fun y34 => some y34 else (bif (a0.Kind == 4) then ((ms_TokenOk N (⟨5, a0.Text, 0⟩ : SToken)).bind fun r38 => bif r38 then some (a0.Other == []) else (some false)).bind fun y37 => some y37 else (bif (a0.Kind == 34) then ((ms_TokenOk N (⟨2, a0.Text, 0⟩ : SToken)).bind fun r41 => bif r41 then some (a0.Other == []) else (some false)).bind fun y40 => some y40 else (bif (a0.Kind == 8) then ((ms_IsBuiltin N a0.Text).bind fun r44 => bif r44 then some (a0.Other == []) else (some false)).bind fun y43 => some y43 else (bif (a0.Kind == 32) then ((ms_NameOk N a0.Text).bind fun r48 => bif r48 then (ms_NameOk N a0.Other).bind fun r49 => some r49 else (some false)).bind fun y47 => some y47 else (bif (a0.Kind == 21) then (bif (a0.Text == []) then bif (a0.Other == []) then some true else (bif (a0.Other == [62]) then some true else (bif (a0.Other == [62, 62]) then some true else (some (a0.Other == [124])))) else (some false)).bind fun y50 => some y50 else ((bif (a0.Text == []) then some (a0.Other == []) else (some false)).bind fun y51 => some y51))))))))
def ms_l7Text (N : Nat) (a0 : SNode) : Option Bool :=
  bif (a0.Kind == 1) then ms_l7Text_k1 N (a0, (a0.Kind == 1)) else (bif (a0.Kind == 5) then ms_l7Text_k1 N (a0, (a0.Kind == 5)) else (bif (a0.Kind == 7) then ms_l7Text_k1 N (a0, (a0.Kind == 7)) else (bif (a0.Kind == 13) then ms_l7Text_k1 N (a0, (a0.Kind == 13)) else (bif (a0.Kind == 27) then ms_l7Text_k1 N (a0, (a0.Kind == 27)) else (ms_l7Text_k1 N (a0, (a0.Kind == 44)))))))

def ms_FieldsOk (N : Nat) (a0 : SNode) : Option Bool :=
  (ms_l7Many a0).bind fun r2 => ((ms_l1In a0.Kind 1 16).bind fun r7 => bif r7 then some true else ((ms_l1In a0.Kind 20 34).bind fun r8 => bif r8 then some true else ((ms_l1In a0.Kind 40 45).bind fun r9 => some r9))).bind fun y6 => (bif y6 then (ms_l7Op a0).bind fun r14 => bif r14 then (ms_l7Text N a0).bind fun r15 => bif r15 then (ms_l1In (a0.Kids.length : Int) r2.1 r2.2).bind fun r16 => some r16 else (some false) else (some false) else (some false)).bind fun y13 => some y13

def ms_IsLvalue (a0 : Int) : Option Bool :=
  (bif (a0 == 1) then some true else (bif (a0 == 5) then some true else (some (a0 == 6)))).bind fun y1 => some y1

def ms_IsExpr (a0 : Int) : Option Bool :=
  (ms_l1In a0 1 15).bind fun r2 => some r2

def ms_IsStmt (a0 : Int) : Option Bool :=
  (ms_l1In a0 20 34).bind fun r2 => some r2

def ms_l7Kid_k2 : (Int × Int × SNode × Bool) → Option Bool
  | (a1, a2, a0, y74) => bif y74 then some (a2 == 33) else (bif (a0.Kind == 33) then (ms_IsStmt a2).bind fun r76 => some r76 else (bif (a0.Kind == 42) then (bif (a0.Op == 1) then (ms_IsExpr a2).bind fun r87 => bif r87 then some true else (bif (a0.Op == 2) then bif (a2 == 33) then some true else (bif (a0.Op == 3) then bif (a1 == (IntKind.wrap .i64 ((a0.Kids.length : Int) - 1))) then bif (a2 == 33) then some true else (bif (!(a1 == (IntKind.wrap .i64 ((a0.Kids.length : Int) - 1)))) then (ms_IsExpr a2).bind fun r88 => some r88 else (some false)) else (bif (!(a1 == (IntKind.wrap .i64 ((a0.Kids.length : Int) - 1)))) then (ms_IsExpr a2).bind fun r89 => some r89 else (some false)) else (some false)) else (bif (a0.Op == 3) then bif (a1 == (IntKind.wrap .i64 ((a0.Kids.length : Int) - 1))) then bif (a2 == 33) then some true else (bif (!(a1 == (IntKind.wrap .i64 ((a0.Kids.length : Int) - 1)))) then (ms_IsExpr a2).bind fun r90 => some r90 else (some false)) else (bif (!(a1 == (IntKind.wrap .i64 ((a0.Kids.length : Int) - 1)))) then (ms_IsExpr a2).bind fun r91 => some r91 else (some false)) else (some false))) else (bif (a0.Op == 2) then bif (a2 == 33) then some true else (bif (a0.Op == 3) then bif (a1 == (IntKind.wrap .i64 ((a0.Kids.length : Int) - 1))) then bif (a2 == 33) then some true else (bif (!(a1 == (IntKind.wrap .i64 ((a0.Kids.length : Int) - 1)))) then (ms_IsExpr a2).bind fun r92 => some r92 else (some false)) else (bif (!(a1 == (IntKind.wrap .i64 ((a0.Kids.length : Int) - 1)))) then (ms_IsExpr a2).bind fun r93 => some r93 else (some false)) else (some false)) else (bif (a0.Op == 3) then bif (a1 == (IntKind.wrap .i64 ((a0.Kids.length : Int) - 1))) then bif (a2 == 33) then some true else (bif (!(a1 == (IntKind.wrap .i64 ((a0.Kids.length : Int) - 1)))) then (ms_IsExpr a2).bind fun r94 => some r94 else (some false)) else (bif (!(a1 == (IntKind.wrap .i64 ((a0.Kids.length : Int) - 1)))) then (ms_IsExpr a2).bind fun r95 => some r95 else (some false)) else (some false)))).bind fun y86 => some y86 else (bif (a0.Kind == 43) then (bif (decide (a1 < 2)) then (ms_IsExpr a2).bind fun r98 => bif r98 then some true else (bif (a1 == 2) then some (a2 == 33) else (some false)) else (bif (a1 == 2) then some (a2 == 33) else (some false))).bind fun y97 => some y97 else (bif (a0.Kind == 44) then (bif (a1 == (IntKind.wrap .i64 ((a0.Kids.length : Int) - 1))) then bif (a2 == 33) then some true else (bif (!(a1 == (IntKind.wrap .i64 ((a0.Kids.length : Int) - 1)))) then some (a2 == 1) else (some false)) else (bif (!(a1 == (IntKind.wrap .i64 ((a0.Kids.length : Int) - 1)))) then some (a2 == 1) else (some false))).bind fun y99 => some y99 else (bif (a0.Kind == 45) then ((ms_l1In a2 40 44).bind fun r102 => bif r102 then some true else (some (a2 == 34))).bind fun y101 => some y101 else ((ms_IsExpr a2).bind fun r104 => some r104))))))
def ms_l7Kid_k1 : (Int × Int × SNode × Bool) → Option Bool
  | (a1, a2, a0, y52) => bif y52 then (ms_IsLvalue a2).bind fun r54 => some r54 else (bif (a0.Kind == 15) then ((ms_IsExpr a2).bind fun r58 => bif r58 then bif (decide (a1 > 0)) then some true else ((ms_IsLvalue a2).bind fun r59 => some r59) else (some false)).bind fun y57 => some y57 else (bif (a0.Kind == 28) then (bif (a1 == 0) then (ms_IsExpr a2).bind fun r62 => bif r62 then some true else (bif (decide (a1 > 0)) then some (a2 == 33) else (some false)) else (bif (decide (a1 > 0)) then some (a2 == 33) else (some false))).bind fun y61 => some y61 else (bif (a0.Kind == 29) then (bif (a1 == 0) then (ms_IsExpr a2).bind fun r65 => bif r65 then some true else (bif (a1 == 1) then some (a2 == 33) else (some false)) else (bif (a1 == 1) then some (a2 == 33) else (some false))).bind fun y64 => some y64 else (bif (a0.Kind == 30) then (bif (a1 == 0) then bif (a2 == 33) then some true else (bif (a1 == 1) then (ms_IsExpr a2).bind fun r69 => some r69 else (some false)) else (bif (a1 == 1) then (ms_IsExpr a2).bind fun r70 => some r70 else (some false))).bind fun y68 => some y68 else (bif (a0.Kind == 31) then (bif (decide (a1 < 3)) then (ms_IsExpr a2).bind fun r73 => bif r73 then some true else (bif (a2 == 16) then some true else (bif (a1 == 3) then some (a2 == 33) else (some false))) else (bif (a1 == 3) then some (a2 == 33) else (some false))).bind fun y72 => some y72 else (bif (a0.Kind == 32) then ms_l7Kid_k2 (a1, a2, a0, (a0.Kind == 32)) else (bif (a0.Kind == 40) then ms_l7Kid_k2 (a1, a2, a0, (a0.Kind == 40)) else (ms_l7Kid_k2 (a1, a2, a0, (a0.Kind == 41))))))))))
def ms_l7Kid (a0 : SNode) (a1 : Int) (a2 : Int) : Option Bool :=
  bif (a0.Kind == 9) then ms_l7Kid_k1 (a1, a2, a0, (a0.Kind == 9)) else (ms_l7Kid_k1 (a1, a2, a0, (a0.Kind == 10)))

def ms_TreeOk_l2 (N : Nat) (kb1 : (LN × Int) → Option Bool) : Nat → (LN × Int × Int) → Option Bool
  | 0, _ => none
  | n2 + 1, (a0, y669, y949) => (ix a0 y669).bind fun e978 => bif (decide (y949 < (e978.Kids.length : Int))) then (ix a0 y669).bind fun e994 => (ix a0 y669).bind fun e995 => (ix e995.Kids y949).bind fun e996 => (ix a0 e996).bind fun e997 => (ms_l7Kid e994 y949 e997.Kind).bind fun r998 => bif (!r998) then some false else ((ms_TreeOk_l2 N kb1 n2) (a0, y669, (IntKind.wrap .i64 (y949 + 1)))) else (kb1 (a0, (IntKind.wrap .i64 (y669 + 1))))
def ms_TreeOk_l1 (N : Nat) : Nat → (LN × Int) → Option Bool
  | 0, _ => none
  | n1 + 1, (a0, y669) => bif (decide (y669 < (a0.length : Int))) then (ix a0 y669).bind fun e923 => (ms_FieldsOk N e923).bind fun r924 => bif (!r924) then some false else (ms_TreeOk_l2 N (ms_TreeOk_l1 N n1) N (a0, y669, 0)) else (some true)
def ms_TreeOk (N : Nat) (a0 : LN) : Option Bool :=
  ((ms_ShapeOk N a0).bind fun r9 => bif (!r9) then some true else ((ms_DepthOf N a0).bind fun r10 => some (decide (r10 > 40)))).bind fun y8 => bif y8 then some false else (ms_TreeOk_l1 N N (a0, 0))

def ms_ExprOk (N : Nat) (a0 : LN) : Option Bool :=
  ((ms_TreeOk N a0).bind fun r5 => bif r5 then (ix a0 (IntKind.wrap .i64 ((a0.length : Int) - 1))).bind fun e6 => (ms_IsExpr e6.Kind).bind fun r7 => some r7 else (some false)).bind fun y4 => some y4

def ml_at (a0 : LU) (a1 : Int) : Option Int :=
  bif (decide (a1 < (a0.length : Int))) then (ix a0 a1).bind fun e4 => some (IntKind.wrap .i64 ((e4).toNat : Int)) else (some (Int.tmod (IntKind.wrap .i64 ((IntKind.wrap .i64 (a1 * 37)) + (IntKind.wrap .i64 ((a0.length : Int) * 11)))) 256))

def ms_VarOf_l1 (N : Nat) : Nat → ((List SBind) × LU × Int) → Option Int
  | 0, _ => none
  | n1 + 1, (a0, a1, y35) => bif (decide (y35 < (a0.length : Int))) then (ix a0 y35).bind fun e50 => bif (e50.Name == a1) then (ix a0 y35).bind fun e52 => some e52.Val else ((ms_VarOf_l1 N n1) (a0, a1, (IntKind.wrap .i64 (y35 + 1)))) else (some 0)
def ms_VarOf (N : Nat) (a0 : List SBind) (a1 : LU) : Option Int :=
  ms_VarOf_l1 N N (a0, a1, 0)

def ms_Dec_k2 (N : Nat) (kb1 : (Int × Int × LU) → Option LU) : (Int × LU × Int × Int) → Option LU
  | (y17, y18, a0, y24) => (cat [(bytI (IntKind.wrap .i64 (48 + y24)))] y18).bind fun s26 => kb1 (a0, (IntKind.wrap .i64 (Int.tdiv y17 10)), s26)
def ms_Dec_l1 (N : Nat) : Nat → (Int × Int × LU) → Option LU
  | 0, _ => none
  | n1 + 1, (a0, y17, y18) => bif (y17 != 0) then bif (decide ((Int.tmod y17 10) < 0)) then ms_Dec_k2 N (ms_Dec_l1 N n1) (y17, y18, a0, (IntKind.wrap .i64 (0 - (Int.tmod y17 10)))) else (ms_Dec_k2 N (ms_Dec_l1 N n1) (y17, y18, a0, (Int.tmod y17 10))) else (bif (decide (a0 < 0)) then (cat ([45] : LU) y18).bind fun s30 => some s30 else (some y18))
def ms_Dec (N : Nat) (a0 : Int) : Option LU :=
  bif (a0 == 0) then some [48] else (ms_Dec_l1 N N (a0, a0, []))

def ms_ReadDec_k2 (N : Nat) (kb1 : (LU × Int × Int × Int) → Option (Int × Bool)) : (LU × Int × Int × Int) → Option (Int × Bool)
  | (a0, y81, y112, y113) => kb1 (a0, y112, y113, (IntKind.wrap .i64 (y81 + 1)))
def ms_ReadDec_k3 (N : Nat) (kb1 : (LU × Int × Int × Int) → Option (Int × Bool)) : (LU × Int × Int) → Option (Int × Bool)
  | (a0, y80, y124) => (bif (decide (y80 > 9)) then some true else (bif (decide ((a0.length : Int) > 10)) then some true else ((ms_Dec N y124).bind fun r130 => some (!(r130 == a0))))).bind fun y129 => bif y129 then some (0, false) else (some (y124, true))
def ms_ReadDec_l1 (N : Nat) : Nat → (LU × Int × Int × Int) → Option (Int × Bool)
  | 0, _ => none
  | n1 + 1, (a0, y79, y80, y81) => (bif (decide (y81 < (a0.length : Int))) then some (decide (y81 < 11)) else (some false)).bind fun y104 => bif y104 then ((ix a0 y81).bind fun b117 => bif (decide (((b117).toNat : Int) ≥ 48)) then (ix a0 y81).bind fun b118 => some (decide (((b118).toNat : Int) ≤ 57)) else (some false)).bind fun y116 => bif y116 then (ix a0 y81).bind fun b120 => ms_ReadDec_k2 N (ms_ReadDec_l1 N n1) (a0, y81, (IntKind.wrap .i64 ((IntKind.wrap .i64 (y79 * 10)) + (IntKind.wrap .i64 (IntKind.wrap .u8 (((b120).toNat : Int) - 48))))), (IntKind.wrap .i64 (y80 + 1))) else (ms_ReadDec_k2 N (ms_ReadDec_l1 N n1) (a0, y81, y79, y80)) else ((bif (decide ((a0.length : Int) > 0)) then (ix a0 0).bind fun b133 => some (((b133).toNat : Int) == 45) else (some false)).bind fun y132 => bif y132 then ms_ReadDec_k3 N (ms_ReadDec_l1 N n1) (a0, y80, (IntKind.wrap .i64 (0 - y79))) else (ms_ReadDec_k3 N (ms_ReadDec_l1 N n1) (a0, y80, y79)))
def ms_ReadDec (N : Nat) (a0 : LU) : Option (Int × Bool) :=
  ms_ReadDec_l1 N N (a0, 0, 0, 0)

def ms_Numeral (N : Nat) (a0 : LU) : Option (Int × Bool) :=
  (ms_ReadDec N a0).bind fun r2 => (bif (!r2.2) then some true else (some (decide (r2.1 < 0)))).bind fun y4 => bif y4 then some (0, false) else (some (r2.1, true))

def ms_l27Bool (a0 : Bool) : Option Int :=
  bif a0 then some 1 else (some 0)

def ms_l27Two (a0 : Int) (a1 : Int) (a2 : Int) : Option (Int × Bool) :=
  bif (a0 == 55) then some ((IntKind.wrap .i64 (a1 + a2)), true) else (bif (a0 == 56) then some ((IntKind.wrap .i64 (a1 - a2)), true) else (bif (a0 == 57) then some ((IntKind.wrap .i64 (a1 * a2)), true) else (bif (a0 == 59) then bif (a2 == 0) then some (0, false) else ((remO a1 a2).bind fun x16 => some (x16, true)) else (bif (a0 == 63) then (ms_l27Bool (decide (a1 < a2))).bind fun r18 => some (r18, true) else (bif (a0 == 48) then (ms_l27Bool (decide (a1 ≤ a2))).bind fun r20 => some (r20, true) else (bif (a0 == 47) then (ms_l27Bool (a1 == a2)).bind fun r22 => some (r22, true) else (bif (a0 == 50) then (ms_l27Bool (a1 != a2)).bind fun r24 => some (r24, true) else (bif (a0 == 62) then (ms_l27Bool (decide (a1 > a2))).bind fun r26 => some (r26, true) else (bif (a0 == 49) then (ms_l27Bool (decide (a1 ≥ a2))).bind fun r28 => some (r28, true) else (some (0, false)))))))))))

structure Rec9 where
  ms_l27Lazy : LN → SNode → (List SBind) → Option (Int × Bool)
  ms_l27Node : LN → SNode → (List SBind) → Option (Int × Bool)
  ms_l27At : LN → Int → (List SBind) → Option (Int × Bool)

def ms_l27Lazy_F (N : Nat) (R : Rec9) (a0 : LN) (a1 : SNode) (a2 : List SBind) : Option (Int × Bool) :=
  (ix a1.Kids 0).bind fun e3 => (R.ms_l27At a0 e3 a2).bind fun r4 => bif (!r4.2) then some (0, false) else (bif ((r4.1 != 0) == (a1.Op == 44)) then (ms_l27Bool (r4.1 != 0)).bind fun r8 => some (r8, true) else ((ix a1.Kids 1).bind fun e11 => (R.ms_l27At a0 e11 a2).bind fun r12 => (ms_l27Bool (r12.1 != 0)).bind fun r14 => some (r14, r12.2)))

def ms_l27Node_k1 (N : Nat) (R : Rec9) : (LN × (List SBind) × (Int × Bool) × SNode × Int) → Option (Int × Bool)
  | (a0, a2, r66, a1, y67) => bif (!r66.2) then some (0, false) else ((ix a1.Kids y67).bind fun e70 => (R.ms_l27At a0 e70 a2).bind fun r71 => some (r71.1, r71.2))
def ms_l27Node_F (N : Nat) (R : Rec9) (a0 : LN) (a1 : SNode) (a2 : List SBind) : Option (Int × Bool) :=
  bif (a1.Kind == 1) then (ms_VarOf N a2 a1.Text).bind fun r46 => some (r46, true) else (bif (a1.Kind == 2) then (ms_Numeral N a1.Text).bind fun r48 => some (r48.1, r48.2) else (bif (a1.Kind == 11) then (ix a1.Kids 0).bind fun e51 => (R.ms_l27At a0 e51 a2).bind fun r52 => bif (a1.Op == 61) then (bif (r52.1 == 0) then (ms_l27Bool r52.2).bind fun r61 => some r61 else ((ms_l27Bool false).bind fun r62 => some r62)).bind fun y60 => some (y60, r52.2) else (bif (a1.Op == 56) then some ((IntKind.wrap .i64 (0 - r52.1)), r52.2) else (some (r52.1, r52.2))) else (bif (a1.Kind == 14) then (ix a1.Kids 0).bind fun e65 => (R.ms_l27At a0 e65 a2).bind fun r66 => bif (r66.1 != 0) then ms_l27Node_k1 N R (a0, a2, r66, a1, 1) else (ms_l27Node_k1 N R (a0, a2, r66, a1, 2)) else (bif (a1.Kind == 12) then (bif (a1.Op == 45) then some true else (some (a1.Op == 44))).bind fun y75 => bif y75 then (R.ms_l27Lazy a0 a1 a2).bind fun r77 => some (r77.1, r77.2) else ((ix a1.Kids 0).bind fun e80 => (R.ms_l27At a0 e80 a2).bind fun r81 => (ix a1.Kids 1).bind fun e84 => (R.ms_l27At a0 e84 a2).bind fun r85 => (ms_l27Two a1.Op r81.1 r85.1).bind fun r87 => (bif r87.2 then bif r81.2 then some r85.2 else (some false) else (some false)).bind fun y88 => some (r87.1, y88)) else (some (0, false))))))

def ms_l27At_F (N : Nat) (R : Rec9) (a0 : LN) (a1 : Int) (a2 : List SBind) : Option (Int × Bool) :=
  (ix a0 a1).bind fun e3 => (R.ms_l27Node a0 e3 a2).bind fun r4 => (bif (!r4.2) then some true else ((ms_l1In r4.1 (-1000000000) 1000000000).bind fun r10 => some (!r10))).bind fun y9 => bif y9 then some (0, false) else (some (r4.1, true))
def scc9 : Nat → Rec9
  | 0 => ⟨fun _ _ _ => none, fun _ _ _ => none, fun _ _ _ => none⟩
  | N + 1 => ⟨fun a0 a1 a2 => ms_l27Lazy_F N (scc9 N) a0 a1 a2, fun a0 a1 a2 => ms_l27Node_F N (scc9 N) a0 a1 a2, fun a0 a1 a2 => ms_l27At_F N (scc9 N) a0 a1 a2⟩
def ms_l27Lazy (N : Nat) (a0 : LN) (a1 : SNode) (a2 : List SBind) : Option (Int × Bool) := (scc9 N).ms_l27Lazy a0 a1 a2
def ms_l27Node (N : Nat) (a0 : LN) (a1 : SNode) (a2 : List SBind) : Option (Int × Bool) := (scc9 N).ms_l27Node a0 a1 a2
def ms_l27At (N : Nat) (a0 : LN) (a1 : Int) (a2 : List SBind) : Option (Int × Bool) := (scc9 N).ms_l27At a0 a1 a2

def ms_Eval (N : Nat) (a0 : LN) (a1 : List SBind) : Option (Int × Bool) :=
  (ms_ExprOk N a0).bind fun r4 => bif (!r4) then some (0, false) else ((ms_l27At N a0 (IntKind.wrap .i64 ((a0.length : Int) - 1)) a1).bind fun r6 => some (r6.1, r6.2))

def ms_l6Ints_l1 (N : Nat) : Nat → ((List Int) × (List Int) × Int) → Option Bool
  | 0, _ => none
  | n1 + 1, (a0, a1, y35) => bif (decide (y35 < (a0.length : Int))) then (ix a0 y35).bind fun e51 => (ix a1 y35).bind fun e52 => bif (e51 != e52) then some false else ((ms_l6Ints_l1 N n1) (a0, a1, (IntKind.wrap .i64 (y35 + 1)))) else (some true)
def ms_l6Ints (N : Nat) (a0 : List Int) (a1 : List Int) : Option Bool :=
  bif ((a0.length : Int) != (a1.length : Int)) then some false else (ms_l6Ints_l1 N N (a0, a1, 0))

def ms_SameTree_l1 (N : Nat) : Nat → (LN × LN × Int) → Option Bool
  | 0, _ => none
  | n1 + 1, (a0, a1, y187) => bif (decide (y187 < (a0.length : Int))) then ((ix a0 y187).bind fun e270 => (ix a1 y187).bind fun e271 => bif (e270.Kind != e271.Kind) then some true else ((ix a0 y187).bind fun e272 => (ix a1 y187).bind fun e273 => bif (e272.Op != e273.Op) then some true else ((ix a0 y187).bind fun e274 => (ix a1 y187).bind fun e275 => bif (!(e274.Text == e275.Text)) then some true else ((ix a0 y187).bind fun e276 => (ix a1 y187).bind fun e277 => bif (!(e276.Other == e277.Other)) then some true else ((ix a0 y187).bind fun e278 => (ix a1 y187).bind fun e279 => (ms_l6Ints N e278.Kids e279.Kids).bind fun r280 => some (!r280)))))).bind fun y269 => bif y269 then some false else ((ms_SameTree_l1 N n1) (a0, a1, (IntKind.wrap .i64 (y187 + 1)))) else (some true)
def ms_SameTree (N : Nat) (a0 : LN) (a1 : LN) : Option Bool :=
  bif ((a0.length : Int) != (a1.length : Int)) then some false else (ms_SameTree_l1 N N (a0, a1, 0))

def mi_Nots_k2 (N : Nat) (kb1 : (LN × Int × Int) → Option Int) : (LN × Int × Int) → Option Int
  | (a0, y34, y47) => kb1 (a0, y47, (IntKind.wrap .i64 (y34 + 1)))
def mi_Nots_l1 (N : Nat) : Nat → (LN × Int × Int) → Option Int
  | 0, _ => none
  | n1 + 1, (a0, y33, y34) => bif (decide (y34 < (a0.length : Int))) then (ix a0 y34).bind fun e49 => (bif (e49.Kind == 11) then some (e49.Op == 61) else (some false)).bind fun y50 => bif y50 then mi_Nots_k2 N (mi_Nots_l1 N n1) (a0, y34, (IntKind.wrap .i64 (y33 + 1))) else (mi_Nots_k2 N (mi_Nots_l1 N n1) (a0, y34, y33)) else (some y33)
def mi_Nots (N : Nat) (a0 : LN) : Option Int :=
  mi_Nots_l1 N N (a0, 0, 0)

def ms_Nots_k2 (N : Nat) (kb1 : (LN × Int × Int) → Option Int) : (LN × Int × Int) → Option Int
  | (a0, y50, y69) => kb1 (a0, y69, (IntKind.wrap .i64 (y50 + 1)))
def ms_Nots_l1 (N : Nat) : Nat → (LN × Int × Int) → Option Int
  | 0, _ => none
  | n1 + 1, (a0, y49, y50) => bif (decide (y50 < (a0.length : Int))) then ((ix a0 y50).bind fun e73 => bif (e73.Kind == 11) then (ix a0 y50).bind fun e74 => some (e74.Op == 61) else (some false)).bind fun y72 => bif y72 then ms_Nots_k2 N (ms_Nots_l1 N n1) (a0, y50, (IntKind.wrap .i64 (y49 + 1))) else (ms_Nots_k2 N (ms_Nots_l1 N n1) (a0, y50, y49)) else (some y49)
def ms_Nots (N : Nat) (a0 : LN) : Option Int :=
  ms_Nots_l1 N N (a0, 0, 0)

def ml_FnLogic_k2 (N : Nat) (kb1 : (LN × LN × (Int × Bool) × LN × Int × Int × Int × Int) → Option Bool) : (LN × LN × (Int × Bool) × Int × LN × Int × Int × Int) → Option Bool
  | (r6, r8, r32, y415, r10, r28, r29, r30) => kb1 (r6, r8, r32, r10, r28, r29, r30, (IntKind.wrap .i64 (y415 + 1)))
def ml_FnLogic_l1 (N : Nat) : Nat → (LN × LN × (Int × Bool) × LN × Int × Int × Int × Int) → Option Bool
  | 0, _ => none
  | n1 + 1, (r6, r8, r32, r10, r28, r29, r30, y415) => (bif (decide (y415 < (r8.length : Int))) then (ms_SameTree N r8 r6).bind fun r502 => some (!r502) else (some false)).bind fun y501 => bif y501 then ((ix r8 y415).bind fun e563 => bif (e563.Kind != 11) then some true else ((ix r8 y415).bind fun e564 => bif (e564.Op != 61) then some true else ((ix r8 y415).bind fun e565 => bif ((e565.Kids.length : Int) != 1) then some true else ((ix r8 y415).bind fun e566 => (ix e566.Kids 0).bind fun e567 => bif (decide (e567 < 0)) then some true else ((ix r8 y415).bind fun e568 => (ix e568.Kids 0).bind fun e569 => some (decide (e569 ≥ y415))))))).bind fun y562 => bif y562 then ml_FnLogic_k2 N (ml_FnLogic_l1 N n1) (r6, r8, r32, y415, r10, r28, r29, r30) else ((ix r8 y415).bind fun e573 => (ix e573.Kids 0).bind fun e574 => (ix r8 e574).bind fun e575 => (bif (e575.Kind == 12) then bif (e575.Op == 45) then some true else (bif (e575.Op == 44) then some true else (bif (e575.Op == 63) then some true else (some (e575.Op == 47)))) else (some false)).bind fun y576 => bif y576 then some false else (ml_FnLogic_k2 N (ml_FnLogic_l1 N n1) (r6, r8, r32, y415, r10, r28, r29, r30))) else (bif ((r10.length : Int) == 0) then ((ms_DepthOf N r6).bind fun r582 => bif (decide (r582 ≥ 38)) then some true else (some (decide ((r6.length : Int) > 200)))).bind fun y581 => some y581 else ((ms_Eval N r10 [(⟨[110], (Int.tmod r28 3)⟩ : SBind), (⟨[120], (IntKind.wrap .i64 (r29 - 100))⟩ : SBind), (⟨[121], (Int.tmod r30 4)⟩ : SBind)]).bind fun r584 => (bif (r584.2 == r32.2) then bif (!r32.2) then (mi_Nots N r6).bind fun r590 => (ms_Nots N r6).bind fun r591 => some (r590 == r591) else (bif ((r584.1 == 1) == (r32.1 == 0)) then (mi_Nots N r6).bind fun r592 => (ms_Nots N r6).bind fun r593 => some (r592 == r593) else (some false)) else (some false)).bind fun y589 => some y589))
def ml_FnLogic (N : Nat) (a0 : LU) : Option Bool :=
  (ml_big a0).bind fun r4 => bif r4 then some true else ((ms_DrawPushNot N a0).bind fun r6 => (mi_PushNot N r6).bind fun r8 => (mi_Negate N r6).bind fun r10 => (ms_ExprOk N r6).bind fun r19 => bif (!r19) then (bif ((r10.length : Int) == 0) then (ms_TreeOk N r8).bind fun r23 => (ms_TreeOk N r6).bind fun r24 => some (r23 == r24) else (some false)).bind fun y22 => some y22 else ((ml_at a0 2).bind fun r28 => (ml_at a0 0).bind fun r29 => (ml_at a0 1).bind fun r30 => (ms_Eval N r6 [(⟨[110], (Int.tmod r28 3)⟩ : SBind), (⟨[120], (IntKind.wrap .i64 (r29 - 100))⟩ : SBind), (⟨[121], (Int.tmod r30 4)⟩ : SBind)]).bind fun r32 => (ms_Eval N r8 [(⟨[110], (Int.tmod r28 3)⟩ : SBind), (⟨[120], (IntKind.wrap .i64 (r29 - 100))⟩ : SBind), (⟨[121], (Int.tmod r30 4)⟩ : SBind)]).bind fun r34 => (bif (r34.1 != r32.1) then some true else (some (!(r34.2 == r32.2)))).bind fun y36 => bif y36 then some false else (ml_FnLogic_l1 N N (r6, r8, r32, r10, r28, r29, r30, 0))))

end Go.Proofs.Tryz

/-
  Models of the functions that this seat reaches.
-/
import Derived.Test.YtjhcdnpbmppkkaaGreatDoorUTab
import Derived.Test.YtjhcdnpbmppkkaaGreatDoorUCore5
namespace Go.Proofs.Tryz
open Go.Av
set_option maxRecDepth 100000
set_option maxHeartbeats 8000000
set_option linter.unusedSimpArgs false
set_option linter.unusedVariables false

def tab_signs : List (List UInt8) := [[123], [125], [40], [41], [91], [93], [44], [59], [43, 61], [45, 61], [42, 61], [47, 61], [37, 61], [94, 61], [124, 124], [38, 38], [33, 126], [61, 61], [60, 61], [62, 61], [33, 61], [43, 43], [45, 45], [62, 62], [61], [43], [45], [42], [47], [37], [94], [33], [62], [60], [124], [63], [58], [126], [36]]
def tab_keywords : List (List UInt8) := [[66, 69, 71, 73, 78], [69, 78, 68], [102, 117, 110, 99, 116, 105, 111, 110], [105, 102], [101, 108, 115, 101], [119, 104, 105, 108, 101], [102, 111, 114], [100, 111], [98, 114, 101, 97, 107], [99, 111, 110, 116, 105, 110, 117, 101], [110, 101, 120, 116], [101, 120, 105, 116], [114, 101, 116, 117, 114, 110], [100, 101, 108, 101, 116, 101], [105, 110], [112, 114, 105, 110, 116], [112, 114, 105, 110, 116, 102]]
def tab_builtins : List (List UInt8) := [[97, 116, 97, 110, 50], [99, 108, 111, 115, 101], [99, 111, 115], [101, 120, 112], [103, 115, 117, 98], [105, 110, 100, 101, 120], [105, 110, 116], [108, 101, 110, 103, 116, 104], [108, 111, 103], [109, 97, 116, 99, 104], [114, 97, 110, 100], [115, 105, 110], [115, 112, 108, 105, 116], [115, 112, 114, 105, 110, 116, 102], [115, 113, 114, 116], [115, 114, 97, 110, 100], [115, 117, 98], [115, 117, 98, 115, 116, 114], [115, 121, 115, 116, 101, 109], [116, 111, 108, 111, 119, 101, 114], [116, 111, 117, 112, 112, 101, 114]]
def GG : Nat → Option (List V)
  | 1 => some (tab_signs.map V.s)
  | 2 => some (tab_keywords.map V.s)
  | 3 => some (tab_builtins.map V.s)
  | 6 => some (Lib.pow10Tab.map (numV .u64))
  | _ => none
def GS (l : List Nat) (g : Nat) : Option (List V) := bif l.contains g then GG g else none

theorem AC.gs {f : FuncId} {vs : List V} {H : Hp} {r : V} {H1 : Hp} {l l1 : List Nat} (h : AC Tryz.prog (GS l) f vs H r H1) (hs : (l.all fun g => l1.contains g) = true) : AC Tryz.prog (GS l1) f vs H r H1 := by
  refine Go.Av.AC.mono h fun g cs hg => ?_
  unfold GS at hg ⊢
  cases hc : l.contains g with
  | false => rw [hc] at hg; cases hg
  | true =>
    rw [hc] at hg
    have := List.all_eq_true.1 hs g (List.contains_iff_mem.1 hc)
    rw [this]
    exact hg

theorem mix : Tryz.prog.follows .mixedOrders = true := by kernel_rfl

theorem wR {G : Nat → Option (List V)} {ops : Array Oper} {draw : Bool} {T0 : List V} {H0 : Hp} {Q : St → Prop} (n q : Nat) {i : Nat} {T : List V} {H : Hp} {Es : List (Bool × Eff)} (k : W Tryz.prog G ops draw T0 H0 (i + n) (aftE D G ops n q i T H).T (aftE D G ops n q i T H).H (Es ++ (aftE D G ops n q i T H).Es) Q) (h : (runE D G ops n q i T H).isSome = true := by kernel_rfl) : W Tryz.prog G ops draw T0 H0 i T H Es Q := W.run Dk n q h k
theorem cV {G : Nat → Option (List V)} {L : Option Nat} (q : Nat) {id : Nat} {l : List Oper} {draw : Bool} {c : Code} {T : List V} {H : Hp} {Q : Exit → St → Prop} (k : CO L Tryz.prog G c ⟨(aftE D G l.toArray l.toArray.size q 0 T H).T, (aftE D G l.toArray l.toArray.size q 0 T H).H⟩ Q) (h : lzB D G l.toArray draw q T H = true := by kernel_rfl) : CO L Tryz.prog G (.seq (.region id l.toArray draw) c) ⟨T, H⟩ Q := cv Dk mix q k h
theorem cK {G : Nat → Option (List V)} {L : Option Nat} (q : Nat) {ι : Type} {J : ι → St} {R : ι → Prop} {id : Nat} {l : List Oper} {draw : Bool} {T : List V} {H : Hp} {Q : Exit → St → Prop} (hk : ∀ i, R i → ∀ st, Weak st (J i) → Q .normal st) (i : ι) (hi : R i) (m : Ren) (ks : List Nat) (h : jnC m ks (lzB D G l.toArray draw q T H) (aftE D G l.toArray l.toArray.size q 0 T H).T (aftE D G l.toArray l.toArray.size q 0 T H).H = (true, (J i).T, some (J i).H) := by kernel_rfl) : CO L Tryz.prog G (.region id l.toArray draw) ⟨T, H⟩ Q := ck Dk mix q hk i hi m ks h
theorem cC {G : Nat → Option (List V)} {L : Option Nat} (n q : Nat) {id : Nat} {l : List Oper} {draw : Bool} {c : Code} {T : List V} {H : Hp} {Q : Exit → St → Prop} {fid : FuncId} {vs : List V} {rc : V} (hA : AC Tryz.prog G fid vs [] rc []) (hcf : callOk Tryz.prog fid) (k : CO L Tryz.prog G c ⟨(ccR D G l.toArray n q rc T H).T, (ccR D G l.toArray n q rc T H).H⟩ Q) (h : ccC D G l.toArray draw n q rc T H = (true, some (fid, vs, []), rc) := by kernel_rfl) : CO L Tryz.prog G (.seq (.region id l.toArray draw) c) ⟨T, H⟩ Q := cc Dk mix n q hA hcf k h

theorem wD {G : Nat → Option (List V)} {ops : Array Oper} {draw : Bool} {T0 : List V} {H0 : Hp} {i : Nat} {T : List V} {H : Hp} {Es : List (Bool × Eff)} {Q : St → Prop} {fid : FuncId} {vs : List V} {Hc Hc' : Hp} {rc : V} (h : AC Tryz.prog G fid vs Hc rc Hc') (hcf : callOk Tryz.prog fid) (q m : Ren) {Z : List (Nat × List (List V))} (N : List Nat) (hZ : LayOk H Z) (k : W Tryz.prog G ops draw T0 H0 (i + 1) (setO T (dstW ops i) (rc.rn m)) (keepH m Hc' ++ hrem (Z.map (·.1) ++ q.map (·.1)) H) (Es ++ [(true, { v := rc.rn m, C := Z.map (·.1) ++ q.map (·.1), new := keepH m Hc', N := N })]) Q) (hn : (namesOk q m (Z.map (·.1)) N && nodupH Hc') = true := by kernel_rfl) (hc : callW G ops q Z i T H = some (fid, vs, Hc) := by kernel_rfl) : W Tryz.prog G ops draw T0 H0 i T H Es Q := W.call h hcf q m N hZ hn hc k
theorem wC {G : Nat → Option (List V)} {ops : Array Oper} {draw : Bool} {T0 : List V} {H0 : Hp} {i : Nat} {T : List V} {H : Hp} {Es : List (Bool × Eff)} {Q : St → Prop} {fid : FuncId} {vs : List V} {Hc Hc' : Hp} {rc : V} (h : AC Tryz.prog G fid vs Hc rc Hc') (hcf : callOk Tryz.prog fid) (q m : Ren) (N : List Nat) (k : W Tryz.prog G ops draw T0 H0 (i + 1) (setO T (dstW ops i) (rc.rn m)) (keepH m Hc' ++ hrem (([] : List (Nat × List (List V))).map (·.1) ++ q.map (·.1)) H) (Es ++ [(true, { v := rc.rn m, C := ([] : List (Nat × List (List V))).map (·.1) ++ q.map (·.1), new := keepH m Hc', N := N })]) Q) (hn : (namesOk q m (([] : List (Nat × List (List V))).map (·.1)) N && nodupH Hc') = true := by kernel_rfl) (hc : callW G ops q [] i T H = some (fid, vs, Hc) := by kernel_rfl) : W Tryz.prog G ops draw T0 H0 i T H Es Q := W.call h hcf q m N (show LayOk _ [] from trivial) hn hc k
theorem w0 {G : Nat → Option (List V)} {ops : Array Oper} {draw : Bool} {T0 : List V} {H0 : Hp} {i : Nat} {T : List V} {H : Hp} {Es : List (Bool × Eff)} {Q : St → Prop} {fid : FuncId} {vs : List V} {rc : V} (h : AC Tryz.prog G fid vs [] rc []) (hcf : callOk Tryz.prog fid) (k : W Tryz.prog G ops draw T0 H0 (i + 1) (setO T (dstW ops i) rc) H (Es ++ [(true, { v := rc })]) Q) (hc : callW G ops [] [] i T H = some (fid, vs, []) := by kernel_rfl) (hr : rc.rn [] = rc := by rfl) : W Tryz.prog G ops draw T0 H0 i T H Es Q := W.call0 h hcf hr hc k
theorem wN {G : Nat → Option (List V)} {ops : Array Oper} {draw : Bool} {T0 : List V} {H0 : Hp} {i : Nat} {T : List V} {H : Hp} {Es : List (Bool × Eff)} {Q : St → Prop} {α : Type} (enc : α → List V) (l : List α) (R : List Nat) (k : W Tryz.prog G ops draw T0 H0 (i + 1) (setO T (dstW ops i) (V.i l.length)) H (Es ++ [(true, { v := V.i l.length, R := R })]) Q) (h : lenW G ops i T H = some (l.map enc, R) := by kernel_rfl) (hs : ((opW ops i T).bind (stepV D H (ev G T))).isSome = true := by kernel_rfl) : W Tryz.prog G ops draw T0 H0 i T H Es Q := W.len Dk enc l R h hs k
theorem wX {G : Nat → Option (List V)} {ops : Array Oper} {draw : Bool} {T0 : List V} {H0 : Hp} {i : Nat} {T : List V} {H : Hp} {Es : List (Bool × Eff)} {Q : St → Prop} {α : Type} (enc : α → List V) {l : List α} {n : Int} {x : α} (hx : ix l n = some x) (sz : Nat) (k : W Tryz.prog G ops draw T0 H0 (i + 1) (setO T (dstW ops i) (.el (enc x))) H (Es ++ [(true, { v := .el (enc x) })]) Q) (h : ixD D G ops i T = some (l.map enc, n, sz) := by kernel_rfl) (hs : (enc x).length = sz := by kernel_rfl) : W Tryz.prog G ops draw T0 H0 i T H Es Q := W.ixD Dk enc hx sz h hs k


structure SToken where
  Kind : Int
  Text : List UInt8
  At : Int
  deriving DecidableEq, Inhabited

def eTk (x : SToken) : List V := [V.i x.Kind, V.s x.Text, V.i x.At]

structure SFault where
  Kind : Int
  At : Int
  deriving DecidableEq, Inhabited

structure SNode where
  Kind : Int
  Op : Int
  Text : List UInt8
  Other : List UInt8
  Kids : List Int
  deriving DecidableEq, Inhabited

def eSN (b : Bool) (x : SNode) : List V := [V.i x.Kind, V.i x.Op, V.s x.Text, V.s x.Other, .sl false b (x.Kids.map eNI)]

theorem sh_eSN (b : Bool) (x : SNode) : V.shareL (eSN b x) = eSN false x := by
  simp only [eSN, V.shareL, V.share, V.i, V.s, V.b, shareR_map (enc := eNI) (enc' := eNI) (fun _ => rfl)]

structure SPos where
  Level : Int
  Dollar : Bool
  NoIn : Bool
  NoGt : Bool
  NoSign : Bool
  deriving DecidableEq, Inhabited

structure SDNode where
  Kind : Int
  N : Int
  Text : List UInt8
  Kids : List Int
  deriving DecidableEq, Inhabited

def encSDNode (b : Bool) (x : SDNode) : List V := [V.i x.Kind, V.i x.N, V.s x.Text, .sl false b (x.Kids.map eNI)]

theorem share_encSDNode (b : Bool) (x : SDNode) : V.shareL (encSDNode b x) = encSDNode false x := by
  simp only [encSDNode, V.shareL, V.share, V.i, V.s, V.b, shareR_map (enc := eNI) (enc' := eNI) (fun _ => rfl)]

structure SL10W where
  l : List SNode
  full : Bool
  deriving DecidableEq, Inhabited

abbrev LU := List UInt8
abbrev LLU := List (List UInt8)
abbrev LT := List SToken
abbrev LN := List SNode
abbrev LD := List SDNode
abbrev wr (x : Int) : Int := IntKind.wrap .i64 x
abbrev sL {α : Type} (f : α → List V) (x : List α) : V := .sl false false (x.map f)
abbrev vX {α : Type} (t k : Nat) (f : α → List V) (x : List α) : Ob := .vec false t k (x.map f)
abbrev vN (x : LLU) : Ob := .vec false 9 1 (x.map eNS)
theorem lO {H : Hp} : LayOk H [] := trivial

def ml_big (a0 : LU) : Option Bool :=
  some (decide ((a0.length : Int) > 1048576))

def ms_l1New_l1 (N : Nat) : Nat → (LU × Int × Int) → Option (LU × Int × Int)
  | 0, _ => none
  | n1 + 1, (a0, y29, y30) => (bif (decide (y30 < (a0.length : Int))) then some (decide (y30 < 4000)) else (some false)).bind fun y40 => bif y40 then (ix a0 y30).bind fun e44 => (ms_l1New_l1 N n1) (a0, (bits .and .i64 (IntKind.wrap .i64 ((IntKind.wrap .i64 ((IntKind.wrap .i64 (y29 * 131)) + (IntKind.wrap .i64 ((e44).toNat : Int)))) + 7)) 1073741823), (IntKind.wrap .i64 (y30 + 1))) else (some (a0, 0, y29))
def ms_l1New (N : Nat) (a0 : LU) : Option (LU × Int × Int) :=
  ms_l1New_l1 N N (a0, (IntKind.wrap .i64 (10101 + (a0.length : Int))), 0)

def ms_l1Byte_k1 (pa : LU) : (Int × Int × Int) → Option (Int × Int × Int)
  | (pc, y3, y4) => some (y3, y4, (IntKind.wrap .i64 ((IntKind.wrap .i64 (pc * 6364136223846793005)) + 1442695040888963407)))
def ms_l1Byte (pa : LU) (pb : Int) (pc : Int) : Option (Int × Int × Int) :=
  bif (decide (pb < (pa.length : Int))) then (ix pa pb).bind fun e6 => ms_l1Byte_k1 pa (pc, (bits .and .i64 (IntKind.wrap .i64 ((bits .and .i64 (bits .xor .i64 (Int.fdiv (IntKind.wrap .i64 ((IntKind.wrap .i64 (pc * 6364136223846793005)) + 1442695040888963407)) (2 ^ (min 33 64))) (Int.fdiv (IntKind.wrap .i64 ((IntKind.wrap .i64 (pc * 6364136223846793005)) + 1442695040888963407)) (2 ^ (min 45 64)))) 255) + (IntKind.wrap .i64 ((e6).toNat : Int)))) 255), (IntKind.wrap .i64 (pb + 1))) else (ms_l1Byte_k1 pa (pc, (bits .and .i64 (bits .xor .i64 (Int.fdiv (IntKind.wrap .i64 ((IntKind.wrap .i64 (pc * 6364136223846793005)) + 1442695040888963407)) (2 ^ (min 33 64))) (Int.fdiv (IntKind.wrap .i64 ((IntKind.wrap .i64 (pc * 6364136223846793005)) + 1442695040888963407)) (2 ^ (min 45 64)))) 255), pb))

def ms_l1Below (a1 : Int) (pa : LU) (pb : Int) (pc : Int) : Option (Int × Int × Int) :=
  bif (decide (a1 ≤ 0)) then some (0, pb, pc) else (bif (decide (a1 ≤ 256)) then (ms_l1Byte pa pb pc).bind fun r7 => (remO r7.1 a1).bind fun x8 => some (x8, r7.2.1, r7.2.2) else ((ms_l1Byte pa pb pc).bind fun r10 => (ms_l1Byte pa r10.2.1 r10.2.2).bind fun r12 => (ms_l1Byte pa r12.2.1 r12.2.2).bind fun r14 => (ms_l1Byte pa r14.2.1 r14.2.2).bind fun r16 => (remO (IntKind.wrap .i64 ((IntKind.wrap .i64 ((IntKind.wrap .i64 ((IntKind.wrap .i64 (r10.1 * 16777216)) + (IntKind.wrap .i64 (r12.1 * 65536)))) + (IntKind.wrap .i64 (r14.1 * 256)))) + r16.1)) a1).bind fun x18 => some (x18, r16.2.1, r16.2.2)))

def ms_l1Pick (a1 : LLU) (pa : LU) (pb : Int) (pc : Int) : Option (LU × Int × Int) :=
  (ms_l1Below (a1.length : Int) pa pb pc).bind fun r3 => (ix a1 r3.1).bind fun e4 => some (e4, r3.2.1, r3.2.2)

def ms_l4Num (pa : LU) (pb : Int) (pc : Int) : Option (LU × Int × Int) :=
  (ms_l1Pick [[48], [49], [52, 50], [51, 46, 53], [46, 53], [55, 46], [49, 101, 51], [50, 69, 45, 52], [49, 48, 46, 50, 53, 101, 43, 49]] pa pb pc).bind fun r2 => some (r2.1, r2.2.1, r2.2.2)

def ms_l4Str (pa : LU) (pb : Int) (pc : Int) : Option (LU × Int × Int) :=
  (ms_l1Pick [[34, 34], [34, 97, 34], [34, 120, 32, 121, 34], [34, 113, 92, 34, 113, 34], [34, 92, 110, 34], [34, 35, 110, 111, 34], [34, 47, 34]] pa pb pc).bind fun r2 => some (r2.1, r2.2.1, r2.2.2)

def ms_l1Once (a1 : Int) (pa : LU) (pb : Int) (pc : Int) : Option (Bool × Int × Int) :=
  (ms_l1Below a1 pa pb pc).bind fun r2 => some ((r2.1 == 0), r2.2.1, r2.2.2)

def ms_l4Ere (pa : LU) (pb : Int) (pc : Int) : Option (LU × Int × Int) :=
  (ms_l1Pick [[47, 97, 47], [47, 94, 120, 43, 36, 47], [47, 97, 92, 47, 98, 47], [47, 61, 47], [47, 32, 47], [47, 91, 48, 45, 57, 93, 47]] pa pb pc).bind fun r2 => some (r2.1, r2.2.1, r2.2.2)

def ms_l2Word (pa : LU) (pb : Int) (pc : Int) : Option (LU × Int × Int) :=
  (ms_l1Pick [[120], [121], [110], [105], [97, 114, 114], [78, 82], [70, 83], [116, 111, 116, 97, 108], [97, 49], [95, 116], [99, 111, 117, 110, 116]] pa pb pc).bind fun r2 => some (r2.1, r2.2.1, r2.2.2)

def ms_l7Leaf_k1 (pa : LU) : (Int × Int) → Option (LN × Int × Int)
  | (y11, y12) => (ms_l2Word pa y11 y12).bind fun r14 => some ([(⟨1, 0, r14.1, [], []⟩ : SNode)], r14.2.1, r14.2.2)
def ms_l7Leaf (pa : LU) (pb : Int) (pc : Int) : Option (LN × Int × Int) :=
  (ms_l1Below 7 pa pb pc).bind fun r16 => bif (r16.1 == 0) then (ms_l4Num pa r16.2.1 r16.2.2).bind fun r18 => some ([(⟨2, 0, r18.1, [], []⟩ : SNode)], r18.2.1, r18.2.2) else (bif (r16.1 == 1) then (ms_l4Str pa r16.2.1 r16.2.2).bind fun r20 => some ([(⟨3, 0, r20.1, [], []⟩ : SNode)], r20.2.1, r20.2.2) else (bif (r16.1 == 2) then (ms_l1Once 2 pa r16.2.1 r16.2.2).bind fun r22 => bif r22.1 then (ms_l4Ere pa r22.2.1 r22.2.2).bind fun r24 => some ([(⟨4, 0, r24.1, [], []⟩ : SNode)], r24.2.1, r24.2.2) else (ms_l7Leaf_k1 pa (r22.2.1, r22.2.2)) else (ms_l7Leaf_k1 pa (r16.2.1, r16.2.2))))

def ms_l6Shift_l2 (N : Nat) (kb1 : (LN × Int × Int × LN) → Option LN) : Nat → (LN × Int × Int × LN × SNode × Int × (List Int)) → Option LN
  | 0, _ => none
  | n2 + 1, (a0, a1, y869, y870, e1198, y1267, y1268) => (ix a0 y869).bind fun e1290 => bif (decide (y1267 < (e1290.Kids.length : Int))) then (ix a0 y869).bind fun e1300 => (ix e1300.Kids y1267).bind fun e1301 => (app 8 y1268 [(IntKind.wrap .i64 (e1301 + a1))]).bind fun x1302 => (ms_l6Shift_l2 N kb1 n2) (a0, a1, y869, y870, e1198, (IntKind.wrap .i64 (y1267 + 1)), x1302) else ((app 72 y870 [(⟨e1198.Kind, e1198.Op, e1198.Text, e1198.Other, y1268⟩ : SNode)]).bind fun x1304 => kb1 (a0, a1, (IntKind.wrap .i64 (y869 + 1)), x1304))
def ms_l6Shift_l1 (N : Nat) : Nat → (LN × Int × Int × LN) → Option LN
  | 0, _ => none
  | n1 + 1, (a0, a1, y869, y870) => bif (decide (y869 < (a0.length : Int))) then (ix a0 y869).bind fun e1198 => ms_l6Shift_l2 N (ms_l6Shift_l1 N n1) N (a0, a1, y869, y870, e1198, 0, []) else (some y870)
def ms_l6Shift (N : Nat) (a0 : LN) (a1 : Int) : Option LN :=
  ms_l6Shift_l1 N N (a0, a1, 0, [])

def ms_l6Make_l1 (N : Nat) : Nat → ((List LN) × SNode × Int × LN × (List Int)) → Option LN
  | 0, _ => none
  | n1 + 1, (a1, a0, y71, y72, y73) => bif (decide (y71 < (a1.length : Int))) then (ix a1 y71).bind fun e104 => (ms_l6Shift N e104 (y72.length : Int)).bind fun r105 => (app 72 y72 r105).bind fun x106 => (app 8 y73 [(IntKind.wrap .i64 ((x106.length : Int) - 1))]).bind fun x108 => (ms_l6Make_l1 N n1) (a1, a0, (IntKind.wrap .i64 (y71 + 1)), x106, x108) else ((app 72 y72 [(⟨a0.Kind, a0.Op, a0.Text, a0.Other, y73⟩ : SNode)]).bind fun x110 => some x110)
def ms_l6Make (N : Nat) (a0 : SNode) (a1 : List LN) : Option LN :=
  ms_l6Make_l1 N N (a1, a0, 0, [], [])

def ms_l1PickInt (a1 : List Int) (pa : LU) (pb : Int) (pc : Int) : Option (Int × Int × Int) :=
  (ms_l1Below (a1.length : Int) pa pb pc).bind fun r3 => (ix a1 r3.1).bind fun e4 => some (e4, r3.2.1, r3.2.2)

def ms_l7BinOp (pa : LU) (pb : Int) (pc : Int) : Option (Int × Int × Int) :=
  (ms_l1PickInt [60, 57, 58, 59, 55, 56, 56, 99, 99, 99, 63, 48, 47, 50, 62, 62, 49, 67, 46, 45, 44] pa pb pc).bind fun r2 => some (r2.1, r2.2.1, r2.2.2)

structure Rec1 where
  ms_l7List : Int → Int → Int → LU → Int → Int → Option ((List LN) × Int × Int)
  ms_l7Lvalue : Int → LU → Int → Int → Option (LN × Int × Int)
  ms_l7Expr : Int → LU → Int → Int → Option (LN × Int × Int)

def ms_l7List_l1 (N : Nat) (R : Rec1) (pa : LU) : Nat → (Int × Int × Int × Int × (List LN)) → Option ((List LN) × Int × Int)
  | 0, _ => none
  | n1 + 1, (a3, y45, y46, y47, y48) => bif (decide (y45 > 0)) then (R.ms_l7Expr a3 pa y46 y47).bind fun r67 => (app 24 y48 [r67.1]).bind fun x68 => (ms_l7List_l1 N R pa n1) (a3, (IntKind.wrap .i64 (y45 - 1)), r67.2.1, r67.2.2, x68) else (some (y48, y46, y47))
def ms_l7List_F (N : Nat) (R : Rec1) (a1 : Int) (a2 : Int) (a3 : Int) (pa : LU) (pb : Int) (pc : Int) : Option ((List LN) × Int × Int) :=
  (ms_l1Below (IntKind.wrap .i64 ((IntKind.wrap .i64 (a2 - a1)) + 1)) pa pb pc).bind fun r36 => ms_l7List_l1 N R pa N (a3, (IntKind.wrap .i64 (a1 + r36.1)), r36.2.1, r36.2.2, [])

def ms_l7Lvalue_F (N : Nat) (R : Rec1) (a1 : Int) (pa : LU) (pb : Int) (pc : Int) : Option (LN × Int × Int) :=
  (ms_l1Below 4 pa pb pc).bind fun r14 => bif (r14.1 == 0) then (ms_l2Word pa r14.2.1 r14.2.2).bind fun r18 => (R.ms_l7Expr (IntKind.wrap .i64 (a1 - 1)) pa r18.2.1 r18.2.2).bind fun r19 => (ms_l6Make N (⟨5, 0, r18.1, [], []⟩ : SNode) [r19.1]).bind fun r20 => some (r20, r19.2.1, r19.2.2) else (bif (r14.1 == 1) then (R.ms_l7Expr (IntKind.wrap .i64 (a1 - 2)) pa r14.2.1 r14.2.2).bind fun r23 => (ms_l6Make N (⟨6, 0, [], [], []⟩ : SNode) [r23.1]).bind fun r24 => some (r24, r23.2.1, r23.2.2) else ((ms_l2Word pa r14.2.1 r14.2.2).bind fun r26 => some ([(⟨1, 0, r26.1, [], []⟩ : SNode)], r26.2.1, r26.2.2)))

def ms_l7Expr_k1 (N : Nat) (R : Rec1) (pa : LU) : (Int × (Int × Int × Int) × Bool) → Option (LN × Int × Int)
  | (a1, r67, y96) => bif y96 then (ms_l1PickInt [56, 55, 61] pa r67.2.1 r67.2.2).bind fun r100 => (R.ms_l7Expr (IntKind.wrap .i64 (a1 - 1)) pa r100.2.1 r100.2.2).bind fun r101 => (ms_l6Make N (⟨11, r100.1, [], [], []⟩ : SNode) [r101.1]).bind fun r102 => some (r102, r101.2.1, r101.2.2) else (bif (r67.1 == 9) then (ms_l2Word pa r67.2.1 r67.2.2).bind fun r106 => (R.ms_l7List 1 2 (IntKind.wrap .i64 (a1 - 1)) pa r106.2.1 r106.2.2).bind fun r107 => (ms_l6Make N (⟨13, 0, r106.1, [], []⟩ : SNode) r107.1).bind fun r108 => some (r108, r107.2.1, r107.2.2) else (bif (r67.1 == 10) then (R.ms_l7Expr (IntKind.wrap .i64 (a1 - 1)) pa r67.2.1 r67.2.2).bind fun r113 => (R.ms_l7Expr (IntKind.wrap .i64 (a1 - 1)) pa r113.2.1 r113.2.2).bind fun r114 => (R.ms_l7Expr (IntKind.wrap .i64 (a1 - 1)) pa r114.2.1 r114.2.2).bind fun r115 => (ms_l6Make N (⟨14, 0, [], [], []⟩ : SNode) [r113.1, r114.1, r115.1]).bind fun r116 => some (r116, r115.2.1, r115.2.2) else (bif (r67.1 == 11) then (ms_l1PickInt [54, 38, 43] pa r67.2.1 r67.2.2).bind fun r121 => (R.ms_l7Lvalue (IntKind.wrap .i64 (a1 - 1)) pa r121.2.1 r121.2.2).bind fun r122 => (R.ms_l7Expr (IntKind.wrap .i64 (a1 - 1)) pa r122.2.1 r122.2.2).bind fun r123 => (ms_l6Make N (⟨15, r121.1, [], [], []⟩ : SNode) [r122.1, r123.1]).bind fun r124 => some (r124, r123.2.1, r123.2.2) else ((ms_l7BinOp pa r67.2.1 r67.2.2).bind fun r129 => (R.ms_l7Expr (IntKind.wrap .i64 (a1 - 1)) pa r129.2.1 r129.2.2).bind fun r130 => (R.ms_l7Expr (IntKind.wrap .i64 (a1 - 1)) pa r130.2.1 r130.2.2).bind fun r131 => (ms_l6Make N (⟨12, r129.1, [], [], []⟩ : SNode) [r130.1, r131.1]).bind fun r132 => some (r132, r131.2.1, r131.2.2)))))
def ms_l7Expr_F (N : Nat) (R : Rec1) (a1 : Int) (pa : LU) (pb : Int) (pc : Int) : Option (LN × Int × Int) :=
  bif (decide (a1 ≤ 0)) then (ms_l7Leaf pa pb pc).bind fun r4 => some (r4.1, r4.2.1, r4.2.2) else ((ms_l1Below 2 pa pb pc).bind fun r6 => (ms_l1Below 16 pa r6.2.1 r6.2.2).bind fun r67 => bif (r67.1 == 0) then (ms_l7Leaf pa r67.2.1 r67.2.2).bind fun r69 => some (r69.1, r69.2.1, r69.2.2) else (bif (r67.1 == 1) then (R.ms_l7Lvalue a1 pa r67.2.1 r67.2.2).bind fun r71 => some (r71.1, r71.2.1, r71.2.2) else (bif (r67.1 == 2) then (R.ms_l7Expr (IntKind.wrap .i64 (a1 - 1)) pa r67.2.1 r67.2.2).bind fun r74 => (ms_l6Make N (⟨6, 0, [], [], []⟩ : SNode) [r74.1]).bind fun r75 => some (r75, r74.2.1, r74.2.2) else (bif (r67.1 == 3) then (ms_l2Word pa r67.2.1 r67.2.2).bind fun r79 => (R.ms_l7List 0 3 (IntKind.wrap .i64 (a1 - 1)) pa r79.2.1 r79.2.2).bind fun r80 => (ms_l6Make N (⟨7, 0, r79.1, [], []⟩ : SNode) r80.1).bind fun r81 => some (r81, r80.2.1, r80.2.2) else (bif (r67.1 == 4) then (ms_l1Pick [[108, 101, 110, 103, 116, 104], [115, 117, 98, 115, 116, 114], [105, 110, 100, 101, 120], [105, 110, 116], [116, 111, 117, 112, 112, 101, 114]] pa r67.2.1 r67.2.2).bind fun r85 => (R.ms_l7List 0 3 (IntKind.wrap .i64 (a1 - 2)) pa r85.2.1 r85.2.2).bind fun r86 => (ms_l6Make N (⟨8, 0, r85.1, [], []⟩ : SNode) r86.1).bind fun r87 => some (r87, r86.2.1, r86.2.2) else (bif (r67.1 == 5) then (R.ms_l7Lvalue (IntKind.wrap .i64 (a1 - 1)) pa r67.2.1 r67.2.2).bind fun r90 => (ms_l6Make N (⟨9, (IntKind.wrap .i64 (51 + r6.1)), [], [], []⟩ : SNode) [r90.1]).bind fun r91 => some (r91, r90.2.1, r90.2.2) else (bif (r67.1 == 6) then (R.ms_l7Lvalue (IntKind.wrap .i64 (a1 - 1)) pa r67.2.1 r67.2.2).bind fun r94 => (ms_l6Make N (⟨10, (IntKind.wrap .i64 (51 + r6.1)), [], [], []⟩ : SNode) [r94.1]).bind fun r95 => some (r95, r94.2.1, r94.2.2) else (bif (r67.1 == 7) then ms_l7Expr_k1 N R pa (a1, r67, (r67.1 == 7)) else (ms_l7Expr_k1 N R pa (a1, r67, (r67.1 == 8)))))))))))
def scc1 : Nat → Rec1
  | 0 => ⟨fun _ _ _ _ _ _ => none, fun _ _ _ _ => none, fun _ _ _ _ => none⟩
  | N + 1 => ⟨fun a1 a2 a3 pa pb pc => ms_l7List_F N (scc1 N) a1 a2 a3 pa pb pc, fun a1 pa pb pc => ms_l7Lvalue_F N (scc1 N) a1 pa pb pc, fun a1 pa pb pc => ms_l7Expr_F N (scc1 N) a1 pa pb pc⟩
def ms_l7List (N : Nat) (a1 : Int) (a2 : Int) (a3 : Int) (pa : LU) (pb : Int) (pc : Int) : Option ((List LN) × Int × Int) := (scc1 N).ms_l7List a1 a2 a3 pa pb pc
def ms_l7Lvalue (N : Nat) (a1 : Int) (pa : LU) (pb : Int) (pc : Int) : Option (LN × Int × Int) := (scc1 N).ms_l7Lvalue a1 pa pb pc
def ms_l7Expr (N : Nat) (a1 : Int) (pa : LU) (pb : Int) (pc : Int) : Option (LN × Int × Int) := (scc1 N).ms_l7Expr a1 pa pb pc

def ms_Top : Option SPos :=
  some (⟨1, false, false, false, false⟩ : SPos)

def ms_l1In (a0 : Int) (a1 : Int) (a2 : Int) : Option Bool :=
  (bif (decide (a0 ≥ a1)) then some (decide (a0 ≤ a2)) else (some false)).bind fun y1 => some y1

def ms_l6Starts_l2 (N : Nat) (kb1 : (LN × Int × (List Int)) → Option ((List Int) × Bool)) : Nat → (LN × Int × (List Int) × Int × Int) → Option ((List Int) × Bool)
  | 0, _ => none
  | n2 + 1, (a0, y917, y918, y1499, y1500) => bif (decide (y1500 ≥ 0)) then ((ix a0 y917).bind fun e1547 => (ix e1547.Kids y1500).bind fun e1548 => bif (e1548 != (IntKind.wrap .i64 (y1499 - 1))) then some true else (some (y1499 == 0))).bind fun y1546 => bif y1546 then some ([], false) else ((ix y918 (IntKind.wrap .i64 (y1499 - 1))).bind fun e1550 => (ms_l6Starts_l2 N kb1 n2) (a0, y917, y918, e1550, (IntKind.wrap .i64 (y1500 - 1)))) else ((app 8 y918 [y1499]).bind fun x1552 => kb1 (a0, (IntKind.wrap .i64 (y917 + 1)), x1552))
def ms_l6Starts_l1 (N : Nat) : Nat → (LN × Int × (List Int)) → Option ((List Int) × Bool)
  | 0, _ => none
  | n1 + 1, (a0, y917, y918) => bif (decide (y917 < (a0.length : Int))) then (ix a0 y917).bind fun e1474 => ms_l6Starts_l2 N (ms_l6Starts_l1 N n1) N (a0, y917, y918, y917, (IntKind.wrap .i64 ((e1474.Kids.length : Int) - 1))) else (some (y918, true))
def ms_l6Starts (N : Nat) (a0 : LN) : Option ((List Int) × Bool) :=
  ms_l6Starts_l1 N N (a0, 0, [])

def ms_ShapeOk (N : Nat) (a0 : LN) : Option Bool :=
  (ms_l1In (a0.length : Int) 1 400).bind fun r4 => bif (!r4) then some false else ((ms_l6Starts N a0).bind fun r6 => (bif r6.2 then (ix r6.1 (IntKind.wrap .i64 ((a0.length : Int) - 1))).bind fun e9 => some (e9 == 0) else (some false)).bind fun y8 => some y8)

def ms_DepthOf_l2 (N : Nat) (kb1 : (LN × Int × (List Int)) → Option Int) : Nat → (LN × Int × (List Int) × Int × Int) → Option Int
  | 0, _ => none
  | n2 + 1, (a0, y857, y858, y1247, y1248) => (ix a0 y857).bind fun e1270 => bif (decide (y1248 < (e1270.Kids.length : Int))) then (ix a0 y857).bind fun e1280 => (ix e1280.Kids y1248).bind fun e1281 => (ix y858 e1281).bind fun e1282 => (ms_DepthOf_l2 N kb1 n2) (a0, y857, y858, (if (IntKind.wrap .i64 (1 + e1282)) > y1247 then (IntKind.wrap .i64 (1 + e1282)) else y1247), (IntKind.wrap .i64 (y1248 + 1))) else ((app 8 y858 [y1247]).bind fun x1284 => kb1 (a0, (IntKind.wrap .i64 (y857 + 1)), x1284))
def ms_DepthOf_l1 (N : Nat) : Nat → (LN × Int × (List Int)) → Option Int
  | 0, _ => none
  | n1 + 1, (a0, y857, y858) => bif (decide (y857 < (a0.length : Int))) then ms_DepthOf_l2 N (ms_DepthOf_l1 N n1) N (a0, y857, y858, 1, 0) else ((ix y858 (IntKind.wrap .i64 ((a0.length : Int) - 1))).bind fun e1286 => some e1286)
def ms_DepthOf (N : Nat) (a0 : LN) : Option Int :=
  (ms_ShapeOk N a0).bind fun r4 => bif (!r4) then some 0 else (ms_DepthOf_l1 N N (a0, 0, []))

def ms_l7Many_k6 : (SNode × Bool) → Option (Int × Int)
  | (a0, y12) => bif y12 then some (0, (a0.Kids.length : Int)) else (bif (a0.Kind == 42) then some ((IntKind.wrap .i64 (1 + (IntKind.wrap .i64 (Int.tdiv a0.Op 3)))), (IntKind.wrap .i64 (1 + (IntKind.wrap .i64 (Int.tdiv a0.Op 3))))) else (bif (a0.Kind == 43) then some ((IntKind.wrap .i64 (2 + (IntKind.wrap .i64 (Int.tdiv a0.Op 3)))), (IntKind.wrap .i64 (2 + (IntKind.wrap .i64 (Int.tdiv a0.Op 3))))) else (bif (a0.Kind == 44) then some (1, 7) else (some (0, 0)))))
def ms_l7Many_k5 : (SNode × Bool) → Option (Int × Int)
  | (a0, y11) => bif y11 then some (0, 1) else (bif (a0.Kind == 28) then some (2, 3) else (bif (a0.Kind == 31) then some (4, 4) else (bif (a0.Kind == 33) then ms_l7Many_k6 (a0, (a0.Kind == 33)) else (ms_l7Many_k6 (a0, (a0.Kind == 45))))))
def ms_l7Many_k4 : (SNode × Bool) → Option (Int × Int)
  | (a0, y10) => bif y10 then some (2, 2) else (bif (a0.Kind == 14) then some (3, 3) else (bif (a0.Kind == 21) then bif (!(a0.Other == [])) then some ((IntKind.wrap .i64 (a0.Op + 1)), 7) else (some (a0.Op, 6)) else (bif (a0.Kind == 23) then ms_l7Many_k5 (a0, (a0.Kind == 23)) else (ms_l7Many_k5 (a0, (a0.Kind == 24))))))
def ms_l7Many_k3 : (SNode × Bool) → Option (Int × Int)
  | (a0, y9) => bif y9 then some (1, 1) else (bif (a0.Kind == 12) then ms_l7Many_k4 (a0, (a0.Kind == 12)) else (bif (a0.Kind == 15) then ms_l7Many_k4 (a0, (a0.Kind == 15)) else (bif (a0.Kind == 29) then ms_l7Many_k4 (a0, (a0.Kind == 29)) else (ms_l7Many_k4 (a0, (a0.Kind == 30))))))
def ms_l7Many_k2 : (SNode × Bool) → Option (Int × Int)
  | (a0, y8) => bif y8 then some (0, 6) else (bif (a0.Kind == 6) then ms_l7Many_k3 (a0, (a0.Kind == 6)) else (bif (a0.Kind == 9) then ms_l7Many_k3 (a0, (a0.Kind == 9)) else (bif (a0.Kind == 10) then ms_l7Many_k3 (a0, (a0.Kind == 10)) else (bif (a0.Kind == 11) then ms_l7Many_k3 (a0, (a0.Kind == 11)) else (bif (a0.Kind == 20) then ms_l7Many_k3 (a0, (a0.Kind == 20)) else (bif (a0.Kind == 32) then ms_l7Many_k3 (a0, (a0.Kind == 32)) else (bif (a0.Kind == 40) then ms_l7Many_k3 (a0, (a0.Kind == 40)) else (ms_l7Many_k3 (a0, (a0.Kind == 41))))))))))
def ms_l7Many_k1 : (SNode × Bool) → Option (Int × Int)
  | (a0, y7) => bif y7 then some (1, 6) else (bif (a0.Kind == 7) then ms_l7Many_k2 (a0, (a0.Kind == 7)) else (bif (a0.Kind == 8) then ms_l7Many_k2 (a0, (a0.Kind == 8)) else (ms_l7Many_k2 (a0, (a0.Kind == 27)))))
def ms_l7Many (a0 : SNode) : Option (Int × Int) :=
  bif (a0.Kind == 5) then ms_l7Many_k1 (a0, (a0.Kind == 5)) else (ms_l7Many_k1 (a0, (a0.Kind == 13)))

def ms_l7IsBin_k1 : Bool → Option Bool
  | y2 => bif y2 then some true else (some false)
def ms_l7IsBin (a0 : Int) : Option Bool :=
  bif (a0 == 60) then ms_l7IsBin_k1 (a0 == 60) else (bif (a0 == 57) then ms_l7IsBin_k1 (a0 == 57) else (bif (a0 == 58) then ms_l7IsBin_k1 (a0 == 58) else (bif (a0 == 59) then ms_l7IsBin_k1 (a0 == 59) else (bif (a0 == 55) then ms_l7IsBin_k1 (a0 == 55) else (bif (a0 == 56) then ms_l7IsBin_k1 (a0 == 56) else (bif (a0 == 99) then ms_l7IsBin_k1 (a0 == 99) else (bif (a0 == 63) then ms_l7IsBin_k1 (a0 == 63) else (bif (a0 == 48) then ms_l7IsBin_k1 (a0 == 48) else (bif (a0 == 47) then ms_l7IsBin_k1 (a0 == 47) else (bif (a0 == 50) then ms_l7IsBin_k1 (a0 == 50) else (bif (a0 == 62) then ms_l7IsBin_k1 (a0 == 62) else (bif (a0 == 49) then ms_l7IsBin_k1 (a0 == 49) else (bif (a0 == 67) then ms_l7IsBin_k1 (a0 == 67) else (bif (a0 == 46) then ms_l7IsBin_k1 (a0 == 46) else (bif (a0 == 45) then ms_l7IsBin_k1 (a0 == 45) else (ms_l7IsBin_k1 (a0 == 44)))))))))))))))))

def ms_l7IsAssign (a0 : Int) : Option Bool :=
  (bif (a0 == 54) then some true else ((ms_l1In a0 38 43).bind fun r3 => some r3)).bind fun y2 => some y2

def ms_l7Op_k1 : (SNode × Bool) → Option Bool
  | (a0, y13) => bif y13 then (bif (a0.Op == 51) then some true else (some (a0.Op == 52))).bind fun y14 => some y14 else (bif (a0.Kind == 11) then (bif (a0.Op == 55) then some true else (bif (a0.Op == 56) then some true else (some (a0.Op == 61)))).bind fun y15 => some y15 else (bif (a0.Kind == 12) then (ms_l7IsBin a0.Op).bind fun r17 => some r17 else (bif (a0.Kind == 15) then (ms_l7IsAssign a0.Op).bind fun r19 => some r19 else (bif (a0.Kind == 21) then (ms_l1In a0.Op 0 1).bind fun r21 => some r21 else (bif (a0.Kind == 42) then (ms_l1In a0.Op 1 3).bind fun r23 => some r23 else (bif (a0.Kind == 43) then (bif (a0.Op == 1) then some true else (some (a0.Op == 3))).bind fun y24 => some y24 else (some (a0.Op == 0))))))))
def ms_l7Op (a0 : SNode) : Option Bool :=
  bif (a0.Kind == 9) then ms_l7Op_k1 (a0, (a0.Kind == 9)) else (ms_l7Op_k1 (a0, (a0.Kind == 10)))

def ms_IsLetter (a0 : Int) : Option Bool :=
  ((ms_l1In a0 97 122).bind fun r4 => bif r4 then some true else ((ms_l1In a0 65 90).bind fun r5 => bif r5 then some true else (some (a0 == 95)))).bind fun y3 => some y3

def ms_IsDigit (a0 : Int) : Option Bool :=
  (ms_l1In a0 48 57).bind fun r2 => some r2

def ms_IsWordByte (a0 : Int) : Option Bool :=
  ((ms_IsLetter a0).bind fun r4 => bif r4 then some true else ((ms_IsDigit a0).bind fun r5 => some r5)).bind fun y3 => some y3

def ms_NameShape_l1 (N : Nat) : Nat → (LU × Int) → Option Bool
  | 0, _ => none
  | n1 + 1, (a0, y35) => bif (decide (y35 < (a0.length : Int))) then (ix a0 y35).bind fun b51 => (ms_IsWordByte (IntKind.wrap .i64 ((b51).toNat : Int))).bind fun r52 => bif (!r52) then some false else ((ms_NameShape_l1 N n1) (a0, (IntKind.wrap .i64 (y35 + 1)))) else (((ms_l1In (a0.length : Int) 1 12).bind fun r57 => bif r57 then (ix a0 0).bind fun b58 => (ms_IsLetter (IntKind.wrap .i64 ((b58).toNat : Int))).bind fun r59 => some r59 else (some false)).bind fun y56 => some y56)
def ms_NameShape (N : Nat) (a0 : LU) : Option Bool :=
  ms_NameShape_l1 N N (a0, 0)

def ms_l3Words : Option LLU :=
  some [[66, 69, 71, 73, 78], [69, 78, 68], [102, 117, 110, 99, 116, 105, 111, 110], [105, 102], [101, 108, 115, 101], [119, 104, 105, 108, 101], [102, 111, 114], [100, 111], [98, 114, 101, 97, 107], [99, 111, 110, 116, 105, 110, 117, 101], [110, 101, 120, 116], [101, 120, 105, 116], [114, 101, 116, 117, 114, 110], [100, 101, 108, 101, 116, 101], [105, 110], [112, 114, 105, 110, 116], [112, 114, 105, 110, 116, 102]]

def ms_l3Find_l1 (N : Nat) : Nat → (LLU × LU × Int) → Option Int
  | 0, _ => none
  | n1 + 1, (a0, a1, y19) => bif (decide (y19 < (a0.length : Int))) then (ix a0 y19).bind fun e28 => bif (e28 == a1) then some y19 else ((ms_l3Find_l1 N n1) (a0, a1, (IntKind.wrap .i64 (y19 + 1)))) else (some (-1))
def ms_l3Find (N : Nat) (a0 : LLU) (a1 : LU) : Option Int :=
  ms_l3Find_l1 N N (a0, a1, 0)

def ms_KeywordOf (N : Nat) (a0 : LU) : Option Int :=
  Option.bind ms_l3Words fun r3 => (ms_l3Find N r3 a0).bind fun r4 => bif (decide (r4 < 0)) then some 0 else (some (IntKind.wrap .i64 (10 + r4)))

def ms_l3Builtins : Option LLU :=
  some [[97, 116, 97, 110, 50], [99, 108, 111, 115, 101], [99, 111, 115], [101, 120, 112], [103, 115, 117, 98], [105, 110, 100, 101, 120], [105, 110, 116], [108, 101, 110, 103, 116, 104], [108, 111, 103], [109, 97, 116, 99, 104], [114, 97, 110, 100], [115, 105, 110], [115, 112, 108, 105, 116], [115, 112, 114, 105, 110, 116, 102], [115, 113, 114, 116], [115, 114, 97, 110, 100], [115, 117, 98], [115, 117, 98, 115, 116, 114], [115, 121, 115, 116, 101, 109], [116, 111, 108, 111, 119, 101, 114], [116, 111, 117, 112, 112, 101, 114]]

def ms_IsBuiltin (N : Nat) (a0 : LU) : Option Bool :=
  Option.bind ms_l3Builtins fun r3 => (ms_l3Find N r3 a0).bind fun r4 => some (decide (r4 ≥ 0))

def ms_NameOk (N : Nat) (a0 : LU) : Option Bool :=
  ((ms_NameShape N a0).bind fun r5 => bif r5 then (ms_KeywordOf N a0).bind fun r6 => bif (r6 == 0) then (ms_IsBuiltin N a0).bind fun r7 => some (!r7) else (some false) else (some false)).bind fun y4 => some y4

def ms_l4Plain_l1 (N : Nat) : Nat → (LU × Int) → Option Bool
  | 0, _ => none
  | n1 + 1, (a0, y19) => bif (decide (y19 < (a0.length : Int))) then (ix a0 y19).bind fun b28 => bif (((b28).toNat : Int) == 10) then some false else ((ms_l4Plain_l1 N n1) (a0, (IntKind.wrap .i64 (y19 + 1)))) else (some true)
def ms_l4Plain (N : Nat) (a0 : LU) : Option Bool :=
  ms_l4Plain_l1 N N (a0, 0)

def ms_l4Byte (a0 : LU) (a1 : Int) : Option Int :=
  (bif (decide (a1 < 0)) then some true else (some (decide (a1 ≥ (a0.length : Int))))).bind fun y2 => bif y2 then some (-1) else ((ix a0 a1).bind fun b4 => some (IntKind.wrap .i64 ((b4).toNat : Int)))

def ms_l4Digits_l1 (N : Nat) : Nat → (LU × Int) → Option Int
  | 0, _ => none
  | n1 + 1, (a0, a1) => (ms_l4Byte a0 a1).bind fun r33 => (ms_IsDigit r33).bind fun r34 => bif r34 then (ms_l4Digits_l1 N n1) (a0, (IntKind.wrap .i64 (a1 + 1))) else (some a1)
def ms_l4Digits (N : Nat) (a0 : LU) (a1 : Int) : Option Int :=
  ms_l4Digits_l1 N N (a0, a1)

def ms_NumEnd_k2 (N : Nat) : Int → Option Int
  | y9 => some y9
def ms_NumEnd_k3 (N : Nat) : (LU × Int × Int) → Option Int
  | (a0, y9, y40) => (ms_l4Digits N a0 y40).bind fun r42 => bif (decide (r42 > y40)) then (ms_l4Digits N a0 y40).bind fun r44 => some r44 else (ms_NumEnd_k2 N y9)
def ms_NumEnd_k1 (N : Nat) : (LU × Int × Int) → Option Int
  | (a0, a1, y9) => bif (y9 == a1) then some (-1) else (((ms_l4Byte a0 y9).bind fun r33 => bif (r33 == 101) then some true else ((ms_l4Byte a0 y9).bind fun r34 => some (r34 == 69))).bind fun y32 => bif y32 then ((ms_l4Byte a0 (IntKind.wrap .i64 (y9 + 1))).bind fun r48 => bif (r48 == 43) then some true else ((ms_l4Byte a0 (IntKind.wrap .i64 (y9 + 1))).bind fun r49 => some (r49 == 45))).bind fun y47 => bif y47 then ms_NumEnd_k3 N (a0, y9, (IntKind.wrap .i64 ((IntKind.wrap .i64 (y9 + 1)) + 1))) else (ms_NumEnd_k3 N (a0, y9, (IntKind.wrap .i64 (y9 + 1)))) else (ms_NumEnd_k2 N y9))
def ms_NumEnd (N : Nat) (a0 : LU) (a1 : Int) : Option Int :=
  bif (decide (a1 < 0)) then some (-1) else ((ms_l4Digits N a0 a1).bind fun r2 => (ms_l4Byte a0 r2).bind fun r51 => bif (r51 == 46) then (ms_l4Digits N a0 (IntKind.wrap .i64 (r2 + 1))).bind fun r53 => (bif (r2 == a1) then some (r53 == (IntKind.wrap .i64 (r2 + 1))) else (some false)).bind fun y55 => bif y55 then some (-1) else (ms_NumEnd_k1 N (a0, a1, r53)) else (ms_NumEnd_k1 N (a0, a1, r2)))

def ms_l4Quoted_k2 (N : Nat) (kb1 : (LU × Int × Int) → Option Int) : (LU × Int × Int) → Option Int
  | (a0, a2, y58) => kb1 (a0, a2, (IntKind.wrap .i64 (y58 + 1)))
def ms_l4Quoted_l1 (N : Nat) : Nat → (LU × Int × Int) → Option Int
  | 0, _ => none
  | n1 + 1, (a0, a2, y43) => bif (decide (y43 < (a0.length : Int))) then (ix a0 y43).bind fun b60 => bif ((IntKind.wrap .i64 ((b60).toNat : Int)) == a2) then some (IntKind.wrap .i64 (y43 + 1)) else (bif ((IntKind.wrap .i64 ((b60).toNat : Int)) == 10) then some (-1) else (bif ((IntKind.wrap .i64 ((b60).toNat : Int)) == 92) then (ms_l4Byte a0 (IntKind.wrap .i64 (y43 + 1))).bind fun r62 => bif (r62 == 10) then some (-1) else (ms_l4Quoted_k2 N (ms_l4Quoted_l1 N n1) (a0, a2, (IntKind.wrap .i64 (y43 + 1)))) else (ms_l4Quoted_k2 N (ms_l4Quoted_l1 N n1) (a0, a2, y43)))) else (some (-1))
def ms_l4Quoted (N : Nat) (a0 : LU) (a1 : Int) (a2 : Int) : Option Int :=
  (ms_l4Byte a0 a1).bind fun r4 => bif (r4 != a2) then some (-1) else (ms_l4Quoted_l1 N N (a0, a2, (IntKind.wrap .i64 (a1 + 1))))

def ms_StrEnd (N : Nat) (a0 : LU) (a1 : Int) : Option Int :=
  (ms_l4Quoted N a0 a1 34).bind fun r2 => some r2

def ms_EreEnd (N : Nat) (a0 : LU) (a1 : Int) : Option Int :=
  (ms_l4Quoted N a0 a1 47).bind fun r2 => bif (r2 == (IntKind.wrap .i64 (a1 + 2))) then some (-1) else (some r2)

def ms_l3Signs : Option LLU :=
  some [[123], [125], [40], [41], [91], [93], [44], [59], [43, 61], [45, 61], [42, 61], [47, 61], [37, 61], [94, 61], [124, 124], [38, 38], [33, 126], [61, 61], [60, 61], [62, 61], [33, 61], [43, 43], [45, 45], [62, 62], [61], [43], [45], [42], [47], [37], [94], [33], [62], [60], [124], [63], [58], [126], [36]]

def ms_SpellOf (a0 : Int) : Option LU :=
  bif (a0 == 1) then some [10] else ((ms_l1In a0 10 26).bind fun r14 => bif r14 then Option.bind ms_l3Words fun r17 => (ix r17 (IntKind.wrap .i64 (a0 - 10))).bind fun e18 => some e18 else ((ms_l1In a0 30 68).bind fun r20 => bif r20 then Option.bind ms_l3Signs fun r23 => (ix r23 (IntKind.wrap .i64 (a0 - 30))).bind fun e24 => some e24 else (some [])))

def ms_TokenOk_k1 (N : Nat) : (SToken × Bool) → Option Bool
  | (a0, y30) => bif y30 then (ms_NameOk N a0.Text).bind fun r32 => some r32 else (bif (a0.Kind == 8) then (ms_IsBuiltin N a0.Text).bind fun r34 => some r34 else ((bif (!(a0.Text == [])) then (ms_SpellOf a0.Kind).bind fun r37 => some (r37 == a0.Text) else (some false)).bind fun y36 => some y36))
def ms_TokenOk (N : Nat) (a0 : SToken) : Option Bool :=
  bif (a0.Kind == 2) then (bif (decide ((a0.Text.length : Int) > 0)) then (ix a0.Text 0).bind fun b21 => bif (((b21).toNat : Int) == 35) then (ms_l4Plain N a0.Text).bind fun r22 => some r22 else (some false) else (some false)).bind fun y20 => some y20 else (bif (a0.Kind == 3) then (bif (decide ((a0.Text.length : Int) > 0)) then (ms_NumEnd N a0.Text 0).bind fun r25 => some (r25 == (a0.Text.length : Int)) else (some false)).bind fun y24 => some y24 else (bif (a0.Kind == 4) then (ms_StrEnd N a0.Text 0).bind fun r27 => some (r27 == (a0.Text.length : Int)) else (bif (a0.Kind == 5) then (ms_EreEnd N a0.Text 0).bind fun r29 => some (r29 == (a0.Text.length : Int)) else (bif (a0.Kind == 6) then ms_TokenOk_k1 N (a0, (a0.Kind == 6)) else (ms_TokenOk_k1 N (a0, (a0.Kind == 7)))))))

def ms_l7Text_k1 (N : Nat) : (SNode × Bool) → Option Bool
  | (a0, y26) => bif y26 then ((ms_NameOk N a0.Text).bind fun r29 => bif r29 then some (a0.Other == []) else (some false)).bind fun y28 => some y28 else (bif (a0.Kind == 2) then ((ms_TokenOk N (⟨3, a0.Text, 0⟩ : SToken)).bind fun r32 => bif r32 then some (a0.Other == []) else (some false)).bind fun y31 => some y31 else (bif (a0.Kind == 3) then ((ms_TokenOk N (⟨4, a0.Text, 0⟩ : SToken)).bind fun r35 => bif r35 then some (a0.Other == []) else (some false)).bind fun y34 => some y34 else (bif (a0.Kind == 4) then ((ms_TokenOk N (⟨5, a0.Text, 0⟩ : SToken)).bind fun r38 => bif r38 then some (a0.Other == []) else (some false)).bind fun y37 => some y37 else (bif (a0.Kind == 34) then ((ms_TokenOk N (⟨2, a0.Text, 0⟩ : SToken)).bind fun r41 => bif r41 then some (a0.Other == []) else (some false)).bind fun y40 => some y40 else (bif (a0.Kind == 8) then ((ms_IsBuiltin N a0.Text).bind fun r44 => bif r44 then some (a0.Other == []) else (some false)).bind fun y43 => some y43 else (bif (a0.Kind == 32) then ((ms_NameOk N a0.Text).bind fun r48 => bif r48 then (ms_NameOk N a0.Other).bind fun r49 => some r49 else (some false)).bind fun y47 => some y47 else (bif (a0.Kind == 21) then (bif (a0.Text == []) then bif (a0.Other == []) then some true else (bif (a0.Other == [62]) then some true else (bif (a0.Other == [62, 62]) then some true else (some (a0.Other == [124])))) else (some false)).bind fun y50 => some y50 else ((bif (a0.Text == []) then some (a0.Other == []) else (some false)).bind fun y51 => some y51))))))))
def ms_l7Text (N : Nat) (a0 : SNode) : Option Bool :=
  bif (a0.Kind == 1) then ms_l7Text_k1 N (a0, (a0.Kind == 1)) else (bif (a0.Kind == 5) then ms_l7Text_k1 N (a0, (a0.Kind == 5)) else (bif (a0.Kind == 7) then ms_l7Text_k1 N (a0, (a0.Kind == 7)) else (bif (a0.Kind == 13) then ms_l7Text_k1 N (a0, (a0.Kind == 13)) else (bif (a0.Kind == 27) then ms_l7Text_k1 N (a0, (a0.Kind == 27)) else (ms_l7Text_k1 N (a0, (a0.Kind == 44)))))))

def ms_FieldsOk (N : Nat) (a0 : SNode) : Option Bool :=
  (ms_l7Many a0).bind fun r2 => ((ms_l1In a0.Kind 1 16).bind fun r7 => bif r7 then some true else ((ms_l1In a0.Kind 20 34).bind fun r8 => bif r8 then some true else ((ms_l1In a0.Kind 40 45).bind fun r9 => some r9))).bind fun y6 => (bif y6 then (ms_l7Op a0).bind fun r14 => bif r14 then (ms_l7Text N a0).bind fun r15 => bif r15 then (ms_l1In (a0.Kids.length : Int) r2.1 r2.2).bind fun r16 => some r16 else (some false) else (some false) else (some false)).bind fun y13 => some y13

def ms_IsLvalue (a0 : Int) : Option Bool :=
  (bif (a0 == 1) then some true else (bif (a0 == 5) then some true else (some (a0 == 6)))).bind fun y1 => some y1

def ms_IsExpr (a0 : Int) : Option Bool :=
  (ms_l1In a0 1 15).bind fun r2 => some r2

def ms_IsStmt (a0 : Int) : Option Bool :=
  (ms_l1In a0 20 34).bind fun r2 => some r2

def ms_l7Kid_k2 : (Int × Int × SNode × Bool) → Option Bool
  | (a1, a2, a0, y74) => bif y74 then some (a2 == 33) else (bif (a0.Kind == 33) then (ms_IsStmt a2).bind fun r76 => some r76 else (bif (a0.Kind == 42) then (bif (a0.Op == 1) then (ms_IsExpr a2).bind fun r87 => bif r87 then some true else (bif (a0.Op == 2) then bif (a2 == 33) then some true else (bif (a0.Op == 3) then bif (a1 == (IntKind.wrap .i64 ((a0.Kids.length : Int) - 1))) then bif (a2 == 33) then some true else (bif (!(a1 == (IntKind.wrap .i64 ((a0.Kids.length : Int) - 1)))) then (ms_IsExpr a2).bind fun r88 => some r88 else (some false)) else (bif (!(a1 == (IntKind.wrap .i64 ((a0.Kids.length : Int) - 1)))) then (ms_IsExpr a2).bind fun r89 => some r89 else (some false)) else (some false)) else (bif (a0.Op == 3) then bif (a1 == (IntKind.wrap .i64 ((a0.Kids.length : Int) - 1))) then bif (a2 == 33) then some true else (bif (!(a1 == (IntKind.wrap .i64 ((a0.Kids.length : Int) - 1)))) then (ms_IsExpr a2).bind fun r90 => some r90 else (some false)) else (bif (!(a1 == (IntKind.wrap .i64 ((a0.Kids.length : Int) - 1)))) then (ms_IsExpr a2).bind fun r91 => some r91 else (some false)) else (some false))) else (bif (a0.Op == 2) then bif (a2 == 33) then some true else (bif (a0.Op == 3) then bif (a1 == (IntKind.wrap .i64 ((a0.Kids.length : Int) - 1))) then bif (a2 == 33) then some true else (bif (!(a1 == (IntKind.wrap .i64 ((a0.Kids.length : Int) - 1)))) then (ms_IsExpr a2).bind fun r92 => some r92 else (some false)) else (bif (!(a1 == (IntKind.wrap .i64 ((a0.Kids.length : Int) - 1)))) then (ms_IsExpr a2).bind fun r93 => some r93 else (some false)) else (some false)) else (bif (a0.Op == 3) then bif (a1 == (IntKind.wrap .i64 ((a0.Kids.length : Int) - 1))) then bif (a2 == 33) then some true else (bif (!(a1 == (IntKind.wrap .i64 ((a0.Kids.length : Int) - 1)))) then (ms_IsExpr a2).bind fun r94 => some r94 else (some false)) else (bif (!(a1 == (IntKind.wrap .i64 ((a0.Kids.length : Int) - 1)))) then (ms_IsExpr a2).bind fun r95 => some r95 else (some false)) else (some false)))).bind fun y86 => some y86 else (bif (a0.Kind == 43) then (bif (decide (a1 < 2)) then (ms_IsExpr a2).bind fun r98 => bif r98 then some true else (bif (a1 == 2) then some (a2 == 33) else (some false)) else (bif (a1 == 2) then some (a2 == 33) else (some false))).bind fun y97 => some y97 else (bif (a0.Kind == 44) then (bif (a1 == (IntKind.wrap .i64 ((a0.Kids.length : Int) - 1))) then bif (a2 == 33) then some true else (bif (!(a1 == (IntKind.wrap .i64 ((a0.Kids.length : Int) - 1)))) then some (a2 == 1) else (some false)) else (bif (!(a1 == (IntKind.wrap .i64 ((a0.Kids.length : Int) - 1)))) then some (a2 == 1) else (some false))).bind fun y99 => some y99 else (bif (a0.Kind == 45) then ((ms_l1In a2 40 44).bind fun r102 => bif r102 then some true else (some (a2 == 34))).bind fun y101 => some y101 else ((ms_IsExpr a2).bind fun r104 => some r104))))))
def ms_l7Kid_k1 : (Int × Int × SNode × Bool) → Option Bool
  | (a1, a2, a0, y52) => bif y52 then (ms_IsLvalue a2).bind fun r54 => some r54 else (bif (a0.Kind == 15) then ((ms_IsExpr a2).bind fun r58 => bif r58 then bif (decide (a1 > 0)) then some true else ((ms_IsLvalue a2).bind fun r59 => some r59) else (some false)).bind fun y57 => some y57 else (bif (a0.Kind == 28) then (bif (a1 == 0) then (ms_IsExpr a2).bind fun r62 => bif r62 then some true else (bif (decide (a1 > 0)) then some (a2 == 33) else (some false)) else (bif (decide (a1 > 0)) then some (a2 == 33) else (some false))).bind fun y61 => some y61 else (bif (a0.Kind == 29) then (bif (a1 == 0) then (ms_IsExpr a2).bind fun r65 => bif r65 then some true else (bif (a1 == 1) then some (a2 == 33) else (some false)) else (bif (a1 == 1) then some (a2 == 33) else (some false))).bind fun y64 => some y64 else (bif (a0.Kind == 30) then (bif (a1 == 0) then bif (a2 == 33) then some true else (bif (a1 == 1) then (ms_IsExpr a2).bind fun r69 => some r69 else (some false)) else (bif (a1 == 1) then (ms_IsExpr a2).bind fun r70 => some r70 else (some false))).bind fun y68 => some y68 else (bif (a0.Kind == 31) then (bif (decide (a1 < 3)) then (ms_IsExpr a2).bind fun r73 => bif r73 then some true else (bif (a2 == 16) then some true else (bif (a1 == 3) then some (a2 == 33) else (some false))) else (bif (a1 == 3) then some (a2 == 33) else (some false))).bind fun y72 => some y72 else (bif (a0.Kind == 32) then ms_l7Kid_k2 (a1, a2, a0, (a0.Kind == 32)) else (bif (a0.Kind == 40) then ms_l7Kid_k2 (a1, a2, a0, (a0.Kind == 40)) else (ms_l7Kid_k2 (a1, a2, a0, (a0.Kind == 41))))))))))
def ms_l7Kid (a0 : SNode) (a1 : Int) (a2 : Int) : Option Bool :=
  bif (a0.Kind == 9) then ms_l7Kid_k1 (a1, a2, a0, (a0.Kind == 9)) else (ms_l7Kid_k1 (a1, a2, a0, (a0.Kind == 10)))

def ms_TreeOk_l2 (N : Nat) (kb1 : (LN × Int) → Option Bool) : Nat → (LN × Int × Int) → Option Bool
  | 0, _ => none
  | n2 + 1, (a0, y669, y949) => (ix a0 y669).bind fun e978 => bif (decide (y949 < (e978.Kids.length : Int))) then (ix a0 y669).bind fun e994 => (ix a0 y669).bind fun e995 => (ix e995.Kids y949).bind fun e996 => (ix a0 e996).bind fun e997 => (ms_l7Kid e994 y949 e997.Kind).bind fun r998 => bif (!r998) then some false else ((ms_TreeOk_l2 N kb1 n2) (a0, y669, (IntKind.wrap .i64 (y949 + 1)))) else (kb1 (a0, (IntKind.wrap .i64 (y669 + 1))))
def ms_TreeOk_l1 (N : Nat) : Nat → (LN × Int) → Option Bool
  | 0, _ => none
  | n1 + 1, (a0, y669) => bif (decide (y669 < (a0.length : Int))) then (ix a0 y669).bind fun e923 => (ms_FieldsOk N e923).bind fun r924 => bif (!r924) then some false else (ms_TreeOk_l2 N (ms_TreeOk_l1 N n1) N (a0, y669, 0)) else (some true)
def ms_TreeOk (N : Nat) (a0 : LN) : Option Bool :=
  ((ms_ShapeOk N a0).bind fun r9 => bif (!r9) then some true else ((ms_DepthOf N a0).bind fun r10 => some (decide (r10 > 40)))).bind fun y8 => bif y8 then some false else (ms_TreeOk_l1 N N (a0, 0))

def ms_ExprOk (N : Nat) (a0 : LN) : Option Bool :=
  ((ms_TreeOk N a0).bind fun r5 => bif r5 then (ix a0 (IntKind.wrap .i64 ((a0.length : Int) - 1))).bind fun e6 => (ms_IsExpr e6.Kind).bind fun r7 => some r7 else (some false)).bind fun y4 => some y4

def ms_PosOk (a0 : SPos) : Option Bool :=
  ((ms_l1In a0.Level 1 15).bind fun r3 => bif r3 then bif (!a0.Dollar) then some true else (some (a0.Level == 14)) else (some false)).bind fun y2 => some y2

def ms_OpLevel_k4 : (Int × Bool) → Option Int
  | (a0, y8) => bif y8 then some 10 else (bif (a0 == 60) then some 12 else (some 0))
def ms_OpLevel_k3 : (Int × Bool) → Option Int
  | (a0, y7) => bif y7 then some 9 else (bif (a0 == 57) then ms_OpLevel_k4 (a0, (a0 == 57)) else (bif (a0 == 58) then ms_OpLevel_k4 (a0, (a0 == 58)) else (ms_OpLevel_k4 (a0, (a0 == 59)))))
def ms_OpLevel_k2 : (Int × Bool) → Option Int
  | (a0, y6) => bif y6 then some 7 else (bif (a0 == 99) then some 8 else (bif (a0 == 55) then ms_OpLevel_k3 (a0, (a0 == 55)) else (ms_OpLevel_k3 (a0, (a0 == 56)))))
def ms_OpLevel_k1 : (Int × Bool) → Option Int
  | (a0, y5) => bif y5 then some 6 else (bif (a0 == 63) then ms_OpLevel_k2 (a0, (a0 == 63)) else (bif (a0 == 48) then ms_OpLevel_k2 (a0, (a0 == 48)) else (bif (a0 == 47) then ms_OpLevel_k2 (a0, (a0 == 47)) else (bif (a0 == 50) then ms_OpLevel_k2 (a0, (a0 == 50)) else (bif (a0 == 62) then ms_OpLevel_k2 (a0, (a0 == 62)) else (ms_OpLevel_k2 (a0, (a0 == 49))))))))
def ms_OpLevel (a0 : Int) : Option Int :=
  bif (a0 == 44) then some 3 else (bif (a0 == 45) then some 4 else (bif (a0 == 67) then ms_OpLevel_k1 (a0, (a0 == 67)) else (ms_OpLevel_k1 (a0, (a0 == 46)))))

def ms_LevelOf_k2 : Bool → Option Int
  | y8 => bif y8 then some 15 else (some 0)
def ms_LevelOf_k1 : (SNode × Bool) → Option Int
  | (a0, y7) => bif y7 then some 13 else (bif (a0.Kind == 6) then some 14 else (bif (a0.Kind == 1) then ms_LevelOf_k2 (a0.Kind == 1) else (bif (a0.Kind == 2) then ms_LevelOf_k2 (a0.Kind == 2) else (bif (a0.Kind == 3) then ms_LevelOf_k2 (a0.Kind == 3) else (bif (a0.Kind == 4) then ms_LevelOf_k2 (a0.Kind == 4) else (bif (a0.Kind == 5) then ms_LevelOf_k2 (a0.Kind == 5) else (bif (a0.Kind == 7) then ms_LevelOf_k2 (a0.Kind == 7) else (ms_LevelOf_k2 (a0.Kind == 8)))))))))
def ms_LevelOf (a0 : SNode) : Option Int :=
  bif (a0.Kind == 15) then some 1 else (bif (a0.Kind == 14) then some 2 else (bif (a0.Kind == 13) then some 5 else (bif (a0.Kind == 12) then (ms_OpLevel a0.Op).bind fun r6 => some r6 else (bif (a0.Kind == 11) then some 11 else (bif (a0.Kind == 9) then ms_LevelOf_k1 (a0, (a0.Kind == 9)) else (ms_LevelOf_k1 (a0, (a0.Kind == 10))))))))

def ms_Fits (a0 : SNode) (a1 : SPos) : Option Bool :=
  ((ms_PosOk a1).bind fun r13 => bif (!r13) then some true else ((ms_LevelOf a0).bind fun r14 => some (r14 == 0))).bind fun y12 => bif y12 then some false else ((bif a1.NoIn then some (a0.Kind == 13) else (some false)).bind fun y15 => bif y15 then some false else ((bif a1.NoGt then bif (a0.Kind == 12) then some (a0.Op == 62) else (some false) else (some false)).bind fun y16 => bif y16 then some false else ((bif a1.NoSign then bif (a0.Kind == 11) then some true else (bif (a0.Kind == 9) then some true else (some (a0.Kind == 4))) else (some false)).bind fun y17 => bif y17 then some false else ((bif a1.Dollar then some (a0.Kind == 9) else (some false)).bind fun y18 => bif y18 then some true else ((ms_LevelOf a0).bind fun r20 => some (decide (r20 ≥ a1.Level)))))))

def ms_l10Leaf (a0 : SNode) : Option SToken :=
  bif (a0.Kind == 1) then some (⟨6, a0.Text, 0⟩ : SToken) else (bif (a0.Kind == 2) then some (⟨3, a0.Text, 0⟩ : SToken) else (bif (a0.Kind == 3) then some (⟨4, a0.Text, 0⟩ : SToken) else (bif (a0.Kind == 4) then some (⟨5, a0.Text, 0⟩ : SToken) else (some (⟨0, [], 0⟩ : SToken)))))

def ms_l15Text (a0 : LU) : Option LD :=
  some [(⟨1, 0, a0, []⟩ : SDNode)]

def ms_l15Line : Option LD :=
  some [(⟨2, 0, [], []⟩ : SDNode)]

def ms_l15Shift_l2 (N : Nat) (kb1 : (LD × Int × Int × LD) → Option LD) : Nat → (LD × Int × Int × LD × SDNode × Int × (List Int)) → Option LD
  | 0, _ => none
  | n2 + 1, (a0, a1, y869, y870, e1198, y1267, y1268) => (ix a0 y869).bind fun e1290 => bif (decide (y1267 < (e1290.Kids.length : Int))) then (ix a0 y869).bind fun e1300 => (ix e1300.Kids y1267).bind fun e1301 => (app 8 y1268 [(IntKind.wrap .i64 (e1301 + a1))]).bind fun x1302 => (ms_l15Shift_l2 N kb1 n2) (a0, a1, y869, y870, e1198, (IntKind.wrap .i64 (y1267 + 1)), x1302) else ((app 56 y870 [(⟨e1198.Kind, e1198.N, e1198.Text, y1268⟩ : SDNode)]).bind fun x1304 => kb1 (a0, a1, (IntKind.wrap .i64 (y869 + 1)), x1304))
def ms_l15Shift_l1 (N : Nat) : Nat → (LD × Int × Int × LD) → Option LD
  | 0, _ => none
  | n1 + 1, (a0, a1, y869, y870) => bif (decide (y869 < (a0.length : Int))) then (ix a0 y869).bind fun e1198 => ms_l15Shift_l2 N (ms_l15Shift_l1 N n1) N (a0, a1, y869, y870, e1198, 0, []) else (some y870)
def ms_l15Shift (N : Nat) (a0 : LD) (a1 : Int) : Option LD :=
  ms_l15Shift_l1 N N (a0, a1, 0, [])

def ms_l15Over_l1 (N : Nat) : Nat → ((List LD) × Int × Int × Int × LD × (List Int)) → Option LD
  | 0, _ => none
  | n1 + 1, (a2, a0, a1, y75, y76, y77) => bif (decide (y75 < (a2.length : Int))) then (ix a2 y75).bind fun e108 => (ms_l15Shift N e108 (y76.length : Int)).bind fun r109 => (app 56 y76 r109).bind fun x110 => (app 8 y77 [(IntKind.wrap .i64 ((x110.length : Int) - 1))]).bind fun x112 => (ms_l15Over_l1 N n1) (a2, a0, a1, (IntKind.wrap .i64 (y75 + 1)), x110, x112) else ((app 56 y76 [(⟨a0, a1, [], y77⟩ : SDNode)]).bind fun x114 => some x114)
def ms_l15Over (N : Nat) (a0 : Int) (a1 : Int) (a2 : List LD) : Option LD :=
  ms_l15Over_l1 N N (a2, a0, a1, 0, [], [])

def ms_l9Sides (a0 : Int) : Option (Int × Int) :=
  (ms_OpLevel a0).bind fun r4 => bif (r4 == 3) then some (3, 4) else (bif (r4 == 4) then some (4, 5) else (bif (r4 == 6) then some (7, 7) else (bif (r4 == 7) then some (8, 8) else (bif (r4 == 8) then some (8, 9) else (bif (r4 == 9) then some (9, 10) else (bif (r4 == 10) then some (10, 11) else (some (13, 11))))))))

def ms_KidPos_k1 : (SPos × Int × Bool × Bool) → Option SPos
  | (a2, y25, y26, y27) => some (⟨y25, y26, a2.NoIn, a2.NoGt, y27⟩ : SPos)
def ms_KidPos_k2 : (SNode × SPos × Bool × Bool) → Option SPos
  | (a0, a2, y15, y34) => bif y34 then ms_KidPos_k1 (a2, 14, false, false) else (bif (a0.Kind == 6) then ms_KidPos_k1 (a2, 14, true, false) else (Option.bind ms_Top fun r36 => some r36))
def ms_KidPos (a0 : SNode) (a1 : Int) (a2 : SPos) : Option SPos :=
  ((ms_PosOk a2).bind fun r12 => bif (!r12) then some true else ((ms_l1In a1 0 (IntKind.wrap .i64 ((a0.Kids.length : Int) - 1))).bind fun r13 => bif (!r13) then some true else ((ms_LevelOf a0).bind fun r14 => some (r14 == 0)))).bind fun y11 => bif y11 then some (⟨0, false, false, false, false⟩ : SPos) else ((bif a2.NoSign then some (a1 == 0) else (some false)).bind fun y15 => bif (a0.Kind == 15) then bif (decide (a1 > 0)) then ms_KidPos_k1 (a2, 1, false, y15) else (ms_KidPos_k1 (a2, 14, false, y15)) else (bif (a0.Kind == 14) then bif (a1 == 0) then ms_KidPos_k1 (a2, 3, false, y15) else (ms_KidPos_k1 (a2, 2, false, y15)) else (bif (a0.Kind == 13) then bif (decide ((a0.Kids.length : Int) > 1)) then Option.bind ms_Top fun r31 => some r31 else (ms_KidPos_k1 (a2, 5, false, y15)) else (bif (a0.Kind == 12) then (ms_l9Sides a0.Op).bind fun r33 => bif (decide (a1 > 0)) then ms_KidPos_k1 (a2, r33.2, false, (a0.Op == 99)) else (ms_KidPos_k1 (a2, r33.1, false, y15)) else (bif (a0.Kind == 11) then ms_KidPos_k1 (a2, 11, false, false) else (bif (a0.Kind == 9) then ms_KidPos_k2 (a0, a2, y15, (a0.Kind == 9)) else (ms_KidPos_k2 (a0, a2, y15, (a0.Kind == 10)))))))))

def ms_l10Tok (a0 : Int) : Option SToken :=
  (ms_SpellOf a0).bind fun r2 => some (⟨a0, r2, 0⟩ : SToken)

structure Rec2 where
  ms_l10Sides : SL10W → SNode → SPos → Option LT
  ms_l10Lvalue : SL10W → Int → Option LT
  ms_l10List : SL10W → (List Int) → Option LT
  ms_l10Named : SL10W → SToken → (List Int) → Int → Option LT
  ms_l10Node : SL10W → Int → SPos → Option LT
  ms_l10At : SL10W → Int → SPos → Option LT

def ms_l10Sides_k1 (N : Nat) (R : Rec2) : (SL10W × SNode × SPos × LT) → Option LT
  | (a0, a1, a2, y59) => (ix a1.Kids 1).bind fun e64 => (ms_KidPos a1 1 a2).bind fun r65 => (R.ms_l10At a0 e64 r65).bind fun r66 => (app 32 y59 r66).bind fun x67 => some x67
def ms_l10Sides_F (N : Nat) (R : Rec2) (a0 : SL10W) (a1 : SNode) (a2 : SPos) : Option LT :=
  (ix a1.Kids 0).bind fun e4 => (ms_KidPos a1 0 a2).bind fun r5 => (R.ms_l10At a0 e4 r5).bind fun r6 => bif (a1.Kind == 14) then (ms_l10Tok 65).bind fun r33 => (app 32 r6 [r33]).bind fun x34 => (ix a1.Kids 1).bind fun e39 => (ms_KidPos a1 1 a2).bind fun r40 => (R.ms_l10At a0 e39 r40).bind fun r41 => (app 32 x34 r41).bind fun x42 => (ms_l10Tok 66).bind fun r45 => (app 32 x42 [r45]).bind fun x46 => (ix a1.Kids 2).bind fun e51 => (ms_KidPos a1 2 a2).bind fun r52 => (R.ms_l10At a0 e51 r52).bind fun r53 => (app 32 x46 r53).bind fun x54 => some x54 else (bif (a1.Op != 99) then (ms_l10Tok a1.Op).bind fun r70 => (app 32 r6 [r70]).bind fun x71 => ms_l10Sides_k1 N R (a0, a1, a2, x71) else (ms_l10Sides_k1 N R (a0, a1, a2, r6)))

def ms_l10Lvalue_F (N : Nat) (R : Rec2) (a0 : SL10W) (a1 : Int) : Option LT :=
  (R.ms_l10Node a0 a1 (⟨14, false, false, false, false⟩ : SPos)).bind fun r2 => some r2

def ms_l10List_k2 (N : Nat) (R : Rec2) (kb1 : ((List Int) × SL10W × Int × LT) → Option LT) : ((List Int) × Int × SL10W × LT) → Option LT
  | (a1, y105, a0, y164) => (ix a1 y105).bind fun e169 => Option.bind ms_Top fun r170 => (R.ms_l10At a0 e169 r170).bind fun r171 => (app 32 y164 r171).bind fun x172 => kb1 (a1, a0, (IntKind.wrap .i64 (y105 + 1)), x172)
def ms_l10List_l1 (N : Nat) (R : Rec2) : Nat → ((List Int) × SL10W × Int × LT) → Option LT
  | 0, _ => none
  | n1 + 1, (a1, a0, y105, y106) => bif (decide (y105 < (a1.length : Int))) then bif (decide (y105 > 0)) then (ms_l10Tok 36).bind fun r175 => (app 32 y106 [r175]).bind fun x176 => ms_l10List_k2 N R (ms_l10List_l1 N R n1) (a1, y105, a0, x176) else (ms_l10List_k2 N R (ms_l10List_l1 N R n1) (a1, y105, a0, y106)) else (some y106)
def ms_l10List_F (N : Nat) (R : Rec2) (a0 : SL10W) (a1 : List Int) : Option LT :=
  ms_l10List_l1 N R N (a1, a0, 0, [])

def ms_l10Named_F (N : Nat) (R : Rec2) (a0 : SL10W) (a1 : SToken) (a2 : List Int) (a3 : Int) : Option LT :=
  (ms_l10Tok a3).bind fun r4 => (R.ms_l10List a0 a2).bind fun r5 => (app 32 [a1, r4] r5).bind fun x6 => (ms_l10Tok (IntKind.wrap .i64 (a3 + 1))).bind fun r9 => (app 32 x6 [r9]).bind fun x10 => some x10

def ms_l10Node_k1 (N : Nat) (R : Rec2) : (SNode × LT) → Option LT
  | (e2, y168) => (ms_l10Tok 24).bind fun r171 => (app 32 y168 [r171, (⟨6, e2.Text, 0⟩ : SToken)]).bind fun x172 => some x172
def ms_l10Node_F (N : Nat) (R : Rec2) (a0 : SL10W) (a1 : Int) (a2 : SPos) : Option LT :=
  (ix a0.l a1).bind fun e2 => (ms_l10Leaf e2).bind fun r4 => bif (r4.Kind != 0) then some [r4] else (bif (e2.Kind == 5) then (R.ms_l10Named a0 (⟨6, e2.Text, 0⟩ : SToken) e2.Kids 34).bind fun r95 => some r95 else (bif (e2.Kind == 7) then (R.ms_l10Named a0 (⟨7, e2.Text, 0⟩ : SToken) e2.Kids 32).bind fun r97 => some r97 else (bif (e2.Kind == 8) then (R.ms_l10Named a0 (⟨8, e2.Text, 0⟩ : SToken) e2.Kids 32).bind fun r99 => some r99 else (bif (e2.Kind == 9) then (ms_l10Tok e2.Op).bind fun r104 => (ix e2.Kids 0).bind fun e105 => (R.ms_l10Lvalue a0 e105).bind fun r106 => (app 32 [r104] r106).bind fun x107 => some x107 else (bif (e2.Kind == 10) then (ix e2.Kids 0).bind fun e112 => (R.ms_l10Lvalue a0 e112).bind fun r113 => (ms_l10Tok e2.Op).bind fun r114 => (app 32 r113 [r114]).bind fun x115 => some x115 else (bif (e2.Kind == 15) then (ix e2.Kids 0).bind fun e120 => (R.ms_l10Lvalue a0 e120).bind fun r121 => (ms_l10Tok e2.Op).bind fun r122 => (app 32 r121 [r122]).bind fun x123 => (ix e2.Kids 1).bind fun e128 => (ms_KidPos e2 1 a2).bind fun r129 => (R.ms_l10At a0 e128 r129).bind fun r130 => (app 32 x123 r130).bind fun x131 => some x131 else (bif (e2.Kind == 6) then (ms_l10Tok 68).bind fun r137 => (ix e2.Kids 0).bind fun e138 => (ms_KidPos e2 0 a2).bind fun r139 => (R.ms_l10At a0 e138 r139).bind fun r140 => (app 32 [r137] r140).bind fun x141 => some x141 else (bif (e2.Kind == 11) then (ms_l10Tok e2.Op).bind fun r147 => (ix e2.Kids 0).bind fun e148 => (ms_KidPos e2 0 a2).bind fun r149 => (R.ms_l10At a0 e148 r149).bind fun r150 => (app 32 [r147] r150).bind fun x151 => some x151 else (bif (e2.Kind == 13) then (ix e2.Kids 0).bind fun e155 => (ms_KidPos e2 0 a2).bind fun r156 => (R.ms_l10At a0 e155 r156).bind fun r157 => bif (decide ((e2.Kids.length : Int) > 1)) then (ms_l10Tok 32).bind fun r176 => (R.ms_l10List a0 e2.Kids).bind fun r177 => (app 32 [r176] r177).bind fun x178 => (ms_l10Tok 33).bind fun r181 => (app 32 x178 [r181]).bind fun x182 => ms_l10Node_k1 N R (e2, x182) else (ms_l10Node_k1 N R (e2, r157)) else ((R.ms_l10Sides a0 e2 a2).bind fun r184 => some r184))))))))))

def ms_l10At_F (N : Nat) (R : Rec2) (a0 : SL10W) (a1 : Int) (a2 : SPos) : Option LT :=
  ((ix a0.l a1).bind fun e11 => (ms_Fits e11 a2).bind fun r12 => bif r12 then some (!a0.full) else (some false)).bind fun y10 => bif y10 then (R.ms_l10Node a0 a1 a2).bind fun r14 => some r14 else ((bif a0.full then (ix a0.l a1).bind fun e28 => (ms_LevelOf e28).bind fun r29 => bif (r29 == 15) then (ix a0.l a1).bind fun e30 => some (e30.Kind != 4) else (some false) else (some false)).bind fun y27 => bif y27 then (R.ms_l10Node a0 a1 a2).bind fun r32 => some r32 else ((ms_l10Tok 32).bind fun r37 => Option.bind ms_Top fun r38 => (R.ms_l10Node a0 a1 r38).bind fun r39 => (app 32 [r37] r39).bind fun x40 => (ms_l10Tok 33).bind fun r43 => (app 32 x40 [r43]).bind fun x44 => some x44))
def scc2 : Nat → Rec2
  | 0 => ⟨fun _ _ _ => none, fun _ _ => none, fun _ _ => none, fun _ _ _ _ => none, fun _ _ _ => none, fun _ _ _ => none⟩
  | N + 1 => ⟨fun a0 a1 a2 => ms_l10Sides_F N (scc2 N) a0 a1 a2, fun a0 a1 => ms_l10Lvalue_F N (scc2 N) a0 a1, fun a0 a1 => ms_l10List_F N (scc2 N) a0 a1, fun a0 a1 a2 a3 => ms_l10Named_F N (scc2 N) a0 a1 a2 a3, fun a0 a1 a2 => ms_l10Node_F N (scc2 N) a0 a1 a2, fun a0 a1 a2 => ms_l10At_F N (scc2 N) a0 a1 a2⟩
def ms_l10Sides (N : Nat) (a0 : SL10W) (a1 : SNode) (a2 : SPos) : Option LT := (scc2 N).ms_l10Sides a0 a1 a2
def ms_l10Lvalue (N : Nat) (a0 : SL10W) (a1 : Int) : Option LT := (scc2 N).ms_l10Lvalue a0 a1
def ms_l10List (N : Nat) (a0 : SL10W) (a1 : List Int) : Option LT := (scc2 N).ms_l10List a0 a1
def ms_l10Named (N : Nat) (a0 : SL10W) (a1 : SToken) (a2 : List Int) (a3 : Int) : Option LT := (scc2 N).ms_l10Named a0 a1 a2 a3
def ms_l10Node (N : Nat) (a0 : SL10W) (a1 : Int) (a2 : SPos) : Option LT := (scc2 N).ms_l10Node a0 a1 a2
def ms_l10At (N : Nat) (a0 : SL10W) (a1 : Int) (a2 : SPos) : Option LT := (scc2 N).ms_l10At a0 a1 a2

def ms_OpAt_k2 (N : Nat) (kb1 : (LU × Int × LLU × Int × Int × Int) → Option (Int × Int)) : (LU × Int × Int × LLU × Int × Int) → Option (Int × Int)
  | (a0, a1, y75, r2, y102, y103) => kb1 (a0, a1, r2, y102, y103, (IntKind.wrap .i64 (y75 + 1)))
def ms_OpAt_l1 (N : Nat) : Nat → (LU × Int × LLU × Int × Int × Int) → Option (Int × Int)
  | 0, _ => none
  | n1 + 1, (a0, a1, r2, y73, y74, y75) => bif (decide (y75 < (r2.length : Int))) then (ix r2 y75).bind fun e105 => (bif (decide (a1 ≥ 0)) then bif (decide (a1 ≤ (a0.length : Int))) then bif (decide ((e105.length : Int) ≤ (IntKind.wrap .i64 ((a0.length : Int) - a1)))) then (cut a0 a1 (IntKind.wrap .i64 (a1 + (e105.length : Int)))).bind fun s109 => (ix r2 y75).bind fun e110 => bif (s109 == e110) then some (decide ((e105.length : Int) > y74)) else (some false) else (some false) else (some false) else (some false)).bind fun y108 => bif y108 then ms_OpAt_k2 N (ms_OpAt_l1 N n1) (a0, a1, y75, r2, (IntKind.wrap .i64 (30 + y75)), (e105.length : Int)) else (ms_OpAt_k2 N (ms_OpAt_l1 N n1) (a0, a1, y75, r2, y73, y74)) else (some (y73, y74))
def ms_OpAt (N : Nat) (a0 : LU) (a1 : Int) : Option (Int × Int) :=
  Option.bind ms_l3Signs fun r2 => ms_OpAt_l1 N N (a0, a1, r2, 0, 0, 0)

def ms_NeedsGap (N : Nat) (a0 : SToken) (a1 : SToken) : Option Bool :=
  (bif (a0.Text == []) then some true else (bif (a1.Text == []) then some true else (bif (a0.Kind == 2) then some true else (bif (a0.Kind == 1) then some true else (some (a1.Kind == 1)))))).bind fun y2 => bif y2 then some false else ((ix a1.Text 0).bind fun b4 => (ix a0.Text (IntKind.wrap .i64 ((a0.Text.length : Int) - 1))).bind fun b6 => ((ms_IsWordByte (IntKind.wrap .i64 ((b6).toNat : Int))).bind fun r19 => bif r19 then (ms_IsWordByte (IntKind.wrap .i64 ((b4).toNat : Int))).bind fun r20 => some r20 else (some false)).bind fun y18 => bif y18 then some true else ((bif (a0.Kind == 3) then (ms_IsWordByte (IntKind.wrap .i64 ((b4).toNat : Int))).bind fun r23 => bif r23 then some true else (some ((IntKind.wrap .i64 ((b4).toNat : Int)) == 46)) else (some false)).bind fun y22 => bif y22 then some true else ((bif (a0.Kind == 6) then some (a1.Kind == 32) else (some false)).bind fun y24 => bif y24 then some true else ((cat a0.Text a1.Text).bind fun s27 => (ms_OpAt N s27 0).bind fun r28 => ((ms_l1In a0.Kind 30 68).bind fun r31 => bif r31 then some (decide (r28.2 > (a0.Text.length : Int))) else (some false)).bind fun y30 => some y30))))

structure Rec3 where
  ms_l18Bin : SL10W → SNode → SPos → Option LD
  ms_l18Lvalue : SL10W → Int → Option LD
  ms_l18List : SL10W → (List Int) → SPos → Option LD
  ms_l18Named : SL10W → SNode → LU → LU → Option LD
  ms_l18Node : SL10W → Int → SPos → Option LD
  ms_l18At : SL10W → Int → SPos → Option LD

def ms_l18Bin_k1 (N : Nat) (R : Rec3) : (SNode × LD × LD × Bool) → Option LD
  | (a1, r6, r12, y36) => bif y36 then (ms_SpellOf a1.Op).bind fun r44 => (cat ([32] : LU) r44).bind fun s45 => (ms_l15Text s45).bind fun r46 => Option.bind ms_l15Line fun r47 => (ms_l15Over N 6 0 [r6, r46, r47, r12]).bind fun r48 => (ms_l15Over N 4 4 [r48]).bind fun r49 => (ms_l15Over N 5 0 [r49]).bind fun r50 => some r50 else ((ms_SpellOf a1.Op).bind fun r56 => (cat ([32] : LU) r56).bind fun s57 => (cat s57 ([32] : LU)).bind fun s58 => (ms_l15Text s58).bind fun r59 => (ms_l15Over N 6 0 [r6, r59, r12]).bind fun r60 => some r60)
def ms_l18Bin_F (N : Nat) (R : Rec3) (a0 : SL10W) (a1 : SNode) (a2 : SPos) : Option LD :=
  (ix a1.Kids 0).bind fun e4 => (ms_KidPos a1 0 a2).bind fun r5 => (R.ms_l18At a0 e4 r5).bind fun r6 => (ix a1.Kids 1).bind fun e10 => (ms_KidPos a1 1 a2).bind fun r11 => (R.ms_l18At a0 e10 r11).bind fun r12 => bif (a1.Op == 99) then (ms_l15Text [32]).bind fun r34 => (ms_l15Over N 6 0 [r6, r34, r12]).bind fun r35 => some r35 else (bif (a1.Op == 45) then ms_l18Bin_k1 N R (a1, r6, r12, (a1.Op == 45)) else (ms_l18Bin_k1 N R (a1, r6, r12, (a1.Op == 44))))

def ms_l18Lvalue_F (N : Nat) (R : Rec3) (a0 : SL10W) (a1 : Int) : Option LD :=
  (R.ms_l18Node a0 a1 (⟨14, false, false, false, false⟩ : SPos)).bind fun r2 => some r2

def ms_l18List_k2 (N : Nat) (R : Rec3) (kb1 : ((List Int) × SL10W × SPos × Int × (List LD)) → Option LD) : ((List Int) × Int × SL10W × SPos × (List LD)) → Option LD
  | (a1, y105, a0, a2, y172) => (ix a1 y105).bind fun e176 => (R.ms_l18At a0 e176 a2).bind fun r177 => (app 24 y172 [r177]).bind fun x178 => kb1 (a1, a0, a2, (IntKind.wrap .i64 (y105 + 1)), x178)
def ms_l18List_l1 (N : Nat) (R : Rec3) : Nat → ((List Int) × SL10W × SPos × Int × (List LD)) → Option LD
  | 0, _ => none
  | n1 + 1, (a1, a0, a2, y105, y106) => bif (decide (y105 < (a1.length : Int))) then bif (decide (y105 > 0)) then (ms_l15Text [44]).bind fun r182 => Option.bind ms_l15Line fun r183 => (app 24 y106 [r182, r183]).bind fun x184 => ms_l18List_k2 N R (ms_l18List_l1 N R n1) (a1, y105, a0, a2, x184) else (ms_l18List_k2 N R (ms_l18List_l1 N R n1) (a1, y105, a0, a2, y106)) else ((ms_l15Over N 6 0 y106).bind fun r188 => (ms_l15Over N 4 4 [r188]).bind fun r189 => (ms_l15Over N 5 0 [r189]).bind fun r190 => some r190)
def ms_l18List_F (N : Nat) (R : Rec3) (a0 : SL10W) (a1 : List Int) (a2 : SPos) : Option LD :=
  ms_l18List_l1 N R N (a1, a0, a2, 0, [])

def ms_l18Named_F (N : Nat) (R : Rec3) (a0 : SL10W) (a1 : SNode) (a2 : LU) (a3 : LU) : Option LD :=
  (cat a1.Text a2).bind fun s7 => (ms_l15Text s7).bind fun r8 => Option.bind ms_Top fun r9 => (R.ms_l18List a0 a1.Kids r9).bind fun r10 => (ms_l15Text a3).bind fun r11 => (ms_l15Over N 6 0 [r8, r10, r11]).bind fun r12 => some r12

def ms_l18Node_k2 (N : Nat) (R : Rec3) : (SL10W × SPos × SNode × LU) → Option LD
  | (a0, a2, e2, y236) => (ms_l15Text y236).bind fun r242 => (ix e2.Kids 0).bind fun e243 => (ms_KidPos e2 0 a2).bind fun r244 => (R.ms_l18At a0 e243 r244).bind fun r245 => (ms_l15Over N 6 0 [r242, r245]).bind fun r246 => some r246
def ms_l18Node_k1 (N : Nat) (R : Rec3) : (SNode × SL10W × SPos × Bool) → Option LD
  | (e2, a0, a2, y167) => bif y167 then (R.ms_l18Named a0 e2 [40] [41]).bind fun r169 => some r169 else (bif (e2.Kind == 9) then (ms_SpellOf e2.Op).bind fun r175 => (ms_l15Text r175).bind fun r176 => (ix e2.Kids 0).bind fun e177 => (R.ms_l18Lvalue a0 e177).bind fun r178 => (ms_l15Over N 6 0 [r176, r178]).bind fun r179 => some r179 else (bif (e2.Kind == 10) then (ix e2.Kids 0).bind fun e185 => (R.ms_l18Lvalue a0 e185).bind fun r186 => (ms_SpellOf e2.Op).bind fun r187 => (ms_l15Text r187).bind fun r188 => (ms_l15Over N 6 0 [r186, r188]).bind fun r189 => some r189 else (bif (e2.Kind == 6) then (ms_l15Text [36]).bind fun r195 => (ix e2.Kids 0).bind fun e196 => (ms_KidPos e2 0 a2).bind fun r197 => (R.ms_l18At a0 e196 r197).bind fun r198 => (ms_l15Over N 6 0 [r195, r198]).bind fun r199 => some r199 else (bif (e2.Kind == 15) then (ix e2.Kids 0).bind fun e210 => (R.ms_l18Lvalue a0 e210).bind fun r211 => (ms_SpellOf e2.Op).bind fun r212 => (cat ([32] : LU) r212).bind fun s213 => (cat s213 ([32] : LU)).bind fun s214 => (ms_l15Text s214).bind fun r215 => (ix e2.Kids 1).bind fun e216 => (ms_KidPos e2 1 a2).bind fun r217 => (R.ms_l18At a0 e216 r217).bind fun r218 => (ms_l15Over N 6 0 [r211, r215, r218]).bind fun r219 => some r219 else (bif (e2.Kind == 11) then (ms_SpellOf e2.Op).bind fun r221 => (ms_l10Tok e2.Op).bind fun r253 => (ix e2.Kids 0).bind fun e254 => (ms_KidPos e2 0 a2).bind fun r255 => (ms_l10At N a0 e254 r255).bind fun r256 => (ix r256 0).bind fun e257 => (ms_NeedsGap N r253 e257).bind fun r258 => bif r258 then (cat r221 ([32] : LU)).bind fun s260 => ms_l18Node_k2 N R (a0, a2, e2, s260) else (ms_l18Node_k2 N R (a0, a2, e2, r221)) else (bif (e2.Kind == 14) then (ix e2.Kids 0).bind fun e273 => (ms_KidPos e2 0 a2).bind fun r274 => (R.ms_l18At a0 e273 r274).bind fun r275 => (ms_l15Text [32, 63, 32]).bind fun r276 => (ix e2.Kids 1).bind fun e277 => (ms_KidPos e2 1 a2).bind fun r278 => (R.ms_l18At a0 e277 r278).bind fun r279 => (ms_l15Text [32, 58, 32]).bind fun r280 => (ix e2.Kids 2).bind fun e281 => (ms_KidPos e2 2 a2).bind fun r282 => (R.ms_l18At a0 e281 r282).bind fun r283 => (ms_l15Over N 6 0 [r275, r276, r279, r280, r283]).bind fun r284 => some r284 else (bif (e2.Kind == 13) then bif ((e2.Kids.length : Int) == 1) then (ix e2.Kids 0).bind fun e303 => (ms_KidPos e2 0 a2).bind fun r304 => (R.ms_l18At a0 e303 r304).bind fun r305 => (cat ([32, 105, 110, 32] : LU) e2.Text).bind fun s306 => (ms_l15Text s306).bind fun r307 => (ms_l15Over N 6 0 [r305, r307]).bind fun r308 => some r308 else ((ms_l15Text [40]).bind fun r315 => Option.bind ms_Top fun r316 => (R.ms_l18List a0 e2.Kids r316).bind fun r317 => (cat ([41, 32, 105, 110, 32] : LU) e2.Text).bind fun s318 => (ms_l15Text s318).bind fun r319 => (ms_l15Over N 6 0 [r315, r317, r319]).bind fun r320 => some r320) else ((R.ms_l18Bin a0 e2 a2).bind fun r322 => some r322))))))))
def ms_l18Node_F (N : Nat) (R : Rec3) (a0 : SL10W) (a1 : Int) (a2 : SPos) : Option LD :=
  (ix a0.l a1).bind fun e2 => (ms_l10Leaf e2).bind fun r4 => bif (r4.Kind != 0) then (ms_l15Text r4.Text).bind fun r8 => some r8 else (bif (e2.Kind == 5) then (R.ms_l18Named a0 e2 [91] [93]).bind fun r166 => some r166 else (bif (e2.Kind == 7) then ms_l18Node_k1 N R (e2, a0, a2, (e2.Kind == 7)) else (ms_l18Node_k1 N R (e2, a0, a2, (e2.Kind == 8)))))

def ms_l18At_F (N : Nat) (R : Rec3) (a0 : SL10W) (a1 : Int) (a2 : SPos) : Option LD :=
  (ix a0.l a1).bind fun e9 => (ms_Fits e9 a2).bind fun r10 => bif r10 then (R.ms_l18Node a0 a1 a2).bind fun r12 => some r12 else ((ms_l15Text [40]).bind fun r18 => Option.bind ms_Top fun r19 => (R.ms_l18Node a0 a1 r19).bind fun r20 => (ms_l15Text [41]).bind fun r21 => (ms_l15Over N 6 0 [r18, r20, r21]).bind fun r22 => some r22)
def scc3 : Nat → Rec3
  | 0 => ⟨fun _ _ _ => none, fun _ _ => none, fun _ _ _ => none, fun _ _ _ _ => none, fun _ _ _ => none, fun _ _ _ => none⟩
  | N + 1 => ⟨fun a0 a1 a2 => ms_l18Bin_F N (scc3 N) a0 a1 a2, fun a0 a1 => ms_l18Lvalue_F N (scc3 N) a0 a1, fun a0 a1 a2 => ms_l18List_F N (scc3 N) a0 a1 a2, fun a0 a1 a2 a3 => ms_l18Named_F N (scc3 N) a0 a1 a2 a3, fun a0 a1 a2 => ms_l18Node_F N (scc3 N) a0 a1 a2, fun a0 a1 a2 => ms_l18At_F N (scc3 N) a0 a1 a2⟩
def ms_l18Bin (N : Nat) (a0 : SL10W) (a1 : SNode) (a2 : SPos) : Option LD := (scc3 N).ms_l18Bin a0 a1 a2
def ms_l18Lvalue (N : Nat) (a0 : SL10W) (a1 : Int) : Option LD := (scc3 N).ms_l18Lvalue a0 a1
def ms_l18List (N : Nat) (a0 : SL10W) (a1 : List Int) (a2 : SPos) : Option LD := (scc3 N).ms_l18List a0 a1 a2
def ms_l18Named (N : Nat) (a0 : SL10W) (a1 : SNode) (a2 : LU) (a3 : LU) : Option LD := (scc3 N).ms_l18Named a0 a1 a2 a3
def ms_l18Node (N : Nat) (a0 : SL10W) (a1 : Int) (a2 : SPos) : Option LD := (scc3 N).ms_l18Node a0 a1 a2
def ms_l18At (N : Nat) (a0 : SL10W) (a1 : Int) (a2 : SPos) : Option LD := (scc3 N).ms_l18At a0 a1 a2

def ms_ExprDoc (N : Nat) (a0 : LN) (a1 : SPos) : Option LD :=
  ((ms_ExprOk N a0).bind fun r9 => bif (!r9) then some true else ((ms_PosOk a1).bind fun r10 => some (!r10))).bind fun y8 => bif y8 then some [] else ((ms_l18At N (⟨a0, false⟩ : SL10W) (IntKind.wrap .i64 ((a0.length : Int) - 1)) a1).bind fun r12 => some r12)

def ms_l15Node_k1 (N : Nat) : (SDNode × Bool) → Option Bool
  | (a0, y13) => bif y13 then some ((a0.Kids.length : Int) == 0) else (bif (a0.Kind == 4) then ((ms_l1In a0.N 0 40).bind fun r16 => bif r16 then some ((a0.Kids.length : Int) == 1) else (some false)).bind fun y15 => some y15 else (bif (a0.Kind == 5) then some ((a0.Kids.length : Int) == 1) else (some (a0.Kind == 6))))
def ms_l15Node (N : Nat) (a0 : SDNode) : Option Bool :=
  (bif (a0.Kind != 1) then bif (!(a0.Text == [])) then some true else (bif (a0.Kind != 4) then some (a0.N != 0) else (some false)) else (bif (a0.Kind != 4) then some (a0.N != 0) else (some false))).bind fun y2 => bif y2 then some false else (bif (a0.Kind == 1) then ((ms_l4Plain N a0.Text).bind fun r12 => bif r12 then some ((a0.Kids.length : Int) == 0) else (some false)).bind fun y11 => some y11 else (bif (a0.Kind == 2) then ms_l15Node_k1 N (a0, (a0.Kind == 2)) else (ms_l15Node_k1 N (a0, (a0.Kind == 3)))))

def ms_l15Starts_l2 (N : Nat) (kb1 : (LD × Int × (List Int)) → Option ((List Int) × Bool)) : Nat → (LD × Int × (List Int) × Int × Int) → Option ((List Int) × Bool)
  | 0, _ => none
  | n2 + 1, (a0, y917, y918, y1499, y1500) => bif (decide (y1500 ≥ 0)) then ((ix a0 y917).bind fun e1547 => (ix e1547.Kids y1500).bind fun e1548 => bif (e1548 != (IntKind.wrap .i64 (y1499 - 1))) then some true else (some (y1499 == 0))).bind fun y1546 => bif y1546 then some ([], false) else ((ix y918 (IntKind.wrap .i64 (y1499 - 1))).bind fun e1550 => (ms_l15Starts_l2 N kb1 n2) (a0, y917, y918, e1550, (IntKind.wrap .i64 (y1500 - 1)))) else ((app 8 y918 [y1499]).bind fun x1552 => kb1 (a0, (IntKind.wrap .i64 (y917 + 1)), x1552))
def ms_l15Starts_l1 (N : Nat) : Nat → (LD × Int × (List Int)) → Option ((List Int) × Bool)
  | 0, _ => none
  | n1 + 1, (a0, y917, y918) => bif (decide (y917 < (a0.length : Int))) then (ix a0 y917).bind fun e1474 => ms_l15Starts_l2 N (ms_l15Starts_l1 N n1) N (a0, y917, y918, y917, (IntKind.wrap .i64 ((e1474.Kids.length : Int) - 1))) else (some (y918, true))
def ms_l15Starts (N : Nat) (a0 : LD) : Option ((List Int) × Bool) :=
  ms_l15Starts_l1 N N (a0, 0, [])

def ms_DocOk_l1 (N : Nat) : Nat → (LD × Int) → Option Bool
  | 0, _ => none
  | n1 + 1, (a0, y39) => bif (decide (y39 < (a0.length : Int))) then (ix a0 y39).bind fun e55 => (ms_l15Node N e55).bind fun r56 => bif (!r56) then some false else ((ms_DocOk_l1 N n1) (a0, (IntKind.wrap .i64 (y39 + 1)))) else ((ms_l15Starts N a0).bind fun r58 => (bif r58.2 then (ix r58.1 (IntKind.wrap .i64 ((a0.length : Int) - 1))).bind fun e61 => some (e61 == 0) else (some false)).bind fun y60 => some y60)
def ms_DocOk (N : Nat) (a0 : LD) : Option Bool :=
  (ms_l1In (a0.length : Int) 1 4000).bind fun r4 => bif (!r4) then some false else (ms_DocOk_l1 N N (a0, 0))

def ms_FlatText_k2 (N : Nat) (kb1 : (LD × Int × LU) → Option (LU × Bool)) : (LD × Int × LU) → Option (LU × Bool)
  | (a0, y77, y106) => kb1 (a0, (IntKind.wrap .i64 (y77 + 1)), y106)
def ms_FlatText_l1 (N : Nat) : Nat → (LD × Int × LU) → Option (LU × Bool)
  | 0, _ => none
  | n1 + 1, (a0, y77, y78) => bif (decide (y77 < (a0.length : Int))) then (ix a0 y77).bind fun e108 => bif (e108.Kind == 1) then (ix a0 y77).bind fun e111 => (app 1 y78 e111.Text).bind fun x112 => ms_FlatText_k2 N (ms_FlatText_l1 N n1) (a0, y77, x112) else (bif (e108.Kind == 2) then (app 1 y78 [32]).bind fun x114 => ms_FlatText_k2 N (ms_FlatText_l1 N n1) (a0, y77, x114) else (bif (e108.Kind == 3) then some ([], false) else (ms_FlatText_k2 N (ms_FlatText_l1 N n1) (a0, y77, y78)))) else (some (y78, true))
def ms_FlatText (N : Nat) (a0 : LD) : Option (LU × Bool) :=
  (ms_DocOk N a0).bind fun r4 => bif (!r4) then some ([], false) else (ms_FlatText_l1 N N (a0, 0, []))

def ms_ExprText (N : Nat) (a0 : LN) (a1 : SPos) : Option LU :=
  (ms_ExprDoc N a0 a1).bind fun r3 => (ms_FlatText N r3).bind fun r4 => some r4.1

structure Rec4 where
  ms_l14Stmt : Int → LU → Int → Int → Option (LU × Int × Int)
  ms_l14Body : Int → LU → Int → Int → Option (LU × Int × Int)

def ms_l14Stmt_k2 (N : Nat) (R : Rec4) (pa : LU) : (LU × Int × (Int × Int × Int) × Bool) → Option (LU × Int × Int)
  | (r8, y12, r10, y160) => bif y160 then (ms_l1Pick [[112, 114, 105, 110, 116], [112, 114, 105, 110, 116, 102, 32]] pa r10.2.1 r10.2.2).bind fun r167 => (ms_l1Pick [[], [32], [32, 120, 44, 32], [32, 120, 44, 10]] pa r167.2.1 r167.2.2).bind fun r168 => (cat r167.1 r168.1).bind fun s169 => (cat s169 r8).bind fun s170 => (ms_l1Pick [[], [], [32, 62, 32, 34, 102, 34], [32, 62, 62, 32, 34, 102, 34, 32, 120], [32, 124, 32, 34, 115, 111, 114, 116, 34]] pa r168.2.1 r168.2.2).bind fun r171 => (cat s170 r171.1).bind fun s172 => some (s172, r171.2.1, r171.2.2) else (bif (y12 == 8) then (ms_l1Pick [[110, 101, 120, 116], [101, 120, 105, 116], [114, 101, 116, 117, 114, 110], [98, 114, 101, 97, 107], [99, 111, 110, 116, 105, 110, 117, 101], [100, 101, 108, 101, 116, 101, 32, 97], [100, 101, 108, 101, 116, 101, 32, 97, 91, 49, 44, 32, 120, 93], [101, 120, 105, 116, 32, 49]] pa r10.2.1 r10.2.2).bind fun r174 => some (r174.1, r174.2.1, r174.2.2) else (bif (y12 == 9) then (cat ([120, 32, 61, 32, 40] : LU) r8).bind fun s177 => (cat s177 ([41] : LU)).bind fun s178 => some (s178, r10.2.1, r10.2.2) else (some (r8, r10.2.1, r10.2.2))))
def ms_l14Stmt_k1 (N : Nat) (R : Rec4) (pa : LU) : (Int × LU × (Int × Int × Int) × Int) → Option (LU × Int × Int)
  | (a1, r8, r10, y12) => bif (y12 == 0) then (cat ([105, 102, 32, 40] : LU) r8).bind fun s100 => (cat s100 ([41, 32] : LU)).bind fun s101 => (R.ms_l14Stmt (IntKind.wrap .i64 (a1 - 1)) pa r10.2.1 r10.2.2).bind fun r102 => (cat s101 r102.1).bind fun s103 => some (s103, r102.2.1, r102.2.2) else (bif (y12 == 1) then (cat ([105, 102, 32, 40] : LU) r8).bind fun s111 => (cat s111 ([41, 32, 123] : LU)).bind fun s112 => (R.ms_l14Body (IntKind.wrap .i64 (a1 - 1)) pa r10.2.1 r10.2.2).bind fun r113 => (cat s112 r113.1).bind fun s114 => (cat s114 ([125, 32, 101, 108, 115, 101, 32] : LU)).bind fun s115 => (R.ms_l14Stmt (IntKind.wrap .i64 (a1 - 1)) pa r113.2.1 r113.2.2).bind fun r116 => (cat s115 r116.1).bind fun s117 => some (s117, r116.2.1, r116.2.2) else (bif (y12 == 2) then (cat ([119, 104, 105, 108, 101, 32, 40] : LU) r8).bind fun s124 => (cat s124 ([41] : LU)).bind fun s125 => (ms_l1Pick [[32], [10], [59]] pa r10.2.1 r10.2.2).bind fun r126 => (cat s125 r126.1).bind fun s127 => (R.ms_l14Stmt (IntKind.wrap .i64 (a1 - 1)) pa r126.2.1 r126.2.2).bind fun r128 => (cat s127 r128.1).bind fun s129 => some (s129, r128.2.1, r128.2.2) else (bif (y12 == 3) then (R.ms_l14Stmt (IntKind.wrap .i64 (a1 - 1)) pa r10.2.1 r10.2.2).bind fun r137 => (cat ([100, 111, 32] : LU) r137.1).bind fun s138 => (ms_l1Pick [[59, 32], [10]] pa r137.2.1 r137.2.2).bind fun r139 => (cat s138 r139.1).bind fun s140 => (cat s140 ([119, 104, 105, 108, 101, 32, 40] : LU)).bind fun s141 => (cat s141 r8).bind fun s142 => (cat s142 ([41] : LU)).bind fun s143 => some (s143, r139.2.1, r139.2.2) else (bif (y12 == 4) then (ms_l1Pick [[105, 32, 61, 32, 48, 59, 32, 105, 32, 60, 32, 51, 59, 32, 105, 43, 43], [59, 59], [107, 32, 105, 110, 32, 97], [40, 107, 32, 105, 110, 32, 97, 41, 59, 59], [105, 32, 61, 32, 49, 59, 59, 105, 43, 43]] pa r10.2.1 r10.2.2).bind fun r149 => (cat ([102, 111, 114, 32, 40] : LU) r149.1).bind fun s150 => (cat s150 ([41, 32] : LU)).bind fun s151 => (R.ms_l14Stmt (IntKind.wrap .i64 (a1 - 1)) pa r149.2.1 r149.2.2).bind fun r152 => (cat s151 r152.1).bind fun s153 => some (s153, r152.2.1, r152.2.2) else (bif (y12 == 5) then (R.ms_l14Body (IntKind.wrap .i64 (a1 - 1)) pa r10.2.1 r10.2.2).bind fun r157 => (cat ([123] : LU) r157.1).bind fun s158 => (cat s158 ([125] : LU)).bind fun s159 => some (s159, r157.2.1, r157.2.2) else (bif (y12 == 6) then ms_l14Stmt_k2 N R pa (r8, y12, r10, (y12 == 6)) else (ms_l14Stmt_k2 N R pa (r8, y12, r10, (y12 == 7)))))))))
def ms_l14Stmt_F (N : Nat) (R : Rec4) (a1 : Int) (pa : LU) (pb : Int) (pc : Int) : Option (LU × Int × Int) :=
  (ms_l1Below 2 pa pb pc).bind fun r5 => (ms_l7Expr N (IntKind.wrap .i64 (1 + r5.1)) pa r5.2.1 r5.2.2).bind fun r6 => Option.bind ms_Top fun r7 => (ms_ExprText N r6.1 r7).bind fun r8 => (ms_l1Below 14 pa r6.2.1 r6.2.2).bind fun r10 => (bif (decide (a1 ≤ 0)) then some (decide (r10.1 < 6)) else (some false)).bind fun y179 => bif y179 then ms_l14Stmt_k1 N R pa (a1, r8, r10, 6) else (ms_l14Stmt_k1 N R pa (a1, r8, r10, r10.1))

def ms_l14Body_l1 (N : Nat) (R : Rec4) (pa : LU) : Nat → (Int × LU × Int × Int × Int) → Option (LU × Int × Int)
  | 0, _ => none
  | n1 + 1, (a1, y109, y110, y111, y112) => bif (decide (y110 > 0)) then (ms_l1Pick [[], [10], [32], [35, 32, 99, 10], [59, 32]] pa y111 y112).bind fun r159 => (cat y109 r159.1).bind fun s160 => (R.ms_l14Stmt a1 pa r159.2.1 r159.2.2).bind fun r161 => (cat s160 r161.1).bind fun s162 => (ms_l1Pick [[59], [10], [10], [32, 35, 32, 116, 10], [59, 10]] pa r161.2.1 r161.2.2).bind fun r163 => (cat s162 r163.1).bind fun s164 => (ms_l14Body_l1 N R pa n1) (a1, s164, (IntKind.wrap .i64 (y110 - 1)), r163.2.1, r163.2.2) else (some (y109, y111, y112))
def ms_l14Body_F (N : Nat) (R : Rec4) (a1 : Int) (pa : LU) (pb : Int) (pc : Int) : Option (LU × Int × Int) :=
  (ms_l1Below 3 pa pb pc).bind fun r84 => ms_l14Body_l1 N R pa N (a1, [], r84.1, r84.2.1, r84.2.2)
def scc4 : Nat → Rec4
  | 0 => ⟨fun _ _ _ _ => none, fun _ _ _ _ => none⟩
  | N + 1 => ⟨fun a1 pa pb pc => ms_l14Stmt_F N (scc4 N) a1 pa pb pc, fun a1 pa pb pc => ms_l14Body_F N (scc4 N) a1 pa pb pc⟩
def ms_l14Stmt (N : Nat) (a1 : Int) (pa : LU) (pb : Int) (pc : Int) : Option (LU × Int × Int) := (scc4 N).ms_l14Stmt a1 pa pb pc
def ms_l14Body (N : Nat) (a1 : Int) (pa : LU) (pb : Int) (pc : Int) : Option (LU × Int × Int) := (scc4 N).ms_l14Body a1 pa pb pc

def ms_l14Item (N : Nat) (pa : LU) (pb : Int) (pc : Int) : Option (LU × Int × Int) :=
  (ms_l14Body N 2 pa pb pc).bind fun r4 => (cat ([32, 123] : LU) r4.1).bind fun s5 => (cat s5 ([125] : LU)).bind fun s6 => (ms_l7Expr N 1 pa r4.2.1 r4.2.2).bind fun r10 => Option.bind ms_Top fun r11 => (ms_ExprText N r10.1 r11).bind fun r12 => (ms_l1Below 6 pa r10.2.1 r10.2.2).bind fun r44 => bif (r44.1 == 0) then (ms_l1Pick [[66, 69, 71, 73, 78], [69, 78, 68]] pa r44.2.1 r44.2.2).bind fun r47 => (cat r47.1 s6).bind fun s48 => some (s48, r47.2.1, r47.2.2) else (bif (r44.1 == 1) then (ms_l1Pick [[102, 40], [102, 32, 40]] pa r44.2.1 r44.2.2).bind fun r57 => (cat ([102, 117, 110, 99, 116, 105, 111, 110, 32] : LU) r57.1).bind fun s58 => (ms_l1Pick [[], [120], [120, 44, 32, 121], [120, 44, 10, 121]] pa r57.2.1 r57.2.2).bind fun r59 => (cat s58 r59.1).bind fun s60 => (cat s60 ([41] : LU)).bind fun s61 => (ms_l1Pick [[], [10], [32, 35, 32, 100, 10]] pa r59.2.1 r59.2.2).bind fun r62 => (cat s61 r62.1).bind fun s63 => (cat s63 s6).bind fun s64 => some (s64, r62.2.1, r62.2.2) else (bif (r44.1 == 2) then some (r12, r44.2.1, r44.2.2) else (bif (r44.1 == 3) then (cat r12 ([44, 32] : LU)).bind fun s69 => (cat s69 r12).bind fun s70 => (ms_l1Pick [[], s6] pa r44.2.1 r44.2.2).bind fun r71 => (cat s70 r71.1).bind fun s72 => some (s72, r71.2.1, r71.2.2) else (bif (r44.1 == 4) then some (s6, r44.2.1, r44.2.2) else ((cat r12 s6).bind fun s74 => some (s74, r44.2.1, r44.2.2))))))

def ms_l14Source_l1 (N : Nat) (pa : LU) : Nat → (LU × Int × Int × Int) → Option (LU × Int × Int)
  | 0, _ => none
  | n1 + 1, (y109, y110, y111, y112) => bif (decide (y110 > 0)) then (ms_l1Pick [[], [10], [35, 32, 116, 111, 112, 10], []] pa y111 y112).bind fun r159 => (cat y109 r159.1).bind fun s160 => (ms_l14Item N pa r159.2.1 r159.2.2).bind fun r161 => (cat s160 r161.1).bind fun s162 => (ms_l1Pick [[10], [10, 10], [59], [32, 35, 32, 101, 10]] pa r161.2.1 r161.2.2).bind fun r163 => (cat s162 r163.1).bind fun s164 => (ms_l14Source_l1 N pa n1) (s164, (IntKind.wrap .i64 (y110 - 1)), r163.2.1, r163.2.2) else (some (y109, y111, y112))
def ms_l14Source (N : Nat) (pa : LU) (pb : Int) (pc : Int) : Option (LU × Int × Int) :=
  (ms_l1Below 4 pa pb pc).bind fun r84 => ms_l14Source_l1 N pa N ([], r84.1, r84.2.1, r84.2.2)

def ms_l1Text_k3 (N : Nat) (pa : LU) (kb1 : ((Int × Int × Int) × Int × Int × Int × LU) → Option (LU × Int × Int)) : ((Int × Int × Int) × Int × (Int × Int × Int) × LU × Int) → Option (LU × Int × Int)
  | (r2, y63, r90, y66, y92) => (app 1 y66 [(bytI y92)]).bind fun x94 => kb1 (r2, (IntKind.wrap .i64 (y63 - 1)), r90.2.1, r90.2.2, x94)
def ms_l1Text_k2 (N : Nat) (pa : LU) (kb1 : ((Int × Int × Int) × Int × Int × Int × LU) → Option (LU × Int × Int)) : ((Int × Int × Int) × Int × (Int × Int × Int) × LU × Int) → Option (LU × Int × Int)
  | (r2, y63, r90, y66, y91) => bif (r2.1 == 2) then ms_l1Text_k3 N pa kb1 (r2, y63, r90, y66, (IntKind.wrap .i64 (97 + (Int.tmod y91 4)))) else (ms_l1Text_k3 N pa kb1 (r2, y63, r90, y66, y91))
def ms_l1Text_l1 (N : Nat) (pa : LU) : Nat → ((Int × Int × Int) × Int × Int × Int × LU) → Option (LU × Int × Int)
  | 0, _ => none
  | n1 + 1, (r2, y63, y64, y65, y66) => bif (decide (y63 > 0)) then (ms_l1Byte pa y64 y65).bind fun r90 => bif (r2.1 == 1) then ms_l1Text_k2 N pa (ms_l1Text_l1 N pa n1) (r2, y63, r90, y66, (Int.tmod r90.1 2)) else (ms_l1Text_k2 N pa (ms_l1Text_l1 N pa n1) (r2, y63, r90, y66, r90.1)) else (some (y66, y64, y65))
def ms_l1Text (N : Nat) (a1 : Int) (pa : LU) (pb : Int) (pc : Int) : Option (LU × Int × Int) :=
  (ms_l1Below 4 pa pb pc).bind fun r2 => (ms_l1Below (IntKind.wrap .i64 (a1 + 1)) pa r2.2.1 r2.2.2).bind fun r50 => ms_l1Text_l1 N pa N (r2, r50.1, r50.2.1, r50.2.2, [])

def ms_l1Spoil (N : Nat) (a1 : LU) (pa : LU) (pb : Int) (pc : Int) : Option (LU × Int × Int) :=
  bif ((a1.length : Int) == 0) then (ms_l1Text N 3 pa pb pc).bind fun r4 => some (r4.1, r4.2.1, r4.2.2) else ((ms_l1Below (a1.length : Int) pa pb pc).bind fun r6 => (ms_l1Below 4 pa r6.2.1 r6.2.2).bind fun r28 => bif (r28.1 == 0) then (cut a1 0 r6.1).bind fun s32 => (cut a1 (IntKind.wrap .i64 (r6.1 + 1)) (a1.length : Int)).bind fun s33 => (cat s32 s33).bind fun s34 => some (s34, r28.2.1, r28.2.2) else (bif (r28.1 == 1) then (cut a1 0 r6.1).bind fun s40 => (ms_l1Byte pa r28.2.1 r28.2.2).bind fun r41 => (cat s40 [(bytI r41.1)]).bind fun s42 => (cut a1 r6.1 (a1.length : Int)).bind fun s43 => (cat s42 s43).bind fun s44 => some (s44, r41.2.1, r41.2.2) else (bif (r28.1 == 2) then (cut a1 0 r6.1).bind fun s46 => some (s46, r28.2.1, r28.2.2) else ((cut a1 0 r6.1).bind fun s53 => (ix a1 r6.1).bind fun b54 => (ms_l1Below 255 pa r28.2.1 r28.2.2).bind fun r55 => (cat s53 [(bytI (bits .xor .i64 (IntKind.wrap .i64 ((b54).toNat : Int)) (IntKind.wrap .i64 (1 + r55.1))))]).bind fun s56 => (cut a1 (IntKind.wrap .i64 (r6.1 + 1)) (a1.length : Int)).bind fun s57 => (cat s56 s57).bind fun s58 => some (s58, r55.2.1, r55.2.2)))))

def ms_l5Token_k1 (pa : LU) : ((Int × Int × Int) × Bool) → Option (SToken × Int × Int)
  | (r21, y28) => bif y28 then (ms_l2Word pa r21.2.1 r21.2.2).bind fun r30 => some ((⟨6, r30.1, 0⟩ : SToken), r30.2.1, r30.2.2) else (bif (r21.1 == 5) then Option.bind ms_l3Builtins fun r33 => (ms_l1Pick r33 pa r21.2.1 r21.2.2).bind fun r34 => some ((⟨8, r34.1, 0⟩ : SToken), r34.2.1, r34.2.2) else (bif (r21.1 == 6) then (ms_l1Below 17 pa r21.2.1 r21.2.2).bind fun r36 => (ms_SpellOf (IntKind.wrap .i64 (10 + r36.1))).bind fun r38 => some ((⟨(IntKind.wrap .i64 (10 + r36.1)), r38, 0⟩ : SToken), r36.2.1, r36.2.2) else ((ms_l1Below 39 pa r21.2.1 r21.2.2).bind fun r40 => (ms_SpellOf (IntKind.wrap .i64 (30 + r40.1))).bind fun r42 => some ((⟨(IntKind.wrap .i64 (30 + r40.1)), r42, 0⟩ : SToken), r40.2.1, r40.2.2))))
def ms_l5Token (pa : LU) (pb : Int) (pc : Int) : Option (SToken × Int × Int) :=
  (ms_l1Below 10 pa pb pc).bind fun r21 => bif (r21.1 == 0) then (ms_l4Num pa r21.2.1 r21.2.2).bind fun r23 => some ((⟨3, r23.1, 0⟩ : SToken), r23.2.1, r23.2.2) else (bif (r21.1 == 1) then (ms_l4Str pa r21.2.1 r21.2.2).bind fun r25 => some ((⟨4, r25.1, 0⟩ : SToken), r25.2.1, r25.2.2) else (bif (r21.1 == 2) then (ms_l4Ere pa r21.2.1 r21.2.2).bind fun r27 => some ((⟨5, r27.1, 0⟩ : SToken), r27.2.1, r27.2.2) else (bif (r21.1 == 3) then ms_l5Token_k1 pa (r21, (r21.1 == 3)) else (ms_l5Token_k1 pa (r21, (r21.1 == 4))))))

def ms_EndsOperand_k1 : Bool → Option Bool
  | y2 => bif y2 then some true else (some false)
def ms_EndsOperand (a0 : Int) : Option Bool :=
  bif (a0 == 3) then ms_EndsOperand_k1 (a0 == 3) else (bif (a0 == 4) then ms_EndsOperand_k1 (a0 == 4) else (bif (a0 == 5) then ms_EndsOperand_k1 (a0 == 5) else (bif (a0 == 6) then ms_EndsOperand_k1 (a0 == 6) else (bif (a0 == 8) then ms_EndsOperand_k1 (a0 == 8) else (bif (a0 == 33) then ms_EndsOperand_k1 (a0 == 33) else (bif (a0 == 35) then ms_EndsOperand_k1 (a0 == 35) else (bif (a0 == 51) then ms_EndsOperand_k1 (a0 == 51) else (ms_EndsOperand_k1 (a0 == 52)))))))))

def ms_l5Tokens_k3 (N : Nat) (pa : LU) (kb1 : (Int × Int × Int × LT) → Option (LT × Int × Int)) : (Int × Int × Int × LT × Int × LU × Int) → Option (LT × Int × Int)
  | (y497, y723, y724, y725, y726, y727, y728) => (app 32 y725 [(⟨y726, y727, y728⟩ : SToken)]).bind fun x730 => kb1 ((IntKind.wrap .i64 (y497 - 1)), y723, y724, x730)
def ms_l5Tokens_k2 (N : Nat) (pa : LU) (kb1 : (Int × Int × Int × LT) → Option (LT × Int × Int)) : (Int × Int × Int × LT × Int) → Option (LT × Int × Int)
  | (y497, y498, y499, y500, y696) => (ms_l5Token pa y498 y499).bind fun r698 => (bif (r698.1.Kind == 5) then (ms_EndsOperand y696).bind fun r737 => bif r737 then some true else (bif (r698.1.Kind == 58) then (ms_EndsOperand y696).bind fun r738 => some (!r738) else (bif (r698.1.Kind == 41) then (ms_EndsOperand y696).bind fun r739 => some (!r739) else (some false))) else (bif (r698.1.Kind == 58) then (ms_EndsOperand y696).bind fun r740 => some (!r740) else (bif (r698.1.Kind == 41) then (ms_EndsOperand y696).bind fun r741 => some (!r741) else (some false)))).bind fun y736 => bif y736 then ms_l5Tokens_k3 N pa kb1 (y497, r698.2.1, r698.2.2, y500, 1, [10], 0) else ((bif (r698.1.Kind == 6) then (ms_l1Once 4 pa r698.2.1 r698.2.2).bind fun r746 => some (r746.1, r746.2.1, r746.2.2) else (some (false, r698.2.1, r698.2.2))).bind fun (y743, y744, y745) => bif y743 then (app 32 y500 [(⟨7, r698.1.Text, r698.1.At⟩ : SToken)]).bind fun x748 => ms_l5Tokens_k3 N pa kb1 (y497, y744, y745, x748, 32, [40], 0) else ((ms_l1Once 20 pa y744 y745).bind fun r750 => bif r750.1 then (ms_l1Pick [[35], [35, 32, 97], [35, 34, 120]] pa r750.2.1 r750.2.2).bind fun r753 => (app 32 y500 [(⟨2, r753.1, 0⟩ : SToken)]).bind fun x754 => ms_l5Tokens_k3 N pa kb1 (y497, r753.2.1, r753.2.2, x754, 1, [10], 0) else (ms_l5Tokens_k3 N pa kb1 (y497, r750.2.1, r750.2.2, y500, r698.1.Kind, r698.1.Text, r698.1.At))))
def ms_l5Tokens_k4 (N : Nat) (pa : LU) (kb1 : (Int × Int × Int × LT) → Option (LT × Int × Int)) : (LT × Int × Int) → Option (LT × Int × Int)
  | (y770, y771, y772) => some (y770, y771, y772)
def ms_l5Tokens_l1 (N : Nat) (pa : LU) : Nat → (Int × Int × Int × LT) → Option (LT × Int × Int)
  | 0, _ => none
  | n1 + 1, (y497, y498, y499, y500) => bif (decide (y497 > 0)) then bif (decide ((y500.length : Int) > 0)) then (ix y500 (IntKind.wrap .i64 ((y500.length : Int) - 1))).bind fun e756 => ms_l5Tokens_k2 N pa (ms_l5Tokens_l1 N pa n1) (y497, y498, y499, y500, e756.Kind) else (ms_l5Tokens_k2 N pa (ms_l5Tokens_l1 N pa n1) (y497, y498, y499, y500, 0)) else ((bif (decide ((y500.length : Int) > 0)) then (ms_l1Once 10 pa y498 y499).bind fun r777 => some (r777.1, r777.2.1, r777.2.2) else (some (false, y498, y499))).bind fun (y774, y775, y776) => bif y774 then (ms_l1Below (y500.length : Int) pa y775 y776).bind fun r782 => (ms_l5Token pa r782.2.1 r782.2.2).bind fun r783 => (ix y500 r782.1).bind fun e784 => (upd y500 r782.1 r783.1).bind fun x785 => ms_l5Tokens_k4 N pa (ms_l5Tokens_l1 N pa n1) (x785, r783.2.1, r783.2.2) else (ms_l5Tokens_k4 N pa (ms_l5Tokens_l1 N pa n1) (y500, y775, y776)))
def ms_l5Tokens (N : Nat) (a1 : Int) (pa : LU) (pb : Int) (pc : Int) : Option (LT × Int × Int) :=
  (ms_l1Below (IntKind.wrap .i64 (a1 + 1)) pa pb pc).bind fun r380 => ms_l5Tokens_l1 N pa N (r380.1, r380.2.1, r380.2.2, [])

def ms_Spell_k2 (N : Nat) (kb1 : (LT × LU × Int) → Option LU) : (LT × Int × LU) → Option LU
  | (a0, y114, y195) => (ix a0 y114).bind fun e198 => (cat y195 e198.Text).bind fun s199 => kb1 (a0, s199, (IntKind.wrap .i64 (y114 + 1)))
def ms_Spell_l1 (N : Nat) : Nat → (LT × LU × Int) → Option LU
  | 0, _ => none
  | n1 + 1, (a0, y113, y114) => bif (decide (y114 < (a0.length : Int))) then (bif (decide (y114 > 0)) then (ix a0 (IntKind.wrap .i64 (y114 - 1))).bind fun e204 => (ix a0 y114).bind fun e205 => (ms_NeedsGap N e204 e205).bind fun r206 => some r206 else (some false)).bind fun y203 => bif y203 then (cat y113 ([32] : LU)).bind fun s208 => ms_Spell_k2 N (ms_Spell_l1 N n1) (a0, y114, s208) else (ms_Spell_k2 N (ms_Spell_l1 N n1) (a0, y114, y113)) else (some y113)
def ms_Spell (N : Nat) (a0 : LT) : Option LU :=
  ms_Spell_l1 N N (a0, [], 0)

def ms_l5Source (N : Nat) (pa : LU) (pb : Int) (pc : Int) : Option (LU × Int × Int) :=
  (ms_l5Tokens N 14 pa pb pc).bind fun r3 => (ms_Spell N r3.1).bind fun r4 => (ms_l1Below 6 pa r3.2.1 r3.2.2).bind fun r18 => bif (r18.1 == 0) then (ms_l1Spoil N r4 pa r18.2.1 r18.2.2).bind fun r20 => some (r20.1, r20.2.1, r20.2.2) else (bif (r18.1 == 1) then (ms_l1Pick [[92, 10], [32, 9], [97, 98, 99, 100, 101, 102, 103, 104, 105, 106, 107, 108, 109], [64], [34, 111, 112, 101, 110], [47, 120], [46, 46], [35, 32, 101, 110, 100]] pa r18.2.1 r18.2.2).bind fun r25 => (cat r4 r25.1).bind fun s26 => (ms_l1Pick [[], [120]] pa r25.2.1 r25.2.2).bind fun r27 => (cat s26 r27.1).bind fun s28 => some (s28, r27.2.1, r27.2.2) else (some (r4, r18.2.1, r18.2.2)))

def ms_l14Any (N : Nat) (pa : LU) (pb : Int) (pc : Int) : Option (LU × Int × Int) :=
  (ms_l1Below 8 pa pb pc).bind fun r10 => bif (r10.1 == 0) then (ms_l14Source N pa r10.2.1 r10.2.2).bind fun r13 => (ms_l1Spoil N r13.1 pa r13.2.1 r13.2.2).bind fun r14 => some (r14.1, r14.2.1, r14.2.2) else (bif (r10.1 == 1) then (ms_l5Source N pa r10.2.1 r10.2.2).bind fun r16 => some (r16.1, r16.2.1, r16.2.2) else ((ms_l14Source N pa r10.2.1 r10.2.2).bind fun r18 => some (r18.1, r18.2.1, r18.2.2)))

def ms_l36Draw_k1 (N : Nat) (pa : LU) : ((LU × Int × Int) × (LU × Int × Int) × Int × Int × Int × Int) → Option (LU × Int × Int × LU × Int × Int)
  | (r2, r10, y17, y18, y19, y20) => some (r2.1, y17, y18, r10.1, y19, y20)
def ms_l36Draw (N : Nat) (pa : LU) (pb : Int) (pc : Int) : Option (LU × Int × Int × LU × Int × Int) :=
  (ms_l14Any N pa pb pc).bind fun r2 => (ms_l1Below (IntKind.wrap .i64 ((r2.1.length : Int) + 1)) pa r2.2.1 r2.2.2).bind fun r4 => (ms_l1Below (IntKind.wrap .i64 ((if (IntKind.wrap .i64 ((r2.1.length : Int) - r4.1)) < 6 then (IntKind.wrap .i64 ((r2.1.length : Int) - r4.1)) else 6) + 1)) pa r4.2.1 r4.2.2).bind fun r6 => (ms_l5Source N pa r6.2.1 r6.2.2).bind fun r9 => (ms_l1Pick [[], [32], [120], [43], [47], [34], [10], [40], [35, 32], [49], [105, 102], r9.1] pa r9.2.1 r9.2.2).bind fun r10 => (ms_l1Once 12 pa r10.2.1 r10.2.2).bind fun r22 => bif r22.1 then (ms_l1PickInt [(-1), 9999, r6.1] pa r22.2.1 r22.2.2).bind fun r24 => (ms_l1PickInt [(-1), (IntKind.wrap .i64 ((r2.1.length : Int) + 1)), r4.1] pa r24.2.1 r24.2.2).bind fun r26 => ms_l36Draw_k1 N pa (r2, r10, r26.1, r24.1, r26.2.1, r26.2.2) else (ms_l36Draw_k1 N pa (r2, r10, r4.1, r6.1, r22.2.1, r22.2.2))

def ms_IsBlank (a0 : Int) : Option Bool :=
  (bif (a0 == 32) then some true else (some (a0 == 9))).bind fun y1 => some y1

def ms_NameEnd_l1 (N : Nat) : Nat → (LU × Int) → Option Int
  | 0, _ => none
  | n1 + 1, (a0, a1) => (ms_l4Byte a0 a1).bind fun r41 => (ms_IsWordByte r41).bind fun r42 => bif r42 then (ms_NameEnd_l1 N n1) (a0, (IntKind.wrap .i64 (a1 + 1))) else (some a1)
def ms_NameEnd (N : Nat) (a0 : LU) (a1 : Int) : Option Int :=
  (ms_l4Byte a0 a1).bind fun r7 => (ms_IsLetter r7).bind fun r8 => bif (!r8) then some (-1) else (ms_NameEnd_l1 N N (a0, a1))

def ms_l5Word_k1 (N : Nat) : (LU × Int × Int) → Option SToken
  | (s2, a1, y11) => some (⟨y11, s2, a1⟩ : SToken)
def ms_l5Word (N : Nat) (a0 : LU) (a1 : Int) (a2 : Int) : Option SToken :=
  (cut a0 a1 a2).bind fun s2 => (ms_KeywordOf N s2).bind fun r13 => bif (r13 != 0) then (ms_KeywordOf N s2).bind fun r15 => ms_l5Word_k1 N (s2, a1, r15) else ((ms_IsBuiltin N s2).bind fun r17 => bif r17 then ms_l5Word_k1 N (s2, a1, 8) else ((ms_l4Byte a0 a2).bind fun r19 => bif (r19 == 40) then ms_l5Word_k1 N (s2, a1, 7) else (ms_l5Word_k1 N (s2, a1, 6))))

def ms_l5Next_k1 (N : Nat) : (LU × Int × Int × Int) → Option SToken
  | (a0, a1, y65, y66) => bif (decide (y65 < 0)) then some (⟨0, [], a1⟩ : SToken) else ((cut a0 a1 y65).bind fun s68 => some (⟨y66, s68, a1⟩ : SToken))
def ms_l5Next_l2 (N : Nat) : Nat → (LU × Int × Int) → Option SToken
  | 0, _ => none
  | n2 + 1, (a0, a1, y95) => (bif (decide (y95 < (a0.length : Int))) then (ix a0 y95).bind fun b108 => some (((b108).toNat : Int) != 10) else (some false)).bind fun y107 => bif y107 then (ms_l5Next_l2 N n2) (a0, a1, (IntKind.wrap .i64 (y95 + 1))) else (ms_l5Next_k1 N (a0, a1, y95, 2))
def ms_l5Next (N : Nat) (a0 : LU) (a1 : Int) (a2 : Bool) : Option SToken :=
  (ix a0 a1).bind fun b2 => bif ((IntKind.wrap .i64 ((b2).toNat : Int)) == 10) then some (⟨1, [10], a1⟩ : SToken) else (bif ((IntKind.wrap .i64 ((b2).toNat : Int)) == 35) then ms_l5Next_l2 N N (a0, a1, a1) else (((ms_IsDigit (IntKind.wrap .i64 ((b2).toNat : Int))).bind fun r111 => bif r111 then some true else (some ((IntKind.wrap .i64 ((b2).toNat : Int)) == 46))).bind fun y110 => bif y110 then (ms_NumEnd N a0 a1).bind fun r113 => ms_l5Next_k1 N (a0, a1, r113, 3) else (bif ((IntKind.wrap .i64 ((b2).toNat : Int)) == 34) then (ms_StrEnd N a0 a1).bind fun r115 => ms_l5Next_k1 N (a0, a1, r115, 4) else ((bif ((IntKind.wrap .i64 ((b2).toNat : Int)) == 47) then some a2 else (some false)).bind fun y116 => bif y116 then (ms_EreEnd N a0 a1).bind fun r118 => ms_l5Next_k1 N (a0, a1, r118, 5) else ((ms_IsLetter (IntKind.wrap .i64 ((b2).toNat : Int))).bind fun r120 => bif r120 then (ms_NameEnd N a0 a1).bind fun r123 => (ms_l5Word N a0 a1 r123).bind fun r124 => (ms_NameShape N r124.Text).bind fun r128 => bif (!r128) then some (⟨0, [], a1⟩ : SToken) else (some r124) else ((ms_OpAt N a0 a1).bind fun r130 => bif (r130.2 == 0) then some (⟨0, [], a1⟩ : SToken) else (ms_l5Next_k1 N (a0, a1, (IntKind.wrap .i64 (a1 + r130.2)), r130.1))))))))

def ms_Lex_l1 (N : Nat) : Nat → (LU × Int × Int × LT) → Option (LT × SFault)
  | 0, _ => none
  | n1 + 1, (a0, y103, y104, y105) => bif (decide (y104 < (a0.length : Int))) then (ix a0 y104).bind fun b139 => (ms_IsBlank (IntKind.wrap .i64 ((b139).toNat : Int))).bind fun r140 => bif r140 then (ms_Lex_l1 N n1) (a0, y103, (IntKind.wrap .i64 (y104 + 1)), y105) else (((ix a0 y104).bind fun b149 => bif (((b149).toNat : Int) == 92) then (ms_l4Byte a0 (IntKind.wrap .i64 (y104 + 1))).bind fun r150 => some (r150 == 10) else (some false)).bind fun y148 => bif y148 then (ms_Lex_l1 N n1) (a0, y103, (IntKind.wrap .i64 (y104 + 2)), y105) else ((ms_EndsOperand y103).bind fun r153 => (ms_l5Next N a0 y104 (!r153)).bind fun r154 => bif (r154.Kind == 0) then some ([], (⟨2, y104⟩ : SFault)) else (bif ((y105.length : Int) == 3000) then some ([], (⟨1, 0⟩ : SFault)) else ((app 32 y105 [r154]).bind fun x156 => (ms_Lex_l1 N n1) (a0, r154.Kind, (IntKind.wrap .i64 (y104 + (r154.Text.length : Int))), x156))))) else (some (y105, (⟨0, 0⟩ : SFault)))
def ms_Lex (N : Nat) (a0 : LU) : Option (LT × SFault) :=
  bif (decide ((a0.length : Int) > 3000)) then some ([], (⟨1, 0⟩ : SFault)) else (ms_Lex_l1 N N (a0, 0, 0, []))

def ms_DrawRelex_k1 (N : Nat) : ((LU × Int × Int × LU × Int × Int) × LU × Int × Int × LT) → Option (LT × LU × Int × Int × LU)
  | (r4, y9, y10, y11, y12) => some (y12, y9, y10, y11, r4.2.2.2.1)
def ms_DrawRelex (N : Nat) (a0 : LU) : Option (LT × LU × Int × Int × LU) :=
  (ms_l1New N a0).bind fun r2 => (ms_l36Draw N r2.1 r2.2.1 r2.2.2).bind fun r4 => (ms_Lex N r4.1).bind fun r6 => bif (r6.2.Kind != 0) then (ms_Lex N [120, 32, 61, 32, 49, 10, 121, 32, 61, 32, 50, 10]).bind fun r14 => ms_DrawRelex_k1 N (r4, [120, 32, 61, 32, 49, 10, 121, 32, 61, 32, 50, 10], (if 12 < (if 0 > r4.2.1 then 0 else r4.2.1) then 12 else (if 0 > r4.2.1 then 0 else r4.2.1)), (if (IntKind.wrap .i64 (12 - (if 12 < (if 0 > r4.2.1 then 0 else r4.2.1) then 12 else (if 0 > r4.2.1 then 0 else r4.2.1)))) < (if 0 > r4.2.2.1 then 0 else r4.2.2.1) then (IntKind.wrap .i64 (12 - (if 12 < (if 0 > r4.2.1 then 0 else r4.2.1) then 12 else (if 0 > r4.2.1 then 0 else r4.2.1)))) else (if 0 > r4.2.2.1 then 0 else r4.2.2.1)), r14.1) else (ms_DrawRelex_k1 N (r4, r4.1, r4.2.1, r4.2.2.1, r6.1))

def mi_within (a0 : Int) (a1 : Int) (a2 : Int) : Option Bool :=
  (bif (decide (a0 ≥ a1)) then some (decide (a0 ≤ a2)) else (some false)).bind fun y1 => some y1

def mi_Splice (a0 : LU) (a1 : Int) (a2 : Int) (a3 : LU) : Option (LU × Bool) :=
  ((mi_within a1 0 (a0.length : Int)).bind fun r9 => bif (!r9) then some true else ((mi_within a2 0 (IntKind.wrap .i64 ((a0.length : Int) - a1))).bind fun r10 => some (!r10))).bind fun y8 => bif y8 then some (a0, false) else ((cut a0 0 a1).bind fun s15 => (cat s15 a3).bind fun s16 => (cut a0 (IntKind.wrap .i64 (a1 + a2)) (a0.length : Int)).bind fun s17 => (cat s16 s17).bind fun s18 => some (s18, true))

def mi_KeptTokens_l1 (N : Nat) : Nat → (LT × Int × Int) → Option Int
  | 0, _ => none
  | n1 + 1, (a0, a1, y43) => bif (decide (y43 < (a0.length : Int))) then (ix a0 y43).bind fun e61 => ((mi_within e61.At 0 a1).bind fun r64 => bif (!r64) then some true else (some (decide ((IntKind.wrap .i64 (a1 - e61.At)) ≤ (IntKind.wrap .i64 ((e61.Text.length : Int) + 2)))))).bind fun y63 => bif y63 then some y43 else ((mi_KeptTokens_l1 N n1) (a0, a1, (IntKind.wrap .i64 (y43 + 1)))) else (some (a0.length : Int))
def mi_KeptTokens (N : Nat) (a0 : LT) (a1 : Int) : Option Int :=
  mi_KeptTokens_l1 N N (a0, a1, 0)

def m_slices_Clone_Token (a0 : LT) : Option LT :=
  (app 32 [] a0).bind fun x2 => some x2

def mi_IsBlank (a0 : Int) : Option Bool :=
  (bif (a0 == 32) then some true else (some (a0 == 9))).bind fun y1 => some y1

def mi_byteAt (a0 : LU) (a1 : Int) : Option Int :=
  (mi_within a1 0 (IntKind.wrap .i64 ((a0.length : Int) - 1))).bind fun r4 => bif (!r4) then some (-1) else ((ix a0 a1).bind fun b6 => some (IntKind.wrap .i64 ((b6).toNat : Int)))

def m_stringslite_IndexByte (a0 : LU) (a1 : Int) : Option Int :=
  some (Go.Lib.indexByte a0 (Int.toNat a1).toUInt8)

def m_strings_IndexByte (a0 : LU) (a1 : Int) : Option Int :=
  (m_stringslite_IndexByte a0 a1).bind fun r2 => some r2

def mi_IsDigit (a0 : Int) : Option Bool :=
  (bif (decide (a0 ≥ 48)) then some (decide (a0 ≤ 57)) else (some false)).bind fun y1 => some y1

def mi_digitsEnd_l1 (N : Nat) : Nat → (LU × Int) → Option Int
  | 0, _ => none
  | n1 + 1, (a0, a1) => (mi_byteAt a0 a1).bind fun r33 => (mi_IsDigit r33).bind fun r34 => bif r34 then (mi_digitsEnd_l1 N n1) (a0, (IntKind.wrap .i64 (a1 + 1))) else (some a1)
def mi_digitsEnd (N : Nat) (a0 : LU) (a1 : Int) : Option Int :=
  mi_digitsEnd_l1 N N (a0, a1)

def mi_NumEnd_k2 (N : Nat) : Int → Option Int
  | y11 => some y11
def mi_NumEnd_k3 (N : Nat) : (LU × Int × Int) → Option Int
  | (a0, y11, y31) => (mi_digitsEnd N a0 y31).bind fun r33 => bif (decide (r33 > y31)) then some r33 else (mi_NumEnd_k2 N y11)
def mi_NumEnd_k1 (N : Nat) : (LU × Int × Int) → Option Int
  | (a0, y11, y12) => bif (y12 == 0) then some (-1) else ((mi_byteAt a0 y11).bind fun r26 => (bif (r26 == 101) then some true else (some (r26 == 69))).bind fun y27 => bif y27 then (mi_byteAt a0 (IntKind.wrap .i64 (y11 + 1))).bind fun r35 => (bif (r35 == 43) then some true else (some (r35 == 45))).bind fun y36 => bif y36 then mi_NumEnd_k3 N (a0, y11, (IntKind.wrap .i64 ((IntKind.wrap .i64 (y11 + 1)) + 1))) else (mi_NumEnd_k3 N (a0, y11, (IntKind.wrap .i64 (y11 + 1)))) else (mi_NumEnd_k2 N y11))
def mi_NumEnd (N : Nat) (a0 : LU) (a1 : Int) : Option Int :=
  (mi_within a1 0 (IntKind.wrap .i64 ((a0.length : Int) - 1))).bind fun r4 => bif (!r4) then some (-1) else ((mi_digitsEnd N a0 a1).bind fun r6 => (mi_byteAt a0 r6).bind fun r38 => bif (r38 == 46) then (mi_digitsEnd N a0 (IntKind.wrap .i64 (r6 + 1))).bind fun r40 => mi_NumEnd_k1 N (a0, r40, (IntKind.wrap .i64 ((IntKind.wrap .i64 (r6 - a1)) + (IntKind.wrap .i64 ((IntKind.wrap .i64 (r40 - r6)) - 1))))) else (mi_NumEnd_k1 N (a0, r6, (IntKind.wrap .i64 (r6 - a1)))))

def mi_quotedEnd_k2 (N : Nat) (kb1 : (LU × Int × Int) → Option Int) : (LU × Int × Int) → Option Int
  | (a0, a2, y127) => kb1 (a0, a2, (IntKind.wrap .i64 (y127 + 1)))
def mi_quotedEnd_l1 (N : Nat) : Nat → (LU × Int × Int) → Option Int
  | 0, _ => none
  | n1 + 1, (a0, a2, y91) => (bif (decide (y91 < (a0.length : Int))) then (ix a0 y91).bind fun b119 => some (((b119).toNat : Int) != 10) else (some false)).bind fun y118 => bif y118 then (ix a0 y91).bind fun b129 => bif ((IntKind.wrap .i64 ((b129).toNat : Int)) == a2) then some (IntKind.wrap .i64 (y91 + 1)) else (((ix a0 y91).bind fun b133 => bif (((b133).toNat : Int) == 92) then (mi_byteAt a0 (IntKind.wrap .i64 (y91 + 1))).bind fun r134 => some (r134 != 10) else (some false)).bind fun y132 => bif y132 then mi_quotedEnd_k2 N (mi_quotedEnd_l1 N n1) (a0, a2, (IntKind.wrap .i64 (y91 + 1))) else (mi_quotedEnd_k2 N (mi_quotedEnd_l1 N n1) (a0, a2, y91))) else (some (-1))
def mi_quotedEnd (N : Nat) (a0 : LU) (a1 : Int) (a2 : Int) : Option Int :=
  (mi_byteAt a0 a1).bind fun r4 => bif (r4 != a2) then some (-1) else (mi_quotedEnd_l1 N N (a0, a2, (IntKind.wrap .i64 (a1 + 1))))

def mi_StrEnd (N : Nat) (a0 : LU) (a1 : Int) : Option Int :=
  (mi_quotedEnd N a0 a1 34).bind fun r2 => some r2

def mi_EndsOperand_k1 : Bool → Option Bool
  | y2 => bif y2 then some true else (some false)
def mi_EndsOperand (a0 : Int) : Option Bool :=
  bif (a0 == 3) then mi_EndsOperand_k1 (a0 == 3) else (bif (a0 == 4) then mi_EndsOperand_k1 (a0 == 4) else (bif (a0 == 5) then mi_EndsOperand_k1 (a0 == 5) else (bif (a0 == 6) then mi_EndsOperand_k1 (a0 == 6) else (bif (a0 == 8) then mi_EndsOperand_k1 (a0 == 8) else (bif (a0 == 33) then mi_EndsOperand_k1 (a0 == 33) else (bif (a0 == 35) then mi_EndsOperand_k1 (a0 == 35) else (bif (a0 == 51) then mi_EndsOperand_k1 (a0 == 51) else (mi_EndsOperand_k1 (a0 == 52)))))))))

def mi_EreEnd (N : Nat) (a0 : LU) (a1 : Int) : Option Int :=
  (mi_quotedEnd N a0 a1 47).bind fun r2 => bif (r2 == (IntKind.wrap .i64 (a1 + 2))) then some (-1) else (some r2)

def mi_IsLetter (a0 : Int) : Option Bool :=
  (bif (decide (a0 ≥ 97)) then bif (decide (a0 ≤ 122)) then some true else (bif (decide (a0 ≥ 65)) then bif (decide (a0 ≤ 90)) then some true else (some (a0 == 95)) else (some (a0 == 95))) else (bif (decide (a0 ≥ 65)) then bif (decide (a0 ≤ 90)) then some true else (some (a0 == 95)) else (some (a0 == 95)))).bind fun y1 => some y1

def mi_IsWordByte (a0 : Int) : Option Bool :=
  ((mi_IsLetter a0).bind fun r4 => bif r4 then some true else ((mi_IsDigit a0).bind fun r5 => some r5)).bind fun y3 => some y3

def mi_NameEnd_l1 (N : Nat) : Nat → (LU × Int) → Option Int
  | 0, _ => none
  | n1 + 1, (a0, a1) => (mi_byteAt a0 a1).bind fun r41 => (mi_IsWordByte r41).bind fun r42 => bif r42 then (mi_NameEnd_l1 N n1) (a0, (IntKind.wrap .i64 (a1 + 1))) else (some a1)
def mi_NameEnd (N : Nat) (a0 : LU) (a1 : Int) : Option Int :=
  (mi_byteAt a0 a1).bind fun r7 => (mi_IsLetter r7).bind fun r8 => bif (!r8) then some (-1) else (mi_NameEnd_l1 N N (a0, a1))

def mi_NameShape_l1 (N : Nat) : Nat → (LU × Int) → Option Bool
  | 0, _ => none
  | n1 + 1, (a0, y35) => bif (decide (y35 < (a0.length : Int))) then (ix a0 y35).bind fun b51 => (mi_IsWordByte (IntKind.wrap .i64 ((b51).toNat : Int))).bind fun r52 => bif (!r52) then some false else ((mi_NameShape_l1 N n1) (a0, (IntKind.wrap .i64 (y35 + 1)))) else (((mi_within (a0.length : Int) 1 12).bind fun r57 => bif r57 then (ix a0 0).bind fun b58 => (mi_IsLetter (IntKind.wrap .i64 ((b58).toNat : Int))).bind fun r59 => some r59 else (some false)).bind fun y56 => some y56)
def mi_NameShape (N : Nat) (a0 : LU) : Option Bool :=
  mi_NameShape_l1 N N (a0, 0)

def m_slices_Index_string_l1 (N : Nat) : Nat → (LLU × LU × Int) → Option Int
  | 0, _ => none
  | n1 + 1, (a0, a1, y19) => bif (decide (y19 < (a0.length : Int))) then (ix a0 y19).bind fun e28 => bif (a1 == e28) then some y19 else ((m_slices_Index_string_l1 N n1) (a0, a1, (IntKind.wrap .i64 (y19 + 1)))) else (some (-1))
def m_slices_Index_string (N : Nat) (a0 : LLU) (a1 : LU) : Option Int :=
  m_slices_Index_string_l1 N N (a0, a1, 0)

def mi_KeywordOf (N : Nat) (a0 : LU) : Option Int :=
  (m_slices_Index_string N tab_keywords a0).bind fun r2 => bif (decide (r2 < 0)) then some 0 else (some (IntKind.wrap .i64 (10 + r2)))

def m_slices_Contains_string (N : Nat) (a0 : LLU) (a1 : LU) : Option Bool :=
  (m_slices_Index_string N a0 a1).bind fun r2 => some (decide (r2 ≥ 0))

def mi_IsBuiltin (N : Nat) (a0 : LU) : Option Bool :=
  (m_slices_Contains_string N tab_builtins a0).bind fun r2 => some r2

def mi_wordToken (N : Nat) (a0 : LU) (a1 : Int) (a2 : Int) : Option SToken :=
  (cut a0 a1 a2).bind fun s2 => (mi_KeywordOf N s2).bind fun r12 => bif (r12 != 0) then (mi_KeywordOf N s2).bind fun r14 => some (⟨r14, s2, a1⟩ : SToken) else ((mi_IsBuiltin N s2).bind fun r16 => bif r16 then some (⟨8, s2, a1⟩ : SToken) else ((mi_byteAt a0 a2).bind fun r18 => bif (r18 == 40) then some (⟨7, s2, a1⟩ : SToken) else (some (⟨6, s2, a1⟩ : SToken))))

def m_stringslite_HasPrefix (a0 : LU) (a1 : LU) : Option Bool :=
  (bif (decide ((a0.length : Int) ≥ (a1.length : Int))) then (cut a0 0 (a1.length : Int)).bind fun s3 => some (s3 == a1) else (some false)).bind fun y2 => some y2

def m_strings_HasPrefix (a0 : LU) (a1 : LU) : Option Bool :=
  (m_stringslite_HasPrefix a0 a1).bind fun r2 => some r2

def mi_OpAt_k2 (N : Nat) (kb1 : (LU × Int × Int × Int × Int) → Option (Int × Int)) : (LU × Int × Int × Int × Int) → Option (Int × Int)
  | (a0, a1, y77, y104, y105) => kb1 (a0, a1, y104, y105, (IntKind.wrap .i64 (y77 + 1)))
def mi_OpAt_l1 (N : Nat) : Nat → (LU × Int × Int × Int × Int) → Option (Int × Int)
  | 0, _ => none
  | n1 + 1, (a0, a1, y75, y76, y77) => bif (decide (y77 < 39)) then (ix tab_signs y77).bind fun e107 => (bif (decide ((e107.length : Int) > y76)) then (cut a0 a1 (a0.length : Int)).bind fun s111 => (m_strings_HasPrefix s111 e107).bind fun r112 => some r112 else (some false)).bind fun y110 => bif y110 then mi_OpAt_k2 N (mi_OpAt_l1 N n1) (a0, a1, y77, (IntKind.wrap .i64 (30 + y77)), (e107.length : Int)) else (mi_OpAt_k2 N (mi_OpAt_l1 N n1) (a0, a1, y77, y75, y76)) else (some (y75, y76))
def mi_OpAt (N : Nat) (a0 : LU) (a1 : Int) : Option (Int × Int) :=
  (mi_within a1 0 (IntKind.wrap .i64 ((a0.length : Int) - 1))).bind fun r4 => bif (!r4) then some (0, 0) else (mi_OpAt_l1 N N (a0, a1, 0, 0, 0))

def mi_tokenAt_k1 (N : Nat) : (LU × Int × Int × Int) → Option SToken
  | (a0, a1, y31, y32) => (bif (y31 == 0) then some true else (some (decide (y32 < 0)))).bind fun y34 => bif y34 then some (⟨0, [], 0⟩ : SToken) else ((cut a0 a1 y32).bind fun s36 => some (⟨y31, s36, a1⟩ : SToken))
def mi_tokenAt (N : Nat) (a0 : LU) (a1 : Int) (a2 : Int) : Option SToken :=
  (ix a0 a1).bind fun b38 => bif ((IntKind.wrap .i64 ((b38).toNat : Int)) == 10) then mi_tokenAt_k1 N (a0, a1, 1, (IntKind.wrap .i64 (a1 + 1))) else (bif ((IntKind.wrap .i64 ((b38).toNat : Int)) == 35) then (cut a0 a1 (a0.length : Int)).bind fun s41 => (m_strings_IndexByte s41 10).bind fun r42 => bif (decide (r42 ≥ 0)) then mi_tokenAt_k1 N (a0, a1, 2, (IntKind.wrap .i64 (a1 + r42))) else (mi_tokenAt_k1 N (a0, a1, 2, (a0.length : Int))) else (((mi_IsDigit (IntKind.wrap .i64 ((b38).toNat : Int))).bind fun r45 => bif r45 then some true else (some ((IntKind.wrap .i64 ((b38).toNat : Int)) == 46))).bind fun y44 => bif y44 then (mi_NumEnd N a0 a1).bind fun r47 => mi_tokenAt_k1 N (a0, a1, 3, r47) else (bif ((IntKind.wrap .i64 ((b38).toNat : Int)) == 34) then (mi_StrEnd N a0 a1).bind fun r49 => mi_tokenAt_k1 N (a0, a1, 4, r49) else ((bif ((IntKind.wrap .i64 ((b38).toNat : Int)) == 47) then (mi_EndsOperand a2).bind fun r52 => some (!r52) else (some false)).bind fun y51 => bif y51 then (mi_EreEnd N a0 a1).bind fun r54 => mi_tokenAt_k1 N (a0, a1, 5, r54) else ((mi_IsLetter (IntKind.wrap .i64 ((b38).toNat : Int))).bind fun r56 => bif r56 then (mi_NameEnd N a0 a1).bind fun r58 => (cut a0 a1 r58).bind fun s61 => (mi_NameShape N s61).bind fun r62 => bif r62 then (mi_wordToken N a0 a1 r58).bind fun r64 => some r64 else (mi_tokenAt_k1 N (a0, a1, 0, r58)) else ((mi_OpAt N a0 a1).bind fun r66 => mi_tokenAt_k1 N (a0, a1, r66.1, (IntKind.wrap .i64 (a1 + r66.2)))))))))

def mi_lexFrom_l1 (N : Nat) : Nat → (LU × Int × Int × LT) → Option (LT × SFault)
  | 0, _ => none
  | n1 + 1, (a0, y95, y96, y97) => bif (decide (y95 < (a0.length : Int))) then (ix a0 y95).bind fun b134 => (mi_IsBlank (IntKind.wrap .i64 ((b134).toNat : Int))).bind fun r135 => bif r135 then (mi_lexFrom_l1 N n1) (a0, (IntKind.wrap .i64 (y95 + 1)), y96, y97) else (((ix a0 y95).bind fun b139 => bif (((b139).toNat : Int) == 92) then (mi_byteAt a0 (IntKind.wrap .i64 (y95 + 1))).bind fun r140 => some (r140 == 10) else (some false)).bind fun y138 => bif y138 then (mi_lexFrom_l1 N n1) (a0, (IntKind.wrap .i64 (y95 + 2)), y96, y97) else ((mi_tokenAt N a0 y95 y96).bind fun r142 => bif (r142.Kind == 0) then some ([], (⟨2, y95⟩ : SFault)) else ((app 32 y97 [r142]).bind fun x144 => (mi_lexFrom_l1 N n1) (a0, (IntKind.wrap .i64 (y95 + (r142.Text.length : Int))), r142.Kind, x144)))) else (some (y97, (⟨0, 0⟩ : SFault)))
def mi_lexFrom (N : Nat) (a0 : LU) (a1 : Int) (a2 : Int) : Option (LT × SFault) :=
  mi_lexFrom_l1 N N (a0, a1, a2, [])

def mi_Relex_k1 (N : Nat) : ((LU × Bool) × LT × Int × Int) → Option (LT × SFault)
  | (r2, r10, y13, y14) => (mi_lexFrom N r2.1 y13 y14).bind fun r16 => bif (!((r16.2.Kind == 0) && ((r16.2.At == 0) && true))) then some ([], r16.2) else ((app 32 r10 r16.1).bind fun x18 => some (x18, (⟨0, 0⟩ : SFault)))
def mi_Relex (N : Nat) (a0 : LT) (a1 : LU) (a2 : Int) (a3 : Int) (a4 : LU) : Option (LT × SFault) :=
  (mi_Splice a1 a2 a3 a4).bind fun r2 => (bif (!r2.2) then some true else (some (decide ((r2.1.length : Int) > 3000)))).bind fun y4 => bif y4 then some ([], (⟨1, 0⟩ : SFault)) else ((mi_KeptTokens N a0 a2).bind fun r8 => (cut a0 0 r8).bind fun l9 => (m_slices_Clone_Token l9).bind fun r10 => bif (decide ((r10.length : Int) > 0)) then (ix r10 (IntKind.wrap .i64 ((r10.length : Int) - 1))).bind fun e20 => mi_Relex_k1 N (r2, r10, (IntKind.wrap .i64 (e20.At + (e20.Text.length : Int))), e20.Kind) else (mi_Relex_k1 N (r2, r10, 0, 0)))

def ms_Splice (a0 : LU) (a1 : Int) (a2 : Int) (a3 : LU) : Option (LU × Bool) :=
  ((ms_l1In a1 0 (a0.length : Int)).bind fun r9 => bif (!r9) then some true else ((ms_l1In a2 0 (IntKind.wrap .i64 ((a0.length : Int) - a1))).bind fun r10 => some (!r10))).bind fun y8 => bif y8 then some (a0, false) else ((cut a0 0 a1).bind fun s15 => (cat s15 a3).bind fun s16 => (cut a0 (IntKind.wrap .i64 (a1 + a2)) (a0.length : Int)).bind fun s17 => (cat s16 s17).bind fun s18 => some (s18, true))

def ml_FnRelexed_l1 (N : Nat) : Nat → (Int × (LT × LU × Int × Int × LU) × (LT × SFault) × (LT × SFault) × Int) → Option Bool
  | 0, _ => none
  | n1 + 1, (r20, r6, r10, r18, y97) => bif (decide (y97 < (r10.1.length : Int))) then ((ix r10.1 y97).bind fun e131 => (ix r18.1 y97).bind fun e132 => bif (!((e131.Kind == e132.Kind) && ((e131.Text == e132.Text) && ((e131.At == e132.At) && true)))) then some true else (bif (decide (y97 < r20)) then (ix r10.1 y97).bind fun e133 => (ix r6.1 y97).bind fun e134 => some (!((e133.Kind == e134.Kind) && ((e133.Text == e134.Text) && ((e133.At == e134.At) && true)))) else (some false))).bind fun y130 => bif y130 then some false else ((ml_FnRelexed_l1 N n1) (r20, r6, r10, r18, (IntKind.wrap .i64 (y97 + 1)))) else (some true)
def ml_FnRelexed (N : Nat) (a0 : LU) : Option Bool :=
  (ml_big a0).bind fun r4 => bif r4 then some true else ((ms_DrawRelex N a0).bind fun r6 => (mi_Splice r6.2.1 r6.2.2.1 r6.2.2.2.1 r6.2.2.2.2).bind fun r8 => (mi_Relex N r6.1 r6.2.1 r6.2.2.1 r6.2.2.2.1 r6.2.2.2.2).bind fun r10 => bif (!r8.2) then (ms_Splice r6.2.1 r6.2.2.1 r6.2.2.2.1 r6.2.2.2.2).bind fun r15 => (bif (!r15.2) then bif (r8.1 == r6.2.1) then bif (r10.2.Kind == 1) then some ((r10.1.length : Int) == 0) else (some false) else (some false) else (some false)).bind fun y16 => some y16 else ((ms_Lex N r8.1).bind fun r18 => (mi_KeptTokens N r6.1 r6.2.2.1).bind fun r20 => (bif (decide (r20 < 0)) then some true else (bif (decide (r20 > (r6.1.length : Int))) then some true else (bif (!((r10.2.Kind == r18.2.Kind) && ((r10.2.At == r18.2.At) && true))) then some true else (bif ((r10.1.length : Int) != (r18.1.length : Int)) then some true else (some ((r8.1.length : Int) != (IntKind.wrap .i64 ((IntKind.wrap .i64 ((r6.2.1.length : Int) - r6.2.2.2.1)) + (r6.2.2.2.2.length : Int))))))))).bind fun y22 => bif y22 then some false else (ml_FnRelexed_l1 N N (r20, r6, r10, r18, 0))))

end Go.Proofs.Tryz

/-
  Models of the functions that this seat reaches.
-/
import Derived.Test.YtpognfncgfaogaaGreatDoorATab
import Derived.Test.YtpognfncgfaogaaGreatDoorACore6
namespace Go.Proofs.Tryz
open Go.Av
set_option maxRecDepth 100000
set_option maxHeartbeats 8000000
set_option linter.unusedSimpArgs false
set_option linter.unusedVariables false

def tab_builtins : List (List UInt8) := [[97, 116, 97, 110, 50], [99, 108, 111, 115, 101], [99, 111, 115], [101, 120, 112], [103, 115, 117, 98], [105, 110, 100, 101, 120], [105, 110, 116], [108, 101, 110, 103, 116, 104], [108, 111, 103], [109, 97, 116, 99, 104], [114, 97, 110, 100], [115, 105, 110], [115, 112, 108, 105, 116], [115, 112, 114, 105, 110, 116, 102], [115, 113, 114, 116], [115, 114, 97, 110, 100], [115, 117, 98], [115, 117, 98, 115, 116, 114], [115, 121, 115, 116, 101, 109], [116, 111, 108, 111, 119, 101, 114], [116, 111, 117, 112, 112, 101, 114]]
def tab_keywords : List (List UInt8) := [[66, 69, 71, 73, 78], [69, 78, 68], [102, 117, 110, 99, 116, 105, 111, 110], [105, 102], [101, 108, 115, 101], [119, 104, 105, 108, 101], [102, 111, 114], [100, 111], [98, 114, 101, 97, 107], [99, 111, 110, 116, 105, 110, 117, 101], [110, 101, 120, 116], [101, 120, 105, 116], [114, 101, 116, 117, 114, 110], [100, 101, 108, 101, 116, 101], [105, 110], [112, 114, 105, 110, 116], [112, 114, 105, 110, 116, 102]]
def tab_signs : List (List UInt8) := [[123], [125], [40], [41], [91], [93], [44], [59], [43, 61], [45, 61], [42, 61], [47, 61], [37, 61], [94, 61], [124, 124], [38, 38], [33, 126], [61, 61], [60, 61], [62, 61], [33, 61], [43, 43], [45, 45], [62, 62], [61], [43], [45], [42], [47], [37], [94], [33], [62], [60], [124], [63], [58], [126], [36]]
def GG : Nat → Option (List V)
  | 0 => some (tab_builtins.map V.s)
  | 1 => some (tab_keywords.map V.s)
  | 2 => some (tab_signs.map V.s)
  | _ => none
def GS (l : List Nat) (g : Nat) : Option (List V) := bif l.contains g then GG g else none

theorem AC.gs {f : FuncId} {vs : List V} {H : Hp} {r : V} {H1 : Hp} {l l1 : List Nat} (h : AC Tryz.prog (GS l) f vs H r H1) (hs : (l.all fun g => l1.contains g) = true) : AC Tryz.prog (GS l1) f vs H r H1 := by
  refine Go.Av.AC.mono h fun g cs hg => ?_
  unfold GS at hg ⊢
  cases hc : l.contains g with
  | false => rw [hc] at hg; cases hg
  | true =>
    rw [hc] at hg
    have := List.all_eq_true.1 hs g (List.contains_iff_mem.1 hc)
    rw [this]
    exact hg

theorem mix : Tryz.prog.follows .mixedOrders = true := by kernel_rfl

theorem wR {G : Nat → Option (List V)} {ops : Array Oper} {draw : Bool} {T0 : List V} {H0 : Hp} {Q : St → Prop} (n q : Nat) {i : Nat} {T : List V} {H : Hp} {Es : List (Bool × Eff)} (k : W Tryz.prog G ops draw T0 H0 (i + n) (aftE D G ops n q i T H).T (aftE D G ops n q i T H).H (Es ++ (aftE D G ops n q i T H).Es) Q) (h : (runE D G ops n q i T H).isSome = true := by kernel_rfl) : W Tryz.prog G ops draw T0 H0 i T H Es Q := W.run Dk n q h k
theorem cU {G : Nat → Option (List V)} {L : Option Nat} (n q : Nat) (T' : List V) (H' : Hp) {id : Nat} {l : List Oper} {draw : Bool} {c : Code} {T : List V} {H : Hp} {Q : Exit → St → Prop} (k : CO L Tryz.prog G c ⟨T', H'⟩ Q) (h : cuC D G l.toArray draw n q T H T' H' = (true, T', some H') := by kernel_rfl) : CO L Tryz.prog G (.seq (.region id l.toArray draw) c) ⟨T, H⟩ Q := cu Dk mix n q T' H' h k
theorem cE {G : Nat → Option (List V)} {L : Option Nat} (n q : Nat) (T' : List V) (H' : Hp) {id : Nat} {l : List Oper} {draw : Bool} {T : List V} {H : Hp} {Q : Exit → St → Prop} (hQ : ∀ st, Weak st ⟨T', H'⟩ → Q .normal st) (h : cuC D G l.toArray draw n q T H T' H' = (true, T', some H') := by kernel_rfl) : CO L Tryz.prog G (.region id l.toArray draw) ⟨T, H⟩ Q := ce Dk mix n q T' H' h hQ

theorem cV {G : Nat → Option (List V)} {L : Option Nat} (q : Nat) {id : Nat} {l : List Oper} {draw : Bool} {c : Code} {T : List V} {H : Hp} {Q : Exit → St → Prop} (k : CO L Tryz.prog G c ⟨(aftE D G l.toArray l.toArray.size q 0 T H).T, (aftE D G l.toArray l.toArray.size q 0 T H).H⟩ Q) (h : lzB D G l.toArray draw q T H = true := by kernel_rfl) : CO L Tryz.prog G (.seq (.region id l.toArray draw) c) ⟨T, H⟩ Q := cv Dk mix q k h
theorem cK {G : Nat → Option (List V)} {L : Option Nat} (q : Nat) {ι : Type} {J : ι → St} {R : ι → Prop} {id : Nat} {l : List Oper} {draw : Bool} {T : List V} {H : Hp} {Q : Exit → St → Prop} (hk : ∀ i, R i → ∀ st, Weak st (J i) → Q .normal st) (i : ι) (hi : R i) (m : Ren) (ks : List Nat) (h : jnC m ks (lzB D G l.toArray draw q T H) (aftE D G l.toArray l.toArray.size q 0 T H).T (aftE D G l.toArray l.toArray.size q 0 T H).H = (true, (J i).T, some (J i).H) := by kernel_rfl) : CO L Tryz.prog G (.region id l.toArray draw) ⟨T, H⟩ Q := ck Dk mix q hk i hi m ks h
theorem cC {G : Nat → Option (List V)} {L : Option Nat} (n q : Nat) {id : Nat} {l : List Oper} {draw : Bool} {c : Code} {T : List V} {H : Hp} {Q : Exit → St → Prop} {fid : FuncId} {vs : List V} {rc : V} (hA : AC Tryz.prog G fid vs [] rc []) (hcf : callOk Tryz.prog fid) (k : CO L Tryz.prog G c ⟨(ccR D G l.toArray n q rc T H).T, (ccR D G l.toArray n q rc T H).H⟩ Q) (h : ccC D G l.toArray draw n q rc T H = (true, some (fid, vs, []), rc) := by kernel_rfl) : CO L Tryz.prog G (.seq (.region id l.toArray draw) c) ⟨T, H⟩ Q := cc Dk mix n q hA hcf k h

theorem wD {G : Nat → Option (List V)} {ops : Array Oper} {draw : Bool} {T0 : List V} {H0 : Hp} {i : Nat} {T : List V} {H : Hp} {Es : List (Bool × Eff)} {Q : St → Prop} {fid : FuncId} {vs : List V} {Hc Hc' : Hp} {rc : V} (h : AC Tryz.prog G fid vs Hc rc Hc') (hcf : callOk Tryz.prog fid) (q m : Ren) {Z : List (Nat × List (List V))} (N : List Nat) (hZ : LayOk H Z) (k : W Tryz.prog G ops draw T0 H0 (i + 1) (setO T (dstW ops i) (rc.rn m)) (keepH m Hc' ++ hrem (Z.map (·.1) ++ q.map (·.1)) H) (Es ++ [(true, { v := rc.rn m, C := Z.map (·.1) ++ q.map (·.1), new := keepH m Hc', N := N })]) Q) (hn : (namesOk q m (Z.map (·.1)) N && nodupH Hc') = true := by kernel_rfl) (hc : callW G ops q Z i T H = some (fid, vs, Hc) := by kernel_rfl) : W Tryz.prog G ops draw T0 H0 i T H Es Q := W.call h hcf q m N hZ hn hc k
theorem wC {G : Nat → Option (List V)} {ops : Array Oper} {draw : Bool} {T0 : List V} {H0 : Hp} {i : Nat} {T : List V} {H : Hp} {Es : List (Bool × Eff)} {Q : St → Prop} {fid : FuncId} {vs : List V} {Hc Hc' : Hp} {rc : V} (h : AC Tryz.prog G fid vs Hc rc Hc') (hcf : callOk Tryz.prog fid) (q m : Ren) (N : List Nat) (k : W Tryz.prog G ops draw T0 H0 (i + 1) (setO T (dstW ops i) (rc.rn m)) (keepH m Hc' ++ hrem (([] : List (Nat × List (List V))).map (·.1) ++ q.map (·.1)) H) (Es ++ [(true, { v := rc.rn m, C := ([] : List (Nat × List (List V))).map (·.1) ++ q.map (·.1), new := keepH m Hc', N := N })]) Q) (hn : (namesOk q m (([] : List (Nat × List (List V))).map (·.1)) N && nodupH Hc') = true := by kernel_rfl) (hc : callW G ops q [] i T H = some (fid, vs, Hc) := by kernel_rfl) : W Tryz.prog G ops draw T0 H0 i T H Es Q := W.call h hcf q m N (show LayOk _ [] from trivial) hn hc k
theorem w0 {G : Nat → Option (List V)} {ops : Array Oper} {draw : Bool} {T0 : List V} {H0 : Hp} {i : Nat} {T : List V} {H : Hp} {Es : List (Bool × Eff)} {Q : St → Prop} {fid : FuncId} {vs : List V} {rc : V} (h : AC Tryz.prog G fid vs [] rc []) (hcf : callOk Tryz.prog fid) (k : W Tryz.prog G ops draw T0 H0 (i + 1) (setO T (dstW ops i) rc) H (Es ++ [(true, { v := rc })]) Q) (hc : callW G ops [] [] i T H = some (fid, vs, []) := by kernel_rfl) (hr : rc.rn [] = rc := by rfl) : W Tryz.prog G ops draw T0 H0 i T H Es Q := W.call0 h hcf hr hc k
theorem wN {G : Nat → Option (List V)} {ops : Array Oper} {draw : Bool} {T0 : List V} {H0 : Hp} {i : Nat} {T : List V} {H : Hp} {Es : List (Bool × Eff)} {Q : St → Prop} {α : Type} (enc : α → List V) (l : List α) (R : List Nat) (k : W Tryz.prog G ops draw T0 H0 (i + 1) (setO T (dstW ops i) (V.i l.length)) H (Es ++ [(true, { v := V.i l.length, R := R })]) Q) (h : lenW G ops i T H = some (l.map enc, R) := by kernel_rfl) (hs : ((opW ops i T).bind (stepV D H (ev G T))).isSome = true := by kernel_rfl) : W Tryz.prog G ops draw T0 H0 i T H Es Q := W.len Dk enc l R h hs k
theorem wX {G : Nat → Option (List V)} {ops : Array Oper} {draw : Bool} {T0 : List V} {H0 : Hp} {i : Nat} {T : List V} {H : Hp} {Es : List (Bool × Eff)} {Q : St → Prop} {α : Type} (enc : α → List V) {l : List α} {n : Int} {x : α} (hx : ix l n = some x) (sz : Nat) (k : W Tryz.prog G ops draw T0 H0 (i + 1) (setO T (dstW ops i) (.el (enc x))) H (Es ++ [(true, { v := .el (enc x) })]) Q) (h : ixD D G ops i T = some (l.map enc, n, sz) := by kernel_rfl) (hs : (enc x).length = sz := by kernel_rfl) : W Tryz.prog G ops draw T0 H0 i T H Es Q := W.ixD Dk enc hx sz h hs k


structure SToken where
  Kind : Int
  Text : List UInt8
  At : Int
  deriving DecidableEq, Inhabited

def eTk (x : SToken) : List V := [V.i x.Kind, V.s x.Text, V.i x.At]

structure SNode where
  Kind : Int
  Op : Int
  Text : List UInt8
  Other : List UInt8
  Kids : List Int
  deriving DecidableEq, Inhabited

def eSN (b : Bool) (x : SNode) : List V := [V.i x.Kind, V.i x.Op, V.s x.Text, V.s x.Other, .sl false b (x.Kids.map eNI)]

theorem sh_eSN (b : Bool) (x : SNode) : V.shareL (eSN b x) = eSN false x := by
  simp only [eSN, V.shareL, V.share, V.i, V.s, V.b, shareR_map (enc := eNI) (enc' := eNI) (fun _ => rfl)]

structure SL37S where
  ops : List Int
  trees : List (List SNode)
  deriving DecidableEq, Inhabited

structure SPos where
  Level : Int
  Dollar : Bool
  NoIn : Bool
  NoGt : Bool
  NoSign : Bool
  deriving DecidableEq, Inhabited

structure SFault where
  Kind : Int
  At : Int
  deriving DecidableEq, Inhabited

structure SRules where
  noIn : Bool
  noGt : Bool
  deriving DecidableEq, Inhabited

structure STree where
  kind : Int
  op : Int
  text : List UInt8
  other : List UInt8
  kids : List STree

instance : Inhabited STree := ⟨⟨0, 0, [], [], []⟩⟩

theorem STree.lt (x : STree) (y : STree) (h : y ∈ x.kids) : SizeOf.sizeOf y < SizeOf.sizeOf x := by
  have := List.sizeOf_lt_of_mem h
  cases x
  simp only [STree.mk.sizeOf_spec] at *
  omega

def eST (x : STree) : List V := [V.i x.kind, V.i x.op, V.s x.text, V.s x.other, .sl false false (x.kids.attach.map fun y => eST y.1)]
termination_by SizeOf.sizeOf x
decreasing_by exact STree.lt x y.1 y.2

theorem encSTree_eq (x : STree) : eST x = [V.i x.kind, V.i x.op, V.s x.text, V.s x.other, .sl false false (x.kids.map eST)] := by
  rw [eST]
  simp only [List.attach_map_val (f := eST), List.map_attach_eq_pmap, List.pmap_eq_map]

theorem share_encSTree (x : STree) : V.shareL (eST x) = eST x := by
  have hk : x.kids.map (V.shareL ∘ eST) = x.kids.map eST := List.map_congr_left fun y hy => share_encSTree y
  rw [encSTree_eq]
  simp only [V.shareL, V.share, V.shareR_eq, V.i, V.s, V.b, List.map_map]
  rw [hk]
termination_by SizeOf.sizeOf x
decreasing_by exact STree.lt x y hy

structure SPart where
  tree : STree
  target : Bool
  deriving Inhabited

structure SForm where
  op : Bool
  text : Bool
  other : Bool
  least : Int
  most : Int
  deriving DecidableEq, Inhabited

abbrev LU := List UInt8
abbrev LLU := List (List UInt8)
abbrev LT := List SToken
abbrev LN := List SNode
abbrev T1 := SPart × Int × Bool × LLU
abbrev LS := List STree
abbrev wr (x : Int) : Int := IntKind.wrap .i64 x
abbrev sL {α : Type} (f : α → List V) (x : List α) : V := .sl false false (x.map f)
abbrev vX {α : Type} (t k : Nat) (f : α → List V) (x : List α) : Ob := .vec false t k (x.map f)
abbrev vN (x : LLU) : Ob := .vec false 9 1 (x.map eNS)
abbrev cP (t : Nat) (x : LT) (i : Int) (b : Bool) (k : Nat) : Ob := .cells t [.sl false false (x.map eTk), V.i i, V.b b, .own k]
abbrev aP (x : SPart) : List V := [V.i x.tree.kind, V.i x.tree.op, V.s x.tree.text, V.s x.tree.other, .sl false false (x.tree.kids.map eST), V.b x.target]
abbrev AC0 := AC Tryz.prog (GS [])
theorem lO {H : Hp} : LayOk H [] := trivial

def ml_szToken (a0 : SToken) (a1 : Int) : Option Int :=
  bif (decide ((IntKind.wrap .i64 (a1 - (a0.Text.length : Int))) < 0)) then some (-1) else (some (IntKind.wrap .i64 (a1 - (a0.Text.length : Int))))

def ml_szTokenS_l1 (N : Nat) : Nat → (LT × Int × Int) → Option Int
  | 0, _ => none
  | n1 + 1, (a0, y37, y38) => bif (decide (y38 < (a0.length : Int))) then (ix a0 y38).bind fun e55 => (ml_szToken e55 y37).bind fun r56 => bif (decide (r56 < 0)) then some (-1) else ((ml_szTokenS_l1 N n1) (a0, r56, (IntKind.wrap .i64 (y38 + 1)))) else (some y37)
def ml_szTokenS (N : Nat) (a0 : LT) (a1 : Int) : Option Int :=
  bif (decide ((IntKind.wrap .i64 (a1 - (a0.length : Int))) < 0)) then some (-1) else (ml_szTokenS_l1 N N (a0, (IntKind.wrap .i64 (a1 - (a0.length : Int))), 0))

def ml_toToken (a0 : SToken) : Option SToken :=
  some a0

def ml_toTokenS_l1 (N : Nat) : Nat → (LT × Int × LT) → Option LT
  | 0, _ => none
  | n1 + 1, (a0, y71, y72) => bif (decide (y71 < (a0.length : Int))) then (ix a0 y71).bind fun e103 => (ml_toToken e103).bind fun r104 => (ix y72 y71).bind fun e105 => (upd y72 y71 r104).bind fun x106 => (ml_toTokenS_l1 N n1) (a0, (IntKind.wrap .i64 (y71 + 1)), x106) else (some y72)
def ml_toTokenS (N : Nat) (a0 : LT) : Option LT :=
  (mk 32 (⟨0, [], 0⟩ : SToken) (a0.length : Int)).bind fun x2 => ml_toTokenS_l1 N N (a0, 0, x2)

def ms_OpLevel_k4 : (Int × Bool) → Option Int
  | (a0, y8) => bif y8 then some 10 else (bif (a0 == 60) then some 12 else (some 0))
def ms_OpLevel_k3 : (Int × Bool) → Option Int
  | (a0, y7) => bif y7 then some 9 else (bif (a0 == 57) then ms_OpLevel_k4 (a0, (a0 == 57)) else (bif (a0 == 58) then ms_OpLevel_k4 (a0, (a0 == 58)) else (ms_OpLevel_k4 (a0, (a0 == 59)))))
def ms_OpLevel_k2 : (Int × Bool) → Option Int
  | (a0, y6) => bif y6 then some 7 else (bif (a0 == 99) then some 8 else (bif (a0 == 55) then ms_OpLevel_k3 (a0, (a0 == 55)) else (ms_OpLevel_k3 (a0, (a0 == 56)))))
def ms_OpLevel_k1 : (Int × Bool) → Option Int
  | (a0, y5) => bif y5 then some 6 else (bif (a0 == 63) then ms_OpLevel_k2 (a0, (a0 == 63)) else (bif (a0 == 48) then ms_OpLevel_k2 (a0, (a0 == 48)) else (bif (a0 == 47) then ms_OpLevel_k2 (a0, (a0 == 47)) else (bif (a0 == 50) then ms_OpLevel_k2 (a0, (a0 == 50)) else (bif (a0 == 62) then ms_OpLevel_k2 (a0, (a0 == 62)) else (ms_OpLevel_k2 (a0, (a0 == 49))))))))
def ms_OpLevel (a0 : Int) : Option Int :=
  bif (a0 == 44) then some 3 else (bif (a0 == 45) then some 4 else (bif (a0 == 67) then ms_OpLevel_k1 (a0, (a0 == 67)) else (ms_OpLevel_k1 (a0, (a0 == 46)))))

def ms_l4Plain_l1 (N : Nat) : Nat → (LU × Int) → Option Bool
  | 0, _ => none
  | n1 + 1, (a0, y19) => bif (decide (y19 < (a0.length : Int))) then (ix a0 y19).bind fun b28 => bif (((b28).toNat : Int) == 10) then some false else ((ms_l4Plain_l1 N n1) (a0, (IntKind.wrap .i64 (y19 + 1)))) else (some true)
def ms_l4Plain (N : Nat) (a0 : LU) : Option Bool :=
  ms_l4Plain_l1 N N (a0, 0)

def ms_l4Byte (a0 : LU) (a1 : Int) : Option Int :=
  (bif (decide (a1 < 0)) then some true else (some (decide (a1 ≥ (a0.length : Int))))).bind fun y2 => bif y2 then some (-1) else ((ix a0 a1).bind fun b4 => some (IntKind.wrap .i64 ((b4).toNat : Int)))

def ms_l1In (a0 : Int) (a1 : Int) (a2 : Int) : Option Bool :=
  (bif (decide (a0 ≥ a1)) then some (decide (a0 ≤ a2)) else (some false)).bind fun y1 => some y1

def ms_IsDigit (a0 : Int) : Option Bool :=
  (ms_l1In a0 48 57).bind fun r2 => some r2

def ms_l4Digits_l1 (N : Nat) : Nat → (LU × Int) → Option Int
  | 0, _ => none
  | n1 + 1, (a0, a1) => (ms_l4Byte a0 a1).bind fun r33 => (ms_IsDigit r33).bind fun r34 => bif r34 then (ms_l4Digits_l1 N n1) (a0, (IntKind.wrap .i64 (a1 + 1))) else (some a1)
def ms_l4Digits (N : Nat) (a0 : LU) (a1 : Int) : Option Int :=
  ms_l4Digits_l1 N N (a0, a1)

def ms_NumEnd_k2 (N : Nat) : Int → Option Int
  | y9 => some y9
def ms_NumEnd_k3 (N : Nat) : (LU × Int × Int) → Option Int
  | (a0, y9, y40) => (ms_l4Digits N a0 y40).bind fun r42 => bif (decide (r42 > y40)) then (ms_l4Digits N a0 y40).bind fun r44 => some r44 else (ms_NumEnd_k2 N y9)
def ms_NumEnd_k1 (N : Nat) : (LU × Int × Int) → Option Int
  | (a0, a1, y9) => bif (y9 == a1) then some (-1) else (((ms_l4Byte a0 y9).bind fun r33 => bif (r33 == 101) then some true else ((ms_l4Byte a0 y9).bind fun r34 => some (r34 == 69))).bind fun y32 => bif y32 then ((ms_l4Byte a0 (IntKind.wrap .i64 (y9 + 1))).bind fun r48 => bif (r48 == 43) then some true else ((ms_l4Byte a0 (IntKind.wrap .i64 (y9 + 1))).bind fun r49 => some (r49 == 45))).bind fun y47 => bif y47 then ms_NumEnd_k3 N (a0, y9, (IntKind.wrap .i64 ((IntKind.wrap .i64 (y9 + 1)) + 1))) else (ms_NumEnd_k3 N (a0, y9, (IntKind.wrap .i64 (y9 + 1)))) else (ms_NumEnd_k2 N y9))
def ms_NumEnd (N : Nat) (a0 : LU) (a1 : Int) : Option Int :=
  bif (decide (a1 < 0)) then some (-1) else ((ms_l4Digits N a0 a1).bind fun r2 => (ms_l4Byte a0 r2).bind fun r51 => bif (r51 == 46) then (ms_l4Digits N a0 (IntKind.wrap .i64 (r2 + 1))).bind fun r53 => (bif (r2 == a1) then some (r53 == (IntKind.wrap .i64 (r2 + 1))) else (some false)).bind fun y55 => bif y55 then some (-1) else (ms_NumEnd_k1 N (a0, a1, r53)) else (ms_NumEnd_k1 N (a0, a1, r2)))

def ms_l4Quoted_k2 (N : Nat) (kb1 : (LU × Int × Int) → Option Int) : (LU × Int × Int) → Option Int
  | (a0, a2, y58) => kb1 (a0, a2, (IntKind.wrap .i64 (y58 + 1)))
def ms_l4Quoted_l1 (N : Nat) : Nat → (LU × Int × Int) → Option Int
  | 0, _ => none
  | n1 + 1, (a0, a2, y43) => bif (decide (y43 < (a0.length : Int))) then (ix a0 y43).bind fun b60 => bif ((IntKind.wrap .i64 ((b60).toNat : Int)) == a2) then some (IntKind.wrap .i64 (y43 + 1)) else (bif ((IntKind.wrap .i64 ((b60).toNat : Int)) == 10) then some (-1) else (bif ((IntKind.wrap .i64 ((b60).toNat : Int)) == 92) then (ms_l4Byte a0 (IntKind.wrap .i64 (y43 + 1))).bind fun r62 => bif (r62 == 10) then some (-1) else (ms_l4Quoted_k2 N (ms_l4Quoted_l1 N n1) (a0, a2, (IntKind.wrap .i64 (y43 + 1)))) else (ms_l4Quoted_k2 N (ms_l4Quoted_l1 N n1) (a0, a2, y43)))) else (some (-1))
def ms_l4Quoted (N : Nat) (a0 : LU) (a1 : Int) (a2 : Int) : Option Int :=
  (ms_l4Byte a0 a1).bind fun r4 => bif (r4 != a2) then some (-1) else (ms_l4Quoted_l1 N N (a0, a2, (IntKind.wrap .i64 (a1 + 1))))

def ms_StrEnd (N : Nat) (a0 : LU) (a1 : Int) : Option Int :=
  (ms_l4Quoted N a0 a1 34).bind fun r2 => some r2

def ms_EreEnd (N : Nat) (a0 : LU) (a1 : Int) : Option Int :=
  (ms_l4Quoted N a0 a1 47).bind fun r2 => bif (r2 == (IntKind.wrap .i64 (a1 + 2))) then some (-1) else (some r2)

def ms_IsLetter (a0 : Int) : Option Bool :=
  ((ms_l1In a0 97 122).bind fun r4 => bif r4 then some true else ((ms_l1In a0 65 90).bind fun r5 => bif r5 then some true else (some (a0 == 95)))).bind fun y3 => some y3

def ms_IsWordByte (a0 : Int) : Option Bool :=
  ((ms_IsLetter a0).bind fun r4 => bif r4 then some true else ((ms_IsDigit a0).bind fun r5 => some r5)).bind fun y3 => some y3

def ms_NameShape_l1 (N : Nat) : Nat → (LU × Int) → Option Bool
  | 0, _ => none
  | n1 + 1, (a0, y35) => bif (decide (y35 < (a0.length : Int))) then (ix a0 y35).bind fun b51 => (ms_IsWordByte (IntKind.wrap .i64 ((b51).toNat : Int))).bind fun r52 => bif (!r52) then some false else ((ms_NameShape_l1 N n1) (a0, (IntKind.wrap .i64 (y35 + 1)))) else (((ms_l1In (a0.length : Int) 1 12).bind fun r57 => bif r57 then (ix a0 0).bind fun b58 => (ms_IsLetter (IntKind.wrap .i64 ((b58).toNat : Int))).bind fun r59 => some r59 else (some false)).bind fun y56 => some y56)
def ms_NameShape (N : Nat) (a0 : LU) : Option Bool :=
  ms_NameShape_l1 N N (a0, 0)

def ms_l3Words : Option LLU :=
  some [[66, 69, 71, 73, 78], [69, 78, 68], [102, 117, 110, 99, 116, 105, 111, 110], [105, 102], [101, 108, 115, 101], [119, 104, 105, 108, 101], [102, 111, 114], [100, 111], [98, 114, 101, 97, 107], [99, 111, 110, 116, 105, 110, 117, 101], [110, 101, 120, 116], [101, 120, 105, 116], [114, 101, 116, 117, 114, 110], [100, 101, 108, 101, 116, 101], [105, 110], [112, 114, 105, 110, 116], [112, 114, 105, 110, 116, 102]]

def ms_l3Find_l1 (N : Nat) : Nat → (LLU × LU × Int) → Option Int
  | 0, _ => none
  | n1 + 1, (a0, a1, y19) => bif (decide (y19 < (a0.length : Int))) then (ix a0 y19).bind fun e28 => bif (e28 == a1) then some y19 else ((ms_l3Find_l1 N n1) (a0, a1, (IntKind.wrap .i64 (y19 + 1)))) else (some (-1))
def ms_l3Find (N : Nat) (a0 : LLU) (a1 : LU) : Option Int :=
  ms_l3Find_l1 N N (a0, a1, 0)

def ms_KeywordOf (N : Nat) (a0 : LU) : Option Int :=
  Option.bind ms_l3Words fun r3 => (ms_l3Find N r3 a0).bind fun r4 => bif (decide (r4 < 0)) then some 0 else (some (IntKind.wrap .i64 (10 + r4)))

def ms_l3Builtins : Option LLU :=
  some [[97, 116, 97, 110, 50], [99, 108, 111, 115, 101], [99, 111, 115], [101, 120, 112], [103, 115, 117, 98], [105, 110, 100, 101, 120], [105, 110, 116], [108, 101, 110, 103, 116, 104], [108, 111, 103], [109, 97, 116, 99, 104], [114, 97, 110, 100], [115, 105, 110], [115, 112, 108, 105, 116], [115, 112, 114, 105, 110, 116, 102], [115, 113, 114, 116], [115, 114, 97, 110, 100], [115, 117, 98], [115, 117, 98, 115, 116, 114], [115, 121, 115, 116, 101, 109], [116, 111, 108, 111, 119, 101, 114], [116, 111, 117, 112, 112, 101, 114]]

def ms_IsBuiltin (N : Nat) (a0 : LU) : Option Bool :=
  Option.bind ms_l3Builtins fun r3 => (ms_l3Find N r3 a0).bind fun r4 => some (decide (r4 ≥ 0))

def ms_NameOk (N : Nat) (a0 : LU) : Option Bool :=
  ((ms_NameShape N a0).bind fun r5 => bif r5 then (ms_KeywordOf N a0).bind fun r6 => bif (r6 == 0) then (ms_IsBuiltin N a0).bind fun r7 => some (!r7) else (some false) else (some false)).bind fun y4 => some y4

def ms_l3Signs : Option LLU :=
  some [[123], [125], [40], [41], [91], [93], [44], [59], [43, 61], [45, 61], [42, 61], [47, 61], [37, 61], [94, 61], [124, 124], [38, 38], [33, 126], [61, 61], [60, 61], [62, 61], [33, 61], [43, 43], [45, 45], [62, 62], [61], [43], [45], [42], [47], [37], [94], [33], [62], [60], [124], [63], [58], [126], [36]]

def ms_SpellOf (a0 : Int) : Option LU :=
  bif (a0 == 1) then some [10] else ((ms_l1In a0 10 26).bind fun r14 => bif r14 then Option.bind ms_l3Words fun r17 => (ix r17 (IntKind.wrap .i64 (a0 - 10))).bind fun e18 => some e18 else ((ms_l1In a0 30 68).bind fun r20 => bif r20 then Option.bind ms_l3Signs fun r23 => (ix r23 (IntKind.wrap .i64 (a0 - 30))).bind fun e24 => some e24 else (some [])))

def ms_TokenOk_k1 (N : Nat) : (SToken × Bool) → Option Bool
  | (a0, y30) => bif y30 then (ms_NameOk N a0.Text).bind fun r32 => some r32 else (bif (a0.Kind == 8) then (ms_IsBuiltin N a0.Text).bind fun r34 => some r34 else ((bif (!(a0.Text == [])) then (ms_SpellOf a0.Kind).bind fun r37 => some (r37 == a0.Text) else (some false)).bind fun y36 => some y36))
def ms_TokenOk (N : Nat) (a0 : SToken) : Option Bool :=
  bif (a0.Kind == 2) then (bif (decide ((a0.Text.length : Int) > 0)) then (ix a0.Text 0).bind fun b21 => bif (((b21).toNat : Int) == 35) then (ms_l4Plain N a0.Text).bind fun r22 => some r22 else (some false) else (some false)).bind fun y20 => some y20 else (bif (a0.Kind == 3) then (bif (decide ((a0.Text.length : Int) > 0)) then (ms_NumEnd N a0.Text 0).bind fun r25 => some (r25 == (a0.Text.length : Int)) else (some false)).bind fun y24 => some y24 else (bif (a0.Kind == 4) then (ms_StrEnd N a0.Text 0).bind fun r27 => some (r27 == (a0.Text.length : Int)) else (bif (a0.Kind == 5) then (ms_EreEnd N a0.Text 0).bind fun r29 => some (r29 == (a0.Text.length : Int)) else (bif (a0.Kind == 6) then ms_TokenOk_k1 N (a0, (a0.Kind == 6)) else (ms_TokenOk_k1 N (a0, (a0.Kind == 7)))))))

def ms_EndsOperand_k1 : Bool → Option Bool
  | y2 => bif y2 then some true else (some false)
def ms_EndsOperand (a0 : Int) : Option Bool :=
  bif (a0 == 3) then ms_EndsOperand_k1 (a0 == 3) else (bif (a0 == 4) then ms_EndsOperand_k1 (a0 == 4) else (bif (a0 == 5) then ms_EndsOperand_k1 (a0 == 5) else (bif (a0 == 6) then ms_EndsOperand_k1 (a0 == 6) else (bif (a0 == 8) then ms_EndsOperand_k1 (a0 == 8) else (bif (a0 == 33) then ms_EndsOperand_k1 (a0 == 33) else (bif (a0 == 35) then ms_EndsOperand_k1 (a0 == 35) else (bif (a0 == 51) then ms_EndsOperand_k1 (a0 == 51) else (ms_EndsOperand_k1 (a0 == 52)))))))))

def ms_TokensOk_k2 (N : Nat) (kb1 : (LT × Int × Int) → Option Bool) : (LT × Int × Int × Int) → Option Bool
  | (a0, y317, y318, y440) => (ix a0 y318).bind fun e442 => ((ix a0 y318).bind fun e451 => (ms_TokenOk N e451).bind fun r452 => bif (!r452) then some true else (bif (e442.Kind == 7) then bif (y440 != 32) then some true else (bif (e442.Kind == 2) then bif (y440 != 1) then some (decide ((IntKind.wrap .i64 (y318 + 1)) < (a0.length : Int))) else (some false) else (some false)) else (bif (e442.Kind == 2) then bif (y440 != 1) then some (decide ((IntKind.wrap .i64 (y318 + 1)) < (a0.length : Int))) else (some false) else (some false)))).bind fun y450 => bif y450 then some false else ((bif (e442.Kind == 5) then (ms_EndsOperand y317).bind fun r470 => bif r470 then some true else (bif (e442.Kind == 58) then (ms_EndsOperand y317).bind fun r471 => some (!r471) else (bif (e442.Kind == 41) then (ms_EndsOperand y317).bind fun r472 => some (!r472) else (some false))) else (bif (e442.Kind == 58) then (ms_EndsOperand y317).bind fun r473 => some (!r473) else (bif (e442.Kind == 41) then (ms_EndsOperand y317).bind fun r474 => some (!r474) else (some false)))).bind fun y469 => bif y469 then some false else (kb1 (a0, e442.Kind, (IntKind.wrap .i64 (y318 + 1)))))
def ms_TokensOk_l1 (N : Nat) : Nat → (LT × Int × Int) → Option Bool
  | 0, _ => none
  | n1 + 1, (a0, y317, y318) => bif (decide (y318 < (a0.length : Int))) then bif (decide ((IntKind.wrap .i64 (y318 + 1)) < (a0.length : Int))) then (ix a0 (IntKind.wrap .i64 (y318 + 1))).bind fun e476 => ms_TokensOk_k2 N (ms_TokensOk_l1 N n1) (a0, y317, y318, e476.Kind) else (ms_TokensOk_k2 N (ms_TokensOk_l1 N n1) (a0, y317, y318, 0)) else (some true)
def ms_TokensOk (N : Nat) (a0 : LT) : Option Bool :=
  bif (decide ((a0.length : Int) > 3000)) then some false else (ms_TokensOk_l1 N N (a0, 0, 0))

def ms_Shunts_k2 (N : Nat) (kb1 : (LT × Bool × Int × Int) → Option Bool) : (LT × Int × Bool × Int) → Option Bool
  | (a0, y97, y157, y158) => bif (decide (y158 < 0)) then some false else (kb1 (a0, y157, y158, (IntKind.wrap .i64 (y97 + 1))))
def ms_Shunts_l1 (N : Nat) : Nat → (LT × Bool × Int × Int) → Option Bool
  | 0, _ => none
  | n1 + 1, (a0, y95, y96, y97) => bif (decide (y97 < (a0.length : Int))) then (ix a0 y97).bind fun e150 => (bif y95 then some (e150.Kind == 32) else (some false)).bind fun y159 => bif y159 then ms_Shunts_k2 N (ms_Shunts_l1 N n1) (a0, y97, y95, (IntKind.wrap .i64 (y96 + 1))) else ((bif y95 then bif (e150.Kind == 6) then some true else (some (e150.Kind == 3)) else (some false)).bind fun y160 => bif y160 then ms_Shunts_k2 N (ms_Shunts_l1 N n1) (a0, y97, false, y96) else ((bif (!y95) then some (e150.Kind == 33) else (some false)).bind fun y161 => bif y161 then ms_Shunts_k2 N (ms_Shunts_l1 N n1) (a0, y97, y95, (IntKind.wrap .i64 (y96 - 1))) else ((bif (!y95) then bif (e150.Kind != 99) then (ms_OpLevel e150.Kind).bind fun r164 => some (decide (r164 > 0)) else (some false) else (some false)).bind fun y163 => bif y163 then ms_Shunts_k2 N (ms_Shunts_l1 N n1) (a0, y97, true, y96) else (some false)))) else ((bif (!y95) then bif (y96 == 0) then (ms_TokensOk N a0).bind fun r167 => some r167 else (some false) else (some false)).bind fun y166 => some y166)
def ms_Shunts (N : Nat) (a0 : LT) : Option Bool :=
  ms_Shunts_l1 N N (a0, true, 0, 0)

def ms_l10Close (a0 : Int) : Option Bool :=
  (bif (a0 == 33) then some true else (bif (a0 == 35) then some true else (some (a0 == 31)))).bind fun y1 => some y1

def ms_l10Open (a0 : Int) : Option Bool :=
  (bif (a0 == 32) then some true else (bif (a0 == 34) then some true else (some (a0 == 30)))).bind fun y1 => some y1

def ms_NestOf_k3 (N : Nat) (kb1 : (LT × Int × Int) → Option Int) : (LT × Int × Int) → Option Int
  | (a0, y150, y216) => bif (decide (y216 > 40)) then some y150 else (kb1 (a0, y216, (IntKind.wrap .i64 (y150 + 1))))
def ms_NestOf_k2 (N : Nat) (kb1 : (LT × Int × Int) → Option Int) : (LT × Int × Int) → Option Int
  | (a0, y150, y211) => (ix a0 y150).bind fun e219 => (ms_l10Open e219.Kind).bind fun r220 => bif r220 then ms_NestOf_k3 N kb1 (a0, y150, (IntKind.wrap .i64 (y211 + 1))) else (ms_NestOf_k3 N kb1 (a0, y150, y211))
def ms_NestOf_l1 (N : Nat) : Nat → (LT × Int × Int) → Option Int
  | 0, _ => none
  | n1 + 1, (a0, y149, y150) => bif (decide (y150 < (a0.length : Int))) then (ix a0 y150).bind fun e223 => (ms_l10Close e223.Kind).bind fun r224 => bif r224 then ms_NestOf_k2 N (ms_NestOf_l1 N n1) (a0, y150, (if (IntKind.wrap .i64 (y149 - 1)) > 0 then (IntKind.wrap .i64 (y149 - 1)) else 0)) else (ms_NestOf_k2 N (ms_NestOf_l1 N n1) (a0, y150, y149)) else (some (-1))
def ms_NestOf (N : Nat) (a0 : LT) : Option Int :=
  ms_NestOf_l1 N N (a0, 0, 0)

def ms_l6Shift_l2 (N : Nat) (kb1 : (LN × Int × Int × LN) → Option LN) : Nat → (LN × Int × Int × LN × SNode × Int × (List Int)) → Option LN
  | 0, _ => none
  | n2 + 1, (a0, a1, y869, y870, e1198, y1267, y1268) => (ix a0 y869).bind fun e1290 => bif (decide (y1267 < (e1290.Kids.length : Int))) then (ix a0 y869).bind fun e1300 => (ix e1300.Kids y1267).bind fun e1301 => (app 8 y1268 [(IntKind.wrap .i64 (e1301 + a1))]).bind fun x1302 => (ms_l6Shift_l2 N kb1 n2) (a0, a1, y869, y870, e1198, (IntKind.wrap .i64 (y1267 + 1)), x1302) else ((app 72 y870 [(⟨e1198.Kind, e1198.Op, e1198.Text, e1198.Other, y1268⟩ : SNode)]).bind fun x1304 => kb1 (a0, a1, (IntKind.wrap .i64 (y869 + 1)), x1304))
def ms_l6Shift_l1 (N : Nat) : Nat → (LN × Int × Int × LN) → Option LN
  | 0, _ => none
  | n1 + 1, (a0, a1, y869, y870) => bif (decide (y869 < (a0.length : Int))) then (ix a0 y869).bind fun e1198 => ms_l6Shift_l2 N (ms_l6Shift_l1 N n1) N (a0, a1, y869, y870, e1198, 0, []) else (some y870)
def ms_l6Shift (N : Nat) (a0 : LN) (a1 : Int) : Option LN :=
  ms_l6Shift_l1 N N (a0, a1, 0, [])

def ms_l6Make_l1 (N : Nat) : Nat → ((List LN) × SNode × Int × LN × (List Int)) → Option LN
  | 0, _ => none
  | n1 + 1, (a1, a0, y71, y72, y73) => bif (decide (y71 < (a1.length : Int))) then (ix a1 y71).bind fun e104 => (ms_l6Shift N e104 (y72.length : Int)).bind fun r105 => (app 72 y72 r105).bind fun x106 => (app 8 y73 [(IntKind.wrap .i64 ((x106.length : Int) - 1))]).bind fun x108 => (ms_l6Make_l1 N n1) (a1, a0, (IntKind.wrap .i64 (y71 + 1)), x106, x108) else ((app 72 y72 [(⟨a0.Kind, a0.Op, a0.Text, a0.Other, y73⟩ : SNode)]).bind fun x110 => some x110)
def ms_l6Make (N : Nat) (a0 : SNode) (a1 : List LN) : Option LN :=
  ms_l6Make_l1 N N (a1, a0, 0, [], [])

def ms_l37Join (N : Nat) (p0 : List Int) (p1 : List LN) : Option SL37S :=
  (ix p0 (IntKind.wrap .i64 ((p0.length : Int) - 1))).bind fun e2 => (ix p1 (IntKind.wrap .i64 ((p1.length : Int) - 2))).bind fun e6 => (ix p1 (IntKind.wrap .i64 ((p1.length : Int) - 1))).bind fun e7 => (ms_l6Make N (⟨12, e2, [], [], []⟩ : SNode) [e6, e7]).bind fun r8 => (cut p0 0 (IntKind.wrap .i64 ((p0.length : Int) - 1))).bind fun l10 => (cut p1 0 (IntKind.wrap .i64 ((p1.length : Int) - 2))).bind fun l14 => (app 24 [] l14).bind fun x15 => (app 24 x15 [r8]).bind fun x16 => some (⟨l10, x16⟩ : SL37S)

def ms_l37Bad (a0 : Int) (a1 : Int) : Option Bool :=
  (ms_OpLevel a1).bind fun r2 => (bif (a0 != 0) then (ms_OpLevel a0).bind fun r5 => bif (r5 == r2) then bif (r2 == 6) then some true else (some (r2 == 7)) else (some false) else (some false)).bind fun y4 => some y4

def ms_l37First (a0 : Int) (a1 : Int) : Option Bool :=
  (bif (a0 == 0) then some true else ((ms_OpLevel a0).bind fun r9 => (ms_OpLevel a1).bind fun r10 => some (decide (r9 < r10)))).bind fun y8 => bif y8 then some false else (((ms_OpLevel a0).bind fun r14 => (ms_OpLevel a1).bind fun r15 => bif (decide (r14 > r15)) then some true else (some (a1 != 60))).bind fun y13 => some y13)

def ms_l6Starts_l2 (N : Nat) (kb1 : (LN × Int × (List Int)) → Option ((List Int) × Bool)) : Nat → (LN × Int × (List Int) × Int × Int) → Option ((List Int) × Bool)
  | 0, _ => none
  | n2 + 1, (a0, y917, y918, y1499, y1500) => bif (decide (y1500 ≥ 0)) then ((ix a0 y917).bind fun e1547 => (ix e1547.Kids y1500).bind fun e1548 => bif (e1548 != (IntKind.wrap .i64 (y1499 - 1))) then some true else (some (y1499 == 0))).bind fun y1546 => bif y1546 then some ([], false) else ((ix y918 (IntKind.wrap .i64 (y1499 - 1))).bind fun e1550 => (ms_l6Starts_l2 N kb1 n2) (a0, y917, y918, e1550, (IntKind.wrap .i64 (y1500 - 1)))) else ((app 8 y918 [y1499]).bind fun x1552 => kb1 (a0, (IntKind.wrap .i64 (y917 + 1)), x1552))
def ms_l6Starts_l1 (N : Nat) : Nat → (LN × Int × (List Int)) → Option ((List Int) × Bool)
  | 0, _ => none
  | n1 + 1, (a0, y917, y918) => bif (decide (y917 < (a0.length : Int))) then (ix a0 y917).bind fun e1474 => ms_l6Starts_l2 N (ms_l6Starts_l1 N n1) N (a0, y917, y918, y917, (IntKind.wrap .i64 ((e1474.Kids.length : Int) - 1))) else (some (y918, true))
def ms_l6Starts (N : Nat) (a0 : LN) : Option ((List Int) × Bool) :=
  ms_l6Starts_l1 N N (a0, 0, [])

def ms_ShapeOk (N : Nat) (a0 : LN) : Option Bool :=
  (ms_l1In (a0.length : Int) 1 400).bind fun r4 => bif (!r4) then some false else ((ms_l6Starts N a0).bind fun r6 => (bif r6.2 then (ix r6.1 (IntKind.wrap .i64 ((a0.length : Int) - 1))).bind fun e9 => some (e9 == 0) else (some false)).bind fun y8 => some y8)

def ms_DepthOf_l2 (N : Nat) (kb1 : (LN × Int × (List Int)) → Option Int) : Nat → (LN × Int × (List Int) × Int × Int) → Option Int
  | 0, _ => none
  | n2 + 1, (a0, y857, y858, y1247, y1248) => (ix a0 y857).bind fun e1270 => bif (decide (y1248 < (e1270.Kids.length : Int))) then (ix a0 y857).bind fun e1280 => (ix e1280.Kids y1248).bind fun e1281 => (ix y858 e1281).bind fun e1282 => (ms_DepthOf_l2 N kb1 n2) (a0, y857, y858, (if (IntKind.wrap .i64 (1 + e1282)) > y1247 then (IntKind.wrap .i64 (1 + e1282)) else y1247), (IntKind.wrap .i64 (y1248 + 1))) else ((app 8 y858 [y1247]).bind fun x1284 => kb1 (a0, (IntKind.wrap .i64 (y857 + 1)), x1284))
def ms_DepthOf_l1 (N : Nat) : Nat → (LN × Int × (List Int)) → Option Int
  | 0, _ => none
  | n1 + 1, (a0, y857, y858) => bif (decide (y857 < (a0.length : Int))) then ms_DepthOf_l2 N (ms_DepthOf_l1 N n1) N (a0, y857, y858, 1, 0) else ((ix y858 (IntKind.wrap .i64 ((a0.length : Int) - 1))).bind fun e1286 => some e1286)
def ms_DepthOf (N : Nat) (a0 : LN) : Option Int :=
  (ms_ShapeOk N a0).bind fun r4 => bif (!r4) then some 0 else (ms_DepthOf_l1 N N (a0, 0, []))

def ms_l7Many_k6 : (SNode × Bool) → Option (Int × Int)
  | (a0, y12) => bif y12 then some (0, (a0.Kids.length : Int)) else (bif (a0.Kind == 42) then some ((IntKind.wrap .i64 (1 + (IntKind.wrap .i64 (Int.tdiv a0.Op 3)))), (IntKind.wrap .i64 (1 + (IntKind.wrap .i64 (Int.tdiv a0.Op 3))))) else (bif (a0.Kind == 43) then some ((IntKind.wrap .i64 (2 + (IntKind.wrap .i64 (Int.tdiv a0.Op 3)))), (IntKind.wrap .i64 (2 + (IntKind.wrap .i64 (Int.tdiv a0.Op 3))))) else (bif (a0.Kind == 44) then some (1, 7) else (some (0, 0)))))
def ms_l7Many_k5 : (SNode × Bool) → Option (Int × Int)
  | (a0, y11) => bif y11 then some (0, 1) else (bif (a0.Kind == 28) then some (2, 3) else (bif (a0.Kind == 31) then some (4, 4) else (bif (a0.Kind == 33) then ms_l7Many_k6 (a0, (a0.Kind == 33)) else (ms_l7Many_k6 (a0, (a0.Kind == 45))))))
def ms_l7Many_k4 : (SNode × Bool) → Option (Int × Int)
  | (a0, y10) => bif y10 then some (2, 2) else (bif (a0.Kind == 14) then some (3, 3) else (bif (a0.Kind == 21) then bif (!(a0.Other == [])) then some ((IntKind.wrap .i64 (a0.Op + 1)), 7) else (some (a0.Op, 6)) else (bif (a0.Kind == 23) then ms_l7Many_k5 (a0, (a0.Kind == 23)) else (ms_l7Many_k5 (a0, (a0.Kind == 24))))))
def ms_l7Many_k3 : (SNode × Bool) → Option (Int × Int)
  | (a0, y9) => bif y9 then some (1, 1) else (bif (a0.Kind == 12) then ms_l7Many_k4 (a0, (a0.Kind == 12)) else (bif (a0.Kind == 15) then ms_l7Many_k4 (a0, (a0.Kind == 15)) else (bif (a0.Kind == 29) then ms_l7Many_k4 (a0, (a0.Kind == 29)) else (ms_l7Many_k4 (a0, (a0.Kind == 30))))))
def ms_l7Many_k2 : (SNode × Bool) → Option (Int × Int)
  | (a0, y8) => bif y8 then some (0, 6) else (bif (a0.Kind == 6) then ms_l7Many_k3 (a0, (a0.Kind == 6)) else (bif (a0.Kind == 9) then ms_l7Many_k3 (a0, (a0.Kind == 9)) else (bif (a0.Kind == 10) then ms_l7Many_k3 (a0, (a0.Kind == 10)) else (bif (a0.Kind == 11) then ms_l7Many_k3 (a0, (a0.Kind == 11)) else (bif (a0.Kind == 20) then ms_l7Many_k3 (a0, (a0.Kind == 20)) else (bif (a0.Kind == 32) then ms_l7Many_k3 (a0, (a0.Kind == 32)) else (bif (a0.Kind == 40) then ms_l7Many_k3 (a0, (a0.Kind == 40)) else (ms_l7Many_k3 (a0, (a0.Kind == 41))))))))))
def ms_l7Many_k1 : (SNode × Bool) → Option (Int × Int)
  | (a0, y7) => bif y7 then some (1, 6) else (bif (a0.Kind == 7) then ms_l7Many_k2 (a0, (a0.Kind == 7)) else (bif (a0.Kind == 8) then ms_l7Many_k2 (a0, (a0.Kind == 8)) else (ms_l7Many_k2 (a0, (a0.Kind == 27)))))
def ms_l7Many (a0 : SNode) : Option (Int × Int) :=
  bif (a0.Kind == 5) then ms_l7Many_k1 (a0, (a0.Kind == 5)) else (ms_l7Many_k1 (a0, (a0.Kind == 13)))

def ms_l7IsBin_k1 : Bool → Option Bool
  | y2 => bif y2 then some true else (some false)
def ms_l7IsBin (a0 : Int) : Option Bool :=
  bif (a0 == 60) then ms_l7IsBin_k1 (a0 == 60) else (bif (a0 == 57) then ms_l7IsBin_k1 (a0 == 57) else (bif (a0 == 58) then ms_l7IsBin_k1 (a0 == 58) else (bif (a0 == 59) then ms_l7IsBin_k1 (a0 == 59) else (bif (a0 == 55) then ms_l7IsBin_k1 (a0 == 55) else (bif (a0 == 56) then ms_l7IsBin_k1 (a0 == 56) else (bif (a0 == 99) then ms_l7IsBin_k1 (a0 == 99) else (bif (a0 == 63) then ms_l7IsBin_k1 (a0 == 63) else (bif (a0 == 48) then ms_l7IsBin_k1 (a0 == 48) else (bif (a0 == 47) then ms_l7IsBin_k1 (a0 == 47) else (bif (a0 == 50) then ms_l7IsBin_k1 (a0 == 50) else (bif (a0 == 62) then ms_l7IsBin_k1 (a0 == 62) else (bif (a0 == 49) then ms_l7IsBin_k1 (a0 == 49) else (bif (a0 == 67) then ms_l7IsBin_k1 (a0 == 67) else (bif (a0 == 46) then ms_l7IsBin_k1 (a0 == 46) else (bif (a0 == 45) then ms_l7IsBin_k1 (a0 == 45) else (ms_l7IsBin_k1 (a0 == 44)))))))))))))))))

def ms_l7IsAssign (a0 : Int) : Option Bool :=
  (bif (a0 == 54) then some true else ((ms_l1In a0 38 43).bind fun r3 => some r3)).bind fun y2 => some y2

def ms_l7Op_k1 : (SNode × Bool) → Option Bool
  | (a0, y13) => bif y13 then (bif (a0.Op == 51) then some true else (some (a0.Op == 52))).bind fun y14 => some y14 else (bif (a0.Kind == 11) then (bif (a0.Op == 55) then some true else (bif (a0.Op == 56) then some true else (some (a0.Op == 61)))).bind fun y15 => some y15 else (bif (a0.Kind == 12) then (ms_l7IsBin a0.Op).bind fun r17 => some r17 else (bif (a0.Kind == 15) then (ms_l7IsAssign a0.Op).bind fun r19 => some r19 else (bif (a0.Kind == 21) then (ms_l1In a0.Op 0 1).bind fun r21 => some r21 else (bif (a0.Kind == 42) then (ms_l1In a0.Op 1 3).bind fun r23 => some r23 else (bif (a0.Kind == 43) then (bif (a0.Op == 1) then some true else (some (a0.Op == 3))).bind fun y24 => some y24 else (some (a0.Op == 0))))))))
def ms_l7Op (a0 : SNode) : Option Bool :=
  bif (a0.Kind == 9) then ms_l7Op_k1 (a0, (a0.Kind == 9)) else (ms_l7Op_k1 (a0, (a0.Kind == 10)))

def ms_l7Text_k1 (N : Nat) : (SNode × Bool) → Option Bool
  | (a0, y26) => bif y26 then ((ms_NameOk N a0.Text).bind fun r29 => bif r29 then some (a0.Other == []) else (some false)).bind fun y28 => some y28 else (bif (a0.Kind == 2) then ((ms_TokenOk N (⟨3, a0.Text, 0⟩ : SToken)).bind fun r32 => bif r32 then some (a0.Other == []) else (some false)).bind fun y31 => some y31 else (bif (a0.Kind == 3) then ((ms_TokenOk N (⟨4, a0.Text, 0⟩ : SToken)).bind fun r35 => bif r35 then some (a0.Other == []) else (some false)).bind fun y34 => some y34 else (bif (a0.Kind == 4) then ((ms_TokenOk N (⟨5, a0.Text, 0⟩ : SToken)).bind fun r38 => bif r38 then some (a0.Other == []) else (some false)).bind fun y37 => some y37 else (bif (a0.Kind == 34) then ((ms_TokenOk N (⟨2, a0.Text, 0⟩ : SToken)).bind fun r41 => bif r41 then some (a0.Other == []) else (some false)).bind fun y40 => some y40 else (bif (a0.Kind == 8) then ((ms_IsBuiltin N a0.Text).bind fun r44 => bif r44 then some (a0.Other == []) else (some false)).bind fun y43 => some y43 else (bif (a0.Kind == 32) then ((ms_NameOk N a0.Text).bind fun r48 => bif r48 then (ms_NameOk N a0.Other).bind fun r49 => some r49 else (some false)).bind fun y47 => some y47 else (bif (a0.Kind == 21) then (bif (a0.Text == []) then bif (a0.Other == []) then some true else (bif (a0.Other == [62]) then some true else (bif (a0.Other == [62, 62]) then some true else (some (a0.Other == [124])))) else (some false)).bind fun y50 => some y50 else ((bif (a0.Text == []) then some (a0.Other == []) else (some false)).bind fun y51 => some y51))))))))
def ms_l7Text (N : Nat) (a0 : SNode) : Option Bool :=
  bif (a0.Kind == 1) then ms_l7Text_k1 N (a0, (a0.Kind == 1)) else (bif (a0.Kind == 5) then ms_l7Text_k1 N (a0, (a0.Kind == 5)) else (bif (a0.Kind == 7) then ms_l7Text_k1 N (a0, (a0.Kind == 7)) else (bif (a0.Kind == 13) then ms_l7Text_k1 N (a0, (a0.Kind == 13)) else (bif (a0.Kind == 27) then ms_l7Text_k1 N (a0, (a0.Kind == 27)) else (ms_l7Text_k1 N (a0, (a0.Kind == 44)))))))

def ms_FieldsOk (N : Nat) (a0 : SNode) : Option Bool :=
  (ms_l7Many a0).bind fun r2 => ((ms_l1In a0.Kind 1 16).bind fun r7 => bif r7 then some true else ((ms_l1In a0.Kind 20 34).bind fun r8 => bif r8 then some true else ((ms_l1In a0.Kind 40 45).bind fun r9 => some r9))).bind fun y6 => (bif y6 then (ms_l7Op a0).bind fun r14 => bif r14 then (ms_l7Text N a0).bind fun r15 => bif r15 then (ms_l1In (a0.Kids.length : Int) r2.1 r2.2).bind fun r16 => some r16 else (some false) else (some false) else (some false)).bind fun y13 => some y13

def ms_IsLvalue (a0 : Int) : Option Bool :=
  (bif (a0 == 1) then some true else (bif (a0 == 5) then some true else (some (a0 == 6)))).bind fun y1 => some y1

def ms_IsExpr (a0 : Int) : Option Bool :=
  (ms_l1In a0 1 15).bind fun r2 => some r2

def ms_IsStmt (a0 : Int) : Option Bool :=
  (ms_l1In a0 20 34).bind fun r2 => some r2

def ms_l7Kid_k2 : (Int × Int × SNode × Bool) → Option Bool
  | (a1, a2, a0, y74) => bif y74 then some (a2 == 33) else (bif (a0.Kind == 33) then (ms_IsStmt a2).bind fun r76 => some r76 else (bif (a0.Kind == 42) then (bif (a0.Op == 1) then (ms_IsExpr a2).bind fun r87 => bif r87 then some true else (bif (a0.Op == 2) then bif (a2 == 33) then some true else (bif (a0.Op == 3) then bif (a1 == (IntKind.wrap .i64 ((a0.Kids.length : Int) - 1))) then bif (a2 == 33) then some true else (bif (!(a1 == (IntKind.wrap .i64 ((a0.Kids.length : Int) - 1)))) then (ms_IsExpr a2).bind fun r88 => some r88 else (some false)) else (bif (!(a1 == (IntKind.wrap .i64 ((a0.Kids.length : Int) - 1)))) then (ms_IsExpr a2).bind fun r89 => some r89 else (some false)) else (some false)) else (bif (a0.Op == 3) then bif (a1 == (IntKind.wrap .i64 ((a0.Kids.length : Int) - 1))) then bif (a2 == 33) then some true else (bif (!(a1 == (IntKind.wrap .i64 ((a0.Kids.length : Int) - 1)))) then (ms_IsExpr a2).bind fun r90 => some r90 else (some false)) else (bif (!(a1 == (IntKind.wrap .i64 ((a0.Kids.length : Int) - 1)))) then (ms_IsExpr a2).bind fun r91 => some r91 else (some false)) else (some false))) else (bif (a0.Op == 2) then bif (a2 == 33) then some true else (bif (a0.Op == 3) then bif (a1 == (IntKind.wrap .i64 ((a0.Kids.length : Int) - 1))) then bif (a2 == 33) then some true else (bif (!(a1 == (IntKind.wrap .i64 ((a0.Kids.length : Int) - 1)))) then (ms_IsExpr a2).bind fun r92 => some r92 else (some false)) else (bif (!(a1 == (IntKind.wrap .i64 ((a0.Kids.length : Int) - 1)))) then (ms_IsExpr a2).bind fun r93 => some r93 else (some false)) else (some false)) else (bif (a0.Op == 3) then bif (a1 == (IntKind.wrap .i64 ((a0.Kids.length : Int) - 1))) then bif (a2 == 33) then some true else (bif (!(a1 == (IntKind.wrap .i64 ((a0.Kids.length : Int) - 1)))) then (ms_IsExpr a2).bind fun r94 => some r94 else (some false)) else (bif (!(a1 == (IntKind.wrap .i64 ((a0.Kids.length : Int) - 1)))) then (ms_IsExpr a2).bind fun r95 => some r95 else (some false)) else (some false)))).bind fun y86 => some y86 else (bif (a0.Kind == 43) then (bif (decide (a1 < 2)) then (ms_IsExpr a2).bind fun r98 => bif r98 then some true else (bif (a1 == 2) then some (a2 == 33) else (some false)) else (bif (a1 == 2) then some (a2 == 33) else (some false))).bind fun y97 => some y97 else (bif (a0.Kind == 44) then (bif (a1 == (IntKind.wrap .i64 ((a0.Kids.length : Int) - 1))) then bif (a2 == 33) then some true else (bif (!(a1 == (IntKind.wrap .i64 ((a0.Kids.length : Int) - 1)))) then some (a2 == 1) else (some false)) else (bif (!(a1 == (IntKind.wrap .i64 ((a0.Kids.length : Int) - 1)))) then some (a2 == 1) else (some false))).bind fun y99 => some y99 else (bif (a0.Kind == 45) then ((ms_l1In a2 40 44).bind fun r102 => bif r102 then some true else (some (a2 == 34))).bind fun y101 => some y101 else ((ms_IsExpr a2).bind fun r104 => some r104))))))
def ms_l7Kid_k1 : (Int × Int × SNode × Bool) → Option Bool
  | (a1, a2, a0, y52) => bif y52 then (ms_IsLvalue a2).bind fun r54 => some r54 else (bif (a0.Kind == 15) then ((ms_IsExpr a2).bind fun r58 => bif r58 then bif (decide (a1 > 0)) then some true else ((ms_IsLvalue a2).bind fun r59 => some r59) else (some false)).bind fun y57 => some y57 else (bif (a0.Kind == 28) then (bif (a1 == 0) then (ms_IsExpr a2).bind fun r62 => bif r62 then some true else (bif (decide (a1 > 0)) then some (a2 == 33) else (some false)) else (bif (decide (a1 > 0)) then some (a2 == 33) else (some false))).bind fun y61 => some y61 else (bif (a0.Kind == 29) then (bif (a1 == 0) then (ms_IsExpr a2).bind fun r65 => bif r65 then some true else (bif (a1 == 1) then some (a2 == 33) else (some false)) else (bif (a1 == 1) then some (a2 == 33) else (some false))).bind fun y64 => some y64 else (bif (a0.Kind == 30) then (bif (a1 == 0) then bif (a2 == 33) then some true else (bif (a1 == 1) then (ms_IsExpr a2).bind fun r69 => some r69 else (some false)) else (bif (a1 == 1) then (ms_IsExpr a2).bind fun r70 => some r70 else (some false))).bind fun y68 => some y68 else (bif (a0.Kind == 31) then (bif (decide (a1 < 3)) then (ms_IsExpr a2).bind fun r73 => bif r73 then some true else (bif (a2 == 16) then some true else (bif (a1 == 3) then some (a2 == 33) else (some false))) else (bif (a1 == 3) then some (a2 == 33) else (some false))).bind fun y72 => some y72 else (bif (a0.Kind == 32) then ms_l7Kid_k2 (a1, a2, a0, (a0.Kind == 32)) else (bif (a0.Kind == 40) then ms_l7Kid_k2 (a1, a2, a0, (a0.Kind == 40)) else (ms_l7Kid_k2 (a1, a2, a0, (a0.Kind == 41))))))))))
def ms_l7Kid (a0 : SNode) (a1 : Int) (a2 : Int) : Option Bool :=
  bif (a0.Kind == 9) then ms_l7Kid_k1 (a1, a2, a0, (a0.Kind == 9)) else (ms_l7Kid_k1 (a1, a2, a0, (a0.Kind == 10)))

def ms_TreeOk_l2 (N : Nat) (kb1 : (LN × Int) → Option Bool) : Nat → (LN × Int × Int) → Option Bool
  | 0, _ => none
  | n2 + 1, (a0, y669, y949) => (ix a0 y669).bind fun e978 => bif (decide (y949 < (e978.Kids.length : Int))) then (ix a0 y669).bind fun e994 => (ix a0 y669).bind fun e995 => (ix e995.Kids y949).bind fun e996 => (ix a0 e996).bind fun e997 => (ms_l7Kid e994 y949 e997.Kind).bind fun r998 => bif (!r998) then some false else ((ms_TreeOk_l2 N kb1 n2) (a0, y669, (IntKind.wrap .i64 (y949 + 1)))) else (kb1 (a0, (IntKind.wrap .i64 (y669 + 1))))
def ms_TreeOk_l1 (N : Nat) : Nat → (LN × Int) → Option Bool
  | 0, _ => none
  | n1 + 1, (a0, y669) => bif (decide (y669 < (a0.length : Int))) then (ix a0 y669).bind fun e923 => (ms_FieldsOk N e923).bind fun r924 => bif (!r924) then some false else (ms_TreeOk_l2 N (ms_TreeOk_l1 N n1) N (a0, y669, 0)) else (some true)
def ms_TreeOk (N : Nat) (a0 : LN) : Option Bool :=
  ((ms_ShapeOk N a0).bind fun r9 => bif (!r9) then some true else ((ms_DepthOf N a0).bind fun r10 => some (decide (r10 > 40)))).bind fun y8 => bif y8 then some false else (ms_TreeOk_l1 N N (a0, 0))

def ms_Shunt_k2 (N : Nat) (kb1 : (LT × Int × (List Int) × (List LN)) → Option (LN × Bool)) : (LT × Int × (List Int) × (List LN)) → Option (LN × Bool)
  | (a0, y865, y1287, y1288) => kb1 (a0, (IntKind.wrap .i64 (y865 + 1)), y1287, y1288)
def ms_Shunt_l3 (N : Nat) (kb1 : (LT × Int × (List Int) × (List LN)) → Option (LN × Bool)) : Nat → (LT × Int × (List Int) × (List LN)) → Option (LN × Bool)
  | 0, _ => none
  | n3 + 1, (a0, y865, y866, y867) => (ix y866 (IntKind.wrap .i64 ((y866.length : Int) - 1))).bind fun e1326 => bif (e1326 != 0) then (ms_l37Join N y866 y867).bind fun r1328 => (ms_Shunt_l3 N kb1 n3) (a0, y865, r1328.ops, r1328.trees) else ((cut y866 0 (IntKind.wrap .i64 ((y866.length : Int) - 1))).bind fun l1330 => ms_Shunt_k2 N kb1 (a0, y865, l1330, y867))
def ms_Shunt_l4 (N : Nat) (kb1 : (LT × Int × (List Int) × (List LN)) → Option (LN × Bool)) : Nat → (LT × Int × SToken × (List Int) × (List LN)) → Option (LN × Bool)
  | 0, _ => none
  | n4 + 1, (a0, y865, e1290, y866, y867) => (bif (decide ((y866.length : Int) > 0)) then (ix y866 (IntKind.wrap .i64 ((y866.length : Int) - 1))).bind fun e1409 => (ms_l37Bad e1409 e1290.Kind).bind fun r1410 => bif (!r1410) then (ix y866 (IntKind.wrap .i64 ((y866.length : Int) - 1))).bind fun e1411 => (ms_l37First e1411 e1290.Kind).bind fun r1412 => some r1412 else (some false) else (some false)).bind fun y1408 => bif y1408 then (ms_l37Join N y866 y867).bind fun r1414 => (ms_Shunt_l4 N kb1 n4) (a0, y865, e1290, r1414.ops, r1414.trees) else ((bif (decide ((y866.length : Int) > 0)) then (ix y866 (IntKind.wrap .i64 ((y866.length : Int) - 1))).bind fun e1423 => (ms_l37Bad e1423 e1290.Kind).bind fun r1424 => some r1424 else (some false)).bind fun y1422 => bif y1422 then some ([], false) else ((app 8 y866 [e1290.Kind]).bind fun x1426 => ms_Shunt_k2 N kb1 (a0, y865, x1426, y867)))
def ms_Shunt_l5 (N : Nat) (kb1 : (LT × Int × (List Int) × (List LN)) → Option (LN × Bool)) : Nat → ((List Int) × (List LN)) → Option (LN × Bool)
  | 0, _ => none
  | n5 + 1, (y866, y867) => bif (decide ((y866.length : Int) > 0)) then (ms_l37Join N y866 y867).bind fun r1438 => (ms_Shunt_l5 N kb1 n5) (r1438.ops, r1438.trees) else ((ix y867 0).bind fun e1445 => (ms_TreeOk N e1445).bind fun r1446 => bif (!r1446) then some ([], false) else ((ix y867 0).bind fun e1448 => some (e1448, true)))
def ms_Shunt_l1 (N : Nat) : Nat → (LT × Int × (List Int) × (List LN)) → Option (LN × Bool)
  | 0, _ => none
  | n1 + 1, (a0, y865, y866, y867) => bif (decide (y865 < (a0.length : Int))) then (ix a0 y865).bind fun e1290 => bif (e1290.Kind == 6) then (ix a0 y865).bind fun e1293 => (app 24 y867 [[(⟨1, 0, e1293.Text, [], []⟩ : SNode)]]).bind fun x1294 => ms_Shunt_k2 N (ms_Shunt_l1 N n1) (a0, y865, y866, x1294) else (bif (e1290.Kind == 3) then (ix a0 y865).bind fun e1297 => (app 24 y867 [[(⟨2, 0, e1297.Text, [], []⟩ : SNode)]]).bind fun x1298 => ms_Shunt_k2 N (ms_Shunt_l1 N n1) (a0, y865, y866, x1298) else (bif (e1290.Kind == 32) then (app 8 y866 [0]).bind fun x1300 => ms_Shunt_k2 N (ms_Shunt_l1 N n1) (a0, y865, x1300, y867) else (bif (e1290.Kind == 33) then ms_Shunt_l3 N (ms_Shunt_l1 N n1) N (a0, y865, y866, y867) else (ms_Shunt_l4 N (ms_Shunt_l1 N n1) N (a0, y865, e1290, y866, y867))))) else (ms_Shunt_l5 N (ms_Shunt_l1 N n1) N (y866, y867))
def ms_Shunt (N : Nat) (a0 : LT) : Option (LN × Bool) :=
  ((ms_Shunts N a0).bind fun r9 => bif (!r9) then some true else ((ms_NestOf N a0).bind fun r10 => some (decide (r10 ≥ 0)))).bind fun y8 => bif y8 then some ([], false) else (ms_Shunt_l1 N N (a0, 0, [], []))

def m_stringslite_IndexByte (a0 : LU) (a1 : Int) : Option Int :=
  some (Go.Lib.indexByte a0 (Int.toNat a1).toUInt8)

def m_stringslite_Index (a0 : LU) : Option Int :=
  bif (([10] : LU) == a0) then some 0 else ((ix ([10] : LU) 0).bind fun b7 => (m_stringslite_IndexByte a0 ((b7).toNat : Int)).bind fun r8 => some r8)

def m_strings_Index (a0 : LU) : Option Int :=
  (m_stringslite_Index a0).bind fun r2 => some r2

def m_strings_Contains (a0 : LU) : Option Bool :=
  (m_strings_Index a0).bind fun r2 => some (decide (r2 ≥ 0))

def mi_within (a0 : Int) (a1 : Int) (a2 : Int) : Option Bool :=
  (bif (decide (a0 ≥ a1)) then some (decide (a0 ≤ a2)) else (some false)).bind fun y1 => some y1

def mi_byteAt (a0 : LU) (a1 : Int) : Option Int :=
  (mi_within a1 0 (IntKind.wrap .i64 ((a0.length : Int) - 1))).bind fun r4 => bif (!r4) then some (-1) else ((ix a0 a1).bind fun b6 => some (IntKind.wrap .i64 ((b6).toNat : Int)))

def mi_IsDigit (a0 : Int) : Option Bool :=
  (bif (decide (a0 ≥ 48)) then some (decide (a0 ≤ 57)) else (some false)).bind fun y1 => some y1

def mi_digitsEnd_l1 (N : Nat) : Nat → (LU × Int) → Option Int
  | 0, _ => none
  | n1 + 1, (a0, a1) => (mi_byteAt a0 a1).bind fun r33 => (mi_IsDigit r33).bind fun r34 => bif r34 then (mi_digitsEnd_l1 N n1) (a0, (IntKind.wrap .i64 (a1 + 1))) else (some a1)
def mi_digitsEnd (N : Nat) (a0 : LU) (a1 : Int) : Option Int :=
  mi_digitsEnd_l1 N N (a0, a1)

def mi_NumEnd_k2 (N : Nat) : Int → Option Int
  | y11 => some y11
def mi_NumEnd_k3 (N : Nat) : (LU × Int × Int) → Option Int
  | (a0, y11, y31) => (mi_digitsEnd N a0 y31).bind fun r33 => bif (decide (r33 > y31)) then some r33 else (mi_NumEnd_k2 N y11)
def mi_NumEnd_k1 (N : Nat) : (LU × Int × Int) → Option Int
  | (a0, y11, y12) => bif (y12 == 0) then some (-1) else ((mi_byteAt a0 y11).bind fun r26 => (bif (r26 == 101) then some true else (some (r26 == 69))).bind fun y27 => bif y27 then (mi_byteAt a0 (IntKind.wrap .i64 (y11 + 1))).bind fun r35 => (bif (r35 == 43) then some true else (some (r35 == 45))).bind fun y36 => bif y36 then mi_NumEnd_k3 N (a0, y11, (IntKind.wrap .i64 ((IntKind.wrap .i64 (y11 + 1)) + 1))) else (mi_NumEnd_k3 N (a0, y11, (IntKind.wrap .i64 (y11 + 1)))) else (mi_NumEnd_k2 N y11))
def mi_NumEnd (N : Nat) (a0 : LU) (a1 : Int) : Option Int :=
  (mi_within a1 0 (IntKind.wrap .i64 ((a0.length : Int) - 1))).bind fun r4 => bif (!r4) then some (-1) else ((mi_digitsEnd N a0 a1).bind fun r6 => (mi_byteAt a0 r6).bind fun r38 => bif (r38 == 46) then (mi_digitsEnd N a0 (IntKind.wrap .i64 (r6 + 1))).bind fun r40 => mi_NumEnd_k1 N (a0, r40, (IntKind.wrap .i64 ((IntKind.wrap .i64 (r6 - a1)) + (IntKind.wrap .i64 ((IntKind.wrap .i64 (r40 - r6)) - 1))))) else (mi_NumEnd_k1 N (a0, r6, (IntKind.wrap .i64 (r6 - a1)))))

def mi_quotedEnd_k2 (N : Nat) (kb1 : (LU × Int × Int) → Option Int) : (LU × Int × Int) → Option Int
  | (a0, a2, y127) => kb1 (a0, a2, (IntKind.wrap .i64 (y127 + 1)))
def mi_quotedEnd_l1 (N : Nat) : Nat → (LU × Int × Int) → Option Int
  | 0, _ => none
  | n1 + 1, (a0, a2, y91) => (bif (decide (y91 < (a0.length : Int))) then (ix a0 y91).bind fun b119 => some (((b119).toNat : Int) != 10) else (some false)).bind fun y118 => bif y118 then (ix a0 y91).bind fun b129 => bif ((IntKind.wrap .i64 ((b129).toNat : Int)) == a2) then some (IntKind.wrap .i64 (y91 + 1)) else (((ix a0 y91).bind fun b133 => bif (((b133).toNat : Int) == 92) then (mi_byteAt a0 (IntKind.wrap .i64 (y91 + 1))).bind fun r134 => some (r134 != 10) else (some false)).bind fun y132 => bif y132 then mi_quotedEnd_k2 N (mi_quotedEnd_l1 N n1) (a0, a2, (IntKind.wrap .i64 (y91 + 1))) else (mi_quotedEnd_k2 N (mi_quotedEnd_l1 N n1) (a0, a2, y91))) else (some (-1))
def mi_quotedEnd (N : Nat) (a0 : LU) (a1 : Int) (a2 : Int) : Option Int :=
  (mi_byteAt a0 a1).bind fun r4 => bif (r4 != a2) then some (-1) else (mi_quotedEnd_l1 N N (a0, a2, (IntKind.wrap .i64 (a1 + 1))))

def mi_StrEnd (N : Nat) (a0 : LU) (a1 : Int) : Option Int :=
  (mi_quotedEnd N a0 a1 34).bind fun r2 => some r2

def mi_EreEnd (N : Nat) (a0 : LU) (a1 : Int) : Option Int :=
  (mi_quotedEnd N a0 a1 47).bind fun r2 => bif (r2 == (IntKind.wrap .i64 (a1 + 2))) then some (-1) else (some r2)

def mi_IsLetter (a0 : Int) : Option Bool :=
  (bif (decide (a0 ≥ 97)) then bif (decide (a0 ≤ 122)) then some true else (bif (decide (a0 ≥ 65)) then bif (decide (a0 ≤ 90)) then some true else (some (a0 == 95)) else (some (a0 == 95))) else (bif (decide (a0 ≥ 65)) then bif (decide (a0 ≤ 90)) then some true else (some (a0 == 95)) else (some (a0 == 95)))).bind fun y1 => some y1

def mi_IsWordByte (a0 : Int) : Option Bool :=
  ((mi_IsLetter a0).bind fun r4 => bif r4 then some true else ((mi_IsDigit a0).bind fun r5 => some r5)).bind fun y3 => some y3

def mi_NameShape_l1 (N : Nat) : Nat → (LU × Int) → Option Bool
  | 0, _ => none
  | n1 + 1, (a0, y35) => bif (decide (y35 < (a0.length : Int))) then (ix a0 y35).bind fun b51 => (mi_IsWordByte (IntKind.wrap .i64 ((b51).toNat : Int))).bind fun r52 => bif (!r52) then some false else ((mi_NameShape_l1 N n1) (a0, (IntKind.wrap .i64 (y35 + 1)))) else (((mi_within (a0.length : Int) 1 12).bind fun r57 => bif r57 then (ix a0 0).bind fun b58 => (mi_IsLetter (IntKind.wrap .i64 ((b58).toNat : Int))).bind fun r59 => some r59 else (some false)).bind fun y56 => some y56)
def mi_NameShape (N : Nat) (a0 : LU) : Option Bool :=
  mi_NameShape_l1 N N (a0, 0)

def m_slices_Index_string_l1 (N : Nat) : Nat → (LLU × LU × Int) → Option Int
  | 0, _ => none
  | n1 + 1, (a0, a1, y19) => bif (decide (y19 < (a0.length : Int))) then (ix a0 y19).bind fun e28 => bif (a1 == e28) then some y19 else ((m_slices_Index_string_l1 N n1) (a0, a1, (IntKind.wrap .i64 (y19 + 1)))) else (some (-1))
def m_slices_Index_string (N : Nat) (a0 : LLU) (a1 : LU) : Option Int :=
  m_slices_Index_string_l1 N N (a0, a1, 0)

def mi_KeywordOf (N : Nat) (a0 : LU) : Option Int :=
  (m_slices_Index_string N tab_keywords a0).bind fun r2 => bif (decide (r2 < 0)) then some 0 else (some (IntKind.wrap .i64 (10 + r2)))

def m_slices_Contains_string (N : Nat) (a0 : LLU) (a1 : LU) : Option Bool :=
  (m_slices_Index_string N a0 a1).bind fun r2 => some (decide (r2 ≥ 0))

def mi_IsBuiltin (N : Nat) (a0 : LU) : Option Bool :=
  (m_slices_Contains_string N tab_builtins a0).bind fun r2 => some r2

def mi_NameOk (N : Nat) (a0 : LU) : Option Bool :=
  ((mi_NameShape N a0).bind fun r5 => bif r5 then (mi_KeywordOf N a0).bind fun r6 => bif (r6 == 0) then (mi_IsBuiltin N a0).bind fun r7 => some (!r7) else (some false) else (some false)).bind fun y4 => some y4

def mi_isKeywordKind (a0 : Int) : Option Bool :=
  (mi_within a0 10 26).bind fun r2 => some r2

def mi_isSignKind (a0 : Int) : Option Bool :=
  (mi_within a0 30 68).bind fun r2 => some r2

def mi_SpellOf (a0 : Int) : Option LU :=
  bif (a0 == 1) then some [10] else ((mi_isKeywordKind a0).bind fun r10 => bif r10 then (ix tab_keywords (IntKind.wrap .i64 (a0 - 10))).bind fun e12 => some e12 else ((mi_isSignKind a0).bind fun r14 => bif r14 then (ix tab_signs (IntKind.wrap .i64 (a0 - 30))).bind fun e16 => some e16 else (some [])))

def mi_TokenOk_k1 (N : Nat) : (SToken × Bool) → Option Bool
  | (a0, y28) => bif y28 then (mi_NameOk N a0.Text).bind fun r30 => some r30 else (bif (a0.Kind == 8) then (mi_IsBuiltin N a0.Text).bind fun r32 => some r32 else ((mi_SpellOf a0.Kind).bind fun r34 => some (a0.Text == r34)))
def mi_TokenOk (N : Nat) (a0 : SToken) : Option Bool :=
  bif (a0.Text == []) then some false else (bif (a0.Kind == 2) then ((ix a0.Text 0).bind fun b20 => bif (((b20).toNat : Int) == 35) then (m_strings_Contains a0.Text).bind fun r21 => some (!r21) else (some false)).bind fun y19 => some y19 else (bif (a0.Kind == 3) then (mi_NumEnd N a0.Text 0).bind fun r23 => some (r23 == (a0.Text.length : Int)) else (bif (a0.Kind == 4) then (mi_StrEnd N a0.Text 0).bind fun r25 => some (r25 == (a0.Text.length : Int)) else (bif (a0.Kind == 5) then (mi_EreEnd N a0.Text 0).bind fun r27 => some (r27 == (a0.Text.length : Int)) else (bif (a0.Kind == 6) then mi_TokenOk_k1 N (a0, (a0.Kind == 6)) else (mi_TokenOk_k1 N (a0, (a0.Kind == 7))))))))

def mi_EndsOperand_k1 : Bool → Option Bool
  | y2 => bif y2 then some true else (some false)
def mi_EndsOperand (a0 : Int) : Option Bool :=
  bif (a0 == 3) then mi_EndsOperand_k1 (a0 == 3) else (bif (a0 == 4) then mi_EndsOperand_k1 (a0 == 4) else (bif (a0 == 5) then mi_EndsOperand_k1 (a0 == 5) else (bif (a0 == 6) then mi_EndsOperand_k1 (a0 == 6) else (bif (a0 == 8) then mi_EndsOperand_k1 (a0 == 8) else (bif (a0 == 33) then mi_EndsOperand_k1 (a0 == 33) else (bif (a0 == 35) then mi_EndsOperand_k1 (a0 == 35) else (bif (a0 == 51) then mi_EndsOperand_k1 (a0 == 51) else (mi_EndsOperand_k1 (a0 == 52)))))))))

def mi_TokensOk_k3 (N : Nat) (kb1 : (LT × Int × Int) → Option Bool) : (LT × Int × SToken × Bool) → Option Bool
  | (a0, y398, e549, y586) => bif y586 then some false else (kb1 (a0, e549.Kind, (IntKind.wrap .i64 (y398 + 1))))
def mi_TokensOk_k2 (N : Nat) (kb1 : (LT × Int × Int) → Option Bool) : (LT × Int × Int × SToken × Int) → Option Bool
  | (a0, y397, y398, e549, y552) => (mi_TokenOk N e549).bind fun r575 => bif (!r575) then some false else ((bif (e549.Kind == 7) then some (y552 != 32) else (some false)).bind fun y576 => bif y576 then some false else ((bif (e549.Kind == 2) then bif (y552 != 1) then some (y552 != 0) else (some false) else (some false)).bind fun y577 => bif y577 then some false else ((bif (e549.Kind == 5) then (mi_EndsOperand y397).bind fun r589 => some r589 else (some false)).bind fun y588 => bif y588 then mi_TokensOk_k3 N kb1 (a0, y398, e549, y588) else ((bif (e549.Kind == 58) then (mi_EndsOperand y397).bind fun r593 => some (!r593) else (bif (e549.Kind == 41) then (mi_EndsOperand y397).bind fun r594 => some (!r594) else (some false))).bind fun y592 => mi_TokensOk_k3 N kb1 (a0, y398, e549, y592)))))
def mi_TokensOk_l1 (N : Nat) : Nat → (LT × Int × Int) → Option Bool
  | 0, _ => none
  | n1 + 1, (a0, y397, y398) => bif (decide (y398 < (a0.length : Int))) then (ix a0 y398).bind fun e549 => bif (decide ((IntKind.wrap .i64 (y398 + 1)) < (a0.length : Int))) then (ix a0 (IntKind.wrap .i64 (y398 + 1))).bind fun e596 => mi_TokensOk_k2 N (mi_TokensOk_l1 N n1) (a0, y397, y398, e549, e596.Kind) else (mi_TokensOk_k2 N (mi_TokensOk_l1 N n1) (a0, y397, y398, e549, 0)) else (some true)
def mi_TokensOk (N : Nat) (a0 : LT) : Option Bool :=
  bif (decide ((a0.length : Int) > 3000)) then some false else (mi_TokensOk_l1 N N (a0, 0, 0))

def mi_OpLevel_k4 : (Int × Bool) → Option Int
  | (a0, y8) => bif y8 then some 10 else (bif (a0 == 60) then some 12 else (some 0))
def mi_OpLevel_k3 : (Int × Bool) → Option Int
  | (a0, y7) => bif y7 then some 9 else (bif (a0 == 57) then mi_OpLevel_k4 (a0, (a0 == 57)) else (bif (a0 == 58) then mi_OpLevel_k4 (a0, (a0 == 58)) else (mi_OpLevel_k4 (a0, (a0 == 59)))))
def mi_OpLevel_k2 : (Int × Bool) → Option Int
  | (a0, y6) => bif y6 then some 7 else (bif (a0 == 99) then some 8 else (bif (a0 == 55) then mi_OpLevel_k3 (a0, (a0 == 55)) else (mi_OpLevel_k3 (a0, (a0 == 56)))))
def mi_OpLevel_k1 : (Int × Bool) → Option Int
  | (a0, y5) => bif y5 then some 6 else (bif (a0 == 63) then mi_OpLevel_k2 (a0, (a0 == 63)) else (bif (a0 == 48) then mi_OpLevel_k2 (a0, (a0 == 48)) else (bif (a0 == 47) then mi_OpLevel_k2 (a0, (a0 == 47)) else (bif (a0 == 50) then mi_OpLevel_k2 (a0, (a0 == 50)) else (bif (a0 == 62) then mi_OpLevel_k2 (a0, (a0 == 62)) else (mi_OpLevel_k2 (a0, (a0 == 49))))))))
def mi_OpLevel (a0 : Int) : Option Int :=
  bif (a0 == 44) then some 3 else (bif (a0 == 45) then some 4 else (bif (a0 == 67) then mi_OpLevel_k1 (a0, (a0 == 67)) else (mi_OpLevel_k1 (a0, (a0 == 46)))))

def mi_Shunts_k2 (N : Nat) (kb1 : (LT × Int × Bool × Int) → Option Bool) : (LT × Int × Int × Bool) → Option Bool
  | (a0, y77, y107, y108) => kb1 (a0, y107, y108, (IntKind.wrap .i64 (y77 + 1)))
def mi_Shunts_l1 (N : Nat) : Nat → (LT × Int × Bool × Int) → Option Bool
  | 0, _ => none
  | n1 + 1, (a0, y75, y76, y77) => bif (decide (y77 < (a0.length : Int))) then (ix a0 y77).bind fun e110 => (bif (e110.Kind == 32) then some (!y76) else (some false)).bind fun y111 => bif y111 then mi_Shunts_k2 N (mi_Shunts_l1 N n1) (a0, y77, (IntKind.wrap .i64 (y75 + 1)), y76) else ((bif (e110.Kind == 6) then some (!y76) else (bif (e110.Kind == 3) then some (!y76) else (some false))).bind fun y112 => bif y112 then mi_Shunts_k2 N (mi_Shunts_l1 N n1) (a0, y77, y75, true) else ((bif (e110.Kind == 33) then bif y76 then some (decide (y75 > 0)) else (some false) else (some false)).bind fun y113 => bif y113 then mi_Shunts_k2 N (mi_Shunts_l1 N n1) (a0, y77, (IntKind.wrap .i64 (y75 - 1)), y76) else (((mi_OpLevel e110.Kind).bind fun r116 => bif (r116 != 0) then bif (e110.Kind != 99) then some y76 else (some false) else (some false)).bind fun y115 => bif y115 then mi_Shunts_k2 N (mi_Shunts_l1 N n1) (a0, y77, y75, false) else (some false)))) else ((bif y76 then some (y75 == 0) else (some false)).bind fun y117 => some y117)
def mi_Shunts (N : Nat) (a0 : LT) : Option Bool :=
  (mi_TokensOk N a0).bind fun r4 => bif (!r4) then some false else (mi_Shunts_l1 N N (a0, 0, false, 0))

def mi_Top : Option SPos :=
  some (⟨1, false, false, false, false⟩ : SPos)

def mi_PosOk (a0 : SPos) : Option Bool :=
  ((mi_within a0.Level 1 15).bind fun r3 => bif r3 then bif (!a0.Dollar) then some true else (some (a0.Level == 14)) else (some false)).bind fun y2 => some y2

def mi_opens (a0 : Int) : Option Bool :=
  (bif (a0 == 32) then some true else (bif (a0 == 34) then some true else (some (a0 == 30)))).bind fun y1 => some y1

def mi_shuts (a0 : Int) : Option Bool :=
  (bif (a0 == 33) then some true else (bif (a0 == 35) then some true else (some (a0 == 31)))).bind fun y1 => some y1

def mi_NestOf_k2 (N : Nat) (kb1 : (LT × Int × Int) → Option Int) : (Int × LT × Int) → Option Int
  | (y94, a0, y136) => bif (decide (y136 > 40)) then some y94 else (kb1 (a0, y136, (IntKind.wrap .i64 (y94 + 1))))
def mi_NestOf_l1 (N : Nat) : Nat → (LT × Int × Int) → Option Int
  | 0, _ => none
  | n1 + 1, (a0, y93, y94) => bif (decide (y94 < (a0.length : Int))) then (ix a0 y94).bind fun e131 => (mi_opens e131.Kind).bind fun r138 => bif r138 then mi_NestOf_k2 N (mi_NestOf_l1 N n1) (y94, a0, (IntKind.wrap .i64 (y93 + 1))) else ((mi_shuts e131.Kind).bind fun r140 => bif r140 then mi_NestOf_k2 N (mi_NestOf_l1 N n1) (y94, a0, (if 0 > (IntKind.wrap .i64 (y93 - 1)) then 0 else (IntKind.wrap .i64 (y93 - 1)))) else (mi_NestOf_k2 N (mi_NestOf_l1 N n1) (y94, a0, y93))) else (some (-1))
def mi_NestOf (N : Nat) (a0 : LT) : Option Int :=
  mi_NestOf_l1 N N (a0, 0, 0)

def mi_placeOf (a0 : LT) (a1 : Int) : Option Int :=
  bif (decide (a1 < (a0.length : Int))) then (ix a0 a1).bind fun e4 => some e4.At else (bif ((a0.length : Int) == 0) then some 0 else ((ix a0 (IntKind.wrap .i64 ((a0.length : Int) - 1))).bind fun e7 => (ix a0 (IntKind.wrap .i64 ((a0.length : Int) - 1))).bind fun e8 => some (IntKind.wrap .i64 (e7.At + (e8.Text.length : Int)))))

def mi_checked (N : Nat) (a0 : LT) : Option SFault :=
  (mi_TokensOk N a0).bind fun r4 => bif (!r4) then some (⟨2, 0⟩ : SFault) else ((mi_NestOf N a0).bind fun r10 => bif (decide (r10 ≥ 0)) then (mi_placeOf a0 r10).bind fun r12 => some (⟨4, r12⟩ : SFault) else (some (⟨0, 0⟩ : SFault)))

def mp_kind (pa : LT) (pb : Int) (pc : Bool) (p1 : LLU) : Option Int :=
  bif (decide (pb ≥ (pa.length : Int))) then some 0 else ((ix pa pb).bind fun e2 => some e2.Kind)

def mi_BeginsOperand_k1 : Bool → Option Bool
  | y2 => bif y2 then some true else (some false)
def mi_BeginsOperand (a0 : Int) : Option Bool :=
  bif (a0 == 3) then mi_BeginsOperand_k1 (a0 == 3) else (bif (a0 == 4) then mi_BeginsOperand_k1 (a0 == 4) else (bif (a0 == 6) then mi_BeginsOperand_k1 (a0 == 6) else (bif (a0 == 7) then mi_BeginsOperand_k1 (a0 == 7) else (bif (a0 == 8) then mi_BeginsOperand_k1 (a0 == 8) else (bif (a0 == 32) then mi_BeginsOperand_k1 (a0 == 32) else (mi_BeginsOperand_k1 (a0 == 68)))))))

def mp_fail (pa : LT) (pb : Int) (pc : Bool) (p1 : LLU) : Option (SPart × Bool) :=
  some ((⟨(⟨0, 0, [], [], []⟩ : STree), false⟩ : SPart), true)

def mp_listAhead_k1 (N : Nat) (pa : LT) (pb : Int) (pc : Bool) (p1 : LLU) : Unit → Option Bool
  | _ => some false
def mp_listAhead_k3 (N : Nat) (pa : LT) (pb : Int) (pc : Bool) (p1 : LLU) (kb2 : (LT × Int × Int) → Option Bool) : (LT × Int × Int) → Option Bool
  | (l82, y106, y155) => bif (decide (y155 ≤ 0)) then mp_listAhead_k1 N pa pb pc p1 () else (kb2 (l82, y155, (IntKind.wrap .i64 (y106 + 1))))
def mp_listAhead_l2 (N : Nat) (pa : LT) (pb : Int) (pc : Bool) (p1 : LLU) : Nat → (LT × Int × Int) → Option Bool
  | 0, _ => none
  | n2 + 1, (l82, y105, y106) => bif (decide (y106 < (l82.length : Int))) then (ix l82 y106).bind fun e149 => (mi_opens e149.Kind).bind fun r157 => bif r157 then mp_listAhead_k3 N pa pb pc p1 (mp_listAhead_l2 N pa pb pc p1 n2) (l82, y106, (IntKind.wrap .i64 (y105 + 1))) else ((mi_shuts e149.Kind).bind fun r159 => bif r159 then mp_listAhead_k3 N pa pb pc p1 (mp_listAhead_l2 N pa pb pc p1 n2) (l82, y106, (IntKind.wrap .i64 (y105 - 1))) else ((bif (e149.Kind == 36) then some (y105 == 1) else (some false)).bind fun y160 => bif y160 then some true else (mp_listAhead_k3 N pa pb pc p1 (mp_listAhead_l2 N pa pb pc p1 n2) (l82, y106, y105)))) else (mp_listAhead_k1 N pa pb pc p1 ())
def mp_listAhead (N : Nat) (pa : LT) (pb : Int) (pc : Bool) (p1 : LLU) : Option Bool :=
  (cut pa pb (pa.length : Int)).bind fun l82 => mp_listAhead_l2 N pa pb pc p1 N (l82, 0, 0)

def mp_newlines_k2 (N : Nat) (pa : LT) (pc : Bool) (kb1 : (Int × LLU) → Option (Int × LLU)) : (Int × LLU) → Option (Int × LLU)
  | (y14, y37) => kb1 ((IntKind.wrap .i64 (y14 + 1)), y37)
def mp_newlines_l1 (N : Nat) (pa : LT) (pc : Bool) : Nat → (Int × LLU) → Option (Int × LLU)
  | 0, _ => none
  | n1 + 1, (y14, y15) => bif (!pc) then (mp_kind pa y14 pc y15).bind fun r39 => bif (r39 == 1) then mp_newlines_k2 N pa pc (mp_newlines_l1 N pa pc n1) (y14, y15) else (bif (r39 == 2) then (ix pa y14).bind fun e42 => (app 16 y15 [e42.Text]).bind fun x43 => mp_newlines_k2 N pa pc (mp_newlines_l1 N pa pc n1) (y14, x43) else (some (y14, y15))) else (some (y14, y15))
def mp_newlines (N : Nat) (pa : LT) (pb : Int) (pc : Bool) (p1 : LLU) : Option (Int × LLU) :=
  mp_newlines_l1 N pa pc N (pb, p1)

def mp_take (a1 : Int) (pa : LT) (pb : Int) (pc : Bool) (p1 : LLU) : Option (Bool × Int × Bool) :=
  (bif pc then some true else ((mp_kind pa pb pc p1).bind fun r6 => some (r6 != a1))).bind fun y5 => bif y5 then some (false, pb, true) else (some (true, (IntKind.wrap .i64 (pb + 1)), pc))

def mi_isStep (a0 : Int) : Option Bool :=
  (bif (a0 == 51) then some true else (some (a0 == 52))).bind fun y1 => some y1

def mp_text (pa : LT) (pb : Int) (pc : Bool) (p1 : LLU) : Option (LU × Int) :=
  (ix pa pb).bind fun e2 => some (e2.Text, (IntKind.wrap .i64 (pb + 1)))

def mi_bin (a0 : Int) (a1 : SPart) (a2 : SPart) : Option SPart :=
  some (⟨(⟨12, a0, [], [], [a1.tree, a2.tree]⟩ : STree), false⟩ : SPart)

def mp_name (pa : LT) (pb : Int) (pc : Bool) (p1 : LLU) : Option (LU × Int × Bool) :=
  (bif pc then some true else ((mp_kind pa pb pc p1).bind fun r6 => some (r6 != 6))).bind fun y5 => bif y5 then some ([], pb, true) else ((mp_text pa pb pc p1).bind fun r8 => some (r8.1, r8.2, pc))

def mi_isAssign (a0 : Int) : Option Bool :=
  (bif (a0 == 54) then some true else ((mi_within a0 38 43).bind fun r3 => some r3)).bind fun y2 => some y2

structure Rec1 where
  mp_variable : LT → Int → Bool → LLU → Option T1
  mp_primary : LT → Int → Bool → LLU → Option T1
  mp_field : LT → Int → Bool → LLU → Option T1
  mp_lvalue : LT → Int → Bool → LLU → Option T1
  mp_before : LT → Int → Bool → LLU → Option T1
  mp_incr : LT → Int → Bool → LLU → Option T1
  mp_pow : SRules → LT → Int → Bool → LLU → Option T1
  mp_unary : SRules → LT → Int → Bool → LLU → Option T1
  mp_mul : SRules → LT → Int → Bool → LLU → Option T1
  mp_add : SRules → LT → Int → Bool → LLU → Option T1
  mp_cat : SRules → LT → Int → Bool → LLU → Option T1
  mp_compare : SRules → LT → Int → Bool → LLU → Option T1
  mp_match : SRules → LT → Int → Bool → LLU → Option T1
  mp_items : SRules → LT → Int → Bool → LLU → Option (LS × Int × Bool × LLU)
  mp_list : Int → LT → Int → Bool → LLU → Option (LS × Int × Bool × LLU)
  mp_in : SRules → LT → Int → Bool → LLU → Option T1
  mp_and : SRules → LT → Int → Bool → LLU → Option T1
  mp_or : SRules → LT → Int → Bool → LLU → Option T1
  mp_cond : SRules → LT → Int → Bool → LLU → Option T1
  mp_assign : SRules → LT → Int → Bool → LLU → Option T1

def mp_variable_k1 (N : Nat) (R : Rec1) (pa : LT) : ((LU × Int) × Int × Int × Bool × LS × LLU) → Option T1
  | (r2, y7, y8, y9, y10, y11) => some ((⟨(⟨y7, 0, r2.1, [], y10⟩ : STree), true⟩ : SPart), y8, y9, y11)
def mp_variable_F (N : Nat) (R : Rec1) (pa : LT) (pb : Int) (pc : Bool) (p1 : LLU) : Option T1 :=
  (mp_text pa pb pc p1).bind fun r2 => (mp_kind pa r2.2 pc p1).bind fun r13 => bif (r13 == 34) then (R.mp_list 35 pa (IntKind.wrap .i64 (r2.2 + 1)) pc p1).bind fun r15 => mp_variable_k1 N R pa (r2, 5, r15.2.1, r15.2.2.1, r15.1, r15.2.2.2) else (mp_variable_k1 N R pa (r2, 1, r2.2, pc, [], p1))

def mp_primary_k3 (N : Nat) (R : Rec1) (pa : LT) : (Int × (LU × Int) × Int × Bool × LS × LLU) → Option T1
  | (y53, r49, y58, y59, y60, y61) => some ((⟨(⟨y53, 0, r49.1, [], y60⟩ : STree), false⟩ : SPart), y58, y59, y61)
def mp_primary_k2 (N : Nat) (R : Rec1) (pa : LT) : ((LU × Int) × Bool × LLU × Int) → Option T1
  | (r49, pc, p1, y53) => (mp_take 32 pa r49.2 pc p1).bind fun r63 => bif r63.1 then (R.mp_list 33 pa r63.2.1 r63.2.2 p1).bind fun r65 => mp_primary_k3 N R pa (y53, r49, r65.2.1, r65.2.2.1, r65.1, r65.2.2.2) else (mp_primary_k3 N R pa (y53, r49, r63.2.1, r63.2.2, [], p1))
def mp_primary_k1 (N : Nat) (R : Rec1) (pa : LT) : (Int × Int × Bool × LLU × Bool) → Option T1
  | (r38, pb, pc, p1, y47) => bif y47 then (mp_text pa pb pc p1).bind fun r49 => bif (r38 == 8) then (bif (r49.1 == [108, 101, 110, 103, 116, 104]) then (mp_kind pa r49.2 pc p1).bind fun r68 => some (r68 != 32) else (some false)).bind fun y67 => bif y67 then some ((⟨(⟨8, 0, r49.1, [], []⟩ : STree), false⟩ : SPart), r49.2, pc, p1) else (mp_primary_k2 N R pa (r49, pc, p1, 8)) else (mp_primary_k2 N R pa (r49, pc, p1, 7)) else (bif (r38 == 32) then (R.mp_assign (⟨false, false⟩ : SRules) pa (IntKind.wrap .i64 (pb + 1)) pc p1).bind fun r70 => (mp_take 33 pa r70.2.1 r70.2.2.1 r70.2.2.2).bind fun r72 => some ((⟨r70.1.tree, false⟩ : SPart), r72.2.1, r72.2.2, r70.2.2.2) else ((mp_fail pa pb pc p1).bind fun r74 => some (r74.1, pb, r74.2, p1)))
def mp_primary_F (N : Nat) (R : Rec1) (pa : LT) (pb : Int) (pc : Bool) (p1 : LLU) : Option T1 :=
  bif pc then some ((⟨(⟨0, 0, [], [], []⟩ : STree), false⟩ : SPart), pb, pc, p1) else ((mp_kind pa pb pc p1).bind fun r38 => bif (r38 == 3) then (mp_text pa pb pc p1).bind fun r40 => some ((⟨(⟨2, 0, r40.1, [], []⟩ : STree), false⟩ : SPart), r40.2, pc, p1) else (bif (r38 == 4) then (mp_text pa pb pc p1).bind fun r42 => some ((⟨(⟨3, 0, r42.1, [], []⟩ : STree), false⟩ : SPart), r42.2, pc, p1) else (bif (r38 == 5) then (mp_text pa pb pc p1).bind fun r44 => some ((⟨(⟨4, 0, r44.1, [], []⟩ : STree), false⟩ : SPart), r44.2, pc, p1) else (bif (r38 == 6) then (R.mp_variable pa pb pc p1).bind fun r46 => some (r46.1, r46.2.1, r46.2.2.1, r46.2.2.2) else (bif (r38 == 7) then mp_primary_k1 N R pa (r38, pb, pc, p1, (r38 == 7)) else (mp_primary_k1 N R pa (r38, pb, pc, p1, (r38 == 8))))))))

def mp_field_k1 (N : Nat) (R : Rec1) (pa : LT) : (Int × Int × LU × LU × LS × Bool × Int × Bool × LLU) → Option T1
  | (y19, y20, y21, y22, y23, y24, y25, y26, y27) => some ((⟨(⟨6, 0, [], [], [(⟨y19, y20, y21, y22, y23⟩ : STree)]⟩ : STree), true⟩ : SPart), y25, y26, y27)
def mp_field_F (N : Nat) (R : Rec1) (pa : LT) (pb : Int) (pc : Bool) (p1 : LLU) : Option T1 :=
  (bif pc then some true else ((mp_kind pa pb pc p1).bind fun r8 => some (r8 != 68))).bind fun y7 => bif y7 then (R.mp_primary pa pb pc p1).bind fun r10 => some (r10.1, r10.2.1, r10.2.2.1, r10.2.2.2) else ((mp_kind pa (IntKind.wrap .i64 (pb + 1)) pc p1).bind fun r30 => (mi_isStep r30).bind fun r31 => bif r31 then (R.mp_before pa (IntKind.wrap .i64 (pb + 1)) pc p1).bind fun r33 => mp_field_k1 N R pa (r33.1.tree.kind, r33.1.tree.op, r33.1.tree.text, r33.1.tree.other, r33.1.tree.kids, r33.1.target, r33.2.1, r33.2.2.1, r33.2.2.2) else ((R.mp_field pa (IntKind.wrap .i64 (pb + 1)) pc p1).bind fun r35 => mp_field_k1 N R pa (r35.1.tree.kind, r35.1.tree.op, r35.1.tree.text, r35.1.tree.other, r35.1.tree.kids, r35.1.target, r35.2.1, r35.2.2.1, r35.2.2.2)))

def mp_lvalue_k1 (N : Nat) (R : Rec1) (pa : LT) : (Int × Bool × LLU) → Option T1
  | (pb, pc, p1) => (mp_fail pa pb pc p1).bind fun r10 => some (r10.1, pb, r10.2, p1)
def mp_lvalue_F (N : Nat) (R : Rec1) (pa : LT) (pb : Int) (pc : Bool) (p1 : LLU) : Option T1 :=
  bif pc then mp_lvalue_k1 N R pa (pb, pc, p1) else ((mp_kind pa pb pc p1).bind fun r12 => bif (r12 == 68) then (R.mp_field pa pb pc p1).bind fun r14 => some (r14.1, r14.2.1, r14.2.2.1, r14.2.2.2) else ((mp_kind pa pb pc p1).bind fun r16 => bif (r16 == 6) then (R.mp_variable pa pb pc p1).bind fun r18 => some (r18.1, r18.2.1, r18.2.2.1, r18.2.2.2) else (mp_lvalue_k1 N R pa (pb, pc, p1))))

def mp_before_F (N : Nat) (R : Rec1) (pa : LT) (pb : Int) (pc : Bool) (p1 : LLU) : Option T1 :=
  (mp_kind pa pb pc p1).bind fun r2 => (R.mp_lvalue pa (IntKind.wrap .i64 (pb + 1)) pc p1).bind fun r4 => some ((⟨(⟨9, r2, [], [], [r4.1.tree]⟩ : STree), false⟩ : SPart), r4.2.1, r4.2.2.1, r4.2.2.2)

def mp_incr_F (N : Nat) (R : Rec1) (pa : LT) (pb : Int) (pc : Bool) (p1 : LLU) : Option T1 :=
  (bif (!pc) then (mp_kind pa pb pc p1).bind fun r11 => (mi_isStep r11).bind fun r12 => some r12 else (some false)).bind fun y10 => bif y10 then (R.mp_before pa pb pc p1).bind fun r14 => some (r14.1, r14.2.1, r14.2.2.1, r14.2.2.2) else ((R.mp_field pa pb pc p1).bind fun r16 => (bif r16.2.2.1 then some true else (bif (!r16.1.target) then some true else ((mp_kind pa r16.2.1 r16.2.2.1 r16.2.2.2).bind fun r25 => (mi_isStep r25).bind fun r26 => some (!r26)))).bind fun y24 => bif y24 then some (r16.1, r16.2.1, r16.2.2.1, r16.2.2.2) else ((mp_kind pa r16.2.1 r16.2.2.1 r16.2.2.2).bind fun r28 => some ((⟨(⟨10, r28, [], [], [r16.1.tree]⟩ : STree), false⟩ : SPart), (IntKind.wrap .i64 (r16.2.1 + 1)), r16.2.2.1, r16.2.2.2)))

def mp_pow_F (N : Nat) (R : Rec1) (a1 : SRules) (pa : LT) (pb : Int) (pc : Bool) (p1 : LLU) : Option T1 :=
  (R.mp_incr pa pb pc p1).bind fun r2 => (bif r2.2.2.1 then some true else ((mp_kind pa r2.2.1 r2.2.2.1 r2.2.2.2).bind fun r8 => some (r8 != 60))).bind fun y7 => bif y7 then some (r2.1, r2.2.1, r2.2.2.1, r2.2.2.2) else ((R.mp_unary a1 pa (IntKind.wrap .i64 (r2.2.1 + 1)) r2.2.2.1 r2.2.2.2).bind fun r11 => (mi_bin 60 r2.1 r11.1).bind fun r12 => some (r12, r11.2.1, r11.2.2.1, r11.2.2.2))

def mp_unary_F (N : Nat) (R : Rec1) (a1 : SRules) (pa : LT) (pb : Int) (pc : Bool) (p1 : LLU) : Option T1 :=
  (mp_kind pa pb pc p1).bind fun r2 => (bif pc then some true else (bif (r2 != 55) then bif (r2 != 56) then some (r2 != 61) else (some false) else (some false))).bind fun y6 => bif y6 then (R.mp_pow a1 pa pb pc p1).bind fun r8 => some (r8.1, r8.2.1, r8.2.2.1, r8.2.2.2) else ((R.mp_unary a1 pa (IntKind.wrap .i64 (pb + 1)) pc p1).bind fun r10 => some ((⟨(⟨11, r2, [], [], [r10.1.tree]⟩ : STree), false⟩ : SPart), r10.2.1, r10.2.2.1, r10.2.2.2))

def mp_mul_l1 (N : Nat) (R : Rec1) (pa : LT) : Nat → (SRules × Int × Bool × Int × Int × LU × LU × LS × Bool × LLU) → Option T1
  | 0, _ => none
  | n1 + 1, (a1, y85, y86, y87, y88, y89, y90, y91, y92, y93) => (bif (!y86) then (mp_kind pa y85 y86 y93).bind fun r127 => (mi_OpLevel r127).bind fun r128 => some (r128 == 10) else (some false)).bind fun y126 => bif y126 then (mp_kind pa y85 y86 y93).bind fun r130 => (R.mp_unary a1 pa (IntKind.wrap .i64 (y85 + 1)) y86 y93).bind fun r133 => (mi_bin r130 (⟨(⟨y87, y88, y89, y90, y91⟩ : STree), y92⟩ : SPart) r133.1).bind fun r134 => (mp_mul_l1 N R pa n1) (a1, r133.2.1, r133.2.2.1, r134.tree.kind, r134.tree.op, r134.tree.text, r134.tree.other, r134.tree.kids, r134.target, r133.2.2.2) else (some ((⟨(⟨y87, y88, y89, y90, y91⟩ : STree), y92⟩ : SPart), y85, y86, y93))
def mp_mul_F (N : Nat) (R : Rec1) (a1 : SRules) (pa : LT) (pb : Int) (pc : Bool) (p1 : LLU) : Option T1 :=
  (R.mp_unary a1 pa pb pc p1).bind fun r2 => mp_mul_l1 N R pa N (a1, r2.2.1, r2.2.2.1, r2.1.tree.kind, r2.1.tree.op, r2.1.tree.text, r2.1.tree.other, r2.1.tree.kids, r2.1.target, r2.2.2.2)

def mp_add_l1 (N : Nat) (R : Rec1) (pa : LT) : Nat → (SRules × Int × Bool × Int × Int × LU × LU × LS × Bool × LLU) → Option T1
  | 0, _ => none
  | n1 + 1, (a1, y85, y86, y87, y88, y89, y90, y91, y92, y93) => (bif (!y86) then (mp_kind pa y85 y86 y93).bind fun r127 => (mi_OpLevel r127).bind fun r128 => some (r128 == 9) else (some false)).bind fun y126 => bif y126 then (mp_kind pa y85 y86 y93).bind fun r130 => (R.mp_mul a1 pa (IntKind.wrap .i64 (y85 + 1)) y86 y93).bind fun r133 => (mi_bin r130 (⟨(⟨y87, y88, y89, y90, y91⟩ : STree), y92⟩ : SPart) r133.1).bind fun r134 => (mp_add_l1 N R pa n1) (a1, r133.2.1, r133.2.2.1, r134.tree.kind, r134.tree.op, r134.tree.text, r134.tree.other, r134.tree.kids, r134.target, r133.2.2.2) else (some ((⟨(⟨y87, y88, y89, y90, y91⟩ : STree), y92⟩ : SPart), y85, y86, y93))
def mp_add_F (N : Nat) (R : Rec1) (a1 : SRules) (pa : LT) (pb : Int) (pc : Bool) (p1 : LLU) : Option T1 :=
  (R.mp_mul a1 pa pb pc p1).bind fun r2 => mp_add_l1 N R pa N (a1, r2.2.1, r2.2.2.1, r2.1.tree.kind, r2.1.tree.op, r2.1.tree.text, r2.1.tree.other, r2.1.tree.kids, r2.1.target, r2.2.2.2)

def mp_cat_l1 (N : Nat) (R : Rec1) (pa : LT) : Nat → (SRules × Int × Bool × Int × Int × LU × LU × LS × Bool × LLU) → Option T1
  | 0, _ => none
  | n1 + 1, (a1, y77, y78, y79, y80, y81, y82, y83, y84, y85) => (bif (!y78) then (mp_kind pa y77 y78 y85).bind fun r117 => (mi_BeginsOperand r117).bind fun r118 => some r118 else (some false)).bind fun y116 => bif y116 then (R.mp_add a1 pa y77 y78 y85).bind fun r121 => (mi_bin 99 (⟨(⟨y79, y80, y81, y82, y83⟩ : STree), y84⟩ : SPart) r121.1).bind fun r122 => (mp_cat_l1 N R pa n1) (a1, r121.2.1, r121.2.2.1, r122.tree.kind, r122.tree.op, r122.tree.text, r122.tree.other, r122.tree.kids, r122.target, r121.2.2.2) else (some ((⟨(⟨y79, y80, y81, y82, y83⟩ : STree), y84⟩ : SPart), y77, y78, y85))
def mp_cat_F (N : Nat) (R : Rec1) (a1 : SRules) (pa : LT) (pb : Int) (pc : Bool) (p1 : LLU) : Option T1 :=
  (R.mp_add a1 pa pb pc p1).bind fun r2 => mp_cat_l1 N R pa N (a1, r2.2.1, r2.2.2.1, r2.1.tree.kind, r2.1.tree.op, r2.1.tree.text, r2.1.tree.other, r2.1.tree.kids, r2.1.target, r2.2.2.2)

def mp_compare_F (N : Nat) (R : Rec1) (a1 : SRules) (pa : LT) (pb : Int) (pc : Bool) (p1 : LLU) : Option T1 :=
  (R.mp_cat a1 pa pb pc p1).bind fun r2 => (bif r2.2.2.1 then some true else ((mp_kind pa r2.2.1 r2.2.2.1 r2.2.2.2).bind fun r14 => (mi_OpLevel r14).bind fun r15 => bif (r15 != 7) then some true else (bif a1.noGt then (mp_kind pa r2.2.1 r2.2.2.1 r2.2.2.2).bind fun r16 => some (r16 == 62) else (some false)))).bind fun y13 => bif y13 then some (r2.1, r2.2.1, r2.2.2.1, r2.2.2.2) else ((mp_kind pa r2.2.1 r2.2.2.1 r2.2.2.2).bind fun r18 => (R.mp_cat a1 pa (IntKind.wrap .i64 (r2.2.1 + 1)) r2.2.2.1 r2.2.2.2).bind fun r21 => (mi_bin r18 r2.1 r21.1).bind fun r22 => some (r22, r21.2.1, r21.2.2.1, r21.2.2.2))

def mp_match_F (N : Nat) (R : Rec1) (a1 : SRules) (pa : LT) (pb : Int) (pc : Bool) (p1 : LLU) : Option T1 :=
  (R.mp_compare a1 pa pb pc p1).bind fun r2 => (bif r2.2.2.1 then some true else ((mp_kind pa r2.2.1 r2.2.2.1 r2.2.2.2).bind fun r11 => bif (r11 != 67) then (mp_kind pa r2.2.1 r2.2.2.1 r2.2.2.2).bind fun r12 => some (r12 != 46) else (some false))).bind fun y10 => bif y10 then some (r2.1, r2.2.1, r2.2.2.1, r2.2.2.2) else ((mp_kind pa r2.2.1 r2.2.2.1 r2.2.2.2).bind fun r14 => (R.mp_compare a1 pa (IntKind.wrap .i64 (r2.2.1 + 1)) r2.2.2.1 r2.2.2.2).bind fun r17 => (mi_bin r14 r2.1 r17.1).bind fun r18 => some (r18, r17.2.1, r17.2.2.1, r17.2.2.2))

def mp_items_k1 (N : Nat) (R : Rec1) (pa : LT) : (LS × Int × Bool × LLU) → Option (LS × Int × Bool × LLU)
  | (y45, y46, y47, y48) => some (y45, y46, y47, y48)
def mp_items_l2 (N : Nat) (R : Rec1) (pa : LT) : Nat → (SRules × Int × Bool × LS × LLU) → Option (LS × Int × Bool × LLU)
  | 0, _ => none
  | n2 + 1, (a1, y61, y62, y63, y64) => bif (!y62) then (R.mp_assign a1 pa y61 y62 y64).bind fun r83 => (app 72 y63 [r83.1.tree]).bind fun x84 => (bif r83.2.2.1 then some true else ((mp_kind pa r83.2.1 r83.2.2.1 r83.2.2.2).bind fun r90 => some (r90 != 36))).bind fun y89 => bif y89 then mp_items_k1 N R pa (x84, r83.2.1, r83.2.2.1, r83.2.2.2) else (bif ((x84.length : Int) == 6) then mp_items_k1 N R pa (x84, r83.2.1, true, r83.2.2.2) else ((mp_newlines N pa (IntKind.wrap .i64 (r83.2.1 + 1)) r83.2.2.1 r83.2.2.2).bind fun r92 => (mp_items_l2 N R pa n2) (a1, r92.1, r83.2.2.1, x84, r92.2))) else (mp_items_k1 N R pa (y63, y61, y62, y64))
def mp_items_F (N : Nat) (R : Rec1) (a1 : SRules) (pa : LT) (pb : Int) (pc : Bool) (p1 : LLU) : Option (LS × Int × Bool × LLU) :=
  mp_items_l2 N R pa N (a1, pb, pc, [], p1)

def mp_list_F (N : Nat) (R : Rec1) (a1 : Int) (pa : LT) (pb : Int) (pc : Bool) (p1 : LLU) : Option (LS × Int × Bool × LLU) :=
  ((mp_kind pa pb pc p1).bind fun r6 => bif (r6 == a1) then some (a1 == 33) else (some false)).bind fun y5 => bif y5 then some ([], (IntKind.wrap .i64 (pb + 1)), pc, p1) else ((R.mp_items (⟨false, false⟩ : SRules) pa pb pc p1).bind fun r8 => (mp_take a1 pa r8.2.1 r8.2.2.1 r8.2.2.2).bind fun r10 => some (r8.1, r10.2.1, r10.2.2, r8.2.2.2))

def mp_in_l1 (N : Nat) (R : Rec1) (pa : LT) : Nat → (SRules × (LS × Int × Bool × LLU) × Int × Bool × LU × LS) → Option T1
  | 0, _ => none
  | n1 + 1, (a1, r21, y91, y92, y93, y94) => (bif (!y92) then (mp_kind pa y91 y92 r21.2.2.2).bind fun r112 => bif (r112 == 24) then some (!a1.noIn) else (some false) else (some false)).bind fun y111 => bif y111 then (mp_name pa (IntKind.wrap .i64 (y91 + 1)) y92 r21.2.2.2).bind fun r114 => (mp_in_l1 N R pa n1) (a1, r21, r114.2.1, r114.2.2, r114.1, [(⟨13, 0, y93, [], y94⟩ : STree)]) else (some ((⟨(⟨13, 0, y93, [], y94⟩ : STree), false⟩ : SPart), y91, y92, r21.2.2.2))
def mp_in_l2 (N : Nat) (R : Rec1) (pa : LT) : Nat → (SRules × T1 × Int × Bool × LU × LS) → Option T1
  | 0, _ => none
  | n2 + 1, (a1, r116, y173, y174, y175, y176) => (bif (!y174) then (mp_kind pa y173 y174 r116.2.2.2).bind fun r194 => bif (r194 == 24) then some (!a1.noIn) else (some false) else (some false)).bind fun y193 => bif y193 then (mp_name pa (IntKind.wrap .i64 (y173 + 1)) y174 r116.2.2.2).bind fun r196 => (mp_in_l2 N R pa n2) (a1, r116, r196.2.1, r196.2.2, r196.1, [(⟨13, 0, y175, [], y176⟩ : STree)]) else (some ((⟨(⟨13, 0, y175, [], y176⟩ : STree), false⟩ : SPart), y173, y174, r116.2.2.2))
def mp_in_F (N : Nat) (R : Rec1) (a1 : SRules) (pa : LT) (pb : Int) (pc : Bool) (p1 : LLU) : Option T1 :=
  (bif (!pc) then (mp_kind pa pb pc p1).bind fun r18 => bif (r18 == 32) then bif (!a1.noIn) then (mp_listAhead N pa pb pc p1).bind fun r19 => some r19 else (some false) else (some false) else (some false)).bind fun y17 => bif y17 then (R.mp_list 33 pa (IntKind.wrap .i64 (pb + 1)) pc p1).bind fun r21 => (bif (!r21.2.2.1) then (mp_kind pa r21.2.1 r21.2.2.1 r21.2.2.2).bind fun r24 => some (r24 != 24) else (some false)).bind fun y23 => bif y23 then (mp_fail pa r21.2.1 r21.2.2.1 r21.2.2.2).bind fun r26 => some (r26.1, r21.2.1, r26.2, r21.2.2.2) else ((bif (!r21.2.2.1) then (mp_kind pa r21.2.1 r21.2.2.1 r21.2.2.2).bind fun r76 => bif (r76 == 24) then some (!a1.noIn) else (some false) else (some false)).bind fun y75 => bif y75 then (neN r21.1).bind fun b80 => (mp_name pa (IntKind.wrap .i64 (r21.2.1 + 1)) r21.2.2.1 r21.2.2.2).bind fun r82 => mp_in_l1 N R pa N (a1, r21, r82.2.1, r82.2.2, r82.1, r21.1) else (some ((⟨(⟨0, 0, [], [], []⟩ : STree), false⟩ : SPart), r21.2.1, r21.2.2.1, r21.2.2.2))) else ((R.mp_match a1 pa pb pc p1).bind fun r116 => (bif (!r116.2.2.1) then (mp_kind pa r116.2.1 r116.2.2.1 r116.2.2.2).bind fun r162 => bif (r162 == 24) then some (!a1.noIn) else (some false) else (some false)).bind fun y161 => bif y161 then (mp_name pa (IntKind.wrap .i64 (r116.2.1 + 1)) r116.2.2.1 r116.2.2.2).bind fun r164 => mp_in_l2 N R pa N (a1, r116, r164.2.1, r164.2.2, r164.1, [r116.1.tree]) else (some (r116.1, r116.2.1, r116.2.2.1, r116.2.2.2)))

def mp_and_l1 (N : Nat) (R : Rec1) (pa : LT) : Nat → (SRules × Int × Bool × Int × Int × LU × LU × LS × Bool × LLU) → Option T1
  | 0, _ => none
  | n1 + 1, (a1, y69, y70, y71, y72, y73, y74, y75, y76, y77) => (bif (!y70) then (mp_kind pa y69 y70 y77).bind fun r104 => some (r104 == 45) else (some false)).bind fun y103 => bif y103 then (mp_newlines N pa (IntKind.wrap .i64 (y69 + 1)) y70 y77).bind fun r106 => (R.mp_in a1 pa r106.1 y70 r106.2).bind fun r109 => (mi_bin 45 (⟨(⟨y71, y72, y73, y74, y75⟩ : STree), y76⟩ : SPart) r109.1).bind fun r110 => (mp_and_l1 N R pa n1) (a1, r109.2.1, r109.2.2.1, r110.tree.kind, r110.tree.op, r110.tree.text, r110.tree.other, r110.tree.kids, r110.target, r109.2.2.2) else (some ((⟨(⟨y71, y72, y73, y74, y75⟩ : STree), y76⟩ : SPart), y69, y70, y77))
def mp_and_F (N : Nat) (R : Rec1) (a1 : SRules) (pa : LT) (pb : Int) (pc : Bool) (p1 : LLU) : Option T1 :=
  (R.mp_in a1 pa pb pc p1).bind fun r2 => mp_and_l1 N R pa N (a1, r2.2.1, r2.2.2.1, r2.1.tree.kind, r2.1.tree.op, r2.1.tree.text, r2.1.tree.other, r2.1.tree.kids, r2.1.target, r2.2.2.2)

def mp_or_l1 (N : Nat) (R : Rec1) (pa : LT) : Nat → (SRules × Int × Bool × Int × Int × LU × LU × LS × Bool × LLU) → Option T1
  | 0, _ => none
  | n1 + 1, (a1, y69, y70, y71, y72, y73, y74, y75, y76, y77) => (bif (!y70) then (mp_kind pa y69 y70 y77).bind fun r104 => some (r104 == 44) else (some false)).bind fun y103 => bif y103 then (mp_newlines N pa (IntKind.wrap .i64 (y69 + 1)) y70 y77).bind fun r106 => (R.mp_and a1 pa r106.1 y70 r106.2).bind fun r109 => (mi_bin 44 (⟨(⟨y71, y72, y73, y74, y75⟩ : STree), y76⟩ : SPart) r109.1).bind fun r110 => (mp_or_l1 N R pa n1) (a1, r109.2.1, r109.2.2.1, r110.tree.kind, r110.tree.op, r110.tree.text, r110.tree.other, r110.tree.kids, r110.target, r109.2.2.2) else (some ((⟨(⟨y71, y72, y73, y74, y75⟩ : STree), y76⟩ : SPart), y69, y70, y77))
def mp_or_F (N : Nat) (R : Rec1) (a1 : SRules) (pa : LT) (pb : Int) (pc : Bool) (p1 : LLU) : Option T1 :=
  (R.mp_and a1 pa pb pc p1).bind fun r2 => mp_or_l1 N R pa N (a1, r2.2.1, r2.2.2.1, r2.1.tree.kind, r2.1.tree.op, r2.1.tree.text, r2.1.tree.other, r2.1.tree.kids, r2.1.target, r2.2.2.2)

def mp_cond_F (N : Nat) (R : Rec1) (a1 : SRules) (pa : LT) (pb : Int) (pc : Bool) (p1 : LLU) : Option T1 :=
  (R.mp_or a1 pa pb pc p1).bind fun r2 => (bif r2.2.2.1 then some true else ((mp_kind pa r2.2.1 r2.2.2.1 r2.2.2.2).bind fun r8 => some (r8 != 65))).bind fun y7 => bif y7 then some (r2.1, r2.2.1, r2.2.2.1, r2.2.2.2) else ((R.mp_cond a1 pa (IntKind.wrap .i64 (r2.2.1 + 1)) r2.2.2.1 r2.2.2.2).bind fun r10 => (mp_take 66 pa r10.2.1 r10.2.2.1 r10.2.2.2).bind fun r12 => bif r12.2.2 then some ((⟨(⟨0, 0, [], [], []⟩ : STree), false⟩ : SPart), r12.2.1, r12.2.2, r10.2.2.2) else ((R.mp_cond a1 pa r12.2.1 r12.2.2 r10.2.2.2).bind fun r14 => some ((⟨(⟨14, 0, [], [], [r2.1.tree, r10.1.tree, r14.1.tree]⟩ : STree), false⟩ : SPart), r14.2.1, r14.2.2.1, r14.2.2.2)))

def mp_assign_F (N : Nat) (R : Rec1) (a1 : SRules) (pa : LT) (pb : Int) (pc : Bool) (p1 : LLU) : Option T1 :=
  (R.mp_cond a1 pa pb pc p1).bind fun r2 => (bif r2.2.2.1 then some true else (bif (!r2.1.target) then some true else ((mp_kind pa r2.2.1 r2.2.2.1 r2.2.2.2).bind fun r11 => (mi_isAssign r11).bind fun r12 => some (!r12)))).bind fun y10 => bif y10 then some (r2.1, r2.2.1, r2.2.2.1, r2.2.2.2) else ((mp_kind pa r2.2.1 r2.2.2.1 r2.2.2.2).bind fun r14 => (R.mp_assign a1 pa (IntKind.wrap .i64 (r2.2.1 + 1)) r2.2.2.1 r2.2.2.2).bind fun r16 => some ((⟨(⟨15, r14, [], [], [r2.1.tree, r16.1.tree]⟩ : STree), false⟩ : SPart), r16.2.1, r16.2.2.1, r16.2.2.2))
def scc1 : Nat → Rec1
  | 0 => ⟨fun _ _ _ _ => none, fun _ _ _ _ => none, fun _ _ _ _ => none, fun _ _ _ _ => none, fun _ _ _ _ => none, fun _ _ _ _ => none, fun _ _ _ _ _ => none, fun _ _ _ _ _ => none, fun _ _ _ _ _ => none, fun _ _ _ _ _ => none, fun _ _ _ _ _ => none, fun _ _ _ _ _ => none, fun _ _ _ _ _ => none, fun _ _ _ _ _ => none, fun _ _ _ _ _ => none, fun _ _ _ _ _ => none, fun _ _ _ _ _ => none, fun _ _ _ _ _ => none, fun _ _ _ _ _ => none, fun _ _ _ _ _ => none⟩
  | N + 1 => ⟨fun pa pb pc p1 => mp_variable_F N (scc1 N) pa pb pc p1, fun pa pb pc p1 => mp_primary_F N (scc1 N) pa pb pc p1, fun pa pb pc p1 => mp_field_F N (scc1 N) pa pb pc p1, fun pa pb pc p1 => mp_lvalue_F N (scc1 N) pa pb pc p1, fun pa pb pc p1 => mp_before_F N (scc1 N) pa pb pc p1, fun pa pb pc p1 => mp_incr_F N (scc1 N) pa pb pc p1, fun a1 pa pb pc p1 => mp_pow_F N (scc1 N) a1 pa pb pc p1, fun a1 pa pb pc p1 => mp_unary_F N (scc1 N) a1 pa pb pc p1, fun a1 pa pb pc p1 => mp_mul_F N (scc1 N) a1 pa pb pc p1, fun a1 pa pb pc p1 => mp_add_F N (scc1 N) a1 pa pb pc p1, fun a1 pa pb pc p1 => mp_cat_F N (scc1 N) a1 pa pb pc p1, fun a1 pa pb pc p1 => mp_compare_F N (scc1 N) a1 pa pb pc p1, fun a1 pa pb pc p1 => mp_match_F N (scc1 N) a1 pa pb pc p1, fun a1 pa pb pc p1 => mp_items_F N (scc1 N) a1 pa pb pc p1, fun a1 pa pb pc p1 => mp_list_F N (scc1 N) a1 pa pb pc p1, fun a1 pa pb pc p1 => mp_in_F N (scc1 N) a1 pa pb pc p1, fun a1 pa pb pc p1 => mp_and_F N (scc1 N) a1 pa pb pc p1, fun a1 pa pb pc p1 => mp_or_F N (scc1 N) a1 pa pb pc p1, fun a1 pa pb pc p1 => mp_cond_F N (scc1 N) a1 pa pb pc p1, fun a1 pa pb pc p1 => mp_assign_F N (scc1 N) a1 pa pb pc p1⟩
def mp_variable (N : Nat) (pa : LT) (pb : Int) (pc : Bool) (p1 : LLU) : Option T1 := (scc1 N).mp_variable pa pb pc p1
def mp_primary (N : Nat) (pa : LT) (pb : Int) (pc : Bool) (p1 : LLU) : Option T1 := (scc1 N).mp_primary pa pb pc p1
def mp_field (N : Nat) (pa : LT) (pb : Int) (pc : Bool) (p1 : LLU) : Option T1 := (scc1 N).mp_field pa pb pc p1
def mp_lvalue (N : Nat) (pa : LT) (pb : Int) (pc : Bool) (p1 : LLU) : Option T1 := (scc1 N).mp_lvalue pa pb pc p1
def mp_before (N : Nat) (pa : LT) (pb : Int) (pc : Bool) (p1 : LLU) : Option T1 := (scc1 N).mp_before pa pb pc p1
def mp_incr (N : Nat) (pa : LT) (pb : Int) (pc : Bool) (p1 : LLU) : Option T1 := (scc1 N).mp_incr pa pb pc p1
def mp_pow (N : Nat) (a1 : SRules) (pa : LT) (pb : Int) (pc : Bool) (p1 : LLU) : Option T1 := (scc1 N).mp_pow a1 pa pb pc p1
def mp_unary (N : Nat) (a1 : SRules) (pa : LT) (pb : Int) (pc : Bool) (p1 : LLU) : Option T1 := (scc1 N).mp_unary a1 pa pb pc p1
def mp_mul (N : Nat) (a1 : SRules) (pa : LT) (pb : Int) (pc : Bool) (p1 : LLU) : Option T1 := (scc1 N).mp_mul a1 pa pb pc p1
def mp_add (N : Nat) (a1 : SRules) (pa : LT) (pb : Int) (pc : Bool) (p1 : LLU) : Option T1 := (scc1 N).mp_add a1 pa pb pc p1
def mp_cat (N : Nat) (a1 : SRules) (pa : LT) (pb : Int) (pc : Bool) (p1 : LLU) : Option T1 := (scc1 N).mp_cat a1 pa pb pc p1
def mp_compare (N : Nat) (a1 : SRules) (pa : LT) (pb : Int) (pc : Bool) (p1 : LLU) : Option T1 := (scc1 N).mp_compare a1 pa pb pc p1
def mp_match (N : Nat) (a1 : SRules) (pa : LT) (pb : Int) (pc : Bool) (p1 : LLU) : Option T1 := (scc1 N).mp_match a1 pa pb pc p1
def mp_items (N : Nat) (a1 : SRules) (pa : LT) (pb : Int) (pc : Bool) (p1 : LLU) : Option (LS × Int × Bool × LLU) := (scc1 N).mp_items a1 pa pb pc p1
def mp_list (N : Nat) (a1 : Int) (pa : LT) (pb : Int) (pc : Bool) (p1 : LLU) : Option (LS × Int × Bool × LLU) := (scc1 N).mp_list a1 pa pb pc p1
def mp_in (N : Nat) (a1 : SRules) (pa : LT) (pb : Int) (pc : Bool) (p1 : LLU) : Option T1 := (scc1 N).mp_in a1 pa pb pc p1
def mp_and (N : Nat) (a1 : SRules) (pa : LT) (pb : Int) (pc : Bool) (p1 : LLU) : Option T1 := (scc1 N).mp_and a1 pa pb pc p1
def mp_or (N : Nat) (a1 : SRules) (pa : LT) (pb : Int) (pc : Bool) (p1 : LLU) : Option T1 := (scc1 N).mp_or a1 pa pb pc p1
def mp_cond (N : Nat) (a1 : SRules) (pa : LT) (pb : Int) (pc : Bool) (p1 : LLU) : Option T1 := (scc1 N).mp_cond a1 pa pb pc p1
def mp_assign (N : Nat) (a1 : SRules) (pa : LT) (pb : Int) (pc : Bool) (p1 : LLU) : Option T1 := (scc1 N).mp_assign a1 pa pb pc p1

def mp_level (N : Nat) (a1 : SPos) (pa : LT) (pb : Int) (pc : Bool) (p1 : LLU) : Option T1 :=
  (bif a1.NoSign then (mp_kind pa pb pc p1).bind fun r11 => (mi_BeginsOperand r11).bind fun r12 => some (!r12) else (some false)).bind fun y10 => bif y10 then (mp_fail pa pb pc p1).bind fun r14 => some (r14.1, pb, r14.2, p1) else (bif (a1.Level == 1) then (mp_assign N (⟨a1.NoIn, a1.NoGt⟩ : SRules) pa pb pc p1).bind fun r58 => some (r58.1, r58.2.1, r58.2.2.1, r58.2.2.2) else (bif (a1.Level == 2) then (mp_cond N (⟨a1.NoIn, a1.NoGt⟩ : SRules) pa pb pc p1).bind fun r60 => some (r60.1, r60.2.1, r60.2.2.1, r60.2.2.2) else (bif (a1.Level == 3) then (mp_or N (⟨a1.NoIn, a1.NoGt⟩ : SRules) pa pb pc p1).bind fun r62 => some (r62.1, r62.2.1, r62.2.2.1, r62.2.2.2) else (bif (a1.Level == 4) then (mp_and N (⟨a1.NoIn, a1.NoGt⟩ : SRules) pa pb pc p1).bind fun r64 => some (r64.1, r64.2.1, r64.2.2.1, r64.2.2.2) else (bif (a1.Level == 5) then (mp_in N (⟨a1.NoIn, a1.NoGt⟩ : SRules) pa pb pc p1).bind fun r66 => some (r66.1, r66.2.1, r66.2.2.1, r66.2.2.2) else (bif (a1.Level == 6) then (mp_match N (⟨a1.NoIn, a1.NoGt⟩ : SRules) pa pb pc p1).bind fun r68 => some (r68.1, r68.2.1, r68.2.2.1, r68.2.2.2) else (bif (a1.Level == 7) then (mp_compare N (⟨a1.NoIn, a1.NoGt⟩ : SRules) pa pb pc p1).bind fun r70 => some (r70.1, r70.2.1, r70.2.2.1, r70.2.2.2) else (bif (a1.Level == 8) then (mp_cat N (⟨a1.NoIn, a1.NoGt⟩ : SRules) pa pb pc p1).bind fun r72 => some (r72.1, r72.2.1, r72.2.2.1, r72.2.2.2) else (bif (a1.Level == 9) then (mp_add N (⟨a1.NoIn, a1.NoGt⟩ : SRules) pa pb pc p1).bind fun r74 => some (r74.1, r74.2.1, r74.2.2.1, r74.2.2.2) else (bif (a1.Level == 10) then (mp_mul N (⟨a1.NoIn, a1.NoGt⟩ : SRules) pa pb pc p1).bind fun r76 => some (r76.1, r76.2.1, r76.2.2.1, r76.2.2.2) else (bif (a1.Level == 11) then (mp_unary N (⟨a1.NoIn, a1.NoGt⟩ : SRules) pa pb pc p1).bind fun r78 => some (r78.1, r78.2.1, r78.2.2.1, r78.2.2.2) else (bif (a1.Level == 12) then (mp_pow N (⟨a1.NoIn, a1.NoGt⟩ : SRules) pa pb pc p1).bind fun r80 => some (r80.1, r80.2.1, r80.2.2.1, r80.2.2.2) else (bif (a1.Level == 13) then (mp_incr N pa pb pc p1).bind fun r82 => some (r82.1, r82.2.1, r82.2.2.1, r82.2.2.2) else (bif (a1.Level == 14) then (bif a1.Dollar then (mp_kind pa pb pc p1).bind fun r93 => (mi_isStep r93).bind fun r94 => some r94 else (some false)).bind fun y92 => bif y92 then (mp_before N pa pb pc p1).bind fun r96 => some (r96.1, r96.2.1, r96.2.2.1, r96.2.2.2) else ((mp_field N pa pb pc p1).bind fun r98 => some (r98.1, r98.2.1, r98.2.2.1, r98.2.2.2)) else ((mp_primary N pa pb pc p1).bind fun r100 => some (r100.1, r100.2.1, r100.2.2.1, r100.2.2.2))))))))))))))))

structure Rec2 where
  mi_tree__size : STree → Option Int

def mi_tree__size_l1 (N : Nat) (R : Rec2) : Nat → (STree × Int × Int) → Option Int
  | 0, _ => none
  | n1 + 1, (a0, y37, y38) => bif (decide (y38 < (a0.kids.length : Int))) then (ix a0.kids y38).bind fun e54 => (R.mi_tree__size e54).bind fun r56 => (mi_tree__size_l1 N R n1) (a0, (IntKind.wrap .i64 (y37 + r56)), (IntKind.wrap .i64 (y38 + 1))) else (some y37)
def mi_tree__size_F (N : Nat) (R : Rec2) (a0 : STree) : Option Int :=
  mi_tree__size_l1 N R N (a0, 1, 0)
def scc2 : Nat → Rec2
  | 0 => ⟨fun _ => none⟩
  | N + 1 => ⟨fun a0 => mi_tree__size_F N (scc2 N) a0⟩
def mi_tree__size (N : Nat) (a0 : STree) : Option Int := (scc2 N).mi_tree__size a0

structure Rec3 where
  mi_tree__depth : STree → Option Int

def mi_tree__depth_l1 (N : Nat) (R : Rec3) : Nat → (STree × Int × Int) → Option Int
  | 0, _ => none
  | n1 + 1, (a0, y37, y38) => bif (decide (y38 < (a0.kids.length : Int))) then (ix a0.kids y38).bind fun e54 => (R.mi_tree__depth e54).bind fun r56 => (mi_tree__depth_l1 N R n1) (a0, (if r56 > y37 then r56 else y37), (IntKind.wrap .i64 (y38 + 1))) else (some (IntKind.wrap .i64 (y37 + 1)))
def mi_tree__depth_F (N : Nat) (R : Rec3) (a0 : STree) : Option Int :=
  mi_tree__depth_l1 N R N (a0, 0, 0)
def scc3 : Nat → Rec3
  | 0 => ⟨fun _ => none⟩
  | N + 1 => ⟨fun a0 => mi_tree__depth_F N (scc3 N) a0⟩
def mi_tree__depth (N : Nat) (a0 : STree) : Option Int := (scc3 N).mi_tree__depth a0

def mi_bounded (N : Nat) (a0 : STree) : Option SFault :=
  (mi_tree__size N a0).bind fun r6 => bif (decide (r6 > 400)) then some (⟨1, 0⟩ : SFault) else ((mi_tree__depth N a0).bind fun r8 => bif (decide (r8 > 40)) then some (⟨4, 0⟩ : SFault) else (some (⟨0, 0⟩ : SFault)))

structure Rec4 where
  mi_tree__add : STree → LN → Option LN

def mi_tree__add_l1 (N : Nat) (R : Rec4) : Nat → (STree × Int × LN × (List Int)) → Option LN
  | 0, _ => none
  | n1 + 1, (a0, y59, y60, y61) => bif (decide (y59 < (a0.kids.length : Int))) then (ix a0.kids y59).bind fun e84 => (R.mi_tree__add e84 y60).bind fun r86 => (app 8 y61 [(IntKind.wrap .i64 ((r86.length : Int) - 1))]).bind fun x88 => (mi_tree__add_l1 N R n1) (a0, (IntKind.wrap .i64 (y59 + 1)), r86, x88) else ((app 72 y60 [(⟨a0.kind, a0.op, a0.text, a0.other, y61⟩ : SNode)]).bind fun x90 => some x90)
def mi_tree__add_F (N : Nat) (R : Rec4) (a0 : STree) (p0 : LN) : Option LN :=
  mi_tree__add_l1 N R N (a0, 0, p0, [])
def scc4 : Nat → Rec4
  | 0 => ⟨fun _ _ => none⟩
  | N + 1 => ⟨fun a0 p0 => mi_tree__add_F N (scc4 N) a0 p0⟩
def mi_tree__add (N : Nat) (a0 : STree) (p0 : LN) : Option LN := (scc4 N).mi_tree__add a0 p0

def mi_tree__list (N : Nat) (a0 : STree) : Option LN :=
  (mi_tree__add N a0 []).bind fun r2 => some r2

def mi_ParseExpr (N : Nat) (a0 : LT) (a1 : SPos) : Option (LN × Int × SFault) :=
  (mi_PosOk a1).bind fun r4 => bif (!r4) then some ([], 0, (⟨3, 0⟩ : SFault)) else ((mi_checked N a0).bind fun r8 => bif (!((r8.Kind == 0) && ((r8.At == 0) && true))) then some ([], 0, r8) else ((mp_level N a1 a0 0 false []).bind fun r11 => bif r11.2.2.1 then (mi_placeOf a0 r11.2.1).bind fun r15 => some ([], 0, (⟨3, r15⟩ : SFault)) else ((mi_bounded N r11.1.tree).bind fun r19 => bif (!((r19.Kind == 0) && ((r19.At == 0) && true))) then some ([], 0, r19) else ((mi_tree__list N r11.1.tree).bind fun r21 => some (r21, r11.2.1, (⟨0, 0⟩ : SFault))))))

def mi_whole (N : Nat) (a0 : LT) (a1 : SPos) : Option (LN × Bool) :=
  (mi_ParseExpr N a0 a1).bind fun r2 => (bif ((r2.2.2.Kind == 0) && ((r2.2.2.At == 0) && true)) then some (r2.2.1 == (a0.length : Int)) else (some false)).bind fun y3 => some (r2.1, y3)

def mi_startsOf_r2 (N : Nat) (kb1 : (LN × Int × (List Int)) → Option ((List Int) × Bool)) (a0 : LN) (y203 : Int) (e322 : SNode) (y204 : List Int) : List Int → Int → Option ((List Int) × Bool)
  | [], y345 => (ix y204 y203).bind fun e357 => (upd y204 y203 (IntKind.wrap .i64 (y345 + 1))).bind fun x358 => kb1 (a0, (IntKind.wrap .i64 (y203 + 1)), x358)
  | e339 :: es340, y345 => (bif (decide (y345 < 0)) then some true else (some (e339 != y345))).bind fun y352 => bif y352 then some ([], false) else ((ix y204 e339).bind fun e354 => (mi_startsOf_r2 N kb1 a0 y203 e322 y204 es340) (IntKind.wrap .i64 (e354 - 1)))
def mi_startsOf_l1 (N : Nat) : Nat → (LN × Int × (List Int)) → Option ((List Int) × Bool)
  | 0, _ => none
  | n1 + 1, (a0, y203, y204) => bif (decide (y203 < (a0.length : Int))) then (ix a0 y203).bind fun e322 => mi_startsOf_r2 N (mi_startsOf_l1 N n1) a0 y203 e322 y204 (e322.Kids.reverse) (IntKind.wrap .i64 (y203 - 1)) else ((ix y204 (IntKind.wrap .i64 ((a0.length : Int) - 1))).bind fun e360 => some (y204, (e360 == 0)))
def mi_startsOf (N : Nat) (a0 : LN) : Option ((List Int) × Bool) :=
  (mi_within (a0.length : Int) 1 400).bind fun r4 => bif (!r4) then some ([], false) else ((mk 8 0 (a0.length : Int)).bind fun x6 => mi_startsOf_l1 N N (a0, 0, x6))

def mi_ShapeOk (N : Nat) (a0 : LN) : Option Bool :=
  (mi_startsOf N a0).bind fun r2 => some r2.2

def mi_IsExpr (a0 : Int) : Option Bool :=
  (mi_within a0 1 15).bind fun r2 => some r2

def mi_exprForm_k3 (N : Nat) : (SNode × Bool) → Option SForm
  | (a0, y35) => bif y35 then (mi_isStep a0.Op).bind fun r37 => some (⟨r37, (a0.Text == []), false, 1, 1⟩ : SForm) else (bif (a0.Kind == 11) then (bif (a0.Op == 55) then some true else (bif (a0.Op == 56) then some true else (some (a0.Op == 61)))).bind fun y38 => some (⟨y38, (a0.Text == []), false, 1, 1⟩ : SForm) else (bif (a0.Kind == 12) then (mi_OpLevel a0.Op).bind fun r40 => some (⟨(r40 != 0), (a0.Text == []), false, 2, 2⟩ : SForm) else (bif (a0.Kind == 14) then some (⟨(a0.Op == 0), (a0.Text == []), false, 3, 3⟩ : SForm) else ((mi_isAssign a0.Op).bind fun r42 => some (⟨r42, (a0.Text == []), false, 2, 2⟩ : SForm)))))
def mi_exprForm_k2 (N : Nat) : (SNode × Bool) → Option SForm
  | (a0, y28) => bif y28 then (mi_NameOk N a0.Text).bind fun r30 => some (⟨(a0.Op == 0), r30, false, 1, 6⟩ : SForm) else (bif (a0.Kind == 6) then some (⟨(a0.Op == 0), (a0.Text == []), false, 1, 1⟩ : SForm) else (bif (a0.Kind == 7) then (mi_NameOk N a0.Text).bind fun r32 => some (⟨(a0.Op == 0), r32, false, 0, 6⟩ : SForm) else (bif (a0.Kind == 8) then (mi_IsBuiltin N a0.Text).bind fun r34 => some (⟨(a0.Op == 0), r34, false, 0, 6⟩ : SForm) else (bif (a0.Kind == 9) then mi_exprForm_k3 N (a0, (a0.Kind == 9)) else (mi_exprForm_k3 N (a0, (a0.Kind == 10)))))))
def mi_exprForm_k1 (N : Nat) : (SNode × Bool) → Option SForm
  | (a0, y23) => bif y23 then (ix [3, 4, 5] (IntKind.wrap .i64 (a0.Kind - 2))).bind fun e26 => (mi_TokenOk N (⟨e26, a0.Text, 0⟩ : SToken)).bind fun r27 => some (⟨(a0.Op == 0), r27, false, 0, 0⟩ : SForm) else (bif (a0.Kind == 5) then mi_exprForm_k2 N (a0, (a0.Kind == 5)) else (mi_exprForm_k2 N (a0, (a0.Kind == 13))))
def mi_exprForm (N : Nat) (a0 : SNode) : Option SForm :=
  bif (a0.Kind == 1) then (mi_NameOk N a0.Text).bind fun r22 => some (⟨(a0.Op == 0), r22, false, 0, 0⟩ : SForm) else (bif (a0.Kind == 2) then mi_exprForm_k1 N (a0, (a0.Kind == 2)) else (bif (a0.Kind == 3) then mi_exprForm_k1 N (a0, (a0.Kind == 3)) else (mi_exprForm_k1 N (a0, (a0.Kind == 4)))))

def mi_IsStmt (a0 : Int) : Option Bool :=
  (mi_within a0 20 34).bind fun r2 => some r2

def mi_stmtForm_k1 (N : Nat) : (Bool × Bool × Bool × Int × Int) → Option SForm
  | (y14, y15, y16, y17, y18) => some (⟨y14, y15, y16, y17, y18⟩ : SForm)
def mi_stmtForm_k3 (N : Nat) : (SNode × Bool) → Option SForm
  | (a0, y25) => bif y25 then mi_stmtForm_k1 N ((a0.Op == 0), (a0.Text == []), (a0.Other == []), 2, 2) else (bif (a0.Kind == 31) then mi_stmtForm_k1 N ((a0.Op == 0), (a0.Text == []), (a0.Other == []), 4, 4) else (bif (a0.Kind == 32) then (mi_NameOk N a0.Text).bind fun r28 => (mi_NameOk N a0.Other).bind fun r29 => mi_stmtForm_k1 N ((a0.Op == 0), r28, r29, 1, 1) else (bif (a0.Kind == 33) then mi_stmtForm_k1 N ((a0.Op == 0), (a0.Text == []), (a0.Other == []), 0, 400) else (bif (a0.Kind == 34) then (mi_TokenOk N (⟨2, a0.Text, 0⟩ : SToken)).bind fun r31 => mi_stmtForm_k1 N ((a0.Op == 0), r31, (a0.Other == []), 0, 0) else (mi_stmtForm_k1 N ((a0.Op == 0), (a0.Text == []), (a0.Other == []), 0, 0))))))
def mi_stmtForm_k2 (N : Nat) : (SNode × Bool) → Option SForm
  | (a0, y22) => bif y22 then mi_stmtForm_k1 N ((a0.Op == 0), (a0.Text == []), (a0.Other == []), 0, 1) else (bif (a0.Kind == 27) then (mi_NameOk N a0.Text).bind fun r24 => mi_stmtForm_k1 N ((a0.Op == 0), r24, (a0.Other == []), 0, 6) else (bif (a0.Kind == 28) then mi_stmtForm_k1 N ((a0.Op == 0), (a0.Text == []), (a0.Other == []), 2, 3) else (bif (a0.Kind == 29) then mi_stmtForm_k3 N (a0, (a0.Kind == 29)) else (mi_stmtForm_k3 N (a0, (a0.Kind == 30))))))
def mi_stmtForm (N : Nat) (a0 : SNode) : Option SForm :=
  bif (a0.Kind == 20) then mi_stmtForm_k1 N ((a0.Op == 0), (a0.Text == []), (a0.Other == []), 1, 1) else (bif (a0.Kind == 21) then (bif (a0.Op == 0) then some true else (some (a0.Op == 1))).bind fun y19 => (m_slices_Contains_string N [[], [62], [62, 62], [124]] a0.Other).bind fun r21 => bif (!(a0.Other == [])) then mi_stmtForm_k1 N (y19, (a0.Text == []), r21, (IntKind.wrap .i64 (a0.Op + 1)), 7) else (mi_stmtForm_k1 N (y19, (a0.Text == []), r21, a0.Op, 6)) else (bif (a0.Kind == 23) then mi_stmtForm_k2 N (a0, (a0.Kind == 23)) else (mi_stmtForm_k2 N (a0, (a0.Kind == 24)))))

def mi_itemForm_k1 (N : Nat) : (SNode × Bool × Bool × Int × Int) → Option SForm
  | (a0, y9, y10, y11, y12) => some (⟨y9, y10, (a0.Other == []), y11, y12⟩ : SForm)
def mi_itemForm_k3 (N : Nat) : (Bool × SNode × Int) → Option SForm
  | (r15, a0, y16) => mi_itemForm_k1 N (a0, r15, (a0.Text == []), y16, y16)
def mi_itemForm_k4 (N : Nat) : (Bool × SNode × Int) → Option SForm
  | (y17, a0, y18) => mi_itemForm_k1 N (a0, y17, (a0.Text == []), y18, y18)
def mi_itemForm_k2 (N : Nat) : (SNode × Bool) → Option SForm
  | (a0, y13) => bif y13 then mi_itemForm_k1 N (a0, (a0.Op == 0), (a0.Text == []), 1, 1) else (bif (a0.Kind == 42) then (mi_within a0.Op 1 3).bind fun r15 => bif (a0.Op == 3) then mi_itemForm_k3 N (r15, a0, 2) else (mi_itemForm_k3 N (r15, a0, 1)) else (bif (a0.Kind == 43) then (bif (a0.Op == 1) then some true else (some (a0.Op == 3))).bind fun y17 => bif (a0.Op == 3) then mi_itemForm_k4 N (y17, a0, 3) else (mi_itemForm_k4 N (y17, a0, 2)) else (bif (a0.Kind == 44) then (mi_NameOk N a0.Text).bind fun r20 => mi_itemForm_k1 N (a0, (a0.Op == 0), r20, 1, 7) else (mi_itemForm_k1 N (a0, (a0.Op == 0), (a0.Text == []), 0, 400)))))
def mi_itemForm (N : Nat) (a0 : SNode) : Option SForm :=
  bif (a0.Kind == 40) then mi_itemForm_k2 N (a0, (a0.Kind == 40)) else (mi_itemForm_k2 N (a0, (a0.Kind == 41)))

def mi_FieldsOk_k1 (N : Nat) : (SNode × Bool × Bool × Bool × Int × Int) → Option Bool
  | (a0, y13, y14, y15, y16, y17) => (bif y13 then bif y14 then bif y15 then (mi_within (a0.Kids.length : Int) y16 y17).bind fun r20 => some r20 else (some false) else (some false) else (some false)).bind fun y19 => some y19
def mi_FieldsOk (N : Nat) (a0 : SNode) : Option Bool :=
  (mi_IsExpr a0.Kind).bind fun r22 => bif r22 then (mi_exprForm N a0).bind fun r24 => mi_FieldsOk_k1 N (a0, r24.op, r24.text, (a0.Other == []), r24.least, r24.most) else (bif (a0.Kind == 16) then mi_FieldsOk_k1 N (a0, (a0.Op == 0), (a0.Text == []), (a0.Other == []), 0, 0) else ((mi_IsStmt a0.Kind).bind fun r26 => bif r26 then (mi_stmtForm N a0).bind fun r28 => mi_FieldsOk_k1 N (a0, r28.op, r28.text, r28.other, r28.least, r28.most) else ((mi_within a0.Kind 40 45).bind fun r30 => bif r30 then (mi_itemForm N a0).bind fun r32 => mi_FieldsOk_k1 N (a0, r32.op, r32.text, r32.other, r32.least, r32.most) else (some false))))

def mi_IsLvalue (a0 : Int) : Option Bool :=
  (bif (a0 == 1) then some true else (bif (a0 == 5) then some true else (some (a0 == 6)))).bind fun y1 => some y1

def mi_isItem (a0 : Int) : Option Bool :=
  (mi_within a0 40 44).bind fun r2 => some r2

def mi_kidOk_k1 : (Int × Bool) → Option Bool
  | (a2, y22) => bif y22 then some (a2 == 33) else ((mi_IsExpr a2).bind fun r24 => some r24)
def mi_kidOk_k4 : (Int × Int × SNode × Bool) → Option Bool
  | (a2, a1, a0, y38) => bif y38 then mi_kidOk_k1 (a2, true) else (bif (a0.Kind == 33) then (mi_IsStmt a2).bind fun r40 => some r40 else (bif (a0.Kind == 42) then (bif (a1 == (IntKind.wrap .i64 ((a0.Kids.length : Int) - 1))) then some (decide (a0.Op ≥ 2)) else (some false)).bind fun y41 => mi_kidOk_k1 (a2, y41) else (bif (a0.Kind == 43) then (bif (a1 == (IntKind.wrap .i64 ((a0.Kids.length : Int) - 1))) then some (a0.Op == 3) else (some false)).bind fun y42 => mi_kidOk_k1 (a2, y42) else (bif (a0.Kind == 44) then bif (!(a1 == (IntKind.wrap .i64 ((a0.Kids.length : Int) - 1)))) then some (a2 == 1) else (mi_kidOk_k1 (a2, true)) else (bif (a0.Kind == 45) then ((mi_isItem a2).bind fun r45 => bif r45 then some true else (some (a2 == 34))).bind fun y44 => some y44 else (mi_kidOk_k1 (a2, false)))))))
def mi_kidOk_k3 : (Int × Int × SNode × Bool) → Option Bool
  | (a1, a2, a0, y35) => bif y35 then mi_kidOk_k1 (a2, (decide (a1 > 0))) else (bif (a0.Kind == 31) then (bif (decide (a1 < 3)) then some (a2 == 16) else (some false)).bind fun y37 => bif y37 then some true else (mi_kidOk_k1 (a2, (a1 == (IntKind.wrap .i64 ((a0.Kids.length : Int) - 1))))) else (bif (a0.Kind == 30) then mi_kidOk_k1 (a2, (a1 == 0)) else (bif (a0.Kind == 32) then mi_kidOk_k4 (a2, a1, a0, (a0.Kind == 32)) else (bif (a0.Kind == 40) then mi_kidOk_k4 (a2, a1, a0, (a0.Kind == 40)) else (mi_kidOk_k4 (a2, a1, a0, (a0.Kind == 41)))))))
def mi_kidOk_k2 : (Int × Int × SNode × Bool) → Option Bool
  | (a1, a2, a0, y25) => bif y25 then (mi_IsLvalue a2).bind fun r27 => some r27 else (bif (a0.Kind == 15) then (bif (a1 == 0) then (mi_IsLvalue a2).bind fun r32 => bif r32 then some true else (bif (decide (a1 > 0)) then (mi_IsExpr a2).bind fun r33 => some r33 else (some false)) else (bif (decide (a1 > 0)) then (mi_IsExpr a2).bind fun r34 => some r34 else (some false))).bind fun y31 => some y31 else (bif (a0.Kind == 28) then mi_kidOk_k3 (a1, a2, a0, (a0.Kind == 28)) else (mi_kidOk_k3 (a1, a2, a0, (a0.Kind == 29)))))
def mi_kidOk (a0 : SNode) (a1 : Int) (a2 : Int) : Option Bool :=
  bif (a0.Kind == 9) then mi_kidOk_k2 (a1, a2, a0, (a0.Kind == 9)) else (mi_kidOk_k2 (a1, a2, a0, (a0.Kind == 10)))

structure Rec5 where
  mi_treeAt : LN → Int → Option STree

def mi_treeAt_l1 (N : Nat) (R : Rec5) : Nat → (LN × SNode × Int × LS) → Option STree
  | 0, _ => none
  | n1 + 1, (a0, e2, y63, y64) => bif (decide (y63 < (e2.Kids.length : Int))) then (ix e2.Kids y63).bind fun e86 => (R.mi_treeAt a0 e86).bind fun r89 => (app 72 y64 [r89]).bind fun x90 => (mi_treeAt_l1 N R n1) (a0, e2, (IntKind.wrap .i64 (y63 + 1)), x90) else (some (⟨e2.Kind, e2.Op, e2.Text, e2.Other, y64⟩ : STree))
def mi_treeAt_F (N : Nat) (R : Rec5) (a0 : LN) (a1 : Int) : Option STree :=
  (ix a0 a1).bind fun e2 => mi_treeAt_l1 N R N (a0, e2, 0, [])
def scc5 : Nat → Rec5
  | 0 => ⟨fun _ _ => none⟩
  | N + 1 => ⟨fun a0 a1 => mi_treeAt_F N (scc5 N) a0 a1⟩
def mi_treeAt (N : Nat) (a0 : LN) (a1 : Int) : Option STree := (scc5 N).mi_treeAt a0 a1

def mi_rootOf (N : Nat) (a0 : LN) : Option STree :=
  (mi_treeAt N a0 (IntKind.wrap .i64 ((a0.length : Int) - 1))).bind fun r2 => some r2

def mi_TreeOk_l2 (N : Nat) (kb1 : (LN × Int) → Option Bool) : Nat → (LN × Int × SNode × Int) → Option Bool
  | 0, _ => none
  | n2 + 1, (a0, y359, e494, y511) => bif (decide (y511 < (e494.Kids.length : Int))) then (ix e494.Kids y511).bind fun e532 => (ix a0 e532).bind fun e535 => (mi_kidOk e494 y511 e535.Kind).bind fun r536 => bif (!r536) then some false else ((mi_TreeOk_l2 N kb1 n2) (a0, y359, e494, (IntKind.wrap .i64 (y511 + 1)))) else (kb1 (a0, (IntKind.wrap .i64 (y359 + 1))))
def mi_TreeOk_l1 (N : Nat) : Nat → (LN × Int) → Option Bool
  | 0, _ => none
  | n1 + 1, (a0, y359) => bif (decide (y359 < (a0.length : Int))) then (ix a0 y359).bind fun e494 => (mi_FieldsOk N e494).bind fun r498 => bif (!r498) then some false else (mi_TreeOk_l2 N (mi_TreeOk_l1 N n1) N (a0, y359, e494, 0)) else ((mi_rootOf N a0).bind fun r539 => (mi_tree__depth N r539).bind fun r540 => some (decide (r540 ≤ 40)))
def mi_TreeOk (N : Nat) (a0 : LN) : Option Bool :=
  (mi_ShapeOk N a0).bind fun r4 => bif (!r4) then some false else (mi_TreeOk_l1 N N (a0, 0))

def mi_Shunt (N : Nat) (a0 : LT) : Option (LN × Bool) :=
  (mi_Shunts N a0).bind fun r4 => bif (!r4) then some ([], false) else (Option.bind mi_Top fun r7 => (mi_whole N a0 r7).bind fun r8 => (bif (!r8.2) then some true else ((mi_TreeOk N r8.1).bind fun r14 => some (!r14))).bind fun y13 => bif y13 then some ([], false) else (some (r8.1, true)))

def ml_eqIntS_l1 (N : Nat) : Nat → ((List Int) × (List Int) × Int) → Option Bool
  | 0, _ => none
  | n1 + 1, (a0, a1, y35) => bif (decide (y35 < (a0.length : Int))) then (ix a0 y35).bind fun e51 => (ix a1 y35).bind fun e52 => bif (e51 != e52) then some false else ((ml_eqIntS_l1 N n1) (a0, a1, (IntKind.wrap .i64 (y35 + 1)))) else (some true)
def ml_eqIntS (N : Nat) (a0 : List Int) (a1 : List Int) : Option Bool :=
  bif ((a0.length : Int) != (a1.length : Int)) then some false else (ml_eqIntS_l1 N N (a0, a1, 0))

def ml_eqNode (N : Nat) (a0 : SNode) (a1 : SNode) : Option Bool :=
  bif (a0.Kind != a1.Kind) then some false else (bif (a0.Op != a1.Op) then some false else (bif (!(a0.Text == a1.Text)) then some false else (bif (!(a0.Other == a1.Other)) then some false else ((ml_eqIntS N a0.Kids a1.Kids).bind fun r4 => bif (!r4) then some false else (some true)))))

def ml_eqNodeS_l1 (N : Nat) : Nat → (LN × LN × Int) → Option Bool
  | 0, _ => none
  | n1 + 1, (a0, a1, y51) => bif (decide (y51 < (a0.length : Int))) then (ix a0 y51).bind fun e74 => (ix a1 y51).bind fun e75 => (ml_eqNode N e74 e75).bind fun r76 => bif (!r76) then some false else ((ml_eqNodeS_l1 N n1) (a0, a1, (IntKind.wrap .i64 (y51 + 1)))) else (some true)
def ml_eqNodeS (N : Nat) (a0 : LN) (a1 : LN) : Option Bool :=
  bif ((a0.length : Int) != (a1.length : Int)) then some false else (ml_eqNodeS_l1 N N (a0, a1, 0))

def ml_eqToken (a0 : SToken) (a1 : SToken) : Option Bool :=
  bif (a0.Kind != a1.Kind) then some false else (bif (!(a0.Text == a1.Text)) then some false else (bif (a0.At != a1.At) then some false else (some true)))

def ml_eqTokenS_l1 (N : Nat) : Nat → (LT × LT × Int) → Option Bool
  | 0, _ => none
  | n1 + 1, (a0, a1, y51) => bif (decide (y51 < (a0.length : Int))) then (ix a0 y51).bind fun e74 => (ix a1 y51).bind fun e75 => (ml_eqToken e74 e75).bind fun r76 => bif (!r76) then some false else ((ml_eqTokenS_l1 N n1) (a0, a1, (IntKind.wrap .i64 (y51 + 1)))) else (some true)
def ml_eqTokenS (N : Nat) (a0 : LT) (a1 : LT) : Option Bool :=
  bif ((a0.length : Int) != (a1.length : Int)) then some false else (ml_eqTokenS_l1 N N (a0, a1, 0))

def ml_markText_l1 (N : Nat) : Nat → (Int × LU) → Option LU
  | 0, _ => none
  | n1 + 1, (y13, y14) => bif (decide (y13 > 0)) then (cat [(bytI (IntKind.wrap .i64 (48 + (Int.tmod y13 10))))] y14).bind fun s20 => (ml_markText_l1 N n1) ((IntKind.wrap .i64 (Int.tdiv y13 10)), s20) else ((cat ([109] : LU) y14).bind fun s22 => some s22)
def ml_markText (N : Nat) (a0 : Int) : Option LU :=
  bif (decide (a0 ≤ 0)) then some [109, 48] else (ml_markText_l1 N N (a0, []))

def ml_markTokenS_l1 (N : Nat) : Nat → (Int × Int × LT) → Option (Int × LT)
  | 0, _ => none
  | n1 + 1, (y119, y120, y121) => bif (decide (y120 < (y121.length : Int))) then (ix y121 y120).bind fun e169 => (upd y121 y120 (⟨y119, e169.Text, e169.At⟩ : SToken)).bind fun x170 => (ml_markText N (IntKind.wrap .i64 (y119 + 1))).bind fun r174 => (ix x170 y120).bind fun e175 => (upd x170 y120 (⟨e175.Kind, r174, e175.At⟩ : SToken)).bind fun x176 => (ix x176 y120).bind fun e179 => (upd x176 y120 (⟨e179.Kind, e179.Text, (IntKind.wrap .i64 ((IntKind.wrap .i64 (y119 + 1)) + 1))⟩ : SToken)).bind fun x180 => (ml_markTokenS_l1 N n1) ((IntKind.wrap .i64 ((IntKind.wrap .i64 ((IntKind.wrap .i64 (y119 + 1)) + 1)) + 1)), (IntKind.wrap .i64 (y120 + 1)), x180) else (some (y119, y121))
def ml_markTokenS (N : Nat) (a1 : Int) (p0 : LT) : Option (Int × LT) :=
  ml_markTokenS_l1 N N (a1, 0, p0)

def ml_markIntS_l1 (N : Nat) : Nat → (Int × Int × (List Int)) → Option (Int × (List Int))
  | 0, _ => none
  | n1 + 1, (y39, y40, y41) => bif (decide (y40 < (y41.length : Int))) then (ix y41 y40).bind fun e59 => (upd y41 y40 y39).bind fun x60 => (ml_markIntS_l1 N n1) ((IntKind.wrap .i64 (y39 + 1)), (IntKind.wrap .i64 (y40 + 1)), x60) else (some (y39, y41))
def ml_markIntS (N : Nat) (a1 : Int) (p0 : List Int) : Option (Int × (List Int)) :=
  ml_markIntS_l1 N N (a1, 0, p0)

def ml_markIntS_v2_l1 (N : Nat) : Nat → Int → Option Int
  | 0, _ => none
  | n1 + 1, a1 => some a1
def ml_markIntS_v2 (N : Nat) (a1 : Int) : Option Int :=
  ml_markIntS_v2_l1 N N a1

def ml_markNodeS_l1 (N : Nat) : Nat → (Int × Int × LN) → Option (Int × LN)
  | 0, _ => none
  | n1 + 1, (y191, y192, y193) => bif (decide (y192 < (y193.length : Int))) then (ix y193 y192).bind fun e268 => (upd y193 y192 (⟨y191, e268.Op, e268.Text, e268.Other, e268.Kids⟩ : SNode)).bind fun x269 => (ix x269 y192).bind fun e272 => (upd x269 y192 (⟨e272.Kind, (IntKind.wrap .i64 (y191 + 1)), e272.Text, e272.Other, e272.Kids⟩ : SNode)).bind fun x273 => (ml_markText N (IntKind.wrap .i64 ((IntKind.wrap .i64 (y191 + 1)) + 1))).bind fun r277 => (ix x273 y192).bind fun e278 => (upd x273 y192 (⟨e278.Kind, e278.Op, r277, e278.Other, e278.Kids⟩ : SNode)).bind fun x279 => (ml_markText N (IntKind.wrap .i64 ((IntKind.wrap .i64 ((IntKind.wrap .i64 (y191 + 1)) + 1)) + 1))).bind fun r283 => (ix x279 y192).bind fun e284 => (upd x279 y192 (⟨e284.Kind, e284.Op, e284.Text, r283, e284.Kids⟩ : SNode)).bind fun x285 => (ix x285 y192).bind fun e286 => (ml_markIntS N (IntKind.wrap .i64 ((IntKind.wrap .i64 ((IntKind.wrap .i64 ((IntKind.wrap .i64 (y191 + 1)) + 1)) + 1)) + 1)) e286.Kids).bind fun r287 => (upd x285 y192 (⟨e286.Kind, e286.Op, e286.Text, e286.Other, r287.2⟩ : SNode)).bind fun x288 => (ml_markNodeS_l1 N n1) (r287.1, (IntKind.wrap .i64 (y192 + 1)), x288) else (some (y191, y193))
def ml_markNodeS (N : Nat) (a1 : Int) (p0 : LN) : Option (Int × LN) :=
  ml_markNodeS_l1 N N (a1, 0, p0)

def ml_heldIntS_l1 (N : Nat) : Nat → ((List Int) × Int × Int) → Option Int
  | 0, _ => none
  | n1 + 1, (a0, y37, y38) => bif (decide (y38 < (a0.length : Int))) then (ix a0 y38).bind fun e56 => bif (e56 != y37) then some (-1) else ((ml_heldIntS_l1 N n1) (a0, (IntKind.wrap .i64 (y37 + 1)), (IntKind.wrap .i64 (y38 + 1)))) else (some y37)
def ml_heldIntS (N : Nat) (a0 : List Int) (a1 : Int) : Option Int :=
  ml_heldIntS_l1 N N (a0, a1, 0)

def ml_heldNodeS_l1 (N : Nat) : Nat → (LN × Int × Int) → Option Int
  | 0, _ => none
  | n1 + 1, (a0, y229, y230) => bif (decide (y230 < (a0.length : Int))) then (ix a0 y230).bind fun e320 => bif (e320.Kind != y229) then some (-1) else ((ix a0 y230).bind fun e324 => bif (e324.Op != (IntKind.wrap .i64 (y229 + 1))) then some (-1) else ((ix a0 y230).bind fun e331 => (ml_markText N (IntKind.wrap .i64 ((IntKind.wrap .i64 (y229 + 1)) + 1))).bind fun r332 => bif (!(e331.Text == r332)) then some (-1) else ((ix a0 y230).bind fun e339 => (ml_markText N (IntKind.wrap .i64 ((IntKind.wrap .i64 ((IntKind.wrap .i64 (y229 + 1)) + 1)) + 1))).bind fun r340 => bif (!(e339.Other == r340)) then some (-1) else ((ix a0 y230).bind fun e343 => (ml_heldIntS N e343.Kids (IntKind.wrap .i64 ((IntKind.wrap .i64 ((IntKind.wrap .i64 ((IntKind.wrap .i64 (y229 + 1)) + 1)) + 1)) + 1))).bind fun r344 => bif (decide (r344 < 0)) then some (-1) else ((ml_heldNodeS_l1 N n1) (a0, r344, (IntKind.wrap .i64 (y230 + 1)))))))) else (some y229)
def ml_heldNodeS (N : Nat) (a0 : LN) (a1 : Int) : Option Int :=
  ml_heldNodeS_l1 N N (a0, a1, 0)

def ml_FnExactShunt (N : Nat) (a0 : LT) : Option Bool :=
  (ml_szTokenS N a0 1048576).bind fun r2 => bif (decide (r2 < 0)) then some true else ((ml_toTokenS N a0).bind fun r5 => (ms_Shunt N r5).bind fun r6 => (ml_toTokenS N a0).bind fun r8 => (mi_Shunt N r8).bind fun r10 => ((ml_eqNodeS N r10.1 r6.1).bind fun r16 => bif (!r16) then some true else (some (!(r10.2 == r6.2)))).bind fun y15 => bif y15 then some false else ((ml_toTokenS N a0).bind fun r23 => (ml_eqTokenS N r8 r23).bind fun r24 => bif (!r24) then some false else ((ml_markTokenS N 1 r8).bind fun r26 => (bif (decide (r26.1 < 0)) then some true else ((ml_eqNodeS N r10.1 r6.1).bind fun r32 => bif (!r32) then some true else (some (!(r10.2 == r6.2))))).bind fun y31 => bif y31 then some false else ((ml_markNodeS N 1 r10.1).bind fun r34 => (ml_heldNodeS N r34.2 1).bind fun r36 => bif (decide (r36 < 0)) then some false else (bif (r36 != r34.1) then some false else ((ml_toTokenS N a0).bind fun r39 => (mi_Shunt N r39).bind fun r40 => ((ml_eqNodeS N r40.1 r6.1).bind fun r46 => bif (!r46) then some true else (some (!(r40.2 == r6.2)))).bind fun y45 => bif y45 then some false else ((ml_heldNodeS N r34.2 1).bind fun r48 => bif (decide (r48 < 0)) then some false else (bif (r48 != r34.1) then some false else (some true)))))))))

end Go.Proofs.Tryz

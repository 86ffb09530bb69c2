/-
  Models of the functions that this seat reaches.
-/
import Derived.Test.YthgednmgmjmmpaaGreatDoorSTab
import Derived.Test.YthgednmgmjmmpaaGreatDoorSCore5
namespace Go.Proofs.Tryz
open Go.Av
set_option maxRecDepth 100000
set_option maxHeartbeats 8000000
set_option linter.unusedSimpArgs false
set_option linter.unusedVariables false

def tab_signs : List (List UInt8) := [[123], [125], [40], [41], [91], [93], [44], [59], [43, 61], [45, 61], [42, 61], [47, 61], [37, 61], [94, 61], [124, 124], [38, 38], [33, 126], [61, 61], [60, 61], [62, 61], [33, 61], [43, 43], [45, 45], [62, 62], [61], [43], [45], [42], [47], [37], [94], [33], [62], [60], [124], [63], [58], [126], [36]]
def tab_keywords : List (List UInt8) := [[66, 69, 71, 73, 78], [69, 78, 68], [102, 117, 110, 99, 116, 105, 111, 110], [105, 102], [101, 108, 115, 101], [119, 104, 105, 108, 101], [102, 111, 114], [100, 111], [98, 114, 101, 97, 107], [99, 111, 110, 116, 105, 110, 117, 101], [110, 101, 120, 116], [101, 120, 105, 116], [114, 101, 116, 117, 114, 110], [100, 101, 108, 101, 116, 101], [105, 110], [112, 114, 105, 110, 116], [112, 114, 105, 110, 116, 102]]
def tab_builtins : List (List UInt8) := [[97, 116, 97, 110, 50], [99, 108, 111, 115, 101], [99, 111, 115], [101, 120, 112], [103, 115, 117, 98], [105, 110, 100, 101, 120], [105, 110, 116], [108, 101, 110, 103, 116, 104], [108, 111, 103], [109, 97, 116, 99, 104], [114, 97, 110, 100], [115, 105, 110], [115, 112, 108, 105, 116], [115, 112, 114, 105, 110, 116, 102], [115, 113, 114, 116], [115, 114, 97, 110, 100], [115, 117, 98], [115, 117, 98, 115, 116, 114], [115, 121, 115, 116, 101, 109], [116, 111, 108, 111, 119, 101, 114], [116, 111, 117, 112, 112, 101, 114]]
def GG : Nat → Option (List V)
  | 0 => some (tab_signs.map V.s)
  | 1 => some (tab_keywords.map V.s)
  | 2 => some (tab_builtins.map V.s)
  | _ => none
def GS (l : List Nat) (g : Nat) : Option (List V) := bif l.contains g then GG g else none

theorem AC.gs {f : FuncId} {vs : List V} {H : Hp} {r : V} {H1 : Hp} {l l1 : List Nat} (h : AC Tryz.prog (GS l) f vs H r H1) (hs : (l.all fun g => l1.contains g) = true) : AC Tryz.prog (GS l1) f vs H r H1 := by
  refine Go.Av.AC.mono h fun g cs hg => ?_
  unfold GS at hg ⊢
  cases hc : l.contains g with
  | false => rw [hc] at hg; cases hg
  | true =>
    rw [hc] at hg
    have := List.all_eq_true.1 hs g (List.contains_iff_mem.1 hc)
    rw [this]
    exact hg

theorem mix : Tryz.prog.follows .mixedOrders = true := by kernel_rfl

theorem wR {G : Nat → Option (List V)} {ops : Array Oper} {draw : Bool} {T0 : List V} {H0 : Hp} {Q : St → Prop} (n q : Nat) {i : Nat} {T : List V} {H : Hp} {Es : List (Bool × Eff)} (k : W Tryz.prog G ops draw T0 H0 (i + n) (aftE D G ops n q i T H).T (aftE D G ops n q i T H).H (Es ++ (aftE D G ops n q i T H).Es) Q) (h : (runE D G ops n q i T H).isSome = true := by kernel_rfl) : W Tryz.prog G ops draw T0 H0 i T H Es Q := W.run Dk n q h k
theorem cU {G : Nat → Option (List V)} {L : Option Nat} (n q : Nat) (T' : List V) (H' : Hp) {id : Nat} {l : List Oper} {draw : Bool} {c : Code} {T : List V} {H : Hp} {Q : Exit → St → Prop} (k : CO L Tryz.prog G c ⟨T', H'⟩ Q) (h : cuC D G l.toArray draw n q T H T' H' = (true, T', some H') := by kernel_rfl) : CO L Tryz.prog G (.seq (.region id l.toArray draw) c) ⟨T, H⟩ Q := cu Dk mix n q T' H' h k
theorem cE {G : Nat → Option (List V)} {L : Option Nat} (n q : Nat) (T' : List V) (H' : Hp) {id : Nat} {l : List Oper} {draw : Bool} {T : List V} {H : Hp} {Q : Exit → St → Prop} (hQ : ∀ st, Weak st ⟨T', H'⟩ → Q .normal st) (h : cuC D G l.toArray draw n q T H T' H' = (true, T', some H') := by kernel_rfl) : CO L Tryz.prog G (.region id l.toArray draw) ⟨T, H⟩ Q := ce Dk mix n q T' H' h hQ

theorem cV {G : Nat → Option (List V)} {L : Option Nat} (q : Nat) {id : Nat} {l : List Oper} {draw : Bool} {c : Code} {T : List V} {H : Hp} {Q : Exit → St → Prop} (k : CO L Tryz.prog G c ⟨(aftE D G l.toArray l.toArray.size q 0 T H).T, (aftE D G l.toArray l.toArray.size q 0 T H).H⟩ Q) (h : lzB D G l.toArray draw q T H = true := by kernel_rfl) : CO L Tryz.prog G (.seq (.region id l.toArray draw) c) ⟨T, H⟩ Q := cv Dk mix q k h
theorem cK {G : Nat → Option (List V)} {L : Option Nat} (q : Nat) {ι : Type} {J : ι → St} {R : ι → Prop} {id : Nat} {l : List Oper} {draw : Bool} {T : List V} {H : Hp} {Q : Exit → St → Prop} (hk : ∀ i, R i → ∀ st, Weak st (J i) → Q .normal st) (i : ι) (hi : R i) (m : Ren) (ks : List Nat) (h : jnC m ks (lzB D G l.toArray draw q T H) (aftE D G l.toArray l.toArray.size q 0 T H).T (aftE D G l.toArray l.toArray.size q 0 T H).H = (true, (J i).T, some (J i).H) := by kernel_rfl) : CO L Tryz.prog G (.region id l.toArray draw) ⟨T, H⟩ Q := ck Dk mix q hk i hi m ks h
theorem cC {G : Nat → Option (List V)} {L : Option Nat} (n q : Nat) {id : Nat} {l : List Oper} {draw : Bool} {c : Code} {T : List V} {H : Hp} {Q : Exit → St → Prop} {fid : FuncId} {vs : List V} {rc : V} (hA : AC Tryz.prog G fid vs [] rc []) (hcf : callOk Tryz.prog fid) (k : CO L Tryz.prog G c ⟨(ccR D G l.toArray n q rc T H).T, (ccR D G l.toArray n q rc T H).H⟩ Q) (h : ccC D G l.toArray draw n q rc T H = (true, some (fid, vs, []), rc) := by kernel_rfl) : CO L Tryz.prog G (.seq (.region id l.toArray draw) c) ⟨T, H⟩ Q := cc Dk mix n q hA hcf k h


structure SToken where
  Kind : Int
  Text : List UInt8
  At : Int
  deriving DecidableEq, Inhabited

def eTk (x : SToken) : List V := [V.i x.Kind, V.s x.Text, V.i x.At]

structure SPos where
  Level : Int
  Dollar : Bool
  NoIn : Bool
  NoGt : Bool
  NoSign : Bool
  deriving DecidableEq, Inhabited

def encSPos (x : SPos) : List V := [V.i x.Level, V.b x.Dollar, V.b x.NoIn, V.b x.NoGt, V.b x.NoSign]

structure SSpan where
  From : Int
  To : Int
  deriving DecidableEq, Inhabited

def encSSpan (x : SSpan) : List V := [V.i x.From, V.i x.To]

structure SNode where
  Kind : Int
  Op : Int
  Text : List UInt8
  Other : List UInt8
  Kids : List Int
  deriving DecidableEq, Inhabited

def eSN (b : Bool) (x : SNode) : List V := [V.i x.Kind, V.i x.Op, V.s x.Text, V.s x.Other, .sl false b (x.Kids.map eNI)]

theorem sh_eSN (b : Bool) (x : SNode) : V.shareL (eSN b x) = eSN false x := by
  simp only [eSN, V.shareL, V.share, V.i, V.s, V.b, shareR_map (enc := eNI) (enc' := eNI) (fun _ => rfl)]

structure SFault where
  Kind : Int
  At : Int
  deriving DecidableEq, Inhabited

def encSFault (x : SFault) : List V := [V.i x.Kind, V.i x.At]

structure SL11X where
  l : List SNode
  held : Bool
  deriving DecidableEq, Inhabited

def encSL11X (b : Bool) (x : SL11X) : List V := [.sl false b (x.l.map (eSN b)), V.b x.held]

theorem share_encSL11X (b : Bool) (x : SL11X) : V.shareL (encSL11X b x) = encSL11X false x := by
  simp only [encSL11X, V.shareL, V.share, V.i, V.s, V.b, shareR_map (enc := (eSN b)) (enc' := (eSN false)) (sh_eSN _)]

structure SRules where
  noIn : Bool
  noGt : Bool
  deriving DecidableEq, Inhabited

def encSRules (x : SRules) : List V := [V.b x.noIn, V.b x.noGt]

structure STree where
  kind : Int
  op : Int
  text : List UInt8
  other : List UInt8
  kids : List STree

instance : Inhabited STree := ⟨⟨0, 0, [], [], []⟩⟩

theorem STree.lt (x : STree) (y : STree) (h : y ∈ x.kids) : SizeOf.sizeOf y < SizeOf.sizeOf x := by
  have := List.sizeOf_lt_of_mem h
  cases x
  simp only [STree.mk.sizeOf_spec] at *
  omega

def eST (x : STree) : List V := [V.i x.kind, V.i x.op, V.s x.text, V.s x.other, .sl false false (x.kids.attach.map fun y => eST y.1)]
termination_by SizeOf.sizeOf x
decreasing_by exact STree.lt x y.1 y.2

theorem encSTree_eq (x : STree) : eST x = [V.i x.kind, V.i x.op, V.s x.text, V.s x.other, .sl false false (x.kids.map eST)] := by
  rw [eST]
  simp only [List.attach_map_val (f := eST), List.map_attach_eq_pmap, List.pmap_eq_map]

theorem share_encSTree (x : STree) : V.shareL (eST x) = eST x := by
  have hk : x.kids.map (V.shareL ∘ eST) = x.kids.map eST := List.map_congr_left fun y hy => share_encSTree y
  rw [encSTree_eq]
  simp only [V.shareL, V.share, V.shareR_eq, V.i, V.s, V.b, List.map_map]
  rw [hk]
termination_by SizeOf.sizeOf x
decreasing_by exact STree.lt x y hy

structure SPart where
  tree : STree
  target : Bool
  deriving Inhabited

def encSPart (x : SPart) : List V := [V.i x.tree.kind, V.i x.tree.op, V.s x.tree.text, V.s x.tree.other, .sl false false (x.tree.kids.map eST), V.b x.target]

theorem share_encSPart (x : SPart) : V.shareL (encSPart x) = encSPart x := by
  simp only [encSPart, V.shareL, V.share, V.i, V.s, V.b, shareR_map (enc := eST) (enc' := eST) (share_encSTree)]

abbrev LU := List UInt8
abbrev LLU := List (List UInt8)
abbrev LT := List SToken
abbrev LN := List SNode
abbrev T1 := SPart × Int × Bool × LLU
abbrev T2 := SL11X × Int × Bool × LT
abbrev sL {α : Type} (f : α → List V) (x : List α) : V := .sl false false (x.map f)
abbrev vX {α : Type} (t k : Nat) (f : α → List V) (x : List α) : Ob := .vec false t k (x.map f)
abbrev vN (x : LLU) : Ob := .vec false 9 1 (x.map eNS)
abbrev cP (t : Nat) (x : LT) (i : Int) (b : Bool) (k : Nat) : Ob := .cells t [.sl false false (x.map eTk), V.i i, V.b b, .own k]
abbrev aP (x : SPart) : List V := [V.i x.tree.kind, V.i x.tree.op, V.s x.tree.text, V.s x.tree.other, .sl false false (x.tree.kids.map eST), V.b x.target]
abbrev AC0 := AC Tryz.prog (GS [])
theorem lO {H : Hp} : LayOk H [] := trivial

def ml_szToken (a0 : SToken) (a1 : Int) : Option Int :=
  bif (decide ((IntKind.wrap .i64 (a1 - (a0.Text.length : Int))) < 0)) then some (-1) else (some (IntKind.wrap .i64 (a1 - (a0.Text.length : Int))))

def ml_szTokenS_l1 (N : Nat) : Nat → (LT × Int × Int) → Option Int
  | 0, _ => none
  | n1 + 1, (a0, y37, y38) => bif (decide (y38 < (a0.length : Int))) then (ix a0 y38).bind fun e55 => (ml_szToken e55 y37).bind fun r56 => bif (decide (r56 < 0)) then some (-1) else ((ml_szTokenS_l1 N n1) (a0, r56, (IntKind.wrap .i64 (y38 + 1)))) else (some y37)
def ml_szTokenS (N : Nat) (a0 : LT) (a1 : Int) : Option Int :=
  bif (decide ((IntKind.wrap .i64 (a1 - (a0.length : Int))) < 0)) then some (-1) else (ml_szTokenS_l1 N N (a0, (IntKind.wrap .i64 (a1 - (a0.length : Int))), 0))

def ml_toToken (a0 : SToken) : Option SToken :=
  some a0

def ml_toTokenS_l1 (N : Nat) : Nat → (LT × Int × LT) → Option LT
  | 0, _ => none
  | n1 + 1, (a0, y71, y72) => bif (decide (y71 < (a0.length : Int))) then (ix a0 y71).bind fun e103 => (ml_toToken e103).bind fun r104 => (ix y72 y71).bind fun e105 => (upd y72 y71 r104).bind fun x106 => (ml_toTokenS_l1 N n1) (a0, (IntKind.wrap .i64 (y71 + 1)), x106) else (some y72)
def ml_toTokenS (N : Nat) (a0 : LT) : Option LT :=
  (mk 32 (⟨0, [], 0⟩ : SToken) (a0.length : Int)).bind fun x2 => ml_toTokenS_l1 N N (a0, 0, x2)

def ml_toPos (a0 : SPos) : Option SPos :=
  some a0

def ms_PairsOf_k2 (N : Nat) (kb1 : (LT × Int × (List SSpan)) → Option (List SSpan)) : (LT × Int × (List SSpan)) → Option (List SSpan)
  | (a0, y697, y972) => kb1 (a0, (IntKind.wrap .i64 (y697 + 1)), y972)
def ms_PairsOf_k5 (N : Nat) (kb1 : (LT × Int × (List SSpan)) → Option (List SSpan)) (kb3 : (LT × Int × (List SSpan) × Int × Int) → Option (List SSpan)) : (LT × Int × Int × (List SSpan) × Int) → Option (List SSpan)
  | (a0, y697, y1012, y698, y1056) => bif (y1056 == 0) then (app 16 y698 [(⟨y697, y1012⟩ : SSpan)]).bind fun x1058 => ms_PairsOf_k2 N kb1 (a0, y697, x1058) else (kb3 (a0, y697, y698, y1056, (IntKind.wrap .i64 (y1012 + 1))))
def ms_PairsOf_k4 (N : Nat) (kb1 : (LT × Int × (List SSpan)) → Option (List SSpan)) (kb3 : (LT × Int × (List SSpan) × Int × Int) → Option (List SSpan)) : (LT × Int × Int × (List SSpan) × Int) → Option (List SSpan)
  | (a0, y697, y1012, y698, y1053) => (ix a0 y1012).bind fun e1060 => bif (e1060.Kind == 33) then ms_PairsOf_k5 N kb1 kb3 (a0, y697, y1012, y698, (IntKind.wrap .i64 (y1053 - 1))) else (ms_PairsOf_k5 N kb1 kb3 (a0, y697, y1012, y698, y1053))
def ms_PairsOf_l3 (N : Nat) (kb1 : (LT × Int × (List SSpan)) → Option (List SSpan)) : Nat → (LT × Int × (List SSpan) × Int × Int) → Option (List SSpan)
  | 0, _ => none
  | n3 + 1, (a0, y697, y698, y1011, y1012) => bif (decide (y1012 < (a0.length : Int))) then (ix a0 y1012).bind fun e1062 => bif (e1062.Kind == 32) then ms_PairsOf_k4 N kb1 (ms_PairsOf_l3 N kb1 n3) (a0, y697, y1012, y698, (IntKind.wrap .i64 (y1011 + 1))) else (ms_PairsOf_k4 N kb1 (ms_PairsOf_l3 N kb1 n3) (a0, y697, y1012, y698, y1011)) else (ms_PairsOf_k2 N kb1 (a0, y697, y698))
def ms_PairsOf_l1 (N : Nat) : Nat → (LT × Int × (List SSpan)) → Option (List SSpan)
  | 0, _ => none
  | n1 + 1, (a0, y697, y698) => bif (decide (y697 < (a0.length : Int))) then ((ix a0 y697).bind fun e984 => bif (e984.Kind != 32) then some true else (bif (decide (y697 > 0)) then (ix a0 (IntKind.wrap .i64 (y697 - 1))).bind fun e985 => bif (e985.Kind == 7) then some true else ((ix a0 (IntKind.wrap .i64 (y697 - 1))).bind fun e986 => some (e986.Kind == 8)) else (some false))).bind fun y983 => bif y983 then ms_PairsOf_k2 N (ms_PairsOf_l1 N n1) (a0, y697, y698) else (ms_PairsOf_l3 N (ms_PairsOf_l1 N n1) N (a0, y697, y698, 0, y697)) else (some y698)
def ms_PairsOf (N : Nat) (a0 : LT) : Option (List SSpan) :=
  ms_PairsOf_l1 N N (a0, 0, [])

def ms_Without_k2 (N : Nat) (kb1 : (LT × SSpan × Int × LT) → Option LT) : (LT × Int × SSpan × LT) → Option LT
  | (a0, y49, a1, y69) => kb1 (a0, a1, (IntKind.wrap .i64 (y49 + 1)), y69)
def ms_Without_l1 (N : Nat) : Nat → (LT × SSpan × Int × LT) → Option LT
  | 0, _ => none
  | n1 + 1, (a0, a1, y49, y50) => bif (decide (y49 < (a0.length : Int))) then (bif (y49 != a1.From) then some (y49 != a1.To) else (some false)).bind fun y70 => bif y70 then (ix a0 y49).bind fun e73 => (app 32 y50 [e73]).bind fun x74 => ms_Without_k2 N (ms_Without_l1 N n1) (a0, y49, a1, x74) else (ms_Without_k2 N (ms_Without_l1 N n1) (a0, y49, a1, y50)) else (some y50)
def ms_Without (N : Nat) (a0 : LT) (a1 : SSpan) : Option LT :=
  ms_Without_l1 N N (a0, a1, 0, [])

def ms_l1In (a0 : Int) (a1 : Int) (a2 : Int) : Option Bool :=
  (bif (decide (a0 ≥ a1)) then some (decide (a0 ≤ a2)) else (some false)).bind fun y1 => some y1

def ms_PosOk (a0 : SPos) : Option Bool :=
  ((ms_l1In a0.Level 1 15).bind fun r3 => bif r3 then bif (!a0.Dollar) then some true else (some (a0.Level == 14)) else (some false)).bind fun y2 => some y2

def ms_l4Plain_l1 (N : Nat) : Nat → (LU × Int) → Option Bool
  | 0, _ => none
  | n1 + 1, (a0, y19) => bif (decide (y19 < (a0.length : Int))) then (ix a0 y19).bind fun b28 => bif (((b28).toNat : Int) == 10) then some false else ((ms_l4Plain_l1 N n1) (a0, (IntKind.wrap .i64 (y19 + 1)))) else (some true)
def ms_l4Plain (N : Nat) (a0 : LU) : Option Bool :=
  ms_l4Plain_l1 N N (a0, 0)

def ms_l4Byte (a0 : LU) (a1 : Int) : Option Int :=
  (bif (decide (a1 < 0)) then some true else (some (decide (a1 ≥ (a0.length : Int))))).bind fun y2 => bif y2 then some (-1) else ((ix a0 a1).bind fun b4 => some (IntKind.wrap .i64 ((b4).toNat : Int)))

def ms_IsDigit (a0 : Int) : Option Bool :=
  (ms_l1In a0 48 57).bind fun r2 => some r2

def ms_l4Digits_l1 (N : Nat) : Nat → (LU × Int) → Option Int
  | 0, _ => none
  | n1 + 1, (a0, a1) => (ms_l4Byte a0 a1).bind fun r33 => (ms_IsDigit r33).bind fun r34 => bif r34 then (ms_l4Digits_l1 N n1) (a0, (IntKind.wrap .i64 (a1 + 1))) else (some a1)
def ms_l4Digits (N : Nat) (a0 : LU) (a1 : Int) : Option Int :=
  ms_l4Digits_l1 N N (a0, a1)

def ms_NumEnd_k2 (N : Nat) : Int → Option Int
  | y9 => some y9
def ms_NumEnd_k3 (N : Nat) : (LU × Int × Int) → Option Int
  | (a0, y9, y40) => (ms_l4Digits N a0 y40).bind fun r42 => bif (decide (r42 > y40)) then (ms_l4Digits N a0 y40).bind fun r44 => some r44 else (ms_NumEnd_k2 N y9)
def ms_NumEnd_k1 (N : Nat) : (LU × Int × Int) → Option Int
  | (a0, a1, y9) => bif (y9 == a1) then some (-1) else (((ms_l4Byte a0 y9).bind fun r33 => bif (r33 == 101) then some true else ((ms_l4Byte a0 y9).bind fun r34 => some (r34 == 69))).bind fun y32 => bif y32 then ((ms_l4Byte a0 (IntKind.wrap .i64 (y9 + 1))).bind fun r48 => bif (r48 == 43) then some true else ((ms_l4Byte a0 (IntKind.wrap .i64 (y9 + 1))).bind fun r49 => some (r49 == 45))).bind fun y47 => bif y47 then ms_NumEnd_k3 N (a0, y9, (IntKind.wrap .i64 ((IntKind.wrap .i64 (y9 + 1)) + 1))) else (ms_NumEnd_k3 N (a0, y9, (IntKind.wrap .i64 (y9 + 1)))) else (ms_NumEnd_k2 N y9))
def ms_NumEnd (N : Nat) (a0 : LU) (a1 : Int) : Option Int :=
  bif (decide (a1 < 0)) then some (-1) else ((ms_l4Digits N a0 a1).bind fun r2 => (ms_l4Byte a0 r2).bind fun r51 => bif (r51 == 46) then (ms_l4Digits N a0 (IntKind.wrap .i64 (r2 + 1))).bind fun r53 => (bif (r2 == a1) then some (r53 == (IntKind.wrap .i64 (r2 + 1))) else (some false)).bind fun y55 => bif y55 then some (-1) else (ms_NumEnd_k1 N (a0, a1, r53)) else (ms_NumEnd_k1 N (a0, a1, r2)))

def ms_l4Quoted_k2 (N : Nat) (kb1 : (LU × Int × Int) → Option Int) : (LU × Int × Int) → Option Int
  | (a0, a2, y58) => kb1 (a0, a2, (IntKind.wrap .i64 (y58 + 1)))
def ms_l4Quoted_l1 (N : Nat) : Nat → (LU × Int × Int) → Option Int
  | 0, _ => none
  | n1 + 1, (a0, a2, y43) => bif (decide (y43 < (a0.length : Int))) then (ix a0 y43).bind fun b60 => bif ((IntKind.wrap .i64 ((b60).toNat : Int)) == a2) then some (IntKind.wrap .i64 (y43 + 1)) else (bif ((IntKind.wrap .i64 ((b60).toNat : Int)) == 10) then some (-1) else (bif ((IntKind.wrap .i64 ((b60).toNat : Int)) == 92) then (ms_l4Byte a0 (IntKind.wrap .i64 (y43 + 1))).bind fun r62 => bif (r62 == 10) then some (-1) else (ms_l4Quoted_k2 N (ms_l4Quoted_l1 N n1) (a0, a2, (IntKind.wrap .i64 (y43 + 1)))) else (ms_l4Quoted_k2 N (ms_l4Quoted_l1 N n1) (a0, a2, y43)))) else (some (-1))
def ms_l4Quoted (N : Nat) (a0 : LU) (a1 : Int) (a2 : Int) : Option Int :=
  (ms_l4Byte a0 a1).bind fun r4 => bif (r4 != a2) then some (-1) else (ms_l4Quoted_l1 N N (a0, a2, (IntKind.wrap .i64 (a1 + 1))))

def ms_StrEnd (N : Nat) (a0 : LU) (a1 : Int) : Option Int :=
  (ms_l4Quoted N a0 a1 34).bind fun r2 => some r2

def ms_EreEnd (N : Nat) (a0 : LU) (a1 : Int) : Option Int :=
  (ms_l4Quoted N a0 a1 47).bind fun r2 => bif (r2 == (IntKind.wrap .i64 (a1 + 2))) then some (-1) else (some r2)

def ms_IsLetter (a0 : Int) : Option Bool :=
  ((ms_l1In a0 97 122).bind fun r4 => bif r4 then some true else ((ms_l1In a0 65 90).bind fun r5 => bif r5 then some true else (some (a0 == 95)))).bind fun y3 => some y3

def ms_IsWordByte (a0 : Int) : Option Bool :=
  ((ms_IsLetter a0).bind fun r4 => bif r4 then some true else ((ms_IsDigit a0).bind fun r5 => some r5)).bind fun y3 => some y3

def ms_NameShape_l1 (N : Nat) : Nat → (LU × Int) → Option Bool
  | 0, _ => none
  | n1 + 1, (a0, y35) => bif (decide (y35 < (a0.length : Int))) then (ix a0 y35).bind fun b51 => (ms_IsWordByte (IntKind.wrap .i64 ((b51).toNat : Int))).bind fun r52 => bif (!r52) then some false else ((ms_NameShape_l1 N n1) (a0, (IntKind.wrap .i64 (y35 + 1)))) else (((ms_l1In (a0.length : Int) 1 12).bind fun r57 => bif r57 then (ix a0 0).bind fun b58 => (ms_IsLetter (IntKind.wrap .i64 ((b58).toNat : Int))).bind fun r59 => some r59 else (some false)).bind fun y56 => some y56)
def ms_NameShape (N : Nat) (a0 : LU) : Option Bool :=
  ms_NameShape_l1 N N (a0, 0)

def ms_l3Words : Option LLU :=
  some [[66, 69, 71, 73, 78], [69, 78, 68], [102, 117, 110, 99, 116, 105, 111, 110], [105, 102], [101, 108, 115, 101], [119, 104, 105, 108, 101], [102, 111, 114], [100, 111], [98, 114, 101, 97, 107], [99, 111, 110, 116, 105, 110, 117, 101], [110, 101, 120, 116], [101, 120, 105, 116], [114, 101, 116, 117, 114, 110], [100, 101, 108, 101, 116, 101], [105, 110], [112, 114, 105, 110, 116], [112, 114, 105, 110, 116, 102]]

def ms_l3Find_l1 (N : Nat) : Nat → (LLU × LU × Int) → Option Int
  | 0, _ => none
  | n1 + 1, (a0, a1, y19) => bif (decide (y19 < (a0.length : Int))) then (ix a0 y19).bind fun e28 => bif (e28 == a1) then some y19 else ((ms_l3Find_l1 N n1) (a0, a1, (IntKind.wrap .i64 (y19 + 1)))) else (some (-1))
def ms_l3Find (N : Nat) (a0 : LLU) (a1 : LU) : Option Int :=
  ms_l3Find_l1 N N (a0, a1, 0)

def ms_KeywordOf (N : Nat) (a0 : LU) : Option Int :=
  Option.bind ms_l3Words fun r3 => (ms_l3Find N r3 a0).bind fun r4 => bif (decide (r4 < 0)) then some 0 else (some (IntKind.wrap .i64 (10 + r4)))

def ms_l3Builtins : Option LLU :=
  some [[97, 116, 97, 110, 50], [99, 108, 111, 115, 101], [99, 111, 115], [101, 120, 112], [103, 115, 117, 98], [105, 110, 100, 101, 120], [105, 110, 116], [108, 101, 110, 103, 116, 104], [108, 111, 103], [109, 97, 116, 99, 104], [114, 97, 110, 100], [115, 105, 110], [115, 112, 108, 105, 116], [115, 112, 114, 105, 110, 116, 102], [115, 113, 114, 116], [115, 114, 97, 110, 100], [115, 117, 98], [115, 117, 98, 115, 116, 114], [115, 121, 115, 116, 101, 109], [116, 111, 108, 111, 119, 101, 114], [116, 111, 117, 112, 112, 101, 114]]

def ms_IsBuiltin (N : Nat) (a0 : LU) : Option Bool :=
  Option.bind ms_l3Builtins fun r3 => (ms_l3Find N r3 a0).bind fun r4 => some (decide (r4 ≥ 0))

def ms_NameOk (N : Nat) (a0 : LU) : Option Bool :=
  ((ms_NameShape N a0).bind fun r5 => bif r5 then (ms_KeywordOf N a0).bind fun r6 => bif (r6 == 0) then (ms_IsBuiltin N a0).bind fun r7 => some (!r7) else (some false) else (some false)).bind fun y4 => some y4

def ms_l3Signs : Option LLU :=
  some [[123], [125], [40], [41], [91], [93], [44], [59], [43, 61], [45, 61], [42, 61], [47, 61], [37, 61], [94, 61], [124, 124], [38, 38], [33, 126], [61, 61], [60, 61], [62, 61], [33, 61], [43, 43], [45, 45], [62, 62], [61], [43], [45], [42], [47], [37], [94], [33], [62], [60], [124], [63], [58], [126], [36]]

def ms_SpellOf (a0 : Int) : Option LU :=
  bif (a0 == 1) then some [10] else ((ms_l1In a0 10 26).bind fun r14 => bif r14 then Option.bind ms_l3Words fun r17 => (ix r17 (IntKind.wrap .i64 (a0 - 10))).bind fun e18 => some e18 else ((ms_l1In a0 30 68).bind fun r20 => bif r20 then Option.bind ms_l3Signs fun r23 => (ix r23 (IntKind.wrap .i64 (a0 - 30))).bind fun e24 => some e24 else (some [])))

def ms_TokenOk_k1 (N : Nat) : (SToken × Bool) → Option Bool
  | (a0, y30) => bif y30 then (ms_NameOk N a0.Text).bind fun r32 => some r32 else (bif (a0.Kind == 8) then (ms_IsBuiltin N a0.Text).bind fun r34 => some r34 else ((bif (!(a0.Text == [])) then (ms_SpellOf a0.Kind).bind fun r37 => some (r37 == a0.Text) else (some false)).bind fun y36 => some y36))
def ms_TokenOk (N : Nat) (a0 : SToken) : Option Bool :=
  bif (a0.Kind == 2) then (bif (decide ((a0.Text.length : Int) > 0)) then (ix a0.Text 0).bind fun b21 => bif (((b21).toNat : Int) == 35) then (ms_l4Plain N a0.Text).bind fun r22 => some r22 else (some false) else (some false)).bind fun y20 => some y20 else (bif (a0.Kind == 3) then (bif (decide ((a0.Text.length : Int) > 0)) then (ms_NumEnd N a0.Text 0).bind fun r25 => some (r25 == (a0.Text.length : Int)) else (some false)).bind fun y24 => some y24 else (bif (a0.Kind == 4) then (ms_StrEnd N a0.Text 0).bind fun r27 => some (r27 == (a0.Text.length : Int)) else (bif (a0.Kind == 5) then (ms_EreEnd N a0.Text 0).bind fun r29 => some (r29 == (a0.Text.length : Int)) else (bif (a0.Kind == 6) then ms_TokenOk_k1 N (a0, (a0.Kind == 6)) else (ms_TokenOk_k1 N (a0, (a0.Kind == 7)))))))

def ms_EndsOperand_k1 : Bool → Option Bool
  | y2 => bif y2 then some true else (some false)
def ms_EndsOperand (a0 : Int) : Option Bool :=
  bif (a0 == 3) then ms_EndsOperand_k1 (a0 == 3) else (bif (a0 == 4) then ms_EndsOperand_k1 (a0 == 4) else (bif (a0 == 5) then ms_EndsOperand_k1 (a0 == 5) else (bif (a0 == 6) then ms_EndsOperand_k1 (a0 == 6) else (bif (a0 == 8) then ms_EndsOperand_k1 (a0 == 8) else (bif (a0 == 33) then ms_EndsOperand_k1 (a0 == 33) else (bif (a0 == 35) then ms_EndsOperand_k1 (a0 == 35) else (bif (a0 == 51) then ms_EndsOperand_k1 (a0 == 51) else (ms_EndsOperand_k1 (a0 == 52)))))))))

def ms_TokensOk_k2 (N : Nat) (kb1 : (LT × Int × Int) → Option Bool) : (LT × Int × Int × Int) → Option Bool
  | (a0, y317, y318, y440) => (ix a0 y318).bind fun e442 => ((ix a0 y318).bind fun e451 => (ms_TokenOk N e451).bind fun r452 => bif (!r452) then some true else (bif (e442.Kind == 7) then bif (y440 != 32) then some true else (bif (e442.Kind == 2) then bif (y440 != 1) then some (decide ((IntKind.wrap .i64 (y318 + 1)) < (a0.length : Int))) else (some false) else (some false)) else (bif (e442.Kind == 2) then bif (y440 != 1) then some (decide ((IntKind.wrap .i64 (y318 + 1)) < (a0.length : Int))) else (some false) else (some false)))).bind fun y450 => bif y450 then some false else ((bif (e442.Kind == 5) then (ms_EndsOperand y317).bind fun r470 => bif r470 then some true else (bif (e442.Kind == 58) then (ms_EndsOperand y317).bind fun r471 => some (!r471) else (bif (e442.Kind == 41) then (ms_EndsOperand y317).bind fun r472 => some (!r472) else (some false))) else (bif (e442.Kind == 58) then (ms_EndsOperand y317).bind fun r473 => some (!r473) else (bif (e442.Kind == 41) then (ms_EndsOperand y317).bind fun r474 => some (!r474) else (some false)))).bind fun y469 => bif y469 then some false else (kb1 (a0, e442.Kind, (IntKind.wrap .i64 (y318 + 1)))))
def ms_TokensOk_l1 (N : Nat) : Nat → (LT × Int × Int) → Option Bool
  | 0, _ => none
  | n1 + 1, (a0, y317, y318) => bif (decide (y318 < (a0.length : Int))) then bif (decide ((IntKind.wrap .i64 (y318 + 1)) < (a0.length : Int))) then (ix a0 (IntKind.wrap .i64 (y318 + 1))).bind fun e476 => ms_TokensOk_k2 N (ms_TokensOk_l1 N n1) (a0, y317, y318, e476.Kind) else (ms_TokensOk_k2 N (ms_TokensOk_l1 N n1) (a0, y317, y318, 0)) else (some true)
def ms_TokensOk (N : Nat) (a0 : LT) : Option Bool :=
  bif (decide ((a0.length : Int) > 3000)) then some false else (ms_TokensOk_l1 N N (a0, 0, 0))

def ms_l10Close (a0 : Int) : Option Bool :=
  (bif (a0 == 33) then some true else (bif (a0 == 35) then some true else (some (a0 == 31)))).bind fun y1 => some y1

def ms_l10Open (a0 : Int) : Option Bool :=
  (bif (a0 == 32) then some true else (bif (a0 == 34) then some true else (some (a0 == 30)))).bind fun y1 => some y1

def ms_NestOf_k3 (N : Nat) (kb1 : (LT × Int × Int) → Option Int) : (LT × Int × Int) → Option Int
  | (a0, y150, y216) => bif (decide (y216 > 40)) then some y150 else (kb1 (a0, y216, (IntKind.wrap .i64 (y150 + 1))))
def ms_NestOf_k2 (N : Nat) (kb1 : (LT × Int × Int) → Option Int) : (LT × Int × Int) → Option Int
  | (a0, y150, y211) => (ix a0 y150).bind fun e219 => (ms_l10Open e219.Kind).bind fun r220 => bif r220 then ms_NestOf_k3 N kb1 (a0, y150, (IntKind.wrap .i64 (y211 + 1))) else (ms_NestOf_k3 N kb1 (a0, y150, y211))
def ms_NestOf_l1 (N : Nat) : Nat → (LT × Int × Int) → Option Int
  | 0, _ => none
  | n1 + 1, (a0, y149, y150) => bif (decide (y150 < (a0.length : Int))) then (ix a0 y150).bind fun e223 => (ms_l10Close e223.Kind).bind fun r224 => bif r224 then ms_NestOf_k2 N (ms_NestOf_l1 N n1) (a0, y150, (if (IntKind.wrap .i64 (y149 - 1)) > 0 then (IntKind.wrap .i64 (y149 - 1)) else 0)) else (ms_NestOf_k2 N (ms_NestOf_l1 N n1) (a0, y150, y149)) else (some (-1))
def ms_NestOf (N : Nat) (a0 : LT) : Option Int :=
  ms_NestOf_l1 N N (a0, 0, 0)

def ms_l11Fault (a0 : LT) (a1 : Int) (a2 : Int) : Option SFault :=
  bif (decide (a1 < (a0.length : Int))) then (ix a0 a1).bind fun e4 => some (⟨a2, e4.At⟩ : SFault) else (bif ((a0.length : Int) == 0) then some (⟨a2, 0⟩ : SFault) else ((ix a0 (IntKind.wrap .i64 ((a0.length : Int) - 1))).bind fun e6 => some (⟨a2, (IntKind.wrap .i64 (e6.At + (e6.Text.length : Int)))⟩ : SFault)))

def ms_BeginsOperand_k1 : Bool → Option Bool
  | y2 => bif y2 then some true else (some false)
def ms_BeginsOperand (a0 : Int) : Option Bool :=
  bif (a0 == 3) then ms_BeginsOperand_k1 (a0 == 3) else (bif (a0 == 4) then ms_BeginsOperand_k1 (a0 == 4) else (bif (a0 == 6) then ms_BeginsOperand_k1 (a0 == 6) else (bif (a0 == 7) then ms_BeginsOperand_k1 (a0 == 7) else (bif (a0 == 8) then ms_BeginsOperand_k1 (a0 == 8) else (bif (a0 == 32) then ms_BeginsOperand_k1 (a0 == 32) else (ms_BeginsOperand_k1 (a0 == 68)))))))

def ms_l11Kind (pa : LT) (pb : Int) (pc : Bool) (p1 : LT) : Option Int :=
  bif (decide (pb ≥ (pa.length : Int))) then some 0 else ((ix pa pb).bind fun e2 => some e2.Kind)

def ms_l11Signs (a0 : Int) : Option Bool :=
  (bif (a0 == 51) then some true else (some (a0 == 52))).bind fun y1 => some y1

def ms_l11Take (a1 : Int) (pa : LT) (pb : Int) (pc : Bool) (p1 : LT) : Option (SToken × Int × Bool) :=
  (bif pc then some true else ((ms_l11Kind pa pb pc p1).bind fun r6 => some (r6 != a1))).bind fun y5 => bif y5 then some ((⟨0, [], 0⟩ : SToken), pb, true) else ((ix pa pb).bind fun e8 => some (e8, (IntKind.wrap .i64 (pb + 1)), pc))

def ms_l11Part (a0 : SPos) (a1 : Int) : Option SPos :=
  some (⟨a1, false, a0.NoIn, a0.NoGt, false⟩ : SPos)

def ms_l11Root (a0 : SL11X) : Option SNode :=
  bif ((a0.l.length : Int) == 0) then some (⟨0, 0, [], [], []⟩ : SNode) else ((ix a0.l (IntKind.wrap .i64 ((a0.l.length : Int) - 1))).bind fun e2 => some e2)

def ms_IsLvalue (a0 : Int) : Option Bool :=
  (bif (a0 == 1) then some true else (bif (a0 == 5) then some true else (some (a0 == 6)))).bind fun y1 => some y1

def ms_l11Put (a0 : SL11X) : Option Bool :=
  (bif (!a0.held) then (ms_l11Root a0).bind fun r4 => (ms_IsLvalue r4.Kind).bind fun r5 => some r5 else (some false)).bind fun y3 => some y3

def ms_l7IsAssign (a0 : Int) : Option Bool :=
  (bif (a0 == 54) then some true else ((ms_l1In a0 38 43).bind fun r3 => some r3)).bind fun y2 => some y2

def ms_l6Shift_l2 (N : Nat) (kb1 : (LN × Int × Int × LN) → Option LN) : Nat → (LN × Int × Int × LN × SNode × Int × (List Int)) → Option LN
  | 0, _ => none
  | n2 + 1, (a0, a1, y869, y870, e1198, y1267, y1268) => (ix a0 y869).bind fun e1290 => bif (decide (y1267 < (e1290.Kids.length : Int))) then (ix a0 y869).bind fun e1300 => (ix e1300.Kids y1267).bind fun e1301 => (app 8 y1268 [(IntKind.wrap .i64 (e1301 + a1))]).bind fun x1302 => (ms_l6Shift_l2 N kb1 n2) (a0, a1, y869, y870, e1198, (IntKind.wrap .i64 (y1267 + 1)), x1302) else ((app 72 y870 [(⟨e1198.Kind, e1198.Op, e1198.Text, e1198.Other, y1268⟩ : SNode)]).bind fun x1304 => kb1 (a0, a1, (IntKind.wrap .i64 (y869 + 1)), x1304))
def ms_l6Shift_l1 (N : Nat) : Nat → (LN × Int × Int × LN) → Option LN
  | 0, _ => none
  | n1 + 1, (a0, a1, y869, y870) => bif (decide (y869 < (a0.length : Int))) then (ix a0 y869).bind fun e1198 => ms_l6Shift_l2 N (ms_l6Shift_l1 N n1) N (a0, a1, y869, y870, e1198, 0, []) else (some y870)
def ms_l6Shift (N : Nat) (a0 : LN) (a1 : Int) : Option LN :=
  ms_l6Shift_l1 N N (a0, a1, 0, [])

def ms_l6Make_l1 (N : Nat) : Nat → ((List LN) × SNode × Int × LN × (List Int)) → Option LN
  | 0, _ => none
  | n1 + 1, (a1, a0, y71, y72, y73) => bif (decide (y71 < (a1.length : Int))) then (ix a1 y71).bind fun e104 => (ms_l6Shift N e104 (y72.length : Int)).bind fun r105 => (app 72 y72 r105).bind fun x106 => (app 8 y73 [(IntKind.wrap .i64 ((x106.length : Int) - 1))]).bind fun x108 => (ms_l6Make_l1 N n1) (a1, a0, (IntKind.wrap .i64 (y71 + 1)), x106, x108) else ((app 72 y72 [(⟨a0.Kind, a0.Op, a0.Text, a0.Other, y73⟩ : SNode)]).bind fun x110 => some x110)
def ms_l6Make (N : Nat) (a0 : SNode) (a1 : List LN) : Option LN :=
  ms_l6Make_l1 N N (a1, a0, 0, [], [])

def ms_l11Over (N : Nat) (a0 : SNode) (a1 : List LN) : Option SL11X :=
  (ms_l6Make N a0 a1).bind fun r2 => some (⟨r2, false⟩ : SL11X)

def ms_l11Comma_k3 (N : Nat) (pa : LT) (pb : Int) (pc : Bool) (p1 : LT) (kb1 : (Int × Int) → Option Bool) : (Int × Int) → Option Bool
  | (y180, y255) => bif (y255 == 0) then some false else ((bif (y255 == 1) then (ix pa y180).bind fun e258 => some (e258.Kind == 36) else (some false)).bind fun y257 => bif y257 then some true else (kb1 (y255, (IntKind.wrap .i64 (y180 + 1)))))
def ms_l11Comma_k2 (N : Nat) (pa : LT) (pb : Int) (pc : Bool) (p1 : LT) (kb1 : (Int × Int) → Option Bool) : (Int × Int) → Option Bool
  | (y180, y250) => (ix pa y180).bind fun e261 => (ms_l10Close e261.Kind).bind fun r262 => bif r262 then ms_l11Comma_k3 N pa pb pc p1 kb1 (y180, (IntKind.wrap .i64 (y250 - 1))) else (ms_l11Comma_k3 N pa pb pc p1 kb1 (y180, y250))
def ms_l11Comma_l1 (N : Nat) (pa : LT) (pb : Int) (pc : Bool) (p1 : LT) : Nat → (Int × Int) → Option Bool
  | 0, _ => none
  | n1 + 1, (y179, y180) => bif (decide (y180 < (pa.length : Int))) then (ix pa y180).bind fun e265 => (ms_l10Open e265.Kind).bind fun r266 => bif r266 then ms_l11Comma_k2 N pa pb pc p1 (ms_l11Comma_l1 N pa pb pc p1 n1) (y180, (IntKind.wrap .i64 (y179 + 1))) else (ms_l11Comma_k2 N pa pb pc p1 (ms_l11Comma_l1 N pa pb pc p1 n1) (y180, y179)) else (some false)
def ms_l11Comma (N : Nat) (pa : LT) (pb : Int) (pc : Bool) (p1 : LT) : Option Bool :=
  (bif pc then some true else ((ms_l11Kind pa pb pc p1).bind fun r6 => some (r6 != 32))).bind fun y5 => bif y5 then some false else (ms_l11Comma_l1 N pa pb pc p1 N (0, pb))

def ms_Top : Option SPos :=
  some (⟨1, false, false, false, false⟩ : SPos)

def ms_l11Lines_k2 (N : Nat) (pa : LT) (pc : Bool) (kb1 : (Int × LT) → Option (Int × LT)) : (Int × LT) → Option (Int × LT)
  | (y24, y67) => kb1 ((IntKind.wrap .i64 (y24 + 1)), y67)
def ms_l11Lines_l1 (N : Nat) (pa : LT) (pc : Bool) : Nat → (Int × LT) → Option (Int × LT)
  | 0, _ => none
  | n1 + 1, (y24, y25) => (bif (!pc) then (ms_l11Kind pa y24 pc y25).bind fun r59 => bif (r59 == 1) then some true else ((ms_l11Kind pa y24 pc y25).bind fun r60 => some (r60 == 2)) else (some false)).bind fun y58 => bif y58 then (ms_l11Kind pa y24 pc y25).bind fun r69 => bif (r69 == 2) then (ix pa y24).bind fun e72 => (app 32 y25 [e72]).bind fun x73 => ms_l11Lines_k2 N pa pc (ms_l11Lines_l1 N pa pc n1) (y24, x73) else (ms_l11Lines_k2 N pa pc (ms_l11Lines_l1 N pa pc n1) (y24, y25)) else (some (y24, y25))
def ms_l11Lines (N : Nat) (pa : LT) (pb : Int) (pc : Bool) (p1 : LT) : Option (Int × LT) :=
  ms_l11Lines_l1 N pa pc N (pb, p1)

def ms_l11Any (a0 : Int) : Option Int :=
  (ix [0, 0, 0, 44, 45, 0, 67, 63, 99, 55, 57] a0).bind fun e2 => some e2

def ms_OpLevel_k4 : (Int × Bool) → Option Int
  | (a0, y8) => bif y8 then some 10 else (bif (a0 == 60) then some 12 else (some 0))
def ms_OpLevel_k3 : (Int × Bool) → Option Int
  | (a0, y7) => bif y7 then some 9 else (bif (a0 == 57) then ms_OpLevel_k4 (a0, (a0 == 57)) else (bif (a0 == 58) then ms_OpLevel_k4 (a0, (a0 == 58)) else (ms_OpLevel_k4 (a0, (a0 == 59)))))
def ms_OpLevel_k2 : (Int × Bool) → Option Int
  | (a0, y6) => bif y6 then some 7 else (bif (a0 == 99) then some 8 else (bif (a0 == 55) then ms_OpLevel_k3 (a0, (a0 == 55)) else (ms_OpLevel_k3 (a0, (a0 == 56)))))
def ms_OpLevel_k1 : (Int × Bool) → Option Int
  | (a0, y5) => bif y5 then some 6 else (bif (a0 == 63) then ms_OpLevel_k2 (a0, (a0 == 63)) else (bif (a0 == 48) then ms_OpLevel_k2 (a0, (a0 == 48)) else (bif (a0 == 47) then ms_OpLevel_k2 (a0, (a0 == 47)) else (bif (a0 == 50) then ms_OpLevel_k2 (a0, (a0 == 50)) else (bif (a0 == 62) then ms_OpLevel_k2 (a0, (a0 == 62)) else (ms_OpLevel_k2 (a0, (a0 == 49))))))))
def ms_OpLevel (a0 : Int) : Option Int :=
  bif (a0 == 44) then some 3 else (bif (a0 == 45) then some 4 else (bif (a0 == 67) then ms_OpLevel_k1 (a0, (a0 == 67)) else (ms_OpLevel_k1 (a0, (a0 == 46)))))

def ms_l9Sides (a0 : Int) : Option (Int × Int) :=
  (ms_OpLevel a0).bind fun r4 => bif (r4 == 3) then some (3, 4) else (bif (r4 == 4) then some (4, 5) else (bif (r4 == 6) then some (7, 7) else (bif (r4 == 7) then some (8, 8) else (bif (r4 == 8) then some (8, 9) else (bif (r4 == 9) then some (9, 10) else (bif (r4 == 10) then some (10, 11) else (some (13, 11))))))))

def ms_l11Is (a1 : Int) (a2 : SPos) (pa : LT) (pb : Int) (pc : Bool) (p1 : LT) : Option Bool :=
  (ms_l11Kind pa pb pc p1).bind fun r2 => (bif pc then some true else (some (a1 == 8))).bind fun y7 => bif y7 then (bif (!pc) then (ms_BeginsOperand r2).bind fun r10 => some r10 else (some false)).bind fun y9 => some y9 else ((bif (r2 != 0) then bif (r2 != 99) then (ms_OpLevel r2).bind fun r13 => bif (r13 == a1) then bif (r2 != 62) then some true else (some (!a2.NoGt)) else (some false) else (some false) else (some false)).bind fun y12 => some y12)

def ms_l11Leaf (a1 : Int) (pa : LT) (pb : Int) (pc : Bool) (p1 : LT) : Option (SL11X × Int × Bool) :=
  (ix pa pb).bind fun e3 => (ms_l11Take e3.Kind pa pb pc p1).bind fun r4 => some ((⟨[(⟨a1, 0, r4.1.Text, [], []⟩ : SNode)], false⟩ : SL11X), r4.2.1, r4.2.2)

structure Rec1 where
  ms_l11Call : Int → LT → Int → Bool → LT → Option T2
  ms_l11Name : LT → Int → Bool → LT → Option T2
  ms_l11Primary : LT → Int → Bool → LT → Option T2
  ms_l11Field : SPos → LT → Int → Bool → LT → Option T2
  ms_l11Incr : SPos → LT → Int → Bool → LT → Option T2
  ms_l11Pow : SPos → LT → Int → Bool → LT → Option T2
  ms_l11Unary : SPos → LT → Int → Bool → LT → Option T2
  ms_l11Chain : SPos → Int → Int → LT → Int → Bool → LT → Option T2
  ms_l11List : Int → Int → LT → Int → Bool → LT → Option ((List LN) × Int × Bool × LT)
  ms_l11In : SPos → LT → Int → Bool → LT → Option T2
  ms_l11Cond : SPos → LT → Int → Bool → LT → Option T2
  ms_l11Assign : SPos → LT → Int → Bool → LT → Option T2
  ms_l11At : SPos → LT → Int → Bool → LT → Option T2
  ms_l11Pre : SPos → LT → Int → Bool → LT → Option T2

def ms_l11Call_F (N : Nat) (R : Rec1) (a1 : Int) (pa : LT) (pb : Int) (pc : Bool) (p1 : LT) : Option T2 :=
  (ms_l11Kind pa pb pc p1).bind fun r3 => (ms_l11Take r3 pa pb pc p1).bind fun r4 => (bif (a1 == 8) then (ms_l11Kind pa r4.2.1 r4.2.2 p1).bind fun r10 => bif (r10 != 32) then some (r4.1.Text == [108, 101, 110, 103, 116, 104]) else (some false) else (some false)).bind fun y9 => bif y9 then some ((⟨[(⟨a1, 0, r4.1.Text, [], []⟩ : SNode)], false⟩ : SL11X), r4.2.1, r4.2.2, p1) else ((ms_l11Take 32 pa r4.2.1 r4.2.2 p1).bind fun r12 => (R.ms_l11List 33 0 pa r12.2.1 r12.2.2 p1).bind fun r15 => (ms_l6Make N (⟨a1, 0, r4.1.Text, [], []⟩ : SNode) r15.1).bind fun r16 => some ((⟨r16, false⟩ : SL11X), r15.2.1, r15.2.2.1, r15.2.2.2))

def ms_l11Name_F (N : Nat) (R : Rec1) (pa : LT) (pb : Int) (pc : Bool) (p1 : LT) : Option T2 :=
  (ms_l11Take 6 pa pb pc p1).bind fun r2 => (ms_l11Kind pa r2.2.1 r2.2.2 p1).bind fun r6 => bif (r6 != 34) then some ((⟨[(⟨1, 0, r2.1.Text, [], []⟩ : SNode)], false⟩ : SL11X), r2.2.1, r2.2.2, p1) else ((ms_l11Take 34 pa r2.2.1 r2.2.2 p1).bind fun r8 => (R.ms_l11List 35 1 pa r8.2.1 r8.2.2 p1).bind fun r11 => (ms_l6Make N (⟨5, 0, r2.1.Text, [], []⟩ : SNode) r11.1).bind fun r12 => some ((⟨r12, false⟩ : SL11X), r11.2.1, r11.2.2.1, r11.2.2.2))

def ms_l11Primary_F (N : Nat) (R : Rec1) (pa : LT) (pb : Int) (pc : Bool) (p1 : LT) : Option T2 :=
  bif pc then some ((⟨[], false⟩ : SL11X), pb, pc, p1) else ((ms_l11Kind pa pb pc p1).bind fun r16 => bif (r16 == 3) then (ms_l11Leaf 2 pa pb pc p1).bind fun r18 => some (r18.1, r18.2.1, r18.2.2, p1) else (bif (r16 == 4) then (ms_l11Leaf 3 pa pb pc p1).bind fun r20 => some (r20.1, r20.2.1, r20.2.2, p1) else (bif (r16 == 5) then (ms_l11Leaf 4 pa pb pc p1).bind fun r22 => some (r22.1, r22.2.1, r22.2.2, p1) else (bif (r16 == 6) then (R.ms_l11Name pa pb pc p1).bind fun r24 => some (r24.1, r24.2.1, r24.2.2.1, r24.2.2.2) else (bif (r16 == 7) then (R.ms_l11Call 7 pa pb pc p1).bind fun r26 => some (r26.1, r26.2.1, r26.2.2.1, r26.2.2.2) else (bif (r16 == 8) then (R.ms_l11Call 8 pa pb pc p1).bind fun r28 => some (r28.1, r28.2.1, r28.2.2.1, r28.2.2.2) else ((ms_l11Take 32 pa pb pc p1).bind fun r30 => Option.bind ms_Top fun r33 => (R.ms_l11At r33 pa r30.2.1 r30.2.2 p1).bind fun r34 => (ms_l11Take 33 pa r34.2.1 r34.2.2.1 r34.2.2.2).bind fun r36 => some ((⟨r34.1.l, true⟩ : SL11X), r36.2.1, r36.2.2, r34.2.2.2))))))))

def ms_l11Field_k1 (N : Nat) (R : Rec1) (pa : LT) : (Bool × Int × Bool × LN × LT) → Option T2
  | (y21, y22, y23, y24, y25) => (ms_l11Over N (⟨6, 0, [], [], []⟩ : SNode) [y24]).bind fun r27 => some (r27, y22, y23, y25)
def ms_l11Field_F (N : Nat) (R : Rec1) (a1 : SPos) (pa : LT) (pb : Int) (pc : Bool) (p1 : LT) : Option T2 :=
  (ms_l11Kind pa pb pc p1).bind fun r6 => bif (r6 != 68) then (R.ms_l11Primary pa pb pc p1).bind fun r8 => some (r8.1, r8.2.1, r8.2.2.1, r8.2.2.2) else ((ms_l11Take 68 pa pb pc p1).bind fun r10 => (ms_l11Kind pa r10.2.1 r10.2.2 p1).bind fun r30 => (ms_l11Signs r30).bind fun r31 => bif r31 then (R.ms_l11Pre a1 pa r10.2.1 r10.2.2 p1).bind fun r33 => ms_l11Field_k1 N R pa (r33.1.held, r33.2.1, r33.2.2.1, r33.1.l, r33.2.2.2) else ((ms_l11Part a1 14).bind fun r36 => (R.ms_l11At r36 pa r10.2.1 r10.2.2 p1).bind fun r37 => ms_l11Field_k1 N R pa (r37.1.held, r37.2.1, r37.2.2.1, r37.1.l, r37.2.2.2)))

def ms_l11Incr_F (N : Nat) (R : Rec1) (a1 : SPos) (pa : LT) (pb : Int) (pc : Bool) (p1 : LT) : Option T2 :=
  (ms_l11Kind pa pb pc p1).bind fun r9 => (ms_l11Signs r9).bind fun r10 => bif r10 then (R.ms_l11Pre a1 pa pb pc p1).bind fun r12 => some (r12.1, r12.2.1, r12.2.2.1, r12.2.2.2) else ((ms_l11Part a1 14).bind fun r15 => (R.ms_l11At r15 pa pb pc p1).bind fun r16 => (ms_l11Kind pa r16.2.1 r16.2.2.1 r16.2.2.2).bind fun r18 => (bif r16.2.2.1 then some true else ((ms_l11Signs r18).bind fun r27 => bif (!r27) then some true else ((ms_l11Put r16.1).bind fun r28 => some (!r28)))).bind fun y26 => bif y26 then some (r16.1, r16.2.1, r16.2.2.1, r16.2.2.2) else ((ms_l11Take r18 pa r16.2.1 r16.2.2.1 r16.2.2.2).bind fun r30 => (ms_l11Over N (⟨10, r18, [], [], []⟩ : SNode) [r16.1.l]).bind fun r32 => some (r32, r30.2.1, r30.2.2, r16.2.2.2)))

def ms_l11Pow_F (N : Nat) (R : Rec1) (a1 : SPos) (pa : LT) (pb : Int) (pc : Bool) (p1 : LT) : Option T2 :=
  (ms_l11Part a1 13).bind fun r3 => (R.ms_l11At r3 pa pb pc p1).bind fun r4 => (bif r4.2.2.1 then some true else ((ms_l11Kind pa r4.2.1 r4.2.2.1 r4.2.2.2).bind fun r10 => some (r10 != 60))).bind fun y9 => bif y9 then some (r4.1, r4.2.1, r4.2.2.1, r4.2.2.2) else ((ms_l11Take 60 pa r4.2.1 r4.2.2.1 r4.2.2.2).bind fun r12 => (ms_l11Part a1 11).bind fun r15 => (R.ms_l11At r15 pa r12.2.1 r12.2.2 r4.2.2.2).bind fun r16 => (ms_l11Over N (⟨12, 60, [], [], []⟩ : SNode) [r4.1.l, r16.1.l]).bind fun r18 => some (r18, r16.2.1, r16.2.2.1, r16.2.2.2))

def ms_l11Unary_F (N : Nat) (R : Rec1) (a1 : SPos) (pa : LT) (pb : Int) (pc : Bool) (p1 : LT) : Option T2 :=
  (ms_l11Kind pa pb pc p1).bind fun r2 => (bif (r2 == 56) then some true else (bif (r2 == 55) then some true else (some (r2 == 61)))).bind fun y12 => bif y12 then (ms_l11Take r2 pa pb pc p1).bind fun r14 => (ms_l11Part a1 11).bind fun r17 => (R.ms_l11At r17 pa r14.2.1 r14.2.2 p1).bind fun r18 => (ms_l11Over N (⟨11, r2, [], [], []⟩ : SNode) [r18.1.l]).bind fun r20 => some (r20, r18.2.1, r18.2.2.1, r18.2.2.2) else ((R.ms_l11Pow a1 pa pb pc p1).bind fun r22 => some (r22.1, r22.2.1, r22.2.2.1, r22.2.2.2))

def ms_l11Chain_k4 (N : Nat) (R : Rec1) (pa : LT) (kb2 : (Int × Int × (Int × Int) × SPos × Int × Int × Bool × Bool × LT × LN) → Option T2) : (Int × Int × (Int × Int) × Int × Int × Bool × SPos × Bool × LN × Int × LT) → Option T2
  | (a2, a3, r4, y214, y303, y216, a1, y217, y219, y308, y309) => (ms_l11Part a1 r4.2).bind fun r312 => (R.ms_l11At r312 pa y308 y216 y309).bind fun r313 => (ms_l11Over N (⟨12, y303, [], [], []⟩ : SNode) [y219, r313.1.l]).bind fun r316 => kb2 (a2, a3, r4, a1, (IntKind.wrap .i64 (y214 + 1)), r313.2.1, r313.2.2.1, r316.held, r313.2.2.2, r316.l)
def ms_l11Chain_k3 (N : Nat) (R : Rec1) (pa : LT) (kb2 : (Int × Int × (Int × Int) × SPos × Int × Int × Bool × Bool × LT × LN) → Option T2) : (Int × Int × (Int × Int) × Int × Bool × SPos × Bool × LT × LN × Int × Int) → Option T2
  | (a2, a3, r4, y214, y216, a1, y217, y218, y219, y303, y304) => (bif (a2 == 3) then some true else (some (a2 == 4))).bind fun y317 => bif y317 then (ms_l11Lines N pa y304 y216 y218).bind fun r319 => ms_l11Chain_k4 N R pa kb2 (a2, a3, r4, y214, y303, y216, a1, y217, y219, r319.1, r319.2) else (ms_l11Chain_k4 N R pa kb2 (a2, a3, r4, y214, y303, y216, a1, y217, y219, y304, y218))
def ms_l11Chain_l2 (N : Nat) (R : Rec1) (pa : LT) : Nat → (Int × Int × (Int × Int) × SPos × Int × Int × Bool × Bool × LT × LN) → Option T2
  | 0, _ => none
  | n2 + 1, (a2, a3, r4, a1, y214, y215, y216, y217, y218, y219) => (bif (decide (y214 < a3)) then (ms_l11Is a2 a1 pa y215 y216 y218).bind fun r279 => some r279 else (some false)).bind fun y278 => bif y278 then bif (a2 != 8) then (ms_l11Kind pa y215 y216 y218).bind fun r321 => ms_l11Chain_k3 N R pa (ms_l11Chain_l2 N R pa n2) (a2, a3, r4, y214, y216, a1, y217, y218, y219, r321, (IntKind.wrap .i64 (y215 + 1))) else (ms_l11Chain_k3 N R pa (ms_l11Chain_l2 N R pa n2) (a2, a3, r4, y214, y216, a1, y217, y218, y219, 99, y215)) else (some ((⟨y219, y217⟩ : SL11X), y215, y216, y218))
def ms_l11Chain_k1 (N : Nat) (R : Rec1) (pa : LT) : (Int × Int × (Int × Int) × Int × Bool × SPos × LT × Int) → Option T2
  | (a2, a3, r4, pb, pc, a1, p1, y5) => (ms_l11Part a1 y5).bind fun r8 => (R.ms_l11At r8 pa pb pc p1).bind fun r9 => ms_l11Chain_l2 N R pa N (a2, a3, r4, a1, 0, r9.2.1, r9.2.2.1, r9.1.held, r9.2.2.2, r9.1.l)
def ms_l11Chain_F (N : Nat) (R : Rec1) (a1 : SPos) (a2 : Int) (a3 : Int) (pa : LT) (pb : Int) (pc : Bool) (p1 : LT) : Option T2 :=
  (ms_l11Any a2).bind fun r3 => (ms_l9Sides r3).bind fun r4 => bif (decide (a3 > 1)) then ms_l11Chain_k1 N R pa (a2, a3, r4, pb, pc, a1, p1, (IntKind.wrap .i64 (a2 + 1))) else (ms_l11Chain_k1 N R pa (a2, a3, r4, pb, pc, a1, p1, r4.1))

def ms_l11List_k1 (N : Nat) (R : Rec1) (pa : LT) : (Int × Int × Bool × (List LN) × LT) → Option ((List LN) × Int × Bool × LT)
  | (a1, y64, y65, y66, y67) => (ms_l11Take a1 pa y64 y65 y67).bind fun r69 => some (y66, r69.2.1, r69.2.2, y67)
def ms_l11List_k3 (N : Nat) (R : Rec1) (pa : LT) (kb2 : (Int × Int × Bool × (List LN) × LT) → Option ((List LN) × Int × Bool × LT)) : (Int × T2 × (List LN) × Bool) → Option ((List LN) × Int × Bool × LT)
  | (a1, r112, x113, y118) => (ms_l11Take 36 pa r112.2.1 y118 r112.2.2.2).bind fun r120 => (ms_l11Lines N pa r120.2.1 r120.2.2 r112.2.2.2).bind fun r122 => kb2 (a1, r122.1, r120.2.2, x113, r122.2)
def ms_l11List_l2 (N : Nat) (R : Rec1) (pa : LT) : Nat → (Int × Int × Bool × (List LN) × LT) → Option ((List LN) × Int × Bool × LT)
  | 0, _ => none
  | n2 + 1, (a1, y85, y86, y87, y88) => bif (!y86) then Option.bind ms_Top fun r111 => (R.ms_l11At r111 pa y85 y86 y88).bind fun r112 => (app 24 y87 [r112.1.l]).bind fun x113 => (ms_l11Kind pa r112.2.1 r112.2.2.1 r112.2.2.2).bind fun r117 => bif (r117 != 36) then ms_l11List_k1 N R pa (a1, r112.2.1, r112.2.2.1, x113, r112.2.2.2) else (bif ((x113.length : Int) == 6) then ms_l11List_k3 N R pa (ms_l11List_l2 N R pa n2) (a1, r112, x113, true) else (ms_l11List_k3 N R pa (ms_l11List_l2 N R pa n2) (a1, r112, x113, r112.2.2.1))) else (ms_l11List_k1 N R pa (a1, y85, y86, y87, y88))
def ms_l11List_F (N : Nat) (R : Rec1) (a1 : Int) (a2 : Int) (pa : LT) (pb : Int) (pc : Bool) (p1 : LT) : Option ((List LN) × Int × Bool × LT) :=
  (bif (a2 == 0) then (ms_l11Kind pa pb pc p1).bind fun r8 => some (r8 == a1) else (some false)).bind fun y7 => bif y7 then (ms_l11Take a1 pa pb pc p1).bind fun r10 => some ([], r10.2.1, r10.2.2, p1) else (ms_l11List_l2 N R pa N (a1, pb, pc, [], p1))

def ms_l11In_l2 (N : Nat) (R : Rec1) (pa : LT) : Nat → (SPos × LT × Int × Bool × Bool × LN) → Option T2
  | 0, _ => none
  | n2 + 1, (a1, y21, y83, y84, y85, y86) => (bif (!y84) then bif (!a1.NoIn) then (ms_l11Kind pa y83 y84 y21).bind fun r109 => some (r109 == 24) else (some false) else (some false)).bind fun y108 => bif y108 then (ms_l11Take 24 pa y83 y84 y21).bind fun r111 => (ms_l11Take 6 pa r111.2.1 r111.2.2 y21).bind fun r113 => (ms_l11Over N (⟨13, 0, r113.1.Text, [], []⟩ : SNode) [y86]).bind fun r116 => (ms_l11In_l2 N R pa n2) (a1, y21, r113.2.1, r113.2.2, r116.held, r116.l) else (some ((⟨y86, y85⟩ : SL11X), y83, y84, y21))
def ms_l11In_k1 (N : Nat) (R : Rec1) (pa : LT) : (SPos × Int × Bool × Bool × LT × LN) → Option T2
  | (a1, y18, y19, y20, y21, y22) => ms_l11In_l2 N R pa N (a1, y21, y18, y19, y20, y22)
def ms_l11In_F (N : Nat) (R : Rec1) (a1 : SPos) (pa : LT) (pb : Int) (pc : Bool) (p1 : LT) : Option T2 :=
  (bif (!a1.NoIn) then (ms_l11Comma N pa pb pc p1).bind fun r119 => some r119 else (some false)).bind fun y118 => bif y118 then (ms_l11Take 32 pa pb pc p1).bind fun r121 => (R.ms_l11List 33 1 pa r121.2.1 r121.2.2 p1).bind fun r123 => (ms_l11Take 24 pa r123.2.1 r123.2.2.1 r123.2.2.2).bind fun r125 => (ms_l11Take 6 pa r125.2.1 r125.2.2 r123.2.2.2).bind fun r127 => (ms_l6Make N (⟨13, 0, r127.1.Text, [], []⟩ : SNode) r123.1).bind fun r129 => ms_l11In_k1 N R pa (a1, r127.2.1, r127.2.2, false, r123.2.2.2, r129) else ((ms_l11Part a1 6).bind fun r132 => (R.ms_l11At r132 pa pb pc p1).bind fun r133 => ms_l11In_k1 N R pa (a1, r133.2.1, r133.2.2.1, r133.1.held, r133.2.2.2, r133.1.l))

def ms_l11Cond_F (N : Nat) (R : Rec1) (a1 : SPos) (pa : LT) (pb : Int) (pc : Bool) (p1 : LT) : Option T2 :=
  (ms_l11Part a1 3).bind fun r3 => (R.ms_l11At r3 pa pb pc p1).bind fun r4 => (bif r4.2.2.1 then some true else ((ms_l11Kind pa r4.2.1 r4.2.2.1 r4.2.2.2).bind fun r10 => some (r10 != 65))).bind fun y9 => bif y9 then some (r4.1, r4.2.1, r4.2.2.1, r4.2.2.2) else ((ms_l11Take 65 pa r4.2.1 r4.2.2.1 r4.2.2.2).bind fun r12 => (ms_l11Part a1 2).bind fun r15 => (R.ms_l11At r15 pa r12.2.1 r12.2.2 r4.2.2.2).bind fun r16 => (ms_l11Take 66 pa r16.2.1 r16.2.2.1 r16.2.2.2).bind fun r18 => (ms_l11Part a1 2).bind fun r21 => (R.ms_l11At r21 pa r18.2.1 r18.2.2 r16.2.2.2).bind fun r22 => (ms_l11Over N (⟨14, 0, [], [], []⟩ : SNode) [r4.1.l, r16.1.l, r22.1.l]).bind fun r24 => some (r24, r22.2.1, r22.2.2.1, r22.2.2.2))

def ms_l11Assign_F (N : Nat) (R : Rec1) (a1 : SPos) (pa : LT) (pb : Int) (pc : Bool) (p1 : LT) : Option T2 :=
  (ms_l11Part a1 2).bind fun r3 => (R.ms_l11At r3 pa pb pc p1).bind fun r4 => (bif r4.2.2.1 then some true else ((ms_l11Put r4.1).bind fun r16 => bif (!r16) then some true else ((ms_l11Kind pa r4.2.1 r4.2.2.1 r4.2.2.2).bind fun r17 => (ms_l7IsAssign r17).bind fun r18 => some (!r18)))).bind fun y15 => bif y15 then some (r4.1, r4.2.1, r4.2.2.1, r4.2.2.2) else ((ms_l11Kind pa r4.2.1 r4.2.2.1 r4.2.2.2).bind fun r20 => (ms_l11Take r20 pa r4.2.1 r4.2.2.1 r4.2.2.2).bind fun r22 => (ms_l11Part a1 1).bind fun r25 => (R.ms_l11At r25 pa r22.2.1 r22.2.2 r4.2.2.2).bind fun r26 => (ms_l11Over N (⟨15, r20, [], [], []⟩ : SNode) [r4.1.l, r26.1.l]).bind fun r28 => some (r28, r26.2.1, r26.2.2.1, r26.2.2.2))

def ms_l11At_k2 (N : Nat) (R : Rec1) (pa : LT) : (SPos × Int × Bool × LT × Bool) → Option T2
  | (a1, pb, pc, p1, y30) => bif y30 then (R.ms_l11Chain a1 a1.Level 3000 pa pb pc p1).bind fun r32 => some (r32.1, r32.2.1, r32.2.2.1, r32.2.2.2) else (bif (a1.Level == 11) then (R.ms_l11Unary a1 pa pb pc p1).bind fun r34 => some (r34.1, r34.2.1, r34.2.2.1, r34.2.2.2) else (bif (a1.Level == 12) then (R.ms_l11Pow a1 pa pb pc p1).bind fun r36 => some (r36.1, r36.2.1, r36.2.2.1, r36.2.2.2) else (bif (a1.Level == 13) then (R.ms_l11Incr a1 pa pb pc p1).bind fun r38 => some (r38.1, r38.2.1, r38.2.2.1, r38.2.2.2) else (bif (a1.Level == 14) then (R.ms_l11Field a1 pa pb pc p1).bind fun r40 => some (r40.1, r40.2.1, r40.2.2.1, r40.2.2.2) else ((R.ms_l11Primary pa pb pc p1).bind fun r42 => some (r42.1, r42.2.1, r42.2.2.1, r42.2.2.2))))))
def ms_l11At_k1 (N : Nat) (R : Rec1) (pa : LT) : (SPos × Int × Bool × LT × Bool) → Option T2
  | (a1, pb, pc, p1, y27) => bif y27 then (R.ms_l11Chain a1 a1.Level 1 pa pb pc p1).bind fun r29 => some (r29.1, r29.2.1, r29.2.2.1, r29.2.2.2) else (bif (a1.Level == 3) then ms_l11At_k2 N R pa (a1, pb, pc, p1, (a1.Level == 3)) else (bif (a1.Level == 4) then ms_l11At_k2 N R pa (a1, pb, pc, p1, (a1.Level == 4)) else (bif (a1.Level == 8) then ms_l11At_k2 N R pa (a1, pb, pc, p1, (a1.Level == 8)) else (bif (a1.Level == 9) then ms_l11At_k2 N R pa (a1, pb, pc, p1, (a1.Level == 9)) else (ms_l11At_k2 N R pa (a1, pb, pc, p1, (a1.Level == 10)))))))
def ms_l11At_F (N : Nat) (R : Rec1) (a1 : SPos) (pa : LT) (pb : Int) (pc : Bool) (p1 : LT) : Option T2 :=
  bif pc then some ((⟨[], false⟩ : SL11X), pb, pc, p1) else (bif (a1.Level == 1) then (R.ms_l11Assign a1 pa pb pc p1).bind fun r22 => some (r22.1, r22.2.1, r22.2.2.1, r22.2.2.2) else (bif (a1.Level == 2) then (R.ms_l11Cond a1 pa pb pc p1).bind fun r24 => some (r24.1, r24.2.1, r24.2.2.1, r24.2.2.2) else (bif (a1.Level == 5) then (R.ms_l11In a1 pa pb pc p1).bind fun r26 => some (r26.1, r26.2.1, r26.2.2.1, r26.2.2.2) else (bif (a1.Level == 6) then ms_l11At_k1 N R pa (a1, pb, pc, p1, (a1.Level == 6)) else (ms_l11At_k1 N R pa (a1, pb, pc, p1, (a1.Level == 7)))))))

def ms_l11Pre_k1 (N : Nat) (R : Rec1) (pa : LT) : (Int × (SToken × Int × Bool) × SPos × LT × Bool) → Option T2
  | (r2, r4, a1, p1, y10) => (ms_l11Part a1 14).bind fun r13 => (R.ms_l11At r13 pa r4.2.1 y10 p1).bind fun r14 => (ms_l11Over N (⟨9, r2, [], [], []⟩ : SNode) [r14.1.l]).bind fun r16 => some (r16, r14.2.1, r14.2.2.1, r14.2.2.2)
def ms_l11Pre_F (N : Nat) (R : Rec1) (a1 : SPos) (pa : LT) (pb : Int) (pc : Bool) (p1 : LT) : Option T2 :=
  (ms_l11Kind pa pb pc p1).bind fun r2 => (ms_l11Take r2 pa pb pc p1).bind fun r4 => ((ms_l11Kind pa r4.2.1 r4.2.2 p1).bind fun r20 => bif (r20 != 6) then (ms_l11Kind pa r4.2.1 r4.2.2 p1).bind fun r21 => some (r21 != 68) else (some false)).bind fun y19 => bif y19 then ms_l11Pre_k1 N R pa (r2, r4, a1, p1, true) else (ms_l11Pre_k1 N R pa (r2, r4, a1, p1, r4.2.2))
def scc1 : Nat → Rec1
  | 0 => ⟨fun _ _ _ _ _ => none, fun _ _ _ _ => none, fun _ _ _ _ => none, fun _ _ _ _ _ => none, fun _ _ _ _ _ => none, fun _ _ _ _ _ => none, fun _ _ _ _ _ => none, fun _ _ _ _ _ _ _ => none, fun _ _ _ _ _ _ => none, fun _ _ _ _ _ => none, fun _ _ _ _ _ => none, fun _ _ _ _ _ => none, fun _ _ _ _ _ => none, fun _ _ _ _ _ => none⟩
  | N + 1 => ⟨fun a1 pa pb pc p1 => ms_l11Call_F N (scc1 N) a1 pa pb pc p1, fun pa pb pc p1 => ms_l11Name_F N (scc1 N) pa pb pc p1, fun pa pb pc p1 => ms_l11Primary_F N (scc1 N) pa pb pc p1, fun a1 pa pb pc p1 => ms_l11Field_F N (scc1 N) a1 pa pb pc p1, fun a1 pa pb pc p1 => ms_l11Incr_F N (scc1 N) a1 pa pb pc p1, fun a1 pa pb pc p1 => ms_l11Pow_F N (scc1 N) a1 pa pb pc p1, fun a1 pa pb pc p1 => ms_l11Unary_F N (scc1 N) a1 pa pb pc p1, fun a1 a2 a3 pa pb pc p1 => ms_l11Chain_F N (scc1 N) a1 a2 a3 pa pb pc p1, fun a1 a2 pa pb pc p1 => ms_l11List_F N (scc1 N) a1 a2 pa pb pc p1, fun a1 pa pb pc p1 => ms_l11In_F N (scc1 N) a1 pa pb pc p1, fun a1 pa pb pc p1 => ms_l11Cond_F N (scc1 N) a1 pa pb pc p1, fun a1 pa pb pc p1 => ms_l11Assign_F N (scc1 N) a1 pa pb pc p1, fun a1 pa pb pc p1 => ms_l11At_F N (scc1 N) a1 pa pb pc p1, fun a1 pa pb pc p1 => ms_l11Pre_F N (scc1 N) a1 pa pb pc p1⟩
def ms_l11Call (N : Nat) (a1 : Int) (pa : LT) (pb : Int) (pc : Bool) (p1 : LT) : Option T2 := (scc1 N).ms_l11Call a1 pa pb pc p1
def ms_l11Name (N : Nat) (pa : LT) (pb : Int) (pc : Bool) (p1 : LT) : Option T2 := (scc1 N).ms_l11Name pa pb pc p1
def ms_l11Primary (N : Nat) (pa : LT) (pb : Int) (pc : Bool) (p1 : LT) : Option T2 := (scc1 N).ms_l11Primary pa pb pc p1
def ms_l11Field (N : Nat) (a1 : SPos) (pa : LT) (pb : Int) (pc : Bool) (p1 : LT) : Option T2 := (scc1 N).ms_l11Field a1 pa pb pc p1
def ms_l11Incr (N : Nat) (a1 : SPos) (pa : LT) (pb : Int) (pc : Bool) (p1 : LT) : Option T2 := (scc1 N).ms_l11Incr a1 pa pb pc p1
def ms_l11Pow (N : Nat) (a1 : SPos) (pa : LT) (pb : Int) (pc : Bool) (p1 : LT) : Option T2 := (scc1 N).ms_l11Pow a1 pa pb pc p1
def ms_l11Unary (N : Nat) (a1 : SPos) (pa : LT) (pb : Int) (pc : Bool) (p1 : LT) : Option T2 := (scc1 N).ms_l11Unary a1 pa pb pc p1
def ms_l11Chain (N : Nat) (a1 : SPos) (a2 : Int) (a3 : Int) (pa : LT) (pb : Int) (pc : Bool) (p1 : LT) : Option T2 := (scc1 N).ms_l11Chain a1 a2 a3 pa pb pc p1
def ms_l11List (N : Nat) (a1 : Int) (a2 : Int) (pa : LT) (pb : Int) (pc : Bool) (p1 : LT) : Option ((List LN) × Int × Bool × LT) := (scc1 N).ms_l11List a1 a2 pa pb pc p1
def ms_l11In (N : Nat) (a1 : SPos) (pa : LT) (pb : Int) (pc : Bool) (p1 : LT) : Option T2 := (scc1 N).ms_l11In a1 pa pb pc p1
def ms_l11Cond (N : Nat) (a1 : SPos) (pa : LT) (pb : Int) (pc : Bool) (p1 : LT) : Option T2 := (scc1 N).ms_l11Cond a1 pa pb pc p1
def ms_l11Assign (N : Nat) (a1 : SPos) (pa : LT) (pb : Int) (pc : Bool) (p1 : LT) : Option T2 := (scc1 N).ms_l11Assign a1 pa pb pc p1
def ms_l11At (N : Nat) (a1 : SPos) (pa : LT) (pb : Int) (pc : Bool) (p1 : LT) : Option T2 := (scc1 N).ms_l11At a1 pa pb pc p1
def ms_l11Pre (N : Nat) (a1 : SPos) (pa : LT) (pb : Int) (pc : Bool) (p1 : LT) : Option T2 := (scc1 N).ms_l11Pre a1 pa pb pc p1

def ms_l6Starts_l2 (N : Nat) (kb1 : (LN × Int × (List Int)) → Option ((List Int) × Bool)) : Nat → (LN × Int × (List Int) × Int × Int) → Option ((List Int) × Bool)
  | 0, _ => none
  | n2 + 1, (a0, y917, y918, y1499, y1500) => bif (decide (y1500 ≥ 0)) then ((ix a0 y917).bind fun e1547 => (ix e1547.Kids y1500).bind fun e1548 => bif (e1548 != (IntKind.wrap .i64 (y1499 - 1))) then some true else (some (y1499 == 0))).bind fun y1546 => bif y1546 then some ([], false) else ((ix y918 (IntKind.wrap .i64 (y1499 - 1))).bind fun e1550 => (ms_l6Starts_l2 N kb1 n2) (a0, y917, y918, e1550, (IntKind.wrap .i64 (y1500 - 1)))) else ((app 8 y918 [y1499]).bind fun x1552 => kb1 (a0, (IntKind.wrap .i64 (y917 + 1)), x1552))
def ms_l6Starts_l1 (N : Nat) : Nat → (LN × Int × (List Int)) → Option ((List Int) × Bool)
  | 0, _ => none
  | n1 + 1, (a0, y917, y918) => bif (decide (y917 < (a0.length : Int))) then (ix a0 y917).bind fun e1474 => ms_l6Starts_l2 N (ms_l6Starts_l1 N n1) N (a0, y917, y918, y917, (IntKind.wrap .i64 ((e1474.Kids.length : Int) - 1))) else (some (y918, true))
def ms_l6Starts (N : Nat) (a0 : LN) : Option ((List Int) × Bool) :=
  ms_l6Starts_l1 N N (a0, 0, [])

def ms_ShapeOk (N : Nat) (a0 : LN) : Option Bool :=
  (ms_l1In (a0.length : Int) 1 400).bind fun r4 => bif (!r4) then some false else ((ms_l6Starts N a0).bind fun r6 => (bif r6.2 then (ix r6.1 (IntKind.wrap .i64 ((a0.length : Int) - 1))).bind fun e9 => some (e9 == 0) else (some false)).bind fun y8 => some y8)

def ms_DepthOf_l2 (N : Nat) (kb1 : (LN × Int × (List Int)) → Option Int) : Nat → (LN × Int × (List Int) × Int × Int) → Option Int
  | 0, _ => none
  | n2 + 1, (a0, y857, y858, y1247, y1248) => (ix a0 y857).bind fun e1270 => bif (decide (y1248 < (e1270.Kids.length : Int))) then (ix a0 y857).bind fun e1280 => (ix e1280.Kids y1248).bind fun e1281 => (ix y858 e1281).bind fun e1282 => (ms_DepthOf_l2 N kb1 n2) (a0, y857, y858, (if (IntKind.wrap .i64 (1 + e1282)) > y1247 then (IntKind.wrap .i64 (1 + e1282)) else y1247), (IntKind.wrap .i64 (y1248 + 1))) else ((app 8 y858 [y1247]).bind fun x1284 => kb1 (a0, (IntKind.wrap .i64 (y857 + 1)), x1284))
def ms_DepthOf_l1 (N : Nat) : Nat → (LN × Int × (List Int)) → Option Int
  | 0, _ => none
  | n1 + 1, (a0, y857, y858) => bif (decide (y857 < (a0.length : Int))) then ms_DepthOf_l2 N (ms_DepthOf_l1 N n1) N (a0, y857, y858, 1, 0) else ((ix y858 (IntKind.wrap .i64 ((a0.length : Int) - 1))).bind fun e1286 => some e1286)
def ms_DepthOf (N : Nat) (a0 : LN) : Option Int :=
  (ms_ShapeOk N a0).bind fun r4 => bif (!r4) then some 0 else (ms_DepthOf_l1 N N (a0, 0, []))

def ms_l11Size (N : Nat) (a0 : LN) : Option SFault :=
  bif (decide ((a0.length : Int) > 400)) then some (⟨1, 0⟩ : SFault) else ((ms_DepthOf N a0).bind fun r4 => bif (decide (r4 > 40)) then some (⟨4, 0⟩ : SFault) else (some (⟨0, 0⟩ : SFault)))

def ms_ParseExpr_k1 (N : Nat) : (LT × Int × Bool × Bool × LT × LN) → Option (LN × Int × SFault)
  | (a0, y40, y41, y42, y43, y44) => bif y41 then (ms_l11Fault a0 y40 3).bind fun r48 => some ([], 0, r48) else ((ms_l11Size N y44).bind fun r50 => bif (r50.Kind != 0) then some ([], 0, r50) else (some (y44, y40, (⟨0, 0⟩ : SFault))))
def ms_ParseExpr (N : Nat) (a0 : LT) (a1 : SPos) : Option (LN × Int × SFault) :=
  (ms_PosOk a1).bind fun r4 => bif (!r4) then some ([], 0, (⟨3, 0⟩ : SFault)) else ((ms_TokensOk N a0).bind fun r8 => bif (!r8) then some ([], 0, (⟨2, 0⟩ : SFault)) else ((ms_NestOf N a0).bind fun r10 => bif (decide (r10 ≥ 0)) then (ms_l11Fault a0 r10 4).bind fun r14 => some ([], 0, r14) else ((bif a1.NoSign then bif ((a0.length : Int) == 0) then some true else ((ix a0 0).bind fun e25 => (ms_BeginsOperand e25.Kind).bind fun r26 => some (!r26)) else (some false)).bind fun y24 => bif y24 then (ms_l11Fault a0 0 3).bind fun r28 => some ([], 0, r28) else ((bif a1.Dollar then (ms_l11Kind a0 0 false []).bind fun r56 => (ms_l11Signs r56).bind fun r57 => some r57 else (some false)).bind fun y55 => bif y55 then (ms_l11Pre N a1 a0 0 false []).bind fun r59 => ms_ParseExpr_k1 N (a0, r59.2.1, r59.2.2.1, r59.1.held, r59.2.2.2, r59.1.l) else ((ms_l11At N a1 a0 0 false []).bind fun r61 => ms_ParseExpr_k1 N (a0, r61.2.1, r61.2.2.1, r61.1.held, r61.2.2.2, r61.1.l))))))

def ms_l6Ints_l1 (N : Nat) : Nat → ((List Int) × (List Int) × Int) → Option Bool
  | 0, _ => none
  | n1 + 1, (a0, a1, y35) => bif (decide (y35 < (a0.length : Int))) then (ix a0 y35).bind fun e51 => (ix a1 y35).bind fun e52 => bif (e51 != e52) then some false else ((ms_l6Ints_l1 N n1) (a0, a1, (IntKind.wrap .i64 (y35 + 1)))) else (some true)
def ms_l6Ints (N : Nat) (a0 : List Int) (a1 : List Int) : Option Bool :=
  bif ((a0.length : Int) != (a1.length : Int)) then some false else (ms_l6Ints_l1 N N (a0, a1, 0))

def ms_SameTree_l1 (N : Nat) : Nat → (LN × LN × Int) → Option Bool
  | 0, _ => none
  | n1 + 1, (a0, a1, y187) => bif (decide (y187 < (a0.length : Int))) then ((ix a0 y187).bind fun e270 => (ix a1 y187).bind fun e271 => bif (e270.Kind != e271.Kind) then some true else ((ix a0 y187).bind fun e272 => (ix a1 y187).bind fun e273 => bif (e272.Op != e273.Op) then some true else ((ix a0 y187).bind fun e274 => (ix a1 y187).bind fun e275 => bif (!(e274.Text == e275.Text)) then some true else ((ix a0 y187).bind fun e276 => (ix a1 y187).bind fun e277 => bif (!(e276.Other == e277.Other)) then some true else ((ix a0 y187).bind fun e278 => (ix a1 y187).bind fun e279 => (ms_l6Ints N e278.Kids e279.Kids).bind fun r280 => some (!r280)))))).bind fun y269 => bif y269 then some false else ((ms_SameTree_l1 N n1) (a0, a1, (IntKind.wrap .i64 (y187 + 1)))) else (some true)
def ms_SameTree (N : Nat) (a0 : LN) (a1 : LN) : Option Bool :=
  bif ((a0.length : Int) != (a1.length : Int)) then some false else (ms_SameTree_l1 N N (a0, a1, 0))

def ms_l22Same (N : Nat) (a0 : LT) (a1 : LT) (a2 : SPos) : Option Bool :=
  (ms_ParseExpr N a0 a2).bind fun r2 => (ms_ParseExpr N a1 a2).bind fun r4 => (bif (r2.2.2.Kind == 0) then bif (r4.2.2.Kind == 0) then bif (r2.2.1 == (a0.length : Int)) then bif (r4.2.1 == (a1.length : Int)) then (ms_SameTree N r2.1 r4.1).bind fun r7 => some r7 else (some false) else (some false) else (some false) else (some false)).bind fun y6 => some y6

def ms_Reduce_k3 (N : Nat) (kb1 : (SPos × Int × LT) → Option LT) (kb2 : (Int × SPos × (List SSpan) × Bool × Int × LT) → Option LT) : (Int × Int × SPos × (List SSpan) × Bool × LT) → Option LT
  | (y1271, y1854, a1, r1750, y1895, y1896) => kb2 (y1271, a1, r1750, y1895, (IntKind.wrap .i64 (y1854 + 1)), y1896)
def ms_Reduce_l2 (N : Nat) (kb1 : (SPos × Int × LT) → Option LT) : Nat → (Int × SPos × (List SSpan) × Bool × Int × LT) → Option LT
  | 0, _ => none
  | n2 + 1, (y1271, a1, r1750, y1853, y1854, y1855) => (bif (decide (y1854 < (r1750.length : Int))) then some (!y1853) else (some false)).bind fun y1884 => bif y1884 then (ix r1750 y1854).bind fun e1900 => (ms_Without N y1855 e1900).bind fun r1901 => (ms_l22Same N y1855 r1901 a1).bind fun r1902 => bif r1902 then (ix r1750 y1854).bind fun e1905 => (ms_Without N y1855 e1905).bind fun r1906 => ms_Reduce_k3 N kb1 (ms_Reduce_l2 N kb1 n2) (y1271, y1854, a1, r1750, true, r1906) else (ms_Reduce_k3 N kb1 (ms_Reduce_l2 N kb1 n2) (y1271, y1854, a1, r1750, y1853, y1855)) else (bif (!y1853) then some y1855 else (kb1 (a1, (IntKind.wrap .i64 (y1271 + 1)), y1855)))
def ms_Reduce_l1 (N : Nat) : Nat → (SPos × Int × LT) → Option LT
  | 0, _ => none
  | n1 + 1, (a1, y1271, y1272) => bif (decide (y1271 < 60)) then (ms_PairsOf N y1272).bind fun r1750 => ms_Reduce_l2 N (ms_Reduce_l1 N n1) N (y1271, a1, r1750, false, 0, y1272) else (some y1272)
def ms_Reduce (N : Nat) (a0 : LT) (a1 : SPos) : Option LT :=
  (app 32 [] a0).bind fun x2 => ms_Reduce_l1 N N (a1, 0, x2)

def m_slices_Clone_Token (a0 : LT) : Option LT :=
  (app 32 [] a0).bind fun x2 => some x2

def mi_afterCall (a0 : LT) (a1 : Int) : Option Bool :=
  (bif (decide (a1 > 0)) then (ix a0 (IntKind.wrap .i64 (a1 - 1))).bind fun e4 => bif (e4.Kind == 7) then some true else ((ix a0 (IntKind.wrap .i64 (a1 - 1))).bind fun e5 => some (e5.Kind == 8)) else (some false)).bind fun y3 => some y3

def mi_PairsOf_k2 (N : Nat) (kb1 : (LT × Int × (List SSpan)) → Option (List SSpan)) : (LT × Int × (List SSpan)) → Option (List SSpan)
  | (a0, y441, y608) => kb1 (a0, (IntKind.wrap .i64 (y441 + 1)), y608)
def mi_PairsOf_k4 (N : Nat) (kb1 : (LT × Int × (List SSpan)) → Option (List SSpan)) (kb3 : (LT × Int × (List SSpan) × Int × Int) → Option (List SSpan)) : (LT × Int × Int × (List SSpan) × Int) → Option (List SSpan)
  | (a0, y441, y632, y442, y658) => bif (y658 == 0) then (app 16 y442 [(⟨y441, y632⟩ : SSpan)]).bind fun x660 => mi_PairsOf_k2 N kb1 (a0, y441, x660) else (kb3 (a0, y441, y442, y658, (IntKind.wrap .i64 (y632 + 1))))
def mi_PairsOf_l3 (N : Nat) (kb1 : (LT × Int × (List SSpan)) → Option (List SSpan)) : Nat → (LT × Int × (List SSpan) × Int × Int) → Option (List SSpan)
  | 0, _ => none
  | n3 + 1, (a0, y441, y442, y631, y632) => bif (decide (y632 < (a0.length : Int))) then (ix a0 y632).bind fun e662 => bif (e662.Kind == 32) then mi_PairsOf_k4 N kb1 (mi_PairsOf_l3 N kb1 n3) (a0, y441, y632, y442, (IntKind.wrap .i64 (y631 + 1))) else (bif (e662.Kind == 33) then mi_PairsOf_k4 N kb1 (mi_PairsOf_l3 N kb1 n3) (a0, y441, y632, y442, (IntKind.wrap .i64 (y631 - 1))) else (mi_PairsOf_k4 N kb1 (mi_PairsOf_l3 N kb1 n3) (a0, y441, y632, y442, y631))) else (mi_PairsOf_k2 N kb1 (a0, y441, y442))
def mi_PairsOf_l1 (N : Nat) : Nat → (LT × Int × (List SSpan)) → Option (List SSpan)
  | 0, _ => none
  | n1 + 1, (a0, y441, y442) => bif (decide (y441 < (a0.length : Int))) then (ix a0 y441).bind fun e610 => (bif (e610.Kind != 32) then some true else ((mi_afterCall a0 y441).bind fun r616 => some r616)).bind fun y615 => bif y615 then mi_PairsOf_k2 N (mi_PairsOf_l1 N n1) (a0, y441, y442) else (mi_PairsOf_l3 N (mi_PairsOf_l1 N n1) N (a0, y441, y442, 0, y441)) else (some y442)
def mi_PairsOf (N : Nat) (a0 : LT) : Option (List SSpan) :=
  mi_PairsOf_l1 N N (a0, 0, [])

def mi_within (a0 : Int) (a1 : Int) (a2 : Int) : Option Bool :=
  (bif (decide (a0 ≥ a1)) then some (decide (a0 ≤ a2)) else (some false)).bind fun y1 => some y1

def mi_PosOk (a0 : SPos) : Option Bool :=
  ((mi_within a0.Level 1 15).bind fun r3 => bif r3 then bif (!a0.Dollar) then some true else (some (a0.Level == 14)) else (some false)).bind fun y2 => some y2

def m_stringslite_IndexByte (a0 : LU) (a1 : Int) : Option Int :=
  some (Go.Lib.indexByte a0 (Int.toNat a1).toUInt8)

def m_stringslite_Index (a0 : LU) : Option Int :=
  bif (([10] : LU) == a0) then some 0 else ((ix ([10] : LU) 0).bind fun b7 => (m_stringslite_IndexByte a0 ((b7).toNat : Int)).bind fun r8 => some r8)

def m_strings_Index (a0 : LU) : Option Int :=
  (m_stringslite_Index a0).bind fun r2 => some r2

def m_strings_Contains (a0 : LU) : Option Bool :=
  (m_strings_Index a0).bind fun r2 => some (decide (r2 ≥ 0))

def mi_byteAt (a0 : LU) (a1 : Int) : Option Int :=
  (mi_within a1 0 (IntKind.wrap .i64 ((a0.length : Int) - 1))).bind fun r4 => bif (!r4) then some (-1) else ((ix a0 a1).bind fun b6 => some (IntKind.wrap .i64 ((b6).toNat : Int)))

def mi_IsDigit (a0 : Int) : Option Bool :=
  (bif (decide (a0 ≥ 48)) then some (decide (a0 ≤ 57)) else (some false)).bind fun y1 => some y1

def mi_digitsEnd_l1 (N : Nat) : Nat → (LU × Int) → Option Int
  | 0, _ => none
  | n1 + 1, (a0, a1) => (mi_byteAt a0 a1).bind fun r33 => (mi_IsDigit r33).bind fun r34 => bif r34 then (mi_digitsEnd_l1 N n1) (a0, (IntKind.wrap .i64 (a1 + 1))) else (some a1)
def mi_digitsEnd (N : Nat) (a0 : LU) (a1 : Int) : Option Int :=
  mi_digitsEnd_l1 N N (a0, a1)

def mi_NumEnd_k2 (N : Nat) : Int → Option Int
  | y11 => some y11
def mi_NumEnd_k3 (N : Nat) : (LU × Int × Int) → Option Int
  | (a0, y11, y31) => (mi_digitsEnd N a0 y31).bind fun r33 => bif (decide (r33 > y31)) then some r33 else (mi_NumEnd_k2 N y11)
def mi_NumEnd_k1 (N : Nat) : (LU × Int × Int) → Option Int
  | (a0, y11, y12) => bif (y12 == 0) then some (-1) else ((mi_byteAt a0 y11).bind fun r26 => (bif (r26 == 101) then some true else (some (r26 == 69))).bind fun y27 => bif y27 then (mi_byteAt a0 (IntKind.wrap .i64 (y11 + 1))).bind fun r35 => (bif (r35 == 43) then some true else (some (r35 == 45))).bind fun y36 => bif y36 then mi_NumEnd_k3 N (a0, y11, (IntKind.wrap .i64 ((IntKind.wrap .i64 (y11 + 1)) + 1))) else (mi_NumEnd_k3 N (a0, y11, (IntKind.wrap .i64 (y11 + 1)))) else (mi_NumEnd_k2 N y11))
def mi_NumEnd (N : Nat) (a0 : LU) (a1 : Int) : Option Int :=
  (mi_within a1 0 (IntKind.wrap .i64 ((a0.length : Int) - 1))).bind fun r4 => bif (!r4) then some (-1) else ((mi_digitsEnd N a0 a1).bind fun r6 => (mi_byteAt a0 r6).bind fun r38 => bif (r38 == 46) then (mi_digitsEnd N a0 (IntKind.wrap .i64 (r6 + 1))).bind fun r40 => mi_NumEnd_k1 N (a0, r40, (IntKind.wrap .i64 ((IntKind.wrap .i64 (r6 - a1)) + (IntKind.wrap .i64 ((IntKind.wrap .i64 (r40 - r6)) - 1))))) else (mi_NumEnd_k1 N (a0, r6, (IntKind.wrap .i64 (r6 - a1)))))

def mi_quotedEnd_k2 (N : Nat) (kb1 : (LU × Int × Int) → Option Int) : (LU × Int × Int) → Option Int
  | (a0, a2, y127) => kb1 (a0, a2, (IntKind.wrap .i64 (y127 + 1)))
def mi_quotedEnd_l1 (N : Nat) : Nat → (LU × Int × Int) → Option Int
  | 0, _ => none
  | n1 + 1, (a0, a2, y91) => (bif (decide (y91 < (a0.length : Int))) then (ix a0 y91).bind fun b119 => some (((b119).toNat : Int) != 10) else (some false)).bind fun y118 => bif y118 then (ix a0 y91).bind fun b129 => bif ((IntKind.wrap .i64 ((b129).toNat : Int)) == a2) then some (IntKind.wrap .i64 (y91 + 1)) else (((ix a0 y91).bind fun b133 => bif (((b133).toNat : Int) == 92) then (mi_byteAt a0 (IntKind.wrap .i64 (y91 + 1))).bind fun r134 => some (r134 != 10) else (some false)).bind fun y132 => bif y132 then mi_quotedEnd_k2 N (mi_quotedEnd_l1 N n1) (a0, a2, (IntKind.wrap .i64 (y91 + 1))) else (mi_quotedEnd_k2 N (mi_quotedEnd_l1 N n1) (a0, a2, y91))) else (some (-1))
def mi_quotedEnd (N : Nat) (a0 : LU) (a1 : Int) (a2 : Int) : Option Int :=
  (mi_byteAt a0 a1).bind fun r4 => bif (r4 != a2) then some (-1) else (mi_quotedEnd_l1 N N (a0, a2, (IntKind.wrap .i64 (a1 + 1))))

def mi_StrEnd (N : Nat) (a0 : LU) (a1 : Int) : Option Int :=
  (mi_quotedEnd N a0 a1 34).bind fun r2 => some r2

def mi_EreEnd (N : Nat) (a0 : LU) (a1 : Int) : Option Int :=
  (mi_quotedEnd N a0 a1 47).bind fun r2 => bif (r2 == (IntKind.wrap .i64 (a1 + 2))) then some (-1) else (some r2)

def mi_IsLetter (a0 : Int) : Option Bool :=
  (bif (decide (a0 ≥ 97)) then bif (decide (a0 ≤ 122)) then some true else (bif (decide (a0 ≥ 65)) then bif (decide (a0 ≤ 90)) then some true else (some (a0 == 95)) else (some (a0 == 95))) else (bif (decide (a0 ≥ 65)) then bif (decide (a0 ≤ 90)) then some true else (some (a0 == 95)) else (some (a0 == 95)))).bind fun y1 => some y1

def mi_IsWordByte (a0 : Int) : Option Bool :=
  ((mi_IsLetter a0).bind fun r4 => bif r4 then some true else ((mi_IsDigit a0).bind fun r5 => some r5)).bind fun y3 => some y3

def mi_NameShape_l1 (N : Nat) : Nat → (LU × Int) → Option Bool
  | 0, _ => none
  | n1 + 1, (a0, y35) => bif (decide (y35 < (a0.length : Int))) then (ix a0 y35).bind fun b51 => (mi_IsWordByte (IntKind.wrap .i64 ((b51).toNat : Int))).bind fun r52 => bif (!r52) then some false else ((mi_NameShape_l1 N n1) (a0, (IntKind.wrap .i64 (y35 + 1)))) else (((mi_within (a0.length : Int) 1 12).bind fun r57 => bif r57 then (ix a0 0).bind fun b58 => (mi_IsLetter (IntKind.wrap .i64 ((b58).toNat : Int))).bind fun r59 => some r59 else (some false)).bind fun y56 => some y56)
def mi_NameShape (N : Nat) (a0 : LU) : Option Bool :=
  mi_NameShape_l1 N N (a0, 0)

def m_slices_Index_string_l1 (N : Nat) : Nat → (LLU × LU × Int) → Option Int
  | 0, _ => none
  | n1 + 1, (a0, a1, y19) => bif (decide (y19 < (a0.length : Int))) then (ix a0 y19).bind fun e28 => bif (a1 == e28) then some y19 else ((m_slices_Index_string_l1 N n1) (a0, a1, (IntKind.wrap .i64 (y19 + 1)))) else (some (-1))
def m_slices_Index_string (N : Nat) (a0 : LLU) (a1 : LU) : Option Int :=
  m_slices_Index_string_l1 N N (a0, a1, 0)

def mi_KeywordOf (N : Nat) (a0 : LU) : Option Int :=
  (m_slices_Index_string N tab_keywords a0).bind fun r2 => bif (decide (r2 < 0)) then some 0 else (some (IntKind.wrap .i64 (10 + r2)))

def m_slices_Contains_string (N : Nat) (a0 : LLU) (a1 : LU) : Option Bool :=
  (m_slices_Index_string N a0 a1).bind fun r2 => some (decide (r2 ≥ 0))

def mi_IsBuiltin (N : Nat) (a0 : LU) : Option Bool :=
  (m_slices_Contains_string N tab_builtins a0).bind fun r2 => some r2

def mi_NameOk (N : Nat) (a0 : LU) : Option Bool :=
  ((mi_NameShape N a0).bind fun r5 => bif r5 then (mi_KeywordOf N a0).bind fun r6 => bif (r6 == 0) then (mi_IsBuiltin N a0).bind fun r7 => some (!r7) else (some false) else (some false)).bind fun y4 => some y4

def mi_isKeywordKind (a0 : Int) : Option Bool :=
  (mi_within a0 10 26).bind fun r2 => some r2

def mi_isSignKind (a0 : Int) : Option Bool :=
  (mi_within a0 30 68).bind fun r2 => some r2

def mi_SpellOf (a0 : Int) : Option LU :=
  bif (a0 == 1) then some [10] else ((mi_isKeywordKind a0).bind fun r10 => bif r10 then (ix tab_keywords (IntKind.wrap .i64 (a0 - 10))).bind fun e12 => some e12 else ((mi_isSignKind a0).bind fun r14 => bif r14 then (ix tab_signs (IntKind.wrap .i64 (a0 - 30))).bind fun e16 => some e16 else (some [])))

def mi_TokenOk_k1 (N : Nat) : (SToken × Bool) → Option Bool
  | (a0, y28) => bif y28 then (mi_NameOk N a0.Text).bind fun r30 => some r30 else (bif (a0.Kind == 8) then (mi_IsBuiltin N a0.Text).bind fun r32 => some r32 else ((mi_SpellOf a0.Kind).bind fun r34 => some (a0.Text == r34)))
def mi_TokenOk (N : Nat) (a0 : SToken) : Option Bool :=
  bif (a0.Text == []) then some false else (bif (a0.Kind == 2) then ((ix a0.Text 0).bind fun b20 => bif (((b20).toNat : Int) == 35) then (m_strings_Contains a0.Text).bind fun r21 => some (!r21) else (some false)).bind fun y19 => some y19 else (bif (a0.Kind == 3) then (mi_NumEnd N a0.Text 0).bind fun r23 => some (r23 == (a0.Text.length : Int)) else (bif (a0.Kind == 4) then (mi_StrEnd N a0.Text 0).bind fun r25 => some (r25 == (a0.Text.length : Int)) else (bif (a0.Kind == 5) then (mi_EreEnd N a0.Text 0).bind fun r27 => some (r27 == (a0.Text.length : Int)) else (bif (a0.Kind == 6) then mi_TokenOk_k1 N (a0, (a0.Kind == 6)) else (mi_TokenOk_k1 N (a0, (a0.Kind == 7))))))))

def mi_EndsOperand_k1 : Bool → Option Bool
  | y2 => bif y2 then some true else (some false)
def mi_EndsOperand (a0 : Int) : Option Bool :=
  bif (a0 == 3) then mi_EndsOperand_k1 (a0 == 3) else (bif (a0 == 4) then mi_EndsOperand_k1 (a0 == 4) else (bif (a0 == 5) then mi_EndsOperand_k1 (a0 == 5) else (bif (a0 == 6) then mi_EndsOperand_k1 (a0 == 6) else (bif (a0 == 8) then mi_EndsOperand_k1 (a0 == 8) else (bif (a0 == 33) then mi_EndsOperand_k1 (a0 == 33) else (bif (a0 == 35) then mi_EndsOperand_k1 (a0 == 35) else (bif (a0 == 51) then mi_EndsOperand_k1 (a0 == 51) else (mi_EndsOperand_k1 (a0 == 52)))))))))

def mi_TokensOk_k3 (N : Nat) (kb1 : (LT × Int × Int) → Option Bool) : (LT × Int × SToken × Bool) → Option Bool
  | (a0, y398, e549, y586) => bif y586 then some false else (kb1 (a0, e549.Kind, (IntKind.wrap .i64 (y398 + 1))))
def mi_TokensOk_k2 (N : Nat) (kb1 : (LT × Int × Int) → Option Bool) : (LT × Int × Int × SToken × Int) → Option Bool
  | (a0, y397, y398, e549, y552) => (mi_TokenOk N e549).bind fun r575 => bif (!r575) then some false else ((bif (e549.Kind == 7) then some (y552 != 32) else (some false)).bind fun y576 => bif y576 then some false else ((bif (e549.Kind == 2) then bif (y552 != 1) then some (y552 != 0) else (some false) else (some false)).bind fun y577 => bif y577 then some false else ((bif (e549.Kind == 5) then (mi_EndsOperand y397).bind fun r589 => some r589 else (some false)).bind fun y588 => bif y588 then mi_TokensOk_k3 N kb1 (a0, y398, e549, y588) else ((bif (e549.Kind == 58) then (mi_EndsOperand y397).bind fun r593 => some (!r593) else (bif (e549.Kind == 41) then (mi_EndsOperand y397).bind fun r594 => some (!r594) else (some false))).bind fun y592 => mi_TokensOk_k3 N kb1 (a0, y398, e549, y592)))))
def mi_TokensOk_l1 (N : Nat) : Nat → (LT × Int × Int) → Option Bool
  | 0, _ => none
  | n1 + 1, (a0, y397, y398) => bif (decide (y398 < (a0.length : Int))) then (ix a0 y398).bind fun e549 => bif (decide ((IntKind.wrap .i64 (y398 + 1)) < (a0.length : Int))) then (ix a0 (IntKind.wrap .i64 (y398 + 1))).bind fun e596 => mi_TokensOk_k2 N (mi_TokensOk_l1 N n1) (a0, y397, y398, e549, e596.Kind) else (mi_TokensOk_k2 N (mi_TokensOk_l1 N n1) (a0, y397, y398, e549, 0)) else (some true)
def mi_TokensOk (N : Nat) (a0 : LT) : Option Bool :=
  bif (decide ((a0.length : Int) > 3000)) then some false else (mi_TokensOk_l1 N N (a0, 0, 0))

def mi_opens (a0 : Int) : Option Bool :=
  (bif (a0 == 32) then some true else (bif (a0 == 34) then some true else (some (a0 == 30)))).bind fun y1 => some y1

def mi_shuts (a0 : Int) : Option Bool :=
  (bif (a0 == 33) then some true else (bif (a0 == 35) then some true else (some (a0 == 31)))).bind fun y1 => some y1

def mi_NestOf_k2 (N : Nat) (kb1 : (LT × Int × Int) → Option Int) : (Int × LT × Int) → Option Int
  | (y94, a0, y136) => bif (decide (y136 > 40)) then some y94 else (kb1 (a0, y136, (IntKind.wrap .i64 (y94 + 1))))
def mi_NestOf_l1 (N : Nat) : Nat → (LT × Int × Int) → Option Int
  | 0, _ => none
  | n1 + 1, (a0, y93, y94) => bif (decide (y94 < (a0.length : Int))) then (ix a0 y94).bind fun e131 => (mi_opens e131.Kind).bind fun r138 => bif r138 then mi_NestOf_k2 N (mi_NestOf_l1 N n1) (y94, a0, (IntKind.wrap .i64 (y93 + 1))) else ((mi_shuts e131.Kind).bind fun r140 => bif r140 then mi_NestOf_k2 N (mi_NestOf_l1 N n1) (y94, a0, (if 0 > (IntKind.wrap .i64 (y93 - 1)) then 0 else (IntKind.wrap .i64 (y93 - 1)))) else (mi_NestOf_k2 N (mi_NestOf_l1 N n1) (y94, a0, y93))) else (some (-1))
def mi_NestOf (N : Nat) (a0 : LT) : Option Int :=
  mi_NestOf_l1 N N (a0, 0, 0)

def mi_placeOf (a0 : LT) (a1 : Int) : Option Int :=
  bif (decide (a1 < (a0.length : Int))) then (ix a0 a1).bind fun e4 => some e4.At else (bif ((a0.length : Int) == 0) then some 0 else ((ix a0 (IntKind.wrap .i64 ((a0.length : Int) - 1))).bind fun e7 => (ix a0 (IntKind.wrap .i64 ((a0.length : Int) - 1))).bind fun e8 => some (IntKind.wrap .i64 (e7.At + (e8.Text.length : Int)))))

def mi_checked (N : Nat) (a0 : LT) : Option SFault :=
  (mi_TokensOk N a0).bind fun r4 => bif (!r4) then some (⟨2, 0⟩ : SFault) else ((mi_NestOf N a0).bind fun r10 => bif (decide (r10 ≥ 0)) then (mi_placeOf a0 r10).bind fun r12 => some (⟨4, r12⟩ : SFault) else (some (⟨0, 0⟩ : SFault)))

def mp_kind (pa : LT) (pb : Int) (pc : Bool) (p1 : LLU) : Option Int :=
  bif (decide (pb ≥ (pa.length : Int))) then some 0 else ((ix pa pb).bind fun e2 => some e2.Kind)

def mi_BeginsOperand_k1 : Bool → Option Bool
  | y2 => bif y2 then some true else (some false)
def mi_BeginsOperand (a0 : Int) : Option Bool :=
  bif (a0 == 3) then mi_BeginsOperand_k1 (a0 == 3) else (bif (a0 == 4) then mi_BeginsOperand_k1 (a0 == 4) else (bif (a0 == 6) then mi_BeginsOperand_k1 (a0 == 6) else (bif (a0 == 7) then mi_BeginsOperand_k1 (a0 == 7) else (bif (a0 == 8) then mi_BeginsOperand_k1 (a0 == 8) else (bif (a0 == 32) then mi_BeginsOperand_k1 (a0 == 32) else (mi_BeginsOperand_k1 (a0 == 68)))))))

def mp_fail (pa : LT) (pb : Int) (pc : Bool) (p1 : LLU) : Option (SPart × Bool) :=
  some ((⟨(⟨0, 0, [], [], []⟩ : STree), false⟩ : SPart), true)

def mp_listAhead_k1 (N : Nat) (pa : LT) (pb : Int) (pc : Bool) (p1 : LLU) : Unit → Option Bool
  | _ => some false
def mp_listAhead_k3 (N : Nat) (pa : LT) (pb : Int) (pc : Bool) (p1 : LLU) (kb2 : (LT × Int × Int) → Option Bool) : (LT × Int × Int) → Option Bool
  | (l82, y106, y155) => bif (decide (y155 ≤ 0)) then mp_listAhead_k1 N pa pb pc p1 () else (kb2 (l82, y155, (IntKind.wrap .i64 (y106 + 1))))
def mp_listAhead_l2 (N : Nat) (pa : LT) (pb : Int) (pc : Bool) (p1 : LLU) : Nat → (LT × Int × Int) → Option Bool
  | 0, _ => none
  | n2 + 1, (l82, y105, y106) => bif (decide (y106 < (l82.length : Int))) then (ix l82 y106).bind fun e149 => (mi_opens e149.Kind).bind fun r157 => bif r157 then mp_listAhead_k3 N pa pb pc p1 (mp_listAhead_l2 N pa pb pc p1 n2) (l82, y106, (IntKind.wrap .i64 (y105 + 1))) else ((mi_shuts e149.Kind).bind fun r159 => bif r159 then mp_listAhead_k3 N pa pb pc p1 (mp_listAhead_l2 N pa pb pc p1 n2) (l82, y106, (IntKind.wrap .i64 (y105 - 1))) else ((bif (e149.Kind == 36) then some (y105 == 1) else (some false)).bind fun y160 => bif y160 then some true else (mp_listAhead_k3 N pa pb pc p1 (mp_listAhead_l2 N pa pb pc p1 n2) (l82, y106, y105)))) else (mp_listAhead_k1 N pa pb pc p1 ())
def mp_listAhead (N : Nat) (pa : LT) (pb : Int) (pc : Bool) (p1 : LLU) : Option Bool :=
  (cut pa pb (pa.length : Int)).bind fun l82 => mp_listAhead_l2 N pa pb pc p1 N (l82, 0, 0)

def mp_newlines_k2 (N : Nat) (pa : LT) (pc : Bool) (kb1 : (Int × LLU) → Option (Int × LLU)) : (Int × LLU) → Option (Int × LLU)
  | (y14, y37) => kb1 ((IntKind.wrap .i64 (y14 + 1)), y37)
def mp_newlines_l1 (N : Nat) (pa : LT) (pc : Bool) : Nat → (Int × LLU) → Option (Int × LLU)
  | 0, _ => none
  | n1 + 1, (y14, y15) => bif (!pc) then (mp_kind pa y14 pc y15).bind fun r39 => bif (r39 == 1) then mp_newlines_k2 N pa pc (mp_newlines_l1 N pa pc n1) (y14, y15) else (bif (r39 == 2) then (ix pa y14).bind fun e42 => (app 16 y15 [e42.Text]).bind fun x43 => mp_newlines_k2 N pa pc (mp_newlines_l1 N pa pc n1) (y14, x43) else (some (y14, y15))) else (some (y14, y15))
def mp_newlines (N : Nat) (pa : LT) (pb : Int) (pc : Bool) (p1 : LLU) : Option (Int × LLU) :=
  mp_newlines_l1 N pa pc N (pb, p1)

def mp_take (a1 : Int) (pa : LT) (pb : Int) (pc : Bool) (p1 : LLU) : Option (Bool × Int × Bool) :=
  (bif pc then some true else ((mp_kind pa pb pc p1).bind fun r6 => some (r6 != a1))).bind fun y5 => bif y5 then some (false, pb, true) else (some (true, (IntKind.wrap .i64 (pb + 1)), pc))

def mi_isStep (a0 : Int) : Option Bool :=
  (bif (a0 == 51) then some true else (some (a0 == 52))).bind fun y1 => some y1

def mp_text (pa : LT) (pb : Int) (pc : Bool) (p1 : LLU) : Option (LU × Int) :=
  (ix pa pb).bind fun e2 => some (e2.Text, (IntKind.wrap .i64 (pb + 1)))

def mi_bin (a0 : Int) (a1 : SPart) (a2 : SPart) : Option SPart :=
  some (⟨(⟨12, a0, [], [], [a1.tree, a2.tree]⟩ : STree), false⟩ : SPart)

def mi_OpLevel_k4 : (Int × Bool) → Option Int
  | (a0, y8) => bif y8 then some 10 else (bif (a0 == 60) then some 12 else (some 0))
def mi_OpLevel_k3 : (Int × Bool) → Option Int
  | (a0, y7) => bif y7 then some 9 else (bif (a0 == 57) then mi_OpLevel_k4 (a0, (a0 == 57)) else (bif (a0 == 58) then mi_OpLevel_k4 (a0, (a0 == 58)) else (mi_OpLevel_k4 (a0, (a0 == 59)))))
def mi_OpLevel_k2 : (Int × Bool) → Option Int
  | (a0, y6) => bif y6 then some 7 else (bif (a0 == 99) then some 8 else (bif (a0 == 55) then mi_OpLevel_k3 (a0, (a0 == 55)) else (mi_OpLevel_k3 (a0, (a0 == 56)))))
def mi_OpLevel_k1 : (Int × Bool) → Option Int
  | (a0, y5) => bif y5 then some 6 else (bif (a0 == 63) then mi_OpLevel_k2 (a0, (a0 == 63)) else (bif (a0 == 48) then mi_OpLevel_k2 (a0, (a0 == 48)) else (bif (a0 == 47) then mi_OpLevel_k2 (a0, (a0 == 47)) else (bif (a0 == 50) then mi_OpLevel_k2 (a0, (a0 == 50)) else (bif (a0 == 62) then mi_OpLevel_k2 (a0, (a0 == 62)) else (mi_OpLevel_k2 (a0, (a0 == 49))))))))
def mi_OpLevel (a0 : Int) : Option Int :=
  bif (a0 == 44) then some 3 else (bif (a0 == 45) then some 4 else (bif (a0 == 67) then mi_OpLevel_k1 (a0, (a0 == 67)) else (mi_OpLevel_k1 (a0, (a0 == 46)))))

def mp_name (pa : LT) (pb : Int) (pc : Bool) (p1 : LLU) : Option (LU × Int × Bool) :=
  (bif pc then some true else ((mp_kind pa pb pc p1).bind fun r6 => some (r6 != 6))).bind fun y5 => bif y5 then some ([], pb, true) else ((mp_text pa pb pc p1).bind fun r8 => some (r8.1, r8.2, pc))

def mi_isAssign (a0 : Int) : Option Bool :=
  (bif (a0 == 54) then some true else ((mi_within a0 38 43).bind fun r3 => some r3)).bind fun y2 => some y2

structure Rec2 where
  mp_variable : LT → Int → Bool → LLU → Option T1
  mp_primary : LT → Int → Bool → LLU → Option T1
  mp_field : LT → Int → Bool → LLU → Option T1
  mp_lvalue : LT → Int → Bool → LLU → Option T1
  mp_before : LT → Int → Bool → LLU → Option T1
  mp_incr : LT → Int → Bool → LLU → Option T1
  mp_pow : SRules → LT → Int → Bool → LLU → Option T1
  mp_unary : SRules → LT → Int → Bool → LLU → Option T1
  mp_mul : SRules → LT → Int → Bool → LLU → Option T1
  mp_add : SRules → LT → Int → Bool → LLU → Option T1
  mp_cat : SRules → LT → Int → Bool → LLU → Option T1
  mp_compare : SRules → LT → Int → Bool → LLU → Option T1
  mp_match : SRules → LT → Int → Bool → LLU → Option T1
  mp_items : SRules → LT → Int → Bool → LLU → Option ((List STree) × Int × Bool × LLU)
  mp_list : Int → LT → Int → Bool → LLU → Option ((List STree) × Int × Bool × LLU)
  mp_in : SRules → LT → Int → Bool → LLU → Option T1
  mp_and : SRules → LT → Int → Bool → LLU → Option T1
  mp_or : SRules → LT → Int → Bool → LLU → Option T1
  mp_cond : SRules → LT → Int → Bool → LLU → Option T1
  mp_assign : SRules → LT → Int → Bool → LLU → Option T1

def mp_variable_k1 (N : Nat) (R : Rec2) (pa : LT) : ((LU × Int) × Int × Int × Bool × (List STree) × LLU) → Option T1
  | (r2, y7, y8, y9, y10, y11) => some ((⟨(⟨y7, 0, r2.1, [], y10⟩ : STree), true⟩ : SPart), y8, y9, y11)
def mp_variable_F (N : Nat) (R : Rec2) (pa : LT) (pb : Int) (pc : Bool) (p1 : LLU) : Option T1 :=
  (mp_text pa pb pc p1).bind fun r2 => (mp_kind pa r2.2 pc p1).bind fun r13 => bif (r13 == 34) then (R.mp_list 35 pa (IntKind.wrap .i64 (r2.2 + 1)) pc p1).bind fun r15 => mp_variable_k1 N R pa (r2, 5, r15.2.1, r15.2.2.1, r15.1, r15.2.2.2) else (mp_variable_k1 N R pa (r2, 1, r2.2, pc, [], p1))

def mp_primary_k3 (N : Nat) (R : Rec2) (pa : LT) : (Int × (LU × Int) × Int × Bool × (List STree) × LLU) → Option T1
  | (y53, r49, y58, y59, y60, y61) => some ((⟨(⟨y53, 0, r49.1, [], y60⟩ : STree), false⟩ : SPart), y58, y59, y61)
def mp_primary_k2 (N : Nat) (R : Rec2) (pa : LT) : ((LU × Int) × Bool × LLU × Int) → Option T1
  | (r49, pc, p1, y53) => (mp_take 32 pa r49.2 pc p1).bind fun r63 => bif r63.1 then (R.mp_list 33 pa r63.2.1 r63.2.2 p1).bind fun r65 => mp_primary_k3 N R pa (y53, r49, r65.2.1, r65.2.2.1, r65.1, r65.2.2.2) else (mp_primary_k3 N R pa (y53, r49, r63.2.1, r63.2.2, [], p1))
def mp_primary_k1 (N : Nat) (R : Rec2) (pa : LT) : (Int × Int × Bool × LLU × Bool) → Option T1
  | (r38, pb, pc, p1, y47) => bif y47 then (mp_text pa pb pc p1).bind fun r49 => bif (r38 == 8) then (bif (r49.1 == [108, 101, 110, 103, 116, 104]) then (mp_kind pa r49.2 pc p1).bind fun r68 => some (r68 != 32) else (some false)).bind fun y67 => bif y67 then some ((⟨(⟨8, 0, r49.1, [], []⟩ : STree), false⟩ : SPart), r49.2, pc, p1) else (mp_primary_k2 N R pa (r49, pc, p1, 8)) else (mp_primary_k2 N R pa (r49, pc, p1, 7)) else (bif (r38 == 32) then (R.mp_assign (⟨false, false⟩ : SRules) pa (IntKind.wrap .i64 (pb + 1)) pc p1).bind fun r70 => (mp_take 33 pa r70.2.1 r70.2.2.1 r70.2.2.2).bind fun r72 => some ((⟨r70.1.tree, false⟩ : SPart), r72.2.1, r72.2.2, r70.2.2.2) else ((mp_fail pa pb pc p1).bind fun r74 => some (r74.1, pb, r74.2, p1)))
def mp_primary_F (N : Nat) (R : Rec2) (pa : LT) (pb : Int) (pc : Bool) (p1 : LLU) : Option T1 :=
  bif pc then some ((⟨(⟨0, 0, [], [], []⟩ : STree), false⟩ : SPart), pb, pc, p1) else ((mp_kind pa pb pc p1).bind fun r38 => bif (r38 == 3) then (mp_text pa pb pc p1).bind fun r40 => some ((⟨(⟨2, 0, r40.1, [], []⟩ : STree), false⟩ : SPart), r40.2, pc, p1) else (bif (r38 == 4) then (mp_text pa pb pc p1).bind fun r42 => some ((⟨(⟨3, 0, r42.1, [], []⟩ : STree), false⟩ : SPart), r42.2, pc, p1) else (bif (r38 == 5) then (mp_text pa pb pc p1).bind fun r44 => some ((⟨(⟨4, 0, r44.1, [], []⟩ : STree), false⟩ : SPart), r44.2, pc, p1) else (bif (r38 == 6) then (R.mp_variable pa pb pc p1).bind fun r46 => some (r46.1, r46.2.1, r46.2.2.1, r46.2.2.2) else (bif (r38 == 7) then mp_primary_k1 N R pa (r38, pb, pc, p1, (r38 == 7)) else (mp_primary_k1 N R pa (r38, pb, pc, p1, (r38 == 8))))))))

def mp_field_k1 (N : Nat) (R : Rec2) (pa : LT) : (Int × Int × LU × LU × (List STree) × Bool × Int × Bool × LLU) → Option T1
  | (y19, y20, y21, y22, y23, y24, y25, y26, y27) => some ((⟨(⟨6, 0, [], [], [(⟨y19, y20, y21, y22, y23⟩ : STree)]⟩ : STree), true⟩ : SPart), y25, y26, y27)
def mp_field_F (N : Nat) (R : Rec2) (pa : LT) (pb : Int) (pc : Bool) (p1 : LLU) : Option T1 :=
  (bif pc then some true else ((mp_kind pa pb pc p1).bind fun r8 => some (r8 != 68))).bind fun y7 => bif y7 then (R.mp_primary pa pb pc p1).bind fun r10 => some (r10.1, r10.2.1, r10.2.2.1, r10.2.2.2) else ((mp_kind pa (IntKind.wrap .i64 (pb + 1)) pc p1).bind fun r30 => (mi_isStep r30).bind fun r31 => bif r31 then (R.mp_before pa (IntKind.wrap .i64 (pb + 1)) pc p1).bind fun r33 => mp_field_k1 N R pa (r33.1.tree.kind, r33.1.tree.op, r33.1.tree.text, r33.1.tree.other, r33.1.tree.kids, r33.1.target, r33.2.1, r33.2.2.1, r33.2.2.2) else ((R.mp_field pa (IntKind.wrap .i64 (pb + 1)) pc p1).bind fun r35 => mp_field_k1 N R pa (r35.1.tree.kind, r35.1.tree.op, r35.1.tree.text, r35.1.tree.other, r35.1.tree.kids, r35.1.target, r35.2.1, r35.2.2.1, r35.2.2.2)))

def mp_lvalue_k1 (N : Nat) (R : Rec2) (pa : LT) : (Int × Bool × LLU) → Option T1
  | (pb, pc, p1) => (mp_fail pa pb pc p1).bind fun r10 => some (r10.1, pb, r10.2, p1)
def mp_lvalue_F (N : Nat) (R : Rec2) (pa : LT) (pb : Int) (pc : Bool) (p1 : LLU) : Option T1 :=
  bif pc then mp_lvalue_k1 N R pa (pb, pc, p1) else ((mp_kind pa pb pc p1).bind fun r12 => bif (r12 == 68) then (R.mp_field pa pb pc p1).bind fun r14 => some (r14.1, r14.2.1, r14.2.2.1, r14.2.2.2) else ((mp_kind pa pb pc p1).bind fun r16 => bif (r16 == 6) then (R.mp_variable pa pb pc p1).bind fun r18 => some (r18.1, r18.2.1, r18.2.2.1, r18.2.2.2) else (mp_lvalue_k1 N R pa (pb, pc, p1))))

def mp_before_F (N : Nat) (R : Rec2) (pa : LT) (pb : Int) (pc : Bool) (p1 : LLU) : Option T1 :=
  (mp_kind pa pb pc p1).bind fun r2 => (R.mp_lvalue pa (IntKind.wrap .i64 (pb + 1)) pc p1).bind fun r4 => some ((⟨(⟨9, r2, [], [], [r4.1.tree]⟩ : STree), false⟩ : SPart), r4.2.1, r4.2.2.1, r4.2.2.2)

def mp_incr_F (N : Nat) (R : Rec2) (pa : LT) (pb : Int) (pc : Bool) (p1 : LLU) : Option T1 :=
  (bif (!pc) then (mp_kind pa pb pc p1).bind fun r11 => (mi_isStep r11).bind fun r12 => some r12 else (some false)).bind fun y10 => bif y10 then (R.mp_before pa pb pc p1).bind fun r14 => some (r14.1, r14.2.1, r14.2.2.1, r14.2.2.2) else ((R.mp_field pa pb pc p1).bind fun r16 => (bif r16.2.2.1 then some true else (bif (!r16.1.target) then some true else ((mp_kind pa r16.2.1 r16.2.2.1 r16.2.2.2).bind fun r25 => (mi_isStep r25).bind fun r26 => some (!r26)))).bind fun y24 => bif y24 then some (r16.1, r16.2.1, r16.2.2.1, r16.2.2.2) else ((mp_kind pa r16.2.1 r16.2.2.1 r16.2.2.2).bind fun r28 => some ((⟨(⟨10, r28, [], [], [r16.1.tree]⟩ : STree), false⟩ : SPart), (IntKind.wrap .i64 (r16.2.1 + 1)), r16.2.2.1, r16.2.2.2)))

def mp_pow_F (N : Nat) (R : Rec2) (a1 : SRules) (pa : LT) (pb : Int) (pc : Bool) (p1 : LLU) : Option T1 :=
  (R.mp_incr pa pb pc p1).bind fun r2 => (bif r2.2.2.1 then some true else ((mp_kind pa r2.2.1 r2.2.2.1 r2.2.2.2).bind fun r8 => some (r8 != 60))).bind fun y7 => bif y7 then some (r2.1, r2.2.1, r2.2.2.1, r2.2.2.2) else ((R.mp_unary a1 pa (IntKind.wrap .i64 (r2.2.1 + 1)) r2.2.2.1 r2.2.2.2).bind fun r11 => (mi_bin 60 r2.1 r11.1).bind fun r12 => some (r12, r11.2.1, r11.2.2.1, r11.2.2.2))

def mp_unary_F (N : Nat) (R : Rec2) (a1 : SRules) (pa : LT) (pb : Int) (pc : Bool) (p1 : LLU) : Option T1 :=
  (mp_kind pa pb pc p1).bind fun r2 => (bif pc then some true else (bif (r2 != 55) then bif (r2 != 56) then some (r2 != 61) else (some false) else (some false))).bind fun y6 => bif y6 then (R.mp_pow a1 pa pb pc p1).bind fun r8 => some (r8.1, r8.2.1, r8.2.2.1, r8.2.2.2) else ((R.mp_unary a1 pa (IntKind.wrap .i64 (pb + 1)) pc p1).bind fun r10 => some ((⟨(⟨11, r2, [], [], [r10.1.tree]⟩ : STree), false⟩ : SPart), r10.2.1, r10.2.2.1, r10.2.2.2))

def mp_mul_l1 (N : Nat) (R : Rec2) (pa : LT) : Nat → (SRules × Int × Bool × Int × Int × LU × LU × (List STree) × Bool × LLU) → Option T1
  | 0, _ => none
  | n1 + 1, (a1, y85, y86, y87, y88, y89, y90, y91, y92, y93) => (bif (!y86) then (mp_kind pa y85 y86 y93).bind fun r127 => (mi_OpLevel r127).bind fun r128 => some (r128 == 10) else (some false)).bind fun y126 => bif y126 then (mp_kind pa y85 y86 y93).bind fun r130 => (R.mp_unary a1 pa (IntKind.wrap .i64 (y85 + 1)) y86 y93).bind fun r133 => (mi_bin r130 (⟨(⟨y87, y88, y89, y90, y91⟩ : STree), y92⟩ : SPart) r133.1).bind fun r134 => (mp_mul_l1 N R pa n1) (a1, r133.2.1, r133.2.2.1, r134.tree.kind, r134.tree.op, r134.tree.text, r134.tree.other, r134.tree.kids, r134.target, r133.2.2.2) else (some ((⟨(⟨y87, y88, y89, y90, y91⟩ : STree), y92⟩ : SPart), y85, y86, y93))
def mp_mul_F (N : Nat) (R : Rec2) (a1 : SRules) (pa : LT) (pb : Int) (pc : Bool) (p1 : LLU) : Option T1 :=
  (R.mp_unary a1 pa pb pc p1).bind fun r2 => mp_mul_l1 N R pa N (a1, r2.2.1, r2.2.2.1, r2.1.tree.kind, r2.1.tree.op, r2.1.tree.text, r2.1.tree.other, r2.1.tree.kids, r2.1.target, r2.2.2.2)

def mp_add_l1 (N : Nat) (R : Rec2) (pa : LT) : Nat → (SRules × Int × Bool × Int × Int × LU × LU × (List STree) × Bool × LLU) → Option T1
  | 0, _ => none
  | n1 + 1, (a1, y85, y86, y87, y88, y89, y90, y91, y92, y93) => (bif (!y86) then (mp_kind pa y85 y86 y93).bind fun r127 => (mi_OpLevel r127).bind fun r128 => some (r128 == 9) else (some false)).bind fun y126 => bif y126 then (mp_kind pa y85 y86 y93).bind fun r130 => (R.mp_mul a1 pa (IntKind.wrap .i64 (y85 + 1)) y86 y93).bind fun r133 => (mi_bin r130 (⟨(⟨y87, y88, y89, y90, y91⟩ : STree), y92⟩ : SPart) r133.1).bind fun r134 => (mp_add_l1 N R pa n1) (a1, r133.2.1, r133.2.2.1, r134.tree.kind, r134.tree.op, r134.tree.text, r134.tree.other, r134.tree.kids, r134.target, r133.2.2.2) else (some ((⟨(⟨y87, y88, y89, y90, y91⟩ : STree), y92⟩ : SPart), y85, y86, y93))
def mp_add_F (N : Nat) (R : Rec2) (a1 : SRules) (pa : LT) (pb : Int) (pc : Bool) (p1 : LLU) : Option T1 :=
  (R.mp_mul a1 pa pb pc p1).bind fun r2 => mp_add_l1 N R pa N (a1, r2.2.1, r2.2.2.1, r2.1.tree.kind, r2.1.tree.op, r2.1.tree.text, r2.1.tree.other, r2.1.tree.kids, r2.1.target, r2.2.2.2)

def mp_cat_l1 (N : Nat) (R : Rec2) (pa : LT) : Nat → (SRules × Int × Bool × Int × Int × LU × LU × (List STree) × Bool × LLU) → Option T1
  | 0, _ => none
  | n1 + 1, (a1, y77, y78, y79, y80, y81, y82, y83, y84, y85) => (bif (!y78) then (mp_kind pa y77 y78 y85).bind fun r117 => (mi_BeginsOperand r117).bind fun r118 => some r118 else (some false)).bind fun y116 => bif y116 then (R.mp_add a1 pa y77 y78 y85).bind fun r121 => (mi_bin 99 (⟨(⟨y79, y80, y81, y82, y83⟩ : STree), y84⟩ : SPart) r121.1).bind fun r122 => (mp_cat_l1 N R pa n1) (a1, r121.2.1, r121.2.2.1, r122.tree.kind, r122.tree.op, r122.tree.text, r122.tree.other, r122.tree.kids, r122.target, r121.2.2.2) else (some ((⟨(⟨y79, y80, y81, y82, y83⟩ : STree), y84⟩ : SPart), y77, y78, y85))
def mp_cat_F (N : Nat) (R : Rec2) (a1 : SRules) (pa : LT) (pb : Int) (pc : Bool) (p1 : LLU) : Option T1 :=
  (R.mp_add a1 pa pb pc p1).bind fun r2 => mp_cat_l1 N R pa N (a1, r2.2.1, r2.2.2.1, r2.1.tree.kind, r2.1.tree.op, r2.1.tree.text, r2.1.tree.other, r2.1.tree.kids, r2.1.target, r2.2.2.2)

def mp_compare_F (N : Nat) (R : Rec2) (a1 : SRules) (pa : LT) (pb : Int) (pc : Bool) (p1 : LLU) : Option T1 :=
  (R.mp_cat a1 pa pb pc p1).bind fun r2 => (bif r2.2.2.1 then some true else ((mp_kind pa r2.2.1 r2.2.2.1 r2.2.2.2).bind fun r14 => (mi_OpLevel r14).bind fun r15 => bif (r15 != 7) then some true else (bif a1.noGt then (mp_kind pa r2.2.1 r2.2.2.1 r2.2.2.2).bind fun r16 => some (r16 == 62) else (some false)))).bind fun y13 => bif y13 then some (r2.1, r2.2.1, r2.2.2.1, r2.2.2.2) else ((mp_kind pa r2.2.1 r2.2.2.1 r2.2.2.2).bind fun r18 => (R.mp_cat a1 pa (IntKind.wrap .i64 (r2.2.1 + 1)) r2.2.2.1 r2.2.2.2).bind fun r21 => (mi_bin r18 r2.1 r21.1).bind fun r22 => some (r22, r21.2.1, r21.2.2.1, r21.2.2.2))

def mp_match_F (N : Nat) (R : Rec2) (a1 : SRules) (pa : LT) (pb : Int) (pc : Bool) (p1 : LLU) : Option T1 :=
  (R.mp_compare a1 pa pb pc p1).bind fun r2 => (bif r2.2.2.1 then some true else ((mp_kind pa r2.2.1 r2.2.2.1 r2.2.2.2).bind fun r11 => bif (r11 != 67) then (mp_kind pa r2.2.1 r2.2.2.1 r2.2.2.2).bind fun r12 => some (r12 != 46) else (some false))).bind fun y10 => bif y10 then some (r2.1, r2.2.1, r2.2.2.1, r2.2.2.2) else ((mp_kind pa r2.2.1 r2.2.2.1 r2.2.2.2).bind fun r14 => (R.mp_compare a1 pa (IntKind.wrap .i64 (r2.2.1 + 1)) r2.2.2.1 r2.2.2.2).bind fun r17 => (mi_bin r14 r2.1 r17.1).bind fun r18 => some (r18, r17.2.1, r17.2.2.1, r17.2.2.2))

def mp_items_k1 (N : Nat) (R : Rec2) (pa : LT) : ((List STree) × Int × Bool × LLU) → Option ((List STree) × Int × Bool × LLU)
  | (y45, y46, y47, y48) => some (y45, y46, y47, y48)
def mp_items_l2 (N : Nat) (R : Rec2) (pa : LT) : Nat → (SRules × Int × Bool × (List STree) × LLU) → Option ((List STree) × Int × Bool × LLU)
  | 0, _ => none
  | n2 + 1, (a1, y61, y62, y63, y64) => bif (!y62) then (R.mp_assign a1 pa y61 y62 y64).bind fun r83 => (app 72 y63 [r83.1.tree]).bind fun x84 => (bif r83.2.2.1 then some true else ((mp_kind pa r83.2.1 r83.2.2.1 r83.2.2.2).bind fun r90 => some (r90 != 36))).bind fun y89 => bif y89 then mp_items_k1 N R pa (x84, r83.2.1, r83.2.2.1, r83.2.2.2) else (bif ((x84.length : Int) == 6) then mp_items_k1 N R pa (x84, r83.2.1, true, r83.2.2.2) else ((mp_newlines N pa (IntKind.wrap .i64 (r83.2.1 + 1)) r83.2.2.1 r83.2.2.2).bind fun r92 => (mp_items_l2 N R pa n2) (a1, r92.1, r83.2.2.1, x84, r92.2))) else (mp_items_k1 N R pa (y63, y61, y62, y64))
def mp_items_F (N : Nat) (R : Rec2) (a1 : SRules) (pa : LT) (pb : Int) (pc : Bool) (p1 : LLU) : Option ((List STree) × Int × Bool × LLU) :=
  mp_items_l2 N R pa N (a1, pb, pc, [], p1)

def mp_list_F (N : Nat) (R : Rec2) (a1 : Int) (pa : LT) (pb : Int) (pc : Bool) (p1 : LLU) : Option ((List STree) × Int × Bool × LLU) :=
  ((mp_kind pa pb pc p1).bind fun r6 => bif (r6 == a1) then some (a1 == 33) else (some false)).bind fun y5 => bif y5 then some ([], (IntKind.wrap .i64 (pb + 1)), pc, p1) else ((R.mp_items (⟨false, false⟩ : SRules) pa pb pc p1).bind fun r8 => (mp_take a1 pa r8.2.1 r8.2.2.1 r8.2.2.2).bind fun r10 => some (r8.1, r10.2.1, r10.2.2, r8.2.2.2))

def mp_in_l1 (N : Nat) (R : Rec2) (pa : LT) : Nat → (SRules × ((List STree) × Int × Bool × LLU) × Int × Bool × LU × (List STree)) → Option T1
  | 0, _ => none
  | n1 + 1, (a1, r21, y91, y92, y93, y94) => (bif (!y92) then (mp_kind pa y91 y92 r21.2.2.2).bind fun r112 => bif (r112 == 24) then some (!a1.noIn) else (some false) else (some false)).bind fun y111 => bif y111 then (mp_name pa (IntKind.wrap .i64 (y91 + 1)) y92 r21.2.2.2).bind fun r114 => (mp_in_l1 N R pa n1) (a1, r21, r114.2.1, r114.2.2, r114.1, [(⟨13, 0, y93, [], y94⟩ : STree)]) else (some ((⟨(⟨13, 0, y93, [], y94⟩ : STree), false⟩ : SPart), y91, y92, r21.2.2.2))
def mp_in_l2 (N : Nat) (R : Rec2) (pa : LT) : Nat → (SRules × T1 × Int × Bool × LU × (List STree)) → Option T1
  | 0, _ => none
  | n2 + 1, (a1, r116, y173, y174, y175, y176) => (bif (!y174) then (mp_kind pa y173 y174 r116.2.2.2).bind fun r194 => bif (r194 == 24) then some (!a1.noIn) else (some false) else (some false)).bind fun y193 => bif y193 then (mp_name pa (IntKind.wrap .i64 (y173 + 1)) y174 r116.2.2.2).bind fun r196 => (mp_in_l2 N R pa n2) (a1, r116, r196.2.1, r196.2.2, r196.1, [(⟨13, 0, y175, [], y176⟩ : STree)]) else (some ((⟨(⟨13, 0, y175, [], y176⟩ : STree), false⟩ : SPart), y173, y174, r116.2.2.2))
def mp_in_F (N : Nat) (R : Rec2) (a1 : SRules) (pa : LT) (pb : Int) (pc : Bool) (p1 : LLU) : Option T1 :=
  (bif (!pc) then (mp_kind pa pb pc p1).bind fun r18 => bif (r18 == 32) then bif (!a1.noIn) then (mp_listAhead N pa pb pc p1).bind fun r19 => some r19 else (some false) else (some false) else (some false)).bind fun y17 => bif y17 then (R.mp_list 33 pa (IntKind.wrap .i64 (pb + 1)) pc p1).bind fun r21 => (bif (!r21.2.2.1) then (mp_kind pa r21.2.1 r21.2.2.1 r21.2.2.2).bind fun r24 => some (r24 != 24) else (some false)).bind fun y23 => bif y23 then (mp_fail pa r21.2.1 r21.2.2.1 r21.2.2.2).bind fun r26 => some (r26.1, r21.2.1, r26.2, r21.2.2.2) else ((bif (!r21.2.2.1) then (mp_kind pa r21.2.1 r21.2.2.1 r21.2.2.2).bind fun r76 => bif (r76 == 24) then some (!a1.noIn) else (some false) else (some false)).bind fun y75 => bif y75 then (neN r21.1).bind fun b80 => (mp_name pa (IntKind.wrap .i64 (r21.2.1 + 1)) r21.2.2.1 r21.2.2.2).bind fun r82 => mp_in_l1 N R pa N (a1, r21, r82.2.1, r82.2.2, r82.1, r21.1) else (some ((⟨(⟨0, 0, [], [], []⟩ : STree), false⟩ : SPart), r21.2.1, r21.2.2.1, r21.2.2.2))) else ((R.mp_match a1 pa pb pc p1).bind fun r116 => (bif (!r116.2.2.1) then (mp_kind pa r116.2.1 r116.2.2.1 r116.2.2.2).bind fun r162 => bif (r162 == 24) then some (!a1.noIn) else (some false) else (some false)).bind fun y161 => bif y161 then (mp_name pa (IntKind.wrap .i64 (r116.2.1 + 1)) r116.2.2.1 r116.2.2.2).bind fun r164 => mp_in_l2 N R pa N (a1, r116, r164.2.1, r164.2.2, r164.1, [r116.1.tree]) else (some (r116.1, r116.2.1, r116.2.2.1, r116.2.2.2)))

def mp_and_l1 (N : Nat) (R : Rec2) (pa : LT) : Nat → (SRules × Int × Bool × Int × Int × LU × LU × (List STree) × Bool × LLU) → Option T1
  | 0, _ => none
  | n1 + 1, (a1, y69, y70, y71, y72, y73, y74, y75, y76, y77) => (bif (!y70) then (mp_kind pa y69 y70 y77).bind fun r104 => some (r104 == 45) else (some false)).bind fun y103 => bif y103 then (mp_newlines N pa (IntKind.wrap .i64 (y69 + 1)) y70 y77).bind fun r106 => (R.mp_in a1 pa r106.1 y70 r106.2).bind fun r109 => (mi_bin 45 (⟨(⟨y71, y72, y73, y74, y75⟩ : STree), y76⟩ : SPart) r109.1).bind fun r110 => (mp_and_l1 N R pa n1) (a1, r109.2.1, r109.2.2.1, r110.tree.kind, r110.tree.op, r110.tree.text, r110.tree.other, r110.tree.kids, r110.target, r109.2.2.2) else (some ((⟨(⟨y71, y72, y73, y74, y75⟩ : STree), y76⟩ : SPart), y69, y70, y77))
def mp_and_F (N : Nat) (R : Rec2) (a1 : SRules) (pa : LT) (pb : Int) (pc : Bool) (p1 : LLU) : Option T1 :=
  (R.mp_in a1 pa pb pc p1).bind fun r2 => mp_and_l1 N R pa N (a1, r2.2.1, r2.2.2.1, r2.1.tree.kind, r2.1.tree.op, r2.1.tree.text, r2.1.tree.other, r2.1.tree.kids, r2.1.target, r2.2.2.2)

def mp_or_l1 (N : Nat) (R : Rec2) (pa : LT) : Nat → (SRules × Int × Bool × Int × Int × LU × LU × (List STree) × Bool × LLU) → Option T1
  | 0, _ => none
  | n1 + 1, (a1, y69, y70, y71, y72, y73, y74, y75, y76, y77) => (bif (!y70) then (mp_kind pa y69 y70 y77).bind fun r104 => some (r104 == 44) else (some false)).bind fun y103 => bif y103 then (mp_newlines N pa (IntKind.wrap .i64 (y69 + 1)) y70 y77).bind fun r106 => (R.mp_and a1 pa r106.1 y70 r106.2).bind fun r109 => (mi_bin 44 (⟨(⟨y71, y72, y73, y74, y75⟩ : STree), y76⟩ : SPart) r109.1).bind fun r110 => (mp_or_l1 N R pa n1) (a1, r109.2.1, r109.2.2.1, r110.tree.kind, r110.tree.op, r110.tree.text, r110.tree.other, r110.tree.kids, r110.target, r109.2.2.2) else (some ((⟨(⟨y71, y72, y73, y74, y75⟩ : STree), y76⟩ : SPart), y69, y70, y77))
def mp_or_F (N : Nat) (R : Rec2) (a1 : SRules) (pa : LT) (pb : Int) (pc : Bool) (p1 : LLU) : Option T1 :=
  (R.mp_and a1 pa pb pc p1).bind fun r2 => mp_or_l1 N R pa N (a1, r2.2.1, r2.2.2.1, r2.1.tree.kind, r2.1.tree.op, r2.1.tree.text, r2.1.tree.other, r2.1.tree.kids, r2.1.target, r2.2.2.2)

def mp_cond_F (N : Nat) (R : Rec2) (a1 : SRules) (pa : LT) (pb : Int) (pc : Bool) (p1 : LLU) : Option T1 :=
  (R.mp_or a1 pa pb pc p1).bind fun r2 => (bif r2.2.2.1 then some true else ((mp_kind pa r2.2.1 r2.2.2.1 r2.2.2.2).bind fun r8 => some (r8 != 65))).bind fun y7 => bif y7 then some (r2.1, r2.2.1, r2.2.2.1, r2.2.2.2) else ((R.mp_cond a1 pa (IntKind.wrap .i64 (r2.2.1 + 1)) r2.2.2.1 r2.2.2.2).bind fun r10 => (mp_take 66 pa r10.2.1 r10.2.2.1 r10.2.2.2).bind fun r12 => bif r12.2.2 then some ((⟨(⟨0, 0, [], [], []⟩ : STree), false⟩ : SPart), r12.2.1, r12.2.2, r10.2.2.2) else ((R.mp_cond a1 pa r12.2.1 r12.2.2 r10.2.2.2).bind fun r14 => some ((⟨(⟨14, 0, [], [], [r2.1.tree, r10.1.tree, r14.1.tree]⟩ : STree), false⟩ : SPart), r14.2.1, r14.2.2.1, r14.2.2.2)))

def mp_assign_F (N : Nat) (R : Rec2) (a1 : SRules) (pa : LT) (pb : Int) (pc : Bool) (p1 : LLU) : Option T1 :=
  (R.mp_cond a1 pa pb pc p1).bind fun r2 => (bif r2.2.2.1 then some true else (bif (!r2.1.target) then some true else ((mp_kind pa r2.2.1 r2.2.2.1 r2.2.2.2).bind fun r11 => (mi_isAssign r11).bind fun r12 => some (!r12)))).bind fun y10 => bif y10 then some (r2.1, r2.2.1, r2.2.2.1, r2.2.2.2) else ((mp_kind pa r2.2.1 r2.2.2.1 r2.2.2.2).bind fun r14 => (R.mp_assign a1 pa (IntKind.wrap .i64 (r2.2.1 + 1)) r2.2.2.1 r2.2.2.2).bind fun r16 => some ((⟨(⟨15, r14, [], [], [r2.1.tree, r16.1.tree]⟩ : STree), false⟩ : SPart), r16.2.1, r16.2.2.1, r16.2.2.2))
def scc2 : Nat → Rec2
  | 0 => ⟨fun _ _ _ _ => none, fun _ _ _ _ => none, fun _ _ _ _ => none, fun _ _ _ _ => none, fun _ _ _ _ => none, fun _ _ _ _ => none, fun _ _ _ _ _ => none, fun _ _ _ _ _ => none, fun _ _ _ _ _ => none, fun _ _ _ _ _ => none, fun _ _ _ _ _ => none, fun _ _ _ _ _ => none, fun _ _ _ _ _ => none, fun _ _ _ _ _ => none, fun _ _ _ _ _ => none, fun _ _ _ _ _ => none, fun _ _ _ _ _ => none, fun _ _ _ _ _ => none, fun _ _ _ _ _ => none, fun _ _ _ _ _ => none⟩
  | N + 1 => ⟨fun pa pb pc p1 => mp_variable_F N (scc2 N) pa pb pc p1, fun pa pb pc p1 => mp_primary_F N (scc2 N) pa pb pc p1, fun pa pb pc p1 => mp_field_F N (scc2 N) pa pb pc p1, fun pa pb pc p1 => mp_lvalue_F N (scc2 N) pa pb pc p1, fun pa pb pc p1 => mp_before_F N (scc2 N) pa pb pc p1, fun pa pb pc p1 => mp_incr_F N (scc2 N) pa pb pc p1, fun a1 pa pb pc p1 => mp_pow_F N (scc2 N) a1 pa pb pc p1, fun a1 pa pb pc p1 => mp_unary_F N (scc2 N) a1 pa pb pc p1, fun a1 pa pb pc p1 => mp_mul_F N (scc2 N) a1 pa pb pc p1, fun a1 pa pb pc p1 => mp_add_F N (scc2 N) a1 pa pb pc p1, fun a1 pa pb pc p1 => mp_cat_F N (scc2 N) a1 pa pb pc p1, fun a1 pa pb pc p1 => mp_compare_F N (scc2 N) a1 pa pb pc p1, fun a1 pa pb pc p1 => mp_match_F N (scc2 N) a1 pa pb pc p1, fun a1 pa pb pc p1 => mp_items_F N (scc2 N) a1 pa pb pc p1, fun a1 pa pb pc p1 => mp_list_F N (scc2 N) a1 pa pb pc p1, fun a1 pa pb pc p1 => mp_in_F N (scc2 N) a1 pa pb pc p1, fun a1 pa pb pc p1 => mp_and_F N (scc2 N) a1 pa pb pc p1, fun a1 pa pb pc p1 => mp_or_F N (scc2 N) a1 pa pb pc p1, fun a1 pa pb pc p1 => mp_cond_F N (scc2 N) a1 pa pb pc p1, fun a1 pa pb pc p1 => mp_assign_F N (scc2 N) a1 pa pb pc p1⟩
def mp_variable (N : Nat) (pa : LT) (pb : Int) (pc : Bool) (p1 : LLU) : Option T1 := (scc2 N).mp_variable pa pb pc p1
def mp_primary (N : Nat) (pa : LT) (pb : Int) (pc : Bool) (p1 : LLU) : Option T1 := (scc2 N).mp_primary pa pb pc p1
def mp_field (N : Nat) (pa : LT) (pb : Int) (pc : Bool) (p1 : LLU) : Option T1 := (scc2 N).mp_field pa pb pc p1
def mp_lvalue (N : Nat) (pa : LT) (pb : Int) (pc : Bool) (p1 : LLU) : Option T1 := (scc2 N).mp_lvalue pa pb pc p1
def mp_before (N : Nat) (pa : LT) (pb : Int) (pc : Bool) (p1 : LLU) : Option T1 := (scc2 N).mp_before pa pb pc p1
def mp_incr (N : Nat) (pa : LT) (pb : Int) (pc : Bool) (p1 : LLU) : Option T1 := (scc2 N).mp_incr pa pb pc p1
def mp_pow (N : Nat) (a1 : SRules) (pa : LT) (pb : Int) (pc : Bool) (p1 : LLU) : Option T1 := (scc2 N).mp_pow a1 pa pb pc p1
def mp_unary (N : Nat) (a1 : SRules) (pa : LT) (pb : Int) (pc : Bool) (p1 : LLU) : Option T1 := (scc2 N).mp_unary a1 pa pb pc p1
def mp_mul (N : Nat) (a1 : SRules) (pa : LT) (pb : Int) (pc : Bool) (p1 : LLU) : Option T1 := (scc2 N).mp_mul a1 pa pb pc p1
def mp_add (N : Nat) (a1 : SRules) (pa : LT) (pb : Int) (pc : Bool) (p1 : LLU) : Option T1 := (scc2 N).mp_add a1 pa pb pc p1
def mp_cat (N : Nat) (a1 : SRules) (pa : LT) (pb : Int) (pc : Bool) (p1 : LLU) : Option T1 := (scc2 N).mp_cat a1 pa pb pc p1
def mp_compare (N : Nat) (a1 : SRules) (pa : LT) (pb : Int) (pc : Bool) (p1 : LLU) : Option T1 := (scc2 N).mp_compare a1 pa pb pc p1
def mp_match (N : Nat) (a1 : SRules) (pa : LT) (pb : Int) (pc : Bool) (p1 : LLU) : Option T1 := (scc2 N).mp_match a1 pa pb pc p1
def mp_items (N : Nat) (a1 : SRules) (pa : LT) (pb : Int) (pc : Bool) (p1 : LLU) : Option ((List STree) × Int × Bool × LLU) := (scc2 N).mp_items a1 pa pb pc p1
def mp_list (N : Nat) (a1 : Int) (pa : LT) (pb : Int) (pc : Bool) (p1 : LLU) : Option ((List STree) × Int × Bool × LLU) := (scc2 N).mp_list a1 pa pb pc p1
def mp_in (N : Nat) (a1 : SRules) (pa : LT) (pb : Int) (pc : Bool) (p1 : LLU) : Option T1 := (scc2 N).mp_in a1 pa pb pc p1
def mp_and (N : Nat) (a1 : SRules) (pa : LT) (pb : Int) (pc : Bool) (p1 : LLU) : Option T1 := (scc2 N).mp_and a1 pa pb pc p1
def mp_or (N : Nat) (a1 : SRules) (pa : LT) (pb : Int) (pc : Bool) (p1 : LLU) : Option T1 := (scc2 N).mp_or a1 pa pb pc p1
def mp_cond (N : Nat) (a1 : SRules) (pa : LT) (pb : Int) (pc : Bool) (p1 : LLU) : Option T1 := (scc2 N).mp_cond a1 pa pb pc p1
def mp_assign (N : Nat) (a1 : SRules) (pa : LT) (pb : Int) (pc : Bool) (p1 : LLU) : Option T1 := (scc2 N).mp_assign a1 pa pb pc p1

def mp_level (N : Nat) (a1 : SPos) (pa : LT) (pb : Int) (pc : Bool) (p1 : LLU) : Option T1 :=
  (bif a1.NoSign then (mp_kind pa pb pc p1).bind fun r11 => (mi_BeginsOperand r11).bind fun r12 => some (!r12) else (some false)).bind fun y10 => bif y10 then (mp_fail pa pb pc p1).bind fun r14 => some (r14.1, pb, r14.2, p1) else (bif (a1.Level == 1) then (mp_assign N (⟨a1.NoIn, a1.NoGt⟩ : SRules) pa pb pc p1).bind fun r58 => some (r58.1, r58.2.1, r58.2.2.1, r58.2.2.2) else (bif (a1.Level == 2) then (mp_cond N (⟨a1.NoIn, a1.NoGt⟩ : SRules) pa pb pc p1).bind fun r60 => some (r60.1, r60.2.1, r60.2.2.1, r60.2.2.2) else (bif (a1.Level == 3) then (mp_or N (⟨a1.NoIn, a1.NoGt⟩ : SRules) pa pb pc p1).bind fun r62 => some (r62.1, r62.2.1, r62.2.2.1, r62.2.2.2) else (bif (a1.Level == 4) then (mp_and N (⟨a1.NoIn, a1.NoGt⟩ : SRules) pa pb pc p1).bind fun r64 => some (r64.1, r64.2.1, r64.2.2.1, r64.2.2.2) else (bif (a1.Level == 5) then (mp_in N (⟨a1.NoIn, a1.NoGt⟩ : SRules) pa pb pc p1).bind fun r66 => some (r66.1, r66.2.1, r66.2.2.1, r66.2.2.2) else (bif (a1.Level == 6) then (mp_match N (⟨a1.NoIn, a1.NoGt⟩ : SRules) pa pb pc p1).bind fun r68 => some (r68.1, r68.2.1, r68.2.2.1, r68.2.2.2) else (bif (a1.Level == 7) then (mp_compare N (⟨a1.NoIn, a1.NoGt⟩ : SRules) pa pb pc p1).bind fun r70 => some (r70.1, r70.2.1, r70.2.2.1, r70.2.2.2) else (bif (a1.Level == 8) then (mp_cat N (⟨a1.NoIn, a1.NoGt⟩ : SRules) pa pb pc p1).bind fun r72 => some (r72.1, r72.2.1, r72.2.2.1, r72.2.2.2) else (bif (a1.Level == 9) then (mp_add N (⟨a1.NoIn, a1.NoGt⟩ : SRules) pa pb pc p1).bind fun r74 => some (r74.1, r74.2.1, r74.2.2.1, r74.2.2.2) else (bif (a1.Level == 10) then (mp_mul N (⟨a1.NoIn, a1.NoGt⟩ : SRules) pa pb pc p1).bind fun r76 => some (r76.1, r76.2.1, r76.2.2.1, r76.2.2.2) else (bif (a1.Level == 11) then (mp_unary N (⟨a1.NoIn, a1.NoGt⟩ : SRules) pa pb pc p1).bind fun r78 => some (r78.1, r78.2.1, r78.2.2.1, r78.2.2.2) else (bif (a1.Level == 12) then (mp_pow N (⟨a1.NoIn, a1.NoGt⟩ : SRules) pa pb pc p1).bind fun r80 => some (r80.1, r80.2.1, r80.2.2.1, r80.2.2.2) else (bif (a1.Level == 13) then (mp_incr N pa pb pc p1).bind fun r82 => some (r82.1, r82.2.1, r82.2.2.1, r82.2.2.2) else (bif (a1.Level == 14) then (bif a1.Dollar then (mp_kind pa pb pc p1).bind fun r93 => (mi_isStep r93).bind fun r94 => some r94 else (some false)).bind fun y92 => bif y92 then (mp_before N pa pb pc p1).bind fun r96 => some (r96.1, r96.2.1, r96.2.2.1, r96.2.2.2) else ((mp_field N pa pb pc p1).bind fun r98 => some (r98.1, r98.2.1, r98.2.2.1, r98.2.2.2)) else ((mp_primary N pa pb pc p1).bind fun r100 => some (r100.1, r100.2.1, r100.2.2.1, r100.2.2.2))))))))))))))))

structure Rec3 where
  mi_tree__size : STree → Option Int

def mi_tree__size_l1 (N : Nat) (R : Rec3) : Nat → (STree × Int × Int) → Option Int
  | 0, _ => none
  | n1 + 1, (a0, y37, y38) => bif (decide (y38 < (a0.kids.length : Int))) then (ix a0.kids y38).bind fun e54 => (R.mi_tree__size e54).bind fun r56 => (mi_tree__size_l1 N R n1) (a0, (IntKind.wrap .i64 (y37 + r56)), (IntKind.wrap .i64 (y38 + 1))) else (some y37)
def mi_tree__size_F (N : Nat) (R : Rec3) (a0 : STree) : Option Int :=
  mi_tree__size_l1 N R N (a0, 1, 0)
def scc3 : Nat → Rec3
  | 0 => ⟨fun _ => none⟩
  | N + 1 => ⟨fun a0 => mi_tree__size_F N (scc3 N) a0⟩
def mi_tree__size (N : Nat) (a0 : STree) : Option Int := (scc3 N).mi_tree__size a0

structure Rec4 where
  mi_tree__depth : STree → Option Int

def mi_tree__depth_l1 (N : Nat) (R : Rec4) : Nat → (STree × Int × Int) → Option Int
  | 0, _ => none
  | n1 + 1, (a0, y37, y38) => bif (decide (y38 < (a0.kids.length : Int))) then (ix a0.kids y38).bind fun e54 => (R.mi_tree__depth e54).bind fun r56 => (mi_tree__depth_l1 N R n1) (a0, (if r56 > y37 then r56 else y37), (IntKind.wrap .i64 (y38 + 1))) else (some (IntKind.wrap .i64 (y37 + 1)))
def mi_tree__depth_F (N : Nat) (R : Rec4) (a0 : STree) : Option Int :=
  mi_tree__depth_l1 N R N (a0, 0, 0)
def scc4 : Nat → Rec4
  | 0 => ⟨fun _ => none⟩
  | N + 1 => ⟨fun a0 => mi_tree__depth_F N (scc4 N) a0⟩
def mi_tree__depth (N : Nat) (a0 : STree) : Option Int := (scc4 N).mi_tree__depth a0

def mi_bounded (N : Nat) (a0 : STree) : Option SFault :=
  (mi_tree__size N a0).bind fun r6 => bif (decide (r6 > 400)) then some (⟨1, 0⟩ : SFault) else ((mi_tree__depth N a0).bind fun r8 => bif (decide (r8 > 40)) then some (⟨4, 0⟩ : SFault) else (some (⟨0, 0⟩ : SFault)))

structure Rec5 where
  mi_tree__add : STree → LN → Option LN

def mi_tree__add_l1 (N : Nat) (R : Rec5) : Nat → (STree × Int × LN × (List Int)) → Option LN
  | 0, _ => none
  | n1 + 1, (a0, y59, y60, y61) => bif (decide (y59 < (a0.kids.length : Int))) then (ix a0.kids y59).bind fun e84 => (R.mi_tree__add e84 y60).bind fun r86 => (app 8 y61 [(IntKind.wrap .i64 ((r86.length : Int) - 1))]).bind fun x88 => (mi_tree__add_l1 N R n1) (a0, (IntKind.wrap .i64 (y59 + 1)), r86, x88) else ((app 72 y60 [(⟨a0.kind, a0.op, a0.text, a0.other, y61⟩ : SNode)]).bind fun x90 => some x90)
def mi_tree__add_F (N : Nat) (R : Rec5) (a0 : STree) (p0 : LN) : Option LN :=
  mi_tree__add_l1 N R N (a0, 0, p0, [])
def scc5 : Nat → Rec5
  | 0 => ⟨fun _ _ => none⟩
  | N + 1 => ⟨fun a0 p0 => mi_tree__add_F N (scc5 N) a0 p0⟩
def mi_tree__add (N : Nat) (a0 : STree) (p0 : LN) : Option LN := (scc5 N).mi_tree__add a0 p0

def mi_tree__list (N : Nat) (a0 : STree) : Option LN :=
  (mi_tree__add N a0 []).bind fun r2 => some r2

def mi_ParseExpr (N : Nat) (a0 : LT) (a1 : SPos) : Option (LN × Int × SFault) :=
  (mi_PosOk a1).bind fun r4 => bif (!r4) then some ([], 0, (⟨3, 0⟩ : SFault)) else ((mi_checked N a0).bind fun r8 => bif (!((r8.Kind == 0) && ((r8.At == 0) && true))) then some ([], 0, r8) else ((mp_level N a1 a0 0 false []).bind fun r11 => bif r11.2.2.1 then (mi_placeOf a0 r11.2.1).bind fun r15 => some ([], 0, (⟨3, r15⟩ : SFault)) else ((mi_bounded N r11.1.tree).bind fun r19 => bif (!((r19.Kind == 0) && ((r19.At == 0) && true))) then some ([], 0, r19) else ((mi_tree__list N r11.1.tree).bind fun r21 => some (r21, r11.2.1, (⟨0, 0⟩ : SFault))))))

def mi_whole (N : Nat) (a0 : LT) (a1 : SPos) : Option (LN × Bool) :=
  (mi_ParseExpr N a0 a1).bind fun r2 => (bif ((r2.2.2.Kind == 0) && ((r2.2.2.At == 0) && true)) then some (r2.2.1 == (a0.length : Int)) else (some false)).bind fun y3 => some (r2.1, y3)

def mi_Without_k2 (N : Nat) (kb1 : (LT × SSpan × Int × LT) → Option LT) : (LT × Int × SSpan × LT) → Option LT
  | (a0, y49, a1, y69) => kb1 (a0, a1, (IntKind.wrap .i64 (y49 + 1)), y69)
def mi_Without_l1 (N : Nat) : Nat → (LT × SSpan × Int × LT) → Option LT
  | 0, _ => none
  | n1 + 1, (a0, a1, y49, y50) => bif (decide (y49 < (a0.length : Int))) then (ix a0 y49).bind fun e71 => (bif (y49 != a1.From) then some (y49 != a1.To) else (some false)).bind fun y72 => bif y72 then (app 32 y50 [e71]).bind fun x74 => mi_Without_k2 N (mi_Without_l1 N n1) (a0, y49, a1, x74) else (mi_Without_k2 N (mi_Without_l1 N n1) (a0, y49, a1, y50)) else (some y50)
def mi_Without (N : Nat) (a0 : LT) (a1 : SSpan) : Option LT :=
  mi_Without_l1 N N (a0, a1, 0, [])

def m_slices_Equal_int_l1 (N : Nat) : Nat → ((List Int) × (List Int) × Int) → Option Bool
  | 0, _ => none
  | n1 + 1, (a0, a1, y35) => bif (decide (y35 < (a0.length : Int))) then (ix a0 y35).bind fun e51 => (ix a1 y35).bind fun e52 => bif (e51 != e52) then some false else ((m_slices_Equal_int_l1 N n1) (a0, a1, (IntKind.wrap .i64 (y35 + 1)))) else (some true)
def m_slices_Equal_int (N : Nat) (a0 : List Int) (a1 : List Int) : Option Bool :=
  bif ((a0.length : Int) != (a1.length : Int)) then some false else (m_slices_Equal_int_l1 N N (a0, a1, 0))

def mi_SameTree_1 (N : Nat) (a0 : SNode) (a1 : SNode) : Option Bool :=
  (bif (a0.Kind == a1.Kind) then bif (a0.Op == a1.Op) then bif (a0.Text == a1.Text) then bif (a0.Other == a1.Other) then (m_slices_Equal_int N a0.Kids a1.Kids).bind fun r3 => some r3 else (some false) else (some false) else (some false) else (some false)).bind fun y2 => some y2

def m_slices_EqualFunc_Node_l1 (N : Nat) : Nat → (LN × LN × Int) → Option Bool
  | 0, _ => none
  | n1 + 1, (a1, a0, y51) => bif (decide (y51 < (a0.length : Int))) then (ix a0 y51).bind fun e72 => (ix a1 y51).bind fun e74 => (mi_SameTree_1 N e72 e74).bind fun r76 => bif (!r76) then some false else ((m_slices_EqualFunc_Node_l1 N n1) (a1, a0, (IntKind.wrap .i64 (y51 + 1)))) else (some true)
def m_slices_EqualFunc_Node (N : Nat) (a0 : LN) (a1 : LN) : Option Bool :=
  bif ((a0.length : Int) != (a1.length : Int)) then some false else (m_slices_EqualFunc_Node_l1 N N (a1, a0, 0))

def mi_SameTree (N : Nat) (a0 : LN) (a1 : LN) : Option Bool :=
  (m_slices_EqualFunc_Node N a0 a1).bind fun r2 => some r2

def mi_redundant (N : Nat) (a0 : LT) (a1 : SPos) (a2 : SSpan) : Option Bool :=
  (mi_whole N a0 a1).bind fun r2 => (mi_Without N a0 a2).bind fun r5 => (mi_whole N r5 a1).bind fun r6 => (bif r2.2 then bif r6.2 then (mi_SameTree N r2.1 r6.1).bind fun r9 => some r9 else (some false) else (some false)).bind fun y8 => some y8

def mi_Reduce_1 (N : Nat) (a0 : SSpan) (p1_0 : Int) (p1_1 : Bool) (p1_2 : Bool) (p1_3 : Bool) (p1_4 : Bool) (p2 : LT) : Option Bool :=
  (mi_redundant N p2 (⟨p1_0, p1_1, p1_2, p1_3, p1_4⟩ : SPos) a0).bind fun r2 => some r2

def m_slices_IndexFunc_Span_l1 (N : Nat) (p1_0 : Int) (p1_1 : Bool) (p1_2 : Bool) (p1_3 : Bool) (p1_4 : Bool) (p2 : LT) : Nat → ((List SSpan) × Int) → Option Int
  | 0, _ => none
  | n1 + 1, (a0, y35) => bif (decide (y35 < (a0.length : Int))) then (ix a0 y35).bind fun e51 => (mi_Reduce_1 N e51 p1_0 p1_1 p1_2 p1_3 p1_4 p2).bind fun r52 => bif r52 then some y35 else ((m_slices_IndexFunc_Span_l1 N p1_0 p1_1 p1_2 p1_3 p1_4 p2 n1) (a0, (IntKind.wrap .i64 (y35 + 1)))) else (some (-1))
def m_slices_IndexFunc_Span (N : Nat) (a0 : List SSpan) (p1_0 : Int) (p1_1 : Bool) (p1_2 : Bool) (p1_3 : Bool) (p1_4 : Bool) (p2 : LT) : Option Int :=
  m_slices_IndexFunc_Span_l1 N p1_0 p1_1 p1_2 p1_3 p1_4 p2 N (a0, 0)

def mi_Reduce_k1 (N : Nat) : LT → Option LT
  | y22 => some y22
def mi_Reduce_l2 (N : Nat) : Nat → (SPos × Int × LT) → Option LT
  | 0, _ => none
  | n2 + 1, (a1, y79, y80) => bif (decide (y79 < 60)) then (mi_PairsOf N y80).bind fun r111 => (m_slices_IndexFunc_Span N r111 a1.Level a1.Dollar a1.NoIn a1.NoGt a1.NoSign y80).bind fun r114 => bif (decide (r114 < 0)) then mi_Reduce_k1 N y80 else ((ix r111 r114).bind fun e117 => (mi_Without N y80 e117).bind fun r118 => (mi_Reduce_l2 N n2) (a1, (IntKind.wrap .i64 (y79 + 1)), r118)) else (mi_Reduce_k1 N y80)
def mi_Reduce (N : Nat) (a0 : LT) (a1 : SPos) : Option LT :=
  (m_slices_Clone_Token a0).bind fun r2 => mi_Reduce_l2 N N (a1, 0, r2)

def ml_eqToken (a0 : SToken) (a1 : SToken) : Option Bool :=
  bif (a0.Kind != a1.Kind) then some false else (bif (!(a0.Text == a1.Text)) then some false else (bif (a0.At != a1.At) then some false else (some true)))

def ml_eqTokenS_l1 (N : Nat) : Nat → (LT × LT × Int) → Option Bool
  | 0, _ => none
  | n1 + 1, (a0, a1, y51) => bif (decide (y51 < (a0.length : Int))) then (ix a0 y51).bind fun e74 => (ix a1 y51).bind fun e75 => (ml_eqToken e74 e75).bind fun r76 => bif (!r76) then some false else ((ml_eqTokenS_l1 N n1) (a0, a1, (IntKind.wrap .i64 (y51 + 1)))) else (some true)
def ml_eqTokenS (N : Nat) (a0 : LT) (a1 : LT) : Option Bool :=
  bif ((a0.length : Int) != (a1.length : Int)) then some false else (ml_eqTokenS_l1 N N (a0, a1, 0))

def ml_markText_l1 (N : Nat) : Nat → (Int × LU) → Option LU
  | 0, _ => none
  | n1 + 1, (y13, y14) => bif (decide (y13 > 0)) then (cat [(bytI (IntKind.wrap .i64 (48 + (Int.tmod y13 10))))] y14).bind fun s20 => (ml_markText_l1 N n1) ((IntKind.wrap .i64 (Int.tdiv y13 10)), s20) else ((cat ([109] : LU) y14).bind fun s22 => some s22)
def ml_markText (N : Nat) (a0 : Int) : Option LU :=
  bif (decide (a0 ≤ 0)) then some [109, 48] else (ml_markText_l1 N N (a0, []))

def ml_markTokenS_l1 (N : Nat) : Nat → (Int × Int × LT) → Option (Int × LT)
  | 0, _ => none
  | n1 + 1, (y119, y120, y121) => bif (decide (y120 < (y121.length : Int))) then (ix y121 y120).bind fun e169 => (upd y121 y120 (⟨y119, e169.Text, e169.At⟩ : SToken)).bind fun x170 => (ml_markText N (IntKind.wrap .i64 (y119 + 1))).bind fun r174 => (ix x170 y120).bind fun e175 => (upd x170 y120 (⟨e175.Kind, r174, e175.At⟩ : SToken)).bind fun x176 => (ix x176 y120).bind fun e179 => (upd x176 y120 (⟨e179.Kind, e179.Text, (IntKind.wrap .i64 ((IntKind.wrap .i64 (y119 + 1)) + 1))⟩ : SToken)).bind fun x180 => (ml_markTokenS_l1 N n1) ((IntKind.wrap .i64 ((IntKind.wrap .i64 ((IntKind.wrap .i64 (y119 + 1)) + 1)) + 1)), (IntKind.wrap .i64 (y120 + 1)), x180) else (some (y119, y121))
def ml_markTokenS (N : Nat) (a1 : Int) (p0 : LT) : Option (Int × LT) :=
  ml_markTokenS_l1 N N (a1, 0, p0)

def ml_heldTokenS_l1 (N : Nat) : Nat → (LT × Int × Int) → Option Int
  | 0, _ => none
  | n1 + 1, (a0, y133, y134) => bif (decide (y134 < (a0.length : Int))) then (ix a0 y134).bind fun e188 => bif (e188.Kind != y133) then some (-1) else ((ix a0 y134).bind fun e195 => (ml_markText N (IntKind.wrap .i64 (y133 + 1))).bind fun r196 => bif (!(e195.Text == r196)) then some (-1) else ((ix a0 y134).bind fun e200 => bif (e200.At != (IntKind.wrap .i64 ((IntKind.wrap .i64 (y133 + 1)) + 1))) then some (-1) else ((ml_heldTokenS_l1 N n1) (a0, (IntKind.wrap .i64 ((IntKind.wrap .i64 ((IntKind.wrap .i64 (y133 + 1)) + 1)) + 1)), (IntKind.wrap .i64 (y134 + 1)))))) else (some y133)
def ml_heldTokenS (N : Nat) (a0 : LT) (a1 : Int) : Option Int :=
  ml_heldTokenS_l1 N N (a0, a1, 0)

def ml_FnExactReduce (N : Nat) (a0 : LT) (a1 : SPos) : Option Bool :=
  (ml_szTokenS N a0 1048576).bind fun r2 => bif (decide (r2 < 0)) then some true else ((ml_toTokenS N a0).bind fun r6 => (ml_toPos a1).bind fun r7 => (ms_Reduce N r6 r7).bind fun r8 => (ml_toTokenS N a0).bind fun r10 => (ml_toPos a1).bind fun r13 => (mi_Reduce N r10 r13).bind fun r14 => (ml_eqTokenS N r14 r8).bind fun r18 => bif (!r18) then some false else ((ml_toTokenS N a0).bind fun r25 => (ml_eqTokenS N r10 r25).bind fun r26 => bif (!r26) then some false else ((ml_markTokenS N 1 r10).bind fun r28 => (bif (decide (r28.1 < 0)) then some true else ((ml_eqTokenS N r14 r8).bind fun r34 => some (!r34))).bind fun y33 => bif y33 then some false else ((ml_markTokenS N 1 r14).bind fun r36 => (ml_heldTokenS N r36.2 1).bind fun r38 => bif (decide (r38 < 0)) then some false else (bif (r38 != r36.1) then some false else ((ml_toTokenS N a0).bind fun r42 => (ml_toPos a1).bind fun r43 => (mi_Reduce N r42 r43).bind fun r44 => (ml_eqTokenS N r44 r8).bind fun r48 => bif (!r48) then some false else ((ml_heldTokenS N r36.2 1).bind fun r50 => bif (decide (r50 < 0)) then some false else (bif (r50 != r36.1) then some false else (some true)))))))))

end Go.Proofs.Tryz

/-
 The walks that show that the code computes the models, part 2.
-/
import Derived.Test.YtpognfncgfaogaaGreatDoorShAW1
namespace Go.Proofs.Tryz
open Go.Av
set_option maxRecDepth 100000
set_option maxHeartbeats 8000000
set_option linter.unusedSimpArgs false
set_option linter.unusedVariables false

theorem ms_l7Many_ok (a0 : SNode) {r : (Int × Int)} (h : ms_l7Many a0 = some r) :
    AC0 86 [.agg [V.i a0.Kind, V.i a0.Op, V.s a0.Text, V.s a0.Other, sL eNI a0.Kids]] [] (.tup [V.i r.1, V.i r.2]) [] := by
 rw [ms_l7Many] at h
 refine AC.enter Tryz.func86 rfl (cV 100 (CO.seq' (cV 101 (CO.block' ?_))))
 refine CO.join (fun (⟨a0, y7⟩ : (SNode × Bool)) => ⟨tl 75 [(1, .loc 100 0), (6, V.i a0.Kind), (7, V.b y7)], [(100, .cells 54 [V.i a0.Kind, V.i a0.Op, V.s a0.Text, V.s a0.Other, sL eNI a0.Kids])]⟩) (fun i => ms_l7Many_k1 i = some r) ?_ ?_
 · rintro ⟨a0, y7⟩ h59
   rw [ms_l7Many_k1] at h59
   refine cI h59 (fun _ h59 => ?_) (fun _ h59 => ?_)
   ·refine cV 101 (CO.ret ?_)
    cases h59
    exact eG [] (.inr rfl) (RetV.two rfl (oT (t := 2) (r := V.i 1)) (oT (t := 3) (r := V.i 6)))
   refine CO.join (fun (⟨a0, y8⟩ : (SNode × Bool)) => ⟨tl 75 [(1, .loc 100 0), (6, V.i a0.Kind), (10, V.b y8)], [(100, .cells 54 [V.i a0.Kind, V.i a0.Op, V.s a0.Text, V.s a0.Other, sL eNI a0.Kids])]⟩) (fun i => ms_l7Many_k2 i = some r) ?_ ?_
   · rintro ⟨a0, y8⟩ h63
     rw [ms_l7Many_k2] at h63
     refine cI h63 (fun _ h63 => ?_) (fun _ h63 => ?_)
     ·refine cV 101 (CO.ret ?_)
      cases h63
      exact eG [] (.inr rfl) (RetV.two rfl (oT (t := 2) (r := V.i 0)) (oT (t := 3) (r := V.i 6)))
     refine CO.join (fun (⟨a0, y9⟩ : (SNode × Bool)) => ⟨tl 75 [(1, .loc 100 0), (6, V.i a0.Kind), (14, V.b y9)], [(100, .cells 54 [V.i a0.Kind, V.i a0.Op, V.s a0.Text, V.s a0.Other, sL eNI a0.Kids])]⟩) (fun i => ms_l7Many_k3 i = some r) ?_ ?_
     · rintro ⟨a0, y9⟩ h72
       rw [ms_l7Many_k3] at h72
       refine cI h72 (fun _ h72 => ?_) (fun _ h72 => ?_)
       ·refine cV 101 (CO.ret ?_)
        cases h72
        exact eG [] (.inr rfl) (RetV.two rfl (oT (t := 2) (r := V.i 1)) (oT (t := 3) (r := V.i 1)))
       refine CO.join (fun (⟨a0, y10⟩ : (SNode × Bool)) => ⟨tl 75 [(1, .loc 100 0), (6, V.i a0.Kind), (23, V.b y10)], [(100, .cells 54 [V.i a0.Kind, V.i a0.Op, V.s a0.Text, V.s a0.Other, sL eNI a0.Kids])]⟩) (fun i => ms_l7Many_k4 i = some r) ?_ ?_
       · rintro ⟨a0, y10⟩ h77
         rw [ms_l7Many_k4] at h77
         refine cI h77 (fun _ h77 => ?_) (fun _ h77 => ?_)
         ·refine cV 101 (CO.ret ?_)
          cases h77
          exact eG [] (.inr rfl) (RetV.two rfl (oT (t := 2) (r := V.i 2)) (oT (t := 3) (r := V.i 2)))
         refine cV 101 ?_
         refine cI h77 (fun _ h77 => ?_) (fun _ h77 => ?_)
         ·refine cV 101 (CO.ret ?_)
          cases h77
          exact eG [] (.inr rfl) (RetV.two rfl (oT (t := 2) (r := V.i 3)) (oT (t := 3) (r := V.i 3)))
         refine cV 101 ?_
         refine cI h77 (fun _ h77 => ?_) (fun _ h77 => ?_)
         ·refine cV 101 (CO.seq' (cV 101 ?_))
          refine cI h77 (fun _ h77 => ?_) (fun _ h77 => ?_)
          ·refine cV 101 (CO.ret ?_)
           have h77 := sI h77
           subst h77
           exact eG [] (.inr rfl) (RetV.two rfl (oT (t := 2) (r := V.i (wr (a0.Op + 1)))) (oT (t := 3) (r := V.i 7)))
          refine CO.skip (cV 101 (CO.ret ?_))
          have h77 := sI h77
          subst h77
          exact eG [] (.inr rfl) (RetV.two rfl (oT (t := 2) (r := V.i a0.Op)) (oT (t := 3) (r := V.i 6)))
         refine CO.join (fun (⟨a0, y11⟩ : (SNode × Bool)) => ⟨tl 75 [(1, .loc 100 0), (6, V.i a0.Kind), (40, V.b y11)], [(100, .cells 54 [V.i a0.Kind, V.i a0.Op, V.s a0.Text, V.s a0.Other, sL eNI a0.Kids])]⟩) (fun i => ms_l7Many_k5 i = some r) ?_ ?_
         · rintro ⟨a0, y11⟩ h84
           rw [ms_l7Many_k5] at h84
           refine cI h84 (fun _ h84 => ?_) (fun _ h84 => ?_)
           ·refine cV 101 (CO.ret ?_)
            cases h84
            exact eG [] (.inr rfl) (RetV.two rfl (oT (t := 2) (r := V.i 0)) (oT (t := 3) (r := V.i 1)))
           refine cV 101 ?_
           refine cI h84 (fun _ h84 => ?_) (fun _ h84 => ?_)
           ·refine cV 101 (CO.ret ?_)
            cases h84
            exact eG [] (.inr rfl) (RetV.two rfl (oT (t := 2) (r := V.i 2)) (oT (t := 3) (r := V.i 3)))
           refine cV 101 ?_
           refine cI h84 (fun _ h84 => ?_) (fun _ h84 => ?_)
           ·refine cV 101 (CO.ret ?_)
            cases h84
            exact eG [] (.inr rfl) (RetV.two rfl (oT (t := 2) (r := V.i 4)) (oT (t := 3) (r := V.i 4)))
           refine CO.join (fun (⟨a0, y12⟩ : (SNode × Bool)) => ⟨tl 75 [(1, .loc 100 0), (6, V.i a0.Kind), (47, V.b y12)], [(100, .cells 54 [V.i a0.Kind, V.i a0.Op, V.s a0.Text, V.s a0.Other, sL eNI a0.Kids])]⟩) (fun i => ms_l7Many_k6 i = some r) ?_ ?_
           · rintro ⟨a0, y12⟩ h89
             rw [ms_l7Many_k6] at h89
             refine cI h89 (fun _ h89 => ?_) (fun _ h89 => ?_)
             ·refine CO.sw mix (wR 2 101 (wN eNI a0.Kids [] (wR 2 101 (wF (CO.ret ?_)))))
              have h89 := sI h89
              subst h89
              exact eG [] (.inr rfl) (RetV.two rfl (oT (t := 2) (r := V.i 0)) (oT (t := 3) (r := V.i (a0.Kids.length : Int))))
             refine cV 101 ?_
             refine cI h89 (fun _ h89 => ?_) (fun _ h89 => ?_)
             ·refine cV 101 (CO.ret ?_)
              have h89 := sI h89
              subst h89
              exact eG [] (.inr rfl) (RetV.two rfl (oT (t := 2) (r := V.i (wr (1 + (wr (Int.tdiv a0.Op 3)))))) (oT (t := 3) (r := V.i (wr (1 + (wr (Int.tdiv a0.Op 3)))))))
             refine cV 101 ?_
             refine cI h89 (fun _ h89 => ?_) (fun _ h89 => ?_)
             ·refine cV 101 (CO.ret ?_)
              have h89 := sI h89
              subst h89
              exact eG [] (.inr rfl) (RetV.two rfl (oT (t := 2) (r := V.i (wr (2 + (wr (Int.tdiv a0.Op 3)))))) (oT (t := 3) (r := V.i (wr (2 + (wr (Int.tdiv a0.Op 3)))))))
             refine cV 101 ?_
             refine cI h89 (fun _ h89 => ?_) (fun _ h89 => ?_)
             ·refine cV 101 (CO.ret ?_)
              cases h89
              exact eG [] (.inr rfl) (RetV.two rfl (oT (t := 2) (r := V.i 1)) (oT (t := 3) (r := V.i 7)))
             refine CO.skip (cV 101 (CO.ret ?_))
             cases h89
             exact eG [] (.inr rfl) (RetV.two rfl (oT (t := 2) (r := V.i 0)) (oT (t := 3) (r := V.i 0)))
           intro hk94
           refine cV 101 ?_
           refine cI h84 (fun _ h84 => ?_) (fun _ h84 => ?_)
           ·exact sK hk94 (a0, (a0.Kind == 33)) h84 [(100, 100)] [1, 6, 47]
           exact cK 101 hk94 (a0, (a0.Kind == 45)) h84 [(100, 100)] [1, 6, 47]
         intro hk96
         refine cV 101 ?_
         refine cI h77 (fun _ h77 => ?_) (fun _ h77 => ?_)
         ·exact sK hk96 (a0, (a0.Kind == 23)) h77 [(100, 100)] [1, 6, 40]
         exact cK 101 hk96 (a0, (a0.Kind == 24)) h77 [(100, 100)] [1, 6, 40]
       intro hk98
       refine cV 101 ?_
       refine cI h72 (fun _ h72 => ?_) (fun _ h72 => ?_)
       ·exact sK hk98 (a0, (a0.Kind == 12)) h72 [(100, 100)] [1, 6, 23]
       refine cV 101 ?_
       refine cI h72 (fun _ h72 => ?_) (fun _ h72 => ?_)
       ·exact sK hk98 (a0, (a0.Kind == 15)) h72 [(100, 100)] [1, 6, 23]
       refine cV 101 ?_
       refine cI h72 (fun _ h72 => ?_) (fun _ h72 => ?_)
       ·exact sK hk98 (a0, (a0.Kind == 29)) h72 [(100, 100)] [1, 6, 23]
       exact cK 101 hk98 (a0, (a0.Kind == 30)) h72 [(100, 100)] [1, 6, 23]
     intro hk102
     refine cV 101 ?_
     refine cI h63 (fun _ h63 => ?_) (fun _ h63 => ?_)
     ·exact sK hk102 (a0, (a0.Kind == 6)) h63 [(100, 100)] [1, 6, 14]
     refine cV 101 ?_
     refine cI h63 (fun _ h63 => ?_) (fun _ h63 => ?_)
     ·exact sK hk102 (a0, (a0.Kind == 9)) h63 [(100, 100)] [1, 6, 14]
     refine cV 101 ?_
     refine cI h63 (fun _ h63 => ?_) (fun _ h63 => ?_)
     ·exact sK hk102 (a0, (a0.Kind == 10)) h63 [(100, 100)] [1, 6, 14]
     refine cV 101 ?_
     refine cI h63 (fun _ h63 => ?_) (fun _ h63 => ?_)
     ·exact sK hk102 (a0, (a0.Kind == 11)) h63 [(100, 100)] [1, 6, 14]
     refine cV 101 ?_
     refine cI h63 (fun _ h63 => ?_) (fun _ h63 => ?_)
     ·exact sK hk102 (a0, (a0.Kind == 20)) h63 [(100, 100)] [1, 6, 14]
     refine cV 101 ?_
     refine cI h63 (fun _ h63 => ?_) (fun _ h63 => ?_)
     ·exact sK hk102 (a0, (a0.Kind == 32)) h63 [(100, 100)] [1, 6, 14]
     refine cV 101 ?_
     refine cI h63 (fun _ h63 => ?_) (fun _ h63 => ?_)
     ·exact sK hk102 (a0, (a0.Kind == 40)) h63 [(100, 100)] [1, 6, 14]
     exact cK 101 hk102 (a0, (a0.Kind == 41)) h63 [(100, 100)] [1, 6, 14]
   intro hk110
   refine cV 101 ?_
   refine cI h59 (fun _ h59 => ?_) (fun _ h59 => ?_)
   ·exact sK hk110 (a0, (a0.Kind == 7)) h59 [(100, 100)] [1, 6, 10]
   refine cV 101 ?_
   refine cI h59 (fun _ h59 => ?_) (fun _ h59 => ?_)
   ·exact sK hk110 (a0, (a0.Kind == 8)) h59 [(100, 100)] [1, 6, 10]
   exact cK 101 hk110 (a0, (a0.Kind == 27)) h59 [(100, 100)] [1, 6, 10]
 intro hk113
 refine cV 101 ?_
 refine cI h (fun _ h => ?_) (fun _ h => ?_)
 ·exact sK hk113 (a0, (a0.Kind == 5)) h [(100, 100)] [1, 6, 7]
 exact cK 101 hk113 (a0, (a0.Kind == 13)) h [(100, 100)] [1, 6, 7]

theorem ms_l7IsBin_ok (a0 : Int) {r : Bool} (h : ms_l7IsBin a0 = some r) :
    AC0 123 [V.i a0] [] (V.b r) [] := by
 rw [ms_l7IsBin] at h
 refine AC.enter Tryz.func123 rfl (cV 100 (CO.seq' (cV 100 (CO.block' ?_))))
 refine CO.join (fun (y2 : Bool) => ⟨tl 22 [(4, V.b y2)], []⟩) (fun i => ms_l7IsBin_k1 i = some r) ?_ ?_
 · rintro y2 h52
   rw [ms_l7IsBin_k1] at h52
   refine cI h52 (fun _ h52 => ?_) (fun _ h52 => ?_)
   ·refine cV 100 ?_
    cases h52
    exact e1 2 id
   refine CO.skip (cV 100 ?_)
   cases h52
   exact e1 2 id
 intro hk54
 refine cV 100 ?_
 refine cI h (fun _ h => ?_) (fun _ h => ?_)
 ·exact sK hk54 (a0 == 60) h [] [4]
 refine cV 100 ?_
 refine cI h (fun _ h => ?_) (fun _ h => ?_)
 ·exact sK hk54 (a0 == 57) h [] [4]
 refine cV 100 ?_
 refine cI h (fun _ h => ?_) (fun _ h => ?_)
 ·exact sK hk54 (a0 == 58) h [] [4]
 refine cV 100 ?_
 refine cI h (fun _ h => ?_) (fun _ h => ?_)
 ·exact sK hk54 (a0 == 59) h [] [4]
 refine cV 100 ?_
 refine cI h (fun _ h => ?_) (fun _ h => ?_)
 ·exact sK hk54 (a0 == 55) h [] [4]
 refine cV 100 ?_
 refine cI h (fun _ h => ?_) (fun _ h => ?_)
 ·exact sK hk54 (a0 == 56) h [] [4]
 refine cV 100 ?_
 refine cI h (fun _ h => ?_) (fun _ h => ?_)
 ·exact sK hk54 (a0 == 99) h [] [4]
 refine cV 100 ?_
 refine cI h (fun _ h => ?_) (fun _ h => ?_)
 ·exact sK hk54 (a0 == 63) h [] [4]
 refine cV 100 ?_
 refine cI h (fun _ h => ?_) (fun _ h => ?_)
 ·exact sK hk54 (a0 == 48) h [] [4]
 refine cV 100 ?_
 refine cI h (fun _ h => ?_) (fun _ h => ?_)
 ·exact sK hk54 (a0 == 47) h [] [4]
 refine cV 100 ?_
 refine cI h (fun _ h => ?_) (fun _ h => ?_)
 ·exact sK hk54 (a0 == 50) h [] [4]
 refine cV 100 ?_
 refine cI h (fun _ h => ?_) (fun _ h => ?_)
 ·exact sK hk54 (a0 == 62) h [] [4]
 refine cV 100 ?_
 refine cI h (fun _ h => ?_) (fun _ h => ?_)
 ·exact sK hk54 (a0 == 49) h [] [4]
 refine cV 100 ?_
 refine cI h (fun _ h => ?_) (fun _ h => ?_)
 ·exact sK hk54 (a0 == 67) h [] [4]
 refine cV 100 ?_
 refine cI h (fun _ h => ?_) (fun _ h => ?_)
 ·exact sK hk54 (a0 == 46) h [] [4]
 refine cV 100 ?_
 refine cI h (fun _ h => ?_) (fun _ h => ?_)
 ·exact sK hk54 (a0 == 45) h [] [4]
 exact cK 100 hk54 (a0 == 44) h [] [4]

theorem ms_l7IsAssign_ok (a0 : Int) {r : Bool} (h : ms_l7IsAssign a0 = some r) :
    AC0 124 [V.i a0] [] (V.b r) [] := by
 rw [ms_l7IsAssign] at h
 refine AC.enter Tryz.func124 rfl (cV 100 (bB h fun y2 hv3 h => ?_))
 refine CO.cutR (tl 9 [(2, V.b y2)]) [] mix (by
  refine wR 3 100 ?_
  refine wJ 5 hv3 (fun hv3 => ?_) (fun hv3 => ?_)
  ·refine wR 4 100 ?_
   cases hv3
   exact fS [] [2]
  refine wR 1 100 (bB hv3 fun r3 hx5 hv3 => (w0 (ms_l1In_ok a0 38 43 hx5) cok68 (wR 2 100 ?_)))
  cases hv3
  exact fS [] [2]
  ) ?_
 cases h
 exact e1 2 id

theorem ms_l7Op_ok (a0 : SNode) {r : Bool} (h : ms_l7Op a0 = some r) :
    AC0 87 [.agg [V.i a0.Kind, V.i a0.Op, V.s a0.Text, V.s a0.Other, sL eNI a0.Kids]] [] (V.b r) [] := by
 rw [ms_l7Op] at h
 refine AC.enter Tryz.func87 rfl (cV 100 (CO.seq' (cV 101 (CO.block' ?_))))
 refine CO.join (fun (⟨a0, y13⟩ : (SNode × Bool)) => ⟨tl 64 [(1, .loc 100 0), (4, V.i a0.Kind), (5, V.b y13)], [(100, .cells 54 [V.i a0.Kind, V.i a0.Op, V.s a0.Text, V.s a0.Other, sL eNI a0.Kids])]⟩) (fun i => ms_l7Op_k1 i = some r) ?_ ?_
 · rintro ⟨a0, y13⟩ h32
   rw [ms_l7Op_k1] at h32
   refine cI h32 (fun _ h32 => ?_) (fun _ h32 => ?_)
   ·refine bB h32 fun y14 hv35 h32 => ?_
    refine CO.cutR (tl 64 [(2, V.b y14)]) [] mix (by
     refine wR 4 101 ?_
     refine wJ 11 hv35 (fun hv35 => ?_) (fun hv35 => ?_)
     ·refine wR 5 101 ?_
      cases hv35
      exact fS [] [2]
     refine wR 5 101 ?_
     cases hv35
     exact fS [] [2]
     ) ?_
    cases h32
    exact e1 2 id
   refine cV 101 ?_
   refine cI h32 (fun _ h32 => ?_) (fun _ h32 => ?_)
   ·refine bB h32 fun y15 hv40 h32 => ?_
    refine CO.cutR (tl 64 [(2, V.b y15)]) [] mix (by
     refine wR 4 101 ?_
     refine wJ 21 hv40 (fun hv40 => ?_) (fun hv40 => ?_)
     ·refine wR 10 101 ?_
      cases hv40
      exact fS [] [2]
     refine wR 5 101 ?_
     refine wJ 26 hv40 (fun hv40 => ?_) (fun hv40 => ?_)
     ·refine wR 5 101 ?_
      cases hv40
      exact fS [] [2]
     refine wR 5 101 ?_
     cases hv40
     exact fS [] [2]
     ) ?_
    cases h32
    exact e1 2 id
   refine cV 101 ?_
   refine cI h32 (fun _ h32 => ?_) (fun _ h32 => ?_)
   ·refine bB h32 fun r17 hx45 h32 => (cC 2 101 (ms_l7IsBin_ok a0.Op hx45) cok123 ?_)
    cases h32
    exact e1 2 id
   refine cV 101 ?_
   refine cI h32 (fun _ h32 => ?_) (fun _ h32 => ?_)
   ·refine bB h32 fun r19 hx48 h32 => (cC 2 101 (ms_l7IsAssign_ok a0.Op hx48) cok124 ?_)
    cases h32
    exact e1 2 id
   refine cV 101 ?_
   refine cI h32 (fun _ h32 => ?_) (fun _ h32 => ?_)
   ·refine bB h32 fun r21 hx51 h32 => (cC 2 101 (ms_l1In_ok a0.Op 0 1 hx51) cok68 ?_)
    cases h32
    exact e1 2 id
   refine cV 101 ?_
   refine cI h32 (fun _ h32 => ?_) (fun _ h32 => ?_)
   ·refine bB h32 fun r23 hx54 h32 => (cC 2 101 (ms_l1In_ok a0.Op 1 3 hx54) cok68 ?_)
    cases h32
    exact e1 2 id
   refine cV 101 ?_
   refine cI h32 (fun _ h32 => ?_) (fun _ h32 => ?_)
   ·refine bB h32 fun y24 hv57 h32 => ?_
    refine CO.cutR (tl 64 [(2, V.b y24)]) [] mix (by
     refine wR 4 101 ?_
     refine wJ 56 hv57 (fun hv57 => ?_) (fun hv57 => ?_)
     ·refine wR 5 101 ?_
      cases hv57
      exact fS [] [2]
     refine wR 5 101 ?_
     cases hv57
     exact fS [] [2]
     ) ?_
    cases h32
    exact e1 2 id
   refine CO.skip (cV 101 ?_)
   cases h32
   exact e1 2 id
 intro hk59
 refine cV 101 ?_
 refine cI h (fun _ h => ?_) (fun _ h => ?_)
 ·exact sK hk59 (a0, (a0.Kind == 9)) h [(100, 100)] [1, 4, 5]
 exact cK 101 hk59 (a0, (a0.Kind == 10)) h [(100, 100)] [1, 4, 5]

theorem ms_l7Text_ok (N : Nat) (a0 : SNode) {r : Bool} (h : ms_l7Text N a0 = some r) :
    AC0 88 [.agg [V.i a0.Kind, V.i a0.Op, V.s a0.Text, V.s a0.Other, sL eNI a0.Kids]] [] (V.b r) [] := by
 rw [ms_l7Text] at h
 refine AC.enter Tryz.func88 rfl (cV 100 (CO.seq' (cV 101 (CO.block' ?_))))
 refine CO.join (fun (⟨a0, y26⟩ : (SNode × Bool)) => ⟨tl 117 [(1, .loc 100 0), (4, V.i a0.Kind), (5, V.b y26)], [(100, .cells 54 [V.i a0.Kind, V.i a0.Op, V.s a0.Text, V.s a0.Other, sL eNI a0.Kids])]⟩) (fun i => ms_l7Text_k1 N i = some r) ?_ ?_
 · rintro ⟨a0, y26⟩ h72
   rw [ms_l7Text_k1] at h72
   refine cI h72 (fun _ h72 => ?_) (fun _ h72 => ?_)
   ·refine bB h72 fun y28 hv76 h72 => ?_
    refine CO.cutR (tl 117 [(2, V.b y28)]) [] mix (by
     refine wR 2 101 (bB hv76 fun r29 hx77 hv76 => (w0 (ms_NameOk_ok N a0.Text hx77) cok112 (wR 1 101 ?_)))
     refine wJ 15 hv76 (fun hv76 => ?_) (fun hv76 => ?_)
     ·refine wR 5 101 ?_
      cases hv76
      exact fS [] [2]
     refine wR 5 101 ?_
     cases hv76
     exact fS [] [2]
     ) ?_
    cases h72
    exact e1 2 id
   refine cV 101 ?_
   refine cI h72 (fun _ h72 => ?_) (fun _ h72 => ?_)
   ·refine bB h72 fun y31 hv82 h72 => ?_
    refine CO.cutR (tl 117 [(2, V.b y31)]) [] mix (by
     refine wR 3 101 (bB hv82 fun r32 hx83 hv82 => (w0 (ms_TokenOk_ok N (⟨3, a0.Text, 0⟩ : SToken) hx83) cok65 (wR 1 101 ?_)))
     refine wJ 26 hv82 (fun hv82 => ?_) (fun hv82 => ?_)
     ·refine wR 5 101 ?_
      cases hv82
      exact fS [] [2]
     refine wR 5 101 ?_
     cases hv82
     exact fS [] [2]
     ) ?_
    cases h72
    exact e1 2 id
   refine cV 101 ?_
   refine cI h72 (fun _ h72 => ?_) (fun _ h72 => ?_)
   ·refine bB h72 fun y34 hv88 h72 => ?_
    refine CO.cutR (tl 117 [(2, V.b y34)]) [] mix (by
     refine wR 3 101 (bB hv88 fun r35 hx89 hv88 => (w0 (ms_TokenOk_ok N (⟨4, a0.Text, 0⟩ : SToken) hx89) cok65 (wR 1 101 ?_)))
     refine wJ 37 hv88 (fun hv88 => ?_) (fun hv88 => ?_)
     ·refine wR 5 101 ?_
      cases hv88
      exact fS [] [2]
     refine wR 5 101 ?_
     cases hv88
     exact fS [] [2]
     ) ?_
    cases h72
    exact e1 2 id
   refine cV 101 ?_
   refine cI h72 (fun _ h72 => ?_) (fun _ h72 => ?_)
   ·refine bB h72 fun y37 hv94 h72 => ?_
    refine CO.cutR (tl 117 [(2, V.b y37)]) [] mix (by
     refine wR 3 101 (bB hv94 fun r38 hx95 hv94 => (w0 (ms_TokenOk_ok N (⟨5, a0.Text, 0⟩ : SToken) hx95) cok65 (wR 1 101 ?_)))
     refine wJ 48 hv94 (fun hv94 => ?_) (fun hv94 => ?_)
     ·refine wR 5 101 ?_
      cases hv94
      exact fS [] [2]
     refine wR 5 101 ?_
     cases hv94
     exact fS [] [2]
     ) ?_
    cases h72
    exact e1 2 id
   refine cV 101 ?_
   refine cI h72 (fun _ h72 => ?_) (fun _ h72 => ?_)
   ·refine bB h72 fun y40 hv100 h72 => ?_
    refine CO.cutR (tl 117 [(2, V.b y40)]) [] mix (by
     refine wR 3 101 (bB hv100 fun r41 hx101 hv100 => (w0 (ms_TokenOk_ok N (⟨2, a0.Text, 0⟩ : SToken) hx101) cok65 (wR 1 101 ?_)))
     refine wJ 59 hv100 (fun hv100 => ?_) (fun hv100 => ?_)
     ·refine wR 5 101 ?_
      cases hv100
      exact fS [] [2]
     refine wR 5 101 ?_
     cases hv100
     exact fS [] [2]
     ) ?_
    cases h72
    exact e1 2 id
   refine cV 101 ?_
   refine cI h72 (fun _ h72 => ?_) (fun _ h72 => ?_)
   ·refine bB h72 fun y43 hv106 h72 => ?_
    refine CO.cutR (tl 117 [(2, V.b y43)]) [] mix (by
     refine wR 2 101 (bB hv106 fun r44 hx107 hv106 => (w0 (ms_IsBuiltin_ok N a0.Text hx107) cok113 (wR 1 101 ?_)))
     refine wJ 69 hv106 (fun hv106 => ?_) (fun hv106 => ?_)
     ·refine wR 5 101 ?_
      cases hv106
      exact fS [] [2]
     refine wR 5 101 ?_
     cases hv106
     exact fS [] [2]
     ) ?_
    cases h72
    exact e1 2 id
   refine cV 101 ?_
   refine cI h72 (fun _ h72 => ?_) (fun _ h72 => ?_)
   ·refine bB h72 fun y47 hv113 h72 => ?_
    refine CO.cutR (tl 117 [(2, V.b y47)]) [] mix (by
     refine wR 2 101 (bB hv113 fun r48 hx114 hv113 => (w0 (ms_NameOk_ok N a0.Text hx114) cok112 (wR 1 101 ?_)))
     refine wJ 79 hv113 (fun hv113 => ?_) (fun hv113 => ?_)
     ·refine wR 2 101 (bB hv113 fun r49 hx116 hv113 => (w0 (ms_NameOk_ok N a0.Other hx116) cok112 (wR 2 101 ?_)))
      cases hv113
      exact fS [] [2]
     refine wR 5 101 ?_
     cases hv113
     exact fS [] [2]
     ) ?_
    cases h72
    exact e1 2 id
   refine cV 101 ?_
   refine cI h72 (fun _ h72 => ?_) (fun _ h72 => ?_)
   ·refine bB h72 fun y50 hv122 h72 => ?_
    refine CO.cutR (tl 117 [(2, V.b y50)]) [] mix (by
     refine wR 4 101 ?_
     refine wJ 89 hv122 (fun hv122 => ?_) (fun hv122 => ?_)
     ·refine wR 4 101 ?_
      refine wJ 93 hv122 (fun hv122 => ?_) (fun hv122 => ?_)
      ·refine wR 16 101 ?_
       cases hv122
       exact fS [] [2]
      refine wR 5 101 ?_
      refine wJ 98 hv122 (fun hv122 => ?_) (fun hv122 => ?_)
      ·refine wR 11 101 ?_
       cases hv122
       exact fS [] [2]
      refine wR 5 101 ?_
      refine wJ 103 hv122 (fun hv122 => ?_) (fun hv122 => ?_)
      ·refine wR 6 101 ?_
       cases hv122
       exact fS [] [2]
      refine wR 6 101 ?_
      cases hv122
      exact fS [] [2]
     refine wR 20 101 ?_
     cases hv122
     exact fS [] [2]
     ) ?_
    cases h72
    exact e1 2 id
   refine CO.skip (bB h72 fun y51 hv128 h72 => ?_)
   refine CO.cutR (tl 117 [(2, V.b y51)]) [] mix (by
    refine wR 4 101 ?_
    refine wJ 112 hv128 (fun hv128 => ?_) (fun hv128 => ?_)
    ·refine wR 5 101 ?_
     cases hv128
     exact fS [] [2]
    refine wR 5 101 ?_
    cases hv128
    exact fS [] [2]
    ) ?_
   cases h72
   exact e1 2 id
 intro hk130
 refine cV 101 ?_
 refine cI h (fun _ h => ?_) (fun _ h => ?_)
 ·exact sK hk130 (a0, (a0.Kind == 1)) h [(100, 100)] [1, 4, 5]
 refine cV 101 ?_
 refine cI h (fun _ h => ?_) (fun _ h => ?_)
 ·exact sK hk130 (a0, (a0.Kind == 5)) h [(100, 100)] [1, 4, 5]
 refine cV 101 ?_
 refine cI h (fun _ h => ?_) (fun _ h => ?_)
 ·exact sK hk130 (a0, (a0.Kind == 7)) h [(100, 100)] [1, 4, 5]
 refine cV 101 ?_
 refine cI h (fun _ h => ?_) (fun _ h => ?_)
 ·exact sK hk130 (a0, (a0.Kind == 13)) h [(100, 100)] [1, 4, 5]
 refine cV 101 ?_
 refine cI h (fun _ h => ?_) (fun _ h => ?_)
 ·exact sK hk130 (a0, (a0.Kind == 27)) h [(100, 100)] [1, 4, 5]
 exact cK 101 hk130 (a0, (a0.Kind == 44)) h [(100, 100)] [1, 4, 5]

theorem ms_FieldsOk_ok (N : Nat) (a0 : SNode) {r : Bool} (h : ms_FieldsOk N a0 = some r) :
    AC0 53 [.agg [V.i a0.Kind, V.i a0.Op, V.s a0.Text, V.s a0.Other, sL eNI a0.Kids]] [] (V.b r) [] := by
 rw [ms_FieldsOk] at h
 refine AC.enter Tryz.func53 rfl (cV 100 (bB h fun r2 hx2 h => (cC 1 101 (ms_l7Many_ok a0 hx2) cok86 (bB h fun y6 hv8 h => ?_))))
 refine CO.cutR (tl 41 [(1, .loc 100 0), (3, V.i r2.1), (4, V.i r2.2), (5, V.b y6)]) [(100, .cells 54 [V.i a0.Kind, V.i a0.Op, V.s a0.Text, V.s a0.Other, sL eNI a0.Kids])] mix (by
  refine wR 2 101 (bB hv8 fun r7 hx9 hv8 => (w0 (ms_l1In_ok a0.Kind 1 16 hx9) cok68 (wR 1 101 ?_)))
  refine wJ 14 hv8 (fun hv8 => ?_) (fun hv8 => ?_)
  ·refine wR 10 101 ?_
   cases hv8
   exact fS [(100, 100)] [1, 3, 4, 5]
  refine wR 2 101 (bB hv8 fun r8 hx11 hv8 => (w0 (ms_l1In_ok a0.Kind 20 34 hx11) cok68 (wR 2 101 ?_)))
  refine wJ 19 hv8 (fun hv8 => ?_) (fun hv8 => ?_)
  ·refine wR 5 101 ?_
   cases hv8
   exact fS [(100, 100)] [1, 3, 4, 5]
  refine wR 2 101 (bB hv8 fun r9 hx13 hv8 => (w0 (ms_l1In_ok a0.Kind 40 45 hx13) cok68 (wR 2 101 ?_)))
  cases hv8
  exact fS [(100, 100)] [1, 3, 4, 5]
  ) ?_
 refine bB h fun y13 hv20 h => ?_
 refine CO.cutR (tl 41 [(2, V.b y13)]) [] mix (by
  refine wR 2 101 ?_
  refine wJ 25 hv20 (fun hv20 => ?_) (fun hv20 => ?_)
  ·refine wR 1 101 (bB hv20 fun r14 hx22 hv20 => (w0 (ms_l7Op_ok a0 hx22) cok87 (wR 2 101 ?_)))
   refine wJ 29 hv20 (fun hv20 => ?_) (fun hv20 => ?_)
   ·refine wR 1 101 (bB hv20 fun r15 hx24 hv20 => (w0 (ms_l7Text_ok N a0 hx24) cok88 (wR 2 101 ?_)))
    refine wJ 33 hv20 (fun hv20 => ?_) (fun hv20 => ?_)
    ·refine wR 2 101 (wN eNI a0.Kids [] (wR 2 101 (bB hv20 fun r16 hx26 hv20 => (w0 (ms_l1In_ok (a0.Kids.length : Int) r2.1 r2.2 hx26) cok68 (wR 2 101 ?_)))))
     cases hv20
     exact fS [] [2]
    refine wR 8 101 ?_
    cases hv20
    exact fS [] [2]
   refine wR 12 101 ?_
   cases hv20
   exact fS [] [2]
  refine wR 16 101 ?_
  cases hv20
  exact fS [] [2]
  ) ?_
 cases h
 exact e1 2 id

theorem ms_IsLvalue_ok (a0 : Int) {r : Bool} (h : ms_IsLvalue a0 = some r) :
    AC0 89 [V.i a0] [] (V.b r) [] := by
 rw [ms_IsLvalue] at h
 refine AC.enter Tryz.func89 rfl (cV 100 (bB h fun y1 hv3 h => ?_))
 refine CO.cutR (tl 13 [(2, V.b y1)]) [] mix (by
  refine wR 3 100 ?_
  refine wJ 5 hv3 (fun hv3 => ?_) (fun hv3 => ?_)
  ·refine wR 8 100 ?_
   cases hv3
   exact fS [] [2]
  refine wR 4 100 ?_
  refine wJ 9 hv3 (fun hv3 => ?_) (fun hv3 => ?_)
  ·refine wR 4 100 ?_
   cases hv3
   exact fS [] [2]
  refine wR 4 100 ?_
  cases hv3
  exact fS [] [2]
  ) ?_
 cases h
 exact e1 2 id

theorem ms_IsExpr_ok (a0 : Int) {r : Bool} (h : ms_IsExpr a0 = some r) :
    AC0 67 [V.i a0] [] (V.b r) [] := by
 rw [ms_IsExpr] at h
 refine AC.enter Tryz.func67 rfl (cV 100 (bB h fun r2 hx2 h => (cC 1 100 (ms_l1In_ok a0 1 15 hx2) cok68 ?_)))
 cases h
 exact e1 2 id

theorem ms_IsStmt_ok (a0 : Int) {r : Bool} (h : ms_IsStmt a0 = some r) :
    AC0 90 [V.i a0] [] (V.b r) [] := by
 rw [ms_IsStmt] at h
 refine AC.enter Tryz.func90 rfl (cV 100 (bB h fun r2 hx2 h => (cC 1 100 (ms_l1In_ok a0 20 34 hx2) cok68 ?_)))
 cases h
 exact e1 2 id

theorem ms_l7Kid_ok (a0 : SNode) (a1 : Int) (a2 : Int) {r : Bool} (h : ms_l7Kid a0 a1 a2 = some r) :
    AC0 54 [.agg [V.i a0.Kind, V.i a0.Op, V.s a0.Text, V.s a0.Other, sL eNI a0.Kids], V.i a1, V.i a2] [] (V.b r) [] := by
 rw [ms_l7Kid] at h
 refine AC.enter Tryz.func54 rfl (cV 100 (CO.sw mix (wR 3 101 (wN eNI a0.Kids [] (wR 3 101 (wF (cV 101 (CO.seq' ?_))))))))
 refine cV 101 (CO.block' ?_)
 refine CO.join (fun (⟨a1, a2, a0, y52⟩ : (Int × Int × SNode × Bool)) => ⟨tl 184 [(1, V.i a1), (2, V.i a2), (3, .loc 100 0), (7, V.b (a1 == (wr ((a0.Kids.length : Int) - 1)))), (8, V.b (a2 == 33)), (18, V.i a0.Kind), (19, V.b y52)], [(100, .cells 54 [V.i a0.Kind, V.i a0.Op, V.s a0.Text, V.s a0.Other, sL eNI a0.Kids])]⟩) (fun i => ms_l7Kid_k1 i = some r) ?_ ?_
 · rintro ⟨a1, a2, a0, y52⟩ h181
   rw [ms_l7Kid_k1] at h181
   refine cI h181 (fun _ h181 => ?_) (fun _ h181 => ?_)
   ·refine bB h181 fun r54 hx184 h181 => (cC 1 101 (ms_IsLvalue_ok a2 hx184) cok89 ?_)
    cases h181
    exact e1 6 id
   refine cV 101 ?_
   refine cI h181 (fun _ h181 => ?_) (fun _ h181 => ?_)
   ·refine bB h181 fun y57 hv190 h181 => ?_
    refine CO.cutR (tl 184 [(6, V.b y57)]) [] mix (by
     refine wR 1 101 (bB hv190 fun r58 hx191 hv190 => (w0 (ms_IsExpr_ok a2 hx191) cok67 (wR 1 101 ?_)))
     refine wJ 28 hv190 (fun hv190 => ?_) (fun hv190 => ?_)
     ·refine wR 3 101 ?_
      refine wJ 31 hv190 (fun hv190 => ?_) (fun hv190 => ?_)
      ·refine wR 5 101 ?_
       cases hv190
       exact fS [] [6]
      refine wR 1 101 (bB hv190 fun r59 hx194 hv190 => (w0 (ms_IsLvalue_ok a2 hx194) cok89 (wR 3 101 ?_)))
      cases hv190
      exact fS [] [6]
     refine wR 8 101 ?_
     cases hv190
     exact fS [] [6]
     ) ?_
    cases h181
    exact e1 6 id
   refine cV 101 ?_
   refine cI h181 (fun _ h181 => ?_) (fun _ h181 => ?_)
   ·refine bB h181 fun y61 hv201 h181 => ?_
    refine CO.cutR (tl 184 [(6, V.b y61)]) [] mix (by
     refine wR 3 101 ?_
     refine wJ 40 hv201 (fun hv201 => ?_) (fun hv201 => ?_)
     ·refine wR 1 101 (bB hv201 fun r62 hx203 hv201 => (w0 (ms_IsExpr_ok a2 hx203) cok67 (wR 2 101 ?_)))
      refine wJ 44 hv201 (fun hv201 => ?_) (fun hv201 => ?_)
      ·refine wR 7 101 ?_
       cases hv201
       exact fS [] [6]
      refine wR 3 101 ?_
      refine wJ 47 hv201 (fun hv201 => ?_) (fun hv201 => ?_)
      ·refine wR 4 101 ?_
       cases hv201
       exact fS [] [6]
      refine wR 4 101 ?_
      cases hv201
      exact fS [] [6]
     refine wR 7 101 ?_
     refine wJ 47 hv201 (fun hv201 => ?_) (fun hv201 => ?_)
     ·refine wR 4 101 ?_
      cases hv201
      exact fS [] [6]
     refine wR 4 101 ?_
     cases hv201
     exact fS [] [6]
     ) ?_
    cases h181
    exact e1 6 id
   refine cV 101 ?_
   refine cI h181 (fun _ h181 => ?_) (fun _ h181 => ?_)
   ·refine bB h181 fun y64 hv213 h181 => ?_
    refine CO.cutR (tl 184 [(6, V.b y64)]) [] mix (by
     refine wR 3 101 ?_
     refine wJ 55 hv213 (fun hv213 => ?_) (fun hv213 => ?_)
     ·refine wR 1 101 (bB hv213 fun r65 hx215 hv213 => (w0 (ms_IsExpr_ok a2 hx215) cok67 (wR 2 101 ?_)))
      refine wJ 59 hv213 (fun hv213 => ?_) (fun hv213 => ?_)
      ·refine wR 7 101 ?_
       cases hv213
       exact fS [] [6]
      refine wR 3 101 ?_
      refine wJ 62 hv213 (fun hv213 => ?_) (fun hv213 => ?_)
      ·refine wR 4 101 ?_
       cases hv213
       exact fS [] [6]
      refine wR 4 101 ?_
      cases hv213
      exact fS [] [6]
     refine wR 7 101 ?_
     refine wJ 62 hv213 (fun hv213 => ?_) (fun hv213 => ?_)
     ·refine wR 4 101 ?_
      cases hv213
      exact fS [] [6]
     refine wR 4 101 ?_
     cases hv213
     exact fS [] [6]
     ) ?_
    cases h181
    exact e1 6 id
   refine cV 101 ?_
   refine cI h181 (fun _ h181 => ?_) (fun _ h181 => ?_)
   ·refine bB h181 fun y68 hv226 h181 => ?_
    refine CO.cutR (tl 184 [(6, V.b y68)]) [] mix (by
     refine wR 3 101 ?_
     refine wJ 70 hv226 (fun hv226 => ?_) (fun hv226 => ?_)
     ·refine wR 3 101 ?_
      refine wJ 73 hv226 (fun hv226 => ?_) (fun hv226 => ?_)
      ·refine wR 8 101 ?_
       cases hv226
       exact fS [] [6]
      refine wR 3 101 ?_
      refine wJ 76 hv226 (fun hv226 => ?_) (fun hv226 => ?_)
      ·refine wR 1 101 (bB hv226 fun r69 hx230 hv226 => (w0 (ms_IsExpr_ok a2 hx230) cok67 (wR 3 101 ?_)))
       cases hv226
       exact fS [] [6]
      refine wR 5 101 ?_
      cases hv226
      exact fS [] [6]
     refine wR 6 101 ?_
     refine wJ 76 hv226 (fun hv226 => ?_) (fun hv226 => ?_)
     ·refine wR 1 101 (bB hv226 fun r70 hx232 hv226 => (w0 (ms_IsExpr_ok a2 hx232) cok67 (wR 3 101 ?_)))
      cases hv226
      exact fS [] [6]
     refine wR 5 101 ?_
     cases hv226
     exact fS [] [6]
     ) ?_
    cases h181
    exact e1 6 id
   refine cV 101 ?_
   refine cI h181 (fun _ h181 => ?_) (fun _ h181 => ?_)
   ·refine bB h181 fun y72 hv240 h181 => ?_
    refine CO.cutR (tl 184 [(6, V.b y72)]) [] mix (by
     refine wR 3 101 ?_
     refine wJ 85 hv240 (fun hv240 => ?_) (fun hv240 => ?_)
     ·refine wR 1 101 (bB hv240 fun r73 hx242 hv240 => (w0 (ms_IsExpr_ok a2 hx242) cok67 (wR 1 101 ?_)))
      refine wJ 88 hv240 (fun hv240 => ?_) (fun hv240 => ?_)
      ·refine wR 12 101 ?_
       cases hv240
       exact fS [] [6]
      refine wR 5 101 ?_
      refine wJ 93 hv240 (fun hv240 => ?_) (fun hv240 => ?_)
      ·refine wR 7 101 ?_
       cases hv240
       exact fS [] [6]
      refine wR 3 101 ?_
      refine wJ 96 hv240 (fun hv240 => ?_) (fun hv240 => ?_)
      ·refine wR 4 101 ?_
       cases hv240
       exact fS [] [6]
      refine wR 4 101 ?_
      cases hv240
      exact fS [] [6]
     refine wR 11 101 ?_
     refine wJ 96 hv240 (fun hv240 => ?_) (fun hv240 => ?_)
     ·refine wR 4 101 ?_
      cases hv240
      exact fS [] [6]
     refine wR 4 101 ?_
     cases hv240
     exact fS [] [6]
     ) ?_
    cases h181
    exact e1 6 id
   refine CO.join (fun (⟨a1, a2, a0, y74⟩ : (Int × Int × SNode × Bool)) => ⟨tl 184 [(1, V.i a1), (2, V.i a2), (3, .loc 100 0), (7, V.b (a1 == (wr ((a0.Kids.length : Int) - 1)))), (8, V.b (a2 == 33)), (18, V.i a0.Kind), (100, V.b y74)], [(100, .cells 54 [V.i a0.Kind, V.i a0.Op, V.s a0.Text, V.s a0.Other, sL eNI a0.Kids])]⟩) (fun i => ms_l7Kid_k2 i = some r) ?_ ?_
   · rintro ⟨a1, a2, a0, y74⟩ h249
     rw [ms_l7Kid_k2] at h249
     refine cI h249 (fun _ h249 => ?_) (fun _ h249 => ?_)
     ·refine cV 101 ?_
      cases h249
      exact e1 6 id
     refine cV 101 ?_
     refine cI h249 (fun _ h249 => ?_) (fun _ h249 => ?_)
     ·refine bB h249 fun r76 hx253 h249 => (cC 1 101 (ms_IsStmt_ok a2 hx253) cok90 ?_)
      cases h249
      exact e1 6 id
     refine cV 101 ?_
     refine cI h249 (fun _ h249 => ?_) (fun _ h249 => ?_)
     ·refine bB h249 fun y86 hv290 h249 => ?_
      refine CO.cutR (tl 184 [(6, V.b y86)]) [] mix (by
       refine wR 4 101 ?_
       refine wJ 114 hv290 (fun hv290 => ?_) (fun hv290 => ?_)
       ·refine wR 1 101 (bB hv290 fun r87 hx292 hv290 => (w0 (ms_IsExpr_ok a2 hx292) cok67 (wR 2 101 ?_)))
        refine wJ 118 hv290 (fun hv290 => ?_) (fun hv290 => ?_)
        ·refine wR 27 101 ?_
         cases hv290
         exact fS [] [6]
        refine wR 4 101 ?_
        refine wJ 122 hv290 (fun hv290 => ?_) (fun hv290 => ?_)
        ·refine wR 4 101 ?_
         refine wJ 126 hv290 (fun hv290 => ?_) (fun hv290 => ?_)
         ·refine wR 19 101 ?_
          cases hv290
          exact fS [] [6]
         refine wR 4 101 ?_
         refine wJ 130 hv290 (fun hv290 => ?_) (fun hv290 => ?_)
         ·refine wR 2 101 ?_
          refine wJ 132 hv290 (fun hv290 => ?_) (fun hv290 => ?_)
          ·refine wR 3 101 ?_
           refine wJ 135 hv290 (fun hv290 => ?_) (fun hv290 => ?_)
           ·refine wR 10 101 ?_
            cases hv290
            exact fS [] [6]
           refine wR 3 101 ?_
           refine wJ 138 hv290 (fun hv290 => ?_) (fun hv290 => ?_)
           ·refine wR 1 101 (bB hv290 fun r88 hx300 hv290 => (w0 (ms_IsExpr_ok a2 hx300) cok67 (wR 5 101 ?_)))
            cases hv290
            exact fS [] [6]
           refine wR 7 101 ?_
           cases hv290
           exact fS [] [6]
          refine wR 6 101 ?_
          refine wJ 138 hv290 (fun hv290 => ?_) (fun hv290 => ?_)
          ·refine wR 1 101 (bB hv290 fun r89 hx302 hv290 => (w0 (ms_IsExpr_ok a2 hx302) cok67 (wR 5 101 ?_)))
           cases hv290
           exact fS [] [6]
          refine wR 7 101 ?_
          cases hv290
          exact fS [] [6]
         refine wR 15 101 ?_
         cases hv290
         exact fS [] [6]
        refine wR 8 101 ?_
        refine wJ 130 hv290 (fun hv290 => ?_) (fun hv290 => ?_)
        ·refine wR 2 101 ?_
         refine wJ 132 hv290 (fun hv290 => ?_) (fun hv290 => ?_)
         ·refine wR 3 101 ?_
          refine wJ 135 hv290 (fun hv290 => ?_) (fun hv290 => ?_)
          ·refine wR 10 101 ?_
           cases hv290
           exact fS [] [6]
          refine wR 3 101 ?_
          refine wJ 138 hv290 (fun hv290 => ?_) (fun hv290 => ?_)
          ·refine wR 1 101 (bB hv290 fun r90 hx307 hv290 => (w0 (ms_IsExpr_ok a2 hx307) cok67 (wR 5 101 ?_)))
           cases hv290
           exact fS [] [6]
          refine wR 7 101 ?_
          cases hv290
          exact fS [] [6]
         refine wR 6 101 ?_
         refine wJ 138 hv290 (fun hv290 => ?_) (fun hv290 => ?_)
         ·refine wR 1 101 (bB hv290 fun r91 hx309 hv290 => (w0 (ms_IsExpr_ok a2 hx309) cok67 (wR 5 101 ?_)))
          cases hv290
          exact fS [] [6]
         refine wR 7 101 ?_
         cases hv290
         exact fS [] [6]
        refine wR 15 101 ?_
        cases hv290
        exact fS [] [6]
       refine wR 8 101 ?_
       refine wJ 122 hv290 (fun hv290 => ?_) (fun hv290 => ?_)
       ·refine wR 4 101 ?_
        refine wJ 126 hv290 (fun hv290 => ?_) (fun hv290 => ?_)
        ·refine wR 19 101 ?_
         cases hv290
         exact fS [] [6]
        refine wR 4 101 ?_
        refine wJ 130 hv290 (fun hv290 => ?_) (fun hv290 => ?_)
        ·refine wR 2 101 ?_
         refine wJ 132 hv290 (fun hv290 => ?_) (fun hv290 => ?_)
         ·refine wR 3 101 ?_
          refine wJ 135 hv290 (fun hv290 => ?_) (fun hv290 => ?_)
          ·refine wR 10 101 ?_
           cases hv290
           exact fS [] [6]
          refine wR 3 101 ?_
          refine wJ 138 hv290 (fun hv290 => ?_) (fun hv290 => ?_)
          ·refine wR 1 101 (bB hv290 fun r92 hx316 hv290 => (w0 (ms_IsExpr_ok a2 hx316) cok67 (wR 5 101 ?_)))
           cases hv290
           exact fS [] [6]
          refine wR 7 101 ?_
          cases hv290
          exact fS [] [6]
         refine wR 6 101 ?_
         refine wJ 138 hv290 (fun hv290 => ?_) (fun hv290 => ?_)
         ·refine wR 1 101 (bB hv290 fun r93 hx318 hv290 => (w0 (ms_IsExpr_ok a2 hx318) cok67 (wR 5 101 ?_)))
          cases hv290
          exact fS [] [6]
         refine wR 7 101 ?_
         cases hv290
         exact fS [] [6]
        refine wR 15 101 ?_
        cases hv290
        exact fS [] [6]
       refine wR 8 101 ?_
       refine wJ 130 hv290 (fun hv290 => ?_) (fun hv290 => ?_)
       ·refine wR 2 101 ?_
        refine wJ 132 hv290 (fun hv290 => ?_) (fun hv290 => ?_)
        ·refine wR 3 101 ?_
         refine wJ 135 hv290 (fun hv290 => ?_) (fun hv290 => ?_)
         ·refine wR 10 101 ?_
          cases hv290
          exact fS [] [6]
         refine wR 3 101 ?_
         refine wJ 138 hv290 (fun hv290 => ?_) (fun hv290 => ?_)
         ·refine wR 1 101 (bB hv290 fun r94 hx323 hv290 => (w0 (ms_IsExpr_ok a2 hx323) cok67 (wR 5 101 ?_)))
          cases hv290
          exact fS [] [6]
         refine wR 7 101 ?_
         cases hv290
         exact fS [] [6]
        refine wR 6 101 ?_
        refine wJ 138 hv290 (fun hv290 => ?_) (fun hv290 => ?_)
        ·refine wR 1 101 (bB hv290 fun r95 hx325 hv290 => (w0 (ms_IsExpr_ok a2 hx325) cok67 (wR 5 101 ?_)))
         cases hv290
         exact fS [] [6]
        refine wR 7 101 ?_
        cases hv290
        exact fS [] [6]
       refine wR 15 101 ?_
       cases hv290
       exact fS [] [6]
       ) ?_
      cases h249
      exact e1 6 id
     refine cV 101 ?_
     refine cI h249 (fun _ h249 => ?_) (fun _ h249 => ?_)
     ·refine bB h249 fun y97 hv332 h249 => ?_
      refine CO.cutR (tl 184 [(6, V.b y97)]) [] mix (by
       refine wR 3 101 ?_
       refine wJ 149 hv332 (fun hv332 => ?_) (fun hv332 => ?_)
       ·refine wR 1 101 (bB hv332 fun r98 hx334 hv332 => (w0 (ms_IsExpr_ok a2 hx334) cok67 (wR 2 101 ?_)))
        refine wJ 153 hv332 (fun hv332 => ?_) (fun hv332 => ?_)
        ·refine wR 7 101 ?_
         cases hv332
         exact fS [] [6]
        refine wR 3 101 ?_
        refine wJ 156 hv332 (fun hv332 => ?_) (fun hv332 => ?_)
        ·refine wR 4 101 ?_
         cases hv332
         exact fS [] [6]
        refine wR 4 101 ?_
        cases hv332
        exact fS [] [6]
       refine wR 7 101 ?_
       refine wJ 156 hv332 (fun hv332 => ?_) (fun hv332 => ?_)
       ·refine wR 4 101 ?_
        cases hv332
        exact fS [] [6]
       refine wR 4 101 ?_
       cases hv332
       exact fS [] [6]
       ) ?_
      cases h249
      exact e1 6 id
     refine cV 101 ?_
     refine cI h249 (fun _ h249 => ?_) (fun _ h249 => ?_)
     ·refine bB h249 fun y99 hv343 h249 => ?_
      refine CO.cutR (tl 184 [(6, V.b y99)]) [] mix (by
       refine wR 2 101 ?_
       refine wJ 163 hv343 (fun hv343 => ?_) (fun hv343 => ?_)
       ·refine wR 3 101 ?_
        refine wJ 166 hv343 (fun hv343 => ?_) (fun hv343 => ?_)
        ·refine wR 8 101 ?_
         cases hv343
         exact fS [] [6]
        refine wR 3 101 ?_
        refine wJ 169 hv343 (fun hv343 => ?_) (fun hv343 => ?_)
        ·refine wR 5 101 ?_
         cases hv343
         exact fS [] [6]
        refine wR 5 101 ?_
        cases hv343
        exact fS [] [6]
       refine wR 6 101 ?_
       refine wJ 169 hv343 (fun hv343 => ?_) (fun hv343 => ?_)
       ·refine wR 5 101 ?_
        cases hv343
        exact fS [] [6]
       refine wR 5 101 ?_
       cases hv343
       exact fS [] [6]
       ) ?_
      cases h249
      exact e1 6 id
     refine cV 101 ?_
     refine cI h249 (fun _ h249 => ?_) (fun _ h249 => ?_)
     ·refine bB h249 fun y101 hv351 h249 => ?_
      refine CO.cutR (tl 184 [(6, V.b y101)]) [] mix (by
       refine wR 1 101 (bB hv351 fun r102 hx352 hv351 => (w0 (ms_l1In_ok a2 40 44 hx352) cok68 (wR 1 101 ?_)))
       refine wJ 178 hv351 (fun hv351 => ?_) (fun hv351 => ?_)
       ·refine wR 4 101 ?_
        cases hv351
        exact fS [] [6]
       refine wR 4 101 ?_
       cases hv351
       exact fS [] [6]
       ) ?_
      cases h249
      exact e1 6 id
     refine CO.skip (bB h249 fun r104 hx355 h249 => (cC 1 101 (ms_IsExpr_ok a2 hx355) cok67 ?_))
     cases h249
     exact e1 6 id
   intro hk356
   refine cV 101 ?_
   refine cI h181 (fun _ h181 => ?_) (fun _ h181 => ?_)
   ·exact sK hk356 (a1, a2, a0, (a0.Kind == 32)) h181 [(100, 100)] [1, 2, 3, 7, 8, 18, 100]
   refine cV 101 ?_
   refine cI h181 (fun _ h181 => ?_) (fun _ h181 => ?_)
   ·exact sK hk356 (a1, a2, a0, (a0.Kind == 40)) h181 [(100, 100)] [1, 2, 3, 7, 8, 18, 100]
   exact cK 101 hk356 (a1, a2, a0, (a0.Kind == 41)) h181 [(100, 100)] [1, 2, 3, 7, 8, 18, 100]
 intro hk359
 refine cV 101 ?_
 refine cI h (fun _ h => ?_) (fun _ h => ?_)
 ·exact sK hk359 (a1, a2, a0, (a0.Kind == 9)) h [(100, 100)] [1, 2, 3, 7, 8, 18, 19]
 exact cK 101 hk359 (a1, a2, a0, (a0.Kind == 10)) h [(100, 100)] [1, 2, 3, 7, 8, 18, 19]

theorem ms_TreeOk_ok (N : Nat) (a0 : LN) {r : Bool} (h : ms_TreeOk N a0 = some r) :
    AC0 25 [.sl false false (a0.map (eSN false))] [] (V.b r) [] := by
 rw [ms_TreeOk] at h
 refine AC.enter Tryz.func25 rfl (cV 100 (CO.seq' (bB h fun y8 hv12 h => ?_)))
 refine CO.cutR (tl 54 [(0, .sl false false (a0.map (eSN false))), (12, V.b y8)]) [] mix (by
  refine wR 1 100 (bB hv12 fun r9 hx13 hv12 => (w0 (ms_ShapeOk_ok N a0 hx13) cok51 (wR 2 100 ?_)))
  refine wJ 8 hv12 (fun hv12 => ?_) (fun hv12 => ?_)
  ·refine wR 4 100 ?_
   cases hv12
   exact fS [] [0, 12]
  refine wR 1 100 (bB hv12 fun r10 hx15 hv12 => (w0 (ms_DepthOf_ok N a0 hx15) cok52 (wR 2 100 ?_)))
  cases hv12
  exact fS [] [0, 12]
  ) ?_
 refine cI h (fun _ h => ?_) (fun _ h => ?_)
 ·refine cV 100 ?_
  cases h
  exact e1 2 id
 refine CO.skip (CO.seq' (cV 100 (CO.block' (CO.loopJ (fun (⟨a0, y669⟩ : (LN × Int)) => ⟨tl 54 [(0, .sl false false (a0.map (eSN false))), (3, V.i y669)], []⟩) (fun n i => ms_TreeOk_l1 N n i = some r) (n0 := N) (i0 := (a0, 0)) (wS [] [0, 3]) h (fun i h => by simp [ms_TreeOk_l1] at h) ?_))))
 rintro n1 ⟨a0, y669⟩ h989 ih990
 rw [ms_TreeOk_l1] at h989
 refine CO.seq' (CO.sw mix (wR 2 280 (wN (eSN false) a0 [] (wR 1 280 (wF ?_)))))
 refine cI h989 (fun _ h989 => ?_) (fun _ h989 => ?_)
 ·refine CO.skip (CO.seq' (CO.block' (CO.seq' (bB h989 fun e923 hx1096 h989 => (bB h989 fun r924 hx1097 h989 => (CO.sw mix (wR 2 280 (wX (eSN false) hx1096 5 ?_))))))))
  refine wR 1 280 (w0 (ms_FieldsOk_ok N e923 hx1097) cok53 (wR 1 280 (wF ?_)))
  refine cI h989 (fun _ h989 => ?_) (fun _ h989 => ?_)
  ·refine cV 280 ?_
   cases h989
   exact e1 2 id
  refine CO.skip (cV 280 (CO.block' (CO.loopJ (fun (⟨a0, y669, y949⟩ : (LN × Int × Int)) => ⟨tl 54 [(0, .sl false false (a0.map (eSN false))), (3, V.i y669), (4, V.i y949)], []⟩) (fun n i => ms_TreeOk_l2 N (ms_TreeOk_l1 N n1) n i = some r) (n0 := N) (i0 := (a0, y669, 0)) (wS [] [0, 3, 4]) h989 (fun i h => by simp [ms_TreeOk_l2] at h) ?_)))
  rintro n2 ⟨a0, y669, y949⟩ h1155 ih1156
  rw [ms_TreeOk_l2] at h1155
  refine CO.seq' (bB h1155 fun e978 hx1161 h1155 => (CO.sw mix (wR 3 340 (wX (eSN false) hx1161 5 (wR 2 340 (wN eNI e978.Kids [] (wR 1 340 (wF ?_))))))))
  refine cI h1155 (fun _ h1155 => ?_) (fun _ h1155 => ?_)
  ·refine CO.skip (CO.seq' (CO.block' (bB h1155 fun e994 hx1179 h1155 => (bB h1155 fun e995 hx1180 h1155 => (bB h1155 fun e996 hx1181 h1155 => (bB h1155 fun e997 hx1182 h1155 => (bB h1155 fun r998 hx1183 h1155 => (CO.sw mix ?_))))))))
   refine wR 2 340 (wX (eSN false) hx1179 5 (wR 5 340 (wX (eSN false) hx1180 5 (wR 3 340 (wX eNI hx1181 1 (wR 1 340 (wX (eSN false) hx1182 5 (wR 2 340 ?_))))))))
   refine w0 (ms_l7Kid_ok e994 y949 e997.Kind hx1183) cok54 (wR 1 340 (wF ?_))
   refine cI h1155 (fun _ h1155 => ?_) (fun _ h1155 => ?_)
   ·refine cV 340 ?_
    cases h1155
    exact e1 2 id
   refine CO.skip ?_
   exact cK 340 ih1156 (a0, y669, (wr (y949 + 1))) h1155 [] [0, 3, 4]
  refine CO.exit ?_
  exact cK 340 ih990 (a0, (wr (y669 + 1))) h1155 [] [0, 3]
 refine CO.exit (cV 280 ?_)
 cases h989
 exact e1 2 id

theorem ms_Shunt_ok (N : Nat) (a0 : LT) {r : (LN × Bool)} (h : ms_Shunt N a0 = some r) :
    AC0 6 [sL eTk a0] [] (.tup [.sl false false (r.1.map (eSN false)), V.b r.2]) [] := by
 rw [ms_Shunt] at h
 refine AC.enter Tryz.func6 rfl (cV 100 (CO.seq' (bB h fun y8 hv12 h => ?_)))
 refine CO.cutR (tl 156 [(0, sL eTk a0), (14, V.b y8)]) [] mix (by
  refine wR 1 100 (bB hv12 fun r9 hx13 hv12 => (w0 (ms_Shunts_ok N a0 hx13) cok20 (wR 2 100 ?_)))
  refine wJ 10 hv12 (fun hv12 => ?_) (fun hv12 => ?_)
  ·refine wR 4 100 ?_
   cases hv12
   exact fS [] [0, 14]
  refine wR 1 100 (bB hv12 fun r10 hx15 hv12 => (w0 (ms_NestOf_ok N a0 hx15) cok21 (wR 2 100 ?_)))
  cases hv12
  exact fS [] [0, 14]
  ) ?_
 refine cI h (fun _ h => ?_) (fun _ h => ?_)
 ·refine CO.cutR (tl 156 [(2, .own 100), (3, V.b false)]) [(100, .vec false 54 5 ([].map (eSN false)))] mix (by
   refine W.layop Dk lO (by kernel_rfl) 100 { v := .own 100, R := [], new := [(100, .vec true 54 5 [])], N := [100] } (by kernel_rfl) (W.vecEq 100 (nn := true) (e := 54) (k := 5) (rows := []) (rows' := [].map (eSN false)) (by kernel_rfl) (by kernel_rfl) (wR 2 101 ?_))
   exact fI
   ) ?_
  refine CO.lay (tl 156 [(2, .sl false false ([].map (eSN false))), (3, V.b false)]) [] (LayOk.cons (j := 100) (eSN false) (eSN false) ([] : LN) (by kernel_rfl) (sh_eSN _) lO) (by kernel_rfl) (by kernel_rfl) (by kernel_rfl) (CO.ret ?_)
  cases h
  exact eG [] (.inr rfl) (RetV.two rfl (oT (t := 2) (r := .sl false false ([].map (eSN false)))) (oT (t := 3) (r := V.b false)))
 refine CO.skip (cV 100 (CO.seq' (cV 101 (CO.block' (CO.loopJ (fun (⟨a0, y865, y866, y867⟩ : (LT × Int × (List Int) × (List LN))) => ⟨tl 156 [(0, sL eTk a0), (4, .loc 100 0), (5, V.i y865)], [(100, .cells 51 [.own 101, .own 102]), (101, vX 3 1 eNI y866), (102, .vec false 24 1 (y867.map (encL false (eSN false))))]⟩) (fun n i => ms_Shunt_l1 N n i = some r) (n0 := N) (i0 := (a0, 0, [], [])) ((Weak.nilCell 100 0 101 3 1 (ety := 51) (cs := [.c (.slice none 0 0), .c (.slice none 0 0)]) (by kernel_rfl) (by kernel_rfl) (by kernel_rfl)).trans ((Weak.nilCell 100 1 102 24 1 (ety := 51) (cs := [.own 101, .c (.slice none 0 0)]) (by kernel_rfl) (by kernel_rfl) (by kernel_rfl)).trans (wS [(100, 100), (101, 101), (102, 102)] [0, 4, 5]))) h (fun i h => by simp [ms_Shunt_l1] at h) ?_)))))
 rintro n1 ⟨a0, y865, y866, y867⟩ h1567 ih1568
 rw [ms_Shunt_l1] at h1567
 refine CO.seq' (CO.sw mix (wR 2 272 (wN eTk a0 [] (wR 1 272 (wF ?_)))))
 refine cI h1567 (fun _ h1567 => ?_) (fun _ h1567 => ?_)
 ·refine CO.skip ?_
  refine CO.join (fun (⟨a0, y865, y1287, y1288⟩ : (LT × Int × (List Int) × (List LN))) => ⟨tl 156 [(0, sL eTk a0), (4, .loc 100 0), (5, V.i y865)], [(100, .cells 51 [.own 101, .own 102]), (101, vX 3 1 eNI y1287), (102, .vec false 24 1 (y1288.map (encL false (eSN false))))]⟩) (fun i => ms_Shunt_k2 N (ms_Shunt_l1 N n1) i = some r) ?_ ?_
  · rintro ⟨a0, y865, y1287, y1288⟩ h1767
    rw [ms_Shunt_k2] at h1767
    exact cK 316 ih1568 (a0, (wr (y865 + 1)), y1287, y1288) h1767 [(100, 100), (101, 101), (102, 102)] [0, 4, 5]
  intro hk1768
  refine CO.block' (bB h1567 fun e1290 hx1770 h1567 => (CO.sw mix (wR 2 272 (wX eTk hx1770 3 (wR 3 272 (wF (cV 272 (CO.block' ?_))))))))
  refine cV 272 ?_
  refine cI h1567 (fun _ h1567 => ?_) (fun _ h1567 => ?_)
  ·refine bB h1567 fun e1293 hx1774 h1567 => (bB h1567 fun x1294 hx1775 h1567 => (CO.w mix (wR 4 272 (wX eTk hx1774 3 (wR 4 272 (W.layop Dk (LayOk.cons (j := 272) (eSN true) (eSN false) ([(⟨1, 0, e1293.Text, [], []⟩ : SNode)] : LN) (by kernel_rfl) (sh_eSN _) lO) (by kernel_rfl) 273 { v := .own 273, R := [], new := [(273, .vec true 24 1 [[.sl false false ([(⟨1, 0, e1293.Text, [], []⟩ : SNode)].map (eSN false))]])], N := [273] } (by kernel_rfl) (W.vecEq 273 (nn := true) (e := 24) (k := 1) (rows := [[.sl false false ([(⟨1, 0, e1293.Text, [], []⟩ : SNode)].map (eSN false))]]) (rows' := [[(⟨1, 0, e1293.Text, [], []⟩ : SNode)]].map (encL false (eSN false))) (by kernel_rfl) (by kernel_rfl) (W.appO Dk (encL false (eSN false)) (a := 102) (c := 273) (el := 24) (sz := 1) 24 hx1775 rfl 274 (by kernel_rfl) ?_))))))))
   refine wR 2 275 ?_
   exact wK hk1768 (a0, y865, y866, x1294) h1567 [(100, 100), (101, 101), (274, 102)] [0, 4, 5]
  refine cV 272 ?_
  refine cI h1567 (fun _ h1567 => ?_) (fun _ h1567 => ?_)
  ·refine bB h1567 fun e1297 hx1779 h1567 => (bB h1567 fun x1298 hx1780 h1567 => (CO.w mix (wR 4 272 (wX eTk hx1779 3 (wR 4 272 (W.layop Dk (LayOk.cons (j := 272) (eSN true) (eSN false) ([(⟨2, 0, e1297.Text, [], []⟩ : SNode)] : LN) (by kernel_rfl) (sh_eSN _) lO) (by kernel_rfl) 273 { v := .own 273, R := [], new := [(273, .vec true 24 1 [[.sl false false ([(⟨2, 0, e1297.Text, [], []⟩ : SNode)].map (eSN false))]])], N := [273] } (by kernel_rfl) (W.vecEq 273 (nn := true) (e := 24) (k := 1) (rows := [[.sl false false ([(⟨2, 0, e1297.Text, [], []⟩ : SNode)].map (eSN false))]]) (rows' := [[(⟨2, 0, e1297.Text, [], []⟩ : SNode)]].map (encL false (eSN false))) (by kernel_rfl) (by kernel_rfl) (W.appO Dk (encL false (eSN false)) (a := 102) (c := 273) (el := 24) (sz := 1) 24 hx1780 rfl 274 (by kernel_rfl) ?_))))))))
   refine wR 2 275 ?_
   exact wK hk1768 (a0, y865, y866, x1298) h1567 [(100, 100), (101, 101), (274, 102)] [0, 4, 5]
  refine cV 272 ?_
  refine cI h1567 (fun _ h1567 => ?_) (fun _ h1567 => ?_)
  ·refine bB h1567 fun x1300 hx1783 h1567 => (CO.w mix (wR 3 272 (W.appO Dk eNI (a := 101) (c := 272) (el := 3) (sz := 1) 8 hx1783 rfl 273 (by kernel_rfl) (wR 2 274 ?_))))
   exact wK hk1768 (a0, y865, x1300, y867) h1567 [(100, 100), (273, 101), (102, 102)] [0, 4, 5]
  refine cV 272 ?_
  refine cI h1567 (fun _ h1567 => ?_) (fun _ h1567 => ?_)
  ·refine CO.seq' (CO.block' (CO.loopJ (fun (⟨a0, y865, y866, y867⟩ : (LT × Int × (List Int) × (List LN))) => ⟨tl 156 [(0, sL eTk a0), (4, .loc 100 0), (5, V.i y865)], [(100, .cells 51 [.own 101, .own 102]), (101, vX 3 1 eNI y866), (102, .vec false 24 1 (y867.map (encL false (eSN false))))]⟩) (fun n i => ms_Shunt_l3 N (ms_Shunt_l1 N n1) n i = some r) (n0 := N) (i0 := (a0, y865, y866, y867)) (wS [(100, 100), (101, 101), (102, 102)] [0, 4, 5]) h1567 (fun i h => by simp [ms_Shunt_l3] at h) ?_))
   rintro n3 ⟨a0, y865, y866, y867⟩ h1811 ih1812
   rw [ms_Shunt_l3] at h1811
   refine CO.seq' (bB h1811 fun e1326 hx1817 h1811 => (CO.sw mix (wR 4 314 (wN eNI y866 [101] (wR 1 314 (W.ixO Dk eNI hx1817 101 1 (by kernel_rfl) (W.ldO Dk eNI hx1817 3 101 0 (V.i e1326) (by kernel_rfl) (by kernel_rfl) (wR 1 314 ?_))))))))
   refine wF ?_
   refine cI h1811 (fun _ h1811 => ?_) (fun _ h1811 => ?_)
   ·refine CO.skip (CO.block' (bB h1811 fun r1328 hx1820 h1811 => (CO.w mix (wR 1 314 (wC (ms_l37Join_ok N y866 y867 hx1820) cok22 [(101, 0), (102, 1)] [(100, 314), (101, 315)] [314, 315] (wR 1 316 ?_))))))
    exact wK ih1812 (a0, y865, r1328.ops, r1328.trees) h1811 [(100, 100), (314, 101), (315, 102)] [0, 4, 5]
   refine CO.exit (bB h1811 fun l1330 hx1822 h1811 => (CO.w mix (wR 4 314 (wN eNI y866 [101] (wR 1 314 (W.cutO Dk eNI hx1822 314 (j := 101) (el := 3) (sz := 1) (by kernel_rfl) (wR 2 315 ?_)))))))
   exact wK hk1768 (a0, y865, l1330, y867) h1811 [(100, 100), (314, 101), (102, 102)] [0, 4, 5]
  refine CO.seq' (CO.block' (CO.loopJ (fun (⟨a0, y865, e1290, y866, y867⟩ : (LT × Int × SToken × (List Int) × (List LN))) => ⟨tl 156 [(0, sL eTk a0), (4, .loc 100 0), (5, V.i y865), (6, V.i e1290.Kind)], [(100, .cells 51 [.own 101, .own 102]), (101, vX 3 1 eNI y866), (102, .vec false 24 1 (y867.map (encL false (eSN false))))]⟩) (fun n i => ms_Shunt_l4 N (ms_Shunt_l1 N n1) n i = some r) (n0 := N) (i0 := (a0, y865, e1290, y866, y867)) (wS [(100, 100), (101, 101), (102, 102)] [0, 4, 5, 6]) h1567 (fun i h => by simp [ms_Shunt_l4] at h) ?_))
  rintro n4 ⟨a0, y865, e1290, y866, y867⟩ h1915 ih1916
  rw [ms_Shunt_l4] at h1915
  refine CO.seq' (bB h1915 fun y1408 hv1937 h1915 => ?_)
  refine CO.cutR (tl 156 [(0, sL eTk a0), (4, .loc 100 0), (5, V.i y865), (6, V.i e1290.Kind), (57, V.b y1408)]) [(100, .cells 51 [.own 101, .own 102]), (101, vX 3 1 eNI y866), (102, .vec false 24 1 (y867.map (encL false (eSN false))))] mix (by
   refine wR 2 314 (wN eNI y866 [101] (wR 2 314 ?_))
   refine wJ 33 hv1937 (fun hv1937 => ?_) (fun hv1937 => ?_)
   ·refine wR 4 314 (wN eNI y866 [101] (wR 1 314 (bB hv1937 fun e1409 hx1939 hv1937 => (W.ixO Dk eNI hx1939 101 1 (by kernel_rfl) (W.ldO Dk eNI hx1939 3 101 0 (V.i e1409) (by kernel_rfl) (by kernel_rfl) (wR 1 314 (bB hv1937 fun r1410 hx1940 hv1937 => (w0 (ms_l37Bad_ok e1409 e1290.Kind hx1940) cok23 ?_))))))))
    refine wR 3 314 ?_
    refine wJ 46 hv1937 (fun hv1937 => ?_) (fun hv1937 => ?_)
    ·refine wR 4 314 (wN eNI y866 [101] (wR 1 314 (bB hv1937 fun e1411 hx1942 hv1937 => (W.ixO Dk eNI hx1942 101 1 (by kernel_rfl) (W.ldO Dk eNI hx1942 3 101 0 (V.i e1411) (by kernel_rfl) (by kernel_rfl) (wR 1 314 (bB hv1937 fun r1412 hx1943 hv1937 => (w0 (ms_l37First_ok e1411 e1290.Kind hx1943) cok24 ?_))))))))
     refine wR 1 314 ?_
     cases hv1937
     exact fS [(100, 100), (101, 101), (102, 102)] [0, 4, 5, 6, 57]
    refine wR 11 314 ?_
    cases hv1937
    exact fS [(100, 100), (101, 101), (102, 102)] [0, 4, 5, 6, 57]
   refine wR 24 314 ?_
   cases hv1937
   exact fS [(100, 100), (101, 101), (102, 102)] [0, 4, 5, 6, 57]
   ) ?_
  refine cI h1915 (fun _ h1915 => ?_) (fun _ h1915 => ?_)
  ·refine CO.skip (CO.block' (bB h1915 fun r1414 hx1946 h1915 => (CO.w mix (wR 1 314 (wC (ms_l37Join_ok N y866 y867 hx1946) cok22 [(101, 0), (102, 1)] [(100, 314), (101, 315)] [314, 315] (wR 1 316 ?_))))))
   exact wK ih1916 (a0, y865, e1290, r1414.ops, r1414.trees) h1915 [(100, 100), (314, 101), (315, 102)] [0, 4, 5, 6]
  refine CO.exit (CO.seq' (bB h1915 fun y1422 hv1958 h1915 => ?_))
  refine CO.cutR (tl 156 [(0, sL eTk a0), (4, .loc 100 0), (5, V.i y865), (6, V.i e1290.Kind), (75, V.b y1422)]) [(100, .cells 51 [.own 101, .own 102]), (101, vX 3 1 eNI y866), (102, .vec false 24 1 (y867.map (encL false (eSN false))))] mix (by
   refine wR 2 314 (wN eNI y866 [101] (wR 2 314 ?_))
   refine wJ 64 hv1958 (fun hv1958 => ?_) (fun hv1958 => ?_)
   ·refine wR 4 314 (wN eNI y866 [101] (wR 1 314 (bB hv1958 fun e1423 hx1960 hv1958 => (W.ixO Dk eNI hx1960 101 1 (by kernel_rfl) (W.ldO Dk eNI hx1960 3 101 0 (V.i e1423) (by kernel_rfl) (by kernel_rfl) (wR 1 314 (bB hv1958 fun r1424 hx1961 hv1958 => (w0 (ms_l37Bad_ok e1423 e1290.Kind hx1961) cok23 ?_))))))))
    refine wR 1 314 ?_
    cases hv1958
    exact fS [(100, 100), (101, 101), (102, 102)] [0, 4, 5, 6, 75]
   refine wR 11 314 ?_
   cases hv1958
   exact fS [(100, 100), (101, 101), (102, 102)] [0, 4, 5, 6, 75]
   ) ?_
  refine cI h1915 (fun _ h1915 => ?_) (fun _ h1915 => ?_)
  ·refine CO.cutR (tl 156 [(2, .own 314), (3, V.b false)]) [(314, .vec false 54 5 ([].map (eSN false)))] mix (by
    refine W.layop Dk lO (by kernel_rfl) 314 { v := .own 314, R := [], new := [(314, .vec true 54 5 [])], N := [314] } (by kernel_rfl) (W.vecEq 314 (nn := true) (e := 54) (k := 5) (rows := []) (rows' := [].map (eSN false)) (by kernel_rfl) (by kernel_rfl) (wR 2 315 ?_))
    exact fI
    ) ?_
   refine CO.lay (tl 156 [(2, .sl false false ([].map (eSN false))), (3, V.b false)]) [] (LayOk.cons (j := 314) (eSN false) (eSN false) ([] : LN) (by kernel_rfl) (sh_eSN _) lO) (by kernel_rfl) (by kernel_rfl) (by kernel_rfl) (CO.ret ?_)
   cases h1915
   exact eG [] (.inr rfl) (RetV.two rfl (oT (t := 2) (r := .sl false false ([].map (eSN false)))) (oT (t := 3) (r := V.b false)))
  refine CO.skip (bB h1915 fun x1426 hx1964 h1915 => (CO.w mix (wR 4 314 (W.appO Dk eNI (a := 101) (c := 314) (el := 3) (sz := 1) 8 hx1964 rfl 315 (by kernel_rfl) (wR 2 316 ?_)))))
  exact wK hk1768 (a0, y865, x1426, y867) h1915 [(100, 100), (315, 101), (102, 102)] [0, 4, 5]
 refine CO.exit (CO.seq' (CO.block' (CO.loopJ (fun (⟨y866, y867⟩ : ((List Int) × (List LN))) => ⟨tl 156 [(4, .loc 100 0)], [(100, .cells 51 [.own 101, .own 102]), (101, vX 3 1 eNI y866), (102, .vec false 24 1 (y867.map (encL false (eSN false))))]⟩) (fun n i => ms_Shunt_l5 N (ms_Shunt_l1 N n1) n i = some r) (n0 := N) (i0 := (y866, y867)) (wS [(100, 100), (101, 101), (102, 102)] [4]) h1567 (fun i h => by simp [ms_Shunt_l5] at h) ?_)))
 rintro n5 ⟨y866, y867⟩ h1979 ih1980
 rw [ms_Shunt_l5] at h1979
 refine CO.seq' (CO.sw mix (wR 2 314 (wN eNI y866 [101] (wR 1 314 (wF ?_)))))
 refine cI h1979 (fun _ h1979 => ?_) (fun _ h1979 => ?_)
 ·refine CO.skip (CO.block' (bB h1979 fun r1438 hx1984 h1979 => (CO.w mix (wR 1 314 (wC (ms_l37Join_ok N y866 y867 hx1984) cok22 [(101, 0), (102, 1)] [(100, 314), (101, 315)] [314, 315] (wR 1 316 ?_))))))
  exact wK ih1980 (r1438.ops, r1438.trees) h1979 [(100, 100), (314, 101), (315, 102)] [4]
 refine CO.exit (CO.seq' (bB h1979 fun e1445 hx1992 h1979 => (bB h1979 fun r1446 hx1993 h1979 => (CO.sw mix (wR 2 314 (W.ixO Dk (encL false (eSN false)) hx1992 102 1 (by kernel_rfl) (W.ldO Dk (encL false (eSN false)) hx1992 24 102 0 (.sl false false (e1445.map (eSN false))) (by kernel_rfl) (by kernel_rfl) (w0 (ms_TreeOk_ok N e1445 hx1993) cok25 ?_))))))))
 refine wR 1 314 (wF ?_)
 refine cI h1979 (fun _ h1979 => ?_) (fun _ h1979 => ?_)
 ·refine CO.cutR (tl 156 [(2, .own 314), (3, V.b false)]) [(314, .vec false 54 5 ([].map (eSN false)))] mix (by
   refine W.layop Dk lO (by kernel_rfl) 314 { v := .own 314, R := [], new := [(314, .vec true 54 5 [])], N := [314] } (by kernel_rfl) (W.vecEq 314 (nn := true) (e := 54) (k := 5) (rows := []) (rows' := [].map (eSN false)) (by kernel_rfl) (by kernel_rfl) (wR 2 315 ?_))
   exact fI
   ) ?_
  refine CO.lay (tl 156 [(2, .sl false false ([].map (eSN false))), (3, V.b false)]) [] (LayOk.cons (j := 314) (eSN false) (eSN false) ([] : LN) (by kernel_rfl) (sh_eSN _) lO) (by kernel_rfl) (by kernel_rfl) (by kernel_rfl) (CO.ret ?_)
  cases h1979
  exact eG [] (.inr rfl) (RetV.two rfl (oT (t := 2) (r := .sl false false ([].map (eSN false)))) (oT (t := 3) (r := V.b false)))
 refine CO.skip (bB h1979 fun e1448 hx1996 h1979 => (CO.sw mix (wR 2 314 (W.ixO Dk (encL false (eSN false)) hx1996 102 1 (by kernel_rfl) (W.ldO Dk (encL false (eSN false)) hx1996 24 102 0 (.sl false false (e1448.map (eSN false))) (by kernel_rfl) (by kernel_rfl) (wR 2 314 (wF (CO.ret ?_))))))))
 have h1979 := sI h1979
 subst h1979
 exact eG [] (.inr rfl) (RetV.two rfl (oT (t := 2) (r := .sl false false (e1448.map (eSN false)))) (oT (t := 3) (r := V.b true)))

theorem m_stringslite_IndexByte_ok (a0 : LU) (a1 : Int) {r : Int} (h : m_stringslite_IndexByte a0 a1 = some r) :
    AC0 199 [V.s a0, .c (.int .u8 a1)] [] (V.i r) [] := by
 rw [m_stringslite_IndexByte] at h
 refine AC.enter Tryz.func199 rfl (cV 100 (CO.sw mix (wR 2 100 (W.ext (vs := [.string ⟨⟨a0⟩⟩, .int .u8 a1]) (ext203 _ _) (by kernel_rfl) (wR 1 100 (wF ?_))))))
 cases h
 exact e1 4 id

theorem m_stringslite_Index_ok (a0 : LU) {r : Int} (h : m_stringslite_Index a0 = some r) :
    AC0 194 [V.s a0, V.s [10]] [] (V.i r) [] := by
 rw [m_stringslite_Index] at h
 refine AC.enter Tryz.func194 rfl (cV 100 (cV 100 (CO.seq' (CO.block' (cV 100 ?_)))))
 refine cI h (fun _ h => ?_) (fun _ h => ?_)
 ·refine cV 100 ?_
  cases h
  exact e1 4 id
 refine cV 100 (CO.ifT (c := true) rfl (by kernel_rfl) (bB h fun b7 hx9 h => (bB h fun r8 hx10 h => (CO.sw mix (wR 2 100 (W.ixS Dk hx9 (by kernel_rfl) (w0 (m_stringslite_IndexByte_ok a0 ((b7).toNat : Int) hx10) cok199 (wR 1 100 ?_))))))))
 refine wF ?_
 cases h
 exact e1 4 id

theorem m_strings_Index_ok (a0 : LU) {r : Int} (h : m_strings_Index a0 = some r) :
    AC0 170 [V.s a0, V.s [10]] [] (V.i r) [] := by
 rw [m_strings_Index] at h
 refine AC.enter Tryz.func170 rfl (cV 100 (bB h fun r2 hx2 h => (cC 2 100 (m_stringslite_Index_ok a0 hx2) cok194 ?_)))
 cases h
 exact e1 4 id

theorem m_strings_Contains_ok (a0 : LU) {r : Bool} (h : m_strings_Contains a0 = some r) :
    AC0 125 [V.s a0, V.s [10]] [] (V.b r) [] := by
 rw [m_strings_Contains] at h
 refine AC.enter Tryz.func125 rfl (cV 100 (bB h fun r2 hx2 h => (cC 2 100 (m_strings_Index_ok a0 hx2) cok170 ?_)))
 cases h
 exact e1 4 id

theorem mi_within_ok (a0 : Int) (a1 : Int) (a2 : Int) {r : Bool} (h : mi_within a0 a1 a2 = some r) :
    AC0 103 [V.i a0, V.i a1, V.i a2] [] (V.b r) [] := by
 rw [mi_within] at h
 refine AC.enter Tryz.func103 rfl (cV 100 (bB h fun y1 hv2 h => ?_))
 refine CO.cutR (tl 15 [(6, V.b y1)]) [] mix (by
  refine wR 4 100 ?_
  refine wJ 10 hv2 (fun hv2 => ?_) (fun hv2 => ?_)
  ·refine wR 5 100 ?_
   cases hv2
   exact fS [] [6]
  refine wR 5 100 ?_
  cases hv2
  exact fS [] [6]
  ) ?_
 cases h
 exact e1 6 id

theorem mi_byteAt_ok (a0 : LU) (a1 : Int) {r : Int} (h : mi_byteAt a0 a1 = some r) :
    AC0 172 [V.s a0, V.i a1] [] (V.i r) [] := by
 rw [mi_byteAt] at h
 refine AC.enter Tryz.func172 rfl (cV 100 (CO.seq' (bB h fun r4 hx5 h => (cC 4 100 (mi_within_ok a1 0 (wr ((a0.length : Int) - 1)) hx5) cok103 ?_))))
 refine cI h (fun _ h => ?_) (fun _ h => ?_)
 ·refine cV 100 ?_
  cases h
  exact e1 4 id
 refine CO.skip (bB h fun b6 hx8 h => (CO.sw mix (wR 2 100 (W.ixS Dk hx8 (by kernel_rfl) (wR 2 100 (wF ?_))))))
 cases h
 exact e1 4 id

theorem mi_IsDigit_ok (a0 : Int) {r : Bool} (h : mi_IsDigit a0 = some r) :
    AC0 195 [V.i a0] [] (V.b r) [] := by
 rw [mi_IsDigit] at h
 refine AC.enter Tryz.func195 rfl (cV 100 (bB h fun y1 hv2 h => ?_))
 refine CO.cutR (tl 9 [(2, V.b y1)]) [] mix (by
  refine wR 3 100 ?_
  refine wJ 5 hv2 (fun hv2 => ?_) (fun hv2 => ?_)
  ·refine wR 4 100 ?_
   cases hv2
   exact fS [] [2]
  refine wR 4 100 ?_
  cases hv2
  exact fS [] [2]
  ) ?_
 cases h
 exact e1 2 id

theorem mi_digitsEnd_ok (N : Nat) (a0 : LU) (a1 : Int) {r : Int} (h : mi_digitsEnd N a0 a1 = some r) :
    AC0 171 [V.s a0, V.i a1] [] (V.i r) [] := by
 rw [mi_digitsEnd] at h
 refine AC.enter Tryz.func171 rfl (cV 100 (CO.seq' (CO.block' (CO.loopJ (fun (⟨a0, a1⟩ : (LU × Int)) => ⟨tl 12 [(0, V.s a0), (1, V.i a1)], []⟩) (fun n i => mi_digitsEnd_l1 N n i = some r) (n0 := N) (i0 := (a0, a1)) (wS [] [0, 1]) h (fun i h => by simp [mi_digitsEnd_l1] at h) ?_))))
 rintro n1 ⟨a0, a1⟩ h33 ih34
 rw [mi_digitsEnd_l1] at h33
 refine CO.seq' (bB h33 fun r33 hx42 h33 => (bB h33 fun r34 hx43 h33 => (CO.sw mix (wR 2 140 (w0 (mi_byteAt_ok a0 a1 hx42) cok172 (w0 (mi_IsDigit_ok r33 hx43) cok195 (wF ?_)))))))
 refine cI h33 (fun _ h33 => ?_) (fun _ h33 => ?_)
 ·refine CO.skip (CO.block' ?_)
  exact cK 140 ih34 (a0, (wr (a1 + 1))) h33 [] [0, 1]
 refine CO.exit (cV 140 ?_)
 cases h33
 exact e1 4 id

theorem mi_NumEnd_ok (N : Nat) (a0 : LU) (a1 : Int) {r : Int} (h : mi_NumEnd N a0 a1 = some r) :
    AC0 126 [V.s a0, V.i a1] [] (V.i r) [] := by
 rw [mi_NumEnd] at h
 refine AC.enter Tryz.func126 rfl (cV 100 (CO.seq' (bB h fun r4 hx5 h => (cC 4 100 (mi_within_ok a1 0 (wr ((a0.length : Int) - 1)) hx5) cok103 ?_))))
 refine cI h (fun _ h => ?_) (fun _ h => ?_)
 ·refine cV 100 ?_
  cases h
  exact e1 4 id
 refine CO.skip (bB h fun r6 hx8 h => (cC 2 100 (mi_digitsEnd_ok N a0 a1 hx8) cok171 (cV 100 ?_)))
 refine CO.join (fun (⟨a0, y11, y12⟩ : (LU × Int × Int)) => ⟨tl 71 [(0, V.s a0), (5, V.i y11), (6, V.i y12)], []⟩) (fun i => mi_NumEnd_k1 N i = some r) ?_ ?_
 · rintro ⟨a0, y11, y12⟩ h14
   rw [mi_NumEnd_k1] at h14
   refine CO.seq' (cV 100 ?_)
   refine cI h14 (fun _ h14 => ?_) (fun _ h14 => ?_)
   ·refine cV 100 ?_
    cases h14
    exact e1 4 id
   refine CO.skip ?_
   refine CO.join (fun (y11 : Int) => ⟨tl 71 [(5, V.i y11)], []⟩) (fun i => mi_NumEnd_k2 N i = some r) ?_ ?_
   · rintro y11 h40
     rw [mi_NumEnd_k2] at h40
     refine cV 100 ?_
     cases h40
     exact e1 4 id
   intro hk41
   refine bB h14 fun r26 hx43 h14 => (cC 2 100 (mi_byteAt_ok a0 y11 hx43) cok172 (bB h14 fun y27 hv45 h14 => ?_))
   refine CO.cutR (tl 71 [(0, V.s a0), (5, V.i y11), (49, V.b y27)]) [] mix (by
    refine wR 3 100 ?_
    refine wJ 46 hv45 (fun hv45 => ?_) (fun hv45 => ?_)
    ·refine wR 3 100 ?_
     cases hv45
     exact fS [] [0, 5, 49]
    refine wR 3 100 ?_
    cases hv45
    exact fS [] [0, 5, 49]
    ) ?_
   refine cI h14 (fun _ h14 => ?_) (fun _ h14 => ?_)
   ·refine cV 100 ?_
    refine CO.join (fun (⟨a0, y11, y31⟩ : (LU × Int × Int)) => ⟨tl 71 [(0, V.s a0), (5, V.i y11), (9, V.i y31)], []⟩) (fun i => mi_NumEnd_k3 N i = some r) ?_ ?_
    · rintro ⟨a0, y11, y31⟩ h54
      rw [mi_NumEnd_k3] at h54
      refine bB h54 fun r33 hx56 h54 => (cC 2 100 (mi_digitsEnd_ok N a0 y31 hx56) cok171 (cV 100 ?_))
      refine cI h54 (fun _ h54 => ?_) (fun _ h54 => ?_)
      ·refine cV 100 ?_
       cases h54
       exact e1 4 id
      exact sK hk41 y11 h54 [] [5]
    intro hk58
    refine bB h14 fun r35 hx60 h14 => (cC 2 100 (mi_byteAt_ok a0 (wr (y11 + 1)) hx60) cok172 (bB h14 fun y36 hv62 h14 => ?_))
    refine CO.cutR (tl 71 [(0, V.s a0), (5, V.i y11), (9, V.i (wr (y11 + 1))), (60, V.b y36)]) [] mix (by
     refine wR 3 100 ?_
     refine wJ 57 hv62 (fun hv62 => ?_) (fun hv62 => ?_)
     ·refine wR 3 100 ?_
      cases hv62
      exact fS [] [0, 5, 9, 60]
     refine wR 3 100 ?_
     cases hv62
     exact fS [] [0, 5, 9, 60]
     ) ?_
    refine cI h14 (fun _ h14 => ?_) (fun _ h14 => ?_)
    ·exact cK 100 hk58 (a0, y11, (wr ((wr (y11 + 1)) + 1))) h14 [] [0, 5, 9]
    exact sK hk58 (a0, y11, (wr (y11 + 1))) h14 [] [0, 5, 9]
   exact sK hk41 y11 h14 [] [5]
 intro hk65
 refine bB h fun r38 hx67 h => (cC 2 100 (mi_byteAt_ok a0 r6 hx67) cok172 ?_)
 refine cI h (fun _ h => ?_) (fun _ h => ?_)
 ·refine bB h fun r40 hx70 h => (cC 3 100 (mi_digitsEnd_ok N a0 (wr (r6 + 1)) hx70) cok171 (cV 100 ?_))
  exact cK 100 hk65 (a0, r40, (wr ((wr (r6 - a1)) + (wr ((wr (r40 - r6)) - 1))))) h [] [0, 5, 6]
 exact sK hk65 (a0, r6, (wr (r6 - a1))) h [] [0, 5, 6]

theorem mi_quotedEnd_ok (N : Nat) (a0 : LU) (a1 : Int) (a2 : Int) {r : Int} (h : mi_quotedEnd N a0 a1 a2 = some r) :
    AC0 173 [V.s a0, V.i a1, V.i a2] [] (V.i r) [] := by
 rw [mi_quotedEnd] at h
 refine AC.enter Tryz.func173 rfl (cV 100 (CO.seq' (bB h fun r4 hx5 h => (cC 2 100 (mi_byteAt_ok a0 a1 hx5) cok172 ?_))))
 refine cI h (fun _ h => ?_) (fun _ h => ?_)
 ·refine cV 100 ?_
  cases h
  exact e1 6 id
 refine CO.skip (CO.seq' (cV 100 (CO.block' (CO.loopJ (fun (⟨a0, a2, y91⟩ : (LU × Int × Int)) => ⟨tl 50 [(0, V.s a0), (2, V.i a2), (7, V.i y91)], []⟩) (fun n i => mi_quotedEnd_l1 N n i = some r) (n0 := N) (i0 := (a0, a2, (wr (a1 + 1)))) (wS [] [0, 2, 7]) h (fun i h => by simp [mi_quotedEnd_l1] at h) ?_))))
 rintro n1 ⟨a0, a2, y91⟩ h189 ih190
 rw [mi_quotedEnd_l1] at h189
 refine CO.seq' (bB h189 fun y118 hv199 h189 => ?_)
 refine CO.cutR (tl 50 [(0, V.s a0), (2, V.i a2), (7, V.i y91), (24, V.b y118)]) [] mix (by
  refine wR 5 160 ?_
  refine wJ 19 hv199 (fun hv199 => ?_) (fun hv199 => ?_)
  ·refine wR 2 160 (bB hv199 fun b119 hx201 hv199 => (W.ixS Dk hx201 (by kernel_rfl) (wR 2 160 ?_)))
   cases hv199
   exact fS [] [0, 2, 7, 24]
  refine wR 5 160 ?_
  cases hv199
  exact fS [] [0, 2, 7, 24]
  ) ?_
 refine cI h189 (fun _ h189 => ?_) (fun _ h189 => ?_)
 ·refine CO.skip ?_
  refine CO.join (fun (⟨a0, a2, y127⟩ : (LU × Int × Int)) => ⟨tl 50 [(0, V.s a0), (2, V.i a2), (7, V.i y127)], []⟩) (fun i => mi_quotedEnd_k2 N (mi_quotedEnd_l1 N n1) i = some r) ?_ ?_
  · rintro ⟨a0, a2, y127⟩ h214
    rw [mi_quotedEnd_k2] at h214
    exact cK 160 ih190 (a0, a2, (wr (y127 + 1))) h214 [] [0, 2, 7]
  intro hk215
  refine CO.block' (CO.block' (bB h189 fun b129 hx217 h189 => (CO.sw mix (wR 2 160 (W.ixS Dk hx217 (by kernel_rfl) (wR 4 160 (wF ?_)))))))
  refine cI h189 (fun _ h189 => ?_) (fun _ h189 => ?_)
  ·refine cV 160 ?_
   cases h189
   exact e1 6 id
  refine bB h189 fun y132 hv222 h189 => ?_
  refine CO.cutR (tl 50 [(0, V.s a0), (2, V.i a2), (7, V.i y91), (36, V.b y132)]) [] mix (by
   refine wR 2 160 (bB hv222 fun b133 hx223 hv222 => (W.ixS Dk hx223 (by kernel_rfl) (wR 2 160 ?_)))
   refine wJ 41 hv222 (fun hv222 => ?_) (fun hv222 => ?_)
   ·refine wR 3 160 (bB hv222 fun r134 hx225 hv222 => (w0 (mi_byteAt_ok a0 (wr (y91 + 1)) hx225) cok172 (wR 3 160 ?_)))
    cases hv222
    exact fS [] [0, 2, 7, 36]
   refine wR 7 160 ?_
   cases hv222
   exact fS [] [0, 2, 7, 36]
   ) ?_
  refine cI h189 (fun _ h189 => ?_) (fun _ h189 => ?_)
  ·exact cK 160 hk215 (a0, a2, (wr (y91 + 1))) h189 [] [0, 2, 7]
  exact sK hk215 (a0, a2, y91) h189 [] [0, 2, 7]
 refine CO.exit (cV 160 ?_)
 cases h189
 exact e1 6 id

theorem mi_StrEnd_ok (N : Nat) (a0 : LU) (a1 : Int) {r : Int} (h : mi_StrEnd N a0 a1 = some r) :
    AC0 127 [V.s a0, V.i a1] [] (V.i r) [] := by
 rw [mi_StrEnd] at h
 refine AC.enter Tryz.func127 rfl (cV 100 (bB h fun r2 hx2 h => (cC 2 100 (mi_quotedEnd_ok N a0 a1 34 hx2) cok173 ?_)))
 cases h
 exact e1 4 id

theorem mi_EreEnd_ok (N : Nat) (a0 : LU) (a1 : Int) {r : Int} (h : mi_EreEnd N a0 a1 = some r) :
    AC0 128 [V.s a0, V.i a1] [] (V.i r) [] := by
 rw [mi_EreEnd] at h
 refine AC.enter Tryz.func128 rfl (cV 100 (bB h fun r2 hx2 h => (cC 2 100 (mi_quotedEnd_ok N a0 a1 47 hx2) cok173 (CO.seq' (cV 100 ?_)))))
 refine cI h (fun _ h => ?_) (fun _ h => ?_)
 ·refine cV 100 ?_
  cases h
  exact e1 4 id
 refine CO.skip (cV 100 ?_)
 cases h
 exact e1 4 id

theorem mi_IsLetter_ok (a0 : Int) {r : Bool} (h : mi_IsLetter a0 = some r) :
    AC0 197 [V.i a0] [] (V.b r) [] := by
 rw [mi_IsLetter] at h
 refine AC.enter Tryz.func197 rfl (cV 100 (bB h fun y1 hv7 h => ?_))
 refine CO.cutR (tl 21 [(2, V.b y1)]) [] mix (by
  refine wR 3 100 ?_
  refine wJ 5 hv7 (fun hv7 => ?_) (fun hv7 => ?_)
  ·refine wR 4 100 ?_
   refine wJ 9 hv7 (fun hv7 => ?_) (fun hv7 => ?_)
   ·refine wR 12 100 ?_
    cases hv7
    exact fS [] [2]
   refine wR 3 100 ?_
   refine wJ 12 hv7 (fun hv7 => ?_) (fun hv7 => ?_)
   ·refine wR 5 100 ?_
    refine wJ 17 hv7 (fun hv7 => ?_) (fun hv7 => ?_)
    ·refine wR 4 100 ?_
     cases hv7
     exact fS [] [2]
    refine wR 4 100 ?_
    cases hv7
    exact fS [] [2]
   refine wR 9 100 ?_
   cases hv7
   exact fS [] [2]
  refine wR 7 100 ?_
  refine wJ 12 hv7 (fun hv7 => ?_) (fun hv7 => ?_)
  ·refine wR 5 100 ?_
   refine wJ 17 hv7 (fun hv7 => ?_) (fun hv7 => ?_)
   ·refine wR 4 100 ?_
    cases hv7
    exact fS [] [2]
   refine wR 4 100 ?_
   cases hv7
   exact fS [] [2]
  refine wR 9 100 ?_
  cases hv7
  exact fS [] [2]
  ) ?_
 cases h
 exact e1 2 id

theorem mi_IsWordByte_ok (a0 : Int) {r : Bool} (h : mi_IsWordByte a0 = some r) :
    AC0 196 [V.i a0] [] (V.b r) [] := by
 rw [mi_IsWordByte] at h
 refine AC.enter Tryz.func196 rfl (cV 100 (bB h fun y3 hv4 h => ?_))
 refine CO.cutR (tl 9 [(2, V.b y3)]) [] mix (by
  refine wR 1 100 (bB hv4 fun r4 hx5 hv4 => (w0 (mi_IsLetter_ok a0 hx5) cok197 (wR 1 100 ?_)))
  refine wJ 5 hv4 (fun hv4 => ?_) (fun hv4 => ?_)
  ·refine wR 4 100 ?_
   cases hv4
   exact fS [] [2]
  refine wR 1 100 (bB hv4 fun r5 hx7 hv4 => (w0 (mi_IsDigit_ok a0 hx7) cok195 (wR 2 100 ?_)))
  cases hv4
  exact fS [] [2]
  ) ?_
 cases h
 exact e1 2 id

theorem mi_NameShape_ok (N : Nat) (a0 : LU) {r : Bool} (h : mi_NameShape N a0 = some r) :
    AC0 174 [V.s a0] [] (V.b r) [] := by
 rw [mi_NameShape] at h
 refine AC.enter Tryz.func174 rfl (cV 100 (CO.seq' (cV 100 (CO.block' (CO.loopJ (fun (⟨a0, y35⟩ : (LU × Int)) => ⟨tl 25 [(0, V.s a0), (5, V.i (a0.length : Int)), (6, V.i y35)], []⟩) (fun n i => mi_NameShape_l1 N n i = some r) (n0 := N) (i0 := (a0, 0)) (wS [] [0, 5, 6]) h (fun i h => by simp [mi_NameShape_l1] at h) ?_)))))
 rintro n1 ⟨a0, y35⟩ h63 ih64
 rw [mi_NameShape_l1] at h63
 refine cV 160 (CO.seq' ?_)
 refine cI h63 (fun _ h63 => ?_) (fun _ h63 => ?_)
 ·refine CO.skip (CO.seq' (CO.block' (cV 160 (bB h63 fun b51 hx74 h63 => (bB h63 fun r52 hx75 h63 => (CO.sw mix (wR 2 160 (W.ixS Dk hx74 (by kernel_rfl) ?_))))))))
  refine wR 1 160 (w0 (mi_IsWordByte_ok (wr ((b51).toNat : Int)) hx75) cok196 (wR 1 160 (wF ?_)))
  refine cI h63 (fun _ h63 => ?_) (fun _ h63 => ?_)
  ·refine cV 160 ?_
   cases h63
   exact e1 2 id
  refine CO.skip ?_
  exact cK 160 ih64 (a0, (wr (y35 + 1))) h63 [] [0, 5, 6]
 refine CO.exit (bB h63 fun y56 hv81 h63 => ?_)
 refine CO.cutR (tl 25 [(2, V.b y56)]) [] mix (by
  refine wR 2 160 (bB hv81 fun r57 hx82 hv81 => (w0 (mi_within_ok (a0.length : Int) 1 12 hx82) cok103 (wR 1 160 ?_)))
  refine wJ 19 hv81 (fun hv81 => ?_) (fun hv81 => ?_)
  ·refine wR 1 160 (bB hv81 fun b58 hx84 hv81 => (W.ixS Dk hx84 (by kernel_rfl) (wR 1 160 (bB hv81 fun r59 hx85 hv81 => (w0 (mi_IsLetter_ok (wr ((b58).toNat : Int)) hx85) cok197 (wR 2 160 ?_))))))
   cases hv81
   exact fS [] [2]
  refine wR 6 160 ?_
  cases hv81
  exact fS [] [2]
  ) ?_
 cases h63
 exact e1 2 id

theorem m_slices_Index_string_ok (N : Nat) (a0 : LLU) (a1 : LU) {r : Int} (h : m_slices_Index_string N a0 a1 = some r) :
    AC0 190 [sL eNS a0, V.s a1] [] (V.i r) [] := by
 rw [m_slices_Index_string] at h
 refine AC.enter Tryz.func190 rfl (cV 100 (CO.seq' (CO.sw mix (wR 1 100 (wN eNS a0 [] (wR 1 100 (wF (CO.block' ?_))))))))
 refine CO.loopJ (fun (⟨a0, a1, y19⟩ : (LLU × LU × Int)) => ⟨tl 19 [(0, sL eNS a0), (1, V.s a1), (7, V.i (a0.length : Int)), (8, V.i y19)], []⟩) (fun n i => m_slices_Index_string_l1 N n i = some r) (n0 := N) (i0 := (a0, a1, 0)) (wS [] [0, 1, 7, 8]) h (fun i h => by simp [m_slices_Index_string_l1] at h) ?_
 rintro n1 ⟨a0, a1, y19⟩ h43 ih44
 rw [m_slices_Index_string_l1] at h43
 refine cV 160 (CO.seq' ?_)
 refine cI h43 (fun _ h43 => ?_) (fun _ h43 => ?_)
 ·refine CO.skip (CO.seq' (CO.block' (cV 160 (bB h43 fun e28 hx51 h43 => (CO.sw mix (wR 3 160 (wX eNS hx51 1 (wR 2 160 ?_))))))))
  refine wF ?_
  refine cI h43 (fun _ h43 => ?_) (fun _ h43 => ?_)
  ·refine cV 160 ?_
   cases h43
   exact e1 4 id
  refine CO.skip ?_
  exact cK 160 ih44 (a0, a1, (wr (y19 + 1))) h43 [] [0, 1, 7, 8]
 refine CO.exit (cV 160 ?_)
 cases h43
 exact e1 4 id

theorem mi_KeywordOf_ok (N : Nat) (a0 : LU) {r : Int} (h : mi_KeywordOf N a0 = some r) :
    AC Tryz.prog (GS [1]) 175 [V.s a0] [] (V.i r) [] := by
 rw [mi_KeywordOf] at h
 refine AC.enter Tryz.func175 rfl (cV 100 (bB h fun r2 hx2 h => (CO.sw mix (W.cutG Dk V.s tab_keywords (by kernel_rfl) (wR 1 100 (w0 (AC.gs (m_slices_Index_string_ok N tab_keywords a0 hx2) (by decide)) cok190 (wR 1 100 (wF ?_))))))))
 refine CO.seq' (cV 100 ?_)
 refine cI h (fun _ h => ?_) (fun _ h => ?_)
 ·refine cV 100 ?_
  cases h
  exact e1 2 id
 refine CO.skip (cV 100 ?_)
 cases h
 exact e1 2 id

theorem m_slices_Contains_string_ok (N : Nat) (a0 : LLU) (a1 : LU) {r : Bool} (h : m_slices_Contains_string N a0 a1 = some r) :
    AC0 157 [sL eNS a0, V.s a1] [] (V.b r) [] := by
 rw [m_slices_Contains_string] at h
 refine AC.enter Tryz.func157 rfl (cV 100 (bB h fun r2 hx2 h => (cC 2 100 (m_slices_Index_string_ok N a0 a1 hx2) cok190 ?_)))
 cases h
 exact e1 4 id

theorem mi_IsBuiltin_ok (N : Nat) (a0 : LU) {r : Bool} (h : mi_IsBuiltin N a0 = some r) :
    AC Tryz.prog (GS [0]) 130 [V.s a0] [] (V.b r) [] := by
 rw [mi_IsBuiltin] at h
 refine AC.enter Tryz.func130 rfl (cV 100 (bB h fun r2 hx2 h => (CO.sw mix (W.cutG Dk V.s tab_builtins (by kernel_rfl) (wR 1 100 (w0 (AC.gs (m_slices_Contains_string_ok N tab_builtins a0 hx2) (by decide)) cok157 (wR 1 100 (wF ?_))))))))
 cases h
 exact e1 2 id

theorem mi_NameOk_ok (N : Nat) (a0 : LU) {r : Bool} (h : mi_NameOk N a0 = some r) :
    AC Tryz.prog (GS [0, 1]) 129 [V.s a0] [] (V.b r) [] := by
 rw [mi_NameOk] at h
 refine AC.enter Tryz.func129 rfl (cV 100 (bB h fun y4 hv6 h => ?_))
 refine CO.cutR (tl 15 [(2, V.b y4)]) [] mix (by
  refine wR 1 100 (bB hv6 fun r5 hx7 hv6 => (w0 (AC.gs (mi_NameShape_ok N a0 hx7) (by decide)) cok174 (wR 1 100 ?_)))
  refine wJ 5 hv6 (fun hv6 => ?_) (fun hv6 => ?_)
  ·refine wR 1 100 (bB hv6 fun r6 hx9 hv6 => (w0 (AC.gs (mi_KeywordOf_ok N a0 hx9) (by decide)) cok175 (wR 3 100 ?_)))
   refine wJ 10 hv6 (fun hv6 => ?_) (fun hv6 => ?_)
   ·refine wR 1 100 (bB hv6 fun r7 hx11 hv6 => (w0 (AC.gs (mi_IsBuiltin_ok N a0 hx11) (by decide)) cok130 (wR 3 100 ?_)))
    cases hv6
    exact fS [] [2]
   refine wR 5 100 ?_
   cases hv6
   exact fS [] [2]
  refine wR 10 100 ?_
  cases hv6
  exact fS [] [2]
  ) ?_
 cases h
 exact e1 2 id

theorem mi_isKeywordKind_ok (a0 : Int) {r : Bool} (h : mi_isKeywordKind a0 = some r) :
    AC0 176 [V.i a0] [] (V.b r) [] := by
 rw [mi_isKeywordKind] at h
 refine AC.enter Tryz.func176 rfl (cV 100 (bB h fun r2 hx2 h => (cC 1 100 (mi_within_ok a0 10 26 hx2) cok103 ?_)))
 cases h
 exact e1 2 id

theorem mi_isSignKind_ok (a0 : Int) {r : Bool} (h : mi_isSignKind a0 = some r) :
    AC0 177 [V.i a0] [] (V.b r) [] := by
 rw [mi_isSignKind] at h
 refine AC.enter Tryz.func177 rfl (cV 100 (bB h fun r2 hx2 h => (cC 1 100 (mi_within_ok a0 30 68 hx2) cok103 ?_)))
 cases h
 exact e1 2 id

end Go.Proofs.Tryz

/-
 The walks that show that the code computes the models, part 5.
-/
import Derived.Test.YtkfcajnnbhahoaaGreatDoorLgFW4
namespace Go.Proofs.Tryz
open Go.Av
set_option maxRecDepth 100000
set_option maxHeartbeats 8000000
set_option linter.unusedSimpArgs false
set_option linter.unusedVariables false

structure RecOk9 (R : Rec9) : Prop where
 ms_l27Lazy : ∀ (a0 : LN) (a1 : SNode) (a2 : List SBind) (r : (Int × Bool)), R.ms_l27Lazy a0 a1 a2 = some r → AC Tryz.prog (GS []) 204 [.sl false false (a0.map (eSN false)), .agg [V.i a1.Kind, V.i a1.Op, V.s a1.Text, V.s a1.Other, sL eNI a1.Kids], sL encSBind a2] [] (.tup [V.i r.1, V.b r.2]) []
 ms_l27Node : ∀ (a0 : LN) (a1 : SNode) (a2 : List SBind) (r : (Int × Bool)), R.ms_l27Node a0 a1 a2 = some r → AC Tryz.prog (GS []) 161 [.sl false false (a0.map (eSN false)), .agg [V.i a1.Kind, V.i a1.Op, V.s a1.Text, V.s a1.Other, sL eNI a1.Kids], sL encSBind a2] [] (.tup [V.i r.1, V.b r.2]) []
 ms_l27At : ∀ (a0 : LN) (a1 : Int) (a2 : List SBind) (r : (Int × Bool)), R.ms_l27At a0 a1 a2 = some r → AC Tryz.prog (GS []) 99 [.sl false false (a0.map (eSN false)), V.i a1, sL encSBind a2] [] (.tup [V.i r.1, V.b r.2]) []

theorem ms_l27Lazy_F_ok (N : Nat) (R : Rec9) (HR : RecOk9 R) (a0 : LN) (a1 : SNode) (a2 : List SBind) {r : (Int × Bool)} (h : ms_l27Lazy_F N R a0 a1 a2 = some r) :
    AC Tryz.prog (GS []) 204 [.sl false false (a0.map (eSN false)), .agg [V.i a1.Kind, V.i a1.Op, V.s a1.Text, V.s a1.Other, sL eNI a1.Kids], sL encSBind a2] [] (.tup [V.i r.1, V.b r.2]) [] := by
 rw [ms_l27Lazy_F] at h
 refine AC.enter Tryz.func204 rfl (cV 100 (bB h fun e3 hx3 h => (bB h fun r4 hx4 h => (CO.sw mix (wR 3 101 (wX eNI hx3 1 (wR 2 101 (w0 (HR.ms_l27At a0 e3 a2 _ hx4) cok99 ?_))))))))
 refine wR 5 101 (wF (CO.seq' (cV 101 ?_)))
 refine cI h (fun _ h => ?_) (fun _ h => ?_)
 ·refine cV 101 (CO.ret ?_)
  cases h
  exact eG [] (.inr rfl) (RetV.two rfl (oT (t := 6) (r := V.i 0)) (oT (t := 7) (r := V.b false)))
 refine CO.skip (CO.seq' (cV 101 ?_))
 refine cI h (fun _ h => ?_) (fun _ h => ?_)
 ·refine bB h fun r8 hx12 h => (cC 2 101 (ms_l27Bool_ok (r4.1 != 0) hx12) cok203 (CO.ret ?_))
  have h := sI h
  subst h
  exact eG [] (.inr rfl) (RetV.two rfl (oT (t := 6) (r := V.i r8)) (oT (t := 7) (r := V.b true)))
 refine CO.skip (bB h fun e11 hx15 h => (bB h fun r12 hx16 h => (CO.sw mix (wR 3 101 (wX eNI hx15 1 (wR 2 101 (w0 (HR.ms_l27At a0 e11 a2 _ hx16) cok99 (wR 5 101 ?_))))))))
 refine wF (bB h fun r14 hx18 h => (cC 2 101 (ms_l27Bool_ok (r12.1 != 0) hx18) cok203 (CO.ret ?_)))
 have h := sI h
 subst h
 exact eG [] (.inr rfl) (RetV.two rfl (oT (t := 6) (r := V.i r14)) (oT (t := 7) (r := V.b r12.2)))

theorem ms_l27Node_F_ok (N : Nat) (R : Rec9) (HR : RecOk9 R) (a0 : LN) (a1 : SNode) (a2 : List SBind) {r : (Int × Bool)} (h : ms_l27Node_F N R a0 a1 a2 = some r) :
    AC Tryz.prog (GS []) 161 [.sl false false (a0.map (eSN false)), .agg [V.i a1.Kind, V.i a1.Op, V.s a1.Text, V.s a1.Other, sL eNI a1.Kids], sL encSBind a2] [] (.tup [V.i r.1, V.b r.2]) [] := by
 rw [ms_l27Node_F] at h
 refine AC.enter Tryz.func161 rfl (cV 100 (CO.seq' (cV 101 (CO.block' (cV 101 ?_)))))
 refine cI h (fun _ h => ?_) (fun _ h => ?_)
 ·refine bB h fun r46 hx75 h => (cC 3 101 (ms_VarOf_ok N a2 a1.Text hx75) cok201 (CO.ret ?_))
  have h := sI h
  subst h
  exact eG [] (.inr rfl) (RetV.two rfl (oT (t := 6) (r := V.i r46)) (oT (t := 7) (r := V.b true)))
 refine cV 101 ?_
 refine cI h (fun _ h => ?_) (fun _ h => ?_)
 ·refine bB h fun r48 hx78 h => (cC 2 101 (ms_Numeral_ok N a1.Text hx78) cok202 (cV 101 (CO.ret ?_)))
  have h := sI h
  subst h
  exact eG [] (.inr rfl) (RetV.two rfl (oT (t := 6) (r := V.i r48.1)) (oT (t := 7) (r := V.b r48.2)))
 refine cV 101 ?_
 refine cI h (fun _ h => ?_) (fun _ h => ?_)
 ·refine bB h fun e51 hx82 h => (bB h fun r52 hx83 h => (CO.sw mix (wR 3 101 (wX eNI hx82 1 (wR 2 101 (w0 (HR.ms_l27At a0 e51 a2 _ hx83) cok99 (wR 5 101 (wF ?_))))))))
  refine CO.seq' (cV 101 ?_)
  refine cI h (fun _ h => ?_) (fun _ h => ?_)
  ·refine bB h fun y60 hv96 h => ?_
   refine CO.cutR (tl 157 [(6, V.i y60), (7, V.b r52.2)]) [] mix (by
    refine wR 3 101 ?_
    refine wJ 60 hv96 (fun hv96 => ?_) (fun hv96 => ?_)
    ·refine wR 2 101 (bB hv96 fun r61 hx98 hv96 => (w0 (ms_l27Bool_ok r52.2 hx98) cok203 (wR 3 101 ?_)))
     cases hv96
     exact fS [] [6, 7]
    refine wR 2 101 (bB hv96 fun r62 hx99 hv96 => (w0 (ms_l27Bool_ok false hx99) cok203 (wR 3 101 ?_)))
    cases hv96
    exact fS [] [6, 7]
    ) ?_
   refine CO.ret ?_
   have h := sI h
   subst h
   exact eG [] (.inr rfl) (RetV.two rfl (oT (t := 6) (r := V.i y60)) (oT (t := 7) (r := V.b r52.2)))
  refine CO.skip (CO.seq' (cV 101 ?_))
  refine cI h (fun _ h => ?_) (fun _ h => ?_)
  ·refine cV 101 (CO.ret ?_)
   have h := sI h
   subst h
   exact eG [] (.inr rfl) (RetV.two rfl (oT (t := 6) (r := V.i (wr (0 - r52.1)))) (oT (t := 7) (r := V.b r52.2)))
  refine CO.skip (cV 101 (CO.ret ?_))
  have h := sI h
  subst h
  exact eG [] (.inr rfl) (RetV.two rfl (oT (t := 6) (r := V.i r52.1)) (oT (t := 7) (r := V.b r52.2)))
 refine cV 101 ?_
 refine cI h (fun _ h => ?_) (fun _ h => ?_)
 ·refine bB h fun e65 hx105 h => (bB h fun r66 hx106 h => (CO.sw mix (wR 3 101 (wX eNI hx105 1 (wR 2 101 (w0 (HR.ms_l27At a0 e65 a2 _ hx106) cok99 (wR 5 101 (wF ?_))))))))
  refine cV 101 ?_
  refine CO.join (fun (⟨a0, a2, r66, a1, y67⟩ : (LN × (List SBind) × (Int × Bool) × SNode × Int)) => ⟨tl 157 [(0, .sl false false (a0.map (eSN false))), (2, sL encSBind a2), (4, .loc 100 0), (13, V.b r66.2), (14, V.i y67)], [(100, .cells 37 [V.i a1.Kind, V.i a1.Op, V.s a1.Text, V.s a1.Other, sL eNI a1.Kids])]⟩) (fun i => ms_l27Node_k1 N R i = some r) ?_ ?_
  · rintro ⟨a0, a2, r66, a1, y67⟩ h108
    rw [ms_l27Node_k1] at h108
    refine CO.seq' (cV 101 ?_)
    refine cI h108 (fun _ h108 => ?_) (fun _ h108 => ?_)
    ·refine cV 101 (CO.ret ?_)
     cases h108
     exact eG [] (.inr rfl) (RetV.two rfl (oT (t := 6) (r := V.i 0)) (oT (t := 7) (r := V.b false)))
    refine CO.skip (bB h108 fun e70 hx113 h108 => (bB h108 fun r71 hx114 h108 => (CO.sw mix (wR 4 101 (wX eNI hx113 1 (wR 2 101 (w0 (HR.ms_l27At a0 e70 a2 _ hx114) cok99 (wR 5 101 ?_))))))))
    refine wF (cV 101 (CO.ret ?_))
    have h108 := sI h108
    subst h108
    exact eG [] (.inr rfl) (RetV.two rfl (oT (t := 6) (r := V.i r71.1)) (oT (t := 7) (r := V.b r71.2)))
  intro hk115
  refine cV 101 ?_
  refine cI h (fun _ h => ?_) (fun _ h => ?_)
  ·exact cK 101 hk115 (a0, a2, r66, a1, 1) h [(100, 100)] [0, 2, 4, 13, 14]
  exact sK hk115 (a0, a2, r66, a1, 2) h [(100, 100)] [0, 2, 4, 13, 14]
 refine cV 101 ?_
 refine cI h (fun _ h => ?_) (fun _ h => ?_)
 ·refine CO.seq' (bB h fun y75 hv125 h => ?_)
  refine CO.cutR (tl 157 [(0, .sl false false (a0.map (eSN false))), (2, sL encSBind a2), (4, .loc 100 0), (111, V.b y75)]) [(100, .cells 37 [V.i a1.Kind, V.i a1.Op, V.s a1.Text, V.s a1.Other, sL eNI a1.Kids])] mix (by
   refine wR 4 101 ?_
   refine wJ 107 hv125 (fun hv125 => ?_) (fun hv125 => ?_)
   ·refine wR 4 101 ?_
    cases hv125
    exact fS [(100, 100)] [0, 2, 4, 111]
   refine wR 4 101 ?_
   cases hv125
   exact fS [(100, 100)] [0, 2, 4, 111]
   ) ?_
  refine cI h (fun _ h => ?_) (fun _ h => ?_)
  ·refine bB h fun r77 hx129 h => (cC 3 101 (HR.ms_l27Lazy a0 a1 a2 _ hx129) cok204 (cV 101 (CO.ret ?_)))
   have h := sI h
   subst h
   exact eG [] (.inr rfl) (RetV.two rfl (oT (t := 6) (r := V.i r77.1)) (oT (t := 7) (r := V.b r77.2)))
  refine CO.skip (bB h fun e80 hx132 h => (bB h fun r81 hx133 h => (CO.sw mix (wR 3 101 (wX eNI hx132 1 (wR 2 101 (w0 (HR.ms_l27At a0 e80 a2 _ hx133) cok99 (wR 5 101 ?_))))))))
  refine wF (bB h fun e84 hx136 h => (bB h fun r85 hx137 h => (CO.sw mix (wR 3 101 (wX eNI hx136 1 (wR 2 101 (w0 (HR.ms_l27At a0 e84 a2 _ hx137) cok99 (wR 5 101 ?_))))))))
  refine wF (bB h fun r87 hx139 h => (cC 4 101 (ms_l27Two_ok a1.Op r81.1 r85.1 hx139) cok205 (bB h fun y88 hv142 h => ?_)))
  refine CO.cutR (tl 157 [(6, V.i r87.1), (7, V.b y88)]) [] mix (by
   refine wR 3 101 ?_
   refine wJ 151 hv142 (fun hv142 => ?_) (fun hv142 => ?_)
   ·refine wR 3 101 ?_
    refine wJ 154 hv142 (fun hv142 => ?_) (fun hv142 => ?_)
    ·refine wR 4 101 ?_
     cases hv142
     exact fS [] [6, 7]
    refine wR 4 101 ?_
    cases hv142
    exact fS [] [6, 7]
   refine wR 7 101 ?_
   cases hv142
   exact fS [] [6, 7]
   ) ?_
  refine CO.ret ?_
  have h := sI h
  subst h
  exact eG [] (.inr rfl) (RetV.two rfl (oT (t := 6) (r := V.i r87.1)) (oT (t := 7) (r := V.b y88)))
 refine CO.skip (cV 101 (CO.ret ?_))
 cases h
 exact eG [] (.inr rfl) (RetV.two rfl (oT (t := 6) (r := V.i 0)) (oT (t := 7) (r := V.b false)))

theorem ms_l27At_F_ok (N : Nat) (R : Rec9) (HR : RecOk9 R) (a0 : LN) (a1 : Int) (a2 : List SBind) {r : (Int × Bool)} (h : ms_l27At_F N R a0 a1 a2 = some r) :
    AC Tryz.prog (GS []) 99 [.sl false false (a0.map (eSN false)), V.i a1, sL encSBind a2] [] (.tup [V.i r.1, V.b r.2]) [] := by
 rw [ms_l27At_F] at h
 refine AC.enter Tryz.func99 rfl (cV 100 (bB h fun e3 hx3 h => (bB h fun r4 hx4 h => (CO.sw mix (wR 3 100 (wX (eSN false) hx3 5 (wR 2 100 (w0 (HR.ms_l27Node a0 e3 a2 _ hx4) cok161 ?_))))))))
 refine wR 5 100 (wF (CO.seq' (bB h fun y9 hv13 h => ?_)))
 refine CO.cutR (tl 28 [(8, V.i r4.1), (26, V.b y9)]) [] mix (by
  refine wR 3 100 ?_
  refine wJ 22 hv13 (fun hv13 => ?_) (fun hv13 => ?_)
  ·refine wR 4 100 ?_
   cases hv13
   exact fS [] [8, 26]
  refine wR 1 100 (bB hv13 fun r10 hx15 hv13 => (w0 (ms_l1In_ok r4.1 (-1000000000) 1000000000 hx15) cok77 (wR 2 100 ?_)))
  cases hv13
  exact fS [] [8, 26]
  ) ?_
 refine cI h (fun _ h => ?_) (fun _ h => ?_)
 ·refine cV 100 (CO.ret ?_)
  cases h
  exact eG [] (.inr rfl) (RetV.two rfl (oT (t := 6) (r := V.i 0)) (oT (t := 7) (r := V.b false)))
 refine CO.skip (cV 100 (CO.ret ?_))
 have h := sI h
 subst h
 exact eG [] (.inr rfl) (RetV.two rfl (oT (t := 6) (r := V.i r4.1)) (oT (t := 7) (r := V.b true)))

theorem scc9_ok : ∀ N, RecOk9 (scc9 N)
 | 0 => ⟨fun _ _ _ _ h => (by cases h), fun _ _ _ _ h => (by cases h), fun _ _ _ _ h => (by cases h)⟩
 | N + 1 => ⟨fun a0 a1 a2 _ h => ms_l27Lazy_F_ok N (scc9 N) (scc9_ok N) a0 a1 a2 h, fun a0 a1 a2 _ h => ms_l27Node_F_ok N (scc9 N) (scc9_ok N) a0 a1 a2 h, fun a0 a1 a2 _ h => ms_l27At_F_ok N (scc9 N) (scc9_ok N) a0 a1 a2 h⟩

theorem ms_l27At_ok (N : Nat) (a0 : LN) (a1 : Int) (a2 : List SBind) {r : (Int × Bool)} (h : ms_l27At N a0 a1 a2 = some r) :
  AC Tryz.prog (GS []) 99 [.sl false false (a0.map (eSN false)), V.i a1, sL encSBind a2] [] (.tup [V.i r.1, V.b r.2]) [] :=
 (scc9_ok N).ms_l27At a0 a1 a2 r h

theorem ms_Eval_ok (N : Nat) (a0 : LN) (a1 : List SBind) {r : (Int × Bool)} (h : ms_Eval N a0 a1 = some r) :
    AC Tryz.prog (GS []) 33 [.sl false false (a0.map (eSN false)), sL encSBind a1] [] (.tup [V.i r.1, V.b r.2]) [] := by
 rw [ms_Eval] at h
 refine AC.enter Tryz.func33 rfl (cV 100 (CO.seq' (bB h fun r4 hx5 h => (cC 1 100 (ms_ExprOk_ok N a0 hx5) cok32 ?_))))
 refine cI h (fun _ h => ?_) (fun _ h => ?_)
 ·refine cV 100 (CO.ret ?_)
  cases h
  exact eG [] (.inr rfl) (RetV.two rfl (oT (t := 4) (r := V.i 0)) (oT (t := 5) (r := V.b false)))
 refine CO.skip (bB h fun r6 hx8 h => (CO.sw mix (wR 2 100 (wN (eSN false) a0 [] (wR 2 100 (w0 (ms_l27At_ok N a0 (wr ((a0.length : Int) - 1)) a1 hx8) cok99 (wR 5 100 (wF ?_))))))))
 refine cV 100 (CO.ret ?_)
 have h := sI h
 subst h
 exact eG [] (.inr rfl) (RetV.two rfl (oT (t := 4) (r := V.i r6.1)) (oT (t := 5) (r := V.b r6.2)))

theorem ms_l6Ints_ok (N : Nat) (a0 : List Int) (a1 : List Int) {r : Bool} (h : ms_l6Ints N a0 a1 = some r) :
    AC Tryz.prog (GS []) 60 [sL eNI a0, sL eNI a1] [] (V.b r) [] := by
 rw [ms_l6Ints] at h
 refine AC.enter Tryz.func60 rfl (cV 100 (CO.seq' (CO.sw mix (wR 1 100 (wN eNI a0 [] (wR 1 100 (wN eNI a1 [] (wR 1 100 ?_))))))))
 refine wF ?_
 refine cI h (fun _ h => ?_) (fun _ h => ?_)
 ·refine cV 100 ?_
  cases h
  exact e1 4 id
 refine CO.skip (CO.seq' (cV 100 (CO.block' (CO.loopJ (fun (⟨a0, a1, y35⟩ : ((List Int) × (List Int) × Int)) => ⟨tl 26 [(0, sL eNI a0), (1, sL eNI a1), (5, V.i y35)], []⟩) (fun n i => ms_l6Ints_l1 N n i = some r) (n0 := N) (i0 := (a0, a1, 0)) (wS [] [0, 1, 5]) h (fun i h => by simp [ms_l6Ints_l1] at h) ?_))))
 rintro n1 ⟨a0, a1, y35⟩ h65 ih66
 rw [ms_l6Ints_l1] at h65
 refine CO.seq' (CO.sw mix (wR 2 160 (wN eNI a0 [] (wR 1 160 (wF ?_)))))
 refine cI h65 (fun _ h65 => ?_) (fun _ h65 => ?_)
 ·refine CO.skip (CO.seq' (CO.block' (bB h65 fun e51 hx76 h65 => (bB h65 fun e52 hx77 h65 => (CO.sw mix (wR 2 160 (wX eNI hx76 1 (wR 3 160 ?_))))))))
  refine wX eNI hx77 1 (wR 2 160 (wF ?_))
  refine cI h65 (fun _ h65 => ?_) (fun _ h65 => ?_)
  ·refine cV 160 ?_
   cases h65
   exact e1 4 id
  refine CO.skip ?_
  exact cK 160 ih66 (a0, a1, (wr (y35 + 1))) h65 [] [0, 1, 5]
 refine CO.exit (cV 160 ?_)
 cases h65
 exact e1 4 id

theorem ms_SameTree_ok (N : Nat) (a0 : LN) (a1 : LN) {r : Bool} (h : ms_SameTree N a0 a1 = some r) :
    AC Tryz.prog (GS []) 14 [.sl false false (a0.map (eSN false)), .sl false false (a1.map (eSN false))] [] (V.b r) [] := by
 rw [ms_SameTree] at h
 refine AC.enter Tryz.func14 rfl (cV 100 (CO.seq' (CO.sw mix (wR 1 100 (wN (eSN false) a0 [] (wR 1 100 (wN (eSN false) a1 [] (wR 1 100 ?_))))))))
 refine wF ?_
 refine cI h (fun _ h => ?_) (fun _ h => ?_)
 ·refine cV 100 ?_
  cases h
  exact e1 4 id
 refine CO.skip (CO.seq' (cV 100 (CO.block' (CO.loopJ (fun (⟨a0, a1, y187⟩ : (LN × LN × Int)) => ⟨tl 81 [(0, .sl false false (a0.map (eSN false))), (1, .sl false false (a1.map (eSN false))), (5, V.i y187)], []⟩) (fun n i => ms_SameTree_l1 N n i = some r) (n0 := N) (i0 := (a0, a1, 0)) (wS [] [0, 1, 5]) h (fun i h => by simp [ms_SameTree_l1] at h) ?_))))
 rintro n1 ⟨a0, a1, y187⟩ h335 ih336
 rw [ms_SameTree_l1] at h335
 refine CO.seq' (CO.sw mix (wR 2 160 (wN (eSN false) a0 [] (wR 1 160 (wF ?_)))))
 refine cI h335 (fun _ h335 => ?_) (fun _ h335 => ?_)
 ·refine CO.skip (CO.seq' (CO.block' (bB h335 fun y269 hv386 h335 => ?_)))
  refine CO.cutR (tl 81 [(0, .sl false false (a0.map (eSN false))), (1, .sl false false (a1.map (eSN false))), (5, V.i y187), (80, V.b y269)]) [] mix (by
   refine wR 2 160 (bB hv386 fun e270 hx387 hv386 => (wX (eSN false) hx387 5 (wR 4 160 (bB hv386 fun e271 hx388 hv386 => (wX (eSN false) hx388 5 (wR 4 160 ?_))))))
   refine wJ 28 hv386 (fun hv386 => ?_) (fun hv386 => ?_)
   ·refine wR 52 160 ?_
    cases hv386
    exact fS [] [0, 1, 5, 80]
   refine wR 2 160 (bB hv386 fun e272 hx390 hv386 => (wX (eSN false) hx390 5 (wR 4 160 (bB hv386 fun e273 hx391 hv386 => (wX (eSN false) hx391 5 (wR 5 160 ?_))))))
   refine wJ 41 hv386 (fun hv386 => ?_) (fun hv386 => ?_)
   ·refine wR 39 160 ?_
    cases hv386
    exact fS [] [0, 1, 5, 80]
   refine wR 2 160 (bB hv386 fun e274 hx393 hv386 => (wX (eSN false) hx393 5 (wR 4 160 (bB hv386 fun e275 hx394 hv386 => (wX (eSN false) hx394 5 (wR 5 160 ?_))))))
   refine wJ 54 hv386 (fun hv386 => ?_) (fun hv386 => ?_)
   ·refine wR 26 160 ?_
    cases hv386
    exact fS [] [0, 1, 5, 80]
   refine wR 2 160 (bB hv386 fun e276 hx396 hv386 => (wX (eSN false) hx396 5 (wR 4 160 (bB hv386 fun e277 hx397 hv386 => (wX (eSN false) hx397 5 (wR 5 160 ?_))))))
   refine wJ 67 hv386 (fun hv386 => ?_) (fun hv386 => ?_)
   ·refine wR 13 160 ?_
    cases hv386
    exact fS [] [0, 1, 5, 80]
   refine wR 2 160 (bB hv386 fun e278 hx399 hv386 => (wX (eSN false) hx399 5 (wR 4 160 (bB hv386 fun e279 hx400 hv386 => (wX (eSN false) hx400 5 (wR 2 160 (bB hv386 fun r280 hx401 hv386 => (w0 (ms_l6Ints_ok N e278.Kids e279.Kids hx401) cok60 ?_))))))))
   refine wR 2 160 ?_
   cases hv386
   exact fS [] [0, 1, 5, 80]
   ) ?_
  refine cI h335 (fun _ h335 => ?_) (fun _ h335 => ?_)
  ·refine cV 160 ?_
   cases h335
   exact e1 4 id
  refine CO.skip ?_
  exact cK 160 ih336 (a0, a1, (wr (y187 + 1))) h335 [] [0, 1, 5]
 refine CO.exit (cV 160 ?_)
 cases h335
 exact e1 4 id

theorem mi_Nots_ok (N : Nat) (a0 : LN) {r : Int} (h : mi_Nots N a0 = some r) :
    AC Tryz.prog (GS []) 35 [.sl false false (a0.map (eSN false))] [] (V.i r) [] := by
 rw [mi_Nots] at h
 refine AC.enter Tryz.func35 rfl (cV 100 (cV 100 (CO.seq' (CO.sw mix (wR 1 100 (wN (eSN false) a0 [] (wR 1 100 (wF ?_))))))))
 refine CO.block' (CO.loopJ (fun (⟨a0, y33, y34⟩ : (LN × Int × Int)) => ⟨tl 24 [(3, V.i y33), (6, .sl false false (a0.map (eSN false))), (7, V.i (a0.length : Int)), (8, V.i y34)], []⟩) (fun n i => mi_Nots_l1 N n i = some r) (n0 := N) (i0 := (a0, 0, 0)) (wS [] [3, 6, 7, 8]) h (fun i h => by simp [mi_Nots_l1] at h) ?_)
 rintro n1 ⟨a0, y33, y34⟩ h83 ih84
 rw [mi_Nots_l1] at h83
 refine cV 162 (CO.seq' ?_)
 refine cI h83 (fun _ h83 => ?_) (fun _ h83 => ?_)
 ·refine CO.skip ?_
  refine CO.join (fun (⟨a0, y34, y47⟩ : (LN × Int × Int)) => ⟨tl 24 [(3, V.i y47), (6, .sl false false (a0.map (eSN false))), (7, V.i (a0.length : Int)), (8, V.i y34)], []⟩) (fun i => mi_Nots_k2 N (mi_Nots_l1 N n1) i = some r) ?_ ?_
  · rintro ⟨a0, y34, y47⟩ h93
    rw [mi_Nots_k2] at h93
    exact cK 163 ih84 (a0, y47, (wr (y34 + 1))) h93 [] [3, 6, 7, 8]
  intro hk94
  refine CO.block' (bB h83 fun e49 hx96 h83 => (CO.sw mix (wX (eSN false) hx96 5 (wR 3 162 (wF (bB h83 fun y50 hv98 h83 => ?_))))))
  refine CO.cutR (tl 24 [(3, V.i y33), (6, .sl false false (a0.map (eSN false))), (7, V.i (a0.length : Int)), (8, V.i y34), (19, V.b y50)]) [] mix (by
   refine wR 4 163 ?_
   refine wJ 15 hv98 (fun hv98 => ?_) (fun hv98 => ?_)
   ·refine wR 4 163 ?_
    cases hv98
    exact fS [] [3, 6, 7, 8, 19]
   refine wR 4 163 ?_
   cases hv98
   exact fS [] [3, 6, 7, 8, 19]
   ) ?_
  refine cI h83 (fun _ h83 => ?_) (fun _ h83 => ?_)
  ·exact cK 163 hk94 (a0, y34, (wr (y33 + 1))) h83 [] [3, 6, 7, 8]
  exact sK hk94 (a0, y34, y33) h83 [] [3, 6, 7, 8]
 refine CO.exit (cV 162 ?_)
 cases h83
 exact e1 2 id

theorem ms_Nots_ok (N : Nat) (a0 : LN) {r : Int} (h : ms_Nots N a0 = some r) :
    AC Tryz.prog (GS []) 36 [.sl false false (a0.map (eSN false))] [] (V.i r) [] := by
 rw [ms_Nots] at h
 refine AC.enter Tryz.func36 rfl (cV 100 (cV 100 (CO.seq' (cV 100 (CO.block' (CO.loopJ (fun (⟨a0, y49, y50⟩ : (LN × Int × Int)) => ⟨tl 28 [(0, .sl false false (a0.map (eSN false))), (3, V.i y49), (4, V.i y50)], []⟩) (fun n i => ms_Nots_l1 N n i = some r) (n0 := N) (i0 := (a0, 0, 0)) (wS [] [0, 3, 4]) h (fun i h => by simp [ms_Nots_l1] at h) ?_))))))
 rintro n1 ⟨a0, y49, y50⟩ h103 ih104
 rw [ms_Nots_l1] at h103
 refine CO.seq' (CO.sw mix (wR 2 160 (wN (eSN false) a0 [] (wR 1 160 (wF ?_)))))
 refine cI h103 (fun _ h103 => ?_) (fun _ h103 => ?_)
 ·refine CO.skip ?_
  refine CO.join (fun (⟨a0, y50, y69⟩ : (LN × Int × Int)) => ⟨tl 28 [(0, .sl false false (a0.map (eSN false))), (3, V.i y69), (4, V.i y50)], []⟩) (fun i => ms_Nots_k2 N (ms_Nots_l1 N n1) i = some r) ?_ ?_
  · rintro ⟨a0, y50, y69⟩ h115
    rw [ms_Nots_k2] at h115
    exact cK 160 ih104 (a0, y69, (wr (y50 + 1))) h115 [] [0, 3, 4]
  intro hk116
  refine CO.block' (bB h103 fun y72 hv120 h103 => ?_)
  refine CO.cutR (tl 28 [(0, .sl false false (a0.map (eSN false))), (3, V.i y49), (4, V.i y50), (24, V.b y72)]) [] mix (by
   refine wR 2 160 (bB hv120 fun e73 hx121 hv120 => (wX (eSN false) hx121 5 (wR 4 160 ?_)))
   refine wJ 17 hv120 (fun hv120 => ?_) (fun hv120 => ?_)
   ·refine wR 2 160 (bB hv120 fun e74 hx123 hv120 => (wX (eSN false) hx123 5 (wR 4 160 ?_)))
    cases hv120
    exact fS [] [0, 3, 4, 24]
   refine wR 7 160 ?_
   cases hv120
   exact fS [] [0, 3, 4, 24]
   ) ?_
  refine cI h103 (fun _ h103 => ?_) (fun _ h103 => ?_)
  ·exact cK 160 hk116 (a0, y50, (wr (y49 + 1))) h103 [] [0, 3, 4]
  exact sK hk116 (a0, y50, y49) h103 [] [0, 3, 4]
 refine CO.exit (cV 160 ?_)
 cases h103
 exact e1 2 id

theorem ml_FnLogic_ok (N : Nat) (a0 : LU) {r : Bool} (h : ml_FnLogic N a0 = some r) :
    AC Tryz.prog (GS [0, 1, 2]) 6 [sL byteRow a0] [] (V.b r) [] := by
 rw [ml_FnLogic] at h
 refine AC.enter Tryz.func6 rfl (cV 100 (CO.seq' (bB h fun r4 hx5 h => (cC 1 100 (AC.gs (ml_big_ok a0 hx5) (by decide)) cok9 ?_))))
 refine cI h (fun _ h => ?_) (fun _ h => ?_)
 ·refine cV 100 ?_
  cases h
  exact e1 2 id
 refine CO.skip (bB h fun r6 hx8 h => (cC 1 100 (AC.gs (ms_DrawPushNot_ok N a0 hx8) (by decide)) cok29 (bB h fun r8 hx10 h => (CO.sw mix (wR 1 100 (wC (mi_PushNot_ok N r6 hx10) cok30 [] [(100, 100)] [100] (wR 1 101 (wF ?_))))))))
 refine bB h fun r10 hx12 h => (CO.sw mix (wR 1 101 (wC (mi_Negate_ok N r6 hx12) cok31 [] [(100, 101)] [101] (wR 1 102 (wF (CO.seq' (bB h fun r19 hx24 h => (cC 1 102 (AC.gs (ms_ExprOk_ok N r6 hx24) (by decide)) cok32 ?_))))))))
 refine cI h (fun _ h => ?_) (fun _ h => ?_)
 ·refine bB h fun y22 hv29 h => ?_
  refine CO.cutR (tl 196 [(2, V.b y22)]) [] mix (by
   refine wR 1 102 (wN (eSN true) r10 [101] (wR 2 102 ?_))
   refine wJ 29 hv29 (fun hv29 => ?_) (fun hv29 => ?_)
   ·refine wR 1 102 (bB hv29 fun r23 hx31 hv29 => (W.lend (AC.gs (ms_TreeOk_ok N r8 hx31) (by decide)) cok13 [] [] (LayOk.cons (j := 100) (eSN true) (eSN false) r8 (by kernel_rfl) (sh_eSN _) lO) (.c _) .nil (by kernel_rfl) (by kernel_rfl) (wR 1 102 (bB hv29 fun r24 hx32 hv29 => (w0 (AC.gs (ms_TreeOk_ok N r6 hx32) (by decide)) cok13 (wR 3 102 ?_))))))
    cases hv29
    exact fS [] [2]
   refine wR 7 102 ?_
   cases hv29
   exact fS [] [2]
   ) ?_
  cases h
  exact e1 2 id
 refine CO.skip (bB h fun r28 hx36 h => (bB h fun r29 hx37 h => (bB h fun r30 hx38 h => (CO.sw mix (wR 1 102 (w0 (AC.gs (ml_at_ok a0 2 hx36) (by decide)) cok27 (wR 3 102 (w0 (AC.gs (ml_at_ok a0 0 hx37) (by decide)) cok27 ?_))))))))
 refine wR 3 102 (w0 (AC.gs (ml_at_ok a0 1 hx38) (by decide)) cok27 (wR 4 102 (wF (bB h fun r32 hx40 h => (CO.sw mix (wR 2 103 (W.lend (AC.gs (ms_Eval_ok N r6 [(⟨[110], (Int.tmod r28 3)⟩ : SBind), (⟨[120], (wr (r29 - 100))⟩ : SBind), (⟨[121], (Int.tmod r30 4)⟩ : SBind)] hx40) (by decide)) cok33 [] [] (LayOk.cons (j := 102) encSBind encSBind ([(⟨[110], (Int.tmod r28 3)⟩ : SBind), (⟨[120], (wr (r29 - 100))⟩ : SBind), (⟨[121], (Int.tmod r30 4)⟩ : SBind)] : List SBind) (by kernel_rfl) (fun _ => rfl) lO) (.tup _ (.cons (.c _) (.cons (.c _) .nil))) .nil (by kernel_rfl) (by kernel_rfl) (wR 5 103 ?_))))))))
 refine wF (bB h fun r34 hx42 h => (CO.sw mix (wR 2 103 (W.lend (AC.gs (ms_Eval_ok N r8 [(⟨[110], (Int.tmod r28 3)⟩ : SBind), (⟨[120], (wr (r29 - 100))⟩ : SBind), (⟨[121], (Int.tmod r30 4)⟩ : SBind)] hx42) (by decide)) cok33 [] [] (LayOk.cons (j := 100) (eSN true) (eSN false) r8 (by kernel_rfl) (sh_eSN _) (LayOk.cons (j := 102) encSBind encSBind ([(⟨[110], (Int.tmod r28 3)⟩ : SBind), (⟨[120], (wr (r29 - 100))⟩ : SBind), (⟨[121], (Int.tmod r30 4)⟩ : SBind)] : List SBind) (by kernel_rfl) (fun _ => rfl) lO)) (.tup _ (.cons (.c _) (.cons (.c _) .nil))) .nil (by kernel_rfl) (by kernel_rfl) (wR 5 103 (wF (CO.seq' (bB h fun y36 hv48 h => ?_))))))))
 refine CO.cutR (tl 196 [(3, .sl false false (r6.map (eSN false))), (4, .own 100), (5, .own 101), (6, .own 102), (7, V.i r32.1), (8, V.b r32.2), (68, V.b y36)]) [(100, .vec false 37 5 (r8.map (eSN true))), (101, .vec false 37 5 (r10.map (eSN true))), (102, .vec false 44 2 ([(⟨[110], (Int.tmod r28 3)⟩ : SBind), (⟨[120], (wr (r29 - 100))⟩ : SBind), (⟨[121], (Int.tmod r30 4)⟩ : SBind)].map encSBind))] mix (by
  refine wR 4 103 ?_
  refine wJ 64 hv48 (fun hv48 => ?_) (fun hv48 => ?_)
  ·refine wR 4 103 ?_
   cases hv48
   exact fS [(100, 100), (101, 101), (102, 102)] [3, 4, 5, 6, 7, 8, 68]
  refine wR 4 103 ?_
  cases hv48
  exact fS [(100, 100), (101, 101), (102, 102)] [3, 4, 5, 6, 7, 8, 68]
  ) ?_
 refine cI h (fun _ h => ?_) (fun _ h => ?_)
 ·refine cV 103 ?_
  cases h
  exact e1 2 id
 refine CO.skip (CO.seq' (cV 103 (CO.block' (CO.loopJ (fun (⟨r6, r8, r32, r10, r28, r29, r30, y415⟩ : (LN × LN × (Int × Bool) × LN × Int × Int × Int × Int)) => ⟨tl 196 [(3, .sl false false (r6.map (eSN false))), (4, .sl false false (r8.map (eSN false))), (5, .own 100), (6, .own 101), (7, V.i r32.1), (8, V.b r32.2), (11, V.i y415)], [(100, .vec false 37 5 (r10.map (eSN true))), (101, .vec false 44 2 ([(⟨[110], (Int.tmod r28 3)⟩ : SBind), (⟨[120], (wr (r29 - 100))⟩ : SBind), (⟨[121], (Int.tmod r30 4)⟩ : SBind)].map encSBind))]⟩) (fun n i => ml_FnLogic_l1 N n i = some r) (n0 := N) (i0 := (r6, r8, r32, r10, r28, r29, r30, 0)) ((Weak.lay (LayOk.cons (j := 100) (eSN true) (eSN false) r8 (by kernel_rfl) (sh_eSN _) lO) (by kernel_rfl)).trans (wS [(101, 100), (102, 101)] [3, 4, 5, 6, 7, 8, 11])) h (fun i h => by simp [ml_FnLogic_l1] at h) ?_))))
 rintro n1 ⟨r6, r8, r32, r10, r28, r29, r30, y415⟩ h851 ih852
 rw [ml_FnLogic_l1] at h851
 refine CO.seq' (bB h851 fun y501 hv861 h851 => ?_)
 refine CO.cutR (tl 196 [(3, .sl false false (r6.map (eSN false))), (4, .sl false false (r8.map (eSN false))), (5, .own 100), (6, .own 101), (7, V.i r32.1), (8, V.b r32.2), (11, V.i y415), (78, V.b y501)]) [(100, .vec false 37 5 (r10.map (eSN true))), (101, .vec false 44 2 ([(⟨[110], (Int.tmod r28 3)⟩ : SBind), (⟨[120], (wr (r29 - 100))⟩ : SBind), (⟨[121], (Int.tmod r30 4)⟩ : SBind)].map encSBind))] mix (by
  refine wR 2 165 (wN (eSN false) r8 [] (wR 2 165 ?_))
  refine wJ 73 hv861 (fun hv861 => ?_) (fun hv861 => ?_)
  ·refine wR 2 165 (bB hv861 fun r502 hx863 hv861 => (w0 (AC.gs (ms_SameTree_ok N r8 r6 hx863) (by decide)) cok14 (wR 2 165 ?_)))
   cases hv861
   exact fS [(100, 100), (101, 101)] [3, 4, 5, 6, 7, 8, 11, 78]
  refine wR 5 165 ?_
  cases hv861
  exact fS [(100, 100), (101, 101)] [3, 4, 5, 6, 7, 8, 11, 78]
  ) ?_
 refine cI h851 (fun _ h851 => ?_) (fun _ h851 => ?_)
 ·refine CO.skip ?_
  refine CO.join (fun (⟨r6, r8, r32, y415, r10, r28, r29, r30⟩ : (LN × LN × (Int × Bool) × Int × LN × Int × Int × Int)) => ⟨tl 196 [(3, .sl false false (r6.map (eSN false))), (4, .sl false false (r8.map (eSN false))), (5, .own 100), (6, .own 101), (7, V.i r32.1), (8, V.b r32.2), (11, V.i y415)], [(100, .vec false 37 5 (r10.map (eSN true))), (101, .vec false 44 2 ([(⟨[110], (Int.tmod r28 3)⟩ : SBind), (⟨[120], (wr (r29 - 100))⟩ : SBind), (⟨[121], (Int.tmod r30 4)⟩ : SBind)].map encSBind))]⟩) (fun i => ml_FnLogic_k2 N (ml_FnLogic_l1 N n1) i = some r) ?_ ?_
  · rintro ⟨r6, r8, r32, y415, r10, r28, r29, r30⟩ h929
    rw [ml_FnLogic_k2] at h929
    exact cK 166 ih852 (r6, r8, r32, r10, r28, r29, r30, (wr (y415 + 1))) h929 [(100, 100), (101, 101)] [3, 4, 5, 6, 7, 8, 11]
  intro hk930
  refine CO.block' (CO.seq' (bB h851 fun y562 hv966 h851 => ?_))
  refine CO.cutR (tl 196 [(3, .sl false false (r6.map (eSN false))), (4, .sl false false (r8.map (eSN false))), (5, .own 100), (6, .own 101), (7, V.i r32.1), (8, V.b r32.2), (11, V.i y415), (124, V.b y562)]) [(100, .vec false 37 5 (r10.map (eSN true))), (101, .vec false 44 2 ([(⟨[110], (Int.tmod r28 3)⟩ : SBind), (⟨[120], (wr (r29 - 100))⟩ : SBind), (⟨[121], (Int.tmod r30 4)⟩ : SBind)].map encSBind))] mix (by
   refine wR 2 165 (bB hv966 fun e563 hx967 hv966 => (wX (eSN false) hx967 5 (wR 4 165 ?_)))
   refine wJ 87 hv966 (fun hv966 => ?_) (fun hv966 => ?_)
   ·refine wR 37 165 ?_
    cases hv966
    exact fS [(100, 100), (101, 101)] [3, 4, 5, 6, 7, 8, 11, 124]
   refine wR 2 165 (bB hv966 fun e564 hx969 hv966 => (wX (eSN false) hx969 5 (wR 5 165 ?_)))
   refine wJ 95 hv966 (fun hv966 => ?_) (fun hv966 => ?_)
   ·refine wR 29 165 ?_
    cases hv966
    exact fS [(100, 100), (101, 101)] [3, 4, 5, 6, 7, 8, 11, 124]
   refine wR 2 165 (bB hv966 fun e565 hx971 hv966 => (wX (eSN false) hx971 5 (wR 2 165 (wN eNI e565.Kids [] (wR 3 165 ?_)))))
   refine wJ 104 hv966 (fun hv966 => ?_) (fun hv966 => ?_)
   ·refine wR 20 165 ?_
    cases hv966
    exact fS [(100, 100), (101, 101)] [3, 4, 5, 6, 7, 8, 11, 124]
   refine wR 2 165 (bB hv966 fun e566 hx973 hv966 => (wX (eSN false) hx973 5 (wR 2 165 (bB hv966 fun e567 hx974 hv966 => (wX eNI hx974 1 (wR 4 165 ?_))))))
   refine wJ 114 hv966 (fun hv966 => ?_) (fun hv966 => ?_)
   ·refine wR 10 165 ?_
    cases hv966
    exact fS [(100, 100), (101, 101)] [3, 4, 5, 6, 7, 8, 11, 124]
   refine wR 2 165 (bB hv966 fun e568 hx976 hv966 => (wX (eSN false) hx976 5 (wR 2 165 (bB hv966 fun e569 hx977 hv966 => (wX eNI hx977 1 (wR 4 165 ?_))))))
   cases hv966
   exact fS [(100, 100), (101, 101)] [3, 4, 5, 6, 7, 8, 11, 124]
   ) ?_
  refine cI h851 (fun _ h851 => ?_) (fun _ h851 => ?_)
  ·refine CO.exit ?_
   exact hk930 (r6, r8, r32, y415, r10, r28, r29, r30) h851 _ (wS [(100, 100), (101, 101)] [3, 4, 5, 6, 7, 8, 11])
  refine CO.skip (bB h851 fun e573 hx982 h851 => (bB h851 fun e574 hx983 h851 => (bB h851 fun e575 hx984 h851 => (CO.sw mix (wR 3 165 (wX (eSN false) hx982 5 (wR 2 165 (wX eNI hx983 1 ?_))))))))
  refine wR 1 165 (wX (eSN false) hx984 5 (wR 3 165 (wF (bB h851 fun y576 hv989 h851 => ?_))))
  refine CO.cutR (tl 196 [(3, .sl false false (r6.map (eSN false))), (4, .sl false false (r8.map (eSN false))), (5, .own 100), (6, .own 101), (7, V.i r32.1), (8, V.b r32.2), (11, V.i y415), (157, V.b y576)]) [(100, .vec false 37 5 (r10.map (eSN true))), (101, .vec false 44 2 ([(⟨[110], (Int.tmod r28 3)⟩ : SBind), (⟨[120], (wr (r29 - 100))⟩ : SBind), (⟨[121], (Int.tmod r30 4)⟩ : SBind)].map encSBind))] mix (by
   refine wR 4 166 ?_
   refine wJ 138 hv989 (fun hv989 => ?_) (fun hv989 => ?_)
   ·refine wR 4 166 ?_
    refine wJ 142 hv989 (fun hv989 => ?_) (fun hv989 => ?_)
    ·refine wR 15 166 ?_
     cases hv989
     exact fS [(100, 100), (101, 101)] [3, 4, 5, 6, 7, 8, 11, 157]
    refine wR 5 166 ?_
    refine wJ 147 hv989 (fun hv989 => ?_) (fun hv989 => ?_)
    ·refine wR 10 166 ?_
     cases hv989
     exact fS [(100, 100), (101, 101)] [3, 4, 5, 6, 7, 8, 11, 157]
    refine wR 5 166 ?_
    refine wJ 152 hv989 (fun hv989 => ?_) (fun hv989 => ?_)
    ·refine wR 5 166 ?_
     cases hv989
     exact fS [(100, 100), (101, 101)] [3, 4, 5, 6, 7, 8, 11, 157]
    refine wR 5 166 ?_
    cases hv989
    exact fS [(100, 100), (101, 101)] [3, 4, 5, 6, 7, 8, 11, 157]
   refine wR 19 166 ?_
   cases hv989
   exact fS [(100, 100), (101, 101)] [3, 4, 5, 6, 7, 8, 11, 157]
   ) ?_
  refine cI h851 (fun _ h851 => ?_) (fun _ h851 => ?_)
  ·refine cV 166 ?_
   cases h851
   exact e1 2 id
  exact sK hk930 (r6, r8, r32, y415, r10, r28, r29, r30) h851 [(100, 100), (101, 101)] [3, 4, 5, 6, 7, 8, 11]
 refine CO.exit (CO.seq' (CO.sw mix (wR 1 165 (wN (eSN true) r10 [100] (wR 1 165 (wF ?_))))))
 refine cI h851 (fun _ h851 => ?_) (fun _ h851 => ?_)
 ·refine bB h851 fun y581 hv1004 h851 => ?_
  refine CO.cutR (tl 196 [(2, V.b y581)]) [] mix (by
   refine wR 1 165 (bB hv1004 fun r582 hx1005 hv1004 => (w0 (AC.gs (ms_DepthOf_ok N r6 hx1005) (by decide)) cok34 (wR 2 165 ?_)))
   refine wJ 164 hv1004 (fun hv1004 => ?_) (fun hv1004 => ?_)
   ·refine wR 5 165 ?_
    cases hv1004
    exact fS [] [2]
   refine wR 1 165 (wN (eSN false) r6 [] (wR 3 165 ?_))
   cases hv1004
   exact fS [] [2]
   ) ?_
  cases h851
  exact e1 2 id
 refine CO.skip (bB h851 fun r584 hx1008 h851 => (CO.sw mix (wR 2 165 (W.lend (AC.gs (ms_Eval_ok N r10 [(⟨[110], (Int.tmod r28 3)⟩ : SBind), (⟨[120], (wr (r29 - 100))⟩ : SBind), (⟨[121], (Int.tmod r30 4)⟩ : SBind)] hx1008) (by decide)) cok33 [] [] (LayOk.cons (j := 100) (eSN true) (eSN false) r10 (by kernel_rfl) (sh_eSN _) (LayOk.cons (j := 101) encSBind encSBind ([(⟨[110], (Int.tmod r28 3)⟩ : SBind), (⟨[120], (wr (r29 - 100))⟩ : SBind), (⟨[121], (Int.tmod r30 4)⟩ : SBind)] : List SBind) (by kernel_rfl) (fun _ => rfl) lO)) (.tup _ (.cons (.c _) (.cons (.c _) .nil))) .nil (by kernel_rfl) (by kernel_rfl) (wR 5 165 (wF (bB h851 fun y589 hv1016 h851 => ?_)))))))
 refine CO.cutR (tl 196 [(2, V.b y589)]) [] mix (by
  refine wR 4 165 ?_
  refine wJ 178 hv1016 (fun hv1016 => ?_) (fun hv1016 => ?_)
  ·refine wR 3 165 ?_
   refine wJ 181 hv1016 (fun hv1016 => ?_) (fun hv1016 => ?_)
   ·refine wR 9 165 (bB hv1016 fun r590 hx1019 hv1016 => (w0 (AC.gs (mi_Nots_ok N r6 hx1019) (by decide)) cok35 (wR 1 165 (bB hv1016 fun r591 hx1020 hv1016 => (w0 (AC.gs (ms_Nots_ok N r6 hx1020) (by decide)) cok36 (wR 3 165 ?_))))))
    cases hv1016
    exact fS [] [2]
   refine wR 8 165 ?_
   refine wJ 189 hv1016 (fun hv1016 => ?_) (fun hv1016 => ?_)
   ·refine wR 1 165 (bB hv1016 fun r592 hx1022 hv1016 => (w0 (AC.gs (mi_Nots_ok N r6 hx1022) (by decide)) cok35 (wR 1 165 (bB hv1016 fun r593 hx1023 hv1016 => (w0 (AC.gs (ms_Nots_ok N r6 hx1023) (by decide)) cok36 (wR 3 165 ?_))))))
    cases hv1016
    exact fS [] [2]
   refine wR 7 165 ?_
   cases hv1016
   exact fS [] [2]
  refine wR 18 165 ?_
  cases hv1016
  exact fS [] [2]
  ) ?_
 cases h851
 exact e1 2 id

end Go.Proofs.Tryz

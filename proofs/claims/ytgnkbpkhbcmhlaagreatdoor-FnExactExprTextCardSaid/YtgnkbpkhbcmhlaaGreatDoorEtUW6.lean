/-
 The walks that show that the code computes the models, part 6.
-/
import Derived.Test.YtgnkbpkhbcmhlaaGreatDoorEtUW5
namespace Go.Proofs.Tryz
open Go.Av
set_option maxRecDepth 100000
set_option maxHeartbeats 8000000
set_option linter.unusedSimpArgs false
set_option linter.unusedVariables false

theorem mi_docNodeOk_ok (a0 : SDNode) {r : Bool} (h : mi_docNodeOk a0 = some r) :
    AC Tryz.prog (GS []) 102 [.agg [V.i a0.Kind, V.i a0.N, V.s a0.Text, sL eNI a0.Kids]] [] (V.b r) [] := by
 rw [mi_docNodeOk] at h
 refine AC.enter Tryz.func102 rfl (cV 100 (CO.seq' (bB h fun y2 hv15 h => ?_)))
 refine CO.cutR (tl 61 [(1, .loc 100 0), (20, V.b y2)]) [(100, .cells 62 [V.i a0.Kind, V.i a0.N, V.s a0.Text, sL eNI a0.Kids])] mix (by
  refine wR 4 101 ?_
  refine wJ 6 hv15 (fun hv15 => ?_) (fun hv15 => ?_)
  ·refine wR 5 101 ?_
   refine wJ 11 hv15 (fun hv15 => ?_) (fun hv15 => ?_)
   ·refine wR 9 101 ?_
    cases hv15
    exact fS [(100, 100)] [1, 20]
   refine wR 4 101 ?_
   refine wJ 15 hv15 (fun hv15 => ?_) (fun hv15 => ?_)
   ·refine wR 5 101 ?_
    cases hv15
    exact fS [(100, 100)] [1, 20]
   refine wR 5 101 ?_
   cases hv15
   exact fS [(100, 100)] [1, 20]
  refine wR 9 101 ?_
  refine wJ 15 hv15 (fun hv15 => ?_) (fun hv15 => ?_)
  ·refine wR 5 101 ?_
   cases hv15
   exact fS [(100, 100)] [1, 20]
  refine wR 5 101 ?_
  cases hv15
  exact fS [(100, 100)] [1, 20]
  ) ?_
 refine cI h (fun _ h => ?_) (fun _ h => ?_)
 ·refine cV 101 ?_
  cases h
  exact e1 2 id
 refine CO.skip (CO.seq' (cV 101 (CO.block' (cV 101 ?_))))
 refine cI h (fun _ h => ?_) (fun _ h => ?_)
 ·refine bB h fun y11 hv43 h => ?_
  refine CO.cutR (tl 61 [(2, V.b y11)]) [] mix (by
   refine wR 2 101 (bB hv43 fun r12 hx44 hv43 => (w0 (m_strings_Contains_ok a0.Text hx44) cok137 (wR 2 101 ?_)))
   refine wJ 29 hv43 (fun hv43 => ?_) (fun hv43 => ?_)
   ·refine wR 2 101 (wN eNI a0.Kids [] (wR 3 101 ?_))
    cases hv43
    exact fS [] [2]
   refine wR 6 101 ?_
   cases hv43
   exact fS [] [2]
   ) ?_
  cases h
  exact e1 2 id
 refine CO.join (fun (⟨a0, y13⟩ : (SDNode × Bool)) => ⟨tl 61 [(1, .loc 100 0), (22, V.i a0.Kind), (35, V.b y13)], [(100, .cells 62 [V.i a0.Kind, V.i a0.N, V.s a0.Text, sL eNI a0.Kids])]⟩) (fun i => mi_docNodeOk_k1 i = some r) ?_ ?_
 · rintro ⟨a0, y13⟩ h47
   rw [mi_docNodeOk_k1] at h47
   refine cI h47 (fun _ h47 => ?_) (fun _ h47 => ?_)
   ·refine CO.sw mix (wR 2 101 (wN eNI a0.Kids [] (wR 2 101 (wF ?_))))
    cases h47
    exact e1 2 id
   refine cV 101 ?_
   refine cI h47 (fun _ h47 => ?_) (fun _ h47 => ?_)
   ·refine bB h47 fun y15 hv52 h47 => ?_
    refine CO.cutR (tl 61 [(2, V.b y15)]) [] mix (by
     refine wR 2 101 (bB hv52 fun r16 hx53 hv52 => (w0 (mi_within_ok a0.N 0 40 hx53) cok41 (wR 1 101 ?_)))
     refine wJ 47 hv52 (fun hv52 => ?_) (fun hv52 => ?_)
     ·refine wR 2 101 (wN eNI a0.Kids [] (wR 3 101 ?_))
      cases hv52
      exact fS [] [2]
     refine wR 6 101 ?_
     cases hv52
     exact fS [] [2]
     ) ?_
    cases h47
    exact e1 2 id
   refine cV 101 ?_
   refine cI h47 (fun _ h47 => ?_) (fun _ h47 => ?_)
   ·refine CO.sw mix (wR 2 101 (wN eNI a0.Kids [] (wR 2 101 (wF ?_))))
    cases h47
    exact e1 2 id
   refine cV 101 ?_
   refine cI h47 (fun _ h47 => ?_) (fun _ h47 => ?_)
   ·refine cV 101 ?_
    cases h47
    exact e1 2 id
   refine CO.skip (cV 101 ?_)
   cases h47
   exact e1 2 id
 intro hk57
 refine cV 101 ?_
 refine cI h (fun _ h => ?_) (fun _ h => ?_)
 ·exact sK hk57 (a0, (a0.Kind == 2)) h [(100, 100)] [1, 22, 35]
 exact cK 101 hk57 (a0, (a0.Kind == 3)) h [(100, 100)] [1, 22, 35]

theorem mi_docStarts_ok (N : Nat) (a0 : LD) {r : ((List Int) × Bool)} (h : mi_docStarts N a0 = some r) :
    AC Tryz.prog (GS []) 103 [.sl false false (a0.map (encSDNode false))] [] (.tup [.own 100, V.b r.2]) [(100, vX 3 1 eNI r.1)] := by
 rw [mi_docStarts] at h
 refine AC.enter Tryz.func103 rfl (cV 100 (CO.seq' (bB h fun r4 hx5 h => (CO.sw mix (wR 1 100 (wN (encSDNode false) a0 [] (w0 (mi_within_ok (a0.length : Int) 1 4000 hx5) cok41 (wR 1 100 ?_))))))))
 refine wF ?_
 refine cI h (fun _ h => ?_) (fun _ h => ?_)
 ·refine cV 100 (CO.weak (Weak.nil 2 100 3 1 (by kernel_rfl) (by kernel_rfl)) (CO.ret ?_))
  cases h
  exact eG [(100, 100)] (.inr rfl) (RetV.two rfl (oT (t := 2) (r := .own 100)) (oT (t := 3) (r := V.b false)))
 refine CO.skip (bB h fun x6 hx8 h => (CO.sw mix (wR 1 100 (wN (encSDNode false) a0 [] (W.mk Dk eNI 8 hx8 100 3 1 [.int .i64 0] (by kernel_rfl) (by kernel_rfl) (wR 1 101 (wF (CO.seq' ?_))))))))
 refine CO.sw mix (wR 1 101 (wN (encSDNode false) a0 [] (wR 1 101 (wF (CO.block' (CO.loopJ (fun (⟨a0, y475, y476⟩ : (LD × Int × (List Int))) => ⟨tl 63 [(0, .sl false false (a0.map (encSDNode false))), (4, .own 100), (16, .sl false false (a0.map (encSDNode false))), (17, V.i (a0.length : Int)), (18, V.i y475)], [(100, vX 3 1 eNI y476)]⟩) (fun n i => mi_docStarts_l1 N n i = some r) (n0 := N) (i0 := (a0, 0, x6)) (wS [(100, 100)] [0, 4, 16, 17, 18]) h (fun i h => by simp [mi_docStarts_l1] at h) ?_))))))
 rintro n1 ⟨a0, y475, y476⟩ h1233 ih1234
 rw [mi_docStarts_l1] at h1233
 refine cV 243 (CO.seq' ?_)
 refine cI h1233 (fun _ h1233 => ?_) (fun _ h1233 => ?_)
 ·refine CO.skip (CO.seq' (CO.block' (bB h1233 fun e810 hx1428 h1233 => (CO.sw mix (wR 1 243 (wX (encSDNode false) hx1428 4 (wR 4 243 (wF ?_))))))))
  refine cV 244 (CO.seq' (CO.sw mix (wR 2 244 (wN eNI e810.Kids [] (wR 2 244 (wF (CO.block' (CO.loopJ (fun (⟨a0, y475, y476, e810, y879, y880⟩ : (LD × Int × (List Int) × SDNode × Int × Int)) => ⟨tl 63 [(0, .sl false false (a0.map (encSDNode false))), (4, .own 100), (5, V.i y475), (6, .loc 101 0), (7, V.i y879), (8, V.i y880), (16, .sl false false (a0.map (encSDNode false))), (17, V.i (a0.length : Int)), (18, V.i y475)], [(100, vX 3 1 eNI y476), (101, .cells 62 [V.i e810.Kind, V.i e810.N, V.s e810.Text, sL eNI e810.Kids])]⟩) (fun n i => mi_docStarts_l2 N (mi_docStarts_l1 N n1) n i = some r) (n0 := N) (i0 := (a0, y475, y476, e810, (wr (y475 - 1)), (wr ((e810.Kids.length : Int) - 1)))) (wS [(100, 100), (243, 101)] [0, 4, 5, 6, 7, 8, 16, 17, 18]) h1233 (fun i h => by simp [mi_docStarts_l2] at h) ?_))))))))
  rintro n2 ⟨a0, y475, y476, e810, y879, y880⟩ h1581 ih1582
  rw [mi_docStarts_l2] at h1581
  refine CO.seq' (cV 304 ?_)
  refine cI h1581 (fun _ h1581 => ?_) (fun _ h1581 => ?_)
  ·refine CO.skip (CO.seq' (CO.block' (CO.seq' (bB h1581 fun y911 hv1607 h1581 => ?_))))
   refine CO.cutR (tl 63 [(0, .sl false false (a0.map (encSDNode false))), (4, .own 100), (5, V.i y475), (6, .loc 101 0), (7, V.i y879), (8, V.i y880), (16, .sl false false (a0.map (encSDNode false))), (17, V.i (a0.length : Int)), (18, V.i y475), (43, V.b y911)]) [(100, vX 3 1 eNI y476), (101, .cells 62 [V.i e810.Kind, V.i e810.N, V.s e810.Text, sL eNI e810.Kids])] mix (by
    refine wR 3 304 ?_
    refine wJ 35 hv1607 (fun hv1607 => ?_) (fun hv1607 => ?_)
    ·refine wR 8 304 ?_
     cases hv1607
     exact fS [(100, 100), (101, 101)] [0, 4, 5, 6, 7, 8, 16, 17, 18, 43]
    refine wR 3 304 (bB hv1607 fun e912 hx1609 hv1607 => (wX eNI hx1609 1 (wR 4 304 ?_)))
    cases hv1607
    exact fS [(100, 100), (101, 101)] [0, 4, 5, 6, 7, 8, 16, 17, 18, 43]
    ) ?_
   refine cI h1581 (fun _ h1581 => ?_) (fun _ h1581 => ?_)
   ·refine cV 304 (CO.weak (Weak.nil 2 304 3 1 (by kernel_rfl) (by kernel_rfl)) (CO.ret ?_))
    cases h1581
    exact eG [(304, 100)] (.inr rfl) (RetV.two rfl (oT (t := 2) (r := .own 304)) (oT (t := 3) (r := V.b false)))
   refine CO.skip (bB h1581 fun e914 hx1612 h1581 => ?_)
   refine CO.endR (tl 63 [(0, .sl false false (a0.map (encSDNode false))), (4, .own 100), (5, V.i y475), (6, .loc 101 0), (7, V.i (wr (e914 - 1))), (8, V.i y880), (16, .sl false false (a0.map (encSDNode false))), (17, V.i (a0.length : Int)), (18, V.i y475)]) [(100, vX 3 1 eNI y476), (101, .cells 62 [V.i e810.Kind, V.i e810.N, V.s e810.Text, sL eNI e810.Kids])] mix (by
    refine wR 2 304 (W.ixO Dk eNI hx1612 100 1 (by kernel_rfl) (W.ldO Dk eNI hx1612 3 100 0 (V.i e914) (by kernel_rfl) (by kernel_rfl) (wR 2 304 ?_)))
    exact fI
    ) (fun st hw => ?_)
   refine CO.weak hw ?_
   exact cK 304 ih1582 (a0, y475, y476, e810, (wr (e914 - 1)), (wr (y880 - 1))) h1581 [(100, 100), (101, 101)] [0, 4, 5, 6, 7, 8, 16, 17, 18]
  refine CO.exit (bB h1581 fun e917 hx1615 h1581 => (bB h1581 fun x918 hu1616 h1581 => ?_))
  refine CO.endR (tl 63 [(0, .sl false false (a0.map (encSDNode false))), (4, .own 100), (16, .sl false false (a0.map (encSDNode false))), (17, V.i (a0.length : Int)), (18, V.i y475)]) [(100, vX 3 1 eNI x918)] mix (by
   refine wR 4 304 (W.ixO Dk eNI hx1615 100 1 (by kernel_rfl) (W.stO Dk eNI (x' := (wr (y879 + 1))) hx1615 hu1616 (j := 100) (nn := false) (ety := 3) (sz := 1) (b := 0) (ys := [V.i (wr (y879 + 1))]) (C := []) (R := []) (by kernel_rfl) (by kernel_rfl) ?_))
   exact fI
   ) (fun st hw => ?_)
  refine CO.weak hw ?_
  exact cK 304 ih1234 (a0, (wr (y475 + 1)), x918) h1581 [(100, 100)] [0, 4, 16, 17, 18]
 refine CO.exit (bB h1233 fun e920 hx1618 h1233 => (CO.sw mix (wR 3 243 (wN (encSDNode false) a0 [] (wR 1 243 (W.ixO Dk eNI hx1618 100 1 (by kernel_rfl) (W.ldO Dk eNI hx1618 3 100 0 (V.i e920) (by kernel_rfl) (by kernel_rfl) (wR 3 243 ?_))))))))
 refine wF (CO.ret ?_)
 have h1233 := sI h1233
 subst h1233
 exact eG [(100, 100)] (.inr rfl) (RetV.two rfl (oT (t := 2) (r := .own 100)) (oT (t := 3) (r := V.b (e920 == 0))))

theorem mi_DocOk_ok (N : Nat) (a0 : LD) {r : Bool} (h : mi_DocOk N a0 = some r) :
    AC Tryz.prog (GS []) 65 [.sl false false (a0.map (encSDNode false))] [] (V.b r) [] := by
 rw [mi_DocOk] at h
 refine AC.enter Tryz.func65 rfl (cV 100 (CO.seq' (CO.sw mix (wR 1 100 (wN (encSDNode false) a0 [] (wR 1 100 (wF (CO.block' ?_))))))))
 refine CO.loopJ (fun (⟨a0, y35⟩ : (LD × Int)) => ⟨tl 23 [(0, .sl false false (a0.map (encSDNode false))), (7, .sl false false (a0.map (encSDNode false))), (8, V.i (a0.length : Int)), (9, V.i y35)], []⟩) (fun n i => mi_DocOk_l1 N n i = some r) (n0 := N) (i0 := (a0, 0)) (wS [] [0, 7, 8, 9]) h (fun i h => by simp [mi_DocOk_l1] at h) ?_
 rintro n1 ⟨a0, y35⟩ h63 ih64
 rw [mi_DocOk_l1] at h63
 refine cV 162 (CO.seq' ?_)
 refine cI h63 (fun _ h63 => ?_) (fun _ h63 => ?_)
 ·refine CO.skip (CO.seq' (CO.block' (bB h63 fun e50 hx73 h63 => (CO.sw mix (wX (encSDNode false) hx73 4 (wR 3 162 (wF (bB h63 fun r52 hx75 h63 => ?_))))))))
  refine cC 1 163 (mi_docNodeOk_ok e50 hx75) cok102 ?_
  refine cI h63 (fun _ h63 => ?_) (fun _ h63 => ?_)
  ·refine cV 163 ?_
   cases h63
   exact e1 2 id
  refine CO.skip ?_
  exact cK 163 ih64 (a0, (wr (y35 + 1))) h63 [] [0, 7, 8, 9]
 refine CO.exit (bB h63 fun r54 hx78 h63 => (CO.sw mix (wR 1 162 (wC (mi_docStarts_ok N a0 hx78) cok103 [] [(100, 162)] [162] (wR 5 163 (wF (cV 163 ?_)))))))
 cases h63
 exact e1 2 id

theorem mi_GroupsIn_ok (N : Nat) (a0 : LD) {r : Int} (h : mi_GroupsIn N a0 = some r) :
    AC Tryz.prog (GS []) 138 [.sl false false (a0.map (encSDNode false))] [] (V.i r) [] := by
 rw [mi_GroupsIn] at h
 refine AC.enter Tryz.func138 rfl (cV 100 (cV 100 (CO.seq' (CO.sw mix (wR 1 100 (wN (encSDNode false) a0 [] (wR 1 100 (wF ?_))))))))
 refine CO.block' (CO.loopJ (fun (⟨a0, y25, y26⟩ : (LD × Int × Int)) => ⟨tl 19 [(3, V.i y25), (6, .sl false false (a0.map (encSDNode false))), (7, V.i (a0.length : Int)), (8, V.i y26)], []⟩) (fun n i => mi_GroupsIn_l1 N n i = some r) (n0 := N) (i0 := (a0, 0, 0)) (wS [] [3, 6, 7, 8]) h (fun i h => by simp [mi_GroupsIn_l1] at h) ?_)
 rintro n1 ⟨a0, y25, y26⟩ h53 ih54
 rw [mi_GroupsIn_l1] at h53
 refine cV 162 (CO.seq' ?_)
 refine cI h53 (fun _ h53 => ?_) (fun _ h53 => ?_)
 ·refine CO.skip ?_
  refine CO.join (fun (⟨a0, y26, y36⟩ : (LD × Int × Int)) => ⟨tl 19 [(3, V.i y36), (6, .sl false false (a0.map (encSDNode false))), (7, V.i (a0.length : Int)), (8, V.i y26)], []⟩) (fun i => mi_GroupsIn_k2 N (mi_GroupsIn_l1 N n1) i = some r) ?_ ?_
  · rintro ⟨a0, y26, y36⟩ h60
    rw [mi_GroupsIn_k2] at h60
    exact cK 163 ih54 (a0, y36, (wr (y26 + 1))) h60 [] [3, 6, 7, 8]
  intro hk61
  refine CO.block' (bB h53 fun e38 hx63 h53 => (CO.sw mix (wX (encSDNode false) hx63 4 (wR 3 162 (wF (cV 163 ?_))))))
  refine cI h53 (fun _ h53 => ?_) (fun _ h53 => ?_)
  ·exact cK 163 hk61 (a0, y26, (wr (y25 + 1))) h53 [] [3, 6, 7, 8]
  exact sK hk61 (a0, y26, y25) h53 [] [3, 6, 7, 8]
 refine CO.exit (cV 162 ?_)
 cases h53
 exact e1 2 id

structure RecOk8 (R : Rec8) : Prop where
 mi_docAt : ∀ (a0 : LD) (a1 : Int) (r : SDoc), R.mi_docAt a0 a1 = some r → AC Tryz.prog (GS []) 104 [.sl false false (a0.map (encSDNode false)), V.i a1] [] (.agg [V.i r.kind, V.i r.n, V.s r.text, sL encSDoc r.kids, V.i r.group]) []

theorem mi_docAt_F_ok (N : Nat) (R : Rec8) (HR : RecOk8 R) (a0 : LD) (a1 : Int) {r : SDoc} (h : mi_docAt_F N R a0 a1 = some r) :
    AC Tryz.prog (GS []) 104 [.sl false false (a0.map (encSDNode false)), V.i a1] [] (.agg [V.i r.kind, V.i r.n, V.s r.text, sL encSDoc r.kids, V.i r.group]) [] := by
 rw [mi_docAt_F] at h
 refine AC.enter Tryz.func104 rfl (cV 100 (bB h fun e2 hx2 h => (CO.sw mix (wR 2 101 (wX (encSDNode false) hx2 4 (wR 3 101 (wF (bB h fun l5 hx5 h => ?_))))))))
 refine bB h fun r6 hx6 h => (CO.sw mix (wR 8 102 (W.cutD Dk (encSDNode false) hx5 false 4 (fun _ => by first | rfl | kernel_rfl) (by kernel_rfl) (w0 (mi_GroupsIn_ok N l5 hx6) cok138 (wR 3 102 (wF (CO.seq' (CO.sw mix ?_))))))))
 refine wR 2 103 (wN eNI e2.Kids [] (wR 1 103 (wF (CO.block' (CO.loopJ (fun (⟨a0, e2, r6, y67, y68⟩ : (LD × SDNode × Int × Int × LO)) => ⟨tl 41 [(0, .sl false false (a0.map (encSDNode false))), (4, .loc 100 0), (6, .loc 101 0), (25, sL eNI e2.Kids), (26, V.i (e2.Kids.length : Int)), (27, V.i y67)], [(100, .cells 53 [V.i 0, V.i 0, V.s [], .c (.slice none 0 0), V.i 0]), (101, .cells 53 [V.i e2.Kind, V.i e2.N, V.s e2.Text, .own 102, V.i r6]), (102, vX 53 5 encSDoc y68)]⟩) (fun n i => mi_docAt_l1 N R n i = some r) (n0 := N) (i0 := (a0, e2, r6, 0, [])) ((Weak.nilCell 102 3 103 53 5 (ety := 53) (cs := [V.i e2.Kind, V.i e2.N, V.s e2.Text, .c (.slice none 0 0), V.i r6]) (by kernel_rfl) (by kernel_rfl) (by kernel_rfl)).trans (wS [(100, 100), (102, 101), (103, 102)] [0, 4, 6, 25, 26, 27])) h (fun i h => by simp [mi_docAt_l1] at h) ?_)))))
 rintro n1 ⟨a0, e2, r6, y67, y68⟩ h87 ih88
 rw [mi_docAt_l1] at h87
 refine cV 168 (CO.seq' ?_)
 refine cI h87 (fun _ h87 => ?_) (fun _ h87 => ?_)
 ·refine CO.skip (CO.seq' (CO.block' (bB h87 fun e90 hx98 h87 => (CO.sw mix (wX eNI hx98 1 (wR 2 168 (wF (bB h87 fun r93 hx101 h87 => ?_))))))))
  refine bB h87 fun x94 hx102 h87 => ?_
  refine CO.endR (tl 41 [(0, .sl false false (a0.map (encSDNode false))), (4, .loc 100 0), (6, .loc 101 0), (25, sL eNI e2.Kids), (26, V.i (e2.Kids.length : Int)), (27, V.i y67)]) [(101, .cells 53 [V.i e2.Kind, V.i e2.N, V.s e2.Text, .own 169, V.i r6]), (169, vX 53 5 encSDoc x94), (100, .cells 53 [V.i 0, V.i 0, V.s [], .c (.slice none 0 0), V.i 0])] mix (by
   refine wR 4 168 (w0 (HR.mi_docAt a0 e90 _ hx101) cok104 (W.layop Dk lO (by kernel_rfl) 168 { v := .own 168, R := [], new := [(168, .vec true 53 5 [[V.i r93.kind, V.i r93.n, V.s r93.text, sL encSDoc r93.kids, V.i r93.group]])], N := [168] } (by kernel_rfl) (W.vecEq 168 (nn := true) (e := 53) (k := 5) (rows := [[V.i r93.kind, V.i r93.n, V.s r93.text, sL encSDoc r93.kids, V.i r93.group]]) (rows' := [r93].map encSDoc) (by kernel_rfl) (by simp only [List.map_cons, List.map_nil, encSDoc_eq]) (W.appO Dk encSDoc (a := 102) (c := 168) (el := 53) (sz := 5) 64 hx102 rfl 169 (by kernel_rfl) (wR 2 170 ?_)))))
   exact fI
   ) (fun st hw => ?_)
  refine CO.weak hw ?_
  exact cK 170 ih88 (a0, e2, r6, (wr (y67 + 1)), x94) h87 [(100, 100), (101, 101), (169, 102)] [0, 4, 6, 25, 26, 27]
 refine CO.exit (cU 2 168 (tl 41 [(4, .loc 100 0)]) [(100, .cells 53 [V.i e2.Kind, V.i e2.N, V.s e2.Text, .own 102, V.i r6]), (102, vX 53 5 encSDoc y68)] (CO.lay (tl 41 [(4, .loc 100 0)]) [(100, .cells 53 [V.i e2.Kind, V.i e2.N, V.s e2.Text, sL encSDoc y68, V.i r6])] (LayOk.cons (j := 102) encSDoc encSDoc y68 (by kernel_rfl) (share_encSDoc) lO) (by kernel_rfl) (by kernel_rfl) (by kernel_rfl) (CO.ret ?_)))
 have h87 := sI h87
 subst h87
 exact eG [] (.inr rfl) (RetV.one rfl (OneR.cell Dk (r := .agg [V.i e2.Kind, V.i e2.N, V.s e2.Text, sL encSDoc y68, V.i r6]) (i := 100) (ety := 53) (cs := [V.i e2.Kind, V.i e2.N, V.s e2.Text, sL encSDoc y68, V.i r6]) (by kernel_rfl) (by kernel_rfl) (by kernel_rfl)))

theorem scc8_ok : ∀ N, RecOk8 (scc8 N)
 | 0 => ⟨fun _ _ _ h => (by cases h)⟩
 | N + 1 => ⟨fun a0 a1 _ h => mi_docAt_F_ok N (scc8 N) (scc8_ok N) a0 a1 h⟩

theorem mi_docAt_ok (N : Nat) (a0 : LD) (a1 : Int) {r : SDoc} (h : mi_docAt N a0 a1 = some r) :
  AC Tryz.prog (GS []) 104 [.sl false false (a0.map (encSDNode false)), V.i a1] [] (.agg [V.i r.kind, V.i r.n, V.s r.text, sL encSDoc r.kids, V.i r.group]) [] :=
 (scc8_ok N).mi_docAt a0 a1 r h

theorem mi_docOf_ok (N : Nat) (a0 : LD) {r : SDoc} (h : mi_docOf N a0 = some r) :
    AC Tryz.prog (GS []) 66 [.sl false false (a0.map (encSDNode false))] [] (.agg [V.i r.kind, V.i r.n, V.s r.text, sL encSDoc r.kids, V.i r.group]) [] := by
 rw [mi_docOf] at h
 refine AC.enter Tryz.func66 rfl (cV 100 (bB h fun r2 hx2 h => (CO.sw mix (wR 2 101 (wN (encSDNode false) a0 [] (wR 1 101 (w0 (mi_docAt_ok N a0 (wr ((a0.length : Int) - 1)) hx2) cok104 (wR 1 101 ?_))))))))
 refine wF (CO.ret ?_)
 have h := sI h
 subst h
 exact eG [] (.inr rfl) (RetV.one rfl (OneR.cell Dk (r := .agg [V.i r2.kind, V.i r2.n, V.s r2.text, sL encSDoc r2.kids, V.i r2.group]) (i := 100) (ety := 53) (cs := [V.i r2.kind, V.i r2.n, V.s r2.text, sL encSDoc r2.kids, V.i r2.group]) (by kernel_rfl) (by kernel_rfl) (by kernel_rfl)))

structure RecOk9 (R : Rec9) : Prop where
 mi_doc__flat : ∀ (a0 : SDoc) (r : (LU × Bool)), R.mi_doc__flat a0 = some r → AC Tryz.prog (GS []) 45 [.agg [V.i a0.kind, V.i a0.n, V.s a0.text, sL encSDoc a0.kids, V.i a0.group]] [] (.tup [V.s r.1, V.b r.2]) []

theorem mi_doc__flat_F_ok (N : Nat) (R : Rec9) (HR : RecOk9 R) (a0 : SDoc) {r : (LU × Bool)} (h : mi_doc__flat_F N R a0 = some r) :
    AC Tryz.prog (GS []) 45 [.agg [V.i a0.kind, V.i a0.n, V.s a0.text, sL encSDoc a0.kids, V.i a0.group]] [] (.tup [V.s r.1, V.b r.2]) [] := by
 rw [mi_doc__flat_F] at h
 refine AC.enter Tryz.func45 rfl (cV 100 (CO.seq' (cV 101 (CO.block' (cV 101 ?_)))))
 refine cI h (fun _ h => ?_) (fun _ h => ?_)
 ·refine cV 101 (CO.ret ?_)
  have h := sI h
  subst h
  exact eG [] (.inr rfl) (RetV.two rfl (oT (t := 2) (r := V.s a0.text)) (oT (t := 3) (r := V.b true)))
 refine cV 101 ?_
 refine cI h (fun _ h => ?_) (fun _ h => ?_)
 ·refine cV 101 (CO.ret ?_)
  cases h
  exact eG [] (.inr rfl) (RetV.two rfl (oT (t := 2) (r := V.s [32])) (oT (t := 3) (r := V.b true)))
 refine cV 101 ?_
 refine cI h (fun _ h => ?_) (fun _ h => ?_)
 ·refine cV 101 (CO.ret ?_)
  cases h
  exact eG [] (.inr rfl) (RetV.two rfl (oT (t := 2) (r := V.s [])) (oT (t := 3) (r := V.b false)))
 refine CO.skip (cV 101 (CO.seq' (CO.sw mix (wR 2 102 (wN encSDoc a0.kids [] (wR 1 102 (wF (CO.block' ?_))))))))
 refine CO.loopJ (fun (⟨a0, y53, y54⟩ : (SDoc × Int × LU)) => ⟨tl 40 [(4, .own 100), (21, sL encSDoc a0.kids), (22, V.i (a0.kids.length : Int)), (23, V.i y53)], [(100, vX 5 1 byteRow y54)]⟩) (fun n i => mi_doc__flat_l1 N R n i = some r) (n0 := N) (i0 := (a0, 0, [])) (wS [(101, 100)] [4, 21, 22, 23]) h (fun i h => by simp [mi_doc__flat_l1] at h) ?_
 rintro n1 ⟨a0, y53, y54⟩ h99 ih100
 rw [mi_doc__flat_l1] at h99
 refine cV 166 (CO.seq' ?_)
 refine cI h99 (fun _ h99 => ?_) (fun _ h99 => ?_)
 ·refine CO.skip (CO.seq' (CO.block' (bB h99 fun e76 hx112 h99 => (CO.sw mix (W.ixDr Dk encSDoc hx112 5 (by kernel_rfl) (encSDoc_eq e76) (by kernel_rfl) (wR 3 166 (wF (bB h99 fun r78 hx114 h99 => ?_))))))))
  refine cC 1 167 (HR.mi_doc__flat e76 _ hx114) cok45 (CO.seq' (cV 167 ?_))
  refine cI h99 (fun _ h99 => ?_) (fun _ h99 => ?_)
  ·refine cV 167 (CO.ret ?_)
   cases h99
   exact eG [] (.inr rfl) (RetV.two rfl (oT (t := 2) (r := V.s [])) (oT (t := 3) (r := V.b false)))
  refine CO.skip (bB h99 fun x80 hx118 h99 => ?_)
  refine CO.endR (tl 40 [(4, .own 167), (21, sL encSDoc a0.kids), (22, V.i (a0.kids.length : Int)), (23, V.i y53)]) [(167, vX 5 1 byteRow x80)] mix (by
   refine wR 2 167 (W.appS Dk (a := 100) (el := 5) 1 hx118 rfl 167 (by kernel_rfl) (wR 1 168 ?_))
   exact fI
   ) (fun st hw => ?_)
  refine CO.weak hw ?_
  exact cK 168 ih100 (a0, (wr (y53 + 1)), x80) h99 [(167, 100)] [4, 21, 22, 23]
 refine CO.exit (CO.sw mix (wR 1 166 (W.strO Dk y54 (a := 100) (by kernel_rfl) (wR 2 166 (wF (CO.ret ?_))))))
 have h99 := sI h99
 subst h99
 exact eG [] (.inr rfl) (RetV.two rfl (oT (t := 2) (r := V.s y54)) (oT (t := 3) (r := V.b true)))

theorem scc9_ok : ∀ N, RecOk9 (scc9 N)
 | 0 => ⟨fun _ _ h => (by cases h)⟩
 | N + 1 => ⟨fun a0 _ h => mi_doc__flat_F_ok N (scc9 N) (scc9_ok N) a0 h⟩

theorem mi_doc__flat_ok (N : Nat) (a0 : SDoc) {r : (LU × Bool)} (h : mi_doc__flat N a0 = some r) :
  AC Tryz.prog (GS []) 45 [.agg [V.i a0.kind, V.i a0.n, V.s a0.text, sL encSDoc a0.kids, V.i a0.group]] [] (.tup [V.s r.1, V.b r.2]) [] :=
 (scc9_ok N).mi_doc__flat a0 r h

theorem mi_FlatText_ok (N : Nat) (a0 : LD) {r : (LU × Bool)} (h : mi_FlatText N a0 = some r) :
    AC Tryz.prog (GS []) 36 [.sl false false (a0.map (encSDNode false))] [] (.tup [V.s r.1, V.b r.2]) [] := by
 rw [mi_FlatText] at h
 refine AC.enter Tryz.func36 rfl (cV 100 (CO.seq' (bB h fun r4 hx5 h => (cC 1 100 (mi_DocOk_ok N a0 hx5) cok65 ?_))))
 refine cI h (fun _ h => ?_) (fun _ h => ?_)
 ·refine cV 100 (CO.ret ?_)
  cases h
  exact eG [] (.inr rfl) (RetV.two rfl (oT (t := 2) (r := V.s [])) (oT (t := 3) (r := V.b false)))
 refine CO.skip (bB h fun r7 hx9 h => (bB h fun r8 hx10 h => (CO.sw mix (wR 1 100 (w0 (mi_docOf_ok N a0 hx9) cok66 (w0 (mi_doc__flat_ok N r7 hx10) cok45 (wR 4 100 (wF ?_))))))))
 refine CO.ret ?_
 have h := sI h
 subst h
 exact eG [] (.inr rfl) (RetV.two rfl (oT (t := 2) (r := V.s r8.1)) (oT (t := 3) (r := V.b r8.2)))

theorem mi_ExprText_ok (N : Nat) (a0 : LN) (a1 : SPos) {r : LU} (h : mi_ExprText N a0 a1 = some r) :
    AC Tryz.prog (GS [0, 1, 2]) 17 [.sl false false (a0.map (eSN false)), .agg [V.i a1.Level, V.b a1.Dollar, V.b a1.NoIn, V.b a1.NoGt, V.b a1.NoSign]] [] (V.s r) [] := by
 rw [mi_ExprText] at h
 refine AC.enter Tryz.func17 rfl (cV 100 (bB h fun r3 hx3 h => (bB h fun r4 hx4 h => (CO.sw mix (wR 2 101 (wC (mi_ExprDoc_ok N a0 a1 hx3) cok10 [] [(100, 101)] [101] (W.lend (AC.gs (mi_FlatText_ok N r3 hx4) (by decide)) cok36 [] [] (LayOk.cons (j := 101) (encSDNode true) (encSDNode false) r3 (by kernel_rfl) (share_encSDNode _) lO) (.tup _ (.cons (.c _) (.cons (.c _) .nil))) .nil (by kernel_rfl) (by kernel_rfl) (wR 5 102 ?_))))))))
 refine wF (cV 102 ?_)
 cases h
 exact e1 4 id

theorem ml_eqIntS_ok (N : Nat) (a0 : List Int) (a1 : List Int) {r : Bool} (h : ml_eqIntS N a0 a1 = some r) :
    AC Tryz.prog (GS []) 63 [sL eNI a0, sL eNI a1] [] (V.b r) [] := by
 rw [ml_eqIntS] at h
 refine AC.enter Tryz.func63 rfl (cV 100 (CO.seq' (CO.sw mix (wR 1 100 (wN eNI a0 [] (wR 1 100 (wN eNI a1 [] (wR 1 100 ?_))))))))
 refine wF ?_
 refine cI h (fun _ h => ?_) (fun _ h => ?_)
 ·refine cV 100 ?_
  cases h
  exact e1 4 id
 refine CO.skip (CO.seq' (cV 100 (CO.block' (CO.loopJ (fun (⟨a0, a1, y35⟩ : ((List Int) × (List Int) × Int)) => ⟨tl 26 [(0, sL eNI a0), (1, sL eNI a1), (5, V.i y35)], []⟩) (fun n i => ml_eqIntS_l1 N n i = some r) (n0 := N) (i0 := (a0, a1, 0)) (wS [] [0, 1, 5]) h (fun i h => by simp [ml_eqIntS_l1] at h) ?_))))
 rintro n1 ⟨a0, a1, y35⟩ h65 ih66
 rw [ml_eqIntS_l1] at h65
 refine CO.seq' (CO.sw mix (wR 2 160 (wN eNI a0 [] (wR 1 160 (wF ?_)))))
 refine cI h65 (fun _ h65 => ?_) (fun _ h65 => ?_)
 ·refine CO.skip (CO.seq' (CO.block' (bB h65 fun e51 hx76 h65 => (bB h65 fun e52 hx77 h65 => (CO.sw mix (wR 2 160 (wX eNI hx76 1 (wR 3 160 ?_))))))))
  refine wX eNI hx77 1 (wR 2 160 (wF ?_))
  refine cI h65 (fun _ h65 => ?_) (fun _ h65 => ?_)
  ·refine cV 160 ?_
   cases h65
   exact e1 4 id
  refine CO.skip ?_
  exact cK 160 ih66 (a0, a1, (wr (y35 + 1))) h65 [] [0, 1, 5]
 refine CO.exit (cV 160 ?_)
 cases h65
 exact e1 4 id

theorem ml_eqNode_ok (N : Nat) (a0 : SNode) (a1 : SNode) {r : Bool} (h : ml_eqNode N a0 a1 = some r) :
    AC Tryz.prog (GS []) 31 [.agg [V.i a0.Kind, V.i a0.Op, V.s a0.Text, V.s a0.Other, sL eNI a0.Kids], .agg [V.i a1.Kind, V.i a1.Op, V.s a1.Text, V.s a1.Other, sL eNI a1.Kids]] [] (V.b r) [] := by
 rw [ml_eqNode] at h
 refine AC.enter Tryz.func31 rfl (cV 100 (CO.seq' (cV 102 ?_)))
 refine cI h (fun _ h => ?_) (fun _ h => ?_)
 ·refine cV 102 ?_
  cases h
  exact e1 4 id
 refine CO.skip (CO.seq' (cV 102 ?_))
 refine cI h (fun _ h => ?_) (fun _ h => ?_)
 ·refine cV 102 ?_
  cases h
  exact e1 4 id
 refine CO.skip (CO.seq' (cV 102 ?_))
 refine cI h (fun _ h => ?_) (fun _ h => ?_)
 ·refine cV 102 ?_
  cases h
  exact e1 4 id
 refine CO.skip (CO.seq' (cV 102 ?_))
 refine cI h (fun _ h => ?_) (fun _ h => ?_)
 ·refine cV 102 ?_
  cases h
  exact e1 4 id
 refine CO.skip (CO.seq' (bB h fun r4 hx13 h => (cC 4 102 (ml_eqIntS_ok N a0.Kids a1.Kids hx13) cok63 ?_)))
 refine cI h (fun _ h => ?_) (fun _ h => ?_)
 ·refine cV 102 ?_
  cases h
  exact e1 4 id
 refine CO.skip (cV 102 ?_)
 cases h
 exact e1 4 id

theorem ml_eqNodeS_ok (N : Nat) (a0 : LN) (a1 : LN) {r : Bool} (h : ml_eqNodeS N a0 a1 = some r) :
    AC Tryz.prog (GS []) 12 [.sl false false (a0.map (eSN false)), .sl false false (a1.map (eSN false))] [] (V.b r) [] := by
 rw [ml_eqNodeS] at h
 refine AC.enter Tryz.func12 rfl (cV 100 (CO.seq' (CO.sw mix (wR 1 100 (wN (eSN false) a0 [] (wR 1 100 (wN (eSN false) a1 [] (wR 1 100 ?_))))))))
 refine wF ?_
 refine cI h (fun _ h => ?_) (fun _ h => ?_)
 ·refine cV 100 ?_
  cases h
  exact e1 4 id
 refine CO.skip (CO.seq' (cV 100 (CO.block' (CO.loopJ (fun (⟨a0, a1, y51⟩ : (LN × LN × Int)) => ⟨tl 27 [(0, .sl false false (a0.map (eSN false))), (1, .sl false false (a1.map (eSN false))), (5, V.i y51)], []⟩) (fun n i => ml_eqNodeS_l1 N n i = some r) (n0 := N) (i0 := (a0, a1, 0)) (wS [] [0, 1, 5]) h (fun i h => by simp [ml_eqNodeS_l1] at h) ?_))))
 rintro n1 ⟨a0, a1, y51⟩ h85 ih86
 rw [ml_eqNodeS_l1] at h85
 refine CO.seq' (CO.sw mix (wR 2 160 (wN (eSN false) a0 [] (wR 1 160 (wF ?_)))))
 refine cI h85 (fun _ h85 => ?_) (fun _ h85 => ?_)
 ·refine CO.skip (CO.seq' (CO.block' (bB h85 fun e74 hx99 h85 => (bB h85 fun e75 hx100 h85 => (bB h85 fun r76 hx101 h85 => (CO.sw mix (wR 2 160 (wX (eSN false) hx99 5 ?_))))))))
  refine wR 3 160 (wX (eSN false) hx100 5 (wR 1 160 (w0 (ml_eqNode_ok N e74 e75 hx101) cok31 (wR 1 160 (wF ?_)))))
  refine cI h85 (fun _ h85 => ?_) (fun _ h85 => ?_)
  ·refine cV 160 ?_
   cases h85
   exact e1 4 id
  refine CO.skip ?_
  exact cK 160 ih86 (a0, a1, (wr (y51 + 1))) h85 [] [0, 1, 5]
 refine CO.exit (cV 160 ?_)
 cases h85
 exact e1 4 id

theorem ml_FnExactExprText_ok (N : Nat) (a0 : LN) (a1 : SPos) {r : Bool} (h : ml_FnExactExprText N a0 a1 = some r) :
    AC Tryz.prog (GS [0, 1, 2]) 4 [.sl false false (a0.map (eSN false)), .agg [V.i a1.Level, V.b a1.Dollar, V.b a1.NoIn, V.b a1.NoGt, V.b a1.NoSign]] [] (V.b r) [] := by
 rw [ml_FnExactExprText] at h
 refine AC.enter Tryz.func4 rfl (cV 100 (cV 101 (bB h fun r2 hx2 h => (cC 2 101 (AC.gs (ml_szNodeS_ok N a0 1048576 hx2) (by decide)) cok6 (CO.seq' (cV 101 ?_))))))
 refine cI h (fun _ h => ?_) (fun _ h => ?_)
 ·refine cV 101 ?_
  cases h
  exact e1 4 id
 refine CO.skip (bB h fun r6 hx8 h => (bB h fun r7 hx9 h => (bB h fun r8 hx10 h => (CO.sw mix (wR 1 101 (wC (AC.gs (ml_toNodeS_ok N a0 hx8) (by decide)) cok8 [] [(100, 101)] [101] (wR 1 102 (w0 (AC.gs (ml_toPos_ok a1 hx9) (by decide)) cok9 ?_))))))))
 refine W.lend (AC.gs (ms_ExprText_ok N r6 r7 hx10) (by decide)) cok16 [] [] (LayOk.cons (j := 101) (eSN true) (eSN false) r6 (by kernel_rfl) (sh_eSN _) lO) (.c _) .nil (by kernel_rfl) (by kernel_rfl) (wR 1 102 (wF (bB h fun r10 hx12 h => (CO.sw mix (wR 1 102 (wC (AC.gs (ml_toNodeS_ok N a0 hx12) (by decide)) cok8 [] [(100, 102)] [102] (wR 1 103 (wF ?_))))))))
 refine bB h fun r13 hx15 h => (bB h fun r14 hx16 h => (CO.sw mix (wR 2 103 (w0 (AC.gs (ml_toPos_ok a1 hx15) (by decide)) cok9 (W.lend (mi_ExprText_ok N r10 r13 hx16) cok17 [] [] (LayOk.cons (j := 102) (eSN true) (eSN false) r10 (by kernel_rfl) (sh_eSN _) lO) (.c _) .nil (by kernel_rfl) (by kernel_rfl) (wR 1 103 (wF (CO.seq' ?_))))))))
 refine cV 103 ?_
 refine cI h (fun _ h => ?_) (fun _ h => ?_)
 ·refine cV 103 ?_
  cases h
  exact e1 4 id
 refine CO.skip (CO.seq' (bB h fun r21 hx26 h => (bB h fun r22 hx27 h => (CO.sw mix (wR 2 103 (wC (AC.gs (ml_toNodeS_ok N a0 hx26) (by decide)) cok8 [] [(100, 103)] [103] (W.lend (AC.gs (ml_eqNodeS_ok N r10 r21 hx27) (by decide)) cok12 [] [] (LayOk.cons (j := 102) (eSN true) (eSN false) r10 (by kernel_rfl) (sh_eSN _) (LayOk.cons (j := 103) (eSN true) (eSN false) r21 (by kernel_rfl) (sh_eSN _) lO)) (.c _) .nil (by kernel_rfl) (by kernel_rfl) (wR 1 104 ?_))))))))
 refine wF ?_
 refine cI h (fun _ h => ?_) (fun _ h => ?_)
 ·refine cV 104 ?_
  cases h
  exact e1 4 id
 refine CO.skip (cV 104 ?_)
 cases h
 exact e1 4 id

end Go.Proofs.Tryz

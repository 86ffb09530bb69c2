/-
 The walks that show that the code computes the models, part 5.
-/
import Derived.Test.YthgednmgmjmmpaaGreatDoorRcSW4
namespace Go.Proofs.Tryz
open Go.Av
set_option maxRecDepth 100000
set_option maxHeartbeats 8000000
set_option linter.unusedSimpArgs false
set_option linter.unusedVariables false

theorem mp_listAhead_ok (N : Nat) (pa : LT) (pb : Int) (pc : Bool) (p1 : LLU) {r : Bool} (h : mp_listAhead N pa pb pc p1 = some r) :
    AC0 173 [.loc 0 0] [(0, cP 98 pa pb pc 1), (1, vN p1)] (V.b r) [(0, cP 98 pa pb pc 1), (1, vN p1)] := by
 rw [mp_listAhead] at h
 refine AC.enter Tryz.func173 rfl (cV 100 (cV 100 ?_))
 refine CO.join (fun (_ : Unit) => ⟨tl 43 [], [(0, cP 98 pa pb pc 1), (1, vN p1)]⟩) (fun i => mp_listAhead_k1 N pa pb pc p1 i = some r) ?_ ?_
 · rintro ⟨⟩ h157
   rw [mp_listAhead_k1] at h157
   refine cV 163 (CO.ret ?_)
   cases h157
   exact eG [(0, 0), (1, 1)] (.inr rfl) (RetV.one rfl (oT (t := 2) (r := V.b false)))
 intro hk158
 refine bB h fun l82 hx160 h => (CO.sw mix (wR 8 100 (W.cutD Dk eTk hx160 false 3 (fun _ => by first | rfl | kernel_rfl) (by kernel_rfl) (W.len Dk eTk l82 [] (by kernel_rfl) (by kernel_rfl) (wR 1 100 (wF (CO.block' (CO.loopJ (fun (⟨l82, y105, y106⟩ : (LT × Int × Int)) => ⟨tl 43 [(3, V.i y105), (14, sL eTk l82), (15, V.i (l82.length : Int)), (16, V.i y106)], [(0, cP 98 pa pb pc 1), (1, vN p1)]⟩) (fun n i => mp_listAhead_l2 N pa pb pc p1 n i = some r) (n0 := N) (i0 := (l82, 0, 0)) (wS [(0, 0), (1, 1)] [3, 14, 15, 16]) h (fun i h => by simp [mp_listAhead_l2] at h) ?_))))))))
 rintro n2 ⟨l82, y105, y106⟩ h261 ih262
 rw [mp_listAhead_l2] at h261
 refine cV 162 (CO.seq' ?_)
 refine cI h261 (fun _ h261 => ?_) (fun _ h261 => ?_)
 ·refine CO.skip (CO.seq' (CO.block' (bB h261 fun e149 hx291 h261 => (CO.sw mix (W.ixD Dk eTk hx291 3 (by kernel_rfl) (by kernel_rfl) (wR 3 162 (wF ?_)))))))
  refine CO.join (fun (⟨l82, y106, y155⟩ : (LT × Int × Int)) => ⟨tl 43 [(3, V.i y155), (14, sL eTk l82), (15, V.i (l82.length : Int)), (16, V.i y106)], [(0, cP 98 pa pb pc 1), (1, vN p1)]⟩) (fun i => mp_listAhead_k3 N pa pb pc p1 (mp_listAhead_l2 N pa pb pc p1 n2) i = some r) ?_ ?_
  · rintro ⟨l82, y106, y155⟩ h302
    rw [mp_listAhead_k3] at h302
    refine cV 163 ?_
    refine cI h302 (fun _ h302 => ?_) (fun _ h302 => ?_)
    ·refine CO.exit ?_
     exact hk158 () h302 _ (wS [(0, 0), (1, 1)] [])
    refine CO.skip ?_
    exact cK 163 ih262 (l82, y155, (IntKind.wrap .i64 (y106 + 1))) h302 [(0, 0), (1, 1)] [3, 14, 15, 16]
  intro hk304
  refine CO.block' (bB h261 fun r157 hx306 h261 => (cC 2 163 (mi_opens_ok e149.Kind hx306) cok167 ?_))
  refine cI h261 (fun _ h261 => ?_) (fun _ h261 => ?_)
  ·exact cK 163 hk304 (l82, y106, (IntKind.wrap .i64 (y105 + 1))) h261 [(0, 0), (1, 1)] [3, 14, 15, 16]
  refine bB h261 fun r159 hx309 h261 => (cC 2 163 (mi_shuts_ok e149.Kind hx309) cok168 ?_)
  refine cI h261 (fun _ h261 => ?_) (fun _ h261 => ?_)
  ·exact cK 163 hk304 (l82, y106, (IntKind.wrap .i64 (y105 - 1))) h261 [(0, 0), (1, 1)] [3, 14, 15, 16]
  refine bB h261 fun y160 hv312 h261 => ?_
  refine CO.cutR (tl 43 [(3, V.i y105), (14, sL eTk l82), (15, V.i (l82.length : Int)), (16, V.i y106), (32, V.b y160)]) [(0, cP 98 pa pb pc 1), (1, vN p1)] mix (by
   refine wR 4 163 ?_
   refine wJ 36 hv312 (fun hv312 => ?_) (fun hv312 => ?_)
   ·refine wR 4 163 ?_
    cases hv312
    exact fS [(0, 0), (1, 1)] [3, 14, 15, 16, 32]
   refine wR 4 163 ?_
   cases hv312
   exact fS [(0, 0), (1, 1)] [3, 14, 15, 16, 32]
   ) ?_
  refine cI h261 (fun _ h261 => ?_) (fun _ h261 => ?_)
  ·refine cV 163 (CO.ret ?_)
   cases h261
   exact eG [(0, 0), (1, 1)] (.inr rfl) (RetV.one rfl (oT (t := 2) (r := V.b true)))
  exact sK hk304 (l82, y106, y105) h261 [(0, 0), (1, 1)] [3, 14, 15, 16]
 refine CO.exit ?_
 exact hk158 () h261 _ (wS [(0, 0), (1, 1)] [])

theorem mp_newlines_ok (N : Nat) (pa : LT) (pb : Int) (pc : Bool) (p1 : LLU) {r : (Int × LLU)} (h : mp_newlines N pa pb pc p1 = some r) :
    AC0 171 [.loc 0 0] [(0, cP 98 pa pb pc 1), (1, vN p1)] (.tup []) [(0, cP 98 pa r.1 pc 100), (100, vN r.2)] := by
 rw [mp_newlines] at h
 refine AC.enter Tryz.func171 rfl (CO.block' (CO.loopJ (fun (⟨y14, y15⟩ : (Int × LLU)) => ⟨tl 40 [(0, .loc 0 0)], [(0, cP 98 pa y14 pc 100), (100, vN y15)]⟩) (fun n i => mp_newlines_l1 N pa pc n i = some r) (n0 := N) (i0 := (pb, p1)) (wS [(0, 0), (1, 100)] [0]) h (fun i h => by simp [mp_newlines_l1] at h) ?_))
 rintro n1 ⟨y14, y15⟩ h41 ih42
 rw [mp_newlines_l1] at h41
 refine CO.seq' (cV 164 ?_)
 refine cI h41 (fun _ h41 => ?_) (fun _ h41 => ?_)
 ·refine CO.skip (CO.block' ?_)
  refine CO.join (fun (⟨y14, y37⟩ : (Int × LLU)) => ⟨tl 40 [(0, .loc 0 0)], [(0, cP 98 pa y14 pc 100), (100, vN y37)]⟩) (fun i => mp_newlines_k2 N pa pc (mp_newlines_l1 N pa pc n1) i = some r) ?_ ?_
  · rintro ⟨y14, y37⟩ h53
    rw [mp_newlines_k2] at h53
    exact cK 166 ih42 ((IntKind.wrap .i64 (y14 + 1)), y37) h53 [(0, 0), (100, 100)] [0]
  intro hk54
  refine bB h41 fun r39 hx56 h41 => (CO.sw mix (wR 1 164 (W.call (mp_kind_ok pa y14 pc y15 hx56) cok111 [(0, 0), (100, 1)] [(0, 0), (1, 100)] [] lO (by kernel_rfl) (by kernel_rfl) (wF (CO.block' (cV 164 ?_))))))
  refine cI h41 (fun _ h41 => ?_) (fun _ h41 => ?_)
  ·exact sK hk54 (y14, y15) h41 [(0, 0), (100, 100)] [0]
  refine cV 164 ?_
  refine cI h41 (fun _ h41 => ?_) (fun _ h41 => ?_)
  ·refine bB h41 fun e42 hx61 h41 => (bB h41 fun x43 hx62 h41 => (CO.w mix (wR 13 164 (W.ixD Dk eTk hx61 3 (by kernel_rfl) (by kernel_rfl) (wR 3 164 (W.appO Dk eNS (a := 100) (c := 164) (el := 9) (sz := 1) 16 hx62 rfl 165 (by kernel_rfl) (wR 3 166 ?_)))))))
   exact wK hk54 (y14, x43) h41 [(0, 0), (165, 100)] [0]
  refine CO.ret ?_
  cases h41
  exact eG [(0, 0), (100, 100)] (.inr rfl) (RetV.none rfl)
 refine CO.exit ?_
 cases h41
 exact eG [(0, 0), (100, 100)] (.inl rfl) (RetV.none rfl)

theorem mp_take_ok (a1 : Int) (pa : LT) (pb : Int) (pc : Bool) (p1 : LLU) {r : (Bool × Int × Bool)} (h : mp_take a1 pa pb pc p1 = some r) :
    AC0 170 [.loc 0 0, V.i a1] [(0, cP 98 pa pb pc 1), (1, vN p1)] (V.b r.1) [(0, cP 98 pa r.2.1 r.2.2 1), (1, vN p1)] := by
 rw [mp_take] at h
 refine AC.enter Tryz.func170 rfl (cV 100 (CO.seq' (bB h fun y5 hv9 h => ?_)))
 refine CO.cutR (tl 25 [(0, .loc 0 0), (14, V.b y5)]) [(0, cP 98 pa pb pc 1), (1, vN p1)] mix (by
  refine wR 5 100 ?_
  refine wJ 9 hv9 (fun hv9 => ?_) (fun hv9 => ?_)
  ·refine wR 5 100 ?_
   cases hv9
   exact fS [(0, 0), (1, 1)] [0, 14]
  refine wR 1 100 (bB hv9 fun r6 hx11 hv9 => (W.call (mp_kind_ok pa pb pc p1 hx11) cok111 [(0, 0), (1, 1)] [(0, 0), (1, 1)] [] lO (by kernel_rfl) (by kernel_rfl) (wR 3 100 ?_)))
  cases hv9
  exact fS [(0, 0), (1, 1)] [0, 14]
  ) ?_
 refine cI h (fun _ h => ?_) (fun _ h => ?_)
 ·refine cV 100 (cV 100 (CO.ret ?_))
  cases h
  exact eG [(0, 0), (1, 1)] (.inr rfl) (RetV.one rfl (oT (t := 4) (r := V.b false)))
 refine CO.skip (cV 100 (cV 100 (CO.ret ?_)))
 cases h
 exact eG [(0, 0), (1, 1)] (.inr rfl) (RetV.one rfl (oT (t := 4) (r := V.b true)))

theorem mi_isStep_ok (a0 : Int) {r : Bool} (h : mi_isStep a0 = some r) :
    AC0 126 [V.i a0] [] (V.b r) [] := by
 rw [mi_isStep] at h
 refine AC.enter Tryz.func126 rfl (cV 100 (bB h fun y1 hv2 h => ?_))
 refine CO.cutR (tl 9 [(2, V.b y1)]) [] mix (by
  refine wR 3 100 ?_
  refine wJ 5 hv2 (fun hv2 => ?_) (fun hv2 => ?_)
  ·refine wR 4 100 ?_
   cases hv2
   exact fS [] [2]
  refine wR 4 100 ?_
  cases hv2
  exact fS [] [2]
  ) ?_
 cases h
 exact e1 2 id

theorem mp_text_ok (pa : LT) (pb : Int) (pc : Bool) (p1 : LLU) {r : (LU × Int)} (h : mp_text pa pb pc p1 = some r) :
    AC0 178 [.loc 0 0] [(0, cP 98 pa pb pc 1), (1, vN p1)] (V.s r.1) [(0, cP 98 pa r.2 pc 1), (1, vN p1)] := by
 rw [mp_text] at h
 refine AC.enter Tryz.func178 rfl (cV 100 (bB h fun e2 hx2 h => (CO.sw mix (wR 8 100 (W.ixD Dk eTk hx2 3 (by kernel_rfl) (by kernel_rfl) (wR 3 100 (wF (cV 100 ?_))))))))
 refine cV 100 (CO.ret ?_)
 have h := sI h
 subst h
 exact eG [(0, 0), (1, 1)] (.inr rfl) (RetV.one rfl (oT (t := 2) (r := V.s e2.Text)))

theorem mi_bin_ok (a0 : Int) (a1 : SPart) (a2 : SPart) {r : SPart} (h : mi_bin a0 a1 a2 = some r) :
    AC0 172 [V.i a0, .agg (aP a1), .agg (aP a2)] [] (.agg (aP r)) [] := by
 rw [mi_bin] at h
 refine AC.enter Tryz.func172 rfl (cV 100 ?_)
 refine CO.cutR (tl 15 [(6, .loc 102 0)]) [(102, .cells 103 [V.i 12, V.i a0, V.s [], V.s [], .own 103, V.b false]), (103, .vec false 101 5 ([a1.tree, a2.tree].map eST))] mix (by
  refine wR 5 103 (W.layop Dk lO (by kernel_rfl) 103 { v := .own 103, R := [], new := [(103, .vec true 101 5 [[V.i a1.tree.kind, V.i a1.tree.op, V.s a1.tree.text, V.s a1.tree.other, sL eST a1.tree.kids], [V.i a2.tree.kind, V.i a2.tree.op, V.s a2.tree.text, V.s a2.tree.other, sL eST a2.tree.kids]])], N := [103] } (by kernel_rfl) (W.vecEq 103 (nn := true) (e := 101) (k := 5) (rows := [[V.i a1.tree.kind, V.i a1.tree.op, V.s a1.tree.text, V.s a1.tree.other, sL eST a1.tree.kids], [V.i a2.tree.kind, V.i a2.tree.op, V.s a2.tree.text, V.s a2.tree.other, sL eST a2.tree.kids]]) (rows' := [a1.tree, a2.tree].map eST) (by kernel_rfl) (by simp only [List.map_cons, List.map_nil, encSTree_eq]) (wR 3 104 ?_)))
  exact fI
  ) ?_
 refine CO.lay (tl 15 [(6, .loc 102 0)]) [(102, .cells 103 [V.i 12, V.i a0, V.s [], V.s [], .sl false false ([a1.tree, a2.tree].map eST), V.b false])] (LayOk.cons (j := 103) eST eST ([a1.tree, a2.tree] : List STree) (by kernel_rfl) (share_encSTree) lO) (by kernel_rfl) (by kernel_rfl) (by kernel_rfl) (CO.ret ?_)
 have h := sI h
 subst h
 exact eG [] (.inr rfl) (RetV.one rfl (OneR.cell Dk (r := .agg [V.i 12, V.i a0, V.s [], V.s [], .sl false false ([a1.tree, a2.tree].map eST), V.b false]) (i := 102) (ety := 103) (cs := [V.i 12, V.i a0, V.s [], V.s [], .sl false false ([a1.tree, a2.tree].map eST), V.b false]) (by kernel_rfl) (by kernel_rfl) (by kernel_rfl)))

theorem mi_OpLevel_ok (a0 : Int) {r : Int} (h : mi_OpLevel a0 = some r) :
    AC0 176 [V.i a0] [] (V.i r) [] := by
 rw [mi_OpLevel] at h
 refine AC.enter Tryz.func176 rfl (cV 100 (CO.seq' (cV 100 (CO.block' (cV 100 ?_)))))
 refine cI h (fun _ h => ?_) (fun _ h => ?_)
 ·refine cV 100 ?_
  cases h
  exact e1 2 id
 refine cV 100 ?_
 refine cI h (fun _ h => ?_) (fun _ h => ?_)
 ·refine cV 100 ?_
  cases h
  exact e1 2 id
 refine CO.join (fun (⟨a0, y5⟩ : (Int × Bool)) => ⟨tl 29 [(3, V.i a0), (8, V.b y5)], []⟩) (fun i => mi_OpLevel_k1 i = some r) ?_ ?_
 · rintro ⟨a0, y5⟩ h38
   rw [mi_OpLevel_k1] at h38
   refine cI h38 (fun _ h38 => ?_) (fun _ h38 => ?_)
   ·refine cV 100 ?_
    cases h38
    exact e1 2 id
   refine CO.join (fun (⟨a0, y6⟩ : (Int × Bool)) => ⟨tl 29 [(3, V.i a0), (11, V.b y6)], []⟩) (fun i => mi_OpLevel_k2 i = some r) ?_ ?_
   · rintro ⟨a0, y6⟩ h45
     rw [mi_OpLevel_k2] at h45
     refine cI h45 (fun _ h45 => ?_) (fun _ h45 => ?_)
     ·refine cV 100 ?_
      cases h45
      exact e1 2 id
     refine cV 100 ?_
     refine cI h45 (fun _ h45 => ?_) (fun _ h45 => ?_)
     ·refine cV 100 ?_
      cases h45
      exact e1 2 id
     refine CO.join (fun (⟨a0, y7⟩ : (Int × Bool)) => ⟨tl 29 [(3, V.i a0), (20, V.b y7)], []⟩) (fun i => mi_OpLevel_k3 i = some r) ?_ ?_
     · rintro ⟨a0, y7⟩ h49
       rw [mi_OpLevel_k3] at h49
       refine cI h49 (fun _ h49 => ?_) (fun _ h49 => ?_)
       ·refine cV 100 ?_
        cases h49
        exact e1 2 id
       refine CO.join (fun (⟨a0, y8⟩ : (Int × Bool)) => ⟨tl 29 [(3, V.i a0), (23, V.b y8)], []⟩) (fun i => mi_OpLevel_k4 i = some r) ?_ ?_
       · rintro ⟨a0, y8⟩ h53
         rw [mi_OpLevel_k4] at h53
         refine cI h53 (fun _ h53 => ?_) (fun _ h53 => ?_)
         ·refine cV 100 ?_
          cases h53
          exact e1 2 id
         refine cV 100 ?_
         refine cI h53 (fun _ h53 => ?_) (fun _ h53 => ?_)
         ·refine cV 100 ?_
          cases h53
          exact e1 2 id
         refine CO.skip (cV 100 ?_)
         cases h53
         exact e1 2 id
       intro hk56
       refine cV 100 ?_
       refine cI h49 (fun _ h49 => ?_) (fun _ h49 => ?_)
       ·exact sK hk56 (a0, (a0 == 57)) h49 [] [3, 23]
       refine cV 100 ?_
       refine cI h49 (fun _ h49 => ?_) (fun _ h49 => ?_)
       ·exact sK hk56 (a0, (a0 == 58)) h49 [] [3, 23]
       exact cK 100 hk56 (a0, (a0 == 59)) h49 [] [3, 23]
     intro hk59
     refine cV 100 ?_
     refine cI h45 (fun _ h45 => ?_) (fun _ h45 => ?_)
     ·exact sK hk59 (a0, (a0 == 55)) h45 [] [3, 20]
     exact cK 100 hk59 (a0, (a0 == 56)) h45 [] [3, 20]
   intro hk61
   refine cV 100 ?_
   refine cI h38 (fun _ h38 => ?_) (fun _ h38 => ?_)
   ·exact sK hk61 (a0, (a0 == 63)) h38 [] [3, 11]
   refine cV 100 ?_
   refine cI h38 (fun _ h38 => ?_) (fun _ h38 => ?_)
   ·exact sK hk61 (a0, (a0 == 48)) h38 [] [3, 11]
   refine cV 100 ?_
   refine cI h38 (fun _ h38 => ?_) (fun _ h38 => ?_)
   ·exact sK hk61 (a0, (a0 == 47)) h38 [] [3, 11]
   refine cV 100 ?_
   refine cI h38 (fun _ h38 => ?_) (fun _ h38 => ?_)
   ·exact sK hk61 (a0, (a0 == 50)) h38 [] [3, 11]
   refine cV 100 ?_
   refine cI h38 (fun _ h38 => ?_) (fun _ h38 => ?_)
   ·exact sK hk61 (a0, (a0 == 62)) h38 [] [3, 11]
   exact cK 100 hk61 (a0, (a0 == 49)) h38 [] [3, 11]
 intro hk67
 refine cV 100 ?_
 refine cI h (fun _ h => ?_) (fun _ h => ?_)
 ·exact sK hk67 (a0, (a0 == 67)) h [] [3, 8]
 exact cK 100 hk67 (a0, (a0 == 46)) h [] [3, 8]

theorem mp_name_ok (pa : LT) (pb : Int) (pc : Bool) (p1 : LLU) {r : (LU × Int × Bool)} (h : mp_name pa pb pc p1 = some r) :
    AC0 175 [.loc 0 0] [(0, cP 98 pa pb pc 1), (1, vN p1)] (V.s r.1) [(0, cP 98 pa r.2.1 r.2.2 1), (1, vN p1)] := by
 rw [mp_name] at h
 refine AC.enter Tryz.func175 rfl (cV 100 (CO.seq' (bB h fun y5 hv9 h => ?_)))
 refine CO.cutR (tl 17 [(0, .loc 0 0), (11, V.b y5)]) [(0, cP 98 pa pb pc 1), (1, vN p1)] mix (by
  refine wR 5 100 ?_
  refine wJ 7 hv9 (fun hv9 => ?_) (fun hv9 => ?_)
  ·refine wR 4 100 ?_
   cases hv9
   exact fS [(0, 0), (1, 1)] [0, 11]
  refine wR 1 100 (bB hv9 fun r6 hx11 hv9 => (W.call (mp_kind_ok pa pb pc p1 hx11) cok111 [(0, 0), (1, 1)] [(0, 0), (1, 1)] [] lO (by kernel_rfl) (by kernel_rfl) (wR 2 100 ?_)))
  cases hv9
  exact fS [(0, 0), (1, 1)] [0, 11]
  ) ?_
 refine cI h (fun _ h => ?_) (fun _ h => ?_)
 ·refine cV 100 (cV 100 (CO.ret ?_))
  cases h
  exact eG [(0, 0), (1, 1)] (.inr rfl) (RetV.one rfl (oT (t := 2) (r := V.s [])))
 refine CO.skip (bB h fun r8 hx14 h => (CO.sw mix (wR 1 100 (W.call (mp_text_ok pa pb pc p1 hx14) cok178 [(0, 0), (1, 1)] [(0, 0), (1, 1)] [] lO (by kernel_rfl) (by kernel_rfl) (wR 1 100 (wF (CO.ret ?_)))))))
 have h := sI h
 subst h
 exact eG [(0, 0), (1, 1)] (.inr rfl) (RetV.one rfl (oT (t := 2) (r := V.s r8.1)))

theorem mi_isAssign_ok (a0 : Int) {r : Bool} (h : mi_isAssign a0 = some r) :
    AC0 169 [V.i a0] [] (V.b r) [] := by
 rw [mi_isAssign] at h
 refine AC.enter Tryz.func169 rfl (cV 100 (bB h fun y2 hv3 h => ?_))
 refine CO.cutR (tl 9 [(2, V.b y2)]) [] mix (by
  refine wR 3 100 ?_
  refine wJ 5 hv3 (fun hv3 => ?_) (fun hv3 => ?_)
  ·refine wR 4 100 ?_
   cases hv3
   exact fS [] [2]
  refine wR 1 100 (bB hv3 fun r3 hx5 hv3 => (W.call0 (mi_within_ok a0 38 43 hx5) cok107 rfl (by kernel_rfl) (wR 2 100 ?_)))
  cases hv3
  exact fS [] [2]
  ) ?_
 cases h
 exact e1 2 id

end Go.Proofs.Tryz

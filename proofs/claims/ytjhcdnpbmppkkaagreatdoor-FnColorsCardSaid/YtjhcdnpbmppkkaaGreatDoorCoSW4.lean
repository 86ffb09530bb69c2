/-
 The walks that show that the code computes the models, part 4.
-/
import Derived.Test.YtjhcdnpbmppkkaaGreatDoorCoSW3
namespace Go.Proofs.Tryz
open Go.Av
set_option maxRecDepth 100000
set_option maxHeartbeats 8000000
set_option linter.unusedSimpArgs false
set_option linter.unusedVariables false

structure RecOk4 (R : Rec4) : Prop where
 ms_l14Stmt : ∀ (a1 : Int) (pa : LU) (pb : Int) (pc : Int) (r : (LU × Int × Int)), R.ms_l14Stmt a1 pa pb pc = some r → AC Tryz.prog (GS []) 126 [.loc 0 0, V.i a1] [(0, .cells 65 [sL byteRow pa, V.i pb, V.i pc])] (V.s r.1) [(0, .cells 65 [sL byteRow pa, V.i r.2.1, V.i r.2.2])]
 ms_l14Body : ∀ (a1 : Int) (pa : LU) (pb : Int) (pc : Int) (r : (LU × Int × Int)), R.ms_l14Body a1 pa pb pc = some r → AC Tryz.prog (GS []) 108 [.loc 0 0, V.i a1] [(0, .cells 65 [sL byteRow pa, V.i pb, V.i pc])] (V.s r.1) [(0, .cells 65 [sL byteRow pa, V.i r.2.1, V.i r.2.2])]

theorem ms_l14Stmt_F_ok (N : Nat) (R : Rec4) (HR : RecOk4 R) (a1 : Int) (pa : LU) (pb : Int) (pc : Int) {r : (LU × Int × Int)} (h : ms_l14Stmt_F N R a1 pa pb pc = some r) :
    AC Tryz.prog (GS []) 126 [.loc 0 0, V.i a1] [(0, .cells 65 [sL byteRow pa, V.i pb, V.i pc])] (V.s r.1) [(0, .cells 65 [sL byteRow pa, V.i r.2.1, V.i r.2.2])] := by
 rw [ms_l14Stmt_F] at h
 refine AC.enter Tryz.func126 rfl (cV 100 (bB h fun r5 hx5 h => (bB h fun r6 hx6 h => (bB h fun r7 hx7 h => (bB h fun r8 hx8 h => (CO.sw mix (wR 2 100 (wC (ms_l1Below_ok 2 pa pb pc hx5) cok37 [(0, 0)] [(0, 0)] [] ?_))))))))
 refine wR 1 100 (wC (ms_l7Expr_ok N (wr (1 + r5.1)) pa r5.2.1 r5.2.2 hx6) cok110 [(0, 0)] [(0, 0), (100, 100)] [100] (w0 (ms_Top_ok  hx7) cok111 (W.lend (ms_ExprText_ok N r6.1 r7 hx8) cok109 [] [] (LayOk.cons (j := 100) (eSN true) (eSN false) r6.1 (by kernel_rfl) (sh_eSN _) lO) (.c _) .nil (by kernel_rfl) (by kernel_rfl) (wR 1 101 (wF (bB h fun r10 hx10 h => (CO.sw mix (wR 1 101 ?_))))))))
 refine wC (ms_l1Below_ok 14 pa r6.2.1 r6.2.2 hx10) cok37 [(0, 0)] [(0, 0)] [] (wR 1 101 (wF ?_))
 refine CO.join (fun (⟨a1, r8, r10, y12⟩ : (Int × LU × (Int × Int × Int) × Int)) => ⟨tl 125 [(0, .loc 0 0), (1, V.i a1), (5, V.s r8), (6, V.i y12)], [(0, .cells 65 [sL byteRow pa, V.i r10.2.1, V.i r10.2.2])]⟩) (fun i => ms_l14Stmt_k1 N R pa i = some r) ?_ ?_
 · rintro ⟨a1, r8, r10, y12⟩ h15
   rw [ms_l14Stmt_k1] at h15
   refine CO.seq' (cV 101 (CO.block' (cV 101 ?_)))
   refine cI h15 (fun _ h15 => ?_) (fun _ h15 => ?_)
   ·refine bB h15 fun s100 hx116 h15 => (bB h15 fun s101 hx117 h15 => (bB h15 fun r102 hx118 h15 => (bB h15 fun s103 hx119 h15 => (CO.sw mix (wR 1 101 (W.cat hx116 (by kernel_rfl) (W.cat hx117 (by kernel_rfl) (wR 3 101 ?_))))))))
    refine wC (HR.ms_l14Stmt (wr (a1 - 1)) pa r10.2.1 r10.2.2 _ hx118) cok126 [(0, 0)] [(0, 0)] [] (W.cat hx119 (by kernel_rfl) (wR 1 101 (wF (CO.ret ?_))))
    have h15 := sI h15
    subst h15
    exact eG [(0, 0)] (.inr rfl) (RetV.one rfl (oT (t := 4) (r := V.s s103)))
   refine cV 101 ?_
   refine cI h15 (fun _ h15 => ?_) (fun _ h15 => ?_)
   ·refine bB h15 fun s111 hx128 h15 => (bB h15 fun s112 hx129 h15 => (bB h15 fun r113 hx130 h15 => (bB h15 fun s114 hx131 h15 => (bB h15 fun s115 hx132 h15 => (bB h15 fun r116 hx133 h15 => (bB h15 fun s117 hx134 h15 => (CO.sw mix (wR 1 101 ?_))))))))
    refine W.cat hx128 (by kernel_rfl) (W.cat hx129 (by kernel_rfl) (wR 3 101 (wC (HR.ms_l14Body (wr (a1 - 1)) pa r10.2.1 r10.2.2 _ hx130) cok108 [(0, 0)] [(0, 0)] [] (W.cat hx131 (by kernel_rfl) (W.cat hx132 (by kernel_rfl) (wR 3 101 (wC (HR.ms_l14Stmt (wr (a1 - 1)) pa r113.2.1 r113.2.2 _ hx133) cok126 [(0, 0)] [(0, 0)] [] (W.cat hx134 (by kernel_rfl) ?_))))))))
    refine wR 1 101 (wF (CO.ret ?_))
    have h15 := sI h15
    subst h15
    exact eG [(0, 0)] (.inr rfl) (RetV.one rfl (oT (t := 4) (r := V.s s117)))
   refine cV 101 ?_
   refine cI h15 (fun _ h15 => ?_) (fun _ h15 => ?_)
   ·refine bB h15 fun s124 hx142 h15 => (bB h15 fun s125 hx143 h15 => (bB h15 fun r126 hx144 h15 => (bB h15 fun s127 hx145 h15 => (bB h15 fun r128 hx146 h15 => (bB h15 fun s129 hx147 h15 => (CO.sw mix (wR 1 101 (W.cat hx142 (by kernel_rfl) ?_))))))))
    refine W.cat hx143 (by kernel_rfl) (wR 2 101 (wD (ms_l1Pick_ok [[32], [10], [59]] pa r10.2.1 r10.2.2 hx144) cok46 [(0, 0)] [(0, 0)] [] (LayOk.cons (j := 101) eNS eNS ([[32], [10], [59]] : LLU) (by kernel_rfl) (fun _ => rfl) lO) (W.cat hx145 (by kernel_rfl) (wR 3 102 (wC (HR.ms_l14Stmt (wr (a1 - 1)) pa r126.2.1 r126.2.2 _ hx146) cok126 [(0, 0)] [(0, 0)] [] (W.cat hx147 (by kernel_rfl) (wR 1 102 (wF ?_))))))))
    refine CO.ret ?_
    have h15 := sI h15
    subst h15
    exact eG [(0, 0)] (.inr rfl) (RetV.one rfl (oT (t := 4) (r := V.s s129)))
   refine cV 101 ?_
   refine cI h15 (fun _ h15 => ?_) (fun _ h15 => ?_)
   ·refine bB h15 fun r137 hx156 h15 => (bB h15 fun s138 hx157 h15 => (bB h15 fun r139 hx158 h15 => (bB h15 fun s140 hx159 h15 => (bB h15 fun s141 hx160 h15 => (bB h15 fun s142 hx161 h15 => (bB h15 fun s143 hx162 h15 => (CO.sw mix (wR 3 101 ?_))))))))
    refine wC (HR.ms_l14Stmt (wr (a1 - 1)) pa r10.2.1 r10.2.2 _ hx156) cok126 [(0, 0)] [(0, 0)] [] (W.cat hx157 (by kernel_rfl) (wR 2 101 (wD (ms_l1Pick_ok [[59, 32], [10]] pa r137.2.1 r137.2.2 hx158) cok46 [(0, 0)] [(0, 0)] [] (LayOk.cons (j := 101) eNS eNS ([[59, 32], [10]] : LLU) (by kernel_rfl) (fun _ => rfl) lO) (W.cat hx159 (by kernel_rfl) (W.cat hx160 (by kernel_rfl) (wR 1 102 (W.cat hx161 (by kernel_rfl) (W.cat hx162 (by kernel_rfl) ?_))))))))
    refine wR 1 102 (wF (CO.ret ?_))
    have h15 := sI h15
    subst h15
    exact eG [(0, 0)] (.inr rfl) (RetV.one rfl (oT (t := 4) (r := V.s s143)))
   refine cV 101 ?_
   refine cI h15 (fun _ h15 => ?_) (fun _ h15 => ?_)
   ·refine bB h15 fun r149 hx169 h15 => (bB h15 fun s150 hx170 h15 => (bB h15 fun s151 hx171 h15 => (bB h15 fun r152 hx172 h15 => (bB h15 fun s153 hx173 h15 => (CO.sw mix (wR 2 101 (wD (ms_l1Pick_ok [[105, 32, 61, 32, 48, 59, 32, 105, 32, 60, 32, 51, 59, 32, 105, 43, 43], [59, 59], [107, 32, 105, 110, 32, 97], [40, 107, 32, 105, 110, 32, 97, 41, 59, 59], [105, 32, 61, 32, 49, 59, 59, 105, 43, 43]] pa r10.2.1 r10.2.2 hx169) cok46 [(0, 0)] [(0, 0)] [] (LayOk.cons (j := 101) eNS eNS ([[105, 32, 61, 32, 48, 59, 32, 105, 32, 60, 32, 51, 59, 32, 105, 43, 43], [59, 59], [107, 32, 105, 110, 32, 97], [40, 107, 32, 105, 110, 32, 97, 41, 59, 59], [105, 32, 61, 32, 49, 59, 59, 105, 43, 43]] : LLU) (by kernel_rfl) (fun _ => rfl) lO) (W.cat hx170 (by kernel_rfl) ?_))))))))
    refine W.cat hx171 (by kernel_rfl) (wR 3 102 (wC (HR.ms_l14Stmt (wr (a1 - 1)) pa r149.2.1 r149.2.2 _ hx172) cok126 [(0, 0)] [(0, 0)] [] (W.cat hx173 (by kernel_rfl) (wR 1 102 (wF (CO.ret ?_))))))
    have h15 := sI h15
    subst h15
    exact eG [(0, 0)] (.inr rfl) (RetV.one rfl (oT (t := 4) (r := V.s s153)))
   refine cV 101 ?_
   refine cI h15 (fun _ h15 => ?_) (fun _ h15 => ?_)
   ·refine bB h15 fun r157 hx178 h15 => (bB h15 fun s158 hx179 h15 => (bB h15 fun s159 hx180 h15 => (CO.sw mix (wR 3 101 (wC (HR.ms_l14Body (wr (a1 - 1)) pa r10.2.1 r10.2.2 _ hx178) cok108 [(0, 0)] [(0, 0)] [] (W.cat hx179 (by kernel_rfl) (W.cat hx180 (by kernel_rfl) (wR 1 101 ?_))))))))
    refine wF (CO.ret ?_)
    have h15 := sI h15
    subst h15
    exact eG [(0, 0)] (.inr rfl) (RetV.one rfl (oT (t := 4) (r := V.s s159)))
   refine CO.join (fun (⟨r8, y12, r10, y160⟩ : (LU × Int × (Int × Int × Int) × Bool)) => ⟨tl 125 [(0, .loc 0 0), (5, V.s r8), (22, V.i y12), (98, V.b y160)], [(0, .cells 65 [sL byteRow pa, V.i r10.2.1, V.i r10.2.2])]⟩) (fun i => ms_l14Stmt_k2 N R pa i = some r) ?_ ?_
   · rintro ⟨r8, y12, r10, y160⟩ h182
     rw [ms_l14Stmt_k2] at h182
     refine cI h182 (fun _ h182 => ?_) (fun _ h182 => ?_)
     ·refine bB h182 fun r167 hx190 h182 => (bB h182 fun r168 hx191 h182 => (bB h182 fun s169 hx192 h182 => (bB h182 fun s170 hx193 h182 => (bB h182 fun r171 hx194 h182 => (bB h182 fun s172 hx195 h182 => (CO.sw mix (wR 2 101 (wD (ms_l1Pick_ok [[112, 114, 105, 110, 116], [112, 114, 105, 110, 116, 102, 32]] pa r10.2.1 r10.2.2 hx190) cok46 [(0, 0)] [(0, 0)] [] (LayOk.cons (j := 101) eNS eNS ([[112, 114, 105, 110, 116], [112, 114, 105, 110, 116, 102, 32]] : LLU) (by kernel_rfl) (fun _ => rfl) lO) ?_))))))))
      refine wR 2 102 (wD (ms_l1Pick_ok [[], [32], [32, 120, 44, 32], [32, 120, 44, 10]] pa r167.2.1 r167.2.2 hx191) cok46 [(0, 0)] [(0, 0)] [] (LayOk.cons (j := 102) eNS eNS ([[], [32], [32, 120, 44, 32], [32, 120, 44, 10]] : LLU) (by kernel_rfl) (fun _ => rfl) lO) (W.cat hx192 (by kernel_rfl) (wR 1 103 (W.cat hx193 (by kernel_rfl) (wR 2 103 (wD (ms_l1Pick_ok [[], [], [32, 62, 32, 34, 102, 34], [32, 62, 62, 32, 34, 102, 34, 32, 120], [32, 124, 32, 34, 115, 111, 114, 116, 34]] pa r168.2.1 r168.2.2 hx194) cok46 [(0, 0)] [(0, 0)] [] (LayOk.cons (j := 103) eNS eNS ([[], [], [32, 62, 32, 34, 102, 34], [32, 62, 62, 32, 34, 102, 34, 32, 120], [32, 124, 32, 34, 115, 111, 114, 116, 34]] : LLU) (by kernel_rfl) (fun _ => rfl) lO) (W.cat hx195 (by kernel_rfl) (wR 1 104 ?_))))))))
      refine wF (CO.ret ?_)
      have h182 := sI h182
      subst h182
      exact eG [(0, 0)] (.inr rfl) (RetV.one rfl (oT (t := 4) (r := V.s s172)))
     refine cV 101 ?_
     refine cI h182 (fun _ h182 => ?_) (fun _ h182 => ?_)
     ·refine bB h182 fun r174 hx198 h182 => (CO.sw mix (wR 2 101 (wD (ms_l1Pick_ok [[110, 101, 120, 116], [101, 120, 105, 116], [114, 101, 116, 117, 114, 110], [98, 114, 101, 97, 107], [99, 111, 110, 116, 105, 110, 117, 101], [100, 101, 108, 101, 116, 101, 32, 97], [100, 101, 108, 101, 116, 101, 32, 97, 91, 49, 44, 32, 120, 93], [101, 120, 105, 116, 32, 49]] pa r10.2.1 r10.2.2 hx198) cok46 [(0, 0)] [(0, 0)] [] (LayOk.cons (j := 101) eNS eNS ([[110, 101, 120, 116], [101, 120, 105, 116], [114, 101, 116, 117, 114, 110], [98, 114, 101, 97, 107], [99, 111, 110, 116, 105, 110, 117, 101], [100, 101, 108, 101, 116, 101, 32, 97], [100, 101, 108, 101, 116, 101, 32, 97, 91, 49, 44, 32, 120, 93], [101, 120, 105, 116, 32, 49]] : LLU) (by kernel_rfl) (fun _ => rfl) lO) (wR 1 102 (wF (CO.ret ?_))))))
      have h182 := sI h182
      subst h182
      exact eG [(0, 0)] (.inr rfl) (RetV.one rfl (oT (t := 4) (r := V.s r174.1)))
     refine cV 101 ?_
     refine cI h182 (fun _ h182 => ?_) (fun _ h182 => ?_)
     ·refine bB h182 fun s177 hx202 h182 => (bB h182 fun s178 hx203 h182 => (CO.sw mix (wR 1 101 (W.cat hx202 (by kernel_rfl) (W.cat hx203 (by kernel_rfl) (wR 1 101 (wF (CO.ret ?_))))))))
      have h182 := sI h182
      subst h182
      exact eG [(0, 0)] (.inr rfl) (RetV.one rfl (oT (t := 4) (r := V.s s178)))
     refine CO.skip (cV 101 (CO.ret ?_))
     have h182 := sI h182
     subst h182
     exact eG [(0, 0)] (.inr rfl) (RetV.one rfl (oT (t := 4) (r := V.s r8)))
   intro hk204
   refine cV 101 ?_
   refine cI h15 (fun _ h15 => ?_) (fun _ h15 => ?_)
   ·exact sK hk204 (r8, y12, r10, (y12 == 6)) h15 [(0, 0)] [0, 5, 22, 98]
   exact cK 101 hk204 (r8, y12, r10, (y12 == 7)) h15 [(0, 0)] [0, 5, 22, 98]
 intro hk206
 refine bB h fun y179 hv208 h => ?_
 refine CO.cutR (tl 125 [(0, .loc 0 0), (1, V.i a1), (5, V.s r8), (6, V.i r10.1), (21, V.b y179)]) [(0, .cells 65 [sL byteRow pa, V.i r10.2.1, V.i r10.2.2])] mix (by
  refine wR 3 101 ?_
  refine wJ 18 hv208 (fun hv208 => ?_) (fun hv208 => ?_)
  ·refine wR 3 101 ?_
   cases hv208
   exact fS [(0, 0)] [0, 1, 5, 6, 21]
  refine wR 3 101 ?_
  cases hv208
  exact fS [(0, 0)] [0, 1, 5, 6, 21]
  ) ?_
 refine cI h (fun _ h => ?_) (fun _ h => ?_)
 ·exact cK 101 hk206 (a1, r8, r10, 6) h [(0, 0)] [0, 1, 5, 6]
 exact sK hk206 (a1, r8, r10, r10.1) h [(0, 0)] [0, 1, 5, 6]

theorem ms_l14Body_F_ok (N : Nat) (R : Rec4) (HR : RecOk4 R) (a1 : Int) (pa : LU) (pb : Int) (pc : Int) {r : (LU × Int × Int)} (h : ms_l14Body_F N R a1 pa pb pc = some r) :
    AC Tryz.prog (GS []) 108 [.loc 0 0, V.i a1] [(0, .cells 65 [sL byteRow pa, V.i pb, V.i pc])] (V.s r.1) [(0, .cells 65 [sL byteRow pa, V.i r.2.1, V.i r.2.2])] := by
 rw [ms_l14Body_F] at h
 refine AC.enter Tryz.func108 rfl (cV 100 (cV 100 (CO.seq' (bB h fun r84 hx84 h => (CO.sw mix (wR 1 100 (wC (ms_l1Below_ok 3 pa pb pc hx84) cok37 [(0, 0)] [(0, 0)] [] (wR 1 100 ?_))))))))
 refine wF (CO.block' (CO.loopJ (fun (⟨a1, y109, y110, y111, y112⟩ : (Int × LU × Int × Int × Int)) => ⟨tl 27 [(0, .loc 0 0), (1, V.i a1), (5, V.s y109), (6, V.i y110)], [(0, .cells 65 [sL byteRow pa, V.i y111, V.i y112])]⟩) (fun n i => ms_l14Body_l1 N R pa n i = some r) (n0 := N) (i0 := (a1, [], r84.1, r84.2.1, r84.2.2)) (wS [(0, 0)] [0, 1, 5, 6]) h (fun i h => by simp [ms_l14Body_l1] at h) ?_))
 rintro n1 ⟨a1, y109, y110, y111, y112⟩ h137 ih138
 rw [ms_l14Body_l1] at h137
 refine CO.seq' (cV 164 ?_)
 refine cI h137 (fun _ h137 => ?_) (fun _ h137 => ?_)
 ·refine CO.skip (CO.seq' (CO.block' (bB h137 fun r159 hx159 h137 => (bB h137 fun s160 hx160 h137 => (bB h137 fun r161 hx161 h137 => (bB h137 fun s162 hx162 h137 => (bB h137 fun r163 hx163 h137 => (bB h137 fun s164 hx164 h137 => ?_))))))))
  refine CO.endR (tl 27 [(0, .loc 0 0), (1, V.i a1), (5, V.s s164), (6, V.i y110)]) [(0, .cells 65 [sL byteRow pa, V.i r163.2.1, V.i r163.2.2])] mix (by
   refine wR 3 164 (wD (ms_l1Pick_ok [[], [10], [32], [35, 32, 99, 10], [59, 32]] pa y111 y112 hx159) cok46 [(0, 0)] [(0, 0)] [] (LayOk.cons (j := 164) eNS eNS ([[], [10], [32], [35, 32, 99, 10], [59, 32]] : LLU) (by kernel_rfl) (fun _ => rfl) lO) (W.cat hx160 (by kernel_rfl) (wR 2 165 (wC (HR.ms_l14Stmt a1 pa r159.2.1 r159.2.2 _ hx161) cok126 [(0, 0)] [(0, 0)] [] (W.cat hx162 (by kernel_rfl) (wR 2 165 (wD (ms_l1Pick_ok [[59], [10], [10], [32, 35, 32, 116, 10], [59, 10]] pa r161.2.1 r161.2.2 hx163) cok46 [(0, 0)] [(0, 0)] [] (LayOk.cons (j := 165) eNS eNS ([[59], [10], [10], [32, 35, 32, 116, 10], [59, 10]] : LLU) (by kernel_rfl) (fun _ => rfl) lO) (W.cat hx164 (by kernel_rfl) ?_))))))))
   refine wR 1 166 ?_
   exact fI
   ) (fun st hw => ?_)
  refine CO.weak hw ?_
  exact cK 166 ih138 (a1, s164, (wr (y110 - 1)), r163.2.1, r163.2.2) h137 [(0, 0)] [0, 1, 5, 6]
 refine CO.exit (cV 164 (CO.ret ?_))
 have h137 := sI h137
 subst h137
 exact eG [(0, 0)] (.inr rfl) (RetV.one rfl (oT (t := 4) (r := V.s y109)))

theorem scc4_ok : ∀ N, RecOk4 (scc4 N)
 | 0 => ⟨fun _ _ _ _ _ h => (by cases h), fun _ _ _ _ _ h => (by cases h)⟩
 | N + 1 => ⟨fun a1 pa pb pc _ h => ms_l14Stmt_F_ok N (scc4 N) (scc4_ok N) a1 pa pb pc h, fun a1 pa pb pc _ h => ms_l14Body_F_ok N (scc4 N) (scc4_ok N) a1 pa pb pc h⟩

theorem ms_l14Body_ok (N : Nat) (a1 : Int) (pa : LU) (pb : Int) (pc : Int) {r : (LU × Int × Int)} (h : ms_l14Body N a1 pa pb pc = some r) :
  AC Tryz.prog (GS []) 108 [.loc 0 0, V.i a1] [(0, .cells 65 [sL byteRow pa, V.i pb, V.i pc])] (V.s r.1) [(0, .cells 65 [sL byteRow pa, V.i r.2.1, V.i r.2.2])] :=
 (scc4_ok N).ms_l14Body a1 pa pb pc r h

theorem ms_l14Item_ok (N : Nat) (pa : LU) (pb : Int) (pc : Int) {r : (LU × Int × Int)} (h : ms_l14Item N pa pb pc = some r) :
    AC Tryz.prog (GS []) 92 [.loc 0 0] [(0, .cells 65 [sL byteRow pa, V.i pb, V.i pc])] (V.s r.1) [(0, .cells 65 [sL byteRow pa, V.i r.2.1, V.i r.2.2])] := by
 rw [ms_l14Item] at h
 refine AC.enter Tryz.func92 rfl (cV 100 (bB h fun r4 hx4 h => (bB h fun s5 hx5 h => (bB h fun s6 hx6 h => (CO.sw mix (wR 1 100 (wC (ms_l14Body_ok N 2 pa pb pc hx4) cok108 [(0, 0)] [(0, 0)] [] (W.cat hx5 (by kernel_rfl) ?_))))))))
 refine W.cat hx6 (by kernel_rfl) (wR 1 100 (wF (bB h fun r10 hx10 h => (bB h fun r11 hx11 h => (bB h fun r12 hx12 h => (CO.sw mix (wR 1 100 (wC (ms_l7Expr_ok N 1 pa r4.2.1 r4.2.2 hx10) cok110 [(0, 0)] [(0, 0), (100, 100)] [100] ?_))))))))
 refine w0 (ms_Top_ok  hx11) cok111 (W.lend (ms_ExprText_ok N r10.1 r11 hx12) cok109 [] [] (LayOk.cons (j := 100) (eSN true) (eSN false) r10.1 (by kernel_rfl) (sh_eSN _) lO) (.c _) .nil (by kernel_rfl) (by kernel_rfl) (wR 1 101 (wF (CO.seq' (bB h fun r44 hx49 h => (CO.sw mix (wR 1 101 (wC (ms_l1Below_ok 6 pa r10.2.1 r10.2.2 hx49) cok37 [(0, 0)] [(0, 0)] [] ?_))))))))
 refine wF (CO.block' (cV 101 ?_))
 refine cI h (fun _ h => ?_) (fun _ h => ?_)
 ·refine bB h fun r47 hx53 h => (bB h fun s48 hx54 h => (CO.sw mix (wR 2 101 (wD (ms_l1Pick_ok [[66, 69, 71, 73, 78], [69, 78, 68]] pa r44.2.1 r44.2.2 hx53) cok46 [(0, 0)] [(0, 0)] [] (LayOk.cons (j := 101) eNS eNS ([[66, 69, 71, 73, 78], [69, 78, 68]] : LLU) (by kernel_rfl) (fun _ => rfl) lO) (wR 1 102 (W.cat hx54 (by kernel_rfl) (wR 1 102 (wF ?_))))))))
  refine CO.ret ?_
  have h := sI h
  subst h
  exact eG [(0, 0)] (.inr rfl) (RetV.one rfl (oT (t := 2) (r := V.s s48)))
 refine cV 101 ?_
 refine cI h (fun _ h => ?_) (fun _ h => ?_)
 ·refine bB h fun r57 hx64 h => (bB h fun s58 hx65 h => (bB h fun r59 hx66 h => (bB h fun s60 hx67 h => (bB h fun s61 hx68 h => (bB h fun r62 hx69 h => (bB h fun s63 hx70 h => (bB h fun s64 hx71 h => (CO.sw mix ?_))))))))
  refine wR 2 101 (wD (ms_l1Pick_ok [[102, 40], [102, 32, 40]] pa r44.2.1 r44.2.2 hx64) cok46 [(0, 0)] [(0, 0)] [] (LayOk.cons (j := 101) eNS eNS ([[102, 40], [102, 32, 40]] : LLU) (by kernel_rfl) (fun _ => rfl) lO) (W.cat hx65 (by kernel_rfl) (wR 2 102 (wD (ms_l1Pick_ok [[], [120], [120, 44, 32, 121], [120, 44, 10, 121]] pa r57.2.1 r57.2.2 hx66) cok46 [(0, 0)] [(0, 0)] [] (LayOk.cons (j := 102) eNS eNS ([[], [120], [120, 44, 32, 121], [120, 44, 10, 121]] : LLU) (by kernel_rfl) (fun _ => rfl) lO) (W.cat hx67 (by kernel_rfl) (W.cat hx68 (by kernel_rfl) (wR 2 103 (wD (ms_l1Pick_ok [[], [10], [32, 35, 32, 100, 10]] pa r59.2.1 r59.2.2 hx69) cok46 [(0, 0)] [(0, 0)] [] (LayOk.cons (j := 103) eNS eNS ([[], [10], [32, 35, 32, 100, 10]] : LLU) (by kernel_rfl) (fun _ => rfl) lO) ?_))))))))
  refine W.cat hx70 (by kernel_rfl) (wR 1 104 (W.cat hx71 (by kernel_rfl) (wR 1 104 (wF (CO.ret ?_)))))
  have h := sI h
  subst h
  exact eG [(0, 0)] (.inr rfl) (RetV.one rfl (oT (t := 2) (r := V.s s64)))
 refine cV 101 ?_
 refine cI h (fun _ h => ?_) (fun _ h => ?_)
 ·refine cV 101 (CO.ret ?_)
  have h := sI h
  subst h
  exact eG [(0, 0)] (.inr rfl) (RetV.one rfl (oT (t := 2) (r := V.s r12)))
 refine cV 101 ?_
 refine cI h (fun _ h => ?_) (fun _ h => ?_)
 ·refine bB h fun s69 hx78 h => (bB h fun s70 hx79 h => (bB h fun r71 hx80 h => (bB h fun s72 hx81 h => (CO.sw mix (wR 1 101 (W.cat hx78 (by kernel_rfl) (wR 1 101 (W.cat hx79 (by kernel_rfl) ?_))))))))
  refine wR 3 101 (wD (ms_l1Pick_ok [[], s6] pa r44.2.1 r44.2.2 hx80) cok46 [(0, 0)] [(0, 0)] [] (LayOk.cons (j := 101) eNS eNS ([[], s6] : LLU) (by kernel_rfl) (fun _ => rfl) lO) (W.cat hx81 (by kernel_rfl) (wR 1 102 (wF (CO.ret ?_)))))
  have h := sI h
  subst h
  exact eG [(0, 0)] (.inr rfl) (RetV.one rfl (oT (t := 2) (r := V.s s72)))
 refine cV 101 ?_
 refine cI h (fun _ h => ?_) (fun _ h => ?_)
 ·refine cV 101 (CO.ret ?_)
  have h := sI h
  subst h
  exact eG [(0, 0)] (.inr rfl) (RetV.one rfl (oT (t := 2) (r := V.s s6)))
 refine CO.skip (bB h fun s74 hx84 h => (CO.sw mix (wR 2 101 (W.cat hx84 (by kernel_rfl) (wR 1 101 (wF (CO.ret ?_)))))))
 have h := sI h
 subst h
 exact eG [(0, 0)] (.inr rfl) (RetV.one rfl (oT (t := 2) (r := V.s s74)))

theorem ms_l14Source_ok (N : Nat) (pa : LU) (pb : Int) (pc : Int) {r : (LU × Int × Int)} (h : ms_l14Source N pa pb pc = some r) :
    AC Tryz.prog (GS []) 63 [.loc 0 0] [(0, .cells 65 [sL byteRow pa, V.i pb, V.i pc])] (V.s r.1) [(0, .cells 65 [sL byteRow pa, V.i r.2.1, V.i r.2.2])] := by
 rw [ms_l14Source] at h
 refine AC.enter Tryz.func63 rfl (cV 100 (cV 100 (CO.seq' (bB h fun r84 hx84 h => (CO.sw mix (wR 1 100 (wC (ms_l1Below_ok 4 pa pb pc hx84) cok37 [(0, 0)] [(0, 0)] [] (wR 1 100 ?_))))))))
 refine wF (CO.block' (CO.loopJ (fun (⟨y109, y110, y111, y112⟩ : (LU × Int × Int × Int)) => ⟨tl 24 [(0, .loc 0 0), (3, V.s y109), (4, V.i y110)], [(0, .cells 65 [sL byteRow pa, V.i y111, V.i y112])]⟩) (fun n i => ms_l14Source_l1 N pa n i = some r) (n0 := N) (i0 := ([], r84.1, r84.2.1, r84.2.2)) (wS [(0, 0)] [0, 3, 4]) h (fun i h => by simp [ms_l14Source_l1] at h) ?_))
 rintro n1 ⟨y109, y110, y111, y112⟩ h137 ih138
 rw [ms_l14Source_l1] at h137
 refine CO.seq' (cV 164 ?_)
 refine cI h137 (fun _ h137 => ?_) (fun _ h137 => ?_)
 ·refine CO.skip (CO.seq' (CO.block' (bB h137 fun r159 hx159 h137 => (bB h137 fun s160 hx160 h137 => (bB h137 fun r161 hx161 h137 => (bB h137 fun s162 hx162 h137 => (bB h137 fun r163 hx163 h137 => (bB h137 fun s164 hx164 h137 => ?_))))))))
  refine CO.endR (tl 24 [(0, .loc 0 0), (3, V.s s164), (4, V.i y110)]) [(0, .cells 65 [sL byteRow pa, V.i r163.2.1, V.i r163.2.2])] mix (by
   refine wR 3 164 (wD (ms_l1Pick_ok [[], [10], [35, 32, 116, 111, 112, 10], []] pa y111 y112 hx159) cok46 [(0, 0)] [(0, 0)] [] (LayOk.cons (j := 164) eNS eNS ([[], [10], [35, 32, 116, 111, 112, 10], []] : LLU) (by kernel_rfl) (fun _ => rfl) lO) (W.cat hx160 (by kernel_rfl) (wR 1 165 (wC (ms_l14Item_ok N pa r159.2.1 r159.2.2 hx161) cok92 [(0, 0)] [(0, 0)] [] (W.cat hx162 (by kernel_rfl) (wR 2 165 (wD (ms_l1Pick_ok [[10], [10, 10], [59], [32, 35, 32, 101, 10]] pa r161.2.1 r161.2.2 hx163) cok46 [(0, 0)] [(0, 0)] [] (LayOk.cons (j := 165) eNS eNS ([[10], [10, 10], [59], [32, 35, 32, 101, 10]] : LLU) (by kernel_rfl) (fun _ => rfl) lO) (W.cat hx164 (by kernel_rfl) ?_))))))))
   refine wR 1 166 ?_
   exact fI
   ) (fun st hw => ?_)
  refine CO.weak hw ?_
  exact cK 166 ih138 (s164, (wr (y110 - 1)), r163.2.1, r163.2.2) h137 [(0, 0)] [0, 3, 4]
 refine CO.exit (cV 164 (CO.ret ?_))
 have h137 := sI h137
 subst h137
 exact eG [(0, 0)] (.inr rfl) (RetV.one rfl (oT (t := 2) (r := V.s y109)))

theorem ms_l1Text_ok (N : Nat) (a1 : Int) (pa : LU) (pb : Int) (pc : Int) {r : (LU × Int × Int)} (h : ms_l1Text N a1 pa pb pc = some r) :
    AC Tryz.prog (GS []) 91 [.loc 0 0, V.i a1] [(0, .cells 65 [sL byteRow pa, V.i pb, V.i pc])] (V.s r.1) [(0, .cells 65 [sL byteRow pa, V.i r.2.1, V.i r.2.2])] := by
 rw [ms_l1Text] at h
 refine AC.enter Tryz.func91 rfl (cV 100 (cV 100 (bB h fun r2 hx2 h => (CO.sw mix (wR 1 101 (wC (ms_l1Below_ok 4 pa pb pc hx2) cok37 [(0, 0)] [(0, 0)] [] (wR 1 101 (wF ?_))))))))
 refine CO.seq' (bB h fun r50 hx86 h => (CO.sw mix (wR 3 101 (wC (ms_l1Below_ok (wr (a1 + 1)) pa r2.2.1 r2.2.2 hx86) cok37 [(0, 0)] [(0, 0)] [] (wR 1 101 (wF (CO.block' (CO.loopJ (fun (⟨r2, y63, y64, y65, y66⟩ : ((Int × Int × Int) × Int × Int × Int × LU)) => ⟨tl 38 [(0, .loc 0 0), (5, .own 100), (6, V.i r2.1), (7, V.i y63)], [(0, .cells 65 [sL byteRow pa, V.i y64, V.i y65]), (100, vX 5 1 byteRow y66)]⟩) (fun n i => ms_l1Text_l1 N pa n i = some r) (n0 := N) (i0 := (r2, r50.1, r50.2.1, r50.2.2, [])) (wS [(0, 0), (100, 100)] [0, 5, 6, 7]) h (fun i h => by simp [ms_l1Text_l1] at h) ?_))))))))
 rintro n1 ⟨r2, y63, y64, y65, y66⟩ h139 ih140
 rw [ms_l1Text_l1] at h139
 refine CO.seq' (cV 165 ?_)
 refine cI h139 (fun _ h139 => ?_) (fun _ h139 => ?_)
 ·refine CO.skip (CO.seq' (CO.block' (bB h139 fun r90 hx156 h139 => (CO.sw mix (wR 1 165 (wC (ms_l1Byte_ok pa y64 y65 hx156) cok65 [(0, 0)] [(0, 0)] [] (wR 1 165 (wF ?_))))))))
  refine CO.join (fun (⟨r2, y63, r90, y66, y91⟩ : ((Int × Int × Int) × Int × (Int × Int × Int) × LU × Int)) => ⟨tl 38 [(0, .loc 0 0), (5, .own 100), (6, V.i r2.1), (7, V.i y63), (8, V.i y91)], [(0, .cells 65 [sL byteRow pa, V.i r90.2.1, V.i r90.2.2]), (100, vX 5 1 byteRow y66)]⟩) (fun i => ms_l1Text_k2 N pa (ms_l1Text_l1 N pa n1) i = some r) ?_ ?_
  · rintro ⟨r2, y63, r90, y66, y91⟩ h158
    rw [ms_l1Text_k2] at h158
    refine CO.join (fun (⟨r2, y63, r90, y66, y92⟩ : ((Int × Int × Int) × Int × (Int × Int × Int) × LU × Int)) => ⟨tl 38 [(0, .loc 0 0), (5, .own 100), (6, V.i r2.1), (7, V.i y63), (8, V.i y92)], [(0, .cells 65 [sL byteRow pa, V.i r90.2.1, V.i r90.2.2]), (100, vX 5 1 byteRow y66)]⟩) (fun i => ms_l1Text_k3 N pa (ms_l1Text_l1 N pa n1) i = some r) ?_ ?_
    · rintro ⟨r2, y63, r90, y66, y92⟩ h160
      rw [ms_l1Text_k3] at h160
      refine bB h160 fun x94 hx162 h160 => ?_
      refine CO.endR (tl 38 [(0, .loc 0 0), (5, .own 166), (6, V.i r2.1), (7, V.i y63)]) [(166, vX 5 1 byteRow x94), (0, .cells 65 [sL byteRow pa, V.i r90.2.1, V.i r90.2.2])] mix (by
       refine wR 3 165 (wR 1 165 (W.vecEq 165 (nn := true) (e := 5) (k := 1) (rows := [[.c (.int .u8 (IntKind.wrap .u8 y92))]]) (rows' := [(bytI y92)].map byteRow) (by kernel_rfl) (by first | (simp only [List.map_cons, List.map_nil, ← bytI_row]; done) | (simp only [List.map_cons, List.map_nil, ← bytI_row]; rfl)) (W.appO Dk byteRow (a := 100) (c := 165) (el := 5) (sz := 1) 1 hx162 rfl 166 (by kernel_rfl) (wR 1 167 ?_))))
       exact fI
       ) (fun st hw => ?_)
      refine CO.weak hw ?_
      exact cK 167 ih140 (r2, (wr (y63 - 1)), r90.2.1, r90.2.2, x94) h160 [(0, 0), (166, 100)] [0, 5, 6, 7]
    intro hk163
    refine cV 165 ?_
    refine cI h158 (fun _ h158 => ?_) (fun _ h158 => ?_)
    ·exact cK 165 hk163 (r2, y63, r90, y66, (wr (97 + (Int.tmod y91 4)))) h158 [(0, 0), (100, 100)] [0, 5, 6, 7, 8]
    exact sK hk163 (r2, y63, r90, y66, y91) h158 [(0, 0), (100, 100)] [0, 5, 6, 7, 8]
  intro hk165
  refine cV 165 ?_
  refine cI h139 (fun _ h139 => ?_) (fun _ h139 => ?_)
  ·exact cK 165 hk165 (r2, y63, r90, y66, (Int.tmod r90.1 2)) h139 [(0, 0), (100, 100)] [0, 5, 6, 7, 8]
  exact sK hk165 (r2, y63, r90, y66, r90.1) h139 [(0, 0), (100, 100)] [0, 5, 6, 7, 8]
 refine CO.exit (CO.sw mix (wR 1 165 (W.strO Dk y66 (a := 100) (by kernel_rfl) (wR 1 165 (wF (CO.ret ?_))))))
 have h139 := sI h139
 subst h139
 exact eG [(0, 0)] (.inr rfl) (RetV.one rfl (oT (t := 4) (r := V.s y66)))

theorem ms_l1Spoil_ok (N : Nat) (a1 : LU) (pa : LU) (pb : Int) (pc : Int) {r : (LU × Int × Int)} (h : ms_l1Spoil N a1 pa pb pc = some r) :
    AC Tryz.prog (GS []) 62 [.loc 0 0, V.s a1] [(0, .cells 65 [sL byteRow pa, V.i pb, V.i pc])] (V.s r.1) [(0, .cells 65 [sL byteRow pa, V.i r.2.1, V.i r.2.2])] := by
 rw [ms_l1Spoil] at h
 refine AC.enter Tryz.func62 rfl (cV 100 (CO.seq' (cV 100 ?_)))
 refine cI h (fun _ h => ?_) (fun _ h => ?_)
 ·refine bB h fun r4 hx6 h => (CO.sw mix (wR 1 100 (wC (ms_l1Text_ok N 3 pa pb pc hx6) cok91 [(0, 0)] [(0, 0)] [] (wR 1 100 (wF (CO.ret ?_))))))
  have h := sI h
  subst h
  exact eG [(0, 0)] (.inr rfl) (RetV.one rfl (oT (t := 4) (r := V.s r4.1)))
 refine CO.skip (bB h fun r6 hx8 h => (CO.sw mix (wR 3 100 (wC (ms_l1Below_ok (a1.length : Int) pa pb pc hx8) cok37 [(0, 0)] [(0, 0)] [] (wR 1 100 (wF (CO.seq' (bB h fun r28 hx33 h => ?_))))))))
 refine CO.sw mix (wR 1 100 (wC (ms_l1Below_ok 4 pa r6.2.1 r6.2.2 hx33) cok37 [(0, 0)] [(0, 0)] [] (wF (CO.block' (cV 100 ?_)))))
 refine cI h (fun _ h => ?_) (fun _ h => ?_)
 ·refine bB h fun s32 hx38 h => (bB h fun s33 hx39 h => (bB h fun s34 hx40 h => (CO.sw mix (wR 2 100 (W.cutS Dk hx38 (by kernel_rfl) (wR 3 100 (W.cutS Dk hx39 (by kernel_rfl) (W.cat hx40 (by kernel_rfl) ?_))))))))
  refine wR 1 100 (wF (CO.ret ?_))
  have h := sI h
  subst h
  exact eG [(0, 0)] (.inr rfl) (RetV.one rfl (oT (t := 4) (r := V.s s34)))
 refine cV 100 ?_
 refine cI h (fun _ h => ?_) (fun _ h => ?_)
 ·refine bB h fun s40 hx47 h => (bB h fun r41 hx48 h => (bB h fun s42 hx49 h => (bB h fun s43 hx50 h => (bB h fun s44 hx51 h => (CO.sw mix (wR 2 100 (W.cutS Dk hx47 (by kernel_rfl) (wR 1 100 ?_))))))))
  refine wC (ms_l1Byte_ok pa r28.2.1 r28.2.2 hx48) cok65 [(0, 0)] [(0, 0)] [] (wR 1 100 (wR 1 100 (W.vecEq 100 (nn := true) (e := 5) (k := 1) (rows := [[.c (.int .u8 (IntKind.wrap .u8 r41.1))]]) (rows' := [(bytI r41.1)].map byteRow) (by kernel_rfl) (by first | (simp only [List.map_cons, List.map_nil, ← bytI_row]; done) | (simp only [List.map_cons, List.map_nil, ← bytI_row]; rfl)) (W.strO Dk ([(bytI r41.1)] : LU) (a := 100) (by kernel_rfl) (W.cat hx49 (by kernel_rfl) (wR 2 101 (W.cutS Dk hx50 (by kernel_rfl) (W.cat hx51 (by kernel_rfl) ?_))))))))
  refine wR 1 101 (wF (CO.ret ?_))
  have h := sI h
  subst h
  exact eG [(0, 0)] (.inr rfl) (RetV.one rfl (oT (t := 4) (r := V.s s44)))
 refine cV 100 ?_
 refine cI h (fun _ h => ?_) (fun _ h => ?_)
 ·refine bB h fun s46 hx54 h => (CO.sw mix (wR 2 100 (W.cutS Dk hx54 (by kernel_rfl) (wR 1 100 (wF (CO.ret ?_))))))
  have h := sI h
  subst h
  exact eG [(0, 0)] (.inr rfl) (RetV.one rfl (oT (t := 4) (r := V.s s46)))
 refine CO.skip (bB h fun s53 hx61 h => (bB h fun b54 hx62 h => (bB h fun r55 hx63 h => (bB h fun s56 hx64 h => (bB h fun s57 hx65 h => (bB h fun s58 hx66 h => (CO.sw mix (wR 2 100 ?_))))))))
 refine W.cutS Dk hx61 (by kernel_rfl) (wR 2 100 (W.ixS Dk hx62 (by kernel_rfl) (wR 2 100 (wC (ms_l1Below_ok 255 pa r28.2.1 r28.2.2 hx63) cok37 [(0, 0)] [(0, 0)] [] (wR 3 100 (wR 1 100 (W.vecEq 100 (nn := true) (e := 5) (k := 1) (rows := [[.c (.int .u8 (IntKind.wrap .u8 (bits .xor .i64 (wr ((b54).toNat : Int)) (wr (1 + r55.1)))))]]) (rows' := [(bytI (bits .xor .i64 (wr ((b54).toNat : Int)) (wr (1 + r55.1))))].map byteRow) (by kernel_rfl) (by first | (simp only [List.map_cons, List.map_nil, ← bytI_row]; done) | (simp only [List.map_cons, List.map_nil, ← bytI_row]; rfl)) (W.strO Dk ([(bytI (bits .xor .i64 (wr ((b54).toNat : Int)) (wr (1 + r55.1))))] : LU) (a := 100) (by kernel_rfl) ?_))))))))
 refine W.cat hx64 (by kernel_rfl) (wR 3 101 (W.cutS Dk hx65 (by kernel_rfl) (W.cat hx66 (by kernel_rfl) (wR 1 101 (wF (CO.ret ?_))))))
 have h := sI h
 subst h
 exact eG [(0, 0)] (.inr rfl) (RetV.one rfl (oT (t := 4) (r := V.s s58)))

theorem ms_l5Token_ok (pa : LU) (pb : Int) (pc : Int) {r : (SToken × Int × Int)} (h : ms_l5Token pa pb pc = some r) :
    AC Tryz.prog (GS []) 97 [.loc 0 0] [(0, .cells 65 [sL byteRow pa, V.i pb, V.i pc])] (.agg [V.i r.1.Kind, V.s r.1.Text, V.i r.1.At]) [(0, .cells 65 [sL byteRow pa, V.i r.2.1, V.i r.2.2])] := by
 rw [ms_l5Token] at h
 refine AC.enter Tryz.func97 rfl (cV 100 (CO.seq' (bB h fun r21 hx30 h => (CO.sw mix (wR 1 101 (wC (ms_l1Below_ok 10 pa pb pc hx30) cok37 [(0, 0)] [(0, 0)] [] (wF (CO.block' ?_))))))))
 refine cV 101 ?_
 refine cI h (fun _ h => ?_) (fun _ h => ?_)
 ·refine bB h fun r23 hx33 h => (CO.sw mix (wR 1 101 (wC (ms_l4Num_ok pa r21.2.1 r21.2.2 hx33) cok117 [(0, 0)] [(0, 0)] [] (wR 2 101 (wF (CO.ret ?_))))))
  have h := sI h
  subst h
  exact eG [(0, 0)] (.inr rfl) (RetV.one rfl (OneR.cell Dk (r := .agg [V.i 3, V.s r23.1, V.i 0]) (i := 100) (ety := 36) (cs := [V.i 3, V.s r23.1, V.i 0]) (by kernel_rfl) (by kernel_rfl) (by kernel_rfl)))
 refine cV 101 ?_
 refine cI h (fun _ h => ?_) (fun _ h => ?_)
 ·refine bB h fun r25 hx36 h => (CO.sw mix (wR 1 101 (wC (ms_l4Str_ok pa r21.2.1 r21.2.2 hx36) cok118 [(0, 0)] [(0, 0)] [] (wR 2 101 (wF (CO.ret ?_))))))
  have h := sI h
  subst h
  exact eG [(0, 0)] (.inr rfl) (RetV.one rfl (OneR.cell Dk (r := .agg [V.i 4, V.s r25.1, V.i 0]) (i := 100) (ety := 36) (cs := [V.i 4, V.s r25.1, V.i 0]) (by kernel_rfl) (by kernel_rfl) (by kernel_rfl)))
 refine cV 101 ?_
 refine cI h (fun _ h => ?_) (fun _ h => ?_)
 ·refine bB h fun r27 hx39 h => (CO.sw mix (wR 1 101 (wC (ms_l4Ere_ok pa r21.2.1 r21.2.2 hx39) cok119 [(0, 0)] [(0, 0)] [] (wR 2 101 (wF (CO.ret ?_))))))
  have h := sI h
  subst h
  exact eG [(0, 0)] (.inr rfl) (RetV.one rfl (OneR.cell Dk (r := .agg [V.i 5, V.s r27.1, V.i 0]) (i := 100) (ety := 36) (cs := [V.i 5, V.s r27.1, V.i 0]) (by kernel_rfl) (by kernel_rfl) (by kernel_rfl)))
 refine CO.join (fun (⟨r21, y28⟩ : ((Int × Int × Int) × Bool)) => ⟨tl 50 [(0, .loc 0 0), (2, .loc 100 0), (6, V.i r21.1), (22, V.b y28)], [(0, .cells 65 [sL byteRow pa, V.i r21.2.1, V.i r21.2.2]), (100, .cells 36 [V.i 0, V.s [], V.i 0])]⟩) (fun i => ms_l5Token_k1 pa i = some r) ?_ ?_
 · rintro ⟨r21, y28⟩ h41
   rw [ms_l5Token_k1] at h41
   refine cI h41 (fun _ h41 => ?_) (fun _ h41 => ?_)
   ·refine bB h41 fun r30 hx44 h41 => (CO.sw mix (wR 1 101 (wC (ms_l2Word_ok pa r21.2.1 r21.2.2 hx44) cok120 [(0, 0)] [(0, 0)] [] (wR 2 101 (wF (CO.ret ?_))))))
    have h41 := sI h41
    subst h41
    exact eG [(0, 0)] (.inr rfl) (RetV.one rfl (OneR.cell Dk (r := .agg [V.i 6, V.s r30.1, V.i 0]) (i := 100) (ety := 36) (cs := [V.i 6, V.s r30.1, V.i 0]) (by kernel_rfl) (by kernel_rfl) (by kernel_rfl)))
   refine cV 101 ?_
   refine cI h41 (fun _ h41 => ?_) (fun _ h41 => ?_)
   ·refine bB h41 fun r33 hx48 h41 => (bB h41 fun r34 hx49 h41 => (CO.sw mix (wR 1 101 (wC (ms_l3Builtins_ok  hx48) cok107 [] [(100, 101)] [101] (wD (ms_l1Pick_ok r33 pa r21.2.1 r21.2.2 hx49) cok46 [(0, 0)] [(0, 0)] [] (LayOk.cons (j := 101) eNS eNS r33 (by kernel_rfl) (fun _ => rfl) lO) (wR 2 102 (wF (CO.ret ?_))))))))
    have h41 := sI h41
    subst h41
    exact eG [(0, 0)] (.inr rfl) (RetV.one rfl (OneR.cell Dk (r := .agg [V.i 8, V.s r34.1, V.i 0]) (i := 100) (ety := 36) (cs := [V.i 8, V.s r34.1, V.i 0]) (by kernel_rfl) (by kernel_rfl) (by kernel_rfl)))
   refine cV 101 ?_
   refine cI h41 (fun _ h41 => ?_) (fun _ h41 => ?_)
   ·refine bB h41 fun r36 hx52 h41 => (CO.sw mix (wR 1 101 (wC (ms_l1Below_ok 17 pa r21.2.1 r21.2.2 hx52) cok37 [(0, 0)] [(0, 0)] [] (wR 2 101 (wF (bB h41 fun r38 hx54 h41 => (cC 2 101 (ms_SpellOf_ok (wr (10 + r36.1)) hx54) cok121 (CO.ret ?_))))))))
    have h41 := sI h41
    subst h41
    exact eG [(0, 0)] (.inr rfl) (RetV.one rfl (OneR.cell Dk (r := .agg [V.i (wr (10 + r36.1)), V.s r38, V.i 0]) (i := 100) (ety := 36) (cs := [V.i (wr (10 + r36.1)), V.s r38, V.i 0]) (by kernel_rfl) (by kernel_rfl) (by kernel_rfl)))
   refine CO.skip (bB h41 fun r40 hx56 h41 => (CO.sw mix (wR 1 101 (wC (ms_l1Below_ok 39 pa r21.2.1 r21.2.2 hx56) cok37 [(0, 0)] [(0, 0)] [] (wR 2 101 (wF (bB h41 fun r42 hx58 h41 => (cC 2 101 (ms_SpellOf_ok (wr (30 + r40.1)) hx58) cok121 ?_))))))))
   refine CO.ret ?_
   have h41 := sI h41
   subst h41
   exact eG [(0, 0)] (.inr rfl) (RetV.one rfl (OneR.cell Dk (r := .agg [V.i (wr (30 + r40.1)), V.s r42, V.i 0]) (i := 100) (ety := 36) (cs := [V.i (wr (30 + r40.1)), V.s r42, V.i 0]) (by kernel_rfl) (by kernel_rfl) (by kernel_rfl)))
 intro hk59
 refine cV 101 ?_
 refine cI h (fun _ h => ?_) (fun _ h => ?_)
 ·exact sK hk59 (r21, (r21.1 == 3)) h [(0, 0), (100, 100)] [0, 2, 6, 22]
 exact cK 101 hk59 (r21, (r21.1 == 4)) h [(0, 0), (100, 100)] [0, 2, 6, 22]

theorem ms_EndsOperand_ok (a0 : Int) {r : Bool} (h : ms_EndsOperand a0 = some r) :
    AC Tryz.prog (GS []) 31 [V.i a0] [] (V.b r) [] := by
 rw [ms_EndsOperand] at h
 refine AC.enter Tryz.func31 rfl (cV 100 (CO.seq' (cV 100 (CO.block' ?_))))
 refine CO.join (fun (y2 : Bool) => ⟨tl 14 [(4, V.b y2)], []⟩) (fun i => ms_EndsOperand_k1 i = some r) ?_ ?_
 · rintro y2 h28
   rw [ms_EndsOperand_k1] at h28
   refine cI h28 (fun _ h28 => ?_) (fun _ h28 => ?_)
   ·refine cV 100 ?_
    cases h28
    exact e1 2 id
   refine CO.skip (cV 100 ?_)
   cases h28
   exact e1 2 id
 intro hk30
 refine cV 100 ?_
 refine cI h (fun _ h => ?_) (fun _ h => ?_)
 ·exact sK hk30 (a0 == 3) h [] [4]
 refine cV 100 ?_
 refine cI h (fun _ h => ?_) (fun _ h => ?_)
 ·exact sK hk30 (a0 == 4) h [] [4]
 refine cV 100 ?_
 refine cI h (fun _ h => ?_) (fun _ h => ?_)
 ·exact sK hk30 (a0 == 5) h [] [4]
 refine cV 100 ?_
 refine cI h (fun _ h => ?_) (fun _ h => ?_)
 ·exact sK hk30 (a0 == 6) h [] [4]
 refine cV 100 ?_
 refine cI h (fun _ h => ?_) (fun _ h => ?_)
 ·exact sK hk30 (a0 == 8) h [] [4]
 refine cV 100 ?_
 refine cI h (fun _ h => ?_) (fun _ h => ?_)
 ·exact sK hk30 (a0 == 33) h [] [4]
 refine cV 100 ?_
 refine cI h (fun _ h => ?_) (fun _ h => ?_)
 ·exact sK hk30 (a0 == 35) h [] [4]
 refine cV 100 ?_
 refine cI h (fun _ h => ?_) (fun _ h => ?_)
 ·exact sK hk30 (a0 == 51) h [] [4]
 exact cK 100 hk30 (a0 == 52) h [] [4]

theorem ms_l5Tokens_ok (N : Nat) (a1 : Int) (pa : LU) (pb : Int) (pc : Int) {r : (LT × Int × Int)} (h : ms_l5Tokens N a1 pa pb pc = some r) :
    AC Tryz.prog (GS []) 73 [.loc 0 0, V.i a1] [(0, .cells 65 [sL byteRow pa, V.i pb, V.i pc])] (.own 100) [(0, .cells 65 [sL byteRow pa, V.i r.2.1, V.i r.2.2]), (100, vX 36 3 eTk r.1)] := by
 rw [ms_l5Tokens] at h
 refine AC.enter Tryz.func73 rfl (cV 100 (cV 100 (CO.seq' (bB h fun r380 hx548 h => (CO.sw mix (wR 3 101 (wC (ms_l1Below_ok (wr (a1 + 1)) pa pb pc hx548) cok37 [(0, 0)] [(0, 0)] [] (wR 1 101 ?_))))))))
 refine wF (CO.block' (CO.loopJ (fun (⟨y497, y498, y499, y500⟩ : (Int × Int × Int × LT)) => ⟨tl 99 [(0, .loc 0 0), (5, .own 100), (6, V.i y497)], [(0, .cells 65 [sL byteRow pa, V.i y498, V.i y499]), (100, vX 36 3 eTk y500)]⟩) (fun n i => ms_l5Tokens_l1 N pa n i = some r) (n0 := N) (i0 := (r380.1, r380.2.1, r380.2.2, [])) (wS [(0, 0), (100, 100)] [0, 5, 6]) h (fun i h => by simp [ms_l5Tokens_l1] at h) ?_))
 rintro n1 ⟨y497, y498, y499, y500⟩ h905 ih906
 rw [ms_l5Tokens_l1] at h905
 refine CO.seq' (cV 173 ?_)
 refine cI h905 (fun _ h905 => ?_) (fun _ h905 => ?_)
 ·refine CO.skip (CO.seq' (CO.block' (cV 173 ?_)))
  refine CO.join (fun (⟨y497, y498, y499, y500, y696⟩ : (Int × Int × Int × LT × Int)) => ⟨tl 99 [(0, .loc 0 0), (5, .own 100), (6, V.i y497), (7, V.i y696)], [(0, .cells 65 [sL byteRow pa, V.i y498, V.i y499]), (100, vX 36 3 eTk y500)]⟩) (fun i => ms_l5Tokens_k2 N pa (ms_l5Tokens_l1 N pa n1) i = some r) ?_ ?_
  · rintro ⟨y497, y498, y499, y500, y696⟩ h1004
    rw [ms_l5Tokens_k2] at h1004
    refine bB h1004 fun r698 hx1006 h1004 => (CO.sw mix (wR 1 173 (wC (ms_l5Token_ok pa y498 y499 hx1006) cok97 [(0, 0)] [(0, 0)] [] (wR 2 173 (wF ?_)))))
    refine CO.join (fun (⟨y497, y723, y724, y725, y726, y727, y728⟩ : (Int × Int × Int × LT × Int × LU × Int)) => ⟨tl 99 [(0, .loc 0 0), (5, .own 100), (6, V.i y497), (8, .loc 101 0)], [(0, .cells 65 [sL byteRow pa, V.i y723, V.i y724]), (100, vX 36 3 eTk y725), (101, .cells 36 [V.i y726, V.s y727, V.i y728])]⟩) (fun i => ms_l5Tokens_k3 N pa (ms_l5Tokens_l1 N pa n1) i = some r) ?_ ?_
    · rintro ⟨y497, y723, y724, y725, y726, y727, y728⟩ h1046
      rw [ms_l5Tokens_k3] at h1046
      refine bB h1046 fun x730 hx1048 h1046 => ?_
      refine CO.endR (tl 99 [(0, .loc 0 0), (5, .own 178), (6, V.i y497)]) [(178, vX 36 3 eTk x730), (0, .cells 65 [sL byteRow pa, V.i y723, V.i y724])] mix (by
       refine wR 3 177 (W.appO Dk eTk (a := 100) (c := 177) (el := 36) (sz := 3) 32 hx1048 rfl 178 (by kernel_rfl) (wR 1 179 ?_))
       exact fI
       ) (fun st hw => ?_)
      refine CO.weak hw ?_
      exact cK 179 ih906 ((wr (y497 - 1)), y723, y724, x730) h1046 [(0, 0), (178, 100)] [0, 5, 6]
    intro hk1049
    refine CO.block' (bB h1004 fun y736 hv1061 h1004 => ?_)
    refine CO.cutR (tl 99 [(0, .loc 0 0), (5, .own 100), (6, V.i y497), (8, .loc 101 0), (30, V.b y736)]) [(0, .cells 65 [sL byteRow pa, V.i r698.2.1, V.i r698.2.2]), (100, vX 36 3 eTk y500), (101, .cells 36 [V.i r698.1.Kind, V.s r698.1.Text, V.i r698.1.At])] mix (by
     refine wR 4 174 ?_
     refine wJ 34 hv1061 (fun hv1061 => ?_) (fun hv1061 => ?_)
     ·refine wR 1 174 (bB hv1061 fun r737 hx1063 hv1061 => (w0 (ms_EndsOperand_ok y696 hx1063) cok31 (wR 2 174 ?_)))
      refine wJ 38 hv1061 (fun hv1061 => ?_) (fun hv1061 => ?_)
      ·refine wR 15 174 ?_
       cases hv1061
       exact fS [(0, 0), (100, 100), (173, 101)] [0, 5, 6, 8, 30]
      refine wR 4 174 ?_
      refine wJ 42 hv1061 (fun hv1061 => ?_) (fun hv1061 => ?_)
      ·refine wR 6 174 (bB hv1061 fun r738 hx1066 hv1061 => (w0 (ms_EndsOperand_ok y696 hx1066) cok31 (wR 4 174 ?_)))
       cases hv1061
       exact fS [(0, 0), (100, 100), (173, 101)] [0, 5, 6, 8, 30]
      refine wR 5 174 ?_
      refine wJ 47 hv1061 (fun hv1061 => ?_) (fun hv1061 => ?_)
      ·refine wR 1 174 (bB hv1061 fun r739 hx1068 hv1061 => (w0 (ms_EndsOperand_ok y696 hx1068) cok31 (wR 4 174 ?_)))
       cases hv1061
       exact fS [(0, 0), (100, 100), (173, 101)] [0, 5, 6, 8, 30]
      refine wR 6 174 ?_
      cases hv1061
      exact fS [(0, 0), (100, 100), (173, 101)] [0, 5, 6, 8, 30]
     refine wR 8 174 ?_
     refine wJ 42 hv1061 (fun hv1061 => ?_) (fun hv1061 => ?_)
     ·refine wR 6 174 (bB hv1061 fun r740 hx1070 hv1061 => (w0 (ms_EndsOperand_ok y696 hx1070) cok31 (wR 4 174 ?_)))
      cases hv1061
      exact fS [(0, 0), (100, 100), (173, 101)] [0, 5, 6, 8, 30]
     refine wR 5 174 ?_
     refine wJ 47 hv1061 (fun hv1061 => ?_) (fun hv1061 => ?_)
     ·refine wR 1 174 (bB hv1061 fun r741 hx1072 hv1061 => (w0 (ms_EndsOperand_ok y696 hx1072) cok31 (wR 4 174 ?_)))
      cases hv1061
      exact fS [(0, 0), (100, 100), (173, 101)] [0, 5, 6, 8, 30]
     refine wR 6 174 ?_
     cases hv1061
     exact fS [(0, 0), (100, 100), (173, 101)] [0, 5, 6, 8, 30]
     ) ?_
    refine cI h1004 (fun _ h1004 => ?_) (fun _ h1004 => ?_)
    ·exact cK 174 hk1049 (y497, r698.2.1, r698.2.2, y500, 1, [10], 0) h1004 [(0, 0), (100, 100), (101, 101)] [0, 5, 6, 8]
    (revert h1004; refine bR ?_; rintro ⟨y743, y744, y745⟩ hv1076 h1004)
    refine CO.cutR (tl 99 [(0, .loc 0 0), (5, .own 100), (6, V.i y497), (8, .loc 101 0), (54, V.b y743)]) [(0, .cells 65 [sL byteRow pa, V.i y744, V.i y745]), (100, vX 36 3 eTk y500), (101, .cells 36 [V.i r698.1.Kind, V.s r698.1.Text, V.i r698.1.At])] mix (by
     refine wR 4 174 ?_
     refine wJ 58 hv1076 (fun hv1076 => ?_) (fun hv1076 => ?_)
     ·refine wR 1 174 (bB hv1076 fun r746 hx1078 hv1076 => (wC (ms_l1Once_ok 4 pa r698.2.1 r698.2.2 hx1078) cok48 [(0, 0)] [(0, 0)] [] (wR 2 174 ?_)))
      simp only [Option.some.injEq, Prod.mk.injEq] at hv1076
      obtain ⟨e0, e1, e2⟩ := hv1076
      subst e0
      subst e1
      subst e2
      exact fS [(0, 0), (100, 100), (101, 101)] [0, 5, 6, 8, 54]
     refine wR 4 174 ?_
     simp only [Option.some.injEq, Prod.mk.injEq] at hv1076
     obtain ⟨e0, e1, e2⟩ := hv1076
     subst e0
     subst e1
     subst e2
     exact fS [(0, 0), (100, 100), (101, 101)] [0, 5, 6, 8, 54]
     ) ?_
    refine cI h1004 (fun _ h1004 => ?_) (fun _ h1004 => ?_)
    ·refine cV 174 (bB h1004 fun x748 hx1081 h1004 => (CO.sw mix (wR 3 174 (W.appO Dk eTk (a := 100) (c := 174) (el := 36) (sz := 3) 32 hx1081 rfl 175 (by kernel_rfl) (wR 1 176 (wF ?_))))))
     exact cK 176 hk1049 (y497, y744, y745, x748, 32, [40], 0) h1004 [(0, 0), (175, 100), (101, 101)] [0, 5, 6, 8]
    refine bB h1004 fun r750 hx1083 h1004 => (CO.sw mix (wR 1 174 (wC (ms_l1Once_ok 20 pa y744 y745 hx1083) cok48 [(0, 0)] [(0, 0)] [] (wR 1 174 (wF ?_)))))
    refine cI h1004 (fun _ h1004 => ?_) (fun _ h1004 => ?_)
    ·refine bB h1004 fun r753 hx1087 h1004 => (bB h1004 fun x754 hx1088 h1004 => (CO.sw mix (wR 3 174 (wD (ms_l1Pick_ok [[35], [35, 32, 97], [35, 34, 120]] pa r750.2.1 r750.2.2 hx1087) cok46 [(0, 0)] [(0, 0)] [] (LayOk.cons (j := 174) eNS eNS ([[35], [35, 32, 97], [35, 34, 120]] : LLU) (by kernel_rfl) (fun _ => rfl) lO) (wR 2 175 (W.appO Dk eTk (a := 100) (c := 175) (el := 36) (sz := 3) 32 hx1088 rfl 176 (by kernel_rfl) (wR 1 177 (wF ?_))))))))
     exact cK 177 hk1049 (y497, r753.2.1, r753.2.2, x754, 1, [10], 0) h1004 [(0, 0), (176, 100), (101, 101)] [0, 5, 6, 8]
    exact sK hk1049 (y497, r750.2.1, r750.2.2, y500, r698.1.Kind, r698.1.Text, r698.1.At) h1004 [(0, 0), (100, 100), (101, 101)] [0, 5, 6, 8]
  intro hk1089
  refine CO.sw mix (wR 1 173 (wN eTk y500 [100] (wR 1 173 (wF ?_))))
  refine cI h905 (fun _ h905 => ?_) (fun _ h905 => ?_)
  ·refine bB h905 fun e756 hx1092 h905 => (CO.w mix (wR 2 173 (wN eTk y500 [100] (wR 1 173 (W.ixO Dk eTk hx1092 100 3 (by kernel_rfl) (wR 1 173 (W.ldO Dk eTk hx1092 3 100 0 (V.i e756.Kind) (by kernel_rfl) (by kernel_rfl) (wR 1 173 ?_))))))))
   exact wK hk1089 (y497, y498, y499, y500, e756.Kind) h905 [(0, 0), (100, 100)] [0, 5, 6, 7]
  exact sK hk1089 (y497, y498, y499, y500, 0) h905 [(0, 0), (100, 100)] [0, 5, 6, 7]
 refine CO.exit ?_
 refine CO.join (fun (⟨y770, y771, y772⟩ : (LT × Int × Int)) => ⟨tl 99 [(5, .own 100)], [(100, vX 36 3 eTk y770), (0, .cells 65 [sL byteRow pa, V.i y771, V.i y772])]⟩) (fun i => ms_l5Tokens_k4 N pa (ms_l5Tokens_l1 N pa n1) i = some r) ?_ ?_
 · rintro ⟨y770, y771, y772⟩ h1107
   rw [ms_l5Tokens_k4] at h1107
   refine cV 173 (CO.ret ?_)
   cases h1107
   exact eG [(0, 0), (100, 100)] (.inr rfl) (RetV.one rfl (oT (t := 4) (r := .own 100)))
 intro hk1108
 (revert h905; refine bR ?_; rintro ⟨y774, y775, y776⟩ hv1111 h905)
 refine CO.cutR (tl 99 [(0, .loc 0 0), (5, .own 100), (89, V.b y774)]) [(0, .cells 65 [sL byteRow pa, V.i y775, V.i y776]), (100, vX 36 3 eTk y500)] mix (by
  refine wR 1 173 (wN eTk y500 [100] (wR 2 173 ?_))
  refine wJ 86 hv1111 (fun hv1111 => ?_) (fun hv1111 => ?_)
  ·refine wR 1 173 (bB hv1111 fun r777 hx1113 hv1111 => (wC (ms_l1Once_ok 10 pa y498 y499 hx1113) cok48 [(0, 0)] [(0, 0)] [] (wR 1 173 ?_)))
   simp only [Option.some.injEq, Prod.mk.injEq] at hv1111
   obtain ⟨e0, e1, e2⟩ := hv1111
   subst e0
   subst e1
   subst e2
   exact fS [(0, 0), (100, 100)] [0, 5, 89]
  refine wR 3 173 ?_
  simp only [Option.some.injEq, Prod.mk.injEq] at hv1111
  obtain ⟨e0, e1, e2⟩ := hv1111
  subst e0
  subst e1
  subst e2
  exact fS [(0, 0), (100, 100)] [0, 5, 89]
  ) ?_
 refine cI h905 (fun _ h905 => ?_) (fun _ h905 => ?_)
 ·refine bB h905 fun r782 hx1119 h905 => (bB h905 fun r783 hx1120 h905 => (bB h905 fun e784 hx1121 h905 => (bB h905 fun x785 hu1122 h905 => (CO.w mix (wR 3 173 (wN eTk y500 [100] (wC (ms_l1Below_ok (y500.length : Int) pa y775 y776 hx1119) cok37 [(0, 0)] [(0, 0)] [] (wR 1 173 ?_))))))))
  refine wC (ms_l5Token_ok pa r782.2.1 r782.2.2 hx1120) cok97 [(0, 0)] [(0, 0)] [] (W.ixO Dk eTk hx1121 100 3 (by kernel_rfl) (W.stO Dk eTk (x' := r783.1) hx1121 hu1122 (j := 100) (nn := false) (ety := 36) (sz := 3) (b := 0) (ys := [V.i r783.1.Kind, V.s r783.1.Text, V.i r783.1.At]) (C := []) (R := []) (by kernel_rfl) (by kernel_rfl) ?_))
  exact wK hk1108 (x785, r783.2.1, r783.2.2) h905 [(100, 100), (0, 0)] [5]
 exact sK hk1108 (y500, y775, y776) h905 [(100, 100), (0, 0)] [5]

theorem ms_Spell_ok (N : Nat) (a0 : LT) {r : LU} (h : ms_Spell N a0 = some r) :
    AC Tryz.prog (GS []) 72 [sL eTk a0] [] (V.s r) [] := by
 rw [ms_Spell] at h
 refine AC.enter Tryz.func72 rfl (cV 100 (cV 100 (CO.seq' (cV 100 (CO.block' (CO.loopJ (fun (⟨a0, y113, y114⟩ : (LT × LU × Int)) => ⟨tl 35 [(0, sL eTk a0), (3, V.s y113), (4, V.i y114)], []⟩) (fun n i => ms_Spell_l1 N n i = some r) (n0 := N) (i0 := (a0, [], 0)) (wS [] [0, 3, 4]) h (fun i h => by simp [ms_Spell_l1] at h) ?_))))))
 rintro n1 ⟨a0, y113, y114⟩ h209 ih210
 rw [ms_Spell_l1] at h209
 refine CO.seq' (CO.sw mix (wR 2 160 (wN eTk a0 [] (wR 1 160 (wF ?_)))))
 refine cI h209 (fun _ h209 => ?_) (fun _ h209 => ?_)
 ·refine CO.skip (CO.seq' (CO.block' ?_))
  refine CO.join (fun (⟨a0, y114, y195⟩ : (LT × Int × LU)) => ⟨tl 35 [(0, sL eTk a0), (3, V.s y195), (4, V.i y114)], []⟩) (fun i => ms_Spell_k2 N (ms_Spell_l1 N n1) i = some r) ?_ ?_
  · rintro ⟨a0, y114, y195⟩ h255
    rw [ms_Spell_k2] at h255
    refine bB h255 fun e198 hx258 h255 => (bB h255 fun s199 hx259 h255 => ?_)
    refine CO.endR (tl 35 [(0, sL eTk a0), (3, V.s s199), (4, V.i y114)]) [] mix (by
     refine wR 3 160 (wX eTk hx258 3 (wR 2 160 (W.cat hx259 (by kernel_rfl) (wR 1 160 ?_))))
     exact fI
     ) (fun st hw => ?_)
    refine CO.weak hw ?_
    exact cK 160 ih210 (a0, s199, (wr (y114 + 1))) h255 [] [0, 3, 4]
  intro hk260
  refine bB h209 fun y203 hv265 h209 => ?_
  refine CO.cutR (tl 35 [(0, sL eTk a0), (3, V.s y113), (4, V.i y114), (24, V.b y203)]) [] mix (by
   refine wR 3 160 ?_
   refine wJ 13 hv265 (fun hv265 => ?_) (fun hv265 => ?_)
   ·refine wR 3 160 (bB hv265 fun e204 hx267 hv265 => (wX eTk hx267 3 (wR 3 160 (bB hv265 fun e205 hx268 hv265 => (wX eTk hx268 3 (wR 1 160 (bB hv265 fun r206 hx269 hv265 => (w0 (ms_NeedsGap_ok N e204 e205 hx269) cok96 ?_))))))))
    refine wR 1 160 ?_
    cases hv265
    exact fS [] [0, 3, 4, 24]
   refine wR 11 160 ?_
   cases hv265
   exact fS [] [0, 3, 4, 24]
   ) ?_
  refine cI h209 (fun _ h209 => ?_) (fun _ h209 => ?_)
  ·refine bB h209 fun s208 hx272 h209 => (CO.w mix (wR 1 160 (W.cat hx272 (by kernel_rfl) (wR 1 160 ?_))))
   exact wK hk260 (a0, y114, s208) h209 [] [0, 3, 4]
  exact sK hk260 (a0, y114, y113) h209 [] [0, 3, 4]
 refine CO.exit (cV 160 ?_)
 cases h209
 exact e1 2 id

theorem ms_l5Source_ok (N : Nat) (pa : LU) (pb : Int) (pc : Int) {r : (LU × Int × Int)} (h : ms_l5Source N pa pb pc = some r) :
    AC Tryz.prog (GS []) 47 [.loc 0 0] [(0, .cells 65 [sL byteRow pa, V.i pb, V.i pc])] (V.s r.1) [(0, .cells 65 [sL byteRow pa, V.i r.2.1, V.i r.2.2])] := by
 rw [ms_l5Source] at h
 refine AC.enter Tryz.func47 rfl (cV 100 (bB h fun r3 hx3 h => (bB h fun r4 hx4 h => (CO.sw mix (wR 1 100 (wC (ms_l5Tokens_ok N 14 pa pb pc hx3) cok73 [(0, 0)] [(0, 0), (100, 100)] [100] (W.lend (ms_Spell_ok N r3.1 hx4) cok72 [] [] (LayOk.cons (j := 100) eTk eTk r3.1 (by kernel_rfl) (fun _ => rfl) lO) (.c _) .nil (by kernel_rfl) (by kernel_rfl) (wR 1 101 ?_))))))))
 refine wF (CO.seq' (bB h fun r18 hx20 h => (CO.sw mix (wR 1 101 (wC (ms_l1Below_ok 6 pa r3.2.1 r3.2.2 hx20) cok37 [(0, 0)] [(0, 0)] [] (wF (CO.block' (cV 101 ?_))))))))
 refine cI h (fun _ h => ?_) (fun _ h => ?_)
 ·refine bB h fun r20 hx23 h => (CO.sw mix (wR 2 101 (wC (ms_l1Spoil_ok N r4 pa r18.2.1 r18.2.2 hx23) cok62 [(0, 0)] [(0, 0)] [] (wR 1 101 (wF (CO.ret ?_))))))
  have h := sI h
  subst h
  exact eG [(0, 0)] (.inr rfl) (RetV.one rfl (oT (t := 2) (r := V.s r20.1)))
 refine cV 101 ?_
 refine cI h (fun _ h => ?_) (fun _ h => ?_)
 ·refine bB h fun r25 hx29 h => (bB h fun s26 hx30 h => (bB h fun r27 hx31 h => (bB h fun s28 hx32 h => (CO.sw mix (wR 3 101 (wD (ms_l1Pick_ok [[92, 10], [32, 9], [97, 98, 99, 100, 101, 102, 103, 104, 105, 106, 107, 108, 109], [64], [34, 111, 112, 101, 110], [47, 120], [46, 46], [35, 32, 101, 110, 100]] pa r18.2.1 r18.2.2 hx29) cok46 [(0, 0)] [(0, 0)] [] (LayOk.cons (j := 101) eNS eNS ([[92, 10], [32, 9], [97, 98, 99, 100, 101, 102, 103, 104, 105, 106, 107, 108, 109], [64], [34, 111, 112, 101, 110], [47, 120], [46, 46], [35, 32, 101, 110, 100]] : LLU) (by kernel_rfl) (fun _ => rfl) lO) (W.cat hx30 (by kernel_rfl) (wR 2 102 ?_))))))))
  refine wD (ms_l1Pick_ok [[], [120]] pa r25.2.1 r25.2.2 hx31) cok46 [(0, 0)] [(0, 0)] [] (LayOk.cons (j := 102) eNS eNS ([[], [120]] : LLU) (by kernel_rfl) (fun _ => rfl) lO) (W.cat hx32 (by kernel_rfl) (wR 1 103 (wF (CO.ret ?_))))
  have h := sI h
  subst h
  exact eG [(0, 0)] (.inr rfl) (RetV.one rfl (oT (t := 2) (r := V.s s28)))
 refine CO.skip (cV 101 (CO.ret ?_))
 have h := sI h
 subst h
 exact eG [(0, 0)] (.inr rfl) (RetV.one rfl (oT (t := 2) (r := V.s r4)))

theorem ms_l14Any_ok (N : Nat) (pa : LU) (pb : Int) (pc : Int) {r : (LU × Int × Int)} (h : ms_l14Any N pa pb pc = some r) :
    AC Tryz.prog (GS []) 32 [.loc 0 0] [(0, .cells 65 [sL byteRow pa, V.i pb, V.i pc])] (V.s r.1) [(0, .cells 65 [sL byteRow pa, V.i r.2.1, V.i r.2.2])] := by
 rw [ms_l14Any] at h
 refine AC.enter Tryz.func32 rfl (cV 100 (CO.seq' (bB h fun r10 hx12 h => (CO.sw mix (wR 1 100 (wC (ms_l1Below_ok 8 pa pb pc hx12) cok37 [(0, 0)] [(0, 0)] [] (wF (CO.block' ?_))))))))
 refine cV 100 ?_
 refine cI h (fun _ h => ?_) (fun _ h => ?_)
 ·refine bB h fun r13 hx16 h => (bB h fun r14 hx17 h => (CO.sw mix (wR 2 100 (wC (ms_l14Source_ok N pa r10.2.1 r10.2.2 hx16) cok63 [(0, 0)] [(0, 0)] [] (wC (ms_l1Spoil_ok N r13.1 pa r13.2.1 r13.2.2 hx17) cok62 [(0, 0)] [(0, 0)] [] (wR 1 100 (wF (CO.ret ?_))))))))
  have h := sI h
  subst h
  exact eG [(0, 0)] (.inr rfl) (RetV.one rfl (oT (t := 2) (r := V.s r14.1)))
 refine cV 100 ?_
 refine cI h (fun _ h => ?_) (fun _ h => ?_)
 ·refine bB h fun r16 hx20 h => (CO.sw mix (wR 1 100 (wC (ms_l5Source_ok N pa r10.2.1 r10.2.2 hx20) cok47 [(0, 0)] [(0, 0)] [] (wR 1 100 (wF (CO.ret ?_))))))
  have h := sI h
  subst h
  exact eG [(0, 0)] (.inr rfl) (RetV.one rfl (oT (t := 2) (r := V.s r16.1)))
 refine CO.skip (bB h fun r18 hx22 h => (CO.sw mix (wR 1 100 (wC (ms_l14Source_ok N pa r10.2.1 r10.2.2 hx22) cok63 [(0, 0)] [(0, 0)] [] (wR 1 100 (wF (CO.ret ?_)))))))
 have h := sI h
 subst h
 exact eG [(0, 0)] (.inr rfl) (RetV.one rfl (oT (t := 2) (r := V.s r18.1)))

theorem ms_DrawClasses_ok (N : Nat) (a0 : LU) {r : LU} (h : ms_DrawClasses N a0 = some r) :
    AC Tryz.prog (GS []) 13 [sL byteRow a0] [] (V.s r) [] := by
 rw [ms_DrawClasses] at h
 refine AC.enter Tryz.func13 rfl (cV 100 (bB h fun r3 hx3 h => (bB h fun r4 hx4 h => (CO.sw mix (wR 1 100 (wC (ms_l1New_ok N a0 hx3) cok22 [] [(100, 100)] [100] (wC (ms_l14Any_ok N r3.1 r3.2.1 r3.2.2 hx4) cok32 [(100, 0)] [(0, 100)] [] (wR 1 101 ?_))))))))
 refine wF ?_
 cases h
 exact e1 2 id

theorem mi_IsBlank_ok (a0 : Int) {r : Bool} (h : mi_IsBlank a0 = some r) :
    AC Tryz.prog (GS []) 50 [V.i a0] [] (V.b r) [] := by
 rw [mi_IsBlank] at h
 refine AC.enter Tryz.func50 rfl (cV 100 (bB h fun y1 hv2 h => ?_))
 refine CO.cutR (tl 9 [(2, V.b y1)]) [] mix (by
  refine wR 3 100 ?_
  refine wJ 5 hv2 (fun hv2 => ?_) (fun hv2 => ?_)
  ·refine wR 4 100 ?_
   cases hv2
   exact fS [] [2]
  refine wR 4 100 ?_
  cases hv2
  exact fS [] [2]
  ) ?_
 cases h
 exact e1 2 id

theorem mi_within_ok (a0 : Int) (a1 : Int) (a2 : Int) {r : Bool} (h : mi_within a0 a1 a2 = some r) :
    AC Tryz.prog (GS []) 24 [V.i a0, V.i a1, V.i a2] [] (V.b r) [] := by
 rw [mi_within] at h
 refine AC.enter Tryz.func24 rfl (cV 100 (bB h fun y1 hv2 h => ?_))
 refine CO.cutR (tl 15 [(6, V.b y1)]) [] mix (by
  refine wR 4 100 ?_
  refine wJ 10 hv2 (fun hv2 => ?_) (fun hv2 => ?_)
  ·refine wR 5 100 ?_
   cases hv2
   exact fS [] [6]
  refine wR 5 100 ?_
  cases hv2
  exact fS [] [6]
  ) ?_
 cases h
 exact e1 6 id

theorem mi_byteAt_ok (a0 : LU) (a1 : Int) {r : Int} (h : mi_byteAt a0 a1 = some r) :
    AC Tryz.prog (GS []) 51 [V.s a0, V.i a1] [] (V.i r) [] := by
 rw [mi_byteAt] at h
 refine AC.enter Tryz.func51 rfl (cV 100 (CO.seq' (bB h fun r4 hx5 h => (cC 4 100 (mi_within_ok a1 0 (wr ((a0.length : Int) - 1)) hx5) cok24 ?_))))
 refine cI h (fun _ h => ?_) (fun _ h => ?_)
 ·refine cV 100 ?_
  cases h
  exact e1 4 id
 refine CO.skip (bB h fun b6 hx8 h => (CO.sw mix (wR 2 100 (W.ixS Dk hx8 (by kernel_rfl) (wR 2 100 (wF ?_))))))
 cases h
 exact e1 4 id

theorem m_stringslite_IndexByte_ok (a0 : LU) (a1 : Int) {r : Int} (h : m_stringslite_IndexByte a0 a1 = some r) :
    AC Tryz.prog (GS []) 98 [V.s a0, .c (.int .u8 a1)] [] (V.i r) [] := by
 rw [m_stringslite_IndexByte] at h
 refine AC.enter Tryz.func98 rfl (cV 100 (CO.sw mix (wR 2 100 (W.ext (vs := [.string ⟨⟨a0⟩⟩, .int .u8 a1]) (ext122 _ _) (by kernel_rfl) (wR 1 100 (wF ?_))))))
 cases h
 exact e1 4 id

theorem m_strings_IndexByte_ok (a0 : LU) (a1 : Int) {r : Int} (h : m_strings_IndexByte a0 a1 = some r) :
    AC Tryz.prog (GS []) 74 [V.s a0, .c (.int .u8 a1)] [] (V.i r) [] := by
 rw [m_strings_IndexByte] at h
 refine AC.enter Tryz.func74 rfl (cV 100 (bB h fun r2 hx2 h => (cC 2 100 (m_stringslite_IndexByte_ok a0 a1 hx2) cok98 ?_)))
 cases h
 exact e1 4 id

theorem mi_IsDigit_ok (a0 : Int) {r : Bool} (h : mi_IsDigit a0 = some r) :
    AC Tryz.prog (GS []) 75 [V.i a0] [] (V.b r) [] := by
 rw [mi_IsDigit] at h
 refine AC.enter Tryz.func75 rfl (cV 100 (bB h fun y1 hv2 h => ?_))
 refine CO.cutR (tl 9 [(2, V.b y1)]) [] mix (by
  refine wR 3 100 ?_
  refine wJ 5 hv2 (fun hv2 => ?_) (fun hv2 => ?_)
  ·refine wR 4 100 ?_
   cases hv2
   exact fS [] [2]
  refine wR 4 100 ?_
  cases hv2
  exact fS [] [2]
  ) ?_
 cases h
 exact e1 2 id

theorem mi_digitsEnd_ok (N : Nat) (a0 : LU) (a1 : Int) {r : Int} (h : mi_digitsEnd N a0 a1 = some r) :
    AC Tryz.prog (GS []) 99 [V.s a0, V.i a1] [] (V.i r) [] := by
 rw [mi_digitsEnd] at h
 refine AC.enter Tryz.func99 rfl (cV 100 (CO.seq' (CO.block' (CO.loopJ (fun (⟨a0, a1⟩ : (LU × Int)) => ⟨tl 12 [(0, V.s a0), (1, V.i a1)], []⟩) (fun n i => mi_digitsEnd_l1 N n i = some r) (n0 := N) (i0 := (a0, a1)) (wS [] [0, 1]) h (fun i h => by simp [mi_digitsEnd_l1] at h) ?_))))
 rintro n1 ⟨a0, a1⟩ h33 ih34
 rw [mi_digitsEnd_l1] at h33
 refine CO.seq' (bB h33 fun r33 hx42 h33 => (bB h33 fun r34 hx43 h33 => (CO.sw mix (wR 2 140 (w0 (mi_byteAt_ok a0 a1 hx42) cok51 (w0 (mi_IsDigit_ok r33 hx43) cok75 (wF ?_)))))))
 refine cI h33 (fun _ h33 => ?_) (fun _ h33 => ?_)
 ·refine CO.skip (CO.block' ?_)
  exact cK 140 ih34 (a0, (wr (a1 + 1))) h33 [] [0, 1]
 refine CO.exit (cV 140 ?_)
 cases h33
 exact e1 4 id

theorem mi_NumEnd_ok (N : Nat) (a0 : LU) (a1 : Int) {r : Int} (h : mi_NumEnd N a0 a1 = some r) :
    AC Tryz.prog (GS []) 76 [V.s a0, V.i a1] [] (V.i r) [] := by
 rw [mi_NumEnd] at h
 refine AC.enter Tryz.func76 rfl (cV 100 (CO.seq' (bB h fun r4 hx5 h => (cC 4 100 (mi_within_ok a1 0 (wr ((a0.length : Int) - 1)) hx5) cok24 ?_))))
 refine cI h (fun _ h => ?_) (fun _ h => ?_)
 ·refine cV 100 ?_
  cases h
  exact e1 4 id
 refine CO.skip (bB h fun r6 hx8 h => (cC 2 100 (mi_digitsEnd_ok N a0 a1 hx8) cok99 (cV 100 ?_)))
 refine CO.join (fun (⟨a0, y11, y12⟩ : (LU × Int × Int)) => ⟨tl 71 [(0, V.s a0), (5, V.i y11), (6, V.i y12)], []⟩) (fun i => mi_NumEnd_k1 N i = some r) ?_ ?_
 · rintro ⟨a0, y11, y12⟩ h14
   rw [mi_NumEnd_k1] at h14
   refine CO.seq' (cV 100 ?_)
   refine cI h14 (fun _ h14 => ?_) (fun _ h14 => ?_)
   ·refine cV 100 ?_
    cases h14
    exact e1 4 id
   refine CO.skip ?_
   refine CO.join (fun (y11 : Int) => ⟨tl 71 [(5, V.i y11)], []⟩) (fun i => mi_NumEnd_k2 N i = some r) ?_ ?_
   · rintro y11 h40
     rw [mi_NumEnd_k2] at h40
     refine cV 100 ?_
     cases h40
     exact e1 4 id
   intro hk41
   refine bB h14 fun r26 hx43 h14 => (cC 2 100 (mi_byteAt_ok a0 y11 hx43) cok51 (bB h14 fun y27 hv45 h14 => ?_))
   refine CO.cutR (tl 71 [(0, V.s a0), (5, V.i y11), (49, V.b y27)]) [] mix (by
    refine wR 3 100 ?_
    refine wJ 46 hv45 (fun hv45 => ?_) (fun hv45 => ?_)
    ·refine wR 3 100 ?_
     cases hv45
     exact fS [] [0, 5, 49]
    refine wR 3 100 ?_
    cases hv45
    exact fS [] [0, 5, 49]
    ) ?_
   refine cI h14 (fun _ h14 => ?_) (fun _ h14 => ?_)
   ·refine cV 100 ?_
    refine CO.join (fun (⟨a0, y11, y31⟩ : (LU × Int × Int)) => ⟨tl 71 [(0, V.s a0), (5, V.i y11), (9, V.i y31)], []⟩) (fun i => mi_NumEnd_k3 N i = some r) ?_ ?_
    · rintro ⟨a0, y11, y31⟩ h54
      rw [mi_NumEnd_k3] at h54
      refine bB h54 fun r33 hx56 h54 => (cC 2 100 (mi_digitsEnd_ok N a0 y31 hx56) cok99 (cV 100 ?_))
      refine cI h54 (fun _ h54 => ?_) (fun _ h54 => ?_)
      ·refine cV 100 ?_
       cases h54
       exact e1 4 id
      exact sK hk41 y11 h54 [] [5]
    intro hk58
    refine bB h14 fun r35 hx60 h14 => (cC 2 100 (mi_byteAt_ok a0 (wr (y11 + 1)) hx60) cok51 (bB h14 fun y36 hv62 h14 => ?_))
    refine CO.cutR (tl 71 [(0, V.s a0), (5, V.i y11), (9, V.i (wr (y11 + 1))), (60, V.b y36)]) [] mix (by
     refine wR 3 100 ?_
     refine wJ 57 hv62 (fun hv62 => ?_) (fun hv62 => ?_)
     ·refine wR 3 100 ?_
      cases hv62
      exact fS [] [0, 5, 9, 60]
     refine wR 3 100 ?_
     cases hv62
     exact fS [] [0, 5, 9, 60]
     ) ?_
    refine cI h14 (fun _ h14 => ?_) (fun _ h14 => ?_)
    ·exact cK 100 hk58 (a0, y11, (wr ((wr (y11 + 1)) + 1))) h14 [] [0, 5, 9]
    exact sK hk58 (a0, y11, (wr (y11 + 1))) h14 [] [0, 5, 9]
   exact sK hk41 y11 h14 [] [5]
 intro hk65
 refine bB h fun r38 hx67 h => (cC 2 100 (mi_byteAt_ok a0 r6 hx67) cok51 ?_)
 refine cI h (fun _ h => ?_) (fun _ h => ?_)
 ·refine bB h fun r40 hx70 h => (cC 3 100 (mi_digitsEnd_ok N a0 (wr (r6 + 1)) hx70) cok99 (cV 100 ?_))
  exact cK 100 hk65 (a0, r40, (wr ((wr (r6 - a1)) + (wr ((wr (r40 - r6)) - 1))))) h [] [0, 5, 6]
 exact sK hk65 (a0, r6, (wr (r6 - a1))) h [] [0, 5, 6]

theorem mi_quotedEnd_ok (N : Nat) (a0 : LU) (a1 : Int) (a2 : Int) {r : Int} (h : mi_quotedEnd N a0 a1 a2 = some r) :
    AC Tryz.prog (GS []) 100 [V.s a0, V.i a1, V.i a2] [] (V.i r) [] := by
 rw [mi_quotedEnd] at h
 refine AC.enter Tryz.func100 rfl (cV 100 (CO.seq' (bB h fun r4 hx5 h => (cC 2 100 (mi_byteAt_ok a0 a1 hx5) cok51 ?_))))
 refine cI h (fun _ h => ?_) (fun _ h => ?_)
 ·refine cV 100 ?_
  cases h
  exact e1 6 id
 refine CO.skip (CO.seq' (cV 100 (CO.block' (CO.loopJ (fun (⟨a0, a2, y91⟩ : (LU × Int × Int)) => ⟨tl 50 [(0, V.s a0), (2, V.i a2), (7, V.i y91)], []⟩) (fun n i => mi_quotedEnd_l1 N n i = some r) (n0 := N) (i0 := (a0, a2, (wr (a1 + 1)))) (wS [] [0, 2, 7]) h (fun i h => by simp [mi_quotedEnd_l1] at h) ?_))))
 rintro n1 ⟨a0, a2, y91⟩ h189 ih190
 rw [mi_quotedEnd_l1] at h189
 refine CO.seq' (bB h189 fun y118 hv199 h189 => ?_)
 refine CO.cutR (tl 50 [(0, V.s a0), (2, V.i a2), (7, V.i y91), (24, V.b y118)]) [] mix (by
  refine wR 5 160 ?_
  refine wJ 19 hv199 (fun hv199 => ?_) (fun hv199 => ?_)
  ·refine wR 2 160 (bB hv199 fun b119 hx201 hv199 => (W.ixS Dk hx201 (by kernel_rfl) (wR 2 160 ?_)))
   cases hv199
   exact fS [] [0, 2, 7, 24]
  refine wR 5 160 ?_
  cases hv199
  exact fS [] [0, 2, 7, 24]
  ) ?_
 refine cI h189 (fun _ h189 => ?_) (fun _ h189 => ?_)
 ·refine CO.skip ?_
  refine CO.join (fun (⟨a0, a2, y127⟩ : (LU × Int × Int)) => ⟨tl 50 [(0, V.s a0), (2, V.i a2), (7, V.i y127)], []⟩) (fun i => mi_quotedEnd_k2 N (mi_quotedEnd_l1 N n1) i = some r) ?_ ?_
  · rintro ⟨a0, a2, y127⟩ h214
    rw [mi_quotedEnd_k2] at h214
    exact cK 160 ih190 (a0, a2, (wr (y127 + 1))) h214 [] [0, 2, 7]
  intro hk215
  refine CO.block' (CO.block' (bB h189 fun b129 hx217 h189 => (CO.sw mix (wR 2 160 (W.ixS Dk hx217 (by kernel_rfl) (wR 4 160 (wF ?_)))))))
  refine cI h189 (fun _ h189 => ?_) (fun _ h189 => ?_)
  ·refine cV 160 ?_
   cases h189
   exact e1 6 id
  refine bB h189 fun y132 hv222 h189 => ?_
  refine CO.cutR (tl 50 [(0, V.s a0), (2, V.i a2), (7, V.i y91), (36, V.b y132)]) [] mix (by
   refine wR 2 160 (bB hv222 fun b133 hx223 hv222 => (W.ixS Dk hx223 (by kernel_rfl) (wR 2 160 ?_)))
   refine wJ 41 hv222 (fun hv222 => ?_) (fun hv222 => ?_)
   ·refine wR 3 160 (bB hv222 fun r134 hx225 hv222 => (w0 (mi_byteAt_ok a0 (wr (y91 + 1)) hx225) cok51 (wR 3 160 ?_)))
    cases hv222
    exact fS [] [0, 2, 7, 36]
   refine wR 7 160 ?_
   cases hv222
   exact fS [] [0, 2, 7, 36]
   ) ?_
  refine cI h189 (fun _ h189 => ?_) (fun _ h189 => ?_)
  ·exact cK 160 hk215 (a0, a2, (wr (y91 + 1))) h189 [] [0, 2, 7]
  exact sK hk215 (a0, a2, y91) h189 [] [0, 2, 7]
 refine CO.exit (cV 160 ?_)
 cases h189
 exact e1 6 id

theorem mi_StrEnd_ok (N : Nat) (a0 : LU) (a1 : Int) {r : Int} (h : mi_StrEnd N a0 a1 = some r) :
    AC Tryz.prog (GS []) 77 [V.s a0, V.i a1] [] (V.i r) [] := by
 rw [mi_StrEnd] at h
 refine AC.enter Tryz.func77 rfl (cV 100 (bB h fun r2 hx2 h => (cC 2 100 (mi_quotedEnd_ok N a0 a1 34 hx2) cok100 ?_)))
 cases h
 exact e1 4 id

theorem mi_EndsOperand_ok (a0 : Int) {r : Bool} (h : mi_EndsOperand a0 = some r) :
    AC Tryz.prog (GS []) 78 [V.i a0] [] (V.b r) [] := by
 rw [mi_EndsOperand] at h
 refine AC.enter Tryz.func78 rfl (cV 100 (CO.seq' (cV 100 (CO.block' ?_))))
 refine CO.join (fun (y2 : Bool) => ⟨tl 14 [(4, V.b y2)], []⟩) (fun i => mi_EndsOperand_k1 i = some r) ?_ ?_
 · rintro y2 h28
   rw [mi_EndsOperand_k1] at h28
   refine cI h28 (fun _ h28 => ?_) (fun _ h28 => ?_)
   ·refine cV 100 ?_
    cases h28
    exact e1 2 id
   refine CO.skip (cV 100 ?_)
   cases h28
   exact e1 2 id
 intro hk30
 refine cV 100 ?_
 refine cI h (fun _ h => ?_) (fun _ h => ?_)
 ·exact sK hk30 (a0 == 3) h [] [4]
 refine cV 100 ?_
 refine cI h (fun _ h => ?_) (fun _ h => ?_)
 ·exact sK hk30 (a0 == 4) h [] [4]
 refine cV 100 ?_
 refine cI h (fun _ h => ?_) (fun _ h => ?_)
 ·exact sK hk30 (a0 == 5) h [] [4]
 refine cV 100 ?_
 refine cI h (fun _ h => ?_) (fun _ h => ?_)
 ·exact sK hk30 (a0 == 6) h [] [4]
 refine cV 100 ?_
 refine cI h (fun _ h => ?_) (fun _ h => ?_)
 ·exact sK hk30 (a0 == 8) h [] [4]
 refine cV 100 ?_
 refine cI h (fun _ h => ?_) (fun _ h => ?_)
 ·exact sK hk30 (a0 == 33) h [] [4]
 refine cV 100 ?_
 refine cI h (fun _ h => ?_) (fun _ h => ?_)
 ·exact sK hk30 (a0 == 35) h [] [4]
 refine cV 100 ?_
 refine cI h (fun _ h => ?_) (fun _ h => ?_)
 ·exact sK hk30 (a0 == 51) h [] [4]
 exact cK 100 hk30 (a0 == 52) h [] [4]

theorem mi_EreEnd_ok (N : Nat) (a0 : LU) (a1 : Int) {r : Int} (h : mi_EreEnd N a0 a1 = some r) :
    AC Tryz.prog (GS []) 79 [V.s a0, V.i a1] [] (V.i r) [] := by
 rw [mi_EreEnd] at h
 refine AC.enter Tryz.func79 rfl (cV 100 (bB h fun r2 hx2 h => (cC 2 100 (mi_quotedEnd_ok N a0 a1 47 hx2) cok100 (CO.seq' (cV 100 ?_)))))
 refine cI h (fun _ h => ?_) (fun _ h => ?_)
 ·refine cV 100 ?_
  cases h
  exact e1 4 id
 refine CO.skip (cV 100 ?_)
 cases h
 exact e1 4 id

theorem mi_IsLetter_ok (a0 : Int) {r : Bool} (h : mi_IsLetter a0 = some r) :
    AC Tryz.prog (GS []) 80 [V.i a0] [] (V.b r) [] := by
 rw [mi_IsLetter] at h
 refine AC.enter Tryz.func80 rfl (cV 100 (bB h fun y1 hv7 h => ?_))
 refine CO.cutR (tl 21 [(2, V.b y1)]) [] mix (by
  refine wR 3 100 ?_
  refine wJ 5 hv7 (fun hv7 => ?_) (fun hv7 => ?_)
  ·refine wR 4 100 ?_
   refine wJ 9 hv7 (fun hv7 => ?_) (fun hv7 => ?_)
   ·refine wR 12 100 ?_
    cases hv7
    exact fS [] [2]
   refine wR 3 100 ?_
   refine wJ 12 hv7 (fun hv7 => ?_) (fun hv7 => ?_)
   ·refine wR 5 100 ?_
    refine wJ 17 hv7 (fun hv7 => ?_) (fun hv7 => ?_)
    ·refine wR 4 100 ?_
     cases hv7
     exact fS [] [2]
    refine wR 4 100 ?_
    cases hv7
    exact fS [] [2]
   refine wR 9 100 ?_
   cases hv7
   exact fS [] [2]
  refine wR 7 100 ?_
  refine wJ 12 hv7 (fun hv7 => ?_) (fun hv7 => ?_)
  ·refine wR 5 100 ?_
   refine wJ 17 hv7 (fun hv7 => ?_) (fun hv7 => ?_)
   ·refine wR 4 100 ?_
    cases hv7
    exact fS [] [2]
   refine wR 4 100 ?_
   cases hv7
   exact fS [] [2]
  refine wR 9 100 ?_
  cases hv7
  exact fS [] [2]
  ) ?_
 cases h
 exact e1 2 id

theorem mi_IsWordByte_ok (a0 : Int) {r : Bool} (h : mi_IsWordByte a0 = some r) :
    AC Tryz.prog (GS []) 101 [V.i a0] [] (V.b r) [] := by
 rw [mi_IsWordByte] at h
 refine AC.enter Tryz.func101 rfl (cV 100 (bB h fun y3 hv4 h => ?_))
 refine CO.cutR (tl 9 [(2, V.b y3)]) [] mix (by
  refine wR 1 100 (bB hv4 fun r4 hx5 hv4 => (w0 (mi_IsLetter_ok a0 hx5) cok80 (wR 1 100 ?_)))
  refine wJ 5 hv4 (fun hv4 => ?_) (fun hv4 => ?_)
  ·refine wR 4 100 ?_
   cases hv4
   exact fS [] [2]
  refine wR 1 100 (bB hv4 fun r5 hx7 hv4 => (w0 (mi_IsDigit_ok a0 hx7) cok75 (wR 2 100 ?_)))
  cases hv4
  exact fS [] [2]
  ) ?_
 cases h
 exact e1 2 id

theorem mi_NameEnd_ok (N : Nat) (a0 : LU) (a1 : Int) {r : Int} (h : mi_NameEnd N a0 a1 = some r) :
    AC Tryz.prog (GS []) 81 [V.s a0, V.i a1] [] (V.i r) [] := by
 rw [mi_NameEnd] at h
 refine AC.enter Tryz.func81 rfl (cV 100 (CO.seq' (bB h fun r7 hx8 h => (bB h fun r8 hx9 h => (CO.sw mix (wR 2 100 (w0 (mi_byteAt_ok a0 a1 hx8) cok51 (w0 (mi_IsLetter_ok r7 hx9) cok80 ?_))))))))
 refine wR 1 100 (wF ?_)
 refine cI h (fun _ h => ?_) (fun _ h => ?_)
 ·refine cV 100 ?_
  cases h
  exact e1 4 id
 refine CO.skip (CO.seq' (CO.block' (CO.loopJ (fun (⟨a0, a1⟩ : (LU × Int)) => ⟨tl 17 [(0, V.s a0), (1, V.i a1)], []⟩) (fun n i => mi_NameEnd_l1 N n i = some r) (n0 := N) (i0 := (a0, a1)) (wS [] [0, 1]) h (fun i h => by simp [mi_NameEnd_l1] at h) ?_)))
 rintro n1 ⟨a0, a1⟩ h43 ih44
 rw [mi_NameEnd_l1] at h43
 refine CO.seq' (bB h43 fun r41 hx52 h43 => (bB h43 fun r42 hx53 h43 => (CO.sw mix (wR 2 140 (w0 (mi_byteAt_ok a0 a1 hx52) cok51 (w0 (mi_IsWordByte_ok r41 hx53) cok101 (wF ?_)))))))
 refine cI h43 (fun _ h43 => ?_) (fun _ h43 => ?_)
 ·refine CO.skip (CO.block' ?_)
  exact cK 140 ih44 (a0, (wr (a1 + 1))) h43 [] [0, 1]
 refine CO.exit (cV 140 ?_)
 cases h43
 exact e1 4 id

theorem mi_NameShape_ok (N : Nat) (a0 : LU) {r : Bool} (h : mi_NameShape N a0 = some r) :
    AC Tryz.prog (GS []) 82 [V.s a0] [] (V.b r) [] := by
 rw [mi_NameShape] at h
 refine AC.enter Tryz.func82 rfl (cV 100 (CO.seq' (cV 100 (CO.block' (CO.loopJ (fun (⟨a0, y35⟩ : (LU × Int)) => ⟨tl 25 [(0, V.s a0), (5, V.i (a0.length : Int)), (6, V.i y35)], []⟩) (fun n i => mi_NameShape_l1 N n i = some r) (n0 := N) (i0 := (a0, 0)) (wS [] [0, 5, 6]) h (fun i h => by simp [mi_NameShape_l1] at h) ?_)))))
 rintro n1 ⟨a0, y35⟩ h63 ih64
 rw [mi_NameShape_l1] at h63
 refine cV 160 (CO.seq' ?_)
 refine cI h63 (fun _ h63 => ?_) (fun _ h63 => ?_)
 ·refine CO.skip (CO.seq' (CO.block' (cV 160 (bB h63 fun b51 hx74 h63 => (bB h63 fun r52 hx75 h63 => (CO.sw mix (wR 2 160 (W.ixS Dk hx74 (by kernel_rfl) ?_))))))))
  refine wR 1 160 (w0 (mi_IsWordByte_ok (wr ((b51).toNat : Int)) hx75) cok101 (wR 1 160 (wF ?_)))
  refine cI h63 (fun _ h63 => ?_) (fun _ h63 => ?_)
  ·refine cV 160 ?_
   cases h63
   exact e1 2 id
  refine CO.skip ?_
  exact cK 160 ih64 (a0, (wr (y35 + 1))) h63 [] [0, 5, 6]
 refine CO.exit (bB h63 fun y56 hv81 h63 => ?_)
 refine CO.cutR (tl 25 [(2, V.b y56)]) [] mix (by
  refine wR 2 160 (bB hv81 fun r57 hx82 hv81 => (w0 (mi_within_ok (a0.length : Int) 1 12 hx82) cok24 (wR 1 160 ?_)))
  refine wJ 19 hv81 (fun hv81 => ?_) (fun hv81 => ?_)
  ·refine wR 1 160 (bB hv81 fun b58 hx84 hv81 => (W.ixS Dk hx84 (by kernel_rfl) (wR 1 160 (bB hv81 fun r59 hx85 hv81 => (w0 (mi_IsLetter_ok (wr ((b58).toNat : Int)) hx85) cok80 (wR 2 160 ?_))))))
   cases hv81
   exact fS [] [2]
  refine wR 6 160 ?_
  cases hv81
  exact fS [] [2]
  ) ?_
 cases h63
 exact e1 2 id

theorem m_slices_Index_string_ok (N : Nat) (a0 : LLU) (a1 : LU) {r : Int} (h : m_slices_Index_string N a0 a1 = some r) :
    AC Tryz.prog (GS []) 123 [sL eNS a0, V.s a1] [] (V.i r) [] := by
 rw [m_slices_Index_string] at h
 refine AC.enter Tryz.func123 rfl (cV 100 (CO.seq' (CO.sw mix (wR 1 100 (wN eNS a0 [] (wR 1 100 (wF (CO.block' ?_))))))))
 refine CO.loopJ (fun (⟨a0, a1, y19⟩ : (LLU × LU × Int)) => ⟨tl 19 [(0, sL eNS a0), (1, V.s a1), (7, V.i (a0.length : Int)), (8, V.i y19)], []⟩) (fun n i => m_slices_Index_string_l1 N n i = some r) (n0 := N) (i0 := (a0, a1, 0)) (wS [] [0, 1, 7, 8]) h (fun i h => by simp [m_slices_Index_string_l1] at h) ?_
 rintro n1 ⟨a0, a1, y19⟩ h43 ih44
 rw [m_slices_Index_string_l1] at h43
 refine cV 160 (CO.seq' ?_)
 refine cI h43 (fun _ h43 => ?_) (fun _ h43 => ?_)
 ·refine CO.skip (CO.seq' (CO.block' (cV 160 (bB h43 fun e28 hx51 h43 => (CO.sw mix (wR 3 160 (wX eNS hx51 1 (wR 2 160 ?_))))))))
  refine wF ?_
  refine cI h43 (fun _ h43 => ?_) (fun _ h43 => ?_)
  ·refine cV 160 ?_
   cases h43
   exact e1 4 id
  refine CO.skip ?_
  exact cK 160 ih44 (a0, a1, (wr (y19 + 1))) h43 [] [0, 1, 7, 8]
 refine CO.exit (cV 160 ?_)
 cases h43
 exact e1 4 id

theorem mi_KeywordOf_ok (N : Nat) (a0 : LU) {r : Int} (h : mi_KeywordOf N a0 = some r) :
    AC Tryz.prog (GS [2]) 102 [V.s a0] [] (V.i r) [] := by
 rw [mi_KeywordOf] at h
 refine AC.enter Tryz.func102 rfl (cV 100 (bB h fun r2 hx2 h => (CO.sw mix (W.cutG Dk V.s tab_keywords (by kernel_rfl) (wR 1 100 (w0 (AC.gs (m_slices_Index_string_ok N tab_keywords a0 hx2) (by decide)) cok123 (wR 1 100 (wF ?_))))))))
 refine CO.seq' (cV 100 ?_)
 refine cI h (fun _ h => ?_) (fun _ h => ?_)
 ·refine cV 100 ?_
  cases h
  exact e1 2 id
 refine CO.skip (cV 100 ?_)
 cases h
 exact e1 2 id

theorem m_slices_Contains_string_ok (N : Nat) (a0 : LLU) (a1 : LU) {r : Bool} (h : m_slices_Contains_string N a0 a1 = some r) :
    AC Tryz.prog (GS []) 124 [sL eNS a0, V.s a1] [] (V.b r) [] := by
 rw [m_slices_Contains_string] at h
 refine AC.enter Tryz.func124 rfl (cV 100 (bB h fun r2 hx2 h => (cC 2 100 (m_slices_Index_string_ok N a0 a1 hx2) cok123 ?_)))
 cases h
 exact e1 4 id

theorem mi_IsBuiltin_ok (N : Nat) (a0 : LU) {r : Bool} (h : mi_IsBuiltin N a0 = some r) :
    AC Tryz.prog (GS [3]) 103 [V.s a0] [] (V.b r) [] := by
 rw [mi_IsBuiltin] at h
 refine AC.enter Tryz.func103 rfl (cV 100 (bB h fun r2 hx2 h => (CO.sw mix (W.cutG Dk V.s tab_builtins (by kernel_rfl) (wR 1 100 (w0 (AC.gs (m_slices_Contains_string_ok N tab_builtins a0 hx2) (by decide)) cok124 (wR 1 100 (wF ?_))))))))
 cases h
 exact e1 2 id

theorem mi_wordToken_ok (N : Nat) (a0 : LU) (a1 : Int) (a2 : Int) {r : SToken} (h : mi_wordToken N a0 a1 a2 = some r) :
    AC Tryz.prog (GS [2, 3]) 83 [V.s a0, V.i a1, V.i a2] [] (.agg [V.i r.Kind, V.s r.Text, V.i r.At]) [] := by
 rw [mi_wordToken] at h
 refine AC.enter Tryz.func83 rfl (cV 100 (bB h fun s2 hx2 h => (CO.sw mix (wR 3 101 (W.cutS Dk hx2 (by kernel_rfl) (wR 1 101 (wF (CO.seq' ?_))))))))
 refine CO.block' (bB h fun r12 hx15 h => (cC 1 101 (AC.gs (mi_KeywordOf_ok N s2 hx15) (by decide)) cok102 ?_))
 refine cI h (fun _ h => ?_) (fun _ h => ?_)
 ·refine bB h fun r14 hx18 h => (cC 1 101 (AC.gs (mi_KeywordOf_ok N s2 hx18) (by decide)) cok102 (CO.ret ?_))
  have h := sI h
  subst h
  exact eG [] (.inr rfl) (RetV.one rfl (OneR.cell Dk (r := .agg [V.i r14, V.s s2, V.i a1]) (i := 100) (ety := 36) (cs := [V.i r14, V.s s2, V.i a1]) (by kernel_rfl) (by kernel_rfl) (by kernel_rfl)))
 refine bB h fun r16 hx20 h => (cC 1 101 (AC.gs (mi_IsBuiltin_ok N s2 hx20) (by decide)) cok103 ?_)
 refine cI h (fun _ h => ?_) (fun _ h => ?_)
 ·refine cV 101 (CO.ret ?_)
  have h := sI h
  subst h
  exact eG [] (.inr rfl) (RetV.one rfl (OneR.cell Dk (r := .agg [V.i 8, V.s s2, V.i a1]) (i := 100) (ety := 36) (cs := [V.i 8, V.s s2, V.i a1]) (by kernel_rfl) (by kernel_rfl) (by kernel_rfl)))
 refine bB h fun r18 hx23 h => (cC 2 101 (AC.gs (mi_byteAt_ok a0 a2 hx23) (by decide)) cok51 ?_)
 refine cI h (fun _ h => ?_) (fun _ h => ?_)
 ·refine cV 101 (CO.ret ?_)
  have h := sI h
  subst h
  exact eG [] (.inr rfl) (RetV.one rfl (OneR.cell Dk (r := .agg [V.i 7, V.s s2, V.i a1]) (i := 100) (ety := 36) (cs := [V.i 7, V.s s2, V.i a1]) (by kernel_rfl) (by kernel_rfl) (by kernel_rfl)))
 refine CO.skip (cV 101 (CO.ret ?_))
 have h := sI h
 subst h
 exact eG [] (.inr rfl) (RetV.one rfl (OneR.cell Dk (r := .agg [V.i 6, V.s s2, V.i a1]) (i := 100) (ety := 36) (cs := [V.i 6, V.s s2, V.i a1]) (by kernel_rfl) (by kernel_rfl) (by kernel_rfl)))

theorem m_stringslite_HasPrefix_ok (a0 : LU) (a1 : LU) {r : Bool} (h : m_stringslite_HasPrefix a0 a1 = some r) :
    AC Tryz.prog (GS []) 125 [V.s a0, V.s a1] [] (V.b r) [] := by
 rw [m_stringslite_HasPrefix] at h
 refine AC.enter Tryz.func125 rfl (cV 100 (bB h fun y2 hv3 h => ?_))
 refine CO.cutR (tl 18 [(4, V.b y2)]) [] mix (by
  refine wR 6 100 ?_
  refine wJ 10 hv3 (fun hv3 => ?_) (fun hv3 => ?_)
  ·refine wR 3 100 (bB hv3 fun s3 hx5 hv3 => (W.cutS Dk hx5 (by kernel_rfl) (wR 4 100 ?_)))
   cases hv3
   exact fS [] [4]
  refine wR 8 100 ?_
  cases hv3
  exact fS [] [4]
  ) ?_
 cases h
 exact e1 4 id

theorem m_strings_HasPrefix_ok (a0 : LU) (a1 : LU) {r : Bool} (h : m_strings_HasPrefix a0 a1 = some r) :
    AC Tryz.prog (GS []) 104 [V.s a0, V.s a1] [] (V.b r) [] := by
 rw [m_strings_HasPrefix] at h
 refine AC.enter Tryz.func104 rfl (cV 100 (bB h fun r2 hx2 h => (cC 2 100 (m_stringslite_HasPrefix_ok a0 a1 hx2) cok125 ?_)))
 cases h
 exact e1 4 id

theorem mi_OpAt_ok (N : Nat) (a0 : LU) (a1 : Int) {r : (Int × Int)} (h : mi_OpAt N a0 a1 = some r) :
    AC Tryz.prog (GS [1]) 84 [V.s a0, V.i a1] [] (.tup [V.i r.1, V.i r.2]) [] := by
 rw [mi_OpAt] at h
 refine AC.enter Tryz.func84 rfl (cV 100 (CO.seq' (bB h fun r4 hx5 h => (cC 4 100 (AC.gs (mi_within_ok a1 0 (wr ((a0.length : Int) - 1)) hx5) (by decide)) cok24 ?_))))
 refine cI h (fun _ h => ?_) (fun _ h => ?_)
 ·refine cV 100 (CO.ret ?_)
  cases h
  exact eG [] (.inr rfl) (RetV.two rfl (oT (t := 4) (r := V.i 0)) (oT (t := 5) (r := V.i 0)))
 refine CO.skip (cV 100 (CO.seq' (cV 100 (CO.block' (CO.loopJ (fun (⟨a0, a1, y75, y76, y77⟩ : (LU × Int × Int × Int × Int)) => ⟨tl 39 [(0, V.s a0), (1, V.i a1), (6, V.i y75), (7, V.i y76), (16, .agg (tab_signs.map V.s)), (17, V.i y77)], []⟩) (fun n i => mi_OpAt_l1 N n i = some r) (n0 := N) (i0 := (a0, a1, 0, 0, 0)) (wS [] [0, 1, 6, 7, 16, 17]) h (fun i h => by simp [mi_OpAt_l1] at h) ?_)))))
 rintro n1 ⟨a0, a1, y75, y76, y77⟩ h125 ih126
 rw [mi_OpAt_l1] at h125
 refine cV 160 (CO.seq' ?_)
 refine cI h125 (fun _ h125 => ?_) (fun _ h125 => ?_)
 ·refine CO.skip ?_
  refine CO.join (fun (⟨a0, a1, y77, y104, y105⟩ : (LU × Int × Int × Int × Int)) => ⟨tl 39 [(0, V.s a0), (1, V.i a1), (6, V.i y104), (7, V.i y105), (16, .agg (tab_signs.map V.s)), (17, V.i y77)], []⟩) (fun i => mi_OpAt_k2 N (mi_OpAt_l1 N n1) i = some r) ?_ ?_
  · rintro ⟨a0, a1, y77, y104, y105⟩ h139
    rw [mi_OpAt_k2] at h139
    exact cK 160 ih126 (a0, a1, y104, y105, (wr (y77 + 1))) h139 [] [0, 1, 6, 7, 16, 17]
  intro hk140
  refine CO.block' (bB h125 fun e107 hx142 h125 => (CO.sw mix (wR 1 160 (W.ixA Dk V.s (l := tab_signs) hx142 (by kernel_rfl) (wR 2 160 (wF (bB h125 fun y110 hv146 h125 => ?_)))))))
  refine CO.cutR (tl 39 [(0, V.s a0), (1, V.i a1), (6, V.i y75), (7, V.i y76), (8, V.i y77), (9, V.s e107), (16, .agg (tab_signs.map V.s)), (17, V.i y77), (31, V.b y110)]) [] mix (by
   refine wR 5 160 ?_
   refine wJ 25 hv146 (fun hv146 => ?_) (fun hv146 => ?_)
   ·refine wR 2 160 (bB hv146 fun s111 hx148 hv146 => (W.cutS Dk hx148 (by kernel_rfl) (wR 1 160 (bB hv146 fun r112 hx149 hv146 => (w0 (AC.gs (m_strings_HasPrefix_ok s111 e107 hx149) (by decide)) cok104 (wR 1 160 ?_))))))
    cases hv146
    exact fS [] [0, 1, 6, 7, 8, 9, 16, 17, 31]
   refine wR 6 160 ?_
   cases hv146
   exact fS [] [0, 1, 6, 7, 8, 9, 16, 17, 31]
   ) ?_
  refine cI h125 (fun _ h125 => ?_) (fun _ h125 => ?_)
  ·exact cK 160 hk140 (a0, a1, y77, (wr (30 + y77)), (e107.length : Int)) h125 [] [0, 1, 6, 7, 16, 17]
  exact sK hk140 (a0, a1, y77, y75, y76) h125 [] [0, 1, 6, 7, 16, 17]
 refine CO.exit (cV 160 (CO.ret ?_))
 have h125 := sI h125
 subst h125
 exact eG [] (.inr rfl) (RetV.two rfl (oT (t := 4) (r := V.i y75)) (oT (t := 5) (r := V.i y76)))

theorem mi_tokenAt_ok (N : Nat) (a0 : LU) (a1 : Int) (a2 : Int) {r : SToken} (h : mi_tokenAt N a0 a1 a2 = some r) :
    AC Tryz.prog (GS [1, 2, 3]) 52 [V.s a0, V.i a1, V.i a2] [] (.agg [V.i r.Kind, V.s r.Text, V.i r.At]) [] := by
 rw [mi_tokenAt] at h
 refine AC.enter Tryz.func52 rfl (cV 100 (cV 101 ?_))
 refine CO.join (fun (⟨a0, a1, y31, y32⟩ : (LU × Int × Int × Int)) => ⟨tl 102 [(0, V.s a0), (1, V.i a1), (6, .loc 100 0), (7, V.i y31), (8, V.i y32)], [(100, .cells 36 [V.i 0, V.s [], V.i 0])]⟩) (fun i => mi_tokenAt_k1 N i = some r) ?_ ?_
 · rintro ⟨a0, a1, y31, y32⟩ h43
   rw [mi_tokenAt_k1] at h43
   refine CO.seq' (bB h43 fun y34 hv49 h43 => ?_)
   refine CO.cutR (tl 102 [(0, V.s a0), (1, V.i a1), (6, .loc 100 0), (7, V.i y31), (8, V.i y32), (93, V.b y34)]) [(100, .cells 36 [V.i 0, V.s [], V.i 0])] mix (by
    refine wR 3 101 ?_
    refine wJ 90 hv49 (fun hv49 => ?_) (fun hv49 => ?_)
    ·refine wR 3 101 ?_
     cases hv49
     exact fS [(100, 100)] [0, 1, 6, 7, 8, 93]
    refine wR 3 101 ?_
    cases hv49
    exact fS [(100, 100)] [0, 1, 6, 7, 8, 93]
    ) ?_
   refine cI h43 (fun _ h43 => ?_) (fun _ h43 => ?_)
   ·refine cV 101 (CO.ret ?_)
    cases h43
    exact eG [] (.inr rfl) (RetV.one rfl (OneR.cell Dk (r := .agg [V.i 0, V.s [], V.i 0]) (i := 100) (ety := 36) (cs := [V.i 0, V.s [], V.i 0]) (by kernel_rfl) (by kernel_rfl) (by kernel_rfl)))
   refine CO.skip (bB h43 fun s36 hx53 h43 => (CO.sw mix (wR 4 101 (W.cutS Dk hx53 (by kernel_rfl) (wR 3 101 (wF (CO.ret ?_)))))))
   have h43 := sI h43
   subst h43
   exact eG [] (.inr rfl) (RetV.one rfl (OneR.cell Dk (r := .agg [V.i y31, V.s s36, V.i a1]) (i := 100) (ety := 36) (cs := [V.i y31, V.s s36, V.i a1]) (by kernel_rfl) (by kernel_rfl) (by kernel_rfl)))
 intro hk54
 refine bB h fun b38 hx56 h => (CO.sw mix (wR 2 101 (W.ixS Dk hx56 (by kernel_rfl) (wR 2 101 (wF (CO.block' (cV 101 ?_)))))))
 refine cI h (fun _ h => ?_) (fun _ h => ?_)
 ·exact cK 101 hk54 (a0, a1, 1, (wr (a1 + 1))) h [(100, 100)] [0, 1, 6, 7, 8]
 refine cV 101 ?_
 refine cI h (fun _ h => ?_) (fun _ h => ?_)
 ·refine cV 101 (bB h fun s41 hx61 h => (bB h fun r42 hx62 h => (CO.sw mix (wR 2 101 (W.cutS Dk hx61 (by kernel_rfl) (w0 (AC.gs (m_strings_IndexByte_ok s41 10 hx62) (by decide)) cok74 (wR 1 101 (wF ?_))))))))
  refine cV 101 ?_
  refine cI h (fun _ h => ?_) (fun _ h => ?_)
  ·exact cK 101 hk54 (a0, a1, 2, (wr (a1 + r42))) h [(100, 100)] [0, 1, 6, 7, 8]
  exact sK hk54 (a0, a1, 2, (a0.length : Int)) h [(100, 100)] [0, 1, 6, 7, 8]
 refine bB h fun y44 hv66 h => ?_
 refine CO.cutR (tl 102 [(0, V.s a0), (1, V.i a1), (2, V.i a2), (6, .loc 100 0), (7, V.i 0), (9, V.i (wr ((b38).toNat : Int))), (46, V.b y44)]) [(100, .cells 36 [V.i 0, V.s [], V.i 0])] mix (by
  refine wR 1 101 (bB hv66 fun r45 hx67 hv66 => (w0 (AC.gs (mi_IsDigit_ok (wr ((b38).toNat : Int)) hx67) (by decide)) cok75 (wR 1 101 ?_)))
  refine wJ 49 hv66 (fun hv66 => ?_) (fun hv66 => ?_)
  ·refine wR 4 101 ?_
   cases hv66
   exact fS [(100, 100)] [0, 1, 2, 6, 7, 9, 46]
  refine wR 4 101 ?_
  cases hv66
  exact fS [(100, 100)] [0, 1, 2, 6, 7, 9, 46]
  ) ?_
 refine cI h (fun _ h => ?_) (fun _ h => ?_)
 ·refine bB h fun r47 hx71 h => (CO.w mix (wR 2 101 (w0 (AC.gs (mi_NumEnd_ok N a0 a1 hx71) (by decide)) cok76 (wR 2 101 ?_))))
  exact wK hk54 (a0, a1, 3, r47) h [(100, 100)] [0, 1, 6, 7, 8]
 refine cV 101 ?_
 refine cI h (fun _ h => ?_) (fun _ h => ?_)
 ·refine bB h fun r49 hx74 h => (CO.w mix (wR 2 101 (w0 (AC.gs (mi_StrEnd_ok N a0 a1 hx74) (by decide)) cok77 (wR 2 101 ?_))))
  exact wK hk54 (a0, a1, 4, r49) h [(100, 100)] [0, 1, 6, 7, 8]
 refine bB h fun y51 hv77 h => ?_
 refine CO.cutR (tl 102 [(0, V.s a0), (1, V.i a1), (6, .loc 100 0), (7, V.i 0), (9, V.i (wr ((b38).toNat : Int))), (62, V.b y51)]) [(100, .cells 36 [V.i 0, V.s [], V.i 0])] mix (by
  refine wR 3 101 ?_
  refine wJ 65 hv77 (fun hv77 => ?_) (fun hv77 => ?_)
  ·refine wR 1 101 (bB hv77 fun r52 hx79 hv77 => (w0 (AC.gs (mi_EndsOperand_ok a2 hx79) (by decide)) cok78 (wR 3 101 ?_)))
   cases hv77
   exact fS [(100, 100)] [0, 1, 6, 7, 9, 62]
  refine wR 5 101 ?_
  cases hv77
  exact fS [(100, 100)] [0, 1, 6, 7, 9, 62]
  ) ?_
 refine cI h (fun _ h => ?_) (fun _ h => ?_)
 ·refine bB h fun r54 hx82 h => (CO.w mix (wR 2 101 (w0 (AC.gs (mi_EreEnd_ok N a0 a1 hx82) (by decide)) cok79 (wR 2 101 ?_))))
  exact wK hk54 (a0, a1, 5, r54) h [(100, 100)] [0, 1, 6, 7, 8]
 refine bB h fun r56 hx84 h => (cC 1 101 (AC.gs (mi_IsLetter_ok (wr ((b38).toNat : Int)) hx84) (by decide)) cok80 ?_)
 refine cI h (fun _ h => ?_) (fun _ h => ?_)
 ·refine bB h fun r58 hx87 h => (cC 2 101 (AC.gs (mi_NameEnd_ok N a0 a1 hx87) (by decide)) cok81 (bB h fun s61 hx90 h => (bB h fun r62 hx91 h => (CO.sw mix (wR 3 101 (W.cutS Dk hx90 (by kernel_rfl) (w0 (AC.gs (mi_NameShape_ok N s61 hx91) (by decide)) cok82 (wF ?_))))))))
  refine cI h (fun _ h => ?_) (fun _ h => ?_)
  ·refine bB h fun r64 hx94 h => (cC 3 101 (AC.gs (mi_wordToken_ok N a0 a1 r58 hx94) (by decide)) cok83 (CO.ret ?_))
   have h := sI h
   subst h
   exact eG [] (.inr rfl) (RetV.one rfl (OneR.cell Dk (r := .agg [V.i r64.Kind, V.s r64.Text, V.i r64.At]) (i := 100) (ety := 36) (cs := [V.i r64.Kind, V.s r64.Text, V.i r64.At]) (by kernel_rfl) (by kernel_rfl) (by kernel_rfl)))
  exact sK hk54 (a0, a1, 0, r58) h [(100, 100)] [0, 1, 6, 7, 8]
 refine bB h fun r66 hx96 h => (cC 2 101 (AC.gs (mi_OpAt_ok N a0 a1 hx96) (by decide)) cok84 ?_)
 exact cK 101 hk54 (a0, a1, r66.1, (wr (a1 + r66.2))) h [(100, 100)] [0, 1, 6, 7, 8]

end Go.Proofs.Tryz

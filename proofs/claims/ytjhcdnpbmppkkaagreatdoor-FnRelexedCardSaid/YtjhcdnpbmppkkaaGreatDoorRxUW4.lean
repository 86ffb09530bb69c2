/-
 The walks that show that the code computes the models, part 4.
-/
import Derived.Test.YtjhcdnpbmppkkaaGreatDoorRxUW3
namespace Go.Proofs.Tryz
open Go.Av
set_option maxRecDepth 100000
set_option maxHeartbeats 8000000
set_option linter.unusedSimpArgs false
set_option linter.unusedVariables false

structure RecOk4 (R : Rec4) : Prop where
 ms_l14Stmt : ∀ (a1 : Int) (pa : LU) (pb : Int) (pc : Int) (r : (LU × Int × Int)), R.ms_l14Stmt a1 pa pb pc = some r → AC Tryz.prog (GS []) 126 [.loc 0 0, V.i a1] [(0, .cells 65 [sL byteRow pa, V.i pb, V.i pc])] (V.s r.1) [(0, .cells 65 [sL byteRow pa, V.i r.2.1, V.i r.2.2])]
 ms_l14Body : ∀ (a1 : Int) (pa : LU) (pb : Int) (pc : Int) (r : (LU × Int × Int)), R.ms_l14Body a1 pa pb pc = some r → AC Tryz.prog (GS []) 108 [.loc 0 0, V.i a1] [(0, .cells 65 [sL byteRow pa, V.i pb, V.i pc])] (V.s r.1) [(0, .cells 65 [sL byteRow pa, V.i r.2.1, V.i r.2.2])]

theorem ms_l14Stmt_F_ok (N : Nat) (R : Rec4) (HR : RecOk4 R) (a1 : Int) (pa : LU) (pb : Int) (pc : Int) {r : (LU × Int × Int)} (h : ms_l14Stmt_F N R a1 pa pb pc = some r) :
    AC Tryz.prog (GS []) 126 [.loc 0 0, V.i a1] [(0, .cells 65 [sL byteRow pa, V.i pb, V.i pc])] (V.s r.1) [(0, .cells 65 [sL byteRow pa, V.i r.2.1, V.i r.2.2])] := by
 rw [ms_l14Stmt_F] at h
 refine AC.enter Tryz.func126 rfl (cV 100 (bB h fun r5 hx5 h => (bB h fun r6 hx6 h => (bB h fun r7 hx7 h => (bB h fun r8 hx8 h => (CO.sw mix (wR 2 100 (wC (ms_l1Below_ok 2 pa pb pc hx5) cok37 [(0, 0)] [(0, 0)] [] ?_))))))))
 refine wR 1 100 (wC (ms_l7Expr_ok N (wr (1 + r5.1)) pa r5.2.1 r5.2.2 hx6) cok110 [(0, 0)] [(0, 0), (100, 100)] [100] (w0 (ms_Top_ok  hx7) cok111 (W.lend (ms_ExprText_ok N r6.1 r7 hx8) cok109 [] [] (LayOk.cons (j := 100) (eSN true) (eSN false) r6.1 (by kernel_rfl) (sh_eSN _) lO) (.c _) .nil (by kernel_rfl) (by kernel_rfl) (wR 1 101 (wF (bB h fun r10 hx10 h => (CO.sw mix (wR 1 101 ?_))))))))
 refine wC (ms_l1Below_ok 14 pa r6.2.1 r6.2.2 hx10) cok37 [(0, 0)] [(0, 0)] [] (wR 1 101 (wF ?_))
 refine CO.join (fun (⟨a1, r8, r10, y12⟩ : (Int × LU × (Int × Int × Int) × Int)) => ⟨tl 125 [(0, .loc 0 0), (1, V.i a1), (5, V.s r8), (6, V.i y12)], [(0, .cells 65 [sL byteRow pa, V.i r10.2.1, V.i r10.2.2])]⟩) (fun i => ms_l14Stmt_k1 N R pa i = some r) ?_ ?_
 · rintro ⟨a1, r8, r10, y12⟩ h15
   rw [ms_l14Stmt_k1] at h15
   refine CO.seq' (cV 101 (CO.block' (cV 101 ?_)))
   refine cI h15 (fun _ h15 => ?_) (fun _ h15 => ?_)
   ·refine bB h15 fun s100 hx116 h15 => (bB h15 fun s101 hx117 h15 => (bB h15 fun r102 hx118 h15 => (bB h15 fun s103 hx119 h15 => (CO.sw mix (wR 1 101 (W.cat hx116 (by kernel_rfl) (W.cat hx117 (by kernel_rfl) (wR 3 101 ?_))))))))
    refine wC (HR.ms_l14Stmt (wr (a1 - 1)) pa r10.2.1 r10.2.2 _ hx118) cok126 [(0, 0)] [(0, 0)] [] (W.cat hx119 (by kernel_rfl) (wR 1 101 (wF (CO.ret ?_))))
    have h15 := sI h15
    subst h15
    exact eG [(0, 0)] (.inr rfl) (RetV.one rfl (oT (t := 4) (r := V.s s103)))
   refine cV 101 ?_
   refine cI h15 (fun _ h15 => ?_) (fun _ h15 => ?_)
   ·refine bB h15 fun s111 hx128 h15 => (bB h15 fun s112 hx129 h15 => (bB h15 fun r113 hx130 h15 => (bB h15 fun s114 hx131 h15 => (bB h15 fun s115 hx132 h15 => (bB h15 fun r116 hx133 h15 => (bB h15 fun s117 hx134 h15 => (CO.sw mix (wR 1 101 ?_))))))))
    refine W.cat hx128 (by kernel_rfl) (W.cat hx129 (by kernel_rfl) (wR 3 101 (wC (HR.ms_l14Body (wr (a1 - 1)) pa r10.2.1 r10.2.2 _ hx130) cok108 [(0, 0)] [(0, 0)] [] (W.cat hx131 (by kernel_rfl) (W.cat hx132 (by kernel_rfl) (wR 3 101 (wC (HR.ms_l14Stmt (wr (a1 - 1)) pa r113.2.1 r113.2.2 _ hx133) cok126 [(0, 0)] [(0, 0)] [] (W.cat hx134 (by kernel_rfl) ?_))))))))
    refine wR 1 101 (wF (CO.ret ?_))
    have h15 := sI h15
    subst h15
    exact eG [(0, 0)] (.inr rfl) (RetV.one rfl (oT (t := 4) (r := V.s s117)))
   refine cV 101 ?_
   refine cI h15 (fun _ h15 => ?_) (fun _ h15 => ?_)
   ·refine bB h15 fun s124 hx142 h15 => (bB h15 fun s125 hx143 h15 => (bB h15 fun r126 hx144 h15 => (bB h15 fun s127 hx145 h15 => (bB h15 fun r128 hx146 h15 => (bB h15 fun s129 hx147 h15 => (CO.sw mix (wR 1 101 (W.cat hx142 (by kernel_rfl) ?_))))))))
    refine W.cat hx143 (by kernel_rfl) (wR 2 101 (wD (ms_l1Pick_ok [[32], [10], [59]] pa r10.2.1 r10.2.2 hx144) cok46 [(0, 0)] [(0, 0)] [] (LayOk.cons (j := 101) eNS eNS ([[32], [10], [59]] : LLU) (by kernel_rfl) (fun _ => rfl) lO) (W.cat hx145 (by kernel_rfl) (wR 3 102 (wC (HR.ms_l14Stmt (wr (a1 - 1)) pa r126.2.1 r126.2.2 _ hx146) cok126 [(0, 0)] [(0, 0)] [] (W.cat hx147 (by kernel_rfl) (wR 1 102 (wF ?_))))))))
    refine CO.ret ?_
    have h15 := sI h15
    subst h15
    exact eG [(0, 0)] (.inr rfl) (RetV.one rfl (oT (t := 4) (r := V.s s129)))
   refine cV 101 ?_
   refine cI h15 (fun _ h15 => ?_) (fun _ h15 => ?_)
   ·refine bB h15 fun r137 hx156 h15 => (bB h15 fun s138 hx157 h15 => (bB h15 fun r139 hx158 h15 => (bB h15 fun s140 hx159 h15 => (bB h15 fun s141 hx160 h15 => (bB h15 fun s142 hx161 h15 => (bB h15 fun s143 hx162 h15 => (CO.sw mix (wR 3 101 ?_))))))))
    refine wC (HR.ms_l14Stmt (wr (a1 - 1)) pa r10.2.1 r10.2.2 _ hx156) cok126 [(0, 0)] [(0, 0)] [] (W.cat hx157 (by kernel_rfl) (wR 2 101 (wD (ms_l1Pick_ok [[59, 32], [10]] pa r137.2.1 r137.2.2 hx158) cok46 [(0, 0)] [(0, 0)] [] (LayOk.cons (j := 101) eNS eNS ([[59, 32], [10]] : LLU) (by kernel_rfl) (fun _ => rfl) lO) (W.cat hx159 (by kernel_rfl) (W.cat hx160 (by kernel_rfl) (wR 1 102 (W.cat hx161 (by kernel_rfl) (W.cat hx162 (by kernel_rfl) ?_))))))))
    refine wR 1 102 (wF (CO.ret ?_))
    have h15 := sI h15
    subst h15
    exact eG [(0, 0)] (.inr rfl) (RetV.one rfl (oT (t := 4) (r := V.s s143)))
   refine cV 101 ?_
   refine cI h15 (fun _ h15 => ?_) (fun _ h15 => ?_)
   ·refine bB h15 fun r149 hx169 h15 => (bB h15 fun s150 hx170 h15 => (bB h15 fun s151 hx171 h15 => (bB h15 fun r152 hx172 h15 => (bB h15 fun s153 hx173 h15 => (CO.sw mix (wR 2 101 (wD (ms_l1Pick_ok [[105, 32, 61, 32, 48, 59, 32, 105, 32, 60, 32, 51, 59, 32, 105, 43, 43], [59, 59], [107, 32, 105, 110, 32, 97], [40, 107, 32, 105, 110, 32, 97, 41, 59, 59], [105, 32, 61, 32, 49, 59, 59, 105, 43, 43]] pa r10.2.1 r10.2.2 hx169) cok46 [(0, 0)] [(0, 0)] [] (LayOk.cons (j := 101) eNS eNS ([[105, 32, 61, 32, 48, 59, 32, 105, 32, 60, 32, 51, 59, 32, 105, 43, 43], [59, 59], [107, 32, 105, 110, 32, 97], [40, 107, 32, 105, 110, 32, 97, 41, 59, 59], [105, 32, 61, 32, 49, 59, 59, 105, 43, 43]] : LLU) (by kernel_rfl) (fun _ => rfl) lO) (W.cat hx170 (by kernel_rfl) ?_))))))))
    refine W.cat hx171 (by kernel_rfl) (wR 3 102 (wC (HR.ms_l14Stmt (wr (a1 - 1)) pa r149.2.1 r149.2.2 _ hx172) cok126 [(0, 0)] [(0, 0)] [] (W.cat hx173 (by kernel_rfl) (wR 1 102 (wF (CO.ret ?_))))))
    have h15 := sI h15
    subst h15
    exact eG [(0, 0)] (.inr rfl) (RetV.one rfl (oT (t := 4) (r := V.s s153)))
   refine cV 101 ?_
   refine cI h15 (fun _ h15 => ?_) (fun _ h15 => ?_)
   ·refine bB h15 fun r157 hx178 h15 => (bB h15 fun s158 hx179 h15 => (bB h15 fun s159 hx180 h15 => (CO.sw mix (wR 3 101 (wC (HR.ms_l14Body (wr (a1 - 1)) pa r10.2.1 r10.2.2 _ hx178) cok108 [(0, 0)] [(0, 0)] [] (W.cat hx179 (by kernel_rfl) (W.cat hx180 (by kernel_rfl) (wR 1 101 ?_))))))))
    refine wF (CO.ret ?_)
    have h15 := sI h15
    subst h15
    exact eG [(0, 0)] (.inr rfl) (RetV.one rfl (oT (t := 4) (r := V.s s159)))
   refine CO.join (fun (⟨r8, y12, r10, y160⟩ : (LU × Int × (Int × Int × Int) × Bool)) => ⟨tl 125 [(0, .loc 0 0), (5, V.s r8), (22, V.i y12), (98, V.b y160)], [(0, .cells 65 [sL byteRow pa, V.i r10.2.1, V.i r10.2.2])]⟩) (fun i => ms_l14Stmt_k2 N R pa i = some r) ?_ ?_
   · rintro ⟨r8, y12, r10, y160⟩ h182
     rw [ms_l14Stmt_k2] at h182
     refine cI h182 (fun _ h182 => ?_) (fun _ h182 => ?_)
     ·refine bB h182 fun r167 hx190 h182 => (bB h182 fun r168 hx191 h182 => (bB h182 fun s169 hx192 h182 => (bB h182 fun s170 hx193 h182 => (bB h182 fun r171 hx194 h182 => (bB h182 fun s172 hx195 h182 => (CO.sw mix (wR 2 101 (wD (ms_l1Pick_ok [[112, 114, 105, 110, 116], [112, 114, 105, 110, 116, 102, 32]] pa r10.2.1 r10.2.2 hx190) cok46 [(0, 0)] [(0, 0)] [] (LayOk.cons (j := 101) eNS eNS ([[112, 114, 105, 110, 116], [112, 114, 105, 110, 116, 102, 32]] : LLU) (by kernel_rfl) (fun _ => rfl) lO) ?_))))))))
      refine wR 2 102 (wD (ms_l1Pick_ok [[], [32], [32, 120, 44, 32], [32, 120, 44, 10]] pa r167.2.1 r167.2.2 hx191) cok46 [(0, 0)] [(0, 0)] [] (LayOk.cons (j := 102) eNS eNS ([[], [32], [32, 120, 44, 32], [32, 120, 44, 10]] : LLU) (by kernel_rfl) (fun _ => rfl) lO) (W.cat hx192 (by kernel_rfl) (wR 1 103 (W.cat hx193 (by kernel_rfl) (wR 2 103 (wD (ms_l1Pick_ok [[], [], [32, 62, 32, 34, 102, 34], [32, 62, 62, 32, 34, 102, 34, 32, 120], [32, 124, 32, 34, 115, 111, 114, 116, 34]] pa r168.2.1 r168.2.2 hx194) cok46 [(0, 0)] [(0, 0)] [] (LayOk.cons (j := 103) eNS eNS ([[], [], [32, 62, 32, 34, 102, 34], [32, 62, 62, 32, 34, 102, 34, 32, 120], [32, 124, 32, 34, 115, 111, 114, 116, 34]] : LLU) (by kernel_rfl) (fun _ => rfl) lO) (W.cat hx195 (by kernel_rfl) (wR 1 104 ?_))))))))
      refine wF (CO.ret ?_)
      have h182 := sI h182
      subst h182
      exact eG [(0, 0)] (.inr rfl) (RetV.one rfl (oT (t := 4) (r := V.s s172)))
     refine cV 101 ?_
     refine cI h182 (fun _ h182 => ?_) (fun _ h182 => ?_)
     ·refine bB h182 fun r174 hx198 h182 => (CO.sw mix (wR 2 101 (wD (ms_l1Pick_ok [[110, 101, 120, 116], [101, 120, 105, 116], [114, 101, 116, 117, 114, 110], [98, 114, 101, 97, 107], [99, 111, 110, 116, 105, 110, 117, 101], [100, 101, 108, 101, 116, 101, 32, 97], [100, 101, 108, 101, 116, 101, 32, 97, 91, 49, 44, 32, 120, 93], [101, 120, 105, 116, 32, 49]] pa r10.2.1 r10.2.2 hx198) cok46 [(0, 0)] [(0, 0)] [] (LayOk.cons (j := 101) eNS eNS ([[110, 101, 120, 116], [101, 120, 105, 116], [114, 101, 116, 117, 114, 110], [98, 114, 101, 97, 107], [99, 111, 110, 116, 105, 110, 117, 101], [100, 101, 108, 101, 116, 101, 32, 97], [100, 101, 108, 101, 116, 101, 32, 97, 91, 49, 44, 32, 120, 93], [101, 120, 105, 116, 32, 49]] : LLU) (by kernel_rfl) (fun _ => rfl) lO) (wR 1 102 (wF (CO.ret ?_))))))
      have h182 := sI h182
      subst h182
      exact eG [(0, 0)] (.inr rfl) (RetV.one rfl (oT (t := 4) (r := V.s r174.1)))
     refine cV 101 ?_
     refine cI h182 (fun _ h182 => ?_) (fun _ h182 => ?_)
     ·refine bB h182 fun s177 hx202 h182 => (bB h182 fun s178 hx203 h182 => (CO.sw mix (wR 1 101 (W.cat hx202 (by kernel_rfl) (W.cat hx203 (by kernel_rfl) (wR 1 101 (wF (CO.ret ?_))))))))
      have h182 := sI h182
      subst h182
      exact eG [(0, 0)] (.inr rfl) (RetV.one rfl (oT (t := 4) (r := V.s s178)))
     refine CO.skip (cV 101 (CO.ret ?_))
     have h182 := sI h182
     subst h182
     exact eG [(0, 0)] (.inr rfl) (RetV.one rfl (oT (t := 4) (r := V.s r8)))
   intro hk204
   refine cV 101 ?_
   refine cI h15 (fun _ h15 => ?_) (fun _ h15 => ?_)
   ·exact sK hk204 (r8, y12, r10, (y12 == 6)) h15 [(0, 0)] [0, 5, 22, 98]
   exact cK 101 hk204 (r8, y12, r10, (y12 == 7)) h15 [(0, 0)] [0, 5, 22, 98]
 intro hk206
 refine bB h fun y179 hv208 h => ?_
 refine CO.cutR (tl 125 [(0, .loc 0 0), (1, V.i a1), (5, V.s r8), (6, V.i r10.1), (21, V.b y179)]) [(0, .cells 65 [sL byteRow pa, V.i r10.2.1, V.i r10.2.2])] mix (by
  refine wR 3 101 ?_
  refine wJ 18 hv208 (fun hv208 => ?_) (fun hv208 => ?_)
  ·refine wR 3 101 ?_
   cases hv208
   exact fS [(0, 0)] [0, 1, 5, 6, 21]
  refine wR 3 101 ?_
  cases hv208
  exact fS [(0, 0)] [0, 1, 5, 6, 21]
  ) ?_
 refine cI h (fun _ h => ?_) (fun _ h => ?_)
 ·exact cK 101 hk206 (a1, r8, r10, 6) h [(0, 0)] [0, 1, 5, 6]
 exact sK hk206 (a1, r8, r10, r10.1) h [(0, 0)] [0, 1, 5, 6]

theorem ms_l14Body_F_ok (N : Nat) (R : Rec4) (HR : RecOk4 R) (a1 : Int) (pa : LU) (pb : Int) (pc : Int) {r : (LU × Int × Int)} (h : ms_l14Body_F N R a1 pa pb pc = some r) :
    AC Tryz.prog (GS []) 108 [.loc 0 0, V.i a1] [(0, .cells 65 [sL byteRow pa, V.i pb, V.i pc])] (V.s r.1) [(0, .cells 65 [sL byteRow pa, V.i r.2.1, V.i r.2.2])] := by
 rw [ms_l14Body_F] at h
 refine AC.enter Tryz.func108 rfl (cV 100 (cV 100 (CO.seq' (bB h fun r84 hx84 h => (CO.sw mix (wR 1 100 (wC (ms_l1Below_ok 3 pa pb pc hx84) cok37 [(0, 0)] [(0, 0)] [] (wR 1 100 ?_))))))))
 refine wF (CO.block' (CO.loopJ (fun (⟨a1, y109, y110, y111, y112⟩ : (Int × LU × Int × Int × Int)) => ⟨tl 27 [(0, .loc 0 0), (1, V.i a1), (5, V.s y109), (6, V.i y110)], [(0, .cells 65 [sL byteRow pa, V.i y111, V.i y112])]⟩) (fun n i => ms_l14Body_l1 N R pa n i = some r) (n0 := N) (i0 := (a1, [], r84.1, r84.2.1, r84.2.2)) (wS [(0, 0)] [0, 1, 5, 6]) h (fun i h => by simp [ms_l14Body_l1] at h) ?_))
 rintro n1 ⟨a1, y109, y110, y111, y112⟩ h137 ih138
 rw [ms_l14Body_l1] at h137
 refine CO.seq' (cV 164 ?_)
 refine cI h137 (fun _ h137 => ?_) (fun _ h137 => ?_)
 ·refine CO.skip (CO.seq' (CO.block' (bB h137 fun r159 hx159 h137 => (bB h137 fun s160 hx160 h137 => (bB h137 fun r161 hx161 h137 => (bB h137 fun s162 hx162 h137 => (bB h137 fun r163 hx163 h137 => (bB h137 fun s164 hx164 h137 => ?_))))))))
  refine CO.endR (tl 27 [(0, .loc 0 0), (1, V.i a1), (5, V.s s164), (6, V.i y110)]) [(0, .cells 65 [sL byteRow pa, V.i r163.2.1, V.i r163.2.2])] mix (by
   refine wR 3 164 (wD (ms_l1Pick_ok [[], [10], [32], [35, 32, 99, 10], [59, 32]] pa y111 y112 hx159) cok46 [(0, 0)] [(0, 0)] [] (LayOk.cons (j := 164) eNS eNS ([[], [10], [32], [35, 32, 99, 10], [59, 32]] : LLU) (by kernel_rfl) (fun _ => rfl) lO) (W.cat hx160 (by kernel_rfl) (wR 2 165 (wC (HR.ms_l14Stmt a1 pa r159.2.1 r159.2.2 _ hx161) cok126 [(0, 0)] [(0, 0)] [] (W.cat hx162 (by kernel_rfl) (wR 2 165 (wD (ms_l1Pick_ok [[59], [10], [10], [32, 35, 32, 116, 10], [59, 10]] pa r161.2.1 r161.2.2 hx163) cok46 [(0, 0)] [(0, 0)] [] (LayOk.cons (j := 165) eNS eNS ([[59], [10], [10], [32, 35, 32, 116, 10], [59, 10]] : LLU) (by kernel_rfl) (fun _ => rfl) lO) (W.cat hx164 (by kernel_rfl) ?_))))))))
   refine wR 1 166 ?_
   exact fI
   ) (fun st hw => ?_)
  refine CO.weak hw ?_
  exact cK 166 ih138 (a1, s164, (wr (y110 - 1)), r163.2.1, r163.2.2) h137 [(0, 0)] [0, 1, 5, 6]
 refine CO.exit (cV 164 (CO.ret ?_))
 have h137 := sI h137
 subst h137
 exact eG [(0, 0)] (.inr rfl) (RetV.one rfl (oT (t := 4) (r := V.s y109)))

theorem scc4_ok : ∀ N, RecOk4 (scc4 N)
 | 0 => ⟨fun _ _ _ _ _ h => (by cases h), fun _ _ _ _ _ h => (by cases h)⟩
 | N + 1 => ⟨fun a1 pa pb pc _ h => ms_l14Stmt_F_ok N (scc4 N) (scc4_ok N) a1 pa pb pc h, fun a1 pa pb pc _ h => ms_l14Body_F_ok N (scc4 N) (scc4_ok N) a1 pa pb pc h⟩

theorem ms_l14Body_ok (N : Nat) (a1 : Int) (pa : LU) (pb : Int) (pc : Int) {r : (LU × Int × Int)} (h : ms_l14Body N a1 pa pb pc = some r) :
  AC Tryz.prog (GS []) 108 [.loc 0 0, V.i a1] [(0, .cells 65 [sL byteRow pa, V.i pb, V.i pc])] (V.s r.1) [(0, .cells 65 [sL byteRow pa, V.i r.2.1, V.i r.2.2])] :=
 (scc4_ok N).ms_l14Body a1 pa pb pc r h

theorem ms_l14Item_ok (N : Nat) (pa : LU) (pb : Int) (pc : Int) {r : (LU × Int × Int)} (h : ms_l14Item N pa pb pc = some r) :
    AC Tryz.prog (GS []) 92 [.loc 0 0] [(0, .cells 65 [sL byteRow pa, V.i pb, V.i pc])] (V.s r.1) [(0, .cells 65 [sL byteRow pa, V.i r.2.1, V.i r.2.2])] := by
 rw [ms_l14Item] at h
 refine AC.enter Tryz.func92 rfl (cV 100 (bB h fun r4 hx4 h => (bB h fun s5 hx5 h => (bB h fun s6 hx6 h => (CO.sw mix (wR 1 100 (wC (ms_l14Body_ok N 2 pa pb pc hx4) cok108 [(0, 0)] [(0, 0)] [] (W.cat hx5 (by kernel_rfl) ?_))))))))
 refine W.cat hx6 (by kernel_rfl) (wR 1 100 (wF (bB h fun r10 hx10 h => (bB h fun r11 hx11 h => (bB h fun r12 hx12 h => (CO.sw mix (wR 1 100 (wC (ms_l7Expr_ok N 1 pa r4.2.1 r4.2.2 hx10) cok110 [(0, 0)] [(0, 0), (100, 100)] [100] ?_))))))))
 refine w0 (ms_Top_ok  hx11) cok111 (W.lend (ms_ExprText_ok N r10.1 r11 hx12) cok109 [] [] (LayOk.cons (j := 100) (eSN true) (eSN false) r10.1 (by kernel_rfl) (sh_eSN _) lO) (.c _) .nil (by kernel_rfl) (by kernel_rfl) (wR 1 101 (wF (CO.seq' (bB h fun r44 hx49 h => (CO.sw mix (wR 1 101 (wC (ms_l1Below_ok 6 pa r10.2.1 r10.2.2 hx49) cok37 [(0, 0)] [(0, 0)] [] ?_))))))))
 refine wF (CO.block' (cV 101 ?_))
 refine cI h (fun _ h => ?_) (fun _ h => ?_)
 ·refine bB h fun r47 hx53 h => (bB h fun s48 hx54 h => (CO.sw mix (wR 2 101 (wD (ms_l1Pick_ok [[66, 69, 71, 73, 78], [69, 78, 68]] pa r44.2.1 r44.2.2 hx53) cok46 [(0, 0)] [(0, 0)] [] (LayOk.cons (j := 101) eNS eNS ([[66, 69, 71, 73, 78], [69, 78, 68]] : LLU) (by kernel_rfl) (fun _ => rfl) lO) (wR 1 102 (W.cat hx54 (by kernel_rfl) (wR 1 102 (wF ?_))))))))
  refine CO.ret ?_
  have h := sI h
  subst h
  exact eG [(0, 0)] (.inr rfl) (RetV.one rfl (oT (t := 2) (r := V.s s48)))
 refine cV 101 ?_
 refine cI h (fun _ h => ?_) (fun _ h => ?_)
 ·refine bB h fun r57 hx64 h => (bB h fun s58 hx65 h => (bB h fun r59 hx66 h => (bB h fun s60 hx67 h => (bB h fun s61 hx68 h => (bB h fun r62 hx69 h => (bB h fun s63 hx70 h => (bB h fun s64 hx71 h => (CO.sw mix ?_))))))))
  refine wR 2 101 (wD (ms_l1Pick_ok [[102, 40], [102, 32, 40]] pa r44.2.1 r44.2.2 hx64) cok46 [(0, 0)] [(0, 0)] [] (LayOk.cons (j := 101) eNS eNS ([[102, 40], [102, 32, 40]] : LLU) (by kernel_rfl) (fun _ => rfl) lO) (W.cat hx65 (by kernel_rfl) (wR 2 102 (wD (ms_l1Pick_ok [[], [120], [120, 44, 32, 121], [120, 44, 10, 121]] pa r57.2.1 r57.2.2 hx66) cok46 [(0, 0)] [(0, 0)] [] (LayOk.cons (j := 102) eNS eNS ([[], [120], [120, 44, 32, 121], [120, 44, 10, 121]] : LLU) (by kernel_rfl) (fun _ => rfl) lO) (W.cat hx67 (by kernel_rfl) (W.cat hx68 (by kernel_rfl) (wR 2 103 (wD (ms_l1Pick_ok [[], [10], [32, 35, 32, 100, 10]] pa r59.2.1 r59.2.2 hx69) cok46 [(0, 0)] [(0, 0)] [] (LayOk.cons (j := 103) eNS eNS ([[], [10], [32, 35, 32, 100, 10]] : LLU) (by kernel_rfl) (fun _ => rfl) lO) ?_))))))))
  refine W.cat hx70 (by kernel_rfl) (wR 1 104 (W.cat hx71 (by kernel_rfl) (wR 1 104 (wF (CO.ret ?_)))))
  have h := sI h
  subst h
  exact eG [(0, 0)] (.inr rfl) (RetV.one rfl (oT (t := 2) (r := V.s s64)))
 refine cV 101 ?_
 refine cI h (fun _ h => ?_) (fun _ h => ?_)
 ·refine cV 101 (CO.ret ?_)
  have h := sI h
  subst h
  exact eG [(0, 0)] (.inr rfl) (RetV.one rfl (oT (t := 2) (r := V.s r12)))
 refine cV 101 ?_
 refine cI h (fun _ h => ?_) (fun _ h => ?_)
 ·refine bB h fun s69 hx78 h => (bB h fun s70 hx79 h => (bB h fun r71 hx80 h => (bB h fun s72 hx81 h => (CO.sw mix (wR 1 101 (W.cat hx78 (by kernel_rfl) (wR 1 101 (W.cat hx79 (by kernel_rfl) ?_))))))))
  refine wR 3 101 (wD (ms_l1Pick_ok [[], s6] pa r44.2.1 r44.2.2 hx80) cok46 [(0, 0)] [(0, 0)] [] (LayOk.cons (j := 101) eNS eNS ([[], s6] : LLU) (by kernel_rfl) (fun _ => rfl) lO) (W.cat hx81 (by kernel_rfl) (wR 1 102 (wF (CO.ret ?_)))))
  have h := sI h
  subst h
  exact eG [(0, 0)] (.inr rfl) (RetV.one rfl (oT (t := 2) (r := V.s s72)))
 refine cV 101 ?_
 refine cI h (fun _ h => ?_) (fun _ h => ?_)
 ·refine cV 101 (CO.ret ?_)
  have h := sI h
  subst h
  exact eG [(0, 0)] (.inr rfl) (RetV.one rfl (oT (t := 2) (r := V.s s6)))
 refine CO.skip (bB h fun s74 hx84 h => (CO.sw mix (wR 2 101 (W.cat hx84 (by kernel_rfl) (wR 1 101 (wF (CO.ret ?_)))))))
 have h := sI h
 subst h
 exact eG [(0, 0)] (.inr rfl) (RetV.one rfl (oT (t := 2) (r := V.s s74)))

theorem ms_l14Source_ok (N : Nat) (pa : LU) (pb : Int) (pc : Int) {r : (LU × Int × Int)} (h : ms_l14Source N pa pb pc = some r) :
    AC Tryz.prog (GS []) 63 [.loc 0 0] [(0, .cells 65 [sL byteRow pa, V.i pb, V.i pc])] (V.s r.1) [(0, .cells 65 [sL byteRow pa, V.i r.2.1, V.i r.2.2])] := by
 rw [ms_l14Source] at h
 refine AC.enter Tryz.func63 rfl (cV 100 (cV 100 (CO.seq' (bB h fun r84 hx84 h => (CO.sw mix (wR 1 100 (wC (ms_l1Below_ok 4 pa pb pc hx84) cok37 [(0, 0)] [(0, 0)] [] (wR 1 100 ?_))))))))
 refine wF (CO.block' (CO.loopJ (fun (⟨y109, y110, y111, y112⟩ : (LU × Int × Int × Int)) => ⟨tl 24 [(0, .loc 0 0), (3, V.s y109), (4, V.i y110)], [(0, .cells 65 [sL byteRow pa, V.i y111, V.i y112])]⟩) (fun n i => ms_l14Source_l1 N pa n i = some r) (n0 := N) (i0 := ([], r84.1, r84.2.1, r84.2.2)) (wS [(0, 0)] [0, 3, 4]) h (fun i h => by simp [ms_l14Source_l1] at h) ?_))
 rintro n1 ⟨y109, y110, y111, y112⟩ h137 ih138
 rw [ms_l14Source_l1] at h137
 refine CO.seq' (cV 164 ?_)
 refine cI h137 (fun _ h137 => ?_) (fun _ h137 => ?_)
 ·refine CO.skip (CO.seq' (CO.block' (bB h137 fun r159 hx159 h137 => (bB h137 fun s160 hx160 h137 => (bB h137 fun r161 hx161 h137 => (bB h137 fun s162 hx162 h137 => (bB h137 fun r163 hx163 h137 => (bB h137 fun s164 hx164 h137 => ?_))))))))
  refine CO.endR (tl 24 [(0, .loc 0 0), (3, V.s s164), (4, V.i y110)]) [(0, .cells 65 [sL byteRow pa, V.i r163.2.1, V.i r163.2.2])] mix (by
   refine wR 3 164 (wD (ms_l1Pick_ok [[], [10], [35, 32, 116, 111, 112, 10], []] pa y111 y112 hx159) cok46 [(0, 0)] [(0, 0)] [] (LayOk.cons (j := 164) eNS eNS ([[], [10], [35, 32, 116, 111, 112, 10], []] : LLU) (by kernel_rfl) (fun _ => rfl) lO) (W.cat hx160 (by kernel_rfl) (wR 1 165 (wC (ms_l14Item_ok N pa r159.2.1 r159.2.2 hx161) cok92 [(0, 0)] [(0, 0)] [] (W.cat hx162 (by kernel_rfl) (wR 2 165 (wD (ms_l1Pick_ok [[10], [10, 10], [59], [32, 35, 32, 101, 10]] pa r161.2.1 r161.2.2 hx163) cok46 [(0, 0)] [(0, 0)] [] (LayOk.cons (j := 165) eNS eNS ([[10], [10, 10], [59], [32, 35, 32, 101, 10]] : LLU) (by kernel_rfl) (fun _ => rfl) lO) (W.cat hx164 (by kernel_rfl) ?_))))))))
   refine wR 1 166 ?_
   exact fI
   ) (fun st hw => ?_)
  refine CO.weak hw ?_
  exact cK 166 ih138 (s164, (wr (y110 - 1)), r163.2.1, r163.2.2) h137 [(0, 0)] [0, 3, 4]
 refine CO.exit (cV 164 (CO.ret ?_))
 have h137 := sI h137
 subst h137
 exact eG [(0, 0)] (.inr rfl) (RetV.one rfl (oT (t := 2) (r := V.s y109)))

theorem ms_l1Text_ok (N : Nat) (a1 : Int) (pa : LU) (pb : Int) (pc : Int) {r : (LU × Int × Int)} (h : ms_l1Text N a1 pa pb pc = some r) :
    AC Tryz.prog (GS []) 91 [.loc 0 0, V.i a1] [(0, .cells 65 [sL byteRow pa, V.i pb, V.i pc])] (V.s r.1) [(0, .cells 65 [sL byteRow pa, V.i r.2.1, V.i r.2.2])] := by
 rw [ms_l1Text] at h
 refine AC.enter Tryz.func91 rfl (cV 100 (cV 100 (bB h fun r2 hx2 h => (CO.sw mix (wR 1 101 (wC (ms_l1Below_ok 4 pa pb pc hx2) cok37 [(0, 0)] [(0, 0)] [] (wR 1 101 (wF ?_))))))))
 refine CO.seq' (bB h fun r50 hx86 h => (CO.sw mix (wR 3 101 (wC (ms_l1Below_ok (wr (a1 + 1)) pa r2.2.1 r2.2.2 hx86) cok37 [(0, 0)] [(0, 0)] [] (wR 1 101 (wF (CO.block' (CO.loopJ (fun (⟨r2, y63, y64, y65, y66⟩ : ((Int × Int × Int) × Int × Int × Int × LU)) => ⟨tl 38 [(0, .loc 0 0), (5, .own 100), (6, V.i r2.1), (7, V.i y63)], [(0, .cells 65 [sL byteRow pa, V.i y64, V.i y65]), (100, vX 5 1 byteRow y66)]⟩) (fun n i => ms_l1Text_l1 N pa n i = some r) (n0 := N) (i0 := (r2, r50.1, r50.2.1, r50.2.2, [])) (wS [(0, 0), (100, 100)] [0, 5, 6, 7]) h (fun i h => by simp [ms_l1Text_l1] at h) ?_))))))))
 rintro n1 ⟨r2, y63, y64, y65, y66⟩ h139 ih140
 rw [ms_l1Text_l1] at h139
 refine CO.seq' (cV 165 ?_)
 refine cI h139 (fun _ h139 => ?_) (fun _ h139 => ?_)
 ·refine CO.skip (CO.seq' (CO.block' (bB h139 fun r90 hx156 h139 => (CO.sw mix (wR 1 165 (wC (ms_l1Byte_ok pa y64 y65 hx156) cok65 [(0, 0)] [(0, 0)] [] (wR 1 165 (wF ?_))))))))
  refine CO.join (fun (⟨r2, y63, r90, y66, y91⟩ : ((Int × Int × Int) × Int × (Int × Int × Int) × LU × Int)) => ⟨tl 38 [(0, .loc 0 0), (5, .own 100), (6, V.i r2.1), (7, V.i y63), (8, V.i y91)], [(0, .cells 65 [sL byteRow pa, V.i r90.2.1, V.i r90.2.2]), (100, vX 5 1 byteRow y66)]⟩) (fun i => ms_l1Text_k2 N pa (ms_l1Text_l1 N pa n1) i = some r) ?_ ?_
  · rintro ⟨r2, y63, r90, y66, y91⟩ h158
    rw [ms_l1Text_k2] at h158
    refine CO.join (fun (⟨r2, y63, r90, y66, y92⟩ : ((Int × Int × Int) × Int × (Int × Int × Int) × LU × Int)) => ⟨tl 38 [(0, .loc 0 0), (5, .own 100), (6, V.i r2.1), (7, V.i y63), (8, V.i y92)], [(0, .cells 65 [sL byteRow pa, V.i r90.2.1, V.i r90.2.2]), (100, vX 5 1 byteRow y66)]⟩) (fun i => ms_l1Text_k3 N pa (ms_l1Text_l1 N pa n1) i = some r) ?_ ?_
    · rintro ⟨r2, y63, r90, y66, y92⟩ h160
      rw [ms_l1Text_k3] at h160
      refine bB h160 fun x94 hx162 h160 => ?_
      refine CO.endR (tl 38 [(0, .loc 0 0), (5, .own 166), (6, V.i r2.1), (7, V.i y63)]) [(166, vX 5 1 byteRow x94), (0, .cells 65 [sL byteRow pa, V.i r90.2.1, V.i r90.2.2])] mix (by
       refine wR 3 165 (wR 1 165 (W.vecEq 165 (nn := true) (e := 5) (k := 1) (rows := [[.c (.int .u8 (IntKind.wrap .u8 y92))]]) (rows' := [(bytI y92)].map byteRow) (by kernel_rfl) (by first | (simp only [List.map_cons, List.map_nil, ← bytI_row]; done) | (simp only [List.map_cons, List.map_nil, ← bytI_row]; rfl)) (W.appO Dk byteRow (a := 100) (c := 165) (el := 5) (sz := 1) 1 hx162 rfl 166 (by kernel_rfl) (wR 1 167 ?_))))
       exact fI
       ) (fun st hw => ?_)
      refine CO.weak hw ?_
      exact cK 167 ih140 (r2, (wr (y63 - 1)), r90.2.1, r90.2.2, x94) h160 [(0, 0), (166, 100)] [0, 5, 6, 7]
    intro hk163
    refine cV 165 ?_
    refine cI h158 (fun _ h158 => ?_) (fun _ h158 => ?_)
    ·exact cK 165 hk163 (r2, y63, r90, y66, (wr (97 + (Int.tmod y91 4)))) h158 [(0, 0), (100, 100)] [0, 5, 6, 7, 8]
    exact sK hk163 (r2, y63, r90, y66, y91) h158 [(0, 0), (100, 100)] [0, 5, 6, 7, 8]
  intro hk165
  refine cV 165 ?_
  refine cI h139 (fun _ h139 => ?_) (fun _ h139 => ?_)
  ·exact cK 165 hk165 (r2, y63, r90, y66, (Int.tmod r90.1 2)) h139 [(0, 0), (100, 100)] [0, 5, 6, 7, 8]
  exact sK hk165 (r2, y63, r90, y66, r90.1) h139 [(0, 0), (100, 100)] [0, 5, 6, 7, 8]
 refine CO.exit (CO.sw mix (wR 1 165 (W.strO Dk y66 (a := 100) (by kernel_rfl) (wR 1 165 (wF (CO.ret ?_))))))
 have h139 := sI h139
 subst h139
 exact eG [(0, 0)] (.inr rfl) (RetV.one rfl (oT (t := 4) (r := V.s y66)))

theorem ms_l1Spoil_ok (N : Nat) (a1 : LU) (pa : LU) (pb : Int) (pc : Int) {r : (LU × Int × Int)} (h : ms_l1Spoil N a1 pa pb pc = some r) :
    AC Tryz.prog (GS []) 62 [.loc 0 0, V.s a1] [(0, .cells 65 [sL byteRow pa, V.i pb, V.i pc])] (V.s r.1) [(0, .cells 65 [sL byteRow pa, V.i r.2.1, V.i r.2.2])] := by
 rw [ms_l1Spoil] at h
 refine AC.enter Tryz.func62 rfl (cV 100 (CO.seq' (cV 100 ?_)))
 refine cI h (fun _ h => ?_) (fun _ h => ?_)
 ·refine bB h fun r4 hx6 h => (CO.sw mix (wR 1 100 (wC (ms_l1Text_ok N 3 pa pb pc hx6) cok91 [(0, 0)] [(0, 0)] [] (wR 1 100 (wF (CO.ret ?_))))))
  have h := sI h
  subst h
  exact eG [(0, 0)] (.inr rfl) (RetV.one rfl (oT (t := 4) (r := V.s r4.1)))
 refine CO.skip (bB h fun r6 hx8 h => (CO.sw mix (wR 3 100 (wC (ms_l1Below_ok (a1.length : Int) pa pb pc hx8) cok37 [(0, 0)] [(0, 0)] [] (wR 1 100 (wF (CO.seq' (bB h fun r28 hx33 h => ?_))))))))
 refine CO.sw mix (wR 1 100 (wC (ms_l1Below_ok 4 pa r6.2.1 r6.2.2 hx33) cok37 [(0, 0)] [(0, 0)] [] (wF (CO.block' (cV 100 ?_)))))
 refine cI h (fun _ h => ?_) (fun _ h => ?_)
 ·refine bB h fun s32 hx38 h => (bB h fun s33 hx39 h => (bB h fun s34 hx40 h => (CO.sw mix (wR 2 100 (W.cutS Dk hx38 (by kernel_rfl) (wR 3 100 (W.cutS Dk hx39 (by kernel_rfl) (W.cat hx40 (by kernel_rfl) ?_))))))))
  refine wR 1 100 (wF (CO.ret ?_))
  have h := sI h
  subst h
  exact eG [(0, 0)] (.inr rfl) (RetV.one rfl (oT (t := 4) (r := V.s s34)))
 refine cV 100 ?_
 refine cI h (fun _ h => ?_) (fun _ h => ?_)
 ·refine bB h fun s40 hx47 h => (bB h fun r41 hx48 h => (bB h fun s42 hx49 h => (bB h fun s43 hx50 h => (bB h fun s44 hx51 h => (CO.sw mix (wR 2 100 (W.cutS Dk hx47 (by kernel_rfl) (wR 1 100 ?_))))))))
  refine wC (ms_l1Byte_ok pa r28.2.1 r28.2.2 hx48) cok65 [(0, 0)] [(0, 0)] [] (wR 1 100 (wR 1 100 (W.vecEq 100 (nn := true) (e := 5) (k := 1) (rows := [[.c (.int .u8 (IntKind.wrap .u8 r41.1))]]) (rows' := [(bytI r41.1)].map byteRow) (by kernel_rfl) (by first | (simp only [List.map_cons, List.map_nil, ← bytI_row]; done) | (simp only [List.map_cons, List.map_nil, ← bytI_row]; rfl)) (W.strO Dk ([(bytI r41.1)] : LU) (a := 100) (by kernel_rfl) (W.cat hx49 (by kernel_rfl) (wR 2 101 (W.cutS Dk hx50 (by kernel_rfl) (W.cat hx51 (by kernel_rfl) ?_))))))))
  refine wR 1 101 (wF (CO.ret ?_))
  have h := sI h
  subst h
  exact eG [(0, 0)] (.inr rfl) (RetV.one rfl (oT (t := 4) (r := V.s s44)))
 refine cV 100 ?_
 refine cI h (fun _ h => ?_) (fun _ h => ?_)
 ·refine bB h fun s46 hx54 h => (CO.sw mix (wR 2 100 (W.cutS Dk hx54 (by kernel_rfl) (wR 1 100 (wF (CO.ret ?_))))))
  have h := sI h
  subst h
  exact eG [(0, 0)] (.inr rfl) (RetV.one rfl (oT (t := 4) (r := V.s s46)))
 refine CO.skip (bB h fun s53 hx61 h => (bB h fun b54 hx62 h => (bB h fun r55 hx63 h => (bB h fun s56 hx64 h => (bB h fun s57 hx65 h => (bB h fun s58 hx66 h => (CO.sw mix (wR 2 100 ?_))))))))
 refine W.cutS Dk hx61 (by kernel_rfl) (wR 2 100 (W.ixS Dk hx62 (by kernel_rfl) (wR 2 100 (wC (ms_l1Below_ok 255 pa r28.2.1 r28.2.2 hx63) cok37 [(0, 0)] [(0, 0)] [] (wR 3 100 (wR 1 100 (W.vecEq 100 (nn := true) (e := 5) (k := 1) (rows := [[.c (.int .u8 (IntKind.wrap .u8 (bits .xor .i64 (wr ((b54).toNat : Int)) (wr (1 + r55.1)))))]]) (rows' := [(bytI (bits .xor .i64 (wr ((b54).toNat : Int)) (wr (1 + r55.1))))].map byteRow) (by kernel_rfl) (by first | (simp only [List.map_cons, List.map_nil, ← bytI_row]; done) | (simp only [List.map_cons, List.map_nil, ← bytI_row]; rfl)) (W.strO Dk ([(bytI (bits .xor .i64 (wr ((b54).toNat : Int)) (wr (1 + r55.1))))] : LU) (a := 100) (by kernel_rfl) ?_))))))))
 refine W.cat hx64 (by kernel_rfl) (wR 3 101 (W.cutS Dk hx65 (by kernel_rfl) (W.cat hx66 (by kernel_rfl) (wR 1 101 (wF (CO.ret ?_))))))
 have h := sI h
 subst h
 exact eG [(0, 0)] (.inr rfl) (RetV.one rfl (oT (t := 4) (r := V.s s58)))

theorem ms_l5Token_ok (pa : LU) (pb : Int) (pc : Int) {r : (SToken × Int × Int)} (h : ms_l5Token pa pb pc = some r) :
    AC Tryz.prog (GS []) 97 [.loc 0 0] [(0, .cells 65 [sL byteRow pa, V.i pb, V.i pc])] (.agg [V.i r.1.Kind, V.s r.1.Text, V.i r.1.At]) [(0, .cells 65 [sL byteRow pa, V.i r.2.1, V.i r.2.2])] := by
 rw [ms_l5Token] at h
 refine AC.enter Tryz.func97 rfl (cV 100 (CO.seq' (bB h fun r21 hx30 h => (CO.sw mix (wR 1 101 (wC (ms_l1Below_ok 10 pa pb pc hx30) cok37 [(0, 0)] [(0, 0)] [] (wF (CO.block' ?_))))))))
 refine cV 101 ?_
 refine cI h (fun _ h => ?_) (fun _ h => ?_)
 ·refine bB h fun r23 hx33 h => (CO.sw mix (wR 1 101 (wC (ms_l4Num_ok pa r21.2.1 r21.2.2 hx33) cok117 [(0, 0)] [(0, 0)] [] (wR 2 101 (wF (CO.ret ?_))))))
  have h := sI h
  subst h
  exact eG [(0, 0)] (.inr rfl) (RetV.one rfl (OneR.cell Dk (r := .agg [V.i 3, V.s r23.1, V.i 0]) (i := 100) (ety := 36) (cs := [V.i 3, V.s r23.1, V.i 0]) (by kernel_rfl) (by kernel_rfl) (by kernel_rfl)))
 refine cV 101 ?_
 refine cI h (fun _ h => ?_) (fun _ h => ?_)
 ·refine bB h fun r25 hx36 h => (CO.sw mix (wR 1 101 (wC (ms_l4Str_ok pa r21.2.1 r21.2.2 hx36) cok118 [(0, 0)] [(0, 0)] [] (wR 2 101 (wF (CO.ret ?_))))))
  have h := sI h
  subst h
  exact eG [(0, 0)] (.inr rfl) (RetV.one rfl (OneR.cell Dk (r := .agg [V.i 4, V.s r25.1, V.i 0]) (i := 100) (ety := 36) (cs := [V.i 4, V.s r25.1, V.i 0]) (by kernel_rfl) (by kernel_rfl) (by kernel_rfl)))
 refine cV 101 ?_
 refine cI h (fun _ h => ?_) (fun _ h => ?_)
 ·refine bB h fun r27 hx39 h => (CO.sw mix (wR 1 101 (wC (ms_l4Ere_ok pa r21.2.1 r21.2.2 hx39) cok119 [(0, 0)] [(0, 0)] [] (wR 2 101 (wF (CO.ret ?_))))))
  have h := sI h
  subst h
  exact eG [(0, 0)] (.inr rfl) (RetV.one rfl (OneR.cell Dk (r := .agg [V.i 5, V.s r27.1, V.i 0]) (i := 100) (ety := 36) (cs := [V.i 5, V.s r27.1, V.i 0]) (by kernel_rfl) (by kernel_rfl) (by kernel_rfl)))
 refine CO.join (fun (⟨r21, y28⟩ : ((Int × Int × Int) × Bool)) => ⟨tl 50 [(0, .loc 0 0), (2, .loc 100 0), (6, V.i r21.1), (22, V.b y28)], [(0, .cells 65 [sL byteRow pa, V.i r21.2.1, V.i r21.2.2]), (100, .cells 36 [V.i 0, V.s [], V.i 0])]⟩) (fun i => ms_l5Token_k1 pa i = some r) ?_ ?_
 · rintro ⟨r21, y28⟩ h41
   rw [ms_l5Token_k1] at h41
   refine cI h41 (fun _ h41 => ?_) (fun _ h41 => ?_)
   ·refine bB h41 fun r30 hx44 h41 => (CO.sw mix (wR 1 101 (wC (ms_l2Word_ok pa r21.2.1 r21.2.2 hx44) cok120 [(0, 0)] [(0, 0)] [] (wR 2 101 (wF (CO.ret ?_))))))
    have h41 := sI h41
    subst h41
    exact eG [(0, 0)] (.inr rfl) (RetV.one rfl (OneR.cell Dk (r := .agg [V.i 6, V.s r30.1, V.i 0]) (i := 100) (ety := 36) (cs := [V.i 6, V.s r30.1, V.i 0]) (by kernel_rfl) (by kernel_rfl) (by kernel_rfl)))
   refine cV 101 ?_
   refine cI h41 (fun _ h41 => ?_) (fun _ h41 => ?_)
   ·refine bB h41 fun r33 hx48 h41 => (bB h41 fun r34 hx49 h41 => (CO.sw mix (wR 1 101 (wC (ms_l3Builtins_ok  hx48) cok107 [] [(100, 101)] [101] (wD (ms_l1Pick_ok r33 pa r21.2.1 r21.2.2 hx49) cok46 [(0, 0)] [(0, 0)] [] (LayOk.cons (j := 101) eNS eNS r33 (by kernel_rfl) (fun _ => rfl) lO) (wR 2 102 (wF (CO.ret ?_))))))))
    have h41 := sI h41
    subst h41
    exact eG [(0, 0)] (.inr rfl) (RetV.one rfl (OneR.cell Dk (r := .agg [V.i 8, V.s r34.1, V.i 0]) (i := 100) (ety := 36) (cs := [V.i 8, V.s r34.1, V.i 0]) (by kernel_rfl) (by kernel_rfl) (by kernel_rfl)))
   refine cV 101 ?_
   refine cI h41 (fun _ h41 => ?_) (fun _ h41 => ?_)
   ·refine bB h41 fun r36 hx52 h41 => (CO.sw mix (wR 1 101 (wC (ms_l1Below_ok 17 pa r21.2.1 r21.2.2 hx52) cok37 [(0, 0)] [(0, 0)] [] (wR 2 101 (wF (bB h41 fun r38 hx54 h41 => (cC 2 101 (ms_SpellOf_ok (wr (10 + r36.1)) hx54) cok121 (CO.ret ?_))))))))
    have h41 := sI h41
    subst h41
    exact eG [(0, 0)] (.inr rfl) (RetV.one rfl (OneR.cell Dk (r := .agg [V.i (wr (10 + r36.1)), V.s r38, V.i 0]) (i := 100) (ety := 36) (cs := [V.i (wr (10 + r36.1)), V.s r38, V.i 0]) (by kernel_rfl) (by kernel_rfl) (by kernel_rfl)))
   refine CO.skip (bB h41 fun r40 hx56 h41 => (CO.sw mix (wR 1 101 (wC (ms_l1Below_ok 39 pa r21.2.1 r21.2.2 hx56) cok37 [(0, 0)] [(0, 0)] [] (wR 2 101 (wF (bB h41 fun r42 hx58 h41 => (cC 2 101 (ms_SpellOf_ok (wr (30 + r40.1)) hx58) cok121 ?_))))))))
   refine CO.ret ?_
   have h41 := sI h41
   subst h41
   exact eG [(0, 0)] (.inr rfl) (RetV.one rfl (OneR.cell Dk (r := .agg [V.i (wr (30 + r40.1)), V.s r42, V.i 0]) (i := 100) (ety := 36) (cs := [V.i (wr (30 + r40.1)), V.s r42, V.i 0]) (by kernel_rfl) (by kernel_rfl) (by kernel_rfl)))
 intro hk59
 refine cV 101 ?_
 refine cI h (fun _ h => ?_) (fun _ h => ?_)
 ·exact sK hk59 (r21, (r21.1 == 3)) h [(0, 0), (100, 100)] [0, 2, 6, 22]
 exact cK 101 hk59 (r21, (r21.1 == 4)) h [(0, 0), (100, 100)] [0, 2, 6, 22]

theorem ms_EndsOperand_ok (a0 : Int) {r : Bool} (h : ms_EndsOperand a0 = some r) :
    AC Tryz.prog (GS []) 31 [V.i a0] [] (V.b r) [] := by
 rw [ms_EndsOperand] at h
 refine AC.enter Tryz.func31 rfl (cV 100 (CO.seq' (cV 100 (CO.block' ?_))))
 refine CO.join (fun (y2 : Bool) => ⟨tl 14 [(4, V.b y2)], []⟩) (fun i => ms_EndsOperand_k1 i = some r) ?_ ?_
 · rintro y2 h28
   rw [ms_EndsOperand_k1] at h28
   refine cI h28 (fun _ h28 => ?_) (fun _ h28 => ?_)
   ·refine cV 100 ?_
    cases h28
    exact e1 2 id
   refine CO.skip (cV 100 ?_)
   cases h28
   exact e1 2 id
 intro hk30
 refine cV 100 ?_
 refine cI h (fun _ h => ?_) (fun _ h => ?_)
 ·exact sK hk30 (a0 == 3) h [] [4]
 refine cV 100 ?_
 refine cI h (fun _ h => ?_) (fun _ h => ?_)
 ·exact sK hk30 (a0 == 4) h [] [4]
 refine cV 100 ?_
 refine cI h (fun _ h => ?_) (fun _ h => ?_)
 ·exact sK hk30 (a0 == 5) h [] [4]
 refine cV 100 ?_
 refine cI h (fun _ h => ?_) (fun _ h => ?_)
 ·exact sK hk30 (a0 == 6) h [] [4]
 refine cV 100 ?_
 refine cI h (fun _ h => ?_) (fun _ h => ?_)
 ·exact sK hk30 (a0 == 8) h [] [4]
 refine cV 100 ?_
 refine cI h (fun _ h => ?_) (fun _ h => ?_)
 ·exact sK hk30 (a0 == 33) h [] [4]
 refine cV 100 ?_
 refine cI h (fun _ h => ?_) (fun _ h => ?_)
 ·exact sK hk30 (a0 == 35) h [] [4]
 refine cV 100 ?_
 refine cI h (fun _ h => ?_) (fun _ h => ?_)
 ·exact sK hk30 (a0 == 51) h [] [4]
 exact cK 100 hk30 (a0 == 52) h [] [4]

theorem ms_l5Tokens_ok (N : Nat) (a1 : Int) (pa : LU) (pb : Int) (pc : Int) {r : (LT × Int × Int)} (h : ms_l5Tokens N a1 pa pb pc = some r) :
    AC Tryz.prog (GS []) 73 [.loc 0 0, V.i a1] [(0, .cells 65 [sL byteRow pa, V.i pb, V.i pc])] (.own 100) [(0, .cells 65 [sL byteRow pa, V.i r.2.1, V.i r.2.2]), (100, vX 36 3 eTk r.1)] := by
 rw [ms_l5Tokens] at h
 refine AC.enter Tryz.func73 rfl (cV 100 (cV 100 (CO.seq' (bB h fun r380 hx548 h => (CO.sw mix (wR 3 101 (wC (ms_l1Below_ok (wr (a1 + 1)) pa pb pc hx548) cok37 [(0, 0)] [(0, 0)] [] (wR 1 101 ?_))))))))
 refine wF (CO.block' (CO.loopJ (fun (⟨y497, y498, y499, y500⟩ : (Int × Int × Int × LT)) => ⟨tl 99 [(0, .loc 0 0), (5, .own 100), (6, V.i y497)], [(0, .cells 65 [sL byteRow pa, V.i y498, V.i y499]), (100, vX 36 3 eTk y500)]⟩) (fun n i => ms_l5Tokens_l1 N pa n i = some r) (n0 := N) (i0 := (r380.1, r380.2.1, r380.2.2, [])) (wS [(0, 0), (100, 100)] [0, 5, 6]) h (fun i h => by simp [ms_l5Tokens_l1] at h) ?_))
 rintro n1 ⟨y497, y498, y499, y500⟩ h905 ih906
 rw [ms_l5Tokens_l1] at h905
 refine CO.seq' (cV 173 ?_)
 refine cI h905 (fun _ h905 => ?_) (fun _ h905 => ?_)
 ·refine CO.skip (CO.seq' (CO.block' (cV 173 ?_)))
  refine CO.join (fun (⟨y497, y498, y499, y500, y696⟩ : (Int × Int × Int × LT × Int)) => ⟨tl 99 [(0, .loc 0 0), (5, .own 100), (6, V.i y497), (7, V.i y696)], [(0, .cells 65 [sL byteRow pa, V.i y498, V.i y499]), (100, vX 36 3 eTk y500)]⟩) (fun i => ms_l5Tokens_k2 N pa (ms_l5Tokens_l1 N pa n1) i = some r) ?_ ?_
  · rintro ⟨y497, y498, y499, y500, y696⟩ h1004
    rw [ms_l5Tokens_k2] at h1004
    refine bB h1004 fun r698 hx1006 h1004 => (CO.sw mix (wR 1 173 (wC (ms_l5Token_ok pa y498 y499 hx1006) cok97 [(0, 0)] [(0, 0)] [] (wR 2 173 (wF ?_)))))
    refine CO.join (fun (⟨y497, y723, y724, y725, y726, y727, y728⟩ : (Int × Int × Int × LT × Int × LU × Int)) => ⟨tl 99 [(0, .loc 0 0), (5, .own 100), (6, V.i y497), (8, .loc 101 0)], [(0, .cells 65 [sL byteRow pa, V.i y723, V.i y724]), (100, vX 36 3 eTk y725), (101, .cells 36 [V.i y726, V.s y727, V.i y728])]⟩) (fun i => ms_l5Tokens_k3 N pa (ms_l5Tokens_l1 N pa n1) i = some r) ?_ ?_
    · rintro ⟨y497, y723, y724, y725, y726, y727, y728⟩ h1046
      rw [ms_l5Tokens_k3] at h1046
      refine bB h1046 fun x730 hx1048 h1046 => ?_
      refine CO.endR (tl 99 [(0, .loc 0 0), (5, .own 178), (6, V.i y497)]) [(178, vX 36 3 eTk x730), (0, .cells 65 [sL byteRow pa, V.i y723, V.i y724])] mix (by
       refine wR 3 177 (W.appO Dk eTk (a := 100) (c := 177) (el := 36) (sz := 3) 32 hx1048 rfl 178 (by kernel_rfl) (wR 1 179 ?_))
       exact fI
       ) (fun st hw => ?_)
      refine CO.weak hw ?_
      exact cK 179 ih906 ((wr (y497 - 1)), y723, y724, x730) h1046 [(0, 0), (178, 100)] [0, 5, 6]
    intro hk1049
    refine CO.block' (bB h1004 fun y736 hv1061 h1004 => ?_)
    refine CO.cutR (tl 99 [(0, .loc 0 0), (5, .own 100), (6, V.i y497), (8, .loc 101 0), (30, V.b y736)]) [(0, .cells 65 [sL byteRow pa, V.i r698.2.1, V.i r698.2.2]), (100, vX 36 3 eTk y500), (101, .cells 36 [V.i r698.1.Kind, V.s r698.1.Text, V.i r698.1.At])] mix (by
     refine wR 4 174 ?_
     refine wJ 34 hv1061 (fun hv1061 => ?_) (fun hv1061 => ?_)
     ·refine wR 1 174 (bB hv1061 fun r737 hx1063 hv1061 => (w0 (ms_EndsOperand_ok y696 hx1063) cok31 (wR 2 174 ?_)))
      refine wJ 38 hv1061 (fun hv1061 => ?_) (fun hv1061 => ?_)
      ·refine wR 15 174 ?_
       cases hv1061
       exact fS [(0, 0), (100, 100), (173, 101)] [0, 5, 6, 8, 30]
      refine wR 4 174 ?_
      refine wJ 42 hv1061 (fun hv1061 => ?_) (fun hv1061 => ?_)
      ·refine wR 6 174 (bB hv1061 fun r738 hx1066 hv1061 => (w0 (ms_EndsOperand_ok y696 hx1066) cok31 (wR 4 174 ?_)))
       cases hv1061
       exact fS [(0, 0), (100, 100), (173, 101)] [0, 5, 6, 8, 30]
      refine wR 5 174 ?_
      refine wJ 47 hv1061 (fun hv1061 => ?_) (fun hv1061 => ?_)
      ·refine wR 1 174 (bB hv1061 fun r739 hx1068 hv1061 => (w0 (ms_EndsOperand_ok y696 hx1068) cok31 (wR 4 174 ?_)))
       cases hv1061
       exact fS [(0, 0), (100, 100), (173, 101)] [0, 5, 6, 8, 30]
      refine wR 6 174 ?_
      cases hv1061
      exact fS [(0, 0), (100, 100), (173, 101)] [0, 5, 6, 8, 30]
     refine wR 8 174 ?_
     refine wJ 42 hv1061 (fun hv1061 => ?_) (fun hv1061 => ?_)
     ·refine wR 6 174 (bB hv1061 fun r740 hx1070 hv1061 => (w0 (ms_EndsOperand_ok y696 hx1070) cok31 (wR 4 174 ?_)))
      cases hv1061
      exact fS [(0, 0), (100, 100), (173, 101)] [0, 5, 6, 8, 30]
     refine wR 5 174 ?_
     refine wJ 47 hv1061 (fun hv1061 => ?_) (fun hv1061 => ?_)
     ·refine wR 1 174 (bB hv1061 fun r741 hx1072 hv1061 => (w0 (ms_EndsOperand_ok y696 hx1072) cok31 (wR 4 174 ?_)))
      cases hv1061
      exact fS [(0, 0), (100, 100), (173, 101)] [0, 5, 6, 8, 30]
     refine wR 6 174 ?_
     cases hv1061
     exact fS [(0, 0), (100, 100), (173, 101)] [0, 5, 6, 8, 30]
     ) ?_
    refine cI h1004 (fun _ h1004 => ?_) (fun _ h1004 => ?_)
    ·exact cK 174 hk1049 (y497, r698.2.1, r698.2.2, y500, 1, [10], 0) h1004 [(0, 0), (100, 100), (101, 101)] [0, 5, 6, 8]
    (revert h1004; refine bR ?_; rintro ⟨y743, y744, y745⟩ hv1076 h1004)
    refine CO.cutR (tl 99 [(0, .loc 0 0), (5, .own 100), (6, V.i y497), (8, .loc 101 0), (54, V.b y743)]) [(0, .cells 65 [sL byteRow pa, V.i y744, V.i y745]), (100, vX 36 3 eTk y500), (101, .cells 36 [V.i r698.1.Kind, V.s r698.1.Text, V.i r698.1.At])] mix (by
     refine wR 4 174 ?_
     refine wJ 58 hv1076 (fun hv1076 => ?_) (fun hv1076 => ?_)
     ·refine wR 1 174 (bB hv1076 fun r746 hx1078 hv1076 => (wC (ms_l1Once_ok 4 pa r698.2.1 r698.2.2 hx1078) cok48 [(0, 0)] [(0, 0)] [] (wR 2 174 ?_)))
      simp only [Option.some.injEq, Prod.mk.injEq] at hv1076
      obtain ⟨e0, e1, e2⟩ := hv1076
      subst e0
      subst e1
      subst e2
      exact fS [(0, 0), (100, 100), (101, 101)] [0, 5, 6, 8, 54]
     refine wR 4 174 ?_
     simp only [Option.some.injEq, Prod.mk.injEq] at hv1076
     obtain ⟨e0, e1, e2⟩ := hv1076
     subst e0
     subst e1
     subst e2
     exact fS [(0, 0), (100, 100), (101, 101)] [0, 5, 6, 8, 54]
     ) ?_
    refine cI h1004 (fun _ h1004 => ?_) (fun _ h1004 => ?_)
    ·refine cV 174 (bB h1004 fun x748 hx1081 h1004 => (CO.sw mix (wR 3 174 (W.appO Dk eTk (a := 100) (c := 174) (el := 36) (sz := 3) 32 hx1081 rfl 175 (by kernel_rfl) (wR 1 176 (wF ?_))))))
     exact cK 176 hk1049 (y497, y744, y745, x748, 32, [40], 0) h1004 [(0, 0), (175, 100), (101, 101)] [0, 5, 6, 8]
    refine bB h1004 fun r750 hx1083 h1004 => (CO.sw mix (wR 1 174 (wC (ms_l1Once_ok 20 pa y744 y745 hx1083) cok48 [(0, 0)] [(0, 0)] [] (wR 1 174 (wF ?_)))))
    refine cI h1004 (fun _ h1004 => ?_) (fun _ h1004 => ?_)
    ·refine bB h1004 fun r753 hx1087 h1004 => (bB h1004 fun x754 hx1088 h1004 => (CO.sw mix (wR 3 174 (wD (ms_l1Pick_ok [[35], [35, 32, 97], [35, 34, 120]] pa r750.2.1 r750.2.2 hx1087) cok46 [(0, 0)] [(0, 0)] [] (LayOk.cons (j := 174) eNS eNS ([[35], [35, 32, 97], [35, 34, 120]] : LLU) (by kernel_rfl) (fun _ => rfl) lO) (wR 2 175 (W.appO Dk eTk (a := 100) (c := 175) (el := 36) (sz := 3) 32 hx1088 rfl 176 (by kernel_rfl) (wR 1 177 (wF ?_))))))))
     exact cK 177 hk1049 (y497, r753.2.1, r753.2.2, x754, 1, [10], 0) h1004 [(0, 0), (176, 100), (101, 101)] [0, 5, 6, 8]
    exact sK hk1049 (y497, r750.2.1, r750.2.2, y500, r698.1.Kind, r698.1.Text, r698.1.At) h1004 [(0, 0), (100, 100), (101, 101)] [0, 5, 6, 8]
  intro hk1089
  refine CO.sw mix (wR 1 173 (wN eTk y500 [100] (wR 1 173 (wF ?_))))
  refine cI h905 (fun _ h905 => ?_) (fun _ h905 => ?_)
  ·refine bB h905 fun e756 hx1092 h905 => (CO.w mix (wR 2 173 (wN eTk y500 [100] (wR 1 173 (W.ixO Dk eTk hx1092 100 3 (by kernel_rfl) (wR 1 173 (W.ldO Dk eTk hx1092 3 100 0 (V.i e756.Kind) (by kernel_rfl) (by kernel_rfl) (wR 1 173 ?_))))))))
   exact wK hk1089 (y497, y498, y499, y500, e756.Kind) h905 [(0, 0), (100, 100)] [0, 5, 6, 7]
  exact sK hk1089 (y497, y498, y499, y500, 0) h905 [(0, 0), (100, 100)] [0, 5, 6, 7]
 refine CO.exit ?_
 refine CO.join (fun (⟨y770, y771, y772⟩ : (LT × Int × Int)) => ⟨tl 99 [(5, .own 100)], [(100, vX 36 3 eTk y770), (0, .cells 65 [sL byteRow pa, V.i y771, V.i y772])]⟩) (fun i => ms_l5Tokens_k4 N pa (ms_l5Tokens_l1 N pa n1) i = some r) ?_ ?_
 · rintro ⟨y770, y771, y772⟩ h1107
   rw [ms_l5Tokens_k4] at h1107
   refine cV 173 (CO.ret ?_)
   cases h1107
   exact eG [(0, 0), (100, 100)] (.inr rfl) (RetV.one rfl (oT (t := 4) (r := .own 100)))
 intro hk1108
 (revert h905; refine bR ?_; rintro ⟨y774, y775, y776⟩ hv1111 h905)
 refine CO.cutR (tl 99 [(0, .loc 0 0), (5, .own 100), (89, V.b y774)]) [(0, .cells 65 [sL byteRow pa, V.i y775, V.i y776]), (100, vX 36 3 eTk y500)] mix (by
  refine wR 1 173 (wN eTk y500 [100] (wR 2 173 ?_))
  refine wJ 86 hv1111 (fun hv1111 => ?_) (fun hv1111 => ?_)
  ·refine wR 1 173 (bB hv1111 fun r777 hx1113 hv1111 => (wC (ms_l1Once_ok 10 pa y498 y499 hx1113) cok48 [(0, 0)] [(0, 0)] [] (wR 1 173 ?_)))
   simp only [Option.some.injEq, Prod.mk.injEq] at hv1111
   obtain ⟨e0, e1, e2⟩ := hv1111
   subst e0
   subst e1
   subst e2
   exact fS [(0, 0), (100, 100)] [0, 5, 89]
  refine wR 3 173 ?_
  simp only [Option.some.injEq, Prod.mk.injEq] at hv1111
  obtain ⟨e0, e1, e2⟩ := hv1111
  subst e0
  subst e1
  subst e2
  exact fS [(0, 0), (100, 100)] [0, 5, 89]
  ) ?_
 refine cI h905 (fun _ h905 => ?_) (fun _ h905 => ?_)
 ·refine bB h905 fun r782 hx1119 h905 => (bB h905 fun r783 hx1120 h905 => (bB h905 fun e784 hx1121 h905 => (bB h905 fun x785 hu1122 h905 => (CO.w mix (wR 3 173 (wN eTk y500 [100] (wC (ms_l1Below_ok (y500.length : Int) pa y775 y776 hx1119) cok37 [(0, 0)] [(0, 0)] [] (wR 1 173 ?_))))))))
  refine wC (ms_l5Token_ok pa r782.2.1 r782.2.2 hx1120) cok97 [(0, 0)] [(0, 0)] [] (W.ixO Dk eTk hx1121 100 3 (by kernel_rfl) (W.stO Dk eTk (x' := r783.1) hx1121 hu1122 (j := 100) (nn := false) (ety := 36) (sz := 3) (b := 0) (ys := [V.i r783.1.Kind, V.s r783.1.Text, V.i r783.1.At]) (C := []) (R := []) (by kernel_rfl) (by kernel_rfl) ?_))
  exact wK hk1108 (x785, r783.2.1, r783.2.2) h905 [(100, 100), (0, 0)] [5]
 exact sK hk1108 (y500, y775, y776) h905 [(100, 100), (0, 0)] [5]

theorem ms_Spell_ok (N : Nat) (a0 : LT) {r : LU} (h : ms_Spell N a0 = some r) :
    AC Tryz.prog (GS []) 72 [sL eTk a0] [] (V.s r) [] := by
 rw [ms_Spell] at h
 refine AC.enter Tryz.func72 rfl (cV 100 (cV 100 (CO.seq' (cV 100 (CO.block' (CO.loopJ (fun (⟨a0, y113, y114⟩ : (LT × LU × Int)) => ⟨tl 35 [(0, sL eTk a0), (3, V.s y113), (4, V.i y114)], []⟩) (fun n i => ms_Spell_l1 N n i = some r) (n0 := N) (i0 := (a0, [], 0)) (wS [] [0, 3, 4]) h (fun i h => by simp [ms_Spell_l1] at h) ?_))))))
 rintro n1 ⟨a0, y113, y114⟩ h209 ih210
 rw [ms_Spell_l1] at h209
 refine CO.seq' (CO.sw mix (wR 2 160 (wN eTk a0 [] (wR 1 160 (wF ?_)))))
 refine cI h209 (fun _ h209 => ?_) (fun _ h209 => ?_)
 ·refine CO.skip (CO.seq' (CO.block' ?_))
  refine CO.join (fun (⟨a0, y114, y195⟩ : (LT × Int × LU)) => ⟨tl 35 [(0, sL eTk a0), (3, V.s y195), (4, V.i y114)], []⟩) (fun i => ms_Spell_k2 N (ms_Spell_l1 N n1) i = some r) ?_ ?_
  · rintro ⟨a0, y114, y195⟩ h255
    rw [ms_Spell_k2] at h255
    refine bB h255 fun e198 hx258 h255 => (bB h255 fun s199 hx259 h255 => ?_)
    refine CO.endR (tl 35 [(0, sL eTk a0), (3, V.s s199), (4, V.i y114)]) [] mix (by
     refine wR 3 160 (wX eTk hx258 3 (wR 2 160 (W.cat hx259 (by kernel_rfl) (wR 1 160 ?_))))
     exact fI
     ) (fun st hw => ?_)
    refine CO.weak hw ?_
    exact cK 160 ih210 (a0, s199, (wr (y114 + 1))) h255 [] [0, 3, 4]
  intro hk260
  refine bB h209 fun y203 hv265 h209 => ?_
  refine CO.cutR (tl 35 [(0, sL eTk a0), (3, V.s y113), (4, V.i y114), (24, V.b y203)]) [] mix (by
   refine wR 3 160 ?_
   refine wJ 13 hv265 (fun hv265 => ?_) (fun hv265 => ?_)
   ·refine wR 3 160 (bB hv265 fun e204 hx267 hv265 => (wX eTk hx267 3 (wR 3 160 (bB hv265 fun e205 hx268 hv265 => (wX eTk hx268 3 (wR 1 160 (bB hv265 fun r206 hx269 hv265 => (w0 (ms_NeedsGap_ok N e204 e205 hx269) cok96 ?_))))))))
    refine wR 1 160 ?_
    cases hv265
    exact fS [] [0, 3, 4, 24]
   refine wR 11 160 ?_
   cases hv265
   exact fS [] [0, 3, 4, 24]
   ) ?_
  refine cI h209 (fun _ h209 => ?_) (fun _ h209 => ?_)
  ·refine bB h209 fun s208 hx272 h209 => (CO.w mix (wR 1 160 (W.cat hx272 (by kernel_rfl) (wR 1 160 ?_))))
   exact wK hk260 (a0, y114, s208) h209 [] [0, 3, 4]
  exact sK hk260 (a0, y114, y113) h209 [] [0, 3, 4]
 refine CO.exit (cV 160 ?_)
 cases h209
 exact e1 2 id

theorem ms_l5Source_ok (N : Nat) (pa : LU) (pb : Int) (pc : Int) {r : (LU × Int × Int)} (h : ms_l5Source N pa pb pc = some r) :
    AC Tryz.prog (GS []) 47 [.loc 0 0] [(0, .cells 65 [sL byteRow pa, V.i pb, V.i pc])] (V.s r.1) [(0, .cells 65 [sL byteRow pa, V.i r.2.1, V.i r.2.2])] := by
 rw [ms_l5Source] at h
 refine AC.enter Tryz.func47 rfl (cV 100 (bB h fun r3 hx3 h => (bB h fun r4 hx4 h => (CO.sw mix (wR 1 100 (wC (ms_l5Tokens_ok N 14 pa pb pc hx3) cok73 [(0, 0)] [(0, 0), (100, 100)] [100] (W.lend (ms_Spell_ok N r3.1 hx4) cok72 [] [] (LayOk.cons (j := 100) eTk eTk r3.1 (by kernel_rfl) (fun _ => rfl) lO) (.c _) .nil (by kernel_rfl) (by kernel_rfl) (wR 1 101 ?_))))))))
 refine wF (CO.seq' (bB h fun r18 hx20 h => (CO.sw mix (wR 1 101 (wC (ms_l1Below_ok 6 pa r3.2.1 r3.2.2 hx20) cok37 [(0, 0)] [(0, 0)] [] (wF (CO.block' (cV 101 ?_))))))))
 refine cI h (fun _ h => ?_) (fun _ h => ?_)
 ·refine bB h fun r20 hx23 h => (CO.sw mix (wR 2 101 (wC (ms_l1Spoil_ok N r4 pa r18.2.1 r18.2.2 hx23) cok62 [(0, 0)] [(0, 0)] [] (wR 1 101 (wF (CO.ret ?_))))))
  have h := sI h
  subst h
  exact eG [(0, 0)] (.inr rfl) (RetV.one rfl (oT (t := 2) (r := V.s r20.1)))
 refine cV 101 ?_
 refine cI h (fun _ h => ?_) (fun _ h => ?_)
 ·refine bB h fun r25 hx29 h => (bB h fun s26 hx30 h => (bB h fun r27 hx31 h => (bB h fun s28 hx32 h => (CO.sw mix (wR 3 101 (wD (ms_l1Pick_ok [[92, 10], [32, 9], [97, 98, 99, 100, 101, 102, 103, 104, 105, 106, 107, 108, 109], [64], [34, 111, 112, 101, 110], [47, 120], [46, 46], [35, 32, 101, 110, 100]] pa r18.2.1 r18.2.2 hx29) cok46 [(0, 0)] [(0, 0)] [] (LayOk.cons (j := 101) eNS eNS ([[92, 10], [32, 9], [97, 98, 99, 100, 101, 102, 103, 104, 105, 106, 107, 108, 109], [64], [34, 111, 112, 101, 110], [47, 120], [46, 46], [35, 32, 101, 110, 100]] : LLU) (by kernel_rfl) (fun _ => rfl) lO) (W.cat hx30 (by kernel_rfl) (wR 2 102 ?_))))))))
  refine wD (ms_l1Pick_ok [[], [120]] pa r25.2.1 r25.2.2 hx31) cok46 [(0, 0)] [(0, 0)] [] (LayOk.cons (j := 102) eNS eNS ([[], [120]] : LLU) (by kernel_rfl) (fun _ => rfl) lO) (W.cat hx32 (by kernel_rfl) (wR 1 103 (wF (CO.ret ?_))))
  have h := sI h
  subst h
  exact eG [(0, 0)] (.inr rfl) (RetV.one rfl (oT (t := 2) (r := V.s s28)))
 refine CO.skip (cV 101 (CO.ret ?_))
 have h := sI h
 subst h
 exact eG [(0, 0)] (.inr rfl) (RetV.one rfl (oT (t := 2) (r := V.s r4)))

theorem ms_l14Any_ok (N : Nat) (pa : LU) (pb : Int) (pc : Int) {r : (LU × Int × Int)} (h : ms_l14Any N pa pb pc = some r) :
    AC Tryz.prog (GS []) 32 [.loc 0 0] [(0, .cells 65 [sL byteRow pa, V.i pb, V.i pc])] (V.s r.1) [(0, .cells 65 [sL byteRow pa, V.i r.2.1, V.i r.2.2])] := by
 rw [ms_l14Any] at h
 refine AC.enter Tryz.func32 rfl (cV 100 (CO.seq' (bB h fun r10 hx12 h => (CO.sw mix (wR 1 100 (wC (ms_l1Below_ok 8 pa pb pc hx12) cok37 [(0, 0)] [(0, 0)] [] (wF (CO.block' ?_))))))))
 refine cV 100 ?_
 refine cI h (fun _ h => ?_) (fun _ h => ?_)
 ·refine bB h fun r13 hx16 h => (bB h fun r14 hx17 h => (CO.sw mix (wR 2 100 (wC (ms_l14Source_ok N pa r10.2.1 r10.2.2 hx16) cok63 [(0, 0)] [(0, 0)] [] (wC (ms_l1Spoil_ok N r13.1 pa r13.2.1 r13.2.2 hx17) cok62 [(0, 0)] [(0, 0)] [] (wR 1 100 (wF (CO.ret ?_))))))))
  have h := sI h
  subst h
  exact eG [(0, 0)] (.inr rfl) (RetV.one rfl (oT (t := 2) (r := V.s r14.1)))
 refine cV 100 ?_
 refine cI h (fun _ h => ?_) (fun _ h => ?_)
 ·refine bB h fun r16 hx20 h => (CO.sw mix (wR 1 100 (wC (ms_l5Source_ok N pa r10.2.1 r10.2.2 hx20) cok47 [(0, 0)] [(0, 0)] [] (wR 1 100 (wF (CO.ret ?_))))))
  have h := sI h
  subst h
  exact eG [(0, 0)] (.inr rfl) (RetV.one rfl (oT (t := 2) (r := V.s r16.1)))
 refine CO.skip (bB h fun r18 hx22 h => (CO.sw mix (wR 1 100 (wC (ms_l14Source_ok N pa r10.2.1 r10.2.2 hx22) cok63 [(0, 0)] [(0, 0)] [] (wR 1 100 (wF (CO.ret ?_)))))))
 have h := sI h
 subst h
 exact eG [(0, 0)] (.inr rfl) (RetV.one rfl (oT (t := 2) (r := V.s r18.1)))

theorem ms_l36Draw_ok (N : Nat) (pa : LU) (pb : Int) (pc : Int) {r : (LU × Int × Int × LU × Int × Int)} (h : ms_l36Draw N pa pb pc = some r) :
    AC Tryz.prog (GS []) 23 [.loc 0 0] [(0, .cells 65 [sL byteRow pa, V.i pb, V.i pc])] (.tup [V.s r.1, V.i r.2.1, V.i r.2.2.1, V.s r.2.2.2.1]) [(0, .cells 65 [sL byteRow pa, V.i r.2.2.2.2.1, V.i r.2.2.2.2.2])] := by
 rw [ms_l36Draw] at h
 refine AC.enter Tryz.func23 rfl (cV 100 (bB h fun r2 hx2 h => (CO.sw mix (wR 1 100 (wC (ms_l14Any_ok N pa pb pc hx2) cok32 [(0, 0)] [(0, 0)] [] (wR 1 100 (wF (bB h fun r4 hx4 h => ?_))))))))
 refine CO.sw mix (wR 4 100 (wC (ms_l1Below_ok (wr ((r2.1.length : Int) + 1)) pa r2.2.1 r2.2.2 hx4) cok37 [(0, 0)] [(0, 0)] [] (wR 1 100 (wF (bB h fun r6 hx6 h => (CO.sw mix (wR 7 100 (wC (ms_l1Below_ok (wr ((if (wr ((r2.1.length : Int) - r4.1)) < 6 then (wr ((r2.1.length : Int) - r4.1)) else 6) + 1)) pa r4.2.1 r4.2.2 hx6) cok37 [(0, 0)] [(0, 0)] [] ?_))))))))
 refine wR 1 100 (wF (bB h fun r9 hx9 h => (bB h fun r10 hx10 h => (CO.sw mix (wR 2 100 (wC (ms_l5Source_ok N pa r6.2.1 r6.2.2 hx9) cok47 [(0, 0)] [(0, 0)] [] (wR 1 100 (wD (ms_l1Pick_ok [[], [32], [120], [43], [47], [34], [10], [40], [35, 32], [49], [105, 102], r9.1] pa r9.2.1 r9.2.2 hx10) cok46 [(0, 0)] [(0, 0)] [] (LayOk.cons (j := 100) eNS eNS ([[], [32], [120], [43], [47], [34], [10], [40], [35, 32], [49], [105, 102], r9.1] : LLU) (by kernel_rfl) (fun _ => rfl) lO) ?_))))))))
 refine wR 1 101 (wF ?_)
 refine CO.join (fun (⟨r2, r10, y17, y18, y19, y20⟩ : ((LU × Int × Int) × (LU × Int × Int) × Int × Int × Int × Int)) => ⟨tl 47 [(6, V.s r2.1), (7, V.i y17), (8, V.i y18), (9, V.s r10.1)], [(0, .cells 65 [sL byteRow pa, V.i y19, V.i y20])]⟩) (fun i => ms_l36Draw_k1 N pa i = some r) ?_ ?_
 · rintro ⟨r2, r10, y17, y18, y19, y20⟩ h18
   rw [ms_l36Draw_k1] at h18
   refine cV 103 (CO.ret ?_)
   have h18 := sI h18
   subst h18
   exact eG [(0, 0)] (.inr rfl) (RetV.four rfl (oT (t := 2) (r := V.s r2.1)) (oT (t := 3) (r := V.i y17)) (oT (t := 4) (r := V.i y18)) (oT (t := 5) (r := V.s r10.1)))
 intro hk19
 refine bB h fun r22 hx21 h => (CO.sw mix (wR 1 101 (wC (ms_l1Once_ok 12 pa r10.2.1 r10.2.2 hx21) cok48 [(0, 0)] [(0, 0)] [] (wF ?_))))
 refine cI h (fun _ h => ?_) (fun _ h => ?_)
 ·refine bB h fun r24 hx24 h => (CO.sw mix (wR 3 101 (wD (ms_l1PickInt_ok [(-1), 9999, r6.1] pa r22.2.1 r22.2.2 hx24) cok49 [(0, 0)] [(0, 0)] [] (LayOk.cons (j := 101) eNI eNI ([(-1), 9999, r6.1] : List Int) (by kernel_rfl) (fun _ => rfl) lO) (wR 1 102 (wF (bB h fun r26 hx26 h => (CO.w mix (wR 6 102 ?_))))))))
  refine wD (ms_l1PickInt_ok [(-1), (wr ((r2.1.length : Int) + 1)), r4.1] pa r24.2.1 r24.2.2 hx26) cok49 [(0, 0)] [(0, 0)] [] (LayOk.cons (j := 102) eNI eNI ([(-1), (wr ((r2.1.length : Int) + 1)), r4.1] : List Int) (by kernel_rfl) (fun _ => rfl) lO) (wR 1 103 ?_)
  exact wK hk19 (r2, r10, r26.1, r24.1, r26.2.1, r26.2.2) h [(0, 0)] [6, 7, 8, 9]
 exact sK hk19 (r2, r10, r4.1, r6.1, r22.2.1, r22.2.2) h [(0, 0)] [6, 7, 8, 9]

theorem ms_IsBlank_ok (a0 : Int) {r : Bool} (h : ms_IsBlank a0 = some r) :
    AC Tryz.prog (GS []) 28 [V.i a0] [] (V.b r) [] := by
 rw [ms_IsBlank] at h
 refine AC.enter Tryz.func28 rfl (cV 100 (bB h fun y1 hv2 h => ?_))
 refine CO.cutR (tl 9 [(2, V.b y1)]) [] mix (by
  refine wR 3 100 ?_
  refine wJ 5 hv2 (fun hv2 => ?_) (fun hv2 => ?_)
  ·refine wR 4 100 ?_
   cases hv2
   exact fS [] [2]
  refine wR 4 100 ?_
  cases hv2
  exact fS [] [2]
  ) ?_
 cases h
 exact e1 2 id

theorem ms_NameEnd_ok (N : Nat) (a0 : LU) (a1 : Int) {r : Int} (h : ms_NameEnd N a0 a1 = some r) :
    AC Tryz.prog (GS []) 59 [V.s a0, V.i a1] [] (V.i r) [] := by
 rw [ms_NameEnd] at h
 refine AC.enter Tryz.func59 rfl (cV 100 (CO.seq' (bB h fun r7 hx8 h => (bB h fun r8 hx9 h => (CO.sw mix (wR 2 100 (w0 (ms_l4Byte_ok a0 a1 hx8) cok29 (w0 (ms_IsLetter_ok r7 hx9) cok57 ?_))))))))
 refine wR 1 100 (wF ?_)
 refine cI h (fun _ h => ?_) (fun _ h => ?_)
 ·refine cV 100 ?_
  cases h
  exact e1 4 id
 refine CO.skip (CO.seq' (CO.block' (CO.loopJ (fun (⟨a0, a1⟩ : (LU × Int)) => ⟨tl 17 [(0, V.s a0), (1, V.i a1)], []⟩) (fun n i => ms_NameEnd_l1 N n i = some r) (n0 := N) (i0 := (a0, a1)) (wS [] [0, 1]) h (fun i h => by simp [ms_NameEnd_l1] at h) ?_)))
 rintro n1 ⟨a0, a1⟩ h43 ih44
 rw [ms_NameEnd_l1] at h43
 refine CO.seq' (bB h43 fun r41 hx52 h43 => (bB h43 fun r42 hx53 h43 => (CO.sw mix (wR 2 140 (w0 (ms_l4Byte_ok a0 a1 hx52) cok29 (w0 (ms_IsWordByte_ok r41 hx53) cok89 (wF ?_)))))))
 refine cI h43 (fun _ h43 => ?_) (fun _ h43 => ?_)
 ·refine CO.skip (CO.block' ?_)
  exact cK 140 ih44 (a0, (wr (a1 + 1))) h43 [] [0, 1]
 refine CO.exit (cV 140 ?_)
 cases h43
 exact e1 4 id

theorem ms_l5Word_ok (N : Nat) (a0 : LU) (a1 : Int) (a2 : Int) {r : SToken} (h : ms_l5Word N a0 a1 a2 = some r) :
    AC Tryz.prog (GS []) 58 [V.s a0, V.i a1, V.i a2] [] (.agg [V.i r.Kind, V.s r.Text, V.i r.At]) [] := by
 rw [ms_l5Word] at h
 refine AC.enter Tryz.func58 rfl (cV 100 (bB h fun s2 hx2 h => (CO.sw mix (wR 3 101 (W.cutS Dk hx2 (by kernel_rfl) (wR 4 101 (wF ?_)))))))
 refine CO.join (fun (⟨s2, a1, y11⟩ : (LU × Int × Int)) => ⟨tl 35 [(6, .loc 100 0), (7, .loc 101 0)], [(100, .cells 36 [V.i 0, V.s [], V.i 0]), (101, .cells 36 [V.i y11, V.s s2, V.i a1])]⟩) (fun i => ms_l5Word_k1 N i = some r) ?_ ?_
 · rintro ⟨s2, a1, y11⟩ h14
   rw [ms_l5Word_k1] at h14
   refine cV 102 (CO.ret ?_)
   have h14 := sI h14
   subst h14
   exact eG [] (.inr rfl) (RetV.one rfl (OneR.cell Dk (r := .agg [V.i y11, V.s s2, V.i a1]) (i := 100) (ety := 36) (cs := [V.i y11, V.s s2, V.i a1]) (by kernel_rfl) (by kernel_rfl) (by kernel_rfl)))
 intro hk15
 refine CO.block' (bB h fun r13 hx17 h => (cC 2 102 (ms_KeywordOf_ok N s2 hx17) cok87 ?_))
 refine cI h (fun _ h => ?_) (fun _ h => ?_)
 ·refine bB h fun r15 hx20 h => (CO.w mix (wR 2 102 (w0 (ms_KeywordOf_ok N s2 hx20) cok87 (wR 2 102 ?_))))
  exact wK hk15 (s2, a1, r15) h [(100, 100), (101, 101)] [6, 7]
 refine bB h fun r17 hx22 h => (cC 2 102 (ms_IsBuiltin_ok N s2 hx22) cok88 ?_)
 refine cI h (fun _ h => ?_) (fun _ h => ?_)
 ·exact cK 102 hk15 (s2, a1, 8) h [(100, 100), (101, 101)] [6, 7]
 refine bB h fun r19 hx25 h => (cC 2 102 (ms_l4Byte_ok a0 a2 hx25) cok29 ?_)
 refine cI h (fun _ h => ?_) (fun _ h => ?_)
 ·exact cK 102 hk15 (s2, a1, 7) h [(100, 100), (101, 101)] [6, 7]
 exact sK hk15 (s2, a1, 6) h [(100, 100), (101, 101)] [6, 7]

theorem ms_l5Next_ok (N : Nat) (a0 : LU) (a1 : Int) (a2 : Bool) {r : SToken} (h : ms_l5Next N a0 a1 a2 = some r) :
    AC Tryz.prog (GS []) 30 [V.s a0, V.i a1, V.b a2] [] (.agg [V.i r.Kind, V.s r.Text, V.i r.At]) [] := by
 rw [ms_l5Next] at h
 refine AC.enter Tryz.func30 rfl (cV 100 (bB h fun b2 hx2 h => (CO.sw mix (wR 2 101 (W.ixS Dk hx2 (by kernel_rfl) (wR 2 101 (wF (cV 101 ?_))))))))
 refine cV 102 ?_
 refine CO.join (fun (⟨a0, a1, y65, y66⟩ : (LU × Int × Int × Int)) => ⟨tl 108 [(0, V.s a0), (1, V.i a1), (6, .loc 100 0), (8, .loc 101 0), (9, V.i y65)], [(100, .cells 36 [V.i 0, V.s [], V.i 0]), (101, .cells 36 [V.i y66, V.s [], V.i a1])]⟩) (fun i => ms_l5Next_k1 N i = some r) ?_ ?_
 · rintro ⟨a0, a1, y65, y66⟩ h115
   rw [ms_l5Next_k1] at h115
   refine CO.seq' (cV 162 ?_)
   refine cI h115 (fun _ h115 => ?_) (fun _ h115 => ?_)
   ·refine cV 162 (CO.ret ?_)
    have h115 := sI h115
    subst h115
    exact eG [] (.inr rfl) (RetV.one rfl (OneR.cell Dk (r := .agg [V.i 0, V.s [], V.i a1]) (i := 100) (ety := 36) (cs := [V.i 0, V.s [], V.i a1]) (by kernel_rfl) (by kernel_rfl) (by kernel_rfl)))
   refine CO.skip (bB h115 fun s68 hx119 h115 => (CO.sw mix (wR 3 162 (W.cutS Dk hx119 (by kernel_rfl) (wR 2 162 (wF (cV 162 (CO.ret ?_))))))))
   have h115 := sI h115
   subst h115
   exact eG [] (.inr rfl) (RetV.one rfl (OneR.cell Dk (r := .agg [V.i y66, V.s s68, V.i a1]) (i := 100) (ety := 36) (cs := [V.i y66, V.s s68, V.i a1]) (by kernel_rfl) (by kernel_rfl) (by kernel_rfl)))
 intro hk120
 refine CO.block' (cV 102 ?_)
 refine cI h (fun _ h => ?_) (fun _ h => ?_)
 ·refine cV 102 (CO.ret ?_)
  have h := sI h
  subst h
  exact eG [] (.inr rfl) (RetV.one rfl (OneR.cell Dk (r := .agg [V.i 1, V.s [10], V.i a1]) (i := 100) (ety := 36) (cs := [V.i 1, V.s [10], V.i a1]) (by kernel_rfl) (by kernel_rfl) (by kernel_rfl)))
 refine cV 102 ?_
 refine cI h (fun _ h => ?_) (fun _ h => ?_)
 ·refine cV 102 (CO.seq' (CO.block' (CO.loopJ (fun (⟨a0, a1, y95⟩ : (LU × Int × Int)) => ⟨tl 108 [(0, V.s a0), (1, V.i a1), (6, .loc 100 0), (8, .loc 101 0), (9, V.i y95)], [(100, .cells 36 [V.i 0, V.s [], V.i 0]), (101, .cells 36 [V.i 0, V.s [], V.i a1])]⟩) (fun n i => ms_l5Next_l2 N n i = some r) (n0 := N) (i0 := (a0, a1, a1)) (wS [(100, 100), (101, 101)] [0, 1, 6, 8, 9]) h (fun i h => by simp [ms_l5Next_l2] at h) ?_)))
  rintro n2 ⟨a0, a1, y95⟩ h185 ih186
  rw [ms_l5Next_l2] at h185
  refine CO.seq' (bB h185 fun y107 hv195 h185 => ?_)
  refine CO.cutR (tl 108 [(0, V.s a0), (1, V.i a1), (6, .loc 100 0), (8, .loc 101 0), (9, V.i y95), (51, V.b y107)]) [(100, .cells 36 [V.i 0, V.s [], V.i 0]), (101, .cells 36 [V.i 0, V.s [], V.i a1])] mix (by
   refine wR 5 162 ?_
   refine wJ 46 hv195 (fun hv195 => ?_) (fun hv195 => ?_)
   ·refine wR 2 162 (bB hv195 fun b108 hx197 hv195 => (W.ixS Dk hx197 (by kernel_rfl) (wR 2 162 ?_)))
    cases hv195
    exact fS [(100, 100), (101, 101)] [0, 1, 6, 8, 9, 51]
   refine wR 5 162 ?_
   cases hv195
   exact fS [(100, 100), (101, 101)] [0, 1, 6, 8, 9, 51]
   ) ?_
  refine cI h185 (fun _ h185 => ?_) (fun _ h185 => ?_)
  ·refine CO.skip (CO.block' ?_)
   exact cK 162 ih186 (a0, a1, (wr (y95 + 1))) h185 [(100, 100), (101, 101)] [0, 1, 6, 8, 9]
  refine CO.exit ?_
  exact cK 162 hk120 (a0, a1, y95, 2) h185 [(100, 100), (101, 101)] [0, 1, 6, 8, 9]
 refine bB h fun y110 hv201 h => ?_
 refine CO.cutR (tl 108 [(0, V.s a0), (1, V.i a1), (2, V.b a2), (6, .loc 100 0), (7, V.i (wr ((b2).toNat : Int))), (8, .loc 101 0), (55, V.b y110)]) [(100, .cells 36 [V.i 0, V.s [], V.i 0]), (101, .cells 36 [V.i 0, V.s [], V.i a1])] mix (by
  refine wR 1 102 (bB hv201 fun r111 hx202 hv201 => (w0 (ms_IsDigit_ok (wr ((b2).toNat : Int)) hx202) cok53 (wR 1 102 ?_)))
  refine wJ 58 hv201 (fun hv201 => ?_) (fun hv201 => ?_)
  ·refine wR 4 102 ?_
   cases hv201
   exact fS [(100, 100), (101, 101)] [0, 1, 2, 6, 7, 8, 55]
  refine wR 4 102 ?_
  cases hv201
  exact fS [(100, 100), (101, 101)] [0, 1, 2, 6, 7, 8, 55]
  ) ?_
 refine cI h (fun _ h => ?_) (fun _ h => ?_)
 ·refine bB h fun r113 hx206 h => (cC 2 102 (ms_NumEnd_ok N a0 a1 hx206) cok54 ?_)
  exact cK 102 hk120 (a0, a1, r113, 3) h [(100, 100), (101, 101)] [0, 1, 6, 8, 9]
 refine cV 102 ?_
 refine cI h (fun _ h => ?_) (fun _ h => ?_)
 ·refine bB h fun r115 hx209 h => (cC 2 102 (ms_StrEnd_ok N a0 a1 hx209) cok55 ?_)
  exact cK 102 hk120 (a0, a1, r115, 4) h [(100, 100), (101, 101)] [0, 1, 6, 8, 9]
 refine bB h fun y116 hv211 h => ?_
 refine CO.cutR (tl 108 [(0, V.s a0), (1, V.i a1), (6, .loc 100 0), (7, V.i (wr ((b2).toNat : Int))), (8, .loc 101 0), (73, V.b y116)]) [(100, .cells 36 [V.i 0, V.s [], V.i 0]), (101, .cells 36 [V.i 0, V.s [], V.i a1])] mix (by
  refine wR 3 102 ?_
  refine wJ 76 hv211 (fun hv211 => ?_) (fun hv211 => ?_)
  ·refine wR 3 102 ?_
   cases hv211
   exact fS [(100, 100), (101, 101)] [0, 1, 6, 7, 8, 73]
  refine wR 3 102 ?_
  cases hv211
  exact fS [(100, 100), (101, 101)] [0, 1, 6, 7, 8, 73]
  ) ?_
 refine cI h (fun _ h => ?_) (fun _ h => ?_)
 ·refine bB h fun r118 hx215 h => (cC 2 102 (ms_EreEnd_ok N a0 a1 hx215) cok56 ?_)
  exact cK 102 hk120 (a0, a1, r118, 5) h [(100, 100), (101, 101)] [0, 1, 6, 8, 9]
 refine bB h fun r120 hx217 h => (cC 1 102 (ms_IsLetter_ok (wr ((b2).toNat : Int)) hx217) cok57 ?_)
 refine cI h (fun _ h => ?_) (fun _ h => ?_)
 ·refine bB h fun r123 hx221 h => (bB h fun r124 hx222 h => (CO.sw mix (wR 4 102 (w0 (ms_NameEnd_ok N a0 a1 hx221) cok59 (w0 (ms_l5Word_ok N a0 a1 r123 hx222) cok58 (wR 2 102 (wF (CO.seq' ?_))))))))
  refine bB h fun r128 hx227 h => (cC 2 103 (ms_NameShape_ok N r124.Text hx227) cok60 ?_)
  refine cI h (fun _ h => ?_) (fun _ h => ?_)
  ·refine cV 103 (CO.ret ?_)
   have h := sI h
   subst h
   exact eG [] (.inr rfl) (RetV.one rfl (OneR.cell Dk (r := .agg [V.i 0, V.s [], V.i a1]) (i := 100) (ety := 36) (cs := [V.i 0, V.s [], V.i a1]) (by kernel_rfl) (by kernel_rfl) (by kernel_rfl)))
  refine CO.skip (cV 103 (CO.ret ?_))
  have h := sI h
  subst h
  exact eG [] (.inr rfl) (RetV.one rfl (OneR.cell Dk (r := .agg [V.i r124.Kind, V.s r124.Text, V.i r124.At]) (i := 100) (ety := 36) (cs := [V.i r124.Kind, V.s r124.Text, V.i r124.At]) (by kernel_rfl) (by kernel_rfl) (by kernel_rfl)))
 refine bB h fun r130 hx230 h => (cC 2 102 (ms_OpAt_ok N a0 a1 hx230) cok61 (CO.seq' (cV 102 ?_)))
 refine cI h (fun _ h => ?_) (fun _ h => ?_)
 ·refine cV 102 (CO.ret ?_)
  have h := sI h
  subst h
  exact eG [] (.inr rfl) (RetV.one rfl (OneR.cell Dk (r := .agg [V.i 0, V.s [], V.i a1]) (i := 100) (ety := 36) (cs := [V.i 0, V.s [], V.i a1]) (by kernel_rfl) (by kernel_rfl) (by kernel_rfl)))
 refine CO.skip (cV 102 ?_)
 exact cK 102 hk120 (a0, a1, (wr (a1 + r130.2)), r130.1) h [(100, 100), (101, 101)] [0, 1, 6, 8, 9]

theorem ms_Lex_ok (N : Nat) (a0 : LU) {r : (LT × SFault)} (h : ms_Lex N a0 = some r) :
    AC Tryz.prog (GS []) 11 [V.s a0] [] (.tup [.own 100, .agg [V.i r.2.Kind, V.i r.2.At]]) [(100, vX 36 3 eTk r.1)] := by
 rw [ms_Lex] at h
 refine AC.enter Tryz.func11 rfl (cV 100 (cV 101 (CO.seq' (cV 102 ?_))))
 refine cI h (fun _ h => ?_) (fun _ h => ?_)
 ·refine cV 102 (CO.ret ?_)
  cases h
  exact eG [(101, 100)] (.inr rfl) (RetV.two rfl (oT (t := 2) (r := .own 101)) (OneR.cell Dk (r := .agg [V.i 1, V.i 0]) (i := 100) (ety := 30) (cs := [V.i 1, V.i 0]) (by kernel_rfl) (by kernel_rfl) (by kernel_rfl)))
 refine CO.skip (cV 102 (CO.seq' (cV 102 (CO.block' (CO.loopJ (fun (⟨a0, y103, y104, y105⟩ : (LU × Int × Int × LT)) => ⟨tl 68 [(0, V.s a0), (3, .loc 100 0), (4, .own 101), (5, V.i y103), (6, V.i y104)], [(100, .cells 30 [V.i 0, V.i 0]), (101, vX 36 3 eTk y105)]⟩) (fun n i => ms_Lex_l1 N n i = some r) (n0 := N) (i0 := (a0, 0, 0, [])) (wS [(100, 100), (101, 101)] [0, 3, 4, 5, 6]) h (fun i h => by simp [ms_Lex_l1] at h) ?_)))))
 rintro n1 ⟨a0, y103, y104, y105⟩ h191 ih192
 rw [ms_Lex_l1] at h191
 refine CO.seq' (cV 168 ?_)
 refine cI h191 (fun _ h191 => ?_) (fun _ h191 => ?_)
 ·refine CO.skip (CO.block' (CO.seq' (bB h191 fun b139 hx202 h191 => (bB h191 fun r140 hx203 h191 => (CO.sw mix (wR 2 168 (W.ixS Dk hx202 (by kernel_rfl) (wR 1 168 ?_))))))))
  refine w0 (ms_IsBlank_ok (wr ((b139).toNat : Int)) hx203) cok28 (wF ?_)
  refine cI h191 (fun _ h191 => ?_) (fun _ h191 => ?_)
  ·refine cV 168 (CO.exit ?_)
   exact ih192 (a0, y103, (wr (y104 + 1)), y105) h191 _ (wS [(100, 100), (101, 101)] [0, 3, 4, 5, 6])
  refine CO.skip (CO.seq' (bB h191 fun y148 hv216 h191 => ?_))
  refine CO.cutR (tl 68 [(0, V.s a0), (3, .loc 100 0), (4, .own 101), (5, V.i y103), (6, V.i y104), (35, V.b y148)]) [(100, .cells 30 [V.i 0, V.i 0]), (101, vX 36 3 eTk y105)] mix (by
   refine wR 2 168 (bB hv216 fun b149 hx217 hv216 => (W.ixS Dk hx217 (by kernel_rfl) (wR 2 168 ?_)))
   refine wJ 29 hv216 (fun hv216 => ?_) (fun hv216 => ?_)
   ·refine wR 3 168 (bB hv216 fun r150 hx219 hv216 => (w0 (ms_l4Byte_ok a0 (wr (y104 + 1)) hx219) cok29 (wR 2 168 ?_)))
    cases hv216
    exact fS [(100, 100), (101, 101)] [0, 3, 4, 5, 6, 35]
   refine wR 6 168 ?_
   cases hv216
   exact fS [(100, 100), (101, 101)] [0, 3, 4, 5, 6, 35]
   ) ?_
  refine cI h191 (fun _ h191 => ?_) (fun _ h191 => ?_)
  ·refine cV 168 (CO.exit ?_)
   exact ih192 (a0, y103, (wr (y104 + 2)), y105) h191 _ (wS [(100, 100), (101, 101)] [0, 3, 4, 5, 6])
  refine CO.skip (bB h191 fun r153 hx223 h191 => (bB h191 fun r154 hx224 h191 => (CO.sw mix (wR 3 168 (w0 (ms_EndsOperand_ok y103 hx223) cok31 (wR 1 168 (w0 (ms_l5Next_ok N a0 y104 (!r153) hx224) cok30 (wR 2 168 ?_))))))))
  refine wF (CO.seq' (cV 169 ?_))
  refine cI h191 (fun _ h191 => ?_) (fun _ h191 => ?_)
  ·refine cV 169 (CO.ret ?_)
   have h191 := sI h191
   subst h191
   exact eG [(169, 100)] (.inr rfl) (RetV.two rfl (oT (t := 2) (r := .own 169)) (OneR.cell Dk (r := .agg [V.i 2, V.i y104]) (i := 100) (ety := 30) (cs := [V.i 2, V.i y104]) (by kernel_rfl) (by kernel_rfl) (by kernel_rfl)))
  refine CO.skip (CO.seq' (CO.sw mix (wR 1 169 (wN eTk y105 [101] (wR 1 169 (wF ?_))))))
  refine cI h191 (fun _ h191 => ?_) (fun _ h191 => ?_)
  ·refine cV 169 (CO.ret ?_)
   cases h191
   exact eG [(169, 100)] (.inr rfl) (RetV.two rfl (oT (t := 2) (r := .own 169)) (OneR.cell Dk (r := .agg [V.i 1, V.i 0]) (i := 100) (ety := 30) (cs := [V.i 1, V.i 0]) (by kernel_rfl) (by kernel_rfl) (by kernel_rfl)))
  refine CO.skip (bB h191 fun x156 hx230 h191 => (CO.sw mix (wR 3 169 (W.appO Dk eTk (a := 101) (c := 169) (el := 36) (sz := 3) 32 hx230 rfl 170 (by kernel_rfl) (wR 1 171 (wF (cV 171 ?_)))))))
  exact cK 171 ih192 (a0, r154.Kind, (wr (y104 + (r154.Text.length : Int))), x156) h191 [(100, 100), (170, 101)] [0, 3, 4, 5, 6]
 refine CO.exit (cV 168 (CO.ret ?_))
 cases h191
 exact eG [(101, 100)] (.inr rfl) (RetV.two rfl (oT (t := 2) (r := .own 101)) (OneR.cell Dk (r := .agg [V.i 0, V.i 0]) (i := 100) (ety := 30) (cs := [V.i 0, V.i 0]) (by kernel_rfl) (by kernel_rfl) (by kernel_rfl)))

theorem ms_DrawRelex_ok (N : Nat) (a0 : LU) {r : (LT × LU × Int × Int × LU)} (h : ms_DrawRelex N a0 = some r) :
    AC Tryz.prog (GS []) 7 [sL byteRow a0] [] (.tup [.own 100, V.s r.2.1, V.i r.2.2.1, V.i r.2.2.2.1, V.s r.2.2.2.2]) [(100, vX 36 3 eTk r.1)] := by
 rw [ms_DrawRelex] at h
 refine AC.enter Tryz.func7 rfl (cV 100 (bB h fun r2 hx2 h => (CO.sw mix (wR 1 100 (wC (ms_l1New_ok N a0 hx2) cok22 [] [(100, 100)] [100] (wR 1 101 (wF (bB h fun r4 hx4 h => ?_))))))))
 refine CO.sw mix (wR 1 101 (wC (ms_l36Draw_ok N r2.1 r2.2.1 r2.2.2 hx4) cok23 [(100, 0)] [(0, 100)] [] (wR 9 101 (wF (bB h fun r6 hx6 h => (CO.sw mix (wR 1 101 (wC (ms_Lex_ok N r4.1 hx6) cok11 [] [(100, 101)] [101] ?_))))))))
 refine wR 6 102 (wF ?_)
 refine CO.join (fun (⟨r4, y9, y10, y11, y12⟩ : ((LU × Int × Int × LU × Int × Int) × LU × Int × Int × LT)) => ⟨tl 53 [(8, V.s y9), (9, V.i y10), (10, V.i y11), (11, V.s r4.2.2.2.1), (12, .own 100)], [(100, vX 36 3 eTk y12)]⟩) (fun i => ms_DrawRelex_k1 N i = some r) ?_ ?_
 · rintro ⟨r4, y9, y10, y11, y12⟩ h10
   rw [ms_DrawRelex_k1] at h10
   refine cV 104 (CO.ret ?_)
   have h10 := sI h10
   subst h10
   exact eG [(100, 100)] (.inr rfl) (RetV.five rfl (oT (t := 2) (r := .own 100)) (oT (t := 3) (r := V.s y9)) (oT (t := 4) (r := V.i y10)) (oT (t := 5) (r := V.i y11)) (oT (t := 6) (r := V.s r4.2.2.2.1)))
 intro hk11
 refine cV 103 ?_
 refine cI h (fun _ h => ?_) (fun _ h => ?_)
 ·refine cV 103 (bB h fun r14 hx14 h => (CO.sw mix (wR 1 103 (wC (ms_Lex_ok N [120, 32, 61, 32, 49, 10, 121, 32, 61, 32, 50, 10] hx14) cok11 [] [(100, 103)] [103] (wR 4 104 (wF (cV 104 ?_)))))))
  exact cK 104 hk11 (r4, [120, 32, 61, 32, 49, 10, 121, 32, 61, 32, 50, 10], (if 12 < (if 0 > r4.2.1 then 0 else r4.2.1) then 12 else (if 0 > r4.2.1 then 0 else r4.2.1)), (if (wr (12 - (if 12 < (if 0 > r4.2.1 then 0 else r4.2.1) then 12 else (if 0 > r4.2.1 then 0 else r4.2.1)))) < (if 0 > r4.2.2.1 then 0 else r4.2.2.1) then (wr (12 - (if 12 < (if 0 > r4.2.1 then 0 else r4.2.1) then 12 else (if 0 > r4.2.1 then 0 else r4.2.1)))) else (if 0 > r4.2.2.1 then 0 else r4.2.2.1)), r14.1) h [(103, 100)] [8, 9, 10, 11, 12]
 exact sK hk11 (r4, r4.1, r4.2.1, r4.2.2.1, r6.1) h [(101, 100)] [8, 9, 10, 11, 12]

theorem mi_within_ok (a0 : Int) (a1 : Int) (a2 : Int) {r : Bool} (h : mi_within a0 a1 a2 = some r) :
    AC Tryz.prog (GS []) 24 [V.i a0, V.i a1, V.i a2] [] (V.b r) [] := by
 rw [mi_within] at h
 refine AC.enter Tryz.func24 rfl (cV 100 (bB h fun y1 hv2 h => ?_))
 refine CO.cutR (tl 15 [(6, V.b y1)]) [] mix (by
  refine wR 4 100 ?_
  refine wJ 10 hv2 (fun hv2 => ?_) (fun hv2 => ?_)
  ·refine wR 5 100 ?_
   cases hv2
   exact fS [] [6]
  refine wR 5 100 ?_
  cases hv2
  exact fS [] [6]
  ) ?_
 cases h
 exact e1 6 id

theorem mi_Splice_ok (a0 : LU) (a1 : Int) (a2 : Int) (a3 : LU) {r : (LU × Bool)} (h : mi_Splice a0 a1 a2 a3 = some r) :
    AC Tryz.prog (GS []) 8 [V.s a0, V.i a1, V.i a2, V.s a3] [] (.tup [V.s r.1, V.b r.2]) [] := by
 rw [mi_Splice] at h
 refine AC.enter Tryz.func8 rfl (cV 100 (CO.seq' (bB h fun y8 hv12 h => ?_)))
 refine CO.cutR (tl 36 [(0, V.s a0), (1, V.i a1), (2, V.i a2), (3, V.s a3), (23, V.b y8)]) [] mix (by
  refine wR 3 100 (bB hv12 fun r9 hx13 hv12 => (w0 (mi_within_ok a1 0 (a0.length : Int) hx13) cok24 (wR 2 100 ?_)))
  refine wJ 15 hv12 (fun hv12 => ?_) (fun hv12 => ?_)
  ·refine wR 8 100 ?_
   cases hv12
   exact fS [] [0, 1, 2, 3, 23]
  refine wR 5 100 (bB hv12 fun r10 hx15 hv12 => (w0 (mi_within_ok a2 0 (wr ((a0.length : Int) - a1)) hx15) cok24 (wR 2 100 ?_)))
  cases hv12
  exact fS [] [0, 1, 2, 3, 23]
  ) ?_
 refine cI h (fun _ h => ?_) (fun _ h => ?_)
 ·refine cV 100 (CO.ret ?_)
  have h := sI h
  subst h
  exact eG [] (.inr rfl) (RetV.two rfl (oT (t := 8) (r := V.s a0)) (oT (t := 9) (r := V.b false)))
 refine CO.skip (bB h fun s15 hx21 h => (bB h fun s16 hx22 h => (bB h fun s17 hx23 h => (bB h fun s18 hx24 h => (CO.sw mix (wR 2 100 (W.cutS Dk hx21 (by kernel_rfl) (wR 1 100 ?_))))))))
 refine W.cat hx22 (by kernel_rfl) (wR 4 100 (W.cutS Dk hx23 (by kernel_rfl) (W.cat hx24 (by kernel_rfl) (wR 2 100 (wF (CO.ret ?_))))))
 have h := sI h
 subst h
 exact eG [] (.inr rfl) (RetV.two rfl (oT (t := 8) (r := V.s s18)) (oT (t := 9) (r := V.b true)))

theorem mi_KeptTokens_ok (N : Nat) (a0 : LT) (a1 : Int) {r : Int} (h : mi_KeptTokens N a0 a1 = some r) :
    AC Tryz.prog (GS []) 12 [sL eTk a0, V.i a1] [] (V.i r) [] := by
 rw [mi_KeptTokens] at h
 refine AC.enter Tryz.func12 rfl (cV 100 (CO.seq' (CO.sw mix (wR 1 100 (wN eTk a0 [] (wR 1 100 (wF (CO.block' ?_))))))))
 refine CO.loopJ (fun (⟨a0, a1, y43⟩ : (LT × Int × Int)) => ⟨tl 34 [(0, sL eTk a0), (1, V.i a1), (7, sL eTk a0), (8, V.i (a0.length : Int)), (9, V.i y43)], []⟩) (fun n i => mi_KeptTokens_l1 N n i = some r) (n0 := N) (i0 := (a0, a1, 0)) (wS [] [0, 1, 7, 8, 9]) h (fun i h => by simp [mi_KeptTokens_l1] at h) ?_
 rintro n1 ⟨a0, a1, y43⟩ h93 ih94
 rw [mi_KeptTokens_l1] at h93
 refine cV 162 (CO.seq' ?_)
 refine cI h93 (fun _ h93 => ?_) (fun _ h93 => ?_)
 ·refine CO.skip (CO.seq' (CO.block' (bB h93 fun e61 hx106 h93 => (CO.sw mix (wR 1 162 (wX eTk hx106 3 (wR 4 162 (wF ?_))))))))
  refine bB h93 fun y63 hv109 h93 => ?_
  refine CO.cutR (tl 34 [(0, sL eTk a0), (1, V.i a1), (5, V.i y43), (7, sL eTk a0), (8, V.i (a0.length : Int)), (9, V.i y43), (29, V.b y63)]) [] mix (by
   refine wR 3 163 (bB hv109 fun r64 hx110 hv109 => (w0 (mi_within_ok e61.At 0 a1 hx110) cok24 (wR 2 163 ?_)))
   refine wJ 19 hv109 (fun hv109 => ?_) (fun hv109 => ?_)
   ·refine wR 10 163 ?_
    cases hv109
    exact fS [] [0, 1, 5, 7, 8, 9, 29]
   refine wR 10 163 ?_
   cases hv109
   exact fS [] [0, 1, 5, 7, 8, 9, 29]
   ) ?_
  refine cI h93 (fun _ h93 => ?_) (fun _ h93 => ?_)
  ·refine cV 163 ?_
   cases h93
   exact e1 4 id
  refine CO.skip ?_
  exact cK 163 ih94 (a0, a1, (wr (y43 + 1))) h93 [] [0, 1, 7, 8, 9]
 refine CO.exit (CO.sw mix (wR 1 162 (wN eTk a0 [] (wR 1 162 (wF ?_)))))
 cases h93
 exact e1 4 id

theorem m_slices_Clone_Token_nil : AC Tryz.prog (GS []) 25 [.c (.slice none 0 0)] [] (.own 100) [(100, vX 36 3 eTk ([] : LT))] := by
 refine AC.enter Tryz.func25 rfl ?_
 refine CO.cutR (tl 8 [(0, .c (.slice none 0 0))]) [] mix (by
   refine wR 1 100 ?_
   exact W.fin (by decide) (by kernel_rfl) (wS [] [0])
   ) ?_
 refine CO.seq' ?_
 refine CO.cutR (tl 8 [(0, .c (.slice none 0 0)), (4, V.b true)]) [] mix (by
   refine wR 1 100 (W.nilEq Dk true (by kernel_rfl) ?_)
   exact W.fin (by decide) (by kernel_rfl) (wS [] [0, 4])
   ) ?_
 refine CO.ifT (c := true) rfl (by kernel_rfl) ?_
 refine CO.cutR (tl 8 [(2, .c (.slice none 0 0))]) [] mix (by
   refine wR 1 100 ?_
   exact W.fin (by decide) (by kernel_rfl) (wS [] [2])
   ) ?_
 refine CO.weak (Weak.nil 2 101 36 3 (by kernel_rfl) (by kernel_rfl)) (CO.ret ?_)
 exact eG [(101, 100)] (.inr rfl) (RetV.one rfl (oT (t := 2) (r := .own 101)))

theorem m_slices_Clone_Token_nn (a0 : LT) {r : LT} (hx2 : app 32 [] a0 = some r) :
  AC Tryz.prog (GS []) 25 [.sl true false (a0.map eTk)] [] (.own 100) [(100, vX 36 3 eTk r)] := by
 refine AC.enter Tryz.func25 rfl ?_
 refine CO.cutR (tl 8 [(0, .sl true false (a0.map eTk))]) [] mix (by
   refine wR 1 100 ?_
   exact W.fin (by decide) (by kernel_rfl) (wS [] [0])
   ) ?_
 refine CO.seq' ?_
 refine CO.cutR (tl 8 [(0, .sl true false (a0.map eTk)), (4, V.b false)]) [] mix (by
   refine wR 1 100 (W.nilEq Dk false (by kernel_rfl) ?_)
   exact W.fin (by decide) (by kernel_rfl) (wS [] [0, 4])
   ) ?_
 refine CO.ifF (c := false) rfl (by kernel_rfl) (CO.skip (CO.weak (st' := ⟨tl 8 [(0, .sl true false (a0.map eTk)), (4, V.b false)], []⟩) (Weak.refl _) ?_))
 refine CO.cutR (tl 8 [(2, .own 101)]) [(101, vX 36 3 eTk r)] mix (by
   refine wR 2 100 (W.appD Dk eTk (a := 100) (el := 36) 32 hx2 rfl 101 3 (fun _ => by first | rfl | kernel_rfl) (by kernel_rfl) (wR 1 102 ?_))
   exact W.fin (by decide) (by kernel_rfl) (wS [(101, 101)] [2])
   ) ?_
 refine CO.ret ?_
 exact eG [(101, 100)] (.inr rfl) (RetV.one rfl (oT (t := 2) (r := .own 101)))

theorem m_slices_Clone_Token_ok (a0 : LT) {r : LT} (h : m_slices_Clone_Token a0 = some r) :
  AC Tryz.prog (GS []) 25 [sL eTk a0] [] (.own 100) [(100, vX 36 3 eTk r)] := by
 rw [m_slices_Clone_Token] at h
 obtain ⟨x2, h2, h⟩ := bind_some h
 have h := sI h
 subst h
 refine AC.slCase (fun h0 => ?_) (m_slices_Clone_Token_nn a0 h2)
 have ha : a0 = [] := by simpa using h0
 subst ha
 have hr : x2 = [] := by
  rw [app_some (by simp)] at h2
  simpa using h2.symm
 subst hr
 exact m_slices_Clone_Token_nil

theorem mi_IsBlank_ok (a0 : Int) {r : Bool} (h : mi_IsBlank a0 = some r) :
    AC Tryz.prog (GS []) 50 [V.i a0] [] (V.b r) [] := by
 rw [mi_IsBlank] at h
 refine AC.enter Tryz.func50 rfl (cV 100 (bB h fun y1 hv2 h => ?_))
 refine CO.cutR (tl 9 [(2, V.b y1)]) [] mix (by
  refine wR 3 100 ?_
  refine wJ 5 hv2 (fun hv2 => ?_) (fun hv2 => ?_)
  ·refine wR 4 100 ?_
   cases hv2
   exact fS [] [2]
  refine wR 4 100 ?_
  cases hv2
  exact fS [] [2]
  ) ?_
 cases h
 exact e1 2 id

theorem mi_byteAt_ok (a0 : LU) (a1 : Int) {r : Int} (h : mi_byteAt a0 a1 = some r) :
    AC Tryz.prog (GS []) 51 [V.s a0, V.i a1] [] (V.i r) [] := by
 rw [mi_byteAt] at h
 refine AC.enter Tryz.func51 rfl (cV 100 (CO.seq' (bB h fun r4 hx5 h => (cC 4 100 (mi_within_ok a1 0 (wr ((a0.length : Int) - 1)) hx5) cok24 ?_))))
 refine cI h (fun _ h => ?_) (fun _ h => ?_)
 ·refine cV 100 ?_
  cases h
  exact e1 4 id
 refine CO.skip (bB h fun b6 hx8 h => (CO.sw mix (wR 2 100 (W.ixS Dk hx8 (by kernel_rfl) (wR 2 100 (wF ?_))))))
 cases h
 exact e1 4 id

theorem m_stringslite_IndexByte_ok (a0 : LU) (a1 : Int) {r : Int} (h : m_stringslite_IndexByte a0 a1 = some r) :
    AC Tryz.prog (GS []) 98 [V.s a0, .c (.int .u8 a1)] [] (V.i r) [] := by
 rw [m_stringslite_IndexByte] at h
 refine AC.enter Tryz.func98 rfl (cV 100 (CO.sw mix (wR 2 100 (W.ext (vs := [.string ⟨⟨a0⟩⟩, .int .u8 a1]) (ext122 _ _) (by kernel_rfl) (wR 1 100 (wF ?_))))))
 cases h
 exact e1 4 id

theorem m_strings_IndexByte_ok (a0 : LU) (a1 : Int) {r : Int} (h : m_strings_IndexByte a0 a1 = some r) :
    AC Tryz.prog (GS []) 74 [V.s a0, .c (.int .u8 a1)] [] (V.i r) [] := by
 rw [m_strings_IndexByte] at h
 refine AC.enter Tryz.func74 rfl (cV 100 (bB h fun r2 hx2 h => (cC 2 100 (m_stringslite_IndexByte_ok a0 a1 hx2) cok98 ?_)))
 cases h
 exact e1 4 id

theorem mi_IsDigit_ok (a0 : Int) {r : Bool} (h : mi_IsDigit a0 = some r) :
    AC Tryz.prog (GS []) 75 [V.i a0] [] (V.b r) [] := by
 rw [mi_IsDigit] at h
 refine AC.enter Tryz.func75 rfl (cV 100 (bB h fun y1 hv2 h => ?_))
 refine CO.cutR (tl 9 [(2, V.b y1)]) [] mix (by
  refine wR 3 100 ?_
  refine wJ 5 hv2 (fun hv2 => ?_) (fun hv2 => ?_)
  ·refine wR 4 100 ?_
   cases hv2
   exact fS [] [2]
  refine wR 4 100 ?_
  cases hv2
  exact fS [] [2]
  ) ?_
 cases h
 exact e1 2 id

theorem mi_digitsEnd_ok (N : Nat) (a0 : LU) (a1 : Int) {r : Int} (h : mi_digitsEnd N a0 a1 = some r) :
    AC Tryz.prog (GS []) 99 [V.s a0, V.i a1] [] (V.i r) [] := by
 rw [mi_digitsEnd] at h
 refine AC.enter Tryz.func99 rfl (cV 100 (CO.seq' (CO.block' (CO.loopJ (fun (⟨a0, a1⟩ : (LU × Int)) => ⟨tl 12 [(0, V.s a0), (1, V.i a1)], []⟩) (fun n i => mi_digitsEnd_l1 N n i = some r) (n0 := N) (i0 := (a0, a1)) (wS [] [0, 1]) h (fun i h => by simp [mi_digitsEnd_l1] at h) ?_))))
 rintro n1 ⟨a0, a1⟩ h33 ih34
 rw [mi_digitsEnd_l1] at h33
 refine CO.seq' (bB h33 fun r33 hx42 h33 => (bB h33 fun r34 hx43 h33 => (CO.sw mix (wR 2 140 (w0 (mi_byteAt_ok a0 a1 hx42) cok51 (w0 (mi_IsDigit_ok r33 hx43) cok75 (wF ?_)))))))
 refine cI h33 (fun _ h33 => ?_) (fun _ h33 => ?_)
 ·refine CO.skip (CO.block' ?_)
  exact cK 140 ih34 (a0, (wr (a1 + 1))) h33 [] [0, 1]
 refine CO.exit (cV 140 ?_)
 cases h33
 exact e1 4 id

theorem mi_NumEnd_ok (N : Nat) (a0 : LU) (a1 : Int) {r : Int} (h : mi_NumEnd N a0 a1 = some r) :
    AC Tryz.prog (GS []) 76 [V.s a0, V.i a1] [] (V.i r) [] := by
 rw [mi_NumEnd] at h
 refine AC.enter Tryz.func76 rfl (cV 100 (CO.seq' (bB h fun r4 hx5 h => (cC 4 100 (mi_within_ok a1 0 (wr ((a0.length : Int) - 1)) hx5) cok24 ?_))))
 refine cI h (fun _ h => ?_) (fun _ h => ?_)
 ·refine cV 100 ?_
  cases h
  exact e1 4 id
 refine CO.skip (bB h fun r6 hx8 h => (cC 2 100 (mi_digitsEnd_ok N a0 a1 hx8) cok99 (cV 100 ?_)))
 refine CO.join (fun (⟨a0, y11, y12⟩ : (LU × Int × Int)) => ⟨tl 71 [(0, V.s a0), (5, V.i y11), (6, V.i y12)], []⟩) (fun i => mi_NumEnd_k1 N i = some r) ?_ ?_
 · rintro ⟨a0, y11, y12⟩ h14
   rw [mi_NumEnd_k1] at h14
   refine CO.seq' (cV 100 ?_)
   refine cI h14 (fun _ h14 => ?_) (fun _ h14 => ?_)
   ·refine cV 100 ?_
    cases h14
    exact e1 4 id
   refine CO.skip ?_
   refine CO.join (fun (y11 : Int) => ⟨tl 71 [(5, V.i y11)], []⟩) (fun i => mi_NumEnd_k2 N i = some r) ?_ ?_
   · rintro y11 h40
     rw [mi_NumEnd_k2] at h40
     refine cV 100 ?_
     cases h40
     exact e1 4 id
   intro hk41
   refine bB h14 fun r26 hx43 h14 => (cC 2 100 (mi_byteAt_ok a0 y11 hx43) cok51 (bB h14 fun y27 hv45 h14 => ?_))
   refine CO.cutR (tl 71 [(0, V.s a0), (5, V.i y11), (49, V.b y27)]) [] mix (by
    refine wR 3 100 ?_
    refine wJ 46 hv45 (fun hv45 => ?_) (fun hv45 => ?_)
    ·refine wR 3 100 ?_
     cases hv45
     exact fS [] [0, 5, 49]
    refine wR 3 100 ?_
    cases hv45
    exact fS [] [0, 5, 49]
    ) ?_
   refine cI h14 (fun _ h14 => ?_) (fun _ h14 => ?_)
   ·refine cV 100 ?_
    refine CO.join (fun (⟨a0, y11, y31⟩ : (LU × Int × Int)) => ⟨tl 71 [(0, V.s a0), (5, V.i y11), (9, V.i y31)], []⟩) (fun i => mi_NumEnd_k3 N i = some r) ?_ ?_
    · rintro ⟨a0, y11, y31⟩ h54
      rw [mi_NumEnd_k3] at h54
      refine bB h54 fun r33 hx56 h54 => (cC 2 100 (mi_digitsEnd_ok N a0 y31 hx56) cok99 (cV 100 ?_))
      refine cI h54 (fun _ h54 => ?_) (fun _ h54 => ?_)
      ·refine cV 100 ?_
       cases h54
       exact e1 4 id
      exact sK hk41 y11 h54 [] [5]
    intro hk58
    refine bB h14 fun r35 hx60 h14 => (cC 2 100 (mi_byteAt_ok a0 (wr (y11 + 1)) hx60) cok51 (bB h14 fun y36 hv62 h14 => ?_))
    refine CO.cutR (tl 71 [(0, V.s a0), (5, V.i y11), (9, V.i (wr (y11 + 1))), (60, V.b y36)]) [] mix (by
     refine wR 3 100 ?_
     refine wJ 57 hv62 (fun hv62 => ?_) (fun hv62 => ?_)
     ·refine wR 3 100 ?_
      cases hv62
      exact fS [] [0, 5, 9, 60]
     refine wR 3 100 ?_
     cases hv62
     exact fS [] [0, 5, 9, 60]
     ) ?_
    refine cI h14 (fun _ h14 => ?_) (fun _ h14 => ?_)
    ·exact cK 100 hk58 (a0, y11, (wr ((wr (y11 + 1)) + 1))) h14 [] [0, 5, 9]
    exact sK hk58 (a0, y11, (wr (y11 + 1))) h14 [] [0, 5, 9]
   exact sK hk41 y11 h14 [] [5]
 intro hk65
 refine bB h fun r38 hx67 h => (cC 2 100 (mi_byteAt_ok a0 r6 hx67) cok51 ?_)
 refine cI h (fun _ h => ?_) (fun _ h => ?_)
 ·refine bB h fun r40 hx70 h => (cC 3 100 (mi_digitsEnd_ok N a0 (wr (r6 + 1)) hx70) cok99 (cV 100 ?_))
  exact cK 100 hk65 (a0, r40, (wr ((wr (r6 - a1)) + (wr ((wr (r40 - r6)) - 1))))) h [] [0, 5, 6]
 exact sK hk65 (a0, r6, (wr (r6 - a1))) h [] [0, 5, 6]

end Go.Proofs.Tryz

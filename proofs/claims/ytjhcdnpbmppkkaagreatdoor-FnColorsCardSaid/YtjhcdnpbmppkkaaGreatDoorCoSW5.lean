/-
 The walks that show that the code computes the models, part 5.
-/
import Derived.Test.YtjhcdnpbmppkkaaGreatDoorCoSW4
namespace Go.Proofs.Tryz
open Go.Av
set_option maxRecDepth 100000
set_option maxHeartbeats 8000000
set_option linter.unusedSimpArgs false
set_option linter.unusedVariables false

theorem mi_lexFrom_ok (N : Nat) (a0 : LU) (a1 : Int) (a2 : Int) {r : (LT × SFault)} (h : mi_lexFrom N a0 a1 a2 = some r) :
    AC Tryz.prog (GS [1, 2, 3]) 26 [V.s a0, V.i a1, V.i a2] [] (.tup [.own 100, .agg [V.i r.2.Kind, V.i r.2.At]]) [(100, vX 36 3 eTk r.1)] := by
 rw [mi_lexFrom] at h
 refine AC.enter Tryz.func26 rfl (cV 100 (cV 101 (CO.seq' (CO.block' (CO.loopJ (fun (⟨a0, y95, y96, y97⟩ : (LU × Int × Int × LT)) => ⟨tl 59 [(0, V.s a0), (1, V.i y95), (2, V.i y96), (7, .loc 100 0), (8, .own 101)], [(100, .cells 30 [V.i 0, V.i 0]), (101, vX 36 3 eTk y97)]⟩) (fun n i => mi_lexFrom_l1 N n i = some r) (n0 := N) (i0 := (a0, a1, a2, [])) (wS [(100, 100), (101, 101)] [0, 1, 2, 7, 8]) h (fun i h => by simp [mi_lexFrom_l1] at h) ?_)))))
 rintro n1 ⟨a0, y95, y96, y97⟩ h173 ih174
 rw [mi_lexFrom_l1] at h173
 refine CO.seq' (cV 168 ?_)
 refine cI h173 (fun _ h173 => ?_) (fun _ h173 => ?_)
 ·refine CO.skip (CO.block' (CO.seq' (CO.block' (bB h173 fun b134 hx192 h173 => (bB h173 fun r135 hx193 h173 => (CO.sw mix (wR 2 168 (W.ixS Dk hx192 (by kernel_rfl) ?_))))))))
  refine wR 1 168 (w0 (AC.gs (mi_IsBlank_ok (wr ((b134).toNat : Int)) hx193) (by decide)) cok50 (wR 1 168 (wF ?_)))
  refine cI h173 (fun _ h173 => ?_) (fun _ h173 => ?_)
  ·refine cV 168 (CO.exit ?_)
   exact ih174 (a0, (wr (y95 + 1)), y96, y97) h173 _ (wS [(100, 100), (101, 101)] [0, 1, 2, 7, 8])
  refine bB h173 fun y138 hv198 h173 => ?_
  refine CO.cutR (tl 59 [(0, V.s a0), (1, V.i y95), (2, V.i y96), (7, .loc 100 0), (8, .own 101), (23, V.b y138)]) [(100, .cells 30 [V.i 0, V.i 0]), (101, vX 36 3 eTk y97)] mix (by
   refine wR 2 168 (bB hv198 fun b139 hx199 hv198 => (W.ixS Dk hx199 (by kernel_rfl) (wR 2 168 ?_)))
   refine wJ 28 hv198 (fun hv198 => ?_) (fun hv198 => ?_)
   ·refine wR 3 168 (bB hv198 fun r140 hx201 hv198 => (w0 (AC.gs (mi_byteAt_ok a0 (wr (y95 + 1)) hx201) (by decide)) cok51 (wR 3 168 ?_)))
    cases hv198
    exact fS [(100, 100), (101, 101)] [0, 1, 2, 7, 8, 23]
   refine wR 7 168 ?_
   cases hv198
   exact fS [(100, 100), (101, 101)] [0, 1, 2, 7, 8, 23]
   ) ?_
  refine cI h173 (fun _ h173 => ?_) (fun _ h173 => ?_)
  ·refine cV 168 (CO.exit ?_)
   exact ih174 (a0, (wr (y95 + 2)), y96, y97) h173 _ (wS [(100, 100), (101, 101)] [0, 1, 2, 7, 8])
  refine CO.skip (bB h173 fun r142 hx204 h173 => (cC 3 168 (mi_tokenAt_ok N a0 y95 y96 hx204) cok52 (CO.seq' (cV 169 ?_))))
  refine cI h173 (fun _ h173 => ?_) (fun _ h173 => ?_)
  ·refine cV 169 (CO.weak (Weak.nil 6 169 36 3 (by kernel_rfl) (by kernel_rfl)) (CO.ret ?_))
   have h173 := sI h173
   subst h173
   exact eG [(169, 100)] (.inr rfl) (RetV.two rfl (oT (t := 6) (r := .own 169)) (OneR.cell Dk (r := .agg [V.i 2, V.i y95]) (i := 100) (ety := 30) (cs := [V.i 2, V.i y95]) (by kernel_rfl) (by kernel_rfl) (by kernel_rfl)))
  refine CO.skip (bB h173 fun x144 hx208 h173 => (CO.sw mix (wR 3 169 (W.appO Dk eTk (a := 101) (c := 169) (el := 36) (sz := 3) 32 hx208 rfl 170 (by kernel_rfl) (wR 1 171 (wF ?_))))))
  exact cK 171 ih174 (a0, (wr (y95 + (r142.Text.length : Int))), r142.Kind, x144) h173 [(100, 100), (170, 101)] [0, 1, 2, 7, 8]
 refine CO.exit (cV 168 (CO.ret ?_))
 cases h173
 exact eG [(101, 100)] (.inr rfl) (RetV.two rfl (oT (t := 6) (r := .own 101)) (OneR.cell Dk (r := .agg [V.i 0, V.i 0]) (i := 100) (ety := 30) (cs := [V.i 0, V.i 0]) (by kernel_rfl) (by kernel_rfl) (by kernel_rfl)))

theorem mi_Lex_ok (N : Nat) (a0 : LU) {r : (LT × SFault)} (h : mi_Lex N a0 = some r) :
    AC Tryz.prog (GS [1, 2, 3]) 33 [V.s a0] [] (.tup [.own 100, .agg [V.i r.2.Kind, V.i r.2.At]]) [(100, vX 36 3 eTk r.1)] := by
 rw [mi_Lex] at h
 refine AC.enter Tryz.func33 rfl (cV 100 (CO.seq' (cV 101 ?_)))
 refine cI h (fun _ h => ?_) (fun _ h => ?_)
 ·refine cV 101 (CO.weak (Weak.nil 2 101 36 3 (by kernel_rfl) (by kernel_rfl)) (CO.ret ?_))
  cases h
  exact eG [(101, 100)] (.inr rfl) (RetV.two rfl (oT (t := 2) (r := .own 101)) (OneR.cell Dk (r := .agg [V.i 1, V.i 0]) (i := 100) (ety := 30) (cs := [V.i 1, V.i 0]) (by kernel_rfl) (by kernel_rfl) (by kernel_rfl)))
 refine CO.skip (bB h fun r2 hx4 h => (CO.sw mix (wR 1 101 (wC (mi_lexFrom_ok N a0 0 0 hx4) cok26 [] [(100, 101)] [101] (wR 4 102 (wF (CO.ret ?_)))))))
 have h := sI h
 subst h
 exact eG [(101, 100)] (.inr rfl) (RetV.two rfl (oT (t := 2) (r := .own 101)) (OneR.cell Dk (r := .agg [V.i r2.2.Kind, V.i r2.2.At]) (i := 100) (ety := 30) (cs := [V.i r2.2.Kind, V.i r2.2.At]) (by kernel_rfl) (by kernel_rfl) (by kernel_rfl)))

theorem mi_isKeywordKind_ok (a0 : Int) {r : Bool} (h : mi_isKeywordKind a0 = some r) :
    AC Tryz.prog (GS []) 34 [V.i a0] [] (V.b r) [] := by
 rw [mi_isKeywordKind] at h
 refine AC.enter Tryz.func34 rfl (cV 100 (bB h fun r2 hx2 h => (cC 1 100 (mi_within_ok a0 10 26 hx2) cok24 ?_)))
 cases h
 exact e1 2 id

theorem mi_isSignKind_ok (a0 : Int) {r : Bool} (h : mi_isSignKind a0 = some r) :
    AC Tryz.prog (GS []) 35 [V.i a0] [] (V.b r) [] := by
 rw [mi_isSignKind] at h
 refine AC.enter Tryz.func35 rfl (cV 100 (bB h fun r2 hx2 h => (cC 1 100 (mi_within_ok a0 30 68 hx2) cok24 ?_)))
 cases h
 exact e1 2 id

theorem mi_ClassOf_ok (a0 : Int) {r : LU} (h : mi_ClassOf a0 = some r) :
    AC Tryz.prog (GS []) 15 [V.i a0] [] (V.s r) [] := by
 rw [mi_ClassOf] at h
 refine AC.enter Tryz.func15 rfl (cV 100 (CO.seq' (cV 100 (CO.block' (cV 100 ?_)))))
 refine cI h (fun _ h => ?_) (fun _ h => ?_)
 ·refine cV 100 ?_
  cases h
  exact e1 2 id
 refine cV 100 ?_
 refine cI h (fun _ h => ?_) (fun _ h => ?_)
 ·refine cV 100 ?_
  cases h
  exact e1 2 id
 refine cV 100 ?_
 refine cI h (fun _ h => ?_) (fun _ h => ?_)
 ·refine cV 100 ?_
  cases h
  exact e1 2 id
 refine cV 100 ?_
 refine cI h (fun _ h => ?_) (fun _ h => ?_)
 ·refine cV 100 ?_
  cases h
  exact e1 2 id
 refine cV 100 ?_
 refine cI h (fun _ h => ?_) (fun _ h => ?_)
 ·refine cV 100 ?_
  cases h
  exact e1 2 id
 refine cV 100 ?_
 refine cI h (fun _ h => ?_) (fun _ h => ?_)
 ·refine cV 100 ?_
  cases h
  exact e1 2 id
 refine cV 100 ?_
 refine cI h (fun _ h => ?_) (fun _ h => ?_)
 ·refine cV 100 ?_
  cases h
  exact e1 2 id
 refine cV 100 ?_
 refine cI h (fun _ h => ?_) (fun _ h => ?_)
 ·refine cV 100 ?_
  cases h
  exact e1 2 id
 refine CO.skip (CO.seq' (CO.block' (bB h fun r6 hx24 h => (cC 1 100 (mi_isKeywordKind_ok a0 hx24) cok34 ?_))))
 refine cI h (fun _ h => ?_) (fun _ h => ?_)
 ·refine cV 100 ?_
  cases h
  exact e1 2 id
 refine bB h fun r8 hx27 h => (cC 1 100 (mi_isSignKind_ok a0 hx27) cok35 ?_)
 refine cI h (fun _ h => ?_) (fun _ h => ?_)
 ·refine cV 100 ?_
  cases h
  exact e1 2 id
 refine CO.skip (cV 100 ?_)
 cases h
 exact e1 2 id

theorem mi_Classes_ok (N : Nat) (a0 : LU) {r : (LU × Bool)} (h : mi_Classes N a0 = some r) :
    AC Tryz.prog (GS [1, 2, 3]) 14 [V.s a0] [] (.tup [V.s r.1, V.b r.2]) [] := by
 rw [mi_Classes] at h
 refine AC.enter Tryz.func14 rfl (cV 100 (bB h fun r2 hx2 h => (CO.sw mix (wR 1 100 (wC (mi_Lex_ok N a0 hx2) cok33 [] [(100, 100)] [100] (wR 6 101 (wF (CO.seq' ?_))))))))
 refine cV 102 ?_
 refine cI h (fun _ h => ?_) (fun _ h => ?_)
 ·refine cV 102 (CO.ret ?_)
  cases h
  exact eG [] (.inr rfl) (RetV.two rfl (oT (t := 2) (r := V.s [])) (oT (t := 3) (r := V.b false)))
 refine CO.skip (bB h fun x4 hx6 h => (CO.sw mix (wR 2 102 (W.mk Dk byteRow 1 hx6 102 5 1 [.int .u8 0] (by kernel_rfl) (by kernel_rfl) (wR 1 103 (wF (CO.seq' (CO.sw mix ?_))))))))
 refine wR 1 103 (wN byteRow x4 [102] (wR 1 103 (wF (CO.block' (CO.loopJ (fun (⟨x4, r2, y41, y42⟩ : (LU × (LT × SFault) × Int × LU)) => ⟨tl 57 [(4, .own 100), (6, .own 101), (23, V.i (x4.length : Int)), (24, V.i y41)], [(100, vX 36 3 eTk r2.1), (101, vX 5 1 byteRow y42)]⟩) (fun n i => mi_Classes_l1 N n i = some r) (n0 := N) (i0 := (x4, r2, 0, x4)) (wS [(100, 100), (102, 101)] [4, 6, 23, 24]) h (fun i h => by simp [mi_Classes_l1] at h) ?_)))))
 rintro n1 ⟨x4, r2, y41, y42⟩ h59 ih60
 rw [mi_Classes_l1] at h59
 refine cV 163 (CO.seq' ?_)
 refine cI h59 (fun _ h59 => ?_) (fun _ h59 => ?_)
 ·refine CO.skip (CO.seq' (CO.block' (cV 163 (bB h59 fun e59 hx69 h59 => (bB h59 fun x60 hu70 h59 => ?_)))))
  refine CO.endR (tl 57 [(4, .own 100), (6, .own 101), (23, V.i (x4.length : Int)), (24, V.i y41)]) [(101, vX 5 1 byteRow x60), (100, vX 36 3 eTk r2.1)] mix (by
   refine wR 2 163 (W.ixO Dk byteRow hx69 101 1 (by kernel_rfl) (W.stO Dk byteRow (x' := 46) hx69 hu70 (j := 101) (nn := false) (ety := 5) (sz := 1) (b := 0) (ys := [.c (.int .u8 46)]) (C := []) (R := []) (by kernel_rfl) (by kernel_rfl) ?_))
   exact fI
   ) (fun st hw => ?_)
  refine CO.weak hw ?_
  exact cK 163 ih60 (x4, r2, (wr (y41 + 1)), x60) h59 [(100, 100), (101, 101)] [4, 6, 23, 24]
 refine CO.exit (CO.seq' (CO.sw mix (wR 1 163 (wN eTk r2.1 [100] (wR 1 163 (wF (CO.block' (CO.loopJ (fun (⟨r2, y497, y498⟩ : ((LT × SFault) × Int × LU)) => ⟨tl 57 [(6, .own 100), (31, .own 101), (32, V.i (r2.1.length : Int)), (33, V.i y497)], [(100, vX 5 1 byteRow y498), (101, vX 36 3 eTk r2.1)]⟩) (fun n i => mi_Classes_l2 N (mi_Classes_l1 N n1) n i = some r) (n0 := N) (i0 := (r2, 0, y42)) (wS [(101, 100), (100, 101)] [6, 31, 32, 33]) h59 (fun i h => by simp [mi_Classes_l2] at h) ?_))))))))
 rintro n2 ⟨r2, y497, y498⟩ h663 ih664
 rw [mi_Classes_l2] at h663
 refine cV 345 (CO.seq' ?_)
 refine cI h663 (fun _ h663 => ?_) (fun _ h663 => ?_)
 ·refine CO.skip (CO.seq' (CO.block' (bB h663 fun e664 hx726 h663 => (CO.sw mix (W.ixO Dk eTk hx726 101 3 (by kernel_rfl) (W.ldO Dk eTk hx726 36 101 0 (.agg [V.i e664.Kind, V.s e664.Text, V.i e664.At]) (by kernel_rfl) (by kernel_rfl) (wR 2 345 (wF ?_))))))))
  refine cV 346 (CO.block' (CO.loopJ (fun (⟨r2, y497, e664, y681, y682⟩ : ((LT × SFault) × Int × SToken × Int × LU)) => ⟨tl 57 [(6, .own 100), (9, .loc 101 0), (31, .own 102), (32, V.i (r2.1.length : Int)), (33, V.i y497), (39, V.i (e664.Text.length : Int)), (40, V.i y681)], [(100, vX 5 1 byteRow y682), (101, .cells 36 [V.i e664.Kind, V.s e664.Text, V.i e664.At]), (102, vX 36 3 eTk r2.1)]⟩) (fun n i => mi_Classes_l3 N (mi_Classes_l1 N n1) (mi_Classes_l2 N (mi_Classes_l1 N n1) n2) n i = some r) (n0 := N) (i0 := (r2, y497, e664, 0, y498)) (wS [(100, 100), (345, 101), (101, 102)] [6, 9, 31, 32, 33, 39, 40]) h663 (fun i h => by simp [mi_Classes_l3] at h) ?_))
  rintro n3 ⟨r2, y497, e664, y681, y682⟩ h763 ih764
  rw [mi_Classes_l3] at h763
  refine cV 406 (CO.seq' ?_)
  refine cI h763 (fun _ h763 => ?_) (fun _ h763 => ?_)
  ·refine CO.skip (CO.seq' (CO.block' (cV 406 (bB h763 fun r713 hx779 h763 => (bB h763 fun b714 hx780 h763 => (bB h763 fun e715 hx781 h763 => (bB h763 fun x716 hu782 h763 => ?_)))))))
   refine CO.endR (tl 57 [(6, .own 100), (9, .loc 101 0), (31, .own 102), (32, V.i (r2.1.length : Int)), (33, V.i y497), (39, V.i (e664.Text.length : Int)), (40, V.i y681)]) [(100, vX 5 1 byteRow x716), (101, .cells 36 [V.i e664.Kind, V.s e664.Text, V.i e664.At]), (102, vX 36 3 eTk r2.1)] mix (by
    refine wR 7 406 (w0 (AC.gs (mi_ClassOf_ok e664.Kind hx779) (by decide)) cok15 (W.ixS Dk hx780 (by kernel_rfl) (W.ixO Dk byteRow hx781 100 1 (by kernel_rfl) (W.stO Dk byteRow (x' := b714) hx781 hu782 (j := 100) (nn := false) (ety := 5) (sz := 1) (b := 0) (ys := [.c (.int .u8 ((b714).toNat : Int))]) (C := []) (R := []) (by kernel_rfl) (by kernel_rfl) ?_))))
    exact fI
    ) (fun st hw => ?_)
   refine CO.weak hw ?_
   exact cK 406 ih764 (r2, y497, e664, (wr (y681 + 1)), x716) h763 [(100, 100), (101, 101), (102, 102)] [6, 9, 31, 32, 33, 39, 40]
  refine CO.exit ?_
  exact cK 406 ih664 (r2, (wr (y497 + 1)), y682) h763 [(100, 100), (102, 101)] [6, 31, 32, 33]
 refine CO.exit (CO.sw mix (wR 1 345 (W.strO Dk y498 (a := 100) (by kernel_rfl) (wR 2 345 (wF (CO.ret ?_))))))
 have h663 := sI h663
 subst h663
 exact eG [] (.inr rfl) (RetV.two rfl (oT (t := 2) (r := V.s y498)) (oT (t := 3) (r := V.b true)))

theorem ms_IsBlank_ok (a0 : Int) {r : Bool} (h : ms_IsBlank a0 = some r) :
    AC Tryz.prog (GS []) 28 [V.i a0] [] (V.b r) [] := by
 rw [ms_IsBlank] at h
 refine AC.enter Tryz.func28 rfl (cV 100 (bB h fun y1 hv2 h => ?_))
 refine CO.cutR (tl 9 [(2, V.b y1)]) [] mix (by
  refine wR 3 100 ?_
  refine wJ 5 hv2 (fun hv2 => ?_) (fun hv2 => ?_)
  ·refine wR 4 100 ?_
   cases hv2
   exact fS [] [2]
  refine wR 4 100 ?_
  cases hv2
  exact fS [] [2]
  ) ?_
 cases h
 exact e1 2 id

theorem ms_NameEnd_ok (N : Nat) (a0 : LU) (a1 : Int) {r : Int} (h : ms_NameEnd N a0 a1 = some r) :
    AC Tryz.prog (GS []) 59 [V.s a0, V.i a1] [] (V.i r) [] := by
 rw [ms_NameEnd] at h
 refine AC.enter Tryz.func59 rfl (cV 100 (CO.seq' (bB h fun r7 hx8 h => (bB h fun r8 hx9 h => (CO.sw mix (wR 2 100 (w0 (ms_l4Byte_ok a0 a1 hx8) cok29 (w0 (ms_IsLetter_ok r7 hx9) cok57 ?_))))))))
 refine wR 1 100 (wF ?_)
 refine cI h (fun _ h => ?_) (fun _ h => ?_)
 ·refine cV 100 ?_
  cases h
  exact e1 4 id
 refine CO.skip (CO.seq' (CO.block' (CO.loopJ (fun (⟨a0, a1⟩ : (LU × Int)) => ⟨tl 17 [(0, V.s a0), (1, V.i a1)], []⟩) (fun n i => ms_NameEnd_l1 N n i = some r) (n0 := N) (i0 := (a0, a1)) (wS [] [0, 1]) h (fun i h => by simp [ms_NameEnd_l1] at h) ?_)))
 rintro n1 ⟨a0, a1⟩ h43 ih44
 rw [ms_NameEnd_l1] at h43
 refine CO.seq' (bB h43 fun r41 hx52 h43 => (bB h43 fun r42 hx53 h43 => (CO.sw mix (wR 2 140 (w0 (ms_l4Byte_ok a0 a1 hx52) cok29 (w0 (ms_IsWordByte_ok r41 hx53) cok89 (wF ?_)))))))
 refine cI h43 (fun _ h43 => ?_) (fun _ h43 => ?_)
 ·refine CO.skip (CO.block' ?_)
  exact cK 140 ih44 (a0, (wr (a1 + 1))) h43 [] [0, 1]
 refine CO.exit (cV 140 ?_)
 cases h43
 exact e1 4 id

theorem ms_l5Word_ok (N : Nat) (a0 : LU) (a1 : Int) (a2 : Int) {r : SToken} (h : ms_l5Word N a0 a1 a2 = some r) :
    AC Tryz.prog (GS []) 58 [V.s a0, V.i a1, V.i a2] [] (.agg [V.i r.Kind, V.s r.Text, V.i r.At]) [] := by
 rw [ms_l5Word] at h
 refine AC.enter Tryz.func58 rfl (cV 100 (bB h fun s2 hx2 h => (CO.sw mix (wR 3 101 (W.cutS Dk hx2 (by kernel_rfl) (wR 4 101 (wF ?_)))))))
 refine CO.join (fun (⟨s2, a1, y11⟩ : (LU × Int × Int)) => ⟨tl 35 [(6, .loc 100 0), (7, .loc 101 0)], [(100, .cells 36 [V.i 0, V.s [], V.i 0]), (101, .cells 36 [V.i y11, V.s s2, V.i a1])]⟩) (fun i => ms_l5Word_k1 N i = some r) ?_ ?_
 · rintro ⟨s2, a1, y11⟩ h14
   rw [ms_l5Word_k1] at h14
   refine cV 102 (CO.ret ?_)
   have h14 := sI h14
   subst h14
   exact eG [] (.inr rfl) (RetV.one rfl (OneR.cell Dk (r := .agg [V.i y11, V.s s2, V.i a1]) (i := 100) (ety := 36) (cs := [V.i y11, V.s s2, V.i a1]) (by kernel_rfl) (by kernel_rfl) (by kernel_rfl)))
 intro hk15
 refine CO.block' (bB h fun r13 hx17 h => (cC 2 102 (ms_KeywordOf_ok N s2 hx17) cok87 ?_))
 refine cI h (fun _ h => ?_) (fun _ h => ?_)
 ·refine bB h fun r15 hx20 h => (CO.w mix (wR 2 102 (w0 (ms_KeywordOf_ok N s2 hx20) cok87 (wR 2 102 ?_))))
  exact wK hk15 (s2, a1, r15) h [(100, 100), (101, 101)] [6, 7]
 refine bB h fun r17 hx22 h => (cC 2 102 (ms_IsBuiltin_ok N s2 hx22) cok88 ?_)
 refine cI h (fun _ h => ?_) (fun _ h => ?_)
 ·exact cK 102 hk15 (s2, a1, 8) h [(100, 100), (101, 101)] [6, 7]
 refine bB h fun r19 hx25 h => (cC 2 102 (ms_l4Byte_ok a0 a2 hx25) cok29 ?_)
 refine cI h (fun _ h => ?_) (fun _ h => ?_)
 ·exact cK 102 hk15 (s2, a1, 7) h [(100, 100), (101, 101)] [6, 7]
 exact sK hk15 (s2, a1, 6) h [(100, 100), (101, 101)] [6, 7]

theorem ms_l5Next_ok (N : Nat) (a0 : LU) (a1 : Int) (a2 : Bool) {r : SToken} (h : ms_l5Next N a0 a1 a2 = some r) :
    AC Tryz.prog (GS []) 30 [V.s a0, V.i a1, V.b a2] [] (.agg [V.i r.Kind, V.s r.Text, V.i r.At]) [] := by
 rw [ms_l5Next] at h
 refine AC.enter Tryz.func30 rfl (cV 100 (bB h fun b2 hx2 h => (CO.sw mix (wR 2 101 (W.ixS Dk hx2 (by kernel_rfl) (wR 2 101 (wF (cV 101 ?_))))))))
 refine cV 102 ?_
 refine CO.join (fun (⟨a0, a1, y65, y66⟩ : (LU × Int × Int × Int)) => ⟨tl 108 [(0, V.s a0), (1, V.i a1), (6, .loc 100 0), (8, .loc 101 0), (9, V.i y65)], [(100, .cells 36 [V.i 0, V.s [], V.i 0]), (101, .cells 36 [V.i y66, V.s [], V.i a1])]⟩) (fun i => ms_l5Next_k1 N i = some r) ?_ ?_
 · rintro ⟨a0, a1, y65, y66⟩ h115
   rw [ms_l5Next_k1] at h115
   refine CO.seq' (cV 162 ?_)
   refine cI h115 (fun _ h115 => ?_) (fun _ h115 => ?_)
   ·refine cV 162 (CO.ret ?_)
    have h115 := sI h115
    subst h115
    exact eG [] (.inr rfl) (RetV.one rfl (OneR.cell Dk (r := .agg [V.i 0, V.s [], V.i a1]) (i := 100) (ety := 36) (cs := [V.i 0, V.s [], V.i a1]) (by kernel_rfl) (by kernel_rfl) (by kernel_rfl)))
   refine CO.skip (bB h115 fun s68 hx119 h115 => (CO.sw mix (wR 3 162 (W.cutS Dk hx119 (by kernel_rfl) (wR 2 162 (wF (cV 162 (CO.ret ?_))))))))
   have h115 := sI h115
   subst h115
   exact eG [] (.inr rfl) (RetV.one rfl (OneR.cell Dk (r := .agg [V.i y66, V.s s68, V.i a1]) (i := 100) (ety := 36) (cs := [V.i y66, V.s s68, V.i a1]) (by kernel_rfl) (by kernel_rfl) (by kernel_rfl)))
 intro hk120
 refine CO.block' (cV 102 ?_)
 refine cI h (fun _ h => ?_) (fun _ h => ?_)
 ·refine cV 102 (CO.ret ?_)
  have h := sI h
  subst h
  exact eG [] (.inr rfl) (RetV.one rfl (OneR.cell Dk (r := .agg [V.i 1, V.s [10], V.i a1]) (i := 100) (ety := 36) (cs := [V.i 1, V.s [10], V.i a1]) (by kernel_rfl) (by kernel_rfl) (by kernel_rfl)))
 refine cV 102 ?_
 refine cI h (fun _ h => ?_) (fun _ h => ?_)
 ·refine cV 102 (CO.seq' (CO.block' (CO.loopJ (fun (⟨a0, a1, y95⟩ : (LU × Int × Int)) => ⟨tl 108 [(0, V.s a0), (1, V.i a1), (6, .loc 100 0), (8, .loc 101 0), (9, V.i y95)], [(100, .cells 36 [V.i 0, V.s [], V.i 0]), (101, .cells 36 [V.i 0, V.s [], V.i a1])]⟩) (fun n i => ms_l5Next_l2 N n i = some r) (n0 := N) (i0 := (a0, a1, a1)) (wS [(100, 100), (101, 101)] [0, 1, 6, 8, 9]) h (fun i h => by simp [ms_l5Next_l2] at h) ?_)))
  rintro n2 ⟨a0, a1, y95⟩ h185 ih186
  rw [ms_l5Next_l2] at h185
  refine CO.seq' (bB h185 fun y107 hv195 h185 => ?_)
  refine CO.cutR (tl 108 [(0, V.s a0), (1, V.i a1), (6, .loc 100 0), (8, .loc 101 0), (9, V.i y95), (51, V.b y107)]) [(100, .cells 36 [V.i 0, V.s [], V.i 0]), (101, .cells 36 [V.i 0, V.s [], V.i a1])] mix (by
   refine wR 5 162 ?_
   refine wJ 46 hv195 (fun hv195 => ?_) (fun hv195 => ?_)
   ·refine wR 2 162 (bB hv195 fun b108 hx197 hv195 => (W.ixS Dk hx197 (by kernel_rfl) (wR 2 162 ?_)))
    cases hv195
    exact fS [(100, 100), (101, 101)] [0, 1, 6, 8, 9, 51]
   refine wR 5 162 ?_
   cases hv195
   exact fS [(100, 100), (101, 101)] [0, 1, 6, 8, 9, 51]
   ) ?_
  refine cI h185 (fun _ h185 => ?_) (fun _ h185 => ?_)
  ·refine CO.skip (CO.block' ?_)
   exact cK 162 ih186 (a0, a1, (wr (y95 + 1))) h185 [(100, 100), (101, 101)] [0, 1, 6, 8, 9]
  refine CO.exit ?_
  exact cK 162 hk120 (a0, a1, y95, 2) h185 [(100, 100), (101, 101)] [0, 1, 6, 8, 9]
 refine bB h fun y110 hv201 h => ?_
 refine CO.cutR (tl 108 [(0, V.s a0), (1, V.i a1), (2, V.b a2), (6, .loc 100 0), (7, V.i (wr ((b2).toNat : Int))), (8, .loc 101 0), (55, V.b y110)]) [(100, .cells 36 [V.i 0, V.s [], V.i 0]), (101, .cells 36 [V.i 0, V.s [], V.i a1])] mix (by
  refine wR 1 102 (bB hv201 fun r111 hx202 hv201 => (w0 (ms_IsDigit_ok (wr ((b2).toNat : Int)) hx202) cok53 (wR 1 102 ?_)))
  refine wJ 58 hv201 (fun hv201 => ?_) (fun hv201 => ?_)
  ·refine wR 4 102 ?_
   cases hv201
   exact fS [(100, 100), (101, 101)] [0, 1, 2, 6, 7, 8, 55]
  refine wR 4 102 ?_
  cases hv201
  exact fS [(100, 100), (101, 101)] [0, 1, 2, 6, 7, 8, 55]
  ) ?_
 refine cI h (fun _ h => ?_) (fun _ h => ?_)
 ·refine bB h fun r113 hx206 h => (cC 2 102 (ms_NumEnd_ok N a0 a1 hx206) cok54 ?_)
  exact cK 102 hk120 (a0, a1, r113, 3) h [(100, 100), (101, 101)] [0, 1, 6, 8, 9]
 refine cV 102 ?_
 refine cI h (fun _ h => ?_) (fun _ h => ?_)
 ·refine bB h fun r115 hx209 h => (cC 2 102 (ms_StrEnd_ok N a0 a1 hx209) cok55 ?_)
  exact cK 102 hk120 (a0, a1, r115, 4) h [(100, 100), (101, 101)] [0, 1, 6, 8, 9]
 refine bB h fun y116 hv211 h => ?_
 refine CO.cutR (tl 108 [(0, V.s a0), (1, V.i a1), (6, .loc 100 0), (7, V.i (wr ((b2).toNat : Int))), (8, .loc 101 0), (73, V.b y116)]) [(100, .cells 36 [V.i 0, V.s [], V.i 0]), (101, .cells 36 [V.i 0, V.s [], V.i a1])] mix (by
  refine wR 3 102 ?_
  refine wJ 76 hv211 (fun hv211 => ?_) (fun hv211 => ?_)
  ·refine wR 3 102 ?_
   cases hv211
   exact fS [(100, 100), (101, 101)] [0, 1, 6, 7, 8, 73]
  refine wR 3 102 ?_
  cases hv211
  exact fS [(100, 100), (101, 101)] [0, 1, 6, 7, 8, 73]
  ) ?_
 refine cI h (fun _ h => ?_) (fun _ h => ?_)
 ·refine bB h fun r118 hx215 h => (cC 2 102 (ms_EreEnd_ok N a0 a1 hx215) cok56 ?_)
  exact cK 102 hk120 (a0, a1, r118, 5) h [(100, 100), (101, 101)] [0, 1, 6, 8, 9]
 refine bB h fun r120 hx217 h => (cC 1 102 (ms_IsLetter_ok (wr ((b2).toNat : Int)) hx217) cok57 ?_)
 refine cI h (fun _ h => ?_) (fun _ h => ?_)
 ·refine bB h fun r123 hx221 h => (bB h fun r124 hx222 h => (CO.sw mix (wR 4 102 (w0 (ms_NameEnd_ok N a0 a1 hx221) cok59 (w0 (ms_l5Word_ok N a0 a1 r123 hx222) cok58 (wR 2 102 (wF (CO.seq' ?_))))))))
  refine bB h fun r128 hx227 h => (cC 2 103 (ms_NameShape_ok N r124.Text hx227) cok60 ?_)
  refine cI h (fun _ h => ?_) (fun _ h => ?_)
  ·refine cV 103 (CO.ret ?_)
   have h := sI h
   subst h
   exact eG [] (.inr rfl) (RetV.one rfl (OneR.cell Dk (r := .agg [V.i 0, V.s [], V.i a1]) (i := 100) (ety := 36) (cs := [V.i 0, V.s [], V.i a1]) (by kernel_rfl) (by kernel_rfl) (by kernel_rfl)))
  refine CO.skip (cV 103 (CO.ret ?_))
  have h := sI h
  subst h
  exact eG [] (.inr rfl) (RetV.one rfl (OneR.cell Dk (r := .agg [V.i r124.Kind, V.s r124.Text, V.i r124.At]) (i := 100) (ety := 36) (cs := [V.i r124.Kind, V.s r124.Text, V.i r124.At]) (by kernel_rfl) (by kernel_rfl) (by kernel_rfl)))
 refine bB h fun r130 hx230 h => (cC 2 102 (ms_OpAt_ok N a0 a1 hx230) cok61 (CO.seq' (cV 102 ?_)))
 refine cI h (fun _ h => ?_) (fun _ h => ?_)
 ·refine cV 102 (CO.ret ?_)
  have h := sI h
  subst h
  exact eG [] (.inr rfl) (RetV.one rfl (OneR.cell Dk (r := .agg [V.i 0, V.s [], V.i a1]) (i := 100) (ety := 36) (cs := [V.i 0, V.s [], V.i a1]) (by kernel_rfl) (by kernel_rfl) (by kernel_rfl)))
 refine CO.skip (cV 102 ?_)
 exact cK 102 hk120 (a0, a1, (wr (a1 + r130.2)), r130.1) h [(100, 100), (101, 101)] [0, 1, 6, 8, 9]

theorem ms_Lex_ok (N : Nat) (a0 : LU) {r : (LT × SFault)} (h : ms_Lex N a0 = some r) :
    AC Tryz.prog (GS []) 11 [V.s a0] [] (.tup [.own 100, .agg [V.i r.2.Kind, V.i r.2.At]]) [(100, vX 36 3 eTk r.1)] := by
 rw [ms_Lex] at h
 refine AC.enter Tryz.func11 rfl (cV 100 (cV 101 (CO.seq' (cV 102 ?_))))
 refine cI h (fun _ h => ?_) (fun _ h => ?_)
 ·refine cV 102 (CO.ret ?_)
  cases h
  exact eG [(101, 100)] (.inr rfl) (RetV.two rfl (oT (t := 2) (r := .own 101)) (OneR.cell Dk (r := .agg [V.i 1, V.i 0]) (i := 100) (ety := 30) (cs := [V.i 1, V.i 0]) (by kernel_rfl) (by kernel_rfl) (by kernel_rfl)))
 refine CO.skip (cV 102 (CO.seq' (cV 102 (CO.block' (CO.loopJ (fun (⟨a0, y103, y104, y105⟩ : (LU × Int × Int × LT)) => ⟨tl 68 [(0, V.s a0), (3, .loc 100 0), (4, .own 101), (5, V.i y103), (6, V.i y104)], [(100, .cells 30 [V.i 0, V.i 0]), (101, vX 36 3 eTk y105)]⟩) (fun n i => ms_Lex_l1 N n i = some r) (n0 := N) (i0 := (a0, 0, 0, [])) (wS [(100, 100), (101, 101)] [0, 3, 4, 5, 6]) h (fun i h => by simp [ms_Lex_l1] at h) ?_)))))
 rintro n1 ⟨a0, y103, y104, y105⟩ h191 ih192
 rw [ms_Lex_l1] at h191
 refine CO.seq' (cV 168 ?_)
 refine cI h191 (fun _ h191 => ?_) (fun _ h191 => ?_)
 ·refine CO.skip (CO.block' (CO.seq' (bB h191 fun b139 hx202 h191 => (bB h191 fun r140 hx203 h191 => (CO.sw mix (wR 2 168 (W.ixS Dk hx202 (by kernel_rfl) (wR 1 168 ?_))))))))
  refine w0 (ms_IsBlank_ok (wr ((b139).toNat : Int)) hx203) cok28 (wF ?_)
  refine cI h191 (fun _ h191 => ?_) (fun _ h191 => ?_)
  ·refine cV 168 (CO.exit ?_)
   exact ih192 (a0, y103, (wr (y104 + 1)), y105) h191 _ (wS [(100, 100), (101, 101)] [0, 3, 4, 5, 6])
  refine CO.skip (CO.seq' (bB h191 fun y148 hv216 h191 => ?_))
  refine CO.cutR (tl 68 [(0, V.s a0), (3, .loc 100 0), (4, .own 101), (5, V.i y103), (6, V.i y104), (35, V.b y148)]) [(100, .cells 30 [V.i 0, V.i 0]), (101, vX 36 3 eTk y105)] mix (by
   refine wR 2 168 (bB hv216 fun b149 hx217 hv216 => (W.ixS Dk hx217 (by kernel_rfl) (wR 2 168 ?_)))
   refine wJ 29 hv216 (fun hv216 => ?_) (fun hv216 => ?_)
   ·refine wR 3 168 (bB hv216 fun r150 hx219 hv216 => (w0 (ms_l4Byte_ok a0 (wr (y104 + 1)) hx219) cok29 (wR 2 168 ?_)))
    cases hv216
    exact fS [(100, 100), (101, 101)] [0, 3, 4, 5, 6, 35]
   refine wR 6 168 ?_
   cases hv216
   exact fS [(100, 100), (101, 101)] [0, 3, 4, 5, 6, 35]
   ) ?_
  refine cI h191 (fun _ h191 => ?_) (fun _ h191 => ?_)
  ·refine cV 168 (CO.exit ?_)
   exact ih192 (a0, y103, (wr (y104 + 2)), y105) h191 _ (wS [(100, 100), (101, 101)] [0, 3, 4, 5, 6])
  refine CO.skip (bB h191 fun r153 hx223 h191 => (bB h191 fun r154 hx224 h191 => (CO.sw mix (wR 3 168 (w0 (ms_EndsOperand_ok y103 hx223) cok31 (wR 1 168 (w0 (ms_l5Next_ok N a0 y104 (!r153) hx224) cok30 (wR 2 168 ?_))))))))
  refine wF (CO.seq' (cV 169 ?_))
  refine cI h191 (fun _ h191 => ?_) (fun _ h191 => ?_)
  ·refine cV 169 (CO.ret ?_)
   have h191 := sI h191
   subst h191
   exact eG [(169, 100)] (.inr rfl) (RetV.two rfl (oT (t := 2) (r := .own 169)) (OneR.cell Dk (r := .agg [V.i 2, V.i y104]) (i := 100) (ety := 30) (cs := [V.i 2, V.i y104]) (by kernel_rfl) (by kernel_rfl) (by kernel_rfl)))
  refine CO.skip (CO.seq' (CO.sw mix (wR 1 169 (wN eTk y105 [101] (wR 1 169 (wF ?_))))))
  refine cI h191 (fun _ h191 => ?_) (fun _ h191 => ?_)
  ·refine cV 169 (CO.ret ?_)
   cases h191
   exact eG [(169, 100)] (.inr rfl) (RetV.two rfl (oT (t := 2) (r := .own 169)) (OneR.cell Dk (r := .agg [V.i 1, V.i 0]) (i := 100) (ety := 30) (cs := [V.i 1, V.i 0]) (by kernel_rfl) (by kernel_rfl) (by kernel_rfl)))
  refine CO.skip (bB h191 fun x156 hx230 h191 => (CO.sw mix (wR 3 169 (W.appO Dk eTk (a := 101) (c := 169) (el := 36) (sz := 3) 32 hx230 rfl 170 (by kernel_rfl) (wR 1 171 (wF (cV 171 ?_)))))))
  exact cK 171 ih192 (a0, r154.Kind, (wr (y104 + (r154.Text.length : Int))), x156) h191 [(100, 100), (170, 101)] [0, 3, 4, 5, 6]
 refine CO.exit (cV 168 (CO.ret ?_))
 cases h191
 exact eG [(101, 100)] (.inr rfl) (RetV.two rfl (oT (t := 2) (r := .own 101)) (OneR.cell Dk (r := .agg [V.i 0, V.i 0]) (i := 100) (ety := 30) (cs := [V.i 0, V.i 0]) (by kernel_rfl) (by kernel_rfl) (by kernel_rfl)))

theorem ml_FnColors_ok (N : Nat) (a0 : LU) {r : Bool} (h : ml_FnColors N a0 = some r) :
    AC Tryz.prog (GS [1, 2, 3]) 4 [sL byteRow a0] [] (V.b r) [] := by
 rw [ml_FnColors] at h
 refine AC.enter Tryz.func4 rfl (cV 100 (CO.seq' (bB h fun r4 hx5 h => (cC 1 100 (AC.gs (ml_big_ok a0 hx5) (by decide)) cok6 ?_))))
 refine cI h (fun _ h => ?_) (fun _ h => ?_)
 ·refine cV 100 ?_
  cases h
  exact e1 2 id
 refine CO.skip (bB h fun r6 hx8 h => (cC 1 100 (AC.gs (ms_DrawClasses_ok N a0 hx8) (by decide)) cok13 (bB h fun r8 hx10 h => (cC 1 100 (mi_Classes_ok N r6 hx10) cok14 (bB h fun r10 hx12 h => (CO.sw mix (wR 1 100 (wC (AC.gs (ms_Lex_ok N r6 hx12) (by decide)) cok11 [] [(100, 100)] [100] ?_))))))))
 refine wR 6 101 (wF (CO.seq' (bB h fun y12 hv30 h => ?_)))
 refine CO.cutR (tl 117 [(4, V.s r8.1), (6, .own 100), (48, V.b y12)]) [(100, vX 36 3 eTk r10.1)] mix (by
  refine wR 6 102 ?_
  refine wJ 31 hv30 (fun hv30 => ?_) (fun hv30 => ?_)
  ·refine wR 17 102 ?_
   cases hv30
   exact fS [(100, 100)] [4, 6, 48]
  refine wR 2 102 ?_
  refine wJ 33 hv30 (fun hv30 => ?_) (fun hv30 => ?_)
  ·refine wR 8 102 ?_
   refine wJ 41 hv30 (fun hv30 => ?_) (fun hv30 => ?_)
   ·refine wR 7 102 ?_
    cases hv30
    exact fS [(100, 100)] [4, 6, 48]
   refine wR 3 102 ?_
   refine wJ 44 hv30 (fun hv30 => ?_) (fun hv30 => ?_)
   ·refine wR 4 102 ?_
    cases hv30
    exact fS [(100, 100)] [4, 6, 48]
   refine wR 4 102 ?_
   cases hv30
   exact fS [(100, 100)] [4, 6, 48]
  refine wR 11 102 ?_
  refine wJ 44 hv30 (fun hv30 => ?_) (fun hv30 => ?_)
  ·refine wR 4 102 ?_
   cases hv30
   exact fS [(100, 100)] [4, 6, 48]
  refine wR 4 102 ?_
  cases hv30
  exact fS [(100, 100)] [4, 6, 48]
  ) ?_
 refine cI h (fun _ h => ?_) (fun _ h => ?_)
 ·refine cV 102 ?_
  cases h
  exact e1 2 id
 refine CO.skip (cV 102 (CO.seq' (cV 102 (CO.block' (CO.loopJ (fun (⟨r8, r10, y1237, y1238⟩ : ((LU × Bool) × (LT × SFault) × Int × Int)) => ⟨tl 117 [(4, V.s r8.1), (6, .own 100), (8, V.i y1237), (9, V.i y1238)], [(100, vX 36 3 eTk r10.1)]⟩) (fun n i => ml_FnColors_l1 N n i = some r) (n0 := N) (i0 := (r8, r10, 0, 0)) (wS [(100, 100)] [4, 6, 8, 9]) h (fun i h => by simp [ml_FnColors_l1] at h) ?_)))))
 rintro n1 ⟨r8, r10, y1237, y1238⟩ h1829 ih1830
 rw [ml_FnColors_l1] at h1829
 refine CO.seq' (CO.sw mix (wR 2 282 (wN eTk r10.1 [100] (wR 1 282 (wF ?_)))))
 refine cI h1829 (fun _ h1829 => ?_) (fun _ h1829 => ?_)
 ·refine CO.skip ?_
  refine CO.join (fun (⟨r8, y1238, r10, y1698⟩ : ((LU × Bool) × Int × (LT × SFault) × Int)) => ⟨tl 117 [(4, V.s r8.1), (6, .own 100), (8, V.i y1698), (9, V.i y1238)], [(100, vX 36 3 eTk r10.1)]⟩) (fun i => ml_FnColors_k2 N (ml_FnColors_l1 N n1) i = some r) ?_ ?_
  · rintro ⟨r8, y1238, r10, y1698⟩ h2010
    rw [ml_FnColors_k2] at h2010
    exact cK 342 ih1830 (r8, r10, y1698, (wr (y1238 + 1))) h2010 [(100, 100)] [4, 6, 8, 9]
  intro hk2011
  refine CO.block' (CO.seq' (cV 282 (CO.block' (CO.loopJ (fun (⟨r8, y1237, y1238, r10, y1797⟩ : ((LU × Bool) × Int × Int × (LT × SFault) × Int)) => ⟨tl 117 [(4, V.s r8.1), (6, .own 100), (8, V.i y1237), (9, V.i y1238), (10, V.i y1797)], [(100, vX 36 3 eTk r10.1)]⟩) (fun n i => ml_FnColors_l3 N (ml_FnColors_l1 N n1) n i = some r) (n0 := N) (i0 := (r8, y1237, y1238, r10, 0)) (wS [(100, 100)] [4, 6, 8, 9, 10]) h1829 (fun i h => by simp [ml_FnColors_l3] at h) ?_))))
  rintro n3 ⟨r8, y1237, y1238, r10, y1797⟩ h2154 ih2155
  rw [ml_FnColors_l3] at h2154
  refine CO.seq' (bB h2154 fun e1826 hx2160 h2154 => (CO.sw mix (wR 3 342 (W.ixO Dk eTk hx2160 100 3 (by kernel_rfl) (wR 1 342 (W.ldO Dk eTk hx2160 9 100 1 (V.s e1826.Text) (by kernel_rfl) (by kernel_rfl) (wR 2 342 (wF ?_))))))))
  refine cI h2154 (fun _ h2154 => ?_) (fun _ h2154 => ?_)
  ·refine CO.skip (CO.seq' (CO.block' (bB h2154 fun e1842 hx2178 h2154 => (bB h2154 fun e1843 hx2179 h2154 => (bB h2154 fun s1844 hx2180 h2154 => (bB h2154 fun e1845 hx2181 h2154 => (bB h2154 fun r1846 hx2182 h2154 => (CO.sw mix ?_))))))))
   refine wR 3 342 (W.ixO Dk eTk hx2178 100 3 (by kernel_rfl) (wR 1 342 (W.ldO Dk eTk hx2178 3 100 2 (V.i e1842.At) (by kernel_rfl) (by kernel_rfl) (wR 4 342 (W.ixO Dk eTk hx2179 100 3 (by kernel_rfl) (wR 1 342 (W.ldO Dk eTk hx2179 3 100 2 (V.i e1843.At) (by kernel_rfl) (by kernel_rfl) (wR 3 342 ?_))))))))
   refine W.cutS Dk hx2180 (by kernel_rfl) (wR 2 342 (W.ixO Dk eTk hx2181 100 3 (by kernel_rfl) (wR 1 342 (W.ldO Dk eTk hx2181 3 100 0 (V.i e1845.Kind) (by kernel_rfl) (by kernel_rfl) (w0 (AC.gs (mi_ClassOf_ok e1845.Kind hx2182) (by decide)) cok15 (wR 1 342 (wF ?_)))))))
   refine cI h2154 (fun _ h2154 => ?_) (fun _ h2154 => ?_)
   ·refine cV 342 ?_
    cases h2154
    exact e1 2 id
   refine CO.skip ?_
   exact cK 342 ih2155 (r8, y1237, y1238, r10, (wr (y1797 + 1))) h2154 [(100, 100)] [4, 6, 8, 9, 10]
  refine CO.exit (bB h2154 fun e1848 hx2185 h2154 => (CO.sw mix (wR 2 342 (W.ixO Dk eTk hx2185 100 3 (by kernel_rfl) (wR 1 342 (W.ldO Dk eTk hx2185 3 100 0 (V.i e1848.Kind) (by kernel_rfl) (by kernel_rfl) (wR 1 342 (wF ?_))))))))
  refine cI h2154 (fun _ h2154 => ?_) (fun _ h2154 => ?_)
  ·refine bB h2154 fun e1850 hx2188 h2154 => (CO.w mix (wR 3 342 (W.ixO Dk eTk hx2188 100 3 (by kernel_rfl) (wR 1 342 (W.ldO Dk eTk hx2188 9 100 1 (V.s e1850.Text) (by kernel_rfl) (by kernel_rfl) (wR 3 342 ?_))))))
   exact wK hk2011 (r8, y1238, r10, (wr (y1237 + (e1850.Text.length : Int)))) h2154 [(100, 100)] [4, 6, 8, 9]
  exact sK hk2011 (r8, y1238, r10, y1237) h2154 [(100, 100)] [4, 6, 8, 9]
 refine CO.exit (CO.seq' (cV 282 (CO.block' (CO.loopJ (fun (⟨r8, y1875, y1876⟩ : ((LU × Bool) × Int × Int)) => ⟨tl 117 [(4, V.s r8.1), (8, V.i y1875), (11, V.i y1876)], []⟩) (fun n i => ml_FnColors_l4 N (ml_FnColors_l1 N n1) n i = some r) (n0 := N) (i0 := (r8, y1237, 0)) (wS [] [4, 8, 11]) h1829 (fun i h => by simp [ml_FnColors_l4] at h) ?_))))
 rintro n4 ⟨r8, y1875, y1876⟩ h2241 ih2242
 rw [ml_FnColors_l4] at h2241
 refine CO.seq' (cV 342 ?_)
 refine cI h2241 (fun _ h2241 => ?_) (fun _ h2241 => ?_)
 ·refine CO.skip ?_
  refine CO.join (fun (⟨r8, y1876, y1886⟩ : ((LU × Bool) × Int × Int)) => ⟨tl 117 [(4, V.s r8.1), (8, V.i y1886), (11, V.i y1876)], []⟩) (fun i => ml_FnColors_k5 N (ml_FnColors_l1 N n1) (ml_FnColors_l4 N (ml_FnColors_l1 N n1) n4) i = some r) ?_ ?_
  · rintro ⟨r8, y1876, y1886⟩ h2248
    rw [ml_FnColors_k5] at h2248
    exact cK 342 ih2242 (r8, y1886, (wr (y1876 + 1))) h2248 [] [4, 8, 11]
  intro hk2249
  refine CO.block' (bB h2241 fun b1888 hx2251 h2241 => (CO.sw mix (wR 2 342 (W.ixS Dk hx2251 (by kernel_rfl) (wR 1 342 (wF ?_))))))
  refine cI h2241 (fun _ h2241 => ?_) (fun _ h2241 => ?_)
  ·exact cK 342 hk2249 (r8, y1876, (wr (y1875 - 1))) h2241 [] [4, 8, 11]
  exact sK hk2249 (r8, y1876, y1875) h2241 [] [4, 8, 11]
 refine CO.exit (cV 342 ?_)
 cases h2241
 exact e1 2 id

end Go.Proofs.Tryz

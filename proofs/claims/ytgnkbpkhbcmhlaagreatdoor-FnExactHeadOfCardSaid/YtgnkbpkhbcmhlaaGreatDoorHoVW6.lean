/-
 The walks that show that the code computes the models, part 6.
-/
import Derived.Test.YtgnkbpkhbcmhlaaGreatDoorHoVW5
namespace Go.Proofs.Tryz
open Go.Av
set_option maxRecDepth 100000
set_option maxHeartbeats 8000000
set_option linter.unusedSimpArgs false
set_option linter.unusedVariables false

structure RecOk6 (R : Rec6) : Prop where
 mi_unaryDoc : ∀ (a0 : STree) (a1 : SPos) (r : SDoc), R.mi_unaryDoc a0 a1 = some r → AC Tryz.prog (GS [0, 1]) 96 [.agg [V.i a0.kind, V.i a0.op, V.s a0.text, V.s a0.other, sL eST a0.kids], .agg [V.i a1.Level, V.b a1.Dollar, V.b a1.NoIn, V.b a1.NoGt, V.b a1.NoSign]] [] (.agg [V.i r.kind, V.i r.n, V.s r.text, sL encSDoc r.kids, V.i r.group]) []
 mi_kidDoc : ∀ (a0 : STree) (a1 : Int) (a2 : SPos) (r : SDoc), R.mi_kidDoc a0 a1 a2 = some r → AC Tryz.prog (GS [0, 1]) 95 [.agg [V.i a0.kind, V.i a0.op, V.s a0.text, V.s a0.other, sL eST a0.kids], V.i a1, .agg [V.i a2.Level, V.b a2.Dollar, V.b a2.NoIn, V.b a2.NoGt, V.b a2.NoSign]] [] (.agg [V.i r.kind, V.i r.n, V.s r.text, sL encSDoc r.kids, V.i r.group]) []
 mi_listDoc : ∀ (a0 : LS) (r : SDoc), R.mi_listDoc a0 = some r → AC Tryz.prog (GS [0, 1]) 92 [sL eST a0, .fn 93 []] [] (.agg [V.i r.kind, V.i r.n, V.s r.text, sL encSDoc r.kids, V.i r.group]) []
 mi_bareDoc : ∀ (a0 : STree) (a1 : SPos) (r : SDoc), R.mi_bareDoc a0 a1 = some r → AC Tryz.prog (GS [0, 1]) 58 [.agg [V.i a0.kind, V.i a0.op, V.s a0.text, V.s a0.other, sL eST a0.kids], .agg [V.i a1.Level, V.b a1.Dollar, V.b a1.NoIn, V.b a1.NoGt, V.b a1.NoSign]] [] (.agg [V.i r.kind, V.i r.n, V.s r.text, sL encSDoc r.kids, V.i r.group]) []
 mi_exprDoc : ∀ (a0 : STree) (a1 : SPos) (r : SDoc), R.mi_exprDoc a0 a1 = some r → AC Tryz.prog (GS [0, 1]) 27 [.agg [V.i a0.kind, V.i a0.op, V.s a0.text, V.s a0.other, sL eST a0.kids], .agg [V.i a1.Level, V.b a1.Dollar, V.b a1.NoIn, V.b a1.NoGt, V.b a1.NoSign]] [] (.agg [V.i r.kind, V.i r.n, V.s r.text, sL encSDoc r.kids, V.i r.group]) []

theorem mi_unaryDoc_F_ok (N : Nat) (R : Rec6) (HR : RecOk6 R) (a0 : STree) (a1 : SPos) {r : SDoc} (h : mi_unaryDoc_F N R a0 a1 = some r) :
    AC Tryz.prog (GS [0, 1]) 96 [.agg [V.i a0.kind, V.i a0.op, V.s a0.text, V.s a0.other, sL eST a0.kids], .agg [V.i a1.Level, V.b a1.Dollar, V.b a1.NoIn, V.b a1.NoGt, V.b a1.NoSign]] [] (.agg [V.i r.kind, V.i r.n, V.s r.text, sL encSDoc r.kids, V.i r.group]) [] := by
 rw [mi_unaryDoc_F] at h
 refine AC.enter Tryz.func96 rfl (cV 100 (cU 3 103 (tl 31 [(2, .loc 100 0), (3, .loc 101 0), (4, .loc 102 0), (5, .loc 103 0)]) [(103, .cells 143 [.c (.slice none 0 0), .c (.slice none 0 0), V.b false]), (102, .cells 53 [V.i 0, V.i 0, V.s [], .c (.slice none 0 0), V.i 0]), (101, .cells 30 [V.i a1.Level, V.b a1.Dollar, V.b a1.NoIn, V.b a1.NoGt, V.b a1.NoSign]), (100, .cells 57 [V.i a0.kind, V.i a0.op, V.s a0.text, V.s a0.other, sL eST a0.kids])] (CO.weak (st' := ⟨tl 31 [(2, .loc 100 0), (3, .loc 101 0), (4, .loc 102 0), (5, .loc 103 0)], [(104, vX 105 3 eTk []), (103, .cells 143 [.own 104, .c (.slice none 0 0), V.b false]), (102, .cells 53 [V.i 0, V.i 0, V.s [], .c (.slice none 0 0), V.i 0]), (101, .cells 30 [V.i a1.Level, V.b a1.Dollar, V.b a1.NoIn, V.b a1.NoGt, V.b a1.NoSign]), (100, .cells 57 [V.i a0.kind, V.i a0.op, V.s a0.text, V.s a0.other, sL eST a0.kids])]⟩) ((Weak.nilCell 103 0 104 105 3 (ety := 143) (cs := [.c (.slice none 0 0), .c (.slice none 0 0), V.b false]) (by kernel_rfl) (by kernel_rfl) (by kernel_rfl)).trans (Weak.eq (by kernel_rfl) (by kernel_rfl))) (CO.weak (st' := ⟨tl 31 [(2, .loc 100 0), (3, .loc 101 0), (4, .loc 102 0), (5, .loc 103 0)], [(105, vX 174 2 encSSpan []), (104, vX 105 3 eTk []), (103, .cells 143 [.own 104, .own 105, V.b false]), (102, .cells 53 [V.i 0, V.i 0, V.s [], .c (.slice none 0 0), V.i 0]), (101, .cells 30 [V.i a1.Level, V.b a1.Dollar, V.b a1.NoIn, V.b a1.NoGt, V.b a1.NoSign]), (100, .cells 57 [V.i a0.kind, V.i a0.op, V.s a0.text, V.s a0.other, sL eST a0.kids])]⟩) ((Weak.nilCell 103 1 105 174 2 (ety := 143) (cs := [.own 104, .c (.slice none 0 0), V.b false]) (by kernel_rfl) (by kernel_rfl) (by kernel_rfl)).trans (Weak.eq (by kernel_rfl) (by kernel_rfl))) (bB h fun r4 hx4 h => (CO.sw mix (wR 2 106 (wC (mi_speller__kid_ok N a0 0 a1 false [] [] hx4) cok133 [(103, 0), (104, 1), (105, 2)] [(0, 103), (100, 106), (101, 107)] [106, 107] ?_))))))))
 refine wF (bB h fun r6 hx6 h => (cC 2 108 (mi_SpellOf_ok a0.op hx6) cok94 ?_))
 refine CO.join (fun (⟨a0, a1, y15⟩ : (STree × SPos × LU)) => ⟨tl 31 [(2, .loc 100 0), (3, .loc 101 0), (4, .loc 102 0), (6, V.s y15)], [(100, .cells 57 [V.i a0.kind, V.i a0.op, V.s a0.text, V.s a0.other, sL eST a0.kids]), (101, .cells 30 [V.i a1.Level, V.b a1.Dollar, V.b a1.NoIn, V.b a1.NoGt, V.b a1.NoSign]), (102, .cells 53 [V.i 0, V.i 0, V.s [], .c (.slice none 0 0), V.i 0])]⟩) (fun i => mi_unaryDoc_k1 N R i = some r) ?_ ?_
 · rintro ⟨a0, a1, y15⟩ h16
   rw [mi_unaryDoc_k1] at h16
   refine bB h16 fun r19 hx20 h16 => (bB h16 fun r20 hx21 h16 => (bB h16 fun r21 hx22 h16 => (CO.sw mix (wR 1 108 (w0 (AC.gs (mi_text_ok y15 hx20) (by decide)) cok60 (wR 2 108 (w0 (HR.mi_kidDoc a0 0 a1 _ hx21) cok95 (W.layop Dk lO (by kernel_rfl) 108 { v := .own 108, R := [], new := [(108, .vec true 53 5 [[V.i r19.kind, V.i r19.n, V.s r19.text, sL encSDoc r19.kids, V.i r19.group], [V.i r20.kind, V.i r20.n, V.s r20.text, sL encSDoc r20.kids, V.i r20.group]])], N := [108] } (by kernel_rfl) ?_))))))))
   refine W.vecEq 108 (nn := true) (e := 53) (k := 5) (rows := [[V.i r19.kind, V.i r19.n, V.s r19.text, sL encSDoc r19.kids, V.i r19.group], [V.i r20.kind, V.i r20.n, V.s r20.text, sL encSDoc r20.kids, V.i r20.group]]) (rows' := [r19, r20].map encSDoc) (by kernel_rfl) (by simp only [List.map_cons, List.map_nil, encSDoc_eq]) (wD (AC.gs (mi_cat_ok [r19, r20] hx22) (by decide)) cok59 [] [] [] (LayOk.cons (j := 108) encSDoc encSDoc ([r19, r20] : LO) (by kernel_rfl) (share_encSDoc) lO) (wR 1 109 (wF (CO.ret ?_))))
   have h16 := sI h16
   subst h16
   exact eG [] (.inr rfl) (RetV.one rfl (OneR.cell Dk (r := .agg [V.i r21.kind, V.i r21.n, V.s r21.text, sL encSDoc r21.kids, V.i r21.group]) (i := 102) (ety := 53) (cs := [V.i r21.kind, V.i r21.n, V.s r21.text, sL encSDoc r21.kids, V.i r21.group]) (by kernel_rfl) (by kernel_rfl) (by kernel_rfl)))
 intro hk23
 refine bB h fun r25 hx27 h => (bB h fun e26 hx28 h => (bB h fun r27 hx29 h => (CO.sw mix (wR 2 108 (w0 (mi_sign_ok a0.op hx27) cok135 (wR 2 108 (W.ixO Dk eTk hx28 106 3 (by kernel_rfl) (W.ldO Dk eTk hx28 105 106 0 (.agg [V.i e26.Kind, V.s e26.Text, V.i e26.At]) (by kernel_rfl) (by kernel_rfl) ?_))))))))
 refine w0 (AC.gs (mi_NeedsGap_ok N r25 e26 hx29) (by decide)) cok134 (wF ?_)
 refine cI h (fun _ h => ?_) (fun _ h => ?_)
 ·refine bB h fun s29 hx32 h => (CO.w mix (wR 1 108 (W.cat hx32 (by kernel_rfl) (wR 1 108 ?_))))
  exact wK hk23 (a0, a1, s29) h [(100, 100), (101, 101), (102, 102)] [2, 3, 4, 6]
 exact sK hk23 (a0, a1, r6) h [(100, 100), (101, 101), (102, 102)] [2, 3, 4, 6]

theorem mi_kidDoc_F_ok (N : Nat) (R : Rec6) (HR : RecOk6 R) (a0 : STree) (a1 : Int) (a2 : SPos) {r : SDoc} (h : mi_kidDoc_F N R a0 a1 a2 = some r) :
    AC Tryz.prog (GS [0, 1]) 95 [.agg [V.i a0.kind, V.i a0.op, V.s a0.text, V.s a0.other, sL eST a0.kids], V.i a1, .agg [V.i a2.Level, V.b a2.Dollar, V.b a2.NoIn, V.b a2.NoGt, V.b a2.NoSign]] [] (.agg [V.i r.kind, V.i r.n, V.s r.text, sL encSDoc r.kids, V.i r.group]) [] := by
 rw [mi_kidDoc_F] at h
 refine AC.enter Tryz.func95 rfl (cV 100 (bB h fun r2 hx2 h => (CO.sw mix (wR 1 103 (wC (AC.gs (mi_tree__node_ok N a0 hx2) (by decide)) cok57 [] [(100, 103)] [103] (wR 2 104 (wF (bB h fun r4 hx4 h => ?_))))))))
 refine CO.sw mix (wR 3 105 (W.lend (AC.gs (mi_KidPos_ok r2 a1 a2 hx4) (by decide)) cok131 [] [] (LayOk.cons (j := 103) eNI eNI r2.Kids (by kernel_rfl) (fun _ => rfl) lO) (.agg _ (.cons (.c _) (.cons (.c _) (.cons (.c _) (.cons (.c _) (.cons (.c _) .nil)))))) .nil (by kernel_rfl) (by kernel_rfl) (wR 2 105 (wF (CO.seq' (bB h fun r12 hx13 h => (CO.sw mix (wR 2 106 ?_))))))))
 refine W.lend (AC.gs (mi_isTarget_ok r2 a1 hx13) (by decide)) cok132 [] [] (LayOk.cons (j := 103) eNI eNI r2.Kids (by kernel_rfl) (fun _ => rfl) lO) (.c _) .nil (by kernel_rfl) (by kernel_rfl) (wF ?_)
 refine cI h (fun _ h => ?_) (fun _ h => ?_)
 ·refine bB h fun e15 hx17 h => (bB h fun r16 hx18 h => (CO.sw mix (wR 3 106 (W.ixDr Dk eST hx17 5 (by kernel_rfl) (encSTree_eq e15) (by kernel_rfl) (wR 2 106 (w0 (HR.mi_bareDoc e15 r4 _ hx18) cok58 (wR 1 106 (wF ?_))))))))
  refine CO.ret ?_
  have h := sI h
  subst h
  exact eG [] (.inr rfl) (RetV.one rfl (OneR.cell Dk (r := .agg [V.i r16.kind, V.i r16.n, V.s r16.text, sL encSDoc r16.kids, V.i r16.group]) (i := 102) (ety := 53) (cs := [V.i r16.kind, V.i r16.n, V.s r16.text, sL encSDoc r16.kids, V.i r16.group]) (by kernel_rfl) (by kernel_rfl) (by kernel_rfl)))
 refine CO.skip (bB h fun e19 hx21 h => (bB h fun r20 hx22 h => (CO.sw mix (wR 3 106 (W.ixDr Dk eST hx21 5 (by kernel_rfl) (encSTree_eq e19) (by kernel_rfl) (wR 2 106 (w0 (HR.mi_exprDoc e19 r4 _ hx22) cok27 (wR 1 106 ?_))))))))
 refine wF (CO.ret ?_)
 have h := sI h
 subst h
 exact eG [] (.inr rfl) (RetV.one rfl (OneR.cell Dk (r := .agg [V.i r20.kind, V.i r20.n, V.s r20.text, sL encSDoc r20.kids, V.i r20.group]) (i := 102) (ety := 53) (cs := [V.i r20.kind, V.i r20.n, V.s r20.text, sL encSDoc r20.kids, V.i r20.group]) (by kernel_rfl) (by kernel_rfl) (by kernel_rfl)))

theorem mi_listDoc_F_ok (N : Nat) (R : Rec6) (HR : RecOk6 R) (a0 : LS) {r : SDoc} (h : mi_listDoc_F N R a0 = some r) :
    AC Tryz.prog (GS [0, 1]) 92 [sL eST a0, .fn 93 []] [] (.agg [V.i r.kind, V.i r.n, V.s r.text, sL encSDoc r.kids, V.i r.group]) [] := by
 rw [mi_listDoc_F] at h
 refine AC.enter Tryz.func92 rfl (cV 100 (CO.sw mix (W.layop Dk lO (by kernel_rfl) 101 { v := .own 101, R := [], new := [(101, .vec true 53 5 [])], N := [101] } (by kernel_rfl) (W.vecEq 101 (nn := true) (e := 53) (k := 5) (rows := []) (rows' := [].map encSDoc) (by kernel_rfl) rfl (wR 1 102 (wF (CO.seq' (CO.sw mix ?_))))))))
 refine wR 1 102 (wN eST a0 [] (wR 1 102 (wF (CO.block' (CO.loopJ (fun (⟨a0, y121, y122⟩ : (LS × Int × LO)) => ⟨tl 36 [(1, .fn 93 []), (4, .loc 100 0), (5, .own 101), (9, sL eST a0), (10, V.i (a0.length : Int)), (11, V.i y121)], [(100, .cells 53 [V.i 0, V.i 0, V.s [], .c (.slice none 0 0), V.i 0]), (101, vX 53 5 encSDoc y122)]⟩) (fun n i => mi_listDoc_l1 N R n i = some r) (n0 := N) (i0 := (a0, 0, [])) (wS [(100, 100), (101, 101)] [1, 4, 5, 9, 10, 11]) h (fun i h => by simp [mi_listDoc_l1] at h) ?_)))))
 rintro n1 ⟨a0, y121, y122⟩ h189 ih190
 rw [mi_listDoc_l1] at h189
 refine cV 170 (CO.seq' ?_)
 refine cI h189 (fun _ h189 => ?_) (fun _ h189 => ?_)
 ·refine CO.skip (CO.seq' (CO.block' (bB h189 fun e189 hx218 h189 => (CO.sw mix (wR 1 170 (W.ixDr Dk eST hx218 5 (by kernel_rfl) (encSTree_eq e189) (by kernel_rfl) (wR 4 170 (wF ?_))))))))
  refine CO.join (fun (⟨y121, a0, e189, y196⟩ : (Int × LS × STree × LO)) => ⟨tl 36 [(1, .fn 93 []), (4, .loc 100 0), (5, .own 101), (6, V.i y121), (7, .loc 102 0), (9, sL eST a0), (10, V.i (a0.length : Int)), (11, V.i y121)], [(100, .cells 53 [V.i 0, V.i 0, V.s [], .c (.slice none 0 0), V.i 0]), (101, vX 53 5 encSDoc y196), (102, .cells 57 [V.i e189.kind, V.i e189.op, V.s e189.text, V.s e189.other, sL eST e189.kids])]⟩) (fun i => mi_listDoc_k2 N R (mi_listDoc_l1 N R n1) i = some r) ?_ ?_
  · rintro ⟨y121, a0, e189, y196⟩ h226
    rw [mi_listDoc_k2] at h226
    refine bB h226 fun r200 hx230 h226 => (bB h226 fun r201 hx231 h226 => (bB h226 fun x202 hx232 h226 => ?_))
    refine CO.endR (tl 36 [(1, .fn 93 []), (4, .loc 100 0), (5, .own 174), (9, sL eST a0), (10, V.i (a0.length : Int)), (11, V.i y121)]) [(174, vX 53 5 encSDoc x202), (100, .cells 53 [V.i 0, V.i 0, V.s [], .c (.slice none 0 0), V.i 0])] mix (by
     refine wR 4 173 (w0 (AC.gs (mi_atTop_ok y121 hx230) (by decide)) cok93 (w0 (HR.mi_exprDoc e189 r200 _ hx231) cok27 (W.layop Dk lO (by kernel_rfl) 173 { v := .own 173, R := [], new := [(173, .vec true 53 5 [[V.i r201.kind, V.i r201.n, V.s r201.text, sL encSDoc r201.kids, V.i r201.group]])], N := [173] } (by kernel_rfl) (W.vecEq 173 (nn := true) (e := 53) (k := 5) (rows := [[V.i r201.kind, V.i r201.n, V.s r201.text, sL encSDoc r201.kids, V.i r201.group]]) (rows' := [r201].map encSDoc) (by kernel_rfl) (by simp only [List.map_cons, List.map_nil, encSDoc_eq]) (W.appO Dk encSDoc (a := 101) (c := 173) (el := 53) (sz := 5) 64 hx232 rfl 174 (by kernel_rfl) (wR 1 175 ?_))))))
     exact fI
     ) (fun st hw => ?_)
    refine CO.weak hw ?_
    exact cK 175 ih190 (a0, (wr (y121 + 1)), x202) h226 [(100, 100), (174, 101)] [1, 4, 5, 9, 10, 11]
  intro hk233
  refine cV 171 ?_
  refine cI h189 (fun _ h189 => ?_) (fun _ h189 => ?_)
  ·refine bB h189 fun r206 hx238 h189 => (bB h189 fun r207 hx239 h189 => (bB h189 fun x208 hx240 h189 => (CO.w mix (wR 1 171 (w0 (AC.gs (mi_text_ok [44] hx238) (by decide)) cok60 (w0 (AC.gs (mi_line_ok  hx239) (by decide)) cok99 (W.layop Dk lO (by kernel_rfl) 171 { v := .own 171, R := [], new := [(171, .vec true 53 5 [[V.i r206.kind, V.i r206.n, V.s r206.text, sL encSDoc r206.kids, V.i r206.group], [V.i r207.kind, V.i r207.n, V.s r207.text, sL encSDoc r207.kids, V.i r207.group]])], N := [171] } (by kernel_rfl) (W.vecEq 171 (nn := true) (e := 53) (k := 5) (rows := [[V.i r206.kind, V.i r206.n, V.s r206.text, sL encSDoc r206.kids, V.i r206.group], [V.i r207.kind, V.i r207.n, V.s r207.text, sL encSDoc r207.kids, V.i r207.group]]) (rows' := [r206, r207].map encSDoc) (by kernel_rfl) (by simp only [List.map_cons, List.map_nil, encSDoc_eq]) ?_))))))))
   refine W.appO Dk encSDoc (a := 101) (c := 171) (el := 53) (sz := 5) 64 hx240 rfl 172 (by kernel_rfl) (wR 1 173 ?_)
   exact wK hk233 (y121, a0, e189, x208) h189 [(100, 100), (172, 101), (170, 102)] [1, 4, 5, 6, 7, 9, 10, 11]
  exact sK hk233 (y121, a0, e189, y122) h189 [(100, 100), (101, 101), (170, 102)] [1, 4, 5, 6, 7, 9, 10, 11]
 refine CO.exit (bB h189 fun r212 hx244 h189 => (bB h189 fun r213 hx245 h189 => (bB h189 fun r214 hx246 h189 => (CO.sw mix (wR 1 170 (wD (AC.gs (mi_cat_ok y122 hx244) (by decide)) cok59 [] [] [] (LayOk.cons (j := 101) encSDoc encSDoc y122 (by kernel_rfl) (share_encSDoc) lO) (w0 (AC.gs (mi_nest_ok r212 hx245) (by decide)) cok98 (w0 (AC.gs (mi_group_ok r213 hx246) (by decide)) cok97 ?_))))))))
 refine wR 1 170 (wF (CO.ret ?_))
 have h189 := sI h189
 subst h189
 exact eG [] (.inr rfl) (RetV.one rfl (OneR.cell Dk (r := .agg [V.i r214.kind, V.i r214.n, V.s r214.text, sL encSDoc r214.kids, V.i r214.group]) (i := 100) (ety := 53) (cs := [V.i r214.kind, V.i r214.n, V.s r214.text, sL encSDoc r214.kids, V.i r214.group]) (by kernel_rfl) (by kernel_rfl) (by kernel_rfl)))

theorem mi_bareDoc_F_ok (N : Nat) (R : Rec6) (HR : RecOk6 R) (a0 : STree) (a1 : SPos) {r : SDoc} (h : mi_bareDoc_F N R a0 a1 = some r) :
    AC Tryz.prog (GS [0, 1]) 58 [.agg [V.i a0.kind, V.i a0.op, V.s a0.text, V.s a0.other, sL eST a0.kids], .agg [V.i a1.Level, V.b a1.Dollar, V.b a1.NoIn, V.b a1.NoGt, V.b a1.NoSign]] [] (.agg [V.i r.kind, V.i r.n, V.s r.text, sL encSDoc r.kids, V.i r.group]) [] := by
 rw [mi_bareDoc_F] at h
 refine AC.enter Tryz.func58 rfl (cV 100 (CO.seq' (cV 103 (CO.block' ?_))))
 refine CO.join (fun (⟨a0, a1, y89⟩ : (STree × SPos × Bool)) => ⟨tl 173 [(2, .loc 100 0), (3, .loc 101 0), (4, .loc 102 0), (8, V.i a0.kind), (9, V.b y89)], [(100, .cells 57 [V.i a0.kind, V.i a0.op, V.s a0.text, V.s a0.other, sL eST a0.kids]), (101, .cells 30 [V.i a1.Level, V.b a1.Dollar, V.b a1.NoIn, V.b a1.NoGt, V.b a1.NoSign]), (102, .cells 53 [V.i 0, V.i 0, V.s [], .c (.slice none 0 0), V.i 0])]⟩) (fun i => mi_bareDoc_k1 N R i = some r) ?_ ?_
 · rintro ⟨a0, a1, y89⟩ h113
   rw [mi_bareDoc_k1] at h113
   refine cI h113 (fun _ h113 => ?_) (fun _ h113 => ?_)
   ·refine bB h113 fun r91 hx116 h113 => (cC 2 103 (AC.gs (mi_text_ok a0.text hx116) (by decide)) cok60 (CO.ret ?_))
    have h113 := sI h113
    subst h113
    exact eG [] (.inr rfl) (RetV.one rfl (OneR.cell Dk (r := .agg [V.i r91.kind, V.i r91.n, V.s r91.text, sL encSDoc r91.kids, V.i r91.group]) (i := 102) (ety := 53) (cs := [V.i r91.kind, V.i r91.n, V.s r91.text, sL encSDoc r91.kids, V.i r91.group]) (by kernel_rfl) (by kernel_rfl) (by kernel_rfl)))
   refine cV 103 ?_
   refine cI h113 (fun _ h113 => ?_) (fun _ h113 => ?_)
   ·refine bB h113 fun s97 hx123 h113 => (bB h113 fun r98 hx124 h113 => (bB h113 fun r99 hx125 h113 => (bB h113 fun r100 hx126 h113 => (bB h113 fun r101 hx127 h113 => (CO.sw mix (wR 2 103 (W.cat hx123 (by kernel_rfl) (w0 (AC.gs (mi_text_ok s97 hx124) (by decide)) cok60 ?_))))))))
    refine wR 2 103 (w0 (HR.mi_listDoc a0.kids _ hx125) cok92 (w0 (AC.gs (mi_text_ok [93] hx126) (by decide)) cok60 (W.layop Dk lO (by kernel_rfl) 103 { v := .own 103, R := [], new := [(103, .vec true 53 5 [[V.i r98.kind, V.i r98.n, V.s r98.text, sL encSDoc r98.kids, V.i r98.group], [V.i r99.kind, V.i r99.n, V.s r99.text, sL encSDoc r99.kids, V.i r99.group], [V.i r100.kind, V.i r100.n, V.s r100.text, sL encSDoc r100.kids, V.i r100.group]])], N := [103] } (by kernel_rfl) (W.vecEq 103 (nn := true) (e := 53) (k := 5) (rows := [[V.i r98.kind, V.i r98.n, V.s r98.text, sL encSDoc r98.kids, V.i r98.group], [V.i r99.kind, V.i r99.n, V.s r99.text, sL encSDoc r99.kids, V.i r99.group], [V.i r100.kind, V.i r100.n, V.s r100.text, sL encSDoc r100.kids, V.i r100.group]]) (rows' := [r98, r99, r100].map encSDoc) (by kernel_rfl) (by simp only [List.map_cons, List.map_nil, encSDoc_eq]) (wD (AC.gs (mi_cat_ok [r98, r99, r100] hx127) (by decide)) cok59 [] [] [] (LayOk.cons (j := 103) encSDoc encSDoc ([r98, r99, r100] : LO) (by kernel_rfl) (share_encSDoc) lO) (wR 1 104 (wF (CO.ret ?_))))))))
    have h113 := sI h113
    subst h113
    exact eG [] (.inr rfl) (RetV.one rfl (OneR.cell Dk (r := .agg [V.i r101.kind, V.i r101.n, V.s r101.text, sL encSDoc r101.kids, V.i r101.group]) (i := 102) (ety := 53) (cs := [V.i r101.kind, V.i r101.n, V.s r101.text, sL encSDoc r101.kids, V.i r101.group]) (by kernel_rfl) (by kernel_rfl) (by kernel_rfl)))
   refine CO.join (fun (⟨a0, a1, y102⟩ : (STree × SPos × Bool)) => ⟨tl 173 [(2, .loc 100 0), (3, .loc 101 0), (4, .loc 102 0), (8, V.i a0.kind), (29, V.b y102)], [(100, .cells 57 [V.i a0.kind, V.i a0.op, V.s a0.text, V.s a0.other, sL eST a0.kids]), (101, .cells 30 [V.i a1.Level, V.b a1.Dollar, V.b a1.NoIn, V.b a1.NoGt, V.b a1.NoSign]), (102, .cells 53 [V.i 0, V.i 0, V.s [], .c (.slice none 0 0), V.i 0])]⟩) (fun i => mi_bareDoc_k2 N R i = some r) ?_ ?_
   · rintro ⟨a0, a1, y102⟩ h129
     rw [mi_bareDoc_k2] at h129
     refine cI h129 (fun _ h129 => ?_) (fun _ h129 => ?_)
     ·refine bB h129 fun s108 hx136 h129 => (bB h129 fun r109 hx137 h129 => (bB h129 fun r110 hx138 h129 => (bB h129 fun r111 hx139 h129 => (bB h129 fun r112 hx140 h129 => (CO.sw mix (wR 2 103 (W.cat hx136 (by kernel_rfl) (w0 (AC.gs (mi_text_ok s108 hx137) (by decide)) cok60 ?_))))))))
      refine wR 2 103 (w0 (HR.mi_listDoc a0.kids _ hx138) cok92 (w0 (AC.gs (mi_text_ok [41] hx139) (by decide)) cok60 (W.layop Dk lO (by kernel_rfl) 103 { v := .own 103, R := [], new := [(103, .vec true 53 5 [[V.i r109.kind, V.i r109.n, V.s r109.text, sL encSDoc r109.kids, V.i r109.group], [V.i r110.kind, V.i r110.n, V.s r110.text, sL encSDoc r110.kids, V.i r110.group], [V.i r111.kind, V.i r111.n, V.s r111.text, sL encSDoc r111.kids, V.i r111.group]])], N := [103] } (by kernel_rfl) (W.vecEq 103 (nn := true) (e := 53) (k := 5) (rows := [[V.i r109.kind, V.i r109.n, V.s r109.text, sL encSDoc r109.kids, V.i r109.group], [V.i r110.kind, V.i r110.n, V.s r110.text, sL encSDoc r110.kids, V.i r110.group], [V.i r111.kind, V.i r111.n, V.s r111.text, sL encSDoc r111.kids, V.i r111.group]]) (rows' := [r109, r110, r111].map encSDoc) (by kernel_rfl) (by simp only [List.map_cons, List.map_nil, encSDoc_eq]) (wD (AC.gs (mi_cat_ok [r109, r110, r111] hx140) (by decide)) cok59 [] [] [] (LayOk.cons (j := 103) encSDoc encSDoc ([r109, r110, r111] : LO) (by kernel_rfl) (share_encSDoc) lO) (wR 1 104 (wF (CO.ret ?_))))))))
      have h129 := sI h129
      subst h129
      exact eG [] (.inr rfl) (RetV.one rfl (OneR.cell Dk (r := .agg [V.i r112.kind, V.i r112.n, V.s r112.text, sL encSDoc r112.kids, V.i r112.group]) (i := 102) (ety := 53) (cs := [V.i r112.kind, V.i r112.n, V.s r112.text, sL encSDoc r112.kids, V.i r112.group]) (by kernel_rfl) (by kernel_rfl) (by kernel_rfl)))
     refine cV 103 ?_
     refine cI h129 (fun _ h129 => ?_) (fun _ h129 => ?_)
     ·refine bB h129 fun r117 hx146 h129 => (bB h129 fun r118 hx147 h129 => (bB h129 fun r119 hx148 h129 => (bB h129 fun r120 hx149 h129 => (CO.sw mix (wR 2 103 (w0 (mi_SpellOf_ok a0.op hx146) cok94 (w0 (AC.gs (mi_text_ok r117 hx147) (by decide)) cok60 (wR 2 103 ?_))))))))
      refine w0 (HR.mi_kidDoc a0 0 a1 _ hx148) cok95 (W.layop Dk lO (by kernel_rfl) 103 { v := .own 103, R := [], new := [(103, .vec true 53 5 [[V.i r118.kind, V.i r118.n, V.s r118.text, sL encSDoc r118.kids, V.i r118.group], [V.i r119.kind, V.i r119.n, V.s r119.text, sL encSDoc r119.kids, V.i r119.group]])], N := [103] } (by kernel_rfl) (W.vecEq 103 (nn := true) (e := 53) (k := 5) (rows := [[V.i r118.kind, V.i r118.n, V.s r118.text, sL encSDoc r118.kids, V.i r118.group], [V.i r119.kind, V.i r119.n, V.s r119.text, sL encSDoc r119.kids, V.i r119.group]]) (rows' := [r118, r119].map encSDoc) (by kernel_rfl) (by simp only [List.map_cons, List.map_nil, encSDoc_eq]) (wD (AC.gs (mi_cat_ok [r118, r119] hx149) (by decide)) cok59 [] [] [] (LayOk.cons (j := 103) encSDoc encSDoc ([r118, r119] : LO) (by kernel_rfl) (share_encSDoc) lO) (wR 1 104 (wF (CO.ret ?_))))))
      have h129 := sI h129
      subst h129
      exact eG [] (.inr rfl) (RetV.one rfl (OneR.cell Dk (r := .agg [V.i r120.kind, V.i r120.n, V.s r120.text, sL encSDoc r120.kids, V.i r120.group]) (i := 102) (ety := 53) (cs := [V.i r120.kind, V.i r120.n, V.s r120.text, sL encSDoc r120.kids, V.i r120.group]) (by kernel_rfl) (by kernel_rfl) (by kernel_rfl)))
     refine cV 103 ?_
     refine cI h129 (fun _ h129 => ?_) (fun _ h129 => ?_)
     ·refine bB h129 fun r125 hx155 h129 => (bB h129 fun r126 hx156 h129 => (bB h129 fun r127 hx157 h129 => (bB h129 fun r128 hx158 h129 => (CO.sw mix (wR 2 103 (w0 (HR.mi_kidDoc a0 0 a1 _ hx155) cok95 (wR 2 103 (w0 (mi_SpellOf_ok a0.op hx156) cok94 ?_))))))))
      refine w0 (AC.gs (mi_text_ok r126 hx157) (by decide)) cok60 (W.layop Dk lO (by kernel_rfl) 103 { v := .own 103, R := [], new := [(103, .vec true 53 5 [[V.i r125.kind, V.i r125.n, V.s r125.text, sL encSDoc r125.kids, V.i r125.group], [V.i r127.kind, V.i r127.n, V.s r127.text, sL encSDoc r127.kids, V.i r127.group]])], N := [103] } (by kernel_rfl) (W.vecEq 103 (nn := true) (e := 53) (k := 5) (rows := [[V.i r125.kind, V.i r125.n, V.s r125.text, sL encSDoc r125.kids, V.i r125.group], [V.i r127.kind, V.i r127.n, V.s r127.text, sL encSDoc r127.kids, V.i r127.group]]) (rows' := [r125, r127].map encSDoc) (by kernel_rfl) (by simp only [List.map_cons, List.map_nil, encSDoc_eq]) (wD (AC.gs (mi_cat_ok [r125, r127] hx158) (by decide)) cok59 [] [] [] (LayOk.cons (j := 103) encSDoc encSDoc ([r125, r127] : LO) (by kernel_rfl) (share_encSDoc) lO) (wR 1 104 (wF (CO.ret ?_))))))
      have h129 := sI h129
      subst h129
      exact eG [] (.inr rfl) (RetV.one rfl (OneR.cell Dk (r := .agg [V.i r128.kind, V.i r128.n, V.s r128.text, sL encSDoc r128.kids, V.i r128.group]) (i := 102) (ety := 53) (cs := [V.i r128.kind, V.i r128.n, V.s r128.text, sL encSDoc r128.kids, V.i r128.group]) (by kernel_rfl) (by kernel_rfl) (by kernel_rfl)))
     refine cV 103 ?_
     refine cI h129 (fun _ h129 => ?_) (fun _ h129 => ?_)
     ·refine bB h129 fun r132 hx163 h129 => (bB h129 fun r133 hx164 h129 => (bB h129 fun r134 hx165 h129 => (CO.sw mix (w0 (AC.gs (mi_text_ok [36] hx163) (by decide)) cok60 (wR 2 103 (w0 (HR.mi_kidDoc a0 0 a1 _ hx164) cok95 (W.layop Dk lO (by kernel_rfl) 103 { v := .own 103, R := [], new := [(103, .vec true 53 5 [[V.i r132.kind, V.i r132.n, V.s r132.text, sL encSDoc r132.kids, V.i r132.group], [V.i r133.kind, V.i r133.n, V.s r133.text, sL encSDoc r133.kids, V.i r133.group]])], N := [103] } (by kernel_rfl) (W.vecEq 103 (nn := true) (e := 53) (k := 5) (rows := [[V.i r132.kind, V.i r132.n, V.s r132.text, sL encSDoc r132.kids, V.i r132.group], [V.i r133.kind, V.i r133.n, V.s r133.text, sL encSDoc r133.kids, V.i r133.group]]) (rows' := [r132, r133].map encSDoc) (by kernel_rfl) (by simp only [List.map_cons, List.map_nil, encSDoc_eq]) ?_))))))))
      refine wD (AC.gs (mi_cat_ok [r132, r133] hx165) (by decide)) cok59 [] [] [] (LayOk.cons (j := 103) encSDoc encSDoc ([r132, r133] : LO) (by kernel_rfl) (share_encSDoc) lO) (wR 1 104 (wF (CO.ret ?_)))
      have h129 := sI h129
      subst h129
      exact eG [] (.inr rfl) (RetV.one rfl (OneR.cell Dk (r := .agg [V.i r134.kind, V.i r134.n, V.s r134.text, sL encSDoc r134.kids, V.i r134.group]) (i := 102) (ety := 53) (cs := [V.i r134.kind, V.i r134.n, V.s r134.text, sL encSDoc r134.kids, V.i r134.group]) (by kernel_rfl) (by kernel_rfl) (by kernel_rfl)))
     refine cV 103 ?_
     refine cI h129 (fun _ h129 => ?_) (fun _ h129 => ?_)
     ·refine bB h129 fun r136 hx168 h129 => (cC 2 103 (HR.mi_unaryDoc a0 a1 _ hx168) cok96 (CO.ret ?_))
      have h129 := sI h129
      subst h129
      exact eG [] (.inr rfl) (RetV.one rfl (OneR.cell Dk (r := .agg [V.i r136.kind, V.i r136.n, V.s r136.text, sL encSDoc r136.kids, V.i r136.group]) (i := 102) (ety := 53) (cs := [V.i r136.kind, V.i r136.n, V.s r136.text, sL encSDoc r136.kids, V.i r136.group]) (by kernel_rfl) (by kernel_rfl) (by kernel_rfl)))
     refine cV 103 ?_
     refine cI h129 (fun _ h129 => ?_) (fun _ h129 => ?_)
     ·refine bB h129 fun r143 hx176 h129 => (bB h129 fun r144 hx177 h129 => (bB h129 fun r145 hx178 h129 => (bB h129 fun r146 hx179 h129 => (bB h129 fun r147 hx180 h129 => (bB h129 fun r148 hx181 h129 => (CO.sw mix (wR 2 103 (w0 (HR.mi_kidDoc a0 0 a1 _ hx176) cok95 ?_))))))))
      refine w0 (AC.gs (mi_text_ok [32, 63, 32] hx177) (by decide)) cok60 (wR 2 103 (w0 (HR.mi_kidDoc a0 1 a1 _ hx178) cok95 (w0 (AC.gs (mi_text_ok [32, 58, 32] hx179) (by decide)) cok60 (wR 2 103 (w0 (HR.mi_kidDoc a0 2 a1 _ hx180) cok95 (W.layop Dk lO (by kernel_rfl) 103 { v := .own 103, R := [], new := [(103, .vec true 53 5 [[V.i r143.kind, V.i r143.n, V.s r143.text, sL encSDoc r143.kids, V.i r143.group], [V.i r144.kind, V.i r144.n, V.s r144.text, sL encSDoc r144.kids, V.i r144.group], [V.i r145.kind, V.i r145.n, V.s r145.text, sL encSDoc r145.kids, V.i r145.group], [V.i r146.kind, V.i r146.n, V.s r146.text, sL encSDoc r146.kids, V.i r146.group], [V.i r147.kind, V.i r147.n, V.s r147.text, sL encSDoc r147.kids, V.i r147.group]])], N := [103] } (by kernel_rfl) (W.vecEq 103 (nn := true) (e := 53) (k := 5) (rows := [[V.i r143.kind, V.i r143.n, V.s r143.text, sL encSDoc r143.kids, V.i r143.group], [V.i r144.kind, V.i r144.n, V.s r144.text, sL encSDoc r144.kids, V.i r144.group], [V.i r145.kind, V.i r145.n, V.s r145.text, sL encSDoc r145.kids, V.i r145.group], [V.i r146.kind, V.i r146.n, V.s r146.text, sL encSDoc r146.kids, V.i r146.group], [V.i r147.kind, V.i r147.n, V.s r147.text, sL encSDoc r147.kids, V.i r147.group]]) (rows' := [r143, r144, r145, r146, r147].map encSDoc) (by kernel_rfl) (by simp only [List.map_cons, List.map_nil, encSDoc_eq]) (wD (AC.gs (mi_cat_ok [r143, r144, r145, r146, r147] hx181) (by decide)) cok59 [] [] [] (LayOk.cons (j := 103) encSDoc encSDoc ([r143, r144, r145, r146, r147] : LO) (by kernel_rfl) (share_encSDoc) lO) ?_))))))))
      refine wR 1 104 (wF (CO.ret ?_))
      have h129 := sI h129
      subst h129
      exact eG [] (.inr rfl) (RetV.one rfl (OneR.cell Dk (r := .agg [V.i r148.kind, V.i r148.n, V.s r148.text, sL encSDoc r148.kids, V.i r148.group]) (i := 102) (ety := 53) (cs := [V.i r148.kind, V.i r148.n, V.s r148.text, sL encSDoc r148.kids, V.i r148.group]) (by kernel_rfl) (by kernel_rfl) (by kernel_rfl)))
     refine cV 103 ?_
     refine cI h129 (fun _ h129 => ?_) (fun _ h129 => ?_)
     ·refine CO.seq' (CO.sw mix (wR 2 103 (wN eST a0.kids [] (wR 1 103 (wF ?_)))))
      refine cI h129 (fun _ h129 => ?_) (fun _ h129 => ?_)
      ·refine bB h129 fun r164 hx200 h129 => (bB h129 fun r165 hx201 h129 => (bB h129 fun s166 hx202 h129 => (bB h129 fun r167 hx203 h129 => (bB h129 fun r168 hx204 h129 => (CO.sw mix (w0 (AC.gs (mi_text_ok [40] hx200) (by decide)) cok60 (wR 2 103 (w0 (HR.mi_listDoc a0.kids _ hx201) cok92 ?_))))))))
       refine wR 2 103 (W.cat hx202 (by kernel_rfl) (w0 (AC.gs (mi_text_ok s166 hx203) (by decide)) cok60 (W.layop Dk lO (by kernel_rfl) 103 { v := .own 103, R := [], new := [(103, .vec true 53 5 [[V.i r164.kind, V.i r164.n, V.s r164.text, sL encSDoc r164.kids, V.i r164.group], [V.i r165.kind, V.i r165.n, V.s r165.text, sL encSDoc r165.kids, V.i r165.group], [V.i r167.kind, V.i r167.n, V.s r167.text, sL encSDoc r167.kids, V.i r167.group]])], N := [103] } (by kernel_rfl) (W.vecEq 103 (nn := true) (e := 53) (k := 5) (rows := [[V.i r164.kind, V.i r164.n, V.s r164.text, sL encSDoc r164.kids, V.i r164.group], [V.i r165.kind, V.i r165.n, V.s r165.text, sL encSDoc r165.kids, V.i r165.group], [V.i r167.kind, V.i r167.n, V.s r167.text, sL encSDoc r167.kids, V.i r167.group]]) (rows' := [r164, r165, r167].map encSDoc) (by kernel_rfl) (by simp only [List.map_cons, List.map_nil, encSDoc_eq]) (wD (AC.gs (mi_cat_ok [r164, r165, r167] hx204) (by decide)) cok59 [] [] [] (LayOk.cons (j := 103) encSDoc encSDoc ([r164, r165, r167] : LO) (by kernel_rfl) (share_encSDoc) lO) (wR 1 104 (wF (CO.ret ?_))))))))
       have h129 := sI h129
       subst h129
       exact eG [] (.inr rfl) (RetV.one rfl (OneR.cell Dk (r := .agg [V.i r168.kind, V.i r168.n, V.s r168.text, sL encSDoc r168.kids, V.i r168.group]) (i := 102) (ety := 53) (cs := [V.i r168.kind, V.i r168.n, V.s r168.text, sL encSDoc r168.kids, V.i r168.group]) (by kernel_rfl) (by kernel_rfl) (by kernel_rfl)))
      refine CO.skip (bB h129 fun r173 hx209 h129 => (bB h129 fun s174 hx210 h129 => (bB h129 fun r175 hx211 h129 => (bB h129 fun r176 hx212 h129 => (CO.sw mix (wR 2 103 (w0 (HR.mi_kidDoc a0 0 a1 _ hx209) cok95 (wR 2 103 ?_))))))))
      refine W.cat hx210 (by kernel_rfl) (w0 (AC.gs (mi_text_ok s174 hx211) (by decide)) cok60 (W.layop Dk lO (by kernel_rfl) 103 { v := .own 103, R := [], new := [(103, .vec true 53 5 [[V.i r173.kind, V.i r173.n, V.s r173.text, sL encSDoc r173.kids, V.i r173.group], [V.i r175.kind, V.i r175.n, V.s r175.text, sL encSDoc r175.kids, V.i r175.group]])], N := [103] } (by kernel_rfl) (W.vecEq 103 (nn := true) (e := 53) (k := 5) (rows := [[V.i r173.kind, V.i r173.n, V.s r173.text, sL encSDoc r173.kids, V.i r173.group], [V.i r175.kind, V.i r175.n, V.s r175.text, sL encSDoc r175.kids, V.i r175.group]]) (rows' := [r173, r175].map encSDoc) (by kernel_rfl) (by simp only [List.map_cons, List.map_nil, encSDoc_eq]) (wD (AC.gs (mi_cat_ok [r173, r175] hx212) (by decide)) cok59 [] [] [] (LayOk.cons (j := 103) encSDoc encSDoc ([r173, r175] : LO) (by kernel_rfl) (share_encSDoc) lO) (wR 1 104 (wF (CO.ret ?_)))))))
      have h129 := sI h129
      subst h129
      exact eG [] (.inr rfl) (RetV.one rfl (OneR.cell Dk (r := .agg [V.i r176.kind, V.i r176.n, V.s r176.text, sL encSDoc r176.kids, V.i r176.group]) (i := 102) (ety := 53) (cs := [V.i r176.kind, V.i r176.n, V.s r176.text, sL encSDoc r176.kids, V.i r176.group]) (by kernel_rfl) (by kernel_rfl) (by kernel_rfl)))
     refine CO.skip (bB h129 fun r179 hx215 h129 => (bB h129 fun r180 hx216 h129 => (CO.sw mix (wR 2 103 (w0 (HR.mi_kidDoc a0 0 a1 _ hx215) cok95 (wR 2 103 (w0 (HR.mi_kidDoc a0 1 a1 _ hx216) cok95 (wR 4 103 ?_))))))))
     refine wF (CO.seq' (CO.block' (bB h129 fun y201 hv246 h129 => ?_)))
     refine CO.cutR (tl 173 [(2, .loc 100 0), (4, .loc 101 0), (5, .loc 102 0), (6, .loc 103 0), (123, V.b y201)]) [(100, .cells 57 [V.i a0.kind, V.i a0.op, V.s a0.text, V.s a0.other, sL eST a0.kids]), (101, .cells 53 [V.i 0, V.i 0, V.s [], .c (.slice none 0 0), V.i 0]), (102, .cells 53 [V.i r179.kind, V.i r179.n, V.s r179.text, sL encSDoc r179.kids, V.i r179.group]), (103, .cells 53 [V.i r180.kind, V.i r180.n, V.s r180.text, sL encSDoc r180.kids, V.i r180.group])] mix (by
      refine wR 4 105 ?_
      refine wJ 127 hv246 (fun hv246 => ?_) (fun hv246 => ?_)
      ·refine wR 5 105 ?_
       cases hv246
       exact fS [(100, 100), (102, 101), (103, 102), (104, 103)] [2, 4, 5, 6, 123]
      refine wR 5 105 ?_
      cases hv246
      exact fS [(100, 100), (102, 101), (103, 102), (104, 103)] [2, 4, 5, 6, 123]
      ) ?_
     refine cI h129 (fun _ h129 => ?_) (fun _ h129 => ?_)
     ·refine bB h129 fun r204 hx251 h129 => (bB h129 fun r205 hx252 h129 => (CO.sw mix (wR 1 105 (w0 (AC.gs (mi_text_ok [32] hx251) (by decide)) cok60 (wR 1 105 (W.layop Dk lO (by kernel_rfl) 105 { v := .own 105, R := [], new := [(105, .vec true 53 5 [[V.i r179.kind, V.i r179.n, V.s r179.text, sL encSDoc r179.kids, V.i r179.group], [V.i r204.kind, V.i r204.n, V.s r204.text, sL encSDoc r204.kids, V.i r204.group], [V.i r180.kind, V.i r180.n, V.s r180.text, sL encSDoc r180.kids, V.i r180.group]])], N := [105] } (by kernel_rfl) (W.vecEq 105 (nn := true) (e := 53) (k := 5) (rows := [[V.i r179.kind, V.i r179.n, V.s r179.text, sL encSDoc r179.kids, V.i r179.group], [V.i r204.kind, V.i r204.n, V.s r204.text, sL encSDoc r204.kids, V.i r204.group], [V.i r180.kind, V.i r180.n, V.s r180.text, sL encSDoc r180.kids, V.i r180.group]]) (rows' := [r179, r204, r180].map encSDoc) (by kernel_rfl) (by simp only [List.map_cons, List.map_nil, encSDoc_eq]) (wD (AC.gs (mi_cat_ok [r179, r204, r180] hx252) (by decide)) cok59 [] [] [] (LayOk.cons (j := 105) encSDoc encSDoc ([r179, r204, r180] : LO) (by kernel_rfl) (share_encSDoc) lO) ?_))))))))
      refine wR 1 106 (wF (CO.ret ?_))
      have h129 := sI h129
      subst h129
      exact eG [] (.inr rfl) (RetV.one rfl (OneR.cell Dk (r := .agg [V.i r205.kind, V.i r205.n, V.s r205.text, sL encSDoc r205.kids, V.i r205.group]) (i := 101) (ety := 53) (cs := [V.i r205.kind, V.i r205.n, V.s r205.text, sL encSDoc r205.kids, V.i r205.group]) (by kernel_rfl) (by kernel_rfl) (by kernel_rfl)))
     refine bB h129 fun y206 hv255 h129 => ?_
     refine CO.cutR (tl 173 [(2, .loc 100 0), (4, .loc 101 0), (5, .loc 102 0), (6, .loc 103 0), (137, V.b y206)]) [(100, .cells 57 [V.i a0.kind, V.i a0.op, V.s a0.text, V.s a0.other, sL eST a0.kids]), (101, .cells 53 [V.i 0, V.i 0, V.s [], .c (.slice none 0 0), V.i 0]), (102, .cells 53 [V.i r179.kind, V.i r179.n, V.s r179.text, sL encSDoc r179.kids, V.i r179.group]), (103, .cells 53 [V.i r180.kind, V.i r180.n, V.s r180.text, sL encSDoc r180.kids, V.i r180.group])] mix (by
      refine wR 4 105 ?_
      refine wJ 141 hv255 (fun hv255 => ?_) (fun hv255 => ?_)
      ·refine wR 4 105 ?_
       refine wJ 145 hv255 (fun hv255 => ?_) (fun hv255 => ?_)
       ·refine wR 6 105 ?_
        cases hv255
        exact fS [(100, 100), (101, 101), (102, 102), (103, 103)] [2, 4, 5, 6, 137]
       refine wR 6 105 ?_
       cases hv255
       exact fS [(100, 100), (101, 101), (102, 102), (103, 103)] [2, 4, 5, 6, 137]
      refine wR 10 105 ?_
      cases hv255
      exact fS [(100, 100), (101, 101), (102, 102), (103, 103)] [2, 4, 5, 6, 137]
      ) ?_
     refine cI h129 (fun _ h129 => ?_) (fun _ h129 => ?_)
     ·refine bB h129 fun r214 hx266 h129 => (bB h129 fun s215 hx267 h129 => (bB h129 fun r216 hx268 h129 => (bB h129 fun r217 hx269 h129 => (bB h129 fun r218 hx270 h129 => (bB h129 fun r219 hx271 h129 => (bB h129 fun r220 hx272 h129 => (CO.sw mix (wR 3 105 ?_))))))))
      refine w0 (mi_SpellOf_ok a0.op hx266) cok94 (W.cat hx267 (by kernel_rfl) (w0 (AC.gs (mi_text_ok s215 hx268) (by decide)) cok60 (w0 (AC.gs (mi_line_ok  hx269) (by decide)) cok99 (wR 1 105 (W.layop Dk lO (by kernel_rfl) 105 { v := .own 105, R := [], new := [(105, .vec true 53 5 [[V.i r179.kind, V.i r179.n, V.s r179.text, sL encSDoc r179.kids, V.i r179.group], [V.i r216.kind, V.i r216.n, V.s r216.text, sL encSDoc r216.kids, V.i r216.group], [V.i r217.kind, V.i r217.n, V.s r217.text, sL encSDoc r217.kids, V.i r217.group], [V.i r180.kind, V.i r180.n, V.s r180.text, sL encSDoc r180.kids, V.i r180.group]])], N := [105] } (by kernel_rfl) (W.vecEq 105 (nn := true) (e := 53) (k := 5) (rows := [[V.i r179.kind, V.i r179.n, V.s r179.text, sL encSDoc r179.kids, V.i r179.group], [V.i r216.kind, V.i r216.n, V.s r216.text, sL encSDoc r216.kids, V.i r216.group], [V.i r217.kind, V.i r217.n, V.s r217.text, sL encSDoc r217.kids, V.i r217.group], [V.i r180.kind, V.i r180.n, V.s r180.text, sL encSDoc r180.kids, V.i r180.group]]) (rows' := [r179, r216, r217, r180].map encSDoc) (by kernel_rfl) (by simp only [List.map_cons, List.map_nil, encSDoc_eq]) (wD (AC.gs (mi_cat_ok [r179, r216, r217, r180] hx270) (by decide)) cok59 [] [] [] (LayOk.cons (j := 105) encSDoc encSDoc ([r179, r216, r217, r180] : LO) (by kernel_rfl) (share_encSDoc) lO) (w0 (AC.gs (mi_nest_ok r218 hx271) (by decide)) cok98 ?_))))))))
      refine w0 (AC.gs (mi_group_ok r219 hx272) (by decide)) cok97 (wR 1 106 (wF (CO.ret ?_)))
      have h129 := sI h129
      subst h129
      exact eG [] (.inr rfl) (RetV.one rfl (OneR.cell Dk (r := .agg [V.i r220.kind, V.i r220.n, V.s r220.text, sL encSDoc r220.kids, V.i r220.group]) (i := 101) (ety := 53) (cs := [V.i r220.kind, V.i r220.n, V.s r220.text, sL encSDoc r220.kids, V.i r220.group]) (by kernel_rfl) (by kernel_rfl) (by kernel_rfl)))
     refine CO.skip (bB h129 fun r226 hx278 h129 => (bB h129 fun s227 hx279 h129 => (bB h129 fun s228 hx280 h129 => (bB h129 fun r229 hx281 h129 => (bB h129 fun r230 hx282 h129 => (CO.sw mix (wR 3 105 (w0 (mi_SpellOf_ok a0.op hx278) cok94 ?_))))))))
     refine W.cat hx279 (by kernel_rfl) (W.cat hx280 (by kernel_rfl) (w0 (AC.gs (mi_text_ok s228 hx281) (by decide)) cok60 (wR 1 105 (W.layop Dk lO (by kernel_rfl) 105 { v := .own 105, R := [], new := [(105, .vec true 53 5 [[V.i r179.kind, V.i r179.n, V.s r179.text, sL encSDoc r179.kids, V.i r179.group], [V.i r229.kind, V.i r229.n, V.s r229.text, sL encSDoc r229.kids, V.i r229.group], [V.i r180.kind, V.i r180.n, V.s r180.text, sL encSDoc r180.kids, V.i r180.group]])], N := [105] } (by kernel_rfl) (W.vecEq 105 (nn := true) (e := 53) (k := 5) (rows := [[V.i r179.kind, V.i r179.n, V.s r179.text, sL encSDoc r179.kids, V.i r179.group], [V.i r229.kind, V.i r229.n, V.s r229.text, sL encSDoc r229.kids, V.i r229.group], [V.i r180.kind, V.i r180.n, V.s r180.text, sL encSDoc r180.kids, V.i r180.group]]) (rows' := [r179, r229, r180].map encSDoc) (by kernel_rfl) (by simp only [List.map_cons, List.map_nil, encSDoc_eq]) (wD (AC.gs (mi_cat_ok [r179, r229, r180] hx282) (by decide)) cok59 [] [] [] (LayOk.cons (j := 105) encSDoc encSDoc ([r179, r229, r180] : LO) (by kernel_rfl) (share_encSDoc) lO) (wR 1 106 (wF ?_))))))))
     refine CO.ret ?_
     have h129 := sI h129
     subst h129
     exact eG [] (.inr rfl) (RetV.one rfl (OneR.cell Dk (r := .agg [V.i r230.kind, V.i r230.n, V.s r230.text, sL encSDoc r230.kids, V.i r230.group]) (i := 101) (ety := 53) (cs := [V.i r230.kind, V.i r230.n, V.s r230.text, sL encSDoc r230.kids, V.i r230.group]) (by kernel_rfl) (by kernel_rfl) (by kernel_rfl)))
   intro hk283
   refine cV 103 ?_
   refine cI h113 (fun _ h113 => ?_) (fun _ h113 => ?_)
   ·exact sK hk283 (a0, a1, (a0.kind == 7)) h113 [(100, 100), (101, 101), (102, 102)] [2, 3, 4, 8, 29]
   exact cK 103 hk283 (a0, a1, (a0.kind == 8)) h113 [(100, 100), (101, 101), (102, 102)] [2, 3, 4, 8, 29]
 intro hk285
 refine cV 103 ?_
 refine cI h (fun _ h => ?_) (fun _ h => ?_)
 ·exact sK hk285 (a0, a1, (a0.kind == 1)) h [(100, 100), (101, 101), (102, 102)] [2, 3, 4, 8, 9]
 refine cV 103 ?_
 refine cI h (fun _ h => ?_) (fun _ h => ?_)
 ·exact sK hk285 (a0, a1, (a0.kind == 2)) h [(100, 100), (101, 101), (102, 102)] [2, 3, 4, 8, 9]
 refine cV 103 ?_
 refine cI h (fun _ h => ?_) (fun _ h => ?_)
 ·exact sK hk285 (a0, a1, (a0.kind == 3)) h [(100, 100), (101, 101), (102, 102)] [2, 3, 4, 8, 9]
 exact cK 103 hk285 (a0, a1, (a0.kind == 4)) h [(100, 100), (101, 101), (102, 102)] [2, 3, 4, 8, 9]

theorem mi_exprDoc_F_ok (N : Nat) (R : Rec6) (HR : RecOk6 R) (a0 : STree) (a1 : SPos) {r : SDoc} (h : mi_exprDoc_F N R a0 a1 = some r) :
    AC Tryz.prog (GS [0, 1]) 27 [.agg [V.i a0.kind, V.i a0.op, V.s a0.text, V.s a0.other, sL eST a0.kids], .agg [V.i a1.Level, V.b a1.Dollar, V.b a1.NoIn, V.b a1.NoGt, V.b a1.NoSign]] [] (.agg [V.i r.kind, V.i r.n, V.s r.text, sL encSDoc r.kids, V.i r.group]) [] := by
 rw [mi_exprDoc_F] at h
 refine AC.enter Tryz.func27 rfl (cV 100 (CO.seq' (bB h fun r9 hx10 h => (bB h fun r10 hx11 h => (CO.sw mix (wR 1 103 (wC (AC.gs (mi_tree__node_ok N a0 hx10) (by decide)) cok57 [] [(100, 103)] [103] (wR 1 104 ?_))))))))
 refine W.lend (AC.gs (mi_Fits_ok r9 a1 hx11) (by decide)) cok56 [] [] (LayOk.cons (j := 103) eNI eNI r9.Kids (by kernel_rfl) (fun _ => rfl) lO) (.c _) .nil (by kernel_rfl) (by kernel_rfl) (wF ?_)
 refine cI h (fun _ h => ?_) (fun _ h => ?_)
 ·refine bB h fun r12 hx14 h => (cC 2 104 (HR.mi_bareDoc a0 a1 _ hx14) cok58 (CO.ret ?_))
  have h := sI h
  subst h
  exact eG [] (.inr rfl) (RetV.one rfl (OneR.cell Dk (r := .agg [V.i r12.kind, V.i r12.n, V.s r12.text, sL encSDoc r12.kids, V.i r12.group]) (i := 102) (ety := 53) (cs := [V.i r12.kind, V.i r12.n, V.s r12.text, sL encSDoc r12.kids, V.i r12.group]) (by kernel_rfl) (by kernel_rfl) (by kernel_rfl)))
 refine CO.skip (bB h fun r18 hx20 h => (bB h fun r19 hx21 h => (bB h fun r20 hx22 h => (bB h fun r21 hx23 h => (bB h fun r22 hx24 h => (CO.sw mix (w0 (AC.gs (mi_text_ok [40] hx20) (by decide)) cok60 (wR 1 104 ?_))))))))
 refine w0 (AC.gs (mi_Top_ok  hx21) (by decide)) cok61 (w0 (HR.mi_bareDoc a0 r19 _ hx22) cok58 (w0 (AC.gs (mi_text_ok [41] hx23) (by decide)) cok60 (W.layop Dk lO (by kernel_rfl) 104 { v := .own 104, R := [], new := [(104, .vec true 53 5 [[V.i r18.kind, V.i r18.n, V.s r18.text, sL encSDoc r18.kids, V.i r18.group], [V.i r20.kind, V.i r20.n, V.s r20.text, sL encSDoc r20.kids, V.i r20.group], [V.i r21.kind, V.i r21.n, V.s r21.text, sL encSDoc r21.kids, V.i r21.group]])], N := [104] } (by kernel_rfl) (W.vecEq 104 (nn := true) (e := 53) (k := 5) (rows := [[V.i r18.kind, V.i r18.n, V.s r18.text, sL encSDoc r18.kids, V.i r18.group], [V.i r20.kind, V.i r20.n, V.s r20.text, sL encSDoc r20.kids, V.i r20.group], [V.i r21.kind, V.i r21.n, V.s r21.text, sL encSDoc r21.kids, V.i r21.group]]) (rows' := [r18, r20, r21].map encSDoc) (by kernel_rfl) (by simp only [List.map_cons, List.map_nil, encSDoc_eq]) (wD (AC.gs (mi_cat_ok [r18, r20, r21] hx24) (by decide)) cok59 [] [] [] (LayOk.cons (j := 104) encSDoc encSDoc ([r18, r20, r21] : LO) (by kernel_rfl) (share_encSDoc) lO) (wR 1 105 (wF (CO.ret ?_))))))))
 have h := sI h
 subst h
 exact eG [] (.inr rfl) (RetV.one rfl (OneR.cell Dk (r := .agg [V.i r22.kind, V.i r22.n, V.s r22.text, sL encSDoc r22.kids, V.i r22.group]) (i := 102) (ety := 53) (cs := [V.i r22.kind, V.i r22.n, V.s r22.text, sL encSDoc r22.kids, V.i r22.group]) (by kernel_rfl) (by kernel_rfl) (by kernel_rfl)))

theorem scc6_ok : ∀ N, RecOk6 (scc6 N)
 | 0 => ⟨fun _ _ _ h => (by cases h), fun _ _ _ _ h => (by cases h), fun _ _ h => (by cases h), fun _ _ _ h => (by cases h), fun _ _ _ h => (by cases h)⟩
 | N + 1 => ⟨fun a0 a1 _ h => mi_unaryDoc_F_ok N (scc6 N) (scc6_ok N) a0 a1 h, fun a0 a1 a2 _ h => mi_kidDoc_F_ok N (scc6 N) (scc6_ok N) a0 a1 a2 h, fun a0 _ h => mi_listDoc_F_ok N (scc6 N) (scc6_ok N) a0 h, fun a0 a1 _ h => mi_bareDoc_F_ok N (scc6 N) (scc6_ok N) a0 a1 h, fun a0 a1 _ h => mi_exprDoc_F_ok N (scc6 N) (scc6_ok N) a0 a1 h⟩

theorem mi_exprDoc_ok (N : Nat) (a0 : STree) (a1 : SPos) {r : SDoc} (h : mi_exprDoc N a0 a1 = some r) :
  AC Tryz.prog (GS [0, 1]) 27 [.agg [V.i a0.kind, V.i a0.op, V.s a0.text, V.s a0.other, sL eST a0.kids], .agg [V.i a1.Level, V.b a1.Dollar, V.b a1.NoIn, V.b a1.NoGt, V.b a1.NoSign]] [] (.agg [V.i r.kind, V.i r.n, V.s r.text, sL encSDoc r.kids, V.i r.group]) [] :=
 (scc6_ok N).mi_exprDoc a0 a1 r h

theorem mi_topDoc_ok (N : Nat) (a0 : STree) {r : SDoc} (h : mi_topDoc N a0 = some r) :
    AC Tryz.prog (GS [0, 1]) 44 [.agg [V.i a0.kind, V.i a0.op, V.s a0.text, V.s a0.other, sL eST a0.kids]] [] (.agg [V.i r.kind, V.i r.n, V.s r.text, sL encSDoc r.kids, V.i r.group]) [] := by
 rw [mi_topDoc] at h
 refine AC.enter Tryz.func44 rfl (cV 100 (bB h fun r3 hx3 h => (bB h fun r4 hx4 h => (CO.sw mix (wR 1 102 (w0 (AC.gs (mi_Top_ok  hx3) (by decide)) cok61 (w0 (mi_exprDoc_ok N a0 r3 hx4) cok27 (wR 1 102 ?_))))))))
 refine wF (CO.ret ?_)
 have h := sI h
 subst h
 exact eG [] (.inr rfl) (RetV.one rfl (OneR.cell Dk (r := .agg [V.i r4.kind, V.i r4.n, V.s r4.text, sL encSDoc r4.kids, V.i r4.group]) (i := 101) (ety := 53) (cs := [V.i r4.kind, V.i r4.n, V.s r4.text, sL encSDoc r4.kids, V.i r4.group]) (by kernel_rfl) (by kernel_rfl) (by kernel_rfl)))

structure RecOk7 (R : Rec7) : Prop where
 mi_doc__flat : ∀ (a0 : SDoc) (r : (LU × Bool)), R.mi_doc__flat a0 = some r → AC Tryz.prog (GS []) 45 [.agg [V.i a0.kind, V.i a0.n, V.s a0.text, sL encSDoc a0.kids, V.i a0.group]] [] (.tup [V.s r.1, V.b r.2]) []

theorem mi_doc__flat_F_ok (N : Nat) (R : Rec7) (HR : RecOk7 R) (a0 : SDoc) {r : (LU × Bool)} (h : mi_doc__flat_F N R a0 = some r) :
    AC Tryz.prog (GS []) 45 [.agg [V.i a0.kind, V.i a0.n, V.s a0.text, sL encSDoc a0.kids, V.i a0.group]] [] (.tup [V.s r.1, V.b r.2]) [] := by
 rw [mi_doc__flat_F] at h
 refine AC.enter Tryz.func45 rfl (cV 100 (CO.seq' (cV 101 (CO.block' (cV 101 ?_)))))
 refine cI h (fun _ h => ?_) (fun _ h => ?_)
 ·refine cV 101 (CO.ret ?_)
  have h := sI h
  subst h
  exact eG [] (.inr rfl) (RetV.two rfl (oT (t := 2) (r := V.s a0.text)) (oT (t := 3) (r := V.b true)))
 refine cV 101 ?_
 refine cI h (fun _ h => ?_) (fun _ h => ?_)
 ·refine cV 101 (CO.ret ?_)
  cases h
  exact eG [] (.inr rfl) (RetV.two rfl (oT (t := 2) (r := V.s [32])) (oT (t := 3) (r := V.b true)))
 refine cV 101 ?_
 refine cI h (fun _ h => ?_) (fun _ h => ?_)
 ·refine cV 101 (CO.ret ?_)
  cases h
  exact eG [] (.inr rfl) (RetV.two rfl (oT (t := 2) (r := V.s [])) (oT (t := 3) (r := V.b false)))
 refine CO.skip (cV 101 (CO.seq' (CO.sw mix (wR 2 102 (wN encSDoc a0.kids [] (wR 1 102 (wF (CO.block' ?_))))))))
 refine CO.loopJ (fun (⟨a0, y53, y54⟩ : (SDoc × Int × LU)) => ⟨tl 40 [(4, .own 100), (21, sL encSDoc a0.kids), (22, V.i (a0.kids.length : Int)), (23, V.i y53)], [(100, vX 5 1 byteRow y54)]⟩) (fun n i => mi_doc__flat_l1 N R n i = some r) (n0 := N) (i0 := (a0, 0, [])) (wS [(101, 100)] [4, 21, 22, 23]) h (fun i h => by simp [mi_doc__flat_l1] at h) ?_
 rintro n1 ⟨a0, y53, y54⟩ h99 ih100
 rw [mi_doc__flat_l1] at h99
 refine cV 166 (CO.seq' ?_)
 refine cI h99 (fun _ h99 => ?_) (fun _ h99 => ?_)
 ·refine CO.skip (CO.seq' (CO.block' (bB h99 fun e76 hx112 h99 => (CO.sw mix (W.ixDr Dk encSDoc hx112 5 (by kernel_rfl) (encSDoc_eq e76) (by kernel_rfl) (wR 3 166 (wF (bB h99 fun r78 hx114 h99 => ?_))))))))
  refine cC 1 167 (HR.mi_doc__flat e76 _ hx114) cok45 (CO.seq' (cV 167 ?_))
  refine cI h99 (fun _ h99 => ?_) (fun _ h99 => ?_)
  ·refine cV 167 (CO.ret ?_)
   cases h99
   exact eG [] (.inr rfl) (RetV.two rfl (oT (t := 2) (r := V.s [])) (oT (t := 3) (r := V.b false)))
  refine CO.skip (bB h99 fun x80 hx118 h99 => ?_)
  refine CO.endR (tl 40 [(4, .own 167), (21, sL encSDoc a0.kids), (22, V.i (a0.kids.length : Int)), (23, V.i y53)]) [(167, vX 5 1 byteRow x80)] mix (by
   refine wR 2 167 (W.appS Dk (a := 100) (el := 5) 1 hx118 rfl 167 (by kernel_rfl) (wR 1 168 ?_))
   exact fI
   ) (fun st hw => ?_)
  refine CO.weak hw ?_
  exact cK 168 ih100 (a0, (wr (y53 + 1)), x80) h99 [(167, 100)] [4, 21, 22, 23]
 refine CO.exit (CO.sw mix (wR 1 166 (W.strO Dk y54 (a := 100) (by kernel_rfl) (wR 2 166 (wF (CO.ret ?_))))))
 have h99 := sI h99
 subst h99
 exact eG [] (.inr rfl) (RetV.two rfl (oT (t := 2) (r := V.s y54)) (oT (t := 3) (r := V.b true)))

theorem scc7_ok : ∀ N, RecOk7 (scc7 N)
 | 0 => ⟨fun _ _ h => (by cases h)⟩
 | N + 1 => ⟨fun a0 _ h => mi_doc__flat_F_ok N (scc7 N) (scc7_ok N) a0 h⟩

theorem mi_doc__flat_ok (N : Nat) (a0 : SDoc) {r : (LU × Bool)} (h : mi_doc__flat N a0 = some r) :
  AC Tryz.prog (GS []) 45 [.agg [V.i a0.kind, V.i a0.n, V.s a0.text, sL encSDoc a0.kids, V.i a0.group]] [] (.tup [V.s r.1, V.b r.2]) [] :=
 (scc7_ok N).mi_doc__flat a0 r h

theorem mi_HeadOf_ok (N : Nat) (a0 : LN) (a1 : Int) {r : LU} (h : mi_HeadOf N a0 a1 = some r) :
    AC Tryz.prog (GS [0, 1, 2]) 19 [.sl false false (a0.map (eSN false)), V.i a1] [] (V.s r) [] := by
 rw [mi_HeadOf] at h
 refine AC.enter Tryz.func19 rfl (cV 100 (CO.seq' (bB h fun y8 hv12 h => ?_)))
 refine CO.cutR (tl 62 [(0, .sl false false (a0.map (eSN false))), (1, V.i a1), (21, V.b y8)]) [] mix (by
  refine wR 1 100 (bB hv12 fun r9 hx13 hv12 => (w0 (mi_TreeOk_ok N a0 hx13) cok40 (wR 2 100 ?_)))
  refine wJ 14 hv12 (fun hv12 => ?_) (fun hv12 => ?_)
  ·refine wR 7 100 ?_
   cases hv12
   exact fS [] [0, 1, 21]
  refine wR 2 100 (wN (eSN false) a0 [] (wR 1 100 (bB hv12 fun r10 hx15 hv12 => (w0 (AC.gs (mi_within_ok a1 0 (wr ((a0.length : Int) - 1)) hx15) (by decide)) cok41 (wR 2 100 ?_)))))
  cases hv12
  exact fS [] [0, 1, 21]
  ) ?_
 refine cI h (fun _ h => ?_) (fun _ h => ?_)
 ·refine cV 100 ?_
  cases h
  exact e1 4 id
 refine CO.skip (bB h fun r12 hx18 h => (cC 2 100 (AC.gs (mi_treeAt_ok N a0 a1 hx18) (by decide)) cok42 (CO.seq' (cV 101 (CO.block' (cV 101 ?_))))))
 refine cI h (fun _ h => ?_) (fun _ h => ?_)
 ·refine cV 101 ?_
  cases h
  exact e1 4 id
 refine cV 101 ?_
 refine cI h (fun _ h => ?_) (fun _ h => ?_)
 ·refine cV 101 ?_
  cases h
  exact e1 4 id
 refine cV 101 ?_
 refine cI h (fun _ h => ?_) (fun _ h => ?_)
 ·refine bB h fun r129 hx171 h => (cC 1 101 (AC.gs (mi_headOf_ok N r12 hx171) (by decide)) cok43 ?_)
  cases h
  exact e1 4 id
 refine CO.join (fun (⟨r12, y130⟩ : (STree × Bool)) => ⟨tl 62 [(5, .loc 100 0), (35, V.b y130)], [(100, .cells 57 [V.i r12.kind, V.i r12.op, V.s r12.text, V.s r12.other, sL eST r12.kids])]⟩) (fun i => mi_HeadOf_k1 N i = some r) ?_ ?_
 · rintro ⟨r12, y130⟩ h173
   rw [mi_HeadOf_k1] at h173
   refine cI h173 (fun _ h173 => ?_) (fun _ h173 => ?_)
   ·refine cV 101 (CO.seq' (CO.sw mix (wR 2 102 (wN eST r12.kids [] (wR 1 102 (wF (CO.block' (CO.loopJ (fun (⟨r12, y203, y204⟩ : (STree × Int × LLU)) => ⟨tl 62 [(6, .own 100), (40, sL eST r12.kids), (41, V.i (r12.kids.length : Int)), (42, V.i y203)], [(100, vN y204)]⟩) (fun n i => mi_HeadOf_l2 N n i = some r) (n0 := N) (i0 := (r12, 0, [])) (wS [(101, 100)] [6, 40, 41, 42]) h173 (fun i h => by simp [mi_HeadOf_l2] at h) ?_))))))))
    rintro n2 ⟨r12, y203, y204⟩ h287 ih288
    rw [mi_HeadOf_l2] at h287
    refine cV 168 (CO.seq' ?_)
    refine cI h287 (fun _ h287 => ?_) (fun _ h287 => ?_)
    ·refine CO.skip ?_
     refine CO.join (fun (⟨r12, y203, y232⟩ : (STree × Int × LLU)) => ⟨tl 62 [(6, .own 100), (40, sL eST r12.kids), (41, V.i (r12.kids.length : Int)), (42, V.i y203)], [(100, vN y232)]⟩) (fun i => mi_HeadOf_k3 N (mi_HeadOf_l2 N n2) i = some r) ?_ ?_
     · rintro ⟨r12, y203, y232⟩ h300
       rw [mi_HeadOf_k3] at h300
       exact cK 171 ih288 (r12, (wr (y203 + 1)), y232) h300 [(100, 100)] [6, 40, 41, 42]
     intro hk301
     refine CO.block' (bB h287 fun e234 hx303 h287 => (CO.sw mix (W.ixDr Dk eST hx303 5 (by kernel_rfl) (encSTree_eq e234) (by kernel_rfl) (wR 3 168 (wF (cV 169 ?_))))))
     refine cI h287 (fun _ h287 => ?_) (fun _ h287 => ?_)
     ·refine bB h287 fun r237 hx307 h287 => (bB h287 fun r238 hx308 h287 => (CO.sw mix (wR 1 169 (w0 (AC.gs (mi_topDoc_ok N e234 hx307) (by decide)) cok44 (w0 (AC.gs (mi_doc__flat_ok N r237 hx308) (by decide)) cok45 (wR 5 169 (wF (bB h287 fun x240 hx310 h287 => ?_))))))))
      refine CO.w mix (wR 3 169 (W.appO Dk eNS (a := 100) (c := 169) (el := 9) (sz := 1) 16 hx310 rfl 170 (by kernel_rfl) (wR 1 171 ?_)))
      exact wK hk301 (r12, y203, x240) h287 [(170, 100)] [6, 40, 41, 42]
     exact sK hk301 (r12, y203, y204) h287 [(100, 100)] [6, 40, 41, 42]
    refine CO.exit (bB h287 fun r242 hx312 h287 => (CO.sw mix (wR 1 168 (wC (AC.gs (m_strings_Join_ok y204 hx312) (by decide)) cok46 [(100, 0)] [(0, 100)] [] (wR 1 168 (wF ?_))))))
    cases h287
    exact e1 4 id
   refine CO.skip (cV 101 ?_)
   cases h173
   exact e1 4 id
 intro hk313
 refine cV 101 ?_
 refine cI h (fun _ h => ?_) (fun _ h => ?_)
 ·exact sK hk313 (r12, (r12.kind == 42)) h [(100, 100)] [5, 35]
 exact cK 101 hk313 (r12, (r12.kind == 43)) h [(100, 100)] [5, 35]

theorem ml_eqIntS_ok (N : Nat) (a0 : List Int) (a1 : List Int) {r : Bool} (h : ml_eqIntS N a0 a1 = some r) :
    AC Tryz.prog (GS []) 63 [sL eNI a0, sL eNI a1] [] (V.b r) [] := by
 rw [ml_eqIntS] at h
 refine AC.enter Tryz.func63 rfl (cV 100 (CO.seq' (CO.sw mix (wR 1 100 (wN eNI a0 [] (wR 1 100 (wN eNI a1 [] (wR 1 100 ?_))))))))
 refine wF ?_
 refine cI h (fun _ h => ?_) (fun _ h => ?_)
 ·refine cV 100 ?_
  cases h
  exact e1 4 id
 refine CO.skip (CO.seq' (cV 100 (CO.block' (CO.loopJ (fun (⟨a0, a1, y35⟩ : ((List Int) × (List Int) × Int)) => ⟨tl 26 [(0, sL eNI a0), (1, sL eNI a1), (5, V.i y35)], []⟩) (fun n i => ml_eqIntS_l1 N n i = some r) (n0 := N) (i0 := (a0, a1, 0)) (wS [] [0, 1, 5]) h (fun i h => by simp [ml_eqIntS_l1] at h) ?_))))
 rintro n1 ⟨a0, a1, y35⟩ h65 ih66
 rw [ml_eqIntS_l1] at h65
 refine CO.seq' (CO.sw mix (wR 2 160 (wN eNI a0 [] (wR 1 160 (wF ?_)))))
 refine cI h65 (fun _ h65 => ?_) (fun _ h65 => ?_)
 ·refine CO.skip (CO.seq' (CO.block' (bB h65 fun e51 hx76 h65 => (bB h65 fun e52 hx77 h65 => (CO.sw mix (wR 2 160 (wX eNI hx76 1 (wR 3 160 ?_))))))))
  refine wX eNI hx77 1 (wR 2 160 (wF ?_))
  refine cI h65 (fun _ h65 => ?_) (fun _ h65 => ?_)
  ·refine cV 160 ?_
   cases h65
   exact e1 4 id
  refine CO.skip ?_
  exact cK 160 ih66 (a0, a1, (wr (y35 + 1))) h65 [] [0, 1, 5]
 refine CO.exit (cV 160 ?_)
 cases h65
 exact e1 4 id

theorem ml_eqNode_ok (N : Nat) (a0 : SNode) (a1 : SNode) {r : Bool} (h : ml_eqNode N a0 a1 = some r) :
    AC Tryz.prog (GS []) 31 [.agg [V.i a0.Kind, V.i a0.Op, V.s a0.Text, V.s a0.Other, sL eNI a0.Kids], .agg [V.i a1.Kind, V.i a1.Op, V.s a1.Text, V.s a1.Other, sL eNI a1.Kids]] [] (V.b r) [] := by
 rw [ml_eqNode] at h
 refine AC.enter Tryz.func31 rfl (cV 100 (CO.seq' (cV 102 ?_)))
 refine cI h (fun _ h => ?_) (fun _ h => ?_)
 ·refine cV 102 ?_
  cases h
  exact e1 4 id
 refine CO.skip (CO.seq' (cV 102 ?_))
 refine cI h (fun _ h => ?_) (fun _ h => ?_)
 ·refine cV 102 ?_
  cases h
  exact e1 4 id
 refine CO.skip (CO.seq' (cV 102 ?_))
 refine cI h (fun _ h => ?_) (fun _ h => ?_)
 ·refine cV 102 ?_
  cases h
  exact e1 4 id
 refine CO.skip (CO.seq' (cV 102 ?_))
 refine cI h (fun _ h => ?_) (fun _ h => ?_)
 ·refine cV 102 ?_
  cases h
  exact e1 4 id
 refine CO.skip (CO.seq' (bB h fun r4 hx13 h => (cC 4 102 (ml_eqIntS_ok N a0.Kids a1.Kids hx13) cok63 ?_)))
 refine cI h (fun _ h => ?_) (fun _ h => ?_)
 ·refine cV 102 ?_
  cases h
  exact e1 4 id
 refine CO.skip (cV 102 ?_)
 cases h
 exact e1 4 id

theorem ml_eqNodeS_ok (N : Nat) (a0 : LN) (a1 : LN) {r : Bool} (h : ml_eqNodeS N a0 a1 = some r) :
    AC Tryz.prog (GS []) 12 [.sl false false (a0.map (eSN false)), .sl false false (a1.map (eSN false))] [] (V.b r) [] := by
 rw [ml_eqNodeS] at h
 refine AC.enter Tryz.func12 rfl (cV 100 (CO.seq' (CO.sw mix (wR 1 100 (wN (eSN false) a0 [] (wR 1 100 (wN (eSN false) a1 [] (wR 1 100 ?_))))))))
 refine wF ?_
 refine cI h (fun _ h => ?_) (fun _ h => ?_)
 ·refine cV 100 ?_
  cases h
  exact e1 4 id
 refine CO.skip (CO.seq' (cV 100 (CO.block' (CO.loopJ (fun (⟨a0, a1, y51⟩ : (LN × LN × Int)) => ⟨tl 27 [(0, .sl false false (a0.map (eSN false))), (1, .sl false false (a1.map (eSN false))), (5, V.i y51)], []⟩) (fun n i => ml_eqNodeS_l1 N n i = some r) (n0 := N) (i0 := (a0, a1, 0)) (wS [] [0, 1, 5]) h (fun i h => by simp [ml_eqNodeS_l1] at h) ?_))))
 rintro n1 ⟨a0, a1, y51⟩ h85 ih86
 rw [ml_eqNodeS_l1] at h85
 refine CO.seq' (CO.sw mix (wR 2 160 (wN (eSN false) a0 [] (wR 1 160 (wF ?_)))))
 refine cI h85 (fun _ h85 => ?_) (fun _ h85 => ?_)
 ·refine CO.skip (CO.seq' (CO.block' (bB h85 fun e74 hx99 h85 => (bB h85 fun e75 hx100 h85 => (bB h85 fun r76 hx101 h85 => (CO.sw mix (wR 2 160 (wX (eSN false) hx99 5 ?_))))))))
  refine wR 3 160 (wX (eSN false) hx100 5 (wR 1 160 (w0 (ml_eqNode_ok N e74 e75 hx101) cok31 (wR 1 160 (wF ?_)))))
  refine cI h85 (fun _ h85 => ?_) (fun _ h85 => ?_)
  ·refine cV 160 ?_
   cases h85
   exact e1 4 id
  refine CO.skip ?_
  exact cK 160 ih86 (a0, a1, (wr (y51 + 1))) h85 [] [0, 1, 5]
 refine CO.exit (cV 160 ?_)
 cases h85
 exact e1 4 id

theorem ml_FnExactHeadOf_ok (N : Nat) (a0 : LN) (a1 : Int) {r : Bool} (h : ml_FnExactHeadOf N a0 a1 = some r) :
    AC Tryz.prog (GS [0, 1, 2]) 5 [.sl false false (a0.map (eSN false)), V.i a1] [] (V.b r) [] := by
 rw [ml_FnExactHeadOf] at h
 refine AC.enter Tryz.func5 rfl (cV 100 (cV 100 (bB h fun r2 hx2 h => (cC 2 100 (AC.gs (ml_szNodeS_ok N a0 1048576 hx2) (by decide)) cok6 (CO.seq' (cV 100 ?_))))))
 refine cI h (fun _ h => ?_) (fun _ h => ?_)
 ·refine cV 100 ?_
  cases h
  exact e1 4 id
 refine CO.skip (bB h fun r5 hx7 h => (bB h fun r6 hx8 h => (CO.sw mix (wR 1 100 (wC (AC.gs (ml_toNodeS_ok N a0 hx7) (by decide)) cok8 [] [(100, 100)] [100] (wR 1 101 (W.lend (AC.gs (ms_HeadOf_ok N r5 a1 hx8) (by decide)) cok18 [] [] (LayOk.cons (j := 100) (eSN true) (eSN false) r5 (by kernel_rfl) (sh_eSN _) lO) (.c _) .nil (by kernel_rfl) (by kernel_rfl) (wR 1 101 ?_))))))))
 refine wF (bB h fun r8 hx10 h => (CO.sw mix (wR 1 101 (wC (AC.gs (ml_toNodeS_ok N a0 hx10) (by decide)) cok8 [] [(100, 101)] [101] (wR 1 102 (wF (bB h fun r10 hx12 h => (CO.sw mix ?_))))))))
 refine wR 2 102 (W.lend (mi_HeadOf_ok N r8 a1 hx12) cok19 [] [] (LayOk.cons (j := 101) (eSN true) (eSN false) r8 (by kernel_rfl) (sh_eSN _) lO) (.c _) .nil (by kernel_rfl) (by kernel_rfl) (wR 1 102 (wF (CO.seq' (cV 102 ?_)))))
 refine cI h (fun _ h => ?_) (fun _ h => ?_)
 ·refine cV 102 ?_
  cases h
  exact e1 4 id
 refine CO.skip (CO.seq' (bB h fun r17 hx22 h => (bB h fun r18 hx23 h => (CO.sw mix (wR 2 102 (wC (AC.gs (ml_toNodeS_ok N a0 hx22) (by decide)) cok8 [] [(100, 102)] [102] (W.lend (AC.gs (ml_eqNodeS_ok N r8 r17 hx23) (by decide)) cok12 [] [] (LayOk.cons (j := 101) (eSN true) (eSN false) r8 (by kernel_rfl) (sh_eSN _) (LayOk.cons (j := 102) (eSN true) (eSN false) r17 (by kernel_rfl) (sh_eSN _) lO)) (.c _) .nil (by kernel_rfl) (by kernel_rfl) (wR 1 103 ?_))))))))
 refine wF ?_
 refine cI h (fun _ h => ?_) (fun _ h => ?_)
 ·refine cV 103 ?_
  cases h
  exact e1 4 id
 refine CO.skip (cV 103 ?_)
 cases h
 exact e1 4 id

end Go.Proofs.Tryz

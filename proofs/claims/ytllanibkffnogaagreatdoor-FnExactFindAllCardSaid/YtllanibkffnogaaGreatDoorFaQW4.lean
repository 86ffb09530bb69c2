/-
  The walks that show that the code computes the models, part 4.
-/
import Derived.Test.YtllanibkffnogaaGreatDoorFaQW3
namespace Go.Proofs.Tryz
open Go.Av
set_option maxRecDepth 100000
set_option maxHeartbeats 8000000
set_option linter.unusedSimpArgs false
set_option linter.unusedVariables false

theorem ml_FnExactFindAll_ok (N : Nat) (a0 : List SNode) (a1 : List SNode) {r : Bool} (h : ml_FnExactFindAll N a0 a1 = some r) :
    AC Tryz.prog (GS [0, 1, 2]) 4 [.sl false false (a0.map (eSN false)), .sl false false (a1.map (eSN false))] [] (V.b r) [] := by
 rw [ml_FnExactFindAll] at h
 refine AC.enter Tryz.func4 rfl ?_
 refine cu Dk mix 1 100 (tl 92 [(0, .sl false false (a0.map (eSN false))), (1, .sl false false (a1.map (eSN false)))]) [] (by kernel_rfl) ?_
 refine cu Dk mix 1 100 (tl 92 [(0, .sl false false (a0.map (eSN false))), (1, .sl false false (a1.map (eSN false))), (5, V.i 1048576)]) [] (by kernel_rfl) ?_
 (revert h; refine bR fun r2 hx2 h => ?_)
 refine CO.cutR (tl 92 [(0, .sl false false (a0.map (eSN false))), (1, .sl false false (a1.map (eSN false))), (5, V.i r2)]) [] mix (by
  refine W.run Dk 2 100 (by kernel_rfl) ?_
  refine W.call0 (AC.gs (ml_szNodeS_ok N a0 1048576 hx2) (by decide)) cok13 rfl (by kernel_rfl) ?_
  refine W.run Dk 1 100 (by kernel_rfl) ?_
  exact W.fi (by kernel_rfl)
  ) ?_
 refine CO.seq' ?_
 refine cu Dk mix 2 100 (tl 92 [(0, .sl false false (a0.map (eSN false))), (1, .sl false false (a1.map (eSN false))), (5, V.i r2), (18, V.b (decide (r2 < 0)))]) [] (by kernel_rfl) ?_
 (revert h; refine cR (fun hc4 h => ?_) (fun hc4 h => ?_))
 ·refine CO.ifT hc4 (by kernel_rfl) ?_
  refine cu Dk mix 1 100 (tl 92 [(4, V.b true)]) [] (by kernel_rfl) ?_
  refine CO.ret ?_
  have h := Option.some.inj h
  subst h
  exact Ends.gen [] (.inr rfl) (RetV.one rfl (OneR.t (t := 4) (r := V.b true) (by kernel_rfl))) (by kernel_rfl) (by kernel_rfl) (by kernel_rfl)
 refine CO.ifF hc4 (by kernel_rfl) ?_
 refine CO.skip ?_
 (revert h; refine bR fun r4 hx6 h => ?_)
 refine CO.cutR (tl 92 [(0, .sl false false (a0.map (eSN false))), (1, .sl false false (a1.map (eSN false))), (5, V.i r4)]) [] mix (by
  refine W.run Dk 2 100 (by kernel_rfl) ?_
  refine W.call0 (AC.gs (ml_szNodeS_ok N a1 r2 hx6) (by decide)) cok13 rfl (by kernel_rfl) ?_
  refine W.run Dk 1 100 (by kernel_rfl) ?_
  exact W.fi (by kernel_rfl)
  ) ?_
 refine CO.seq' ?_
 refine cu Dk mix 2 100 (tl 92 [(0, .sl false false (a0.map (eSN false))), (1, .sl false false (a1.map (eSN false))), (23, V.b (decide (r4 < 0)))]) [] (by kernel_rfl) ?_
 (revert h; refine cR (fun hc8 h => ?_) (fun hc8 h => ?_))
 ·refine CO.ifT hc8 (by kernel_rfl) ?_
  refine cu Dk mix 1 100 (tl 92 [(4, V.b true)]) [] (by kernel_rfl) ?_
  refine CO.ret ?_
  have h := Option.some.inj h
  subst h
  exact Ends.gen [] (.inr rfl) (RetV.one rfl (OneR.t (t := 4) (r := V.b true) (by kernel_rfl))) (by kernel_rfl) (by kernel_rfl) (by kernel_rfl)
 refine CO.ifF hc8 (by kernel_rfl) ?_
 refine CO.skip ?_
 (revert h; refine bR fun r8 hx12 h => ?_)
 (revert h; refine bR fun r9 hx13 h => ?_)
 (revert h; refine bR fun r10 hx14 h => ?_)
 refine CO.cutR (tl 92 [(0, .sl false false (a0.map (eSN false))), (1, .sl false false (a1.map (eSN false))), (6, .own 102)]) [(102, .vec false 3 1 (r10.map encI))] mix (by
  refine W.run Dk 1 100 (by kernel_rfl) ?_
  refine W.call (AC.gs (ml_toNodeS_ok N a0 hx12) (by decide)) cok15 [] [(100, 100)] [100] (show LayOk _ [] from trivial) (by kernel_rfl) (by kernel_rfl) ?_
  refine W.run Dk 1 101 (by kernel_rfl) ?_
  refine W.call (AC.gs (ml_toNodeS_ok N a1 hx13) (by decide)) cok15 [] [(100, 101)] [101] (show LayOk _ [] from trivial) (by kernel_rfl) (by kernel_rfl) ?_
  refine W.lend (AC.gs (ms_FindAll_ok N r8 r9 hx14) (by decide)) cok14 [(100, 102)] [102] (LayOk.cons (j := 100) (eSN true) (eSN false) r8 (by kernel_rfl) (sh_eSN _) (LayOk.cons (j := 101) (eSN true) (eSN false) r9 (by kernel_rfl) (sh_eSN _) (show LayOk _ [] from trivial))) (.own _) (.cons (DeepR.map (fun _ => (.cons (.c _) .nil)) _) .nil) (by kernel_rfl) (by kernel_rfl) ?_
  refine W.run Dk 1 103 (by kernel_rfl) ?_
  exact W.fi (by kernel_rfl)
  ) ?_
 (revert h; refine bR fun r12 hx16 h => ?_)
 refine CO.cutR (tl 92 [(0, .sl false false (a0.map (eSN false))), (1, .sl false false (a1.map (eSN false))), (6, .own 102), (7, .own 103)]) [(103, .vec false 48 5 (r12.map (eSN true))), (102, .vec false 3 1 (r10.map encI))] mix (by
  refine W.run Dk 1 103 (by kernel_rfl) ?_
  refine W.call (AC.gs (ml_toNodeS_ok N a0 hx16) (by decide)) cok15 [] [(100, 103)] [103] (show LayOk _ [] from trivial) (by kernel_rfl) (by kernel_rfl) ?_
  refine W.run Dk 1 104 (by kernel_rfl) ?_
  exact W.fi (by kernel_rfl)
  ) ?_
 (revert h; refine bR fun r14 hx18 h => ?_)
 refine CO.cutR (tl 92 [(0, .sl false false (a0.map (eSN false))), (1, .sl false false (a1.map (eSN false))), (6, .own 102), (7, .own 103), (8, .own 104)]) [(104, .vec false 48 5 (r14.map (eSN true))), (103, .vec false 48 5 (r12.map (eSN true))), (102, .vec false 3 1 (r10.map encI))] mix (by
  refine W.run Dk 1 104 (by kernel_rfl) ?_
  refine W.call (AC.gs (ml_toNodeS_ok N a1 hx18) (by decide)) cok15 [] [(100, 104)] [104] (show LayOk _ [] from trivial) (by kernel_rfl) (by kernel_rfl) ?_
  refine W.run Dk 1 105 (by kernel_rfl) ?_
  exact W.fi (by kernel_rfl)
  ) ?_
 (revert h; refine bR fun r16 hx20 h => ?_)
 refine CO.cutR (tl 92 [(0, .sl false false (a0.map (eSN false))), (1, .sl false false (a1.map (eSN false))), (6, .own 102), (7, .own 103), (8, .own 104), (9, .own 105)]) [(105, .vec false 3 1 (r16.map encI)), (104, .vec false 48 5 (r14.map (eSN true))), (103, .vec false 48 5 (r12.map (eSN true))), (102, .vec false 3 1 (r10.map encI))] mix (by
  refine W.run Dk 2 105 (by kernel_rfl) ?_
  refine W.lend (mi_FindAll_ok N r12 r14 hx20) cok16 [(100, 105)] [105] (LayOk.cons (j := 103) (eSN true) (eSN false) r12 (by kernel_rfl) (sh_eSN _) (LayOk.cons (j := 104) (eSN true) (eSN false) r14 (by kernel_rfl) (sh_eSN _) (show LayOk _ [] from trivial))) (.own _) (.cons (DeepR.map (fun _ => (.cons (.c _) .nil)) _) .nil) (by kernel_rfl) (by kernel_rfl) ?_
  refine W.run Dk 1 106 (by kernel_rfl) ?_
  exact W.fi (by kernel_rfl)
  ) ?_
 refine CO.seq' ?_
 (revert h; refine bR fun r20 hx25 h => ?_)
 refine CO.cutR (tl 92 [(0, .sl false false (a0.map (eSN false))), (1, .sl false false (a1.map (eSN false))), (6, .own 102), (7, .own 103), (8, .own 104), (9, .own 105), (39, V.b (!r20))]) [(105, .vec false 3 1 (r16.map encI)), (104, .vec false 48 5 (r14.map (eSN true))), (103, .vec false 48 5 (r12.map (eSN true))), (102, .vec false 3 1 (r10.map encI))] mix (by
  refine W.run Dk 2 106 (by kernel_rfl) ?_
  refine W.lend (AC.gs (ml_eqIntS_ok N r16 r10 hx25) (by decide)) cok17 [] [] (LayOk.cons (j := 105) encI encI r16 (by kernel_rfl) (fun _ => rfl) (LayOk.cons (j := 102) encI encI r10 (by kernel_rfl) (fun _ => rfl) (show LayOk _ [] from trivial))) (.c _) .nil (by kernel_rfl) (by kernel_rfl) ?_
  refine W.run Dk 1 106 (by kernel_rfl) ?_
  exact W.fi (by kernel_rfl)
  ) ?_
 (revert h; refine cR (fun hc26 h => ?_) (fun hc26 h => ?_))
 ·refine CO.ifT hc26 (by kernel_rfl) ?_
  refine cu Dk mix 1 106 (tl 92 [(4, V.b false)]) [] (by kernel_rfl) ?_
  refine CO.ret ?_
  have h := Option.some.inj h
  subst h
  exact Ends.gen [] (.inr rfl) (RetV.one rfl (OneR.t (t := 4) (r := V.b false) (by kernel_rfl))) (by kernel_rfl) (by kernel_rfl) (by kernel_rfl)
 refine CO.ifF hc26 (by kernel_rfl) ?_
 refine CO.skip ?_
 refine CO.seq' ?_
 (revert h; refine bR fun r27 hx34 h => ?_)
 (revert h; refine bR fun r28 hx35 h => ?_)
 refine CO.cutR (tl 92 [(0, .sl false false (a0.map (eSN false))), (1, .sl false false (a1.map (eSN false))), (6, .own 102), (7, .own 103), (8, .own 104), (9, .own 105), (44, V.b (!r28))]) [(105, .vec false 3 1 (r16.map encI)), (104, .vec false 48 5 (r14.map (eSN true))), (103, .vec false 48 5 (r12.map (eSN true))), (102, .vec false 3 1 (r10.map encI))] mix (by
  refine W.run Dk 2 106 (by kernel_rfl) ?_
  refine W.call (AC.gs (ml_toNodeS_ok N a0 hx34) (by decide)) cok15 [] [(100, 106)] [106] (show LayOk _ [] from trivial) (by kernel_rfl) (by kernel_rfl) ?_
  refine W.lend (AC.gs (ml_eqNodeS_ok N r12 r27 hx35) (by decide)) cok10 [] [] (LayOk.cons (j := 103) (eSN true) (eSN false) r12 (by kernel_rfl) (sh_eSN _) (LayOk.cons (j := 106) (eSN true) (eSN false) r27 (by kernel_rfl) (sh_eSN _) (show LayOk _ [] from trivial))) (.c _) .nil (by kernel_rfl) (by kernel_rfl) ?_
  refine W.run Dk 1 107 (by kernel_rfl) ?_
  exact W.fi (by kernel_rfl)
  ) ?_
 (revert h; refine cR (fun hc36 h => ?_) (fun hc36 h => ?_))
 ·refine CO.ifT hc36 (by kernel_rfl) ?_
  refine cu Dk mix 1 107 (tl 92 [(4, V.b false)]) [] (by kernel_rfl) ?_
  refine CO.ret ?_
  have h := Option.some.inj h
  subst h
  exact Ends.gen [] (.inr rfl) (RetV.one rfl (OneR.t (t := 4) (r := V.b false) (by kernel_rfl))) (by kernel_rfl) (by kernel_rfl) (by kernel_rfl)
 refine CO.ifF hc36 (by kernel_rfl) ?_
 refine CO.skip ?_
 refine CO.seq' ?_
 (revert h; refine bR fun r35 hx44 h => ?_)
 (revert h; refine bR fun r36 hx45 h => ?_)
 refine CO.cutR (tl 92 [(0, .sl false false (a0.map (eSN false))), (1, .sl false false (a1.map (eSN false))), (6, .own 102), (7, .own 103), (8, .own 104), (9, .own 105), (49, V.b (!r36))]) [(105, .vec false 3 1 (r16.map encI)), (104, .vec false 48 5 (r14.map (eSN true))), (103, .vec false 48 5 (r12.map (eSN true))), (102, .vec false 3 1 (r10.map encI))] mix (by
  refine W.run Dk 2 107 (by kernel_rfl) ?_
  refine W.call (AC.gs (ml_toNodeS_ok N a1 hx44) (by decide)) cok15 [] [(100, 107)] [107] (show LayOk _ [] from trivial) (by kernel_rfl) (by kernel_rfl) ?_
  refine W.lend (AC.gs (ml_eqNodeS_ok N r14 r35 hx45) (by decide)) cok10 [] [] (LayOk.cons (j := 104) (eSN true) (eSN false) r14 (by kernel_rfl) (sh_eSN _) (LayOk.cons (j := 107) (eSN true) (eSN false) r35 (by kernel_rfl) (sh_eSN _) (show LayOk _ [] from trivial))) (.c _) .nil (by kernel_rfl) (by kernel_rfl) ?_
  refine W.run Dk 1 108 (by kernel_rfl) ?_
  exact W.fi (by kernel_rfl)
  ) ?_
 (revert h; refine cR (fun hc46 h => ?_) (fun hc46 h => ?_))
 ·refine CO.ifT hc46 (by kernel_rfl) ?_
  refine cu Dk mix 1 108 (tl 92 [(4, V.b false)]) [] (by kernel_rfl) ?_
  refine CO.ret ?_
  have h := Option.some.inj h
  subst h
  exact Ends.gen [] (.inr rfl) (RetV.one rfl (OneR.t (t := 4) (r := V.b false) (by kernel_rfl))) (by kernel_rfl) (by kernel_rfl) (by kernel_rfl)
 refine CO.ifF hc46 (by kernel_rfl) ?_
 refine CO.skip ?_
 refine cu Dk mix 1 108 (tl 92 [(0, .sl false false (a0.map (eSN false))), (1, .sl false false (a1.map (eSN false))), (6, .own 102), (7, .own 103), (8, .own 104), (9, .own 105), (10, V.i 1)]) [(105, .vec false 3 1 (r16.map encI)), (104, .vec false 48 5 (r14.map (eSN true))), (103, .vec false 48 5 (r12.map (eSN true))), (102, .vec false 3 1 (r10.map encI))] (by kernel_rfl) ?_
 (revert h; refine bR fun r38 hx48 h => ?_)
 refine CO.cutR (tl 92 [(0, .sl false false (a0.map (eSN false))), (1, .sl false false (a1.map (eSN false))), (6, .own 102), (8, .own 104), (9, .own 105), (10, V.i r38.1)]) [(105, .vec false 3 1 (r16.map encI)), (104, .vec false 48 5 (r14.map (eSN true))), (102, .vec false 3 1 (r10.map encI))] mix (by
  refine W.run Dk 2 108 (by kernel_rfl) ?_
  refine W.call (AC.gs (ml_markNodeS_ok 48 N 1 r12 hx48) (by decide)) cok11 [(103, 0)] [(0, 103)] [] (show LayOk _ [] from trivial) (by kernel_rfl) (by kernel_rfl) ?_
  refine W.run Dk 1 108 (by kernel_rfl) ?_
  exact W.fi (by kernel_rfl)
  ) ?_
 (revert h; refine bR fun r40 hx50 h => ?_)
 refine CO.cutR (tl 92 [(0, .sl false false (a0.map (eSN false))), (1, .sl false false (a1.map (eSN false))), (6, .own 102), (9, .own 105), (10, V.i r40.1)]) [(105, .vec false 3 1 (r16.map encI)), (102, .vec false 3 1 (r10.map encI))] mix (by
  refine W.run Dk 2 108 (by kernel_rfl) ?_
  refine W.call (AC.gs (ml_markNodeS_ok 48 N r38.1 r14 hx50) (by decide)) cok11 [(104, 0)] [(0, 104)] [] (show LayOk _ [] from trivial) (by kernel_rfl) (by kernel_rfl) ?_
  refine W.run Dk 1 108 (by kernel_rfl) ?_
  exact W.fi (by kernel_rfl)
  ) ?_
 refine CO.seq' ?_
 (revert h; refine bR fun y45 hv59 h => ?_)
 refine CO.cutR (tl 92 [(0, .sl false false (a0.map (eSN false))), (1, .sl false false (a1.map (eSN false))), (6, .own 100), (9, .own 101), (63, V.b y45)]) [(100, .vec false 3 1 (r10.map encI)), (101, .vec false 3 1 (r16.map encI))] mix (by
  refine W.run Dk 3 108 (by kernel_rfl) ?_
  (revert hv59; refine cR (fun hc60 hv59 => ?_) (fun hc60 hv59 => ?_))
  ·refine W.is 58 hc60 (by kernel_rfl) ?_
   refine W.run Dk 5 108 (by kernel_rfl) ?_
   have hv59 := Option.some.inj hv59
   subst hv59
   exact W.fs [(102, 100), (105, 101)] [0, 1, 6, 9, 63] (by kernel_rfl)
  refine W.is 58 hc60 (by kernel_rfl) ?_
  refine W.run Dk 2 108 (by kernel_rfl) ?_
  (revert hv59; refine bR fun r46 hx61 hv59 => ?_)
  refine W.lend (AC.gs (ml_eqIntS_ok N r16 r10 hx61) (by decide)) cok17 [] [] (LayOk.cons (j := 105) encI encI r16 (by kernel_rfl) (fun _ => rfl) (LayOk.cons (j := 102) encI encI r10 (by kernel_rfl) (fun _ => rfl) (show LayOk _ [] from trivial))) (.c _) .nil (by kernel_rfl) (by kernel_rfl) ?_
  refine W.run Dk 2 108 (by kernel_rfl) ?_
  have hv59 := Option.some.inj hv59
  subst hv59
  exact W.fs [(102, 100), (105, 101)] [0, 1, 6, 9, 63] (by kernel_rfl)
  ) ?_
 (revert h; refine cR (fun hc62 h => ?_) (fun hc62 h => ?_))
 ·refine CO.ifT hc62 (by kernel_rfl) ?_
  refine cu Dk mix 1 108 (tl 92 [(4, V.b false)]) [] (by kernel_rfl) ?_
  refine CO.ret ?_
  have h := Option.some.inj h
  subst h
  exact Ends.gen [] (.inr rfl) (RetV.one rfl (OneR.t (t := 4) (r := V.b false) (by kernel_rfl))) (by kernel_rfl) (by kernel_rfl) (by kernel_rfl)
 refine CO.ifF hc62 (by kernel_rfl) ?_
 refine CO.skip ?_
 refine cu Dk mix 1 108 (tl 92 [(0, .sl false false (a0.map (eSN false))), (1, .sl false false (a1.map (eSN false))), (6, .own 100), (9, .own 101), (11, V.i 1)]) [(100, .vec false 3 1 (r10.map encI)), (101, .vec false 3 1 (r16.map encI))] (by kernel_rfl) ?_
 (revert h; refine bR fun r48 hx64 h => ?_)
 refine CO.cutR (tl 92 [(0, .sl false false (a0.map (eSN false))), (1, .sl false false (a1.map (eSN false))), (6, .own 100), (9, .own 101), (11, V.i r48.1)]) [(100, .vec false 3 1 (r10.map encI)), (101, .vec false 3 1 (r48.2.map encI))] mix (by
  refine W.run Dk 2 108 (by kernel_rfl) ?_
  refine W.call (AC.gs (ml_markIntS_ok 3 N 1 r16 hx64) (by decide)) cok18 [(101, 0)] [(0, 101)] [] (show LayOk _ [] from trivial) (by kernel_rfl) (by kernel_rfl) ?_
  refine W.run Dk 1 108 (by kernel_rfl) ?_
  exact W.fi (by kernel_rfl)
  ) ?_
 refine cu Dk mix 1 108 (tl 92 [(0, .sl false false (a0.map (eSN false))), (1, .sl false false (a1.map (eSN false))), (6, .own 100), (9, .own 101), (11, V.i r48.1), (12, V.i 1)]) [(100, .vec false 3 1 (r10.map encI)), (101, .vec false 3 1 (r48.2.map encI))] (by kernel_rfl) ?_
 (revert h; refine bR fun r50 hx66 h => ?_)
 refine CO.cutR (tl 92 [(0, .sl false false (a0.map (eSN false))), (1, .sl false false (a1.map (eSN false))), (6, .own 100), (9, .own 101), (11, V.i r48.1), (12, V.i r50)]) [(100, .vec false 3 1 (r10.map encI)), (101, .vec false 3 1 (r48.2.map encI))] mix (by
  refine W.run Dk 2 108 (by kernel_rfl) ?_
  refine W.lend (AC.gs (ml_heldIntS_ok N r48.2 1 hx66) (by decide)) cok19 [] [] (LayOk.cons (j := 101) encI encI r48.2 (by kernel_rfl) (fun _ => rfl) (show LayOk _ [] from trivial)) (.c _) .nil (by kernel_rfl) (by kernel_rfl) ?_
  refine W.run Dk 1 108 (by kernel_rfl) ?_
  exact W.fi (by kernel_rfl)
  ) ?_
 refine CO.seq' ?_
 refine cu Dk mix 2 108 (tl 92 [(0, .sl false false (a0.map (eSN false))), (1, .sl false false (a1.map (eSN false))), (6, .own 100), (9, .own 101), (11, V.i r48.1), (12, V.i r50), (71, V.b (decide (r50 < 0)))]) [(100, .vec false 3 1 (r10.map encI)), (101, .vec false 3 1 (r48.2.map encI))] (by kernel_rfl) ?_
 (revert h; refine cR (fun hc68 h => ?_) (fun hc68 h => ?_))
 ·refine CO.ifT hc68 (by kernel_rfl) ?_
  refine cu Dk mix 1 108 (tl 92 [(4, V.b false)]) [] (by kernel_rfl) ?_
  refine CO.ret ?_
  have h := Option.some.inj h
  subst h
  exact Ends.gen [] (.inr rfl) (RetV.one rfl (OneR.t (t := 4) (r := V.b false) (by kernel_rfl))) (by kernel_rfl) (by kernel_rfl) (by kernel_rfl)
 refine CO.ifF hc68 (by kernel_rfl) ?_
 refine CO.skip ?_
 refine CO.seq' ?_
 refine cu Dk mix 3 108 (tl 92 [(0, .sl false false (a0.map (eSN false))), (1, .sl false false (a1.map (eSN false))), (6, .own 100), (9, .own 101), (11, V.i r48.1), (74, V.b (r50 != r48.1))]) [(100, .vec false 3 1 (r10.map encI)), (101, .vec false 3 1 (r48.2.map encI))] (by kernel_rfl) ?_
 (revert h; refine cR (fun hc70 h => ?_) (fun hc70 h => ?_))
 ·refine CO.ifT hc70 (by kernel_rfl) ?_
  refine cu Dk mix 1 108 (tl 92 [(4, V.b false)]) [] (by kernel_rfl) ?_
  refine CO.ret ?_
  have h := Option.some.inj h
  subst h
  exact Ends.gen [] (.inr rfl) (RetV.one rfl (OneR.t (t := 4) (r := V.b false) (by kernel_rfl))) (by kernel_rfl) (by kernel_rfl) (by kernel_rfl)
 refine CO.ifF hc70 (by kernel_rfl) ?_
 refine CO.skip ?_
 (revert h; refine bR fun r54 hx74 h => ?_)
 (revert h; refine bR fun r55 hx75 h => ?_)
 (revert h; refine bR fun r56 hx76 h => ?_)
 refine CO.cutR (tl 92 [(6, .own 100), (9, .own 101), (11, V.i r48.1), (13, .own 110)]) [(110, .vec false 3 1 (r56.map encI)), (100, .vec false 3 1 (r10.map encI)), (101, .vec false 3 1 (r48.2.map encI))] mix (by
  refine W.run Dk 1 108 (by kernel_rfl) ?_
  refine W.call (AC.gs (ml_toNodeS_ok N a0 hx74) (by decide)) cok15 [] [(100, 108)] [108] (show LayOk _ [] from trivial) (by kernel_rfl) (by kernel_rfl) ?_
  refine W.run Dk 1 109 (by kernel_rfl) ?_
  refine W.call (AC.gs (ml_toNodeS_ok N a1 hx75) (by decide)) cok15 [] [(100, 109)] [109] (show LayOk _ [] from trivial) (by kernel_rfl) (by kernel_rfl) ?_
  refine W.lend (mi_FindAll_ok N r54 r55 hx76) cok16 [(100, 110)] [110] (LayOk.cons (j := 108) (eSN true) (eSN false) r54 (by kernel_rfl) (sh_eSN _) (LayOk.cons (j := 109) (eSN true) (eSN false) r55 (by kernel_rfl) (sh_eSN _) (show LayOk _ [] from trivial))) (.own _) (.cons (DeepR.map (fun _ => (.cons (.c _) .nil)) _) .nil) (by kernel_rfl) (by kernel_rfl) ?_
  refine W.run Dk 1 111 (by kernel_rfl) ?_
  exact W.fi (by kernel_rfl)
  ) ?_
 refine CO.seq' ?_
 (revert h; refine bR fun r60 hx81 h => ?_)
 refine CO.cutR (tl 92 [(9, .own 101), (11, V.i r48.1), (83, V.b (!r60))]) [(101, .vec false 3 1 (r48.2.map encI))] mix (by
  refine W.run Dk 2 111 (by kernel_rfl) ?_
  refine W.lend (AC.gs (ml_eqIntS_ok N r56 r10 hx81) (by decide)) cok17 [] [] (LayOk.cons (j := 110) encI encI r56 (by kernel_rfl) (fun _ => rfl) (LayOk.cons (j := 100) encI encI r10 (by kernel_rfl) (fun _ => rfl) (show LayOk _ [] from trivial))) (.c _) .nil (by kernel_rfl) (by kernel_rfl) ?_
  refine W.run Dk 1 111 (by kernel_rfl) ?_
  exact W.fi (by kernel_rfl)
  ) ?_
 (revert h; refine cR (fun hc82 h => ?_) (fun hc82 h => ?_))
 ·refine CO.ifT hc82 (by kernel_rfl) ?_
  refine cu Dk mix 1 111 (tl 92 [(4, V.b false)]) [] (by kernel_rfl) ?_
  refine CO.ret ?_
  have h := Option.some.inj h
  subst h
  exact Ends.gen [] (.inr rfl) (RetV.one rfl (OneR.t (t := 4) (r := V.b false) (by kernel_rfl))) (by kernel_rfl) (by kernel_rfl) (by kernel_rfl)
 refine CO.ifF hc82 (by kernel_rfl) ?_
 refine CO.skip ?_
 refine cu Dk mix 1 111 (tl 92 [(9, .own 101), (11, V.i r48.1), (12, V.i 1)]) [(101, .vec false 3 1 (r48.2.map encI))] (by kernel_rfl) ?_
 (revert h; refine bR fun r62 hx84 h => ?_)
 refine CO.cutR (tl 92 [(11, V.i r48.1), (12, V.i r62)]) [] mix (by
  refine W.run Dk 2 111 (by kernel_rfl) ?_
  refine W.lend (AC.gs (ml_heldIntS_ok N r48.2 1 hx84) (by decide)) cok19 [] [] (LayOk.cons (j := 101) encI encI r48.2 (by kernel_rfl) (fun _ => rfl) (show LayOk _ [] from trivial)) (.c _) .nil (by kernel_rfl) (by kernel_rfl) ?_
  refine W.run Dk 1 111 (by kernel_rfl) ?_
  exact W.fi (by kernel_rfl)
  ) ?_
 refine CO.seq' ?_
 refine cu Dk mix 2 111 (tl 92 [(11, V.i r48.1), (12, V.i r62), (88, V.b (decide (r62 < 0)))]) [] (by kernel_rfl) ?_
 (revert h; refine cR (fun hc86 h => ?_) (fun hc86 h => ?_))
 ·refine CO.ifT hc86 (by kernel_rfl) ?_
  refine cu Dk mix 1 111 (tl 92 [(4, V.b false)]) [] (by kernel_rfl) ?_
  refine CO.ret ?_
  have h := Option.some.inj h
  subst h
  exact Ends.gen [] (.inr rfl) (RetV.one rfl (OneR.t (t := 4) (r := V.b false) (by kernel_rfl))) (by kernel_rfl) (by kernel_rfl) (by kernel_rfl)
 refine CO.ifF hc86 (by kernel_rfl) ?_
 refine CO.skip ?_
 refine CO.seq' ?_
 refine cu Dk mix 3 111 (tl 92 [(91, V.b (r62 != r48.1))]) [] (by kernel_rfl) ?_
 (revert h; refine cR (fun hc88 h => ?_) (fun hc88 h => ?_))
 ·refine CO.ifT hc88 (by kernel_rfl) ?_
  refine cu Dk mix 1 111 (tl 92 [(4, V.b false)]) [] (by kernel_rfl) ?_
  refine CO.ret ?_
  have h := Option.some.inj h
  subst h
  exact Ends.gen [] (.inr rfl) (RetV.one rfl (OneR.t (t := 4) (r := V.b false) (by kernel_rfl))) (by kernel_rfl) (by kernel_rfl) (by kernel_rfl)
 refine CO.ifF hc88 (by kernel_rfl) ?_
 refine CO.skip ?_
 refine cu Dk mix 1 111 (tl 92 [(4, V.b true)]) [] (by kernel_rfl) ?_
 refine CO.ret ?_
 have h := Option.some.inj h
 subst h
 exact Ends.gen [] (.inr rfl) (RetV.one rfl (OneR.t (t := 4) (r := V.b true) (by kernel_rfl))) (by kernel_rfl) (by kernel_rfl) (by kernel_rfl)

end Go.Proofs.Tryz

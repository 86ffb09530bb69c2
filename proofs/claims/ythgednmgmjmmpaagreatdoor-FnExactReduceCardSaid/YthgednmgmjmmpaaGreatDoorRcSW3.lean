/-
 The walks that show that the code computes the models, part 3.
-/
import Derived.Test.YthgednmgmjmmpaaGreatDoorRcSW2
namespace Go.Proofs.Tryz
open Go.Av
set_option maxRecDepth 100000
set_option maxHeartbeats 8000000
set_option linter.unusedSimpArgs false
set_option linter.unusedVariables false

structure RecOk1 (R : Rec1) : Prop where
 ms_l11Call : ∀ (a1 : Int) (pa : LT) (pb : Int) (pc : Bool) (p1 : LT) (r : T2), R.ms_l11Call a1 pa pb pc p1 = some r → AC0 153 [.loc 0 0, V.i a1] [(0, cP 87 pa pb pc 1), (1, vX 55 3 eTk p1)] (.agg [.own 100, V.b r.1.held]) [(0, cP 87 pa r.2.1 r.2.2.1 101), (100, .vec false 73 5 (r.1.l.map (eSN true))), (101, vX 55 3 eTk r.2.2.2)]
 ms_l11Name : ∀ (pa : LT) (pb : Int) (pc : Bool) (p1 : LT) (r : T2), R.ms_l11Name pa pb pc p1 = some r → AC0 152 [.loc 0 0] [(0, cP 87 pa pb pc 1), (1, vX 55 3 eTk p1)] (.agg [.own 100, V.b r.1.held]) [(0, cP 87 pa r.2.1 r.2.2.1 101), (100, .vec false 73 5 (r.1.l.map (eSN true))), (101, vX 55 3 eTk r.2.2.2)]
 ms_l11Primary : ∀ (pa : LT) (pb : Int) (pc : Bool) (p1 : LT) (r : T2), R.ms_l11Primary pa pb pc p1 = some r → AC0 102 [.loc 0 0] [(0, cP 87 pa pb pc 1), (1, vX 55 3 eTk p1)] (.agg [.own 100, V.b r.1.held]) [(0, cP 87 pa r.2.1 r.2.2.1 101), (100, .vec false 73 5 (r.1.l.map (eSN true))), (101, vX 55 3 eTk r.2.2.2)]
 ms_l11Field : ∀ (a1 : SPos) (pa : LT) (pb : Int) (pc : Bool) (p1 : LT) (r : T2), R.ms_l11Field a1 pa pb pc p1 = some r → AC0 101 [.loc 0 0, .agg [V.i a1.Level, V.b a1.Dollar, V.b a1.NoIn, V.b a1.NoGt, V.b a1.NoSign]] [(0, cP 87 pa pb pc 1), (1, vX 55 3 eTk p1)] (.agg [.own 100, V.b r.1.held]) [(0, cP 87 pa r.2.1 r.2.2.1 101), (100, .vec false 73 5 (r.1.l.map (eSN true))), (101, vX 55 3 eTk r.2.2.2)]
 ms_l11Incr : ∀ (a1 : SPos) (pa : LT) (pb : Int) (pc : Bool) (p1 : LT) (r : T2), R.ms_l11Incr a1 pa pb pc p1 = some r → AC0 100 [.loc 0 0, .agg [V.i a1.Level, V.b a1.Dollar, V.b a1.NoIn, V.b a1.NoGt, V.b a1.NoSign]] [(0, cP 87 pa pb pc 1), (1, vX 55 3 eTk p1)] (.agg [.own 100, V.b r.1.held]) [(0, cP 87 pa r.2.1 r.2.2.1 101), (100, .vec false 73 5 (r.1.l.map (eSN true))), (101, vX 55 3 eTk r.2.2.2)]
 ms_l11Pow : ∀ (a1 : SPos) (pa : LT) (pb : Int) (pc : Bool) (p1 : LT) (r : T2), R.ms_l11Pow a1 pa pb pc p1 = some r → AC0 99 [.loc 0 0, .agg [V.i a1.Level, V.b a1.Dollar, V.b a1.NoIn, V.b a1.NoGt, V.b a1.NoSign]] [(0, cP 87 pa pb pc 1), (1, vX 55 3 eTk p1)] (.agg [.own 100, V.b r.1.held]) [(0, cP 87 pa r.2.1 r.2.2.1 101), (100, .vec false 73 5 (r.1.l.map (eSN true))), (101, vX 55 3 eTk r.2.2.2)]
 ms_l11Unary : ∀ (a1 : SPos) (pa : LT) (pb : Int) (pc : Bool) (p1 : LT) (r : T2), R.ms_l11Unary a1 pa pb pc p1 = some r → AC0 98 [.loc 0 0, .agg [V.i a1.Level, V.b a1.Dollar, V.b a1.NoIn, V.b a1.NoGt, V.b a1.NoSign]] [(0, cP 87 pa pb pc 1), (1, vX 55 3 eTk p1)] (.agg [.own 100, V.b r.1.held]) [(0, cP 87 pa r.2.1 r.2.2.1 101), (100, .vec false 73 5 (r.1.l.map (eSN true))), (101, vX 55 3 eTk r.2.2.2)]
 ms_l11Chain : ∀ (a1 : SPos) (a2 : Int) (a3 : Int) (pa : LT) (pb : Int) (pc : Bool) (p1 : LT) (r : T2), R.ms_l11Chain a1 a2 a3 pa pb pc p1 = some r → AC0 97 [.loc 0 0, .agg [V.i a1.Level, V.b a1.Dollar, V.b a1.NoIn, V.b a1.NoGt, V.b a1.NoSign], V.i a2, V.i a3] [(0, cP 87 pa pb pc 1), (1, vX 55 3 eTk p1)] (.agg [.own 100, V.b r.1.held]) [(0, cP 87 pa r.2.1 r.2.2.1 101), (100, .vec false 73 5 (r.1.l.map (eSN true))), (101, vX 55 3 eTk r.2.2.2)]
 ms_l11List : ∀ (a1 : Int) (a2 : Int) (pa : LT) (pb : Int) (pc : Bool) (p1 : LT) (r : ((List LN) × Int × Bool × LT)), R.ms_l11List a1 a2 pa pb pc p1 = some r → AC0 146 [.loc 0 0, V.i a1, V.i a2] [(0, cP 87 pa pb pc 1), (1, vX 55 3 eTk p1)] (.own 100) [(0, cP 87 pa r.2.1 r.2.2.1 101), (100, .vec false 38 1 (r.1.map (encL false (eSN false)))), (101, vX 55 3 eTk r.2.2.2)]
 ms_l11In : ∀ (a1 : SPos) (pa : LT) (pb : Int) (pc : Bool) (p1 : LT) (r : T2), R.ms_l11In a1 pa pb pc p1 = some r → AC0 96 [.loc 0 0, .agg [V.i a1.Level, V.b a1.Dollar, V.b a1.NoIn, V.b a1.NoGt, V.b a1.NoSign]] [(0, cP 87 pa pb pc 1), (1, vX 55 3 eTk p1)] (.agg [.own 100, V.b r.1.held]) [(0, cP 87 pa r.2.1 r.2.2.1 101), (100, .vec false 73 5 (r.1.l.map (eSN true))), (101, vX 55 3 eTk r.2.2.2)]
 ms_l11Cond : ∀ (a1 : SPos) (pa : LT) (pb : Int) (pc : Bool) (p1 : LT) (r : T2), R.ms_l11Cond a1 pa pb pc p1 = some r → AC0 95 [.loc 0 0, .agg [V.i a1.Level, V.b a1.Dollar, V.b a1.NoIn, V.b a1.NoGt, V.b a1.NoSign]] [(0, cP 87 pa pb pc 1), (1, vX 55 3 eTk p1)] (.agg [.own 100, V.b r.1.held]) [(0, cP 87 pa r.2.1 r.2.2.1 101), (100, .vec false 73 5 (r.1.l.map (eSN true))), (101, vX 55 3 eTk r.2.2.2)]
 ms_l11Assign : ∀ (a1 : SPos) (pa : LT) (pb : Int) (pc : Bool) (p1 : LT) (r : T2), R.ms_l11Assign a1 pa pb pc p1 = some r → AC0 94 [.loc 0 0, .agg [V.i a1.Level, V.b a1.Dollar, V.b a1.NoIn, V.b a1.NoGt, V.b a1.NoSign]] [(0, cP 87 pa pb pc 1), (1, vX 55 3 eTk p1)] (.agg [.own 100, V.b r.1.held]) [(0, cP 87 pa r.2.1 r.2.2.1 101), (100, .vec false 73 5 (r.1.l.map (eSN true))), (101, vX 55 3 eTk r.2.2.2)]
 ms_l11At : ∀ (a1 : SPos) (pa : LT) (pb : Int) (pc : Bool) (p1 : LT) (r : T2), R.ms_l11At a1 pa pb pc p1 = some r → AC0 65 [.loc 0 0, .agg [V.i a1.Level, V.b a1.Dollar, V.b a1.NoIn, V.b a1.NoGt, V.b a1.NoSign]] [(0, cP 87 pa pb pc 1), (1, vX 55 3 eTk p1)] (.agg [.own 100, V.b r.1.held]) [(0, cP 87 pa r.2.1 r.2.2.1 101), (100, .vec false 73 5 (r.1.l.map (eSN true))), (101, vX 55 3 eTk r.2.2.2)]
 ms_l11Pre : ∀ (a1 : SPos) (pa : LT) (pb : Int) (pc : Bool) (p1 : LT) (r : T2), R.ms_l11Pre a1 pa pb pc p1 = some r → AC0 64 [.loc 0 0, .agg [V.i a1.Level, V.b a1.Dollar, V.b a1.NoIn, V.b a1.NoGt, V.b a1.NoSign]] [(0, cP 87 pa pb pc 1), (1, vX 55 3 eTk p1)] (.agg [.own 100, V.b r.1.held]) [(0, cP 87 pa r.2.1 r.2.2.1 101), (100, .vec false 73 5 (r.1.l.map (eSN true))), (101, vX 55 3 eTk r.2.2.2)]

theorem ms_l11Call_F_ok (N : Nat) (R : Rec1) (HR : RecOk1 R) (a1 : Int) (pa : LT) (pb : Int) (pc : Bool) (p1 : LT) {r : T2} (h : ms_l11Call_F N R a1 pa pb pc p1 = some r) :
    AC0 153 [.loc 0 0, V.i a1] [(0, cP 87 pa pb pc 1), (1, vX 55 3 eTk p1)] (.agg [.own 100, V.b r.1.held]) [(0, cP 87 pa r.2.1 r.2.2.1 101), (100, .vec false 73 5 (r.1.l.map (eSN true))), (101, vX 55 3 eTk r.2.2.2)] := by
 rw [ms_l11Call_F] at h
 refine AC.enter Tryz.func153 rfl (cV 100 (bB h fun r3 hx3 h => (bB h fun r4 hx4 h => (CO.sw mix (wR 2 101 (W.call (ms_l11Kind_ok pa pb pc p1 hx3) cok63 [(0, 0), (1, 1)] [(0, 0), (1, 1)] [] lO (by kernel_rfl) (by kernel_rfl) (W.call (ms_l11Take_ok r3 pa pb pc p1 hx4) cok91 [(0, 0), (1, 1)] [(0, 0), (1, 1)] [] lO (by kernel_rfl) (by kernel_rfl) (wR 2 101 ?_))))))))
 refine wF (CO.seq' (bB h fun y9 hv16 h => ?_))
 refine CO.cutR (tl 38 [(0, .loc 0 0), (1, V.i a1), (4, .loc 100 0), (5, .loc 101 0), (21, V.b y9)]) [(0, cP 87 pa r4.2.1 r4.2.2 1), (100, .cells 89 [.c (.slice none 0 0), V.b false]), (101, .cells 55 [V.i r4.1.Kind, V.s r4.1.Text, V.i r4.1.At]), (1, vX 55 3 eTk p1)] mix (by
  refine wR 3 102 ?_
  refine wJ 12 hv16 (fun hv16 => ?_) (fun hv16 => ?_)
  ·refine wR 1 102 (bB hv16 fun r10 hx18 hv16 => (W.call (ms_l11Kind_ok pa r4.2.1 r4.2.2 p1 hx18) cok63 [(0, 0), (1, 1)] [(0, 0), (1, 1)] [] lO (by kernel_rfl) (by kernel_rfl) (wR 3 102 ?_)))
   refine wJ 17 hv16 (fun hv16 => ?_) (fun hv16 => ?_)
   ·refine wR 4 102 ?_
    cases hv16
    exact fS [(0, 0), (100, 100), (101, 101), (1, 1)] [0, 1, 4, 5, 21]
   refine wR 4 102 ?_
   cases hv16
   exact fS [(0, 0), (100, 100), (101, 101), (1, 1)] [0, 1, 4, 5, 21]
  refine wR 9 102 ?_
  cases hv16
  exact fS [(0, 0), (100, 100), (101, 101), (1, 1)] [0, 1, 4, 5, 21]
  ) ?_
 refine cI h (fun _ h => ?_) (fun _ h => ?_)
 ·refine cV 102 (CO.ret ?_)
  cases h
  exact eG [(0, 0), (102, 100), (1, 101)] (.inr rfl) (RetV.one rfl (OneR.cell Dk (r := .agg [.own 102, V.b false]) (i := 100) (ety := 89) (cs := [.own 102, V.b false]) (by kernel_rfl) (by kernel_rfl) (by kernel_rfl)))
 refine CO.skip (bB h fun r12 hx22 h => (CO.sw mix (wR 1 102 (W.call (ms_l11Take_ok 32 pa r4.2.1 r4.2.2 p1 hx22) cok91 [(0, 0), (1, 1)] [(0, 0), (1, 1)] [] lO (by kernel_rfl) (by kernel_rfl) (wF (bB h fun r15 hx25 h => (bB h fun r16 hx26 h => (CO.sw mix ?_))))))))
 refine wR 5 102 (W.call (HR.ms_l11List 33 0 pa r12.2.1 r12.2.2 p1 _ hx25) cok146 [(0, 0), (1, 1)] [(0, 0), (100, 102), (101, 103)] [102, 103] lO (by kernel_rfl) (by kernel_rfl) (W.lend (ms_l6Make_ok N (⟨a1, 0, r4.1.Text, [], []⟩ : SNode) r15.1 hx26) cok142 [(100, 104)] [104] (LayOk.cons (j := 102) (encL false (eSN false)) (encL false (eSN false)) r15.1 (by kernel_rfl) (share_encL _ (sh_eSN _)) lO) (.own _) (.cons (DeepR.map (fun _ => (.cons (.c _) (.cons (.c _) (.cons (.c _) (.cons (.c _) (.cons (.sl _ _ (DeepR.map (fun _ => (.cons (.c _) .nil)) _)) .nil)))))) _) .nil) (by kernel_rfl) (by kernel_rfl) (wR 2 105 (wF (CO.ret ?_)))))
 cases h
 exact eG [(0, 0), (104, 100), (103, 101)] (.inr rfl) (RetV.one rfl (OneR.cell Dk (r := .agg [.own 104, V.b false]) (i := 100) (ety := 89) (cs := [.own 104, V.b false]) (by kernel_rfl) (by kernel_rfl) (by kernel_rfl)))

theorem ms_l11Name_F_ok (N : Nat) (R : Rec1) (HR : RecOk1 R) (pa : LT) (pb : Int) (pc : Bool) (p1 : LT) {r : T2} (h : ms_l11Name_F N R pa pb pc p1 = some r) :
    AC0 152 [.loc 0 0] [(0, cP 87 pa pb pc 1), (1, vX 55 3 eTk p1)] (.agg [.own 100, V.b r.1.held]) [(0, cP 87 pa r.2.1 r.2.2.1 101), (100, .vec false 73 5 (r.1.l.map (eSN true))), (101, vX 55 3 eTk r.2.2.2)] := by
 rw [ms_l11Name_F] at h
 refine AC.enter Tryz.func152 rfl (cV 100 (bB h fun r2 hx2 h => (CO.sw mix (wR 1 101 (W.call (ms_l11Take_ok 6 pa pb pc p1 hx2) cok91 [(0, 0), (1, 1)] [(0, 0), (1, 1)] [] lO (by kernel_rfl) (by kernel_rfl) (wR 2 101 (wF (CO.seq' ?_))))))))
 refine bB h fun r6 hx7 h => (CO.sw mix (wR 1 102 (W.call (ms_l11Kind_ok pa r2.2.1 r2.2.2 p1 hx7) cok63 [(0, 0), (1, 1)] [(0, 0), (1, 1)] [] lO (by kernel_rfl) (by kernel_rfl) (wR 1 102 (wF ?_)))))
 refine cI h (fun _ h => ?_) (fun _ h => ?_)
 ·refine cV 102 (CO.ret ?_)
  cases h
  exact eG [(0, 0), (102, 100), (1, 101)] (.inr rfl) (RetV.one rfl (OneR.cell Dk (r := .agg [.own 102, V.b false]) (i := 100) (ety := 89) (cs := [.own 102, V.b false]) (by kernel_rfl) (by kernel_rfl) (by kernel_rfl)))
 refine CO.skip (bB h fun r8 hx10 h => (CO.sw mix (wR 1 102 (W.call (ms_l11Take_ok 34 pa r2.2.1 r2.2.2 p1 hx10) cok91 [(0, 0), (1, 1)] [(0, 0), (1, 1)] [] lO (by kernel_rfl) (by kernel_rfl) (wF (bB h fun r11 hx13 h => (bB h fun r12 hx14 h => (CO.sw mix ?_))))))))
 refine wR 4 102 (W.call (HR.ms_l11List 35 1 pa r8.2.1 r8.2.2 p1 _ hx13) cok146 [(0, 0), (1, 1)] [(0, 0), (100, 102), (101, 103)] [102, 103] lO (by kernel_rfl) (by kernel_rfl) (W.lend (ms_l6Make_ok N (⟨5, 0, r2.1.Text, [], []⟩ : SNode) r11.1 hx14) cok142 [(100, 104)] [104] (LayOk.cons (j := 102) (encL false (eSN false)) (encL false (eSN false)) r11.1 (by kernel_rfl) (share_encL _ (sh_eSN _)) lO) (.own _) (.cons (DeepR.map (fun _ => (.cons (.c _) (.cons (.c _) (.cons (.c _) (.cons (.c _) (.cons (.sl _ _ (DeepR.map (fun _ => (.cons (.c _) .nil)) _)) .nil)))))) _) .nil) (by kernel_rfl) (by kernel_rfl) (wR 2 105 (wF (CO.ret ?_)))))
 cases h
 exact eG [(0, 0), (104, 100), (103, 101)] (.inr rfl) (RetV.one rfl (OneR.cell Dk (r := .agg [.own 104, V.b false]) (i := 100) (ety := 89) (cs := [.own 104, V.b false]) (by kernel_rfl) (by kernel_rfl) (by kernel_rfl)))

theorem ms_l11Primary_F_ok (N : Nat) (R : Rec1) (HR : RecOk1 R) (pa : LT) (pb : Int) (pc : Bool) (p1 : LT) {r : T2} (h : ms_l11Primary_F N R pa pb pc p1 = some r) :
    AC0 102 [.loc 0 0] [(0, cP 87 pa pb pc 1), (1, vX 55 3 eTk p1)] (.agg [.own 100, V.b r.1.held]) [(0, cP 87 pa r.2.1 r.2.2.1 101), (100, .vec false 73 5 (r.1.l.map (eSN true))), (101, vX 55 3 eTk r.2.2.2)] := by
 rw [ms_l11Primary_F] at h
 refine AC.enter Tryz.func102 rfl (cV 100 (CO.seq' (cV 101 ?_)))
 refine cI h (fun _ h => ?_) (fun _ h => ?_)
 ·refine cV 101 (CO.weak (Weak.nilCell 100 0 101 73 5 (ety := 89) (cs := [.c (.slice none 0 0), V.b false]) (by kernel_rfl) (by kernel_rfl) (by kernel_rfl)) (CO.ret ?_))
  cases h
  exact eG [(0, 0), (101, 100), (1, 101)] (.inr rfl) (RetV.one rfl (OneR.cell Dk (r := .agg [.own 101, V.b false]) (i := 100) (ety := 89) (cs := [.own 101, V.b false]) (by kernel_rfl) (by kernel_rfl) (by kernel_rfl)))
 refine CO.skip (CO.seq' (bB h fun r16 hx24 h => (CO.sw mix (wR 1 101 (W.call (ms_l11Kind_ok pa pb pc p1 hx24) cok63 [(0, 0), (1, 1)] [(0, 0), (1, 1)] [] lO (by kernel_rfl) (by kernel_rfl) (wF (CO.block' (cV 101 ?_))))))))
 refine cI h (fun _ h => ?_) (fun _ h => ?_)
 ·refine bB h fun r18 hx27 h => (CO.sw mix (wR 1 101 (W.call (ms_l11Leaf_ok 2 pa pb pc p1 hx27) cok151 [(0, 0), (1, 1)] [(0, 0), (1, 1), (100, 101)] [101] lO (by kernel_rfl) (by kernel_rfl) (wR 1 102 (wF (CO.ret ?_))))))
  have h := sI h
  subst h
  exact eG [(0, 0), (101, 100), (1, 101)] (.inr rfl) (RetV.one rfl (OneR.cell Dk (r := .agg [.own 101, V.b r18.1.held]) (i := 100) (ety := 89) (cs := [.own 101, V.b r18.1.held]) (by kernel_rfl) (by kernel_rfl) (by kernel_rfl)))
 refine cV 101 ?_
 refine cI h (fun _ h => ?_) (fun _ h => ?_)
 ·refine bB h fun r20 hx30 h => (CO.sw mix (wR 1 101 (W.call (ms_l11Leaf_ok 3 pa pb pc p1 hx30) cok151 [(0, 0), (1, 1)] [(0, 0), (1, 1), (100, 101)] [101] lO (by kernel_rfl) (by kernel_rfl) (wR 1 102 (wF (CO.ret ?_))))))
  have h := sI h
  subst h
  exact eG [(0, 0), (101, 100), (1, 101)] (.inr rfl) (RetV.one rfl (OneR.cell Dk (r := .agg [.own 101, V.b r20.1.held]) (i := 100) (ety := 89) (cs := [.own 101, V.b r20.1.held]) (by kernel_rfl) (by kernel_rfl) (by kernel_rfl)))
 refine cV 101 ?_
 refine cI h (fun _ h => ?_) (fun _ h => ?_)
 ·refine bB h fun r22 hx33 h => (CO.sw mix (wR 1 101 (W.call (ms_l11Leaf_ok 4 pa pb pc p1 hx33) cok151 [(0, 0), (1, 1)] [(0, 0), (1, 1), (100, 101)] [101] lO (by kernel_rfl) (by kernel_rfl) (wR 1 102 (wF (CO.ret ?_))))))
  have h := sI h
  subst h
  exact eG [(0, 0), (101, 100), (1, 101)] (.inr rfl) (RetV.one rfl (OneR.cell Dk (r := .agg [.own 101, V.b r22.1.held]) (i := 100) (ety := 89) (cs := [.own 101, V.b r22.1.held]) (by kernel_rfl) (by kernel_rfl) (by kernel_rfl)))
 refine cV 101 ?_
 refine cI h (fun _ h => ?_) (fun _ h => ?_)
 ·refine bB h fun r24 hx36 h => (CO.sw mix (wR 1 101 (W.call (HR.ms_l11Name pa pb pc p1 _ hx36) cok152 [(0, 0), (1, 1)] [(0, 0), (100, 101), (101, 102)] [101, 102] lO (by kernel_rfl) (by kernel_rfl) (wR 1 103 (wF (CO.ret ?_))))))
  have h := sI h
  subst h
  exact eG [(0, 0), (101, 100), (102, 101)] (.inr rfl) (RetV.one rfl (OneR.cell Dk (r := .agg [.own 101, V.b r24.1.held]) (i := 100) (ety := 89) (cs := [.own 101, V.b r24.1.held]) (by kernel_rfl) (by kernel_rfl) (by kernel_rfl)))
 refine cV 101 ?_
 refine cI h (fun _ h => ?_) (fun _ h => ?_)
 ·refine bB h fun r26 hx39 h => (CO.sw mix (wR 1 101 (W.call (HR.ms_l11Call 7 pa pb pc p1 _ hx39) cok153 [(0, 0), (1, 1)] [(0, 0), (100, 101), (101, 102)] [101, 102] lO (by kernel_rfl) (by kernel_rfl) (wR 1 103 (wF (CO.ret ?_))))))
  have h := sI h
  subst h
  exact eG [(0, 0), (101, 100), (102, 101)] (.inr rfl) (RetV.one rfl (OneR.cell Dk (r := .agg [.own 101, V.b r26.1.held]) (i := 100) (ety := 89) (cs := [.own 101, V.b r26.1.held]) (by kernel_rfl) (by kernel_rfl) (by kernel_rfl)))
 refine cV 101 ?_
 refine cI h (fun _ h => ?_) (fun _ h => ?_)
 ·refine bB h fun r28 hx42 h => (CO.sw mix (wR 1 101 (W.call (HR.ms_l11Call 8 pa pb pc p1 _ hx42) cok153 [(0, 0), (1, 1)] [(0, 0), (100, 101), (101, 102)] [101, 102] lO (by kernel_rfl) (by kernel_rfl) (wR 1 103 (wF (CO.ret ?_))))))
  have h := sI h
  subst h
  exact eG [(0, 0), (101, 100), (102, 101)] (.inr rfl) (RetV.one rfl (OneR.cell Dk (r := .agg [.own 101, V.b r28.1.held]) (i := 100) (ety := 89) (cs := [.own 101, V.b r28.1.held]) (by kernel_rfl) (by kernel_rfl) (by kernel_rfl)))
 refine CO.skip (bB h fun r30 hx44 h => (CO.sw mix (wR 1 101 (W.call (ms_l11Take_ok 32 pa pb pc p1 hx44) cok91 [(0, 0), (1, 1)] [(0, 0), (1, 1)] [] lO (by kernel_rfl) (by kernel_rfl) (wF (bB h fun r33 hx47 h => (bB h fun r34 hx48 h => (CO.sw mix ?_))))))))
 refine wR 1 101 (W.call0 (ms_Top_ok  hx47) cok41 rfl (by kernel_rfl) (W.call (HR.ms_l11At r33 pa r30.2.1 r30.2.2 p1 _ hx48) cok65 [(0, 0), (1, 1)] [(0, 0), (100, 101), (101, 102)] [101, 102] lO (by kernel_rfl) (by kernel_rfl) (wR 2 103 (wF (bB h fun r36 hx50 h => (CO.sw mix (wR 1 104 (W.call (ms_l11Take_ok 33 pa r34.2.1 r34.2.2.1 r34.2.2.2 hx50) cok91 [(0, 0), (102, 1)] [(0, 0), (1, 102)] [] lO (by kernel_rfl) (by kernel_rfl) ?_))))))))
 refine wF (cV 104 (cV 104 (CO.ret ?_)))
 cases h
 exact eG [(0, 0), (101, 100), (102, 101)] (.inr rfl) (RetV.one rfl (OneR.cell Dk (r := .agg [.own 101, V.b true]) (i := 100) (ety := 89) (cs := [.own 101, V.b true]) (by kernel_rfl) (by kernel_rfl) (by kernel_rfl)))

theorem ms_l11Field_F_ok (N : Nat) (R : Rec1) (HR : RecOk1 R) (a1 : SPos) (pa : LT) (pb : Int) (pc : Bool) (p1 : LT) {r : T2} (h : ms_l11Field_F N R a1 pa pb pc p1 = some r) :
    AC0 101 [.loc 0 0, .agg [V.i a1.Level, V.b a1.Dollar, V.b a1.NoIn, V.b a1.NoGt, V.b a1.NoSign]] [(0, cP 87 pa pb pc 1), (1, vX 55 3 eTk p1)] (.agg [.own 100, V.b r.1.held]) [(0, cP 87 pa r.2.1 r.2.2.1 101), (100, .vec false 73 5 (r.1.l.map (eSN true))), (101, vX 55 3 eTk r.2.2.2)] := by
 rw [ms_l11Field_F] at h
 refine AC.enter Tryz.func101 rfl (cV 100 (CO.seq' (bB h fun r6 hx7 h => (CO.sw mix (wR 1 102 (W.call (ms_l11Kind_ok pa pb pc p1 hx7) cok63 [(0, 0), (1, 1)] [(0, 0), (1, 1)] [] lO (by kernel_rfl) (by kernel_rfl) (wR 1 102 (wF ?_))))))))
 refine cI h (fun _ h => ?_) (fun _ h => ?_)
 ·refine bB h fun r8 hx10 h => (CO.sw mix (wR 1 102 (W.call (HR.ms_l11Primary pa pb pc p1 _ hx10) cok102 [(0, 0), (1, 1)] [(0, 0), (100, 102), (101, 103)] [102, 103] lO (by kernel_rfl) (by kernel_rfl) (wR 1 104 (wF (CO.ret ?_))))))
  have h := sI h
  subst h
  exact eG [(0, 0), (102, 100), (103, 101)] (.inr rfl) (RetV.one rfl (OneR.cell Dk (r := .agg [.own 102, V.b r8.1.held]) (i := 101) (ety := 89) (cs := [.own 102, V.b r8.1.held]) (by kernel_rfl) (by kernel_rfl) (by kernel_rfl)))
 refine CO.skip (bB h fun r10 hx12 h => (CO.sw mix (wR 1 102 (W.call (ms_l11Take_ok 68 pa pb pc p1 hx12) cok91 [(0, 0), (1, 1)] [(0, 0), (1, 1)] [] lO (by kernel_rfl) (by kernel_rfl) (wF (cV 102 ?_))))))
 refine CO.join (fun (⟨y21, y22, y23, y24, y25⟩ : (Bool × Int × Bool × LN × LT)) => ⟨tl 29 [(4, .loc 100 0), (5, .loc 101 0)], [(100, .cells 89 [.c (.slice none 0 0), V.b false]), (101, .cells 89 [.own 102, V.b y21]), (0, cP 87 pa y22 y23 103), (102, .vec false 73 5 (y24.map (eSN true))), (103, vX 55 3 eTk y25)]⟩) (fun i => ms_l11Field_k1 N R pa i = some r) ?_ ?_
 · rintro ⟨y21, y22, y23, y24, y25⟩ h24
   rw [ms_l11Field_k1] at h24
   refine bB h24 fun r27 hx26 h24 => (CO.sw mix (wR 3 105 (W.layop Dk (LayOk.cons (j := 102) (eSN true) (eSN false) y24 (by kernel_rfl) (sh_eSN _) lO) (by kernel_rfl) 105 { v := .own 105, R := [], new := [(105, .vec true 38 1 [[.sl false false (y24.map (eSN false))]])], N := [105] } (by kernel_rfl) (W.vecEq 105 (nn := true) (e := 38) (k := 1) (rows := [[.sl false false (y24.map (eSN false))]]) (rows' := [y24].map (encL false (eSN false))) (by kernel_rfl) (by kernel_rfl) (W.lend (ms_l11Over_ok N (⟨6, 0, [], [], []⟩ : SNode) [y24] hx26) cok93 [(100, 106)] [106] (LayOk.cons (j := 105) (encL false (eSN false)) (encL false (eSN false)) ([y24] : List LN) (by kernel_rfl) (share_encL _ (sh_eSN _)) lO) (.agg _ (.cons (.own _) (.cons (.c _) .nil))) (.cons (DeepR.map (fun _ => (.cons (.c _) (.cons (.c _) (.cons (.c _) (.cons (.c _) (.cons (.sl _ _ (DeepR.map (fun _ => (.cons (.c _) .nil)) _)) .nil)))))) _) .nil) (by kernel_rfl) (by kernel_rfl) (wR 1 107 (wF (CO.ret ?_))))))))
   have h24 := sI h24
   subst h24
   exact eG [(0, 0), (106, 100), (103, 101)] (.inr rfl) (RetV.one rfl (OneR.cell Dk (r := .agg [.own 106, V.b r27.held]) (i := 100) (ety := 89) (cs := [.own 106, V.b r27.held]) (by kernel_rfl) (by kernel_rfl) (by kernel_rfl)))
 intro hk27
 refine bB h fun r30 hx30 h => (bB h fun r31 hx31 h => (CO.sw mix (wR 1 103 (W.call (ms_l11Kind_ok pa r10.2.1 r10.2.2 p1 hx30) cok63 [(0, 0), (1, 1)] [(0, 0), (1, 1)] [] lO (by kernel_rfl) (by kernel_rfl) (W.call0 (ms_l11Signs_ok r30 hx31) cok62 rfl (by kernel_rfl) (wF ?_))))))
 refine cI h (fun _ h => ?_) (fun _ h => ?_)
 ·refine bB h fun r33 hx34 h => (CO.w mix (wR 2 103 (W.call (HR.ms_l11Pre a1 pa r10.2.1 r10.2.2 p1 _ hx34) cok64 [(0, 0), (1, 1)] [(0, 0), (100, 103), (101, 104)] [103, 104] lO (by kernel_rfl) (by kernel_rfl) (wR 1 105 ?_))))
  exact wK hk27 (r33.1.held, r33.2.1, r33.2.2.1, r33.1.l, r33.2.2.2) h [(101, 100), (102, 101), (0, 0), (103, 102), (104, 103)] [4, 5]
 refine bB h fun r36 hx37 h => (bB h fun r37 hx38 h => (CO.w mix (wR 2 103 (W.call0 (ms_l11Part_ok a1 14 hx37) cok92 rfl (by kernel_rfl) (W.call (HR.ms_l11At r36 pa r10.2.1 r10.2.2 p1 _ hx38) cok65 [(0, 0), (1, 1)] [(0, 0), (100, 103), (101, 104)] [103, 104] lO (by kernel_rfl) (by kernel_rfl) (wR 1 105 ?_))))))
 exact wK hk27 (r37.1.held, r37.2.1, r37.2.2.1, r37.1.l, r37.2.2.2) h [(101, 100), (102, 101), (0, 0), (103, 102), (104, 103)] [4, 5]

theorem ms_l11Incr_F_ok (N : Nat) (R : Rec1) (HR : RecOk1 R) (a1 : SPos) (pa : LT) (pb : Int) (pc : Bool) (p1 : LT) {r : T2} (h : ms_l11Incr_F N R a1 pa pb pc p1 = some r) :
    AC0 100 [.loc 0 0, .agg [V.i a1.Level, V.b a1.Dollar, V.b a1.NoIn, V.b a1.NoGt, V.b a1.NoSign]] [(0, cP 87 pa pb pc 1), (1, vX 55 3 eTk p1)] (.agg [.own 100, V.b r.1.held]) [(0, cP 87 pa r.2.1 r.2.2.1 101), (100, .vec false 73 5 (r.1.l.map (eSN true))), (101, vX 55 3 eTk r.2.2.2)] := by
 rw [ms_l11Incr_F] at h
 refine AC.enter Tryz.func100 rfl (cV 100 (CO.seq' (bB h fun r9 hx10 h => (bB h fun r10 hx11 h => (CO.sw mix (wR 1 102 (W.call (ms_l11Kind_ok pa pb pc p1 hx10) cok63 [(0, 0), (1, 1)] [(0, 0), (1, 1)] [] lO (by kernel_rfl) (by kernel_rfl) (W.call0 (ms_l11Signs_ok r9 hx11) cok62 rfl (by kernel_rfl) ?_))))))))
 refine wF ?_
 refine cI h (fun _ h => ?_) (fun _ h => ?_)
 ·refine bB h fun r12 hx14 h => (CO.sw mix (wR 2 102 (W.call (HR.ms_l11Pre a1 pa pb pc p1 _ hx14) cok64 [(0, 0), (1, 1)] [(0, 0), (100, 102), (101, 103)] [102, 103] lO (by kernel_rfl) (by kernel_rfl) (wR 1 104 (wF (CO.ret ?_))))))
  have h := sI h
  subst h
  exact eG [(0, 0), (102, 100), (103, 101)] (.inr rfl) (RetV.one rfl (OneR.cell Dk (r := .agg [.own 102, V.b r12.1.held]) (i := 101) (ety := 89) (cs := [.own 102, V.b r12.1.held]) (by kernel_rfl) (by kernel_rfl) (by kernel_rfl)))
 refine CO.skip (bB h fun r15 hx17 h => (bB h fun r16 hx18 h => (CO.sw mix (wR 2 102 (W.call0 (ms_l11Part_ok a1 14 hx17) cok92 rfl (by kernel_rfl) (W.call (HR.ms_l11At r15 pa pb pc p1 _ hx18) cok65 [(0, 0), (1, 1)] [(0, 0), (100, 102), (101, 103)] [102, 103] lO (by kernel_rfl) (by kernel_rfl) (wR 2 104 (wF ?_))))))))
 refine bB h fun r18 hx20 h => (CO.sw mix (wR 1 105 (W.call (ms_l11Kind_ok pa r16.2.1 r16.2.2.1 r16.2.2.2 hx20) cok63 [(0, 0), (103, 1)] [(0, 0), (1, 103)] [] lO (by kernel_rfl) (by kernel_rfl) (wR 1 105 (wF (CO.seq' (bB h fun y26 hv35 h => ?_)))))))
 refine CO.cutR (tl 43 [(0, .loc 0 0), (4, .loc 100 0), (5, .loc 101 0), (6, V.i r18), (32, V.b y26)]) [(0, cP 87 pa r16.2.1 r16.2.2.1 102), (100, .cells 89 [.c (.slice none 0 0), V.b false]), (101, .cells 89 [.own 103, V.b r16.1.held]), (102, vX 55 3 eTk r16.2.2.2), (103, .vec false 73 5 (r16.1.l.map (eSN true)))] mix (by
  refine wR 5 105 ?_
  refine wJ 23 hv35 (fun hv35 => ?_) (fun hv35 => ?_)
  ·refine wR 9 105 ?_
   cases hv35
   exact fS [(0, 0), (101, 100), (104, 101), (103, 102), (102, 103)] [0, 4, 5, 6, 32]
  refine wR 1 105 (bB hv35 fun r27 hx37 hv35 => (W.call0 (ms_l11Signs_ok r18 hx37) cok62 rfl (by kernel_rfl) (wR 3 105 ?_)))
  refine wJ 28 hv35 (fun hv35 => ?_) (fun hv35 => ?_)
  ·refine wR 4 105 ?_
   cases hv35
   exact fS [(0, 0), (101, 100), (104, 101), (103, 102), (102, 103)] [0, 4, 5, 6, 32]
  refine wR 1 105 (bB hv35 fun r28 hx39 hv35 => (W.lend (ms_l11Put_ok r16.1 hx39) cok143 [] [] (LayOk.cons (j := 102) (eSN true) (eSN false) r16.1.l (by kernel_rfl) (sh_eSN _) lO) (.c _) .nil (by kernel_rfl) (by kernel_rfl) (wR 2 105 ?_)))
  cases hv35
  exact fS [(0, 0), (101, 100), (104, 101), (103, 102), (102, 103)] [0, 4, 5, 6, 32]
  ) ?_
 refine cI h (fun _ h => ?_) (fun _ h => ?_)
 ·refine cV 105 (CO.ret ?_)
  have h := sI h
  subst h
  exact eG [(0, 0), (103, 100), (102, 101)] (.inr rfl) (RetV.one rfl (OneR.cell Dk (r := .agg [.own 103, V.b r16.1.held]) (i := 100) (ety := 89) (cs := [.own 103, V.b r16.1.held]) (by kernel_rfl) (by kernel_rfl) (by kernel_rfl)))
 refine CO.skip (bB h fun r30 hx42 h => (CO.sw mix (wR 2 105 (W.call (ms_l11Take_ok r18 pa r16.2.1 r16.2.2.1 r16.2.2.2 hx42) cok91 [(0, 0), (102, 1)] [(0, 0), (1, 102)] [] lO (by kernel_rfl) (by kernel_rfl) (wF (bB h fun r32 hx44 h => (CO.sw mix (wR 4 105 ?_))))))))
 refine W.layop Dk (LayOk.cons (j := 103) (eSN true) (eSN false) r16.1.l (by kernel_rfl) (sh_eSN _) lO) (by kernel_rfl) 105 { v := .own 105, R := [], new := [(105, .vec true 38 1 [[.sl false false (r16.1.l.map (eSN false))]])], N := [105] } (by kernel_rfl) (W.vecEq 105 (nn := true) (e := 38) (k := 1) (rows := [[.sl false false (r16.1.l.map (eSN false))]]) (rows' := [r16.1.l].map (encL false (eSN false))) (by kernel_rfl) (by kernel_rfl) (W.lend (ms_l11Over_ok N (⟨10, r18, [], [], []⟩ : SNode) [r16.1.l] hx44) cok93 [(100, 106)] [106] (LayOk.cons (j := 105) (encL false (eSN false)) (encL false (eSN false)) ([r16.1.l] : List LN) (by kernel_rfl) (share_encL _ (sh_eSN _)) lO) (.agg _ (.cons (.own _) (.cons (.c _) .nil))) (.cons (DeepR.map (fun _ => (.cons (.c _) (.cons (.c _) (.cons (.c _) (.cons (.c _) (.cons (.sl _ _ (DeepR.map (fun _ => (.cons (.c _) .nil)) _)) .nil)))))) _) .nil) (by kernel_rfl) (by kernel_rfl) (wR 1 107 (wF (CO.ret ?_)))))
 have h := sI h
 subst h
 exact eG [(0, 0), (106, 100), (102, 101)] (.inr rfl) (RetV.one rfl (OneR.cell Dk (r := .agg [.own 106, V.b r32.held]) (i := 100) (ety := 89) (cs := [.own 106, V.b r32.held]) (by kernel_rfl) (by kernel_rfl) (by kernel_rfl)))

theorem ms_l11Pow_F_ok (N : Nat) (R : Rec1) (HR : RecOk1 R) (a1 : SPos) (pa : LT) (pb : Int) (pc : Bool) (p1 : LT) {r : T2} (h : ms_l11Pow_F N R a1 pa pb pc p1 = some r) :
    AC0 99 [.loc 0 0, .agg [V.i a1.Level, V.b a1.Dollar, V.b a1.NoIn, V.b a1.NoGt, V.b a1.NoSign]] [(0, cP 87 pa pb pc 1), (1, vX 55 3 eTk p1)] (.agg [.own 100, V.b r.1.held]) [(0, cP 87 pa r.2.1 r.2.2.1 101), (100, .vec false 73 5 (r.1.l.map (eSN true))), (101, vX 55 3 eTk r.2.2.2)] := by
 rw [ms_l11Pow_F] at h
 refine AC.enter Tryz.func99 rfl (cV 100 (bB h fun r3 hx3 h => (bB h fun r4 hx4 h => (CO.sw mix (wR 2 102 (W.call0 (ms_l11Part_ok a1 13 hx3) cok92 rfl (by kernel_rfl) (W.call (HR.ms_l11At r3 pa pb pc p1 _ hx4) cok65 [(0, 0), (1, 1)] [(0, 0), (100, 102), (101, 103)] [102, 103] lO (by kernel_rfl) (by kernel_rfl) (wR 2 104 ?_))))))))
 refine wF (CO.seq' (bB h fun y9 hv13 h => ?_))
 refine CO.cutR (tl 34 [(0, .loc 0 0), (3, .loc 100 0), (4, .loc 101 0), (5, .loc 102 0), (19, V.b y9)]) [(0, cP 87 pa r4.2.1 r4.2.2.1 103), (100, .cells 30 [V.i a1.Level, V.b a1.Dollar, V.b a1.NoIn, V.b a1.NoGt, V.b a1.NoSign]), (101, .cells 89 [.c (.slice none 0 0), V.b false]), (102, .cells 89 [.own 104, V.b r4.1.held]), (103, vX 55 3 eTk r4.2.2.2), (104, .vec false 73 5 (r4.1.l.map (eSN true)))] mix (by
  refine wR 5 105 ?_
  refine wJ 15 hv13 (fun hv13 => ?_) (fun hv13 => ?_)
  ·refine wR 4 105 ?_
   cases hv13
   exact fS [(0, 0), (100, 100), (101, 101), (104, 102), (103, 103), (102, 104)] [0, 3, 4, 5, 19]
  refine wR 1 105 (bB hv13 fun r10 hx15 hv13 => (W.call (ms_l11Kind_ok pa r4.2.1 r4.2.2.1 r4.2.2.2 hx15) cok63 [(0, 0), (103, 1)] [(0, 0), (1, 103)] [] lO (by kernel_rfl) (by kernel_rfl) (wR 2 105 ?_)))
  cases hv13
  exact fS [(0, 0), (100, 100), (101, 101), (104, 102), (103, 103), (102, 104)] [0, 3, 4, 5, 19]
  ) ?_
 refine cI h (fun _ h => ?_) (fun _ h => ?_)
 ·refine cV 105 (CO.ret ?_)
  have h := sI h
  subst h
  exact eG [(0, 0), (104, 100), (103, 101)] (.inr rfl) (RetV.one rfl (OneR.cell Dk (r := .agg [.own 104, V.b r4.1.held]) (i := 101) (ety := 89) (cs := [.own 104, V.b r4.1.held]) (by kernel_rfl) (by kernel_rfl) (by kernel_rfl)))
 refine CO.skip (bB h fun r12 hx18 h => (CO.sw mix (wR 1 105 (W.call (ms_l11Take_ok 60 pa r4.2.1 r4.2.2.1 r4.2.2.2 hx18) cok91 [(0, 0), (103, 1)] [(0, 0), (1, 103)] [] lO (by kernel_rfl) (by kernel_rfl) (wF (bB h fun r15 hx21 h => (bB h fun r16 hx22 h => (CO.sw mix ?_))))))))
 refine wR 2 105 (W.call0 (ms_l11Part_ok a1 11 hx21) cok92 rfl (by kernel_rfl) (W.call (HR.ms_l11At r15 pa r12.2.1 r12.2.2 r4.2.2.2 _ hx22) cok65 [(0, 0), (103, 1)] [(0, 0), (100, 105), (101, 106)] [105, 106] lO (by kernel_rfl) (by kernel_rfl) (wR 2 107 (wF (bB h fun r18 hx24 h => (CO.sw mix (wR 5 108 (W.layop Dk (LayOk.cons (j := 104) (eSN true) (eSN false) r4.1.l (by kernel_rfl) (sh_eSN _) (LayOk.cons (j := 105) (eSN true) (eSN false) r16.1.l (by kernel_rfl) (sh_eSN _) lO)) (by kernel_rfl) 108 { v := .own 108, R := [], new := [(108, .vec true 38 1 [[.sl false false (r4.1.l.map (eSN false))], [.sl false false (r16.1.l.map (eSN false))]])], N := [108] } (by kernel_rfl) ?_))))))))
 refine W.vecEq 108 (nn := true) (e := 38) (k := 1) (rows := [[.sl false false (r4.1.l.map (eSN false))], [.sl false false (r16.1.l.map (eSN false))]]) (rows' := [r4.1.l, r16.1.l].map (encL false (eSN false))) (by kernel_rfl) (by kernel_rfl) (W.lend (ms_l11Over_ok N (⟨12, 60, [], [], []⟩ : SNode) [r4.1.l, r16.1.l] hx24) cok93 [(100, 109)] [109] (LayOk.cons (j := 108) (encL false (eSN false)) (encL false (eSN false)) ([r4.1.l, r16.1.l] : List LN) (by kernel_rfl) (share_encL _ (sh_eSN _)) lO) (.agg _ (.cons (.own _) (.cons (.c _) .nil))) (.cons (DeepR.map (fun _ => (.cons (.c _) (.cons (.c _) (.cons (.c _) (.cons (.c _) (.cons (.sl _ _ (DeepR.map (fun _ => (.cons (.c _) .nil)) _)) .nil)))))) _) .nil) (by kernel_rfl) (by kernel_rfl) (wR 1 110 (wF (CO.ret ?_))))
 have h := sI h
 subst h
 exact eG [(0, 0), (109, 100), (106, 101)] (.inr rfl) (RetV.one rfl (OneR.cell Dk (r := .agg [.own 109, V.b r18.held]) (i := 101) (ety := 89) (cs := [.own 109, V.b r18.held]) (by kernel_rfl) (by kernel_rfl) (by kernel_rfl)))

theorem ms_l11Unary_F_ok (N : Nat) (R : Rec1) (HR : RecOk1 R) (a1 : SPos) (pa : LT) (pb : Int) (pc : Bool) (p1 : LT) {r : T2} (h : ms_l11Unary_F N R a1 pa pb pc p1 = some r) :
    AC0 98 [.loc 0 0, .agg [V.i a1.Level, V.b a1.Dollar, V.b a1.NoIn, V.b a1.NoGt, V.b a1.NoSign]] [(0, cP 87 pa pb pc 1), (1, vX 55 3 eTk p1)] (.agg [.own 100, V.b r.1.held]) [(0, cP 87 pa r.2.1 r.2.2.1 101), (100, .vec false 73 5 (r.1.l.map (eSN true))), (101, vX 55 3 eTk r.2.2.2)] := by
 rw [ms_l11Unary_F] at h
 refine AC.enter Tryz.func98 rfl (cV 100 (bB h fun r2 hx2 h => (CO.sw mix (wR 1 102 (W.call (ms_l11Kind_ok pa pb pc p1 hx2) cok63 [(0, 0), (1, 1)] [(0, 0), (1, 1)] [] lO (by kernel_rfl) (by kernel_rfl) (wR 1 102 (wF (CO.seq' ?_))))))))
 refine bB h fun y12 hv19 h => ?_
 refine CO.cutR (tl 35 [(0, .loc 0 0), (3, .loc 100 0), (4, .loc 101 0), (5, V.i r2), (18, V.b y12)]) [(0, cP 87 pa pb pc 1), (100, .cells 30 [V.i a1.Level, V.b a1.Dollar, V.b a1.NoIn, V.b a1.NoGt, V.b a1.NoSign]), (101, .cells 89 [.c (.slice none 0 0), V.b false]), (1, vX 55 3 eTk p1)] mix (by
  refine wR 3 102 ?_
  refine wJ 11 hv19 (fun hv19 => ?_) (fun hv19 => ?_)
  ·refine wR 7 102 ?_
   cases hv19
   exact fS [(0, 0), (100, 100), (101, 101), (1, 1)] [0, 3, 4, 5, 18]
  refine wR 4 102 ?_
  refine wJ 15 hv19 (fun hv19 => ?_) (fun hv19 => ?_)
  ·refine wR 3 102 ?_
   cases hv19
   exact fS [(0, 0), (100, 100), (101, 101), (1, 1)] [0, 3, 4, 5, 18]
  refine wR 3 102 ?_
  cases hv19
  exact fS [(0, 0), (100, 100), (101, 101), (1, 1)] [0, 3, 4, 5, 18]
  ) ?_
 refine cI h (fun _ h => ?_) (fun _ h => ?_)
 ·refine bB h fun r14 hx24 h => (CO.sw mix (wR 2 102 (W.call (ms_l11Take_ok r2 pa pb pc p1 hx24) cok91 [(0, 0), (1, 1)] [(0, 0), (1, 1)] [] lO (by kernel_rfl) (by kernel_rfl) (wF (bB h fun r17 hx27 h => (bB h fun r18 hx28 h => (CO.sw mix (wR 2 102 ?_))))))))
  refine W.call0 (ms_l11Part_ok a1 11 hx27) cok92 rfl (by kernel_rfl) (W.call (HR.ms_l11At r17 pa r14.2.1 r14.2.2 p1 _ hx28) cok65 [(0, 0), (1, 1)] [(0, 0), (100, 102), (101, 103)] [102, 103] lO (by kernel_rfl) (by kernel_rfl) (wR 2 104 (wF (bB h fun r20 hx30 h => (CO.sw mix (wR 4 105 (W.layop Dk (LayOk.cons (j := 102) (eSN true) (eSN false) r18.1.l (by kernel_rfl) (sh_eSN _) lO) (by kernel_rfl) 105 { v := .own 105, R := [], new := [(105, .vec true 38 1 [[.sl false false (r18.1.l.map (eSN false))]])], N := [105] } (by kernel_rfl) (W.vecEq 105 (nn := true) (e := 38) (k := 1) (rows := [[.sl false false (r18.1.l.map (eSN false))]]) (rows' := [r18.1.l].map (encL false (eSN false))) (by kernel_rfl) (by kernel_rfl) ?_))))))))
  refine W.lend (ms_l11Over_ok N (⟨11, r2, [], [], []⟩ : SNode) [r18.1.l] hx30) cok93 [(100, 106)] [106] (LayOk.cons (j := 105) (encL false (eSN false)) (encL false (eSN false)) ([r18.1.l] : List LN) (by kernel_rfl) (share_encL _ (sh_eSN _)) lO) (.agg _ (.cons (.own _) (.cons (.c _) .nil))) (.cons (DeepR.map (fun _ => (.cons (.c _) (.cons (.c _) (.cons (.c _) (.cons (.c _) (.cons (.sl _ _ (DeepR.map (fun _ => (.cons (.c _) .nil)) _)) .nil)))))) _) .nil) (by kernel_rfl) (by kernel_rfl) (wR 1 107 (wF (CO.ret ?_)))
  have h := sI h
  subst h
  exact eG [(0, 0), (106, 100), (103, 101)] (.inr rfl) (RetV.one rfl (OneR.cell Dk (r := .agg [.own 106, V.b r20.held]) (i := 101) (ety := 89) (cs := [.own 106, V.b r20.held]) (by kernel_rfl) (by kernel_rfl) (by kernel_rfl)))
 refine CO.skip (bB h fun r22 hx32 h => (CO.sw mix (wR 2 102 (W.call (HR.ms_l11Pow a1 pa pb pc p1 _ hx32) cok99 [(0, 0), (1, 1)] [(0, 0), (100, 102), (101, 103)] [102, 103] lO (by kernel_rfl) (by kernel_rfl) (wR 1 104 (wF (CO.ret ?_)))))))
 have h := sI h
 subst h
 exact eG [(0, 0), (102, 100), (103, 101)] (.inr rfl) (RetV.one rfl (OneR.cell Dk (r := .agg [.own 102, V.b r22.1.held]) (i := 101) (ety := 89) (cs := [.own 102, V.b r22.1.held]) (by kernel_rfl) (by kernel_rfl) (by kernel_rfl)))

theorem ms_l11Chain_F_ok (N : Nat) (R : Rec1) (HR : RecOk1 R) (a1 : SPos) (a2 : Int) (a3 : Int) (pa : LT) (pb : Int) (pc : Bool) (p1 : LT) {r : T2} (h : ms_l11Chain_F N R a1 a2 a3 pa pb pc p1 = some r) :
    AC0 97 [.loc 0 0, .agg [V.i a1.Level, V.b a1.Dollar, V.b a1.NoIn, V.b a1.NoGt, V.b a1.NoSign], V.i a2, V.i a3] [(0, cP 87 pa pb pc 1), (1, vX 55 3 eTk p1)] (.agg [.own 100, V.b r.1.held]) [(0, cP 87 pa r.2.1 r.2.2.1 101), (100, .vec false 73 5 (r.1.l.map (eSN true))), (101, vX 55 3 eTk r.2.2.2)] := by
 rw [ms_l11Chain_F] at h
 refine AC.enter Tryz.func97 rfl (cV 100 (bB h fun r3 hx3 h => (bB h fun r4 hx4 h => (CO.sw mix (wR 1 102 (W.call0 (ms_l11Any_ok a2 hx3) cok148 rfl (by kernel_rfl) (W.call0 (ms_l9Sides_ok r3 hx4) cok147 rfl (by kernel_rfl) (wR 5 102 ?_))))))))
 refine wF ?_
 refine CO.join (fun (⟨a2, a3, r4, pb, pc, a1, p1, y5⟩ : (Int × Int × (Int × Int) × Int × Bool × SPos × LT × Int)) => ⟨tl 75 [(0, .loc 0 0), (2, V.i a2), (3, V.i a3), (5, .loc 100 0), (8, .loc 101 0), (9, V.i y5), (10, V.i r4.2)], [(0, cP 87 pa pb pc 1), (100, .cells 30 [V.i a1.Level, V.b a1.Dollar, V.b a1.NoIn, V.b a1.NoGt, V.b a1.NoSign]), (101, .cells 89 [.c (.slice none 0 0), V.b false]), (1, vX 55 3 eTk p1)]⟩) (fun i => ms_l11Chain_k1 N R pa i = some r) ?_ ?_
 · rintro ⟨a2, a3, r4, pb, pc, a1, p1, y5⟩ h6
   rw [ms_l11Chain_k1] at h6
   refine bB h6 fun r8 hx9 h6 => (bB h6 fun r9 hx10 h6 => (CO.sw mix (wR 3 102 (W.call0 (ms_l11Part_ok a1 y5 hx9) cok92 rfl (by kernel_rfl) (W.call (HR.ms_l11At r8 pa pb pc p1 _ hx10) cok65 [(0, 0), (1, 1)] [(0, 0), (100, 102), (101, 103)] [102, 103] lO (by kernel_rfl) (by kernel_rfl) (wR 2 104 (wF (CO.seq' ?_))))))))
   refine cV 105 (CO.block' (CO.loopJ (fun (⟨a2, a3, r4, a1, y214, y215, y216, y217, y218, y219⟩ : (Int × Int × (Int × Int) × SPos × Int × Int × Bool × Bool × LT × LN)) => ⟨tl 75 [(0, .loc 0 0), (2, V.i a2), (3, V.i a3), (5, .loc 100 0), (8, .loc 101 0), (10, V.i r4.2), (11, .loc 102 0), (12, V.i y214)], [(0, cP 87 pa y215 y216 103), (100, .cells 30 [V.i a1.Level, V.b a1.Dollar, V.b a1.NoIn, V.b a1.NoGt, V.b a1.NoSign]), (101, .cells 89 [.sl false false ([].map (eSN false)), V.b false]), (102, .cells 89 [.own 104, V.b y217]), (103, vX 55 3 eTk y218), (104, .vec false 73 5 (y219.map (eSN true)))]⟩) (fun n i => ms_l11Chain_l2 N R pa n i = some r) (n0 := N) (i0 := (a2, a3, r4, a1, 0, r9.2.1, r9.2.2.1, r9.1.held, r9.2.2.2, r9.1.l)) ((Weak.nilsH 101 [0] (e := 89) (cs := [.c (.slice none 0 0), V.b false]) (by kernel_rfl)).trans (wS [(0, 0), (100, 100), (101, 101), (104, 102), (103, 103), (102, 104)] [0, 2, 3, 5, 8, 10, 11, 12])) h6 (fun i h => by simp [ms_l11Chain_l2] at h) ?_))
   rintro n2 ⟨a2, a3, r4, a1, y214, y215, y216, y217, y218, y219⟩ h363 ih364
   rw [ms_l11Chain_l2] at h363
   refine CO.seq' (bB h363 fun y278 hv373 h363 => ?_)
   refine CO.cutR (tl 75 [(0, .loc 0 0), (2, V.i a2), (3, V.i a3), (5, .loc 100 0), (8, .loc 101 0), (10, V.i r4.2), (11, .loc 102 0), (12, V.i y214), (38, V.b y278)]) [(0, cP 87 pa y215 y216 103), (100, .cells 30 [V.i a1.Level, V.b a1.Dollar, V.b a1.NoIn, V.b a1.NoGt, V.b a1.NoSign]), (101, .cells 89 [.sl false false ([].map (eSN false)), V.b false]), (102, .cells 89 [.own 104, V.b y217]), (103, vX 55 3 eTk y218), (104, .vec false 73 5 (y219.map (eSN true)))] mix (by
    refine wR 4 177 ?_
    refine wJ 33 hv373 (fun hv373 => ?_) (fun hv373 => ?_)
    ·refine wR 3 177 (bB hv373 fun r279 hx375 hv373 => (W.call (ms_l11Is_ok a2 a1 pa y215 y216 y218 hx375) cok149 [(0, 0), (103, 1)] [(0, 0), (1, 103)] [] lO (by kernel_rfl) (by kernel_rfl) (wR 1 177 ?_)))
     cases hv373
     exact fS [(0, 0), (100, 100), (101, 101), (102, 102), (103, 103), (104, 104)] [0, 2, 3, 5, 8, 10, 11, 12, 38]
    refine wR 5 177 ?_
    cases hv373
    exact fS [(0, 0), (100, 100), (101, 101), (102, 102), (103, 103), (104, 104)] [0, 2, 3, 5, 8, 10, 11, 12, 38]
    ) ?_
   refine cI h363 (fun _ h363 => ?_) (fun _ h363 => ?_)
   ·refine CO.skip (CO.seq' (CO.block' (cV 177 ?_)))
    refine CO.join (fun (⟨a2, a3, r4, y214, y216, a1, y217, y218, y219, y303, y304⟩ : (Int × Int × (Int × Int) × Int × Bool × SPos × Bool × LT × LN × Int × Int)) => ⟨tl 75 [(0, .loc 0 0), (2, V.i a2), (3, V.i a3), (5, .loc 100 0), (8, .loc 101 0), (10, V.i r4.2), (11, .loc 102 0), (12, V.i y214), (13, V.i y303)], [(0, cP 87 pa y304 y216 103), (100, .cells 30 [V.i a1.Level, V.b a1.Dollar, V.b a1.NoIn, V.b a1.NoGt, V.b a1.NoSign]), (101, .cells 89 [.sl false false ([].map (eSN false)), V.b false]), (102, .cells 89 [.own 104, V.b y217]), (103, vX 55 3 eTk y218), (104, .vec false 73 5 (y219.map (eSN true)))]⟩) (fun i => ms_l11Chain_k3 N R pa (ms_l11Chain_l2 N R pa n2) i = some r) ?_ ?_
    · rintro ⟨a2, a3, r4, y214, y216, a1, y217, y218, y219, y303, y304⟩ h409
      rw [ms_l11Chain_k3] at h409
      refine CO.join (fun (⟨a2, a3, r4, y214, y303, y216, a1, y217, y219, y308, y309⟩ : (Int × Int × (Int × Int) × Int × Int × Bool × SPos × Bool × LN × Int × LT)) => ⟨tl 75 [(0, .loc 0 0), (2, V.i a2), (3, V.i a3), (5, .loc 100 0), (8, .loc 101 0), (10, V.i r4.2), (11, .loc 102 0), (12, V.i y214), (13, V.i y303)], [(0, cP 87 pa y308 y216 103), (100, .cells 30 [V.i a1.Level, V.b a1.Dollar, V.b a1.NoIn, V.b a1.NoGt, V.b a1.NoSign]), (101, .cells 89 [.sl false false ([].map (eSN false)), V.b false]), (102, .cells 89 [.own 104, V.b y217]), (103, vX 55 3 eTk y309), (104, .vec false 73 5 (y219.map (eSN true)))]⟩) (fun i => ms_l11Chain_k4 N R pa (ms_l11Chain_l2 N R pa n2) i = some r) ?_ ?_
      · rintro ⟨a2, a3, r4, y214, y303, y216, a1, y217, y219, y308, y309⟩ h416
        rw [ms_l11Chain_k4] at h416
        refine bB h416 fun r312 hx419 h416 => (bB h416 fun r313 hx420 h416 => ?_)
        refine CO.cutR (tl 75 [(0, .loc 0 0), (2, V.i a2), (3, V.i a3), (5, .loc 100 0), (8, .loc 101 0), (10, V.i r4.2), (11, .loc 102 0), (12, V.i y214), (13, V.i y303), (14, .loc 180 0)]) [(180, .cells 89 [.own 178, V.b r313.1.held]), (178, .vec false 73 5 (r313.1.l.map (eSN true))), (179, vX 55 3 eTk r313.2.2.2), (0, cP 87 pa r313.2.1 r313.2.2.1 179), (100, .cells 30 [V.i a1.Level, V.b a1.Dollar, V.b a1.NoIn, V.b a1.NoGt, V.b a1.NoSign]), (101, .cells 89 [.sl false false ([].map (eSN false)), V.b false]), (102, .cells 89 [.own 104, V.b y217]), (104, .vec false 73 5 (y219.map (eSN true)))] mix (by
         refine wR 3 178 (W.call0 (ms_l11Part_ok a1 r4.2 hx419) cok92 rfl (by kernel_rfl) (W.call (HR.ms_l11At r312 pa y308 y216 y309 _ hx420) cok65 [(0, 0), (103, 1)] [(0, 0), (100, 178), (101, 179)] [178, 179] lO (by kernel_rfl) (by kernel_rfl) (wR 2 180 ?_)))
         exact fI
         ) ?_
        refine CO.lay (tl 75 [(0, .loc 0 0), (2, V.i a2), (3, V.i a3), (5, .loc 100 0), (8, .loc 101 0), (10, V.i r4.2), (11, .loc 102 0), (12, V.i y214), (13, V.i y303), (14, .loc 180 0)]) [(180, .cells 89 [.own 178, V.b r313.1.held]), (178, .vec false 73 5 (r313.1.l.map (eSN true))), (179, vX 55 3 eTk r313.2.2.2), (0, cP 87 pa r313.2.1 r313.2.2.1 179), (100, .cells 30 [V.i a1.Level, V.b a1.Dollar, V.b a1.NoIn, V.b a1.NoGt, V.b a1.NoSign]), (101, .cells 89 [.sl false false ([].map (eSN false)), V.b false]), (102, .cells 89 [.sl false false (y219.map (eSN false)), V.b y217])] (LayOk.cons (j := 104) (eSN true) (eSN false) y219 (by kernel_rfl) (sh_eSN _) lO) (by kernel_rfl) (by kernel_rfl) (by kernel_rfl) (bB h416 fun r316 hx423 h416 => ?_)
        refine CO.endR (tl 75 [(0, .loc 0 0), (2, V.i a2), (3, V.i a3), (5, .loc 100 0), (8, .loc 101 0), (10, V.i r4.2), (11, .loc 102 0), (12, V.i y214)]) [(102, .cells 89 [.own 182, V.b r316.held]), (182, .vec false 73 5 (r316.l.map (eSN true))), (179, vX 55 3 eTk r313.2.2.2), (0, cP 87 pa r313.2.1 r313.2.2.1 179), (100, .cells 30 [V.i a1.Level, V.b a1.Dollar, V.b a1.NoIn, V.b a1.NoGt, V.b a1.NoSign]), (101, .cells 89 [.sl false false ([].map (eSN false)), V.b false])] mix (by
         refine wR 6 181 (W.layop Dk (LayOk.cons (j := 178) (eSN true) (eSN false) r313.1.l (by kernel_rfl) (sh_eSN _) lO) (by kernel_rfl) 181 { v := .own 181, R := [], new := [(181, .vec true 38 1 [[.sl false false (y219.map (eSN false))], [.sl false false (r313.1.l.map (eSN false))]])], N := [181] } (by kernel_rfl) (W.vecEq 181 (nn := true) (e := 38) (k := 1) (rows := [[.sl false false (y219.map (eSN false))], [.sl false false (r313.1.l.map (eSN false))]]) (rows' := [y219, r313.1.l].map (encL false (eSN false))) (by kernel_rfl) (by kernel_rfl) (W.lend (ms_l11Over_ok N (⟨12, y303, [], [], []⟩ : SNode) [y219, r313.1.l] hx423) cok93 [(100, 182)] [182] (LayOk.cons (j := 181) (encL false (eSN false)) (encL false (eSN false)) ([y219, r313.1.l] : List LN) (by kernel_rfl) (share_encL _ (sh_eSN _)) lO) (.agg _ (.cons (.own _) (.cons (.c _) .nil))) (.cons (DeepR.map (fun _ => (.cons (.c _) (.cons (.c _) (.cons (.c _) (.cons (.c _) (.cons (.sl _ _ (DeepR.map (fun _ => (.cons (.c _) .nil)) _)) .nil)))))) _) .nil) (by kernel_rfl) (by kernel_rfl) (wR 1 183 ?_))))
         exact fI
         ) (fun st hw => ?_)
        refine CO.weak hw ?_
        exact cK 183 ih364 (a2, a3, r4, a1, (IntKind.wrap .i64 (y214 + 1)), r313.2.1, r313.2.2.1, r316.held, r313.2.2.2, r316.l) h416 [(0, 0), (100, 100), (101, 101), (102, 102), (179, 103), (182, 104)] [0, 2, 3, 5, 8, 10, 11, 12]
      intro hk424
      refine bB h409 fun y317 hv426 h409 => ?_
      refine CO.cutR (tl 75 [(0, .loc 0 0), (2, V.i a2), (3, V.i a3), (5, .loc 100 0), (8, .loc 101 0), (10, V.i r4.2), (11, .loc 102 0), (12, V.i y214), (13, V.i y303), (58, V.b y317)]) [(0, cP 87 pa y304 y216 103), (100, .cells 30 [V.i a1.Level, V.b a1.Dollar, V.b a1.NoIn, V.b a1.NoGt, V.b a1.NoSign]), (101, .cells 89 [.sl false false ([].map (eSN false)), V.b false]), (102, .cells 89 [.own 104, V.b y217]), (103, vX 55 3 eTk y218), (104, .vec false 73 5 (y219.map (eSN true)))] mix (by
       refine wR 3 177 ?_
       refine wJ 55 hv426 (fun hv426 => ?_) (fun hv426 => ?_)
       ·refine wR 3 177 ?_
        cases hv426
        exact fS [(0, 0), (100, 100), (101, 101), (102, 102), (103, 103), (104, 104)] [0, 2, 3, 5, 8, 10, 11, 12, 13, 58]
       refine wR 3 177 ?_
       cases hv426
       exact fS [(0, 0), (100, 100), (101, 101), (102, 102), (103, 103), (104, 104)] [0, 2, 3, 5, 8, 10, 11, 12, 13, 58]
       ) ?_
      refine cI h409 (fun _ h409 => ?_) (fun _ h409 => ?_)
      ·refine bB h409 fun r319 hx430 h409 => (CO.w mix (wR 1 177 (W.call (ms_l11Lines_ok N pa y304 y216 y218 hx430) cok150 [(0, 0), (103, 1)] [(0, 0), (100, 177)] [177] lO (by kernel_rfl) (by kernel_rfl) ?_)))
       exact wK hk424 (a2, a3, r4, y214, y303, y216, a1, y217, y219, r319.1, r319.2) h409 [(0, 0), (100, 100), (101, 101), (102, 102), (177, 103), (104, 104)] [0, 2, 3, 5, 8, 10, 11, 12, 13]
      exact sK hk424 (a2, a3, r4, y214, y303, y216, a1, y217, y219, y304, y218) h409 [(0, 0), (100, 100), (101, 101), (102, 102), (103, 103), (104, 104)] [0, 2, 3, 5, 8, 10, 11, 12, 13]
    intro hk431
    refine cV 177 ?_
    refine cI h363 (fun _ h363 => ?_) (fun _ h363 => ?_)
    ·refine bB h363 fun r321 hx434 h363 => (CO.sw mix (wR 1 177 (W.call (ms_l11Kind_ok pa y215 y216 y218 hx434) cok63 [(0, 0), (103, 1)] [(0, 0), (1, 103)] [] lO (by kernel_rfl) (by kernel_rfl) (wR 1 177 (wF ?_)))))
     exact cK 177 hk431 (a2, a3, r4, y214, y216, a1, y217, y218, y219, r321, (IntKind.wrap .i64 (y215 + 1))) h363 [(0, 0), (100, 100), (101, 101), (102, 102), (103, 103), (104, 104)] [0, 2, 3, 5, 8, 10, 11, 12, 13]
    exact sK hk431 (a2, a3, r4, y214, y216, a1, y217, y218, y219, 99, y215) h363 [(0, 0), (100, 100), (101, 101), (102, 102), (103, 103), (104, 104)] [0, 2, 3, 5, 8, 10, 11, 12, 13]
   refine CO.exit (cV 177 (CO.ret ?_))
   have h363 := sI h363
   subst h363
   exact eG [(0, 0), (104, 100), (103, 101)] (.inr rfl) (RetV.one rfl (OneR.cell Dk (r := .agg [.own 104, V.b y217]) (i := 101) (ety := 89) (cs := [.own 104, V.b y217]) (by kernel_rfl) (by kernel_rfl) (by kernel_rfl)))
 intro hk435
 refine cV 102 ?_
 refine cI h (fun _ h => ?_) (fun _ h => ?_)
 ·exact cK 102 hk435 (a2, a3, r4, pb, pc, a1, p1, (IntKind.wrap .i64 (a2 + 1))) h [(0, 0), (100, 100), (101, 101), (1, 1)] [0, 2, 3, 5, 8, 9, 10]
 exact sK hk435 (a2, a3, r4, pb, pc, a1, p1, r4.1) h [(0, 0), (100, 100), (101, 101), (1, 1)] [0, 2, 3, 5, 8, 9, 10]

theorem ms_l11List_F_ok (N : Nat) (R : Rec1) (HR : RecOk1 R) (a1 : Int) (a2 : Int) (pa : LT) (pb : Int) (pc : Bool) (p1 : LT) {r : ((List LN) × Int × Bool × LT)} (h : ms_l11List_F N R a1 a2 pa pb pc p1 = some r) :
    AC0 146 [.loc 0 0, V.i a1, V.i a2] [(0, cP 87 pa pb pc 1), (1, vX 55 3 eTk p1)] (.own 100) [(0, cP 87 pa r.2.1 r.2.2.1 101), (100, .vec false 38 1 (r.1.map (encL false (eSN false)))), (101, vX 55 3 eTk r.2.2.2)] := by
 rw [ms_l11List_F] at h
 refine AC.enter Tryz.func146 rfl (cV 100 (CO.sw mix (W.layop Dk lO (by kernel_rfl) 100 { v := .own 100, R := [], new := [(100, .vec true 38 1 [])], N := [100] } (by kernel_rfl) (W.vecEq 100 (nn := true) (e := 38) (k := 1) (rows := []) (rows' := [].map (encL false (eSN false))) (by kernel_rfl) (by kernel_rfl) (wR 1 101 (wF (CO.seq' (bB h fun y7 hv11 h => ?_))))))))
 refine CO.cutR (tl 50 [(0, .loc 0 0), (1, V.i a1), (7, .own 100), (16, V.b y7)]) [(0, cP 87 pa pb pc 1), (100, .vec false 38 1 ([].map (encL false (eSN false)))), (1, vX 55 3 eTk p1)] mix (by
  refine wR 3 101 ?_
  refine wJ 11 hv11 (fun hv11 => ?_) (fun hv11 => ?_)
  ·refine wR 1 101 (bB hv11 fun r8 hx13 hv11 => (W.call (ms_l11Kind_ok pa pb pc p1 hx13) cok63 [(0, 0), (1, 1)] [(0, 0), (1, 1)] [] lO (by kernel_rfl) (by kernel_rfl) (wR 3 101 ?_)))
   cases hv11
   exact fS [(0, 0), (100, 100), (1, 1)] [0, 1, 7, 16]
  refine wR 5 101 ?_
  cases hv11
  exact fS [(0, 0), (100, 100), (1, 1)] [0, 1, 7, 16]
  ) ?_
 refine cI h (fun _ h => ?_) (fun _ h => ?_)
 ·refine bB h fun r10 hx16 h => (CO.sw mix (wR 2 101 (W.call (ms_l11Take_ok a1 pa pb pc p1 hx16) cok91 [(0, 0), (1, 1)] [(0, 0), (1, 1)] [] lO (by kernel_rfl) (by kernel_rfl) (wF (cV 101 (CO.ret ?_))))))
  cases h
  exact eG [(0, 0), (100, 100), (1, 101)] (.inr rfl) (RetV.one rfl (oT (t := 6) (r := .own 100)))
 refine CO.skip ?_
 refine CO.join (fun (⟨a1, y64, y65, y66, y67⟩ : (Int × Int × Bool × (List LN) × LT)) => ⟨tl 50 [(0, .loc 0 0), (1, V.i a1), (7, .own 100)], [(0, cP 87 pa y64 y65 101), (100, .vec false 38 1 (y66.map (encL false (eSN false)))), (101, vX 55 3 eTk y67)]⟩) (fun i => ms_l11List_k1 N R pa i = some r) ?_ ?_
 · rintro ⟨a1, y64, y65, y66, y67⟩ h85
   rw [ms_l11List_k1] at h85
   refine bB h85 fun r69 hx87 h85 => (CO.sw mix (wR 2 175 (W.call (ms_l11Take_ok a1 pa y64 y65 y67 hx87) cok91 [(0, 0), (101, 1)] [(0, 0), (1, 101)] [] lO (by kernel_rfl) (by kernel_rfl) (wF (cV 175 (CO.ret ?_))))))
   cases h85
   exact eG [(0, 0), (100, 100), (101, 101)] (.inr rfl) (RetV.one rfl (oT (t := 6) (r := .own 100)))
 intro hk88
 refine CO.block' (CO.loopJ (fun (⟨a1, y85, y86, y87, y88⟩ : (Int × Int × Bool × (List LN) × LT)) => ⟨tl 50 [(0, .loc 0 0), (1, V.i a1), (7, .own 100)], [(0, cP 87 pa y85 y86 101), (100, .vec false 38 1 (y87.map (encL false (eSN false)))), (101, vX 55 3 eTk y88)]⟩) (fun n i => ms_l11List_l2 N R pa n i = some r) (n0 := N) (i0 := (a1, pb, pc, [], p1)) (wS [(0, 0), (100, 100), (1, 101)] [0, 1, 7]) h (fun i h => by simp [ms_l11List_l2] at h) ?_)
 rintro n2 ⟨a1, y85, y86, y87, y88⟩ h133 ih134
 rw [ms_l11List_l2] at h133
 refine CO.seq' (cV 171 ?_)
 refine cI h133 (fun _ h133 => ?_) (fun _ h133 => ?_)
 ·refine CO.skip (CO.block' (bB h133 fun r111 hx140 h133 => (bB h133 fun r112 hx141 h133 => (bB h133 fun x113 hx142 h133 => (CO.sw mix (wR 2 171 (W.call0 (ms_Top_ok  hx140) cok41 rfl (by kernel_rfl) (W.call (HR.ms_l11At r111 pa y85 y86 y88 _ hx141) cok65 [(0, 0), (101, 1)] [(0, 0), (100, 171), (101, 172)] [171, 172] lO (by kernel_rfl) (by kernel_rfl) ?_))))))))
  refine wR 1 173 (W.layop Dk (LayOk.cons (j := 171) (eSN true) (eSN false) r112.1.l (by kernel_rfl) (sh_eSN _) lO) (by kernel_rfl) 173 { v := .own 173, R := [], new := [(173, .vec true 38 1 [[.sl false false (r112.1.l.map (eSN false))]])], N := [173] } (by kernel_rfl) (W.vecEq 173 (nn := true) (e := 38) (k := 1) (rows := [[.sl false false (r112.1.l.map (eSN false))]]) (rows' := [r112.1.l].map (encL false (eSN false))) (by kernel_rfl) (by kernel_rfl) (W.appO Dk (encL false (eSN false)) (a := 100) (c := 173) (el := 38) (sz := 1) 24 hx142 rfl 174 (by kernel_rfl) (wR 1 175 (wF (CO.seq' (bB h133 fun r117 hx147 h133 => (CO.sw mix ?_))))))))
  refine wR 1 175 (W.call (ms_l11Kind_ok pa r112.2.1 r112.2.2.1 r112.2.2.2 hx147) cok63 [(0, 0), (172, 1)] [(0, 0), (1, 172)] [] lO (by kernel_rfl) (by kernel_rfl) (wR 1 175 (wF ?_)))
  refine cI h133 (fun _ h133 => ?_) (fun _ h133 => ?_)
  ·refine CO.exit ?_
   exact hk88 (a1, r112.2.1, r112.2.2.1, x113, r112.2.2.2) h133 _ (wS [(0, 0), (174, 100), (172, 101)] [0, 1, 7])
  refine CO.skip ?_
  refine CO.join (fun (⟨a1, r112, x113, y118⟩ : (Int × T2 × (List LN) × Bool)) => ⟨tl 50 [(0, .loc 0 0), (1, V.i a1), (7, .own 100)], [(0, cP 87 pa r112.2.1 y118 101), (100, .vec false 38 1 (x113.map (encL false (eSN false)))), (101, vX 55 3 eTk r112.2.2.2)]⟩) (fun i => ms_l11List_k3 N R pa (ms_l11List_l2 N R pa n2) i = some r) ?_ ?_
  · rintro ⟨a1, r112, x113, y118⟩ h150
    rw [ms_l11List_k3] at h150
    refine bB h150 fun r120 hx152 h150 => (CO.sw mix (wR 1 175 (W.call (ms_l11Take_ok 36 pa r112.2.1 y118 r112.2.2.2 hx152) cok91 [(0, 0), (101, 1)] [(0, 0), (1, 101)] [] lO (by kernel_rfl) (by kernel_rfl) (wF (bB h150 fun r122 hx154 h150 => (CO.w mix (wR 1 175 (W.call (ms_l11Lines_ok N pa r120.2.1 r120.2.2 r112.2.2.2 hx154) cok150 [(0, 0), (101, 1)] [(0, 0), (100, 175)] [175] lO (by kernel_rfl) (by kernel_rfl) ?_))))))))
    exact wK ih134 (a1, r122.1, r120.2.2, x113, r122.2) h150 [(0, 0), (100, 100), (175, 101)] [0, 1, 7]
  intro hk155
  refine CO.sw mix (wR 1 175 (W.len Dk (encL false (eSN false)) x113 [174] (by kernel_rfl) (by kernel_rfl) (wR 1 175 (wF ?_))))
  refine cI h133 (fun _ h133 => ?_) (fun _ h133 => ?_)
  ·exact cK 175 hk155 (a1, r112, x113, true) h133 [(0, 0), (174, 100), (172, 101)] [0, 1, 7]
  exact sK hk155 (a1, r112, x113, r112.2.2.1) h133 [(0, 0), (174, 100), (172, 101)] [0, 1, 7]
 refine CO.exit ?_
 exact hk88 (a1, y85, y86, y87, y88) h133 _ (wS [(0, 0), (100, 100), (101, 101)] [0, 1, 7])

theorem ms_l11In_F_ok (N : Nat) (R : Rec1) (HR : RecOk1 R) (a1 : SPos) (pa : LT) (pb : Int) (pc : Bool) (p1 : LT) {r : T2} (h : ms_l11In_F N R a1 pa pb pc p1 = some r) :
    AC0 96 [.loc 0 0, .agg [V.i a1.Level, V.b a1.Dollar, V.b a1.NoIn, V.b a1.NoGt, V.b a1.NoSign]] [(0, cP 87 pa pb pc 1), (1, vX 55 3 eTk p1)] (.agg [.own 100, V.b r.1.held]) [(0, cP 87 pa r.2.1 r.2.2.1 101), (100, .vec false 73 5 (r.1.l.map (eSN true))), (101, vX 55 3 eTk r.2.2.2)] := by
 rw [ms_l11In_F] at h
 refine AC.enter Tryz.func96 rfl (cV 100 (cV 102 ?_))
 refine CO.join (fun (⟨a1, y18, y19, y20, y21, y22⟩ : (SPos × Int × Bool × Bool × LT × LN)) => ⟨tl 62 [(0, .loc 0 0), (3, .loc 100 0), (4, .loc 101 0), (5, .loc 102 0)], [(0, cP 87 pa y18 y19 103), (100, .cells 30 [V.i a1.Level, V.b a1.Dollar, V.b a1.NoIn, V.b a1.NoGt, V.b a1.NoSign]), (101, .cells 89 [.c (.slice none 0 0), V.b false]), (102, .cells 89 [.own 104, V.b y20]), (103, vX 55 3 eTk y21), (104, .vec false 73 5 (y22.map (eSN true)))]⟩) (fun i => ms_l11In_k1 N R pa i = some r) ?_ ?_
 · rintro ⟨a1, y18, y19, y20, y21, y22⟩ h21
   rw [ms_l11In_k1] at h21
   refine CO.seq' (CO.block' (CO.loopJ (fun (⟨a1, y21, y83, y84, y85, y86⟩ : (SPos × LT × Int × Bool × Bool × LN)) => ⟨tl 62 [(0, .loc 0 0), (3, .loc 100 0), (4, .loc 101 0), (5, .loc 102 0)], [(0, cP 87 pa y83 y84 103), (100, .cells 30 [V.i a1.Level, V.b a1.Dollar, V.b a1.NoIn, V.b a1.NoGt, V.b a1.NoSign]), (101, .cells 89 [.sl false false ([].map (eSN false)), V.b false]), (102, .cells 89 [.own 104, V.b y85]), (103, vX 55 3 eTk y21), (104, .vec false 73 5 (y86.map (eSN true)))]⟩) (fun n i => ms_l11In_l2 N R pa n i = some r) (n0 := N) (i0 := (a1, y21, y18, y19, y20, y22)) ((Weak.nilsH 101 [0] (e := 89) (cs := [.c (.slice none 0 0), V.b false]) (by kernel_rfl)).trans (wS [(0, 0), (100, 100), (101, 101), (102, 102), (103, 103), (104, 104)] [0, 3, 4, 5])) h21 (fun i h => by simp [ms_l11In_l2] at h) ?_))
   rintro n2 ⟨a1, y21, y83, y84, y85, y86⟩ h139 ih140
   rw [ms_l11In_l2] at h139
   refine CO.seq' (bB h139 fun y108 hv152 h139 => ?_)
   refine CO.cutR (tl 62 [(0, .loc 0 0), (3, .loc 100 0), (4, .loc 101 0), (5, .loc 102 0), (49, V.b y108)]) [(0, cP 87 pa y83 y84 103), (100, .cells 30 [V.i a1.Level, V.b a1.Dollar, V.b a1.NoIn, V.b a1.NoGt, V.b a1.NoSign]), (101, .cells 89 [.sl false false ([].map (eSN false)), V.b false]), (102, .cells 89 [.own 104, V.b y85]), (103, vX 55 3 eTk y21), (104, .vec false 73 5 (y86.map (eSN true)))] mix (by
    refine wR 6 173 ?_
    refine wJ 40 hv152 (fun hv152 => ?_) (fun hv152 => ?_)
    ·refine wR 5 173 ?_
     refine wJ 45 hv152 (fun hv152 => ?_) (fun hv152 => ?_)
     ·refine wR 1 173 (bB hv152 fun r109 hx155 hv152 => (W.call (ms_l11Kind_ok pa y83 y84 y21 hx155) cok63 [(0, 0), (103, 1)] [(0, 0), (1, 103)] [] lO (by kernel_rfl) (by kernel_rfl) (wR 2 173 ?_)))
      cases hv152
      exact fS [(0, 0), (100, 100), (101, 101), (102, 102), (103, 103), (104, 104)] [0, 3, 4, 5, 49]
     refine wR 4 173 ?_
     cases hv152
     exact fS [(0, 0), (100, 100), (101, 101), (102, 102), (103, 103), (104, 104)] [0, 3, 4, 5, 49]
    refine wR 9 173 ?_
    cases hv152
    exact fS [(0, 0), (100, 100), (101, 101), (102, 102), (103, 103), (104, 104)] [0, 3, 4, 5, 49]
    ) ?_
   refine cI h139 (fun _ h139 => ?_) (fun _ h139 => ?_)
   ·refine CO.skip (CO.block' (bB h139 fun r111 hx158 h139 => (CO.sw mix (wR 1 173 (W.call (ms_l11Take_ok 24 pa y83 y84 y21 hx158) cok91 [(0, 0), (103, 1)] [(0, 0), (1, 103)] [] lO (by kernel_rfl) (by kernel_rfl) (wF (bB h139 fun r113 hx160 h139 => ?_)))))))
    refine CO.cutR (tl 62 [(0, .loc 0 0), (3, .loc 100 0), (4, .loc 101 0), (5, .loc 102 0), (8, .loc 173 0)]) [(173, .cells 55 [V.i r113.1.Kind, V.s r113.1.Text, V.i r113.1.At]), (0, cP 87 pa r113.2.1 r113.2.2 103), (100, .cells 30 [V.i a1.Level, V.b a1.Dollar, V.b a1.NoIn, V.b a1.NoGt, V.b a1.NoSign]), (101, .cells 89 [.sl false false ([].map (eSN false)), V.b false]), (102, .cells 89 [.own 104, V.b y85]), (103, vX 55 3 eTk y21), (104, .vec false 73 5 (y86.map (eSN true)))] mix (by
     refine wR 1 173 (W.call (ms_l11Take_ok 6 pa r111.2.1 r111.2.2 y21 hx160) cok91 [(0, 0), (103, 1)] [(0, 0), (1, 103)] [] lO (by kernel_rfl) (by kernel_rfl) (wR 2 173 ?_))
     exact fI
     ) ?_
    refine CO.lay (tl 62 [(0, .loc 0 0), (3, .loc 100 0), (4, .loc 101 0), (5, .loc 102 0), (8, .loc 173 0)]) [(173, .cells 55 [V.i r113.1.Kind, V.s r113.1.Text, V.i r113.1.At]), (0, cP 87 pa r113.2.1 r113.2.2 103), (100, .cells 30 [V.i a1.Level, V.b a1.Dollar, V.b a1.NoIn, V.b a1.NoGt, V.b a1.NoSign]), (101, .cells 89 [.sl false false ([].map (eSN false)), V.b false]), (102, .cells 89 [.sl false false (y86.map (eSN false)), V.b y85]), (103, vX 55 3 eTk y21)] (LayOk.cons (j := 104) (eSN true) (eSN false) y86 (by kernel_rfl) (sh_eSN _) lO) (by kernel_rfl) (by kernel_rfl) (by kernel_rfl) (bB h139 fun r116 hx163 h139 => (CO.w mix (wR 6 174 (W.lend (ms_l11Over_ok N (⟨13, 0, r113.1.Text, [], []⟩ : SNode) [y86] hx163) cok93 [(100, 175)] [175] (LayOk.cons (j := 174) (encL false (eSN false)) (encL false (eSN false)) ([y86] : List LN) (by kernel_rfl) (share_encL _ (sh_eSN _)) lO) (.agg _ (.cons (.own _) (.cons (.c _) .nil))) (.cons (DeepR.map (fun _ => (.cons (.c _) (.cons (.c _) (.cons (.c _) (.cons (.c _) (.cons (.sl _ _ (DeepR.map (fun _ => (.cons (.c _) .nil)) _)) .nil)))))) _) .nil) (by kernel_rfl) (by kernel_rfl) (wR 1 176 ?_)))))
    exact wK ih140 (a1, y21, r113.2.1, r113.2.2, r116.held, r116.l) h139 [(0, 0), (100, 100), (101, 101), (102, 102), (103, 103), (175, 104)] [0, 3, 4, 5]
   refine CO.exit (cV 173 (CO.ret ?_))
   have h139 := sI h139
   subst h139
   exact eG [(0, 0), (104, 100), (103, 101)] (.inr rfl) (RetV.one rfl (OneR.cell Dk (r := .agg [.own 104, V.b y85]) (i := 101) (ety := 89) (cs := [.own 104, V.b y85]) (by kernel_rfl) (by kernel_rfl) (by kernel_rfl)))
 intro hk164
 refine bB h fun y118 hv167 h => ?_
 refine CO.cutR (tl 62 [(0, .loc 0 0), (3, .loc 100 0), (4, .loc 101 0), (5, .loc 102 0), (16, V.b y118)]) [(0, cP 87 pa pb pc 1), (100, .cells 30 [V.i a1.Level, V.b a1.Dollar, V.b a1.NoIn, V.b a1.NoGt, V.b a1.NoSign]), (101, .cells 89 [.c (.slice none 0 0), V.b false]), (102, .cells 89 [.c (.slice none 0 0), V.b false]), (1, vX 55 3 eTk p1)] mix (by
  refine wR 4 103 ?_
  refine wJ 13 hv167 (fun hv167 => ?_) (fun hv167 => ?_)
  ·refine wR 1 103 (bB hv167 fun r119 hx169 hv167 => (W.call (ms_l11Comma_ok N pa pb pc p1 hx169) cok145 [(0, 0), (1, 1)] [(0, 0), (1, 1)] [] lO (by kernel_rfl) (by kernel_rfl) (wR 1 103 ?_)))
   cases hv167
   exact fS [(0, 0), (100, 100), (101, 101), (102, 102), (1, 1)] [0, 3, 4, 5, 16]
  refine wR 3 103 ?_
  cases hv167
  exact fS [(0, 0), (100, 100), (101, 101), (102, 102), (1, 1)] [0, 3, 4, 5, 16]
  ) ?_
 refine cI h (fun _ h => ?_) (fun _ h => ?_)
 ·refine bB h fun r121 hx172 h => (CO.sw mix (wR 1 103 (W.call (ms_l11Take_ok 32 pa pb pc p1 hx172) cok91 [(0, 0), (1, 1)] [(0, 0), (1, 1)] [] lO (by kernel_rfl) (by kernel_rfl) (wF (bB h fun r123 hx174 h => (CO.sw mix (wR 1 103 (W.call (HR.ms_l11List 33 1 pa r121.2.1 r121.2.2 p1 _ hx174) cok146 [(0, 0), (1, 1)] [(0, 0), (100, 103), (101, 104)] [103, 104] lO (by kernel_rfl) (by kernel_rfl) ?_))))))))
  refine wR 1 105 (wF (bB h fun r125 hx176 h => (CO.sw mix (wR 1 105 (W.call (ms_l11Take_ok 24 pa r123.2.1 r123.2.2.1 r123.2.2.2 hx176) cok91 [(0, 0), (104, 1)] [(0, 0), (1, 104)] [] lO (by kernel_rfl) (by kernel_rfl) (wF (bB h fun r127 hx178 h => (CO.sw mix ?_))))))))
  refine wR 1 105 (W.call (ms_l11Take_ok 6 pa r125.2.1 r125.2.2 r123.2.2.2 hx178) cok91 [(0, 0), (104, 1)] [(0, 0), (1, 104)] [] lO (by kernel_rfl) (by kernel_rfl) (wR 2 105 (wF (bB h fun r129 hx180 h => (CO.w mix (wR 4 106 (W.lend (ms_l6Make_ok N (⟨13, 0, r127.1.Text, [], []⟩ : SNode) r123.1 hx180) cok142 [(100, 106)] [106] (LayOk.cons (j := 103) (encL false (eSN false)) (encL false (eSN false)) r123.1 (by kernel_rfl) (share_encL _ (sh_eSN _)) lO) (.own _) (.cons (DeepR.map (fun _ => (.cons (.c _) (.cons (.c _) (.cons (.c _) (.cons (.c _) (.cons (.sl _ _ (DeepR.map (fun _ => (.cons (.c _) .nil)) _)) .nil)))))) _) .nil) (by kernel_rfl) (by kernel_rfl) (wR 2 107 ?_))))))))
  exact wK hk164 (a1, r127.2.1, r127.2.2, false, r123.2.2.2, r129) h [(0, 0), (100, 100), (101, 101), (102, 102), (104, 103), (106, 104)] [0, 3, 4, 5]
 refine bB h fun r132 hx183 h => (bB h fun r133 hx184 h => (CO.w mix (wR 2 103 (W.call0 (ms_l11Part_ok a1 6 hx183) cok92 rfl (by kernel_rfl) (W.call (HR.ms_l11At r132 pa pb pc p1 _ hx184) cok65 [(0, 0), (1, 1)] [(0, 0), (100, 103), (101, 104)] [103, 104] lO (by kernel_rfl) (by kernel_rfl) (wR 1 105 ?_))))))
 exact wK hk164 (a1, r133.2.1, r133.2.2.1, r133.1.held, r133.2.2.2, r133.1.l) h [(0, 0), (100, 100), (101, 101), (102, 102), (104, 103), (103, 104)] [0, 3, 4, 5]

theorem ms_l11Cond_F_ok (N : Nat) (R : Rec1) (HR : RecOk1 R) (a1 : SPos) (pa : LT) (pb : Int) (pc : Bool) (p1 : LT) {r : T2} (h : ms_l11Cond_F N R a1 pa pb pc p1 = some r) :
    AC0 95 [.loc 0 0, .agg [V.i a1.Level, V.b a1.Dollar, V.b a1.NoIn, V.b a1.NoGt, V.b a1.NoSign]] [(0, cP 87 pa pb pc 1), (1, vX 55 3 eTk p1)] (.agg [.own 100, V.b r.1.held]) [(0, cP 87 pa r.2.1 r.2.2.1 101), (100, .vec false 73 5 (r.1.l.map (eSN true))), (101, vX 55 3 eTk r.2.2.2)] := by
 rw [ms_l11Cond_F] at h
 refine AC.enter Tryz.func95 rfl (cV 100 (bB h fun r3 hx3 h => (bB h fun r4 hx4 h => (CO.sw mix (wR 2 102 (W.call0 (ms_l11Part_ok a1 3 hx3) cok92 rfl (by kernel_rfl) (W.call (HR.ms_l11At r3 pa pb pc p1 _ hx4) cok65 [(0, 0), (1, 1)] [(0, 0), (100, 102), (101, 103)] [102, 103] lO (by kernel_rfl) (by kernel_rfl) (wR 2 104 ?_))))))))
 refine wF (CO.seq' (bB h fun y9 hv13 h => ?_))
 refine CO.cutR (tl 43 [(0, .loc 0 0), (3, .loc 100 0), (4, .loc 101 0), (5, .loc 102 0), (20, V.b y9)]) [(0, cP 87 pa r4.2.1 r4.2.2.1 103), (100, .cells 30 [V.i a1.Level, V.b a1.Dollar, V.b a1.NoIn, V.b a1.NoGt, V.b a1.NoSign]), (101, .cells 89 [.c (.slice none 0 0), V.b false]), (102, .cells 89 [.own 104, V.b r4.1.held]), (103, vX 55 3 eTk r4.2.2.2), (104, .vec false 73 5 (r4.1.l.map (eSN true)))] mix (by
  refine wR 5 105 ?_
  refine wJ 16 hv13 (fun hv13 => ?_) (fun hv13 => ?_)
  ·refine wR 4 105 ?_
   cases hv13
   exact fS [(0, 0), (100, 100), (101, 101), (104, 102), (103, 103), (102, 104)] [0, 3, 4, 5, 20]
  refine wR 1 105 (bB hv13 fun r10 hx15 hv13 => (W.call (ms_l11Kind_ok pa r4.2.1 r4.2.2.1 r4.2.2.2 hx15) cok63 [(0, 0), (103, 1)] [(0, 0), (1, 103)] [] lO (by kernel_rfl) (by kernel_rfl) (wR 2 105 ?_)))
  cases hv13
  exact fS [(0, 0), (100, 100), (101, 101), (104, 102), (103, 103), (102, 104)] [0, 3, 4, 5, 20]
  ) ?_
 refine cI h (fun _ h => ?_) (fun _ h => ?_)
 ·refine cV 105 (CO.ret ?_)
  have h := sI h
  subst h
  exact eG [(0, 0), (104, 100), (103, 101)] (.inr rfl) (RetV.one rfl (OneR.cell Dk (r := .agg [.own 104, V.b r4.1.held]) (i := 101) (ety := 89) (cs := [.own 104, V.b r4.1.held]) (by kernel_rfl) (by kernel_rfl) (by kernel_rfl)))
 refine CO.skip (bB h fun r12 hx18 h => (CO.sw mix (wR 1 105 (W.call (ms_l11Take_ok 65 pa r4.2.1 r4.2.2.1 r4.2.2.2 hx18) cok91 [(0, 0), (103, 1)] [(0, 0), (1, 103)] [] lO (by kernel_rfl) (by kernel_rfl) (wF (bB h fun r15 hx21 h => (bB h fun r16 hx22 h => (CO.sw mix ?_))))))))
 refine wR 2 105 (W.call0 (ms_l11Part_ok a1 2 hx21) cok92 rfl (by kernel_rfl) (W.call (HR.ms_l11At r15 pa r12.2.1 r12.2.2 r4.2.2.2 _ hx22) cok65 [(0, 0), (103, 1)] [(0, 0), (100, 105), (101, 106)] [105, 106] lO (by kernel_rfl) (by kernel_rfl) (wR 2 107 (wF (bB h fun r18 hx24 h => (CO.sw mix (wR 1 108 (W.call (ms_l11Take_ok 66 pa r16.2.1 r16.2.2.1 r16.2.2.2 hx24) cok91 [(0, 0), (106, 1)] [(0, 0), (1, 106)] [] lO (by kernel_rfl) (by kernel_rfl) ?_))))))))
 refine wF (bB h fun r21 hx27 h => (bB h fun r22 hx28 h => (CO.sw mix (wR 2 108 (W.call0 (ms_l11Part_ok a1 2 hx27) cok92 rfl (by kernel_rfl) (W.call (HR.ms_l11At r21 pa r18.2.1 r18.2.2 r16.2.2.2 _ hx28) cok65 [(0, 0), (106, 1)] [(0, 0), (100, 108), (101, 109)] [108, 109] lO (by kernel_rfl) (by kernel_rfl) (wR 2 110 (wF ?_))))))))
 refine bB h fun r24 hx30 h => (CO.sw mix (wR 7 111 (W.layop Dk (LayOk.cons (j := 104) (eSN true) (eSN false) r4.1.l (by kernel_rfl) (sh_eSN _) (LayOk.cons (j := 105) (eSN true) (eSN false) r16.1.l (by kernel_rfl) (sh_eSN _) (LayOk.cons (j := 108) (eSN true) (eSN false) r22.1.l (by kernel_rfl) (sh_eSN _) lO))) (by kernel_rfl) 111 { v := .own 111, R := [], new := [(111, .vec true 38 1 [[.sl false false (r4.1.l.map (eSN false))], [.sl false false (r16.1.l.map (eSN false))], [.sl false false (r22.1.l.map (eSN false))]])], N := [111] } (by kernel_rfl) (W.vecEq 111 (nn := true) (e := 38) (k := 1) (rows := [[.sl false false (r4.1.l.map (eSN false))], [.sl false false (r16.1.l.map (eSN false))], [.sl false false (r22.1.l.map (eSN false))]]) (rows' := [r4.1.l, r16.1.l, r22.1.l].map (encL false (eSN false))) (by kernel_rfl) (by kernel_rfl) (W.lend (ms_l11Over_ok N (⟨14, 0, [], [], []⟩ : SNode) [r4.1.l, r16.1.l, r22.1.l] hx30) cok93 [(100, 112)] [112] (LayOk.cons (j := 111) (encL false (eSN false)) (encL false (eSN false)) ([r4.1.l, r16.1.l, r22.1.l] : List LN) (by kernel_rfl) (share_encL _ (sh_eSN _)) lO) (.agg _ (.cons (.own _) (.cons (.c _) .nil))) (.cons (DeepR.map (fun _ => (.cons (.c _) (.cons (.c _) (.cons (.c _) (.cons (.c _) (.cons (.sl _ _ (DeepR.map (fun _ => (.cons (.c _) .nil)) _)) .nil)))))) _) .nil) (by kernel_rfl) (by kernel_rfl) (wR 1 113 (wF (CO.ret ?_))))))))
 have h := sI h
 subst h
 exact eG [(0, 0), (112, 100), (109, 101)] (.inr rfl) (RetV.one rfl (OneR.cell Dk (r := .agg [.own 112, V.b r24.held]) (i := 101) (ety := 89) (cs := [.own 112, V.b r24.held]) (by kernel_rfl) (by kernel_rfl) (by kernel_rfl)))

theorem ms_l11Assign_F_ok (N : Nat) (R : Rec1) (HR : RecOk1 R) (a1 : SPos) (pa : LT) (pb : Int) (pc : Bool) (p1 : LT) {r : T2} (h : ms_l11Assign_F N R a1 pa pb pc p1 = some r) :
    AC0 94 [.loc 0 0, .agg [V.i a1.Level, V.b a1.Dollar, V.b a1.NoIn, V.b a1.NoGt, V.b a1.NoSign]] [(0, cP 87 pa pb pc 1), (1, vX 55 3 eTk p1)] (.agg [.own 100, V.b r.1.held]) [(0, cP 87 pa r.2.1 r.2.2.1 101), (100, .vec false 73 5 (r.1.l.map (eSN true))), (101, vX 55 3 eTk r.2.2.2)] := by
 rw [ms_l11Assign_F] at h
 refine AC.enter Tryz.func94 rfl (cV 100 (bB h fun r3 hx3 h => (bB h fun r4 hx4 h => (CO.sw mix (wR 2 102 (W.call0 (ms_l11Part_ok a1 2 hx3) cok92 rfl (by kernel_rfl) (W.call (HR.ms_l11At r3 pa pb pc p1 _ hx4) cok65 [(0, 0), (1, 1)] [(0, 0), (100, 102), (101, 103)] [102, 103] lO (by kernel_rfl) (by kernel_rfl) (wR 2 104 ?_))))))))
 refine wF (CO.seq' (bB h fun y15 hv22 h => ?_))
 refine CO.cutR (tl 45 [(0, .loc 0 0), (3, .loc 100 0), (4, .loc 101 0), (5, .loc 102 0), (26, V.b y15)]) [(0, cP 87 pa r4.2.1 r4.2.2.1 103), (100, .cells 30 [V.i a1.Level, V.b a1.Dollar, V.b a1.NoIn, V.b a1.NoGt, V.b a1.NoSign]), (101, .cells 89 [.c (.slice none 0 0), V.b false]), (102, .cells 89 [.own 104, V.b r4.1.held]), (103, vX 55 3 eTk r4.2.2.2), (104, .vec false 73 5 (r4.1.l.map (eSN true)))] mix (by
  refine wR 5 105 ?_
  refine wJ 16 hv22 (fun hv22 => ?_) (fun hv22 => ?_)
  ·refine wR 10 105 ?_
   cases hv22
   exact fS [(0, 0), (100, 100), (101, 101), (104, 102), (103, 103), (102, 104)] [0, 3, 4, 5, 26]
  refine wR 1 105 (bB hv22 fun r16 hx24 hv22 => (W.lend (ms_l11Put_ok r4.1 hx24) cok143 [] [] (LayOk.cons (j := 102) (eSN true) (eSN false) r4.1.l (by kernel_rfl) (sh_eSN _) lO) (.c _) .nil (by kernel_rfl) (by kernel_rfl) (wR 3 105 ?_)))
  refine wJ 21 hv22 (fun hv22 => ?_) (fun hv22 => ?_)
  ·refine wR 5 105 ?_
   cases hv22
   exact fS [(0, 0), (100, 100), (101, 101), (104, 102), (103, 103), (102, 104)] [0, 3, 4, 5, 26]
  refine wR 1 105 (bB hv22 fun r17 hx26 hv22 => (W.call (ms_l11Kind_ok pa r4.2.1 r4.2.2.1 r4.2.2.2 hx26) cok63 [(0, 0), (103, 1)] [(0, 0), (1, 103)] [] lO (by kernel_rfl) (by kernel_rfl) (bB hv22 fun r18 hx27 hv22 => (W.call0 (ms_l7IsAssign_ok r17 hx27) cok144 rfl (by kernel_rfl) (wR 2 105 ?_)))))
  cases hv22
  exact fS [(0, 0), (100, 100), (101, 101), (104, 102), (103, 103), (102, 104)] [0, 3, 4, 5, 26]
  ) ?_
 refine cI h (fun _ h => ?_) (fun _ h => ?_)
 ·refine cV 105 (CO.ret ?_)
  have h := sI h
  subst h
  exact eG [(0, 0), (104, 100), (103, 101)] (.inr rfl) (RetV.one rfl (OneR.cell Dk (r := .agg [.own 104, V.b r4.1.held]) (i := 101) (ety := 89) (cs := [.own 104, V.b r4.1.held]) (by kernel_rfl) (by kernel_rfl) (by kernel_rfl)))
 refine CO.skip (bB h fun r20 hx30 h => (CO.sw mix (wR 1 105 (W.call (ms_l11Kind_ok pa r4.2.1 r4.2.2.1 r4.2.2.2 hx30) cok63 [(0, 0), (103, 1)] [(0, 0), (1, 103)] [] lO (by kernel_rfl) (by kernel_rfl) (wR 1 105 (wF (bB h fun r22 hx32 h => (CO.sw mix ?_))))))))
 refine wR 2 105 (W.call (ms_l11Take_ok r20 pa r4.2.1 r4.2.2.1 r4.2.2.2 hx32) cok91 [(0, 0), (103, 1)] [(0, 0), (1, 103)] [] lO (by kernel_rfl) (by kernel_rfl) (wF (bB h fun r25 hx35 h => (bB h fun r26 hx36 h => (CO.sw mix (wR 2 105 (W.call0 (ms_l11Part_ok a1 1 hx35) cok92 rfl (by kernel_rfl) (W.call (HR.ms_l11At r25 pa r22.2.1 r22.2.2 r4.2.2.2 _ hx36) cok65 [(0, 0), (103, 1)] [(0, 0), (100, 105), (101, 106)] [105, 106] lO (by kernel_rfl) (by kernel_rfl) ?_))))))))
 refine wR 2 107 (wF (bB h fun r28 hx38 h => (CO.sw mix (wR 6 108 (W.layop Dk (LayOk.cons (j := 104) (eSN true) (eSN false) r4.1.l (by kernel_rfl) (sh_eSN _) (LayOk.cons (j := 105) (eSN true) (eSN false) r26.1.l (by kernel_rfl) (sh_eSN _) lO)) (by kernel_rfl) 108 { v := .own 108, R := [], new := [(108, .vec true 38 1 [[.sl false false (r4.1.l.map (eSN false))], [.sl false false (r26.1.l.map (eSN false))]])], N := [108] } (by kernel_rfl) (W.vecEq 108 (nn := true) (e := 38) (k := 1) (rows := [[.sl false false (r4.1.l.map (eSN false))], [.sl false false (r26.1.l.map (eSN false))]]) (rows' := [r4.1.l, r26.1.l].map (encL false (eSN false))) (by kernel_rfl) (by kernel_rfl) (W.lend (ms_l11Over_ok N (⟨15, r20, [], [], []⟩ : SNode) [r4.1.l, r26.1.l] hx38) cok93 [(100, 109)] [109] (LayOk.cons (j := 108) (encL false (eSN false)) (encL false (eSN false)) ([r4.1.l, r26.1.l] : List LN) (by kernel_rfl) (share_encL _ (sh_eSN _)) lO) (.agg _ (.cons (.own _) (.cons (.c _) .nil))) (.cons (DeepR.map (fun _ => (.cons (.c _) (.cons (.c _) (.cons (.c _) (.cons (.c _) (.cons (.sl _ _ (DeepR.map (fun _ => (.cons (.c _) .nil)) _)) .nil)))))) _) .nil) (by kernel_rfl) (by kernel_rfl) (wR 1 110 ?_))))))))
 refine wF (CO.ret ?_)
 have h := sI h
 subst h
 exact eG [(0, 0), (109, 100), (106, 101)] (.inr rfl) (RetV.one rfl (OneR.cell Dk (r := .agg [.own 109, V.b r28.held]) (i := 101) (ety := 89) (cs := [.own 109, V.b r28.held]) (by kernel_rfl) (by kernel_rfl) (by kernel_rfl)))

theorem ms_l11At_F_ok (N : Nat) (R : Rec1) (HR : RecOk1 R) (a1 : SPos) (pa : LT) (pb : Int) (pc : Bool) (p1 : LT) {r : T2} (h : ms_l11At_F N R a1 pa pb pc p1 = some r) :
    AC0 65 [.loc 0 0, .agg [V.i a1.Level, V.b a1.Dollar, V.b a1.NoIn, V.b a1.NoGt, V.b a1.NoSign]] [(0, cP 87 pa pb pc 1), (1, vX 55 3 eTk p1)] (.agg [.own 100, V.b r.1.held]) [(0, cP 87 pa r.2.1 r.2.2.1 101), (100, .vec false 73 5 (r.1.l.map (eSN true))), (101, vX 55 3 eTk r.2.2.2)] := by
 rw [ms_l11At_F] at h
 refine AC.enter Tryz.func65 rfl (cV 100 (CO.seq' (cV 102 ?_)))
 refine cI h (fun _ h => ?_) (fun _ h => ?_)
 ·refine cV 102 (CO.weak (Weak.nilCell 101 0 102 73 5 (ety := 89) (cs := [.c (.slice none 0 0), V.b false]) (by kernel_rfl) (by kernel_rfl) (by kernel_rfl)) (CO.ret ?_))
  cases h
  exact eG [(0, 0), (102, 100), (1, 101)] (.inr rfl) (RetV.one rfl (OneR.cell Dk (r := .agg [.own 102, V.b false]) (i := 101) (ety := 89) (cs := [.own 102, V.b false]) (by kernel_rfl) (by kernel_rfl) (by kernel_rfl)))
 refine CO.skip (CO.seq' (cV 102 (CO.block' (cV 102 ?_))))
 refine cI h (fun _ h => ?_) (fun _ h => ?_)
 ·refine bB h fun r22 hx46 h => (CO.sw mix (wR 2 102 (W.call (HR.ms_l11Assign a1 pa pb pc p1 _ hx46) cok94 [(0, 0), (1, 1)] [(0, 0), (100, 102), (101, 103)] [102, 103] lO (by kernel_rfl) (by kernel_rfl) (wR 1 104 (wF (CO.ret ?_))))))
  have h := sI h
  subst h
  exact eG [(0, 0), (102, 100), (103, 101)] (.inr rfl) (RetV.one rfl (OneR.cell Dk (r := .agg [.own 102, V.b r22.1.held]) (i := 101) (ety := 89) (cs := [.own 102, V.b r22.1.held]) (by kernel_rfl) (by kernel_rfl) (by kernel_rfl)))
 refine cV 102 ?_
 refine cI h (fun _ h => ?_) (fun _ h => ?_)
 ·refine bB h fun r24 hx49 h => (CO.sw mix (wR 2 102 (W.call (HR.ms_l11Cond a1 pa pb pc p1 _ hx49) cok95 [(0, 0), (1, 1)] [(0, 0), (100, 102), (101, 103)] [102, 103] lO (by kernel_rfl) (by kernel_rfl) (wR 1 104 (wF (CO.ret ?_))))))
  have h := sI h
  subst h
  exact eG [(0, 0), (102, 100), (103, 101)] (.inr rfl) (RetV.one rfl (OneR.cell Dk (r := .agg [.own 102, V.b r24.1.held]) (i := 101) (ety := 89) (cs := [.own 102, V.b r24.1.held]) (by kernel_rfl) (by kernel_rfl) (by kernel_rfl)))
 refine cV 102 ?_
 refine cI h (fun _ h => ?_) (fun _ h => ?_)
 ·refine bB h fun r26 hx52 h => (CO.sw mix (wR 2 102 (W.call (HR.ms_l11In a1 pa pb pc p1 _ hx52) cok96 [(0, 0), (1, 1)] [(0, 0), (100, 102), (101, 103)] [102, 103] lO (by kernel_rfl) (by kernel_rfl) (wR 1 104 (wF (CO.ret ?_))))))
  have h := sI h
  subst h
  exact eG [(0, 0), (102, 100), (103, 101)] (.inr rfl) (RetV.one rfl (OneR.cell Dk (r := .agg [.own 102, V.b r26.1.held]) (i := 101) (ety := 89) (cs := [.own 102, V.b r26.1.held]) (by kernel_rfl) (by kernel_rfl) (by kernel_rfl)))
 refine CO.join (fun (⟨a1, pb, pc, p1, y27⟩ : (SPos × Int × Bool × LT × Bool)) => ⟨tl 68 [(0, .loc 0 0), (3, .loc 100 0), (4, .loc 101 0), (11, V.i a1.Level), (27, V.b y27)], [(0, cP 87 pa pb pc 1), (100, .cells 30 [V.i a1.Level, V.b a1.Dollar, V.b a1.NoIn, V.b a1.NoGt, V.b a1.NoSign]), (101, .cells 89 [.c (.slice none 0 0), V.b false]), (1, vX 55 3 eTk p1)]⟩) (fun i => ms_l11At_k1 N R pa i = some r) ?_ ?_
 · rintro ⟨a1, pb, pc, p1, y27⟩ h54
   rw [ms_l11At_k1] at h54
   refine cI h54 (fun _ h54 => ?_) (fun _ h54 => ?_)
   ·refine bB h54 fun r29 hx57 h54 => (CO.sw mix (wR 4 102 (W.call (HR.ms_l11Chain a1 a1.Level 1 pa pb pc p1 _ hx57) cok97 [(0, 0), (1, 1)] [(0, 0), (100, 102), (101, 103)] [102, 103] lO (by kernel_rfl) (by kernel_rfl) (wR 1 104 (wF (CO.ret ?_))))))
    have h54 := sI h54
    subst h54
    exact eG [(0, 0), (102, 100), (103, 101)] (.inr rfl) (RetV.one rfl (OneR.cell Dk (r := .agg [.own 102, V.b r29.1.held]) (i := 101) (ety := 89) (cs := [.own 102, V.b r29.1.held]) (by kernel_rfl) (by kernel_rfl) (by kernel_rfl)))
   refine CO.join (fun (⟨a1, pb, pc, p1, y30⟩ : (SPos × Int × Bool × LT × Bool)) => ⟨tl 68 [(0, .loc 0 0), (3, .loc 100 0), (4, .loc 101 0), (11, V.i a1.Level), (35, V.b y30)], [(0, cP 87 pa pb pc 1), (100, .cells 30 [V.i a1.Level, V.b a1.Dollar, V.b a1.NoIn, V.b a1.NoGt, V.b a1.NoSign]), (101, .cells 89 [.c (.slice none 0 0), V.b false]), (1, vX 55 3 eTk p1)]⟩) (fun i => ms_l11At_k2 N R pa i = some r) ?_ ?_
   · rintro ⟨a1, pb, pc, p1, y30⟩ h62
     rw [ms_l11At_k2] at h62
     refine cI h62 (fun _ h62 => ?_) (fun _ h62 => ?_)
     ·refine bB h62 fun r32 hx65 h62 => (CO.sw mix (wR 4 102 (W.call (HR.ms_l11Chain a1 a1.Level 3000 pa pb pc p1 _ hx65) cok97 [(0, 0), (1, 1)] [(0, 0), (100, 102), (101, 103)] [102, 103] lO (by kernel_rfl) (by kernel_rfl) (wR 1 104 (wF (CO.ret ?_))))))
      have h62 := sI h62
      subst h62
      exact eG [(0, 0), (102, 100), (103, 101)] (.inr rfl) (RetV.one rfl (OneR.cell Dk (r := .agg [.own 102, V.b r32.1.held]) (i := 101) (ety := 89) (cs := [.own 102, V.b r32.1.held]) (by kernel_rfl) (by kernel_rfl) (by kernel_rfl)))
     refine cV 102 ?_
     refine cI h62 (fun _ h62 => ?_) (fun _ h62 => ?_)
     ·refine bB h62 fun r34 hx68 h62 => (CO.sw mix (wR 2 102 (W.call (HR.ms_l11Unary a1 pa pb pc p1 _ hx68) cok98 [(0, 0), (1, 1)] [(0, 0), (100, 102), (101, 103)] [102, 103] lO (by kernel_rfl) (by kernel_rfl) (wR 1 104 (wF (CO.ret ?_))))))
      have h62 := sI h62
      subst h62
      exact eG [(0, 0), (102, 100), (103, 101)] (.inr rfl) (RetV.one rfl (OneR.cell Dk (r := .agg [.own 102, V.b r34.1.held]) (i := 101) (ety := 89) (cs := [.own 102, V.b r34.1.held]) (by kernel_rfl) (by kernel_rfl) (by kernel_rfl)))
     refine cV 102 ?_
     refine cI h62 (fun _ h62 => ?_) (fun _ h62 => ?_)
     ·refine bB h62 fun r36 hx71 h62 => (CO.sw mix (wR 2 102 (W.call (HR.ms_l11Pow a1 pa pb pc p1 _ hx71) cok99 [(0, 0), (1, 1)] [(0, 0), (100, 102), (101, 103)] [102, 103] lO (by kernel_rfl) (by kernel_rfl) (wR 1 104 (wF (CO.ret ?_))))))
      have h62 := sI h62
      subst h62
      exact eG [(0, 0), (102, 100), (103, 101)] (.inr rfl) (RetV.one rfl (OneR.cell Dk (r := .agg [.own 102, V.b r36.1.held]) (i := 101) (ety := 89) (cs := [.own 102, V.b r36.1.held]) (by kernel_rfl) (by kernel_rfl) (by kernel_rfl)))
     refine cV 102 ?_
     refine cI h62 (fun _ h62 => ?_) (fun _ h62 => ?_)
     ·refine bB h62 fun r38 hx74 h62 => (CO.sw mix (wR 2 102 (W.call (HR.ms_l11Incr a1 pa pb pc p1 _ hx74) cok100 [(0, 0), (1, 1)] [(0, 0), (100, 102), (101, 103)] [102, 103] lO (by kernel_rfl) (by kernel_rfl) (wR 1 104 (wF (CO.ret ?_))))))
      have h62 := sI h62
      subst h62
      exact eG [(0, 0), (102, 100), (103, 101)] (.inr rfl) (RetV.one rfl (OneR.cell Dk (r := .agg [.own 102, V.b r38.1.held]) (i := 101) (ety := 89) (cs := [.own 102, V.b r38.1.held]) (by kernel_rfl) (by kernel_rfl) (by kernel_rfl)))
     refine cV 102 ?_
     refine cI h62 (fun _ h62 => ?_) (fun _ h62 => ?_)
     ·refine bB h62 fun r40 hx77 h62 => (CO.sw mix (wR 2 102 (W.call (HR.ms_l11Field a1 pa pb pc p1 _ hx77) cok101 [(0, 0), (1, 1)] [(0, 0), (100, 102), (101, 103)] [102, 103] lO (by kernel_rfl) (by kernel_rfl) (wR 1 104 (wF (CO.ret ?_))))))
      have h62 := sI h62
      subst h62
      exact eG [(0, 0), (102, 100), (103, 101)] (.inr rfl) (RetV.one rfl (OneR.cell Dk (r := .agg [.own 102, V.b r40.1.held]) (i := 101) (ety := 89) (cs := [.own 102, V.b r40.1.held]) (by kernel_rfl) (by kernel_rfl) (by kernel_rfl)))
     refine CO.skip (bB h62 fun r42 hx79 h62 => (CO.sw mix (wR 1 102 (W.call (HR.ms_l11Primary pa pb pc p1 _ hx79) cok102 [(0, 0), (1, 1)] [(0, 0), (100, 102), (101, 103)] [102, 103] lO (by kernel_rfl) (by kernel_rfl) (wR 1 104 (wF (CO.ret ?_)))))))
     have h62 := sI h62
     subst h62
     exact eG [(0, 0), (102, 100), (103, 101)] (.inr rfl) (RetV.one rfl (OneR.cell Dk (r := .agg [.own 102, V.b r42.1.held]) (i := 101) (ety := 89) (cs := [.own 102, V.b r42.1.held]) (by kernel_rfl) (by kernel_rfl) (by kernel_rfl)))
   intro hk80
   refine cV 102 ?_
   refine cI h54 (fun _ h54 => ?_) (fun _ h54 => ?_)
   ·exact sK hk80 (a1, pb, pc, p1, (a1.Level == 3)) h54 [(0, 0), (100, 100), (101, 101), (1, 1)] [0, 3, 4, 11, 35]
   refine cV 102 ?_
   refine cI h54 (fun _ h54 => ?_) (fun _ h54 => ?_)
   ·exact sK hk80 (a1, pb, pc, p1, (a1.Level == 4)) h54 [(0, 0), (100, 100), (101, 101), (1, 1)] [0, 3, 4, 11, 35]
   refine cV 102 ?_
   refine cI h54 (fun _ h54 => ?_) (fun _ h54 => ?_)
   ·exact sK hk80 (a1, pb, pc, p1, (a1.Level == 8)) h54 [(0, 0), (100, 100), (101, 101), (1, 1)] [0, 3, 4, 11, 35]
   refine cV 102 ?_
   refine cI h54 (fun _ h54 => ?_) (fun _ h54 => ?_)
   ·exact sK hk80 (a1, pb, pc, p1, (a1.Level == 9)) h54 [(0, 0), (100, 100), (101, 101), (1, 1)] [0, 3, 4, 11, 35]
   exact cK 102 hk80 (a1, pb, pc, p1, (a1.Level == 10)) h54 [(0, 0), (100, 100), (101, 101), (1, 1)] [0, 3, 4, 11, 35]
 intro hk85
 refine cV 102 ?_
 refine cI h (fun _ h => ?_) (fun _ h => ?_)
 ·exact sK hk85 (a1, pb, pc, p1, (a1.Level == 6)) h [(0, 0), (100, 100), (101, 101), (1, 1)] [0, 3, 4, 11, 27]
 exact cK 102 hk85 (a1, pb, pc, p1, (a1.Level == 7)) h [(0, 0), (100, 100), (101, 101), (1, 1)] [0, 3, 4, 11, 27]

theorem ms_l11Pre_F_ok (N : Nat) (R : Rec1) (HR : RecOk1 R) (a1 : SPos) (pa : LT) (pb : Int) (pc : Bool) (p1 : LT) {r : T2} (h : ms_l11Pre_F N R a1 pa pb pc p1 = some r) :
    AC0 64 [.loc 0 0, .agg [V.i a1.Level, V.b a1.Dollar, V.b a1.NoIn, V.b a1.NoGt, V.b a1.NoSign]] [(0, cP 87 pa pb pc 1), (1, vX 55 3 eTk p1)] (.agg [.own 100, V.b r.1.held]) [(0, cP 87 pa r.2.1 r.2.2.1 101), (100, .vec false 73 5 (r.1.l.map (eSN true))), (101, vX 55 3 eTk r.2.2.2)] := by
 rw [ms_l11Pre_F] at h
 refine AC.enter Tryz.func64 rfl (cV 100 (bB h fun r2 hx2 h => (CO.sw mix (wR 1 102 (W.call (ms_l11Kind_ok pa pb pc p1 hx2) cok63 [(0, 0), (1, 1)] [(0, 0), (1, 1)] [] lO (by kernel_rfl) (by kernel_rfl) (wR 1 102 (wF (bB h fun r4 hx4 h => ?_))))))))
 refine CO.sw mix (wR 2 102 (W.call (ms_l11Take_ok r2 pa pb pc p1 hx4) cok91 [(0, 0), (1, 1)] [(0, 0), (1, 1)] [] lO (by kernel_rfl) (by kernel_rfl) (wF ?_)))
 refine CO.join (fun (⟨r2, r4, a1, p1, y10⟩ : (Int × (SToken × Int × Bool) × SPos × LT × Bool)) => ⟨tl 33 [(0, .loc 0 0), (3, .loc 100 0), (4, .loc 101 0), (5, V.i r2)], [(0, cP 87 pa r4.2.1 y10 1), (100, .cells 30 [V.i a1.Level, V.b a1.Dollar, V.b a1.NoIn, V.b a1.NoGt, V.b a1.NoSign]), (101, .cells 89 [.c (.slice none 0 0), V.b false]), (1, vX 55 3 eTk p1)]⟩) (fun i => ms_l11Pre_k1 N R pa i = some r) ?_ ?_
 · rintro ⟨r2, r4, a1, p1, y10⟩ h13
   rw [ms_l11Pre_k1] at h13
   refine bB h13 fun r13 hx16 h13 => (bB h13 fun r14 hx17 h13 => (CO.sw mix (wR 2 102 (W.call0 (ms_l11Part_ok a1 14 hx16) cok92 rfl (by kernel_rfl) (W.call (HR.ms_l11At r13 pa r4.2.1 y10 p1 _ hx17) cok65 [(0, 0), (1, 1)] [(0, 0), (100, 102), (101, 103)] [102, 103] lO (by kernel_rfl) (by kernel_rfl) (wR 2 104 (wF (bB h13 fun r16 hx19 h13 => ?_))))))))
   refine CO.sw mix (wR 4 105 (W.layop Dk (LayOk.cons (j := 102) (eSN true) (eSN false) r14.1.l (by kernel_rfl) (sh_eSN _) lO) (by kernel_rfl) 105 { v := .own 105, R := [], new := [(105, .vec true 38 1 [[.sl false false (r14.1.l.map (eSN false))]])], N := [105] } (by kernel_rfl) (W.vecEq 105 (nn := true) (e := 38) (k := 1) (rows := [[.sl false false (r14.1.l.map (eSN false))]]) (rows' := [r14.1.l].map (encL false (eSN false))) (by kernel_rfl) (by kernel_rfl) (W.lend (ms_l11Over_ok N (⟨9, r2, [], [], []⟩ : SNode) [r14.1.l] hx19) cok93 [(100, 106)] [106] (LayOk.cons (j := 105) (encL false (eSN false)) (encL false (eSN false)) ([r14.1.l] : List LN) (by kernel_rfl) (share_encL _ (sh_eSN _)) lO) (.agg _ (.cons (.own _) (.cons (.c _) .nil))) (.cons (DeepR.map (fun _ => (.cons (.c _) (.cons (.c _) (.cons (.c _) (.cons (.c _) (.cons (.sl _ _ (DeepR.map (fun _ => (.cons (.c _) .nil)) _)) .nil)))))) _) .nil) (by kernel_rfl) (by kernel_rfl) (wR 1 107 (wF (CO.ret ?_)))))))
   have h13 := sI h13
   subst h13
   exact eG [(0, 0), (106, 100), (103, 101)] (.inr rfl) (RetV.one rfl (OneR.cell Dk (r := .agg [.own 106, V.b r16.held]) (i := 101) (ety := 89) (cs := [.own 106, V.b r16.held]) (by kernel_rfl) (by kernel_rfl) (by kernel_rfl)))
 intro hk20
 refine bB h fun y19 hv24 h => ?_
 refine CO.cutR (tl 33 [(0, .loc 0 0), (3, .loc 100 0), (4, .loc 101 0), (5, V.i r2), (19, V.b y19)]) [(0, cP 87 pa r4.2.1 r4.2.2 1), (100, .cells 30 [V.i a1.Level, V.b a1.Dollar, V.b a1.NoIn, V.b a1.NoGt, V.b a1.NoSign]), (101, .cells 89 [.c (.slice none 0 0), V.b false]), (1, vX 55 3 eTk p1)] mix (by
  refine wR 1 102 (bB hv24 fun r20 hx25 hv24 => (W.call (ms_l11Kind_ok pa r4.2.1 r4.2.2 p1 hx25) cok63 [(0, 0), (1, 1)] [(0, 0), (1, 1)] [] lO (by kernel_rfl) (by kernel_rfl) (wR 2 102 ?_)))
  refine wJ 15 hv24 (fun hv24 => ?_) (fun hv24 => ?_)
  ·refine wR 1 102 (bB hv24 fun r21 hx27 hv24 => (W.call (ms_l11Kind_ok pa r4.2.1 r4.2.2 p1 hx27) cok63 [(0, 0), (1, 1)] [(0, 0), (1, 1)] [] lO (by kernel_rfl) (by kernel_rfl) (wR 2 102 ?_)))
   cases hv24
   exact fS [(0, 0), (100, 100), (101, 101), (1, 1)] [0, 3, 4, 5, 19]
  refine wR 4 102 ?_
  cases hv24
  exact fS [(0, 0), (100, 100), (101, 101), (1, 1)] [0, 3, 4, 5, 19]
  ) ?_
 refine cI h (fun _ h => ?_) (fun _ h => ?_)
 ·exact cK 102 hk20 (r2, r4, a1, p1, true) h [(0, 0), (100, 100), (101, 101), (1, 1)] [0, 3, 4, 5]
 exact sK hk20 (r2, r4, a1, p1, r4.2.2) h [(0, 0), (100, 100), (101, 101), (1, 1)] [0, 3, 4, 5]

theorem scc1_ok : ∀ N, RecOk1 (scc1 N)
 | 0 => ⟨fun _ _ _ _ _ _ h => (by cases h), fun _ _ _ _ _ h => (by cases h), fun _ _ _ _ _ h => (by cases h), fun _ _ _ _ _ _ h => (by cases h), fun _ _ _ _ _ _ h => (by cases h), fun _ _ _ _ _ _ h => (by cases h), fun _ _ _ _ _ _ h => (by cases h), fun _ _ _ _ _ _ _ _ h => (by cases h), fun _ _ _ _ _ _ _ h => (by cases h), fun _ _ _ _ _ _ h => (by cases h), fun _ _ _ _ _ _ h => (by cases h), fun _ _ _ _ _ _ h => (by cases h), fun _ _ _ _ _ _ h => (by cases h), fun _ _ _ _ _ _ h => (by cases h)⟩
 | N + 1 => ⟨fun a1 pa pb pc p1 _ h => ms_l11Call_F_ok N (scc1 N) (scc1_ok N) a1 pa pb pc p1 h, fun pa pb pc p1 _ h => ms_l11Name_F_ok N (scc1 N) (scc1_ok N) pa pb pc p1 h, fun pa pb pc p1 _ h => ms_l11Primary_F_ok N (scc1 N) (scc1_ok N) pa pb pc p1 h, fun a1 pa pb pc p1 _ h => ms_l11Field_F_ok N (scc1 N) (scc1_ok N) a1 pa pb pc p1 h, fun a1 pa pb pc p1 _ h => ms_l11Incr_F_ok N (scc1 N) (scc1_ok N) a1 pa pb pc p1 h, fun a1 pa pb pc p1 _ h => ms_l11Pow_F_ok N (scc1 N) (scc1_ok N) a1 pa pb pc p1 h, fun a1 pa pb pc p1 _ h => ms_l11Unary_F_ok N (scc1 N) (scc1_ok N) a1 pa pb pc p1 h, fun a1 a2 a3 pa pb pc p1 _ h => ms_l11Chain_F_ok N (scc1 N) (scc1_ok N) a1 a2 a3 pa pb pc p1 h, fun a1 a2 pa pb pc p1 _ h => ms_l11List_F_ok N (scc1 N) (scc1_ok N) a1 a2 pa pb pc p1 h, fun a1 pa pb pc p1 _ h => ms_l11In_F_ok N (scc1 N) (scc1_ok N) a1 pa pb pc p1 h, fun a1 pa pb pc p1 _ h => ms_l11Cond_F_ok N (scc1 N) (scc1_ok N) a1 pa pb pc p1 h, fun a1 pa pb pc p1 _ h => ms_l11Assign_F_ok N (scc1 N) (scc1_ok N) a1 pa pb pc p1 h, fun a1 pa pb pc p1 _ h => ms_l11At_F_ok N (scc1 N) (scc1_ok N) a1 pa pb pc p1 h, fun a1 pa pb pc p1 _ h => ms_l11Pre_F_ok N (scc1 N) (scc1_ok N) a1 pa pb pc p1 h⟩

theorem ms_l11Call_ok (N : Nat) (a1 : Int) (pa : LT) (pb : Int) (pc : Bool) (p1 : LT) {r : T2} (h : ms_l11Call N a1 pa pb pc p1 = some r) :
  AC0 153 [.loc 0 0, V.i a1] [(0, cP 87 pa pb pc 1), (1, vX 55 3 eTk p1)] (.agg [.own 100, V.b r.1.held]) [(0, cP 87 pa r.2.1 r.2.2.1 101), (100, .vec false 73 5 (r.1.l.map (eSN true))), (101, vX 55 3 eTk r.2.2.2)] :=
 (scc1_ok N).ms_l11Call a1 pa pb pc p1 r h
theorem ms_l11Name_ok (N : Nat) (pa : LT) (pb : Int) (pc : Bool) (p1 : LT) {r : T2} (h : ms_l11Name N pa pb pc p1 = some r) :
  AC0 152 [.loc 0 0] [(0, cP 87 pa pb pc 1), (1, vX 55 3 eTk p1)] (.agg [.own 100, V.b r.1.held]) [(0, cP 87 pa r.2.1 r.2.2.1 101), (100, .vec false 73 5 (r.1.l.map (eSN true))), (101, vX 55 3 eTk r.2.2.2)] :=
 (scc1_ok N).ms_l11Name pa pb pc p1 r h
theorem ms_l11Primary_ok (N : Nat) (pa : LT) (pb : Int) (pc : Bool) (p1 : LT) {r : T2} (h : ms_l11Primary N pa pb pc p1 = some r) :
  AC0 102 [.loc 0 0] [(0, cP 87 pa pb pc 1), (1, vX 55 3 eTk p1)] (.agg [.own 100, V.b r.1.held]) [(0, cP 87 pa r.2.1 r.2.2.1 101), (100, .vec false 73 5 (r.1.l.map (eSN true))), (101, vX 55 3 eTk r.2.2.2)] :=
 (scc1_ok N).ms_l11Primary pa pb pc p1 r h
theorem ms_l11Field_ok (N : Nat) (a1 : SPos) (pa : LT) (pb : Int) (pc : Bool) (p1 : LT) {r : T2} (h : ms_l11Field N a1 pa pb pc p1 = some r) :
  AC0 101 [.loc 0 0, .agg [V.i a1.Level, V.b a1.Dollar, V.b a1.NoIn, V.b a1.NoGt, V.b a1.NoSign]] [(0, cP 87 pa pb pc 1), (1, vX 55 3 eTk p1)] (.agg [.own 100, V.b r.1.held]) [(0, cP 87 pa r.2.1 r.2.2.1 101), (100, .vec false 73 5 (r.1.l.map (eSN true))), (101, vX 55 3 eTk r.2.2.2)] :=
 (scc1_ok N).ms_l11Field a1 pa pb pc p1 r h
theorem ms_l11Incr_ok (N : Nat) (a1 : SPos) (pa : LT) (pb : Int) (pc : Bool) (p1 : LT) {r : T2} (h : ms_l11Incr N a1 pa pb pc p1 = some r) :
  AC0 100 [.loc 0 0, .agg [V.i a1.Level, V.b a1.Dollar, V.b a1.NoIn, V.b a1.NoGt, V.b a1.NoSign]] [(0, cP 87 pa pb pc 1), (1, vX 55 3 eTk p1)] (.agg [.own 100, V.b r.1.held]) [(0, cP 87 pa r.2.1 r.2.2.1 101), (100, .vec false 73 5 (r.1.l.map (eSN true))), (101, vX 55 3 eTk r.2.2.2)] :=
 (scc1_ok N).ms_l11Incr a1 pa pb pc p1 r h
theorem ms_l11Pow_ok (N : Nat) (a1 : SPos) (pa : LT) (pb : Int) (pc : Bool) (p1 : LT) {r : T2} (h : ms_l11Pow N a1 pa pb pc p1 = some r) :
  AC0 99 [.loc 0 0, .agg [V.i a1.Level, V.b a1.Dollar, V.b a1.NoIn, V.b a1.NoGt, V.b a1.NoSign]] [(0, cP 87 pa pb pc 1), (1, vX 55 3 eTk p1)] (.agg [.own 100, V.b r.1.held]) [(0, cP 87 pa r.2.1 r.2.2.1 101), (100, .vec false 73 5 (r.1.l.map (eSN true))), (101, vX 55 3 eTk r.2.2.2)] :=
 (scc1_ok N).ms_l11Pow a1 pa pb pc p1 r h
theorem ms_l11Unary_ok (N : Nat) (a1 : SPos) (pa : LT) (pb : Int) (pc : Bool) (p1 : LT) {r : T2} (h : ms_l11Unary N a1 pa pb pc p1 = some r) :
  AC0 98 [.loc 0 0, .agg [V.i a1.Level, V.b a1.Dollar, V.b a1.NoIn, V.b a1.NoGt, V.b a1.NoSign]] [(0, cP 87 pa pb pc 1), (1, vX 55 3 eTk p1)] (.agg [.own 100, V.b r.1.held]) [(0, cP 87 pa r.2.1 r.2.2.1 101), (100, .vec false 73 5 (r.1.l.map (eSN true))), (101, vX 55 3 eTk r.2.2.2)] :=
 (scc1_ok N).ms_l11Unary a1 pa pb pc p1 r h
theorem ms_l11Chain_ok (N : Nat) (a1 : SPos) (a2 : Int) (a3 : Int) (pa : LT) (pb : Int) (pc : Bool) (p1 : LT) {r : T2} (h : ms_l11Chain N a1 a2 a3 pa pb pc p1 = some r) :
  AC0 97 [.loc 0 0, .agg [V.i a1.Level, V.b a1.Dollar, V.b a1.NoIn, V.b a1.NoGt, V.b a1.NoSign], V.i a2, V.i a3] [(0, cP 87 pa pb pc 1), (1, vX 55 3 eTk p1)] (.agg [.own 100, V.b r.1.held]) [(0, cP 87 pa r.2.1 r.2.2.1 101), (100, .vec false 73 5 (r.1.l.map (eSN true))), (101, vX 55 3 eTk r.2.2.2)] :=
 (scc1_ok N).ms_l11Chain a1 a2 a3 pa pb pc p1 r h
theorem ms_l11List_ok (N : Nat) (a1 : Int) (a2 : Int) (pa : LT) (pb : Int) (pc : Bool) (p1 : LT) {r : ((List LN) × Int × Bool × LT)} (h : ms_l11List N a1 a2 pa pb pc p1 = some r) :
  AC0 146 [.loc 0 0, V.i a1, V.i a2] [(0, cP 87 pa pb pc 1), (1, vX 55 3 eTk p1)] (.own 100) [(0, cP 87 pa r.2.1 r.2.2.1 101), (100, .vec false 38 1 (r.1.map (encL false (eSN false)))), (101, vX 55 3 eTk r.2.2.2)] :=
 (scc1_ok N).ms_l11List a1 a2 pa pb pc p1 r h
theorem ms_l11In_ok (N : Nat) (a1 : SPos) (pa : LT) (pb : Int) (pc : Bool) (p1 : LT) {r : T2} (h : ms_l11In N a1 pa pb pc p1 = some r) :
  AC0 96 [.loc 0 0, .agg [V.i a1.Level, V.b a1.Dollar, V.b a1.NoIn, V.b a1.NoGt, V.b a1.NoSign]] [(0, cP 87 pa pb pc 1), (1, vX 55 3 eTk p1)] (.agg [.own 100, V.b r.1.held]) [(0, cP 87 pa r.2.1 r.2.2.1 101), (100, .vec false 73 5 (r.1.l.map (eSN true))), (101, vX 55 3 eTk r.2.2.2)] :=
 (scc1_ok N).ms_l11In a1 pa pb pc p1 r h
theorem ms_l11Cond_ok (N : Nat) (a1 : SPos) (pa : LT) (pb : Int) (pc : Bool) (p1 : LT) {r : T2} (h : ms_l11Cond N a1 pa pb pc p1 = some r) :
  AC0 95 [.loc 0 0, .agg [V.i a1.Level, V.b a1.Dollar, V.b a1.NoIn, V.b a1.NoGt, V.b a1.NoSign]] [(0, cP 87 pa pb pc 1), (1, vX 55 3 eTk p1)] (.agg [.own 100, V.b r.1.held]) [(0, cP 87 pa r.2.1 r.2.2.1 101), (100, .vec false 73 5 (r.1.l.map (eSN true))), (101, vX 55 3 eTk r.2.2.2)] :=
 (scc1_ok N).ms_l11Cond a1 pa pb pc p1 r h
theorem ms_l11Assign_ok (N : Nat) (a1 : SPos) (pa : LT) (pb : Int) (pc : Bool) (p1 : LT) {r : T2} (h : ms_l11Assign N a1 pa pb pc p1 = some r) :
  AC0 94 [.loc 0 0, .agg [V.i a1.Level, V.b a1.Dollar, V.b a1.NoIn, V.b a1.NoGt, V.b a1.NoSign]] [(0, cP 87 pa pb pc 1), (1, vX 55 3 eTk p1)] (.agg [.own 100, V.b r.1.held]) [(0, cP 87 pa r.2.1 r.2.2.1 101), (100, .vec false 73 5 (r.1.l.map (eSN true))), (101, vX 55 3 eTk r.2.2.2)] :=
 (scc1_ok N).ms_l11Assign a1 pa pb pc p1 r h
theorem ms_l11At_ok (N : Nat) (a1 : SPos) (pa : LT) (pb : Int) (pc : Bool) (p1 : LT) {r : T2} (h : ms_l11At N a1 pa pb pc p1 = some r) :
  AC0 65 [.loc 0 0, .agg [V.i a1.Level, V.b a1.Dollar, V.b a1.NoIn, V.b a1.NoGt, V.b a1.NoSign]] [(0, cP 87 pa pb pc 1), (1, vX 55 3 eTk p1)] (.agg [.own 100, V.b r.1.held]) [(0, cP 87 pa r.2.1 r.2.2.1 101), (100, .vec false 73 5 (r.1.l.map (eSN true))), (101, vX 55 3 eTk r.2.2.2)] :=
 (scc1_ok N).ms_l11At a1 pa pb pc p1 r h
theorem ms_l11Pre_ok (N : Nat) (a1 : SPos) (pa : LT) (pb : Int) (pc : Bool) (p1 : LT) {r : T2} (h : ms_l11Pre N a1 pa pb pc p1 = some r) :
  AC0 64 [.loc 0 0, .agg [V.i a1.Level, V.b a1.Dollar, V.b a1.NoIn, V.b a1.NoGt, V.b a1.NoSign]] [(0, cP 87 pa pb pc 1), (1, vX 55 3 eTk p1)] (.agg [.own 100, V.b r.1.held]) [(0, cP 87 pa r.2.1 r.2.2.1 101), (100, .vec false 73 5 (r.1.l.map (eSN true))), (101, vX 55 3 eTk r.2.2.2)] :=
 (scc1_ok N).ms_l11Pre a1 pa pb pc p1 r h

end Go.Proofs.Tryz

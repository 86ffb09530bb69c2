/-
 The walks that show that the code computes the models, part 2.
-/
import Derived.Test.YtkfcajnnbhahoaaGreatDoorLgFW1
namespace Go.Proofs.Tryz
open Go.Av
set_option maxRecDepth 100000
set_option maxHeartbeats 8000000
set_option linter.unusedSimpArgs false
set_option linter.unusedVariables false

theorem ms_l6Bent_ok (N : Nat) (pa : LU) (pb : Int) (pc : Int) {r : (LN × Int × Int)} (h : ms_l6Bent N pa pb pc = some r) :
    AC Tryz.prog (GS []) 129 [.loc 0 0] [(0, .cells 128 [sL byteRow pa, V.i pb, V.i pc])] (.sl false false (r.1.map (eSN false))) [(0, .cells 128 [sL byteRow pa, V.i r.2.1, V.i r.2.2])] := by
 rw [ms_l6Bent] at h
 refine AC.enter Tryz.func129 rfl (cV 100 (bB h fun r2 hx2 h => (CO.sw mix (wR 1 100 (wC (ms_l7Any_ok N pa pb pc hx2) cok62 [(0, 0)] [(0, 0), (100, 100)] [100] (wR 1 101 (wF (bB h fun r4 hx4 h => ?_))))))))
 refine CO.sw mix (wR 2 101 (wN (eSN true) r2.1 [100] (wC (ms_l1Below_ok (r2.1.length : Int) pa r2.2.1 r2.2.2 hx4) cok63 [(0, 0)] [(0, 0)] [] (wR 1 101 (wF ?_)))))
 refine CO.join (fun (⟨y31, y32, y33⟩ : (LN × Int × Int)) => ⟨tl 61 [(3, .own 100)], [(100, .vec false 37 5 (y31.map (eSN true))), (0, .cells 128 [sL byteRow pa, V.i y32, V.i y33])]⟩) (fun i => ms_l6Bent_k1 N pa i = some r) ?_ ?_
 · rintro ⟨y31, y32, y33⟩ h51
   rw [ms_l6Bent_k1] at h51
   refine cU 2 105 (tl 61 [(2, .own 100)]) [(100, .vec false 37 5 (y31.map (eSN true))), (0, .cells 128 [sL byteRow pa, V.i y32, V.i y33])] (CO.lay (tl 61 [(2, .sl false false (y31.map (eSN false)))]) [(0, .cells 128 [sL byteRow pa, V.i y32, V.i y33])] (LayOk.cons (j := 100) (eSN true) (eSN false) y31 (by kernel_rfl) (sh_eSN _) lO) (by kernel_rfl) (by kernel_rfl) (by kernel_rfl) (CO.ret ?_))
   have h51 := sI h51
   subst h51
   exact eG [(0, 0)] (.inr rfl) (RetV.one rfl (oT (t := 2) (r := .sl false false (y31.map (eSN false)))))
 intro hk52
 refine bB h fun r35 hx54 h => (CO.sw mix (wR 1 101 (wC (ms_l1Below_ok 12 pa r4.2.1 r4.2.2 hx54) cok63 [(0, 0)] [(0, 0)] [] (wF (CO.block' (cV 101 ?_))))))
 refine cI h (fun _ h => ?_) (fun _ h => ?_)
 ·refine bB h fun l37 hx57 h => ?_
  refine CO.cutR (tl 61 [(2, .own 101)]) [(101, .vec false (.sp 37) 5 (l37.map (eSN true))), (0, .cells 128 [sL byteRow pa, V.i r35.2.1, V.i r35.2.2])] mix (by
   refine wR 2 101 (W.cutO Dk (eSN true) hx57 101 (j := 100) (el := 37) (sz := 5) (by kernel_rfl) (wR 1 102 ?_))
   exact fI
   ) ?_
  refine CO.lay (tl 61 [(2, .sl false false (l37.map (eSN false)))]) [(0, .cells 128 [sL byteRow pa, V.i r35.2.1, V.i r35.2.2])] (LayOk.cons (j := 101) (eSN true) (eSN false) l37 (by kernel_rfl) (sh_eSN _) lO) (by kernel_rfl) (by kernel_rfl) (by kernel_rfl) (CO.ret ?_)
  have h := sI h
  subst h
  exact eG [(0, 0)] (.inr rfl) (RetV.one rfl (oT (t := 2) (r := .sl false false (l37.map (eSN false)))))
 refine cV 101 ?_
 refine cI h (fun _ h => ?_) (fun _ h => ?_)
 ·refine bB h fun e39 hx60 h => (CO.lendR 100 4 101 (eSN true) hx60 (nn := false) (nn2 := false) (ety := 37) (kk := 5) (srows := e39.Kids.map eNI) (fun c61 => [V.i e39.Kind, V.i e39.Op, V.s e39.Text, V.s e39.Other, .c c61]) (fun c61 R62 => [(101, .vec false (.at_ c61) 1 (e39.Kids.map eNI)), (100, vX 37 5 id R62), (0, .cells 128 [sL byteRow pa, V.i r35.2.1, V.i r35.2.2])]) (by kernel_rfl) (by kernel_rfl) (fun _ => by kernel_rfl) (by kernel_rfl) (fun r hr => by obtain ⟨a, _, rfl⟩ := List.mem_map.1 hr; rfl) (fun _ _ => by kernel_rfl) ?_)
  intro c61 R62 hR63
  obtain ⟨hi64, hr65⟩ := lend_ix hx60 hR63
  refine bB h fun r43 hx69 h => (bB h fun x44 hx70 h => (bB h fun x45 hu71 h => (CO.w mix (wR 4 102 (W.ixO Dk id hi64 100 5 (by kernel_rfl) (wR 1 102 (W.ldA Dk (t := 35) (i0 := 100) (n := r4.1.toNat) (b := 4) (j := 101) (rows := R62.map id) (row := [V.i e39.Kind, V.i e39.Op, V.s e39.Text, V.s e39.Other, .c c61]) (c := c61) (nn2 := false) (k2 := 1) (rows2 := e39.Kids.map eNI) (by kernel_rfl) hr65 (by kernel_rfl) (by kernel_rfl) (wR 3 102 ?_))))))))
  refine wD (ms_l1PickInt_ok [(-1), r4.1, 0, 99] pa r35.2.1 r35.2.2 hx69) cok127 [(0, 0)] [(0, 0)] [] (LayOk.cons (j := 102) eNI eNI ([(-1), r4.1, 0, 99] : List Int) (by kernel_rfl) (fun _ => rfl) lO) (wR 1 103 (W.appA Dk eNI (a := 101) (c := 103) (el := 3) (sz := 1) 8 hx70 rfl 104 (by kernel_rfl) (W.ixO Dk id hi64 100 5 (by kernel_rfl) (wR 1 105 (W.stO Dk id (x' := [V.i e39.Kind, V.i e39.Op, V.s e39.Text, V.s e39.Other, .sl false true (x44.map eNI)]) hi64 (lend_upd (enc := (eSN true)) hR63 hu71 (by kernel_rfl)) (j := 100) (nn := false) (ety := 37) (sz := 5) (b := 4) (ys := [.sl false true (x44.map eNI)]) (C := [104]) (R := [104]) (by kernel_rfl) (by kernel_rfl) (W.vecEq 100 (nn := false) (e := 37) (k := 5) (rows := (x45.map (eSN true)).map id) (rows' := x45.map (eSN true)) (by kernel_rfl) (List.map_id _) ?_))))))
  exact wK hk52 (x45, r43.2.1, r43.2.2) h [(100, 100), (0, 0)] [3]
 refine cV 101 ?_
 refine cI h (fun _ h => ?_) (fun _ h => ?_)
 ·refine bB h fun e47 hx74 h => (CO.lendR 100 4 101 (eSN true) hx74 (nn := false) (nn2 := false) (ety := 37) (kk := 5) (srows := e47.Kids.map eNI) (fun c75 => [V.i e47.Kind, V.i e47.Op, V.s e47.Text, V.s e47.Other, .c c75]) (fun c75 R76 => [(101, .vec false (.at_ c75) 1 (e47.Kids.map eNI)), (100, vX 37 5 id R76), (0, .cells 128 [sL byteRow pa, V.i r35.2.1, V.i r35.2.2])]) (by kernel_rfl) (by kernel_rfl) (fun _ => by kernel_rfl) (by kernel_rfl) (fun r hr => by obtain ⟨a, _, rfl⟩ := List.mem_map.1 hr; rfl) (fun _ _ => by kernel_rfl) ?_)
  intro c75 R76 hR77
  obtain ⟨hi78, hr79⟩ := lend_ix hx74 hR77
  refine CO.cutR (tl 61 [(0, .loc 0 0), (3, .own 100), (4, V.i r4.1), (43, V.b (decide ((e47.Kids.length : Int) > 0)))]) [(100, .vec false 37 5 (r2.1.map (eSN true))), (0, .cells 128 [sL byteRow pa, V.i r35.2.1, V.i r35.2.2])] mix (by
   refine wR 2 102 (W.ixO Dk id hi78 100 5 (by kernel_rfl) (wR 1 102 (W.ldA Dk (t := 35) (i0 := 100) (n := r4.1.toNat) (b := 4) (j := 101) (rows := R76.map id) (row := [V.i e47.Kind, V.i e47.Op, V.s e47.Text, V.s e47.Other, .c c75]) (c := c75) (nn2 := false) (k2 := 1) (rows2 := e47.Kids.map eNI) (by kernel_rfl) hr79 (by kernel_rfl) (by kernel_rfl) (wN eNI e47.Kids [101] (wR 1 102 ?_)))))
   exact W.fin (by decide) (by kernel_rfl) ((Weak.unlendTo 100 (r4.1.toNat) 4 101 (nn := false) (nn2 := false) (ety := 37) (k := 5) (rows := R76.map id) (row := [V.i e47.Kind, V.i e47.Op, V.s e47.Text, V.s e47.Other, .c c75]) (srows := e47.Kids.map eNI) (c := c75) (row' := [V.i e47.Kind, V.i e47.Op, V.s e47.Text, V.s e47.Other, .sl false true (e47.Kids.map eNI)]) (rows' := r2.1.map (eSN true)) (by kernel_rfl) hr79 (by kernel_rfl) (by kernel_rfl) (by decide) (by kernel_rfl) (lend_fin0 (enc := (eSN true)) hR77 hx74 (by kernel_rfl))).trans (wS [(100, 100), (0, 0)] [0, 3, 4, 43]))
   ) ?_
  refine cI h (fun _ h => ?_) (fun _ h => ?_)
  ·refine bB h fun e49 hx82 h => (CO.lendR 100 4 102 (eSN true) hx82 (nn := false) (nn2 := false) (ety := 37) (kk := 5) (srows := e49.Kids.map eNI) (fun c83 => [V.i e49.Kind, V.i e49.Op, V.s e49.Text, V.s e49.Other, .c c83]) (fun c83 R84 => [(102, .vec false (.at_ c83) 1 (e49.Kids.map eNI)), (100, vX 37 5 id R84), (0, .cells 128 [sL byteRow pa, V.i r35.2.1, V.i r35.2.2])]) (by kernel_rfl) (by kernel_rfl) (fun _ => by kernel_rfl) (by kernel_rfl) (fun r hr => by obtain ⟨a, _, rfl⟩ := List.mem_map.1 hr; rfl) (fun _ _ => by kernel_rfl) ?_)
   intro c83 R84 hR85
   obtain ⟨hi86, hr87⟩ := lend_ix hx82 hR85
   refine bB h fun r53 hx91 h => (bB h fun e54 hx92 h => (bB h fun x55 hu93 h => (bB h fun x56 hu94 h => ?_)))
   refine CO.endR (tl 61 [(3, .own 100)]) [(100, .vec false 37 5 (x56.map (eSN true))), (0, .cells 128 [sL byteRow pa, V.i r53.2.1, V.i r53.2.2])] mix (by
    refine wR 2 103 (W.ixO Dk id hi86 100 5 (by kernel_rfl) (wR 1 103 (W.ldA Dk (t := 35) (i0 := 100) (n := r4.1.toNat) (b := 4) (j := 102) (rows := R84.map id) (row := [V.i e49.Kind, V.i e49.Op, V.s e49.Text, V.s e49.Other, .c c83]) (c := c83) (nn2 := false) (k2 := 1) (rows2 := e49.Kids.map eNI) (by kernel_rfl) hr87 (by kernel_rfl) (by kernel_rfl) (wR 3 103 (wC (ms_l1Below_ok (wr (r4.1 + 1)) pa r35.2.1 r35.2.2 hx91) cok63 [(0, 0)] [(0, 0)] [] (wR 1 103 (W.ixO Dk eNI hx92 102 1 (by kernel_rfl) (W.stO Dk eNI (x' := (wr (r53.1 - 1))) hx92 hu93 (j := 102) (nn := false) (ety := (.at_ c83)) (sz := 1) (b := 0) (ys := [V.i (wr (r53.1 - 1))]) (C := []) (R := []) (by kernel_rfl) (by kernel_rfl) ?_))))))))
    exact W.fin (by decide) (by kernel_rfl) ((Weak.unlendTo 100 (r4.1.toNat) 4 102 (nn := false) (nn2 := false) (ety := 37) (k := 5) (rows := R84.map id) (row := [V.i e49.Kind, V.i e49.Op, V.s e49.Text, V.s e49.Other, .c c83]) (srows := x55.map eNI) (c := c83) (row' := [V.i e49.Kind, V.i e49.Op, V.s e49.Text, V.s e49.Other, .sl false true (x55.map eNI)]) (rows' := x56.map (eSN true)) (by kernel_rfl) hr87 (by kernel_rfl) (by kernel_rfl) (by decide) (by kernel_rfl) (lend_fin (enc := (eSN true)) hR85 hu94 (by kernel_rfl))).trans (wS [(100, 100), (0, 0)] [3]))
    ) (fun st hw => ?_)
   exact hk52 (x56, r53.2.1, r53.2.2) h _ (hw.trans (wS [(100, 100), (0, 0)] [3]))
  exact sK hk52 (r2.1, r35.2.1, r35.2.2) h [(100, 100), (0, 0)] [3]
 refine cU 2 101 (tl 61 [(3, .own 100), (55, V.b (r35.1 == 3))]) [(100, .vec false 37 5 (r2.1.map (eSN true))), (0, .cells 128 [sL byteRow pa, V.i r35.2.1, V.i r35.2.2])] ?_
 refine cI h (fun _ h => ?_) (fun _ h => ?_)
 ·refine CO.weak (st' := ⟨tl 61 [(3, .own 100), (55, V.b (r35.1 == 3))], [(100, .vec false 37 5 (r2.1.map (eSN false))), (0, .cells 128 [sL byteRow pa, V.i r35.2.1, V.i r35.2.2])]⟩) ((Weak.shareIn 100 (nn := false) (ety := 37) (k := 5) (rows := r2.1.map (eSN true)) (rows' := r2.1.map (eSN false)) (by kernel_rfl) (shareR_map (enc := (eSN true)) (enc' := (eSN false)) (sh_eSN _) _)).trans (Weak.eq (by kernel_rfl) (by kernel_rfl))) (bB h fun x59 hx98 h => ?_)
  refine CO.cutR (tl 61 [(2, .own 101)]) [(101, .vec false 37 5 (x59.map (eSN false))), (0, .cells 128 [sL byteRow pa, V.i r35.2.1, V.i r35.2.2])] mix (by
   refine wR 2 101 (W.appZ Dk (eSN false) 72 hx98 rfl 101 (a := 100) (el := 37) (sz := 5) (by kernel_rfl) (fun _ => rfl) (wR 1 102 ?_))
   exact fI
   ) ?_
  refine CO.lay (tl 61 [(2, .sl false false (x59.map (eSN false)))]) [(0, .cells 128 [sL byteRow pa, V.i r35.2.1, V.i r35.2.2])] (LayOk.cons (j := 101) (eSN false) (eSN false) x59 (by kernel_rfl) (sh_eSN _) lO) (by kernel_rfl) (by kernel_rfl) (by kernel_rfl) (CO.ret ?_)
  have h := sI h
  subst h
  exact eG [(0, 0)] (.inr rfl) (RetV.one rfl (oT (t := 2) (r := .sl false false (x59.map (eSN false)))))
 exact sK hk52 (r2.1, r35.2.1, r35.2.2) h [(100, 100), (0, 0)] [3]

theorem ms_l7Spoilt_ok (N : Nat) (pa : LU) (pb : Int) (pc : Int) {r : (LN × Int × Int)} (h : ms_l7Spoilt N pa pb pc = some r) :
    AC Tryz.prog (GS []) 52 [.loc 0 0] [(0, .cells 128 [sL byteRow pa, V.i pb, V.i pc])] (.sl false false (r.1.map (eSN false))) [(0, .cells 128 [sL byteRow pa, V.i r.2.1, V.i r.2.2])] := by
 rw [ms_l7Spoilt] at h
 refine AC.enter Tryz.func52 rfl (cV 100 (bB h fun r2 hx2 h => (CO.sw mix (wR 1 100 (wC (ms_l7Any_ok N pa pb pc hx2) cok62 [(0, 0)] [(0, 0), (100, 100)] [100] (wR 1 101 (wF (bB h fun r4 hx4 h => ?_))))))))
 refine CO.sw mix (wR 2 101 (wN (eSN true) r2.1 [100] (wC (ms_l1Below_ok (r2.1.length : Int) pa r2.2.1 r2.2.2 hx4) cok63 [(0, 0)] [(0, 0)] [] (wR 1 101 (wF ?_)))))
 refine CO.join (fun (⟨y33, y34, y35⟩ : (LN × Int × Int)) => ⟨tl 53 [(3, .own 100)], [(100, .vec false 37 5 (y33.map (eSN true))), (0, .cells 128 [sL byteRow pa, V.i y34, V.i y35])]⟩) (fun i => ms_l7Spoilt_k1 N pa i = some r) ?_ ?_
 · rintro ⟨y33, y34, y35⟩ h38
   rw [ms_l7Spoilt_k1] at h38
   refine cU 2 102 (tl 53 [(2, .own 100)]) [(100, .vec false 37 5 (y33.map (eSN true))), (0, .cells 128 [sL byteRow pa, V.i y34, V.i y35])] (CO.lay (tl 53 [(2, .sl false false (y33.map (eSN false)))]) [(0, .cells 128 [sL byteRow pa, V.i y34, V.i y35])] (LayOk.cons (j := 100) (eSN true) (eSN false) y33 (by kernel_rfl) (sh_eSN _) lO) (by kernel_rfl) (by kernel_rfl) (by kernel_rfl) (CO.ret ?_))
   have h38 := sI h38
   subst h38
   exact eG [(0, 0)] (.inr rfl) (RetV.one rfl (oT (t := 2) (r := .sl false false (y33.map (eSN false)))))
 intro hk39
 refine bB h fun r37 hx41 h => (CO.sw mix (wR 1 101 (wC (ms_l1Below_ok 14 pa r4.2.1 r4.2.2 hx41) cok63 [(0, 0)] [(0, 0)] [] (wF (CO.block' (cV 101 ?_))))))
 refine cI h (fun _ h => ?_) (fun _ h => ?_)
 ·refine bB h fun r41 hx46 h => (bB h fun e42 hx47 h => (bB h fun x43 hu48 h => (CO.w mix (wR 3 101 (wC (ms_l1Below_ok 47 pa r37.2.1 r37.2.2 hx46) cok63 [(0, 0)] [(0, 0)] [] (W.ixO Dk (eSN true) hx47 100 5 (by kernel_rfl) (wR 1 101 (W.stO Dk (eSN true) (x' := (⟨r41.1, e42.Op, e42.Text, e42.Other, e42.Kids⟩ : SNode)) hx47 hu48 (j := 100) (nn := false) (ety := 37) (sz := 5) (b := 0) (ys := [V.i r41.1]) (C := []) (R := []) (by kernel_rfl) (by kernel_rfl) ?_))))))))
  exact wK hk39 (x43, r41.2.1, r41.2.2) h [(100, 100), (0, 0)] [3]
 refine cV 101 ?_
 refine cI h (fun _ h => ?_) (fun _ h => ?_)
 ·refine bB h fun r47 hx53 h => (bB h fun e48 hx54 h => (bB h fun x49 hu55 h => (CO.w mix (wR 4 101 (wD (ms_l1PickInt_ok [0, 1, 56, 99, 54, 51, (-1)] pa r37.2.1 r37.2.2 hx53) cok127 [(0, 0)] [(0, 0)] [] (LayOk.cons (j := 101) eNI eNI ([0, 1, 56, 99, 54, 51, (-1)] : List Int) (by kernel_rfl) (fun _ => rfl) lO) (W.ixO Dk (eSN true) hx54 100 5 (by kernel_rfl) (wR 1 102 (W.stO Dk (eSN true) (x' := (⟨e48.Kind, r47.1, e48.Text, e48.Other, e48.Kids⟩ : SNode)) hx54 hu55 (j := 100) (nn := false) (ety := 37) (sz := 5) (b := 1) (ys := [V.i r47.1]) (C := []) (R := []) (by kernel_rfl) (by kernel_rfl) ?_))))))))
  exact wK hk39 (x49, r47.2.1, r47.2.2) h [(100, 100), (0, 0)] [3]
 refine cV 101 ?_
 refine cI h (fun _ h => ?_) (fun _ h => ?_)
 ·refine bB h fun r53 hx60 h => (bB h fun e54 hx61 h => (bB h fun x55 hu62 h => (CO.w mix (wR 4 101 (wD (ms_l1Pick_ok [[], [120], [105, 102], [108, 101, 110, 103, 116, 104], [49], [47]] pa r37.2.1 r37.2.2 hx60) cok128 [(0, 0)] [(0, 0)] [] (LayOk.cons (j := 101) eNS eNS ([[], [120], [105, 102], [108, 101, 110, 103, 116, 104], [49], [47]] : LLU) (by kernel_rfl) (fun _ => rfl) lO) (W.ixO Dk (eSN true) hx61 100 5 (by kernel_rfl) (wR 1 102 (W.stO Dk (eSN true) (x' := (⟨e54.Kind, e54.Op, r53.1, e54.Other, e54.Kids⟩ : SNode)) hx61 hu62 (j := 100) (nn := false) (ety := 37) (sz := 5) (b := 2) (ys := [V.s r53.1]) (C := []) (R := []) (by kernel_rfl) (by kernel_rfl) ?_))))))))
  exact wK hk39 (x55, r53.2.1, r53.2.2) h [(100, 100), (0, 0)] [3]
 refine cV 101 ?_
 refine cI h (fun _ h => ?_) (fun _ h => ?_)
 ·refine bB h fun r59 hx67 h => (bB h fun e60 hx68 h => (bB h fun x61 hu69 h => (CO.w mix (wR 4 101 (wD (ms_l1Pick_ok [[], [62], [120]] pa r37.2.1 r37.2.2 hx67) cok128 [(0, 0)] [(0, 0)] [] (LayOk.cons (j := 101) eNS eNS ([[], [62], [120]] : LLU) (by kernel_rfl) (fun _ => rfl) lO) (W.ixO Dk (eSN true) hx68 100 5 (by kernel_rfl) (wR 1 102 (W.stO Dk (eSN true) (x' := (⟨e60.Kind, e60.Op, e60.Text, r59.1, e60.Kids⟩ : SNode)) hx68 hu69 (j := 100) (nn := false) (ety := 37) (sz := 5) (b := 3) (ys := [V.s r59.1]) (C := []) (R := []) (by kernel_rfl) (by kernel_rfl) ?_))))))))
  exact wK hk39 (x61, r59.2.1, r59.2.2) h [(100, 100), (0, 0)] [3]
 refine cV 101 ?_
 refine cI h (fun _ h => ?_) (fun _ h => ?_)
 ·refine bB h fun r63 hx72 h => (CO.sw mix (wR 1 101 (wC (ms_l6Bent_ok N pa r37.2.1 r37.2.2 hx72) cok129 [(0, 0)] [(0, 0)] [] (wR 1 101 (wF (CO.ret ?_))))))
  have h := sI h
  subst h
  exact eG [(0, 0)] (.inr rfl) (RetV.one rfl (oT (t := 2) (r := .sl false false (r63.1.map (eSN false)))))
 exact sK hk39 (r2.1, r37.2.1, r37.2.2) h [(100, 100), (0, 0)] [3]

theorem ms_l10Draw_ok (N : Nat) (pa : LU) (pb : Int) (pc : Int) {r : (LN × Int × Int)} (h : ms_l10Draw N pa pb pc = some r) :
    AC Tryz.prog (GS []) 86 [.loc 0 0] [(0, .cells 128 [sL byteRow pa, V.i pb, V.i pc])] (.sl false false (r.1.map (eSN false))) [(0, .cells 128 [sL byteRow pa, V.i r.2.1, V.i r.2.2])] := by
 rw [ms_l10Draw] at h
 refine AC.enter Tryz.func86 rfl (cV 100 (CO.seq' (bB h fun r6 hx7 h => (CO.sw mix (wR 1 100 (wC (ms_l1Once_ok 10 pa pb pc hx7) cok85 [(0, 0)] [(0, 0)] [] (wF ?_)))))))
 refine cI h (fun _ h => ?_) (fun _ h => ?_)
 ·refine bB h fun r8 hx10 h => (CO.sw mix (wR 1 100 (wC (ms_l7Spoilt_ok N pa r6.2.1 r6.2.2 hx10) cok52 [(0, 0)] [(0, 0)] [] (wR 1 100 (wF (CO.ret ?_))))))
  have h := sI h
  subst h
  exact eG [(0, 0)] (.inr rfl) (RetV.one rfl (oT (t := 2) (r := .sl false false (r8.1.map (eSN false)))))
 refine CO.skip (bB h fun r10 hx12 h => ?_)
 refine CO.cutR (tl 9 [(2, .own 100)]) [(100, .vec false 37 5 (r10.1.map (eSN true))), (0, .cells 128 [sL byteRow pa, V.i r10.2.1, V.i r10.2.2])] mix (by
  refine wR 1 100 (wC (ms_l7Some_ok N pa r6.2.1 r6.2.2 hx12) cok138 [(0, 0)] [(0, 0), (100, 100)] [100] (wR 1 101 ?_))
  exact fI
  ) ?_
 refine CO.lay (tl 9 [(2, .sl false false (r10.1.map (eSN false)))]) [(0, .cells 128 [sL byteRow pa, V.i r10.2.1, V.i r10.2.2])] (LayOk.cons (j := 100) (eSN true) (eSN false) r10.1 (by kernel_rfl) (sh_eSN _) lO) (by kernel_rfl) (by kernel_rfl) (by kernel_rfl) (CO.ret ?_)
 have h := sI h
 subst h
 exact eG [(0, 0)] (.inr rfl) (RetV.one rfl (oT (t := 2) (r := .sl false false (r10.1.map (eSN false)))))

structure RecOk3 (R : Rec3) : Prop where
 ms_l27Expr : ∀ (a1 : Int) (pa : LU) (pb : Int) (pc : Int) (r : (LN × Int × Int)), R.ms_l27Expr a1 pa pb pc = some r → AC Tryz.prog (GS []) 89 [.loc 0 0, V.i a1] [(0, .cells 128 [sL byteRow pa, V.i pb, V.i pc])] (.own 100) [(0, .cells 128 [sL byteRow pa, V.i r.2.1, V.i r.2.2]), (100, .vec false 37 5 (r.1.map (eSN true)))]

theorem ms_l27Expr_F_ok (N : Nat) (R : Rec3) (HR : RecOk3 R) (a1 : Int) (pa : LU) (pb : Int) (pc : Int) {r : (LN × Int × Int)} (h : ms_l27Expr_F N R a1 pa pb pc = some r) :
    AC Tryz.prog (GS []) 89 [.loc 0 0, V.i a1] [(0, .cells 128 [sL byteRow pa, V.i pb, V.i pc])] (.own 100) [(0, .cells 128 [sL byteRow pa, V.i r.2.1, V.i r.2.2]), (100, .vec false 37 5 (r.1.map (eSN true)))] := by
 rw [ms_l27Expr_F] at h
 refine AC.enter Tryz.func89 rfl (cV 100 (bB h fun r2 hx2 h => (CO.sw mix (wR 1 100 (wC (ms_l1Below_ok 10 pa pb pc hx2) cok63 [(0, 0)] [(0, 0)] [] (wR 1 100 (wF ?_)))))))
 refine CO.join (fun (⟨a1, y5, y6, y7⟩ : (Int × Int × Int × Int)) => ⟨tl 73 [(0, .loc 0 0), (1, V.i a1), (5, V.i y5)], [(0, .cells 128 [sL byteRow pa, V.i y6, V.i y7])]⟩) (fun i => ms_l27Expr_k1 N R pa i = some r) ?_ ?_
 · rintro ⟨a1, y5, y6, y7⟩ h6
   rw [ms_l27Expr_k1] at h6
   refine CO.seq' (cV 100 (CO.block' (cV 100 ?_)))
   refine cI h6 (fun _ h6 => ?_) (fun _ h6 => ?_)
   ·refine bB h6 fun r28 hx35 h6 => (CO.sw mix (wR 2 100 (wD (ms_l1Pick_ok [[120], [121], [110]] pa y6 y7 hx35) cok128 [(0, 0)] [(0, 0)] [] (LayOk.cons (j := 100) eNS eNS ([[120], [121], [110]] : LLU) (by kernel_rfl) (fun _ => rfl) lO) (wR 3 101 (wF (CO.ret ?_))))))
    cases h6
    exact eG [(0, 0), (101, 100)] (.inr rfl) (RetV.one rfl (oT (t := 4) (r := .own 101)))
   refine CO.join (fun (⟨a1, y5, y6, y7, y29⟩ : (Int × Int × Int × Int × Bool)) => ⟨tl 73 [(0, .loc 0 0), (1, V.i a1), (13, V.i y5), (21, V.b y29)], [(0, .cells 128 [sL byteRow pa, V.i y6, V.i y7])]⟩) (fun i => ms_l27Expr_k2 N R pa i = some r) ?_ ?_
   · rintro ⟨a1, y5, y6, y7, y29⟩ h37
     rw [ms_l27Expr_k2] at h37
     refine cI h37 (fun _ h37 => ?_) (fun _ h37 => ?_)
     ·refine bB h37 fun r31 hx40 h37 => (CO.sw mix (wR 2 100 (wD (ms_l1Pick_ok [[48], [49], [50], [55], [49, 48], [57, 57, 57, 57, 57, 57, 57, 57, 57], [51, 46, 53]] pa y6 y7 hx40) cok128 [(0, 0)] [(0, 0)] [] (LayOk.cons (j := 100) eNS eNS ([[48], [49], [50], [55], [49, 48], [57, 57, 57, 57, 57, 57, 57, 57, 57], [51, 46, 53]] : LLU) (by kernel_rfl) (fun _ => rfl) lO) (wR 3 101 (wF (CO.ret ?_))))))
      cases h37
      exact eG [(0, 0), (101, 100)] (.inr rfl) (RetV.one rfl (oT (t := 4) (r := .own 101)))
     refine cV 100 ?_
     refine cI h37 (fun _ h37 => ?_) (fun _ h37 => ?_)
     ·refine bB h37 fun r35 hx45 h37 => (bB h37 fun r36 hx46 h37 => (bB h37 fun r37 hx47 h37 => (CO.sw mix (wR 2 100 (wD (ms_l1PickInt_ok [56, 61, 55] pa y6 y7 hx45) cok127 [(0, 0)] [(0, 0)] [] (LayOk.cons (j := 100) eNI eNI ([56, 61, 55] : List Int) (by kernel_rfl) (fun _ => rfl) lO) (wR 4 101 (wC (HR.ms_l27Expr (wr (a1 - 1)) pa r35.2.1 r35.2.2 _ hx46) cok89 [(0, 0)] [(0, 0), (100, 101)] [101] (wR 1 102 ?_))))))))
      refine W.lend (ms_l6Make_ok N (⟨11, r35.1, [], [], []⟩ : SNode) [r36.1] hx47) cok87 [(100, 103)] [103] (LayOk.cons (j := 102) (encL true (eSN true)) (encL false (eSN false)) ([r36.1] : List LN) (by kernel_rfl) (share_encL _ (sh_eSN _)) lO) (.own _) (.cons (DeepR.map (fun _ => (.cons (.c _) (.cons (.c _) (.cons (.c _) (.cons (.c _) (.cons (.sl _ _ (DeepR.map (fun _ => (.cons (.c _) .nil)) _)) .nil)))))) _) .nil) (by kernel_rfl) (by kernel_rfl) (wR 1 104 (wF (CO.ret ?_)))
      cases h37
      exact eG [(0, 0), (103, 100)] (.inr rfl) (RetV.one rfl (oT (t := 4) (r := .own 103)))
     refine cV 100 ?_
     refine cI h37 (fun _ h37 => ?_) (fun _ h37 => ?_)
     ·refine bB h37 fun r42 hx53 h37 => (bB h37 fun r43 hx54 h37 => (bB h37 fun r44 hx55 h37 => (bB h37 fun r45 hx56 h37 => (CO.sw mix (wR 4 100 (wC (HR.ms_l27Expr (wr (a1 - 1)) pa y6 y7 _ hx53) cok89 [(0, 0)] [(0, 0), (100, 100)] [100] (wR 3 101 (wC (HR.ms_l27Expr (wr (a1 - 1)) pa r42.2.1 r42.2.2 _ hx54) cok89 [(0, 0)] [(0, 0), (100, 101)] [101] ?_))))))))
      refine wR 3 102 (wC (HR.ms_l27Expr (wr (a1 - 1)) pa r43.2.1 r43.2.2 _ hx55) cok89 [(0, 0)] [(0, 0), (100, 102)] [102] (wR 1 103 (W.lend (ms_l6Make_ok N (⟨14, 0, [], [], []⟩ : SNode) [r42.1, r43.1, r44.1] hx56) cok87 [(100, 104)] [104] (LayOk.cons (j := 103) (encL true (eSN true)) (encL false (eSN false)) ([r42.1, r43.1, r44.1] : List LN) (by kernel_rfl) (share_encL _ (sh_eSN _)) lO) (.own _) (.cons (DeepR.map (fun _ => (.cons (.c _) (.cons (.c _) (.cons (.c _) (.cons (.c _) (.cons (.sl _ _ (DeepR.map (fun _ => (.cons (.c _) .nil)) _)) .nil)))))) _) .nil) (by kernel_rfl) (by kernel_rfl) (wR 1 105 (wF (CO.ret ?_))))))
      cases h37
      exact eG [(0, 0), (104, 100)] (.inr rfl) (RetV.one rfl (oT (t := 4) (r := .own 104)))
     refine CO.skip (bB h37 fun r47 hx58 h37 => (CO.sw mix (wR 2 100 (wD (ms_l1PickInt_ok [55, 56, 57, 59, 63, 47, 49, 45, 44, 55, 50, 62, 48, 58] pa y6 y7 hx58) cok127 [(0, 0)] [(0, 0)] [] (LayOk.cons (j := 100) eNI eNI ([55, 56, 57, 59, 63, 47, 49, 45, 44, 55, 50, 62, 48, 58] : List Int) (by kernel_rfl) (fun _ => rfl) lO) (wR 1 101 (wF (bB h37 fun r51 hx62 h37 => (bB h37 fun r52 hx63 h37 => ?_))))))))
     refine bB h37 fun r53 hx64 h37 => (CO.sw mix (wR 5 101 (wC (HR.ms_l27Expr (wr (a1 - 1)) pa r47.2.1 r47.2.2 _ hx62) cok89 [(0, 0)] [(0, 0), (100, 101)] [101] (wR 3 102 (wC (HR.ms_l27Expr (wr (a1 - 1)) pa r51.2.1 r51.2.2 _ hx63) cok89 [(0, 0)] [(0, 0), (100, 102)] [102] (wR 1 103 (W.lend (ms_l6Make_ok N (⟨12, r47.1, [], [], []⟩ : SNode) [r51.1, r52.1] hx64) cok87 [(100, 104)] [104] (LayOk.cons (j := 103) (encL true (eSN true)) (encL false (eSN false)) ([r51.1, r52.1] : List LN) (by kernel_rfl) (share_encL _ (sh_eSN _)) lO) (.own _) (.cons (DeepR.map (fun _ => (.cons (.c _) (.cons (.c _) (.cons (.c _) (.cons (.c _) (.cons (.sl _ _ (DeepR.map (fun _ => (.cons (.c _) .nil)) _)) .nil)))))) _) .nil) (by kernel_rfl) (by kernel_rfl) (wR 1 105 ?_))))))))
     refine wF (CO.ret ?_)
     cases h37
     exact eG [(0, 0), (104, 100)] (.inr rfl) (RetV.one rfl (oT (t := 4) (r := .own 104)))
   intro hk65
   refine cV 100 ?_
   refine cI h6 (fun _ h6 => ?_) (fun _ h6 => ?_)
   ·exact sK hk65 (a1, y5, y6, y7, (y5 == 1)) h6 [(0, 0)] [0, 1, 13, 21]
   exact cK 100 hk65 (a1, y5, y6, y7, (y5 == 2)) h6 [(0, 0)] [0, 1, 13, 21]
 intro hk67
 refine cV 100 ?_
 refine cI h (fun _ h => ?_) (fun _ h => ?_)
 ·refine bB h fun r55 hx70 h => (CO.w mix (wR 1 100 (wC (ms_l1Below_ok 3 pa r2.2.1 r2.2.2 hx70) cok63 [(0, 0)] [(0, 0)] [] (wR 1 100 ?_))))
  exact wK hk67 (a1, r55.1, r55.2.1, r55.2.2) h [(0, 0)] [0, 1, 5]
 exact sK hk67 (a1, r2.1, r2.2.1, r2.2.2) h [(0, 0)] [0, 1, 5]

theorem scc3_ok : ∀ N, RecOk3 (scc3 N)
 | 0 => ⟨fun _ _ _ _ _ h => (by cases h)⟩
 | N + 1 => ⟨fun a1 pa pb pc _ h => ms_l27Expr_F_ok N (scc3 N) (scc3_ok N) a1 pa pb pc h⟩

theorem ms_l27Expr_ok (N : Nat) (a1 : Int) (pa : LU) (pb : Int) (pc : Int) {r : (LN × Int × Int)} (h : ms_l27Expr N a1 pa pb pc = some r) :
  AC Tryz.prog (GS []) 89 [.loc 0 0, V.i a1] [(0, .cells 128 [sL byteRow pa, V.i pb, V.i pc])] (.own 100) [(0, .cells 128 [sL byteRow pa, V.i r.2.1, V.i r.2.2]), (100, .vec false 37 5 (r.1.map (eSN true)))] :=
 (scc3_ok N).ms_l27Expr a1 pa pb pc r h

structure RecOk4 (R : Rec4) : Prop where
 ms_l39Expr : ∀ (a1 : Int) (pa : LU) (pb : Int) (pc : Int) (r : (LN × Int × Int)), R.ms_l39Expr a1 pa pb pc = some r → AC Tryz.prog (GS []) 154 [.loc 0 0, V.i a1] [(0, .cells 128 [sL byteRow pa, V.i pb, V.i pc])] (.own 100) [(0, .cells 128 [sL byteRow pa, V.i r.2.1, V.i r.2.2]), (100, .vec false 37 5 (r.1.map (eSN true)))]

theorem ms_l39Expr_F_ok (N : Nat) (R : Rec4) (HR : RecOk4 R) (a1 : Int) (pa : LU) (pb : Int) (pc : Int) {r : (LN × Int × Int)} (h : ms_l39Expr_F N R a1 pa pb pc = some r) :
    AC Tryz.prog (GS []) 154 [.loc 0 0, V.i a1] [(0, .cells 128 [sL byteRow pa, V.i pb, V.i pc])] (.own 100) [(0, .cells 128 [sL byteRow pa, V.i r.2.1, V.i r.2.2]), (100, .vec false 37 5 (r.1.map (eSN true)))] := by
 rw [ms_l39Expr_F] at h
 refine AC.enter Tryz.func154 rfl (cV 100 (CO.seq' (cV 100 ?_)))
 refine cI h (fun _ h => ?_) (fun _ h => ?_)
 ·refine bB h fun r4 hx6 h => (CO.sw mix (wR 1 100 (wC (ms_l27Expr_ok N 1 pa pb pc hx6) cok89 [(0, 0)] [(0, 0), (100, 100)] [100] (wR 1 101 (wF (CO.ret ?_))))))
  cases h
  exact eG [(0, 0), (100, 100)] (.inr rfl) (RetV.one rfl (oT (t := 4) (r := .own 100)))
 refine CO.skip (CO.seq' (bB h fun r21 hx28 h => (CO.sw mix (wR 1 100 (wC (ms_l1Below_ok 4 pa pb pc hx28) cok63 [(0, 0)] [(0, 0)] [] (wF (CO.block' ?_)))))))
 refine CO.join (fun (⟨a1, r21, y22⟩ : (Int × (Int × Int × Int) × Bool)) => ⟨tl 39 [(0, .loc 0 0), (1, V.i a1), (10, V.i r21.1), (11, V.b y22)], [(0, .cells 128 [sL byteRow pa, V.i r21.2.1, V.i r21.2.2])]⟩) (fun i => ms_l39Expr_k1 N R pa i = some r) ?_ ?_
 · rintro ⟨a1, r21, y22⟩ h30
   rw [ms_l39Expr_k1] at h30
   refine cI h30 (fun _ h30 => ?_) (fun _ h30 => ?_)
   ·refine bB h30 fun r25 hx34 h30 => (bB h30 fun r26 hx35 h30 => (CO.sw mix (wR 4 100 (wC (HR.ms_l39Expr (wr (a1 - 1)) pa r21.2.1 r21.2.2 _ hx34) cok154 [(0, 0)] [(0, 0), (100, 100)] [100] (wR 1 101 (W.lend (ms_l6Make_ok N (⟨11, 61, [], [], []⟩ : SNode) [r25.1] hx35) cok87 [(100, 102)] [102] (LayOk.cons (j := 101) (encL true (eSN true)) (encL false (eSN false)) ([r25.1] : List LN) (by kernel_rfl) (share_encL _ (sh_eSN _)) lO) (.own _) (.cons (DeepR.map (fun _ => (.cons (.c _) (.cons (.c _) (.cons (.c _) (.cons (.c _) (.cons (.sl _ _ (DeepR.map (fun _ => (.cons (.c _) .nil)) _)) .nil)))))) _) .nil) (by kernel_rfl) (by kernel_rfl) (wR 1 103 (wF ?_))))))))
    refine CO.ret ?_
    cases h30
    exact eG [(0, 0), (102, 100)] (.inr rfl) (RetV.one rfl (oT (t := 4) (r := .own 102)))
   refine cV 100 ?_
   refine cI h30 (fun _ h30 => ?_) (fun _ h30 => ?_)
   ·refine bB h30 fun r31 hx41 h30 => (bB h30 fun r32 hx42 h30 => (bB h30 fun r33 hx43 h30 => (bB h30 fun r34 hx44 h30 => (CO.sw mix (wR 2 100 (wD (ms_l1PickInt_ok [45, 44] pa r21.2.1 r21.2.2 hx41) cok127 [(0, 0)] [(0, 0)] [] (LayOk.cons (j := 100) eNI eNI ([45, 44] : List Int) (by kernel_rfl) (fun _ => rfl) lO) (wR 4 101 (wC (HR.ms_l39Expr (wr (a1 - 1)) pa r31.2.1 r31.2.2 _ hx42) cok154 [(0, 0)] [(0, 0), (100, 101)] [101] ?_))))))))
    refine wR 3 102 (wC (HR.ms_l39Expr (wr (a1 - 1)) pa r32.2.1 r32.2.2 _ hx43) cok154 [(0, 0)] [(0, 0), (100, 102)] [102] (wR 1 103 (W.lend (ms_l6Make_ok N (⟨12, r31.1, [], [], []⟩ : SNode) [r32.1, r33.1] hx44) cok87 [(100, 104)] [104] (LayOk.cons (j := 103) (encL true (eSN true)) (encL false (eSN false)) ([r32.1, r33.1] : List LN) (by kernel_rfl) (share_encL _ (sh_eSN _)) lO) (.own _) (.cons (DeepR.map (fun _ => (.cons (.c _) (.cons (.c _) (.cons (.c _) (.cons (.c _) (.cons (.sl _ _ (DeepR.map (fun _ => (.cons (.c _) .nil)) _)) .nil)))))) _) .nil) (by kernel_rfl) (by kernel_rfl) (wR 1 105 (wF (CO.ret ?_))))))
    cases h30
    exact eG [(0, 0), (104, 100)] (.inr rfl) (RetV.one rfl (oT (t := 4) (r := .own 104)))
   refine CO.skip (bB h30 fun r36 hx46 h30 => (CO.sw mix (wR 1 100 (wC (ms_l27Expr_ok N 2 pa r21.2.1 r21.2.2 hx46) cok89 [(0, 0)] [(0, 0), (100, 100)] [100] (wR 1 101 (wF (CO.ret ?_)))))))
   cases h30
   exact eG [(0, 0), (100, 100)] (.inr rfl) (RetV.one rfl (oT (t := 4) (r := .own 100)))
 intro hk47
 refine cV 100 ?_
 refine cI h (fun _ h => ?_) (fun _ h => ?_)
 ·exact sK hk47 (a1, r21, (r21.1 == 0)) h [(0, 0)] [0, 1, 10, 11]
 exact cK 100 hk47 (a1, r21, (r21.1 == 1)) h [(0, 0)] [0, 1, 10, 11]

theorem scc4_ok : ∀ N, RecOk4 (scc4 N)
 | 0 => ⟨fun _ _ _ _ _ h => (by cases h)⟩
 | N + 1 => ⟨fun a1 pa pb pc _ h => ms_l39Expr_F_ok N (scc4 N) (scc4_ok N) a1 pa pb pc h⟩

theorem ms_l39Expr_ok (N : Nat) (a1 : Int) (pa : LU) (pb : Int) (pc : Int) {r : (LN × Int × Int)} (h : ms_l39Expr N a1 pa pb pc = some r) :
  AC Tryz.prog (GS []) 154 [.loc 0 0, V.i a1] [(0, .cells 128 [sL byteRow pa, V.i pb, V.i pc])] (.own 100) [(0, .cells 128 [sL byteRow pa, V.i r.2.1, V.i r.2.2]), (100, .vec false 37 5 (r.1.map (eSN true)))] :=
 (scc4_ok N).ms_l39Expr a1 pa pb pc r h

theorem ms_l39Draw_ok (N : Nat) (pa : LU) (pb : Int) (pc : Int) {r : (LN × Int × Int)} (h : ms_l39Draw N pa pb pc = some r) :
    AC Tryz.prog (GS []) 95 [.loc 0 0] [(0, .cells 128 [sL byteRow pa, V.i pb, V.i pc])] (.sl false false (r.1.map (eSN false))) [(0, .cells 128 [sL byteRow pa, V.i r.2.1, V.i r.2.2])] := by
 rw [ms_l39Draw] at h
 refine AC.enter Tryz.func95 rfl (cV 100 (CO.seq' (bB h fun r6 hx7 h => (CO.sw mix (wR 1 100 (wC (ms_l1Once_ok 5 pa pb pc hx7) cok85 [(0, 0)] [(0, 0)] [] (wF ?_)))))))
 refine cI h (fun _ h => ?_) (fun _ h => ?_)
 ·refine bB h fun r8 hx10 h => (CO.sw mix (wR 1 100 (wC (ms_l10Draw_ok N pa r6.2.1 r6.2.2 hx10) cok86 [(0, 0)] [(0, 0)] [] (wR 1 100 (wF (CO.ret ?_))))))
  have h := sI h
  subst h
  exact eG [(0, 0)] (.inr rfl) (RetV.one rfl (oT (t := 2) (r := .sl false false (r8.1.map (eSN false)))))
 refine CO.skip (bB h fun r11 hx13 h => (bB h fun r12 hx14 h => ?_))
 refine CO.cutR (tl 12 [(2, .own 100)]) [(100, .vec false 37 5 (r12.1.map (eSN true))), (0, .cells 128 [sL byteRow pa, V.i r12.2.1, V.i r12.2.2])] mix (by
  refine wR 2 100 (wC (ms_l1Below_ok 4 pa r6.2.1 r6.2.2 hx13) cok63 [(0, 0)] [(0, 0)] [] (wR 1 100 (wC (ms_l39Expr_ok N (wr (1 + r11.1)) pa r11.2.1 r11.2.2 hx14) cok154 [(0, 0)] [(0, 0), (100, 100)] [100] (wR 1 101 ?_))))
  exact fI
  ) ?_
 refine CO.lay (tl 12 [(2, .sl false false (r12.1.map (eSN false)))]) [(0, .cells 128 [sL byteRow pa, V.i r12.2.1, V.i r12.2.2])] (LayOk.cons (j := 100) (eSN true) (eSN false) r12.1 (by kernel_rfl) (sh_eSN _) lO) (by kernel_rfl) (by kernel_rfl) (by kernel_rfl) (CO.ret ?_)
 have h := sI h
 subst h
 exact eG [(0, 0)] (.inr rfl) (RetV.one rfl (oT (t := 2) (r := .sl false false (r12.1.map (eSN false)))))

theorem ms_DrawPushNot_ok (N : Nat) (a0 : LU) {r : LN} (h : ms_DrawPushNot N a0 = some r) :
    AC Tryz.prog (GS []) 29 [sL byteRow a0] [] (.sl false false (r.map (eSN false))) [] := by
 rw [ms_DrawPushNot] at h
 refine AC.enter Tryz.func29 rfl (cV 100 (bB h fun r3 hx3 h => (bB h fun r4 hx4 h => (CO.sw mix (wR 1 100 (wC (ms_l1New_ok N a0 hx3) cok53 [] [(100, 100)] [100] (wC (ms_l39Draw_ok N r3.1 r3.2.1 r3.2.2 hx4) cok95 [(100, 0)] [(0, 100)] [] (wR 1 101 ?_))))))))
 refine wF ?_
 cases h
 exact e1 2 id

theorem mi_within_ok (a0 : Int) (a1 : Int) (a2 : Int) {r : Bool} (h : mi_within a0 a1 a2 = some r) :
    AC Tryz.prog (GS []) 70 [V.i a0, V.i a1, V.i a2] [] (V.b r) [] := by
 rw [mi_within] at h
 refine AC.enter Tryz.func70 rfl (cV 100 (bB h fun y1 hv2 h => ?_))
 refine CO.cutR (tl 15 [(6, V.b y1)]) [] mix (by
  refine wR 4 100 ?_
  refine wJ 10 hv2 (fun hv2 => ?_) (fun hv2 => ?_)
  ·refine wR 5 100 ?_
   cases hv2
   exact fS [] [6]
  refine wR 5 100 ?_
  cases hv2
  exact fS [] [6]
  ) ?_
 cases h
 exact e1 6 id

theorem mi_startsOf_ok (N : Nat) (a0 : LN) {r : ((List Int) × Bool)} (h : mi_startsOf N a0 = some r) :
    AC Tryz.prog (GS []) 180 [.sl false false (a0.map (eSN false))] [] (.tup [.own 100, V.b r.2]) [(100, vX 3 1 eNI r.1)] := by
 rw [mi_startsOf] at h
 refine AC.enter Tryz.func180 rfl (cV 100 (CO.seq' (bB h fun r4 hx5 h => (CO.sw mix (wR 1 102 (wN (eSN false) a0 [] (w0 (mi_within_ok (a0.length : Int) 1 400 hx5) cok70 (wR 1 102 ?_))))))))
 refine wF ?_
 refine cI h (fun _ h => ?_) (fun _ h => ?_)
 ·refine cV 102 (CO.weak (Weak.nilCell 100 0 102 3 1 (ety := 35) (cs := [.c (.slice none 0 0)]) (by kernel_rfl) (by kernel_rfl) (by kernel_rfl)) (CO.ret ?_))
  cases h
  exact eG [(102, 100)] (.inr rfl) (RetV.two rfl (OneR.cell Dk (r := .own 102) (i := 100) (ety := 35) (cs := [.own 102]) (by kernel_rfl) (by kernel_rfl) (by kernel_rfl)) (OneR.cell Dk (r := V.b false) (i := 101) (ety := 4) (cs := [V.b false]) (by kernel_rfl) (by kernel_rfl) (by kernel_rfl)))
 refine CO.skip (bB h fun x6 hx8 h => (CO.sw mix (wR 1 102 (wN (eSN false) a0 [] (W.mk Dk eNI 8 hx8 102 3 1 [.int .i64 0] (by kernel_rfl) (by kernel_rfl) (wR 2 103 (wF (CO.seq' ?_))))))))
 refine CO.sw mix (wR 1 104 (wN (eSN false) a0 [] (wR 1 104 (wF (CO.block' (CO.loopJ (fun (⟨a0, y203, y204⟩ : (LN × Int × (List Int))) => ⟨tl 57 [(0, .sl false false (a0.map (eSN false))), (2, .loc 100 0), (3, .loc 101 0), (4, .loc 102 0), (17, .sl false false (a0.map (eSN false))), (18, V.i (a0.length : Int)), (19, V.i y203)], [(100, .cells 35 [.c (.slice none 0 0)]), (101, .cells 4 [V.b false]), (102, .cells 35 [.own 103]), (103, vX 3 1 eNI y204)]⟩) (fun n i => mi_startsOf_l1 N n i = some r) (n0 := N) (i0 := (a0, 0, x6)) (wS [(100, 100), (101, 101), (103, 102), (102, 103)] [0, 2, 3, 4, 17, 18, 19]) h (fun i h => by simp [mi_startsOf_l1] at h) ?_))))))
 rintro n1 ⟨a0, y203, y204⟩ h481 ih482
 rw [mi_startsOf_l1] at h481
 refine cV 272 (CO.seq' ?_)
 refine cI h481 (fun _ h481 => ?_) (fun _ h481 => ?_)
 ·refine CO.skip (CO.seq' (CO.block' (bB h481 fun e322 hx556 h481 => (CO.sw mix (wR 1 272 (wX (eSN false) hx556 5 (wR 4 272 (wF ?_))))))))
  refine cV 273 (CO.seq' (CO.sw mix (wR 2 274 (wC (back220 e322.Kids) cok220 [] [(100, 274)] [274] (wF (CO.block' ?_))))))
  refine CO.rangeB backok249 cok249 V.i e322.Kids [(100, 2), (101, 3), (102, 4), (273, 1), (274, 0), (103, 5)] [0, 2, 3, 4, 5, 7, 17, 18, 19, 28] (tl 57 [(0, .sl false false (a0.map (eSN false))), (2, .loc 2 0), (3, .loc 3 0), (4, .loc 4 0), (5, V.i y203), (7, .loc 1 0), (17, .sl false false (a0.map (eSN false))), (18, V.i (a0.length : Int)), (19, V.i y203), (28, .fn 249 [.loc 0 0])]) (wr (y203 - 1)) (fun (y345 : Int) => [(2, .cells 35 [.c (.slice none 0 0)]), (3, .cells 4 [V.b false]), (4, .cells 35 [.own 5]), (1, .cells 3 [V.i y345]), (0, .cells 35 [sL eNI e322.Kids]), (5, vX 3 1 eNI y204)]) (fun es i => mi_startsOf_r2 N (mi_startsOf_l1 N n1) a0 y203 e322 y204 es i = some r) 0 35 false 29 30 (by kernel_rfl) (by kernel_rfl) (by kernel_rfl) (by kernel_rfl) (by rintro y345; kernel_rfl) h481 ?_ ?_
  ·rintro e339 es340 y345 h609 L
   rw [mi_startsOf_r2] at h609
   refine ⟨tl 57 [(0, .sl false false (a0.map (eSN false))), (2, .loc 2 0), (3, .loc 3 0), (4, .loc 4 0), (5, V.i y203), (7, .loc 1 0), (9, V.i e339), (17, .sl false false (a0.map (eSN false))), (18, V.i (a0.length : Int)), (19, V.i y203), (28, .fn 249 [.loc 0 0])], [(2, .cells 35 [.c (.slice none 0 0)]), (3, .cells 4 [V.b false]), (4, .cells 35 [.own 5]), (1, .cells 3 [V.i y345]), (0, .cells 35 [sL eNI e322.Kids]), (5, vX 3 1 eNI y204)], ?_, ?_⟩
   ·refine cE 1 316 (tl 57 [(0, .sl false false (a0.map (eSN false))), (2, .loc 2 0), (3, .loc 3 0), (4, .loc 4 0), (5, V.i y203), (7, .loc 1 0), (9, V.i e339), (17, .sl false false (a0.map (eSN false))), (18, V.i (a0.length : Int)), (19, V.i y203), (28, .fn 249 [.loc 0 0])]) [(2, .cells 35 [.c (.slice none 0 0)]), (3, .cells 4 [V.b false]), (4, .cells 35 [.own 5]), (1, .cells 3 [V.i y345]), (0, .cells 35 [sL eNI e322.Kids]), (5, vX 3 1 eNI y204)] (fun st hw => ?_)
    exact ⟨rfl, hw⟩
   ·refine CO.block' (CO.seq' (bB h609 fun y352 hv616 h609 => ?_))
    refine CO.cutR (tl 57 [(0, .sl false false (a0.map (eSN false))), (2, .loc 2 0), (3, .loc 3 0), (4, .loc 4 0), (5, V.i y203), (7, .loc 1 0), (9, V.i e339), (17, .sl false false (a0.map (eSN false))), (18, V.i (a0.length : Int)), (19, V.i y203), (28, .fn 249 [.loc 0 0]), (37, V.b y352)]) [(2, .cells 35 [.c (.slice none 0 0)]), (3, .cells 4 [V.b false]), (4, .cells 35 [.own 5]), (1, .cells 3 [V.i y345]), (0, .cells 35 [sL eNI e322.Kids]), (5, vX 3 1 eNI y204)] mix (by
     refine wR 3 316 ?_
     refine wJ 33 hv616 (fun hv616 => ?_) (fun hv616 => ?_)
     ·refine wR 4 316 ?_
      cases hv616
      exact fS [(2, 2), (3, 3), (4, 4), (1, 1), (0, 0), (5, 5)] [0, 2, 3, 4, 5, 7, 9, 17, 18, 19, 28, 37]
     refine wR 4 316 ?_
     cases hv616
     exact fS [(2, 2), (3, 3), (4, 4), (1, 1), (0, 0), (5, 5)] [0, 2, 3, 4, 5, 7, 9, 17, 18, 19, 28, 37]
     ) ?_
    refine cI h609 (fun _ h609 => ?_) (fun _ h609 => ?_)
    ·refine cV 316 (CO.weak (Weak.nilCell 2 0 316 3 1 (ety := 35) (cs := [.c (.slice none 0 0)]) (by kernel_rfl) (by kernel_rfl) (by kernel_rfl)) (CO.ret (Fin.mk' [(316, 316), (3, 101), (2, 100), (4, 102), (1, 273), (0, 274), (5, 103)] [0, 2, 3, 4, 5, 7, 17, 18, 19, 28] (tl 57 [(0, .sl false false (a0.map (eSN false))), (2, .loc 100 0), (3, .loc 101 0), (4, .loc 102 0), (5, V.i y203), (7, .loc 273 0), (17, .sl false false (a0.map (eSN false))), (18, V.i (a0.length : Int)), (19, V.i y203), (28, .fn 249 [.loc 274 0])]) [(316, vX 3 1 eNI []), (101, .cells 4 [V.b false]), (100, .cells 35 [.own 316]), (102, .cells 35 [.own 103]), (273, .cells 3 [V.i y345]), (274, .cells 35 [sL eNI e322.Kids]), (103, vX 3 1 eNI y204)] (by kernel_rfl) (by kernel_rfl) (by kernel_rfl) ?_)))
     cases h609
     exact eG [(316, 100)] (.inr rfl) (RetV.two rfl (OneR.cell Dk (r := .own 316) (i := 100) (ety := 35) (cs := [.own 316]) (by kernel_rfl) (by kernel_rfl) (by kernel_rfl)) (OneR.cell Dk (r := V.b false) (i := 101) (ety := 4) (cs := [V.b false]) (by kernel_rfl) (by kernel_rfl) (by kernel_rfl)))
    refine CO.skip (bB h609 fun e354 hx620 h609 => ?_)
    refine CO.endR (tl 57 [(0, .sl false false (a0.map (eSN false))), (2, .loc 2 0), (3, .loc 3 0), (4, .loc 4 0), (5, V.i y203), (7, .loc 1 0), (17, .sl false false (a0.map (eSN false))), (18, V.i (a0.length : Int)), (19, V.i y203), (28, .fn 249 [.loc 0 0])]) [(1, .cells 3 [V.i (wr (e354 - 1))]), (2, .cells 35 [.c (.slice none 0 0)]), (3, .cells 4 [V.b false]), (4, .cells 35 [.own 5]), (0, .cells 35 [sL eNI e322.Kids]), (5, vX 3 1 eNI y204)] mix (by
     refine wR 2 316 (W.ixO Dk eNI hx620 5 1 (by kernel_rfl) (W.ldO Dk eNI hx620 3 5 0 (V.i e354) (by kernel_rfl) (by kernel_rfl) (wR 2 316 ?_)))
     exact fI
     ) (fun st hw => ?_)
    exact ⟨tl 57 [], _, (hw.trans (wS [(2, 2), (3, 3), (4, 4), (1, 1), (0, 0), (5, 5)] [])), (wr (e354 - 1)), h609, rfl⟩
  ·rintro y345 h610
   rw [mi_startsOf_r2] at h610
   refine Fin.mk' [(2, 100), (3, 101), (4, 102), (1, 273), (0, 274), (5, 103)] [0, 2, 3, 4, 5, 7, 17, 18, 19, 28] (tl 57 [(0, .sl false false (a0.map (eSN false))), (2, .loc 100 0), (3, .loc 101 0), (4, .loc 102 0), (5, V.i y203), (7, .loc 273 0), (17, .sl false false (a0.map (eSN false))), (18, V.i (a0.length : Int)), (19, V.i y203), (28, .fn 249 [.loc 274 0])]) [(100, .cells 35 [.c (.slice none 0 0)]), (101, .cells 4 [V.b false]), (102, .cells 35 [.own 103]), (273, .cells 3 [V.i y345]), (274, .cells 35 [sL eNI e322.Kids]), (103, vX 3 1 eNI y204)] (by kernel_rfl) (by kernel_rfl) (by kernel_rfl) (bB h610 fun e357 hx623 h610 => (bB h610 fun x358 hu624 h610 => ?_))
   refine CO.endR (tl 57 [(0, .sl false false (a0.map (eSN false))), (2, .loc 100 0), (3, .loc 101 0), (4, .loc 102 0), (17, .sl false false (a0.map (eSN false))), (18, V.i (a0.length : Int)), (19, V.i y203)]) [(103, vX 3 1 eNI x358), (100, .cells 35 [.c (.slice none 0 0)]), (101, .cells 4 [V.b false]), (102, .cells 35 [.own 103])] mix (by
    refine wR 4 336 (W.ixO Dk eNI hx623 103 1 (by kernel_rfl) (W.stO Dk eNI (x' := (wr (y345 + 1))) hx623 hu624 (j := 103) (nn := false) (ety := 3) (sz := 1) (b := 0) (ys := [V.i (wr (y345 + 1))]) (C := []) (R := []) (by kernel_rfl) (by kernel_rfl) ?_))
    exact fI
    ) (fun st hw => ?_)
   refine CO.weak hw ?_
   exact cK 336 ih482 (a0, (wr (y203 + 1)), x358) h610 [(100, 100), (101, 101), (102, 102), (103, 103)] [0, 2, 3, 4, 17, 18, 19]
 refine CO.exit (bB h481 fun e360 hx626 h481 => (CO.sw mix (wR 3 272 (wN (eSN false) a0 [] (wR 1 272 (W.ixO Dk eNI hx626 103 1 (by kernel_rfl) (W.ldO Dk eNI hx626 3 103 0 (V.i e360) (by kernel_rfl) (by kernel_rfl) (wR 3 272 ?_))))))))
 refine wF (CO.ret ?_)
 have h481 := sI h481
 subst h481
 exact eG [(103, 100)] (.inr rfl) (RetV.two rfl (OneR.cell Dk (r := .own 103) (i := 100) (ety := 35) (cs := [.own 103]) (by kernel_rfl) (by kernel_rfl) (by kernel_rfl)) (OneR.cell Dk (r := V.b (e360 == 0)) (i := 101) (ety := 4) (cs := [V.b (e360 == 0)]) (by kernel_rfl) (by kernel_rfl) (by kernel_rfl)))

theorem mi_ShapeOk_ok (N : Nat) (a0 : LN) {r : Bool} (h : mi_ShapeOk N a0 = some r) :
    AC Tryz.prog (GS []) 114 [.sl false false (a0.map (eSN false))] [] (V.b r) [] := by
 rw [mi_ShapeOk] at h
 refine AC.enter Tryz.func114 rfl (cV 100 (bB h fun r2 hx2 h => (CO.sw mix (wR 1 100 (wC (mi_startsOf_ok N a0 hx2) cok180 [] [(100, 100)] [100] (wR 5 101 (wF (cV 101 ?_))))))))
 cases h
 exact e1 2 id

theorem mi_IsExpr_ok (a0 : Int) {r : Bool} (h : mi_IsExpr a0 = some r) :
    AC Tryz.prog (GS []) 122 [V.i a0] [] (V.b r) [] := by
 rw [mi_IsExpr] at h
 refine AC.enter Tryz.func122 rfl (cV 100 (bB h fun r2 hx2 h => (cC 1 100 (mi_within_ok a0 1 15 hx2) cok70 ?_)))
 cases h
 exact e1 2 id

theorem mi_IsLetter_ok (a0 : Int) {r : Bool} (h : mi_IsLetter a0 = some r) :
    AC Tryz.prog (GS []) 280 [V.i a0] [] (V.b r) [] := by
 rw [mi_IsLetter] at h
 refine AC.enter Tryz.func280 rfl (cV 100 (bB h fun y1 hv7 h => ?_))
 refine CO.cutR (tl 21 [(2, V.b y1)]) [] mix (by
  refine wR 3 100 ?_
  refine wJ 5 hv7 (fun hv7 => ?_) (fun hv7 => ?_)
  ·refine wR 4 100 ?_
   refine wJ 9 hv7 (fun hv7 => ?_) (fun hv7 => ?_)
   ·refine wR 12 100 ?_
    cases hv7
    exact fS [] [2]
   refine wR 3 100 ?_
   refine wJ 12 hv7 (fun hv7 => ?_) (fun hv7 => ?_)
   ·refine wR 5 100 ?_
    refine wJ 17 hv7 (fun hv7 => ?_) (fun hv7 => ?_)
    ·refine wR 4 100 ?_
     cases hv7
     exact fS [] [2]
    refine wR 4 100 ?_
    cases hv7
    exact fS [] [2]
   refine wR 9 100 ?_
   cases hv7
   exact fS [] [2]
  refine wR 7 100 ?_
  refine wJ 12 hv7 (fun hv7 => ?_) (fun hv7 => ?_)
  ·refine wR 5 100 ?_
   refine wJ 17 hv7 (fun hv7 => ?_) (fun hv7 => ?_)
   ·refine wR 4 100 ?_
    cases hv7
    exact fS [] [2]
   refine wR 4 100 ?_
   cases hv7
   exact fS [] [2]
  refine wR 9 100 ?_
  cases hv7
  exact fS [] [2]
  ) ?_
 cases h
 exact e1 2 id

theorem mi_IsDigit_ok (a0 : Int) {r : Bool} (h : mi_IsDigit a0 = some r) :
    AC Tryz.prog (GS []) 299 [V.i a0] [] (V.b r) [] := by
 rw [mi_IsDigit] at h
 refine AC.enter Tryz.func299 rfl (cV 100 (bB h fun y1 hv2 h => ?_))
 refine CO.cutR (tl 9 [(2, V.b y1)]) [] mix (by
  refine wR 3 100 ?_
  refine wJ 5 hv2 (fun hv2 => ?_) (fun hv2 => ?_)
  ·refine wR 4 100 ?_
   cases hv2
   exact fS [] [2]
  refine wR 4 100 ?_
  cases hv2
  exact fS [] [2]
  ) ?_
 cases h
 exact e1 2 id

theorem mi_IsWordByte_ok (a0 : Int) {r : Bool} (h : mi_IsWordByte a0 = some r) :
    AC Tryz.prog (GS []) 279 [V.i a0] [] (V.b r) [] := by
 rw [mi_IsWordByte] at h
 refine AC.enter Tryz.func279 rfl (cV 100 (bB h fun y3 hv4 h => ?_))
 refine CO.cutR (tl 9 [(2, V.b y3)]) [] mix (by
  refine wR 1 100 (bB hv4 fun r4 hx5 hv4 => (w0 (mi_IsLetter_ok a0 hx5) cok280 (wR 1 100 ?_)))
  refine wJ 5 hv4 (fun hv4 => ?_) (fun hv4 => ?_)
  ·refine wR 4 100 ?_
   cases hv4
   exact fS [] [2]
  refine wR 1 100 (bB hv4 fun r5 hx7 hv4 => (w0 (mi_IsDigit_ok a0 hx7) cok299 (wR 2 100 ?_)))
  cases hv4
  exact fS [] [2]
  ) ?_
 cases h
 exact e1 2 id

theorem mi_NameShape_ok (N : Nat) (a0 : LU) {r : Bool} (h : mi_NameShape N a0 = some r) :
    AC Tryz.prog (GS []) 250 [V.s a0] [] (V.b r) [] := by
 rw [mi_NameShape] at h
 refine AC.enter Tryz.func250 rfl (cV 100 (CO.seq' (cV 100 (CO.block' (CO.loopJ (fun (⟨a0, y35⟩ : (LU × Int)) => ⟨tl 25 [(0, V.s a0), (5, V.i (a0.length : Int)), (6, V.i y35)], []⟩) (fun n i => mi_NameShape_l1 N n i = some r) (n0 := N) (i0 := (a0, 0)) (wS [] [0, 5, 6]) h (fun i h => by simp [mi_NameShape_l1] at h) ?_)))))
 rintro n1 ⟨a0, y35⟩ h63 ih64
 rw [mi_NameShape_l1] at h63
 refine cV 160 (CO.seq' ?_)
 refine cI h63 (fun _ h63 => ?_) (fun _ h63 => ?_)
 ·refine CO.skip (CO.seq' (CO.block' (cV 160 (bB h63 fun b51 hx74 h63 => (bB h63 fun r52 hx75 h63 => (CO.sw mix (wR 2 160 (W.ixS Dk hx74 (by kernel_rfl) ?_))))))))
  refine wR 1 160 (w0 (mi_IsWordByte_ok (wr ((b51).toNat : Int)) hx75) cok279 (wR 1 160 (wF ?_)))
  refine cI h63 (fun _ h63 => ?_) (fun _ h63 => ?_)
  ·refine cV 160 ?_
   cases h63
   exact e1 2 id
  refine CO.skip ?_
  exact cK 160 ih64 (a0, (wr (y35 + 1))) h63 [] [0, 5, 6]
 refine CO.exit (bB h63 fun y56 hv81 h63 => ?_)
 refine CO.cutR (tl 25 [(2, V.b y56)]) [] mix (by
  refine wR 2 160 (bB hv81 fun r57 hx82 hv81 => (w0 (mi_within_ok (a0.length : Int) 1 12 hx82) cok70 (wR 1 160 ?_)))
  refine wJ 19 hv81 (fun hv81 => ?_) (fun hv81 => ?_)
  ·refine wR 1 160 (bB hv81 fun b58 hx84 hv81 => (W.ixS Dk hx84 (by kernel_rfl) (wR 1 160 (bB hv81 fun r59 hx85 hv81 => (w0 (mi_IsLetter_ok (wr ((b58).toNat : Int)) hx85) cok280 (wR 2 160 ?_))))))
   cases hv81
   exact fS [] [2]
  refine wR 6 160 ?_
  cases hv81
  exact fS [] [2]
  ) ?_
 cases h63
 exact e1 2 id

theorem m_slices_Index_string_ok (N : Nat) (a0 : LLU) (a1 : LU) {r : Int} (h : m_slices_Index_string N a0 a1 = some r) :
    AC Tryz.prog (GS []) 179 [sL eNS a0, V.s a1] [] (V.i r) [] := by
 rw [m_slices_Index_string] at h
 refine AC.enter Tryz.func179 rfl (cV 100 (CO.seq' (CO.sw mix (wR 1 100 (wN eNS a0 [] (wR 1 100 (wF (CO.block' ?_))))))))
 refine CO.loopJ (fun (⟨a0, a1, y19⟩ : (LLU × LU × Int)) => ⟨tl 19 [(0, sL eNS a0), (1, V.s a1), (7, V.i (a0.length : Int)), (8, V.i y19)], []⟩) (fun n i => m_slices_Index_string_l1 N n i = some r) (n0 := N) (i0 := (a0, a1, 0)) (wS [] [0, 1, 7, 8]) h (fun i h => by simp [m_slices_Index_string_l1] at h) ?_
 rintro n1 ⟨a0, a1, y19⟩ h43 ih44
 rw [m_slices_Index_string_l1] at h43
 refine cV 160 (CO.seq' ?_)
 refine cI h43 (fun _ h43 => ?_) (fun _ h43 => ?_)
 ·refine CO.skip (CO.seq' (CO.block' (cV 160 (bB h43 fun e28 hx51 h43 => (CO.sw mix (wR 3 160 (wX eNS hx51 1 (wR 2 160 ?_))))))))
  refine wF ?_
  refine cI h43 (fun _ h43 => ?_) (fun _ h43 => ?_)
  ·refine cV 160 ?_
   cases h43
   exact e1 4 id
  refine CO.skip ?_
  exact cK 160 ih44 (a0, a1, (wr (y19 + 1))) h43 [] [0, 1, 7, 8]
 refine CO.exit (cV 160 ?_)
 cases h43
 exact e1 4 id

theorem mi_KeywordOf_ok (N : Nat) (a0 : LU) {r : Int} (h : mi_KeywordOf N a0 = some r) :
    AC Tryz.prog (GS [1]) 251 [V.s a0] [] (V.i r) [] := by
 rw [mi_KeywordOf] at h
 refine AC.enter Tryz.func251 rfl (cV 100 (bB h fun r2 hx2 h => (CO.sw mix (W.cutG Dk V.s tab_keywords (by kernel_rfl) (wR 1 100 (w0 (AC.gs (m_slices_Index_string_ok N tab_keywords a0 hx2) (by decide)) cok179 (wR 1 100 (wF ?_))))))))
 refine CO.seq' (cV 100 ?_)
 refine cI h (fun _ h => ?_) (fun _ h => ?_)
 ·refine cV 100 ?_
  cases h
  exact e1 2 id
 refine CO.skip (cV 100 ?_)
 cases h
 exact e1 2 id

theorem m_slices_Contains_string_ok (N : Nat) (a0 : LLU) (a1 : LU) {r : Bool} (h : m_slices_Contains_string N a0 a1 = some r) :
    AC Tryz.prog (GS []) 113 [sL eNS a0, V.s a1] [] (V.b r) [] := by
 rw [m_slices_Contains_string] at h
 refine AC.enter Tryz.func113 rfl (cV 100 (bB h fun r2 hx2 h => (cC 2 100 (m_slices_Index_string_ok N a0 a1 hx2) cok179 ?_)))
 cases h
 exact e1 4 id

theorem mi_IsBuiltin_ok (N : Nat) (a0 : LU) {r : Bool} (h : mi_IsBuiltin N a0 = some r) :
    AC Tryz.prog (GS [0]) 224 [V.s a0] [] (V.b r) [] := by
 rw [mi_IsBuiltin] at h
 refine AC.enter Tryz.func224 rfl (cV 100 (bB h fun r2 hx2 h => (CO.sw mix (W.cutG Dk V.s tab_builtins (by kernel_rfl) (wR 1 100 (w0 (AC.gs (m_slices_Contains_string_ok N tab_builtins a0 hx2) (by decide)) cok113 (wR 1 100 (wF ?_))))))))
 cases h
 exact e1 2 id

theorem mi_NameOk_ok (N : Nat) (a0 : LU) {r : Bool} (h : mi_NameOk N a0 = some r) :
    AC Tryz.prog (GS [0, 1]) 222 [V.s a0] [] (V.b r) [] := by
 rw [mi_NameOk] at h
 refine AC.enter Tryz.func222 rfl (cV 100 (bB h fun y4 hv6 h => ?_))
 refine CO.cutR (tl 15 [(2, V.b y4)]) [] mix (by
  refine wR 1 100 (bB hv6 fun r5 hx7 hv6 => (w0 (AC.gs (mi_NameShape_ok N a0 hx7) (by decide)) cok250 (wR 1 100 ?_)))
  refine wJ 5 hv6 (fun hv6 => ?_) (fun hv6 => ?_)
  ·refine wR 1 100 (bB hv6 fun r6 hx9 hv6 => (w0 (AC.gs (mi_KeywordOf_ok N a0 hx9) (by decide)) cok251 (wR 3 100 ?_)))
   refine wJ 10 hv6 (fun hv6 => ?_) (fun hv6 => ?_)
   ·refine wR 1 100 (bB hv6 fun r7 hx11 hv6 => (w0 (AC.gs (mi_IsBuiltin_ok N a0 hx11) (by decide)) cok224 (wR 3 100 ?_)))
    cases hv6
    exact fS [] [2]
   refine wR 5 100 ?_
   cases hv6
   exact fS [] [2]
  refine wR 10 100 ?_
  cases hv6
  exact fS [] [2]
  ) ?_
 cases h
 exact e1 2 id

theorem m_stringslite_IndexByte_ok (a0 : LU) (a1 : Int) {r : Int} (h : m_stringslite_IndexByte a0 a1 = some r) :
    AC Tryz.prog (GS []) 306 [V.s a0, .c (.int .u8 a1)] [] (V.i r) [] := by
 rw [m_stringslite_IndexByte] at h
 refine AC.enter Tryz.func306 rfl (cV 100 (CO.sw mix (wR 2 100 (W.ext (vs := [.string ⟨⟨a0⟩⟩, .int .u8 a1]) (ext316 _ _) (by kernel_rfl) (wR 1 100 (wF ?_))))))
 cases h
 exact e1 4 id

theorem m_stringslite_Index_ok (a0 : LU) {r : Int} (h : m_stringslite_Index a0 = some r) :
    AC Tryz.prog (GS []) 300 [V.s a0, V.s [10]] [] (V.i r) [] := by
 rw [m_stringslite_Index] at h
 refine AC.enter Tryz.func300 rfl (cV 100 (cV 100 (CO.seq' (CO.block' (cV 100 ?_)))))
 refine cI h (fun _ h => ?_) (fun _ h => ?_)
 ·refine cV 100 ?_
  cases h
  exact e1 4 id
 refine cV 100 (CO.ifT (c := true) rfl (by kernel_rfl) (bB h fun b7 hx9 h => (bB h fun r8 hx10 h => (CO.sw mix (wR 2 100 (W.ixS Dk hx9 (by kernel_rfl) (w0 (m_stringslite_IndexByte_ok a0 ((b7).toNat : Int) hx10) cok306 (wR 1 100 ?_))))))))
 refine wF ?_
 cases h
 exact e1 4 id

theorem m_strings_Index_ok (a0 : LU) {r : Int} (h : m_strings_Index a0 = some r) :
    AC Tryz.prog (GS []) 281 [V.s a0, V.s [10]] [] (V.i r) [] := by
 rw [m_strings_Index] at h
 refine AC.enter Tryz.func281 rfl (cV 100 (bB h fun r2 hx2 h => (cC 2 100 (m_stringslite_Index_ok a0 hx2) cok300 ?_)))
 cases h
 exact e1 4 id

theorem m_strings_Contains_ok (a0 : LU) {r : Bool} (h : m_strings_Contains a0 = some r) :
    AC Tryz.prog (GS []) 252 [V.s a0, V.s [10]] [] (V.b r) [] := by
 rw [m_strings_Contains] at h
 refine AC.enter Tryz.func252 rfl (cV 100 (bB h fun r2 hx2 h => (cC 2 100 (m_strings_Index_ok a0 hx2) cok281 ?_)))
 cases h
 exact e1 4 id

theorem mi_byteAt_ok (a0 : LU) (a1 : Int) {r : Int} (h : mi_byteAt a0 a1 = some r) :
    AC Tryz.prog (GS []) 283 [V.s a0, V.i a1] [] (V.i r) [] := by
 rw [mi_byteAt] at h
 refine AC.enter Tryz.func283 rfl (cV 100 (CO.seq' (bB h fun r4 hx5 h => (cC 4 100 (mi_within_ok a1 0 (wr ((a0.length : Int) - 1)) hx5) cok70 ?_))))
 refine cI h (fun _ h => ?_) (fun _ h => ?_)
 ·refine cV 100 ?_
  cases h
  exact e1 4 id
 refine CO.skip (bB h fun b6 hx8 h => (CO.sw mix (wR 2 100 (W.ixS Dk hx8 (by kernel_rfl) (wR 2 100 (wF ?_))))))
 cases h
 exact e1 4 id

theorem mi_digitsEnd_ok (N : Nat) (a0 : LU) (a1 : Int) {r : Int} (h : mi_digitsEnd N a0 a1 = some r) :
    AC Tryz.prog (GS []) 282 [V.s a0, V.i a1] [] (V.i r) [] := by
 rw [mi_digitsEnd] at h
 refine AC.enter Tryz.func282 rfl (cV 100 (CO.seq' (CO.block' (CO.loopJ (fun (⟨a0, a1⟩ : (LU × Int)) => ⟨tl 12 [(0, V.s a0), (1, V.i a1)], []⟩) (fun n i => mi_digitsEnd_l1 N n i = some r) (n0 := N) (i0 := (a0, a1)) (wS [] [0, 1]) h (fun i h => by simp [mi_digitsEnd_l1] at h) ?_))))
 rintro n1 ⟨a0, a1⟩ h33 ih34
 rw [mi_digitsEnd_l1] at h33
 refine CO.seq' (bB h33 fun r33 hx42 h33 => (bB h33 fun r34 hx43 h33 => (CO.sw mix (wR 2 140 (w0 (mi_byteAt_ok a0 a1 hx42) cok283 (w0 (mi_IsDigit_ok r33 hx43) cok299 (wF ?_)))))))
 refine cI h33 (fun _ h33 => ?_) (fun _ h33 => ?_)
 ·refine CO.skip (CO.block' ?_)
  exact cK 140 ih34 (a0, (wr (a1 + 1))) h33 [] [0, 1]
 refine CO.exit (cV 140 ?_)
 cases h33
 exact e1 4 id

theorem mi_NumEnd_ok (N : Nat) (a0 : LU) (a1 : Int) {r : Int} (h : mi_NumEnd N a0 a1 = some r) :
    AC Tryz.prog (GS []) 253 [V.s a0, V.i a1] [] (V.i r) [] := by
 rw [mi_NumEnd] at h
 refine AC.enter Tryz.func253 rfl (cV 100 (CO.seq' (bB h fun r4 hx5 h => (cC 4 100 (mi_within_ok a1 0 (wr ((a0.length : Int) - 1)) hx5) cok70 ?_))))
 refine cI h (fun _ h => ?_) (fun _ h => ?_)
 ·refine cV 100 ?_
  cases h
  exact e1 4 id
 refine CO.skip (bB h fun r6 hx8 h => (cC 2 100 (mi_digitsEnd_ok N a0 a1 hx8) cok282 (cV 100 ?_)))
 refine CO.join (fun (⟨a0, y11, y12⟩ : (LU × Int × Int)) => ⟨tl 71 [(0, V.s a0), (5, V.i y11), (6, V.i y12)], []⟩) (fun i => mi_NumEnd_k1 N i = some r) ?_ ?_
 · rintro ⟨a0, y11, y12⟩ h14
   rw [mi_NumEnd_k1] at h14
   refine CO.seq' (cV 100 ?_)
   refine cI h14 (fun _ h14 => ?_) (fun _ h14 => ?_)
   ·refine cV 100 ?_
    cases h14
    exact e1 4 id
   refine CO.skip ?_
   refine CO.join (fun (y11 : Int) => ⟨tl 71 [(5, V.i y11)], []⟩) (fun i => mi_NumEnd_k2 N i = some r) ?_ ?_
   · rintro y11 h40
     rw [mi_NumEnd_k2] at h40
     refine cV 100 ?_
     cases h40
     exact e1 4 id
   intro hk41
   refine bB h14 fun r26 hx43 h14 => (cC 2 100 (mi_byteAt_ok a0 y11 hx43) cok283 (bB h14 fun y27 hv45 h14 => ?_))
   refine CO.cutR (tl 71 [(0, V.s a0), (5, V.i y11), (49, V.b y27)]) [] mix (by
    refine wR 3 100 ?_
    refine wJ 46 hv45 (fun hv45 => ?_) (fun hv45 => ?_)
    ·refine wR 3 100 ?_
     cases hv45
     exact fS [] [0, 5, 49]
    refine wR 3 100 ?_
    cases hv45
    exact fS [] [0, 5, 49]
    ) ?_
   refine cI h14 (fun _ h14 => ?_) (fun _ h14 => ?_)
   ·refine cV 100 ?_
    refine CO.join (fun (⟨a0, y11, y31⟩ : (LU × Int × Int)) => ⟨tl 71 [(0, V.s a0), (5, V.i y11), (9, V.i y31)], []⟩) (fun i => mi_NumEnd_k3 N i = some r) ?_ ?_
    · rintro ⟨a0, y11, y31⟩ h54
      rw [mi_NumEnd_k3] at h54
      refine bB h54 fun r33 hx56 h54 => (cC 2 100 (mi_digitsEnd_ok N a0 y31 hx56) cok282 (cV 100 ?_))
      refine cI h54 (fun _ h54 => ?_) (fun _ h54 => ?_)
      ·refine cV 100 ?_
       cases h54
       exact e1 4 id
      exact sK hk41 y11 h54 [] [5]
    intro hk58
    refine bB h14 fun r35 hx60 h14 => (cC 2 100 (mi_byteAt_ok a0 (wr (y11 + 1)) hx60) cok283 (bB h14 fun y36 hv62 h14 => ?_))
    refine CO.cutR (tl 71 [(0, V.s a0), (5, V.i y11), (9, V.i (wr (y11 + 1))), (60, V.b y36)]) [] mix (by
     refine wR 3 100 ?_
     refine wJ 57 hv62 (fun hv62 => ?_) (fun hv62 => ?_)
     ·refine wR 3 100 ?_
      cases hv62
      exact fS [] [0, 5, 9, 60]
     refine wR 3 100 ?_
     cases hv62
     exact fS [] [0, 5, 9, 60]
     ) ?_
    refine cI h14 (fun _ h14 => ?_) (fun _ h14 => ?_)
    ·exact cK 100 hk58 (a0, y11, (wr ((wr (y11 + 1)) + 1))) h14 [] [0, 5, 9]
    exact sK hk58 (a0, y11, (wr (y11 + 1))) h14 [] [0, 5, 9]
   exact sK hk41 y11 h14 [] [5]
 intro hk65
 refine bB h fun r38 hx67 h => (cC 2 100 (mi_byteAt_ok a0 r6 hx67) cok283 ?_)
 refine cI h (fun _ h => ?_) (fun _ h => ?_)
 ·refine bB h fun r40 hx70 h => (cC 3 100 (mi_digitsEnd_ok N a0 (wr (r6 + 1)) hx70) cok282 (cV 100 ?_))
  exact cK 100 hk65 (a0, r40, (wr ((wr (r6 - a1)) + (wr ((wr (r40 - r6)) - 1))))) h [] [0, 5, 6]
 exact sK hk65 (a0, r6, (wr (r6 - a1))) h [] [0, 5, 6]

theorem mi_quotedEnd_ok (N : Nat) (a0 : LU) (a1 : Int) (a2 : Int) {r : Int} (h : mi_quotedEnd N a0 a1 a2 = some r) :
    AC Tryz.prog (GS []) 284 [V.s a0, V.i a1, V.i a2] [] (V.i r) [] := by
 rw [mi_quotedEnd] at h
 refine AC.enter Tryz.func284 rfl (cV 100 (CO.seq' (bB h fun r4 hx5 h => (cC 2 100 (mi_byteAt_ok a0 a1 hx5) cok283 ?_))))
 refine cI h (fun _ h => ?_) (fun _ h => ?_)
 ·refine cV 100 ?_
  cases h
  exact e1 6 id
 refine CO.skip (CO.seq' (cV 100 (CO.block' (CO.loopJ (fun (⟨a0, a2, y91⟩ : (LU × Int × Int)) => ⟨tl 50 [(0, V.s a0), (2, V.i a2), (7, V.i y91)], []⟩) (fun n i => mi_quotedEnd_l1 N n i = some r) (n0 := N) (i0 := (a0, a2, (wr (a1 + 1)))) (wS [] [0, 2, 7]) h (fun i h => by simp [mi_quotedEnd_l1] at h) ?_))))
 rintro n1 ⟨a0, a2, y91⟩ h189 ih190
 rw [mi_quotedEnd_l1] at h189
 refine CO.seq' (bB h189 fun y118 hv199 h189 => ?_)
 refine CO.cutR (tl 50 [(0, V.s a0), (2, V.i a2), (7, V.i y91), (24, V.b y118)]) [] mix (by
  refine wR 5 160 ?_
  refine wJ 19 hv199 (fun hv199 => ?_) (fun hv199 => ?_)
  ·refine wR 2 160 (bB hv199 fun b119 hx201 hv199 => (W.ixS Dk hx201 (by kernel_rfl) (wR 2 160 ?_)))
   cases hv199
   exact fS [] [0, 2, 7, 24]
  refine wR 5 160 ?_
  cases hv199
  exact fS [] [0, 2, 7, 24]
  ) ?_
 refine cI h189 (fun _ h189 => ?_) (fun _ h189 => ?_)
 ·refine CO.skip ?_
  refine CO.join (fun (⟨a0, a2, y127⟩ : (LU × Int × Int)) => ⟨tl 50 [(0, V.s a0), (2, V.i a2), (7, V.i y127)], []⟩) (fun i => mi_quotedEnd_k2 N (mi_quotedEnd_l1 N n1) i = some r) ?_ ?_
  · rintro ⟨a0, a2, y127⟩ h214
    rw [mi_quotedEnd_k2] at h214
    exact cK 160 ih190 (a0, a2, (wr (y127 + 1))) h214 [] [0, 2, 7]
  intro hk215
  refine CO.block' (CO.block' (bB h189 fun b129 hx217 h189 => (CO.sw mix (wR 2 160 (W.ixS Dk hx217 (by kernel_rfl) (wR 4 160 (wF ?_)))))))
  refine cI h189 (fun _ h189 => ?_) (fun _ h189 => ?_)
  ·refine cV 160 ?_
   cases h189
   exact e1 6 id
  refine bB h189 fun y132 hv222 h189 => ?_
  refine CO.cutR (tl 50 [(0, V.s a0), (2, V.i a2), (7, V.i y91), (36, V.b y132)]) [] mix (by
   refine wR 2 160 (bB hv222 fun b133 hx223 hv222 => (W.ixS Dk hx223 (by kernel_rfl) (wR 2 160 ?_)))
   refine wJ 41 hv222 (fun hv222 => ?_) (fun hv222 => ?_)
   ·refine wR 3 160 (bB hv222 fun r134 hx225 hv222 => (w0 (mi_byteAt_ok a0 (wr (y91 + 1)) hx225) cok283 (wR 3 160 ?_)))
    cases hv222
    exact fS [] [0, 2, 7, 36]
   refine wR 7 160 ?_
   cases hv222
   exact fS [] [0, 2, 7, 36]
   ) ?_
  refine cI h189 (fun _ h189 => ?_) (fun _ h189 => ?_)
  ·exact cK 160 hk215 (a0, a2, (wr (y91 + 1))) h189 [] [0, 2, 7]
  exact sK hk215 (a0, a2, y91) h189 [] [0, 2, 7]
 refine CO.exit (cV 160 ?_)
 cases h189
 exact e1 6 id

theorem mi_StrEnd_ok (N : Nat) (a0 : LU) (a1 : Int) {r : Int} (h : mi_StrEnd N a0 a1 = some r) :
    AC Tryz.prog (GS []) 254 [V.s a0, V.i a1] [] (V.i r) [] := by
 rw [mi_StrEnd] at h
 refine AC.enter Tryz.func254 rfl (cV 100 (bB h fun r2 hx2 h => (cC 2 100 (mi_quotedEnd_ok N a0 a1 34 hx2) cok284 ?_)))
 cases h
 exact e1 4 id

theorem mi_EreEnd_ok (N : Nat) (a0 : LU) (a1 : Int) {r : Int} (h : mi_EreEnd N a0 a1 = some r) :
    AC Tryz.prog (GS []) 255 [V.s a0, V.i a1] [] (V.i r) [] := by
 rw [mi_EreEnd] at h
 refine AC.enter Tryz.func255 rfl (cV 100 (bB h fun r2 hx2 h => (cC 2 100 (mi_quotedEnd_ok N a0 a1 47 hx2) cok284 (CO.seq' (cV 100 ?_)))))
 refine cI h (fun _ h => ?_) (fun _ h => ?_)
 ·refine cV 100 ?_
  cases h
  exact e1 4 id
 refine CO.skip (cV 100 ?_)
 cases h
 exact e1 4 id

theorem mi_isKeywordKind_ok (a0 : Int) {r : Bool} (h : mi_isKeywordKind a0 = some r) :
    AC Tryz.prog (GS []) 285 [V.i a0] [] (V.b r) [] := by
 rw [mi_isKeywordKind] at h
 refine AC.enter Tryz.func285 rfl (cV 100 (bB h fun r2 hx2 h => (cC 1 100 (mi_within_ok a0 10 26 hx2) cok70 ?_)))
 cases h
 exact e1 2 id

theorem mi_isSignKind_ok (a0 : Int) {r : Bool} (h : mi_isSignKind a0 = some r) :
    AC Tryz.prog (GS []) 286 [V.i a0] [] (V.b r) [] := by
 rw [mi_isSignKind] at h
 refine AC.enter Tryz.func286 rfl (cV 100 (bB h fun r2 hx2 h => (cC 1 100 (mi_within_ok a0 30 68 hx2) cok70 ?_)))
 cases h
 exact e1 2 id

theorem mi_SpellOf_ok (a0 : Int) {r : LU} (h : mi_SpellOf a0 = some r) :
    AC Tryz.prog (GS [1, 2]) 256 [V.i a0] [] (V.s r) [] := by
 rw [mi_SpellOf] at h
 refine AC.enter Tryz.func256 rfl (cV 100 (CO.seq' (CO.block' (cV 100 ?_))))
 refine cI h (fun _ h => ?_) (fun _ h => ?_)
 ·refine cV 100 ?_
  cases h
  exact e1 2 id
 refine bB h fun r10 hx14 h => (cC 1 100 (AC.gs (mi_isKeywordKind_ok a0 hx14) (by decide)) cok285 ?_)
 refine cI h (fun _ h => ?_) (fun _ h => ?_)
 ·refine bB h fun e12 hx17 h => (CO.sw mix (wR 2 100 (W.ixG Dk V.s (l := tab_keywords) hx17 (by kernel_rfl) (wR 2 100 (wF ?_)))))
  cases h
  exact e1 2 id
 refine bB h fun r14 hx19 h => (cC 1 100 (AC.gs (mi_isSignKind_ok a0 hx19) (by decide)) cok286 ?_)
 refine cI h (fun _ h => ?_) (fun _ h => ?_)
 ·refine bB h fun e16 hx22 h => (CO.sw mix (wR 2 100 (W.ixG Dk V.s (l := tab_signs) hx22 (by kernel_rfl) (wR 2 100 (wF ?_)))))
  cases h
  exact e1 2 id
 refine CO.skip (cV 100 ?_)
 cases h
 exact e1 2 id

theorem mi_TokenOk_ok (N : Nat) (a0 : SToken) {r : Bool} (h : mi_TokenOk N a0 = some r) :
    AC Tryz.prog (GS [0, 1, 2]) 223 [.agg [V.i a0.Kind, V.s a0.Text, V.i a0.At]] [] (V.b r) [] := by
 rw [mi_TokenOk] at h
 refine AC.enter Tryz.func223 rfl (cV 100 (CO.seq' (cV 101 ?_)))
 refine cI h (fun _ h => ?_) (fun _ h => ?_)
 ·refine cV 101 ?_
  cases h
  exact e1 2 id
 refine CO.skip (CO.seq' (cV 101 (CO.block' (cV 101 ?_))))
 refine cI h (fun _ h => ?_) (fun _ h => ?_)
 ·refine bB h fun y19 hv34 h => ?_
  refine CO.cutR (tl 64 [(2, V.b y19)]) [] mix (by
   refine wR 2 101 (bB hv34 fun b20 hx35 hv34 => (W.ixS Dk hx35 (by kernel_rfl) (wR 2 101 ?_)))
   refine wJ 14 hv34 (fun hv34 => ?_) (fun hv34 => ?_)
   ·refine wR 2 101 (bB hv34 fun r21 hx37 hv34 => (w0 (AC.gs (m_strings_Contains_ok a0.Text hx37) (by decide)) cok252 (wR 3 101 ?_)))
    cases hv34
    exact fS [] [2]
   refine wR 6 101 ?_
   cases hv34
   exact fS [] [2]
   ) ?_
  cases h
  exact e1 2 id
 refine cV 101 ?_
 refine cI h (fun _ h => ?_) (fun _ h => ?_)
 ·refine bB h fun r23 hx40 h => (cC 2 101 (AC.gs (mi_NumEnd_ok N a0.Text 0 hx40) (by decide)) cok253 ?_)
  cases h
  exact e1 2 id
 refine cV 101 ?_
 refine cI h (fun _ h => ?_) (fun _ h => ?_)
 ·refine bB h fun r25 hx43 h => (cC 2 101 (AC.gs (mi_StrEnd_ok N a0.Text 0 hx43) (by decide)) cok254 ?_)
  cases h
  exact e1 2 id
 refine cV 101 ?_
 refine cI h (fun _ h => ?_) (fun _ h => ?_)
 ·refine bB h fun r27 hx46 h => (cC 2 101 (AC.gs (mi_EreEnd_ok N a0.Text 0 hx46) (by decide)) cok255 ?_)
  cases h
  exact e1 2 id
 refine CO.join (fun (⟨a0, y28⟩ : (SToken × Bool)) => ⟨tl 64 [(1, .loc 100 0), (7, V.i a0.Kind), (47, V.b y28)], [(100, .cells 167 [V.i a0.Kind, V.s a0.Text, V.i a0.At])]⟩) (fun i => mi_TokenOk_k1 N i = some r) ?_ ?_
 · rintro ⟨a0, y28⟩ h48
   rw [mi_TokenOk_k1] at h48
   refine cI h48 (fun _ h48 => ?_) (fun _ h48 => ?_)
   ·refine bB h48 fun r30 hx51 h48 => (cC 2 101 (AC.gs (mi_NameOk_ok N a0.Text hx51) (by decide)) cok222 ?_)
    cases h48
    exact e1 2 id
   refine cV 101 ?_
   refine cI h48 (fun _ h48 => ?_) (fun _ h48 => ?_)
   ·refine bB h48 fun r32 hx54 h48 => (cC 2 101 (AC.gs (mi_IsBuiltin_ok N a0.Text hx54) (by decide)) cok224 ?_)
    cases h48
    exact e1 2 id
   refine CO.skip (bB h48 fun r34 hx56 h48 => (cC 4 101 (AC.gs (mi_SpellOf_ok a0.Kind hx56) (by decide)) cok256 ?_))
   cases h48
   exact e1 2 id
 intro hk57
 refine cV 101 ?_
 refine cI h (fun _ h => ?_) (fun _ h => ?_)
 ·exact sK hk57 (a0, (a0.Kind == 6)) h [(100, 100)] [1, 7, 47]
 exact cK 101 hk57 (a0, (a0.Kind == 7)) h [(100, 100)] [1, 7, 47]

theorem mi_isStep_ok (a0 : Int) {r : Bool} (h : mi_isStep a0 = some r) :
    AC Tryz.prog (GS []) 225 [V.i a0] [] (V.b r) [] := by
 rw [mi_isStep] at h
 refine AC.enter Tryz.func225 rfl (cV 100 (bB h fun y1 hv2 h => ?_))
 refine CO.cutR (tl 9 [(2, V.b y1)]) [] mix (by
  refine wR 3 100 ?_
  refine wJ 5 hv2 (fun hv2 => ?_) (fun hv2 => ?_)
  ·refine wR 4 100 ?_
   cases hv2
   exact fS [] [2]
  refine wR 4 100 ?_
  cases hv2
  exact fS [] [2]
  ) ?_
 cases h
 exact e1 2 id

theorem mi_OpLevel_ok (a0 : Int) {r : Int} (h : mi_OpLevel a0 = some r) :
    AC Tryz.prog (GS []) 226 [V.i a0] [] (V.i r) [] := by
 rw [mi_OpLevel] at h
 refine AC.enter Tryz.func226 rfl (cV 100 (CO.seq' (cV 100 (CO.block' (cV 100 ?_)))))
 refine cI h (fun _ h => ?_) (fun _ h => ?_)
 ·refine cV 100 ?_
  cases h
  exact e1 2 id
 refine cV 100 ?_
 refine cI h (fun _ h => ?_) (fun _ h => ?_)
 ·refine cV 100 ?_
  cases h
  exact e1 2 id
 refine CO.join (fun (⟨a0, y5⟩ : (Int × Bool)) => ⟨tl 29 [(3, V.i a0), (8, V.b y5)], []⟩) (fun i => mi_OpLevel_k1 i = some r) ?_ ?_
 · rintro ⟨a0, y5⟩ h38
   rw [mi_OpLevel_k1] at h38
   refine cI h38 (fun _ h38 => ?_) (fun _ h38 => ?_)
   ·refine cV 100 ?_
    cases h38
    exact e1 2 id
   refine CO.join (fun (⟨a0, y6⟩ : (Int × Bool)) => ⟨tl 29 [(3, V.i a0), (11, V.b y6)], []⟩) (fun i => mi_OpLevel_k2 i = some r) ?_ ?_
   · rintro ⟨a0, y6⟩ h45
     rw [mi_OpLevel_k2] at h45
     refine cI h45 (fun _ h45 => ?_) (fun _ h45 => ?_)
     ·refine cV 100 ?_
      cases h45
      exact e1 2 id
     refine cV 100 ?_
     refine cI h45 (fun _ h45 => ?_) (fun _ h45 => ?_)
     ·refine cV 100 ?_
      cases h45
      exact e1 2 id
     refine CO.join (fun (⟨a0, y7⟩ : (Int × Bool)) => ⟨tl 29 [(3, V.i a0), (20, V.b y7)], []⟩) (fun i => mi_OpLevel_k3 i = some r) ?_ ?_
     · rintro ⟨a0, y7⟩ h49
       rw [mi_OpLevel_k3] at h49
       refine cI h49 (fun _ h49 => ?_) (fun _ h49 => ?_)
       ·refine cV 100 ?_
        cases h49
        exact e1 2 id
       refine CO.join (fun (⟨a0, y8⟩ : (Int × Bool)) => ⟨tl 29 [(3, V.i a0), (23, V.b y8)], []⟩) (fun i => mi_OpLevel_k4 i = some r) ?_ ?_
       · rintro ⟨a0, y8⟩ h53
         rw [mi_OpLevel_k4] at h53
         refine cI h53 (fun _ h53 => ?_) (fun _ h53 => ?_)
         ·refine cV 100 ?_
          cases h53
          exact e1 2 id
         refine cV 100 ?_
         refine cI h53 (fun _ h53 => ?_) (fun _ h53 => ?_)
         ·refine cV 100 ?_
          cases h53
          exact e1 2 id
         refine CO.skip (cV 100 ?_)
         cases h53
         exact e1 2 id
       intro hk56
       refine cV 100 ?_
       refine cI h49 (fun _ h49 => ?_) (fun _ h49 => ?_)
       ·exact sK hk56 (a0, (a0 == 57)) h49 [] [3, 23]
       refine cV 100 ?_
       refine cI h49 (fun _ h49 => ?_) (fun _ h49 => ?_)
       ·exact sK hk56 (a0, (a0 == 58)) h49 [] [3, 23]
       exact cK 100 hk56 (a0, (a0 == 59)) h49 [] [3, 23]
     intro hk59
     refine cV 100 ?_
     refine cI h45 (fun _ h45 => ?_) (fun _ h45 => ?_)
     ·exact sK hk59 (a0, (a0 == 55)) h45 [] [3, 20]
     exact cK 100 hk59 (a0, (a0 == 56)) h45 [] [3, 20]
   intro hk61
   refine cV 100 ?_
   refine cI h38 (fun _ h38 => ?_) (fun _ h38 => ?_)
   ·exact sK hk61 (a0, (a0 == 63)) h38 [] [3, 11]
   refine cV 100 ?_
   refine cI h38 (fun _ h38 => ?_) (fun _ h38 => ?_)
   ·exact sK hk61 (a0, (a0 == 48)) h38 [] [3, 11]
   refine cV 100 ?_
   refine cI h38 (fun _ h38 => ?_) (fun _ h38 => ?_)
   ·exact sK hk61 (a0, (a0 == 47)) h38 [] [3, 11]
   refine cV 100 ?_
   refine cI h38 (fun _ h38 => ?_) (fun _ h38 => ?_)
   ·exact sK hk61 (a0, (a0 == 50)) h38 [] [3, 11]
   refine cV 100 ?_
   refine cI h38 (fun _ h38 => ?_) (fun _ h38 => ?_)
   ·exact sK hk61 (a0, (a0 == 62)) h38 [] [3, 11]
   exact cK 100 hk61 (a0, (a0 == 49)) h38 [] [3, 11]
 intro hk67
 refine cV 100 ?_
 refine cI h (fun _ h => ?_) (fun _ h => ?_)
 ·exact sK hk67 (a0, (a0 == 67)) h [] [3, 8]
 exact cK 100 hk67 (a0, (a0 == 46)) h [] [3, 8]

theorem mi_isAssign_ok (a0 : Int) {r : Bool} (h : mi_isAssign a0 = some r) :
    AC Tryz.prog (GS []) 227 [V.i a0] [] (V.b r) [] := by
 rw [mi_isAssign] at h
 refine AC.enter Tryz.func227 rfl (cV 100 (bB h fun y2 hv3 h => ?_))
 refine CO.cutR (tl 9 [(2, V.b y2)]) [] mix (by
  refine wR 3 100 ?_
  refine wJ 5 hv3 (fun hv3 => ?_) (fun hv3 => ?_)
  ·refine wR 4 100 ?_
   cases hv3
   exact fS [] [2]
  refine wR 1 100 (bB hv3 fun r3 hx5 hv3 => (w0 (mi_within_ok a0 38 43 hx5) cok70 (wR 2 100 ?_)))
  cases hv3
  exact fS [] [2]
  ) ?_
 cases h
 exact e1 2 id

theorem mi_exprForm_ok (N : Nat) (a0 : SNode) {r : SForm} (h : mi_exprForm N a0 = some r) :
    AC Tryz.prog (GS [0, 1, 2]) 183 [.agg [V.i a0.Kind, V.i a0.Op, V.s a0.Text, V.s a0.Other, sL eNI a0.Kids]] [] (.agg [V.b r.op, V.b r.text, V.b r.other, V.i r.least, V.i r.most]) [] := by
 rw [mi_exprForm] at h
 refine AC.enter Tryz.func183 rfl (cV 100 (CO.seq' (cV 102 (CO.block' (cV 102 ?_)))))
 refine cI h (fun _ h => ?_) (fun _ h => ?_)
 ·refine bB h fun r22 hx48 h => (cC 5 102 (AC.gs (mi_NameOk_ok N a0.Text hx48) (by decide)) cok222 (CO.ret ?_))
  have h := sI h
  subst h
  exact eG [] (.inr rfl) (RetV.one rfl (OneR.cell Dk (r := .agg [V.b (a0.Op == 0), V.b r22, V.b false, V.i 0, V.i 0]) (i := 101) (ety := 162) (cs := [V.b (a0.Op == 0), V.b r22, V.b false, V.i 0, V.i 0]) (by kernel_rfl) (by kernel_rfl) (by kernel_rfl)))
 refine CO.join (fun (⟨a0, y23⟩ : (SNode × Bool)) => ⟨tl 123 [(1, .loc 100 0), (2, .loc 101 0), (4, V.i a0.Kind), (14, V.b y23)], [(100, .cells 37 [V.i a0.Kind, V.i a0.Op, V.s a0.Text, V.s a0.Other, sL eNI a0.Kids]), (101, .cells 162 [V.b false, V.b false, V.b false, V.i 0, V.i 0])]⟩) (fun i => mi_exprForm_k1 N i = some r) ?_ ?_
 · rintro ⟨a0, y23⟩ h51
   rw [mi_exprForm_k1] at h51
   refine cI h51 (fun _ h51 => ?_) (fun _ h51 => ?_)
   ·refine bB h51 fun e26 hx55 h51 => (bB h51 fun r27 hx56 h51 => (CO.sw mix (wR 7 102 (W.ixA Dk V.i hx55 (by kernel_rfl) (wR 3 102 (w0 (mi_TokenOk_ok N (⟨e26, a0.Text, 0⟩ : SToken) hx56) cok223 (wR 2 102 (wF ?_))))))))
    refine CO.ret ?_
    have h51 := sI h51
    subst h51
    exact eG [] (.inr rfl) (RetV.one rfl (OneR.cell Dk (r := .agg [V.b (a0.Op == 0), V.b r27, V.b false, V.i 0, V.i 0]) (i := 101) (ety := 162) (cs := [V.b (a0.Op == 0), V.b r27, V.b false, V.i 0, V.i 0]) (by kernel_rfl) (by kernel_rfl) (by kernel_rfl)))
   refine CO.join (fun (⟨a0, y28⟩ : (SNode × Bool)) => ⟨tl 123 [(1, .loc 100 0), (2, .loc 101 0), (4, V.i a0.Kind), (31, V.b y28)], [(100, .cells 37 [V.i a0.Kind, V.i a0.Op, V.s a0.Text, V.s a0.Other, sL eNI a0.Kids]), (101, .cells 162 [V.b false, V.b false, V.b false, V.i 0, V.i 0])]⟩) (fun i => mi_exprForm_k2 N i = some r) ?_ ?_
   · rintro ⟨a0, y28⟩ h58
     rw [mi_exprForm_k2] at h58
     refine cI h58 (fun _ h58 => ?_) (fun _ h58 => ?_)
     ·refine bB h58 fun r30 hx61 h58 => (cC 5 102 (AC.gs (mi_NameOk_ok N a0.Text hx61) (by decide)) cok222 (CO.ret ?_))
      have h58 := sI h58
      subst h58
      exact eG [] (.inr rfl) (RetV.one rfl (OneR.cell Dk (r := .agg [V.b (a0.Op == 0), V.b r30, V.b false, V.i 1, V.i 6]) (i := 101) (ety := 162) (cs := [V.b (a0.Op == 0), V.b r30, V.b false, V.i 1, V.i 6]) (by kernel_rfl) (by kernel_rfl) (by kernel_rfl)))
     refine cV 102 ?_
     refine cI h58 (fun _ h58 => ?_) (fun _ h58 => ?_)
     ·refine cV 102 (CO.ret ?_)
      have h58 := sI h58
      subst h58
      exact eG [] (.inr rfl) (RetV.one rfl (OneR.cell Dk (r := .agg [V.b (a0.Op == 0), V.b (a0.Text == []), V.b false, V.i 1, V.i 1]) (i := 101) (ety := 162) (cs := [V.b (a0.Op == 0), V.b (a0.Text == []), V.b false, V.i 1, V.i 1]) (by kernel_rfl) (by kernel_rfl) (by kernel_rfl)))
     refine cV 102 ?_
     refine cI h58 (fun _ h58 => ?_) (fun _ h58 => ?_)
     ·refine bB h58 fun r32 hx65 h58 => (cC 5 102 (AC.gs (mi_NameOk_ok N a0.Text hx65) (by decide)) cok222 (CO.ret ?_))
      have h58 := sI h58
      subst h58
      exact eG [] (.inr rfl) (RetV.one rfl (OneR.cell Dk (r := .agg [V.b (a0.Op == 0), V.b r32, V.b false, V.i 0, V.i 6]) (i := 101) (ety := 162) (cs := [V.b (a0.Op == 0), V.b r32, V.b false, V.i 0, V.i 6]) (by kernel_rfl) (by kernel_rfl) (by kernel_rfl)))
     refine cV 102 ?_
     refine cI h58 (fun _ h58 => ?_) (fun _ h58 => ?_)
     ·refine bB h58 fun r34 hx68 h58 => (cC 5 102 (AC.gs (mi_IsBuiltin_ok N a0.Text hx68) (by decide)) cok224 (CO.ret ?_))
      have h58 := sI h58
      subst h58
      exact eG [] (.inr rfl) (RetV.one rfl (OneR.cell Dk (r := .agg [V.b (a0.Op == 0), V.b r34, V.b false, V.i 0, V.i 6]) (i := 101) (ety := 162) (cs := [V.b (a0.Op == 0), V.b r34, V.b false, V.i 0, V.i 6]) (by kernel_rfl) (by kernel_rfl) (by kernel_rfl)))
     refine CO.join (fun (⟨a0, y35⟩ : (SNode × Bool)) => ⟨tl 123 [(1, .loc 100 0), (2, .loc 101 0), (4, V.i a0.Kind), (68, V.b y35)], [(100, .cells 37 [V.i a0.Kind, V.i a0.Op, V.s a0.Text, V.s a0.Other, sL eNI a0.Kids]), (101, .cells 162 [V.b false, V.b false, V.b false, V.i 0, V.i 0])]⟩) (fun i => mi_exprForm_k3 N i = some r) ?_ ?_
     · rintro ⟨a0, y35⟩ h70
       rw [mi_exprForm_k3] at h70
       refine cI h70 (fun _ h70 => ?_) (fun _ h70 => ?_)
       ·refine bB h70 fun r37 hx73 h70 => (cC 2 102 (AC.gs (mi_isStep_ok a0.Op hx73) (by decide)) cok225 (CO.ret ?_))
        have h70 := sI h70
        subst h70
        exact eG [] (.inr rfl) (RetV.one rfl (OneR.cell Dk (r := .agg [V.b r37, V.b (a0.Text == []), V.b false, V.i 1, V.i 1]) (i := 101) (ety := 162) (cs := [V.b r37, V.b (a0.Text == []), V.b false, V.i 1, V.i 1]) (by kernel_rfl) (by kernel_rfl) (by kernel_rfl)))
       refine cV 102 ?_
       refine cI h70 (fun _ h70 => ?_) (fun _ h70 => ?_)
       ·refine bB h70 fun y38 hv77 h70 => ?_
        refine CO.cutR (tl 123 [(2, .loc 100 0)]) [(100, .cells 162 [V.b y38, V.b (a0.Text == []), V.b false, V.i 1, V.i 1])] mix (by
         refine wR 4 102 ?_
         refine wJ 83 hv77 (fun hv77 => ?_) (fun hv77 => ?_)
         ·refine wR 14 102 ?_
          cases hv77
          exact fS [(101, 100)] [2]
         refine wR 5 102 ?_
         refine wJ 88 hv77 (fun hv77 => ?_) (fun hv77 => ?_)
         ·refine wR 9 102 ?_
          cases hv77
          exact fS [(101, 100)] [2]
         refine wR 9 102 ?_
         cases hv77
         exact fS [(101, 100)] [2]
         ) ?_
        refine CO.ret ?_
        have h70 := sI h70
        subst h70
        exact eG [] (.inr rfl) (RetV.one rfl (OneR.cell Dk (r := .agg [V.b y38, V.b (a0.Text == []), V.b false, V.i 1, V.i 1]) (i := 100) (ety := 162) (cs := [V.b y38, V.b (a0.Text == []), V.b false, V.i 1, V.i 1]) (by kernel_rfl) (by kernel_rfl) (by kernel_rfl)))
       refine cV 102 ?_
       refine cI h70 (fun _ h70 => ?_) (fun _ h70 => ?_)
       ·refine bB h70 fun r40 hx82 h70 => (cC 2 102 (AC.gs (mi_OpLevel_ok a0.Op hx82) (by decide)) cok226 (CO.ret ?_))
        have h70 := sI h70
        subst h70
        exact eG [] (.inr rfl) (RetV.one rfl (OneR.cell Dk (r := .agg [V.b (r40 != 0), V.b (a0.Text == []), V.b false, V.i 2, V.i 2]) (i := 101) (ety := 162) (cs := [V.b (r40 != 0), V.b (a0.Text == []), V.b false, V.i 2, V.i 2]) (by kernel_rfl) (by kernel_rfl) (by kernel_rfl)))
       refine cV 102 ?_
       refine cI h70 (fun _ h70 => ?_) (fun _ h70 => ?_)
       ·refine cV 102 (CO.ret ?_)
        have h70 := sI h70
        subst h70
        exact eG [] (.inr rfl) (RetV.one rfl (OneR.cell Dk (r := .agg [V.b (a0.Op == 0), V.b (a0.Text == []), V.b false, V.i 3, V.i 3]) (i := 101) (ety := 162) (cs := [V.b (a0.Op == 0), V.b (a0.Text == []), V.b false, V.i 3, V.i 3]) (by kernel_rfl) (by kernel_rfl) (by kernel_rfl)))
       refine CO.skip (bB h70 fun r42 hx85 h70 => (cC 2 102 (AC.gs (mi_isAssign_ok a0.Op hx85) (by decide)) cok227 (CO.ret ?_)))
       have h70 := sI h70
       subst h70
       exact eG [] (.inr rfl) (RetV.one rfl (OneR.cell Dk (r := .agg [V.b r42, V.b (a0.Text == []), V.b false, V.i 2, V.i 2]) (i := 101) (ety := 162) (cs := [V.b r42, V.b (a0.Text == []), V.b false, V.i 2, V.i 2]) (by kernel_rfl) (by kernel_rfl) (by kernel_rfl)))
     intro hk86
     refine cV 102 ?_
     refine cI h58 (fun _ h58 => ?_) (fun _ h58 => ?_)
     ·exact sK hk86 (a0, (a0.Kind == 9)) h58 [(100, 100), (101, 101)] [1, 2, 4, 68]
     exact cK 102 hk86 (a0, (a0.Kind == 10)) h58 [(100, 100), (101, 101)] [1, 2, 4, 68]
   intro hk88
   refine cV 102 ?_
   refine cI h51 (fun _ h51 => ?_) (fun _ h51 => ?_)
   ·exact sK hk88 (a0, (a0.Kind == 5)) h51 [(100, 100), (101, 101)] [1, 2, 4, 31]
   exact cK 102 hk88 (a0, (a0.Kind == 13)) h51 [(100, 100), (101, 101)] [1, 2, 4, 31]
 intro hk90
 refine cV 102 ?_
 refine cI h (fun _ h => ?_) (fun _ h => ?_)
 ·exact sK hk90 (a0, (a0.Kind == 2)) h [(100, 100), (101, 101)] [1, 2, 4, 14]
 refine cV 102 ?_
 refine cI h (fun _ h => ?_) (fun _ h => ?_)
 ·exact sK hk90 (a0, (a0.Kind == 3)) h [(100, 100), (101, 101)] [1, 2, 4, 14]
 exact cK 102 hk90 (a0, (a0.Kind == 4)) h [(100, 100), (101, 101)] [1, 2, 4, 14]

theorem mi_IsStmt_ok (a0 : Int) {r : Bool} (h : mi_IsStmt a0 = some r) :
    AC Tryz.prog (GS []) 184 [V.i a0] [] (V.b r) [] := by
 rw [mi_IsStmt] at h
 refine AC.enter Tryz.func184 rfl (cV 100 (bB h fun r2 hx2 h => (cC 1 100 (mi_within_ok a0 20 34 hx2) cok70 ?_)))
 cases h
 exact e1 2 id

theorem mi_stmtForm_ok (N : Nat) (a0 : SNode) {r : SForm} (h : mi_stmtForm N a0 = some r) :
    AC Tryz.prog (GS [0, 1, 2]) 185 [.agg [V.i a0.Kind, V.i a0.Op, V.s a0.Text, V.s a0.Other, sL eNI a0.Kids]] [] (.agg [V.b r.op, V.b r.text, V.b r.other, V.i r.least, V.i r.most]) [] := by
 rw [mi_stmtForm] at h
 refine AC.enter Tryz.func185 rfl (cV 100 (cV 102 ?_))
 refine CO.join (fun (⟨y14, y15, y16, y17, y18⟩ : (Bool × Bool × Bool × Int × Int)) => ⟨tl 98 [(2, .loc 100 0), (3, .loc 101 0)], [(100, .cells 162 [V.b false, V.b false, V.b false, V.i 0, V.i 0]), (101, .cells 162 [V.b y14, V.b y15, V.b y16, V.i y17, V.i y18])]⟩) (fun i => mi_stmtForm_k1 N i = some r) ?_ ?_
 · rintro ⟨y14, y15, y16, y17, y18⟩ h33
   rw [mi_stmtForm_k1] at h33
   refine cV 104 (CO.ret ?_)
   have h33 := sI h33
   subst h33
   exact eG [] (.inr rfl) (RetV.one rfl (OneR.cell Dk (r := .agg [V.b y14, V.b y15, V.b y16, V.i y17, V.i y18]) (i := 100) (ety := 162) (cs := [V.b y14, V.b y15, V.b y16, V.i y17, V.i y18]) (by kernel_rfl) (by kernel_rfl) (by kernel_rfl)))
 intro hk34
 refine cV 103 (CO.block' (cV 103 ?_))
 refine cI h (fun _ h => ?_) (fun _ h => ?_)
 ·exact cK 103 hk34 ((a0.Op == 0), (a0.Text == []), (a0.Other == []), 1, 1) h [(101, 100), (102, 101)] [2, 3]
 refine cV 103 ?_
 refine cI h (fun _ h => ?_) (fun _ h => ?_)
 ·refine bB h fun y19 hv38 h => ?_
  refine CO.cutR (tl 98 [(1, .loc 100 0), (2, .loc 101 0), (3, .loc 102 0)]) [(100, .cells 37 [V.i a0.Kind, V.i a0.Op, V.s a0.Text, V.s a0.Other, sL eNI a0.Kids]), (101, .cells 162 [V.b false, V.b false, V.b false, V.i 0, V.i 0]), (102, .cells 162 [V.b y19, V.b (a0.Text == []), V.b (a0.Other == []), V.i 0, V.i 0])] mix (by
   refine wR 4 103 ?_
   refine wJ 25 hv38 (fun hv38 => ?_) (fun hv38 => ?_)
   ·refine wR 6 103 ?_
    cases hv38
    exact fS [(100, 100), (101, 101), (102, 102)] [1, 2, 3]
   refine wR 6 103 ?_
   cases hv38
   exact fS [(100, 100), (101, 101), (102, 102)] [1, 2, 3]
   ) ?_
  refine bB h fun r21 hx41 h => (CO.sw mix (wR 3 103 (W.lend (AC.gs (m_slices_Contains_string_ok N [[], [62], [62, 62], [124]] a0.Other hx41) (by decide)) cok113 [] [] (LayOk.cons (j := 103) eNS eNS ([[], [62], [62, 62], [124]] : LLU) (by kernel_rfl) (fun _ => rfl) lO) (.c _) .nil (by kernel_rfl) (by kernel_rfl) (wR 2 104 (wF (cV 104 (cV 104 ?_)))))))
  refine cI h (fun _ h => ?_) (fun _ h => ?_)
  ·exact cK 104 hk34 (y19, (a0.Text == []), r21, (wr (a0.Op + 1)), 7) h [(101, 100), (102, 101)] [2, 3]
  exact sK hk34 (y19, (a0.Text == []), r21, a0.Op, 6) h [(101, 100), (102, 101)] [2, 3]
 refine CO.join (fun (⟨a0, y22⟩ : (SNode × Bool)) => ⟨tl 98 [(1, .loc 100 0), (2, .loc 101 0), (3, .loc 102 0), (15, V.i a0.Kind), (51, V.b y22)], [(100, .cells 37 [V.i a0.Kind, V.i a0.Op, V.s a0.Text, V.s a0.Other, sL eNI a0.Kids]), (101, .cells 162 [V.b false, V.b false, V.b false, V.i 0, V.i 0]), (102, .cells 162 [V.b (a0.Op == 0), V.b (a0.Text == []), V.b (a0.Other == []), V.i 0, V.i 0])]⟩) (fun i => mi_stmtForm_k2 N i = some r) ?_ ?_
 · rintro ⟨a0, y22⟩ h44
   rw [mi_stmtForm_k2] at h44
   refine cI h44 (fun _ h44 => ?_) (fun _ h44 => ?_)
   ·exact cK 103 hk34 ((a0.Op == 0), (a0.Text == []), (a0.Other == []), 0, 1) h44 [(101, 100), (102, 101)] [2, 3]
   refine cV 103 ?_
   refine cI h44 (fun _ h44 => ?_) (fun _ h44 => ?_)
   ·refine bB h44 fun r24 hx48 h44 => (CO.w mix (wR 2 103 (w0 (AC.gs (mi_NameOk_ok N a0.Text hx48) (by decide)) cok222 (wR 4 103 ?_))))
    exact wK hk34 ((a0.Op == 0), r24, (a0.Other == []), 0, 6) h44 [(101, 100), (102, 101)] [2, 3]
   refine cV 103 ?_
   refine cI h44 (fun _ h44 => ?_) (fun _ h44 => ?_)
   ·exact cK 103 hk34 ((a0.Op == 0), (a0.Text == []), (a0.Other == []), 2, 3) h44 [(101, 100), (102, 101)] [2, 3]
   refine CO.join (fun (⟨a0, y25⟩ : (SNode × Bool)) => ⟨tl 98 [(1, .loc 100 0), (2, .loc 101 0), (3, .loc 102 0), (15, V.i a0.Kind), (66, V.b y25)], [(100, .cells 37 [V.i a0.Kind, V.i a0.Op, V.s a0.Text, V.s a0.Other, sL eNI a0.Kids]), (101, .cells 162 [V.b false, V.b false, V.b false, V.i 0, V.i 0]), (102, .cells 162 [V.b (a0.Op == 0), V.b (a0.Text == []), V.b (a0.Other == []), V.i 0, V.i 0])]⟩) (fun i => mi_stmtForm_k3 N i = some r) ?_ ?_
   · rintro ⟨a0, y25⟩ h51
     rw [mi_stmtForm_k3] at h51
     refine cI h51 (fun _ h51 => ?_) (fun _ h51 => ?_)
     ·exact cK 103 hk34 ((a0.Op == 0), (a0.Text == []), (a0.Other == []), 2, 2) h51 [(101, 100), (102, 101)] [2, 3]
     refine cV 103 ?_
     refine cI h51 (fun _ h51 => ?_) (fun _ h51 => ?_)
     ·exact cK 103 hk34 ((a0.Op == 0), (a0.Text == []), (a0.Other == []), 4, 4) h51 [(101, 100), (102, 101)] [2, 3]
     refine cV 103 ?_
     refine cI h51 (fun _ h51 => ?_) (fun _ h51 => ?_)
     ·refine bB h51 fun r28 hx57 h51 => (bB h51 fun r29 hx58 h51 => (CO.w mix (wR 2 103 (w0 (AC.gs (mi_NameOk_ok N a0.Text hx57) (by decide)) cok222 (wR 2 103 (w0 (AC.gs (mi_NameOk_ok N a0.Other hx58) (by decide)) cok222 (wR 8 103 ?_)))))))
      exact wK hk34 ((a0.Op == 0), r28, r29, 1, 1) h51 [(101, 100), (102, 101)] [2, 3]
     refine cV 103 ?_
     refine cI h51 (fun _ h51 => ?_) (fun _ h51 => ?_)
     ·exact cK 103 hk34 ((a0.Op == 0), (a0.Text == []), (a0.Other == []), 0, 400) h51 [(101, 100), (102, 101)] [2, 3]
     refine cV 103 ?_
     refine cI h51 (fun _ h51 => ?_) (fun _ h51 => ?_)
     ·refine bB h51 fun r31 hx62 h51 => (CO.w mix (wR 3 103 (w0 (mi_TokenOk_ok N (⟨2, a0.Text, 0⟩ : SToken) hx62) cok223 (wR 2 103 ?_))))
      exact wK hk34 ((a0.Op == 0), r31, (a0.Other == []), 0, 0) h51 [(101, 100), (102, 101)] [2, 3]
     exact sK hk34 ((a0.Op == 0), (a0.Text == []), (a0.Other == []), 0, 0) h51 [(101, 100), (102, 101)] [2, 3]
   intro hk63
   refine cV 103 ?_
   refine cI h44 (fun _ h44 => ?_) (fun _ h44 => ?_)
   ·exact sK hk63 (a0, (a0.Kind == 29)) h44 [(100, 100), (101, 101), (102, 102)] [1, 2, 3, 15, 66]
   exact cK 103 hk63 (a0, (a0.Kind == 30)) h44 [(100, 100), (101, 101), (102, 102)] [1, 2, 3, 15, 66]
 intro hk65
 refine cV 103 ?_
 refine cI h (fun _ h => ?_) (fun _ h => ?_)
 ·exact sK hk65 (a0, (a0.Kind == 23)) h [(100, 100), (101, 101), (102, 102)] [1, 2, 3, 15, 51]
 exact cK 103 hk65 (a0, (a0.Kind == 24)) h [(100, 100), (101, 101), (102, 102)] [1, 2, 3, 15, 51]

end Go.Proofs.Tryz

/-
 The walks that show that the code computes the models, part 4.
-/
import Derived.Test.YtpognfncgfaogaaGreatDoorShAW3
namespace Go.Proofs.Tryz
open Go.Av
set_option maxRecDepth 100000
set_option maxHeartbeats 8000000
set_option linter.unusedSimpArgs false
set_option linter.unusedVariables false

structure RecOk1 (R : Rec1) : Prop where
 mp_variable : ∀ (pa : LT) (pb : Int) (pc : Bool) (p1 : LLU) (r : T1), R.mp_variable pa pb pc p1 = some r → AC0 188 [.loc 0 0] [(0, cP 108 pa pb pc 1), (1, vN p1)] (.agg (aP r.1)) [(0, cP 108 pa r.2.1 r.2.2.1 100), (100, vN r.2.2.2)]
 mp_primary : ∀ (pa : LT) (pb : Int) (pc : Bool) (p1 : LLU) (r : T1), R.mp_primary pa pb pc p1 = some r → AC0 152 [.loc 0 0] [(0, cP 108 pa pb pc 1), (1, vN p1)] (.agg (aP r.1)) [(0, cP 108 pa r.2.1 r.2.2.1 100), (100, vN r.2.2.2)]
 mp_field : ∀ (pa : LT) (pb : Int) (pc : Bool) (p1 : LLU) (r : T1), R.mp_field pa pb pc p1 = some r → AC0 151 [.loc 0 0] [(0, cP 108 pa pb pc 1), (1, vN p1)] (.agg (aP r.1)) [(0, cP 108 pa r.2.1 r.2.2.1 100), (100, vN r.2.2.2)]
 mp_lvalue : ∀ (pa : LT) (pb : Int) (pc : Bool) (p1 : LLU) (r : T1), R.mp_lvalue pa pb pc p1 = some r → AC0 186 [.loc 0 0] [(0, cP 108 pa pb pc 1), (1, vN p1)] (.agg (aP r.1)) [(0, cP 108 pa r.2.1 r.2.2.1 100), (100, vN r.2.2.2)]
 mp_before : ∀ (pa : LT) (pb : Int) (pc : Bool) (p1 : LLU) (r : T1), R.mp_before pa pb pc p1 = some r → AC0 150 [.loc 0 0] [(0, cP 108 pa pb pc 1), (1, vN p1)] (.agg (aP r.1)) [(0, cP 108 pa r.2.1 r.2.2.1 100), (100, vN r.2.2.2)]
 mp_incr : ∀ (pa : LT) (pb : Int) (pc : Bool) (p1 : LLU) (r : T1), R.mp_incr pa pb pc p1 = some r → AC0 148 [.loc 0 0] [(0, cP 108 pa pb pc 1), (1, vN p1)] (.agg (aP r.1)) [(0, cP 108 pa r.2.1 r.2.2.1 100), (100, vN r.2.2.2)]
 mp_pow : ∀ (a1 : SRules) (pa : LT) (pb : Int) (pc : Bool) (p1 : LLU) (r : T1), R.mp_pow a1 pa pb pc p1 = some r → AC0 147 [.loc 0 0, .agg [V.b a1.noIn, V.b a1.noGt]] [(0, cP 108 pa pb pc 1), (1, vN p1)] (.agg (aP r.1)) [(0, cP 108 pa r.2.1 r.2.2.1 100), (100, vN r.2.2.2)]
 mp_unary : ∀ (a1 : SRules) (pa : LT) (pb : Int) (pc : Bool) (p1 : LLU) (r : T1), R.mp_unary a1 pa pb pc p1 = some r → AC0 146 [.loc 0 0, .agg [V.b a1.noIn, V.b a1.noGt]] [(0, cP 108 pa pb pc 1), (1, vN p1)] (.agg (aP r.1)) [(0, cP 108 pa r.2.1 r.2.2.1 100), (100, vN r.2.2.2)]
 mp_mul : ∀ (a1 : SRules) (pa : LT) (pb : Int) (pc : Bool) (p1 : LLU) (r : T1), R.mp_mul a1 pa pb pc p1 = some r → AC0 145 [.loc 0 0, .agg [V.b a1.noIn, V.b a1.noGt]] [(0, cP 108 pa pb pc 1), (1, vN p1)] (.agg (aP r.1)) [(0, cP 108 pa r.2.1 r.2.2.1 100), (100, vN r.2.2.2)]
 mp_add : ∀ (a1 : SRules) (pa : LT) (pb : Int) (pc : Bool) (p1 : LLU) (r : T1), R.mp_add a1 pa pb pc p1 = some r → AC0 144 [.loc 0 0, .agg [V.b a1.noIn, V.b a1.noGt]] [(0, cP 108 pa pb pc 1), (1, vN p1)] (.agg (aP r.1)) [(0, cP 108 pa r.2.1 r.2.2.1 100), (100, vN r.2.2.2)]
 mp_cat : ∀ (a1 : SRules) (pa : LT) (pb : Int) (pc : Bool) (p1 : LLU) (r : T1), R.mp_cat a1 pa pb pc p1 = some r → AC0 143 [.loc 0 0, .agg [V.b a1.noIn, V.b a1.noGt]] [(0, cP 108 pa pb pc 1), (1, vN p1)] (.agg (aP r.1)) [(0, cP 108 pa r.2.1 r.2.2.1 100), (100, vN r.2.2.2)]
 mp_compare : ∀ (a1 : SRules) (pa : LT) (pb : Int) (pc : Bool) (p1 : LLU) (r : T1), R.mp_compare a1 pa pb pc p1 = some r → AC0 142 [.loc 0 0, .agg [V.b a1.noIn, V.b a1.noGt]] [(0, cP 108 pa pb pc 1), (1, vN p1)] (.agg (aP r.1)) [(0, cP 108 pa r.2.1 r.2.2.1 100), (100, vN r.2.2.2)]
 mp_match : ∀ (a1 : SRules) (pa : LT) (pb : Int) (pc : Bool) (p1 : LLU) (r : T1), R.mp_match a1 pa pb pc p1 = some r → AC0 141 [.loc 0 0, .agg [V.b a1.noIn, V.b a1.noGt]] [(0, cP 108 pa pb pc 1), (1, vN p1)] (.agg (aP r.1)) [(0, cP 108 pa r.2.1 r.2.2.1 100), (100, vN r.2.2.2)]
 mp_items : ∀ (a1 : SRules) (pa : LT) (pb : Int) (pc : Bool) (p1 : LLU) (r : (LS × Int × Bool × LLU)), R.mp_items a1 pa pb pc p1 = some r → AC0 198 [.loc 0 0, .agg [V.b a1.noIn, V.b a1.noGt]] [(0, cP 108 pa pb pc 1), (1, vN p1)] (.own 100) [(0, cP 108 pa r.2.1 r.2.2.1 101), (100, vX 87 5 eST r.1), (101, vN r.2.2.2)]
 mp_list : ∀ (a1 : Int) (pa : LT) (pb : Int) (pc : Bool) (p1 : LLU) (r : (LS × Int × Bool × LLU)), R.mp_list a1 pa pb pc p1 = some r → AC0 184 [.loc 0 0, V.i a1] [(0, cP 108 pa pb pc 1), (1, vN p1)] (.own 100) [(0, cP 108 pa r.2.1 r.2.2.1 101), (100, vX 87 5 eST r.1), (101, vN r.2.2.2)]
 mp_in : ∀ (a1 : SRules) (pa : LT) (pb : Int) (pc : Bool) (p1 : LLU) (r : T1), R.mp_in a1 pa pb pc p1 = some r → AC0 140 [.loc 0 0, .agg [V.b a1.noIn, V.b a1.noGt]] [(0, cP 108 pa pb pc 1), (1, vN p1)] (.agg (aP r.1)) [(0, cP 108 pa r.2.1 r.2.2.1 100), (100, vN r.2.2.2)]
 mp_and : ∀ (a1 : SRules) (pa : LT) (pb : Int) (pc : Bool) (p1 : LLU) (r : T1), R.mp_and a1 pa pb pc p1 = some r → AC0 139 [.loc 0 0, .agg [V.b a1.noIn, V.b a1.noGt]] [(0, cP 108 pa pb pc 1), (1, vN p1)] (.agg (aP r.1)) [(0, cP 108 pa r.2.1 r.2.2.1 100), (100, vN r.2.2.2)]
 mp_or : ∀ (a1 : SRules) (pa : LT) (pb : Int) (pc : Bool) (p1 : LLU) (r : T1), R.mp_or a1 pa pb pc p1 = some r → AC0 138 [.loc 0 0, .agg [V.b a1.noIn, V.b a1.noGt]] [(0, cP 108 pa pb pc 1), (1, vN p1)] (.agg (aP r.1)) [(0, cP 108 pa r.2.1 r.2.2.1 100), (100, vN r.2.2.2)]
 mp_cond : ∀ (a1 : SRules) (pa : LT) (pb : Int) (pc : Bool) (p1 : LLU) (r : T1), R.mp_cond a1 pa pb pc p1 = some r → AC0 137 [.loc 0 0, .agg [V.b a1.noIn, V.b a1.noGt]] [(0, cP 108 pa pb pc 1), (1, vN p1)] (.agg (aP r.1)) [(0, cP 108 pa r.2.1 r.2.2.1 100), (100, vN r.2.2.2)]
 mp_assign : ∀ (a1 : SRules) (pa : LT) (pb : Int) (pc : Bool) (p1 : LLU) (r : T1), R.mp_assign a1 pa pb pc p1 = some r → AC0 136 [.loc 0 0, .agg [V.b a1.noIn, V.b a1.noGt]] [(0, cP 108 pa pb pc 1), (1, vN p1)] (.agg (aP r.1)) [(0, cP 108 pa r.2.1 r.2.2.1 100), (100, vN r.2.2.2)]

theorem mp_variable_F_ok (N : Nat) (R : Rec1) (HR : RecOk1 R) (pa : LT) (pb : Int) (pc : Bool) (p1 : LLU) {r : T1} (h : mp_variable_F N R pa pb pc p1 = some r) :
    AC0 188 [.loc 0 0] [(0, cP 108 pa pb pc 1), (1, vN p1)] (.agg (aP r.1)) [(0, cP 108 pa r.2.1 r.2.2.1 100), (100, vN r.2.2.2)] := by
 rw [mp_variable_F] at h
 refine AC.enter Tryz.func188 rfl (cV 100 (bB h fun r2 hx2 h => (CO.sw mix (wR 1 101 (wC (mp_text_ok pa pb pc p1 hx2) cok187 [(0, 0), (1, 1)] [(0, 0), (1, 1)] [] (wR 3 101 (wF ?_)))))))
 refine CO.join (fun (⟨r2, y7, y8, y9, y10, y11⟩ : ((LU × Int) × Int × Int × Bool × LS × LLU)) => ⟨tl 23 [(2, .loc 100 0), (3, .loc 101 0)], [(100, .cells 110 [V.i 0, V.i 0, V.s [], V.s [], .c (.slice none 0 0), V.b false]), (101, .cells 87 [V.i y7, V.i 0, V.s r2.1, V.s [], .own 102]), (0, cP 108 pa y8 y9 103), (102, vX 87 5 eST y10), (103, vN y11)]⟩) (fun i => mp_variable_k1 N R pa i = some r) ?_ ?_
 · rintro ⟨r2, y7, y8, y9, y10, y11⟩ h8
   rw [mp_variable_k1] at h8
   refine cU 3 104 (tl 23 [(2, .loc 100 0)]) [(100, .cells 110 [V.i y7, V.i 0, V.s r2.1, V.s [], .own 102, V.b true]), (0, cP 108 pa y8 y9 103), (102, vX 87 5 eST y10), (103, vN y11)] (CO.lay (tl 23 [(2, .loc 100 0)]) [(100, .cells 110 [V.i y7, V.i 0, V.s r2.1, V.s [], sL eST y10, V.b true]), (0, cP 108 pa y8 y9 103), (103, vN y11)] (LayOk.cons (j := 102) eST eST y10 (by kernel_rfl) (share_encSTree) lO) (by kernel_rfl) (by kernel_rfl) (by kernel_rfl) (CO.ret ?_))
   have h8 := sI h8
   subst h8
   exact eG [(0, 0), (103, 100)] (.inr rfl) (RetV.one rfl (OneR.cell Dk (r := .agg [V.i y7, V.i 0, V.s r2.1, V.s [], sL eST y10, V.b true]) (i := 100) (ety := 110) (cs := [V.i y7, V.i 0, V.s r2.1, V.s [], sL eST y10, V.b true]) (by kernel_rfl) (by kernel_rfl) (by kernel_rfl)))
 intro hk9
 refine bB h fun r13 hx11 h => (CO.sw mix (wR 1 102 (wC (mp_kind_ok pa r2.2 pc p1 hx11) cok134 [(0, 0), (1, 1)] [(0, 0), (1, 1)] [] (wR 1 102 (wF ?_)))))
 refine cI h (fun _ h => ?_) (fun _ h => ?_)
 ·refine cV 102 (bB h fun r15 hx14 h => (CO.w mix (wR 1 102 (wC (HR.mp_list 35 pa (wr (r2.2 + 1)) pc p1 _ hx14) cok184 [(0, 0), (1, 1)] [(0, 0), (100, 102), (101, 103)] [102, 103] (wR 4 104 ?_)))))
  exact wK hk9 (r2, 5, r15.2.1, r15.2.2.1, r15.1, r15.2.2.2) h [(100, 100), (101, 101), (0, 0), (102, 102), (103, 103)] [2, 3]
 refine CO.skip ?_
 exact hk9 (r2, 1, r2.2, pc, [], p1) h _ ((Weak.nilCell 101 4 102 87 5 (ety := 87) (cs := [V.i 1, V.i 0, V.s r2.1, V.s [], .c (.slice none 0 0)]) (by kernel_rfl) (by kernel_rfl) (by kernel_rfl)).trans (wS [(100, 100), (101, 101), (0, 0), (102, 102), (1, 103)] [2, 3]))

theorem mp_primary_F_ok (N : Nat) (R : Rec1) (HR : RecOk1 R) (pa : LT) (pb : Int) (pc : Bool) (p1 : LLU) {r : T1} (h : mp_primary_F N R pa pb pc p1 = some r) :
    AC0 152 [.loc 0 0] [(0, cP 108 pa pb pc 1), (1, vN p1)] (.agg (aP r.1)) [(0, cP 108 pa r.2.1 r.2.2.1 100), (100, vN r.2.2.2)] := by
 rw [mp_primary_F] at h
 refine AC.enter Tryz.func152 rfl (cV 100 (CO.seq' (cV 101 ?_)))
 refine cI h (fun _ h => ?_) (fun _ h => ?_)
 ·refine cU 2 101 (tl 81 [(2, .loc 100 0)]) [(100, .cells 110 [V.i 0, V.i 0, V.s [], V.s [], .c (.slice none 0 0), V.b false]), (0, cP 108 pa pb pc 1), (1, vN p1)] (CO.lay (tl 81 [(2, .loc 100 0)]) [(100, .cells 110 [V.i 0, V.i 0, V.s [], V.s [], sL eST [], V.b false]), (0, cP 108 pa pb pc 1), (1, vN p1)] lO (by kernel_rfl) (by kernel_rfl) (by kernel_rfl) (CO.ret ?_))
  cases h
  exact eG [(0, 0), (1, 100)] (.inr rfl) (RetV.one rfl (OneR.cell Dk (r := .agg [V.i 0, V.i 0, V.s [], V.s [], sL eST [], V.b false]) (i := 100) (ety := 110) (cs := [V.i 0, V.i 0, V.s [], V.s [], sL eST [], V.b false]) (by kernel_rfl) (by kernel_rfl) (by kernel_rfl)))
 refine CO.skip (CO.seq' (bB h fun r38 hx58 h => (CO.sw mix (wR 1 101 (wC (mp_kind_ok pa pb pc p1 hx58) cok134 [(0, 0), (1, 1)] [(0, 0), (1, 1)] [] (wR 1 101 (wF (cV 101 ?_))))))))
 refine CO.block' (cV 101 ?_)
 refine cI h (fun _ h => ?_) (fun _ h => ?_)
 ·refine bB h fun r40 hx61 h => ?_
  refine CO.cutR (tl 81 [(2, .loc 100 0)]) [(100, .cells 110 [V.i 2, V.i 0, V.s r40.1, V.s [], .c (.slice none 0 0), V.b false]), (0, cP 108 pa r40.2 pc 1), (1, vN p1)] mix (by
   refine wR 1 101 (wC (mp_text_ok pa pb pc p1 hx61) cok187 [(0, 0), (1, 1)] [(0, 0), (1, 1)] [] (wR 3 101 ?_))
   exact fI
   ) ?_
  refine CO.lay (tl 81 [(2, .loc 100 0)]) [(100, .cells 110 [V.i 2, V.i 0, V.s r40.1, V.s [], sL eST [], V.b false]), (0, cP 108 pa r40.2 pc 1), (1, vN p1)] lO (by kernel_rfl) (by kernel_rfl) (by kernel_rfl) (CO.ret ?_)
  have h := sI h
  subst h
  exact eG [(0, 0), (1, 100)] (.inr rfl) (RetV.one rfl (OneR.cell Dk (r := .agg [V.i 2, V.i 0, V.s r40.1, V.s [], sL eST [], V.b false]) (i := 100) (ety := 110) (cs := [V.i 2, V.i 0, V.s r40.1, V.s [], sL eST [], V.b false]) (by kernel_rfl) (by kernel_rfl) (by kernel_rfl)))
 refine cV 101 ?_
 refine cI h (fun _ h => ?_) (fun _ h => ?_)
 ·refine bB h fun r42 hx64 h => ?_
  refine CO.cutR (tl 81 [(2, .loc 100 0)]) [(100, .cells 110 [V.i 3, V.i 0, V.s r42.1, V.s [], .c (.slice none 0 0), V.b false]), (0, cP 108 pa r42.2 pc 1), (1, vN p1)] mix (by
   refine wR 1 101 (wC (mp_text_ok pa pb pc p1 hx64) cok187 [(0, 0), (1, 1)] [(0, 0), (1, 1)] [] (wR 3 101 ?_))
   exact fI
   ) ?_
  refine CO.lay (tl 81 [(2, .loc 100 0)]) [(100, .cells 110 [V.i 3, V.i 0, V.s r42.1, V.s [], sL eST [], V.b false]), (0, cP 108 pa r42.2 pc 1), (1, vN p1)] lO (by kernel_rfl) (by kernel_rfl) (by kernel_rfl) (CO.ret ?_)
  have h := sI h
  subst h
  exact eG [(0, 0), (1, 100)] (.inr rfl) (RetV.one rfl (OneR.cell Dk (r := .agg [V.i 3, V.i 0, V.s r42.1, V.s [], sL eST [], V.b false]) (i := 100) (ety := 110) (cs := [V.i 3, V.i 0, V.s r42.1, V.s [], sL eST [], V.b false]) (by kernel_rfl) (by kernel_rfl) (by kernel_rfl)))
 refine cV 101 ?_
 refine cI h (fun _ h => ?_) (fun _ h => ?_)
 ·refine bB h fun r44 hx67 h => ?_
  refine CO.cutR (tl 81 [(2, .loc 100 0)]) [(100, .cells 110 [V.i 4, V.i 0, V.s r44.1, V.s [], .c (.slice none 0 0), V.b false]), (0, cP 108 pa r44.2 pc 1), (1, vN p1)] mix (by
   refine wR 1 101 (wC (mp_text_ok pa pb pc p1 hx67) cok187 [(0, 0), (1, 1)] [(0, 0), (1, 1)] [] (wR 3 101 ?_))
   exact fI
   ) ?_
  refine CO.lay (tl 81 [(2, .loc 100 0)]) [(100, .cells 110 [V.i 4, V.i 0, V.s r44.1, V.s [], sL eST [], V.b false]), (0, cP 108 pa r44.2 pc 1), (1, vN p1)] lO (by kernel_rfl) (by kernel_rfl) (by kernel_rfl) (CO.ret ?_)
  have h := sI h
  subst h
  exact eG [(0, 0), (1, 100)] (.inr rfl) (RetV.one rfl (OneR.cell Dk (r := .agg [V.i 4, V.i 0, V.s r44.1, V.s [], sL eST [], V.b false]) (i := 100) (ety := 110) (cs := [V.i 4, V.i 0, V.s r44.1, V.s [], sL eST [], V.b false]) (by kernel_rfl) (by kernel_rfl) (by kernel_rfl)))
 refine cV 101 ?_
 refine cI h (fun _ h => ?_) (fun _ h => ?_)
 ·refine bB h fun r46 hx70 h => (CO.sw mix (wR 1 101 (wC (HR.mp_variable pa pb pc p1 _ hx70) cok188 [(0, 0), (1, 1)] [(0, 0), (100, 101)] [101] (wR 1 102 (wF (CO.ret ?_))))))
  have h := sI h
  subst h
  exact eG [(0, 0), (101, 100)] (.inr rfl) (RetV.one rfl (OneR.cell Dk (r := .agg (aP r46.1)) (i := 100) (ety := 110) (cs := (aP r46.1)) (by kernel_rfl) (by kernel_rfl) (by kernel_rfl)))
 refine CO.join (fun (⟨r38, pb, pc, p1, y47⟩ : (Int × Int × Bool × LLU × Bool)) => ⟨tl 81 [(0, .loc 0 0), (2, .loc 100 0), (3, V.i r38), (13, V.i r38), (36, V.b y47)], [(0, cP 108 pa pb pc 1), (100, .cells 110 [V.i 0, V.i 0, V.s [], V.s [], .c (.slice none 0 0), V.b false]), (1, vN p1)]⟩) (fun i => mp_primary_k1 N R pa i = some r) ?_ ?_
 · rintro ⟨r38, pb, pc, p1, y47⟩ h72
   rw [mp_primary_k1] at h72
   refine cI h72 (fun _ h72 => ?_) (fun _ h72 => ?_)
   ·refine bB h72 fun r49 hx75 h72 => (CO.sw mix (wR 1 101 (wC (mp_text_ok pa pb pc p1 hx75) cok187 [(0, 0), (1, 1)] [(0, 0), (1, 1)] [] (wR 3 101 (wF ?_)))))
    refine CO.join (fun (⟨r49, pc, p1, y53⟩ : ((LU × Int) × Bool × LLU × Int)) => ⟨tl 81 [(0, .loc 0 0), (2, .loc 100 0), (4, .loc 101 0)], [(0, cP 108 pa r49.2 pc 1), (100, .cells 110 [V.i 0, V.i 0, V.s [], V.s [], .c (.slice none 0 0), V.b false]), (101, .cells 87 [V.i y53, V.i 0, V.s r49.1, V.s [], .c (.slice none 0 0)]), (1, vN p1)]⟩) (fun i => mp_primary_k2 N R pa i = some r) ?_ ?_
    · rintro ⟨r49, pc, p1, y53⟩ h83
      rw [mp_primary_k2] at h83
      refine CO.join (fun (⟨y53, r49, y58, y59, y60, y61⟩ : (Int × (LU × Int) × Int × Bool × LS × LLU)) => ⟨tl 81 [(2, .loc 100 0), (4, .loc 101 0)], [(100, .cells 110 [V.i 0, V.i 0, V.s [], V.s [], .c (.slice none 0 0), V.b false]), (101, .cells 87 [V.i y53, V.i 0, V.s r49.1, V.s [], .own 102]), (0, cP 108 pa y58 y59 103), (102, vX 87 5 eST y60), (103, vN y61)]⟩) (fun i => mp_primary_k3 N R pa i = some r) ?_ ?_
      · rintro ⟨y53, r49, y58, y59, y60, y61⟩ h89
        rw [mp_primary_k3] at h89
        refine cU 3 104 (tl 81 [(2, .loc 100 0)]) [(100, .cells 110 [V.i y53, V.i 0, V.s r49.1, V.s [], .own 102, V.b false]), (0, cP 108 pa y58 y59 103), (102, vX 87 5 eST y60), (103, vN y61)] (CO.lay (tl 81 [(2, .loc 100 0)]) [(100, .cells 110 [V.i y53, V.i 0, V.s r49.1, V.s [], sL eST y60, V.b false]), (0, cP 108 pa y58 y59 103), (103, vN y61)] (LayOk.cons (j := 102) eST eST y60 (by kernel_rfl) (share_encSTree) lO) (by kernel_rfl) (by kernel_rfl) (by kernel_rfl) (CO.ret ?_))
        have h89 := sI h89
        subst h89
        exact eG [(0, 0), (103, 100)] (.inr rfl) (RetV.one rfl (OneR.cell Dk (r := .agg [V.i y53, V.i 0, V.s r49.1, V.s [], sL eST y60, V.b false]) (i := 100) (ety := 110) (cs := [V.i y53, V.i 0, V.s r49.1, V.s [], sL eST y60, V.b false]) (by kernel_rfl) (by kernel_rfl) (by kernel_rfl)))
      intro hk90
      refine bB h83 fun r63 hx92 h83 => (CO.sw mix (wR 1 102 (wC (mp_take_ok 32 pa r49.2 pc p1 hx92) cok180 [(0, 0), (1, 1)] [(0, 0), (1, 1)] [] (wF ?_))))
      refine cI h83 (fun _ h83 => ?_) (fun _ h83 => ?_)
      ·refine bB h83 fun r65 hx95 h83 => (CO.w mix (wR 1 102 (wC (HR.mp_list 33 pa r63.2.1 r63.2.2 p1 _ hx95) cok184 [(0, 0), (1, 1)] [(0, 0), (100, 102), (101, 103)] [102, 103] (wR 2 104 ?_))))
       exact wK hk90 (y53, r49, r65.2.1, r65.2.2.1, r65.1, r65.2.2.2) h83 [(100, 100), (101, 101), (0, 0), (102, 102), (103, 103)] [2, 4]
      refine CO.skip ?_
      exact hk90 (y53, r49, r63.2.1, r63.2.2, [], p1) h83 _ ((Weak.nilCell 101 4 102 87 5 (ety := 87) (cs := [V.i y53, V.i 0, V.s r49.1, V.s [], .c (.slice none 0 0)]) (by kernel_rfl) (by kernel_rfl) (by kernel_rfl)).trans (wS [(100, 100), (101, 101), (0, 0), (102, 102), (1, 103)] [2, 4]))
    intro hk96
    refine cV 102 ?_
    refine cI h72 (fun _ h72 => ?_) (fun _ h72 => ?_)
    ·refine cV 102 (bB h72 fun y67 hv100 h72 => ?_)
     refine CO.cutR (tl 81 [(0, .loc 0 0), (2, .loc 100 0), (4, .loc 101 0), (52, V.b y67)]) [(0, cP 108 pa r49.2 pc 1), (100, .cells 110 [V.i 0, V.i 0, V.s [], V.s [], .c (.slice none 0 0), V.b false]), (101, .cells 87 [V.i 8, V.i 0, V.s r49.1, V.s [], .c (.slice none 0 0)]), (1, vN p1)] mix (by
      refine wR 4 102 ?_
      refine wJ 48 hv100 (fun hv100 => ?_) (fun hv100 => ?_)
      ·refine wR 1 102 (bB hv100 fun r68 hx102 hv100 => (wC (mp_kind_ok pa r49.2 pc p1 hx102) cok134 [(0, 0), (1, 1)] [(0, 0), (1, 1)] [] (wR 2 102 ?_)))
       cases hv100
       exact fS [(0, 0), (100, 100), (101, 101), (1, 1)] [0, 2, 4, 52]
      refine wR 4 102 ?_
      cases hv100
      exact fS [(0, 0), (100, 100), (101, 101), (1, 1)] [0, 2, 4, 52]
      ) ?_
     refine cI h72 (fun _ h72 => ?_) (fun _ h72 => ?_)
     ·refine cU 3 102 (tl 81 [(2, .loc 100 0)]) [(100, .cells 110 [V.i 8, V.i 0, V.s r49.1, V.s [], .c (.slice none 0 0), V.b false]), (0, cP 108 pa r49.2 pc 1), (1, vN p1)] (CO.lay (tl 81 [(2, .loc 100 0)]) [(100, .cells 110 [V.i 8, V.i 0, V.s r49.1, V.s [], sL eST [], V.b false]), (0, cP 108 pa r49.2 pc 1), (1, vN p1)] lO (by kernel_rfl) (by kernel_rfl) (by kernel_rfl) (CO.ret ?_))
      have h72 := sI h72
      subst h72
      exact eG [(0, 0), (1, 100)] (.inr rfl) (RetV.one rfl (OneR.cell Dk (r := .agg [V.i 8, V.i 0, V.s r49.1, V.s [], sL eST [], V.b false]) (i := 100) (ety := 110) (cs := [V.i 8, V.i 0, V.s r49.1, V.s [], sL eST [], V.b false]) (by kernel_rfl) (by kernel_rfl) (by kernel_rfl)))
     exact sK hk96 (r49, pc, p1, 8) h72 [(0, 0), (100, 100), (101, 101), (1, 1)] [0, 2, 4]
    exact sK hk96 (r49, pc, p1, 7) h72 [(0, 0), (100, 100), (101, 101), (1, 1)] [0, 2, 4]
   refine cV 101 ?_
   refine cI h72 (fun _ h72 => ?_) (fun _ h72 => ?_)
   ·refine cV 101 (bB h72 fun r70 hx106 h72 => (CO.sw mix (wR 2 101 (wC (HR.mp_assign (⟨false, false⟩ : SRules) pa (wr (pb + 1)) pc p1 _ hx106) cok136 [(0, 0), (1, 1)] [(0, 0), (100, 101)] [101] (wR 2 102 (wF (bB h72 fun r72 hx108 h72 => (CO.sw mix ?_))))))))
    refine wR 1 103 (wC (mp_take_ok 33 pa r70.2.1 r70.2.2.1 r70.2.2.2 hx108) cok180 [(0, 0), (101, 1)] [(0, 0), (1, 101)] [] (wF (cV 103 (CO.ret ?_))))
    have h72 := sI h72
    subst h72
    exact eG [(0, 0), (101, 100)] (.inr rfl) (RetV.one rfl (OneR.cell Dk (r := .agg [V.i r70.1.tree.kind, V.i r70.1.tree.op, V.s r70.1.tree.text, V.s r70.1.tree.other, sL eST r70.1.tree.kids, V.b false]) (i := 100) (ety := 110) (cs := [V.i r70.1.tree.kind, V.i r70.1.tree.op, V.s r70.1.tree.text, V.s r70.1.tree.other, sL eST r70.1.tree.kids, V.b false]) (by kernel_rfl) (by kernel_rfl) (by kernel_rfl)))
   refine CO.skip (bB h72 fun r74 hx110 h72 => (CO.sw mix (wR 1 101 (wC (mp_fail_ok pa pb pc p1 hx110) cok135 [(0, 0), (1, 1)] [(0, 0), (1, 1)] [] (wR 1 101 (wF (CO.ret ?_)))))))
   have h72 := sI h72
   subst h72
   exact eG [(0, 0), (1, 100)] (.inr rfl) (RetV.one rfl (OneR.cell Dk (r := .agg (aP r74.1)) (i := 100) (ety := 110) (cs := (aP r74.1)) (by kernel_rfl) (by kernel_rfl) (by kernel_rfl)))
 intro hk111
 refine cV 101 ?_
 refine cI h (fun _ h => ?_) (fun _ h => ?_)
 ·exact sK hk111 (r38, pb, pc, p1, (r38 == 7)) h [(0, 0), (100, 100), (1, 1)] [0, 2, 3, 13, 36]
 exact cK 101 hk111 (r38, pb, pc, p1, (r38 == 8)) h [(0, 0), (100, 100), (1, 1)] [0, 2, 3, 13, 36]

theorem mp_field_F_ok (N : Nat) (R : Rec1) (HR : RecOk1 R) (pa : LT) (pb : Int) (pc : Bool) (p1 : LLU) {r : T1} (h : mp_field_F N R pa pb pc p1 = some r) :
    AC0 151 [.loc 0 0] [(0, cP 108 pa pb pc 1), (1, vN p1)] (.agg (aP r.1)) [(0, cP 108 pa r.2.1 r.2.2.1 100), (100, vN r.2.2.2)] := by
 rw [mp_field_F] at h
 refine AC.enter Tryz.func151 rfl (cV 100 (CO.seq' (bB h fun y7 hv11 h => ?_)))
 refine CO.cutR (tl 35 [(0, .loc 0 0), (2, .loc 100 0), (12, V.b y7)]) [(0, cP 108 pa pb pc 1), (100, .cells 110 [V.i 0, V.i 0, V.s [], V.s [], .c (.slice none 0 0), V.b false]), (1, vN p1)] mix (by
  refine wR 5 101 ?_
  refine wJ 8 hv11 (fun hv11 => ?_) (fun hv11 => ?_)
  ·refine wR 4 101 ?_
   cases hv11
   exact fS [(0, 0), (100, 100), (1, 1)] [0, 2, 12]
  refine wR 1 101 (bB hv11 fun r8 hx13 hv11 => (wC (mp_kind_ok pa pb pc p1 hx13) cok134 [(0, 0), (1, 1)] [(0, 0), (1, 1)] [] (wR 2 101 ?_)))
  cases hv11
  exact fS [(0, 0), (100, 100), (1, 1)] [0, 2, 12]
  ) ?_
 refine cI h (fun _ h => ?_) (fun _ h => ?_)
 ·refine bB h fun r10 hx16 h => (CO.sw mix (wR 1 101 (wC (HR.mp_primary pa pb pc p1 _ hx16) cok152 [(0, 0), (1, 1)] [(0, 0), (100, 101)] [101] (wR 1 102 (wF (CO.ret ?_))))))
  have h := sI h
  subst h
  exact eG [(0, 0), (101, 100)] (.inr rfl) (RetV.one rfl (OneR.cell Dk (r := .agg (aP r10.1)) (i := 100) (ety := 110) (cs := (aP r10.1)) (by kernel_rfl) (by kernel_rfl) (by kernel_rfl)))
 refine CO.skip (cV 101 (cV 101 ?_))
 refine CO.join (fun (⟨y19, y20, y21, y22, y23, y24, y25, y26, y27⟩ : (Int × Int × LU × LU × LS × Bool × Int × Bool × LLU)) => ⟨tl 35 [(2, .loc 100 0), (3, .loc 101 0)], [(100, .cells 110 [V.i 0, V.i 0, V.s [], V.s [], .c (.slice none 0 0), V.b false]), (101, .cells 110 [V.i y19, V.i y20, V.s y21, V.s y22, sL eST y23, V.b y24]), (0, cP 108 pa y25 y26 102), (102, vN y27)]⟩) (fun i => mp_field_k1 N R pa i = some r) ?_ ?_
 · rintro ⟨y19, y20, y21, y22, y23, y24, y25, y26, y27⟩ h26
   rw [mp_field_k1] at h26
   refine CO.cutR (tl 35 [(2, .loc 100 0)]) [(100, .cells 110 [V.i 6, V.i 0, V.s [], V.s [], .own 103, V.b true]), (103, .vec false 87 5 ([(⟨y19, y20, y21, y22, y23⟩ : STree)].map eST)), (0, cP 108 pa y25 y26 102), (102, vN y27)] mix (by
    refine wR 2 103 (W.layop Dk lO (by kernel_rfl) 103 { v := .own 103, R := [], new := [(103, .vec true 87 5 [[V.i y19, V.i y20, V.s y21, V.s y22, sL eST y23]])], N := [103] } (by kernel_rfl) (W.vecEq 103 (nn := true) (e := 87) (k := 5) (rows := [[V.i y19, V.i y20, V.s y21, V.s y22, sL eST y23]]) (rows' := [(⟨y19, y20, y21, y22, y23⟩ : STree)].map eST) (by kernel_rfl) (by simp only [List.map_cons, List.map_nil, encSTree_eq]) (wR 3 104 ?_)))
    exact fI
    ) ?_
   refine CO.lay (tl 35 [(2, .loc 100 0)]) [(100, .cells 110 [V.i 6, V.i 0, V.s [], V.s [], .sl false false ([(⟨y19, y20, y21, y22, y23⟩ : STree)].map eST), V.b true]), (0, cP 108 pa y25 y26 102), (102, vN y27)] (LayOk.cons (j := 103) eST eST ([(⟨y19, y20, y21, y22, y23⟩ : STree)] : LS) (by kernel_rfl) (share_encSTree) lO) (by kernel_rfl) (by kernel_rfl) (by kernel_rfl) (CO.ret ?_)
   have h26 := sI h26
   subst h26
   exact eG [(0, 0), (102, 100)] (.inr rfl) (RetV.one rfl (OneR.cell Dk (r := .agg [V.i 6, V.i 0, V.s [], V.s [], .sl false false ([(⟨y19, y20, y21, y22, y23⟩ : STree)].map eST), V.b true]) (i := 100) (ety := 110) (cs := [V.i 6, V.i 0, V.s [], V.s [], .sl false false ([(⟨y19, y20, y21, y22, y23⟩ : STree)].map eST), V.b true]) (by kernel_rfl) (by kernel_rfl) (by kernel_rfl)))
 intro hk27
 refine bB h fun r30 hx30 h => (bB h fun r31 hx31 h => (CO.sw mix (wR 1 102 (wC (mp_kind_ok pa (wr (pb + 1)) pc p1 hx30) cok134 [(0, 0), (1, 1)] [(0, 0), (1, 1)] [] (w0 (mi_isStep_ok r30 hx31) cok149 (wF ?_))))))
 refine cI h (fun _ h => ?_) (fun _ h => ?_)
 ·refine bB h fun r33 hx34 h => (CO.w mix (wR 1 102 (wC (HR.mp_before pa (wr (pb + 1)) pc p1 _ hx34) cok150 [(0, 0), (1, 1)] [(0, 0), (100, 102)] [102] (wR 1 103 ?_))))
  exact wK hk27 (r33.1.tree.kind, r33.1.tree.op, r33.1.tree.text, r33.1.tree.other, r33.1.tree.kids, r33.1.target, r33.2.1, r33.2.2.1, r33.2.2.2) h [(100, 100), (101, 101), (0, 0), (102, 102)] [2, 3]
 refine bB h fun r35 hx36 h => (CO.w mix (wR 1 102 (wC (HR.mp_field pa (wr (pb + 1)) pc p1 _ hx36) cok151 [(0, 0), (1, 1)] [(0, 0), (100, 102)] [102] (wR 1 103 ?_))))
 exact wK hk27 (r35.1.tree.kind, r35.1.tree.op, r35.1.tree.text, r35.1.tree.other, r35.1.tree.kids, r35.1.target, r35.2.1, r35.2.2.1, r35.2.2.2) h [(100, 100), (101, 101), (0, 0), (102, 102)] [2, 3]

theorem mp_lvalue_F_ok (N : Nat) (R : Rec1) (HR : RecOk1 R) (pa : LT) (pb : Int) (pc : Bool) (p1 : LLU) {r : T1} (h : mp_lvalue_F N R pa pb pc p1 = some r) :
    AC0 186 [.loc 0 0] [(0, cP 108 pa pb pc 1), (1, vN p1)] (.agg (aP r.1)) [(0, cP 108 pa r.2.1 r.2.2.1 100), (100, vN r.2.2.2)] := by
 rw [mp_lvalue_F] at h
 refine AC.enter Tryz.func186 rfl (cV 100 ?_)
 refine CO.join (fun (⟨pb, pc, p1⟩ : (Int × Bool × LLU)) => ⟨tl 22 [(0, .loc 0 0), (2, .loc 100 0)], [(0, cP 108 pa pb pc 1), (100, .cells 110 [V.i 0, V.i 0, V.s [], V.s [], .c (.slice none 0 0), V.b false]), (1, vN p1)]⟩) (fun i => mp_lvalue_k1 N R pa i = some r) ?_ ?_
 · rintro ⟨pb, pc, p1⟩ h12
   rw [mp_lvalue_k1] at h12
   refine bB h12 fun r10 hx14 h12 => (CO.sw mix (wR 1 101 (wC (mp_fail_ok pa pb pc p1 hx14) cok135 [(0, 0), (1, 1)] [(0, 0), (1, 1)] [] (wR 1 101 (wF (CO.ret ?_))))))
   have h12 := sI h12
   subst h12
   exact eG [(0, 0), (1, 100)] (.inr rfl) (RetV.one rfl (OneR.cell Dk (r := .agg (aP r10.1)) (i := 100) (ety := 110) (cs := (aP r10.1)) (by kernel_rfl) (by kernel_rfl) (by kernel_rfl)))
 intro hk15
 refine CO.block' (cV 101 ?_)
 refine cI h (fun _ h => ?_) (fun _ h => ?_)
 ·exact sK hk15 (pb, pc, p1) h [(0, 0), (100, 100), (1, 1)] [0, 2]
 refine bB h fun r12 hx18 h => (CO.sw mix (wR 1 101 (wC (mp_kind_ok pa pb pc p1 hx18) cok134 [(0, 0), (1, 1)] [(0, 0), (1, 1)] [] (wR 2 101 (wF ?_)))))
 refine cI h (fun _ h => ?_) (fun _ h => ?_)
 ·refine bB h fun r14 hx21 h => (CO.sw mix (wR 1 101 (wC (HR.mp_field pa pb pc p1 _ hx21) cok151 [(0, 0), (1, 1)] [(0, 0), (100, 101)] [101] (wR 1 102 (wF (CO.ret ?_))))))
  have h := sI h
  subst h
  exact eG [(0, 0), (101, 100)] (.inr rfl) (RetV.one rfl (OneR.cell Dk (r := .agg (aP r14.1)) (i := 100) (ety := 110) (cs := (aP r14.1)) (by kernel_rfl) (by kernel_rfl) (by kernel_rfl)))
 refine bB h fun r16 hx23 h => (CO.sw mix (wR 1 101 (wC (mp_kind_ok pa pb pc p1 hx23) cok134 [(0, 0), (1, 1)] [(0, 0), (1, 1)] [] (wR 2 101 (wF ?_)))))
 refine cI h (fun _ h => ?_) (fun _ h => ?_)
 ·refine bB h fun r18 hx26 h => (CO.sw mix (wR 1 101 (wC (HR.mp_variable pa pb pc p1 _ hx26) cok188 [(0, 0), (1, 1)] [(0, 0), (100, 101)] [101] (wR 1 102 (wF (CO.ret ?_))))))
  have h := sI h
  subst h
  exact eG [(0, 0), (101, 100)] (.inr rfl) (RetV.one rfl (OneR.cell Dk (r := .agg (aP r18.1)) (i := 100) (ety := 110) (cs := (aP r18.1)) (by kernel_rfl) (by kernel_rfl) (by kernel_rfl)))
 exact sK hk15 (pb, pc, p1) h [(0, 0), (100, 100), (1, 1)] [0, 2]

theorem mp_before_F_ok (N : Nat) (R : Rec1) (HR : RecOk1 R) (pa : LT) (pb : Int) (pc : Bool) (p1 : LLU) {r : T1} (h : mp_before_F N R pa pb pc p1 = some r) :
    AC0 150 [.loc 0 0] [(0, cP 108 pa pb pc 1), (1, vN p1)] (.agg (aP r.1)) [(0, cP 108 pa r.2.1 r.2.2.1 100), (100, vN r.2.2.2)] := by
 rw [mp_before_F] at h
 refine AC.enter Tryz.func150 rfl (cV 100 (bB h fun r2 hx2 h => (CO.sw mix (wR 1 101 (wC (mp_kind_ok pa pb pc p1 hx2) cok134 [(0, 0), (1, 1)] [(0, 0), (1, 1)] [] (wR 1 101 (wF (cV 101 ?_))))))))
 refine bB h fun r4 hx4 h => (CO.sw mix (wR 1 101 (wC (HR.mp_lvalue pa (wr (pb + 1)) pc p1 _ hx4) cok186 [(0, 0), (1, 1)] [(0, 0), (100, 101)] [101] (wR 2 102 (wF ?_)))))
 refine CO.cutR (tl 22 [(2, .loc 100 0)]) [(100, .cells 110 [V.i 9, V.i r2, V.s [], V.s [], .own 103, V.b false]), (103, .vec false 87 5 ([r4.1.tree].map eST)), (101, vN r4.2.2.2), (0, cP 108 pa r4.2.1 r4.2.2.1 101)] mix (by
  refine wR 3 103 (W.layop Dk lO (by kernel_rfl) 103 { v := .own 103, R := [], new := [(103, .vec true 87 5 [[V.i r4.1.tree.kind, V.i r4.1.tree.op, V.s r4.1.tree.text, V.s r4.1.tree.other, sL eST r4.1.tree.kids]])], N := [103] } (by kernel_rfl) (W.vecEq 103 (nn := true) (e := 87) (k := 5) (rows := [[V.i r4.1.tree.kind, V.i r4.1.tree.op, V.s r4.1.tree.text, V.s r4.1.tree.other, sL eST r4.1.tree.kids]]) (rows' := [r4.1.tree].map eST) (by kernel_rfl) (by simp only [List.map_cons, List.map_nil, encSTree_eq]) (wR 3 104 ?_)))
  exact fI
  ) ?_
 refine CO.lay (tl 22 [(2, .loc 100 0)]) [(100, .cells 110 [V.i 9, V.i r2, V.s [], V.s [], .sl false false ([r4.1.tree].map eST), V.b false]), (101, vN r4.2.2.2), (0, cP 108 pa r4.2.1 r4.2.2.1 101)] (LayOk.cons (j := 103) eST eST ([r4.1.tree] : LS) (by kernel_rfl) (share_encSTree) lO) (by kernel_rfl) (by kernel_rfl) (by kernel_rfl) (CO.ret ?_)
 have h := sI h
 subst h
 exact eG [(0, 0), (101, 100)] (.inr rfl) (RetV.one rfl (OneR.cell Dk (r := .agg [V.i 9, V.i r2, V.s [], V.s [], .sl false false ([r4.1.tree].map eST), V.b false]) (i := 100) (ety := 110) (cs := [V.i 9, V.i r2, V.s [], V.s [], .sl false false ([r4.1.tree].map eST), V.b false]) (by kernel_rfl) (by kernel_rfl) (by kernel_rfl)))

theorem mp_incr_F_ok (N : Nat) (R : Rec1) (HR : RecOk1 R) (pa : LT) (pb : Int) (pc : Bool) (p1 : LLU) {r : T1} (h : mp_incr_F N R pa pb pc p1 = some r) :
    AC0 148 [.loc 0 0] [(0, cP 108 pa pb pc 1), (1, vN p1)] (.agg (aP r.1)) [(0, cP 108 pa r.2.1 r.2.2.1 100), (100, vN r.2.2.2)] := by
 rw [mp_incr_F] at h
 refine AC.enter Tryz.func148 rfl (cV 100 (CO.seq' (bB h fun y10 hv14 h => ?_)))
 refine CO.cutR (tl 50 [(0, .loc 0 0), (2, .loc 100 0), (14, V.b y10)]) [(0, cP 108 pa pb pc 1), (100, .cells 110 [V.i 0, V.i 0, V.s [], V.s [], .c (.slice none 0 0), V.b false]), (1, vN p1)] mix (by
  refine wR 6 101 ?_
  refine wJ 10 hv14 (fun hv14 => ?_) (fun hv14 => ?_)
  ·refine wR 1 101 (bB hv14 fun r11 hx16 hv14 => (wC (mp_kind_ok pa pb pc p1 hx16) cok134 [(0, 0), (1, 1)] [(0, 0), (1, 1)] [] (bB hv14 fun r12 hx17 hv14 => (w0 (mi_isStep_ok r11 hx17) cok149 (wR 1 101 ?_)))))
   cases hv14
   exact fS [(0, 0), (100, 100), (1, 1)] [0, 2, 14]
  refine wR 4 101 ?_
  cases hv14
  exact fS [(0, 0), (100, 100), (1, 1)] [0, 2, 14]
  ) ?_
 refine cI h (fun _ h => ?_) (fun _ h => ?_)
 ·refine bB h fun r14 hx20 h => (CO.sw mix (wR 1 101 (wC (HR.mp_before pa pb pc p1 _ hx20) cok150 [(0, 0), (1, 1)] [(0, 0), (100, 101)] [101] (wR 1 102 (wF (CO.ret ?_))))))
  have h := sI h
  subst h
  exact eG [(0, 0), (101, 100)] (.inr rfl) (RetV.one rfl (OneR.cell Dk (r := .agg (aP r14.1)) (i := 100) (ety := 110) (cs := (aP r14.1)) (by kernel_rfl) (by kernel_rfl) (by kernel_rfl)))
 refine CO.skip (bB h fun r16 hx22 h => (CO.sw mix (wR 1 101 (wC (HR.mp_field pa pb pc p1 _ hx22) cok151 [(0, 0), (1, 1)] [(0, 0), (100, 101)] [101] (wR 2 102 (wF (CO.seq' (bB h fun y24 hv37 h => ?_))))))))
 refine CO.cutR (tl 50 [(0, .loc 0 0), (2, .loc 100 0), (3, .loc 101 0), (33, V.b y24)]) [(0, cP 108 pa r16.2.1 r16.2.2.1 102), (100, .cells 110 [V.i 0, V.i 0, V.s [], V.s [], .c (.slice none 0 0), V.b false]), (101, .cells 110 (aP r16.1)), (102, vN r16.2.2.2)] mix (by
  refine wR 5 103 ?_
  refine wJ 23 hv37 (fun hv37 => ?_) (fun hv37 => ?_)
  ·refine wR 10 103 ?_
   cases hv37
   exact fS [(0, 0), (100, 100), (102, 101), (101, 102)] [0, 2, 3, 33]
  refine wR 5 103 ?_
  refine wJ 28 hv37 (fun hv37 => ?_) (fun hv37 => ?_)
  ·refine wR 5 103 ?_
   cases hv37
   exact fS [(0, 0), (100, 100), (102, 101), (101, 102)] [0, 2, 3, 33]
  refine wR 1 103 (bB hv37 fun r25 hx40 hv37 => (wC (mp_kind_ok pa r16.2.1 r16.2.2.1 r16.2.2.2 hx40) cok134 [(0, 0), (101, 1)] [(0, 0), (1, 101)] [] (bB hv37 fun r26 hx41 hv37 => (w0 (mi_isStep_ok r25 hx41) cok149 (wR 2 103 ?_)))))
  cases hv37
  exact fS [(0, 0), (100, 100), (102, 101), (101, 102)] [0, 2, 3, 33]
  ) ?_
 refine cI h (fun _ h => ?_) (fun _ h => ?_)
 ·refine cV 103 (CO.ret ?_)
  have h := sI h
  subst h
  exact eG [(0, 0), (102, 100)] (.inr rfl) (RetV.one rfl (OneR.cell Dk (r := .agg (aP r16.1)) (i := 100) (ety := 110) (cs := (aP r16.1)) (by kernel_rfl) (by kernel_rfl) (by kernel_rfl)))
 refine CO.skip (bB h fun r28 hx44 h => (CO.sw mix (wR 1 103 (wC (mp_kind_ok pa r16.2.1 r16.2.2.1 r16.2.2.2 hx44) cok134 [(0, 0), (102, 1)] [(0, 0), (1, 102)] [] (wR 1 103 (wF (cV 103 ?_)))))))
 refine CO.cutR (tl 50 [(2, .loc 100 0)]) [(100, .cells 110 [V.i 10, V.i r28, V.s [], V.s [], .own 103, V.b false]), (103, .vec false 87 5 ([r16.1.tree].map eST)), (0, cP 108 pa (wr (r16.2.1 + 1)) r16.2.2.1 102), (102, vN r16.2.2.2)] mix (by
  refine wR 3 103 (W.layop Dk lO (by kernel_rfl) 103 { v := .own 103, R := [], new := [(103, .vec true 87 5 [[V.i r16.1.tree.kind, V.i r16.1.tree.op, V.s r16.1.tree.text, V.s r16.1.tree.other, sL eST r16.1.tree.kids]])], N := [103] } (by kernel_rfl) (W.vecEq 103 (nn := true) (e := 87) (k := 5) (rows := [[V.i r16.1.tree.kind, V.i r16.1.tree.op, V.s r16.1.tree.text, V.s r16.1.tree.other, sL eST r16.1.tree.kids]]) (rows' := [r16.1.tree].map eST) (by kernel_rfl) (by simp only [List.map_cons, List.map_nil, encSTree_eq]) (wR 3 104 ?_)))
  exact fI
  ) ?_
 refine CO.lay (tl 50 [(2, .loc 100 0)]) [(100, .cells 110 [V.i 10, V.i r28, V.s [], V.s [], .sl false false ([r16.1.tree].map eST), V.b false]), (0, cP 108 pa (wr (r16.2.1 + 1)) r16.2.2.1 102), (102, vN r16.2.2.2)] (LayOk.cons (j := 103) eST eST ([r16.1.tree] : LS) (by kernel_rfl) (share_encSTree) lO) (by kernel_rfl) (by kernel_rfl) (by kernel_rfl) (CO.ret ?_)
 have h := sI h
 subst h
 exact eG [(0, 0), (102, 100)] (.inr rfl) (RetV.one rfl (OneR.cell Dk (r := .agg [V.i 10, V.i r28, V.s [], V.s [], .sl false false ([r16.1.tree].map eST), V.b false]) (i := 100) (ety := 110) (cs := [V.i 10, V.i r28, V.s [], V.s [], .sl false false ([r16.1.tree].map eST), V.b false]) (by kernel_rfl) (by kernel_rfl) (by kernel_rfl)))

theorem mp_pow_F_ok (N : Nat) (R : Rec1) (HR : RecOk1 R) (a1 : SRules) (pa : LT) (pb : Int) (pc : Bool) (p1 : LLU) {r : T1} (h : mp_pow_F N R a1 pa pb pc p1 = some r) :
    AC0 147 [.loc 0 0, .agg [V.b a1.noIn, V.b a1.noGt]] [(0, cP 108 pa pb pc 1), (1, vN p1)] (.agg (aP r.1)) [(0, cP 108 pa r.2.1 r.2.2.1 100), (100, vN r.2.2.2)] := by
 rw [mp_pow_F] at h
 refine AC.enter Tryz.func147 rfl (cV 100 (bB h fun r2 hx2 h => (CO.sw mix (wR 1 102 (wC (HR.mp_incr pa pb pc p1 _ hx2) cok148 [(0, 0), (1, 1)] [(0, 0), (100, 102)] [102] (wR 2 103 (wF (CO.seq' ?_))))))))
 refine bB h fun y7 hv11 h => ?_
 refine CO.cutR (tl 30 [(0, .loc 0 0), (3, .loc 100 0), (4, .loc 101 0), (5, .loc 102 0), (16, V.b y7)]) [(0, cP 108 pa r2.2.1 r2.2.2.1 103), (100, .cells 127 [V.b a1.noIn, V.b a1.noGt]), (101, .cells 110 [V.i 0, V.i 0, V.s [], V.s [], .c (.slice none 0 0), V.b false]), (102, .cells 110 (aP r2.1)), (103, vN r2.2.2.2)] mix (by
  refine wR 5 104 ?_
  refine wJ 12 hv11 (fun hv11 => ?_) (fun hv11 => ?_)
  ·refine wR 4 104 ?_
   cases hv11
   exact fS [(0, 0), (100, 100), (101, 101), (103, 102), (102, 103)] [0, 3, 4, 5, 16]
  refine wR 1 104 (bB hv11 fun r8 hx13 hv11 => (wC (mp_kind_ok pa r2.2.1 r2.2.2.1 r2.2.2.2 hx13) cok134 [(0, 0), (102, 1)] [(0, 0), (1, 102)] [] (wR 2 104 ?_)))
  cases hv11
  exact fS [(0, 0), (100, 100), (101, 101), (103, 102), (102, 103)] [0, 3, 4, 5, 16]
  ) ?_
 refine cI h (fun _ h => ?_) (fun _ h => ?_)
 ·refine cV 104 (CO.ret ?_)
  have h := sI h
  subst h
  exact eG [(0, 0), (103, 100)] (.inr rfl) (RetV.one rfl (OneR.cell Dk (r := .agg (aP r2.1)) (i := 101) (ety := 110) (cs := (aP r2.1)) (by kernel_rfl) (by kernel_rfl) (by kernel_rfl)))
 refine CO.skip (cV 104 (bB h fun r11 hx17 h => (bB h fun r12 hx18 h => (CO.sw mix (wR 3 104 (wC (HR.mp_unary a1 pa (wr (r2.2.1 + 1)) r2.2.2.1 r2.2.2.2 _ hx17) cok146 [(0, 0), (103, 1)] [(0, 0), (100, 104)] [104] (w0 (mi_bin_ok 60 r2.1 r11.1 hx18) cok182 (wR 1 105 ?_))))))))
 refine wF (CO.ret ?_)
 have h := sI h
 subst h
 exact eG [(0, 0), (104, 100)] (.inr rfl) (RetV.one rfl (OneR.cell Dk (r := .agg (aP r12)) (i := 101) (ety := 110) (cs := (aP r12)) (by kernel_rfl) (by kernel_rfl) (by kernel_rfl)))

theorem mp_unary_F_ok (N : Nat) (R : Rec1) (HR : RecOk1 R) (a1 : SRules) (pa : LT) (pb : Int) (pc : Bool) (p1 : LLU) {r : T1} (h : mp_unary_F N R a1 pa pb pc p1 = some r) :
    AC0 146 [.loc 0 0, .agg [V.b a1.noIn, V.b a1.noGt]] [(0, cP 108 pa pb pc 1), (1, vN p1)] (.agg (aP r.1)) [(0, cP 108 pa r.2.1 r.2.2.1 100), (100, vN r.2.2.2)] := by
 rw [mp_unary_F] at h
 refine AC.enter Tryz.func146 rfl (cV 100 (bB h fun r2 hx2 h => (CO.sw mix (wR 1 102 (wC (mp_kind_ok pa pb pc p1 hx2) cok134 [(0, 0), (1, 1)] [(0, 0), (1, 1)] [] (wR 1 102 (wF (CO.seq' ?_))))))))
 refine bB h fun y6 hv16 h => ?_
 refine CO.cutR (tl 44 [(0, .loc 0 0), (3, .loc 100 0), (4, .loc 101 0), (5, V.i r2), (24, V.b y6)]) [(0, cP 108 pa pb pc 1), (100, .cells 127 [V.b a1.noIn, V.b a1.noGt]), (101, .cells 110 [V.i 0, V.i 0, V.s [], V.s [], .c (.slice none 0 0), V.b false]), (1, vN p1)] mix (by
  refine wR 5 102 ?_
  refine wJ 13 hv16 (fun hv16 => ?_) (fun hv16 => ?_)
  ·refine wR 11 102 ?_
   cases hv16
   exact fS [(0, 0), (100, 100), (101, 101), (1, 1)] [0, 3, 4, 5, 24]
  refine wR 3 102 ?_
  refine wJ 16 hv16 (fun hv16 => ?_) (fun hv16 => ?_)
  ·refine wR 4 102 ?_
   refine wJ 20 hv16 (fun hv16 => ?_) (fun hv16 => ?_)
   ·refine wR 4 102 ?_
    cases hv16
    exact fS [(0, 0), (100, 100), (101, 101), (1, 1)] [0, 3, 4, 5, 24]
   refine wR 4 102 ?_
   cases hv16
   exact fS [(0, 0), (100, 100), (101, 101), (1, 1)] [0, 3, 4, 5, 24]
  refine wR 8 102 ?_
  cases hv16
  exact fS [(0, 0), (100, 100), (101, 101), (1, 1)] [0, 3, 4, 5, 24]
  ) ?_
 refine cI h (fun _ h => ?_) (fun _ h => ?_)
 ·refine bB h fun r8 hx22 h => (CO.sw mix (wR 2 102 (wC (HR.mp_pow a1 pa pb pc p1 _ hx22) cok147 [(0, 0), (1, 1)] [(0, 0), (100, 102)] [102] (wR 1 103 (wF (CO.ret ?_))))))
  have h := sI h
  subst h
  exact eG [(0, 0), (102, 100)] (.inr rfl) (RetV.one rfl (OneR.cell Dk (r := .agg (aP r8.1)) (i := 101) (ety := 110) (cs := (aP r8.1)) (by kernel_rfl) (by kernel_rfl) (by kernel_rfl)))
 refine CO.skip (cV 102 (bB h fun r10 hx24 h => (CO.sw mix (wR 2 102 (wC (HR.mp_unary a1 pa (wr (pb + 1)) pc p1 _ hx24) cok146 [(0, 0), (1, 1)] [(0, 0), (100, 102)] [102] (wR 2 103 (wF ?_)))))))
 refine CO.cutR (tl 44 [(4, .loc 101 0)]) [(101, .cells 110 [V.i 11, V.i r2, V.s [], V.s [], .own 104, V.b false]), (104, .vec false 87 5 ([r10.1.tree].map eST)), (102, vN r10.2.2.2), (0, cP 108 pa r10.2.1 r10.2.2.1 102)] mix (by
  refine wR 3 104 (W.layop Dk lO (by kernel_rfl) 104 { v := .own 104, R := [], new := [(104, .vec true 87 5 [[V.i r10.1.tree.kind, V.i r10.1.tree.op, V.s r10.1.tree.text, V.s r10.1.tree.other, sL eST r10.1.tree.kids]])], N := [104] } (by kernel_rfl) (W.vecEq 104 (nn := true) (e := 87) (k := 5) (rows := [[V.i r10.1.tree.kind, V.i r10.1.tree.op, V.s r10.1.tree.text, V.s r10.1.tree.other, sL eST r10.1.tree.kids]]) (rows' := [r10.1.tree].map eST) (by kernel_rfl) (by simp only [List.map_cons, List.map_nil, encSTree_eq]) (wR 3 105 ?_)))
  exact fI
  ) ?_
 refine CO.lay (tl 44 [(4, .loc 101 0)]) [(101, .cells 110 [V.i 11, V.i r2, V.s [], V.s [], .sl false false ([r10.1.tree].map eST), V.b false]), (102, vN r10.2.2.2), (0, cP 108 pa r10.2.1 r10.2.2.1 102)] (LayOk.cons (j := 104) eST eST ([r10.1.tree] : LS) (by kernel_rfl) (share_encSTree) lO) (by kernel_rfl) (by kernel_rfl) (by kernel_rfl) (CO.ret ?_)
 have h := sI h
 subst h
 exact eG [(0, 0), (102, 100)] (.inr rfl) (RetV.one rfl (OneR.cell Dk (r := .agg [V.i 11, V.i r2, V.s [], V.s [], .sl false false ([r10.1.tree].map eST), V.b false]) (i := 101) (ety := 110) (cs := [V.i 11, V.i r2, V.s [], V.s [], .sl false false ([r10.1.tree].map eST), V.b false]) (by kernel_rfl) (by kernel_rfl) (by kernel_rfl)))

theorem mp_mul_F_ok (N : Nat) (R : Rec1) (HR : RecOk1 R) (a1 : SRules) (pa : LT) (pb : Int) (pc : Bool) (p1 : LLU) {r : T1} (h : mp_mul_F N R a1 pa pb pc p1 = some r) :
    AC0 145 [.loc 0 0, .agg [V.b a1.noIn, V.b a1.noGt]] [(0, cP 108 pa pb pc 1), (1, vN p1)] (.agg (aP r.1)) [(0, cP 108 pa r.2.1 r.2.2.1 100), (100, vN r.2.2.2)] := by
 rw [mp_mul_F] at h
 refine AC.enter Tryz.func145 rfl (cV 100 (bB h fun r2 hx2 h => (CO.sw mix (wR 2 102 (wC (HR.mp_unary a1 pa pb pc p1 _ hx2) cok146 [(0, 0), (1, 1)] [(0, 0), (100, 102)] [102] (wR 2 103 (wF (CO.seq' ?_))))))))
 refine CO.block' (CO.loopJ (fun (⟨a1, y85, y86, y87, y88, y89, y90, y91, y92, y93⟩ : (SRules × Int × Bool × Int × Int × LU × LU × LS × Bool × LLU)) => ⟨tl 37 [(0, .loc 0 0), (3, .loc 100 0), (4, .loc 101 0), (5, .loc 102 0)], [(0, cP 108 pa y85 y86 103), (100, .cells 127 [V.b a1.noIn, V.b a1.noGt]), (101, .cells 110 [V.i 0, V.i 0, V.s [], V.s [], .c (.slice none 0 0), V.b false]), (102, .cells 110 [V.i y87, V.i y88, V.s y89, V.s y90, sL eST y91, V.b y92]), (103, vN y93)]⟩) (fun n i => mp_mul_l1 N R pa n i = some r) (n0 := N) (i0 := (a1, r2.2.1, r2.2.2.1, r2.1.tree.kind, r2.1.tree.op, r2.1.tree.text, r2.1.tree.other, r2.1.tree.kids, r2.1.target, r2.2.2.2)) (wS [(0, 0), (100, 100), (101, 101), (103, 102), (102, 103)] [0, 3, 4, 5]) h (fun i h => by simp [mp_mul_l1] at h) ?_)
 rintro n1 ⟨a1, y85, y86, y87, y88, y89, y90, y91, y92, y93⟩ h115 ih116
 rw [mp_mul_l1] at h115
 refine CO.seq' (bB h115 fun y126 hv128 h115 => ?_)
 refine CO.cutR (tl 37 [(0, .loc 0 0), (3, .loc 100 0), (4, .loc 101 0), (5, .loc 102 0), (20, V.b y126)]) [(0, cP 108 pa y85 y86 103), (100, .cells 127 [V.b a1.noIn, V.b a1.noGt]), (101, .cells 110 [V.i 0, V.i 0, V.s [], V.s [], .c (.slice none 0 0), V.b false]), (102, .cells 110 [V.i y87, V.i y88, V.s y89, V.s y90, sL eST y91, V.b y92]), (103, vN y93)] mix (by
  refine wR 6 166 ?_
  refine wJ 15 hv128 (fun hv128 => ?_) (fun hv128 => ?_)
  ·refine wR 1 166 (bB hv128 fun r127 hx130 hv128 => (wC (mp_kind_ok pa y85 y86 y93 hx130) cok134 [(0, 0), (103, 1)] [(0, 0), (1, 103)] [] (bB hv128 fun r128 hx131 hv128 => (w0 (mi_OpLevel_ok r127 hx131) cok56 (wR 2 166 ?_)))))
   cases hv128
   exact fS [(0, 0), (100, 100), (101, 101), (102, 102), (103, 103)] [0, 3, 4, 5, 20]
  refine wR 5 166 ?_
  cases hv128
  exact fS [(0, 0), (100, 100), (101, 101), (102, 102), (103, 103)] [0, 3, 4, 5, 20]
  ) ?_
 refine cI h115 (fun _ h115 => ?_) (fun _ h115 => ?_)
 ·refine CO.skip (CO.block' (bB h115 fun r130 hx134 h115 => (CO.sw mix (wR 1 166 (wC (mp_kind_ok pa y85 y86 y93 hx134) cok134 [(0, 0), (103, 1)] [(0, 0), (1, 103)] [] (wR 1 166 (wF (cV 166 ?_))))))))
  refine bB h115 fun r133 hx137 h115 => (bB h115 fun r134 hx138 h115 => (CO.w mix (wR 4 166 (wC (HR.mp_unary a1 pa (wr (y85 + 1)) y86 y93 _ hx137) cok146 [(0, 0), (103, 1)] [(0, 0), (100, 166)] [166] (w0 (mi_bin_ok r130 (⟨(⟨y87, y88, y89, y90, y91⟩ : STree), y92⟩ : SPart) r133.1 hx138) cok182 (wR 1 167 ?_))))))
  exact wK ih116 (a1, r133.2.1, r133.2.2.1, r134.tree.kind, r134.tree.op, r134.tree.text, r134.tree.other, r134.tree.kids, r134.target, r133.2.2.2) h115 [(0, 0), (100, 100), (101, 101), (102, 102), (166, 103)] [0, 3, 4, 5]
 refine CO.exit (cV 166 (CO.ret ?_))
 have h115 := sI h115
 subst h115
 exact eG [(0, 0), (103, 100)] (.inr rfl) (RetV.one rfl (OneR.cell Dk (r := .agg [V.i y87, V.i y88, V.s y89, V.s y90, sL eST y91, V.b y92]) (i := 101) (ety := 110) (cs := [V.i y87, V.i y88, V.s y89, V.s y90, sL eST y91, V.b y92]) (by kernel_rfl) (by kernel_rfl) (by kernel_rfl)))

theorem mp_add_F_ok (N : Nat) (R : Rec1) (HR : RecOk1 R) (a1 : SRules) (pa : LT) (pb : Int) (pc : Bool) (p1 : LLU) {r : T1} (h : mp_add_F N R a1 pa pb pc p1 = some r) :
    AC0 144 [.loc 0 0, .agg [V.b a1.noIn, V.b a1.noGt]] [(0, cP 108 pa pb pc 1), (1, vN p1)] (.agg (aP r.1)) [(0, cP 108 pa r.2.1 r.2.2.1 100), (100, vN r.2.2.2)] := by
 rw [mp_add_F] at h
 refine AC.enter Tryz.func144 rfl (cV 100 (bB h fun r2 hx2 h => (CO.sw mix (wR 2 102 (wC (HR.mp_mul a1 pa pb pc p1 _ hx2) cok145 [(0, 0), (1, 1)] [(0, 0), (100, 102)] [102] (wR 2 103 (wF (CO.seq' ?_))))))))
 refine CO.block' (CO.loopJ (fun (⟨a1, y85, y86, y87, y88, y89, y90, y91, y92, y93⟩ : (SRules × Int × Bool × Int × Int × LU × LU × LS × Bool × LLU)) => ⟨tl 37 [(0, .loc 0 0), (3, .loc 100 0), (4, .loc 101 0), (5, .loc 102 0)], [(0, cP 108 pa y85 y86 103), (100, .cells 127 [V.b a1.noIn, V.b a1.noGt]), (101, .cells 110 [V.i 0, V.i 0, V.s [], V.s [], .c (.slice none 0 0), V.b false]), (102, .cells 110 [V.i y87, V.i y88, V.s y89, V.s y90, sL eST y91, V.b y92]), (103, vN y93)]⟩) (fun n i => mp_add_l1 N R pa n i = some r) (n0 := N) (i0 := (a1, r2.2.1, r2.2.2.1, r2.1.tree.kind, r2.1.tree.op, r2.1.tree.text, r2.1.tree.other, r2.1.tree.kids, r2.1.target, r2.2.2.2)) (wS [(0, 0), (100, 100), (101, 101), (103, 102), (102, 103)] [0, 3, 4, 5]) h (fun i h => by simp [mp_add_l1] at h) ?_)
 rintro n1 ⟨a1, y85, y86, y87, y88, y89, y90, y91, y92, y93⟩ h115 ih116
 rw [mp_add_l1] at h115
 refine CO.seq' (bB h115 fun y126 hv128 h115 => ?_)
 refine CO.cutR (tl 37 [(0, .loc 0 0), (3, .loc 100 0), (4, .loc 101 0), (5, .loc 102 0), (20, V.b y126)]) [(0, cP 108 pa y85 y86 103), (100, .cells 127 [V.b a1.noIn, V.b a1.noGt]), (101, .cells 110 [V.i 0, V.i 0, V.s [], V.s [], .c (.slice none 0 0), V.b false]), (102, .cells 110 [V.i y87, V.i y88, V.s y89, V.s y90, sL eST y91, V.b y92]), (103, vN y93)] mix (by
  refine wR 6 166 ?_
  refine wJ 15 hv128 (fun hv128 => ?_) (fun hv128 => ?_)
  ·refine wR 1 166 (bB hv128 fun r127 hx130 hv128 => (wC (mp_kind_ok pa y85 y86 y93 hx130) cok134 [(0, 0), (103, 1)] [(0, 0), (1, 103)] [] (bB hv128 fun r128 hx131 hv128 => (w0 (mi_OpLevel_ok r127 hx131) cok56 (wR 2 166 ?_)))))
   cases hv128
   exact fS [(0, 0), (100, 100), (101, 101), (102, 102), (103, 103)] [0, 3, 4, 5, 20]
  refine wR 5 166 ?_
  cases hv128
  exact fS [(0, 0), (100, 100), (101, 101), (102, 102), (103, 103)] [0, 3, 4, 5, 20]
  ) ?_
 refine cI h115 (fun _ h115 => ?_) (fun _ h115 => ?_)
 ·refine CO.skip (CO.block' (bB h115 fun r130 hx134 h115 => (CO.sw mix (wR 1 166 (wC (mp_kind_ok pa y85 y86 y93 hx134) cok134 [(0, 0), (103, 1)] [(0, 0), (1, 103)] [] (wR 1 166 (wF (cV 166 ?_))))))))
  refine bB h115 fun r133 hx137 h115 => (bB h115 fun r134 hx138 h115 => (CO.w mix (wR 4 166 (wC (HR.mp_mul a1 pa (wr (y85 + 1)) y86 y93 _ hx137) cok145 [(0, 0), (103, 1)] [(0, 0), (100, 166)] [166] (w0 (mi_bin_ok r130 (⟨(⟨y87, y88, y89, y90, y91⟩ : STree), y92⟩ : SPart) r133.1 hx138) cok182 (wR 1 167 ?_))))))
  exact wK ih116 (a1, r133.2.1, r133.2.2.1, r134.tree.kind, r134.tree.op, r134.tree.text, r134.tree.other, r134.tree.kids, r134.target, r133.2.2.2) h115 [(0, 0), (100, 100), (101, 101), (102, 102), (166, 103)] [0, 3, 4, 5]
 refine CO.exit (cV 166 (CO.ret ?_))
 have h115 := sI h115
 subst h115
 exact eG [(0, 0), (103, 100)] (.inr rfl) (RetV.one rfl (OneR.cell Dk (r := .agg [V.i y87, V.i y88, V.s y89, V.s y90, sL eST y91, V.b y92]) (i := 101) (ety := 110) (cs := [V.i y87, V.i y88, V.s y89, V.s y90, sL eST y91, V.b y92]) (by kernel_rfl) (by kernel_rfl) (by kernel_rfl)))

theorem mp_cat_F_ok (N : Nat) (R : Rec1) (HR : RecOk1 R) (a1 : SRules) (pa : LT) (pb : Int) (pc : Bool) (p1 : LLU) {r : T1} (h : mp_cat_F N R a1 pa pb pc p1 = some r) :
    AC0 143 [.loc 0 0, .agg [V.b a1.noIn, V.b a1.noGt]] [(0, cP 108 pa pb pc 1), (1, vN p1)] (.agg (aP r.1)) [(0, cP 108 pa r.2.1 r.2.2.1 100), (100, vN r.2.2.2)] := by
 rw [mp_cat_F] at h
 refine AC.enter Tryz.func143 rfl (cV 100 (bB h fun r2 hx2 h => (CO.sw mix (wR 2 102 (wC (HR.mp_add a1 pa pb pc p1 _ hx2) cok144 [(0, 0), (1, 1)] [(0, 0), (100, 102)] [102] (wR 2 103 (wF (CO.seq' ?_))))))))
 refine CO.block' (CO.loopJ (fun (⟨a1, y77, y78, y79, y80, y81, y82, y83, y84, y85⟩ : (SRules × Int × Bool × Int × Int × LU × LU × LS × Bool × LLU)) => ⟨tl 25 [(0, .loc 0 0), (3, .loc 100 0), (4, .loc 101 0), (5, .loc 102 0)], [(0, cP 108 pa y77 y78 103), (100, .cells 127 [V.b a1.noIn, V.b a1.noGt]), (101, .cells 110 [V.i 0, V.i 0, V.s [], V.s [], .c (.slice none 0 0), V.b false]), (102, .cells 110 [V.i y79, V.i y80, V.s y81, V.s y82, sL eST y83, V.b y84]), (103, vN y85)]⟩) (fun n i => mp_cat_l1 N R pa n i = some r) (n0 := N) (i0 := (a1, r2.2.1, r2.2.2.1, r2.1.tree.kind, r2.1.tree.op, r2.1.tree.text, r2.1.tree.other, r2.1.tree.kids, r2.1.target, r2.2.2.2)) (wS [(0, 0), (100, 100), (101, 101), (103, 102), (102, 103)] [0, 3, 4, 5]) h (fun i h => by simp [mp_cat_l1] at h) ?_)
 rintro n1 ⟨a1, y77, y78, y79, y80, y81, y82, y83, y84, y85⟩ h105 ih106
 rw [mp_cat_l1] at h105
 refine CO.seq' (bB h105 fun y116 hv118 h105 => ?_)
 refine CO.cutR (tl 25 [(0, .loc 0 0), (3, .loc 100 0), (4, .loc 101 0), (5, .loc 102 0), (18, V.b y116)]) [(0, cP 108 pa y77 y78 103), (100, .cells 127 [V.b a1.noIn, V.b a1.noGt]), (101, .cells 110 [V.i 0, V.i 0, V.s [], V.s [], .c (.slice none 0 0), V.b false]), (102, .cells 110 [V.i y79, V.i y80, V.s y81, V.s y82, sL eST y83, V.b y84]), (103, vN y85)] mix (by
  refine wR 6 166 ?_
  refine wJ 14 hv118 (fun hv118 => ?_) (fun hv118 => ?_)
  ·refine wR 1 166 (bB hv118 fun r117 hx120 hv118 => (wC (mp_kind_ok pa y77 y78 y85 hx120) cok134 [(0, 0), (103, 1)] [(0, 0), (1, 103)] [] (bB hv118 fun r118 hx121 hv118 => (w0 (mi_BeginsOperand_ok r117 hx121) cok133 (wR 1 166 ?_)))))
   cases hv118
   exact fS [(0, 0), (100, 100), (101, 101), (102, 102), (103, 103)] [0, 3, 4, 5, 18]
  refine wR 4 166 ?_
  cases hv118
  exact fS [(0, 0), (100, 100), (101, 101), (102, 102), (103, 103)] [0, 3, 4, 5, 18]
  ) ?_
 refine cI h105 (fun _ h105 => ?_) (fun _ h105 => ?_)
 ·refine CO.skip (CO.block' (bB h105 fun r121 hx125 h105 => (bB h105 fun r122 hx126 h105 => (CO.w mix (wR 3 166 (wC (HR.mp_add a1 pa y77 y78 y85 _ hx125) cok144 [(0, 0), (103, 1)] [(0, 0), (100, 166)] [166] (w0 (mi_bin_ok 99 (⟨(⟨y79, y80, y81, y82, y83⟩ : STree), y84⟩ : SPart) r121.1 hx126) cok182 (wR 1 167 ?_))))))))
  exact wK ih106 (a1, r121.2.1, r121.2.2.1, r122.tree.kind, r122.tree.op, r122.tree.text, r122.tree.other, r122.tree.kids, r122.target, r121.2.2.2) h105 [(0, 0), (100, 100), (101, 101), (102, 102), (166, 103)] [0, 3, 4, 5]
 refine CO.exit (cV 166 (CO.ret ?_))
 have h105 := sI h105
 subst h105
 exact eG [(0, 0), (103, 100)] (.inr rfl) (RetV.one rfl (OneR.cell Dk (r := .agg [V.i y79, V.i y80, V.s y81, V.s y82, sL eST y83, V.b y84]) (i := 101) (ety := 110) (cs := [V.i y79, V.i y80, V.s y81, V.s y82, sL eST y83, V.b y84]) (by kernel_rfl) (by kernel_rfl) (by kernel_rfl)))

theorem mp_compare_F_ok (N : Nat) (R : Rec1) (HR : RecOk1 R) (a1 : SRules) (pa : LT) (pb : Int) (pc : Bool) (p1 : LLU) {r : T1} (h : mp_compare_F N R a1 pa pb pc p1 = some r) :
    AC0 142 [.loc 0 0, .agg [V.b a1.noIn, V.b a1.noGt]] [(0, cP 108 pa pb pc 1), (1, vN p1)] (.agg (aP r.1)) [(0, cP 108 pa r.2.1 r.2.2.1 100), (100, vN r.2.2.2)] := by
 rw [mp_compare_F] at h
 refine AC.enter Tryz.func142 rfl (cV 100 (bB h fun r2 hx2 h => (CO.sw mix (wR 2 102 (wC (HR.mp_cat a1 pa pb pc p1 _ hx2) cok143 [(0, 0), (1, 1)] [(0, 0), (100, 102)] [102] (wR 2 103 (wF (CO.seq' ?_))))))))
 refine bB h fun y13 hv23 h => ?_
 refine CO.cutR (tl 45 [(0, .loc 0 0), (3, .loc 100 0), (4, .loc 101 0), (5, .loc 102 0), (28, V.b y13)]) [(0, cP 108 pa r2.2.1 r2.2.2.1 103), (100, .cells 127 [V.b a1.noIn, V.b a1.noGt]), (101, .cells 110 [V.i 0, V.i 0, V.s [], V.s [], .c (.slice none 0 0), V.b false]), (102, .cells 110 (aP r2.1)), (103, vN r2.2.2.2)] mix (by
  refine wR 5 104 ?_
  refine wJ 14 hv23 (fun hv23 => ?_) (fun hv23 => ?_)
  ·refine wR 14 104 ?_
   cases hv23
   exact fS [(0, 0), (100, 100), (101, 101), (103, 102), (102, 103)] [0, 3, 4, 5, 28]
  refine wR 1 104 (bB hv23 fun r14 hx25 hv23 => (wC (mp_kind_ok pa r2.2.1 r2.2.2.1 r2.2.2.2 hx25) cok134 [(0, 0), (102, 1)] [(0, 0), (1, 102)] [] (bB hv23 fun r15 hx26 hv23 => (w0 (mi_OpLevel_ok r14 hx26) cok56 (wR 3 104 ?_)))))
  refine wJ 20 hv23 (fun hv23 => ?_) (fun hv23 => ?_)
  ·refine wR 8 104 ?_
   cases hv23
   exact fS [(0, 0), (100, 100), (101, 101), (103, 102), (102, 103)] [0, 3, 4, 5, 28]
  refine wR 3 104 ?_
  refine wJ 23 hv23 (fun hv23 => ?_) (fun hv23 => ?_)
  ·refine wR 1 104 (bB hv23 fun r16 hx29 hv23 => (wC (mp_kind_ok pa r2.2.1 r2.2.2.1 r2.2.2.2 hx29) cok134 [(0, 0), (102, 1)] [(0, 0), (1, 102)] [] (wR 3 104 ?_)))
   cases hv23
   exact fS [(0, 0), (100, 100), (101, 101), (103, 102), (102, 103)] [0, 3, 4, 5, 28]
  refine wR 5 104 ?_
  cases hv23
  exact fS [(0, 0), (100, 100), (101, 101), (103, 102), (102, 103)] [0, 3, 4, 5, 28]
  ) ?_
 refine cI h (fun _ h => ?_) (fun _ h => ?_)
 ·refine cV 104 (CO.ret ?_)
  have h := sI h
  subst h
  exact eG [(0, 0), (103, 100)] (.inr rfl) (RetV.one rfl (OneR.cell Dk (r := .agg (aP r2.1)) (i := 101) (ety := 110) (cs := (aP r2.1)) (by kernel_rfl) (by kernel_rfl) (by kernel_rfl)))
 refine CO.skip (bB h fun r18 hx32 h => (CO.sw mix (wR 1 104 (wC (mp_kind_ok pa r2.2.1 r2.2.2.1 r2.2.2.2 hx32) cok134 [(0, 0), (103, 1)] [(0, 0), (1, 103)] [] (wR 1 104 (wF (cV 104 (bB h fun r21 hx35 h => ?_))))))))
 refine bB h fun r22 hx36 h => (CO.sw mix (wR 4 104 (wC (HR.mp_cat a1 pa (wr (r2.2.1 + 1)) r2.2.2.1 r2.2.2.2 _ hx35) cok143 [(0, 0), (103, 1)] [(0, 0), (100, 104)] [104] (w0 (mi_bin_ok r18 r2.1 r21.1 hx36) cok182 (wR 1 105 (wF (CO.ret ?_)))))))
 have h := sI h
 subst h
 exact eG [(0, 0), (104, 100)] (.inr rfl) (RetV.one rfl (OneR.cell Dk (r := .agg (aP r22)) (i := 101) (ety := 110) (cs := (aP r22)) (by kernel_rfl) (by kernel_rfl) (by kernel_rfl)))

theorem mp_match_F_ok (N : Nat) (R : Rec1) (HR : RecOk1 R) (a1 : SRules) (pa : LT) (pb : Int) (pc : Bool) (p1 : LLU) {r : T1} (h : mp_match_F N R a1 pa pb pc p1 = some r) :
    AC0 141 [.loc 0 0, .agg [V.b a1.noIn, V.b a1.noGt]] [(0, cP 108 pa pb pc 1), (1, vN p1)] (.agg (aP r.1)) [(0, cP 108 pa r.2.1 r.2.2.1 100), (100, vN r.2.2.2)] := by
 rw [mp_match_F] at h
 refine AC.enter Tryz.func141 rfl (cV 100 (bB h fun r2 hx2 h => (CO.sw mix (wR 2 102 (wC (HR.mp_compare a1 pa pb pc p1 _ hx2) cok142 [(0, 0), (1, 1)] [(0, 0), (100, 102)] [102] (wR 2 103 (wF (CO.seq' ?_))))))))
 refine bB h fun y10 hv17 h => ?_
 refine CO.cutR (tl 40 [(0, .loc 0 0), (3, .loc 100 0), (4, .loc 101 0), (5, .loc 102 0), (23, V.b y10)]) [(0, cP 108 pa r2.2.1 r2.2.2.1 103), (100, .cells 127 [V.b a1.noIn, V.b a1.noGt]), (101, .cells 110 [V.i 0, V.i 0, V.s [], V.s [], .c (.slice none 0 0), V.b false]), (102, .cells 110 (aP r2.1)), (103, vN r2.2.2.2)] mix (by
  refine wR 5 104 ?_
  refine wJ 14 hv17 (fun hv17 => ?_) (fun hv17 => ?_)
  ·refine wR 9 104 ?_
   cases hv17
   exact fS [(0, 0), (100, 100), (101, 101), (103, 102), (102, 103)] [0, 3, 4, 5, 23]
  refine wR 1 104 (bB hv17 fun r11 hx19 hv17 => (wC (mp_kind_ok pa r2.2.1 r2.2.2.1 r2.2.2.2 hx19) cok134 [(0, 0), (102, 1)] [(0, 0), (1, 102)] [] (wR 2 104 ?_)))
  refine wJ 18 hv17 (fun hv17 => ?_) (fun hv17 => ?_)
  ·refine wR 1 104 (bB hv17 fun r12 hx21 hv17 => (wC (mp_kind_ok pa r2.2.1 r2.2.2.1 r2.2.2.2 hx21) cok134 [(0, 0), (102, 1)] [(0, 0), (1, 102)] [] (wR 3 104 ?_)))
   cases hv17
   exact fS [(0, 0), (100, 100), (101, 101), (103, 102), (102, 103)] [0, 3, 4, 5, 23]
  refine wR 5 104 ?_
  cases hv17
  exact fS [(0, 0), (100, 100), (101, 101), (103, 102), (102, 103)] [0, 3, 4, 5, 23]
  ) ?_
 refine cI h (fun _ h => ?_) (fun _ h => ?_)
 ·refine cV 104 (CO.ret ?_)
  have h := sI h
  subst h
  exact eG [(0, 0), (103, 100)] (.inr rfl) (RetV.one rfl (OneR.cell Dk (r := .agg (aP r2.1)) (i := 101) (ety := 110) (cs := (aP r2.1)) (by kernel_rfl) (by kernel_rfl) (by kernel_rfl)))
 refine CO.skip (bB h fun r14 hx24 h => (CO.sw mix (wR 1 104 (wC (mp_kind_ok pa r2.2.1 r2.2.2.1 r2.2.2.2 hx24) cok134 [(0, 0), (103, 1)] [(0, 0), (1, 103)] [] (wR 1 104 (wF (cV 104 (bB h fun r17 hx27 h => ?_))))))))
 refine bB h fun r18 hx28 h => (CO.sw mix (wR 4 104 (wC (HR.mp_compare a1 pa (wr (r2.2.1 + 1)) r2.2.2.1 r2.2.2.2 _ hx27) cok142 [(0, 0), (103, 1)] [(0, 0), (100, 104)] [104] (w0 (mi_bin_ok r14 r2.1 r17.1 hx28) cok182 (wR 1 105 (wF (CO.ret ?_)))))))
 have h := sI h
 subst h
 exact eG [(0, 0), (104, 100)] (.inr rfl) (RetV.one rfl (OneR.cell Dk (r := .agg (aP r18)) (i := 101) (ety := 110) (cs := (aP r18)) (by kernel_rfl) (by kernel_rfl) (by kernel_rfl)))

theorem mp_items_F_ok (N : Nat) (R : Rec1) (HR : RecOk1 R) (a1 : SRules) (pa : LT) (pb : Int) (pc : Bool) (p1 : LLU) {r : (LS × Int × Bool × LLU)} (h : mp_items_F N R a1 pa pb pc p1 = some r) :
    AC0 198 [.loc 0 0, .agg [V.b a1.noIn, V.b a1.noGt]] [(0, cP 108 pa pb pc 1), (1, vN p1)] (.own 100) [(0, cP 108 pa r.2.1 r.2.2.1 101), (100, vX 87 5 eST r.1), (101, vN r.2.2.2)] := by
 rw [mp_items_F] at h
 refine AC.enter Tryz.func198 rfl (cV 100 (CO.sw mix (W.layop Dk lO (by kernel_rfl) 101 { v := .own 101, R := [], new := [(101, .vec true 87 5 [])], N := [101] } (by kernel_rfl) (W.vecEq 101 (nn := true) (e := 87) (k := 5) (rows := []) (rows' := [].map eST) (by kernel_rfl) rfl (wR 1 102 (wF ?_))))))
 refine CO.join (fun (⟨y45, y46, y47, y48⟩ : (LS × Int × Bool × LLU)) => ⟨tl 44 [(5, .own 100)], [(100, vX 87 5 eST y45), (0, cP 108 pa y46 y47 101), (101, vN y48)]⟩) (fun i => mp_items_k1 N R pa i = some r) ?_ ?_
 · rintro ⟨y45, y46, y47, y48⟩ h69
   rw [mp_items_k1] at h69
   refine cV 173 (CO.ret ?_)
   cases h69
   exact eG [(0, 0), (100, 100), (101, 101)] (.inr rfl) (RetV.one rfl (oT (t := 4) (r := .own 100)))
 intro hk70
 refine CO.block' (CO.loopJ (fun (⟨a1, y61, y62, y63, y64⟩ : (SRules × Int × Bool × LS × LLU)) => ⟨tl 44 [(0, .loc 0 0), (3, .loc 100 0), (5, .own 101)], [(0, cP 108 pa y61 y62 102), (100, .cells 127 [V.b a1.noIn, V.b a1.noGt]), (101, vX 87 5 eST y63), (102, vN y64)]⟩) (fun n i => mp_items_l2 N R pa n i = some r) (n0 := N) (i0 := (a1, pb, pc, [], p1)) (wS [(0, 0), (100, 100), (101, 101), (1, 102)] [0, 3, 5]) h (fun i h => by simp [mp_items_l2] at h) ?_)
 rintro n2 ⟨a1, y61, y62, y63, y64⟩ h115 ih116
 rw [mp_items_l2] at h115
 refine CO.seq' (cV 170 ?_)
 refine cI h115 (fun _ h115 => ?_) (fun _ h115 => ?_)
 ·refine CO.skip (CO.block' (bB h115 fun r83 hx121 h115 => (bB h115 fun x84 hx122 h115 => (CO.sw mix (wR 3 170 (wC (HR.mp_assign a1 pa y61 y62 y64 _ hx121) cok136 [(0, 0), (102, 1)] [(0, 0), (100, 170)] [170] (wR 1 171 (W.layop Dk lO (by kernel_rfl) 171 { v := .own 171, R := [], new := [(171, .vec true 87 5 [[V.i r83.1.tree.kind, V.i r83.1.tree.op, V.s r83.1.tree.text, V.s r83.1.tree.other, sL eST r83.1.tree.kids]])], N := [171] } (by kernel_rfl) ?_))))))))
  refine W.vecEq 171 (nn := true) (e := 87) (k := 5) (rows := [[V.i r83.1.tree.kind, V.i r83.1.tree.op, V.s r83.1.tree.text, V.s r83.1.tree.other, sL eST r83.1.tree.kids]]) (rows' := [r83.1.tree].map eST) (by kernel_rfl) (by simp only [List.map_cons, List.map_nil, encSTree_eq]) (W.appO Dk eST (a := 101) (c := 171) (el := 87) (sz := 5) 72 hx122 rfl 172 (by kernel_rfl) (wR 1 173 (wF (CO.seq' (bB h115 fun y89 hv131 h115 => ?_)))))
  refine CO.cutR (tl 44 [(0, .loc 0 0), (3, .loc 100 0), (5, .own 101), (27, V.b y89)]) [(0, cP 108 pa r83.2.1 r83.2.2.1 102), (100, .cells 127 [V.b a1.noIn, V.b a1.noGt]), (101, vX 87 5 eST x84), (102, vN r83.2.2.2)] mix (by
   refine wR 5 173 ?_
   refine wJ 23 hv131 (fun hv131 => ?_) (fun hv131 => ?_)
   ·refine wR 4 173 ?_
    cases hv131
    exact fS [(0, 0), (100, 100), (172, 101), (170, 102)] [0, 3, 5, 27]
   refine wR 1 173 (bB hv131 fun r90 hx133 hv131 => (wC (mp_kind_ok pa r83.2.1 r83.2.2.1 r83.2.2.2 hx133) cok134 [(0, 0), (170, 1)] [(0, 0), (1, 170)] [] (wR 2 173 ?_)))
   cases hv131
   exact fS [(0, 0), (100, 100), (172, 101), (170, 102)] [0, 3, 5, 27]
   ) ?_
  refine cI h115 (fun _ h115 => ?_) (fun _ h115 => ?_)
  ·refine CO.exit ?_
   exact hk70 (x84, r83.2.1, r83.2.2.1, r83.2.2.2) h115 _ (wS [(101, 100), (0, 0), (102, 101)] [5])
  refine CO.skip (CO.seq' (CO.sw mix (wR 1 173 (wN eST x84 [101] (wR 1 173 (wF ?_))))))
  refine cI h115 (fun _ h115 => ?_) (fun _ h115 => ?_)
  ·refine cV 173 (CO.exit ?_)
   exact hk70 (x84, r83.2.1, true, r83.2.2.2) h115 _ (wS [(101, 100), (0, 0), (102, 101)] [5])
  refine CO.skip (cV 173 (bB h115 fun r92 hx138 h115 => (CO.w mix (wR 1 173 (wC (mp_newlines_ok N pa (wr (r83.2.1 + 1)) r83.2.2.1 r83.2.2.2 hx138) cok181 [(0, 0), (102, 1)] [(0, 0), (100, 173)] [173] ?_)))))
  exact wK ih116 (a1, r92.1, r83.2.2.1, x84, r92.2) h115 [(0, 0), (100, 100), (101, 101), (173, 102)] [0, 3, 5]
 refine CO.exit ?_
 exact hk70 (y63, y61, y62, y64) h115 _ (wS [(101, 100), (0, 0), (102, 101)] [5])

theorem mp_list_F_ok (N : Nat) (R : Rec1) (HR : RecOk1 R) (a1 : Int) (pa : LT) (pb : Int) (pc : Bool) (p1 : LLU) {r : (LS × Int × Bool × LLU)} (h : mp_list_F N R a1 pa pb pc p1 = some r) :
    AC0 184 [.loc 0 0, V.i a1] [(0, cP 108 pa pb pc 1), (1, vN p1)] (.own 100) [(0, cP 108 pa r.2.1 r.2.2.1 101), (100, vX 87 5 eST r.1), (101, vN r.2.2.2)] := by
 rw [mp_list_F] at h
 refine AC.enter Tryz.func184 rfl (cV 100 (CO.sw mix (W.layop Dk lO (by kernel_rfl) 100 { v := .own 100, R := [], new := [(100, .vec true 87 5 [])], N := [100] } (by kernel_rfl) (W.vecEq 100 (nn := true) (e := 87) (k := 5) (rows := []) (rows' := [].map eST) (by kernel_rfl) rfl (wR 1 101 (wF (CO.seq' (bB h fun y5 hv9 h => ?_))))))))
 refine CO.cutR (tl 30 [(0, .loc 0 0), (1, V.i a1), (5, .own 100), (14, V.b y5)]) [(0, cP 108 pa pb pc 1), (100, vX 87 5 eST []), (1, vN p1)] mix (by
  refine wR 1 101 (bB hv9 fun r6 hx10 hv9 => (wC (mp_kind_ok pa pb pc p1 hx10) cok134 [(0, 0), (1, 1)] [(0, 0), (1, 1)] [] (wR 3 101 ?_)))
  refine wJ 11 hv9 (fun hv9 => ?_) (fun hv9 => ?_)
  ·refine wR 3 101 ?_
   cases hv9
   exact fS [(0, 0), (100, 100), (1, 1)] [0, 1, 5, 14]
  refine wR 3 101 ?_
  cases hv9
  exact fS [(0, 0), (100, 100), (1, 1)] [0, 1, 5, 14]
  ) ?_
 refine cI h (fun _ h => ?_) (fun _ h => ?_)
 ·refine cV 101 (cV 101 (CO.ret ?_))
  cases h
  exact eG [(0, 0), (100, 100), (1, 101)] (.inr rfl) (RetV.one rfl (oT (t := 4) (r := .own 100)))
 refine CO.skip (bB h fun r8 hx14 h => (CO.sw mix (wR 2 101 (wC (HR.mp_items (⟨false, false⟩ : SRules) pa pb pc p1 _ hx14) cok198 [(0, 0), (1, 1)] [(0, 0), (100, 101), (101, 102)] [101, 102] (wR 1 103 (wF (bB h fun r10 hx16 h => (CO.sw mix ?_))))))))
 refine wR 2 103 (wC (mp_take_ok a1 pa r8.2.1 r8.2.2.1 r8.2.2.2 hx16) cok180 [(0, 0), (102, 1)] [(0, 0), (1, 102)] [] (wF (cV 103 (CO.ret ?_))))
 cases h
 exact eG [(0, 0), (101, 100), (102, 101)] (.inr rfl) (RetV.one rfl (oT (t := 4) (r := .own 101)))

theorem mp_in_F_ok (N : Nat) (R : Rec1) (HR : RecOk1 R) (a1 : SRules) (pa : LT) (pb : Int) (pc : Bool) (p1 : LLU) {r : T1} (h : mp_in_F N R a1 pa pb pc p1 = some r) :
    AC0 140 [.loc 0 0, .agg [V.b a1.noIn, V.b a1.noGt]] [(0, cP 108 pa pb pc 1), (1, vN p1)] (.agg (aP r.1)) [(0, cP 108 pa r.2.1 r.2.2.1 100), (100, vN r.2.2.2)] := by
 rw [mp_in_F] at h
 refine AC.enter Tryz.func140 rfl (cV 100 (cV 102 (CO.seq' (bB h fun y17 hv30 h => ?_))))
 refine CO.cutR (tl 84 [(0, .loc 0 0), (3, .loc 100 0), (4, .loc 101 0), (5, .loc 102 0), (6, .c (.slice none 0 0)), (26, V.b y17)]) [(0, cP 108 pa pb pc 1), (100, .cells 127 [V.b a1.noIn, V.b a1.noGt]), (101, .cells 110 [V.i 0, V.i 0, V.s [], V.s [], .c (.slice none 0 0), V.b false]), (102, .cells 110 [V.i 0, V.i 0, V.s [], V.s [], .c (.slice none 0 0), V.b false]), (1, vN p1)] mix (by
  refine wR 6 103 ?_
  refine wJ 13 hv30 (fun hv30 => ?_) (fun hv30 => ?_)
  ·refine wR 1 103 (bB hv30 fun r18 hx32 hv30 => (wC (mp_kind_ok pa pb pc p1 hx32) cok134 [(0, 0), (1, 1)] [(0, 0), (1, 1)] [] (wR 3 103 ?_)))
   refine wJ 18 hv30 (fun hv30 => ?_) (fun hv30 => ?_)
   ·refine wR 5 103 ?_
    refine wJ 23 hv30 (fun hv30 => ?_) (fun hv30 => ?_)
    ·refine wR 1 103 (bB hv30 fun r19 hx35 hv30 => (wC (mp_listAhead_ok N pa pb pc p1 hx35) cok183 [(0, 0), (1, 1)] [(0, 0), (1, 1)] [] (wR 1 103 ?_)))
     cases hv30
     exact fS [(0, 0), (100, 100), (101, 101), (102, 102), (1, 1)] [0, 3, 4, 5, 6, 26]
    refine wR 3 103 ?_
    cases hv30
    exact fS [(0, 0), (100, 100), (101, 101), (102, 102), (1, 1)] [0, 3, 4, 5, 6, 26]
   refine wR 8 103 ?_
   cases hv30
   exact fS [(0, 0), (100, 100), (101, 101), (102, 102), (1, 1)] [0, 3, 4, 5, 6, 26]
  refine wR 13 103 ?_
  cases hv30
  exact fS [(0, 0), (100, 100), (101, 101), (102, 102), (1, 1)] [0, 3, 4, 5, 6, 26]
  ) ?_
 refine cI h (fun _ h => ?_) (fun _ h => ?_)
 ·refine cV 103 (bB h fun r21 hx38 h => (CO.sw mix (wR 1 103 (wC (HR.mp_list 33 pa (wr (pb + 1)) pc p1 _ hx38) cok184 [(0, 0), (1, 1)] [(0, 0), (100, 103), (101, 104)] [103, 104] (wR 1 105 (wF (bB h fun y23 hv41 h => ?_)))))))
  refine CO.cutR (tl 84 [(0, .loc 0 0), (3, .loc 100 0), (4, .loc 101 0), (5, .loc 102 0), (6, .own 103), (45, V.b y23)]) [(0, cP 108 pa r21.2.1 r21.2.2.1 104), (100, .cells 127 [V.b a1.noIn, V.b a1.noGt]), (101, .cells 110 [V.i 0, V.i 0, V.s [], V.s [], .c (.slice none 0 0), V.b false]), (102, .cells 110 [V.i 0, V.i 0, V.s [], V.s [], .c (.slice none 0 0), V.b false]), (103, vX 87 5 eST r21.1), (104, vN r21.2.2.2)] mix (by
   refine wR 6 105 ?_
   refine wJ 41 hv41 (fun hv41 => ?_) (fun hv41 => ?_)
   ·refine wR 1 105 (bB hv41 fun r24 hx43 hv41 => (wC (mp_kind_ok pa r21.2.1 r21.2.2.1 r21.2.2.2 hx43) cok134 [(0, 0), (104, 1)] [(0, 0), (1, 104)] [] (wR 2 105 ?_)))
    cases hv41
    exact fS [(0, 0), (100, 100), (101, 101), (102, 102), (103, 103), (104, 104)] [0, 3, 4, 5, 6, 45]
   refine wR 4 105 ?_
   cases hv41
   exact fS [(0, 0), (100, 100), (101, 101), (102, 102), (103, 103), (104, 104)] [0, 3, 4, 5, 6, 45]
   ) ?_
  refine cI h (fun _ h => ?_) (fun _ h => ?_)
  ·refine bB h fun r26 hx46 h => (CO.sw mix (wR 1 105 (wC (mp_fail_ok pa r21.2.1 r21.2.2.1 r21.2.2.2 hx46) cok135 [(0, 0), (104, 1)] [(0, 0), (1, 104)] [] (wR 1 105 (wF (CO.ret ?_))))))
   have h := sI h
   subst h
   exact eG [(0, 0), (104, 100)] (.inr rfl) (RetV.one rfl (OneR.cell Dk (r := .agg (aP r26.1)) (i := 101) (ety := 110) (cs := (aP r26.1)) (by kernel_rfl) (by kernel_rfl) (by kernel_rfl)))
  refine CO.skip (CO.seq' (CO.block' ?_))
  refine CO.loopN (n := N + 1) (LoopN.step ?_)
  refine CO.seq' (bB h fun y75 hv136 h => ?_)
  refine CO.cutR (tl 84 [(0, .loc 0 0), (3, .loc 100 0), (4, .loc 101 0), (5, .loc 102 0), (6, .own 103), (65, V.b y75)]) [(0, cP 108 pa r21.2.1 r21.2.2.1 104), (100, .cells 127 [V.b a1.noIn, V.b a1.noGt]), (101, .cells 110 [V.i 0, V.i 0, V.s [], V.s [], .c (.slice none 0 0), V.b false]), (102, .cells 110 [V.i 0, V.i 0, V.s [], V.s [], .c (.slice none 0 0), V.b false]), (103, vX 87 5 eST r21.1), (104, vN r21.2.2.2)] mix (by
   refine wR 6 105 ?_
   refine wJ 56 hv136 (fun hv136 => ?_) (fun hv136 => ?_)
   ·refine wR 1 105 (bB hv136 fun r76 hx138 hv136 => (wC (mp_kind_ok pa r21.2.1 r21.2.2.1 r21.2.2.2 hx138) cok134 [(0, 0), (104, 1)] [(0, 0), (1, 104)] [] (wR 3 105 ?_)))
    refine wJ 61 hv136 (fun hv136 => ?_) (fun hv136 => ?_)
    ·refine wR 4 105 ?_
     cases hv136
     exact fS [(0, 0), (100, 100), (101, 101), (102, 102), (103, 103), (104, 104)] [0, 3, 4, 5, 6, 65]
    refine wR 4 105 ?_
    cases hv136
    exact fS [(0, 0), (100, 100), (101, 101), (102, 102), (103, 103), (104, 104)] [0, 3, 4, 5, 6, 65]
   refine wR 9 105 ?_
   cases hv136
   exact fS [(0, 0), (100, 100), (101, 101), (102, 102), (103, 103), (104, 104)] [0, 3, 4, 5, 6, 65]
   ) ?_
  refine cI h (fun _ h => ?_) (fun _ h => ?_)
  ·refine CO.skip (CO.block' (cV 105 (CO.seq' (bB h fun b80 hx144 h => (CO.sw mix (wR 1 105 (W.nilO Dk eST hx144 103 (by kernel_rfl) (wF ?_))))))))
   refine CO.ifF (c := false) rfl (by kernel_rfl) (CO.skip (bB h fun r82 hx146 h => (CO.sw mix (wR 1 105 (wC (mp_name_ok pa (wr (r21.2.1 + 1)) r21.2.2.1 r21.2.2.2 hx146) cok185 [(0, 0), (104, 1)] [(0, 0), (1, 104)] [] (wR 4 105 (wF ?_)))))))
   refine cE 1 105 (tl 84 [(0, .loc 0 0), (3, .loc 100 0), (4, .loc 101 0), (5, .loc 102 0), (6, .c (.slice none 0 0))]) [(102, .cells 110 [V.i 13, V.i 0, V.s r82.1, V.s [], .own 103, V.b false]), (0, cP 108 pa r82.2.1 r82.2.2 104), (100, .cells 127 [V.b a1.noIn, V.b a1.noGt]), (101, .cells 110 [V.i 0, V.i 0, V.s [], V.s [], .c (.slice none 0 0), V.b false]), (103, vX 87 5 eST r21.1), (104, vN r21.2.2.2)] (fun st hw => ?_)
   refine LoopN.weak hw (LoopN.J (fun (⟨a1, r21, y91, y92, y93, y94⟩ : (SRules × (LS × Int × Bool × LLU) × Int × Bool × LU × LS)) => ⟨tl 84 [(0, .loc 0 0), (3, .loc 100 0), (4, .loc 101 0), (5, .loc 102 0), (6, .c (.slice none 0 0))], [(0, cP 108 pa y91 y92 103), (100, .cells 127 [V.b a1.noIn, V.b a1.noGt]), (101, .cells 110 [V.i 0, V.i 0, V.s [], V.s [], sL eST [], V.b false]), (102, .cells 110 [V.i 13, V.i 0, V.s y93, V.s [], .own 104, V.b false]), (103, vN r21.2.2.2), (104, vX 87 5 eST y94)]⟩) (fun n i => mp_in_l1 N R pa n i = some r) (n0 := N) (i0 := (a1, r21, r82.2.1, r82.2.2, r82.1, r21.1)) ((Weak.nilsH 101 [4] (e := 110) (cs := [V.i 0, V.i 0, V.s [], V.s [], .c (.slice none 0 0), V.b false]) (by kernel_rfl)).trans (wS [(0, 0), (100, 100), (101, 101), (102, 102), (104, 103), (103, 104)] [0, 3, 4, 5, 6])) h (fun i h => by simp [mp_in_l1] at h) ?_)
   rintro n1 ⟨a1, r21, y91, y92, y93, y94⟩ h183 ih184
   rw [mp_in_l1] at h183
   refine CO.seq' (bB h183 fun y111 hv196 h183 => ?_)
   refine CO.cutR (tl 84 [(0, .loc 0 0), (3, .loc 100 0), (4, .loc 101 0), (5, .loc 102 0), (6, .c (.slice none 0 0)), (65, V.b y111)]) [(0, cP 108 pa y91 y92 103), (100, .cells 127 [V.b a1.noIn, V.b a1.noGt]), (101, .cells 110 [V.i 0, V.i 0, V.s [], V.s [], sL eST [], V.b false]), (102, .cells 110 [V.i 13, V.i 0, V.s y93, V.s [], .own 104, V.b false]), (103, vN r21.2.2.2), (104, vX 87 5 eST y94)] mix (by
    refine wR 6 167 ?_
    refine wJ 56 hv196 (fun hv196 => ?_) (fun hv196 => ?_)
    ·refine wR 1 167 (bB hv196 fun r112 hx198 hv196 => (wC (mp_kind_ok pa y91 y92 r21.2.2.2 hx198) cok134 [(0, 0), (103, 1)] [(0, 0), (1, 103)] [] (wR 3 167 ?_)))
     refine wJ 61 hv196 (fun hv196 => ?_) (fun hv196 => ?_)
     ·refine wR 4 167 ?_
      cases hv196
      exact fS [(0, 0), (100, 100), (101, 101), (102, 102), (103, 103), (104, 104)] [0, 3, 4, 5, 6, 65]
     refine wR 4 167 ?_
     cases hv196
     exact fS [(0, 0), (100, 100), (101, 101), (102, 102), (103, 103), (104, 104)] [0, 3, 4, 5, 6, 65]
    refine wR 9 167 ?_
    cases hv196
    exact fS [(0, 0), (100, 100), (101, 101), (102, 102), (103, 103), (104, 104)] [0, 3, 4, 5, 6, 65]
    ) ?_
   refine cI h183 (fun _ h183 => ?_) (fun _ h183 => ?_)
   ·refine CO.skip (CO.block' (cV 167 (CO.seq' ?_)))
    refine CO.cutR (tl 84 [(0, .loc 0 0), (3, .loc 100 0), (4, .loc 101 0), (5, .loc 102 0), (6, .c (.slice none 0 0)), (74, V.b true)]) [(0, cP 108 pa (wr (y91 + 1)) y92 103), (100, .cells 127 [V.b a1.noIn, V.b a1.noGt]), (101, .cells 110 [V.i 0, V.i 0, V.s [], V.s [], sL eST [], V.b false]), (102, .cells 110 [V.i 13, V.i 0, V.s y93, V.s [], .own 104, V.b false]), (103, vN r21.2.2.2), (104, vX 87 5 eST y94)] mix (by
     refine wR 1 167 (W.nilEq Dk true (by kernel_rfl) ?_)
     exact fI
     ) ?_
    refine CO.ifT (c := true) rfl (by kernel_rfl) (CO.lay (tl 84 [(0, .loc 0 0), (3, .loc 100 0), (4, .loc 101 0), (5, .loc 102 0), (6, sL eST []), (74, V.b true)]) [(0, cP 108 pa (wr (y91 + 1)) y92 103), (100, .cells 127 [V.b a1.noIn, V.b a1.noGt]), (101, .cells 110 [V.i 0, V.i 0, V.s [], V.s [], sL eST [], V.b false]), (102, .cells 110 [V.i 13, V.i 0, V.s y93, V.s [], sL eST y94, V.b false]), (103, vN r21.2.2.2)] (LayOk.cons (j := 104) eST eST y94 (by kernel_rfl) (share_encSTree) lO) (by kernel_rfl) (by kernel_rfl) (by kernel_rfl) ?_)
    refine CO.endR (tl 84 [(0, .loc 0 0), (3, .loc 100 0), (4, .loc 101 0), (5, .loc 102 0), (6, .own 167)]) [(167, .vec false 87 5 ([(⟨13, 0, y93, [], y94⟩ : STree)].map eST)), (0, cP 108 pa (wr (y91 + 1)) y92 103), (100, .cells 127 [V.b a1.noIn, V.b a1.noGt]), (101, .cells 110 [V.i 0, V.i 0, V.s [], V.s [], sL eST [], V.b false]), (102, .cells 110 [V.i 13, V.i 0, V.s y93, V.s [], sL eST y94, V.b false]), (103, vN r21.2.2.2)] mix (by
     refine wR 2 167 (W.layop Dk lO (by kernel_rfl) 167 { v := .own 167, R := [], new := [(167, .vec true 87 5 [[V.i 13, V.i 0, V.s y93, V.s [], sL eST y94]])], N := [167] } (by kernel_rfl) (W.vecEq 167 (nn := true) (e := 87) (k := 5) (rows := [[V.i 13, V.i 0, V.s y93, V.s [], sL eST y94]]) (rows' := [(⟨13, 0, y93, [], y94⟩ : STree)].map eST) (by kernel_rfl) (by simp only [List.map_cons, List.map_nil, encSTree_eq]) (wR 1 168 ?_)))
     exact fI
     ) (fun st hw => ?_)
    refine CO.weak hw (bB h183 fun r114 hx202 h183 => (CO.sw mix (wR 1 168 (wC (mp_name_ok pa (wr (y91 + 1)) y92 r21.2.2.2 hx202) cok185 [(0, 0), (103, 1)] [(0, 0), (1, 103)] [] (wR 4 168 (wF ?_))))))
    exact cK 168 ih184 (a1, r21, r114.2.1, r114.2.2, r114.1, [(⟨13, 0, y93, [], y94⟩ : STree)]) h183 [(0, 0), (100, 100), (101, 101), (102, 102), (103, 103), (167, 104)] [0, 3, 4, 5, 6]
   refine CO.exit (cU 2 167 (tl 84 [(4, .loc 101 0)]) [(101, .cells 110 [V.i 13, V.i 0, V.s y93, V.s [], .own 104, V.b false]), (0, cP 108 pa y91 y92 103), (103, vN r21.2.2.2), (104, vX 87 5 eST y94)] (CO.lay (tl 84 [(4, .loc 101 0)]) [(101, .cells 110 [V.i 13, V.i 0, V.s y93, V.s [], sL eST y94, V.b false]), (0, cP 108 pa y91 y92 103), (103, vN r21.2.2.2)] (LayOk.cons (j := 104) eST eST y94 (by kernel_rfl) (share_encSTree) lO) (by kernel_rfl) (by kernel_rfl) (by kernel_rfl) (CO.ret ?_)))
   have h183 := sI h183
   subst h183
   exact eG [(0, 0), (103, 100)] (.inr rfl) (RetV.one rfl (OneR.cell Dk (r := .agg [V.i 13, V.i 0, V.s y93, V.s [], sL eST y94, V.b false]) (i := 101) (ety := 110) (cs := [V.i 13, V.i 0, V.s y93, V.s [], sL eST y94, V.b false]) (by kernel_rfl) (by kernel_rfl) (by kernel_rfl)))
  refine CO.exit (cU 2 105 (tl 84 [(4, .loc 101 0)]) [(101, .cells 110 [V.i 0, V.i 0, V.s [], V.s [], .c (.slice none 0 0), V.b false]), (0, cP 108 pa r21.2.1 r21.2.2.1 104), (104, vN r21.2.2.2)] (CO.lay (tl 84 [(4, .loc 101 0)]) [(101, .cells 110 [V.i 0, V.i 0, V.s [], V.s [], sL eST [], V.b false]), (0, cP 108 pa r21.2.1 r21.2.2.1 104), (104, vN r21.2.2.2)] lO (by kernel_rfl) (by kernel_rfl) (by kernel_rfl) (CO.ret ?_)))
  cases h
  exact eG [(0, 0), (104, 100)] (.inr rfl) (RetV.one rfl (OneR.cell Dk (r := .agg [V.i 0, V.i 0, V.s [], V.s [], sL eST [], V.b false]) (i := 101) (ety := 110) (cs := [V.i 0, V.i 0, V.s [], V.s [], sL eST [], V.b false]) (by kernel_rfl) (by kernel_rfl) (by kernel_rfl)))
 refine bB h fun r116 hx204 h => ?_
 refine CO.endR (tl 84 [(0, .loc 0 0), (3, .loc 100 0), (4, .loc 101 0), (5, .loc 102 0), (6, .c (.slice none 0 0))]) [(102, .cells 110 (aP r116.1)), (103, vN r116.2.2.2), (0, cP 108 pa r116.2.1 r116.2.2.1 103), (100, .cells 127 [V.b a1.noIn, V.b a1.noGt]), (101, .cells 110 [V.i 0, V.i 0, V.s [], V.s [], .c (.slice none 0 0), V.b false])] mix (by
  refine wR 2 103 (wC (HR.mp_match a1 pa pb pc p1 _ hx204) cok141 [(0, 0), (1, 1)] [(0, 0), (100, 103)] [103] (wR 1 104 ?_))
  exact fI
  ) (fun st hw => ?_)
 refine CO.weak hw (CO.seq' (CO.block' ?_))
 refine CO.loopN (n := N + 1) (LoopN.step ?_)
 refine CO.seq' (bB h fun y161 hv290 h => ?_)
 refine CO.cutR (tl 84 [(0, .loc 0 0), (3, .loc 100 0), (4, .loc 101 0), (5, .loc 102 0), (6, .c (.slice none 0 0)), (65, V.b y161)]) [(0, cP 108 pa r116.2.1 r116.2.2.1 103), (100, .cells 127 [V.b a1.noIn, V.b a1.noGt]), (101, .cells 110 [V.i 0, V.i 0, V.s [], V.s [], .c (.slice none 0 0), V.b false]), (102, .cells 110 (aP r116.1)), (103, vN r116.2.2.2)] mix (by
  refine wR 6 104 ?_
  refine wJ 56 hv290 (fun hv290 => ?_) (fun hv290 => ?_)
  ·refine wR 1 104 (bB hv290 fun r162 hx292 hv290 => (wC (mp_kind_ok pa r116.2.1 r116.2.2.1 r116.2.2.2 hx292) cok134 [(0, 0), (103, 1)] [(0, 0), (1, 103)] [] (wR 3 104 ?_)))
   refine wJ 61 hv290 (fun hv290 => ?_) (fun hv290 => ?_)
   ·refine wR 4 104 ?_
    cases hv290
    exact fS [(0, 0), (100, 100), (101, 101), (102, 102), (103, 103)] [0, 3, 4, 5, 6, 65]
   refine wR 4 104 ?_
   cases hv290
   exact fS [(0, 0), (100, 100), (101, 101), (102, 102), (103, 103)] [0, 3, 4, 5, 6, 65]
  refine wR 9 104 ?_
  cases hv290
  exact fS [(0, 0), (100, 100), (101, 101), (102, 102), (103, 103)] [0, 3, 4, 5, 6, 65]
  ) ?_
 refine cI h (fun _ h => ?_) (fun _ h => ?_)
 ·refine CO.skip (CO.block' (cV 104 (CO.seq' (CO.sw mix (wR 1 104 (W.nilEq Dk true (by kernel_rfl) (wF (CO.ifT (c := true) rfl (by kernel_rfl) ?_))))))))
  refine CO.endR (tl 84 [(0, .loc 0 0), (3, .loc 100 0), (4, .loc 101 0), (5, .loc 102 0), (6, .own 104)]) [(104, .vec false 87 5 ([r116.1.tree].map eST)), (0, cP 108 pa (wr (r116.2.1 + 1)) r116.2.2.1 103), (100, .cells 127 [V.b a1.noIn, V.b a1.noGt]), (101, .cells 110 [V.i 0, V.i 0, V.s [], V.s [], .c (.slice none 0 0), V.b false]), (102, .cells 110 (aP r116.1)), (103, vN r116.2.2.2)] mix (by
   refine wR 2 104 (W.layop Dk lO (by kernel_rfl) 104 { v := .own 104, R := [], new := [(104, .vec true 87 5 [[V.i r116.1.tree.kind, V.i r116.1.tree.op, V.s r116.1.tree.text, V.s r116.1.tree.other, sL eST r116.1.tree.kids]])], N := [104] } (by kernel_rfl) (W.vecEq 104 (nn := true) (e := 87) (k := 5) (rows := [[V.i r116.1.tree.kind, V.i r116.1.tree.op, V.s r116.1.tree.text, V.s r116.1.tree.other, sL eST r116.1.tree.kids]]) (rows' := [r116.1.tree].map eST) (by kernel_rfl) (by simp only [List.map_cons, List.map_nil, encSTree_eq]) (wR 1 105 ?_)))
   exact fI
   ) (fun st hw => ?_)
  refine CO.weak hw (bB h fun r164 hx296 h => (CO.sw mix (wR 1 105 (wC (mp_name_ok pa (wr (r116.2.1 + 1)) r116.2.2.1 r116.2.2.2 hx296) cok185 [(0, 0), (103, 1)] [(0, 0), (1, 103)] [] (wR 4 105 (wF ?_))))))
  refine cE 1 105 (tl 84 [(0, .loc 0 0), (3, .loc 100 0), (4, .loc 101 0), (5, .loc 102 0), (6, .c (.slice none 0 0))]) [(102, .cells 110 [V.i 13, V.i 0, V.s r164.1, V.s [], .own 104, V.b false]), (104, .vec false 87 5 ([r116.1.tree].map eST)), (0, cP 108 pa r164.2.1 r164.2.2 103), (100, .cells 127 [V.b a1.noIn, V.b a1.noGt]), (101, .cells 110 [V.i 0, V.i 0, V.s [], V.s [], .c (.slice none 0 0), V.b false]), (103, vN r116.2.2.2)] (fun st hw => ?_)
  refine LoopN.weak hw (LoopN.J (fun (⟨a1, r116, y173, y174, y175, y176⟩ : (SRules × T1 × Int × Bool × LU × LS)) => ⟨tl 84 [(0, .loc 0 0), (3, .loc 100 0), (4, .loc 101 0), (5, .loc 102 0), (6, .c (.slice none 0 0))], [(0, cP 108 pa y173 y174 103), (100, .cells 127 [V.b a1.noIn, V.b a1.noGt]), (101, .cells 110 [V.i 0, V.i 0, V.s [], V.s [], sL eST [], V.b false]), (102, .cells 110 [V.i 13, V.i 0, V.s y175, V.s [], .own 104, V.b false]), (103, vN r116.2.2.2), (104, vX 87 5 eST y176)]⟩) (fun n i => mp_in_l2 N R pa n i = some r) (n0 := N) (i0 := (a1, r116, r164.2.1, r164.2.2, r164.1, [r116.1.tree])) ((Weak.nilsH 101 [4] (e := 110) (cs := [V.i 0, V.i 0, V.s [], V.s [], .c (.slice none 0 0), V.b false]) (by kernel_rfl)).trans (wS [(0, 0), (100, 100), (101, 101), (102, 102), (103, 103), (104, 104)] [0, 3, 4, 5, 6])) h (fun i h => by simp [mp_in_l2] at h) ?_)
  rintro n2 ⟨a1, r116, y173, y174, y175, y176⟩ h333 ih334
  rw [mp_in_l2] at h333
  refine CO.seq' (bB h333 fun y193 hv346 h333 => ?_)
  refine CO.cutR (tl 84 [(0, .loc 0 0), (3, .loc 100 0), (4, .loc 101 0), (5, .loc 102 0), (6, .c (.slice none 0 0)), (65, V.b y193)]) [(0, cP 108 pa y173 y174 103), (100, .cells 127 [V.b a1.noIn, V.b a1.noGt]), (101, .cells 110 [V.i 0, V.i 0, V.s [], V.s [], sL eST [], V.b false]), (102, .cells 110 [V.i 13, V.i 0, V.s y175, V.s [], .own 104, V.b false]), (103, vN r116.2.2.2), (104, vX 87 5 eST y176)] mix (by
   refine wR 6 167 ?_
   refine wJ 56 hv346 (fun hv346 => ?_) (fun hv346 => ?_)
   ·refine wR 1 167 (bB hv346 fun r194 hx348 hv346 => (wC (mp_kind_ok pa y173 y174 r116.2.2.2 hx348) cok134 [(0, 0), (103, 1)] [(0, 0), (1, 103)] [] (wR 3 167 ?_)))
    refine wJ 61 hv346 (fun hv346 => ?_) (fun hv346 => ?_)
    ·refine wR 4 167 ?_
     cases hv346
     exact fS [(0, 0), (100, 100), (101, 101), (102, 102), (103, 103), (104, 104)] [0, 3, 4, 5, 6, 65]
    refine wR 4 167 ?_
    cases hv346
    exact fS [(0, 0), (100, 100), (101, 101), (102, 102), (103, 103), (104, 104)] [0, 3, 4, 5, 6, 65]
   refine wR 9 167 ?_
   cases hv346
   exact fS [(0, 0), (100, 100), (101, 101), (102, 102), (103, 103), (104, 104)] [0, 3, 4, 5, 6, 65]
   ) ?_
  refine cI h333 (fun _ h333 => ?_) (fun _ h333 => ?_)
  ·refine CO.skip (CO.block' (cV 167 (CO.seq' ?_)))
   refine CO.cutR (tl 84 [(0, .loc 0 0), (3, .loc 100 0), (4, .loc 101 0), (5, .loc 102 0), (6, .c (.slice none 0 0)), (74, V.b true)]) [(0, cP 108 pa (wr (y173 + 1)) y174 103), (100, .cells 127 [V.b a1.noIn, V.b a1.noGt]), (101, .cells 110 [V.i 0, V.i 0, V.s [], V.s [], sL eST [], V.b false]), (102, .cells 110 [V.i 13, V.i 0, V.s y175, V.s [], .own 104, V.b false]), (103, vN r116.2.2.2), (104, vX 87 5 eST y176)] mix (by
    refine wR 1 167 (W.nilEq Dk true (by kernel_rfl) ?_)
    exact fI
    ) ?_
   refine CO.ifT (c := true) rfl (by kernel_rfl) (CO.lay (tl 84 [(0, .loc 0 0), (3, .loc 100 0), (4, .loc 101 0), (5, .loc 102 0), (6, sL eST []), (74, V.b true)]) [(0, cP 108 pa (wr (y173 + 1)) y174 103), (100, .cells 127 [V.b a1.noIn, V.b a1.noGt]), (101, .cells 110 [V.i 0, V.i 0, V.s [], V.s [], sL eST [], V.b false]), (102, .cells 110 [V.i 13, V.i 0, V.s y175, V.s [], sL eST y176, V.b false]), (103, vN r116.2.2.2)] (LayOk.cons (j := 104) eST eST y176 (by kernel_rfl) (share_encSTree) lO) (by kernel_rfl) (by kernel_rfl) (by kernel_rfl) ?_)
   refine CO.endR (tl 84 [(0, .loc 0 0), (3, .loc 100 0), (4, .loc 101 0), (5, .loc 102 0), (6, .own 167)]) [(167, .vec false 87 5 ([(⟨13, 0, y175, [], y176⟩ : STree)].map eST)), (0, cP 108 pa (wr (y173 + 1)) y174 103), (100, .cells 127 [V.b a1.noIn, V.b a1.noGt]), (101, .cells 110 [V.i 0, V.i 0, V.s [], V.s [], sL eST [], V.b false]), (102, .cells 110 [V.i 13, V.i 0, V.s y175, V.s [], sL eST y176, V.b false]), (103, vN r116.2.2.2)] mix (by
    refine wR 2 167 (W.layop Dk lO (by kernel_rfl) 167 { v := .own 167, R := [], new := [(167, .vec true 87 5 [[V.i 13, V.i 0, V.s y175, V.s [], sL eST y176]])], N := [167] } (by kernel_rfl) (W.vecEq 167 (nn := true) (e := 87) (k := 5) (rows := [[V.i 13, V.i 0, V.s y175, V.s [], sL eST y176]]) (rows' := [(⟨13, 0, y175, [], y176⟩ : STree)].map eST) (by kernel_rfl) (by simp only [List.map_cons, List.map_nil, encSTree_eq]) (wR 1 168 ?_)))
    exact fI
    ) (fun st hw => ?_)
   refine CO.weak hw (bB h333 fun r196 hx352 h333 => (CO.sw mix (wR 1 168 (wC (mp_name_ok pa (wr (y173 + 1)) y174 r116.2.2.2 hx352) cok185 [(0, 0), (103, 1)] [(0, 0), (1, 103)] [] (wR 4 168 (wF ?_))))))
   exact cK 168 ih334 (a1, r116, r196.2.1, r196.2.2, r196.1, [(⟨13, 0, y175, [], y176⟩ : STree)]) h333 [(0, 0), (100, 100), (101, 101), (102, 102), (103, 103), (167, 104)] [0, 3, 4, 5, 6]
  refine CO.exit (cU 2 167 (tl 84 [(4, .loc 101 0)]) [(101, .cells 110 [V.i 13, V.i 0, V.s y175, V.s [], .own 104, V.b false]), (0, cP 108 pa y173 y174 103), (103, vN r116.2.2.2), (104, vX 87 5 eST y176)] (CO.lay (tl 84 [(4, .loc 101 0)]) [(101, .cells 110 [V.i 13, V.i 0, V.s y175, V.s [], sL eST y176, V.b false]), (0, cP 108 pa y173 y174 103), (103, vN r116.2.2.2)] (LayOk.cons (j := 104) eST eST y176 (by kernel_rfl) (share_encSTree) lO) (by kernel_rfl) (by kernel_rfl) (by kernel_rfl) (CO.ret ?_)))
  have h333 := sI h333
  subst h333
  exact eG [(0, 0), (103, 100)] (.inr rfl) (RetV.one rfl (OneR.cell Dk (r := .agg [V.i 13, V.i 0, V.s y175, V.s [], sL eST y176, V.b false]) (i := 101) (ety := 110) (cs := [V.i 13, V.i 0, V.s y175, V.s [], sL eST y176, V.b false]) (by kernel_rfl) (by kernel_rfl) (by kernel_rfl)))
 refine CO.exit (cV 104 (CO.ret ?_))
 have h := sI h
 subst h
 exact eG [(0, 0), (103, 100)] (.inr rfl) (RetV.one rfl (OneR.cell Dk (r := .agg (aP r116.1)) (i := 101) (ety := 110) (cs := (aP r116.1)) (by kernel_rfl) (by kernel_rfl) (by kernel_rfl)))

theorem mp_and_F_ok (N : Nat) (R : Rec1) (HR : RecOk1 R) (a1 : SRules) (pa : LT) (pb : Int) (pc : Bool) (p1 : LLU) {r : T1} (h : mp_and_F N R a1 pa pb pc p1 = some r) :
    AC0 139 [.loc 0 0, .agg [V.b a1.noIn, V.b a1.noGt]] [(0, cP 108 pa pb pc 1), (1, vN p1)] (.agg (aP r.1)) [(0, cP 108 pa r.2.1 r.2.2.1 100), (100, vN r.2.2.2)] := by
 rw [mp_and_F] at h
 refine AC.enter Tryz.func139 rfl (cV 100 (bB h fun r2 hx2 h => (CO.sw mix (wR 2 102 (wC (HR.mp_in a1 pa pb pc p1 _ hx2) cok140 [(0, 0), (1, 1)] [(0, 0), (100, 102)] [102] (wR 2 103 (wF (CO.seq' ?_))))))))
 refine CO.block' (CO.loopJ (fun (⟨a1, y69, y70, y71, y72, y73, y74, y75, y76, y77⟩ : (SRules × Int × Bool × Int × Int × LU × LU × LS × Bool × LLU)) => ⟨tl 34 [(0, .loc 0 0), (3, .loc 100 0), (4, .loc 101 0), (5, .loc 102 0)], [(0, cP 108 pa y69 y70 103), (100, .cells 127 [V.b a1.noIn, V.b a1.noGt]), (101, .cells 110 [V.i 0, V.i 0, V.s [], V.s [], .c (.slice none 0 0), V.b false]), (102, .cells 110 [V.i y71, V.i y72, V.s y73, V.s y74, sL eST y75, V.b y76]), (103, vN y77)]⟩) (fun n i => mp_and_l1 N R pa n i = some r) (n0 := N) (i0 := (a1, r2.2.1, r2.2.2.1, r2.1.tree.kind, r2.1.tree.op, r2.1.tree.text, r2.1.tree.other, r2.1.tree.kids, r2.1.target, r2.2.2.2)) (wS [(0, 0), (100, 100), (101, 101), (103, 102), (102, 103)] [0, 3, 4, 5]) h (fun i h => by simp [mp_and_l1] at h) ?_)
 rintro n1 ⟨a1, y69, y70, y71, y72, y73, y74, y75, y76, y77⟩ h95 ih96
 rw [mp_and_l1] at h95
 refine CO.seq' (bB h95 fun y103 hv105 h95 => ?_)
 refine CO.cutR (tl 34 [(0, .loc 0 0), (3, .loc 100 0), (4, .loc 101 0), (5, .loc 102 0), (18, V.b y103)]) [(0, cP 108 pa y69 y70 103), (100, .cells 127 [V.b a1.noIn, V.b a1.noGt]), (101, .cells 110 [V.i 0, V.i 0, V.s [], V.s [], .c (.slice none 0 0), V.b false]), (102, .cells 110 [V.i y71, V.i y72, V.s y73, V.s y74, sL eST y75, V.b y76]), (103, vN y77)] mix (by
  refine wR 6 168 ?_
  refine wJ 14 hv105 (fun hv105 => ?_) (fun hv105 => ?_)
  ·refine wR 1 168 (bB hv105 fun r104 hx107 hv105 => (wC (mp_kind_ok pa y69 y70 y77 hx107) cok134 [(0, 0), (103, 1)] [(0, 0), (1, 103)] [] (wR 2 168 ?_)))
   cases hv105
   exact fS [(0, 0), (100, 100), (101, 101), (102, 102), (103, 103)] [0, 3, 4, 5, 18]
  refine wR 4 168 ?_
  cases hv105
  exact fS [(0, 0), (100, 100), (101, 101), (102, 102), (103, 103)] [0, 3, 4, 5, 18]
  ) ?_
 refine cI h95 (fun _ h95 => ?_) (fun _ h95 => ?_)
 ·refine CO.skip (CO.block' (cV 168 (bB h95 fun r106 hx110 h95 => (CO.sw mix (wR 1 168 (wC (mp_newlines_ok N pa (wr (y69 + 1)) y70 y77 hx110) cok181 [(0, 0), (103, 1)] [(0, 0), (100, 168)] [168] (wF (bB h95 fun r109 hx113 h95 => ?_))))))))
  refine bB h95 fun r110 hx114 h95 => (CO.w mix (wR 3 169 (wC (HR.mp_in a1 pa r106.1 y70 r106.2 _ hx113) cok140 [(0, 0), (168, 1)] [(0, 0), (100, 169)] [169] (w0 (mi_bin_ok 45 (⟨(⟨y71, y72, y73, y74, y75⟩ : STree), y76⟩ : SPart) r109.1 hx114) cok182 (wR 1 170 ?_)))))
  exact wK ih96 (a1, r109.2.1, r109.2.2.1, r110.tree.kind, r110.tree.op, r110.tree.text, r110.tree.other, r110.tree.kids, r110.target, r109.2.2.2) h95 [(0, 0), (100, 100), (101, 101), (102, 102), (169, 103)] [0, 3, 4, 5]
 refine CO.exit (cV 168 (CO.ret ?_))
 have h95 := sI h95
 subst h95
 exact eG [(0, 0), (103, 100)] (.inr rfl) (RetV.one rfl (OneR.cell Dk (r := .agg [V.i y71, V.i y72, V.s y73, V.s y74, sL eST y75, V.b y76]) (i := 101) (ety := 110) (cs := [V.i y71, V.i y72, V.s y73, V.s y74, sL eST y75, V.b y76]) (by kernel_rfl) (by kernel_rfl) (by kernel_rfl)))

theorem mp_or_F_ok (N : Nat) (R : Rec1) (HR : RecOk1 R) (a1 : SRules) (pa : LT) (pb : Int) (pc : Bool) (p1 : LLU) {r : T1} (h : mp_or_F N R a1 pa pb pc p1 = some r) :
    AC0 138 [.loc 0 0, .agg [V.b a1.noIn, V.b a1.noGt]] [(0, cP 108 pa pb pc 1), (1, vN p1)] (.agg (aP r.1)) [(0, cP 108 pa r.2.1 r.2.2.1 100), (100, vN r.2.2.2)] := by
 rw [mp_or_F] at h
 refine AC.enter Tryz.func138 rfl (cV 100 (bB h fun r2 hx2 h => (CO.sw mix (wR 2 102 (wC (HR.mp_and a1 pa pb pc p1 _ hx2) cok139 [(0, 0), (1, 1)] [(0, 0), (100, 102)] [102] (wR 2 103 (wF (CO.seq' ?_))))))))
 refine CO.block' (CO.loopJ (fun (⟨a1, y69, y70, y71, y72, y73, y74, y75, y76, y77⟩ : (SRules × Int × Bool × Int × Int × LU × LU × LS × Bool × LLU)) => ⟨tl 34 [(0, .loc 0 0), (3, .loc 100 0), (4, .loc 101 0), (5, .loc 102 0)], [(0, cP 108 pa y69 y70 103), (100, .cells 127 [V.b a1.noIn, V.b a1.noGt]), (101, .cells 110 [V.i 0, V.i 0, V.s [], V.s [], .c (.slice none 0 0), V.b false]), (102, .cells 110 [V.i y71, V.i y72, V.s y73, V.s y74, sL eST y75, V.b y76]), (103, vN y77)]⟩) (fun n i => mp_or_l1 N R pa n i = some r) (n0 := N) (i0 := (a1, r2.2.1, r2.2.2.1, r2.1.tree.kind, r2.1.tree.op, r2.1.tree.text, r2.1.tree.other, r2.1.tree.kids, r2.1.target, r2.2.2.2)) (wS [(0, 0), (100, 100), (101, 101), (103, 102), (102, 103)] [0, 3, 4, 5]) h (fun i h => by simp [mp_or_l1] at h) ?_)
 rintro n1 ⟨a1, y69, y70, y71, y72, y73, y74, y75, y76, y77⟩ h95 ih96
 rw [mp_or_l1] at h95
 refine CO.seq' (bB h95 fun y103 hv105 h95 => ?_)
 refine CO.cutR (tl 34 [(0, .loc 0 0), (3, .loc 100 0), (4, .loc 101 0), (5, .loc 102 0), (18, V.b y103)]) [(0, cP 108 pa y69 y70 103), (100, .cells 127 [V.b a1.noIn, V.b a1.noGt]), (101, .cells 110 [V.i 0, V.i 0, V.s [], V.s [], .c (.slice none 0 0), V.b false]), (102, .cells 110 [V.i y71, V.i y72, V.s y73, V.s y74, sL eST y75, V.b y76]), (103, vN y77)] mix (by
  refine wR 6 168 ?_
  refine wJ 14 hv105 (fun hv105 => ?_) (fun hv105 => ?_)
  ·refine wR 1 168 (bB hv105 fun r104 hx107 hv105 => (wC (mp_kind_ok pa y69 y70 y77 hx107) cok134 [(0, 0), (103, 1)] [(0, 0), (1, 103)] [] (wR 2 168 ?_)))
   cases hv105
   exact fS [(0, 0), (100, 100), (101, 101), (102, 102), (103, 103)] [0, 3, 4, 5, 18]
  refine wR 4 168 ?_
  cases hv105
  exact fS [(0, 0), (100, 100), (101, 101), (102, 102), (103, 103)] [0, 3, 4, 5, 18]
  ) ?_
 refine cI h95 (fun _ h95 => ?_) (fun _ h95 => ?_)
 ·refine CO.skip (CO.block' (cV 168 (bB h95 fun r106 hx110 h95 => (CO.sw mix (wR 1 168 (wC (mp_newlines_ok N pa (wr (y69 + 1)) y70 y77 hx110) cok181 [(0, 0), (103, 1)] [(0, 0), (100, 168)] [168] (wF (bB h95 fun r109 hx113 h95 => ?_))))))))
  refine bB h95 fun r110 hx114 h95 => (CO.w mix (wR 3 169 (wC (HR.mp_and a1 pa r106.1 y70 r106.2 _ hx113) cok139 [(0, 0), (168, 1)] [(0, 0), (100, 169)] [169] (w0 (mi_bin_ok 44 (⟨(⟨y71, y72, y73, y74, y75⟩ : STree), y76⟩ : SPart) r109.1 hx114) cok182 (wR 1 170 ?_)))))
  exact wK ih96 (a1, r109.2.1, r109.2.2.1, r110.tree.kind, r110.tree.op, r110.tree.text, r110.tree.other, r110.tree.kids, r110.target, r109.2.2.2) h95 [(0, 0), (100, 100), (101, 101), (102, 102), (169, 103)] [0, 3, 4, 5]
 refine CO.exit (cV 168 (CO.ret ?_))
 have h95 := sI h95
 subst h95
 exact eG [(0, 0), (103, 100)] (.inr rfl) (RetV.one rfl (OneR.cell Dk (r := .agg [V.i y71, V.i y72, V.s y73, V.s y74, sL eST y75, V.b y76]) (i := 101) (ety := 110) (cs := [V.i y71, V.i y72, V.s y73, V.s y74, sL eST y75, V.b y76]) (by kernel_rfl) (by kernel_rfl) (by kernel_rfl)))

theorem mp_cond_F_ok (N : Nat) (R : Rec1) (HR : RecOk1 R) (a1 : SRules) (pa : LT) (pb : Int) (pc : Bool) (p1 : LLU) {r : T1} (h : mp_cond_F N R a1 pa pb pc p1 = some r) :
    AC0 137 [.loc 0 0, .agg [V.b a1.noIn, V.b a1.noGt]] [(0, cP 108 pa pb pc 1), (1, vN p1)] (.agg (aP r.1)) [(0, cP 108 pa r.2.1 r.2.2.1 100), (100, vN r.2.2.2)] := by
 rw [mp_cond_F] at h
 refine AC.enter Tryz.func137 rfl (cV 100 (bB h fun r2 hx2 h => (CO.sw mix (wR 2 102 (wC (HR.mp_or a1 pa pb pc p1 _ hx2) cok138 [(0, 0), (1, 1)] [(0, 0), (100, 102)] [102] (wR 2 103 (wF (CO.seq' ?_))))))))
 refine bB h fun y7 hv11 h => ?_
 refine CO.cutR (tl 50 [(0, .loc 0 0), (3, .loc 100 0), (4, .loc 101 0), (5, .loc 102 0), (19, V.b y7)]) [(0, cP 108 pa r2.2.1 r2.2.2.1 103), (100, .cells 127 [V.b a1.noIn, V.b a1.noGt]), (101, .cells 110 [V.i 0, V.i 0, V.s [], V.s [], .c (.slice none 0 0), V.b false]), (102, .cells 110 (aP r2.1)), (103, vN r2.2.2.2)] mix (by
  refine wR 5 104 ?_
  refine wJ 15 hv11 (fun hv11 => ?_) (fun hv11 => ?_)
  ·refine wR 4 104 ?_
   cases hv11
   exact fS [(0, 0), (100, 100), (101, 101), (103, 102), (102, 103)] [0, 3, 4, 5, 19]
  refine wR 1 104 (bB hv11 fun r8 hx13 hv11 => (wC (mp_kind_ok pa r2.2.1 r2.2.2.1 r2.2.2.2 hx13) cok134 [(0, 0), (102, 1)] [(0, 0), (1, 102)] [] (wR 2 104 ?_)))
  cases hv11
  exact fS [(0, 0), (100, 100), (101, 101), (103, 102), (102, 103)] [0, 3, 4, 5, 19]
  ) ?_
 refine cI h (fun _ h => ?_) (fun _ h => ?_)
 ·refine cV 104 (CO.ret ?_)
  have h := sI h
  subst h
  exact eG [(0, 0), (103, 100)] (.inr rfl) (RetV.one rfl (OneR.cell Dk (r := .agg (aP r2.1)) (i := 101) (ety := 110) (cs := (aP r2.1)) (by kernel_rfl) (by kernel_rfl) (by kernel_rfl)))
 refine CO.skip (cV 104 (bB h fun r10 hx16 h => (CO.sw mix (wR 2 104 (wC (HR.mp_cond a1 pa (wr (r2.2.1 + 1)) r2.2.2.1 r2.2.2.2 _ hx16) cok137 [(0, 0), (103, 1)] [(0, 0), (100, 104)] [104] (wR 2 105 (wF (bB h fun r12 hx18 h => ?_))))))))
 refine CO.sw mix (wR 1 106 (wC (mp_take_ok 66 pa r10.2.1 r10.2.2.1 r10.2.2.2 hx18) cok180 [(0, 0), (104, 1)] [(0, 0), (1, 104)] [] (wF (CO.seq' (cV 106 ?_)))))
 refine cI h (fun _ h => ?_) (fun _ h => ?_)
 ·refine cU 2 106 (tl 50 [(4, .loc 101 0)]) [(101, .cells 110 [V.i 0, V.i 0, V.s [], V.s [], .c (.slice none 0 0), V.b false]), (104, vN r10.2.2.2), (0, cP 108 pa r12.2.1 r12.2.2 104)] (CO.lay (tl 50 [(4, .loc 101 0)]) [(101, .cells 110 [V.i 0, V.i 0, V.s [], V.s [], sL eST [], V.b false]), (104, vN r10.2.2.2), (0, cP 108 pa r12.2.1 r12.2.2 104)] lO (by kernel_rfl) (by kernel_rfl) (by kernel_rfl) (CO.ret ?_))
  cases h
  exact eG [(0, 0), (104, 100)] (.inr rfl) (RetV.one rfl (OneR.cell Dk (r := .agg [V.i 0, V.i 0, V.s [], V.s [], sL eST [], V.b false]) (i := 101) (ety := 110) (cs := [V.i 0, V.i 0, V.s [], V.s [], sL eST [], V.b false]) (by kernel_rfl) (by kernel_rfl) (by kernel_rfl)))
 refine CO.skip (bB h fun r14 hx22 h => (CO.sw mix (wR 2 106 (wC (HR.mp_cond a1 pa r12.2.1 r12.2.2 r10.2.2.2 _ hx22) cok137 [(0, 0), (104, 1)] [(0, 0), (100, 106)] [106] (wR 2 107 (wF ?_))))))
 refine CO.cutR (tl 50 [(4, .loc 101 0)]) [(101, .cells 110 [V.i 14, V.i 0, V.s [], V.s [], .own 108, V.b false]), (108, .vec false 87 5 ([r2.1.tree, r10.1.tree, r14.1.tree].map eST)), (106, vN r14.2.2.2), (0, cP 108 pa r14.2.1 r14.2.2.1 106)] mix (by
  refine wR 6 108 (W.layop Dk lO (by kernel_rfl) 108 { v := .own 108, R := [], new := [(108, .vec true 87 5 [[V.i r2.1.tree.kind, V.i r2.1.tree.op, V.s r2.1.tree.text, V.s r2.1.tree.other, sL eST r2.1.tree.kids], [V.i r10.1.tree.kind, V.i r10.1.tree.op, V.s r10.1.tree.text, V.s r10.1.tree.other, sL eST r10.1.tree.kids], [V.i r14.1.tree.kind, V.i r14.1.tree.op, V.s r14.1.tree.text, V.s r14.1.tree.other, sL eST r14.1.tree.kids]])], N := [108] } (by kernel_rfl) (W.vecEq 108 (nn := true) (e := 87) (k := 5) (rows := [[V.i r2.1.tree.kind, V.i r2.1.tree.op, V.s r2.1.tree.text, V.s r2.1.tree.other, sL eST r2.1.tree.kids], [V.i r10.1.tree.kind, V.i r10.1.tree.op, V.s r10.1.tree.text, V.s r10.1.tree.other, sL eST r10.1.tree.kids], [V.i r14.1.tree.kind, V.i r14.1.tree.op, V.s r14.1.tree.text, V.s r14.1.tree.other, sL eST r14.1.tree.kids]]) (rows' := [r2.1.tree, r10.1.tree, r14.1.tree].map eST) (by kernel_rfl) (by simp only [List.map_cons, List.map_nil, encSTree_eq]) (wR 3 109 ?_)))
  exact fI
  ) ?_
 refine CO.lay (tl 50 [(4, .loc 101 0)]) [(101, .cells 110 [V.i 14, V.i 0, V.s [], V.s [], .sl false false ([r2.1.tree, r10.1.tree, r14.1.tree].map eST), V.b false]), (106, vN r14.2.2.2), (0, cP 108 pa r14.2.1 r14.2.2.1 106)] (LayOk.cons (j := 108) eST eST ([r2.1.tree, r10.1.tree, r14.1.tree] : LS) (by kernel_rfl) (share_encSTree) lO) (by kernel_rfl) (by kernel_rfl) (by kernel_rfl) (CO.ret ?_)
 have h := sI h
 subst h
 exact eG [(0, 0), (106, 100)] (.inr rfl) (RetV.one rfl (OneR.cell Dk (r := .agg [V.i 14, V.i 0, V.s [], V.s [], .sl false false ([r2.1.tree, r10.1.tree, r14.1.tree].map eST), V.b false]) (i := 101) (ety := 110) (cs := [V.i 14, V.i 0, V.s [], V.s [], .sl false false ([r2.1.tree, r10.1.tree, r14.1.tree].map eST), V.b false]) (by kernel_rfl) (by kernel_rfl) (by kernel_rfl)))

theorem mp_assign_F_ok (N : Nat) (R : Rec1) (HR : RecOk1 R) (a1 : SRules) (pa : LT) (pb : Int) (pc : Bool) (p1 : LLU) {r : T1} (h : mp_assign_F N R a1 pa pb pc p1 = some r) :
    AC0 136 [.loc 0 0, .agg [V.b a1.noIn, V.b a1.noGt]] [(0, cP 108 pa pb pc 1), (1, vN p1)] (.agg (aP r.1)) [(0, cP 108 pa r.2.1 r.2.2.1 100), (100, vN r.2.2.2)] := by
 rw [mp_assign_F] at h
 refine AC.enter Tryz.func136 rfl (cV 100 (bB h fun r2 hx2 h => (CO.sw mix (wR 2 102 (wC (HR.mp_cond a1 pa pb pc p1 _ hx2) cok137 [(0, 0), (1, 1)] [(0, 0), (100, 102)] [102] (wR 2 103 (wF (CO.seq' ?_))))))))
 refine bB h fun y10 hv17 h => ?_
 refine CO.cutR (tl 47 [(0, .loc 0 0), (3, .loc 100 0), (4, .loc 101 0), (5, .loc 102 0), (25, V.b y10)]) [(0, cP 108 pa r2.2.1 r2.2.2.1 103), (100, .cells 127 [V.b a1.noIn, V.b a1.noGt]), (101, .cells 110 [V.i 0, V.i 0, V.s [], V.s [], .c (.slice none 0 0), V.b false]), (102, .cells 110 (aP r2.1)), (103, vN r2.2.2.2)] mix (by
  refine wR 5 104 ?_
  refine wJ 15 hv17 (fun hv17 => ?_) (fun hv17 => ?_)
  ·refine wR 10 104 ?_
   cases hv17
   exact fS [(0, 0), (100, 100), (101, 101), (103, 102), (102, 103)] [0, 3, 4, 5, 25]
  refine wR 5 104 ?_
  refine wJ 20 hv17 (fun hv17 => ?_) (fun hv17 => ?_)
  ·refine wR 5 104 ?_
   cases hv17
   exact fS [(0, 0), (100, 100), (101, 101), (103, 102), (102, 103)] [0, 3, 4, 5, 25]
  refine wR 1 104 (bB hv17 fun r11 hx20 hv17 => (wC (mp_kind_ok pa r2.2.1 r2.2.2.1 r2.2.2.2 hx20) cok134 [(0, 0), (102, 1)] [(0, 0), (1, 102)] [] (bB hv17 fun r12 hx21 hv17 => (w0 (mi_isAssign_ok r11 hx21) cok156 (wR 2 104 ?_)))))
  cases hv17
  exact fS [(0, 0), (100, 100), (101, 101), (103, 102), (102, 103)] [0, 3, 4, 5, 25]
  ) ?_
 refine cI h (fun _ h => ?_) (fun _ h => ?_)
 ·refine cV 104 (CO.ret ?_)
  have h := sI h
  subst h
  exact eG [(0, 0), (103, 100)] (.inr rfl) (RetV.one rfl (OneR.cell Dk (r := .agg (aP r2.1)) (i := 101) (ety := 110) (cs := (aP r2.1)) (by kernel_rfl) (by kernel_rfl) (by kernel_rfl)))
 refine CO.skip (bB h fun r14 hx24 h => (CO.sw mix (wR 1 104 (wC (mp_kind_ok pa r2.2.1 r2.2.2.1 r2.2.2.2 hx24) cok134 [(0, 0), (103, 1)] [(0, 0), (1, 103)] [] (wR 1 104 (wF (cV 104 (bB h fun r16 hx26 h => ?_))))))))
 refine CO.sw mix (wR 2 104 (wC (HR.mp_assign a1 pa (wr (r2.2.1 + 1)) r2.2.2.1 r2.2.2.2 _ hx26) cok136 [(0, 0), (103, 1)] [(0, 0), (100, 104)] [104] (wR 2 105 (wF ?_))))
 refine CO.cutR (tl 47 [(4, .loc 101 0)]) [(101, .cells 110 [V.i 15, V.i r14, V.s [], V.s [], .own 106, V.b false]), (106, .vec false 87 5 ([r2.1.tree, r16.1.tree].map eST)), (104, vN r16.2.2.2), (0, cP 108 pa r16.2.1 r16.2.2.1 104)] mix (by
  refine wR 5 106 (W.layop Dk lO (by kernel_rfl) 106 { v := .own 106, R := [], new := [(106, .vec true 87 5 [[V.i r2.1.tree.kind, V.i r2.1.tree.op, V.s r2.1.tree.text, V.s r2.1.tree.other, sL eST r2.1.tree.kids], [V.i r16.1.tree.kind, V.i r16.1.tree.op, V.s r16.1.tree.text, V.s r16.1.tree.other, sL eST r16.1.tree.kids]])], N := [106] } (by kernel_rfl) (W.vecEq 106 (nn := true) (e := 87) (k := 5) (rows := [[V.i r2.1.tree.kind, V.i r2.1.tree.op, V.s r2.1.tree.text, V.s r2.1.tree.other, sL eST r2.1.tree.kids], [V.i r16.1.tree.kind, V.i r16.1.tree.op, V.s r16.1.tree.text, V.s r16.1.tree.other, sL eST r16.1.tree.kids]]) (rows' := [r2.1.tree, r16.1.tree].map eST) (by kernel_rfl) (by simp only [List.map_cons, List.map_nil, encSTree_eq]) (wR 3 107 ?_)))
  exact fI
  ) ?_
 refine CO.lay (tl 47 [(4, .loc 101 0)]) [(101, .cells 110 [V.i 15, V.i r14, V.s [], V.s [], .sl false false ([r2.1.tree, r16.1.tree].map eST), V.b false]), (104, vN r16.2.2.2), (0, cP 108 pa r16.2.1 r16.2.2.1 104)] (LayOk.cons (j := 106) eST eST ([r2.1.tree, r16.1.tree] : LS) (by kernel_rfl) (share_encSTree) lO) (by kernel_rfl) (by kernel_rfl) (by kernel_rfl) (CO.ret ?_)
 have h := sI h
 subst h
 exact eG [(0, 0), (104, 100)] (.inr rfl) (RetV.one rfl (OneR.cell Dk (r := .agg [V.i 15, V.i r14, V.s [], V.s [], .sl false false ([r2.1.tree, r16.1.tree].map eST), V.b false]) (i := 101) (ety := 110) (cs := [V.i 15, V.i r14, V.s [], V.s [], .sl false false ([r2.1.tree, r16.1.tree].map eST), V.b false]) (by kernel_rfl) (by kernel_rfl) (by kernel_rfl)))

theorem scc1_ok : ∀ N, RecOk1 (scc1 N)
 | 0 => ⟨fun _ _ _ _ _ h => (by cases h), fun _ _ _ _ _ h => (by cases h), fun _ _ _ _ _ h => (by cases h), fun _ _ _ _ _ h => (by cases h), fun _ _ _ _ _ h => (by cases h), fun _ _ _ _ _ h => (by cases h), fun _ _ _ _ _ _ h => (by cases h), fun _ _ _ _ _ _ h => (by cases h), fun _ _ _ _ _ _ h => (by cases h), fun _ _ _ _ _ _ h => (by cases h), fun _ _ _ _ _ _ h => (by cases h), fun _ _ _ _ _ _ h => (by cases h), fun _ _ _ _ _ _ h => (by cases h), fun _ _ _ _ _ _ h => (by cases h), fun _ _ _ _ _ _ h => (by cases h), fun _ _ _ _ _ _ h => (by cases h), fun _ _ _ _ _ _ h => (by cases h), fun _ _ _ _ _ _ h => (by cases h), fun _ _ _ _ _ _ h => (by cases h), fun _ _ _ _ _ _ h => (by cases h)⟩
 | N + 1 => ⟨fun pa pb pc p1 _ h => mp_variable_F_ok N (scc1 N) (scc1_ok N) pa pb pc p1 h, fun pa pb pc p1 _ h => mp_primary_F_ok N (scc1 N) (scc1_ok N) pa pb pc p1 h, fun pa pb pc p1 _ h => mp_field_F_ok N (scc1 N) (scc1_ok N) pa pb pc p1 h, fun pa pb pc p1 _ h => mp_lvalue_F_ok N (scc1 N) (scc1_ok N) pa pb pc p1 h, fun pa pb pc p1 _ h => mp_before_F_ok N (scc1 N) (scc1_ok N) pa pb pc p1 h, fun pa pb pc p1 _ h => mp_incr_F_ok N (scc1 N) (scc1_ok N) pa pb pc p1 h, fun a1 pa pb pc p1 _ h => mp_pow_F_ok N (scc1 N) (scc1_ok N) a1 pa pb pc p1 h, fun a1 pa pb pc p1 _ h => mp_unary_F_ok N (scc1 N) (scc1_ok N) a1 pa pb pc p1 h, fun a1 pa pb pc p1 _ h => mp_mul_F_ok N (scc1 N) (scc1_ok N) a1 pa pb pc p1 h, fun a1 pa pb pc p1 _ h => mp_add_F_ok N (scc1 N) (scc1_ok N) a1 pa pb pc p1 h, fun a1 pa pb pc p1 _ h => mp_cat_F_ok N (scc1 N) (scc1_ok N) a1 pa pb pc p1 h, fun a1 pa pb pc p1 _ h => mp_compare_F_ok N (scc1 N) (scc1_ok N) a1 pa pb pc p1 h, fun a1 pa pb pc p1 _ h => mp_match_F_ok N (scc1 N) (scc1_ok N) a1 pa pb pc p1 h, fun a1 pa pb pc p1 _ h => mp_items_F_ok N (scc1 N) (scc1_ok N) a1 pa pb pc p1 h, fun a1 pa pb pc p1 _ h => mp_list_F_ok N (scc1 N) (scc1_ok N) a1 pa pb pc p1 h, fun a1 pa pb pc p1 _ h => mp_in_F_ok N (scc1 N) (scc1_ok N) a1 pa pb pc p1 h, fun a1 pa pb pc p1 _ h => mp_and_F_ok N (scc1 N) (scc1_ok N) a1 pa pb pc p1 h, fun a1 pa pb pc p1 _ h => mp_or_F_ok N (scc1 N) (scc1_ok N) a1 pa pb pc p1 h, fun a1 pa pb pc p1 _ h => mp_cond_F_ok N (scc1 N) (scc1_ok N) a1 pa pb pc p1 h, fun a1 pa pb pc p1 _ h => mp_assign_F_ok N (scc1 N) (scc1_ok N) a1 pa pb pc p1 h⟩

theorem mp_primary_ok (N : Nat) (pa : LT) (pb : Int) (pc : Bool) (p1 : LLU) {r : T1} (h : mp_primary N pa pb pc p1 = some r) :
  AC0 152 [.loc 0 0] [(0, cP 108 pa pb pc 1), (1, vN p1)] (.agg (aP r.1)) [(0, cP 108 pa r.2.1 r.2.2.1 100), (100, vN r.2.2.2)] :=
 (scc1_ok N).mp_primary pa pb pc p1 r h
theorem mp_field_ok (N : Nat) (pa : LT) (pb : Int) (pc : Bool) (p1 : LLU) {r : T1} (h : mp_field N pa pb pc p1 = some r) :
  AC0 151 [.loc 0 0] [(0, cP 108 pa pb pc 1), (1, vN p1)] (.agg (aP r.1)) [(0, cP 108 pa r.2.1 r.2.2.1 100), (100, vN r.2.2.2)] :=
 (scc1_ok N).mp_field pa pb pc p1 r h
theorem mp_before_ok (N : Nat) (pa : LT) (pb : Int) (pc : Bool) (p1 : LLU) {r : T1} (h : mp_before N pa pb pc p1 = some r) :
  AC0 150 [.loc 0 0] [(0, cP 108 pa pb pc 1), (1, vN p1)] (.agg (aP r.1)) [(0, cP 108 pa r.2.1 r.2.2.1 100), (100, vN r.2.2.2)] :=
 (scc1_ok N).mp_before pa pb pc p1 r h
theorem mp_incr_ok (N : Nat) (pa : LT) (pb : Int) (pc : Bool) (p1 : LLU) {r : T1} (h : mp_incr N pa pb pc p1 = some r) :
  AC0 148 [.loc 0 0] [(0, cP 108 pa pb pc 1), (1, vN p1)] (.agg (aP r.1)) [(0, cP 108 pa r.2.1 r.2.2.1 100), (100, vN r.2.2.2)] :=
 (scc1_ok N).mp_incr pa pb pc p1 r h
theorem mp_pow_ok (N : Nat) (a1 : SRules) (pa : LT) (pb : Int) (pc : Bool) (p1 : LLU) {r : T1} (h : mp_pow N a1 pa pb pc p1 = some r) :
  AC0 147 [.loc 0 0, .agg [V.b a1.noIn, V.b a1.noGt]] [(0, cP 108 pa pb pc 1), (1, vN p1)] (.agg (aP r.1)) [(0, cP 108 pa r.2.1 r.2.2.1 100), (100, vN r.2.2.2)] :=
 (scc1_ok N).mp_pow a1 pa pb pc p1 r h
theorem mp_unary_ok (N : Nat) (a1 : SRules) (pa : LT) (pb : Int) (pc : Bool) (p1 : LLU) {r : T1} (h : mp_unary N a1 pa pb pc p1 = some r) :
  AC0 146 [.loc 0 0, .agg [V.b a1.noIn, V.b a1.noGt]] [(0, cP 108 pa pb pc 1), (1, vN p1)] (.agg (aP r.1)) [(0, cP 108 pa r.2.1 r.2.2.1 100), (100, vN r.2.2.2)] :=
 (scc1_ok N).mp_unary a1 pa pb pc p1 r h
theorem mp_mul_ok (N : Nat) (a1 : SRules) (pa : LT) (pb : Int) (pc : Bool) (p1 : LLU) {r : T1} (h : mp_mul N a1 pa pb pc p1 = some r) :
  AC0 145 [.loc 0 0, .agg [V.b a1.noIn, V.b a1.noGt]] [(0, cP 108 pa pb pc 1), (1, vN p1)] (.agg (aP r.1)) [(0, cP 108 pa r.2.1 r.2.2.1 100), (100, vN r.2.2.2)] :=
 (scc1_ok N).mp_mul a1 pa pb pc p1 r h
theorem mp_add_ok (N : Nat) (a1 : SRules) (pa : LT) (pb : Int) (pc : Bool) (p1 : LLU) {r : T1} (h : mp_add N a1 pa pb pc p1 = some r) :
  AC0 144 [.loc 0 0, .agg [V.b a1.noIn, V.b a1.noGt]] [(0, cP 108 pa pb pc 1), (1, vN p1)] (.agg (aP r.1)) [(0, cP 108 pa r.2.1 r.2.2.1 100), (100, vN r.2.2.2)] :=
 (scc1_ok N).mp_add a1 pa pb pc p1 r h
theorem mp_cat_ok (N : Nat) (a1 : SRules) (pa : LT) (pb : Int) (pc : Bool) (p1 : LLU) {r : T1} (h : mp_cat N a1 pa pb pc p1 = some r) :
  AC0 143 [.loc 0 0, .agg [V.b a1.noIn, V.b a1.noGt]] [(0, cP 108 pa pb pc 1), (1, vN p1)] (.agg (aP r.1)) [(0, cP 108 pa r.2.1 r.2.2.1 100), (100, vN r.2.2.2)] :=
 (scc1_ok N).mp_cat a1 pa pb pc p1 r h
theorem mp_compare_ok (N : Nat) (a1 : SRules) (pa : LT) (pb : Int) (pc : Bool) (p1 : LLU) {r : T1} (h : mp_compare N a1 pa pb pc p1 = some r) :
  AC0 142 [.loc 0 0, .agg [V.b a1.noIn, V.b a1.noGt]] [(0, cP 108 pa pb pc 1), (1, vN p1)] (.agg (aP r.1)) [(0, cP 108 pa r.2.1 r.2.2.1 100), (100, vN r.2.2.2)] :=
 (scc1_ok N).mp_compare a1 pa pb pc p1 r h
theorem mp_match_ok (N : Nat) (a1 : SRules) (pa : LT) (pb : Int) (pc : Bool) (p1 : LLU) {r : T1} (h : mp_match N a1 pa pb pc p1 = some r) :
  AC0 141 [.loc 0 0, .agg [V.b a1.noIn, V.b a1.noGt]] [(0, cP 108 pa pb pc 1), (1, vN p1)] (.agg (aP r.1)) [(0, cP 108 pa r.2.1 r.2.2.1 100), (100, vN r.2.2.2)] :=
 (scc1_ok N).mp_match a1 pa pb pc p1 r h
theorem mp_in_ok (N : Nat) (a1 : SRules) (pa : LT) (pb : Int) (pc : Bool) (p1 : LLU) {r : T1} (h : mp_in N a1 pa pb pc p1 = some r) :
  AC0 140 [.loc 0 0, .agg [V.b a1.noIn, V.b a1.noGt]] [(0, cP 108 pa pb pc 1), (1, vN p1)] (.agg (aP r.1)) [(0, cP 108 pa r.2.1 r.2.2.1 100), (100, vN r.2.2.2)] :=
 (scc1_ok N).mp_in a1 pa pb pc p1 r h
theorem mp_and_ok (N : Nat) (a1 : SRules) (pa : LT) (pb : Int) (pc : Bool) (p1 : LLU) {r : T1} (h : mp_and N a1 pa pb pc p1 = some r) :
  AC0 139 [.loc 0 0, .agg [V.b a1.noIn, V.b a1.noGt]] [(0, cP 108 pa pb pc 1), (1, vN p1)] (.agg (aP r.1)) [(0, cP 108 pa r.2.1 r.2.2.1 100), (100, vN r.2.2.2)] :=
 (scc1_ok N).mp_and a1 pa pb pc p1 r h
theorem mp_or_ok (N : Nat) (a1 : SRules) (pa : LT) (pb : Int) (pc : Bool) (p1 : LLU) {r : T1} (h : mp_or N a1 pa pb pc p1 = some r) :
  AC0 138 [.loc 0 0, .agg [V.b a1.noIn, V.b a1.noGt]] [(0, cP 108 pa pb pc 1), (1, vN p1)] (.agg (aP r.1)) [(0, cP 108 pa r.2.1 r.2.2.1 100), (100, vN r.2.2.2)] :=
 (scc1_ok N).mp_or a1 pa pb pc p1 r h
theorem mp_cond_ok (N : Nat) (a1 : SRules) (pa : LT) (pb : Int) (pc : Bool) (p1 : LLU) {r : T1} (h : mp_cond N a1 pa pb pc p1 = some r) :
  AC0 137 [.loc 0 0, .agg [V.b a1.noIn, V.b a1.noGt]] [(0, cP 108 pa pb pc 1), (1, vN p1)] (.agg (aP r.1)) [(0, cP 108 pa r.2.1 r.2.2.1 100), (100, vN r.2.2.2)] :=
 (scc1_ok N).mp_cond a1 pa pb pc p1 r h
theorem mp_assign_ok (N : Nat) (a1 : SRules) (pa : LT) (pb : Int) (pc : Bool) (p1 : LLU) {r : T1} (h : mp_assign N a1 pa pb pc p1 = some r) :
  AC0 136 [.loc 0 0, .agg [V.b a1.noIn, V.b a1.noGt]] [(0, cP 108 pa pb pc 1), (1, vN p1)] (.agg (aP r.1)) [(0, cP 108 pa r.2.1 r.2.2.1 100), (100, vN r.2.2.2)] :=
 (scc1_ok N).mp_assign a1 pa pb pc p1 r h

end Go.Proofs.Tryz

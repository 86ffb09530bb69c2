/-
  The walks that show that the code computes the models, part 3.
-/
import Derived.Test.YtllanibkffnogaaDoorLeW2
namespace Go.Proofs.Tryd
open Go.Av
set_option maxRecDepth 100000
set_option maxHeartbeats 8000000
set_option linter.unusedSimpArgs false
set_option linter.unusedVariables false

structure RecOk1 (R : Rec1) : Prop where
  m_impl_parser__variable : ∀ (p0_0 : List SToken) (p0_1 : Int) (p0_2 : Bool) (p1 : List (List UInt8)) (r : (SPart × Int × Bool × (List (List UInt8)))), R.m_impl_parser__variable p0_0 p0_1 p0_2 p1 = some r → AC Tryd.prog (GS []) 153 [.loc 0 0] [(0, .cells 108 [.sl false false (p0_0.map encSToken), V.int p0_1, V.bool p0_2, .own 1]), (1, .vec false 9 1 (p1.map encS))] (.agg [V.int r.1.tree.kind, V.int r.1.tree.op, V.str r.1.tree.text, V.str r.1.tree.other, .sl false false (r.1.tree.kids.map encSTree), V.bool r.1.target]) [(0, .cells 108 [.sl false false (p0_0.map encSToken), V.int r.2.1, V.bool r.2.2.1, .own 100]), (100, .vec false 9 1 (r.2.2.2.map encS))]
  m_impl_parser__primary : ∀ (p0_0 : List SToken) (p0_1 : Int) (p0_2 : Bool) (p1 : List (List UInt8)) (r : (SPart × Int × Bool × (List (List UInt8)))), R.m_impl_parser__primary p0_0 p0_1 p0_2 p1 = some r → AC Tryd.prog (GS []) 114 [.loc 0 0] [(0, .cells 108 [.sl false false (p0_0.map encSToken), V.int p0_1, V.bool p0_2, .own 1]), (1, .vec false 9 1 (p1.map encS))] (.agg [V.int r.1.tree.kind, V.int r.1.tree.op, V.str r.1.tree.text, V.str r.1.tree.other, .sl false false (r.1.tree.kids.map encSTree), V.bool r.1.target]) [(0, .cells 108 [.sl false false (p0_0.map encSToken), V.int r.2.1, V.bool r.2.2.1, .own 100]), (100, .vec false 9 1 (r.2.2.2.map encS))]
  m_impl_parser__field : ∀ (p0_0 : List SToken) (p0_1 : Int) (p0_2 : Bool) (p1 : List (List UInt8)) (r : (SPart × Int × Bool × (List (List UInt8)))), R.m_impl_parser__field p0_0 p0_1 p0_2 p1 = some r → AC Tryd.prog (GS []) 113 [.loc 0 0] [(0, .cells 108 [.sl false false (p0_0.map encSToken), V.int p0_1, V.bool p0_2, .own 1]), (1, .vec false 9 1 (p1.map encS))] (.agg [V.int r.1.tree.kind, V.int r.1.tree.op, V.str r.1.tree.text, V.str r.1.tree.other, .sl false false (r.1.tree.kids.map encSTree), V.bool r.1.target]) [(0, .cells 108 [.sl false false (p0_0.map encSToken), V.int r.2.1, V.bool r.2.2.1, .own 100]), (100, .vec false 9 1 (r.2.2.2.map encS))]
  m_impl_parser__lvalue : ∀ (p0_0 : List SToken) (p0_1 : Int) (p0_2 : Bool) (p1 : List (List UInt8)) (r : (SPart × Int × Bool × (List (List UInt8)))), R.m_impl_parser__lvalue p0_0 p0_1 p0_2 p1 = some r → AC Tryd.prog (GS []) 151 [.loc 0 0] [(0, .cells 108 [.sl false false (p0_0.map encSToken), V.int p0_1, V.bool p0_2, .own 1]), (1, .vec false 9 1 (p1.map encS))] (.agg [V.int r.1.tree.kind, V.int r.1.tree.op, V.str r.1.tree.text, V.str r.1.tree.other, .sl false false (r.1.tree.kids.map encSTree), V.bool r.1.target]) [(0, .cells 108 [.sl false false (p0_0.map encSToken), V.int r.2.1, V.bool r.2.2.1, .own 100]), (100, .vec false 9 1 (r.2.2.2.map encS))]
  m_impl_parser__before : ∀ (p0_0 : List SToken) (p0_1 : Int) (p0_2 : Bool) (p1 : List (List UInt8)) (r : (SPart × Int × Bool × (List (List UInt8)))), R.m_impl_parser__before p0_0 p0_1 p0_2 p1 = some r → AC Tryd.prog (GS []) 112 [.loc 0 0] [(0, .cells 108 [.sl false false (p0_0.map encSToken), V.int p0_1, V.bool p0_2, .own 1]), (1, .vec false 9 1 (p1.map encS))] (.agg [V.int r.1.tree.kind, V.int r.1.tree.op, V.str r.1.tree.text, V.str r.1.tree.other, .sl false false (r.1.tree.kids.map encSTree), V.bool r.1.target]) [(0, .cells 108 [.sl false false (p0_0.map encSToken), V.int r.2.1, V.bool r.2.2.1, .own 100]), (100, .vec false 9 1 (r.2.2.2.map encS))]
  m_impl_parser__incr : ∀ (p0_0 : List SToken) (p0_1 : Int) (p0_2 : Bool) (p1 : List (List UInt8)) (r : (SPart × Int × Bool × (List (List UInt8)))), R.m_impl_parser__incr p0_0 p0_1 p0_2 p1 = some r → AC Tryd.prog (GS []) 111 [.loc 0 0] [(0, .cells 108 [.sl false false (p0_0.map encSToken), V.int p0_1, V.bool p0_2, .own 1]), (1, .vec false 9 1 (p1.map encS))] (.agg [V.int r.1.tree.kind, V.int r.1.tree.op, V.str r.1.tree.text, V.str r.1.tree.other, .sl false false (r.1.tree.kids.map encSTree), V.bool r.1.target]) [(0, .cells 108 [.sl false false (p0_0.map encSToken), V.int r.2.1, V.bool r.2.2.1, .own 100]), (100, .vec false 9 1 (r.2.2.2.map encS))]
  m_impl_parser__pow : ∀ (a1 : SRules) (p0_0 : List SToken) (p0_1 : Int) (p0_2 : Bool) (p1 : List (List UInt8)) (r : (SPart × Int × Bool × (List (List UInt8)))), R.m_impl_parser__pow a1 p0_0 p0_1 p0_2 p1 = some r → AC Tryd.prog (GS []) 110 [.loc 0 0, .agg [V.bool a1.noIn, V.bool a1.noGt]] [(0, .cells 108 [.sl false false (p0_0.map encSToken), V.int p0_1, V.bool p0_2, .own 1]), (1, .vec false 9 1 (p1.map encS))] (.agg [V.int r.1.tree.kind, V.int r.1.tree.op, V.str r.1.tree.text, V.str r.1.tree.other, .sl false false (r.1.tree.kids.map encSTree), V.bool r.1.target]) [(0, .cells 108 [.sl false false (p0_0.map encSToken), V.int r.2.1, V.bool r.2.2.1, .own 100]), (100, .vec false 9 1 (r.2.2.2.map encS))]
  m_impl_parser__unary : ∀ (a1 : SRules) (p0_0 : List SToken) (p0_1 : Int) (p0_2 : Bool) (p1 : List (List UInt8)) (r : (SPart × Int × Bool × (List (List UInt8)))), R.m_impl_parser__unary a1 p0_0 p0_1 p0_2 p1 = some r → AC Tryd.prog (GS []) 109 [.loc 0 0, .agg [V.bool a1.noIn, V.bool a1.noGt]] [(0, .cells 108 [.sl false false (p0_0.map encSToken), V.int p0_1, V.bool p0_2, .own 1]), (1, .vec false 9 1 (p1.map encS))] (.agg [V.int r.1.tree.kind, V.int r.1.tree.op, V.str r.1.tree.text, V.str r.1.tree.other, .sl false false (r.1.tree.kids.map encSTree), V.bool r.1.target]) [(0, .cells 108 [.sl false false (p0_0.map encSToken), V.int r.2.1, V.bool r.2.2.1, .own 100]), (100, .vec false 9 1 (r.2.2.2.map encS))]
  m_impl_parser__mul : ∀ (a1 : SRules) (p0_0 : List SToken) (p0_1 : Int) (p0_2 : Bool) (p1 : List (List UInt8)) (r : (SPart × Int × Bool × (List (List UInt8)))), R.m_impl_parser__mul a1 p0_0 p0_1 p0_2 p1 = some r → AC Tryd.prog (GS []) 108 [.loc 0 0, .agg [V.bool a1.noIn, V.bool a1.noGt]] [(0, .cells 108 [.sl false false (p0_0.map encSToken), V.int p0_1, V.bool p0_2, .own 1]), (1, .vec false 9 1 (p1.map encS))] (.agg [V.int r.1.tree.kind, V.int r.1.tree.op, V.str r.1.tree.text, V.str r.1.tree.other, .sl false false (r.1.tree.kids.map encSTree), V.bool r.1.target]) [(0, .cells 108 [.sl false false (p0_0.map encSToken), V.int r.2.1, V.bool r.2.2.1, .own 100]), (100, .vec false 9 1 (r.2.2.2.map encS))]
  m_impl_parser__add : ∀ (a1 : SRules) (p0_0 : List SToken) (p0_1 : Int) (p0_2 : Bool) (p1 : List (List UInt8)) (r : (SPart × Int × Bool × (List (List UInt8)))), R.m_impl_parser__add a1 p0_0 p0_1 p0_2 p1 = some r → AC Tryd.prog (GS []) 107 [.loc 0 0, .agg [V.bool a1.noIn, V.bool a1.noGt]] [(0, .cells 108 [.sl false false (p0_0.map encSToken), V.int p0_1, V.bool p0_2, .own 1]), (1, .vec false 9 1 (p1.map encS))] (.agg [V.int r.1.tree.kind, V.int r.1.tree.op, V.str r.1.tree.text, V.str r.1.tree.other, .sl false false (r.1.tree.kids.map encSTree), V.bool r.1.target]) [(0, .cells 108 [.sl false false (p0_0.map encSToken), V.int r.2.1, V.bool r.2.2.1, .own 100]), (100, .vec false 9 1 (r.2.2.2.map encS))]
  m_impl_parser__cat : ∀ (a1 : SRules) (p0_0 : List SToken) (p0_1 : Int) (p0_2 : Bool) (p1 : List (List UInt8)) (r : (SPart × Int × Bool × (List (List UInt8)))), R.m_impl_parser__cat a1 p0_0 p0_1 p0_2 p1 = some r → AC Tryd.prog (GS []) 106 [.loc 0 0, .agg [V.bool a1.noIn, V.bool a1.noGt]] [(0, .cells 108 [.sl false false (p0_0.map encSToken), V.int p0_1, V.bool p0_2, .own 1]), (1, .vec false 9 1 (p1.map encS))] (.agg [V.int r.1.tree.kind, V.int r.1.tree.op, V.str r.1.tree.text, V.str r.1.tree.other, .sl false false (r.1.tree.kids.map encSTree), V.bool r.1.target]) [(0, .cells 108 [.sl false false (p0_0.map encSToken), V.int r.2.1, V.bool r.2.2.1, .own 100]), (100, .vec false 9 1 (r.2.2.2.map encS))]
  m_impl_parser__compare : ∀ (a1 : SRules) (p0_0 : List SToken) (p0_1 : Int) (p0_2 : Bool) (p1 : List (List UInt8)) (r : (SPart × Int × Bool × (List (List UInt8)))), R.m_impl_parser__compare a1 p0_0 p0_1 p0_2 p1 = some r → AC Tryd.prog (GS []) 105 [.loc 0 0, .agg [V.bool a1.noIn, V.bool a1.noGt]] [(0, .cells 108 [.sl false false (p0_0.map encSToken), V.int p0_1, V.bool p0_2, .own 1]), (1, .vec false 9 1 (p1.map encS))] (.agg [V.int r.1.tree.kind, V.int r.1.tree.op, V.str r.1.tree.text, V.str r.1.tree.other, .sl false false (r.1.tree.kids.map encSTree), V.bool r.1.target]) [(0, .cells 108 [.sl false false (p0_0.map encSToken), V.int r.2.1, V.bool r.2.2.1, .own 100]), (100, .vec false 9 1 (r.2.2.2.map encS))]
  m_impl_parser__match : ∀ (a1 : SRules) (p0_0 : List SToken) (p0_1 : Int) (p0_2 : Bool) (p1 : List (List UInt8)) (r : (SPart × Int × Bool × (List (List UInt8)))), R.m_impl_parser__match a1 p0_0 p0_1 p0_2 p1 = some r → AC Tryd.prog (GS []) 104 [.loc 0 0, .agg [V.bool a1.noIn, V.bool a1.noGt]] [(0, .cells 108 [.sl false false (p0_0.map encSToken), V.int p0_1, V.bool p0_2, .own 1]), (1, .vec false 9 1 (p1.map encS))] (.agg [V.int r.1.tree.kind, V.int r.1.tree.op, V.str r.1.tree.text, V.str r.1.tree.other, .sl false false (r.1.tree.kids.map encSTree), V.bool r.1.target]) [(0, .cells 108 [.sl false false (p0_0.map encSToken), V.int r.2.1, V.bool r.2.2.1, .own 100]), (100, .vec false 9 1 (r.2.2.2.map encS))]
  m_impl_parser__items : ∀ (a1 : SRules) (p0_0 : List SToken) (p0_1 : Int) (p0_2 : Bool) (p1 : List (List UInt8)) (r : ((List STree) × Int × Bool × (List (List UInt8)))), R.m_impl_parser__items a1 p0_0 p0_1 p0_2 p1 = some r → AC Tryd.prog (GS []) 171 [.loc 0 0, .agg [V.bool a1.noIn, V.bool a1.noGt]] [(0, .cells 108 [.sl false false (p0_0.map encSToken), V.int p0_1, V.bool p0_2, .own 1]), (1, .vec false 9 1 (p1.map encS))] (.own 100) [(0, .cells 108 [.sl false false (p0_0.map encSToken), V.int r.2.1, V.bool r.2.2.1, .own 101]), (100, .vec false 111 5 (r.1.map encSTree)), (101, .vec false 9 1 (r.2.2.2.map encS))]
  m_impl_parser__list : ∀ (a1 : Int) (p0_0 : List SToken) (p0_1 : Int) (p0_2 : Bool) (p1 : List (List UInt8)) (r : ((List STree) × Int × Bool × (List (List UInt8)))), R.m_impl_parser__list a1 p0_0 p0_1 p0_2 p1 = some r → AC Tryd.prog (GS []) 149 [.loc 0 0, V.int a1] [(0, .cells 108 [.sl false false (p0_0.map encSToken), V.int p0_1, V.bool p0_2, .own 1]), (1, .vec false 9 1 (p1.map encS))] (.own 100) [(0, .cells 108 [.sl false false (p0_0.map encSToken), V.int r.2.1, V.bool r.2.2.1, .own 101]), (100, .vec false 111 5 (r.1.map encSTree)), (101, .vec false 9 1 (r.2.2.2.map encS))]
  m_impl_parser__in : ∀ (a1 : SRules) (p0_0 : List SToken) (p0_1 : Int) (p0_2 : Bool) (p1 : List (List UInt8)) (r : (SPart × Int × Bool × (List (List UInt8)))), R.m_impl_parser__in a1 p0_0 p0_1 p0_2 p1 = some r → AC Tryd.prog (GS []) 103 [.loc 0 0, .agg [V.bool a1.noIn, V.bool a1.noGt]] [(0, .cells 108 [.sl false false (p0_0.map encSToken), V.int p0_1, V.bool p0_2, .own 1]), (1, .vec false 9 1 (p1.map encS))] (.agg [V.int r.1.tree.kind, V.int r.1.tree.op, V.str r.1.tree.text, V.str r.1.tree.other, .sl false false (r.1.tree.kids.map encSTree), V.bool r.1.target]) [(0, .cells 108 [.sl false false (p0_0.map encSToken), V.int r.2.1, V.bool r.2.2.1, .own 100]), (100, .vec false 9 1 (r.2.2.2.map encS))]
  m_impl_parser__and : ∀ (a1 : SRules) (p0_0 : List SToken) (p0_1 : Int) (p0_2 : Bool) (p1 : List (List UInt8)) (r : (SPart × Int × Bool × (List (List UInt8)))), R.m_impl_parser__and a1 p0_0 p0_1 p0_2 p1 = some r → AC Tryd.prog (GS []) 102 [.loc 0 0, .agg [V.bool a1.noIn, V.bool a1.noGt]] [(0, .cells 108 [.sl false false (p0_0.map encSToken), V.int p0_1, V.bool p0_2, .own 1]), (1, .vec false 9 1 (p1.map encS))] (.agg [V.int r.1.tree.kind, V.int r.1.tree.op, V.str r.1.tree.text, V.str r.1.tree.other, .sl false false (r.1.tree.kids.map encSTree), V.bool r.1.target]) [(0, .cells 108 [.sl false false (p0_0.map encSToken), V.int r.2.1, V.bool r.2.2.1, .own 100]), (100, .vec false 9 1 (r.2.2.2.map encS))]
  m_impl_parser__or : ∀ (a1 : SRules) (p0_0 : List SToken) (p0_1 : Int) (p0_2 : Bool) (p1 : List (List UInt8)) (r : (SPart × Int × Bool × (List (List UInt8)))), R.m_impl_parser__or a1 p0_0 p0_1 p0_2 p1 = some r → AC Tryd.prog (GS []) 101 [.loc 0 0, .agg [V.bool a1.noIn, V.bool a1.noGt]] [(0, .cells 108 [.sl false false (p0_0.map encSToken), V.int p0_1, V.bool p0_2, .own 1]), (1, .vec false 9 1 (p1.map encS))] (.agg [V.int r.1.tree.kind, V.int r.1.tree.op, V.str r.1.tree.text, V.str r.1.tree.other, .sl false false (r.1.tree.kids.map encSTree), V.bool r.1.target]) [(0, .cells 108 [.sl false false (p0_0.map encSToken), V.int r.2.1, V.bool r.2.2.1, .own 100]), (100, .vec false 9 1 (r.2.2.2.map encS))]
  m_impl_parser__cond : ∀ (a1 : SRules) (p0_0 : List SToken) (p0_1 : Int) (p0_2 : Bool) (p1 : List (List UInt8)) (r : (SPart × Int × Bool × (List (List UInt8)))), R.m_impl_parser__cond a1 p0_0 p0_1 p0_2 p1 = some r → AC Tryd.prog (GS []) 100 [.loc 0 0, .agg [V.bool a1.noIn, V.bool a1.noGt]] [(0, .cells 108 [.sl false false (p0_0.map encSToken), V.int p0_1, V.bool p0_2, .own 1]), (1, .vec false 9 1 (p1.map encS))] (.agg [V.int r.1.tree.kind, V.int r.1.tree.op, V.str r.1.tree.text, V.str r.1.tree.other, .sl false false (r.1.tree.kids.map encSTree), V.bool r.1.target]) [(0, .cells 108 [.sl false false (p0_0.map encSToken), V.int r.2.1, V.bool r.2.2.1, .own 100]), (100, .vec false 9 1 (r.2.2.2.map encS))]
  m_impl_parser__assign : ∀ (a1 : SRules) (p0_0 : List SToken) (p0_1 : Int) (p0_2 : Bool) (p1 : List (List UInt8)) (r : (SPart × Int × Bool × (List (List UInt8)))), R.m_impl_parser__assign a1 p0_0 p0_1 p0_2 p1 = some r → AC Tryd.prog (GS []) 99 [.loc 0 0, .agg [V.bool a1.noIn, V.bool a1.noGt]] [(0, .cells 108 [.sl false false (p0_0.map encSToken), V.int p0_1, V.bool p0_2, .own 1]), (1, .vec false 9 1 (p1.map encS))] (.agg [V.int r.1.tree.kind, V.int r.1.tree.op, V.str r.1.tree.text, V.str r.1.tree.other, .sl false false (r.1.tree.kids.map encSTree), V.bool r.1.target]) [(0, .cells 108 [.sl false false (p0_0.map encSToken), V.int r.2.1, V.bool r.2.2.1, .own 100]), (100, .vec false 9 1 (r.2.2.2.map encS))]

theorem m_impl_parser__variable_F_ok (N : Nat) (R : Rec1) (HR : RecOk1 R) (p0_0 : List SToken) (p0_1 : Int) (p0_2 : Bool) (p1 : List (List UInt8)) {r : (SPart × Int × Bool × (List (List UInt8)))} (h : m_impl_parser__variable_F N R p0_0 p0_1 p0_2 p1 = some r) :
    AC Tryd.prog (GS []) 153 [.loc 0 0] [(0, .cells 108 [.sl false false (p0_0.map encSToken), V.int p0_1, V.bool p0_2, .own 1]), (1, .vec false 9 1 (p1.map encS))] (.agg [V.int r.1.tree.kind, V.int r.1.tree.op, V.str r.1.tree.text, V.str r.1.tree.other, .sl false false (r.1.tree.kids.map encSTree), V.bool r.1.target]) [(0, .cells 108 [.sl false false (p0_0.map encSToken), V.int r.2.1, V.bool r.2.2.1, .own 100]), (100, .vec false 9 1 (r.2.2.2.map encS))] := by
 rw [m_impl_parser__variable_F] at h
 refine AC.enter Tryd.func153 rfl ?_
 refine cu D_ok mix 1 100 (tl 23 [(0, .loc 0 0), (2, .loc 100 0)]) [(100, .cells 113 [V.int 0, V.int 0, V.str [], V.str [], .c (.slice none 0 0), V.bool false]), (0, .cells 108 [.sl false false (p0_0.map encSToken), V.int p0_1, V.bool p0_2, .own 1]), (1, .vec false 9 1 (p1.map encS))] (by kernel_rfl) ?_
 (revert h; refine bind_rev fun r2 hx2 h => ?_)
 refine CodeOk.cutR (tl 23 [(0, .loc 0 0), (2, .loc 100 0), (3, .loc 101 0)]) [(101, .cells 111 [V.int 1, V.int 0, V.str r2.1, V.str [], .c (.slice none 0 0)]), (100, .cells 113 [V.int 0, V.int 0, V.str [], V.str [], .c (.slice none 0 0), V.bool false]), (0, .cells 108 [.sl false false (p0_0.map encSToken), V.int r2.2, V.bool p0_2, .own 1]), (1, .vec false 9 1 (p1.map encS))] mix (by
  refine W.run D_ok 1 101 (by kernel_rfl) ?_
  refine W.call (m_impl_parser__text_ok p0_0 p0_1 p0_2 p1 hx2) cok152 [(0, 0), (1, 1)] [(0, 0), (1, 1)] [] (show LayOk _ [] from trivial) (by kernel_rfl) (by kernel_rfl) ?_
  refine W.run D_ok 3 101 (by kernel_rfl) ?_
  exact W.fi (by kernel_rfl)
  ) ?_
 refine CodeOk.join (fun (⟨r2, y7, y8, y9, y10, y11⟩ : (((List UInt8) × Int) × Int × Int × Bool × (List STree) × (List (List UInt8)))) => ⟨tl 23 [(2, .loc 100 0), (3, .loc 101 0)], [(100, .cells 113 [V.int 0, V.int 0, V.str [], V.str [], .c (.slice none 0 0), V.bool false]), (101, .cells 111 [V.int y7, V.int 0, V.str r2.1, V.str [], .own 102]), (0, .cells 108 [.sl false false (p0_0.map encSToken), V.int y8, V.bool y9, .own 103]), (102, .vec false 111 5 (y10.map encSTree)), (103, .vec false 9 1 (y11.map encS))]⟩) (fun i => m_impl_parser__variable_k1 N R p0_0 i = some r) ?_ ?_
 · rintro ⟨r2, y7, y8, y9, y10, y11⟩ h8
   rw [m_impl_parser__variable_k1] at h8
   refine cu D_ok mix 3 104 (tl 23 [(2, .loc 100 0)]) [(100, .cells 113 [V.int y7, V.int 0, V.str r2.1, V.str [], .own 102, V.bool true]), (0, .cells 108 [.sl false false (p0_0.map encSToken), V.int y8, V.bool y9, .own 103]), (102, .vec false 111 5 (y10.map encSTree)), (103, .vec false 9 1 (y11.map encS))] (by kernel_rfl) ?_
   refine CodeOk.lay (tl 23 [(2, .loc 100 0)]) [(100, .cells 113 [V.int y7, V.int 0, V.str r2.1, V.str [], .sl false false (y10.map encSTree), V.bool true]), (0, .cells 108 [.sl false false (p0_0.map encSToken), V.int y8, V.bool y9, .own 103]), (103, .vec false 9 1 (y11.map encS))] (LayOk.cons (j := 102) encSTree encSTree y10 (by kernel_rfl) (share_encSTree) (show LayOk _ [] from trivial)) (by kernel_rfl) (by kernel_rfl) (by kernel_rfl) ?_
   refine CodeOk.ret ?_
   have h8 := Option.some.inj h8
   subst h8
   exact Ends.gen [(0, 0), (103, 100)] (.inr rfl) (RetV.one rfl (OneR.cell D_ok (r := .agg [V.int y7, V.int 0, V.str r2.1, V.str [], .sl false false (y10.map encSTree), V.bool true]) (i := 100) (ety := 113) (cs := [V.int y7, V.int 0, V.str r2.1, V.str [], .sl false false (y10.map encSTree), V.bool true]) (by kernel_rfl) (by kernel_rfl) (by kernel_rfl))) (by kernel_rfl) (by kernel_rfl) (by kernel_rfl)
 intro hk9
 (revert h; refine bind_rev fun r13 hx11 h => ?_)
 refine CodeOk.cutR (tl 23 [(0, .loc 0 0), (2, .loc 100 0), (3, .loc 101 0), (9, V.bool (r13 == 34))]) [(101, .cells 111 [V.int 1, V.int 0, V.str r2.1, V.str [], .c (.slice none 0 0)]), (100, .cells 113 [V.int 0, V.int 0, V.str [], V.str [], .c (.slice none 0 0), V.bool false]), (0, .cells 108 [.sl false false (p0_0.map encSToken), V.int r2.2, V.bool p0_2, .own 1]), (1, .vec false 9 1 (p1.map encS))] mix (by
  refine W.run D_ok 1 102 (by kernel_rfl) ?_
  refine W.call (m_impl_parser__kind_ok p0_0 r2.2 p0_2 p1 hx11) cok97 [(0, 0), (1, 1)] [(0, 0), (1, 1)] [] (show LayOk _ [] from trivial) (by kernel_rfl) (by kernel_rfl) ?_
  refine W.run D_ok 1 102 (by kernel_rfl) ?_
  exact W.fi (by kernel_rfl)
  ) ?_
 (revert h; refine cond_rev (fun hc12 h => ?_) (fun hc12 h => ?_))
 ·refine CodeOk.ifT hc12 (by kernel_rfl) ?_
  refine cu D_ok mix 8 102 (tl 23 [(0, .loc 0 0), (2, .loc 100 0), (3, .loc 101 0)]) [(0, .cells 108 [.sl false false (p0_0.map encSToken), V.int (IntKind.wrap .i64 (r2.2 + 1)), V.bool p0_2, .own 1]), (101, .cells 111 [V.int 1, V.int 0, V.str r2.1, V.str [], .c (.slice none 0 0)]), (100, .cells 113 [V.int 0, V.int 0, V.str [], V.str [], .c (.slice none 0 0), V.bool false]), (1, .vec false 9 1 (p1.map encS))] (by kernel_rfl) ?_
  (revert h; refine bind_rev fun r15 hx14 h => ?_)
  refine CodeOk.endR (tl 23 [(2, .loc 100 0), (3, .loc 101 0)]) [(101, .cells 111 [V.int 5, V.int 0, V.str r2.1, V.str [], .own 102]), (102, .vec false 111 5 (r15.1.map encSTree)), (103, .vec false 9 1 (r15.2.2.2.map encS)), (0, .cells 108 [.sl false false (p0_0.map encSToken), V.int r15.2.1, V.bool r15.2.2.1, .own 103]), (100, .cells 113 [V.int 0, V.int 0, V.str [], V.str [], .c (.slice none 0 0), V.bool false])] mix (by
   refine W.run D_ok 1 102 (by kernel_rfl) ?_
   refine W.call (HR.m_impl_parser__list 35 p0_0 (IntKind.wrap .i64 (r2.2 + 1)) p0_2 p1 _ hx14) cok149 [(0, 0), (1, 1)] [(0, 0), (100, 102), (101, 103)] [102, 103] (show LayOk _ [] from trivial) (by kernel_rfl) (by kernel_rfl) ?_
   refine W.run D_ok 4 104 (by kernel_rfl) ?_
   exact W.fi (by kernel_rfl)
   ) (fun st hw => ?_)
  exact hk9 (r2, 5, r15.2.1, r15.2.2.1, r15.1, r15.2.2.2) h _ (hw.trans (Weak.sel [(100, 100), (101, 101), (0, 0), (102, 102), (103, 103)] [2, 3] (by kernel_rfl) (by kernel_rfl) (by kernel_rfl)))
 refine CodeOk.ifF hc12 (by kernel_rfl) ?_
 refine CodeOk.skip ?_
 exact hk9 (r2, 1, r2.2, p0_2, [], p1) h _ ((Weak.nilCell 101 4 102 111 5 (ety := 111) (cs := [V.int 1, V.int 0, V.str r2.1, V.str [], .c (.slice none 0 0)]) (by kernel_rfl) (by kernel_rfl) (by kernel_rfl)).trans (Weak.sel [(100, 100), (101, 101), (0, 0), (102, 102), (1, 103)] [2, 3] (by kernel_rfl) (by kernel_rfl) (by kernel_rfl)))

theorem m_impl_parser__primary_F_ok (N : Nat) (R : Rec1) (HR : RecOk1 R) (p0_0 : List SToken) (p0_1 : Int) (p0_2 : Bool) (p1 : List (List UInt8)) {r : (SPart × Int × Bool × (List (List UInt8)))} (h : m_impl_parser__primary_F N R p0_0 p0_1 p0_2 p1 = some r) :
    AC Tryd.prog (GS []) 114 [.loc 0 0] [(0, .cells 108 [.sl false false (p0_0.map encSToken), V.int p0_1, V.bool p0_2, .own 1]), (1, .vec false 9 1 (p1.map encS))] (.agg [V.int r.1.tree.kind, V.int r.1.tree.op, V.str r.1.tree.text, V.str r.1.tree.other, .sl false false (r.1.tree.kids.map encSTree), V.bool r.1.target]) [(0, .cells 108 [.sl false false (p0_0.map encSToken), V.int r.2.1, V.bool r.2.2.1, .own 100]), (100, .vec false 9 1 (r.2.2.2.map encS))] := by
 rw [m_impl_parser__primary_F] at h
 refine AC.enter Tryd.func114 rfl ?_
 refine cu D_ok mix 1 100 (tl 81 [(0, .loc 0 0), (2, .loc 100 0)]) [(100, .cells 113 [V.int 0, V.int 0, V.str [], V.str [], .c (.slice none 0 0), V.bool false]), (0, .cells 108 [.sl false false (p0_0.map encSToken), V.int p0_1, V.bool p0_2, .own 1]), (1, .vec false 9 1 (p1.map encS))] (by kernel_rfl) ?_
 refine CodeOk.seq' ?_
 refine cu D_ok mix 4 101 (tl 81 [(0, .loc 0 0), (2, .loc 100 0), (9, V.bool p0_2)]) [(100, .cells 113 [V.int 0, V.int 0, V.str [], V.str [], .c (.slice none 0 0), V.bool false]), (0, .cells 108 [.sl false false (p0_0.map encSToken), V.int p0_1, V.bool p0_2, .own 1]), (1, .vec false 9 1 (p1.map encS))] (by kernel_rfl) ?_
 (revert h; refine cond_rev (fun hc2 h => ?_) (fun hc2 h => ?_))
 ·refine CodeOk.ifT hc2 (by kernel_rfl) ?_
  refine cu D_ok mix 2 101 (tl 81 [(2, .loc 100 0)]) [(100, .cells 113 [V.int 0, V.int 0, V.str [], V.str [], .c (.slice none 0 0), V.bool false]), (0, .cells 108 [.sl false false (p0_0.map encSToken), V.int p0_1, V.bool p0_2, .own 1]), (1, .vec false 9 1 (p1.map encS))] (by kernel_rfl) ?_
  refine CodeOk.lay (tl 81 [(2, .loc 100 0)]) [(100, .cells 113 [V.int 0, V.int 0, V.str [], V.str [], .sl false false ([].map encSTree), V.bool false]), (0, .cells 108 [.sl false false (p0_0.map encSToken), V.int p0_1, V.bool p0_2, .own 1]), (1, .vec false 9 1 (p1.map encS))] (show LayOk _ [] from trivial) (by kernel_rfl) (by kernel_rfl) (by kernel_rfl) ?_
  refine CodeOk.ret ?_
  have h := Option.some.inj h
  subst h
  exact Ends.gen [(0, 0), (1, 100)] (.inr rfl) (RetV.one rfl (OneR.cell D_ok (r := .agg [V.int 0, V.int 0, V.str [], V.str [], .sl false false ([].map encSTree), V.bool false]) (i := 100) (ety := 113) (cs := [V.int 0, V.int 0, V.str [], V.str [], .sl false false ([].map encSTree), V.bool false]) (by kernel_rfl) (by kernel_rfl) (by kernel_rfl))) (by kernel_rfl) (by kernel_rfl) (by kernel_rfl)
 refine CodeOk.ifF hc2 (by kernel_rfl) ?_
 refine CodeOk.skip ?_
 refine CodeOk.seq' ?_
 (revert h; refine bind_rev fun r38 hx58 h => ?_)
 refine CodeOk.cutR (tl 81 [(0, .loc 0 0), (2, .loc 100 0), (3, V.int r38)]) [(100, .cells 113 [V.int 0, V.int 0, V.str [], V.str [], .c (.slice none 0 0), V.bool false]), (0, .cells 108 [.sl false false (p0_0.map encSToken), V.int p0_1, V.bool p0_2, .own 1]), (1, .vec false 9 1 (p1.map encS))] mix (by
  refine W.run D_ok 1 101 (by kernel_rfl) ?_
  refine W.call (m_impl_parser__kind_ok p0_0 p0_1 p0_2 p1 hx58) cok97 [(0, 0), (1, 1)] [(0, 0), (1, 1)] [] (show LayOk _ [] from trivial) (by kernel_rfl) (by kernel_rfl) ?_
  refine W.run D_ok 1 101 (by kernel_rfl) ?_
  exact W.fi (by kernel_rfl)
  ) ?_
 refine cu D_ok mix 1 101 (tl 81 [(0, .loc 0 0), (2, .loc 100 0), (3, V.int r38), (13, V.int r38)]) [(100, .cells 113 [V.int 0, V.int 0, V.str [], V.str [], .c (.slice none 0 0), V.bool false]), (0, .cells 108 [.sl false false (p0_0.map encSToken), V.int p0_1, V.bool p0_2, .own 1]), (1, .vec false 9 1 (p1.map encS))] (by kernel_rfl) ?_
 refine CodeOk.block' ?_
 refine cu D_ok mix 2 101 (tl 81 [(0, .loc 0 0), (2, .loc 100 0), (3, V.int r38), (13, V.int r38), (14, V.bool (r38 == 3))]) [(100, .cells 113 [V.int 0, V.int 0, V.str [], V.str [], .c (.slice none 0 0), V.bool false]), (0, .cells 108 [.sl false false (p0_0.map encSToken), V.int p0_1, V.bool p0_2, .own 1]), (1, .vec false 9 1 (p1.map encS))] (by kernel_rfl) ?_
 (revert h; refine cond_rev (fun hc59 h => ?_) (fun hc59 h => ?_))
 ·refine CodeOk.ifT hc59 (by kernel_rfl) ?_
  (revert h; refine bind_rev fun r40 hx61 h => ?_)
  refine CodeOk.cutR (tl 81 [(2, .loc 100 0)]) [(100, .cells 113 [V.int 2, V.int 0, V.str r40.1, V.str [], .c (.slice none 0 0), V.bool false]), (0, .cells 108 [.sl false false (p0_0.map encSToken), V.int r40.2, V.bool p0_2, .own 1]), (1, .vec false 9 1 (p1.map encS))] mix (by
   refine W.run D_ok 1 101 (by kernel_rfl) ?_
   refine W.call (m_impl_parser__text_ok p0_0 p0_1 p0_2 p1 hx61) cok152 [(0, 0), (1, 1)] [(0, 0), (1, 1)] [] (show LayOk _ [] from trivial) (by kernel_rfl) (by kernel_rfl) ?_
   refine W.run D_ok 3 101 (by kernel_rfl) ?_
   exact W.fi (by kernel_rfl)
   ) ?_
  refine CodeOk.lay (tl 81 [(2, .loc 100 0)]) [(100, .cells 113 [V.int 2, V.int 0, V.str r40.1, V.str [], .sl false false ([].map encSTree), V.bool false]), (0, .cells 108 [.sl false false (p0_0.map encSToken), V.int r40.2, V.bool p0_2, .own 1]), (1, .vec false 9 1 (p1.map encS))] (show LayOk _ [] from trivial) (by kernel_rfl) (by kernel_rfl) (by kernel_rfl) ?_
  refine CodeOk.ret ?_
  have h := Option.some.inj h
  subst h
  exact Ends.gen [(0, 0), (1, 100)] (.inr rfl) (RetV.one rfl (OneR.cell D_ok (r := .agg [V.int 2, V.int 0, V.str r40.1, V.str [], .sl false false ([].map encSTree), V.bool false]) (i := 100) (ety := 113) (cs := [V.int 2, V.int 0, V.str r40.1, V.str [], .sl false false ([].map encSTree), V.bool false]) (by kernel_rfl) (by kernel_rfl) (by kernel_rfl))) (by kernel_rfl) (by kernel_rfl) (by kernel_rfl)
 refine CodeOk.ifF hc59 (by kernel_rfl) ?_
 refine cu D_ok mix 2 101 (tl 81 [(0, .loc 0 0), (2, .loc 100 0), (3, V.int r38), (13, V.int r38), (20, V.bool (r38 == 4))]) [(100, .cells 113 [V.int 0, V.int 0, V.str [], V.str [], .c (.slice none 0 0), V.bool false]), (0, .cells 108 [.sl false false (p0_0.map encSToken), V.int p0_1, V.bool p0_2, .own 1]), (1, .vec false 9 1 (p1.map encS))] (by kernel_rfl) ?_
 (revert h; refine cond_rev (fun hc62 h => ?_) (fun hc62 h => ?_))
 ·refine CodeOk.ifT hc62 (by kernel_rfl) ?_
  (revert h; refine bind_rev fun r42 hx64 h => ?_)
  refine CodeOk.cutR (tl 81 [(2, .loc 100 0)]) [(100, .cells 113 [V.int 3, V.int 0, V.str r42.1, V.str [], .c (.slice none 0 0), V.bool false]), (0, .cells 108 [.sl false false (p0_0.map encSToken), V.int r42.2, V.bool p0_2, .own 1]), (1, .vec false 9 1 (p1.map encS))] mix (by
   refine W.run D_ok 1 101 (by kernel_rfl) ?_
   refine W.call (m_impl_parser__text_ok p0_0 p0_1 p0_2 p1 hx64) cok152 [(0, 0), (1, 1)] [(0, 0), (1, 1)] [] (show LayOk _ [] from trivial) (by kernel_rfl) (by kernel_rfl) ?_
   refine W.run D_ok 3 101 (by kernel_rfl) ?_
   exact W.fi (by kernel_rfl)
   ) ?_
  refine CodeOk.lay (tl 81 [(2, .loc 100 0)]) [(100, .cells 113 [V.int 3, V.int 0, V.str r42.1, V.str [], .sl false false ([].map encSTree), V.bool false]), (0, .cells 108 [.sl false false (p0_0.map encSToken), V.int r42.2, V.bool p0_2, .own 1]), (1, .vec false 9 1 (p1.map encS))] (show LayOk _ [] from trivial) (by kernel_rfl) (by kernel_rfl) (by kernel_rfl) ?_
  refine CodeOk.ret ?_
  have h := Option.some.inj h
  subst h
  exact Ends.gen [(0, 0), (1, 100)] (.inr rfl) (RetV.one rfl (OneR.cell D_ok (r := .agg [V.int 3, V.int 0, V.str r42.1, V.str [], .sl false false ([].map encSTree), V.bool false]) (i := 100) (ety := 113) (cs := [V.int 3, V.int 0, V.str r42.1, V.str [], .sl false false ([].map encSTree), V.bool false]) (by kernel_rfl) (by kernel_rfl) (by kernel_rfl))) (by kernel_rfl) (by kernel_rfl) (by kernel_rfl)
 refine CodeOk.ifF hc62 (by kernel_rfl) ?_
 refine cu D_ok mix 2 101 (tl 81 [(0, .loc 0 0), (2, .loc 100 0), (3, V.int r38), (13, V.int r38), (26, V.bool (r38 == 5))]) [(100, .cells 113 [V.int 0, V.int 0, V.str [], V.str [], .c (.slice none 0 0), V.bool false]), (0, .cells 108 [.sl false false (p0_0.map encSToken), V.int p0_1, V.bool p0_2, .own 1]), (1, .vec false 9 1 (p1.map encS))] (by kernel_rfl) ?_
 (revert h; refine cond_rev (fun hc65 h => ?_) (fun hc65 h => ?_))
 ·refine CodeOk.ifT hc65 (by kernel_rfl) ?_
  (revert h; refine bind_rev fun r44 hx67 h => ?_)
  refine CodeOk.cutR (tl 81 [(2, .loc 100 0)]) [(100, .cells 113 [V.int 4, V.int 0, V.str r44.1, V.str [], .c (.slice none 0 0), V.bool false]), (0, .cells 108 [.sl false false (p0_0.map encSToken), V.int r44.2, V.bool p0_2, .own 1]), (1, .vec false 9 1 (p1.map encS))] mix (by
   refine W.run D_ok 1 101 (by kernel_rfl) ?_
   refine W.call (m_impl_parser__text_ok p0_0 p0_1 p0_2 p1 hx67) cok152 [(0, 0), (1, 1)] [(0, 0), (1, 1)] [] (show LayOk _ [] from trivial) (by kernel_rfl) (by kernel_rfl) ?_
   refine W.run D_ok 3 101 (by kernel_rfl) ?_
   exact W.fi (by kernel_rfl)
   ) ?_
  refine CodeOk.lay (tl 81 [(2, .loc 100 0)]) [(100, .cells 113 [V.int 4, V.int 0, V.str r44.1, V.str [], .sl false false ([].map encSTree), V.bool false]), (0, .cells 108 [.sl false false (p0_0.map encSToken), V.int r44.2, V.bool p0_2, .own 1]), (1, .vec false 9 1 (p1.map encS))] (show LayOk _ [] from trivial) (by kernel_rfl) (by kernel_rfl) (by kernel_rfl) ?_
  refine CodeOk.ret ?_
  have h := Option.some.inj h
  subst h
  exact Ends.gen [(0, 0), (1, 100)] (.inr rfl) (RetV.one rfl (OneR.cell D_ok (r := .agg [V.int 4, V.int 0, V.str r44.1, V.str [], .sl false false ([].map encSTree), V.bool false]) (i := 100) (ety := 113) (cs := [V.int 4, V.int 0, V.str r44.1, V.str [], .sl false false ([].map encSTree), V.bool false]) (by kernel_rfl) (by kernel_rfl) (by kernel_rfl))) (by kernel_rfl) (by kernel_rfl) (by kernel_rfl)
 refine CodeOk.ifF hc65 (by kernel_rfl) ?_
 refine cu D_ok mix 2 101 (tl 81 [(0, .loc 0 0), (2, .loc 100 0), (3, V.int r38), (13, V.int r38), (32, V.bool (r38 == 6))]) [(100, .cells 113 [V.int 0, V.int 0, V.str [], V.str [], .c (.slice none 0 0), V.bool false]), (0, .cells 108 [.sl false false (p0_0.map encSToken), V.int p0_1, V.bool p0_2, .own 1]), (1, .vec false 9 1 (p1.map encS))] (by kernel_rfl) ?_
 (revert h; refine cond_rev (fun hc68 h => ?_) (fun hc68 h => ?_))
 ·refine CodeOk.ifT hc68 (by kernel_rfl) ?_
  (revert h; refine bind_rev fun r46 hx70 h => ?_)
  refine CodeOk.cutR (tl 81 [(2, .loc 100 0)]) [(100, .cells 113 [V.int r46.1.tree.kind, V.int r46.1.tree.op, V.str r46.1.tree.text, V.str r46.1.tree.other, .sl false false (r46.1.tree.kids.map encSTree), V.bool r46.1.target]), (101, .vec false 9 1 (r46.2.2.2.map encS)), (0, .cells 108 [.sl false false (p0_0.map encSToken), V.int r46.2.1, V.bool r46.2.2.1, .own 101])] mix (by
   refine W.run D_ok 1 101 (by kernel_rfl) ?_
   refine W.call (HR.m_impl_parser__variable p0_0 p0_1 p0_2 p1 _ hx70) cok153 [(0, 0), (1, 1)] [(0, 0), (100, 101)] [101] (show LayOk _ [] from trivial) (by kernel_rfl) (by kernel_rfl) ?_
   refine W.run D_ok 1 102 (by kernel_rfl) ?_
   exact W.fi (by kernel_rfl)
   ) ?_
  refine CodeOk.ret ?_
  have h := Option.some.inj h
  subst h
  exact Ends.gen [(0, 0), (101, 100)] (.inr rfl) (RetV.one rfl (OneR.cell D_ok (r := .agg [V.int r46.1.tree.kind, V.int r46.1.tree.op, V.str r46.1.tree.text, V.str r46.1.tree.other, .sl false false (r46.1.tree.kids.map encSTree), V.bool r46.1.target]) (i := 100) (ety := 113) (cs := [V.int r46.1.tree.kind, V.int r46.1.tree.op, V.str r46.1.tree.text, V.str r46.1.tree.other, .sl false false (r46.1.tree.kids.map encSTree), V.bool r46.1.target]) (by kernel_rfl) (by kernel_rfl) (by kernel_rfl))) (by kernel_rfl) (by kernel_rfl) (by kernel_rfl)
 refine CodeOk.ifF hc68 (by kernel_rfl) ?_
 refine CodeOk.join (fun (⟨r38, p0_1, p0_2, p1, y47⟩ : (Int × Int × Bool × (List (List UInt8)) × Bool)) => ⟨tl 81 [(0, .loc 0 0), (2, .loc 100 0), (3, V.int r38), (13, V.int r38), (36, V.bool y47)], [(0, .cells 108 [.sl false false (p0_0.map encSToken), V.int p0_1, V.bool p0_2, .own 1]), (100, .cells 113 [V.int 0, V.int 0, V.str [], V.str [], .c (.slice none 0 0), V.bool false]), (1, .vec false 9 1 (p1.map encS))]⟩) (fun i => m_impl_parser__primary_k1 N R p0_0 i = some r) ?_ ?_
 · rintro ⟨r38, p0_1, p0_2, p1, y47⟩ h72
   rw [m_impl_parser__primary_k1] at h72
   (revert h72; refine cond_rev (fun hc73 h72 => ?_) (fun hc73 h72 => ?_))
   ·refine CodeOk.ifT hc73 (by kernel_rfl) ?_
    (revert h72; refine bind_rev fun r49 hx75 h72 => ?_)
    refine CodeOk.cutR (tl 81 [(0, .loc 0 0), (2, .loc 100 0), (3, V.int r38), (4, .loc 101 0)]) [(101, .cells 111 [V.int 7, V.int 0, V.str r49.1, V.str [], .c (.slice none 0 0)]), (0, .cells 108 [.sl false false (p0_0.map encSToken), V.int r49.2, V.bool p0_2, .own 1]), (100, .cells 113 [V.int 0, V.int 0, V.str [], V.str [], .c (.slice none 0 0), V.bool false]), (1, .vec false 9 1 (p1.map encS))] mix (by
     refine W.run D_ok 1 101 (by kernel_rfl) ?_
     refine W.call (m_impl_parser__text_ok p0_0 p0_1 p0_2 p1 hx75) cok152 [(0, 0), (1, 1)] [(0, 0), (1, 1)] [] (show LayOk _ [] from trivial) (by kernel_rfl) (by kernel_rfl) ?_
     refine W.run D_ok 3 101 (by kernel_rfl) ?_
     exact W.fi (by kernel_rfl)
     ) ?_
    refine CodeOk.join (fun (⟨r49, p0_2, p1, y53⟩ : (((List UInt8) × Int) × Bool × (List (List UInt8)) × Int)) => ⟨tl 81 [(0, .loc 0 0), (2, .loc 100 0), (4, .loc 101 0)], [(0, .cells 108 [.sl false false (p0_0.map encSToken), V.int r49.2, V.bool p0_2, .own 1]), (100, .cells 113 [V.int 0, V.int 0, V.str [], V.str [], .c (.slice none 0 0), V.bool false]), (101, .cells 111 [V.int y53, V.int 0, V.str r49.1, V.str [], .c (.slice none 0 0)]), (1, .vec false 9 1 (p1.map encS))]⟩) (fun i => m_impl_parser__primary_k2 N R p0_0 i = some r) ?_ ?_
    · rintro ⟨r49, p0_2, p1, y53⟩ h83
      rw [m_impl_parser__primary_k2] at h83
      refine CodeOk.join (fun (⟨y53, r49, y58, y59, y60, y61⟩ : (Int × ((List UInt8) × Int) × Int × Bool × (List STree) × (List (List UInt8)))) => ⟨tl 81 [(2, .loc 100 0), (4, .loc 101 0)], [(100, .cells 113 [V.int 0, V.int 0, V.str [], V.str [], .c (.slice none 0 0), V.bool false]), (101, .cells 111 [V.int y53, V.int 0, V.str r49.1, V.str [], .own 102]), (0, .cells 108 [.sl false false (p0_0.map encSToken), V.int y58, V.bool y59, .own 103]), (102, .vec false 111 5 (y60.map encSTree)), (103, .vec false 9 1 (y61.map encS))]⟩) (fun i => m_impl_parser__primary_k3 N R p0_0 i = some r) ?_ ?_
      · rintro ⟨y53, r49, y58, y59, y60, y61⟩ h89
        rw [m_impl_parser__primary_k3] at h89
        refine cu D_ok mix 3 104 (tl 81 [(2, .loc 100 0)]) [(100, .cells 113 [V.int y53, V.int 0, V.str r49.1, V.str [], .own 102, V.bool false]), (0, .cells 108 [.sl false false (p0_0.map encSToken), V.int y58, V.bool y59, .own 103]), (102, .vec false 111 5 (y60.map encSTree)), (103, .vec false 9 1 (y61.map encS))] (by kernel_rfl) ?_
        refine CodeOk.lay (tl 81 [(2, .loc 100 0)]) [(100, .cells 113 [V.int y53, V.int 0, V.str r49.1, V.str [], .sl false false (y60.map encSTree), V.bool false]), (0, .cells 108 [.sl false false (p0_0.map encSToken), V.int y58, V.bool y59, .own 103]), (103, .vec false 9 1 (y61.map encS))] (LayOk.cons (j := 102) encSTree encSTree y60 (by kernel_rfl) (share_encSTree) (show LayOk _ [] from trivial)) (by kernel_rfl) (by kernel_rfl) (by kernel_rfl) ?_
        refine CodeOk.ret ?_
        have h89 := Option.some.inj h89
        subst h89
        exact Ends.gen [(0, 0), (103, 100)] (.inr rfl) (RetV.one rfl (OneR.cell D_ok (r := .agg [V.int y53, V.int 0, V.str r49.1, V.str [], .sl false false (y60.map encSTree), V.bool false]) (i := 100) (ety := 113) (cs := [V.int y53, V.int 0, V.str r49.1, V.str [], .sl false false (y60.map encSTree), V.bool false]) (by kernel_rfl) (by kernel_rfl) (by kernel_rfl))) (by kernel_rfl) (by kernel_rfl) (by kernel_rfl)
      intro hk90
      (revert h83; refine bind_rev fun r63 hx92 h83 => ?_)
      refine CodeOk.cutR (tl 81 [(0, .loc 0 0), (2, .loc 100 0), (4, .loc 101 0), (56, V.bool r63.1)]) [(0, .cells 108 [.sl false false (p0_0.map encSToken), V.int r63.2.1, V.bool r63.2.2, .own 1]), (100, .cells 113 [V.int 0, V.int 0, V.str [], V.str [], .c (.slice none 0 0), V.bool false]), (101, .cells 111 [V.int y53, V.int 0, V.str r49.1, V.str [], .c (.slice none 0 0)]), (1, .vec false 9 1 (p1.map encS))] mix (by
       refine W.run D_ok 1 102 (by kernel_rfl) ?_
       refine W.call (m_impl_parser__take_ok 32 p0_0 r49.2 p0_2 p1 hx92) cok145 [(0, 0), (1, 1)] [(0, 0), (1, 1)] [] (show LayOk _ [] from trivial) (by kernel_rfl) (by kernel_rfl) ?_
       exact W.fi (by kernel_rfl)
       ) ?_
      (revert h83; refine cond_rev (fun hc93 h83 => ?_) (fun hc93 h83 => ?_))
      ·refine CodeOk.ifT hc93 (by kernel_rfl) ?_
       (revert h83; refine bind_rev fun r65 hx95 h83 => ?_)
       refine CodeOk.endR (tl 81 [(2, .loc 100 0), (4, .loc 101 0)]) [(101, .cells 111 [V.int y53, V.int 0, V.str r49.1, V.str [], .own 102]), (102, .vec false 111 5 (r65.1.map encSTree)), (103, .vec false 9 1 (r65.2.2.2.map encS)), (0, .cells 108 [.sl false false (p0_0.map encSToken), V.int r65.2.1, V.bool r65.2.2.1, .own 103]), (100, .cells 113 [V.int 0, V.int 0, V.str [], V.str [], .c (.slice none 0 0), V.bool false])] mix (by
        refine W.run D_ok 1 102 (by kernel_rfl) ?_
        refine W.call (HR.m_impl_parser__list 33 p0_0 r63.2.1 r63.2.2 p1 _ hx95) cok149 [(0, 0), (1, 1)] [(0, 0), (100, 102), (101, 103)] [102, 103] (show LayOk _ [] from trivial) (by kernel_rfl) (by kernel_rfl) ?_
        refine W.run D_ok 2 104 (by kernel_rfl) ?_
        exact W.fi (by kernel_rfl)
        ) (fun st hw => ?_)
       exact hk90 (y53, r49, r65.2.1, r65.2.2.1, r65.1, r65.2.2.2) h83 _ (hw.trans (Weak.sel [(100, 100), (101, 101), (0, 0), (102, 102), (103, 103)] [2, 4] (by kernel_rfl) (by kernel_rfl) (by kernel_rfl)))
      refine CodeOk.ifF hc93 (by kernel_rfl) ?_
      refine CodeOk.skip ?_
      exact hk90 (y53, r49, r63.2.1, r63.2.2, [], p1) h83 _ ((Weak.nilCell 101 4 102 111 5 (ety := 111) (cs := [V.int y53, V.int 0, V.str r49.1, V.str [], .c (.slice none 0 0)]) (by kernel_rfl) (by kernel_rfl) (by kernel_rfl)).trans (Weak.sel [(100, 100), (101, 101), (0, 0), (102, 102), (1, 103)] [2, 4] (by kernel_rfl) (by kernel_rfl) (by kernel_rfl)))
    intro hk96
    refine cu D_ok mix 2 102 (tl 81 [(0, .loc 0 0), (2, .loc 100 0), (4, .loc 101 0), (43, V.bool (r38 == 8))]) [(101, .cells 111 [V.int 7, V.int 0, V.str r49.1, V.str [], .c (.slice none 0 0)]), (0, .cells 108 [.sl false false (p0_0.map encSToken), V.int r49.2, V.bool p0_2, .own 1]), (100, .cells 113 [V.int 0, V.int 0, V.str [], V.str [], .c (.slice none 0 0), V.bool false]), (1, .vec false 9 1 (p1.map encS))] (by kernel_rfl) ?_
    (revert h72; refine cond_rev (fun hc97 h72 => ?_) (fun hc97 h72 => ?_))
    ·refine CodeOk.ifT hc97 (by kernel_rfl) ?_
     refine cu D_ok mix 2 102 (tl 81 [(0, .loc 0 0), (2, .loc 100 0), (4, .loc 101 0)]) [(101, .cells 111 [V.int 8, V.int 0, V.str r49.1, V.str [], .c (.slice none 0 0)]), (0, .cells 108 [.sl false false (p0_0.map encSToken), V.int r49.2, V.bool p0_2, .own 1]), (100, .cells 113 [V.int 0, V.int 0, V.str [], V.str [], .c (.slice none 0 0), V.bool false]), (1, .vec false 9 1 (p1.map encS))] (by kernel_rfl) ?_
     (revert h72; refine bind_rev fun y67 hv100 h72 => ?_)
     refine CodeOk.cutR (tl 81 [(0, .loc 0 0), (2, .loc 100 0), (4, .loc 101 0), (52, V.bool y67)]) [(0, .cells 108 [.sl false false (p0_0.map encSToken), V.int r49.2, V.bool p0_2, .own 1]), (100, .cells 113 [V.int 0, V.int 0, V.str [], V.str [], .c (.slice none 0 0), V.bool false]), (101, .cells 111 [V.int 8, V.int 0, V.str r49.1, V.str [], .c (.slice none 0 0)]), (1, .vec false 9 1 (p1.map encS))] mix (by
      refine W.run D_ok 4 102 (by kernel_rfl) ?_
      (revert hv100; refine cond_rev (fun hc101 hv100 => ?_) (fun hc101 hv100 => ?_))
      ·refine W.is 48 hc101 (by kernel_rfl) ?_
       refine W.run D_ok 1 102 (by kernel_rfl) ?_
       (revert hv100; refine bind_rev fun r68 hx102 hv100 => ?_)
       refine W.call (m_impl_parser__kind_ok p0_0 r49.2 p0_2 p1 hx102) cok97 [(0, 0), (1, 1)] [(0, 0), (1, 1)] [] (show LayOk _ [] from trivial) (by kernel_rfl) (by kernel_rfl) ?_
       refine W.run D_ok 2 102 (by kernel_rfl) ?_
       have hv100 := Option.some.inj hv100
       subst hv100
       exact W.fs [(0, 0), (100, 100), (101, 101), (1, 1)] [0, 2, 4, 52] (by kernel_rfl)
      refine W.is 48 hc101 (by kernel_rfl) ?_
      refine W.run D_ok 4 102 (by kernel_rfl) ?_
      have hv100 := Option.some.inj hv100
      subst hv100
      exact W.fs [(0, 0), (100, 100), (101, 101), (1, 1)] [0, 2, 4, 52] (by kernel_rfl)
      ) ?_
     (revert h72; refine cond_rev (fun hc103 h72 => ?_) (fun hc103 h72 => ?_))
     ·refine CodeOk.ifT hc103 (by kernel_rfl) ?_
      refine cu D_ok mix 3 102 (tl 81 [(2, .loc 100 0)]) [(100, .cells 113 [V.int 8, V.int 0, V.str r49.1, V.str [], .c (.slice none 0 0), V.bool false]), (0, .cells 108 [.sl false false (p0_0.map encSToken), V.int r49.2, V.bool p0_2, .own 1]), (1, .vec false 9 1 (p1.map encS))] (by kernel_rfl) ?_
      refine CodeOk.lay (tl 81 [(2, .loc 100 0)]) [(100, .cells 113 [V.int 8, V.int 0, V.str r49.1, V.str [], .sl false false ([].map encSTree), V.bool false]), (0, .cells 108 [.sl false false (p0_0.map encSToken), V.int r49.2, V.bool p0_2, .own 1]), (1, .vec false 9 1 (p1.map encS))] (show LayOk _ [] from trivial) (by kernel_rfl) (by kernel_rfl) (by kernel_rfl) ?_
      refine CodeOk.ret ?_
      have h72 := Option.some.inj h72
      subst h72
      exact Ends.gen [(0, 0), (1, 100)] (.inr rfl) (RetV.one rfl (OneR.cell D_ok (r := .agg [V.int 8, V.int 0, V.str r49.1, V.str [], .sl false false ([].map encSTree), V.bool false]) (i := 100) (ety := 113) (cs := [V.int 8, V.int 0, V.str r49.1, V.str [], .sl false false ([].map encSTree), V.bool false]) (by kernel_rfl) (by kernel_rfl) (by kernel_rfl))) (by kernel_rfl) (by kernel_rfl) (by kernel_rfl)
     refine CodeOk.ifF hc103 (by kernel_rfl) ?_
     refine CodeOk.skip ?_
     exact hk96 (r49, p0_2, p1, 8) h72 _ (Weak.sel [(0, 0), (100, 100), (101, 101), (1, 1)] [0, 2, 4] (by kernel_rfl) (by kernel_rfl) (by kernel_rfl))
    refine CodeOk.ifF hc97 (by kernel_rfl) ?_
    refine CodeOk.skip ?_
    exact hk96 (r49, p0_2, p1, 7) h72 _ (Weak.sel [(0, 0), (100, 100), (101, 101), (1, 1)] [0, 2, 4] (by kernel_rfl) (by kernel_rfl) (by kernel_rfl))
   refine CodeOk.ifF hc73 (by kernel_rfl) ?_
   refine cu D_ok mix 2 101 (tl 81 [(0, .loc 0 0), (2, .loc 100 0), (62, V.bool (r38 == 32))]) [(0, .cells 108 [.sl false false (p0_0.map encSToken), V.int p0_1, V.bool p0_2, .own 1]), (100, .cells 113 [V.int 0, V.int 0, V.str [], V.str [], .c (.slice none 0 0), V.bool false]), (1, .vec false 9 1 (p1.map encS))] (by kernel_rfl) ?_
   (revert h72; refine cond_rev (fun hc104 h72 => ?_) (fun hc104 h72 => ?_))
   ·refine CodeOk.ifT hc104 (by kernel_rfl) ?_
    refine cu D_ok mix 8 101 (tl 81 [(0, .loc 0 0), (2, .loc 100 0)]) [(0, .cells 108 [.sl false false (p0_0.map encSToken), V.int (IntKind.wrap .i64 (p0_1 + 1)), V.bool p0_2, .own 1]), (100, .cells 113 [V.int 0, V.int 0, V.str [], V.str [], .c (.slice none 0 0), V.bool false]), (1, .vec false 9 1 (p1.map encS))] (by kernel_rfl) ?_
    (revert h72; refine bind_rev fun r70 hx106 h72 => ?_)
    refine CodeOk.cutR (tl 81 [(0, .loc 0 0), (2, .loc 100 0), (5, .loc 102 0)]) [(102, .cells 113 [V.int r70.1.tree.kind, V.int r70.1.tree.op, V.str r70.1.tree.text, V.str r70.1.tree.other, .sl false false (r70.1.tree.kids.map encSTree), V.bool r70.1.target]), (101, .vec false 9 1 (r70.2.2.2.map encS)), (0, .cells 108 [.sl false false (p0_0.map encSToken), V.int r70.2.1, V.bool r70.2.2.1, .own 101]), (100, .cells 113 [V.int 0, V.int 0, V.str [], V.str [], .c (.slice none 0 0), V.bool false])] mix (by
     refine W.run D_ok 2 101 (by kernel_rfl) ?_
     refine W.call (HR.m_impl_parser__assign (⟨false, false⟩ : SRules) p0_0 (IntKind.wrap .i64 (p0_1 + 1)) p0_2 p1 _ hx106) cok99 [(0, 0), (1, 1)] [(0, 0), (100, 101)] [101] (show LayOk _ [] from trivial) (by kernel_rfl) (by kernel_rfl) ?_
     refine W.run D_ok 2 102 (by kernel_rfl) ?_
     exact W.fi (by kernel_rfl)
     ) ?_
    (revert h72; refine bind_rev fun r72 hx108 h72 => ?_)
    refine CodeOk.cutR (tl 81 [(2, .loc 100 0), (5, .loc 102 0)]) [(102, .cells 113 [V.int r70.1.tree.kind, V.int r70.1.tree.op, V.str r70.1.tree.text, V.str r70.1.tree.other, .sl false false (r70.1.tree.kids.map encSTree), V.bool r70.1.target]), (101, .vec false 9 1 (r70.2.2.2.map encS)), (0, .cells 108 [.sl false false (p0_0.map encSToken), V.int r72.2.1, V.bool r72.2.2, .own 101]), (100, .cells 113 [V.int 0, V.int 0, V.str [], V.str [], .c (.slice none 0 0), V.bool false])] mix (by
     refine W.run D_ok 1 103 (by kernel_rfl) ?_
     refine W.call (m_impl_parser__take_ok 33 p0_0 r70.2.1 r70.2.2.1 r70.2.2.2 hx108) cok145 [(0, 0), (101, 1)] [(0, 0), (1, 101)] [] (show LayOk _ [] from trivial) (by kernel_rfl) (by kernel_rfl) ?_
     exact W.fi (by kernel_rfl)
     ) ?_
    refine cu D_ok mix 4 103 (tl 81 [(2, .loc 100 0)]) [(100, .cells 113 [V.int r70.1.tree.kind, V.int r70.1.tree.op, V.str r70.1.tree.text, V.str r70.1.tree.other, .sl false false (r70.1.tree.kids.map encSTree), V.bool false]), (101, .vec false 9 1 (r70.2.2.2.map encS)), (0, .cells 108 [.sl false false (p0_0.map encSToken), V.int r72.2.1, V.bool r72.2.2, .own 101])] (by kernel_rfl) ?_
    refine CodeOk.ret ?_
    have h72 := Option.some.inj h72
    subst h72
    exact Ends.gen [(0, 0), (101, 100)] (.inr rfl) (RetV.one rfl (OneR.cell D_ok (r := .agg [V.int r70.1.tree.kind, V.int r70.1.tree.op, V.str r70.1.tree.text, V.str r70.1.tree.other, .sl false false (r70.1.tree.kids.map encSTree), V.bool false]) (i := 100) (ety := 113) (cs := [V.int r70.1.tree.kind, V.int r70.1.tree.op, V.str r70.1.tree.text, V.str r70.1.tree.other, .sl false false (r70.1.tree.kids.map encSTree), V.bool false]) (by kernel_rfl) (by kernel_rfl) (by kernel_rfl))) (by kernel_rfl) (by kernel_rfl) (by kernel_rfl)
   refine CodeOk.ifF hc104 (by kernel_rfl) ?_
   refine CodeOk.skip ?_
   (revert h72; refine bind_rev fun r74 hx110 h72 => ?_)
   refine CodeOk.cutR (tl 81 [(2, .loc 100 0)]) [(100, .cells 113 [V.int r74.1.tree.kind, V.int r74.1.tree.op, V.str r74.1.tree.text, V.str r74.1.tree.other, .sl false false (r74.1.tree.kids.map encSTree), V.bool r74.1.target]), (0, .cells 108 [.sl false false (p0_0.map encSToken), V.int p0_1, V.bool r74.2, .own 1]), (1, .vec false 9 1 (p1.map encS))] mix (by
    refine W.run D_ok 1 101 (by kernel_rfl) ?_
    refine W.call (m_impl_parser__fail_ok p0_0 p0_1 p0_2 p1 hx110) cok98 [(0, 0), (1, 1)] [(0, 0), (1, 1)] [] (show LayOk _ [] from trivial) (by kernel_rfl) (by kernel_rfl) ?_
    refine W.run D_ok 1 101 (by kernel_rfl) ?_
    exact W.fi (by kernel_rfl)
    ) ?_
   refine CodeOk.ret ?_
   have h72 := Option.some.inj h72
   subst h72
   exact Ends.gen [(0, 0), (1, 100)] (.inr rfl) (RetV.one rfl (OneR.cell D_ok (r := .agg [V.int r74.1.tree.kind, V.int r74.1.tree.op, V.str r74.1.tree.text, V.str r74.1.tree.other, .sl false false (r74.1.tree.kids.map encSTree), V.bool r74.1.target]) (i := 100) (ety := 113) (cs := [V.int r74.1.tree.kind, V.int r74.1.tree.op, V.str r74.1.tree.text, V.str r74.1.tree.other, .sl false false (r74.1.tree.kids.map encSTree), V.bool r74.1.target]) (by kernel_rfl) (by kernel_rfl) (by kernel_rfl))) (by kernel_rfl) (by kernel_rfl) (by kernel_rfl)
 intro hk111
 refine cu D_ok mix 2 101 (tl 81 [(0, .loc 0 0), (2, .loc 100 0), (3, V.int r38), (13, V.int r38), (36, V.bool (r38 == 7))]) [(100, .cells 113 [V.int 0, V.int 0, V.str [], V.str [], .c (.slice none 0 0), V.bool false]), (0, .cells 108 [.sl false false (p0_0.map encSToken), V.int p0_1, V.bool p0_2, .own 1]), (1, .vec false 9 1 (p1.map encS))] (by kernel_rfl) ?_
 (revert h; refine cond_rev (fun hc112 h => ?_) (fun hc112 h => ?_))
 ·refine CodeOk.ifT hc112 (by kernel_rfl) ?_
  refine CodeOk.skip ?_
  exact hk111 (r38, p0_1, p0_2, p1, (r38 == 7)) h _ (Weak.sel [(0, 0), (100, 100), (1, 1)] [0, 2, 3, 13, 36] (by kernel_rfl) (by kernel_rfl) (by kernel_rfl))
 refine CodeOk.ifF hc112 (by kernel_rfl) ?_
 refine ce D_ok mix 2 101 (tl 81 [(0, .loc 0 0), (2, .loc 100 0), (3, V.int r38), (13, V.int r38), (36, V.bool (r38 == 8))]) [(100, .cells 113 [V.int 0, V.int 0, V.str [], V.str [], .c (.slice none 0 0), V.bool false]), (0, .cells 108 [.sl false false (p0_0.map encSToken), V.int p0_1, V.bool p0_2, .own 1]), (1, .vec false 9 1 (p1.map encS))] (by kernel_rfl) (fun st hw => ?_)
 exact hk111 (r38, p0_1, p0_2, p1, (r38 == 8)) h _ (hw.trans (Weak.sel [(0, 0), (100, 100), (1, 1)] [0, 2, 3, 13, 36] (by kernel_rfl) (by kernel_rfl) (by kernel_rfl)))

theorem m_impl_parser__field_F_ok (N : Nat) (R : Rec1) (HR : RecOk1 R) (p0_0 : List SToken) (p0_1 : Int) (p0_2 : Bool) (p1 : List (List UInt8)) {r : (SPart × Int × Bool × (List (List UInt8)))} (h : m_impl_parser__field_F N R p0_0 p0_1 p0_2 p1 = some r) :
    AC Tryd.prog (GS []) 113 [.loc 0 0] [(0, .cells 108 [.sl false false (p0_0.map encSToken), V.int p0_1, V.bool p0_2, .own 1]), (1, .vec false 9 1 (p1.map encS))] (.agg [V.int r.1.tree.kind, V.int r.1.tree.op, V.str r.1.tree.text, V.str r.1.tree.other, .sl false false (r.1.tree.kids.map encSTree), V.bool r.1.target]) [(0, .cells 108 [.sl false false (p0_0.map encSToken), V.int r.2.1, V.bool r.2.2.1, .own 100]), (100, .vec false 9 1 (r.2.2.2.map encS))] := by
 rw [m_impl_parser__field_F] at h
 refine AC.enter Tryd.func113 rfl ?_
 refine cu D_ok mix 1 100 (tl 35 [(0, .loc 0 0), (2, .loc 100 0)]) [(100, .cells 113 [V.int 0, V.int 0, V.str [], V.str [], .c (.slice none 0 0), V.bool false]), (0, .cells 108 [.sl false false (p0_0.map encSToken), V.int p0_1, V.bool p0_2, .own 1]), (1, .vec false 9 1 (p1.map encS))] (by kernel_rfl) ?_
 refine CodeOk.seq' ?_
 (revert h; refine bind_rev fun y7 hv11 h => ?_)
 refine CodeOk.cutR (tl 35 [(0, .loc 0 0), (2, .loc 100 0), (12, V.bool y7)]) [(0, .cells 108 [.sl false false (p0_0.map encSToken), V.int p0_1, V.bool p0_2, .own 1]), (100, .cells 113 [V.int 0, V.int 0, V.str [], V.str [], .c (.slice none 0 0), V.bool false]), (1, .vec false 9 1 (p1.map encS))] mix (by
  refine W.run D_ok 5 101 (by kernel_rfl) ?_
  (revert hv11; refine cond_rev (fun hc12 hv11 => ?_) (fun hc12 hv11 => ?_))
  ·refine W.is 8 hc12 (by kernel_rfl) ?_
   refine W.run D_ok 4 101 (by kernel_rfl) ?_
   have hv11 := Option.some.inj hv11
   subst hv11
   exact W.fs [(0, 0), (100, 100), (1, 1)] [0, 2, 12] (by kernel_rfl)
  refine W.is 8 hc12 (by kernel_rfl) ?_
  refine W.run D_ok 1 101 (by kernel_rfl) ?_
  (revert hv11; refine bind_rev fun r8 hx13 hv11 => ?_)
  refine W.call (m_impl_parser__kind_ok p0_0 p0_1 p0_2 p1 hx13) cok97 [(0, 0), (1, 1)] [(0, 0), (1, 1)] [] (show LayOk _ [] from trivial) (by kernel_rfl) (by kernel_rfl) ?_
  refine W.run D_ok 2 101 (by kernel_rfl) ?_
  have hv11 := Option.some.inj hv11
  subst hv11
  exact W.fs [(0, 0), (100, 100), (1, 1)] [0, 2, 12] (by kernel_rfl)
  ) ?_
 (revert h; refine cond_rev (fun hc14 h => ?_) (fun hc14 h => ?_))
 ·refine CodeOk.ifT hc14 (by kernel_rfl) ?_
  (revert h; refine bind_rev fun r10 hx16 h => ?_)
  refine CodeOk.cutR (tl 35 [(2, .loc 100 0)]) [(100, .cells 113 [V.int r10.1.tree.kind, V.int r10.1.tree.op, V.str r10.1.tree.text, V.str r10.1.tree.other, .sl false false (r10.1.tree.kids.map encSTree), V.bool r10.1.target]), (101, .vec false 9 1 (r10.2.2.2.map encS)), (0, .cells 108 [.sl false false (p0_0.map encSToken), V.int r10.2.1, V.bool r10.2.2.1, .own 101])] mix (by
   refine W.run D_ok 1 101 (by kernel_rfl) ?_
   refine W.call (HR.m_impl_parser__primary p0_0 p0_1 p0_2 p1 _ hx16) cok114 [(0, 0), (1, 1)] [(0, 0), (100, 101)] [101] (show LayOk _ [] from trivial) (by kernel_rfl) (by kernel_rfl) ?_
   refine W.run D_ok 1 102 (by kernel_rfl) ?_
   exact W.fi (by kernel_rfl)
   ) ?_
  refine CodeOk.ret ?_
  have h := Option.some.inj h
  subst h
  exact Ends.gen [(0, 0), (101, 100)] (.inr rfl) (RetV.one rfl (OneR.cell D_ok (r := .agg [V.int r10.1.tree.kind, V.int r10.1.tree.op, V.str r10.1.tree.text, V.str r10.1.tree.other, .sl false false (r10.1.tree.kids.map encSTree), V.bool r10.1.target]) (i := 100) (ety := 113) (cs := [V.int r10.1.tree.kind, V.int r10.1.tree.op, V.str r10.1.tree.text, V.str r10.1.tree.other, .sl false false (r10.1.tree.kids.map encSTree), V.bool r10.1.target]) (by kernel_rfl) (by kernel_rfl) (by kernel_rfl))) (by kernel_rfl) (by kernel_rfl) (by kernel_rfl)
 refine CodeOk.ifF hc14 (by kernel_rfl) ?_
 refine CodeOk.skip ?_
 refine cu D_ok mix 8 101 (tl 35 [(0, .loc 0 0), (2, .loc 100 0)]) [(0, .cells 108 [.sl false false (p0_0.map encSToken), V.int (IntKind.wrap .i64 (p0_1 + 1)), V.bool p0_2, .own 1]), (100, .cells 113 [V.int 0, V.int 0, V.str [], V.str [], .c (.slice none 0 0), V.bool false]), (1, .vec false 9 1 (p1.map encS))] (by kernel_rfl) ?_
 refine cu D_ok mix 3 101 (tl 35 [(0, .loc 0 0), (2, .loc 100 0), (3, .loc 101 0)]) [(101, .cells 113 [V.int 0, V.int 0, V.str [], V.str [], .c (.slice none 0 0), V.bool false]), (0, .cells 108 [.sl false false (p0_0.map encSToken), V.int (IntKind.wrap .i64 (p0_1 + 1)), V.bool p0_2, .own 1]), (100, .cells 113 [V.int 0, V.int 0, V.str [], V.str [], .c (.slice none 0 0), V.bool false]), (1, .vec false 9 1 (p1.map encS))] (by kernel_rfl) ?_
 refine CodeOk.join (fun (⟨y19, y20, y21, y22, y23, y24, y25, y26, y27⟩ : (Int × Int × (List UInt8) × (List UInt8) × (List STree) × Bool × Int × Bool × (List (List UInt8)))) => ⟨tl 35 [(2, .loc 100 0), (3, .loc 101 0)], [(100, .cells 113 [V.int 0, V.int 0, V.str [], V.str [], .c (.slice none 0 0), V.bool false]), (101, .cells 113 [V.int y19, V.int y20, V.str y21, V.str y22, .sl false false (y23.map encSTree), V.bool y24]), (0, .cells 108 [.sl false false (p0_0.map encSToken), V.int y25, V.bool y26, .own 102]), (102, .vec false 9 1 (y27.map encS))]⟩) (fun i => m_impl_parser__field_k1 N R p0_0 i = some r) ?_ ?_
 · rintro ⟨y19, y20, y21, y22, y23, y24, y25, y26, y27⟩ h26
   rw [m_impl_parser__field_k1] at h26
   refine CodeOk.cutR (tl 35 [(2, .loc 100 0)]) [(100, .cells 113 [V.int 6, V.int 0, V.str [], V.str [], .own 103, V.bool true]), (103, .vec false 111 5 ([(⟨y19, y20, y21, y22, y23⟩ : STree)].map encSTree)), (0, .cells 108 [.sl false false (p0_0.map encSToken), V.int y25, V.bool y26, .own 102]), (102, .vec false 9 1 (y27.map encS))] mix (by
    refine W.run D_ok 2 103 (by kernel_rfl) ?_
    refine W.layop D_ok (show LayOk _ [] from trivial) (by kernel_rfl) 103 { v := .own 103, R := [], new := [(103, .vec true 111 5 [[V.int y19, V.int y20, V.str y21, V.str y22, .sl false false (y23.map encSTree)]])], N := [103] } (by kernel_rfl) ?_
    refine W.vecEq 103 (nn := true) (e := 111) (k := 5) (rows := [[V.int y19, V.int y20, V.str y21, V.str y22, .sl false false (y23.map encSTree)]]) (rows' := [(⟨y19, y20, y21, y22, y23⟩ : STree)].map encSTree) (by kernel_rfl) (by simp only [List.map_cons, List.map_nil, encSTree_eq]) ?_
    refine W.run D_ok 3 104 (by kernel_rfl) ?_
    exact W.fi (by kernel_rfl)
    ) ?_
   refine CodeOk.lay (tl 35 [(2, .loc 100 0)]) [(100, .cells 113 [V.int 6, V.int 0, V.str [], V.str [], .sl false false ([(⟨y19, y20, y21, y22, y23⟩ : STree)].map encSTree), V.bool true]), (0, .cells 108 [.sl false false (p0_0.map encSToken), V.int y25, V.bool y26, .own 102]), (102, .vec false 9 1 (y27.map encS))] (LayOk.cons (j := 103) encSTree encSTree ([(⟨y19, y20, y21, y22, y23⟩ : STree)] : List STree) (by kernel_rfl) (share_encSTree) (show LayOk _ [] from trivial)) (by kernel_rfl) (by kernel_rfl) (by kernel_rfl) ?_
   refine CodeOk.ret ?_
   have h26 := Option.some.inj h26
   subst h26
   exact Ends.gen [(0, 0), (102, 100)] (.inr rfl) (RetV.one rfl (OneR.cell D_ok (r := .agg [V.int 6, V.int 0, V.str [], V.str [], .sl false false ([(⟨y19, y20, y21, y22, y23⟩ : STree)].map encSTree), V.bool true]) (i := 100) (ety := 113) (cs := [V.int 6, V.int 0, V.str [], V.str [], .sl false false ([(⟨y19, y20, y21, y22, y23⟩ : STree)].map encSTree), V.bool true]) (by kernel_rfl) (by kernel_rfl) (by kernel_rfl))) (by kernel_rfl) (by kernel_rfl) (by kernel_rfl)
 intro hk27
 (revert h; refine bind_rev fun r30 hx30 h => ?_)
 (revert h; refine bind_rev fun r31 hx31 h => ?_)
 refine CodeOk.cutR (tl 35 [(0, .loc 0 0), (2, .loc 100 0), (3, .loc 101 0), (25, V.bool r31)]) [(101, .cells 113 [V.int 0, V.int 0, V.str [], V.str [], .c (.slice none 0 0), V.bool false]), (0, .cells 108 [.sl false false (p0_0.map encSToken), V.int (IntKind.wrap .i64 (p0_1 + 1)), V.bool p0_2, .own 1]), (100, .cells 113 [V.int 0, V.int 0, V.str [], V.str [], .c (.slice none 0 0), V.bool false]), (1, .vec false 9 1 (p1.map encS))] mix (by
  refine W.run D_ok 1 102 (by kernel_rfl) ?_
  refine W.call (m_impl_parser__kind_ok p0_0 (IntKind.wrap .i64 (p0_1 + 1)) p0_2 p1 hx30) cok97 [(0, 0), (1, 1)] [(0, 0), (1, 1)] [] (show LayOk _ [] from trivial) (by kernel_rfl) (by kernel_rfl) ?_
  refine W.call0 (m_impl_isStep_ok r30 hx31) cok49 rfl (by kernel_rfl) ?_
  exact W.fi (by kernel_rfl)
  ) ?_
 (revert h; refine cond_rev (fun hc32 h => ?_) (fun hc32 h => ?_))
 ·refine CodeOk.ifT hc32 (by kernel_rfl) ?_
  (revert h; refine bind_rev fun r33 hx34 h => ?_)
  refine CodeOk.endR (tl 35 [(2, .loc 100 0), (3, .loc 101 0)]) [(101, .cells 113 [V.int r33.1.tree.kind, V.int r33.1.tree.op, V.str r33.1.tree.text, V.str r33.1.tree.other, .sl false false (r33.1.tree.kids.map encSTree), V.bool r33.1.target]), (102, .vec false 9 1 (r33.2.2.2.map encS)), (0, .cells 108 [.sl false false (p0_0.map encSToken), V.int r33.2.1, V.bool r33.2.2.1, .own 102]), (100, .cells 113 [V.int 0, V.int 0, V.str [], V.str [], .c (.slice none 0 0), V.bool false])] mix (by
   refine W.run D_ok 1 102 (by kernel_rfl) ?_
   refine W.call (HR.m_impl_parser__before p0_0 (IntKind.wrap .i64 (p0_1 + 1)) p0_2 p1 _ hx34) cok112 [(0, 0), (1, 1)] [(0, 0), (100, 102)] [102] (show LayOk _ [] from trivial) (by kernel_rfl) (by kernel_rfl) ?_
   refine W.run D_ok 1 103 (by kernel_rfl) ?_
   exact W.fi (by kernel_rfl)
   ) (fun st hw => ?_)
  exact hk27 (r33.1.tree.kind, r33.1.tree.op, r33.1.tree.text, r33.1.tree.other, r33.1.tree.kids, r33.1.target, r33.2.1, r33.2.2.1, r33.2.2.2) h _ (hw.trans (Weak.sel [(100, 100), (101, 101), (0, 0), (102, 102)] [2, 3] (by kernel_rfl) (by kernel_rfl) (by kernel_rfl)))
 refine CodeOk.ifF hc32 (by kernel_rfl) ?_
 (revert h; refine bind_rev fun r35 hx36 h => ?_)
 refine CodeOk.endR (tl 35 [(2, .loc 100 0), (3, .loc 101 0)]) [(101, .cells 113 [V.int r35.1.tree.kind, V.int r35.1.tree.op, V.str r35.1.tree.text, V.str r35.1.tree.other, .sl false false (r35.1.tree.kids.map encSTree), V.bool r35.1.target]), (102, .vec false 9 1 (r35.2.2.2.map encS)), (0, .cells 108 [.sl false false (p0_0.map encSToken), V.int r35.2.1, V.bool r35.2.2.1, .own 102]), (100, .cells 113 [V.int 0, V.int 0, V.str [], V.str [], .c (.slice none 0 0), V.bool false])] mix (by
  refine W.run D_ok 1 102 (by kernel_rfl) ?_
  refine W.call (HR.m_impl_parser__field p0_0 (IntKind.wrap .i64 (p0_1 + 1)) p0_2 p1 _ hx36) cok113 [(0, 0), (1, 1)] [(0, 0), (100, 102)] [102] (show LayOk _ [] from trivial) (by kernel_rfl) (by kernel_rfl) ?_
  refine W.run D_ok 1 103 (by kernel_rfl) ?_
  exact W.fi (by kernel_rfl)
  ) (fun st hw => ?_)
 exact hk27 (r35.1.tree.kind, r35.1.tree.op, r35.1.tree.text, r35.1.tree.other, r35.1.tree.kids, r35.1.target, r35.2.1, r35.2.2.1, r35.2.2.2) h _ (hw.trans (Weak.sel [(100, 100), (101, 101), (0, 0), (102, 102)] [2, 3] (by kernel_rfl) (by kernel_rfl) (by kernel_rfl)))

theorem m_impl_parser__lvalue_F_ok (N : Nat) (R : Rec1) (HR : RecOk1 R) (p0_0 : List SToken) (p0_1 : Int) (p0_2 : Bool) (p1 : List (List UInt8)) {r : (SPart × Int × Bool × (List (List UInt8)))} (h : m_impl_parser__lvalue_F N R p0_0 p0_1 p0_2 p1 = some r) :
    AC Tryd.prog (GS []) 151 [.loc 0 0] [(0, .cells 108 [.sl false false (p0_0.map encSToken), V.int p0_1, V.bool p0_2, .own 1]), (1, .vec false 9 1 (p1.map encS))] (.agg [V.int r.1.tree.kind, V.int r.1.tree.op, V.str r.1.tree.text, V.str r.1.tree.other, .sl false false (r.1.tree.kids.map encSTree), V.bool r.1.target]) [(0, .cells 108 [.sl false false (p0_0.map encSToken), V.int r.2.1, V.bool r.2.2.1, .own 100]), (100, .vec false 9 1 (r.2.2.2.map encS))] := by
 rw [m_impl_parser__lvalue_F] at h
 refine AC.enter Tryd.func151 rfl ?_
 refine cu D_ok mix 1 100 (tl 22 [(0, .loc 0 0), (2, .loc 100 0)]) [(100, .cells 113 [V.int 0, V.int 0, V.str [], V.str [], .c (.slice none 0 0), V.bool false]), (0, .cells 108 [.sl false false (p0_0.map encSToken), V.int p0_1, V.bool p0_2, .own 1]), (1, .vec false 9 1 (p1.map encS))] (by kernel_rfl) ?_
 refine CodeOk.join (fun (⟨p0_1, p0_2, p1⟩ : (Int × Bool × (List (List UInt8)))) => ⟨tl 22 [(0, .loc 0 0), (2, .loc 100 0)], [(0, .cells 108 [.sl false false (p0_0.map encSToken), V.int p0_1, V.bool p0_2, .own 1]), (100, .cells 113 [V.int 0, V.int 0, V.str [], V.str [], .c (.slice none 0 0), V.bool false]), (1, .vec false 9 1 (p1.map encS))]⟩) (fun i => m_impl_parser__lvalue_k1 N R p0_0 i = some r) ?_ ?_
 · rintro ⟨p0_1, p0_2, p1⟩ h12
   rw [m_impl_parser__lvalue_k1] at h12
   (revert h12; refine bind_rev fun r10 hx14 h12 => ?_)
   refine CodeOk.cutR (tl 22 [(2, .loc 100 0)]) [(100, .cells 113 [V.int r10.1.tree.kind, V.int r10.1.tree.op, V.str r10.1.tree.text, V.str r10.1.tree.other, .sl false false (r10.1.tree.kids.map encSTree), V.bool r10.1.target]), (0, .cells 108 [.sl false false (p0_0.map encSToken), V.int p0_1, V.bool r10.2, .own 1]), (1, .vec false 9 1 (p1.map encS))] mix (by
    refine W.run D_ok 1 101 (by kernel_rfl) ?_
    refine W.call (m_impl_parser__fail_ok p0_0 p0_1 p0_2 p1 hx14) cok98 [(0, 0), (1, 1)] [(0, 0), (1, 1)] [] (show LayOk _ [] from trivial) (by kernel_rfl) (by kernel_rfl) ?_
    refine W.run D_ok 1 101 (by kernel_rfl) ?_
    exact W.fi (by kernel_rfl)
    ) ?_
   refine CodeOk.ret ?_
   have h12 := Option.some.inj h12
   subst h12
   exact Ends.gen [(0, 0), (1, 100)] (.inr rfl) (RetV.one rfl (OneR.cell D_ok (r := .agg [V.int r10.1.tree.kind, V.int r10.1.tree.op, V.str r10.1.tree.text, V.str r10.1.tree.other, .sl false false (r10.1.tree.kids.map encSTree), V.bool r10.1.target]) (i := 100) (ety := 113) (cs := [V.int r10.1.tree.kind, V.int r10.1.tree.op, V.str r10.1.tree.text, V.str r10.1.tree.other, .sl false false (r10.1.tree.kids.map encSTree), V.bool r10.1.target]) (by kernel_rfl) (by kernel_rfl) (by kernel_rfl))) (by kernel_rfl) (by kernel_rfl) (by kernel_rfl)
 intro hk15
 refine CodeOk.block' ?_
 refine cu D_ok mix 5 101 (tl 22 [(0, .loc 0 0), (2, .loc 100 0), (3, V.bool p0_2)]) [(100, .cells 113 [V.int 0, V.int 0, V.str [], V.str [], .c (.slice none 0 0), V.bool false]), (0, .cells 108 [.sl false false (p0_0.map encSToken), V.int p0_1, V.bool p0_2, .own 1]), (1, .vec false 9 1 (p1.map encS))] (by kernel_rfl) ?_
 (revert h; refine cond_rev (fun hc16 h => ?_) (fun hc16 h => ?_))
 ·refine CodeOk.ifT hc16 (by kernel_rfl) ?_
  refine CodeOk.skip ?_
  exact hk15 (p0_1, p0_2, p1) h _ (Weak.sel [(0, 0), (100, 100), (1, 1)] [0, 2] (by kernel_rfl) (by kernel_rfl) (by kernel_rfl))
 refine CodeOk.ifF hc16 (by kernel_rfl) ?_
 (revert h; refine bind_rev fun r12 hx18 h => ?_)
 refine CodeOk.cutR (tl 22 [(0, .loc 0 0), (2, .loc 100 0), (8, V.bool (r12 == 68))]) [(100, .cells 113 [V.int 0, V.int 0, V.str [], V.str [], .c (.slice none 0 0), V.bool false]), (0, .cells 108 [.sl false false (p0_0.map encSToken), V.int p0_1, V.bool p0_2, .own 1]), (1, .vec false 9 1 (p1.map encS))] mix (by
  refine W.run D_ok 1 101 (by kernel_rfl) ?_
  refine W.call (m_impl_parser__kind_ok p0_0 p0_1 p0_2 p1 hx18) cok97 [(0, 0), (1, 1)] [(0, 0), (1, 1)] [] (show LayOk _ [] from trivial) (by kernel_rfl) (by kernel_rfl) ?_
  refine W.run D_ok 2 101 (by kernel_rfl) ?_
  exact W.fi (by kernel_rfl)
  ) ?_
 (revert h; refine cond_rev (fun hc19 h => ?_) (fun hc19 h => ?_))
 ·refine CodeOk.ifT hc19 (by kernel_rfl) ?_
  (revert h; refine bind_rev fun r14 hx21 h => ?_)
  refine CodeOk.cutR (tl 22 [(2, .loc 100 0)]) [(100, .cells 113 [V.int r14.1.tree.kind, V.int r14.1.tree.op, V.str r14.1.tree.text, V.str r14.1.tree.other, .sl false false (r14.1.tree.kids.map encSTree), V.bool r14.1.target]), (101, .vec false 9 1 (r14.2.2.2.map encS)), (0, .cells 108 [.sl false false (p0_0.map encSToken), V.int r14.2.1, V.bool r14.2.2.1, .own 101])] mix (by
   refine W.run D_ok 1 101 (by kernel_rfl) ?_
   refine W.call (HR.m_impl_parser__field p0_0 p0_1 p0_2 p1 _ hx21) cok113 [(0, 0), (1, 1)] [(0, 0), (100, 101)] [101] (show LayOk _ [] from trivial) (by kernel_rfl) (by kernel_rfl) ?_
   refine W.run D_ok 1 102 (by kernel_rfl) ?_
   exact W.fi (by kernel_rfl)
   ) ?_
  refine CodeOk.ret ?_
  have h := Option.some.inj h
  subst h
  exact Ends.gen [(0, 0), (101, 100)] (.inr rfl) (RetV.one rfl (OneR.cell D_ok (r := .agg [V.int r14.1.tree.kind, V.int r14.1.tree.op, V.str r14.1.tree.text, V.str r14.1.tree.other, .sl false false (r14.1.tree.kids.map encSTree), V.bool r14.1.target]) (i := 100) (ety := 113) (cs := [V.int r14.1.tree.kind, V.int r14.1.tree.op, V.str r14.1.tree.text, V.str r14.1.tree.other, .sl false false (r14.1.tree.kids.map encSTree), V.bool r14.1.target]) (by kernel_rfl) (by kernel_rfl) (by kernel_rfl))) (by kernel_rfl) (by kernel_rfl) (by kernel_rfl)
 refine CodeOk.ifF hc19 (by kernel_rfl) ?_
 (revert h; refine bind_rev fun r16 hx23 h => ?_)
 refine CodeOk.cutR (tl 22 [(0, .loc 0 0), (2, .loc 100 0), (14, V.bool (r16 == 6))]) [(100, .cells 113 [V.int 0, V.int 0, V.str [], V.str [], .c (.slice none 0 0), V.bool false]), (0, .cells 108 [.sl false false (p0_0.map encSToken), V.int p0_1, V.bool p0_2, .own 1]), (1, .vec false 9 1 (p1.map encS))] mix (by
  refine W.run D_ok 1 101 (by kernel_rfl) ?_
  refine W.call (m_impl_parser__kind_ok p0_0 p0_1 p0_2 p1 hx23) cok97 [(0, 0), (1, 1)] [(0, 0), (1, 1)] [] (show LayOk _ [] from trivial) (by kernel_rfl) (by kernel_rfl) ?_
  refine W.run D_ok 2 101 (by kernel_rfl) ?_
  exact W.fi (by kernel_rfl)
  ) ?_
 (revert h; refine cond_rev (fun hc24 h => ?_) (fun hc24 h => ?_))
 ·refine CodeOk.ifT hc24 (by kernel_rfl) ?_
  (revert h; refine bind_rev fun r18 hx26 h => ?_)
  refine CodeOk.cutR (tl 22 [(2, .loc 100 0)]) [(100, .cells 113 [V.int r18.1.tree.kind, V.int r18.1.tree.op, V.str r18.1.tree.text, V.str r18.1.tree.other, .sl false false (r18.1.tree.kids.map encSTree), V.bool r18.1.target]), (101, .vec false 9 1 (r18.2.2.2.map encS)), (0, .cells 108 [.sl false false (p0_0.map encSToken), V.int r18.2.1, V.bool r18.2.2.1, .own 101])] mix (by
   refine W.run D_ok 1 101 (by kernel_rfl) ?_
   refine W.call (HR.m_impl_parser__variable p0_0 p0_1 p0_2 p1 _ hx26) cok153 [(0, 0), (1, 1)] [(0, 0), (100, 101)] [101] (show LayOk _ [] from trivial) (by kernel_rfl) (by kernel_rfl) ?_
   refine W.run D_ok 1 102 (by kernel_rfl) ?_
   exact W.fi (by kernel_rfl)
   ) ?_
  refine CodeOk.ret ?_
  have h := Option.some.inj h
  subst h
  exact Ends.gen [(0, 0), (101, 100)] (.inr rfl) (RetV.one rfl (OneR.cell D_ok (r := .agg [V.int r18.1.tree.kind, V.int r18.1.tree.op, V.str r18.1.tree.text, V.str r18.1.tree.other, .sl false false (r18.1.tree.kids.map encSTree), V.bool r18.1.target]) (i := 100) (ety := 113) (cs := [V.int r18.1.tree.kind, V.int r18.1.tree.op, V.str r18.1.tree.text, V.str r18.1.tree.other, .sl false false (r18.1.tree.kids.map encSTree), V.bool r18.1.target]) (by kernel_rfl) (by kernel_rfl) (by kernel_rfl))) (by kernel_rfl) (by kernel_rfl) (by kernel_rfl)
 refine CodeOk.ifF hc24 (by kernel_rfl) ?_
 refine CodeOk.skip ?_
 exact hk15 (p0_1, p0_2, p1) h _ (Weak.sel [(0, 0), (100, 100), (1, 1)] [0, 2] (by kernel_rfl) (by kernel_rfl) (by kernel_rfl))

theorem m_impl_parser__before_F_ok (N : Nat) (R : Rec1) (HR : RecOk1 R) (p0_0 : List SToken) (p0_1 : Int) (p0_2 : Bool) (p1 : List (List UInt8)) {r : (SPart × Int × Bool × (List (List UInt8)))} (h : m_impl_parser__before_F N R p0_0 p0_1 p0_2 p1 = some r) :
    AC Tryd.prog (GS []) 112 [.loc 0 0] [(0, .cells 108 [.sl false false (p0_0.map encSToken), V.int p0_1, V.bool p0_2, .own 1]), (1, .vec false 9 1 (p1.map encS))] (.agg [V.int r.1.tree.kind, V.int r.1.tree.op, V.str r.1.tree.text, V.str r.1.tree.other, .sl false false (r.1.tree.kids.map encSTree), V.bool r.1.target]) [(0, .cells 108 [.sl false false (p0_0.map encSToken), V.int r.2.1, V.bool r.2.2.1, .own 100]), (100, .vec false 9 1 (r.2.2.2.map encS))] := by
 rw [m_impl_parser__before_F] at h
 refine AC.enter Tryd.func112 rfl ?_
 refine cu D_ok mix 1 100 (tl 22 [(0, .loc 0 0), (2, .loc 100 0)]) [(100, .cells 113 [V.int 0, V.int 0, V.str [], V.str [], .c (.slice none 0 0), V.bool false]), (0, .cells 108 [.sl false false (p0_0.map encSToken), V.int p0_1, V.bool p0_2, .own 1]), (1, .vec false 9 1 (p1.map encS))] (by kernel_rfl) ?_
 (revert h; refine bind_rev fun r2 hx2 h => ?_)
 refine CodeOk.cutR (tl 22 [(0, .loc 0 0), (2, .loc 100 0), (3, V.int r2)]) [(100, .cells 113 [V.int 0, V.int 0, V.str [], V.str [], .c (.slice none 0 0), V.bool false]), (0, .cells 108 [.sl false false (p0_0.map encSToken), V.int p0_1, V.bool p0_2, .own 1]), (1, .vec false 9 1 (p1.map encS))] mix (by
  refine W.run D_ok 1 101 (by kernel_rfl) ?_
  refine W.call (m_impl_parser__kind_ok p0_0 p0_1 p0_2 p1 hx2) cok97 [(0, 0), (1, 1)] [(0, 0), (1, 1)] [] (show LayOk _ [] from trivial) (by kernel_rfl) (by kernel_rfl) ?_
  refine W.run D_ok 1 101 (by kernel_rfl) ?_
  exact W.fi (by kernel_rfl)
  ) ?_
 refine cu D_ok mix 8 101 (tl 22 [(0, .loc 0 0), (2, .loc 100 0), (3, V.int r2)]) [(0, .cells 108 [.sl false false (p0_0.map encSToken), V.int (IntKind.wrap .i64 (p0_1 + 1)), V.bool p0_2, .own 1]), (100, .cells 113 [V.int 0, V.int 0, V.str [], V.str [], .c (.slice none 0 0), V.bool false]), (1, .vec false 9 1 (p1.map encS))] (by kernel_rfl) ?_
 (revert h; refine bind_rev fun r4 hx4 h => ?_)
 refine CodeOk.cutR (tl 22 [(2, .loc 100 0), (3, V.int r2), (4, .loc 102 0)]) [(102, .cells 113 [V.int r4.1.tree.kind, V.int r4.1.tree.op, V.str r4.1.tree.text, V.str r4.1.tree.other, .sl false false (r4.1.tree.kids.map encSTree), V.bool r4.1.target]), (101, .vec false 9 1 (r4.2.2.2.map encS)), (0, .cells 108 [.sl false false (p0_0.map encSToken), V.int r4.2.1, V.bool r4.2.2.1, .own 101]), (100, .cells 113 [V.int 0, V.int 0, V.str [], V.str [], .c (.slice none 0 0), V.bool false])] mix (by
  refine W.run D_ok 1 101 (by kernel_rfl) ?_
  refine W.call (HR.m_impl_parser__lvalue p0_0 (IntKind.wrap .i64 (p0_1 + 1)) p0_2 p1 _ hx4) cok151 [(0, 0), (1, 1)] [(0, 0), (100, 101)] [101] (show LayOk _ [] from trivial) (by kernel_rfl) (by kernel_rfl) ?_
  refine W.run D_ok 2 102 (by kernel_rfl) ?_
  exact W.fi (by kernel_rfl)
  ) ?_
 refine CodeOk.cutR (tl 22 [(2, .loc 100 0)]) [(100, .cells 113 [V.int 9, V.int r2, V.str [], V.str [], .own 103, V.bool false]), (103, .vec false 111 5 ([r4.1.tree].map encSTree)), (101, .vec false 9 1 (r4.2.2.2.map encS)), (0, .cells 108 [.sl false false (p0_0.map encSToken), V.int r4.2.1, V.bool r4.2.2.1, .own 101])] mix (by
  refine W.run D_ok 3 103 (by kernel_rfl) ?_
  refine W.layop D_ok (show LayOk _ [] from trivial) (by kernel_rfl) 103 { v := .own 103, R := [], new := [(103, .vec true 111 5 [[V.int r4.1.tree.kind, V.int r4.1.tree.op, V.str r4.1.tree.text, V.str r4.1.tree.other, .sl false false (r4.1.tree.kids.map encSTree)]])], N := [103] } (by kernel_rfl) ?_
  refine W.vecEq 103 (nn := true) (e := 111) (k := 5) (rows := [[V.int r4.1.tree.kind, V.int r4.1.tree.op, V.str r4.1.tree.text, V.str r4.1.tree.other, .sl false false (r4.1.tree.kids.map encSTree)]]) (rows' := [r4.1.tree].map encSTree) (by kernel_rfl) (by simp only [List.map_cons, List.map_nil, encSTree_eq]) ?_
  refine W.run D_ok 3 104 (by kernel_rfl) ?_
  exact W.fi (by kernel_rfl)
  ) ?_
 refine CodeOk.lay (tl 22 [(2, .loc 100 0)]) [(100, .cells 113 [V.int 9, V.int r2, V.str [], V.str [], .sl false false ([r4.1.tree].map encSTree), V.bool false]), (101, .vec false 9 1 (r4.2.2.2.map encS)), (0, .cells 108 [.sl false false (p0_0.map encSToken), V.int r4.2.1, V.bool r4.2.2.1, .own 101])] (LayOk.cons (j := 103) encSTree encSTree ([r4.1.tree] : List STree) (by kernel_rfl) (share_encSTree) (show LayOk _ [] from trivial)) (by kernel_rfl) (by kernel_rfl) (by kernel_rfl) ?_
 refine CodeOk.ret ?_
 have h := Option.some.inj h
 subst h
 exact Ends.gen [(0, 0), (101, 100)] (.inr rfl) (RetV.one rfl (OneR.cell D_ok (r := .agg [V.int 9, V.int r2, V.str [], V.str [], .sl false false ([r4.1.tree].map encSTree), V.bool false]) (i := 100) (ety := 113) (cs := [V.int 9, V.int r2, V.str [], V.str [], .sl false false ([r4.1.tree].map encSTree), V.bool false]) (by kernel_rfl) (by kernel_rfl) (by kernel_rfl))) (by kernel_rfl) (by kernel_rfl) (by kernel_rfl)

theorem m_impl_parser__incr_F_ok (N : Nat) (R : Rec1) (HR : RecOk1 R) (p0_0 : List SToken) (p0_1 : Int) (p0_2 : Bool) (p1 : List (List UInt8)) {r : (SPart × Int × Bool × (List (List UInt8)))} (h : m_impl_parser__incr_F N R p0_0 p0_1 p0_2 p1 = some r) :
    AC Tryd.prog (GS []) 111 [.loc 0 0] [(0, .cells 108 [.sl false false (p0_0.map encSToken), V.int p0_1, V.bool p0_2, .own 1]), (1, .vec false 9 1 (p1.map encS))] (.agg [V.int r.1.tree.kind, V.int r.1.tree.op, V.str r.1.tree.text, V.str r.1.tree.other, .sl false false (r.1.tree.kids.map encSTree), V.bool r.1.target]) [(0, .cells 108 [.sl false false (p0_0.map encSToken), V.int r.2.1, V.bool r.2.2.1, .own 100]), (100, .vec false 9 1 (r.2.2.2.map encS))] := by
 rw [m_impl_parser__incr_F] at h
 refine AC.enter Tryd.func111 rfl ?_
 refine cu D_ok mix 1 100 (tl 50 [(0, .loc 0 0), (2, .loc 100 0)]) [(100, .cells 113 [V.int 0, V.int 0, V.str [], V.str [], .c (.slice none 0 0), V.bool false]), (0, .cells 108 [.sl false false (p0_0.map encSToken), V.int p0_1, V.bool p0_2, .own 1]), (1, .vec false 9 1 (p1.map encS))] (by kernel_rfl) ?_
 refine CodeOk.seq' ?_
 (revert h; refine bind_rev fun y10 hv14 h => ?_)
 refine CodeOk.cutR (tl 50 [(0, .loc 0 0), (2, .loc 100 0), (14, V.bool y10)]) [(0, .cells 108 [.sl false false (p0_0.map encSToken), V.int p0_1, V.bool p0_2, .own 1]), (100, .cells 113 [V.int 0, V.int 0, V.str [], V.str [], .c (.slice none 0 0), V.bool false]), (1, .vec false 9 1 (p1.map encS))] mix (by
  refine W.run D_ok 6 101 (by kernel_rfl) ?_
  (revert hv14; refine cond_rev (fun hc15 hv14 => ?_) (fun hc15 hv14 => ?_))
  ·refine W.is 10 hc15 (by kernel_rfl) ?_
   refine W.run D_ok 1 101 (by kernel_rfl) ?_
   (revert hv14; refine bind_rev fun r11 hx16 hv14 => ?_)
   refine W.call (m_impl_parser__kind_ok p0_0 p0_1 p0_2 p1 hx16) cok97 [(0, 0), (1, 1)] [(0, 0), (1, 1)] [] (show LayOk _ [] from trivial) (by kernel_rfl) (by kernel_rfl) ?_
   (revert hv14; refine bind_rev fun r12 hx17 hv14 => ?_)
   refine W.call0 (m_impl_isStep_ok r11 hx17) cok49 rfl (by kernel_rfl) ?_
   refine W.run D_ok 1 101 (by kernel_rfl) ?_
   have hv14 := Option.some.inj hv14
   subst hv14
   exact W.fs [(0, 0), (100, 100), (1, 1)] [0, 2, 14] (by kernel_rfl)
  refine W.is 10 hc15 (by kernel_rfl) ?_
  refine W.run D_ok 4 101 (by kernel_rfl) ?_
  have hv14 := Option.some.inj hv14
  subst hv14
  exact W.fs [(0, 0), (100, 100), (1, 1)] [0, 2, 14] (by kernel_rfl)
  ) ?_
 (revert h; refine cond_rev (fun hc18 h => ?_) (fun hc18 h => ?_))
 ·refine CodeOk.ifT hc18 (by kernel_rfl) ?_
  (revert h; refine bind_rev fun r14 hx20 h => ?_)
  refine CodeOk.cutR (tl 50 [(2, .loc 100 0)]) [(100, .cells 113 [V.int r14.1.tree.kind, V.int r14.1.tree.op, V.str r14.1.tree.text, V.str r14.1.tree.other, .sl false false (r14.1.tree.kids.map encSTree), V.bool r14.1.target]), (101, .vec false 9 1 (r14.2.2.2.map encS)), (0, .cells 108 [.sl false false (p0_0.map encSToken), V.int r14.2.1, V.bool r14.2.2.1, .own 101])] mix (by
   refine W.run D_ok 1 101 (by kernel_rfl) ?_
   refine W.call (HR.m_impl_parser__before p0_0 p0_1 p0_2 p1 _ hx20) cok112 [(0, 0), (1, 1)] [(0, 0), (100, 101)] [101] (show LayOk _ [] from trivial) (by kernel_rfl) (by kernel_rfl) ?_
   refine W.run D_ok 1 102 (by kernel_rfl) ?_
   exact W.fi (by kernel_rfl)
   ) ?_
  refine CodeOk.ret ?_
  have h := Option.some.inj h
  subst h
  exact Ends.gen [(0, 0), (101, 100)] (.inr rfl) (RetV.one rfl (OneR.cell D_ok (r := .agg [V.int r14.1.tree.kind, V.int r14.1.tree.op, V.str r14.1.tree.text, V.str r14.1.tree.other, .sl false false (r14.1.tree.kids.map encSTree), V.bool r14.1.target]) (i := 100) (ety := 113) (cs := [V.int r14.1.tree.kind, V.int r14.1.tree.op, V.str r14.1.tree.text, V.str r14.1.tree.other, .sl false false (r14.1.tree.kids.map encSTree), V.bool r14.1.target]) (by kernel_rfl) (by kernel_rfl) (by kernel_rfl))) (by kernel_rfl) (by kernel_rfl) (by kernel_rfl)
 refine CodeOk.ifF hc18 (by kernel_rfl) ?_
 refine CodeOk.skip ?_
 (revert h; refine bind_rev fun r16 hx22 h => ?_)
 refine CodeOk.cutR (tl 50 [(0, .loc 0 0), (2, .loc 100 0), (3, .loc 102 0)]) [(102, .cells 113 [V.int r16.1.tree.kind, V.int r16.1.tree.op, V.str r16.1.tree.text, V.str r16.1.tree.other, .sl false false (r16.1.tree.kids.map encSTree), V.bool r16.1.target]), (101, .vec false 9 1 (r16.2.2.2.map encS)), (0, .cells 108 [.sl false false (p0_0.map encSToken), V.int r16.2.1, V.bool r16.2.2.1, .own 101]), (100, .cells 113 [V.int 0, V.int 0, V.str [], V.str [], .c (.slice none 0 0), V.bool false])] mix (by
  refine W.run D_ok 1 101 (by kernel_rfl) ?_
  refine W.call (HR.m_impl_parser__field p0_0 p0_1 p0_2 p1 _ hx22) cok113 [(0, 0), (1, 1)] [(0, 0), (100, 101)] [101] (show LayOk _ [] from trivial) (by kernel_rfl) (by kernel_rfl) ?_
  refine W.run D_ok 2 102 (by kernel_rfl) ?_
  exact W.fi (by kernel_rfl)
  ) ?_
 refine CodeOk.seq' ?_
 (revert h; refine bind_rev fun y24 hv37 h => ?_)
 refine CodeOk.cutR (tl 50 [(0, .loc 0 0), (2, .loc 100 0), (3, .loc 101 0), (33, V.bool y24)]) [(0, .cells 108 [.sl false false (p0_0.map encSToken), V.int r16.2.1, V.bool r16.2.2.1, .own 102]), (100, .cells 113 [V.int 0, V.int 0, V.str [], V.str [], .c (.slice none 0 0), V.bool false]), (101, .cells 113 [V.int r16.1.tree.kind, V.int r16.1.tree.op, V.str r16.1.tree.text, V.str r16.1.tree.other, .sl false false (r16.1.tree.kids.map encSTree), V.bool r16.1.target]), (102, .vec false 9 1 (r16.2.2.2.map encS))] mix (by
  refine W.run D_ok 5 103 (by kernel_rfl) ?_
  (revert hv37; refine cond_rev (fun hc38 hv37 => ?_) (fun hc38 hv37 => ?_))
  ·refine W.is 23 hc38 (by kernel_rfl) ?_
   refine W.run D_ok 10 103 (by kernel_rfl) ?_
   have hv37 := Option.some.inj hv37
   subst hv37
   exact W.fs [(0, 0), (100, 100), (102, 101), (101, 102)] [0, 2, 3, 33] (by kernel_rfl)
  refine W.is 23 hc38 (by kernel_rfl) ?_
  refine W.run D_ok 5 103 (by kernel_rfl) ?_
  (revert hv37; refine cond_rev (fun hc39 hv37 => ?_) (fun hc39 hv37 => ?_))
  ·refine W.is 28 hc39 (by kernel_rfl) ?_
   refine W.run D_ok 5 103 (by kernel_rfl) ?_
   have hv37 := Option.some.inj hv37
   subst hv37
   exact W.fs [(0, 0), (100, 100), (102, 101), (101, 102)] [0, 2, 3, 33] (by kernel_rfl)
  refine W.is 28 hc39 (by kernel_rfl) ?_
  refine W.run D_ok 1 103 (by kernel_rfl) ?_
  (revert hv37; refine bind_rev fun r25 hx40 hv37 => ?_)
  refine W.call (m_impl_parser__kind_ok p0_0 r16.2.1 r16.2.2.1 r16.2.2.2 hx40) cok97 [(0, 0), (101, 1)] [(0, 0), (1, 101)] [] (show LayOk _ [] from trivial) (by kernel_rfl) (by kernel_rfl) ?_
  (revert hv37; refine bind_rev fun r26 hx41 hv37 => ?_)
  refine W.call0 (m_impl_isStep_ok r25 hx41) cok49 rfl (by kernel_rfl) ?_
  refine W.run D_ok 2 103 (by kernel_rfl) ?_
  have hv37 := Option.some.inj hv37
  subst hv37
  exact W.fs [(0, 0), (100, 100), (102, 101), (101, 102)] [0, 2, 3, 33] (by kernel_rfl)
  ) ?_
 (revert h; refine cond_rev (fun hc42 h => ?_) (fun hc42 h => ?_))
 ·refine CodeOk.ifT hc42 (by kernel_rfl) ?_
  refine cu D_ok mix 2 103 (tl 50 [(2, .loc 100 0)]) [(100, .cells 113 [V.int r16.1.tree.kind, V.int r16.1.tree.op, V.str r16.1.tree.text, V.str r16.1.tree.other, .sl false false (r16.1.tree.kids.map encSTree), V.bool r16.1.target]), (0, .cells 108 [.sl false false (p0_0.map encSToken), V.int r16.2.1, V.bool r16.2.2.1, .own 102]), (102, .vec false 9 1 (r16.2.2.2.map encS))] (by kernel_rfl) ?_
  refine CodeOk.ret ?_
  have h := Option.some.inj h
  subst h
  exact Ends.gen [(0, 0), (102, 100)] (.inr rfl) (RetV.one rfl (OneR.cell D_ok (r := .agg [V.int r16.1.tree.kind, V.int r16.1.tree.op, V.str r16.1.tree.text, V.str r16.1.tree.other, .sl false false (r16.1.tree.kids.map encSTree), V.bool r16.1.target]) (i := 100) (ety := 113) (cs := [V.int r16.1.tree.kind, V.int r16.1.tree.op, V.str r16.1.tree.text, V.str r16.1.tree.other, .sl false false (r16.1.tree.kids.map encSTree), V.bool r16.1.target]) (by kernel_rfl) (by kernel_rfl) (by kernel_rfl))) (by kernel_rfl) (by kernel_rfl) (by kernel_rfl)
 refine CodeOk.ifF hc42 (by kernel_rfl) ?_
 refine CodeOk.skip ?_
 (revert h; refine bind_rev fun r28 hx44 h => ?_)
 refine CodeOk.cutR (tl 50 [(0, .loc 0 0), (2, .loc 100 0), (3, .loc 101 0), (4, V.int r28)]) [(0, .cells 108 [.sl false false (p0_0.map encSToken), V.int r16.2.1, V.bool r16.2.2.1, .own 102]), (100, .cells 113 [V.int 0, V.int 0, V.str [], V.str [], .c (.slice none 0 0), V.bool false]), (101, .cells 113 [V.int r16.1.tree.kind, V.int r16.1.tree.op, V.str r16.1.tree.text, V.str r16.1.tree.other, .sl false false (r16.1.tree.kids.map encSTree), V.bool r16.1.target]), (102, .vec false 9 1 (r16.2.2.2.map encS))] mix (by
  refine W.run D_ok 1 103 (by kernel_rfl) ?_
  refine W.call (m_impl_parser__kind_ok p0_0 r16.2.1 r16.2.2.1 r16.2.2.2 hx44) cok97 [(0, 0), (102, 1)] [(0, 0), (1, 102)] [] (show LayOk _ [] from trivial) (by kernel_rfl) (by kernel_rfl) ?_
  refine W.run D_ok 1 103 (by kernel_rfl) ?_
  exact W.fi (by kernel_rfl)
  ) ?_
 refine cu D_ok mix 8 103 (tl 50 [(2, .loc 100 0), (3, .loc 101 0), (4, V.int r28)]) [(0, .cells 108 [.sl false false (p0_0.map encSToken), V.int (IntKind.wrap .i64 (r16.2.1 + 1)), V.bool r16.2.2.1, .own 102]), (100, .cells 113 [V.int 0, V.int 0, V.str [], V.str [], .c (.slice none 0 0), V.bool false]), (101, .cells 113 [V.int r16.1.tree.kind, V.int r16.1.tree.op, V.str r16.1.tree.text, V.str r16.1.tree.other, .sl false false (r16.1.tree.kids.map encSTree), V.bool r16.1.target]), (102, .vec false 9 1 (r16.2.2.2.map encS))] (by kernel_rfl) ?_
 refine CodeOk.cutR (tl 50 [(2, .loc 100 0)]) [(100, .cells 113 [V.int 10, V.int r28, V.str [], V.str [], .own 103, V.bool false]), (103, .vec false 111 5 ([r16.1.tree].map encSTree)), (0, .cells 108 [.sl false false (p0_0.map encSToken), V.int (IntKind.wrap .i64 (r16.2.1 + 1)), V.bool r16.2.2.1, .own 102]), (102, .vec false 9 1 (r16.2.2.2.map encS))] mix (by
  refine W.run D_ok 3 103 (by kernel_rfl) ?_
  refine W.layop D_ok (show LayOk _ [] from trivial) (by kernel_rfl) 103 { v := .own 103, R := [], new := [(103, .vec true 111 5 [[V.int r16.1.tree.kind, V.int r16.1.tree.op, V.str r16.1.tree.text, V.str r16.1.tree.other, .sl false false (r16.1.tree.kids.map encSTree)]])], N := [103] } (by kernel_rfl) ?_
  refine W.vecEq 103 (nn := true) (e := 111) (k := 5) (rows := [[V.int r16.1.tree.kind, V.int r16.1.tree.op, V.str r16.1.tree.text, V.str r16.1.tree.other, .sl false false (r16.1.tree.kids.map encSTree)]]) (rows' := [r16.1.tree].map encSTree) (by kernel_rfl) (by simp only [List.map_cons, List.map_nil, encSTree_eq]) ?_
  refine W.run D_ok 3 104 (by kernel_rfl) ?_
  exact W.fi (by kernel_rfl)
  ) ?_
 refine CodeOk.lay (tl 50 [(2, .loc 100 0)]) [(100, .cells 113 [V.int 10, V.int r28, V.str [], V.str [], .sl false false ([r16.1.tree].map encSTree), V.bool false]), (0, .cells 108 [.sl false false (p0_0.map encSToken), V.int (IntKind.wrap .i64 (r16.2.1 + 1)), V.bool r16.2.2.1, .own 102]), (102, .vec false 9 1 (r16.2.2.2.map encS))] (LayOk.cons (j := 103) encSTree encSTree ([r16.1.tree] : List STree) (by kernel_rfl) (share_encSTree) (show LayOk _ [] from trivial)) (by kernel_rfl) (by kernel_rfl) (by kernel_rfl) ?_
 refine CodeOk.ret ?_
 have h := Option.some.inj h
 subst h
 exact Ends.gen [(0, 0), (102, 100)] (.inr rfl) (RetV.one rfl (OneR.cell D_ok (r := .agg [V.int 10, V.int r28, V.str [], V.str [], .sl false false ([r16.1.tree].map encSTree), V.bool false]) (i := 100) (ety := 113) (cs := [V.int 10, V.int r28, V.str [], V.str [], .sl false false ([r16.1.tree].map encSTree), V.bool false]) (by kernel_rfl) (by kernel_rfl) (by kernel_rfl))) (by kernel_rfl) (by kernel_rfl) (by kernel_rfl)

theorem m_impl_parser__pow_F_ok (N : Nat) (R : Rec1) (HR : RecOk1 R) (a1 : SRules) (p0_0 : List SToken) (p0_1 : Int) (p0_2 : Bool) (p1 : List (List UInt8)) {r : (SPart × Int × Bool × (List (List UInt8)))} (h : m_impl_parser__pow_F N R a1 p0_0 p0_1 p0_2 p1 = some r) :
    AC Tryd.prog (GS []) 110 [.loc 0 0, .agg [V.bool a1.noIn, V.bool a1.noGt]] [(0, .cells 108 [.sl false false (p0_0.map encSToken), V.int p0_1, V.bool p0_2, .own 1]), (1, .vec false 9 1 (p1.map encS))] (.agg [V.int r.1.tree.kind, V.int r.1.tree.op, V.str r.1.tree.text, V.str r.1.tree.other, .sl false false (r.1.tree.kids.map encSTree), V.bool r.1.target]) [(0, .cells 108 [.sl false false (p0_0.map encSToken), V.int r.2.1, V.bool r.2.2.1, .own 100]), (100, .vec false 9 1 (r.2.2.2.map encS))] := by
 rw [m_impl_parser__pow_F] at h
 refine AC.enter Tryd.func110 rfl ?_
 refine cu D_ok mix 2 100 (tl 30 [(0, .loc 0 0), (3, .loc 100 0), (4, .loc 101 0)]) [(101, .cells 113 [V.int 0, V.int 0, V.str [], V.str [], .c (.slice none 0 0), V.bool false]), (100, .cells 138 [V.bool a1.noIn, V.bool a1.noGt]), (0, .cells 108 [.sl false false (p0_0.map encSToken), V.int p0_1, V.bool p0_2, .own 1]), (1, .vec false 9 1 (p1.map encS))] (by kernel_rfl) ?_
 (revert h; refine bind_rev fun r2 hx2 h => ?_)
 refine CodeOk.cutR (tl 30 [(0, .loc 0 0), (3, .loc 100 0), (4, .loc 101 0), (5, .loc 103 0)]) [(103, .cells 113 [V.int r2.1.tree.kind, V.int r2.1.tree.op, V.str r2.1.tree.text, V.str r2.1.tree.other, .sl false false (r2.1.tree.kids.map encSTree), V.bool r2.1.target]), (102, .vec false 9 1 (r2.2.2.2.map encS)), (101, .cells 113 [V.int 0, V.int 0, V.str [], V.str [], .c (.slice none 0 0), V.bool false]), (100, .cells 138 [V.bool a1.noIn, V.bool a1.noGt]), (0, .cells 108 [.sl false false (p0_0.map encSToken), V.int r2.2.1, V.bool r2.2.2.1, .own 102])] mix (by
  refine W.run D_ok 1 102 (by kernel_rfl) ?_
  refine W.call (HR.m_impl_parser__incr p0_0 p0_1 p0_2 p1 _ hx2) cok111 [(0, 0), (1, 1)] [(0, 0), (100, 102)] [102] (show LayOk _ [] from trivial) (by kernel_rfl) (by kernel_rfl) ?_
  refine W.run D_ok 2 103 (by kernel_rfl) ?_
  exact W.fi (by kernel_rfl)
  ) ?_
 refine CodeOk.seq' ?_
 (revert h; refine bind_rev fun y7 hv11 h => ?_)
 refine CodeOk.cutR (tl 30 [(0, .loc 0 0), (3, .loc 100 0), (4, .loc 101 0), (5, .loc 102 0), (16, V.bool y7)]) [(0, .cells 108 [.sl false false (p0_0.map encSToken), V.int r2.2.1, V.bool r2.2.2.1, .own 103]), (100, .cells 138 [V.bool a1.noIn, V.bool a1.noGt]), (101, .cells 113 [V.int 0, V.int 0, V.str [], V.str [], .c (.slice none 0 0), V.bool false]), (102, .cells 113 [V.int r2.1.tree.kind, V.int r2.1.tree.op, V.str r2.1.tree.text, V.str r2.1.tree.other, .sl false false (r2.1.tree.kids.map encSTree), V.bool r2.1.target]), (103, .vec false 9 1 (r2.2.2.2.map encS))] mix (by
  refine W.run D_ok 5 104 (by kernel_rfl) ?_
  (revert hv11; refine cond_rev (fun hc12 hv11 => ?_) (fun hc12 hv11 => ?_))
  ·refine W.is 12 hc12 (by kernel_rfl) ?_
   refine W.run D_ok 4 104 (by kernel_rfl) ?_
   have hv11 := Option.some.inj hv11
   subst hv11
   exact W.fs [(0, 0), (100, 100), (101, 101), (103, 102), (102, 103)] [0, 3, 4, 5, 16] (by kernel_rfl)
  refine W.is 12 hc12 (by kernel_rfl) ?_
  refine W.run D_ok 1 104 (by kernel_rfl) ?_
  (revert hv11; refine bind_rev fun r8 hx13 hv11 => ?_)
  refine W.call (m_impl_parser__kind_ok p0_0 r2.2.1 r2.2.2.1 r2.2.2.2 hx13) cok97 [(0, 0), (102, 1)] [(0, 0), (1, 102)] [] (show LayOk _ [] from trivial) (by kernel_rfl) (by kernel_rfl) ?_
  refine W.run D_ok 2 104 (by kernel_rfl) ?_
  have hv11 := Option.some.inj hv11
  subst hv11
  exact W.fs [(0, 0), (100, 100), (101, 101), (103, 102), (102, 103)] [0, 3, 4, 5, 16] (by kernel_rfl)
  ) ?_
 (revert h; refine cond_rev (fun hc14 h => ?_) (fun hc14 h => ?_))
 ·refine CodeOk.ifT hc14 (by kernel_rfl) ?_
  refine cu D_ok mix 2 104 (tl 30 [(4, .loc 101 0)]) [(101, .cells 113 [V.int r2.1.tree.kind, V.int r2.1.tree.op, V.str r2.1.tree.text, V.str r2.1.tree.other, .sl false false (r2.1.tree.kids.map encSTree), V.bool r2.1.target]), (0, .cells 108 [.sl false false (p0_0.map encSToken), V.int r2.2.1, V.bool r2.2.2.1, .own 103]), (103, .vec false 9 1 (r2.2.2.2.map encS))] (by kernel_rfl) ?_
  refine CodeOk.ret ?_
  have h := Option.some.inj h
  subst h
  exact Ends.gen [(0, 0), (103, 100)] (.inr rfl) (RetV.one rfl (OneR.cell D_ok (r := .agg [V.int r2.1.tree.kind, V.int r2.1.tree.op, V.str r2.1.tree.text, V.str r2.1.tree.other, .sl false false (r2.1.tree.kids.map encSTree), V.bool r2.1.target]) (i := 101) (ety := 113) (cs := [V.int r2.1.tree.kind, V.int r2.1.tree.op, V.str r2.1.tree.text, V.str r2.1.tree.other, .sl false false (r2.1.tree.kids.map encSTree), V.bool r2.1.target]) (by kernel_rfl) (by kernel_rfl) (by kernel_rfl))) (by kernel_rfl) (by kernel_rfl) (by kernel_rfl)
 refine CodeOk.ifF hc14 (by kernel_rfl) ?_
 refine CodeOk.skip ?_
 refine cu D_ok mix 8 104 (tl 30 [(0, .loc 0 0), (3, .loc 100 0), (4, .loc 101 0), (5, .loc 102 0)]) [(0, .cells 108 [.sl false false (p0_0.map encSToken), V.int (IntKind.wrap .i64 (r2.2.1 + 1)), V.bool r2.2.2.1, .own 103]), (100, .cells 138 [V.bool a1.noIn, V.bool a1.noGt]), (101, .cells 113 [V.int 0, V.int 0, V.str [], V.str [], .c (.slice none 0 0), V.bool false]), (102, .cells 113 [V.int r2.1.tree.kind, V.int r2.1.tree.op, V.str r2.1.tree.text, V.str r2.1.tree.other, .sl false false (r2.1.tree.kids.map encSTree), V.bool r2.1.target]), (103, .vec false 9 1 (r2.2.2.2.map encS))] (by kernel_rfl) ?_
 (revert h; refine bind_rev fun r11 hx17 h => ?_)
 (revert h; refine bind_rev fun r12 hx18 h => ?_)
 refine CodeOk.cutR (tl 30 [(4, .loc 101 0)]) [(101, .cells 113 [V.int r12.tree.kind, V.int r12.tree.op, V.str r12.tree.text, V.str r12.tree.other, .sl false false (r12.tree.kids.map encSTree), V.bool r12.target]), (104, .vec false 9 1 (r11.2.2.2.map encS)), (0, .cells 108 [.sl false false (p0_0.map encSToken), V.int r11.2.1, V.bool r11.2.2.1, .own 104])] mix (by
  refine W.run D_ok 3 104 (by kernel_rfl) ?_
  refine W.call (HR.m_impl_parser__unary a1 p0_0 (IntKind.wrap .i64 (r2.2.1 + 1)) r2.2.2.1 r2.2.2.2 _ hx17) cok109 [(0, 0), (103, 1)] [(0, 0), (100, 104)] [104] (show LayOk _ [] from trivial) (by kernel_rfl) (by kernel_rfl) ?_
  refine W.call0 (m_impl_bin_ok 60 r2.1 r11.1 hx18) cok147 rfl (by kernel_rfl) ?_
  refine W.run D_ok 1 105 (by kernel_rfl) ?_
  exact W.fi (by kernel_rfl)
  ) ?_
 refine CodeOk.ret ?_
 have h := Option.some.inj h
 subst h
 exact Ends.gen [(0, 0), (104, 100)] (.inr rfl) (RetV.one rfl (OneR.cell D_ok (r := .agg [V.int r12.tree.kind, V.int r12.tree.op, V.str r12.tree.text, V.str r12.tree.other, .sl false false (r12.tree.kids.map encSTree), V.bool r12.target]) (i := 101) (ety := 113) (cs := [V.int r12.tree.kind, V.int r12.tree.op, V.str r12.tree.text, V.str r12.tree.other, .sl false false (r12.tree.kids.map encSTree), V.bool r12.target]) (by kernel_rfl) (by kernel_rfl) (by kernel_rfl))) (by kernel_rfl) (by kernel_rfl) (by kernel_rfl)

theorem m_impl_parser__unary_F_ok (N : Nat) (R : Rec1) (HR : RecOk1 R) (a1 : SRules) (p0_0 : List SToken) (p0_1 : Int) (p0_2 : Bool) (p1 : List (List UInt8)) {r : (SPart × Int × Bool × (List (List UInt8)))} (h : m_impl_parser__unary_F N R a1 p0_0 p0_1 p0_2 p1 = some r) :
    AC Tryd.prog (GS []) 109 [.loc 0 0, .agg [V.bool a1.noIn, V.bool a1.noGt]] [(0, .cells 108 [.sl false false (p0_0.map encSToken), V.int p0_1, V.bool p0_2, .own 1]), (1, .vec false 9 1 (p1.map encS))] (.agg [V.int r.1.tree.kind, V.int r.1.tree.op, V.str r.1.tree.text, V.str r.1.tree.other, .sl false false (r.1.tree.kids.map encSTree), V.bool r.1.target]) [(0, .cells 108 [.sl false false (p0_0.map encSToken), V.int r.2.1, V.bool r.2.2.1, .own 100]), (100, .vec false 9 1 (r.2.2.2.map encS))] := by
 rw [m_impl_parser__unary_F] at h
 refine AC.enter Tryd.func109 rfl ?_
 refine cu D_ok mix 2 100 (tl 44 [(0, .loc 0 0), (3, .loc 100 0), (4, .loc 101 0)]) [(101, .cells 113 [V.int 0, V.int 0, V.str [], V.str [], .c (.slice none 0 0), V.bool false]), (100, .cells 138 [V.bool a1.noIn, V.bool a1.noGt]), (0, .cells 108 [.sl false false (p0_0.map encSToken), V.int p0_1, V.bool p0_2, .own 1]), (1, .vec false 9 1 (p1.map encS))] (by kernel_rfl) ?_
 (revert h; refine bind_rev fun r2 hx2 h => ?_)
 refine CodeOk.cutR (tl 44 [(0, .loc 0 0), (3, .loc 100 0), (4, .loc 101 0), (5, V.int r2)]) [(101, .cells 113 [V.int 0, V.int 0, V.str [], V.str [], .c (.slice none 0 0), V.bool false]), (100, .cells 138 [V.bool a1.noIn, V.bool a1.noGt]), (0, .cells 108 [.sl false false (p0_0.map encSToken), V.int p0_1, V.bool p0_2, .own 1]), (1, .vec false 9 1 (p1.map encS))] mix (by
  refine W.run D_ok 1 102 (by kernel_rfl) ?_
  refine W.call (m_impl_parser__kind_ok p0_0 p0_1 p0_2 p1 hx2) cok97 [(0, 0), (1, 1)] [(0, 0), (1, 1)] [] (show LayOk _ [] from trivial) (by kernel_rfl) (by kernel_rfl) ?_
  refine W.run D_ok 1 102 (by kernel_rfl) ?_
  exact W.fi (by kernel_rfl)
  ) ?_
 refine CodeOk.seq' ?_
 (revert h; refine bind_rev fun y6 hv16 h => ?_)
 refine CodeOk.cutR (tl 44 [(0, .loc 0 0), (3, .loc 100 0), (4, .loc 101 0), (5, V.int r2), (24, V.bool y6)]) [(0, .cells 108 [.sl false false (p0_0.map encSToken), V.int p0_1, V.bool p0_2, .own 1]), (100, .cells 138 [V.bool a1.noIn, V.bool a1.noGt]), (101, .cells 113 [V.int 0, V.int 0, V.str [], V.str [], .c (.slice none 0 0), V.bool false]), (1, .vec false 9 1 (p1.map encS))] mix (by
  refine W.run D_ok 5 102 (by kernel_rfl) ?_
  (revert hv16; refine cond_rev (fun hc17 hv16 => ?_) (fun hc17 hv16 => ?_))
  ·refine W.is 13 hc17 (by kernel_rfl) ?_
   refine W.run D_ok 11 102 (by kernel_rfl) ?_
   have hv16 := Option.some.inj hv16
   subst hv16
   exact W.fs [(0, 0), (100, 100), (101, 101), (1, 1)] [0, 3, 4, 5, 24] (by kernel_rfl)
  refine W.is 13 hc17 (by kernel_rfl) ?_
  refine W.run D_ok 3 102 (by kernel_rfl) ?_
  (revert hv16; refine cond_rev (fun hc18 hv16 => ?_) (fun hc18 hv16 => ?_))
  ·refine W.is 16 hc18 (by kernel_rfl) ?_
   refine W.run D_ok 4 102 (by kernel_rfl) ?_
   (revert hv16; refine cond_rev (fun hc19 hv16 => ?_) (fun hc19 hv16 => ?_))
   ·refine W.is 20 hc19 (by kernel_rfl) ?_
    refine W.run D_ok 4 102 (by kernel_rfl) ?_
    have hv16 := Option.some.inj hv16
    subst hv16
    exact W.fs [(0, 0), (100, 100), (101, 101), (1, 1)] [0, 3, 4, 5, 24] (by kernel_rfl)
   refine W.is 20 hc19 (by kernel_rfl) ?_
   refine W.run D_ok 4 102 (by kernel_rfl) ?_
   have hv16 := Option.some.inj hv16
   subst hv16
   exact W.fs [(0, 0), (100, 100), (101, 101), (1, 1)] [0, 3, 4, 5, 24] (by kernel_rfl)
  refine W.is 16 hc18 (by kernel_rfl) ?_
  refine W.run D_ok 8 102 (by kernel_rfl) ?_
  have hv16 := Option.some.inj hv16
  subst hv16
  exact W.fs [(0, 0), (100, 100), (101, 101), (1, 1)] [0, 3, 4, 5, 24] (by kernel_rfl)
  ) ?_
 (revert h; refine cond_rev (fun hc20 h => ?_) (fun hc20 h => ?_))
 ·refine CodeOk.ifT hc20 (by kernel_rfl) ?_
  (revert h; refine bind_rev fun r8 hx22 h => ?_)
  refine CodeOk.cutR (tl 44 [(4, .loc 101 0)]) [(101, .cells 113 [V.int r8.1.tree.kind, V.int r8.1.tree.op, V.str r8.1.tree.text, V.str r8.1.tree.other, .sl false false (r8.1.tree.kids.map encSTree), V.bool r8.1.target]), (102, .vec false 9 1 (r8.2.2.2.map encS)), (0, .cells 108 [.sl false false (p0_0.map encSToken), V.int r8.2.1, V.bool r8.2.2.1, .own 102])] mix (by
   refine W.run D_ok 2 102 (by kernel_rfl) ?_
   refine W.call (HR.m_impl_parser__pow a1 p0_0 p0_1 p0_2 p1 _ hx22) cok110 [(0, 0), (1, 1)] [(0, 0), (100, 102)] [102] (show LayOk _ [] from trivial) (by kernel_rfl) (by kernel_rfl) ?_
   refine W.run D_ok 1 103 (by kernel_rfl) ?_
   exact W.fi (by kernel_rfl)
   ) ?_
  refine CodeOk.ret ?_
  have h := Option.some.inj h
  subst h
  exact Ends.gen [(0, 0), (102, 100)] (.inr rfl) (RetV.one rfl (OneR.cell D_ok (r := .agg [V.int r8.1.tree.kind, V.int r8.1.tree.op, V.str r8.1.tree.text, V.str r8.1.tree.other, .sl false false (r8.1.tree.kids.map encSTree), V.bool r8.1.target]) (i := 101) (ety := 113) (cs := [V.int r8.1.tree.kind, V.int r8.1.tree.op, V.str r8.1.tree.text, V.str r8.1.tree.other, .sl false false (r8.1.tree.kids.map encSTree), V.bool r8.1.target]) (by kernel_rfl) (by kernel_rfl) (by kernel_rfl))) (by kernel_rfl) (by kernel_rfl) (by kernel_rfl)
 refine CodeOk.ifF hc20 (by kernel_rfl) ?_
 refine CodeOk.skip ?_
 refine cu D_ok mix 8 102 (tl 44 [(0, .loc 0 0), (3, .loc 100 0), (4, .loc 101 0), (5, V.int r2)]) [(0, .cells 108 [.sl false false (p0_0.map encSToken), V.int (IntKind.wrap .i64 (p0_1 + 1)), V.bool p0_2, .own 1]), (100, .cells 138 [V.bool a1.noIn, V.bool a1.noGt]), (101, .cells 113 [V.int 0, V.int 0, V.str [], V.str [], .c (.slice none 0 0), V.bool false]), (1, .vec false 9 1 (p1.map encS))] (by kernel_rfl) ?_
 (revert h; refine bind_rev fun r10 hx24 h => ?_)
 refine CodeOk.cutR (tl 44 [(4, .loc 101 0), (5, V.int r2), (6, .loc 103 0)]) [(103, .cells 113 [V.int r10.1.tree.kind, V.int r10.1.tree.op, V.str r10.1.tree.text, V.str r10.1.tree.other, .sl false false (r10.1.tree.kids.map encSTree), V.bool r10.1.target]), (102, .vec false 9 1 (r10.2.2.2.map encS)), (0, .cells 108 [.sl false false (p0_0.map encSToken), V.int r10.2.1, V.bool r10.2.2.1, .own 102]), (101, .cells 113 [V.int 0, V.int 0, V.str [], V.str [], .c (.slice none 0 0), V.bool false])] mix (by
  refine W.run D_ok 2 102 (by kernel_rfl) ?_
  refine W.call (HR.m_impl_parser__unary a1 p0_0 (IntKind.wrap .i64 (p0_1 + 1)) p0_2 p1 _ hx24) cok109 [(0, 0), (1, 1)] [(0, 0), (100, 102)] [102] (show LayOk _ [] from trivial) (by kernel_rfl) (by kernel_rfl) ?_
  refine W.run D_ok 2 103 (by kernel_rfl) ?_
  exact W.fi (by kernel_rfl)
  ) ?_
 refine CodeOk.cutR (tl 44 [(4, .loc 101 0)]) [(101, .cells 113 [V.int 11, V.int r2, V.str [], V.str [], .own 104, V.bool false]), (104, .vec false 111 5 ([r10.1.tree].map encSTree)), (102, .vec false 9 1 (r10.2.2.2.map encS)), (0, .cells 108 [.sl false false (p0_0.map encSToken), V.int r10.2.1, V.bool r10.2.2.1, .own 102])] mix (by
  refine W.run D_ok 3 104 (by kernel_rfl) ?_
  refine W.layop D_ok (show LayOk _ [] from trivial) (by kernel_rfl) 104 { v := .own 104, R := [], new := [(104, .vec true 111 5 [[V.int r10.1.tree.kind, V.int r10.1.tree.op, V.str r10.1.tree.text, V.str r10.1.tree.other, .sl false false (r10.1.tree.kids.map encSTree)]])], N := [104] } (by kernel_rfl) ?_
  refine W.vecEq 104 (nn := true) (e := 111) (k := 5) (rows := [[V.int r10.1.tree.kind, V.int r10.1.tree.op, V.str r10.1.tree.text, V.str r10.1.tree.other, .sl false false (r10.1.tree.kids.map encSTree)]]) (rows' := [r10.1.tree].map encSTree) (by kernel_rfl) (by simp only [List.map_cons, List.map_nil, encSTree_eq]) ?_
  refine W.run D_ok 3 105 (by kernel_rfl) ?_
  exact W.fi (by kernel_rfl)
  ) ?_
 refine CodeOk.lay (tl 44 [(4, .loc 101 0)]) [(101, .cells 113 [V.int 11, V.int r2, V.str [], V.str [], .sl false false ([r10.1.tree].map encSTree), V.bool false]), (102, .vec false 9 1 (r10.2.2.2.map encS)), (0, .cells 108 [.sl false false (p0_0.map encSToken), V.int r10.2.1, V.bool r10.2.2.1, .own 102])] (LayOk.cons (j := 104) encSTree encSTree ([r10.1.tree] : List STree) (by kernel_rfl) (share_encSTree) (show LayOk _ [] from trivial)) (by kernel_rfl) (by kernel_rfl) (by kernel_rfl) ?_
 refine CodeOk.ret ?_
 have h := Option.some.inj h
 subst h
 exact Ends.gen [(0, 0), (102, 100)] (.inr rfl) (RetV.one rfl (OneR.cell D_ok (r := .agg [V.int 11, V.int r2, V.str [], V.str [], .sl false false ([r10.1.tree].map encSTree), V.bool false]) (i := 101) (ety := 113) (cs := [V.int 11, V.int r2, V.str [], V.str [], .sl false false ([r10.1.tree].map encSTree), V.bool false]) (by kernel_rfl) (by kernel_rfl) (by kernel_rfl))) (by kernel_rfl) (by kernel_rfl) (by kernel_rfl)

theorem m_impl_parser__mul_F_ok (N : Nat) (R : Rec1) (HR : RecOk1 R) (a1 : SRules) (p0_0 : List SToken) (p0_1 : Int) (p0_2 : Bool) (p1 : List (List UInt8)) {r : (SPart × Int × Bool × (List (List UInt8)))} (h : m_impl_parser__mul_F N R a1 p0_0 p0_1 p0_2 p1 = some r) :
    AC Tryd.prog (GS []) 108 [.loc 0 0, .agg [V.bool a1.noIn, V.bool a1.noGt]] [(0, .cells 108 [.sl false false (p0_0.map encSToken), V.int p0_1, V.bool p0_2, .own 1]), (1, .vec false 9 1 (p1.map encS))] (.agg [V.int r.1.tree.kind, V.int r.1.tree.op, V.str r.1.tree.text, V.str r.1.tree.other, .sl false false (r.1.tree.kids.map encSTree), V.bool r.1.target]) [(0, .cells 108 [.sl false false (p0_0.map encSToken), V.int r.2.1, V.bool r.2.2.1, .own 100]), (100, .vec false 9 1 (r.2.2.2.map encS))] := by
 rw [m_impl_parser__mul_F] at h
 refine AC.enter Tryd.func108 rfl ?_
 refine cu D_ok mix 2 100 (tl 37 [(0, .loc 0 0), (3, .loc 100 0), (4, .loc 101 0)]) [(101, .cells 113 [V.int 0, V.int 0, V.str [], V.str [], .c (.slice none 0 0), V.bool false]), (100, .cells 138 [V.bool a1.noIn, V.bool a1.noGt]), (0, .cells 108 [.sl false false (p0_0.map encSToken), V.int p0_1, V.bool p0_2, .own 1]), (1, .vec false 9 1 (p1.map encS))] (by kernel_rfl) ?_
 (revert h; refine bind_rev fun r2 hx2 h => ?_)
 refine CodeOk.cutR (tl 37 [(0, .loc 0 0), (3, .loc 100 0), (4, .loc 101 0), (5, .loc 103 0)]) [(103, .cells 113 [V.int r2.1.tree.kind, V.int r2.1.tree.op, V.str r2.1.tree.text, V.str r2.1.tree.other, .sl false false (r2.1.tree.kids.map encSTree), V.bool r2.1.target]), (102, .vec false 9 1 (r2.2.2.2.map encS)), (101, .cells 113 [V.int 0, V.int 0, V.str [], V.str [], .c (.slice none 0 0), V.bool false]), (100, .cells 138 [V.bool a1.noIn, V.bool a1.noGt]), (0, .cells 108 [.sl false false (p0_0.map encSToken), V.int r2.2.1, V.bool r2.2.2.1, .own 102])] mix (by
  refine W.run D_ok 2 102 (by kernel_rfl) ?_
  refine W.call (HR.m_impl_parser__unary a1 p0_0 p0_1 p0_2 p1 _ hx2) cok109 [(0, 0), (1, 1)] [(0, 0), (100, 102)] [102] (show LayOk _ [] from trivial) (by kernel_rfl) (by kernel_rfl) ?_
  refine W.run D_ok 2 103 (by kernel_rfl) ?_
  exact W.fi (by kernel_rfl)
  ) ?_
 refine CodeOk.seq' ?_
 refine CodeOk.block' ?_
 refine CodeOk.loopJ (fun (⟨a1, y85, y86, y87, y88, y89, y90, y91, y92, y93⟩ : (SRules × Int × Bool × Int × Int × (List UInt8) × (List UInt8) × (List STree) × Bool × (List (List UInt8)))) => ⟨tl 37 [(0, .loc 0 0), (3, .loc 100 0), (4, .loc 101 0), (5, .loc 102 0)], [(0, .cells 108 [.sl false false (p0_0.map encSToken), V.int y85, V.bool y86, .own 103]), (100, .cells 138 [V.bool a1.noIn, V.bool a1.noGt]), (101, .cells 113 [V.int 0, V.int 0, V.str [], V.str [], .c (.slice none 0 0), V.bool false]), (102, .cells 113 [V.int y87, V.int y88, V.str y89, V.str y90, .sl false false (y91.map encSTree), V.bool y92]), (103, .vec false 9 1 (y93.map encS))]⟩) (fun n i => m_impl_parser__mul_l1 N R p0_0 n i = some r) (n0 := N) (i0 := (a1, r2.2.1, r2.2.2.1, r2.1.tree.kind, r2.1.tree.op, r2.1.tree.text, r2.1.tree.other, r2.1.tree.kids, r2.1.target, r2.2.2.2)) (Weak.sel [(0, 0), (100, 100), (101, 101), (103, 102), (102, 103)] [0, 3, 4, 5] (by kernel_rfl) (by kernel_rfl) (by kernel_rfl)) h (fun i h => by simp [m_impl_parser__mul_l1] at h) ?_
 rintro n1 ⟨a1, y85, y86, y87, y88, y89, y90, y91, y92, y93⟩ h115 ih116
 rw [m_impl_parser__mul_l1] at h115
 refine CodeOk.seq' ?_
 (revert h115; refine bind_rev fun y126 hv128 h115 => ?_)
 refine CodeOk.cutR (tl 37 [(0, .loc 0 0), (3, .loc 100 0), (4, .loc 101 0), (5, .loc 102 0), (20, V.bool y126)]) [(0, .cells 108 [.sl false false (p0_0.map encSToken), V.int y85, V.bool y86, .own 103]), (100, .cells 138 [V.bool a1.noIn, V.bool a1.noGt]), (101, .cells 113 [V.int 0, V.int 0, V.str [], V.str [], .c (.slice none 0 0), V.bool false]), (102, .cells 113 [V.int y87, V.int y88, V.str y89, V.str y90, .sl false false (y91.map encSTree), V.bool y92]), (103, .vec false 9 1 (y93.map encS))] mix (by
  refine W.run D_ok 6 166 (by kernel_rfl) ?_
  (revert hv128; refine cond_rev (fun hc129 hv128 => ?_) (fun hc129 hv128 => ?_))
  ·refine W.is 15 hc129 (by kernel_rfl) ?_
   refine W.run D_ok 1 166 (by kernel_rfl) ?_
   (revert hv128; refine bind_rev fun r127 hx130 hv128 => ?_)
   refine W.call (m_impl_parser__kind_ok p0_0 y85 y86 y93 hx130) cok97 [(0, 0), (103, 1)] [(0, 0), (1, 103)] [] (show LayOk _ [] from trivial) (by kernel_rfl) (by kernel_rfl) ?_
   (revert hv128; refine bind_rev fun r128 hx131 hv128 => ?_)
   refine W.call0 (m_impl_OpLevel_ok r127 hx131) cok22 rfl (by kernel_rfl) ?_
   refine W.run D_ok 2 166 (by kernel_rfl) ?_
   have hv128 := Option.some.inj hv128
   subst hv128
   exact W.fs [(0, 0), (100, 100), (101, 101), (102, 102), (103, 103)] [0, 3, 4, 5, 20] (by kernel_rfl)
  refine W.is 15 hc129 (by kernel_rfl) ?_
  refine W.run D_ok 5 166 (by kernel_rfl) ?_
  have hv128 := Option.some.inj hv128
  subst hv128
  exact W.fs [(0, 0), (100, 100), (101, 101), (102, 102), (103, 103)] [0, 3, 4, 5, 20] (by kernel_rfl)
  ) ?_
 (revert h115; refine cond_rev (fun hc132 h115 => ?_) (fun hc132 h115 => ?_))
 ·refine CodeOk.ifT hc132 (by kernel_rfl) ?_
  refine CodeOk.skip ?_
  refine CodeOk.block' ?_
  (revert h115; refine bind_rev fun r130 hx134 h115 => ?_)
  refine CodeOk.cutR (tl 37 [(0, .loc 0 0), (3, .loc 100 0), (4, .loc 101 0), (5, .loc 102 0), (6, V.int r130)]) [(0, .cells 108 [.sl false false (p0_0.map encSToken), V.int y85, V.bool y86, .own 103]), (100, .cells 138 [V.bool a1.noIn, V.bool a1.noGt]), (101, .cells 113 [V.int 0, V.int 0, V.str [], V.str [], .c (.slice none 0 0), V.bool false]), (102, .cells 113 [V.int y87, V.int y88, V.str y89, V.str y90, .sl false false (y91.map encSTree), V.bool y92]), (103, .vec false 9 1 (y93.map encS))] mix (by
   refine W.run D_ok 1 166 (by kernel_rfl) ?_
   refine W.call (m_impl_parser__kind_ok p0_0 y85 y86 y93 hx134) cok97 [(0, 0), (103, 1)] [(0, 0), (1, 103)] [] (show LayOk _ [] from trivial) (by kernel_rfl) (by kernel_rfl) ?_
   refine W.run D_ok 1 166 (by kernel_rfl) ?_
   exact W.fi (by kernel_rfl)
   ) ?_
  refine cu D_ok mix 8 166 (tl 37 [(0, .loc 0 0), (3, .loc 100 0), (4, .loc 101 0), (5, .loc 102 0), (6, V.int r130)]) [(0, .cells 108 [.sl false false (p0_0.map encSToken), V.int (IntKind.wrap .i64 (y85 + 1)), V.bool y86, .own 103]), (100, .cells 138 [V.bool a1.noIn, V.bool a1.noGt]), (101, .cells 113 [V.int 0, V.int 0, V.str [], V.str [], .c (.slice none 0 0), V.bool false]), (102, .cells 113 [V.int y87, V.int y88, V.str y89, V.str y90, .sl false false (y91.map encSTree), V.bool y92]), (103, .vec false 9 1 (y93.map encS))] (by kernel_rfl) ?_
  (revert h115; refine bind_rev fun r133 hx137 h115 => ?_)
  (revert h115; refine bind_rev fun r134 hx138 h115 => ?_)
  refine CodeOk.endR (tl 37 [(0, .loc 0 0), (3, .loc 100 0), (4, .loc 101 0), (5, .loc 102 0)]) [(102, .cells 113 [V.int r134.tree.kind, V.int r134.tree.op, V.str r134.tree.text, V.str r134.tree.other, .sl false false (r134.tree.kids.map encSTree), V.bool r134.target]), (166, .vec false 9 1 (r133.2.2.2.map encS)), (0, .cells 108 [.sl false false (p0_0.map encSToken), V.int r133.2.1, V.bool r133.2.2.1, .own 166]), (100, .cells 138 [V.bool a1.noIn, V.bool a1.noGt]), (101, .cells 113 [V.int 0, V.int 0, V.str [], V.str [], .c (.slice none 0 0), V.bool false])] mix (by
   refine W.run D_ok 4 166 (by kernel_rfl) ?_
   refine W.call (HR.m_impl_parser__unary a1 p0_0 (IntKind.wrap .i64 (y85 + 1)) y86 y93 _ hx137) cok109 [(0, 0), (103, 1)] [(0, 0), (100, 166)] [166] (show LayOk _ [] from trivial) (by kernel_rfl) (by kernel_rfl) ?_
   refine W.call0 (m_impl_bin_ok r130 (⟨(⟨y87, y88, y89, y90, y91⟩ : STree), y92⟩ : SPart) r133.1 hx138) cok147 rfl (by kernel_rfl) ?_
   refine W.run D_ok 1 167 (by kernel_rfl) ?_
   exact W.fi (by kernel_rfl)
   ) (fun st hw => ?_)
  exact ih116 (a1, r133.2.1, r133.2.2.1, r134.tree.kind, r134.tree.op, r134.tree.text, r134.tree.other, r134.tree.kids, r134.target, r133.2.2.2) h115 _ (hw.trans (Weak.sel [(0, 0), (100, 100), (101, 101), (102, 102), (166, 103)] [0, 3, 4, 5] (by kernel_rfl) (by kernel_rfl) (by kernel_rfl)))
 refine CodeOk.ifF hc132 (by kernel_rfl) ?_
 refine CodeOk.exit ?_
 refine cu D_ok mix 2 166 (tl 37 [(4, .loc 101 0)]) [(101, .cells 113 [V.int y87, V.int y88, V.str y89, V.str y90, .sl false false (y91.map encSTree), V.bool y92]), (0, .cells 108 [.sl false false (p0_0.map encSToken), V.int y85, V.bool y86, .own 103]), (103, .vec false 9 1 (y93.map encS))] (by kernel_rfl) ?_
 refine CodeOk.ret ?_
 have h115 := Option.some.inj h115
 subst h115
 exact Ends.gen [(0, 0), (103, 100)] (.inr rfl) (RetV.one rfl (OneR.cell D_ok (r := .agg [V.int y87, V.int y88, V.str y89, V.str y90, .sl false false (y91.map encSTree), V.bool y92]) (i := 101) (ety := 113) (cs := [V.int y87, V.int y88, V.str y89, V.str y90, .sl false false (y91.map encSTree), V.bool y92]) (by kernel_rfl) (by kernel_rfl) (by kernel_rfl))) (by kernel_rfl) (by kernel_rfl) (by kernel_rfl)

theorem m_impl_parser__add_F_ok (N : Nat) (R : Rec1) (HR : RecOk1 R) (a1 : SRules) (p0_0 : List SToken) (p0_1 : Int) (p0_2 : Bool) (p1 : List (List UInt8)) {r : (SPart × Int × Bool × (List (List UInt8)))} (h : m_impl_parser__add_F N R a1 p0_0 p0_1 p0_2 p1 = some r) :
    AC Tryd.prog (GS []) 107 [.loc 0 0, .agg [V.bool a1.noIn, V.bool a1.noGt]] [(0, .cells 108 [.sl false false (p0_0.map encSToken), V.int p0_1, V.bool p0_2, .own 1]), (1, .vec false 9 1 (p1.map encS))] (.agg [V.int r.1.tree.kind, V.int r.1.tree.op, V.str r.1.tree.text, V.str r.1.tree.other, .sl false false (r.1.tree.kids.map encSTree), V.bool r.1.target]) [(0, .cells 108 [.sl false false (p0_0.map encSToken), V.int r.2.1, V.bool r.2.2.1, .own 100]), (100, .vec false 9 1 (r.2.2.2.map encS))] := by
 rw [m_impl_parser__add_F] at h
 refine AC.enter Tryd.func107 rfl ?_
 refine cu D_ok mix 2 100 (tl 37 [(0, .loc 0 0), (3, .loc 100 0), (4, .loc 101 0)]) [(101, .cells 113 [V.int 0, V.int 0, V.str [], V.str [], .c (.slice none 0 0), V.bool false]), (100, .cells 138 [V.bool a1.noIn, V.bool a1.noGt]), (0, .cells 108 [.sl false false (p0_0.map encSToken), V.int p0_1, V.bool p0_2, .own 1]), (1, .vec false 9 1 (p1.map encS))] (by kernel_rfl) ?_
 (revert h; refine bind_rev fun r2 hx2 h => ?_)
 refine CodeOk.cutR (tl 37 [(0, .loc 0 0), (3, .loc 100 0), (4, .loc 101 0), (5, .loc 103 0)]) [(103, .cells 113 [V.int r2.1.tree.kind, V.int r2.1.tree.op, V.str r2.1.tree.text, V.str r2.1.tree.other, .sl false false (r2.1.tree.kids.map encSTree), V.bool r2.1.target]), (102, .vec false 9 1 (r2.2.2.2.map encS)), (101, .cells 113 [V.int 0, V.int 0, V.str [], V.str [], .c (.slice none 0 0), V.bool false]), (100, .cells 138 [V.bool a1.noIn, V.bool a1.noGt]), (0, .cells 108 [.sl false false (p0_0.map encSToken), V.int r2.2.1, V.bool r2.2.2.1, .own 102])] mix (by
  refine W.run D_ok 2 102 (by kernel_rfl) ?_
  refine W.call (HR.m_impl_parser__mul a1 p0_0 p0_1 p0_2 p1 _ hx2) cok108 [(0, 0), (1, 1)] [(0, 0), (100, 102)] [102] (show LayOk _ [] from trivial) (by kernel_rfl) (by kernel_rfl) ?_
  refine W.run D_ok 2 103 (by kernel_rfl) ?_
  exact W.fi (by kernel_rfl)
  ) ?_
 refine CodeOk.seq' ?_
 refine CodeOk.block' ?_
 refine CodeOk.loopJ (fun (⟨a1, y85, y86, y87, y88, y89, y90, y91, y92, y93⟩ : (SRules × Int × Bool × Int × Int × (List UInt8) × (List UInt8) × (List STree) × Bool × (List (List UInt8)))) => ⟨tl 37 [(0, .loc 0 0), (3, .loc 100 0), (4, .loc 101 0), (5, .loc 102 0)], [(0, .cells 108 [.sl false false (p0_0.map encSToken), V.int y85, V.bool y86, .own 103]), (100, .cells 138 [V.bool a1.noIn, V.bool a1.noGt]), (101, .cells 113 [V.int 0, V.int 0, V.str [], V.str [], .c (.slice none 0 0), V.bool false]), (102, .cells 113 [V.int y87, V.int y88, V.str y89, V.str y90, .sl false false (y91.map encSTree), V.bool y92]), (103, .vec false 9 1 (y93.map encS))]⟩) (fun n i => m_impl_parser__add_l1 N R p0_0 n i = some r) (n0 := N) (i0 := (a1, r2.2.1, r2.2.2.1, r2.1.tree.kind, r2.1.tree.op, r2.1.tree.text, r2.1.tree.other, r2.1.tree.kids, r2.1.target, r2.2.2.2)) (Weak.sel [(0, 0), (100, 100), (101, 101), (103, 102), (102, 103)] [0, 3, 4, 5] (by kernel_rfl) (by kernel_rfl) (by kernel_rfl)) h (fun i h => by simp [m_impl_parser__add_l1] at h) ?_
 rintro n1 ⟨a1, y85, y86, y87, y88, y89, y90, y91, y92, y93⟩ h115 ih116
 rw [m_impl_parser__add_l1] at h115
 refine CodeOk.seq' ?_
 (revert h115; refine bind_rev fun y126 hv128 h115 => ?_)
 refine CodeOk.cutR (tl 37 [(0, .loc 0 0), (3, .loc 100 0), (4, .loc 101 0), (5, .loc 102 0), (20, V.bool y126)]) [(0, .cells 108 [.sl false false (p0_0.map encSToken), V.int y85, V.bool y86, .own 103]), (100, .cells 138 [V.bool a1.noIn, V.bool a1.noGt]), (101, .cells 113 [V.int 0, V.int 0, V.str [], V.str [], .c (.slice none 0 0), V.bool false]), (102, .cells 113 [V.int y87, V.int y88, V.str y89, V.str y90, .sl false false (y91.map encSTree), V.bool y92]), (103, .vec false 9 1 (y93.map encS))] mix (by
  refine W.run D_ok 6 166 (by kernel_rfl) ?_
  (revert hv128; refine cond_rev (fun hc129 hv128 => ?_) (fun hc129 hv128 => ?_))
  ·refine W.is 15 hc129 (by kernel_rfl) ?_
   refine W.run D_ok 1 166 (by kernel_rfl) ?_
   (revert hv128; refine bind_rev fun r127 hx130 hv128 => ?_)
   refine W.call (m_impl_parser__kind_ok p0_0 y85 y86 y93 hx130) cok97 [(0, 0), (103, 1)] [(0, 0), (1, 103)] [] (show LayOk _ [] from trivial) (by kernel_rfl) (by kernel_rfl) ?_
   (revert hv128; refine bind_rev fun r128 hx131 hv128 => ?_)
   refine W.call0 (m_impl_OpLevel_ok r127 hx131) cok22 rfl (by kernel_rfl) ?_
   refine W.run D_ok 2 166 (by kernel_rfl) ?_
   have hv128 := Option.some.inj hv128
   subst hv128
   exact W.fs [(0, 0), (100, 100), (101, 101), (102, 102), (103, 103)] [0, 3, 4, 5, 20] (by kernel_rfl)
  refine W.is 15 hc129 (by kernel_rfl) ?_
  refine W.run D_ok 5 166 (by kernel_rfl) ?_
  have hv128 := Option.some.inj hv128
  subst hv128
  exact W.fs [(0, 0), (100, 100), (101, 101), (102, 102), (103, 103)] [0, 3, 4, 5, 20] (by kernel_rfl)
  ) ?_
 (revert h115; refine cond_rev (fun hc132 h115 => ?_) (fun hc132 h115 => ?_))
 ·refine CodeOk.ifT hc132 (by kernel_rfl) ?_
  refine CodeOk.skip ?_
  refine CodeOk.block' ?_
  (revert h115; refine bind_rev fun r130 hx134 h115 => ?_)
  refine CodeOk.cutR (tl 37 [(0, .loc 0 0), (3, .loc 100 0), (4, .loc 101 0), (5, .loc 102 0), (6, V.int r130)]) [(0, .cells 108 [.sl false false (p0_0.map encSToken), V.int y85, V.bool y86, .own 103]), (100, .cells 138 [V.bool a1.noIn, V.bool a1.noGt]), (101, .cells 113 [V.int 0, V.int 0, V.str [], V.str [], .c (.slice none 0 0), V.bool false]), (102, .cells 113 [V.int y87, V.int y88, V.str y89, V.str y90, .sl false false (y91.map encSTree), V.bool y92]), (103, .vec false 9 1 (y93.map encS))] mix (by
   refine W.run D_ok 1 166 (by kernel_rfl) ?_
   refine W.call (m_impl_parser__kind_ok p0_0 y85 y86 y93 hx134) cok97 [(0, 0), (103, 1)] [(0, 0), (1, 103)] [] (show LayOk _ [] from trivial) (by kernel_rfl) (by kernel_rfl) ?_
   refine W.run D_ok 1 166 (by kernel_rfl) ?_
   exact W.fi (by kernel_rfl)
   ) ?_
  refine cu D_ok mix 8 166 (tl 37 [(0, .loc 0 0), (3, .loc 100 0), (4, .loc 101 0), (5, .loc 102 0), (6, V.int r130)]) [(0, .cells 108 [.sl false false (p0_0.map encSToken), V.int (IntKind.wrap .i64 (y85 + 1)), V.bool y86, .own 103]), (100, .cells 138 [V.bool a1.noIn, V.bool a1.noGt]), (101, .cells 113 [V.int 0, V.int 0, V.str [], V.str [], .c (.slice none 0 0), V.bool false]), (102, .cells 113 [V.int y87, V.int y88, V.str y89, V.str y90, .sl false false (y91.map encSTree), V.bool y92]), (103, .vec false 9 1 (y93.map encS))] (by kernel_rfl) ?_
  (revert h115; refine bind_rev fun r133 hx137 h115 => ?_)
  (revert h115; refine bind_rev fun r134 hx138 h115 => ?_)
  refine CodeOk.endR (tl 37 [(0, .loc 0 0), (3, .loc 100 0), (4, .loc 101 0), (5, .loc 102 0)]) [(102, .cells 113 [V.int r134.tree.kind, V.int r134.tree.op, V.str r134.tree.text, V.str r134.tree.other, .sl false false (r134.tree.kids.map encSTree), V.bool r134.target]), (166, .vec false 9 1 (r133.2.2.2.map encS)), (0, .cells 108 [.sl false false (p0_0.map encSToken), V.int r133.2.1, V.bool r133.2.2.1, .own 166]), (100, .cells 138 [V.bool a1.noIn, V.bool a1.noGt]), (101, .cells 113 [V.int 0, V.int 0, V.str [], V.str [], .c (.slice none 0 0), V.bool false])] mix (by
   refine W.run D_ok 4 166 (by kernel_rfl) ?_
   refine W.call (HR.m_impl_parser__mul a1 p0_0 (IntKind.wrap .i64 (y85 + 1)) y86 y93 _ hx137) cok108 [(0, 0), (103, 1)] [(0, 0), (100, 166)] [166] (show LayOk _ [] from trivial) (by kernel_rfl) (by kernel_rfl) ?_
   refine W.call0 (m_impl_bin_ok r130 (⟨(⟨y87, y88, y89, y90, y91⟩ : STree), y92⟩ : SPart) r133.1 hx138) cok147 rfl (by kernel_rfl) ?_
   refine W.run D_ok 1 167 (by kernel_rfl) ?_
   exact W.fi (by kernel_rfl)
   ) (fun st hw => ?_)
  exact ih116 (a1, r133.2.1, r133.2.2.1, r134.tree.kind, r134.tree.op, r134.tree.text, r134.tree.other, r134.tree.kids, r134.target, r133.2.2.2) h115 _ (hw.trans (Weak.sel [(0, 0), (100, 100), (101, 101), (102, 102), (166, 103)] [0, 3, 4, 5] (by kernel_rfl) (by kernel_rfl) (by kernel_rfl)))
 refine CodeOk.ifF hc132 (by kernel_rfl) ?_
 refine CodeOk.exit ?_
 refine cu D_ok mix 2 166 (tl 37 [(4, .loc 101 0)]) [(101, .cells 113 [V.int y87, V.int y88, V.str y89, V.str y90, .sl false false (y91.map encSTree), V.bool y92]), (0, .cells 108 [.sl false false (p0_0.map encSToken), V.int y85, V.bool y86, .own 103]), (103, .vec false 9 1 (y93.map encS))] (by kernel_rfl) ?_
 refine CodeOk.ret ?_
 have h115 := Option.some.inj h115
 subst h115
 exact Ends.gen [(0, 0), (103, 100)] (.inr rfl) (RetV.one rfl (OneR.cell D_ok (r := .agg [V.int y87, V.int y88, V.str y89, V.str y90, .sl false false (y91.map encSTree), V.bool y92]) (i := 101) (ety := 113) (cs := [V.int y87, V.int y88, V.str y89, V.str y90, .sl false false (y91.map encSTree), V.bool y92]) (by kernel_rfl) (by kernel_rfl) (by kernel_rfl))) (by kernel_rfl) (by kernel_rfl) (by kernel_rfl)

theorem m_impl_parser__cat_F_ok (N : Nat) (R : Rec1) (HR : RecOk1 R) (a1 : SRules) (p0_0 : List SToken) (p0_1 : Int) (p0_2 : Bool) (p1 : List (List UInt8)) {r : (SPart × Int × Bool × (List (List UInt8)))} (h : m_impl_parser__cat_F N R a1 p0_0 p0_1 p0_2 p1 = some r) :
    AC Tryd.prog (GS []) 106 [.loc 0 0, .agg [V.bool a1.noIn, V.bool a1.noGt]] [(0, .cells 108 [.sl false false (p0_0.map encSToken), V.int p0_1, V.bool p0_2, .own 1]), (1, .vec false 9 1 (p1.map encS))] (.agg [V.int r.1.tree.kind, V.int r.1.tree.op, V.str r.1.tree.text, V.str r.1.tree.other, .sl false false (r.1.tree.kids.map encSTree), V.bool r.1.target]) [(0, .cells 108 [.sl false false (p0_0.map encSToken), V.int r.2.1, V.bool r.2.2.1, .own 100]), (100, .vec false 9 1 (r.2.2.2.map encS))] := by
 rw [m_impl_parser__cat_F] at h
 refine AC.enter Tryd.func106 rfl ?_
 refine cu D_ok mix 2 100 (tl 25 [(0, .loc 0 0), (3, .loc 100 0), (4, .loc 101 0)]) [(101, .cells 113 [V.int 0, V.int 0, V.str [], V.str [], .c (.slice none 0 0), V.bool false]), (100, .cells 138 [V.bool a1.noIn, V.bool a1.noGt]), (0, .cells 108 [.sl false false (p0_0.map encSToken), V.int p0_1, V.bool p0_2, .own 1]), (1, .vec false 9 1 (p1.map encS))] (by kernel_rfl) ?_
 (revert h; refine bind_rev fun r2 hx2 h => ?_)
 refine CodeOk.cutR (tl 25 [(0, .loc 0 0), (3, .loc 100 0), (4, .loc 101 0), (5, .loc 103 0)]) [(103, .cells 113 [V.int r2.1.tree.kind, V.int r2.1.tree.op, V.str r2.1.tree.text, V.str r2.1.tree.other, .sl false false (r2.1.tree.kids.map encSTree), V.bool r2.1.target]), (102, .vec false 9 1 (r2.2.2.2.map encS)), (101, .cells 113 [V.int 0, V.int 0, V.str [], V.str [], .c (.slice none 0 0), V.bool false]), (100, .cells 138 [V.bool a1.noIn, V.bool a1.noGt]), (0, .cells 108 [.sl false false (p0_0.map encSToken), V.int r2.2.1, V.bool r2.2.2.1, .own 102])] mix (by
  refine W.run D_ok 2 102 (by kernel_rfl) ?_
  refine W.call (HR.m_impl_parser__add a1 p0_0 p0_1 p0_2 p1 _ hx2) cok107 [(0, 0), (1, 1)] [(0, 0), (100, 102)] [102] (show LayOk _ [] from trivial) (by kernel_rfl) (by kernel_rfl) ?_
  refine W.run D_ok 2 103 (by kernel_rfl) ?_
  exact W.fi (by kernel_rfl)
  ) ?_
 refine CodeOk.seq' ?_
 refine CodeOk.block' ?_
 refine CodeOk.loopJ (fun (⟨a1, y77, y78, y79, y80, y81, y82, y83, y84, y85⟩ : (SRules × Int × Bool × Int × Int × (List UInt8) × (List UInt8) × (List STree) × Bool × (List (List UInt8)))) => ⟨tl 25 [(0, .loc 0 0), (3, .loc 100 0), (4, .loc 101 0), (5, .loc 102 0)], [(0, .cells 108 [.sl false false (p0_0.map encSToken), V.int y77, V.bool y78, .own 103]), (100, .cells 138 [V.bool a1.noIn, V.bool a1.noGt]), (101, .cells 113 [V.int 0, V.int 0, V.str [], V.str [], .c (.slice none 0 0), V.bool false]), (102, .cells 113 [V.int y79, V.int y80, V.str y81, V.str y82, .sl false false (y83.map encSTree), V.bool y84]), (103, .vec false 9 1 (y85.map encS))]⟩) (fun n i => m_impl_parser__cat_l1 N R p0_0 n i = some r) (n0 := N) (i0 := (a1, r2.2.1, r2.2.2.1, r2.1.tree.kind, r2.1.tree.op, r2.1.tree.text, r2.1.tree.other, r2.1.tree.kids, r2.1.target, r2.2.2.2)) (Weak.sel [(0, 0), (100, 100), (101, 101), (103, 102), (102, 103)] [0, 3, 4, 5] (by kernel_rfl) (by kernel_rfl) (by kernel_rfl)) h (fun i h => by simp [m_impl_parser__cat_l1] at h) ?_
 rintro n1 ⟨a1, y77, y78, y79, y80, y81, y82, y83, y84, y85⟩ h105 ih106
 rw [m_impl_parser__cat_l1] at h105
 refine CodeOk.seq' ?_
 (revert h105; refine bind_rev fun y116 hv118 h105 => ?_)
 refine CodeOk.cutR (tl 25 [(0, .loc 0 0), (3, .loc 100 0), (4, .loc 101 0), (5, .loc 102 0), (18, V.bool y116)]) [(0, .cells 108 [.sl false false (p0_0.map encSToken), V.int y77, V.bool y78, .own 103]), (100, .cells 138 [V.bool a1.noIn, V.bool a1.noGt]), (101, .cells 113 [V.int 0, V.int 0, V.str [], V.str [], .c (.slice none 0 0), V.bool false]), (102, .cells 113 [V.int y79, V.int y80, V.str y81, V.str y82, .sl false false (y83.map encSTree), V.bool y84]), (103, .vec false 9 1 (y85.map encS))] mix (by
  refine W.run D_ok 6 166 (by kernel_rfl) ?_
  (revert hv118; refine cond_rev (fun hc119 hv118 => ?_) (fun hc119 hv118 => ?_))
  ·refine W.is 14 hc119 (by kernel_rfl) ?_
   refine W.run D_ok 1 166 (by kernel_rfl) ?_
   (revert hv118; refine bind_rev fun r117 hx120 hv118 => ?_)
   refine W.call (m_impl_parser__kind_ok p0_0 y77 y78 y85 hx120) cok97 [(0, 0), (103, 1)] [(0, 0), (1, 103)] [] (show LayOk _ [] from trivial) (by kernel_rfl) (by kernel_rfl) ?_
   (revert hv118; refine bind_rev fun r118 hx121 hv118 => ?_)
   refine W.call0 (m_impl_BeginsOperand_ok r117 hx121) cok96 rfl (by kernel_rfl) ?_
   refine W.run D_ok 1 166 (by kernel_rfl) ?_
   have hv118 := Option.some.inj hv118
   subst hv118
   exact W.fs [(0, 0), (100, 100), (101, 101), (102, 102), (103, 103)] [0, 3, 4, 5, 18] (by kernel_rfl)
  refine W.is 14 hc119 (by kernel_rfl) ?_
  refine W.run D_ok 4 166 (by kernel_rfl) ?_
  have hv118 := Option.some.inj hv118
  subst hv118
  exact W.fs [(0, 0), (100, 100), (101, 101), (102, 102), (103, 103)] [0, 3, 4, 5, 18] (by kernel_rfl)
  ) ?_
 (revert h105; refine cond_rev (fun hc122 h105 => ?_) (fun hc122 h105 => ?_))
 ·refine CodeOk.ifT hc122 (by kernel_rfl) ?_
  refine CodeOk.skip ?_
  refine CodeOk.block' ?_
  (revert h105; refine bind_rev fun r121 hx125 h105 => ?_)
  (revert h105; refine bind_rev fun r122 hx126 h105 => ?_)
  refine CodeOk.endR (tl 25 [(0, .loc 0 0), (3, .loc 100 0), (4, .loc 101 0), (5, .loc 102 0)]) [(102, .cells 113 [V.int r122.tree.kind, V.int r122.tree.op, V.str r122.tree.text, V.str r122.tree.other, .sl false false (r122.tree.kids.map encSTree), V.bool r122.target]), (166, .vec false 9 1 (r121.2.2.2.map encS)), (0, .cells 108 [.sl false false (p0_0.map encSToken), V.int r121.2.1, V.bool r121.2.2.1, .own 166]), (100, .cells 138 [V.bool a1.noIn, V.bool a1.noGt]), (101, .cells 113 [V.int 0, V.int 0, V.str [], V.str [], .c (.slice none 0 0), V.bool false])] mix (by
   refine W.run D_ok 3 166 (by kernel_rfl) ?_
   refine W.call (HR.m_impl_parser__add a1 p0_0 y77 y78 y85 _ hx125) cok107 [(0, 0), (103, 1)] [(0, 0), (100, 166)] [166] (show LayOk _ [] from trivial) (by kernel_rfl) (by kernel_rfl) ?_
   refine W.call0 (m_impl_bin_ok 99 (⟨(⟨y79, y80, y81, y82, y83⟩ : STree), y84⟩ : SPart) r121.1 hx126) cok147 rfl (by kernel_rfl) ?_
   refine W.run D_ok 1 167 (by kernel_rfl) ?_
   exact W.fi (by kernel_rfl)
   ) (fun st hw => ?_)
  exact ih106 (a1, r121.2.1, r121.2.2.1, r122.tree.kind, r122.tree.op, r122.tree.text, r122.tree.other, r122.tree.kids, r122.target, r121.2.2.2) h105 _ (hw.trans (Weak.sel [(0, 0), (100, 100), (101, 101), (102, 102), (166, 103)] [0, 3, 4, 5] (by kernel_rfl) (by kernel_rfl) (by kernel_rfl)))
 refine CodeOk.ifF hc122 (by kernel_rfl) ?_
 refine CodeOk.exit ?_
 refine cu D_ok mix 2 166 (tl 25 [(4, .loc 101 0)]) [(101, .cells 113 [V.int y79, V.int y80, V.str y81, V.str y82, .sl false false (y83.map encSTree), V.bool y84]), (0, .cells 108 [.sl false false (p0_0.map encSToken), V.int y77, V.bool y78, .own 103]), (103, .vec false 9 1 (y85.map encS))] (by kernel_rfl) ?_
 refine CodeOk.ret ?_
 have h105 := Option.some.inj h105
 subst h105
 exact Ends.gen [(0, 0), (103, 100)] (.inr rfl) (RetV.one rfl (OneR.cell D_ok (r := .agg [V.int y79, V.int y80, V.str y81, V.str y82, .sl false false (y83.map encSTree), V.bool y84]) (i := 101) (ety := 113) (cs := [V.int y79, V.int y80, V.str y81, V.str y82, .sl false false (y83.map encSTree), V.bool y84]) (by kernel_rfl) (by kernel_rfl) (by kernel_rfl))) (by kernel_rfl) (by kernel_rfl) (by kernel_rfl)

theorem m_impl_parser__compare_F_ok (N : Nat) (R : Rec1) (HR : RecOk1 R) (a1 : SRules) (p0_0 : List SToken) (p0_1 : Int) (p0_2 : Bool) (p1 : List (List UInt8)) {r : (SPart × Int × Bool × (List (List UInt8)))} (h : m_impl_parser__compare_F N R a1 p0_0 p0_1 p0_2 p1 = some r) :
    AC Tryd.prog (GS []) 105 [.loc 0 0, .agg [V.bool a1.noIn, V.bool a1.noGt]] [(0, .cells 108 [.sl false false (p0_0.map encSToken), V.int p0_1, V.bool p0_2, .own 1]), (1, .vec false 9 1 (p1.map encS))] (.agg [V.int r.1.tree.kind, V.int r.1.tree.op, V.str r.1.tree.text, V.str r.1.tree.other, .sl false false (r.1.tree.kids.map encSTree), V.bool r.1.target]) [(0, .cells 108 [.sl false false (p0_0.map encSToken), V.int r.2.1, V.bool r.2.2.1, .own 100]), (100, .vec false 9 1 (r.2.2.2.map encS))] := by
 rw [m_impl_parser__compare_F] at h
 refine AC.enter Tryd.func105 rfl ?_
 refine cu D_ok mix 2 100 (tl 45 [(0, .loc 0 0), (3, .loc 100 0), (4, .loc 101 0)]) [(101, .cells 113 [V.int 0, V.int 0, V.str [], V.str [], .c (.slice none 0 0), V.bool false]), (100, .cells 138 [V.bool a1.noIn, V.bool a1.noGt]), (0, .cells 108 [.sl false false (p0_0.map encSToken), V.int p0_1, V.bool p0_2, .own 1]), (1, .vec false 9 1 (p1.map encS))] (by kernel_rfl) ?_
 (revert h; refine bind_rev fun r2 hx2 h => ?_)
 refine CodeOk.cutR (tl 45 [(0, .loc 0 0), (3, .loc 100 0), (4, .loc 101 0), (5, .loc 103 0)]) [(103, .cells 113 [V.int r2.1.tree.kind, V.int r2.1.tree.op, V.str r2.1.tree.text, V.str r2.1.tree.other, .sl false false (r2.1.tree.kids.map encSTree), V.bool r2.1.target]), (102, .vec false 9 1 (r2.2.2.2.map encS)), (101, .cells 113 [V.int 0, V.int 0, V.str [], V.str [], .c (.slice none 0 0), V.bool false]), (100, .cells 138 [V.bool a1.noIn, V.bool a1.noGt]), (0, .cells 108 [.sl false false (p0_0.map encSToken), V.int r2.2.1, V.bool r2.2.2.1, .own 102])] mix (by
  refine W.run D_ok 2 102 (by kernel_rfl) ?_
  refine W.call (HR.m_impl_parser__cat a1 p0_0 p0_1 p0_2 p1 _ hx2) cok106 [(0, 0), (1, 1)] [(0, 0), (100, 102)] [102] (show LayOk _ [] from trivial) (by kernel_rfl) (by kernel_rfl) ?_
  refine W.run D_ok 2 103 (by kernel_rfl) ?_
  exact W.fi (by kernel_rfl)
  ) ?_
 refine CodeOk.seq' ?_
 (revert h; refine bind_rev fun y13 hv23 h => ?_)
 refine CodeOk.cutR (tl 45 [(0, .loc 0 0), (3, .loc 100 0), (4, .loc 101 0), (5, .loc 102 0), (28, V.bool y13)]) [(0, .cells 108 [.sl false false (p0_0.map encSToken), V.int r2.2.1, V.bool r2.2.2.1, .own 103]), (100, .cells 138 [V.bool a1.noIn, V.bool a1.noGt]), (101, .cells 113 [V.int 0, V.int 0, V.str [], V.str [], .c (.slice none 0 0), V.bool false]), (102, .cells 113 [V.int r2.1.tree.kind, V.int r2.1.tree.op, V.str r2.1.tree.text, V.str r2.1.tree.other, .sl false false (r2.1.tree.kids.map encSTree), V.bool r2.1.target]), (103, .vec false 9 1 (r2.2.2.2.map encS))] mix (by
  refine W.run D_ok 5 104 (by kernel_rfl) ?_
  (revert hv23; refine cond_rev (fun hc24 hv23 => ?_) (fun hc24 hv23 => ?_))
  ·refine W.is 14 hc24 (by kernel_rfl) ?_
   refine W.run D_ok 14 104 (by kernel_rfl) ?_
   have hv23 := Option.some.inj hv23
   subst hv23
   exact W.fs [(0, 0), (100, 100), (101, 101), (103, 102), (102, 103)] [0, 3, 4, 5, 28] (by kernel_rfl)
  refine W.is 14 hc24 (by kernel_rfl) ?_
  refine W.run D_ok 1 104 (by kernel_rfl) ?_
  (revert hv23; refine bind_rev fun r14 hx25 hv23 => ?_)
  refine W.call (m_impl_parser__kind_ok p0_0 r2.2.1 r2.2.2.1 r2.2.2.2 hx25) cok97 [(0, 0), (102, 1)] [(0, 0), (1, 102)] [] (show LayOk _ [] from trivial) (by kernel_rfl) (by kernel_rfl) ?_
  (revert hv23; refine bind_rev fun r15 hx26 hv23 => ?_)
  refine W.call0 (m_impl_OpLevel_ok r14 hx26) cok22 rfl (by kernel_rfl) ?_
  refine W.run D_ok 3 104 (by kernel_rfl) ?_
  (revert hv23; refine cond_rev (fun hc27 hv23 => ?_) (fun hc27 hv23 => ?_))
  ·refine W.is 20 hc27 (by kernel_rfl) ?_
   refine W.run D_ok 8 104 (by kernel_rfl) ?_
   have hv23 := Option.some.inj hv23
   subst hv23
   exact W.fs [(0, 0), (100, 100), (101, 101), (103, 102), (102, 103)] [0, 3, 4, 5, 28] (by kernel_rfl)
  refine W.is 20 hc27 (by kernel_rfl) ?_
  refine W.run D_ok 3 104 (by kernel_rfl) ?_
  (revert hv23; refine cond_rev (fun hc28 hv23 => ?_) (fun hc28 hv23 => ?_))
  ·refine W.is 23 hc28 (by kernel_rfl) ?_
   refine W.run D_ok 1 104 (by kernel_rfl) ?_
   (revert hv23; refine bind_rev fun r16 hx29 hv23 => ?_)
   refine W.call (m_impl_parser__kind_ok p0_0 r2.2.1 r2.2.2.1 r2.2.2.2 hx29) cok97 [(0, 0), (102, 1)] [(0, 0), (1, 102)] [] (show LayOk _ [] from trivial) (by kernel_rfl) (by kernel_rfl) ?_
   refine W.run D_ok 3 104 (by kernel_rfl) ?_
   have hv23 := Option.some.inj hv23
   subst hv23
   exact W.fs [(0, 0), (100, 100), (101, 101), (103, 102), (102, 103)] [0, 3, 4, 5, 28] (by kernel_rfl)
  refine W.is 23 hc28 (by kernel_rfl) ?_
  refine W.run D_ok 5 104 (by kernel_rfl) ?_
  have hv23 := Option.some.inj hv23
  subst hv23
  exact W.fs [(0, 0), (100, 100), (101, 101), (103, 102), (102, 103)] [0, 3, 4, 5, 28] (by kernel_rfl)
  ) ?_
 (revert h; refine cond_rev (fun hc30 h => ?_) (fun hc30 h => ?_))
 ·refine CodeOk.ifT hc30 (by kernel_rfl) ?_
  refine cu D_ok mix 2 104 (tl 45 [(4, .loc 101 0)]) [(101, .cells 113 [V.int r2.1.tree.kind, V.int r2.1.tree.op, V.str r2.1.tree.text, V.str r2.1.tree.other, .sl false false (r2.1.tree.kids.map encSTree), V.bool r2.1.target]), (0, .cells 108 [.sl false false (p0_0.map encSToken), V.int r2.2.1, V.bool r2.2.2.1, .own 103]), (103, .vec false 9 1 (r2.2.2.2.map encS))] (by kernel_rfl) ?_
  refine CodeOk.ret ?_
  have h := Option.some.inj h
  subst h
  exact Ends.gen [(0, 0), (103, 100)] (.inr rfl) (RetV.one rfl (OneR.cell D_ok (r := .agg [V.int r2.1.tree.kind, V.int r2.1.tree.op, V.str r2.1.tree.text, V.str r2.1.tree.other, .sl false false (r2.1.tree.kids.map encSTree), V.bool r2.1.target]) (i := 101) (ety := 113) (cs := [V.int r2.1.tree.kind, V.int r2.1.tree.op, V.str r2.1.tree.text, V.str r2.1.tree.other, .sl false false (r2.1.tree.kids.map encSTree), V.bool r2.1.target]) (by kernel_rfl) (by kernel_rfl) (by kernel_rfl))) (by kernel_rfl) (by kernel_rfl) (by kernel_rfl)
 refine CodeOk.ifF hc30 (by kernel_rfl) ?_
 refine CodeOk.skip ?_
 (revert h; refine bind_rev fun r18 hx32 h => ?_)
 refine CodeOk.cutR (tl 45 [(0, .loc 0 0), (3, .loc 100 0), (4, .loc 101 0), (5, .loc 102 0), (6, V.int r18)]) [(0, .cells 108 [.sl false false (p0_0.map encSToken), V.int r2.2.1, V.bool r2.2.2.1, .own 103]), (100, .cells 138 [V.bool a1.noIn, V.bool a1.noGt]), (101, .cells 113 [V.int 0, V.int 0, V.str [], V.str [], .c (.slice none 0 0), V.bool false]), (102, .cells 113 [V.int r2.1.tree.kind, V.int r2.1.tree.op, V.str r2.1.tree.text, V.str r2.1.tree.other, .sl false false (r2.1.tree.kids.map encSTree), V.bool r2.1.target]), (103, .vec false 9 1 (r2.2.2.2.map encS))] mix (by
  refine W.run D_ok 1 104 (by kernel_rfl) ?_
  refine W.call (m_impl_parser__kind_ok p0_0 r2.2.1 r2.2.2.1 r2.2.2.2 hx32) cok97 [(0, 0), (103, 1)] [(0, 0), (1, 103)] [] (show LayOk _ [] from trivial) (by kernel_rfl) (by kernel_rfl) ?_
  refine W.run D_ok 1 104 (by kernel_rfl) ?_
  exact W.fi (by kernel_rfl)
  ) ?_
 refine cu D_ok mix 8 104 (tl 45 [(0, .loc 0 0), (3, .loc 100 0), (4, .loc 101 0), (5, .loc 102 0), (6, V.int r18)]) [(0, .cells 108 [.sl false false (p0_0.map encSToken), V.int (IntKind.wrap .i64 (r2.2.1 + 1)), V.bool r2.2.2.1, .own 103]), (100, .cells 138 [V.bool a1.noIn, V.bool a1.noGt]), (101, .cells 113 [V.int 0, V.int 0, V.str [], V.str [], .c (.slice none 0 0), V.bool false]), (102, .cells 113 [V.int r2.1.tree.kind, V.int r2.1.tree.op, V.str r2.1.tree.text, V.str r2.1.tree.other, .sl false false (r2.1.tree.kids.map encSTree), V.bool r2.1.target]), (103, .vec false 9 1 (r2.2.2.2.map encS))] (by kernel_rfl) ?_
 (revert h; refine bind_rev fun r21 hx35 h => ?_)
 (revert h; refine bind_rev fun r22 hx36 h => ?_)
 refine CodeOk.cutR (tl 45 [(4, .loc 101 0)]) [(101, .cells 113 [V.int r22.tree.kind, V.int r22.tree.op, V.str r22.tree.text, V.str r22.tree.other, .sl false false (r22.tree.kids.map encSTree), V.bool r22.target]), (104, .vec false 9 1 (r21.2.2.2.map encS)), (0, .cells 108 [.sl false false (p0_0.map encSToken), V.int r21.2.1, V.bool r21.2.2.1, .own 104])] mix (by
  refine W.run D_ok 4 104 (by kernel_rfl) ?_
  refine W.call (HR.m_impl_parser__cat a1 p0_0 (IntKind.wrap .i64 (r2.2.1 + 1)) r2.2.2.1 r2.2.2.2 _ hx35) cok106 [(0, 0), (103, 1)] [(0, 0), (100, 104)] [104] (show LayOk _ [] from trivial) (by kernel_rfl) (by kernel_rfl) ?_
  refine W.call0 (m_impl_bin_ok r18 r2.1 r21.1 hx36) cok147 rfl (by kernel_rfl) ?_
  refine W.run D_ok 1 105 (by kernel_rfl) ?_
  exact W.fi (by kernel_rfl)
  ) ?_
 refine CodeOk.ret ?_
 have h := Option.some.inj h
 subst h
 exact Ends.gen [(0, 0), (104, 100)] (.inr rfl) (RetV.one rfl (OneR.cell D_ok (r := .agg [V.int r22.tree.kind, V.int r22.tree.op, V.str r22.tree.text, V.str r22.tree.other, .sl false false (r22.tree.kids.map encSTree), V.bool r22.target]) (i := 101) (ety := 113) (cs := [V.int r22.tree.kind, V.int r22.tree.op, V.str r22.tree.text, V.str r22.tree.other, .sl false false (r22.tree.kids.map encSTree), V.bool r22.target]) (by kernel_rfl) (by kernel_rfl) (by kernel_rfl))) (by kernel_rfl) (by kernel_rfl) (by kernel_rfl)

theorem m_impl_parser__match_F_ok (N : Nat) (R : Rec1) (HR : RecOk1 R) (a1 : SRules) (p0_0 : List SToken) (p0_1 : Int) (p0_2 : Bool) (p1 : List (List UInt8)) {r : (SPart × Int × Bool × (List (List UInt8)))} (h : m_impl_parser__match_F N R a1 p0_0 p0_1 p0_2 p1 = some r) :
    AC Tryd.prog (GS []) 104 [.loc 0 0, .agg [V.bool a1.noIn, V.bool a1.noGt]] [(0, .cells 108 [.sl false false (p0_0.map encSToken), V.int p0_1, V.bool p0_2, .own 1]), (1, .vec false 9 1 (p1.map encS))] (.agg [V.int r.1.tree.kind, V.int r.1.tree.op, V.str r.1.tree.text, V.str r.1.tree.other, .sl false false (r.1.tree.kids.map encSTree), V.bool r.1.target]) [(0, .cells 108 [.sl false false (p0_0.map encSToken), V.int r.2.1, V.bool r.2.2.1, .own 100]), (100, .vec false 9 1 (r.2.2.2.map encS))] := by
 rw [m_impl_parser__match_F] at h
 refine AC.enter Tryd.func104 rfl ?_
 refine cu D_ok mix 2 100 (tl 40 [(0, .loc 0 0), (3, .loc 100 0), (4, .loc 101 0)]) [(101, .cells 113 [V.int 0, V.int 0, V.str [], V.str [], .c (.slice none 0 0), V.bool false]), (100, .cells 138 [V.bool a1.noIn, V.bool a1.noGt]), (0, .cells 108 [.sl false false (p0_0.map encSToken), V.int p0_1, V.bool p0_2, .own 1]), (1, .vec false 9 1 (p1.map encS))] (by kernel_rfl) ?_
 (revert h; refine bind_rev fun r2 hx2 h => ?_)
 refine CodeOk.cutR (tl 40 [(0, .loc 0 0), (3, .loc 100 0), (4, .loc 101 0), (5, .loc 103 0)]) [(103, .cells 113 [V.int r2.1.tree.kind, V.int r2.1.tree.op, V.str r2.1.tree.text, V.str r2.1.tree.other, .sl false false (r2.1.tree.kids.map encSTree), V.bool r2.1.target]), (102, .vec false 9 1 (r2.2.2.2.map encS)), (101, .cells 113 [V.int 0, V.int 0, V.str [], V.str [], .c (.slice none 0 0), V.bool false]), (100, .cells 138 [V.bool a1.noIn, V.bool a1.noGt]), (0, .cells 108 [.sl false false (p0_0.map encSToken), V.int r2.2.1, V.bool r2.2.2.1, .own 102])] mix (by
  refine W.run D_ok 2 102 (by kernel_rfl) ?_
  refine W.call (HR.m_impl_parser__compare a1 p0_0 p0_1 p0_2 p1 _ hx2) cok105 [(0, 0), (1, 1)] [(0, 0), (100, 102)] [102] (show LayOk _ [] from trivial) (by kernel_rfl) (by kernel_rfl) ?_
  refine W.run D_ok 2 103 (by kernel_rfl) ?_
  exact W.fi (by kernel_rfl)
  ) ?_
 refine CodeOk.seq' ?_
 (revert h; refine bind_rev fun y10 hv17 h => ?_)
 refine CodeOk.cutR (tl 40 [(0, .loc 0 0), (3, .loc 100 0), (4, .loc 101 0), (5, .loc 102 0), (23, V.bool y10)]) [(0, .cells 108 [.sl false false (p0_0.map encSToken), V.int r2.2.1, V.bool r2.2.2.1, .own 103]), (100, .cells 138 [V.bool a1.noIn, V.bool a1.noGt]), (101, .cells 113 [V.int 0, V.int 0, V.str [], V.str [], .c (.slice none 0 0), V.bool false]), (102, .cells 113 [V.int r2.1.tree.kind, V.int r2.1.tree.op, V.str r2.1.tree.text, V.str r2.1.tree.other, .sl false false (r2.1.tree.kids.map encSTree), V.bool r2.1.target]), (103, .vec false 9 1 (r2.2.2.2.map encS))] mix (by
  refine W.run D_ok 5 104 (by kernel_rfl) ?_
  (revert hv17; refine cond_rev (fun hc18 hv17 => ?_) (fun hc18 hv17 => ?_))
  ·refine W.is 14 hc18 (by kernel_rfl) ?_
   refine W.run D_ok 9 104 (by kernel_rfl) ?_
   have hv17 := Option.some.inj hv17
   subst hv17
   exact W.fs [(0, 0), (100, 100), (101, 101), (103, 102), (102, 103)] [0, 3, 4, 5, 23] (by kernel_rfl)
  refine W.is 14 hc18 (by kernel_rfl) ?_
  refine W.run D_ok 1 104 (by kernel_rfl) ?_
  (revert hv17; refine bind_rev fun r11 hx19 hv17 => ?_)
  refine W.call (m_impl_parser__kind_ok p0_0 r2.2.1 r2.2.2.1 r2.2.2.2 hx19) cok97 [(0, 0), (102, 1)] [(0, 0), (1, 102)] [] (show LayOk _ [] from trivial) (by kernel_rfl) (by kernel_rfl) ?_
  refine W.run D_ok 2 104 (by kernel_rfl) ?_
  (revert hv17; refine cond_rev (fun hc20 hv17 => ?_) (fun hc20 hv17 => ?_))
  ·refine W.is 18 hc20 (by kernel_rfl) ?_
   refine W.run D_ok 1 104 (by kernel_rfl) ?_
   (revert hv17; refine bind_rev fun r12 hx21 hv17 => ?_)
   refine W.call (m_impl_parser__kind_ok p0_0 r2.2.1 r2.2.2.1 r2.2.2.2 hx21) cok97 [(0, 0), (102, 1)] [(0, 0), (1, 102)] [] (show LayOk _ [] from trivial) (by kernel_rfl) (by kernel_rfl) ?_
   refine W.run D_ok 3 104 (by kernel_rfl) ?_
   have hv17 := Option.some.inj hv17
   subst hv17
   exact W.fs [(0, 0), (100, 100), (101, 101), (103, 102), (102, 103)] [0, 3, 4, 5, 23] (by kernel_rfl)
  refine W.is 18 hc20 (by kernel_rfl) ?_
  refine W.run D_ok 5 104 (by kernel_rfl) ?_
  have hv17 := Option.some.inj hv17
  subst hv17
  exact W.fs [(0, 0), (100, 100), (101, 101), (103, 102), (102, 103)] [0, 3, 4, 5, 23] (by kernel_rfl)
  ) ?_
 (revert h; refine cond_rev (fun hc22 h => ?_) (fun hc22 h => ?_))
 ·refine CodeOk.ifT hc22 (by kernel_rfl) ?_
  refine cu D_ok mix 2 104 (tl 40 [(4, .loc 101 0)]) [(101, .cells 113 [V.int r2.1.tree.kind, V.int r2.1.tree.op, V.str r2.1.tree.text, V.str r2.1.tree.other, .sl false false (r2.1.tree.kids.map encSTree), V.bool r2.1.target]), (0, .cells 108 [.sl false false (p0_0.map encSToken), V.int r2.2.1, V.bool r2.2.2.1, .own 103]), (103, .vec false 9 1 (r2.2.2.2.map encS))] (by kernel_rfl) ?_
  refine CodeOk.ret ?_
  have h := Option.some.inj h
  subst h
  exact Ends.gen [(0, 0), (103, 100)] (.inr rfl) (RetV.one rfl (OneR.cell D_ok (r := .agg [V.int r2.1.tree.kind, V.int r2.1.tree.op, V.str r2.1.tree.text, V.str r2.1.tree.other, .sl false false (r2.1.tree.kids.map encSTree), V.bool r2.1.target]) (i := 101) (ety := 113) (cs := [V.int r2.1.tree.kind, V.int r2.1.tree.op, V.str r2.1.tree.text, V.str r2.1.tree.other, .sl false false (r2.1.tree.kids.map encSTree), V.bool r2.1.target]) (by kernel_rfl) (by kernel_rfl) (by kernel_rfl))) (by kernel_rfl) (by kernel_rfl) (by kernel_rfl)
 refine CodeOk.ifF hc22 (by kernel_rfl) ?_
 refine CodeOk.skip ?_
 (revert h; refine bind_rev fun r14 hx24 h => ?_)
 refine CodeOk.cutR (tl 40 [(0, .loc 0 0), (3, .loc 100 0), (4, .loc 101 0), (5, .loc 102 0), (6, V.int r14)]) [(0, .cells 108 [.sl false false (p0_0.map encSToken), V.int r2.2.1, V.bool r2.2.2.1, .own 103]), (100, .cells 138 [V.bool a1.noIn, V.bool a1.noGt]), (101, .cells 113 [V.int 0, V.int 0, V.str [], V.str [], .c (.slice none 0 0), V.bool false]), (102, .cells 113 [V.int r2.1.tree.kind, V.int r2.1.tree.op, V.str r2.1.tree.text, V.str r2.1.tree.other, .sl false false (r2.1.tree.kids.map encSTree), V.bool r2.1.target]), (103, .vec false 9 1 (r2.2.2.2.map encS))] mix (by
  refine W.run D_ok 1 104 (by kernel_rfl) ?_
  refine W.call (m_impl_parser__kind_ok p0_0 r2.2.1 r2.2.2.1 r2.2.2.2 hx24) cok97 [(0, 0), (103, 1)] [(0, 0), (1, 103)] [] (show LayOk _ [] from trivial) (by kernel_rfl) (by kernel_rfl) ?_
  refine W.run D_ok 1 104 (by kernel_rfl) ?_
  exact W.fi (by kernel_rfl)
  ) ?_
 refine cu D_ok mix 8 104 (tl 40 [(0, .loc 0 0), (3, .loc 100 0), (4, .loc 101 0), (5, .loc 102 0), (6, V.int r14)]) [(0, .cells 108 [.sl false false (p0_0.map encSToken), V.int (IntKind.wrap .i64 (r2.2.1 + 1)), V.bool r2.2.2.1, .own 103]), (100, .cells 138 [V.bool a1.noIn, V.bool a1.noGt]), (101, .cells 113 [V.int 0, V.int 0, V.str [], V.str [], .c (.slice none 0 0), V.bool false]), (102, .cells 113 [V.int r2.1.tree.kind, V.int r2.1.tree.op, V.str r2.1.tree.text, V.str r2.1.tree.other, .sl false false (r2.1.tree.kids.map encSTree), V.bool r2.1.target]), (103, .vec false 9 1 (r2.2.2.2.map encS))] (by kernel_rfl) ?_
 (revert h; refine bind_rev fun r17 hx27 h => ?_)
 (revert h; refine bind_rev fun r18 hx28 h => ?_)
 refine CodeOk.cutR (tl 40 [(4, .loc 101 0)]) [(101, .cells 113 [V.int r18.tree.kind, V.int r18.tree.op, V.str r18.tree.text, V.str r18.tree.other, .sl false false (r18.tree.kids.map encSTree), V.bool r18.target]), (104, .vec false 9 1 (r17.2.2.2.map encS)), (0, .cells 108 [.sl false false (p0_0.map encSToken), V.int r17.2.1, V.bool r17.2.2.1, .own 104])] mix (by
  refine W.run D_ok 4 104 (by kernel_rfl) ?_
  refine W.call (HR.m_impl_parser__compare a1 p0_0 (IntKind.wrap .i64 (r2.2.1 + 1)) r2.2.2.1 r2.2.2.2 _ hx27) cok105 [(0, 0), (103, 1)] [(0, 0), (100, 104)] [104] (show LayOk _ [] from trivial) (by kernel_rfl) (by kernel_rfl) ?_
  refine W.call0 (m_impl_bin_ok r14 r2.1 r17.1 hx28) cok147 rfl (by kernel_rfl) ?_
  refine W.run D_ok 1 105 (by kernel_rfl) ?_
  exact W.fi (by kernel_rfl)
  ) ?_
 refine CodeOk.ret ?_
 have h := Option.some.inj h
 subst h
 exact Ends.gen [(0, 0), (104, 100)] (.inr rfl) (RetV.one rfl (OneR.cell D_ok (r := .agg [V.int r18.tree.kind, V.int r18.tree.op, V.str r18.tree.text, V.str r18.tree.other, .sl false false (r18.tree.kids.map encSTree), V.bool r18.target]) (i := 101) (ety := 113) (cs := [V.int r18.tree.kind, V.int r18.tree.op, V.str r18.tree.text, V.str r18.tree.other, .sl false false (r18.tree.kids.map encSTree), V.bool r18.target]) (by kernel_rfl) (by kernel_rfl) (by kernel_rfl))) (by kernel_rfl) (by kernel_rfl) (by kernel_rfl)

theorem m_impl_parser__items_F_ok (N : Nat) (R : Rec1) (HR : RecOk1 R) (a1 : SRules) (p0_0 : List SToken) (p0_1 : Int) (p0_2 : Bool) (p1 : List (List UInt8)) {r : ((List STree) × Int × Bool × (List (List UInt8)))} (h : m_impl_parser__items_F N R a1 p0_0 p0_1 p0_2 p1 = some r) :
    AC Tryd.prog (GS []) 171 [.loc 0 0, .agg [V.bool a1.noIn, V.bool a1.noGt]] [(0, .cells 108 [.sl false false (p0_0.map encSToken), V.int p0_1, V.bool p0_2, .own 1]), (1, .vec false 9 1 (p1.map encS))] (.own 100) [(0, .cells 108 [.sl false false (p0_0.map encSToken), V.int r.2.1, V.bool r.2.2.1, .own 101]), (100, .vec false 111 5 (r.1.map encSTree)), (101, .vec false 9 1 (r.2.2.2.map encS))] := by
 rw [m_impl_parser__items_F] at h
 refine AC.enter Tryd.func171 rfl ?_
 refine cu D_ok mix 2 100 (tl 44 [(0, .loc 0 0), (3, .loc 100 0)]) [(100, .cells 138 [V.bool a1.noIn, V.bool a1.noGt]), (0, .cells 108 [.sl false false (p0_0.map encSToken), V.int p0_1, V.bool p0_2, .own 1]), (1, .vec false 9 1 (p1.map encS))] (by kernel_rfl) ?_
 refine CodeOk.cutR (tl 44 [(0, .loc 0 0), (3, .loc 100 0), (5, .own 101)]) [(101, .vec false 111 5 ([].map encSTree)), (100, .cells 138 [V.bool a1.noIn, V.bool a1.noGt]), (0, .cells 108 [.sl false false (p0_0.map encSToken), V.int p0_1, V.bool p0_2, .own 1]), (1, .vec false 9 1 (p1.map encS))] mix (by
  refine W.layop D_ok (show LayOk _ [] from trivial) (by kernel_rfl) 101 { v := .own 101, R := [], new := [(101, .vec true 111 5 [])], N := [101] } (by kernel_rfl) ?_
  refine W.vecEq 101 (nn := true) (e := 111) (k := 5) (rows := []) (rows' := [].map encSTree) (by kernel_rfl) rfl ?_
  refine W.run D_ok 1 102 (by kernel_rfl) ?_
  exact W.fi (by kernel_rfl)
  ) ?_
 refine CodeOk.join (fun (⟨y45, y46, y47, y48⟩ : ((List STree) × Int × Bool × (List (List UInt8)))) => ⟨tl 44 [(5, .own 100)], [(100, .vec false 111 5 (y45.map encSTree)), (0, .cells 108 [.sl false false (p0_0.map encSToken), V.int y46, V.bool y47, .own 101]), (101, .vec false 9 1 (y48.map encS))]⟩) (fun i => m_impl_parser__items_k1 N R p0_0 i = some r) ?_ ?_
 · rintro ⟨y45, y46, y47, y48⟩ h69
   rw [m_impl_parser__items_k1] at h69
   refine cu D_ok mix 2 173 (tl 44 [(4, .own 100)]) [(100, .vec false 111 5 (y45.map encSTree)), (0, .cells 108 [.sl false false (p0_0.map encSToken), V.int y46, V.bool y47, .own 101]), (101, .vec false 9 1 (y48.map encS))] (by kernel_rfl) ?_
   refine CodeOk.ret ?_
   have h69 := Option.some.inj h69
   subst h69
   exact Ends.gen [(0, 0), (100, 100), (101, 101)] (.inr rfl) (RetV.one rfl (OneR.tmp (t := 4) (r := .own 100) (by kernel_rfl))) (by kernel_rfl) (by kernel_rfl) (by kernel_rfl)
 intro hk70
 refine CodeOk.block' ?_
 refine CodeOk.loopJ (fun (⟨a1, y61, y62, y63, y64⟩ : (SRules × Int × Bool × (List STree) × (List (List UInt8)))) => ⟨tl 44 [(0, .loc 0 0), (3, .loc 100 0), (5, .own 101)], [(0, .cells 108 [.sl false false (p0_0.map encSToken), V.int y61, V.bool y62, .own 102]), (100, .cells 138 [V.bool a1.noIn, V.bool a1.noGt]), (101, .vec false 111 5 (y63.map encSTree)), (102, .vec false 9 1 (y64.map encS))]⟩) (fun n i => m_impl_parser__items_l2 N R p0_0 n i = some r) (n0 := N) (i0 := (a1, p0_1, p0_2, [], p1)) (Weak.sel [(0, 0), (100, 100), (101, 101), (1, 102)] [0, 3, 5] (by kernel_rfl) (by kernel_rfl) (by kernel_rfl)) h (fun i h => by simp [m_impl_parser__items_l2] at h) ?_
 rintro n2 ⟨a1, y61, y62, y63, y64⟩ h115 ih116
 rw [m_impl_parser__items_l2] at h115
 refine CodeOk.seq' ?_
 refine cu D_ok mix 5 170 (tl 44 [(0, .loc 0 0), (3, .loc 100 0), (5, .own 101), (11, V.bool (!y62))]) [(0, .cells 108 [.sl false false (p0_0.map encSToken), V.int y61, V.bool y62, .own 102]), (100, .cells 138 [V.bool a1.noIn, V.bool a1.noGt]), (101, .vec false 111 5 (y63.map encSTree)), (102, .vec false 9 1 (y64.map encS))] (by kernel_rfl) ?_
 (revert h115; refine cond_rev (fun hc118 h115 => ?_) (fun hc118 h115 => ?_))
 ·refine CodeOk.ifT hc118 (by kernel_rfl) ?_
  refine CodeOk.skip ?_
  refine CodeOk.block' ?_
  (revert h115; refine bind_rev fun r83 hx121 h115 => ?_)
  (revert h115; refine bind_rev fun x84 hx122 h115 => ?_)
  refine CodeOk.cutR (tl 44 [(0, .loc 0 0), (3, .loc 100 0), (5, .own 172)]) [(172, .vec false 111 5 (x84.map encSTree)), (170, .vec false 9 1 (r83.2.2.2.map encS)), (0, .cells 108 [.sl false false (p0_0.map encSToken), V.int r83.2.1, V.bool r83.2.2.1, .own 170]), (100, .cells 138 [V.bool a1.noIn, V.bool a1.noGt])] mix (by
   refine W.run D_ok 3 170 (by kernel_rfl) ?_
   refine W.call (HR.m_impl_parser__assign a1 p0_0 y61 y62 y64 _ hx121) cok99 [(0, 0), (102, 1)] [(0, 0), (100, 170)] [170] (show LayOk _ [] from trivial) (by kernel_rfl) (by kernel_rfl) ?_
   refine W.run D_ok 1 171 (by kernel_rfl) ?_
   refine W.layop D_ok (show LayOk _ [] from trivial) (by kernel_rfl) 171 { v := .own 171, R := [], new := [(171, .vec true 111 5 [[V.int r83.1.tree.kind, V.int r83.1.tree.op, V.str r83.1.tree.text, V.str r83.1.tree.other, .sl false false (r83.1.tree.kids.map encSTree)]])], N := [171] } (by kernel_rfl) ?_
   refine W.vecEq 171 (nn := true) (e := 111) (k := 5) (rows := [[V.int r83.1.tree.kind, V.int r83.1.tree.op, V.str r83.1.tree.text, V.str r83.1.tree.other, .sl false false (r83.1.tree.kids.map encSTree)]]) (rows' := [r83.1.tree].map encSTree) (by kernel_rfl) (by simp only [List.map_cons, List.map_nil, encSTree_eq]) ?_
   refine W.appO D_ok encSTree (a := 101) (c := 171) (el := 111) (sz := 5) 72 hx122 rfl 172 (by kernel_rfl) ?_
   refine W.run D_ok 1 173 (by kernel_rfl) ?_
   exact W.fi (by kernel_rfl)
   ) ?_
  refine CodeOk.seq' ?_
  (revert h115; refine bind_rev fun y89 hv131 h115 => ?_)
  refine CodeOk.cutR (tl 44 [(0, .loc 0 0), (3, .loc 100 0), (5, .own 101), (27, V.bool y89)]) [(0, .cells 108 [.sl false false (p0_0.map encSToken), V.int r83.2.1, V.bool r83.2.2.1, .own 102]), (100, .cells 138 [V.bool a1.noIn, V.bool a1.noGt]), (101, .vec false 111 5 (x84.map encSTree)), (102, .vec false 9 1 (r83.2.2.2.map encS))] mix (by
   refine W.run D_ok 5 173 (by kernel_rfl) ?_
   (revert hv131; refine cond_rev (fun hc132 hv131 => ?_) (fun hc132 hv131 => ?_))
   ·refine W.is 23 hc132 (by kernel_rfl) ?_
    refine W.run D_ok 4 173 (by kernel_rfl) ?_
    have hv131 := Option.some.inj hv131
    subst hv131
    exact W.fs [(0, 0), (100, 100), (172, 101), (170, 102)] [0, 3, 5, 27] (by kernel_rfl)
   refine W.is 23 hc132 (by kernel_rfl) ?_
   refine W.run D_ok 1 173 (by kernel_rfl) ?_
   (revert hv131; refine bind_rev fun r90 hx133 hv131 => ?_)
   refine W.call (m_impl_parser__kind_ok p0_0 r83.2.1 r83.2.2.1 r83.2.2.2 hx133) cok97 [(0, 0), (170, 1)] [(0, 0), (1, 170)] [] (show LayOk _ [] from trivial) (by kernel_rfl) (by kernel_rfl) ?_
   refine W.run D_ok 2 173 (by kernel_rfl) ?_
   have hv131 := Option.some.inj hv131
   subst hv131
   exact W.fs [(0, 0), (100, 100), (172, 101), (170, 102)] [0, 3, 5, 27] (by kernel_rfl)
   ) ?_
  (revert h115; refine cond_rev (fun hc134 h115 => ?_) (fun hc134 h115 => ?_))
  ·refine CodeOk.ifT hc134 (by kernel_rfl) ?_
   refine CodeOk.exit ?_
   exact hk70 (x84, r83.2.1, r83.2.2.1, r83.2.2.2) h115 _ (Weak.sel [(101, 100), (0, 0), (102, 101)] [5] (by kernel_rfl) (by kernel_rfl) (by kernel_rfl))
  refine CodeOk.ifF hc134 (by kernel_rfl) ?_
  refine CodeOk.skip ?_
  refine CodeOk.seq' ?_
  refine CodeOk.cutR (tl 44 [(0, .loc 0 0), (3, .loc 100 0), (5, .own 101), (30, V.bool ((x84.length : Int) == 6))]) [(0, .cells 108 [.sl false false (p0_0.map encSToken), V.int r83.2.1, V.bool r83.2.2.1, .own 102]), (100, .cells 138 [V.bool a1.noIn, V.bool a1.noGt]), (101, .vec false 111 5 (x84.map encSTree)), (102, .vec false 9 1 (r83.2.2.2.map encS))] mix (by
   refine W.run D_ok 1 173 (by kernel_rfl) ?_
   refine W.len D_ok encSTree x84 [101] (by kernel_rfl) (by kernel_rfl) ?_
   refine W.run D_ok 1 173 (by kernel_rfl) ?_
   exact W.fi (by kernel_rfl)
   ) ?_
  (revert h115; refine cond_rev (fun hc136 h115 => ?_) (fun hc136 h115 => ?_))
  ·refine CodeOk.ifT hc136 (by kernel_rfl) ?_
   refine cu D_ok mix 4 173 (tl 44 [(5, .own 101)]) [(0, .cells 108 [.sl false false (p0_0.map encSToken), V.int r83.2.1, V.bool true, .own 102]), (101, .vec false 111 5 (x84.map encSTree)), (102, .vec false 9 1 (r83.2.2.2.map encS))] (by kernel_rfl) ?_
   refine CodeOk.exit ?_
   exact hk70 (x84, r83.2.1, true, r83.2.2.2) h115 _ (Weak.sel [(101, 100), (0, 0), (102, 101)] [5] (by kernel_rfl) (by kernel_rfl) (by kernel_rfl))
  refine CodeOk.ifF hc136 (by kernel_rfl) ?_
  refine CodeOk.skip ?_
  refine cu D_ok mix 8 173 (tl 44 [(0, .loc 0 0), (3, .loc 100 0), (5, .own 101)]) [(0, .cells 108 [.sl false false (p0_0.map encSToken), V.int (IntKind.wrap .i64 (r83.2.1 + 1)), V.bool r83.2.2.1, .own 102]), (100, .cells 138 [V.bool a1.noIn, V.bool a1.noGt]), (101, .vec false 111 5 (x84.map encSTree)), (102, .vec false 9 1 (r83.2.2.2.map encS))] (by kernel_rfl) ?_
  (revert h115; refine bind_rev fun r92 hx138 h115 => ?_)
  refine CodeOk.endR (tl 44 [(0, .loc 0 0), (3, .loc 100 0), (5, .own 101)]) [(173, .vec false 9 1 (r92.2.map encS)), (0, .cells 108 [.sl false false (p0_0.map encSToken), V.int r92.1, V.bool r83.2.2.1, .own 173]), (100, .cells 138 [V.bool a1.noIn, V.bool a1.noGt]), (101, .vec false 111 5 (x84.map encSTree))] mix (by
   refine W.run D_ok 1 173 (by kernel_rfl) ?_
   refine W.call (m_impl_parser__newlines_ok N p0_0 (IntKind.wrap .i64 (r83.2.1 + 1)) r83.2.2.1 r83.2.2.2 hx138) cok146 [(0, 0), (102, 1)] [(0, 0), (100, 173)] [173] (show LayOk _ [] from trivial) (by kernel_rfl) (by kernel_rfl) ?_
   exact W.fi (by kernel_rfl)
   ) (fun st hw => ?_)
  exact ih116 (a1, r92.1, r83.2.2.1, x84, r92.2) h115 _ (hw.trans (Weak.sel [(0, 0), (100, 100), (101, 101), (173, 102)] [0, 3, 5] (by kernel_rfl) (by kernel_rfl) (by kernel_rfl)))
 refine CodeOk.ifF hc118 (by kernel_rfl) ?_
 refine CodeOk.exit ?_
 exact hk70 (y63, y61, y62, y64) h115 _ (Weak.sel [(101, 100), (0, 0), (102, 101)] [5] (by kernel_rfl) (by kernel_rfl) (by kernel_rfl))

theorem m_impl_parser__list_F_ok (N : Nat) (R : Rec1) (HR : RecOk1 R) (a1 : Int) (p0_0 : List SToken) (p0_1 : Int) (p0_2 : Bool) (p1 : List (List UInt8)) {r : ((List STree) × Int × Bool × (List (List UInt8)))} (h : m_impl_parser__list_F N R a1 p0_0 p0_1 p0_2 p1 = some r) :
    AC Tryd.prog (GS []) 149 [.loc 0 0, V.int a1] [(0, .cells 108 [.sl false false (p0_0.map encSToken), V.int p0_1, V.bool p0_2, .own 1]), (1, .vec false 9 1 (p1.map encS))] (.own 100) [(0, .cells 108 [.sl false false (p0_0.map encSToken), V.int r.2.1, V.bool r.2.2.1, .own 101]), (100, .vec false 111 5 (r.1.map encSTree)), (101, .vec false 9 1 (r.2.2.2.map encS))] := by
 rw [m_impl_parser__list_F] at h
 refine AC.enter Tryd.func149 rfl ?_
 refine cu D_ok mix 1 100 (tl 30 [(0, .loc 0 0), (1, V.int a1)]) [(0, .cells 108 [.sl false false (p0_0.map encSToken), V.int p0_1, V.bool p0_2, .own 1]), (1, .vec false 9 1 (p1.map encS))] (by kernel_rfl) ?_
 refine CodeOk.cutR (tl 30 [(0, .loc 0 0), (1, V.int a1), (5, .own 100)]) [(100, .vec false 111 5 ([].map encSTree)), (0, .cells 108 [.sl false false (p0_0.map encSToken), V.int p0_1, V.bool p0_2, .own 1]), (1, .vec false 9 1 (p1.map encS))] mix (by
  refine W.layop D_ok (show LayOk _ [] from trivial) (by kernel_rfl) 100 { v := .own 100, R := [], new := [(100, .vec true 111 5 [])], N := [100] } (by kernel_rfl) ?_
  refine W.vecEq 100 (nn := true) (e := 111) (k := 5) (rows := []) (rows' := [].map encSTree) (by kernel_rfl) rfl ?_
  refine W.run D_ok 1 101 (by kernel_rfl) ?_
  exact W.fi (by kernel_rfl)
  ) ?_
 refine CodeOk.seq' ?_
 (revert h; refine bind_rev fun y5 hv9 h => ?_)
 refine CodeOk.cutR (tl 30 [(0, .loc 0 0), (1, V.int a1), (5, .own 100), (14, V.bool y5)]) [(0, .cells 108 [.sl false false (p0_0.map encSToken), V.int p0_1, V.bool p0_2, .own 1]), (100, .vec false 111 5 ([].map encSTree)), (1, .vec false 9 1 (p1.map encS))] mix (by
  refine W.run D_ok 1 101 (by kernel_rfl) ?_
  (revert hv9; refine bind_rev fun r6 hx10 hv9 => ?_)
  refine W.call (m_impl_parser__kind_ok p0_0 p0_1 p0_2 p1 hx10) cok97 [(0, 0), (1, 1)] [(0, 0), (1, 1)] [] (show LayOk _ [] from trivial) (by kernel_rfl) (by kernel_rfl) ?_
  refine W.run D_ok 3 101 (by kernel_rfl) ?_
  (revert hv9; refine cond_rev (fun hc11 hv9 => ?_) (fun hc11 hv9 => ?_))
  ·refine W.is 11 hc11 (by kernel_rfl) ?_
   refine W.run D_ok 3 101 (by kernel_rfl) ?_
   have hv9 := Option.some.inj hv9
   subst hv9
   exact W.fs [(0, 0), (100, 100), (1, 1)] [0, 1, 5, 14] (by kernel_rfl)
  refine W.is 11 hc11 (by kernel_rfl) ?_
  refine W.run D_ok 3 101 (by kernel_rfl) ?_
  have hv9 := Option.some.inj hv9
  subst hv9
  exact W.fs [(0, 0), (100, 100), (1, 1)] [0, 1, 5, 14] (by kernel_rfl)
  ) ?_
 (revert h; refine cond_rev (fun hc12 h => ?_) (fun hc12 h => ?_))
 ·refine CodeOk.ifT hc12 (by kernel_rfl) ?_
  refine cu D_ok mix 8 101 (tl 30 [(5, .own 100)]) [(0, .cells 108 [.sl false false (p0_0.map encSToken), V.int (IntKind.wrap .i64 (p0_1 + 1)), V.bool p0_2, .own 1]), (100, .vec false 111 5 ([].map encSTree)), (1, .vec false 9 1 (p1.map encS))] (by kernel_rfl) ?_
  refine cu D_ok mix 2 101 (tl 30 [(4, .own 100)]) [(0, .cells 108 [.sl false false (p0_0.map encSToken), V.int (IntKind.wrap .i64 (p0_1 + 1)), V.bool p0_2, .own 1]), (100, .vec false 111 5 ([].map encSTree)), (1, .vec false 9 1 (p1.map encS))] (by kernel_rfl) ?_
  refine CodeOk.ret ?_
  have h := Option.some.inj h
  subst h
  exact Ends.gen [(0, 0), (100, 100), (1, 101)] (.inr rfl) (RetV.one rfl (OneR.tmp (t := 4) (r := .own 100) (by kernel_rfl))) (by kernel_rfl) (by kernel_rfl) (by kernel_rfl)
 refine CodeOk.ifF hc12 (by kernel_rfl) ?_
 refine CodeOk.skip ?_
 (revert h; refine bind_rev fun r8 hx14 h => ?_)
 refine CodeOk.cutR (tl 30 [(0, .loc 0 0), (1, V.int a1), (5, .own 101)]) [(101, .vec false 111 5 (r8.1.map encSTree)), (102, .vec false 9 1 (r8.2.2.2.map encS)), (0, .cells 108 [.sl false false (p0_0.map encSToken), V.int r8.2.1, V.bool r8.2.2.1, .own 102])] mix (by
  refine W.run D_ok 2 101 (by kernel_rfl) ?_
  refine W.call (HR.m_impl_parser__items (⟨false, false⟩ : SRules) p0_0 p0_1 p0_2 p1 _ hx14) cok171 [(0, 0), (1, 1)] [(0, 0), (100, 101), (101, 102)] [101, 102] (show LayOk _ [] from trivial) (by kernel_rfl) (by kernel_rfl) ?_
  refine W.run D_ok 1 103 (by kernel_rfl) ?_
  exact W.fi (by kernel_rfl)
  ) ?_
 (revert h; refine bind_rev fun r10 hx16 h => ?_)
 refine CodeOk.cutR (tl 30 [(5, .own 101)]) [(101, .vec false 111 5 (r8.1.map encSTree)), (102, .vec false 9 1 (r8.2.2.2.map encS)), (0, .cells 108 [.sl false false (p0_0.map encSToken), V.int r10.2.1, V.bool r10.2.2, .own 102])] mix (by
  refine W.run D_ok 2 103 (by kernel_rfl) ?_
  refine W.call (m_impl_parser__take_ok a1 p0_0 r8.2.1 r8.2.2.1 r8.2.2.2 hx16) cok145 [(0, 0), (102, 1)] [(0, 0), (1, 102)] [] (show LayOk _ [] from trivial) (by kernel_rfl) (by kernel_rfl) ?_
  exact W.fi (by kernel_rfl)
  ) ?_
 refine cu D_ok mix 2 103 (tl 30 [(4, .own 101)]) [(101, .vec false 111 5 (r8.1.map encSTree)), (102, .vec false 9 1 (r8.2.2.2.map encS)), (0, .cells 108 [.sl false false (p0_0.map encSToken), V.int r10.2.1, V.bool r10.2.2, .own 102])] (by kernel_rfl) ?_
 refine CodeOk.ret ?_
 have h := Option.some.inj h
 subst h
 exact Ends.gen [(0, 0), (101, 100), (102, 101)] (.inr rfl) (RetV.one rfl (OneR.tmp (t := 4) (r := .own 101) (by kernel_rfl))) (by kernel_rfl) (by kernel_rfl) (by kernel_rfl)

theorem m_impl_parser__in_F_ok (N : Nat) (R : Rec1) (HR : RecOk1 R) (a1 : SRules) (p0_0 : List SToken) (p0_1 : Int) (p0_2 : Bool) (p1 : List (List UInt8)) {r : (SPart × Int × Bool × (List (List UInt8)))} (h : m_impl_parser__in_F N R a1 p0_0 p0_1 p0_2 p1 = some r) :
    AC Tryd.prog (GS []) 103 [.loc 0 0, .agg [V.bool a1.noIn, V.bool a1.noGt]] [(0, .cells 108 [.sl false false (p0_0.map encSToken), V.int p0_1, V.bool p0_2, .own 1]), (1, .vec false 9 1 (p1.map encS))] (.agg [V.int r.1.tree.kind, V.int r.1.tree.op, V.str r.1.tree.text, V.str r.1.tree.other, .sl false false (r.1.tree.kids.map encSTree), V.bool r.1.target]) [(0, .cells 108 [.sl false false (p0_0.map encSToken), V.int r.2.1, V.bool r.2.2.1, .own 100]), (100, .vec false 9 1 (r.2.2.2.map encS))] := by
 rw [m_impl_parser__in_F] at h
 refine AC.enter Tryd.func103 rfl ?_
 refine cu D_ok mix 2 100 (tl 84 [(0, .loc 0 0), (3, .loc 100 0), (4, .loc 101 0)]) [(101, .cells 113 [V.int 0, V.int 0, V.str [], V.str [], .c (.slice none 0 0), V.bool false]), (100, .cells 138 [V.bool a1.noIn, V.bool a1.noGt]), (0, .cells 108 [.sl false false (p0_0.map encSToken), V.int p0_1, V.bool p0_2, .own 1]), (1, .vec false 9 1 (p1.map encS))] (by kernel_rfl) ?_
 refine cu D_ok mix 4 102 (tl 84 [(0, .loc 0 0), (3, .loc 100 0), (4, .loc 101 0), (5, .loc 102 0), (6, .c (.slice none 0 0))]) [(102, .cells 113 [V.int 0, V.int 0, V.str [], V.str [], .c (.slice none 0 0), V.bool false]), (101, .cells 113 [V.int 0, V.int 0, V.str [], V.str [], .c (.slice none 0 0), V.bool false]), (100, .cells 138 [V.bool a1.noIn, V.bool a1.noGt]), (0, .cells 108 [.sl false false (p0_0.map encSToken), V.int p0_1, V.bool p0_2, .own 1]), (1, .vec false 9 1 (p1.map encS))] (by kernel_rfl) ?_
 refine CodeOk.seq' ?_
 (revert h; refine bind_rev fun y17 hv30 h => ?_)
 refine CodeOk.cutR (tl 84 [(0, .loc 0 0), (3, .loc 100 0), (4, .loc 101 0), (5, .loc 102 0), (6, .c (.slice none 0 0)), (26, V.bool y17)]) [(0, .cells 108 [.sl false false (p0_0.map encSToken), V.int p0_1, V.bool p0_2, .own 1]), (100, .cells 138 [V.bool a1.noIn, V.bool a1.noGt]), (101, .cells 113 [V.int 0, V.int 0, V.str [], V.str [], .c (.slice none 0 0), V.bool false]), (102, .cells 113 [V.int 0, V.int 0, V.str [], V.str [], .c (.slice none 0 0), V.bool false]), (1, .vec false 9 1 (p1.map encS))] mix (by
  refine W.run D_ok 6 103 (by kernel_rfl) ?_
  (revert hv30; refine cond_rev (fun hc31 hv30 => ?_) (fun hc31 hv30 => ?_))
  ·refine W.is 13 hc31 (by kernel_rfl) ?_
   refine W.run D_ok 1 103 (by kernel_rfl) ?_
   (revert hv30; refine bind_rev fun r18 hx32 hv30 => ?_)
   refine W.call (m_impl_parser__kind_ok p0_0 p0_1 p0_2 p1 hx32) cok97 [(0, 0), (1, 1)] [(0, 0), (1, 1)] [] (show LayOk _ [] from trivial) (by kernel_rfl) (by kernel_rfl) ?_
   refine W.run D_ok 3 103 (by kernel_rfl) ?_
   (revert hv30; refine cond_rev (fun hc33 hv30 => ?_) (fun hc33 hv30 => ?_))
   ·refine W.is 18 hc33 (by kernel_rfl) ?_
    refine W.run D_ok 5 103 (by kernel_rfl) ?_
    (revert hv30; refine cond_rev (fun hc34 hv30 => ?_) (fun hc34 hv30 => ?_))
    ·refine W.is 23 hc34 (by kernel_rfl) ?_
     refine W.run D_ok 1 103 (by kernel_rfl) ?_
     (revert hv30; refine bind_rev fun r19 hx35 hv30 => ?_)
     refine W.call (m_impl_parser__listAhead_ok N p0_0 p0_1 p0_2 p1 hx35) cok148 [(0, 0), (1, 1)] [(0, 0), (1, 1)] [] (show LayOk _ [] from trivial) (by kernel_rfl) (by kernel_rfl) ?_
     refine W.run D_ok 1 103 (by kernel_rfl) ?_
     have hv30 := Option.some.inj hv30
     subst hv30
     exact W.fs [(0, 0), (100, 100), (101, 101), (102, 102), (1, 1)] [0, 3, 4, 5, 6, 26] (by kernel_rfl)
    refine W.is 23 hc34 (by kernel_rfl) ?_
    refine W.run D_ok 3 103 (by kernel_rfl) ?_
    have hv30 := Option.some.inj hv30
    subst hv30
    exact W.fs [(0, 0), (100, 100), (101, 101), (102, 102), (1, 1)] [0, 3, 4, 5, 6, 26] (by kernel_rfl)
   refine W.is 18 hc33 (by kernel_rfl) ?_
   refine W.run D_ok 8 103 (by kernel_rfl) ?_
   have hv30 := Option.some.inj hv30
   subst hv30
   exact W.fs [(0, 0), (100, 100), (101, 101), (102, 102), (1, 1)] [0, 3, 4, 5, 6, 26] (by kernel_rfl)
  refine W.is 13 hc31 (by kernel_rfl) ?_
  refine W.run D_ok 13 103 (by kernel_rfl) ?_
  have hv30 := Option.some.inj hv30
  subst hv30
  exact W.fs [(0, 0), (100, 100), (101, 101), (102, 102), (1, 1)] [0, 3, 4, 5, 6, 26] (by kernel_rfl)
  ) ?_
 (revert h; refine cond_rev (fun hc36 h => ?_) (fun hc36 h => ?_))
 ·refine CodeOk.ifT hc36 (by kernel_rfl) ?_
  refine cu D_ok mix 8 103 (tl 84 [(0, .loc 0 0), (3, .loc 100 0), (4, .loc 101 0), (5, .loc 102 0)]) [(0, .cells 108 [.sl false false (p0_0.map encSToken), V.int (IntKind.wrap .i64 (p0_1 + 1)), V.bool p0_2, .own 1]), (100, .cells 138 [V.bool a1.noIn, V.bool a1.noGt]), (101, .cells 113 [V.int 0, V.int 0, V.str [], V.str [], .c (.slice none 0 0), V.bool false]), (102, .cells 113 [V.int 0, V.int 0, V.str [], V.str [], .c (.slice none 0 0), V.bool false]), (1, .vec false 9 1 (p1.map encS))] (by kernel_rfl) ?_
  (revert h; refine bind_rev fun r21 hx38 h => ?_)
  refine CodeOk.cutR (tl 84 [(0, .loc 0 0), (3, .loc 100 0), (4, .loc 101 0), (5, .loc 102 0), (6, .own 103)]) [(103, .vec false 111 5 (r21.1.map encSTree)), (104, .vec false 9 1 (r21.2.2.2.map encS)), (0, .cells 108 [.sl false false (p0_0.map encSToken), V.int r21.2.1, V.bool r21.2.2.1, .own 104]), (100, .cells 138 [V.bool a1.noIn, V.bool a1.noGt]), (101, .cells 113 [V.int 0, V.int 0, V.str [], V.str [], .c (.slice none 0 0), V.bool false]), (102, .cells 113 [V.int 0, V.int 0, V.str [], V.str [], .c (.slice none 0 0), V.bool false])] mix (by
   refine W.run D_ok 1 103 (by kernel_rfl) ?_
   refine W.call (HR.m_impl_parser__list 33 p0_0 (IntKind.wrap .i64 (p0_1 + 1)) p0_2 p1 _ hx38) cok149 [(0, 0), (1, 1)] [(0, 0), (100, 103), (101, 104)] [103, 104] (show LayOk _ [] from trivial) (by kernel_rfl) (by kernel_rfl) ?_
   refine W.run D_ok 1 105 (by kernel_rfl) ?_
   exact W.fi (by kernel_rfl)
   ) ?_
  (revert h; refine bind_rev fun y23 hv41 h => ?_)
  refine CodeOk.cutR (tl 84 [(0, .loc 0 0), (3, .loc 100 0), (4, .loc 101 0), (5, .loc 102 0), (6, .own 103), (45, V.bool y23)]) [(0, .cells 108 [.sl false false (p0_0.map encSToken), V.int r21.2.1, V.bool r21.2.2.1, .own 104]), (100, .cells 138 [V.bool a1.noIn, V.bool a1.noGt]), (101, .cells 113 [V.int 0, V.int 0, V.str [], V.str [], .c (.slice none 0 0), V.bool false]), (102, .cells 113 [V.int 0, V.int 0, V.str [], V.str [], .c (.slice none 0 0), V.bool false]), (103, .vec false 111 5 (r21.1.map encSTree)), (104, .vec false 9 1 (r21.2.2.2.map encS))] mix (by
   refine W.run D_ok 6 105 (by kernel_rfl) ?_
   (revert hv41; refine cond_rev (fun hc42 hv41 => ?_) (fun hc42 hv41 => ?_))
   ·refine W.is 41 hc42 (by kernel_rfl) ?_
    refine W.run D_ok 1 105 (by kernel_rfl) ?_
    (revert hv41; refine bind_rev fun r24 hx43 hv41 => ?_)
    refine W.call (m_impl_parser__kind_ok p0_0 r21.2.1 r21.2.2.1 r21.2.2.2 hx43) cok97 [(0, 0), (104, 1)] [(0, 0), (1, 104)] [] (show LayOk _ [] from trivial) (by kernel_rfl) (by kernel_rfl) ?_
    refine W.run D_ok 2 105 (by kernel_rfl) ?_
    have hv41 := Option.some.inj hv41
    subst hv41
    exact W.fs [(0, 0), (100, 100), (101, 101), (102, 102), (103, 103), (104, 104)] [0, 3, 4, 5, 6, 45] (by kernel_rfl)
   refine W.is 41 hc42 (by kernel_rfl) ?_
   refine W.run D_ok 4 105 (by kernel_rfl) ?_
   have hv41 := Option.some.inj hv41
   subst hv41
   exact W.fs [(0, 0), (100, 100), (101, 101), (102, 102), (103, 103), (104, 104)] [0, 3, 4, 5, 6, 45] (by kernel_rfl)
   ) ?_
  (revert h; refine cond_rev (fun hc44 h => ?_) (fun hc44 h => ?_))
  ·refine CodeOk.ifT hc44 (by kernel_rfl) ?_
   (revert h; refine bind_rev fun r26 hx46 h => ?_)
   refine CodeOk.cutR (tl 84 [(4, .loc 101 0)]) [(101, .cells 113 [V.int r26.1.tree.kind, V.int r26.1.tree.op, V.str r26.1.tree.text, V.str r26.1.tree.other, .sl false false (r26.1.tree.kids.map encSTree), V.bool r26.1.target]), (0, .cells 108 [.sl false false (p0_0.map encSToken), V.int r21.2.1, V.bool r26.2, .own 104]), (104, .vec false 9 1 (r21.2.2.2.map encS))] mix (by
    refine W.run D_ok 1 105 (by kernel_rfl) ?_
    refine W.call (m_impl_parser__fail_ok p0_0 r21.2.1 r21.2.2.1 r21.2.2.2 hx46) cok98 [(0, 0), (104, 1)] [(0, 0), (1, 104)] [] (show LayOk _ [] from trivial) (by kernel_rfl) (by kernel_rfl) ?_
    refine W.run D_ok 1 105 (by kernel_rfl) ?_
    exact W.fi (by kernel_rfl)
    ) ?_
   refine CodeOk.ret ?_
   have h := Option.some.inj h
   subst h
   exact Ends.gen [(0, 0), (104, 100)] (.inr rfl) (RetV.one rfl (OneR.cell D_ok (r := .agg [V.int r26.1.tree.kind, V.int r26.1.tree.op, V.str r26.1.tree.text, V.str r26.1.tree.other, .sl false false (r26.1.tree.kids.map encSTree), V.bool r26.1.target]) (i := 101) (ety := 113) (cs := [V.int r26.1.tree.kind, V.int r26.1.tree.op, V.str r26.1.tree.text, V.str r26.1.tree.other, .sl false false (r26.1.tree.kids.map encSTree), V.bool r26.1.target]) (by kernel_rfl) (by kernel_rfl) (by kernel_rfl))) (by kernel_rfl) (by kernel_rfl) (by kernel_rfl)
  refine CodeOk.ifF hc44 (by kernel_rfl) ?_
  refine CodeOk.skip ?_
  refine CodeOk.seq' ?_
  refine CodeOk.block' ?_
  refine CodeOk.loopN (n := N + 1) (LoopN.step ?_)
  refine CodeOk.seq' ?_
  (revert h; refine bind_rev fun y75 hv136 h => ?_)
  refine CodeOk.cutR (tl 84 [(0, .loc 0 0), (3, .loc 100 0), (4, .loc 101 0), (5, .loc 102 0), (6, .own 103), (65, V.bool y75)]) [(0, .cells 108 [.sl false false (p0_0.map encSToken), V.int r21.2.1, V.bool r21.2.2.1, .own 104]), (100, .cells 138 [V.bool a1.noIn, V.bool a1.noGt]), (101, .cells 113 [V.int 0, V.int 0, V.str [], V.str [], .c (.slice none 0 0), V.bool false]), (102, .cells 113 [V.int 0, V.int 0, V.str [], V.str [], .c (.slice none 0 0), V.bool false]), (103, .vec false 111 5 (r21.1.map encSTree)), (104, .vec false 9 1 (r21.2.2.2.map encS))] mix (by
   refine W.run D_ok 6 105 (by kernel_rfl) ?_
   (revert hv136; refine cond_rev (fun hc137 hv136 => ?_) (fun hc137 hv136 => ?_))
   ·refine W.is 56 hc137 (by kernel_rfl) ?_
    refine W.run D_ok 1 105 (by kernel_rfl) ?_
    (revert hv136; refine bind_rev fun r76 hx138 hv136 => ?_)
    refine W.call (m_impl_parser__kind_ok p0_0 r21.2.1 r21.2.2.1 r21.2.2.2 hx138) cok97 [(0, 0), (104, 1)] [(0, 0), (1, 104)] [] (show LayOk _ [] from trivial) (by kernel_rfl) (by kernel_rfl) ?_
    refine W.run D_ok 3 105 (by kernel_rfl) ?_
    (revert hv136; refine cond_rev (fun hc139 hv136 => ?_) (fun hc139 hv136 => ?_))
    ·refine W.is 61 hc139 (by kernel_rfl) ?_
     refine W.run D_ok 4 105 (by kernel_rfl) ?_
     have hv136 := Option.some.inj hv136
     subst hv136
     exact W.fs [(0, 0), (100, 100), (101, 101), (102, 102), (103, 103), (104, 104)] [0, 3, 4, 5, 6, 65] (by kernel_rfl)
    refine W.is 61 hc139 (by kernel_rfl) ?_
    refine W.run D_ok 4 105 (by kernel_rfl) ?_
    have hv136 := Option.some.inj hv136
    subst hv136
    exact W.fs [(0, 0), (100, 100), (101, 101), (102, 102), (103, 103), (104, 104)] [0, 3, 4, 5, 6, 65] (by kernel_rfl)
   refine W.is 56 hc137 (by kernel_rfl) ?_
   refine W.run D_ok 9 105 (by kernel_rfl) ?_
   have hv136 := Option.some.inj hv136
   subst hv136
   exact W.fs [(0, 0), (100, 100), (101, 101), (102, 102), (103, 103), (104, 104)] [0, 3, 4, 5, 6, 65] (by kernel_rfl)
   ) ?_
  (revert h; refine cond_rev (fun hc140 h => ?_) (fun hc140 h => ?_))
  ·refine CodeOk.ifT hc140 (by kernel_rfl) ?_
   refine CodeOk.skip ?_
   refine CodeOk.block' ?_
   refine cu D_ok mix 8 105 (tl 84 [(0, .loc 0 0), (3, .loc 100 0), (4, .loc 101 0), (5, .loc 102 0), (6, .own 103)]) [(0, .cells 108 [.sl false false (p0_0.map encSToken), V.int (IntKind.wrap .i64 (r21.2.1 + 1)), V.bool r21.2.2.1, .own 104]), (100, .cells 138 [V.bool a1.noIn, V.bool a1.noGt]), (101, .cells 113 [V.int 0, V.int 0, V.str [], V.str [], .c (.slice none 0 0), V.bool false]), (102, .cells 113 [V.int 0, V.int 0, V.str [], V.str [], .c (.slice none 0 0), V.bool false]), (103, .vec false 111 5 (r21.1.map encSTree)), (104, .vec false 9 1 (r21.2.2.2.map encS))] (by kernel_rfl) ?_
   refine CodeOk.seq' ?_
   (revert h; refine bind_rev fun b80 hx144 h => ?_)
   refine CodeOk.cutR (tl 84 [(0, .loc 0 0), (3, .loc 100 0), (4, .loc 101 0), (5, .loc 102 0), (6, .own 103), (74, V.bool false)]) [(0, .cells 108 [.sl false false (p0_0.map encSToken), V.int (IntKind.wrap .i64 (r21.2.1 + 1)), V.bool r21.2.2.1, .own 104]), (100, .cells 138 [V.bool a1.noIn, V.bool a1.noGt]), (101, .cells 113 [V.int 0, V.int 0, V.str [], V.str [], .c (.slice none 0 0), V.bool false]), (102, .cells 113 [V.int 0, V.int 0, V.str [], V.str [], .c (.slice none 0 0), V.bool false]), (103, .vec false 111 5 (r21.1.map encSTree)), (104, .vec false 9 1 (r21.2.2.2.map encS))] mix (by
    refine W.run D_ok 1 105 (by kernel_rfl) ?_
    refine W.nilO D_ok encSTree hx144 103 (by kernel_rfl) ?_
    exact W.fi (by kernel_rfl)
    ) ?_
   refine CodeOk.ifF (c := false) rfl (by kernel_rfl) ?_
   refine CodeOk.skip ?_
   (revert h; refine bind_rev fun r82 hx146 h => ?_)
   refine CodeOk.cutR (tl 84 [(0, .loc 0 0), (3, .loc 100 0), (4, .loc 101 0), (5, .loc 102 0)]) [(102, .cells 113 [V.int 13, V.int 0, V.str r82.1, V.str [], .own 103, V.bool false]), (0, .cells 108 [.sl false false (p0_0.map encSToken), V.int r82.2.1, V.bool r82.2.2, .own 104]), (100, .cells 138 [V.bool a1.noIn, V.bool a1.noGt]), (101, .cells 113 [V.int 0, V.int 0, V.str [], V.str [], .c (.slice none 0 0), V.bool false]), (103, .vec false 111 5 (r21.1.map encSTree)), (104, .vec false 9 1 (r21.2.2.2.map encS))] mix (by
    refine W.run D_ok 1 105 (by kernel_rfl) ?_
    refine W.call (m_impl_parser__name_ok p0_0 (IntKind.wrap .i64 (r21.2.1 + 1)) r21.2.2.1 r21.2.2.2 hx146) cok150 [(0, 0), (104, 1)] [(0, 0), (1, 104)] [] (show LayOk _ [] from trivial) (by kernel_rfl) (by kernel_rfl) ?_
    refine W.run D_ok 4 105 (by kernel_rfl) ?_
    exact W.fi (by kernel_rfl)
    ) ?_
   refine ce D_ok mix 1 105 (tl 84 [(0, .loc 0 0), (3, .loc 100 0), (4, .loc 101 0), (5, .loc 102 0), (6, .c (.slice none 0 0))]) [(102, .cells 113 [V.int 13, V.int 0, V.str r82.1, V.str [], .own 103, V.bool false]), (0, .cells 108 [.sl false false (p0_0.map encSToken), V.int r82.2.1, V.bool r82.2.2, .own 104]), (100, .cells 138 [V.bool a1.noIn, V.bool a1.noGt]), (101, .cells 113 [V.int 0, V.int 0, V.str [], V.str [], .c (.slice none 0 0), V.bool false]), (103, .vec false 111 5 (r21.1.map encSTree)), (104, .vec false 9 1 (r21.2.2.2.map encS))] (by kernel_rfl) (fun st hw => ?_)
   refine LoopN.weak hw ?_
   refine LoopN.J (fun (⟨a1, r21, y91, y92, y93, y94⟩ : (SRules × ((List STree) × Int × Bool × (List (List UInt8))) × Int × Bool × (List UInt8) × (List STree))) => ⟨tl 84 [(0, .loc 0 0), (3, .loc 100 0), (4, .loc 101 0), (5, .loc 102 0), (6, .c (.slice none 0 0))], [(0, .cells 108 [.sl false false (p0_0.map encSToken), V.int y91, V.bool y92, .own 103]), (100, .cells 138 [V.bool a1.noIn, V.bool a1.noGt]), (101, .cells 113 [V.int 0, V.int 0, V.str [], V.str [], .sl false false ([].map encSTree), V.bool false]), (102, .cells 113 [V.int 13, V.int 0, V.str y93, V.str [], .own 104, V.bool false]), (103, .vec false 9 1 (r21.2.2.2.map encS)), (104, .vec false 111 5 (y94.map encSTree))]⟩) (fun n i => m_impl_parser__in_l1 N R p0_0 n i = some r) (n0 := N) (i0 := (a1, r21, r82.2.1, r82.2.2, r82.1, r21.1)) ((Weak.nilsH 101 [4] (e := 113) (cs := [V.int 0, V.int 0, V.str [], V.str [], .c (.slice none 0 0), V.bool false]) (by kernel_rfl)).trans (Weak.sel [(0, 0), (100, 100), (101, 101), (102, 102), (104, 103), (103, 104)] [0, 3, 4, 5, 6] (by kernel_rfl) (by kernel_rfl) (by kernel_rfl))) h (fun i h => by simp [m_impl_parser__in_l1] at h) ?_
   rintro n1 ⟨a1, r21, y91, y92, y93, y94⟩ h183 ih184
   rw [m_impl_parser__in_l1] at h183
   refine CodeOk.seq' ?_
   (revert h183; refine bind_rev fun y111 hv196 h183 => ?_)
   refine CodeOk.cutR (tl 84 [(0, .loc 0 0), (3, .loc 100 0), (4, .loc 101 0), (5, .loc 102 0), (6, .c (.slice none 0 0)), (65, V.bool y111)]) [(0, .cells 108 [.sl false false (p0_0.map encSToken), V.int y91, V.bool y92, .own 103]), (100, .cells 138 [V.bool a1.noIn, V.bool a1.noGt]), (101, .cells 113 [V.int 0, V.int 0, V.str [], V.str [], .sl false false ([].map encSTree), V.bool false]), (102, .cells 113 [V.int 13, V.int 0, V.str y93, V.str [], .own 104, V.bool false]), (103, .vec false 9 1 (r21.2.2.2.map encS)), (104, .vec false 111 5 (y94.map encSTree))] mix (by
    refine W.run D_ok 6 167 (by kernel_rfl) ?_
    (revert hv196; refine cond_rev (fun hc197 hv196 => ?_) (fun hc197 hv196 => ?_))
    ·refine W.is 56 hc197 (by kernel_rfl) ?_
     refine W.run D_ok 1 167 (by kernel_rfl) ?_
     (revert hv196; refine bind_rev fun r112 hx198 hv196 => ?_)
     refine W.call (m_impl_parser__kind_ok p0_0 y91 y92 r21.2.2.2 hx198) cok97 [(0, 0), (103, 1)] [(0, 0), (1, 103)] [] (show LayOk _ [] from trivial) (by kernel_rfl) (by kernel_rfl) ?_
     refine W.run D_ok 3 167 (by kernel_rfl) ?_
     (revert hv196; refine cond_rev (fun hc199 hv196 => ?_) (fun hc199 hv196 => ?_))
     ·refine W.is 61 hc199 (by kernel_rfl) ?_
      refine W.run D_ok 4 167 (by kernel_rfl) ?_
      have hv196 := Option.some.inj hv196
      subst hv196
      exact W.fs [(0, 0), (100, 100), (101, 101), (102, 102), (103, 103), (104, 104)] [0, 3, 4, 5, 6, 65] (by kernel_rfl)
     refine W.is 61 hc199 (by kernel_rfl) ?_
     refine W.run D_ok 4 167 (by kernel_rfl) ?_
     have hv196 := Option.some.inj hv196
     subst hv196
     exact W.fs [(0, 0), (100, 100), (101, 101), (102, 102), (103, 103), (104, 104)] [0, 3, 4, 5, 6, 65] (by kernel_rfl)
    refine W.is 56 hc197 (by kernel_rfl) ?_
    refine W.run D_ok 9 167 (by kernel_rfl) ?_
    have hv196 := Option.some.inj hv196
    subst hv196
    exact W.fs [(0, 0), (100, 100), (101, 101), (102, 102), (103, 103), (104, 104)] [0, 3, 4, 5, 6, 65] (by kernel_rfl)
    ) ?_
   (revert h183; refine cond_rev (fun hc200 h183 => ?_) (fun hc200 h183 => ?_))
   ·refine CodeOk.ifT hc200 (by kernel_rfl) ?_
    refine CodeOk.skip ?_
    refine CodeOk.block' ?_
    refine cu D_ok mix 8 167 (tl 84 [(0, .loc 0 0), (3, .loc 100 0), (4, .loc 101 0), (5, .loc 102 0), (6, .c (.slice none 0 0))]) [(0, .cells 108 [.sl false false (p0_0.map encSToken), V.int (IntKind.wrap .i64 (y91 + 1)), V.bool y92, .own 103]), (100, .cells 138 [V.bool a1.noIn, V.bool a1.noGt]), (101, .cells 113 [V.int 0, V.int 0, V.str [], V.str [], .sl false false ([].map encSTree), V.bool false]), (102, .cells 113 [V.int 13, V.int 0, V.str y93, V.str [], .own 104, V.bool false]), (103, .vec false 9 1 (r21.2.2.2.map encS)), (104, .vec false 111 5 (y94.map encSTree))] (by kernel_rfl) ?_
    refine CodeOk.seq' ?_
    refine CodeOk.cutR (tl 84 [(0, .loc 0 0), (3, .loc 100 0), (4, .loc 101 0), (5, .loc 102 0), (6, .c (.slice none 0 0)), (74, V.bool true)]) [(0, .cells 108 [.sl false false (p0_0.map encSToken), V.int (IntKind.wrap .i64 (y91 + 1)), V.bool y92, .own 103]), (100, .cells 138 [V.bool a1.noIn, V.bool a1.noGt]), (101, .cells 113 [V.int 0, V.int 0, V.str [], V.str [], .sl false false ([].map encSTree), V.bool false]), (102, .cells 113 [V.int 13, V.int 0, V.str y93, V.str [], .own 104, V.bool false]), (103, .vec false 9 1 (r21.2.2.2.map encS)), (104, .vec false 111 5 (y94.map encSTree))] mix (by
     refine W.run D_ok 1 167 (by kernel_rfl) ?_
     refine W.nilEq D_ok true (by kernel_rfl) ?_
     exact W.fi (by kernel_rfl)
     ) ?_
    refine CodeOk.ifT (c := true) rfl (by kernel_rfl) ?_
    refine CodeOk.lay (tl 84 [(0, .loc 0 0), (3, .loc 100 0), (4, .loc 101 0), (5, .loc 102 0), (6, .sl false false ([].map encSTree)), (74, V.bool true)]) [(0, .cells 108 [.sl false false (p0_0.map encSToken), V.int (IntKind.wrap .i64 (y91 + 1)), V.bool y92, .own 103]), (100, .cells 138 [V.bool a1.noIn, V.bool a1.noGt]), (101, .cells 113 [V.int 0, V.int 0, V.str [], V.str [], .sl false false ([].map encSTree), V.bool false]), (102, .cells 113 [V.int 13, V.int 0, V.str y93, V.str [], .sl false false (y94.map encSTree), V.bool false]), (103, .vec false 9 1 (r21.2.2.2.map encS))] (LayOk.cons (j := 104) encSTree encSTree y94 (by kernel_rfl) (share_encSTree) (show LayOk _ [] from trivial)) (by kernel_rfl) (by kernel_rfl) (by kernel_rfl) ?_
    refine CodeOk.endR (tl 84 [(0, .loc 0 0), (3, .loc 100 0), (4, .loc 101 0), (5, .loc 102 0), (6, .own 167)]) [(167, .vec false 111 5 ([(⟨13, 0, y93, [], y94⟩ : STree)].map encSTree)), (0, .cells 108 [.sl false false (p0_0.map encSToken), V.int (IntKind.wrap .i64 (y91 + 1)), V.bool y92, .own 103]), (100, .cells 138 [V.bool a1.noIn, V.bool a1.noGt]), (101, .cells 113 [V.int 0, V.int 0, V.str [], V.str [], .sl false false ([].map encSTree), V.bool false]), (102, .cells 113 [V.int 13, V.int 0, V.str y93, V.str [], .sl false false (y94.map encSTree), V.bool false]), (103, .vec false 9 1 (r21.2.2.2.map encS))] mix (by
     refine W.run D_ok 2 167 (by kernel_rfl) ?_
     refine W.layop D_ok (show LayOk _ [] from trivial) (by kernel_rfl) 167 { v := .own 167, R := [], new := [(167, .vec true 111 5 [[V.int 13, V.int 0, V.str y93, V.str [], .sl false false (y94.map encSTree)]])], N := [167] } (by kernel_rfl) ?_
     refine W.vecEq 167 (nn := true) (e := 111) (k := 5) (rows := [[V.int 13, V.int 0, V.str y93, V.str [], .sl false false (y94.map encSTree)]]) (rows' := [(⟨13, 0, y93, [], y94⟩ : STree)].map encSTree) (by kernel_rfl) (by simp only [List.map_cons, List.map_nil, encSTree_eq]) ?_
     refine W.run D_ok 1 168 (by kernel_rfl) ?_
     exact W.fi (by kernel_rfl)
     ) (fun st hw => ?_)
    refine CodeOk.weak hw ?_
    (revert h183; refine bind_rev fun r114 hx202 h183 => ?_)
    refine CodeOk.cutR (tl 84 [(0, .loc 0 0), (3, .loc 100 0), (4, .loc 101 0), (5, .loc 102 0)]) [(102, .cells 113 [V.int 13, V.int 0, V.str r114.1, V.str [], .own 167, V.bool false]), (167, .vec false 111 5 ([(⟨13, 0, y93, [], y94⟩ : STree)].map encSTree)), (0, .cells 108 [.sl false false (p0_0.map encSToken), V.int r114.2.1, V.bool r114.2.2, .own 103]), (100, .cells 138 [V.bool a1.noIn, V.bool a1.noGt]), (101, .cells 113 [V.int 0, V.int 0, V.str [], V.str [], .sl false false ([].map encSTree), V.bool false]), (103, .vec false 9 1 (r21.2.2.2.map encS))] mix (by
     refine W.run D_ok 1 168 (by kernel_rfl) ?_
     refine W.call (m_impl_parser__name_ok p0_0 (IntKind.wrap .i64 (y91 + 1)) y92 r21.2.2.2 hx202) cok150 [(0, 0), (103, 1)] [(0, 0), (1, 103)] [] (show LayOk _ [] from trivial) (by kernel_rfl) (by kernel_rfl) ?_
     refine W.run D_ok 4 168 (by kernel_rfl) ?_
     exact W.fi (by kernel_rfl)
     ) ?_
    refine ce D_ok mix 1 168 (tl 84 [(0, .loc 0 0), (3, .loc 100 0), (4, .loc 101 0), (5, .loc 102 0), (6, .c (.slice none 0 0))]) [(102, .cells 113 [V.int 13, V.int 0, V.str r114.1, V.str [], .own 167, V.bool false]), (167, .vec false 111 5 ([(⟨13, 0, y93, [], y94⟩ : STree)].map encSTree)), (0, .cells 108 [.sl false false (p0_0.map encSToken), V.int r114.2.1, V.bool r114.2.2, .own 103]), (100, .cells 138 [V.bool a1.noIn, V.bool a1.noGt]), (101, .cells 113 [V.int 0, V.int 0, V.str [], V.str [], .sl false false ([].map encSTree), V.bool false]), (103, .vec false 9 1 (r21.2.2.2.map encS))] (by kernel_rfl) (fun st hw => ?_)
    exact ih184 (a1, r21, r114.2.1, r114.2.2, r114.1, [(⟨13, 0, y93, [], y94⟩ : STree)]) h183 _ (hw.trans (Weak.sel [(0, 0), (100, 100), (101, 101), (102, 102), (103, 103), (167, 104)] [0, 3, 4, 5, 6] (by kernel_rfl) (by kernel_rfl) (by kernel_rfl)))
   refine CodeOk.ifF hc200 (by kernel_rfl) ?_
   refine CodeOk.exit ?_
   refine cu D_ok mix 2 167 (tl 84 [(4, .loc 101 0)]) [(101, .cells 113 [V.int 13, V.int 0, V.str y93, V.str [], .own 104, V.bool false]), (0, .cells 108 [.sl false false (p0_0.map encSToken), V.int y91, V.bool y92, .own 103]), (103, .vec false 9 1 (r21.2.2.2.map encS)), (104, .vec false 111 5 (y94.map encSTree))] (by kernel_rfl) ?_
   refine CodeOk.lay (tl 84 [(4, .loc 101 0)]) [(101, .cells 113 [V.int 13, V.int 0, V.str y93, V.str [], .sl false false (y94.map encSTree), V.bool false]), (0, .cells 108 [.sl false false (p0_0.map encSToken), V.int y91, V.bool y92, .own 103]), (103, .vec false 9 1 (r21.2.2.2.map encS))] (LayOk.cons (j := 104) encSTree encSTree y94 (by kernel_rfl) (share_encSTree) (show LayOk _ [] from trivial)) (by kernel_rfl) (by kernel_rfl) (by kernel_rfl) ?_
   refine CodeOk.ret ?_
   have h183 := Option.some.inj h183
   subst h183
   exact Ends.gen [(0, 0), (103, 100)] (.inr rfl) (RetV.one rfl (OneR.cell D_ok (r := .agg [V.int 13, V.int 0, V.str y93, V.str [], .sl false false (y94.map encSTree), V.bool false]) (i := 101) (ety := 113) (cs := [V.int 13, V.int 0, V.str y93, V.str [], .sl false false (y94.map encSTree), V.bool false]) (by kernel_rfl) (by kernel_rfl) (by kernel_rfl))) (by kernel_rfl) (by kernel_rfl) (by kernel_rfl)
  refine CodeOk.ifF hc140 (by kernel_rfl) ?_
  refine CodeOk.exit ?_
  refine cu D_ok mix 2 105 (tl 84 [(4, .loc 101 0)]) [(101, .cells 113 [V.int 0, V.int 0, V.str [], V.str [], .c (.slice none 0 0), V.bool false]), (0, .cells 108 [.sl false false (p0_0.map encSToken), V.int r21.2.1, V.bool r21.2.2.1, .own 104]), (104, .vec false 9 1 (r21.2.2.2.map encS))] (by kernel_rfl) ?_
  refine CodeOk.lay (tl 84 [(4, .loc 101 0)]) [(101, .cells 113 [V.int 0, V.int 0, V.str [], V.str [], .sl false false ([].map encSTree), V.bool false]), (0, .cells 108 [.sl false false (p0_0.map encSToken), V.int r21.2.1, V.bool r21.2.2.1, .own 104]), (104, .vec false 9 1 (r21.2.2.2.map encS))] (show LayOk _ [] from trivial) (by kernel_rfl) (by kernel_rfl) (by kernel_rfl) ?_
  refine CodeOk.ret ?_
  have h := Option.some.inj h
  subst h
  exact Ends.gen [(0, 0), (104, 100)] (.inr rfl) (RetV.one rfl (OneR.cell D_ok (r := .agg [V.int 0, V.int 0, V.str [], V.str [], .sl false false ([].map encSTree), V.bool false]) (i := 101) (ety := 113) (cs := [V.int 0, V.int 0, V.str [], V.str [], .sl false false ([].map encSTree), V.bool false]) (by kernel_rfl) (by kernel_rfl) (by kernel_rfl))) (by kernel_rfl) (by kernel_rfl) (by kernel_rfl)
 refine CodeOk.ifF hc36 (by kernel_rfl) ?_
 (revert h; refine bind_rev fun r116 hx204 h => ?_)
 refine CodeOk.endR (tl 84 [(0, .loc 0 0), (3, .loc 100 0), (4, .loc 101 0), (5, .loc 102 0), (6, .c (.slice none 0 0))]) [(102, .cells 113 [V.int r116.1.tree.kind, V.int r116.1.tree.op, V.str r116.1.tree.text, V.str r116.1.tree.other, .sl false false (r116.1.tree.kids.map encSTree), V.bool r116.1.target]), (103, .vec false 9 1 (r116.2.2.2.map encS)), (0, .cells 108 [.sl false false (p0_0.map encSToken), V.int r116.2.1, V.bool r116.2.2.1, .own 103]), (100, .cells 138 [V.bool a1.noIn, V.bool a1.noGt]), (101, .cells 113 [V.int 0, V.int 0, V.str [], V.str [], .c (.slice none 0 0), V.bool false])] mix (by
  refine W.run D_ok 2 103 (by kernel_rfl) ?_
  refine W.call (HR.m_impl_parser__match a1 p0_0 p0_1 p0_2 p1 _ hx204) cok104 [(0, 0), (1, 1)] [(0, 0), (100, 103)] [103] (show LayOk _ [] from trivial) (by kernel_rfl) (by kernel_rfl) ?_
  refine W.run D_ok 1 104 (by kernel_rfl) ?_
  exact W.fi (by kernel_rfl)
  ) (fun st hw => ?_)
 refine CodeOk.weak hw ?_
 refine CodeOk.seq' ?_
 refine CodeOk.block' ?_
 refine CodeOk.loopN (n := N + 1) (LoopN.step ?_)
 refine CodeOk.seq' ?_
 (revert h; refine bind_rev fun y161 hv290 h => ?_)
 refine CodeOk.cutR (tl 84 [(0, .loc 0 0), (3, .loc 100 0), (4, .loc 101 0), (5, .loc 102 0), (6, .c (.slice none 0 0)), (65, V.bool y161)]) [(0, .cells 108 [.sl false false (p0_0.map encSToken), V.int r116.2.1, V.bool r116.2.2.1, .own 103]), (100, .cells 138 [V.bool a1.noIn, V.bool a1.noGt]), (101, .cells 113 [V.int 0, V.int 0, V.str [], V.str [], .c (.slice none 0 0), V.bool false]), (102, .cells 113 [V.int r116.1.tree.kind, V.int r116.1.tree.op, V.str r116.1.tree.text, V.str r116.1.tree.other, .sl false false (r116.1.tree.kids.map encSTree), V.bool r116.1.target]), (103, .vec false 9 1 (r116.2.2.2.map encS))] mix (by
  refine W.run D_ok 6 104 (by kernel_rfl) ?_
  (revert hv290; refine cond_rev (fun hc291 hv290 => ?_) (fun hc291 hv290 => ?_))
  ·refine W.is 56 hc291 (by kernel_rfl) ?_
   refine W.run D_ok 1 104 (by kernel_rfl) ?_
   (revert hv290; refine bind_rev fun r162 hx292 hv290 => ?_)
   refine W.call (m_impl_parser__kind_ok p0_0 r116.2.1 r116.2.2.1 r116.2.2.2 hx292) cok97 [(0, 0), (103, 1)] [(0, 0), (1, 103)] [] (show LayOk _ [] from trivial) (by kernel_rfl) (by kernel_rfl) ?_
   refine W.run D_ok 3 104 (by kernel_rfl) ?_
   (revert hv290; refine cond_rev (fun hc293 hv290 => ?_) (fun hc293 hv290 => ?_))
   ·refine W.is 61 hc293 (by kernel_rfl) ?_
    refine W.run D_ok 4 104 (by kernel_rfl) ?_
    have hv290 := Option.some.inj hv290
    subst hv290
    exact W.fs [(0, 0), (100, 100), (101, 101), (102, 102), (103, 103)] [0, 3, 4, 5, 6, 65] (by kernel_rfl)
   refine W.is 61 hc293 (by kernel_rfl) ?_
   refine W.run D_ok 4 104 (by kernel_rfl) ?_
   have hv290 := Option.some.inj hv290
   subst hv290
   exact W.fs [(0, 0), (100, 100), (101, 101), (102, 102), (103, 103)] [0, 3, 4, 5, 6, 65] (by kernel_rfl)
  refine W.is 56 hc291 (by kernel_rfl) ?_
  refine W.run D_ok 9 104 (by kernel_rfl) ?_
  have hv290 := Option.some.inj hv290
  subst hv290
  exact W.fs [(0, 0), (100, 100), (101, 101), (102, 102), (103, 103)] [0, 3, 4, 5, 6, 65] (by kernel_rfl)
  ) ?_
 (revert h; refine cond_rev (fun hc294 h => ?_) (fun hc294 h => ?_))
 ·refine CodeOk.ifT hc294 (by kernel_rfl) ?_
  refine CodeOk.skip ?_
  refine CodeOk.block' ?_
  refine cu D_ok mix 8 104 (tl 84 [(0, .loc 0 0), (3, .loc 100 0), (4, .loc 101 0), (5, .loc 102 0), (6, .c (.slice none 0 0))]) [(0, .cells 108 [.sl false false (p0_0.map encSToken), V.int (IntKind.wrap .i64 (r116.2.1 + 1)), V.bool r116.2.2.1, .own 103]), (100, .cells 138 [V.bool a1.noIn, V.bool a1.noGt]), (101, .cells 113 [V.int 0, V.int 0, V.str [], V.str [], .c (.slice none 0 0), V.bool false]), (102, .cells 113 [V.int r116.1.tree.kind, V.int r116.1.tree.op, V.str r116.1.tree.text, V.str r116.1.tree.other, .sl false false (r116.1.tree.kids.map encSTree), V.bool r116.1.target]), (103, .vec false 9 1 (r116.2.2.2.map encS))] (by kernel_rfl) ?_
  refine CodeOk.seq' ?_
  refine CodeOk.cutR (tl 84 [(0, .loc 0 0), (3, .loc 100 0), (4, .loc 101 0), (5, .loc 102 0), (6, .c (.slice none 0 0)), (74, V.bool true)]) [(0, .cells 108 [.sl false false (p0_0.map encSToken), V.int (IntKind.wrap .i64 (r116.2.1 + 1)), V.bool r116.2.2.1, .own 103]), (100, .cells 138 [V.bool a1.noIn, V.bool a1.noGt]), (101, .cells 113 [V.int 0, V.int 0, V.str [], V.str [], .c (.slice none 0 0), V.bool false]), (102, .cells 113 [V.int r116.1.tree.kind, V.int r116.1.tree.op, V.str r116.1.tree.text, V.str r116.1.tree.other, .sl false false (r116.1.tree.kids.map encSTree), V.bool r116.1.target]), (103, .vec false 9 1 (r116.2.2.2.map encS))] mix (by
   refine W.run D_ok 1 104 (by kernel_rfl) ?_
   refine W.nilEq D_ok true (by kernel_rfl) ?_
   exact W.fi (by kernel_rfl)
   ) ?_
  refine CodeOk.ifT (c := true) rfl (by kernel_rfl) ?_
  refine CodeOk.endR (tl 84 [(0, .loc 0 0), (3, .loc 100 0), (4, .loc 101 0), (5, .loc 102 0), (6, .own 104)]) [(104, .vec false 111 5 ([r116.1.tree].map encSTree)), (0, .cells 108 [.sl false false (p0_0.map encSToken), V.int (IntKind.wrap .i64 (r116.2.1 + 1)), V.bool r116.2.2.1, .own 103]), (100, .cells 138 [V.bool a1.noIn, V.bool a1.noGt]), (101, .cells 113 [V.int 0, V.int 0, V.str [], V.str [], .c (.slice none 0 0), V.bool false]), (102, .cells 113 [V.int r116.1.tree.kind, V.int r116.1.tree.op, V.str r116.1.tree.text, V.str r116.1.tree.other, .sl false false (r116.1.tree.kids.map encSTree), V.bool r116.1.target]), (103, .vec false 9 1 (r116.2.2.2.map encS))] mix (by
   refine W.run D_ok 2 104 (by kernel_rfl) ?_
   refine W.layop D_ok (show LayOk _ [] from trivial) (by kernel_rfl) 104 { v := .own 104, R := [], new := [(104, .vec true 111 5 [[V.int r116.1.tree.kind, V.int r116.1.tree.op, V.str r116.1.tree.text, V.str r116.1.tree.other, .sl false false (r116.1.tree.kids.map encSTree)]])], N := [104] } (by kernel_rfl) ?_
   refine W.vecEq 104 (nn := true) (e := 111) (k := 5) (rows := [[V.int r116.1.tree.kind, V.int r116.1.tree.op, V.str r116.1.tree.text, V.str r116.1.tree.other, .sl false false (r116.1.tree.kids.map encSTree)]]) (rows' := [r116.1.tree].map encSTree) (by kernel_rfl) (by simp only [List.map_cons, List.map_nil, encSTree_eq]) ?_
   refine W.run D_ok 1 105 (by kernel_rfl) ?_
   exact W.fi (by kernel_rfl)
   ) (fun st hw => ?_)
  refine CodeOk.weak hw ?_
  (revert h; refine bind_rev fun r164 hx296 h => ?_)
  refine CodeOk.cutR (tl 84 [(0, .loc 0 0), (3, .loc 100 0), (4, .loc 101 0), (5, .loc 102 0)]) [(102, .cells 113 [V.int 13, V.int 0, V.str r164.1, V.str [], .own 104, V.bool false]), (104, .vec false 111 5 ([r116.1.tree].map encSTree)), (0, .cells 108 [.sl false false (p0_0.map encSToken), V.int r164.2.1, V.bool r164.2.2, .own 103]), (100, .cells 138 [V.bool a1.noIn, V.bool a1.noGt]), (101, .cells 113 [V.int 0, V.int 0, V.str [], V.str [], .c (.slice none 0 0), V.bool false]), (103, .vec false 9 1 (r116.2.2.2.map encS))] mix (by
   refine W.run D_ok 1 105 (by kernel_rfl) ?_
   refine W.call (m_impl_parser__name_ok p0_0 (IntKind.wrap .i64 (r116.2.1 + 1)) r116.2.2.1 r116.2.2.2 hx296) cok150 [(0, 0), (103, 1)] [(0, 0), (1, 103)] [] (show LayOk _ [] from trivial) (by kernel_rfl) (by kernel_rfl) ?_
   refine W.run D_ok 4 105 (by kernel_rfl) ?_
   exact W.fi (by kernel_rfl)
   ) ?_
  refine ce D_ok mix 1 105 (tl 84 [(0, .loc 0 0), (3, .loc 100 0), (4, .loc 101 0), (5, .loc 102 0), (6, .c (.slice none 0 0))]) [(102, .cells 113 [V.int 13, V.int 0, V.str r164.1, V.str [], .own 104, V.bool false]), (104, .vec false 111 5 ([r116.1.tree].map encSTree)), (0, .cells 108 [.sl false false (p0_0.map encSToken), V.int r164.2.1, V.bool r164.2.2, .own 103]), (100, .cells 138 [V.bool a1.noIn, V.bool a1.noGt]), (101, .cells 113 [V.int 0, V.int 0, V.str [], V.str [], .c (.slice none 0 0), V.bool false]), (103, .vec false 9 1 (r116.2.2.2.map encS))] (by kernel_rfl) (fun st hw => ?_)
  refine LoopN.weak hw ?_
  refine LoopN.J (fun (⟨a1, r116, y173, y174, y175, y176⟩ : (SRules × (SPart × Int × Bool × (List (List UInt8))) × Int × Bool × (List UInt8) × (List STree))) => ⟨tl 84 [(0, .loc 0 0), (3, .loc 100 0), (4, .loc 101 0), (5, .loc 102 0), (6, .c (.slice none 0 0))], [(0, .cells 108 [.sl false false (p0_0.map encSToken), V.int y173, V.bool y174, .own 103]), (100, .cells 138 [V.bool a1.noIn, V.bool a1.noGt]), (101, .cells 113 [V.int 0, V.int 0, V.str [], V.str [], .sl false false ([].map encSTree), V.bool false]), (102, .cells 113 [V.int 13, V.int 0, V.str y175, V.str [], .own 104, V.bool false]), (103, .vec false 9 1 (r116.2.2.2.map encS)), (104, .vec false 111 5 (y176.map encSTree))]⟩) (fun n i => m_impl_parser__in_l2 N R p0_0 n i = some r) (n0 := N) (i0 := (a1, r116, r164.2.1, r164.2.2, r164.1, [r116.1.tree])) ((Weak.nilsH 101 [4] (e := 113) (cs := [V.int 0, V.int 0, V.str [], V.str [], .c (.slice none 0 0), V.bool false]) (by kernel_rfl)).trans (Weak.sel [(0, 0), (100, 100), (101, 101), (102, 102), (103, 103), (104, 104)] [0, 3, 4, 5, 6] (by kernel_rfl) (by kernel_rfl) (by kernel_rfl))) h (fun i h => by simp [m_impl_parser__in_l2] at h) ?_
  rintro n2 ⟨a1, r116, y173, y174, y175, y176⟩ h333 ih334
  rw [m_impl_parser__in_l2] at h333
  refine CodeOk.seq' ?_
  (revert h333; refine bind_rev fun y193 hv346 h333 => ?_)
  refine CodeOk.cutR (tl 84 [(0, .loc 0 0), (3, .loc 100 0), (4, .loc 101 0), (5, .loc 102 0), (6, .c (.slice none 0 0)), (65, V.bool y193)]) [(0, .cells 108 [.sl false false (p0_0.map encSToken), V.int y173, V.bool y174, .own 103]), (100, .cells 138 [V.bool a1.noIn, V.bool a1.noGt]), (101, .cells 113 [V.int 0, V.int 0, V.str [], V.str [], .sl false false ([].map encSTree), V.bool false]), (102, .cells 113 [V.int 13, V.int 0, V.str y175, V.str [], .own 104, V.bool false]), (103, .vec false 9 1 (r116.2.2.2.map encS)), (104, .vec false 111 5 (y176.map encSTree))] mix (by
   refine W.run D_ok 6 167 (by kernel_rfl) ?_
   (revert hv346; refine cond_rev (fun hc347 hv346 => ?_) (fun hc347 hv346 => ?_))
   ·refine W.is 56 hc347 (by kernel_rfl) ?_
    refine W.run D_ok 1 167 (by kernel_rfl) ?_
    (revert hv346; refine bind_rev fun r194 hx348 hv346 => ?_)
    refine W.call (m_impl_parser__kind_ok p0_0 y173 y174 r116.2.2.2 hx348) cok97 [(0, 0), (103, 1)] [(0, 0), (1, 103)] [] (show LayOk _ [] from trivial) (by kernel_rfl) (by kernel_rfl) ?_
    refine W.run D_ok 3 167 (by kernel_rfl) ?_
    (revert hv346; refine cond_rev (fun hc349 hv346 => ?_) (fun hc349 hv346 => ?_))
    ·refine W.is 61 hc349 (by kernel_rfl) ?_
     refine W.run D_ok 4 167 (by kernel_rfl) ?_
     have hv346 := Option.some.inj hv346
     subst hv346
     exact W.fs [(0, 0), (100, 100), (101, 101), (102, 102), (103, 103), (104, 104)] [0, 3, 4, 5, 6, 65] (by kernel_rfl)
    refine W.is 61 hc349 (by kernel_rfl) ?_
    refine W.run D_ok 4 167 (by kernel_rfl) ?_
    have hv346 := Option.some.inj hv346
    subst hv346
    exact W.fs [(0, 0), (100, 100), (101, 101), (102, 102), (103, 103), (104, 104)] [0, 3, 4, 5, 6, 65] (by kernel_rfl)
   refine W.is 56 hc347 (by kernel_rfl) ?_
   refine W.run D_ok 9 167 (by kernel_rfl) ?_
   have hv346 := Option.some.inj hv346
   subst hv346
   exact W.fs [(0, 0), (100, 100), (101, 101), (102, 102), (103, 103), (104, 104)] [0, 3, 4, 5, 6, 65] (by kernel_rfl)
   ) ?_
  (revert h333; refine cond_rev (fun hc350 h333 => ?_) (fun hc350 h333 => ?_))
  ·refine CodeOk.ifT hc350 (by kernel_rfl) ?_
   refine CodeOk.skip ?_
   refine CodeOk.block' ?_
   refine cu D_ok mix 8 167 (tl 84 [(0, .loc 0 0), (3, .loc 100 0), (4, .loc 101 0), (5, .loc 102 0), (6, .c (.slice none 0 0))]) [(0, .cells 108 [.sl false false (p0_0.map encSToken), V.int (IntKind.wrap .i64 (y173 + 1)), V.bool y174, .own 103]), (100, .cells 138 [V.bool a1.noIn, V.bool a1.noGt]), (101, .cells 113 [V.int 0, V.int 0, V.str [], V.str [], .sl false false ([].map encSTree), V.bool false]), (102, .cells 113 [V.int 13, V.int 0, V.str y175, V.str [], .own 104, V.bool false]), (103, .vec false 9 1 (r116.2.2.2.map encS)), (104, .vec false 111 5 (y176.map encSTree))] (by kernel_rfl) ?_
   refine CodeOk.seq' ?_
   refine CodeOk.cutR (tl 84 [(0, .loc 0 0), (3, .loc 100 0), (4, .loc 101 0), (5, .loc 102 0), (6, .c (.slice none 0 0)), (74, V.bool true)]) [(0, .cells 108 [.sl false false (p0_0.map encSToken), V.int (IntKind.wrap .i64 (y173 + 1)), V.bool y174, .own 103]), (100, .cells 138 [V.bool a1.noIn, V.bool a1.noGt]), (101, .cells 113 [V.int 0, V.int 0, V.str [], V.str [], .sl false false ([].map encSTree), V.bool false]), (102, .cells 113 [V.int 13, V.int 0, V.str y175, V.str [], .own 104, V.bool false]), (103, .vec false 9 1 (r116.2.2.2.map encS)), (104, .vec false 111 5 (y176.map encSTree))] mix (by
    refine W.run D_ok 1 167 (by kernel_rfl) ?_
    refine W.nilEq D_ok true (by kernel_rfl) ?_
    exact W.fi (by kernel_rfl)
    ) ?_
   refine CodeOk.ifT (c := true) rfl (by kernel_rfl) ?_
   refine CodeOk.lay (tl 84 [(0, .loc 0 0), (3, .loc 100 0), (4, .loc 101 0), (5, .loc 102 0), (6, .sl false false ([].map encSTree)), (74, V.bool true)]) [(0, .cells 108 [.sl false false (p0_0.map encSToken), V.int (IntKind.wrap .i64 (y173 + 1)), V.bool y174, .own 103]), (100, .cells 138 [V.bool a1.noIn, V.bool a1.noGt]), (101, .cells 113 [V.int 0, V.int 0, V.str [], V.str [], .sl false false ([].map encSTree), V.bool false]), (102, .cells 113 [V.int 13, V.int 0, V.str y175, V.str [], .sl false false (y176.map encSTree), V.bool false]), (103, .vec false 9 1 (r116.2.2.2.map encS))] (LayOk.cons (j := 104) encSTree encSTree y176 (by kernel_rfl) (share_encSTree) (show LayOk _ [] from trivial)) (by kernel_rfl) (by kernel_rfl) (by kernel_rfl) ?_
   refine CodeOk.endR (tl 84 [(0, .loc 0 0), (3, .loc 100 0), (4, .loc 101 0), (5, .loc 102 0), (6, .own 167)]) [(167, .vec false 111 5 ([(⟨13, 0, y175, [], y176⟩ : STree)].map encSTree)), (0, .cells 108 [.sl false false (p0_0.map encSToken), V.int (IntKind.wrap .i64 (y173 + 1)), V.bool y174, .own 103]), (100, .cells 138 [V.bool a1.noIn, V.bool a1.noGt]), (101, .cells 113 [V.int 0, V.int 0, V.str [], V.str [], .sl false false ([].map encSTree), V.bool false]), (102, .cells 113 [V.int 13, V.int 0, V.str y175, V.str [], .sl false false (y176.map encSTree), V.bool false]), (103, .vec false 9 1 (r116.2.2.2.map encS))] mix (by
    refine W.run D_ok 2 167 (by kernel_rfl) ?_
    refine W.layop D_ok (show LayOk _ [] from trivial) (by kernel_rfl) 167 { v := .own 167, R := [], new := [(167, .vec true 111 5 [[V.int 13, V.int 0, V.str y175, V.str [], .sl false false (y176.map encSTree)]])], N := [167] } (by kernel_rfl) ?_
    refine W.vecEq 167 (nn := true) (e := 111) (k := 5) (rows := [[V.int 13, V.int 0, V.str y175, V.str [], .sl false false (y176.map encSTree)]]) (rows' := [(⟨13, 0, y175, [], y176⟩ : STree)].map encSTree) (by kernel_rfl) (by simp only [List.map_cons, List.map_nil, encSTree_eq]) ?_
    refine W.run D_ok 1 168 (by kernel_rfl) ?_
    exact W.fi (by kernel_rfl)
    ) (fun st hw => ?_)
   refine CodeOk.weak hw ?_
   (revert h333; refine bind_rev fun r196 hx352 h333 => ?_)
   refine CodeOk.cutR (tl 84 [(0, .loc 0 0), (3, .loc 100 0), (4, .loc 101 0), (5, .loc 102 0)]) [(102, .cells 113 [V.int 13, V.int 0, V.str r196.1, V.str [], .own 167, V.bool false]), (167, .vec false 111 5 ([(⟨13, 0, y175, [], y176⟩ : STree)].map encSTree)), (0, .cells 108 [.sl false false (p0_0.map encSToken), V.int r196.2.1, V.bool r196.2.2, .own 103]), (100, .cells 138 [V.bool a1.noIn, V.bool a1.noGt]), (101, .cells 113 [V.int 0, V.int 0, V.str [], V.str [], .sl false false ([].map encSTree), V.bool false]), (103, .vec false 9 1 (r116.2.2.2.map encS))] mix (by
    refine W.run D_ok 1 168 (by kernel_rfl) ?_
    refine W.call (m_impl_parser__name_ok p0_0 (IntKind.wrap .i64 (y173 + 1)) y174 r116.2.2.2 hx352) cok150 [(0, 0), (103, 1)] [(0, 0), (1, 103)] [] (show LayOk _ [] from trivial) (by kernel_rfl) (by kernel_rfl) ?_
    refine W.run D_ok 4 168 (by kernel_rfl) ?_
    exact W.fi (by kernel_rfl)
    ) ?_
   refine ce D_ok mix 1 168 (tl 84 [(0, .loc 0 0), (3, .loc 100 0), (4, .loc 101 0), (5, .loc 102 0), (6, .c (.slice none 0 0))]) [(102, .cells 113 [V.int 13, V.int 0, V.str r196.1, V.str [], .own 167, V.bool false]), (167, .vec false 111 5 ([(⟨13, 0, y175, [], y176⟩ : STree)].map encSTree)), (0, .cells 108 [.sl false false (p0_0.map encSToken), V.int r196.2.1, V.bool r196.2.2, .own 103]), (100, .cells 138 [V.bool a1.noIn, V.bool a1.noGt]), (101, .cells 113 [V.int 0, V.int 0, V.str [], V.str [], .sl false false ([].map encSTree), V.bool false]), (103, .vec false 9 1 (r116.2.2.2.map encS))] (by kernel_rfl) (fun st hw => ?_)
   exact ih334 (a1, r116, r196.2.1, r196.2.2, r196.1, [(⟨13, 0, y175, [], y176⟩ : STree)]) h333 _ (hw.trans (Weak.sel [(0, 0), (100, 100), (101, 101), (102, 102), (103, 103), (167, 104)] [0, 3, 4, 5, 6] (by kernel_rfl) (by kernel_rfl) (by kernel_rfl)))
  refine CodeOk.ifF hc350 (by kernel_rfl) ?_
  refine CodeOk.exit ?_
  refine cu D_ok mix 2 167 (tl 84 [(4, .loc 101 0)]) [(101, .cells 113 [V.int 13, V.int 0, V.str y175, V.str [], .own 104, V.bool false]), (0, .cells 108 [.sl false false (p0_0.map encSToken), V.int y173, V.bool y174, .own 103]), (103, .vec false 9 1 (r116.2.2.2.map encS)), (104, .vec false 111 5 (y176.map encSTree))] (by kernel_rfl) ?_
  refine CodeOk.lay (tl 84 [(4, .loc 101 0)]) [(101, .cells 113 [V.int 13, V.int 0, V.str y175, V.str [], .sl false false (y176.map encSTree), V.bool false]), (0, .cells 108 [.sl false false (p0_0.map encSToken), V.int y173, V.bool y174, .own 103]), (103, .vec false 9 1 (r116.2.2.2.map encS))] (LayOk.cons (j := 104) encSTree encSTree y176 (by kernel_rfl) (share_encSTree) (show LayOk _ [] from trivial)) (by kernel_rfl) (by kernel_rfl) (by kernel_rfl) ?_
  refine CodeOk.ret ?_
  have h333 := Option.some.inj h333
  subst h333
  exact Ends.gen [(0, 0), (103, 100)] (.inr rfl) (RetV.one rfl (OneR.cell D_ok (r := .agg [V.int 13, V.int 0, V.str y175, V.str [], .sl false false (y176.map encSTree), V.bool false]) (i := 101) (ety := 113) (cs := [V.int 13, V.int 0, V.str y175, V.str [], .sl false false (y176.map encSTree), V.bool false]) (by kernel_rfl) (by kernel_rfl) (by kernel_rfl))) (by kernel_rfl) (by kernel_rfl) (by kernel_rfl)
 refine CodeOk.ifF hc294 (by kernel_rfl) ?_
 refine CodeOk.exit ?_
 refine cu D_ok mix 2 104 (tl 84 [(4, .loc 101 0)]) [(101, .cells 113 [V.int r116.1.tree.kind, V.int r116.1.tree.op, V.str r116.1.tree.text, V.str r116.1.tree.other, .sl false false (r116.1.tree.kids.map encSTree), V.bool r116.1.target]), (0, .cells 108 [.sl false false (p0_0.map encSToken), V.int r116.2.1, V.bool r116.2.2.1, .own 103]), (103, .vec false 9 1 (r116.2.2.2.map encS))] (by kernel_rfl) ?_
 refine CodeOk.ret ?_
 have h := Option.some.inj h
 subst h
 exact Ends.gen [(0, 0), (103, 100)] (.inr rfl) (RetV.one rfl (OneR.cell D_ok (r := .agg [V.int r116.1.tree.kind, V.int r116.1.tree.op, V.str r116.1.tree.text, V.str r116.1.tree.other, .sl false false (r116.1.tree.kids.map encSTree), V.bool r116.1.target]) (i := 101) (ety := 113) (cs := [V.int r116.1.tree.kind, V.int r116.1.tree.op, V.str r116.1.tree.text, V.str r116.1.tree.other, .sl false false (r116.1.tree.kids.map encSTree), V.bool r116.1.target]) (by kernel_rfl) (by kernel_rfl) (by kernel_rfl))) (by kernel_rfl) (by kernel_rfl) (by kernel_rfl)

theorem m_impl_parser__and_F_ok (N : Nat) (R : Rec1) (HR : RecOk1 R) (a1 : SRules) (p0_0 : List SToken) (p0_1 : Int) (p0_2 : Bool) (p1 : List (List UInt8)) {r : (SPart × Int × Bool × (List (List UInt8)))} (h : m_impl_parser__and_F N R a1 p0_0 p0_1 p0_2 p1 = some r) :
    AC Tryd.prog (GS []) 102 [.loc 0 0, .agg [V.bool a1.noIn, V.bool a1.noGt]] [(0, .cells 108 [.sl false false (p0_0.map encSToken), V.int p0_1, V.bool p0_2, .own 1]), (1, .vec false 9 1 (p1.map encS))] (.agg [V.int r.1.tree.kind, V.int r.1.tree.op, V.str r.1.tree.text, V.str r.1.tree.other, .sl false false (r.1.tree.kids.map encSTree), V.bool r.1.target]) [(0, .cells 108 [.sl false false (p0_0.map encSToken), V.int r.2.1, V.bool r.2.2.1, .own 100]), (100, .vec false 9 1 (r.2.2.2.map encS))] := by
 rw [m_impl_parser__and_F] at h
 refine AC.enter Tryd.func102 rfl ?_
 refine cu D_ok mix 2 100 (tl 34 [(0, .loc 0 0), (3, .loc 100 0), (4, .loc 101 0)]) [(101, .cells 113 [V.int 0, V.int 0, V.str [], V.str [], .c (.slice none 0 0), V.bool false]), (100, .cells 138 [V.bool a1.noIn, V.bool a1.noGt]), (0, .cells 108 [.sl false false (p0_0.map encSToken), V.int p0_1, V.bool p0_2, .own 1]), (1, .vec false 9 1 (p1.map encS))] (by kernel_rfl) ?_
 (revert h; refine bind_rev fun r2 hx2 h => ?_)
 refine CodeOk.cutR (tl 34 [(0, .loc 0 0), (3, .loc 100 0), (4, .loc 101 0), (5, .loc 103 0)]) [(103, .cells 113 [V.int r2.1.tree.kind, V.int r2.1.tree.op, V.str r2.1.tree.text, V.str r2.1.tree.other, .sl false false (r2.1.tree.kids.map encSTree), V.bool r2.1.target]), (102, .vec false 9 1 (r2.2.2.2.map encS)), (101, .cells 113 [V.int 0, V.int 0, V.str [], V.str [], .c (.slice none 0 0), V.bool false]), (100, .cells 138 [V.bool a1.noIn, V.bool a1.noGt]), (0, .cells 108 [.sl false false (p0_0.map encSToken), V.int r2.2.1, V.bool r2.2.2.1, .own 102])] mix (by
  refine W.run D_ok 2 102 (by kernel_rfl) ?_
  refine W.call (HR.m_impl_parser__in a1 p0_0 p0_1 p0_2 p1 _ hx2) cok103 [(0, 0), (1, 1)] [(0, 0), (100, 102)] [102] (show LayOk _ [] from trivial) (by kernel_rfl) (by kernel_rfl) ?_
  refine W.run D_ok 2 103 (by kernel_rfl) ?_
  exact W.fi (by kernel_rfl)
  ) ?_
 refine CodeOk.seq' ?_
 refine CodeOk.block' ?_
 refine CodeOk.loopJ (fun (⟨a1, y69, y70, y71, y72, y73, y74, y75, y76, y77⟩ : (SRules × Int × Bool × Int × Int × (List UInt8) × (List UInt8) × (List STree) × Bool × (List (List UInt8)))) => ⟨tl 34 [(0, .loc 0 0), (3, .loc 100 0), (4, .loc 101 0), (5, .loc 102 0)], [(0, .cells 108 [.sl false false (p0_0.map encSToken), V.int y69, V.bool y70, .own 103]), (100, .cells 138 [V.bool a1.noIn, V.bool a1.noGt]), (101, .cells 113 [V.int 0, V.int 0, V.str [], V.str [], .c (.slice none 0 0), V.bool false]), (102, .cells 113 [V.int y71, V.int y72, V.str y73, V.str y74, .sl false false (y75.map encSTree), V.bool y76]), (103, .vec false 9 1 (y77.map encS))]⟩) (fun n i => m_impl_parser__and_l1 N R p0_0 n i = some r) (n0 := N) (i0 := (a1, r2.2.1, r2.2.2.1, r2.1.tree.kind, r2.1.tree.op, r2.1.tree.text, r2.1.tree.other, r2.1.tree.kids, r2.1.target, r2.2.2.2)) (Weak.sel [(0, 0), (100, 100), (101, 101), (103, 102), (102, 103)] [0, 3, 4, 5] (by kernel_rfl) (by kernel_rfl) (by kernel_rfl)) h (fun i h => by simp [m_impl_parser__and_l1] at h) ?_
 rintro n1 ⟨a1, y69, y70, y71, y72, y73, y74, y75, y76, y77⟩ h95 ih96
 rw [m_impl_parser__and_l1] at h95
 refine CodeOk.seq' ?_
 (revert h95; refine bind_rev fun y103 hv105 h95 => ?_)
 refine CodeOk.cutR (tl 34 [(0, .loc 0 0), (3, .loc 100 0), (4, .loc 101 0), (5, .loc 102 0), (18, V.bool y103)]) [(0, .cells 108 [.sl false false (p0_0.map encSToken), V.int y69, V.bool y70, .own 103]), (100, .cells 138 [V.bool a1.noIn, V.bool a1.noGt]), (101, .cells 113 [V.int 0, V.int 0, V.str [], V.str [], .c (.slice none 0 0), V.bool false]), (102, .cells 113 [V.int y71, V.int y72, V.str y73, V.str y74, .sl false false (y75.map encSTree), V.bool y76]), (103, .vec false 9 1 (y77.map encS))] mix (by
  refine W.run D_ok 6 168 (by kernel_rfl) ?_
  (revert hv105; refine cond_rev (fun hc106 hv105 => ?_) (fun hc106 hv105 => ?_))
  ·refine W.is 14 hc106 (by kernel_rfl) ?_
   refine W.run D_ok 1 168 (by kernel_rfl) ?_
   (revert hv105; refine bind_rev fun r104 hx107 hv105 => ?_)
   refine W.call (m_impl_parser__kind_ok p0_0 y69 y70 y77 hx107) cok97 [(0, 0), (103, 1)] [(0, 0), (1, 103)] [] (show LayOk _ [] from trivial) (by kernel_rfl) (by kernel_rfl) ?_
   refine W.run D_ok 2 168 (by kernel_rfl) ?_
   have hv105 := Option.some.inj hv105
   subst hv105
   exact W.fs [(0, 0), (100, 100), (101, 101), (102, 102), (103, 103)] [0, 3, 4, 5, 18] (by kernel_rfl)
  refine W.is 14 hc106 (by kernel_rfl) ?_
  refine W.run D_ok 4 168 (by kernel_rfl) ?_
  have hv105 := Option.some.inj hv105
  subst hv105
  exact W.fs [(0, 0), (100, 100), (101, 101), (102, 102), (103, 103)] [0, 3, 4, 5, 18] (by kernel_rfl)
  ) ?_
 (revert h95; refine cond_rev (fun hc108 h95 => ?_) (fun hc108 h95 => ?_))
 ·refine CodeOk.ifT hc108 (by kernel_rfl) ?_
  refine CodeOk.skip ?_
  refine CodeOk.block' ?_
  refine cu D_ok mix 8 168 (tl 34 [(0, .loc 0 0), (3, .loc 100 0), (4, .loc 101 0), (5, .loc 102 0)]) [(0, .cells 108 [.sl false false (p0_0.map encSToken), V.int (IntKind.wrap .i64 (y69 + 1)), V.bool y70, .own 103]), (100, .cells 138 [V.bool a1.noIn, V.bool a1.noGt]), (101, .cells 113 [V.int 0, V.int 0, V.str [], V.str [], .c (.slice none 0 0), V.bool false]), (102, .cells 113 [V.int y71, V.int y72, V.str y73, V.str y74, .sl false false (y75.map encSTree), V.bool y76]), (103, .vec false 9 1 (y77.map encS))] (by kernel_rfl) ?_
  (revert h95; refine bind_rev fun r106 hx110 h95 => ?_)
  refine CodeOk.cutR (tl 34 [(0, .loc 0 0), (3, .loc 100 0), (4, .loc 101 0), (5, .loc 102 0)]) [(168, .vec false 9 1 (r106.2.map encS)), (0, .cells 108 [.sl false false (p0_0.map encSToken), V.int r106.1, V.bool y70, .own 168]), (100, .cells 138 [V.bool a1.noIn, V.bool a1.noGt]), (101, .cells 113 [V.int 0, V.int 0, V.str [], V.str [], .c (.slice none 0 0), V.bool false]), (102, .cells 113 [V.int y71, V.int y72, V.str y73, V.str y74, .sl false false (y75.map encSTree), V.bool y76])] mix (by
   refine W.run D_ok 1 168 (by kernel_rfl) ?_
   refine W.call (m_impl_parser__newlines_ok N p0_0 (IntKind.wrap .i64 (y69 + 1)) y70 y77 hx110) cok146 [(0, 0), (103, 1)] [(0, 0), (100, 168)] [168] (show LayOk _ [] from trivial) (by kernel_rfl) (by kernel_rfl) ?_
   exact W.fi (by kernel_rfl)
   ) ?_
  (revert h95; refine bind_rev fun r109 hx113 h95 => ?_)
  (revert h95; refine bind_rev fun r110 hx114 h95 => ?_)
  refine CodeOk.endR (tl 34 [(0, .loc 0 0), (3, .loc 100 0), (4, .loc 101 0), (5, .loc 102 0)]) [(102, .cells 113 [V.int r110.tree.kind, V.int r110.tree.op, V.str r110.tree.text, V.str r110.tree.other, .sl false false (r110.tree.kids.map encSTree), V.bool r110.target]), (169, .vec false 9 1 (r109.2.2.2.map encS)), (0, .cells 108 [.sl false false (p0_0.map encSToken), V.int r109.2.1, V.bool r109.2.2.1, .own 169]), (100, .cells 138 [V.bool a1.noIn, V.bool a1.noGt]), (101, .cells 113 [V.int 0, V.int 0, V.str [], V.str [], .c (.slice none 0 0), V.bool false])] mix (by
   refine W.run D_ok 3 169 (by kernel_rfl) ?_
   refine W.call (HR.m_impl_parser__in a1 p0_0 r106.1 y70 r106.2 _ hx113) cok103 [(0, 0), (168, 1)] [(0, 0), (100, 169)] [169] (show LayOk _ [] from trivial) (by kernel_rfl) (by kernel_rfl) ?_
   refine W.call0 (m_impl_bin_ok 45 (⟨(⟨y71, y72, y73, y74, y75⟩ : STree), y76⟩ : SPart) r109.1 hx114) cok147 rfl (by kernel_rfl) ?_
   refine W.run D_ok 1 170 (by kernel_rfl) ?_
   exact W.fi (by kernel_rfl)
   ) (fun st hw => ?_)
  exact ih96 (a1, r109.2.1, r109.2.2.1, r110.tree.kind, r110.tree.op, r110.tree.text, r110.tree.other, r110.tree.kids, r110.target, r109.2.2.2) h95 _ (hw.trans (Weak.sel [(0, 0), (100, 100), (101, 101), (102, 102), (169, 103)] [0, 3, 4, 5] (by kernel_rfl) (by kernel_rfl) (by kernel_rfl)))
 refine CodeOk.ifF hc108 (by kernel_rfl) ?_
 refine CodeOk.exit ?_
 refine cu D_ok mix 2 168 (tl 34 [(4, .loc 101 0)]) [(101, .cells 113 [V.int y71, V.int y72, V.str y73, V.str y74, .sl false false (y75.map encSTree), V.bool y76]), (0, .cells 108 [.sl false false (p0_0.map encSToken), V.int y69, V.bool y70, .own 103]), (103, .vec false 9 1 (y77.map encS))] (by kernel_rfl) ?_
 refine CodeOk.ret ?_
 have h95 := Option.some.inj h95
 subst h95
 exact Ends.gen [(0, 0), (103, 100)] (.inr rfl) (RetV.one rfl (OneR.cell D_ok (r := .agg [V.int y71, V.int y72, V.str y73, V.str y74, .sl false false (y75.map encSTree), V.bool y76]) (i := 101) (ety := 113) (cs := [V.int y71, V.int y72, V.str y73, V.str y74, .sl false false (y75.map encSTree), V.bool y76]) (by kernel_rfl) (by kernel_rfl) (by kernel_rfl))) (by kernel_rfl) (by kernel_rfl) (by kernel_rfl)

theorem m_impl_parser__or_F_ok (N : Nat) (R : Rec1) (HR : RecOk1 R) (a1 : SRules) (p0_0 : List SToken) (p0_1 : Int) (p0_2 : Bool) (p1 : List (List UInt8)) {r : (SPart × Int × Bool × (List (List UInt8)))} (h : m_impl_parser__or_F N R a1 p0_0 p0_1 p0_2 p1 = some r) :
    AC Tryd.prog (GS []) 101 [.loc 0 0, .agg [V.bool a1.noIn, V.bool a1.noGt]] [(0, .cells 108 [.sl false false (p0_0.map encSToken), V.int p0_1, V.bool p0_2, .own 1]), (1, .vec false 9 1 (p1.map encS))] (.agg [V.int r.1.tree.kind, V.int r.1.tree.op, V.str r.1.tree.text, V.str r.1.tree.other, .sl false false (r.1.tree.kids.map encSTree), V.bool r.1.target]) [(0, .cells 108 [.sl false false (p0_0.map encSToken), V.int r.2.1, V.bool r.2.2.1, .own 100]), (100, .vec false 9 1 (r.2.2.2.map encS))] := by
 rw [m_impl_parser__or_F] at h
 refine AC.enter Tryd.func101 rfl ?_
 refine cu D_ok mix 2 100 (tl 34 [(0, .loc 0 0), (3, .loc 100 0), (4, .loc 101 0)]) [(101, .cells 113 [V.int 0, V.int 0, V.str [], V.str [], .c (.slice none 0 0), V.bool false]), (100, .cells 138 [V.bool a1.noIn, V.bool a1.noGt]), (0, .cells 108 [.sl false false (p0_0.map encSToken), V.int p0_1, V.bool p0_2, .own 1]), (1, .vec false 9 1 (p1.map encS))] (by kernel_rfl) ?_
 (revert h; refine bind_rev fun r2 hx2 h => ?_)
 refine CodeOk.cutR (tl 34 [(0, .loc 0 0), (3, .loc 100 0), (4, .loc 101 0), (5, .loc 103 0)]) [(103, .cells 113 [V.int r2.1.tree.kind, V.int r2.1.tree.op, V.str r2.1.tree.text, V.str r2.1.tree.other, .sl false false (r2.1.tree.kids.map encSTree), V.bool r2.1.target]), (102, .vec false 9 1 (r2.2.2.2.map encS)), (101, .cells 113 [V.int 0, V.int 0, V.str [], V.str [], .c (.slice none 0 0), V.bool false]), (100, .cells 138 [V.bool a1.noIn, V.bool a1.noGt]), (0, .cells 108 [.sl false false (p0_0.map encSToken), V.int r2.2.1, V.bool r2.2.2.1, .own 102])] mix (by
  refine W.run D_ok 2 102 (by kernel_rfl) ?_
  refine W.call (HR.m_impl_parser__and a1 p0_0 p0_1 p0_2 p1 _ hx2) cok102 [(0, 0), (1, 1)] [(0, 0), (100, 102)] [102] (show LayOk _ [] from trivial) (by kernel_rfl) (by kernel_rfl) ?_
  refine W.run D_ok 2 103 (by kernel_rfl) ?_
  exact W.fi (by kernel_rfl)
  ) ?_
 refine CodeOk.seq' ?_
 refine CodeOk.block' ?_
 refine CodeOk.loopJ (fun (⟨a1, y69, y70, y71, y72, y73, y74, y75, y76, y77⟩ : (SRules × Int × Bool × Int × Int × (List UInt8) × (List UInt8) × (List STree) × Bool × (List (List UInt8)))) => ⟨tl 34 [(0, .loc 0 0), (3, .loc 100 0), (4, .loc 101 0), (5, .loc 102 0)], [(0, .cells 108 [.sl false false (p0_0.map encSToken), V.int y69, V.bool y70, .own 103]), (100, .cells 138 [V.bool a1.noIn, V.bool a1.noGt]), (101, .cells 113 [V.int 0, V.int 0, V.str [], V.str [], .c (.slice none 0 0), V.bool false]), (102, .cells 113 [V.int y71, V.int y72, V.str y73, V.str y74, .sl false false (y75.map encSTree), V.bool y76]), (103, .vec false 9 1 (y77.map encS))]⟩) (fun n i => m_impl_parser__or_l1 N R p0_0 n i = some r) (n0 := N) (i0 := (a1, r2.2.1, r2.2.2.1, r2.1.tree.kind, r2.1.tree.op, r2.1.tree.text, r2.1.tree.other, r2.1.tree.kids, r2.1.target, r2.2.2.2)) (Weak.sel [(0, 0), (100, 100), (101, 101), (103, 102), (102, 103)] [0, 3, 4, 5] (by kernel_rfl) (by kernel_rfl) (by kernel_rfl)) h (fun i h => by simp [m_impl_parser__or_l1] at h) ?_
 rintro n1 ⟨a1, y69, y70, y71, y72, y73, y74, y75, y76, y77⟩ h95 ih96
 rw [m_impl_parser__or_l1] at h95
 refine CodeOk.seq' ?_
 (revert h95; refine bind_rev fun y103 hv105 h95 => ?_)
 refine CodeOk.cutR (tl 34 [(0, .loc 0 0), (3, .loc 100 0), (4, .loc 101 0), (5, .loc 102 0), (18, V.bool y103)]) [(0, .cells 108 [.sl false false (p0_0.map encSToken), V.int y69, V.bool y70, .own 103]), (100, .cells 138 [V.bool a1.noIn, V.bool a1.noGt]), (101, .cells 113 [V.int 0, V.int 0, V.str [], V.str [], .c (.slice none 0 0), V.bool false]), (102, .cells 113 [V.int y71, V.int y72, V.str y73, V.str y74, .sl false false (y75.map encSTree), V.bool y76]), (103, .vec false 9 1 (y77.map encS))] mix (by
  refine W.run D_ok 6 168 (by kernel_rfl) ?_
  (revert hv105; refine cond_rev (fun hc106 hv105 => ?_) (fun hc106 hv105 => ?_))
  ·refine W.is 14 hc106 (by kernel_rfl) ?_
   refine W.run D_ok 1 168 (by kernel_rfl) ?_
   (revert hv105; refine bind_rev fun r104 hx107 hv105 => ?_)
   refine W.call (m_impl_parser__kind_ok p0_0 y69 y70 y77 hx107) cok97 [(0, 0), (103, 1)] [(0, 0), (1, 103)] [] (show LayOk _ [] from trivial) (by kernel_rfl) (by kernel_rfl) ?_
   refine W.run D_ok 2 168 (by kernel_rfl) ?_
   have hv105 := Option.some.inj hv105
   subst hv105
   exact W.fs [(0, 0), (100, 100), (101, 101), (102, 102), (103, 103)] [0, 3, 4, 5, 18] (by kernel_rfl)
  refine W.is 14 hc106 (by kernel_rfl) ?_
  refine W.run D_ok 4 168 (by kernel_rfl) ?_
  have hv105 := Option.some.inj hv105
  subst hv105
  exact W.fs [(0, 0), (100, 100), (101, 101), (102, 102), (103, 103)] [0, 3, 4, 5, 18] (by kernel_rfl)
  ) ?_
 (revert h95; refine cond_rev (fun hc108 h95 => ?_) (fun hc108 h95 => ?_))
 ·refine CodeOk.ifT hc108 (by kernel_rfl) ?_
  refine CodeOk.skip ?_
  refine CodeOk.block' ?_
  refine cu D_ok mix 8 168 (tl 34 [(0, .loc 0 0), (3, .loc 100 0), (4, .loc 101 0), (5, .loc 102 0)]) [(0, .cells 108 [.sl false false (p0_0.map encSToken), V.int (IntKind.wrap .i64 (y69 + 1)), V.bool y70, .own 103]), (100, .cells 138 [V.bool a1.noIn, V.bool a1.noGt]), (101, .cells 113 [V.int 0, V.int 0, V.str [], V.str [], .c (.slice none 0 0), V.bool false]), (102, .cells 113 [V.int y71, V.int y72, V.str y73, V.str y74, .sl false false (y75.map encSTree), V.bool y76]), (103, .vec false 9 1 (y77.map encS))] (by kernel_rfl) ?_
  (revert h95; refine bind_rev fun r106 hx110 h95 => ?_)
  refine CodeOk.cutR (tl 34 [(0, .loc 0 0), (3, .loc 100 0), (4, .loc 101 0), (5, .loc 102 0)]) [(168, .vec false 9 1 (r106.2.map encS)), (0, .cells 108 [.sl false false (p0_0.map encSToken), V.int r106.1, V.bool y70, .own 168]), (100, .cells 138 [V.bool a1.noIn, V.bool a1.noGt]), (101, .cells 113 [V.int 0, V.int 0, V.str [], V.str [], .c (.slice none 0 0), V.bool false]), (102, .cells 113 [V.int y71, V.int y72, V.str y73, V.str y74, .sl false false (y75.map encSTree), V.bool y76])] mix (by
   refine W.run D_ok 1 168 (by kernel_rfl) ?_
   refine W.call (m_impl_parser__newlines_ok N p0_0 (IntKind.wrap .i64 (y69 + 1)) y70 y77 hx110) cok146 [(0, 0), (103, 1)] [(0, 0), (100, 168)] [168] (show LayOk _ [] from trivial) (by kernel_rfl) (by kernel_rfl) ?_
   exact W.fi (by kernel_rfl)
   ) ?_
  (revert h95; refine bind_rev fun r109 hx113 h95 => ?_)
  (revert h95; refine bind_rev fun r110 hx114 h95 => ?_)
  refine CodeOk.endR (tl 34 [(0, .loc 0 0), (3, .loc 100 0), (4, .loc 101 0), (5, .loc 102 0)]) [(102, .cells 113 [V.int r110.tree.kind, V.int r110.tree.op, V.str r110.tree.text, V.str r110.tree.other, .sl false false (r110.tree.kids.map encSTree), V.bool r110.target]), (169, .vec false 9 1 (r109.2.2.2.map encS)), (0, .cells 108 [.sl false false (p0_0.map encSToken), V.int r109.2.1, V.bool r109.2.2.1, .own 169]), (100, .cells 138 [V.bool a1.noIn, V.bool a1.noGt]), (101, .cells 113 [V.int 0, V.int 0, V.str [], V.str [], .c (.slice none 0 0), V.bool false])] mix (by
   refine W.run D_ok 3 169 (by kernel_rfl) ?_
   refine W.call (HR.m_impl_parser__and a1 p0_0 r106.1 y70 r106.2 _ hx113) cok102 [(0, 0), (168, 1)] [(0, 0), (100, 169)] [169] (show LayOk _ [] from trivial) (by kernel_rfl) (by kernel_rfl) ?_
   refine W.call0 (m_impl_bin_ok 44 (⟨(⟨y71, y72, y73, y74, y75⟩ : STree), y76⟩ : SPart) r109.1 hx114) cok147 rfl (by kernel_rfl) ?_
   refine W.run D_ok 1 170 (by kernel_rfl) ?_
   exact W.fi (by kernel_rfl)
   ) (fun st hw => ?_)
  exact ih96 (a1, r109.2.1, r109.2.2.1, r110.tree.kind, r110.tree.op, r110.tree.text, r110.tree.other, r110.tree.kids, r110.target, r109.2.2.2) h95 _ (hw.trans (Weak.sel [(0, 0), (100, 100), (101, 101), (102, 102), (169, 103)] [0, 3, 4, 5] (by kernel_rfl) (by kernel_rfl) (by kernel_rfl)))
 refine CodeOk.ifF hc108 (by kernel_rfl) ?_
 refine CodeOk.exit ?_
 refine cu D_ok mix 2 168 (tl 34 [(4, .loc 101 0)]) [(101, .cells 113 [V.int y71, V.int y72, V.str y73, V.str y74, .sl false false (y75.map encSTree), V.bool y76]), (0, .cells 108 [.sl false false (p0_0.map encSToken), V.int y69, V.bool y70, .own 103]), (103, .vec false 9 1 (y77.map encS))] (by kernel_rfl) ?_
 refine CodeOk.ret ?_
 have h95 := Option.some.inj h95
 subst h95
 exact Ends.gen [(0, 0), (103, 100)] (.inr rfl) (RetV.one rfl (OneR.cell D_ok (r := .agg [V.int y71, V.int y72, V.str y73, V.str y74, .sl false false (y75.map encSTree), V.bool y76]) (i := 101) (ety := 113) (cs := [V.int y71, V.int y72, V.str y73, V.str y74, .sl false false (y75.map encSTree), V.bool y76]) (by kernel_rfl) (by kernel_rfl) (by kernel_rfl))) (by kernel_rfl) (by kernel_rfl) (by kernel_rfl)

theorem m_impl_parser__cond_F_ok (N : Nat) (R : Rec1) (HR : RecOk1 R) (a1 : SRules) (p0_0 : List SToken) (p0_1 : Int) (p0_2 : Bool) (p1 : List (List UInt8)) {r : (SPart × Int × Bool × (List (List UInt8)))} (h : m_impl_parser__cond_F N R a1 p0_0 p0_1 p0_2 p1 = some r) :
    AC Tryd.prog (GS []) 100 [.loc 0 0, .agg [V.bool a1.noIn, V.bool a1.noGt]] [(0, .cells 108 [.sl false false (p0_0.map encSToken), V.int p0_1, V.bool p0_2, .own 1]), (1, .vec false 9 1 (p1.map encS))] (.agg [V.int r.1.tree.kind, V.int r.1.tree.op, V.str r.1.tree.text, V.str r.1.tree.other, .sl false false (r.1.tree.kids.map encSTree), V.bool r.1.target]) [(0, .cells 108 [.sl false false (p0_0.map encSToken), V.int r.2.1, V.bool r.2.2.1, .own 100]), (100, .vec false 9 1 (r.2.2.2.map encS))] := by
 rw [m_impl_parser__cond_F] at h
 refine AC.enter Tryd.func100 rfl ?_
 refine cu D_ok mix 2 100 (tl 50 [(0, .loc 0 0), (3, .loc 100 0), (4, .loc 101 0)]) [(101, .cells 113 [V.int 0, V.int 0, V.str [], V.str [], .c (.slice none 0 0), V.bool false]), (100, .cells 138 [V.bool a1.noIn, V.bool a1.noGt]), (0, .cells 108 [.sl false false (p0_0.map encSToken), V.int p0_1, V.bool p0_2, .own 1]), (1, .vec false 9 1 (p1.map encS))] (by kernel_rfl) ?_
 (revert h; refine bind_rev fun r2 hx2 h => ?_)
 refine CodeOk.cutR (tl 50 [(0, .loc 0 0), (3, .loc 100 0), (4, .loc 101 0), (5, .loc 103 0)]) [(103, .cells 113 [V.int r2.1.tree.kind, V.int r2.1.tree.op, V.str r2.1.tree.text, V.str r2.1.tree.other, .sl false false (r2.1.tree.kids.map encSTree), V.bool r2.1.target]), (102, .vec false 9 1 (r2.2.2.2.map encS)), (101, .cells 113 [V.int 0, V.int 0, V.str [], V.str [], .c (.slice none 0 0), V.bool false]), (100, .cells 138 [V.bool a1.noIn, V.bool a1.noGt]), (0, .cells 108 [.sl false false (p0_0.map encSToken), V.int r2.2.1, V.bool r2.2.2.1, .own 102])] mix (by
  refine W.run D_ok 2 102 (by kernel_rfl) ?_
  refine W.call (HR.m_impl_parser__or a1 p0_0 p0_1 p0_2 p1 _ hx2) cok101 [(0, 0), (1, 1)] [(0, 0), (100, 102)] [102] (show LayOk _ [] from trivial) (by kernel_rfl) (by kernel_rfl) ?_
  refine W.run D_ok 2 103 (by kernel_rfl) ?_
  exact W.fi (by kernel_rfl)
  ) ?_
 refine CodeOk.seq' ?_
 (revert h; refine bind_rev fun y7 hv11 h => ?_)
 refine CodeOk.cutR (tl 50 [(0, .loc 0 0), (3, .loc 100 0), (4, .loc 101 0), (5, .loc 102 0), (19, V.bool y7)]) [(0, .cells 108 [.sl false false (p0_0.map encSToken), V.int r2.2.1, V.bool r2.2.2.1, .own 103]), (100, .cells 138 [V.bool a1.noIn, V.bool a1.noGt]), (101, .cells 113 [V.int 0, V.int 0, V.str [], V.str [], .c (.slice none 0 0), V.bool false]), (102, .cells 113 [V.int r2.1.tree.kind, V.int r2.1.tree.op, V.str r2.1.tree.text, V.str r2.1.tree.other, .sl false false (r2.1.tree.kids.map encSTree), V.bool r2.1.target]), (103, .vec false 9 1 (r2.2.2.2.map encS))] mix (by
  refine W.run D_ok 5 104 (by kernel_rfl) ?_
  (revert hv11; refine cond_rev (fun hc12 hv11 => ?_) (fun hc12 hv11 => ?_))
  ·refine W.is 15 hc12 (by kernel_rfl) ?_
   refine W.run D_ok 4 104 (by kernel_rfl) ?_
   have hv11 := Option.some.inj hv11
   subst hv11
   exact W.fs [(0, 0), (100, 100), (101, 101), (103, 102), (102, 103)] [0, 3, 4, 5, 19] (by kernel_rfl)
  refine W.is 15 hc12 (by kernel_rfl) ?_
  refine W.run D_ok 1 104 (by kernel_rfl) ?_
  (revert hv11; refine bind_rev fun r8 hx13 hv11 => ?_)
  refine W.call (m_impl_parser__kind_ok p0_0 r2.2.1 r2.2.2.1 r2.2.2.2 hx13) cok97 [(0, 0), (102, 1)] [(0, 0), (1, 102)] [] (show LayOk _ [] from trivial) (by kernel_rfl) (by kernel_rfl) ?_
  refine W.run D_ok 2 104 (by kernel_rfl) ?_
  have hv11 := Option.some.inj hv11
  subst hv11
  exact W.fs [(0, 0), (100, 100), (101, 101), (103, 102), (102, 103)] [0, 3, 4, 5, 19] (by kernel_rfl)
  ) ?_
 (revert h; refine cond_rev (fun hc14 h => ?_) (fun hc14 h => ?_))
 ·refine CodeOk.ifT hc14 (by kernel_rfl) ?_
  refine cu D_ok mix 2 104 (tl 50 [(4, .loc 101 0)]) [(101, .cells 113 [V.int r2.1.tree.kind, V.int r2.1.tree.op, V.str r2.1.tree.text, V.str r2.1.tree.other, .sl false false (r2.1.tree.kids.map encSTree), V.bool r2.1.target]), (0, .cells 108 [.sl false false (p0_0.map encSToken), V.int r2.2.1, V.bool r2.2.2.1, .own 103]), (103, .vec false 9 1 (r2.2.2.2.map encS))] (by kernel_rfl) ?_
  refine CodeOk.ret ?_
  have h := Option.some.inj h
  subst h
  exact Ends.gen [(0, 0), (103, 100)] (.inr rfl) (RetV.one rfl (OneR.cell D_ok (r := .agg [V.int r2.1.tree.kind, V.int r2.1.tree.op, V.str r2.1.tree.text, V.str r2.1.tree.other, .sl false false (r2.1.tree.kids.map encSTree), V.bool r2.1.target]) (i := 101) (ety := 113) (cs := [V.int r2.1.tree.kind, V.int r2.1.tree.op, V.str r2.1.tree.text, V.str r2.1.tree.other, .sl false false (r2.1.tree.kids.map encSTree), V.bool r2.1.target]) (by kernel_rfl) (by kernel_rfl) (by kernel_rfl))) (by kernel_rfl) (by kernel_rfl) (by kernel_rfl)
 refine CodeOk.ifF hc14 (by kernel_rfl) ?_
 refine CodeOk.skip ?_
 refine cu D_ok mix 8 104 (tl 50 [(0, .loc 0 0), (3, .loc 100 0), (4, .loc 101 0), (5, .loc 102 0)]) [(0, .cells 108 [.sl false false (p0_0.map encSToken), V.int (IntKind.wrap .i64 (r2.2.1 + 1)), V.bool r2.2.2.1, .own 103]), (100, .cells 138 [V.bool a1.noIn, V.bool a1.noGt]), (101, .cells 113 [V.int 0, V.int 0, V.str [], V.str [], .c (.slice none 0 0), V.bool false]), (102, .cells 113 [V.int r2.1.tree.kind, V.int r2.1.tree.op, V.str r2.1.tree.text, V.str r2.1.tree.other, .sl false false (r2.1.tree.kids.map encSTree), V.bool r2.1.target]), (103, .vec false 9 1 (r2.2.2.2.map encS))] (by kernel_rfl) ?_
 (revert h; refine bind_rev fun r10 hx16 h => ?_)
 refine CodeOk.cutR (tl 50 [(0, .loc 0 0), (3, .loc 100 0), (4, .loc 101 0), (5, .loc 102 0), (6, .loc 105 0)]) [(105, .cells 113 [V.int r10.1.tree.kind, V.int r10.1.tree.op, V.str r10.1.tree.text, V.str r10.1.tree.other, .sl false false (r10.1.tree.kids.map encSTree), V.bool r10.1.target]), (104, .vec false 9 1 (r10.2.2.2.map encS)), (0, .cells 108 [.sl false false (p0_0.map encSToken), V.int r10.2.1, V.bool r10.2.2.1, .own 104]), (100, .cells 138 [V.bool a1.noIn, V.bool a1.noGt]), (101, .cells 113 [V.int 0, V.int 0, V.str [], V.str [], .c (.slice none 0 0), V.bool false]), (102, .cells 113 [V.int r2.1.tree.kind, V.int r2.1.tree.op, V.str r2.1.tree.text, V.str r2.1.tree.other, .sl false false (r2.1.tree.kids.map encSTree), V.bool r2.1.target])] mix (by
  refine W.run D_ok 2 104 (by kernel_rfl) ?_
  refine W.call (HR.m_impl_parser__cond a1 p0_0 (IntKind.wrap .i64 (r2.2.1 + 1)) r2.2.2.1 r2.2.2.2 _ hx16) cok100 [(0, 0), (103, 1)] [(0, 0), (100, 104)] [104] (show LayOk _ [] from trivial) (by kernel_rfl) (by kernel_rfl) ?_
  refine W.run D_ok 2 105 (by kernel_rfl) ?_
  exact W.fi (by kernel_rfl)
  ) ?_
 (revert h; refine bind_rev fun r12 hx18 h => ?_)
 refine CodeOk.cutR (tl 50 [(0, .loc 0 0), (3, .loc 100 0), (4, .loc 101 0), (5, .loc 102 0), (6, .loc 105 0)]) [(105, .cells 113 [V.int r10.1.tree.kind, V.int r10.1.tree.op, V.str r10.1.tree.text, V.str r10.1.tree.other, .sl false false (r10.1.tree.kids.map encSTree), V.bool r10.1.target]), (104, .vec false 9 1 (r10.2.2.2.map encS)), (0, .cells 108 [.sl false false (p0_0.map encSToken), V.int r12.2.1, V.bool r12.2.2, .own 104]), (100, .cells 138 [V.bool a1.noIn, V.bool a1.noGt]), (101, .cells 113 [V.int 0, V.int 0, V.str [], V.str [], .c (.slice none 0 0), V.bool false]), (102, .cells 113 [V.int r2.1.tree.kind, V.int r2.1.tree.op, V.str r2.1.tree.text, V.str r2.1.tree.other, .sl false false (r2.1.tree.kids.map encSTree), V.bool r2.1.target])] mix (by
  refine W.run D_ok 1 106 (by kernel_rfl) ?_
  refine W.call (m_impl_parser__take_ok 66 p0_0 r10.2.1 r10.2.2.1 r10.2.2.2 hx18) cok145 [(0, 0), (104, 1)] [(0, 0), (1, 104)] [] (show LayOk _ [] from trivial) (by kernel_rfl) (by kernel_rfl) ?_
  exact W.fi (by kernel_rfl)
  ) ?_
 refine CodeOk.seq' ?_
 refine cu D_ok mix 4 106 (tl 50 [(0, .loc 0 0), (3, .loc 100 0), (4, .loc 101 0), (5, .loc 102 0), (6, .loc 105 0), (36, V.bool r12.2.2)]) [(105, .cells 113 [V.int r10.1.tree.kind, V.int r10.1.tree.op, V.str r10.1.tree.text, V.str r10.1.tree.other, .sl false false (r10.1.tree.kids.map encSTree), V.bool r10.1.target]), (104, .vec false 9 1 (r10.2.2.2.map encS)), (0, .cells 108 [.sl false false (p0_0.map encSToken), V.int r12.2.1, V.bool r12.2.2, .own 104]), (100, .cells 138 [V.bool a1.noIn, V.bool a1.noGt]), (101, .cells 113 [V.int 0, V.int 0, V.str [], V.str [], .c (.slice none 0 0), V.bool false]), (102, .cells 113 [V.int r2.1.tree.kind, V.int r2.1.tree.op, V.str r2.1.tree.text, V.str r2.1.tree.other, .sl false false (r2.1.tree.kids.map encSTree), V.bool r2.1.target])] (by kernel_rfl) ?_
 (revert h; refine cond_rev (fun hc20 h => ?_) (fun hc20 h => ?_))
 ·refine CodeOk.ifT hc20 (by kernel_rfl) ?_
  refine cu D_ok mix 2 106 (tl 50 [(4, .loc 101 0)]) [(101, .cells 113 [V.int 0, V.int 0, V.str [], V.str [], .c (.slice none 0 0), V.bool false]), (104, .vec false 9 1 (r10.2.2.2.map encS)), (0, .cells 108 [.sl false false (p0_0.map encSToken), V.int r12.2.1, V.bool r12.2.2, .own 104])] (by kernel_rfl) ?_
  refine CodeOk.lay (tl 50 [(4, .loc 101 0)]) [(101, .cells 113 [V.int 0, V.int 0, V.str [], V.str [], .sl false false ([].map encSTree), V.bool false]), (104, .vec false 9 1 (r10.2.2.2.map encS)), (0, .cells 108 [.sl false false (p0_0.map encSToken), V.int r12.2.1, V.bool r12.2.2, .own 104])] (show LayOk _ [] from trivial) (by kernel_rfl) (by kernel_rfl) (by kernel_rfl) ?_
  refine CodeOk.ret ?_
  have h := Option.some.inj h
  subst h
  exact Ends.gen [(0, 0), (104, 100)] (.inr rfl) (RetV.one rfl (OneR.cell D_ok (r := .agg [V.int 0, V.int 0, V.str [], V.str [], .sl false false ([].map encSTree), V.bool false]) (i := 101) (ety := 113) (cs := [V.int 0, V.int 0, V.str [], V.str [], .sl false false ([].map encSTree), V.bool false]) (by kernel_rfl) (by kernel_rfl) (by kernel_rfl))) (by kernel_rfl) (by kernel_rfl) (by kernel_rfl)
 refine CodeOk.ifF hc20 (by kernel_rfl) ?_
 refine CodeOk.skip ?_
 (revert h; refine bind_rev fun r14 hx22 h => ?_)
 refine CodeOk.cutR (tl 50 [(4, .loc 101 0), (5, .loc 102 0), (6, .loc 105 0), (7, .loc 107 0)]) [(107, .cells 113 [V.int r14.1.tree.kind, V.int r14.1.tree.op, V.str r14.1.tree.text, V.str r14.1.tree.other, .sl false false (r14.1.tree.kids.map encSTree), V.bool r14.1.target]), (106, .vec false 9 1 (r14.2.2.2.map encS)), (105, .cells 113 [V.int r10.1.tree.kind, V.int r10.1.tree.op, V.str r10.1.tree.text, V.str r10.1.tree.other, .sl false false (r10.1.tree.kids.map encSTree), V.bool r10.1.target]), (0, .cells 108 [.sl false false (p0_0.map encSToken), V.int r14.2.1, V.bool r14.2.2.1, .own 106]), (101, .cells 113 [V.int 0, V.int 0, V.str [], V.str [], .c (.slice none 0 0), V.bool false]), (102, .cells 113 [V.int r2.1.tree.kind, V.int r2.1.tree.op, V.str r2.1.tree.text, V.str r2.1.tree.other, .sl false false (r2.1.tree.kids.map encSTree), V.bool r2.1.target])] mix (by
  refine W.run D_ok 2 106 (by kernel_rfl) ?_
  refine W.call (HR.m_impl_parser__cond a1 p0_0 r12.2.1 r12.2.2 r10.2.2.2 _ hx22) cok100 [(0, 0), (104, 1)] [(0, 0), (100, 106)] [106] (show LayOk _ [] from trivial) (by kernel_rfl) (by kernel_rfl) ?_
  refine W.run D_ok 2 107 (by kernel_rfl) ?_
  exact W.fi (by kernel_rfl)
  ) ?_
 refine CodeOk.cutR (tl 50 [(4, .loc 101 0)]) [(101, .cells 113 [V.int 14, V.int 0, V.str [], V.str [], .own 108, V.bool false]), (108, .vec false 111 5 ([r2.1.tree, r10.1.tree, r14.1.tree].map encSTree)), (106, .vec false 9 1 (r14.2.2.2.map encS)), (0, .cells 108 [.sl false false (p0_0.map encSToken), V.int r14.2.1, V.bool r14.2.2.1, .own 106])] mix (by
  refine W.run D_ok 6 108 (by kernel_rfl) ?_
  refine W.layop D_ok (show LayOk _ [] from trivial) (by kernel_rfl) 108 { v := .own 108, R := [], new := [(108, .vec true 111 5 [[V.int r2.1.tree.kind, V.int r2.1.tree.op, V.str r2.1.tree.text, V.str r2.1.tree.other, .sl false false (r2.1.tree.kids.map encSTree)], [V.int r10.1.tree.kind, V.int r10.1.tree.op, V.str r10.1.tree.text, V.str r10.1.tree.other, .sl false false (r10.1.tree.kids.map encSTree)], [V.int r14.1.tree.kind, V.int r14.1.tree.op, V.str r14.1.tree.text, V.str r14.1.tree.other, .sl false false (r14.1.tree.kids.map encSTree)]])], N := [108] } (by kernel_rfl) ?_
  refine W.vecEq 108 (nn := true) (e := 111) (k := 5) (rows := [[V.int r2.1.tree.kind, V.int r2.1.tree.op, V.str r2.1.tree.text, V.str r2.1.tree.other, .sl false false (r2.1.tree.kids.map encSTree)], [V.int r10.1.tree.kind, V.int r10.1.tree.op, V.str r10.1.tree.text, V.str r10.1.tree.other, .sl false false (r10.1.tree.kids.map encSTree)], [V.int r14.1.tree.kind, V.int r14.1.tree.op, V.str r14.1.tree.text, V.str r14.1.tree.other, .sl false false (r14.1.tree.kids.map encSTree)]]) (rows' := [r2.1.tree, r10.1.tree, r14.1.tree].map encSTree) (by kernel_rfl) (by simp only [List.map_cons, List.map_nil, encSTree_eq]) ?_
  refine W.run D_ok 3 109 (by kernel_rfl) ?_
  exact W.fi (by kernel_rfl)
  ) ?_
 refine CodeOk.lay (tl 50 [(4, .loc 101 0)]) [(101, .cells 113 [V.int 14, V.int 0, V.str [], V.str [], .sl false false ([r2.1.tree, r10.1.tree, r14.1.tree].map encSTree), V.bool false]), (106, .vec false 9 1 (r14.2.2.2.map encS)), (0, .cells 108 [.sl false false (p0_0.map encSToken), V.int r14.2.1, V.bool r14.2.2.1, .own 106])] (LayOk.cons (j := 108) encSTree encSTree ([r2.1.tree, r10.1.tree, r14.1.tree] : List STree) (by kernel_rfl) (share_encSTree) (show LayOk _ [] from trivial)) (by kernel_rfl) (by kernel_rfl) (by kernel_rfl) ?_
 refine CodeOk.ret ?_
 have h := Option.some.inj h
 subst h
 exact Ends.gen [(0, 0), (106, 100)] (.inr rfl) (RetV.one rfl (OneR.cell D_ok (r := .agg [V.int 14, V.int 0, V.str [], V.str [], .sl false false ([r2.1.tree, r10.1.tree, r14.1.tree].map encSTree), V.bool false]) (i := 101) (ety := 113) (cs := [V.int 14, V.int 0, V.str [], V.str [], .sl false false ([r2.1.tree, r10.1.tree, r14.1.tree].map encSTree), V.bool false]) (by kernel_rfl) (by kernel_rfl) (by kernel_rfl))) (by kernel_rfl) (by kernel_rfl) (by kernel_rfl)

theorem m_impl_parser__assign_F_ok (N : Nat) (R : Rec1) (HR : RecOk1 R) (a1 : SRules) (p0_0 : List SToken) (p0_1 : Int) (p0_2 : Bool) (p1 : List (List UInt8)) {r : (SPart × Int × Bool × (List (List UInt8)))} (h : m_impl_parser__assign_F N R a1 p0_0 p0_1 p0_2 p1 = some r) :
    AC Tryd.prog (GS []) 99 [.loc 0 0, .agg [V.bool a1.noIn, V.bool a1.noGt]] [(0, .cells 108 [.sl false false (p0_0.map encSToken), V.int p0_1, V.bool p0_2, .own 1]), (1, .vec false 9 1 (p1.map encS))] (.agg [V.int r.1.tree.kind, V.int r.1.tree.op, V.str r.1.tree.text, V.str r.1.tree.other, .sl false false (r.1.tree.kids.map encSTree), V.bool r.1.target]) [(0, .cells 108 [.sl false false (p0_0.map encSToken), V.int r.2.1, V.bool r.2.2.1, .own 100]), (100, .vec false 9 1 (r.2.2.2.map encS))] := by
 rw [m_impl_parser__assign_F] at h
 refine AC.enter Tryd.func99 rfl ?_
 refine cu D_ok mix 2 100 (tl 47 [(0, .loc 0 0), (3, .loc 100 0), (4, .loc 101 0)]) [(101, .cells 113 [V.int 0, V.int 0, V.str [], V.str [], .c (.slice none 0 0), V.bool false]), (100, .cells 138 [V.bool a1.noIn, V.bool a1.noGt]), (0, .cells 108 [.sl false false (p0_0.map encSToken), V.int p0_1, V.bool p0_2, .own 1]), (1, .vec false 9 1 (p1.map encS))] (by kernel_rfl) ?_
 (revert h; refine bind_rev fun r2 hx2 h => ?_)
 refine CodeOk.cutR (tl 47 [(0, .loc 0 0), (3, .loc 100 0), (4, .loc 101 0), (5, .loc 103 0)]) [(103, .cells 113 [V.int r2.1.tree.kind, V.int r2.1.tree.op, V.str r2.1.tree.text, V.str r2.1.tree.other, .sl false false (r2.1.tree.kids.map encSTree), V.bool r2.1.target]), (102, .vec false 9 1 (r2.2.2.2.map encS)), (101, .cells 113 [V.int 0, V.int 0, V.str [], V.str [], .c (.slice none 0 0), V.bool false]), (100, .cells 138 [V.bool a1.noIn, V.bool a1.noGt]), (0, .cells 108 [.sl false false (p0_0.map encSToken), V.int r2.2.1, V.bool r2.2.2.1, .own 102])] mix (by
  refine W.run D_ok 2 102 (by kernel_rfl) ?_
  refine W.call (HR.m_impl_parser__cond a1 p0_0 p0_1 p0_2 p1 _ hx2) cok100 [(0, 0), (1, 1)] [(0, 0), (100, 102)] [102] (show LayOk _ [] from trivial) (by kernel_rfl) (by kernel_rfl) ?_
  refine W.run D_ok 2 103 (by kernel_rfl) ?_
  exact W.fi (by kernel_rfl)
  ) ?_
 refine CodeOk.seq' ?_
 (revert h; refine bind_rev fun y10 hv17 h => ?_)
 refine CodeOk.cutR (tl 47 [(0, .loc 0 0), (3, .loc 100 0), (4, .loc 101 0), (5, .loc 102 0), (25, V.bool y10)]) [(0, .cells 108 [.sl false false (p0_0.map encSToken), V.int r2.2.1, V.bool r2.2.2.1, .own 103]), (100, .cells 138 [V.bool a1.noIn, V.bool a1.noGt]), (101, .cells 113 [V.int 0, V.int 0, V.str [], V.str [], .c (.slice none 0 0), V.bool false]), (102, .cells 113 [V.int r2.1.tree.kind, V.int r2.1.tree.op, V.str r2.1.tree.text, V.str r2.1.tree.other, .sl false false (r2.1.tree.kids.map encSTree), V.bool r2.1.target]), (103, .vec false 9 1 (r2.2.2.2.map encS))] mix (by
  refine W.run D_ok 5 104 (by kernel_rfl) ?_
  (revert hv17; refine cond_rev (fun hc18 hv17 => ?_) (fun hc18 hv17 => ?_))
  ·refine W.is 15 hc18 (by kernel_rfl) ?_
   refine W.run D_ok 10 104 (by kernel_rfl) ?_
   have hv17 := Option.some.inj hv17
   subst hv17
   exact W.fs [(0, 0), (100, 100), (101, 101), (103, 102), (102, 103)] [0, 3, 4, 5, 25] (by kernel_rfl)
  refine W.is 15 hc18 (by kernel_rfl) ?_
  refine W.run D_ok 5 104 (by kernel_rfl) ?_
  (revert hv17; refine cond_rev (fun hc19 hv17 => ?_) (fun hc19 hv17 => ?_))
  ·refine W.is 20 hc19 (by kernel_rfl) ?_
   refine W.run D_ok 5 104 (by kernel_rfl) ?_
   have hv17 := Option.some.inj hv17
   subst hv17
   exact W.fs [(0, 0), (100, 100), (101, 101), (103, 102), (102, 103)] [0, 3, 4, 5, 25] (by kernel_rfl)
  refine W.is 20 hc19 (by kernel_rfl) ?_
  refine W.run D_ok 1 104 (by kernel_rfl) ?_
  (revert hv17; refine bind_rev fun r11 hx20 hv17 => ?_)
  refine W.call (m_impl_parser__kind_ok p0_0 r2.2.1 r2.2.2.1 r2.2.2.2 hx20) cok97 [(0, 0), (102, 1)] [(0, 0), (1, 102)] [] (show LayOk _ [] from trivial) (by kernel_rfl) (by kernel_rfl) ?_
  (revert hv17; refine bind_rev fun r12 hx21 hv17 => ?_)
  refine W.call0 (m_impl_isAssign_ok r11 hx21) cok48 rfl (by kernel_rfl) ?_
  refine W.run D_ok 2 104 (by kernel_rfl) ?_
  have hv17 := Option.some.inj hv17
  subst hv17
  exact W.fs [(0, 0), (100, 100), (101, 101), (103, 102), (102, 103)] [0, 3, 4, 5, 25] (by kernel_rfl)
  ) ?_
 (revert h; refine cond_rev (fun hc22 h => ?_) (fun hc22 h => ?_))
 ·refine CodeOk.ifT hc22 (by kernel_rfl) ?_
  refine cu D_ok mix 2 104 (tl 47 [(4, .loc 101 0)]) [(101, .cells 113 [V.int r2.1.tree.kind, V.int r2.1.tree.op, V.str r2.1.tree.text, V.str r2.1.tree.other, .sl false false (r2.1.tree.kids.map encSTree), V.bool r2.1.target]), (0, .cells 108 [.sl false false (p0_0.map encSToken), V.int r2.2.1, V.bool r2.2.2.1, .own 103]), (103, .vec false 9 1 (r2.2.2.2.map encS))] (by kernel_rfl) ?_
  refine CodeOk.ret ?_
  have h := Option.some.inj h
  subst h
  exact Ends.gen [(0, 0), (103, 100)] (.inr rfl) (RetV.one rfl (OneR.cell D_ok (r := .agg [V.int r2.1.tree.kind, V.int r2.1.tree.op, V.str r2.1.tree.text, V.str r2.1.tree.other, .sl false false (r2.1.tree.kids.map encSTree), V.bool r2.1.target]) (i := 101) (ety := 113) (cs := [V.int r2.1.tree.kind, V.int r2.1.tree.op, V.str r2.1.tree.text, V.str r2.1.tree.other, .sl false false (r2.1.tree.kids.map encSTree), V.bool r2.1.target]) (by kernel_rfl) (by kernel_rfl) (by kernel_rfl))) (by kernel_rfl) (by kernel_rfl) (by kernel_rfl)
 refine CodeOk.ifF hc22 (by kernel_rfl) ?_
 refine CodeOk.skip ?_
 (revert h; refine bind_rev fun r14 hx24 h => ?_)
 refine CodeOk.cutR (tl 47 [(0, .loc 0 0), (3, .loc 100 0), (4, .loc 101 0), (5, .loc 102 0), (6, V.int r14)]) [(0, .cells 108 [.sl false false (p0_0.map encSToken), V.int r2.2.1, V.bool r2.2.2.1, .own 103]), (100, .cells 138 [V.bool a1.noIn, V.bool a1.noGt]), (101, .cells 113 [V.int 0, V.int 0, V.str [], V.str [], .c (.slice none 0 0), V.bool false]), (102, .cells 113 [V.int r2.1.tree.kind, V.int r2.1.tree.op, V.str r2.1.tree.text, V.str r2.1.tree.other, .sl false false (r2.1.tree.kids.map encSTree), V.bool r2.1.target]), (103, .vec false 9 1 (r2.2.2.2.map encS))] mix (by
  refine W.run D_ok 1 104 (by kernel_rfl) ?_
  refine W.call (m_impl_parser__kind_ok p0_0 r2.2.1 r2.2.2.1 r2.2.2.2 hx24) cok97 [(0, 0), (103, 1)] [(0, 0), (1, 103)] [] (show LayOk _ [] from trivial) (by kernel_rfl) (by kernel_rfl) ?_
  refine W.run D_ok 1 104 (by kernel_rfl) ?_
  exact W.fi (by kernel_rfl)
  ) ?_
 refine cu D_ok mix 8 104 (tl 47 [(0, .loc 0 0), (3, .loc 100 0), (4, .loc 101 0), (5, .loc 102 0), (6, V.int r14)]) [(0, .cells 108 [.sl false false (p0_0.map encSToken), V.int (IntKind.wrap .i64 (r2.2.1 + 1)), V.bool r2.2.2.1, .own 103]), (100, .cells 138 [V.bool a1.noIn, V.bool a1.noGt]), (101, .cells 113 [V.int 0, V.int 0, V.str [], V.str [], .c (.slice none 0 0), V.bool false]), (102, .cells 113 [V.int r2.1.tree.kind, V.int r2.1.tree.op, V.str r2.1.tree.text, V.str r2.1.tree.other, .sl false false (r2.1.tree.kids.map encSTree), V.bool r2.1.target]), (103, .vec false 9 1 (r2.2.2.2.map encS))] (by kernel_rfl) ?_
 (revert h; refine bind_rev fun r16 hx26 h => ?_)
 refine CodeOk.cutR (tl 47 [(4, .loc 101 0), (5, .loc 102 0), (6, V.int r14), (7, .loc 105 0)]) [(105, .cells 113 [V.int r16.1.tree.kind, V.int r16.1.tree.op, V.str r16.1.tree.text, V.str r16.1.tree.other, .sl false false (r16.1.tree.kids.map encSTree), V.bool r16.1.target]), (104, .vec false 9 1 (r16.2.2.2.map encS)), (0, .cells 108 [.sl false false (p0_0.map encSToken), V.int r16.2.1, V.bool r16.2.2.1, .own 104]), (101, .cells 113 [V.int 0, V.int 0, V.str [], V.str [], .c (.slice none 0 0), V.bool false]), (102, .cells 113 [V.int r2.1.tree.kind, V.int r2.1.tree.op, V.str r2.1.tree.text, V.str r2.1.tree.other, .sl false false (r2.1.tree.kids.map encSTree), V.bool r2.1.target])] mix (by
  refine W.run D_ok 2 104 (by kernel_rfl) ?_
  refine W.call (HR.m_impl_parser__assign a1 p0_0 (IntKind.wrap .i64 (r2.2.1 + 1)) r2.2.2.1 r2.2.2.2 _ hx26) cok99 [(0, 0), (103, 1)] [(0, 0), (100, 104)] [104] (show LayOk _ [] from trivial) (by kernel_rfl) (by kernel_rfl) ?_
  refine W.run D_ok 2 105 (by kernel_rfl) ?_
  exact W.fi (by kernel_rfl)
  ) ?_
 refine CodeOk.cutR (tl 47 [(4, .loc 101 0)]) [(101, .cells 113 [V.int 15, V.int r14, V.str [], V.str [], .own 106, V.bool false]), (106, .vec false 111 5 ([r2.1.tree, r16.1.tree].map encSTree)), (104, .vec false 9 1 (r16.2.2.2.map encS)), (0, .cells 108 [.sl false false (p0_0.map encSToken), V.int r16.2.1, V.bool r16.2.2.1, .own 104])] mix (by
  refine W.run D_ok 5 106 (by kernel_rfl) ?_
  refine W.layop D_ok (show LayOk _ [] from trivial) (by kernel_rfl) 106 { v := .own 106, R := [], new := [(106, .vec true 111 5 [[V.int r2.1.tree.kind, V.int r2.1.tree.op, V.str r2.1.tree.text, V.str r2.1.tree.other, .sl false false (r2.1.tree.kids.map encSTree)], [V.int r16.1.tree.kind, V.int r16.1.tree.op, V.str r16.1.tree.text, V.str r16.1.tree.other, .sl false false (r16.1.tree.kids.map encSTree)]])], N := [106] } (by kernel_rfl) ?_
  refine W.vecEq 106 (nn := true) (e := 111) (k := 5) (rows := [[V.int r2.1.tree.kind, V.int r2.1.tree.op, V.str r2.1.tree.text, V.str r2.1.tree.other, .sl false false (r2.1.tree.kids.map encSTree)], [V.int r16.1.tree.kind, V.int r16.1.tree.op, V.str r16.1.tree.text, V.str r16.1.tree.other, .sl false false (r16.1.tree.kids.map encSTree)]]) (rows' := [r2.1.tree, r16.1.tree].map encSTree) (by kernel_rfl) (by simp only [List.map_cons, List.map_nil, encSTree_eq]) ?_
  refine W.run D_ok 3 107 (by kernel_rfl) ?_
  exact W.fi (by kernel_rfl)
  ) ?_
 refine CodeOk.lay (tl 47 [(4, .loc 101 0)]) [(101, .cells 113 [V.int 15, V.int r14, V.str [], V.str [], .sl false false ([r2.1.tree, r16.1.tree].map encSTree), V.bool false]), (104, .vec false 9 1 (r16.2.2.2.map encS)), (0, .cells 108 [.sl false false (p0_0.map encSToken), V.int r16.2.1, V.bool r16.2.2.1, .own 104])] (LayOk.cons (j := 106) encSTree encSTree ([r2.1.tree, r16.1.tree] : List STree) (by kernel_rfl) (share_encSTree) (show LayOk _ [] from trivial)) (by kernel_rfl) (by kernel_rfl) (by kernel_rfl) ?_
 refine CodeOk.ret ?_
 have h := Option.some.inj h
 subst h
 exact Ends.gen [(0, 0), (104, 100)] (.inr rfl) (RetV.one rfl (OneR.cell D_ok (r := .agg [V.int 15, V.int r14, V.str [], V.str [], .sl false false ([r2.1.tree, r16.1.tree].map encSTree), V.bool false]) (i := 101) (ety := 113) (cs := [V.int 15, V.int r14, V.str [], V.str [], .sl false false ([r2.1.tree, r16.1.tree].map encSTree), V.bool false]) (by kernel_rfl) (by kernel_rfl) (by kernel_rfl))) (by kernel_rfl) (by kernel_rfl) (by kernel_rfl)

theorem scc1_ok : ∀ N, RecOk1 (scc1 N)
  | 0 => ⟨fun _ _ _ _ _ h => (by cases h), fun _ _ _ _ _ h => (by cases h), fun _ _ _ _ _ h => (by cases h), fun _ _ _ _ _ h => (by cases h), fun _ _ _ _ _ h => (by cases h), fun _ _ _ _ _ h => (by cases h), fun _ _ _ _ _ _ h => (by cases h), fun _ _ _ _ _ _ h => (by cases h), fun _ _ _ _ _ _ h => (by cases h), fun _ _ _ _ _ _ h => (by cases h), fun _ _ _ _ _ _ h => (by cases h), fun _ _ _ _ _ _ h => (by cases h), fun _ _ _ _ _ _ h => (by cases h), fun _ _ _ _ _ _ h => (by cases h), fun _ _ _ _ _ _ h => (by cases h), fun _ _ _ _ _ _ h => (by cases h), fun _ _ _ _ _ _ h => (by cases h), fun _ _ _ _ _ _ h => (by cases h), fun _ _ _ _ _ _ h => (by cases h), fun _ _ _ _ _ _ h => (by cases h)⟩
  | N + 1 => ⟨fun p0_0 p0_1 p0_2 p1 _ h => m_impl_parser__variable_F_ok N (scc1 N) (scc1_ok N) p0_0 p0_1 p0_2 p1 h, fun p0_0 p0_1 p0_2 p1 _ h => m_impl_parser__primary_F_ok N (scc1 N) (scc1_ok N) p0_0 p0_1 p0_2 p1 h, fun p0_0 p0_1 p0_2 p1 _ h => m_impl_parser__field_F_ok N (scc1 N) (scc1_ok N) p0_0 p0_1 p0_2 p1 h, fun p0_0 p0_1 p0_2 p1 _ h => m_impl_parser__lvalue_F_ok N (scc1 N) (scc1_ok N) p0_0 p0_1 p0_2 p1 h, fun p0_0 p0_1 p0_2 p1 _ h => m_impl_parser__before_F_ok N (scc1 N) (scc1_ok N) p0_0 p0_1 p0_2 p1 h, fun p0_0 p0_1 p0_2 p1 _ h => m_impl_parser__incr_F_ok N (scc1 N) (scc1_ok N) p0_0 p0_1 p0_2 p1 h, fun a1 p0_0 p0_1 p0_2 p1 _ h => m_impl_parser__pow_F_ok N (scc1 N) (scc1_ok N) a1 p0_0 p0_1 p0_2 p1 h, fun a1 p0_0 p0_1 p0_2 p1 _ h => m_impl_parser__unary_F_ok N (scc1 N) (scc1_ok N) a1 p0_0 p0_1 p0_2 p1 h, fun a1 p0_0 p0_1 p0_2 p1 _ h => m_impl_parser__mul_F_ok N (scc1 N) (scc1_ok N) a1 p0_0 p0_1 p0_2 p1 h, fun a1 p0_0 p0_1 p0_2 p1 _ h => m_impl_parser__add_F_ok N (scc1 N) (scc1_ok N) a1 p0_0 p0_1 p0_2 p1 h, fun a1 p0_0 p0_1 p0_2 p1 _ h => m_impl_parser__cat_F_ok N (scc1 N) (scc1_ok N) a1 p0_0 p0_1 p0_2 p1 h, fun a1 p0_0 p0_1 p0_2 p1 _ h => m_impl_parser__compare_F_ok N (scc1 N) (scc1_ok N) a1 p0_0 p0_1 p0_2 p1 h, fun a1 p0_0 p0_1 p0_2 p1 _ h => m_impl_parser__match_F_ok N (scc1 N) (scc1_ok N) a1 p0_0 p0_1 p0_2 p1 h, fun a1 p0_0 p0_1 p0_2 p1 _ h => m_impl_parser__items_F_ok N (scc1 N) (scc1_ok N) a1 p0_0 p0_1 p0_2 p1 h, fun a1 p0_0 p0_1 p0_2 p1 _ h => m_impl_parser__list_F_ok N (scc1 N) (scc1_ok N) a1 p0_0 p0_1 p0_2 p1 h, fun a1 p0_0 p0_1 p0_2 p1 _ h => m_impl_parser__in_F_ok N (scc1 N) (scc1_ok N) a1 p0_0 p0_1 p0_2 p1 h, fun a1 p0_0 p0_1 p0_2 p1 _ h => m_impl_parser__and_F_ok N (scc1 N) (scc1_ok N) a1 p0_0 p0_1 p0_2 p1 h, fun a1 p0_0 p0_1 p0_2 p1 _ h => m_impl_parser__or_F_ok N (scc1 N) (scc1_ok N) a1 p0_0 p0_1 p0_2 p1 h, fun a1 p0_0 p0_1 p0_2 p1 _ h => m_impl_parser__cond_F_ok N (scc1 N) (scc1_ok N) a1 p0_0 p0_1 p0_2 p1 h, fun a1 p0_0 p0_1 p0_2 p1 _ h => m_impl_parser__assign_F_ok N (scc1 N) (scc1_ok N) a1 p0_0 p0_1 p0_2 p1 h⟩

theorem m_impl_parser__variable_ok (N : Nat) (p0_0 : List SToken) (p0_1 : Int) (p0_2 : Bool) (p1 : List (List UInt8)) {r : (SPart × Int × Bool × (List (List UInt8)))} (h : m_impl_parser__variable N p0_0 p0_1 p0_2 p1 = some r) :
    AC Tryd.prog (GS []) 153 [.loc 0 0] [(0, .cells 108 [.sl false false (p0_0.map encSToken), V.int p0_1, V.bool p0_2, .own 1]), (1, .vec false 9 1 (p1.map encS))] (.agg [V.int r.1.tree.kind, V.int r.1.tree.op, V.str r.1.tree.text, V.str r.1.tree.other, .sl false false (r.1.tree.kids.map encSTree), V.bool r.1.target]) [(0, .cells 108 [.sl false false (p0_0.map encSToken), V.int r.2.1, V.bool r.2.2.1, .own 100]), (100, .vec false 9 1 (r.2.2.2.map encS))] :=
  (scc1_ok N).m_impl_parser__variable p0_0 p0_1 p0_2 p1 r h
theorem m_impl_parser__primary_ok (N : Nat) (p0_0 : List SToken) (p0_1 : Int) (p0_2 : Bool) (p1 : List (List UInt8)) {r : (SPart × Int × Bool × (List (List UInt8)))} (h : m_impl_parser__primary N p0_0 p0_1 p0_2 p1 = some r) :
    AC Tryd.prog (GS []) 114 [.loc 0 0] [(0, .cells 108 [.sl false false (p0_0.map encSToken), V.int p0_1, V.bool p0_2, .own 1]), (1, .vec false 9 1 (p1.map encS))] (.agg [V.int r.1.tree.kind, V.int r.1.tree.op, V.str r.1.tree.text, V.str r.1.tree.other, .sl false false (r.1.tree.kids.map encSTree), V.bool r.1.target]) [(0, .cells 108 [.sl false false (p0_0.map encSToken), V.int r.2.1, V.bool r.2.2.1, .own 100]), (100, .vec false 9 1 (r.2.2.2.map encS))] :=
  (scc1_ok N).m_impl_parser__primary p0_0 p0_1 p0_2 p1 r h
theorem m_impl_parser__field_ok (N : Nat) (p0_0 : List SToken) (p0_1 : Int) (p0_2 : Bool) (p1 : List (List UInt8)) {r : (SPart × Int × Bool × (List (List UInt8)))} (h : m_impl_parser__field N p0_0 p0_1 p0_2 p1 = some r) :
    AC Tryd.prog (GS []) 113 [.loc 0 0] [(0, .cells 108 [.sl false false (p0_0.map encSToken), V.int p0_1, V.bool p0_2, .own 1]), (1, .vec false 9 1 (p1.map encS))] (.agg [V.int r.1.tree.kind, V.int r.1.tree.op, V.str r.1.tree.text, V.str r.1.tree.other, .sl false false (r.1.tree.kids.map encSTree), V.bool r.1.target]) [(0, .cells 108 [.sl false false (p0_0.map encSToken), V.int r.2.1, V.bool r.2.2.1, .own 100]), (100, .vec false 9 1 (r.2.2.2.map encS))] :=
  (scc1_ok N).m_impl_parser__field p0_0 p0_1 p0_2 p1 r h
theorem m_impl_parser__lvalue_ok (N : Nat) (p0_0 : List SToken) (p0_1 : Int) (p0_2 : Bool) (p1 : List (List UInt8)) {r : (SPart × Int × Bool × (List (List UInt8)))} (h : m_impl_parser__lvalue N p0_0 p0_1 p0_2 p1 = some r) :
    AC Tryd.prog (GS []) 151 [.loc 0 0] [(0, .cells 108 [.sl false false (p0_0.map encSToken), V.int p0_1, V.bool p0_2, .own 1]), (1, .vec false 9 1 (p1.map encS))] (.agg [V.int r.1.tree.kind, V.int r.1.tree.op, V.str r.1.tree.text, V.str r.1.tree.other, .sl false false (r.1.tree.kids.map encSTree), V.bool r.1.target]) [(0, .cells 108 [.sl false false (p0_0.map encSToken), V.int r.2.1, V.bool r.2.2.1, .own 100]), (100, .vec false 9 1 (r.2.2.2.map encS))] :=
  (scc1_ok N).m_impl_parser__lvalue p0_0 p0_1 p0_2 p1 r h
theorem m_impl_parser__before_ok (N : Nat) (p0_0 : List SToken) (p0_1 : Int) (p0_2 : Bool) (p1 : List (List UInt8)) {r : (SPart × Int × Bool × (List (List UInt8)))} (h : m_impl_parser__before N p0_0 p0_1 p0_2 p1 = some r) :
    AC Tryd.prog (GS []) 112 [.loc 0 0] [(0, .cells 108 [.sl false false (p0_0.map encSToken), V.int p0_1, V.bool p0_2, .own 1]), (1, .vec false 9 1 (p1.map encS))] (.agg [V.int r.1.tree.kind, V.int r.1.tree.op, V.str r.1.tree.text, V.str r.1.tree.other, .sl false false (r.1.tree.kids.map encSTree), V.bool r.1.target]) [(0, .cells 108 [.sl false false (p0_0.map encSToken), V.int r.2.1, V.bool r.2.2.1, .own 100]), (100, .vec false 9 1 (r.2.2.2.map encS))] :=
  (scc1_ok N).m_impl_parser__before p0_0 p0_1 p0_2 p1 r h
theorem m_impl_parser__incr_ok (N : Nat) (p0_0 : List SToken) (p0_1 : Int) (p0_2 : Bool) (p1 : List (List UInt8)) {r : (SPart × Int × Bool × (List (List UInt8)))} (h : m_impl_parser__incr N p0_0 p0_1 p0_2 p1 = some r) :
    AC Tryd.prog (GS []) 111 [.loc 0 0] [(0, .cells 108 [.sl false false (p0_0.map encSToken), V.int p0_1, V.bool p0_2, .own 1]), (1, .vec false 9 1 (p1.map encS))] (.agg [V.int r.1.tree.kind, V.int r.1.tree.op, V.str r.1.tree.text, V.str r.1.tree.other, .sl false false (r.1.tree.kids.map encSTree), V.bool r.1.target]) [(0, .cells 108 [.sl false false (p0_0.map encSToken), V.int r.2.1, V.bool r.2.2.1, .own 100]), (100, .vec false 9 1 (r.2.2.2.map encS))] :=
  (scc1_ok N).m_impl_parser__incr p0_0 p0_1 p0_2 p1 r h
theorem m_impl_parser__pow_ok (N : Nat) (a1 : SRules) (p0_0 : List SToken) (p0_1 : Int) (p0_2 : Bool) (p1 : List (List UInt8)) {r : (SPart × Int × Bool × (List (List UInt8)))} (h : m_impl_parser__pow N a1 p0_0 p0_1 p0_2 p1 = some r) :
    AC Tryd.prog (GS []) 110 [.loc 0 0, .agg [V.bool a1.noIn, V.bool a1.noGt]] [(0, .cells 108 [.sl false false (p0_0.map encSToken), V.int p0_1, V.bool p0_2, .own 1]), (1, .vec false 9 1 (p1.map encS))] (.agg [V.int r.1.tree.kind, V.int r.1.tree.op, V.str r.1.tree.text, V.str r.1.tree.other, .sl false false (r.1.tree.kids.map encSTree), V.bool r.1.target]) [(0, .cells 108 [.sl false false (p0_0.map encSToken), V.int r.2.1, V.bool r.2.2.1, .own 100]), (100, .vec false 9 1 (r.2.2.2.map encS))] :=
  (scc1_ok N).m_impl_parser__pow a1 p0_0 p0_1 p0_2 p1 r h
theorem m_impl_parser__unary_ok (N : Nat) (a1 : SRules) (p0_0 : List SToken) (p0_1 : Int) (p0_2 : Bool) (p1 : List (List UInt8)) {r : (SPart × Int × Bool × (List (List UInt8)))} (h : m_impl_parser__unary N a1 p0_0 p0_1 p0_2 p1 = some r) :
    AC Tryd.prog (GS []) 109 [.loc 0 0, .agg [V.bool a1.noIn, V.bool a1.noGt]] [(0, .cells 108 [.sl false false (p0_0.map encSToken), V.int p0_1, V.bool p0_2, .own 1]), (1, .vec false 9 1 (p1.map encS))] (.agg [V.int r.1.tree.kind, V.int r.1.tree.op, V.str r.1.tree.text, V.str r.1.tree.other, .sl false false (r.1.tree.kids.map encSTree), V.bool r.1.target]) [(0, .cells 108 [.sl false false (p0_0.map encSToken), V.int r.2.1, V.bool r.2.2.1, .own 100]), (100, .vec false 9 1 (r.2.2.2.map encS))] :=
  (scc1_ok N).m_impl_parser__unary a1 p0_0 p0_1 p0_2 p1 r h
theorem m_impl_parser__mul_ok (N : Nat) (a1 : SRules) (p0_0 : List SToken) (p0_1 : Int) (p0_2 : Bool) (p1 : List (List UInt8)) {r : (SPart × Int × Bool × (List (List UInt8)))} (h : m_impl_parser__mul N a1 p0_0 p0_1 p0_2 p1 = some r) :
    AC Tryd.prog (GS []) 108 [.loc 0 0, .agg [V.bool a1.noIn, V.bool a1.noGt]] [(0, .cells 108 [.sl false false (p0_0.map encSToken), V.int p0_1, V.bool p0_2, .own 1]), (1, .vec false 9 1 (p1.map encS))] (.agg [V.int r.1.tree.kind, V.int r.1.tree.op, V.str r.1.tree.text, V.str r.1.tree.other, .sl false false (r.1.tree.kids.map encSTree), V.bool r.1.target]) [(0, .cells 108 [.sl false false (p0_0.map encSToken), V.int r.2.1, V.bool r.2.2.1, .own 100]), (100, .vec false 9 1 (r.2.2.2.map encS))] :=
  (scc1_ok N).m_impl_parser__mul a1 p0_0 p0_1 p0_2 p1 r h
theorem m_impl_parser__add_ok (N : Nat) (a1 : SRules) (p0_0 : List SToken) (p0_1 : Int) (p0_2 : Bool) (p1 : List (List UInt8)) {r : (SPart × Int × Bool × (List (List UInt8)))} (h : m_impl_parser__add N a1 p0_0 p0_1 p0_2 p1 = some r) :
    AC Tryd.prog (GS []) 107 [.loc 0 0, .agg [V.bool a1.noIn, V.bool a1.noGt]] [(0, .cells 108 [.sl false false (p0_0.map encSToken), V.int p0_1, V.bool p0_2, .own 1]), (1, .vec false 9 1 (p1.map encS))] (.agg [V.int r.1.tree.kind, V.int r.1.tree.op, V.str r.1.tree.text, V.str r.1.tree.other, .sl false false (r.1.tree.kids.map encSTree), V.bool r.1.target]) [(0, .cells 108 [.sl false false (p0_0.map encSToken), V.int r.2.1, V.bool r.2.2.1, .own 100]), (100, .vec false 9 1 (r.2.2.2.map encS))] :=
  (scc1_ok N).m_impl_parser__add a1 p0_0 p0_1 p0_2 p1 r h
theorem m_impl_parser__cat_ok (N : Nat) (a1 : SRules) (p0_0 : List SToken) (p0_1 : Int) (p0_2 : Bool) (p1 : List (List UInt8)) {r : (SPart × Int × Bool × (List (List UInt8)))} (h : m_impl_parser__cat N a1 p0_0 p0_1 p0_2 p1 = some r) :
    AC Tryd.prog (GS []) 106 [.loc 0 0, .agg [V.bool a1.noIn, V.bool a1.noGt]] [(0, .cells 108 [.sl false false (p0_0.map encSToken), V.int p0_1, V.bool p0_2, .own 1]), (1, .vec false 9 1 (p1.map encS))] (.agg [V.int r.1.tree.kind, V.int r.1.tree.op, V.str r.1.tree.text, V.str r.1.tree.other, .sl false false (r.1.tree.kids.map encSTree), V.bool r.1.target]) [(0, .cells 108 [.sl false false (p0_0.map encSToken), V.int r.2.1, V.bool r.2.2.1, .own 100]), (100, .vec false 9 1 (r.2.2.2.map encS))] :=
  (scc1_ok N).m_impl_parser__cat a1 p0_0 p0_1 p0_2 p1 r h
theorem m_impl_parser__compare_ok (N : Nat) (a1 : SRules) (p0_0 : List SToken) (p0_1 : Int) (p0_2 : Bool) (p1 : List (List UInt8)) {r : (SPart × Int × Bool × (List (List UInt8)))} (h : m_impl_parser__compare N a1 p0_0 p0_1 p0_2 p1 = some r) :
    AC Tryd.prog (GS []) 105 [.loc 0 0, .agg [V.bool a1.noIn, V.bool a1.noGt]] [(0, .cells 108 [.sl false false (p0_0.map encSToken), V.int p0_1, V.bool p0_2, .own 1]), (1, .vec false 9 1 (p1.map encS))] (.agg [V.int r.1.tree.kind, V.int r.1.tree.op, V.str r.1.tree.text, V.str r.1.tree.other, .sl false false (r.1.tree.kids.map encSTree), V.bool r.1.target]) [(0, .cells 108 [.sl false false (p0_0.map encSToken), V.int r.2.1, V.bool r.2.2.1, .own 100]), (100, .vec false 9 1 (r.2.2.2.map encS))] :=
  (scc1_ok N).m_impl_parser__compare a1 p0_0 p0_1 p0_2 p1 r h
theorem m_impl_parser__match_ok (N : Nat) (a1 : SRules) (p0_0 : List SToken) (p0_1 : Int) (p0_2 : Bool) (p1 : List (List UInt8)) {r : (SPart × Int × Bool × (List (List UInt8)))} (h : m_impl_parser__match N a1 p0_0 p0_1 p0_2 p1 = some r) :
    AC Tryd.prog (GS []) 104 [.loc 0 0, .agg [V.bool a1.noIn, V.bool a1.noGt]] [(0, .cells 108 [.sl false false (p0_0.map encSToken), V.int p0_1, V.bool p0_2, .own 1]), (1, .vec false 9 1 (p1.map encS))] (.agg [V.int r.1.tree.kind, V.int r.1.tree.op, V.str r.1.tree.text, V.str r.1.tree.other, .sl false false (r.1.tree.kids.map encSTree), V.bool r.1.target]) [(0, .cells 108 [.sl false false (p0_0.map encSToken), V.int r.2.1, V.bool r.2.2.1, .own 100]), (100, .vec false 9 1 (r.2.2.2.map encS))] :=
  (scc1_ok N).m_impl_parser__match a1 p0_0 p0_1 p0_2 p1 r h
theorem m_impl_parser__items_ok (N : Nat) (a1 : SRules) (p0_0 : List SToken) (p0_1 : Int) (p0_2 : Bool) (p1 : List (List UInt8)) {r : ((List STree) × Int × Bool × (List (List UInt8)))} (h : m_impl_parser__items N a1 p0_0 p0_1 p0_2 p1 = some r) :
    AC Tryd.prog (GS []) 171 [.loc 0 0, .agg [V.bool a1.noIn, V.bool a1.noGt]] [(0, .cells 108 [.sl false false (p0_0.map encSToken), V.int p0_1, V.bool p0_2, .own 1]), (1, .vec false 9 1 (p1.map encS))] (.own 100) [(0, .cells 108 [.sl false false (p0_0.map encSToken), V.int r.2.1, V.bool r.2.2.1, .own 101]), (100, .vec false 111 5 (r.1.map encSTree)), (101, .vec false 9 1 (r.2.2.2.map encS))] :=
  (scc1_ok N).m_impl_parser__items a1 p0_0 p0_1 p0_2 p1 r h
theorem m_impl_parser__list_ok (N : Nat) (a1 : Int) (p0_0 : List SToken) (p0_1 : Int) (p0_2 : Bool) (p1 : List (List UInt8)) {r : ((List STree) × Int × Bool × (List (List UInt8)))} (h : m_impl_parser__list N a1 p0_0 p0_1 p0_2 p1 = some r) :
    AC Tryd.prog (GS []) 149 [.loc 0 0, V.int a1] [(0, .cells 108 [.sl false false (p0_0.map encSToken), V.int p0_1, V.bool p0_2, .own 1]), (1, .vec false 9 1 (p1.map encS))] (.own 100) [(0, .cells 108 [.sl false false (p0_0.map encSToken), V.int r.2.1, V.bool r.2.2.1, .own 101]), (100, .vec false 111 5 (r.1.map encSTree)), (101, .vec false 9 1 (r.2.2.2.map encS))] :=
  (scc1_ok N).m_impl_parser__list a1 p0_0 p0_1 p0_2 p1 r h
theorem m_impl_parser__in_ok (N : Nat) (a1 : SRules) (p0_0 : List SToken) (p0_1 : Int) (p0_2 : Bool) (p1 : List (List UInt8)) {r : (SPart × Int × Bool × (List (List UInt8)))} (h : m_impl_parser__in N a1 p0_0 p0_1 p0_2 p1 = some r) :
    AC Tryd.prog (GS []) 103 [.loc 0 0, .agg [V.bool a1.noIn, V.bool a1.noGt]] [(0, .cells 108 [.sl false false (p0_0.map encSToken), V.int p0_1, V.bool p0_2, .own 1]), (1, .vec false 9 1 (p1.map encS))] (.agg [V.int r.1.tree.kind, V.int r.1.tree.op, V.str r.1.tree.text, V.str r.1.tree.other, .sl false false (r.1.tree.kids.map encSTree), V.bool r.1.target]) [(0, .cells 108 [.sl false false (p0_0.map encSToken), V.int r.2.1, V.bool r.2.2.1, .own 100]), (100, .vec false 9 1 (r.2.2.2.map encS))] :=
  (scc1_ok N).m_impl_parser__in a1 p0_0 p0_1 p0_2 p1 r h
theorem m_impl_parser__and_ok (N : Nat) (a1 : SRules) (p0_0 : List SToken) (p0_1 : Int) (p0_2 : Bool) (p1 : List (List UInt8)) {r : (SPart × Int × Bool × (List (List UInt8)))} (h : m_impl_parser__and N a1 p0_0 p0_1 p0_2 p1 = some r) :
    AC Tryd.prog (GS []) 102 [.loc 0 0, .agg [V.bool a1.noIn, V.bool a1.noGt]] [(0, .cells 108 [.sl false false (p0_0.map encSToken), V.int p0_1, V.bool p0_2, .own 1]), (1, .vec false 9 1 (p1.map encS))] (.agg [V.int r.1.tree.kind, V.int r.1.tree.op, V.str r.1.tree.text, V.str r.1.tree.other, .sl false false (r.1.tree.kids.map encSTree), V.bool r.1.target]) [(0, .cells 108 [.sl false false (p0_0.map encSToken), V.int r.2.1, V.bool r.2.2.1, .own 100]), (100, .vec false 9 1 (r.2.2.2.map encS))] :=
  (scc1_ok N).m_impl_parser__and a1 p0_0 p0_1 p0_2 p1 r h
theorem m_impl_parser__or_ok (N : Nat) (a1 : SRules) (p0_0 : List SToken) (p0_1 : Int) (p0_2 : Bool) (p1 : List (List UInt8)) {r : (SPart × Int × Bool × (List (List UInt8)))} (h : m_impl_parser__or N a1 p0_0 p0_1 p0_2 p1 = some r) :
    AC Tryd.prog (GS []) 101 [.loc 0 0, .agg [V.bool a1.noIn, V.bool a1.noGt]] [(0, .cells 108 [.sl false false (p0_0.map encSToken), V.int p0_1, V.bool p0_2, .own 1]), (1, .vec false 9 1 (p1.map encS))] (.agg [V.int r.1.tree.kind, V.int r.1.tree.op, V.str r.1.tree.text, V.str r.1.tree.other, .sl false false (r.1.tree.kids.map encSTree), V.bool r.1.target]) [(0, .cells 108 [.sl false false (p0_0.map encSToken), V.int r.2.1, V.bool r.2.2.1, .own 100]), (100, .vec false 9 1 (r.2.2.2.map encS))] :=
  (scc1_ok N).m_impl_parser__or a1 p0_0 p0_1 p0_2 p1 r h
theorem m_impl_parser__cond_ok (N : Nat) (a1 : SRules) (p0_0 : List SToken) (p0_1 : Int) (p0_2 : Bool) (p1 : List (List UInt8)) {r : (SPart × Int × Bool × (List (List UInt8)))} (h : m_impl_parser__cond N a1 p0_0 p0_1 p0_2 p1 = some r) :
    AC Tryd.prog (GS []) 100 [.loc 0 0, .agg [V.bool a1.noIn, V.bool a1.noGt]] [(0, .cells 108 [.sl false false (p0_0.map encSToken), V.int p0_1, V.bool p0_2, .own 1]), (1, .vec false 9 1 (p1.map encS))] (.agg [V.int r.1.tree.kind, V.int r.1.tree.op, V.str r.1.tree.text, V.str r.1.tree.other, .sl false false (r.1.tree.kids.map encSTree), V.bool r.1.target]) [(0, .cells 108 [.sl false false (p0_0.map encSToken), V.int r.2.1, V.bool r.2.2.1, .own 100]), (100, .vec false 9 1 (r.2.2.2.map encS))] :=
  (scc1_ok N).m_impl_parser__cond a1 p0_0 p0_1 p0_2 p1 r h
theorem m_impl_parser__assign_ok (N : Nat) (a1 : SRules) (p0_0 : List SToken) (p0_1 : Int) (p0_2 : Bool) (p1 : List (List UInt8)) {r : (SPart × Int × Bool × (List (List UInt8)))} (h : m_impl_parser__assign N a1 p0_0 p0_1 p0_2 p1 = some r) :
    AC Tryd.prog (GS []) 99 [.loc 0 0, .agg [V.bool a1.noIn, V.bool a1.noGt]] [(0, .cells 108 [.sl false false (p0_0.map encSToken), V.int p0_1, V.bool p0_2, .own 1]), (1, .vec false 9 1 (p1.map encS))] (.agg [V.int r.1.tree.kind, V.int r.1.tree.op, V.str r.1.tree.text, V.str r.1.tree.other, .sl false false (r.1.tree.kids.map encSTree), V.bool r.1.target]) [(0, .cells 108 [.sl false false (p0_0.map encSToken), V.int r.2.1, V.bool r.2.2.1, .own 100]), (100, .vec false 9 1 (r.2.2.2.map encS))] :=
  (scc1_ok N).m_impl_parser__assign a1 p0_0 p0_1 p0_2 p1 r h

end Go.Proofs.Tryd

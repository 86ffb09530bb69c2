/-
 Plain lemmas on the models, part 7.
-/
import Derived.Test.YtpognfncgfaogaaGreatDoorShAP6
namespace Go.Proofs.Tryz
open Go.Av
set_option maxRecDepth 100000
set_option linter.unusedSimpArgs false
set_option linter.unusedVariables false

theorem place_ex (l : List SToken) (hl : l.length ≤ 3000) (j : Nat) : ∃ v, mi_placeOf l (j : Int) = some v := by
 unfold mi_placeOf
 by_cases h : j < l.length
 ·simp only [lt_true h, cond_true, ix_nat h, Option.bind_some]
  exact ⟨_, rfl⟩
 ·simp only [lt_false h, cond_false]
  by_cases h0 : l.length = 0
  ·have e : ((l.length : Int) == 0) = true := by rw [beq_iff_eq]; omega
   simp only [e, cond_true]
   exact ⟨_, rfl⟩
  ·have e : ((l.length : Int) == 0) = false := by rw [beq_eq_false_iff_ne]; omega
   have h1 : l.length - 1 < l.length := by omega
   have w : IntKind.wrap .i64 ((l.length : Int) - 1) = ((l.length - 1 : Nat) : Int) := by rw [wrap64 (by omega) (by omega)]; omega
   simp only [e, cond_false, w, ix_nat h1, Option.bind_some]
   exact ⟨_, rfl⟩
theorem treeBig (N : Nat) (t : STree) (hN : 1048577 + 400 < N) (hsz : szT t ≤ 100000) (hx : txT t) (h : 400 < szT t ∨ 40 < depT t) : ms_TreeOk N (lst 0 t) = some false := by
 have hs := small_of (t := t) (by omega) hx 0
 unfold ms_TreeOk
 rw [shapeOk_spec N _ (by omega) hs]
 simp only [Option.bind_some]
 cases hsh : shapeB (lst 0 t) with
 | false => rfl
 | true =>
  obtain ⟨_, h2, _⟩ := shape_of hsh
  rw [lst_len] at h2
  have hd := depthOf_spec N (lst 0 t) (by omega) hs hsh (TA_self t)
  have e1 : decide ((depT t : Int) > 40) = true := by simp; omega
  simp only [Bool.not_true, cond_false, hd, Option.bind_some, e1, cond_true]
theorem yd_zero {N : Nat} {l : List SToken} {r : List SNode × Bool} (hl : l.length < N) (h : Yd N l 0 [] [] r) : ms_Shunt_l1 N N (l, 0, [], []) = some r := h N (by omega)
theorem shunt_ex (N : Nat) (a : List SToken) (ha : a.length ≤ 1048576) (hN : 2000000 < N) (hs : ∀ t, t ∈ a → smTok t) (hst : ∀ t, t ∈ a → t.Text.length ≤ 1048576) :
  ∃ (L : List SNode) (k : Bool), ms_Shunt N a = some (L, k) ∧ mi_Shunt N a = some (L, k) ∧ L.length ≤ 400 ∧ ∀ x, x ∈ L → smNode x := by
 have no : ∀ x : SNode, x ∈ ([] : List SNode) → smNode x := fun x h => by cases h
 obtain ⟨b, b1, b2⟩ := same N a ha (by omega) hs
 unfold ms_Shunt mi_Shunt
 rw [b1, b2]
 simp only [Option.bind_some]
 cases b with
 | false => exact ⟨[], false, rfl, rfl, by simp, no⟩
 | true =>
  obtain ⟨tb, t1, t2, t3⟩ := toks_ex N a (by omega) hs
  unfold mi_Shunts at b2
  rw [t2, Option.bind_some] at b2
  cases tb with
  | false => cases b2
  | true =>
   have hl := t3 rfl
   rw [Bool.not_true, cond_false] at b2
   have hsh : sh true 0 (a.drop 0) = true := by
    have := shuntI_l N a ha N 0 0 true (by omega) (by omega) (by omega)
    have e : mi_Shunts_l1 N N (a, ((0 : Nat) : Int), !true, ((0 : Nat) : Int)) = some true := b2
    rw [this] at e
    exact Option.some.inj e
   obtain ⟨r, r1, r2, r3⟩ := nest_l a hl N N N N 0 0 (by omega) (by omega) (by omega)
   have r1' : mi_NestOf N a = some r := r1
   have r2' : ms_NestOf N a = some r := r2
   have hTop : mi_Top = some ⟨1, false, false, false, false⟩ := rfl
   have hPos : mi_PosOk ⟨1, false, false, false, false⟩ = some true := rfl
   simp only [Bool.not_true, cond_false, r2', Option.bind_some, hTop]
   unfold mi_whole mi_ParseExpr mi_checked
   simp only [hPos, t2, r1', Bool.not_true, cond_false, Option.bind_some]
   rcases r3 with rfl | ⟨k, rfl, hk⟩
   ·have hneg : decide ((-1 : Int) ≥ 0) = false := by decide
    have hz : (!(((⟨0, 0⟩ : SFault).Kind == 0) && (((⟨0, 0⟩ : SFault).At == 0) && true))) = false := rfl
    have hz2 : (((⟨0, 0⟩ : SFault).Kind == 0) && (((⟨0, 0⟩ : SFault).At == 0) && true)) = true := rfl
    simp only [hneg, cond_false, Option.bind_some, hz]
    have hlev : ∀ x : PI, IL 1 (scc1 N) r0 a ((0 : Nat) : Int) false [] = x → mp_level N ⟨1, false, false, false, false⟩ a 0 false [] = x := fun x hx => by
     subst hx
     unfold mp_level
     simp only [cond_false, Option.bind_some, Int.reduceBEq, cond_true]
     show Option.bind (mp_assign N ⟨false, false⟩ a 0 false []) _ = mp_assign N ⟨false, false⟩ a 0 false []
     cases mp_assign N ⟨false, false⟩ a 0 false [] <;> rfl
    have stop0 : Stop 1 [] := fun o os' e => by cases e
    rcases sy_levels (N := N) (by omega) hl hst (a.length - 0) 0 rfl (by omega) 1 (by omega) (by omega) N [] 0 (by omega) hsh with ⟨p, j, ns', e, hd⟩ | ⟨t, tg, j, e, k1, k2, k3, hx, P, Q, p1, p2, p3, p4, p5⟩
    ·obtain ⟨v, hv⟩ := place_ex a hl j
     have hy := yd_zero (by omega) (hd [] [] (by simp [szTs]) stop0)
     rw [hlev _ e]
     simp only [Option.bind_some, cond_true, hv, hy]
     exact ⟨[], false, rfl, rfl, by simp, no⟩
    ·rw [hlev _ e]
     have hsz := red_sz P Q t p1
     have h1 := size_is t N (by omega) (by omega)
     have h1' : mi_tree__size N t = some (szT t : Int) := h1
     have h2' : mi_tree__depth N t = some (depT t : Int) := depth_is t N (by omega) (by omega)
     have hli := list_is N t (by omega) (by omega)
     unfold mi_bounded
     simp only [Option.bind_some, cond_false, h1', h2', hli]
     have p5 : ∀ r, Yd N a j P Q r → ms_Shunt_l1 N N (a, 0, [], []) = some r := fun r hr => by
      refine yd_zero (by omega) (p5 [] [] r (by simp [szTs]) stop0 ?_)
      rw [List.append_nil, List.append_nil]
      exact hr
     -- what the yard says where all is well, and where not
     have bad : j < a.length → ms_Shunt_l1 N N (a, 0, [], []) = some ([], false) := fun hj => by
      rcases sh_have k3 with ⟨g1, _⟩ | ⟨_, _, g3, _⟩ | ⟨g1, g2, g3⟩
      ·omega
      ·omega
      ·have := Yd.dead (N := N) (by omega) hl (os := []) (ts := []) g1 (kd_at g1).symm g2 p1 (p4 g2 (by have := isOp_ex g2; omega)) (by rw [List.append_nil, List.append_nil]; omega)
       rw [List.append_nil, List.append_nil] at this
       exact p5 _ this
     have good : ∀ c, ms_TreeOk N (lst 0 t) = some c → ¬ j < a.length → ms_Shunt_l1 N N (a, 0, [], []) = some (bif c then (lst 0 t, true) else ([], false)) := fun c hc hj =>
      p5 _ (Yd.fin (by omega) hl (by omega) p1 hc (by omega))
     by_cases hbig : 400 < szT t ∨ 40 < depT t
     ·have hT := treeBig N t (by omega) (by omega) hx hbig
      have hy : ms_Shunt_l1 N N (a, 0, [], []) = some ([], false) := by
       by_cases hj : j < a.length
       ·exact bad hj
       ·exact good false hT hj
      rw [hy]
      refine ⟨[], false, rfl, ?_, by simp, no⟩
      by_cases h4 : (szT t : Int) > 400
      ·rw [decide_eq_true h4]; rfl
      ·have h40 : (depT t : Int) > 40 := by omega
       rw [decide_eq_false h4, decide_eq_true h40]; rfl
     ·have d1 : decide ((szT t : Int) > 400) = false := by simp; omega
      have d2 : decide ((depT t : Int) > 40) = false := by simp; omega
      have hsm := small_of (t := t) (by omega) hx 0
      obtain ⟨c, c1, c2, _⟩ := treeOk_ex N (lst 0 t) (by omega) hsm
      simp only [d1, d2, cond_false, Option.bind_some, hz2, cond_true, Bool.not_true]
      by_cases hj : j < a.length
      ·have ej : ((j : Int) == (a.length : Int)) = false := by rw [beq_eq_false_iff_ne]; omega
       rw [bad hj, ej]
       exact ⟨[], false, rfl, rfl, by simp, no⟩
      ·have ej : ((j : Int) == (a.length : Int)) = true := by rw [beq_iff_eq]; omega
       rw [good c c1 hj, ej]
       simp only [Bool.not_true, cond_false, c2, Option.bind_some]
       cases c with
       | true => exact ⟨lst 0 t, true, rfl, rfl, by rw [lst_len]; omega, hsm⟩
       | false => exact ⟨[], false, rfl, rfl, by simp, no⟩
   ·have hpos : decide ((k : Int) ≥ 0) = true := by simp
    obtain ⟨v, hv⟩ := place_ex a hl k
    simp only [hpos, cond_true, hv, Option.bind_some]
    exact ⟨[], false, rfl, rfl, by simp, no⟩

end Go.Proofs.Tryz

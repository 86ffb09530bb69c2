/-
 Plain lemmas on the models, part 14.
-/
import Derived.Test.YtkfcajnnbhahoaaGreatDoorLgFP13
namespace Go.Proofs.Tryz
open Go.Av
set_option maxRecDepth 100000
set_option linter.unusedSimpArgs false
set_option linter.unusedVariables false

def b2i (c : Bool) : Int := bif c then 1 else 0
theorem bool27 (c : Bool) : ms_l27Bool c = some (b2i c) := by cases c <;> rfl
def two27 (o a b : Int) : Int × Bool := (ms_l27Two o a b).getD (0, false)
theorem two_is (o a b : Int) : ms_l27Two o a b = some (two27 o a b) := by
 have h : (ms_l27Two o a b).isSome = true := by
  unfold ms_l27Two
  simp only [bool27, oBs]
  have hr : (bif (b == 0) then some ((0 : Int), false) else ((remO a b).bind fun x16 => some (x16, true))).isSome = true := by
   cases hb : (b == 0) with
   | true => rfl
   | false => unfold remO; rw [hb]; rfl
  cases (o == 55) <;> cases (o == 56) <;> cases (o == 57) <;> cases (o == 59) <;> cases (o == 63) <;> cases (o == 48) <;> cases (o == 47) <;> cases (o == 50) <;> cases (o == 62) <;> cases (o == 49) <;> first | rfl | exact hr
 unfold two27
 cases hx : ms_l27Two o a b with
 | none => rw [hx] at h; cases h
 | some v => rfl
def cl27 (v : Int × Bool) : Int × Bool := bif (!v.2) || !(decide (v.1 ≥ -1000000000) && decide (v.1 ≤ 1000000000)) then (0, false) else (v.1, true)
def g27 (vs : List (Int × Bool)) (j : Nat) : Int × Bool := (vs[j]?).getD (0, false)
def ev27 (nm : List UInt8 → Int × Bool) (vr : List UInt8 → Int) (k o : Int) (x : List UInt8) (vs : List (Int × Bool)) : Int × Bool :=
 bif k == 1 then (vr x, true) else bif k == 2 then nm x else
 bif k == 11 then (bif o == 61 then (bif (g27 vs 0).1 == 0 then b2i (g27 vs 0).2 else b2i false, (g27 vs 0).2) else bif o == 56 then (IntKind.wrap .i64 (0 - (g27 vs 0).1), (g27 vs 0).2) else g27 vs 0)
 else bif k == 14 then (bif !(g27 vs 0).2 then (0, false) else bif (g27 vs 0).1 != 0 then g27 vs 1 else g27 vs 2)
 else bif k == 12 then (bif o == 45 || o == 44 then (bif !(g27 vs 0).2 then (0, false) else bif ((g27 vs 0).1 != 0) == (o == 44) then (b2i ((g27 vs 0).1 != 0), true) else (b2i ((g27 vs 1).1 != 0), (g27 vs 1).2))
  else ((two27 o (g27 vs 0).1 (g27 vs 1).1).1, (two27 o (g27 vs 0).1 (g27 vs 1).1).2 && ((g27 vs 0).2 && (g27 vs 1).2)))
 else (0, false)
mutual
def evT (nm : List UInt8 → Int × Bool) (vr : List UInt8 → Int) : STree → Int × Bool
 | ⟨k, o, x, _, ts⟩ => cl27 (ev27 nm vr k o x (evTs nm vr ts))
def evTs (nm : List UInt8 → Int × Bool) (vr : List UInt8 → Int) : List STree → List (Int × Bool)
 | [] => []
 | t :: ts => evT nm vr t :: evTs nm vr ts
end
theorem evTs_map (nm : List UInt8 → Int × Bool) (vr : List UInt8 → Int) : ∀ ts : List STree, evTs nm vr ts = ts.map (evT nm vr)
 | [] => by rw [evTs]; rfl
 | t :: ts => by rw [evTs, evTs_map nm vr ts]; rfl
def Nm (v : Int × Bool) : Prop := v.2 = false → v.1 = 0
theorem cl_nm (v : Int × Bool) : Nm (cl27 v) := by
 unfold cl27 Nm
 cases (!v.2) || !(decide (v.1 ≥ -1000000000) && decide (v.1 ≤ 1000000000)) with
 | true => exact fun _ => rfl
 | false => exact fun h => by cases h
theorem ev_nm (nm : List UInt8 → Int × Bool) (vr : List UInt8 → Int) (t : STree) : Nm (evT nm vr t) := by
 obtain ⟨k, o, x, y, ts⟩ := t
 rw [evT]; exact cl_nm _
def no27 (v : Int × Bool) : Int × Bool := (bif v.2 then b2i (v.1 == 0) else 0, v.2)
theorem ev_not (nm : List UInt8 → Int × Bool) (vr : List UInt8 → Int) (x y : List UInt8) (u : STree) : evT nm vr ⟨11, 61, x, y, [u]⟩ = no27 (evT nm vr u) := by
 rw [evT, evTs_map]
 show cl27 (bif (evT nm vr u).1 == 0 then b2i (evT nm vr u).2 else b2i false, (evT nm vr u).2) = _
 have hn := ev_nm nm vr u
 generalize evT nm vr u = v at hn
 obtain ⟨i, c⟩ := v
 unfold no27
 cases c with
 | false => rfl
 | true =>
  show cl27 (bif i == 0 then b2i true else b2i false, true) = (b2i (i == 0), true)
  cases (i == 0) <;> rfl
theorem ev_notT (nm : List UInt8 → Int × Bool) (vr : List UInt8 → Int) (u : STree) : evT nm vr (notT u) = no27 (evT nm vr u) := ev_not nm vr [] [] u
def Bv (v : Int × Bool) : Prop := v.2 = true → v.1 = 0 ∨ v.1 = 1
theorem no_no {v : Int × Bool} (h : Bv v) (hn : Nm v) : no27 (no27 v) = v := by
 obtain ⟨i, c⟩ := v
 unfold no27
 cases c with
 | false =>
  have : i = 0 := hn rfl
  subst this; rfl
 | true =>
  rcases h rfl with e | e
  ·have e : i = 0 := e
   subst e; rfl
  ·have e : i = 1 := e
   subst e; rfl
theorem no_bv (v : Int × Bool) : Bv (no27 v) := by
 obtain ⟨i, c⟩ := v
 unfold no27 Bv
 intro h
 have h : c = true := h
 subst h
 show b2i (i == 0) = 0 ∨ b2i (i == 0) = 1
 cases (i == 0)
 ·exact .inl rfl
 ·exact .inr rfl
theorem two_und {o : Int} (h : (und o != 0) = true) (a b : Int) : (∃ c, two27 o a b = (b2i c, true) ∧ two27 (und o) a b = (b2i (!c), true)) ∨ (two27 o a b = (0, false) ∧ two27 (und o) a b = (0, false)) := by
 have n1 : (decide (a ≥ b)) = !(decide (a < b)) := by
  by_cases h : a < b
  ·rw [decide_eq_true h, decide_eq_false (by omega)]; rfl
  ·rw [decide_eq_false h, decide_eq_true (by omega)]; rfl
 have n2 : (decide (a ≤ b)) = !(decide (a > b)) := by
  by_cases h : a > b
  ·rw [decide_eq_true h, decide_eq_false (by omega)]; rfl
  ·rw [decide_eq_false h, decide_eq_true (by omega)]; rfl
 have t63 : two27 63 a b = (b2i (decide (a < b)), true) := by unfold two27; show (((ms_l27Bool (decide (a < b))).bind fun r18 => some (r18, true)).getD _) = _; rw [bool27]; rfl
 have t49 : two27 49 a b = (b2i (decide (a ≥ b)), true) := by unfold two27; show (((ms_l27Bool (decide (a ≥ b))).bind fun r18 => some (r18, true)).getD _) = _; rw [bool27]; rfl
 have t62 : two27 62 a b = (b2i (decide (a > b)), true) := by unfold two27; show (((ms_l27Bool (decide (a > b))).bind fun r18 => some (r18, true)).getD _) = _; rw [bool27]; rfl
 have t48 : two27 48 a b = (b2i (decide (a ≤ b)), true) := by unfold two27; show (((ms_l27Bool (decide (a ≤ b))).bind fun r18 => some (r18, true)).getD _) = _; rw [bool27]; rfl
 have t47 : two27 47 a b = (b2i (a == b), true) := by unfold two27; show (((ms_l27Bool (a == b)).bind fun r18 => some (r18, true)).getD _) = _; rw [bool27]; rfl
 have t50 : two27 50 a b = (b2i (a != b), true) := by unfold two27; show (((ms_l27Bool (a != b)).bind fun r18 => some (r18, true)).getD _) = _; rw [bool27]; rfl
 rcases und_op h with rfl | rfl | rfl | rfl | rfl | rfl | rfl | rfl
 ·exact .inl ⟨_, t63, by rw [← n1]; exact t49⟩
 ·exact .inl ⟨_, t49, by rw [n1, Bool.not_not]; exact t63⟩
 ·exact .inl ⟨_, t62, by rw [← n2]; exact t48⟩
 ·exact .inl ⟨_, t48, by rw [n2, Bool.not_not]; exact t62⟩
 ·exact .inl ⟨_, t47, t50⟩
 ·exact .inl ⟨_, t50, by show two27 47 a b = _; rw [t47, bne, Bool.not_not]⟩
 ·exact .inr ⟨rfl, rfl⟩
 ·exact .inr ⟨rfl, rfl⟩
theorem ev_two (nm : List UInt8 → Int × Bool) (vr : List UInt8 → Int) (o : Int) (hl : (o == 45 || o == 44) = false) (x y : List UInt8) (u v : STree) : evT nm vr ⟨12, o, x, y, [u, v]⟩ = cl27 ((two27 o (evT nm vr u).1 (evT nm vr v).1).1, (two27 o (evT nm vr u).1 (evT nm vr v).1).2 && ((evT nm vr u).2 && (evT nm vr v).2)) := by
 rw [evT, evTs_map]
 show cl27 (bif (o == 45 || o == 44) then _ else _) = _
 rw [hl]; rfl
theorem ev_lazy (nm : List UInt8 → Int × Bool) (vr : List UInt8 → Int) (o : Int) (hl : (o == 45 || o == 44) = true) (x y : List UInt8) (u v : STree) : evT nm vr ⟨12, o, x, y, [u, v]⟩ = cl27 (bif !(evT nm vr u).2 then (0, false) else bif ((evT nm vr u).1 != 0) == (o == 44) then (b2i ((evT nm vr u).1 != 0), true) else (b2i ((evT nm vr v).1 != 0), (evT nm vr v).2)) := by
 rw [evT, evTs_map]
 show cl27 (bif (o == 45 || o == 44) then _ else _) = _
 rw [hl]; rfl
theorem lg_no (o : Int) (h : o = 45 ∨ o = 44) (a b : Int × Bool) (ha : Nm a) (hb : Nm b) : cl27 (bif !(no27 a).2 then (0, false) else bif ((no27 a).1 != 0) == (89 - o == 44) then (b2i ((no27 a).1 != 0), true) else (b2i ((no27 b).1 != 0), (no27 b).2)) = no27 (cl27 (bif !a.2 then (0, false) else bif (a.1 != 0) == (o == 44) then (b2i (a.1 != 0), true) else (b2i (b.1 != 0), b.2))) := by
 obtain ⟨i, c⟩ := a
 obtain ⟨j, d⟩ := b
 cases c with
 | false => rfl
 | true =>
  have e1 : (no27 (i, true)) = (b2i (i == 0), true) := rfl
  rw [e1]
  have e2 : ((i, true) : Int × Bool).1 = i := rfl
  rw [e2]
  cases d with
  | false =>
   have hj : j = 0 := hb rfl
   subst hj
   cases hi : (i == 0) with
   | true =>
    have hi2 : (i != 0) = false := by rw [bne, hi]; rfl
    rw [hi2]
    rcases h with rfl | rfl <;> rfl
   | false =>
    have hi2 : (i != 0) = true := by rw [bne, hi]; rfl
    rw [hi2]
    rcases h with rfl | rfl <;> rfl
  | true =>
   have e3 : (no27 (j, true)) = (b2i (j == 0), true) := rfl
   rw [e3]
   cases hi : (i == 0) with
   | true =>
    have hi2 : (i != 0) = false := by rw [bne, hi]; rfl
    rw [hi2]
    cases hj : (j == 0) with
    | true =>
     have hj2 : (j != 0) = false := by rw [bne, hj]; rfl
     show cl27 (bif !true then (0, false) else bif ((b2i true != 0) == (89 - o == 44)) then _ else _) = no27 (cl27 (bif !true then (0, false) else bif (false == (o == 44)) then _ else (b2i (j != 0), true)))
     rw [hj2]
     rcases h with rfl | rfl <;> rfl
    | false =>
     have hj2 : (j != 0) = true := by rw [bne, hj]; rfl
     show cl27 (bif !true then (0, false) else bif ((b2i true != 0) == (89 - o == 44)) then _ else _) = no27 (cl27 (bif !true then (0, false) else bif (false == (o == 44)) then _ else (b2i (j != 0), true)))
     rw [hj2]
     rcases h with rfl | rfl <;> rfl
   | false =>
    have hi2 : (i != 0) = true := by rw [bne, hi]; rfl
    rw [hi2]
    cases hj : (j == 0) with
    | true =>
     have hj2 : (j != 0) = false := by rw [bne, hj]; rfl
     show cl27 (bif !true then (0, false) else bif ((b2i false != 0) == (89 - o == 44)) then _ else _) = no27 (cl27 (bif !true then (0, false) else bif (true == (o == 44)) then _ else (b2i (j != 0), true)))
     rw [hj2]
     rcases h with rfl | rfl <;> rfl
    | false =>
     have hj2 : (j != 0) = true := by rw [bne, hj]; rfl
     show cl27 (bif !true then (0, false) else bif ((b2i false != 0) == (89 - o == 44)) then _ else _) = no27 (cl27 (bif !true then (0, false) else bif (true == (o == 44)) then _ else (b2i (j != 0), true)))
     rw [hj2]
     rcases h with rfl | rfl <;> rfl
theorem ar_two {k o : Int} {x y : List UInt8} {ts : List STree} (hk : k = 12) (ha : ArP ⟨k, o, x, y, ts⟩) : ∃ u v, ts = [u, v] := by
 have hl : ts.length = 2 := ha.2.1 hk
 match ts, hl with
 | [u, v], _ => exact ⟨u, v, rfl⟩
theorem cm_no (o : Int) (h : (und o != 0) = true) (a b : Int × Bool) : cl27 ((two27 (und o) a.1 b.1).1, (two27 (und o) a.1 b.1).2 && (a.2 && b.2)) = no27 (cl27 ((two27 o a.1 b.1).1, (two27 o a.1 b.1).2 && (a.2 && b.2))) := by
 rcases two_und h a.1 b.1 with ⟨c, e1, e2⟩ | ⟨e1, e2⟩
 ·rw [e1, e2]
  cases hab : (a.2 && b.2) with
  | false => rfl
  | true => cases c <;> rfl
 ·rw [e1, e2]; rfl
theorem bo_bv (nm : List UInt8 → Int × Bool) (vr : List UInt8 → Int) (t : STree) (ha : ArP t) (hb : boB t.kind t.op = true) : Bv (evT nm vr t) := by
 obtain ⟨k, o, x, y, ts⟩ := t
 have hb : boB k o = true := hb
 unfold boB at hb
 rw [Bool.or_eq_true, Bool.or_eq_true] at hb
 rcases hb with h | h | h
 ·obtain ⟨u, rfl⟩ := nt_kid h ha
  obtain ⟨rfl, rfl⟩ := nt_of h
  rw [ev_not]
  exact no_bv _
 ·obtain ⟨rfl, hu⟩ := cm_of h
  obtain ⟨u, v, rfl⟩ := ar_two rfl ha
  have hl : (o == 45 || o == 44) = false := by rcases und_op hu with rfl | rfl | rfl | rfl | rfl | rfl | rfl | rfl <;> rfl
  rw [ev_two nm vr o hl]
  rcases two_und hu (evT nm vr u).1 (evT nm vr v).1 with ⟨c, e1, _⟩ | ⟨e1, _⟩
  ·rw [e1]
   intro h2
   cases hab : ((evT nm vr u).2 && (evT nm vr v).2) with
   | false => rw [hab] at h2; cases h2
   | true =>
    cases c
    ·exact .inl rfl
    ·exact .inr rfl
  ·rw [e1]; intro h2; cases h2
 ·obtain ⟨rfl, ho⟩ := lg_of h
  obtain ⟨u, v, rfl⟩ := ar_two rfl ha
  have hl : (o == 45 || o == 44) = true := by rcases ho with rfl | rfl <;> rfl
  rw [ev_lazy nm vr o hl]
  intro _
  have b01 : ∀ (c d : Bool), (cl27 (b2i c, d)).1 = 0 ∨ (cl27 (b2i c, d)).1 = 1 := fun c d => by
   cases c <;> cases d <;> first | exact .inl rfl | exact .inr rfl
  cases (!(evT nm vr u).2) with
  | true => exact .inl rfl
  | false =>
   rw [cond_false]
   cases (((evT nm vr u).1 != 0) == (o == 44)) with
   | true => exact b01 _ _
   | false => exact b01 _ _
theorem pn_ev (nm : List UInt8 → Int × Bool) (vr : List UInt8 → Int) : ∀ t, AllT ArP t → evT nm vr (puT t) = evT nm vr t ∧ evT nm vr (ngT t) = no27 (evT nm vr t) := by
 refine logic_ind (fun k o x y u hb ha hu ih => ?_) fun k o x y ts hb ha hu ih => ?_
 ·obtain ⟨rfl, rfl⟩ := nt_of hb
  rw [pu_not hb, ng_not hb, ev_not, ih.2]
  refine ⟨rfl, ?_⟩
  have hua : ArP u := by cases u; rw [AllT] at hu; exact hu.1
  cases hbo : boB u.kind u.op with
  | true =>
   rw [cond_true, ih.1, no_no (bo_bv nm vr u hua hbo) (ev_nm nm vr u)]
  | false => rw [cond_false, ev_notT, ev_notT, ih.1]
 ·have hm : (ts.map puT).map (evT nm vr) = ts.map (evT nm vr) := by
   rw [List.map_map]
   exact List.map_congr_left fun u hu => (ih u hu).1
  have hp : evT nm vr ⟨k, o, x, y, ts.map puT⟩ = evT nm vr ⟨k, o, x, y, ts⟩ := by
   rw [evT, evT, evTs_map, evTs_map, hm]
  rw [pu_other hb, ng_other hb]
  refine ⟨hp, ?_⟩
  cases hcm : cmB k o with
  | true =>
   obtain ⟨rfl, hun⟩ := cm_of hcm
   obtain ⟨u, v, rfl⟩ := ar_two rfl ha
   have hl : (o == 45 || o == 44) = false := by rcases und_op hun with rfl | rfl | rfl | rfl | rfl | rfl | rfl | rfl <;> rfl
   have hl2 : (und o == 45 || und o == 44) = false := by rcases und_op hun with rfl | rfl | rfl | rfl | rfl | rfl | rfl | rfl <;> rfl
   rw [cond_true, List.map_cons, List.map_cons, List.map_nil, ev_two nm vr o hl, ev_two nm vr (und o) hl2, (ih u (by simp)).1, (ih v (by simp)).1]
   exact cm_no o hun _ _
  | false =>
   cases hlg : lgB k o with
   | true =>
    obtain ⟨rfl, ho⟩ := lg_of hlg
    obtain ⟨u, v, rfl⟩ := ar_two rfl ha
    have hl : (o == 45 || o == 44) = true := by rcases ho with rfl | rfl <;> rfl
    have hl2 : (89 - o == 45 || 89 - o == 44) = true := by rcases ho with rfl | rfl <;> rfl
    rw [cond_false, cond_true, List.map_cons, List.map_cons, List.map_nil, ev_lazy nm vr o hl, ev_lazy nm vr (89 - o) hl2, (ih u (by simp)).2, (ih v (by simp)).2]
    exact lg_no o ho _ _ (ev_nm nm vr u) (ev_nm nm vr v)
   | false => rw [cond_false, cond_false, ev_notT, hp]

end Go.Proofs.Tryz

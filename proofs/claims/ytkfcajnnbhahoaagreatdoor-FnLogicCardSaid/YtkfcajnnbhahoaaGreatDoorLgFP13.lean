/-
 Plain lemmas on the models, part 13.
-/
import Derived.Test.YtkfcajnnbhahoaaGreatDoorLgFP12
namespace Go.Proofs.Tryz
open Go.Av
set_option maxRecDepth 100000
set_option linter.unusedSimpArgs false
set_option linter.unusedVariables false

def QP (N : Nat) (t : STree) : Prop := RT N t ∧ ArP t
theorem kid_12 (n : SNode) (q : Int) : ms_l7Kid n q 11 = ms_l7Kid n q 12 := by
 unfold ms_l7Kid ms_l7Kid_k1 ms_l7Kid_k2
 simp only [isE_spec, isS_spec, isL_spec]
 rfl
theorem kidE (k o : Int) (hk : k = 11 ∨ k = 12) (x y : List UInt8) (ks : List Int) (q kd : Int) : ms_l7Kid ⟨k, o, x, y, ks⟩ q kd = some (isE kd) := by
 rw [← isE_spec]
 rcases hk with rfl | rfl
 ·unfold ms_l7Kid ms_l7Kid_k1 ms_l7Kid_k2
  show Option.bind (ms_IsExpr kd) (fun r => some r) = _
  cases ms_IsExpr kd <;> rfl
 ·unfold ms_l7Kid ms_l7Kid_k1 ms_l7Kid_k2
  show Option.bind (ms_IsExpr kd) (fun r => some r) = _
  cases ms_IsExpr kd <;> rfl
theorem fields_14 (N : Nat) (o : Int) (x y : List UInt8) (ks : List Int) (h : ms_FieldsOk N ⟨14, o, x, y, ks⟩ = some true) : ks.length = 3 := by
 unfold ms_FieldsOk at h
 have hm : ms_l7Many ⟨14, o, x, y, ks⟩ = some (3, 3) := rfl
 rw [hm, oBs] at h
 obtain ⟨y6, _, h⟩ := Option.bind_eq_some_iff.1 h
 obtain ⟨r, h1, h2⟩ := Option.bind_eq_some_iff.1 h
 cases y6 with
 | false => rw [cond_false] at h1; cases h1; cases h2
 | true =>
  rw [cond_true] at h1
  obtain ⟨r14, _, h1⟩ := Option.bind_eq_some_iff.1 h1
  cases r14 with
  | false => rw [cond_false] at h1; cases h1; cases h2
  | true =>
   rw [cond_true] at h1
   obtain ⟨r15, _, h1⟩ := Option.bind_eq_some_iff.1 h1
   cases r15 with
   | false => rw [cond_false] at h1; cases h1; cases h2
   | true =>
    rw [cond_true, l1In_is, oBs] at h1
    have e1 := Option.some.inj h1
    have e2 : r = true := Option.some.inj h2
    rw [e2] at e1
    simp at e1
    have e1 : (3 : Int) ≤ (ks.length : Int) ∧ (ks.length : Int) ≤ 3 := e1
    omega
theorem fields_not (N : Nat) : ms_FieldsOk N ⟨11, 61, [], [], [0]⟩ = some true := rfl
theorem und_op {o : Int} (h : (und o != 0) = true) : o = 63 ∨ o = 49 ∨ o = 62 ∨ o = 48 ∨ o = 47 ∨ o = 50 ∨ o = 67 ∨ o = 46 := by
 refine Decidable.byContradiction fun hn => ?_
 simp only [not_or] at hn
 obtain ⟨a1, a2, a3, a4, a5, a6, a7, a8⟩ := hn
 have f : ∀ {z : Int}, o ≠ z → (o == z) = false := fun h => by simpa using h
 unfold und at h
 rw [f a1, f a2, f a3, f a4, f a5, f a6, f a7, f a8] at h
 exact absurd h (by decide)
theorem fields_und (N : Nat) {o : Int} (h : (und o != 0) = true) : ms_FieldsOk N ⟨12, und o, [], [], [0, 0]⟩ = some true := by
 rcases und_op h with rfl | rfl | rfl | rfl | rfl | rfl | rfl | rfl <;> rfl
theorem fields_log (N : Nat) {o : Int} (h : o = 45 ∨ o = 44) : ms_FieldsOk N ⟨12, 89 - o, [], [], [0, 0]⟩ = some true := by
 rcases h with rfl | rfl <;> rfl
theorem cm_of {k o : Int} (h : cmB k o = true) : k = 12 ∧ (und o != 0) = true := by
 unfold cmB at h
 simpa using h
theorem lg_of {k o : Int} (h : lgB k o = true) : k = 12 ∧ (o = 45 ∨ o = 44) := by
 unfold lgB at h
 simpa using h
theorem nt_of {k o : Int} (h : ntB k o = true) : k = 11 ∧ o = 61 := by
 unfold ntB at h
 simpa using h
theorem bo_kind {k o : Int} (h : boB k o = true) : k = 11 ∨ k = 12 := by
 unfold boB at h
 rw [Bool.or_eq_true, Bool.or_eq_true] at h
 rcases h with h | h | h
 ·exact .inl (nt_of h).1
 ·exact .inr (cm_of h).1
 ·exact .inr (lg_of h).1
theorem pn_kind : ∀ t, AllT ArP t → ((puT t).kind = t.kind ∨ t.kind = 11 ∧ ((puT t).kind = 11 ∨ (puT t).kind = 12)) ∧ ((ngT t).kind = 11 ∨ (ngT t).kind = 12) := by
 refine logic_ind (fun k o x y u hb ha hu ih => ?_) fun k o x y ts hb ha hu ih => ?_
 ·rw [pu_not hb, ng_not hb]
  refine ⟨.inr ⟨(nt_of hb).1, ih.2⟩, ?_⟩
  cases hbo : boB u.kind u.op with
  | false => exact .inl rfl
  | true =>
   rw [cond_true]
   rcases ih.1 with h | h
   ·rw [h]; exact bo_kind hbo
   ·exact h.2
 ·rw [pu_other hb, ng_other hb]
  refine ⟨.inl rfl, ?_⟩
  cases hcm : cmB k o with
  | true => exact .inr (cm_of hcm).1
  | false =>
   cases hlg : lgB k o with
   | true => exact .inr (lg_of hlg).1
   | false => exact .inl rfl
theorem isE_pu {t : STree} (ha : AllT ArP t) (h : isE t.kind = true) : isE (puT t).kind = true := by
 rcases (pn_kind t ha).1 with e | ⟨_, e | e⟩
 ·rw [e]; exact h
 ·rw [e]; rfl
 ·rw [e]; rfl
theorem isE_ng {t : STree} (ha : AllT ArP t) : isE (ngT t).kind = true := by
 rcases (pn_kind t ha).2 with e | e <;> rw [e] <;> rfl
theorem rt_kid {N : Nat} {k o : Int} {x y : List UInt8} {ts : List STree} (h : RT N ⟨k, o, x, y, ts⟩) (hk : k = 11 ∨ k = 12) : ∀ u, u ∈ ts → isE u.kind = true := fun u hu => by
 obtain ⟨q, hq⟩ := List.getElem?_of_mem hu
 have := h.2 q u hq
 rw [kidE k o hk] at this
 exact Option.some.inj this
theorem rt_map {N : Nat} {k o : Int} {x y : List UInt8} {ts : List STree} {f : STree → STree} (h : RT N ⟨k, o, x, y, ts⟩) (hf : ∀ u, u ∈ ts → (f u).kind = u.kind ∨ u.kind = 11 ∧ ((f u).kind = 11 ∨ (f u).kind = 12)) : RT N ⟨k, o, x, y, ts.map f⟩ := by
 obtain ⟨h1, h2⟩ := h
 have hl : (List.replicate (ts.map f).length (0 : Int)) = List.replicate ts.length 0 := by rw [List.length_map]
 refine ⟨?_, fun q v hv => ?_⟩
 ·show ms_FieldsOk N ⟨k, o, x, y, List.replicate (ts.map f).length 0⟩ = some true
  rw [hl]; exact h1
 ·show ms_l7Kid ⟨k, o, x, y, List.replicate (ts.map f).length 0⟩ (q : Int) v.kind = some true
  rw [hl]
  have hv : (ts.map f)[q]? = some v := hv
  rw [List.getElem?_map, Option.map_eq_some_iff] at hv
  obtain ⟨u, hu, rfl⟩ := hv
  have hk := h2 q u hu
  rcases hf u (List.mem_of_getElem? hu) with e | ⟨e, e' | e'⟩
  ·rw [e]; exact hk
  ·rw [e', ← e]; exact hk
  ·rw [e', ← kid_12, ← e]; exact hk
theorem rt_E {N : Nat} {k o : Int} {x y : List UInt8} {ts : List STree} (hk : k = 11 ∨ k = 12) (h : ms_FieldsOk N ⟨k, o, x, y, List.replicate ts.length 0⟩ = some true) (hE : ∀ u, u ∈ ts → isE u.kind = true) : RT N ⟨k, o, x, y, ts⟩ :=
 ⟨h, fun q u hu => by
  show ms_l7Kid ⟨k, o, x, y, _⟩ (q : Int) u.kind = some true
  rw [kidE k o hk, hE u (List.mem_of_getElem? hu)]⟩
theorem rt_not {N : Nat} {t : STree} (h : isE t.kind = true) : RT N (notT t) := rt_E (.inl rfl) (fields_not N) fun u hu => by rw [List.mem_singleton.1 hu]; exact h
theorem pn_rt (N : Nat) : ∀ t, AllT (QP N) t → AllT (RT N) (puT t) ∧ (isE t.kind = true → AllT (RT N) (ngT t)) := by
 have two : ∀ {k o : Int} {x y : List UInt8} {ts : List STree}, k = 12 → ArP ⟨k, o, x, y, ts⟩ → x = [] ∧ y = [] ∧ ∀ f : STree → STree, List.replicate (ts.map f).length (0 : Int) = [0, 0] := fun hk ha => by
  have h1 := ha.2.2.2 (.inr hk)
  refine ⟨h1.1, h1.2, fun f => ?_⟩
  rw [List.length_map, ha.2.1 hk]; rfl
 refine pn_all (fun t h => h.2) (fun k o x y ts hb hq ha => rt_map hq.1 fun u hu => (pn_kind u (ha u hu)).1) (fun k o x y ts hc hq ha => ?_) (fun k o x y ts hc hq ha => ?_) (fun t ha hE _ => rt_not (isE_pu ha hE)) (fun t => rt_not rfl) (fun k o x y ts hq hc u hu => ?_)
 ·obtain ⟨hk, hu⟩ := cm_of hc
  obtain ⟨rfl, rfl, h2⟩ := two hk hq.2
  subst hk
  refine rt_E (.inr rfl) (by rw [h2 puT]; exact fields_und N hu) fun v hv => ?_
  obtain ⟨u, hu, rfl⟩ := List.mem_map.1 hv
  exact isE_pu (ha u hu) (rt_kid hq.1 (.inr rfl) u hu)
 ·obtain ⟨hk, ho⟩ := lg_of hc
  obtain ⟨rfl, rfl, h2⟩ := two hk hq.2
  subst hk
  refine rt_E (.inr rfl) (by rw [h2 ngT]; exact fields_log N ho) fun v hv => ?_
  obtain ⟨u, hu, rfl⟩ := List.mem_map.1 hv
  exact isE_ng (ha u hu)
 ·rcases hc with h | h
  ·exact rt_kid hq.1 (.inl (nt_of h).1) u hu
  ·exact rt_kid hq.1 (.inr (lg_of h).1) u hu
def NoP (t : STree) : Prop := ∀ u, t.kind = 11 → t.op = 61 → t.kids = [u] → (u.kind == 12 && (u.op == 45 || (u.op == 44 || (u.op == 63 || u.op == 47)))) = false
theorem pn_no (N : Nat) : ∀ t, AllT (QP N) t → AllT NoP (puT t) ∧ (isE t.kind = true → AllT NoP (ngT t)) := by
 refine pn_all (fun t h => h.2) (fun k o x y ts hb hq ha u h1 h2 _ => ?_) (fun k o x y ts hc hq ha u h1 _ _ => ?_) (fun k o x y ts hc hq ha u h1 _ _ => ?_) (fun t ha hE hbo u _ _ hu => ?_) (fun t u _ _ hu => ?_) (fun k o x y ts hq hc u hu => ?_)
 ·have h1 : k = 11 := h1
  have h2 : o = 61 := h2
  subst h1 h2
  cases hb
 ·have h1 : k = 11 := h1
  have := (cm_of hc).1
  omega
 ·have h1 : k = 11 := h1
  have := (lg_of hc).1
  omega
 ·have hu : [puT t] = [u] := hu
  have hu := (List.cons.inj hu).1
  subst hu
  unfold boB at hbo
  rw [Bool.or_eq_false_iff, Bool.or_eq_false_iff] at hbo
  obtain ⟨b1, b2, b3⟩ := hbo
  obtain ⟨k, o, x, y, ts⟩ := t
  rw [pu_other b1]
  show (k == 12 && (o == 45 || (o == 44 || (o == 63 || o == 47)))) = false
  have b2 : cmB k o = false := b2
  have b3 : lgB k o = false := b3
  unfold cmB at b2
  unfold lgB at b3
  by_cases hk : k = 12
  ·subst hk
   have hu : (und o != 0) = false := b2
   have hl : (o == 45 || o == 44) = false := b3
   rw [Bool.or_eq_false_iff] at hl
   have h63 : (o == 63) = false := by
    cases h : (o == 63) with
    | false => rfl
    | true =>
     have h : o = 63 := by simpa using h
     subst h; cases hu
   have h47 : (o == 47) = false := by
    cases h : (o == 47) with
    | false => rfl
    | true =>
     have h : o = 47 := by simpa using h
     subst h; cases hu
   rw [hl.1, hl.2, h63, h47]; rfl
  ·have : (k == 12) = false := by simpa using hk
   rw [this]; rfl
 ·have hu : [notT t] = [u] := hu
  have hu := (List.cons.inj hu).1
  subst hu
  rfl
 ·rcases hc with h | h
  ·exact rt_kid hq.1 (.inl (nt_of h).1) u hu
  ·exact rt_kid hq.1 (.inr (lg_of h).1) u hu
def TQ (N : Nat) (t : STree) : Prop := TxP t ∧ QP N t
theorem pn_txt (N : Nat) : ∀ t, AllT (TQ N) t → AllT TxP (puT t) ∧ (isE t.kind = true → AllT TxP (ngT t)) := by
 refine pn_all (fun t h => h.2.2) (fun k o x y ts hb hq ha => hq.1) (fun k o x y ts hc hq ha => hq.1) (fun k o x y ts hc hq ha => hq.1) (fun t _ _ _ => ⟨by show 0 ≤ _; omega, by show 0 ≤ _; omega⟩) (fun t => ⟨by show 0 ≤ _; omega, by show 0 ≤ _; omega⟩) (fun k o x y ts hq hc u hu => ?_)
 rcases hc with h | h
 ·exact rt_kid hq.2.1 (.inl (nt_of h).1) u hu
 ·exact rt_kid hq.2.1 (.inr (lg_of h).1) u hu

end Go.Proofs.Tryz

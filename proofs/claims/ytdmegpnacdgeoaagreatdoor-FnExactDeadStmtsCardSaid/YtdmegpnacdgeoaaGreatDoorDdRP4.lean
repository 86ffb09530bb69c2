/-
  Plain lemmas on the models, part 4.
-/
import Derived.Test.YtdmegpnacdgeoaaGreatDoorDdRP3
namespace Go.Proofs.Tryz
open Go.Av
set_option maxRecDepth 100000
set_option linter.unusedSimpArgs false
set_option linter.unusedVariables false

theorem markN_up (N : Nat) (k : Int) (a : List SNode) (hN : 1048576 < N) (hl : a.length ≤ 1048576) (ha : ∀ x, x ∈ a → smNode x) (h0 : 0 ≤ k) (h1 : k ≤ 4611686018427387904 - 4398050705408) :
    ∃ k' a', ml_markNodeS N k a = some (k', a') ∧ k ≤ k' ∧ k' ≤ k + 4398050705408 := by
  have hc := costNode_le a ha hl
  have hle := mkAll_le (mkNode_le N) a k h0
  exact ⟨_, _, markNodeS_is N k a hN hl ha h0 (by omega), hle.1, by omega⟩

theorem sortI_perm (l : List Int) : (sortI l).Perm l := List.mergeSort_perm l _
theorem sortI_pw (l : List Int) : (sortI l).Pairwise (· ≤ ·) := by
  have h := List.pairwise_mergeSort (le := fun x y : Int => decide (x ≤ y)) (fun a b c h1 h2 => by simp at *; omega) (fun a b => by simp; omega) l
  exact h.imp fun h => by simpa using h
theorem sortI_of {l : List Int} (h : l.Pairwise (· ≤ ·)) : sortI l = l := List.mergeSort_of_pairwise (h.imp fun h => by simpa using h)
theorem sortI_eq {l m : List Int} (h : l.Perm m) : sortI l = sortI m :=
  List.Perm.eq_of_pairwise (fun a b _ _ h1 h2 => Int.le_antisymm h1 h2) (sortI_pw l) (sortI_pw m) (((sortI_perm l).trans h).trans (sortI_perm m).symm)

theorem ins_l2 (N : Nat) (kb : (Int × List Int) → Option (List Int)) (i : Int) (x : Int) : ∀ (m : Nat) (p1 : List Int) (y : Int) (p2 : List Int) (n : Nat), p1.length = m → p1.length ≤ 1000000 → m < n →
    ∃ q1 q2, p1 = q1 ++ q2 ∧ (∀ z, z ∈ q2 → x < z) ∧ (∀ q z, q1 = q ++ [z] → z ≤ x) ∧ ms_l40Sorted_l2 N kb n (i, x, (p1.length : Int), p1 ++ y :: p2) = kb (IntKind.wrap .i64 (i + 1), q1 ++ x :: (q2 ++ p2)) := by
  intro m
  induction m with
  | zero =>
    intro p1 y p2 n h1 _ hn
    obtain ⟨n, rfl⟩ : ∃ k, n = k + 1 := ⟨n - 1, by omega⟩
    have h0 : p1 = [] := List.eq_nil_of_length_eq_zero h1
    subst h0
    refine ⟨[], [], rfl, fun z h => (by simp at h), fun q z h => ?_, ?_⟩
    · exfalso
      have := congrArg List.length h
      simp at this
    · rw [ms_l40Sorted_l2]
      have e0 : decide (((([] : List Int).length : Nat) : Int) > 0) = false := by simp
      have e1 : ix (y :: p2) ((([] : List Int).length : Nat) : Int) = some y := ix_get (i := 0) rfl
      have e2 : upd (y :: p2) ((([] : List Int).length : Nat) : Int) x = some (x :: p2) := upd_nat (l := y :: p2) (i := 0) (by simp)
      simp only [e0, cond_false, Option.bind_some, List.nil_append, e1, e2]
  | succ m ih =>
    intro p1 y p2 n h1 hl hn
    obtain ⟨n, rfl⟩ : ∃ k, n = k + 1 := ⟨n - 1, by omega⟩
    rcases List.eq_nil_or_concat p1 with rfl | ⟨q, z, rfl⟩
    · simp at h1
    · rw [List.concat_eq_append] at h1 hl ⊢
      have hq : q.length = m := by simp at h1; exact h1
      have hlen : (q ++ [z]).length = m + 1 := h1
      rw [hlen, ms_l40Sorted_l2]
      have e0 : decide (((m + 1 : Nat) : Int) > 0) = true := decide_eq_true (by omega)
      have ew : IntKind.wrap .i64 (((m + 1 : Nat) : Int) - 1) = (m : Int) := by rw [wrap64 (by omega) (by omega)]; omega
      have e1 : ix (q ++ [z] ++ y :: p2) (m : Int) = some z := ix_get (by rw [List.append_assoc, List.getElem?_append_right (by omega), hq, Nat.sub_self]; rfl)
      have e2 : ix (q ++ [z] ++ y :: p2) ((m + 1 : Nat) : Int) = some y := ix_get (by rw [List.getElem?_append_right (by omega), hlen, Nat.sub_self]; rfl)
      have e3 : ∀ v, upd (q ++ [z] ++ y :: p2) ((m + 1 : Nat) : Int) v = some (q ++ [z] ++ v :: p2) := fun v => by
        rw [upd_nat (by simp; omega), List.set_append_right _ _ (by omega), hlen]; simp
      simp only [e0, cond_true, ew, e1, Option.bind_some, e2, e3]
      by_cases hz : z > x
      · have d : decide (z > x) = true := by simpa using hz
        simp only [d, cond_true]
        obtain ⟨q1, q2, r1, r2, r3, r4⟩ := ih q z (z :: p2) n hq (by omega) (by omega)
        refine ⟨q1, q2 ++ [z], by rw [r1]; simp, fun w hw => ?_, r3, ?_⟩
        · rcases List.mem_append.1 hw with h | h
          · exact r2 w h
          · rw [List.mem_singleton.1 h]; exact hz
        · rw [hq] at r4
          have e : q ++ [z] ++ z :: p2 = q ++ z :: (z :: p2) := by simp
          rw [e, r4]
          simp
      · have d : decide (z > x) = false := by simpa using hz
        simp only [d, cond_false]
        refine ⟨q ++ [z], [], (List.append_nil _).symm, fun w hw => (by simp at hw), fun q' z' h => ?_, rfl⟩
        have := List.append_inj_right' h rfl
        simp at this
        omega

theorem sorted_l1 (N : Nat) (hN : 1000001 < N) : ∀ (n i : Nat) (l : List Int), l.length - i < n → 1 ≤ i → l.length ≤ 1000000 → i ≤ 1000001 → (l.take i).Pairwise (· ≤ ·) → ms_l40Sorted_l1 N n ((i : Int), l) = some (sortI l) := by
  intro n
  induction n with
  | zero => intro i l h; omega
  | succ n ih =>
    intro i l hn h1 hl hi hp
    rw [ms_l40Sorted_l1]
    by_cases h : i < l.length
    · simp only [lt_true h, cond_true, ix_nat h, Option.bind_some]
      have hsplit : l = l.take i ++ l[i] :: l.drop (i + 1) := by
        rw [← List.drop_eq_getElem_cons h, List.take_append_drop]
      have htl : (l.take i).length = i := by simp; omega
      obtain ⟨q1, q2, r1, r2, r3, r4⟩ := ins_l2 N (ms_l40Sorted_l1 N n) (i : Int) l[i] i (l.take i) l[i] (l.drop (i + 1)) N htl (by omega) (by omega)
      rw [← hsplit, htl, wrap64 (by omega) (by omega)] at r4
      rw [r4]
      have hl2 : (q1 ++ q2).length = i := by rw [← r1]; exact htl
      have hperm : (q1 ++ l[i] :: (q2 ++ l.drop (i + 1))).Perm l := by
        have e : q1 ++ l[i] :: (q2 ++ l.drop (i + 1)) = q1 ++ (l[i] :: q2 ++ l.drop (i + 1)) := by simp
        have e2 : l = q1 ++ (q2 ++ l[i] :: l.drop (i + 1)) := by
          conv => lhs; rw [hsplit, r1]
          simp
        rw [e]
        conv => rhs; rw [e2]
        exact List.Perm.append_left _ (List.perm_middle (a := l[i]) (l₁ := q2) (l₂ := l.drop (i + 1))).symm
      rw [← sortI_eq hperm]
      have hlen : (q1 ++ l[i] :: (q2 ++ l.drop (i + 1))).length = l.length := hperm.length_eq
      refine ih (i + 1) _ (by rw [hlen]; omega) (by omega) (by rw [hlen]; omega) (by omega) ?_
      have ht : (q1 ++ l[i] :: (q2 ++ l.drop (i + 1))).take (i + 1) = q1 ++ l[i] :: q2 := by
        have e : q1 ++ l[i] :: (q2 ++ l.drop (i + 1)) = (q1 ++ l[i] :: q2) ++ l.drop (i + 1) := by simp
        rw [e, List.take_append_of_le_length (by simp at hl2 ⊢; omega), List.take_of_length_le (by simp at hl2 ⊢; omega)]
      rw [ht]
      rw [r1] at hp
      obtain ⟨p1, p2, p3⟩ := List.pairwise_append.1 hp
      have hq1 : ∀ z, z ∈ q1 → z ≤ l[i] := fun z hz => by
        rcases List.eq_nil_or_concat q1 with h0 | ⟨q, w, h0⟩
        · rw [h0] at hz; cases hz
        · rw [List.concat_eq_append] at h0
          have hw := r3 q w h0
          rw [h0] at hz p1
          rcases List.mem_append.1 hz with h | h
          · have := (List.pairwise_append.1 p1).2.2 z h w (by simp); omega
          · rw [List.mem_singleton.1 h]; exact hw
      refine List.pairwise_append.2 ⟨p1, List.pairwise_cons.2 ⟨fun z hz => by have := r2 z hz; omega, p2⟩, fun z hz w hw => ?_⟩
      rcases List.mem_cons.1 hw with rfl | hw
      · exact hq1 z hz
      · exact p3 z hz w hw
    · simp only [lt_false h, cond_false]
      rw [List.take_of_length_le (by omega)] at hp
      rw [sortI_of hp]

theorem sorted_is (N : Nat) (hN : 1000001 < N) (l : List Int) (hl : l.length ≤ 1000000) : ms_l40Sorted N l = some (sortI l) := by
  refine sorted_l1 N hN N 1 l (by omega) (Nat.le_refl _) hl (by omega) ?_
  cases l with
  | nil => simp
  | cons x l => simp

theorem sortS_is (l : List Int) (hl : l.length ≤ 1000000) : m_slices_Sort_int l = some (sortI l) := by
  unfold m_slices_Sort_int sortO
  rw [if_pos (by omega)]

def leaveB (k : Int) : Bool := k == 22 || (k == 23 || (k == 24 || (k == 25 || k == 26)))
theorem leaves_is (x : SNode) : mi_Leaves x = some (leaveB x.Kind) := by
  unfold mi_Leaves leaveB mi_Leaves_k1
  cases x.Kind == 22 <;> cases x.Kind == 23 <;> cases x.Kind == 24 <;> cases x.Kind == 25 <;> cases x.Kind == 26 <;> rfl
theorem leavesS_is (x : SNode) : ms_Leaves x = some (leaveB x.Kind) := leaves_is x

def kindAt (a : List SNode) (k : Int) : Int := ((ix a k).map (·.Kind)).getD 0
theorem kindAt_of {a : List SNode} {k : Int} {x : SNode} (h : ix a k = some x) : kindAt a k = x.Kind := by unfold kindAt; rw [h]; rfl

def deadF (a : List SNode) : Bool → List Int → List Int
  | _, [] => []
  | left, k :: ks => (bif left && (kindAt a k != 34) then [k] else []) ++ deadF a (left || leaveB (kindAt a k)) ks
theorem deadF_len (a : List SNode) : ∀ (ks : List Int) (left : Bool), (deadF a left ks).length ≤ ks.length
  | [], _ => Nat.le_refl _
  | k :: ks, left => by
    rw [deadF, List.length_append, List.length_cons]
    have := deadF_len a ks (left || leaveB (kindAt a k))
    cases left && (kindAt a k != 34) <;> simp <;> omega
theorem deadF_true (a : List SNode) : ∀ ks : List Int, deadF a true ks = ks.filter fun k => kindAt a k != 34
  | [] => rfl
  | k :: ks => by
    rw [deadF, Bool.true_or, deadF_true a ks, Bool.true_and, List.filter_cons]
    cases kindAt a k != 34 <;> simp

def deadAll (a : List SNode) (l : List SNode) : List Int := l.flatMap fun x => bif x.Kind != 33 then [] else deadF a false x.Kids
theorem deadAll_len (a : List SNode) : ∀ l : List SNode, (∀ x, x ∈ l → x.Kids.length ≤ 400) → (deadAll a l).length ≤ 400 * l.length
  | [], _ => by simp [deadAll]
  | x :: l, h => by
    have h1 := deadAll_len a l fun y hy => h y (by simp [hy])
    have h2 := deadF_len a x.Kids false
    have h3 := h x (by simp)
    have e : deadAll a (x :: l) = (bif x.Kind != 33 then [] else deadF a false x.Kids) ++ deadAll a l := rfl
    rw [e, List.length_append, List.length_cons]
    cases x.Kind != 33
    · simp only [cond_false]; omega
    · simp only [cond_true, List.length_nil]; omega

def Ins (a : List SNode) (ks : List Int) : Prop := ∀ k, k ∈ ks → ∃ x, ix a k = some x
theorem ins_of {a : List SNode} {ks : List Int} (h : ∀ k, k ∈ ks → 0 ≤ k ∧ k < a.length) : Ins a ks := fun k hk => by
  obtain ⟨h0, h1⟩ := h k hk
  have hlt : k.toNat < a.length := by omega
  refine ⟨a[k.toNat], ?_⟩
  have := ix_nat hlt
  rwa [Int.toNat_of_nonneg h0] at this

theorem di_l3 (N : Nat) (kb : (List SNode × Int × List Int) → Option (List Int)) (a : List SNode) (i : Int) (e : SNode) (hk : e.Kids.length ≤ 400) (hin : Ins a e.Kids) : ∀ (n j : Nat) (left : Bool) (acc : List Int), e.Kids.length - j < n → j ≤ e.Kids.length → acc.length + e.Kids.length ≤ 900000 + j →
    mi_DeadStmts_l3 N kb n (a, i, e, left, (j : Int), acc) = kb (a, IntKind.wrap .i64 (i + 1), acc ++ deadF a left (e.Kids.drop j)) := by
  intro n
  induction n with
  | zero => intro j left acc h; omega
  | succ n ih =>
    intro j left acc hn hj hacc
    rw [mi_DeadStmts_l3]
    by_cases h : j < e.Kids.length
    · obtain ⟨x, hx⟩ := hin e.Kids[j] (List.getElem_mem h)
      have hka := kindAt_of hx
      simp only [lt_true h, cond_true, ix_nat h, Option.bind_some, hx]
      have e1 : (bif left then some (x.Kind != 34) else some false) = some (left && (x.Kind != 34)) := by cases left <;> rfl
      simp only [e1, Option.bind_some]
      have next : ∀ acc : List Int, acc.length + e.Kids.length ≤ 900000 + (j + 1) → mi_DeadStmts_k4 N kb (mi_DeadStmts_l3 N kb n) (a, left, e.Kids[j], i, e, (j : Int), acc) = kb (a, IntKind.wrap .i64 (i + 1), acc ++ deadF a (left || leaveB (kindAt a e.Kids[j])) (e.Kids.drop (j + 1))) := fun acc hacc => by
        unfold mi_DeadStmts_k4
        have e2 : (bif left then some true else (some (leaveB x.Kind))) = some (left || leaveB x.Kind) := by cases left <;> rfl
        simp only [hx, Option.bind_some, leaves_is, e2]
        rw [wrap64 (by omega) (by omega), show (j : Int) + 1 = ((j + 1 : Nat) : Int) by omega, ih (j + 1) _ acc (by omega) (by omega) (by omega), hka]
      rw [drop_cons h, deadF, hka]
      cases hb : left && (x.Kind != 34) with
      | true =>
        simp only [cond_true]
        rw [app_some (by simp; omega), Option.bind_some, next _ (by simp; omega), hka]
        simp
      | false =>
        simp only [cond_false]
        rw [next _ (by omega), hka]
        simp
    · simp only [lt_false h, cond_false]
      rw [drop_nil h, deadF, List.append_nil]
      rfl

theorem di_l1 (N : Nat) (a : List SNode) (hN : 1048577 < N) (ha : a.length ≤ 400) (hk : ∀ x, x ∈ a → x.Kids.length ≤ 400 ∧ ∀ k, k ∈ x.Kids → 0 ≤ k ∧ k < a.length) : ∀ (n i : Nat) (acc : List Int), a.length - i < n → i ≤ a.length → acc.length ≤ 400 * i →
    mi_DeadStmts_l1 N n (a, (i : Int), acc) = some (sortI (acc ++ deadAll a (a.drop i))) := by
  intro n
  induction n with
  | zero => intro i acc h; omega
  | succ n ih =>
    intro i acc hn hi hacc
    rw [mi_DeadStmts_l1]
    by_cases h : i < a.length
    · obtain ⟨hkl, hkr⟩ := hk _ (List.getElem_mem h)
      simp only [lt_true h, cond_true, ix_nat h, Option.bind_some]
      have next : ∀ acc : List Int, acc.length ≤ 400 * (i + 1) → mi_DeadStmts_l1 N n (a, IntKind.wrap .i64 ((i : Int) + 1), acc) = some (sortI (acc ++ deadAll a (a.drop (i + 1)))) := fun acc hacc => by
        rw [wrap64 (by omega) (by omega), show (i : Int) + 1 = ((i + 1 : Nat) : Int) by omega]
        exact ih (i + 1) acc (by omega) (by omega) hacc
      have ed : deadAll a (a.drop i) = (bif a[i].Kind != 33 then [] else deadF a false a[i].Kids) ++ deadAll a (a.drop (i + 1)) := by
        rw [drop_cons h]; rfl
      rw [ed]
      cases hb : a[i].Kind != 33 with
      | true =>
        simp only [cond_true, List.nil_append]
        exact next acc (by omega)
      | false =>
        simp only [cond_false]
        have hd := deadF_len a a[i].Kids false
        have := di_l3 N (mi_DeadStmts_l1 N n) a (i : Int) a[i] hkl (ins_of hkr) N 0 false acc (by omega) (by omega) (by omega)
        rw [List.drop_zero] at this
        refine Eq.trans this ?_
        rw [next _ (by simp; omega), List.append_assoc]
    · simp only [lt_false h, cond_false]
      rw [drop_nil h]
      have e : deadAll a [] = [] := rfl
      rw [e, List.append_nil, sortS_is _ (by omega)]
      rfl

theorem from_l (N : Nat) (a : List SNode) (ks : List Int) (hk : ks.length ≤ 400) (hin : Ins a ks) : ∀ (n j : Nat), ks.length - j < n → j ≤ ks.length →
    ∃ f : Nat, ms_l40From_l1 N n (a, ks, (j : Int)) = some (f : Int) ∧ j ≤ f ∧ f ≤ ks.length ∧ deadF a false (ks.drop j) = (ks.drop f).filter fun k => kindAt a k != 34 := by
  intro n
  induction n with
  | zero => intro j h; omega
  | succ n ih =>
    intro j hn hj
    rw [ms_l40From_l1]
    by_cases h : j < ks.length
    · obtain ⟨x, hx⟩ := hin ks[j] (List.getElem_mem h)
      have hka := kindAt_of hx
      simp only [lt_true h, cond_true, ix_nat h, Option.bind_some, hx, leavesS_is]
      rw [drop_cons h, deadF, Bool.false_and, cond_false, List.nil_append, Bool.false_or, hka]
      have hw : IntKind.wrap .i64 ((j : Int) + 1) = ((j + 1 : Nat) : Int) := by rw [wrap64 (by omega) (by omega)]; omega
      rw [hw]
      cases hb : leaveB x.Kind with
      | true => exact ⟨j + 1, rfl, by omega, by omega, deadF_true a _⟩
      | false =>
        obtain ⟨f, h1, h2, h3, h4⟩ := ih (j + 1) (by omega) (by omega)
        exact ⟨f, h1, by omega, h3, h4⟩
    · simp only [lt_false h, cond_false]
      refine ⟨ks.length, rfl, hj, Nat.le_refl _, ?_⟩
      rw [drop_nil h, List.drop_length]; rfl

theorem ds_l3 (N : Nat) (kb : (List SNode × Bool × Int × List Int) → Option (List Int)) (a : List SNode) (b : Bool) (i : Nat) (hi : i < a.length) (hk : a[i].Kids.length ≤ 400) (hin : Ins a a[i].Kids) : ∀ (n j : Nat) (acc : List Int), a[i].Kids.length - j < n → j ≤ a[i].Kids.length → acc.length + a[i].Kids.length ≤ 900000 + j →
    ms_DeadStmts_l3 N kb n (a, b, (i : Int), (j : Int), acc) = kb (a, b, IntKind.wrap .i64 ((i : Int) + 1), acc ++ (a[i].Kids.drop j).filter fun k => kindAt a k != 34) := by
  intro n
  induction n with
  | zero => intro j acc h; omega
  | succ n ih =>
    intro j acc hn hj hacc
    rw [ms_DeadStmts_l3]
    by_cases h : j < a[i].Kids.length
    · obtain ⟨x, hx⟩ := hin a[i].Kids[j] (List.getElem_mem h)
      have hka := kindAt_of hx
      have hw : IntKind.wrap .i64 ((j : Int) + 1) = ((j + 1 : Nat) : Int) := by rw [wrap64 (by omega) (by omega)]; omega
      simp only [ix_nat hi, lt_true h, cond_true, ix_nat h, Option.bind_some, hx]
      rw [drop_cons h, List.filter_cons, hka]
      cases hb : x.Kind != 34 with
      | true =>
        simp only [cond_true]
        rw [app_some (by simp; omega), Option.bind_some]
        show ms_DeadStmts_l3 N kb n (a, b, (i : Int), IntKind.wrap .i64 ((j : Int) + 1), _) = _
        rw [hw, ih (j + 1) _ (by omega) (by omega) (by simp; omega)]
        simp
      | false =>
        simp only [cond_false]
        show ms_DeadStmts_l3 N kb n (a, b, (i : Int), IntKind.wrap .i64 ((j : Int) + 1), _) = _
        rw [hw, ih (j + 1) _ (by omega) (by omega) (by omega)]
        simp
    · simp only [ix_nat hi, Option.bind_some, lt_false h, cond_false]
      rw [drop_nil h, List.filter_nil, List.append_nil]
      rfl

theorem ds_l1 (N : Nat) (a : List SNode) (hN : 1048577 < N) (ha : a.length ≤ 400) (hk : ∀ x, x ∈ a → x.Kids.length ≤ 400 ∧ ∀ k, k ∈ x.Kids → 0 ≤ k ∧ k < a.length) : ∀ (n i : Nat) (acc : List Int), a.length - i < n → i ≤ a.length → acc.length ≤ 400 * i →
    ms_DeadStmts_l1 N n (a, true, (i : Int), acc) = some (sortI (acc ++ deadAll a (a.drop i))) := by
  intro n
  induction n with
  | zero => intro i acc h; omega
  | succ n ih =>
    intro i acc hn hi hacc
    rw [ms_DeadStmts_l1]
    by_cases h : i < a.length
    · obtain ⟨hkl, hkr⟩ := hk _ (List.getElem_mem h)
      simp only [lt_true h, cond_true, ix_nat h, Option.bind_some]
      have next : ∀ acc : List Int, acc.length ≤ 400 * (i + 1) → ms_DeadStmts_l1 N n (a, true, IntKind.wrap .i64 ((i : Int) + 1), acc) = some (sortI (acc ++ deadAll a (a.drop (i + 1)))) := fun acc hacc => by
        rw [wrap64 (by omega) (by omega), show (i : Int) + 1 = ((i + 1 : Nat) : Int) by omega]
        exact ih (i + 1) acc (by omega) (by omega) hacc
      have ed : deadAll a (a.drop i) = (bif a[i].Kind != 33 then [] else deadF a false a[i].Kids) ++ deadAll a (a.drop (i + 1)) := by
        rw [drop_cons h]; rfl
      rw [ed]
      cases hb : a[i].Kind != 33 with
      | true =>
        simp only [cond_true, List.nil_append]
        exact next acc (by omega)
      | false =>
        simp only [cond_false]
        have hd := deadF_len a a[i].Kids false
        obtain ⟨f, f1, f2, f3, f4⟩ := from_l N a a[i].Kids hkl (ins_of hkr) N 0 (by omega) (by omega)
        have f1' : ms_l40From N a a[i].Kids = some (f : Int) := f1
        rw [f1', Option.bind_some, ds_l3 N (ms_DeadStmts_l1 N n) a true i h hkl (ins_of hkr) N f acc (by omega) f3 (by omega)]
        rw [List.drop_zero] at f4
        rw [← f4, next _ (by simp; omega), List.append_assoc]
    · simp only [lt_false h, cond_false, Option.bind_some]
      rw [drop_nil h]
      have e : deadAll a [] = [] := rfl
      rw [e, List.append_nil, sorted_is N (by omega) _ (by omega)]
      rfl

theorem dead_ex (N : Nat) (a : List SNode) (hN : 1048577 + 400 < N) (hs : ∀ z, z ∈ a → smNode z) : ∃ r, ms_DeadStmts N a = some r ∧ mi_DeadStmts N a = some r ∧ r.length ≤ 160000 ∧ ∀ b, mi_TreeOk N a = some b → b = true → r = sortI (deadAll a a) := by
  obtain ⟨b, b1, b2, b3⟩ := treeOk_ex N a hN hs
  unfold ms_DeadStmts mi_DeadStmts
  rw [b1, b2]
  simp only [Option.bind_some]
  cases b with
  | false =>
    refine ⟨[], ?_, rfl, by simp, fun b h1 h2 => by subst h2; cases h1⟩
    obtain ⟨n, rfl⟩ : ∃ n, N = n + 1 := ⟨N - 1, by omega⟩
    rw [ms_DeadStmts_l1]
    have e : (bif decide ((0 : Int) < (a.length : Int)) then some false else some false) = some false := by cases decide ((0 : Int) < (a.length : Int)) <;> rfl
    simp only [e, Option.bind_some, cond_false, sorted_is (n + 1) (by omega) [] (by simp)]
    rw [sortI_of List.Pairwise.nil]
  | true =>
    obtain ⟨hsh, _⟩ := b3 rfl
    have ha := (shape_of hsh).2.1
    have h1 := di_l1 N a (by omega) ha (shape_kids hsh) N 0 [] (by omega) (by omega) (by simp)
    have h2 := ds_l1 N a (by omega) ha (shape_kids hsh) N 0 [] (by omega) (by omega) (by simp)
    rw [List.drop_zero, List.nil_append] at h1 h2
    have hl := deadAll_len a a fun x hx => (shape_kids hsh x hx).1
    refine ⟨_, h2, h1, by rw [sortI_len]; omega, fun _ _ _ => rfl⟩

end Go.Proofs.Tryz

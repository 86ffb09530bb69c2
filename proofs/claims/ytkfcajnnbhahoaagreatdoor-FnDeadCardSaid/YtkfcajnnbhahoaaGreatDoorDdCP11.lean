/-
 Plain lemmas on the models, part 11.
-/
import Derived.Test.YtkfcajnnbhahoaaGreatDoorDdCP10
namespace Go.Proofs.Tryz
open Go.Av
set_option maxRecDepth 100000
set_option linter.unusedSimpArgs false
set_option linter.unusedVariables false

theorem smS_sm {L : List SNode} (h : SmS L) : ∀ x, x ∈ L → smNode x := fun x hx => by
 obtain ⟨h1, h2, h3⟩ := h x hx
 exact ⟨by omega, by omega, by omega⟩
theorem same_self (N : Nat) (a : List SNode) (hN : 1048577 < N) (ha : a.length ≤ 1048576) (hs : ∀ x, x ∈ a → smNode x) : ms_SameTree N a a = some true := by
 have ints : ∀ (k : List Int), k.length ≤ 1048576 → ms_l6Ints N k k = some true := fun k hk => by
  have l : ∀ (n i : Nat), k.length - i < n → i ≤ k.length → ms_l6Ints_l1 N n (k, k, (i : Int)) = some true := by
   intro n
   induction n with
   | zero => intro i h; omega
   | succ n ih =>
    intro i hn hi
    rw [ms_l6Ints_l1]
    by_cases h : i < k.length
    ·have ne : (k[i] != k[i]) = false := by simp
     simp only [lt_true h, cond_true, ix_nat h, Option.bind_some, ne, cond_false]
     rw [wrap64 (by omega) (by omega), show (i : Int) + 1 = ((i + 1 : Nat) : Int) by omega]
     exact ih (i + 1) (by omega) (by omega)
    ·simp only [lt_false h, cond_false]
  unfold ms_l6Ints
  have ne : ((k.length : Int) != (k.length : Int)) = false := by simp
  rw [ne, cond_false]
  exact l N 0 (by omega) (by omega)
 have l : ∀ (n i : Nat), a.length - i < n → i ≤ a.length → ms_SameTree_l1 N n (a, a, (i : Int)) = some true := by
  intro n
  induction n with
  | zero => intro i h; omega
  | succ n ih =>
   intro i hn hi
   rw [ms_SameTree_l1]
   by_cases h : i < a.length
   ·have e1 : (a[i].Kind != a[i].Kind) = false := by simp
    have e2 : (a[i].Op != a[i].Op) = false := by simp
    have e3 : (!(a[i].Text == a[i].Text)) = false := by simp
    have e4 : (!(a[i].Other == a[i].Other)) = false := by simp
    have e5 := ints a[i].Kids (by have := hs _ (List.getElem_mem h); unfold smNode at this; omega)
    simp only [lt_true h, cond_true, ix_nat h, Option.bind_some, e1, e2, e3, e4, e5, cond_false, Bool.not_true]
    rw [wrap64 (by omega) (by omega), show (i : Int) + 1 = ((i + 1 : Nat) : Int) by omega]
    exact ih (i + 1) (by omega) (by omega)
   ·simp only [lt_false h, cond_false]
 unfold ms_SameTree
 have ne : ((a.length : Int) != (a.length : Int)) = false := by simp
 rw [ne, cond_false]
 exact l N 0 (by omega) (by omega)

def mb : Nat → Nat
 | 0 => 290
 | d + 1 => 4 * mb d + 1
section
set_option linter.unusedSectionVars false
variable (b : List UInt8) (hb : b.length ≤ 1048576) (N : Nat) (hN : 18446744073709551657 + 2097152 ≤ N)
include hb hN
theorem simple_el (i h : Int) (h0 : 0 ≤ i) (h1 : i ≤ (b.length : Int)) {M : Nat} (hM : 1050200 < M) : Dr b (EL 70) (ms_l7Simple M 1 b i h) := by
 obtain ⟨i, rfl⟩ := Int.eq_ofNat_of_zero_le h0
 exact Sm.dr (by omega) (simple_sm b hb (N := M) (by omega) (d := 1) (by omega) 1 rfl (by omega) i h (by omega)) (simple_post (d := 1) (by omega)) fun t ht => by
  have := szT_pos t
  exact ⟨lst_smS ht (by omega), by rw [lst_len]; exact ht.1, by rw [lst_len]; omega⟩
def B40 (M d : Nat) : Prop := ∀ (i h : Int), 0 ≤ i → i ≤ (b.length : Int) → Dr b (EL (mb d)) ((scc3 M).ms_l40Block (d : Int) b i h)
theorem l40_l {M d m : Nat} (hM : 1050200 < M) (hm : 70 ≤ m) (hm2 : m ≤ 20000) (hB : ∀ e, d = e + 1 → ∀ (i h : Int), 0 ≤ i → i ≤ (b.length : Int) → Dr b (EL m) ((scc3 M).ms_l40Block (e : Int) b i h)) (hd : d ≤ 10) : ∀ (n c : Nat) (i h : Int) (acc : List (List SNode)), c < n → acc.length + c ≤ 4 → lenS acc ≤ acc.length * m → (∀ L, L ∈ acc → SmS L) → 0 ≤ i → i ≤ (b.length : Int) →
  Dr b (EL (4 * m + 1)) (ms_l40Block_l1 M (scc3 M) b n ((d : Int), (c : Int), i, h, acc)) := by
 intro n
 induction n with
 | zero => intro c i h acc hc; omega
 | succ n ih =>
  intro c i h acc hc ha hl hs h0 h1
  rw [ms_l40Block_l1]
  refine Dr.cond (fun hc2 => ?_) fun hc2 => ?_
  ·have hc2 := of_decide_eq_true hc2
   obtain ⟨c, rfl⟩ : ∃ k, c = k + 1 := ⟨c - 1, by omega⟩
   have next : ∀ (L : List SNode) (i h : Int), EL m L → 0 ≤ i → i ≤ (b.length : Int) → Dr b (EL (4 * m + 1)) ((app 24 acc [L]).bind fun x => ms_l40Block_k2 M (scc3 M) b (ms_l40Block_l1 M (scc3 M) b n) ((d : Int), ((c + 1 : Nat) : Int), i, h, x)) := fun L i h hL h0 h1 => by
    rw [app_some (by simp; omega), Option.bind_some]
    unfold ms_l40Block_k2
    dsimp only
    rw [wrap64 (by omega) (by omega), show ((c + 1 : Nat) : Int) - 1 = (c : Int) by omega]
    have h0' : lenS [] = 0 := rfl
    refine ih c i h (acc ++ [L]) (by omega) (by simp; omega) ?_ (fun L' hL' => ?_) h0 h1
    ·rw [lenS_app, lenS_cons, h0', List.length_append, List.length_singleton, Nat.add_mul]
     have := hL.2.1
     omega
    ·rcases List.mem_append.1 hL' with h | h
     ·exact hs _ h
     ·rw [List.mem_singleton.1 h]; exact hL.1
   have once : Dr b (fun y : Bool => y = true → 0 < d) (bif (decide ((d : Int) > 0)) then (ms_l1Once 3 b i h).bind fun r186 => some (r186.1, r186.2.1, r186.2.2) else (some (false, i, h))) := by
    refine Dr.cond (fun hc => ?_) fun hc => Dr.some (fun h => by cases h) h0 h1
    have hc := of_decide_eq_true hc
    exact Dr.id3 ((once_dr b hb 3 i h h0 h1).imp fun _ _ _ => by omega)
   refine Dr.bind once fun y i h hy h0 h1 => ?_
   dsimp only
   refine Dr.cond (fun hy2 => ?_) fun _ => ?_
   ·obtain ⟨e, rfl⟩ : ∃ e, d = e + 1 := ⟨d - 1, by have := hy hy2; omega⟩
    rw [wrap64 (by omega) (by omega), show ((e + 1 : Nat) : Int) - 1 = (e : Int) by omega]
    exact Dr.bind (hB e rfl i h h0 h1) fun L i h hL h0 h1 => next L i h hL h0 h1
   ·refine Dr.bind (simple_el b hb N hN i h h0 h1 (by omega)) fun L i h hL h0 h1 => next L i h ⟨hL.1, ?_, hL.2.2⟩ h0 h1
    have := hL.2.1; omega
  ·have := Nat.mul_le_mul_right m (show acc.length ≤ 4 by omega)
   exact make_dr b hb (by omega) 33 0 [] (by simp) acc (4 * m + 1) (by omega) hs (by omega) (by omega) h0 h1
theorem l40_zero {M : Nat} (hM : 1050200 < M) : B40 b (M + 1) 0 := by
 intro i h h0 h1
 show Dr b _ (ms_l40Block_F M (scc3 M) 0 b i h)
 unfold ms_l40Block_F
 refine Dr.bind (below_dr b hb _ i h h0 h1) fun r i h hr h0 h1 => ?_
 obtain ⟨c, rfl⟩ := Int.eq_ofNat_of_zero_le hr.1
 dsimp only
 refine (l40_l b hb N hN (m := 70) (d := 0) hM (by omega) (by omega) (fun e he => by omega) (by omega) M c i h [] (by omega) (by simp; omega) (by simp [lenS]) (fun L hL => by cases hL) h0 h1).imp fun L hL => ⟨hL.1, ?_, hL.2.2⟩
 have := hL.2.1
 show L.length ≤ 290
 omega
theorem mb_le (d : Nat) (hd : d ≤ 2) : 70 ≤ mb d ∧ mb d ≤ 20000 := by
 have : d = 0 ∨ d = 1 ∨ d = 2 := by omega
 rcases this with rfl | rfl | rfl <;> decide
theorem l40_succ {M d : Nat} (hM : 1050200 < M) (hd : d ≤ 1) (hB : B40 b M d) : B40 b (M + 1) (d + 1) := by
 intro i h h0 h1
 show Dr b _ (ms_l40Block_F M (scc3 M) ((d + 1 : Nat) : Int) b i h)
 unfold ms_l40Block_F
 refine Dr.bind (below_dr b hb _ i h h0 h1) fun r i h hr h0 h1 => ?_
 obtain ⟨c, rfl⟩ := Int.eq_ofNat_of_zero_le hr.1
 dsimp only
 have hm := mb_le b hb N hN d (by omega)
 exact l40_l b hb N hN (m := mb d) (d := d + 1) hM (by omega) (by omega) (fun e he i h h0 h1 => by
  obtain rfl : d = e := by omega
  exact hB i h h0 h1) (by omega) M c i h [] (by omega) (by simp; omega) (by simp [lenS]) (fun L hL => by cases hL) h0 h1
theorem l40draw_dr (i h : Int) (h0 : 0 ≤ i) (h1 : i ≤ (b.length : Int)) : Dr b (fun L => SmS L ∧ L.length ≤ 20000) (ms_l40Draw N b i h) := by
 unfold ms_l40Draw
 refine Dr.bind (once_dr b hb 4 i h h0 h1) fun y i h _ h0 h1 => ?_
 dsimp only
 refine Dr.cond (fun _ => Dr.id3 ((spoilt_dr b hb N hN i h h0 h1).imp fun L hL => ⟨hL.1, by have := hL.2; omega⟩)) fun _ => Dr.id3 ?_
 obtain ⟨M, rfl⟩ : ∃ M, N = M + 3 := ⟨N - 3, by omega⟩
 have e0 := l40_zero b hb (M + 3) hN (M := M) (by omega)
 have e1 := l40_succ b hb (M + 3) hN (M := M + 1) (by omega) (by omega) e0
 have e2 := l40_succ b hb (M + 3) hN (M := M + 2) (by omega) (by omega) e1
 exact (e2 i h h0 h1).imp fun L hL => ⟨hL.1, Nat.le_trans hL.2.1 (by decide)⟩
end

end Go.Proofs.Tryz

/-
 Plain lemmas on the models, part 16.
-/
import Derived.Test.YtkfcajnnbhahoaaGreatDoorLgFP15
namespace Go.Proofs.Tryz
open Go.Av
set_option maxRecDepth 100000
set_option linter.unusedSimpArgs false
set_option linter.unusedVariables false

def w27 : Nat → Nat
 | 0 => 1
 | d + 1 => 3 * w27 d + 1
def w39 : Nat → Nat
 | 0 => 13
 | d + 1 => 2 * w39 d + 14
section
set_option linter.unusedSectionVars false
variable (b : List UInt8) (hb : b.length ≤ 1048576)
include hb
def X27 (M d : Nat) : Prop := ∀ (i h : Int), 0 ≤ i → i ≤ (b.length : Int) → Dr b (EL (w27 d)) ((scc3 M).ms_l27Expr (d : Int) b i h)
theorem w27_b (d : Nat) (hd : d ≤ 3) : 1 ≤ w27 d ∧ w27 d ≤ 40 := by
 have : d = 0 ∨ d = 1 ∨ d = 2 ∨ d = 3 := by omega
 rcases this with rfl | rfl | rfl | rfl <;> decide
theorem one_el (m : Nat) (hm : 1 ≤ m) (k o : Int) (x : List UInt8) (hx : x.length ≤ 20) : EL m [(⟨k, o, x, [], []⟩ : SNode)] := by
 have := el_one k o x hx
 exact ⟨this.1, by have := this.2.1; omega, this.2.2⟩
theorem x27_k2 {M d m : Nat} (hM : 1050200 < M) (hd : d ≤ 3) (hm : m ≤ 1000) (hm1 : 1 ≤ m) (deep : Int) (y5 : Int) (y : Bool) (hy : y = true ∨ ∃ e, d = e + 1 ∧ deep = ((e + 1 : Nat) : Int) ∧ X27 b M e ∧ 3 * w27 e + 1 ≤ m) (i h : Int) (h0 : 0 ≤ i) (h1 : i ≤ (b.length : Int)) : Dr b (EL m) (ms_l27Expr_k2 M (scc3 M) b (deep, y5, i, h, y)) := by
 unfold ms_l27Expr_k2
 dsimp only
 refine Dr.cond (fun _ => ?_) fun hyf => ?_
 ·exact Dr.bind (pick_le b hb 20 _ i h h0 h1 (by decide) (by decide)) fun x i h hx h0 h1 => Dr.some (one_el b hb m hm1 _ _ _ hx) h0 h1
 ·rcases hy with hy | ⟨e, he, hdp, hX, hw⟩
  ·rw [hy] at hyf; cases hyf
  have hb27 := w27_b b hb e (by omega)
  have hwr : IntKind.wrap .i64 (deep - 1) = (e : Int) := by rw [hdp, wrap64 (by omega) (by omega)]; omega
  rw [hwr]
  have ls : ∀ L, EL (w27 e) L → SmS L ∧ L.length ≤ w27 e := fun L hL => ⟨hL.1, hL.2.1⟩
  refine Dr.cond (fun _ => ?_) fun _ => Dr.cond (fun _ => ?_) fun _ => ?_
  ·refine Dr.bind (pickInt_dr b hb (P := fun _ => True) _ i h h0 h1 (by decide) fun _ _ => trivial) fun o i h _ h0 h1 => ?_
   refine Dr.bind (hX i h h0 h1) fun L i h hL h0 h1 => ?_
   refine make_dr b hb (by omega) 11 o [] (by simp) [L] m (by simp) (fun L' hL' => ?_) ?_ (by omega) h0 h1
   ·rw [List.mem_singleton.1 hL']; exact hL.1
   ·have := hL.2.1
    simp only [lenS, List.map_cons, List.map_nil, List.sum_cons, List.sum_nil]; omega
  ·refine Dr.bind (hX i h h0 h1) fun L1 i h hL1 h0 h1 => ?_
   refine Dr.bind (hX i h h0 h1) fun L2 i h hL2 h0 h1 => ?_
   refine Dr.bind (hX i h h0 h1) fun L3 i h hL3 h0 h1 => ?_
   refine make_dr b hb (by omega) 14 0 [] (by simp) [L1, L2, L3] m (by simp) (fun L' hL' => ?_) ?_ (by omega) h0 h1
   ·simp only [List.mem_cons, List.not_mem_nil, or_false] at hL'
    rcases hL' with rfl | rfl | rfl
    ·exact hL1.1
    ·exact hL2.1
    ·exact hL3.1
   ·have := hL1.2.1
    have := hL2.2.1
    have := hL3.2.1
    simp only [lenS, List.map_cons, List.map_nil, List.sum_cons, List.sum_nil]; omega
  ·refine Dr.bind (pickInt_dr b hb (P := fun _ => True) _ i h h0 h1 (by decide) fun _ _ => trivial) fun o i h _ h0 h1 => ?_
   refine Dr.bind (hX i h h0 h1) fun L1 i h hL1 h0 h1 => ?_
   refine Dr.bind (hX i h h0 h1) fun L2 i h hL2 h0 h1 => ?_
   refine make_dr b hb (by omega) 12 o [] (by simp) [L1, L2] m (by simp) (fun L' hL' => ?_) ?_ (by omega) h0 h1
   ·simp only [List.mem_cons, List.not_mem_nil, or_false] at hL'
    rcases hL' with rfl | rfl
    ·exact hL1.1
    ·exact hL2.1
   ·have := hL1.2.1
    have := hL2.2.1
    simp only [lenS, List.map_cons, List.map_nil, List.sum_cons, List.sum_nil]; omega
theorem x27_zero {M : Nat} (hM : 1050200 < M) : X27 b (M + 1) 0 := by
 intro i h h0 h1
 show Dr b (EL 1) (ms_l27Expr_F M (scc3 M) 0 b i h)
 unfold ms_l27Expr_F
 refine Dr.bind (below_dr b hb _ i h h0 h1) fun r i h hr h0 h1 => ?_
 dsimp only
 rw [show decide ((0 : Int) ≤ 0) = true from rfl, cond_true]
 refine Dr.bind (below_dr b hb _ i h h0 h1) fun r i h hr h0 h1 => ?_
 unfold ms_l27Expr_k1
 dsimp only
 refine Dr.cond (fun _ => ?_) fun e0 => Dr.cond (fun e1 => ?_) fun e1 => ?_
 ·exact Dr.bind (pick_le b hb 20 _ i h h0 h1 (by decide) (by decide)) fun x i h hx h0 h1 => Dr.some (one_el b hb 1 (by omega) _ _ _ hx) h0 h1
 ·exact x27_k2 b hb (d := 0) hM (by omega) (by omega) (by omega) 0 r _ (.inl e1) i h h0 h1
 ·have g0 : r ≠ 0 := by simpa using e0
  have g1 : r ≠ 1 := by simpa using e1
  have g2 : (r == 2) = true := by
   have : r = 2 := by omega
   simp [this]
  exact x27_k2 b hb (d := 0) hM (by omega) (by omega) (by omega) 0 r _ (.inl g2) i h h0 h1
theorem x27_succ {M d : Nat} (hM : 1050200 < M) (hd : d ≤ 2) (hX : X27 b M d) : X27 b (M + 1) (d + 1) := by
 intro i h h0 h1
 have hb27 := w27_b b hb d (by omega)
 have hw : w27 (d + 1) = 3 * w27 d + 1 := rfl
 show Dr b _ (ms_l27Expr_F M (scc3 M) ((d + 1 : Nat) : Int) b i h)
 unfold ms_l27Expr_F
 refine Dr.bind (below_dr b hb _ i h h0 h1) fun r i h hr h0 h1 => ?_
 dsimp only
 rw [decide_eq_false (show ¬ ((d + 1 : Nat) : Int) ≤ 0 by omega), cond_false]
 have hy : ∀ y : Bool, y = true ∨ ∃ e, d + 1 = e + 1 ∧ ((d + 1 : Nat) : Int) = ((e + 1 : Nat) : Int) ∧ X27 b M e ∧ 3 * w27 e + 1 ≤ w27 (d + 1) := fun y => .inr ⟨d, rfl, rfl, hX, by omega⟩
 unfold ms_l27Expr_k1
 dsimp only
 refine Dr.cond (fun _ => ?_) fun e0 => Dr.cond (fun e1 => ?_) fun e1 => ?_
 ·exact Dr.bind (pick_le b hb 20 _ i h h0 h1 (by decide) (by decide)) fun x i h hx h0 h1 => Dr.some (one_el b hb _ (by omega) _ _ _ hx) h0 h1
 ·exact x27_k2 b hb (d := d + 1) hM (by omega) (by omega) (by omega) _ r _ (hy _) i h h0 h1
 ·exact x27_k2 b hb (d := d + 1) hM (by omega) (by omega) (by omega) _ r _ (hy _) i h h0 h1
theorem x27_all {M : Nat} (hM : 1050300 < M) : X27 b M 1 ∧ X27 b M 2 := by
 obtain ⟨M, rfl⟩ : ∃ m, M = m + 3 := ⟨M - 3, by omega⟩
 have a0 := x27_zero b hb (M := M) (by omega)
 have a0' := x27_zero b hb (M := M + 1) (by omega)
 have a1 := x27_succ b hb (M := M + 1) (by omega) (by omega) a0
 have a1' := x27_succ b hb (M := M + 2) (by omega) (by omega) a0'
 exact ⟨a1', x27_succ b hb (M := M + 2) (by omega) (by omega) a1⟩
def X39 (M d : Nat) : Prop := ∀ (i h : Int), 0 ≤ i → i ≤ (b.length : Int) → Dr b (EL (w39 d)) ((scc4 M).ms_l39Expr (d : Int) b i h)
theorem w39_b (d : Nat) (hd : d ≤ 4) : 13 ≤ w39 d ∧ w39 d ≤ 500 := by
 have : d = 0 ∨ d = 1 ∨ d = 2 ∨ d = 3 ∨ d = 4 := by omega
 rcases this with rfl | rfl | rfl | rfl | rfl <;> decide
theorem x39_zero {M : Nat} (hM : 1050300 < M) : X39 b (M + 1) 0 := by
 intro i h h0 h1
 show Dr b _ (ms_l39Expr_F M (scc4 M) 0 b i h)
 unfold ms_l39Expr_F
 rw [show decide ((0 : Int) ≤ 0) = true from rfl, cond_true]
 exact Dr.id3 (((x27_all b hb hM).1 i h h0 h1).imp fun L hL => ⟨hL.1, Nat.le_trans hL.2.1 (by decide), hL.2.2⟩)
theorem x39_succ {M d : Nat} (hM : 1050300 < M) (hd : d ≤ 3) (hX : X39 b M d) : X39 b (M + 1) (d + 1) := by
 intro i h h0 h1
 have hw39 := w39_b b hb d (by omega)
 have hw : w39 (d + 1) = 2 * w39 d + 14 := rfl
 show Dr b _ (ms_l39Expr_F M (scc4 M) ((d + 1 : Nat) : Int) b i h)
 have k1 : ∀ (r i h : Int) (y : Bool), 0 ≤ i → i ≤ (b.length : Int) → Dr b (EL (w39 (d + 1))) (ms_l39Expr_k1 M (scc4 M) b (((d + 1 : Nat) : Int), (r, i, h), y)) := fun r i h y h0 h1 => by
  unfold ms_l39Expr_k1
  dsimp only
  rw [wrap64 (n := ((d + 1 : Nat) : Int) - 1) (by omega) (by omega), show ((d + 1 : Nat) : Int) - 1 = (d : Int) by omega]
  refine Dr.cond (fun _ => ?_) fun _ => Dr.cond (fun _ => ?_) fun _ => ?_
  ·refine Dr.bind (hX i h h0 h1) fun L i h hL h0 h1 => ?_
   refine make_dr b hb (by omega) 11 61 [] (by simp) [L] _ (by simp) (fun L' hL' => ?_) ?_ (by omega) h0 h1
   ·rw [List.mem_singleton.1 hL']; exact hL.1
   ·have := hL.2.1
    simp only [lenS, List.map_cons, List.map_nil, List.sum_cons, List.sum_nil]; omega
  ·refine Dr.bind (pickInt_dr b hb (P := fun _ => True) _ i h h0 h1 (by decide) fun _ _ => trivial) fun o i h _ h0 h1 => ?_
   refine Dr.bind (hX i h h0 h1) fun L1 i h hL1 h0 h1 => ?_
   refine Dr.bind (hX i h h0 h1) fun L2 i h hL2 h0 h1 => ?_
   refine make_dr b hb (by omega) 12 o [] (by simp) [L1, L2] _ (by simp) (fun L' hL' => ?_) ?_ (by omega) h0 h1
   ·simp only [List.mem_cons, List.not_mem_nil, or_false] at hL'
    rcases hL' with rfl | rfl
    ·exact hL1.1
    ·exact hL2.1
   ·have := hL1.2.1
    have := hL2.2.1
    simp only [lenS, List.map_cons, List.map_nil, List.sum_cons, List.sum_nil]; omega
  ·exact Dr.id3 (((x27_all b hb hM).2 i h h0 h1).imp fun L hL => ⟨hL.1, Nat.le_trans hL.2.1 (by rw [show w27 2 = 13 from rfl]; omega), hL.2.2⟩)
 unfold ms_l39Expr_F
 rw [decide_eq_false (show ¬ ((d + 1 : Nat) : Int) ≤ 0 by omega), cond_false]
 refine Dr.bind (below_dr b hb _ i h h0 h1) fun r i h hr h0 h1 => ?_
 dsimp only
 exact Dr.cond (fun _ => k1 r i h _ h0 h1) fun _ => k1 r i h _ h0 h1
theorem x39_all : ∀ (d M : Nat), d ≤ 4 → 1050310 < M → X39 b M d
 | 0, M, _, hM => by
  obtain ⟨M, rfl⟩ : ∃ m, M = m + 1 := ⟨M - 1, by omega⟩
  exact x39_zero b hb (by omega)
 | d + 1, M, hd, hM => by
  obtain ⟨M, rfl⟩ : ∃ m, M = m + 1 := ⟨M - 1, by omega⟩
  by_cases h : 1050310 < M
  ·exact x39_succ b hb (by omega) (by omega) (x39_all d M (by omega) h)
  ·exact x39_succ b hb (by omega) (by omega) (by
    match d, hd with
    | 0, _ =>
     obtain ⟨M, rfl⟩ : ∃ m, M = m + 1 := ⟨M - 1, by omega⟩
     exact x39_zero b hb (by omega)
    | 1, _ =>
     obtain ⟨M, rfl⟩ : ∃ m, M = m + 2 := ⟨M - 2, by omega⟩
     exact x39_succ b hb (by omega) (by omega) (x39_zero b hb (by omega))
    | 2, _ =>
     obtain ⟨M, rfl⟩ : ∃ m, M = m + 3 := ⟨M - 3, by omega⟩
     exact x39_succ b hb (by omega) (by omega) (x39_succ b hb (by omega) (by omega) (x39_zero b hb (by omega)))
    | 3, _ =>
     obtain ⟨M, rfl⟩ : ∃ m, M = m + 4 := ⟨M - 4, by omega⟩
     exact x39_succ b hb (by omega) (by omega) (x39_succ b hb (by omega) (by omega) (x39_succ b hb (by omega) (by omega) (x39_zero b hb (by omega)))))
end
section
set_option linter.unusedSectionVars false
variable (b : List UInt8) (hb : b.length ≤ 1048576) (N : Nat) (hN : 18446744073709551657 + 2097152 ≤ N)
include hb hN
theorem l39draw_dr (i h : Int) (h0 : 0 ≤ i) (h1 : i ≤ (b.length : Int)) : Dr b (fun L => SmS L ∧ L.length ≤ 3000) (ms_l39Draw N b i h) := by
 unfold ms_l39Draw
 refine Dr.bind (once_dr b hb 5 i h h0 h1) fun y i h _ h0 h1 => ?_
 dsimp only
 refine Dr.cond (fun _ => Dr.id3 ?_) fun _ => ?_
 ·unfold ms_l10Draw
  refine Dr.bind (once_dr b hb 10 i h h0 h1) fun y i h _ h0 h1 => ?_
  dsimp only
  refine Dr.cond (fun _ => Dr.id3 ((spoilt_dr b hb N hN i h h0 h1).imp fun L hL => ⟨hL.1, hL.2.1⟩)) fun _ => Dr.id3 ((some_dr b hb N hN i h h0 h1).imp ?_)
  rintro L ⟨t, rfl, ht⟩
  have := ht.1
  exact ⟨lst_smS ht (by omega), by rw [lst_len]; omega⟩
 ·refine Dr.bind (below_dr b hb 4 i h h0 h1) fun r i h hr h0 h1 => ?_
  obtain ⟨c, rfl⟩ := Int.eq_ofNat_of_zero_le hr.1
  dsimp only
  rw [wrap64 (by omega) (by omega), show (1 : Int) + (c : Int) = ((c + 1 : Nat) : Int) by omega]
  refine Dr.id3 ((x39_all b hb (c + 1) N (by omega) (by omega) i h h0 h1).imp fun L hL => ⟨hL.1, ?_⟩)
  have := hL.2.1
  have := w39_b b hb (c + 1) (by omega)
  omega
end

structure Fr where
 k : Int
 o : Int
 x : List UInt8
 y : List UInt8
 L : List STree
 R : List STree
def fillL : List Fr → List STree → List STree
 | [], us => us
 | c :: C, us => [⟨c.k, c.o, c.x, c.y, c.L ++ fillL C us ++ c.R⟩]
def posC : List Fr → Nat
 | [] => 0
 | c :: C => szTs c.L + posC C
theorem ok_tree (N : Nat) (a : List SNode) (hN : 1048577 + 1000 < N) (hs : ∀ z, z ∈ a → smNode z) (h : ms_TreeOk N a = some true) : ∃ t, TA a t 0 (a.length - 1) ∧ a = lst 0 t ∧ shapeB a = true ∧ szT t = a.length ∧ 1 ≤ a.length ∧ szT t ≤ 400 ∧ depT t ≤ 40 ∧ AllT (RT N) t ∧ AllT TxP t ∧ mi_TreeOk N a = some true := by
 obtain ⟨b, b1, b2, b3⟩ := treeOk_ex N a (by omega) hs
 rw [h] at b1
 cases b1
 obtain ⟨hsh, _⟩ := b3 rfl
 obtain ⟨l1, l2, _, _, _, _, hT, t, ht⟩ := shape_of hsh
 have hpt := ht.part
 have hsz : szT t = a.length := by have := hpt.2.1; omega
 have hat : a = lst 0 t := by
  have := hpt.2.2
  rwa [show a.length - 1 + 1 = a.length by omega, part_all] at this
 have hrt := rt_of N a (by omega) hsh h ht
 have htx : AllT TxP t := TA.all (fun u s j hu => by
  obtain ⟨n, hn, e1, e2, e3, e4, hka, hkl⟩ := hu.node
  have := hs n (List.mem_of_getElem? hn)
  unfold smNode at this
  exact ⟨by rw [e3]; omega, by rw [e4]; omega⟩) t 0 _ ht
 have hdo : depT t ≤ 40 := by
  have h0 := h
  unfold ms_TreeOk at h0
  rw [shapeOk_spec N a (by omega) hs, hsh, depthOf_spec N a (by omega) hs hsh ht] at h0
  simp only [oBs, Bool.not_true, cond_false] at h0
  cases hg : decide ((depT t : Int) > 40) with
  | true => rw [hg] at h0; simp at h0
  | false => simp at hg; omega
 exact ⟨t, ht, hat, hsh, hsz, l1, by omega, hdo, hrt, htx, b2⟩
section
set_option linter.unusedSectionVars false
variable (N : Nat) (a : List SNode) (hN : 1048577 + 1000 < N) (hs : ∀ z, z ∈ a → smNode z) (h : ms_TreeOk N a = some true) {C : List Fr} {u t : STree} (hat : a = lst 0 t) (hC : fillL C [u] = [t]) {q : Nat} (hq : q + 1 = posC C + szT u)
include hN hs h hat hC hq
end
theorem nots_l (N : Nat) (a : List SNode) (hl : a.length ≤ 1048576) : ∀ (n i : Nat) (c : Int), a.length - i < n → i ≤ a.length → 0 ≤ c → c ≤ i →
  ∃ r, ms_Nots_l1 N n (a, c, (i : Int)) = some r ∧ mi_Nots_l1 N n (a, c, (i : Int)) = some r := by
 intro n
 induction n with
 | zero => intro i c h; omega
 | succ n ih =>
  intro i c hn hi h0 h1
  rw [ms_Nots_l1, mi_Nots_l1]
  by_cases h : i < a.length
  ·simp only [lt_true h, cond_true, ix_nat h, oBs]
   have hst := step64 h (by simp only [maxLen]; omega)
   have hw : IntKind.wrap .i64 (c + 1) = c + 1 := wrap64 (by omega) (by omega)
   cases hk : (a[i].Kind == 11) <;> cases ho : (a[i].Op == 61) <;> simp only [cond_true, cond_false, oBs, ms_Nots_k2, mi_Nots_k2, hst, hw]
   all_goals first | exact ih (i + 1) c (by omega) (by omega) h0 (by omega) | exact ih (i + 1) (c + 1) (by omega) (by omega) (by omega) (by omega)
  ·simp only [lt_false h, cond_false]
   exact ⟨c, rfl, rfl⟩

end Go.Proofs.Tryz

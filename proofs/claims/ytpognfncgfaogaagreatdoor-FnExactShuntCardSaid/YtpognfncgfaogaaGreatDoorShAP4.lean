/-
 Plain lemmas on the models, part 4.
-/
import Derived.Test.YtpognfncgfaogaaGreatDoorShAP3
namespace Go.Proofs.Tryz
open Go.Av
set_option maxRecDepth 100000
set_option linter.unusedSimpArgs false
set_option linter.unusedVariables false


def PR (a : List SNode) (b : Nat) (l : List SNode) : Prop := ∀ (i : Nat) (x : SNode), l[i]? = some x → a[b + i]? = some x
theorem PR.left {a l1 l2 : List SNode} {b : Nat} (h : PR a b (l1 ++ l2)) : PR a b l1 := fun i x hx => h i x (by rw [List.getElem?_append_left (List.getElem?_eq_some_iff.1 hx).1]; exact hx)
theorem PR.right {a l1 l2 : List SNode} {b : Nat} (h : PR a b (l1 ++ l2)) : PR a (b + l1.length) l2 := fun i x hx => by
 have := h (l1.length + i) x (by rw [List.getElem?_append_right (by omega), Nat.add_sub_cancel_left]; exact hx)
 rw [Nat.add_assoc]
 exact this
mutual
theorem TA_lst {a : List SNode} : ∀ (t : STree) (b : Nat), PR a b (lst b t) → TA a t b (b + szT t - 1)
 | ⟨k, o, x, y, ks⟩, b, h => by
  rw [lst] at h
  have h1 := KA_lst ks b h.left
  have h2 := h.right 0 _ rfl
  rw [lsts_len, Nat.add_zero] at h2
  rw [szT, show b + (szTs ks + 1) - 1 = b + szTs ks by omega, TA]
  exact ⟨_, h2, rfl, rfl, rfl, rfl, h1⟩
theorem KA_lst {a : List SNode} : ∀ (ts : List STree) (b : Nat), PR a b (lsts b ts) → KA a ts (endsT b ts) b (b + szTs ts)
 | [], b, h => by
  rw [KA, endsT, szTs]
  exact ⟨rfl, rfl⟩
 | t :: ts, b, h => by
  rw [lsts] at h
  have hp := szT_pos t
  have h1 := TA_lst t b h.left
  have h2 := KA_lst ts (b + szT t) (by have := h.right; rw [lst_len] at this; exact this)
  rw [KA, endsT, szTs]
  refine ⟨b + szT t - 1, endsT (b + szT t) ts, ?_, by omega, by omega, h1, ?_⟩
  ·congr 1
   omega
  ·rw [show b + szT t - 1 + 1 = b + szT t by omega, ← Nat.add_assoc]
   exact h2
end
theorem TA_self (t : STree) : TA (lst 0 t) t 0 ((lst 0 t).length - 1) := by
 have := TA_lst (a := lst 0 t) t 0 (fun i x hx => by rw [Nat.zero_add]; exact hx)
 rw [Nat.zero_add] at this
 rw [lst_len]
 exact this

def smTok (t : SToken) : Prop := t.Text.length ≤ 1048576

theorem ends_ex' (k : Int) : ∃ b : Bool, ms_EndsOperand k = some b ∧ mi_EndsOperand k = some b := by
 have e : mi_EndsOperand k = ms_EndsOperand k := rfl
 rw [e]
 have hk : ∀ b : Bool, ms_EndsOperand_k1 b = some b := by intro b; cases b <;> rfl
 have hb : ∀ (c d : Bool) (X : Option Bool), (∃ b, X = some b) → ∃ b, (bif c then some d else X) = some b := by
  intro c d X hX
  cases c
  ·exact hX
  ·exact ⟨d, rfl⟩
 unfold ms_EndsOperand
 simp only [hk]
 obtain ⟨b, h⟩ := hb (k == 3) (k == 3) _ (hb (k == 4) (k == 4) _ (hb (k == 5) (k == 5) _ (hb (k == 6) (k == 6) _ (hb (k == 8) (k == 8) _ (hb (k == 33) (k == 33) _ (hb (k == 35) (k == 35) _ (hb (k == 51) (k == 51) _ ⟨(k == 52), rfl⟩)))))))
 exact ⟨b, h, h⟩

theorem impl_zero (N M : Nat) (a : List SToken) (ha : a.length ≤ 3000) (hN : 1048576 + 300 < N) (hs : ∀ t, t ∈ a → smTok t) (m i : Nat) (p : Int) (hm : 0 < m) (h : i < a.length) (h0 : a[i].Kind = 0) : mi_TokensOk_l1 N m (a, p, (i : Int)) = some false := by
 obtain ⟨m, rfl⟩ : ∃ k, m = k + 1 := ⟨m - 1, by omega⟩
 have ht := hs _ (List.getElem_mem h)
 unfold smTok at ht
 obtain ⟨b, _, b2, b3⟩ := tokok_ex N a[i] ht (by omega)
 have hb := b3 h0
 subst hb
 have hk : ∀ K, mi_TokensOk_k2 N (mi_TokensOk_l1 N m) (a, p, (i : Int), a[i], K) = some false := by
  intro K
  simp only [mi_TokensOk_k2]
  rw [b2]
  rfl
 have hst : IntKind.wrap .i64 ((i : Int) + 1) = ((i + 1 : Nat) : Int) := by rw [wrap64 (by omega) (by omega)]; omega
 rw [mi_TokensOk_l1, lt_true h, cond_true, ix_nat h, Option.bind_some, hst]
 by_cases h1 : i + 1 < a.length
 ·rw [lt_true h1, cond_true, ix_nat h1, Option.bind_some, hk]
 ·rw [lt_false h1, cond_false, hk]

theorem toks_l (N : Nat) (a : List SToken) (ha : a.length ≤ 3000) (hN : 1048576 + 300 < N) (hs : ∀ t, t ∈ a → smTok t) : ∀ (n m i : Nat) (p : Int), a.length - i < n → a.length - i < m → i ≤ a.length →
  ∃ b : Bool, ms_TokensOk_l1 N n (a, p, (i : Int)) = some b ∧ mi_TokensOk_l1 N m (a, p, (i : Int)) = some b := by
 intro n
 induction n with
 | zero => intro m i p h; omega
 | succ n ih =>
  intro m i p hn hm hi
  obtain ⟨m, rfl⟩ : ∃ k, m = k + 1 := ⟨m - 1, by omega⟩
  by_cases h : i < a.length
  ·have hst : IntKind.wrap .i64 ((i : Int) + 1) = ((i + 1 : Nat) : Int) := by rw [wrap64 (by omega) (by omega)]; omega
   have ht := hs _ (List.getElem_mem h)
   unfold smTok at ht
   obtain ⟨b, b1, b2, _⟩ := tokok_ex N a[i] ht (by omega)
   obtain ⟨e, e1, e2⟩ := ends_ex' p
   obtain ⟨q, q1, q2⟩ := ih m (i + 1) a[i].Kind (by omega) (by omega) (by omega)
   -- with the next one's kind K; L: is there a next one
   have main : ∀ (K : Int), (K ≠ 0 ∧ i + 1 < a.length) ∨ (K = 0 ∧ ¬ i + 1 < a.length) ∨ (K = 0 ∧ i + 1 < a.length ∧ q = false) →
     ∃ r : Bool, ms_TokensOk_k2 N (ms_TokensOk_l1 N n) (a, p, (i : Int), K) = some r ∧ mi_TokensOk_k2 N (mi_TokensOk_l1 N m) (a, p, (i : Int), a[i], K) = some r := by
    intro K hK
    simp only [ms_TokensOk_k2, mi_TokensOk_k2, mi_TokensOk_k3, ix_nat h, Option.bind_some, b1, b2, e1, e2, hst, q1, q2]
    have hL : decide (((i + 1 : Nat) : Int) < (a.length : Int)) = true ∧ (i + 1 < a.length) ∨ decide (((i + 1 : Nat) : Int) < (a.length : Int)) = false ∧ ¬ (i + 1 < a.length) := by
     by_cases h1 : i + 1 < a.length
     ·exact .inl ⟨lt_true h1, h1⟩
     ·exact .inr ⟨lt_false h1, h1⟩
    generalize (a[i].Kind == 7) = c7
    generalize hc2 : (a[i].Kind == 2) = c2
    generalize hc5 : (a[i].Kind == 5) = c5
    generalize hc58 : (a[i].Kind == 58) = c58
    generalize hc41 : (a[i].Kind == 41) = c41
    generalize (K != 32) = k32
    generalize hk1 : (K != 1) = k1
    have h25 : c2 = true → c5 = false ∧ c58 = false ∧ c41 = false := by
     intro h
     rw [h] at hc2
     have := eq_of_beq hc2
     rw [this] at hc5 hc58 hc41
     exact ⟨hc5.symm, hc58.symm, hc41.symm⟩
    rcases hK with ⟨k0, hl⟩ | ⟨k0, hl⟩ | ⟨k0, hl, hq⟩
    ·have hk0 : (K != 0) = true := by simpa using k0
     rcases hL with ⟨hL, _⟩ | ⟨_, hL⟩
     ·rw [hL, hk0]
      cases b <;> cases c7 <;> cases c2 <;> cases c5 <;> cases c58 <;> cases c41 <;> cases k32 <;> cases k1 <;> cases e <;> exact ⟨_, rfl, rfl⟩
     ·exact absurd hl hL
    ·have hk0 : (K != 0) = false := by rw [k0]; rfl
     rcases hL with ⟨_, hL⟩ | ⟨hL, _⟩
     ·exact absurd hL hl
     ·rw [hL, hk0]
      cases b <;> cases c7 <;> cases c2 <;> cases c5 <;> cases c58 <;> cases c41 <;> cases k32 <;> cases k1 <;> cases e <;> exact ⟨_, rfl, rfl⟩
    ·have hk0 : (K != 0) = false := by rw [k0]; rfl
     have hk1' : k1 = true := by rw [← hk1, k0]; rfl
     rcases hL with ⟨hL, _⟩ | ⟨_, hL⟩
     ·subst hk1'
      rw [hL, hk0, hq]
      cases b <;> cases c7 <;> cases c2 <;> cases c5 <;> cases c58 <;> cases c41 <;> cases k32 <;> cases e <;> first
       | exact ⟨_, rfl, rfl⟩
       | (exfalso; have := h25 rfl; simp at this)
     ·exact absurd hl hL
   rw [ms_TokensOk_l1, mi_TokensOk_l1, lt_true h, cond_true, cond_true, ix_nat h, Option.bind_some, hst]
   by_cases h1 : i + 1 < a.length
   ·rw [lt_true h1, cond_true, cond_true, ix_nat h1, Option.bind_some, Option.bind_some]
    refine main a[i + 1].Kind ?_
    by_cases hz : a[i + 1].Kind = 0
    ·have := impl_zero N N a ha hN hs m (i + 1) a[i].Kind (by omega) h1 hz
     rw [q2] at this
     exact .inr (.inr ⟨hz, h1, by simpa using this⟩)
    ·exact .inl ⟨hz, h1⟩
   ·rw [lt_false h1, cond_false, cond_false]
    exact main 0 (.inr (.inl ⟨rfl, h1⟩))
  ·rw [ms_TokensOk_l1, mi_TokensOk_l1, lt_false h]
   exact ⟨true, rfl, rfl⟩

theorem toks_ex (N : Nat) (a : List SToken) (hN : 1048576 + 300 < N) (hs : ∀ t, t ∈ a → smTok t) : ∃ b : Bool, ms_TokensOk N a = some b ∧ mi_TokensOk N a = some b ∧ (b = true → a.length ≤ 3000) := by
 unfold ms_TokensOk mi_TokensOk
 by_cases h : a.length ≤ 3000
 ·obtain ⟨b, h1, h2⟩ := toks_l N a h hN hs N N 0 0 (by omega) (by omega) (by omega)
  rw [decide_eq_false (by omega : ¬ (a.length : Int) > 3000)]
  exact ⟨b, h1, h2, fun _ => h⟩
 ·rw [decide_eq_true (by omega : (a.length : Int) > 3000)]
  exact ⟨false, rfl, rfl, fun h => by cases h⟩

theorem size_l (G : Nat) (t : STree) (ht : szT t ≤ 1000000) (ih : ∀ k, k ∈ t.kids → (scc2 G).mi_tree__size k = some (szT k : Int)) : ∀ (ts : List STree) (n j m : Nat), t.kids.drop j = ts → ts.length < n → j ≤ t.kids.length → m + szTs ts ≤ 1000000 →
  mi_tree__size_l1 G (scc2 G) n (t, (m : Int), (j : Int)) = some ((m + szTs ts : Nat) : Int)
 | [], n, j, m, hd, hn, hj, hm => by
  obtain ⟨n, rfl⟩ : ∃ q, n = q + 1 := ⟨n - 1, by simp at hn; omega⟩
  have hlt : ¬ j < t.kids.length := by
   intro h
   rw [drop_cons h] at hd
   cases hd
  rw [mi_tree__size_l1]
  simp only [lt_false hlt, cond_false, szTs, Nat.add_zero]
 | k :: ts, n, j, m, hd, hn, hj, hm => by
  simp only [List.length_cons] at hn
  rw [szTs] at hm
  obtain ⟨n, rfl⟩ : ∃ q, n = q + 1 := ⟨n - 1, by omega⟩
  have hlt : j < t.kids.length := by
   cases Nat.lt_or_ge j t.kids.length with
   | inl h => exact h
   | inr h => rw [List.drop_of_length_le h] at hd; cases hd
  have htl := szTs_len t.kids
  have hs := szT_eq t
  rw [drop_cons hlt] at hd
  injection hd with hd1 hd2
  rw [mi_tree__size_l1]
  simp only [lt_true hlt, cond_true, ix_nat hlt, Option.bind_some, hd1, ih k (by rw [← hd1]; exact List.getElem_mem hlt)]
  rw [wrap64 (n := (m : Int) + (szT k : Int)) (by omega) (by omega), step64 hlt (by simp only [maxLen]; omega)]
  have := size_l G t ht ih ts n (j + 1) (m + szT k) hd2 (by omega) (by omega) (by omega)
  refine Eq.trans this ?_
  rw [szTs, Nat.add_assoc]

theorem size_is : ∀ (t : STree) (N : Nat), 2 * szT t + 2 ≤ N → szT t ≤ 1000000 → (scc2 N).mi_tree__size t = some (szT t : Int) := by
 intro t
 induction t using STree.ind with
 | h t ih =>
  intro N hN hsz
  obtain ⟨M, rfl⟩ : ∃ M, N = M + 1 := ⟨N - 1, by omega⟩
  have hs := szT_eq t
  have htl := szTs_len t.kids
  have := size_l M t hsz (fun k hk => ih k hk M (by have := szTs_mem hk; omega) (by have := szTs_mem hk; omega)) t.kids M 0 1 rfl (by omega) (by omega) (by omega)
  refine Eq.trans this ?_
  rw [hs, Nat.add_comm]


def P0 (X : Option Int) : Prop := ∃ o, X = some o ∧ 0 ≤ o
theorem P0.bif (b : Bool) {X Y : Option Int} (hX : P0 X) (hY : P0 Y) : P0 (bif b then X else Y) := by cases b <;> assumption
theorem level_k4 (a : Int) (y : Bool) : P0 (ms_OpLevel_k4 (a, y)) := P0.bif _ ⟨10, rfl, by decide⟩ (P0.bif _ ⟨12, rfl, by decide⟩ ⟨0, rfl, by decide⟩)
theorem level_k3 (a : Int) (y : Bool) : P0 (ms_OpLevel_k3 (a, y)) := P0.bif _ ⟨9, rfl, by decide⟩ (P0.bif _ (level_k4 a _) (P0.bif _ (level_k4 a _) (level_k4 a _)))
theorem level_k2 (a : Int) (y : Bool) : P0 (ms_OpLevel_k2 (a, y)) := P0.bif _ ⟨7, rfl, by decide⟩ (P0.bif _ ⟨8, rfl, by decide⟩ (P0.bif _ (level_k3 a _) (level_k3 a _)))
theorem level_k1 (a : Int) (y : Bool) : P0 (ms_OpLevel_k1 (a, y)) := P0.bif _ ⟨6, rfl, by decide⟩ (P0.bif _ (level_k2 a _) (P0.bif _ (level_k2 a _) (P0.bif _ (level_k2 a _) (P0.bif _ (level_k2 a _) (P0.bif _ (level_k2 a _) (level_k2 a _))))))
theorem level_ex (a : Int) : ∃ o : Int, ms_OpLevel a = some o ∧ mi_OpLevel a = some o ∧ 0 ≤ o := by
 have e : mi_OpLevel a = ms_OpLevel a := rfl
 rw [e]
 have : P0 (ms_OpLevel a) := P0.bif _ ⟨3, rfl, by decide⟩ (P0.bif _ ⟨4, rfl, by decide⟩ (P0.bif _ (level_k1 a _) (level_k1 a _)))
 obtain ⟨o, h1, h2⟩ := this
 exact ⟨o, h1, h1, h2⟩

theorem shunts_l (N : Nat) (a : List SToken) (ha : a.length ≤ 1048576) (tb : Bool) (ht : ms_TokensOk N a = some tb) : ∀ (n m i d : Nat) (w : Bool), a.length - i < n → a.length - i < m → i ≤ a.length → d ≤ i →
  ∃ r : Bool, ms_Shunts_l1 N n (a, w, (d : Int), (i : Int)) = some (r && tb) ∧ mi_Shunts_l1 N m (a, (d : Int), !w, (i : Int)) = some r := by
 intro n
 induction n with
 | zero => intro m i d w h; omega
 | succ n ih =>
  intro m i d w hn hm hi hd
  obtain ⟨m, rfl⟩ : ∃ k, m = k + 1 := ⟨m - 1, by omega⟩
  rw [ms_Shunts_l1, mi_Shunts_l1]
  by_cases h : i < a.length
  ·have hst : IntKind.wrap .i64 ((i : Int) + 1) = ((i + 1 : Nat) : Int) := by rw [wrap64 (by omega) (by omega)]; omega
   have hup : IntKind.wrap .i64 ((d : Int) + 1) = ((d + 1 : Nat) : Int) := by rw [wrap64 (by omega) (by omega)]; omega
   have hdn : IntKind.wrap .i64 ((d : Int) - 1) = (d : Int) - 1 := wrap64 (by omega) (by omega)
   have dge : decide ((d : Int) < 0) = false := decide_eq_false (by omega)
   have dge1 : decide (((d + 1 : Nat) : Int) < 0) = false := decide_eq_false (by omega)
   obtain ⟨o, o1, o2, o3⟩ := level_ex a[i].Kind
   obtain ⟨r1, p1, p2⟩ := ih m (i + 1) (d + 1) w (by omega) (by omega) (by omega) (by omega)
   obtain ⟨r2, p3, p4⟩ := ih m (i + 1) d false (by omega) (by omega) (by omega) (by omega)
   obtain ⟨r3, p5, p6⟩ := ih m (i + 1) (d - 1) w (by omega) (by omega) (by omega) (by omega)
   obtain ⟨r4, p7, p8⟩ := ih m (i + 1) d true (by omega) (by omega) (by omega) (by omega)
   simp only [lt_true h, cond_true, ix_nat h, Option.bind_some, ms_Shunts_k2, mi_Shunts_k2, o1, o2, hst, hup, hdn, dge, dge1, cond_false, p1, p2, p3, p4, p7, p8, Bool.not_false, Bool.not_true] at p4 p8 ⊢
   simp only [p4, p8]
   have ho : decide (o > 0) = (o != 0) := by
    by_cases hz : o = 0
    ·subst hz; rfl
    ·rw [decide_eq_true (by omega)]
     symm
     simpa using hz
   have h33 : (a[i].Kind == 33) = true → (o != 0) = false := by
    intro e
    have := eq_of_beq e
    rw [this] at o1
    have h0 : ms_OpLevel 33 = some 0 := rfl
    rw [h0] at o1
    cases o1
    rfl
   rw [ho]
   by_cases hd0 : d = 0
   ·have g1 : decide ((d : Int) > 0) = false := decide_eq_false (by omega)
    have g2 : decide ((d : Int) - 1 < 0) = true := decide_eq_true (by omega)
    rw [g1, g2]
    generalize (a[i].Kind == 32) = c32
    generalize (a[i].Kind == 6) = c6
    generalize (a[i].Kind == 3) = c3
    generalize (a[i].Kind != 99) = c99
    revert h33
    generalize (a[i].Kind == 33) = c33
    generalize (o != 0) = oz
    intro h33
    cases w <;> cases c32 <;> cases c6 <;> cases c3 <;> cases c33 <;> cases c99 <;> cases oz <;> first
     | exact ⟨_, rfl, rfl⟩
     | exact ⟨false, rfl, rfl⟩
     | (exact absurd (h33 rfl) (by decide))
   ·have g1 : decide ((d : Int) > 0) = true := decide_eq_true (by omega)
    have g2 : decide ((d : Int) - 1 < 0) = false := decide_eq_false (by omega)
    have g3 : (d : Int) - 1 = ((d - 1 : Nat) : Int) := by omega
    rw [g1, g2, g3, p5, p6]
    generalize (a[i].Kind == 32) = c32
    generalize (a[i].Kind == 6) = c6
    generalize (a[i].Kind == 3) = c3
    generalize (a[i].Kind != 99) = c99
    revert h33
    generalize (a[i].Kind == 33) = c33
    generalize (o != 0) = oz
    intro h33
    cases w <;> cases c32 <;> cases c6 <;> cases c3 <;> cases c33 <;> cases c99 <;> cases oz <;> first
     | exact ⟨_, rfl, rfl⟩
     | exact ⟨false, rfl, rfl⟩
     | (exact absurd (h33 rfl) (by decide))
  ·rw [lt_false h, cond_false, cond_false, ht]
   refine ⟨!w && ((d : Int) == 0), ?_, ?_⟩
   ·cases w <;> cases ((d : Int) == 0) <;> rfl
   ·cases w <;> rfl

theorem same (N : Nat) (a : List SToken) (ha : a.length ≤ 1048576) (hN : 1048576 + 300 < N) (hs : ∀ t, t ∈ a → smTok t) : ∃ b : Bool, ms_Shunts N a = some b ∧ mi_Shunts N a = some b := by
 obtain ⟨tb, t1, t2, _⟩ := toks_ex N a hN hs
 obtain ⟨r, h1, h2⟩ := shunts_l N a ha tb t1 N N 0 0 true (by omega) (by omega) (by omega) (by omega)
 have h1' : ms_Shunts N a = some (r && tb) := h1
 have h2' : mi_Shunts_l1 N N (a, 0, false, 0) = some r := h2
 refine ⟨r && tb, h1', ?_⟩
 unfold mi_Shunts
 rw [t2, Option.bind_some]
 cases tb with
 | false => rw [Bool.and_false]; rfl
 | true => rw [Bool.not_true, cond_false, h2', Bool.and_true]

end Go.Proofs.Tryz

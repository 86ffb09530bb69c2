/-
 Plain lemmas on the models, part 10.
-/
import Derived.Test.YtjhcdnpbmppkkaaGreatDoorRxUP9
namespace Go.Proofs.Tryz
open Go.Av
set_option maxRecDepth 100000
set_option linter.unusedSimpArgs false
set_option linter.unusedVariables false

theorem smN_sm {L : List SNode} (h : SmS L) : ∀ x, x ∈ L → smNode x := fun x hx => by
 obtain ⟨h1, h2, h3⟩ := h x hx
 exact ⟨by omega, by omega, by omega⟩
theorem etext_ex (N : Nat) (L : List SNode) (hN : 2000001 + 20000 < N) (hL : SmS L) (hl : L.length ≤ 16) : ∃ s, ms_ExprText N L topP = some s ∧ s.length ≤ 8000 := by
 have hs := smN_sm hL
 obtain ⟨b, b1, b3⟩ := exprOkS_ex N L (by omega) hs
 have nil : ∃ s, ((ms_FlatText N []).bind fun r4 => some r4.1) = some s ∧ s.length ≤ 8000 := by
  have e : ms_FlatText N [] = some ([], false) := by
   unfold ms_FlatText
   rw [dspecOk_is N [] (by omega) (by simp) (fun x hx => by cases hx)]
   rfl
  rw [e]
  exact ⟨[], rfl, by simp⟩
 unfold ms_ExprText ms_ExprDoc
 rw [b1, posOk_is]
 simp only [Option.bind_some]
 cases b with
 | false => simp only [Bool.not_false, cond_true, Option.bind_some]; exact nil
 | true =>
  obtain ⟨hok, hsh, hE⟩ := b3 rfl
  obtain ⟨l1, l2, _, _, _, _, _, t, ht⟩ := shape_of hsh
  have hsz : szT t ≤ 400 := by have := ht.part.2.1; omega
  have hg := good_of N L (by omega) hsh hok t 0 _ ht (hE t ht)
  have hx := tx_of hs t 0 _ ht
  have h2 : ms_l18At N ⟨L, false⟩ ((L.length - 1 : Nat) : Int) topP = some (dl 0 (dcE t topP)) := spDE_of (spD L t hg hx) 0 (L.length - 1) N topP ht rfl (by omega) hsz
  have hp : posB topP = true := rfl
  simp only [hp, Bool.not_true, cond_false, Option.bind_some]
  rw [wrap64 (by omega) (by omega), show (L.length : Int) - 1 = ((L.length - 1 : Nat) : Int) by omega, h2, Option.bind_some, Option.bind_some]
  have h3 := dcE_sz t topP
  have hsm := dl_sm (dcE t topP) 0 (dx_docE t topP hx) (by omega)
  have hlen : (dl 0 (dcE t topP)).length = dz (dcE t topP) := dl_len _ _
  unfold ms_FlatText
  rw [dspecOk_is N _ (by omega) (by omega) hsm, Option.bind_some]
  cases docB (dl 0 (dcE t topP)) with
  | false => simp only [Bool.not_false, cond_true, Option.bind_some]; exact ⟨[], rfl, by simp⟩
  | true =>
   have h4 := flatS_l N (dl 0 (dcE t topP)) hsm (by omega) N 0 [] (by omega) (by omega) (by simp)
   rw [List.drop_zero] at h4
   have h4 : ms_FlatText_l1 N N (dl 0 (dcE t topP), 0, []) = _ := h4
   simp only [Bool.not_true, cond_false, h4, Option.bind_some]
   refine ⟨_, rfl, ?_⟩
   cases hf : flL (dl 0 (dcE t topP)) with
   | none => simp [finF]
   | some z =>
    have hsz2 : szT t ≤ 16 := by have := ht.part.2.1; omega
    have := flL_short _ z (dl_ts _ 0 (ds_docE t topP (ts_of (fun x hx => (hL x hx).2.1) t 0 _ ht))) hf
    simp only [Option.map_some, finF, List.nil_append]
    omega

section
set_option linter.unusedSectionVars false
variable (b : List UInt8) (hb : b.length ≤ 1048576) (N : Nat) (hN : 2100000 ≤ N)
include hb hN
def TL (m : Nat) (s : List UInt8) : Prop := s.length ≤ m
def sb (d : Nat) : Nat := pw d * 8300
omit hb hN in
theorem sb_succ (d : Nat) : sb (d + 1) = 4 * sb d ∧ 8300 ≤ sb d := by
 have := pw_pos d
 unfold sb
 rw [pw]
 omega
def SD (M d : Nat) : Prop := ∀ (deep i h : Int), deep ≤ (d : Int) → 0 ≤ deep → 0 ≤ i → i ≤ (b.length : Int) → Dr b (TL (sb d)) ((scc4 M).ms_l14Stmt deep b i h)
def BD (M d : Nat) : Prop := ∀ (deep i h : Int), deep ≤ (d : Int) → 0 ≤ deep → 0 ≤ i → i ≤ (b.length : Int) → Dr b (TL (2 * sb d + 100)) ((scc4 M).ms_l14Body deep b i h)
theorem body_l {M d : Nat} (hd4 : sb d ≤ 290000) (hS : SD b M d) (deep : Int) (h2 : deep ≤ (d : Int)) (h3 : 0 ≤ deep) : ∀ (n c : Nat) (i h : Int) (acc : List UInt8), c < n → c ≤ 2 → acc.length + c * (sb d + 40) ≤ 2 * sb d + 100 → 0 ≤ i → i ≤ (b.length : Int) →
  Dr b (TL (2 * sb d + 100)) (ms_l14Body_l1 M (scc4 M) b n (deep, acc, (c : Int), i, h)) := by
 intro n
 induction n with
 | zero => intro c i h acc hc; omega
 | succ n ih =>
  intro c i h acc hc hc2 ha h0 h1
  rw [ms_l14Body_l1]
  refine Dr.cond (fun hx => ?_) fun hx => ?_
  ·have hx := of_decide_eq_true hx
   obtain ⟨c, rfl⟩ : ∃ k, c = k + 1 := ⟨c - 1, by omega⟩
   rw [Nat.add_mul] at ha
   refine Dr.bind (pick_le b hb 20 _ i h h0 h1 (by decide) (by decide)) fun x i h hx h0 h1 => ?_
   dsimp only
   refine Dr.cat (by omega) fun e1 => Dr.bind (hS deep i h h2 h3 h0 h1) fun y i h hy h0 h1 => ?_
   dsimp only
   have hy : y.length ≤ sb d := hy
   refine Dr.cat (by omega) fun e2 => Dr.bind (pick_le b hb 20 _ i h h0 h1 (by decide) (by decide)) fun z i h hz h0 h1 => ?_
   dsimp only
   refine Dr.cat (by omega) fun e3 => ?_
   rw [wrap64 (by omega) (by omega), show ((c + 1 : Nat) : Int) - 1 = (c : Int) by omega]
   exact ih c i h _ (by omega) (by omega) (by omega) h0 h1
  ·exact Dr.some (show acc.length ≤ _ by omega) h0 h1
theorem bd_of {M d : Nat} (hM : 10 < M) (hd4 : sb d ≤ 290000) (hS : SD b M d) : BD b (M + 1) d := by
 intro deep i h h2 h3 h0 h1
 show Dr b _ (ms_l14Body_F M (scc4 M) deep b i h)
 unfold ms_l14Body_F
 refine Dr.bind (below_dr b hb _ i h h0 h1) fun r i h hr h0 h1 => ?_
 dsimp only
 obtain ⟨c, rfl⟩ := Int.eq_ofNat_of_zero_le hr.1
 have hc : c ≤ 2 := by rcases hr.2 with h | h <;> omega
 have := Nat.mul_le_mul_right (sb d + 40) hc
 exact body_l b hb N hN hd4 hS deep h2 h3 M c i h [] (by omega) hc (by simp only [List.length_nil]; omega) h0 h1

theorem stmt_k2 (M m : Nat) (hm : 8300 ≤ m) (R : Rec4) (r8 : List UInt8) (h8 : r8.length ≤ 8000) (y r i h : Int) (c : Bool) (h0 : 0 ≤ i) (h1 : i ≤ (b.length : Int)) : Dr b (TL m) (ms_l14Stmt_k2 M R b (r8, y, (r, i, h), c)) := by
 unfold ms_l14Stmt_k2
 dsimp only
 refine Dr.cond (fun _ => ?_) fun _ => Dr.cond (fun _ => ?_) fun _ => Dr.cond (fun _ => ?_) fun _ => Dr.some (show r8.length ≤ m by omega) h0 h1
 ·refine Dr.bind (pick_le b hb 20 _ i h h0 h1 (by decide) (by decide)) fun x i h hx h0 h1 => ?_
  dsimp only
  refine Dr.bind (pick_le b hb 20 _ i h h0 h1 (by decide) (by decide)) fun y i h hy h0 h1 => ?_
  dsimp only
  refine Dr.cat (by omega) fun e1 => Dr.cat (by omega) fun e2 => Dr.bind (pick_le b hb 20 _ i h h0 h1 (by decide) (by decide)) fun z i h hz h0 h1 => ?_
  dsimp only
  exact Dr.cat (by omega) fun e3 => Dr.some (show _ ≤ m by omega) h0 h1
 ·exact Dr.id3 ((pick_le b hb 20 _ i h h0 h1 (by decide) (by decide)).imp fun x hx => by show x.length ≤ m; omega)
 ·exact Dr.cat (by simp only [List.length_cons, List.length_nil]; omega) fun e1 => Dr.cat (by simp only [List.length_cons, List.length_nil] at e1 ⊢; omega) fun e2 => Dr.some (show _ ≤ m by simp only [List.length_cons, List.length_nil] at e1 e2; omega) h0 h1
theorem stmt_k1 (M m m' : Nat) (R : Rec4) (deep : Int) (r8 : List UInt8) (h8 : r8.length ≤ 8000) (y r i h : Int) (h0 : 0 ≤ i) (h1 : i ≤ (b.length : Int)) (hm : 3 * m' + 8200 ≤ m) (hm30 : 8300 ≤ m) (hml : m ≤ 290000)
  (hS : y < 6 → ∀ i h : Int, 0 ≤ i → i ≤ (b.length : Int) → Dr b (TL m') (R.ms_l14Stmt (IntKind.wrap .i64 (deep - 1)) b i h)) (hB : y < 6 → ∀ i h : Int, 0 ≤ i → i ≤ (b.length : Int) → Dr b (TL (2 * m' + 100)) (R.ms_l14Body (IntKind.wrap .i64 (deep - 1)) b i h)) :
  Dr b (TL m) (ms_l14Stmt_k1 M R b (deep, r8, (r, i, h), y)) := by
 unfold ms_l14Stmt_k1
 dsimp only
 refine Dr.cond (fun hc => ?_) fun _ => Dr.cond (fun hc => ?_) fun _ => Dr.cond (fun hc => ?_) fun _ => Dr.cond (fun hc => ?_) fun _ => Dr.cond (fun hc => ?_) fun _ => Dr.cond (fun hc => ?_) fun _ => ?_
 ·have hy : y < 6 := by have := beq_iff_eq.1 hc; omega
  refine Dr.cat (by simp only [List.length_cons, List.length_nil]; omega) fun e1 => Dr.cat (by simp only [List.length_cons, List.length_nil] at e1 ⊢; omega) fun e2 => Dr.bind (hS hy i h h0 h1) fun x i h hx h0 h1 => ?_
  dsimp only
  have hx : x.length ≤ m' := hx
  simp only [List.length_cons, List.length_nil] at e1 e2
  exact Dr.cat (by omega) fun e3 => Dr.some (show _ ≤ m by omega) h0 h1
 ·have hy : y < 6 := by have := beq_iff_eq.1 hc; omega
  refine Dr.cat (by simp only [List.length_cons, List.length_nil]; omega) fun e1 => Dr.cat (by simp only [List.length_cons, List.length_nil] at e1 ⊢; omega) fun e2 => Dr.bind (hB hy i h h0 h1) fun x i h hx h0 h1 => ?_
  dsimp only
  have hx : x.length ≤ 2 * m' + 100 := hx
  simp only [List.length_cons, List.length_nil] at e1 e2
  refine Dr.cat (by omega) fun e3 => Dr.cat (by simp only [List.length_cons, List.length_nil] at e3 ⊢; omega) fun e4 => Dr.bind (hS hy i h h0 h1) fun z i h hz h0 h1 => ?_
  dsimp only
  have hz : z.length ≤ m' := hz
  simp only [List.length_cons, List.length_nil] at e3 e4
  exact Dr.cat (by omega) fun e5 => Dr.some (show _ ≤ m by omega) h0 h1
 ·have hy : y < 6 := by have := beq_iff_eq.1 hc; omega
  refine Dr.cat (by simp only [List.length_cons, List.length_nil]; omega) fun e1 => Dr.cat (by simp only [List.length_cons, List.length_nil] at e1 ⊢; omega) fun e2 => Dr.bind (pick_le b hb 20 _ i h h0 h1 (by decide) (by decide)) fun x i h hx h0 h1 => ?_
  dsimp only
  simp only [List.length_cons, List.length_nil] at e1 e2
  refine Dr.cat (by omega) fun e3 => Dr.bind (hS hy i h h0 h1) fun z i h hz h0 h1 => ?_
  dsimp only
  have hz : z.length ≤ m' := hz
  exact Dr.cat (by omega) fun e5 => Dr.some (show _ ≤ m by omega) h0 h1
 ·have hy : y < 6 := by have := beq_iff_eq.1 hc; omega
  refine Dr.bind (hS hy i h h0 h1) fun z i h hz h0 h1 => ?_
  dsimp only
  have hz : z.length ≤ m' := hz
  refine Dr.cat (by simp only [List.length_cons, List.length_nil]; omega) fun e1 => Dr.bind (pick_le b hb 20 _ i h h0 h1 (by decide) (by decide)) fun x i h hx h0 h1 => ?_
  dsimp only
  simp only [List.length_cons, List.length_nil] at e1
  exact Dr.cat (by omega) fun e2 => Dr.cat (by simp only [List.length_cons, List.length_nil] at e2 ⊢; omega) fun e3 => Dr.cat (by simp only [List.length_cons, List.length_nil] at e2 e3 ⊢; omega) fun e4 => Dr.cat (by simp only [List.length_cons, List.length_nil] at e2 e3 e4 ⊢; omega) fun e5 => Dr.some (show _ ≤ m by simp only [List.length_cons, List.length_nil] at e2 e3 e4 e5; omega) h0 h1
 ·have hy : y < 6 := by have := beq_iff_eq.1 hc; omega
  refine Dr.bind (pick_le b hb 20 _ i h h0 h1 (by decide) (by decide)) fun x i h hx h0 h1 => ?_
  dsimp only
  refine Dr.cat (by simp only [List.length_cons, List.length_nil]; omega) fun e1 => Dr.cat (by simp only [List.length_cons, List.length_nil] at e1 ⊢; omega) fun e2 => Dr.bind (hS hy i h h0 h1) fun z i h hz h0 h1 => ?_
  dsimp only
  have hz : z.length ≤ m' := hz
  simp only [List.length_cons, List.length_nil] at e1 e2
  exact Dr.cat (by omega) fun e5 => Dr.some (show _ ≤ m by omega) h0 h1
 ·have hy : y < 6 := by have := beq_iff_eq.1 hc; omega
  refine Dr.bind (hB hy i h h0 h1) fun z i h hz h0 h1 => ?_
  dsimp only
  have hz : z.length ≤ 2 * m' + 100 := hz
  exact Dr.cat (by simp only [List.length_cons, List.length_nil]; omega) fun e1 => Dr.cat (by simp only [List.length_cons, List.length_nil] at e1 ⊢; omega) fun e2 => Dr.some (show _ ≤ m by simp only [List.length_cons, List.length_nil] at e1 e2; omega) h0 h1
 ·exact Dr.cond (fun _ => stmt_k2 b hb N hN M m hm30 R r8 h8 y r i h _ h0 h1) fun _ => stmt_k2 b hb N hN M m hm30 R r8 h8 y r i h _ h0 h1
theorem sd_step {M d : Nat} (hd2 : d ≤ 10) (hM : 2099000 ≤ M) (hml : sb d ≤ 290000) (hS : ∀ e, d = e + 1 → SD b M e ∧ BD b M e) : SD b (M + 1) d := by
 intro deep i h h2 h3 h0 h1
 have hs30 := (sb_succ d).2
 show Dr b _ (ms_l14Stmt_F M (scc4 M) deep b i h)
 unfold ms_l14Stmt_F
 refine Dr.bind (below_dr b hb _ i h h0 h1) fun r i h hr h0 h1 => ?_
 dsimp only
 have hr1 : r ≤ 1 := by rcases hr.2 with h | h <;> omega
 rw [wrap64 (by omega) (by omega)]
 refine Dr.bind (expr_dr b hb M 2 (by omega) (by omega) (1 + r) i h (by omega) (by omega) h0 h1) fun L i h hL h0 h1 => ?_
 dsimp only
 have hM' : 2100000 ≤ M + 1000 := by omega
 obtain ⟨s, s1, s2⟩ := etext_ex M L (by omega) hL.1 (Nat.le_trans hL.2.1 (by decide))
 have s1' : ms_ExprText M L ⟨1, false, false, false, false⟩ = some s := s1
 unfold ms_Top
 rw [Option.bind_some, s1', Option.bind_some]
 refine Dr.bind (below_dr b hb _ i h h0 h1) fun y i h hy h0 h1 => ?_
 dsimp only
 have k1 : ∀ z : Int, (z < 6 → 1 ≤ deep) → Dr b (TL (sb d)) (ms_l14Stmt_k1 M (scc4 M) b (deep, s, (y, i, h), z)) := fun z hz => by
  cases d with
  | zero => exact stmt_k1 b hb N hN M (sb 0) 0 _ deep s s2 z y i h h0 h1 (by omega) hs30 hml (fun h => by have := hz h; omega) (fun h => by have := hz h; omega)
  | succ e =>
   have h4 := sb_succ e
   refine stmt_k1 b hb N hN M (sb (e + 1)) (sb e) _ deep s s2 z y i h h0 h1 (by omega) hs30 hml (fun hl i h h0 h1 => ?_) (fun hl i h h0 h1 => ?_)
   ·have := hz hl
    rw [wrap64 (by omega) (by omega)]
    exact (hS e rfl).1 (deep - 1) i h (by omega) (by omega) h0 h1
   ·have := hz hl
    rw [wrap64 (by omega) (by omega)]
    exact (hS e rfl).2 (deep - 1) i h (by omega) (by omega) h0 h1
 cases hd0 : decide (deep ≤ 0) with
 | true =>
  simp only [cond_true, Option.bind_some]
  refine Dr.cond (fun _ => k1 6 fun h => by omega) fun hc => k1 y fun h => ?_
  have := of_decide_eq_false hc
  omega
 | false =>
  have := of_decide_eq_false hd0
  simp only [cond_false, Option.bind_some]
  exact k1 y fun _ => by omega
theorem sd_all : ∀ (d M : Nat), d ≤ 2 → 2099000 + 2 * d + 1 ≤ M → SD b M d := by
 intro d
 induction d using Nat.strongRecOn with
 | _ d ih =>
  intro M hd hM
  have hpb : sb d ≤ 290000 := by
   have : d = 0 ∨ d = 1 ∨ d = 2 := by omega
   rcases this with e | e | e <;> rw [e] <;> decide
  obtain ⟨M, rfl⟩ : ∃ m, M = m + 1 := ⟨M - 1, by omega⟩
  refine sd_step b hb N hN (by omega) (by omega) hpb fun e he => ?_
  subst he
  obtain ⟨M, rfl⟩ : ∃ m, M = m + 1 := ⟨M - 1, by omega⟩
  have hse : sb e ≤ 290000 := by have := sb_succ e; omega
  exact ⟨ih e (by omega) (M + 1) (by omega) (by omega), bd_of b hb N hN (by omega) hse (ih e (by omega) M (by omega) (by omega))⟩
theorem body_dr (i h : Int) (h0 : 0 ≤ i) (h1 : i ≤ (b.length : Int)) : Dr b (TL 270000) (ms_l14Body N 2 b i h) := by
 obtain ⟨M, rfl⟩ : ∃ m, N = m + 1 := ⟨N - 1, by omega⟩
 have e : 2 * sb 2 + 100 ≤ 270000 := by decide
 exact (bd_of b hb (M + 1) hN (by omega) (by decide) (sd_all b hb (M + 1) hN 2 M (by omega) (by omega)) 2 i h (by omega) (by omega) h0 h1).imp fun s hs => Nat.le_trans hs e
theorem item_dr (i h : Int) (h0 : 0 ≤ i) (h1 : i ≤ (b.length : Int)) : Dr b (TL 290000) (ms_l14Item N b i h) := by
 unfold ms_l14Item
 refine Dr.bind (body_dr b hb N hN i h h0 h1) fun z i h hz h0 h1 => ?_
 dsimp only
 have hz : z.length ≤ 270000 := hz
 refine Dr.cat (by simp only [List.length_cons, List.length_nil]; omega) fun e1 => Dr.cat (by simp only [List.length_cons, List.length_nil] at e1 ⊢; omega) fun e2 => Dr.bind (expr_dr b hb N 1 (by omega) (by omega) 1 i h (by omega) (by omega) h0 h1) fun L i h hL h0 h1 => ?_
 dsimp only
 simp only [List.length_cons, List.length_nil] at e1 e2
 obtain ⟨s, s1, s2⟩ := etext_ex N L (by omega) hL.1 (Nat.le_trans hL.2.1 (by decide))
 have s1' : ms_ExprText N L ⟨1, false, false, false, false⟩ = some s := s1
 unfold ms_Top
 rw [Option.bind_some, s1', Option.bind_some]
 refine Dr.bind (below_dr b hb _ i h h0 h1) fun y i h hy h0 h1 => ?_
 dsimp only
 refine Dr.cond (fun _ => ?_) fun _ => Dr.cond (fun _ => ?_) fun _ => Dr.cond (fun _ => ?_) fun _ => Dr.cond (fun _ => ?_) fun _ => Dr.cond (fun _ => ?_) fun _ => ?_
 ·refine Dr.bind (pick_le b hb 20 _ i h h0 h1 (by decide) (by decide)) fun x i h hx h0 h1 => ?_
  dsimp only
  exact Dr.cat (by omega) fun e5 => Dr.some (show _ ≤ 290000 by omega) h0 h1
 ·refine Dr.bind (pick_le b hb 20 _ i h h0 h1 (by decide) (by decide)) fun x i h hx h0 h1 => ?_
  dsimp only
  refine Dr.cat (by simp only [List.length_cons, List.length_nil]; omega) fun e3 => Dr.bind (pick_le b hb 20 _ i h h0 h1 (by decide) (by decide)) fun y i h hy h0 h1 => ?_
  dsimp only
  simp only [List.length_cons, List.length_nil] at e3
  refine Dr.cat (by omega) fun e4 => Dr.cat (by simp only [List.length_cons, List.length_nil]; omega) fun e5 => Dr.bind (pick_le b hb 20 _ i h h0 h1 (by decide) (by decide)) fun w i h hw h0 h1 => ?_
  dsimp only
  simp only [List.length_cons, List.length_nil] at e5
  exact Dr.cat (by omega) fun e6 => Dr.cat (by omega) fun e7 => Dr.some (show _ ≤ 290000 by omega) h0 h1
 ·exact Dr.some (show s.length ≤ 290000 by omega) h0 h1
 ·refine Dr.cat (by simp only [List.length_cons, List.length_nil]; omega) fun e3 => Dr.cat (by simp only [List.length_cons, List.length_nil] at e3 ⊢; omega) fun e4 => Dr.bind (pick_dr b hb (P := fun x => x.length ≤ 270003) _ i h h0 h1 (by simp) (fun x hx => ?_)) fun x i h hx h0 h1 => ?_
  ·simp only [List.mem_cons, List.not_mem_nil, or_false] at hx
   rcases hx with rfl | rfl
   ·simp
   ·omega
  ·dsimp only
   simp only [List.length_cons, List.length_nil] at e3
   exact Dr.cat (by omega) fun e6 => Dr.some (show _ ≤ 290000 by omega) h0 h1
 ·exact Dr.some (show _ ≤ 290000 by omega) h0 h1
 ·exact Dr.cat (by omega) fun e6 => Dr.some (show _ ≤ 290000 by omega) h0 h1
theorem source_l : ∀ (n c : Nat) (i h : Int) (acc : List UInt8), c < n → c ≤ 3 → acc.length + c * 290100 ≤ 880000 → 0 ≤ i → i ≤ (b.length : Int) → Dr b (TL 880000) (ms_l14Source_l1 N b n (acc, (c : Int), i, h)) := by
 intro n
 induction n with
 | zero => intro c i h acc hc; omega
 | succ n ih =>
  intro c i h acc hc hc2 ha h0 h1
  rw [ms_l14Source_l1]
  refine Dr.cond (fun hx => ?_) fun hx => ?_
  ·have hx := of_decide_eq_true hx
   obtain ⟨c, rfl⟩ : ∃ k, c = k + 1 := ⟨c - 1, by omega⟩
   refine Dr.bind (pick_le b hb 20 _ i h h0 h1 (by decide) (by decide)) fun x i h hx h0 h1 => ?_
   dsimp only
   refine Dr.cat (by omega) fun e1 => Dr.bind (item_dr b hb N hN i h h0 h1) fun y i h hy h0 h1 => ?_
   dsimp only
   have hy : y.length ≤ 290000 := hy
   refine Dr.cat (by omega) fun e2 => Dr.bind (pick_le b hb 20 _ i h h0 h1 (by decide) (by decide)) fun z i h hz h0 h1 => ?_
   dsimp only
   refine Dr.cat (by omega) fun e3 => ?_
   rw [wrap64 (by omega) (by omega), show ((c + 1 : Nat) : Int) - 1 = (c : Int) by omega]
   exact ih c i h _ (by omega) (by omega) (by omega) h0 h1
  ·exact Dr.some (show acc.length ≤ _ by omega) h0 h1
theorem source_dr (i h : Int) (h0 : 0 ≤ i) (h1 : i ≤ (b.length : Int)) : Dr b (TL 880000) (ms_l14Source N b i h) := by
 unfold ms_l14Source
 refine Dr.bind (below_dr b hb _ i h h0 h1) fun r i h hr h0 h1 => ?_
 dsimp only
 obtain ⟨c, rfl⟩ := Int.eq_ofNat_of_zero_le hr.1
 have hc : c ≤ 3 := by rcases hr.2 with h | h <;> omega
 exact source_l b hb N hN N c i h [] (by omega) hc (by simp only [List.length_nil]; omega) h0 h1
end

end Go.Proofs.Tryz

/-
 Plain lemmas on the models, part 10.
-/
import Derived.Test.YtkfcajnnbhahoaaGreatDoorLgFP9
namespace Go.Proofs.Tryz
open Go.Av
set_option maxRecDepth 100000
set_option linter.unusedSimpArgs false
set_option linter.unusedVariables false

section
set_option linter.unusedSectionVars false
variable (b : List UInt8) (hb : b.length ≤ 1048576) (N : Nat) (hN : 2100000 ≤ N)
include hb hN
omit hN in
theorem new_l : ∀ (n j : Nat) (h : Int), b.length - j < n → j ≤ b.length → ∃ r, ms_l1New_l1 N n (b, h, (j : Int)) = some (b, 0, r) := by
 intro n
 induction n with
 | zero => intro j h hn; omega
 | succ n ih =>
  intro j h hn hj
  rw [ms_l1New_l1]
  by_cases hlt : j < b.length
  ·have e : ix b (j : Int) = some b[j] := ix_nat hlt
   simp only [lt_true hlt, cond_true, oBs]
   cases decide ((j : Int) < 4000) with
   | true =>
    rw [cond_true, e, oBs, wrap64 (n := (j : Int) + 1) (by omega) (by omega), show (j : Int) + 1 = ((j + 1 : Nat) : Int) by omega]
    exact ih (j + 1) _ (by omega) (by omega)
   | false => exact ⟨_, rfl⟩
  ·simp only [lt_false hlt, cond_false, oBs]
   exact ⟨_, rfl⟩
theorem new_dr : ∃ h, ms_l1New N b = some (b, 0, h) := new_l b hb N N 0 _ (by omega) (by omega)
end

def AnyP (L : List SNode) : Prop := ∃ t, L = lst 0 t ∧ Gd 1500 12 t
def I64S (L : List SNode) : Prop := ∀ x, x ∈ L → ∀ k, k ∈ x.Kids → -9223372036854775808 ≤ k ∧ k ≤ 9223372036854775807
def SpoP (L : List SNode) : Prop := SmS L ∧ L.length ≤ 3000 ∧ I64S L
theorem lst_smS {m d : Nat} {t : STree} (h : Gd m d t) (hm : m ≤ 10000) : SmS (lst 0 t) := fun x hx => by
 have h1 := lst_kids t 0 x hx
 have h2 := h.2.2 x hx
 have := h.1
 exact ⟨by omega, h2.1, h2.2⟩
theorem AnyP.spo {L : List SNode} (h : AnyP L) : SpoP L ∧ 1 ≤ L.length ∧ L.length ≤ 1500 := by
 obtain ⟨t, rfl, ht⟩ := h
 have := szT_pos t
 have := ht.1
 exact ⟨⟨lst_smS ht (by omega), by rw [lst_len]; omega, fun x hx k hk => by have := lst_range t 0 x hx k hk; omega⟩, by rw [lst_len]; omega, by rw [lst_len]; omega⟩

section
set_option linter.unusedSectionVars false
variable (b : List UInt8) (hb : b.length ≤ 1048576) (N : Nat) (hN : 18446744073709551657 + 2097152 ≤ N)
include hb hN
theorem some_dr (i h : Int) (h0 : 0 ≤ i) (h1 : i ≤ (b.length : Int)) : Dr b (fun L => ∃ t, L = lst 0 t ∧ Gd 60 6 t) (ms_l7Some N b i h) := by
 obtain ⟨i, rfl⟩ := Int.eq_ofNat_of_zero_le h0
 have e : ms_l7Some N b (i : Int) h = _ := some_l b hb (N := N) (by omega) N i h (by omega)
 have hs := some_ends b N (by omega) i h (by omega)
 cases hl : Pg.loop b someP (fits 60) N i h with
 | none => rw [hl] at hs; cases hs
 | some r =>
  obtain ⟨g1, g2, g3⟩ := Pg.loop_ok b some_post (fits 60) N i h r (by omega) hl
  rw [e, hl]
  exact ⟨_, _, _, rfl, ⟨r.1, rfl, Nat.le_of_ble_eq_true g2, g1.2⟩, by omega, by omega⟩
theorem program_dr (i h : Int) (h0 : 0 ≤ i) (h1 : i ≤ (b.length : Int)) : Dr b (fun L => ∃ t, L = lst 0 t ∧ Gd 220 12 t) (ms_l7Program N b i h) := by
 obtain ⟨i, rfl⟩ := Int.eq_ofNat_of_zero_le h0
 have e : ms_l7Program N b (i : Int) h = _ := program_l1 b hb (N := N) (by omega) (by omega) N i h (by omega)
 have hs := program_ends b N (by omega) i h (by omega)
 cases hl : Pg.loop b programP (fits 220) N i h with
 | none => rw [hl] at hs; cases hs
 | some r =>
  obtain ⟨g1, g2, g3⟩ := Pg.loop_ok b program_post (fits 220) N i h r (by omega) hl
  rw [e, hl]
  exact ⟨_, _, _, rfl, ⟨r.1, rfl, Nat.le_of_ble_eq_true g2, g1.2⟩, by omega, by omega⟩
theorem stmt_dr (d : Nat) (hd : d ≤ 2) (i h : Int) (h0 : 0 ≤ i) (h1 : i ≤ (b.length : Int)) : Dr b (fun L => ∃ t, L = lst 0 t ∧ Gd 1500 9 t) (ms_l7Stmt N (d : Int) b i h) := by
 obtain ⟨i, rfl⟩ := Int.eq_ofNat_of_zero_le h0
 have hs : ss d ≤ 1500 := by
  have : d = 0 ∨ d = 1 ∨ d = 2 := by omega
  rcases this with rfl | rfl | rfl <;> decide
 exact Sm.dr (by omega) (stmt_sm b hb (N := N) (by omega) (d := d) (by omega) (by omega) (d : Int) rfl (by omega) i h (by omega)) (stmt_post d) fun t ht => ⟨t, rfl, ht.mono hs (by omega)⟩
theorem any_dr (i h : Int) (h0 : 0 ≤ i) (h1 : i ≤ (b.length : Int)) : Dr b AnyP (ms_l7Any N b i h) := by
 have k1 : ∀ (r : Int) (i h : Int) (y : Bool), 0 ≤ i → i ≤ (b.length : Int) → Dr b AnyP (ms_l7Any_k1 N b ((r, i, h), y)) := fun r i h y h0 h1 => by
  unfold ms_l7Any_k1
  dsimp only
  refine Dr.cond (fun _ => Dr.id3 ((some_dr b hb N hN i h h0 h1).imp ?_)) fun _ => Dr.cond (fun _ => Dr.id3 ((stmt_dr b hb N hN 2 (by omega) i h h0 h1).imp ?_)) fun _ => Dr.id3 ((program_dr b hb N hN i h h0 h1).imp ?_)
  ·rintro L ⟨t, rfl, ht⟩; exact ⟨t, rfl, ht.mono (by omega) (by omega)⟩
  ·rintro L ⟨t, rfl, ht⟩; exact ⟨t, rfl, ht.mono (by omega) (by omega)⟩
  ·rintro L ⟨t, rfl, ht⟩; exact ⟨t, rfl, ht.mono (by omega) (by omega)⟩
 unfold ms_l7Any
 refine Dr.bind (below_dr b hb _ i h h0 h1) fun r i h hr h0 h1 => ?_
 dsimp only
 exact Dr.cond (fun _ => k1 r i h _ h0 h1) fun _ => k1 r i h _ h0 h1
theorem upd_dr {α : Type} {Q : α → Prop} {L : List SNode} (hL : SpoP L) {k : Int} (h0 : 0 ≤ k) (h1 : k < (L.length : Int)) {x : SNode} (hx : (x.Kids.length ≤ 20000 ∧ x.Text.length ≤ 20 ∧ x.Other.length ≤ 20) ∧ ∀ k, k ∈ x.Kids → -9223372036854775808 ≤ k ∧ k ≤ 9223372036854775807) {f : List SNode → Option (α × Int × Int)} (hf : ∀ L', SpoP L' → L'.length = L.length → Dr b Q (f L')) : Dr b Q (Option.bind (upd L k x) f) := by
 obtain ⟨k, rfl⟩ := Int.eq_ofNat_of_zero_le h0
 have hk : k < L.length := by omega
 rw [upd_nat hk, oBs]
 refine hf _ ⟨fun y hy => ?_, by rw [List.length_set]; exact hL.2.1, fun y hy => ?_⟩ (List.length_set ..)
 ·rcases List.mem_or_eq_of_mem_set hy with h | h
  ·exact hL.1 y h
  ·rw [h]; exact hx.1
 ·rcases List.mem_or_eq_of_mem_set hy with h | h
  ·exact hL.2.2 y h
  ·rw [h]; exact hx.2
theorem ixn_dr {α : Type} {Q : α → Prop} {L : List SNode} (hL : SpoP L) {k : Int} (h0 : 0 ≤ k) (h1 : k < (L.length : Int)) {f : SNode → Option (α × Int × Int)} (hf : ∀ x, x ∈ L → Dr b Q (f x)) : Dr b Q (Option.bind (ix L k) f) := by
 obtain ⟨k, rfl⟩ := Int.eq_ofNat_of_zero_le h0
 have hk : k < L.length := by omega
 rw [ix_nat hk, oBs]
 exact hf _ (List.getElem_mem hk)
theorem bent_dr (i h : Int) (h0 : 0 ≤ i) (h1 : i ≤ (b.length : Int)) : Dr b SpoP (ms_l6Bent N b i h) := by
 unfold ms_l6Bent
 refine Dr.bind (any_dr b hb N hN i h h0 h1) fun L i h hL h0 h1 => ?_
 obtain ⟨hS, hl1, hl2⟩ := hL.spo
 dsimp only
 refine Dr.bind (below_dr b hb _ i h h0 h1) fun k i h hk h0 h1 => ?_
 have k0 := hk.1
 have k1 : k < (L.length : Int) := by omega
 dsimp only
 refine Dr.bind (below_dr b hb _ i h h0 h1) fun r i h hr h0 h1 => ?_
 dsimp only
 have fin : ∀ (L' : List SNode) (i h : Int), SpoP L' → 0 ≤ i → i ≤ (b.length : Int) → Dr b SpoP (ms_l6Bent_k1 N b (L', i, h)) := fun L' i h hL' h0 h1 => Dr.some hL' h0 h1
 refine Dr.cond (fun _ => ?_) fun _ => Dr.cond (fun _ => ?_) fun _ => Dr.cond (fun _ => ?_) fun _ => Dr.cond (fun _ => ?_) fun _ => fin L i h hS h0 h1
 ·obtain ⟨k, rfl⟩ := Int.eq_ofNat_of_zero_le k0
  have e : cut L 0 (k : Int) = some (L.take k) := by
   have := cut_nat (l := L) (a := 0) (b := k) (by omega) (by omega)
   rw [List.drop_zero, Nat.sub_zero] at this
   exact this
  rw [e, oBs]
  exact Dr.some ⟨fun x hx => hS.1 x (List.mem_of_mem_take hx), by have := hS.2.1; simp; omega, fun x hx => hS.2.2 x (List.mem_of_mem_take hx)⟩ h0 h1
 ·refine ixn_dr b hb N hN hS k0 k1 fun x hx => ?_
  refine Dr.bind (pickInt_dr b hb (P := fun o => -9223372036854775808 ≤ o ∧ o ≤ 9223372036854775807) _ i h h0 h1 (by show 0 < 4; decide) fun o ho => by
   simp only [List.mem_cons, List.not_mem_nil, or_false] at ho
   rcases ho with rfl | rfl | rfl | rfl <;> omega) fun o i h ho h0 h1 => ?_
  have hxs := hS.1 x hx
  have hxi := hS.2.2 x hx
  dsimp only
  obtain ⟨t, rfl, ht⟩ := hL
  have hkl := lst_kids t 0 x hx
  have := ht.1
  rw [app_some (by simp; omega), oBs]
  refine upd_dr b hb N hN hS k0 k1 ?_ fun L' hL' _ => fin L' i h hL' h0 h1
  exact ⟨⟨by simp; omega, hxs.2.1, hxs.2.2⟩, fun k hk => by
   rcases List.mem_append.1 hk with h | h
   ·exact hxi k h
   ·rw [List.mem_singleton.1 h]; exact ho⟩
 ·obtain ⟨k, rfl⟩ := Int.eq_ofNat_of_zero_le k0
  have hkn : k < L.length := by omega
  have ek : ix L (k : Int) = some L[k] := ix_nat hkn
  simp only [ek, oBs]
  refine Dr.cond (fun hc => ?_) fun _ => fin L i h hS h0 h1
  have h00 : 0 < L[k].Kids.length := by have := of_decide_eq_true hc; omega
  refine Dr.bind (below_dr b hb _ i h h0 h1) fun o i h ho h0 h1 => ?_
  rw [wrap64 (by omega) (by omega)] at ho
  have hxs := hS.1 _ (List.getElem_mem hkn)
  have hxi := hS.2.2 _ (List.getElem_mem hkn)
  have e1 : ix L[k].Kids 0 = some L[k].Kids[0] := ix_nat (i := 0) h00
  have e2 : ∀ v, upd L[k].Kids 0 v = some (L[k].Kids.set 0 v) := fun v => upd_nat (i := 0) h00
  dsimp only
  rw [e1, oBs, e2, oBs]
  refine upd_dr b hb N hN hS (by omega) k1 ?_ fun L' hL' _ => fin L' i h hL' h0 h1
  exact ⟨⟨by show (List.set _ _ _).length ≤ _; rw [List.length_set]; exact hxs.1, hxs.2.1, hxs.2.2⟩, fun k' hk' => by
   rcases List.mem_or_eq_of_mem_set hk' with h | h
   ·exact hxi k' h
   ·rw [h]
    obtain ⟨ho1, ho2⟩ := ho
    rw [wrap64 (by omega) (by omega)]
    omega⟩
 ·rw [app_some (by omega), oBs]
  exact Dr.some ⟨fun x hx => by
   rcases List.mem_append.1 hx with h | h <;> exact hS.1 x h, by rw [List.length_append]; omega, fun x hx => by
   rcases List.mem_append.1 hx with h | h <;> exact hS.2.2 x h⟩ h0 h1
theorem spoilt_dr (i h : Int) (h0 : 0 ≤ i) (h1 : i ≤ (b.length : Int)) : Dr b SpoP (ms_l7Spoilt N b i h) := by
 unfold ms_l7Spoilt
 refine Dr.bind (any_dr b hb N hN i h h0 h1) fun L i h hL h0 h1 => ?_
 obtain ⟨hS, hl1, hl2⟩ := hL.spo
 dsimp only
 refine Dr.bind (below_dr b hb _ i h h0 h1) fun k i h hk h0 h1 => ?_
 have k0 := hk.1
 have k1 : k < (L.length : Int) := by omega
 dsimp only
 refine Dr.bind (below_dr b hb _ i h h0 h1) fun r i h hr h0 h1 => ?_
 dsimp only
 have fin : ∀ (L' : List SNode) (i h : Int), SpoP L' → 0 ≤ i → i ≤ (b.length : Int) → Dr b SpoP (ms_l7Spoilt_k1 N b (L', i, h)) := fun L' i h hL' h0 h1 => Dr.some hL' h0 h1
 refine Dr.cond (fun _ => ?_) fun _ => Dr.cond (fun _ => ?_) fun _ => Dr.cond (fun _ => ?_) fun _ => Dr.cond (fun _ => ?_) fun _ => Dr.cond (fun _ => Dr.id3 (bent_dr b hb N hN i h h0 h1)) fun _ => fin L i h hS h0 h1
 ·refine Dr.bind (below_dr b hb _ i h h0 h1) fun o i h _ h0 h1 => ixn_dr b hb N hN hS k0 k1 fun x hx => ?_
  refine upd_dr b hb N hN hS k0 k1 ?_ fun L' hL' _ => fin L' i h hL' h0 h1
  exact ⟨hS.1 x hx, hS.2.2 x hx⟩
 ·refine Dr.bind (pickInt_dr b hb (P := fun _ => True) _ i h h0 h1 (by decide) fun _ _ => trivial) fun o i h _ h0 h1 => ixn_dr b hb N hN hS k0 k1 fun x hx => ?_
  refine upd_dr b hb N hN hS k0 k1 ?_ fun L' hL' _ => fin L' i h hL' h0 h1
  exact ⟨hS.1 x hx, hS.2.2 x hx⟩
 ·refine Dr.bind (pick_le b hb 20 _ i h h0 h1 (by decide) (by decide)) fun o i h ho h0 h1 => ixn_dr b hb N hN hS k0 k1 fun x hx => ?_
  refine upd_dr b hb N hN hS k0 k1 ?_ fun L' hL' _ => fin L' i h hL' h0 h1
  exact ⟨⟨(hS.1 x hx).1, ho, (hS.1 x hx).2.2⟩, hS.2.2 x hx⟩
 ·refine Dr.bind (pick_le b hb 20 _ i h h0 h1 (by decide) (by decide)) fun o i h ho h0 h1 => ixn_dr b hb N hN hS k0 k1 fun x hx => ?_
  refine upd_dr b hb N hN hS k0 k1 ?_ fun L' hL' _ => fin L' i h hL' h0 h1
  exact ⟨⟨(hS.1 x hx).1, (hS.1 x hx).2.1, ho⟩, hS.2.2 x hx⟩
end

end Go.Proofs.Tryz

/-
 Plain lemmas on the models, part 11.
-/
import Derived.Test.YtkfcajnnbhahoaaGreatDoorSwBP10
namespace Go.Proofs.Tryz
open Go.Av
set_option maxRecDepth 100000
set_option linter.unusedSimpArgs false
set_option linter.unusedVariables false

def TL (m : Nat) (s : List UInt8) : Prop := s.length ≤ m
section
set_option linter.unusedSectionVars false
variable (b : List UInt8) (hb : b.length ≤ 1048576) (N : Nat) (hN : 2100000 ≤ N)
include hb hN
theorem text_l (r2 : Int × Int × Int) : ∀ (n c : Nat) (i h : Int) (acc : List UInt8), c < n → acc.length + c ≤ 10 → 0 ≤ i → i ≤ (b.length : Int) → Dr b (TL 10) (ms_l1Text_l1 N b n (r2, (c : Int), i, h, acc)) := by
 intro n
 induction n with
 | zero => intro c i h acc hc; omega
 | succ n ih =>
  intro c i h acc hc ha h0 h1
  rw [ms_l1Text_l1]
  refine Dr.cond (fun hx => ?_) fun hx => ?_
  ·have hx := of_decide_eq_true hx
   obtain ⟨c, rfl⟩ : ∃ k, c = k + 1 := ⟨c - 1, by omega⟩
   refine Dr.bind (byte_dr b hb i h h0 h1) fun x i h hx h0 h1 => ?_
   have k3 : ∀ z, Dr b (TL 10) (ms_l1Text_k3 N b (ms_l1Text_l1 N b n) (r2, ((c + 1 : Nat) : Int), (x, i, h), acc, z)) := fun z => by
    unfold ms_l1Text_k3
    dsimp only
    rw [app_some (by simp; omega), Option.bind_some, wrap64 (by omega) (by omega), show ((c + 1 : Nat) : Int) - 1 = (c : Int) by omega]
    exact ih c i h _ (by omega) (by simp; omega) h0 h1
   have k2 : ∀ z, Dr b (TL 10) (ms_l1Text_k2 N b (ms_l1Text_l1 N b n) (r2, ((c + 1 : Nat) : Int), (x, i, h), acc, z)) := fun z => Dr.cond (fun _ => k3 _) fun _ => k3 _
   exact Dr.cond (fun _ => k2 _) fun _ => k2 _
  ·exact Dr.some (show acc.length ≤ _ by omega) h0 h1
theorem text_dr (i h : Int) (h0 : 0 ≤ i) (h1 : i ≤ (b.length : Int)) : Dr b (TL 10) (ms_l1Text N 3 b i h) := by
 unfold ms_l1Text
 refine Dr.bind (below_dr b hb _ i h h0 h1) fun r i h hr h0 h1 => Dr.bind (below_dr b hb _ i h h0 h1) fun q i h hq h0 h1 => ?_
 dsimp only
 obtain ⟨c, rfl⟩ := Int.eq_ofNat_of_zero_le hq.1
 have hw : IntKind.wrap .i64 (3 + 1) = 4 := rfl
 rw [hw] at hq
 have hc : c ≤ 3 := by rcases hq.2 with h | h <;> omega
 exact text_l b hb N hN _ N c i h [] (by omega) (by simp; omega) h0 h1
omit hb hN in
theorem cut_ex {l : List UInt8} {x y : Int} (h0 : 0 ≤ x) (h1 : x ≤ y) (h2 : y ≤ (l.length : Int)) : ∃ r, cut l x y = some r ∧ (r.length : Int) = y - x := by
 obtain ⟨m, rfl⟩ := Int.eq_ofNat_of_zero_le h0
 obtain ⟨n, rfl⟩ := Int.eq_ofNat_of_zero_le (show 0 ≤ y by omega)
 have e : cut l (m : Int) (n : Int) = some ((l.drop m).take (n - m)) := cut_nat (by omega) (by omega)
 refine ⟨_, e, ?_⟩
 rw [List.length_take, List.length_drop]
 omega
theorem spoil_dr (s : List UInt8) (m : Nat) (hs : s.length ≤ m) (hm : m ≤ 100000000000000) (i h : Int) (h0 : 0 ≤ i) (h1 : i ≤ (b.length : Int)) : Dr b (TL (m + 10)) (ms_l1Spoil N s b i h) := by
 unfold ms_l1Spoil
 refine Dr.cond (fun _ => Dr.id3 ((text_dr b hb N hN i h h0 h1).imp fun x (hx : x.length ≤ 10) => by show x.length ≤ _; omega)) fun hc => ?_
 have hpos : 0 < s.length := by
  have : ¬ (s.length : Int) = 0 := by simpa using hc
  omega
 refine Dr.bind (below_dr b hb _ i h h0 h1) fun r i h hr h0 h1 => Dr.bind (below_dr b hb _ i h h0 h1) fun q i h hq h0 h1 => ?_
 dsimp only
 have hr1 : 0 ≤ r := hr.1
 have hr2 : r < (s.length : Int) := by rcases hr.2 with h | h <;> omega
 have hw : IntKind.wrap .i64 (r + 1) = r + 1 := wrap64 (by omega) (by omega)
 obtain ⟨u, u1, u2⟩ := cut_ex (l := s) (x := 0) (y := r) (by omega) (by omega) (by omega)
 obtain ⟨v, v1, v2⟩ := cut_ex (l := s) (x := r + 1) (y := (s.length : Int)) (by omega) (by omega) (by omega)
 obtain ⟨w, w1, w2⟩ := cut_ex (l := s) (x := r) (y := (s.length : Int)) (by omega) (by omega) (by omega)
 simp only [hw, u1, v1, w1, Option.bind_some]
 refine Dr.cond (fun _ => ?_) fun _ => Dr.cond (fun _ => ?_) fun _ => Dr.cond (fun _ => ?_) fun _ => ?_
 ·exact Dr.cat (by omega) fun e => Dr.some (show _ ≤ m + 10 by omega) h0 h1
 ·refine Dr.bind (byte_dr b hb i h h0 h1) fun x i h hx h0 h1 => ?_
  dsimp only
  refine Dr.cat (by simp only [List.length_singleton]; omega) fun e => ?_
  simp only [List.length_singleton] at e
  exact Dr.cat (by omega) fun e2 => Dr.some (show _ ≤ m + 10 by omega) h0 h1
 ·exact Dr.some (show u.length ≤ m + 10 by omega) h0 h1
 ·obtain ⟨rn, rfl⟩ := Int.eq_ofNat_of_zero_le hr1
  have hrn : rn < s.length := by omega
  have e : ix s (rn : Int) = some s[rn] := ix_nat hrn
  rw [e, Option.bind_some]
  refine Dr.bind (below_dr b hb _ i h h0 h1) fun x i h hx h0 h1 => ?_
  dsimp only
  refine Dr.cat (by simp only [List.length_singleton]; omega) fun e => ?_
  simp only [List.length_singleton] at e
  exact Dr.cat (by omega) fun e2 => Dr.some (show _ ≤ m + 10 by omega) h0 h1
end

end Go.Proofs.Tryz

/-
 Plain lemmas on the models, part 8.
-/
import Derived.Test.YtjhcdnpbmppkkaaGreatDoorRxUP7
namespace Go.Proofs.Tryz
open Go.Av
set_option maxRecDepth 100000
set_option linter.unusedSimpArgs false
set_option linter.unusedVariables false

def docN (x : SDNode) : Bool :=
 bif (!(x.Kind == 1) && !(x.Text == [])) || (!(x.Kind == 4) && !(x.N == 0)) then false
 else bif x.Kind == 1 then !x.Text.contains 10 && ((x.Kids.length : Int) == 0)
 else bif x.Kind == 2 || x.Kind == 3 then ((x.Kids.length : Int) == 0)
 else bif x.Kind == 4 then (decide (x.N ≥ 0) && decide (x.N ≤ 40)) && ((x.Kids.length : Int) == 1)
 else bif x.Kind == 5 then ((x.Kids.length : Int) == 1) else (x.Kind == 6)

theorem docN_spec (N : Nat) (x : SDNode) (hN : x.Text.length < N) (ht : x.Text.length ≤ maxLen) : ms_l15Node N x = some (docN x) := by
 unfold ms_l15Node ms_l15Node_k1 docN
 simp only [plain4_is N _ hN ht, l1In_is, bne]
 generalize (x.Kind == 1) = k1
 generalize (x.Kind == 2) = k2
 generalize (x.Kind == 3) = k3
 generalize (x.Kind == 4) = k4
 generalize (x.Kind == 5) = k5
 generalize (x.Kind == 6) = k6
 generalize (x.Text == []) = t
 generalize (x.N == 0) = n
 cases k1 <;> cases k2 <;> cases k3 <;> cases k4 <;> cases k5 <;> cases t <;> cases n <;> first | rfl | (cases (decide (x.N ≥ 0)) <;> cases (decide (x.N ≤ 40)) <;> rfl) | (cases x.Text.contains 10 <;> rfl)

def kidsD (a : List SDNode) : List (List Int) := a.map (·.Kids)

theorem kidsD_get {a : List SDNode} {i : Nat} (h : i < a.length) : (kidsD a).drop i = a[i].Kids :: (kidsD a).drop (i + 1) := by
 have h' : i < (kidsD a).length := by simpa [kidsD] using h
 rw [drop_cons h']
 simp [kidsD]

theorem dspecStarts_l2 (N : Nat) (kb : (List SDNode × Int × List Int) → Option (List Int × Bool)) (a : List SDNode) (i : Nat) (hi : i < a.length) (hi2 : i ≤ 100000) (out : List Int) (ho : out.length = i) (hl : Low out) (hk : a[i].Kids.length ≤ 1048576) :
  ∀ (n j : Nat) (at_ : Int), j < n → j ≤ a[i].Kids.length → 0 ≤ at_ → at_ ≤ i →
   ms_l15Starts_l2 N kb n (a, (i : Int), out, at_, (j : Int) - 1) = match walk out at_ (a[i].Kids.take j).reverse with
    | none => some ([], false)
    | some s => kb (a, ((i + 1 : Nat) : Int), out ++ [s]) := by
 intro n
 induction n with
 | zero => intro j at_ h; omega
 | succ n ih =>
  intro j at_ hn hj h0 h1
  rw [ms_l15Starts_l2]
  cases j with
  | zero =>
   have : decide (((0 : Nat) : Int) - 1 ≥ 0) = false := by simp
   simp only [this, cond_false, List.take_zero, List.reverse_nil, walk]
   rw [app_some (by simp [ho]; omega), Option.bind_some, wrap64 (by omega) (by omega)]
   rfl
  | succ j =>
   have hjk : j < a[i].Kids.length := by omega
   rw [take_rev hjk]
   simp only [nat_ge, cond_true, pred_nat, ix_nat hi, ix_nat hjk, Option.bind_some]
   rw [wrap64 (n := at_ - 1) (by omega) (by omega)]
   unfold walk
   by_cases hc : a[i].Kids[j] ≠ at_ - 1
   ·have h2 : (a[i].Kids[j] != at_ - 1) = true := by simpa using hc
    rw [h2, cond_true, Option.bind_some, cond_true, if_pos (.inr hc)]
   ·have h2 : (a[i].Kids[j] != at_ - 1) = false := by simpa using hc
    rw [h2, cond_false, Option.bind_some]
    by_cases hz : at_ = 0
    ·have h3 : (at_ == 0) = true := by simpa using hz
     rw [h3, cond_true, if_pos (.inl hz)]
    ·have h3 : (at_ == 0) = false := by simpa using hz
     rw [h3, cond_false, if_neg (fun h => h.elim hz hc)]
     have hlt : (at_ - 1).toNat < out.length := by omega
     have hx : ix out (at_ - 1) = some out[(at_ - 1).toNat] := by
      have := ix_nat hlt
      rwa [Int.toNat_of_nonneg (by omega)] at this
     rw [hx, Option.bind_some, List.getElem?_eq_getElem hlt]
     have hlow := hl _ _ (List.getElem?_eq_getElem hlt)
     rw [wrap64 (by omega) (by omega)]
     exact ih j _ (by omega) (by omega) hlow.1 (by omega)

theorem dspecStarts_l1 (N : Nat) (a : List SDNode) (hN : 2000001 < N) (ha : a.length ≤ 100000) (hk : ∀ x, x ∈ a → x.Kids.length ≤ 1048576) : ∀ (n i : Nat) (out : List Int), a.length - i < n → i ≤ a.length → out.length = i → Low out →
  ms_l15Starts_l1 N n (a, (i : Int), out) = match starts ((kidsD a).drop i) out with
   | none => some ([], false)
   | some r => some (r, true) := by
 intro n
 induction n with
 | zero => intro i out h; omega
 | succ n ih =>
  intro i out hn hi ho hl
  rw [ms_l15Starts_l1]
  by_cases h : i < a.length
  ·have hkl := hk _ (List.getElem_mem h)
   simp only [lt_true h, cond_true, ix_nat h, Option.bind_some]
   rw [wrap64 (n := (a[i].Kids.length : Int) - 1) (by omega) (by omega), dspecStarts_l2 N _ a i h (by omega) out ho hl hkl N _ _ (by omega) (Nat.le_refl _) (by omega) (by omega), List.take_length, kidsD_get h, starts, ho]
   cases hw : walk out (i : Int) a[i].Kids.reverse with
   | none => rfl
   | some s =>
    have hs := walk_le hl _ (by omega) hw
    simp only [Option.bind_some]
    exact ih (i + 1) _ (by omega) (by omega) (by simp [ho]) (hl.snoc hs.1 (by omega))
  ·simp only [lt_false h, cond_false]
   have : (kidsD a).drop i = [] := drop_nil (by simpa [kidsD] using h)
   rw [this]
   rfl

def drootAt (r : List Int) (n : Nat) : Bool := r[n - 1]? == some 0

def docB (a : List SDNode) : Bool :=
 (decide (1 ≤ a.length) && decide (a.length ≤ 4000)) && a.all docN && (match starts (kidsD a) [] with
  | none => false
  | some r => drootAt r a.length)

theorem dspecOk_l (N : Nat) (a : List SDNode) (hN : 2000001 < N) (ha : a.length ≤ 4000) (h1 : 1 ≤ a.length) (hs : ∀ x, x ∈ a → smDNode x) : ∀ (n i : Nat), a.length - i < n → i ≤ a.length →
  ms_DocOk_l1 N n (a, (i : Int)) = some ((a.drop i).all docN && (match starts (kidsD a) [] with | none => false | some r => drootAt r a.length)) := by
 intro n
 induction n with
 | zero => intro i h; omega
 | succ n ih =>
  intro i hn hi
  rw [ms_DocOk_l1]
  by_cases h : i < a.length
  ·have hx := hs _ (List.getElem_mem h)
   unfold smDNode at hx
   simp only [lt_true h, cond_true, ix_nat h, Option.bind_some, docN_spec N a[i] (by omega) (by simp only [maxLen]; omega), step64 h (by simp only [maxLen]; omega)]
   rw [drop_cons h, List.all_cons]
   cases hd : docN a[i] with
   | false => rfl
   | true => simpa using ih (i + 1) (by omega) (by omega)
  ·simp only [lt_false h, cond_false]
   rw [drop_nil h]
   have := dspecStarts_l1 N a hN (by omega) (fun x hx => by have := hs x hx; unfold smDNode at this; omega) N 0 [] (by omega) (by omega) rfl (fun j s h => by simp at h)
   have e : ms_l15Starts N a = ms_l15Starts_l1 N N (a, ((0 : Nat) : Int), []) := rfl
   rw [e, this, List.drop_zero]
   cases hst : starts (kidsD a) [] with
   | none => rfl
   | some r =>
    obtain ⟨⟨m, hm, hml⟩, _, _⟩ := starts_spec _ (fun j s h => by simp at h) hst
    have hrl : r.length = a.length := by rw [hm]; simp [hml, kidsD]
    have hlt : a.length - 1 < r.length := by omega
    have hx : ix r ((a.length : Int) - 1) = some r[a.length - 1] := by
     have := ix_nat hlt
     rwa [show ((a.length - 1 : Nat) : Int) = (a.length : Int) - 1 by omega] at this
    simp only [Option.bind_some, cond_true]
    rw [wrap64 (n := (a.length : Int) - 1) (by omega) (by omega), hx, Option.bind_some, Option.bind_some]
    simp only [drootAt, List.getElem?_eq_getElem hlt, List.all_nil, Bool.true_and]
    congr 1

theorem dspecOk_is (N : Nat) (a : List SDNode) (hN : 2000001 < N) (ha : a.length ≤ 1048576) (hs : ∀ x, x ∈ a → smDNode x) : ms_DocOk N a = some (docB a) := by
 unfold ms_DocOk docB
 rw [l1In_is, Option.bind_some]
 by_cases h1 : 1 ≤ a.length
 ·by_cases h2 : a.length ≤ 4000
  ·have e1 : decide ((a.length : Int) ≥ 1) = true := by simp; omega
   have e2 : decide ((a.length : Int) ≤ 4000) = true := by simp; omega
   have := dspecOk_l N a hN h2 h1 hs N 0 (by omega) (by omega)
   rw [List.drop_zero] at this
   simp only [e1, e2, Bool.and_self, Bool.not_true, cond_false, h1, h2, decide_true, Bool.true_and]
   exact this
  ·have e2 : decide ((a.length : Int) ≤ 4000) = false := by simp; omega
   simp [e2, h2]
 ·have e1 : decide ((a.length : Int) ≥ 1) = false := by simp; omega
  simp [e1, h1]

def pieceD (x : SDNode) : List UInt8 := bif x.Kind == 1 then x.Text else bif x.Kind == 2 then [32] else []
def flL : List SDNode → Option (List UInt8)
 | [] => some []
 | x :: xs => bif x.Kind == 3 then none else (flL xs).map (pieceD x ++ ·)
def finF : Option (List UInt8) → List UInt8 × Bool
 | some z => (z, true)
 | none => ([], false)
theorem flatS_l (N : Nat) (a : List SDNode) (hs : ∀ x, x ∈ a → smDNode x) (ha : a.length ≤ 1048576) : ∀ (n i : Nat) (acc : List UInt8), a.length - i < n → i ≤ a.length → acc.length ≤ 2000001 * i →
  ms_FlatText_l1 N n (a, (i : Int), acc) = some (finF ((flL (a.drop i)).map (acc ++ ·))) := by
 intro n
 induction n with
 | zero => intro i acc h; omega
 | succ n ih =>
  intro i acc hn hi hacc
  rw [ms_FlatText_l1]
  by_cases h : i < a.length
  ·have hx := (hs _ (List.getElem_mem h)).1
   simp only [lt_true h, cond_true, ix_nat h, Option.bind_some]
   rw [drop_cons h, flL]
   have next : ∀ acc' : List UInt8, acc'.length ≤ 2000001 * (i + 1) → ms_FlatText_k2 N (ms_FlatText_l1 N n) (a, (i : Int), acc') = some (finF ((flL (a.drop (i + 1))).map (acc' ++ ·))) := fun acc' hl => by
    unfold ms_FlatText_k2
    simp only [step64 h (by simp only [maxLen]; omega)]
    exact ih (i + 1) acc' (by omega) (by omega) hl
   have mm : ∀ (o : Option (List UInt8)) (p : List UInt8), o.map ((acc ++ p) ++ ·) = (o.map (p ++ ·)).map (acc ++ ·) := fun o p => by cases o <;> simp
   cases h1 : a[i].Kind == 1 with
   | true =>
    have h3 : (a[i].Kind == 3) = false := by rw [beq_iff_eq] at h1; rw [h1]; rfl
    have hp : pieceD a[i] = a[i].Text := by unfold pieceD; rw [h1]; rfl
    rw [cond_true, app_some (by omega), Option.bind_some, next _ (by simp; omega), h3, cond_false, hp, mm]
   | false =>
    cases h2 : a[i].Kind == 2 with
    | true =>
     have h3 : (a[i].Kind == 3) = false := by rw [beq_iff_eq] at h2; rw [h2]; rfl
     have hp : pieceD a[i] = [32] := by unfold pieceD; rw [h1, h2]; rfl
     rw [cond_false, cond_true, app_some (by simp; omega), Option.bind_some, next _ (by simp; omega), h3, cond_false, hp, mm]
    | false =>
     have hp : pieceD a[i] = [] := by unfold pieceD; rw [h1, h2]; rfl
     rw [cond_false, cond_false]
     cases h3 : a[i].Kind == 3 with
     | true => rfl
     | false =>
      rw [cond_false, cond_false, next _ (by omega), hp]
      simp
  ·simp only [lt_false h, cond_false]
   rw [drop_nil h]
   simp [flL, finF]

end Go.Proofs.Tryz

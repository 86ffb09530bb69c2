/-
 Plain lemmas on the models, part 9.
-/
import Derived.Test.YtgnkbpkhbcmhlaaGreatDoorEtUP8
namespace Go.Proofs.Tryz
open Go.Av
set_option maxRecDepth 100000
set_option linter.unusedSimpArgs false
set_option linter.unusedVariables false

def docN (x : SDNode) : Bool :=
 bif (!(x.Kind == 1) && !(x.Text == [])) || (!(x.Kind == 4) && !(x.N == 0)) then false
 else bif x.Kind == 1 then !x.Text.contains 10 && ((x.Kids.length : Int) == 0)
 else bif x.Kind == 2 || x.Kind == 3 then ((x.Kids.length : Int) == 0)
 else bif x.Kind == 4 then (decide (x.N ≥ 0) && decide (x.N ≤ 40)) && ((x.Kids.length : Int) == 1)
 else bif x.Kind == 5 then ((x.Kids.length : Int) == 1) else (x.Kind == 6)

theorem docN_spec (N : Nat) (x : SDNode) (hN : x.Text.length < N) (ht : x.Text.length ≤ maxLen) : ms_l15Node N x = some (docN x) := by
 unfold ms_l15Node ms_l15Node_k1 docN
 simp only [plain4_is N _ hN ht, l1In_is, bne]
 generalize (x.Kind == 1) = k1
 generalize (x.Kind == 2) = k2
 generalize (x.Kind == 3) = k3
 generalize (x.Kind == 4) = k4
 generalize (x.Kind == 5) = k5
 generalize (x.Kind == 6) = k6
 generalize (x.Text == []) = t
 generalize (x.N == 0) = n
 cases k1 <;> cases k2 <;> cases k3 <;> cases k4 <;> cases k5 <;> cases t <;> cases n <;> first | rfl | (cases (decide (x.N ≥ 0)) <;> cases (decide (x.N ≤ 40)) <;> rfl) | (cases x.Text.contains 10 <;> rfl)

theorem docN_impl (x : SDNode) : mi_docNodeOk x = some (docN x) := by
 unfold mi_docNodeOk mi_docNodeOk_k1 docN
 simp only [contains_is, within_is, bne]
 generalize (x.Kind == 1) = k1
 generalize (x.Kind == 2) = k2
 generalize (x.Kind == 3) = k3
 generalize (x.Kind == 4) = k4
 generalize (x.Kind == 5) = k5
 generalize (x.Kind == 6) = k6
 generalize (x.Text == []) = t
 generalize (x.N == 0) = n
 cases k1 <;> cases k2 <;> cases k3 <;> cases k4 <;> cases k5 <;> cases t <;> cases n <;> first | rfl | (cases (decide (x.N ≥ 0)) <;> cases (decide (x.N ≤ 40)) <;> rfl) | (cases x.Text.contains 10 <;> rfl) | (cases k6 <;> rfl)

def kidsD (a : List SDNode) : List (List Int) := a.map (·.Kids)

theorem kidsD_get {a : List SDNode} {i : Nat} (h : i < a.length) : (kidsD a).drop i = a[i].Kids :: (kidsD a).drop (i + 1) := by
 have h' : i < (kidsD a).length := by simpa [kidsD] using h
 rw [drop_cons h']
 simp [kidsD]

theorem dspecStarts_l2 (N : Nat) (kb : (List SDNode × Int × List Int) → Option (List Int × Bool)) (a : List SDNode) (i : Nat) (hi : i < a.length) (hi2 : i ≤ 100000) (out : List Int) (ho : out.length = i) (hl : Low out) (hk : a[i].Kids.length ≤ 1048576) :
  ∀ (n j : Nat) (at_ : Int), j < n → j ≤ a[i].Kids.length → 0 ≤ at_ → at_ ≤ i →
   ms_l15Starts_l2 N kb n (a, (i : Int), out, at_, (j : Int) - 1) = match walk out at_ (a[i].Kids.take j).reverse with
    | none => some ([], false)
    | some s => kb (a, ((i + 1 : Nat) : Int), out ++ [s]) := by
 intro n
 induction n with
 | zero => intro j at_ h; omega
 | succ n ih =>
  intro j at_ hn hj h0 h1
  rw [ms_l15Starts_l2]
  cases j with
  | zero =>
   have : decide (((0 : Nat) : Int) - 1 ≥ 0) = false := by simp
   simp only [this, cond_false, List.take_zero, List.reverse_nil, walk]
   rw [app_some (by simp [ho]; omega), Option.bind_some, wrap64 (by omega) (by omega)]
   rfl
  | succ j =>
   have hjk : j < a[i].Kids.length := by omega
   rw [take_rev hjk]
   simp only [nat_ge, cond_true, pred_nat, ix_nat hi, ix_nat hjk, Option.bind_some]
   rw [wrap64 (n := at_ - 1) (by omega) (by omega)]
   unfold walk
   by_cases hc : a[i].Kids[j] ≠ at_ - 1
   ·have h2 : (a[i].Kids[j] != at_ - 1) = true := by simpa using hc
    rw [h2, cond_true, Option.bind_some, cond_true, if_pos (.inr hc)]
   ·have h2 : (a[i].Kids[j] != at_ - 1) = false := by simpa using hc
    rw [h2, cond_false, Option.bind_some]
    by_cases hz : at_ = 0
    ·have h3 : (at_ == 0) = true := by simpa using hz
     rw [h3, cond_true, if_pos (.inl hz)]
    ·have h3 : (at_ == 0) = false := by simpa using hz
     rw [h3, cond_false, if_neg (fun h => h.elim hz hc)]
     have hlt : (at_ - 1).toNat < out.length := by omega
     have hx : ix out (at_ - 1) = some out[(at_ - 1).toNat] := by
      have := ix_nat hlt
      rwa [Int.toNat_of_nonneg (by omega)] at this
     rw [hx, Option.bind_some, List.getElem?_eq_getElem hlt]
     have hlow := hl _ _ (List.getElem?_eq_getElem hlt)
     rw [wrap64 (by omega) (by omega)]
     exact ih j _ (by omega) (by omega) hlow.1 (by omega)

theorem dspecStarts_l1 (N : Nat) (a : List SDNode) (hN : 2000001 < N) (ha : a.length ≤ 100000) (hk : ∀ x, x ∈ a → x.Kids.length ≤ 1048576) : ∀ (n i : Nat) (out : List Int), a.length - i < n → i ≤ a.length → out.length = i → Low out →
  ms_l15Starts_l1 N n (a, (i : Int), out) = match starts ((kidsD a).drop i) out with
   | none => some ([], false)
   | some r => some (r, true) := by
 intro n
 induction n with
 | zero => intro i out h; omega
 | succ n ih =>
  intro i out hn hi ho hl
  rw [ms_l15Starts_l1]
  by_cases h : i < a.length
  ·have hkl := hk _ (List.getElem_mem h)
   simp only [lt_true h, cond_true, ix_nat h, Option.bind_some]
   rw [wrap64 (n := (a[i].Kids.length : Int) - 1) (by omega) (by omega), dspecStarts_l2 N _ a i h (by omega) out ho hl hkl N _ _ (by omega) (Nat.le_refl _) (by omega) (by omega), List.take_length, kidsD_get h, starts, ho]
   cases hw : walk out (i : Int) a[i].Kids.reverse with
   | none => rfl
   | some s =>
    have hs := walk_le hl _ (by omega) hw
    simp only [Option.bind_some]
    exact ih (i + 1) _ (by omega) (by omega) (by simp [ho]) (hl.snoc hs.1 (by omega))
  ·simp only [lt_false h, cond_false]
   have : (kidsD a).drop i = [] := drop_nil (by simpa [kidsD] using h)
   rw [this]
   rfl

theorem dimplStarts_l2 (N : Nat) (kb : (List SDNode × Int × List Int) → Option (List Int × Bool)) (a : List SDNode) (i : Nat) (hi : i < a.length) (hi2 : i ≤ 100000) (out st : List Int) (ho : out.length = i) (hst : st.take i = out) (hsl : st.length = a.length) (hl : Low out) (hk : a[i].Kids.length ≤ 1048576) :
  ∀ (n j : Nat) (at_ : Int), j < n → j ≤ a[i].Kids.length → 0 ≤ at_ → at_ ≤ i →
   mi_docStarts_l2 N kb n (a, (i : Int), st, a[i], at_ - 1, (j : Int) - 1) = match walk out at_ (a[i].Kids.take j).reverse with
    | none => some ([], false)
    | some s => kb (a, ((i + 1 : Nat) : Int), st.set i s) := by
 intro n
 induction n with
 | zero => intro j at_ h; omega
 | succ n ih =>
  intro j at_ hn hj h0 h1
  have hil : i < st.length := by omega
  rw [mi_docStarts_l2]
  cases j with
  | zero =>
   have : decide (((0 : Nat) : Int) - 1 ≥ 0) = false := by simp
   simp only [this, cond_false, List.take_zero, List.reverse_nil, walk]
   rw [ix_nat hil, Option.bind_some, wrap64 (n := at_ - 1 + 1) (by omega) (by omega), upd_nat hil, Option.bind_some, wrap64 (by omega) (by omega), Int.sub_add_cancel]
   rfl
  | succ j =>
   have hjk : j < a[i].Kids.length := by omega
   rw [take_rev hjk]
   simp only [nat_ge, cond_true, pred_nat, ix_nat hjk, Option.bind_some]
   unfold walk
   by_cases hz : at_ = 0
   ·have h3 : decide (at_ - 1 < 0) = true := by simp; omega
    rw [h3, cond_true, Option.bind_some, cond_true, if_pos (.inl hz)]
   ·have h3 : decide (at_ - 1 < 0) = false := by simp; omega
    rw [h3, cond_false, Option.bind_some]
    by_cases hc : a[i].Kids[j] ≠ at_ - 1
    ·have h2 : (a[i].Kids[j] != at_ - 1) = true := by simpa using hc
     rw [h2, cond_true, if_pos (.inr hc)]
    ·have h2 : (a[i].Kids[j] != at_ - 1) = false := by simpa using hc
     rw [h2, cond_false, if_neg (fun h => h.elim hz hc)]
     have hlt : (at_ - 1).toNat < out.length := by omega
     have hlt2 : (at_ - 1).toNat < st.length := by omega
     have hx : ix st (at_ - 1) = some st[(at_ - 1).toNat] := by
      have := ix_nat hlt2
      rwa [Int.toNat_of_nonneg (by omega)] at this
     have he : out[(at_ - 1).toNat]? = some st[(at_ - 1).toNat] := by
      rw [← hst, List.getElem?_take, if_pos (by omega), List.getElem?_eq_getElem hlt2]
     rw [hx, Option.bind_some, he]
     have hlow := hl _ _ he
     rw [wrap64 (n := st[(at_ - 1).toNat] - 1) (by omega) (by omega), wrap64 (by omega) (by omega)]
     exact ih j _ (by omega) (by omega) hlow.1 (by omega)

def drootAt (r : List Int) (n : Nat) : Bool := r[n - 1]? == some 0

theorem dimplStarts_l1 (N : Nat) (a : List SDNode) (hN : 2000001 < N) (ha : a.length ≤ 100000) (hk : ∀ x, x ∈ a → x.Kids.length ≤ 1048576) (h1 : 1 ≤ a.length) : ∀ (n i : Nat) (out st : List Int), a.length - i < n → i ≤ a.length → out.length = i → st.take i = out → st.length = a.length → Low out →
  ∃ st', mi_docStarts_l1 N n (a, (i : Int), st) = some (st', match starts ((kidsD a).drop i) out with
   | none => false
   | some r => drootAt r a.length) := by
 intro n
 induction n with
 | zero => intro i out st h; omega
 | succ n ih =>
  intro i out st hn hi ho hst hsl hl
  rw [mi_docStarts_l1]
  by_cases h : i < a.length
  ·have hkl := hk _ (List.getElem_mem h)
   simp only [lt_true h, cond_true, ix_nat h, Option.bind_some]
   rw [wrap64 (n := (a[i].Kids.length : Int) - 1) (by omega) (by omega), wrap64 (n := (i : Int) - 1) (by omega) (by omega), dimplStarts_l2 N _ a i h (by omega) out st ho hst hsl hl hkl N _ _ (by omega) (Nat.le_refl _) (by omega) (by omega), List.take_length, kidsD_get h, starts, ho]
   cases hw : walk out (i : Int) a[i].Kids.reverse with
   | none => exact ⟨[], rfl⟩
   | some s =>
    have hs := walk_le hl _ (by omega) hw
    simp only [Option.bind_some]
    refine ih (i + 1) _ _ (by omega) (by omega) (by simp [ho]) ?_ (by simpa using hsl) (hl.snoc hs.1 (by omega))
    rw [List.take_add_one, List.take_set_of_le (Nat.le_refl i), hst, List.getElem?_set_self (by omega)]
    rfl
  ·simp only [lt_false h, cond_false]
   have : (kidsD a).drop i = [] := drop_nil (by simpa [kidsD] using h)
   rw [this]
   have hia : i = a.length := by omega
   have hso : st = out := by rw [← hst, List.take_of_length_le (by omega)]
   have hlt : a.length - 1 < st.length := by omega
   have hx : ix st ((a.length : Int) - 1) = some st[a.length - 1] := by
    have := ix_nat hlt
    rwa [show ((a.length - 1 : Nat) : Int) = (a.length : Int) - 1 by omega] at this
   rw [wrap64 (n := (a.length : Int) - 1) (by omega) (by omega), hx, Option.bind_some]
   refine ⟨st, ?_⟩
   simp only [starts, drootAt, ← hso, List.getElem?_eq_getElem hlt]
   congr 2

def docB (a : List SDNode) : Bool :=
 (decide (1 ≤ a.length) && decide (a.length ≤ 4000)) && a.all docN && (match starts (kidsD a) [] with
  | none => false
  | some r => drootAt r a.length)

theorem dspecOk_l (N : Nat) (a : List SDNode) (hN : 2000001 < N) (ha : a.length ≤ 4000) (h1 : 1 ≤ a.length) (hs : ∀ x, x ∈ a → smDNode x) : ∀ (n i : Nat), a.length - i < n → i ≤ a.length →
  ms_DocOk_l1 N n (a, (i : Int)) = some ((a.drop i).all docN && (match starts (kidsD a) [] with | none => false | some r => drootAt r a.length)) := by
 intro n
 induction n with
 | zero => intro i h; omega
 | succ n ih =>
  intro i hn hi
  rw [ms_DocOk_l1]
  by_cases h : i < a.length
  ·have hx := hs _ (List.getElem_mem h)
   unfold smDNode at hx
   simp only [lt_true h, cond_true, ix_nat h, Option.bind_some, docN_spec N a[i] (by omega) (by simp only [maxLen]; omega), step64 h (by simp only [maxLen]; omega)]
   rw [drop_cons h, List.all_cons]
   cases hd : docN a[i] with
   | false => rfl
   | true => simpa using ih (i + 1) (by omega) (by omega)
  ·simp only [lt_false h, cond_false]
   rw [drop_nil h]
   have := dspecStarts_l1 N a hN (by omega) (fun x hx => by have := hs x hx; unfold smDNode at this; omega) N 0 [] (by omega) (by omega) rfl (fun j s h => by simp at h)
   have e : ms_l15Starts N a = ms_l15Starts_l1 N N (a, ((0 : Nat) : Int), []) := rfl
   rw [e, this, List.drop_zero]
   cases hst : starts (kidsD a) [] with
   | none => rfl
   | some r =>
    obtain ⟨⟨m, hm, hml⟩, _, _⟩ := starts_spec _ (fun j s h => by simp at h) hst
    have hrl : r.length = a.length := by rw [hm]; simp [hml, kidsD]
    have hlt : a.length - 1 < r.length := by omega
    have hx : ix r ((a.length : Int) - 1) = some r[a.length - 1] := by
     have := ix_nat hlt
     rwa [show ((a.length - 1 : Nat) : Int) = (a.length : Int) - 1 by omega] at this
    simp only [Option.bind_some, cond_true]
    rw [wrap64 (n := (a.length : Int) - 1) (by omega) (by omega), hx, Option.bind_some, Option.bind_some]
    simp only [drootAt, List.getElem?_eq_getElem hlt, List.all_nil, Bool.true_and]
    congr 1

theorem dspecOk_is (N : Nat) (a : List SDNode) (hN : 2000001 < N) (ha : a.length ≤ 1048576) (hs : ∀ x, x ∈ a → smDNode x) : ms_DocOk N a = some (docB a) := by
 unfold ms_DocOk docB
 rw [l1In_is, Option.bind_some]
 by_cases h1 : 1 ≤ a.length
 ·by_cases h2 : a.length ≤ 4000
  ·have e1 : decide ((a.length : Int) ≥ 1) = true := by simp; omega
   have e2 : decide ((a.length : Int) ≤ 4000) = true := by simp; omega
   have := dspecOk_l N a hN h2 h1 hs N 0 (by omega) (by omega)
   rw [List.drop_zero] at this
   simp only [e1, e2, Bool.and_self, Bool.not_true, cond_false, h1, h2, decide_true, Bool.true_and]
   exact this
  ·have e2 : decide ((a.length : Int) ≤ 4000) = false := by simp; omega
   simp [e2, h2]
 ·have e1 : decide ((a.length : Int) ≥ 1) = false := by simp; omega
  simp [e1, h1]

theorem dimplOk_l (N : Nat) (a : List SDNode) (hN : 2000001 < N) (ha : a.length ≤ 1048576) (hs : ∀ x, x ∈ a → smDNode x) : ∀ (n i : Nat), a.length - i < n → i ≤ a.length →
  mi_DocOk_l1 N n (a, (i : Int)) = some ((decide (1 ≤ a.length) && decide (a.length ≤ 4000)) && (a.drop i).all docN && (match starts (kidsD a) [] with | none => false | some r => drootAt r a.length)) := by
 intro n
 induction n with
 | zero => intro i h; omega
 | succ n ih =>
  intro i hn hi
  rw [mi_DocOk_l1]
  by_cases h : i < a.length
  ·simp only [lt_true h, cond_true, ix_nat h, Option.bind_some, docN_impl, step64 h (by simp only [maxLen]; omega)]
   rw [drop_cons h, List.all_cons]
   cases hd : docN a[i] with
   | false => simp
   | true => simpa using ih (i + 1) (by omega) (by omega)
  ·simp only [lt_false h, cond_false]
   rw [drop_nil h]
   unfold mi_docStarts
   rw [within_is, Option.bind_some]
   by_cases h1 : 1 ≤ a.length
   ·by_cases h2 : a.length ≤ 4000
    ·have e1 : decide ((a.length : Int) ≥ 1) = true := by simp; omega
     have e2 : decide ((a.length : Int) ≤ 4000) = true := by simp; omega
     obtain ⟨st', hst'⟩ := dimplStarts_l1 N a hN (by omega) (fun x hx => by have := hs x hx; unfold smDNode at this; omega) h1 N 0 [] (List.replicate a.length 0) (by omega) (by omega) rfl (by simp) (by simp) (fun j s h => by simp at h)
     rw [List.drop_zero] at hst'
     simp only [e1, e2, Bool.and_self, Bool.not_true, cond_false]
     rw [mk_some (by omega) (by simp only [maxLen]; omega), Option.bind_some]
     have hst2 : mi_docStarts_l1 N N (a, 0, List.replicate a.length 0) = _ := hst'
     rw [hst2]
     simp [h1, h2]
    ·have e2 : decide ((a.length : Int) ≤ 4000) = false := by simp; omega
     simp [e2, h2]
   ·have e1 : decide ((a.length : Int) ≥ 1) = false := by simp; omega
    simp [e1, h1]

theorem dimplOk_is (N : Nat) (a : List SDNode) (hN : 2000001 < N) (ha : a.length ≤ 1048576) (hs : ∀ x, x ∈ a → smDNode x) : mi_DocOk N a = some (docB a) := by
 have := dimplOk_l N a hN ha hs N 0 (by omega) (by omega)
 rw [List.drop_zero] at this
 exact this

theorem docB_shape {a : List SDNode} (h : docB a = true) : (1 ≤ a.length ∧ a.length ≤ 4000) ∧ ∃ r, starts (kidsD a) [] = some r ∧ r.length = a.length ∧ Low r ∧ drootAt r a.length = true ∧
  ∀ (i : Nat) (hi : i < a.length), ∃ s, r[i]? = some s ∧ Go.Av.Kids r s (i : Int) a[i].Kids := by
 unfold docB at h
 simp only [Bool.and_eq_true, decide_eq_true_eq] at h
 obtain ⟨⟨h1, _⟩, h2⟩ := h
 refine ⟨h1, ?_⟩
 cases hst : starts (kidsD a) [] with
 | none => rw [hst] at h2; cases h2
 | some r =>
  rw [hst] at h2
  obtain ⟨⟨m, hm, hml⟩, hl, hk⟩ := starts_spec _ (fun j s h => by simp at h) hst
  refine ⟨r, rfl, by rw [hm]; simp [hml, kidsD], hl, h2, fun i hi => ?_⟩
  obtain ⟨s, h3, h4⟩ := hk i a[i].Kids (by simp [kidsD, hi])
  exact ⟨s, by simpa using h3, by simpa using h4⟩

def pieceD (x : SDNode) : List UInt8 := bif x.Kind == 1 then x.Text else bif x.Kind == 2 then [32] else []
def flL : List SDNode → Option (List UInt8)
 | [] => some []
 | x :: xs => bif x.Kind == 3 then none else (flL xs).map (pieceD x ++ ·)
def finF : Option (List UInt8) → List UInt8 × Bool
 | some z => (z, true)
 | none => ([], false)
theorem flL_app : ∀ (a b : List SDNode), flL (a ++ b) = (flL a).bind fun x => (flL b).map (x ++ ·)
 | [], b => by simp [flL]
 | x :: a, b => by
  rw [List.cons_append, flL, flL, flL_app a b]
  cases x.Kind == 3
  ·cases flL a <;> cases flL b <;> simp
  ·rfl
theorem flL_len : ∀ (a : List SDNode) (z : List UInt8), (∀ x, x ∈ a → smDNode x) → flL a = some z → z.length ≤ 2000001 * a.length
 | [], z, _, h => by cases h; simp
 | x :: a, z, hs, h => by
  rw [flL] at h
  have hx := (hs x (by simp)).1
  cases hk : x.Kind == 3 with
  | true => rw [hk] at h; cases h
  | false =>
   rw [hk, cond_false] at h
   cases hf : flL a with
   | none => rw [hf] at h; cases h
   | some y =>
    rw [hf] at h
    cases h
    have := flL_len a y (fun u hu => hs u (by simp [hu])) hf
    have hp : (pieceD x).length ≤ 2000001 := by
     unfold pieceD
     cases x.Kind == 1 <;> cases x.Kind == 2 <;> simp <;> omega
    simp only [List.length_append, List.length_cons]
    omega

theorem flatS_l (N : Nat) (a : List SDNode) (hs : ∀ x, x ∈ a → smDNode x) (ha : a.length ≤ 1048576) : ∀ (n i : Nat) (acc : List UInt8), a.length - i < n → i ≤ a.length → acc.length ≤ 2000001 * i →
  ms_FlatText_l1 N n (a, (i : Int), acc) = some (finF ((flL (a.drop i)).map (acc ++ ·))) := by
 intro n
 induction n with
 | zero => intro i acc h; omega
 | succ n ih =>
  intro i acc hn hi hacc
  rw [ms_FlatText_l1]
  by_cases h : i < a.length
  ·have hx := (hs _ (List.getElem_mem h)).1
   simp only [lt_true h, cond_true, ix_nat h, Option.bind_some]
   rw [drop_cons h, flL]
   have next : ∀ acc' : List UInt8, acc'.length ≤ 2000001 * (i + 1) → ms_FlatText_k2 N (ms_FlatText_l1 N n) (a, (i : Int), acc') = some (finF ((flL (a.drop (i + 1))).map (acc' ++ ·))) := fun acc' hl => by
    unfold ms_FlatText_k2
    simp only [step64 h (by simp only [maxLen]; omega)]
    exact ih (i + 1) acc' (by omega) (by omega) hl
   have mm : ∀ (o : Option (List UInt8)) (p : List UInt8), o.map ((acc ++ p) ++ ·) = (o.map (p ++ ·)).map (acc ++ ·) := fun o p => by cases o <;> simp
   cases h1 : a[i].Kind == 1 with
   | true =>
    have h3 : (a[i].Kind == 3) = false := by rw [beq_iff_eq] at h1; rw [h1]; rfl
    have hp : pieceD a[i] = a[i].Text := by unfold pieceD; rw [h1]; rfl
    rw [cond_true, app_some (by omega), Option.bind_some, next _ (by simp; omega), h3, cond_false, hp, mm]
   | false =>
    cases h2 : a[i].Kind == 2 with
    | true =>
     have h3 : (a[i].Kind == 3) = false := by rw [beq_iff_eq] at h2; rw [h2]; rfl
     have hp : pieceD a[i] = [32] := by unfold pieceD; rw [h1, h2]; rfl
     rw [cond_false, cond_true, app_some (by simp; omega), Option.bind_some, next _ (by simp; omega), h3, cond_false, hp, mm]
    | false =>
     have hp : pieceD a[i] = [] := by unfold pieceD; rw [h1, h2]; rfl
     rw [cond_false, cond_false]
     cases h3 : a[i].Kind == 3 with
     | true => rfl
     | false =>
      rw [cond_false, cond_false, next _ (by omega), hp]
      simp
  ·simp only [lt_false h, cond_false]
   rw [drop_nil h]
   simp [flL, finF]

def partD (a : List SDNode) (s e : Nat) : List SDNode := (a.drop s).take (e - s)
theorem partD_cat {a : List SDNode} {s m e : Nat} (h1 : s ≤ m) (h2 : m ≤ e) : partD a s m ++ partD a m e = partD a s e := by
 unfold partD
 rw [show e - s = (m - s) + (e - m) by omega, List.take_add, List.drop_drop, show s + (m - s) = m by omega]
theorem partD_one {a : List SDNode} {i : Nat} (h : i < a.length) : partD a i (i + 1) = [a[i]] := by
 unfold partD
 rw [show i + 1 - i = 1 by omega, List.drop_eq_getElem_cons h]
 rfl
theorem partD_nil (a : List SDNode) (i : Nat) : partD a i i = [] := by
 unfold partD
 simp
def GF (a : List SDNode) (t : SDoc) (s e : Nat) : Prop := ∀ G : Nat, e - s < G → mi_doc__flat G t = some (finF (flL (partD a s e)))
def GFs (a : List SDNode) : List SDoc → Nat → Nat → List Int → Prop
 | [], s, b, [] => s = b
 | t :: ts, s, b, k :: ks => 0 ≤ k ∧ s ≤ k.toNat ∧ k.toNat < b ∧ GF a t s (k.toNat + 1) ∧ GFs a ts (k.toNat + 1) b ks
 | _, _, _, _ => False
theorem GFs.le {a : List SDNode} : ∀ {ts : List SDoc} {s b : Nat} {ks : List Int}, GFs a ts s b ks → s ≤ b ∧ ts.length ≤ b - s
 | [], s, b, [], h => by simp only [GFs] at h; subst h; simp
 | t :: ts, s, b, k :: ks, ⟨h0, h1, h2, _, h4⟩ => by have := h4.le; simp only [List.length_cons]; omega
 | [], _, _, _ :: _, h => h.elim
 | _ :: _, _, _, [], h => h.elim
theorem partD_mem {a : List SDNode} {s e : Nat} {x : SDNode} (h : x ∈ partD a s e) : x ∈ a := List.mem_of_mem_drop (List.mem_of_mem_take h)
theorem partD_len (a : List SDNode) (s e : Nat) : (partD a s e).length ≤ e - s := by
 unfold partD
 rw [List.length_take]
 omega
theorem flat_l (a : List SDNode) (hs : ∀ x, x ∈ a → smDNode x) (t : SDoc) (G : Nat) : ∀ (ts : List SDoc) (ks : List Int) (s b j n : Nat) (acc : List UInt8), t.kids.drop j = ts → GFs a ts s b ks → b ≤ 100000 → b - s < G → ts.length < n → acc.length ≤ 2000001 * s → t.kids.length ≤ 100000 →
  mi_doc__flat_l1 G (scc9 G) n (t, (j : Int), acc) = some (finF ((flL (partD a s b)).map (acc ++ ·)))
 | [], ks, s, b, j, n, acc, hd, hg, hb, hG, hn, ha, hl => by
  obtain ⟨n, rfl⟩ : ∃ m, n = m + 1 := ⟨n - 1, by simp at hn; omega⟩
  have hj : ¬ j < t.kids.length := by
   intro h
   rw [drop_cons h] at hd
   cases hd
  cases ks with
  | cons k ks => exact hg.elim
  | nil =>
   simp only [GFs] at hg
   subst hg
   rw [mi_doc__flat_l1]
   simp only [lt_false hj, cond_false]
   rw [partD_nil]
   simp [flL, finF]
 | u :: ts, ks, s, b, j, n, acc, hd, hg, hb, hG, hn, ha, hl => by
  simp only [List.length_cons] at hn
  obtain ⟨n, rfl⟩ : ∃ m, n = m + 1 := ⟨n - 1, by omega⟩
  have hj : j < t.kids.length := by
   cases Nat.lt_or_ge j t.kids.length with
   | inl h => exact h
   | inr h => rw [List.drop_of_length_le h] at hd; cases hd
  rw [drop_cons hj] at hd
  injection hd with hd1 hd2
  cases ks with
  | nil => exact hg.elim
  | cons k ks =>
   obtain ⟨h0, h1, h2, h3, h4⟩ := hg
   rw [mi_doc__flat_l1]
   have e : (scc9 G).mi_doc__flat u = some (finF (flL (partD a s (k.toNat + 1)))) := h3 G (by omega)
   simp only [lt_true hj, cond_true, ix_nat hj, hd1, Option.bind_some, e]
   rw [← partD_cat (a := a) (s := s) (m := k.toNat + 1) (e := b) (by omega) (by omega), flL_app]
   cases hf : flL (partD a s (k.toNat + 1)) with
   | none => rfl
   | some z =>
    have hz := flL_len _ z (fun x hx => hs x (partD_mem hx)) hf
    have hpl := partD_len a s (k.toNat + 1)
    have hzl : z.length ≤ 2000001 * (k.toNat + 1 - s) := Nat.le_trans hz (Nat.mul_le_mul_left _ hpl)
    simp only [finF, Bool.not_true, cond_false]
    rw [app_some (by omega), Option.bind_some, step64 hj (by simp only [maxLen]; omega)]
    rw [flat_l a hs t G ts ks (k.toNat + 1) b (j + 1) n (acc ++ z) hd2 h4 hb (by omega) (by omega) (by rw [List.length_append]; omega) hl]
    cases flL (partD a (k.toNat + 1) b) <;> simp [finF]

theorem groupsF_ex (N : Nat) (a : List SDNode) (ha : a.length ≤ 1048576) : ∀ (n i : Nat) (g : Int), a.length - i < n → i ≤ a.length → ∃ g', mi_GroupsIn_l1 N n (a, g, (i : Int)) = some g' := by
 intro n
 induction n with
 | zero => intro i g h; omega
 | succ n ih =>
  intro i g hn hi
  rw [mi_GroupsIn_l1]
  by_cases h : i < a.length
  ·simp only [lt_true h, cond_true, ix_nat h, Option.bind_some, mi_GroupsIn_k2, step64 h (by simp only [maxLen]; omega)]
   cases (a[i].Kind == 5) with
   | true => exact ih (i + 1) _ (by omega) (by omega)
   | false => exact ih (i + 1) _ (by omega) (by omega)
  ·simp only [lt_false h, cond_false]
   exact ⟨g, rfl⟩

theorem docF_l (N : Nat) (R : Rec8) (a : List SDNode) (r : List Int) (e : SDNode) (g : Int) (i : Nat) (hi : i ≤ 100000) (hR : ∀ k s' : Nat, k < i → r[k]? = some (s' : Int) → ∃ t, R.mi_docAt a (k : Int) = some t ∧ GF a t s' (k + 1))
  (hel : e.Kids.length ≤ 100000) : ∀ (ks : List Int) (s j n : Nat) (acc : List SDoc), e.Kids.drop j = ks → Go.Av.Kids r (s : Int) (i : Int) ks → ks.length < n → acc.length + ks.length ≤ 100000 →
  ∃ ts, mi_docAt_l1 N R n (a, e, g, (j : Int), acc) = some ⟨e.Kind, e.N, e.Text, acc ++ ts, g⟩ ∧ GFs a ts s i ks := by
 intro ks
 induction ks with
 | nil =>
  intro s j n acc hk hkids hn hacc
  obtain ⟨n, rfl⟩ : ∃ m, n = m + 1 := ⟨n - 1, by simp at hn; omega⟩
  have hj : ¬ j < e.Kids.length := by
   intro h
   rw [drop_cons h] at hk
   cases hk
  rw [mi_docAt_l1]
  simp only [lt_false hj, cond_false]
  simp only [Go.Av.Kids] at hkids
  exact ⟨[], by simp, by simp only [GFs]; omega⟩
 | cons k ks ih =>
  intro s j n acc hk hkids hn hacc
  simp only [List.length_cons] at hn hacc
  obtain ⟨n, rfl⟩ : ∃ m, n = m + 1 := ⟨n - 1, by omega⟩
  have hj : j < e.Kids.length := by
   cases Nat.lt_or_ge j e.Kids.length with
   | inl h => exact h
   | inr h => rw [List.drop_of_length_le h] at hk; cases hk
  rw [drop_cons hj] at hk
  injection hk with hk1 hk2
  obtain ⟨h0, h1, h2, h3, h4⟩ := hkids
  obtain ⟨k, rfl⟩ := Int.eq_ofNat_of_zero_le (show 0 ≤ k by omega)
  obtain ⟨t, ht, hg⟩ := hR k s (by omega) h3
  rw [mi_docAt_l1]
  simp only [lt_true hj, cond_true, ix_nat hj, Option.bind_some, step64 hj (by simp only [maxLen]; omega), hk1, ht]
  rw [app_some (by simp; omega), Option.bind_some]
  obtain ⟨ts, h5, h6⟩ := ih (k + 1) (j + 1) n (acc ++ [t]) hk2 (by simpa using h4) (by omega) (by simp; omega)
  refine ⟨t :: ts, ?_, ?_⟩
  ·rw [h5]; simp
  ·exact ⟨by omega, by omega, by omega, hg, h6⟩

theorem kidsF_len {r : List Int} : ∀ {ks : List Int} {a b : Int}, Go.Av.Kids r a b ks → (ks.length : Int) ≤ b - a
 | [], a, b, h => by simp only [Go.Av.Kids] at h; simp; omega
 | k :: ks, a, b, ⟨h0, h1, h2, _, h4⟩ => by have := kidsF_len h4; simp only [List.length_cons]; omega

theorem docF_is (a : List SDNode) (hs : ∀ x, x ∈ a → smDNode x) (hdn : ∀ x, x ∈ a → docN x = true) (r : List Int) (ha : a.length ≤ 4000) (hl : Low r) (hk : ∀ (i : Nat) (hi : i < a.length), ∃ s, r[i]? = some s ∧ Go.Av.Kids r s (i : Int) a[i].Kids) :
  ∀ (F i s : Nat), i + 1 < F → i < a.length → r[i]? = some (s : Int) → ∃ t, mi_docAt F a (i : Int) = some t ∧ GF a t s (i + 1) := by
 intro F
 induction F with
 | zero => intro i s h; omega
 | succ F ih =>
  intro i s hF hi hsr
  show ∃ t, mi_docAt_F F (scc8 F) a (i : Int) = some t ∧ _
  unfold mi_docAt_F
  obtain ⟨s', hs', hkid⟩ := hk i hi
  rw [hsr] at hs'
  cases hs'
  have hlow := hl i s hsr
  have hkl := kidsF_len hkid
  have hcut := cut_nat (l := a) (Nat.zero_le i) (by omega)
  simp only [List.drop_zero, Nat.sub_zero] at hcut
  have hcut' : cut a 0 (i : Int) = some (a.take i) := hcut
  obtain ⟨g, hg⟩ := groupsF_ex F (a.take i) (by simp; omega) F 0 0 (by simp; omega) (by omega)
  have hg' : mi_GroupsIn F (a.take i) = some g := hg
  rw [ix_nat hi, Option.bind_some, hcut', Option.bind_some, hg', Option.bind_some]
  obtain ⟨ts, h1, h2⟩ := docF_l F (scc8 F) a r a[i] g i (by omega) (fun k s' hk hs' => ih k s' (by omega) (by omega) hs') (by omega) a[i].Kids s 0 F [] rfl hkid (by omega) (by simp; omega)
  have h1' : mi_docAt_l1 F (scc8 F) F (a, a[i], g, 0, []) = some ⟨a[i].Kind, a[i].N, a[i].Text, ts, g⟩ := h1
  refine ⟨_, h1', ?_⟩
  intro G hG
  obtain ⟨G, rfl⟩ : ∃ m, G = m + 1 := ⟨G - 1, by omega⟩
  have hle := h2.le
  have hd := hdn _ (List.getElem_mem hi)
  have hkz : a[i].Kids.length = 0 → s = i ∧ ts = [] := fun hz => by
   have hz2 := List.length_eq_zero_iff.1 hz
   rw [hz2] at hkid h2
   simp only [Go.Av.Kids] at hkid
   cases ts with
   | nil => exact ⟨by omega, rfl⟩
   | cons _ _ => exact h2.elim
  have hone : flL (partD a i (i + 1)) = bif a[i].Kind == 3 then none else some (pieceD a[i]) := by
   rw [partD_one hi, flL, flL]
   simp
  show mi_doc__flat_F G (scc9 G) ⟨a[i].Kind, a[i].N, a[i].Text, ts, g⟩ = _
  unfold mi_doc__flat_F
  unfold docN at hd
  cases hc : ((!(a[i].Kind == 1) && !(a[i].Text == [])) || (!(a[i].Kind == 4) && !(a[i].N == 0))) with
  | true => rw [hc] at hd; cases hd
  | false =>
   rw [hc, cond_false] at hd
   cases h1k : a[i].Kind == 1 with
   | true =>
    rw [h1k, cond_true, Bool.and_eq_true, beq_iff_eq] at hd
    obtain ⟨rfl, rfl⟩ := hkz (by omega)
    have h3 : (a[s].Kind == 3) = false := by rw [beq_iff_eq] at h1k; rw [h1k]; rfl
    rw [hone, h3]
    unfold pieceD
    rw [h1k]
    rfl
   | false =>
    rw [h1k, cond_false] at hd
    cases h2k : a[i].Kind == 2 with
    | true =>
     rw [h2k, Bool.true_or, cond_true, beq_iff_eq] at hd
     obtain ⟨rfl, rfl⟩ := hkz (by omega)
     have h3 : (a[s].Kind == 3) = false := by rw [beq_iff_eq] at h2k; rw [h2k]; rfl
     rw [hone, h3]
     unfold pieceD
     rw [h1k, h2k]
     rfl
    | false =>
     cases h3k : a[i].Kind == 3 with
     | true =>
      rw [h2k, h3k, Bool.or_true, cond_true, beq_iff_eq] at hd
      obtain ⟨rfl, rfl⟩ := hkz (by omega)
      rw [hone, h3k]
      rfl
     | false =>
      simp only [cond_false]
      have h3 := flat_l a hs ⟨a[i].Kind, a[i].N, a[i].Text, ts, g⟩ G ts a[i].Kids s i 0 G [] rfl h2 (by omega) (by omega) (by omega) (by simp) (by show ts.length ≤ _; omega)
      refine Eq.trans h3 ?_
      rw [← partD_cat (a := a) (s := s) (m := i) (e := i + 1) (by omega) (by omega), flL_app, hone, h3k]
      have hp : pieceD a[i] = [] := by unfold pieceD; rw [h1k, h2k]; rfl
      rw [hp]
      cases flL (partD a s i) <;> simp

theorem flat_ex (N : Nat) (a : List SDNode) (hN : 2000001 + 5000 < N) (hs : ∀ x, x ∈ a → smDNode x) (ha : a.length ≤ 1048576) :
  ∃ r, ms_FlatText N a = some r ∧ mi_FlatText N a = some r := by
 unfold ms_FlatText mi_FlatText
 rw [dspecOk_is N a (by omega) ha hs, dimplOk_is N a (by omega) ha hs]
 simp only [Option.bind_some]
 cases hd : docB a with
 | false => exact ⟨_, rfl, rfl⟩
 | true =>
  obtain ⟨⟨h1, h2⟩, r, _, hrl, hl, hroot, hk⟩ := docB_shape hd
  have hdn : ∀ x, x ∈ a → docN x = true := by
   unfold docB at hd
   simp only [Bool.and_eq_true, List.all_eq_true] at hd
   exact hd.1.2
  have hr : r[a.length - 1]? = some ((0 : Nat) : Int) := by
   unfold drootAt at hroot
   simpa using hroot
  obtain ⟨t, t1, t2⟩ := docF_is a hs hdn r h2 hl hk N (a.length - 1) 0 (by omega) (by omega) hr
  have e2 : a.length - 1 + 1 = a.length := by omega
  rw [e2] at t2
  have t3 := t2 N (by omega)
  have hsp := flatS_l N a hs ha N 0 [] (by omega) (by omega) (by simp)
  have hpa : partD a 0 a.length = a := by unfold partD; simp
  rw [hpa] at t3
  rw [List.drop_zero] at hsp
  have hid : (flL a).map (([] : List UInt8) ++ ·) = flL a := by cases flL a <;> simp
  rw [hid] at hsp
  unfold mi_docOf
  simp only [Bool.not_true, cond_false]
  rw [wrap64 (by omega) (by omega), show (a.length : Int) - 1 = ((a.length - 1 : Nat) : Int) by omega, t1, Option.bind_some, Option.bind_some, t3, Option.bind_some]
  exact ⟨_, hsp, by cases flL a <;> rfl⟩

end Go.Proofs.Tryz

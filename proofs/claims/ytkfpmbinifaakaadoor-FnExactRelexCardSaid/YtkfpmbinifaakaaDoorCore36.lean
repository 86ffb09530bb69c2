/-
  Core36: plain lemmas on what models say with; loops of the laws' helpers in general form.
-/
import Derived.Test.YtkfpmbinifaakaaDoorCore35
namespace Go.Av

theorem wrap64 {n : Int} (h1 : -9223372036854775808 ≤ n) (h2 : n ≤ 9223372036854775807) : IntKind.wrap .i64 n = n := by
  rw [IntKind.wrap_i64]; omega

theorem ix_nat {α : Type} {l : List α} {i : Nat} (h : i < l.length) : ix l (i : Int) = some l[i] := by
  unfold ix
  rw [if_pos (Int.natCast_nonneg i), Int.toNat_natCast, List.getElem?_eq_getElem h]

theorem ix_get {α : Type} {l : List α} {i : Nat} {x : α} (h : l[i]? = some x) : ix l (i : Int) = some x := by
  unfold ix
  rw [if_pos (Int.natCast_nonneg i), Int.toNat_natCast, h]

theorem upd_nat {α : Type} {l : List α} {i : Nat} {x : α} (h : i < l.length) : upd l (i : Int) x = some (l.set i x) := by
  unfold upd
  rw [if_pos ⟨Int.natCast_nonneg i, by simpa using h⟩, Int.toNat_natCast]

theorem step64 {i n : Nat} (h : i < n) (hn : n ≤ maxLen) : IntKind.wrap .i64 ((i : Int) + 1) = ((i + 1 : Nat) : Int) := by
  simp only [maxLen] at hn
  rw [wrap64 (by omega) (by omega)]
  omega

theorem cut_nat {α : Type} {l : List α} {a b : Nat} (h : a ≤ b) (hb : b ≤ l.length) : cut l (a : Int) (b : Int) = some ((l.drop a).take (b - a)) := by
  unfold cut
  rw [if_pos ⟨Int.natCast_nonneg a, by omega, by omega⟩]
  simp

theorem app_some {α : Type} {n : Nat} {l l2 : List α} (h : (l.length + l2.length) * n ≤ 140737488355328) : app n l l2 = some (l ++ l2) := by
  unfold app
  rw [if_pos h]

theorem cat_some {a b : List UInt8} (h : a.length + b.length ≤ maxLen) : cat a b = some (a ++ b) := by
  unfold cat
  rw [if_pos h]

theorem mk_some {α : Type} {n : Nat} {z : α} {i : Nat} (h : n * i ≤ 281474976710656) (h2 : i ≤ maxLen) : mk n z (i : Int) = some (List.replicate i z) := by
  unfold mk
  rw [if_pos ⟨Int.natCast_nonneg i, by simpa using h, by simpa using h2⟩, Int.toNat_natCast]

theorem lt_true {i n : Nat} (h : i < n) : decide ((i : Int) < (n : Int)) = true := by simp [h]
theorem lt_false {i n : Nat} (h : ¬ i < n) : decide ((i : Int) < (n : Int)) = false := by simp; omega

theorem drop_cons {α : Type} {l : List α} {i : Nat} (h : i < l.length) : l.drop i = l[i] :: l.drop (i + 1) := List.drop_eq_getElem_cons h
theorem drop_nil {α : Type} {l : List α} {i : Nat} (h : ¬ i < l.length) : l.drop i = [] := List.drop_of_length_le (by omega)

theorem upd_spec {α : Type} {l : List α} {i : Nat} {x : α} (h : i < l.length) : upd l (i : Int) x = some (l.take i ++ x :: l.drop (i + 1)) := by
  rw [upd_nat h, List.set_eq_take_append_cons_drop, if_pos h]

/-! ### loops that copy, compare, measure -/
def toL {α : Type} (f : α → Option α) : Nat → (List α × Int × List α) → Option (List α)
  | 0, _ => none
  | n + 1, (a, i, y) => bif decide (i < (a.length : Int)) then Option.bind (ix a i) fun e => Option.bind (f e) fun r => Option.bind (ix y i) fun _ => Option.bind (upd y i r) fun x => toL f n (a, IntKind.wrap .i64 (i + 1), x) else some y

theorem toL_is {α : Type} (f : α → Option α) (a : List α) (hf : ∀ x, x ∈ a → f x = some x) (hl : a.length ≤ maxLen) : ∀ (n i : Nat) (y : List α), a.length - i < n → i ≤ a.length → y.length = a.length → y.take i = a.take i → toL f n (a, (i : Int), y) = some a := by
  intro n
  induction n with
  | zero => intro i y h; omega
  | succ n ih =>
    intro i y hn hi hy ht
    rw [toL]
    by_cases h : i < a.length
    · have hy' : i < y.length := by omega
      simp only [lt_true h, cond_true, ix_nat h, Option.bind_some, hf _ (List.getElem_mem h), ix_nat hy', upd_nat hy', step64 h hl]
      refine ih (i + 1) _ (by omega) (by omega) (by simpa using hy) ?_
      rw [List.take_add_one, List.take_add_one, List.take_set_of_le (Nat.le_refl i), ht, List.getElem?_set_self hy', List.getElem?_eq_getElem h]
    · simp only [lt_false h, cond_false]
      have hi' : i = a.length := by omega
      subst hi'
      rw [List.take_of_length_le (by omega), List.take_of_length_le (by omega)] at ht
      rw [ht]

def eqL {α : Type} (f : α → α → Option Bool) : Nat → (List α × List α × Int) → Option Bool
  | 0, _ => none
  | n + 1, (a, b, i) => bif decide (i < (a.length : Int)) then Option.bind (ix a i) fun x => Option.bind (ix b i) fun y => Option.bind (f x y) fun r => bif !r then some false else eqL f n (a, b, IntKind.wrap .i64 (i + 1)) else some true

theorem eqL_self {α : Type} (f : α → α → Option Bool) (a : List α) (hf : ∀ x, x ∈ a → f x x = some true) (hl : a.length ≤ maxLen) : ∀ (n i : Nat), a.length - i < n → i ≤ a.length → eqL f n (a, a, (i : Int)) = some true := by
  intro n
  induction n with
  | zero => intro i h; omega
  | succ n ih =>
    intro i hn hi
    rw [eqL]
    by_cases h : i < a.length
    · simp only [lt_true h, cond_true, ix_nat h, Option.bind_some, hf _ (List.getElem_mem h), Bool.not_true, cond_false, step64 h hl]
      exact ih (i + 1) (by omega) (by omega)
    · simp only [lt_false h, cond_false]

def szL {α : Type} (f : α → Int → Option Int) : Nat → (List α × Int × Int) → Option Int
  | 0, _ => none
  | n + 1, (a, b, i) => bif decide (i < (a.length : Int)) then Option.bind (ix a i) fun e => Option.bind (f e b) fun r => bif decide (r < 0) then some (-1) else szL f n (a, r, IntKind.wrap .i64 (i + 1)) else some b

/-- what a measure says: none of it is left, or so much -/
def Sz (f : Int → Option Int) (s : Nat) : Prop := ∀ b : Int, 0 ≤ b → b ≤ 1048576 → ∃ r, f b = some r ∧ ((r < 0 ∧ b < s) ∨ r = b - s ∧ 0 ≤ r)

def sumN {α : Type} (sz : α → Nat) (l : List α) : Nat := (l.map sz).sum

theorem szL_is {α : Type} (f : α → Int → Option Int) (sz : α → Nat) (a : List α) (hf : ∀ x, x ∈ a → Sz (f x) (sz x)) (hl : a.length ≤ maxLen) : ∀ (n i : Nat) (b : Int), a.length - i < n → i ≤ a.length → 0 ≤ b → b ≤ 1048576 →
    ∃ r, szL f n (a, b, (i : Int)) = some r ∧ ((r < 0 ∧ b < sumN sz (a.drop i)) ∨ r = b - sumN sz (a.drop i) ∧ 0 ≤ r) := by
  intro n
  induction n with
  | zero => intro i b h; omega
  | succ n ih =>
    intro i b hn hi h0 h1
    rw [szL]
    by_cases h : i < a.length
    · obtain ⟨r, hr, hc⟩ := hf _ (List.getElem_mem h) b h0 h1
      have hs : sumN sz (a.drop i) = sz a[i] + sumN sz (a.drop (i + 1)) := by rw [drop_cons h]; simp only [sumN, List.map_cons, List.sum_cons]
      simp only [lt_true h, cond_true, ix_nat h, Option.bind_some, hr, step64 h hl]
      rcases hc with ⟨hc, hb⟩ | ⟨hc, hr0⟩
      · exact ⟨-1, by simp [hc], .inl ⟨by omega, by omega⟩⟩
      · obtain ⟨r', hr', hc'⟩ := ih (i + 1) r (by omega) (by omega) hr0 (by omega)
        have hd : decide (r < 0) = false := by simp; omega
        refine ⟨r', by rw [hd]; exact hr', ?_⟩
        rcases hc' with ⟨h2, h3⟩ | ⟨h2, h3⟩
        · exact .inl ⟨h2, by omega⟩
        · exact .inr ⟨by omega, h3⟩
    · simp only [lt_false h, cond_false]
      exact ⟨b, rfl, .inr ⟨by rw [drop_nil h]; simp [sumN], h0⟩⟩

theorem sumN_mem {α : Type} {sz : α → Nat} {l : List α} {x : α} (h : x ∈ l) : sz x ≤ sumN sz l := by
  induction l with
  | nil => cases h
  | cons y l ih =>
    simp only [sumN, List.map_cons, List.sum_cons]
    rcases List.mem_cons.1 h with rfl | h
    · omega
    · have := ih h; simp only [sumN] at this; omega

/-- length and then elements -/
theorem Sz.list {α : Type} {f : α → Int → Option Int} {sz : α → Nat} {a : List α} (hf : ∀ x, x ∈ a → Sz (f x) (sz x)) (hl : a.length ≤ maxLen) {g : Nat → Int → Option Int} {n : Nat} (hn : a.length < n)
    (hg : ∀ b, g n b = bif decide (IntKind.wrap .i64 (b - (a.length : Int)) < 0) then some (-1) else szL f n (a, IntKind.wrap .i64 (b - (a.length : Int)), 0)) : Sz (g n) (a.length + sumN sz a) := by
  intro b h0 h1
  have hl' := hl
  simp only [maxLen] at hl'
  rw [hg, wrap64 (by omega) (by omega)]
  by_cases h : b - (a.length : Int) < 0
  · exact ⟨-1, by simp [h], .inl ⟨by omega, by omega⟩⟩
  · obtain ⟨r, hr, hc⟩ := szL_is f sz a hf hl n 0 (b - a.length) (by omega) (by omega) (by omega) (by omega)
    refine ⟨r, by simp only [h, decide_false, cond_false]; exact hr, ?_⟩
    rw [List.drop_zero] at hc
    rcases hc with ⟨h2, h3⟩ | ⟨h2, h3⟩
    · exact .inl ⟨h2, by omega⟩
    · exact .inr ⟨by omega, h3⟩

/-! ### marks -/
/-- all marked, one behind the other -/
def mkAll {α : Type} (mk : α → Int → α × Int) : List α → Int → List α × Int
  | [], k => ([], k)
  | e :: l, k => ((mk e k).1 :: (mkAll mk l (mk e k).2).1, (mkAll mk l (mk e k).2).2)

theorem mkAll_le {α : Type} {mk : α → Int → α × Int} {cost : α → Nat} (hmk : ∀ e k, 0 ≤ k → k ≤ (mk e k).2 ∧ (mk e k).2 ≤ k + cost e) : ∀ (l : List α) (k : Int), 0 ≤ k → k ≤ (mkAll mk l k).2 ∧ (mkAll mk l k).2 ≤ k + sumN cost l
  | [], k, h => by simp [mkAll, sumN]
  | e :: l, k, h => by
    have h1 := hmk e k h
    have h2 := mkAll_le hmk l (mk e k).2 (by omega)
    simp only [mkAll, sumN, List.map_cons, List.sum_cons] at h2 ⊢
    omega

theorem mkAll_len {α : Type} (mk : α → Int → α × Int) : ∀ (l : List α) (k : Int), (mkAll mk l k).1.length = l.length
  | [], _ => rfl
  | e :: l, k => by simp [mkAll, mkAll_len mk l]

theorem set_mid {α : Type} (pre : List α) (e x : α) (rest : List α) : (pre ++ e :: rest).set pre.length x = pre ++ x :: rest := by
  rw [List.set_append_right _ _ (Nat.le_refl _), Nat.sub_self, List.set_cons_zero]

theorem get_mid {α : Type} (pre : List α) (e : α) (rest : List α) : (pre ++ e :: rest)[pre.length]? = some e := by
  rw [List.getElem?_append_right (Nat.le_refl _), Nat.sub_self, List.getElem?_cons_zero]

theorem markLoop {α : Type} {M : Nat → (Int × Int × List α) → Option (Int × List α)} {mk : α → Int → α × Int} {cost : α → Nat} {ok : α → Prop} (hmk : ∀ e k, 0 ≤ k → k ≤ (mk e k).2 ∧ (mk e k).2 ≤ k + cost e)
    (step : ∀ (n : Nat) (k : Int) (i : Nat) (y : List α) (e : α), ok e → 0 ≤ k → k + (cost e : Int) ≤ 4611686018427387904 → y.length ≤ maxLen → y[i]? = some e → M (n + 1) (k, (i : Int), y) = M n ((mk e k).2, ((i + 1 : Nat) : Int), y.set i (mk e k).1))
    (stop : ∀ (n : Nat) (k : Int) (i : Nat) (y : List α), ¬ i < y.length → M (n + 1) (k, (i : Int), y) = some (k, y)) :
    ∀ (rest pre : List α) (k : Int) (n : Nat), (∀ e, e ∈ rest → ok e) → 0 ≤ k → k + (sumN cost rest : Int) ≤ 4611686018427387904 → rest.length < n → (pre ++ rest).length ≤ maxLen →
      M n (k, (pre.length : Int), pre ++ rest) = some ((mkAll mk rest k).2, pre ++ (mkAll mk rest k).1) := by
  intro rest
  induction rest with
  | nil =>
    intro pre k n _ _ _ hn _
    obtain ⟨n, rfl⟩ : ∃ m, n = m + 1 := ⟨n - 1, by simp at hn; omega⟩
    rw [stop n k pre.length _ (by simp)]
    simp [mkAll]
  | cons e rest ih =>
    intro pre k n hok h0 hk hn hl
    obtain ⟨n, rfl⟩ : ∃ m, n = m + 1 := ⟨n - 1, by simp at hn; omega⟩
    simp only [sumN, List.map_cons, List.sum_cons] at hk
    have h1 := hmk e k h0
    rw [step n k pre.length _ e (hok e (by simp)) h0 (by omega) hl (get_mid _ _ _), set_mid]
    have := ih (pre ++ [(mk e k).1]) (mk e k).2 n (fun x hx => hok x (by simp [hx])) (by omega) (by simp only [sumN]; omega) (by simp at hn; omega) (by simpa using hl)
    simp only [List.length_append, List.length_cons, List.length_nil, List.append_assoc, List.cons_append, List.nil_append, Nat.zero_add] at this
    rw [this]
    simp [mkAll]

theorem heldLoop {α : Type} {L : Nat → (List α × Int × Int) → Option Int} {mk : α → Int → α × Int} {cost : α → Nat} {ok : α → Prop} (hmk : ∀ e k, 0 ≤ k → k ≤ (mk e k).2 ∧ (mk e k).2 ≤ k + cost e)
    (step : ∀ (n : Nat) (k : Int) (i : Nat) (a : List α) (e : α), ok e → 0 ≤ k → k + (cost e : Int) ≤ 4611686018427387904 → a.length ≤ maxLen → a[i]? = some (mk e k).1 → L (n + 1) (a, k, (i : Int)) = L n (a, (mk e k).2, ((i + 1 : Nat) : Int)))
    (stop : ∀ (n : Nat) (k : Int) (i : Nat) (a : List α), ¬ i < a.length → L (n + 1) (a, k, (i : Int)) = some k) :
    ∀ (rest pre : List α) (k : Int) (n : Nat), (∀ e, e ∈ rest → ok e) → 0 ≤ k → k + (sumN cost rest : Int) ≤ 4611686018427387904 → rest.length < n → (pre ++ rest).length ≤ maxLen →
      L n (pre ++ (mkAll mk rest k).1, k, (pre.length : Int)) = some (mkAll mk rest k).2 := by
  intro rest
  induction rest with
  | nil =>
    intro pre k n _ _ _ hn _
    obtain ⟨n, rfl⟩ : ∃ m, n = m + 1 := ⟨n - 1, by simp at hn; omega⟩
    rw [stop n k pre.length _ (by simp [mkAll])]
    simp [mkAll]
  | cons e rest ih =>
    intro pre k n hok h0 hk hn hl
    obtain ⟨n, rfl⟩ : ∃ m, n = m + 1 := ⟨n - 1, by simp at hn; omega⟩
    simp only [sumN, List.map_cons, List.sum_cons] at hk
    have h1 := hmk e k h0
    simp only [mkAll]
    rw [step n k pre.length _ e (hok e (by simp)) h0 (by omega) (by simp [mkAll_len] at hl ⊢; omega) (get_mid _ _ _)]
    have := ih (pre ++ [(mk e k).1]) (mk e k).2 n (fun x hx => hok x (by simp [hx])) (by omega) (by simp only [sumN]; omega) (by simp at hn; omega) (by simpa using hl)
    simp only [List.length_append, List.length_cons, List.length_nil, List.append_assoc, List.cons_append, List.nil_append, Nat.zero_add] at this
    exact this

/-- numbers from k on -/
def mkInt (_ : Int) (k : Int) : Int × Int := (k, k + 1)

theorem mkInt_le (e k : Int) (_ : 0 ≤ k) : k ≤ (mkInt e k).2 ∧ (mkInt e k).2 ≤ k + ((fun _ : Int => 1) e : Nat) := by simp [mkInt]; omega

theorem sumN_const {α : Type} (c : Nat) (l : List α) : sumN (fun _ => c) l = c * l.length := by
  induction l with
  | nil => simp [sumN]
  | cons a l ih => simp only [sumN, List.map_cons, List.sum_cons, List.length_cons] at ih ⊢; rw [ih, Nat.mul_succ]; omega

end Go.Av

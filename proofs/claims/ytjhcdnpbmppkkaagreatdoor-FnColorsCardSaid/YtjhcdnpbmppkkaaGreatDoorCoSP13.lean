/-
 Plain lemmas on the models, part 13.
-/
import Derived.Test.YtjhcdnpbmppkkaaGreatDoorCoSP12
namespace Go.Proofs.Tryz
open Go.Av
set_option maxRecDepth 100000
set_option linter.unusedSimpArgs false
set_option linter.unusedVariables false

def clsB (k : Int) : UInt8 := ((mi_ClassOf k).getD []).headD 0
theorem clsB_is {k : Int} (hk : okKind k) : mi_ClassOf k = some [clsB k] ∧ (clsB k = 46 ↔ k = 1) := by
 have key : ∃ c : UInt8, mi_ClassOf k = some [c] ∧ (c = 46 ↔ k = 1) := by
  have hkw : mi_isKeywordKind k = some (decide (k ≥ 10) && decide (k ≤ 26)) := by
   unfold mi_isKeywordKind
   rw [within_is']
   rfl
  have hsg : mi_isSignKind k = some (decide (k ≥ 30) && decide (k ≤ 68)) := by
   unfold mi_isSignKind
   rw [within_is']
   rfl
  unfold mi_ClassOf
  rw [hkw, hsg]
  have hne : ∀ c : Int, ¬ k = c → (k == c) = false := by
   intro c h
   cases e : (k == c) with
   | false => rfl
   | true => exact absurd (eq_of_beq e) h
  rcases hk with ⟨h1, h2⟩ | ⟨h1, h2⟩ | ⟨h1, h2⟩
  ·have : k = 1 ∨ k = 2 ∨ k = 3 ∨ k = 4 ∨ k = 5 ∨ k = 6 ∨ k = 7 ∨ k = 8 := by omega
   rcases this with rfl | rfl | rfl | rfl | rfl | rfl | rfl | rfl <;> exact ⟨_, rfl, by decide⟩
  ·rw [hne 1 (by omega), hne 2 (by omega), hne 3 (by omega), hne 4 (by omega), hne 5 (by omega), hne 6 (by omega), hne 7 (by omega), hne 8 (by omega), decide_eq_true h1, decide_eq_true h2]
   exact ⟨107, rfl, ⟨fun h => absurd h (by decide), fun h => by omega⟩⟩
  ·rw [hne 1 (by omega), hne 2 (by omega), hne 3 (by omega), hne 4 (by omega), hne 5 (by omega), hne 6 (by omega), hne 7 (by omega), hne 8 (by omega), decide_eq_true h1, decide_eq_true h2, decide_eq_false (by omega : ¬ k ≤ 26), Bool.and_false]
   exact ⟨111, rfl, ⟨fun h => absurd h (by decide), fun h => by omega⟩⟩
 obtain ⟨c, h1, h2⟩ := key
 have e : clsB k = c := by unfold clsB; rw [h1]; rfl
 rw [e]
 exact ⟨h1, h2⟩
def colT (L : Nat) : Nat → List SToken → List UInt8
 | lo, [] => List.replicate (L - lo) 46
 | lo, t :: r => List.replicate (t.At.toNat - lo) 46 ++ (List.replicate t.Text.length (clsB t.Kind) ++ colT L (t.At.toNat + t.Text.length) r)
theorem colT_len (s : List UInt8) : ∀ (l : List SToken) (lo : Nat), lo ≤ s.length → OrdT s lo l → (colT s.length lo l).length = s.length - lo
 | [], lo, h, _ => by rw [colT, List.length_replicate]
 | t :: r, lo, h, ⟨_, a, h2, h3, h4, h5, h6⟩ => by
  have := colT_len s r (a + t.Text.length) h5 h6
  rw [colT, h2, Int.toNat_natCast]
  simp only [List.length_append, List.length_replicate, this]
  omega
theorem paint_l3 (M : Nat) (s : List UInt8) (hs : s.length ≤ 3000) (r : List SToken × SFault) (y : Int) (t : SToken) (a : Nat) (hk : okKind t.Kind) (ha : t.At = (a : Int)) (hal : a + t.Text.length ≤ s.length) (kb : (List UInt8 × (List SToken × SFault) × Int × List UInt8) → Option (List UInt8 × Bool)) (k2 : ((List SToken × SFault) × Int × List UInt8) → Option (List UInt8 × Bool)) (pre post : List UInt8) (hp : pre.length = a) (hpost : post.length = s.length - a - t.Text.length) :
  ∀ (n j : Nat) (mid : List UInt8), t.Text.length - j < n → j ≤ t.Text.length → mid.length = t.Text.length - j → mi_Classes_l3 M kb k2 n (r, y, t, (j : Int), pre ++ (List.replicate j (clsB t.Kind) ++ (mid ++ post))) = k2 (r, IntKind.wrap .i64 (y + 1), pre ++ (List.replicate t.Text.length (clsB t.Kind) ++ post)) := by
 obtain ⟨c1, _⟩ := clsB_is hk
 intro n
 induction n with
 | zero => intro j mid h; omega
 | succ n ih =>
  intro j mid hn hj hm
  rw [mi_Classes_l3]
  by_cases h : j < t.Text.length
  ·cases mid with
   | nil => simp at hm; omega
   | cons x mid =>
    have hsj : IntKind.wrap .i64 ((j : Int) + 1) = ((j + 1 : Nat) : Int) := by rw [wrap64 (by omega) (by omega)]; omega
    have hw : IntKind.wrap .i64 (t.At + (j : Int)) = ((a + j : Nat) : Int) := by rw [ha, wrap64 (by omega) (by omega)]; omega
    have hlen : (pre ++ (List.replicate j (clsB t.Kind) ++ (x :: mid ++ post))).length = s.length := by simp only [List.length_append, List.length_replicate, hp, hm, hpost]; omega
    have hlt : a + j < (pre ++ (List.replicate j (clsB t.Kind) ++ (x :: mid ++ post))).length := by omega
    have e0 : ix [clsB t.Kind] 0 = some (clsB t.Kind) := rfl
    simp only [lt_true h, cond_true, Option.bind_some, c1, hw, ix_nat hlt, upd_nat hlt, hsj, e0]
    have hset : (pre ++ (List.replicate j (clsB t.Kind) ++ (x :: mid ++ post))).set (a + j) (clsB t.Kind) = pre ++ (List.replicate (j + 1) (clsB t.Kind) ++ (mid ++ post)) := by
     rw [← hp, List.set_append_right _ _ (by omega), Nat.add_sub_cancel_left, List.set_append_right _ _ (by rw [List.length_replicate]; omega), List.length_replicate, Nat.sub_self, List.cons_append, List.set_cons_zero, List.replicate_succ', List.append_assoc]
     rfl
    rw [hset]
    exact ih (j + 1) mid (by omega) (by omega) (by simp only [List.length_cons] at hm; omega)
  ·have hj' : j = t.Text.length := by omega
   have hm0 : mid = [] := List.length_eq_zero_iff.1 (by omega)
   subst hm0
   simp only [lt_false h, cond_false]
   rw [hj', List.nil_append]
theorem paint_l2 (M : Nat) (s : List UInt8) (hs : s.length ≤ 3000) (hM : s.length < M) (r : List SToken × SFault) (kb : (List UInt8 × (List SToken × SFault) × Int × List UInt8) → Option (List UInt8 × Bool)) :
  ∀ (l : List SToken) (n y lo : Nat) (pre : List UInt8), r.1.drop y = l → y ≤ r.1.length → y ≤ lo → l.length < n → lo ≤ s.length → pre.length = lo → OrdT s lo l →
   mi_Classes_l2 M kb n (r, (y : Int), pre ++ List.replicate (s.length - lo) 46) = some (pre ++ colT s.length lo l, true)
 | [], n, y, lo, pre, hd, hy, hyl, hn, hlo, hp, ho => by
  obtain ⟨n, rfl⟩ : ∃ m, n = m + 1 := ⟨n - 1, by simp at hn; omega⟩
  have hlt : ¬ y < r.1.length := by
   intro h
   rw [drop_cons h] at hd
   cases hd
  rw [mi_Classes_l2, lt_false hlt, colT]
  rfl
 | t :: l, n, y, lo, pre, hd, hy, hyl, hn, hlo, hp, ho => by
  simp only [List.length_cons] at hn
  obtain ⟨n, rfl⟩ : ∃ m, n = m + 1 := ⟨n - 1, by omega⟩
  have hlt : y < r.1.length := by
   cases Nat.lt_or_ge y r.1.length with
   | inl h => exact h
   | inr h => rw [List.drop_of_length_le h] at hd; cases hd
  rw [drop_cons hlt] at hd
  injection hd with hd1 hd2
  obtain ⟨h1, a, h2, h3, h4, h5, h6⟩ := ho
  rw [mi_Classes_l2, lt_true hlt, cond_true, ix_nat hlt, Option.bind_some, hd1]
  have esp : List.replicate (s.length - lo) (46 : UInt8) = List.replicate (a - lo) 46 ++ (List.replicate t.Text.length 46 ++ List.replicate (s.length - a - t.Text.length) 46) := by
   rw [List.replicate_append_replicate, List.replicate_append_replicate]
   congr 1
   omega
  have h3' := paint_l3 M s hs r (y : Int) t a h1 h2 h5 kb (mi_Classes_l2 M kb n) (pre ++ List.replicate (a - lo) 46) (List.replicate (s.length - a - t.Text.length) 46) (by rw [List.length_append, List.length_replicate]; omega) (List.length_replicate ..) M 0 (List.replicate t.Text.length 46) (by omega) (by omega) (by rw [List.length_replicate]; omega)
  rw [List.replicate_zero, List.nil_append, List.append_assoc, ← esp] at h3'
  have h3' : mi_Classes_l3 M kb (mi_Classes_l2 M kb n) M (r, (y : Int), t, 0, pre ++ List.replicate (s.length - lo) 46) = _ := h3'
  rw [h3', wrap64 (by omega) (by omega), show (y : Int) + 1 = ((y + 1 : Nat) : Int) by omega]
  have := paint_l2 M s hs hM r kb l n (y + 1) (a + t.Text.length) (pre ++ List.replicate (a - lo) 46 ++ List.replicate t.Text.length (clsB t.Kind)) hd2 (by omega) (by omega) (by omega) h5 (by simp only [List.length_append, List.length_replicate]; omega) h6
  rw [show s.length - a - t.Text.length = s.length - (a + t.Text.length) by omega, ← List.append_assoc, this, colT, h2, Int.toNat_natCast]
  simp only [List.append_assoc]
theorem dots_l (N : Nat) (s : List UInt8) (hs : s.length ≤ 3000) (x : List UInt8) (hx : x.length = s.length) (r : List SToken × SFault) (res : List UInt8 × Bool) (hN : s.length < N)
  (hk : ∀ kb, mi_Classes_l2 N kb N (r, 0, List.replicate s.length 46) = some res) : ∀ (n j : Nat) (post : List UInt8), s.length - j < n → j ≤ s.length → post.length = s.length - j → mi_Classes_l1 N n (x, r, (j : Int), List.replicate j 46 ++ post) = some res := by
 intro n
 induction n with
 | zero => intro j post h; omega
 | succ n ih =>
  intro j post hn hj hp
  rw [mi_Classes_l1, hx]
  by_cases h : j < s.length
  ·cases post with
   | nil => simp at hp; omega
   | cons z post =>
    have hlt : j < (List.replicate j (46 : UInt8) ++ z :: post).length := by simp only [List.length_append, List.length_replicate, hp]; omega
    have hsj : IntKind.wrap .i64 ((j : Int) + 1) = ((j + 1 : Nat) : Int) := by rw [wrap64 (by omega) (by omega)]; omega
    simp only [lt_true h, cond_true, ix_nat hlt, upd_nat hlt, Option.bind_some, hsj]
    have hset : (List.replicate j (46 : UInt8) ++ z :: post).set j 46 = List.replicate (j + 1) 46 ++ post := by
     rw [List.set_append_right _ _ (by rw [List.length_replicate]; omega), List.length_replicate, Nat.sub_self, List.set_cons_zero, List.replicate_succ', List.append_assoc]
     rfl
    rw [hset]
    exact ih (j + 1) post (by omega) (by omega) (by simp only [List.length_cons] at hp; omega)
  ·have hj' : j = s.length := by omega
   have hp0 : post = [] := List.length_eq_zero_iff.1 (by omega)
   subst hp0
   rw [lt_false h, cond_false, List.append_nil, hj']
   exact hk _
theorem classesI (N : Nat) (s : List UInt8) (hN : 5000 < N) : ∃ ts f, ms_Lex N s = some (ts, f) ∧ ((f = ⟨0, 0⟩ ∧ s.length ≤ 3000 ∧ OrdT s 0 ts ∧ mi_Classes N s = some (colT s.length 0 ts, true)) ∨ (f.Kind ≠ 0 ∧ ts = [] ∧ mi_Classes N s = some ([], false))) := by
 obtain ⟨ts, f, h1, h2, h3⟩ := lexC N s (by omega)
 refine ⟨ts, f, h1, ?_⟩
 unfold mi_Classes
 rw [h2, Option.bind_some]
 rcases h3 with ⟨rfl, hs, ho⟩ | ⟨hf, rfl⟩
 ·refine .inl ⟨rfl, hs, ho, ?_⟩
  have e2 : (!((((⟨0, 0⟩ : SFault).Kind) == 0) && ((((⟨0, 0⟩ : SFault).At) == 0) && true))) = false := rfl
  simp only [e2, cond_false]
  have hmk := mk_some (n := 1) (z := (0 : UInt8)) (i := s.length) (by omega) (by simp only [maxLen]; omega)
  rw [hmk, Option.bind_some]
  have hlen : ∀ (l : List SToken) (lo : Nat), lo ≤ s.length → OrdT s lo l → l.length ≤ s.length - lo := by
   intro l
   induction l with
   | nil => intro lo _ _; simp
   | cons t r ih =>
    rintro lo h ⟨_, a, g2, g3, g4, g5, g6⟩
    have := ih _ g5 g6
    simp only [List.length_cons]; omega
  have := hlen ts 0 (by omega) ho
  refine dots_l N s hs _ (by simp) (ts, ⟨0, 0⟩) _ (by omega) (fun kb => ?_) N 0 _ (by omega) (by omega) (by simp)
  have h := paint_l2 N s hs (by omega) (ts, ⟨0, 0⟩) kb ts N 0 0 [] rfl (by omega) (by omega) (by omega) (by omega) rfl ho
  simpa using h
 ·refine .inr ⟨hf, rfl, ?_⟩
  have e2 : (f.Kind == 0) = false := by simpa using hf
  simp only [e2, Bool.false_and, Bool.not_false, cond_true]

def cnt (l : List SToken) : Nat := (l.map fun t => bif t.Kind == 1 then 0 else t.Text.length).sum
theorem count46 (c : UInt8) (n : Nat) : (List.replicate n c).countP (· != 46) = bif c == 46 then 0 else n := by
 rw [List.countP_replicate]
 cases h : c == 46 <;> simp [bne, h]
theorem colT_cnt (s : List UInt8) : ∀ (l : List SToken) (lo : Nat), OrdT s lo l → (colT s.length lo l).countP (· != 46) = cnt l
 | [], lo, _ => by rw [colT, count46]; rfl
 | t :: r, lo, ⟨h1, a, h2, h3, h4, h5, h6⟩ => by
  have ih := colT_cnt s r _ h6
  obtain ⟨_, c2⟩ := clsB_is h1
  rw [colT, h2, Int.toNat_natCast, List.countP_append, List.countP_append, count46, count46, ih]
  have e : cnt (t :: r) = (bif t.Kind == 1 then 0 else t.Text.length) + cnt r := by simp [cnt]
  rw [e]
  have hc : (clsB t.Kind == 46) = (t.Kind == 1) := by
   cases h : t.Kind == 1 with
   | true => have := c2.2 (by simpa using h); rw [this]; rfl
   | false =>
    cases h' : clsB t.Kind == 46 with
    | false => rfl
    | true => have := c2.1 (by simpa using h'); rw [this] at h; cases h
  rw [hc]
  simp
theorem colT_at (s : List UInt8) : ∀ (l : List SToken) (lo : Nat), lo ≤ s.length → OrdT s lo l → ∀ (t : SToken), t ∈ l → ∃ a : Nat, t.At = (a : Int) ∧ lo ≤ a ∧ a + t.Text.length ≤ s.length ∧ okKind t.Kind ∧ ∀ j, j < t.Text.length → (colT s.length lo l)[a + j - lo]? = some (clsB t.Kind)
 | [], lo, _, _, t, ht => by cases ht
 | u :: r, lo, hlo, ⟨h1, a, h2, h3, h4, h5, h6⟩, t, ht => by
  rw [colT, h2, Int.toNat_natCast]
  rcases List.mem_cons.1 ht with rfl | ht
  ·refine ⟨a, h2, h3, h5, h1, fun j hj => ?_⟩
   rw [List.getElem?_append_right (by rw [List.length_replicate]; omega), List.length_replicate, List.getElem?_append_left (by rw [List.length_replicate]; omega), List.getElem?_replicate, if_pos (by omega)]
  ·obtain ⟨c, g1, g2, g3, g4, g5⟩ := colT_at s r _ h5 h6 t ht
   refine ⟨c, g1, by omega, g3, g4, fun j hj => ?_⟩
   rw [List.getElem?_append_right (by rw [List.length_replicate]; omega), List.length_replicate, List.getElem?_append_right (by rw [List.length_replicate]; omega), List.length_replicate]
   have := g5 j hj
   rw [show c + j - lo - (a - lo) - u.Text.length = c + j - (a + u.Text.length) by omega]
   exact this
theorem law_l4 (N : Nat) (x : List UInt8) (is : Bool) (hx : x.length ≤ 3000) (kb : ((List UInt8 × Bool) × (List SToken × SFault) × Int × Int) → Option Bool) : ∀ (n j : Nat) (c : Int), x.length - j < n → j ≤ x.length → c = ((x.drop j).countP (· != 46) : Nat) → ml_FnColors_l4 N kb n ((x, is), c, (j : Int)) = some true := by
 intro n
 induction n with
 | zero => intro j c h; omega
 | succ n ih =>
  intro j c hn hj hc
  rw [ml_FnColors_l4]
  by_cases h : j < x.length
  ·have hsj : IntKind.wrap .i64 ((j : Int) + 1) = ((j + 1 : Nat) : Int) := by rw [wrap64 (by omega) (by omega)]; omega
   have hb : ((x[j].toNat : Int) != 46) = (x[j] != 46) := by
    cases e : x[j] == 46 with
    | true => have := eq_of_beq e; rw [this]; rfl
    | false =>
     have hne : x[j] ≠ 46 := by simpa using e
     have : ¬ x[j].toNat = 46 := fun e => hne (UInt8.toNat.inj e)
     have h2 : ((x[j].toNat : Int) == 46) = false := by rw [beq_eq_false_iff_ne]; omega
     rw [bne, bne, h2, e]
   simp only [lt_true h, cond_true, ix_nat h, Option.bind_some, hb]
   unfold ml_FnColors_k5
   simp only [hsj]
   rw [drop_cons h, List.countP_cons] at hc
   have hcl : (x.drop (j + 1)).countP (· != 46) ≤ x.length := by have := List.countP_le_length (p := (· != (46 : UInt8))) (l := x.drop (j + 1)); rw [List.length_drop] at this; omega
   cases hd : x[j] != 46 with
   | true =>
    rw [hd] at hc
    simp only [if_true] at hc
    rw [cond_true, wrap64 (by omega) (by omega)]
    exact ih (j + 1) _ (by omega) (by omega) (by omega)
   | false =>
    rw [hd] at hc
    exact ih (j + 1) _ (by omega) (by omega) (by simpa using hc)
  ·rw [drop_nil h] at hc
   simp only [lt_false h, cond_false]
   rw [hc]
   rfl
theorem law_l3 (N : Nat) (x : List UInt8) (is : Bool) (hx : x.length ≤ 3000) (r : List SToken × SFault) (y : Nat) (t : SToken) (hy : r.1[y]? = some t) (hyl : y ≤ 3000) (a : Nat) (ha : t.At = (a : Int)) (hal : a + t.Text.length ≤ x.length) (hk : okKind t.Kind) (hc : ∀ j, j < t.Text.length → x[a + j]? = some (clsB t.Kind)) (c : Int) (hcb : 0 ≤ c ∧ c ≤ 1000000) (kb : ((List UInt8 × Bool) × (List SToken × SFault) × Int × Int) → Option Bool) : ∀ (n j : Nat), t.Text.length - j < n → j ≤ t.Text.length →
  ml_FnColors_l3 N kb n ((x, is), c, (y : Int), r, (j : Int)) = kb ((x, is), r, c + ((bif t.Kind == 1 then 0 else t.Text.length : Nat) : Int), ((y + 1 : Nat) : Int)) := by
 obtain ⟨c1, _⟩ := clsB_is hk
 have hix : ix r.1 (y : Int) = some t := ix_get hy
 intro n
 induction n with
 | zero => intro j h; omega
 | succ n ih =>
  intro j hn hj
  have hsy : IntKind.wrap .i64 ((y : Int) + 1) = ((y + 1 : Nat) : Int) := by rw [wrap64 (by omega) (by omega)]; omega
  rw [ml_FnColors_l3]
  by_cases h : j < t.Text.length
  ·have hsj : IntKind.wrap .i64 ((j : Int) + 1) = ((j + 1 : Nat) : Int) := by rw [wrap64 (by omega) (by omega)]; omega
   have hw : IntKind.wrap .i64 (t.At + (j : Int)) = ((a + j : Nat) : Int) := by rw [ha, wrap64 (by omega) (by omega)]; omega
   have hw2 : IntKind.wrap .i64 (((a + j : Nat) : Int) + 1) = ((a + j + 1 : Nat) : Int) := by rw [wrap64 (by omega) (by omega)]; omega
   have hlt : a + j < x.length := by omega
   have hcut : cut x ((a + j : Nat) : Int) ((a + j + 1 : Nat) : Int) = some [clsB t.Kind] := by
    rw [cut_nat (by omega) (by omega), Nat.add_sub_cancel_left, List.drop_eq_getElem_cons hlt]
    have := hc j h
    rw [List.getElem?_eq_getElem hlt] at this
    rw [Option.some.inj this]
    rfl
   simp only [hix, Option.bind_some, lt_true h, cond_true, hw, hw2, hcut, c1, beq_self_eq_true, Bool.not_true, cond_false, hsj]
   exact ih (j + 1) (by omega) (by omega)
  ·simp only [hix, Option.bind_some, lt_false h, cond_false]
   unfold ml_FnColors_k2
   simp only [hsy]
   cases h1 : t.Kind == 1 with
   | true =>
    have : (t.Kind != 1) = false := by simp [bne, h1]
    rw [this, cond_false, cond_true]
    simp
   | false =>
    have : (t.Kind != 1) = true := by simp [bne, h1]
    rw [this, cond_true, cond_false, wrap64 (by omega) (by omega)]
theorem cnt_le (s : List UInt8) : ∀ (l : List SToken) (lo : Nat), lo ≤ s.length → OrdT s lo l → cnt l ≤ s.length - lo
 | [], _, _, _ => by simp [cnt]
 | t :: r, lo, h, ⟨h1, a, h2, h3, h4, h5, h6⟩ => by
  have := cnt_le s r _ h5 h6
  have e : cnt (t :: r) = (bif t.Kind == 1 then 0 else t.Text.length) + cnt r := by simp [cnt]
  rw [e]
  cases t.Kind == 1 <;> simp only [cond_true, cond_false] <;> omega
theorem law_l1 (N : Nat) (hN : 5000 < N) (s : List UInt8) (hs : s.length ≤ 3000) (l : List SToken) (f : SFault) (ho : OrdT s 0 l) (hl : l.length ≤ 3000) : ∀ (r : List SToken) (n y : Nat) (c : Int), l.drop y = r → y ≤ l.length → r.length < n → c + cnt r = cnt l → 0 ≤ c →
  ml_FnColors_l1 N n ((colT s.length 0 l, true), (l, f), c, (y : Int)) = some true
 | [], n, y, c, hd, hy, hn, hc, hc0 => by
  obtain ⟨n, rfl⟩ : ∃ m, n = m + 1 := ⟨n - 1, by simp at hn; omega⟩
  have hlt : ¬ y < l.length := by
   intro h
   rw [drop_cons h] at hd
   cases hd
  rw [ml_FnColors_l1, lt_false hlt, cond_false]
  have hlen := colT_len s l 0 (by omega) ho
  have e0 : cnt [] = 0 := rfl
  exact law_l4 N _ true (by omega) _ N 0 c (by omega) (by omega) (by rw [List.drop_zero, colT_cnt s l 0 ho]; omega)
 | t :: r, n, y, c, hd, hy, hn, hc, hc0 => by
  simp only [List.length_cons] at hn
  obtain ⟨n, rfl⟩ : ∃ m, n = m + 1 := ⟨n - 1, by omega⟩
  have hlt : y < l.length := by
   cases Nat.lt_or_ge y l.length with
   | inl h => exact h
   | inr h => rw [List.drop_of_length_le h] at hd; cases hd
  rw [drop_cons hlt] at hd
  injection hd with hd1 hd2
  have hmem : t ∈ l := by rw [← hd1]; exact List.getElem_mem hlt
  obtain ⟨a, g1, g2, g3, g4, g5⟩ := colT_at s l 0 (by omega) ho t hmem
  have hlen := colT_len s l 0 (by omega) ho
  have hle := cnt_le s l 0 (by omega) ho
  have e : cnt (t :: r) = (bif t.Kind == 1 then 0 else t.Text.length) + cnt r := by simp [cnt]
  rw [e] at hc
  rw [ml_FnColors_l1, lt_true hlt, cond_true]
  have h3 := law_l3 N (colT s.length 0 l) true (by omega) (l, f) y t (by rw [List.getElem?_eq_getElem hlt, hd1]) (by omega) a g1 (by omega) g4 (fun j hj => by have := g5 j hj; simpa using this) c ⟨hc0, by omega⟩ (ml_FnColors_l1 N n) N 0 (by omega) (by omega)
  have h3 : ml_FnColors_l3 N (ml_FnColors_l1 N n) N ((colT s.length 0 l, true), c, (y : Int), (l, f), 0) = _ := h3
  rw [h3]
  exact law_l1 N hN s hs l f ho hl r n (y + 1) _ hd2 (by omega) (by omega) (by omega) (by omega)
theorem colors_is (N : Nat) (s : List UInt8) (hN : 5000 < N) : ((mi_Classes N s).bind fun r8 => (ms_Lex N s).bind fun r10 => (bif (!(r8.2 == (r10.2.Kind == 0))) then some true else (bif r8.2 then bif ((r8.1.length : Int) != (s.length : Int)) then some true else (bif (!r8.2) then some (!(r8.1 == [])) else (some false)) else (bif (!r8.2) then some (!(r8.1 == [])) else (some false)))).bind fun y12 => bif y12 then some false else (ml_FnColors_l1 N N (r8, r10, 0, 0))) = some true := by
 obtain ⟨ts, f, h1, h⟩ := classesI N s hN
 rw [h1]
 rcases h with ⟨rfl, hs, ho, h2⟩ | ⟨hf, rfl, h2⟩
 ·rw [h2]
  simp only [Option.bind_some]
  have hlen := colT_len s ts 0 (by omega) ho
  have e1 : (((colT s.length 0 ts).length : Int) != (s.length : Int)) = false := by rw [hlen]; simp
  have e2 : (!(true == ((⟨0, 0⟩ : SFault).Kind == 0))) = false := rfl
  rw [e2, e1]
  simp only [cond_true, cond_false, Bool.not_true, Option.bind_some]
  have hl : ∀ (l : List SToken) (lo : Nat), lo ≤ s.length → OrdT s lo l → l.length ≤ s.length - lo := by
   intro l
   induction l with
   | nil => intro lo _ _; simp
   | cons t r ih =>
    rintro lo h ⟨_, a, g2, g3, g4, g5, g6⟩
    have := ih _ g5 g6
    simp only [List.length_cons]; omega
  have := hl ts 0 (by omega) ho
  exact law_l1 N hN s hs ts ⟨0, 0⟩ ho (by omega) ts N 0 0 rfl (by omega) (by omega) (by omega) (by omega)
 ·rw [h2]
  have e2 : (f.Kind == 0) = false := by simpa using hf
  simp only [Option.bind_some, e2, beq_self_eq_true, Bool.not_true, cond_false, Bool.not_false, cond_true]
  obtain ⟨M, hM⟩ : ∃ m, N = m + 1 := ⟨N - 1, by omega⟩
  rw [show ml_FnColors_l1 N N = ml_FnColors_l1 N (M + 1) by rw [← hM], ml_FnColors_l1]
  have e3 : decide ((0 : Int) < (([] : List SToken).length : Int)) = false := rfl
  rw [e3, cond_false]
  exact law_l4 N [] false (by simp) _ N 0 0 (by simp; omega) (by simp) rfl

end Go.Proofs.Tryz

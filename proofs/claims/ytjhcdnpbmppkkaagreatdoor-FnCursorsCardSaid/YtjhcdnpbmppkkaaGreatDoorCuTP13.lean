/-
 Plain lemmas on the models, part 13.
-/
import Derived.Test.YtjhcdnpbmppkkaaGreatDoorCuTP12
namespace Go.Proofs.Tryz
open Go.Av
set_option maxRecDepth 100000
set_option linter.unusedSimpArgs false
set_option linter.unusedVariables false

def nlG (s : List UInt8) : Nat → Nat
 | 0 => 0
 | i + 1 => if s[i]? = some 10 then i + 1 else nlG s i

theorem nlG_succ (s : List UInt8) (i : Nat) : nlG s (i + 1) = if s[i]? = some 10 then i + 1 else nlG s i := rfl

theorem nlG_le (s : List UInt8) : ∀ i, nlG s i ≤ i
 | 0 => Nat.le_refl _
 | i + 1 => by
  unfold nlG
  split
  ·exact Nat.le_refl _
  ·have := nlG_le s i; omega

theorem nlG_take (s : List UInt8) (m : Nat) : ∀ i, i ≤ m → nlG (s.take m) i = nlG s i
 | 0, _ => rfl
 | i + 1, h => by
  rw [nlG_succ, nlG_succ, List.getElem?_take, if_pos (show i < m by omega), nlG_take s m i (Nat.le_of_succ_le h)]

theorem b10 (b : UInt8) : (((b).toNat : Int) == 10) = (b == 10) := by
 cases h : (b == 10) with
 | true => have := eq_of_beq h; subst this; rfl
 | false =>
  have hne : b ≠ 10 := by simpa using h
  have : ¬ b.toNat = 10 := fun e => hne (UInt8.toNat.inj e)
  simp; omega

theorem count_step (s : List UInt8) {i : Nat} (h : i < s.length) : (s.take (i + 1)).count 10 = (s.take i).count 10 + if s[i] = 10 then 1 else 0 := by
 rw [List.take_add_one, List.getElem?_eq_getElem h]
 simp only [Option.toList_some, List.count_append, List.count_singleton]
 by_cases hb : s[i] = 10 <;> simp [hb]

theorem spec_l (N : Nat) (s : List UInt8) (m : Nat) (hm : m ≤ s.length) (hs : s.length ≤ 1048576) : ∀ (n i : Nat), m - i < n → i ≤ m →
  ms_LineCol_l1 N n (s, (m : Int), 1 + ((s.take i).count 10 : Int), (nlG s i : Int), (i : Int)) = some (1 + ((s.take m).count 10 : Int), (m : Int) - nlG s m + 1) := by
 intro n
 induction n with
 | zero => intro i h; omega
 | succ n ih =>
  intro i hn hi
  rw [ms_LineCol_l1]
  by_cases h : i < m
  ·have hlt : i < s.length := by omega
   have hst : IntKind.wrap .i64 ((i : Int) + 1) = ((i + 1 : Nat) : Int) := step64 hlt (by simp only [maxLen]; omega)
   have hc : (s.take i).count 10 ≤ s.length := Nat.le_trans List.count_le_length (by simp; omega)
   have hb : s[i]? = some s[i] := List.getElem?_eq_getElem hlt
   simp only [lt_true h, cond_true, ix_nat hlt, Option.bind_some, b10, ms_LineCol_k2, hst]
   rw [wrap64 (n := 1 + ((s.take i).count 10 : Int) + 1) (by omega) (by omega)]
   have h2 := ih (i + 1) (by omega) (by omega)
   rw [count_step s hlt] at h2
   rw [nlG_succ, hb] at h2
   by_cases he : s[i] = 10
   ·simp only [he, beq_self_eq_true, cond_true, if_true] at h2 ⊢
    rw [← h2]
    congr 2
   ·have hbq : (s[i] == 10) = false := by simpa using he
    have hso : ¬ (some s[i] = some 10) := by simpa using he
    simp only [hbq, cond_false, he, if_false, hso, Nat.add_zero] at h2 ⊢
    exact h2
  ·simp only [lt_false h, cond_false]
   have : i = m := by omega
   subst this
   have := nlG_le s i
   rw [wrap64 (n := (i : Int) - nlG s i) (by omega) (by omega), wrap64 (by omega) (by omega)]

theorem last_l (N : Nat) (p : List UInt8) (hp : p.length ≤ 1048576) : ∀ (n j : Nat), j < n → j ≤ p.length →
  m_bytealg_LastIndexByteString_l1 N n (p, 10, (j : Int) - 1) = some ((nlG p j : Int) - 1) := by
 intro n
 induction n with
 | zero => intro j h; omega
 | succ n ih =>
  intro j hn hj
  rw [m_bytealg_LastIndexByteString_l1]
  cases j with
  | zero => simp [nlG]
  | succ j =>
   have hlt : j < p.length := by omega
   have hge : decide (((j + 1 : Nat) : Int) - 1 ≥ 0) = true := decide_eq_true (by omega)
   have e1 : ((j + 1 : Nat) : Int) - 1 = (j : Int) := by omega
   rw [e1] at hge ⊢
   rw [wrap64 (n := (j : Int) - 1) (by omega) (by omega)]
   simp only [hge, cond_true, ix_nat hlt, Option.bind_some, b10]
   rw [nlG_succ, List.getElem?_eq_getElem hlt]
   by_cases he : p[j] = 10
   ·simp [he]
   ·have hbq : (p[j] == 10) = false := by simpa using he
    have hso : ¬ (some p[j] = some 10) := by simpa using he
    rw [hbq, if_neg hso, cond_false]
    exact ih j (by omega) (by omega)

theorem linecol_same (N : Nat) (s : List UInt8) (m : Int) (hs : s.length ≤ 1048576) (hN : 1048577 < N) : ∃ r, ms_LineCol N s m = some r ∧ mi_LineCol N s m = some r := by
 unfold ms_LineCol mi_LineCol ms_l1In mi_within
 by_cases h : 0 ≤ m ∧ m ≤ s.length
 ·obtain ⟨m, rfl⟩ := Int.eq_ofNat_of_zero_le h.1
  have hm : m ≤ s.length := by omega
  have h1 : decide ((m : Int) ≥ 0) = true := by simp
  have h2 : decide ((m : Int) ≤ (s.length : Int)) = true := by simp [hm]
  simp only [h1, h2, cond_true, Option.bind_some, Bool.not_true, cond_false]
  have h3 := spec_l N s m hm hs N 0 (by omega) (by omega)
  simp only [List.take_zero, List.count_nil, nlG] at h3
  refine ⟨_, h3, ?_⟩
  have hcut := cut_nat (l := s) (Nat.zero_le m) hm
  simp only [List.drop_zero, Nat.sub_zero] at hcut
  have hcut' : cut s 0 (m : Int) = some (s.take m) := hcut
  have hl : (s.take m).length = m := by simp; omega
  have hlast := last_l N (s.take m) (by omega) N m (by omega) (by omega)
  have hc : (s.take m).count 10 ≤ m := by have := List.count_le_length (a := 10) (l := s.take m); omega
  have hg := nlG_le s m
  have hcount : m_strings_Count (s.take m) = some ((s.take m).count 10 : Int) := rfl
  rw [hcut', Option.bind_some, hcount, Option.bind_some, Option.bind_some]
  unfold m_strings_LastIndexByte m_bytealg_LastIndexByteString
  rw [hl, wrap64 (n := (m : Int) - 1) (by omega) (by omega), hlast, Option.bind_some, Option.bind_some, nlG_take s m m (Nat.le_refl m), wrap64 (by omega) (by omega), wrap64 (by omega) (by omega)]
  congr 2
  ·omega
  ·omega
 ·refine ⟨(0, 0), ?_, ?_⟩
  all_goals
   by_cases h1 : m ≥ 0
   ·have h2 : ¬ m ≤ (s.length : Int) := fun h' => h ⟨h1, h'⟩
    simp [h1, h2]
   ·simp [h1]

theorem lineCol_ex (N : Nat) (s : List UInt8) (m : Int) (hs : s.length ≤ 1048576) (hN : 1048577 < N) : ∃ line col : Nat, ms_LineCol N s m = some ((line : Int), (col : Int)) ∧ mi_LineCol N s m = some ((line : Int), (col : Int)) ∧ line ≤ 2000000 ∧ col ≤ 2000000 := by
 obtain ⟨r, h1, h2⟩ := linecol_same N s m hs hN
 have key : ∃ line col : Nat, ms_LineCol N s m = some ((line : Int), (col : Int)) ∧ line ≤ 2000000 ∧ col ≤ 2000000 := by
  unfold ms_LineCol ms_l1In
  by_cases h : 0 ≤ m ∧ m ≤ s.length
  ·obtain ⟨m, rfl⟩ := Int.eq_ofNat_of_zero_le h.1
   have hm : m ≤ s.length := by omega
   have g1 : decide ((m : Int) ≥ 0) = true := by simp
   have g2 : decide ((m : Int) ≤ (s.length : Int)) = true := by simp [hm]
   have h3 := spec_l N s m hm hs N 0 (by omega) (by omega)
   simp only [List.take_zero, List.count_nil, nlG] at h3
   have hl : (s.take m).length = m := by simp; omega
   have hc : (s.take m).count 10 ≤ m := by have := List.count_le_length (a := 10) (l := s.take m); omega
   have hg := nlG_le s m
   refine ⟨1 + (s.take m).count 10, m - nlG s m + 1, ?_, by omega, by omega⟩
   simp only [g1, g2, cond_true, Option.bind_some, Bool.not_true, cond_false]
   refine Eq.trans h3 ?_
   congr 2
   omega
  ·refine ⟨0, 0, ?_, by omega, by omega⟩
   by_cases h1 : m ≥ 0
   ·have h2 : ¬ m ≤ (s.length : Int) := fun h' => h ⟨h1, h'⟩
    simp [h1, h2]
   ·simp [h1]
 obtain ⟨line, col, k1, k2, k3⟩ := key
 rw [k1] at h1
 cases h1
 exact ⟨line, col, k1, h2, k2, k3⟩

def lines (s : List UInt8) : List (List UInt8) :=
 if _ : (fl s).length < s.length then fl s :: lines (s.drop ((fl s).length + 1)) else [fl s]
termination_by s.length
decreasing_by simp; omega

theorem lines_more {s : List UInt8} (h : (fl s).length < s.length) : lines s = fl s :: lines (s.drop ((fl s).length + 1)) := by
 rw [lines, dif_pos h]
theorem lines_one {s : List UInt8} (h : ¬ (fl s).length < s.length) : lines s = [fl s] := by
 rw [lines, dif_neg h]

theorem fl_take (s : List UInt8) : s.take (fl s).length = fl s := by
 induction s with
 | nil => rfl
 | cons c s ih =>
  by_cases h : c = 10
  ·subst h; rfl
  ·rw [fl_cons h, List.length_cons, List.take_succ_cons, ih]

theorem fl_all {s : List UInt8} (h : ¬ (fl s).length < s.length) : fl s = s := by
 have := fl_take s
 rw [List.take_of_length_le (by have := fl_le s; omega)] at this
 exact this.symm

theorem fl_count {s : List UInt8} (h : (fl s).length < s.length) : s.count 10 = (s.drop ((fl s).length + 1)).count 10 + 1 := by
 induction s with
 | nil => simp [fl_nil] at h
 | cons c s ih =>
  by_cases hc : c = 10
  ·subst hc
   rw [fl_end]
   simp
  ·rw [fl_cons hc] at h ⊢
   simp only [List.length_cons, List.drop_succ_cons] at h ⊢
   rw [← ih (by omega), List.count_cons]
   have : (c == 10) = false := by simpa using hc
   simp [this]

theorem fl_count0 {s : List UInt8} (h : ¬ (fl s).length < s.length) : s.count 10 = 0 := by
 induction s with
 | nil => rfl
 | cons c s ih =>
  by_cases hc : c = 10
  ·subst hc
   rw [fl_end] at h
   simp at h
  ·rw [fl_cons hc] at h
   simp only [List.length_cons] at h
   rw [List.count_cons, ih (by omega)]
   have : (c == 10) = false := by simpa using hc
   simp [this]

theorem lines_len (s : List UInt8) : (lines s).length = s.count 10 + 1 := by
 generalize hn : s.length = n
 induction n using Nat.strongRecOn generalizing s with
 | ind n ih =>
  by_cases h : (fl s).length < s.length
  ·rw [lines_more h, fl_count h, List.length_cons, ih _ (by simp; omega) _ rfl]
  ·rw [lines_one h, fl_count0 h]
   rfl

def offs (ls : List (List UInt8)) : Nat := (ls.map (fun l => l.length + 1)).sum

theorem offs_cons (l : List UInt8) (ls : List (List UInt8)) : offs (l :: ls) = l.length + 1 + offs ls := by simp [offs]
theorem offs_take (ls : List (List UInt8)) (r : Nat) : offs (ls.take r) ≤ offs ls := by
 induction ls generalizing r with
 | nil => simp
 | cons l ls ih =>
  cases r with
  | zero => simp [offs]
  | succ r => rw [List.take_succ_cons, offs_cons, offs_cons]; have := ih r; omega

theorem lines_offs (s : List UInt8) : offs (lines s) = s.length + 1 := by
 generalize hn : s.length = n
 induction n using Nat.strongRecOn generalizing s with
 | ind n ih =>
  by_cases h : (fl s).length < s.length
  ·rw [lines_more h, offs_cons, ih _ (by simp; omega) _ rfl]
   simp
   omega
  ·have := fl_le s
   rw [lines_one h, offs_cons]
   simp [offs]
   omega

theorem index_is (s : List UInt8) : m_strings_Index s = some (if (fl s).length < s.length then ((fl s).length : Int) else -1) := by
 have h0 : m_stringslite_Index s = some (Go.Lib.indexByte s 10) := by
  unfold m_stringslite_Index
  by_cases h : (([10] : List UInt8) == s) = true
  ·have := eq_of_beq h
   subst this
   rfl
  ·have hf : (([10] : List UInt8) == s) = false := by simpa using h
   rw [hf, cond_false]
   rfl
 unfold m_strings_Index
 rw [h0, Option.bind_some, idx_is]

theorem split_l3 (N : Nat) (s : List UInt8) (hs : s.length ≤ 1048576) (c : Nat) (hc : (lines s).length = c + 1) : ∀ (n : Nat) (dn : List (List UInt8)) (rest : List UInt8) (i : Nat), dn.length = i → i ≤ c → rest.length ≤ s.length → lines s = dn ++ lines rest → c - i < n →
  m_strings_genSplit_l3 N n (0, s, ((c + 1 : Nat) : Int), rest, (i : Int), dn ++ List.replicate (c + 1 - i) []) = some (lines s) := by
 have hcl : c ≤ 1048576 := by
  have := lines_len s
  have h2 : s.count 10 ≤ s.length := List.count_le_length
  omega
 have hcs : c ≤ s.length := by
  have := lines_len s
  have h2 : s.count 10 ≤ s.length := List.count_le_length
  omega
 have hy : (if (IntKind.wrap .i64 ((s.length : Int) + 1)) < ((c + 1 : Nat) : Int) then (IntKind.wrap .i64 ((s.length : Int) + 1)) else ((c + 1 : Nat) : Int)) = ((c + 1 : Nat) : Int) := by
  rw [wrap64 (by omega) (by omega), if_neg (by omega)]
 intro n
 induction n with
 | zero => intro dn rest i _ _ _ _ h; omega
 | succ n ih =>
  intro dn rest i hdn hi hr hl hn
  have hll : (lines rest).length = c + 1 - i := by
   have := congrArg List.length hl
   simp only [List.length_append] at this
   omega
  have hlen : (dn ++ List.replicate (c + 1 - i) ([] : List UInt8)).length = c + 1 := by simp; omega
  have hlt : i < (dn ++ List.replicate (c + 1 - i) ([] : List UInt8)).length := by omega
  have hset : ∀ x : List UInt8, (dn ++ List.replicate (c + 1 - i) ([] : List UInt8)).set i x = (dn ++ [x]) ++ List.replicate (c + 1 - (i + 1)) [] := by
   intro x
   have e : c + 1 - i = (c + 1 - (i + 1)) + 1 := by omega
   rw [e, List.replicate_succ]
   have := set_mid dn [] x (List.replicate (c + 1 - (i + 1)) ([] : List UInt8))
   rw [hdn] at this
   rw [this]
   simp
  rw [m_strings_genSplit_l3, hy, wrap64 (n := ((c + 1 : Nat) : Int) - 1) (by omega) (by omega)]
  by_cases h : i < c
  ·have hd : decide ((i : Int) < ((c + 1 : Nat) : Int) - 1) = true := decide_eq_true (by omega)
   have hmore : (fl rest).length < rest.length := by
    cases Nat.lt_or_ge (fl rest).length rest.length with
    | inl h => exact h
    | inr h' => rw [lines_one (by omega)] at hll; simp at hll; omega
   have hst : IntKind.wrap .i64 ((i : Int) + 1) = ((i + 1 : Nat) : Int) := by rw [wrap64 (by omega) (by omega)]; omega
   have hneg : decide (((fl rest).length : Int) < 0) = false := decide_eq_false (by omega)
   have hcut1 := cut_nat (l := rest) (Nat.zero_le (fl rest).length) (by omega)
   have hcut2 := cut_nat (l := rest) (a := (fl rest).length + 1) (b := rest.length) (by omega) (Nat.le_refl _)
   simp only [List.drop_zero, Nat.sub_zero, Int.natCast_zero] at hcut1
   have hw1 : IntKind.wrap .i64 (((fl rest).length : Int) + 0) = ((fl rest).length : Int) := by rw [wrap64 (by omega) (by omega)]; omega
   have hw2 : IntKind.wrap .i64 (((fl rest).length : Int) + 1) = (((fl rest).length + 1 : Nat) : Int) := by rw [wrap64 (by omega) (by omega)]; omega
   have e3 : (rest.drop ((fl rest).length + 1)).take (rest.length - ((fl rest).length + 1)) = rest.drop ((fl rest).length + 1) := List.take_of_length_le (by simp)
   rw [hd, cond_true, index_is, if_pos hmore, Option.bind_some, hneg, cond_false, hw1, hw2, hcut1, Option.bind_some, ix_nat hlt, Option.bind_some, upd_nat hlt, Option.bind_some, hcut2, Option.bind_some, hst, hset, fl_take, e3]
   refine ih (dn ++ [fl rest]) (rest.drop ((fl rest).length + 1)) (i + 1) (by simp [hdn]) (by omega) (by simp; omega) ?_ (by omega)
   rw [hl, lines_more hmore]
   simp
  ·have hic : i = c := by omega
   subst hic
   have hd : decide ((i : Int) < ((i + 1 : Nat) : Int) - 1) = false := decide_eq_false (by omega)
   have hone : ¬ (fl rest).length < rest.length := by
    intro h
    rw [lines_more h] at hll
    have := lines_len (rest.drop ((fl rest).length + 1))
    simp only [List.length_cons] at hll
    omega
   have hst : IntKind.wrap .i64 ((i : Int) + 1) = ((i + 1 : Nat) : Int) := by rw [wrap64 (by omega) (by omega)]; omega
   rw [hd, cond_false]
   simp only [m_strings_genSplit_k2]
   rw [ix_nat hlt, Option.bind_some, upd_nat hlt, Option.bind_some, hset, hst]
   have hcut := cut_nat (l := (dn ++ [rest]) ++ List.replicate (i + 1 - (i + 1)) []) (Nat.zero_le (i + 1)) (by simp; omega)
   simp only [List.drop_zero, Nat.sub_zero, Int.natCast_zero] at hcut
   rw [hcut, Option.bind_some, hl, lines_one hone, fl_all hone]
   congr 1
   rw [Nat.sub_self, List.replicate_zero, List.append_nil, List.take_of_length_le (by simp; omega)]

theorem split_is (N : Nat) (s : List UInt8) (hs : s.length ≤ 1048576) (hN : 1048577 < N) : m_strings_Split N s = some (lines s) := by
 have hcl := lines_len s
 have h2 : s.count 10 ≤ s.length := List.count_le_length
 unfold m_strings_Split m_strings_genSplit
 have e0 : ((-1 : Int) == 0) = false := rfl
 have e1 : decide ((-1 : Int) < 0) = true := rfl
 have hcount : m_strings_Count s = some (s.count 10 : Int) := rfl
 rw [e0, cond_false, e1, cond_true, hcount, Option.bind_some, wrap64 (n := (s.count 10 : Int) + 1) (by omega) (by omega)]
 unfold m_strings_genSplit_k1
 have hy : (if (IntKind.wrap .i64 ((s.length : Int) + 1)) < (s.count 10 : Int) + 1 then (IntKind.wrap .i64 ((s.length : Int) + 1)) else (s.count 10 : Int) + 1) = ((s.count 10 + 1 : Nat) : Int) := by
  rw [wrap64 (by omega) (by omega), if_neg (by omega)]
  omega
 have hmk := mk_some (n := 16) (z := ([] : List UInt8)) (i := s.count 10 + 1) (by omega) (by simp only [maxLen]; omega)
 simp only [hy]
 rw [hmk, Option.bind_some]
 have h3 := split_l3 N s hs (s.count 10) (by omega) N [] s 0 rfl (by omega) (Nat.le_refl _) rfl (by omega)
 have e4 : (s.count 10 : Int) + 1 = ((s.count 10 + 1 : Nat) : Int) := by omega
 rw [e4]
 have h3' : m_strings_genSplit_l3 N N (0, s, ((s.count 10 + 1 : Nat) : Int), s, 0, List.replicate (s.count 10 + 1) []) = some (lines s) := h3
 rw [h3', Option.bind_some]

theorem offs_len (l : List (List UInt8)) : l.length ≤ offs l := by
 induction l with
 | nil => simp
 | cons x l ih => rw [offs_cons]; simp; omega

theorem sum_l (N : Nat) (ls : List (List UInt8)) (hll : ls.length ≤ 4000000) : ∀ (n i : Nat) (y : Int), ls.length - i < n → i ≤ ls.length → 0 ≤ y → y + offs (ls.drop i) ≤ 4000000 →
  mi_OffsetOf_l1 N n (ls, y, (i : Int)) = some (y + offs (ls.drop i), true) := by
 intro n
 induction n with
 | zero => intro i y h; omega
 | succ n ih =>
  intro i y hn hi h0 h1
  rw [mi_OffsetOf_l1]
  by_cases h : i < ls.length
  ·rw [drop_cons h, offs_cons] at h1
   have hst : IntKind.wrap .i64 ((i : Int) + 1) = ((i + 1 : Nat) : Int) := by rw [wrap64 (by omega) (by omega)]; omega
   simp only [lt_true h, cond_true, ix_nat h, Option.bind_some, hst]
   rw [wrap64 (n := (ls[i].length : Int) + 1) (by omega) (by omega), wrap64 (by omega) (by omega), ih (i + 1) _ (by omega) (by omega) (by omega) (by omega), drop_cons h, offs_cons]
   congr 2
   skip
   omega
  ·simp only [lt_false h, cond_false]
   rw [drop_nil h]
   simp [offs]


theorem tdiv_nat (u : Nat) : Int.tdiv (u : Int) 10 = ((u / 10 : Nat) : Int) := by rw [Int.tdiv_eq_ediv_of_nonneg (by omega)]; omega
theorem tmod_nat (u : Nat) : Int.tmod (u : Int) 10 = ((u % 10 : Nat) : Int) := by rw [Int.tmod_eq_emod_of_nonneg (by omega)]; omega

theorem bytI_digit (d : Nat) (h : d < 10) : bytI (48 + (d : Int)) = UInt8.ofNat (48 + d) := by
 have : d = 0 ∨ d = 1 ∨ d = 2 ∨ d = 3 ∨ d = 4 ∨ d = 5 ∨ d = 6 ∨ d = 7 ∨ d = 8 ∨ d = 9 := by omega
 rcases this with rfl | rfl | rfl | rfl | rfl | rfl | rfl | rfl | rfl | rfl <;> decide

theorem decDigits_len : ∀ u : Nat, (Lib.decDigits u).length ≤ u + 1 := by
 intro u
 induction u using Nat.strongRecOn with
 | ind u ih =>
  rw [Lib.decDigits]
  split
  ·simp
  ·have := ih (u / 10) (by omega)
   rw [List.length_append, List.length_singleton]
   omega

theorem dec_l (N : Nat) (a : Int) (ha : 0 ≤ a) : ∀ (n u : Nat) (s : List UInt8), 0 < u → u < n → u ≤ 2000000 → s.length + u ≤ 4000000 → ms_Dec_l1 N (n + 1) (a, (u : Int), s) = some (Lib.decDigits u ++ s) := by
 intro n
 induction n with
 | zero => intro u s h0 h; omega
 | succ n ih =>
  intro u s h0 hn hu hs
  rw [ms_Dec_l1]
  have hne : ((u : Int) != 0) = true := by simp; omega
  have hm : decide (Int.tmod (u : Int) 10 < 0) = false := by rw [tmod_nat]; simp; omega
  simp only [hne, cond_true, hm, cond_false]
  unfold ms_Dec_k2
  simp only [tmod_nat, tdiv_nat]
  rw [wrap64 (by omega) (by omega), bytI_digit _ (by omega), cat_some (by simp [maxLen]; omega), Option.bind_some, wrap64 (by omega) (by omega)]
  rw [Lib.decDigits]
  by_cases h : u < 10
  ·rw [dif_pos h]
   have hz : u / 10 = 0 := by omega
   have hr : u % 10 = u := by omega
   rw [hz, hr, ms_Dec_l1]
   have hneg : decide (a < 0) = false := by simp; omega
   simp only [hneg, cond_false]
   rfl
  ·rw [dif_neg h]
   obtain ⟨n, rfl⟩ : ∃ m, n = m + 1 := ⟨n - 1, by omega⟩
   rw [ih (u / 10) _ (by omega) (by omega) (by omega) (by simp; omega)]
   simp

theorem dec_is (N : Nat) (u : Nat) (hN : 2000002 < N) (hu : u ≤ 2000000) : ms_Dec N (u : Int) = some (Lib.itoa u) := by
 unfold ms_Dec
 by_cases h : u = 0
 ·subst h
  have e : Lib.itoa ((0 : Nat) : Int) = [48] := by
   unfold Lib.itoa
   rw [if_neg (by omega)]
   show Lib.decDigits 0 = [48]
   rw [Lib.decDigits]; rfl
  rw [e]; rfl
 ·have hne : ((u : Int) == 0) = false := by simp; omega
  rw [hne, cond_false]
  obtain ⟨n, rfl⟩ : ∃ n, N = n + 1 := ⟨N - 1, by omega⟩
  rw [dec_l _ (u : Int) (by omega) n u [] (by omega) (by omega) hu (by simp; omega), List.append_nil]
  unfold Lib.itoa
  rw [if_neg (by omega), Int.toNat_natCast]

theorem itoaS_is (u : Nat) (hu : u ≤ 2000000) : m_strconv_Itoa (u : Int) = some (Lib.itoa u) := by
 unfold m_strconv_Itoa itoaO
 rw [if_pos ⟨by omega, by omega⟩]

theorem itoa_len (u : Nat) : (Lib.itoa (u : Int)).length ≤ u + 1 := by
 unfold Lib.itoa
 rw [if_neg (by omega), Int.toNat_natCast]
 exact decDigits_len u

theorem l1In_isF (a b c : Int) : ms_l1In a b c = some (decide (a ≥ b) && decide (a ≤ c)) := by
 unfold ms_l1In
 cases decide (a ≥ b) <;> rfl

theorem fword_ex (k : Int) : ∃ w : List UInt8, ms_FaultWord k = some w ∧ mi_FaultWord k = some w ∧ w.length ≤ 6 := by
 have e : ∀ k : Int, mi_FaultWord k = ms_FaultWord k := fun k => rfl
 rw [e]
 unfold ms_FaultWord
 rw [l1In_isF, Option.bind_some]
 cases hb : (decide (k ≥ 0) && decide (k ≤ 4)) with
 | false => exact ⟨[], rfl, rfl, by simp⟩
 | true =>
  simp only [Bool.and_eq_true, decide_eq_true_eq] at hb
  have : k = 0 ∨ k = 1 ∨ k = 2 ∨ k = 3 ∨ k = 4 := by omega
  rcases this with rfl | rfl | rfl | rfl | rfl <;> exact ⟨_, rfl, rfl, by decide⟩

theorem faultText_ex (N : Nat) (s : List UInt8) (f : SFault) (hN : 2000002 < N) (hs : s.length ≤ 1048576) : ∃ r, ms_FaultText N s f = some r ∧ mi_FaultText N s f = some r := by
 obtain ⟨line, col, l1, l2, l3, l4⟩ := lineCol_ex N s f.At hs (by omega)
 obtain ⟨w, w1, w2, w3⟩ := fword_ex f.Kind
 unfold ms_FaultText mi_FaultText
 rw [l1, l2]
 simp only [Option.bind_some, w1, w2]
 cases hc : f.Kind == 0 with
 | true => exact ⟨[], rfl, rfl⟩
 | false =>
  cases hw : w == [] with
  | true => exact ⟨[], rfl, rfl⟩
  | false =>
   cases hl : (line : Int) == 0 with
   | true => exact ⟨[], rfl, rfl⟩
   | false =>
    have il := itoa_len line
    have ic := itoa_len col
    unfold mi_Dec
    simp only [cond_false, Option.bind_some, dec_is N line hN (by omega), dec_is N col hN (by omega), itoaS_is line (by omega), itoaS_is col (by omega)]
    rw [cat_some (by simp [maxLen]; omega), Option.bind_some, cat_some (by simp [maxLen]; omega), Option.bind_some, cat_some (by simp [maxLen]; omega), Option.bind_some, cat_some (by simp [maxLen]; omega), Option.bind_some]
    exact ⟨_, rfl, rfl⟩

end Go.Proofs.Tryz

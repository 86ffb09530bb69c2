/-
 Plain lemmas on the models, part 14.
-/
import Derived.Test.YtjhcdnpbmppkkaaGreatDoorCuTP13
namespace Go.Proofs.Tryz
open Go.Av
set_option maxRecDepth 100000
set_option linter.unusedSimpArgs false
set_option linter.unusedVariables false

theorem fl_split : ∀ {s : List UInt8}, (fl s).length < s.length → s = fl s ++ 10 :: s.drop ((fl s).length + 1)
 | [], h => by simp at h
 | c :: s, h => by
  by_cases hc : c = 10
  ·subst hc
   rw [fl_end]
   rfl
  ·rw [fl_cons hc] at h ⊢
   simp only [List.length_cons] at h
   rw [List.length_cons, List.drop_succ_cons, List.cons_append]
   congr 1
   exact fl_split (by omega)
theorem fl_no : ∀ (s : List UInt8), (10 : UInt8) ∉ fl s
 | [] => by rw [fl_nil]; simp
 | c :: s => by
  by_cases hc : c = 10
  ·subst hc
   rw [fl_end]; simp
  ·rw [fl_cons hc]
   simp only [List.mem_cons, not_or]
   exact ⟨fun h => hc h.symm, fl_no s⟩
theorem nlG_low {a r : List UInt8} (h : (10 : UInt8) ∉ a) : ∀ m, m ≤ a.length → nlG (a ++ r) m = 0
 | 0, _ => rfl
 | m + 1, hm => by
  rw [nlG_succ, List.getElem?_append_left (by omega), List.getElem?_eq_getElem (show m < a.length by omega)]
  have : ¬ (some a[m] = some 10) := fun e => h (by rw [← Option.some.inj e]; exact List.getElem_mem _)
  rw [if_neg this, nlG_low h m (by omega)]
theorem nlG_high (a r : List UInt8) : ∀ m, nlG (a ++ 10 :: r) (a.length + 1 + m) = a.length + 1 + nlG r m
 | 0 => by
  rw [Nat.add_zero, nlG_succ, List.getElem?_append_right (by omega), Nat.sub_self]
  rfl
 | m + 1 => by
  rw [show a.length + 1 + (m + 1) = (a.length + 1 + m) + 1 by omega, nlG_succ, nlG_succ, List.getElem?_append_right (by omega), show a.length + 1 + m - a.length = m + 1 by omega, List.getElem?_cons_succ, nlG_high a r m]
  split <;> omega
theorem line_at : ∀ (k : Nat) (s : List UInt8), s.length ≤ k → ∀ m, m ≤ s.length → ∃ l, (lines s)[(s.take m).count 10]? = some l ∧ offs ((lines s).take ((s.take m).count 10)) = nlG s m ∧ m - nlG s m ≤ l.length ∧ nlG s m ≤ m := by
 intro k
 induction k with
 | zero =>
  intro s hs m hm
  have : s = [] := List.length_eq_zero_iff.1 (by omega)
  subst this
  have hm0 : m = 0 := by simpa using hm
  subst hm0
  have h : ¬ (fl []).length < ([] : List UInt8).length := by simp
  rw [lines_one h]
  exact ⟨_, rfl, rfl, by simp, Nat.le_refl _⟩
 | succ k ih =>
  intro s hs m hm
  have hno := fl_no s
  by_cases h : (fl s).length < s.length
  ·have hsp := fl_split h
   generalize ha : fl s = a at *
   generalize hr : s.drop (a.length + 1) = r at *
   have hl : lines s = a :: lines r := by rw [lines_more (by rw [ha]; exact h), ha, hr]
   have hrl : r.length + a.length + 1 = s.length := by rw [hsp, List.length_append, List.length_cons]; omega
   rw [hl]
   by_cases hma : m ≤ a.length
   ·have hc : (s.take m).count 10 = 0 := by
     rw [hsp, List.take_append_of_le_length hma]
     exact List.count_eq_zero.2 fun hh => hno (List.mem_of_mem_take hh)
    rw [hc]
    refine ⟨a, rfl, ?_, ?_, ?_⟩
    ·rw [hsp, nlG_low hno m hma]; rfl
    ·rw [hsp, nlG_low hno m hma]; omega
    ·rw [hsp, nlG_low hno m hma]; omega
   ·obtain ⟨m', rfl⟩ : ∃ m', m = a.length + 1 + m' := ⟨m - (a.length + 1), by omega⟩
    have hc : (s.take (a.length + 1 + m')).count 10 = (r.take m').count 10 + 1 := by
     rw [hsp, show a.length + 1 + m' = a.length + (1 + m') by omega, List.take_length_add_append, show 1 + m' = m' + 1 by omega, List.take_succ_cons, List.count_append, List.count_cons, List.count_eq_zero.2 hno]
     simp
    obtain ⟨l, g1, g2, g3, g4⟩ := ih r (by omega) m' (by omega)
    have hn : nlG s (a.length + 1 + m') = a.length + 1 + nlG r m' := by rw [hsp]; exact nlG_high a r m'
    rw [hc, hn]
    refine ⟨l, by rw [List.getElem?_cons_succ]; exact g1, ?_, by omega, by omega⟩
    rw [List.take_succ_cons, offs_cons, g2]
  ·rw [lines_one h]
   have hall := fl_all h
   have hc : (s.take m).count 10 = 0 := List.count_eq_zero.2 fun hh => hno (by rw [hall]; exact List.mem_of_mem_take hh)
   have hn : nlG s m = 0 := by
    have := nlG_low (r := []) hno m (by rw [hall]; exact hm)
    rw [List.append_nil, hall] at this
    exact this
   rw [hc, hn]
   exact ⟨_, rfl, rfl, by rw [hall]; omega, by omega⟩

theorem lineCol_is (N : Nat) (s : List UInt8) (m : Nat) (hm : m ≤ s.length) (hs : s.length ≤ 1048576) (hN : 1048577 < N) : mi_LineCol N s (m : Int) = some (1 + ((s.take m).count 10 : Int), (m : Int) - nlG s m + 1) := by
 obtain ⟨r, r1, r2⟩ := linecol_same N s (m : Int) hs hN
 have h1 : decide ((m : Int) ≥ 0) = true := by simp
 have h2 : decide ((m : Int) ≤ (s.length : Int)) = true := by simp [hm]
 have h3 := spec_l N s m hm hs N 0 (by omega) (by omega)
 simp only [List.take_zero, List.count_nil, nlG] at h3
 unfold ms_LineCol ms_l1In at r1
 simp only [h1, h2, cond_true, Option.bind_some, Bool.not_true, cond_false] at r1
 have h3 : ms_LineCol_l1 N N (s, (m : Int), 1, 0, 0) = _ := h3
 rw [h3] at r1
 rw [r2, r1]
theorem offset_is (N : Nat) (s : List UInt8) (m : Nat) (hm : m ≤ s.length) (hs : s.length ≤ 1048576) (hN : 1048580 < N) : mi_OffsetOf N s (1 + ((s.take m).count 10 : Int)) ((m : Int) - nlG s m + 1) = some ((m : Int), true) := by
 obtain ⟨l, g1, g2, g3, g4⟩ := line_at s.length s (Nat.le_refl _) m hm
 generalize (s.take m).count 10 = r at *
 have hr : r < (lines s).length := (List.getElem?_eq_some_iff.1 g1).1
 have hll := lines_len s
 have hlo := lines_offs s
 have hlc := offs_len (lines s)
 have ht := offs_take (lines s) r
 have hlr : l.length ≤ 1048577 := by
  have hd2 : offs (lines s) = offs ((lines s).take r) + offs ((lines s).drop r) := by
   have : (lines s) = (lines s).take r ++ (lines s).drop r := (List.take_append_drop r _).symm
   rw [this]
   unfold offs
   rw [List.map_append, List.sum_append, ← this]
  rw [drop_cons hr, offs_cons, (List.getElem?_eq_some_iff.1 g1).2] at hd2
  omega
 have win : ∀ a b c : Int, mi_within a b c = some (decide (a ≥ b) && decide (a ≤ c)) := within_is'
 unfold mi_OffsetOf
 rw [split_is N s hs (by omega), Option.bind_some, win, Option.bind_some]
 rw [decide_eq_true (by omega : (1 + (r : Int)) ≥ 1), decide_eq_true (by omega : (1 + (r : Int)) ≤ ((lines s).length : Int)), Bool.and_self, Bool.not_true, cond_false, wrap64 (n := 1 + (r : Int) - 1) (by omega) (by omega), show 1 + (r : Int) - 1 = (r : Int) by omega, ix_get g1, Option.bind_some, win, wrap64 (n := (l.length : Int) + 1) (by omega) (by omega), decide_eq_true (by omega : (m : Int) - nlG s m + 1 ≥ 1), decide_eq_true (by omega : (m : Int) - nlG s m + 1 ≤ (l.length : Int) + 1)]
 have hcut := cut_nat (l := lines s) (Nat.zero_le r) (by omega)
 simp only [List.drop_zero, Nat.sub_zero, Int.natCast_zero] at hcut
 have hsum := sum_l N ((lines s).take r) (by simp; omega) N 0 ((m : Int) - nlG s m + 1 - 1) (by simp; omega) (by omega) (by omega) (by rw [List.drop_zero]; omega)
 rw [List.drop_zero] at hsum
 have hsum' : mi_OffsetOf_l1 N N ((lines s).take r, (m : Int) - nlG s m + 1 - 1, 0) = _ := hsum
 simp only [Bool.and_self, Bool.not_true, Option.bind_some, cond_false]
 rw [hcut, Option.bind_some, wrap64 (n := (m : Int) - nlG s m + 1 - 1) (by omega) (by omega), hsum', g2]
 congr 2
 omega

theorem wrapu {n : Int} (h0 : 0 ≤ n) (h1 : n ≤ 9223372036854775807) : IntKind.wrap .u64 n = n := by
 have e : IntKind.wrap .u64 n = n % 18446744073709551616 := rfl
 rw [e]
 omega
theorem tokenAt_l (N : Nat) (s : List UInt8) (hs : s.length ≤ 3000) (l : List SToken) (t : SToken) (p : Nat) (a : Nat) (ha : t.At = (a : Int)) (h1 : a ≤ p) (h2 : p < a + t.Text.length) : ∀ (r : List SToken) (n y i : Nat) (lo : Nat), l.drop y = r → y + r.length ≤ 4000 → OrdT s lo r → r[i]? = some t → r.length < n → a + t.Text.length ≤ s.length →
  mi_TokenAt_l1 N n ((p : Int), l, (y : Int)) = some ((y + i : Nat) : Int)
 | [], n, y, i, lo, hd, hy, ho, hi, hn, hal => by simp at hi
 | u :: r, n, y, i, lo, hd, hy, ho, hi, hn, hal => by
  simp only [List.length_cons] at hn hy
  obtain ⟨n, rfl⟩ : ∃ m, n = m + 1 := ⟨n - 1, by omega⟩
  have hlt : y < l.length := by
   cases Nat.lt_or_ge y l.length with
   | inl h => exact h
   | inr h => rw [List.drop_of_length_le h] at hd; cases hd
  rw [drop_cons hlt] at hd
  injection hd with hd1 hd2
  obtain ⟨_, b, k2, k3, k4, k5, k6⟩ := ho
  rw [mi_TokenAt_l1, lt_true hlt, cond_true, ix_nat hlt, Option.bind_some, hd1, k2]
  cases i with
  | zero =>
   have : u = t := by simpa using hi
   subst this
   have hab : a = b := by omega
   subst hab
   rw [decide_eq_true (by omega : (a : Int) ≤ (p : Int)), cond_true, wrapu (n := (p : Int)) (by omega) (by omega), wrapu (n := (a : Int)) (by omega) (by omega), wrapu (n := (p : Int) - a) (by omega) (by omega), wrapu (n := (u.Text.length : Int)) (by omega) (by omega), decide_eq_true (by omega : (p : Int) - a < (u.Text.length : Int))]
   rfl
  | succ i =>
   rw [List.getElem?_cons_succ] at hi
   -- the later token stands behind this one
   have hle : b + u.Text.length ≤ a := by
    have key : ∀ (r : List SToken) (i lo : Nat), OrdT s lo r → r[i]? = some t → lo ≤ a := by
     intro r
     induction r with
     | nil => intro i lo _ h; simp at h
     | cons v r ih =>
      rintro i lo ⟨_, c, q2, q3, q4, q5, q6⟩ h
      cases i with
      | zero =>
       have : v = t := by simpa using h
       subst this
       omega
      | succ i => have := ih i _ q6 (by simpa using h); omega
    exact key r i _ k6 hi
   have hf : (bif decide ((b : Int) ≤ (p : Int)) then some (decide ((IntKind.wrap .u64 ((IntKind.wrap .u64 (p : Int)) - (IntKind.wrap .u64 (b : Int)))) < (IntKind.wrap .u64 (u.Text.length : Int)))) else (some false)) = some false := by
    rw [decide_eq_true (by omega : (b : Int) ≤ (p : Int)), cond_true, wrapu (n := (p : Int)) (by omega) (by omega), wrapu (n := (b : Int)) (by omega) (by omega), wrapu (n := (p : Int) - b) (by omega) (by omega), wrapu (n := (u.Text.length : Int)) (by omega) (by omega), decide_eq_false (by omega : ¬ (p : Int) - b < (u.Text.length : Int))]
   rw [hf, Option.bind_some, cond_false, wrap64 (by omega) (by omega), show (y : Int) + 1 = ((y + 1 : Nat) : Int) by omega, tokenAt_l N s hs l t p a ha h1 h2 r n (y + 1) i _ hd2 (by omega) k6 hi (by omega) hal]
   congr 2
   omega

theorem lex_f_l (N : Nat) (s : List UInt8) (hs : s.length ≤ 3000) (hN : s.length + 200 < N) : ∀ (n i : Nat) (p : Int) (out ts : List SToken) (f : SFault), i ≤ s.length → ms_Lex_l1 N n (s, p, (i : Int), out) = some (ts, f) → f = ⟨0, 0⟩ ∨ f = ⟨1, 0⟩ ∨ ∃ a : Nat, a ≤ s.length ∧ f = ⟨2, (a : Int)⟩ := by
 intro n
 induction n with
 | zero => intro i p out ts f _ h; cases h
 | succ n ih =>
  intro i p out ts f hi hh
  rw [ms_Lex_l1] at hh
  by_cases h : i < s.length
  ·have hbl : ∀ c : Int, ms_IsBlank c = some (c == 32 || c == 9) := by
    intro c
    unfold ms_IsBlank
    cases (c == 32) <;> rfl
   have hst := step_i (by omega : s.length ≤ 1048576) (by omega : i ≤ s.length + 1)
   simp only [lt_true h, cond_true, ix_nat h, Option.bind_some, hbl, hst] at hh
   rcases cond_some hh with ⟨_, hh⟩ | ⟨_, hh⟩
   ·exact ih (i + 1) p out ts f (by omega) hh
   ·obtain ⟨c, hc, hh⟩ := bind_some hh
    rcases cond_some hh with ⟨hct, hh⟩ | ⟨_, hh⟩
    ·subst hct
     have hlt : i + 1 < s.length := by
      rcases cond_some hc with ⟨_, hc⟩ | ⟨_, hc⟩
      ·rw [l4Byte_is, Option.bind_some] at hc
       have := Option.some.inj hc
       have h10 : atB s (i + 1) = 10 := by simpa using this
       exact atB_in (by rw [h10]; decide)
      ·cases hc
     rw [wrap64 (n := (i : Int) + 2) (by omega) (by omega), show (i : Int) + 2 = ((i + 2 : Nat) : Int) by omega] at hh
     exact ih (i + 2) p out ts f (by omega) hh
    ·obtain ⟨b, e1, e2⟩ := ends_ex p
     obtain ⟨t, u, h1, h2, h3⟩ := tok_ex N s (by omega) hN i h p b e2
     rw [e1, Option.bind_some, h1, Option.bind_some] at hh
     rcases h3 with ⟨k1, k2⟩ | ⟨rfl, k1, k2, k3, k4⟩
     ·rw [beq_iff_eq.2 k1, cond_true] at hh
      cases hh
      exact .inr (.inr ⟨i, by omega, rfl⟩)
     ·have hk0 : (t.Kind == 0) = false := by
       cases e : (t.Kind == 0) with
       | false => rfl
       | true => exact absurd (eq_of_beq e) (okKind_ne k1)
      rw [hk0, cond_false] at hh
      rcases cond_some hh with ⟨_, hh⟩ | ⟨_, hh⟩
      ·cases hh
       exact .inr (.inl rfl)
      ·obtain ⟨x, hx, hh⟩ := bind_some hh
       rw [wrap64 (n := (i : Int) + t.Text.length) (by omega) (by omega), show (i : Int) + t.Text.length = ((i + t.Text.length : Nat) : Int) by omega] at hh
       exact ih (i + t.Text.length) t.Kind x ts f (by omega) hh
  ·rw [lt_false h, cond_false] at hh
   cases hh
   exact .inl rfl
theorem lexF {N : Nat} {s : List UInt8} (hN : 4000 < N) {ts : List SToken} {f : SFault} (h : ms_Lex N s = some (ts, f)) : f = ⟨0, 0⟩ ∨ f = ⟨1, 0⟩ ∨ ∃ a : Nat, a ≤ s.length ∧ f = ⟨2, (a : Int)⟩ := by
 unfold ms_Lex at h
 by_cases hs : s.length ≤ 3000
 ·rw [decide_eq_false (by omega : ¬ (s.length : Int) > 3000), cond_false] at h
  exact lex_f_l N s hs (by omega) N 0 0 [] ts f (by omega) h
 ·rw [decide_eq_true (by omega : (s.length : Int) > 3000)] at h
  cases h
  exact .inr (.inl rfl)
theorem cat_eq {a b r : List UInt8} (h : cat a b = some r) : r = a ++ b := by
 unfold cat at h
 split at h
 ·exact (Option.some.inj h).symm
 ·cases h
theorem faultText_ne (N : Nat) (s : List UInt8) (f : SFault) (hN : 2000002 < N) (hs : s.length ≤ 1048576) (k : Nat) (hk : k = 1 ∨ k = 2) (a : Nat) (ha : a ≤ s.length) (hf : f = ⟨(k : Int), (a : Int)⟩) : ∃ r, ms_FaultText N s f = some r ∧ mi_FaultText N s f = some r ∧ (r == []) = false := by
 obtain ⟨r, r1, r2⟩ := faultText_ex N s f hN hs
 refine ⟨r, r1, r2, ?_⟩
 subst hf
 unfold mi_FaultText at r2
 simp only at r2
 rw [lineCol_is N s a ha hs (by omega), Option.bind_some] at r2
 have e0 : (((k : Int)) == 0) = false := by rcases hk with rfl | rfl <;> rfl
 obtain ⟨w, hw, hwn⟩ : ∃ w, mi_FaultWord (k : Int) = some w ∧ (w == []) = false := by rcases hk with rfl | rfl <;> exact ⟨_, rfl, rfl⟩
 have hl : ((1 + ((s.take a).count 10 : Int)) == 0) = false := by rw [beq_eq_false_iff_ne]; omega
 simp only [e0, cond_false, hw, Option.bind_some, hwn, hl] at r2
 obtain ⟨d1, _, r2⟩ := bind_some r2
 obtain ⟨c1, _, r2⟩ := bind_some r2
 obtain ⟨d2, _, r2⟩ := bind_some r2
 obtain ⟨c2, _, r2⟩ := bind_some r2
 obtain ⟨c3, h3, r2⟩ := bind_some r2
 obtain ⟨c4, h4, r2⟩ := bind_some r2
 have := Option.some.inj r2
 subst this
 rw [cat_eq h4, cat_eq h3]
 simp
theorem cur_l1 (N : Nat) (hN : 2100000 ≤ N) (s : List UInt8) (k : Int) (hs1 : s.length ≤ 1048576) (l : List SToken) (f : SFault) (hl : l.length ≤ 3000) (hf : f = ⟨0, 0⟩ ∨ f = ⟨1, 0⟩ ∨ ∃ a : Nat, a ≤ s.length ∧ f = ⟨2, (a : Int)⟩) (ho : l = [] ∨ (s.length ≤ 3000 ∧ OrdT s 0 l)) : ∀ (n y : Nat), l.length - y < n → y ≤ l.length →
  ml_FnCursors_l1 N n ((s, k), (l, f), (y : Int)) = some true := by
 intro n
 induction n with
 | zero => intro y h; omega
 | succ n ih =>
  intro y hn hy
  rw [ml_FnCursors_l1]
  by_cases h : y < l.length
  ·obtain ⟨hs, ho⟩ : s.length ≤ 3000 ∧ OrdT s 0 l := ho.resolve_left fun e => by rw [e] at h; simp at h
   have key : ∀ (r : List SToken) (i lo : Nat), OrdT s lo r → ∀ t, r[i]? = some t → ∃ a : Nat, t.At = (a : Int) ∧ 1 ≤ t.Text.length ∧ a + t.Text.length ≤ s.length := by
    intro r
    induction r with
    | nil => intro i lo _ t h; simp at h
    | cons v r ih =>
     rintro i lo ⟨_, c, q2, q3, q4, q5, q6⟩ t h
     cases i with
     | zero =>
      have : v = t := by simpa using h
      subst this
      exact ⟨c, q2, q4, q5⟩
     | succ i => exact ih i _ q6 t (by simpa using h)
   have hg := List.getElem?_eq_getElem h
   obtain ⟨a, a1, a2, a3⟩ := key l y 0 ho _ hg
   have t1 := tokenAt_l N s hs l l[y] a a a1 (Nat.le_refl _) (by omega) l N 0 y 0 rfl (by omega) ho hg (by omega) a3
   have t2 := tokenAt_l N s hs l l[y] (a + l[y].Text.length - 1) a a1 (by omega) (by omega) l N 0 y 0 rfl (by omega) ho hg (by omega) a3
   rw [Nat.zero_add] at t1 t2
   have t1 : mi_TokenAt N l (a : Int) = some (y : Int) := t1
   have t2 : mi_TokenAt N l ((a + l[y].Text.length - 1 : Nat) : Int) = some (y : Int) := t2
   have w : IntKind.wrap .i64 ((IntKind.wrap .i64 ((a : Int) + (l[y].Text.length : Int))) - 1) = ((a + l[y].Text.length - 1 : Nat) : Int) := by rw [wrap64 (n := (a : Int) + (l[y].Text.length : Int)) (by omega) (by omega), wrap64 (by omega) (by omega)]; omega
   simp only [lt_true h, cond_true, ix_nat h, Option.bind_some, a1, t1, w, t2, bne_self_eq_false, cond_false]
   rw [wrap64 (by omega) (by omega), show (y : Int) + 1 = ((y + 1 : Nat) : Int) by omega]
   exact ih (y + 1) (by omega) (by omega)
  ·have fin : ∀ r : List UInt8, ms_FaultText N s f = some r → mi_FaultText N s f = some r → (r == []) = (f.Kind == 0) → ((mi_FaultText N s f).bind fun r156 => (bif ((r156 == []) == (f.Kind == 0)) then (ms_FaultText N s f).bind fun r159 => some (r156 == r159) else (some false)).bind fun y158 => some y158) = some true := fun r h1 h2 h3 => by
    rw [h2, Option.bind_some, h1, h3]
    simp
   simp only [lt_false h, cond_false]
   rcases hf with rfl | rfl | ⟨a, ha, rfl⟩
   ·obtain ⟨r, r1, r2⟩ := faultText_ex N s ⟨0, 0⟩ (by omega) hs1
    refine fin r r1 r2 ?_
    obtain ⟨w1, w2, w3, _⟩ := lineCol_ex N s 0 hs1 (by omega)
    unfold ms_FaultText at r1
    simp only at r1
    rw [w3, Option.bind_some] at r1
    have : r = [] := (Option.some.inj r1).symm
    rw [this]; rfl
   ·obtain ⟨r, r1, r2, r3⟩ := faultText_ne N s ⟨1, 0⟩ (by omega) hs1 1 (.inl rfl) 0 (by omega) rfl
    exact fin r r1 r2 (by rw [r3]; rfl)
   ·obtain ⟨r, r1, r2, r3⟩ := faultText_ne N s ⟨2, (a : Int)⟩ (by omega) hs1 2 (.inr rfl) a ha rfl
    exact fin r r1 r2 (by rw [r3]; rfl)
section
set_option linter.unusedSectionVars false
variable (b : List UInt8) (hb : b.length ≤ 1048576) (N : Nat) (hN : 2100000 ≤ N)
include hb hN
theorem t16_l : ∀ (n c : Nat) (i h : Int) (acc : List UInt8), c < n → acc.length + 20 * c ≤ 200 → 0 ≤ i → i ≤ (b.length : Int) → Dr b (TL 200) (ms_l16Text_l1 N b n (acc, (c : Int), i, h)) := by
 intro n
 induction n with
 | zero => intro c i h acc hc; omega
 | succ n ih =>
  intro c i h acc hc ha h0 h1
  rw [ms_l16Text_l1]
  refine Dr.cond (fun hx => ?_) fun hx => ?_
  ·have hx := of_decide_eq_true hx
   obtain ⟨c, rfl⟩ : ∃ k, c = k + 1 := ⟨c - 1, by omega⟩
   refine Dr.bind (pick_le b hb 20 _ i h h0 h1 (by decide) (by decide)) fun x i h hx h0 h1 => ?_
   dsimp only
   refine Dr.cat (by omega) fun e1 => ?_
   rw [wrap64 (by omega) (by omega), show ((c + 1 : Nat) : Int) - 1 = (c : Int) by omega]
   exact ih c i h _ (by omega) (by omega) h0 h1
  ·exact Dr.some (show acc.length ≤ _ by omega) h0 h1
theorem t35_dr (i h : Int) (h0 : 0 ≤ i) (h1 : i ≤ (b.length : Int)) : Dr b (TL 900000) (ms_l35Text N b i h) := by
 unfold ms_l35Text
 refine Dr.bind (once_dr b hb _ i h h0 h1) fun r i h hr h0 h1 => ?_
 dsimp only
 refine Dr.cond (fun _ => Dr.id3 (Dr.imp (P := TL 200) ?_ fun x (hx : x.length ≤ 200) => by show x.length ≤ _; omega)) fun _ => Dr.id3 (any_dr b hb N hN i h h0 h1)
 unfold ms_l16Text
 refine Dr.bind (below_dr b hb _ i h h0 h1) fun r i h hr h0 h1 => ?_
 obtain ⟨c, rfl⟩ := Int.eq_ofNat_of_zero_le hr.1
 have hc : c ≤ 5 := by rcases hr.2 with h | h <;> omega
 exact t16_l b hb N hN N c i h [] (by omega) (by simp only [List.length_nil]; omega) h0 h1
theorem drawLC_ex : ∃ (s : List UInt8) (k : Int), ms_DrawLineCol N b = some (s, k) ∧ s.length ≤ 900000 ∧ -1 ≤ k ∧ k ≤ s.length + 2 := by
 obtain ⟨h, e1⟩ := new_dr b hb N hN
 obtain ⟨s, i, k, e2, hs, i0, i1⟩ := t35_dr b hb N hN 0 h (by omega) (by omega)
 have hs : s.length ≤ 900000 := hs
 obtain ⟨r, i, k, e3, hr, _⟩ := below_dr b hb (IntKind.wrap .i64 ((s.length : Int) + 3)) i k i0 i1
 unfold ms_DrawLineCol
 rw [e1, Option.bind_some, e2, Option.bind_some, e3, Option.bind_some]
 rw [wrap64 (by omega) (by omega)] at hr
 have h2 : r < (s.length : Int) + 3 := by rcases hr.2 with h | h <;> omega
 exact ⟨s, _, rfl, hs, by dsimp only; rw [wrap64 (by omega) (by omega)]; omega, by dsimp only; rw [wrap64 (by omega) (by omega)]; omega⟩
end

end Go.Proofs.Tryz

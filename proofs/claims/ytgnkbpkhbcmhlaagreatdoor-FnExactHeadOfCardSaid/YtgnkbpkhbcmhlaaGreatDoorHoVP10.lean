/-
 Plain lemmas on the models, part 10.
-/
import Derived.Test.YtgnkbpkhbcmhlaaGreatDoorHoVP9
namespace Go.Proofs.Tryz
open Go.Av
set_option maxRecDepth 100000
set_option linter.unusedSimpArgs false
set_option linter.unusedVariables false

def NoNl (s : List UInt8) (i j : Nat) : Prop := ∀ q, i ≤ q → q < j → atB s q ≠ 10
theorem NoNl.one {s : List UInt8} {i : Nat} (h : atB s i ≠ 10) : NoNl s i (i + 1) := fun q h1 h2 => by
 have : q = i := by omega
 rw [this]; exact h
theorem NoNl.app {s : List UInt8} {i j k : Nat} (h1 : NoNl s i j) (h2 : NoNl s j k) : NoNl s i k := fun q g1 g2 => by
 by_cases h : q < j
 ·exact h1 q g1 h
 ·exact h2 q (by omega) g2
theorem NoNl.nil (s : List UInt8) (i : Nat) : NoNl s i i := fun q h1 h2 => by omega
theorem NoNl.all {s : List UInt8} (h : NoNl s 0 s.length) : s.contains 10 = false := by
 rw [List.contains_eq_any_beq, List.any_eq_false]
 intro b hb he
 rw [beq_iff_eq] at he
 subst he
 obtain ⟨i, hi, e⟩ := List.getElem_of_mem hb
 have := h i (by omega) hi
 rw [atB_lt hi, e] at this
 exact this rfl

theorem dig_nl {c : Int} (h : digB c = true) : c ≠ 10 := by rintro rfl; cases h
theorem word_nl {c : Int} (h : wordB c = true) : c ≠ 10 := by rintro rfl; cases h

theorem digits_nl (N : Nat) (s : List UInt8) (hs : s.length ≤ 1048576) : ∀ (n i : Nat) (r : Int), i ≤ s.length + 1 → ms_l4Digits_l1 N n (s, (i : Int)) = some r → ∃ e : Nat, r = (e : Int) ∧ i ≤ e ∧ e ≤ s.length + 1 ∧ NoNl s i e := by
 intro n
 induction n with
 | zero => intro i r _ h; cases h
 | succ n ih =>
  intro i r hi h
  rw [ms_l4Digits_l1, l4Byte_is, Option.bind_some, dig_spec, Option.bind_some] at h
  cases hd : digB (atB s i) with
  | false => rw [hd] at h; cases h; exact ⟨i, rfl, by omega, hi, NoNl.nil s i⟩
  | true =>
   have hlt := digB_in hd
   rw [hd, cond_true, step_i hs (by omega)] at h
   obtain ⟨e, e1, e2, e3, e4⟩ := ih (i + 1) r (by omega) h
   exact ⟨e, e1, by omega, e3, (NoNl.one (dig_nl hd)).app e4⟩

theorem num_nl (N : Nat) (s : List UInt8) (hs : s.length ≤ 1048576) (h : ms_NumEnd N s 0 = some (s.length : Int)) : NoNl s 0 s.length := by
 have hdig : ∀ (i : Nat) (r : Int), i ≤ s.length + 1 → ms_l4Digits N s (i : Int) = some r → ∃ e : Nat, r = (e : Int) ∧ i ≤ e ∧ e ≤ s.length + 1 ∧ NoNl s i e := fun i r hi h => digits_nl N s hs N i r hi h
 have k3 : ∀ y i : Nat, NoNl s 0 y → NoNl s 0 i → i ≤ s.length + 1 → ms_NumEnd_k3 N (s, (y : Int), (i : Int)) = some (s.length : Int) → NoNl s 0 s.length := fun y i hy hi hl h => by
  unfold ms_NumEnd_k3 at h
  obtain ⟨r, hr, h⟩ := bind_some h
  obtain ⟨e, rfl, e2, e3, e4⟩ := hdig i r hl hr
  rcases cond_some h with ⟨_, h⟩ | ⟨_, h⟩
  ·rw [hr, Option.bind_some] at h
   have : e = s.length := by have := Option.some.inj h; omega
   rw [← this]; exact hi.app e4
  ·unfold ms_NumEnd_k2 at h
   have : y = s.length := by have := Option.some.inj h; omega
   rw [← this]; exact hy
 have k1 : ∀ y : Nat, NoNl s 0 y → y ≤ s.length + 1 → ms_NumEnd_k1 N (s, 0, (y : Int)) = some (s.length : Int) → NoNl s 0 s.length := fun y hy hl h => by
  unfold ms_NumEnd_k1 at h
  rcases cond_some h with ⟨_, h⟩ | ⟨_, h⟩
  ·exfalso
   have := Option.some.inj h
   omega
  ·obtain ⟨b, hb, h⟩ := bind_some h
   simp only [l4Byte_is, Option.bind_some] at hb
   rcases cond_some h with ⟨hc, h⟩ | ⟨_, h⟩
   ·subst hc
    have he : atB s y ≠ 10 := by
     rcases cond_some hb with ⟨g, _⟩ | ⟨_, g⟩
     ·have : atB s y = 101 := by simpa using g
      rw [this]; decide
     ·have := Option.some.inj g
      have : atB s y = 69 := by simpa using this
      rw [this]; decide
    have hlt : y < s.length := atB_in (by
     rcases cond_some hb with ⟨g, _⟩ | ⟨_, g⟩
     ·have : atB s y = 101 := by simpa using g
      rw [this]; decide
     ·have := Option.some.inj g
      have : atB s y = 69 := by simpa using this
      rw [this]; decide)
    obtain ⟨b2, hb2, h⟩ := bind_some h
    rw [step_i hs (by omega)] at h hb2
    simp only [l4Byte_is, Option.bind_some] at hb2
    rcases cond_some h with ⟨hc, h⟩ | ⟨_, h⟩
    ·subst hc
     have h2 : atB s (y + 1) ≠ 10 ∧ atB s (y + 1) ≠ -1 := by
      rcases cond_some hb2 with ⟨g, _⟩ | ⟨_, g⟩
      ·have : atB s (y + 1) = 43 := by simpa using g
       rw [this]; decide
      ·have := Option.some.inj g
       have : atB s (y + 1) = 45 := by simpa using this
       rw [this]; decide
     have hlt2 := atB_in h2.2
     rw [step_i hs (by omega)] at h
     exact k3 y (y + 1 + 1) hy (hy.app ((NoNl.one he).app (NoNl.one h2.1))) (by omega) h
    ·exact k3 y (y + 1) hy (hy.app (NoNl.one he)) (by omega) h
   ·unfold ms_NumEnd_k2 at h
    have : y = s.length := by have := Option.some.inj h; omega
    rw [← this]; exact hy
 unfold ms_NumEnd at h
 rcases cond_some h with ⟨hc, _⟩ | ⟨_, h⟩
 ·cases hc
 ·obtain ⟨r, hr, h⟩ := bind_some h
  obtain ⟨e, rfl, e2, e3, e4⟩ := hdig 0 r (by omega) hr
  rw [l4Byte_is, Option.bind_some] at h
  rcases cond_some h with ⟨hc, h⟩ | ⟨_, h⟩
  ·have h46 : atB s e = 46 := by simpa using hc
   have hlt : e < s.length := atB_in (by rw [h46]; decide)
   rw [step_i hs (by omega)] at h
   obtain ⟨r2, hr2, h⟩ := bind_some h
   obtain ⟨e', rfl, g2, g3, g4⟩ := hdig (e + 1) r2 (by omega) hr2
   obtain ⟨y, _, h⟩ := bind_some h
   rcases cond_some h with ⟨_, h⟩ | ⟨_, h⟩
   ·exfalso
    have := Option.some.inj h
    omega
   ·exact k1 e' (e4.app ((NoNl.one (by rw [h46]; decide)).app g4)) g3 h
  ·exact k1 e e4 e3 h

theorem quo_nl (N : Nat) (s : List UInt8) (hs : s.length ≤ 1048576) (q : Int) (hq : q ≠ 10) : ∀ (n i : Nat), i ≤ s.length + 1 → ms_l4Quoted_l1 N n (s, q, (i : Int)) = some (s.length : Int) → NoNl s i s.length := by
 intro n
 induction n with
 | zero => intro i _ h; cases h
 | succ n ih =>
  intro i hi h
  rw [ms_l4Quoted_l1] at h
  by_cases hlt : i < s.length
  ·rw [lt_true hlt, cond_true, ix_nat hlt, Option.bind_some, wrap_byte, ← atB_lt hlt] at h
   rcases cond_some h with ⟨hc, h⟩ | ⟨hn, h⟩
   ·rw [step_i hs (by omega)] at h
    have e : i + 1 = s.length := by have := Option.some.inj h; omega
    rw [← e]
    have : atB s i = q := by simpa using hc
    exact NoNl.one (by rw [this]; exact hq)
   ·rcases cond_some h with ⟨_, h⟩ | ⟨h10, h⟩
    ·exfalso
     have := Option.some.inj h
     omega
    ·have n10 : atB s i ≠ 10 := by simpa using h10
     rw [step_i hs (by omega)] at h
     rcases cond_some h with ⟨_, h⟩ | ⟨_, h⟩
     ·rw [l4Byte_is, Option.bind_some] at h
      rcases cond_some h with ⟨_, h⟩ | ⟨h2, h⟩
      ·exfalso
       have := Option.some.inj h
       omega
      ·have m10 : atB s (i + 1) ≠ 10 := by simpa using h2
       unfold ms_l4Quoted_k2 at h
       simp only at h
       rw [step_i hs (by omega)] at h
       exact (NoNl.one n10).app ((NoNl.one m10).app (ih (i + 1 + 1) (by omega) h))
     ·unfold ms_l4Quoted_k2 at h
      simp only at h
      rw [step_i hs (by omega)] at h
      exact (NoNl.one n10).app (ih (i + 1) (by omega) h)
  ·rw [lt_false hlt, cond_false] at h
   exfalso
   have := Option.some.inj h
   omega

theorem quoted_nl (N : Nat) (s : List UInt8) (hs : s.length ≤ 1048576) (q : Int) (hq : q ≠ 10) (h : ms_l4Quoted N s 0 q = some (s.length : Int)) : NoNl s 0 s.length := by
 unfold ms_l4Quoted at h
 have e : ms_l4Byte s 0 = some (atB s 0) := l4Byte_is s 0
 rw [e, Option.bind_some] at h
 rcases cond_some h with ⟨_, h⟩ | ⟨h1, h⟩
 ·exfalso
  have := Option.some.inj h
  omega
 ·have h1 : atB s 0 = q := by simpa using h1
  exact (NoNl.one (by rw [h1]; exact hq)).app (quo_nl N s hs q hq N 1 (by omega) h)

theorem shape_nl (N : Nat) (s : List UInt8) (hs : s.length ≤ 1048576) : ∀ (n i : Nat), i ≤ s.length → ms_NameShape_l1 N n (s, (i : Int)) = some true → NoNl s i s.length := by
 intro n
 induction n with
 | zero => intro i _ h; cases h
 | succ n ih =>
  intro i hi h
  rw [ms_NameShape_l1] at h
  by_cases hlt : i < s.length
  ·rw [lt_true hlt, cond_true, ix_nat hlt, Option.bind_some, wrap_byte, ← atB_lt hlt, word_spec, Option.bind_some] at h
   rcases cond_some h with ⟨_, h⟩ | ⟨hn, h⟩
   ·cases h
   ·have hw : wordB (atB s i) = true := by simpa using hn
    rw [step_i hs (by omega)] at h
    exact (NoNl.one (word_nl hw)).app (ih (i + 1) (by omega) h)
  ·have : i = s.length := by omega
   rw [this]; exact NoNl.nil s _

theorem name_nl (N : Nat) (s : List UInt8) (hs : s.length ≤ 1048576) (h : ms_NameOk N s = some true) : s.contains 10 = false := by
 unfold ms_NameOk at h
 obtain ⟨y, hy, h⟩ := bind_some h
 cases h
 obtain ⟨r, hr, h⟩ := bind_some hy
 rcases cond_some h with ⟨hc, _⟩ | ⟨_, h⟩
 ·subst hc
  exact NoNl.all (shape_nl N s hs N 0 (by omega) hr)
 ·cases h

theorem bi_nl (N : Nat) (s : List UInt8) (hN : 100 < N) (h : ms_IsBuiltin N s = some true) : s.contains 10 = false := by
 obtain ⟨b, h1, _, h2⟩ := bi_ex N s hN
 rw [h1] at h
 cases h
 have ht : ∀ e, e ∈ tab_builtins → e.contains 10 = false := by decide
 exact ht s (h2 rfl)

theorem tok_nl (N : Nat) (k : Int) (s : List UInt8) (hk : k = 3 ∨ k = 4 ∨ k = 5) (hs : s.length ≤ 1048576) (h : ms_TokenOk N ⟨k, s, 0⟩ = some true) : s.contains 10 = false := by
 unfold ms_TokenOk at h
 rcases hk with rfl | rfl | rfl
 ·obtain ⟨y, hy, h⟩ := bind_some (show Option.bind (bif (decide ((s.length : Int) > 0)) then (ms_NumEnd N s 0).bind fun r25 => some (r25 == (s.length : Int)) else (some false)) (fun y24 => some y24) = some true from h)
  cases h
  rcases cond_some hy with ⟨_, hy⟩ | ⟨_, hy⟩
  ·obtain ⟨r, hr, hy⟩ := bind_some hy
   have := Option.some.inj hy
   have : r = (s.length : Int) := by simpa using this
   subst this
   exact NoNl.all (num_nl N s hs hr)
  ·cases hy
 ·obtain ⟨r, hr, h⟩ := bind_some (show Option.bind (ms_StrEnd N s 0) (fun r27 => some (r27 == (s.length : Int))) = some true from h)
  have := Option.some.inj h
  have : r = (s.length : Int) := by simpa using this
  subst this
  unfold ms_StrEnd at hr
  obtain ⟨r2, hr2, hr⟩ := bind_some hr
  cases hr
  exact NoNl.all (quoted_nl N s hs 34 (by decide) hr2)
 ·obtain ⟨r, hr, h⟩ := bind_some (show Option.bind (ms_EreEnd N s 0) (fun r29 => some (r29 == (s.length : Int))) = some true from h)
  have := Option.some.inj h
  have : r = (s.length : Int) := by simpa using this
  subst this
  unfold ms_EreEnd at hr
  obtain ⟨r2, hr2, hr⟩ := bind_some hr
  rcases cond_some hr with ⟨_, hr⟩ | ⟨_, hr⟩
  ·exfalso
   have := Option.some.inj hr
   omega
  ·have := Option.some.inj hr
   subst this
   exact NoNl.all (quoted_nl N s hs 47 (by decide) hr2)

theorem text_nl (N : Nat) (n : SNode) (hN : 100 < N) (hs : n.Text.length ≤ 1048576) (he : isE n.Kind = true) (h : ms_l7Text N n = some true) : n.Text.contains 10 = false := by
 have and_o : ∀ {x : Option Bool}, ((Option.bind x fun r => bif r then some (n.Other == []) else (some false)).bind fun y => some y) = some true → x = some true := fun {x} h => by
  obtain ⟨y, hy, h⟩ := bind_some h
  cases h
  obtain ⟨r, hr, hy⟩ := bind_some hy
  cases r with
  | true => exact hr
  | false => cases hy
 have nm : ∀ b, b = true → ms_l7Text_k1 N (n, b) = some true → n.Text.contains 10 = false := fun b hb h => by
  subst hb
  exact name_nl N n.Text hs (and_o h)
 have rest : ms_l7Text_k1 N (n, false) = some true → n.Text.contains 10 = false := fun h => by
  unfold ms_l7Text_k1 at h
  simp only [cond_false] at h
  rcases cond_some h with ⟨_, h⟩ | ⟨_, h⟩
  ·exact tok_nl N 3 n.Text (by simp) hs (and_o h)
  rcases cond_some h with ⟨_, h⟩ | ⟨_, h⟩
  ·exact tok_nl N 4 n.Text (by simp) hs (and_o h)
  rcases cond_some h with ⟨_, h⟩ | ⟨_, h⟩
  ·exact tok_nl N 5 n.Text (by simp) hs (and_o h)
  rcases cond_some h with ⟨hc, h⟩ | ⟨_, h⟩
  ·exfalso
   have : n.Kind = 34 := by simpa using hc
   rw [this] at he; cases he
  rcases cond_some h with ⟨_, h⟩ | ⟨_, h⟩
  ·exact bi_nl N n.Text hN (and_o h)
  rcases cond_some h with ⟨hc, h⟩ | ⟨_, h⟩
  ·exfalso
   have : n.Kind = 32 := by simpa using hc
   rw [this] at he; cases he
  rcases cond_some h with ⟨hc, h⟩ | ⟨_, h⟩
  ·exfalso
   have : n.Kind = 21 := by simpa using hc
   rw [this] at he; cases he
  ·obtain ⟨y, hy, h⟩ := bind_some h
   cases h
   rcases cond_some hy with ⟨hc, _⟩ | ⟨_, hy⟩
   ·have : n.Text = [] := by simpa using hc
    rw [this]; rfl
   ·cases hy
 have k1 : ∀ b, ms_l7Text_k1 N (n, b) = some true → n.Text.contains 10 = false := fun b h => by
  cases b with
  | true => exact nm true rfl h
  | false => exact rest h
 unfold ms_l7Text at h
 rcases cond_some h with ⟨_, h⟩ | ⟨_, h⟩; · exact k1 _ h
 rcases cond_some h with ⟨_, h⟩ | ⟨_, h⟩; · exact k1 _ h
 rcases cond_some h with ⟨_, h⟩ | ⟨_, h⟩; · exact k1 _ h
 rcases cond_some h with ⟨_, h⟩ | ⟨_, h⟩; · exact k1 _ h
 rcases cond_some h with ⟨_, h⟩ | ⟨_, h⟩; · exact k1 _ h
 exact k1 _ h

theorem op_nl (n : SNode) (he : n.Kind = 9 ∨ n.Kind = 10 ∨ n.Kind = 11 ∨ n.Kind = 12 ∨ n.Kind = 15) (h : ms_l7Op n = some true) : n.Op ≠ 1 := by
 intro h1
 obtain ⟨k, o, x, y, ks⟩ := n
 simp only at he h1
 subst h1
 rcases he with e | e | e | e | e <;> subst e <;> cases h

mutual
def dsT (b : Nat) : SDoc → List Int
 | ⟨_, _, _, ks, _⟩ => dsTs b ks ++ [(b : Int)]
def dsTs (b : Nat) : List SDoc → List Int
 | [] => []
 | t :: ts => dsT b t ++ dsTs (b + dz t) ts
end
mutual
theorem dsT_len : ∀ (t : SDoc) (b : Nat), (dsT b t).length = dz t
 | ⟨_, _, _, ks, _⟩, b => by rw [dsT, dz, List.length_append, dsTs_len ks b]; rfl
theorem dsTs_len : ∀ (ts : List SDoc) (b : Nat), (dsTs b ts).length = dzs ts
 | [], b => by rw [dsTs, dzs]; rfl
 | t :: ts, b => by rw [dsTs, dzs, List.length_append, dsT_len t b, dsTs_len ts _]
end
theorem dsT_last (t : SDoc) (b : Nat) : (dsT b t)[dz t - 1]? = some (b : Int) := by
 obtain ⟨k, o, x, ks, y⟩ := t
 rw [dsT, dz, Nat.add_sub_cancel, List.getElem?_append_right (by rw [dsTs_len]; omega), dsTs_len, Nat.sub_self]
 rfl
theorem dsTs_app : ∀ (a c : List SDoc) (b : Nat), dsTs b (a ++ c) = dsTs b a ++ dsTs (b + dzs a) c
 | [], c, b => by simp [dsTs, dzs]
 | t :: a, c, b => by rw [List.cons_append, dsTs, dsTs, dzs, dsTs_app a c, List.append_assoc, Nat.add_assoc]

theorem dwalk_ends (b : Nat) (ts : List SDoc) : ∀ (m : Nat) (ts1 ts2 : List SDoc), ts1.length = m → ts1 ++ ts2 = ts → ∀ out : List Int, (∀ i, i < dzs ts → out[b + i]? = (dsTs b ts)[i]?) → walk out ((b + dzs ts1 : Nat) : Int) (dE b ts1).reverse = some (b : Int) := by
 intro m
 induction m with
 | zero =>
  intro ts1 ts2 hl _ out _
  have : ts1 = [] := List.length_eq_zero_iff.1 hl
  subst this
  simp [dE, walk, dzs]
 | succ m ih =>
  intro ts1 ts2 hl he out ho
  obtain ⟨u, t, rfl⟩ : ∃ u t, ts1 = u ++ [t] := by
   rcases List.eq_nil_or_concat ts1 with rfl | ⟨u, t, rfl⟩
   ·cases hl
   ·exact ⟨u, t, by simp⟩
  have hp := dz_pos t
  have hsz : dzs (u ++ [t]) = dzs u + dz t := by rw [dzs_app, dzs, dzs]; omega
  rw [dE_app, List.reverse_append, dE, dE, List.reverse_cons, List.reverse_nil, List.nil_append, List.singleton_append, walk, hsz]
  have hne : ¬ (((b + (dzs u + dz t) : Nat) : Int) = 0 ∨ (((b + dzs u + dz t : Nat) : Int) - 1) ≠ ((b + (dzs u + dz t) : Nat) : Int) - 1) := by omega
  rw [if_neg hne]
  have htot : dzs ts = dzs u + (dz t + dzs ts2) := by rw [← he, dzs_app, hsz]; omega
  have hi : (((b + (dzs u + dz t) : Nat) : Int) - 1).toNat = b + (dzs u + (dz t - 1)) := by omega
  rw [hi, ho _ (by omega)]
  have hst : dsTs b ts = dsTs b u ++ (dsT (b + dzs u) t ++ dsTs (b + dzs u + dz t) ts2) := by
   rw [← he, List.append_assoc, List.singleton_append, dsTs_app, dsTs]
  rw [hst, List.getElem?_append_right (by rw [dsTs_len]; omega), dsTs_len, Nat.add_sub_cancel_left, List.getElem?_append_left (by rw [dsT_len]; omega), dsT_last]
  exact ih u (t :: ts2) (by simpa using hl) (by rw [← he]; simp) out ho

mutual
theorem starts_dl : ∀ (t : SDoc) (b : Nat) (rest : List (List Int)) (out : List Int), out.length = b → starts (kidsD (dl b t) ++ rest) out = starts rest (out ++ dsT b t)
 | ⟨k, o, x, ks, y⟩, b, rest, out, hb => by
  have h1 := starts_dls ks b ([dE b ks] ++ rest) out hb
  have hl : (out ++ dsTs b ks).length = b + dzs ks := by rw [List.length_append, dsTs_len, hb]
  rw [dl, dsT]
  have e : kidsD (dls b ks ++ [(⟨k, o, x, dE b ks⟩ : SDNode)]) ++ rest = kidsD (dls b ks) ++ ([dE b ks] ++ rest) := by
   unfold kidsD
   rw [List.map_append, List.append_assoc]
   rfl
  rw [e, h1, List.singleton_append, starts, hl]
  have := dwalk_ends b ks ks.length ks [] rfl (by simp) (out ++ dsTs b ks) (fun i hi => by rw [List.getElem?_append_right (by omega), hb, Nat.add_sub_cancel_left])
  rw [this, Option.bind_some, List.append_assoc]
theorem starts_dls : ∀ (ts : List SDoc) (b : Nat) (rest : List (List Int)) (out : List Int), out.length = b → starts (kidsD (dls b ts) ++ rest) out = starts rest (out ++ dsTs b ts)
 | [], b, rest, out, hb => by
  rw [dls, dsTs, List.append_nil]
  rfl
 | t :: ts, b, rest, out, hb => by
  rw [dls, dsTs]
  have e : kidsD (dl b t ++ dls (b + dz t) ts) ++ rest = kidsD (dl b t) ++ (kidsD (dls (b + dz t) ts) ++ rest) := by
   unfold kidsD
   rw [List.map_append, List.append_assoc]
  rw [e, starts_dl t b _ out hb, starts_dls ts (b + dz t) rest _ (by rw [List.length_append, dsT_len, hb]), List.append_assoc]
end

def KD (d : SDoc) : Prop := d.kind ≠ 3 ∧ ∀ ids : List Int, ids.length = d.kids.length → docN ⟨d.kind, d.n, d.text, ids⟩ = true
mutual
def ftx : SDoc → List UInt8
 | ⟨k, _, x, ks, _⟩ => bif k == 1 then x else bif k == 2 then [32] else ftxs ks
def ftxs : List SDoc → List UInt8
 | [] => []
 | d :: ds => ftx d ++ ftxs ds
end
mutual
theorem dl_docN : ∀ (d : SDoc) (b : Nat), allD KD d → ∀ x, x ∈ dl b d → docN x = true
 | ⟨k, n, x, ks, g⟩, b, h, z, hz => by
  rw [allD] at h
  rw [dl] at hz
  rcases List.mem_append.1 hz with hz | hz
  ·exact dls_docN ks b h.2 z hz
  ·rw [List.mem_singleton.1 hz]; exact h.1.2 _ (dE_len ks b)
theorem dls_docN : ∀ (ds : List SDoc) (b : Nat), allDs KD ds → ∀ x, x ∈ dls b ds → docN x = true
 | [], b, _, z, hz => by rw [dls] at hz; cases hz
 | d :: ds, b, h, z, hz => by
  rw [allDs] at h
  rw [dls] at hz
  rcases List.mem_append.1 hz with hz | hz
  ·exact dl_docN d b h.1 z hz
  ·exact dls_docN ds _ h.2 z hz
end
theorem docB_dl (d : SDoc) (h : allD KD d) (hz : dz d ≤ 4000) : docB (dl 0 d) = true := by
 have hp := dz_pos d
 have hs := starts_dl d 0 [] [] rfl
 rw [List.append_nil, List.nil_append] at hs
 unfold docB
 rw [hs, dl_len]
 simp only [starts, drootAt, dsT_last, Bool.and_eq_true, decide_eq_true_eq, List.all_eq_true]
 exact ⟨⟨⟨hp, hz⟩, dl_docN d 0 h⟩, by simp⟩

theorem kd_leaf {k n : Int} {x : List UInt8} {ks : List SDoc} {g : Int} (h : KD ⟨k, n, x, ks, g⟩) (hk : k = 1 ∨ k = 2) : ks = [] := by
 have h2 := h.2 (ks.map fun _ => 0) (by simp)
 unfold docN at h2
 have key : ∀ (c : Bool) (y : Bool), (bif c then false else y) = true → y = true := fun c y h => by cases c <;> simp_all
 have h3 := key _ _ h2
 rcases hk with rfl | rfl
 ·have h4 : (!x.contains 10 && (((ks.map fun _ => (0 : Int)).length : Int) == 0)) = true := h3
  simp only [Bool.and_eq_true, beq_iff_eq, List.length_map] at h4
  exact List.length_eq_zero_iff.1 (by omega)
 ·have h4 : (((ks.map fun _ => (0 : Int)).length : Int) == 0) = true := h3
  simp only [beq_iff_eq, List.length_map] at h4
  exact List.length_eq_zero_iff.1 (by omega)

mutual
theorem flL_dl : ∀ (d : SDoc) (b : Nat), allD KD d → flL (dl b d) = some (ftx d)
 | ⟨k, n, x, ks, g⟩, b, h => by
  rw [allD] at h
  have h1 := flL_dls ks b h.2
  have h3 : (k == 3) = false := by simpa using h.1.1
  rw [dl, flL_app, h1, Option.bind_some, flL, flL, ftx]
  show Option.map _ (bif k == 3 then none else _) = _
  rw [h3]
  unfold pieceD
  cases e1 : k == 1 with
  | true =>
   have := kd_leaf h.1 (.inl (by simpa using e1))
   subst this
   simp [ftxs]
  | false =>
   cases e2 : k == 2 with
   | true =>
    have := kd_leaf h.1 (.inr (by simpa using e2))
    subst this
    simp [ftxs]
   | false => simp
theorem flL_dls : ∀ (ds : List SDoc) (b : Nat), allDs KD ds → flL (dls b ds) = some (ftxs ds)
 | [], b, _ => by rw [dls, ftxs]; rfl
 | d :: ds, b, h => by
  rw [allDs] at h
  rw [dls, flL_app, flL_dl d b h.1, flL_dls ds _ h.2, ftxs]
  rfl
end
mutual
theorem ftx_len : ∀ (d : SDoc), allD DX d → (ftx d).length ≤ 2000000 * dz d
 | ⟨k, n, x, ks, g⟩, h => by
  rw [allD] at h
  have h1 := ftxs_len ks h.2
  have h2 : x.length ≤ 2000000 := h.1
  rw [ftx, dz]
  cases k == 1 <;> cases k == 2 <;> simp only [cond_true, cond_false, List.length_cons, List.length_nil] <;> omega
theorem ftxs_len : ∀ (ds : List SDoc), allDs DX ds → (ftxs ds).length ≤ 2000000 * dzs ds
 | [], _ => by rw [ftxs]; simp
 | d :: ds, h => by
  rw [allDs] at h
  have h1 := ftx_len d h.1
  have h2 := ftxs_len ds h.2
  rw [ftxs, dzs, List.length_append]
  omega
end

theorem flatI_l (t : SDoc) (G : Nat) : ∀ (ts : List SDoc) (j n : Nat) (acc : List UInt8), t.kids.drop j = ts → (∀ u, u ∈ ts → (scc7 G).mi_doc__flat u = some (ftx u, true)) → allDs DX ts → ts.length < n → acc.length + 2000000 * dzs ts ≤ 20000000000 → t.kids.length ≤ 100000 →
  mi_doc__flat_l1 G (scc7 G) n (t, (j : Int), acc) = some (acc ++ ftxs ts, true)
 | [], j, n, acc, hd, _, _, hn, _, hl => by
  obtain ⟨n, rfl⟩ : ∃ m, n = m + 1 := ⟨n - 1, by simp at hn; omega⟩
  have hj : ¬ j < t.kids.length := by
   intro h
   rw [drop_cons h] at hd
   cases hd
  rw [mi_doc__flat_l1]
  simp only [lt_false hj, cond_false]
  simp [ftxs]
 | u :: ts, j, n, acc, hd, hr, hx, hn, hb, hl => by
  simp only [List.length_cons] at hn
  obtain ⟨n, rfl⟩ : ∃ m, n = m + 1 := ⟨n - 1, by omega⟩
  have hj : j < t.kids.length := by
   cases Nat.lt_or_ge j t.kids.length with
   | inl h => exact h
   | inr h => rw [List.drop_of_length_le h] at hd; cases hd
  rw [drop_cons hj] at hd
  injection hd with hd1 hd2
  rw [allDs] at hx
  have hu := ftx_len u hx.1
  rw [dzs] at hb
  rw [mi_doc__flat_l1]
  simp only [lt_true hj, cond_true, ix_nat hj, hd1, Option.bind_some, hr u (by simp), Bool.not_true, cond_false]
  rw [app_some (by omega), Option.bind_some, step64 hj (by simp only [maxLen]; omega)]
  rw [flatI_l t G ts (j + 1) n (acc ++ ftx u) hd2 (fun v hv => hr v (by simp [hv])) hx.2 (by omega) (by rw [List.length_append]; omega) hl, ftxs]
  simp

theorem flatI_is : ∀ (d : SDoc), allD KD d → allD DX d → dz d ≤ 4000 → ∀ G : Nat, 2 * dz d + 5000 < G → mi_doc__flat G d = some (ftx d, true) := by
 intro d
 induction d using SDoc.ind with
 | h d ih =>
  intro hk hx hz G hG
  obtain ⟨k, n, x, ks, g⟩ := d
  rw [allD] at hk hx
  rw [dz] at hz hG
  obtain ⟨G, rfl⟩ : ∃ m, G = m + 1 := ⟨G - 1, by omega⟩
  have h3 : (k == 3) = false := by simpa using hk.1.1
  show mi_doc__flat_F G (scc7 G) ⟨k, n, x, ks, g⟩ = _
  unfold mi_doc__flat_F
  rw [ftx]
  show (bif k == 1 then some (x, true) else bif k == 2 then some ([32], true) else bif k == 3 then some ([], false) else _) = _
  rw [h3]
  have hmem : ∀ u, u ∈ ks → allD KD u ∧ allD DX u := by
   intro u hu
   have h1 := hk.2
   have h2 := hx.2
   clear hk hx ih hz hG
   induction ks with
   | nil => cases hu
   | cons v vs ih2 =>
    rw [allDs] at h1 h2
    rcases List.mem_cons.1 hu with rfl | hu
    ·exact ⟨h1.1, h2.1⟩
    ·exact ih2 hu h1.2 h2.2
  have hl := dzs_len ks
  have hll := flatI_l ⟨k, n, x, ks, g⟩ G ks 0 G [] rfl (fun u hu => by
   have hm := dzs_mem hu
   exact ih u hu (hmem u hu).1 (hmem u hu).2 (by omega) G (by omega)) hx.2 (by omega) (by simp; omega) (by show ks.length ≤ _; omega)
  cases k == 1
  ·cases k == 2
   ·exact hll
   ·rfl
  ·rfl

end Go.Proofs.Tryz

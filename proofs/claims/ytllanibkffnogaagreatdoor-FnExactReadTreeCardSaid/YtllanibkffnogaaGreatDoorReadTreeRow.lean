/-
  ExactReadTree: for all arguments the law returns true: the program's function returns what the reference's returns.
  The tables that the row lists are tied to the program's text.
-/
import Derived.Test.YtllanibkffnogaaGreatDoorRows
import Derived.Test.YtllanibkffnogaaGreatDoorCards
import Derived.Test.YtllanibkffnogaaGreatDoorTie
import Derived.WalkKit
import Derived.ProofKit
import Derived.OpenShut
import Derived.Lay
import Derived.MakeChecks
import Derived.SevenTiedAt
import Derived.Test.YtllanibkffnogaaGreatDoorReW3
import Derived.Test.YtllanibkffnogaaGreatDoorReP5
import Derived.Test.YtllanibkffnogaaGreatDoorCore6
namespace Go.Proofs.YtllanibkffnogaaGreatDoor.fnExactReadTree
open Go.ChangeShapes Go.WideShapes Go.ChangeAt Go.RowKit Go.Av Go.Proofs.Tryz
set_option linter.unusedVariables false
set_option linter.unusedSimpArgs false
set_option maxRecDepth 100000

theorem own : ownKnob Tryz.prog.godebug = none := by kernel_rfl
theorem laidOut : laidOutB Tryz.prog = true := by kernel_rfl

theorem rdP_cases (l : List UInt8) : rdP l = (0, 0) ∨ ∃ n k : Nat, rdP l = ((n : Int), (k : Int)) ∧ 1 ≤ k ∧ k ≤ l.length ∧ n < 562949953421312 ∧ vlF 7 n = l.take k := by
  unfold rdP
  cases hr : rd 7 true l with
  | none => exact .inl rfl
  | some x =>
    obtain ⟨g1, g2, g3, g4⟩ := rd_spec 7 true l x.1 x.2 hr
    have hlen : (l.take x.2).length = x.2 := by first | (simp; done) | (simp; omega)
    have hlt := dig_lt (l.take x.2)
    have h2 : 128 ^ (l.take x.2).length ≤ 128 ^ 7 := Nat.pow_le_pow_right (by omega) (by omega)
    have h7 : (128 : Nat) ^ 7 = 562949953421312 := by decide
    have ho := (rd_ok 7 true l x.2 g1 g2 g3).2 (by rw [hr, ← g4])
    have hv := ((vl_ok (l.take x.2) true 7 (by omega)).2 ho).2.1
    exact .inr ⟨x.1, x.2, rfl, g1, g3, by omega, by rw [g4]; exact hv⟩

/-- how far both have read -/
def RS (s : List UInt8) (at_ : Int) (left : List UInt8) (bad : Bool) : Prop := (bad = true ∧ at_ = -1) ∨ (bad = false ∧ ∃ a : Nat, at_ = (a : Int) ∧ a ≤ s.length ∧ left = s.drop a)

theorem num_impl (N : Nat) (left : List UInt8) (bad : Bool) (hN : 100 < N) : m_impl_byteReader__number N left bad = some ((rdP left).1, left.drop (rdP left).2.toNat, bad || (rdP left).2 == 0) := by
  unfold m_impl_byteReader__number
  rw [readVar_impl N left hN, Option.bind_some]
  have hk : ∃ k : Nat, (rdP left).2 = (k : Int) ∧ k ≤ left.length := by
    rcases rdP_cases left with h | ⟨n, k, h, _, h2, _⟩
    · exact ⟨0, by rw [h]; rfl, by omega⟩
    · exact ⟨k, by rw [h], h2⟩
  obtain ⟨k, e, hk⟩ := hk
  rw [e, cut_nat hk (Nat.le_refl _), Int.toNat_natCast]
  have : (left.drop k).take (left.length - k) = left.drop k := List.take_of_length_le (by simp)
  rw [this]
  cases bad <;> rfl

theorem numR_ex (N : Nat) (s : List UInt8) (at_ : Int) (left : List UInt8) (bad : Bool) (hN : 100 < N) (hs : s.length ≤ 1048576) (h : RS s at_ left bad) :
    ∃ n1 n2 at' left' bad', m_spec_l43Num N s at_ = some (n1, at') ∧ m_impl_byteReader__number N left bad = some (n2, left', bad') ∧ RS s at' left' bad' ∧ 0 ≤ n2 ∧ 0 ≤ n1 ∧ (bad' = true → n1 = 0) ∧ (bad = false → bad' = true → n2 = 0) ∧
      (bad' = false → bad = false ∧ n1 = n2 ∧ n1 < 562949953421312 ∧ ∀ a a' : Nat, at_ = (a : Int) → at' = (a' : Int) → s.take a' = s.take a ++ vlF 7 n1.toNat) := by
  have hi := num_impl N left bad hN
  have hnn : 0 ≤ (rdP left).1 := by
    rcases rdP_cases left with h | ⟨n, k, h, _⟩
    · rw [h]; simp
    · rw [h]; simp
  rcases h with ⟨rfl, rfl⟩ | ⟨rfl, a, rfl, ha, rfl⟩
  · refine ⟨0, _, -1, _, true, rfl, by rw [hi]; rfl, .inl ⟨rfl, rfl⟩, hnn, by omega, fun _ => rfl, (fun h => by cases h), (fun h => by cases h)⟩
  · have hneg : decide (((a : Nat) : Int) < 0) = false := by first | (simp; done) | (simp; omega)
    have hcut : cut s (a : Int) (s.length : Int) = some (s.drop a) := by
      rw [cut_nat ha (Nat.le_refl _), List.take_of_length_le (by simp)]
    have hsp : m_spec_l43Num N s (a : Int) = bif ((rdP (s.drop a)).2 == 0) then some (0, (-1)) else some ((rdP (s.drop a)).1, (IntKind.wrap .i64 ((a : Int) + (rdP (s.drop a)).2))) := by
      unfold m_spec_l43Num
      rw [hneg, cond_false, hcut, Option.bind_some, readVar_spec N _ hN, Option.bind_some]
    rcases rdP_cases (s.drop a) with h | ⟨n, k, h, k1, k2, k3, k4⟩
    · rw [h] at hi hsp
      exact ⟨0, 0, -1, _, true, hsp, hi, .inl ⟨rfl, rfl⟩, by omega, by omega, fun _ => rfl, fun _ _ => rfl, (fun h => by cases h)⟩
    · rw [h] at hi hsp
      rw [List.length_drop] at k2
      have hz : (((k : Nat) : Int) == 0) = false := by first | (simp; done) | (simp; omega)
      simp only [hz, cond_false, Bool.or_false] at hi hsp
      rw [wrap64 (by omega) (by omega)] at hsp
      refine ⟨(n : Int), (n : Int), ((a + k : Nat) : Int), _, false, hsp, hi, .inr ⟨rfl, a + k, rfl, by omega, ?_⟩, by omega, by omega, (fun h => by cases h), (fun _ h => by cases h), fun _ => ⟨rfl, rfl, by omega, fun b b' hb hb' => ?_⟩⟩
      · rw [Int.toNat_natCast, List.drop_drop]
      · obtain rfl : a = b := by omega
        obtain rfl : b' = a + k := by omega
        rw [Int.toNat_natCast, k4, ← List.take_add]

theorem textR_ex (N : Nat) (s : List UInt8) (at_ : Int) (left : List UInt8) (bad : Bool) (hN : 100 < N) (hs : s.length ≤ 1048576) (h : RS s at_ left bad) :
    ∃ t1 t2 at' left' bad', m_spec_l43Read N s at_ = some (t1, at') ∧ m_impl_byteReader__text N left bad = some (t2, left', bad') ∧ RS s at' left' bad' ∧ t1.length ≤ s.length ∧
      (bad' = false → bad = false ∧ t1 = t2 ∧ ∀ a a' : Nat, at_ = (a : Int) → at' = (a' : Int) → s.take a' = s.take a ++ (vlF 7 t1.length ++ t1)) := by
  obtain ⟨n1, n2, at1, left1, bad1, e1, e2, hr, h2, h1, hb0, _, hg⟩ := numR_ex N s at_ left bad hN hs h
  unfold m_spec_l43Read m_impl_byteReader__text
  rw [e1, e2]
  simp only [Option.bind_some]
  obtain ⟨n2, rfl⟩ := Int.eq_ofNat_of_zero_le h2
  rcases hr with ⟨rfl, rfl⟩ | ⟨rfl, a, rfl, ha, rfl⟩
  · have d1 : decide ((-1 : Int) < 0) = true := by decide
    simp only [d1, cond_true, Option.bind_some]
    by_cases hc : n2 > left1.length
    · have d2 : decide ((n2 : Int) > (left1.length : Int)) = true := by first | (simp; done) | (simp; omega)
      rw [d2, cond_true]
      exact ⟨[], [], -1, left1, true, rfl, rfl, .inl ⟨rfl, rfl⟩, by simp, (fun h => by cases h)⟩
    · have d2 : decide ((n2 : Int) > (left1.length : Int)) = false := by first | (simp; done) | (simp; omega)
      rw [d2, cond_false, show (0 : Int) = ((0 : Nat) : Int) from rfl, cut_nat (by omega) (by omega), Option.bind_some, cut_nat (by omega) (Nat.le_refl _), Option.bind_some]
      exact ⟨[], _, -1, _, true, rfl, rfl, .inl ⟨rfl, rfl⟩, by simp, (fun h => by cases h)⟩
  · obtain ⟨rfl, e, hlt, hby⟩ := hg rfl
    subst e
    have d1 : decide (((a : Nat) : Int) < 0) = false := by first | (simp; done) | (simp; omega)
    rw [d1, wrap64 (n := (s.length : Int) - (a : Int)) (by omega) (by omega)]
    simp only [cond_false, Option.bind_some, List.length_drop]
    by_cases hc : n2 > s.length - a
    · have d2 : decide ((n2 : Int) > ((s.length - a : Nat) : Int)) = true := by first | (simp; done) | (simp; omega)
      have d3 : decide ((n2 : Int) > (s.length : Int) - (a : Int)) = true := by first | (simp; done) | (simp; omega)
      rw [d2, d3, cond_true, cond_true]
      exact ⟨[], [], -1, _, true, rfl, rfl, .inl ⟨rfl, rfl⟩, by simp, (fun h => by cases h)⟩
    · have d2 : decide ((n2 : Int) > ((s.length - a : Nat) : Int)) = false := by first | (simp; done) | (simp; omega)
      have d3 : decide ((n2 : Int) > (s.length : Int) - (a : Int)) = false := by first | (simp; done) | (simp; omega)
      have hl : (s.drop a).length = s.length - a := by simp
      rw [d2, d3, cond_false, cond_false, wrap64 (n := (a : Int) + (n2 : Int)) (by omega) (by omega), show (a : Int) + (n2 : Int) = ((a + n2 : Nat) : Int) by omega, cut_nat (by omega) (by omega), Option.bind_some,
        show (0 : Int) = ((0 : Nat) : Int) from rfl, cut_nat (by omega) (by omega), Option.bind_some, ← hl, cut_nat (by omega) (Nat.le_refl _), Option.bind_some]
      have ht : ((s.drop a).take (a + n2 - a)).length = n2 := by first | (simp; done) | (simp; omega)
      refine ⟨(s.drop a).take (a + n2 - a), _, ((a + n2 : Nat) : Int), _, false, rfl, rfl, .inr ⟨rfl, a + n2, rfl, by omega, ?_⟩, by omega, fun _ => ⟨by trivial, ?_, fun b b' hb hb' => ?_⟩⟩
      · rw [List.take_of_length_le (by first | (simp; done) | (simp; omega)), List.drop_drop]
      · rw [List.drop_zero, Nat.sub_zero, Nat.add_sub_cancel_left]
      · obtain rfl : b' = a + n2 := by omega
        rw [ht, ← List.append_assoc]
        have := hby b a hb rfl
        rw [Int.toNat_natCast] at this
        rw [← this, Nat.add_sub_cancel_left, ← List.take_add]

theorem kidsR_ex (ends : List Int) (m : Int) (h0 : 0 ≤ m) (hl : ends.length ≤ 1000) : ∃ e k, m_spec_l43Kids ends m = some (e, k) ∧ e.length ≤ ends.length ∧ k.length ≤ ends.length + 1 ∧ (m > (ends.length : Int) → e = [] ∧ k = [-1]) ∧
    (m ≤ (ends.length : Int) → e = ends.take (ends.length - m.toNat) ∧ k = ends.drop (ends.length - m.toNat)) := by
  unfold m_spec_l43Kids
  obtain ⟨m, rfl⟩ := Int.eq_ofNat_of_zero_le h0
  by_cases h : m > ends.length
  · have d : decide ((m : Int) > (ends.length : Int)) = true := by first | (simp; done) | (simp; omega)
    rw [d, cond_true]
    exact ⟨[], [-1], rfl, by simp, by simp, fun _ => ⟨rfl, rfl⟩, fun h' => by omega⟩
  · have d : decide ((m : Int) > (ends.length : Int)) = false := by first | (simp; done) | (simp; omega)
    rw [d, cond_false, wrap64 (by omega) (by omega), show (ends.length : Int) - (m : Int) = ((ends.length - m : Nat) : Int) by omega, show (0 : Int) = ((0 : Nat) : Int) from rfl, cut_nat (by omega) (by omega), Option.bind_some, cut_nat (by omega) (Nat.le_refl _), Option.bind_some, app_some (by first | (simp; done) | (simp; omega)), Option.bind_some]
    refine ⟨_, _, rfl, by first | (simp; done) | (simp; omega), by first | (simp; done) | (simp; omega), (fun h' => by omega), fun _ => ⟨?_, ?_⟩⟩
    · rw [List.drop_zero, Nat.sub_zero, Int.toNat_natCast]
    · rw [List.nil_append, List.take_of_length_le (by simp), Int.toNat_natCast]

theorem cond3 (c1 c2 c3 : Bool) : (bif c1 then bif c2 then some c3 else some false else some false) = some (c1 && (c2 && c3)) := by cases c1 <;> cases c2 <;> rfl

theorem atR_neg (N f : Nat) (s : List UInt8) (r2 : Int × Int) (i : Int) (out : List SNode) (ends : List Int) : m_spec_ReadTree_l1 N (f + 1) (s, r2, -1, i, out, ends) = some ([], false) := by
  rw [m_spec_ReadTree_l1]
  have d : decide ((-1 : Int) ≥ 0) = false := by decide
  have d2 : ((-1 : Int) != (s.length : Int)) = true := by
    rw [bne_iff_ne]
    omega
  rw [cond3, d]
  simp only [Bool.and_false, Option.bind_some, cond_false, d2, cond_true]

/-- what can't be right any more is told so in the end -/
theorem badR_l (N : Nat) (s : List UInt8) (n0 k0 : Int) (hN : 1048577 + 400 < N) (hs : s.length ≤ 1048576) : ∀ (f i : Nat) (at_ : Int) (out : List SNode) (ends : List Int), 401 - i < f → i ≤ 400 → out.length = i → (at_ = -1 ∨ ∃ a : Nat, at_ = (a : Int) ∧ a ≤ s.length) →
    (n0 > 400 ∨ ∃ x, x ∈ out ∧ ∃ k, k ∈ x.Kids ∧ k < 0) → (∀ x, x ∈ out → smNode x) → ends.length ≤ i → m_spec_ReadTree_l1 N f (s, (n0, k0), at_, (i : Int), out, ends) = some ([], false) := by
  intro f
  induction f with
  | zero => intro i at_ out ends h; omega
  | succ f ih =>
    intro i at_ out ends hf hi ho hat hbad hsm he
    rcases hat with rfl | ⟨a, rfl, ha⟩
    · exact atR_neg N f s (n0, k0) i out ends
    rw [m_spec_ReadTree_l1, cond3]
    simp only [Option.bind_some]
    cases hc : (decide ((i : Int) < n0) && (decide ((i : Int) < 400) && decide ((a : Int) ≥ 0))) with
    | true =>
      simp only [Bool.and_eq_true, decide_eq_true_eq] at hc
      rw [cond_true]
      have hf' : 401 - (i + 1) < f := by omega
      have hi' : i + 1 ≤ 400 := by omega
      obtain ⟨n1, _, at1, l1, b1, e1, _, r1, _, _, _, _, _⟩ := numR_ex N s (a : Int) (s.drop a) false (by omega) hs (.inr ⟨rfl, a, rfl, ha, rfl⟩)
      obtain ⟨n2, _, at2, l2, b2, e2, _, r2, _, _, _, _, _⟩ := numR_ex N s at1 l1 b1 (by omega) hs r1
      obtain ⟨t3, _, at3, l3, b3, e3, _, r3, h3, _⟩ := textR_ex N s at2 l2 b2 (by omega) hs r2
      obtain ⟨t4, _, at4, l4, b4, e4, _, r4, h4, _⟩ := textR_ex N s at3 l3 b3 (by omega) hs r3
      obtain ⟨n5, _, at5, l5, b5, e5, _, r5, _, p5, _, _, _⟩ := numR_ex N s at4 l4 b4 (by omega) hs r4
      obtain ⟨e, k, e6, q1, q2, _, _⟩ := kidsR_ex ends n5 p5 (by omega)
      simp only [e1, e2, e3, e4, e5, e6, Option.bind_some]
      rw [app_some (by first | (simp; done) | (simp; omega)), Option.bind_some, app_some (by first | (simp; done) | (simp; omega)), Option.bind_some, app_some (by first | (simp; done) | (simp; omega)), Option.bind_some, wrap64 (by omega) (by omega)]
      refine ih (i + 1) at5 _ _ hf' hi' (by first | (simp; done) | (simp; omega)) ?_ ?_ (fun x hx => ?_) (by first | (simp; done) | (simp; omega))
      · rcases r5 with ⟨_, h⟩ | ⟨_, a', h1, h2, _⟩
        · exact .inl h
        · exact .inr ⟨a', h1, h2⟩
      · exact hbad.imp id fun ⟨x, hx, hk⟩ => ⟨x, List.mem_append.2 (.inl hx), hk⟩
      · rcases List.mem_append.1 hx with hx | hx
        · exact hsm x hx
        · rw [List.mem_singleton.1 hx]
          exact ⟨by simp only; omega, by simp only; omega, by simp only; omega⟩
    | false =>
      rw [cond_false]
      cases h1 : ((a : Int) != (s.length : Int)) with
      | true => simp only [cond_true, Option.bind_some]
      | false =>
        simp only [cond_false]
        cases h2 : ((out.length : Int) != n0) with
        | true => simp only [cond_true, Option.bind_some]
        | false =>
          obtain ⟨b, b1, _, b3⟩ := treeOk_ex N out (by omega) hsm
          have hb : b = false := by
            cases b with
            | false => rfl
            | true =>
              obtain ⟨hsh, _⟩ := b3 rfl
              rcases hbad with h | ⟨x, hx, k, hk, hneg⟩
              · simp only [bne_eq_false_iff_eq] at h2; omega
              · have := ((shape_kids hsh x hx).2 k hk).1
                omega
          subst hb
          simp only [cond_false, b1, Option.bind_some, Bool.not_false, cond_true]

/-! ### the bytes of nodes -/
def nb (x : SNode) : List UInt8 := vlF 7 x.Kind.toNat ++ (vlF 7 x.Op.toNat ++ ((vlF 7 x.Text.length ++ x.Text) ++ ((vlF 7 x.Other.length ++ x.Other) ++ vlF 7 x.Kids.length)))
def inR (x : SNode) : Prop := (0 ≤ x.Kind ∧ x.Kind < 562949953421312) ∧ (0 ≤ x.Op ∧ x.Op < 562949953421312)

theorem nb_len (x : SNode) (h : smNode x) : (nb x).length ≤ 3000000 := by
  unfold smNode at h
  have h1 := vlF_len 7 x.Kind.toNat
  have h2 := vlF_len 7 x.Op.toNat
  have h3 := vlF_len 7 x.Text.length
  have h4 := vlF_len 7 x.Other.length
  have h5 := vlF_len 7 x.Kids.length
  unfold nb
  simp only [List.length_append]
  omega

theorem show_l2 (N : Nat) (hN : 100 < N) (a : List SNode) (hl : a.length ≤ 1048576) (hs : ∀ x, x ∈ a → smNode x ∧ inR x) : ∀ (k i f : Nat) (acc : List UInt8), i + k = a.length → k < f → acc.length ≤ 100 + i * 3000000 →
    m_spec_ShowTree_l1 N f (a, acc, (i : Int)) = some (acc ++ (a.drop i).flatMap nb) := by
  intro k
  induction k with
  | zero =>
    intro i f acc hi hf ha
    obtain ⟨f, rfl⟩ : ∃ m, f = m + 1 := ⟨f - 1, by omega⟩
    have hlt : ¬ i < a.length := by omega
    rw [m_spec_ShowTree_l1, lt_false hlt, cond_false, drop_nil hlt]
    simp
  | succ k ih =>
    intro i f acc hi hf ha
    obtain ⟨f, rfl⟩ : ∃ m, f = m + 1 := ⟨f - 1, by omega⟩
    have hlt : i < a.length := by omega
    have hx := ix_nat hlt
    obtain ⟨hsm, ⟨k1, k2⟩, o1, o2⟩ := hs a[i] (List.getElem_mem hlt)
    have hnl := nb_len a[i] hsm
    unfold smNode at hsm
    obtain ⟨kk, hkk⟩ := Int.eq_ofNat_of_zero_le k1
    obtain ⟨oo, hoo⟩ := Int.eq_ofNat_of_zero_le o1
    have a1 : m_spec_Var N a[i].Kind = some (vlF 7 a[i].Kind.toNat) := by rw [hkk, Int.toNat_natCast]; exact var_vl N hN kk (by omega)
    have a2 : m_spec_Var N a[i].Op = some (vlF 7 a[i].Op.toNat) := by rw [hoo, Int.toNat_natCast]; exact var_vl N hN oo (by omega)
    have a3 := var_vl N hN a[i].Text.length (by omega)
    have a4 := var_vl N hN a[i].Other.length (by omega)
    have a5 := var_vl N hN a[i].Kids.length (by omega)
    have c1 := vlF_len 7 a[i].Kind.toNat
    have c2 := vlF_len 7 a[i].Op.toNat
    have c3 := vlF_len 7 a[i].Text.length
    have c4 := vlF_len 7 a[i].Other.length
    have c5 := vlF_len 7 a[i].Kids.length
    have hm : (9223372036854775807 : Nat) = maxLen := rfl
    have hstep : IntKind.wrap .i64 ((i : Int) + 1) = ((i + 1 : Nat) : Int) := by rw [wrap64 (by omega) (by omega)]; omega
    rw [m_spec_ShowTree_l1, lt_true hlt, cond_true]
    unfold m_spec_l43Text
    simp only [hx, Option.bind_some, a1, a2, a3, a4, a5]
    rw [cat_some (by omega), Option.bind_some, cat_some (by simp only [List.length_append]; omega), Option.bind_some, cat_some (by omega), Option.bind_some, Option.bind_some, cat_some (by simp only [List.length_append]; omega), Option.bind_some,
      cat_some (by omega), Option.bind_some, Option.bind_some, cat_some (by simp only [List.length_append]; omega), Option.bind_some, cat_some (by simp only [List.length_append]; omega), Option.bind_some, hstep]
    rw [ih (i + 1) f _ (by omega) (by omega) (by simp only [List.length_append]; omega), drop_cons hlt, List.flatMap_cons]
    unfold nb
    simp only [List.append_assoc]

/-- what both read together -/
theorem readR_l (N : Nat) (s : List UInt8) (many : Nat) (k0 : Int) (l0 : List UInt8) (b0 : Bool) (hN : 1048577 + 400 < N) (hs : s.length ≤ 1048576) (hm : many ≤ 400) : ∀ (f i a : Nat) (out : List SNode) (open_ : List Int), 402 - i < f → i ≤ many → out.length = i → a ≤ s.length →
    s.take a = vlF 7 many ++ out.flatMap nb → (∀ x, x ∈ out → smNode x ∧ inR x) → open_.length ≤ i →
    ∃ r, m_impl_ReadTree_l1 N f (s, ((many : Int), l0, b0), (i : Int), s.drop a, false, out, open_) = some r ∧ m_spec_ReadTree_l1 N f (s, ((many : Int), k0), (a : Int), (i : Int), out, open_) = some r ∧ r.1.length ≤ 400 ∧ ∀ x, x ∈ r.1 → smNode x := by
  intro f
  induction f with
  | zero => intro i a out open_ h; omega
  | succ f ih =>
    intro i a out open_ hf hi ho ha hby hsm hop
    rw [m_impl_ReadTree_l1, m_spec_ReadTree_l1, cond3]
    simp only [Option.bind_some]
    have dz : decide ((a : Int) ≥ 0) = true := by simp
    by_cases h : i < many
    · have d4 : decide ((i : Int) < 400) = true := by first | (simp; done) | (simp; omega)
      simp only [lt_true h, d4, dz, Bool.and_self, cond_true]
      obtain ⟨n1, n1', at1, l1, b1, e1, i1, r1, _, q1, _, _, g1⟩ := numR_ex N s (a : Int) (s.drop a) false (by omega) hs (.inr ⟨rfl, a, rfl, ha, rfl⟩)
      obtain ⟨n2, n2', at2, l2, b2, e2, i2, r2, _, q2, _, _, g2⟩ := numR_ex N s at1 l1 b1 (by omega) hs r1
      obtain ⟨t3, t3', at3, l3, b3, e3, i3, r3, h3, g3⟩ := textR_ex N s at2 l2 b2 (by omega) hs r2
      obtain ⟨t4, t4', at4, l4, b4, e4, i4, r4, h4, g4⟩ := textR_ex N s at3 l3 b3 (by omega) hs r3
      obtain ⟨n5, n5', at5, l5, b5, e5, i5, r5, p5, q5, z5, _, g5⟩ := numR_ex N s at4 l4 b4 (by omega) hs r4
      obtain ⟨e, k, e6, w1, w2, w3, w4⟩ := kidsR_ex open_ n5 q5 (by omega)
      simp only [e1, e2, e3, e4, e5, e6, i1, i2, i3, i4, i5, Option.bind_some]
      rw [app_some (n := 8) (l := ([] : List Int)) (l2 := e) (by first | (simp; done) | (simp; omega)), Option.bind_some, app_some (n := 8) (l := [] ++ e) (by first | (simp; done) | (simp; omega)), Option.bind_some, app_some (n := 72) (l := out) (l2 := [(⟨n1, n2, t3, t4, k⟩ : SNode)]) (by first | (simp; done) | (simp; omega)), Option.bind_some, wrap64 (n := (i : Int) + 1) (by omega) (by omega)]
      have hnode : smNode ⟨n1, n2, t3, t4, k⟩ := ⟨by simp only; omega, by simp only; omega, by simp only; omega⟩
      cases b5 with
      | true =>
        simp only [cond_true, Option.bind_some]
        refine ⟨([], false), rfl, ?_, by simp, fun x hx => by cases hx⟩
        have h5 : at5 = -1 := by
          rcases r5 with ⟨_, h⟩ | ⟨h, _⟩
          · exact h
          · cases h
        subst h5
        obtain ⟨f, rfl⟩ : ∃ m, f = m + 1 := ⟨f - 1, by omega⟩
        exact atR_neg N f s _ _ _ _
      | false =>
        obtain ⟨rfl, rfl, u5, y5⟩ := g5 rfl
        obtain ⟨rfl, rfl, y4⟩ := g4 rfl
        obtain ⟨rfl, rfl, y3⟩ := g3 rfl
        obtain ⟨rfl, rfl, u2, y2⟩ := g2 rfl
        obtain ⟨_, rfl, u1, y1⟩ := g1 rfl
        have rn : ∀ {x : Int} {l : List UInt8}, RS s x l false → ∃ a : Nat, x = (a : Int) ∧ a ≤ s.length ∧ l = s.drop a := fun h => by
          rcases h with ⟨h, _⟩ | ⟨_, h⟩
          · cases h
          · exact h
        obtain ⟨a1, rfl, _, _⟩ := rn r1
        obtain ⟨a2, rfl, _, _⟩ := rn r2
        obtain ⟨a3, rfl, _, _⟩ := rn r3
        obtain ⟨a4, rfl, _, _⟩ := rn r4
        obtain ⟨a5, rfl, ha5, hl5⟩ := rn r5
        have y1 := y1 a a1 rfl rfl
        have y2 := y2 a1 a2 rfl rfl
        have y3 := y3 a2 a3 rfl rfl
        have y4 := y4 a3 a4 rfl rfl
        have y5 := y5 a4 a5 rfl rfl
        simp only [cond_false]
        by_cases hk : n5 > (open_.length : Int)
        · have d : decide (n5 > (open_.length : Int)) = true := by simpa using hk
          rw [d]
          simp only [Option.bind_some, cond_true]
          obtain ⟨rfl, rfl⟩ := w3 hk
          refine ⟨([], false), rfl, ?_, by simp, fun x hx => by cases hx⟩
          have := badR_l N s (many : Int) k0 hN hs f (i + 1) (a5 : Int) (out ++ [⟨n1, n2, t3, t4, [-1]⟩]) ([] ++ [] ++ [(i : Int)]) (by omega) (by omega) (by first | (simp; done) | (simp; omega)) (.inr ⟨a5, rfl, ha5⟩) (.inr ⟨⟨n1, n2, t3, t4, [-1]⟩, by simp, -1, by simp, by omega⟩)
            (fun x hx => (List.mem_append.1 hx).elim (fun h => (hsm x h).1) fun h => by rw [List.mem_singleton.1 h]; exact hnode) (by simp)
          exact this
        · have d : decide (n5 > (open_.length : Int)) = false := by simpa using hk
          rw [d]
          simp only [Option.bind_some, cond_false]
          obtain ⟨rfl, rfl⟩ := w4 (by omega)
          obtain ⟨m, rfl⟩ := Int.eq_ofNat_of_zero_le q5
          have hml : m ≤ open_.length := by omega
          rw [wrap64 (n := (open_.length : Int) - (m : Int)) (by omega) (by omega), show (open_.length : Int) - (m : Int) = ((open_.length - m : Nat) : Int) by omega, cut_nat (by omega) (Nat.le_refl _), Option.bind_some, app_some (by first | (simp; done) | (simp; omega)), Option.bind_some, show (0 : Int) = ((0 : Nat) : Int) from rfl, cut_nat (by omega) (by omega), Option.bind_some, app_some (by first | (simp; done) | (simp; omega)), Option.bind_some]
          have hk1 : [] ++ (open_.drop (open_.length - m)).take (open_.length - (open_.length - m)) = open_.drop (open_.length - ((m : Nat) : Int).toNat) := by
            rw [List.nil_append, List.take_of_length_le (by simp), Int.toNat_natCast]
          have hk2 : (open_.drop 0).take (open_.length - m - 0) = [] ++ open_.take (open_.length - ((m : Nat) : Int).toNat) := by
            rw [List.drop_zero, Nat.sub_zero, List.nil_append, Int.toNat_natCast]
          rw [hk1, hk2]
          rw [app_some (by first | (simp; done) | (simp; omega)), Option.bind_some]
          rw [hl5]
          have hkl : (open_.drop (open_.length - ((m : Nat) : Int).toNat)).length = m := by first | (simp; done) | (simp; omega)
          have hkl2 : (open_.drop (open_.length - m)).length = m := by rw [List.length_drop]; omega
          refine ih (i + 1) a5 _ _ (by omega) (by omega) (by first | (simp; done) | (simp; omega)) ha5 ?_ (fun x hx => ?_) (by first | (simp; done) | (simp; omega))
          · rw [List.flatMap_append, ← List.append_assoc, ← hby, y5, y4, y3, y2, y1]
            simp only [List.flatMap_cons, List.flatMap_nil, List.append_nil, nb, Int.toNat_natCast, hkl2, List.append_assoc]
          · rcases List.mem_append.1 hx with h | h
            · exact hsm x h
            · rw [List.mem_singleton.1 h]
              exact ⟨hnode, ⟨q1, u1⟩, q2, u2⟩
    · obtain rfl : i = many := by omega
      simp only [lt_false h, Bool.false_and, cond_false]
      have hsm' : ∀ x, x ∈ out → smNode x := fun x hx => (hsm x hx).1
      obtain ⟨b, b1, b2, _⟩ := treeOk_ex N out (by omega) hsm'
      have hne : ((out.length : Int) != (i : Int)) = false := by simp [ho]
      rw [b1, b2, hne]
      simp only [Option.bind_some, cond_false]
      cases b with
      | false =>
        simp only [Bool.not_false, cond_true, Option.bind_some]
        refine ⟨([], false), rfl, ?_, by simp, fun x hx => by cases hx⟩
        cases ((a : Int) != (s.length : Int)) <;> rfl
      | true =>
        obtain ⟨sh, s1, s2⟩ := show_is N out (by omega) (by omega) hsm'
        have hsh : sh = s.take a := by
          have h1 := s1
          unfold m_spec_ShowTree at h1
          rw [b1] at h1
          simp only [Option.bind_some, Bool.not_true, cond_false] at h1
          rw [var_vl N (by omega) out.length (by omega), Option.bind_some] at h1
          have h8 := vlF_len 7 out.length
          have := show_l2 N (by omega) out (by omega) hsm out.length 0 N (vlF 7 out.length) (by omega) (by omega) (by omega)
          have h2 : some (vlF 7 out.length ++ (out.drop 0).flatMap nb) = some sh := this.symm.trans h1
          rw [hby, ← Option.some.inj h2, List.drop_zero, ho]
        rw [s1, s2]
        simp only [Bool.not_true, cond_false, Option.bind_some]
        by_cases hal : a = s.length
        · have h1 : ((a : Int) != (s.length : Int)) = false := by simp [hal]
          have h2 : (!(sh == s)) = false := by rw [hsh, hal, List.take_length]; simp
          rw [h1, h2]
          simp only [cond_false, Option.bind_some]
          exact ⟨(out, true), rfl, rfl, by simp only; omega, hsm'⟩
        · have h1 : ((a : Int) != (s.length : Int)) = true := by first | (simp; done) | (simp; omega)
          have h2 : (!(sh == s)) = true := by
            have : sh ≠ s := fun e => by
              have := congrArg List.length e
              rw [hsh, List.length_take] at this
              omega
            simpa using this
          rw [h1, h2]
          simp only [cond_true, Option.bind_some]
          exact ⟨([], false), rfl, rfl, by simp, fun x hx => by cases hx⟩

theorem readTree_ex (N : Nat) (s : List UInt8) (hN : 1048577 + 800 < N) (hs : s.length ≤ 1048576) : ∃ r, m_spec_ReadTree N s = some r ∧ m_impl_ReadTree N s = some r ∧ r.1.length ≤ 400 ∧ ∀ x, x ∈ r.1 → smNode x := by
  obtain ⟨n1, n2, at1, l1, b1, e1, i1, r1, p1, q1, z1, z2, g1⟩ := numR_ex N s 0 s false (by omega) hs (.inr ⟨rfl, 0, rfl, by omega, rfl⟩)
  unfold m_spec_ReadTree m_impl_ReadTree
  rw [e1, i1]
  simp only [Option.bind_some]
  obtain ⟨M, rfl⟩ : ∃ M, N = M + 1 := ⟨N - 1, by omega⟩
  cases b1 with
  | true =>
    have h2 := z2 rfl rfl
    subst h2
    have h5 : at1 = -1 := by
      rcases r1 with ⟨_, h⟩ | ⟨h, _⟩
      · exact h
      · cases h
    subst h5
    have d : decide ((0 : Int) > 400) = false := by decide
    rw [d, cond_false]
    refine ⟨([], false), atR_neg _ M s _ _ _ _, ?_, by simp, fun x hx => by cases hx⟩
    rw [m_impl_ReadTree_l1]
    rfl
  | false =>
    obtain ⟨_, rfl, u1, y1⟩ := g1 rfl
    obtain ⟨many, rfl⟩ := Int.eq_ofNat_of_zero_le q1
    obtain ⟨a, rfl, ha, rfl⟩ : ∃ a : Nat, at1 = (a : Int) ∧ a ≤ s.length ∧ l1 = s.drop a := by
      rcases r1 with ⟨h, _⟩ | ⟨_, h⟩
      · cases h
      · exact h
    by_cases h : many > 400
    · have d : decide ((many : Int) > 400) = true := by first | (simp; done) | (simp; omega)
      rw [d, cond_true]
      refine ⟨([], false), ?_, rfl, by simp, fun x hx => by cases hx⟩
      exact badR_l (M + 1) s (many : Int) (a : Int) (by omega) hs (M + 1) 0 (a : Int) [] [] (by omega) (by omega) rfl (.inr ⟨a, rfl, ha⟩) (.inl (by omega)) (fun x hx => by cases hx) (by simp)
    · have d : decide ((many : Int) > 400) = false := by first | (simp; done) | (simp; omega)
      rw [d, cond_false]
      have hy := y1 0 a rfl rfl
      rw [List.take_zero, List.nil_append, Int.toNat_natCast] at hy
      obtain ⟨r, c1, c2, c3, c4⟩ := readR_l (M + 1) s many (a : Int) (s.drop a) false (by omega) hs (by omega) (M + 1) 0 a [] [] (by omega) (by omega) rfl ha (by rw [hy]; simp) (fun x hx => by cases hx) (by simp)
      exact ⟨r, c2, c1, c3, c4⟩

theorem plain (s : List UInt8) (ks : s.length ≤ maxLen) : ∃ N, m_laws_FnExactReadTree N s = some true := by
  refine ⟨1053578, ?_⟩
  obtain ⟨N, hN⟩ : ∃ N, N = 1053578 := ⟨_, rfl⟩
  rw [← hN]
  unfold m_laws_FnExactReadTree
  cases hb : decide ((s.length : Int) > 1048576) with
  | true => rfl
  | false =>
    have hs : s.length ≤ 1048576 := by simp at hb; omega
    obtain ⟨⟨b, bb⟩, b1, b2, b3, b4⟩ := readTree_ex N s (by omega) hs
    simp only at b3 b4
    have eb := eqNodeS_self N b (by omega) (by omega) b4
    obtain ⟨k1, a1, m1, m2, m3, m4⟩ := markN_of N 1 b (by omega) (by omega) b4 (by omega) (by omega)
    have d1 : decide (k1 < 0) = false := by first | (simp; done) | (simp; omega)
    simp only [cond_false, Option.bind_some, b1, b2, eb, Bool.not_true, m1, m4, d1, bne_self_eq_false, beq_self_eq_true]



theorem kids : Go.Kids Tryz.prog (· < Tryz.prog.types.size) := kids_rows (by kernel_rfl) (by kernel_rfl)
theorem full : ∀ t e, t < Tryz.prog.types.size → Tryz.prog.underlying t = some (.slice e) → 0 < Tryz.prog.cellsOf e := slices_full_of Tryz.prog (by kernel_rfl)

/-- what the row lists -/
def lay : List (String × DataW Unit) := [("loop.example/g01543/impl.keywords", Rows.laid_loop_example_g01543_impl_keywords), ("loop.example/g01543/impl.signs", Rows.laid_loop_example_g01543_impl_signs), ("loop.example/g01543/impl.builtins", Rows.laid_loop_example_g01543_impl_builtins)]

theorem tables {W : World} (h : laidMetH Tryz.prog lay W) : W.var? Tryz.prog "loop.example/g01543/impl.keywords" = some (strCells tab_keywords) ∧ W.var? Tryz.prog "loop.example/g01543/impl.signs" = some (strCells tab_signs) ∧ W.var? Tryz.prog "loop.example/g01543/impl.builtins" = some (strCells tab_builtins) := by
  rw [MakeChecks.laidMetH_plain _ _ _ (by kernel_rfl)] at h
  obtain ⟨ps, ⟨g0, t0, cs0, fuel0, p0, q0, hg0, ht0, hv0, hd0, r0, _⟩, _, _⟩ := h
  obtain ⟨g1, t1, cs1, fuel1, p1, q1, hg1, ht1, hv1, hd1, r1, _⟩ := r0
  obtain ⟨g2, t2, cs2, fuel2, p2, q2, hg2, ht2, hv2, hd2, r2, _⟩ := r1
  obtain rfl := Option.some.inj ((show Tryz.prog.globalNamed "loop.example/g01543/impl.keywords" = some 1 by kernel_rfl).symm.trans hg0)
  obtain rfl := Option.some.inj ((show (Tryz.prog.globals[1]?).map (·.type) = some 137 by kernel_rfl).symm.trans ht0)
  have e0 : cs0 = strCells tab_keywords := strs_of_trod (l := tab_keywords) (p := p0) (by rw [show (DataW.agg (tab_keywords.map fun s => .lit (.string s)) : DataW Unit) = Rows.laid_loop_example_g01543_impl_keywords by kernel_rfl]; exact hd0) Tryz.underlying137 Tryz.underlying9 (by kernel_rfl) (by kernel_rfl)
  rw [e0] at hv0
  obtain rfl := Option.some.inj ((show Tryz.prog.globalNamed "loop.example/g01543/impl.signs" = some 2 by kernel_rfl).symm.trans hg1)
  obtain rfl := Option.some.inj ((show (Tryz.prog.globals[2]?).map (·.type) = some 139 by kernel_rfl).symm.trans ht1)
  have e1 : cs1 = strCells tab_signs := strs_of_trod (l := tab_signs) (p := p1) (by rw [show (DataW.agg (tab_signs.map fun s => .lit (.string s)) : DataW Unit) = Rows.laid_loop_example_g01543_impl_signs by kernel_rfl]; exact hd1) Tryz.underlying139 Tryz.underlying9 (by kernel_rfl) (by kernel_rfl)
  rw [e1] at hv1
  obtain rfl := Option.some.inj ((show Tryz.prog.globalNamed "loop.example/g01543/impl.builtins" = some 0 by kernel_rfl).symm.trans hg2)
  obtain rfl := Option.some.inj ((show (Tryz.prog.globals[0]?).map (·.type) = some 135 by kernel_rfl).symm.trans ht2)
  have e2 : cs2 = strCells tab_builtins := strs_of_trod (l := tab_builtins) (p := p2) (by rw [show (DataW.agg (tab_builtins.map fun s => .lit (.string s)) : DataW Unit) = Rows.laid_loop_example_g01543_impl_builtins by kernel_rfl]; exact hd2) Tryz.underlying135 Tryz.underlying9 (by kernel_rfl) (by kernel_rfl)
  rw [e2] at hv2
  exact ⟨hv0, hv1, hv2⟩

theorem grel {W : World} {S : Nat → Prop} (h0 : W.var? Tryz.prog "loop.example/g01543/impl.keywords" = some (strCells tab_keywords)) (h1 : W.var? Tryz.prog "loop.example/g01543/impl.signs" = some (strCells tab_signs)) (h2 : W.var? Tryz.prog "loop.example/g01543/impl.builtins" = some (strCells tab_builtins)) (s0 : S 1) (s1 : S 2) (s2 : S 0) : GRel (GS [0, 1, 2]) S W := by
  intro g cs hg
  have hc : ([0, 1, 2] : List Nat).contains g = true := by
    cases h : ([0, 1, 2] : List Nat).contains g with
    | true => rfl
    | false => unfold GS at hg; rw [h] at hg; cases hg
  have hm := List.contains_iff_mem.1 hc
  simp only [List.mem_cons, List.mem_nil_iff, or_false] at hm
  rcases hm with rfl | rfl | rfl
  · obtain rfl := Option.some.inj ((show GS [0, 1, 2] 0 = some (tab_builtins.map V.str) by kernel_rfl).symm.trans hg)
    exact el_of_var (show Tryz.prog.globalNamed "loop.example/g01543/impl.builtins" = some 0 by kernel_rfl) h2 s2
  · obtain rfl := Option.some.inj ((show GS [0, 1, 2] 1 = some (tab_keywords.map V.str) by kernel_rfl).symm.trans hg)
    exact el_of_var (show Tryz.prog.globalNamed "loop.example/g01543/impl.keywords" = some 1 by kernel_rfl) h0 s0
  · obtain rfl := Option.some.inj ((show GS [0, 1, 2] 2 = some (tab_signs.map V.str) by kernel_rfl).symm.trans hg)
    exact el_of_var (show Tryz.prog.globalNamed "loop.example/g01543/impl.signs" = some 2 by kernel_rfl) h1 s1

theorem lifted (os : Os) (started : os.Started) (H : Type) (enc : TypeId × Value → H) :
    ReturnsInHanded {} Tryz.checked os 3 .any (fun w args => (Rows.fnExactReadTreeSpec.pre enc Tryz.prog Tryz.f3 Rows.fnExactReadTreeRow.domain false w args ∧ laidMetH Tryz.prog lay w) ∧ sizedMet enc Tryz.prog Tryz.f3 (OpenSpec.ofChange Rows.fnExactReadTreeSpec) false w args) (Rows.fnExactReadTreeSpec.post enc Tryz.prog Tryz.f3 false true false false) := by
  refine returnsInHanded_of_change_and (C := Tryz.checked) (X := fun w _ => laidMetH Tryz.prog lay w) (fun _ _ _ hh h => h.of_heap hh) own started (by kernel_rfl) Tryz.func3
    (ChangeSpec.witness_at (enc := enc) (C := Tryz.checked) (os := os) (X := fun w _ => laidMetH Tryz.prog lay w) false (World.laidAll Tryz.prog os lay) #[.string ⟨#[]⟩] 12 (World.laidAll_os _ _ _) (by kernel_rfl) (by kernel_rfl) (by kernel_rfl) (by kernel_rfl) (by kernel_rfl)
      (by rw [MakeChecks.laidMetH_plain _ _ _ (by kernel_rfl)]; exact laidMet_laidAll _ (by kernel_rfl) (by kernel_rfl))) ?_
  intro W base args ds gs before hval0 hW hcnd _ hL _
  have hval : ∀ (j : Nat) t v, Tryz.f3.params[j]? = some t → args[j]? = some v → Value.okWide Tryz.prog W .any base t v := hval0
  have hW' := hW
  obtain ⟨p, q, hA0, hV0, rfl, hfz, hnd⟩ := hW
  have hA : DataW.TrodAll enc Tryz.prog W 0 (fun _ => true) true Tryz.f3.params.toList args.toList ds p := hA0
  have hV : DataW.TrodVars enc Tryz.prog W (fun _ => true) ["loop.example/g01543/impl.keywords", "loop.example/g01543/impl.builtins", "loop.example/g01543/impl.signs"] gs q := hV0
  rw [Tryz.params3] at hA hval
  have hA1 := hA
  obtain ⟨v0, vs0, d0, ds0, p0, q0, hargs, rfl, rfl, h0, r0⟩ := trodAll_cons hA
  obtain ⟨rfl, rfl, rfl⟩ := trodAll_nil r0
  obtain rfl : args = #[v0] := by cases args; simp_all
  have hA2 : DataW.TrodAll enc Tryz.prog W 0 (fun _ => true) true [9] [v0] [d0] (p0 ++ []) := hA1
  have hgl := vars_len hV
  obtain ⟨y0, y1, y2, rfl⟩ : ∃ y0 y1 y2, gs = [y0, y1, y2] := by
    match gs, hgl with
    | [y0, y1, y2], _ => exact ⟨y0, y1, y2, rfl⟩
  obtain ⟨fu0, hf0⟩ := h0
  obtain ⟨a0, k0, c0⟩ := (Reader.str Tryz.underlying9) enc W fu0 _ _ hf0
  obtain ⟨n0, rfl⟩ := okWide_string Tryz.underlying9 (hval 0 9 v0 rfl rfl)
  have htab := tables hL
  have tv0 := htab.1
  have tv1 := htab.2.1
  have tv2 := htab.2.2
  have hlt : ∀ b, (fun b => blocksOf (p0 ++ []) b ∨ b = 1 ∨ b = 2 ∨ b = 0) b → b < W.heap.size := by
    intro b hb
    rcases hb with ⟨m, hm, rfl⟩ | rfl | rfl | rfl
    · exact DataW.TrodAll.lt hA1 m (by simpa using hm)
    · exact var_lt (show Tryz.prog.globalNamed "loop.example/g01543/impl.keywords" = some 1 by kernel_rfl) tv0
    · exact var_lt (show Tryz.prog.globalNamed "loop.example/g01543/impl.signs" = some 2 by kernel_rfl) tv1
    · exact var_lt (show Tryz.prog.globalNamed "loop.example/g01543/impl.builtins" = some 0 by kernel_rfl) tv2
  obtain ⟨N, hN⟩ := plain a0 k0
  refine (AC.belowG (m_laws_FnExactReadTree_ok N a0 hN) (fun b => blocksOf (p0 ++ []) b ∨ b = 1 ∨ b = 2 ∨ b = 0) hlt (grel tv0 tv1 tv2 (.inr (.inl rfl)) (.inr (.inr (.inl rfl))) (.inr (.inr (.inr rfl)))) rfl fun i x hx => ?_).mono ?_
  · match i with
    | 0 =>
      simp only [List.getElem?_cons_succ, List.getElem?_cons_zero, Option.some.injEq] at hx
      subst hx
      exact argOne rfl (c0 _ fun p hp => (.inl ⟨p, by simp [hp], rfl⟩))
    | i + 1 => simp at hx
  · rintro e W' ⟨x, S', rfl, hx, hb⟩
    have hxt := hx.c_inv
    subst hxt
    exact ⟨_, rfl, Av.post_of_below (pa := (p0 ++ [])) (pv := q) hW' (fun _ _ _ => (trodAll_cons_mk (shut_bool Tryz.underlying4 _) trodAll_mk0))
      (fun sp hsp => args_kept kids full hb (by decide +kernel) hA2 (fun m hm => hsp m (by simp only [List.mem_append]; exact .inl (by simpa using hm)))) (fun sp hsp => vars_kept laidOut hb (by kernel_rfl) hV (fun m hm => hsp m (by simp [hm]))) (by simp) hb (ok_one (by kernel_rfl) rfl (okWide_bool_mk Tryz.underlying4 _))⟩

theorem over : Rows.fnExactReadTreeRow.holds Tryz.pinned (OpenSpec.ofChange Rows.fnExactReadTreeSpec) :=
  OpenClaim.holds_of_wide 3 Tryz.f3 rfl rfl rfl rfl rfl rfl rfl ⟨rfl, rfl, rfl, rfl, rfl⟩ rfl rfl rfl rfl rfl (by kernel_rfl) Tryz.func3 (by kernel_rfl)
    (of_decide_eq_true (by kernel_rfl)) (by unfold Func.isWrapper; first | (rw [if_pos (by decide +kernel)]; kernel_rfl) | (rw [if_neg (by decide +kernel)]; exact ⟨rfl, rfl⟩))
    (fun os started H enc _ => lifted os started H enc)

/-- the statement -/
theorem proved : Rows.FnExactReadTreeCardSaid :=
  Claim7.holds_tied_plain_at .later [] [.widerDeep, .data, .widerDeep] true (true, "ef8a1205a7b9ff090898b265bc3b829ec6e7d3564ce2b53f0d5a610a0b663c7a") false
    over (fun _ h => by cases h) (by kernel_rfl) (fun _ h => by cases h) fnExactReadTree_row_tie rfl ⟨rfl, rfl⟩ (by kernel_rfl) rfl
    (fun f fn hf hfn => by
      obtain rfl : f = 3 := Option.some.inj ((show Tryz.prog.funcNamed "loop.example/g01543/laws.FnExactReadTree" = some 3 by kernel_rfl).symm.trans hf) |>.symm
      obtain rfl : fn = Tryz.f3 := (Option.some.inj (Tryz.func3.symm.trans hfn)).symm
      exact ⟨by kernel_rfl, fun j t ht => by
        rw [Tryz.params3] at ht
        have hm : t ∈ [9] := by simpa using Array.mem_of_getElem? ht
        have hall : ([9].all fun u => !Tryz.prog.wantsStandIn u) = true := by kernel_rfl
        exact (show Tryz.prog.wantsStandIn t = false by simpa using List.all_eq_true.1 hall t hm)⟩)
    (by kernel_rfl)
#print axioms proved
end Go.Proofs.YtllanibkffnogaaGreatDoor.fnExactReadTree

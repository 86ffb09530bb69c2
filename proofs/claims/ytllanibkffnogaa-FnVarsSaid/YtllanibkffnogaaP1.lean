/-
  Plain lemmas on the models, part 1.
-/
import Derived.Test.YtllanibkffnogaaM1
namespace Go.Proofs.Try
open Go.Av
set_option maxRecDepth 100000
set_option linter.unusedSimpArgs false
set_option linter.unusedVariables false

def isV (nm : List UInt8) (b : SBind) : Bool := b.Name == nm
def gtV (nm : List UInt8) (b : SBind) : Bool := !(Op.bytesLess b.Name nm || b.Name == nm)
/-- the place of the first one that fits; the length, if there is none -/
def fidx (p : SBind → Bool) : List SBind → Nat
  | [] => 0
  | b :: l => if p b then 0 else fidx p l + 1

theorem fidx_pos {p : SBind → Bool} {b : SBind} {l : List SBind} (h : p b = true) : fidx p (b :: l) = 0 := by rw [fidx, if_pos h]
theorem fidx_neg {p : SBind → Bool} {b : SBind} {l : List SBind} (h : p b = false) : fidx p (b :: l) = fidx p l + 1 := by rw [fidx, if_neg (by rw [h]; decide)]
theorem fidx_le (p : SBind → Bool) : ∀ l : List SBind, fidx p l ≤ l.length
  | [] => Nat.le_refl _
  | b :: l => by
    have := fidx_le p l
    rw [fidx]; split <;> simp <;> omega

/-- the list without the name -/
def del (nm : List UInt8) (l : List SBind) : List SBind := l.filter fun b => !isV nm b
def putV (nm : List UInt8) (x : SBind) (l : List SBind) : List SBind := l.take (fidx (gtV nm) l) ++ [x] ++ l.drop (fidx (gtV nm) l)

theorem del_len (nm : List UInt8) (l : List SBind) : (del nm l).length ≤ l.length := List.length_filter_le _ _
theorem del_mem {nm : List UInt8} {l : List SBind} {b : SBind} (h : b ∈ del nm l) : b ∈ l := (List.mem_filter.1 h).1

theorem del_none (nm : List UInt8) : ∀ l : List SBind, ¬ fidx (isV nm) l < l.length → del nm l = l
  | [], _ => rfl
  | b :: l, h => by
    cases hb : isV nm b with
    | true => rw [fidx_pos hb] at h; simp at h
    | false =>
      rw [fidx_neg hb] at h
      have := del_none nm l (by simp at h; omega)
      unfold del at this ⊢
      rw [List.filter_cons, hb, this]; rfl

theorem del_front (nm : List UInt8) : ∀ l : List SBind, del nm (l.take (fidx (isV nm) l + 1)) = l.take (fidx (isV nm) l)
  | [] => rfl
  | b :: l => by
    cases hb : isV nm b with
    | true =>
      rw [fidx_pos hb]
      unfold del
      simp [hb]
    | false =>
      rw [fidx_neg hb, List.take_succ_cons, List.take_succ_cons]
      have := del_front nm l
      unfold del at this ⊢
      rw [List.filter_cons, hb, this]; rfl

theorem index_l (N : Nat) (l : List SBind) (nm : List UInt8) (hl : l.length ≤ 1100000) : ∀ (n i : Nat), l.length - i < n → i ≤ l.length → m_slices_IndexFunc_Bind_l1 N l nm n (i : Int) = some (if i + fidx (isV nm) (l.drop i) < l.length then ((i + fidx (isV nm) (l.drop i) : Nat) : Int) else -1) := by
  intro n
  induction n with
  | zero => intro i h; omega
  | succ n ih =>
    intro i hn hi
    rw [m_slices_IndexFunc_Bind_l1]
    by_cases h : i < l.length
    · simp only [lt_true h, cond_true, ix_nat h, Option.bind_some, m_impl_SetVar_1]
      rw [drop_cons h]
      cases hp : isV nm l[i] with
      | true =>
        have hp' := hp
        unfold isV at hp'
        rw [hp', cond_true, fidx_pos hp, Nat.add_zero, if_pos h]
      | false =>
        have hp' := hp
        unfold isV at hp'
        rw [hp', cond_false, wrap64 (by omega) (by omega), show (i : Int) + 1 = ((i + 1 : Nat) : Int) by omega, ih (i + 1) (by omega) (by omega), fidx_neg hp]
        rw [show i + 1 + fidx (isV nm) (l.drop (i + 1)) = i + (fidx (isV nm) (l.drop (i + 1)) + 1) by omega]
    · simp only [lt_false h, cond_false]
      rw [if_neg (by omega)]

theorem index_is (N : Nat) (l : List SBind) (nm : List UInt8) (hN : l.length < N) (hl : l.length ≤ 1100000) : m_slices_IndexFunc_Bind N l nm = some (if fidx (isV nm) l < l.length then ((fidx (isV nm) l : Nat) : Int) else -1) := by
  have := index_l N l nm hl N 0 (by omega) (by omega)
  rw [List.drop_zero, Nat.zero_add] at this
  exact this

theorem index_v2_l (N : Nat) (l : List SBind) (nm : List UInt8) (hl : l.length ≤ 1100000) : ∀ (n i : Nat), l.length - i < n → i ≤ l.length → m_slices_IndexFunc_Bind_v2_l1 N l nm n (i : Int) = some (if i + fidx (gtV nm) (l.drop i) < l.length then ((i + fidx (gtV nm) (l.drop i) : Nat) : Int) else -1) := by
  intro n
  induction n with
  | zero => intro i h; omega
  | succ n ih =>
    intro i hn hi
    rw [m_slices_IndexFunc_Bind_v2_l1]
    by_cases h : i < l.length
    · simp only [lt_true h, cond_true, ix_nat h, Option.bind_some, m_impl_SetVar_2]
      rw [drop_cons h]
      cases hp : gtV nm l[i] with
      | true =>
        have hp' := hp
        unfold gtV at hp'
        rw [hp', cond_true, fidx_pos hp, Nat.add_zero, if_pos h]
      | false =>
        have hp' := hp
        unfold gtV at hp'
        rw [hp', cond_false, wrap64 (by omega) (by omega), show (i : Int) + 1 = ((i + 1 : Nat) : Int) by omega, ih (i + 1) (by omega) (by omega), fidx_neg hp]
        rw [show i + 1 + fidx (gtV nm) (l.drop (i + 1)) = i + (fidx (gtV nm) (l.drop (i + 1)) + 1) by omega]
    · simp only [lt_false h, cond_false]
      rw [if_neg (by omega)]

theorem index_v2_is (N : Nat) (l : List SBind) (nm : List UInt8) (hN : l.length < N) (hl : l.length ≤ 1100000) : m_slices_IndexFunc_Bind_v2 N l nm = some (if fidx (gtV nm) l < l.length then ((fidx (gtV nm) l : Nat) : Int) else -1) := by
  have := index_v2_l N l nm hl N 0 (by omega) (by omega)
  rw [List.drop_zero, Nat.zero_add] at this
  exact this

theorem delete_l (N : Nat) (a : List SBind) (nm : List UInt8) (hl : a.length ≤ 1100000) : ∀ (n r w : Nat) (l : List SBind), a.length - r < n → r ≤ a.length → w ≤ r → l.length = a.length → l.take w = del nm (a.take r) → l.drop r = a.drop r →
    m_slices_DeleteFunc_Bind_l1 N nm n ((w : Int), (r : Int), l) = some (del nm a) := by
  intro n
  induction n with
  | zero => intro r w l h; omega
  | succ n ih =>
    intro r w l hn hr hw hll h1 h2
    rw [m_slices_DeleteFunc_Bind_l1]
    by_cases h : r < a.length
    · have hrl : r < l.length := by omega
      have hwl : w < l.length := by omega
      have hget : l[r] = a[r] := by
        have e := congrArg (fun z => z[0]?) h2
        simp only [List.getElem?_drop, Nat.add_zero, List.getElem?_eq_getElem hrl, List.getElem?_eq_getElem h] at e
        exact Option.some.inj e
      have hd : del nm (a.take (r + 1)) = del nm (a.take r) ++ (if isV nm a[r] then [] else [a[r]]) := by
        unfold del
        rw [List.take_add_one, List.getElem?_eq_getElem h, List.filter_append]
        cases hb : isV nm a[r] <;> simp [hb]
      have hst : IntKind.wrap .i64 ((r : Int) + 1) = ((r + 1 : Nat) : Int) := by rw [wrap64 (by omega) (by omega)]; omega
      have hst2 : IntKind.wrap .i64 ((w : Int) + 1) = ((w + 1 : Nat) : Int) := by rw [wrap64 (by omega) (by omega)]; omega
      simp only [lt_true hrl, cond_true, ix_nat hrl, Option.bind_some, m_impl_SetVar_1]
      cases hb : isV nm a[r] with
      | true =>
        have hb' : (l[r].Name == nm) = true := by rw [hget]; exact hb
        simp only [hb', Bool.not_true, cond_false, m_slices_DeleteFunc_Bind_k2, hst]
        refine ih (r + 1) w l (by omega) (by omega) (by omega) hll ?_ ?_
        · rw [hd, hb, h1]; simp
        · rw [← List.drop_drop, ← List.drop_drop, h2]
      | false =>
        have hb' : (l[r].Name == nm) = false := by rw [hget]; exact hb
        simp only [hb', Bool.not_false, cond_true, ix_nat hwl, Option.bind_some, upd_nat hwl, m_slices_DeleteFunc_Bind_k2, hst, hst2]
        refine ih (r + 1) (w + 1) (l.set w l[r]) (by omega) (by omega) (by omega) (by simp [hll]) ?_ ?_
        · rw [hd, hb, ← h1, hget, List.take_add_one]
          rw [List.take_set_of_le (Nat.le_refl w), List.getElem?_set_self hwl]
          rfl
        · rw [List.drop_set_of_lt (by omega)]
          rw [← List.drop_drop, ← List.drop_drop, h2]
    · have hrl : ¬ r < l.length := by omega
      have hr' : r = a.length := by omega
      have hf : l.take w = del nm a := by rw [h1, hr', List.take_length]
      simp only [lt_false hrl, cond_false]
      rw [cut_nat (a := w) (b := l.length) (by omega) (Nat.le_refl _), Option.bind_some]
      have hlc : (clr (⟨[], 0⟩ : SBind) w l).length = l.length := by unfold clr; simp; omega
      have hcz : cut (clr (⟨[], 0⟩ : SBind) w l) 0 (w : Int) = some _ := cut_nat (l := clr (⟨[], 0⟩ : SBind) w l) (a := 0) (b := w) (by omega) (by omega)
      rw [show ((w : Int)).toNat = w by omega]
      rw [hcz, Option.bind_some]
      congr 1
      unfold clr
      rw [← hf]
      simp only [Nat.sub_zero, List.drop_zero]
      rw [List.take_append_of_le_length (by simp; omega), List.take_take, Nat.min_self]

theorem delete_is (N : Nat) (a : List SBind) (nm : List UInt8) (hN : a.length + 1 < N) (hl : a.length ≤ 1100000) : m_slices_DeleteFunc_Bind N a nm = some (del nm a) := by
  unfold m_slices_DeleteFunc_Bind
  rw [index_is N a nm (by omega) hl, Option.bind_some]
  by_cases h : fidx (isV nm) a < a.length
  · rw [if_pos h]
    have e : (((fidx (isV nm) a : Nat) : Int) == -1) = false := by simp
    rw [e, cond_false, wrap64 (by omega) (by omega), show ((fidx (isV nm) a : Nat) : Int) + 1 = ((fidx (isV nm) a + 1 : Nat) : Int) by omega]
    exact delete_l N a nm hl N _ _ a (by omega) (by omega) (by omega) rfl (del_front nm a).symm rfl
  · rw [if_neg h, del_none nm a h]
    rfl

/-- the reference's way -/
def walkV (nm : List UInt8) (x : SBind) : Bool → List SBind → List SBind
  | d, [] => if d then [] else [x]
  | d, b :: l => if isV nm b then walkV nm x d l else if !d && gtV nm b then x :: b :: walkV nm x true l else b :: walkV nm x d l

theorem walkV_true (nm : List UInt8) (x : SBind) : ∀ l : List SBind, walkV nm x true l = del nm l
  | [] => rfl
  | b :: l => by
    have ih := walkV_true nm x l
    unfold del at ih ⊢
    rw [walkV, List.filter_cons, ih]
    cases isV nm b <;> simp

theorem walkV_false (nm : List UInt8) (x : SBind) : ∀ l : List SBind, walkV nm x false l = putV nm x (del nm l)
  | [] => rfl
  | b :: l => by
    have ih := walkV_false nm x l
    rw [walkV]
    cases hb : isV nm b with
    | true =>
      have hd : del nm (b :: l) = del nm l := by unfold del; rw [List.filter_cons, hb]; rfl
      rw [if_pos rfl, hd]; exact ih
    | false =>
      have hd : del nm (b :: l) = b :: del nm l := by unfold del; rw [List.filter_cons, hb]; rfl
      rw [if_neg (by decide), hd]
      unfold putV at ih ⊢
      cases hg : gtV nm b with
      | true => rw [fidx_pos hg, walkV_true]; simp
      | false => rw [fidx_neg hg, ih]; simp

theorem walkV_len (nm : List UInt8) (x : SBind) : ∀ (l : List SBind) (d : Bool), (walkV nm x d l).length ≤ l.length + 1
  | [], d => by rw [walkV]; split <;> simp
  | b :: l, d => by
    have h1 := walkV_len nm x l d
    have h2 := walkV_len nm x l true
    rw [walkV]
    split
    · simp; omega
    · split
      · rename_i h
        have h3 : (walkV nm x true l).length ≤ l.length := by rw [walkV_true]; exact del_len nm l
        simp; omega
      · simp; omega

theorem spec_l (N : Nat) (a : List SBind) (nm : List UInt8) (v : Int) (hl : a.length ≤ 1100000) : ∀ (n i : Nat) (d : Bool) (out : List SBind), a.length - i < n → i ≤ a.length → out.length ≤ i + d.toNat →
    m_spec_SetVar_l1 N n (a, nm, v, d, (i : Int), out) = some (out ++ walkV nm ⟨nm, v⟩ d (a.drop i)) := by
  intro n
  induction n with
  | zero => intro i d out h; omega
  | succ n ih =>
    intro i d out hn hi ho
    have hdn : d.toNat ≤ 1 := by cases d <;> decide
    rw [m_spec_SetVar_l1]
    by_cases h : i < a.length
    · have hst : IntKind.wrap .i64 ((i : Int) + 1) = ((i + 1 : Nat) : Int) := by rw [wrap64 (by omega) (by omega)]; omega
      rw [drop_cons h, walkV]
      simp only [lt_true h, cond_true, ix_nat h, Option.bind_some]
      cases hb : isV nm a[i] with
      | true =>
        have hb' : (a[i].Name == nm) = true := hb
        simp only [hb', cond_true, m_spec_SetVar_k2, hst]
        rw [ih (i + 1) d out (by omega) (by omega) (by omega), if_pos trivial]
      | false =>
        have hb' : (a[i].Name == nm) = false := hb
        rw [if_neg (by decide)]
        simp only [hb', cond_false]
        cases d with
        | true =>
          have ho' : out.length ≤ i + 1 := ho
          simp only [Bool.not_true, cond_false, Option.bind_some, Bool.false_and, m_spec_SetVar_k3, ix_nat h]
          rw [app_some (by simp; omega), Option.bind_some, m_spec_SetVar_k2, hst, ih (i + 1) true (out ++ [a[i]]) (by omega) (by omega) (by simp; omega)]
          simp
        | false =>
          have ho' : out.length ≤ i := ho
          have hg' : (!(Op.bytesLess a[i].Name nm || false)) = gtV nm a[i] := by unfold gtV; rw [hb']
          simp only [Bool.not_false, cond_true, Bool.true_and, Option.bind_some, hg', hb']
          cases hg : gtV nm a[i] with
          | true =>
            simp only [cond_true]
            rw [app_some (by simp; omega), Option.bind_some, m_spec_SetVar_k3, ix_nat h, Option.bind_some, app_some (by simp; omega), Option.bind_some, m_spec_SetVar_k2, hst, ih (i + 1) true _ (by omega) (by omega) (by simp; omega), if_pos trivial]
            simp
          | false =>
            simp only [cond_false]
            rw [m_spec_SetVar_k3, ix_nat h, Option.bind_some, app_some (by simp; omega), Option.bind_some, m_spec_SetVar_k2, hst, ih (i + 1) false _ (by omega) (by omega) (by simp; omega), if_neg (by decide)]
            simp
    · simp only [lt_false h, cond_false]
      rw [drop_nil h, walkV]
      cases d with
      | true => simp [m_spec_SetVar_k4]
      | false =>
        have ho' : out.length ≤ i := ho
        simp only [Bool.not_false, cond_true]
        rw [app_some (by simp; omega), Option.bind_some, m_spec_SetVar_k4]
        simp

theorem spec_is (N : Nat) (a : List SBind) (nm : List UInt8) (v : Int) (hN : a.length < N) (hl : a.length ≤ 1100000) : m_spec_SetVar N a nm v = some (putV nm ⟨nm, v⟩ (del nm a)) := by
  unfold m_spec_SetVar
  have := spec_l N a nm v hl N 0 false [] (by omega) (by omega) (by simp)
  rw [show ((0 : Nat) : Int) = 0 by rfl] at this
  rw [this, List.drop_zero, walkV_false]; rfl

theorem impl_is (N : Nat) (a : List SBind) (nm : List UInt8) (v : Int) (hN : a.length + 1 < N) (hl : a.length ≤ 1100000) : m_impl_SetVar N a nm v = some (putV nm ⟨nm, v⟩ (del nm a)) := by
  have hd := del_len nm a
  have hf := fidx_le (gtV nm) (del nm a)
  unfold m_impl_SetVar m_slices_Clone_Bind
  rw [app_some (by simp; omega), Option.bind_some, Option.bind_some, List.nil_append, delete_is N a nm hN hl, Option.bind_some, index_v2_is N _ nm (by omega) (by omega), Option.bind_some]
  have fin : ∀ k : Nat, k = fidx (gtV nm) (del nm a) → m_impl_SetVar_k1 N (v, nm, del nm a, (k : Int)) = some (putV nm ⟨nm, v⟩ (del nm a)) := fun k hk => by
    subst hk
    show Option.bind (insO 24 ((fidx (gtV nm) (del nm a) : Nat) : Int) (del nm a) [(⟨nm, v⟩ : SBind)]) (fun r9 => some r9) = _
    unfold insO
    rw [if_pos ⟨by omega, by simpa using hf, by simp, by simp; omega⟩]
    rfl
  by_cases h : fidx (gtV nm) (del nm a) < (del nm a).length
  · rw [if_pos h]
    have e : decide (((fidx (gtV nm) (del nm a) : Nat) : Int) < 0) = false := by simp
    rw [e, cond_false]
    exact fin _ rfl
  · rw [if_neg h]
    have e : decide ((-1 : Int) < 0) = true := by decide
    rw [e, cond_true]
    exact fin _ (by omega)

theorem putV_len (nm : List UInt8) (x : SBind) (l : List SBind) : (putV nm x l).length = l.length + 1 := by
  have hf := fidx_le (gtV nm) l
  unfold putV
  simp; omega

theorem putV_mem {nm : List UInt8} {x : SBind} {l : List SBind} {b : SBind} (h : b ∈ putV nm x l) : b = x ∨ b ∈ l := by
  unfold putV at h
  simp only [List.mem_append, List.mem_singleton] at h
  rcases h with (h | h) | h
  · exact .inr (List.mem_of_mem_take h)
  · exact .inl h
  · exact .inr (List.mem_of_mem_drop h)

end Go.Proofs.Try

/-
  ExactIsHole: for all arguments the law returns true: the program's function returns what the reference's returns.
  No condition.
-/
import Derived.Test.YtaipmddanmmkeaaRows
import Derived.WalkKit
import Derived.ProofKit
import Derived.OpenShut
import Derived.Test.YtaipmddanmmkeaaW1
import Derived.Test.YtaipmddanmmkeaaCore31
namespace Go.Proofs.Ytaipmddanmmkeaa.fnExactIsHole
open Go.ChangeShapes Go.WideShapes Go.ChangeAt Go.RowKit Go.Av Go.Proofs.Try
set_option linter.unusedVariables false
set_option maxRecDepth 100000

theorem own : ownKnob Try.prog.godebug = none := by kernel_rfl

/-- what is known of it -/
def ok36 (x : SNode) : Prop := ((Lit.int .i64 x.Kind).wf = true) ∧ ((Lit.int .i64 x.Op).wf = true) ∧ (x.Text.length ≤ maxLen) ∧ (x.Other.length ≤ maxLen) ∧ ((∀ z, z ∈ x.Kids → ((Lit.int .i64 z).wf = true)) ∧ x.Kids.length ≤ maxLen)

theorem read36 : Reader Try.prog 36 (encSNode false) ok36 := by
  intro H e w fuel cs x h
  obtain ⟨xs, n, rfl, rfl, hl, hxl, hf⟩ := DataW.trod_struct Try.underlying36 h
  have hl : cs.length = 5 := hl.trans (by kernel_rfl)
  have hxl : xs.length = 5 := hxl
  obtain ⟨y0, e0⟩ : ∃ y, xs[0]? = some y := ⟨_, List.getElem?_eq_getElem (by omega)⟩
  have h0 : DataW.trod e Try.prog w 0 (fun _ => true) true n 3 ((cs.drop 0).take (Try.prog.cellsOf 3)) = some y0 := (hf 0 _ rfl).trans e0
  have c0 : Try.prog.cellsOf 3 = 1 := by kernel_rfl
  rw [c0] at h0
  obtain ⟨a0, k0, r0⟩ := (Reader.i64 Try.underlying3) e w n _ _ h0
  obtain ⟨y1, e1⟩ : ∃ y, xs[1]? = some y := ⟨_, List.getElem?_eq_getElem (by omega)⟩
  have h1 : DataW.trod e Try.prog w 0 (fun _ => true) true n 3 ((cs.drop 1).take (Try.prog.cellsOf 3)) = some y1 := (hf 1 _ rfl).trans e1
  have c1 : Try.prog.cellsOf 3 = 1 := by kernel_rfl
  rw [c1] at h1
  obtain ⟨a1, k1, r1⟩ := (Reader.i64 Try.underlying3) e w n _ _ h1
  obtain ⟨y2, e2⟩ : ∃ y, xs[2]? = some y := ⟨_, List.getElem?_eq_getElem (by omega)⟩
  have h2 : DataW.trod e Try.prog w 0 (fun _ => true) true n 9 ((cs.drop 2).take (Try.prog.cellsOf 9)) = some y2 := (hf 2 _ rfl).trans e2
  have c2 : Try.prog.cellsOf 9 = 1 := by kernel_rfl
  rw [c2] at h2
  obtain ⟨a2, k2, r2⟩ := (Reader.str Try.underlying9) e w n _ _ h2
  obtain ⟨y3, e3⟩ : ∃ y, xs[3]? = some y := ⟨_, List.getElem?_eq_getElem (by omega)⟩
  have h3 : DataW.trod e Try.prog w 0 (fun _ => true) true n 9 ((cs.drop 3).take (Try.prog.cellsOf 9)) = some y3 := (hf 3 _ rfl).trans e3
  have c3 : Try.prog.cellsOf 9 = 1 := by kernel_rfl
  rw [c3] at h3
  obtain ⟨a3, k3, r3⟩ := (Reader.str Try.underlying9) e w n _ _ h3
  obtain ⟨y4, e4⟩ : ∃ y, xs[4]? = some y := ⟨_, List.getElem?_eq_getElem (by omega)⟩
  have h4 : DataW.trod e Try.prog w 0 (fun _ => true) true n 34 ((cs.drop 4).take (Try.prog.cellsOf 34)) = some y4 := (hf 4 _ rfl).trans e4
  have c4 : Try.prog.cellsOf 34 = 1 := by kernel_rfl
  rw [c4] at h4
  obtain ⟨a4, k4, r4⟩ := (Reader.slice Try.underlying34 (Reader.i64 Try.underlying3) 1 (by kernel_rfl) (by decide) (fun _ => rfl)) e w n _ _ h4
  refine ⟨⟨a0, a1, a2, a3, a4⟩, ⟨k0, k1, k2, k3, k4⟩, fun S hS => ?_⟩
  have hcs : cs = (cs.drop 0).take 1 ++ ((cs.drop 1).take 1 ++ ((cs.drop 2).take 1 ++ ((cs.drop 3).take 1 ++ ((cs.drop 4).take 1 ++ [])))) := by
    match cs, hl with
    | [x0, x1, x2, x3, x4], _ => rfl
  rw [hcs]
  exact CellsR.append (r0 S fun p hp => hS p (List.mem_flatMap.2 ⟨y0, List.mem_of_getElem? e0, hp⟩)) (CellsR.append (r1 S fun p hp => hS p (List.mem_flatMap.2 ⟨y1, List.mem_of_getElem? e1, hp⟩)) (CellsR.append (r2 S fun p hp => hS p (List.mem_flatMap.2 ⟨y2, List.mem_of_getElem? e2, hp⟩)) (CellsR.append (r3 S fun p hp => hS p (List.mem_flatMap.2 ⟨y3, List.mem_of_getElem? e3, hp⟩)) (CellsR.append (r4 S fun p hp => hS p (List.mem_flatMap.2 ⟨y4, List.mem_of_getElem? e4, hp⟩)) (CellsR.nil)))))

theorem wrap64 {n : Int} (h1 : -9223372036854775808 ≤ n) (h2 : n ≤ 9223372036854775807) : IntKind.wrap .i64 n = n := by
  rw [IntKind.wrap_i64]; omega

theorem ix_nat {α : Type} {l : List α} {i : Nat} (h : i < l.length) : ix l (i : Int) = some l[i] := by
  unfold ix
  rw [if_pos (Int.natCast_nonneg i), Int.toNat_natCast, List.getElem?_eq_getElem h]

theorem upd_nat {α : Type} {l : List α} {i : Nat} {x : α} (h : i < l.length) : upd l (i : Int) x = some (l.set i x) := by
  unfold upd
  rw [if_pos ⟨Int.natCast_nonneg i, by simpa using h⟩, Int.toNat_natCast]

theorem step64 {i n : Nat} (h : i < n) (hn : n ≤ maxLen) : IntKind.wrap .i64 ((i : Int) + 1) = ((i + 1 : Nat) : Int) := by
  simp only [maxLen] at hn
  rw [wrap64 (by omega) (by omega)]
  omega

theorem toIntS_l (N : Nat) (a : List Int) (hl : a.length ≤ maxLen) : ∀ (n i : Nat) (c : List Int), a.length - i < n → i ≤ a.length → c.length = a.length →
    m_laws_toIntS_l1 N n (a, (i : Int), c) = some (c.take i ++ a.drop i) := by
  intro n
  induction n with
  | zero => intro i c h; omega
  | succ n ih =>
    intro i c hn hi hc
    rw [m_laws_toIntS_l1]
    by_cases h : i < a.length
    · have hd : decide ((i : Int) < (a.length : Int)) = true := by simp [h]
      have hic : i < c.length := by omega
      simp only [hd, cond_true, ix_nat h, ix_nat hic, Option.bind_some, upd_nat hic, step64 h hl]
      rw [ih (i + 1) (c.set i a[i]) (by omega) (by omega) (by simpa using hc)]
      congr 1
      rw [List.take_add_one, List.getElem?_set_self hic, List.take_set_of_le (Nat.le_refl i)]
      rw [List.append_assoc]
      congr 1
      simp
    · have hd : decide ((i : Int) < (a.length : Int)) = false := by simp; omega
      have hi' : i = a.length := by omega
      simp only [hd, cond_false]
      subst hi'
      rw [List.drop_length, List.append_nil, ← hc, List.take_length]

theorem toIntS_is (N : Nat) (a : List Int) (hN : a.length < N) (hl : a.length ≤ 1048576) : m_laws_toIntS N a = some a := by
  unfold m_laws_toIntS mk
  rw [if_pos ⟨by omega, by simp; omega, by simp [maxLen]; omega⟩, Option.bind_some]
  have := toIntS_l N a (by simp [maxLen]; omega) N 0 (List.replicate a.length 0) (by omega) (by omega) (by simp)
  simpa using this

theorem eqIntS_l (N : Nat) (a : List Int) (hl : a.length ≤ maxLen) : ∀ (n i : Nat), a.length - i < n → i ≤ a.length → m_laws_eqIntS_l1 N n (a, a, (i : Int)) = some true := by
  intro n
  induction n with
  | zero => intro i h; omega
  | succ n ih =>
    intro i hn hi
    rw [m_laws_eqIntS_l1]
    by_cases h : i < a.length
    · have hd : decide ((i : Int) < (a.length : Int)) = true := by simp [h]
      simp only [hd, cond_true, ix_nat h, Option.bind_some, bne_self_eq_false, cond_false, step64 h hl]
      exact ih (i + 1) (by omega) (by omega)
    · have hd : decide ((i : Int) < (a.length : Int)) = false := by simp; omega
      simp only [hd, cond_false]

theorem eqIntS_self (N : Nat) (a : List Int) (hN : a.length < N) (hl : a.length ≤ maxLen) : m_laws_eqIntS N a a = some true := by
  unfold m_laws_eqIntS
  have := eqIntS_l N a hl N 0 (by omega) (by omega)
  simpa using this
theorem szNode_is (x : SNode) (ht : x.Text.length ≤ maxLen) (ho : x.Other.length ≤ maxLen) (hk : x.Kids.length ≤ maxLen) :
    ∃ r, m_laws_szNode x 1048576 = some r ∧ (r < 0 ∨ (0 ≤ r ∧ x.Kids.length ≤ 1048576 ∧ x.Text.length ≤ 1048576)) := by
  simp only [maxLen] at ht ho hk
  unfold m_laws_szNode m_laws_szIntS
  rw [wrap64 (n := 1048576 - (x.Text.length : Int)) (by omega) (by omega)]
  by_cases h1 : 1048576 - (x.Text.length : Int) < 0
  · exact ⟨-1, by simp [h1], .inl (by omega)⟩
  rw [wrap64 (n := 1048576 - (x.Text.length : Int) - (x.Other.length : Int)) (by omega) (by omega)]
  by_cases h2 : 1048576 - (x.Text.length : Int) - (x.Other.length : Int) < 0
  · exact ⟨-1, by simp [h1, h2], .inl (by omega)⟩
  rw [wrap64 (n := 1048576 - (x.Text.length : Int) - (x.Other.length : Int) - (x.Kids.length : Int)) (by omega) (by omega)]
  by_cases h3 : 1048576 - (x.Text.length : Int) - (x.Other.length : Int) - (x.Kids.length : Int) < 0
  · exact ⟨-1, by simp [h1, h2, h3], .inl (by omega)⟩
  · exact ⟨1048576 - (x.Text.length : Int) - (x.Other.length : Int) - (x.Kids.length : Int), by simp [h1, h2, h3], .inr ⟨by omega, by omega, by omega⟩⟩

theorem toNode_is (N : Nat) (x : SNode) (hN : x.Kids.length < N) (hl : x.Kids.length ≤ 1048576) : m_laws_toNode N x = some x := by
  unfold m_laws_toNode
  rw [toIntS_is N _ hN hl]
  rfl

theorem eqNode_self (N : Nat) (x : SNode) (hN : x.Kids.length < N) (hl : x.Kids.length ≤ 1048576) : m_laws_eqNode N x x = some true := by
  unfold m_laws_eqNode
  rw [eqIntS_self N _ hN (by simp [maxLen]; omega)]
  simp

theorem hole_same (x : SNode) : ∃ r, m_spec_IsHole x = some r ∧ m_impl_IsHole x = some r := by
  have hin : ∀ a b c : Int, m_spec_l1In a b c = some (decide (a ≥ b) && decide (a ≤ c)) := fun a b c => by
    unfold m_spec_l1In
    by_cases h : a ≥ b <;> simp [h]
  unfold m_spec_IsHole m_impl_IsHole
  cases hk : (x.Kind == 1) with
  | false => exact ⟨false, by simp, by simp⟩
  | true =>
    cases ht : ((x.Text.length : Int) == 1) with
    | false => exact ⟨false, by simp, by simp⟩
    | true =>
      have hl : 0 < x.Text.length := by
        have : (x.Text.length : Int) = 1 := by simpa using ht
        omega
      have hx : ix x.Text 0 = some x.Text[0] := ix_nat hl
      have hb : ((x.Text[0].toNat : Nat) : Int) < 256 := by
        have := x.Text[0].toNat_lt
        omega
      simp only [cond_true, hx, Option.bind_some, hin]
      rw [wrap64 (by omega) (by omega)]
      cases h1 : decide (((x.Text[0].toNat : Nat) : Int) ≥ 97) with
      | false => exact ⟨false, by simp, by simp⟩
      | true => exact ⟨decide (((x.Text[0].toNat : Nat) : Int) ≤ 122), by simp, by simp⟩

theorem plain (x : SNode) (kx : ok36 x) : ∃ N, m_laws_FnExactIsHole N x = some true := by
  obtain ⟨_, _, ht, ho, _, hk⟩ := kx
  refine ⟨x.Kids.length + 1, ?_⟩
  unfold m_laws_FnExactIsHole
  obtain ⟨r, hr, hc⟩ := szNode_is x ht ho hk
  rw [hr, Option.bind_some]
  rcases hc with hc | ⟨hc, hs, _⟩
  · simp [hc]
  · have hn : ¬ r < 0 := by omega
    obtain ⟨r2, e1, e2⟩ := hole_same x
    simp only [hn, decide_false, cond_false, toNode_is (x.Kids.length + 1) x (by omega) hs, Option.bind_some, e1, e2, eqNode_self (x.Kids.length + 1) x (by omega) hs]
    simp


theorem kids : Kids Try.prog (· < Try.prog.types.size) := kids_rows (by kernel_rfl) (by kernel_rfl)
theorem full : ∀ t e, t < Try.prog.types.size → Try.prog.underlying t = some (.slice e) → 0 < Try.prog.cellsOf e := slices_full_of Try.prog (by kernel_rfl)

theorem lifted (os : Os) (started : os.Started) (H : Type) (enc : TypeId × Value → H) :
    ReturnsInHanded {} Try.checked os 7 .any (Rows.fnExactIsHoleSpec.pre6 enc Try.prog Try.f7 Rows.fnExactIsHoleRow.domain false) (Rows.fnExactIsHoleSpec.post enc Try.prog Try.f7 false true false false) := by
  refine returnsInHanded_of_change (C := Try.checked) own started (by kernel_rfl) Try.func7
    (ChangeSpec.witness6 (enc := enc) (C := Try.checked) false ⟨#[], #[.agg #[.int .i64 0, .int .i64 0, .string ⟨#[]⟩, .string ⟨#[]⟩, .slice none 0 0]], []⟩ 8 (by kernel_rfl) (by kernel_rfl) (by kernel_rfl) (by kernel_rfl)) ?_
  intro W base args ds gs before hval0 hW hcnd _
  have hval : ∀ (j : Nat) t v, Try.f7.params[j]? = some t → args[j]? = some v → Value.okWide Try.prog W .any base t v := hval0
  have hW' := hW
  obtain ⟨p, q, hA0, hV, rfl, hfz, hnd⟩ := hW
  have hA : DataW.TrodAll enc Try.prog W 0 (fun _ => true) true Try.f7.params.toList args.toList ds p := hA0
  rw [Try.params7] at hA hval
  have hA1 := hA
  obtain ⟨v0, vs0, d0, ds0, p0, q0, hargs, rfl, rfl, h0, r0⟩ := trodAll_cons hA
  obtain ⟨rfl, rfl, rfl⟩ := trodAll_nil r0
  obtain rfl : args = #[v0] := by cases args; simp_all
  have hA2 : DataW.TrodAll enc Try.prog W 0 (fun _ => true) true [36] [v0] [d0] (p0 ++ []) := hA1
  obtain ⟨rfl, rfl⟩ := trodVars_none hV
  obtain ⟨fu0, hf0⟩ := h0
  obtain ⟨a0, k0, c0⟩ := read36 enc W fu0 _ _ hf0
  obtain ⟨n0, rfl, _⟩ := okWide_struct Try.underlying36 (hval 0 36 v0 rfl rfl)
  have hlt : ∀ b, blocksOf (p0 ++ []) b → b < W.heap.size := by
    rintro b ⟨m, hm, rfl⟩
    exact DataW.TrodAll.lt hA1 m (by simpa using hm)
  obtain ⟨N, hN⟩ := plain a0 k0
  refine (AC.below (m_laws_FnExactIsHole_ok N a0 hN) (blocksOf (p0 ++ [])) hlt rfl fun i x hx => ?_).mono ?_
  · match i with
    | 0 =>
      simp only [List.getElem?_cons_succ, List.getElem?_cons_zero, Option.some.injEq] at hx
      subst hx
      exact argAgg (c0 _ fun p hp => ⟨p, by simp [hp], rfl⟩)
    | i + 1 => simp at hx
  · rintro e W' ⟨x, S', rfl, hx, hb⟩
    have hxt := hx.c_inv
    subst hxt
    exact ⟨_, rfl, Av.post_of_below (pa := (p0 ++ [])) (pv := []) hW' (fun _ _ _ => (trodAll_cons_mk (shut_bool Try.underlying4 _) trodAll_mk0))
      (fun sp hsp => args_kept kids full hb (by decide +kernel) hA2 (fun m hm => hsp m (by simpa using hm))) (fun _ _ => rfl) (by simp) hb (ok_one (by kernel_rfl) rfl (okWide_bool_mk Try.underlying4 _))⟩

theorem over : Rows.fnExactIsHoleRow.holds Try.pinned (OpenSpec.ofChange Rows.fnExactIsHoleSpec) :=
  OpenClaim.holds_of_wide 7 Try.f7 rfl rfl rfl rfl rfl rfl rfl ⟨rfl, rfl, rfl, rfl, rfl⟩ rfl rfl rfl rfl rfl (by kernel_rfl) Try.func7 (by kernel_rfl)
    (of_decide_eq_true (by kernel_rfl)) (by unfold Func.isWrapper; first | (rw [if_pos (by decide +kernel)]; kernel_rfl) | (rw [if_neg (by decide +kernel)]; exact ⟨rfl, rfl⟩))
    (fun os started H enc _ => lifted os started H enc)

/-- the statement -/
theorem proved : Rows.FnExactIsHoleSaid :=
  over
#print axioms proved
end Go.Proofs.Ytaipmddanmmkeaa.fnExactIsHole

/-
  ExactTokenAt: for all arguments the law returns true: the program's function returns what the reference's returns.
  No condition.
-/
import Derived.Test.YtaipmddanmmkeaaRows
import Derived.WalkKit
import Derived.ProofKit
import Derived.OpenShut
import Derived.Test.YtaipmddanmmkeaaW1
import Derived.Test.YtaipmddanmmkeaaCore31
namespace Go.Proofs.Ytaipmddanmmkeaa.fnExactTokenAt
open Go.ChangeShapes Go.WideShapes Go.ChangeAt Go.RowKit Go.Av Go.Proofs.Try
set_option linter.unusedVariables false
set_option maxRecDepth 100000

theorem own : ownKnob Try.prog.godebug = none := by kernel_rfl

/-- what is known of it -/
def ok48 (x : SToken) : Prop := ((Lit.int .i64 x.Kind).wf = true) ∧ (x.Text.length ≤ maxLen) ∧ ((Lit.int .i64 x.At).wf = true)

theorem read48 : Reader Try.prog 48 (encSToken) ok48 := by
  intro H e w fuel cs x h
  obtain ⟨xs, n, rfl, rfl, hl, hxl, hf⟩ := DataW.trod_struct Try.underlying48 h
  have hl : cs.length = 3 := hl.trans (by kernel_rfl)
  have hxl : xs.length = 3 := hxl
  obtain ⟨y0, e0⟩ : ∃ y, xs[0]? = some y := ⟨_, List.getElem?_eq_getElem (by omega)⟩
  have h0 : DataW.trod e Try.prog w 0 (fun _ => true) true n 3 ((cs.drop 0).take (Try.prog.cellsOf 3)) = some y0 := (hf 0 _ rfl).trans e0
  have c0 : Try.prog.cellsOf 3 = 1 := by kernel_rfl
  rw [c0] at h0
  obtain ⟨a0, k0, r0⟩ := (Reader.i64 Try.underlying3) e w n _ _ h0
  obtain ⟨y1, e1⟩ : ∃ y, xs[1]? = some y := ⟨_, List.getElem?_eq_getElem (by omega)⟩
  have h1 : DataW.trod e Try.prog w 0 (fun _ => true) true n 9 ((cs.drop 1).take (Try.prog.cellsOf 9)) = some y1 := (hf 1 _ rfl).trans e1
  have c1 : Try.prog.cellsOf 9 = 1 := by kernel_rfl
  rw [c1] at h1
  obtain ⟨a1, k1, r1⟩ := (Reader.str Try.underlying9) e w n _ _ h1
  obtain ⟨y2, e2⟩ : ∃ y, xs[2]? = some y := ⟨_, List.getElem?_eq_getElem (by omega)⟩
  have h2 : DataW.trod e Try.prog w 0 (fun _ => true) true n 3 ((cs.drop 2).take (Try.prog.cellsOf 3)) = some y2 := (hf 2 _ rfl).trans e2
  have c2 : Try.prog.cellsOf 3 = 1 := by kernel_rfl
  rw [c2] at h2
  obtain ⟨a2, k2, r2⟩ := (Reader.i64 Try.underlying3) e w n _ _ h2
  refine ⟨⟨a0, a1, a2⟩, ⟨k0, k1, k2⟩, fun S hS => ?_⟩
  have hcs : cs = (cs.drop 0).take 1 ++ ((cs.drop 1).take 1 ++ ((cs.drop 2).take 1 ++ [])) := by
    match cs, hl with
    | [x0, x1, x2], _ => rfl
  rw [hcs]
  exact CellsR.append (r0 S fun p hp => hS p (List.mem_flatMap.2 ⟨y0, List.mem_of_getElem? e0, hp⟩)) (CellsR.append (r1 S fun p hp => hS p (List.mem_flatMap.2 ⟨y1, List.mem_of_getElem? e1, hp⟩)) (CellsR.append (r2 S fun p hp => hS p (List.mem_flatMap.2 ⟨y2, List.mem_of_getElem? e2, hp⟩)) (CellsR.nil)))

theorem wrap64 {n : Int} (h1 : -9223372036854775808 ≤ n) (h2 : n ≤ 9223372036854775807) : IntKind.wrap .i64 n = n := by
  rw [IntKind.wrap_i64]; omega

theorem ix_nat {α : Type} {l : List α} {i : Nat} (h : i < l.length) : ix l (i : Int) = some l[i] := by
  unfold ix
  rw [if_pos (Int.natCast_nonneg i), Int.toNat_natCast, List.getElem?_eq_getElem h]

theorem upd_nat {α : Type} {l : List α} {i : Nat} {x : α} (h : i < l.length) : upd l (i : Int) x = some (l.set i x) := by
  unfold upd
  rw [if_pos ⟨Int.natCast_nonneg i, by simpa using h⟩, Int.toNat_natCast]

theorem step64 {i n : Nat} (h : i < n) (hn : n ≤ maxLen) : IntKind.wrap .i64 ((i : Int) + 1) = ((i + 1 : Nat) : Int) := by
  simp only [maxLen] at hn
  rw [wrap64 (by omega) (by omega)]
  omega

theorem szToken_is (x : SToken) (b : Int) (h0 : 0 ≤ b) (h1 : b ≤ 1048576) (hx : x.Text.length ≤ maxLen) : ∃ r, m_laws_szToken x b = some r ∧ (r < 0 ∨ (0 ≤ r ∧ r ≤ b ∧ (x.Text.length : Int) ≤ b)) := by
  unfold m_laws_szToken
  simp only [maxLen] at hx
  rw [wrap64 (by omega) (by omega)]
  by_cases h : b - (x.Text.length : Int) < 0
  · exact ⟨-1, by simp [h], .inl (by omega)⟩
  · exact ⟨b - x.Text.length, by simp [h], .inr (by omega)⟩

theorem szTokenS_l (N : Nat) (a : List SToken) (hl : a.length ≤ maxLen) (ha : ∀ x, x ∈ a → x.Text.length ≤ maxLen) : ∀ (n i : Nat) (b : Int), a.length - i < n → i ≤ a.length → 0 ≤ b → b ≤ 1048576 →
    ∃ r, m_laws_szTokenS_l1 N n (a, b, (i : Int)) = some r ∧ (r < 0 ∨ (0 ≤ r ∧ ∀ j (hj : j < a.length), i ≤ j → (a[j].Text.length : Int) ≤ 1048576)) := by
  intro n
  induction n with
  | zero => intro i b h; omega
  | succ n ih =>
    intro i b hn hi h0 h1
    rw [m_laws_szTokenS_l1]
    by_cases h : i < a.length
    · have hd : decide ((i : Int) < (a.length : Int)) = true := by simp [h]
      simp only [hd, cond_true, ix_nat h, Option.bind_some]
      obtain ⟨r, hr, hc⟩ := szToken_is a[i] b h0 h1 (ha _ (List.getElem_mem h))
      simp only [hr, Option.bind_some]
      by_cases hr0 : r < 0
      · exact ⟨-1, by simp [hr0], .inl (by omega)⟩
      · rcases hc with hc | ⟨hc0, hc1, hc2⟩
        · omega
        · obtain ⟨r', hr', hc'⟩ := ih (i + 1) r (by omega) (by omega) hc0 (by omega)
          refine ⟨r', by simp only [hr0, decide_false, cond_false, step64 h hl]; exact hr', hc'.imp id fun ⟨g0, g⟩ => ⟨g0, fun j hj hij => ?_⟩⟩
          by_cases he : j = i
          · subst he; omega
          · exact g j hj (by omega)
    · have hd : decide ((i : Int) < (a.length : Int)) = false := by simp; omega
      exact ⟨b, by simp only [hd, cond_false], .inr ⟨h0, fun j hj hij => by omega⟩⟩

/-- the size that a law asks: it returns, and if it does not say no the list is small -/
theorem szTokenS_is (N : Nat) (a : List SToken) (hN : a.length < N) (hl : a.length ≤ maxLen) (ha : ∀ x, x ∈ a → x.Text.length ≤ maxLen) :
    ∃ r, m_laws_szTokenS N a 1048576 = some r ∧ (r < 0 ∨ (0 ≤ r ∧ a.length ≤ 1048576 ∧ ∀ x, x ∈ a → x.Text.length ≤ 1048576)) := by
  unfold m_laws_szTokenS
  have hl' := hl
  simp only [maxLen] at hl'
  rw [wrap64 (by omega) (by omega)]
  by_cases h : 1048576 - (a.length : Int) < 0
  · exact ⟨-1, by simp [h], .inl (by omega)⟩
  · obtain ⟨r, hr, hc⟩ := szTokenS_l N a hl ha N 0 (1048576 - a.length) (by omega) (by omega) (by omega) (by omega)
    refine ⟨r, by simp only [h, decide_false, cond_false]; exact hr, hc.imp id fun ⟨g0, g⟩ => ⟨g0, by omega, fun x hx => ?_⟩⟩
    obtain ⟨j, hj, rfl⟩ := List.getElem_of_mem hx
    have := g j hj (by omega)
    omega

theorem toTokenS_l (N : Nat) (a : List SToken) (hl : a.length ≤ maxLen) : ∀ (n i : Nat) (c : List SToken), a.length - i < n → i ≤ a.length → c.length = a.length →
    m_laws_toTokenS_l1 N n (a, (i : Int), c) = some (c.take i ++ a.drop i) := by
  intro n
  induction n with
  | zero => intro i c h; omega
  | succ n ih =>
    intro i c hn hi hc
    rw [m_laws_toTokenS_l1]
    by_cases h : i < a.length
    · have hd : decide ((i : Int) < (a.length : Int)) = true := by simp [h]
      have hic : i < c.length := by omega
      simp only [hd, cond_true, ix_nat h, ix_nat hic, Option.bind_some, m_laws_toToken, upd_nat hic, step64 h hl]
      rw [ih (i + 1) (c.set i a[i]) (by omega) (by omega) (by simpa using hc)]
      congr 1
      rw [List.take_add_one, List.getElem?_set_self hic, List.take_set_of_le (Nat.le_refl i)]
      rw [List.append_assoc]
      congr 1
      simp
    · have hd : decide ((i : Int) < (a.length : Int)) = false := by simp; omega
      have hi' : i = a.length := by omega
      simp only [hd, cond_false]
      subst hi'
      rw [List.drop_length, List.append_nil, ← hc, List.take_length]

theorem toTokenS_is (N : Nat) (a : List SToken) (hN : a.length < N) (hl : a.length ≤ 1048576) : m_laws_toTokenS N a = some a := by
  unfold m_laws_toTokenS mk
  rw [if_pos ⟨by omega, by simp; omega, by simp [maxLen]; omega⟩, Option.bind_some]
  have := toTokenS_l N a (by simp [maxLen]; omega) N 0 (List.replicate a.length ⟨0, [], 0⟩) (by omega) (by omega) (by simp)
  simpa using this

theorem eqToken_self (x : SToken) : m_laws_eqToken x x = some true := by simp [m_laws_eqToken]

theorem eqTokenS_l (N : Nat) (a : List SToken) (hl : a.length ≤ maxLen) : ∀ (n i : Nat), a.length - i < n → i ≤ a.length → m_laws_eqTokenS_l1 N n (a, a, (i : Int)) = some true := by
  intro n
  induction n with
  | zero => intro i h; omega
  | succ n ih =>
    intro i hn hi
    rw [m_laws_eqTokenS_l1]
    by_cases h : i < a.length
    · have hd : decide ((i : Int) < (a.length : Int)) = true := by simp [h]
      simp only [hd, cond_true, ix_nat h, Option.bind_some, eqToken_self, Bool.not_true, cond_false, step64 h hl]
      exact ih (i + 1) (by omega) (by omega)
    · have hd : decide ((i : Int) < (a.length : Int)) = false := by simp; omega
      simp only [hd, cond_false]

theorem eqTokenS_self (N : Nat) (a : List SToken) (hN : a.length < N) (hl : a.length ≤ maxLen) : m_laws_eqTokenS N a a = some true := by
  unfold m_laws_eqTokenS
  have := eqTokenS_l N a hl N 0 (by omega) (by omega)
  simpa using this
theorem min64 : IntKind.i64.min = -9223372036854775808 := by rfl

/-- one token: the two tests agree -/
theorem test_same (x : SToken) (at_ : Int) (hx : (Lit.int .i64 x.At).wf = true) (ha : (Lit.int .i64 at_).wf = true) (ht : x.Text.length ≤ maxLen) (h : x.At ≤ at_) :
    decide ((IntKind.wrap .u64 ((IntKind.wrap .u64 at_) - (IntKind.wrap .u64 x.At))) < (IntKind.wrap .u64 (x.Text.length : Int))) = (decide ((IntKind.wrap .i64 (at_ - x.At)) ≥ 0) && decide ((IntKind.wrap .i64 (at_ - x.At)) < (x.Text.length : Int))) := by
  have h1 : -9223372036854775808 ≤ x.At ∧ x.At ≤ 9223372036854775807 := by simpa [Lit.wf, min64, IntKind.max_i64] using hx
  have h2 : -9223372036854775808 ≤ at_ ∧ at_ ≤ 9223372036854775807 := by simpa [Lit.wf, min64, IntKind.max_i64] using ha
  simp only [maxLen] at ht
  rw [IntKind.wrap_i64, IntKind.wrap_u64, IntKind.wrap_u64, IntKind.wrap_u64, IntKind.wrap_u64]
  rw [Bool.eq_iff_iff]
  simp only [Bool.and_eq_true, decide_eq_true_eq]
  omega

theorem tokenAt_l (N : Nat) (a : List SToken) (at_ : Int) (ha : (Lit.int .i64 at_).wf = true) (hl : a.length ≤ maxLen) (hok : ∀ x, x ∈ a → (Lit.int .i64 x.At).wf = true ∧ x.Text.length ≤ maxLen) : ∀ (n i : Nat), a.length - i < n → i ≤ a.length →
    ∃ r, m_spec_TokenAt_l1 N n (a, at_, (i : Int)) = some r ∧ m_impl_TokenAt_l1 N n (at_, a, (i : Int)) = some r := by
  intro n
  induction n with
  | zero => intro i h; omega
  | succ n ih =>
    intro i hn hi
    rw [m_spec_TokenAt_l1, m_impl_TokenAt_l1]
    by_cases h : i < a.length
    · have hd : decide ((i : Int) < (a.length : Int)) = true := by simp [h]
      simp only [hd, cond_true, ix_nat h, Option.bind_some, step64 h hl]
      obtain ⟨hx, ht⟩ := hok a[i] (List.getElem_mem h)
      obtain ⟨r, h1, h2⟩ := ih (i + 1) (by omega) (by omega)
      by_cases hle : a[i].At ≤ at_
      · rw [test_same a[i] at_ hx ha ht hle]
        simp only [hle, decide_true, cond_true, Option.bind_some]
        cases decide ((IntKind.wrap .i64 (at_ - a[i].At)) ≥ 0) <;> cases decide ((IntKind.wrap .i64 (at_ - a[i].At)) < (a[i].Text.length : Int)) <;> first
          | exact ⟨r, h1, h2⟩
          | exact ⟨i, rfl, rfl⟩
      · simp only [hle, decide_false, cond_false, Option.bind_some]
        exact ⟨r, h1, h2⟩
    · have hd : decide ((i : Int) < (a.length : Int)) = false := by simp; omega
      exact ⟨-1, by simp only [hd, cond_false], by simp only [hd, cond_false]⟩

theorem plain (a : List SToken) (at_ : Int) (ka : (∀ x, x ∈ a → ok48 x) ∧ a.length ≤ maxLen) (kat : (Lit.int .i64 at_).wf = true) : ∃ N, m_laws_FnExactTokenAt N a at_ = some true := by
  obtain ⟨hok, hl⟩ := ka
  refine ⟨a.length + 1, ?_⟩
  unfold m_laws_FnExactTokenAt
  obtain ⟨r, hr, hc⟩ := szTokenS_is (a.length + 1) a (by omega) hl fun x hx => (hok x hx).2.1
  rw [hr, Option.bind_some]
  rcases hc with hc | ⟨hc, hs, _⟩
  · simp [hc]
  · have hn : ¬ r < 0 := by omega
    obtain ⟨r2, h1, h2⟩ := tokenAt_l (a.length + 1) a at_ kat hl (fun x hx => ⟨(hok x hx).2.2, (hok x hx).2.1⟩) (a.length + 1) 0 (by omega) (by omega)
    have e1 : m_spec_TokenAt (a.length + 1) a at_ = some r2 := h1
    have e2 : m_impl_TokenAt (a.length + 1) a at_ = some r2 := h2
    simp only [hn, decide_false, cond_false, toTokenS_is (a.length + 1) a (by omega) hs, Option.bind_some, e1, e2, eqTokenS_self (a.length + 1) a (by omega) hl]
    simp


theorem kids : Kids Try.prog (· < Try.prog.types.size) := kids_rows (by kernel_rfl) (by kernel_rfl)
theorem full : ∀ t e, t < Try.prog.types.size → Try.prog.underlying t = some (.slice e) → 0 < Try.prog.cellsOf e := slices_full_of Try.prog (by kernel_rfl)

theorem lifted (os : Os) (started : os.Started) (H : Type) (enc : TypeId × Value → H) :
    ReturnsInHanded {} Try.checked os 6 .any (Rows.fnExactTokenAtSpec.pre6 enc Try.prog Try.f6 Rows.fnExactTokenAtRow.domain false) (Rows.fnExactTokenAtSpec.post enc Try.prog Try.f6 false true false false) := by
  refine returnsInHanded_of_change (C := Try.checked) own started (by kernel_rfl) Try.func6
    (ChangeSpec.witness6 (enc := enc) (C := Try.checked) false ⟨#[], #[.slice none 0 0, .int .i64 0], []⟩ 8 (by kernel_rfl) (by kernel_rfl) (by kernel_rfl) (by kernel_rfl)) ?_
  intro W base args ds gs before hval0 hW hcnd _
  have hval : ∀ (j : Nat) t v, Try.f6.params[j]? = some t → args[j]? = some v → Value.okWide Try.prog W .any base t v := hval0
  have hW' := hW
  obtain ⟨p, q, hA0, hV, rfl, hfz, hnd⟩ := hW
  have hA : DataW.TrodAll enc Try.prog W 0 (fun _ => true) true Try.f6.params.toList args.toList ds p := hA0
  rw [Try.params6] at hA hval
  have hA1 := hA
  obtain ⟨v0, vs0, d0, ds0, p0, q0, hargs, rfl, rfl, h0, r0⟩ := trodAll_cons hA
  obtain ⟨v1, vs1, d1, ds1, p1, q1, rfl, rfl, rfl, h1, r1⟩ := trodAll_cons r0
  obtain ⟨rfl, rfl, rfl⟩ := trodAll_nil r1
  obtain rfl : args = #[v0, v1] := by cases args; simp_all
  have hA2 : DataW.TrodAll enc Try.prog W 0 (fun _ => true) true [27, 3] [v0, v1] [d0, d1] (p0 ++ (p1 ++ [])) := hA1
  obtain ⟨rfl, rfl⟩ := trodVars_none hV
  obtain ⟨fu0, hf0⟩ := h0
  obtain ⟨a0, k0, c0⟩ := (Reader.slice Try.underlying27 read48 3 (by kernel_rfl) (by decide) (fun _ => rfl)) enc W fu0 _ _ hf0
  obtain ⟨s0, l0, m0, rfl⟩ := okWide_slice Try.underlying27 (hval 0 27 v0 rfl rfl)
  obtain ⟨fu1, hf1⟩ := h1
  obtain ⟨a1, k1, c1⟩ := (Reader.i64 Try.underlying3) enc W fu1 _ _ hf1
  obtain ⟨n1, rfl⟩ := okWide_int Try.underlying3 (hval 1 3 v1 rfl rfl)
  have hlt : ∀ b, blocksOf (p0 ++ (p1 ++ [])) b → b < W.heap.size := by
    rintro b ⟨m, hm, rfl⟩
    exact DataW.TrodAll.lt hA1 m (by simpa using hm)
  obtain ⟨N, hN⟩ := plain a0 a1 k0 k1
  refine (AC.below (m_laws_FnExactTokenAt_ok N a0 a1 hN) (blocksOf (p0 ++ (p1 ++ []))) hlt rfl fun i x hx => ?_).mono ?_
  · match i with
    | 0 =>
      simp only [List.getElem?_cons_succ, List.getElem?_cons_zero, Option.some.injEq] at hx
      subst hx
      exact argOne rfl (c0 _ fun p hp => ⟨p, by simp [hp], rfl⟩)
    | 1 =>
      simp only [List.getElem?_cons_succ, List.getElem?_cons_zero, Option.some.injEq] at hx
      subst hx
      exact argOne rfl (c1 _ fun p hp => ⟨p, by simp [hp], rfl⟩)
    | i + 2 => simp at hx
  · rintro e W' ⟨x, S', rfl, hx, hb⟩
    have hxt := hx.c_inv
    subst hxt
    exact ⟨_, rfl, Av.post_of_below (pa := (p0 ++ (p1 ++ []))) (pv := []) hW' (fun _ _ _ => (trodAll_cons_mk (shut_bool Try.underlying4 _) trodAll_mk0))
      (fun sp hsp => args_kept kids full hb (by decide +kernel) hA2 (fun m hm => hsp m (by simpa using hm))) (fun _ _ => rfl) (by simp) hb (ok_one (by kernel_rfl) rfl (okWide_bool_mk Try.underlying4 _))⟩

theorem over : Rows.fnExactTokenAtRow.holds Try.pinned (OpenSpec.ofChange Rows.fnExactTokenAtSpec) :=
  OpenClaim.holds_of_wide 6 Try.f6 rfl rfl rfl rfl rfl rfl rfl ⟨rfl, rfl, rfl, rfl, rfl⟩ rfl rfl rfl rfl rfl (by kernel_rfl) Try.func6 (by kernel_rfl)
    (of_decide_eq_true (by kernel_rfl)) (by unfold Func.isWrapper; first | (rw [if_pos (by decide +kernel)]; kernel_rfl) | (rw [if_neg (by decide +kernel)]; exact ⟨rfl, rfl⟩))
    (fun os started H enc _ => lifted os started H enc)

/-- the statement -/
theorem proved : Rows.FnExactTokenAtSaid :=
  over
#print axioms proved
end Go.Proofs.Ytaipmddanmmkeaa.fnExactTokenAt

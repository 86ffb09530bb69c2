/-
  Levels: for all arguments the law returns true: the program's function returns what the reference's returns.
  The tables that the row lists are tied to the program's text.
-/
import Derived.Test.YtllanibkffnogaaDoorRows
import Derived.Test.YtllanibkffnogaaDoorCards
import Derived.Test.YtllanibkffnogaaDoorTie
import Derived.WalkKit
import Derived.ProofKit
import Derived.OpenShut
import Derived.Lay
import Derived.MakeChecks
import Derived.SevenTiedAt
import Derived.Test.YtllanibkffnogaaDoorLeW4
import Derived.Test.YtllanibkffnogaaDoorLeP1
import Derived.Test.YtllanibkffnogaaDoorCore6
namespace Go.Proofs.YtllanibkffnogaaDoor.fnLevels
open Go.ChangeShapes Go.WideShapes Go.ChangeAt Go.RowKit Go.Av Go.Proofs.Tryd
set_option linter.unusedVariables false
set_option linter.unusedSimpArgs false
set_option maxRecDepth 100000

theorem own : ownKnob Tryd.prog.godebug = none := by kernel_rfl
theorem laidOut : laidOutB Tryd.prog = true := by kernel_rfl

theorem at0 (b c : UInt8) : m_laws_at [b, c] 0 = some (b.toNat : Int) := by
  have hb := UInt8.toNat_lt b
  unfold m_laws_at
  have h1 : decide ((0 : Int) < (([b, c] : List UInt8).length : Int)) = true := rfl
  have h2 : ix [b, c] 0 = some b := rfl
  rw [h1, cond_true, h2, Option.bind_some, wrap64 (by omega) (by omega)]

theorem at1 (b c : UInt8) : m_laws_at [b, c] 1 = some (c.toNat : Int) := by
  have hb := UInt8.toNat_lt c
  unfold m_laws_at
  have h1 : decide ((1 : Int) < (([b, c] : List UInt8).length : Int)) = true := rfl
  have h2 : ix [b, c] 1 = some c := rfl
  rw [h1, cond_true, h2, Option.bind_some, wrap64 (by omega) (by omega)]

def lvB (i : Nat) : Bool := (List.range 13).all fun j => m_laws_FnLevels 60 [UInt8.ofNat i, UInt8.ofNat j] == some true
theorem lv0 : lvB 0 = true := by kernel_rfl
theorem lv1 : lvB 1 = true := by kernel_rfl
theorem lv2 : lvB 2 = true := by kernel_rfl
theorem lv3 : lvB 3 = true := by kernel_rfl
theorem lv4 : lvB 4 = true := by kernel_rfl
theorem lv5 : lvB 5 = true := by kernel_rfl
theorem lv6 : lvB 6 = true := by kernel_rfl
theorem lv7 : lvB 7 = true := by kernel_rfl
theorem lv8 : lvB 8 = true := by kernel_rfl
theorem lv9 : lvB 9 = true := by kernel_rfl
theorem lv10 : lvB 10 = true := by kernel_rfl
theorem lv11 : lvB 11 = true := by kernel_rfl
theorem lv12 : lvB 12 = true := by kernel_rfl
theorem levels_b (i : Nat) (h : i < 13) : lvB i = true := by
  rcases (show i = 0 ∨ i = 1 ∨ i = 2 ∨ i = 3 ∨ i = 4 ∨ i = 5 ∨ i = 6 ∨ i = 7 ∨ i = 8 ∨ i = 9 ∨ i = 10 ∨ i = 11 ∨ i = 12 by omega) with rfl | rfl | rfl | rfl | rfl | rfl | rfl | rfl | rfl | rfl | rfl | rfl | rfl
  · exact lv0
  · exact lv1
  · exact lv2
  · exact lv3
  · exact lv4
  · exact lv5
  · exact lv6
  · exact lv7
  · exact lv8
  · exact lv9
  · exact lv10
  · exact lv11
  · exact lv12

theorem levels_is (x : List UInt8) : m_laws_FnLevels 60 x = some true := by
  cases hb : decide ((x.length : Int) > 1048576) with
  | true =>
    unfold m_laws_FnLevels
    rw [big_is, hb]
    rfl
  | false =>
    have hx : x.length ≤ 1048576 := by simp at hb; omega
    obtain ⟨r, r1, r2, r3⟩ := at_is x 0 (by omega) hx
    obtain ⟨s, s1, s2, s3⟩ := at_is x 1 (by omega) hx
    have r1 : m_laws_at x 0 = some r := r1
    have s1 : m_laws_at x 1 = some s := s1
    obtain ⟨i, hi⟩ : ∃ i : Nat, r % 13 = (i : Int) := Int.eq_ofNat_of_zero_le (by omega)
    obtain ⟨j, hj⟩ : ∃ j : Nat, s % 13 = (j : Int) := Int.eq_ofNat_of_zero_le (by omega)
    have hi13 : i < 13 := by omega
    have hj13 : j < 13 := by omega
    have key := List.all_eq_true.1 (levels_b i hi13) j (List.mem_range.2 hj13)
    rw [beq_iff_eq] at key
    have ei : ((UInt8.ofNat i).toNat : Int) = i := by rw [UInt8.toNat_ofNat']; omega
    have ej : ((UInt8.ofNat j).toNat : Int) = j := by rw [UInt8.toNat_ofNat']; omega
    have e1 : Int.tmod r 13 = Int.tmod (i : Int) 13 := by rw [Int.tmod_eq_emod_of_nonneg r2, Int.tmod_eq_emod_of_nonneg (by omega)]; omega
    have e2 : Int.tmod s 13 = Int.tmod (j : Int) 13 := by rw [Int.tmod_eq_emod_of_nonneg s2, Int.tmod_eq_emod_of_nonneg (by omega)]; omega
    rw [← key]
    unfold m_laws_FnLevels
    have hb2 : decide ((([UInt8.ofNat i, UInt8.ofNat j] : List UInt8).length : Int) > 1048576) = false := rfl
    rw [big_is, big_is, hb, hb2, r1, s1, at0, at1, ei, ej]
    simp only [Option.bind_some, e1, e2]

theorem plain (x : List UInt8) (_ : (∀ z, z ∈ x → True) ∧ x.length ≤ maxLen) : ∃ N, m_laws_FnLevels N x = some true := ⟨60, levels_is x⟩



theorem kids : Go.Kids Tryd.prog (· < Tryd.prog.types.size) := kids_rows (by kernel_rfl) (by kernel_rfl)
theorem full : ∀ t e, t < Tryd.prog.types.size → Tryd.prog.underlying t = some (.slice e) → 0 < Tryd.prog.cellsOf e := slices_full_of Tryd.prog (by kernel_rfl)

/-- what the row lists -/
def lay : List (String × DataW Unit) := [("loop.example/g01543/impl.keywords", Rows.laid_loop_example_g01543_impl_keywords), ("loop.example/g01543/impl.signs", Rows.laid_loop_example_g01543_impl_signs), ("loop.example/g01543/impl.builtins", Rows.laid_loop_example_g01543_impl_builtins)]

theorem tables {W : World} (h : laidMetH Tryd.prog lay W) : W.var? Tryd.prog "loop.example/g01543/impl.keywords" = some (strCells tab_keywords) ∧ W.var? Tryd.prog "loop.example/g01543/impl.signs" = some (strCells tab_signs) ∧ W.var? Tryd.prog "loop.example/g01543/impl.builtins" = some (strCells tab_builtins) := by
  rw [MakeChecks.laidMetH_plain _ _ _ (by kernel_rfl)] at h
  obtain ⟨ps, ⟨g0, t0, cs0, fuel0, p0, q0, hg0, ht0, hv0, hd0, r0, _⟩, _, _⟩ := h
  obtain ⟨g1, t1, cs1, fuel1, p1, q1, hg1, ht1, hv1, hd1, r1, _⟩ := r0
  obtain ⟨g2, t2, cs2, fuel2, p2, q2, hg2, ht2, hv2, hd2, r2, _⟩ := r1
  obtain rfl := Option.some.inj ((show Tryd.prog.globalNamed "loop.example/g01543/impl.keywords" = some 0 by kernel_rfl).symm.trans hg0)
  obtain rfl := Option.some.inj ((show (Tryd.prog.globals[0]?).map (·.type) = some 119 by kernel_rfl).symm.trans ht0)
  have e0 : cs0 = strCells tab_keywords := strs_of_trod (l := tab_keywords) (p := p0) (by rw [show (DataW.agg (tab_keywords.map fun s => .lit (.string s)) : DataW Unit) = Rows.laid_loop_example_g01543_impl_keywords by kernel_rfl]; exact hd0) Tryd.underlying119 Tryd.underlying9 (by kernel_rfl) (by kernel_rfl)
  rw [e0] at hv0
  obtain rfl := Option.some.inj ((show Tryd.prog.globalNamed "loop.example/g01543/impl.signs" = some 1 by kernel_rfl).symm.trans hg1)
  obtain rfl := Option.some.inj ((show (Tryd.prog.globals[1]?).map (·.type) = some 120 by kernel_rfl).symm.trans ht1)
  have e1 : cs1 = strCells tab_signs := strs_of_trod (l := tab_signs) (p := p1) (by rw [show (DataW.agg (tab_signs.map fun s => .lit (.string s)) : DataW Unit) = Rows.laid_loop_example_g01543_impl_signs by kernel_rfl]; exact hd1) Tryd.underlying120 Tryd.underlying9 (by kernel_rfl) (by kernel_rfl)
  rw [e1] at hv1
  obtain rfl := Option.some.inj ((show Tryd.prog.globalNamed "loop.example/g01543/impl.builtins" = some 5 by kernel_rfl).symm.trans hg2)
  obtain rfl := Option.some.inj ((show (Tryd.prog.globals[5]?).map (·.type) = some 185 by kernel_rfl).symm.trans ht2)
  have e2 : cs2 = strCells tab_builtins := strs_of_trod (l := tab_builtins) (p := p2) (by rw [show (DataW.agg (tab_builtins.map fun s => .lit (.string s)) : DataW Unit) = Rows.laid_loop_example_g01543_impl_builtins by kernel_rfl]; exact hd2) Tryd.underlying185 Tryd.underlying9 (by kernel_rfl) (by kernel_rfl)
  rw [e2] at hv2
  exact ⟨hv0, hv1, hv2⟩

theorem grel {W : World} {S : Nat → Prop} (h0 : W.var? Tryd.prog "loop.example/g01543/impl.keywords" = some (strCells tab_keywords)) (h1 : W.var? Tryd.prog "loop.example/g01543/impl.signs" = some (strCells tab_signs)) (h2 : W.var? Tryd.prog "loop.example/g01543/impl.builtins" = some (strCells tab_builtins)) (s0 : S 0) (s1 : S 1) (s2 : S 5) : GRel (GS [0, 1, 5]) S W := by
  intro g cs hg
  have hc : ([0, 1, 5] : List Nat).contains g = true := by
    cases h : ([0, 1, 5] : List Nat).contains g with
    | true => rfl
    | false => unfold GS at hg; rw [h] at hg; cases hg
  have hm := List.contains_iff_mem.1 hc
  simp only [List.mem_cons, List.mem_nil_iff, or_false] at hm
  rcases hm with rfl | rfl | rfl
  · obtain rfl := Option.some.inj ((show GS [0, 1, 5] 0 = some (tab_keywords.map V.str) by kernel_rfl).symm.trans hg)
    exact el_of_var (show Tryd.prog.globalNamed "loop.example/g01543/impl.keywords" = some 0 by kernel_rfl) h0 s0
  · obtain rfl := Option.some.inj ((show GS [0, 1, 5] 1 = some (tab_signs.map V.str) by kernel_rfl).symm.trans hg)
    exact el_of_var (show Tryd.prog.globalNamed "loop.example/g01543/impl.signs" = some 1 by kernel_rfl) h1 s1
  · obtain rfl := Option.some.inj ((show GS [0, 1, 5] 5 = some (tab_builtins.map V.str) by kernel_rfl).symm.trans hg)
    exact el_of_var (show Tryd.prog.globalNamed "loop.example/g01543/impl.builtins" = some 5 by kernel_rfl) h2 s2

theorem lifted (os : Os) (started : os.Started) (H : Type) (enc : TypeId × Value → H) :
    ReturnsInHanded {} Tryd.checked os 6 .any (fun w args => (Rows.fnLevelsSpec.pre enc Tryd.prog Tryd.f6 Rows.fnLevelsRow.domain false w args ∧ laidMetH Tryd.prog lay w) ∧ sizedMet enc Tryd.prog Tryd.f6 (OpenSpec.ofChange Rows.fnLevelsSpec) false w args) (Rows.fnLevelsSpec.post enc Tryd.prog Tryd.f6 false true false false) := by
  refine returnsInHanded_of_change_and (C := Tryd.checked) (X := fun w _ => laidMetH Tryd.prog lay w) (fun _ _ _ hh h => h.of_heap hh) own started (by kernel_rfl) Tryd.func6
    (ChangeSpec.witness_at (enc := enc) (C := Tryd.checked) (os := os) (X := fun w _ => laidMetH Tryd.prog lay w) false (World.laidAll Tryd.prog os lay) #[.slice none 0 0] 12 (World.laidAll_os _ _ _) (by kernel_rfl) (by kernel_rfl) (by kernel_rfl) (by kernel_rfl) (by kernel_rfl)
      (by rw [MakeChecks.laidMetH_plain _ _ _ (by kernel_rfl)]; exact laidMet_laidAll _ (by kernel_rfl) (by kernel_rfl))) ?_
  intro W base args ds gs before hval0 hW hcnd _ hL _
  have hval : ∀ (j : Nat) t v, Tryd.f6.params[j]? = some t → args[j]? = some v → Value.okWide Tryd.prog W .any base t v := hval0
  have hW' := hW
  obtain ⟨p, q, hA0, hV0, rfl, hfz, hnd⟩ := hW
  have hA : DataW.TrodAll enc Tryd.prog W 0 (fun _ => true) true Tryd.f6.params.toList args.toList ds p := hA0
  have hV : DataW.TrodVars enc Tryd.prog W (fun _ => true) ["loop.example/g01543/impl.keywords", "loop.example/g01543/impl.signs", "loop.example/g01543/impl.builtins"] gs q := hV0
  rw [Tryd.params6] at hA hval
  have hA1 := hA
  obtain ⟨v0, vs0, d0, ds0, p0, q0, hargs, rfl, rfl, h0, r0⟩ := trodAll_cons hA
  obtain ⟨rfl, rfl, rfl⟩ := trodAll_nil r0
  obtain rfl : args = #[v0] := by cases args; simp_all
  have hA2 : DataW.TrodAll enc Tryd.prog W 0 (fun _ => true) true [22] [v0] [d0] (p0 ++ []) := hA1
  have hgl := vars_len hV
  obtain ⟨y0, y1, y2, rfl⟩ : ∃ y0 y1 y2, gs = [y0, y1, y2] := by
    match gs, hgl with
    | [y0, y1, y2], _ => exact ⟨y0, y1, y2, rfl⟩
  obtain ⟨fu0, hf0⟩ := h0
  obtain ⟨a0, k0, c0⟩ := (Reader.slice Tryd.underlying22 (Reader.u8 Tryd.underlying5) 1 (by kernel_rfl) (by decide) (fun _ => rfl)) enc W fu0 _ _ hf0
  obtain ⟨s0, l0, m0, rfl⟩ := okWide_slice Tryd.underlying22 (hval 0 22 v0 rfl rfl)
  have htab := tables hL
  have tv0 := htab.1
  have tv1 := htab.2.1
  have tv2 := htab.2.2
  have hlt : ∀ b, (fun b => blocksOf (p0 ++ []) b ∨ b = 0 ∨ b = 1 ∨ b = 5) b → b < W.heap.size := by
    intro b hb
    rcases hb with ⟨m, hm, rfl⟩ | rfl | rfl | rfl
    · exact DataW.TrodAll.lt hA1 m (by simpa using hm)
    · exact var_lt (show Tryd.prog.globalNamed "loop.example/g01543/impl.keywords" = some 0 by kernel_rfl) tv0
    · exact var_lt (show Tryd.prog.globalNamed "loop.example/g01543/impl.signs" = some 1 by kernel_rfl) tv1
    · exact var_lt (show Tryd.prog.globalNamed "loop.example/g01543/impl.builtins" = some 5 by kernel_rfl) tv2
  obtain ⟨N, hN⟩ := plain a0 k0
  refine (AC.belowG (m_laws_FnLevels_ok N a0 hN) (fun b => blocksOf (p0 ++ []) b ∨ b = 0 ∨ b = 1 ∨ b = 5) hlt (grel tv0 tv1 tv2 (.inr (.inl rfl)) (.inr (.inr (.inl rfl))) (.inr (.inr (.inr rfl)))) rfl fun i x hx => ?_).mono ?_
  · match i with
    | 0 =>
      simp only [List.getElem?_cons_succ, List.getElem?_cons_zero, Option.some.injEq] at hx
      subst hx
      exact argOne rfl (c0 _ fun p hp => (.inl ⟨p, by simp [hp], rfl⟩))
    | i + 1 => simp at hx
  · rintro e W' ⟨x, S', rfl, hx, hb⟩
    have hxt := hx.c_inv
    subst hxt
    exact ⟨_, rfl, Av.post_of_below (pa := (p0 ++ [])) (pv := q) hW' (fun _ _ _ => (trodAll_cons_mk (shut_bool Tryd.underlying4 _) trodAll_mk0))
      (fun sp hsp => args_kept kids full hb (by decide +kernel) hA2 (fun m hm => hsp m (by simp only [List.mem_append]; exact .inl (by simpa using hm)))) (fun sp hsp => vars_kept laidOut hb (by kernel_rfl) hV (fun m hm => hsp m (by simp [hm]))) (by simp) hb (ok_one (by kernel_rfl) rfl (okWide_bool_mk Tryd.underlying4 _))⟩

theorem over : Rows.fnLevelsRow.holds Tryd.pinned (OpenSpec.ofChange Rows.fnLevelsSpec) :=
  OpenClaim.holds_of_wide 6 Tryd.f6 rfl rfl rfl rfl rfl rfl rfl ⟨rfl, rfl, rfl, rfl, rfl⟩ rfl rfl rfl rfl rfl (by kernel_rfl) Tryd.func6 (by kernel_rfl)
    (of_decide_eq_true (by kernel_rfl)) (by unfold Func.isWrapper; first | (rw [if_pos (by decide +kernel)]; kernel_rfl) | (rw [if_neg (by decide +kernel)]; exact ⟨rfl, rfl⟩))
    (fun os started H enc _ => lifted os started H enc)

/-- the statement -/
theorem proved : Rows.FnLevelsCardSaid :=
  Claim7.holds_tied_plain_at .later [] [.widerDeep, .data, .widerDeep] true (true, "1640a7148395b1568409863b3c4c1cb19eae9e24384379c5ca45b1cb6ddec8e4") false
    over (fun _ h => by cases h) (by kernel_rfl) (fun _ h => by cases h) fnLevels_row_tie rfl ⟨rfl, rfl⟩ (by kernel_rfl) rfl
    (fun f fn hf hfn => by
      obtain rfl : f = 6 := Option.some.inj ((show Tryd.prog.funcNamed "loop.example/g01543/laws.FnLevels" = some 6 by kernel_rfl).symm.trans hf) |>.symm
      obtain rfl : fn = Tryd.f6 := (Option.some.inj (Tryd.func6.symm.trans hfn)).symm
      exact ⟨by kernel_rfl, fun j t ht => by
        rw [Tryd.params6] at ht
        have hm : t ∈ [22] := by simpa using Array.mem_of_getElem? ht
        have hall : ([22].all fun u => !Tryd.prog.wantsStandIn u) = true := by kernel_rfl
        exact (show Tryd.prog.wantsStandIn t = false by simpa using List.all_eq_true.1 hall t hm)⟩)
    (by kernel_rfl)
#print axioms proved
end Go.Proofs.YtllanibkffnogaaDoor.fnLevels

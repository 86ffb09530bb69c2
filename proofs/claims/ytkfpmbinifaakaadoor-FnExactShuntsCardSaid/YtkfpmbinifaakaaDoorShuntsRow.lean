/-
  ExactShunts: for all arguments the law returns true: the program's function returns what the reference's returns.
  The tables that the row lists are tied to the program's text.
-/
import Derived.Test.YtkfpmbinifaakaaDoorRows
import Derived.Test.YtkfpmbinifaakaaDoorCards
import Derived.Test.YtkfpmbinifaakaaDoorTie
import Derived.WalkKit
import Derived.ProofKit
import Derived.OpenShut
import Derived.Lay
import Derived.MakeChecks
import Derived.SevenTiedAt
import Derived.Test.YtkfpmbinifaakaaDoorW2
import Derived.Test.YtkfpmbinifaakaaDoorP1
import Derived.Test.YtkfpmbinifaakaaDoorCore39
namespace Go.Proofs.YtkfpmbinifaakaaDoor.fnExactShunts
open Go.ChangeShapes Go.WideShapes Go.ChangeAt Go.RowKit Go.Av Go.Proofs.Tryd
set_option linter.unusedVariables false
set_option linter.unusedSimpArgs false
set_option maxRecDepth 100000

theorem own : ownKnob Tryd.prog.godebug = none := by kernel_rfl
theorem laidOut : laidOutB Tryd.prog = true := by kernel_rfl

/-- what is known of it -/
def ok45 (x : SToken) : Prop := ((Lit.int .i64 x.Kind).wf = true) ∧ (x.Text.length ≤ maxLen) ∧ ((Lit.int .i64 x.At).wf = true)

theorem read45 : Reader Tryd.prog 45 (encSToken) ok45 := by
  intro H e w fuel cs x h
  obtain ⟨xs, n, rfl, rfl, hl, hxl, hf⟩ := DataW.trod_struct Tryd.underlying45 h
  have hl : cs.length = 3 := hl.trans (by kernel_rfl)
  have hxl : xs.length = 3 := hxl
  obtain ⟨y0, e0⟩ : ∃ y, xs[0]? = some y := ⟨_, List.getElem?_eq_getElem (by omega)⟩
  have h0 : DataW.trod e Tryd.prog w 0 (fun _ => true) true n 3 ((cs.drop 0).take (Tryd.prog.cellsOf 3)) = some y0 := (hf 0 _ rfl).trans e0
  have c0 : Tryd.prog.cellsOf 3 = 1 := by kernel_rfl
  rw [c0] at h0
  obtain ⟨a0, k0, r0⟩ := (Reader.i64 Tryd.underlying3) e w n _ _ h0
  obtain ⟨y1, e1⟩ : ∃ y, xs[1]? = some y := ⟨_, List.getElem?_eq_getElem (by omega)⟩
  have h1 : DataW.trod e Tryd.prog w 0 (fun _ => true) true n 9 ((cs.drop 1).take (Tryd.prog.cellsOf 9)) = some y1 := (hf 1 _ rfl).trans e1
  have c1 : Tryd.prog.cellsOf 9 = 1 := by kernel_rfl
  rw [c1] at h1
  obtain ⟨a1, k1, r1⟩ := (Reader.str Tryd.underlying9) e w n _ _ h1
  obtain ⟨y2, e2⟩ : ∃ y, xs[2]? = some y := ⟨_, List.getElem?_eq_getElem (by omega)⟩
  have h2 : DataW.trod e Tryd.prog w 0 (fun _ => true) true n 3 ((cs.drop 2).take (Tryd.prog.cellsOf 3)) = some y2 := (hf 2 _ rfl).trans e2
  have c2 : Tryd.prog.cellsOf 3 = 1 := by kernel_rfl
  rw [c2] at h2
  obtain ⟨a2, k2, r2⟩ := (Reader.i64 Tryd.underlying3) e w n _ _ h2
  refine ⟨⟨a0, a1, a2⟩, ⟨k0, k1, k2⟩, fun S hS => ?_⟩
  have hcs : cs = (cs.drop 0).take 1 ++ ((cs.drop 1).take 1 ++ ((cs.drop 2).take 1 ++ [])) := by
    match cs, hl with
    | [x0, x1, x2], _ => rfl
  rw [hcs]
  exact CellsR.append (r0 S fun p hp => hS p (List.mem_flatMap.2 ⟨y0, List.mem_of_getElem? e0, hp⟩)) (CellsR.append (r1 S fun p hp => hS p (List.mem_flatMap.2 ⟨y1, List.mem_of_getElem? e1, hp⟩)) (CellsR.append (r2 S fun p hp => hS p (List.mem_flatMap.2 ⟨y2, List.mem_of_getElem? e2, hp⟩)) (CellsR.nil)))

def P0 (X : Option Int) : Prop := ∃ o, X = some o ∧ 0 ≤ o
theorem P0.bif (b : Bool) {X Y : Option Int} (hX : P0 X) (hY : P0 Y) : P0 (bif b then X else Y) := by cases b <;> assumption
theorem level_k4 (a : Int) (y : Bool) : P0 (m_spec_OpLevel_k4 (a, y)) := P0.bif _ ⟨10, rfl, by decide⟩ (P0.bif _ ⟨12, rfl, by decide⟩ ⟨0, rfl, by decide⟩)
theorem level_k3 (a : Int) (y : Bool) : P0 (m_spec_OpLevel_k3 (a, y)) := P0.bif _ ⟨9, rfl, by decide⟩ (P0.bif _ (level_k4 a _) (P0.bif _ (level_k4 a _) (level_k4 a _)))
theorem level_k2 (a : Int) (y : Bool) : P0 (m_spec_OpLevel_k2 (a, y)) := P0.bif _ ⟨7, rfl, by decide⟩ (P0.bif _ ⟨8, rfl, by decide⟩ (P0.bif _ (level_k3 a _) (level_k3 a _)))
theorem level_k1 (a : Int) (y : Bool) : P0 (m_spec_OpLevel_k1 (a, y)) := P0.bif _ ⟨6, rfl, by decide⟩ (P0.bif _ (level_k2 a _) (P0.bif _ (level_k2 a _) (P0.bif _ (level_k2 a _) (P0.bif _ (level_k2 a _) (P0.bif _ (level_k2 a _) (level_k2 a _))))))
theorem level_ex (a : Int) : ∃ o : Int, m_spec_OpLevel a = some o ∧ m_impl_OpLevel a = some o ∧ 0 ≤ o := by
  have e : m_impl_OpLevel a = m_spec_OpLevel a := rfl
  rw [e]
  have : P0 (m_spec_OpLevel a) := P0.bif _ ⟨3, rfl, by decide⟩ (P0.bif _ ⟨4, rfl, by decide⟩ (P0.bif _ (level_k1 a _) (level_k1 a _)))
  obtain ⟨o, h1, h2⟩ := this
  exact ⟨o, h1, h1, h2⟩

theorem shunts_l (N : Nat) (a : List SToken) (ha : a.length ≤ 1048576) (tb : Bool) (ht : m_spec_TokensOk N a = some tb) : ∀ (n m i d : Nat) (w : Bool), a.length - i < n → a.length - i < m → i ≤ a.length → d ≤ i →
    ∃ r : Bool, m_spec_Shunts_l1 N n (a, w, (d : Int), (i : Int)) = some (r && tb) ∧ m_impl_Shunts_l1 N m (a, (d : Int), !w, (i : Int)) = some r := by
  intro n
  induction n with
  | zero => intro m i d w h; omega
  | succ n ih =>
    intro m i d w hn hm hi hd
    obtain ⟨m, rfl⟩ : ∃ k, m = k + 1 := ⟨m - 1, by omega⟩
    rw [m_spec_Shunts_l1, m_impl_Shunts_l1]
    by_cases h : i < a.length
    · have hst : IntKind.wrap .i64 ((i : Int) + 1) = ((i + 1 : Nat) : Int) := by rw [wrap64 (by omega) (by omega)]; omega
      have hup : IntKind.wrap .i64 ((d : Int) + 1) = ((d + 1 : Nat) : Int) := by rw [wrap64 (by omega) (by omega)]; omega
      have hdn : IntKind.wrap .i64 ((d : Int) - 1) = (d : Int) - 1 := wrap64 (by omega) (by omega)
      have dge : decide ((d : Int) < 0) = false := decide_eq_false (by omega)
      have dge1 : decide (((d + 1 : Nat) : Int) < 0) = false := decide_eq_false (by omega)
      obtain ⟨o, o1, o2, o3⟩ := level_ex a[i].Kind
      obtain ⟨r1, p1, p2⟩ := ih m (i + 1) (d + 1) w (by omega) (by omega) (by omega) (by omega)
      obtain ⟨r2, p3, p4⟩ := ih m (i + 1) d false (by omega) (by omega) (by omega) (by omega)
      obtain ⟨r3, p5, p6⟩ := ih m (i + 1) (d - 1) w (by omega) (by omega) (by omega) (by omega)
      obtain ⟨r4, p7, p8⟩ := ih m (i + 1) d true (by omega) (by omega) (by omega) (by omega)
      simp only [lt_true h, cond_true, ix_nat h, Option.bind_some, m_spec_Shunts_k2, m_impl_Shunts_k2, o1, o2, hst, hup, hdn, dge, dge1, cond_false, p1, p2, p3, p4, p7, p8, Bool.not_false, Bool.not_true] at p4 p8 ⊢
      simp only [p4, p8]
      have ho : decide (o > 0) = (o != 0) := by
        by_cases hz : o = 0
        · subst hz; rfl
        · rw [decide_eq_true (by omega)]
          symm
          simpa using hz
      have h33 : (a[i].Kind == 33) = true → (o != 0) = false := by
        intro e
        have := eq_of_beq e
        rw [this] at o1
        have h0 : m_spec_OpLevel 33 = some 0 := rfl
        rw [h0] at o1
        cases o1
        rfl
      rw [ho]
      by_cases hd0 : d = 0
      · have g1 : decide ((d : Int) > 0) = false := decide_eq_false (by omega)
        have g2 : decide ((d : Int) - 1 < 0) = true := decide_eq_true (by omega)
        rw [g1, g2]
        generalize (a[i].Kind == 32) = c32
        generalize (a[i].Kind == 6) = c6
        generalize (a[i].Kind == 3) = c3
        generalize (a[i].Kind != 99) = c99
        revert h33
        generalize (a[i].Kind == 33) = c33
        generalize (o != 0) = oz
        intro h33
        cases w <;> cases c32 <;> cases c6 <;> cases c3 <;> cases c33 <;> cases c99 <;> cases oz <;> first
          | exact ⟨_, rfl, rfl⟩
          | exact ⟨false, rfl, rfl⟩
          | (exact absurd (h33 rfl) (by decide))
      · have g1 : decide ((d : Int) > 0) = true := decide_eq_true (by omega)
        have g2 : decide ((d : Int) - 1 < 0) = false := decide_eq_false (by omega)
        have g3 : (d : Int) - 1 = ((d - 1 : Nat) : Int) := by omega
        rw [g1, g2, g3, p5, p6]
        generalize (a[i].Kind == 32) = c32
        generalize (a[i].Kind == 6) = c6
        generalize (a[i].Kind == 3) = c3
        generalize (a[i].Kind != 99) = c99
        revert h33
        generalize (a[i].Kind == 33) = c33
        generalize (o != 0) = oz
        intro h33
        cases w <;> cases c32 <;> cases c6 <;> cases c3 <;> cases c33 <;> cases c99 <;> cases oz <;> first
          | exact ⟨_, rfl, rfl⟩
          | exact ⟨false, rfl, rfl⟩
          | (exact absurd (h33 rfl) (by decide))
    · rw [lt_false h, cond_false, cond_false, ht]
      refine ⟨!w && ((d : Int) == 0), ?_, ?_⟩
      · cases w <;> cases ((d : Int) == 0) <;> rfl
      · cases w <;> rfl

theorem same (N : Nat) (a : List SToken) (ha : a.length ≤ 1048576) (hN : 1048576 + 300 < N) (hs : ∀ t, t ∈ a → smTok t) : ∃ b : Bool, m_spec_Shunts N a = some b ∧ m_impl_Shunts N a = some b := by
  obtain ⟨tb, t1, t2, _⟩ := toks_ex N a hN hs
  obtain ⟨r, h1, h2⟩ := shunts_l N a ha tb t1 N N 0 0 true (by omega) (by omega) (by omega) (by omega)
  have h1' : m_spec_Shunts N a = some (r && tb) := h1
  have h2' : m_impl_Shunts_l1 N N (a, 0, false, 0) = some r := h2
  refine ⟨r && tb, h1', ?_⟩
  unfold m_impl_Shunts
  rw [t2, Option.bind_some]
  cases tb with
  | false => rw [Bool.and_false]; rfl
  | true => rw [Bool.not_true, cond_false, h2', Bool.and_true]

theorem plain (x : List SToken) (kx : (∀ z, z ∈ x → ok45 z) ∧ x.length ≤ maxLen) : ∃ N, m_laws_FnExactShunts N x = some true := by
  obtain ⟨kz, kl⟩ := kx
  have ha : ∀ z, z ∈ x → okToken z := fun z hz => by obtain ⟨_, ht, _⟩ := kz z hz; exact ht
  refine ⟨x.length + 1048900, ?_⟩
  obtain ⟨r, hr, hc⟩ := szTokenS_is (x.length + 1048900) x (by omega) kl ha 1048576 (by omega) (by omega)
  unfold m_laws_FnExactShunts
  rw [hr, Option.bind_some]
  rcases hc with ⟨hc, _⟩ | ⟨hc, h0⟩
  · simp [hc]
  · have hs := smToken_of x (by omega)
    have hla : x.length ≤ 1048576 := by omega
    have hn : decide (r < 0) = false := by simp; omega
    obtain ⟨b, b1, b2⟩ := same (x.length + 1048900) x hla (by omega) hs
    have hto := toTokenS_is (x.length + 1048900) x (by omega) hla hs
    have hea := eqTokenS_self (x.length + 1048900) x (by omega) hla hs
    have hbb : (!(b == b)) = false := by simp
    simp only [hn, cond_false, hto, hea, Option.bind_some, b1, b2, hbb, Bool.not_true]


theorem kids : Go.Kids Tryd.prog (· < Tryd.prog.types.size) := kids_rows (by kernel_rfl) (by kernel_rfl)
theorem full : ∀ t e, t < Tryd.prog.types.size → Tryd.prog.underlying t = some (.slice e) → 0 < Tryd.prog.cellsOf e := slices_full_of Tryd.prog (by kernel_rfl)

/-- what the row lists -/
def lay : List (String × DataW Unit) := [("loop.example/g01543/impl.keywords", Rows.laid_loop_example_g01543_impl_keywords), ("loop.example/g01543/impl.signs", Rows.laid_loop_example_g01543_impl_signs), ("loop.example/g01543/impl.builtins", Rows.laid_loop_example_g01543_impl_builtins)]

theorem tables {W : World} (h : laidMetH Tryd.prog lay W) : W.var? Tryd.prog "loop.example/g01543/impl.keywords" = some (strCells tab_keywords) ∧ W.var? Tryd.prog "loop.example/g01543/impl.signs" = some (strCells tab_signs) ∧ W.var? Tryd.prog "loop.example/g01543/impl.builtins" = some (strCells tab_builtins) := by
  rw [MakeChecks.laidMetH_plain _ _ _ (by kernel_rfl)] at h
  obtain ⟨ps, ⟨g0, t0, cs0, fuel0, p0, q0, hg0, ht0, hv0, hd0, r0, _⟩, _, _⟩ := h
  obtain ⟨g1, t1, cs1, fuel1, p1, q1, hg1, ht1, hv1, hd1, r1, _⟩ := r0
  obtain ⟨g2, t2, cs2, fuel2, p2, q2, hg2, ht2, hv2, hd2, r2, _⟩ := r1
  obtain rfl := Option.some.inj ((show Tryd.prog.globalNamed "loop.example/g01543/impl.keywords" = some 1 by kernel_rfl).symm.trans hg0)
  obtain rfl := Option.some.inj ((show (Tryd.prog.globals[1]?).map (·.type) = some 103 by kernel_rfl).symm.trans ht0)
  have e0 : cs0 = strCells tab_keywords := strs_of_trod (l := tab_keywords) (p := p0) (by rw [show (DataW.agg (tab_keywords.map fun s => .lit (.string s)) : DataW Unit) = Rows.laid_loop_example_g01543_impl_keywords by kernel_rfl]; exact hd0) Tryd.underlying103 Tryd.underlying9 (by kernel_rfl) (by kernel_rfl)
  rw [e0] at hv0
  obtain rfl := Option.some.inj ((show Tryd.prog.globalNamed "loop.example/g01543/impl.signs" = some 2 by kernel_rfl).symm.trans hg1)
  obtain rfl := Option.some.inj ((show (Tryd.prog.globals[2]?).map (·.type) = some 104 by kernel_rfl).symm.trans ht1)
  have e1 : cs1 = strCells tab_signs := strs_of_trod (l := tab_signs) (p := p1) (by rw [show (DataW.agg (tab_signs.map fun s => .lit (.string s)) : DataW Unit) = Rows.laid_loop_example_g01543_impl_signs by kernel_rfl]; exact hd1) Tryd.underlying104 Tryd.underlying9 (by kernel_rfl) (by kernel_rfl)
  rw [e1] at hv1
  obtain rfl := Option.some.inj ((show Tryd.prog.globalNamed "loop.example/g01543/impl.builtins" = some 0 by kernel_rfl).symm.trans hg2)
  obtain rfl := Option.some.inj ((show (Tryd.prog.globals[0]?).map (·.type) = some 102 by kernel_rfl).symm.trans ht2)
  have e2 : cs2 = strCells tab_builtins := strs_of_trod (l := tab_builtins) (p := p2) (by rw [show (DataW.agg (tab_builtins.map fun s => .lit (.string s)) : DataW Unit) = Rows.laid_loop_example_g01543_impl_builtins by kernel_rfl]; exact hd2) Tryd.underlying102 Tryd.underlying9 (by kernel_rfl) (by kernel_rfl)
  rw [e2] at hv2
  exact ⟨hv0, hv1, hv2⟩

theorem grel {W : World} {S : Nat → Prop} (h0 : W.var? Tryd.prog "loop.example/g01543/impl.keywords" = some (strCells tab_keywords)) (h1 : W.var? Tryd.prog "loop.example/g01543/impl.signs" = some (strCells tab_signs)) (h2 : W.var? Tryd.prog "loop.example/g01543/impl.builtins" = some (strCells tab_builtins)) (s0 : S 1) (s1 : S 2) (s2 : S 0) : GRel (GS [0, 1, 2]) S W := by
  intro g cs hg
  have hc : ([0, 1, 2] : List Nat).contains g = true := by
    cases h : ([0, 1, 2] : List Nat).contains g with
    | true => rfl
    | false => unfold GS at hg; rw [h] at hg; cases hg
  have hm := List.contains_iff_mem.1 hc
  simp only [List.mem_cons, List.mem_nil_iff, or_false] at hm
  rcases hm with rfl | rfl | rfl
  · obtain rfl := Option.some.inj ((show GS [0, 1, 2] 0 = some (tab_builtins.map V.str) by kernel_rfl).symm.trans hg)
    exact el_of_var (show Tryd.prog.globalNamed "loop.example/g01543/impl.builtins" = some 0 by kernel_rfl) h2 s2
  · obtain rfl := Option.some.inj ((show GS [0, 1, 2] 1 = some (tab_keywords.map V.str) by kernel_rfl).symm.trans hg)
    exact el_of_var (show Tryd.prog.globalNamed "loop.example/g01543/impl.keywords" = some 1 by kernel_rfl) h0 s0
  · obtain rfl := Option.some.inj ((show GS [0, 1, 2] 2 = some (tab_signs.map V.str) by kernel_rfl).symm.trans hg)
    exact el_of_var (show Tryd.prog.globalNamed "loop.example/g01543/impl.signs" = some 2 by kernel_rfl) h1 s1

theorem lifted (os : Os) (started : os.Started) (H : Type) (enc : TypeId × Value → H) :
    ReturnsInHanded {} Tryd.checked os 3 .any (fun w args => (Rows.fnExactShuntsSpec.pre enc Tryd.prog Tryd.f3 Rows.fnExactShuntsRow.domain false w args ∧ laidMetH Tryd.prog lay w) ∧ sizedMet enc Tryd.prog Tryd.f3 (OpenSpec.ofChange Rows.fnExactShuntsSpec) false w args) (Rows.fnExactShuntsSpec.post enc Tryd.prog Tryd.f3 false true false false) := by
  refine returnsInHanded_of_change_and (C := Tryd.checked) (X := fun w _ => laidMetH Tryd.prog lay w) (fun _ _ _ hh h => h.of_heap hh) own started (by kernel_rfl) Tryd.func3
    (ChangeSpec.witness_at (enc := enc) (C := Tryd.checked) (os := os) (X := fun w _ => laidMetH Tryd.prog lay w) false (World.laidAll Tryd.prog os lay) #[.slice none 0 0] 12 (World.laidAll_os _ _ _) (by kernel_rfl) (by kernel_rfl) (by kernel_rfl) (by kernel_rfl) (by kernel_rfl)
      (by rw [MakeChecks.laidMetH_plain _ _ _ (by kernel_rfl)]; exact laidMet_laidAll _ (by kernel_rfl) (by kernel_rfl))) ?_
  intro W base args ds gs before hval0 hW hcnd _ hL _
  have hval : ∀ (j : Nat) t v, Tryd.f3.params[j]? = some t → args[j]? = some v → Value.okWide Tryd.prog W .any base t v := hval0
  have hW' := hW
  obtain ⟨p, q, hA0, hV0, rfl, hfz, hnd⟩ := hW
  have hA : DataW.TrodAll enc Tryd.prog W 0 (fun _ => true) true Tryd.f3.params.toList args.toList ds p := hA0
  have hV : DataW.TrodVars enc Tryd.prog W (fun _ => true) ["loop.example/g01543/impl.keywords", "loop.example/g01543/impl.builtins", "loop.example/g01543/impl.signs"] gs q := hV0
  rw [Tryd.params3] at hA hval
  have hA1 := hA
  obtain ⟨v0, vs0, d0, ds0, p0, q0, hargs, rfl, rfl, h0, r0⟩ := trodAll_cons hA
  obtain ⟨rfl, rfl, rfl⟩ := trodAll_nil r0
  obtain rfl : args = #[v0] := by cases args; simp_all
  have hA2 : DataW.TrodAll enc Tryd.prog W 0 (fun _ => true) true [22] [v0] [d0] (p0 ++ []) := hA1
  have hgl := vars_len hV
  obtain ⟨y0, y1, y2, rfl⟩ : ∃ y0 y1 y2, gs = [y0, y1, y2] := by
    match gs, hgl with
    | [y0, y1, y2], _ => exact ⟨y0, y1, y2, rfl⟩
  obtain ⟨fu0, hf0⟩ := h0
  obtain ⟨a0, k0, c0⟩ := (Reader.slice Tryd.underlying22 read45 3 (by kernel_rfl) (by decide) (fun _ => rfl)) enc W fu0 _ _ hf0
  obtain ⟨s0, l0, m0, rfl⟩ := okWide_slice Tryd.underlying22 (hval 0 22 v0 rfl rfl)
  have htab := tables hL
  have tv0 := htab.1
  have tv1 := htab.2.1
  have tv2 := htab.2.2
  have hlt : ∀ b, (fun b => blocksOf (p0 ++ []) b ∨ b = 1 ∨ b = 2 ∨ b = 0) b → b < W.heap.size := by
    intro b hb
    rcases hb with ⟨m, hm, rfl⟩ | rfl | rfl | rfl
    · exact DataW.TrodAll.lt hA1 m (by simpa using hm)
    · exact var_lt (show Tryd.prog.globalNamed "loop.example/g01543/impl.keywords" = some 1 by kernel_rfl) tv0
    · exact var_lt (show Tryd.prog.globalNamed "loop.example/g01543/impl.signs" = some 2 by kernel_rfl) tv1
    · exact var_lt (show Tryd.prog.globalNamed "loop.example/g01543/impl.builtins" = some 0 by kernel_rfl) tv2
  obtain ⟨N, hN⟩ := plain a0 k0
  refine (AC.belowG (m_laws_FnExactShunts_ok N a0 hN) (fun b => blocksOf (p0 ++ []) b ∨ b = 1 ∨ b = 2 ∨ b = 0) hlt (grel tv0 tv1 tv2 (.inr (.inl rfl)) (.inr (.inr (.inl rfl))) (.inr (.inr (.inr rfl)))) rfl fun i x hx => ?_).mono ?_
  · match i with
    | 0 =>
      simp only [List.getElem?_cons_succ, List.getElem?_cons_zero, Option.some.injEq] at hx
      subst hx
      exact argOne rfl (c0 _ fun p hp => (.inl ⟨p, by simp [hp], rfl⟩))
    | i + 1 => simp at hx
  · rintro e W' ⟨x, S', rfl, hx, hb⟩
    have hxt := hx.c_inv
    subst hxt
    exact ⟨_, rfl, Av.post_of_below (pa := (p0 ++ [])) (pv := q) hW' (fun _ _ _ => (trodAll_cons_mk (shut_bool Tryd.underlying4 _) trodAll_mk0))
      (fun sp hsp => args_kept kids full hb (by decide +kernel) hA2 (fun m hm => hsp m (by simp only [List.mem_append]; exact .inl (by simpa using hm)))) (fun sp hsp => vars_kept laidOut hb (by kernel_rfl) hV (fun m hm => hsp m (by simp [hm]))) (by simp) hb (ok_one (by kernel_rfl) rfl (okWide_bool_mk Tryd.underlying4 _))⟩

theorem over : Rows.fnExactShuntsRow.holds Tryd.pinned (OpenSpec.ofChange Rows.fnExactShuntsSpec) :=
  OpenClaim.holds_of_wide 3 Tryd.f3 rfl rfl rfl rfl rfl rfl rfl ⟨rfl, rfl, rfl, rfl, rfl⟩ rfl rfl rfl rfl rfl (by kernel_rfl) Tryd.func3 (by kernel_rfl)
    (of_decide_eq_true (by kernel_rfl)) (by unfold Func.isWrapper; first | (rw [if_pos (by decide +kernel)]; kernel_rfl) | (rw [if_neg (by decide +kernel)]; exact ⟨rfl, rfl⟩))
    (fun os started H enc _ => lifted os started H enc)

/-- the statement -/
theorem proved : Rows.FnExactShuntsCardSaid :=
  Claim7.holds_tied_plain_at .later [] [.widerDeep, .data, .widerDeep] true (true, "54ffc266608cc2e6673446166ae6a79450c25bbdae543b3332354ff804283c13") false
    over (fun _ h => by cases h) (by kernel_rfl) (fun _ h => by cases h) fnExactShunts_row_tie rfl ⟨rfl, rfl⟩ (by kernel_rfl) rfl
    (fun f fn hf hfn => by
      obtain rfl : f = 3 := Option.some.inj ((show Tryd.prog.funcNamed "loop.example/g01543/laws.FnExactShunts" = some 3 by kernel_rfl).symm.trans hf) |>.symm
      obtain rfl : fn = Tryd.f3 := (Option.some.inj (Tryd.func3.symm.trans hfn)).symm
      exact ⟨by kernel_rfl, fun j t ht => by
        rw [Tryd.params3] at ht
        have hm : t ∈ [22] := by simpa using Array.mem_of_getElem? ht
        have hall : ([22].all fun u => !Tryd.prog.wantsStandIn u) = true := by kernel_rfl
        exact (show Tryd.prog.wantsStandIn t = false by simpa using List.all_eq_true.1 hall t hm)⟩)
    (by kernel_rfl)
#print axioms proved
end Go.Proofs.YtkfpmbinifaakaaDoor.fnExactShunts

/-
  Cursors: for all arguments the law returns true: the program's function returns what the reference's returns.
  The tables that the row lists are tied to the program's text.
-/
import Derived.Test.YtjhcdnpbmppkkaaGreatDoorRows
import Derived.Test.YtjhcdnpbmppkkaaGreatDoorCards
import Derived.Test.YtjhcdnpbmppkkaaGreatDoorTie
import Derived.WalkKit
import Derived.ProofKit
import Derived.OpenShut
import Derived.Lay
import Derived.MakeChecks
import Derived.SevenTiedAt
import Derived.Test.YtjhcdnpbmppkkaaGreatDoorCuTW5
import Derived.Test.YtjhcdnpbmppkkaaGreatDoorCuTP14
import Derived.Test.YtjhcdnpbmppkkaaGreatDoorTCore5
namespace Go.Proofs.YtjhcdnpbmppkkaaGreatDoor.fnCursors
open Go.ChangeShapes Go.WideShapes Go.ChangeAt Go.RowKit Go.Av Go.Proofs.Tryz
set_option linter.unusedVariables false
set_option linter.unusedSimpArgs false
set_option maxRecDepth 100000

theorem own : ownKnob Tryz.prog.godebug = none := by kernel_rfl
theorem laidOut : laidOutB Tryz.prog = true := by kernel_rfl

theorem plain (b : LU) (kb : (∀ z, z ∈ b → True) ∧ b.length ≤ maxLen) : ∃ N, ml_FnCursors N b = some true := by
  refine ⟨2100000, ?_⟩
  obtain ⟨N, hN⟩ : ∃ N, N = 2100000 := ⟨_, rfl⟩
  rw [← hN]
  unfold ml_FnCursors ml_big
  rw [Option.bind_some]
  by_cases hb : b.length ≤ 1048576
  · have hd : decide ((b.length : Int) > 1048576) = false := by simp; omega
    obtain ⟨s, k, e1, hs, k0, k1⟩ := drawLC_ex b hb N (by omega)
    rw [hd, cond_false, e1, Option.bind_some]
    dsimp only
    by_cases hk : k < 0 ∨ k > (s.length : Int)
    · obtain ⟨r, r1, r2⟩ := linecol_same N s k (by omega) (by omega)
      have e : r = (0, 0) := by
        unfold ms_LineCol ms_l1In at r1
        have : (decide (k ≥ 0) && decide (k ≤ (s.length : Int))) = false := by
          rcases hk with hk | hk
          · rw [decide_eq_false (by omega : ¬ k ≥ 0)]; rfl
          · rw [decide_eq_false (by omega : ¬ k ≤ (s.length : Int)), Bool.and_false]
        have e2 : ms_l1In k 0 (s.length : Int) = some false := by rw [l1In_is', this]
        have r1 : (Option.bind (ms_l1In k 0 (s.length : Int)) fun r4 => bif (!r4) then some (0, 0) else (ms_LineCol_l1 N N (s, k, 1, 0, 0))) = some r := r1
        rw [e2] at r1
        exact (Option.some.inj r1).symm
      rw [r2, e, Option.bind_some]
      have e3 : (bif (decide (k < 0)) then some true else (some (decide (k > (s.length : Int))))) = some true := by
        rcases hk with hk | hk
        · rw [decide_eq_true hk]; rfl
        · rw [decide_eq_true hk]; cases decide (k < 0) <;> rfl
      rw [e3]
      rfl
    · obtain ⟨m, rfl⟩ := Int.eq_ofNat_of_zero_le (show 0 ≤ k by omega)
      have hm : m ≤ s.length := by omega
      rw [lineCol_is N s m hm (by omega) (by omega), Option.bind_some]
      have hg := nlG_le s m
      have e3 : (bif (decide ((m : Int) < 0)) then some true else (some (decide ((m : Int) > (s.length : Int))))) = some false := by
        rw [decide_eq_false (by omega : ¬ (m : Int) < 0), decide_eq_false (by omega : ¬ (m : Int) > (s.length : Int))]
        rfl
      dsimp only
      rw [e3, Option.bind_some, cond_false, offset_is N s m hm (by omega) (by omega), Option.bind_some]
      have e4 : decide ((1 + ((s.take m).count 10 : Int)) < 1) = false := by simp; omega
      have e5 : decide (((m : Int) - nlG s m + 1) < 1) = false := by simp; omega
      obtain ⟨ts, f, h1, _, h3⟩ := lexC N s (by omega)
      simp only [Bool.not_true, cond_false, bne_self_eq_false, e4, e5, Option.bind_some, h1]
      have hl : ∀ (l : LT) (lo : Nat), lo ≤ s.length → OrdT s lo l → l.length ≤ s.length - lo := by
        intro l
        induction l with
        | nil => intro lo _ _; simp
        | cons t r ih =>
          rintro lo h ⟨_, a, g2, g3, g4, g5, g6⟩
          have := ih _ g5 g6
          simp only [List.length_cons]; omega
      have ho : ts = [] ∨ (s.length ≤ 3000 ∧ OrdT s 0 ts) := by
        rcases h3 with ⟨_, q1, q2⟩ | ⟨_, q⟩
        · exact .inr ⟨q1, q2⟩
        · exact .inl q
      have hlen : ts.length ≤ 3000 := by
        rcases ho with rfl | ⟨q1, q2⟩
        · simp
        · have := hl ts 0 (by omega) q2; omega
      exact cur_l1 N (by omega) s _ (by omega) ts f hlen (lexF (by omega) h1) ho N 0 (by omega) (by omega)
  · have hd : decide ((b.length : Int) > 1048576) = true := by simp; omega
    rw [hd]
    rfl



theorem kids : Go.Kids Tryz.prog (· < Tryz.prog.types.size) := kids_rows (by kernel_rfl) (by kernel_rfl)
theorem full : ∀ t e, t < Tryz.prog.types.size → Tryz.prog.underlying t = some (.slice e) → 0 < Tryz.prog.cellsOf e := slices_full_of Tryz.prog (by kernel_rfl)

/-- what the row lists -/
def lay : List (String × DataW Unit) := [("math/bits.deBruijn32tab", Rows.laid_math_bits_deBruijn32tab), ("math/bits.deBruijn64tab", Rows.laid_math_bits_deBruijn64tab), ("internal/strconv.uint64pow10", Rows.laid_internal_strconv_uint64pow10), ("unicode/utf8.acceptRanges", Rows.laid_unicode_utf8_acceptRanges), ("unicode/utf8.first", Rows.laid_unicode_utf8_first)]

theorem tables {W : World} (h : laidMetH Tryz.prog lay W) : W.var? Tryz.prog "internal/strconv.uint64pow10" = some (numCells .u64 Lib.pow10Tab) := by
  rw [MakeChecks.laidMetH_plain _ _ _ (by kernel_rfl)] at h
  obtain ⟨ps, ⟨g0, t0, cs0, fuel0, p0, q0, hg0, ht0, hv0, hd0, r0, _⟩, _, _⟩ := h
  obtain ⟨g1, t1, cs1, fuel1, p1, q1, hg1, ht1, hv1, hd1, r1, _⟩ := r0
  obtain ⟨g2, t2, cs2, fuel2, p2, q2, hg2, ht2, hv2, hd2, r2, _⟩ := r1
  obtain ⟨g3, t3, cs3, fuel3, p3, q3, hg3, ht3, hv3, hd3, r3, _⟩ := r2
  obtain ⟨g4, t4, cs4, fuel4, p4, q4, hg4, ht4, hv4, hd4, r4, _⟩ := r3
  obtain rfl := Option.some.inj ((show Tryz.prog.globalNamed "internal/strconv.uint64pow10" = some 6 by kernel_rfl).symm.trans hg2)
  obtain rfl := Option.some.inj ((show (Tryz.prog.globals[6]?).map (·.type) = some 133 by kernel_rfl).symm.trans ht2)
  have e2 : cs2 = numCells .u64 Lib.pow10Tab := nums_of_trod (k := .u64) (l := Lib.pow10Tab) (p := p2) (by rw [show (DataW.agg (Lib.pow10Tab.map fun s => .lit (.int .u64 s)) : DataW Unit) = Rows.laid_internal_strconv_uint64pow10 by kernel_rfl]; exact hd2) Tryz.underlying133 Tryz.underlying63 (by kernel_rfl) (by kernel_rfl)
  rw [e2] at hv2
  exact hv2

theorem grel {W : World} {S : Nat → Prop} (h0 : W.var? Tryz.prog "internal/strconv.uint64pow10" = some (numCells .u64 Lib.pow10Tab)) (s0 : S 6) : GRel (GS [6]) S W := by
  intro g cs hg
  have hc : ([6] : List Nat).contains g = true := by
    cases h : ([6] : List Nat).contains g with
    | true => rfl
    | false => unfold GS at hg; rw [h] at hg; cases hg
  have hm := List.contains_iff_mem.1 hc
  simp only [List.mem_cons, List.mem_nil_iff, or_false] at hm
  obtain rfl := hm
  · obtain rfl := Option.some.inj ((show GS [6] 6 = some (Lib.pow10Tab.map (numV .u64)) by kernel_rfl).symm.trans hg)
    exact grel_nums (show Tryz.prog.globalNamed "internal/strconv.uint64pow10" = some 6 by kernel_rfl) h0 s0

theorem lifted (os : Os) (started : os.Started) (H : Type) (enc : TypeId × Value → H) :
    ReturnsInHanded {} Tryz.checked os 5 .any (fun w args => (Rows.fnCursorsSpec.pre enc Tryz.prog Tryz.f5 Rows.fnCursorsRow.domain false w args ∧ laidMetH Tryz.prog lay w) ∧ sizedMet enc Tryz.prog Tryz.f5 (OpenSpec.ofChange Rows.fnCursorsSpec) false w args) (Rows.fnCursorsSpec.post enc Tryz.prog Tryz.f5 false true false false) := by
  refine returnsInHanded_of_change_and (C := Tryz.checked) (X := fun w _ => laidMetH Tryz.prog lay w) (fun _ _ _ hh h => h.of_heap hh) own started (by kernel_rfl) Tryz.func5
    (ChangeSpec.witness_at (enc := enc) (C := Tryz.checked) (os := os) (X := fun w _ => laidMetH Tryz.prog lay w) false (World.laidAll Tryz.prog os lay) #[.slice none 0 0] 12 (World.laidAll_os _ _ _) (by kernel_rfl) (by kernel_rfl) (by kernel_rfl) (by kernel_rfl) (by kernel_rfl)
      (by rw [MakeChecks.laidMetH_plain _ _ _ (by kernel_rfl)]; exact laidMet_laidAll _ (by kernel_rfl) (by kernel_rfl))) ?_
  intro W base args ds gs before hval0 hW hcnd _ hL _
  have hval : ∀ (j : Nat) t v, Tryz.f5.params[j]? = some t → args[j]? = some v → Value.okWide Tryz.prog W .any base t v := hval0
  have hW' := hW
  obtain ⟨p, q, hA0, hV0, rfl, hfz, hnd⟩ := hW
  have hA : DataW.TrodAll enc Tryz.prog W 0 (fun _ => true) true Tryz.f5.params.toList args.toList ds p := hA0
  have hV : DataW.TrodVars enc Tryz.prog W (fun _ => true) [] gs q := hV0
  rw [Tryz.params5] at hA hval
  have hA1 := hA
  obtain ⟨v0, vs0, d0, ds0, p0, q0, hargs, rfl, rfl, h0, r0⟩ := trodAll_cons hA
  obtain ⟨rfl, rfl, rfl⟩ := trodAll_nil r0
  obtain rfl : args = #[v0] := by cases args; simp_all
  have hA2 : DataW.TrodAll enc Tryz.prog W 0 (fun _ => true) true [22] [v0] [d0] (p0 ++ []) := hA1
  obtain ⟨rfl, rfl⟩ := trodVars_none hV
  obtain ⟨fu0, hf0⟩ := h0
  obtain ⟨a0, k0, c0⟩ := (Reader.slice Tryz.underlying22 (Reader.u8 Tryz.underlying5) 1 (by kernel_rfl) (by decide) (fun _ => rfl)) enc W fu0 _ _ hf0
  obtain ⟨s0, l0, m0, rfl⟩ := okWide_slice Tryz.underlying22 (hval 0 22 v0 rfl rfl)
  have htab := tables hL
  have tv0 := htab
  have hlt : ∀ b, (fun b => blocksOf (p0 ++ []) b ∨ b = 6) b → b < W.heap.size := by
    intro b hb
    rcases hb with ⟨m, hm, rfl⟩ | rfl
    · exact DataW.TrodAll.lt hA1 m (by simpa using hm)
    · exact var_lt (show Tryz.prog.globalNamed "internal/strconv.uint64pow10" = some 6 by kernel_rfl) tv0
  obtain ⟨N, hN⟩ := plain a0 k0
  refine (AC.belowG (ml_FnCursors_ok N a0 hN) (fun b => blocksOf (p0 ++ []) b ∨ b = 6) hlt (grel tv0 (.inr rfl)) rfl fun i x hx => ?_).mono ?_
  · match i with
    | 0 =>
      simp only [List.getElem?_cons_succ, List.getElem?_cons_zero, Option.some.injEq] at hx
      subst hx
      exact argOne rfl (c0 _ fun p hp => (.inl ⟨p, by simp [hp], rfl⟩))
    | i + 1 => simp at hx
  · rintro e W' ⟨x, S', rfl, hx, hb⟩
    have hxt := hx.c_inv
    subst hxt
    exact ⟨_, rfl, Av.post_of_below (pa := (p0 ++ [])) (pv := []) hW' (fun _ _ _ => (trodAll_cons_mk (shut_bool Tryz.underlying4 _) trodAll_mk0))
      (fun sp hsp => args_kept kids full hb (by decide +kernel) hA2 (fun m hm => hsp m (by simpa using hm))) (fun _ _ => rfl) (by simp) hb (ok_one (by kernel_rfl) rfl (okWide_bool_mk Tryz.underlying4 _))⟩

theorem over : Rows.fnCursorsRow.holds Tryz.pinned (OpenSpec.ofChange Rows.fnCursorsSpec) :=
  OpenClaim.holds_of_wide 5 Tryz.f5 rfl rfl rfl rfl rfl rfl rfl ⟨rfl, rfl, rfl, rfl, rfl⟩ rfl rfl rfl rfl rfl (by kernel_rfl) Tryz.func5 (by kernel_rfl)
    (of_decide_eq_true (by kernel_rfl)) (by unfold Func.isWrapper; first | (rw [if_pos (by decide +kernel)]; kernel_rfl) | (rw [if_neg (by decide +kernel)]; exact ⟨rfl, rfl⟩))
    (fun os started H enc _ => lifted os started H enc)

/-- the statement -/
theorem proved : Rows.FnCursorsCardSaid :=
  Claim7.holds_tied_plain_at .later [] [.data, .data, .data, .data, .pinned] true (true, "f95b725d5af389ad7c9b43fe5bf631ba92eb2ea58c287a975654c722795a4a03") false
    over (fun _ h => by cases h) (by kernel_rfl) (fun _ h => by cases h) fnCursors_row_tie rfl ⟨rfl, rfl⟩ (by kernel_rfl) rfl
    (fun f fn hf hfn => by
      obtain rfl : f = 5 := Option.some.inj ((show Tryz.prog.funcNamed "loop.example/g01543/laws.FnCursors" = some 5 by kernel_rfl).symm.trans hf) |>.symm
      obtain rfl : fn = Tryz.f5 := (Option.some.inj (Tryz.func5.symm.trans hfn)).symm
      exact ⟨by kernel_rfl, fun j t ht => by
        rw [Tryz.params5] at ht
        have hm : t ∈ [22] := by simpa using Array.mem_of_getElem? ht
        have hall : ([22].all fun u => !Tryz.prog.wantsStandIn u) = true := by kernel_rfl
        exact (show Tryz.prog.wantsStandIn t = false by simpa using List.all_eq_true.1 hall t hm)⟩)
    (by kernel_rfl)
#print axioms proved
end Go.Proofs.YtjhcdnpbmppkkaaGreatDoor.fnCursors

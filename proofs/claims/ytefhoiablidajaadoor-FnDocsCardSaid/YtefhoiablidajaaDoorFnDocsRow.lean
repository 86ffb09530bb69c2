/-
  Docs: for all arguments the law returns true: the program's function returns what the reference's returns.
  The tables that the row lists are tied to the program's text.
-/
import Derived.Test.YtefhoiablidajaaDoorRows
import Derived.Test.YtefhoiablidajaaDoorCards
import Derived.Test.YtefhoiablidajaaDoorTie
import Derived.WalkKit
import Derived.ProofKit
import Derived.OpenShut
import Derived.Lay
import Derived.MakeChecks
import Derived.SevenTiedAt
import Derived.Test.YtefhoiablidajaaDoorDcW2
import Derived.Test.YtefhoiablidajaaDoorDcP7
import Derived.Test.YtefhoiablidajaaDoorCore7
namespace Go.Proofs.YtefhoiablidajaaDoor.fnDocs
open Go.ChangeShapes Go.WideShapes Go.ChangeAt Go.RowKit Go.Av Go.Proofs.Tryd
set_option linter.unusedVariables false
set_option linter.unusedSimpArgs false
set_option maxRecDepth 100000

theorem own : ownKnob Tryd.prog.godebug = none := by kernel_rfl
theorem laidOut : laidOutB Tryd.prog = true := by kernel_rfl

/-! ### the law -/
theorem tl_lines (s : List UInt8) : lines s = fl s :: (lines s).tail := by
  by_cases h : (fl s).length < s.length
  · rw [lines_more h]; rfl
  · rw [lines_one h]; rfl
/-- each line but the first is so much further in -/
theorem docs_l (N : Nat) (r6 : List SDNode × List SDNode) (p q x y z : List UInt8 × Bool) (r40 : Int) (r8 r20 : List SDNode) (l0 : List UInt8) (ls : List (List UInt8)) (n0 : Nat) (hn0 : Int.tmod r40 5 = (n0 : Int)) (hn : n0 ≤ 100)
    (hls : ls.length ≤ 2000000000) (hlen : ∀ l, l ∈ ls → l.length ≤ 2000000000)
    (hfin : (Option.bind (bif (p.1 == q.1) then bif x.2 then Option.bind (cat y.1 z.1) fun s200 => bif (x.1 == s200) then Option.bind (m_impl_GroupsIn N r20) fun r201 => bif (r201 == 0) then Option.bind (m_impl_GroupsIn N r8) fun r202 => Option.bind (m_spec_GroupsIn N r6.1) fun r203 => Option.bind (m_spec_GroupsIn N r6.2) fun r204 => bif (r202 == (IntKind.wrap .i64 (r203 + r204))) then Option.bind (m_spec_DocOk N r8) fun r205 => bif r205 then bif (((l0 :: ls.map (List.replicate n0 32 ++ ·)).length : Int) == 0) then some true else (Option.bind (ix (l0 :: ls.map (List.replicate n0 32 ++ ·)) 0) fun e206 => Option.bind (ix (l0 :: ls) 0) fun e207 => some (e206 == e207)) else (some false) else (some false) else (some false) else (some false) else (some false) else (some false)) fun y199 => some y199) = some true) :
    ∀ (m n i : Nat), i + m = ls.length → m < n → m_laws_FnDocs_l1 N n (r6, p, q, x, y, z, r40, r8, r20, l0 :: ls.map (List.replicate n0 32 ++ ·), l0 :: ls, ((i + 1 : Nat) : Int)) = some true := by
  intro m
  induction m with
  | zero =>
    intro n i hi hn
    obtain ⟨n, rfl⟩ : ∃ k, n = k + 1 := ⟨n - 1, by omega⟩
    rw [m_laws_FnDocs_l1, decide_eq_false (show ¬ ((i + 1 : Nat) : Int) < ((l0 :: ls.map (List.replicate n0 32 ++ ·)).length : Int) by simp; omega), cond_false]
    exact hfin
  | succ m ih =>
    intro n i hi hn
    obtain ⟨n, rfl⟩ : ∃ k, n = k + 1 := ⟨n - 1, by omega⟩
    have hlt : i < ls.length := by omega
    have hlm : (ls.map (List.replicate n0 32 ++ ·)).length = ls.length := by simp
    have h1 : ix (l0 :: ls.map (List.replicate n0 32 ++ ·)) ((i + 1 : Nat) : Int) = some (List.replicate n0 32 ++ ls[i]) := by
      rw [ix_nat (show i + 1 < (l0 :: ls.map (List.replicate n0 32 ++ ·)).length by simp; omega)]
      simp
    have h2 : ix (l0 :: ls) ((i + 1 : Nat) : Int) = some ls[i] := by
      rw [ix_nat (show i + 1 < (l0 :: ls).length by simp; omega)]
      simp
    have hl := hlen _ (List.getElem_mem hlt)
    have hcut := cut_nat (l := List.replicate n0 32 ++ ls[i]) (a := n0) (b := (List.replicate n0 32 ++ ls[i]).length) (by simp) (Nat.le_refl _)
    have hd : (((List.replicate n0 (32 : UInt8) ++ ls[i]).drop n0).take ((List.replicate n0 (32 : UInt8) ++ ls[i]).length - n0)) = ls[i] := by
      rw [List.drop_left' (by simp)]
      simp
    rw [hd] at hcut
    rw [m_laws_FnDocs_l1, decide_eq_true (show ((i + 1 : Nat) : Int) < ((l0 :: ls.map (List.replicate n0 32 ++ ·)).length : Int) by simp; omega), cond_true, h1, h2]
    have hw : IntKind.wrap .i64 ((ls[i].length : Int) + (n0 : Int)) = ((List.replicate n0 (32 : UInt8) ++ ls[i]).length : Int) := by
      rw [wrap64 (by omega) (by omega)]
      simp
      omega
    simp only [Option.bind_some, hw, bne_self_eq_false, cond_false, hn0, hcut, beq_self_eq_true, Bool.not_true]
    rw [wrap64 (by omega) (by omega), show ((i + 1 : Nat) : Int) + 1 = ((i + 1 + 1 : Nat) : Int) by omega]
    exact ih n (i + 1) (by omega) (by omega)
theorem count_sw (f t : Int) (h : t ≠ 5) (hf : f = 5) (a : List SDNode) : (a.map (swK f t)).countP (fun x => x.Kind == 5) = 0 := by
  rw [List.countP_eq_zero]
  intro x hx
  obtain ⟨y, _, rfl⟩ := List.mem_map.1 hx
  unfold swK
  subst hf
  cases hk : y.Kind == 5 with
  | true => simpa using h
  | false => simpa using hk
theorem count_sh (k : Int) (a : List SDNode) : (a.map (shD k)).countP (fun x => x.Kind == 5) = a.countP fun x => x.Kind == 5 := by
  rw [List.countP_map]
  rfl
theorem plain (b : List UInt8) (kb : (∀ z, z ∈ b → True) ∧ b.length ≤ maxLen) : ∃ N, m_laws_FnDocs N b = some true := by
  refine ⟨3000000000, ?_⟩
  obtain ⟨N, hN⟩ : ∃ N, N = 3000000000 := ⟨_, rfl⟩
  rw [← hN]
  unfold m_laws_FnDocs
  rw [big_is, Option.bind_some]
  by_cases hb : b.length ≤ 1048576
  · have hd : decide ((b.length : Int) > 1048576) = false := by simp; omega
    rw [hd, cond_false]
    obtain ⟨h, e1⟩ := new_dr b hb N (by omega)
    obtain ⟨A, i1, h1, e2, hA, a0, a1⟩ := any_dr b hb (N := N) (by omega) 0 h (by omega) (by omega)
    obtain ⟨B, i2, h2, e3, hB, b0, b1⟩ := any_dr b hb (N := N) (by omega) i1 h1 a0 a1
    have hdraw : m_spec_DrawJoined N b = some (A, B) := by
      unfold m_spec_DrawJoined
      rw [e1, Option.bind_some]
      dsimp only
      rw [e2, Option.bind_some]
      dsimp only
      rw [e3, Option.bind_some]
    obtain ⟨hAl, hAs⟩ := hA
    obtain ⟨hBl, hBs⟩ := hB
    have sA : ∀ x, x ∈ A → smDNode x := fun x hx => ⟨by have := hAs x hx; omega, by have := hAs x hx; omega⟩
    have sB : ∀ x, x ∈ B → smDNode x := fun x hx => ⟨by have := hBs x hx; omega, by have := hBs x hx; omega⟩
    rw [hdraw, Option.bind_some]
    dsimp only
    rw [dspecOk_is N A (by omega) (by omega) sA, dspecOk_is N B (by omega) (by omega) sB]
    have notok : docB A = false ∨ docB B = false → m_impl_Joined N A B = some [] := fun hh => by
      unfold m_impl_Joined
      rw [dimplOk_is N A (by omega) (by omega) sA, dimplOk_is N B (by omega) (by omega) sB]
      cases hda : docB A with
      | false => rfl
      | true =>
        rcases hh with hh | hh
        · rw [hda] at hh; cases hh
        · rw [hh]; rfl
    cases hda : docB A with
    | false => rw [notok (.inl hda)]; rfl
    | true =>
      cases hdb : docB B with
      | false => rw [notok (.inr hdb)]; rfl
      | true =>
        obtain ⟨⟨hA1, _⟩, _⟩ := docB_shape hda
        obtain ⟨⟨hB1, _⟩, _⟩ := docB_shape hdb
        rcases joined_is N A B (by omega) sA sB hAl hBl hda hdb with ⟨hj, hbig⟩ | ⟨ta, tb, ga, gb, hsum, hj, hdj⟩
        · rw [hj]
          simp only [Option.bind_some, Bool.not_true, cond_false, cond_true]
          rw [wrap64 (by omega) (by omega), decide_eq_true (show (A.length : Int) + B.length ≥ 4000 by omega)]
          rfl
        · have za : dz ta = A.length := by rw [← ga, dl_len]
          have hJ := dl_two ta tb
          rw [ga, gb, za] at hJ
          have hJl : (dl 0 ⟨6, 0, [], [ta, tb], 0⟩).length = A.length + B.length + 1 := by rw [hJ]; simp; omega
          rw [hj]
          obtain ⟨J, hJe⟩ : ∃ J, J = dl 0 (⟨6, 0, [], [ta, tb], 0⟩ : SDoc) := ⟨_, rfl⟩
          rw [← hJe] at hdj hJ hJl ⊢
          obtain ⟨c, hc⟩ : ∃ c : SDNode, c = ⟨6, 0, [], dE 0 [ta, tb]⟩ := ⟨_, rfl⟩
          rw [← hc] at hJ
          have sJ : ∀ x, x ∈ J → smDNode x := fun x hx => by
            rw [hJ] at hx
            rcases List.mem_append.1 hx with hx | hx
            · rcases List.mem_append.1 hx with hx | hx
              · exact sA x hx
              · obtain ⟨y, hy, rfl⟩ := List.mem_map.1 hx
                have := sB y hy
                exact ⟨this.1, by show (y.Kids.map _).length ≤ _; rw [List.length_map]; exact this.2⟩
            · rw [List.mem_singleton.1 hx, hc]
              exact ⟨by show (([] : List UInt8)).length ≤ _; simp, by show (dE 0 [ta, tb]).length ≤ _; rw [dE_len]; simp⟩
          have hJ0 : ((J.length : Int) == 0) = false := by rw [hJl]; simp; omega
          have hu := ungrouped_is N A (by omega) sA hAl hda
          have hdu := docB_sw 5 6 (.inl ⟨rfl, rfl⟩) hda
          have sU : ∀ x, x ∈ A.map (swK 5 6) → smDNode x := sw_small 5 6 A sA
          have tU : ∀ x, x ∈ A.map (swK 5 6) → x.Text.length ≤ 100 ∧ x.Kind ≠ 5 := fun x hx => by
            obtain ⟨y, hy, rfl⟩ := List.mem_map.1 hx
            have := (hAs y hy).1
            unfold swK
            cases hk : y.Kind == 5 with
            | true => exact ⟨by show y.Text.length ≤ _; omega, by show (6 : Int) ≠ 5; decide⟩
            | false => exact ⟨by show y.Text.length ≤ _; omega, by simpa using hk⟩
          obtain ⟨v0, w0, w1, w2⟩ := at_is b 0 (by omega) hb
          obtain ⟨v1, u0, u1, u2⟩ := at_is b 1 (by omega) hb
          have w0 : m_laws_at b 0 = some v0 := w0
          have u0 : m_laws_at b 1 = some v1 := u0
          have hw : 0 ≤ Int.tmod v0 50 ∧ Int.tmod v0 50 ≤ 10000 := by rw [Int.tmod_eq_emod_of_nonneg w1]; omega
          obtain ⟨n0, hn0⟩ := Int.eq_ofNat_of_zero_le (show 0 ≤ Int.tmod v1 5 by rw [Int.tmod_eq_emod_of_nonneg u1]; omega)
          have hn5 : n0 < 5 := by rw [Int.tmod_eq_emod_of_nonneg u1] at hn0; omega
          obtain ⟨tu, x1, x2⟩ := docOf_dl N (A.map (swK 5 6)) (by omega) hdu
          have hul : (A.map (swK 5 6)).length = A.length := by simp
          obtain ⟨rp, rpl⟩ := render_is N (by omega) _ tu (Int.tmod v0 50) hw sU (fun x hx => (tU x hx).1) hdu (fun x hx => (tU x hx).2) x1 x2
          obtain ⟨rq, _⟩ := render_is N (by omega) _ tu 10000 (by omega) sU (fun x hx => (tU x hx).1) hdu (fun x hx => (tU x hx).2) x1 x2
          obtain ⟨dp1, dp2⟩ := deeper_is N _ tu (Int.tmod v1 5) (by omega) sU (by omega) (by omega) hdu x1 x2
          obtain ⟨D, hDe⟩ : ∃ D, D = dl 0 (⟨4, Int.tmod v1 5, [], [tu], 0⟩ : SDoc) := ⟨_, rfl⟩
          rw [← hDe] at dp1 dp2
          have memD : ∀ x, x ∈ D → smDNode x ∧ x.Text.length ≤ 100 ∧ x.Kind ≠ 5 := fun x hx => by
            rw [hDe, dl, dls, dls, List.append_nil, x2] at hx
            rcases List.mem_append.1 hx with hx | hx
            · exact ⟨sU x hx, tU x hx⟩
            · rw [List.mem_singleton.1 hx]
              exact ⟨⟨by show (([] : List UInt8)).length ≤ _; simp, by show (dE 0 [tu]).length ≤ _; rw [dE_len]; simp⟩, by show (([] : List UInt8)).length ≤ _; simp, by show (4 : Int) ≠ 5; decide⟩
          obtain ⟨td, y1, y2⟩ := docOf_dl N D (by omega) dp2
          obtain ⟨rd1, rdl⟩ := render_is N (by omega) _ td (Int.tmod v0 50) hw (fun x hx => (memD x hx).1) (fun x hx => (memD x hx).2.1) dp2 (fun x hx => (memD x hx).2.2) y1 y2
          have hrd : rd 0 td = deepen n0 (rd 0 tu) := by
            rw [rd_dl td ⟨4, Int.tmod v1 5, [], [tu], 0⟩ 0 0 (by rw [y2, hDe])]
            show rds (0 + Int.tmod v1 5) [tu] = _
            rw [hn0, rds, rds, List.append_nil]
            exact rd_deepen n0 tu 0 (by omega) (nod_of hdu x2)
          have soft : ∀ L : List SDNode, L.length ≤ 4000 → (∀ x, x ∈ L → smDNode x) → docB L = true → ∃ z, m_impl_Softened N L = some (L.map (swK 3 2)) ∧ m_impl_FlatText N (L.map (swK 3 2)) = some (z, true) ∧ flL (L.map (swK 3 2)) = some z ∧ z.length ≤ 2000000 * 4000 := fun L hl hs hd => by
            obtain ⟨z, z1, z2, z3⟩ := flat_is N (L.map (swK 3 2)) (by omega) (sw_small 3 2 L hs) (docB_sw 3 2 (.inr ⟨rfl, rfl⟩) hd) fun x hx => by
              obtain ⟨y, hy, rfl⟩ := List.mem_map.1 hx
              unfold swK
              cases hk : y.Kind == 3 with
              | true => show (2 : Int) ≠ 3; decide
              | false => simpa using hk
            exact ⟨z, softened_is N L (by omega) hs hl hd, z1, z2, z3⟩
          obtain ⟨zj, j1, j2, j3, j4⟩ := soft J (by omega) sJ hdj
          obtain ⟨zx, k1, k2, k3, k4⟩ := soft A hAl sA hda
          obtain ⟨zy, l1, l2, l3, l4⟩ := soft B hBl sB hdb
          have hz : zj = zx ++ zy := by
            have e : J.map (swK 3 2) = A.map (swK 3 2) ++ (B.map (swK 3 2)).map (shD ((A.length : Nat) : Int)) ++ [c] := by
              have e6 : swK 3 2 c = c := by rw [hc]; rfl
              rw [hJ, List.map_append, List.map_append, List.map_map, List.map_map, List.map_singleton, e6]
              congr 2
              exact List.map_congr_left fun x _ => sw_sh 3 2 _ x
            have e7 : flL [c] = some [] := by rw [hc]; rfl
            rw [e, flL_app, flL_app, k3, flL_sh, l3, e7] at j3
            simpa using j3.symm
          have hps : (rd 0 tu ++ [46]).length + 1 ≤ 1000000000 := by simp; omega
          have m1 := linesOf_is N (rd 0 td) (by omega) (by omega)
          have m2 := linesOf_is N (rd 0 tu) (by omega) (by omega)
          have hdd : rd 0 td ++ [46] = deepen n0 (rd 0 tu ++ [46]) := by rw [hrd, deepen_app]; rfl
          rw [hdd, lines_deepen] at m1
          rw [tl_lines (rd 0 tu ++ [46])] at m2
          obtain ⟨l0, hl0⟩ : ∃ l, l = fl (rd 0 tu ++ [46]) := ⟨_, rfl⟩
          obtain ⟨ls, hls⟩ : ∃ l, l = (lines (rd 0 tu ++ [46])).tail := ⟨_, rfl⟩
          have hoff := lines_offs (rd 0 tu ++ [46])
          rw [tl_lines (rd 0 tu ++ [46]), ← hl0, ← hls, offs_cons] at hoff
          have hlsl : ls.length ≤ 2000000000 := by have := offs_len ls; omega
          have hlse : ∀ l, l ∈ ls → l.length ≤ 2000000000 := fun l hl => by
            have : l.length + 1 ≤ offs ls := by
              clear hls hoff m1 m2
              induction ls with
              | nil => cases hl
              | cons u us ih =>
                rw [offs_cons]
                rcases List.mem_cons.1 hl with rfl | hl
                · omega
                · have := ih (by simp at hlsl; omega) hl; omega
            omega
          rw [← hl0, ← hls] at m1 m2
          have hc1 : cat (rd 0 td) ([46] : List UInt8) = some (rd 0 td ++ [46]) := cat_some (by simp only [maxLen]; simp; omega)
          have hc2 : cat (rd 0 tu) ([46] : List UInt8) = some (rd 0 tu ++ [46]) := cat_some (by simp only [maxLen]; simp; omega)
          rw [← hdd] at m1
          simp only [Option.bind_some, Bool.not_true, cond_false, cond_true, hJ0, hu, w0, rp, rq, j1, j2, k1, k2, l1, l2, u0, dp1, rd1, hc1, hc2, m1, m2]
          have hne : (((l0 :: ls.map (List.replicate n0 32 ++ ·)).length : Int) != ((l0 :: ls).length : Int)) = false := by simp
          rw [hne]
          simp only [cond_false, Option.bind_some]
          refine docs_l N (A, B) _ _ _ _ _ v1 J _ l0 ls n0 hn0 (by omega) hlsl hlse ?_ ls.length N 0 (by omega) (by omega)
          have hcc : cat zx zy = some (zx ++ zy) := cat_some (by simp only [maxLen]; omega)
          have cg : (A.map (swK 5 6)).countP (fun x => x.Kind == 5) = 0 := count_sw 5 6 (by decide) rfl A
          have cj : J.countP (fun x => x.Kind == 5) = A.countP (fun x => x.Kind == 5) + B.countP fun x => x.Kind == 5 := by
            rw [hJ, List.countP_append, List.countP_append, count_sh, hc]
            simp
          have la : A.countP (fun x => x.Kind == 5) ≤ A.length := List.countP_le_length
          have lb : B.countP (fun x => x.Kind == 5) ≤ B.length := List.countP_le_length
          rw [beq_self_eq_true, hcc, groups_is N _ (by omega) (by omega), groups_is N J (by omega) (by omega), sgroups_is N A (by omega) (by omega), sgroups_is N B (by omega) (by omega), dspecOk_is N J (by omega) (by omega) sJ, hdj, cg, cj, hz]
          simp only [Option.bind_some, cond_true, beq_self_eq_true]
          rw [wrap64 (by omega) (by omega)]
          have e9 : (((A.countP (fun x => x.Kind == 5) + B.countP fun x => x.Kind == 5 : Nat) : Int) == ((A.countP fun x => x.Kind == 5 : Nat) : Int) + ((B.countP fun x => x.Kind == 5 : Nat) : Int)) = true := by simp
          rw [e9]
          have i0 : ix (l0 :: ls.map (List.replicate n0 32 ++ ·)) 0 = some l0 := rfl
          have i0' : ix (l0 :: ls) 0 = some l0 := rfl
          rw [i0, i0']
          have h0 : (((l0 :: ls.map (List.replicate n0 32 ++ ·)).length : Int) == 0) = false := by simp; omega
          rw [h0]
          simp
  · have hd : decide ((b.length : Int) > 1048576) = true := by simp; omega
    rw [hd]
    rfl



theorem kids : Go.Kids Tryd.prog (· < Tryd.prog.types.size) := kids_rows (by kernel_rfl) (by kernel_rfl)
theorem full : ∀ t e, t < Tryd.prog.types.size → Tryd.prog.underlying t = some (.slice e) → 0 < Tryd.prog.cellsOf e := slices_full_of Tryd.prog (by kernel_rfl)

/-- what the row lists -/
def lay : List (String × DataW Unit) := [("unicode/utf8.acceptRanges", Rows.laid_unicode_utf8_acceptRanges), ("unicode/utf8.first", Rows.laid_unicode_utf8_first)]

theorem lifted (os : Os) (started : os.Started) (H : Type) (enc : TypeId × Value → H) :
    ReturnsInHanded {} Tryd.checked os 3 .any (fun w args => (Rows.fnDocsSpec.pre enc Tryd.prog Tryd.f3 Rows.fnDocsRow.domain false w args ∧ laidMetH Tryd.prog lay w) ∧ sizedMet enc Tryd.prog Tryd.f3 (OpenSpec.ofChange Rows.fnDocsSpec) false w args) (Rows.fnDocsSpec.post enc Tryd.prog Tryd.f3 false true false false) := by
  refine returnsInHanded_of_change_and (C := Tryd.checked) (X := fun w _ => laidMetH Tryd.prog lay w) (fun _ _ _ hh h => h.of_heap hh) own started (by kernel_rfl) Tryd.func3
    (ChangeSpec.witness_at (enc := enc) (C := Tryd.checked) (os := os) (X := fun w _ => laidMetH Tryd.prog lay w) false (World.laidAll Tryd.prog os lay) #[.slice none 0 0] 12 (World.laidAll_os _ _ _) (by kernel_rfl) (by kernel_rfl) (by kernel_rfl) (by kernel_rfl) (by kernel_rfl)
      (by rw [MakeChecks.laidMetH_plain _ _ _ (by kernel_rfl)]; exact laidMet_laidAll _ (by kernel_rfl) (by kernel_rfl))) ?_
  intro W base args ds gs before hval0 hW hcnd _ hL _
  have hval : ∀ (j : Nat) t v, Tryd.f3.params[j]? = some t → args[j]? = some v → Value.okWide Tryd.prog W .any base t v := hval0
  have hW' := hW
  obtain ⟨p, q, hA0, hV0, rfl, hfz, hnd⟩ := hW
  have hA : DataW.TrodAll enc Tryd.prog W 0 (fun _ => true) true Tryd.f3.params.toList args.toList ds p := hA0
  have hV : DataW.TrodVars enc Tryd.prog W (fun _ => true) [] gs q := hV0
  rw [Tryd.params3] at hA hval
  have hA1 := hA
  obtain ⟨v0, vs0, d0, ds0, p0, q0, hargs, rfl, rfl, h0, r0⟩ := trodAll_cons hA
  obtain ⟨rfl, rfl, rfl⟩ := trodAll_nil r0
  obtain rfl : args = #[v0] := by cases args; simp_all
  have hA2 : DataW.TrodAll enc Tryd.prog W 0 (fun _ => true) true [22] [v0] [d0] (p0 ++ []) := hA1
  obtain ⟨rfl, rfl⟩ := trodVars_none hV
  obtain ⟨fu0, hf0⟩ := h0
  obtain ⟨a0, k0, c0⟩ := (Reader.slice Tryd.underlying22 (Reader.u8 Tryd.underlying5) 1 (by kernel_rfl) (by decide) (fun _ => rfl)) enc W fu0 _ _ hf0
  obtain ⟨s0, l0, m0, rfl⟩ := okWide_slice Tryd.underlying22 (hval 0 22 v0 rfl rfl)
  have hlt : ∀ b, (fun b => blocksOf (p0 ++ []) b) b → b < W.heap.size := by
    intro b hb
    obtain ⟨m, hm, rfl⟩ := hb
    · exact DataW.TrodAll.lt hA1 m (by simpa using hm)
  obtain ⟨N, hN⟩ := plain a0 k0
  refine (AC.belowG (m_laws_FnDocs_ok N a0 hN) (fun b => blocksOf (p0 ++ []) b) hlt (fun _ _ h => by simp [GS] at h) rfl fun i x hx => ?_).mono ?_
  · match i with
    | 0 =>
      simp only [List.getElem?_cons_succ, List.getElem?_cons_zero, Option.some.injEq] at hx
      subst hx
      exact argOne rfl (c0 _ fun p hp => ⟨p, by simp [hp], rfl⟩)
    | i + 1 => simp at hx
  · rintro e W' ⟨x, S', rfl, hx, hb⟩
    have hxt := hx.c_inv
    subst hxt
    exact ⟨_, rfl, Av.post_of_below (pa := (p0 ++ [])) (pv := []) hW' (fun _ _ _ => (trodAll_cons_mk (shut_bool Tryd.underlying4 _) trodAll_mk0))
      (fun sp hsp => args_kept kids full hb (by decide +kernel) hA2 (fun m hm => hsp m (by simpa using hm))) (fun _ _ => rfl) (by simp) hb (ok_one (by kernel_rfl) rfl (okWide_bool_mk Tryd.underlying4 _))⟩

theorem over : Rows.fnDocsRow.holds Tryd.pinned (OpenSpec.ofChange Rows.fnDocsSpec) :=
  OpenClaim.holds_of_wide 3 Tryd.f3 rfl rfl rfl rfl rfl rfl rfl ⟨rfl, rfl, rfl, rfl, rfl⟩ rfl rfl rfl rfl rfl (by kernel_rfl) Tryd.func3 (by kernel_rfl)
    (of_decide_eq_true (by kernel_rfl)) (by unfold Func.isWrapper; first | (rw [if_pos (by decide +kernel)]; kernel_rfl) | (rw [if_neg (by decide +kernel)]; exact ⟨rfl, rfl⟩))
    (fun os started H enc _ => lifted os started H enc)

/-- the statement -/
theorem proved : Rows.FnDocsCardSaid :=
  Claim7.holds_tied_plain_at .later [] [.data, .pinned] true (true, "758210c91c8274165fdc9bfcfaa40830a37d04cd59d13f0516088e5649606f65") false
    over (fun _ h => by cases h) (by kernel_rfl) (fun _ h => by cases h) fnDocs_row_tie rfl ⟨rfl, rfl⟩ (by kernel_rfl) rfl
    (fun f fn hf hfn => by
      obtain rfl : f = 3 := Option.some.inj ((show Tryd.prog.funcNamed "loop.example/g01543/laws.FnDocs" = some 3 by kernel_rfl).symm.trans hf) |>.symm
      obtain rfl : fn = Tryd.f3 := (Option.some.inj (Tryd.func3.symm.trans hfn)).symm
      exact ⟨by kernel_rfl, fun j t ht => by
        rw [Tryd.params3] at ht
        have hm : t ∈ [22] := by simpa using Array.mem_of_getElem? ht
        have hall : ([22].all fun u => !Tryd.prog.wantsStandIn u) = true := by kernel_rfl
        exact (show Tryd.prog.wantsStandIn t = false by simpa using List.all_eq_true.1 hall t hm)⟩)
    (by kernel_rfl)
#print axioms proved
end Go.Proofs.YtefhoiablidajaaDoor.fnDocs

/-
  Plain lemmas on the models, part 7.
-/
import Derived.Test.YtefhoiablidajaaDoorDcP6
namespace Go.Proofs.Tryd
open Go.Av
set_option maxRecDepth 100000
set_option linter.unusedSimpArgs false
set_option linter.unusedVariables false

/-! ### a new cursor -/
section
set_option linter.unusedSectionVars false
variable (b : List UInt8) (hb : b.length ≤ 1048576) (N : Nat) (hN : 2100000 ≤ N)
include hb hN
omit hN in
theorem new_l : ∀ (n j : Nat) (h : Int), b.length - j < n → j ≤ b.length → ∃ r, m_spec_l1New_l1 N n (b, h, (j : Int)) = some (b, 0, r) := by
  intro n
  induction n with
  | zero => intro j h hn; omega
  | succ n ih =>
    intro j h hn hj
    rw [m_spec_l1New_l1]
    by_cases hlt : j < b.length
    · have e : ix b (j : Int) = some b[j] := ix_nat hlt
      simp only [lt_true hlt, cond_true, Option.bind_some]
      cases decide ((j : Int) < 4000) with
      | true =>
        rw [cond_true, e, Option.bind_some, wrap64 (n := (j : Int) + 1) (by omega) (by omega), show (j : Int) + 1 = ((j + 1 : Nat) : Int) by omega]
        exact ih (j + 1) _ (by omega) (by omega)
      | false => exact ⟨_, rfl⟩
    · simp only [lt_false hlt, cond_false, Option.bind_some]
      exact ⟨_, rfl⟩
theorem new_dr : ∃ h, m_spec_l1New N b = some (b, 0, h) := new_l b hb N N 0 _ (by omega) (by omega)
end

theorem at_is (x : List UInt8) (i : Nat) (hi : i ≤ 1000) (hx : x.length ≤ 1048576) : ∃ v : Int, m_laws_at x (i : Int) = some v ∧ 0 ≤ v ∧ v < 256 := by
  unfold m_laws_at
  by_cases h : i < x.length
  · have hb := UInt8.toNat_lt x[i]
    rw [lt_true h, cond_true, ix_nat h, Option.bind_some, wrap64 (by omega) (by omega)]
    exact ⟨_, rfl, by omega, by omega⟩
  · rw [lt_false h, cond_false, wrap64 (n := (i : Int) * 37) (by omega) (by omega), wrap64 (n := (x.length : Int) * 11) (by omega) (by omega), wrap64 (by omega) (by omega), Int.tmod_eq_emod_of_nonneg (by omega)]
    exact ⟨_, rfl, by omega, by omega⟩
theorem big_is (x : List UInt8) : m_laws_big x = some (decide ((x.length : Int) > 1048576)) := rfl

/-! ### the law -/
theorem tl_lines (s : List UInt8) : lines s = fl s :: (lines s).tail := by
  by_cases h : (fl s).length < s.length
  · rw [lines_more h]; rfl
  · rw [lines_one h]; rfl
/-- each line but the first is so much further in -/
theorem docs_l (N : Nat) (r6 : List SDNode × List SDNode) (p q x y z : List UInt8 × Bool) (r40 : Int) (r8 r20 : List SDNode) (l0 : List UInt8) (ls : List (List UInt8)) (n0 : Nat) (hn0 : Int.tmod r40 5 = (n0 : Int)) (hn : n0 ≤ 100)
    (hls : ls.length ≤ 2000000000) (hlen : ∀ l, l ∈ ls → l.length ≤ 2000000000)
    (hfin : (Option.bind (bif (p.1 == q.1) then bif x.2 then Option.bind (cat y.1 z.1) fun s200 => bif (x.1 == s200) then Option.bind (m_impl_GroupsIn N r20) fun r201 => bif (r201 == 0) then Option.bind (m_impl_GroupsIn N r8) fun r202 => Option.bind (m_spec_GroupsIn N r6.1) fun r203 => Option.bind (m_spec_GroupsIn N r6.2) fun r204 => bif (r202 == (IntKind.wrap .i64 (r203 + r204))) then Option.bind (m_spec_DocOk N r8) fun r205 => bif r205 then bif (((l0 :: ls.map (List.replicate n0 32 ++ ·)).length : Int) == 0) then some true else (Option.bind (ix (l0 :: ls.map (List.replicate n0 32 ++ ·)) 0) fun e206 => Option.bind (ix (l0 :: ls) 0) fun e207 => some (e206 == e207)) else (some false) else (some false) else (some false) else (some false) else (some false) else (some false)) fun y199 => some y199) = some true) :
    ∀ (m n i : Nat), i + m = ls.length → m < n → m_laws_FnDocs_l1 N n (r6, p, q, x, y, z, r40, r8, r20, l0 :: ls.map (List.replicate n0 32 ++ ·), l0 :: ls, ((i + 1 : Nat) : Int)) = some true := by
  intro m
  induction m with
  | zero =>
    intro n i hi hn
    obtain ⟨n, rfl⟩ : ∃ k, n = k + 1 := ⟨n - 1, by omega⟩
    rw [m_laws_FnDocs_l1, decide_eq_false (show ¬ ((i + 1 : Nat) : Int) < ((l0 :: ls.map (List.replicate n0 32 ++ ·)).length : Int) by simp; omega), cond_false]
    exact hfin
  | succ m ih =>
    intro n i hi hn
    obtain ⟨n, rfl⟩ : ∃ k, n = k + 1 := ⟨n - 1, by omega⟩
    have hlt : i < ls.length := by omega
    have hlm : (ls.map (List.replicate n0 32 ++ ·)).length = ls.length := by simp
    have h1 : ix (l0 :: ls.map (List.replicate n0 32 ++ ·)) ((i + 1 : Nat) : Int) = some (List.replicate n0 32 ++ ls[i]) := by
      rw [ix_nat (show i + 1 < (l0 :: ls.map (List.replicate n0 32 ++ ·)).length by simp; omega)]
      simp
    have h2 : ix (l0 :: ls) ((i + 1 : Nat) : Int) = some ls[i] := by
      rw [ix_nat (show i + 1 < (l0 :: ls).length by simp; omega)]
      simp
    have hl := hlen _ (List.getElem_mem hlt)
    have hcut := cut_nat (l := List.replicate n0 32 ++ ls[i]) (a := n0) (b := (List.replicate n0 32 ++ ls[i]).length) (by simp) (Nat.le_refl _)
    have hd : (((List.replicate n0 (32 : UInt8) ++ ls[i]).drop n0).take ((List.replicate n0 (32 : UInt8) ++ ls[i]).length - n0)) = ls[i] := by
      rw [List.drop_left' (by simp)]
      simp
    rw [hd] at hcut
    rw [m_laws_FnDocs_l1, decide_eq_true (show ((i + 1 : Nat) : Int) < ((l0 :: ls.map (List.replicate n0 32 ++ ·)).length : Int) by simp; omega), cond_true, h1, h2]
    have hw : IntKind.wrap .i64 ((ls[i].length : Int) + (n0 : Int)) = ((List.replicate n0 (32 : UInt8) ++ ls[i]).length : Int) := by
      rw [wrap64 (by omega) (by omega)]
      simp
      omega
    simp only [Option.bind_some, hw, bne_self_eq_false, cond_false, hn0, hcut, beq_self_eq_true, Bool.not_true]
    rw [wrap64 (by omega) (by omega), show ((i + 1 : Nat) : Int) + 1 = ((i + 1 + 1 : Nat) : Int) by omega]
    exact ih n (i + 1) (by omega) (by omega)
theorem count_sw (f t : Int) (h : t ≠ 5) (hf : f = 5) (a : List SDNode) : (a.map (swK f t)).countP (fun x => x.Kind == 5) = 0 := by
  rw [List.countP_eq_zero]
  intro x hx
  obtain ⟨y, _, rfl⟩ := List.mem_map.1 hx
  unfold swK
  subst hf
  cases hk : y.Kind == 5 with
  | true => simpa using h
  | false => simpa using hk
theorem count_sh (k : Int) (a : List SDNode) : (a.map (shD k)).countP (fun x => x.Kind == 5) = a.countP fun x => x.Kind == 5 := by
  rw [List.countP_map]
  rfl
theorem plain (b : List UInt8) (kb : (∀ z, z ∈ b → True) ∧ b.length ≤ maxLen) : ∃ N, m_laws_FnDocs N b = some true := by
  refine ⟨3000000000, ?_⟩
  obtain ⟨N, hN⟩ : ∃ N, N = 3000000000 := ⟨_, rfl⟩
  rw [← hN]
  unfold m_laws_FnDocs
  rw [big_is, Option.bind_some]
  by_cases hb : b.length ≤ 1048576
  · have hd : decide ((b.length : Int) > 1048576) = false := by simp; omega
    rw [hd, cond_false]
    obtain ⟨h, e1⟩ := new_dr b hb N (by omega)
    obtain ⟨A, i1, h1, e2, hA, a0, a1⟩ := any_dr b hb (N := N) (by omega) 0 h (by omega) (by omega)
    obtain ⟨B, i2, h2, e3, hB, b0, b1⟩ := any_dr b hb (N := N) (by omega) i1 h1 a0 a1
    have hdraw : m_spec_DrawJoined N b = some (A, B) := by
      unfold m_spec_DrawJoined
      rw [e1, Option.bind_some]
      dsimp only
      rw [e2, Option.bind_some]
      dsimp only
      rw [e3, Option.bind_some]
    obtain ⟨hAl, hAs⟩ := hA
    obtain ⟨hBl, hBs⟩ := hB
    have sA : ∀ x, x ∈ A → smDNode x := fun x hx => ⟨by have := hAs x hx; omega, by have := hAs x hx; omega⟩
    have sB : ∀ x, x ∈ B → smDNode x := fun x hx => ⟨by have := hBs x hx; omega, by have := hBs x hx; omega⟩
    rw [hdraw, Option.bind_some]
    dsimp only
    rw [dspecOk_is N A (by omega) (by omega) sA, dspecOk_is N B (by omega) (by omega) sB]
    have notok : docB A = false ∨ docB B = false → m_impl_Joined N A B = some [] := fun hh => by
      unfold m_impl_Joined
      rw [dimplOk_is N A (by omega) (by omega) sA, dimplOk_is N B (by omega) (by omega) sB]
      cases hda : docB A with
      | false => rfl
      | true =>
        rcases hh with hh | hh
        · rw [hda] at hh; cases hh
        · rw [hh]; rfl
    cases hda : docB A with
    | false => rw [notok (.inl hda)]; rfl
    | true =>
      cases hdb : docB B with
      | false => rw [notok (.inr hdb)]; rfl
      | true =>
        obtain ⟨⟨hA1, _⟩, _⟩ := docB_shape hda
        obtain ⟨⟨hB1, _⟩, _⟩ := docB_shape hdb
        rcases joined_is N A B (by omega) sA sB hAl hBl hda hdb with ⟨hj, hbig⟩ | ⟨ta, tb, ga, gb, hsum, hj, hdj⟩
        · rw [hj]
          simp only [Option.bind_some, Bool.not_true, cond_false, cond_true]
          rw [wrap64 (by omega) (by omega), decide_eq_true (show (A.length : Int) + B.length ≥ 4000 by omega)]
          rfl
        · have za : dz ta = A.length := by rw [← ga, dl_len]
          have hJ := dl_two ta tb
          rw [ga, gb, za] at hJ
          have hJl : (dl 0 ⟨6, 0, [], [ta, tb], 0⟩).length = A.length + B.length + 1 := by rw [hJ]; simp; omega
          rw [hj]
          obtain ⟨J, hJe⟩ : ∃ J, J = dl 0 (⟨6, 0, [], [ta, tb], 0⟩ : SDoc) := ⟨_, rfl⟩
          rw [← hJe] at hdj hJ hJl ⊢
          obtain ⟨c, hc⟩ : ∃ c : SDNode, c = ⟨6, 0, [], dE 0 [ta, tb]⟩ := ⟨_, rfl⟩
          rw [← hc] at hJ
          have sJ : ∀ x, x ∈ J → smDNode x := fun x hx => by
            rw [hJ] at hx
            rcases List.mem_append.1 hx with hx | hx
            · rcases List.mem_append.1 hx with hx | hx
              · exact sA x hx
              · obtain ⟨y, hy, rfl⟩ := List.mem_map.1 hx
                have := sB y hy
                exact ⟨this.1, by show (y.Kids.map _).length ≤ _; rw [List.length_map]; exact this.2⟩
            · rw [List.mem_singleton.1 hx, hc]
              exact ⟨by show (([] : List UInt8)).length ≤ _; simp, by show (dE 0 [ta, tb]).length ≤ _; rw [dE_len]; simp⟩
          have hJ0 : ((J.length : Int) == 0) = false := by rw [hJl]; simp; omega
          have hu := ungrouped_is N A (by omega) sA hAl hda
          have hdu := docB_sw 5 6 (.inl ⟨rfl, rfl⟩) hda
          have sU : ∀ x, x ∈ A.map (swK 5 6) → smDNode x := sw_small 5 6 A sA
          have tU : ∀ x, x ∈ A.map (swK 5 6) → x.Text.length ≤ 100 ∧ x.Kind ≠ 5 := fun x hx => by
            obtain ⟨y, hy, rfl⟩ := List.mem_map.1 hx
            have := (hAs y hy).1
            unfold swK
            cases hk : y.Kind == 5 with
            | true => exact ⟨by show y.Text.length ≤ _; omega, by show (6 : Int) ≠ 5; decide⟩
            | false => exact ⟨by show y.Text.length ≤ _; omega, by simpa using hk⟩
          obtain ⟨v0, w0, w1, w2⟩ := at_is b 0 (by omega) hb
          obtain ⟨v1, u0, u1, u2⟩ := at_is b 1 (by omega) hb
          have w0 : m_laws_at b 0 = some v0 := w0
          have u0 : m_laws_at b 1 = some v1 := u0
          have hw : 0 ≤ Int.tmod v0 50 ∧ Int.tmod v0 50 ≤ 10000 := by rw [Int.tmod_eq_emod_of_nonneg w1]; omega
          obtain ⟨n0, hn0⟩ := Int.eq_ofNat_of_zero_le (show 0 ≤ Int.tmod v1 5 by rw [Int.tmod_eq_emod_of_nonneg u1]; omega)
          have hn5 : n0 < 5 := by rw [Int.tmod_eq_emod_of_nonneg u1] at hn0; omega
          obtain ⟨tu, x1, x2⟩ := docOf_dl N (A.map (swK 5 6)) (by omega) hdu
          have hul : (A.map (swK 5 6)).length = A.length := by simp
          obtain ⟨rp, rpl⟩ := render_is N (by omega) _ tu (Int.tmod v0 50) hw sU (fun x hx => (tU x hx).1) hdu (fun x hx => (tU x hx).2) x1 x2
          obtain ⟨rq, _⟩ := render_is N (by omega) _ tu 10000 (by omega) sU (fun x hx => (tU x hx).1) hdu (fun x hx => (tU x hx).2) x1 x2
          obtain ⟨dp1, dp2⟩ := deeper_is N _ tu (Int.tmod v1 5) (by omega) sU (by omega) (by omega) hdu x1 x2
          obtain ⟨D, hDe⟩ : ∃ D, D = dl 0 (⟨4, Int.tmod v1 5, [], [tu], 0⟩ : SDoc) := ⟨_, rfl⟩
          rw [← hDe] at dp1 dp2
          have memD : ∀ x, x ∈ D → smDNode x ∧ x.Text.length ≤ 100 ∧ x.Kind ≠ 5 := fun x hx => by
            rw [hDe, dl, dls, dls, List.append_nil, x2] at hx
            rcases List.mem_append.1 hx with hx | hx
            · exact ⟨sU x hx, tU x hx⟩
            · rw [List.mem_singleton.1 hx]
              exact ⟨⟨by show (([] : List UInt8)).length ≤ _; simp, by show (dE 0 [tu]).length ≤ _; rw [dE_len]; simp⟩, by show (([] : List UInt8)).length ≤ _; simp, by show (4 : Int) ≠ 5; decide⟩
          obtain ⟨td, y1, y2⟩ := docOf_dl N D (by omega) dp2
          obtain ⟨rd1, rdl⟩ := render_is N (by omega) _ td (Int.tmod v0 50) hw (fun x hx => (memD x hx).1) (fun x hx => (memD x hx).2.1) dp2 (fun x hx => (memD x hx).2.2) y1 y2
          have hrd : rd 0 td = deepen n0 (rd 0 tu) := by
            rw [rd_dl td ⟨4, Int.tmod v1 5, [], [tu], 0⟩ 0 0 (by rw [y2, hDe])]
            show rds (0 + Int.tmod v1 5) [tu] = _
            rw [hn0, rds, rds, List.append_nil]
            exact rd_deepen n0 tu 0 (by omega) (nod_of hdu x2)
          have soft : ∀ L : List SDNode, L.length ≤ 4000 → (∀ x, x ∈ L → smDNode x) → docB L = true → ∃ z, m_impl_Softened N L = some (L.map (swK 3 2)) ∧ m_impl_FlatText N (L.map (swK 3 2)) = some (z, true) ∧ flL (L.map (swK 3 2)) = some z ∧ z.length ≤ 2000000 * 4000 := fun L hl hs hd => by
            obtain ⟨z, z1, z2, z3⟩ := flat_is N (L.map (swK 3 2)) (by omega) (sw_small 3 2 L hs) (docB_sw 3 2 (.inr ⟨rfl, rfl⟩) hd) fun x hx => by
              obtain ⟨y, hy, rfl⟩ := List.mem_map.1 hx
              unfold swK
              cases hk : y.Kind == 3 with
              | true => show (2 : Int) ≠ 3; decide
              | false => simpa using hk
            exact ⟨z, softened_is N L (by omega) hs hl hd, z1, z2, z3⟩
          obtain ⟨zj, j1, j2, j3, j4⟩ := soft J (by omega) sJ hdj
          obtain ⟨zx, k1, k2, k3, k4⟩ := soft A hAl sA hda
          obtain ⟨zy, l1, l2, l3, l4⟩ := soft B hBl sB hdb
          have hz : zj = zx ++ zy := by
            have e : J.map (swK 3 2) = A.map (swK 3 2) ++ (B.map (swK 3 2)).map (shD ((A.length : Nat) : Int)) ++ [c] := by
              have e6 : swK 3 2 c = c := by rw [hc]; rfl
              rw [hJ, List.map_append, List.map_append, List.map_map, List.map_map, List.map_singleton, e6]
              congr 2
              exact List.map_congr_left fun x _ => sw_sh 3 2 _ x
            have e7 : flL [c] = some [] := by rw [hc]; rfl
            rw [e, flL_app, flL_app, k3, flL_sh, l3, e7] at j3
            simpa using j3.symm
          have hps : (rd 0 tu ++ [46]).length + 1 ≤ 1000000000 := by simp; omega
          have m1 := linesOf_is N (rd 0 td) (by omega) (by omega)
          have m2 := linesOf_is N (rd 0 tu) (by omega) (by omega)
          have hdd : rd 0 td ++ [46] = deepen n0 (rd 0 tu ++ [46]) := by rw [hrd, deepen_app]; rfl
          rw [hdd, lines_deepen] at m1
          rw [tl_lines (rd 0 tu ++ [46])] at m2
          obtain ⟨l0, hl0⟩ : ∃ l, l = fl (rd 0 tu ++ [46]) := ⟨_, rfl⟩
          obtain ⟨ls, hls⟩ : ∃ l, l = (lines (rd 0 tu ++ [46])).tail := ⟨_, rfl⟩
          have hoff := lines_offs (rd 0 tu ++ [46])
          rw [tl_lines (rd 0 tu ++ [46]), ← hl0, ← hls, offs_cons] at hoff
          have hlsl : ls.length ≤ 2000000000 := by have := offs_len ls; omega
          have hlse : ∀ l, l ∈ ls → l.length ≤ 2000000000 := fun l hl => by
            have : l.length + 1 ≤ offs ls := by
              clear hls hoff m1 m2
              induction ls with
              | nil => cases hl
              | cons u us ih =>
                rw [offs_cons]
                rcases List.mem_cons.1 hl with rfl | hl
                · omega
                · have := ih (by simp at hlsl; omega) hl; omega
            omega
          rw [← hl0, ← hls] at m1 m2
          have hc1 : cat (rd 0 td) ([46] : List UInt8) = some (rd 0 td ++ [46]) := cat_some (by simp only [maxLen]; simp; omega)
          have hc2 : cat (rd 0 tu) ([46] : List UInt8) = some (rd 0 tu ++ [46]) := cat_some (by simp only [maxLen]; simp; omega)
          rw [← hdd] at m1
          simp only [Option.bind_some, Bool.not_true, cond_false, cond_true, hJ0, hu, w0, rp, rq, j1, j2, k1, k2, l1, l2, u0, dp1, rd1, hc1, hc2, m1, m2]
          have hne : (((l0 :: ls.map (List.replicate n0 32 ++ ·)).length : Int) != ((l0 :: ls).length : Int)) = false := by simp
          rw [hne]
          simp only [cond_false, Option.bind_some]
          refine docs_l N (A, B) _ _ _ _ _ v1 J _ l0 ls n0 hn0 (by omega) hlsl hlse ?_ ls.length N 0 (by omega) (by omega)
          have hcc : cat zx zy = some (zx ++ zy) := cat_some (by simp only [maxLen]; omega)
          have cg : (A.map (swK 5 6)).countP (fun x => x.Kind == 5) = 0 := count_sw 5 6 (by decide) rfl A
          have cj : J.countP (fun x => x.Kind == 5) = A.countP (fun x => x.Kind == 5) + B.countP fun x => x.Kind == 5 := by
            rw [hJ, List.countP_append, List.countP_append, count_sh, hc]
            simp
          have la : A.countP (fun x => x.Kind == 5) ≤ A.length := List.countP_le_length
          have lb : B.countP (fun x => x.Kind == 5) ≤ B.length := List.countP_le_length
          rw [beq_self_eq_true, hcc, groups_is N _ (by omega) (by omega), groups_is N J (by omega) (by omega), sgroups_is N A (by omega) (by omega), sgroups_is N B (by omega) (by omega), dspecOk_is N J (by omega) (by omega) sJ, hdj, cg, cj, hz]
          simp only [Option.bind_some, cond_true, beq_self_eq_true]
          rw [wrap64 (by omega) (by omega)]
          have e9 : (((A.countP (fun x => x.Kind == 5) + B.countP fun x => x.Kind == 5 : Nat) : Int) == ((A.countP fun x => x.Kind == 5 : Nat) : Int) + ((B.countP fun x => x.Kind == 5 : Nat) : Int)) = true := by simp
          rw [e9]
          have i0 : ix (l0 :: ls.map (List.replicate n0 32 ++ ·)) 0 = some l0 := rfl
          have i0' : ix (l0 :: ls) 0 = some l0 := rfl
          rw [i0, i0']
          have h0 : (((l0 :: ls.map (List.replicate n0 32 ++ ·)).length : Int) == 0) = false := by simp; omega
          rw [h0]
          simp
  · have hd : decide ((b.length : Int) > 1048576) = true := by simp; omega
    rw [hd]
    rfl

end Go.Proofs.Tryd

/-
  Plain lemmas on the models, part 5.
-/
import Derived.Test.YtefhoiablidajaaDoorDcP4
namespace Go.Proofs.Tryd
open Go.Av
set_option maxRecDepth 100000
set_option linter.unusedSimpArgs false
set_option linter.unusedVariables false

/-! ### a document on one line -/
def pieceD (x : SDNode) : List UInt8 := bif x.Kind == 1 then x.Text else bif x.Kind == 2 then [32] else []
def flL : List SDNode → Option (List UInt8)
  | [] => some []
  | x :: xs => bif x.Kind == 3 then none else (flL xs).map (pieceD x ++ ·)
def finF : Option (List UInt8) → List UInt8 × Bool
  | some z => (z, true)
  | none => ([], false)
theorem flL_app : ∀ (a b : List SDNode), flL (a ++ b) = (flL a).bind fun x => (flL b).map (x ++ ·)
  | [], b => by simp [flL]
  | x :: a, b => by
    rw [List.cons_append, flL, flL, flL_app a b]
    cases x.Kind == 3
    · cases flL a <;> cases flL b <;> simp
    · rfl
def DX (d : SDoc) : Prop := d.text.length ≤ 2000000
/-! ### a document's text, where it has no forced line's end -/
def KD (d : SDoc) : Prop := d.kind ≠ 3 ∧ ∀ ids : List Int, ids.length = d.kids.length → docN ⟨d.kind, d.n, d.text, ids⟩ = true
mutual
def ftx : SDoc → List UInt8
  | ⟨k, _, x, ks, _⟩ => bif k == 1 then x else bif k == 2 then [32] else ftxs ks
def ftxs : List SDoc → List UInt8
  | [] => []
  | d :: ds => ftx d ++ ftxs ds
end
mutual
theorem dl_docN : ∀ (d : SDoc) (b : Nat), allD KD d → ∀ x, x ∈ dl b d → docN x = true
  | ⟨k, n, x, ks, g⟩, b, h, z, hz => by
    rw [allD] at h
    rw [dl] at hz
    rcases List.mem_append.1 hz with hz | hz
    · exact dls_docN ks b h.2 z hz
    · rw [List.mem_singleton.1 hz]; exact h.1.2 _ (dE_len ks b)
theorem dls_docN : ∀ (ds : List SDoc) (b : Nat), allDs KD ds → ∀ x, x ∈ dls b ds → docN x = true
  | [], b, _, z, hz => by rw [dls] at hz; cases hz
  | d :: ds, b, h, z, hz => by
    rw [allDs] at h
    rw [dls] at hz
    rcases List.mem_append.1 hz with hz | hz
    · exact dl_docN d b h.1 z hz
    · exact dls_docN ds _ h.2 z hz
end
theorem docB_dl (d : SDoc) (h : allD KD d) (hz : dz d ≤ 4000) : docB (dl 0 d) = true := by
  have hp := dz_pos d
  have hs := starts_dl d 0 [] [] rfl
  rw [List.append_nil, List.nil_append] at hs
  unfold docB
  rw [hs, dl_len]
  simp only [starts, drootAt, dsT_last, Bool.and_eq_true, decide_eq_true_eq, List.all_eq_true]
  exact ⟨⟨⟨hp, hz⟩, dl_docN d 0 h⟩, by simp⟩

/-- a leaf has no kids -/
theorem kd_leaf {k n : Int} {x : List UInt8} {ks : List SDoc} {g : Int} (h : KD ⟨k, n, x, ks, g⟩) (hk : k = 1 ∨ k = 2) : ks = [] := by
  have h2 := h.2 (ks.map fun _ => 0) (by simp)
  unfold docN at h2
  have key : ∀ (c : Bool) (y : Bool), (bif c then false else y) = true → y = true := fun c y h => by cases c <;> simp_all
  have h3 := key _ _ h2
  rcases hk with rfl | rfl
  · have h4 : (!x.contains 10 && (((ks.map fun _ => (0 : Int)).length : Int) == 0)) = true := h3
    simp only [Bool.and_eq_true, beq_iff_eq, List.length_map] at h4
    exact List.length_eq_zero_iff.1 (by omega)
  · have h4 : (((ks.map fun _ => (0 : Int)).length : Int) == 0) = true := h3
    simp only [beq_iff_eq, List.length_map] at h4
    exact List.length_eq_zero_iff.1 (by omega)

mutual
theorem flL_dl : ∀ (d : SDoc) (b : Nat), allD KD d → flL (dl b d) = some (ftx d)
  | ⟨k, n, x, ks, g⟩, b, h => by
    rw [allD] at h
    have h1 := flL_dls ks b h.2
    have h3 : (k == 3) = false := by simpa using h.1.1
    rw [dl, flL_app, h1, Option.bind_some, flL, flL, ftx]
    show Option.map _ (bif k == 3 then none else _) = _
    rw [h3]
    unfold pieceD
    cases e1 : k == 1 with
    | true =>
      have := kd_leaf h.1 (.inl (by simpa using e1))
      subst this
      simp [ftxs]
    | false =>
      cases e2 : k == 2 with
      | true =>
        have := kd_leaf h.1 (.inr (by simpa using e2))
        subst this
        simp [ftxs]
      | false => simp
theorem flL_dls : ∀ (ds : List SDoc) (b : Nat), allDs KD ds → flL (dls b ds) = some (ftxs ds)
  | [], b, _ => by rw [dls, ftxs]; rfl
  | d :: ds, b, h => by
    rw [allDs] at h
    rw [dls, flL_app, flL_dl d b h.1, flL_dls ds _ h.2, ftxs]
    rfl
end
mutual
theorem ftx_len : ∀ (d : SDoc), allD DX d → (ftx d).length ≤ 2000000 * dz d
  | ⟨k, n, x, ks, g⟩, h => by
    rw [allD] at h
    have h1 := ftxs_len ks h.2
    have h2 : x.length ≤ 2000000 := h.1
    rw [ftx, dz]
    cases k == 1 <;> cases k == 2 <;> simp only [cond_true, cond_false, List.length_cons, List.length_nil] <;> omega
theorem ftxs_len : ∀ (ds : List SDoc), allDs DX ds → (ftxs ds).length ≤ 2000000 * dzs ds
  | [], _ => by rw [ftxs]; simp
  | d :: ds, h => by
    rw [allDs] at h
    have h1 := ftx_len d h.1
    have h2 := ftxs_len ds h.2
    rw [ftxs, dzs, List.length_append]
    omega
end

/-- the program's text of a document -/
theorem flatI_l (t : SDoc) (G : Nat) : ∀ (ts : List SDoc) (j n : Nat) (acc : List UInt8), t.kids.drop j = ts → (∀ u, u ∈ ts → (scc4 G).m_impl_doc__flat u = some (ftx u, true)) → allDs DX ts → ts.length < n → acc.length + 2000000 * dzs ts ≤ 20000000000 → t.kids.length ≤ 100000 →
    m_impl_doc__flat_l1 G (scc4 G) n (t, (j : Int), acc) = some (acc ++ ftxs ts, true)
  | [], j, n, acc, hd, _, _, hn, _, hl => by
    obtain ⟨n, rfl⟩ : ∃ m, n = m + 1 := ⟨n - 1, by simp at hn; omega⟩
    have hj : ¬ j < t.kids.length := by
      intro h
      rw [drop_cons h] at hd
      cases hd
    rw [m_impl_doc__flat_l1]
    simp only [lt_false hj, cond_false]
    simp [ftxs]
  | u :: ts, j, n, acc, hd, hr, hx, hn, hb, hl => by
    simp only [List.length_cons] at hn
    obtain ⟨n, rfl⟩ : ∃ m, n = m + 1 := ⟨n - 1, by omega⟩
    have hj : j < t.kids.length := by
      cases Nat.lt_or_ge j t.kids.length with
      | inl h => exact h
      | inr h => rw [List.drop_of_length_le h] at hd; cases hd
    rw [drop_cons hj] at hd
    injection hd with hd1 hd2
    rw [allDs] at hx
    have hu := ftx_len u hx.1
    rw [dzs] at hb
    rw [m_impl_doc__flat_l1]
    simp only [lt_true hj, cond_true, ix_nat hj, hd1, Option.bind_some, hr u (by simp), Bool.not_true, cond_false]
    rw [app_some (by omega), Option.bind_some, step64 hj (by simp only [maxLen]; omega)]
    rw [flatI_l t G ts (j + 1) n (acc ++ ftx u) hd2 (fun v hv => hr v (by simp [hv])) hx.2 (by omega) (by rw [List.length_append]; omega) hl, ftxs]
    simp

theorem flatI_is : ∀ (d : SDoc), allD KD d → allD DX d → dz d ≤ 4000 → ∀ G : Nat, 2 * dz d + 5000 < G → m_impl_doc__flat G d = some (ftx d, true) := by
  intro d
  induction d using SDoc.ind with
  | h d ih =>
    intro hk hx hz G hG
    obtain ⟨k, n, x, ks, g⟩ := d
    rw [allD] at hk hx
    rw [dz] at hz hG
    obtain ⟨G, rfl⟩ : ∃ m, G = m + 1 := ⟨G - 1, by omega⟩
    have h3 : (k == 3) = false := by simpa using hk.1.1
    show m_impl_doc__flat_F G (scc4 G) ⟨k, n, x, ks, g⟩ = _
    unfold m_impl_doc__flat_F
    rw [ftx]
    show (bif k == 1 then some (x, true) else bif k == 2 then some ([32], true) else bif k == 3 then some ([], false) else _) = _
    rw [h3]
    have hmem : ∀ u, u ∈ ks → allD KD u ∧ allD DX u := by
      intro u hu
      have h1 := hk.2
      have h2 := hx.2
      clear hk hx ih hz hG
      induction ks with
      | nil => cases hu
      | cons v vs ih2 =>
        rw [allDs] at h1 h2
        rcases List.mem_cons.1 hu with rfl | hu
        · exact ⟨h1.1, h2.1⟩
        · exact ih2 hu h1.2 h2.2
    have hl := dzs_len ks
    have hll := flatI_l ⟨k, n, x, ks, g⟩ G ks 0 G [] rfl (fun u hu => by
      have hm := dzs_mem hu
      exact ih u hu (hmem u hu).1 (hmem u hu).2 (by omega) G (by omega)) hx.2 (by omega) (by simp; omega) (by show ks.length ≤ _; omega)
    cases k == 1
    · cases k == 2
      · exact hll
      · rfl
    · rfl

theorem flL_sh (k : Int) : ∀ a : List SDNode, flL (a.map (shD k)) = flL a
  | [] => rfl
  | x :: a => by rw [List.map_cons, flL, flL, flL_sh k a]; rfl
theorem sw_sh (f t k : Int) (x : SDNode) : swK f t (shD k x) = shD k (swK f t x) := by
  unfold swK shD
  cases x.Kind == f <;> rfl
/-- two documents behind each other -/
theorem dl_two (ta tb : SDoc) : dl 0 ⟨6, 0, [], [ta, tb], 0⟩ = dl 0 ta ++ (dl 0 tb).map (shD ((dz ta : Nat) : Int)) ++ [⟨6, 0, [], dE 0 [ta, tb]⟩] := by
  have := dl_sh tb 0 (dz ta)
  rw [dl, dls, dls, dls, this]
  simp
theorem nod_cat (ks : List SDoc) : NodD ⟨6, 0, [], ks, 0⟩ := fun ids _ => rfl
theorem joined_is (N : Nat) (a b : List SDNode) (hN : 2000001 < N) (ha : ∀ x, x ∈ a → smDNode x) (hb : ∀ x, x ∈ b → smDNode x) (hla : a.length ≤ 4000) (hlb : b.length ≤ 4000) (hda : docB a = true) (hdb : docB b = true) :
    m_impl_Joined N a b = some [] ∧ 4000 ≤ a.length + b.length ∨ ∃ ta tb, dl 0 ta = a ∧ dl 0 tb = b ∧ a.length + b.length + 1 ≤ 4000 ∧ m_impl_Joined N a b = some (dl 0 ⟨6, 0, [], [ta, tb], 0⟩) ∧ docB (dl 0 ⟨6, 0, [], [ta, tb], 0⟩) = true := by
  unfold m_impl_Joined
  rw [dimplOk_is N a (by omega) (by omega) ha, dimplOk_is N b (by omega) (by omega) hb, hda, hdb]
  simp only [Option.bind_some, Bool.not_true, cond_false]
  rw [wrap64 (n := (a.length : Int) + b.length) (by omega) (by omega), wrap64 (by omega) (by omega)]
  by_cases h : a.length + b.length + 1 ≤ 4000
  · right
    obtain ⟨ta, a1, a2⟩ := docOf_dl N a (by omega) hda
    obtain ⟨tb, b1, b2⟩ := docOf_dl N b (by omega) hdb
    have za : dz ta = a.length := by rw [← a2, dl_len]
    have zb : dz tb = b.length := by rw [← b2, dl_len]
    have hz : dz ⟨6, 0, [], [ta, tb], 0⟩ = a.length + b.length + 1 := by rw [dz, dzs, dzs, dzs, za, zb]; omega
    refine ⟨ta, tb, a2, b2, h, ?_, docB_nod _ (by rw [allD, allDs, allDs, allDs]; exact ⟨nod_cat _, nod_of hda a2, nod_of hdb b2, trivial⟩) (by omega)⟩
    rw [decide_eq_false (show ¬ (a.length : Int) + b.length + 1 > 4000 by omega), cond_false, a1, Option.bind_some, b1, Option.bind_some]
    unfold m_impl_cat
    rw [Option.bind_some, dlist_is N _ (by omega) (by omega), Option.bind_some]
  · left
    rw [decide_eq_true (show (a.length : Int) + b.length + 1 > 4000 by omega)]
    exact ⟨rfl, by omega⟩
theorem ungrouped_is (N : Nat) (a : List SDNode) (hN : 2000001 < N) (ha : ∀ x, x ∈ a → smDNode x) (hla : a.length ≤ 4000) (hda : docB a = true) : m_impl_Ungrouped N a = some (a.map (swK 5 6)) := by
  unfold m_impl_Ungrouped
  rw [dimplOk_is N a (by omega) (by omega) ha, hda, copyDoc_is N 5 6 a (by omega) (by omega) ha]
  rfl
theorem softened_is (N : Nat) (a : List SDNode) (hN : 2000001 < N) (ha : ∀ x, x ∈ a → smDNode x) (hla : a.length ≤ 4000) (hda : docB a = true) : m_impl_Softened N a = some (a.map (swK 3 2)) := by
  unfold m_impl_Softened
  rw [dimplOk_is N a (by omega) (by omega) ha, hda, copyDoc_is N 3 2 a (by omega) (by omega) ha]
  rfl
theorem deeper_is (N : Nat) (a : List SDNode) (t : SDoc) (n : Int) (hN : 2000001 < N) (ha : ∀ x, x ∈ a → smDNode x) (hla : a.length + 1 ≤ 4000) (hn : 0 ≤ n ∧ n ≤ 40) (hda : docB a = true) (ht : m_impl_docOf N a = some t) (htl : dl 0 t = a) :
    m_impl_Deeper N a n = some (dl 0 ⟨4, n, [], [t], 0⟩) ∧ docB (dl 0 ⟨4, n, [], [t], 0⟩) = true := by
  have hz : dz ⟨4, n, [], [t], 0⟩ = a.length + 1 := by rw [dz, dzs, dzs, ← dl_len t 0, htl]
  have e : (decide (n ≥ 0) && decide (n ≤ 40)) = true := by simp; omega
  have hnod : NodD ⟨4, n, [], [t], 0⟩ := fun ids hi => by
    have h1 : ids.length = 1 := hi
    unfold docN
    show (bif (true && !true) || false then false else (decide (n ≥ 0) && decide (n ≤ 40)) && ((ids.length : Int) == 1)) = true
    rw [e, h1]
    rfl
  refine ⟨?_, docB_nod _ (by rw [allD, allDs, allDs]; exact ⟨hnod, nod_of hda htl, trivial⟩) (by omega)⟩
  unfold m_impl_Deeper
  rw [dimplOk_is N a (by omega) (by omega) ha, hda, within_is, e, wrap64 (by omega) (by omega), decide_eq_false (show ¬ (a.length : Int) + 1 > 4000 by omega)]
  simp only [Option.bind_some, Bool.not_true, cond_false, ht]
  rw [dlist_is N _ (by omega) (by omega), Option.bind_some]
/-- the text of a document that has no forced line's end -/
theorem flat_is (N : Nat) (a : List SDNode) (hN : 2000001 < N) (ha : ∀ x, x ∈ a → smDNode x) (hda : docB a = true) (h3 : ∀ x, x ∈ a → x.Kind ≠ 3) : ∃ z, m_impl_FlatText N a = some (z, true) ∧ flL a = some z ∧ z.length ≤ 2000000 * 4000 := by
  obtain ⟨⟨h1, h2⟩, _⟩ := docB_shape hda
  obtain ⟨t, t1, t2⟩ := docOf_dl N a (by omega) hda
  have hz : dz t = a.length := by rw [← t2, dl_len]
  have hk : allD KD t := allD_dl KD (fun x => docN x = true ∧ x.Kind ≠ 3) (fun d b h => ⟨h.2, fun ids hi => by rw [← h.1]; exact docN_len (by rw [hi, dE_len])⟩) t 0 fun x hx => ⟨docB_all hda x (t2 ▸ hx), h3 x (t2 ▸ hx)⟩
  have hx : allD DX t := allD_dl DX (fun x => x.Text.length ≤ 2000000) (fun d b h => h) t 0 fun x hx => (ha x (t2 ▸ hx)).1
  have hf := flatI_is t hk hx (by omega) N (by omega)
  have hl := ftx_len t hx
  refine ⟨ftx t, ?_, ?_, ?_⟩
  · unfold m_impl_FlatText
    rw [dimplOk_is N a (by omega) (by omega) ha, hda]
    simp only [Option.bind_some, Bool.not_true, cond_false, t1, hf]
  · rw [← flL_dl t 0 hk, t2]
  · have : 2000000 * dz t ≤ 2000000 * 4000 := Nat.mul_le_mul_left _ (by omega)
    omega
/-- lines of a text that ends with a full stop -/
theorem lines_last : ∀ s : List UInt8, ∃ u z, lines (s ++ [46]) = u ++ [z] ∧ z ≠ [] := by
  intro s
  generalize hl : s.length = m
  induction m using Nat.strongRecOn generalizing s with
  | ind m ih =>
    by_cases h : (fl (s ++ [46])).length < (s ++ [46]).length
    · have hlt : (fl (s ++ [46])).length + 1 ≤ s.length := by
        rcases Nat.lt_or_ge (fl (s ++ [46])).length s.length with g | g
        · exact g
        · exfalso
          have he : (fl (s ++ [46])).length = s.length := by simp at h; omega
          have hno : s.contains 10 = false := by
            have ht := fl_take (s ++ [46])
            rw [he, List.take_left'] at ht
            · rw [ht]
              have : ∀ x : List UInt8, (fl x).contains 10 = false := fun x => by
                induction x with
                | nil => rfl
                | cons c x ih =>
                  by_cases hc : c = 10
                  · subst hc; rfl
                  · rw [fl_cons hc, List.contains_cons, ih, Bool.or_false]
                    simpa using fun e => hc e.symm
              exact this _
            · rfl
          have := fl_no s [46] hno
          rw [this] at he
          simp [fl] at he
      have hd : (s ++ [46]).drop ((fl (s ++ [46])).length + 1) = s.drop ((fl (s ++ [46])).length + 1) ++ [46] := List.drop_append_of_le_length hlt
      obtain ⟨u, z, h1, h2⟩ := ih _ (by rw [List.length_drop]; omega) (s.drop ((fl (s ++ [46])).length + 1)) rfl
      rw [lines_more h, hd, h1]
      exact ⟨_ :: u, z, rfl, h2⟩
    · refine ⟨[], fl (s ++ [46]), by rw [lines_one h]; rfl, ?_⟩
      rw [fl_all h]
      simp
theorem linesOf_is (N : Nat) (s : List UInt8) (hs : s.length + 1 ≤ 1000000000) (hN : 1000000001 < N) : m_impl_LinesOf N (s ++ [46]) = some (lines (s ++ [46])) := by
  unfold m_impl_LinesOf
  rw [split_is N _ (by simp; omega) hN, Option.bind_some]
  obtain ⟨u, z, h1, h2⟩ := lines_last s
  have hlen : (lines (s ++ [46])).length ≤ 1000000001 := by
    have := lines_offs (s ++ [46])
    have := offs_len (lines (s ++ [46]))
    simp at *
    omega
  rw [h1] at hlen ⊢
  have e : IntKind.wrap .i64 (((u ++ [z]).length : Int) - 1) = (u.length : Int) := by
    simp only [List.length_append, List.length_cons, List.length_nil] at hlen ⊢
    rw [wrap64 (by omega) (by omega)]
    omega
  have hx : ix (u ++ [z]) (u.length : Int) = some z := by
    rw [ix_nat (show u.length < (u ++ [z]).length by simp)]
    simp
  have hz : (z == []) = false := by simpa using h2
  rw [e, hx, Option.bind_some, hz]
  rfl

end Go.Proofs.Tryd

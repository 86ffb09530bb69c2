/-
  Plain lemmas on the models, part 4.
-/
import Derived.Test.YtefhoiablidajaaDoorDcP3
namespace Go.Proofs.Tryd
open Go.Av
set_option maxRecDepth 100000
set_option linter.unusedSimpArgs false
set_option linter.unusedVariables false

/-! ### laying out -/
theorem rep_is (i : Int) (h0 : 0 ≤ i) (h1 : i ≤ 1048576) : m_strings_Repeat i = some (List.replicate i.toNat 32) := by
  unfold m_strings_Repeat repO
  rw [if_pos ⟨by simp, h0, h1⟩]
  have := Go.Lib.repeatL_replicate 32 1 i.toNat
  rw [Nat.mul_one] at this
  exact congrArg some this
theorem line_is (i c : Int) (out : List UInt8) (st : List SPiece) (h0 : 0 ≤ i) (h1 : i ≤ 1000000) (ho : out.length ≤ 100000000000) : m_impl_writer__line i c out st = some (out ++ brk i, i) := by
  unfold m_impl_writer__line
  rw [app_some (by simp; omega), Option.bind_some, rep_is i h0 (by omega), Option.bind_some, app_some (by simp; omega), Option.bind_some]
  unfold brk
  simp
theorem push_l (N : Nat) (d : SDoc) (i : Int) (f : Bool) (c : Int) (out : List UInt8) : ∀ (m n : Nat) (st : List SPiece), m ≤ d.kids.length → m < n → st.length + m ≤ 100000 →
    m_impl_writer__push_l1 N c out n (i, f, d, (m : Int) - 1, st) = some (st ++ (d.kids.take m).reverse.map fun k => ⟨k, i, f⟩) := by
  intro m
  induction m with
  | zero =>
    intro n st _ hn _
    obtain ⟨n, rfl⟩ : ∃ k, n = k + 1 := ⟨n - 1, by omega⟩
    rw [m_impl_writer__push_l1, decide_eq_false (show ¬ ((0 : Nat) : Int) - 1 ≥ 0 by omega)]
    simp
  | succ m ih =>
    intro n st hm hn hs
    obtain ⟨n, rfl⟩ : ∃ k, n = k + 1 := ⟨n - 1, by omega⟩
    have e : ((m + 1 : Nat) : Int) - 1 = (m : Int) := by omega
    rw [m_impl_writer__push_l1, e, decide_eq_true (show (m : Int) ≥ 0 by omega), cond_true, ix_nat (show m < d.kids.length by omega), Option.bind_some, app_some (by simp; omega), Option.bind_some]
    have ht : d.kids.take (m + 1) = d.kids.take m ++ [d.kids[m]'(by omega)] := by rw [List.take_add_one, List.getElem?_eq_getElem (show m < d.kids.length by omega)]; rfl
    rw [wrap64 (by omega) (by omega), ih n _ (by omega) (by omega) (by simp; omega), ht, List.reverse_append, List.map_append, List.append_assoc]
    rfl
theorem push_is (N : Nat) (d : SDoc) (i : Int) (f : Bool) (c : Int) (out : List UInt8) (st : List SPiece) (hN : 100000 < N) (h : st.length + d.kids.length ≤ 100000) :
    m_impl_writer__push N d i f c out st = some (st ++ d.kids.reverse.map fun k => ⟨k, i, f⟩) := by
  unfold m_impl_writer__push
  rw [wrap64 (by omega) (by omega), push_l N d i f c out d.kids.length N st (by omega) (by omega) h, List.take_length]
/-- what is still to be laid out, the last one first -/
def outP : List SPiece → List UInt8
  | [] => []
  | p :: ps => outP ps ++ rd p.indent p.doc
def szP : List SPiece → Nat
  | [] => 0
  | p :: ps => szP ps + dz p.doc
theorem outP_app : ∀ (a b : List SPiece), outP (a ++ b) = outP b ++ outP a
  | [], b => by simp [outP]
  | p :: a, b => by rw [List.cons_append, outP, outP, outP_app a b, List.append_assoc]
theorem szP_app : ∀ (a b : List SPiece), szP (a ++ b) = szP a + szP b
  | [], b => by simp [szP]
  | p :: a, b => by rw [List.cons_append, szP, szP, szP_app a b]; omega
theorem szP_len : ∀ a : List SPiece, a.length ≤ szP a
  | [] => by simp [szP]
  | p :: a => by have := szP_len a; have := dz_pos p.doc; rw [szP, List.length_cons]; omega
theorem outP_kids (i : Int) (f : Bool) : ∀ ks : List SDoc, outP (ks.reverse.map fun k => ⟨k, i, f⟩) = rds i ks
  | [] => rfl
  | k :: ks => by
    rw [List.reverse_cons, List.map_append, outP_app, outP_kids i f ks, rds]
    simp [outP]
theorem szP_kids (i : Int) (f : Bool) : ∀ ks : List SDoc, szP (ks.reverse.map fun k => ⟨k, i, f⟩) = dzs ks
  | [] => rfl
  | k :: ks => by
    rw [List.reverse_cons, List.map_append, szP_app, szP_kids i f ks, dzs]
    simp [szP]
    omega
def GoodD (d : SDoc) : Prop := NodD d ∧ d.kind ≠ 5
def OkP (p : SPiece) : Prop := p.flat = false ∧ 0 ≤ p.indent ∧ p.indent + 40 * (dz p.doc : Int) ≤ 1000000 ∧ allD GoodD p.doc
theorem allDs_mem {P : SDoc → Prop} : ∀ {ks : List SDoc} {k : SDoc}, allDs P ks → k ∈ ks → allD P k
  | t :: ts, k, h, hk => by
    rw [allDs] at h
    rcases List.mem_cons.1 hk with rfl | hk
    · exact h.1
    · exact allDs_mem h.2 hk
theorem allD_imp {P Q : SDoc → Prop} (h : ∀ d, P d → Q d) : ∀ d, allD P d → allD Q d := by
  intro d
  induction d using SDoc.ind with
  | h d ih =>
    obtain ⟨k, n, x, ks, g⟩ := d
    rw [allD, allD]
    rintro ⟨h1, h2⟩
    refine ⟨h _ h1, ?_⟩
    have h3 : ∀ k, k ∈ ks → allD Q k := fun k hk => ih k hk (allDs_mem h2 hk)
    clear h1 h2 ih
    induction ks with
    | nil => rw [allDs]; trivial
    | cons t ts ih =>
      rw [allDs]
      exact ⟨h3 t (by simp), ih fun k hk => h3 k (by simp [hk])⟩
theorem lay_l (N : Nat) (hN : 100000 < N) (w : Int) (c0 : Int) (p4 : List SPiece) : ∀ (n : Nat) (st : List SPiece) (out : List UInt8) (c : Int), szP st < n → szP st ≤ 100000 → (∀ p, p ∈ st → OkP p) → out.length + (outP st).length ≤ 10000000000 →
    ∃ c', m_impl_writer__lay_l1 N c0 w n (p4, c, out, st) = some (out ++ outP st, c', []) := by
  intro n
  induction n with
  | zero => intro st out c h; omega
  | succ n ih =>
    intro st out c hn hz hok hlen
    rw [m_impl_writer__lay_l1]
    rcases List.eq_nil_or_concat st with rfl | ⟨st, p, rfl⟩
    · refine ⟨c, ?_⟩
      simp [outP]
    · obtain ⟨d, i, fl⟩ := p
      rw [List.concat_eq_append] at *
      obtain ⟨hf, h0, h1, hg⟩ := hok ⟨d, i, fl⟩ (by simp)
      dsimp only at hf h0 h1 hg
      subst hf
      have hokr : ∀ p, p ∈ st → OkP p := fun p hp => hok p (by simp [hp])
      rw [szP_app] at hn hz
      rw [outP_app] at hlen
      simp only [szP, outP, List.nil_append, Nat.zero_add] at hn hz hlen
      have hl := szP_len st
      have hp := dz_pos d
      have hll : (st ++ [(⟨d, i, false⟩ : SPiece)]).length = st.length + 1 := by simp
      have e : IntKind.wrap .i64 (((st ++ [(⟨d, i, false⟩ : SPiece)]).length : Int) - 1) = (st.length : Int) := by rw [hll, wrap64 (by omega) (by omega)]; omega
      rw [e, decide_eq_true (show (((st ++ [(⟨d, i, false⟩ : SPiece)]).length : Int) > 0) by omega), cond_true, ix_nat (show st.length < (st ++ [(⟨d, i, false⟩ : SPiece)]).length by omega)]
      have hget : (st ++ [(⟨d, i, false⟩ : SPiece)])[st.length]'(by omega) = ⟨d, i, false⟩ := by simp
      have hcut := cut_nat (l := st ++ [(⟨d, i, false⟩ : SPiece)]) (Nat.zero_le st.length) (by omega)
      simp only [List.drop_zero, Nat.sub_zero, List.take_left] at hcut
      have hcut' : cut (st ++ [(⟨d, i, false⟩ : SPiece)]) 0 (st.length : Int) = some st := hcut
      rw [hget, Option.bind_some, hcut', Option.bind_some, outP_app]
      simp only [outP, List.nil_append]
      obtain ⟨k, m, x, ks, g⟩ := d
      rw [allD] at hg
      obtain ⟨⟨hnd, h5⟩, hks⟩ := hg
      have h5 : (k == 5) = false := by simpa using h5
      rw [rd] at hlen ⊢
      rw [dz] at hn hz h1
      have hkl := dzs_len ks
      dsimp only
      have kids : ∀ j : Int, 0 ≤ j → j + 40 * (dzs ks : Int) ≤ 1000000 → out.length + (rds j ks ++ outP st).length ≤ 10000000000 →
          ∃ c', (Option.bind (m_impl_writer__push N ⟨k, m, x, ks, g⟩ j false c out st) fun r66 => m_impl_writer__lay_l1 N c0 w n (p4, c, out, r66)) = some (out ++ (rds j ks ++ outP st), c', []) := fun j hj0 hj1 hjl => by
        rw [push_is N ⟨k, m, x, ks, g⟩ j false c out st hN (by show st.length + ks.length ≤ _; omega), Option.bind_some]
        have he : outP (st ++ ks.reverse.map fun k => (⟨k, j, false⟩ : SPiece)) = rds j ks ++ outP st := by rw [outP_app, outP_kids]
        have hs : szP (st ++ ks.reverse.map fun k => (⟨k, j, false⟩ : SPiece)) = szP st + dzs ks := by rw [szP_app, szP_kids]
        rw [← he] at hjl ⊢
        refine ih _ out c (by rw [hs]; omega) (by rw [hs]; omega) (fun p hp => ?_) hjl
        rcases List.mem_append.1 hp with hp | hp
        · exact hokr p hp
        · obtain ⟨u, hu, rfl⟩ := List.mem_map.1 hp
          rw [List.mem_reverse] at hu
          have : dz u ≤ dzs ks := dzs_mem hu
          exact ⟨rfl, hj0, by show j + 40 * (dz u : Int) ≤ _; omega, allDs_mem hks hu⟩
      have brks : (i ≤ 1000000) → out.length + (brk i ++ outP st).length ≤ 10000000000 → ∃ c', (Option.bind (m_impl_writer__line i c out st) fun r62 => m_impl_writer__lay_l1 N c0 w n (p4, r62.2, r62.1, st)) = some (out ++ (brk i ++ outP st), c', []) := fun hi hb => by
        rw [line_is i c out st h0 hi (by omega), Option.bind_some]
        rw [← List.append_assoc]
        exact ih st (out ++ brk i) i (by omega) (by omega) hokr (by simp only [List.length_append] at hb ⊢; omega)
      cases h1k : k == 1 with
      | true =>
        rw [h1k] at hlen
        simp only [cond_true, List.length_append] at hlen ⊢
        rw [app_some (by omega), Option.bind_some, ← List.append_assoc]
        exact ih st (out ++ x) _ (by omega) (by omega) hokr (by rw [List.length_append]; omega)
      | false =>
        rw [h1k] at hlen
        cases h2k : k == 2 with
        | true =>
          rw [h2k] at hlen
          simp only [cond_true, cond_false, Bool.true_or] at hlen ⊢
          exact brks (by omega) (by omega)
        | false =>
          cases h3k : k == 3 with
          | true =>
            rw [h2k, h3k] at hlen
            simp only [cond_true, cond_false, Bool.or_true] at hlen ⊢
            exact brks (by omega) (by omega)
          | false =>
            rw [h2k, h3k] at hlen
            cases h4k : k == 4 with
            | true =>
              rw [h4k] at hlen
              have hm := nod_nest hnd h4k
              simp only [cond_true, cond_false, Bool.or_false] at hlen ⊢
              rw [wrap64 (by omega) (by omega)]
              exact kids (i + m) (by omega) (by omega) (by omega)
            | false =>
              rw [h4k] at hlen
              simp only [cond_true, cond_false, Bool.or_false, h5] at hlen ⊢
              exact kids i h0 (by omega) (by omega)
/-- how long what is laid out can be -/
theorem rd_len (T : Nat) : ∀ (d : SDoc) (i : Int), 0 ≤ i → allD (fun d => d.text.length ≤ T ∧ NodD d) d → (rd i d).length ≤ dz d * (T + 1 + i.toNat + 40 * dz d) := by
  intro d
  induction d using SDoc.ind with
  | h d ih =>
    intro i hi h
    obtain ⟨k, n, x, ks, g⟩ := d
    rw [allD] at h
    rw [rd, dz]
    have key : ∀ j : Int, 0 ≤ j → j ≤ i + 40 → ∀ us : List SDoc, (∀ u, u ∈ us → u ∈ ks) → (rds j us).length ≤ dzs us * (T + 1 + i.toNat + 40 * (dzs ks + 1)) := fun j hj0 hj1 us => by
      induction us with
      | nil => intro _; rw [rds, dzs]; simp
      | cons u us ih2 =>
        intro hu
        have h1 := ih u (hu u (by simp)) j hj0 (allDs_mem h.2 (hu u (by simp)))
        have h2 := ih2 fun v hv => hu v (by simp [hv])
        have h3 := dzs_mem (hu u (by simp))
        have hle : T + 1 + j.toNat + 40 * dz u ≤ T + 1 + i.toNat + 40 * (dzs ks + 1) := by omega
        have h4 := Nat.mul_le_mul_left (dz u) hle
        rw [rds, dzs, List.length_append, Nat.add_mul]
        omega
    have hk1 : (dzs ks + 1) * (T + 1 + i.toNat + 40 * (dzs ks + 1)) = dzs ks * (T + 1 + i.toNat + 40 * (dzs ks + 1)) + (T + 1 + i.toNat + 40 * (dzs ks + 1)) := by rw [Nat.add_mul, Nat.one_mul]
    rw [hk1]
    cases h1 : k == 1 with
    | true => have := h.1.1; simp only [cond_true] at this ⊢; omega
    | false =>
      cases h2 : k == 2 || k == 3 with
      | true =>
        simp only [cond_true, cond_false]
        unfold brk
        simp only [List.length_cons, List.length_replicate]
        omega
      | false =>
        cases h4 : k == 4 with
        | true =>
          have := nod_nest h.1.2 h4
          simp only [cond_true, cond_false]
          have := key (i + n) (by omega) (by omega) ks fun u hu => hu
          omega
        | false =>
          simp only [cond_false]
          have := key i hi (by omega) ks fun u hu => hu
          omega
/-- a document without groups is laid out alike at every width -/
theorem render_is (N : Nat) (hN : 2000001 < N) (a : List SDNode) (t : SDoc) (w : Int) (hw : 0 ≤ w ∧ w ≤ 10000) (hs : ∀ x, x ∈ a → smDNode x) (hT : ∀ x, x ∈ a → x.Text.length ≤ 100) (hd : docB a = true) (hg : ∀ x, x ∈ a → x.Kind ≠ 5) (ht : m_impl_docOf N a = some t) (htl : dl 0 t = a) :
    m_impl_Render N a w = some (rd 0 t, true) ∧ (rd 0 t).length ≤ 700000000 := by
  obtain ⟨⟨h1, h2⟩, _⟩ := docB_shape hd
  have hz : dz t = a.length := by rw [← htl, dl_len]
  have hnod := nod_of hd htl
  have hgood : allD GoodD t := allD_dl GoodD (fun x => docN x = true ∧ x.Kind ≠ 5) (fun d b h => ⟨fun ids hi => by rw [← h.1]; exact docN_len (by rw [hi, dE_len]), h.2⟩) t 0 fun x hx => ⟨docB_all hd x (htl ▸ hx), hg x (htl ▸ hx)⟩
  have htx : allD (fun d => d.text.length ≤ 100 ∧ NodD d) t := allD_dl _ (fun x => docN x = true ∧ x.Text.length ≤ 100) (fun d b h => ⟨h.2, fun ids hi => by rw [← h.1]; exact docN_len (by rw [hi, dE_len])⟩) t 0 fun x hx => ⟨docB_all hd x (htl ▸ hx), hT x (htl ▸ hx)⟩
  have hlen := rd_len 100 t 0 (by omega) htx
  have hb : dz t * (100 + 1 + (0 : Int).toNat + 40 * dz t) ≤ 4000 * 160101 := Nat.mul_le_mul (by omega) (by simp; omega)
  refine ⟨?_, by omega⟩
  unfold m_impl_Render
  rw [dimplOk_is N a (by omega) (by omega) hs, hd, within_is]
  have e : (decide (w ≥ 0) && decide (w ≤ 10000)) = true := by simp; omega
  simp only [Option.bind_some, Bool.not_true, cond_false, e, ht]
  unfold m_impl_writer__lay
  obtain ⟨c', hc⟩ := lay_l N (by omega) w 0 [] N [⟨t, 0, false⟩] [] 0 (by simp only [szP]; omega) (by simp only [szP]; omega) (fun p hp => by
    rw [List.mem_singleton.1 hp]
    exact ⟨rfl, by show (0 : Int) ≤ 0; omega, by show (0 : Int) + 40 * (dz t : Int) ≤ _; omega, hgood⟩) (by simp only [outP, List.nil_append, List.length_nil]; omega)
  rw [hc]
  simp [outP]

end Go.Proofs.Tryd

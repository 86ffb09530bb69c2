/-
  Plain lemmas on the models, part 6.
-/
import Derived.Test.YtdmegpnacdgeoaaGreatDoorSpQP5
namespace Go.Proofs.Tryz
open Go.Av
set_option maxRecDepth 100000
set_option linter.unusedSimpArgs false
set_option linter.unusedVariables false

def numN (n : Nat) : List Int := (List.range n).map fun (i : Nat) => (i : Int)
def nodeT (t : STree) : SNode := ⟨t.kind, t.op, t.text, t.other, numN t.kids.length⟩
theorem numN_len (n : Nat) : (numN n).length = n := by simp [numN]
theorem numN_succ (n : Nat) : numN (n + 1) = numN n ++ [(n : Int)] := by simp [numN, List.range_succ]

theorem node_l (N : Nat) (t : STree) (hl : t.kids.length ≤ 100000) : ∀ (n i : Nat), t.kids.length - i < n → i ≤ t.kids.length → mi_tree__node_l1 N n (t, (i : Int), numN i) = some (nodeT t) := by
  intro n
  induction n with
  | zero => intro i h; omega
  | succ n ih =>
    intro i hn hi
    rw [mi_tree__node_l1]
    by_cases h : i < t.kids.length
    · simp only [lt_true h, cond_true]
      rw [app_some (by rw [numN_len]; simp; omega), Option.bind_some, wrap64 (by omega) (by omega), ← numN_succ]
      exact ih (i + 1) (by omega) (by omega)
    · simp only [lt_false h, cond_false]
      have : i = t.kids.length := by omega
      subst this
      rfl

theorem node_is (N : Nat) (t : STree) (hl : t.kids.length ≤ 100000) (hN : t.kids.length < N) : mi_tree__node N t = some (nodeT t) :=
  node_l N t hl N 0 (by omega) (by omega)

theorem putS_is (l : List SToken) (b : Bool) (toks : List SToken) (sp : List SSpan) (h : toks.length + l.length ≤ 1000000) : mi_speller__put l b toks sp = some (toks ++ l) := by
  unfold mi_speller__put
  rw [app_some (by omega), Option.bind_some]

theorem sign_ex (k : Int) : ∃ s : SToken, mi_sign k = some s := by
  obtain ⟨x, _, h, _⟩ := spell_ex k
  unfold mi_sign
  rw [h]
  exact ⟨_, rfl⟩

def Same14 (p q : SPos) : Prop := p.Level = 14 ∧ q.Level = 14 ∧ p.Dollar = q.Dollar ∧ p.NoSign = q.NoSign
def RelP (p q : SPos) : Prop := p = q ∨ Same14 p q
def RelK (k : Int) (p q : SPos) : Prop := p = q ∨ k ≤ 9

theorem kinds {k : Int} (he : isE k = true) : k = 1 ∨ k = 2 ∨ k = 3 ∨ k = 4 ∨ k = 5 ∨ k = 6 ∨ k = 7 ∨ k = 8 ∨ k = 9 ∨ k = 10 ∨ k = 11 ∨ k = 12 ∨ k = 13 ∨ k = 14 ∨ k = 15 := by
  unfold isE at he; simp only [Bool.and_eq_true, decide_eq_true_eq] at he; omega

theorem fit_same {k o : Int} {p q : SPos} (he : isE k = true) (h : Same14 p q) : fitB k o p = fitB k o q ∧ (fitB k o p = true → k ≤ 9) := by
  obtain ⟨h1, h2, h3, h4⟩ := h
  have hp : posB p = posB q := by unfold posB; rw [h1, h2, h3]
  have ho := opLv_le o
  have low : lv k o < 14 → (k == 9) = false → ∀ r : SPos, r.Level = 14 → fitB k o r = false := fun hl h9 r hr => by
    unfold fitB
    rw [h9, hr]
    have : decide (lv k o ≥ 14) = false := by simp; omega
    rw [this]
    simp
  rcases kinds he with e | e | e | e | e | e | e | e | e | e | e | e | e | e | e <;> subst e
  case inr.inr.inr.inr.inr.inr.inr.inr.inr.inl =>
    have l : lv 10 o < 14 := by show (13 : Int) < 14; decide
    rw [low l rfl p h1, low l rfl q h2]; exact ⟨rfl, fun h => by cases h⟩
  case inr.inr.inr.inr.inr.inr.inr.inr.inr.inr.inl =>
    have l : lv 11 o < 14 := by show (11 : Int) < 14; decide
    rw [low l rfl p h1, low l rfl q h2]; exact ⟨rfl, fun h => by cases h⟩
  case inr.inr.inr.inr.inr.inr.inr.inr.inr.inr.inr.inl =>
    have l : lv 12 o < 14 := by show opLv o < 14; omega
    rw [low l rfl p h1, low l rfl q h2]; exact ⟨rfl, fun h => by cases h⟩
  case inr.inr.inr.inr.inr.inr.inr.inr.inr.inr.inr.inr.inl =>
    have l : lv 13 o < 14 := by show (5 : Int) < 14; decide
    rw [low l rfl p h1, low l rfl q h2]; exact ⟨rfl, fun h => by cases h⟩
  case inr.inr.inr.inr.inr.inr.inr.inr.inr.inr.inr.inr.inr.inl =>
    have l : lv 14 o < 14 := by show (2 : Int) < 14; decide
    rw [low l rfl p h1, low l rfl q h2]; exact ⟨rfl, fun h => by cases h⟩
  case inr.inr.inr.inr.inr.inr.inr.inr.inr.inr.inr.inr.inr.inr =>
    have l : lv 15 o < 14 := by show (1 : Int) < 14; decide
    rw [low l rfl p h1, low l rfl q h2]; exact ⟨rfl, fun h => by cases h⟩
  all_goals
    refine ⟨?_, fun _ => by decide⟩
    unfold fitB
    rw [hp, h1, h2, h3, h4]
    simp

theorem fit_rel {k o : Int} {p q : SPos} (he : isE k = true) (h : RelP p q) : fitB k o p = fitB k o q ∧ (fitB k o p = true → RelK k p q) := by
  rcases h with rfl | h
  · exact ⟨rfl, fun _ => .inl rfl⟩
  · obtain ⟨h1, h2⟩ := fit_same (o := o) he h
    exact ⟨h1, fun hf => .inr (h2 hf)⟩

theorem kid_rel {k o : Int} {n j : Nat} {p q : SPos} (he : isE k = true) (h : RelK k p q) : RelP (kidP k o n j p) (kidP k o n j q) := by
  rcases h with rfl | h9
  · exact .inl rfl
  · rcases kinds he with e | e | e | e | e | e | e | e | e | e | e | e | e | e | e <;> subst e <;> first
      | exact .inl rfl
      | exact .inr ⟨rfl, rfl, rfl, rfl⟩
      | (exfalso; omega)

theorem kid_pos {k o : Int} {n j : Nat} {p : SPos} (he : isE k = true) : posB (kidP k o n j p) = true := by
  have hs : ∀ o, posB ⟨(sideLv o).1, false, p.NoIn, p.NoGt, p.NoSign⟩ = true ∧ posB ⟨(sideLv o).2, false, p.NoIn, p.NoGt, o == 99⟩ = true := fun o => by
    unfold sideLv posB
    cases opLv o == 3 <;> cases opLv o == 4 <;> cases opLv o == 6 <;> cases opLv o == 7 <;> cases opLv o == 8 <;> cases opLv o == 9 <;> cases opLv o == 10 <;> exact ⟨rfl, rfl⟩
  rcases kinds he with e | e | e | e | e | e | e | e | e | e | e | e | e | e | e <;> subst e
  case inr.inr.inr.inr.inr.inr.inr.inr.inr.inr.inr.inl =>
    unfold kidP
    cases decide (j > 0)
    · exact (hs o).1
    · exact (hs o).2
  case inr.inr.inr.inr.inr.inr.inr.inr.inr.inr.inr.inr.inl =>
    unfold kidP
    cases decide (n > 1) <;> rfl
  all_goals (unfold kidP; first | rfl | (cases decide (j > 0) <;> rfl))

def Seg (out : List SSpan) (s e : Nat) (sp : List SSpan) : List SSpan := out.take s ++ sp ++ out.drop e

theorem seg_len {out : List SSpan} {s e : Nat} {sp : List SSpan} (h : s + sp.length = e) (he : e ≤ out.length) : (Seg out s e sp).length = out.length := by
  unfold Seg; simp; omega

theorem seg_nil (out : List SSpan) (s : Nat) : Seg out s s [] = out := by
  unfold Seg; simp

theorem seg_seg {out : List SSpan} {s e e' : Nat} {sp sp' : List SSpan} (h : s + sp.length = e) (he : e ≤ out.length) (h' : e + sp'.length = e') : Seg (Seg out s e sp) e e' sp' = Seg out s e' (sp ++ sp') := by
  have hl : (out.take s ++ sp).length = e := by simp; omega
  unfold Seg
  rw [List.take_append_of_le_length (by omega), List.take_of_length_le (by omega), List.drop_append, hl]
  rw [List.drop_eq_nil_of_le (by omega), List.nil_append, List.drop_drop, show e + (e' - e) = e' by omega]
  simp only [List.append_assoc]

theorem seg_get {out : List SSpan} {s e : Nat} {sp : List SSpan} (h : s + sp.length = e) (he : e ≤ out.length) (j : Nat) (hj : e ≤ j) : (Seg out s e sp)[j]? = out[j]? := by
  have hl : (out.take s ++ sp).length = e := by simp; omega
  unfold Seg
  rw [List.getElem?_append_right (by omega), hl, List.getElem?_drop]
  congr 1; omega

theorem seg_end {out : List SSpan} {s i : Nat} {sp : List SSpan} (h : s + sp.length = i) (hi : i < out.length) (x y : SSpan) : (Seg (out.set i x) s i sp).set i y = Seg out s (i + 1) (sp ++ [y]) := by
  have hl : ((out.set i x).take s ++ sp).length = i := by simp; omega
  unfold Seg
  rw [List.set_append_right _ _ (by omega), hl, Nat.sub_self]
  have h1 : (out.set i x).drop i = x :: out.drop (i + 1) := by
    rw [List.drop_eq_getElem_cons (by simpa using hi), List.drop_set_of_lt (by omega)]
    simp
  rw [h1, List.set_cons_zero, List.take_set_of_le (by omega)]
  simp only [List.append_assoc, List.cons_append, List.nil_append]

def Done (c : Nat) (s i : Nat) (n : Nat) (spn : List SSpan) (out : List SSpan) (x : Option (List SToken × List SSpan)) (y : Option (Int × List SSpan)) : Prop :=
  ∃ toks' sp, x = some (toks', spn ++ sp) ∧ s + sp.length = i + 1 ∧ y = some ((toks'.length : Int), Seg out s (i + 1) sp) ∧ n ≤ toks'.length ∧ toks'.length + c ≤ n + 32 * (i + 1 - s)

theorem bind_eta {α β : Type} (x : Option (α × β)) : (Option.bind x fun r => some (r.1, r.2)) = x := by
  cases x <;> rfl

theorem isTarget_is (t : STree) (j : Nat) : mi_isTarget (nodeT t) (j : Int) = some (((j : Int) == 0) && ((t.kind == 9) || ((t.kind == 10) || (t.kind == 15)))) := by
  unfold mi_isTarget
  show Option.bind (bif ((j : Int) == 0) then bif (t.kind == 9) then some true else (bif (t.kind == 10) then some true else (some (t.kind == 15))) else (some false)) (fun y1 => some y1) = _
  simp only [bo_or, bo_and, Option.bind_some]

theorem kid_is (M : Nat) (t kid : STree) (j : Nat) (p : SPos) (toks : List SToken) (spn : List SSpan) (hM : 1000 < M) (hl : t.kids.length ≤ 400) (hk : t.kids[j]? = some kid) (hp : posB p = true) (he : isE t.kind = true) (hlv : lv t.kind t.op ≠ 0) (h12 : t.kind = 12 → t.kids.length = 2) :
    (scc4 (M + 1)).mi_speller__kid t (j : Int) p false toks spn =
      bif (((j : Int) == 0) && ((t.kind == 9) || ((t.kind == 10) || (t.kind == 15)))) then (scc4 M).mi_speller__bare kid (kidP t.kind t.op t.kids.length j p) false toks spn
      else (scc4 M).mi_speller__expr kid (kidP t.kind t.op t.kids.length j p) false toks spn := by
  have hj : j < t.kids.length := (List.getElem?_eq_some_iff.1 hk).1
  have hkp : mi_KidPos (nodeT t) (j : Int) p = some (kidP t.kind t.op t.kids.length j p) := by
    have := kidPosI_is (nodeT t) j p (by show j < (numN _).length; rw [numN_len]; exact hj) (by show (numN _).length ≤ _; rw [numN_len]; omega) hp he hlv (fun e => by show (numN _).length = 2; rw [numN_len]; exact h12 e)
    rw [this]
    show some (kidP t.kind t.op (numN t.kids.length).length j p) = _
    rw [numN_len]
  show mi_speller__kid_F M (scc4 M) t (j : Int) p false toks spn = _
  unfold mi_speller__kid_F
  rw [node_is M t (by omega) (by omega), Option.bind_some, ix_get hk, Option.bind_some, hkp, Option.bind_some, isTarget_is, Option.bind_some]
  cases (((j : Int) == 0) && ((t.kind == 9) || ((t.kind == 10) || (t.kind == 15)))) <;> simp only [cond_true, cond_false, bind_eta]

theorem skidPos_is (n : SNode) (j : Nat) (p : SPos) (hk : j < n.Kids.length) (hl : n.Kids.length ≤ 400) (hp : posB p = true) (hlv : lv n.Kind n.Op ≠ 0) : ms_KidPos n (j : Int) p = some (kidP n.Kind n.Op n.Kids.length j p) :=
  kidPos_is n j p hk (by omega) hp hlv

def BigB (a : List SNode) (t : STree) : Prop := ∀ (s i M M' : Nat) (p q : SPos) (toks : List SToken) (spn out : List SSpan), TA a t s i → isE t.kind = true → RelK t.kind p q → posB p = true → posB q = true → out.length = a.length →
  toks.length + 32 * szT t ≤ 900000 → spn.length + szT t ≤ 900000 → 2000 + 8 * szT t ≤ M → 2000 + 8 * szT t ≤ M' →
  Done 3 s i toks.length spn out ((scc4 M).mi_speller__bare t p false toks spn) ((scc1 M').ms_l30Node (i : Int) q (toks.length : Int) a false out)
def BigE (a : List SNode) (t : STree) : Prop := ∀ (s i M M' : Nat) (p q : SPos) (toks : List SToken) (spn out : List SSpan), TA a t s i → isE t.kind = true → RelP p q → posB p = true → posB q = true → out.length = a.length →
  toks.length + 32 * szT t + 1 ≤ 900000 → spn.length + szT t ≤ 900000 → 2001 + 8 * szT t ≤ M → 2001 + 8 * szT t ≤ M' →
  Done 1 s i toks.length spn out ((scc4 M).mi_speller__expr t p false toks spn) ((scc1 M').ms_l30At (i : Int) q (toks.length : Int) a false out)

theorem bigE_of {a : List SNode} {t : STree} (h : BigB a t) (hl : t.kids.length ≤ 400) (hsz : 1 ≤ szT t) : BigE a t := by
  intro s i M M' p q toks spn out hT he hr hp hq ho ht hs hM hM'
  obtain ⟨M, rfl⟩ : ∃ m, M = m + 1 := ⟨M - 1, by omega⟩
  obtain ⟨M', rfl⟩ : ∃ m, M' = m + 1 := ⟨M' - 1, by omega⟩
  obtain ⟨n, hn, e1, e2, e3, e4, hka, hkl⟩ := hT.node
  obtain ⟨hf, hk⟩ := fit_rel (o := t.op) he hr
  obtain ⟨hsi, hszi, _⟩ := hT.part
  show Done 1 s i toks.length spn out (mi_speller__expr_F M (scc4 M) t p false toks spn) (ms_l30At_F M' (scc1 M') (i : Int) q (toks.length : Int) a false out)
  unfold mi_speller__expr_F ms_l30At_F
  rw [node_is M t (by omega) (by omega), Option.bind_some, fitsI_is, Option.bind_some, ix_get hn, Option.bind_some, fits_is, Option.bind_some, cond_false]
  show Done 1 s i toks.length spn out (mi_speller__expr_k1 M (scc4 M) false (t, p, toks, spn, !fitB t.kind t.op p)) _
  rw [← e1, ← e2, ← hf]
  cases hfit : fitB t.kind t.op p with
  | true =>
    obtain ⟨toks', sp, r1, r2, r3, r4, r5⟩ := h s i M M' p q toks spn out hT he (hk hfit) hp hq ho (by omega) hs (by omega) (by omega)
    unfold mi_speller__expr_k1
    simp only [Bool.not_true, Bool.not_false, cond_true, bind_eta]
    exact ⟨toks', sp, r1, r2, r3, r4, by omega⟩
  | false =>
    obtain ⟨s1, h1⟩ := sign_ex 32
    obtain ⟨s2, h2⟩ := sign_ex 33
    obtain ⟨toks', sp, r1, r2, r3, r4, r5⟩ := h s i M M' ⟨1, false, false, false, false⟩ ⟨1, false, false, false, false⟩ (toks ++ [s1]) spn out hT he (.inl rfl) rfl rfl ho (by simp; omega) hs (by omega) (by omega)
    have hw : IntKind.wrap .i64 ((toks.length : Int) + 1) = ((toks ++ [s1]).length : Int) := by rw [wrap64 (by omega) (by omega)]; simp
    have hl1 : (toks ++ [s1]).length = toks.length + 1 := by simp
    unfold mi_speller__expr_k1
    simp only [Bool.not_true, Bool.not_false, cond_true, cond_false, h1, h2, Option.bind_some, mi_Top, ms_Top, hw]
    rw [putS_is _ _ _ _ (by simp; omega), Option.bind_some, r1, Option.bind_some, r3, Option.bind_some]
    simp only []
    rw [putS_is _ _ _ _ (by simp; omega), Option.bind_some]
    refine ⟨toks' ++ [s2], sp, rfl, r2, ?_, by simp; omega, by simp; omega⟩
    rw [wrap64 (by omega) (by omega)]
    simp

theorem wrap_end {a : List SNode} {s i : Nat} {R1 : Rec4} {R2 : Rec1} {M M' : Nat} {toks toks' : List SToken} {spn sp out : List SSpan} {z : Int} (ho : out.length = a.length) (hi : i < a.length) (hsp : s + sp.length = i)
    (hs : spn.length + sp.length + 1 ≤ 900000) (h1 : toks.length ≤ toks'.length) (h2 : toks'.length + 3 ≤ toks.length + 32 * (i + 1 - s)) :
    Done 3 s i toks.length spn out (mi_speller__bare_k1 M R1 false (toks, toks', spn ++ sp)) (ms_l30Node_k1 M' R2 a false ((i : Int), (toks'.length : Int), Seg (out.set i ⟨(toks.length : Int), z⟩) s i sp)) := by
  have hl : (Seg (out.set i ⟨(toks.length : Int), z⟩) s i sp).length = out.length := by
    rw [seg_len hsp (by simp; omega)]; simp
  have hg : (Seg (out.set i ⟨(toks.length : Int), z⟩) s i sp)[i]? = some ⟨(toks.length : Int), z⟩ := by
    rw [seg_get hsp (by simp; omega) i (Nat.le_refl _), List.getElem?_set_self (by omega)]
  refine ⟨toks', sp ++ [⟨(toks.length : Int), (toks'.length : Int)⟩], ?_, by simp; omega, ?_, h1, h2⟩
  · unfold mi_speller__bare_k1
    simp only []
    rw [app_some (by simp; omega), Option.bind_some, List.append_assoc]
  · unfold ms_l30Node_k1
    simp only []
    rw [ix_get hg, Option.bind_some, upd_nat (by omega), Option.bind_some, seg_end hsp (by omega)]

theorem start_is (a : List SNode) (M' i : Nat) (q : SPos) (at0 : Int) (out : List SSpan) (n : SNode) (hn : a[i]? = some n) (ho : out.length = a.length) :
    ∃ z, (scc1 (M' + 1)).ms_l30Node (i : Int) q at0 a false out = (bif (n.Kind == 5) then ms_l30Node_k2 M' (scc1 M') a false ((i : Int), at0, n, q, out.set i ⟨at0, z⟩, (n.Kind == 5)) else (bif (n.Kind == 7) then ms_l30Node_k2 M' (scc1 M') a false ((i : Int), at0, n, q, out.set i ⟨at0, z⟩, (n.Kind == 7)) else (ms_l30Node_k2 M' (scc1 M') a false ((i : Int), at0, n, q, out.set i ⟨at0, z⟩, (n.Kind == 8))))) := by
  have hi : i < out.length := by rw [ho]; exact (List.getElem?_eq_some_iff.1 hn).1
  refine ⟨out[i].To, ?_⟩
  show ms_l30Node_F M' (scc1 M') (i : Int) q at0 a false out = _
  unfold ms_l30Node_F
  rw [ix_get hn, Option.bind_some, ix_nat hi, Option.bind_some, upd_nat hi, Option.bind_some]

theorem leaf_is {a : List SNode} {t : STree} (hk : t.kind = 1 ∨ t.kind = 2 ∨ t.kind = 3 ∨ t.kind = 4) (hkids : t.kids = []) : BigB a t := by
  intro s i M M' p q toks spn out hT he hr hp hq ho ht hs hM hM'
  obtain ⟨M, rfl⟩ : ∃ m, M = m + 1 := ⟨M - 1, by omega⟩
  obtain ⟨M', rfl⟩ : ∃ m, M' = m + 1 := ⟨M' - 1, by omega⟩
  obtain ⟨n, hn, e1, e2, e3, e4, hka, hkl⟩ := hT.node
  have hia : i < a.length := (List.getElem?_eq_some_iff.1 hn).1
  have hsz := szT_pos t
  rw [hkids, KA] at hka
  obtain ⟨_, rfl⟩ := hka
  obtain ⟨z, hz⟩ := start_is a M' s q (toks.length : Int) out n hn ho
  rw [hz]
  have key : ∀ tk : SToken, Done 3 s s toks.length spn out (Option.bind (mi_speller__put [tk] false toks spn) fun r28 => mi_speller__bare_k1 M (scc4 M) false (toks, r28, spn)) (ms_l30Node_k1 M' (scc1 M') a false ((s : Int), IntKind.wrap .i64 ((toks.length : Int) + 1), out.set s ⟨(toks.length : Int), z⟩)) := fun tk => by
    rw [putS_is _ _ _ _ (by simp; omega), Option.bind_some, wrap64 (by omega) (by omega)]
    have := wrap_end (R1 := scc4 M) (R2 := scc1 M') (M := M) (M' := M') (toks := toks) (toks' := toks ++ [tk]) (spn := spn) (sp := []) (out := out) (z := z) (s := s) (i := s) ho hia (by simp) (by simp; omega) (by simp) (by rw [List.length_append, List.length_singleton]; omega)
    rw [seg_nil, List.append_nil] at this
    simpa using this
  show Done 3 s s toks.length spn out (mi_speller__bare_F M (scc4 M) t p false toks spn) _
  clear hz hn hr he hs
  obtain ⟨nk, no, nx, ny, nks⟩ := n
  obtain ⟨tk, to, tx, ty, tks⟩ := t
  have e1 : tk = nk := e1
  subst e1
  rcases hk with e | e | e | e <;> (have e : tk = _ := e; subst e)
  · exact key ⟨6, tx, 0⟩
  · exact key ⟨3, tx, 0⟩
  · exact key ⟨4, tx, 0⟩
  · exact key ⟨5, tx, 0⟩

theorem un_is {a : List SNode} {t kid : STree} (hk : t.kind = 6 ∨ t.kind = 11) (hkids : t.kids = [kid]) (hE : BigE a kid) (hke : isE kid.kind = true) (hlv : lv t.kind t.op ≠ 0) : BigB a t := by
  intro s i M M' p q toks spn out hT he hr hp hq ho ht hs hM hM'
  obtain ⟨M, rfl⟩ : ∃ m, M = m + 3 := ⟨M - 3, by omega⟩
  obtain ⟨M', rfl⟩ : ∃ m, M' = m + 1 := ⟨M' - 1, by omega⟩
  obtain ⟨n, hn, e1, e2, e3, e4, hka, hkl⟩ := hT.node
  have hia : i < a.length := (List.getElem?_eq_some_iff.1 hn).1
  have hse := szT_eq t
  have hsz := szT_pos kid
  rw [hkids, szTs, szTs] at hse
  rw [hkids] at hka hkl
  simp only [KA] at hka
  obtain ⟨k, ks', hks, h1, h2, hta, rfl, h3⟩ := hka
  subst h3
  obtain ⟨_, hks2, _⟩ := hta.part
  obtain ⟨z, hz⟩ := start_is a M' (k + 1) q (toks.length : Int) out n hn ho
  rw [hz]
  have hl1 : t.kids.length = 1 := by rw [hkids]; rfl
  have hnl : n.Kids.length = 1 := by rw [← hkl]; rfl
  have hkp := kid_pos (k := t.kind) (o := t.op) (n := 1) (j := 0) (p := p) he
  have hkq := kid_pos (k := t.kind) (o := t.op) (n := 1) (j := 0) (p := q) he
  have hks0 : ix n.Kids 0 = some (k : Int) := by rw [hks]; rfl
  have hsp : ms_KidPos n 0 q = some (kidP t.kind t.op 1 0 q) := by
    have := skidPos_is n 0 q (by omega) (by omega) hq (by rw [← e1, ← e2]; exact hlv)
    rw [hnl, ← e1, ← e2] at this
    exact this
  have key : ∀ sg : SToken, Done 3 s (k + 1) toks.length spn out
      (Option.bind (Option.bind (mi_speller__put [sg] false toks spn) fun r5 => Option.bind ((scc4 (M + 1)).mi_speller__kid t 0 p false r5 spn) fun r7 => some (r7.1, r7.2)) fun r48 => mi_speller__bare_k1 (M + 2) (scc4 (M + 2)) false (toks, r48.1, r48.2))
      (Option.bind (ix n.Kids 0) fun e105 => Option.bind (ms_KidPos n 0 q) fun r106 => Option.bind ((scc1 M').ms_l30At e105 r106 (IntKind.wrap .i64 ((toks.length : Int) + 1)) a false (out.set (k + 1) ⟨(toks.length : Int), z⟩)) fun r107 => ms_l30Node_k1 M' (scc1 M') a false (((k + 1 : Nat) : Int), r107.1, r107.2)) := fun sg => by
    have hki := kid_is M t kid 0 p (toks ++ [sg]) spn (by omega) (by omega) (by rw [hkids]; rfl) hp he hlv (fun e => by rcases hk with h | h <;> omega)
    have htg : ((((0 : Nat) : Int) == 0) && ((t.kind == 9) || ((t.kind == 10) || (t.kind == 15)))) = false := by rcases hk with e | e <;> rw [e] <;> rfl
    rw [htg, cond_false, hl1] at hki
    have hl2 : (toks ++ [sg]).length = toks.length + 1 := by simp
    obtain ⟨toks', sp, r1, r2, r3, r4, r5⟩ := hE s k M M' (kidP t.kind t.op 1 0 p) (kidP t.kind t.op 1 0 q) (toks ++ [sg]) spn (out.set (k + 1) ⟨(toks.length : Int), z⟩) hta hke (kid_rel he hr) hkp hkq (by simp [ho]) (by omega) (by omega) (by omega) (by omega)
    rw [putS_is _ _ _ _ (by simp; omega), Option.bind_some, bind_eta]
    rw [show ((0 : Int)) = ((0 : Nat) : Int) by rfl] at hks0 hsp ⊢
    rw [hki, r1, Option.bind_some, hks0, Option.bind_some, hsp, Option.bind_some, wrap64 (by omega) (by omega), show (toks.length : Int) + 1 = ((toks ++ [sg]).length : Int) by rw [hl2]; omega, r3, Option.bind_some]
    exact wrap_end (toks' := toks') (sp := sp) (z := z) ho hia r2 (by omega) (by omega) (by omega)
  obtain ⟨g68, hg68⟩ := sign_ex 68
  obtain ⟨gop, hgop⟩ := sign_ex t.op
  have k1 := key g68
  have k2 := key gop
  clear hz hn hr hp hq hkp hkq hs key
  obtain ⟨nk, no, nx, ny, nks⟩ := n
  obtain ⟨tk, to, tx, ty, tks⟩ := t
  have e1 : tk = nk := e1
  subst e1
  rcases hk with e | e <;> (have e : tk = _ := e; subst e)
  · show Done 3 s (k + 1) toks.length spn out (Option.bind (Option.bind (mi_sign 68) fun r10 => Option.bind (mi_speller__put [r10] false toks spn) fun r11 => Option.bind ((scc4 (M + 1)).mi_speller__kid ⟨6, to, tx, ty, tks⟩ 0 p false r11 spn) fun r13 => some (r13.1, r13.2)) fun r48 => mi_speller__bare_k1 (M + 2) (scc4 (M + 2)) false (toks, r48.1, r48.2)) _
    rw [hg68, Option.bind_some]
    exact k1
  · show Done 3 s (k + 1) toks.length spn out (Option.bind (Option.bind (mi_sign to) fun r10 => Option.bind (mi_speller__put [r10] false toks spn) fun r11 => Option.bind ((scc4 (M + 1)).mi_speller__kid ⟨11, to, tx, ty, tks⟩ 0 p false r11 spn) fun r13 => some (r13.1, r13.2)) fun r48 => mi_speller__bare_k1 (M + 2) (scc4 (M + 2)) false (toks, r48.1, r48.2)) _
    have hgop : mi_sign to = some gop := hgop
    rw [hgop, Option.bind_some]
    exact k2

theorem pre_is {a : List SNode} {t kid : STree} (hk : t.kind = 9) (hkids : t.kids = [kid]) (hB : BigB a kid) (hkl' : isL kid.kind = true) : BigB a t := by
  intro s i M M' p q toks spn out hT he hr hp hq ho ht hs hM hM'
  obtain ⟨M, rfl⟩ : ∃ m, M = m + 3 := ⟨M - 3, by omega⟩
  obtain ⟨M', rfl⟩ : ∃ m, M' = m + 1 := ⟨M' - 1, by omega⟩
  obtain ⟨n, hn, e1, e2, e3, e4, hka, hkl⟩ := hT.node
  have hia : i < a.length := (List.getElem?_eq_some_iff.1 hn).1
  have hse := szT_eq t
  have hsz := szT_pos kid
  rw [hkids, szTs, szTs] at hse
  rw [hkids] at hka hkl
  simp only [KA] at hka
  obtain ⟨k, ks', hks, h1, h2, hta, rfl, h3⟩ := hka
  subst h3
  obtain ⟨_, hks2, _⟩ := hta.part
  obtain ⟨z, hz⟩ := start_is a M' (k + 1) q (toks.length : Int) out n hn ho
  rw [hz]
  have hl1 : t.kids.length = 1 := by rw [hkids]; rfl
  have hk9 : kid.kind ≤ 9 := by
    unfold isL at hkl'
    simp only [Bool.or_eq_true, beq_iff_eq] at hkl'
    omega
  have hks0 : ix n.Kids ((0 : Nat) : Int) = some (k : Int) := by rw [hks]; rfl
  have hlv : lv t.kind t.op ≠ 0 := by rw [hk]; show (13 : Int) ≠ 0; decide
  obtain ⟨sg, hsg⟩ := sign_ex t.op
  have key : Done 3 s (k + 1) toks.length spn out
      (Option.bind (Option.bind (mi_sign t.op) fun r4 => Option.bind (mi_speller__put [r4] false toks spn) fun r5 => Option.bind ((scc4 (M + 1)).mi_speller__kid t ((0 : Nat) : Int) p false r5 spn) fun r7 => some (r7.1, r7.2)) fun r48 => mi_speller__bare_k1 (M + 2) (scc4 (M + 2)) false (toks, r48.1, r48.2))
      (Option.bind (ix n.Kids ((0 : Nat) : Int)) fun e85 => Option.bind ((scc1 M').ms_l30Node e85 (⟨14, false, false, false, false⟩ : SPos) (IntKind.wrap .i64 ((toks.length : Int) + 1)) a false (out.set (k + 1) ⟨(toks.length : Int), z⟩)) fun r86 => ms_l30Node_k1 M' (scc1 M') a false (((k + 1 : Nat) : Int), r86.1, r86.2)) := by
    have hki := kid_is M t kid 0 p (toks ++ [sg]) spn (by omega) (by omega) (by rw [hkids]; rfl) hp he hlv (fun e => by omega)
    have htg : ((((0 : Nat) : Int) == 0) && ((t.kind == 9) || ((t.kind == 10) || (t.kind == 15)))) = true := by rw [hk]; rfl
    have hkP : kidP t.kind t.op 1 0 p = ⟨14, false, p.NoIn, p.NoGt, false⟩ := by rw [hk]; rfl
    rw [htg, cond_true, hl1, hkP] at hki
    have hl2 : (toks ++ [sg]).length = toks.length + 1 := by simp
    obtain ⟨toks', sp, r1, r2, r3, r4, r5⟩ := hB s k M M' ⟨14, false, p.NoIn, p.NoGt, false⟩ ⟨14, false, false, false, false⟩ (toks ++ [sg]) spn (out.set (k + 1) ⟨(toks.length : Int), z⟩) hta (isL_E hkl') (.inr hk9) rfl rfl (by simp [ho]) (by omega) (by omega) (by omega) (by omega)
    rw [hsg, Option.bind_some, putS_is _ _ _ _ (by simp; omega), Option.bind_some, bind_eta]
    rw [hki, r1, Option.bind_some, hks0, Option.bind_some, wrap64 (by omega) (by omega), show (toks.length : Int) + 1 = ((toks ++ [sg]).length : Int) by rw [hl2]; omega, r3, Option.bind_some]
    exact wrap_end (toks' := toks') (sp := sp) (z := z) ho hia r2 (by omega) (by omega) (by omega)
  clear hz hn hr hp hq hs hsg
  obtain ⟨nk, no, nx, ny, nks⟩ := n
  obtain ⟨tk, to, tx, ty, tks⟩ := t
  have e1 : tk = nk := e1
  subst e1
  have hk : tk = 9 := hk
  subst hk
  exact key

theorem post_is {a : List SNode} {t kid : STree} (hk : t.kind = 10) (hkids : t.kids = [kid]) (hB : BigB a kid) (hkl' : isL kid.kind = true) : BigB a t := by
  intro s i M M' p q toks spn out hT he hr hp hq ho ht hs hM hM'
  obtain ⟨M, rfl⟩ : ∃ m, M = m + 3 := ⟨M - 3, by omega⟩
  obtain ⟨M', rfl⟩ : ∃ m, M' = m + 1 := ⟨M' - 1, by omega⟩
  obtain ⟨n, hn, e1, e2, e3, e4, hka, hkl⟩ := hT.node
  have hia : i < a.length := (List.getElem?_eq_some_iff.1 hn).1
  have hse := szT_eq t
  have hsz := szT_pos kid
  rw [hkids, szTs, szTs] at hse
  rw [hkids] at hka hkl
  simp only [KA] at hka
  obtain ⟨k, ks', hks, h1, h2, hta, rfl, h3⟩ := hka
  subst h3
  obtain ⟨_, hks2, _⟩ := hta.part
  obtain ⟨z, hz⟩ := start_is a M' (k + 1) q (toks.length : Int) out n hn ho
  rw [hz]
  have hl1 : t.kids.length = 1 := by rw [hkids]; rfl
  have hk9 : kid.kind ≤ 9 := by
    unfold isL at hkl'
    simp only [Bool.or_eq_true, beq_iff_eq] at hkl'
    omega
  have hks0 : ix n.Kids ((0 : Nat) : Int) = some (k : Int) := by rw [hks]; rfl
  have hlv : lv t.kind t.op ≠ 0 := by rw [hk]; show (13 : Int) ≠ 0; decide
  obtain ⟨sg, hsg⟩ := sign_ex t.op
  have key : Done 3 s (k + 1) toks.length spn out
      (Option.bind (Option.bind ((scc4 (M + 1)).mi_speller__kid t ((0 : Nat) : Int) p false toks spn) fun r15 => Option.bind (mi_sign t.op) fun r18 => Option.bind (mi_speller__put [r18] false r15.1 r15.2) fun r19 => some (r19, r15.2)) fun r48 => mi_speller__bare_k1 (M + 2) (scc4 (M + 2)) false (toks, r48.1, r48.2))
      (Option.bind (ix n.Kids ((0 : Nat) : Int)) fun e89 => Option.bind ((scc1 M').ms_l30Node e89 (⟨14, false, false, false, false⟩ : SPos) (toks.length : Int) a false (out.set (k + 1) ⟨(toks.length : Int), z⟩)) fun r90 => ms_l30Node_k1 M' (scc1 M') a false (((k + 1 : Nat) : Int), IntKind.wrap .i64 (r90.1 + 1), r90.2)) := by
    have hki := kid_is M t kid 0 p toks spn (by omega) (by omega) (by rw [hkids]; rfl) hp he hlv (fun e => by omega)
    have htg : ((((0 : Nat) : Int) == 0) && ((t.kind == 9) || ((t.kind == 10) || (t.kind == 15)))) = true := by rw [hk]; rfl
    have hkP : kidP t.kind t.op 1 0 p = ⟨14, false, p.NoIn, p.NoGt, false⟩ := by rw [hk]; rfl
    rw [htg, cond_true, hl1, hkP] at hki
    obtain ⟨toks', sp, r1, r2, r3, r4, r5⟩ := hB s k M M' ⟨14, false, p.NoIn, p.NoGt, false⟩ ⟨14, false, false, false, false⟩ toks spn (out.set (k + 1) ⟨(toks.length : Int), z⟩) hta (isL_E hkl') (.inr hk9) rfl rfl (by simp [ho]) (by omega) (by omega) (by omega) (by omega)
    have hl2 : (toks' ++ [sg]).length = toks'.length + 1 := by simp
    rw [hki, r1, Option.bind_some, hsg, Option.bind_some]
    simp only []
    rw [putS_is _ _ _ _ (by simp; omega), Option.bind_some, Option.bind_some, hks0, Option.bind_some, r3, Option.bind_some]
    simp only []
    rw [wrap64 (by omega) (by omega), show (toks'.length : Int) + 1 = ((toks' ++ [sg]).length : Int) by rw [hl2]; omega]
    exact wrap_end (toks' := toks' ++ [sg]) (sp := sp) (z := z) ho hia r2 (by omega) (by omega) (by omega)
  clear hz hn hr hp hq hs hsg
  obtain ⟨nk, no, nx, ny, nks⟩ := n
  obtain ⟨tk, to, tx, ty, tks⟩ := t
  have e1 : tk = nk := e1
  subst e1
  have hk : tk = 10 := hk
  subst hk
  exact key

theorem bin_is {a : List SNode} {t x y : STree} (hk : t.kind = 12) (hkids : t.kids = [x, y]) (hX : BigE a x) (hY : BigE a y) (hxe : isE x.kind = true) (hye : isE y.kind = true) (hlv : lv t.kind t.op ≠ 0) : BigB a t := by
  intro s i M M' p q toks spn out hT he hr hp hq ho ht hs hM hM'
  obtain ⟨M, rfl⟩ : ∃ m, M = m + 3 := ⟨M - 3, by omega⟩
  obtain ⟨M', rfl⟩ : ∃ m, M' = m + 1 := ⟨M' - 1, by omega⟩
  obtain ⟨n, hn, e1, e2, e3, e4, hka, hkl⟩ := hT.node
  have hia : i < a.length := (List.getElem?_eq_some_iff.1 hn).1
  have hse := szT_eq t
  have hsx := szT_pos x
  have hsy := szT_pos y
  rw [hkids, szTs, szTs, szTs] at hse
  rw [hkids] at hka hkl
  simp only [KA] at hka
  obtain ⟨k, ks', hks, h1, h2, hta, k2, ks2, hks2', h4, h5, htb, rfl, h3⟩ := hka
  subst h3
  subst hks2'
  obtain ⟨hx1, hx2, _⟩ := hta.part
  obtain ⟨hy1, hy2, _⟩ := htb.part
  obtain ⟨z, hz⟩ := start_is a M' (k2 + 1) q (toks.length : Int) out n hn ho
  rw [hz]
  have hl1 : t.kids.length = 2 := by rw [hkids]; rfl
  have hnl : n.Kids.length = 2 := by rw [← hkl]; rfl
  have hpq : p = q := by
    rcases hr with h | h
    · exact h
    · omega
  subst hpq
  have hks0 : ix n.Kids ((0 : Nat) : Int) = some (k : Int) := by rw [hks]; rfl
  have hks1 : ix n.Kids ((1 : Nat) : Int) = some (k2 : Int) := by rw [hks]; rfl
  have hsp : ∀ j : Nat, j < 2 → ms_KidPos n (j : Int) p = some (kidP t.kind t.op 2 j p) := fun j hj => by
    have := skidPos_is n j p (by omega) (by omega) hq (by rw [← e1, ← e2]; exact hlv)
    rw [hnl, ← e1, ← e2] at this
    exact this
  have hkp : ∀ j, posB (kidP t.kind t.op 2 j p) = true := fun j => kid_pos he
  have htg : ∀ j : Nat, (((j : Int) == 0) && ((t.kind == 9) || ((t.kind == 10) || (t.kind == 15)))) = false := fun j => by rw [hk]; cases ((j : Int) == 0) <;> rfl
  obtain ⟨sg, hsg⟩ := sign_ex t.op
  have hkx := kid_is M t x 0 p toks spn (by omega) (by omega) (by rw [hkids]; rfl) hp he hlv (fun _ => hl1)
  rw [htg, cond_false, hl1] at hkx
  obtain ⟨tk1, sp1, r1, r2, r3, r4, r5⟩ := hX s k M M' (kidP t.kind t.op 2 0 p) (kidP t.kind t.op 2 0 p) toks spn (out.set (k2 + 1) ⟨(toks.length : Int), z⟩) hta hxe (.inl rfl) (hkp 0) (hkp 0) (by simp [ho]) (by omega) (by omega) (by omega) (by omega)
  have hlen1 : (Seg (out.set (k2 + 1) ⟨(toks.length : Int), z⟩) s (k + 1) sp1).length = a.length := by
    rw [seg_len r2 (by simp; omega)]; simp [ho]
  -- behind the sign
  have rest : ∀ tk2 : List SToken, tk1.length ≤ tk2.length → tk2.length ≤ tk1.length + 1 → Done 3 s (k2 + 1) toks.length spn out
      (Option.bind (Option.bind ((scc4 (M + 1)).mi_speller__kid t ((1 : Nat) : Int) p false tk2 (spn ++ sp1)) fun r56 => some (r56.1, r56.2)) fun r48 => mi_speller__bare_k1 (M + 2) (scc4 (M + 2)) false (toks, r48.1, r48.2))
      (Option.bind (ix n.Kids ((1 : Nat) : Int)) fun e144 => Option.bind (ms_KidPos n ((1 : Nat) : Int) p) fun r145 => Option.bind ((scc1 M').ms_l30At e144 r145 (tk2.length : Int) a false (Seg (out.set (k2 + 1) ⟨(toks.length : Int), z⟩) s (k + 1) sp1)) fun r146 => ms_l30Node_k1 M' (scc1 M') a false (((k2 + 1 : Nat) : Int), r146.1, r146.2)) := fun tk2 g1 g2 => by
    have hky := kid_is M t y 1 p tk2 (spn ++ sp1) (by omega) (by omega) (by rw [hkids]; rfl) hp he hlv (fun _ => hl1)
    rw [htg, cond_false, hl1] at hky
    have hls : (spn ++ sp1).length = spn.length + sp1.length := by simp
    obtain ⟨tk3, sp2, w1, w2, w3, w4, w5⟩ := hY (k + 1) k2 M M' (kidP t.kind t.op 2 1 p) (kidP t.kind t.op 2 1 p) tk2 (spn ++ sp1) _ htb hye (.inl rfl) (hkp 1) (hkp 1) hlen1 (by omega) (by omega) (by omega) (by omega)
    rw [hky, bind_eta, w1, Option.bind_some, hks1, Option.bind_some, hsp 1 (by omega), Option.bind_some, w3, Option.bind_some, seg_seg r2 (by simp; omega) w2, List.append_assoc]
    exact wrap_end (toks' := tk3) (sp := sp1 ++ sp2) (z := z) ho hia (by rw [List.length_append]; omega) (by rw [List.length_append]; omega) (by omega) (by omega)
  have key : Done 3 s (k2 + 1) toks.length spn out
      (Option.bind (Option.bind ((scc4 (M + 1)).mi_speller__kid t ((0 : Nat) : Int) p false toks spn) fun r49 => bif (t.op != 99) then Option.bind (mi_sign t.op) fun r59 => Option.bind (mi_speller__put [r59] false r49.1 r49.2) fun r60 => mi_speller__operator_k3 (M + 1) (scc4 (M + 1)) false (t, p, r49, r60) else (mi_speller__operator_k3 (M + 1) (scc4 (M + 1)) false (t, p, r49, r49.1))) fun r48 => mi_speller__bare_k1 (M + 2) (scc4 (M + 2)) false (toks, r48.1, r48.2))
      (Option.bind (ix n.Kids ((0 : Nat) : Int)) fun e137 => Option.bind (ms_KidPos n ((0 : Nat) : Int) p) fun r138 => Option.bind ((scc1 M').ms_l30At e137 r138 (toks.length : Int) a false (out.set (k2 + 1) ⟨(toks.length : Int), z⟩)) fun r139 => bif (t.op != 99) then ms_l30Node_k4 M' (scc1 M') a false (((k2 + 1 : Nat) : Int), p, n, r139, (IntKind.wrap .i64 (r139.1 + 1))) else (ms_l30Node_k4 M' (scc1 M') a false (((k2 + 1 : Nat) : Int), p, n, r139, r139.1))) := by
    rw [hkx, r1, Option.bind_some, hks0, Option.bind_some, hsp 0 (by omega), Option.bind_some, r3, Option.bind_some]
    cases ho99 : (t.op != 99) with
    | true =>
      have hl2 : (tk1 ++ [sg]).length = tk1.length + 1 := by simp
      simp only [cond_true, hsg, Option.bind_some]
      rw [putS_is _ _ _ _ (by simp; omega), Option.bind_some, wrap64 (by omega) (by omega), show (tk1.length : Int) + 1 = ((tk1 ++ [sg]).length : Int) by rw [hl2]; omega]
      exact rest (tk1 ++ [sg]) (by omega) (by omega)
    | false =>
      simp only [cond_false]
      exact rest tk1 (by omega) (by omega)
  clear rest hz hn hr hp hq hs hsg hkx hsp hkp
  obtain ⟨nk, no, nx, ny, nks⟩ := n
  obtain ⟨tk, to, tx, ty, tks⟩ := t
  have e1 : tk = nk := e1
  have e2 : to = no := e2
  subst e1 e2
  have hk : tk = 12 := hk
  subst hk
  exact key

theorem assign_is {a : List SNode} {t x y : STree} (hk : t.kind = 15) (hkids : t.kids = [x, y]) (h99 : t.op ≠ 99) (hX : BigB a x) (hxl : isL x.kind = true) (hY : BigE a y) (hye : isE y.kind = true) : BigB a t := by
  intro s i M M' p q toks spn out hT he hr hp hq ho ht hs hM hM'
  obtain ⟨M, rfl⟩ : ∃ m, M = m + 3 := ⟨M - 3, by omega⟩
  obtain ⟨M', rfl⟩ : ∃ m, M' = m + 1 := ⟨M' - 1, by omega⟩
  obtain ⟨n, hn, e1, e2, e3, e4, hka, hkl⟩ := hT.node
  have hia : i < a.length := (List.getElem?_eq_some_iff.1 hn).1
  have hse := szT_eq t
  have hsx := szT_pos x
  have hsy := szT_pos y
  rw [hkids, szTs, szTs, szTs] at hse
  rw [hkids] at hka hkl
  simp only [KA] at hka
  obtain ⟨k, ks', hks, h1, h2, hta, k2, ks2, hks2', h4, h5, htb, rfl, h3⟩ := hka
  subst h3
  subst hks2'
  obtain ⟨hx1, hx2, _⟩ := hta.part
  obtain ⟨hy1, hy2, _⟩ := htb.part
  obtain ⟨z, hz⟩ := start_is a M' (k2 + 1) q (toks.length : Int) out n hn ho
  rw [hz]
  have hl1 : t.kids.length = 2 := by rw [hkids]; rfl
  have hnl : n.Kids.length = 2 := by rw [← hkl]; rfl
  have hlv : lv t.kind t.op ≠ 0 := by rw [hk]; show (1 : Int) ≠ 0; decide
  have hpq : p = q := by
    rcases hr with h | h
    · exact h
    · omega
  subst hpq
  have hk9 : x.kind ≤ 9 := by
    unfold isL at hxl
    simp only [Bool.or_eq_true, beq_iff_eq] at hxl
    omega
  have hks0 : ix n.Kids ((0 : Nat) : Int) = some (k : Int) := by rw [hks]; rfl
  have hks1 : ix n.Kids ((1 : Nat) : Int) = some (k2 : Int) := by rw [hks]; rfl
  have hsp : ms_KidPos n ((1 : Nat) : Int) p = some (kidP t.kind t.op 2 1 p) := by
    have := skidPos_is n 1 p (by omega) (by omega) hq (by rw [← e1, ← e2]; exact hlv)
    rw [hnl, ← e1, ← e2] at this
    exact this
  have hkp : posB (kidP t.kind t.op 2 1 p) = true := kid_pos he
  have htg0 : ((((0 : Nat) : Int) == 0) && ((t.kind == 9) || ((t.kind == 10) || (t.kind == 15)))) = true := by rw [hk]; rfl
  have htg1 : ((((1 : Nat) : Int) == 0) && ((t.kind == 9) || ((t.kind == 10) || (t.kind == 15)))) = false := rfl
  have hkP : kidP t.kind t.op 2 0 p = ⟨14, false, p.NoIn, p.NoGt, p.NoSign⟩ := by rw [hk]; rfl
  obtain ⟨sg, hsg⟩ := sign_ex t.op
  have hkx := kid_is M t x 0 p toks spn (by omega) (by omega) (by rw [hkids]; rfl) hp he hlv (fun e => by omega)
  rw [htg0, cond_true, hl1, hkP] at hkx
  have hp14 : posB ⟨14, false, p.NoIn, p.NoGt, p.NoSign⟩ = true := rfl
  obtain ⟨tk1, sp1, r1, r2, r3, r4, r5⟩ := hX s k M M' ⟨14, false, p.NoIn, p.NoGt, p.NoSign⟩ ⟨14, false, false, false, false⟩ toks spn (out.set (k2 + 1) ⟨(toks.length : Int), z⟩) hta (isL_E hxl) (.inr hk9) hp14 rfl (by simp [ho]) (by omega) (by omega) (by omega) (by omega)
  have hlen1 : (Seg (out.set (k2 + 1) ⟨(toks.length : Int), z⟩) s (k + 1) sp1).length = a.length := by
    rw [seg_len r2 (by simp; omega)]; simp [ho]
  have hl2 : (tk1 ++ [sg]).length = tk1.length + 1 := by simp
  have hls : (spn ++ sp1).length = spn.length + sp1.length := by simp
  have hky := kid_is M t y 1 p (tk1 ++ [sg]) (spn ++ sp1) (by omega) (by omega) (by rw [hkids]; rfl) hp he hlv (fun e => by omega)
  rw [htg1, cond_false, hl1] at hky
  obtain ⟨tk3, sp2, w1, w2, w3, w4, w5⟩ := hY (k + 1) k2 M M' (kidP t.kind t.op 2 1 p) (kidP t.kind t.op 2 1 p) (tk1 ++ [sg]) (spn ++ sp1) _ htb hye (.inl rfl) hkp hkp hlen1 (by omega) (by omega) (by omega) (by omega)
  have ho99 : (t.op != 99) = true := by simpa using h99
  have key : Done 3 s (k2 + 1) toks.length spn out
      (Option.bind (Option.bind ((scc4 (M + 1)).mi_speller__kid t ((0 : Nat) : Int) p false toks spn) fun r49 => bif (t.op != 99) then Option.bind (mi_sign t.op) fun r59 => Option.bind (mi_speller__put [r59] false r49.1 r49.2) fun r60 => Option.bind ((scc4 (M + 1)).mi_speller__kid t ((1 : Nat) : Int) p false r60 r49.2) fun r56 => some (r56.1, r56.2) else (mi_speller__operator_k3 (M + 1) (scc4 (M + 1)) false (t, p, r49, r49.1))) fun r48 => mi_speller__bare_k1 (M + 2) (scc4 (M + 2)) false (toks, r48.1, r48.2))
      (Option.bind (ix n.Kids ((1 : Nat) : Int)) fun e96 => Option.bind (ms_KidPos n ((1 : Nat) : Int) p) fun r97 => Option.bind (ix n.Kids ((0 : Nat) : Int)) fun e98 => Option.bind ((scc1 M').ms_l30Node e98 (⟨14, false, false, false, false⟩ : SPos) (toks.length : Int) a false (out.set (k2 + 1) ⟨(toks.length : Int), z⟩)) fun r99 => Option.bind ((scc1 M').ms_l30At e96 r97 (IntKind.wrap .i64 (r99.1 + 1)) a false r99.2) fun r100 => ms_l30Node_k1 M' (scc1 M') a false (((k2 + 1 : Nat) : Int), r100.1, r100.2)) := by
    rw [hkx, r1, Option.bind_some, ho99, cond_true, hsg, Option.bind_some]
    simp only []
    rw [putS_is _ _ _ _ (by simp; omega), Option.bind_some, hky, bind_eta, w1, Option.bind_some, hks1, Option.bind_some, hsp, Option.bind_some, hks0, Option.bind_some, r3, Option.bind_some]
    simp only []
    rw [wrap64 (by omega) (by omega), show (tk1.length : Int) + 1 = ((tk1 ++ [sg]).length : Int) by rw [hl2]; omega, w3, Option.bind_some, seg_seg r2 (by simp; omega) w2, List.append_assoc]
    exact wrap_end (toks' := tk3) (sp := sp1 ++ sp2) (z := z) ho hia (by rw [List.length_append]; omega) (by rw [List.length_append]; omega) (by omega) (by omega)
  clear hz hn hr hp hq hs hsg hkx hky hsp hkp w1 w3 r1 r3
  obtain ⟨nk, no, nx, ny, nks⟩ := n
  obtain ⟨tk, to, tx, ty, tks⟩ := t
  have e1 : tk = nk := e1
  have e2 : to = no := e2
  subst e1 e2
  have hk : tk = 15 := hk
  subst hk
  exact key

theorem in_is {a : List SNode} {t kid : STree} (hk : t.kind = 13) (hkids : t.kids = [kid]) (hE : BigE a kid) (hke : isE kid.kind = true) : BigB a t := by
  intro s i M M' p q toks spn out hT he hr hp hq ho ht hs hM hM'
  obtain ⟨M, rfl⟩ : ∃ m, M = m + 3 := ⟨M - 3, by omega⟩
  obtain ⟨M', rfl⟩ : ∃ m, M' = m + 1 := ⟨M' - 1, by omega⟩
  obtain ⟨n, hn, e1, e2, e3, e4, hka, hkl⟩ := hT.node
  have hia : i < a.length := (List.getElem?_eq_some_iff.1 hn).1
  have hse := szT_eq t
  have hsz := szT_pos kid
  rw [hkids, szTs, szTs] at hse
  rw [hkids] at hka hkl
  simp only [KA] at hka
  obtain ⟨k, ks', hks, h1, h2, hta, rfl, h3⟩ := hka
  subst h3
  obtain ⟨_, hks2, _⟩ := hta.part
  obtain ⟨z, hz⟩ := start_is a M' (k + 1) q (toks.length : Int) out n hn ho
  rw [hz]
  have hl1 : t.kids.length = 1 := by rw [hkids]; rfl
  have hnl : n.Kids.length = 1 := by rw [← hkl]; rfl
  have hlv : lv t.kind t.op ≠ 0 := by rw [hk]; show (5 : Int) ≠ 0; decide
  have hpq : p = q := by
    rcases hr with h | h
    · exact h
    · omega
  subst hpq
  have hkp := kid_pos (k := t.kind) (o := t.op) (n := 1) (j := 0) (p := p) he
  have hks0 : ix n.Kids ((0 : Nat) : Int) = some (k : Int) := by rw [hks]; rfl
  have hsp : ms_KidPos n ((0 : Nat) : Int) p = some (kidP t.kind t.op 1 0 p) := by
    have := skidPos_is n 0 p (by omega) (by omega) hq (by rw [← e1, ← e2]; exact hlv)
    rw [hnl, ← e1, ← e2] at this
    exact this
  obtain ⟨sg, hsg⟩ := sign_ex 24
  have hki := kid_is M t kid 0 p toks spn (by omega) (by omega) (by rw [hkids]; rfl) hp he hlv (fun e => by omega)
  have htg : ((((0 : Nat) : Int) == 0) && ((t.kind == 9) || ((t.kind == 10) || (t.kind == 15)))) = false := by rw [hk]; rfl
  rw [htg, cond_false, hl1] at hki
  obtain ⟨toks', sp, r1, r2, r3, r4, r5⟩ := hE s k M M' (kidP t.kind t.op 1 0 p) (kidP t.kind t.op 1 0 p) toks spn (out.set (k + 1) ⟨(toks.length : Int), z⟩) hta hke (.inl rfl) hkp hkp (by simp [ho]) (by omega) (by omega) (by omega) (by omega)
  have hc1 : decide ((t.kids.length : Int) > 1) = false := by rw [hl1]; rfl
  have hc2 : decide ((n.Kids.length : Int) > 1) = false := by rw [hnl]; rfl
  have hl2 : ∀ tk : SToken, (toks' ++ [sg, tk]).length = toks'.length + 2 := fun tk => by simp
  have key : Done 3 s (k + 1) toks.length spn out
      (Option.bind (bif decide ((t.kids.length : Int) > 1) then Option.bind ((scc4 (M + 1)).mi_speller__list t 32 33 p false toks spn) fun r31 => mi_speller__operator_k2 (M + 1) (scc4 (M + 1)) false (t, r31.1, r31.2) else (Option.bind ((scc4 (M + 1)).mi_speller__kid t ((0 : Nat) : Int) p false toks spn) fun r33 => mi_speller__operator_k2 (M + 1) (scc4 (M + 1)) false (t, r33.1, r33.2))) fun r48 => mi_speller__bare_k1 (M + 2) (scc4 (M + 2)) false (toks, r48.1, r48.2))
      (bif decide ((n.Kids.length : Int) > 1) then Option.bind ((scc1 M').ms_l30List n.Kids (IntKind.wrap .i64 ((toks.length : Int) + 1)) a false (out.set (k + 1) ⟨(toks.length : Int), z⟩)) fun r109 => ms_l30Node_k1 M' (scc1 M') a false (((k + 1 : Nat) : Int), (IntKind.wrap .i64 (r109.1 + 3)), r109.2) else (Option.bind (ix n.Kids ((0 : Nat) : Int)) fun e113 => Option.bind (ms_KidPos n ((0 : Nat) : Int) p) fun r114 => Option.bind ((scc1 M').ms_l30At e113 r114 (toks.length : Int) a false (out.set (k + 1) ⟨(toks.length : Int), z⟩)) fun r115 => ms_l30Node_k1 M' (scc1 M') a false (((k + 1 : Nat) : Int), (IntKind.wrap .i64 (r115.1 + 2)), r115.2))) := by
    rw [hc1, hc2, cond_false, cond_false, hki, r1, Option.bind_some, hks0, Option.bind_some, hsp, Option.bind_some, r3, Option.bind_some]
    unfold mi_speller__operator_k2
    simp only [hsg, Option.bind_some]
    rw [putS_is _ _ _ _ (by simp; omega), Option.bind_some, Option.bind_some]
    simp only []
    rw [wrap64 (by omega) (by omega), show (toks'.length : Int) + 2 = ((toks' ++ [sg, (⟨6, t.text, 0⟩ : SToken)]).length : Int) by rw [hl2]; omega]
    exact wrap_end (toks' := toks' ++ [sg, ⟨6, t.text, 0⟩]) (sp := sp) (z := z) ho hia r2 (by omega) (by rw [hl2]; omega) (by rw [hl2]; omega)
  clear hz hn hr hp hq hs hsg hki hsp hkp r1 r3 hc1 hc2
  obtain ⟨nk, no, nx, ny, nks⟩ := n
  obtain ⟨tk, to, tx, ty, tks⟩ := t
  have e1 : tk = nk := e1
  subst e1
  have hk : tk = 13 := hk
  subst hk
  exact key

theorem cond_is {a : List SNode} {t x y w : STree} (hk : t.kind = 14) (hkids : t.kids = [x, y, w]) (hX : BigE a x) (hY : BigE a y) (hW : BigE a w) (hxe : isE x.kind = true) (hye : isE y.kind = true) (hwe : isE w.kind = true) : BigB a t := by
  intro s i M M' p q toks spn out hT he hr hp hq ho ht hs hM hM'
  obtain ⟨M, rfl⟩ : ∃ m, M = m + 3 := ⟨M - 3, by omega⟩
  obtain ⟨M', rfl⟩ : ∃ m, M' = m + 1 := ⟨M' - 1, by omega⟩
  obtain ⟨n, hn, e1, e2, e3, e4, hka, hkl⟩ := hT.node
  have hia : i < a.length := (List.getElem?_eq_some_iff.1 hn).1
  have hse := szT_eq t
  have hsx := szT_pos x
  have hsy := szT_pos y
  have hsw := szT_pos w
  rw [hkids, szTs, szTs, szTs, szTs] at hse
  rw [hkids] at hka hkl
  simp only [KA] at hka
  obtain ⟨k, ks', hks, h1, h2, hta, k2, ks2, hks2', h4, h5, htb, k3, ks3, hks3', h6, h7, htc, rfl, h3⟩ := hka
  subst h3
  subst hks3'
  subst hks2'
  obtain ⟨hx1, hx2, _⟩ := hta.part
  obtain ⟨hy1, hy2, _⟩ := htb.part
  obtain ⟨hw1, hw2, _⟩ := htc.part
  obtain ⟨z, hz⟩ := start_is a M' (k3 + 1) q (toks.length : Int) out n hn ho
  rw [hz]
  have hl1 : t.kids.length = 3 := by rw [hkids]; rfl
  have hnl : n.Kids.length = 3 := by rw [← hkl]; rfl
  have hlv : lv t.kind t.op ≠ 0 := by rw [hk]; show (2 : Int) ≠ 0; decide
  have hpq : p = q := by
    rcases hr with h | h
    · exact h
    · omega
  subst hpq
  have hks0 : ix n.Kids ((0 : Nat) : Int) = some (k : Int) := by rw [hks]; rfl
  have hks1 : ix n.Kids ((1 : Nat) : Int) = some (k2 : Int) := by rw [hks]; rfl
  have hks2 : ix n.Kids ((2 : Nat) : Int) = some (k3 : Int) := by rw [hks]; rfl
  have hsp : ∀ j : Nat, j < 3 → ms_KidPos n (j : Int) p = some (kidP t.kind t.op 3 j p) := fun j hj => by
    have := skidPos_is n j p (by omega) (by omega) hq (by rw [← e1, ← e2]; exact hlv)
    rw [hnl, ← e1, ← e2] at this
    exact this
  have hkp : ∀ j, posB (kidP t.kind t.op 3 j p) = true := fun j => kid_pos he
  have htg : ∀ j : Nat, (((j : Int) == 0) && ((t.kind == 9) || ((t.kind == 10) || (t.kind == 15)))) = false := fun j => by rw [hk]; cases ((j : Int) == 0) <;> rfl
  obtain ⟨s1, hs1⟩ := sign_ex 65
  obtain ⟨s2, hs2⟩ := sign_ex 66
  have hkx := kid_is M t x 0 p toks spn (by omega) (by omega) (by rw [hkids]; rfl) hp he hlv (fun e => by omega)
  rw [htg, cond_false, hl1] at hkx
  obtain ⟨tk1, sp1, r1, r2, r3, r4, r5⟩ := hX s k M M' (kidP t.kind t.op 3 0 p) (kidP t.kind t.op 3 0 p) toks spn (out.set (k3 + 1) ⟨(toks.length : Int), z⟩) hta hxe (.inl rfl) (hkp 0) (hkp 0) (by simp [ho]) (by omega) (by omega) (by omega) (by omega)
  have hlen1 : (Seg (out.set (k3 + 1) ⟨(toks.length : Int), z⟩) s (k + 1) sp1).length = a.length := by
    rw [seg_len r2 (by simp; omega)]; simp [ho]
  have la : (tk1 ++ [s1]).length = tk1.length + 1 := by simp
  have lb : (spn ++ sp1).length = spn.length + sp1.length := by simp
  have hky := kid_is M t y 1 p (tk1 ++ [s1]) (spn ++ sp1) (by omega) (by omega) (by rw [hkids]; rfl) hp he hlv (fun e => by omega)
  rw [htg, cond_false, hl1] at hky
  obtain ⟨tk2, sp2, u1, u2, u3, u4, u5⟩ := hY (k + 1) k2 M M' (kidP t.kind t.op 3 1 p) (kidP t.kind t.op 3 1 p) (tk1 ++ [s1]) (spn ++ sp1) _ htb hye (.inl rfl) (hkp 1) (hkp 1) hlen1 (by omega) (by omega) (by omega) (by omega)
  rw [seg_seg r2 (by simp; omega) u2] at u3
  have r2' : s + (sp1 ++ sp2).length = k2 + 1 := by rw [List.length_append]; omega
  have hlen2 : (Seg (out.set (k3 + 1) ⟨(toks.length : Int), z⟩) s (k2 + 1) (sp1 ++ sp2)).length = a.length := by
    rw [seg_len r2' (by simp; omega)]; simp [ho]
  have lc : (tk2 ++ [s2]).length = tk2.length + 1 := by simp
  have ld : (spn ++ sp1 ++ sp2).length = spn.length + sp1.length + sp2.length := by simp; omega
  have hkw := kid_is M t w 2 p (tk2 ++ [s2]) (spn ++ sp1 ++ sp2) (by omega) (by omega) (by rw [hkids]; rfl) hp he hlv (fun e => by omega)
  rw [htg, cond_false, hl1] at hkw
  obtain ⟨tk3, sp3, w1, w2, w3, w4, w5⟩ := hW (k2 + 1) k3 M M' (kidP t.kind t.op 3 2 p) (kidP t.kind t.op 3 2 p) (tk2 ++ [s2]) (spn ++ sp1 ++ sp2) _ htc hwe (.inl rfl) (hkp 2) (hkp 2) hlen2 (by omega) (by omega) (by omega) (by omega)
  rw [seg_seg r2' (by simp; omega) w2] at w3
  have key : Done 3 s (k3 + 1) toks.length spn out
      (Option.bind (Option.bind ((scc4 (M + 1)).mi_speller__kid t ((0 : Nat) : Int) p false toks spn) fun r35 => Option.bind (mi_sign 65) fun r38 => Option.bind (mi_speller__put [r38] false r35.1 r35.2) fun r39 => Option.bind ((scc4 (M + 1)).mi_speller__kid t ((1 : Nat) : Int) p false r39 r35.2) fun r41 => Option.bind (mi_sign 66) fun r44 => Option.bind (mi_speller__put [r44] false r41.1 r41.2) fun r45 => Option.bind ((scc4 (M + 1)).mi_speller__kid t ((2 : Nat) : Int) p false r45 r41.2) fun r47 => some (r47.1, r47.2)) fun r48 => mi_speller__bare_k1 (M + 2) (scc4 (M + 2)) false (toks, r48.1, r48.2))
      (Option.bind (ix n.Kids ((0 : Nat) : Int)) fun e119 => Option.bind (ms_KidPos n ((0 : Nat) : Int) p) fun r120 => Option.bind ((scc1 M').ms_l30At e119 r120 (toks.length : Int) a false (out.set (k3 + 1) ⟨(toks.length : Int), z⟩)) fun r121 => Option.bind (ix n.Kids ((1 : Nat) : Int)) fun e125 => Option.bind (ms_KidPos n ((1 : Nat) : Int) p) fun r126 => Option.bind ((scc1 M').ms_l30At e125 r126 (IntKind.wrap .i64 (r121.1 + 1)) a false r121.2) fun r127 => Option.bind (ix n.Kids ((2 : Nat) : Int)) fun e131 => Option.bind (ms_KidPos n ((2 : Nat) : Int) p) fun r132 => Option.bind ((scc1 M').ms_l30At e131 r132 (IntKind.wrap .i64 (r127.1 + 1)) a false r127.2) fun r133 => ms_l30Node_k1 M' (scc1 M') a false (((k3 + 1 : Nat) : Int), r133.1, r133.2)) := by
    rw [hkx, r1, Option.bind_some, hs1, Option.bind_some]
    simp only []
    rw [putS_is _ _ _ _ (by simp; omega), Option.bind_some, hky, u1, Option.bind_some, hs2, Option.bind_some]
    simp only []
    rw [putS_is _ _ _ _ (by simp; omega), Option.bind_some, hkw, bind_eta, w1, Option.bind_some]
    rw [hks0, Option.bind_some, hsp 0 (by omega), Option.bind_some, r3, Option.bind_some, hks1, Option.bind_some, hsp 1 (by omega), Option.bind_some]
    simp only []
    rw [wrap64 (by omega) (by omega), show (tk1.length : Int) + 1 = ((tk1 ++ [s1]).length : Int) by rw [la]; omega, u3, Option.bind_some, hks2, Option.bind_some, hsp 2 (by omega), Option.bind_some]
    simp only []
    rw [wrap64 (by omega) (by omega), show (tk2.length : Int) + 1 = ((tk2 ++ [s2]).length : Int) by rw [lc]; omega, w3, Option.bind_some]
    rw [show spn ++ sp1 ++ sp2 ++ sp3 = spn ++ (sp1 ++ sp2 ++ sp3) by simp only [List.append_assoc]]
    exact wrap_end (toks' := tk3) (sp := sp1 ++ sp2 ++ sp3) (z := z) ho hia (by simp only [List.length_append] at r2' ⊢; omega) (by simp only [List.length_append] at r2' ⊢; omega) (by omega) (by omega)
  clear hz hn hr hp hq hs hkx hky hkw hsp hkp r1 r3 u1 u3 w1 w3
  obtain ⟨nk, no, nx, ny, nks⟩ := n
  obtain ⟨tk, to, tx, ty, tks⟩ := t
  have e1 : tk = nk := e1
  subst e1
  have hk : tk = 14 := hk
  subst hk
  exact key

theorem list_l (a : List SNode) (t : STree) (n : SNode) (p : SPos) (M M' : Nat) (a3 : Int) (R2 : Unit) (hM : 1000 < M) (hkl : t.kids.length ≤ 400) (hnl : n.Kids.length = t.kids.length) (hp : posB p = true) (he : isE t.kind = true) (hlv : lv t.kind t.op ≠ 0) (h12 : t.kind ≠ 12)
    (htg : ((t.kind == 9) || ((t.kind == 10) || (t.kind == 15))) = false) (hTop : ∀ j, kidP t.kind t.op t.kids.length j p = ⟨1, false, false, false, false⟩) :
    ∀ (ts : List STree) (j f f' s e : Nat) (toks : List SToken) (spn out : List SSpan), t.kids.drop j = ts → KA a ts (n.Kids.drop j) s e → (∀ x, x ∈ ts → BigE a x ∧ isE x.kind = true ∧ 2001 + 8 * szT x ≤ M ∧ 2001 + 8 * szT x ≤ M') → ts.length < f → ts.length < f' → j ≤ t.kids.length → out.length = a.length → e ≤ a.length →
      toks.length + 32 * szTs ts + 2 ≤ 900000 → spn.length + szTs ts ≤ 900000 →
      ∃ tk sp, mi_speller__list_l1 (M + 1) (scc4 (M + 1)) false f (a3, t, p, (j : Int), toks, spn) = (Option.bind (mi_sign a3) fun r115 => Option.bind (mi_speller__put [r115] false tk (spn ++ sp)) fun r116 => some (r116, spn ++ sp)) ∧
        s + sp.length = e ∧ ms_l30List_l1 M' (scc1 M') a false f' (n.Kids, (toks.length : Int), (j : Int), out) = some ((tk.length : Int), Seg out s e sp) ∧ toks.length ≤ tk.length ∧ tk.length ≤ toks.length + 32 * (e - s)
  | [], j, f, f', s, e, toks, spn, out, hd, hka, hB, hf, hf', hj, ho, hea, ht, hs => by
    obtain ⟨f, rfl⟩ : ∃ m, f = m + 1 := ⟨f - 1, by simp at hf; omega⟩
    obtain ⟨f', rfl⟩ : ∃ m, f' = m + 1 := ⟨f' - 1, by simp at hf'; omega⟩
    simp only [KA] at hka
    obtain ⟨_, rfl⟩ := hka
    have hlt : ¬ j < t.kids.length := by
      intro h
      rw [drop_cons h] at hd; cases hd
    have hlt2 : ¬ j < n.Kids.length := by omega
    refine ⟨toks, [], ?_, by simp, ?_, Nat.le_refl _, by omega⟩
    · rw [mi_speller__list_l1]
      simp only [lt_false hlt, cond_false, List.append_nil]
    · rw [ms_l30List_l1]
      simp only [lt_false hlt2, cond_false]
      rw [seg_nil]
  | x :: ts, j, f, f', s, e, toks, spn, out, hd, hka, hB, hf, hf', hj, ho, hea, ht, hs => by
    obtain ⟨f, rfl⟩ : ∃ m, f = m + 1 := ⟨f - 1, by simp at hf; omega⟩
    obtain ⟨f', rfl⟩ : ∃ m, f' = m + 1 := ⟨f' - 1, by simp at hf'; omega⟩
    simp only [List.length_cons] at hf hf'
    simp only [KA] at hka
    obtain ⟨k, ks', hks, h1, h2, hta, hkb⟩ := hka
    rw [szTs] at ht hs
    have hsx := szT_pos x
    obtain ⟨hx1, hx2, _⟩ := hta.part
    obtain ⟨hb1, hb2, _⟩ := hkb.part
    have hlt : j < t.kids.length := by
      cases Nat.lt_or_ge j t.kids.length with
      | inl h => exact h
      | inr h => rw [List.drop_of_length_le h] at hd; cases hd
    have hlt2 : j < n.Kids.length := by omega
    rw [drop_cons hlt] at hd
    injection hd with hd1 hd2
    rw [drop_cons hlt2] at hks
    injection hks with hks1 hks2
    have hxj : t.kids[j]? = some x := by rw [List.getElem?_eq_getElem hlt, hd1]
    have hkj : ix n.Kids (j : Int) = some (k : Int) := by rw [ix_nat hlt2, hks1]
    obtain ⟨hE, hxe, hxM, hxM'⟩ := hB x (by simp)
    have hst : IntKind.wrap .i64 ((j : Int) + 1) = ((j + 1 : Nat) : Int) := by rw [wrap64 (by omega) (by omega)]; omega
    have rest : ∀ tk0 : List SToken, toks.length ≤ tk0.length → tk0.length ≤ toks.length + 1 → ∃ tk sp, mi_speller__list_k2 (M + 1) (scc4 (M + 1)) false (mi_speller__list_l1 (M + 1) (scc4 (M + 1)) false f) (a3, (j : Int), t, p, spn, tk0) = (Option.bind (mi_sign a3) fun r115 => Option.bind (mi_speller__put [r115] false tk (spn ++ sp)) fun r116 => some (r116, spn ++ sp)) ∧
        s + sp.length = e ∧ ms_l30List_k2 M' (scc1 M') a false (ms_l30List_l1 M' (scc1 M') a false f') (n.Kids, (j : Int), out, (tk0.length : Int)) = some ((tk.length : Int), Seg out s e sp) ∧ toks.length ≤ tk.length ∧ tk.length ≤ toks.length + 32 * (e - s) := fun tk0 g1 g2 => by
      have hki := kid_is M t x j p tk0 spn hM hkl hxj hp he hlv (fun h => absurd h h12)
      rw [htg, Bool.and_false, cond_false, hTop] at hki
      obtain ⟨tk1, sp1, r1, r2, r3, r4, r5⟩ := hE s k M M' ⟨1, false, false, false, false⟩ ⟨1, false, false, false, false⟩ tk0 spn out hta hxe (.inl rfl) rfl rfl ho (by omega) (by omega) hxM hxM'
      have hls : (spn ++ sp1).length = spn.length + sp1.length := by simp
      obtain ⟨tk, sp, w1, w2, w3, w4, w5⟩ := list_l a t n p M M' a3 R2 hM hkl hnl hp he hlv h12 htg hTop ts (j + 1) f f' (k + 1) e tk1 (spn ++ sp1) (Seg out s (k + 1) sp1) hd2 (hks2 ▸ hkb) (fun y hy => hB y (by simp [hy])) (by omega) (by omega) (by omega) (by rw [seg_len r2 (by omega)]; exact ho) hea (by omega) (by omega)
      rw [seg_seg r2 (by omega) w2] at w3
      refine ⟨tk, sp1 ++ sp, ?_, by rw [List.length_append]; omega, ?_, by omega, by omega⟩
      · unfold mi_speller__list_k2
        simp only [hki, r1, Option.bind_some, hst]
        rw [w1, List.append_assoc]
      · unfold ms_l30List_k2
        simp only [hkj, ms_Top, Option.bind_some, r3, hst]
        exact w3
    rw [mi_speller__list_l1, ms_l30List_l1]
    simp only [lt_true hlt, lt_true hlt2, cond_true]
    by_cases hj0 : j = 0
    · have e0 : decide ((j : Int) > 0) = false := by simp; omega
      simp only [e0, cond_false]
      exact rest toks (by omega) (by omega)
    · have e0 : decide ((j : Int) > 0) = true := by simp; omega
      obtain ⟨cm, hcm⟩ := sign_ex 36
      have hlc : (toks ++ [cm]).length = toks.length + 1 := by simp
      simp only [e0, cond_true, hcm, Option.bind_some]
      rw [putS_is _ _ _ _ (by simp; omega), Option.bind_some, wrap64 (by omega) (by omega), show (toks.length : Int) + 1 = ((toks ++ [cm]).length : Int) by rw [hlc]; omega]
      exact rest (toks ++ [cm]) (by omega) (by omega)

theorem named_is {a : List SNode} {t : STree} (hk : t.kind = 5 ∨ t.kind = 7 ∨ t.kind = 8) (hkl : t.kids.length ≤ 400) (hB : ∀ x, x ∈ t.kids → BigE a x ∧ isE x.kind = true) : BigB a t := by
  intro s i M M' p q toks spn out hT he hr hp hq ho ht hs hM hM'
  obtain ⟨M, rfl⟩ : ∃ m, M = m + 3 := ⟨M - 3, by omega⟩
  obtain ⟨M', rfl⟩ : ∃ m, M' = m + 2 := ⟨M' - 2, by omega⟩
  obtain ⟨n, hn, e1, e2, e3, e4, hka, hnl⟩ := hT.node
  have hia : i < a.length := (List.getElem?_eq_some_iff.1 hn).1
  have hse := szT_eq t
  have hlen := szTs_len t.kids
  obtain ⟨hb1, hb2, _⟩ := hka.part
  obtain ⟨z, hz⟩ := start_is a (M' + 1) i q (toks.length : Int) out n hn ho
  rw [hz]
  have hlv : lv t.kind t.op ≠ 0 := by rcases hk with e | e | e <;> rw [e] <;> (show (15 : Int) ≠ 0; decide)
  have htg : ((t.kind == 9) || ((t.kind == 10) || (t.kind == 15))) = false := by rcases hk with e | e | e <;> rw [e] <;> rfl
  have hTop : ∀ j, kidP t.kind t.op t.kids.length j p = ⟨1, false, false, false, false⟩ := fun j => by rcases hk with e | e | e <;> rw [e] <;> rfl
  have key : ∀ (tk : SToken) (o c : Int), Done 3 s i toks.length spn out
      (Option.bind (mi_speller__put [tk] false toks spn) fun r36 => Option.bind ((scc4 (M + 2)).mi_speller__list t o c p false r36 spn) fun r38 => mi_speller__bare_k1 (M + 2) (scc4 (M + 2)) false (toks, r38.1, r38.2))
      (Option.bind ((scc1 (M' + 1)).ms_l30List n.Kids (IntKind.wrap .i64 ((toks.length : Int) + 2)) a false (out.set i ⟨(toks.length : Int), z⟩)) fun r82 => ms_l30Node_k1 (M' + 1) (scc1 (M' + 1)) a false ((i : Int), (IntKind.wrap .i64 (r82.1 + 1)), r82.2)) := fun tk o c => by
    obtain ⟨so, hso⟩ := sign_ex o
    obtain ⟨sc, hsc⟩ := sign_ex c
    have la : (toks ++ [tk] ++ [so]).length = toks.length + 2 := by simp
    obtain ⟨tk1, sp, r1, r2, r3, r4, r5⟩ := list_l a t n p M M' c () (by omega) hkl hnl.symm hp he hlv (by rcases hk with e | e | e <;> omega) htg hTop t.kids 0 (M + 1) M' s i (toks ++ [tk] ++ [so]) spn (out.set i ⟨(toks.length : Int), z⟩) rfl (by simpa using hka)
      (fun x hx => ⟨(hB x hx).1, (hB x hx).2, by have := szTs_mem hx; omega, by have := szTs_mem hx; omega⟩) (by omega) (by omega) (by omega) (by simp [ho]) (by omega) (by omega) (by omega)
    have hL : (scc4 (M + 2)).mi_speller__list t o c p false (toks ++ [tk]) spn = some (tk1 ++ [sc], spn ++ sp) := by
      show mi_speller__list_F (M + 1) (scc4 (M + 1)) t o c p false (toks ++ [tk]) spn = _
      unfold mi_speller__list_F
      rw [hso, Option.bind_some, putS_is _ _ _ _ (by simp; omega), Option.bind_some]
      refine Eq.trans r1 ?_
      rw [hsc, Option.bind_some, putS_is _ _ _ _ (by simp; omega), Option.bind_some]
    have hS : (scc1 (M' + 1)).ms_l30List n.Kids (((toks ++ [tk] ++ [so]).length : Nat) : Int) a false (out.set i ⟨(toks.length : Int), z⟩) = some ((tk1.length : Int), Seg (out.set i ⟨(toks.length : Int), z⟩) s i sp) := r3
    have lc : (tk1 ++ [sc]).length = tk1.length + 1 := by simp
    rw [putS_is _ _ _ _ (by simp; omega), Option.bind_some, hL, Option.bind_some, wrap64 (by omega) (by omega), show (toks.length : Int) + 2 = ((toks ++ [tk] ++ [so]).length : Int) by rw [la]; omega, hS, Option.bind_some]
    simp only []
    rw [wrap64 (by omega) (by omega), show (tk1.length : Int) + 1 = ((tk1 ++ [sc]).length : Int) by rw [lc]; omega]
    exact wrap_end (toks' := tk1 ++ [sc]) (sp := sp) (z := z) ho hia r2 (by omega) (by omega) (by omega)
  clear hz hn hr hp hq hs hTop
  obtain ⟨nk, no, nx, ny, nks⟩ := n
  obtain ⟨tk, to, tx, ty, tks⟩ := t
  have e1 : tk = nk := e1
  subst e1
  rcases hk with e | e | e <;> (have e : tk = _ := e; subst e)
  · exact key ⟨6, tx, 0⟩ 34 35
  · exact key ⟨7, tx, 0⟩ 32 33
  · exact key ⟨8, tx, 0⟩ 32 33

theorem inMany_is {a : List SNode} {t : STree} (hk : t.kind = 13) (h1k : 1 < t.kids.length) (hkl : t.kids.length ≤ 400) (hB : ∀ x, x ∈ t.kids → BigE a x ∧ isE x.kind = true) : BigB a t := by
  intro s i M M' p q toks spn out hT he hr hp hq ho ht hs hM hM'
  obtain ⟨M, rfl⟩ : ∃ m, M = m + 4 := ⟨M - 4, by omega⟩
  obtain ⟨M', rfl⟩ : ∃ m, M' = m + 2 := ⟨M' - 2, by omega⟩
  obtain ⟨n, hn, e1, e2, e3, e4, hka, hnl⟩ := hT.node
  have hia : i < a.length := (List.getElem?_eq_some_iff.1 hn).1
  have hse := szT_eq t
  have hlen := szTs_len t.kids
  obtain ⟨hb1, hb2, _⟩ := hka.part
  obtain ⟨z, hz⟩ := start_is a (M' + 1) i q (toks.length : Int) out n hn ho
  rw [hz]
  have hlv : lv t.kind t.op ≠ 0 := by rw [hk]; show (5 : Int) ≠ 0; decide
  have htg : ((t.kind == 9) || ((t.kind == 10) || (t.kind == 15))) = false := by rw [hk]; rfl
  have hTop : ∀ j, kidP t.kind t.op t.kids.length j p = ⟨1, false, false, false, false⟩ := fun j => by
    have : decide (t.kids.length > 1) = true := by simpa using h1k
    rw [hk]; unfold kidP; rw [this]; rfl
  obtain ⟨sg, hsg⟩ := sign_ex 24
  obtain ⟨so, hso⟩ := sign_ex 32
  obtain ⟨sc, hsc⟩ := sign_ex 33
  have la : (toks ++ [so]).length = toks.length + 1 := by simp
  obtain ⟨tk1, sp, r1, r2, r3, r4, r5⟩ := list_l a t n p M M' 33 () (by omega) hkl hnl.symm hp he hlv (by omega) htg hTop t.kids 0 (M + 1) M' s i (toks ++ [so]) spn (out.set i ⟨(toks.length : Int), z⟩) rfl (by simpa using hka)
    (fun x hx => ⟨(hB x hx).1, (hB x hx).2, by have := szTs_mem hx; omega, by have := szTs_mem hx; omega⟩) (by omega) (by omega) (by omega) (by simp [ho]) (by omega) (by omega) (by omega)
  have hL : (scc4 (M + 2)).mi_speller__list t 32 33 p false toks spn = some (tk1 ++ [sc], spn ++ sp) := by
    show mi_speller__list_F (M + 1) (scc4 (M + 1)) t 32 33 p false toks spn = _
    unfold mi_speller__list_F
    rw [hso, Option.bind_some, putS_is _ _ _ _ (by simp; omega), Option.bind_some]
    refine Eq.trans r1 ?_
    rw [hsc, Option.bind_some, putS_is _ _ _ _ (by simp; omega), Option.bind_some]
  have hS : (scc1 (M' + 1)).ms_l30List n.Kids (((toks ++ [so]).length : Nat) : Int) a false (out.set i ⟨(toks.length : Int), z⟩) = some ((tk1.length : Int), Seg (out.set i ⟨(toks.length : Int), z⟩) s i sp) := r3
  have lc : ∀ x, (tk1 ++ [sc] ++ [sg, x]).length = tk1.length + 3 := fun x => by simp
  have hc1 : decide ((t.kids.length : Int) > 1) = true := by simp; omega
  have hc2 : decide ((n.Kids.length : Int) > 1) = true := by simp; omega
  have key : Done 3 s i toks.length spn out
      (Option.bind (bif decide ((t.kids.length : Int) > 1) then Option.bind ((scc4 (M + 2)).mi_speller__list t 32 33 p false toks spn) fun r31 => mi_speller__operator_k2 (M + 2) (scc4 (M + 2)) false (t, r31.1, r31.2) else (Option.bind ((scc4 (M + 2)).mi_speller__kid t ((0 : Nat) : Int) p false toks spn) fun r33 => mi_speller__operator_k2 (M + 2) (scc4 (M + 2)) false (t, r33.1, r33.2))) fun r48 => mi_speller__bare_k1 (M + 3) (scc4 (M + 3)) false (toks, r48.1, r48.2))
      (bif decide ((n.Kids.length : Int) > 1) then Option.bind ((scc1 (M' + 1)).ms_l30List n.Kids (IntKind.wrap .i64 ((toks.length : Int) + 1)) a false (out.set i ⟨(toks.length : Int), z⟩)) fun r109 => ms_l30Node_k1 (M' + 1) (scc1 (M' + 1)) a false ((i : Int), (IntKind.wrap .i64 (r109.1 + 3)), r109.2) else (Option.bind (ix n.Kids ((0 : Nat) : Int)) fun e113 => Option.bind (ms_KidPos n ((0 : Nat) : Int) q) fun r114 => Option.bind ((scc1 (M' + 1)).ms_l30At e113 r114 (toks.length : Int) a false (out.set i ⟨(toks.length : Int), z⟩)) fun r115 => ms_l30Node_k1 (M' + 1) (scc1 (M' + 1)) a false ((i : Int), (IntKind.wrap .i64 (r115.1 + 2)), r115.2))) := by
    rw [hc1, hc2, cond_true, cond_true, hL, Option.bind_some, wrap64 (by omega) (by omega), show (toks.length : Int) + 1 = ((toks ++ [so]).length : Int) by rw [la]; omega, hS, Option.bind_some]
    unfold mi_speller__operator_k2
    simp only [hsg, Option.bind_some]
    rw [putS_is _ _ _ _ (by simp; omega), Option.bind_some, Option.bind_some]
    simp only []
    rw [wrap64 (by omega) (by omega), show (tk1.length : Int) + 3 = ((tk1 ++ [sc] ++ [sg, (⟨6, t.text, 0⟩ : SToken)]).length : Int) by rw [lc]; omega]
    exact wrap_end (toks' := tk1 ++ [sc] ++ [sg, ⟨6, t.text, 0⟩]) (sp := sp) (z := z) ho hia r2 (by omega) (by rw [lc]; omega) (by rw [lc]; omega)
  clear hz hn hr hp hq hs hTop hL hS hc1 hc2 r1 r3
  obtain ⟨nk, no, nx, ny, nks⟩ := n
  obtain ⟨tk, to, tx, ty, tks⟩ := t
  have e1 : tk = nk := e1
  subst e1
  have hk : tk = 13 := hk
  subst hk
  exact key

end Go.Proofs.Tryz

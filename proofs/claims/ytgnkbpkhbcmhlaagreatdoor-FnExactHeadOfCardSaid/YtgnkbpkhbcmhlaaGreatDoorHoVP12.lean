/-
 Plain lemmas on the models, part 12.
-/
import Derived.Test.YtgnkbpkhbcmhlaaGreatDoorHoVP11
namespace Go.Proofs.Tryz
open Go.Av
set_option maxRecDepth 100000
set_option linter.unusedSimpArgs false
set_option linter.unusedVariables false

theorem fields_text (N : Nat) (n : SNode) (h : ms_FieldsOk N n = some true) : ms_l7Text N n = some true := by
 unfold ms_FieldsOk at h
 obtain ⟨⟨lo, hi⟩, h1, h⟩ := bind_some h
 obtain ⟨y6, h2, h⟩ := bind_some h
 obtain ⟨y13, h3, h⟩ := bind_some h
 cases h
 rcases cond_some h3 with ⟨_, h3⟩ | ⟨_, h3⟩
 ·obtain ⟨r14, ho, h3⟩ := bind_some h3
  rcases cond_some h3 with ⟨hc, h3⟩ | ⟨_, h3⟩
  ·obtain ⟨r15, ht, h3⟩ := bind_some h3
   rcases cond_some h3 with ⟨hc, h3⟩ | ⟨_, h3⟩
   ·rw [hc] at ht; exact ht
   ·cases h3
  ·cases h3
 ·cases h3

theorem nx_of (N : Nat) (a : List SNode) (hN : 500 < N) (hs : ∀ x, x ∈ a → smNode x) (hsh : shapeB a = true) (hok : ms_TreeOk N a = some true) : ∀ (t : STree) (s i : Nat), TA a t s i → allT GN t → allT NX t := by
 intro t
 induction t using STree.ind with
 | h t ih =>
  intro s i hT hg
  obtain ⟨n, hn, e1, e2, e3, e4, hka, hkl⟩ := hT.node
  have hmem := List.mem_of_getElem? hn
  obtain ⟨hf, _⟩ := treeOk_nodes N a hN hsh hok n hmem
  obtain ⟨_, _, _, ho, _, _⟩ := fields_parts N n hf
  have he := (allT_hd hg).e
  refine allT_mk ⟨?_, fun hk => ?_⟩ fun k hk => ?_
  ·rw [e3]
   exact text_nl N n (by omega) (hs n hmem).1 (by rw [← e1]; exact he) (fields_text N n hf)
  ·rw [e2]
   exact op_nl n (by rw [← e1]; exact hk) ho
  ·obtain ⟨q, hq⟩ := List.getElem?_of_mem hk
   obtain ⟨kk, s', g1, g2, _⟩ := hka.get q k hq
   exact ih k hk s' kk g2 (allT_kids hg k hk)

theorem rule_kids (N : Nat) (a : List SNode) (x : SNode) (h : NodeR N a x) (hx : x.Kids.length ≤ 400) (hk : x.Kind = 42 ∨ x.Kind = 43) : ∀ (q : Nat) (hq : q < x.Kids.length), ∃ y, ix a x.Kids[q] = some y ∧ (isE y.Kind = true ∨ (y.Kind = 33 ∧ q + 1 = x.Kids.length)) := by
 intro q hq
 obtain ⟨hf, hkid⟩ := h
 obtain ⟨y, h1, h2⟩ := hkid q hq
 refine ⟨y, h1, ?_⟩
 obtain ⟨lo, hi, hm, ho, hlo, hhi⟩ := fields_parts N x hf
 clear hkid h1 hf
 obtain ⟨k, o, tx, ty, ks⟩ := x
 generalize y.Kind = c at h2 ⊢
 simp only at hk hx hq hlo hhi ⊢
 have fin : ∀ b : Bool, (bif b then some true else some false) = some true → b = true := fun b h => by cases b <;> simp_all
 have hw : IntKind.wrap .i64 ((ks.length : Int) - 1) = ((ks.length - 1 : Nat) : Int) := by rw [wrap64 (by omega) (by omega)]; omega
 rcases hk with e | e <;> subst e
 ·have ho2 : o = 1 ∨ o = 2 ∨ o = 3 := by
   simp only [ms_l7Op, ms_l7Op_k1, Int.reduceBEq, cond_true, cond_false, l1In_is, Option.bind_some, Option.some.injEq, Bool.and_eq_true, decide_eq_true_eq] at ho
   omega
  rcases ho2 with e | e | e <;> subst e
  ·simp only [ms_l7Kid, ms_l7Kid_k1, ms_l7Kid_k2, Int.reduceBEq, cond_true, cond_false, isE_spec, Option.bind_some] at h2
   cases hE : isE c with
   | true => exact .inl rfl
   | false => rw [hE] at h2; simp at h2
  ·simp only [ms_l7Kid, ms_l7Kid_k1, ms_l7Kid_k2, Int.reduceBEq, cond_true, cond_false, isE_spec, Option.bind_some] at h2
   have hl : lo = 1 ∧ hi = 1 := by
    have e : ms_l7Many ⟨42, 2, tx, ty, ks⟩ = some (1, 1) := rfl
    rw [e] at hm
    cases hm
    exact ⟨rfl, rfl⟩
   cases h33 : c == 33 with
   | true => exact .inr ⟨by simpa using h33, by omega⟩
   | false => rw [h33] at h2; simp at h2
  ·simp only [ms_l7Kid, ms_l7Kid_k1, ms_l7Kid_k2, Int.reduceBEq, cond_true, cond_false, isE_spec, Option.bind_some, hw] at h2
   cases hq2 : ((q : Int) == ((ks.length - 1 : Nat) : Int)) with
   | true =>
    rw [hq2] at h2
    have : q = ks.length - 1 := by have := beq_iff_eq.1 hq2; omega
    cases h33 : c == 33 with
    | true => exact .inr ⟨by simpa using h33, by omega⟩
    | false => rw [h33] at h2; simp at h2
   | false =>
    rw [hq2] at h2
    cases hE : isE c with
    | true => exact .inl rfl
    | false => rw [hE] at h2; simp at h2
 ·have ho2 : o = 1 ∨ o = 3 := by
   simp only [ms_l7Op, ms_l7Op_k1, Int.reduceBEq, cond_true, cond_false] at ho
   obtain ⟨b, hb, ho⟩ := bind_some ho
   cases ho
   rcases cond_some hb with ⟨hb, _⟩ | ⟨_, hb⟩
   ·exact .inl (by simpa using hb)
   ·exact .inr (by have := Option.some.inj hb; simpa using this)
  simp only [ms_l7Kid, ms_l7Kid_k1, ms_l7Kid_k2, Int.reduceBEq, cond_true, cond_false, isE_spec, Option.bind_some] at h2
  have hl : ks.length = 2 ∨ ks.length = 3 := by
   rcases ho2 with e | e <;> subst e
   ·have e : ms_l7Many ⟨43, 1, tx, ty, ks⟩ = some (2, 2) := rfl
    rw [e] at hm
    cases hm
    omega
   ·have e : ms_l7Many ⟨43, 3, tx, ty, ks⟩ = some (3, 3) := rfl
    rw [e] at hm
    cases hm
    omega
  by_cases hq2 : q < 2
  ·have d1 : decide ((q : Int) < 2) = true := by simp; omega
   have d2 : ((q : Int) == 2) = false := by simp; omega
   rw [d1, d2] at h2
   cases hE : isE c with
   | true => exact .inl rfl
   | false => rw [hE] at h2; simp at h2
  ·have d1 : decide ((q : Int) < 2) = false := by simp; omega
   have d2 : ((q : Int) == 2) = true := by simp; omega
   rw [d1, d2] at h2
   cases h33 : c == 33 with
   | true => exact .inr ⟨by simpa using h33, by omega⟩
   | false => rw [h33] at h2; simp at h2

def EK (t : STree) : Prop := allT GN t ∧ allT TX t ∧ allT NX t ∧ szT t ≤ 400
def wdT (t : STree) : List (List UInt8) := bif t.kind == 33 then [] else [ftx (dcE t topP)]
def wdTs : List STree → List (List UInt8)
 | [] => []
 | t :: ts => wdT t ++ wdTs ts

theorem word_spec2 (N : Nat) (a : List SNode) (hN : 2000001 + 10000 < N) {t : STree} {s i : Nat} (hT : TA a t s i) (h : EK t) : ∃ d, ms_l18At N ⟨a, false⟩ (i : Int) topP = some d ∧ ms_FlatText N d = some (ftx (dcE t topP), true) := by
 obtain ⟨hg, hx, hn, hsz⟩ := h
 have h1 : ms_l18At N ⟨a, false⟩ (i : Int) topP = some (dl 0 (dcE t topP)) := spDE_of (spD a t hg hx) s i N topP hT rfl (by omega) hsz
 refine ⟨_, h1, ?_⟩
 have hz := dcE_sz2 t hg topP rfl
 have hk := kd_docE t topP hg hn
 have hsm := dl_sm (dcE t topP) 0 (dx_docE t topP hx) (by omega)
 have hlen : (dl 0 (dcE t topP)).length = dz (dcE t topP) := dl_len _ _
 unfold ms_FlatText
 rw [dspecOk_is N _ (by omega) (by omega) hsm, docB_dl _ hk (by omega), Option.bind_some]
 have h2 := flatS_l N (dl 0 (dcE t topP)) hsm (by omega) N 0 [] (by omega) (by omega) (by simp)
 rw [List.drop_zero, flL_dl _ 0 hk] at h2
 exact h2
theorem word_impl2 (N : Nat) (hN : 2000001 + 20000 < N) {t : STree} (h : EK t) : ∃ d, mi_topDoc N t = some d ∧ mi_doc__flat N d = some (ftx (dcE t topP), true) := by
 obtain ⟨hg, hx, hn, hsz⟩ := h
 have h1 : mi_exprDoc N t topP = some (dcE t topP) := imDE_of (allT_hd hg) (imD t hg hx) N topP rfl (by omega) hsz
 have hz := dcE_sz2 t hg topP rfl
 refine ⟨dcE t topP, ?_, flatI_is _ (kd_docE t topP hg hn) (dx_docE t topP hx) (by omega) N (by omega)⟩
 unfold mi_topDoc mi_Top
 rw [Option.bind_some]
 have h1' : mi_exprDoc N t (⟨1, false, false, false, false⟩ : SPos) = some (dcE t topP) := h1
 rw [h1', Option.bind_some]
theorem wd_len {t : STree} (h : EK t) : (ftx (dcE t topP)).length ≤ 8000000000 := by
 obtain ⟨hg, hx, hn, hsz⟩ := h
 have hz := dcE_sz2 t hg topP rfl
 have := ftx_len (dcE t topP) (dx_docE t topP hx)
 omega
theorem tail_len (sep : List UInt8) : ∀ {l : List (List UInt8)} {B : Nat}, (∀ w, w ∈ l → w.length ≤ B) → (Lib.joinTail sep l).length ≤ (sep.length + B) * l.length
 | [], B, _ => by simp [Lib.joinTail]
 | x :: l, B, h => by
  have h1 := tail_len sep (l := l) (B := B) fun w hw => h w (by simp [hw])
  have h2 := h x (by simp)
  have e : Lib.joinTail sep (x :: l) = sep ++ x ++ Lib.joinTail sep l := by simp [Lib.joinTail]
  rw [e, List.length_append, List.length_append, List.length_cons, Nat.mul_add]
  omega
theorem tail_cons (sep x : List UInt8) (l : List (List UInt8)) : Lib.joinTail sep (x :: l) = sep ++ x ++ Lib.joinTail sep l := by simp [Lib.joinTail]
theorem join_is {l : List (List UInt8)} (h : ∀ w, w ∈ l → w.length ≤ 8000000000) (hl : l.length ≤ 1000) : m_strings_Join l = some (Lib.join l [44, 32]) := by
 unfold m_strings_Join Go.Av.joinO
 rw [if_pos]
 refine ⟨by omega, ?_⟩
 cases l with
 | nil => simp [Lib.join_nil]
 | cons x r =>
  have h1 := tail_len [44, 32] (l := r) (B := 8000000000) fun w hw => h w (by simp [hw])
  have h2 := h x (by simp)
  rw [Lib.join_cons, List.length_append]
  simp only [List.length_cons, List.length_nil] at h1 hl
  have : (2 + 8000000000) * r.length ≤ (2 + 8000000000) * 1000 := Nat.mul_le_mul_left _ (by omega)
  omega

theorem ruleS_l (N : Nat) (a : List SNode) (hN : 2000001 + 10000 < N) (x : SNode) (hx : x.Kids.length ≤ 400) : ∀ (ts : List STree) (j n s e : Nat) (acc : List UInt8), KA a ts (x.Kids.drop j) s e → (∀ t, t ∈ ts → t.kind = 33 ∨ EK t) → 1 ≤ j → j ≤ x.Kids.length → ts.length < n → acc.length ≤ 8000000002 * j →
  ms_l42Head_l4 N n (a, x, acc, (j : Int)) = some (acc ++ Lib.joinTail [44, 32] (wdTs ts))
 | [], j, n, s, e, acc, hka, _, hj, hjl, hn, ha => by
  obtain ⟨n, rfl⟩ : ∃ m, n = m + 1 := ⟨n - 1, by simp at hn; omega⟩
  rw [KA] at hka
  have hlt : ¬ j < x.Kids.length := by
   intro h
   rw [drop_cons h] at hka
   cases hka.1
  rw [ms_l42Head_l4]
  simp only [lt_false hlt, cond_false]
  simp [wdTs, Lib.joinTail]
 | t :: ts, j, n, s, e, acc, hka, hk, hj, hjl, hn, ha => by
  simp only [List.length_cons] at hn
  obtain ⟨n, rfl⟩ : ∃ m, n = m + 1 := ⟨n - 1, by omega⟩
  rw [KA] at hka
  obtain ⟨i, ks', e1, h1, h2, h3, h4⟩ := hka
  have hlt : j < x.Kids.length := by
   cases Nat.lt_or_ge j x.Kids.length with
   | inl h => exact h
   | inr h => rw [List.drop_of_length_le h] at e1; cases e1
  have hget : x.Kids[j]? = some (i : Int) := by
   have := congrArg (fun l => l[0]?) e1
   simpa using this
  have hdrop : x.Kids.drop (j + 1) = ks' := by
   have := congrArg List.tail e1
   simpa using this
  obtain ⟨nd, hnd, ek, _⟩ := h3.node
  have next := fun acc' => ruleS_l N a hN x hx ts (j + 1) n (i + 1) e acc' (by rw [hdrop]; exact h4) (fun u hu => hk u (by simp [hu])) (by omega) (by omega) (by omega)
  rw [ms_l42Head_l4]
  simp only [lt_true hlt, cond_true, ix_get hget, ix_get hnd, Option.bind_some]
  rw [← ek, wdTs]
  unfold wdT
  cases h33 : t.kind == 33 with
  | true =>
   simp only [cond_true, List.nil_append]
   unfold ms_l42Head_k5
   simp only
   rw [wrap64 (by omega) (by omega), show (j : Int) + 1 = ((j + 1 : Nat) : Int) by omega]
   exact next acc (by omega)
  | false =>
   have ht : EK t := (hk t (by simp)).resolve_left (by simpa using h33)
   obtain ⟨d, d1, d2⟩ := word_spec2 N a hN h3 ht
   have d1' : ms_l18At N ⟨a, false⟩ (i : Int) (⟨1, false, false, false, false⟩ : SPos) = some d := d1
   have hwl := wd_len ht
   have hj0 : decide ((j : Int) > 0) = true := by simp; omega
   have c1 : cat acc ([44, 32] : List UInt8) = some (acc ++ [44, 32]) := cat_some (by simp only [maxLen, List.length_cons, List.length_nil]; omega)
   have c2 : cat (acc ++ [44, 32]) (ftx (dcE t topP)) = some (acc ++ [44, 32] ++ ftx (dcE t topP)) := cat_some (by simp only [maxLen, List.length_append, List.length_cons, List.length_nil]; omega)
   simp only [cond_false, ms_Top, Option.bind_some, d1', d2, hj0, cond_true, c1]
   unfold ms_l42Head_k6 ms_l42Head_k5
   simp only [c2, Option.bind_some]
   rw [wrap64 (by omega) (by omega), show (j : Int) + 1 = ((j + 1 : Nat) : Int) by omega, next _ (by simp only [List.length_append, List.length_cons, List.length_nil]; omega), List.singleton_append, tail_cons]
   simp only [List.append_assoc]

theorem ruleS_is (N : Nat) (a : List SNode) (hN : 2000001 + 10000 < N) (x : SNode) (hx : x.Kids.length ≤ 400) (ts : List STree) (s e : Nat) (hka : KA a ts x.Kids s e) (hk : ∀ t, t ∈ ts → t.kind = 33 ∨ EK t) (hlast : ∀ q t, ts[q]? = some t → t.kind = 33 → q + 1 = ts.length) :
  ms_l42Head_l4 N N (a, x, [], 0) = some (Lib.join (wdTs ts) [44, 32]) := by
 obtain ⟨n, hn⟩ : ∃ m, N = m + 1 := ⟨N - 1, by omega⟩
 cases ts with
 | nil =>
  rw [KA] at hka
  have e0 : ¬ 0 < x.Kids.length := by rw [hka.1]; simp
  rw [show ms_l42Head_l4 N N = ms_l42Head_l4 N (n + 1) by rw [← hn], ms_l42Head_l4]
  have d0 : decide ((0 : Int) < (x.Kids.length : Int)) = false := by rw [hka.1]; rfl
  rw [d0]
  rfl
 | cons t ts =>
  rw [KA] at hka
  obtain ⟨i, ks', e1, h1, h2, h3, h4⟩ := hka
  have hlt : 0 < x.Kids.length := by rw [e1]; simp
  have hget : x.Kids[0]? = some (i : Int) := by rw [e1]; rfl
  have hget' : ix x.Kids 0 = some (i : Int) := ix_get hget
  have hdrop : x.Kids.drop 1 = ks' := by rw [e1]; rfl
  obtain ⟨nd, hnd, ek, _⟩ := h3.node
  have d0 : decide ((0 : Int) < (x.Kids.length : Int)) = true := by simp; omega
  have hlen : ts.length ≤ ks'.length := by
   have key : ∀ (ts : List STree) (ks : List Int) (s e : Nat), KA a ts ks s e → ts.length ≤ ks.length := by
    intro ts
    induction ts with
    | nil => intro ks s e _; simp
    | cons u us ih =>
     intro ks s e h
     rw [KA] at h
     obtain ⟨_, ks2, rfl, _, _, _, h⟩ := h
     have := ih ks2 _ _ h
     simp only [List.length_cons]; omega
   exact key _ _ _ _ h4
  have hkl : ks'.length ≤ 400 := by rw [e1] at hx; simp only [List.length_cons] at hx; omega
  have next := fun acc' => ruleS_l N a hN x hx ts 1 n (i + 1) e acc' (by rw [hdrop]; exact h4) (fun u hu => hk u (by simp [hu])) (by omega) (by omega) (by omega)
  rw [show ms_l42Head_l4 N N = ms_l42Head_l4 N (n + 1) by rw [← hn], ms_l42Head_l4]
  simp only [d0, cond_true, hget', ix_get hnd, Option.bind_some]
  rw [← ek, wdTs]
  unfold wdT
  cases h33 : t.kind == 33 with
  | true =>
   have hl := hlast 0 t rfl (by simpa using h33)
   simp only [List.length_cons] at hl
   have : ts = [] := List.length_eq_zero_iff.1 (by omega)
   subst this
   simp only [cond_true]
   unfold ms_l42Head_k5
   simp only
   rw [wrap64 (by omega) (by omega)]
   exact next [] (by simp)
  | false =>
   have ht : EK t := (hk t (by simp)).resolve_left (by simpa using h33)
   obtain ⟨d, d1, d2⟩ := word_spec2 N a hN h3 ht
   have d1' : ms_l18At N ⟨a, false⟩ (i : Int) (⟨1, false, false, false, false⟩ : SPos) = some d := d1
   have hwl := wd_len ht
   have c2 : cat ([] : List UInt8) (ftx (dcE t topP)) = some (ftx (dcE t topP)) := by
    have := cat_some (a := []) (b := ftx (dcE t topP)) (by simp only [maxLen, List.length_nil]; omega)
    simpa using this
   have hj0 : decide ((0 : Int) > 0) = false := rfl
   simp only [cond_false, ms_Top, Option.bind_some, d1', d2, hj0]
   unfold ms_l42Head_k6 ms_l42Head_k5
   simp only [c2, Option.bind_some]
   rw [wrap64 (by omega) (by omega)]
   have := next (ftx (dcE t topP)) (by omega)
   rw [List.singleton_append, Lib.join_cons]
   exact this

theorem ruleI_l (N : Nat) (hN : 2000001 + 20000 < N) (t0 : STree) (hl : t0.kids.length ≤ 400) : ∀ (ts : List STree) (j n : Nat) (acc : List (List UInt8)), t0.kids.drop j = ts → (∀ t, t ∈ ts → t.kind = 33 ∨ EK t) → ts.length < n → acc.length ≤ j → j ≤ t0.kids.length → (∀ w, w ∈ acc → w.length ≤ 8000000000) →
  mi_HeadOf_l2 N n (t0, (j : Int), acc) = some (Lib.join (acc ++ wdTs ts) [44, 32])
 | [], j, n, acc, hd, hk, hn, ha, hj, hw => by
  obtain ⟨n, rfl⟩ : ∃ m, n = m + 1 := ⟨n - 1, by simp at hn; omega⟩
  have hlt : ¬ j < t0.kids.length := by
   intro h
   rw [drop_cons h] at hd
   cases hd
  rw [mi_HeadOf_l2]
  simp only [lt_false hlt, cond_false, wdTs, List.append_nil]
  rw [join_is hw (by omega), Option.bind_some]
 | t :: ts, j, n, acc, hd, hk, hn, ha, hj, hw => by
  simp only [List.length_cons] at hn
  obtain ⟨n, rfl⟩ : ∃ m, n = m + 1 := ⟨n - 1, by omega⟩
  have hlt : j < t0.kids.length := by
   cases Nat.lt_or_ge j t0.kids.length with
   | inl h => exact h
   | inr h => rw [List.drop_of_length_le h] at hd; cases hd
  rw [drop_cons hlt] at hd
  injection hd with hd1 hd2
  have next := fun acc' => ruleI_l N hN t0 hl ts (j + 1) n acc' hd2 (fun u hu => hk u (by simp [hu])) (by omega)
  rw [mi_HeadOf_l2]
  simp only [lt_true hlt, cond_true, ix_nat hlt, hd1, Option.bind_some]
  rw [wdTs]
  unfold wdT
  cases h33 : t.kind == 33 with
  | true =>
   have e33 : t.kind = 33 := by simpa using h33
   simp only [e33, bne_self_eq_false, cond_false, cond_true, List.nil_append]
   unfold mi_HeadOf_k3
   simp only
   rw [wrap64 (by omega) (by omega), show (j : Int) + 1 = ((j + 1 : Nat) : Int) by omega]
   exact next acc (by omega) (by omega) hw
  | false =>
   have ht : EK t := (hk t (by simp)).resolve_left (by simpa using h33)
   have n33 : (t.kind != 33) = true := by simpa using h33
   obtain ⟨d, d1, d2⟩ := word_impl2 N hN ht
   simp only [n33, cond_true, cond_false, d1, d2, Option.bind_some]
   rw [app_some (by simp only [List.length_cons, List.length_nil]; omega), Option.bind_some]
   unfold mi_HeadOf_k3
   simp only
   rw [wrap64 (by omega) (by omega), show (j : Int) + 1 = ((j + 1 : Nat) : Int) by omega, next _ (by simp; omega) (by omega) (fun w hw2 => by
    rcases List.mem_append.1 hw2 with h | h
    ·exact hw w h
    ·rw [List.mem_singleton.1 h]; exact wd_len ht)]
   simp

theorem parS_l (N : Nat) (a : List SNode) (i : Nat) (x : SNode) (hx : a[i]? = some x) (hl : x.Kids.length ≤ 400) : ∀ (ts : List STree) (j n s e : Nat) (acc : List (List UInt8)), KA a ts (x.Kids.drop j) s e → acc.length ≤ j → j ≤ x.Kids.length → ts.length < n →
  ms_l24Params_l1 N n (a, (i : Int), (j : Int), acc) = some (acc ++ (ts.take (ts.length - 1)).map (·.text))
 | [], j, n, s, e, acc, hka, ha, hj, hn => by
  obtain ⟨n, rfl⟩ : ∃ m, n = m + 1 := ⟨n - 1, by simp at hn; omega⟩
  rw [KA] at hka
  have hlt : ¬ j < x.Kids.length := by
   intro h
   rw [drop_cons h] at hka
   cases hka.1
  rw [ms_l24Params_l1, ix_get hx, Option.bind_some, wrap64 (by omega) (by omega), show (j : Int) + 1 = ((j + 1 : Nat) : Int) by omega, lt_false (by omega)]
  simp
 | t :: ts, j, n, s, e, acc, hka, ha, hj, hn => by
  simp only [List.length_cons] at hn
  obtain ⟨n, rfl⟩ : ∃ m, n = m + 1 := ⟨n - 1, by omega⟩
  rw [KA] at hka
  obtain ⟨c, ks', e1, h1, h2, h3, h4⟩ := hka
  have hlt : j < x.Kids.length := by
   cases Nat.lt_or_ge j x.Kids.length with
   | inl h => exact h
   | inr h => rw [List.drop_of_length_le h] at e1; cases e1
  have hget : x.Kids[j]? = some (c : Int) := by
   have := congrArg (fun l => l[0]?) e1
   simpa using this
  have hdrop : x.Kids.drop (j + 1) = ks' := by
   have := congrArg List.tail e1
   simpa using this
  obtain ⟨nd, hnd, _, _, et, _⟩ := h3.node
  rw [ms_l24Params_l1, ix_get hx, Option.bind_some, wrap64 (by omega) (by omega), show (j : Int) + 1 = ((j + 1 : Nat) : Int) by omega]
  cases ts with
  | nil =>
   rw [KA] at h4
   have hnl : ¬ j + 1 < x.Kids.length := by
    intro h
    rw [drop_cons h] at hdrop
    rw [← hdrop] at h4
    cases h4.1
   rw [lt_false hnl]
   simp
  | cons u us =>
   have hnl : j + 1 < x.Kids.length := by
    cases Nat.lt_or_ge (j + 1) x.Kids.length with
    | inl h => exact h
    | inr h =>
     rw [List.drop_of_length_le h] at hdrop
     rw [← hdrop, KA] at h4
     obtain ⟨_, _, h, _⟩ := h4
     cases h
   rw [lt_true hnl]
   simp only [cond_true, ix_get hget, ix_get hnd, Option.bind_some]
   rw [app_some (by simp only [List.length_cons, List.length_nil]; omega), Option.bind_some, parS_l N a i x hx hl (u :: us) (j + 1) n (c + 1) e (acc ++ [nd.Text]) (by rw [hdrop]; exact h4) (by simp; omega) (by omega) (by omega), ← et]
   simp

theorem comS_l (N : Nat) (l : List (List UInt8)) (hl : l.length ≤ 1000) (hw : ∀ w, w ∈ l → w.length ≤ 1048576) : ∀ (r : List (List UInt8)) (j n : Nat) (acc : List UInt8), l.drop j = r → 1 ≤ j → j ≤ l.length → r.length < n → acc.length ≤ 2000000 * (j + 1) →
  ms_l42Head_l1 N n (l, acc, (j : Int)) = some (acc ++ Lib.joinTail [44, 32] r ++ [41])
 | [], j, n, acc, hd, hj, hjl, hn, ha => by
  obtain ⟨n, rfl⟩ : ∃ m, n = m + 1 := ⟨n - 1, by simp at hn; omega⟩
  have hlt : ¬ j < l.length := by
   intro h
   rw [drop_cons h] at hd
   cases hd
  have c1 : cat acc ([41] : List UInt8) = some (acc ++ [41]) := cat_some (by simp only [maxLen, List.length_cons, List.length_nil]; omega)
  rw [ms_l42Head_l1]
  simp only [lt_false hlt, cond_false, c1, Option.bind_some]
  simp [Lib.joinTail]
 | w :: r, j, n, acc, hd, hj, hjl, hn, ha => by
  simp only [List.length_cons] at hn
  obtain ⟨n, rfl⟩ : ∃ m, n = m + 1 := ⟨n - 1, by omega⟩
  have hlt : j < l.length := by
   cases Nat.lt_or_ge j l.length with
   | inl h => exact h
   | inr h => rw [List.drop_of_length_le h] at hd; cases hd
  rw [drop_cons hlt] at hd
  injection hd with hd1 hd2
  have hwl := hw _ (List.getElem_mem hlt)
  rw [hd1] at hwl
  have c1 : cat acc ([44, 32] : List UInt8) = some (acc ++ [44, 32]) := cat_some (by simp only [maxLen, List.length_cons, List.length_nil]; omega)
  have c2 : cat (acc ++ [44, 32]) w = some (acc ++ [44, 32] ++ w) := cat_some (by simp only [maxLen, List.length_append, List.length_cons, List.length_nil]; omega)
  have hj0 : decide ((j : Int) > 0) = true := by simp; omega
  rw [ms_l42Head_l1]
  simp only [lt_true hlt, cond_true, hj0, c1, Option.bind_some]
  unfold ms_l42Head_k2
  simp only [ix_nat hlt, hd1, c2, Option.bind_some]
  rw [wrap64 (by omega) (by omega), show (j : Int) + 1 = ((j + 1 : Nat) : Int) by omega, comS_l N l hl hw r (j + 1) n _ hd2 (by omega) (by omega) (by omega) (by simp only [List.length_append, List.length_cons, List.length_nil]; omega), tail_cons]
  simp only [List.append_assoc]

theorem comS_is (N : Nat) (l : List (List UInt8)) (hl : l.length ≤ 1000) (hw : ∀ w, w ∈ l → w.length ≤ 1048576) (hN : 1000 < N) (acc : List UInt8) (ha : acc.length ≤ 1100000) : ms_l42Head_l1 N N (l, acc, 0) = some (acc ++ Lib.join l [44, 32] ++ [41]) := by
 obtain ⟨n, hn⟩ : ∃ m, N = m + 1 := ⟨N - 1, by omega⟩
 rw [show ms_l42Head_l1 N N = ms_l42Head_l1 N (n + 1) by rw [← hn], ms_l42Head_l1]
 cases l with
 | nil =>
  have c1 : cat acc ([41] : List UInt8) = some (acc ++ [41]) := cat_some (by simp only [maxLen, List.length_cons, List.length_nil]; omega)
  have d0 : decide ((0 : Int) < (([] : List (List UInt8)).length : Int)) = false := rfl
  rw [d0, cond_false, c1, Option.bind_some, Lib.join_nil, List.append_nil]
 | cons w r =>
  have hwl := hw w (by simp)
  have c2 : cat acc w = some (acc ++ w) := cat_some (by simp only [maxLen]; omega)
  have d0 : decide ((0 : Int) < ((w :: r).length : Int)) = true := by simp only [List.length_cons, decide_eq_true_eq]; omega
  have hix : ix (w :: r) 0 = some w := rfl
  have hj0 : decide ((0 : Int) > 0) = false := rfl
  rw [d0, cond_true, hj0, cond_false]
  unfold ms_l42Head_k2
  simp only [hix, c2, Option.bind_some]
  rw [wrap64 (by omega) (by omega)]
  have := comS_l N (w :: r) hl hw r 1 n (acc ++ w) rfl (by omega) (by simp) (by simp only [List.length_cons] at hl; omega) (by rw [List.length_append]; omega)
  rw [Lib.join_cons]
  have e : ms_l42Head_l1 N n (w :: r, acc ++ w, 0 + 1) = _ := this
  rw [e]
  simp only [List.append_assoc]

theorem parI_l (N : Nat) (t0 : STree) (l : List STree) (hl : l.length ≤ 400) (ht : t0.text.length ≤ 1048576) (hw : ∀ t, t ∈ l → t.text.length ≤ 1048576) : ∀ (r : List STree) (j n : Nat) (acc : List (List UInt8)), l.drop j = r → r.length < n → acc = (l.take j).map (·.text) → j ≤ l.length →
  mi_headOf_l1 N n (l, t0, (j : Int), acc) = some ([102, 117, 110, 99, 116, 105, 111, 110, 32] ++ t0.text ++ [40] ++ Lib.join (l.map (·.text)) [44, 32] ++ [41])
 | [], j, n, acc, hd, hn, ha, hj => by
  obtain ⟨n, rfl⟩ : ∃ m, n = m + 1 := ⟨n - 1, by simp at hn; omega⟩
  have hlt : ¬ j < l.length := by
   intro h
   rw [drop_cons h] at hd
   cases hd
  have hjl : j = l.length := by omega
  subst hjl
  rw [List.take_length] at ha
  subst ha
  have hwj : ∀ w, w ∈ l.map (·.text) → w.length ≤ 1048576 := fun w hw2 => by
   obtain ⟨t, ht, rfl⟩ := List.mem_map.1 hw2
   exact hw t ht
  have hjn := join_is (l := l.map (·.text)) (fun w hw2 => by have := hwj w hw2; omega) (by simp; omega)
  have hjl : (Lib.join (l.map (·.text)) [44, 32]).length ≤ 1000000000 := by
   cases hm : l.map (·.text) with
   | nil => simp [Lib.join_nil]
   | cons x r =>
    rw [hm] at hwj
    have h1 := tail_len [44, 32] (l := r) (B := 1048576) fun w hw => hwj w (by simp [hw])
    have h2 := hwj x (by simp)
    have h3 : r.length ≤ 400 := by have := congrArg List.length hm; simp only [List.length_map, List.length_cons] at this; omega
    rw [Lib.join_cons, List.length_append]
    simp only [List.length_cons, List.length_nil] at h1
    have : (2 + 1048576) * r.length ≤ (2 + 1048576) * 400 := Nat.mul_le_mul_left _ h3
    omega
  have c1 : cat ([102, 117, 110, 99, 116, 105, 111, 110, 32] : List UInt8) t0.text = some ([102, 117, 110, 99, 116, 105, 111, 110, 32] ++ t0.text) := cat_some (by simp only [maxLen, List.length_cons, List.length_nil]; omega)
  have c2 : cat ([102, 117, 110, 99, 116, 105, 111, 110, 32] ++ t0.text) ([40] : List UInt8) = some ([102, 117, 110, 99, 116, 105, 111, 110, 32] ++ t0.text ++ [40]) := cat_some (by simp only [maxLen, List.length_append, List.length_cons, List.length_nil]; omega)
  have c3 : cat ([102, 117, 110, 99, 116, 105, 111, 110, 32] ++ t0.text ++ [40]) (Lib.join (l.map (·.text)) [44, 32]) = some ([102, 117, 110, 99, 116, 105, 111, 110, 32] ++ t0.text ++ [40] ++ Lib.join (l.map (·.text)) [44, 32]) := cat_some (by simp only [maxLen, List.length_append, List.length_cons, List.length_nil]; omega)
  have c4 : cat ([102, 117, 110, 99, 116, 105, 111, 110, 32] ++ t0.text ++ [40] ++ Lib.join (l.map (·.text)) [44, 32]) ([41] : List UInt8) = some ([102, 117, 110, 99, 116, 105, 111, 110, 32] ++ t0.text ++ [40] ++ Lib.join (l.map (·.text)) [44, 32] ++ [41]) := cat_some (by simp only [maxLen, List.length_append, List.length_cons, List.length_nil]; omega)
  rw [mi_headOf_l1, lt_false hlt, cond_false, c1, Option.bind_some, c2, Option.bind_some, hjn, Option.bind_some, c3, Option.bind_some, c4, Option.bind_some]
 | t :: r, j, n, acc, hd, hn, ha, hj => by
  simp only [List.length_cons] at hn
  obtain ⟨n, rfl⟩ : ∃ m, n = m + 1 := ⟨n - 1, by omega⟩
  have hlt : j < l.length := by
   cases Nat.lt_or_ge j l.length with
   | inl h => exact h
   | inr h => rw [List.drop_of_length_le h] at hd; cases hd
  rw [drop_cons hlt] at hd
  injection hd with hd1 hd2
  rw [mi_headOf_l1]
  simp only [lt_true hlt, cond_true, ix_nat hlt, Option.bind_some]
  have hal : acc.length = j := by rw [ha, List.length_map, List.length_take]; omega
  rw [app_some (by simp only [List.length_cons, List.length_nil]; omega), Option.bind_some, wrap64 (by omega) (by omega), show (j : Int) + 1 = ((j + 1 : Nat) : Int) by omega]
  exact parI_l N t0 l hl ht hw r (j + 1) n _ hd2 (by omega) (by rw [ha, List.take_succ_eq_append_getElem hlt, List.map_append]; rfl) (by omega)

theorem headOf_ex (N : Nat) (a : List SNode) (i : Int) (hN : 2000001 + 30000 < N) (hs : ∀ z, z ∈ a → smNode z) : ∃ r, ms_HeadOf N a i = some r ∧ mi_HeadOf N a i = some r := by
 obtain ⟨b, b1, b2, b3⟩ := treeOk_ex N a (by omega) hs
 unfold ms_HeadOf mi_HeadOf
 rw [b1, b2]
 simp only [Option.bind_some]
 cases b with
 | false => exact ⟨_, rfl, rfl⟩
 | true =>
  obtain ⟨hsh, _⟩ := b3 rfl
  obtain ⟨l1, l2, r, _, _, _, hT, _⟩ := shape_of hsh
  rw [wrap64 (n := (a.length : Int) - 1) (by omega) (by omega), l1In_is, within_is]
  simp only [Bool.not_true, cond_false, Option.bind_some]
  cases hin : (decide (i ≥ 0) && decide (i ≤ (a.length : Int) - 1)) with
  | false => exact ⟨_, rfl, rfl⟩
  | true =>
   simp only [Bool.and_eq_true, decide_eq_true_eq] at hin
   obtain ⟨i, rfl⟩ := Int.eq_ofNat_of_zero_le hin.1
   have hil : i < a.length := by omega
   obtain ⟨t, s, _, ht⟩ := hT i hil
   obtain ⟨x, hx, e1, e2, e3, e4, hka, hkl⟩ := ht.node
   have hmem := List.mem_of_getElem? hx
   have hnr := treeOk_nodes N a (by omega) hsh b1 x hmem
   have hx400 := (shape_kids hsh x hmem).1
   have hsz : szT t ≤ 400 := by have := ht.part.2.1; omega
   have hta : mi_treeAt N a (i : Int) = some t := treeAt_is a t s i N ht (by omega) (by omega)
   simp only [Bool.not_true, cond_false, hta, Option.bind_some]
   unfold ms_l42Head
   rw [ix_get hx]
   simp only [Option.bind_some, ← e1]
   cases t.kind == 40
   case true => exact ⟨_, rfl, rfl⟩
   cases t.kind == 41
   case true => exact ⟨_, rfl, rfl⟩
   cases h44 : t.kind == 44 with
   | true =>
    have hxs := (hs x hmem).1
    have htk : ∀ u, u ∈ t.kids → u.text.length ≤ 1048576 := fun u hu => by
     obtain ⟨q, hq⟩ := List.getElem?_of_mem hu
     obtain ⟨kk, s', g1, g2, _⟩ := hka.get q u hq
     obtain ⟨nd, hnd, _, _, et, _⟩ := g2.node
     rw [et]
     exact (hs nd (List.mem_of_getElem? hnd)).1
    have k1 : 1 ≤ t.kids.length := by
     obtain ⟨lo, hi, hm, _, hlo, _⟩ := fields_parts N x hnr.1
     have hk44 : x.Kind = 44 := by rw [← e1]; simpa using h44
     have e : ms_l7Many x = some (1, 7) := by
      obtain ⟨k, o, tx, ty, ks⟩ := x
      simp only at hk44
      subst hk44
      rfl
     rw [e] at hm
     cases hm
     omega
    have c1 : cat ([102, 117, 110, 99, 116, 105, 111, 110, 32] : List UInt8) x.Text = some ([102, 117, 110, 99, 116, 105, 111, 110, 32] ++ x.Text) := cat_some (by simp only [maxLen, List.length_cons, List.length_nil]; omega)
    have c2 : cat ([102, 117, 110, 99, 116, 105, 111, 110, 32] ++ x.Text) ([40] : List UInt8) = some ([102, 117, 110, 99, 116, 105, 111, 110, 32] ++ x.Text ++ [40]) := cat_some (by simp only [maxLen, List.length_append, List.length_cons, List.length_nil]; omega)
    have hp : ms_l24Params N a (i : Int) = some ((t.kids.take (t.kids.length - 1)).map (·.text)) := by
     have := parS_l N a i x hx hx400 t.kids 0 N s i [] hka (by simp) (by omega) (by omega)
     rw [List.nil_append] at this
     exact this
    have hcut : cut t.kids 0 (IntKind.wrap .i64 ((t.kids.length : Int) - 1)) = some (t.kids.take (t.kids.length - 1)) := by
     rw [wrap64 (by omega) (by omega), show (t.kids.length : Int) - 1 = ((t.kids.length - 1 : Nat) : Int) by omega]
     have := cut_nat (l := t.kids) (a := 0) (b := t.kids.length - 1) (by omega) (by omega)
     simpa using this
    have hwl : ∀ w, w ∈ (t.kids.take (t.kids.length - 1)).map (·.text) → w.length ≤ 1048576 := fun w hw => by
     obtain ⟨u, hu, rfl⟩ := List.mem_map.1 hw
     exact htk u (List.mem_of_mem_take hu)
    have hll : (t.kids.take (t.kids.length - 1)).length ≤ 400 := by rw [List.length_take]; omega
    have hS := comS_is N _ (by rw [List.length_map]; omega) hwl (by omega) ([102, 117, 110, 99, 116, 105, 111, 110, 32] ++ x.Text ++ [40]) (by simp only [List.length_append, List.length_cons, List.length_nil]; omega)
    have hI : mi_headOf_l1 N N (t.kids.take (t.kids.length - 1), t, 0, []) = _ := parI_l N t (t.kids.take (t.kids.length - 1)) hll (by rw [e3]; exact hxs) (fun u hu => htk u (List.mem_of_mem_take hu)) _ 0 N [] List.drop_zero (by omega) (by simp) (by omega)
    have hI' : mi_headOf N t = mi_headOf_l1 N N (t.kids.take (t.kids.length - 1), t, 0, []) := by
     unfold mi_headOf
     rw [hcut, Option.bind_some]
    simp only [cond_false, cond_true, c1, c2, Option.bind_some, hp, hI', hI, hS]
    refine ⟨_, rfl, ?_⟩
    rw [e3]
   | false =>
    have rule : (t.kind = 42 ∨ t.kind = 43) → ∃ r, ms_l42Head_l4 N N (a, x, [], 0) = some r ∧ mi_HeadOf_l2 N N (t, 0, []) = some r := fun hk => by
     have hrk := rule_kids N a x hnr hx400 (by rw [← e1]; exact hk)
     have kid : ∀ (q : Nat) (k : STree), t.kids[q]? = some k → EK k ∨ (k.kind = 33 ∧ q + 1 = t.kids.length) := fun q k hq => by
      obtain ⟨kk, s', g1, g2, g3⟩ := hka.get q k hq
      have hql : q < x.Kids.length := (List.getElem?_eq_some_iff.1 g1).1
      obtain ⟨y, y1, y2⟩ := hrk q hql
      have hkk : x.Kids[q] = (kk : Int) := (List.getElem?_eq_some_iff.1 g1).2
      obtain ⟨m, m1, m2, _⟩ := g2.node
      rw [hkk, ix_get m1] at y1
      cases y1
      rw [← m2] at y2
      rcases y2 with y2 | ⟨y2, y3⟩
      ·have hg := good_of N a (by omega) hsh b1 k s' kk g2 y2
       exact .inl ⟨hg, tx_of hs k s' kk g2, nx_of N a (by omega) hs hsh b1 k s' kk g2 hg, by have := g2.part.2.1; omega⟩
      ·exact .inr ⟨y2, by omega⟩
     have hk2 : ∀ k, k ∈ t.kids → k.kind = 33 ∨ EK k := fun k hk => by
      obtain ⟨q, hq⟩ := List.getElem?_of_mem hk
      rcases kid q k hq with h | h
      ·exact .inr h
      ·exact .inl h.1
     refine ⟨_, ruleS_is N a (by omega) x hx400 t.kids s i hka hk2 (fun q k hq h33 => ?_), ?_⟩
     ·rcases kid q k hq with h | h
      ·have := (allT_hd h.1).e
       rw [h33] at this
       cases this
      ·exact h.2
     ·have := ruleI_l N (by omega) t (by omega) t.kids 0 N [] rfl hk2 (by omega) (by simp) (by omega) (fun w hw => by cases hw)
      rw [List.nil_append] at this
      exact this
    simp only [cond_false]
    unfold ms_l42Head_k3 mi_HeadOf_k1
    cases h42 : t.kind == 42 with
    | true =>
     obtain ⟨r, r1, r2⟩ := rule (.inl (by simpa using h42))
     exact ⟨r, by show Option.bind (ms_l42Head_l4 N N (a, x, [], 0)) _ = _; rw [r1]; rfl, r2⟩
    | false =>
     cases h43 : t.kind == 43 with
     | true =>
      obtain ⟨r, r1, r2⟩ := rule (.inr (by simpa using h43))
      exact ⟨r, by show Option.bind (ms_l42Head_l4 N N (a, x, [], 0)) _ = _; rw [r1]; rfl, r2⟩
     | false => exact ⟨[], rfl, rfl⟩

end Go.Proofs.Tryz

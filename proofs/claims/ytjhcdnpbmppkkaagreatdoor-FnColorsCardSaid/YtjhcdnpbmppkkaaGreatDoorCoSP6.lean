/-
 Plain lemmas on the models, part 6.
-/
import Derived.Test.YtjhcdnpbmppkkaaGreatDoorCoSP5
namespace Go.Proofs.Tryz
open Go.Av
set_option maxRecDepth 100000
set_option linter.unusedSimpArgs false
set_option linter.unusedVariables false

def TX (t : STree) : Prop := t.text.length ≤ 1048576
def SmL (l : List SToken) : Prop := ∀ z, z ∈ l → z.Text.length ≤ 1048576
theorem sm_app {a b : List SToken} (ha : SmL a) (hb : SmL b) : SmL (a ++ b) := fun z hz => (List.mem_append.1 hz).elim (ha z) (hb z)
theorem sm_cons {a : SToken} {b : List SToken} (ha : a.Text.length ≤ 1048576) (hb : SmL b) : SmL (a :: b) := fun z hz => (List.mem_cons.1 hz).elim (fun e => e ▸ ha) (hb z)
theorem sm_nil : SmL [] := fun z hz => by cases hz
theorem sm_bif {c : Bool} {a b : List SToken} (ha : SmL a) (hb : SmL b) : SmL (bif c then a else b) := by cases c <;> assumption
theorem sm_sg (k : Int) : (sg k).Text.length ≤ 1048576 := by have := spl_len k; show (spl k).length ≤ _; omega
theorem sm_get {l : List (List SToken)} (h : ∀ y, y ∈ l → SmL y) (j : Nat) : SmL (l.getD j []) := by
 unfold List.getD
 cases hx : l[j]? with
 | none => exact sm_nil
 | some y => exact h y (List.mem_of_getElem? hx)
theorem sm_comma : ∀ (l : List (List SToken)) (b : Bool), (∀ y, y ∈ l → SmL y) → SmL (commaL b l)
 | [], b, _ => by rw [commaL]; exact sm_nil
 | x :: xs, b, h => by
  rw [commaL]
  exact sm_app (sm_bif (sm_cons (sm_sg _) sm_nil) sm_nil) (sm_app (h x (by simp)) (sm_comma xs true fun y hy => h y (by simp [hy])))
theorem sm_asm (k o : Int) (x : List UInt8) (l : List (List SToken)) (hx : x.length ≤ 1048576) (h : ∀ y, y ∈ l → SmL y) : SmL (asmT k o x l) := by
 have g := fun j => sm_get h j
 have c := sm_comma l false h
 have s := fun k => sm_sg k
 have lf : ∀ k : Int, SmL [(⟨k, x, 0⟩ : SToken)] := fun k => sm_cons hx sm_nil
 unfold asmT
 repeat' (refine sm_bif ?_ ?_)
 ·exact lf _
 ·exact lf _
 ·exact lf _
 ·exact lf _
 ·exact sm_cons hx (sm_cons (s _) (sm_app c (sm_cons (s _) sm_nil)))
 ·exact sm_cons hx (sm_cons (s _) (sm_app c (sm_cons (s _) sm_nil)))
 ·exact sm_cons hx (sm_cons (s _) (sm_app c (sm_cons (s _) sm_nil)))
 ·exact sm_cons (s _) (g 0)
 ·exact sm_cons (s _) (g 0)
 ·exact sm_cons (s _) (g 0)
 ·exact sm_app (g 0) (sm_cons (s _) sm_nil)
 ·exact sm_app (sm_bif (sm_cons (s _) (sm_app c (sm_cons (s _) sm_nil))) (g 0)) (sm_cons (s _) (lf 6))
 ·exact sm_app (g 0) (sm_cons (s _) (sm_app (g 1) (sm_cons (s _) (g 2))))
 ·exact sm_app (g 0) (sm_app (sm_bif sm_nil (sm_cons (s _) sm_nil)) (g 1))
theorem sm_par {b : Bool} {x y : List SToken} (hx : SmL x) (hy : SmL y) : SmL (parT b x y) := sm_bif (sm_cons (sm_sg _) (sm_app hy (sm_cons (sm_sg _) sm_nil))) hx
mutual
theorem sm_tok (f : Bool) : ∀ (t : STree) (p : SPos), allT TX t → SmL (tokB f t p)
 | ⟨k, o, x, y, ks⟩, p, h => by
  rw [allT] at h
  rw [tokB]
  exact sm_asm k o x _ h.1 (sm_toks f k o ks.length p ks 0 h.2)
theorem sm_toks (f : Bool) (k o : Int) (n : Nat) (p : SPos) : ∀ (ts : List STree) (j : Nat), allTs TX ts → ∀ y, y ∈ tokKs f k o n j p ts → SmL y
 | [], j, _, y, hy => by rw [tokKs] at hy; cases hy
 | t :: ts, j, h, y, hy => by
  rw [allTs] at h
  rw [tokKs] at hy
  rcases List.mem_cons.1 hy with rfl | hy
  ·exact sm_bif (sm_tok f t _ h.1) (sm_par (sm_tok f t _ h.1) (sm_tok f t _ h.1))
  ·exact sm_toks f k o n p ts (j + 1) h.2 y hy
end
theorem sm_kid (f : Bool) (k o : Int) (n j : Nat) (p : SPos) (t : STree) (h : allT TX t) : SmL (kidTok f k o n j p t) := sm_bif (sm_tok f t _ h) (sm_par (sm_tok f t _ h) (sm_tok f t _ h))
theorem kidTok_ne (f : Bool) (k o : Int) (n j : Nat) (p : SPos) (t : STree) (h : allT GN t) : kidTok f k o n j p t ≠ [] := by
 have h1 := tokB_ne f t h
 unfold kidTok tokE parT
 cases tgt k j
 ·cases parF f t.kind t.op (kidP k o n j p)
  ·exact h1 _
  ·simp
 ·exact h1 _

def SpD (a : List SNode) (t : STree) : Prop := ∀ (s i M : Nat) (p : SPos), TA a t s i → posB p = true → 1050000 + 16 * szT t ≤ M → szT t ≤ 400 → (scc3 M).ms_l18Node ⟨a, false⟩ (i : Int) p = some (dl 0 (dcB t p))
def SpDE (a : List SNode) (t : STree) : Prop := ∀ (s i M : Nat) (p : SPos), TA a t s i → posB p = true → 1050001 + 16 * szT t ≤ M → szT t ≤ 400 → (scc3 M).ms_l18At ⟨a, false⟩ (i : Int) p = some (dl 0 (dcE t p))
theorem ltext_is (x : List UInt8) : ms_l15Text x = some (dl 0 (txD x)) := by
 unfold txD; rw [dl, dls, dE]; rfl
theorem lline_is : ms_l15Line = some (dl 0 lnD) := by
 unfold lnD; rw [dl, dls, dE]; rfl
theorem ov6 (N : Nat) (l : List SDoc) (hN : 1048577 < N) (h : dzs l ≤ 900000) : ms_l15Over N 6 0 (l.map (dl 0)) = some (dl 0 (ctD l)) := over_is N 6 0 l hN h
theorem ov4 (N : Nat) (d : SDoc) (hN : 1048577 < N) (h : dz d ≤ 900000) : ms_l15Over N 4 4 [dl 0 d] = some (dl 0 (nsD d)) := over_is N 4 4 [d] hN (by rw [dzs, dzs]; omega)
theorem ov5 (N : Nat) (d : SDoc) (hN : 1048577 < N) (h : dz d ≤ 900000) : ms_l15Over N 5 0 [dl 0 d] = some (dl 0 (grD d)) := over_is N 5 0 [d] hN (by rw [dzs, dzs]; omega)

theorem spDE_of {a : List SNode} {t : STree} (h : SpD a t) : SpDE a t := by
 intro s i M p hT hp hM hsz
 obtain ⟨M, rfl⟩ : ∃ m, M = m + 1 := ⟨M - 1, by omega⟩
 obtain ⟨n, hn, e1, e2, e3, e4, hka, hkl⟩ := hT.node
 have hl2 := dcB_sz t topP
 have r0 : (scc3 M).ms_l18Node ⟨a, false⟩ (i : Int) p = some (dl 0 (dcB t p)) := h s i M p hT hp (by omega) hsz
 have r1 : (scc3 M).ms_l18Node ⟨a, false⟩ (i : Int) (⟨1, false, false, false, false⟩ : SPos) = some (dl 0 (dcB t topP)) := h s i M topP hT rfl (by omega) hsz
 have o1 := ov6 M [txD [40], dcB t topP, txD [41]] (by omega) (by simp only [dzs, dz_tx]; omega)
 show ms_l18At_F M (scc3 M) ⟨a, false⟩ (i : Int) p = _
 unfold ms_l18At_F dcE parD
 simp only [ix_get hn, Option.bind_some, fits_is, ← e1, ← e2]
 cases fitB t.kind t.op p with
 | true => simp only [cond_true, r0, Option.bind_some, Bool.not_true, cond_false]
 | false =>
  simp only [cond_false, ltext_is, ms_Top, r1, Option.bind_some, Bool.not_false, cond_true]
  simp only [List.map_cons, List.map_nil] at o1
  rw [o1]
  rfl

theorem spDLv {a : List SNode} {kid : STree} {n : Nat} (hall : allT GN kid) (h : SpD a kid) (hl : isL kid.kind = true) (M s i : Nat) (p : SPos) (hta : TA a kid s i) (hM : 1050001 + 16 * szT kid ≤ M) (hsz : szT kid ≤ 400) (k o : Int) (ht : tgt k 0 = true) :
  (scc3 M).ms_l18Lvalue ⟨a, false⟩ (i : Int) = some (dl 0 (kidDc k o n 0 p kid)) := by
 obtain ⟨M, rfl⟩ : ∃ m, M = m + 1 := ⟨M - 1, by omega⟩
 show Option.bind ((scc3 M).ms_l18Node ⟨a, false⟩ (i : Int) (⟨14, false, false, false, false⟩ : SPos)) (fun r2 => some r2) = _
 rw [h s i M ⟨14, false, false, false, false⟩ hta rfl (by omega) hsz, Option.bind_some]
 unfold kidDc
 rw [ht, cond_true, (doc_rel kid hall).1 ⟨14, false, false, false, false⟩ (kidP k o n 0 p) (.inr (low9 hl))]

theorem spDList_l {a : List SNode} (M : Nat) (k o : Int) (n : Nat) (p : SPos) (hk : ∀ j, kidP k o n j p = topP) (htg : ∀ j, tgt k j = false) (ks : List Int) (hlen : ks.length ≤ 400) (hM0 : 1048577 < M) : ∀ (ts : List STree) (g j s e : Nat) (acc : List SDoc), (∀ t, t ∈ ts → SpD a t ∧ 1050001 + 16 * szT t ≤ M ∧ szT t ≤ 400) → KA a ts (ks.drop j) s e → j ≤ ks.length → ts.length < g → acc.length ≤ 4 * j → dzs acc + 16 * szTs ts ≤ 800000 →
  ms_l18List_l1 M (scc3 M) g (ks, ⟨a, false⟩, (⟨1, false, false, false, false⟩ : SPos), (j : Int), acc.map (dl 0)) = some (dl 0 (grD (nsD (ctD (acc ++ commaD (decide (j > 0)) (dcKs k o n j p ts))))))
 | [], g, j, s, e, acc, _, hka, hj, hg, hal, ha => by
  obtain ⟨g, rfl⟩ : ∃ m, g = m + 1 := ⟨g - 1, by simp at hg; omega⟩
  rw [KA] at hka
  have hlt : ¬ j < ks.length := by
   intro h
   rw [drop_cons h] at hka
   cases hka.1
  rw [ms_l18List_l1]
  simp only [lt_false hlt, cond_false]
  rw [szTs] at ha
  rw [ov6 M acc hM0 (by omega), Option.bind_some, ov4 M _ hM0 (by rw [dz_ct]; omega), Option.bind_some, ov5 M _ hM0 (by rw [dz_ns, dz_ct]; omega), dcKs]
  cases decide (j > 0) <;> simp only [commaD, List.append_nil] <;> rfl
 | t :: ts, g, j, s, e, acc, hB, hka, hj, hg, hal, ha => by
  simp only [List.length_cons] at hg
  obtain ⟨g, rfl⟩ : ∃ m, g = m + 1 := ⟨g - 1, by omega⟩
  rw [KA] at hka
  obtain ⟨i, ks', e1, h1, h2, h3, h4⟩ := hka
  have hlt : j < ks.length := by
   cases Nat.lt_or_ge j ks.length with
   | inl h => exact h
   | inr h => rw [List.drop_of_length_le h] at e1; cases e1
  have hget : ks[j]? = some (i : Int) := by
   have := congrArg (fun l => l[0]?) e1
   simpa using this
  have hdrop : ks.drop (j + 1) = ks' := by
   have := congrArg List.tail e1
   simpa using this
  obtain ⟨b1, b2, b3⟩ := hB t (by simp)
  rw [szTs] at ha
  have hte := dcE_sz t topP
  have hp1 := szT_pos t
  have hkt : kidDc k o n j p t = dcE t topP := by unfold kidDc; rw [htg, cond_false, hk]
  have step : ∀ acc' : List SDoc, acc'.length ≤ acc.length + 2 → dzs acc' ≤ dzs acc + 2 → ms_l18List_k2 M (scc3 M) (ms_l18List_l1 M (scc3 M) g) (ks, (j : Int), ⟨a, false⟩, (⟨1, false, false, false, false⟩ : SPos), acc'.map (dl 0)) = some (dl 0 (grD (nsD (ctD (acc' ++ (kidDc k o n j p t :: commaD true (dcKs k o n (j + 1) p ts))))))) := fun acc' hl hl2 => by
   unfold ms_l18List_k2
   have r1 : (scc3 M).ms_l18At ⟨a, false⟩ (i : Int) (⟨1, false, false, false, false⟩ : SPos) = some (dl 0 (dcE t topP)) := spDE_of b1 s i M topP h3 rfl b2 b3
   simp only [ix_get hget, Option.bind_some, r1]
   rw [app_some (by simp; omega), Option.bind_some, wrap64 (by omega) (by omega), show (j : Int) + 1 = ((j + 1 : Nat) : Int) by omega]
   have em : acc'.map (dl 0) ++ [dl 0 (dcE t topP)] = (acc' ++ [dcE t topP]).map (dl 0) := by simp
   rw [em]
   have := spDList_l M k o n p hk htg ks hlen hM0 ts g (j + 1) (i + 1) e (acc' ++ [dcE t topP]) (fun u hu => hB u (by simp [hu])) (by rw [hdrop]; exact h4) (by omega) (by omega) (by simp; omega) (by rw [dzs_app, dzs, dzs]; omega)
   rw [this, hkt, show decide (j + 1 > 0) = true by simp]
   simp
  rw [ms_l18List_l1]
  simp only [lt_true hlt, cond_true]
  rw [dcKs_cons, commaD]
  have hg2 : decide ((j : Int) > 0) = decide (j > 0) := by by_cases h : j > 0 <;> simp [h]
  rw [hg2]
  cases hj2 : decide (j > 0) with
  | true =>
   simp only [cond_true, ltext_is, lline_is, Option.bind_some]
   rw [app_some (by simp; omega), Option.bind_some]
   have em : acc.map (dl 0) ++ [dl 0 (txD [44]), dl 0 lnD] = (acc ++ [txD [44], lnD]).map (dl 0) := by simp
   rw [em]
   have := step (acc ++ [txD [44], lnD]) (by simp) (by rw [dzs_app]; simp only [dzs, dz_tx, dz_ln]; omega)
   simp only [List.append_assoc, List.cons_append, List.nil_append] at this ⊢
   exact this
  | false =>
   simp only [cond_false]
   have := step acc (by omega) (by omega)
   simpa using this

theorem spD (a : List SNode) : ∀ t : STree, allT GN t → allT TX t → SpD a t := by
 intro t
 induction t using STree.ind with
 | h t ih =>
  intro hall htx s i M p hT hp hM hszt
  have g := allT_hd hall
  have hxt : t.text.length ≤ 1048576 := allT_hd htx
  have hkx := allT_kids htx
  have hkall := allT_kids hall
  have hk : ∀ k, k ∈ t.kids → SpD a k := fun k hk => ih k hk (allT_kids hall k hk) (allT_kids htx k hk)
  have hkt : ∀ k, k ∈ t.kids → SpB a false k := fun k hk => spB a false k (allT_kids hall k hk)
  have hsz := szT_eq t
  have hl := g.le
  obtain ⟨M, rfl⟩ : ∃ m, M = m + 3 := ⟨M - 3, by omega⟩
  obtain ⟨n, hn, e1, e2, e3, e4, hka, hkl⟩ := hT.node
  have hnl : n.Kids.length ≤ 400 := by omega
  have hkp : ∀ j, j < t.kids.length → ms_KidPos n (j : Int) p = some (kidP t.kind t.op t.kids.length j p) := fun j hj => by
   have := kidPos_is n j p (by omega) (by omega) hp (by rw [← e1, ← e2]; exact g.lv)
   rw [this, ← e1, ← e2, hkl]
  show ms_l18Node_F (M + 2) (scc3 (M + 2)) ⟨a, false⟩ (i : Int) p = _
  unfold ms_l18Node_F
  simp only [ix_get hn, Option.bind_some]
  have cat_ok : ∀ a b : List UInt8, a.length + b.length ≤ 3000000 → cat a b = some (a ++ b) := fun a b h => cat_some (by simp only [maxLen]; omega)
  have hds := dcKs_sz t.kind t.op t.kids.length p t.kids 0
  have hdn := dcKs_len t.kind t.op t.kids.length p t.kids 0
  have hlsz := dz_list (dcKs t.kind t.op t.kids.length 0 p t.kids)
  have lstQ : (∀ j, kidP t.kind t.op t.kids.length j p = topP) → (∀ j, tgt t.kind j = false) → ∀ Q : Nat, 1050000 + 16 * szT t ≤ Q + 3 → (scc3 (Q + 1)).ms_l18List ⟨a, false⟩ n.Kids (⟨1, false, false, false, false⟩ : SPos) = some (dl 0 (listD (dcKs t.kind t.op t.kids.length 0 p t.kids))) := fun h1 h2 Q hQ => by
   show ms_l18List_l1 Q (scc3 Q) Q (n.Kids, ⟨a, false⟩, (⟨1, false, false, false, false⟩ : SPos), ((0 : Nat) : Int), ([] : List SDoc).map (dl 0)) = _
   rw [spDList_l Q t.kind t.op t.kids.length p h1 h2 n.Kids hnl (by omega) t.kids Q 0 s i [] (fun k hkm => ⟨hk k hkm, by have := szTs_mem hkm; omega, by have := szTs_mem hkm; omega⟩) hka (by omega) (by have := szTs_len t.kids; omega) (by simp) (by rw [dzs]; omega)]
   rfl
  have named : ∀ (op en : List UInt8), op.length ≤ 10 → (∀ j, kidP t.kind t.op t.kids.length j p = topP) → (∀ j, tgt t.kind j = false) → (scc3 (M + 2)).ms_l18Named ⟨a, false⟩ n op en = some (dl 0 (ctD [txD (n.Text ++ op), listD (dcKs t.kind t.op t.kids.length 0 p t.kids), txD en])) := fun op en ho h1 h2 => by
   have o1 := ov6 (M + 1) [txD (n.Text ++ op), listD (dcKs t.kind t.op t.kids.length 0 p t.kids), txD en] (by omega) (by simp only [dzs, dz_tx]; omega)
   show ((cat n.Text op).bind fun s7 => (ms_l15Text s7).bind fun r8 => Option.bind ms_Top fun r9 => ((scc3 (M + 1)).ms_l18List ⟨a, false⟩ n.Kids r9).bind fun r10 => (ms_l15Text en).bind fun r11 => (ms_l15Over (M + 1) 6 0 [r8, r10, r11]).bind fun r12 => some r12) = _
   rw [cat_ok _ _ (by rw [← e3]; omega), Option.bind_some, ltext_is, Option.bind_some, ms_Top, Option.bind_some, lstQ h1 h2 M (by omega), Option.bind_some, ltext_is, Option.bind_some]
   simp only [List.map_cons, List.map_nil] at o1
   rw [o1]
   rfl
  rw [dcB_eq]
  clear ih hT hall htx
  obtain ⟨k, o, x, y, ks⟩ := t
  obtain ⟨nk, no, nx, ny, nks⟩ := n
  simp only at e1 e2 e3 e4
  subst e1 e2 e3 e4
  simp only at hsz hl hka hkl hnl hkp hxt hkx hkall hk hkt hds hdn hlsz
  have hc := kinds g.e
  simp only at hc
  rcases hc with e | e | e | e | e | e | e | e | e | e | e | e | e | e | e <;> subst e
  ·exact ltext_is x
  ·exact ltext_is x
  ·exact ltext_is x
  ·exact ltext_is x
  ·exact (congrArg (Option.bind · fun r95 => some r95) (named [91] [93] (by decide) (fun j => rfl) (fun j => by unfold tgt; simp)))
  · -- 6
   have h1 := g.a1 (by simp)
   obtain ⟨kid, rfl⟩ := List.length_eq_one_iff.1 h1
   have hm : kid ∈ [kid] := by simp
   have hskid : szTs [kid] = szT kid := by rw [szTs, szTs]; omega
   have hkd := kidDc_sz 6 o 1 0 p kid
   simp only [KA] at hka
   obtain ⟨c, ks', rfl, h1, h2, hta, rfl, h3⟩ := hka
   subst h3
   have hkp0 : ms_KidPos ⟨6, o, x, y, [(c : Int)]⟩ 0 p = some (kidP 6 o 1 0 p) := hkp 0 (by simp)
   have hix : ix [(c : Int)] 0 = some (c : Int) := rfl
   have ec : dcKs 6 o 1 0 p [kid] = [kidDc 6 o 1 0 p kid] := by rw [dcKs_cons, dcKs]
   have et : tokKs false 6 o 1 0 p [kid] = [kidTok false 6 o 1 0 p kid] := by rw [tokKs_cons, tokKs]
   show _ = some (dl 0 (asmD 6 o x (tokKs false 6 o 1 0 p [kid]) (dcKs 6 o 1 0 p [kid])))
   rw [ec, et]
   have r1 : (scc3 (M + 2)).ms_l18At ⟨a, false⟩ (c : Int) (kidP 6 o 1 0 p) = some (dl 0 (kidDc 6 o 1 0 p kid)) := spDE_of (hk kid (by simp)) s c (M + 2) _ hta (kid_pos g.e) (by omega) (by omega)
   have o1 := ov6 (M + 2) [txD [36], kidDc 6 o 1 0 p kid] (by omega) (by simp only [dzs, dz_tx]; omega)
   simp only [List.map_cons, List.map_nil] at o1
   show ((ms_l15Text [36]).bind fun r195 => (ix [(c : Int)] 0).bind fun e196 => (ms_KidPos ⟨6, o, x, y, [(c : Int)]⟩ 0 p).bind fun r197 => ((scc3 (M + 2)).ms_l18At ⟨a, false⟩ e196 r197).bind fun r198 => (ms_l15Over (M + 2) 6 0 [r195, r198]).bind fun r199 => some r199) = _
   rw [ltext_is, Option.bind_some, hix, Option.bind_some, hkp0, Option.bind_some, r1, Option.bind_some, o1]
   rfl
  ·exact (congrArg (Option.bind · fun r95 => some r95) (named [40] [41] (by decide) (fun j => rfl) (fun j => by unfold tgt; simp)))
  ·exact (congrArg (Option.bind · fun r95 => some r95) (named [40] [41] (by decide) (fun j => rfl) (fun j => by unfold tgt; simp)))
  · -- 9
   have h1 := g.a1 (by simp)
   obtain ⟨kid, rfl⟩ := List.length_eq_one_iff.1 h1
   have hm : kid ∈ [kid] := by simp
   have hskid : szTs [kid] = szT kid := by rw [szTs, szTs]; omega
   have hkd := kidDc_sz 9 o 1 0 p kid
   simp only [KA] at hka
   obtain ⟨c, ks', rfl, h1, h2, hta, rfl, h3⟩ := hka
   subst h3
   have hkp0 : ms_KidPos ⟨9, o, x, y, [(c : Int)]⟩ 0 p = some (kidP 9 o 1 0 p) := hkp 0 (by simp)
   have hix : ix [(c : Int)] 0 = some (c : Int) := rfl
   have ec : dcKs 9 o 1 0 p [kid] = [kidDc 9 o 1 0 p kid] := by rw [dcKs_cons, dcKs]
   have et : tokKs false 9 o 1 0 p [kid] = [kidTok false 9 o 1 0 p kid] := by rw [tokKs_cons, tokKs]
   show _ = some (dl 0 (asmD 9 o x (tokKs false 9 o 1 0 p [kid]) (dcKs 9 o 1 0 p [kid])))
   rw [ec, et]
   have r1 := spDLv (n := 1) (hkall kid hm) (hk kid hm) (g.kl kid rfl (.inl rfl)) (M + 2) s c p hta (by omega) (by omega) 9 o rfl
   have o1 := ov6 (M + 2) [txD (spl o), kidDc 9 o 1 0 p kid] (by omega) (by simp only [dzs, dz_tx]; omega)
   simp only [List.map_cons, List.map_nil] at o1
   show ((ms_SpellOf o).bind fun r175 => (ms_l15Text r175).bind fun r176 => (ix [(c : Int)] 0).bind fun e177 => ((scc3 (M + 2)).ms_l18Lvalue ⟨a, false⟩ e177).bind fun r178 => (ms_l15Over (M + 2) 6 0 [r176, r178]).bind fun r179 => some r179) = _
   rw [spl_is, Option.bind_some, ltext_is, Option.bind_some, hix, Option.bind_some, r1, Option.bind_some, o1]
   rfl
  · -- 10
   have h1 := g.a1 (by simp)
   obtain ⟨kid, rfl⟩ := List.length_eq_one_iff.1 h1
   have hm : kid ∈ [kid] := by simp
   have hskid : szTs [kid] = szT kid := by rw [szTs, szTs]; omega
   have hkd := kidDc_sz 10 o 1 0 p kid
   simp only [KA] at hka
   obtain ⟨c, ks', rfl, h1, h2, hta, rfl, h3⟩ := hka
   subst h3
   have hkp0 : ms_KidPos ⟨10, o, x, y, [(c : Int)]⟩ 0 p = some (kidP 10 o 1 0 p) := hkp 0 (by simp)
   have hix : ix [(c : Int)] 0 = some (c : Int) := rfl
   have ec : dcKs 10 o 1 0 p [kid] = [kidDc 10 o 1 0 p kid] := by rw [dcKs_cons, dcKs]
   have et : tokKs false 10 o 1 0 p [kid] = [kidTok false 10 o 1 0 p kid] := by rw [tokKs_cons, tokKs]
   show _ = some (dl 0 (asmD 10 o x (tokKs false 10 o 1 0 p [kid]) (dcKs 10 o 1 0 p [kid])))
   rw [ec, et]
   have r1 := spDLv (n := 1) (hkall kid hm) (hk kid hm) (g.kl kid rfl (.inr (.inl rfl))) (M + 2) s c p hta (by omega) (by omega) 10 o rfl
   have o1 := ov6 (M + 2) [kidDc 10 o 1 0 p kid, txD (spl o)] (by omega) (by simp only [dzs, dz_tx]; omega)
   simp only [List.map_cons, List.map_nil] at o1
   show ((ix [(c : Int)] 0).bind fun e185 => ((scc3 (M + 2)).ms_l18Lvalue ⟨a, false⟩ e185).bind fun r186 => (ms_SpellOf o).bind fun r187 => (ms_l15Text r187).bind fun r188 => (ms_l15Over (M + 2) 6 0 [r186, r188]).bind fun r189 => some r189) = _
   rw [hix, Option.bind_some, r1, Option.bind_some, spl_is, Option.bind_some, ltext_is, Option.bind_some, o1]
   rfl
  · -- 11
   have h1 := g.a1 (by simp)
   obtain ⟨kid, rfl⟩ := List.length_eq_one_iff.1 h1
   have hm : kid ∈ [kid] := by simp
   have hskid : szTs [kid] = szT kid := by rw [szTs, szTs]; omega
   have hkd := kidDc_sz 11 o 1 0 p kid
   simp only [KA] at hka
   obtain ⟨c, ks', rfl, h1, h2, hta, rfl, h3⟩ := hka
   subst h3
   have hkp0 : ms_KidPos ⟨11, o, x, y, [(c : Int)]⟩ 0 p = some (kidP 11 o 1 0 p) := hkp 0 (by simp)
   have hix : ix [(c : Int)] 0 = some (c : Int) := rfl
   have ec : dcKs 11 o 1 0 p [kid] = [kidDc 11 o 1 0 p kid] := by rw [dcKs_cons, dcKs]
   have et : tokKs false 11 o 1 0 p [kid] = [kidTok false 11 o 1 0 p kid] := by rw [tokKs_cons, tokKs]
   show _ = some (dl 0 (asmD 11 o x (tokKs false 11 o 1 0 p [kid]) (dcKs 11 o 1 0 p [kid])))
   rw [ec, et]
   have r1 : (scc3 (M + 2)).ms_l18At ⟨a, false⟩ (c : Int) (kidP 11 o 1 0 p) = some (dl 0 (kidDc 11 o 1 0 p kid)) := spDE_of (hk kid (by simp)) s c (M + 2) _ hta (kid_pos g.e) (by omega) (by omega)
   have q1 : ms_l10At (M + 2) ⟨a, false⟩ (c : Int) (kidP 11 o 1 0 p) = some (kidTok false 11 o 1 0 p kid) := spE_of (hkt kid hm) s c (M + 2) _ hta (kid_pos g.e) (by omega) (by omega)
   have hne := kidTok_ne false 11 o 1 0 p kid (hkall kid hm)
   have hsm := sm_kid false 11 o 1 0 p kid (hkx kid hm)
   obtain ⟨d, ds, hcs⟩ : ∃ d ds, kidTok false 11 o 1 0 p kid = d :: ds := by
    cases hx : kidTok false 11 o 1 0 p kid with
    | nil => exact absurd hx hne
    | cons u us => exact ⟨u, us, rfl⟩
   have hcx : d.Text.length ≤ 1048576 := hsm d (by rw [hcs]; simp)
   have hsl := spl_len o
   have hgap := gapS_is (sg o) d (by show (spl o).length ≤ _; omega) (by omega) (M + 2) (by omega)
   have c1 : cat (spl o) ([32] : List UInt8) = some (spl o ++ [32]) := cat_ok _ _ (by simp; omega)
   show ((ms_SpellOf o).bind fun r221 => (ms_l10Tok o).bind fun r253 => (ix [(c : Int)] 0).bind fun e254 => (ms_KidPos ⟨11, o, x, y, [(c : Int)]⟩ 0 p).bind fun r255 => (ms_l10At (M + 2) ⟨a, false⟩ e254 r255).bind fun r256 => (ix r256 0).bind fun e257 => (ms_NeedsGap (M + 2) r253 e257).bind fun r258 => bif r258 then (cat r221 ([32] : List UInt8)).bind fun s260 => ms_l18Node_k2 (M + 2) (scc3 (M + 2)) (⟨a, false⟩, p, ⟨11, o, x, y, [(c : Int)]⟩, s260) else (ms_l18Node_k2 (M + 2) (scc3 (M + 2)) (⟨a, false⟩, p, ⟨11, o, x, y, [(c : Int)]⟩, r221))) = _
   have hix2 : ix (d :: ds) 0 = some d := rfl
   rw [spl_is, Option.bind_some, tok_is, Option.bind_some, hix, Option.bind_some, hkp0, Option.bind_some, q1, Option.bind_some, hcs, hix2, Option.bind_some, hgap, Option.bind_some, c1]
   have fin : ∀ z : List UInt8, ms_l18Node_k2 (M + 2) (scc3 (M + 2)) (⟨a, false⟩, p, ⟨11, o, x, y, [(c : Int)]⟩, z) = some (dl 0 (ctD [txD z, kidDc 11 o 1 0 p kid])) := fun z => by
    have o1 := ov6 (M + 2) [txD z, kidDc 11 o 1 0 p kid] (by omega) (by simp only [dzs, dz_tx]; omega)
    simp only [List.map_cons, List.map_nil] at o1
    unfold ms_l18Node_k2
    simp only [ltext_is, Option.bind_some, hix, hkp0, r1, o1]
   simp only [Option.bind_some, fin]
   show _ = some (dl 0 (ctD [txD (spl o ++ (bif gapB (sg o) d then [32] else [])), kidDc 11 o 1 0 p kid]))
   cases gapB (sg o) d <;> simp
  · -- 12
   have h1 := g.a2 (by simp)
   obtain ⟨kx, ky, rfl⟩ := len_two h1
   have hskid : szTs [kx, ky] = szT kx + szT ky := by rw [szTs, szTs, szTs]; omega
   have hkd := kidDc_sz 12 o 2 0 p kx
   have hkd2 := kidDc_sz 12 o 2 1 p ky
   simp only [KA] at hka
   obtain ⟨c, ks', rfl, h1, h2, hta, c2, ks'', rfl, h3, h4, hta2, rfl, h5⟩ := hka
   subst h5
   have hkp0 : ms_KidPos ⟨12, o, x, y, [(c : Int), (c2 : Int)]⟩ 0 p = some (kidP 12 o 2 0 p) := hkp 0 (by simp)
   have hkp1 : ms_KidPos ⟨12, o, x, y, [(c : Int), (c2 : Int)]⟩ 1 p = some (kidP 12 o 2 1 p) := hkp 1 (by simp)
   have hix : ix [(c : Int), (c2 : Int)] 0 = some (c : Int) := rfl
   have hix1 : ix [(c : Int), (c2 : Int)] 1 = some (c2 : Int) := rfl
   have ec : dcKs 12 o 2 0 p [kx, ky] = [kidDc 12 o 2 0 p kx, kidDc 12 o 2 1 p ky] := by rw [dcKs_cons, dcKs_cons, dcKs]
   have hsl := spl_len o
   have c1 : cat ([32] : List UInt8) (spl o) = some ([32] ++ spl o) := cat_ok _ _ (by simp; omega)
   have c2' : cat ([32] ++ spl o) ([32] : List UInt8) = some ([32] ++ spl o ++ [32]) := cat_ok _ _ (by simp; omega)
   show _ = some (dl 0 (asmD 12 o x (tokKs false 12 o 2 0 p [kx, ky]) (dcKs 12 o 2 0 p [kx, ky])))
   rw [ec]
   have r1 : (scc3 (M + 1)).ms_l18At ⟨a, false⟩ (c : Int) (kidP 12 o 2 0 p) = some (dl 0 (kidDc 12 o 2 0 p kx)) := spDE_of (hk kx (by simp)) s c (M + 1) _ hta (kid_pos g.e) (by omega) (by omega)
   have r2 : (scc3 (M + 1)).ms_l18At ⟨a, false⟩ (c2 : Int) (kidP 12 o 2 1 p) = some (dl 0 (kidDc 12 o 2 1 p ky)) := spDE_of (hk ky (by simp)) (c + 1) c2 (M + 1) _ hta2 (kid_pos g.e) (by omega) (by omega)
   have o1 := ov6 (M + 1) [kidDc 12 o 2 0 p kx, txD [32], kidDc 12 o 2 1 p ky] (by omega) (by simp only [dzs, dz_tx]; omega)
   have o2 := ov6 (M + 1) [kidDc 12 o 2 0 p kx, txD ([32] ++ spl o), lnD, kidDc 12 o 2 1 p ky] (by omega) (by simp only [dzs, dz_tx, dz_ln]; omega)
   have o3 := ov6 (M + 1) [kidDc 12 o 2 0 p kx, txD ([32] ++ spl o ++ [32]), kidDc 12 o 2 1 p ky] (by omega) (by simp only [dzs, dz_tx]; omega)
   have o4 := ov4 (M + 1) (ctD [kidDc 12 o 2 0 p kx, txD ([32] ++ spl o), lnD, kidDc 12 o 2 1 p ky]) (by omega) (by simp only [dz_ct, dzs, dz_tx, dz_ln]; omega)
   have o5 := ov5 (M + 1) (nsD (ctD [kidDc 12 o 2 0 p kx, txD ([32] ++ spl o), lnD, kidDc 12 o 2 1 p ky])) (by omega) (by simp only [dz_ns, dz_ct, dzs, dz_tx, dz_ln]; omega)
   simp only [List.map_cons, List.map_nil] at o1 o2 o3
   have fin : ∀ b : Bool, ms_l18Bin_k1 (M + 1) (scc3 (M + 1)) (⟨12, o, x, y, [(c : Int), (c2 : Int)]⟩, dl 0 (kidDc 12 o 2 0 p kx), dl 0 (kidDc 12 o 2 1 p ky), b) = some (dl 0 (bif b then grD (nsD (ctD [kidDc 12 o 2 0 p kx, txD ([32] ++ spl o), lnD, kidDc 12 o 2 1 p ky])) else ctD [kidDc 12 o 2 0 p kx, txD ([32] ++ spl o ++ [32]), kidDc 12 o 2 1 p ky])) := fun b => by
    unfold ms_l18Bin_k1
    cases b with
    | true => simp only [cond_true, spl_is, Option.bind_some, c1, ltext_is, lline_is, o2, o4, o5]
    | false => simp only [cond_false, spl_is, Option.bind_some, c1, c2', ltext_is, o3]
   show Option.bind ((ix [(c : Int), (c2 : Int)] 0).bind fun e4 => (ms_KidPos ⟨12, o, x, y, [(c : Int), (c2 : Int)]⟩ 0 p).bind fun r5 => ((scc3 (M + 1)).ms_l18At ⟨a, false⟩ e4 r5).bind fun r6 => (ix [(c : Int), (c2 : Int)] 1).bind fun e10 => (ms_KidPos ⟨12, o, x, y, [(c : Int), (c2 : Int)]⟩ 1 p).bind fun r11 => ((scc3 (M + 1)).ms_l18At ⟨a, false⟩ e10 r11).bind fun r12 => bif (o == 99) then (ms_l15Text [32]).bind fun r34 => (ms_l15Over (M + 1) 6 0 [r6, r34, r12]).bind fun r35 => some r35 else (bif (o == 45) then ms_l18Bin_k1 (M + 1) (scc3 (M + 1)) (⟨12, o, x, y, [(c : Int), (c2 : Int)]⟩, r6, r12, (o == 45)) else (ms_l18Bin_k1 (M + 1) (scc3 (M + 1)) (⟨12, o, x, y, [(c : Int), (c2 : Int)]⟩, r6, r12, (o == 44))))) (fun r322 => some r322) = some (dl 0 (bif o == 99 then ctD [kidDc 12 o 2 0 p kx, txD [32], kidDc 12 o 2 1 p ky] else bif (o == 45 || o == 44) then grD (nsD (ctD [kidDc 12 o 2 0 p kx, txD ([32] ++ spl o), lnD, kidDc 12 o 2 1 p ky])) else ctD [kidDc 12 o 2 0 p kx, txD ([32] ++ spl o ++ [32]), kidDc 12 o 2 1 p ky]))
   rw [hix, Option.bind_some, hkp0, Option.bind_some, r1, Option.bind_some, hix1, Option.bind_some, hkp1, Option.bind_some, r2, Option.bind_some, fin, fin, ltext_is, Option.bind_some, o1]
   cases o == 99 <;> cases o == 45 <;> cases o == 44 <;> rfl
  · -- 13
   have h1 := g.ai (by simp)
   simp only at h1
   have c1 : cat ([41, 32, 105, 110, 32] : List UInt8) x = some ([41, 32, 105, 110, 32] ++ x) := cat_ok _ _ (by simp; omega)
   have c2 : cat ([32, 105, 110, 32] : List UInt8) x = some ([32, 105, 110, 32] ++ x) := cat_ok _ _ (by simp; omega)
   show (bif ((nks.length : Int) == 1) then (ix nks 0).bind fun e303 => (ms_KidPos ⟨13, o, x, y, nks⟩ 0 p).bind fun r304 => ((scc3 (M + 2)).ms_l18At ⟨a, false⟩ e303 r304).bind fun r305 => (cat ([32, 105, 110, 32] : List UInt8) x).bind fun s306 => (ms_l15Text s306).bind fun r307 => (ms_l15Over (M + 2) 6 0 [r305, r307]).bind fun r308 => some r308 else ((ms_l15Text [40]).bind fun r315 => Option.bind ms_Top fun r316 => ((scc3 (M + 2)).ms_l18List ⟨a, false⟩ nks r316).bind fun r317 => (cat ([41, 32, 105, 110, 32] : List UInt8) x).bind fun s318 => (ms_l15Text s318).bind fun r319 => (ms_l15Over (M + 2) 6 0 [r315, r317, r319]).bind fun r320 => some r320)) = some (dl 0 (bif decide ((dcKs 13 o ks.length 0 p ks).length > 1) then ctD [txD [40], listD (dcKs 13 o ks.length 0 p ks), txD ([41, 32, 105, 110, 32] ++ x)] else ctD [kd0 (dcKs 13 o ks.length 0 p ks) 0, txD ([32, 105, 110, 32] ++ x)]))
   rw [dcKs_len]
   cases hn : decide (ks.length > 1) with
   | true =>
    have hn2 : 1 < ks.length := by simpa using hn
    have hne : ((nks.length : Int) == 1) = false := by rw [beq_eq_false_iff_ne]; omega
    have o1 := ov6 (M + 2) [txD [40], listD (dcKs 13 o ks.length 0 p ks), txD ([41, 32, 105, 110, 32] ++ x)] (by omega) (by simp only [dzs, dz_tx]; omega)
    simp only [List.map_cons, List.map_nil] at o1
    have hll : (scc3 (M + 2)).ms_l18List ⟨a, false⟩ nks (⟨1, false, false, false, false⟩ : SPos) = some (dl 0 (listD (dcKs 13 o ks.length 0 p ks))) := lstQ (fun j => by unfold kidP; simp only [hn]; rfl) (fun j => by unfold tgt; simp) (M + 1) (by omega)
    rw [hne, cond_false, cond_true, ltext_is, Option.bind_some, ms_Top, Option.bind_some, hll, Option.bind_some, c1, Option.bind_some, ltext_is, Option.bind_some, o1]
    rfl
   | false =>
    have hn2 : ¬ 1 < ks.length := by simpa using hn
    obtain ⟨kid, rfl⟩ := List.length_eq_one_iff.1 (by omega : ks.length = 1)
    have hskid : szTs [kid] = szT kid := by rw [szTs, szTs]; omega
    have hkd := kidDc_sz 13 o 1 0 p kid
    simp only [KA] at hka
    obtain ⟨c, ks', rfl, h1, h2, hta, rfl, h3⟩ := hka
    subst h3
    have hkp0 : ms_KidPos ⟨13, o, x, y, [(c : Int)]⟩ 0 p = some (kidP 13 o 1 0 p) := hkp 0 (by simp)
    have hix : ix [(c : Int)] 0 = some (c : Int) := rfl
    have ec : dcKs 13 o 1 0 p [kid] = [kidDc 13 o 1 0 p kid] := by rw [dcKs_cons, dcKs]
    have r1 : (scc3 (M + 2)).ms_l18At ⟨a, false⟩ (c : Int) (kidP 13 o 1 0 p) = some (dl 0 (kidDc 13 o 1 0 p kid)) := spDE_of (hk kid (by simp)) s c (M + 2) _ hta (kid_pos g.e) (by omega) (by omega)
    have o1 := ov6 (M + 2) [kidDc 13 o 1 0 p kid, txD ([32, 105, 110, 32] ++ x)] (by omega) (by simp only [dzs, dz_tx]; omega)
    simp only [List.map_cons, List.map_nil] at o1
    have hone : (([(c : Int)].length : Int) == 1) = true := rfl
    rw [hone, cond_true, cond_false, hix, Option.bind_some, hkp0, Option.bind_some, r1, Option.bind_some, c2, Option.bind_some, ltext_is, Option.bind_some, o1]
    show _ = some (dl 0 (ctD [kd0 (dcKs 13 o 1 0 p [kid]) 0, txD ([32, 105, 110, 32] ++ x)]))
    rw [ec]
    rfl
  · -- 14
   have h1 := g.a3 rfl
   obtain ⟨kx, ky, kz, rfl⟩ := len_three h1
   have hskid : szTs [kx, ky, kz] = szT kx + szT ky + szT kz := by rw [szTs, szTs, szTs, szTs]; omega
   have hkd := kidDc_sz 14 o 3 0 p kx
   have hkd2 := kidDc_sz 14 o 3 1 p ky
   have hkd3 := kidDc_sz 14 o 3 2 p kz
   simp only [KA] at hka
   obtain ⟨c, ks', rfl, h1, h2, hta, c2, ks'', rfl, h3, h4, hta2, c3, ks3, rfl, h5, h6, hta3, rfl, h7⟩ := hka
   subst h7
   have hkp0 : ms_KidPos ⟨14, o, x, y, [(c : Int), (c2 : Int), (c3 : Int)]⟩ 0 p = some (kidP 14 o 3 0 p) := hkp 0 (by simp)
   have hkp1 : ms_KidPos ⟨14, o, x, y, [(c : Int), (c2 : Int), (c3 : Int)]⟩ 1 p = some (kidP 14 o 3 1 p) := hkp 1 (by simp)
   have hkp2 : ms_KidPos ⟨14, o, x, y, [(c : Int), (c2 : Int), (c3 : Int)]⟩ 2 p = some (kidP 14 o 3 2 p) := hkp 2 (by simp)
   have hix : ix [(c : Int), (c2 : Int), (c3 : Int)] 0 = some (c : Int) := rfl
   have hix1 : ix [(c : Int), (c2 : Int), (c3 : Int)] 1 = some (c2 : Int) := rfl
   have hix2 : ix [(c : Int), (c2 : Int), (c3 : Int)] 2 = some (c3 : Int) := rfl
   have ec : dcKs 14 o 3 0 p [kx, ky, kz] = [kidDc 14 o 3 0 p kx, kidDc 14 o 3 1 p ky, kidDc 14 o 3 2 p kz] := by rw [dcKs_cons, dcKs_cons, dcKs_cons, dcKs]
   have r1 : (scc3 (M + 2)).ms_l18At ⟨a, false⟩ (c : Int) (kidP 14 o 3 0 p) = some (dl 0 (kidDc 14 o 3 0 p kx)) := spDE_of (hk kx (by simp)) s c (M + 2) _ hta (kid_pos g.e) (by omega) (by omega)
   have r2 : (scc3 (M + 2)).ms_l18At ⟨a, false⟩ (c2 : Int) (kidP 14 o 3 1 p) = some (dl 0 (kidDc 14 o 3 1 p ky)) := spDE_of (hk ky (by simp)) (c + 1) c2 (M + 2) _ hta2 (kid_pos g.e) (by omega) (by omega)
   have r3 : (scc3 (M + 2)).ms_l18At ⟨a, false⟩ (c3 : Int) (kidP 14 o 3 2 p) = some (dl 0 (kidDc 14 o 3 2 p kz)) := spDE_of (hk kz (by simp)) (c2 + 1) c3 (M + 2) _ hta3 (kid_pos g.e) (by omega) (by omega)
   have o1 := ov6 (M + 2) [kidDc 14 o 3 0 p kx, txD [32, 63, 32], kidDc 14 o 3 1 p ky, txD [32, 58, 32], kidDc 14 o 3 2 p kz] (by omega) (by simp only [dzs, dz_tx]; omega)
   simp only [List.map_cons, List.map_nil] at o1
   show ((ix [(c : Int), (c2 : Int), (c3 : Int)] 0).bind fun e273 => (ms_KidPos ⟨14, o, x, y, [(c : Int), (c2 : Int), (c3 : Int)]⟩ 0 p).bind fun r274 => ((scc3 (M + 2)).ms_l18At ⟨a, false⟩ e273 r274).bind fun r275 => (ms_l15Text [32, 63, 32]).bind fun r276 => (ix [(c : Int), (c2 : Int), (c3 : Int)] 1).bind fun e277 => (ms_KidPos ⟨14, o, x, y, [(c : Int), (c2 : Int), (c3 : Int)]⟩ 1 p).bind fun r278 => ((scc3 (M + 2)).ms_l18At ⟨a, false⟩ e277 r278).bind fun r279 => (ms_l15Text [32, 58, 32]).bind fun r280 => (ix [(c : Int), (c2 : Int), (c3 : Int)] 2).bind fun e281 => (ms_KidPos ⟨14, o, x, y, [(c : Int), (c2 : Int), (c3 : Int)]⟩ 2 p).bind fun r282 => ((scc3 (M + 2)).ms_l18At ⟨a, false⟩ e281 r282).bind fun r283 => (ms_l15Over (M + 2) 6 0 [r275, r276, r279, r280, r283]).bind fun r284 => some r284) = some (dl 0 (asmD 14 o x (tokKs false 14 o 3 0 p [kx, ky, kz]) (dcKs 14 o 3 0 p [kx, ky, kz])))
   rw [ec, hix, Option.bind_some, hkp0, Option.bind_some, r1, Option.bind_some, ltext_is, Option.bind_some, hix1, Option.bind_some, hkp1, Option.bind_some, r2, Option.bind_some, ltext_is, Option.bind_some, hix2, Option.bind_some, hkp2, Option.bind_some, r3, Option.bind_some, o1]
   rfl
  · -- 15
   have h1 := g.a2 (by simp)
   obtain ⟨kx, ky, rfl⟩ := len_two h1
   have hskid : szTs [kx, ky] = szT kx + szT ky := by rw [szTs, szTs, szTs]; omega
   have hkd := kidDc_sz 15 o 2 0 p kx
   have hkd2 := kidDc_sz 15 o 2 1 p ky
   simp only [KA] at hka
   obtain ⟨c, ks', rfl, h1, h2, hta, c2, ks'', rfl, h3, h4, hta2, rfl, h5⟩ := hka
   subst h5
   have hkp0 : ms_KidPos ⟨15, o, x, y, [(c : Int), (c2 : Int)]⟩ 0 p = some (kidP 15 o 2 0 p) := hkp 0 (by simp)
   have hkp1 : ms_KidPos ⟨15, o, x, y, [(c : Int), (c2 : Int)]⟩ 1 p = some (kidP 15 o 2 1 p) := hkp 1 (by simp)
   have hix : ix [(c : Int), (c2 : Int)] 0 = some (c : Int) := rfl
   have hix1 : ix [(c : Int), (c2 : Int)] 1 = some (c2 : Int) := rfl
   have ec : dcKs 15 o 2 0 p [kx, ky] = [kidDc 15 o 2 0 p kx, kidDc 15 o 2 1 p ky] := by rw [dcKs_cons, dcKs_cons, dcKs]
   have hsl := spl_len o
   have c1 : cat ([32] : List UInt8) (spl o) = some ([32] ++ spl o) := cat_ok _ _ (by simp; omega)
   have c2' : cat ([32] ++ spl o) ([32] : List UInt8) = some ([32] ++ spl o ++ [32]) := cat_ok _ _ (by simp; omega)
   show _ = some (dl 0 (asmD 15 o x (tokKs false 15 o 2 0 p [kx, ky]) (dcKs 15 o 2 0 p [kx, ky])))
   rw [ec]
   have r1 := spDLv (n := 2) (hkall kx (by simp)) (hk kx (by simp)) (g.kl kx rfl (.inr (.inr rfl))) (M + 2) s c p hta (by omega) (by omega) 15 o rfl
   have r2 : (scc3 (M + 2)).ms_l18At ⟨a, false⟩ (c2 : Int) (kidP 15 o 2 1 p) = some (dl 0 (kidDc 15 o 2 1 p ky)) := spDE_of (hk ky (by simp)) (c + 1) c2 (M + 2) _ hta2 (kid_pos g.e) (by omega) (by omega)
   have o3 := ov6 (M + 2) [kidDc 15 o 2 0 p kx, txD ([32] ++ spl o ++ [32]), kidDc 15 o 2 1 p ky] (by omega) (by simp only [dzs, dz_tx]; omega)
   simp only [List.map_cons, List.map_nil] at o3
   show ((ix [(c : Int), (c2 : Int)] 0).bind fun e210 => ((scc3 (M + 2)).ms_l18Lvalue ⟨a, false⟩ e210).bind fun r211 => (ms_SpellOf o).bind fun r212 => (cat ([32] : List UInt8) r212).bind fun s213 => (cat s213 ([32] : List UInt8)).bind fun s214 => (ms_l15Text s214).bind fun r215 => (ix [(c : Int), (c2 : Int)] 1).bind fun e216 => (ms_KidPos ⟨15, o, x, y, [(c : Int), (c2 : Int)]⟩ 1 p).bind fun r217 => ((scc3 (M + 2)).ms_l18At ⟨a, false⟩ e216 r217).bind fun r218 => (ms_l15Over (M + 2) 6 0 [r211, r215, r218]).bind fun r219 => some r219) = some (dl 0 (ctD [kidDc 15 o 2 0 p kx, txD ([32] ++ spl o ++ [32]), kidDc 15 o 2 1 p ky]))
   rw [hix, Option.bind_some, r1, Option.bind_some, spl_is, Option.bind_some, c1, Option.bind_some, c2', Option.bind_some, ltext_is, Option.bind_some, hix1, Option.bind_some, hkp1, Option.bind_some, r2, Option.bind_some, o3]
   rfl

end Go.Proofs.Tryz

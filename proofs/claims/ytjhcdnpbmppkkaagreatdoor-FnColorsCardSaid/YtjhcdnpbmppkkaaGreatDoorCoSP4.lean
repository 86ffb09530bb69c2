/-
 Plain lemmas on the models, part 4.
-/
import Derived.Test.YtjhcdnpbmppkkaaGreatDoorCoSP3
namespace Go.Proofs.Tryz
open Go.Av
set_option maxRecDepth 100000
set_option linter.unusedSimpArgs false
set_option linter.unusedVariables false

def SpB (a : List SNode) (f : Bool) (t : STree) : Prop := ∀ (s i M : Nat) (p : SPos), TA a t s i → posB p = true → 1000 + 8 * szT t ≤ M → szT t ≤ 100000 → (scc2 M).ms_l10Node ⟨a, f⟩ (i : Int) p = some (tokB f t p)
def SpE (a : List SNode) (f : Bool) (t : STree) : Prop := ∀ (s i M : Nat) (p : SPos), TA a t s i → posB p = true → 1001 + 8 * szT t ≤ M → szT t ≤ 100000 → (scc2 M).ms_l10At ⟨a, f⟩ (i : Int) p = some (tokE f t p)

theorem spE_of {a : List SNode} {f : Bool} {t : STree} (h : SpB a f t) : SpE a f t := by
 intro s i M p hT hp hM hsz
 obtain ⟨M, rfl⟩ : ∃ m, M = m + 1 := ⟨M - 1, by omega⟩
 obtain ⟨n, hn, e1, e2, e3, e4, hka, hkl⟩ := hT.node
 have hl2 := tokB_len f t topP
 have plain : Option.bind ((scc2 M).ms_l10Node ⟨a, f⟩ (i : Int) p) (fun r => some r) = some (tokB f t p) := by rw [h s i M p hT hp (by omega) hsz]; rfl
 have r1 : (scc2 M).ms_l10Node ⟨a, f⟩ (i : Int) (⟨1, false, false, false, false⟩ : SPos) = some (tokB f t topP) := h s i M topP hT rfl (by omega) hsz
 have par : ((ms_l10Tok 32).bind fun r37 => Option.bind ms_Top fun r38 => ((scc2 M).ms_l10Node ⟨a, f⟩ (i : Int) r38).bind fun r39 => (app 32 [r37] r39).bind fun x40 => (ms_l10Tok 33).bind fun r43 => (app 32 x40 [r43]).bind fun x44 => some x44) = some (sg 32 :: (tokB f t topP ++ [sg 33])) := by
  simp only [tok_is, Option.bind_some, ms_Top, r1]
  rw [app_some (by simp; omega), Option.bind_some, app_some (by simp; omega), Option.bind_some]
  rfl
 show ms_l10At_F M (scc2 M) ⟨a, f⟩ (i : Int) p = _
 unfold ms_l10At_F tokE parF parT
 simp only [ix_get hn, Option.bind_some, fits_is, levelOf_is, par, ← e1, ← e2]
 cases f with
 | false =>
  cases fitB t.kind t.op p with
  | true => exact plain
  | false => rfl
 | true =>
  have e : (bif lv t.kind t.op == 15 then some (t.kind != 4) else some false) = some (!(lv t.kind t.op != 15 || t.kind == 4)) := by
   rw [bo_and]
   congr 1
   simp [bne]
  cases hx : (lv t.kind t.op != 15 || t.kind == 4) with
  | true =>
   rw [hx] at e
   cases fitB t.kind t.op p <;> simp only [cond_true, cond_false, Bool.not_true, Option.bind_some, e]
  | false =>
   rw [hx] at e
   cases fitB t.kind t.op p <;> simp only [cond_true, cond_false, Bool.not_true, Bool.not_false, Option.bind_some, e] <;> exact plain

theorem spLv {a : List SNode} {f : Bool} {t kid : STree} {n : Nat} (hall : allT GN kid) (h : SpB a f kid) (hl : isL kid.kind = true) (M s i : Nat) (p : SPos) (hta : TA a kid s i) (hM : 1001 + 8 * szT kid ≤ M) (hsz : szT kid ≤ 100000) (k o : Int) (ht : tgt k 0 = true) :
  (scc2 M).ms_l10Lvalue ⟨a, f⟩ (i : Int) = some (kidTok f k o n 0 p kid) := by
 obtain ⟨M, rfl⟩ : ∃ m, M = m + 1 := ⟨M - 1, by omega⟩
 show Option.bind ((scc2 M).ms_l10Node ⟨a, f⟩ (i : Int) (⟨14, false, false, false, false⟩ : SPos)) (fun r2 => some r2) = _
 rw [h s i M ⟨14, false, false, false, false⟩ hta rfl (by omega) hsz, Option.bind_some]
 unfold kidTok
 rw [ht, cond_true, (tok_rel f kid hall).1 ⟨14, false, false, false, false⟩ (kidP k o n 0 p) (.inr (low9 hl))]

theorem spList_l {a : List SNode} {f : Bool} (M : Nat) (k o : Int) (n : Nat) (p : SPos) (hk : ∀ j, kidP k o n j p = topP) (htg : ∀ j, tgt k j = false) (ks : List Int) (hlen : ks.length ≤ 400) : ∀ (ts : List STree) (g j s e : Nat) (acc : List SToken), (∀ t, t ∈ ts → SpB a f t ∧ 1001 + 8 * szT t ≤ M ∧ szT t ≤ 100000) → KA a ts (ks.drop j) s e → j ≤ ks.length → ts.length < g → acc.length + 8 * szTs ts ≤ 900000 →
  ms_l10List_l1 M (scc2 M) g (ks, ⟨a, f⟩, (j : Int), acc) = some (acc ++ commaL (decide (j > 0)) (tokKs f k o n j p ts))
 | [], g, j, s, e, acc, _, hka, hj, hg, ha => by
  obtain ⟨g, rfl⟩ : ∃ m, g = m + 1 := ⟨g - 1, by simp at hg; omega⟩
  rw [KA] at hka
  have hlt : ¬ j < ks.length := by
   intro h
   rw [drop_cons h] at hka
   cases hka.1
  rw [ms_l10List_l1]
  simp only [lt_false hlt, cond_false]
  rw [tokKs]
  cases decide (j > 0) <;> simp [commaL]
 | t :: ts, g, j, s, e, acc, hB, hka, hj, hg, ha => by
  simp only [List.length_cons] at hg
  obtain ⟨g, rfl⟩ : ∃ m, g = m + 1 := ⟨g - 1, by omega⟩
  rw [KA] at hka
  obtain ⟨i, ks', e1, h1, h2, h3, h4⟩ := hka
  have hlt : j < ks.length := by
   cases Nat.lt_or_ge j ks.length with
   | inl h => exact h
   | inr h => rw [List.drop_of_length_le h] at e1; cases e1
  have hget : ks[j]? = some (i : Int) := by
   have := congrArg (fun l => l[0]?) e1
   simpa using this
  have hdrop : ks.drop (j + 1) = ks' := by
   have := congrArg List.tail e1
   simpa using this
  obtain ⟨b1, b2, b3⟩ := hB t (by simp)
  rw [szTs] at ha
  have hte := tokE_len f t topP
  have hkt : kidTok f k o n j p t = tokE f t topP := by unfold kidTok; rw [htg, cond_false, hk]
  have step : ∀ acc' : List SToken, acc'.length ≤ acc.length + 1 → ms_l10List_k2 M (scc2 M) (ms_l10List_l1 M (scc2 M) g) (ks, (j : Int), ⟨a, f⟩, acc') = some (acc' ++ (kidTok f k o n j p t ++ commaL true (tokKs f k o n (j + 1) p ts))) := fun acc' hl => by
   unfold ms_l10List_k2
   have r1 : (scc2 M).ms_l10At ⟨a, f⟩ (i : Int) (⟨1, false, false, false, false⟩ : SPos) = some (tokE f t topP) := spE_of b1 s i M topP h3 rfl b2 b3
   simp only [ix_get hget, Option.bind_some, ms_Top, r1]
   rw [app_some (by omega), Option.bind_some, wrap64 (by omega) (by omega), show (j : Int) + 1 = ((j + 1 : Nat) : Int) by omega]
   have := spList_l M k o n p hk htg ks hlen ts g (j + 1) (i + 1) e (acc' ++ tokE f t topP) (fun u hu => hB u (by simp [hu])) (by rw [hdrop]; exact h4) (by omega) (by omega) (by rw [List.length_append]; omega)
   rw [this, hkt, show decide (j + 1 > 0) = true by simp]
   simp
  rw [ms_l10List_l1]
  simp only [lt_true hlt, cond_true]
  rw [tokKs_cons, commaL]
  have hg : decide ((j : Int) > 0) = decide (j > 0) := by by_cases h : j > 0 <;> simp [h]
  rw [hg]
  cases hj : decide (j > 0) with
  | true =>
   simp only [cond_true, tok_is, Option.bind_some]
   rw [app_some (by simp; omega), Option.bind_some]
   have := step (acc ++ [sg 36]) (by simp)
   simpa using this
  | false =>
   simp only [cond_false]
   have := step acc (by omega)
   simpa using this

theorem spB (a : List SNode) (f : Bool) : ∀ t : STree, allT GN t → SpB a f t := by
 intro t
 induction t using STree.ind with
 | h t ih =>
  intro hall s i M p hT hp hM hszt
  have g := allT_hd hall
  have hkall := allT_kids hall
  have hk : ∀ k, k ∈ t.kids → SpB a f k := fun k hk => ih k hk (allT_kids hall k hk)
  have hsz := szT_eq t
  have hl := g.le
  obtain ⟨M, rfl⟩ : ∃ m, M = m + 3 := ⟨M - 3, by omega⟩
  obtain ⟨n, hn, e1, e2, e3, e4, hka, hkl⟩ := hT.node
  have hnl : n.Kids.length ≤ 400 := by omega
  have hkp : ∀ j, j < t.kids.length → ms_KidPos n (j : Int) p = some (kidP t.kind t.op t.kids.length j p) := fun j hj => by
   have := kidPos_is n j p (by omega) (by omega) hp (by rw [← e1, ← e2]; exact g.lv)
   rw [this, ← e1, ← e2, hkl]
  show ms_l10Node_F (M + 2) (scc2 (M + 2)) ⟨a, f⟩ (i : Int) p = _
  unfold ms_l10Node_F
  simp only [ix_get hn, Option.bind_some]
  -- a list
  have lst : ∀ (hk1 : ∀ j, kidP t.kind t.op t.kids.length j p = topP) (hk2 : ∀ j, tgt t.kind j = false) (Q : Nat), 1000 + 8 * szT t ≤ Q + 3 → (scc2 (Q + 1)).ms_l10List ⟨a, f⟩ n.Kids = some (commaL false (tokKs f t.kind t.op t.kids.length 0 p t.kids)) := fun hk1 hk2 Q hQ => by
   show ms_l10List_l1 Q (scc2 Q) Q (n.Kids, ⟨a, f⟩, ((0 : Nat) : Int), []) = _
   rw [spList_l Q t.kind t.op t.kids.length p hk1 hk2 n.Kids hnl t.kids Q 0 s i [] (fun k hkm => ⟨hk k hkm, by have := szTs_mem hkm; omega, by have := szTs_mem hkm; omega⟩) hka (by omega) (by have := szTs_len t.kids; omega) (by simp; omega)]
   rfl
  have hcl := commaL_len (tokKs f t.kind t.op t.kids.length 0 p t.kids) false
  have hcs := tokKs_sum f t.kind t.op t.kids.length p t.kids 0
  have hcn := tokKs_len f t.kind t.op t.kids.length p t.kids 0
  have named : ∀ (tk : SToken) (op : Int), 0 ≤ op → op ≤ 100 → (∀ j, kidP t.kind t.op t.kids.length j p = topP) → (∀ j, tgt t.kind j = false) → (scc2 (M + 2)).ms_l10Named ⟨a, f⟩ tk n.Kids op = some (tk :: sg op :: (commaL false (tokKs f t.kind t.op t.kids.length 0 p t.kids) ++ [sg (op + 1)])) := fun tk op o1 o2 hk1 hk2 => by
   show ((ms_l10Tok op).bind fun r4 => ((scc2 (M + 1)).ms_l10List ⟨a, f⟩ n.Kids).bind fun r5 => (app 32 [tk, r4] r5).bind fun x6 => (ms_l10Tok (IntKind.wrap .i64 (op + 1))).bind fun r9 => (app 32 x6 [r9]).bind fun x10 => some x10) = _
   rw [tok_is, Option.bind_some, lst hk1 hk2 M (by omega), Option.bind_some, app_some (by simp; omega), Option.bind_some, wrap64 (by omega) (by omega), tok_is, Option.bind_some, app_some (by simp; omega), Option.bind_some]
   rfl
  rw [tokB_eq]
  clear ih hT
  obtain ⟨k, o, x, y, ks⟩ := t
  obtain ⟨nk, no, nx, ny, nks⟩ := n
  simp only at e1 e2 e3 e4
  subst e1 e2 e3 e4
  simp only at hsz hl hka hkl hnl hkp
  have hc := kinds g.e
  simp only at hc
  rcases hc with e | e | e | e | e | e | e | e | e | e | e | e | e | e | e <;> subst e
  ·rfl
  ·rfl
  ·rfl
  ·rfl
  ·exact (congrArg (Option.bind · fun r95 => some r95) (named ⟨6, x, 0⟩ 34 (by decide) (by decide) (fun j => rfl) (fun j => by unfold tgt; simp)))
  · -- 6
   have h1 := g.a1 (by simp)
   obtain ⟨kid, rfl⟩ := List.length_eq_one_iff.1 h1
   have hm : kid ∈ (STree.mk 6 o x y [kid]).kids := by simp
   have hskid : szTs [kid] = szT kid := by rw [szTs, szTs]; omega
   have hkt := kidTok_len f 6 o 1 0 p kid
   simp only [KA] at hka
   obtain ⟨c, ks', rfl, h1, h2, hta, rfl, h3⟩ := hka
   subst h3
   have hkp0 : ms_KidPos ⟨6, o, x, y, [(c : Int)]⟩ 0 p = some (kidP 6 o 1 0 p) := hkp 0 (by simp)
   have r1 : (scc2 (M + 2)).ms_l10At ⟨a, f⟩ (c : Int) (kidP 6 o 1 0 p) = some (kidTok f 6 o 1 0 p kid) := spE_of (hk kid hm) s c (M + 2) _ hta (kid_pos g.e) (by omega) (by omega)
   show ((ms_l10Tok 68).bind fun r137 => (ix [(c : Int)] 0).bind fun e138 => (ms_KidPos ⟨6, o, x, y, [(c : Int)]⟩ 0 p).bind fun r139 => ((scc2 (M + 2)).ms_l10At ⟨a, f⟩ e138 r139).bind fun r140 => (app 32 [r137] r140).bind fun x141 => some x141) = some (asmT 6 o x (tokKs f 6 o 1 0 p [kid]))
   have hix : ix [(c : Int)] 0 = some (c : Int) := rfl
   rw [tok_is, Option.bind_some, hix, Option.bind_some, hkp0, Option.bind_some, r1, Option.bind_some, app_some (by simp; omega), Option.bind_some, tokKs_cons, tokKs]
   rfl
  ·exact (congrArg (Option.bind · fun r97 => some r97) (named ⟨7, x, 0⟩ 32 (by decide) (by decide) (fun j => rfl) (fun j => by unfold tgt; simp)))
  ·exact (congrArg (Option.bind · fun r99 => some r99) (named ⟨8, x, 0⟩ 32 (by decide) (by decide) (fun j => rfl) (fun j => by unfold tgt; simp)))
  · -- 9
   have h1 := g.a1 (by simp)
   obtain ⟨kid, rfl⟩ := List.length_eq_one_iff.1 h1
   have hm : kid ∈ (STree.mk 9 o x y [kid]).kids := by simp
   have hskid : szTs [kid] = szT kid := by rw [szTs, szTs]; omega
   have hkt := kidTok_len f 9 o 1 0 p kid
   simp only [KA] at hka
   obtain ⟨c, ks', rfl, h1, h2, hta, rfl, h3⟩ := hka
   subst h3
   have hkp0 : ms_KidPos ⟨9, o, x, y, [(c : Int)]⟩ 0 p = some (kidP 9 o 1 0 p) := hkp 0 (by simp)
   have r1 := spLv (n := 1) (t := ⟨9, o, x, y, [kid]⟩) (hkall kid hm) (hk kid hm) (g.kl kid rfl (.inl rfl)) (M + 2) s c p hta (by omega) (by omega) 9 o rfl
   show ((ms_l10Tok o).bind fun r104 => (ix [(c : Int)] 0).bind fun e105 => ((scc2 (M + 2)).ms_l10Lvalue ⟨a, f⟩ e105).bind fun r106 => (app 32 [r104] r106).bind fun x107 => some x107) = some (asmT 9 o x (tokKs f 9 o 1 0 p [kid]))
   have hix : ix [(c : Int)] 0 = some (c : Int) := rfl
   rw [tok_is, Option.bind_some, hix, Option.bind_some, r1, Option.bind_some, app_some (by simp; omega), Option.bind_some, tokKs_cons, tokKs]
   rfl
  · -- 10
   have h1 := g.a1 (by simp)
   obtain ⟨kid, rfl⟩ := List.length_eq_one_iff.1 h1
   have hm : kid ∈ (STree.mk 10 o x y [kid]).kids := by simp
   have hskid : szTs [kid] = szT kid := by rw [szTs, szTs]; omega
   have hkt := kidTok_len f 10 o 1 0 p kid
   simp only [KA] at hka
   obtain ⟨c, ks', rfl, h1, h2, hta, rfl, h3⟩ := hka
   subst h3
   have hkp0 : ms_KidPos ⟨10, o, x, y, [(c : Int)]⟩ 0 p = some (kidP 10 o 1 0 p) := hkp 0 (by simp)
   have r1 := spLv (n := 1) (t := ⟨10, o, x, y, [kid]⟩) (hkall kid hm) (hk kid hm) (g.kl kid rfl (.inr (.inl rfl))) (M + 2) s c p hta (by omega) (by omega) 10 o rfl
   show ((ix [(c : Int)] 0).bind fun e112 => ((scc2 (M + 2)).ms_l10Lvalue ⟨a, f⟩ e112).bind fun r113 => (ms_l10Tok o).bind fun r114 => (app 32 r113 [r114]).bind fun x115 => some x115) = some (asmT 10 o x (tokKs f 10 o 1 0 p [kid]))
   have hix : ix [(c : Int)] 0 = some (c : Int) := rfl
   rw [hix, Option.bind_some, r1, Option.bind_some, tok_is, Option.bind_some, app_some (by simp; omega), Option.bind_some, tokKs_cons, tokKs]
   rfl
  · -- 11
   have h1 := g.a1 (by simp)
   obtain ⟨kid, rfl⟩ := List.length_eq_one_iff.1 h1
   have hm : kid ∈ (STree.mk 11 o x y [kid]).kids := by simp
   have hskid : szTs [kid] = szT kid := by rw [szTs, szTs]; omega
   have hkt := kidTok_len f 11 o 1 0 p kid
   simp only [KA] at hka
   obtain ⟨c, ks', rfl, h1, h2, hta, rfl, h3⟩ := hka
   subst h3
   have hkp0 : ms_KidPos ⟨11, o, x, y, [(c : Int)]⟩ 0 p = some (kidP 11 o 1 0 p) := hkp 0 (by simp)
   have r1 : (scc2 (M + 2)).ms_l10At ⟨a, f⟩ (c : Int) (kidP 11 o 1 0 p) = some (kidTok f 11 o 1 0 p kid) := spE_of (hk kid hm) s c (M + 2) _ hta (kid_pos g.e) (by omega) (by omega)
   show ((ms_l10Tok o).bind fun r137 => (ix [(c : Int)] 0).bind fun e138 => (ms_KidPos ⟨11, o, x, y, [(c : Int)]⟩ 0 p).bind fun r139 => ((scc2 (M + 2)).ms_l10At ⟨a, f⟩ e138 r139).bind fun r140 => (app 32 [r137] r140).bind fun x141 => some x141) = some (asmT 11 o x (tokKs f 11 o 1 0 p [kid]))
   have hix : ix [(c : Int)] 0 = some (c : Int) := rfl
   rw [tok_is, Option.bind_some, hix, Option.bind_some, hkp0, Option.bind_some, r1, Option.bind_some, app_some (by simp; omega), Option.bind_some, tokKs_cons, tokKs]
   rfl
  · -- 12
   have h1 := g.a2 (by simp)
   obtain ⟨kx, ky, rfl⟩ := len_two h1
   have hmx : kx ∈ (STree.mk 12 o x y [kx, ky]).kids := by simp
   have hmy : ky ∈ (STree.mk 12 o x y [kx, ky]).kids := by simp
   have hskid : szTs [kx, ky] = szT kx + szT ky := by rw [szTs, szTs, szTs]; omega
   have hkt := kidTok_len f 12 o 2 0 p kx
   have hkt2 := kidTok_len f 12 o 2 1 p ky
   simp only [KA] at hka
   obtain ⟨c, ks', rfl, h1, h2, hta, c2, ks'', rfl, h3, h4, hta2, rfl, h5⟩ := hka
   subst h5
   have hkp0 : ms_KidPos ⟨12, o, x, y, [(c : Int), (c2 : Int)]⟩ 0 p = some (kidP 12 o 2 0 p) := hkp 0 (by simp)
   have hkp1 : ms_KidPos ⟨12, o, x, y, [(c : Int), (c2 : Int)]⟩ 1 p = some (kidP 12 o 2 1 p) := hkp 1 (by simp)
   have hix : ix [(c : Int), (c2 : Int)] 0 = some (c : Int) := rfl
   have hix1 : ix [(c : Int), (c2 : Int)] 1 = some (c2 : Int) := rfl
   have q1 : (scc2 (M + 1)).ms_l10At ⟨a, f⟩ (c2 : Int) (kidP 12 o 2 1 p) = some (kidTok f 12 o 2 1 p ky) := spE_of (hk ky hmy) (c + 1) c2 (M + 1) _ hta2 (kid_pos g.e) (by omega) (by omega)
   have q2 : (scc2 (M + 2)).ms_l10At ⟨a, f⟩ (c2 : Int) (kidP 12 o 2 1 p) = some (kidTok f 12 o 2 1 p ky) := spE_of (hk ky hmy) (c + 1) c2 (M + 2) _ hta2 (kid_pos g.e) (by omega) (by omega)
   have e2 : asmT 12 o x (tokKs f 12 o 2 0 p [kx, ky]) = kidTok f 12 o 2 0 p kx ++ ((bif o == 99 then [] else [sg o]) ++ kidTok f 12 o 2 1 p ky) := by
    rw [tokKs_cons, tokKs_cons, tokKs]; rfl
   have r1 : (scc2 (M + 1)).ms_l10At ⟨a, f⟩ (c : Int) (kidP 12 o 2 0 p) = some (kidTok f 12 o 2 0 p kx) := spE_of (hk kx hmx) s c (M + 1) _ hta (kid_pos g.e) (by omega) (by omega)
   show Option.bind ((ix [(c : Int), (c2 : Int)] 0).bind fun e4 => (ms_KidPos ⟨12, o, x, y, [(c : Int), (c2 : Int)]⟩ 0 p).bind fun r5 => ((scc2 (M + 1)).ms_l10At ⟨a, f⟩ e4 r5).bind fun r6 => (bif (o != 99) then (ms_l10Tok o).bind fun r70 => (app 32 r6 [r70]).bind fun x71 => ms_l10Sides_k1 (M + 1) (scc2 (M + 1)) (⟨a, f⟩, ⟨12, o, x, y, [(c : Int), (c2 : Int)]⟩, p, x71) else (ms_l10Sides_k1 (M + 1) (scc2 (M + 1)) (⟨a, f⟩, ⟨12, o, x, y, [(c : Int), (c2 : Int)]⟩, p, r6)))) (fun r184 => some r184) = some (asmT 12 o x (tokKs f 12 o 2 0 p [kx, ky]))
   have fin : ∀ l : List SToken, l.length ≤ (kidTok f 12 o 2 0 p kx).length + 1 → ms_l10Sides_k1 (M + 1) (scc2 (M + 1)) (⟨a, f⟩, ⟨12, o, x, y, [(c : Int), (c2 : Int)]⟩, p, l) = some (l ++ kidTok f 12 o 2 1 p ky) := fun l hl => by
    unfold ms_l10Sides_k1
    simp only [hix1, hkp1, q1, Option.bind_some]
    rw [app_some (by omega), Option.bind_some]
   rw [hix, Option.bind_some, hkp0, Option.bind_some, r1, Option.bind_some, e2]
   cases ho : o == 99 with
   | true =>
    simp only [bne, ho, Bool.not_true, cond_false, cond_true]
    rw [fin _ (by omega)]
    rfl
   | false =>
    simp only [bne, ho, Bool.not_false, cond_false, cond_true, tok_is, Option.bind_some]
    rw [app_some (by simp; omega), Option.bind_some, fin _ (by simp)]
    simp
  · -- 13
   have h1 := g.ai (by simp)
   simp only at h1
   obtain ⟨kid, rest, rfl⟩ : ∃ kid rest, ks = kid :: rest := by
    cases ks with
    | nil => simp at h1
    | cons u us => exact ⟨u, us, rfl⟩
   have hm : kid ∈ (STree.mk 13 o x y (kid :: rest)).kids := by simp
   have hka0 := hka
   rw [KA] at hka
   obtain ⟨c, ks', rfl, h1, h2, hta, hrest⟩ := hka
   have hskid : szTs (kid :: rest) = szT kid + szTs rest := by rw [szTs]
   have hkp0 : ms_KidPos ⟨13, o, x, y, (c : Int) :: ks'⟩ 0 p = some (kidP 13 o (kid :: rest).length 0 p) := hkp 0 (by simp)
   have hkt := kidTok_len f 13 o (kid :: rest).length 0 p kid
   have r1 : (scc2 (M + 2)).ms_l10At ⟨a, f⟩ (c : Int) (kidP 13 o (kid :: rest).length 0 p) = some (kidTok f 13 o (kid :: rest).length 0 p kid) := spE_of (hk kid hm) s c (M + 2) _ hta (kid_pos g.e) (by omega) (by omega)
   have hix : ix ((c : Int) :: ks') 0 = some (c : Int) := rfl
   have fin : ∀ l : List SToken, l.length ≤ 900000 → ms_l10Node_k1 (M + 2) (scc2 (M + 2)) (⟨13, o, x, y, (c : Int) :: ks'⟩, l) = some (l ++ [sg 24, ⟨6, x, 0⟩]) := fun l hl => by
    unfold ms_l10Node_k1
    simp only [tok_is, Option.bind_some]
    rw [app_some (by simp; omega), Option.bind_some]
   show ((ix ((c : Int) :: ks') 0).bind fun e155 => (ms_KidPos ⟨13, o, x, y, (c : Int) :: ks'⟩ 0 p).bind fun r156 => ((scc2 (M + 2)).ms_l10At ⟨a, f⟩ e155 r156).bind fun r157 => bif (decide ((((c : Int) :: ks').length : Int) > 1)) then (ms_l10Tok 32).bind fun r176 => ((scc2 (M + 2)).ms_l10List ⟨a, f⟩ ((c : Int) :: ks')).bind fun r177 => (app 32 [r176] r177).bind fun x178 => (ms_l10Tok 33).bind fun r181 => (app 32 x178 [r181]).bind fun x182 => ms_l10Node_k1 (M + 2) (scc2 (M + 2)) (⟨13, o, x, y, (c : Int) :: ks'⟩, x182) else (ms_l10Node_k1 (M + 2) (scc2 (M + 2)) (⟨13, o, x, y, (c : Int) :: ks'⟩, r157))) = some (asmT 13 o x (tokKs f 13 o (kid :: rest).length 0 p (kid :: rest)))
   rw [hix, Option.bind_some, hkp0, Option.bind_some, r1, Option.bind_some]
   have e0 : asmT 13 o x (tokKs f 13 o (kid :: rest).length 0 p (kid :: rest)) = (bif decide ((kid :: rest).length > 1) then sg 32 :: (commaL false (tokKs f 13 o (kid :: rest).length 0 p (kid :: rest)) ++ [sg 33]) else kidTok f 13 o (kid :: rest).length 0 p kid) ++ [sg 24, ⟨6, x, 0⟩] := by
    show (bif decide ((tokKs f 13 o (kid :: rest).length 0 p (kid :: rest)).length > 1) then _ else (tokKs f 13 o (kid :: rest).length 0 p (kid :: rest)).getD 0 []) ++ _ = _
    rw [tokKs_len, tokKs_cons]
    rfl
   rw [e0]
   cases hn : decide ((kid :: rest).length > 1) with
   | true =>
    have hn2 : 1 < (kid :: rest).length := by simpa using hn
    have hl1 := lst (fun j => by unfold kidP; simp only [hn]; rfl) (fun j => by unfold tgt; simp) (M + 1) (by omega)
    have hl2 : (scc2 (M + 2)).ms_l10List ⟨a, f⟩ ((c : Int) :: ks') = some (commaL false (tokKs f 13 o (kid :: rest).length 0 p (kid :: rest))) := hl1
    have hcl2 : (commaL false (tokKs f 13 o (kid :: rest).length 0 p (kid :: rest))).length ≤ 800000 := by
     have := commaL_len (tokKs f 13 o (kid :: rest).length 0 p (kid :: rest)) false
     have := tokKs_sum f 13 o (kid :: rest).length p (kid :: rest) 0
     have := tokKs_len f 13 o (kid :: rest).length p (kid :: rest) 0
     omega
    generalize commaL false (tokKs f 13 o (kid :: rest).length 0 p (kid :: rest)) = CL at hl2 hcl2 ⊢
    rw [decide_eq_true (by omega), cond_true, tok_is, Option.bind_some, hl2, Option.bind_some, app_some (by simp; omega), Option.bind_some, tok_is, Option.bind_some, app_some (by simp; omega), Option.bind_some, fin _ (by simp; omega)]
    rfl
   | false =>
    have hn2 : ¬ 1 < (kid :: rest).length := by simpa using hn
    rw [decide_eq_false (by omega), cond_false, fin _ (by omega)]
    rfl
  · -- 14
   have h1 := g.a3 rfl
   obtain ⟨kx, ky, kz, rfl⟩ := len_three h1
   have hmx : kx ∈ (STree.mk 14 o x y [kx, ky, kz]).kids := by simp
   have hmy : ky ∈ (STree.mk 14 o x y [kx, ky, kz]).kids := by simp
   have hmz : kz ∈ (STree.mk 14 o x y [kx, ky, kz]).kids := by simp
   have hskid : szTs [kx, ky, kz] = szT kx + szT ky + szT kz := by rw [szTs, szTs, szTs, szTs]; omega
   have hkt := kidTok_len f 14 o 3 0 p kx
   have hkt2 := kidTok_len f 14 o 3 1 p ky
   have hkt3 := kidTok_len f 14 o 3 2 p kz
   simp only [KA] at hka
   obtain ⟨c, ks', rfl, h1, h2, hta, c2, ks'', rfl, h3, h4, hta2, c3, ks3, rfl, h5, h6, hta3, rfl, h7⟩ := hka
   subst h7
   have hkp0 : ms_KidPos ⟨14, o, x, y, [(c : Int), (c2 : Int), (c3 : Int)]⟩ 0 p = some (kidP 14 o 3 0 p) := hkp 0 (by simp)
   have hkp1 : ms_KidPos ⟨14, o, x, y, [(c : Int), (c2 : Int), (c3 : Int)]⟩ 1 p = some (kidP 14 o 3 1 p) := hkp 1 (by simp)
   have hkp2 : ms_KidPos ⟨14, o, x, y, [(c : Int), (c2 : Int), (c3 : Int)]⟩ 2 p = some (kidP 14 o 3 2 p) := hkp 2 (by simp)
   have hix : ix [(c : Int), (c2 : Int), (c3 : Int)] 0 = some (c : Int) := rfl
   have hix1 : ix [(c : Int), (c2 : Int), (c3 : Int)] 1 = some (c2 : Int) := rfl
   have hix2 : ix [(c : Int), (c2 : Int), (c3 : Int)] 2 = some (c3 : Int) := rfl
   have r1 : (scc2 (M + 1)).ms_l10At ⟨a, f⟩ (c : Int) (kidP 14 o 3 0 p) = some (kidTok f 14 o 3 0 p kx) := spE_of (hk kx hmx) s c (M + 1) _ hta (kid_pos g.e) (by omega) (by omega)
   have q1 : (scc2 (M + 1)).ms_l10At ⟨a, f⟩ (c2 : Int) (kidP 14 o 3 1 p) = some (kidTok f 14 o 3 1 p ky) := spE_of (hk ky hmy) (c + 1) c2 (M + 1) _ hta2 (kid_pos g.e) (by omega) (by omega)
   have z1 : (scc2 (M + 1)).ms_l10At ⟨a, f⟩ (c3 : Int) (kidP 14 o 3 2 p) = some (kidTok f 14 o 3 2 p kz) := spE_of (hk kz hmz) (c2 + 1) c3 (M + 1) _ hta3 (kid_pos g.e) (by omega) (by omega)
   have e2 : asmT 14 o x (tokKs f 14 o 3 0 p [kx, ky, kz]) = kidTok f 14 o 3 0 p kx ++ (sg 65 :: (kidTok f 14 o 3 1 p ky ++ (sg 66 :: kidTok f 14 o 3 2 p kz))) := by
    rw [tokKs_cons, tokKs_cons, tokKs_cons, tokKs]; rfl
   show Option.bind ((ix [(c : Int), (c2 : Int), (c3 : Int)] 0).bind fun e4 => (ms_KidPos ⟨14, o, x, y, [(c : Int), (c2 : Int), (c3 : Int)]⟩ 0 p).bind fun r5 => ((scc2 (M + 1)).ms_l10At ⟨a, f⟩ e4 r5).bind fun r6 => (ms_l10Tok 65).bind fun r33 => (app 32 r6 [r33]).bind fun x34 => (ix [(c : Int), (c2 : Int), (c3 : Int)] 1).bind fun e39 => (ms_KidPos ⟨14, o, x, y, [(c : Int), (c2 : Int), (c3 : Int)]⟩ 1 p).bind fun r40 => ((scc2 (M + 1)).ms_l10At ⟨a, f⟩ e39 r40).bind fun r41 => (app 32 x34 r41).bind fun x42 => (ms_l10Tok 66).bind fun r45 => (app 32 x42 [r45]).bind fun x46 => (ix [(c : Int), (c2 : Int), (c3 : Int)] 2).bind fun e51 => (ms_KidPos ⟨14, o, x, y, [(c : Int), (c2 : Int), (c3 : Int)]⟩ 2 p).bind fun r52 => ((scc2 (M + 1)).ms_l10At ⟨a, f⟩ e51 r52).bind fun r53 => (app 32 x46 r53).bind fun x54 => some x54) (fun r184 => some r184) = some (asmT 14 o x (tokKs f 14 o 3 0 p [kx, ky, kz]))
   rw [hix, Option.bind_some, hkp0, Option.bind_some, r1, Option.bind_some, tok_is, Option.bind_some, app_some (by simp; omega), Option.bind_some, hix1, Option.bind_some, hkp1, Option.bind_some, q1, Option.bind_some, app_some (by simp; omega), Option.bind_some, tok_is, Option.bind_some, app_some (by simp; omega), Option.bind_some, hix2, Option.bind_some, hkp2, Option.bind_some, z1, Option.bind_some, app_some (by simp; omega), Option.bind_some, e2]
   simp
  · -- 15
   have h99 := g.op rfl
   simp only at h99
   have h1 := g.a2 (by simp)
   obtain ⟨kx, ky, rfl⟩ := len_two h1
   have hmx : kx ∈ (STree.mk 15 o x y [kx, ky]).kids := by simp
   have hmy : ky ∈ (STree.mk 15 o x y [kx, ky]).kids := by simp
   have hskid : szTs [kx, ky] = szT kx + szT ky := by rw [szTs, szTs, szTs]; omega
   have hkt := kidTok_len f 15 o 2 0 p kx
   have hkt2 := kidTok_len f 15 o 2 1 p ky
   simp only [KA] at hka
   obtain ⟨c, ks', rfl, h1, h2, hta, c2, ks'', rfl, h3, h4, hta2, rfl, h5⟩ := hka
   subst h5
   have hkp0 : ms_KidPos ⟨15, o, x, y, [(c : Int), (c2 : Int)]⟩ 0 p = some (kidP 15 o 2 0 p) := hkp 0 (by simp)
   have hkp1 : ms_KidPos ⟨15, o, x, y, [(c : Int), (c2 : Int)]⟩ 1 p = some (kidP 15 o 2 1 p) := hkp 1 (by simp)
   have hix : ix [(c : Int), (c2 : Int)] 0 = some (c : Int) := rfl
   have hix1 : ix [(c : Int), (c2 : Int)] 1 = some (c2 : Int) := rfl
   have q1 : (scc2 (M + 1)).ms_l10At ⟨a, f⟩ (c2 : Int) (kidP 15 o 2 1 p) = some (kidTok f 15 o 2 1 p ky) := spE_of (hk ky hmy) (c + 1) c2 (M + 1) _ hta2 (kid_pos g.e) (by omega) (by omega)
   have q2 : (scc2 (M + 2)).ms_l10At ⟨a, f⟩ (c2 : Int) (kidP 15 o 2 1 p) = some (kidTok f 15 o 2 1 p ky) := spE_of (hk ky hmy) (c + 1) c2 (M + 2) _ hta2 (kid_pos g.e) (by omega) (by omega)
   have e2 : asmT 15 o x (tokKs f 15 o 2 0 p [kx, ky]) = kidTok f 15 o 2 0 p kx ++ ((bif o == 99 then [] else [sg o]) ++ kidTok f 15 o 2 1 p ky) := by
    rw [tokKs_cons, tokKs_cons, tokKs]; rfl
   have r1 := spLv (n := 2) (t := ⟨15, o, x, y, [kx, ky]⟩) (hkall kx hmx) (hk kx hmx) (g.kl kx rfl (.inr (.inr rfl))) (M + 2) s c p hta (by omega) (by omega) 15 o rfl
   show ((ix [(c : Int), (c2 : Int)] 0).bind fun e120 => ((scc2 (M + 2)).ms_l10Lvalue ⟨a, f⟩ e120).bind fun r121 => (ms_l10Tok o).bind fun r122 => (app 32 r121 [r122]).bind fun x123 => (ix [(c : Int), (c2 : Int)] 1).bind fun e128 => (ms_KidPos ⟨15, o, x, y, [(c : Int), (c2 : Int)]⟩ 1 p).bind fun r129 => ((scc2 (M + 2)).ms_l10At ⟨a, f⟩ e128 r129).bind fun r130 => (app 32 x123 r130).bind fun x131 => some x131) = some (asmT 15 o x (tokKs f 15 o 2 0 p [kx, ky]))
   rw [hix, Option.bind_some, r1, Option.bind_some, tok_is, Option.bind_some, app_some (by simp; omega), Option.bind_some, hix1, Option.bind_some, hkp1, Option.bind_some, q2, Option.bind_some, app_some (by simp; omega), Option.bind_some, e2, show (o == 99) = false by simpa using h99]
   simp

end Go.Proofs.Tryz

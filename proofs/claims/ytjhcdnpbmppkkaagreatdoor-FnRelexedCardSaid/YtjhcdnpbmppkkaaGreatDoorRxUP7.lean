/-
 Plain lemmas on the models, part 7.
-/
import Derived.Test.YtjhcdnpbmppkkaaGreatDoorRxUP6
namespace Go.Proofs.Tryz
open Go.Av
set_option maxRecDepth 100000
set_option linter.unusedSimpArgs false
set_option linter.unusedVariables false

theorem allT_mk {P : STree → Prop} {t : STree} (h : P t) (hk : ∀ k, k ∈ t.kids → allT P k) : allT P t := by
 have key : ∀ ts : List STree, (∀ k, k ∈ ts → allT P k) → allTs P ts := by
  intro ts
  induction ts with
  | nil => intro _; rw [allTs]; trivial
  | cons u ts ih =>
   intro h
   rw [allTs]
   exact ⟨h u (by simp), ih fun k hk => h k (by simp [hk])⟩
 obtain ⟨k, o, x, y, ks⟩ := t
 rw [allT]
 exact ⟨h, key ks hk⟩

theorem good_of (N : Nat) (a : List SNode) (hN : 500 < N) (hsh : shapeB a = true) (hok : ms_TreeOk N a = some true) : ∀ (t : STree) (s i : Nat), TA a t s i → isE t.kind = true → allT GN t := by
 intro t
 induction t using STree.ind with
 | h t ih =>
  intro s i hT he
  obtain ⟨n, hn, e1, e2, e3, e4, hka, hkl⟩ := hT.node
  have hmem := List.mem_of_getElem? hn
  obtain ⟨hf, hkids⟩ := treeOk_nodes N a hN hsh hok n hmem
  have hen : isE n.Kind = true := by rw [← e1]; exact he
  obtain ⟨har, hlv⟩ := fieldsE N n hf hen
  have h400 := (shape_kids hsh n hmem).1
  have kidF : ∀ (q : Nat) (k : STree), t.kids[q]? = some k → ∃ kk s' : Nat, TA a k s' kk ∧ isE k.kind = true ∧ ((n.Kind = 9 ∨ n.Kind = 10 ∨ (n.Kind = 15 ∧ q = 0)) → isL k.kind = true) := fun q k hq => by
   obtain ⟨kk, s', g1, g2, _⟩ := hka.get q k hq
   have hql : q < n.Kids.length := (List.getElem?_eq_some_iff.1 g1).1
   obtain ⟨y, y1, y2⟩ := hkids q hql
   have hkk : n.Kids[q] = (kk : Int) := (List.getElem?_eq_some_iff.1 g1).2
   obtain ⟨m, m1, m2, _⟩ := g2.node
   rw [hkk, ix_get m1] at y1
   cases y1
   have := kidE n q y.Kind y2 hen
   rw [← m2] at this
   exact ⟨kk, s', g2, this⟩
  unfold Ar at har
  obtain ⟨r0, r1, r2, r3, r4⟩ := har
  rw [← e1] at r0 r1 r2 r3 r4
  rw [← hkl] at r0 r1 r2 r3 r4
  refine allT_mk ⟨he, by rw [e1, e2]; exact hlv, r0, fun h => r2 (by omega), fun h => r3 h, r4, fun h => r1 h, by omega, fun k hk => ?_, fun k hk h => ?_, fun h => ?_⟩ fun k hk => ?_
  ·obtain ⟨q, hq⟩ := List.getElem?_of_mem hk
   obtain ⟨_, _, _, h2, _⟩ := kidF q k hq
   exact h2
  ·obtain ⟨_, _, _, _, h2⟩ := kidF 0 k hk
   exact h2 (by rw [← e1]; rcases h with h | h | h <;> simp [h])
  ·rw [e2]
   exact assign_op N n hf (by rw [← e1]; exact h)
  ·obtain ⟨q, hq⟩ := List.getElem?_of_mem hk
   obtain ⟨kk, s', g1, g2, _⟩ := kidF q k hq
   exact ih k hk s' kk g1 g2

theorem tx_of {a : List SNode} (hs : ∀ x, x ∈ a → smNode x) : ∀ (t : STree) (s i : Nat), TA a t s i → allT TX t := allT_of fun u s i hu => by
 obtain ⟨n, hn, _, _, e3, _⟩ := hu.node
 unfold TX
 rw [e3]
 exact (hs n (List.mem_of_getElem? hn)).1

mutual
def allD (P : SDoc → Prop) : SDoc → Prop
 | ⟨k, n, x, ks, g⟩ => P ⟨k, n, x, ks, g⟩ ∧ allDs P ks
def allDs (P : SDoc → Prop) : List SDoc → Prop
 | [] => True
 | t :: ts => allD P t ∧ allDs P ts
end
def DX (d : SDoc) : Prop := d.text.length ≤ 2000000
mutual
theorem dl_tx : ∀ (d : SDoc) (b : Nat), allD DX d → ∀ x, x ∈ dl b d → x.Text.length ≤ 2000000
 | ⟨k, n, x, ks, g⟩, b, h, z, hz => by
  rw [allD] at h
  rw [dl] at hz
  rcases List.mem_append.1 hz with hz | hz
  ·exact dls_tx ks b h.2 z hz
  ·rw [List.mem_singleton.1 hz]; exact h.1
theorem dls_tx : ∀ (ds : List SDoc) (b : Nat), allDs DX ds → ∀ x, x ∈ dls b ds → x.Text.length ≤ 2000000
 | [], b, _, z, hz => by rw [dls] at hz; cases hz
 | d :: ds, b, h, z, hz => by
  rw [allDs] at h
  rw [dls] at hz
  rcases List.mem_append.1 hz with hz | hz
  ·exact dl_tx d b h.1 z hz
  ·exact dls_tx ds _ h.2 z hz
end
theorem dx_tx {x : List UInt8} (h : x.length ≤ 2000000) : allD DX (txD x) := by unfold txD; rw [allD, allDs]; exact ⟨h, trivial⟩
theorem dx_ln : allD DX lnD := by unfold lnD; rw [allD, allDs]; exact ⟨by unfold DX; simp, trivial⟩
theorem dx_ct {l : List SDoc} (h : allDs DX l) : allD DX (ctD l) := by unfold ctD; rw [allD]; exact ⟨by unfold DX; simp, h⟩
theorem dx_ns {d : SDoc} (h : allD DX d) : allD DX (nsD d) := by unfold nsD; rw [allD, allDs, allDs]; exact ⟨by unfold DX; simp, h, trivial⟩
theorem dx_gr {d : SDoc} (h : allD DX d) : allD DX (grD d) := by unfold grD; rw [allD, allDs, allDs]; exact ⟨by unfold DX; simp, h, trivial⟩
theorem dx_bif {c : Bool} {a b : SDoc} (ha : allD DX a) (hb : allD DX b) : allD DX (bif c then a else b) := by cases c <;> assumption
theorem dxs_nil : allDs DX [] := by rw [allDs]; trivial
theorem dxs_cons {a : SDoc} {l : List SDoc} (ha : allD DX a) (h : allDs DX l) : allDs DX (a :: l) := by rw [allDs]; exact ⟨ha, h⟩
theorem dxs_get : ∀ {l : List SDoc} (_ : allDs DX l) (j : Nat), allD DX (kd0 l j)
 | [], _, j => dx_ln
 | d :: l, h, 0 => by rw [allDs] at h; exact h.1
 | d :: l, h, j + 1 => by rw [allDs] at h; exact dxs_get h.2 j
theorem dxs_comma : ∀ (l : List SDoc) (b : Bool), allDs DX l → allDs DX (commaD b l)
 | [], b, _ => by rw [commaD]; exact dxs_nil
 | x :: xs, b, h => by
  rw [allDs] at h
  have := dxs_cons h.1 (dxs_comma xs true h.2)
  rw [commaD]
  cases b
  ·exact this
  ·exact dxs_cons (dx_tx (by decide)) (dxs_cons dx_ln this)
theorem dx_asm (k o : Int) (x : List UInt8) (ts : List (List SToken)) (l : List SDoc) (hx : x.length ≤ 1048576) (h : allDs DX l) : allD DX (asmD k o x ts l) := by
 have g := fun j => dxs_get h j
 have hl : allD DX (listD l) := dx_gr (dx_ns (dx_ct (dxs_comma l false h)))
 have hs := spl_len o
 have n := dxs_nil
 unfold asmD
 repeat' (refine dx_bif ?_ ?_)
 ·exact dx_tx (by omega)
 ·exact dx_ct (dxs_cons (dx_tx (by simp; omega)) (dxs_cons hl (dxs_cons (dx_tx (by decide)) n)))
 ·exact dx_ct (dxs_cons (dx_tx (by simp; omega)) (dxs_cons hl (dxs_cons (dx_tx (by decide)) n)))
 ·exact dx_ct (dxs_cons (dx_tx (by omega)) (dxs_cons (g 0) n))
 ·exact dx_ct (dxs_cons (g 0) (dxs_cons (dx_tx (by omega)) n))
 ·exact dx_ct (dxs_cons (dx_tx (by decide)) (dxs_cons (g 0) n))
 ·exact dx_ct (dxs_cons (dx_tx (by cases gapB (sg o) (kt0 ts) <;> simp <;> omega)) (dxs_cons (g 0) n))
 ·exact dx_ct (dxs_cons (g 0) (dxs_cons (dx_tx (by decide)) (dxs_cons (g 1) (dxs_cons (dx_tx (by decide)) (dxs_cons (g 2) n)))))
 ·exact dx_ct (dxs_cons (dx_tx (by decide)) (dxs_cons hl (dxs_cons (dx_tx (by simp; omega)) n)))
 ·exact dx_ct (dxs_cons (g 0) (dxs_cons (dx_tx (by simp; omega)) n))
 ·exact dx_ct (dxs_cons (g 0) (dxs_cons (dx_tx (by decide)) (dxs_cons (g 1) n)))
 ·exact dx_gr (dx_ns (dx_ct (dxs_cons (g 0) (dxs_cons (dx_tx (by simp; omega)) (dxs_cons dx_ln (dxs_cons (g 1) n))))))
 ·exact dx_ct (dxs_cons (g 0) (dxs_cons (dx_tx (by simp; omega)) (dxs_cons (g 1) n)))
theorem dx_par {b : Bool} {x y : SDoc} (hx : allD DX x) (hy : allD DX y) : allD DX (parD b x y) := dx_bif (dx_ct (dxs_cons (dx_tx (by decide)) (dxs_cons hy (dxs_cons (dx_tx (by decide)) dxs_nil)))) hx
mutual
theorem dx_doc : ∀ (t : STree) (p : SPos), allT TX t → allD DX (dcB t p)
 | ⟨k, o, x, y, ks⟩, p, h => by
  rw [allT] at h
  rw [dcB]
  exact dx_asm k o x _ _ h.1 (dx_docs k o ks.length p ks 0 h.2)
theorem dx_docs (k o : Int) (n : Nat) (p : SPos) : ∀ (ts : List STree) (j : Nat), allTs TX ts → allDs DX (dcKs k o n j p ts)
 | [], j, _ => by rw [dcKs]; exact dxs_nil
 | t :: ts, j, h => by
  rw [allTs] at h
  rw [dcKs]
  exact dxs_cons (dx_bif (dx_doc t _ h.1) (dx_par (dx_doc t _ h.1) (dx_doc t _ h.1))) (dx_docs k o n p ts (j + 1) h.2)
end
theorem dx_docE (t : STree) (p : SPos) (h : allT TX t) : allD DX (dcE t p) := dx_par (dx_doc t _ h) (dx_doc t _ h)
theorem dl_sm (d : SDoc) (b : Nat) (h : allD DX d) (hsz : dz d ≤ 1000000) : ∀ x, x ∈ dl b d → smDNode x := fun x hx => ⟨dl_tx d b h x hx, by have := dl_kids d b x hx; omega⟩

theorem tot_bind {α β : Type} {x : Option α} {f : α → Option β} (hx : ∃ v, x = some v) (hf : ∀ v, ∃ w, f v = some w) : ∃ w, Option.bind x f = some w := by
 obtain ⟨v, rfl⟩ := hx
 exact hf v
theorem nameokS_ex (N : Nat) (x : List UInt8) (hx : x.length ≤ 1048576) (hN : x.length + 200 < N) : ∃ b : Bool, ms_NameOk N x = some b := by
 obtain ⟨q, h1, _⟩ := shape_ex N x hx (by omega)
 obtain ⟨r, g1, _⟩ := kw_ex N x (by omega)
 obtain ⟨c, f1, _⟩ := bi_ex N x (by omega)
 unfold ms_NameOk
 rw [h1, g1, f1]
 refine tot_bind (tot_bif (tot_bif ⟨_, rfl⟩ ⟨_, rfl⟩) ⟨_, rfl⟩) fun v => ⟨_, rfl⟩
theorem tokokS_ex (N : Nat) (t : SToken) (ht : t.Text.length ≤ 1048576) (hN : t.Text.length + 200 < N) : ∃ b : Bool, ms_TokenOk N t = some b := by
 obtain ⟨sp, s1, s3⟩ := spellS_ex t.Kind
 obtain ⟨nb, n1⟩ := nameokS_ex N t.Text ht hN
 obtain ⟨bb, b1, _⟩ := bi_ex N t.Text (by omega)
 have hk1 : ∀ y : Bool, ∃ b : Bool, ms_TokenOk_k1 N (t, y) = some b := fun y => by
  simp only [ms_TokenOk_k1]
  rw [n1, b1, s1]
  exact tot_bif ⟨_, rfl⟩ (tot_bif ⟨_, rfl⟩ (tot_bind (tot_bif ⟨_, rfl⟩ ⟨_, rfl⟩) fun _ => ⟨_, rfl⟩))
 have hp := plain4_is N t.Text (by omega) (by simp only [maxLen]; omega)
 have hq : (∃ r, ms_StrEnd N t.Text 0 = some r) ∧ ∃ r, ms_EreEnd N t.Text 0 = some r := by
  by_cases hne : t.Text = []
  ·rw [hne]
   exact ⟨⟨-1, rfl⟩, ⟨-1, rfl⟩⟩
  ·have hpos : 0 < t.Text.length := List.length_pos_iff.2 hne
   obtain ⟨r, f1, _, _⟩ := str_ex N t.Text ht (by omega) 0 hpos
   obtain ⟨r2, g1, _, _⟩ := ere_ex N t.Text ht (by omega) 0 hpos
   exact ⟨⟨r, f1⟩, ⟨r2, g1⟩⟩
 obtain ⟨⟨rs, hs⟩, ⟨re, he⟩⟩ := hq
 have hnum : ∃ y, (bif (decide ((t.Text.length : Int) > 0)) then (ms_NumEnd N t.Text 0).bind fun r25 => some (r25 == (t.Text.length : Int)) else (some false)) = some y := by
  cases hl : decide ((t.Text.length : Int) > 0) with
  | false => exact ⟨_, rfl⟩
  | true =>
   have hpos : 0 < t.Text.length := by have := of_decide_eq_true hl; omega
   obtain ⟨r, f1, _, _⟩ := num_ex N t.Text ht (by omega) 0 hpos
   have f1' : ms_NumEnd N t.Text 0 = some r := f1
   rw [f1']
   exact ⟨_, rfl⟩
 have hcom : ∃ y, (bif (decide ((t.Text.length : Int) > 0)) then (ix t.Text 0).bind fun b21 => bif (((b21).toNat : Int) == 35) then (ms_l4Plain N t.Text).bind fun r22 => some r22 else (some false) else (some false)) = some y := by
  cases hl : decide ((t.Text.length : Int) > 0) with
  | false => exact ⟨_, rfl⟩
  | true =>
   have hpos : 0 < t.Text.length := by have := of_decide_eq_true hl; omega
   have e : ix t.Text 0 = some t.Text[0] := ix_nat hpos
   rw [e, hp]
   simp only [Option.bind_some, cond_true]
   exact tot_bif ⟨_, rfl⟩ ⟨_, rfl⟩
 unfold ms_TokenOk
 rw [hs, he]
 refine tot_bif (tot_bind hcom fun _ => ⟨_, rfl⟩) (tot_bif (tot_bind hnum fun _ => ⟨_, rfl⟩) (tot_bif ⟨_, rfl⟩ (tot_bif ⟨_, rfl⟩ (tot_bif (hk1 _) (hk1 _)))))

theorem l7Many_ex (x : SNode) : ∃ r, ms_l7Many x = some r := by
 have h6 : ∀ b, ∃ r, ms_l7Many_k6 (x, b) = some r := fun b => tot_bif ⟨_, rfl⟩ (tot_bif ⟨_, rfl⟩ (tot_bif ⟨_, rfl⟩ (tot_bif ⟨_, rfl⟩ ⟨_, rfl⟩)))
 have h5 : ∀ b, ∃ r, ms_l7Many_k5 (x, b) = some r := fun b => tot_bif ⟨_, rfl⟩ (tot_bif ⟨_, rfl⟩ (tot_bif ⟨_, rfl⟩ (tot_bif (h6 _) (h6 _))))
 have h4 : ∀ b, ∃ r, ms_l7Many_k4 (x, b) = some r := fun b => tot_bif ⟨_, rfl⟩ (tot_bif ⟨_, rfl⟩ (tot_bif (tot_bif ⟨_, rfl⟩ ⟨_, rfl⟩) (tot_bif (h5 _) (h5 _))))
 have h3 : ∀ b, ∃ r, ms_l7Many_k3 (x, b) = some r := fun b => tot_bif ⟨_, rfl⟩ (tot_bif (h4 _) (tot_bif (h4 _) (tot_bif (h4 _) (h4 _))))
 have h2 : ∀ b, ∃ r, ms_l7Many_k2 (x, b) = some r := fun b => tot_bif ⟨_, rfl⟩ (tot_bif (h3 _) (tot_bif (h3 _) (tot_bif (h3 _) (tot_bif (h3 _) (tot_bif (h3 _) (tot_bif (h3 _) (tot_bif (h3 _) (h3 _))))))))
 have h1 : ∀ b, ∃ r, ms_l7Many_k1 (x, b) = some r := fun b => tot_bif ⟨_, rfl⟩ (tot_bif (h2 _) (tot_bif (h2 _) (h2 _)))
 exact tot_bif (h1 _) (h1 _)
theorem l7IsBin_ex (o : Int) : ∃ r, ms_l7IsBin o = some r := by
 have hk : ∀ b, ms_l7IsBin_k1 b = some b := fun b => by cases b <;> rfl
 unfold ms_l7IsBin
 simp only [hk]
 repeat' (refine tot_bif ?_ ?_)
 all_goals exact ⟨_, rfl⟩
theorem l7Op_ex (x : SNode) : ∃ r, ms_l7Op x = some r := by
 obtain ⟨b, hb⟩ := l7IsBin_ex x.Op
 have h1 : ∀ y, ∃ r, ms_l7Op_k1 (x, y) = some r := fun y => by
  unfold ms_l7Op_k1 ms_l7IsAssign
  simp only [hb, l1In_is', Option.bind_some]
  exact tot_bif (tot_bind (tot_bif ⟨_, rfl⟩ ⟨_, rfl⟩) fun _ => ⟨_, rfl⟩) (tot_bif (tot_bind (tot_bif ⟨_, rfl⟩ (tot_bif ⟨_, rfl⟩ ⟨_, rfl⟩)) fun _ => ⟨_, rfl⟩) (tot_bif ⟨_, rfl⟩ (tot_bif (tot_bind (tot_bind (tot_bif ⟨_, rfl⟩ ⟨_, rfl⟩) fun _ => ⟨_, rfl⟩) fun _ => ⟨_, rfl⟩) (tot_bif ⟨_, rfl⟩ (tot_bif ⟨_, rfl⟩ (tot_bif (tot_bind (tot_bif ⟨_, rfl⟩ ⟨_, rfl⟩) fun _ => ⟨_, rfl⟩) ⟨_, rfl⟩))))))
 exact tot_bif (h1 _) (h1 _)
theorem l7Text_ex (N : Nat) (x : SNode) (hN : 1048777 < N) (hs : smNode x) : ∃ r, ms_l7Text N x = some r := by
 obtain ⟨q1, q2, q3⟩ := hs
 obtain ⟨a, ha⟩ := nameokS_ex N x.Text (by omega) (by omega)
 obtain ⟨o, ho⟩ := nameokS_ex N x.Other (by omega) (by omega)
 obtain ⟨b, hb, _⟩ := bi_ex N x.Text (by omega)
 have tk : ∀ k, ∃ r, ms_TokenOk N ⟨k, x.Text, 0⟩ = some r := fun k => tokokS_ex N ⟨k, x.Text, 0⟩ (by show x.Text.length ≤ _; omega) (by show x.Text.length + _ < _; omega)
 obtain ⟨c3, h3⟩ := tk 3
 obtain ⟨c4, h4⟩ := tk 4
 obtain ⟨c5, h5⟩ := tk 5
 obtain ⟨c2, h2⟩ := tk 2
 have nx : ∀ (y : Bool) (c : Bool), ∃ r, (((some y).bind fun r => bif r then some c else (some false)).bind fun y => some y) = some r := fun y c => tot_bind (tot_bind ⟨_, rfl⟩ fun _ => tot_bif ⟨_, rfl⟩ ⟨_, rfl⟩) fun _ => ⟨_, rfl⟩
 have h1 : ∀ y, ∃ r, ms_l7Text_k1 N (x, y) = some r := fun y => by
  unfold ms_l7Text_k1
  simp only [ha, ho, hb, h2, h3, h4, h5]
  exact tot_bif (nx _ _) (tot_bif (nx _ _) (tot_bif (nx _ _) (tot_bif (nx _ _) (tot_bif (nx _ _) (tot_bif (nx _ _) (tot_bif (tot_bind (tot_bind ⟨_, rfl⟩ fun _ => tot_bif ⟨_, rfl⟩ ⟨_, rfl⟩) fun _ => ⟨_, rfl⟩) (tot_bif (tot_bind (tot_bif (tot_bif ⟨_, rfl⟩ (tot_bif ⟨_, rfl⟩ (tot_bif ⟨_, rfl⟩ ⟨_, rfl⟩))) ⟨_, rfl⟩) fun _ => ⟨_, rfl⟩) (tot_bind (tot_bif ⟨_, rfl⟩ ⟨_, rfl⟩) fun _ => ⟨_, rfl⟩))))))))
 exact tot_bif (h1 _) (tot_bif (h1 _) (tot_bif (h1 _) (tot_bif (h1 _) (tot_bif (h1 _) (h1 _)))))
theorem fieldsS_ex (N : Nat) (x : SNode) (hN : 1048777 < N) (hs : smNode x) : ∃ b, ms_FieldsOk N x = some b := by
 obtain ⟨t, ht⟩ := l7Text_ex N x hN hs
 obtain ⟨o, ho⟩ := l7Op_ex x
 obtain ⟨m, hm⟩ := l7Many_ex x
 unfold ms_FieldsOk
 simp only [ht, ho, hm, l1In_is', Option.bind_some]
 exact tot_bind (tot_bif ⟨_, rfl⟩ (tot_bif ⟨_, rfl⟩ ⟨_, rfl⟩)) fun _ => tot_bind (tot_bif (tot_bif (tot_bif ⟨_, rfl⟩ ⟨_, rfl⟩) ⟨_, rfl⟩) ⟨_, rfl⟩) fun _ => ⟨_, rfl⟩
theorem l7KidS_ex (x : SNode) (k c : Int) : ∃ b, ms_l7Kid x k c = some b := by
 have hE : ∃ r, ms_IsExpr c = some r := ⟨_, isE_spec c⟩
 have hL : ∃ r, ms_IsLvalue c = some r := ⟨_, isL_spec c⟩
 have hS : ∃ r, ms_IsStmt c = some r := by unfold ms_IsStmt; rw [l1In_is']; exact ⟨_, rfl⟩
 obtain ⟨e, hE⟩ := hE
 obtain ⟨l, hL⟩ := hL
 obtain ⟨s, hS⟩ := hS
 have h2 : ∀ b, ∃ r, ms_l7Kid_k2 (k, c, x, b) = some r := fun b => by
  unfold ms_l7Kid_k2
  simp only [hE, hS, l1In_is', Option.bind_some]
  repeat' (first | exact ⟨_, rfl⟩ | refine tot_bif ?_ ?_ | refine tot_bind ?_ (fun _ => ?_))
 have h1 : ∀ b, ∃ r, ms_l7Kid_k1 (k, c, x, b) = some r := fun b => by
  unfold ms_l7Kid_k1
  simp only [hE, hL, Option.bind_some]
  repeat' (first | exact ⟨_, rfl⟩ | exact h2 _ | refine tot_bif ?_ ?_ | refine tot_bind ?_ (fun _ => ?_))
 exact tot_bif (h1 _) (h1 _)

theorem treeS_l2 (N : Nat) (a : List SNode) (kb : (List SNode × Int) → Option Bool) (i : Nat) (hi : i < a.length) (hi2 : i ≤ 100000) (hkl : a[i].Kids.length ≤ 100000) (hk : ∀ k, k ∈ a[i].Kids → 0 ≤ k ∧ k < a.length) (hkb : ∃ b, kb (a, ((i + 1 : Nat) : Int)) = some b) : ∀ (m j : Nat), a[i].Kids.length - j < m → j ≤ a[i].Kids.length → ∃ b, ms_TreeOk_l2 N kb m (a, (i : Int), (j : Int)) = some b := by
 intro m
 induction m with
 | zero => intro j h; omega
 | succ m ih =>
  intro j hm hj
  rw [ms_TreeOk_l2, ix_nat hi, Option.bind_some]
  by_cases h : j < a[i].Kids.length
  ·simp only [lt_true h, cond_true, ix_nat hi, ix_nat h, Option.bind_some]
   obtain ⟨k1, k2⟩ := hk _ (List.getElem_mem h)
   obtain ⟨c, hc⟩ := Int.eq_ofNat_of_zero_le k1
   have hcl : c < a.length := by omega
   rw [hc]
   have e : ix a (c : Int) = some a[c] := ix_nat hcl
   simp only [e, Option.bind_some]
   obtain ⟨b, hb⟩ := l7KidS_ex a[i] (j : Int) a[c].Kind
   rw [hb, Option.bind_some, wrap64 (by omega) (by omega), show ((j : Int) + 1) = ((j + 1 : Nat) : Int) by omega]
   exact tot_bif ⟨_, rfl⟩ (ih (j + 1) (by omega) (by omega))
  ·simp only [lt_false h, cond_false]
   rw [wrap64 (by omega) (by omega)]
   exact hkb
theorem treeS_l1 (N : Nat) (a : List SNode) (hN : 1048777 < N) (ha : a.length ≤ 400) (hs : ∀ x, x ∈ a → smNode x) (hk : ∀ x, x ∈ a → x.Kids.length ≤ 400 ∧ ∀ k, k ∈ x.Kids → 0 ≤ k ∧ k < a.length) : ∀ (n i : Nat), a.length - i < n → i ≤ a.length → ∃ b, ms_TreeOk_l1 N n (a, (i : Int)) = some b := by
 intro n
 induction n with
 | zero => intro i h; omega
 | succ n ih =>
  intro i hn hi
  rw [ms_TreeOk_l1]
  by_cases h : i < a.length
  ·obtain ⟨b, hb⟩ := fieldsS_ex N a[i] hN (hs _ (List.getElem_mem h))
   obtain ⟨k1, k2⟩ := hk _ (List.getElem_mem h)
   simp only [lt_true h, cond_true, ix_nat h, Option.bind_some, hb]
   refine tot_bif ⟨_, rfl⟩ ?_
   exact treeS_l2 N a (ms_TreeOk_l1 N n) i h (by omega) (by omega) k2 (ih (i + 1) (by omega) (by omega)) N 0 (by omega) (by omega)
  ·simp only [lt_false h, cond_false]
   exact ⟨_, rfl⟩
theorem treeOkS_ex (N : Nat) (a : List SNode) (hN : 1048777 < N) (hs : ∀ x, x ∈ a → smNode x) : ∃ b : Bool, ms_TreeOk N a = some b ∧ (b = true → shapeB a = true) := by
 unfold ms_TreeOk
 rw [shapeOk_spec N a (by omega) hs]
 simp only [Option.bind_some]
 cases hsh : shapeB a with
 | false => exact ⟨false, rfl, fun h => by cases h⟩
 | true =>
  obtain ⟨h1, h2, r, _, _, _, hT, t, ht⟩ := shape_of hsh
  rw [depthOf_spec N a (by omega) hs hsh ht]
  simp only [Bool.not_true, cond_false, Option.bind_some]
  obtain ⟨b, hb⟩ := treeS_l1 N a hN h2 hs (shape_kids hsh) N 0 (by omega) (by omega)
  have hb' : ms_TreeOk_l1 N N (a, 0) = some b := hb
  rw [hb']
  have := tot_bif (c := decide ((depT t : Int) > 40)) (x := some false) (y := some b) ⟨_, rfl⟩ ⟨_, rfl⟩
  obtain ⟨v, hv⟩ := this
  exact ⟨v, hv, fun _ => trivial⟩
theorem exprOkS_ex (N : Nat) (a : List SNode) (hN : 1048777 < N) (hs : ∀ x, x ∈ a → smNode x) : ∃ b : Bool, ms_ExprOk N a = some b ∧ (b = true → ms_TreeOk N a = some true ∧ shapeB a = true ∧ ∀ t, TA a t 0 (a.length - 1) → isE t.kind = true) := by
 obtain ⟨b, b1, b3⟩ := treeOkS_ex N a hN hs
 unfold ms_ExprOk
 rw [b1]
 simp only [Option.bind_some]
 cases b with
 | false => exact ⟨false, rfl, fun h => by cases h⟩
 | true =>
  have h1 := b3 rfl
  obtain ⟨l1, l2, _⟩ := shape_of h1
  have hlt : a.length - 1 < a.length := by omega
  have hx := ix_nat hlt
  rw [wrap64 (by omega) (by omega), show (a.length : Int) - 1 = ((a.length - 1 : Nat) : Int) by omega, hx]
  simp only [cond_true, Option.bind_some, isE_spec]
  refine ⟨_, rfl, fun h => ⟨trivial, h1, fun t ht => ?_⟩⟩
  obtain ⟨n, hn, e1, _⟩ := ht.node
  rw [List.getElem?_eq_getElem hlt] at hn
  cases hn
  rw [e1]
  exact h

end Go.Proofs.Tryz

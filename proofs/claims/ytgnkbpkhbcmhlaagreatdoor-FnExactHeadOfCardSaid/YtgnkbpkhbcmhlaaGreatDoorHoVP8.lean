/-
 Plain lemmas on the models, part 8.
-/
import Derived.Test.YtgnkbpkhbcmhlaaGreatDoorHoVP7
namespace Go.Proofs.Tryz
open Go.Av
set_option maxRecDepth 100000
set_option linter.unusedSimpArgs false
set_option linter.unusedVariables false

theorem allT_mk {P : STree → Prop} {t : STree} (h : P t) (hk : ∀ k, k ∈ t.kids → allT P k) : allT P t := by
 have key : ∀ ts : List STree, (∀ k, k ∈ ts → allT P k) → allTs P ts := by
  intro ts
  induction ts with
  | nil => intro _; rw [allTs]; trivial
  | cons u ts ih =>
   intro h
   rw [allTs]
   exact ⟨h u (by simp), ih fun k hk => h k (by simp [hk])⟩
 obtain ⟨k, o, x, y, ks⟩ := t
 rw [allT]
 exact ⟨h, key ks hk⟩

theorem good_of (N : Nat) (a : List SNode) (hN : 500 < N) (hsh : shapeB a = true) (hok : ms_TreeOk N a = some true) : ∀ (t : STree) (s i : Nat), TA a t s i → isE t.kind = true → allT GN t := by
 intro t
 induction t using STree.ind with
 | h t ih =>
  intro s i hT he
  obtain ⟨n, hn, e1, e2, e3, e4, hka, hkl⟩ := hT.node
  have hmem := List.mem_of_getElem? hn
  obtain ⟨hf, hkids⟩ := treeOk_nodes N a hN hsh hok n hmem
  have hen : isE n.Kind = true := by rw [← e1]; exact he
  obtain ⟨har, hlv⟩ := fieldsE N n hf hen
  have h400 := (shape_kids hsh n hmem).1
  have kidF : ∀ (q : Nat) (k : STree), t.kids[q]? = some k → ∃ kk s' : Nat, TA a k s' kk ∧ isE k.kind = true ∧ ((n.Kind = 9 ∨ n.Kind = 10 ∨ (n.Kind = 15 ∧ q = 0)) → isL k.kind = true) := fun q k hq => by
   obtain ⟨kk, s', g1, g2, _⟩ := hka.get q k hq
   have hql : q < n.Kids.length := (List.getElem?_eq_some_iff.1 g1).1
   obtain ⟨y, y1, y2⟩ := hkids q hql
   have hkk : n.Kids[q] = (kk : Int) := (List.getElem?_eq_some_iff.1 g1).2
   obtain ⟨m, m1, m2, _⟩ := g2.node
   rw [hkk, ix_get m1] at y1
   cases y1
   have := kidE n q y.Kind y2 hen
   rw [← m2] at this
   exact ⟨kk, s', g2, this⟩
  unfold Ar at har
  obtain ⟨r0, r1, r2, r3, r4⟩ := har
  rw [← e1] at r0 r1 r2 r3 r4
  rw [← hkl] at r0 r1 r2 r3 r4
  refine allT_mk ⟨he, by rw [e1, e2]; exact hlv, r0, fun h => r2 (by omega), fun h => r3 h, r4, fun h => r1 h, by omega, fun k hk => ?_, fun k hk h => ?_, fun h => ?_⟩ fun k hk => ?_
  ·obtain ⟨q, hq⟩ := List.getElem?_of_mem hk
   obtain ⟨_, _, _, h2, _⟩ := kidF q k hq
   exact h2
  ·obtain ⟨_, _, _, _, h2⟩ := kidF 0 k hk
   exact h2 (by rw [← e1]; rcases h with h | h | h <;> simp [h])
  ·rw [e2]
   exact assign_op N n hf (by rw [← e1]; exact h)
  ·obtain ⟨q, hq⟩ := List.getElem?_of_mem hk
   obtain ⟨kk, s', g1, g2, _⟩ := kidF q k hq
   exact ih k hk s' kk g1 g2

theorem tx_of {a : List SNode} (hs : ∀ x, x ∈ a → smNode x) : ∀ (t : STree) (s i : Nat), TA a t s i → allT TX t := allT_of fun u s i hu => by
 obtain ⟨n, hn, _, _, e3, _⟩ := hu.node
 unfold TX
 rw [e3]
 exact (hs n (List.mem_of_getElem? hn)).1

mutual
def allD (P : SDoc → Prop) : SDoc → Prop
 | ⟨k, n, x, ks, g⟩ => P ⟨k, n, x, ks, g⟩ ∧ allDs P ks
def allDs (P : SDoc → Prop) : List SDoc → Prop
 | [] => True
 | t :: ts => allD P t ∧ allDs P ts
end
def DX (d : SDoc) : Prop := d.text.length ≤ 2000000
mutual
theorem dl_tx : ∀ (d : SDoc) (b : Nat), allD DX d → ∀ x, x ∈ dl b d → x.Text.length ≤ 2000000
 | ⟨k, n, x, ks, g⟩, b, h, z, hz => by
  rw [allD] at h
  rw [dl] at hz
  rcases List.mem_append.1 hz with hz | hz
  ·exact dls_tx ks b h.2 z hz
  ·rw [List.mem_singleton.1 hz]; exact h.1
theorem dls_tx : ∀ (ds : List SDoc) (b : Nat), allDs DX ds → ∀ x, x ∈ dls b ds → x.Text.length ≤ 2000000
 | [], b, _, z, hz => by rw [dls] at hz; cases hz
 | d :: ds, b, h, z, hz => by
  rw [allDs] at h
  rw [dls] at hz
  rcases List.mem_append.1 hz with hz | hz
  ·exact dl_tx d b h.1 z hz
  ·exact dls_tx ds _ h.2 z hz
end
theorem dx_tx {x : List UInt8} (h : x.length ≤ 2000000) : allD DX (txD x) := by unfold txD; rw [allD, allDs]; exact ⟨h, trivial⟩
theorem dx_ln : allD DX lnD := by unfold lnD; rw [allD, allDs]; exact ⟨by unfold DX; simp, trivial⟩
theorem dx_ct {l : List SDoc} (h : allDs DX l) : allD DX (ctD l) := by unfold ctD; rw [allD]; exact ⟨by unfold DX; simp, h⟩
theorem dx_ns {d : SDoc} (h : allD DX d) : allD DX (nsD d) := by unfold nsD; rw [allD, allDs, allDs]; exact ⟨by unfold DX; simp, h, trivial⟩
theorem dx_gr {d : SDoc} (h : allD DX d) : allD DX (grD d) := by unfold grD; rw [allD, allDs, allDs]; exact ⟨by unfold DX; simp, h, trivial⟩
theorem dx_bif {c : Bool} {a b : SDoc} (ha : allD DX a) (hb : allD DX b) : allD DX (bif c then a else b) := by cases c <;> assumption
theorem dxs_nil : allDs DX [] := by rw [allDs]; trivial
theorem dxs_cons {a : SDoc} {l : List SDoc} (ha : allD DX a) (h : allDs DX l) : allDs DX (a :: l) := by rw [allDs]; exact ⟨ha, h⟩
theorem dxs_get : ∀ {l : List SDoc} (_ : allDs DX l) (j : Nat), allD DX (kd0 l j)
 | [], _, j => dx_ln
 | d :: l, h, 0 => by rw [allDs] at h; exact h.1
 | d :: l, h, j + 1 => by rw [allDs] at h; exact dxs_get h.2 j
theorem dxs_comma : ∀ (l : List SDoc) (b : Bool), allDs DX l → allDs DX (commaD b l)
 | [], b, _ => by rw [commaD]; exact dxs_nil
 | x :: xs, b, h => by
  rw [allDs] at h
  have := dxs_cons h.1 (dxs_comma xs true h.2)
  rw [commaD]
  cases b
  ·exact this
  ·exact dxs_cons (dx_tx (by decide)) (dxs_cons dx_ln this)
theorem dx_asm (k o : Int) (x : List UInt8) (ts : List (List SToken)) (l : List SDoc) (hx : x.length ≤ 1048576) (h : allDs DX l) : allD DX (asmD k o x ts l) := by
 have g := fun j => dxs_get h j
 have hl : allD DX (listD l) := dx_gr (dx_ns (dx_ct (dxs_comma l false h)))
 have hs := spl_len o
 have n := dxs_nil
 unfold asmD
 repeat' (refine dx_bif ?_ ?_)
 ·exact dx_tx (by omega)
 ·exact dx_ct (dxs_cons (dx_tx (by simp; omega)) (dxs_cons hl (dxs_cons (dx_tx (by decide)) n)))
 ·exact dx_ct (dxs_cons (dx_tx (by simp; omega)) (dxs_cons hl (dxs_cons (dx_tx (by decide)) n)))
 ·exact dx_ct (dxs_cons (dx_tx (by omega)) (dxs_cons (g 0) n))
 ·exact dx_ct (dxs_cons (g 0) (dxs_cons (dx_tx (by omega)) n))
 ·exact dx_ct (dxs_cons (dx_tx (by decide)) (dxs_cons (g 0) n))
 ·exact dx_ct (dxs_cons (dx_tx (by cases gapB (sg o) (kt0 ts) <;> simp <;> omega)) (dxs_cons (g 0) n))
 ·exact dx_ct (dxs_cons (g 0) (dxs_cons (dx_tx (by decide)) (dxs_cons (g 1) (dxs_cons (dx_tx (by decide)) (dxs_cons (g 2) n)))))
 ·exact dx_ct (dxs_cons (dx_tx (by decide)) (dxs_cons hl (dxs_cons (dx_tx (by simp; omega)) n)))
 ·exact dx_ct (dxs_cons (g 0) (dxs_cons (dx_tx (by simp; omega)) n))
 ·exact dx_ct (dxs_cons (g 0) (dxs_cons (dx_tx (by decide)) (dxs_cons (g 1) n)))
 ·exact dx_gr (dx_ns (dx_ct (dxs_cons (g 0) (dxs_cons (dx_tx (by simp; omega)) (dxs_cons dx_ln (dxs_cons (g 1) n))))))
 ·exact dx_ct (dxs_cons (g 0) (dxs_cons (dx_tx (by simp; omega)) (dxs_cons (g 1) n)))
theorem dx_par {b : Bool} {x y : SDoc} (hx : allD DX x) (hy : allD DX y) : allD DX (parD b x y) := dx_bif (dx_ct (dxs_cons (dx_tx (by decide)) (dxs_cons hy (dxs_cons (dx_tx (by decide)) dxs_nil)))) hx
mutual
theorem dx_doc : ∀ (t : STree) (p : SPos), allT TX t → allD DX (dcB t p)
 | ⟨k, o, x, y, ks⟩, p, h => by
  rw [allT] at h
  rw [dcB]
  exact dx_asm k o x _ _ h.1 (dx_docs k o ks.length p ks 0 h.2)
theorem dx_docs (k o : Int) (n : Nat) (p : SPos) : ∀ (ts : List STree) (j : Nat), allTs TX ts → allDs DX (dcKs k o n j p ts)
 | [], j, _ => by rw [dcKs]; exact dxs_nil
 | t :: ts, j, h => by
  rw [allTs] at h
  rw [dcKs]
  exact dxs_cons (dx_bif (dx_doc t _ h.1) (dx_par (dx_doc t _ h.1) (dx_doc t _ h.1))) (dx_docs k o n p ts (j + 1) h.2)
end
theorem dx_docE (t : STree) (p : SPos) (h : allT TX t) : allD DX (dcE t p) := dx_par (dx_doc t _ h) (dx_doc t _ h)
theorem dl_sm (d : SDoc) (b : Nat) (h : allD DX d) (hsz : dz d ≤ 1000000) : ∀ x, x ∈ dl b d → smDNode x := fun x hx => ⟨dl_tx d b h x hx, by have := dl_kids d b x hx; omega⟩

end Go.Proofs.Tryz

/-
 Plain lemmas on the models, part 4.
-/
import Derived.Test.YtjlakgfgicjffaaGreatDoorFiSP3
namespace Go.Proofs.Tryz
open Go.Av
set_option maxRecDepth 100000
set_option linter.unusedSimpArgs false
set_option linter.unusedVariables false

def hB (k : Int) (t : List UInt8) : Bool := k == 1 && match t with
 | [c] => decide (((c.toNat : Int)) ≥ 97) && decide (((c.toNat : Int)) ≤ 122)
 | _ => false

theorem isHole_spec (n : SNode) : ms_IsHole n = some (hB n.Kind n.Text) := by
 obtain ⟨k, o, t, p, ks⟩ := n
 unfold ms_IsHole hB
 simp only
 cases hk : (k == 1) with
 | false => rfl
 | true =>
  match t with
  | [] => rfl
  | [c] =>
   have hc := UInt8.toNat_lt c
   have e : ix [c] 0 = some c := rfl
   have e1 : ((([c] : List UInt8).length : Int) == 1) = true := rfl
   rw [cond_true, e1, cond_true, e, Option.bind_some, wrap64 (by omega) (by omega), l1In_is]
   rfl
  | a :: b :: r =>
   have e : (((a :: b :: r).length : Int) == 1) = false := by simp; omega
   rw [cond_true, e]
   rfl

theorem isHole_impl (n : SNode) : mi_IsHole n = some (hB n.Kind n.Text) := by
 obtain ⟨k, o, t, p, ks⟩ := n
 unfold mi_IsHole hB
 simp only
 cases hk : (k == 1) with
 | false => rfl
 | true =>
  match t with
  | [] => rfl
  | [c] =>
   have e : ix [c] 0 = some c := rfl
   have e1 : ((([c] : List UInt8).length : Int) == 1) = true := rfl
   rw [cond_true, e1, cond_true, e, Option.bind_some, Option.bind_some]
   show _ = some (decide (((c.toNat : Int)) ≥ 97) && decide (((c.toNat : Int)) ≤ 122))
   cases decide (((c.toNat : Int)) ≥ 97) <;> rfl
  | a :: b :: r =>
   have e : (((a :: b :: r).length : Int) == 1) = false := by simp; omega
   rw [cond_true, e]
   rfl

theorem isHoleT (t : STree) : mi_tree__isHole t = some (hB t.kind t.text) := by
 unfold mi_tree__isHole
 rw [isHole_impl]
 rfl


mutual
def fillT (g : List SFilling) : STree → STree
 | ⟨k, o, x, y, ks⟩ => if hB k x = true then (match g.find? (fun f => f.name == x) with | some f => f.tree | none => ⟨k, o, x, y, ks⟩) else ⟨k, o, x, y, fillTs g ks⟩
def fillTs (g : List SFilling) : List STree → List STree
 | [] => []
 | t :: ts => fillT g t :: fillTs g ts
end
mutual
theorem szT_fill (g : List SFilling) (hg : ∀ f, f ∈ g → szT f.tree ≤ 400) : ∀ t : STree, szT (fillT g t) ≤ 400 * szT t
 | ⟨k, o, x, y, ks⟩ => by
  rw [fillT]
  have hs : szT ⟨k, o, x, y, ks⟩ = szTs ks + 1 := szT_eq _
  split
  ·split
   ·rename_i f hf
    have := hg f (List.mem_of_find?_eq_some hf)
    omega
   ·omega
  ·have := szTs_fill g hg ks
   rw [szT_eq]
   simp only
   omega
theorem szTs_fill (g : List SFilling) (hg : ∀ f, f ∈ g → szT f.tree ≤ 400) : ∀ ts : List STree, szTs (fillTs g ts) ≤ 400 * szTs ts
 | [] => by simp [fillTs, szTs]
 | t :: ts => by
  rw [fillTs, szTs, szTs]
  have := szT_fill g hg t
  have := szTs_fill g hg ts
  omega
end
theorem txT_parts {k o : Int} {x y : List UInt8} {ks : List STree} (h : txT ⟨k, o, x, y, ks⟩) : (∀ t, t ∈ ks → txT t) ∧ x.length ≤ 1048576 ∧ y.length ≤ 1048576 := by
 have hk : ∀ (ts : List STree) (b : Nat), (∀ z, z ∈ lsts b ts → tx z) → ∀ t, t ∈ ts → txT t := by
  intro ts
  induction ts with
  | nil => intro b _ t ht; cases ht
  | cons u ts ih =>
   intro b hz t ht
   rw [lsts] at hz
   rcases List.mem_cons.1 ht with rfl | ht
   ·intro z hzz
    have e := lst_sh t 0 b
    rw [Nat.zero_add] at e
    have := hz (shN (b : Int) z) (List.mem_append.2 (.inl (by rw [e]; exact List.mem_map_of_mem hzz)))
    exact this
   ·exact ih _ (fun z hzz => hz z (List.mem_append.2 (.inr hzz))) t ht
 have hall : ∀ z, z ∈ lsts 0 ks ++ [(⟨k, o, x, y, endsT 0 ks⟩ : SNode)] → tx z := fun z hz => h z (by rw [lst]; exact hz)
 have hlast := hall ⟨k, o, x, y, endsT 0 ks⟩ (by simp)
 exact ⟨hk ks 0 fun z hz => hall z (List.mem_append.2 (.inl hz)), hlast.1, hlast.2⟩
mutual
theorem txT_fill (g : List SFilling) (hg : ∀ f, f ∈ g → txT f.tree) : ∀ t : STree, txT t → txT (fillT g t)
 | ⟨k, o, x, y, ks⟩, h => by
  rw [fillT]
  split
  ·split
   ·rename_i f hf
    exact hg f (List.mem_of_find?_eq_some hf)
   ·exact h
  ·obtain ⟨h1, h2, h3⟩ := txT_parts h
   exact txT_mk (txTs_fill g hg ks h1) h2 h3
theorem txTs_fill (g : List SFilling) (hg : ∀ f, f ∈ g → txT f.tree) : ∀ ts : List STree, (∀ t, t ∈ ts → txT t) → ∀ t, t ∈ fillTs g ts → txT t
 | [], _, t, ht => by rw [fillTs] at ht; cases ht
 | u :: ts, h, t, ht => by
  rw [fillTs] at ht
  rcases List.mem_cons.1 ht with rfl | ht
  ·exact txT_fill g hg u (h u (by simp))
  ·exact txTs_fill g hg ts (fun v hv => h v (by simp [hv])) t ht
end

theorem filled_l1 (M : Nat) (g : List SFilling) (t : STree) (hm : g.length ≤ 1048576) : ∀ (n i : Nat), g.length - i < n → i ≤ g.length →
  mi_tree__filled_l1 M (scc4 M) n (g, t, (i : Int)) = some (match (g.drop i).find? (fun f => f.name == t.text) with
   | some f => f.tree
   | none => t) := by
 intro n
 induction n with
 | zero => intro i h; omega
 | succ n ih =>
  intro i hn hi
  rw [mi_tree__filled_l1]
  by_cases h : i < g.length
  ·simp only [lt_true h, cond_true, ix_nat h, Option.bind_some]
   rw [drop_cons h, List.find?_cons, step64 h (by simp only [maxLen]; omega)]
   cases (g[i].name == t.text) with
   | true => rfl
   | false =>
    simp only [cond_false]
    exact ih (i + 1) (by omega) (by omega)
  ·simp only [lt_false h, cond_false]
   rw [drop_nil h]
   rfl

theorem filled_l2 (M : Nat) (g : List SFilling) (t : STree) (ht : t.kids.length ≤ 100000) (ih : ∀ k, k ∈ t.kids → (scc4 M).mi_tree__filled k g = some (fillT g k)) : ∀ (ts : List STree) (n j : Nat) (acc : List STree), t.kids.drop j = ts → ts.length < n → acc.length ≤ j → j ≤ t.kids.length →
  mi_tree__filled_l2 M (scc4 M) n (g, t, (j : Int), acc) = some ⟨t.kind, t.op, t.text, t.other, acc ++ fillTs g ts⟩
 | [], n, j, acc, hd, hn, ha, hj => by
  obtain ⟨n, rfl⟩ : ∃ m, n = m + 1 := ⟨n - 1, by simp at hn; omega⟩
  have hlt : ¬ j < t.kids.length := by
   intro h
   rw [drop_cons h] at hd
   cases hd
  rw [mi_tree__filled_l2]
  simp only [lt_false hlt, cond_false, mi_tree__with, Option.bind_some, fillTs, List.append_nil]
 | k :: ts, n, j, acc, hd, hn, ha, hj => by
  simp only [List.length_cons] at hn
  obtain ⟨n, rfl⟩ : ∃ m, n = m + 1 := ⟨n - 1, by omega⟩
  have hlt : j < t.kids.length := by
   cases Nat.lt_or_ge j t.kids.length with
   | inl h => exact h
   | inr h => rw [List.drop_of_length_le h] at hd; cases hd
  rw [drop_cons hlt] at hd
  injection hd with hd1 hd2
  rw [mi_tree__filled_l2]
  simp only [lt_true hlt, cond_true, ix_nat hlt, Option.bind_some, ih _ (List.getElem_mem hlt)]
  rw [app_some (by simp; omega), Option.bind_some, step64 hlt (by simp only [maxLen]; omega)]
  have := filled_l2 M g t ht ih ts n (j + 1) (acc ++ [fillT g t.kids[j]]) hd2 (by omega) (by simp; omega) (by omega)
  refine Eq.trans this ?_
  rw [← hd1, fillTs, List.append_assoc]
  rfl

theorem filled_is (g : List SFilling) (hm : g.length ≤ 1048576) : ∀ (t : STree) (N : Nat), 2 * szT t + 2 + 1048577 ≤ N → szT t ≤ 100000 → (scc4 N).mi_tree__filled t g = some (fillT g t) := by
 intro t
 induction t using STree.ind with
 | h t ih =>
  intro N hN hsz
  obtain ⟨M, rfl⟩ : ∃ M, N = M + 1 := ⟨N - 1, by omega⟩
  have hs := szT_eq t
  have htl := szTs_len t.kids
  show mi_tree__filled_F M (scc4 M) t g = _
  unfold mi_tree__filled_F
  rw [isHoleT, Option.bind_some]
  have h1 := filled_l1 M g t (by omega) M 0 (by omega) (by omega)
  have h2 := filled_l2 M g t (by omega) (fun k hk => ih k hk M (by have := szTs_mem hk; omega) (by have := szTs_mem hk; omega)) t.kids M 0 [] rfl (by omega) (by simp) (by omega)
  obtain ⟨k, o, x, y, ks⟩ := t
  rw [fillT]
  simp only at h1 h2 ⊢
  cases hh : hB k x with
  | true =>
   rw [cond_true, if_pos rfl]
   refine Eq.trans h1 ?_
   rw [List.drop_zero]
  | false =>
   rw [cond_false, if_neg (by simp)]
   exact h2

theorem wrap_add (x y : Int) : IntKind.wrap .i64 (IntKind.wrap .i64 x + y) = IntKind.wrap .i64 (x + y) := by
 rw [IntKind.wrap_i64, IntKind.wrap_i64, IntKind.wrap_i64]; omega
def shW (d : Int) (x : SNode) : SNode := ⟨x.Kind, x.Op, x.Text, x.Other, x.Kids.map fun k => IntKind.wrap .i64 (k + d)⟩
theorem shW_shW (b c : Int) (x : SNode) : shW b (shW c x) = shW (c + b) x := by
 simp only [shW, List.map_map]
 congr 1
 refine List.map_congr_left fun k _ => ?_
 show IntKind.wrap .i64 (IntKind.wrap .i64 (k + c) + b) = _
 rw [wrap_add, Int.add_assoc]
theorem shW_shN {b : Int} {x : SNode} (h : ∀ k, k ∈ x.Kids → -9223372036854775808 ≤ k + b ∧ k + b ≤ 9223372036854775807) : shW b x = shN b x := by
 simp only [shW, shN]
 congr 1
 exact List.map_congr_left fun k hk => wrap64 (h k hk).1 (h k hk).2

theorem shiftW_l2 (N : Nat) (kb : (List SNode × Int × Int × List SNode) → Option (List SNode)) (a : List SNode) (d : Int) (i : Nat) (hi : i < a.length) (hi2 : i ≤ 1073741824) (out : List SNode) (ho : out.length = i) (hk : a[i].Kids.length ≤ 1048576) :
  ∀ (n j : Nat) (ks : List Int), a[i].Kids.length - j < n → j ≤ a[i].Kids.length → ks.length = j →
   ms_l6Shift_l2 N kb n (a, d, (i : Int), out, a[i], (j : Int), ks) = kb (a, d, ((i + 1 : Nat) : Int), out ++ [⟨a[i].Kind, a[i].Op, a[i].Text, a[i].Other, ks ++ (a[i].Kids.drop j).map fun k => IntKind.wrap .i64 (k + d)⟩]) := by
 intro n
 induction n with
 | zero => intro j ks h; omega
 | succ n ih =>
  intro j ks hn hj hks
  rw [ms_l6Shift_l2, ix_nat hi, Option.bind_some]
  by_cases h : j < a[i].Kids.length
  ·simp only [lt_true h, cond_true, ix_nat hi, ix_nat h, Option.bind_some, step64 h (by simp only [maxLen]; omega)]
   rw [app_some (by simp; omega), Option.bind_some, ih (j + 1) _ (by omega) (by omega) (by simp [hks]), drop_cons h]
   simp only [List.map_cons, List.append_assoc, List.cons_append, List.nil_append]
  ·simp only [lt_false h, cond_false]
   rw [app_some (by simp; omega), Option.bind_some, drop_nil h, wrap64 (by omega) (by omega)]
   simp

theorem shiftW_l1 (N : Nat) (a : List SNode) (d : Int) (hN : 1048577 < N) (ha : a.length ≤ 1073741824) (hs : ∀ x, x ∈ a → x.Kids.length ≤ 1048576) :
  ∀ (n i : Nat) (out : List SNode), a.length - i < n → i ≤ a.length → out.length = i → ms_l6Shift_l1 N n (a, d, (i : Int), out) = some (out ++ (a.drop i).map (shW d)) := by
 intro n
 induction n with
 | zero => intro i out h; omega
 | succ n ih =>
  intro i out hn hi ho
  rw [ms_l6Shift_l1]
  by_cases h : i < a.length
  ·have hx := hs _ (List.getElem_mem h)
   simp only [lt_true h, cond_true, ix_nat h, Option.bind_some]
   have := shiftW_l2 N (ms_l6Shift_l1 N n) a d i h (by omega) out ho (by omega) N 0 [] (by omega) (by omega) rfl
   simp only [List.drop_zero, List.nil_append] at this
   refine Eq.trans this ?_
   rw [ih (i + 1) _ (by omega) (by omega) (by simp [ho]), drop_cons h]
   simp only [List.map_cons, List.append_assoc, List.cons_append, List.nil_append, shW]
  ·simp only [lt_false h, cond_false]
   rw [drop_nil h]
   simp

theorem shiftW_is (N : Nat) (a : List SNode) (d : Int) (hN : 1073741825 < N) (ha : a.length ≤ 1073741824) (hs : ∀ x, x ∈ a → x.Kids.length ≤ 1048576) :
  ms_l6Shift N a d = some (a.map (shW d)) := by
 have := shiftW_l1 N a d (by omega) ha hs N 0 [] (by omega) (by omega) rfl
 rw [List.drop_zero, List.nil_append] at this
 exact this

def sumL : List (List SNode) → Nat
 | [] => 0
 | p :: ps => p.length + sumL ps
def catL (b : Nat) : List (List SNode) → List SNode
 | [] => []
 | p :: ps => p.map (shW (b : Int)) ++ catL (b + p.length) ps
def endsL (b : Nat) : List (List SNode) → List Int
 | [] => []
 | p :: ps => (((b + p.length : Nat) : Int) - 1) :: endsL (b + p.length) ps
def mkL (k o : Int) (x y : List UInt8) (ps : List (List SNode)) : List SNode := catL 0 ps ++ [⟨k, o, x, y, endsL 0 ps⟩]
theorem catL_len : ∀ (ps : List (List SNode)) (b : Nat), (catL b ps).length = sumL ps
 | [], b => rfl
 | p :: ps, b => by rw [catL, sumL, List.length_append, List.length_map, catL_len ps]
theorem endsL_len : ∀ (ps : List (List SNode)) (b : Nat), (endsL b ps).length = ps.length
 | [], b => rfl
 | p :: ps, b => by rw [endsL, List.length_cons, List.length_cons, endsL_len ps]
theorem sumL_app : ∀ (p q : List (List SNode)), sumL (p ++ q) = sumL p + sumL q
 | [], q => by simp [sumL]
 | x :: p, q => by rw [List.cons_append, sumL, sumL, sumL_app p q]; omega
theorem catL_app : ∀ (p q : List (List SNode)) (b : Nat), catL b (p ++ q) = catL b p ++ catL (b + sumL p) q
 | [], q, b => by simp [sumL, catL]
 | x :: p, q, b => by rw [List.cons_append, catL, catL, catL_app p q, sumL, List.append_assoc, Nat.add_assoc]
theorem endsL_app : ∀ (p q : List (List SNode)) (b : Nat), endsL b (p ++ q) = endsL b p ++ endsL (b + sumL p) q
 | [], q, b => by simp [sumL, endsL]
 | x :: p, q, b => by rw [List.cons_append, endsL, endsL, endsL_app p q, sumL, List.cons_append, Nat.add_assoc]
theorem catL_sh : ∀ (ps : List (List SNode)) (b c : Nat), (catL c ps).map (shW (b : Int)) = catL (b + c) ps
 | [], b, c => rfl
 | p :: ps, b, c => by
  rw [catL, catL, List.map_append, catL_sh ps, List.map_map, show b + (c + p.length) = b + c + p.length by omega]
  congr 1
  refine List.map_congr_left fun x _ => ?_
  show shW _ (shW _ x) = _
  rw [shW_shW]
  congr 1
  omega
theorem endsL_sh : ∀ (ps : List (List SNode)) (b c : Nat), b + c + sumL ps ≤ 1000000000000 → (endsL c ps).map (fun k => IntKind.wrap .i64 (k + (b : Int))) = endsL (b + c) ps
 | [], b, c, _ => rfl
 | p :: ps, b, c, h => by
  rw [sumL] at h
  rw [endsL, endsL, List.map_cons, endsL_sh ps b (c + p.length) (by omega), show b + (c + p.length) = b + c + p.length by omega, wrap64 (by omega) (by omega)]
  congr 1
  omega

theorem makeW_l (N : Nat) (n0 : SNode) (ps : List (List SNode)) (hN : 1073741825 < N) (hsz : sumL ps ≤ 1000000000) (hps : ps.length ≤ 1048576) (hk : ∀ p, p ∈ ps → ∀ x, x ∈ p → x.Kids.length ≤ 1048576) : ∀ (rest done : List (List SNode)) (n : Nat), done ++ rest = ps → rest.length < n →
  ms_l6Make_l1 N n (ps, n0, (done.length : Int), catL 0 done, endsL 0 done) = some (mkL n0.Kind n0.Op n0.Text n0.Other ps)
 | [], done, n, hd, hn => by
  obtain ⟨n, rfl⟩ : ∃ m, n = m + 1 := ⟨n - 1, by simp at hn; omega⟩
  rw [List.append_nil] at hd
  subst hd
  rw [ms_l6Make_l1]
  simp only [lt_false (Nat.lt_irrefl _), cond_false]
  rw [app_some (by rw [catL_len]; simp; omega), Option.bind_some]
  rfl
 | p :: rest, done, n, hd, hn => by
  simp only [List.length_cons] at hn
  obtain ⟨n, rfl⟩ : ∃ m, n = m + 1 := ⟨n - 1, by omega⟩
  have hl : done.length < ps.length := by rw [← hd]; simp
  have hg : ps[done.length]? = some p := by rw [← hd]; simp
  have hp : p ∈ ps := List.mem_of_getElem? hg
  have hs : sumL done + p.length ≤ sumL ps := by rw [← hd, sumL_app, sumL]; omega
  rw [ms_l6Make_l1]
  simp only [lt_true hl, cond_true, ix_get hg, Option.bind_some]
  rw [shiftW_is N p _ hN (by omega) (hk p hp), Option.bind_some, app_some (by rw [catL_len, List.length_map]; omega), Option.bind_some, app_some (by rw [endsL_len]; simp; omega), Option.bind_some, step64 hl (by simp only [maxLen]; omega)]
  have e1 : catL 0 done ++ p.map (shW ((catL 0 done).length : Int)) = catL 0 (done ++ [p]) := by
   rw [catL_app, catL, catL, catL_len, List.append_nil, Nat.zero_add]
  have e2 : endsL 0 done ++ [IntKind.wrap .i64 (((catL 0 done ++ p.map (shW ((catL 0 done).length : Int))).length : Int) - 1)] = endsL 0 (done ++ [p]) := by
   rw [endsL_app, endsL, endsL, List.length_append, catL_len, List.length_map, wrap64 (by omega) (by omega), Nat.zero_add]
  rw [e2, e1]
  have := makeW_l N n0 ps hN hsz hps hk rest (done ++ [p]) n (by rw [List.append_assoc]; exact hd) (by omega)
  rw [List.length_append] at this
  exact this

theorem makeW_is (N : Nat) (n0 : SNode) (ps : List (List SNode)) (hN : 1073741825 < N) (hsz : sumL ps ≤ 1000000000) (hps : ps.length ≤ 1048576) (hk : ∀ p, p ∈ ps → ∀ x, x ∈ p → x.Kids.length ≤ 1048576) : ms_l6Make N n0 ps = some (mkL n0.Kind n0.Op n0.Text n0.Other ps) :=
 makeW_l N n0 ps hN hsz hps hk ps [] N rfl (by omega)

mutual
def fillL (h : List SHole) : STree → List SNode
 | ⟨k, o, x, y, ks⟩ => match (if hB k x = true then h.find? (fun f => f.Name == x) else none) with
  | some f => if f.Part.length = 0 then mkL k o x y (fillLs h ks) else f.Part
  | none => mkL k o x y (fillLs h ks)
def fillLs (h : List SHole) : List STree → List (List SNode)
 | [] => []
 | t :: ts => fillL h t :: fillLs h ts
end
theorem fillLs_len (h : List SHole) : ∀ ts : List STree, (fillLs h ts).length = ts.length
 | [] => rfl
 | t :: ts => by rw [fillLs, List.length_cons, fillLs_len h ts, List.length_cons]
theorem mkL_len (k o : Int) (x y : List UInt8) (ps : List (List SNode)) : (mkL k o x y ps).length = sumL ps + 1 := by
 unfold mkL
 rw [List.length_append, catL_len]; rfl
def PtOk (h : List SHole) : Prop := ∀ f, f ∈ h → f.Part.length ≤ 1048576 ∧ ∀ x, x ∈ f.Part → smNode x ∧ i64N x
mutual
theorem fillL_len (h : List SHole) (hg : PtOk h) : ∀ t : STree, (fillL h t).length ≤ 1048577 * szT t
 | ⟨k, o, x, y, ks⟩ => by
  have hs : szT ⟨k, o, x, y, ks⟩ = szTs ks + 1 := szT_eq _
  have h1 := fillLs_sum h hg ks
  rw [fillL]
  split
  ·split
   ·rw [mkL_len]; omega
   ·rename_i f hf _
    have hf2 : f ∈ h := by
     split at hf
     ·exact List.mem_of_find?_eq_some hf
     ·cases hf
    have := (hg f hf2).1
    omega
  ·rw [mkL_len]; omega
theorem fillLs_sum (h : List SHole) (hg : PtOk h) : ∀ ts : List STree, sumL (fillLs h ts) ≤ 1048577 * szTs ts
 | [] => by simp [fillLs, sumL, szTs]
 | t :: ts => by
  have h1 := fillL_len h hg t
  have h2 := fillLs_sum h hg ts
  rw [fillLs, sumL, szTs]
  omega
end
theorem catL_sm : ∀ (ps : List (List SNode)) (b : Nat), (∀ p, p ∈ ps → ∀ x, x ∈ p → smNode x) → ∀ x, x ∈ catL b ps → smNode x
 | [], b, _, x, hx => by rw [catL] at hx; cases hx
 | p :: ps, b, h, x, hx => by
  rw [catL] at hx
  rcases List.mem_append.1 hx with hx | hx
  ·obtain ⟨z, hz, rfl⟩ := List.mem_map.1 hx
   have := h p (by simp) z hz
   unfold smNode at this ⊢
   simpa [shW] using this
  ·exact catL_sm ps _ (fun q hq => h q (by simp [hq])) x hx
mutual
theorem fillL_sm (h : List SHole) (hg : PtOk h) : ∀ t : STree, txT t → szT t ≤ 100000 → ∀ x, x ∈ fillL h t → smNode x
 | ⟨k, o, x, y, ks⟩, ht, hsz, z, hz => by
  obtain ⟨h1, h2, h3⟩ := txT_parts ht
  have hs : szT ⟨k, o, x, y, ks⟩ = szTs ks + 1 := szT_eq _
  have h4 := fillLs_sm h hg ks h1 (by omega)
  have hl := szTs_len ks
  have hmk : ∀ z, z ∈ mkL k o x y (fillLs h ks) → smNode z := fun z hz => by
   unfold mkL at hz
   rcases List.mem_append.1 hz with hz | hz
   ·exact catL_sm _ _ h4 z hz
   ·rw [List.mem_singleton.1 hz]
    exact ⟨h2, h3, by rw [endsL_len, fillLs_len]; omega⟩
  rw [fillL] at hz
  split at hz
  ·split at hz
   ·exact hmk z hz
   ·rename_i f hf _
    have hf2 : f ∈ h := by
     split at hf
     ·exact List.mem_of_find?_eq_some hf
     ·cases hf
    exact ((hg f hf2).2 z hz).1
  ·exact hmk z hz
theorem fillLs_sm (h : List SHole) (hg : PtOk h) : ∀ ts : List STree, (∀ t, t ∈ ts → txT t) → szTs ts ≤ 100000 → ∀ p, p ∈ fillLs h ts → ∀ x, x ∈ p → smNode x
 | [], _, _, p, hp => by rw [fillLs] at hp; cases hp
 | t :: ts, ht, hsz, p, hp => by
  rw [szTs] at hsz
  rw [fillLs] at hp
  rcases List.mem_cons.1 hp with rfl | hp
  ·exact fillL_sm h hg t (ht t (by simp)) (by omega)
  ·exact fillLs_sm h hg ts (fun u hu => ht u (by simp [hu])) (by omega) p hp
end

theorem ofW_l (N : Nat) (h : List SHole) (x : List UInt8) (hm : h.length ≤ 1048576) : ∀ (n i : Nat), h.length - i < n → i ≤ h.length →
  ms_l32Of_l1 N n (h, x, (i : Int)) = some (match (h.drop i).find? (fun f => f.Name == x) with | some f => (f.Part, true) | none => ([], false)) := by
 intro n
 induction n with
 | zero => intro i h; omega
 | succ n ih =>
  intro i hn hi
  rw [ms_l32Of_l1]
  by_cases hlt : i < h.length
  ·simp only [lt_true hlt, cond_true, ix_nat hlt, Option.bind_some]
   rw [drop_cons hlt, List.find?_cons, step64 hlt (by simp only [maxLen]; omega)]
   cases (h[i].Name == x) with
   | true => rfl
   | false =>
    simp only [cond_false]
    exact ih (i + 1) (by omega) (by omega)
  ·simp only [lt_false hlt, cond_false]
   rw [drop_nil hlt]
   rfl
theorem ofW_is (N : Nat) (h : List SHole) (x : List UInt8) (hm : h.length ≤ 1048576) (hN : 1048577 < N) :
  ms_l32Of N h x = some (match h.find? (fun f => f.Name == x) with | some f => (f.Part, true) | none => ([], false)) := by
 have := ofW_l N h x hm N 0 (by omega) (by omega)
 rw [List.drop_zero] at this
 exact this

theorem fillW_l2 (M : Nat) (r : List SNode) (h : List SHole) (t : STree) (n : SNode) (i : Nat) (hr : r[i]? = some n) {s e : Nat} (hk : KA r t.kids n.Kids s e) (hM : 1073741825 < M) (hl : t.kids.length ≤ 100000) (hsz : sumL (fillLs h t.kids) ≤ 1000000000)
  (hsm : ∀ p, p ∈ fillLs h t.kids → ∀ x, x ∈ p → x.Kids.length ≤ 1048576)
  (ih : ∀ k, k ∈ t.kids → ∀ s' i' : Nat, TA r k s' i' → (scc1 M).ms_l32Fill r (i' : Int) h = some (fillL h k)) : ∀ (ts : List STree) (f j : Nat) (acc : List (List SNode)), t.kids.drop j = ts → ts.length < f → acc.length ≤ j → j ≤ t.kids.length → acc ++ fillLs h ts = fillLs h t.kids →
  ms_l32Fill_l2 M (scc1 M) f (r, (i : Int), h, (j : Int), acc) = some (mkL n.Kind n.Op n.Text n.Other (fillLs h t.kids))
 | [], f, j, acc, hd, hf, ha, hj, he => by
  obtain ⟨f, rfl⟩ : ∃ m, f = m + 1 := ⟨f - 1, by simp at hf; omega⟩
  have hkl : n.Kids.length = t.kids.length := by rw [hk.part.2.2.2, endsT_len]
  have hlt : ¬ j < n.Kids.length := by
   intro h
   rw [drop_cons (by omega)] at hd
   cases hd
  rw [fillLs, List.append_nil] at he
  subst he
  rw [ms_l32Fill_l2]
  simp only [ix_get hr, Option.bind_some, lt_false hlt, cond_false, makeW_is M n _ hM hsz (by rw [fillLs_len]; omega) hsm]
 | k :: ts, f, j, acc, hd, hf, ha, hj, he => by
  simp only [List.length_cons] at hf
  obtain ⟨f, rfl⟩ : ∃ m, f = m + 1 := ⟨f - 1, by omega⟩
  have hlt : j < t.kids.length := by
   cases Nat.lt_or_ge j t.kids.length with
   | inl h => exact h
   | inr h => rw [List.drop_of_length_le h] at hd; cases hd
  have hkl : n.Kids.length = t.kids.length := by rw [hk.part.2.2.2, endsT_len]
  have hlt2 : j < n.Kids.length := by omega
  rw [drop_cons hlt] at hd
  injection hd with hd1 hd2
  obtain ⟨i', s', e1, ta, _⟩ := hk.get j t.kids[j] (List.getElem?_eq_getElem hlt)
  rw [ms_l32Fill_l2]
  simp only [ix_get hr, Option.bind_some, lt_true hlt2, cond_true, ix_get e1, ih _ (List.getElem_mem hlt) s' i' ta]
  rw [app_some (by simp; omega), Option.bind_some, step64 hlt2 (by simp only [maxLen]; omega)]
  refine fillW_l2 M r h t n i hr hk hM hl hsz hsm ih ts f (j + 1) _ hd2 (by omega) (by simp; omega) (by omega) ?_
  rw [← he, ← hd1, fillLs, List.append_assoc]
  rfl

theorem fillW_is (r : List SNode) (h : List SHole) (hm : h.length ≤ 1048576) (hg : PtOk h) (hsr : ∀ x, x ∈ r → smNode x) : ∀ (t : STree) (s i N : Nat), TA r t s i → szT t ≤ 400 → 1073741825 + 1000 + 2 * szT t ≤ N →
  (scc1 N).ms_l32Fill r (i : Int) h = some (fillL h t) := by
 intro t
 induction t using STree.ind with
 | h t ih =>
  intro s i N hp hsz hN
  obtain ⟨M, rfl⟩ : ∃ M, N = M + 1 := ⟨N - 1, by omega⟩
  have hs := szT_eq t
  have htl := szTs_len t.kids
  have htx := txT_of hsr hp
  obtain ⟨n, hn, n1, n2, n3, n4, nk, nkl⟩ := hp.node
  have hf := fillLs_sum h hg t.kids
  have hsm := fillLs_sm h hg t.kids (by obtain ⟨k, o, x, y, ks⟩ := t; exact (txT_parts htx).1) (by omega)
  have hloop := fillW_l2 M r h t n i hn nk (by omega) (by omega) (by omega) (fun p hp x hx => (hsm p hp x hx).2.2) (fun k hk s' i' ta => ih k hk s' i' M ta (by have := szTs_mem hk; omega) (by have := szTs_mem hk; omega)) t.kids M 0 [] rfl (by omega) (by simp) (by omega) rfl
  show ms_l32Fill_F M (scc1 M) r (i : Int) h = _
  unfold ms_l32Fill_F ms_l32Fill_k1
  rw [ix_get hn]
  simp only [Option.bind_some, isHole_spec]
  obtain ⟨k, o, x, y, ks⟩ := t
  simp only at n1 n2 n3 n4 nk nkl hloop
  subst n1 n2 n3 n4
  rw [fillL]
  cases hh : hB n.Kind n.Text with
  | true =>
   simp only [cond_true, ofW_is M h n.Text hm (by omega), Option.bind_some, if_pos]
   cases hfd : h.find? (fun f => f.Name == n.Text) with
   | some f =>
    obtain ⟨f1, f2⟩ := hg f (List.mem_of_find?_eq_some hfd)
    simp only [cond_true, Option.bind_some]
    by_cases hz : f.Part.length = 0
    ·rw [show decide ((f.Part.length : Int) > 0) = false from decide_eq_false (by omega), cond_false, if_pos hz]
     exact hloop
    ·rw [show decide ((f.Part.length : Int) > 0) = true from decide_eq_true (by omega), cond_true, if_neg hz, copy_is M _ (by omega) f1 (fun x hx => (f2 x hx).1) (fun x hx => (f2 x hx).2), Option.bind_some]
   | none =>
    simp only [cond_false, Option.bind_some]
    exact hloop
  | false =>
   simp only [cond_false, Bool.false_eq_true, if_false]
   exact hloop

end Go.Proofs.Tryz

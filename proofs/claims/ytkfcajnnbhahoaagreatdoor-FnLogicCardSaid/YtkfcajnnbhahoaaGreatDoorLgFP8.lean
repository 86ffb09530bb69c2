/-
 Plain lemmas on the models, part 8.
-/
import Derived.Test.YtkfcajnnbhahoaaGreatDoorLgFP7
namespace Go.Proofs.Tryz
open Go.Av
set_option maxRecDepth 100000
set_option linter.unusedSimpArgs false
set_option linter.unusedVariables false

section
set_option linter.unusedSectionVars false
variable (b : List UInt8) (hb : b.length ≤ 1048576) {N : Nat} (hN : 1050000 ≤ N)
include hb hN
theorem ex_sm {d : Nat} (hd : d ≤ 6) (deep : Int) (hdp : deep.toNat = d) (g1 : -1000 ≤ deep) (g2 : deep ≤ 1000) (i : Nat) (h : Int) (hi : i ≤ b.length) : Sm b (exprP d) (lst 0) i h (ms_l7Expr N deep b (i : Int) h) := expr_sm b hb N d hd (by omega) deep hdp g1 g2 i h hi
theorem simpleK_sm {d : Nat} (hd : d ≤ 2) (deep : Int) (hdp : deep.toNat = d) (g1 : -800 ≤ deep) (i : Nat) (h : Int) (hi : i ≤ b.length) : Sm b (simpleK d) (lst 0) i h (ms_l7Simple_k1 N b (deep, (i : Int), h)) := by
 unfold ms_l7Simple_k1 simpleK
 refine Sm.bind hi (expr2_post hd) (ex_sm b hb hN (by omega) deep hdp (by omega) (by omega) i h hi) fun t i h ht hi => ?_
 exact mkn_sm (α := Unit) b hb (by omega) 20 0 [] [] [t] (by have := ht.1; simp only [szTs]; omega) i h
theorem simpleQ_sm {d : Nat} (hd : d ≤ 2) (deep : Int) (hdp : deep.toNat = d) (g1 : -800 ≤ deep) (r : Int) (y : Bool) (i : Nat) (h : Int) (hi : i ≤ b.length) : Sm b (simpleQ d r y) (lst 0) i h (ms_l7Simple_k2 N b (deep, (r, (i : Int), h), y)) := by
 have e := expr2_post hd
 have e1 := expr2_post (d := d - 1) (by omega)
 have w1 : IntKind.wrap .i64 (deep - 1) = deep - 1 := wrap64 (by omega) (by omega)
 unfold ms_l7Simple_k2 simpleQ
 dsimp only
 refine Sm.cond (fun _ => ?_) fun _ => Sm.cond (fun _ => ?_) fun _ => Sm.cond (fun _ => ?_) fun _ => Sm.cond (fun _ => ?_) fun _ => Sm.cond (fun _ => ?_) fun _ => simpleK_sm b hb hN hd deep hdp g1 i h hi
 ·refine Sm.bind hi (below_post 2) (below_sm b hb 2 i h hi) fun q i h hq hi => ?_
  obtain ⟨q, rfl⟩ := Int.eq_ofNat_of_zero_le hq.1
  dsimp only
  refine Sm.bind hi (list_post e q 3 (by omega)) (exlist_sm b hb N d (by omega) (by omega) q 3 (by omega) (by omega) deep hdp (by omega) (by omega) i h hi) fun ts i h hts hi => ?_
  dsimp only
  refine Sm.bind hi (once_post 3) (once_sm b hb 3 i h hi) fun o i h _ hi => ?_
  dsimp only
  refine Sm.cond (fun _ => ?_) fun _ => ?_
  ·refine Sm.bind hi (pick_sh _ (by decide) (by decide)) (pick_sm b hb _ (by decide) i h hi) fun x i h _ hi => ?_
   dsimp only
   rw [w1]
   refine Sm.bind hi e1 (ex_sm b hb hN (by omega) (deep - 1) (by omega) (by omega) (by omega) i h hi) fun t i h ht hi => ?_
   dsimp only
   rw [app_some (by have := hts.2.1; simp; omega), oBs]
   unfold ms_l7Simple_k3
   dsimp only
   have := mkn_sm (α := Unit) b hb (N := N) (by omega) 21 (q : Int) [] x (ts ++ [t]) (by have := ht.1; have := hts.2.2.1; rw [szTs_app]; simp only [szTs]; omega) i h
   rw [List.map_append] at this
   exact this
  ·unfold ms_l7Simple_k3
   dsimp only
   exact mkn_sm (α := Unit) b hb (by omega) 21 (q : Int) [] [] ts (by have := hts.2.2.1; omega) i h
 ·exact Sm.bind hi (pickI_post _ (by decide)) (pickInt_sm b hb _ (by decide) i h hi) fun k i h _ hi => Sm.ret
 ·refine Sm.bind hi (pickI_post _ (by decide)) (pickInt_sm b hb _ (by decide) i h hi) fun k i h _ hi => ?_
  dsimp only
  refine Sm.bind hi (list_post e 0 1 (by omega)) (exlist_sm b hb N d (by omega) (by omega) 0 1 (by omega) (by omega) deep hdp (by omega) (by omega) i h hi) fun ts i h hts hi => ?_
  exact mkn_sm (α := Unit) b hb (by omega) k 0 [] [] ts (by have := hts.2.2.1; omega) i h
 ·refine Sm.bind hi word_post (word_sm b hb i h hi) fun x i h _ hi => ?_
  dsimp only
  rw [w1]
  refine Sm.bind hi (list_post e1 0 2 (by omega)) (exlist_sm b hb N (d - 1) (by omega) (by omega) 0 2 (by omega) (by omega) (deep - 1) (by omega) (by omega) (by omega) i h hi) fun ts i h hts hi => ?_
  exact mkn_sm (α := Unit) b hb (by omega) 27 0 x [] ts (by have := hts.2.2.1; omega) i h
 ·refine Sm.bind hi (once_post 2) (once_sm b hb 2 i h hi) fun o i h _ hi => ?_
  dsimp only
  exact Sm.cond (fun _ => Sm.bind hi (pick_sh _ (by decide) (by decide)) (pick_sm b hb _ (by decide) i h hi) fun x i h _ hi => Sm.ret) fun _ => simpleK_sm b hb hN hd deep hdp g1 i h hi
theorem simple_sm {d : Nat} (hd : d ≤ 2) (deep : Int) (hdp : deep.toNat = d) (g1 : -800 ≤ deep) (i : Nat) (h : Int) (hi : i ≤ b.length) : Sm b (simpleP d) (lst 0) i h (ms_l7Simple N deep b (i : Int) h) := by
 unfold ms_l7Simple simpleP
 refine Sm.bind hi (below_post 9) (below_sm b hb 9 i h hi) fun r i h _ hi => ?_
 dsimp only
 exact Sm.cond (fun _ => simpleQ_sm b hb hN hd deep hdp g1 r _ i h hi) fun _ => simpleQ_sm b hb hN hd deep hdp g1 r _ i h hi
theorem maybe_sm {d : Nat} (hd : d ≤ 2) (i : Nat) (h : Int) (hi : i ≤ b.length) : Sm b (maybeP d) (lst 0) i h (ms_l7Maybe N (d : Int) b (i : Int) h) := by
 unfold ms_l7Maybe maybeP
 refine Sm.bind hi (once_post 3) (once_sm b hb 3 i h hi) fun o i h _ hi => ?_
 dsimp only
 exact Sm.cond (fun _ => Sm.ret) fun _ => Sm.id3 (ex_sm b hb hN (by omega) (d : Int) (by omega) (by omega) (by omega) i h hi)

def SS (M d : Nat) : Prop := ∀ (deep : Int) (i : Nat) (h : Int), deep.toNat = d → -700 ≤ deep → i ≤ b.length → Sm b (stmtP d) (lst 0) i h ((scc2 M).ms_l7Stmt deep b (i : Int) h)
def BS (M d : Nat) : Prop := ∀ (deep : Int) (i : Nat) (h : Int), deep.toNat = d → -700 ≤ deep → i ≤ b.length → Sm b (blkP (stmtP d)) (lst 0) i h ((scc2 M).ms_l7Block deep b (i : Int) h)
theorem blk_l {M d : Nat} (hM : 1048577 < M) (hd : d ≤ 4) (hS : SS b M d) (deep : Int) (hdp : deep.toNat = d) (g1 : -700 ≤ deep) : ∀ (n c : Nat) (i : Nat) (h : Int) (acc : List STree), c < n → acc.length + c ≤ 3 → szTs acc ≤ acc.length * ss d → i ≤ b.length →
  Sm b ((repP (stmtP d) c).bind fun ts => .ret (⟨33, 0, [], [], acc ++ ts⟩ : STree)) (lst 0) i h (ms_l7Block_l1 M (scc2 M) b n (deep, (c : Int), (i : Int), h, acc.map (lst 0))) := by
 have hss : ss d ≤ 100000 := by
  have : d = 0 ∨ d = 1 ∨ d = 2 ∨ d = 3 ∨ d = 4 := by omega
  rcases this with rfl | rfl | rfl | rfl | rfl <;> decide
 intro n
 induction n with
 | zero => intro c i h acc hc; omega
 | succ n ih =>
  intro c i h acc hc ha hs hi
  rw [ms_l7Block_l1]
  cases c with
  | zero =>
   have : decide (((0 : Nat) : Int) > 0) = false := rfl
   rw [this, cond_false]
   show Sm b (.ret (⟨33, 0, [], [], acc ++ []⟩ : STree)) _ _ _ _
   rw [List.append_nil]
   exact mkn_sm (α := Unit) b hb hM 33 0 [] [] acc (by have := Nat.mul_le_mul_right (ss d) (show acc.length ≤ 3 by omega); omega) i h
  | succ c =>
   have : decide (((c + 1 : Nat) : Int) > 0) = true := decide_eq_true (by omega)
   rw [this, cond_true, repP]
   have key : ∀ t : STree, (repP (stmtP d) c).bind (fun ts => Pg.ret (⟨33, 0, [], [], acc ++ (t :: ts)⟩ : STree)) = (repP (stmtP d) c).bind fun ts => Pg.ret (⟨33, 0, [], [], (acc ++ [t]) ++ ts⟩ : STree) := fun t => by
    congr 1; funext ts; rw [List.append_assoc]; rfl
   have assoc : ∀ (p : Pg STree) (f : STree → Pg (List STree)) (g : List STree → Pg STree), (p.bind f).bind g = p.bind fun a => (f a).bind g := fun p f g => by
    induction p with
    | ret a => rfl
    | rd k ih => simp only [Pg.bind, ih]
   have assoc2 : ∀ (p : Pg (List STree)) (f : List STree → Pg (List STree)) (g : List STree → Pg STree), (p.bind f).bind g = p.bind fun a => (f a).bind g := fun p f g => by
    induction p with
    | ret a => rfl
    | rd k ih => simp only [Pg.bind, ih]
   rw [assoc]
   refine Sm.bind hi (stmt_post d) (hS deep i h hdp g1 hi) fun t i h ht hi => ?_
   dsimp only
   rw [app_some (by simp; omega), oBs, wrap64 (by omega) (by omega), show ((c + 1 : Nat) : Int) - 1 = (c : Int) by omega, assoc2]
   have := ih c i h (acc ++ [t]) (by omega) (by simp; omega) (by rw [szTs_app, List.length_append, List.length_singleton, Nat.add_mul]; have := ht.1; simp only [szTs]; omega) hi
   rw [List.map_append] at this
   show Sm b ((repP (stmtP d) c).bind fun ts => Pg.ret (⟨33, 0, [], [], acc ++ (t :: ts)⟩ : STree)) _ _ _ _
   rw [key t]
   exact this
theorem bs_of {M d : Nat} (hM : 1048577 < M) (hd : d ≤ 4) (hS : SS b M d) : BS b (M + 1) d := by
 intro deep i h hdp g1 hi
 show Sm b _ _ i h (ms_l7Block_F M (scc2 M) deep b (i : Int) h)
 unfold ms_l7Block_F blkP
 refine Sm.bind hi (below_post 3) (below_sm b hb 3 i h hi) fun r i h hr hi => ?_
 obtain ⟨c, rfl⟩ := Int.eq_ofNat_of_zero_le hr.1
 dsimp only
 rw [Int.toNat_natCast]
 exact blk_l b hb hN hM hd hS deep hdp g1 M c i h [] (by omega) (by simp; omega) (by simp [szTs]) hi
theorem ss_zero {M : Nat} (hM : 1050000 ≤ M) : SS b (M + 1) 0 := by
 intro deep i h hdp g1 hi
 show Sm b _ _ i h (ms_l7Stmt_F M (scc2 M) deep b (i : Int) h)
 unfold ms_l7Stmt_F
 rw [decide_eq_true (show deep ≤ 0 by omega), cond_true, oBs]
 have e : (if 2 < deep then 2 else deep) = deep := if_neg (by omega)
 dsimp only
 rw [cond_true, e]
 exact Sm.id3 (simple_sm b hb (N := M) (by omega) (by omega) deep hdp (by omega) i h hi)
theorem rest_sm {M d : Nat} (hM : 1050000 ≤ M) (hd : d ≤ 3) (deep : Int) (hdp : deep.toNat = d + 1) (hB : BS b M d) (i : Nat) (h : Int) (hi : i ≤ b.length) (f : (Int × Int × Int) → Option (List SNode × Int × Int))
  (hf : f = fun r54 => bif (r54.1 == 0) then (ms_l7Expr M 1 b r54.2.1 r54.2.2).bind fun r58 => ((scc2 M).ms_l7Block (IntKind.wrap .i64 (deep - 1)) b r58.2.1 r58.2.2).bind fun r59 => (ms_l6Make M (⟨28, 0, [], [], []⟩ : SNode) [r58.1, r59.1]).bind fun r60 => some (r60, r59.2.1, r59.2.2) else (bif (r54.1 == 1) then (ms_l7Expr M 1 b r54.2.1 r54.2.2).bind fun r65 => ((scc2 M).ms_l7Block (IntKind.wrap .i64 (deep - 1)) b r65.2.1 r65.2.2).bind fun r66 => ((scc2 M).ms_l7Block (IntKind.wrap .i64 (deep - 1)) b r66.2.1 r66.2.2).bind fun r67 => (ms_l6Make M (⟨28, 0, [], [], []⟩ : SNode) [r65.1, r66.1, r67.1]).bind fun r68 => some (r68, r67.2.1, r67.2.2) else (bif (r54.1 == 2) then (ms_l7Expr M 1 b r54.2.1 r54.2.2).bind fun r72 => ((scc2 M).ms_l7Block (IntKind.wrap .i64 (deep - 1)) b r72.2.1 r72.2.2).bind fun r73 => (ms_l6Make M (⟨29, 0, [], [], []⟩ : SNode) [r72.1, r73.1]).bind fun r74 => some (r74, r73.2.1, r73.2.2) else (bif (r54.1 == 3) then ((scc2 M).ms_l7Block (IntKind.wrap .i64 (deep - 1)) b r54.2.1 r54.2.2).bind fun r78 => (ms_l7Expr M 1 b r78.2.1 r78.2.2).bind fun r79 => (ms_l6Make M (⟨30, 0, [], [], []⟩ : SNode) [r78.1, r79.1]).bind fun r80 => some (r80, r79.2.1, r79.2.2) else (bif (r54.1 == 4) then (ms_l7Maybe M 2 b r54.2.1 r54.2.2).bind fun r86 => (ms_l7Maybe M 1 b r86.2.1 r86.2.2).bind fun r87 => (ms_l7Maybe M 1 b r87.2.1 r87.2.2).bind fun r88 => ((scc2 M).ms_l7Block (IntKind.wrap .i64 (deep - 1)) b r88.2.1 r88.2.2).bind fun r89 => (ms_l6Make M (⟨31, 0, [], [], []⟩ : SNode) [r86.1, r87.1, r88.1, r89.1]).bind fun r90 => some (r90, r89.2.1, r89.2.2) else ((ms_l1Once 2 b r54.2.1 r54.2.2).bind fun r96 => bif r96.1 then ((scc2 M).ms_l7Block (IntKind.wrap .i64 (deep - 1)) b r96.2.1 r96.2.2).bind fun r98 => some (r98.1, r98.2.1, r98.2.2) else ((ms_l2Word b r96.2.1 r96.2.2).bind fun r103 => (ms_l2Word b r103.2.1 r103.2.2).bind fun r104 => ((scc2 M).ms_l7Block (IntKind.wrap .i64 (deep - 1)) b r104.2.1 r104.2.2).bind fun r105 => (ms_l6Make M (⟨32, 0, r103.1, r104.1, []⟩ : SNode) [r105.1]).bind fun r106 => some (r106, r105.2.1, r105.2.2)))))))) :
  Sm b (restP (blkP (stmtP d))) (lst 0) i h (Option.bind (ms_l1Below 6 b (i : Int) h) f) := by
 have hss : ss d ≤ 100000 := by
  have : d = 0 ∨ d = 1 ∨ d = 2 ∨ d = 3 := by omega
  rcases this with rfl | rfl | rfl | rfl <;> decide
 have w1 : IntKind.wrap .i64 (deep - 1) = deep - 1 := wrap64 (by omega) (by omega)
 have e := expr2_post (d := 1) (by omega)
 have e1 : ∀ (i : Nat) h, i ≤ b.length → Sm b (exprP 1) (lst 0) i h (ms_l7Expr M 1 b (i : Int) h) := fun i h hi => ex_sm b hb (N := M) (by omega) (by omega) 1 rfl (by omega) (by omega) i h hi
 have p := blk_post (stmt_post d)
 have g : ∀ (i : Nat) h, i ≤ b.length → Sm b (blkP (stmtP d)) (lst 0) i h ((scc2 M).ms_l7Block (deep - 1) b (i : Int) h) := fun i h hi => hB (deep - 1) i h (by omega) (by omega) hi
 subst hf
 rw [w1]
 unfold restP
 refine Sm.bind hi (below_post 6) (below_sm b hb 6 i h hi) fun r i h _ hi => ?_
 dsimp only
 refine Sm.cond (fun _ => ?_) fun _ => Sm.cond (fun _ => ?_) fun _ => Sm.cond (fun _ => ?_) fun _ => Sm.cond (fun _ => ?_) fun _ => Sm.cond (fun _ => ?_) fun _ => ?_
 ·refine Sm.bind hi e (e1 i h hi) fun t i h ht hi => ?_
  dsimp only
  refine Sm.bind hi p (g i h hi) fun u i h hu hi => ?_
  exact mkn_sm (α := Unit) b hb (by omega) 28 0 [] [] [t, u] (by have := ht.1; have := hu.1; simp only [szTs]; omega) i h
 ·refine Sm.bind hi e (e1 i h hi) fun t i h ht hi => ?_
  dsimp only
  refine Sm.bind hi p (g i h hi) fun u i h hu hi => ?_
  dsimp only
  refine Sm.bind hi p (g i h hi) fun v i h hv hi => ?_
  exact mkn_sm (α := Unit) b hb (by omega) 28 0 [] [] [t, u, v] (by have := ht.1; have := hu.1; have := hv.1; simp only [szTs]; omega) i h
 ·refine Sm.bind hi e (e1 i h hi) fun t i h ht hi => ?_
  dsimp only
  refine Sm.bind hi p (g i h hi) fun u i h hu hi => ?_
  exact mkn_sm (α := Unit) b hb (by omega) 29 0 [] [] [t, u] (by have := ht.1; have := hu.1; simp only [szTs]; omega) i h
 ·refine Sm.bind hi p (g i h hi) fun u i h hu hi => ?_
  dsimp only
  refine Sm.bind hi e (e1 i h hi) fun t i h ht hi => ?_
  exact mkn_sm (α := Unit) b hb (by omega) 30 0 [] [] [u, t] (by have := ht.1; have := hu.1; simp only [szTs]; omega) i h
 ·refine Sm.bind hi (maybe_post (by omega)) (maybe_sm b hb (N := M) (by omega) (d := 2) (by omega) i h hi) fun t i h ht hi => ?_
  dsimp only
  refine Sm.bind hi (maybe_post (by omega)) (maybe_sm b hb (N := M) (by omega) (d := 1) (by omega) i h hi) fun u i h hu hi => ?_
  dsimp only
  refine Sm.bind hi (maybe_post (by omega)) (maybe_sm b hb (N := M) (by omega) (d := 1) (by omega) i h hi) fun v i h hv hi => ?_
  dsimp only
  refine Sm.bind hi p (g i h hi) fun w i h hw hi => ?_
  exact mkn_sm (α := Unit) b hb (by omega) 31 0 [] [] [t, u, v, w] (by have := ht.1; have := hu.1; have := hv.1; have := hw.1; simp only [szTs]; omega) i h
 ·refine Sm.bind hi (once_post 2) (once_sm b hb 2 i h hi) fun o i h _ hi => ?_
  dsimp only
  refine Sm.cond (fun _ => Sm.id3 (g i h hi)) fun _ => ?_
  refine Sm.bind hi word_post (word_sm b hb i h hi) fun x i h _ hi => ?_
  dsimp only
  refine Sm.bind hi word_post (word_sm b hb i h hi) fun y i h _ hi => ?_
  dsimp only
  refine Sm.bind hi p (g i h hi) fun u i h hu hi => ?_
  exact mkn_sm (α := Unit) b hb (by omega) 32 0 x y [u] (by have := hu.1; simp only [szTs]; omega) i h
theorem ss_succ {M d : Nat} (hM : 1050000 ≤ M) (hd : d ≤ 3) (hB : BS b M d) : SS b (M + 1) (d + 1) := by
 intro deep i h hdp g1 hi
 show Sm b _ _ i h (ms_l7Stmt_F M (scc2 M) deep b (i : Int) h)
 unfold ms_l7Stmt_F stmtP
 rw [decide_eq_false (show ¬ deep ≤ 0 by omega), cond_false]
 have ho : Sm b ((onceP 3).bind fun o => Pg.ret (!o)) (fun x => x) i h ((ms_l1Once 3 b (i : Int) h).bind fun r12 => some ((!r12.1), r12.2.1, r12.2.2)) := Sm.bind hi (once_post 3) (once_sm b hb 3 i h hi) fun o i h _ hi => Sm.ret
 refine Sm.bind hi onceN_post ho fun y i h _ hi => ?_
 dsimp only
 refine Sm.cond (fun _ => ?_) fun _ => rest_sm b hb hN hM hd deep hdp hB i h hi _ rfl
 refine Sm.id3 (simple_sm b hb (N := M) (by omega) (by omega) _ ?_ ?_ i h hi)
 ·split <;> omega
 ·split <;> omega
theorem ss_all : ∀ (d M : Nat), d ≤ 4 → 1050000 + 2 * d + 1 ≤ M → SS b M d := by
 intro d
 induction d with
 | zero =>
  intro M hd hM
  obtain ⟨M, rfl⟩ : ∃ m, M = m + 1 := ⟨M - 1, by omega⟩
  exact ss_zero b hb hN (by omega)
 | succ d ih =>
  intro M hd hM
  obtain ⟨M, rfl⟩ : ∃ m, M = m + 1 + 1 := ⟨M - 2, by omega⟩
  exact ss_succ b hb hN (by omega) (by omega) (bs_of b hb hN (by omega) (by omega) (ih M (by omega) (by omega)))
theorem stmt_sm {d : Nat} (hd : d ≤ 4) (hN2 : 1050100 ≤ N) (deep : Int) (hdp : deep.toNat = d) (g1 : -700 ≤ deep) (i : Nat) (h : Int) (hi : i ≤ b.length) : Sm b (stmtP d) (lst 0) i h (ms_l7Stmt N deep b (i : Int) h) := ss_all b hb hN d N hd (by omega) deep i h hdp g1 hi
theorem block_sm {d : Nat} (hd : d ≤ 4) (hN2 : 1050100 ≤ N) (deep : Int) (hdp : deep.toNat = d) (g1 : -700 ≤ deep) (i : Nat) (h : Int) (hi : i ≤ b.length) : Sm b (blkP (stmtP d)) (lst 0) i h (ms_l7Block N deep b (i : Int) h) := by
 obtain ⟨M, rfl⟩ : ∃ m, N = m + 1 := ⟨N - 1, by omega⟩
 exact bs_of b hb hN (by omega) hd (ss_all b hb hN d M hd (by omega)) deep i h hdp g1 hi

theorem item_l (hN2 : 1050100 ≤ N) (r2 : Int × Int × Int) (a : Int) (h2 : r2.1 = a) (ha : 0 ≤ a) (ha2 : a < 2) : ∀ (n c : Nat) (i : Nat) (h : Int) (acc : List STree), c < n → acc.length + c ≤ 3 → szTs acc ≤ acc.length → i ≤ b.length →
  Sm b ((repP leafW c).bind fun ws => (pickP [[102], [103], [109, 97, 120]]).bind fun x => (blkP (stmtP (1 + a).toNat)).bind fun u => .ret (⟨44, 0, x, [], (acc ++ ws) ++ [u]⟩ : STree)) (lst 0) i h (ms_l7Item_l1 N b n (r2, (c : Int), (i : Int), h, acc.map (lst 0))) := by
 intro n
 induction n with
 | zero => intro c i h acc hc; omega
 | succ n ih =>
  intro c i h acc hc hl hs hi
  rw [ms_l7Item_l1]
  cases c with
  | zero =>
   have : decide (((0 : Nat) : Int) > 0) = false := rfl
   rw [this, cond_false]
   show Sm b ((pickP [[102], [103], [109, 97, 120]]).bind fun x => (blkP (stmtP (1 + a).toNat)).bind fun u => .ret (⟨44, 0, x, [], (acc ++ []) ++ [u]⟩ : STree)) _ _ _ _
   rw [List.append_nil]
   refine Sm.bind hi (pick_sh _ (by decide) (by decide)) (pick_sm b hb _ (by decide) i h hi) fun x i h hx hi => ?_
   dsimp only
   rw [h2, wrap64 (by omega) (by omega)]
   refine Sm.bind hi (stmtB_post ha ha2) (block_sm b hb hN (d := (1 + a).toNat) (by omega) hN2 (1 + a) rfl (by omega) i h hi) fun u i h hu hi => ?_
   dsimp only
   rw [app_some (by simp; omega), oBs]
   have := mkn_sm (α := Unit) b hb (N := N) (by omega) 44 0 x [] (acc ++ [u]) (by have := hu.1; rw [szTs_app]; simp only [szTs]; omega) i h
   rw [List.map_append] at this
   exact this
  | succ c =>
   have : decide (((c + 1 : Nat) : Int) > 0) = true := decide_eq_true (by omega)
   rw [this, cond_true, repP]
   have assoc : ∀ {α β γ : Type} (p : Pg α) (f : α → Pg β) (g : β → Pg γ), (p.bind f).bind g = p.bind fun a => (f a).bind g := fun p f g => by
    induction p with
    | ret a => rfl
    | rd k ih => simp only [Pg.bind, ih]
   unfold leafW
   rw [assoc, assoc]
   refine Sm.bind hi word_post (word_sm b hb i h hi) fun x i h hx hi => ?_
   dsimp only
   rw [app_some (by simp; omega), oBs, wrap64 (by omega) (by omega), show ((c + 1 : Nat) : Int) - 1 = (c : Int) by omega]
   have := ih c i h (acc ++ [⟨1, 0, x, [], []⟩]) (by omega) (by simp; omega) (by rw [szTs_app, List.length_append]; simp only [szTs, szT, List.length_cons, List.length_nil]; omega) hi
   rw [List.map_append] at this
   show Sm b (((repP leafW c).bind fun vs => Pg.ret ((⟨1, 0, x, [], []⟩ : STree) :: vs)).bind _) _ _ _ _
   rw [assoc]
   have key : (fun vs => (Pg.ret ((⟨1, 0, x, [], []⟩ : STree) :: vs)).bind fun ws => (pickP [[102], [103], [109, 97, 120]]).bind fun x_1 => (blkP (stmtP (1 + a).toNat)).bind fun u => Pg.ret (⟨44, 0, x_1, [], acc ++ ws ++ [u]⟩ : STree)) = fun ws => (pickP [[102], [103], [109, 97, 120]]).bind fun x_1 => (blkP (stmtP (1 + a).toNat)).bind fun u => Pg.ret (⟨44, 0, x_1, [], acc ++ [⟨1, 0, x, [], []⟩] ++ ws ++ [u]⟩ : STree) := by
    funext ws
    show (pickP [[102], [103], [109, 97, 120]]).bind _ = _
    congr 1; funext x_1; congr 1; funext u
    rw [List.append_assoc acc [_] ws]; rfl
   rw [key]
   exact this
theorem item_sm (hN2 : 1050100 ≤ N) (i : Nat) (h : Int) (hi : i ≤ b.length) : Sm b itemP (lst 0) i h (ms_l7Item N b (i : Int) h) := by
 unfold ms_l7Item itemP
 refine Sm.bind hi (below_post 2) (below_sm b hb 2 i h hi) fun a i h ha hi => ?_
 have ha2 : a < 2 := by omega
 have wa : IntKind.wrap .i64 (1 + a) = 1 + a := wrap64 (by omega) (by omega)
 have e := expr2_post (d := (1 + a).toNat) (by omega)
 have e1 := expr2_post (d := 1) (by omega)
 have hB := stmtB_post ha.1 ha2
 have gB : ∀ (i : Nat) h, i ≤ b.length → Sm b (blkP (stmtP (1 + a).toNat)) (lst 0) i h (ms_l7Block N (1 + a) b (i : Int) h) := fun i h hi => block_sm b hb hN (by omega) hN2 (1 + a) rfl (by omega) i h hi
 have gE : ∀ (i : Nat) h, i ≤ b.length → Sm b (exprP (1 + a).toNat) (lst 0) i h (ms_l7Expr N (1 + a) b (i : Int) h) := fun i h hi => ex_sm b hb hN (by omega) (1 + a) rfl (by omega) (by omega) i h hi
 have g1 : ∀ (i : Nat) h, i ≤ b.length → Sm b (exprP 1) (lst 0) i h (ms_l7Expr N 1 b (i : Int) h) := fun i h hi => ex_sm b hb hN (by omega) 1 rfl (by omega) (by omega) i h hi
 dsimp only
 rw [wa]
 refine Sm.bind hi (below_post 8) (below_sm b hb 8 i h hi) fun r i h _ hi => ?_
 dsimp only
 refine Sm.cond (fun _ => ?_) fun _ => Sm.cond (fun _ => ?_) fun _ => Sm.cond (fun _ => ?_) fun _ => Sm.cond (fun _ => ?_) fun _ => Sm.cond (fun _ => ?_) fun _ => Sm.cond (fun _ => ?_) fun _ => Sm.cond (fun _ => ?_) fun _ => ?_
 ·refine Sm.bind hi (below_post 2) (below_sm b hb 2 i h hi) fun q i h hq hi => ?_
  dsimp only
  rw [wrap64 (n := 40 + q) (by omega) (by omega)]
  refine Sm.bind hi hB (gB i h hi) fun u i h hu hi => ?_
  exact mkn_sm (α := Unit) b hb (by omega) (40 + q) 0 [] [] [u] (by have := hu.1; simp only [szTs]; omega) i h
 ·refine Sm.bind hi e (gE i h hi) fun t i h ht hi => ?_
  exact mkn_sm (α := Unit) b hb (by omega) 42 1 [] [] [t] (by have := ht.1; simp only [szTs]; omega) i h
 ·refine Sm.bind hi hB (gB i h hi) fun t i h ht hi => ?_
  exact mkn_sm (α := Unit) b hb (by omega) 42 2 [] [] [t] (by have := ht.1; simp only [szTs]; omega) i h
 ·refine Sm.bind hi e1 (g1 i h hi) fun t i h ht hi => ?_
  dsimp only
  refine Sm.bind hi e1 (g1 i h hi) fun u i h hu hi => ?_
  exact mkn_sm (α := Unit) b hb (by omega) 43 1 [] [] [t, u] (by have := ht.1; have := hu.1; simp only [szTs]; omega) i h
 ·refine Sm.bind hi e1 (g1 i h hi) fun t i h ht hi => ?_
  dsimp only
  refine Sm.bind hi e1 (g1 i h hi) fun u i h hu hi => ?_
  dsimp only
  refine Sm.bind hi hB (gB i h hi) fun v i h hv hi => ?_
  exact mkn_sm (α := Unit) b hb (by omega) 43 3 [] [] [t, u, v] (by have := ht.1; have := hu.1; have := hv.1; simp only [szTs]; omega) i h
 ·refine Sm.bind hi (below_post 3) (below_sm b hb 3 i h hi) fun q i h hq hi => ?_
  obtain ⟨q, rfl⟩ := Int.eq_ofNat_of_zero_le hq.1
  dsimp only
  rw [Int.toNat_natCast]
  exact item_l b hb hN hN2 _ a rfl ha.1 ha2 N q i h [] (by omega) (by simp; omega) (by simp [szTs]) hi
 ·exact Sm.bind hi (pick_sh _ (by decide) (by decide)) (pick_sm b hb _ (by decide) i h hi) fun x i h _ hi => Sm.ret
 ·refine Sm.bind hi e (gE i h hi) fun t i h ht hi => ?_
  dsimp only
  refine Sm.bind hi hB (gB i h hi) fun u i h hu hi => ?_
  exact mkn_sm (α := Unit) b hb (by omega) 42 3 [] [] [t, u] (by have := ht.1; have := hu.1; simp only [szTs]; omega) i h

theorem program_l2 (hN2 : 1050100 ≤ N) (kb : (Int × Int) → Option (List SNode × Int × Int)) : ∀ (n c : Nat) (i : Nat) (h : Int) (acc : List STree), c < n → acc.length + c ≤ 3 → szTs acc ≤ acc.length * 2960 → i ≤ b.length →
  ms_l7Program_l2 N b kb n ((c : Int), (i : Int), h, acc.map (lst 0)) = (let r := Pg.run b ((repP itemP c).bind fun ts => .ret (⟨45, 0, [], [], acc ++ ts⟩ : STree)) i h; bif fits 220 r.1 then some (lst 0 r.1, (r.2.1 : Int), r.2.2) else kb ((r.2.1 : Int), r.2.2)) := by
 intro n
 induction n with
 | zero => intro c i h acc hc; omega
 | succ n ih =>
  intro c i h acc hc hl hs hi
  rw [ms_l7Program_l2]
  cases c with
  | zero =>
   have : decide (((0 : Nat) : Int) > 0) = false := rfl
   rw [this, cond_false]
   have hz : szTs acc ≤ 900000 := by have := Nat.mul_le_mul_right 2960 (show acc.length ≤ 3 by omega); omega
   have hm := make_is N ⟨45, 0, [], [], []⟩ acc (by omega) hz
   rw [hm, oBs]
   show (bif decide (((lst 0 (⟨45, 0, [], [], acc⟩ : STree)).length : Int) ≤ 220) then _ else _) = _
   have e : (let r := Pg.run b ((repP itemP 0).bind fun ts => Pg.ret (⟨45, 0, [], [], acc ++ ts⟩ : STree)) i h; bif fits 220 r.1 then some (lst 0 r.1, (r.2.1 : Int), r.2.2) else kb ((r.2.1 : Int), r.2.2)) = bif fits 220 (⟨45, 0, [], [], acc ++ []⟩ : STree) then some (lst 0 (⟨45, 0, [], [], acc ++ []⟩ : STree), (i : Int), h) else kb ((i : Int), h) := rfl
   rw [e, List.append_nil]
   have hf : decide (((lst 0 (⟨45, 0, [], [], acc⟩ : STree)).length : Int) ≤ 220) = fits 220 (⟨45, 0, [], [], acc⟩ : STree) := by
    rw [lst_len]
    unfold fits
    cases hc : Nat.ble (szT (⟨45, 0, [], [], acc⟩ : STree)) 220 with
    | true => have := Nat.le_of_ble_eq_true hc; exact decide_eq_true (by omega)
    | false => refine decide_eq_false fun hh => ?_; rw [Nat.ble_eq_true_of_le (by omega)] at hc; cases hc
   rw [hf]
  | succ c =>
   have : decide (((c + 1 : Nat) : Int) > 0) = true := decide_eq_true (by omega)
   rw [this, cond_true]
   have hI := item_sm b hb hN hN2 i h hi
   unfold Sm at hI
   rw [hI, oBs]
   dsimp only
   rw [app_some (by simp; omega), oBs, wrap64 (by omega) (by omega), show ((c + 1 : Nat) : Int) - 1 = (c : Int) by omega]
   have hp := Pg.run_post b item_post i h
   have := ih c (Pg.run b itemP i h).2.1 (Pg.run b itemP i h).2.2 (acc ++ [(Pg.run b itemP i h).1]) (by omega) (by simp; omega) (by rw [szTs_app, List.length_append, List.length_singleton, Nat.add_mul]; have := hp.1; simp only [szTs]; omega) (Pg.run_le b itemP i h hi)
   rw [List.map_append] at this
   refine Eq.trans this ?_
   have assoc : ∀ {α β γ : Type} (p : Pg α) (f : α → Pg β) (g : β → Pg γ), (p.bind f).bind g = p.bind fun a => (f a).bind g := fun p f g => by
    induction p with
    | ret a => rfl
    | rd k ih => simp only [Pg.bind, ih]
   have e : Pg.run b ((repP itemP (c + 1)).bind fun ts => Pg.ret (⟨45, 0, [], [], acc ++ ts⟩ : STree)) i h = Pg.run b ((repP itemP c).bind fun ts => Pg.ret (⟨45, 0, [], [], acc ++ [(Pg.run b itemP i h).1] ++ ts⟩ : STree)) (Pg.run b itemP i h).2.1 (Pg.run b itemP i h).2.2 := by
    rw [repP, assoc, Pg.run_bind, assoc]
    congr 1
    congr 1
    funext ts
    show Pg.ret (⟨45, 0, [], [], acc ++ (_ :: ts)⟩ : STree) = _
    rw [List.append_assoc acc [_] ts]; rfl
   rw [e]
theorem program_l1 (hN2 : 1050100 ≤ N) : ∀ (n i : Nat) (h : Int), i ≤ b.length → ms_l7Program_l1 N b n ((i : Int), h) = (Pg.loop b programP (fits 220) n i h).map fun r => (lst 0 r.1, (r.2.1 : Int), r.2.2) := by
 intro n
 induction n with
 | zero => intro i h hi; rfl
 | succ n ih =>
  intro i h hi
  rw [ms_l7Program_l1, Pg.loop]
  have hb4 := below_sm b hb 4 i h hi
  unfold Sm at hb4
  rw [hb4, oBs]
  dsimp only
  have hr := Pg.run_post b (below_post 4) i h
  obtain ⟨c, hc⟩ := Int.eq_ofNat_of_zero_le hr.1
  have hl := Pg.run_le b (belowP 4) i h hi
  have := program_l2 b hb hN hN2 (ms_l7Program_l1 N b n) N c (Pg.run b (belowP 4) i h).2.1 (Pg.run b (belowP 4) i h).2.2 [] (by omega) (by simp; omega) (by simp [szTs]) hl
  rw [hc]
  refine Eq.trans this ?_
  have e : Pg.run b programP i h = Pg.run b ((repP itemP c).bind fun ts => Pg.ret (⟨45, 0, [], [], [] ++ ts⟩ : STree)) (Pg.run b (belowP 4) i h).2.1 (Pg.run b (belowP 4) i h).2.2 := by
   unfold programP
   rw [Pg.run_bind, hc]
   rfl
  rw [e]
  dsimp only
  generalize Pg.run b ((repP itemP c).bind fun ts => Pg.ret (⟨45, 0, [], [], [] ++ ts⟩ : STree)) (Pg.run b (belowP 4) i h).2.1 (Pg.run b (belowP 4) i h).2.2 = q at e
  have hq : q.2.1 ≤ b.length := by rw [← e]; exact Pg.run_le b programP i h hi
  cases fits 220 q.1 with
  | true => rfl
  | false => rw [cond_false, cond_false]; exact ih _ _ hq
end

end Go.Proofs.Tryz

/-
 Plain lemmas on the models, part 7.
-/
import Derived.Test.YtkfcajnnbhahoaaGreatDoorLgFP6
namespace Go.Proofs.Tryz
open Go.Av
set_option maxRecDepth 100000
set_option linter.unusedSimpArgs false
set_option linter.unusedVariables false

def simpleK (d : Nat) : Pg STree := (exprP d).bind fun t => .ret ⟨20, 0, [], [], [t]⟩
def simpleQ (d : Nat) (r : Int) (y : Bool) : Pg STree := bif y then (belowP 2).bind fun q => (listP q 3 (exprP d)).bind fun ts => (onceP 3).bind fun o => bif o then (pickP [[62], [62, 62], [124]]).bind fun x => (exprP (d - 1)).bind fun t => .ret ⟨21, q, [], x, ts ++ [t]⟩ else .ret ⟨21, q, [], [], ts⟩
 else bif r == 2 then (pickIntP [22, 25, 26]).bind fun k => .ret ⟨k, 0, [], [], []⟩ else bif r == 3 then (pickIntP [23, 24]).bind fun k => (listP 0 1 (exprP d)).bind fun ts => .ret ⟨k, 0, [], [], ts⟩ else bif r == 4 then wordP.bind fun x => (listP 0 2 (exprP (d - 1))).bind fun ts => .ret ⟨27, 0, x, [], ts⟩
 else bif r == 5 then (onceP 2).bind fun o => bif o then (pickP [[35], [35, 32, 110, 111, 116, 101], [35, 120, 32, 61, 32, 49]]).bind fun x => .ret ⟨34, 0, x, [], []⟩ else simpleK d else simpleK d
def simpleP (d : Nat) : Pg STree := (belowP 9).bind fun r => bif r == 0 then simpleQ d r (r == 0) else simpleQ d r (r == 1)
def maybeP (d : Nat) : Pg STree := (onceP 3).bind fun o => bif o then .ret ⟨16, 0, [], [], []⟩ else exprP d
def blkP (s : Pg STree) : Pg STree := (belowP 3).bind fun r => (repP s r.toNat).bind fun ts => .ret ⟨33, 0, [], [], ts⟩
def restP (bl : Pg STree) : Pg STree := (belowP 6).bind fun r => bif r == 0 then (exprP 1).bind fun t => bl.bind fun u => .ret ⟨28, 0, [], [], [t, u]⟩ else bif r == 1 then (exprP 1).bind fun t => bl.bind fun u => bl.bind fun v => .ret ⟨28, 0, [], [], [t, u, v]⟩ else bif r == 2 then (exprP 1).bind fun t => bl.bind fun u => .ret ⟨29, 0, [], [], [t, u]⟩ else bif r == 3 then bl.bind fun u => (exprP 1).bind fun t => .ret ⟨30, 0, [], [], [u, t]⟩
 else bif r == 4 then (maybeP 2).bind fun t => (maybeP 1).bind fun u => (maybeP 1).bind fun v => bl.bind fun w => .ret ⟨31, 0, [], [], [t, u, v, w]⟩ else (onceP 2).bind fun o => bif o then bl else wordP.bind fun x => wordP.bind fun y => bl.bind fun u => .ret ⟨32, 0, x, y, [u]⟩
def stmtP : Nat → Pg STree
 | 0 => simpleP 0
 | d + 1 => ((onceP 3).bind fun o => .ret (!o)).bind fun y => bif y then simpleP (min (d + 1) 2) else restP (blkP (stmtP d))
def itemP : Pg STree := (belowP 2).bind fun a => (belowP 8).bind fun r => bif r == 0 then (belowP 2).bind fun q => (blkP (stmtP (1 + a).toNat)).bind fun u => .ret ⟨40 + q, 0, [], [], [u]⟩ else bif r == 1 then (exprP (1 + a).toNat).bind fun t => .ret ⟨42, 1, [], [], [t]⟩ else bif r == 2 then (blkP (stmtP (1 + a).toNat)).bind fun u => .ret ⟨42, 2, [], [], [u]⟩ else bif r == 3 then (exprP 1).bind fun t => (exprP 1).bind fun u => .ret ⟨43, 1, [], [], [t, u]⟩
 else bif r == 4 then (exprP 1).bind fun t => (exprP 1).bind fun u => (blkP (stmtP (1 + a).toNat)).bind fun v => .ret ⟨43, 3, [], [], [t, u, v]⟩ else bif r == 5 then (belowP 3).bind fun q => (repP leafW q.toNat).bind fun ws => (pickP [[102], [103], [109, 97, 120]]).bind fun x => (blkP (stmtP (1 + a).toNat)).bind fun u => .ret ⟨44, 0, x, [], ws ++ [u]⟩
 else bif r == 6 then (pickP [[35, 32, 116, 111, 112], [35]]).bind fun x => .ret ⟨34, 0, x, [], []⟩ else (exprP (1 + a).toNat).bind fun t => (blkP (stmtP (1 + a).toNat)).bind fun u => .ret ⟨42, 3, [], [], [t, u]⟩
def programP : Pg STree := (belowP 4).bind fun r => (repP itemP r.toNat).bind fun ts => .ret ⟨45, 0, [], [], ts⟩

theorem trP {α : Type} {p : Pg α} {P : α → Prop} (h : Pg.Post P p) : Pg.Post (fun _ => True) p := h.imp fun _ _ => trivial
theorem pickI_post (l : List Int) (h : 0 < l.length) : Pg.Post (fun _ => True) (pickIntP l) := pickInt_post l h fun _ _ => trivial
theorem depTs_app : ∀ (a c : List STree) (d : Nat), depTs a ≤ d → depTs c ≤ d → depTs (a ++ c) ≤ d
 | [], _, _, _, h => h
 | t :: a, c, d, h1, h2 => by
  simp only [List.cons_append, depTs] at h1 ⊢
  have := depTs_app a c d (by omega) h2
  omega
theorem mk0 {m d : Nat} {k o : Int} {x : List UInt8} (hx : Sh x) (hm : 1 ≤ m) (hd : 1 ≤ d) : Gd m d ⟨k, o, x, [], []⟩ := Gd.mk hx sh_nil (by simp only [szTs]; omega) (by simp only [depTs]; omega) fun t ht => by cases ht
theorem expr2_post {d : Nat} (h : d ≤ 2) : Pg.Post (Gd 16 4) (exprP d) := (expr_post d).imp fun t ht => ht.mono (pw_le (a := d) (c := 2) h) (by unfold dpE; split <;> omega)
theorem simpleQ_post {d : Nat} (h : d ≤ 2) (r : Int) (y : Bool) : Pg.Post (Gd 70 5) (simpleQ d r y) := by
 have e := expr2_post h
 have e1 := expr2_post (d := d - 1) (by omega)
 have hK : Pg.Post (Gd 70 5) (simpleK d) := e.bind fun t ht => .ret (mk1 sh_nil ht (by omega) (by omega))
 refine postB ?_ (postB ?_ (postB ?_ (postB ?_ (postB ?_ hK))))
 ·refine (below_post 2).bind fun q hq => ?_
  obtain ⟨q, rfl⟩ := Int.eq_ofNat_of_zero_le hq.1
  refine (list_post e q 3 (by omega)).bind fun ts hts => (once_post 3).bind fun o _ => postB ((pick_sh _ (by decide) (by decide)).bind fun x hx => e1.bind fun t ht => .ret ?_) (.ret (mkL sh_nil hts (by omega) (by omega)))
  refine Gd.mk sh_nil hx ?_ ?_ fun t' ht' => ?_
  ·have := hts.2.2.1; have := ht.1; rw [szTs_app]; simp only [szTs]; omega
  ·have := depTs_app ts [t] 4 hts.2.2.2.1 (by have := ht.2.1; simp only [depTs]; omega)
   omega
  ·rcases List.mem_append.1 ht' with h | h
   ·exact hts.2.2.2.2 t' h
   ·rw [List.mem_singleton.1 h]; exact ht.2.2
 ·exact (pickI_post _ (by decide)).bind fun k _ => .ret (mk0 sh_nil (by omega) (by omega))
 ·exact (pickI_post _ (by decide)).bind fun k _ => (list_post e 0 1 (by omega)).bind fun ts hts => .ret (mkL sh_nil hts (by omega) (by omega))
 ·exact word_post.bind fun x hx => (list_post e1 0 2 (by omega)).bind fun ts hts => .ret (mkL hx hts (by omega) (by omega))
 ·exact (once_post 2).bind fun o _ => postB ((pick_sh _ (by decide) (by decide)).bind fun x hx => .ret (mk0 hx (by omega) (by omega))) hK
theorem simple_post {d : Nat} (h : d ≤ 2) : Pg.Post (Gd 70 5) (simpleP d) := (below_post 9).bind fun r _ => postB (simpleQ_post h r _) (simpleQ_post h r _)
theorem maybe_post {d : Nat} (h : d ≤ 2) : Pg.Post (Gd 16 4) (maybeP d) := (once_post 3).bind fun o _ => postB (.ret (mk0 sh_nil (by omega) (by omega))) (expr2_post h)
theorem blk_post {s : Pg STree} {m d : Nat} (h : Pg.Post (Gd m d) s) : Pg.Post (Gd (2 * m + 1) (d + 1)) (blkP s) := (below_post 3).bind fun r hr => (rep_post h _).bind fun ts hts => .ret (by
 obtain ⟨g1, g2, g3⟩ := Gds hts.2
 have hl : ts.length ≤ 2 := by rw [hts.1]; omega
 have := Nat.mul_le_mul_right m hl
 exact Gd.mk sh_nil sh_nil (by omega) (by omega) g3)
theorem rest_post {bl : Pg STree} {m d : Nat} (h : Pg.Post (Gd m d) bl) (hd : 4 ≤ d) : Pg.Post (Gd (2 * m + 60) (d + 1)) (restP bl) := by
 have e := expr2_post (d := 1) (by omega)
 refine (below_post 6).bind fun r _ => postB ?_ (postB ?_ (postB ?_ (postB ?_ (postB ?_ ?_))))
 ·exact e.bind fun t ht => h.bind fun u hu => .ret (mk2 sh_nil ht hu (by omega) (by omega))
 ·exact e.bind fun t ht => h.bind fun u hu => h.bind fun v hv => .ret (mk3 sh_nil ht hu hv (by omega) (by omega))
 ·exact e.bind fun t ht => h.bind fun u hu => .ret (mk2 sh_nil ht hu (by omega) (by omega))
 ·exact h.bind fun u hu => e.bind fun t ht => .ret (mk2 sh_nil hu ht (by omega) (by omega))
 ·refine (maybe_post (by omega)).bind fun t ht => (maybe_post (by omega)).bind fun u hu => (maybe_post (by omega)).bind fun v hv => h.bind fun w hw => .ret (Gd.mk sh_nil sh_nil ?_ ?_ fun t' ht' => ?_)
  ·have := ht.1; have := hu.1; have := hv.1; have := hw.1; simp only [szTs]; omega
  ·have := ht.2.1; have := hu.2.1; have := hv.2.1; have := hw.2.1; simp only [depTs]; omega
  ·simp only [List.mem_cons, List.not_mem_nil, or_false] at ht'
   rcases ht' with rfl | rfl | rfl | rfl
   ·exact ht.2.2
   ·exact hu.2.2
   ·exact hv.2.2
   ·exact hw.2.2
 ·refine (once_post 2).bind fun o _ => postB (h.imp fun t ht => ht.mono (by omega) (by omega)) (word_post.bind fun x hx => word_post.bind fun y hy => h.bind fun u hu => .ret (Gd.mk hx hy ?_ ?_ fun t' ht' => ?_))
  ·have := hu.1; simp only [szTs]; omega
  ·have := hu.2.1; simp only [depTs]; omega
  ·rw [List.mem_singleton.1 ht']; exact hu.2.2
def ss : Nat → Nat
 | 0 => 70
 | d + 1 => 4 * ss d + 62
theorem ss_pos : ∀ d, 70 ≤ ss d
 | 0 => Nat.le_refl _
 | d + 1 => by have := ss_pos d; rw [ss]; omega
theorem stmt_post : ∀ d, Pg.Post (Gd (ss d) (2 * d + 5)) (stmtP d)
 | 0 => simple_post (by omega)
 | d + 1 => by
  have h := ss_pos d
  refine Pg.Post.bind (trP (once_post 3 |>.bind fun o _ => .ret (P := fun _ => True) trivial)) fun y _ => postB ((simple_post (by omega)).imp fun t ht => ht.mono (by rw [ss]; omega) (by omega)) ((rest_post (blk_post (stmt_post d)) (by omega)).imp fun t ht => ht.mono (by rw [ss]; omega) (by omega))
theorem stmtB_post {a : Int} (h0 : 0 ≤ a) (h1 : a < 2) : Pg.Post (Gd 2861 10) (blkP (stmtP (1 + a).toNat)) := by
 have : a = 0 ∨ a = 1 := by omega
 rcases this with rfl | rfl
 ·exact (blk_post (stmt_post 1)).imp fun t ht => ht.mono (by decide) (by decide)
 ·exact (blk_post (stmt_post 2)).imp fun t ht => ht.mono (by decide) (by decide)
theorem item_post : Pg.Post (Gd 2960 11) itemP := by
 refine (below_post 2).bind fun a ha => ?_
 have hB := stmtB_post (a := a) ha.1 (by omega)
 have e := expr2_post (d := (1 + a).toNat) (by omega)
 have e1 := expr2_post (d := 1) (by omega)
 refine (below_post 8).bind fun r _ => postB ?_ (postB ?_ (postB ?_ (postB ?_ (postB ?_ (postB ?_ (postB ?_ ?_))))))
 ·exact (below_post 2).bind fun q _ => hB.bind fun u hu => .ret (mk1 sh_nil hu (by omega) (by omega))
 ·exact e.bind fun t ht => .ret (mk1 sh_nil ht (by omega) (by omega))
 ·exact hB.bind fun t ht => .ret (mk1 sh_nil ht (by omega) (by omega))
 ·exact e1.bind fun t ht => e1.bind fun u hu => .ret (mk2 sh_nil ht hu (by omega) (by omega))
 ·exact e1.bind fun t ht => e1.bind fun u hu => hB.bind fun v hv => .ret (mk3 sh_nil ht hu hv (by omega) (by omega))
 ·refine (below_post 3).bind fun q hq => (rep_post leafW_post _).bind fun ws hws => (pick_sh _ (by decide) (by decide)).bind fun x hx => hB.bind fun u hu => .ret ?_
  obtain ⟨g1, g2, g3⟩ := Gds hws.2
  have hl : ws.length ≤ 2 := by rw [hws.1]; omega
  refine Gd.mk hx sh_nil ?_ ?_ fun t' ht' => ?_
  ·have := hu.1; rw [szTs_app]; simp only [szTs]; omega
  ·have := depTs_app ws [u] 10 (by omega) (by have := hu.2.1; simp only [depTs]; omega)
   omega
  ·rcases List.mem_append.1 ht' with h | h
   ·exact g3 t' h
   ·rw [List.mem_singleton.1 h]; exact hu.2.2
 ·exact (pick_sh _ (by decide) (by decide)).bind fun x hx => .ret (mk0 hx (by omega) (by omega))
 ·exact e.bind fun t ht => hB.bind fun u hu => .ret (mk2 sh_nil ht hu (by omega) (by omega))
theorem program_post : Pg.Post (Gd 9000 12) programP := (below_post 4).bind fun r hr => (rep_post item_post _).bind fun ts hts => .ret (by
 obtain ⟨g1, g2, g3⟩ := Gds hts.2
 have hl : ts.length ≤ 3 := by rw [hts.1]; omega
 have := Nat.mul_le_mul_right 2960 hl
 exact Gd.mk sh_nil sh_nil (by omega) (by omega) g3)

theorem list_le' {e : Pg STree} {P : STree → Prop} {n : Nat} (h : Pg.Post P e) (g : Pg.Le e n) (q : Int) (h0 : 0 ≤ q) (h3 : q ≤ 3) : Pg.Le (listP q 3 e) (3 * n + 1) := by
 obtain ⟨q, rfl⟩ := Int.eq_ofNat_of_zero_le h0
 exact list_le h g q 3 (by omega) (by omega)
theorem listT {e : Pg STree} {P : STree → Prop} (h : Pg.Post P e) (lo hi : Int) : Pg.Post (fun _ => True) (listP lo hi e) := (below_post _).bind fun r _ => trP (rep_post h _)
theorem simpleQ_le (d : Nat) (r : Int) (y : Bool) : Pg.Le (simpleQ d r y) (3 * eb d + eb (d - 1) + 4) := by
 have g := expr_le d
 have g1 := expr_le (d - 1)
 have hle := eb_le (a := d - 1) (c := d) (by omega)
 have hK : Pg.Le (simpleK d) (eb d) := bind0 (expr_post d) g
 refine leB ?_ (leB ?_ (leB ?_ (leB ?_ (leB ?_ (hK.mono (by omega))))))
 ·refine Pg.LeP.bind (below_post 2) (below_le 2 (by omega)) (m := 3 * eb d + eb (d - 1) + 3) (fun q hq => ?_) (by omega)
  refine Pg.LeP.bind (listT (expr_post d) q 3) (list_le' (expr_post d) g q hq.1 (by omega)) (m := eb (d - 1) + 2) (fun ts _ => ?_) (by omega)
  refine Pg.LeP.bind (once_post 3) (once_le 3 (by omega)) (m := eb (d - 1) + 1) (fun o _ => leB ?_ .ret) (by omega)
  exact Pg.LeP.bind (pick_sh _ (by decide) (by decide)) (pick_le' _ (by decide)) (m := eb (d - 1)) (fun x _ => bind0 (expr_post (d - 1)) g1) (by omega)
 ·exact (bind0 (pickI_post _ (by decide)) (pickInt_le _ (by decide))).mono (by omega)
 ·exact Pg.LeP.bind (pickI_post _ (by decide)) (pickInt_le _ (by decide)) (m := 1 * eb d + 1) (fun k _ => bind0 (listT (expr_post d) 0 1) (list_le (expr_post d) g 0 1 (by omega) (by omega))) (by omega)
 ·exact Pg.LeP.bind word_post word_le (m := 2 * eb (d - 1) + 1) (fun k _ => bind0 (listT (expr_post (d - 1)) 0 2) (list_le (expr_post (d - 1)) g1 0 2 (by omega) (by omega))) (by omega)
 ·exact Pg.LeP.bind (once_post 2) (once_le 2 (by omega)) (m := 3 * eb d + 1) (fun o _ => leB ((bind0 (pick_sh _ (by decide) (by decide)) (pick_le' _ (by decide))).mono (by omega)) (hK.mono (by omega))) (by omega)
theorem simple_le (d : Nat) : Pg.Le (simpleP d) (3 * eb d + eb (d - 1) + 5) := Pg.LeP.bind (below_post 9) (below_le 9 (by omega)) (m := 3 * eb d + eb (d - 1) + 4) (fun r _ => leB (simpleQ_le d r _) (simpleQ_le d r _)) (by omega)
theorem maybe_le (d : Nat) : Pg.Le (maybeP d) (eb d + 1) := Pg.LeP.bind (once_post 3) (once_le 3 (by omega)) (m := eb d) (fun o _ => leB .ret (expr_le d)) (by omega)
theorem maybe_any (d : Nat) : Pg.Post (fun _ => True) (maybeP d) := (once_post 3).bind fun o _ => postB (.ret trivial) (trP (expr_post d))
theorem blk_le {s : Pg STree} {P : STree → Prop} {n : Nat} (h : Pg.Post P s) (g : Pg.Le s n) : Pg.Le (blkP s) (2 * n + 1) := Pg.LeP.bind (below_post 3) (below_le 3 (by omega)) (m := 2 * n) (fun r hr => bind0 (rep_post h _) ((rep_le h g _).mono (Nat.mul_le_mul_right n (by omega)))) (by omega)
theorem rest_le {bl : Pg STree} {P : STree → Prop} {n k : Nat} (h : Pg.Post P bl) (g : Pg.Le bl n) (h1 : 14 + 2 * n ≤ k) (h2 : 73 + n ≤ k) : Pg.Le (restP bl) k := by
 have e := expr_le 1
 have p := expr_post 1
 have e1 : eb 1 = 13 := rfl
 have e2 : eb 2 = 43 := rfl
 refine Pg.LeP.bind (below_post 6) (below_le 6 (by omega)) (m := k - 1) (fun r _ => leB ?_ (leB ?_ (leB ?_ (leB ?_ (leB ?_ ?_))))) (by omega)
 ·exact Pg.LeP.bind p e (m := n) (fun t _ => bind0 h g) (by omega)
 ·exact Pg.LeP.bind p e (m := 2 * n) (fun t _ => Pg.LeP.bind h g (m := n) (fun u _ => bind0 h g) (by omega)) (by omega)
 ·exact Pg.LeP.bind p e (m := n) (fun t _ => bind0 h g) (by omega)
 ·exact Pg.LeP.bind h g (m := 13) (fun t _ => bind0 p e) (by omega)
 ·exact Pg.LeP.bind (maybe_any 2) (maybe_le 2) (m := 28 + n) (fun t _ => Pg.LeP.bind (maybe_any 1) (maybe_le 1) (m := 14 + n) (fun u _ => Pg.LeP.bind (maybe_any 1) (maybe_le 1) (m := n) (fun v _ => bind0 h g) (by omega)) (by omega)) (by omega)
 ·exact Pg.LeP.bind (once_post 2) (once_le 2 (by omega)) (m := n + 2) (fun o _ => leB (g.mono (by omega)) (Pg.LeP.bind word_post word_le (m := n + 1) (fun x _ => Pg.LeP.bind word_post word_le (m := n) (fun y _ => bind0 h g) (by omega)) (by omega))) (by omega)
theorem onceN_le : Pg.Le ((onceP 3).bind fun o => Pg.ret (!o)) 1 := bind0 (once_post 3) (once_le 3 (by omega))
theorem onceN_post : Pg.Post (fun _ => True) ((onceP 3).bind fun o => Pg.ret (!o)) := (once_post 3).bind fun o _ => .ret trivial
theorem stmt_le0 : Pg.Le (stmtP 0) 17 := simple_le 0
theorem stmt_le1 : Pg.Le (stmtP 1) 109 := Pg.LeP.bind onceN_post onceN_le (m := 108) (fun y _ => leB ((simple_le (min 1 2)).mono (by decide)) (rest_le (trP (blk_post (stmt_post 0))) (blk_le (stmt_post 0) stmt_le0) (by omega) (by omega))) (by omega)
theorem stmt_le2 : Pg.Le (stmtP 2) 453 := Pg.LeP.bind onceN_post onceN_le (m := 452) (fun y _ => leB ((simple_le (min 2 2)).mono (by decide)) (rest_le (trP (blk_post (stmt_post 1))) (blk_le (stmt_post 1) stmt_le1) (by omega) (by omega))) (by omega)
theorem stmtB_le {a : Int} (h0 : 0 ≤ a) (h1 : a < 2) : Pg.Le (blkP (stmtP (1 + a).toNat)) 907 := by
 have : a = 0 ∨ a = 1 := by omega
 rcases this with rfl | rfl
 ·exact (blk_le (stmt_post 1) stmt_le1).mono (by decide)
 ·exact (blk_le (stmt_post 2) stmt_le2).mono (by decide)
theorem item_le : Pg.Le itemP 952 := by
 refine Pg.LeP.bind (below_post 2) (below_le 2 (by omega)) (m := 951) (fun a ha => ?_) (by omega)
 have hB := stmtB_post (a := a) ha.1 (by omega)
 have gB := stmtB_le (a := a) ha.1 (by omega)
 have p := expr_post (1 + a).toNat
 have p1 := expr_post 1
 have e : Pg.Le (exprP (1 + a).toNat) 43 := (expr_le _).mono (eb_le (a := (1 + a).toNat) (c := 2) (by omega))
 have e1 : Pg.Le (exprP 1) 13 := expr_le 1
 refine Pg.LeP.bind (below_post 8) (below_le 8 (by omega)) (m := 950) (fun r _ => leB ?_ (leB ?_ (leB ?_ (leB ?_ (leB ?_ (leB ?_ (leB ?_ ?_))))))) (by omega)
 ·exact Pg.LeP.bind (below_post 2) (below_le 2 (by omega)) (m := 907) (fun q _ => bind0 hB gB) (by omega)
 ·exact (bind0 p e).mono (by omega)
 ·exact (bind0 hB gB).mono (by omega)
 ·exact Pg.LeP.bind p1 e1 (m := 13) (fun t _ => bind0 p1 e1) (by omega)
 ·exact Pg.LeP.bind p1 e1 (m := 920) (fun t _ => Pg.LeP.bind p1 e1 (m := 907) (fun t _ => bind0 hB gB) (by omega)) (by omega)
 ·exact Pg.LeP.bind (below_post 3) (below_le 3 (by omega)) (m := 910) (fun q hq => Pg.LeP.bind (rep_post leafW_post _) ((rep_le leafW_post leafW_le _).mono (show q.toNat * 1 ≤ 2 by omega)) (m := 908) (fun ws _ => Pg.LeP.bind (pick_sh _ (by decide) (by decide)) (pick_le' _ (by decide)) (m := 907) (fun x _ => bind0 hB gB) (by omega)) (by omega)) (by omega)
 ·exact (bind0 (pick_sh _ (by decide) (by decide)) (pick_le' _ (by decide))).mono (by omega)
 ·exact Pg.LeP.bind p e (m := 907) (fun t _ => bind0 hB gB) (by omega)
theorem program_le : Pg.Le programP 2857 := Pg.LeP.bind (below_post 4) (below_le 4 (by omega)) (m := 2856) (fun r hr => bind0 (rep_post item_post _) ((rep_le item_post item_le _).mono (show r.toNat * 952 ≤ 2856 by omega))) (by omega)

end Go.Proofs.Tryz

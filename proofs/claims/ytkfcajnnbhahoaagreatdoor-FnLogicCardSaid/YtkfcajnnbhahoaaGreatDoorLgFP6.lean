/-
 Plain lemmas on the models, part 6.
-/
import Derived.Test.YtkfcajnnbhahoaaGreatDoorLgFP5
namespace Go.Proofs.Tryz
open Go.Av
set_option maxRecDepth 100000
set_option linter.unusedSimpArgs false
set_option linter.unusedVariables false

section
set_option linter.unusedSectionVars false
variable (b : List UInt8) (hb : b.length ≤ 1048576)
include hb
theorem leafW_sm (i : Nat) (h : Int) (hi : i ≤ b.length) : Sm b leafW (lst 0) i h (ms_l7Leaf_k1 b ((i : Int), h)) := Sm.bind hi word_post (word_sm b hb i h hi) fun x i h _ hi => Sm.ret
theorem leaf_sm (i : Nat) (h : Int) (hi : i ≤ b.length) : Sm b leafP (lst 0) i h (ms_l7Leaf b (i : Int) h) := by
 unfold ms_l7Leaf leafP
 refine Sm.bind hi (below_post 7) (below_sm b hb 7 i h hi) fun r i h _ hi => ?_
 dsimp only
 refine Sm.cond (fun _ => Sm.bind hi num_post (num_sm b hb i h hi) fun x i h _ hi => Sm.ret) fun _ => Sm.cond (fun _ => Sm.bind hi str_post (str_sm b hb i h hi) fun x i h _ hi => Sm.ret) fun _ => Sm.cond (fun _ => ?_) fun _ => leafW_sm b hb i h hi
 refine Sm.bind hi (once_post 2) (once_sm b hb 2 i h hi) fun o i h _ hi => ?_
 dsimp only
 exact Sm.cond (fun _ => Sm.bind hi ere_post (ere_sm b hb i h hi) fun x i h _ hi => Sm.ret) fun _ => leafW_sm b hb i h hi
theorem mkn_sm {α : Type} {N : Nat} (hN : 1048577 < N) (k o : Int) (x y : List UInt8) (ts : List STree) (hs : szTs ts ≤ 900000) (i : Nat) (h : Int) : Sm b (.ret (⟨k, o, x, y, ts⟩ : STree)) (lst 0) i h ((ms_l6Make N ⟨k, o, x, y, []⟩ (ts.map (lst 0))).bind fun r => some (r, (i : Int), h)) := by
 rw [make_is N ⟨k, o, x, y, []⟩ ts hN hs, oBs]
 exact Sm.ret
def XS (N d : Nat) : Prop := ∀ (deep : Int) (i : Nat) (h : Int), deep.toNat = d → -1000 ≤ deep → deep ≤ 1000 → i ≤ b.length → Sm b (exprP d) (lst 0) i h ((scc1 N).ms_l7Expr deep b (i : Int) h)
theorem lv_sm {N d : Nat} (hN : 1048577 < N) (hd : d ≤ 6) (h1 : XS b N (d - 1)) (h2 : XS b N (d - 2)) (deep : Int) (i : Nat) (h : Int) (hdp : deep.toNat = d) (g1 : -900 ≤ deep) (hi : i ≤ b.length) : Sm b (lvOf (exprP (d - 1)) (exprP (d - 2))) (lst 0) i h ((scc1 (N + 1)).ms_l7Lvalue deep b (i : Int) h) := by
 have z1 : pw (d - 1) ≤ 4096 := pw_le (a := d - 1) (c := 6) (by omega)
 have z2 : pw (d - 2) ≤ 4096 := pw_le (a := d - 2) (c := 6) (by omega)
 show Sm b _ _ i h (ms_l7Lvalue_F N (scc1 N) deep b (i : Int) h)
 unfold ms_l7Lvalue_F lvOf
 refine Sm.bind hi (below_post 4) (below_sm b hb 4 i h hi) fun r i h _ hi => ?_
 dsimp only
 refine Sm.cond (fun _ => ?_) fun _ => Sm.cond (fun _ => ?_) fun _ => Sm.bind hi word_post (word_sm b hb i h hi) fun x i h _ hi => Sm.ret
 ·refine Sm.bind hi word_post (word_sm b hb i h hi) fun x i h _ hi => ?_
  dsimp only
  rw [wrap64 (n := deep - 1) (by omega) (by omega)]
  refine Sm.bind hi (expr_post (d - 1)) (h1 (deep - 1) i h (by omega) (by omega) (by omega) hi) fun t i h ht hi => ?_
  exact mkn_sm (α := Unit) b hb hN 5 0 x [] [t] (by have := ht.1; simp only [szTs]; omega) i h
 ·rw [wrap64 (n := deep - 2) (by omega) (by omega)]
  refine Sm.bind hi (expr_post (d - 2)) (h2 (deep - 2) i h (by omega) (by omega) (by omega) hi) fun t i h ht hi => ?_
  exact mkn_sm (α := Unit) b hb hN 6 0 [] [] [t] (by have := ht.1; simp only [szTs]; omega) i h
theorem list_sm_l {N d : Nat} (hX : XS b N d) (deep : Int) (hdp : deep.toNat = d) (g1 : -900 ≤ deep) (g2 : deep ≤ 900) : ∀ (n c : Nat) (i : Nat) (h : Int) (acc : List (List SNode)), c < n → acc.length + c ≤ 100 → i ≤ b.length →
  Sm b (repP (exprP d) c) (fun ts => acc ++ ts.map (lst 0)) i h (ms_l7List_l1 N (scc1 N) b n (deep, (c : Int), (i : Int), h, acc)) := by
 intro n
 induction n with
 | zero => intro c i h acc hc; omega
 | succ n ih =>
  intro c i h acc hc ha hi
  rw [ms_l7List_l1]
  cases c with
  | zero =>
   have : decide (((0 : Nat) : Int) > 0) = false := rfl
   rw [this, cond_false]
   show _ = some (acc ++ [].map (lst 0), _, _)
   rw [List.map_nil, List.append_nil]
   rfl
  | succ c =>
   have : decide (((c + 1 : Nat) : Int) > 0) = true := decide_eq_true (by omega)
   rw [this, cond_true, repP]
   refine Sm.bind hi (expr_post d) (hX deep i h hdp (by omega) (by omega) hi) fun t i h ht hi => ?_
   dsimp only
   rw [app_some (by simp; omega), oBs, wrap64 (by omega) (by omega), show ((c + 1 : Nat) : Int) - 1 = (c : Int) by omega]
   have := ih c i h (acc ++ [lst 0 t]) (by omega) (by simp; omega) hi
   unfold Sm at this ⊢
   rw [this, Pg.run_bind]
   simp [Pg.run]
theorem list_sm {N d : Nat} (hN : 200 < N) (hX : XS b N d) (lo hi' : Nat) (hl : lo ≤ hi') (hh : hi' ≤ 90) (deep : Int) (hdp : deep.toNat = d) (g1 : -900 ≤ deep) (g2 : deep ≤ 900) (i : Nat) (h : Int) (hi : i ≤ b.length) :
  Sm b (listP (lo : Int) (hi' : Int) (exprP d)) (fun ts => ts.map (lst 0)) i h ((scc1 (N + 1)).ms_l7List (lo : Int) (hi' : Int) deep b (i : Int) h) := by
 show Sm b _ _ i h (ms_l7List_F N (scc1 N) (lo : Int) (hi' : Int) deep b (i : Int) h)
 unfold ms_l7List_F listP
 rw [wrap64 (n := (hi' : Int) - lo) (by omega) (by omega), wrap64 (n := (hi' : Int) - lo + 1) (by omega) (by omega)]
 refine Sm.bind hi (below_post _) (below_sm b hb _ i h hi) fun r i h hr hi => ?_
 dsimp only
 obtain ⟨c, rfl⟩ := Int.eq_ofNat_of_zero_le hr.1
 have hc : c ≤ hi' - lo := by rcases hr.2 with h | h <;> omega
 rw [wrap64 (by omega) (by omega), show (lo : Int) + (c : Int) = ((lo + c : Nat) : Int) by omega, Int.toNat_natCast]
 have := list_sm_l b hb hX deep hdp g1 g2 N (lo + c) i h [] (by omega) (by simp; omega) hi
 exact this
theorem xs_zero {N : Nat} (hN : 1 ≤ N) : XS b N 0 := by
 intro deep i h hd h1 h2 hi
 obtain ⟨N, rfl⟩ : ∃ m, N = m + 1 := ⟨N - 1, by omega⟩
 show Sm b _ _ i h (ms_l7Expr_F N (scc1 N) deep b (i : Int) h)
 unfold ms_l7Expr_F
 have : decide (deep ≤ 0) = true := decide_eq_true (by omega)
 rw [this, cond_true]
 exact Sm.id3 (leaf_sm b hb i h hi)
theorem xs_succ {N d : Nat} (hN : 1048577 < N) (hdd : d ≤ 5) (hA : ∀ e, e ≤ d → XS b (N + 1) e) (hB : ∀ e, e ≤ d → XS b N e) : XS b (N + 1 + 1) (d + 1) := by
 intro deep i h hd g1 g2 hi
 have hp := pw_pos d
 have hpb : pw d ≤ 4096 := pw_le (a := d) (c := 6) (by omega)
 have hpb1 : pw (d - 1) ≤ 4096 := pw_le (a := d - 1) (c := 6) (by omega)
 have hpb2 : pw (d - 2) ≤ 4096 := pw_le (a := d - 2) (c := 6) (by omega)
 have w1 : IntKind.wrap .i64 (deep - 1) = deep - 1 := wrap64 (by omega) (by omega)
 have w2 : IntKind.wrap .i64 (deep - 2) = deep - 2 := wrap64 (by omega) (by omega)
 show Sm b _ _ i h (ms_l7Expr_F (N + 1) (scc1 (N + 1)) deep b (i : Int) h)
 rw [exprP_succ]
 unfold ms_l7Expr_F stepP
 have : decide (deep ≤ 0) = false := decide_eq_false (by omega)
 rw [this, cond_false]
 have e1 : ∀ (i : Nat) h, i ≤ b.length → Sm b (exprP d) (lst 0) i h ((scc1 (N + 1)).ms_l7Expr (deep - 1) b (i : Int) h) := fun i h hi => hA d (by omega) (deep - 1) i h (by omega) (by omega) (by omega) hi
 have lv0 : ∀ (i : Nat) h, i ≤ b.length → Sm b (lvOf (exprP d) (exprP (d - 1))) (lst 0) i h ((scc1 (N + 1)).ms_l7Lvalue deep b (i : Int) h) := fun i h hi => by
  have := lv_sm b hb (d := d + 1) hN (by omega) (by rw [Nat.add_sub_cancel]; exact hB d (by omega)) (hB (d + 1 - 2) (by omega)) deep i h hd (by omega) hi
  rw [Nat.add_sub_cancel, show d + 1 - 2 = d - 1 by omega] at this
  exact this
 have lv1 : ∀ (i : Nat) h, i ≤ b.length → Sm b (lvOf (exprP (d - 1)) (exprP (d - 2))) (lst 0) i h ((scc1 (N + 1)).ms_l7Lvalue (deep - 1) b (i : Int) h) := fun i h hi =>
  lv_sm b hb (d := d) hN (by omega) (hB (d - 1) (by omega)) (hB (d - 2) (by omega)) (deep - 1) i h (by omega) (by omega) hi
 have lvp : ∃ m D, m ≤ 5000 ∧ Pg.Post (Gd m D) (lvOf (exprP (d - 1)) (exprP (d - 2))) := ⟨pw d + 1, dpE (d - 1) + dpE (d - 2) + 1, by omega, lv_post ((expr_post (d - 1)).imp fun t ht => ht.mono (pw_le (by omega)) (by omega)) ((expr_post (d - 2)).imp fun t ht => ht.mono (pw_le (by omega)) (by omega)) (by omega)⟩
 obtain ⟨ml, dl, hml, lvp⟩ := lvp
 have pI : ∀ l : List Int, 0 < l.length → Pg.Post (fun _ => True) (pickIntP l) := fun l hl => pickInt_post l hl fun _ _ => trivial
 refine Sm.bind hi (below_post 2) (below_sm b hb 2 i h hi) fun a i h ha hi => ?_
 dsimp only
 refine Sm.bind hi (below_post 16) (below_sm b hb 16 i h hi) fun r i h hr hi => ?_
 dsimp only
 have wa : IntKind.wrap .i64 (51 + a) = 51 + a := wrap64 (by omega) (by omega)
 rw [wa]
 have hK : ∀ y : Bool, Sm b (stepK (exprP d) (exprP (d - 1)) (exprP (d - 2)) r y) (lst 0) i h (ms_l7Expr_k1 (N + 1) (scc1 (N + 1)) b (deep, (r, (i : Int), h), y)) := fun y => by
  unfold ms_l7Expr_k1 stepK
  dsimp only
  rw [w1]
  refine Sm.cond (fun _ => ?_) fun _ => Sm.cond (fun _ => ?_) fun _ => Sm.cond (fun _ => ?_) fun _ => Sm.cond (fun _ => ?_) fun _ => ?_
  ·refine Sm.bind hi (pI _ (by decide)) (pickInt_sm b hb _ (by decide) i h hi) fun o i h _ hi => ?_
   dsimp only
   refine Sm.bind hi (expr_post d) (e1 i h hi) fun t i h ht hi => ?_
   exact mkn_sm (α := Unit) b hb (by omega) 11 o [] [] [t] (by have := ht.1; simp only [szTs]; omega) i h
  ·refine Sm.bind hi word_post (word_sm b hb i h hi) fun x i h _ hi => ?_
   dsimp only
   refine Sm.bind hi (list_post (expr_post d) 1 2 (by omega)) (list_sm b hb (N := N) (by omega) (hB d (by omega)) 1 2 (by omega) (by omega) (deep - 1) (by omega) (by omega) (by omega) i h hi) fun ts i h hts hi => ?_
   exact mkn_sm (α := Unit) b hb (by omega) 13 0 x [] ts (by have := hts.2.2.1; omega) i h
  ·refine Sm.bind hi (expr_post d) (e1 i h hi) fun t i h ht hi => ?_
   dsimp only
   refine Sm.bind hi (expr_post d) (e1 i h hi) fun u i h hu hi => ?_
   dsimp only
   refine Sm.bind hi (expr_post d) (e1 i h hi) fun v i h hv hi => ?_
   exact mkn_sm (α := Unit) b hb (by omega) 14 0 [] [] [t, u, v] (by have := ht.1; have := hu.1; have := hv.1; simp only [szTs]; omega) i h
  ·refine Sm.bind hi (pI _ (by decide)) (pickInt_sm b hb _ (by decide) i h hi) fun o i h _ hi => ?_
   dsimp only
   refine Sm.bind hi lvp (lv1 i h hi) fun t i h ht hi => ?_
   dsimp only
   refine Sm.bind hi (expr_post d) (e1 i h hi) fun u i h hu hi => ?_
   exact mkn_sm (α := Unit) b hb (by omega) 15 o [] [] [t, u] (by have := ht.1; have := hu.1; simp only [szTs]; omega) i h
  ·refine Sm.bind hi binop_post (binop_sm b hb i h hi) fun o i h _ hi => ?_
   dsimp only
   refine Sm.bind hi (expr_post d) (e1 i h hi) fun t i h ht hi => ?_
   dsimp only
   refine Sm.bind hi (expr_post d) (e1 i h hi) fun u i h hu hi => ?_
   exact mkn_sm (α := Unit) b hb (by omega) 12 o [] [] [t, u] (by have := ht.1; have := hu.1; simp only [szTs]; omega) i h
 refine Sm.cond (fun _ => Sm.id3 (leaf_sm b hb i h hi)) fun _ => Sm.cond (fun _ => Sm.id3 (lv0 i h hi)) fun _ => Sm.cond (fun _ => ?_) fun _ => Sm.cond (fun _ => ?_) fun _ => Sm.cond (fun _ => ?_) fun _ => Sm.cond (fun _ => ?_) fun _ => Sm.cond (fun _ => ?_) fun _ => Sm.cond (fun _ => hK _) fun _ => hK _
 ·rw [w1]
  refine Sm.bind hi (expr_post d) (e1 i h hi) fun t i h ht hi => ?_
  exact mkn_sm (α := Unit) b hb (by omega) 6 0 [] [] [t] (by have := ht.1; simp only [szTs]; omega) i h
 ·refine Sm.bind hi word_post (word_sm b hb i h hi) fun x i h _ hi => ?_
  dsimp only
  rw [w1]
  refine Sm.bind hi (list_post (expr_post d) 0 3 (by omega)) (list_sm b hb (N := N) (by omega) (hB d (by omega)) 0 3 (by omega) (by omega) (deep - 1) (by omega) (by omega) (by omega) i h hi) fun ts i h hts hi => ?_
  exact mkn_sm (α := Unit) b hb (by omega) 7 0 x [] ts (by have := hts.2.2.1; omega) i h
 ·refine Sm.bind hi (pick_sh _ (by decide) (by decide)) (pick_sm b hb _ (by decide) i h hi) fun x i h _ hi => ?_
  dsimp only
  rw [w2]
  refine Sm.bind hi (list_post (expr_post (d - 1)) 0 3 (by omega)) (list_sm b hb (N := N) (by omega) (hB (d - 1) (by omega)) 0 3 (by omega) (by omega) (deep - 2) (by omega) (by omega) (by omega) i h hi) fun ts i h hts hi => ?_
  exact mkn_sm (α := Unit) b hb (by omega) 8 0 x [] ts (by have := hts.2.2.1; omega) i h
 ·rw [w1]
  refine Sm.bind hi lvp (lv1 i h hi) fun t i h ht hi => ?_
  exact mkn_sm (α := Unit) b hb (by omega) 9 (51 + a) [] [] [t] (by have := ht.1; simp only [szTs]; omega) i h
 ·rw [w1]
  refine Sm.bind hi lvp (lv1 i h hi) fun t i h ht hi => ?_
  exact mkn_sm (α := Unit) b hb (by omega) 10 (51 + a) [] [] [t] (by have := ht.1; simp only [szTs]; omega) i h
theorem xs_all : ∀ (d N : Nat), d ≤ 6 → 1048580 + 3 * d ≤ N → XS b N d := by
 intro d
 induction d using Nat.strongRecOn with
 | _ d ih =>
  intro N hd hN
  cases d with
  | zero => exact xs_zero b hb (by omega)
  | succ d =>
   obtain ⟨N, rfl⟩ : ∃ m, N = m + 1 + 1 := ⟨N - 2, by omega⟩
   exact xs_succ b hb (by omega) (by omega) (fun e he => ih e (by omega) (N + 1) (by omega) (by omega)) (fun e he => ih e (by omega) N (by omega) (by omega))
theorem expr_sm (N d : Nat) (hd : d ≤ 6) (hN : 1048700 ≤ N) (deep : Int) (hdp : deep.toNat = d) (g1 : -1000 ≤ deep) (g2 : deep ≤ 1000) (i : Nat) (h : Int) (hi : i ≤ b.length) : Sm b (exprP d) (lst 0) i h (ms_l7Expr N deep b (i : Int) h) := xs_all b hb d N hd (by omega) deep i h hdp g1 g2 hi
theorem exlist_sm (N d : Nat) (hd : d ≤ 6) (hN : 1048700 ≤ N) (lo hi' : Nat) (hl : lo ≤ hi') (hh : hi' ≤ 90) (deep : Int) (hdp : deep.toNat = d) (g1 : -900 ≤ deep) (g2 : deep ≤ 900) (i : Nat) (h : Int) (hi : i ≤ b.length) :
  Sm b (listP (lo : Int) (hi' : Int) (exprP d)) (fun ts => ts.map (lst 0)) i h (ms_l7List N (lo : Int) (hi' : Int) deep b (i : Int) h) := by
 obtain ⟨N, rfl⟩ : ∃ m, N = m + 1 := ⟨N - 1, by omega⟩
 exact list_sm b hb (by omega) (xs_all b hb d N hd (by omega)) lo hi' hl hh deep hdp g1 g2 i h hi

def someP : Pg STree := (belowP 4).bind fun r => exprP (1 + r).toNat
def fits (m : Nat) (t : STree) : Bool := Nat.ble (szT t) m
omit hb in
theorem some_post : Pg.Post (Gd 256 6) someP := (below_post 4).bind fun r hr => (expr_post _).imp fun t ht => ht.mono (pw_le (a := (1 + r).toNat) (c := 4) (by omega)) (by unfold dpE; split <;> omega)
omit hb in
theorem some_le : Pg.Le someP 404 := Pg.LeP.bind (below_post 4) (below_le 4 (by omega)) (m := 403) (fun r hr => (expr_le _).mono (eb_le (a := (1 + r).toNat) (c := 4) (by omega))) (by omega)
theorem some_l {N : Nat} (hN : 1048700 ≤ N) : ∀ (n i : Nat) (h : Int), i ≤ b.length → ms_l7Some_l1 N b n ((i : Int), h) = (Pg.loop b someP (fits 60) n i h).map fun r => (lst 0 r.1, (r.2.1 : Int), r.2.2) := by
 intro n
 induction n with
 | zero => intro i h hi; rfl
 | succ n ih =>
  intro i h hi
  have hs : Sm b someP (lst 0) i h ((ms_l1Below 4 b (i : Int) h).bind fun r9 => ms_l7Expr N (IntKind.wrap .i64 (1 + r9.1)) b r9.2.1 r9.2.2) := by
   refine Sm.bind hi (below_post 4) (below_sm b hb 4 i h hi) fun r i h hr hi => ?_
   dsimp only
   rw [wrap64 (by omega) (by omega)]
   exact expr_sm b hb N _ (by omega) hN (1 + r) rfl (by omega) (by omega) i h hi
  rw [ms_l7Some_l1, Pg.loop]
  unfold Sm at hs
  have e : ∀ g : (List SNode × Int × Int) → Option (List SNode × Int × Int), ((ms_l1Below 4 b (i : Int) h).bind fun r9 => Option.bind (ms_l7Expr N (IntKind.wrap .i64 (1 + r9.1)) b r9.2.1 r9.2.2) g) = Option.bind ((ms_l1Below 4 b (i : Int) h).bind fun r9 => ms_l7Expr N (IntKind.wrap .i64 (1 + r9.1)) b r9.2.1 r9.2.2) g := fun g => by
   cases ms_l1Below 4 b (i : Int) h <;> rfl
  rw [e, hs, oBs]
  dsimp only
  have hf : decide (((lst 0 (Pg.run b someP i h).1).length : Int) ≤ 60) = fits 60 (Pg.run b someP i h).1 := by
   rw [lst_len]
   unfold fits
   cases hc : Nat.ble (szT (Pg.run b someP i h).1) 60 with
   | true => have := Nat.le_of_ble_eq_true hc; exact decide_eq_true (by omega)
   | false => refine decide_eq_false fun hh => ?_; rw [Nat.ble_eq_true_of_le (by omega)] at hc; cases hc
  rw [hf]
  cases fits 60 (Pg.run b someP i h).1 with
  | true => rfl
  | false => rw [cond_false, cond_false]; exact ih _ _ (Pg.run_le b someP i h hi)
end

end Go.Proofs.Tryz

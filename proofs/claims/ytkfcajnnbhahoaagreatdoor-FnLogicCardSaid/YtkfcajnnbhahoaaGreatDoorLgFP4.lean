/-
 Plain lemmas on the models, part 4.
-/
import Derived.Test.YtkfcajnnbhahoaaGreatDoorLgFP3
namespace Go.Proofs.Tryz
open Go.Av
set_option maxRecDepth 100000
set_option linter.unusedSimpArgs false
set_option linter.unusedVariables false

mutual
def stT (b : Nat) : STree → List Int
 | ⟨_, _, _, _, ks⟩ => stTs b ks ++ [(b : Int)]
def stTs (b : Nat) : List STree → List Int
 | [] => []
 | t :: ts => stT b t ++ stTs (b + szT t) ts
end
mutual
theorem stT_len : ∀ (t : STree) (b : Nat), (stT b t).length = szT t
 | ⟨_, _, _, _, ks⟩, b => by rw [stT, szT, List.length_append, stTs_len ks b]; rfl
theorem stTs_len : ∀ (ts : List STree) (b : Nat), (stTs b ts).length = szTs ts
 | [], b => by rw [stTs, szTs]; rfl
 | t :: ts, b => by rw [stTs, szTs, List.length_append, stT_len t b, stTs_len ts _]
end
theorem stT_last (t : STree) (b : Nat) : (stT b t)[szT t - 1]? = some (b : Int) := by
 obtain ⟨k, o, x, y, ks⟩ := t
 rw [stT, szT, Nat.add_sub_cancel, List.getElem?_append_right (by rw [stTs_len]; omega), stTs_len, Nat.sub_self]
 rfl
theorem stTs_app : ∀ (a c : List STree) (b : Nat), stTs b (a ++ c) = stTs b a ++ stTs (b + szTs a) c
 | [], c, b => by simp [stTs, szTs]
 | t :: a, c, b => by rw [List.cons_append, stTs, stTs, szTs, stTs_app a c, List.append_assoc, Nat.add_assoc]

theorem walk_ends (b : Nat) (ts : List STree) : ∀ (m : Nat) (ts1 ts2 : List STree), ts1.length = m → ts1 ++ ts2 = ts → ∀ out : List Int, (∀ i, i < szTs ts → out[b + i]? = (stTs b ts)[i]?) → walk out ((b + szTs ts1 : Nat) : Int) (endsT b ts1).reverse = some (b : Int) := by
 intro m
 induction m with
 | zero =>
  intro ts1 ts2 hl _ out _
  have : ts1 = [] := List.length_eq_zero_iff.1 hl
  subst this
  simp [endsT, walk, szTs]
 | succ m ih =>
  intro ts1 ts2 hl he out ho
  obtain ⟨u, t, rfl⟩ : ∃ u t, ts1 = u ++ [t] := by
   rcases List.eq_nil_or_concat ts1 with rfl | ⟨u, t, rfl⟩
   ·cases hl
   ·exact ⟨u, t, by simp⟩
  have hp := szT_pos t
  have hsz : szTs (u ++ [t]) = szTs u + szT t := by rw [szTs_app, szTs, szTs]; omega
  rw [endsT_app, List.reverse_append, endsT, endsT, List.reverse_cons, List.reverse_nil, List.nil_append, List.singleton_append, walk, hsz]
  have hne : ¬ (((b + (szTs u + szT t) : Nat) : Int) = 0 ∨ (((b + szTs u + szT t : Nat) : Int) - 1) ≠ ((b + (szTs u + szT t) : Nat) : Int) - 1) := by omega
  rw [if_neg hne]
  have htot : szTs ts = szTs u + (szT t + szTs ts2) := by rw [← he, szTs_app, hsz]; omega
  have hi : (((b + (szTs u + szT t) : Nat) : Int) - 1).toNat = b + (szTs u + (szT t - 1)) := by omega
  rw [hi, ho _ (by omega)]
  have hst : stTs b ts = stTs b u ++ (stT (b + szTs u) t ++ stTs (b + szTs u + szT t) ts2) := by
   rw [← he, List.append_assoc, List.singleton_append, stTs_app, stTs]
  rw [hst, List.getElem?_append_right (by rw [stTs_len]; omega), stTs_len, Nat.add_sub_cancel_left, List.getElem?_append_left (by rw [stT_len]; omega), stT_last]
  exact ih u (t :: ts2) (by simpa using hl) (by rw [← he]; simp) out ho

mutual
theorem starts_lst : ∀ (t : STree) (b : Nat) (rest : List (List Int)) (out : List Int), out.length = b → starts (kidsN (lst b t) ++ rest) out = starts rest (out ++ stT b t)
 | ⟨k, o, x, y, ks⟩, b, rest, out, hb => by
  have h1 := starts_lsts ks b ([endsT b ks] ++ rest) out hb
  have hl : (out ++ stTs b ks).length = b + szTs ks := by rw [List.length_append, stTs_len, hb]
  rw [lst, stT]
  have e : kidsN (lsts b ks ++ [(⟨k, o, x, y, endsT b ks⟩ : SNode)]) ++ rest = kidsN (lsts b ks) ++ ([endsT b ks] ++ rest) := by
   unfold kidsN
   rw [List.map_append, List.append_assoc]
   rfl
  rw [e, h1, List.singleton_append, starts, hl]
  have := walk_ends b ks ks.length ks [] rfl (by simp) (out ++ stTs b ks) (fun i hi => by rw [List.getElem?_append_right (by omega), hb, Nat.add_sub_cancel_left])
  rw [this, oBs, List.append_assoc]
theorem starts_lsts : ∀ (ts : List STree) (b : Nat) (rest : List (List Int)) (out : List Int), out.length = b → starts (kidsN (lsts b ts) ++ rest) out = starts rest (out ++ stTs b ts)
 | [], b, rest, out, hb => by
  rw [lsts, stTs, List.append_nil]
  rfl
 | t :: ts, b, rest, out, hb => by
  rw [lsts, stTs]
  have e : kidsN (lst b t ++ lsts (b + szT t) ts) ++ rest = kidsN (lst b t) ++ (kidsN (lsts (b + szT t) ts) ++ rest) := by
   unfold kidsN
   rw [List.map_append, List.append_assoc]
  rw [e, starts_lst t b _ out hb, starts_lsts ts (b + szT t) rest _ (by rw [List.length_append, stT_len, hb]), List.append_assoc]
end

theorem shapeB_lst (t : STree) (h : szT t ≤ 400) : shapeB (lst 0 t) = true := by
 have hp := szT_pos t
 have hs := starts_lst t 0 [] [] rfl
 rw [List.append_nil, List.nil_append] at hs
 unfold shapeB
 rw [hs, lst_len]
 simp only [starts, rootAt, stT_last, Bool.and_eq_true, decide_eq_true_eq]
 exact ⟨⟨hp, h⟩, by simp⟩

def PR (a : List SNode) (b : Nat) (l : List SNode) : Prop := ∀ (i : Nat) (x : SNode), l[i]? = some x → a[b + i]? = some x
theorem PR.left {a l1 l2 : List SNode} {b : Nat} (h : PR a b (l1 ++ l2)) : PR a b l1 := fun i x hx => h i x (by rw [List.getElem?_append_left (List.getElem?_eq_some_iff.1 hx).1]; exact hx)
theorem PR.right {a l1 l2 : List SNode} {b : Nat} (h : PR a b (l1 ++ l2)) : PR a (b + l1.length) l2 := fun i x hx => by
 have := h (l1.length + i) x (by rw [List.getElem?_append_right (by omega), Nat.add_sub_cancel_left]; exact hx)
 rw [Nat.add_assoc]
 exact this
mutual
theorem TA_lst {a : List SNode} : ∀ (t : STree) (b : Nat), PR a b (lst b t) → TA a t b (b + szT t - 1)
 | ⟨k, o, x, y, ks⟩, b, h => by
  rw [lst] at h
  have h1 := KA_lst ks b h.left
  have h2 := h.right 0 _ rfl
  rw [lsts_len, Nat.add_zero] at h2
  rw [szT, show b + (szTs ks + 1) - 1 = b + szTs ks by omega, TA]
  exact ⟨_, h2, rfl, rfl, rfl, rfl, h1⟩
theorem KA_lst {a : List SNode} : ∀ (ts : List STree) (b : Nat), PR a b (lsts b ts) → KA a ts (endsT b ts) b (b + szTs ts)
 | [], b, h => by
  rw [KA, endsT, szTs]
  exact ⟨rfl, rfl⟩
 | t :: ts, b, h => by
  rw [lsts] at h
  have hp := szT_pos t
  have h1 := TA_lst t b h.left
  have h2 := KA_lst ts (b + szT t) (by have := h.right; rw [lst_len] at this; exact this)
  rw [KA, endsT, szTs]
  refine ⟨b + szT t - 1, endsT (b + szT t) ts, ?_, by omega, by omega, h1, ?_⟩
  ·congr 1
   omega
  ·rw [show b + szT t - 1 + 1 = b + szT t by omega, ← Nat.add_assoc]
   exact h2
end
theorem TA_self (t : STree) : TA (lst 0 t) t 0 ((lst 0 t).length - 1) := by
 have := TA_lst (a := lst 0 t) t 0 (fun i x hx => by rw [Nat.zero_add]; exact hx)
 rw [Nat.zero_add] at this
 rw [lst_len]
 exact this

def SmS (L : List SNode) : Prop := ∀ x, x ∈ L → x.Kids.length ≤ 20000 ∧ x.Text.length ≤ 20 ∧ x.Other.length ≤ 20

theorem shiftS_l2 (N : Nat) (kb : (List SNode × Int × Int × List SNode) → Option (List SNode)) (a : List SNode) (d : Int) (i : Nat) (hi : i < a.length) (hi2 : i ≤ 1000000) (out : List SNode) (ho : out.length ≤ 1000000) (hk : a[i].Kids.length ≤ 20000) :
  ∀ (n j : Nat) (ks : List Int), a[i].Kids.length - j < n → j ≤ a[i].Kids.length → ks.length = j →
   ∃ x : SNode, (x.Kids.length = a[i].Kids.length ∧ x.Text = a[i].Text ∧ x.Other = a[i].Other) ∧ ms_l6Shift_l2 N kb n (a, d, (i : Int), out, a[i], (j : Int), ks) = kb (a, d, ((i + 1 : Nat) : Int), out ++ [x]) := by
 intro n
 induction n with
 | zero => intro j ks h; omega
 | succ n ih =>
  intro j ks hn hj hks
  rw [ms_l6Shift_l2, ix_nat hi, oBs]
  by_cases h : j < a[i].Kids.length
  ·simp only [lt_true h, cond_true, ix_nat hi, ix_nat h, oBs, step64 h (by simp only [maxLen]; omega)]
   rw [app_some (by simp; omega), oBs]
   exact ih (j + 1) _ (by omega) (by omega) (by simp [hks])
  ·simp only [lt_false h, cond_false]
   rw [app_some (by simp; omega), oBs, wrap64 (by omega) (by omega)]
   exact ⟨⟨a[i].Kind, a[i].Op, a[i].Text, a[i].Other, ks⟩, ⟨by show ks.length = _; omega, rfl, rfl⟩, rfl⟩

theorem shiftS_l1 (N : Nat) (a : List SNode) (d : Int) (hN : 1048577 < N) (ha : a.length ≤ 500000) (hs : SmS a) :
  ∀ (n i : Nat) (out : List SNode), a.length - i < n → i ≤ a.length → out.length = i → SmS out → ∃ r, ms_l6Shift_l1 N n (a, d, (i : Int), out) = some r ∧ r.length = a.length ∧ SmS r := by
 intro n
 induction n with
 | zero => intro i out h; omega
 | succ n ih =>
  intro i out hn hi ho hso
  rw [ms_l6Shift_l1]
  by_cases h : i < a.length
  ·have hx := hs _ (List.getElem_mem h)
   simp only [lt_true h, cond_true, ix_nat h, oBs]
   obtain ⟨x, x1, x2⟩ := shiftS_l2 N (ms_l6Shift_l1 N n) a d i h (by omega) out (by omega) hx.1 N 0 [] (by omega) (by omega) rfl
   obtain ⟨r, r1, r2, r3⟩ := ih (i + 1) (out ++ [x]) (by omega) (by omega) (by simp [ho]) (fun z hz => by
    rcases List.mem_append.1 hz with hz | hz
    ·exact hso z hz
    ·rw [List.mem_singleton.1 hz, x1.1, x1.2.1, x1.2.2]; exact hx)
   exact ⟨r, Eq.trans x2 r1, r2, r3⟩
  ·simp only [lt_false h, cond_false]
   exact ⟨out, rfl, by omega, hso⟩

theorem shiftS (N : Nat) (a : List SNode) (d : Int) (hN : 1048577 < N) (ha : a.length ≤ 500000) (hs : SmS a) : ∃ r, ms_l6Shift N a d = some r ∧ r.length = a.length ∧ SmS r :=
 shiftS_l1 N a d hN ha hs N 0 [] (by omega) (by omega) rfl fun z hz => by cases hz

def lenS (Ls : List (List SNode)) : Nat := (Ls.map (·.length)).sum
theorem lenS_cons (L : List SNode) (Ls : List (List SNode)) : lenS (L :: Ls) = L.length + lenS Ls := by simp [lenS]
theorem makeS_l (N : Nat) (n0 : SNode) (Ls : List (List SNode)) (hN : 1048577 < N) (hnt : n0.Text.length ≤ 20 ∧ n0.Other.length ≤ 20) (hl : lenS Ls ≤ 400000) (hk : Ls.length ≤ 10000) (hs : ∀ L, L ∈ Ls → SmS L) : ∀ (n i : Nat) (acc : List SNode) (ids : List Int), Ls.length - i < n → i ≤ Ls.length → acc.length + lenS (Ls.drop i) = lenS Ls → ids.length = i → SmS acc →
  ∃ r, ms_l6Make_l1 N n (Ls, n0, (i : Int), acc, ids) = some r ∧ r.length = lenS Ls + 1 ∧ SmS r := by
 intro n
 induction n with
 | zero => intro i acc ids h; omega
 | succ n ih =>
  intro i acc ids hn hi hacc hids hsa
  rw [ms_l6Make_l1]
  by_cases h : i < Ls.length
  ·rw [drop_cons h, lenS_cons] at hacc
   obtain ⟨r, r1, r2, r3⟩ := shiftS N Ls[i] (acc.length : Int) hN (by omega) (hs _ (List.getElem_mem h))
   simp only [lt_true h, cond_true, ix_nat h, oBs, r1]
   rw [app_some (by omega), oBs, app_some (by simp; omega), oBs, wrap64 (n := (i : Int) + 1) (by omega) (by omega)]
   exact ih (i + 1) (acc ++ r) _ (by omega) (by omega) (by rw [List.length_append, r2]; omega) (by simp [hids]) (fun z hz => by
    rcases List.mem_append.1 hz with hz | hz
    ·exact hsa z hz
    ·exact r3 z hz)
  ·simp only [lt_false h, cond_false]
   rw [drop_nil h] at hacc
   have h0 : lenS [] = 0 := rfl
   rw [app_some (by simp; omega), oBs]
   refine ⟨_, rfl, by simp; omega, fun z hz => ?_⟩
   rcases List.mem_append.1 hz with hz | hz
   ·exact hsa z hz
   ·rw [List.mem_singleton.1 hz]; exact ⟨by show ids.length ≤ _; omega, hnt.1, hnt.2⟩

theorem makeS (N : Nat) (n0 : SNode) (Ls : List (List SNode)) (hN : 1048577 < N) (hnt : n0.Text.length ≤ 20 ∧ n0.Other.length ≤ 20) (hl : lenS Ls ≤ 400000) (hk : Ls.length ≤ 10000) (hs : ∀ L, L ∈ Ls → SmS L) : ∃ r, ms_l6Make N n0 Ls = some r ∧ r.length = lenS Ls + 1 ∧ SmS r :=
 makeS_l N n0 Ls hN hnt hl hk hs N 0 [] [] (by omega) (by omega) (by rw [List.drop_zero]; simp) rfl fun z hz => by cases hz


def Dr {α : Type} (b : List UInt8) (P : α → Prop) (x : Option (α × Int × Int)) : Prop := ∃ a i h, x = some (a, i, h) ∧ P a ∧ 0 ≤ i ∧ i ≤ (b.length : Int)
theorem Dr.bind {α β : Type} {b : List UInt8} {P : α → Prop} {Q : β → Prop} {x : Option (α × Int × Int)} {f : α × Int × Int → Option (β × Int × Int)} (hx : Dr b P x) (hf : ∀ a i h, P a → 0 ≤ i → i ≤ (b.length : Int) → Dr b Q (f (a, i, h))) : Dr b Q (Option.bind x f) := by
 obtain ⟨a, i, h, rfl, h1, h2, h3⟩ := hx
 exact hf a i h h1 h2 h3
theorem Dr.some {α : Type} {b : List UInt8} {P : α → Prop} {a : α} {i h : Int} (ha : P a) (h0 : 0 ≤ i) (h1 : i ≤ (b.length : Int)) : Dr b P (some (a, i, h)) := ⟨a, i, h, rfl, ha, h0, h1⟩
theorem Dr.imp {α : Type} {b : List UInt8} {P Q : α → Prop} {x : Option (α × Int × Int)} (hx : Dr b P x) (h : ∀ a, P a → Q a) : Dr b Q x := by
 obtain ⟨a, i, k, rfl, h1, h2, h3⟩ := hx
 exact ⟨a, i, k, rfl, h a h1, h2, h3⟩
theorem Dr.cond {α : Type} {b : List UInt8} {P : α → Prop} {c : Bool} {x y : Option (α × Int × Int)} (hx : c = true → Dr b P x) (hy : c = false → Dr b P y) : Dr b P (bif c then x else y) := by
 cases c
 ·exact hy rfl
 ·exact hx rfl
theorem Dr.id3 {α : Type} {b : List UInt8} {P : α → Prop} {x : Option (α × Int × Int)} (hx : Dr b P x) : Dr b P (Option.bind x fun r => Option.some (r.1, r.2.1, r.2.2)) := Dr.bind hx fun _ _ _ ha h0 h1 => Dr.some ha h0 h1

theorem and255 (x : Int) : 0 ≤ bits .and .i64 x 255 ∧ bits .and .i64 x 255 ≤ 255 := by
 have e : bits .and .i64 x 255 = IntKind.wrap .i64 (((BitVec.ofInt 64 x &&& BitVec.ofInt 64 255).toNat : Nat) : Int) := rfl
 have h : (BitVec.ofInt 64 x &&& BitVec.ofInt 64 255).toNat ≤ 255 := by
  rw [BitVec.toNat_and]
  exact Nat.and_le_right
 rw [e, wrap64 (by omega) (by omega)]
 omega

section
set_option linter.unusedSectionVars false
variable (b : List UInt8) (hb : b.length ≤ 1048576)
include hb
theorem byte_dr (i h : Int) (h0 : 0 ≤ i) (h1 : i ≤ (b.length : Int)) : Dr b (fun x => 0 ≤ x ∧ x ≤ 255) (ms_l1Byte b i h) := by
 unfold ms_l1Byte ms_l1Byte_k1
 refine Dr.cond (fun hc => ?_) fun hc => ?_
 ·have hc := of_decide_eq_true hc
  obtain ⟨n, rfl⟩ := Int.eq_ofNat_of_zero_le h0
  have hn : n < b.length := by omega
  rw [ix_nat hn, oBs]
  exact Dr.some (and255 _) (by rw [wrap64 (by omega) (by omega)]; omega) (by rw [wrap64 (by omega) (by omega)]; omega)
 ·exact Dr.some (and255 _) h0 h1
theorem rem_dr {P : Int → Prop} {x n i h : Int} (hx : 0 ≤ x) (hn : 0 < n) (h0 : 0 ≤ i) (h1 : i ≤ (b.length : Int)) (hP : ∀ r, 0 ≤ r → r < n → P r) : Dr b P ((remO x n).bind fun y => some (y, i, h)) := by
 unfold remO
 have : (n == 0) = false := by simp; omega
 rw [this, cond_false, oBs]
 exact Dr.some (hP _ (Int.tmod_nonneg _ hx) (Int.tmod_lt_of_pos _ hn)) h0 h1
theorem below_dr (n i h : Int) (h0 : 0 ≤ i) (h1 : i ≤ (b.length : Int)) : Dr b (fun r => 0 ≤ r ∧ (r < n ∨ n ≤ 0 ∧ r = 0)) (ms_l1Below n b i h) := by
 unfold ms_l1Below
 refine Dr.cond (fun hc => ?_) fun hc => Dr.cond (fun hc2 => ?_) fun hc2 => ?_
 ·have hc := of_decide_eq_true hc
  exact Dr.some ⟨by omega, .inr ⟨hc, rfl⟩⟩ h0 h1
 ·have hc := of_decide_eq_false hc
  exact Dr.bind (byte_dr b hb i h h0 h1) fun x i h hx h0 h1 => rem_dr b hb hx.1 (by omega) h0 h1 fun r g1 g2 => ⟨g1, .inl g2⟩
 ·have hc := of_decide_eq_false hc
  refine Dr.bind (byte_dr b hb i h h0 h1) fun x i h hx h0 h1 => Dr.bind (byte_dr b hb i h h0 h1) fun y i h hy h0 h1 => Dr.bind (byte_dr b hb i h h0 h1) fun z i h hz h0 h1 => Dr.bind (byte_dr b hb i h h0 h1) fun w i h hw h0 h1 => ?_
  refine rem_dr b hb ?_ (by omega) h0 h1 fun r g1 g2 => ⟨g1, .inl g2⟩
  dsimp only
  rw [wrap64 (n := x * 16777216) (by omega) (by omega), wrap64 (n := y * 65536) (by omega) (by omega), wrap64 (n := x * 16777216 + y * 65536) (by omega) (by omega), wrap64 (n := z * 256) (by omega) (by omega), wrap64 (n := x * 16777216 + y * 65536 + z * 256) (by omega) (by omega), wrap64 (by omega) (by omega)]
  omega
theorem pick_dr {P : List UInt8 → Prop} (l : List (List UInt8)) (i h : Int) (h0 : 0 ≤ i) (h1 : i ≤ (b.length : Int)) (hl : 0 < l.length) (hP : ∀ x, x ∈ l → P x) : Dr b P (ms_l1Pick l b i h) := by
 unfold ms_l1Pick
 refine Dr.bind (below_dr b hb _ i h h0 h1) fun r i h hr h0 h1 => ?_
 obtain ⟨n, rfl⟩ := Int.eq_ofNat_of_zero_le hr.1
 have hn : n < l.length := by rcases hr.2 with h | h <;> omega
 dsimp only
 have e : ix l (n : Int) = some l[n] := ix_nat hn
 rw [e, oBs]
 exact Dr.some (hP _ (List.getElem_mem hn)) h0 h1
theorem once_dr (n i h : Int) (h0 : 0 ≤ i) (h1 : i ≤ (b.length : Int)) : Dr b (fun _ => True) (ms_l1Once n b i h) := Dr.bind (below_dr b hb _ i h h0 h1) fun _ _ _ _ h0 h1 => Dr.some trivial h0 h1
theorem pickInt_dr {P : Int → Prop} (l : List Int) (i h : Int) (h0 : 0 ≤ i) (h1 : i ≤ (b.length : Int)) (hl : 0 < l.length) (hP : ∀ x, x ∈ l → P x) : Dr b P (ms_l1PickInt l b i h) := by
 unfold ms_l1PickInt
 refine Dr.bind (below_dr b hb _ i h h0 h1) fun r i h hr h0 h1 => ?_
 obtain ⟨n, rfl⟩ := Int.eq_ofNat_of_zero_le hr.1
 have hn : n < l.length := by rcases hr.2 with h | h <;> omega
 dsimp only
 have e : ix l (n : Int) = some l[n] := ix_nat hn
 rw [e, oBs]
 exact Dr.some (hP _ (List.getElem_mem hn)) h0 h1
theorem pick_le (m : Nat) (l : List (List UInt8)) (i h : Int) (h0 : 0 ≤ i) (h1 : i ≤ (b.length : Int)) (hl : 0 < l.length) (hP : (l.all fun x => decide (x.length ≤ m)) = true) : Dr b (fun x => x.length ≤ m) (ms_l1Pick l b i h) :=
 pick_dr b hb l i h h0 h1 hl fun x hx => of_decide_eq_true (List.all_eq_true.1 hP x hx)
def pw : Nat → Nat
 | 0 => 1
 | n + 1 => 4 * pw n
omit hb in
theorem pw_pos : ∀ n, 1 ≤ pw n
 | 0 => by rw [pw]; omega
 | n + 1 => by have := pw_pos n; rw [pw]; omega
def EL (m : Nat) (L : List SNode) : Prop := SmS L ∧ L.length ≤ m ∧ 1 ≤ L.length
omit hb in
theorem el_one (k o : Int) (x : List UInt8) (hx : x.length ≤ 20) : EL 1 [(⟨k, o, x, [], []⟩ : SNode)] := by
 refine ⟨fun z hz => ?_, by simp, by simp⟩
 rw [List.mem_singleton.1 hz]
 exact ⟨by show 0 ≤ 20000; omega, by show x.length ≤ _; omega, by show 0 ≤ 20; omega⟩
theorem make_dr {N : Nat} (hN : 1048577 < N) (k o : Int) (x : List UInt8) (hx : x.length ≤ 20) (Ls : List (List SNode)) (m : Nat) (hk : Ls.length ≤ 100) (hs : ∀ L, L ∈ Ls → SmS L) (hl : lenS Ls + 1 ≤ m) (hm : m ≤ 100000) {i h : Int} (h0 : 0 ≤ i) (h1 : i ≤ (b.length : Int)) : Dr b (EL m) ((ms_l6Make N ⟨k, o, x, [], []⟩ Ls).bind fun r => some (r, i, h)) := by
 obtain ⟨r, r1, r2, r3⟩ := makeS N ⟨k, o, x, [], []⟩ Ls hN ⟨by show x.length ≤ _; omega, by show 0 ≤ 20; omega⟩ (by omega) (by omega) hs
 rw [r1, oBs]
 exact Dr.some ⟨r3, by omega, by omega⟩ h0 h1

end

def lcA : Int := 6364136223846793005
def lcC : Int := 1442695040888963407
def lc (x : Int) : Int := x * lcA + lcC
def lcN : Nat → Int → Int
 | 0, x => x
 | n + 1, x => lcN n (lc x)

theorem lcN_add : ∀ (m n : Nat) (x : Int), lcN (m + n) x = lcN n (lcN m x)
 | 0, n, x => by rw [Nat.zero_add]; rfl
 | m + 1, n, x => by
  rw [show m + 1 + n = (m + n) + 1 by omega]
  show lcN (m + n) (lc x) = lcN n (lcN m (lc x))
  exact lcN_add m n (lc x)

theorem lc_pow (k : Nat) : ∃ p q u v : Int, (∀ x, lcN (2 ^ k) x = p * x + q) ∧ p = 1 + 2 ^ (k + 2) * u ∧ q = 2 ^ k * (1 + 2 * v) := by
 induction k with
 | zero =>
  refine ⟨lcA, lcC, 1591034055961698251, 721347520444481703, fun x => ?_, by decide, by decide⟩
  show lcN 1 x = _
  show x * lcA + lcC = _
  rw [Int.mul_comm]
 | succ k ih =>
  obtain ⟨p, q, u, v, h1, h2, h3⟩ := ih
  refine ⟨p * p, p * q + q, u + 2 ^ (k + 1) * u * u, v + 2 ^ k * u * (1 + 2 * v), fun x => ?_, ?_, ?_⟩
  ·rw [show (2 : Nat) ^ (k + 1) = 2 ^ k + 2 ^ k by rw [Nat.pow_succ]; omega, lcN_add, h1, h1, Int.mul_add, Int.mul_assoc, Int.add_assoc]
  ·have e2 : (2 : Int) ^ (k + 1 + 2) = 2 * 2 ^ (k + 2) := by rw [show k + 1 + 2 = (k + 2) + 1 by omega, Int.pow_succ, Int.mul_comm]
   have e3 : (2 : Int) ^ (k + 2) = 2 * 2 ^ (k + 1) := by rw [Int.pow_succ, Int.mul_comm]
   rw [h2, e2]
   generalize (2 : Int) ^ (k + 2) = t at e3 ⊢
   generalize (2 : Int) ^ (k + 1) = s at e3 ⊢
   subst e3
   grind
  ·have e1 : (2 : Int) ^ (k + 1) = 2 * 2 ^ k := by rw [Int.pow_succ, Int.mul_comm]
   have e2 : (2 : Int) ^ (k + 2) = 4 * 2 ^ k := by rw [Int.pow_succ, Int.pow_succ]; omega
   rw [h2, h3, e1, e2]
   generalize (2 : Int) ^ k = t
   grind

theorem lc_reach (k : Nat) (x y : Int) : ∃ n d, lcN n x = y + 2 ^ k * d := by
 induction k with
 | zero => exact ⟨0, x - y, by show x = _; simp; omega⟩
 | succ k ih =>
  obtain ⟨n, d, h⟩ := ih
  have e1 : (2 : Int) ^ (k + 1) = 2 * 2 ^ k := by rw [Int.pow_succ, Int.mul_comm]
  by_cases hd : d % 2 = 0
  ·refine ⟨n, d / 2, ?_⟩
   rw [h, e1, show d = 2 * (d / 2) by omega]
   rw [Int.mul_left_comm, ← Int.mul_assoc, show 2 * (d / 2) / 2 = d / 2 by omega]
  ·obtain ⟨p, q, u, v, h1, h2, h3⟩ := lc_pow k
   refine ⟨n + 2 ^ k, (1 + d) / 2 + v + 2 * u * (y + 2 ^ k * d), ?_⟩
   have e2 : (2 : Int) ^ (k + 2) = 4 * 2 ^ k := by rw [Int.pow_succ, Int.pow_succ]; omega
   have hd2 : d = 2 * ((1 + d) / 2) - 1 := by omega
   rw [lcN_add, h, h1, h2, h3, e1, e2]
   generalize (1 + d) / 2 = g at hd2 ⊢
   subst hd2
   generalize (2 : Int) ^ k = t
   grind

def lcW (h : Int) : Int := IntKind.wrap .i64 (IntKind.wrap .i64 (h * 6364136223846793005) + 1442695040888963407)
def lcWN : Nat → Int → Int
 | 0, h => h
 | n + 1, h => lcWN n (lcW h)

theorem lcWN_add : ∀ (m n : Nat) (x : Int), lcWN (m + n) x = lcWN n (lcWN m x)
 | 0, n, x => by rw [Nat.zero_add]; rfl
 | m + 1, n, x => by
  rw [show m + 1 + n = (m + n) + 1 by omega]
  show lcWN (m + n) (lcW x) = lcWN n (lcWN m (lcW x))
  exact lcWN_add m n (lcW x)

theorem lcW_range (h : Int) : -9223372036854775808 ≤ lcW h ∧ lcW h ≤ 9223372036854775807 := by
 unfold lcW
 rw [IntKind.wrap_i64]
 omega
theorem wrap_mod (x : Int) : ∃ d, IntKind.wrap .i64 x = x + 18446744073709551616 * d := by
 rw [IntKind.wrap_i64]
 exact ⟨-((x + 9223372036854775808) / 18446744073709551616), by omega⟩
theorem lcW_mod (h : Int) : ∃ d, lcW h = lc h + 18446744073709551616 * d := by
 unfold lcW lc
 obtain ⟨d1, h1⟩ := wrap_mod (h * 6364136223846793005)
 obtain ⟨d2, h2⟩ := wrap_mod (IntKind.wrap .i64 (h * 6364136223846793005) + 1442695040888963407)
 refine ⟨d1 + d2, ?_⟩
 rw [h2, h1]
 show _ = h * 6364136223846793005 + 1442695040888963407 + _
 generalize h * 6364136223846793005 = z
 omega
theorem lcN_mod : ∀ (n : Nat) (x d : Int), ∃ e, lcN n (x + 18446744073709551616 * d) = lcN n x + 18446744073709551616 * e
 | 0, x, d => ⟨d, rfl⟩
 | n + 1, x, d => by
  have e : lc (x + 18446744073709551616 * d) = lc x + 18446744073709551616 * (d * lcA) := by
   unfold lc
   grind
  show ∃ e, lcN n (lc (x + 18446744073709551616 * d)) = lcN n (lc x) + 18446744073709551616 * e
  rw [e]
  exact lcN_mod n (lc x) _
theorem lcWN_mod : ∀ (n : Nat) (h : Int), ∃ d, lcWN n h = lcN n h + 18446744073709551616 * d
 | 0, h => ⟨0, by show h = h + _; omega⟩
 | n + 1, h => by
  obtain ⟨d, hd⟩ := lcWN_mod n (lcW h)
  obtain ⟨d2, h2⟩ := lcW_mod h
  obtain ⟨e, he⟩ := lcN_mod n (lc h) d2
  refine ⟨e + d, ?_⟩
  show lcWN n (lcW h) = lcN n (lc h) + _
  rw [hd, h2, he]
  omega
theorem lc_period (M : Nat) (hM : M = 2 ^ 64) (x : Int) : ∃ d, lcN M x = x + 18446744073709551616 * d := by
 obtain ⟨p, q, u, v, h1, h2, h3⟩ := lc_pow 64
 have e2 : (2 : Int) ^ (64 + 2) = 73786976294838206464 := by decide
 have e3 : (2 : Int) ^ 64 = 18446744073709551616 := by decide
 rw [← hM] at h1
 rw [e2] at h2
 rw [e3] at h3
 refine ⟨4 * u * x + (1 + 2 * v), ?_⟩
 rw [h1, h2, h3]
 grind
theorem lc_periods (M : Nat) (hM : M = 2 ^ 64) (k : Nat) (x : Int) : ∃ d, lcN (M * k) x = x + 18446744073709551616 * d := by
 induction k with
 | zero => exact ⟨0, by rw [Nat.mul_zero]; show x = _; omega⟩
 | succ k ih =>
  obtain ⟨d, hd⟩ := ih
  obtain ⟨d2, h2⟩ := lc_period M hM (x + 18446744073709551616 * d)
  refine ⟨d + d2, ?_⟩
  rw [Nat.mul_succ, lcN_add, hd, h2]
  omega
theorem lcW_reachM (M : Nat) (hM : M = 2 ^ 64) (hM0 : 0 < M) (h y : Int) (h1 : -9223372036854775808 ≤ y) (h2 : y ≤ 9223372036854775807) : ∃ n, 1 ≤ n ∧ n ≤ M ∧ lcWN n h = y := by
 obtain ⟨n, d, hn⟩ := lc_reach 64 h y
 have e3 : (2 : Int) ^ 64 = 18446744073709551616 := by decide
 rw [e3] at hn
 have key : ∀ m, (∃ d, lcN m h = y + 18446744073709551616 * d) → 1 ≤ m → lcWN m h = y := fun m ⟨d, hm⟩ h1m => by
  obtain ⟨d2, hd2⟩ := lcWN_mod m h
  obtain ⟨m, rfl⟩ : ∃ k, m = k + 1 := ⟨m - 1, by omega⟩
  have hr : -9223372036854775808 ≤ lcWN (m + 1) h ∧ lcWN (m + 1) h ≤ 9223372036854775807 := by
   rw [lcWN_add m 1 h]
   exact lcW_range _
  rw [hm] at hd2
  omega
 -- the rest of n
 obtain ⟨d2, hq⟩ := lc_periods M hM (n / M) h
 have hsplit : lcN n h = lcN (n % M) (lcN (M * (n / M)) h) := by
  rw [← lcN_add, Nat.div_add_mod]
 obtain ⟨e, he⟩ := lcN_mod (n % M) h d2
 rw [hsplit, hq, he] at hn
 have hm : lcN (n % M) h = y + 18446744073709551616 * (d - e) := by omega
 rcases Nat.eq_zero_or_pos (n % M) with h0 | h0
 ·rw [h0] at hm
  obtain ⟨d3, h3⟩ := lc_period M hM h
  refine ⟨M, hM0, Nat.le_refl _, key _ ⟨d - e + d3, ?_⟩ hM0⟩
  rw [h3]
  have : h = y + 18446744073709551616 * (d - e) := hm
  omega
 ·exact ⟨n % M, h0, Nat.le_of_lt (Nat.mod_lt _ hM0), key _ ⟨_, hm⟩ h0⟩
theorem lcW_reach (h y : Int) (h1 : -9223372036854775808 ≤ y) (h2 : y ≤ 9223372036854775807) : ∃ n, 1 ≤ n ∧ n ≤ 2 ^ 64 ∧ lcWN n h = y :=
 lcW_reachM (2 ^ 64) rfl (by decide) h y h1 h2

inductive Pg (α : Type) : Type
 | ret (a : α) : Pg α
 | rd (k : Int → Pg α) : Pg α
namespace Pg
def bind {α β : Type} : Pg α → (α → Pg β) → Pg β
 | ret a, f => f a
 | rd k, f => rd fun x => (k x).bind f
def map {α β : Type} (g : α → β) (p : Pg α) : Pg β := p.bind fun a => ret (g a)
inductive Post {α : Type} (P : α → Prop) : Pg α → Prop
 | ret {a : α} (h : P a) : Post P (.ret a)
 | rd {k : Int → Pg α} (h : ∀ x, 0 ≤ x → x ≤ 255 → Post P (k x)) : Post P (.rd k)
inductive Le {α : Type} : Pg α → Nat → Prop
 | ret {a : α} {n : Nat} : Le (.ret a) n
 | rd {k : Int → Pg α} {n : Nat} (h : ∀ x, 0 ≤ x → x ≤ 255 → Le (k x) n) : Le (.rd k) (n + 1)
def One {α : Type} : Pg α → Prop
 | ret _ => False
 | rd _ => True
theorem Le.mono {α : Type} {p : Pg α} {n m : Nat} (h : Le p n) (hm : n ≤ m) : Le p m := by
 induction h generalizing m with
 | ret => exact .ret
 | rd h ih =>
  obtain ⟨m, rfl⟩ : ∃ k, m = k + 1 := ⟨m - 1, by omega⟩
  exact .rd fun x a b => ih x a b (by omega)
theorem Post.imp {α : Type} {P Q : α → Prop} {p : Pg α} (h : Post P p) (hi : ∀ a, P a → Q a) : Post Q p := by
 induction h with
 | ret h => exact .ret (hi _ h)
 | rd h ih => exact .rd ih
theorem Post.bind {α β : Type} {P : α → Prop} {Q : β → Prop} {p : Pg α} {f : α → Pg β} (h : Post P p) (hf : ∀ a, P a → Post Q (f a)) : Post Q (p.bind f) := by
 induction h with
 | ret h => exact hf _ h
 | rd h ih => exact .rd ih
theorem LeP.bind {α β : Type} {P : α → Prop} {p : Pg α} {f : α → Pg β} {n m k : Nat} (hp : Post P p) (h : Le p n) (hf : ∀ a, P a → Le (f a) m) (hk : n + m ≤ k) : Le (p.bind f) k := by
 induction h generalizing k with
 | ret =>
  cases hp with
  | ret hp => exact (hf _ hp).mono (by omega)
 | rd h ih =>
  cases hp with
  | rd hp =>
   obtain ⟨k, rfl⟩ : ∃ j, k = j + 1 := ⟨k - 1, by omega⟩
   exact .rd fun x a b => ih x a b (hp x a b) (by omega)
theorem One.bind {α β : Type} {p : Pg α} {f : α → Pg β} (h : One p) : One (p.bind f) := by
 cases p with
 | ret => cases h
 | rd => trivial

def gen (h : Int) : Int := bits .and .i64 (bits .xor .i64 (Int.fdiv (lcW h) (2 ^ (min 33 64))) (Int.fdiv (lcW h) (2 ^ (min 45 64)))) 255
def cb (b : List UInt8) (i : Nat) (h : Int) : Int := match b[i]? with
 | some e => bits .and .i64 (IntKind.wrap .i64 (gen h + IntKind.wrap .i64 (e.toNat : Int))) 255
 | none => gen h
def nx (b : List UInt8) (i : Nat) : Nat := if i < b.length then i + 1 else i
def run {α : Type} (b : List UInt8) : Pg α → Nat → Int → α × Nat × Int
 | ret a, i, h => (a, i, h)
 | rd k, i, h => run b (k (cb b i h)) (nx b i) (lcW h)
def runH {α : Type} : Pg α → Int → α × Int
 | ret a, h => (a, h)
 | rd k, h => runH (k (gen h)) (lcW h)
theorem run_bind {α β : Type} (b : List UInt8) : ∀ (p : Pg α) (f : α → Pg β) (i : Nat) (h : Int), run b (p.bind f) i h = run b (f (run b p i h).1) (run b p i h).2.1 (run b p i h).2.2
 | ret _, _, _, _ => rfl
 | rd k, f, i, h => run_bind b (k (cb b i h)) f (nx b i) (lcW h)
theorem nx_le {b : List UInt8} {i : Nat} (h : i ≤ b.length) : nx b i ≤ b.length := by unfold nx; split <;> omega
theorem run_le {α : Type} (b : List UInt8) : ∀ (p : Pg α) (i : Nat) (h : Int), i ≤ b.length → (run b p i h).2.1 ≤ b.length
 | ret _, _, _, hi => hi
 | rd k, i, h, hi => run_le b (k (cb b i h)) (nx b i) (lcW h) (nx_le hi)
theorem nx_end (b : List UInt8) : nx b b.length = b.length := by unfold nx; split <;> omega
theorem run_end {α : Type} (b : List UInt8) : ∀ (p : Pg α) (h : Int), run b p b.length h = ((runH p h).1, b.length, (runH p h).2)
 | ret _, _ => rfl
 | rd k, h => by
  have e : cb b b.length h = gen h := by unfold cb; rw [List.getElem?_eq_none (by omega)]
  show run b (k (cb b b.length h)) (nx b b.length) (lcW h) = _
  rw [e, nx_end, run_end b (k (gen h)) (lcW h)]
  rfl
theorem gen_range (h : Int) : 0 ≤ gen h ∧ gen h ≤ 255 := and255 _
theorem cb_range (b : List UInt8) (i : Nat) (h : Int) : 0 ≤ cb b i h ∧ cb b i h ≤ 255 := by
 unfold cb
 split
 ·exact and255 _
 ·exact gen_range h
theorem run_post {α : Type} {P : α → Prop} (b : List UInt8) {p : Pg α} (hp : Post P p) : ∀ (i : Nat) (h : Int), P (run b p i h).1 := by
 induction hp with
 | ret h => intro i h'; exact h
 | rd h ih => intro i h'; exact ih (cb b i h') (cb_range b i h').1 (cb_range b i h').2 (nx b i) (lcW h')
theorem runH_steps {α : Type} {p : Pg α} {n : Nat} (hp : Le p n) : ∀ h : Int, ∃ k, k ≤ n ∧ (runH p h).2 = lcWN k h := by
 induction hp with
 | ret => intro h; exact ⟨0, by omega, rfl⟩
 | rd h ih =>
  intro h'
  obtain ⟨k, h1, h2⟩ := ih (gen h') (gen_range h').1 (gen_range h').2 (lcW h')
  exact ⟨k + 1, by omega, h2⟩
theorem runH_one {α : Type} {p : Pg α} {n : Nat} (hp : Le p n) (ho : One p) (h : Int) : ∃ k, 1 ≤ k ∧ k ≤ n ∧ (runH p h).2 = lcWN k h := by
 cases hp with
 | ret => cases ho
 | rd hk =>
  obtain ⟨k, h1, h2⟩ := runH_steps (hk (gen h) (gen_range h).1 (gen_range h).2) (lcW h)
  exact ⟨k + 1, by omega, by omega, h2⟩
theorem run_far {α : Type} (b : List UInt8) : ∀ (p : Pg α) (i : Nat) (h : Int), i ≤ (run b p i h).2.1
 | ret _, _, _ => Nat.le_refl _
 | rd k, i, h => by
  have := run_far b (k (cb b i h)) (nx b i) (lcW h)
  have h2 : i ≤ nx b i := by unfold nx; split <;> omega
  exact Nat.le_trans h2 this
theorem run_one {α : Type} (b : List UInt8) {p : Pg α} (ho : One p) (i : Nat) (h : Int) (hi : i < b.length) : i < (run b p i h).2.1 := by
 cases p with
 | ret => cases ho
 | rd k =>
  have := run_far b (k (cb b i h)) (nx b i) (lcW h)
  have h2 : nx b i = i + 1 := by unfold nx; rw [if_pos hi]
  rw [h2] at this
  show i < (run b (k (cb b i h)) (nx b i) (lcW h)).2.1
  rw [h2]
  exact this

def loopH {α : Type} (p : Pg α) (ok : α → Bool) : Nat → Int → Option (α × Int)
 | 0, _ => none
 | n + 1, h => bif ok (runH p h).1 then some (runH p h) else loopH p ok n (runH p h).2
def loop {α : Type} (b : List UInt8) (p : Pg α) (ok : α → Bool) : Nat → Nat → Int → Option (α × Nat × Int)
 | 0, _, _ => none
 | n + 1, i, h => bif ok (run b p i h).1 then some (run b p i h) else loop b p ok n (run b p i h).2.1 (run b p i h).2.2
theorem loop_end {α : Type} (b : List UInt8) (p : Pg α) (ok : α → Bool) : ∀ (n : Nat) (h : Int), (loopH p ok n h).isSome = true → (loop b p ok n b.length h).isSome = true
 | 0, _, hs => by cases hs
 | n + 1, h, hs => by
  rw [loopH] at hs
  rw [loop, run_end]
  dsimp only
  cases hc : ok (runH p h).1 with
  | true => rfl
  | false => rw [hc, cond_false] at hs; rw [cond_false]; exact loop_end b p ok n (runH p h).2 hs
theorem loopH_mono {α : Type} (p : Pg α) (ok : α → Bool) : ∀ (n m : Nat) (h : Int), n ≤ m → (loopH p ok n h).isSome = true → (loopH p ok m h).isSome = true
 | 0, _, _, _, hs => by cases hs
 | n + 1, 0, _, hm, _ => by omega
 | n + 1, m + 1, h, hm, hs => by
  rw [loopH] at hs ⊢
  cases hc : ok (runH p h).1 with
  | true => rfl
  | false => rw [hc, cond_false] at hs; rw [cond_false]; exact loopH_mono p ok n m _ (by omega) hs
def allFrom {α : Type} (p : Pg α) (ok : α → Bool) (F : Nat) : Nat → Int → Bool
 | 0, _ => true
 | n + 1, h => (loopH p ok F h).isSome && allFrom p ok F n (lcW h)
theorem allFrom_get {α : Type} (p : Pg α) (ok : α → Bool) (F : Nat) : ∀ (n : Nat) (h : Int) (k : Nat), allFrom p ok F n h = true → k < n → (loopH p ok F (lcWN k h)).isSome = true
 | 0, _, _, _, hk => by omega
 | n + 1, h, 0, ha, _ => by
  rw [allFrom, Bool.and_eq_true] at ha
  exact ha.1
 | n + 1, h, k + 1, ha, hk => by
  rw [allFrom, Bool.and_eq_true] at ha
  exact allFrom_get p ok F n (lcW h) k ha.2 (by omega)
theorem allFrom_app {α : Type} (p : Pg α) (ok : α → Bool) (F : Nat) : ∀ (n m : Nat) (h : Int), allFrom p ok F n h = true → allFrom p ok F m (lcWN n h) = true → allFrom p ok F (n + m) h = true
 | 0, m, h, _, h2 => by rw [Nat.zero_add]; exact h2
 | n + 1, m, h, h1, h2 => by
  rw [show n + 1 + m = (n + m) + 1 by omega, allFrom, Bool.and_eq_true]
  rw [allFrom, Bool.and_eq_true] at h1
  exact ⟨h1.1, allFrom_app p ok F n m (lcW h) h1.2 h2⟩
theorem loopH_near {α : Type} {p : Pg α} {ok : α → Bool} {B F : Nat} {h0 : Int} (hB : Le p B) (ho : One p) (ha : allFrom p ok F (B + 1) h0 = true) : ∀ (n : Nat) (h : Int), lcWN n h = h0 → (loopH p ok (n + F + 1) h).isSome = true := by
 intro n
 induction n using Nat.strongRecOn with
 | _ n ih =>
  intro h hn
  rw [loopH]
  cases ok (runH p h).1 with
  | true => rfl
  | false =>
   rw [cond_false]
   obtain ⟨k, k1, k2, k3⟩ := runH_one hB ho h
   rw [k3]
   by_cases hk : k ≤ n
   ·have e : lcWN (n - k) (lcWN k h) = h0 := by rw [← lcWN_add, show k + (n - k) = n by omega]; exact hn
    exact loopH_mono p ok _ _ _ (by omega) (ih (n - k) (by omega) (lcWN k h) e)
   ·have e : lcWN k h = lcWN (k - n) h0 := by rw [← hn, ← lcWN_add, show n + (k - n) = k by omega]
    rw [e]
    exact loopH_mono p ok F _ _ (by omega) (allFrom_get p ok F (B + 1) h0 (k - n) ha (by omega))
theorem loop_some {α : Type} {p : Pg α} {ok : α → Bool} {B F : Nat} {h0 : Int} (hB : Le p B) (ho : One p) (ha : allFrom p ok F (B + 1) h0 = true) (h1 : -9223372036854775808 ≤ h0) (h2 : h0 ≤ 9223372036854775807) (b : List UInt8) (M : Nat) (hM : 18446744073709551616 + F + 1 ≤ M) : ∀ (d i n : Nat) (h : Int), b.length - i = d → i ≤ b.length → M + d ≤ n → (loop b p ok n i h).isSome = true := by
 intro d
 induction d using Nat.strongRecOn with
 | _ d ih =>
  intro i n h hd hi hn
  by_cases hlt : i < b.length
  ·obtain ⟨n, rfl⟩ : ∃ k, n = k + 1 := ⟨n - 1, by omega⟩
   rw [loop]
   cases ok (run b p i h).1 with
   | true => rfl
   | false =>
    rw [cond_false]
    have g1 := run_one b ho i h hlt
    have g2 := run_le b p i h hi
    exact ih (b.length - (run b p i h).2.1) (by omega) _ n _ rfl g2 (by omega)
  ·have e : i = b.length := by omega
   subst e
   obtain ⟨k, _, k2, k3⟩ := lcW_reach h h0 h1 h2
   have e3 : (2 : Nat) ^ 64 = 18446744073709551616 := by decide
   rw [e3] at k2
   exact loop_end b p ok n h (loopH_mono p ok _ _ _ (by omega) (loopH_near hB ho ha k h k3))
theorem loop_ok {α : Type} (b : List UInt8) {P : α → Prop} {p : Pg α} (hp : Post P p) (ok : α → Bool) : ∀ (n i : Nat) (h : Int) (r : α × Nat × Int), i ≤ b.length → loop b p ok n i h = some r → P r.1 ∧ ok r.1 = true ∧ r.2.1 ≤ b.length
 | 0, _, _, _, _, e => by cases e
 | n + 1, i, h, r, hi, e => by
  rw [loop] at e
  cases ho : ok (run b p i h).1 with
  | true =>
   rw [ho, cond_true] at e
   cases e
   exact ⟨run_post b hp i h, ho, run_le b p i h hi⟩
  | false =>
   rw [ho, cond_false] at e
   exact loop_ok b hp ok n _ _ r (run_le b p i h hi) e
end Pg

def Sm {α β : Type} (b : List UInt8) (p : Pg α) (f : α → β) (i : Nat) (h : Int) (x : Option (β × Int × Int)) : Prop := x = some (f (Pg.run b p i h).1, ((Pg.run b p i h).2.1 : Int), (Pg.run b p i h).2.2)
theorem Sm.ret {α β : Type} {b : List UInt8} {a : α} {f : α → β} {i : Nat} {h : Int} : Sm b (.ret a) f i h (some (f a, (i : Int), h)) := rfl
theorem Sm.bind {α β γ δ : Type} {b : List UInt8} {p : Pg α} {f : α → β} {q : α → Pg γ} {g : γ → δ} {P : α → Prop} {i : Nat} {h : Int} {x : Option (β × Int × Int)} {y : β × Int × Int → Option (δ × Int × Int)} (hi : i ≤ b.length) (hp : Pg.Post P p) (hx : Sm b p f i h x) (hy : ∀ a (i : Nat) h, P a → i ≤ b.length → Sm b (q a) g i h (y (f a, (i : Int), h))) : Sm b (p.bind q) g i h (Option.bind x y) := by
 unfold Sm at hx hy ⊢
 rw [hx, oBs, Pg.run_bind]
 exact hy _ _ _ (Pg.run_post b hp i h) (Pg.run_le b p i h hi)
theorem Sm.id3 {α β : Type} {b : List UInt8} {p : Pg α} {f : α → β} {i : Nat} {h : Int} {x : Option (β × Int × Int)} (hx : Sm b p f i h x) : Sm b p f i h (Option.bind x fun r => some (r.1, r.2.1, r.2.2)) := by
 unfold Sm at hx ⊢
 rw [hx]
 rfl
theorem Sm.cond {α β : Type} {b : List UInt8} {p q : Pg α} {f : α → β} {i : Nat} {h : Int} {c : Bool} {x y : Option (β × Int × Int)} (hx : c = true → Sm b p f i h x) (hy : c = false → Sm b q f i h y) : Sm b (bif c then p else q) f i h (bif c then x else y) := by
 cases c
 ·exact hy rfl
 ·exact hx rfl
theorem Sm.dr {α β : Type} {b : List UInt8} {p : Pg α} {f : α → β} {P : α → Prop} {Q : β → Prop} {i : Nat} {h : Int} {x : Option (β × Int × Int)} (hi : i ≤ b.length) (hx : Sm b p f i h x) (hp : Pg.Post P p) (hq : ∀ a, P a → Q (f a)) : Dr b Q x :=
 ⟨_, _, _, hx, hq _ (Pg.run_post b hp i h), by omega, by have := Pg.run_le b p i h hi; omega⟩

end Go.Proofs.Tryz

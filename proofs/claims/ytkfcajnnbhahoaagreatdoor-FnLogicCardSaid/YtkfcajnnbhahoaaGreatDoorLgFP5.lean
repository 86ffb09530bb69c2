/-
 Plain lemmas on the models, part 5.
-/
import Derived.Test.YtkfcajnnbhahoaaGreatDoorLgFP4
namespace Go.Proofs.Tryz
open Go.Av
set_option maxRecDepth 100000
set_option linter.unusedSimpArgs false
set_option linter.unusedVariables false

def belowP (n : Int) : Pg Int := bif decide (n ≤ 0) then .ret 0 else bif decide (n ≤ 256) then .rd fun x => .ret (Int.tmod x n) else .rd fun x => .rd fun y => .rd fun z => .rd fun w => .ret (Int.tmod (IntKind.wrap .i64 ((IntKind.wrap .i64 ((IntKind.wrap .i64 ((IntKind.wrap .i64 (x * 16777216)) + (IntKind.wrap .i64 (y * 65536)))) + (IntKind.wrap .i64 (z * 256)))) + w)) n)
def onceP (n : Int) : Pg Bool := (belowP n).bind fun r => .ret (r == 0)
def pickP (l : List (List UInt8)) : Pg (List UInt8) := (belowP (l.length : Int)).bind fun r => .ret (l[r.toNat]?.getD [])
def pickIntP (l : List Int) : Pg Int := (belowP (l.length : Int)).bind fun r => .ret (l[r.toNat]?.getD 0)
def numP : Pg (List UInt8) := pickP [[48], [49], [52, 50], [51, 46, 53], [46, 53], [55, 46], [49, 101, 51], [50, 69, 45, 52], [49, 48, 46, 50, 53, 101, 43, 49]]
def strP : Pg (List UInt8) := pickP [[34, 34], [34, 97, 34], [34, 120, 32, 121, 34], [34, 113, 92, 34, 113, 34], [34, 92, 110, 34], [34, 35, 110, 111, 34], [34, 47, 34]]
def ereP : Pg (List UInt8) := pickP [[47, 97, 47], [47, 94, 120, 43, 36, 47], [47, 97, 92, 47, 98, 47], [47, 61, 47], [47, 32, 47], [47, 91, 48, 45, 57, 93, 47]]
def wordP : Pg (List UInt8) := pickP [[120], [121], [110], [105], [97, 114, 114], [78, 82], [70, 83], [116, 111, 116, 97, 108], [97, 49], [95, 116], [99, 111, 117, 110, 116]]
def binopP : Pg Int := pickIntP [60, 57, 58, 59, 55, 56, 56, 99, 99, 99, 63, 48, 47, 50, 62, 62, 49, 67, 46, 45, 44]

theorem below_post (n : Int) : Pg.Post (fun r => 0 ≤ r ∧ (r < n ∨ n ≤ 0 ∧ r = 0)) (belowP n) := by
 unfold belowP
 cases h1 : decide (n ≤ 0) with
 | true => exact .ret ⟨by omega, .inr ⟨of_decide_eq_true h1, rfl⟩⟩
 | false =>
  have h1 := of_decide_eq_false h1
  cases decide (n ≤ 256) with
  | true => exact .rd fun x hx _ => .ret ⟨Int.tmod_nonneg _ hx, .inl (Int.tmod_lt_of_pos _ (by omega))⟩
  | false =>
   refine .rd fun x hx hx2 => .rd fun y hy hy2 => .rd fun z hz hz2 => .rd fun w hw hw2 => .ret ⟨Int.tmod_nonneg _ ?_, .inl (Int.tmod_lt_of_pos _ (by omega))⟩
   rw [wrap64 (n := x * 16777216) (by omega) (by omega), wrap64 (n := y * 65536) (by omega) (by omega), wrap64 (n := x * 16777216 + y * 65536) (by omega) (by omega), wrap64 (n := z * 256) (by omega) (by omega), wrap64 (n := x * 16777216 + y * 65536 + z * 256) (by omega) (by omega), wrap64 (by omega) (by omega)]
   omega
theorem below_le (n : Int) (h : n ≤ 256) : Pg.Le (belowP n) 1 := by
 unfold belowP
 cases decide (n ≤ 0) with
 | true => exact .ret
 | false => rw [decide_eq_true h]; exact .rd fun _ _ _ => .ret
theorem once_post (n : Int) : Pg.Post (fun _ => True) (onceP n) := (below_post n).bind fun _ _ => .ret trivial
theorem once_le (n : Int) (h : n ≤ 256) : Pg.Le (onceP n) 1 := Pg.LeP.bind (below_post n) (below_le n h) (m := 0) (fun _ _ => .ret) (by omega)
theorem pick_post {P : List UInt8 → Prop} (l : List (List UInt8)) (hl : 0 < l.length) (h : ∀ x, x ∈ l → P x) : Pg.Post P (pickP l) := (below_post _).bind fun r hr => .ret (by
 have hn : r.toNat < l.length := by omega
 rw [List.getElem?_eq_getElem hn]
 exact h _ (List.getElem_mem hn))
theorem pick_le' (l : List (List UInt8)) (h : l.length ≤ 256) : Pg.Le (pickP l) 1 := Pg.LeP.bind (below_post _) (below_le _ (by omega)) (m := 0) (fun _ _ => .ret) (by omega)
theorem pickInt_post {P : Int → Prop} (l : List Int) (hl : 0 < l.length) (h : ∀ x, x ∈ l → P x) : Pg.Post P (pickIntP l) := (below_post _).bind fun r hr => .ret (by
 have hn : r.toNat < l.length := by omega
 rw [List.getElem?_eq_getElem hn]
 exact h _ (List.getElem_mem hn))
theorem pickInt_le (l : List Int) (h : l.length ≤ 256) : Pg.Le (pickIntP l) 1 := Pg.LeP.bind (below_post _) (below_le _ (by omega)) (m := 0) (fun _ _ => .ret) (by omega)
abbrev Sh (x : List UInt8) : Prop := x.length ≤ 20
theorem pick_sh (l : List (List UInt8)) (hl : 0 < l.length) (h : (l.all fun x => decide (x.length ≤ 20)) = true) : Pg.Post Sh (pickP l) := pick_post l hl fun x hx => of_decide_eq_true (List.all_eq_true.1 h x hx)
theorem num_post : Pg.Post Sh numP := pick_sh _ (by decide) (by decide)
theorem str_post : Pg.Post Sh strP := pick_sh _ (by decide) (by decide)
theorem ere_post : Pg.Post Sh ereP := pick_sh _ (by decide) (by decide)
theorem word_post : Pg.Post Sh wordP := pick_sh _ (by decide) (by decide)
theorem binop_post : Pg.Post (fun _ => True) binopP := pickInt_post _ (by decide) fun _ _ => trivial
theorem num_le : Pg.Le numP 1 := pick_le' _ (by decide)
theorem str_le : Pg.Le strP 1 := pick_le' _ (by decide)
theorem ere_le : Pg.Le ereP 1 := pick_le' _ (by decide)
theorem word_le : Pg.Le wordP 1 := pick_le' _ (by decide)
theorem binop_le : Pg.Le binopP 1 := pickInt_le _ (by decide)

section
variable (b : List UInt8) (hb : b.length ≤ 1048576)
include hb
theorem byte_sm (i : Nat) (h : Int) (hi : i ≤ b.length) : Sm b (.rd .ret) (fun x => x) i h (ms_l1Byte b (i : Int) h) := by
 unfold ms_l1Byte ms_l1Byte_k1 Sm
 show _ = some (Pg.cb b i h, ((Pg.nx b i : Nat) : Int), lcW h)
 unfold Pg.cb Pg.nx
 by_cases hlt : i < b.length
 ·simp only [lt_true hlt, cond_true, ix_nat hlt, oBs, List.getElem?_eq_getElem hlt, if_pos hlt]
  rw [wrap64 (n := (i : Int) + 1) (by omega) (by omega)]
  rfl
 ·simp only [lt_false hlt, cond_false, List.getElem?_eq_none (show b.length ≤ i by omega), if_neg hlt]
  rfl
theorem below_sm (n : Int) (i : Nat) (h : Int) (hi : i ≤ b.length) : Sm b (belowP n) (fun x => x) i h (ms_l1Below n b (i : Int) h) := by
 unfold ms_l1Below belowP
 have hp : Pg.Post (fun x : Int => 0 ≤ x ∧ x ≤ 255) (.rd .ret) := .rd fun x h1 h2 => .ret ⟨h1, h2⟩
 refine Sm.cond (fun _ => Sm.ret) fun hc => Sm.cond (fun _ => ?_) fun _ => ?_
 ·have hc := of_decide_eq_false hc
  have hn : (n == 0) = false := by simp; omega
  refine Sm.bind (p := .rd .ret) (q := fun x => .ret (Int.tmod x n)) hi hp (byte_sm b hb i h hi) fun x i h _ _ => ?_
  unfold remO
  simp only [hn, cond_false, oBs]
  exact Sm.ret
 ·have hc := of_decide_eq_false hc
  have hn : (n == 0) = false := by simp; omega
  refine Sm.bind (p := .rd .ret) (q := fun x => .rd fun y => .rd fun z => .rd fun w => .ret (Int.tmod (IntKind.wrap .i64 ((IntKind.wrap .i64 ((IntKind.wrap .i64 ((IntKind.wrap .i64 (x * 16777216)) + (IntKind.wrap .i64 (y * 65536)))) + (IntKind.wrap .i64 (z * 256)))) + w)) n)) hi hp (byte_sm b hb i h hi) fun x i h _ hi => ?_
  dsimp only
  refine Sm.bind (p := .rd .ret) (q := fun y => .rd fun z => .rd fun w => .ret (Int.tmod (IntKind.wrap .i64 ((IntKind.wrap .i64 ((IntKind.wrap .i64 ((IntKind.wrap .i64 (x * 16777216)) + (IntKind.wrap .i64 (y * 65536)))) + (IntKind.wrap .i64 (z * 256)))) + w)) n)) hi hp (byte_sm b hb i h hi) fun y i h _ hi => ?_
  dsimp only
  refine Sm.bind (p := .rd .ret) (q := fun z => .rd fun w => .ret (Int.tmod (IntKind.wrap .i64 ((IntKind.wrap .i64 ((IntKind.wrap .i64 ((IntKind.wrap .i64 (x * 16777216)) + (IntKind.wrap .i64 (y * 65536)))) + (IntKind.wrap .i64 (z * 256)))) + w)) n)) hi hp (byte_sm b hb i h hi) fun z i h _ hi => ?_
  dsimp only
  refine Sm.bind (p := .rd .ret) (q := fun w => .ret (Int.tmod (IntKind.wrap .i64 ((IntKind.wrap .i64 ((IntKind.wrap .i64 ((IntKind.wrap .i64 (x * 16777216)) + (IntKind.wrap .i64 (y * 65536)))) + (IntKind.wrap .i64 (z * 256)))) + w)) n)) hi hp (byte_sm b hb i h hi) fun w i h _ hi => ?_
  dsimp only
  unfold remO
  simp only [hn, cond_false, oBs]
  exact Sm.ret
theorem once_sm (n : Int) (i : Nat) (h : Int) (hi : i ≤ b.length) : Sm b (onceP n) (fun x => x) i h (ms_l1Once n b (i : Int) h) := by
 unfold ms_l1Once onceP
 exact Sm.bind hi (below_post n) (below_sm b hb n i h hi) fun r i h _ hi => Sm.ret
theorem pick_sm (l : List (List UInt8)) (hl : 0 < l.length) (i : Nat) (h : Int) (hi : i ≤ b.length) : Sm b (pickP l) (fun x => x) i h (ms_l1Pick l b (i : Int) h) := by
 unfold ms_l1Pick pickP
 refine Sm.bind hi (below_post _) (below_sm b hb _ i h hi) fun r i h hr hi => ?_
 obtain ⟨n, rfl⟩ := Int.eq_ofNat_of_zero_le hr.1
 have hn : n < l.length := by rcases hr.2 with h | h <;> omega
 have e : ix l (n : Int) = some l[n] := ix_nat hn
 dsimp only
 rw [e, oBs, show Int.toNat ((n : Nat) : Int) = n from rfl, List.getElem?_eq_getElem hn]
 exact Sm.ret
theorem pickInt_sm (l : List Int) (hl : 0 < l.length) (i : Nat) (h : Int) (hi : i ≤ b.length) : Sm b (pickIntP l) (fun x => x) i h (ms_l1PickInt l b (i : Int) h) := by
 unfold ms_l1PickInt pickIntP
 refine Sm.bind hi (below_post _) (below_sm b hb _ i h hi) fun r i h hr hi => ?_
 obtain ⟨n, rfl⟩ := Int.eq_ofNat_of_zero_le hr.1
 have hn : n < l.length := by rcases hr.2 with h | h <;> omega
 have e : ix l (n : Int) = some l[n] := ix_nat hn
 dsimp only
 rw [e, oBs, show Int.toNat ((n : Nat) : Int) = n from rfl, List.getElem?_eq_getElem hn]
 exact Sm.ret
theorem num_sm (i : Nat) (h : Int) (hi : i ≤ b.length) : Sm b numP (fun x => x) i h (ms_l4Num b (i : Int) h) := Sm.id3 (pick_sm b hb _ (by decide) i h hi)
theorem str_sm (i : Nat) (h : Int) (hi : i ≤ b.length) : Sm b strP (fun x => x) i h (ms_l4Str b (i : Int) h) := Sm.id3 (pick_sm b hb _ (by decide) i h hi)
theorem ere_sm (i : Nat) (h : Int) (hi : i ≤ b.length) : Sm b ereP (fun x => x) i h (ms_l4Ere b (i : Int) h) := Sm.id3 (pick_sm b hb _ (by decide) i h hi)
theorem word_sm (i : Nat) (h : Int) (hi : i ≤ b.length) : Sm b wordP (fun x => x) i h (ms_l2Word b (i : Int) h) := Sm.id3 (pick_sm b hb _ (by decide) i h hi)
theorem binop_sm (i : Nat) (h : Int) (hi : i ≤ b.length) : Sm b binopP (fun x => x) i h (ms_l7BinOp b (i : Int) h) := Sm.id3 (pickInt_sm b hb _ (by decide) i h hi)
end

def ShN (x : SNode) : Prop := x.Text.length ≤ 20 ∧ x.Other.length ≤ 20
def shT (t : STree) : Prop := ∀ x, x ∈ lst 0 t → ShN x
theorem shT_lst {t : STree} (h : shT t) (b : Nat) : ∀ x, x ∈ lst b t → ShN x := fun x hx => by
 have e := lst_sh t 0 b
 rw [Nat.zero_add] at e
 rw [e] at hx
 obtain ⟨y, hy, rfl⟩ := List.mem_map.1 hx
 exact h y hy
theorem shTs {ts : List STree} (h : ∀ t, t ∈ ts → shT t) : ∀ (b : Nat) x, x ∈ lsts b ts → ShN x := by
 induction ts with
 | nil => intro b x hx; rw [lsts] at hx; cases hx
 | cons t ts ih =>
  intro b x hx
  rw [lsts] at hx
  rcases List.mem_append.1 hx with hx | hx
  ·exact shT_lst (h t (by simp)) b x hx
  ·exact ih (fun t' h' => h t' (by simp [h'])) _ x hx
def Gd (m d : Nat) (t : STree) : Prop := szT t ≤ m ∧ depT t ≤ d ∧ shT t
theorem Gd.mono {m d m' d' : Nat} {t : STree} (h : Gd m d t) (hm : m ≤ m') (hd : d ≤ d') : Gd m' d' t := ⟨Nat.le_trans h.1 hm, Nat.le_trans h.2.1 hd, h.2.2⟩
theorem Gd.mk {m d : Nat} {k o : Int} {x y : List UInt8} {ts : List STree} (hx : Sh x) (hy : Sh y) (hs : szTs ts + 1 ≤ m) (hd : depTs ts + 1 ≤ d) (h : ∀ t, t ∈ ts → shT t) : Gd m d ⟨k, o, x, y, ts⟩ := by
 refine ⟨by rw [szT]; exact hs, by rw [depT]; exact hd, fun n hn => ?_⟩
 rw [lst] at hn
 rcases List.mem_append.1 hn with hn | hn
 ·exact shTs h 0 n hn
 ·rw [List.mem_singleton.1 hn]
  exact ⟨hx, hy⟩
theorem Gds {m d : Nat} : ∀ {ts : List STree}, (∀ t, t ∈ ts → Gd m d t) → szTs ts ≤ ts.length * m ∧ depTs ts ≤ d ∧ ∀ t, t ∈ ts → shT t
 | [], _ => ⟨by simp [szTs], by simp [depTs], fun t ht => by cases ht⟩
 | t :: ts, h => by
  obtain ⟨h1, h2, h3⟩ := Gds (ts := ts) fun t' ht' => h t' (by simp [ht'])
  obtain ⟨g1, g2, g3⟩ := h t (by simp)
  refine ⟨by simp only [szTs, List.length_cons, Nat.add_mul]; omega, by simp only [depTs]; omega, fun t' ht' => ?_⟩
  rcases List.mem_cons.1 ht' with rfl | ht'
  ·exact g3
  ·exact h3 t' ht'
def repP {α : Type} (p : Pg α) : Nat → Pg (List α)
 | 0 => .ret []
 | n + 1 => p.bind fun a => (repP p n).bind fun zs => .ret (a :: zs)
theorem rep_post {α : Type} {P : α → Prop} {p : Pg α} (h : Pg.Post P p) : ∀ n, Pg.Post (fun zs => zs.length = n ∧ ∀ a, a ∈ zs → P a) (repP p n)
 | 0 => .ret ⟨rfl, fun a h => by cases h⟩
 | n + 1 => h.bind fun a ha => (rep_post h n).bind fun zs has => .ret ⟨by simp [has.1], fun x hx => by
  rcases List.mem_cons.1 hx with rfl | hx
  ·exact ha
  ·exact has.2 x hx⟩
theorem rep_le {α : Type} {P : α → Prop} {p : Pg α} (h : Pg.Post P p) {B : Nat} (hB : Pg.Le p B) : ∀ n, Pg.Le (repP p n) (n * B)
 | 0 => .ret
 | n + 1 => Pg.LeP.bind h hB (m := n * B) (fun a _ => Pg.LeP.bind (rep_post h n) (rep_le h hB n) (m := 0) (fun _ _ => .ret) (by omega)) (by rw [Nat.add_mul]; omega)

def leafW : Pg STree := wordP.bind fun x => .ret ⟨1, 0, x, [], []⟩
def leafP : Pg STree := (belowP 7).bind fun r => bif r == 0 then numP.bind fun x => .ret ⟨2, 0, x, [], []⟩ else bif r == 1 then strP.bind fun x => .ret ⟨3, 0, x, [], []⟩ else bif r == 2 then (onceP 2).bind fun o => bif o then ereP.bind fun x => .ret ⟨4, 0, x, [], []⟩ else leafW else leafW
def lvOf (e1 e2 : Pg STree) : Pg STree := (belowP 4).bind fun r => bif r == 0 then wordP.bind fun x => e1.bind fun t => .ret ⟨5, 0, x, [], [t]⟩ else bif r == 1 then e2.bind fun t => .ret ⟨6, 0, [], [], [t]⟩ else leafW
def listP (lo hi : Int) (e : Pg STree) : Pg (List STree) := (belowP (hi - lo + 1)).bind fun r => repP e (lo + r).toNat
def stepK (e1 e2 e3 : Pg STree) (r : Int) (y : Bool) : Pg STree := bif y then (pickIntP [56, 55, 61]).bind fun o => e1.bind fun t => .ret ⟨11, o, [], [], [t]⟩ else bif r == 9 then wordP.bind fun x => (listP 1 2 e1).bind fun ts => .ret ⟨13, 0, x, [], ts⟩ else bif r == 10 then e1.bind fun t => e1.bind fun u => e1.bind fun v => .ret ⟨14, 0, [], [], [t, u, v]⟩ else bif r == 11 then (pickIntP [54, 38, 43]).bind fun o => (lvOf e2 e3).bind fun t => e1.bind fun u => .ret ⟨15, o, [], [], [t, u]⟩ else binopP.bind fun o => e1.bind fun t => e1.bind fun u => .ret ⟨12, o, [], [], [t, u]⟩
def stepP (e1 e2 e3 : Pg STree) : Pg STree := (belowP 2).bind fun a => (belowP 16).bind fun r => bif r == 0 then leafP else bif r == 1 then lvOf e1 e2 else bif r == 2 then e1.bind fun t => .ret ⟨6, 0, [], [], [t]⟩ else bif r == 3 then wordP.bind fun x => (listP 0 3 e1).bind fun ts => .ret ⟨7, 0, x, [], ts⟩ else bif r == 4 then (pickP [[108, 101, 110, 103, 116, 104], [115, 117, 98, 115, 116, 114], [105, 110, 100, 101, 120], [105, 110, 116], [116, 111, 117, 112, 112, 101, 114]]).bind fun x => (listP 0 3 e2).bind fun ts => .ret ⟨8, 0, x, [], ts⟩ else bif r == 5 then (lvOf e2 e3).bind fun t => .ret ⟨9, 51 + a, [], [], [t]⟩ else bif r == 6 then (lvOf e2 e3).bind fun t => .ret ⟨10, 51 + a, [], [], [t]⟩ else bif r == 7 then stepK e1 e2 e3 r (r == 7) else stepK e1 e2 e3 r (r == 8)
def eP3 : Nat → Pg STree × Pg STree × Pg STree
 | 0 => (leafP, leafP, leafP)
 | d + 1 => (stepP (eP3 d).1 (eP3 d).2.1 (eP3 d).2.2, (eP3 d).1, (eP3 d).2.1)
def exprP (d : Nat) : Pg STree := (eP3 d).1
theorem eP3_2 : ∀ d, (eP3 d).2.1 = exprP (d - 1)
 | 0 => rfl
 | d + 1 => rfl
theorem eP3_3 : ∀ d, (eP3 d).2.2 = exprP (d - 2)
 | 0 => rfl
 | 1 => rfl
 | d + 2 => rfl
theorem exprP_succ (d : Nat) : exprP (d + 1) = stepP (exprP d) (exprP (d - 1)) (exprP (d - 2)) := by
 rw [← eP3_2, ← eP3_3]
 rfl

def dpE (d : Nat) : Nat := if d = 0 then 1 else d + 2
def eb : Nat → Nat
 | 0 => 3
 | d + 1 => 3 * eb d + 4
theorem eb_le {a c : Nat} (h : a ≤ c) : eb a ≤ eb c := by
 induction c with
 | zero => rw [show a = 0 by omega]; exact Nat.le_refl _
 | succ c ih =>
  by_cases e : a = c + 1
  ·rw [e]; exact Nat.le_refl _
  ·have := ih (by omega)
   rw [eb]; omega
theorem pw_le {a c : Nat} (h : a ≤ c) : pw a ≤ pw c := by
 induction c with
 | zero => rw [show a = 0 by omega]; exact Nat.le_refl _
 | succ c ih =>
  by_cases e : a = c + 1
  ·rw [e]; exact Nat.le_refl _
  ·have := ih (by omega)
   rw [pw]; omega
theorem sh_nil : Sh ([] : List UInt8) := by simp
theorem leafW_post : Pg.Post (Gd 1 1) leafW := word_post.bind fun x hx => .ret (Gd.mk hx sh_nil (by simp [szTs]) (by simp [depTs]) fun t ht => by cases ht)
theorem leafW_le : Pg.Le leafW 1 := Pg.LeP.bind word_post word_le (m := 0) (fun _ _ => .ret) (by omega)
theorem postB {α : Type} {P : α → Prop} {c : Bool} {p q : Pg α} (hp : Pg.Post P p) (hq : Pg.Post P q) : Pg.Post P (bif c then p else q) := by cases c <;> assumption
theorem leB {α : Type} {n : Nat} {c : Bool} {p q : Pg α} (hp : Pg.Le p n) (hq : Pg.Le q n) : Pg.Le (bif c then p else q) n := by cases c <;> assumption
theorem one_post {p : Pg (List UInt8)} (h : Pg.Post Sh p) (k : Int) : Pg.Post (Gd 1 1) (p.bind fun x => .ret ⟨k, 0, x, [], []⟩) := h.bind fun x hx => .ret (Gd.mk hx sh_nil (by simp [szTs]) (by simp [depTs]) fun t ht => by cases ht)
theorem leaf_post : Pg.Post (Gd 1 1) leafP := (below_post 7).bind fun r _ => postB (one_post num_post 2) (postB (one_post str_post 3) (postB ((once_post 2).bind fun o _ => postB (one_post ere_post 4) leafW_post) leafW_post))
theorem bind0 {α β : Type} {P : α → Prop} {p : Pg α} {f : α → β} {n : Nat} (hp : Pg.Post P p) (h : Pg.Le p n) : Pg.Le (p.bind fun a => .ret (f a)) n := Pg.LeP.bind hp h (m := 0) (fun _ _ => .ret) (by omega)
theorem leaf_le : Pg.Le leafP 3 := Pg.LeP.bind (below_post 7) (below_le 7 (by omega)) (m := 2) (fun r _ => leB ((bind0 num_post num_le).mono (by omega)) (leB ((bind0 str_post str_le).mono (by omega)) (leB (Pg.LeP.bind (once_post 2) (once_le 2 (by omega)) (m := 1) (fun o _ => leB (bind0 ere_post ere_le) leafW_le) (by omega)) (leafW_le.mono (by omega))))) (by omega)
theorem lv_post {e1 e2 : Pg STree} {m d : Nat} (h1 : Pg.Post (Gd m d) e1) (h2 : Pg.Post (Gd m d) e2) (hm : 1 ≤ m) : Pg.Post (Gd (m + 1) (d + 1)) (lvOf e1 e2) := by
 refine (below_post 4).bind fun r _ => postB (word_post.bind fun x hx => h1.bind fun t ht => .ret ?_) (postB (h2.bind fun t ht => .ret ?_) (leafW_post.imp fun t ht => ht.mono (by omega) (by omega)))
 ·exact Gd.mk hx sh_nil (by have := ht.1; simp only [szTs]; omega) (by have := ht.2.1; simp only [depTs]; omega) fun t' ht' => by rw [List.mem_singleton.1 ht']; exact ht.2.2
 ·exact Gd.mk sh_nil sh_nil (by have := ht.1; simp only [szTs]; omega) (by have := ht.2.1; simp only [depTs]; omega) fun t' ht' => by rw [List.mem_singleton.1 ht']; exact ht.2.2
theorem lv_le {e1 e2 : Pg STree} {P Q : STree → Prop} {n : Nat} (h1 : Pg.Post P e1) (h2 : Pg.Post Q e2) (g1 : Pg.Le e1 n) (g2 : Pg.Le e2 n) : Pg.Le (lvOf e1 e2) (n + 2) :=
 Pg.LeP.bind (below_post 4) (below_le 4 (by omega)) (m := n + 1) (fun r _ => leB (Pg.LeP.bind word_post word_le (m := n) (fun x _ => bind0 h1 g1) (by omega)) (leB ((bind0 h2 g2).mono (by omega)) (leafW_le.mono (by omega)))) (by omega)
theorem list_post {e : Pg STree} {m d : Nat} (h : Pg.Post (Gd m d) e) (lo hi : Nat) (hl : lo ≤ hi) : Pg.Post (fun ts => lo ≤ ts.length ∧ ts.length ≤ hi ∧ szTs ts ≤ hi * m ∧ depTs ts ≤ d ∧ ∀ t, t ∈ ts → shT t) (listP (lo : Int) (hi : Int) e) := by
 refine (below_post _).bind fun r hr => (rep_post h _).imp fun ts hts => ?_
 obtain ⟨g1, g2, g3⟩ := Gds hts.2
 have hlen : ts.length ≤ hi := by rw [hts.1]; omega
 exact ⟨by rw [hts.1]; omega, hlen, Nat.le_trans g1 (Nat.mul_le_mul_right m hlen), g2, g3⟩
theorem list_le {e : Pg STree} {P : STree → Prop} {n : Nat} (h : Pg.Post P e) (g : Pg.Le e n) (lo hi : Nat) (hl : lo ≤ hi) (hh : hi ≤ 250) : Pg.Le (listP (lo : Int) (hi : Int) e) (hi * n + 1) :=
 Pg.LeP.bind (below_post _) (below_le _ (by omega)) (m := hi * n) (fun r hr => (rep_le h g _).mono (Nat.mul_le_mul_right n (by omega))) (by omega)
theorem mk1 {m d m' d' : Nat} {k o : Int} {x : List UInt8} (hx : Sh x) {t : STree} (ht : Gd m d t) (hm : m + 1 ≤ m') (hd : d + 1 ≤ d') : Gd m' d' ⟨k, o, x, [], [t]⟩ :=
 Gd.mk hx sh_nil (by have := ht.1; simp only [szTs]; omega) (by have := ht.2.1; simp only [depTs]; omega) fun t' ht' => by rw [List.mem_singleton.1 ht']; exact ht.2.2
theorem mk2 {m d m2 d2 m' d' : Nat} {k o : Int} {x : List UInt8} (hx : Sh x) {t u : STree} (ht : Gd m d t) (hu : Gd m2 d2 u) (hm : m + m2 + 1 ≤ m') (hd : d + 1 ≤ d' ∧ d2 + 1 ≤ d') : Gd m' d' ⟨k, o, x, [], [t, u]⟩ :=
 Gd.mk hx sh_nil (by have := ht.1; have := hu.1; simp only [szTs]; omega) (by have := ht.2.1; have := hu.2.1; simp only [depTs]; omega) fun t' ht' => by
  simp only [List.mem_cons, List.not_mem_nil, or_false] at ht'
  rcases ht' with rfl | rfl
  ·exact ht.2.2
  ·exact hu.2.2
theorem mk3 {m d m2 d2 m3 d3 m' d' : Nat} {k o : Int} {x : List UInt8} (hx : Sh x) {t u v : STree} (ht : Gd m d t) (hu : Gd m2 d2 u) (hv : Gd m3 d3 v) (hm : m + m2 + m3 + 1 ≤ m') (hd : d + 1 ≤ d' ∧ d2 + 1 ≤ d' ∧ d3 + 1 ≤ d') : Gd m' d' ⟨k, o, x, [], [t, u, v]⟩ :=
 Gd.mk hx sh_nil (by have := ht.1; have := hu.1; have := hv.1; simp only [szTs]; omega) (by have := ht.2.1; have := hu.2.1; have := hv.2.1; simp only [depTs]; omega) fun t' ht' => by
  simp only [List.mem_cons, List.not_mem_nil, or_false] at ht'
  rcases ht' with rfl | rfl | rfl
  ·exact ht.2.2
  ·exact hu.2.2
  ·exact hv.2.2
theorem mkL {m d m' d' n lo : Nat} {k o : Int} {x : List UInt8} (hx : Sh x) {ts : List STree} (h : lo ≤ ts.length ∧ ts.length ≤ n ∧ szTs ts ≤ n * m ∧ depTs ts ≤ d ∧ ∀ t, t ∈ ts → shT t) (hm : n * m + 1 ≤ m') (hd : d + 1 ≤ d') : Gd m' d' ⟨k, o, x, [], ts⟩ :=
 Gd.mk hx sh_nil (by have := h.2.2.1; omega) (by have := h.2.2.2.1; omega) h.2.2.2.2
theorem step_post {e1 e2 e3 : Pg STree} {m d d2 D : Nat} (h1 : Pg.Post (Gd m d) e1) (h2 : Pg.Post (Gd m d2) e2) (h3 : Pg.Post (Gd m d2) e3) (hm : 1 ≤ m) (w1 : d + 1 ≤ D) (w2 : d2 + 2 ≤ D) : Pg.Post (Gd (4 * m) D) (stepP e1 e2 e3) := by
 have hlv : Pg.Post (Gd (m + 1) (d2 + 1)) (lvOf e2 e3) := lv_post h2 h3 hm
 have hlv1 : Pg.Post (Gd (m + 1) D) (lvOf e1 e2) := by
  obtain ⟨k, rfl⟩ : ∃ k, D = k + 1 := ⟨D - 1, by omega⟩
  exact lv_post (h1.imp fun t ht => ht.mono (by omega) (by omega)) (h2.imp fun t ht => ht.mono (by omega) (by omega)) hm
 have hK : ∀ r y, Pg.Post (Gd (4 * m) D) (stepK e1 e2 e3 r y) := fun r y => by
  refine postB ?_ (postB ?_ (postB ?_ (postB ?_ ?_)))
  ·exact (pickInt_post (P := fun _ => True) _ (by decide) fun _ _ => trivial).bind fun o _ => h1.bind fun t ht => .ret (mk1 sh_nil ht (by omega) (by omega))
  ·exact word_post.bind fun x hx => (list_post h1 1 2 (by omega)).bind fun ts hts => .ret (mkL hx hts (by omega) (by omega))
  ·exact h1.bind fun t ht => h1.bind fun u hu => h1.bind fun v hv => .ret (mk3 sh_nil ht hu hv (by omega) (by omega))
  ·exact (pickInt_post (P := fun _ => True) _ (by decide) fun _ _ => trivial).bind fun o _ => hlv.bind fun t ht => h1.bind fun u hu => .ret (mk2 sh_nil ht hu (by omega) (by omega))
  ·exact binop_post.bind fun o _ => h1.bind fun t ht => h1.bind fun u hu => .ret (mk2 sh_nil ht hu (by omega) (by omega))
 refine (below_post 2).bind fun a _ => (below_post 16).bind fun r _ => postB (leaf_post.imp fun t ht => ht.mono (by omega) (by omega)) (postB (hlv1.imp fun t ht => ht.mono (by omega) (by omega)) (postB ?_ (postB ?_ (postB ?_ (postB ?_ (postB ?_ (postB (hK _ _) (hK _ _))))))))
 ·exact h1.bind fun t ht => .ret (mk1 sh_nil ht (by omega) (by omega))
 ·exact word_post.bind fun x hx => (list_post h1 0 3 (by omega)).bind fun ts hts => .ret (mkL hx hts (by omega) (by omega))
 ·exact (pick_sh _ (by decide) (by decide)).bind fun x hx => (list_post h2 0 3 (by omega)).bind fun ts hts => .ret (mkL hx hts (by omega) (by omega))
 ·exact hlv.bind fun t ht => .ret (mk1 sh_nil ht (by omega) (by omega))
 ·exact hlv.bind fun t ht => .ret (mk1 sh_nil ht (by omega) (by omega))
theorem step_le {e1 e2 e3 : Pg STree} {P Q R : STree → Prop} {n : Nat} (h1 : Pg.Post P e1) (h2 : Pg.Post Q e2) (h3 : Pg.Post R e3) (g1 : Pg.Le e1 n) (g2 : Pg.Le e2 n) (g3 : Pg.Le e3 n) (hn : 3 ≤ n) : Pg.Le (stepP e1 e2 e3) (3 * n + 4) := by
 have tr : ∀ {α : Type} {p : Pg α} {P : α → Prop}, Pg.Post P p → Pg.Post (fun _ => True) p := fun h => h.imp fun _ _ => trivial
 have lvT : Pg.Post (fun _ => True) (lvOf e2 e3) := (below_post 4).bind fun r _ => postB (word_post.bind fun x _ => h2.bind fun t _ => .ret trivial) (postB (h3.bind fun t _ => .ret trivial) (tr leafW_post))
 have lT : ∀ lo hi : Int, ∀ e : Pg STree, Pg.Post (fun _ => True) e → Pg.Post (fun _ => True) (listP lo hi e) := fun lo hi e he => (below_post _).bind fun r _ => tr (rep_post he _)
 have pI : ∀ l : List Int, 0 < l.length → Pg.Post (fun _ => True) (pickIntP l) := fun l hl => pickInt_post l hl fun _ _ => trivial
 have hK : ∀ r y, Pg.Le (stepK e1 e2 e3 r y) (3 * n + 2) := fun r y => by
  refine leB ?_ (leB ?_ (leB ?_ (leB ?_ ?_)))
  ·exact Pg.LeP.bind (pI _ (by decide)) (pickInt_le _ (by decide)) (m := n) (fun o _ => bind0 h1 g1) (by omega)
  ·exact Pg.LeP.bind word_post word_le (m := 2 * n + 1) (fun x _ => bind0 (lT 1 2 e1 (tr h1)) (list_le h1 g1 1 2 (by omega) (by omega))) (by omega)
  ·exact Pg.LeP.bind h1 g1 (m := 2 * n) (fun t _ => Pg.LeP.bind h1 g1 (m := n) (fun u _ => bind0 h1 g1) (by omega)) (by omega)
  ·exact Pg.LeP.bind (pI _ (by decide)) (pickInt_le _ (by decide)) (m := 2 * n + 2) (fun o _ => Pg.LeP.bind lvT (lv_le h2 h3 g2 g3) (m := n) (fun t _ => bind0 h1 g1) (by omega)) (by omega)
  ·exact Pg.LeP.bind binop_post binop_le (m := 2 * n) (fun o _ => Pg.LeP.bind h1 g1 (m := n) (fun t _ => bind0 h1 g1) (by omega)) (by omega)
 refine Pg.LeP.bind (below_post 2) (below_le 2 (by omega)) (m := 3 * n + 3) (fun a _ => Pg.LeP.bind (below_post 16) (below_le 16 (by omega)) (m := 3 * n + 2) (fun r _ => leB (leaf_le.mono (by omega)) (leB ((lv_le h1 h2 g1 g2).mono (by omega)) (leB ((bind0 h1 g1).mono (by omega)) (leB ?_ (leB ?_ (leB ((bind0 lvT (lv_le h2 h3 g2 g3)).mono (by omega)) (leB ((bind0 lvT (lv_le h2 h3 g2 g3)).mono (by omega)) (leB (hK _ _) (hK _ _))))))))) (by omega)) (by omega)
 ·exact Pg.LeP.bind word_post word_le (m := 3 * n + 1) (fun x _ => bind0 (lT 0 3 e1 (tr h1)) (list_le h1 g1 0 3 (by omega) (by omega))) (by omega)
 ·exact Pg.LeP.bind (pick_sh _ (by decide) (by decide)) (pick_le' _ (by decide)) (m := 3 * n + 1) (fun x _ => bind0 (lT 0 3 e2 (tr h2)) (list_le h2 g2 0 3 (by omega) (by omega))) (by omega)
theorem expr_post : ∀ d, Pg.Post (Gd (pw d) (dpE d)) (exprP d) := by
 intro d
 induction d using Nat.strongRecOn with
 | _ d ih =>
  cases d with
  | zero => exact leaf_post
  | succ d =>
   rw [exprP_succ]
   have hp := pw_pos d
   have a := ih d (by omega)
   have b := ih (d - 1) (by omega)
   have c := ih (d - 2) (by omega)
   have b' : Pg.Post (Gd (pw d) (dpE (d - 1))) (exprP (d - 1)) := b.imp fun t ht => ht.mono (pw_le (by omega)) (by omega)
   have c' : Pg.Post (Gd (pw d) (dpE (d - 2))) (exprP (d - 2)) := c.imp fun t ht => ht.mono (pw_le (by omega)) (by omega)
   have e4 : pw (d + 1) = 4 * pw d := by rw [pw]
   rw [e4]
   by_cases h0 : d = 0
   ·subst h0
    exact step_post (d := 1) (d2 := 1) a b c (by omega) (by decide) (by decide)
   ·have hd : dpE d = d + 2 := by unfold dpE; rw [if_neg h0]
    have hd1 : dpE (d + 1) = d + 3 := by unfold dpE; rw [if_neg (by omega)]
    have hd2 : dpE (d - 1) ≤ d + 1 := by unfold dpE; split <;> omega
    have hd3 : dpE (d - 2) ≤ d + 1 := by unfold dpE; split <;> omega
    rw [hd] at a
    rw [hd1]
    exact step_post (d2 := d + 1) a (b'.imp fun t ht => ht.mono (by omega) (by omega)) (c'.imp fun t ht => ht.mono (by omega) (by omega)) (by omega) (by omega) (by omega)
theorem expr_le : ∀ d, Pg.Le (exprP d) (eb d) := by
 intro d
 induction d using Nat.strongRecOn with
 | _ d ih =>
  cases d with
  | zero => exact leaf_le
  | succ d =>
   rw [exprP_succ]
   have h3 : 3 ≤ eb d := by have := eb_le (a := 0) (c := d) (by omega); rw [eb] at this; exact this
   exact step_le (expr_post d) (expr_post (d - 1)) (expr_post (d - 2)) (ih d (by omega)) ((ih (d - 1) (by omega)).mono (eb_le (by omega))) ((ih (d - 2) (by omega)).mono (eb_le (by omega))) h3

end Go.Proofs.Tryz

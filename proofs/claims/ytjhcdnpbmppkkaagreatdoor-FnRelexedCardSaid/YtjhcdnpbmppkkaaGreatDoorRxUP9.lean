/-
 Plain lemmas on the models, part 9.
-/
import Derived.Test.YtjhcdnpbmppkkaaGreatDoorRxUP8
namespace Go.Proofs.Tryz
open Go.Av
set_option maxRecDepth 100000
set_option linter.unusedSimpArgs false
set_option linter.unusedVariables false

def TS (t : STree) : Prop := t.text.length ≤ 20
def DS (d : SDoc) : Prop := d.text.length ≤ 30
mutual
theorem dl_ts : ∀ (d : SDoc) (b : Nat), allD DS d → ∀ x, x ∈ dl b d → x.Text.length ≤ 30
 | ⟨k, n, x, ks, g⟩, b, h, z, hz => by
  rw [allD] at h
  rw [dl] at hz
  rcases List.mem_append.1 hz with hz | hz
  ·exact dls_ts ks b h.2 z hz
  ·rw [List.mem_singleton.1 hz]; exact h.1
theorem dls_ts : ∀ (ds : List SDoc) (b : Nat), allDs DS ds → ∀ x, x ∈ dls b ds → x.Text.length ≤ 30
 | [], b, _, z, hz => by rw [dls] at hz; cases hz
 | d :: ds, b, h, z, hz => by
  rw [allDs] at h
  rw [dls] at hz
  rcases List.mem_append.1 hz with hz | hz
  ·exact dl_ts d b h.1 z hz
  ·exact dls_ts ds _ h.2 z hz
end
theorem ds_tx {x : List UInt8} (h : x.length ≤ 30) : allD DS (txD x) := by unfold txD; rw [allD, allDs]; exact ⟨h, trivial⟩
theorem ds_ln : allD DS lnD := by unfold lnD; rw [allD, allDs]; exact ⟨by unfold DS; simp, trivial⟩
theorem ds_ct {l : List SDoc} (h : allDs DS l) : allD DS (ctD l) := by unfold ctD; rw [allD]; exact ⟨by unfold DS; simp, h⟩
theorem ds_ns {d : SDoc} (h : allD DS d) : allD DS (nsD d) := by unfold nsD; rw [allD, allDs, allDs]; exact ⟨by unfold DS; simp, h, trivial⟩
theorem ds_gr {d : SDoc} (h : allD DS d) : allD DS (grD d) := by unfold grD; rw [allD, allDs, allDs]; exact ⟨by unfold DS; simp, h, trivial⟩
theorem ds_bif {c : Bool} {a b : SDoc} (ha : allD DS a) (hb : allD DS b) : allD DS (bif c then a else b) := by cases c <;> assumption
theorem dss_nil : allDs DS [] := by rw [allDs]; trivial
theorem dss_cons {a : SDoc} {l : List SDoc} (ha : allD DS a) (h : allDs DS l) : allDs DS (a :: l) := by rw [allDs]; exact ⟨ha, h⟩
theorem dss_get : ∀ {l : List SDoc} (_ : allDs DS l) (j : Nat), allD DS (kd0 l j)
 | [], _, j => ds_ln
 | d :: l, h, 0 => by rw [allDs] at h; exact h.1
 | d :: l, h, j + 1 => by rw [allDs] at h; exact dss_get h.2 j
theorem dss_comma : ∀ (l : List SDoc) (b : Bool), allDs DS l → allDs DS (commaD b l)
 | [], b, _ => by rw [commaD]; exact dss_nil
 | x :: xs, b, h => by
  rw [allDs] at h
  have := dss_cons h.1 (dss_comma xs true h.2)
  rw [commaD]
  cases b
  ·exact this
  ·exact dss_cons (ds_tx (by decide)) (dss_cons ds_ln this)
theorem ds_asm (k o : Int) (x : List UInt8) (ts : List (List SToken)) (l : List SDoc) (hx : x.length ≤ 20) (h : allDs DS l) : allD DS (asmD k o x ts l) := by
 have g := fun j => dss_get h j
 have hl : allD DS (listD l) := ds_gr (ds_ns (ds_ct (dss_comma l false h)))
 have hs := spl_len o
 have n := dss_nil
 unfold asmD
 repeat' (refine ds_bif ?_ ?_)
 ·exact ds_tx (by omega)
 ·exact ds_ct (dss_cons (ds_tx (by simp; omega)) (dss_cons hl (dss_cons (ds_tx (by decide)) n)))
 ·exact ds_ct (dss_cons (ds_tx (by simp; omega)) (dss_cons hl (dss_cons (ds_tx (by decide)) n)))
 ·exact ds_ct (dss_cons (ds_tx (by omega)) (dss_cons (g 0) n))
 ·exact ds_ct (dss_cons (g 0) (dss_cons (ds_tx (by omega)) n))
 ·exact ds_ct (dss_cons (ds_tx (by decide)) (dss_cons (g 0) n))
 ·exact ds_ct (dss_cons (ds_tx (by cases gapB (sg o) (kt0 ts) <;> simp <;> omega)) (dss_cons (g 0) n))
 ·exact ds_ct (dss_cons (g 0) (dss_cons (ds_tx (by decide)) (dss_cons (g 1) (dss_cons (ds_tx (by decide)) (dss_cons (g 2) n)))))
 ·exact ds_ct (dss_cons (ds_tx (by decide)) (dss_cons hl (dss_cons (ds_tx (by simp; omega)) n)))
 ·exact ds_ct (dss_cons (g 0) (dss_cons (ds_tx (by simp; omega)) n))
 ·exact ds_ct (dss_cons (g 0) (dss_cons (ds_tx (by decide)) (dss_cons (g 1) n)))
 ·exact ds_gr (ds_ns (ds_ct (dss_cons (g 0) (dss_cons (ds_tx (by simp; omega)) (dss_cons ds_ln (dss_cons (g 1) n))))))
 ·exact ds_ct (dss_cons (g 0) (dss_cons (ds_tx (by simp; omega)) (dss_cons (g 1) n)))
theorem ds_par {b : Bool} {x y : SDoc} (hx : allD DS x) (hy : allD DS y) : allD DS (parD b x y) := ds_bif (ds_ct (dss_cons (ds_tx (by decide)) (dss_cons hy (dss_cons (ds_tx (by decide)) dss_nil)))) hx
mutual
theorem ds_doc : ∀ (t : STree) (p : SPos), allT TS t → allD DS (dcB t p)
 | ⟨k, o, x, y, ks⟩, p, h => by
  rw [allT] at h
  rw [dcB]
  exact ds_asm k o x _ _ h.1 (ds_docs k o ks.length p ks 0 h.2)
theorem ds_docs (k o : Int) (n : Nat) (p : SPos) : ∀ (ts : List STree) (j : Nat), allTs TS ts → allDs DS (dcKs k o n j p ts)
 | [], j, _ => by rw [dcKs]; exact dss_nil
 | t :: ts, j, h => by
  rw [allTs] at h
  rw [dcKs]
  exact dss_cons (ds_bif (ds_doc t _ h.1) (ds_par (ds_doc t _ h.1) (ds_doc t _ h.1))) (ds_docs k o n p ts (j + 1) h.2)
end
theorem ds_docE (t : STree) (p : SPos) (h : allT TS t) : allD DS (dcE t p) := ds_par (ds_doc t _ h) (ds_doc t _ h)
theorem flL_short : ∀ (a : List SDNode) (z : List UInt8), (∀ x, x ∈ a → x.Text.length ≤ 30) → flL a = some z → z.length ≤ 30 * a.length
 | [], z, _, h => by cases h; simp
 | x :: a, z, hs, h => by
  rw [flL] at h
  have hx := hs x (by simp)
  cases hk : x.Kind == 3 with
  | true => rw [hk] at h; cases h
  | false =>
   rw [hk, cond_false] at h
   cases hf : flL a with
   | none => rw [hf] at h; cases h
   | some y =>
    rw [hf] at h
    cases h
    have := flL_short a y (fun u hu => hs u (by simp [hu])) hf
    have hp : (pieceD x).length ≤ 30 := by
     unfold pieceD
     cases x.Kind == 1 <;> cases x.Kind == 2 <;> simp <;> omega
    simp only [List.length_append, List.length_cons]
    omega
theorem ts_of {a : List SNode} (hs : ∀ x, x ∈ a → x.Text.length ≤ 20) : ∀ (t : STree) (s i : Nat), TA a t s i → allT TS t := allT_of fun u s i hu => by
 obtain ⟨n, hn, _, _, e3, _⟩ := hu.node
 unfold TS
 rw [e3]
 exact hs n (List.mem_of_getElem? hn)

def SmS (L : List SNode) : Prop := ∀ x, x ∈ L → x.Kids.length ≤ 20000 ∧ x.Text.length ≤ 20 ∧ x.Other.length ≤ 20

theorem shiftS_l2 (N : Nat) (kb : (List SNode × Int × Int × List SNode) → Option (List SNode)) (a : List SNode) (d : Int) (i : Nat) (hi : i < a.length) (hi2 : i ≤ 1000000) (out : List SNode) (ho : out.length ≤ 1000000) (hk : a[i].Kids.length ≤ 20000) :
  ∀ (n j : Nat) (ks : List Int), a[i].Kids.length - j < n → j ≤ a[i].Kids.length → ks.length = j →
   ∃ x : SNode, (x.Kids.length = a[i].Kids.length ∧ x.Text = a[i].Text ∧ x.Other = a[i].Other) ∧ ms_l6Shift_l2 N kb n (a, d, (i : Int), out, a[i], (j : Int), ks) = kb (a, d, ((i + 1 : Nat) : Int), out ++ [x]) := by
 intro n
 induction n with
 | zero => intro j ks h; omega
 | succ n ih =>
  intro j ks hn hj hks
  rw [ms_l6Shift_l2, ix_nat hi, Option.bind_some]
  by_cases h : j < a[i].Kids.length
  ·simp only [lt_true h, cond_true, ix_nat hi, ix_nat h, Option.bind_some, step64 h (by simp only [maxLen]; omega)]
   rw [app_some (by simp; omega), Option.bind_some]
   exact ih (j + 1) _ (by omega) (by omega) (by simp [hks])
  ·simp only [lt_false h, cond_false]
   rw [app_some (by simp; omega), Option.bind_some, wrap64 (by omega) (by omega)]
   exact ⟨⟨a[i].Kind, a[i].Op, a[i].Text, a[i].Other, ks⟩, ⟨by show ks.length = _; omega, rfl, rfl⟩, rfl⟩

theorem shiftS_l1 (N : Nat) (a : List SNode) (d : Int) (hN : 1048577 < N) (ha : a.length ≤ 500000) (hs : SmS a) :
  ∀ (n i : Nat) (out : List SNode), a.length - i < n → i ≤ a.length → out.length = i → SmS out → ∃ r, ms_l6Shift_l1 N n (a, d, (i : Int), out) = some r ∧ r.length = a.length ∧ SmS r := by
 intro n
 induction n with
 | zero => intro i out h; omega
 | succ n ih =>
  intro i out hn hi ho hso
  rw [ms_l6Shift_l1]
  by_cases h : i < a.length
  ·have hx := hs _ (List.getElem_mem h)
   simp only [lt_true h, cond_true, ix_nat h, Option.bind_some]
   obtain ⟨x, x1, x2⟩ := shiftS_l2 N (ms_l6Shift_l1 N n) a d i h (by omega) out (by omega) hx.1 N 0 [] (by omega) (by omega) rfl
   obtain ⟨r, r1, r2, r3⟩ := ih (i + 1) (out ++ [x]) (by omega) (by omega) (by simp [ho]) (fun z hz => by
    rcases List.mem_append.1 hz with hz | hz
    ·exact hso z hz
    ·rw [List.mem_singleton.1 hz, x1.1, x1.2.1, x1.2.2]; exact hx)
   exact ⟨r, Eq.trans x2 r1, r2, r3⟩
  ·simp only [lt_false h, cond_false]
   exact ⟨out, rfl, by omega, hso⟩

theorem shiftS (N : Nat) (a : List SNode) (d : Int) (hN : 1048577 < N) (ha : a.length ≤ 500000) (hs : SmS a) : ∃ r, ms_l6Shift N a d = some r ∧ r.length = a.length ∧ SmS r :=
 shiftS_l1 N a d hN ha hs N 0 [] (by omega) (by omega) rfl fun z hz => by cases hz

def lenS (Ls : List (List SNode)) : Nat := (Ls.map (·.length)).sum
theorem lenS_cons (L : List SNode) (Ls : List (List SNode)) : lenS (L :: Ls) = L.length + lenS Ls := by simp [lenS]
theorem lenS_app (a b : List (List SNode)) : lenS (a ++ b) = lenS a + lenS b := by simp [lenS]

theorem makeS_l (N : Nat) (n0 : SNode) (Ls : List (List SNode)) (hN : 1048577 < N) (hnt : n0.Text.length ≤ 20 ∧ n0.Other.length ≤ 20) (hl : lenS Ls ≤ 400000) (hk : Ls.length ≤ 10000) (hs : ∀ L, L ∈ Ls → SmS L) : ∀ (n i : Nat) (acc : List SNode) (ids : List Int), Ls.length - i < n → i ≤ Ls.length → acc.length + lenS (Ls.drop i) = lenS Ls → ids.length = i → SmS acc →
  ∃ r, ms_l6Make_l1 N n (Ls, n0, (i : Int), acc, ids) = some r ∧ r.length = lenS Ls + 1 ∧ SmS r := by
 intro n
 induction n with
 | zero => intro i acc ids h; omega
 | succ n ih =>
  intro i acc ids hn hi hacc hids hsa
  rw [ms_l6Make_l1]
  by_cases h : i < Ls.length
  ·rw [drop_cons h, lenS_cons] at hacc
   obtain ⟨r, r1, r2, r3⟩ := shiftS N Ls[i] (acc.length : Int) hN (by omega) (hs _ (List.getElem_mem h))
   simp only [lt_true h, cond_true, ix_nat h, Option.bind_some, r1]
   rw [app_some (by omega), Option.bind_some, app_some (by simp; omega), Option.bind_some, wrap64 (n := (i : Int) + 1) (by omega) (by omega)]
   exact ih (i + 1) (acc ++ r) _ (by omega) (by omega) (by rw [List.length_append, r2]; omega) (by simp [hids]) (fun z hz => by
    rcases List.mem_append.1 hz with hz | hz
    ·exact hsa z hz
    ·exact r3 z hz)
  ·simp only [lt_false h, cond_false]
   rw [drop_nil h] at hacc
   have h0 : lenS [] = 0 := rfl
   rw [app_some (by simp; omega), Option.bind_some]
   refine ⟨_, rfl, by simp; omega, fun z hz => ?_⟩
   rcases List.mem_append.1 hz with hz | hz
   ·exact hsa z hz
   ·rw [List.mem_singleton.1 hz]; exact ⟨by show ids.length ≤ _; omega, hnt.1, hnt.2⟩

theorem makeS (N : Nat) (n0 : SNode) (Ls : List (List SNode)) (hN : 1048577 < N) (hnt : n0.Text.length ≤ 20 ∧ n0.Other.length ≤ 20) (hl : lenS Ls ≤ 400000) (hk : Ls.length ≤ 10000) (hs : ∀ L, L ∈ Ls → SmS L) : ∃ r, ms_l6Make N n0 Ls = some r ∧ r.length = lenS Ls + 1 ∧ SmS r :=
 makeS_l N n0 Ls hN hnt hl hk hs N 0 [] [] (by omega) (by omega) (by rw [List.drop_zero]; simp) rfl fun z hz => by cases hz


def Dr {α : Type} (b : List UInt8) (P : α → Prop) (x : Option (α × Int × Int)) : Prop := ∃ a i h, x = some (a, i, h) ∧ P a ∧ 0 ≤ i ∧ i ≤ (b.length : Int)
theorem Dr.bind {α β : Type} {b : List UInt8} {P : α → Prop} {Q : β → Prop} {x : Option (α × Int × Int)} {f : α × Int × Int → Option (β × Int × Int)} (hx : Dr b P x) (hf : ∀ a i h, P a → 0 ≤ i → i ≤ (b.length : Int) → Dr b Q (f (a, i, h))) : Dr b Q (Option.bind x f) := by
 obtain ⟨a, i, h, rfl, h1, h2, h3⟩ := hx
 exact hf a i h h1 h2 h3
theorem Dr.some {α : Type} {b : List UInt8} {P : α → Prop} {a : α} {i h : Int} (ha : P a) (h0 : 0 ≤ i) (h1 : i ≤ (b.length : Int)) : Dr b P (some (a, i, h)) := ⟨a, i, h, rfl, ha, h0, h1⟩
theorem Dr.imp {α : Type} {b : List UInt8} {P Q : α → Prop} {x : Option (α × Int × Int)} (hx : Dr b P x) (h : ∀ a, P a → Q a) : Dr b Q x := by
 obtain ⟨a, i, k, rfl, h1, h2, h3⟩ := hx
 exact ⟨a, i, k, rfl, h a h1, h2, h3⟩
theorem Dr.cond {α : Type} {b : List UInt8} {P : α → Prop} {c : Bool} {x y : Option (α × Int × Int)} (hx : c = true → Dr b P x) (hy : c = false → Dr b P y) : Dr b P (bif c then x else y) := by
 cases c
 ·exact hy rfl
 ·exact hx rfl
theorem Dr.cat {α : Type} {b : List UInt8} {P : α → Prop} {u v : List UInt8} {f : List UInt8 → Option (α × Int × Int)} (h : u.length + v.length ≤ 140737488355328) (hf : (u ++ v).length = u.length + v.length → Dr b P (f (u ++ v))) : Dr b P (Option.bind (cat u v) f) := by
 rw [cat_some (by simp only [maxLen]; omega)]
 exact hf List.length_append
theorem Dr.id3 {α : Type} {b : List UInt8} {P : α → Prop} {x : Option (α × Int × Int)} (hx : Dr b P x) : Dr b P (Option.bind x fun r => Option.some (r.1, r.2.1, r.2.2)) := Dr.bind hx fun _ _ _ ha h0 h1 => Dr.some ha h0 h1

theorem and255 (x : Int) : 0 ≤ bits .and .i64 x 255 ∧ bits .and .i64 x 255 ≤ 255 := by
 have e : bits .and .i64 x 255 = IntKind.wrap .i64 (((BitVec.ofInt 64 x &&& BitVec.ofInt 64 255).toNat : Nat) : Int) := rfl
 have h : (BitVec.ofInt 64 x &&& BitVec.ofInt 64 255).toNat ≤ 255 := by
  rw [BitVec.toNat_and]
  exact Nat.and_le_right
 rw [e, wrap64 (by omega) (by omega)]
 omega

section
set_option linter.unusedSectionVars false
variable (b : List UInt8) (hb : b.length ≤ 1048576)
include hb
theorem byte_dr (i h : Int) (h0 : 0 ≤ i) (h1 : i ≤ (b.length : Int)) : Dr b (fun x => 0 ≤ x ∧ x ≤ 255) (ms_l1Byte b i h) := by
 unfold ms_l1Byte ms_l1Byte_k1
 refine Dr.cond (fun hc => ?_) fun hc => ?_
 ·have hc := of_decide_eq_true hc
  obtain ⟨n, rfl⟩ := Int.eq_ofNat_of_zero_le h0
  have hn : n < b.length := by omega
  rw [ix_nat hn, Option.bind_some]
  exact Dr.some (and255 _) (by rw [wrap64 (by omega) (by omega)]; omega) (by rw [wrap64 (by omega) (by omega)]; omega)
 ·exact Dr.some (and255 _) h0 h1
theorem rem_dr {P : Int → Prop} {x n i h : Int} (hx : 0 ≤ x) (hn : 0 < n) (h0 : 0 ≤ i) (h1 : i ≤ (b.length : Int)) (hP : ∀ r, 0 ≤ r → r < n → P r) : Dr b P ((remO x n).bind fun y => some (y, i, h)) := by
 unfold remO
 have : (n == 0) = false := by simp; omega
 rw [this, cond_false, Option.bind_some]
 exact Dr.some (hP _ (Int.tmod_nonneg _ hx) (Int.tmod_lt_of_pos _ hn)) h0 h1
theorem below_dr (n i h : Int) (h0 : 0 ≤ i) (h1 : i ≤ (b.length : Int)) : Dr b (fun r => 0 ≤ r ∧ (r < n ∨ n ≤ 0 ∧ r = 0)) (ms_l1Below n b i h) := by
 unfold ms_l1Below
 refine Dr.cond (fun hc => ?_) fun hc => Dr.cond (fun hc2 => ?_) fun hc2 => ?_
 ·have hc := of_decide_eq_true hc
  exact Dr.some ⟨by omega, .inr ⟨hc, rfl⟩⟩ h0 h1
 ·have hc := of_decide_eq_false hc
  exact Dr.bind (byte_dr b hb i h h0 h1) fun x i h hx h0 h1 => rem_dr b hb hx.1 (by omega) h0 h1 fun r g1 g2 => ⟨g1, .inl g2⟩
 ·have hc := of_decide_eq_false hc
  refine Dr.bind (byte_dr b hb i h h0 h1) fun x i h hx h0 h1 => Dr.bind (byte_dr b hb i h h0 h1) fun y i h hy h0 h1 => Dr.bind (byte_dr b hb i h h0 h1) fun z i h hz h0 h1 => Dr.bind (byte_dr b hb i h h0 h1) fun w i h hw h0 h1 => ?_
  refine rem_dr b hb ?_ (by omega) h0 h1 fun r g1 g2 => ⟨g1, .inl g2⟩
  dsimp only
  rw [wrap64 (n := x * 16777216) (by omega) (by omega), wrap64 (n := y * 65536) (by omega) (by omega), wrap64 (n := x * 16777216 + y * 65536) (by omega) (by omega), wrap64 (n := z * 256) (by omega) (by omega), wrap64 (n := x * 16777216 + y * 65536 + z * 256) (by omega) (by omega), wrap64 (by omega) (by omega)]
  omega
theorem pick_dr {P : List UInt8 → Prop} (l : List (List UInt8)) (i h : Int) (h0 : 0 ≤ i) (h1 : i ≤ (b.length : Int)) (hl : 0 < l.length) (hP : ∀ x, x ∈ l → P x) : Dr b P (ms_l1Pick l b i h) := by
 unfold ms_l1Pick
 refine Dr.bind (below_dr b hb _ i h h0 h1) fun r i h hr h0 h1 => ?_
 obtain ⟨n, rfl⟩ := Int.eq_ofNat_of_zero_le hr.1
 have hn : n < l.length := by rcases hr.2 with h | h <;> omega
 dsimp only
 have e : ix l (n : Int) = some l[n] := ix_nat hn
 rw [e, Option.bind_some]
 exact Dr.some (hP _ (List.getElem_mem hn)) h0 h1
theorem once_dr (n i h : Int) (h0 : 0 ≤ i) (h1 : i ≤ (b.length : Int)) : Dr b (fun _ => True) (ms_l1Once n b i h) := Dr.bind (below_dr b hb _ i h h0 h1) fun _ _ _ _ h0 h1 => Dr.some trivial h0 h1
theorem pickInt_dr {P : Int → Prop} (l : List Int) (i h : Int) (h0 : 0 ≤ i) (h1 : i ≤ (b.length : Int)) (hl : 0 < l.length) (hP : ∀ x, x ∈ l → P x) : Dr b P (ms_l1PickInt l b i h) := by
 unfold ms_l1PickInt
 refine Dr.bind (below_dr b hb _ i h h0 h1) fun r i h hr h0 h1 => ?_
 obtain ⟨n, rfl⟩ := Int.eq_ofNat_of_zero_le hr.1
 have hn : n < l.length := by rcases hr.2 with h | h <;> omega
 dsimp only
 have e : ix l (n : Int) = some l[n] := ix_nat hn
 rw [e, Option.bind_some]
 exact Dr.some (hP _ (List.getElem_mem hn)) h0 h1
theorem pick_le (m : Nat) (l : List (List UInt8)) (i h : Int) (h0 : 0 ≤ i) (h1 : i ≤ (b.length : Int)) (hl : 0 < l.length) (hP : (l.all fun x => decide (x.length ≤ m)) = true) : Dr b (fun x => x.length ≤ m) (ms_l1Pick l b i h) :=
 pick_dr b hb l i h h0 h1 hl fun x hx => of_decide_eq_true (List.all_eq_true.1 hP x hx)
theorem num_dr (i h : Int) (h0 : 0 ≤ i) (h1 : i ≤ (b.length : Int)) : Dr b (fun x => x.length ≤ 20) (ms_l4Num b i h) := Dr.id3 (pick_le b hb 20 _ i h h0 h1 (by decide) (by decide))
theorem str_dr (i h : Int) (h0 : 0 ≤ i) (h1 : i ≤ (b.length : Int)) : Dr b (fun x => x.length ≤ 20) (ms_l4Str b i h) := Dr.id3 (pick_le b hb 20 _ i h h0 h1 (by decide) (by decide))
theorem ere_dr (i h : Int) (h0 : 0 ≤ i) (h1 : i ≤ (b.length : Int)) : Dr b (fun x => x.length ≤ 20) (ms_l4Ere b i h) := Dr.id3 (pick_le b hb 20 _ i h h0 h1 (by decide) (by decide))
theorem word_dr (i h : Int) (h0 : 0 ≤ i) (h1 : i ≤ (b.length : Int)) : Dr b (fun x => x.length ≤ 20) (ms_l2Word b i h) := Dr.id3 (pick_le b hb 20 _ i h h0 h1 (by decide) (by decide))
theorem binop_dr (i h : Int) (h0 : 0 ≤ i) (h1 : i ≤ (b.length : Int)) : Dr b (fun _ => True) (ms_l7BinOp b i h) := Dr.id3 (pickInt_dr b hb _ i h h0 h1 (by decide) fun _ _ => trivial)

def pw : Nat → Nat
 | 0 => 1
 | n + 1 => 4 * pw n
omit hb in
theorem pw_pos : ∀ n, 1 ≤ pw n
 | 0 => by rw [pw]; omega
 | n + 1 => by have := pw_pos n; rw [pw]; omega
def EL (m : Nat) (L : List SNode) : Prop := SmS L ∧ L.length ≤ m ∧ 1 ≤ L.length
omit hb in
theorem el_one (k o : Int) (x : List UInt8) (hx : x.length ≤ 20) : EL 1 [(⟨k, o, x, [], []⟩ : SNode)] := by
 refine ⟨fun z hz => ?_, by simp, by simp⟩
 rw [List.mem_singleton.1 hz]
 exact ⟨by show 0 ≤ 20000; omega, by show x.length ≤ _; omega, by show 0 ≤ 20; omega⟩
theorem leaf_dr (i h : Int) (h0 : 0 ≤ i) (h1 : i ≤ (b.length : Int)) : Dr b (EL 1) (ms_l7Leaf b i h) := by
 have k1 : ∀ i h : Int, 0 ≤ i → i ≤ (b.length : Int) → Dr b (EL 1) (ms_l7Leaf_k1 b (i, h)) := fun i h h0 h1 => Dr.bind (word_dr b hb i h h0 h1) fun x i h hx h0 h1 => Dr.some (el_one _ _ _ hx) h0 h1
 unfold ms_l7Leaf
 refine Dr.bind (below_dr b hb _ i h h0 h1) fun r i h hr h0 h1 => ?_
 refine Dr.cond (fun _ => Dr.bind (num_dr b hb i h h0 h1) fun x i h hx h0 h1 => Dr.some (el_one _ _ _ hx) h0 h1) fun _ => Dr.cond (fun _ => Dr.bind (str_dr b hb i h h0 h1) fun x i h hx h0 h1 => Dr.some (el_one _ _ _ hx) h0 h1) fun _ => Dr.cond (fun _ => ?_) fun _ => k1 i h h0 h1
 exact Dr.bind (once_dr b hb _ i h h0 h1) fun x i h hx h0 h1 => Dr.cond (fun _ => Dr.bind (ere_dr b hb i h h0 h1) fun x i h hx h0 h1 => Dr.some (el_one _ _ _ hx) h0 h1) fun _ => k1 i h h0 h1
theorem make_dr {N : Nat} (hN : 1048577 < N) (k o : Int) (x : List UInt8) (hx : x.length ≤ 20) (Ls : List (List SNode)) (m : Nat) (hk : Ls.length ≤ 100) (hs : ∀ L, L ∈ Ls → SmS L) (hl : lenS Ls + 1 ≤ m) (hm : m ≤ 100000) {i h : Int} (h0 : 0 ≤ i) (h1 : i ≤ (b.length : Int)) : Dr b (EL m) ((ms_l6Make N ⟨k, o, x, [], []⟩ Ls).bind fun r => some (r, i, h)) := by
 obtain ⟨r, r1, r2, r3⟩ := makeS N ⟨k, o, x, [], []⟩ Ls hN ⟨by show x.length ≤ _; omega, by show 0 ≤ 20; omega⟩ (by omega) (by omega) hs
 rw [r1, Option.bind_some]
 exact Dr.some ⟨r3, by omega, by omega⟩ h0 h1

def XD (N d : Nat) : Prop := ∀ (deep i h : Int), deep ≤ (d : Int) → -1000 ≤ deep → 0 ≤ i → i ≤ (b.length : Int) → Dr b (EL (pw d)) ((scc1 N).ms_l7Expr deep b i h)
def LvD (N d : Nat) : Prop := ∀ (deep i h : Int), deep ≤ (d : Int) → -900 ≤ deep → 0 ≤ i → i ≤ (b.length : Int) → Dr b (EL (pw (d - 1) + 1)) ((scc1 N).ms_l7Lvalue deep b i h)
def LLs (n m : Nat) (Ls : List (List SNode)) : Prop := Ls.length ≤ n ∧ lenS Ls ≤ n * m ∧ ∀ L, L ∈ Ls → SmS L
def QD (N d : Nat) : Prop := ∀ (lo hi : Nat) (deep i h : Int), lo ≤ hi → hi ≤ 3 → deep ≤ (d : Int) → -900 ≤ deep → 0 ≤ i → i ≤ (b.length : Int) → Dr b (LLs 3 (pw d)) ((scc1 N).ms_l7List (lo : Int) (hi : Int) deep b i h)
theorem list_dr_l {N d : Nat} (hX : XD b N d) (deep : Int) (hd : deep ≤ (d : Int)) (hd2 : -900 ≤ deep) : ∀ (n c : Nat) (i h : Int) (acc : List (List SNode)), c < n → acc.length + c ≤ 3 → lenS acc ≤ acc.length * pw d → (∀ L, L ∈ acc → SmS L) → 0 ≤ i → i ≤ (b.length : Int) →
  Dr b (LLs 3 (pw d)) (ms_l7List_l1 N (scc1 N) b n (deep, (c : Int), i, h, acc)) := by
 intro n
 induction n with
 | zero => intro c i h acc hc; omega
 | succ n ih =>
  intro c i h acc hc ha hl hs h0 h1
  rw [ms_l7List_l1]
  refine Dr.cond (fun hc2 => ?_) fun hc2 => ?_
  ·have hc2 := of_decide_eq_true hc2
   obtain ⟨c, rfl⟩ : ∃ k, c = k + 1 := ⟨c - 1, by omega⟩
   refine Dr.bind (hX deep i h hd (by omega) h0 h1) fun L i h hL h0 h1 => ?_
   dsimp only
   rw [app_some (by simp; omega), Option.bind_some, wrap64 (by omega) (by omega), show ((c + 1 : Nat) : Int) - 1 = (c : Int) by omega]
   have h0' : lenS [] = 0 := rfl
   refine ih c i h (acc ++ [L]) (by omega) (by simp; omega) ?_ (fun L' hL' => ?_) h0 h1
   ·rw [lenS_app, lenS_cons, h0', List.length_append, List.length_singleton, Nat.add_mul]
    have := hL.2.1
    omega
   ·rcases List.mem_append.1 hL' with h | h
    ·exact hs _ h
    ·rw [List.mem_singleton.1 h]; exact hL.1
  ·refine Dr.some ⟨by omega, Nat.le_trans hl (Nat.mul_le_mul_right _ (by omega)), hs⟩ h0 h1
theorem qd_of {N d : Nat} (hN : 10 < N) (hX : XD b N d) : QD b (N + 1) d := by
 intro lo hi deep i h hlh hh hd hd2 h0 h1
 show Dr b _ (ms_l7List_F N (scc1 N) lo hi deep b i h)
 unfold ms_l7List_F
 rw [wrap64 (n := (hi : Int) - lo) (by omega) (by omega), wrap64 (n := (hi : Int) - lo + 1) (by omega) (by omega)]
 refine Dr.bind (below_dr b hb _ i h h0 h1) fun r i h hr h0 h1 => ?_
 dsimp only
 obtain ⟨c, rfl⟩ := Int.eq_ofNat_of_zero_le hr.1
 have hc : c ≤ hi - lo := by rcases hr.2 with h | h <;> omega
 rw [wrap64 (by omega) (by omega), show (lo : Int) + (c : Int) = ((lo + c : Nat) : Int) by omega]
 exact list_dr_l b hb hX deep hd hd2 N (lo + c) i h [] (by omega) (by simp; omega) (by simp [lenS]) (fun L hL => by cases hL) h0 h1
theorem ld_of {N d : Nat} (hN : 1048577 < N) (hdd : d ≤ 6) (hX : XD b N (d - 1)) : LvD b (N + 1) d := by
 intro deep i h hd hd2 h0 h1
 have hp := pw_pos (d - 1)
 have hpb : pw (d - 1) ≤ 4096 := by
  have : d - 1 = 0 ∨ d - 1 = 1 ∨ d - 1 = 2 ∨ d - 1 = 3 ∨ d - 1 = 4 ∨ d - 1 = 5 := by omega
  rcases this with e | e | e | e | e | e <;> rw [e] <;> decide
 show Dr b _ (ms_l7Lvalue_F N (scc1 N) deep b i h)
 unfold ms_l7Lvalue_F
 refine Dr.bind (below_dr b hb _ i h h0 h1) fun r i h hr h0 h1 => ?_
 dsimp only
 have ls1 : ∀ L : List SNode, lenS [L] = L.length := fun L => by simp [lenS]
 refine Dr.cond (fun _ => ?_) fun _ => Dr.cond (fun _ => ?_) fun _ => ?_
 ·refine Dr.bind (word_dr b hb i h h0 h1) fun x i h hx h0 h1 => ?_
  dsimp only
  rw [wrap64 (by omega) (by omega)]
  refine Dr.bind (hX (deep - 1) i h (by omega) (by omega) h0 h1) fun L i h hL h0 h1 => ?_
  exact make_dr b hb hN 5 0 x hx [L] _ (by simp) (fun L' h => by rw [List.mem_singleton.1 h]; exact hL.1) (by rw [ls1]; have := hL.2.1; omega) (by omega) h0 h1
 ·rw [wrap64 (by omega) (by omega)]
  refine Dr.bind (hX (deep - 2) i h (by omega) (by omega) h0 h1) fun L i h hL h0 h1 => ?_
  exact make_dr b hb hN 6 0 [] (by simp) [L] _ (by simp) (fun L' h => by rw [List.mem_singleton.1 h]; exact hL.1) (by rw [ls1]; have := hL.2.1; omega) (by omega) h0 h1
 ·refine Dr.bind (word_dr b hb i h h0 h1) fun x i h hx h0 h1 => ?_
  exact Dr.some (by have := el_one 1 0 x hx; exact ⟨this.1, by simp, by simp⟩) h0 h1
theorem xd_succ {N d : Nat} (hN : 1048577 < N) (hdd : d + 1 ≤ 5) (hX : XD b N d) (hL : LvD b N d) (hL1 : LvD b N (d + 1)) (hQ : QD b N d) : XD b (N + 1) (d + 1) := by
 intro deep i h hd hd2 h0 h1
 have hp := pw_pos d
 have e4 : pw (d + 1) = 4 * pw d := by rw [pw]
 have hpb : pw d ≤ 256 := by
  have : d = 0 ∨ d = 1 ∨ d = 2 ∨ d = 3 ∨ d = 4 := by omega
  rcases this with e | e | e | e | e <;> rw [e] <;> decide
 have hpd : pw (d - 1) ≤ pw d := by
  cases d with
  | zero => exact Nat.le_refl _
  | succ d => have := pw_pos d; rw [Nat.add_sub_cancel, pw]; omega
 have l1 : ∀ L : List SNode, lenS [L] = L.length := fun L => by simp [lenS]
 have l2 : ∀ L M : List SNode, lenS [L, M] = L.length + M.length := fun L M => by simp [lenS]
 have l3 : ∀ L M K : List SNode, lenS [L, M, K] = L.length + M.length + K.length := fun L M K => by simp [lenS]; omega
 have s1 : ∀ {L : List SNode}, SmS L → ∀ L', L' ∈ [L] → SmS L' := fun h L' h' => by rw [List.mem_singleton.1 h']; exact h
 have s2 : ∀ {L M : List SNode}, SmS L → SmS M → ∀ L', L' ∈ [L, M] → SmS L' := fun h g L' h' => by
  simp only [List.mem_cons, List.not_mem_nil, or_false] at h'
  rcases h' with rfl | rfl <;> assumption
 have s3 : ∀ {L M K : List SNode}, SmS L → SmS M → SmS K → ∀ L', L' ∈ [L, M, K] → SmS L' := fun h g k L' h' => by
  simp only [List.mem_cons, List.not_mem_nil, or_false] at h'
  rcases h' with rfl | rfl | rfl <;> assumption
 show Dr b _ (ms_l7Expr_F N (scc1 N) deep b i h)
 unfold ms_l7Expr_F
 refine Dr.cond (fun _ => Dr.id3 ((leaf_dr b hb i h h0 h1).imp fun L hL => ⟨hL.1, by have := hL.2.1; omega, hL.2.2⟩)) fun hc => ?_
 have hc := of_decide_eq_false hc
 have w1 : IntKind.wrap .i64 (deep - 1) = deep - 1 := wrap64 (by omega) (by omega)
 have w2 : IntKind.wrap .i64 (deep - 2) = deep - 2 := wrap64 (by omega) (by omega)
 have ex1 : ∀ i h : Int, 0 ≤ i → i ≤ (b.length : Int) → Dr b (EL (pw d)) ((scc1 N).ms_l7Expr (IntKind.wrap .i64 (deep - 1)) b i h) := fun i h h0 h1 => by rw [w1]; exact hX (deep - 1) i h (by omega) (by omega) h0 h1
 have lv1 : ∀ i h : Int, 0 ≤ i → i ≤ (b.length : Int) → Dr b (EL (pw (d - 1) + 1)) ((scc1 N).ms_l7Lvalue (IntKind.wrap .i64 (deep - 1)) b i h) := fun i h h0 h1 => by rw [w1]; exact hL (deep - 1) i h (by omega) (by omega) h0 h1
 refine Dr.bind (below_dr b hb _ i h h0 h1) fun r6 i h h6 h0 h1 => Dr.bind (below_dr b hb _ i h h0 h1) fun r i h hr h0 h1 => ?_
 dsimp only
 have k1 : ∀ y : Bool, Dr b (EL (pw (d + 1))) (ms_l7Expr_k1 N (scc1 N) b (deep, (r, i, h), y)) := fun y => by
  unfold ms_l7Expr_k1
  dsimp only
  refine Dr.cond (fun _ => ?_) fun _ => Dr.cond (fun _ => ?_) fun _ => Dr.cond (fun _ => ?_) fun _ => Dr.cond (fun _ => ?_) fun _ => ?_
  ·refine Dr.bind (pickInt_dr b hb (P := fun _ => True) _ i h h0 h1 (by decide) fun _ _ => trivial) fun o i h _ h0 h1 => Dr.bind (ex1 i h h0 h1) fun L i h hL h0 h1 => ?_
   exact make_dr b hb hN 11 o [] (by simp) [L] _ (by simp) (s1 hL.1) (by rw [l1]; have := hL.2.1; omega) (by omega) h0 h1
  ·refine Dr.bind (word_dr b hb i h h0 h1) fun x i h hx h0 h1 => ?_
   dsimp only
   rw [w1]
   refine Dr.bind (hQ 1 2 (deep - 1) i h (by omega) (by omega) (by omega) (by omega) h0 h1) fun Ls i h hLs h0 h1 => ?_
   exact make_dr b hb hN 13 0 x hx Ls _ (by have := hLs.1; omega) hLs.2.2 (by have := hLs.2.1; omega) (by omega) h0 h1
  ·refine Dr.bind (ex1 i h h0 h1) fun L i h hL h0 h1 => Dr.bind (ex1 i h h0 h1) fun M i h hM h0 h1 => Dr.bind (ex1 i h h0 h1) fun K i h hK h0 h1 => ?_
   exact make_dr b hb hN 14 0 [] (by simp) [L, M, K] _ (by simp) (s3 hL.1 hM.1 hK.1) (by rw [l3]; have := hL.2.1; have := hM.2.1; have := hK.2.1; omega) (by omega) h0 h1
  ·refine Dr.bind (pickInt_dr b hb (P := fun _ => True) _ i h h0 h1 (by decide) fun _ _ => trivial) fun o i h _ h0 h1 => Dr.bind (lv1 i h h0 h1) fun L i h hL h0 h1 => Dr.bind (ex1 i h h0 h1) fun M i h hM h0 h1 => ?_
   exact make_dr b hb hN 15 o [] (by simp) [L, M] _ (by simp) (s2 hL.1 hM.1) (by rw [l2]; have := hL.2.1; have := hM.2.1; omega) (by omega) h0 h1
  ·refine Dr.bind (binop_dr b hb i h h0 h1) fun o i h _ h0 h1 => Dr.bind (ex1 i h h0 h1) fun L i h hL h0 h1 => Dr.bind (ex1 i h h0 h1) fun M i h hM h0 h1 => ?_
   exact make_dr b hb hN 12 o [] (by simp) [L, M] _ (by simp) (s2 hL.1 hM.1) (by rw [l2]; have := hL.2.1; have := hM.2.1; omega) (by omega) h0 h1
 have q : ∀ (x : List UInt8) (hx : x.length ≤ 20) (k : Int) (dp : Int), dp ≤ (d : Int) → -900 ≤ dp → ∀ i h : Int, 0 ≤ i → i ≤ (b.length : Int) → Dr b (EL (pw (d + 1))) (((scc1 N).ms_l7List 0 3 dp b i h).bind fun r80 => (ms_l6Make N (⟨k, 0, x, [], []⟩ : SNode) r80.1).bind fun r81 => some (r81, r80.2.1, r80.2.2)) := fun x hx k dp g1 g2 i h h0 h1 => by
  refine Dr.bind (hQ 0 3 dp i h (by omega) (by omega) g1 g2 h0 h1) fun Ls i h hLs h0 h1 => ?_
  exact make_dr b hb hN k 0 x hx Ls _ (by have := hLs.1; omega) hLs.2.2 (by have := hLs.2.1; omega) (by omega) h0 h1
 refine Dr.cond (fun _ => Dr.id3 ((leaf_dr b hb i h h0 h1).imp fun L hL => ⟨hL.1, by have := hL.2.1; omega, hL.2.2⟩)) fun _ => Dr.cond (fun _ => ?_) fun _ => Dr.cond (fun _ => ?_) fun _ => Dr.cond (fun _ => ?_) fun _ => Dr.cond (fun _ => ?_) fun _ => Dr.cond (fun _ => ?_) fun _ => Dr.cond (fun _ => ?_) fun _ => Dr.cond (fun _ => k1 _) fun _ => k1 _
 ·exact Dr.id3 ((hL1 deep i h hd (by omega) h0 h1).imp fun L hL => ⟨hL.1, by have := hL.2.1; rw [Nat.add_sub_cancel] at this; omega, hL.2.2⟩)
 ·refine Dr.bind (ex1 i h h0 h1) fun L i h hL h0 h1 => ?_
  exact make_dr b hb hN 6 0 [] (by simp) [L] _ (by simp) (s1 hL.1) (by rw [l1]; have := hL.2.1; omega) (by omega) h0 h1
 ·refine Dr.bind (word_dr b hb i h h0 h1) fun x i h hx h0 h1 => ?_
  dsimp only
  rw [w1]
  exact q x hx 7 (deep - 1) (by omega) (by omega) i h h0 h1
 ·refine Dr.bind (pick_le b hb 20 _ i h h0 h1 (by decide) (by decide)) fun x i h hx h0 h1 => ?_
  dsimp only
  rw [w2]
  exact q x hx 8 (deep - 2) (by omega) (by omega) i h h0 h1
 ·refine Dr.bind (lv1 i h h0 h1) fun L i h hL h0 h1 => ?_
  exact make_dr b hb hN 9 _ [] (by simp) [L] _ (by simp) (s1 hL.1) (by rw [l1]; have := hL.2.1; omega) (by omega) h0 h1
 ·refine Dr.bind (lv1 i h h0 h1) fun L i h hL h0 h1 => ?_
  exact make_dr b hb hN 10 _ [] (by simp) [L] _ (by simp) (s1 hL.1) (by rw [l1]; have := hL.2.1; omega) (by omega) h0 h1
theorem xd_zero {N : Nat} (hN : 1 ≤ N) : XD b N 0 := by
 intro deep i h hd hd2 h0 h1
 obtain ⟨N, rfl⟩ : ∃ m, N = m + 1 := ⟨N - 1, by omega⟩
 show Dr b _ (ms_l7Expr_F N (scc1 N) deep b i h)
 unfold ms_l7Expr_F
 have : decide (deep ≤ 0) = true := decide_eq_true (by omega)
 rw [this, cond_true]
 exact Dr.id3 (leaf_dr b hb i h h0 h1)
theorem xd_all : ∀ (d N : Nat), d ≤ 5 → 1048580 + 3 * d ≤ N → XD b N d := by
 intro d
 induction d using Nat.strongRecOn with
 | _ d ih =>
  intro N hd hN
  cases d with
  | zero => exact xd_zero b hb (by omega)
  | succ d =>
   obtain ⟨N, rfl⟩ : ∃ m, N = m + 2 := ⟨N - 2, by omega⟩
   have hX := ih d (by omega) (N + 1) (by omega) (by omega)
   have hX2 := ih d (by omega) N (by omega) (by omega)
   exact xd_succ b hb (by omega) (by omega) hX (ld_of b hb (by omega) (by omega) (ih (d - 1) (by omega) N (by omega) (by omega))) (ld_of b hb (by omega) (by omega) (by rw [Nat.add_sub_cancel]; exact hX2)) (qd_of b hb (by omega) hX2)
theorem expr_dr (N d : Nat) (hd : d ≤ 5) (hN : 1048700 ≤ N) (deep i h : Int) (h2 : deep ≤ (d : Int)) (h3 : -1000 ≤ deep) (h0 : 0 ≤ i) (h1 : i ≤ (b.length : Int)) : Dr b (EL (pw d)) (ms_l7Expr N deep b i h) := xd_all b hb d N hd (by omega) deep i h h2 h3 h0 h1
end

end Go.Proofs.Tryz

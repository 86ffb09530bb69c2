/-
  Plain lemmas on the models, part 6.
-/
import Derived.Test.YtefhoiablidajaaDoorDcP5
namespace Go.Proofs.Tryd
open Go.Av
set_option maxRecDepth 100000
set_option linter.unusedSimpArgs false
set_option linter.unusedVariables false

/-! ### drawing: bytes, numbers, choices -/
/-- a draw ends, and leaves the place within the code -/
def Dr {α : Type} (b : List UInt8) (P : α → Prop) (x : Option (α × Int × Int)) : Prop := ∃ a i h, x = some (a, i, h) ∧ P a ∧ 0 ≤ i ∧ i ≤ (b.length : Int)
theorem Dr.bind {α β : Type} {b : List UInt8} {P : α → Prop} {Q : β → Prop} {x : Option (α × Int × Int)} {f : α × Int × Int → Option (β × Int × Int)} (hx : Dr b P x) (hf : ∀ a i h, P a → 0 ≤ i → i ≤ (b.length : Int) → Dr b Q (f (a, i, h))) : Dr b Q (Option.bind x f) := by
  obtain ⟨a, i, h, rfl, h1, h2, h3⟩ := hx
  exact hf a i h h1 h2 h3
theorem Dr.some {α : Type} {b : List UInt8} {P : α → Prop} {a : α} {i h : Int} (ha : P a) (h0 : 0 ≤ i) (h1 : i ≤ (b.length : Int)) : Dr b P (some (a, i, h)) := ⟨a, i, h, rfl, ha, h0, h1⟩
theorem Dr.imp {α : Type} {b : List UInt8} {P Q : α → Prop} {x : Option (α × Int × Int)} (hx : Dr b P x) (h : ∀ a, P a → Q a) : Dr b Q x := by
  obtain ⟨a, i, k, rfl, h1, h2, h3⟩ := hx
  exact ⟨a, i, k, rfl, h a h1, h2, h3⟩
theorem Dr.cond {α : Type} {b : List UInt8} {P : α → Prop} {c : Bool} {x y : Option (α × Int × Int)} (hx : c = true → Dr b P x) (hy : c = false → Dr b P y) : Dr b P (bif c then x else y) := by
  cases c
  · exact hy rfl
  · exact hx rfl
theorem Dr.cat {α : Type} {b : List UInt8} {P : α → Prop} {u v : List UInt8} {f : List UInt8 → Option (α × Int × Int)} (h : u.length + v.length ≤ 140737488355328) (hf : (u ++ v).length = u.length + v.length → Dr b P (f (u ++ v))) : Dr b P (Option.bind (cat u v) f) := by
  rw [cat_some (by simp only [maxLen]; omega)]
  exact hf List.length_append
theorem Dr.id3 {α : Type} {b : List UInt8} {P : α → Prop} {x : Option (α × Int × Int)} (hx : Dr b P x) : Dr b P (Option.bind x fun r => Option.some (r.1, r.2.1, r.2.2)) := Dr.bind hx fun _ _ _ ha h0 h1 => Dr.some ha h0 h1

theorem and255 (x : Int) : 0 ≤ bits .and .i64 x 255 ∧ bits .and .i64 x 255 ≤ 255 := by
  have e : bits .and .i64 x 255 = IntKind.wrap .i64 (((BitVec.ofInt 64 x &&& BitVec.ofInt 64 255).toNat : Nat) : Int) := rfl
  have h : (BitVec.ofInt 64 x &&& BitVec.ofInt 64 255).toNat ≤ 255 := by
    rw [BitVec.toNat_and]
    exact Nat.and_le_right
  rw [e, wrap64 (by omega) (by omega)]
  omega

section
set_option linter.unusedSectionVars false
variable (b : List UInt8) (hb : b.length ≤ 1048576)
include hb
theorem byte_dr (i h : Int) (h0 : 0 ≤ i) (h1 : i ≤ (b.length : Int)) : Dr b (fun x => 0 ≤ x ∧ x ≤ 255) (m_spec_l1Byte b i h) := by
  unfold m_spec_l1Byte m_spec_l1Byte_k1
  refine Dr.cond (fun hc => ?_) fun hc => ?_
  · have hc := of_decide_eq_true hc
    obtain ⟨n, rfl⟩ := Int.eq_ofNat_of_zero_le h0
    have hn : n < b.length := by omega
    rw [ix_nat hn, Option.bind_some]
    exact Dr.some (and255 _) (by rw [wrap64 (by omega) (by omega)]; omega) (by rw [wrap64 (by omega) (by omega)]; omega)
  · exact Dr.some (and255 _) h0 h1
theorem rem_dr {P : Int → Prop} {x n i h : Int} (hx : 0 ≤ x) (hn : 0 < n) (h0 : 0 ≤ i) (h1 : i ≤ (b.length : Int)) (hP : ∀ r, 0 ≤ r → r < n → P r) : Dr b P (Option.bind (remO x n) fun y => some (y, i, h)) := by
  unfold remO
  have : (n == 0) = false := by simp; omega
  rw [this, cond_false, Option.bind_some]
  exact Dr.some (hP _ (Int.tmod_nonneg _ hx) (Int.tmod_lt_of_pos _ hn)) h0 h1
theorem below_dr (n i h : Int) (h0 : 0 ≤ i) (h1 : i ≤ (b.length : Int)) : Dr b (fun r => 0 ≤ r ∧ (r < n ∨ n ≤ 0 ∧ r = 0)) (m_spec_l1Below n b i h) := by
  unfold m_spec_l1Below
  refine Dr.cond (fun hc => ?_) fun hc => Dr.cond (fun hc2 => ?_) fun hc2 => ?_
  · have hc := of_decide_eq_true hc
    exact Dr.some ⟨by omega, .inr ⟨hc, rfl⟩⟩ h0 h1
  · have hc := of_decide_eq_false hc
    exact Dr.bind (byte_dr b hb i h h0 h1) fun x i h hx h0 h1 => rem_dr b hb hx.1 (by omega) h0 h1 fun r g1 g2 => ⟨g1, .inl g2⟩
  · have hc := of_decide_eq_false hc
    refine Dr.bind (byte_dr b hb i h h0 h1) fun x i h hx h0 h1 => Dr.bind (byte_dr b hb i h h0 h1) fun y i h hy h0 h1 => Dr.bind (byte_dr b hb i h h0 h1) fun z i h hz h0 h1 => Dr.bind (byte_dr b hb i h h0 h1) fun w i h hw h0 h1 => ?_
    refine rem_dr b hb ?_ (by omega) h0 h1 fun r g1 g2 => ⟨g1, .inl g2⟩
    dsimp only
    rw [wrap64 (n := x * 16777216) (by omega) (by omega), wrap64 (n := y * 65536) (by omega) (by omega), wrap64 (n := x * 16777216 + y * 65536) (by omega) (by omega), wrap64 (n := z * 256) (by omega) (by omega), wrap64 (n := x * 16777216 + y * 65536 + z * 256) (by omega) (by omega), wrap64 (by omega) (by omega)]
    omega
theorem pick_dr {P : List UInt8 → Prop} (l : List (List UInt8)) (i h : Int) (h0 : 0 ≤ i) (h1 : i ≤ (b.length : Int)) (hl : 0 < l.length) (hP : ∀ x, x ∈ l → P x) : Dr b P (m_spec_l1Pick l b i h) := by
  unfold m_spec_l1Pick
  refine Dr.bind (below_dr b hb _ i h h0 h1) fun r i h hr h0 h1 => ?_
  obtain ⟨n, rfl⟩ := Int.eq_ofNat_of_zero_le hr.1
  have hn : n < l.length := by rcases hr.2 with h | h <;> omega
  dsimp only
  have e : ix l (n : Int) = some l[n] := ix_nat hn
  rw [e, Option.bind_some]
  exact Dr.some (hP _ (List.getElem_mem hn)) h0 h1
theorem once_dr (n i h : Int) (h0 : 0 ≤ i) (h1 : i ≤ (b.length : Int)) : Dr b (fun _ => True) (m_spec_l1Once n b i h) := Dr.bind (below_dr b hb _ i h h0 h1) fun _ _ _ _ h0 h1 => Dr.some trivial h0 h1
theorem pickInt_dr {P : Int → Prop} (l : List Int) (i h : Int) (h0 : 0 ≤ i) (h1 : i ≤ (b.length : Int)) (hl : 0 < l.length) (hP : ∀ x, x ∈ l → P x) : Dr b P (m_spec_l1PickInt l b i h) := by
  unfold m_spec_l1PickInt
  refine Dr.bind (below_dr b hb _ i h h0 h1) fun r i h hr h0 h1 => ?_
  obtain ⟨n, rfl⟩ := Int.eq_ofNat_of_zero_le hr.1
  have hn : n < l.length := by rcases hr.2 with h | h <;> omega
  dsimp only
  have e : ix l (n : Int) = some l[n] := ix_nat hn
  rw [e, Option.bind_some]
  exact Dr.some (hP _ (List.getElem_mem hn)) h0 h1
/-- a text of few bytes -/
theorem pick_le (m : Nat) (l : List (List UInt8)) (i h : Int) (h0 : 0 ≤ i) (h1 : i ≤ (b.length : Int)) (hl : 0 < l.length) (hP : (l.all fun x => decide (x.length ≤ m)) = true) : Dr b (fun x => x.length ≤ m) (m_spec_l1Pick l b i h) :=
  pick_dr b hb l i h h0 h1 hl fun x hx => of_decide_eq_true (List.all_eq_true.1 hP x hx)

/-! ### drawing documents -/
def DP (d : SDoc) : Prop := d.text.length ≤ 9
def pw5 : Nat → Nat
  | 0 => 1
  | n + 1 => 5 * pw5 n + 1
omit hb in
theorem pw5_pos : ∀ n, 1 ≤ pw5 n
  | 0 => by rw [pw5]; omega
  | n + 1 => by have := pw5_pos n; rw [pw5]; omega
/-- a list that is a small document's -/
def DLs (m : Nat) (L : List SDNode) : Prop := ∃ t : SDoc, L = dl 0 t ∧ dz t ≤ m ∧ allD DP t
omit hb in
theorem dls_one (k : Int) (x : List UInt8) (hx : x.length ≤ 9) : DLs 1 [(⟨k, 0, x, []⟩ : SDNode)] := ⟨⟨k, 0, x, [], 0⟩, by rw [dl, dls, dE]; rfl, by rw [dz, dzs]; omega, by rw [allD, allDs]; exact ⟨hx, trivial⟩⟩
omit hb in
theorem DLs.le {m n : Nat} {L : List SDNode} (h : DLs m L) (hmn : m ≤ n) : DLs n L := by
  obtain ⟨t, h1, h2, h3⟩ := h
  exact ⟨t, h1, by omega, h3⟩
/-- a node over parts -/
theorem over_dr {N : Nat} (hN : 1048577 < N) (k n : Int) (ts : List SDoc) (m : Nat) (hk : dzs ts + 1 ≤ m) (hm : m ≤ 100000) (ht : allDs DP ts) {i h : Int} (h0 : 0 ≤ i) (h1 : i ≤ (b.length : Int)) : Dr b (DLs m) (Option.bind (m_spec_l15Over N k n (ts.map (dl 0))) fun r => some (r, i, h)) := by
  rw [over_is N k n ts hN (by omega), Option.bind_some]
  exact Dr.some ⟨_, rfl, by rw [dz]; omega, by rw [allD]; exact ⟨by show (([] : List UInt8)).length ≤ 9; simp, ht⟩⟩ h0 h1
def XDo (N d : Nat) : Prop := ∀ (deep i h : Int), deep ≤ (d : Int) → 0 ≤ deep → 0 ≤ i → i ≤ (b.length : Int) → Dr b (DLs (pw5 d)) ((scc1 N).m_spec_l15Draw deep b i h)
omit hb in
theorem allDs_app {P : SDoc → Prop} : ∀ {a c : List SDoc}, allDs P a → allDs P c → allDs P (a ++ c)
  | [], c, _, h => h
  | t :: a, c, h, h' => by
    rw [allDs] at h
    rw [List.cons_append, allDs]
    exact ⟨h.1, allDs_app h.2 h'⟩
theorem parts_dr {N d : Nat} (hN : 1048577 < N) (hd5 : d ≤ 5) (hpw : 5 * pw5 d + 1 ≤ 100000) (hX : XDo b N d) (deep : Int) (hd : deep - 1 ≤ (d : Int)) (hd2 : 1 ≤ deep) (hd3 : deep ≤ 100) : ∀ (c n : Nat) (i h : Int) (ts : List SDoc), c < n → ts.length + c ≤ 5 → dzs ts ≤ ts.length * pw5 d → allDs DP ts → 0 ≤ i → i ≤ (b.length : Int) →
    Dr b (DLs (5 * pw5 d + 1)) (m_spec_l15Draw_l5 N (scc1 N) b n (deep, (c : Int), i, h, ts.map (dl 0))) := by
  intro c
  induction c with
  | zero =>
    intro n i h ts hn hl hz ht h0 h1
    obtain ⟨n, rfl⟩ : ∃ k, n = k + 1 := ⟨n - 1, by omega⟩
    rw [m_spec_l15Draw_l5]
    have : ts.length * pw5 d ≤ 5 * pw5 d := Nat.mul_le_mul_right _ (by omega)
    exact over_dr b hb hN 6 0 ts _ (by omega) hpw ht h0 h1
  | succ c ih =>
    intro n i h ts hn hl hz ht h0 h1
    obtain ⟨n, rfl⟩ : ∃ k, n = k + 1 := ⟨n - 1, by omega⟩
    rw [m_spec_l15Draw_l5, decide_eq_true (show ((c + 1 : Nat) : Int) > 0 by omega), cond_true, wrap64 (n := deep - 1) (by omega) (by omega)]
    refine Dr.bind (hX (deep - 1) i h hd (by omega) h0 h1) fun L i h hL h0 h1 => ?_
    obtain ⟨t, rfl, g2, g3⟩ := hL
    dsimp only
    rw [app_some (by simp; omega), Option.bind_some, wrap64 (by omega) (by omega), show ((c + 1 : Nat) : Int) - 1 = (c : Int) by omega]
    have := ih n i h (ts ++ [t]) (by omega) (by simp; omega) (by rw [dzs_app, dzs, dzs, List.length_append, List.length_singleton, Nat.add_mul, Nat.one_mul]; omega) (allDs_app ht (by rw [allDs, allDs]; exact ⟨g3, trivial⟩)) h0 h1
    rw [List.map_append] at this
    exact this

/-- one choice -/
theorem k1_dr {N d : Nat} (hN : 1048577 < N) (hd5 : d ≤ 5) (hpw : 5 * pw5 d + 1 ≤ 100000) (m : Nat) (hm : 1 ≤ m) (deep y i h : Int) (hy : 0 ≤ y)
    (hX : y ≤ 3 ∨ XDo b N d ∧ deep - 1 ≤ (d : Int) ∧ 1 ≤ deep ∧ deep ≤ 100 ∧ 5 * pw5 d + 1 ≤ m) (i0 : 0 ≤ i) (i1 : i ≤ (b.length : Int)) : Dr b (DLs m) (m_spec_l15Draw_k1 N (scc1 N) b (deep, y, i, h)) := by
  have one : ∀ (k : Int) (x : List UInt8) (i h : Int), x.length ≤ 9 → 0 ≤ i → i ≤ (b.length : Int) → Dr b (DLs m) (some ([(⟨k, 0, x, []⟩ : SDNode)], i, h)) := fun k x i h hx h0 h1 => Dr.some ((dls_one k x hx).le hm) h0 h1
  have k4 : ∀ (c : Bool), 4 < y → Dr b (DLs m) (m_spec_l15Draw_k4 N (scc1 N) b (deep, i, h, c)) := fun c hy4 => by
    rcases hX with hX | ⟨hX, g1, g2, g3, g4⟩
    · omega
    · unfold m_spec_l15Draw_k4
      refine Dr.cond (fun _ => ?_) fun _ => ?_
      · rw [wrap64 (by omega) (by omega)]
        refine Dr.bind (hX (deep - 1) i h g1 (by omega) i0 i1) fun L i h hL h0 h1 => ?_
        obtain ⟨t, rfl, q2, q3⟩ := hL
        have := pw5_pos d
        exact (over_dr b hb hN 5 0 [t] (5 * pw5 d + 1) (by rw [dzs, dzs]; omega) (by omega) (by rw [allDs, allDs]; exact ⟨q3, trivial⟩) h0 h1).imp fun L hL => hL.le g4
      · refine Dr.bind (below_dr b hb 5 i h i0 i1) fun r i h hr h0 h1 => ?_
        have hr5 : r < 5 := by rcases hr.2 with h | h <;> omega
        obtain ⟨c, hc⟩ := Int.eq_ofNat_of_zero_le (show 0 ≤ 1 + r by omega)
        dsimp only
        rw [wrap64 (by omega) (by omega), hc]
        exact (parts_dr b hb hN hd5 hpw hX deep g1 g2 g3 c N i h [] (by omega) (by simp; omega) (by rw [dzs]; simp) (by rw [allDs]; trivial) h0 h1).imp fun L hL => hL.le g4
  have k3 : ∀ (c : Bool), (c = false → 3 < y) → Dr b (DLs m) (m_spec_l15Draw_k3 N (scc1 N) b (deep, y, i, h, c)) := fun c hc => by
    unfold m_spec_l15Draw_k3
    refine Dr.cond (fun _ => ?_) fun hf => ?_
    · refine Dr.bind (once_dr b hb 9 i h i0 i1) fun r i h _ h0 h1 => ?_
      exact Dr.cond (fun _ => one 3 [] i h (by simp) h0 h1) fun _ => one 2 [] i h (by simp) h0 h1
    · have hy3 := hc hf
      refine Dr.cond (fun h4 => ?_) fun h4 => ?_
      · rcases hX with hX | ⟨hX, g1, g2, g3, g4⟩
        · omega
        · refine Dr.bind (below_dr b hb 5 i h i0 i1) fun r i h hr h0 h1 => ?_
          dsimp only
          rw [wrap64 (by omega) (by omega)]
          refine Dr.bind (hX (deep - 1) i h g1 (by omega) h0 h1) fun L i h hL h0 h1 => ?_
          obtain ⟨t, rfl, q2, q3⟩ := hL
          have := pw5_pos d
          exact (over_dr b hb hN 4 r [t] (5 * pw5 d + 1) (by rw [dzs, dzs]; omega) (by omega) (by rw [allDs, allDs]; exact ⟨q3, trivial⟩) h0 h1).imp fun L hL => hL.le g4
      · have hy4 : 4 < y := by
          have : ¬ y = 4 := by simpa using h4
          omega
        exact Dr.cond (fun _ => k4 _ hy4) fun _ => k4 _ hy4
  have k2 : ∀ (c : Bool), (c = false → 1 < y) → Dr b (DLs m) (m_spec_l15Draw_k2 N (scc1 N) b (deep, y, i, h, c)) := fun c hc => by
    unfold m_spec_l15Draw_k2
    refine Dr.cond (fun _ => ?_) fun hf => ?_
    · refine Dr.bind (pick_le b hb 9 _ i h i0 i1 (by decide) (by decide)) fun x i h hx h0 h1 => ?_
      exact one 1 x i h hx h0 h1
    · have hy1 := hc hf
      refine Dr.cond (fun h2 => k3 _ fun e => ?_) fun h2 => k3 _ fun e => ?_
      · rw [h2] at e; cases e
      · have : ¬ y = 2 := by simpa using h2
        have : ¬ y = 3 := by simpa using e
        omega
  unfold m_spec_l15Draw_k1
  refine Dr.cond (fun h0 => k2 _ fun e => ?_) fun h0 => k2 _ fun e => ?_
  · rw [h0] at e; cases e
  · have : ¬ y = 0 := by simpa using h0
    have : ¬ y = 1 := by simpa using e
    omega
theorem ddraw_dr {N : Nat} (hN : 1048577 < N) : ∀ d : Nat, d ≤ 5 → XDo b (N + d + 1) d := by
  intro d
  have hpw : ∀ e : Nat, e ≤ 4 → 5 * pw5 e + 1 ≤ 100000 := fun e he => by
    have : e = 0 ∨ e = 1 ∨ e = 2 ∨ e = 3 ∨ e = 4 := by omega
    rcases this with rfl | rfl | rfl | rfl | rfl <;> decide
  have F : ∀ (M e m : Nat), 1048577 < M → e ≤ 4 → 1 ≤ m → ∀ (deep i h : Int), deep ≤ 0 ∨ XDo b M e ∧ deep - 1 ≤ (e : Int) ∧ 1 ≤ deep ∧ deep ≤ 100 ∧ 5 * pw5 e + 1 ≤ m → 0 ≤ i → i ≤ (b.length : Int) → Dr b (DLs m) (m_spec_l15Draw_F M (scc1 M) deep b i h) := fun M e m hM he hm deep i h hx i0 i1 => by
    unfold m_spec_l15Draw_F
    refine Dr.bind (below_dr b hb _ i h i0 i1) fun r i h hr i0 i1 => ?_
    have hcond : ∀ c : Bool, (bif c then some (decide (r > 3)) else some false) = some (c && decide (r > 3)) := fun c => by cases c <;> rfl
    dsimp only
    rw [hcond, Option.bind_some]
    refine Dr.cond (fun hc => ?_) fun hc => ?_
    · refine Dr.bind (below_dr b hb 4 i h i0 i1) fun r i h hr i0 i1 => ?_
      exact k1_dr b hb (d := e) (by omega) (by omega) (hpw e he) m hm deep r i h hr.1 (.inl (by rcases hr.2 with h | h <;> omega)) i0 i1
    · refine k1_dr b hb (d := e) (by omega) (by omega) (hpw e he) m hm deep r i h hr.1 ?_ i0 i1
      rcases hx with hx | hx
      · rw [decide_eq_true hx, Bool.true_and] at hc
        exact .inl (by have := of_decide_eq_false hc; omega)
      · exact .inr hx
  induction d with
  | zero =>
    intro hd deep i h h0 h1 i0 i1
    exact F (N + 0) 0 _ (by omega) (by omega) (pw5_pos 0) deep i h (.inl (by omega)) i0 i1
  | succ d ih =>
    intro hd deep i h h0 h1 i0 i1
    refine F (N + d + 1) d _ (by omega) (by omega) (pw5_pos _) deep i h ?_ i0 i1
    by_cases g : deep ≤ 0
    · exact .inl g
    · exact .inr ⟨ih (by omega), by omega, by omega, by omega, by rw [pw5]; omega⟩
/-- a document as the law draws it -/
def AnyD (L : List SDNode) : Prop := L.length ≤ 4000 ∧ ∀ x, x ∈ L → x.Text.length ≤ 9 ∧ x.Kids.length ≤ 4001
omit hb in
theorem any_of {L : List SDNode} (h : DLs (pw5 5) L) : AnyD L ∧ 1 ≤ L.length ∧ ∀ x, x ∈ L → x.Kids.length ≤ 4000 := by
  obtain ⟨t, rfl, h2, h3⟩ := h
  have hp : pw5 5 = 3906 := by decide
  have hk : ∀ x, x ∈ dl 0 t → x.Kids.length ≤ 4000 := fun x hx => by have := dl_kids t 0 x hx; omega
  have ht : ∀ (d : SDoc) (c : Nat), allD DP d → ∀ x, x ∈ dl c d → x.Text.length ≤ 9 := by
    intro d
    induction d using SDoc.ind with
    | h d ih =>
      obtain ⟨k, n, z, ks, g⟩ := d
      intro c hd x hx
      rw [allD] at hd
      rw [dl] at hx
      rcases List.mem_append.1 hx with hx | hx
      · have key : ∀ us : List SDoc, (∀ u, u ∈ us → u ∈ ks) → ∀ c x, x ∈ dls c us → x.Text.length ≤ 9 := fun us => by
          induction us with
          | nil => intro _ c x hx; rw [dls] at hx; cases hx
          | cons u us ih2 =>
            intro hu c x hx
            rw [dls] at hx
            rcases List.mem_append.1 hx with hx | hx
            · exact ih u (hu u (by simp)) c (allDs_mem hd.2 (hu u (by simp))) x hx
            · exact ih2 (fun v hv => hu v (by simp [hv])) _ x hx
        exact key ks (fun u hu => hu) c x hx
      · rw [List.mem_singleton.1 hx]; exact hd.1
  exact ⟨⟨by rw [dl_len]; omega, fun x hx => ⟨ht t 0 h3 x hx, by have := hk x hx; omega⟩⟩, by rw [dl_len]; exact dz_pos t, hk⟩
theorem any_dr {N : Nat} (hN : 1048577 + 10 < N) (i h : Int) (i0 : 0 ≤ i) (i1 : i ≤ (b.length : Int)) : Dr b AnyD (m_spec_l15Any N b i h) := by
  unfold m_spec_l15Any
  obtain ⟨M, rfl⟩ : ∃ M, N = M + 5 + 1 := ⟨N - 6, by omega⟩
  refine Dr.bind (ddraw_dr b hb (N := M) (by omega) 5 (Nat.le_refl 5) 5 i h (by omega) (by omega) i0 i1) fun L i h hL i0 i1 => ?_
  obtain ⟨⟨hl, hs⟩, h1, hk⟩ := any_of hL
  refine Dr.bind (below_dr b hb _ i h i0 i1) fun r i h hr i0 i1 => ?_
  obtain ⟨r, rfl⟩ := Int.eq_ofNat_of_zero_le hr.1
  have hr2 := hr.2
  dsimp only at hr2
  have hrl : r < L.length := by rcases hr2 with h | h <;> omega
  dsimp only
  have up : ∀ (x : SDNode) (i h : Int), x.Text.length ≤ 9 → x.Kids.length ≤ 4001 → 0 ≤ i → i ≤ (b.length : Int) → Dr b AnyD (Option.bind (upd L (r : Int) x) fun x41 => m_spec_l15Any_k1 (M + 5 + 1) b (x41, i, h)) := fun x i h hx hx2 i0 i1 => by
    rw [upd_nat hrl, Option.bind_some]
    refine Dr.some ⟨by simpa using hl, fun y hy => ?_⟩ i0 i1
    rcases List.mem_or_eq_of_mem_set hy with hy | rfl
    · exact hs y hy
    · exact ⟨hx, hx2⟩
  have hm := List.getElem_mem hrl
  have hx1 := (hs _ hm).1
  have hx2 := hk _ hm
  refine Dr.bind (below_dr b hb 16 i h i0 i1) fun q i h hq i0 i1 => ?_
  have e : ix L (r : Int) = some L[r] := ix_nat hrl
  have hcut := cut_nat (l := L) (Nat.zero_le r) (by omega)
  simp only [List.drop_zero, Nat.sub_zero] at hcut
  have hcut' : cut L 0 (r : Int) = some (L.take r) := hcut
  dsimp only
  rw [e, hcut']
  simp only [Option.bind_some]
  refine Dr.cond (fun _ => ?_) fun _ => Dr.cond (fun _ => ?_) fun _ => Dr.cond (fun _ => ?_) fun _ => Dr.cond (fun _ => ?_) fun _ => Dr.cond (fun _ => ?_) fun _ => ?_
  · exact Dr.bind (below_dr b hb 8 i h i0 i1) fun q i h hq i0 i1 => up _ i h hx1 (by show L[r].Kids.length ≤ _; omega) i0 i1
  · exact Dr.bind (pickInt_dr b hb (P := fun _ => True) _ i h i0 i1 (by decide) fun _ _ => trivial) fun q i h hq i0 i1 => up _ i h hx1 (by show L[r].Kids.length ≤ _; omega) i0 i1
  · exact up _ i h (by show ([120, 10, 121] : List UInt8).length ≤ 9; decide) (by show L[r].Kids.length ≤ _; omega) i0 i1
  · rw [app_some (by simp; omega), Option.bind_some]
    exact up _ i h hx1 (by show (L[r].Kids ++ [(r : Int)]).length ≤ _; simp; omega) i0 i1
  · exact Dr.some ⟨by rw [List.length_take]; omega, fun y hy => hs y (List.mem_of_mem_take hy)⟩ i0 i1
  · exact Dr.some ⟨hl, hs⟩ i0 i1
end

end Go.Proofs.Tryd

/-
  Plain lemmas on the models, part 2.
-/
import Derived.Test.YtefhoiablidajaaDoorDcP1
namespace Go.Proofs.Tryd
open Go.Av
set_option maxRecDepth 100000
set_option linter.unusedSimpArgs false
set_option linter.unusedVariables false

/-! ### documents and their lists -/
mutual
def dz : SDoc → Nat
  | ⟨_, _, _, ks, _⟩ => dzs ks + 1
def dzs : List SDoc → Nat
  | [] => 0
  | t :: ts => dz t + dzs ts
end
mutual
/-- the nodes of a tree, so many ahead of it -/
def dl (b : Nat) : SDoc → List SDNode
  | ⟨k, o, t, ks, p⟩ => dls b ks ++ [⟨k, o, t, dE b ks⟩]
def dls (b : Nat) : List SDoc → List SDNode
  | [] => []
  | t :: ts => dl b t ++ dls (b + dz t) ts
/-- the last nodes of trees -/
def dE (b : Nat) : List SDoc → List Int
  | [] => []
  | t :: ts => (((b + dz t : Nat) : Int) - 1) :: dE (b + dz t) ts
end
mutual
theorem SDoc.ind {P : SDoc → Prop} (h : ∀ t : SDoc, (∀ k, k ∈ t.kids → P k) → P t) : ∀ t, P t
  | ⟨k, o, x, ks, y⟩ => h ⟨k, o, x, ks, y⟩ (SDoc.inds h ks)
theorem SDoc.inds {P : SDoc → Prop} (h : ∀ t : SDoc, (∀ k, k ∈ t.kids → P k) → P t) : ∀ (ks : List SDoc) k, k ∈ ks → P k
  | [], k, hk => by cases hk
  | t :: ts, k, hk => (List.mem_cons.1 hk).elim (fun e => e ▸ SDoc.ind h t) (SDoc.inds h ts k)
end
mutual
theorem dl_len : ∀ (t : SDoc) (b : Nat), (dl b t).length = dz t
  | ⟨k, o, x, ks, y⟩, b => by rw [dl, dz, List.length_append, dls_len ks b]; rfl
theorem dls_len : ∀ (ts : List SDoc) (b : Nat), (dls b ts).length = dzs ts
  | [], b => by rw [dls, dzs]; rfl
  | t :: ts, b => by rw [dls, dzs, List.length_append, dl_len t b, dls_len ts _]
end
theorem dz_pos (t : SDoc) : 1 ≤ dz t := by cases t; rw [dz]; omega
theorem dz_eq (t : SDoc) : dz t = dzs t.kids + 1 := by cases t; rw [dz]
theorem dzs_len : ∀ ts : List SDoc, ts.length ≤ dzs ts
  | [] => by simp [dzs]
  | t :: ts => by have := dz_pos t; have := dzs_len ts; rw [dzs]; simp only [List.length_cons]; omega
theorem dzs_mem : ∀ {ts : List SDoc} {t : SDoc}, t ∈ ts → dz t ≤ dzs ts
  | t' :: ts, t, h => by
    rw [dzs]
    rcases List.mem_cons.1 h with rfl | h
    · omega
    · have := dzs_mem h; omega
theorem dzs_app : ∀ (a b : List SDoc), dzs (a ++ b) = dzs a + dzs b
  | [], b => by simp [dzs]
  | t :: a, b => by rw [List.cons_append, dzs, dzs, dzs_app a b]; omega
theorem dls_app : ∀ (a b : List SDoc) (s : Nat), dls s (a ++ b) = dls s a ++ dls (s + dzs a) b
  | [], b, s => by simp [dls, dzs]
  | t :: a, b, s => by rw [List.cons_append, dls, dls, dzs, dls_app a b, List.append_assoc, Nat.add_assoc]
theorem dE_app : ∀ (a b : List SDoc) (s : Nat), dE s (a ++ b) = dE s a ++ dE (s + dzs a) b
  | [], b, s => by simp [dE, dzs]
  | t :: a, b, s => by rw [List.cons_append, dE, dE, dzs, dE_app a b, Nat.add_assoc]; rfl
theorem dE_len : ∀ (ts : List SDoc) (b : Nat), (dE b ts).length = ts.length
  | [], b => rfl
  | t :: ts, b => by rw [dE, List.length_cons, List.length_cons, dE_len ts _]

def shD (d : Int) (x : SDNode) : SDNode := ⟨x.Kind, x.N, x.Text, x.Kids.map (· + d)⟩
theorem shD_zero (x : SDNode) : shD 0 x = x := by
  unfold shD
  cases x
  simp
theorem shD_shD (d e : Int) (x : SDNode) : shD d (shD e x) = shD (e + d) x := by
  unfold shD
  simp only [List.map_map, SDNode.mk.injEq, true_and]
  refine List.map_congr_left fun k _ => ?_
  simp only [Function.comp_apply]
  omega
theorem map_shD_zero (l : List SDNode) : l.map (shD 0) = l := (List.map_congr_left fun x _ => shD_zero x).trans (List.map_id l)

mutual
theorem dl_sh : ∀ (t : SDoc) (b d : Nat), dl (b + d) t = (dl b t).map (shD d)
  | ⟨k, o, x, ks, y⟩, b, d => by
    rw [dl, dl, List.map_append, dls_sh ks b d, dE_sh ks b d]
    rfl
theorem dls_sh : ∀ (ts : List SDoc) (b d : Nat), dls (b + d) ts = (dls b ts).map (shD d)
  | [], b, d => rfl
  | t :: ts, b, d => by
    rw [dls, dls, List.map_append, dl_sh t b d, Nat.add_right_comm, dls_sh ts _ d]
theorem dE_sh : ∀ (ts : List SDoc) (b d : Nat), dE (b + d) ts = (dE b ts).map (· + (d : Int))
  | [], b, d => rfl
  | t :: ts, b, d => by
    rw [dE, dE, List.map_cons, Nat.add_right_comm, dE_sh ts _ d]
    congr 1
    omega
end
theorem dl_back (t : SDoc) (b : Nat) : (dl b t).map (shD (-(b : Int))) = dl 0 t := by
  have := dl_sh t 0 b
  rw [Nat.zero_add] at this
  rw [this, List.map_map]
  refine (List.map_congr_left fun x _ => ?_).trans (List.map_id _)
  simp only [Function.comp_apply, shD_shD]
  rw [show (b : Int) + -(b : Int) = 0 by omega, shD_zero]
  rfl

/-! ### the kids' numbers in such a list -/
theorem dE_range : ∀ (ts : List SDoc) (b : Nat) (k : Int), k ∈ dE b ts → 0 ≤ k ∧ k < b + dzs ts
  | [], b, k, h => by cases h
  | t :: ts, b, k, h => by
    rw [dE] at h
    rw [dzs]
    have := dz_pos t
    rcases List.mem_cons.1 h with rfl | h
    · omega
    · have := dE_range ts _ k h; omega
mutual
theorem dl_range : ∀ (t : SDoc) (b : Nat) (x : SDNode), x ∈ dl b t → ∀ k, k ∈ x.Kids → 0 ≤ k ∧ k < b + dz t
  | ⟨kd, o, x, ks, y⟩, b, n, h, k, hk => by
    rw [dl] at h
    rw [dz]
    rcases List.mem_append.1 h with h | h
    · have := dls_range ks b n h k hk; omega
    · rw [List.mem_singleton.1 h] at hk
      have := dE_range ks b k hk; omega
theorem dls_range : ∀ (ts : List SDoc) (b : Nat) (x : SDNode), x ∈ dls b ts → ∀ k, k ∈ x.Kids → 0 ≤ k ∧ k < b + dzs ts
  | [], b, n, h, k, hk => by rw [dls] at h; cases h
  | t :: ts, b, n, h, k, hk => by
    rw [dls] at h
    rw [dzs]
    rcases List.mem_append.1 h with h | h
    · have := dl_range t b n h k hk; omega
    · have := dls_range ts _ n h k hk; omega
end

theorem dadd_l (t : SDoc) (G : Nat) : ∀ (ts : List SDoc) (j n : Nat) (acc : List SDNode) (ids : List Int), (∀ k, k ∈ ts → ∀ acc : List SDNode, acc.length + dz k ≤ 1000000 → (scc3 G).m_impl_doc__add k acc = some (acc ++ dl acc.length k)) → t.kids.drop j = ts → ts.length < n →
    acc.length + dzs ts ≤ 999999 → ids.length + ts.length ≤ 1000000 → t.kids.length ≤ 1000000 →
    m_impl_doc__add_l1 G (scc3 G) n (t, (j : Int), acc, ids) = some (acc ++ dls acc.length ts ++ [⟨t.kind, t.n, t.text, ids ++ dE acc.length ts⟩])
  | [], j, n, acc, ids, ih, hd, hn, hacc, hids, htl => by
    obtain ⟨n, rfl⟩ : ∃ m, n = m + 1 := ⟨n - 1, by simp at hn; omega⟩
    have hj : ¬ j < t.kids.length := by
      intro h
      rw [drop_cons h] at hd
      cases hd
    rw [m_impl_doc__add_l1]
    simp only [lt_false hj, cond_false]
    rw [app_some (by simp; omega), Option.bind_some]
    simp [dls, dE]
  | k :: ts, j, n, acc, ids, ih, hd, hn, hacc, hids, htl => by
    simp only [List.length_cons] at hn hids
    rw [dzs] at hacc
    obtain ⟨n, rfl⟩ : ∃ m, n = m + 1 := ⟨n - 1, by omega⟩
    have hj : j < t.kids.length := by
      cases Nat.lt_or_ge j t.kids.length with
      | inl h => exact h
      | inr h => rw [List.drop_of_length_le h] at hd; cases hd
    rw [drop_cons hj] at hd
    injection hd with hd1 hd2
    have hsz := dz_pos k
    have hlen : (acc ++ dl acc.length k).length = acc.length + dz k := by rw [List.length_append, dl_len]
    rw [m_impl_doc__add_l1]
    simp only [lt_true hj, cond_true, ix_nat hj, hd1, Option.bind_some]
    rw [ih k (by simp) acc (by omega), Option.bind_some, hlen, wrap64 (by omega) (by omega), app_some (by simp; omega), Option.bind_some, wrap64 (by omega) (by omega)]
    have := dadd_l t G ts (j + 1) n (acc ++ dl acc.length k) (ids ++ [((acc.length + dz k : Nat) : Int) - 1]) (fun k' h' => ih k' (by simp [h'])) hd2 (by omega) (by rw [hlen]; omega) (by simp; omega) htl
    rw [hlen] at this
    rw [show ((j : Int) + 1) = ((j + 1 : Nat) : Int) by omega, this, dls, dE]
    simp only [List.append_assoc, List.cons_append, List.nil_append]

theorem dadd_is : ∀ (t : SDoc) (N : Nat) (acc : List SDNode), 2 * dz t + 2 ≤ N → acc.length + dz t ≤ 1000000 → (scc3 N).m_impl_doc__add t acc = some (acc ++ dl acc.length t) := by
  intro t
  induction t using SDoc.ind with
  | h t ih =>
    intro N acc hN ha
    obtain ⟨M, rfl⟩ : ∃ M, N = M + 1 := ⟨N - 1, by omega⟩
    have hsz := dz_eq t
    have htl := dzs_len t.kids
    show m_impl_doc__add_F M (scc3 M) t acc = _
    unfold m_impl_doc__add_F
    have := dadd_l t M t.kids 0 M acc [] (fun k hk acc' ha' => ih k hk M acc' (by have := dzs_mem hk; omega) ha') rfl (by omega) (by omega) (by simp; omega) (by omega)
    refine Eq.trans this ?_
    obtain ⟨kd, op, x, ts, y⟩ := t
    rw [dl]
    simp

theorem dlist_is (N : Nat) (t : SDoc) (hN : 2 * dz t + 2 ≤ N) (h : dz t ≤ 1000000) : m_impl_doc__list N t = some (dl 0 t) := by
  unfold m_impl_doc__list
  have := dadd_is t N [] hN (by simpa using h)
  show Option.bind ((scc3 N).m_impl_doc__add t []) _ = _
  rw [this]
  simp

theorem dshift_l2 (N : Nat) (kb : (List SDNode × Int × Int × List SDNode) → Option (List SDNode)) (a : List SDNode) (d : Int) (i : Nat) (hi : i < a.length) (hi2 : i ≤ 1048576) (out : List SDNode) (ho : out.length = i) (hk : a[i].Kids.length ≤ 1048576)
    (hr : ∀ k, k ∈ a[i].Kids → -9223372036854775808 ≤ k + d ∧ k + d ≤ 9223372036854775807) :
    ∀ (n j : Nat) (ks : List Int), a[i].Kids.length - j < n → j ≤ a[i].Kids.length → ks.length = j →
      m_spec_l15Shift_l2 N kb n (a, d, (i : Int), out, a[i], (j : Int), ks) = kb (a, d, ((i + 1 : Nat) : Int), out ++ [⟨a[i].Kind, a[i].N, a[i].Text, ks ++ (a[i].Kids.drop j).map (· + d)⟩]) := by
  intro n
  induction n with
  | zero => intro j ks h; omega
  | succ n ih =>
    intro j ks hn hj hks
    rw [m_spec_l15Shift_l2, ix_nat hi, Option.bind_some]
    by_cases h : j < a[i].Kids.length
    · have hx := hr _ (List.getElem_mem h)
      simp only [lt_true h, cond_true, ix_nat hi, ix_nat h, Option.bind_some, step64 h (by simp only [maxLen]; omega)]
      rw [wrap64 hx.1 hx.2, app_some (by simp; omega), Option.bind_some, ih (j + 1) _ (by omega) (by omega) (by simp [hks]), drop_cons h]
      simp only [List.map_cons, List.append_assoc, List.cons_append, List.nil_append]
    · simp only [lt_false h, cond_false]
      rw [app_some (by simp; omega), Option.bind_some, drop_nil h, wrap64 (by omega) (by omega)]
      simp

theorem dshift_l1 (N : Nat) (a : List SDNode) (d : Int) (hN : 1048577 < N) (ha : a.length ≤ 1048576) (hs : ∀ x, x ∈ a → x.Kids.length ≤ 1048576) (hr : ∀ x, x ∈ a → ∀ k, k ∈ x.Kids → -9223372036854775808 ≤ k + d ∧ k + d ≤ 9223372036854775807) :
    ∀ (n i : Nat) (out : List SDNode), a.length - i < n → i ≤ a.length → out.length = i → m_spec_l15Shift_l1 N n (a, d, (i : Int), out) = some (out ++ (a.drop i).map (shD d)) := by
  intro n
  induction n with
  | zero => intro i out h; omega
  | succ n ih =>
    intro i out hn hi ho
    rw [m_spec_l15Shift_l1]
    by_cases h : i < a.length
    · have hx := hs _ (List.getElem_mem h)
      simp only [lt_true h, cond_true, ix_nat h, Option.bind_some]
      have := dshift_l2 N (m_spec_l15Shift_l1 N n) a d i h (by omega) out ho (by omega) (hr _ (List.getElem_mem h)) N 0 [] (by omega) (by omega) rfl
      simp only [List.drop_zero, List.nil_append] at this
      refine Eq.trans this ?_
      rw [ih (i + 1) _ (by omega) (by omega) (by simp [ho]), drop_cons h]
      simp only [List.map_cons, List.append_assoc, List.cons_append, List.nil_append, shD]
    · simp only [lt_false h, cond_false]
      rw [drop_nil h]
      simp

theorem dshift_is (N : Nat) (a : List SDNode) (d : Int) (hN : 1048577 < N) (ha : a.length ≤ 1048576) (hs : ∀ x, x ∈ a → x.Kids.length ≤ 1048576) (hr : ∀ x, x ∈ a → ∀ k, k ∈ x.Kids → -9223372036854775808 ≤ k + d ∧ k + d ≤ 9223372036854775807) :
    m_spec_l15Shift N a d = some (a.map (shD d)) := by
  have := dshift_l1 N a d hN ha hs hr N 0 [] (by omega) (by omega) rfl
  rw [List.drop_zero, List.nil_append] at this
  exact this

mutual
theorem dl_kids : ∀ (t : SDoc) (b : Nat) (x : SDNode), x ∈ dl b t → x.Kids.length < dz t
  | ⟨kd, o, x, ks, y⟩, b, n, h => by
    rw [dl] at h
    rw [dz]
    rcases List.mem_append.1 h with h | h
    · have := dls_kids ks b n h; omega
    · rw [List.mem_singleton.1 h]
      have := dzs_len ks
      simp only [dE_len]
      omega
theorem dls_kids : ∀ (ts : List SDoc) (b : Nat) (x : SDNode), x ∈ dls b ts → x.Kids.length < dzs ts
  | [], b, n, h => by rw [dls] at h; cases h
  | t :: ts, b, n, h => by
    rw [dls] at h
    rw [dzs]
    rcases List.mem_append.1 h with h | h
    · have := dl_kids t b n h; omega
    · have := dls_kids ts _ n h; omega
end

/-- a tree's nodes, moved -/
theorem dshiftT_is (N : Nat) (t : SDoc) (b d : Nat) (hN : 1048577 < N) (h : b + d + dz t ≤ 1000000) : m_spec_l15Shift N (dl b t) (d : Int) = some (dl (b + d) t) := by
  rw [dl_sh]
  exact dshift_is N _ _ hN (by rw [dl_len]; omega) (fun x hx => by have := dl_kids t b x hx; omega) fun x hx k hk => by have := dl_range t b x hx k hk; omega

theorem over_l (N : Nat) (k0 n0 : Int) (ts : List SDoc) (hN : 1048577 < N) (hsz : dzs ts ≤ 900000) : ∀ (rest done : List SDoc) (n : Nat), done ++ rest = ts → rest.length < n →
    m_spec_l15Over_l1 N n (ts.map (dl 0), k0, n0, (done.length : Int), dls 0 done, dE 0 done) = some (dl 0 ⟨k0, n0, [], ts, 0⟩)
  | [], done, n, hd, hn => by
    obtain ⟨n, rfl⟩ : ∃ m, n = m + 1 := ⟨n - 1, by simp at hn; omega⟩
    rw [List.append_nil] at hd
    subst hd
    have hl := dzs_len done
    have : ¬ done.length < (done.map (dl 0)).length := by simp
    rw [m_spec_l15Over_l1]
    simp only [lt_false this, cond_false]
    rw [app_some (by rw [dls_len]; simp; omega), Option.bind_some, dl]
  | t :: rest, done, n, hd, hn => by
    simp only [List.length_cons] at hn
    obtain ⟨n, rfl⟩ : ∃ m, n = m + 1 := ⟨n - 1, by omega⟩
    have hlt : done.length < (ts.map (dl 0)).length := by rw [← hd]; simp
    have hlt2 : done.length < ts.length := by simpa using hlt
    have hx : (ts.map (dl 0))[done.length]'hlt = dl 0 t := by simp [← hd]
    have hsum : dzs done + dz t + dzs rest = dzs ts := by rw [← hd, dzs_app, dzs]; omega
    have hl := dzs_len done
    have hp := dz_pos t
    rw [m_spec_l15Over_l1]
    simp only [lt_true hlt, cond_true, ix_nat hlt, Option.bind_some, hx, dls_len]
    have hsh := dshiftT_is N t 0 (dzs done) hN (by omega)
    rw [Nat.zero_add] at hsh
    rw [hsh, Option.bind_some, app_some (by rw [dls_len, dl_len]; omega), Option.bind_some, List.length_append, dls_len, dl_len, wrap64 (n := ((dzs done + dz t : Nat) : Int) - 1) (by omega) (by omega), app_some (by rw [dE_len]; simp; omega), Option.bind_some, wrap64 (by omega) (by omega)]
    have := over_l N k0 n0 ts hN hsz rest (done ++ [t]) n (by simpa using hd) (by omega)
    rw [dls_app, dE_app, Nat.zero_add] at this
    simp only [dls, dE, List.append_nil, List.length_append, List.length_cons, List.length_nil] at this
    exact this

theorem over_is (N : Nat) (k0 n0 : Int) (ts : List SDoc) (hN : 1048577 < N) (hsz : dzs ts ≤ 900000) : m_spec_l15Over N k0 n0 (ts.map (dl 0)) = some (dl 0 ⟨k0, n0, [], ts, 0⟩) :=
  over_l N k0 n0 ts hN hsz ts [] N rfl (by have := dzs_len ts; omega)

/-! ### documents: trees and lists -/
mutual
def allD (P : SDoc → Prop) : SDoc → Prop
  | ⟨k, n, x, ks, g⟩ => P ⟨k, n, x, ks, g⟩ ∧ allDs P ks
def allDs (P : SDoc → Prop) : List SDoc → Prop
  | [] => True
  | t :: ts => allD P t ∧ allDs P ts
end
theorem docN_len {k n : Int} {x : List UInt8} {a b : List Int} (h : a.length = b.length) : docN ⟨k, n, x, a⟩ = docN ⟨k, n, x, b⟩ := by
  unfold docN
  simp only [h]

mutual
theorem allD_dl (P : SDoc → Prop) (Q : SDNode → Prop) (hPQ : ∀ d b, Q ⟨d.kind, d.n, d.text, dE b d.kids⟩ → P d) : ∀ (t : SDoc) (b : Nat), (∀ x, x ∈ dl b t → Q x) → allD P t
  | ⟨k, n, x, ks, g⟩, b, h => by
    rw [dl] at h
    rw [allD]
    exact ⟨hPQ ⟨k, n, x, ks, g⟩ b (h _ (by simp)), allDs_dls P Q hPQ ks b fun x hx => h x (List.mem_append_left _ hx)⟩
theorem allDs_dls (P : SDoc → Prop) (Q : SDNode → Prop) (hPQ : ∀ d b, Q ⟨d.kind, d.n, d.text, dE b d.kids⟩ → P d) : ∀ (ts : List SDoc) (b : Nat), (∀ x, x ∈ dls b ts → Q x) → allDs P ts
  | [], _, _ => by rw [allDs]; trivial
  | t :: ts, b, h => by
    rw [dls] at h
    rw [allDs]
    exact ⟨allD_dl P Q hPQ t b fun x hx => h x (List.mem_append_left _ hx), allDs_dls P Q hPQ ts _ fun x hx => h x (List.mem_append_right _ hx)⟩
end
def partD (a : List SDNode) (s e : Nat) : List SDNode := (a.drop s).take (e - s)
theorem partD_cat {a : List SDNode} {s m e : Nat} (h1 : s ≤ m) (h2 : m ≤ e) : partD a s m ++ partD a m e = partD a s e := by
  unfold partD
  rw [show e - s = (m - s) + (e - m) by omega, List.take_add, List.drop_drop, show s + (m - s) = m by omega]
theorem partD_one {a : List SDNode} {i : Nat} (h : i < a.length) : partD a i (i + 1) = [a[i]] := by
  unfold partD
  rw [show i + 1 - i = 1 by omega, List.drop_eq_getElem_cons h]
  rfl
theorem partD_nil (a : List SDNode) (i : Nat) : partD a i i = [] := by
  unfold partD
  simp
theorem partD_len {a : List SDNode} {s e : Nat} (h : e ≤ a.length) : (partD a s e).length = e - s := by
  unfold partD
  rw [List.length_take, List.length_drop]
  omega
/-- the tree's list is the part -/
def GDs (a : List SDNode) : List SDoc → Nat → Nat → List Int → Prop
  | [], s, b, [] => s = b
  | t :: ts, s, b, k :: ks => 0 ≤ k ∧ s ≤ k.toNat ∧ k.toNat < b ∧ dl s t = partD a s (k.toNat + 1) ∧ GDs a ts (k.toNat + 1) b ks
  | _, _, _, _ => False
theorem GDs.is {a : List SDNode} : ∀ {ts : List SDoc} {s b : Nat} {ks : List Int}, b ≤ a.length → GDs a ts s b ks → s ≤ b ∧ dls s ts = partD a s b ∧ dE s ts = ks
  | [], s, b, [], _, h => by simp only [GDs] at h; subst h; exact ⟨Nat.le_refl _, by rw [partD_nil, dls], by rw [dE]⟩
  | t :: ts, s, b, k :: ks, hb, ⟨h0, h1, h2, h3, h4⟩ => by
    obtain ⟨g1, g2, g3⟩ := h4.is hb
    have hl := dl_len t s
    rw [h3, partD_len (by omega)] at hl
    have e : s + dz t = k.toNat + 1 := by omega
    refine ⟨by omega, ?_, ?_⟩
    · rw [dls, e, g2, h3, partD_cat (by omega) (by omega)]
    · rw [dE, e, g3, show ((k.toNat + 1 : Nat) : Int) - 1 = k by omega]
  | [], _, _, _ :: _, _, h => h.elim
  | _ :: _, _, _, [], _, h => h.elim
theorem groups_l (N : Nat) (a : List SDNode) (ha : a.length ≤ 1048576) : ∀ (n i : Nat) (g : Int), a.length - i < n → i ≤ a.length → 0 ≤ g → g ≤ (i : Int) → m_impl_GroupsIn_l1 N n (a, g, (i : Int)) = some (g + (((a.drop i).countP fun x => x.Kind == 5 : Nat) : Int)) := by
  intro n
  induction n with
  | zero => intro i g h; omega
  | succ n ih =>
    intro i g hn hi h0 h1
    rw [m_impl_GroupsIn_l1]
    by_cases h : i < a.length
    · simp only [lt_true h, cond_true, ix_nat h, Option.bind_some, m_impl_GroupsIn_k2, step64 h (by simp only [maxLen]; omega)]
      rw [List.drop_eq_getElem_cons h, List.countP_cons]
      cases hk : (a[i].Kind == 5) with
      | true =>
        simp only [cond_true, if_true]
        rw [wrap64 (by omega) (by omega), ih (i + 1) _ (by omega) (by omega) (by omega) (by omega)]
        congr 1
        omega
      | false =>
        simp only [cond_false]
        rw [ih (i + 1) _ (by omega) (by omega) h0 (by omega)]
        simp
    · simp only [lt_false h, cond_false]
      rw [drop_nil h]
      simp
theorem groups_is (N : Nat) (a : List SDNode) (ha : a.length ≤ 1048576) (hN : a.length < N) : m_impl_GroupsIn N a = some ((a.countP fun x => x.Kind == 5 : Nat) : Int) := by
  have := groups_l N a ha N 0 0 (by omega) (by omega) (by omega) (by omega)
  rw [List.drop_zero, Int.zero_add] at this
  exact this
theorem sgroups_l (N : Nat) (a : List SDNode) (ha : a.length ≤ 1048576) : ∀ (n i : Nat) (g : Int), a.length - i < n → i ≤ a.length → 0 ≤ g → g ≤ (i : Int) → m_spec_GroupsIn_l1 N n (a, g, (i : Int)) = some (g + (((a.drop i).countP fun x => x.Kind == 5 : Nat) : Int)) := by
  intro n
  induction n with
  | zero => intro i g h; omega
  | succ n ih =>
    intro i g hn hi h0 h1
    rw [m_spec_GroupsIn_l1]
    by_cases h : i < a.length
    · simp only [lt_true h, cond_true, ix_nat h, Option.bind_some, m_spec_GroupsIn_k2, step64 h (by simp only [maxLen]; omega)]
      rw [List.drop_eq_getElem_cons h, List.countP_cons]
      cases hk : (a[i].Kind == 5) with
      | true =>
        simp only [cond_true, if_true]
        rw [wrap64 (by omega) (by omega), ih (i + 1) _ (by omega) (by omega) (by omega) (by omega)]
        congr 1
        omega
      | false =>
        simp only [cond_false]
        rw [ih (i + 1) _ (by omega) (by omega) h0 (by omega)]
        simp
    · simp only [lt_false h, cond_false]
      rw [drop_nil h]
      simp
theorem sgroups_is (N : Nat) (a : List SDNode) (ha : a.length ≤ 1048576) (hN : a.length < N) : m_spec_GroupsIn N a = some ((a.countP fun x => x.Kind == 5 : Nat) : Int) := by
  have := sgroups_l N a ha N 0 0 (by omega) (by omega) (by omega) (by omega)
  rw [List.drop_zero, Int.zero_add] at this
  exact this

theorem docD_l (N : Nat) (R : Rec2) (a : List SDNode) (r : List Int) (e : SDNode) (g : Int) (i : Nat) (hi : i ≤ 100000) (hR : ∀ k s' : Nat, k < i → r[k]? = some (s' : Int) → ∃ t, R.m_impl_docAt a (k : Int) = some t ∧ dl s' t = partD a s' (k + 1))
    (hel : e.Kids.length ≤ 100000) : ∀ (ks : List Int) (s j n : Nat) (acc : List SDoc), e.Kids.drop j = ks → Go.Av.Kids r (s : Int) (i : Int) ks → ks.length < n → acc.length + ks.length ≤ 100000 →
    ∃ ts, m_impl_docAt_l1 N R n (a, e, g, (j : Int), acc) = some ⟨e.Kind, e.N, e.Text, acc ++ ts, g⟩ ∧ GDs a ts s i ks := by
  intro ks
  induction ks with
  | nil =>
    intro s j n acc hk hkids hn hacc
    obtain ⟨n, rfl⟩ : ∃ m, n = m + 1 := ⟨n - 1, by simp at hn; omega⟩
    have hj : ¬ j < e.Kids.length := by
      intro h
      rw [drop_cons h] at hk
      cases hk
    rw [m_impl_docAt_l1]
    simp only [lt_false hj, cond_false]
    simp only [Go.Av.Kids] at hkids
    exact ⟨[], by simp, by simp only [GDs]; omega⟩
  | cons k ks ih =>
    intro s j n acc hk hkids hn hacc
    simp only [List.length_cons] at hn hacc
    obtain ⟨n, rfl⟩ : ∃ m, n = m + 1 := ⟨n - 1, by omega⟩
    have hj : j < e.Kids.length := by
      cases Nat.lt_or_ge j e.Kids.length with
      | inl h => exact h
      | inr h => rw [List.drop_of_length_le h] at hk; cases hk
    rw [drop_cons hj] at hk
    injection hk with hk1 hk2
    obtain ⟨h0, h1, h2, h3, h4⟩ := hkids
    obtain ⟨k, rfl⟩ := Int.eq_ofNat_of_zero_le (show 0 ≤ k by omega)
    obtain ⟨t, ht, hg⟩ := hR k s (by omega) h3
    rw [m_impl_docAt_l1]
    simp only [lt_true hj, cond_true, ix_nat hj, Option.bind_some, step64 hj (by simp only [maxLen]; omega), hk1, ht]
    rw [app_some (by simp; omega), Option.bind_some]
    obtain ⟨ts, h5, h6⟩ := ih (k + 1) (j + 1) n (acc ++ [t]) hk2 (by simpa using h4) (by omega) (by simp; omega)
    refine ⟨t :: ts, ?_, ?_⟩
    · rw [h5]; simp
    · exact ⟨by omega, by omega, by omega, hg, h6⟩

theorem kidsD_len {r : List Int} : ∀ {ks : List Int} {a b : Int}, Go.Av.Kids r a b ks → (ks.length : Int) ≤ b - a
  | [], a, b, h => by simp only [Go.Av.Kids] at h; simp; omega
  | k :: ks, a, b, ⟨h0, h1, h2, _, h4⟩ => by have := kidsD_len h4; simp only [List.length_cons]; omega

theorem docD_is (a : List SDNode) (r : List Int) (ha : a.length ≤ 4000) (hl : Low r) (hk : ∀ (i : Nat) (hi : i < a.length), ∃ s, r[i]? = some s ∧ Go.Av.Kids r s (i : Int) a[i].Kids) :
    ∀ (F i s : Nat), i + 1 < F → i < a.length → r[i]? = some (s : Int) → ∃ t, m_impl_docAt F a (i : Int) = some t ∧ dl s t = partD a s (i + 1) := by
  intro F
  induction F with
  | zero => intro i s h; omega
  | succ F ih =>
    intro i s hF hi hsr
    show ∃ t, m_impl_docAt_F F (scc2 F) a (i : Int) = some t ∧ _
    unfold m_impl_docAt_F
    obtain ⟨s', hs', hkid⟩ := hk i hi
    rw [hsr] at hs'
    cases hs'
    have hlow := hl i s hsr
    have hkl := kidsD_len hkid
    have hcut := cut_nat (l := a) (Nat.zero_le i) (by omega)
    simp only [List.drop_zero, Nat.sub_zero] at hcut
    have hcut' : cut a 0 (i : Int) = some (a.take i) := hcut
    rw [ix_nat hi, Option.bind_some, hcut', Option.bind_some, groups_is F (a.take i) (by simp; omega) (by simp; omega), Option.bind_some]
    obtain ⟨ts, h1, h2⟩ := docD_l F (scc2 F) a r a[i] _ i (by omega) (fun k s' hk hs' => ih k s' (by omega) (by omega) hs') (by omega) a[i].Kids s 0 F [] rfl hkid (by omega) (by simp; omega)
    refine ⟨_, h1, ?_⟩
    obtain ⟨g1, g2, g3⟩ := h2.is (by omega)
    rw [List.nil_append, dl, g2, g3, ← partD_cat (a := a) (s := s) (m := i) (e := i + 1) (by omega) (by omega), partD_one hi]

theorem docOf_dl (N : Nat) (a : List SDNode) (hN : 4002 < N) (hd : docB a = true) : ∃ t, m_impl_docOf N a = some t ∧ dl 0 t = a := by
  obtain ⟨⟨h1, h2⟩, r, _, hrl, hl, hroot, hk⟩ := docB_shape hd
  unfold m_impl_docOf
  have hr : r[a.length - 1]? = some ((0 : Nat) : Int) := by
    unfold drootAt at hroot
    simpa using hroot
  obtain ⟨t, h3, h4⟩ := docD_is a r h2 hl hk N (a.length - 1) 0 (by omega) (by omega) hr
  rw [wrap64 (by omega) (by omega)]
  have e : ((a.length : Int) - 1) = ((a.length - 1 : Nat) : Int) := by omega
  rw [e, h3, Option.bind_some]
  refine ⟨t, rfl, ?_⟩
  rw [h4, show a.length - 1 + 1 = a.length by omega]
  unfold partD
  simp
theorem docB_all {a : List SDNode} (h : docB a = true) : ∀ x, x ∈ a → docN x = true := by
  unfold docB at h
  simp only [Bool.and_eq_true, List.all_eq_true] at h
  exact h.1.2
/-- a right document with other kinds -/
theorem docN_sw (f t : Int) (hf : f = 5 ∧ t = 6 ∨ f = 3 ∧ t = 2) (x : SDNode) (h : docN x = true) : docN (swK f t x) = true := by
  unfold swK
  cases hk : x.Kind == f with
  | false => exact h
  | true =>
    have e := eq_of_beq hk
    unfold docN at h ⊢
    rcases hf with ⟨rfl, rfl⟩ | ⟨rfl, rfl⟩
    · rw [e] at h
      have h' : (bif !(x.Text == []) || !(x.N == 0) then false else ((x.Kids.length : Int) == 1)) = true := h
      show (bif !(x.Text == []) || !(x.N == 0) then false else true) = true
      revert h'
      cases !(x.Text == []) || !(x.N == 0) <;> simp
    · rw [e] at h
      exact h
theorem docB_sw {a : List SDNode} (f t : Int) (hf : f = 5 ∧ t = 6 ∨ f = 3 ∧ t = 2) (h : docB a = true) : docB (a.map (swK f t)) = true := by
  have hk : kidsD (a.map (swK f t)) = kidsD a := by
    unfold kidsD
    rw [List.map_map]
    refine List.map_congr_left fun x _ => ?_
    simp only [Function.comp_apply]
    unfold swK
    cases x.Kind == f <;> rfl
  unfold docB at h ⊢
  rw [hk, List.length_map]
  simp only [Bool.and_eq_true, List.all_eq_true] at h ⊢
  refine ⟨⟨h.1.1, fun x hx => ?_⟩, h.2⟩
  obtain ⟨y, hy, rfl⟩ := List.mem_map.1 hx
  exact docN_sw f t hf y (h.1.2 y hy)

end Go.Proofs.Tryd

/-
  Abstract values, states, walks, part 6.
-/
import Derived.Test.YtllanibkffnogaaGreatDoorYCore5
set_option linter.unusedSimpArgs false
set_option linter.unusedVariables false

namespace Go.Av

def Ins (te : TypeId) (K : Nat) (w : World) (own : Option Nat) (n m : Nat) (cells : List Value) (e : Ending) (w' : World) : Prop :=
  ∃ g' cap' arr', e = .returned (.slice (some ⟨g', 0, none⟩) (n + m) cap') ∧ w.grownBy w' own ∧ w'.heap[g']? = some (.cells arr' te (0, 0)) ∧ n + m ≤ cap' ∧ cap' ≤ maxLen ∧
    arr'.size = cap' * K ∧ arr'.toList.take ((n + m) * K) = cells ∧ (own = some g' ∨ w.heap.size ≤ g') ∧ g' < w'.heap.size

def OwnAt (te : TypeId) (K : Nat) (w : World) (s : Value) (n : Nat) (olds : List Value) : Prop :=
  (s = .slice none 0 0 ∧ n = 0 ∧ olds = []) ∨ ∃ g c cur, s = .slice (some ⟨g, 0, none⟩) n c ∧ w.heap[g]? = some (.cells cur te (0, 0)) ∧ n ≤ c ∧ c ≤ maxLen ∧ cur.size = c * K ∧ olds = cur.toList.take (n * K)

theorem ObR.at {ρ : Nat → Option Value} {S : Nat → Prop} {w : World} {r : Value} {nn : Bool} {te : TypeId} {K : Nat} {rows : List (List V)} {F : List Nat} (h : ObR ρ S w r (.vec nn te K rows) F) (hnd : F.Nodup) :
    ∃ (olds : List Value) (cs : Nat → Nat → Value) (Fs : Nat → Nat → List Nat), OwnAt te K w r rows.length olds ∧ olds.length = rows.length * K ∧ (∀ (i : Nat) (x : List V), rows[i]? = some x → x.length = K) ∧
      (∀ (i j : Nat) (x : List V) (y : V), rows[i]? = some x → x[j]? = some y → olds[i * K + j]? = some (cs i j) ∧ RD S w (cs i j) y (Fs i j)) ∧
      (∀ v, v ∈ olds → v.oneCell' = true) ∧ (flat rows.length K Fs).Nodup ∧ (∀ b, b ∈ flat rows.length K Fs → b ∈ F ∧ r.ownBlock ≠ some b) ∧ (∀ g, r.ownBlock = some g → g ∈ F) := by
  cases h with
  | vnil =>
    exact ⟨[], fun _ _ => undef, fun _ _ => [], .inl ⟨rfl, rfl, rfl⟩, by simp, fun i x h => by simp at h, fun i j x y h => by simp at h, fun v h => (by cases h), by simp [flat], fun b h => (by simp [flat] at h), fun g h => by simp [Value.ownBlock] at h⟩
  | vec g cap arr _ _ _ _ cs Fs hh hcap hmax hsz hk hc hr =>
    have hl : (arr.toList.take (rows.length * K)).length = rows.length * K := by
      rw [List.length_take]
      exact Nat.min_eq_left (Nat.le_trans (Nat.mul_le_mul_right K hcap) (Nat.le_of_eq hsz.symm))
    have hget : ∀ (i j : Nat) (x : List V) (y : V), rows[i]? = some x → x[j]? = some y → (arr.toList.take (rows.length * K))[i * K + j]? = some (cs i j) := fun i j x y h1 h2 => by
      have hi : i < rows.length := (List.getElem?_eq_some_iff.1 h1).1
      have hj : j < K := by have := (List.getElem?_eq_some_iff.1 h2).1; rw [hk i x h1] at this; exact this
      rw [List.getElem?_take, if_pos (idx_lt hi hj)]
      simpa using hc i j x y h1 h2
    refine ⟨arr.toList.take (rows.length * K), cs, Fs, .inr ⟨g, cap, arr, rfl, hh, hcap, hmax, hsz, rfl⟩, hl, hk, fun i j x y h1 h2 => ⟨hget i j x y h1 h2, hr i j x y h1 h2⟩, fun v hv => ?_, (List.nodup_cons.1 hnd).2, fun b hb => ⟨List.mem_cons_of_mem _ hb, fun h => ?_⟩, fun g' h => ?_⟩
    · obtain ⟨p, hp⟩ := List.getElem?_of_mem hv
      have hlt : p < rows.length * K := by rw [← hl]; exact (List.getElem?_eq_some_iff.1 hp).1
      have hk0 : 0 < K := by
        rcases Nat.eq_zero_or_pos K with h0 | h0
        · rw [h0, Nat.mul_zero] at hlt; omega
        · exact h0
      have hi : p / K < rows.length := Nat.div_lt_of_lt_mul (by rwa [Nat.mul_comm])
      have hj : p % K < K := Nat.mod_lt _ hk0
      have h1 : rows[p / K]? = some rows[p / K] := List.getElem?_eq_getElem hi
      have hj' : p % K < rows[p / K].length := by rw [hk _ _ h1]; exact hj
      have h2 : rows[p / K][p % K]? = some rows[p / K][p % K] := List.getElem?_eq_getElem hj'
      have h3 := hget _ _ _ _ h1 h2
      rw [show p / K * K + p % K = p by rw [Nat.mul_comm]; exact Nat.div_add_mod p K, hp] at h3
      cases h3
      exact (hr _ _ _ _ h1 h2).one
    · simp only [Value.ownBlock, Option.some.injEq] at h
      subst h
      exact (List.nodup_cons.1 hnd).1 hb
    · simp only [Value.ownBlock, Option.some.injEq] at h
      subst h; simp

def insR {α : Type} (i : Nat) (l m : List α) : List α := l.take i ++ m ++ l.drop i

theorem insR_len {α : Type} {i : Nat} {l m : List α} (h : i ≤ l.length) : (insR i l m).length = l.length + m.length := by
  simp [insR]; omega

theorem insR_get {α : Type} {i : Nat} {l m : List α} (h : i ≤ l.length) {a : Nat} {r : α} (ha : (insR i l m)[a]? = some r) :
    (a < i ∧ l[a]? = some r) ∨ (i ≤ a ∧ a - i < m.length ∧ m[a - i]? = some r) ∨ (i ≤ a ∧ m.length ≤ a - i ∧ l[a - i - m.length + i]? = some r) := by
  have hl : (l.take i).length = i := by simp; omega
  unfold insR at ha
  rw [List.append_assoc] at ha
  by_cases h1 : a < i
  · rw [List.getElem?_append_left (by omega), List.getElem?_take, if_pos h1] at ha
    exact .inl ⟨h1, ha⟩
  · rw [List.getElem?_append_right (by omega), hl] at ha
    by_cases h2 : a - i < m.length
    · rw [List.getElem?_append_left h2] at ha
      exact .inr (.inl ⟨by omega, h2, ha⟩)
    · rw [List.getElem?_append_right (by omega), List.getElem?_drop] at ha
      refine .inr (.inr ⟨by omega, by omega, ?_⟩)
      rw [← ha]; congr 1; omega

section
variable {P : Program} {G : Nat → Option (List V)}

theorem AC.insert {f : FuncId} {te : TypeId} {K : Nat} {bytes : Nat}
    (hmem : ∀ (s : Value) (i n vb m vc : Nat) (olds : List Value) (varr : Array Value) (w : World), 0 < m → i ≤ n → OwnAt te K w s n olds → (∀ v, v ∈ olds → v.oneCell' = true) → w.heap[vb]? = some (.cells varr te (0, 0)) → varr.size = vc * K → m ≤ vc →
      (∀ v, v ∈ varr.toList.take (m * K) → v.oneCell' = true) → s.ownBlock ≠ some vb → (n + m) * bytes ≤ 140737488355328 →
      Calls P f #[s, .int .i64 i, .slice (some ⟨vb, 0, none⟩) m vc] w (Ins te K w s.ownBlock n m (olds.take (i * K) ++ varr.toList.take (m * K) ++ olds.drop (i * K))))
    (i : Nat) (nn nn1 : Bool) (rows rows1 : List (List V)) (hi : i ≤ rows.length) (hm : 0 < rows1.length) (hb : (rows.length + rows1.length) * bytes ≤ 140737488355328) :
    AC P G f [.own 0, .c (.int .i64 i), .own 1] [(0, .vec nn te K rows), (1, .vec nn1 te K rows1)] (.own 100) [(100, .vec false te K (insR i rows rows1))] := by
  intro ρ S F xs w hsz hxs hH hG
  have l0 : look [(0, Ob.vec nn te K rows), (1, Ob.vec nn1 te K rows1)] 0 = some (.vec nn te K rows) := rfl
  have l1 : look [(0, Ob.vec nn te K rows), (1, Ob.vec nn1 te K rows1)] 1 = some (.vec nn1 te K rows1) := rfl
  obtain ⟨r0, hr0, ob0⟩ := hH.obj 0 _ l0
  obtain ⟨r1, hr1, ob1⟩ := hH.obj 1 _ l1
  have x0 : xs.getD 0 undef = r0 := by
    have h : RV ρ S w (xs.getD 0 undef) (.own 0) := hxs 0 _ rfl
    exact h.own_inv _ hr0
  have x1 : xs.getD 1 undef = .int .i64 i := (hxs 1 _ rfl).c_inv
  have x2 : xs.getD 2 undef = r1 := by
    have h : RV ρ S w (xs.getD 2 undef) (.own 1) := hxs 2 _ rfl
    exact h.own_inv _ hr1
  have hx : xs = #[r0, .int .i64 i, r1] := by
    have h3 : xs.size = 3 := hsz
    apply Array.ext
    · exact h3
    · intro j h1 h2
      have : j = 0 ∨ j = 1 ∨ j = 2 := by omega
      rcases this with rfl | rfl | rfl
      · simpa [Array.getD, h1] using x0
      · simpa [Array.getD, h1] using x1
      · simpa [Array.getD, h1] using x2
  obtain ⟨olds, cs0, Fs0, at0, ol, hk0, hc0, one0, nd0, fs0, own0⟩ := ob0.at (hH.nodup 0 _ l0)
  obtain ⟨news, cs1, Fs1, at1, nl, hk1, hc1, one1, nd1, fs1, own1⟩ := ob1.at (hH.nodup 1 _ l1)
  rcases at1 with ⟨_, h, _⟩ | ⟨vb, vc, varr, rfl, hv, hmv, _, hvs, rfl⟩
  · omega
  have hvF : vb ∈ F 1 := own1 vb rfl
  have hne : r0.ownBlock ≠ some vb := fun h => hH.disj 0 1 _ _ vb l0 l1 (by decide) (own0 vb h) hvF
  subst hx
  refine Calls.mono (hmem r0 i rows.length vb rows1.length vc olds varr w hm hi at0 one0 hv hvs hmv one1 hne hb) fun e w' hq => ?_
  obtain ⟨g', cap', arr', rfl, hg, hh', hcap', hmax', hsz', htake, hblk, hlt'⟩ := hq
  have hfar : ∀ b, b ∈ F 0 → b ∈ F 1 → False := fun b h1 h2 => hH.disj 0 1 _ _ b l0 l1 (by decide) h1 h2
  let cs : Nat → Nat → Value := fun a b => if a < i then cs0 a b else if a - i < rows1.length then cs1 (a - i) b else cs0 (a - i - rows1.length + i) b
  let Fs : Nat → Nat → List Nat := fun a b => if a < i then Fs0 a b else (fun a b => if a < rows1.length then Fs1 a b else (fun a b => Fs0 (a + i) b) (a - rows1.length) b) (a - i) b
  have hlen : (insR i rows rows1).length = rows.length + rows1.length := insR_len hi
  have hflat : flat (rows.length + rows1.length) K Fs = flat i K Fs0 ++ (flat rows1.length K Fs1 ++ flat (rows.length - i) K fun a b => Fs0 (a + i) b) := by
    rw [show rows.length + rows1.length = i + (rows1.length + (rows.length - i)) by omega]
    show flat _ K (fun a b => if a < i then Fs0 a b else (fun a b => if a < rows1.length then Fs1 a b else (fun a b => Fs0 (a + i) b) (a - rows1.length) b) (a - i) b) = _
    rw [flat_add i _ K Fs0 (fun a b => if a < rows1.length then Fs1 a b else (fun a b => Fs0 (a + i) b) (a - rows1.length) b), flat_add rows1.length _ K Fs1 (fun a b => Fs0 (a + i) b)]
  have hflat0 : flat rows.length K Fs0 = flat i K Fs0 ++ flat (rows.length - i) K fun a b => Fs0 (a + i) b := by
    rw [← flat_add i _ K Fs0 (fun a b => Fs0 (a + i) b), show i + (rows.length - i) = rows.length by omega]
    congr 1
    funext a b
    split
    · rfl
    · show _ = Fs0 (a - i + i) b
      rw [show a - i + i = a by omega]
  have hmemF : ∀ b, b ∈ flat (rows.length + rows1.length) K Fs → b ∈ flat rows.length K Fs0 ∨ b ∈ flat rows1.length K Fs1 := fun b hb => by
    rw [hflat] at hb
    rw [hflat0]
    simp only [List.mem_append] at hb ⊢
    rcases hb with h | h | h
    · exact .inl (.inl h)
    · exact .inr h
    · exact .inl (.inr h)
  have hkeep : ∀ b, b < w.heap.size → (∀ c o, c ∈ [0, 1] → look [(0, Ob.vec nn te K rows), (1, Ob.vec nn1 te K rows1)] c = some o → b ∈ F c → False) → w'.heap[b]? = w.heap[b]? := fun b hb hn =>
    hg.block b hb fun he => hn 0 _ (by simp) l0 (own0 b he.symm)
  have hks : Keeps S w S w' := fun b hb => ⟨hb, hkeep b (hH.slt b hb) fun c o hc ho hbc => hH.sep c o b ho hbc hb⟩
  have hn0 : ∀ b, b ∈ flat rows.length K Fs0 → w'.heap[b]? = w.heap[b]? := fun b hb => hg.block b (hH.lt 0 _ b l0 (fs0 b hb).1) fun he => (fs0 b hb).2 he.symm
  have hn1 : ∀ b, b ∈ flat rows1.length K Fs1 → w'.heap[b]? = w.heap[b]? := fun b hb => hg.block b (hH.lt 1 _ b l1 (fs1 b hb).1) fun he => hfar b (own0 b he.symm) (fs1 b hb).1
  have hg0 : g' ∉ flat rows.length K Fs0 := fun h => by
    rcases hblk with e | e
    · exact (fs0 g' h).2 e
    · have := hH.lt 0 _ g' l0 (fs0 g' h).1; omega
  have hg1 : g' ∉ flat rows1.length K Fs1 := fun h => by
    rcases hblk with e | e
    · exact hfar g' (own0 g' e) (fs1 g' h).1
    · have := hH.lt 1 _ g' l1 (fs1 g' h).1; omega
  have hcell : ∀ p v, (olds.take (i * K) ++ varr.toList.take (rows1.length * K) ++ olds.drop (i * K))[p]? = some v → p < (rows.length + rows1.length) * K → arr'[p]? = some v := fun p v h1 h2 => by
    rw [← htake, List.getElem?_take, if_pos h2] at h1
    simpa using h1
  have hol : (olds.take (i * K)).length = i * K := by
    rw [List.length_take, ol]
    exact Nat.min_eq_left (Nat.mul_le_mul_right K hi)
  have hP : Post ρ S F [(0, Ob.vec nn te K rows), (1, Ob.vec nn1 te K rows1)] w (.own 100) ((100, Ob.vec false te K (insR i rows rows1)) :: hrem [0, 1] [(0, Ob.vec nn te K rows), (1, Ob.vec nn1 te K rows1)]) [100] (.slice (some ⟨g', 0, none⟩) (rows.length + rows1.length) cap') w' := by
    refine Post.repl hH [0, 1] (i := 100) (by rfl) (root := .slice (some ⟨g', 0, none⟩) (rows.length + rows1.length) cap') (Fi := g' :: flat (rows.length + rows1.length) K Fs) hg.os hg.tape hg.output hg.size hkeep (fun ρ' => ?_) ?_ (fun b hb => ?_) (.own _ _ fun r hr => ?_)
    · rw [← hlen]
      refine .vec g' cap' arr' false te K (insR i rows rows1) cs Fs hh' (by rw [hlen]; exact hcap') hmax' hsz' (fun a r ha => ?_) (fun a b r y ha hb' => ?_) (fun a b r y ha hb' => ?_)
      · rcases insR_get hi ha with ⟨_, h⟩ | ⟨_, _, h⟩ | ⟨_, _, h⟩
        · exact hk0 a r h
        · exact hk1 _ r h
        · exact hk0 _ r h
      · have hr : r.length = K := by
          rcases insR_get hi ha with ⟨_, h⟩ | ⟨_, _, h⟩ | ⟨_, _, h⟩
          · exact hk0 a r h
          · exact hk1 _ r h
          · exact hk0 _ r h
        have hbK : b < K := by have := (List.getElem?_eq_some_iff.1 hb').1; rw [hr] at this; exact this
        have haN : a < rows.length + rows1.length := by have := (List.getElem?_eq_some_iff.1 ha).1; rw [hlen] at this; exact this
        refine hcell _ _ ?_ (idx_lt haN hbK)
        rw [List.append_assoc]
        rcases insR_get hi ha with ⟨h1, h⟩ | ⟨h1, h2, h⟩ | ⟨h1, h2, h⟩
        · simp only [cs, if_pos h1]
          rw [List.getElem?_append_left (by rw [hol]; exact idx_lt h1 hbK), List.getElem?_take, if_pos (idx_lt h1 hbK)]
          exact (hc0 a b r y h hb').1
        · simp only [cs, if_neg (by omega : ¬ a < i), if_pos h2]
          have hx : a * K + b = i * K + ((a - i) * K + b) := by
            rw [← Nat.add_assoc, ← Nat.add_mul]; congr 2; omega
          rw [List.getElem?_append_right (by rw [hol, hx]; omega), hol, hx, Nat.add_sub_cancel_left, List.getElem?_append_left (by rw [nl]; exact idx_lt h2 hbK)]
          exact (hc1 _ b r y h hb').1
        · simp only [cs, if_neg (by omega : ¬ a < i), if_neg (by omega : ¬ a - i < rows1.length)]
          have hx : a * K + b = i * K + (rows1.length * K + ((a - i - rows1.length) * K + b)) := by
            rw [← Nat.add_assoc, ← Nat.add_assoc, ← Nat.add_mul, ← Nat.add_mul]; congr 2; omega
          rw [List.getElem?_append_right (by rw [hol, hx]; omega), hol, hx, Nat.add_sub_cancel_left, List.getElem?_append_right (by rw [nl]; omega), nl, Nat.add_sub_cancel_left, List.getElem?_drop]
          have := (hc0 _ b r y h hb').1
          rw [← this]; congr 1
          rw [Nat.add_mul]; omega
      · have hr : r.length = K := by
          rcases insR_get hi ha with ⟨_, h⟩ | ⟨_, _, h⟩ | ⟨_, _, h⟩
          · exact hk0 a r h
          · exact hk1 _ r h
          · exact hk0 _ r h
        have hbK : b < K := by have := (List.getElem?_eq_some_iff.1 hb').1; rw [hr] at this; exact this
        rcases insR_get hi ha with ⟨h1, h⟩ | ⟨h1, h2, h⟩ | ⟨h1, h2, h⟩
        · simp only [cs, Fs, if_pos h1]
          exact (hc0 a b r y h hb').2.mono hks fun b' hb'' => hn0 b' (mem_flat.2 ⟨a, b, (List.getElem?_eq_some_iff.1 h).1, hbK, hb''⟩)
        · simp only [cs, Fs, if_neg (by omega : ¬ a < i), if_pos h2]
          exact (hc1 _ b r y h hb').2.mono hks fun b' hb'' => hn1 b' (mem_flat.2 ⟨_, b, h2, hbK, hb''⟩)
        · simp only [cs, Fs, if_neg (by omega : ¬ a < i), if_neg (by omega : ¬ a - i < rows1.length)]
          exact (hc0 _ b r y h hb').2.mono hks fun b' hb'' => hn0 b' (mem_flat.2 ⟨_, b, (List.getElem?_eq_some_iff.1 h).1, hbK, hb''⟩)
    · rw [List.nodup_cons]
      refine ⟨fun h => (hmemF g' h).elim hg0 hg1, ?_⟩
      rw [hflat]
      rw [hflat0] at nd0
      have h01 : ∀ a, a ∈ flat i K Fs0 ++ (flat (rows.length - i) K fun a b => Fs0 (a + i) b) → a ∈ flat rows1.length K Fs1 → False := fun a h1 h2 => by
        rw [← hflat0] at h1
        exact hfar a (fs0 a h1).1 (fs1 a h2).1
      obtain ⟨n1, n2, n3⟩ := List.nodup_append.1 nd0
      refine List.nodup_append.2 ⟨n1, List.nodup_append.2 ⟨nd1, n2, fun a ha b hb e => ?_⟩, fun a ha b hb e => ?_⟩
      · subst e; exact h01 a (List.mem_append_right _ hb) ha
      · subst e
        rcases List.mem_append.1 hb with h | h
        · exact h01 a (List.mem_append_left _ ha) h
        · exact n3 a ha a h rfl
    · rcases List.mem_cons.1 hb with rfl | hb
      · rcases hblk with e | e
        · exact .inl ⟨0, _, by simp, l0, own0 _ e⟩
        · exact .inr ⟨e, hlt'⟩
      · rcases hmemF b hb with h | h
        · exact .inl ⟨0, _, by simp, l0, (fs0 b h).1⟩
        · exact .inl ⟨1, _, by simp, l1, (fs1 b h).1⟩
    · simp at hr; exact hr
  obtain ⟨ρ', S', F', h1, h2, h3, h4⟩ := hP
  exact ⟨_, ρ', S', F', rfl, h1, h2, h3, fun j r hj hr => h4 j r hr (by simp; omega)⟩

def insO {α : Type} (bytes : Nat) (i : Int) (l m : List α) : Option (List α) :=
  if 0 ≤ i ∧ i.toNat ≤ l.length ∧ 0 < m.length ∧ (l.length + m.length) * bytes ≤ 140737488355328 then some (insR i.toNat l m) else none

theorem insR_map {α β : Type} (f : α → β) (i : Nat) (l m : List α) : (insR i l m).map f = insR i (l.map f) (m.map f) := by
  simp [insR, List.map_take, List.map_drop]

theorem AC.insO {α : Type} {f : FuncId} {te : TypeId} {K bytes : Nat} {i : Int} {l m r : List α} (E : α → List V) (h : insO bytes i l m = some r)
    (hq : ∀ (i : Nat) (nn nn1 : Bool) (rows rows1 : List (List V)), i ≤ rows.length → 0 < rows1.length → (rows.length + rows1.length) * bytes ≤ 140737488355328 →
      AC P G f [.own 0, .c (.int .i64 i), .own 1] [(0, .vec nn te K rows), (1, .vec nn1 te K rows1)] (.own 100) [(100, .vec false te K (insR i rows rows1))]) :
    AC P G f [.own 0, V.i i, .own 1] [(0, .vec false te K (l.map E)), (1, .vec false te K (m.map E))] (.own 100) [(100, .vec false te K (r.map E))] := by
  unfold Go.Av.insO at h
  split at h
  · rename_i hc
    cases h
    obtain ⟨j, rfl⟩ : ∃ j : Nat, i = j := ⟨i.toNat, by omega⟩
    have := hq j false false (l.map E) (m.map E) (by simpa using hc.2.1) (by simpa using hc.2.2.1) (by simpa using hc.2.2.2)
    rw [insR_map]
    simpa [V.i] using this
  · cases h

end
end Go.Av


/-
  Plain lemmas on the models, part 3.
-/
import Derived.Test.YtefhoiablidajaaDoorDcP2
namespace Go.Proofs.Tryd
open Go.Av
set_option maxRecDepth 100000
set_option linter.unusedSimpArgs false
set_option linter.unusedVariables false

/-- the letters ahead of the first end of a line -/
def fl (s : List UInt8) : List UInt8 := s.takeWhile (· != 10)

theorem fl_nil : fl [] = [] := rfl
theorem fl_end (s : List UInt8) : fl (10 :: s) = [] := rfl
theorem fl_cons {c : UInt8} (h : c ≠ 10) (s : List UInt8) : fl (c :: s) = c :: fl s := by
  unfold fl
  rw [List.takeWhile_cons]
  have : (c != 10) = true := by simpa using h
  rw [this]
  rfl
theorem fl_le (s : List UInt8) : (fl s).length ≤ s.length := by
  induction s with
  | nil => simp [fl_nil]
  | cons c s ih =>
    by_cases h : c = 10
    · subst h
      simp [fl_end]
    · rw [fl_cons h]
      simpa using ih

theorem idx_is (s : List UInt8) : Go.Lib.indexByte s 10 = if (fl s).length < s.length then ((fl s).length : Int) else -1 := by
  induction s with
  | nil => rfl
  | cons c s ih =>
    unfold Go.Lib.indexByte
    by_cases hc : c = 10
    · subst hc
      rw [fl_end]
      simp
    · have hb : (c == 10) = false := by simpa using hc
      rw [hb, fl_cons hc, ih]
      simp only [Bool.false_eq_true, if_false, List.length_cons]
      by_cases h : (fl s).length < s.length
      · have h1 : (((fl s).length : Int) == -1) = false := by
          cases hq : (((fl s).length : Int) == -1) with
          | false => rfl
          | true => have := eq_of_beq hq; omega
        have h' : (fl s).length + 1 < s.length + 1 := by omega
        simp only [if_pos h, if_pos h', h1]
        simp
      · have h' : ¬ (fl s).length + 1 < s.length + 1 := by omega
        simp only [if_neg h, if_neg h']
        rfl


/-! ### the list of a document has a right shape -/
mutual
def dsT (b : Nat) : SDoc → List Int
  | ⟨_, _, _, ks, _⟩ => dsTs b ks ++ [(b : Int)]
def dsTs (b : Nat) : List SDoc → List Int
  | [] => []
  | t :: ts => dsT b t ++ dsTs (b + dz t) ts
end
mutual
theorem dsT_len : ∀ (t : SDoc) (b : Nat), (dsT b t).length = dz t
  | ⟨_, _, _, ks, _⟩, b => by rw [dsT, dz, List.length_append, dsTs_len ks b]; rfl
theorem dsTs_len : ∀ (ts : List SDoc) (b : Nat), (dsTs b ts).length = dzs ts
  | [], b => by rw [dsTs, dzs]; rfl
  | t :: ts, b => by rw [dsTs, dzs, List.length_append, dsT_len t b, dsTs_len ts _]
end
theorem dsT_last (t : SDoc) (b : Nat) : (dsT b t)[dz t - 1]? = some (b : Int) := by
  obtain ⟨k, o, x, ks, y⟩ := t
  rw [dsT, dz, Nat.add_sub_cancel, List.getElem?_append_right (by rw [dsTs_len]; omega), dsTs_len, Nat.sub_self]
  rfl
theorem dsTs_app : ∀ (a c : List SDoc) (b : Nat), dsTs b (a ++ c) = dsTs b a ++ dsTs (b + dzs a) c
  | [], c, b => by simp [dsTs, dzs]
  | t :: a, c, b => by rw [List.cons_append, dsTs, dsTs, dzs, dsTs_app a c, List.append_assoc, Nat.add_assoc]

theorem dwalk_ends (b : Nat) (ts : List SDoc) : ∀ (m : Nat) (ts1 ts2 : List SDoc), ts1.length = m → ts1 ++ ts2 = ts → ∀ out : List Int, (∀ i, i < dzs ts → out[b + i]? = (dsTs b ts)[i]?) → walk out ((b + dzs ts1 : Nat) : Int) (dE b ts1).reverse = some (b : Int) := by
  intro m
  induction m with
  | zero =>
    intro ts1 ts2 hl _ out _
    have : ts1 = [] := List.length_eq_zero_iff.1 hl
    subst this
    simp [dE, walk, dzs]
  | succ m ih =>
    intro ts1 ts2 hl he out ho
    obtain ⟨u, t, rfl⟩ : ∃ u t, ts1 = u ++ [t] := by
      rcases List.eq_nil_or_concat ts1 with rfl | ⟨u, t, rfl⟩
      · cases hl
      · exact ⟨u, t, by simp⟩
    have hp := dz_pos t
    have hsz : dzs (u ++ [t]) = dzs u + dz t := by rw [dzs_app, dzs, dzs]; omega
    rw [dE_app, List.reverse_append, dE, dE, List.reverse_cons, List.reverse_nil, List.nil_append, List.singleton_append, walk, hsz]
    have hne : ¬ (((b + (dzs u + dz t) : Nat) : Int) = 0 ∨ (((b + dzs u + dz t : Nat) : Int) - 1) ≠ ((b + (dzs u + dz t) : Nat) : Int) - 1) := by omega
    rw [if_neg hne]
    have htot : dzs ts = dzs u + (dz t + dzs ts2) := by rw [← he, dzs_app, hsz]; omega
    have hi : (((b + (dzs u + dz t) : Nat) : Int) - 1).toNat = b + (dzs u + (dz t - 1)) := by omega
    rw [hi, ho _ (by omega)]
    have hst : dsTs b ts = dsTs b u ++ (dsT (b + dzs u) t ++ dsTs (b + dzs u + dz t) ts2) := by
      rw [← he, List.append_assoc, List.singleton_append, dsTs_app, dsTs]
    rw [hst, List.getElem?_append_right (by rw [dsTs_len]; omega), dsTs_len, Nat.add_sub_cancel_left, List.getElem?_append_left (by rw [dsT_len]; omega), dsT_last]
    exact ih u (t :: ts2) (by simpa using hl) (by rw [← he]; simp) out ho

mutual
theorem starts_dl : ∀ (t : SDoc) (b : Nat) (rest : List (List Int)) (out : List Int), out.length = b → starts (kidsD (dl b t) ++ rest) out = starts rest (out ++ dsT b t)
  | ⟨k, o, x, ks, y⟩, b, rest, out, hb => by
    have h1 := starts_dls ks b ([dE b ks] ++ rest) out hb
    have hl : (out ++ dsTs b ks).length = b + dzs ks := by rw [List.length_append, dsTs_len, hb]
    rw [dl, dsT]
    have e : kidsD (dls b ks ++ [(⟨k, o, x, dE b ks⟩ : SDNode)]) ++ rest = kidsD (dls b ks) ++ ([dE b ks] ++ rest) := by
      unfold kidsD
      rw [List.map_append, List.append_assoc]
      rfl
    rw [e, h1, List.singleton_append, starts, hl]
    have := dwalk_ends b ks ks.length ks [] rfl (by simp) (out ++ dsTs b ks) (fun i hi => by rw [List.getElem?_append_right (by omega), hb, Nat.add_sub_cancel_left])
    rw [this, Option.bind_some, List.append_assoc]
theorem starts_dls : ∀ (ts : List SDoc) (b : Nat) (rest : List (List Int)) (out : List Int), out.length = b → starts (kidsD (dls b ts) ++ rest) out = starts rest (out ++ dsTs b ts)
  | [], b, rest, out, hb => by
    rw [dls, dsTs, List.append_nil]
    rfl
  | t :: ts, b, rest, out, hb => by
    rw [dls, dsTs]
    have e : kidsD (dl b t ++ dls (b + dz t) ts) ++ rest = kidsD (dl b t) ++ (kidsD (dls (b + dz t) ts) ++ rest) := by
      unfold kidsD
      rw [List.map_append, List.append_assoc]
    rw [e, starts_dl t b _ out hb, starts_dls ts (b + dz t) rest _ (by rw [List.length_append, dsT_len, hb]), List.append_assoc]
end

/-- what a node of a right document may have -/
def NodD (d : SDoc) : Prop := ∀ ids : List Int, ids.length = d.kids.length → docN ⟨d.kind, d.n, d.text, ids⟩ = true
theorem nod_of {a : List SDNode} (h : docB a = true) {t : SDoc} (ht : dl 0 t = a) : allD NodD t := allD_dl NodD (fun x => docN x = true) (fun d b h ids hi => by rw [← h]; exact docN_len (by rw [hi, dE_len])) t 0 fun x hx => docB_all h x (ht ▸ hx)
mutual
theorem nod_docN : ∀ (d : SDoc) (b : Nat), allD NodD d → ∀ x, x ∈ dl b d → docN x = true
  | ⟨k, n, x, ks, g⟩, b, h, z, hz => by
    rw [allD] at h
    rw [dl] at hz
    rcases List.mem_append.1 hz with hz | hz
    · exact nods_docN ks b h.2 z hz
    · rw [List.mem_singleton.1 hz]; exact h.1 _ (dE_len ks b)
theorem nods_docN : ∀ (ds : List SDoc) (b : Nat), allDs NodD ds → ∀ x, x ∈ dls b ds → docN x = true
  | [], b, _, z, hz => by rw [dls] at hz; cases hz
  | d :: ds, b, h, z, hz => by
    rw [allDs] at h
    rw [dls] at hz
    rcases List.mem_append.1 hz with hz | hz
    · exact nod_docN d b h.1 z hz
    · exact nods_docN ds _ h.2 z hz
end
theorem docB_nod (d : SDoc) (h : allD NodD d) (hz : dz d ≤ 4000) : docB (dl 0 d) = true := by
  have hp := dz_pos d
  have hs := starts_dl d 0 [] [] rfl
  rw [List.append_nil, List.nil_append] at hs
  unfold docB
  rw [hs, dl_len]
  simp only [starts, drootAt, dsT_last, Bool.and_eq_true, decide_eq_true_eq, List.all_eq_true]
  exact ⟨⟨⟨hp, hz⟩, nod_docN d 0 h⟩, by simp⟩

/-! ### lines of a text, where each begins -/
def lines (s : List UInt8) : List (List UInt8) :=
  if _ : (fl s).length < s.length then fl s :: lines (s.drop ((fl s).length + 1)) else [fl s]
termination_by s.length
decreasing_by simp; omega

theorem lines_more {s : List UInt8} (h : (fl s).length < s.length) : lines s = fl s :: lines (s.drop ((fl s).length + 1)) := by
  rw [lines, dif_pos h]
theorem lines_one {s : List UInt8} (h : ¬ (fl s).length < s.length) : lines s = [fl s] := by
  rw [lines, dif_neg h]

theorem fl_take (s : List UInt8) : s.take (fl s).length = fl s := by
  induction s with
  | nil => rfl
  | cons c s ih =>
    by_cases h : c = 10
    · subst h; rfl
    · rw [fl_cons h, List.length_cons, List.take_succ_cons, ih]

theorem fl_all {s : List UInt8} (h : ¬ (fl s).length < s.length) : fl s = s := by
  have := fl_take s
  rw [List.take_of_length_le (by have := fl_le s; omega)] at this
  exact this.symm

theorem fl_count {s : List UInt8} (h : (fl s).length < s.length) : s.count 10 = (s.drop ((fl s).length + 1)).count 10 + 1 := by
  induction s with
  | nil => simp [fl_nil] at h
  | cons c s ih =>
    by_cases hc : c = 10
    · subst hc
      rw [fl_end]
      simp
    · rw [fl_cons hc] at h ⊢
      simp only [List.length_cons, List.drop_succ_cons] at h ⊢
      rw [← ih (by omega), List.count_cons]
      have : (c == 10) = false := by simpa using hc
      simp [this]

theorem fl_count0 {s : List UInt8} (h : ¬ (fl s).length < s.length) : s.count 10 = 0 := by
  induction s with
  | nil => rfl
  | cons c s ih =>
    by_cases hc : c = 10
    · subst hc
      rw [fl_end] at h
      simp at h
    · rw [fl_cons hc] at h
      simp only [List.length_cons] at h
      rw [List.count_cons, ih (by omega)]
      have : (c == 10) = false := by simpa using hc
      simp [this]

theorem lines_len (s : List UInt8) : (lines s).length = s.count 10 + 1 := by
  generalize hn : s.length = n
  induction n using Nat.strongRecOn generalizing s with
  | ind n ih =>
    by_cases h : (fl s).length < s.length
    · rw [lines_more h, fl_count h, List.length_cons, ih _ (by simp; omega) _ rfl]
    · rw [lines_one h, fl_count0 h]
      rfl

def offs (ls : List (List UInt8)) : Nat := (ls.map (fun l => l.length + 1)).sum

theorem offs_cons (l : List UInt8) (ls : List (List UInt8)) : offs (l :: ls) = l.length + 1 + offs ls := by simp [offs]
theorem offs_take (ls : List (List UInt8)) (r : Nat) : offs (ls.take r) ≤ offs ls := by
  induction ls generalizing r with
  | nil => simp
  | cons l ls ih =>
    cases r with
    | zero => simp [offs]
    | succ r => rw [List.take_succ_cons, offs_cons, offs_cons]; have := ih r; omega

theorem lines_offs (s : List UInt8) : offs (lines s) = s.length + 1 := by
  generalize hn : s.length = n
  induction n using Nat.strongRecOn generalizing s with
  | ind n ih =>
    by_cases h : (fl s).length < s.length
    · rw [lines_more h, offs_cons, ih _ (by simp; omega) _ rfl]
      simp
      omega
    · have := fl_le s
      rw [lines_one h, offs_cons]
      simp [offs]
      omega

theorem index_is (s : List UInt8) : m_strings_Index s = some (if (fl s).length < s.length then ((fl s).length : Int) else -1) := by
  have h0 : m_stringslite_Index s = some (Go.Lib.indexByte s 10) := by
    unfold m_stringslite_Index
    by_cases h : (([10] : List UInt8) == s) = true
    · have := eq_of_beq h
      subst this
      rfl
    · have hf : (([10] : List UInt8) == s) = false := by simpa using h
      rw [hf, cond_false]
      rfl
  unfold m_strings_Index
  rw [h0, Option.bind_some, idx_is]

theorem split_l3 (N : Nat) (s : List UInt8) (hs : s.length ≤ 1000000000) (c : Nat) (hc : (lines s).length = c + 1) : ∀ (n : Nat) (dn : List (List UInt8)) (rest : List UInt8) (i : Nat), dn.length = i → i ≤ c → rest.length ≤ s.length → lines s = dn ++ lines rest → c - i < n →
    m_strings_genSplit_l3 N n (0, s, ((c + 1 : Nat) : Int), rest, (i : Int), dn ++ List.replicate (c + 1 - i) []) = some (lines s) := by
  have hcl : c ≤ 1000000000 := by
    have := lines_len s
    have h2 : s.count 10 ≤ s.length := List.count_le_length
    omega
  have hcs : c ≤ s.length := by
    have := lines_len s
    have h2 : s.count 10 ≤ s.length := List.count_le_length
    omega
  have hy : (if (IntKind.wrap .i64 ((s.length : Int) + 1)) < ((c + 1 : Nat) : Int) then (IntKind.wrap .i64 ((s.length : Int) + 1)) else ((c + 1 : Nat) : Int)) = ((c + 1 : Nat) : Int) := by
    rw [wrap64 (by omega) (by omega), if_neg (by omega)]
  intro n
  induction n with
  | zero => intro dn rest i _ _ _ _ h; omega
  | succ n ih =>
    intro dn rest i hdn hi hr hl hn
    have hll : (lines rest).length = c + 1 - i := by
      have := congrArg List.length hl
      simp only [List.length_append] at this
      omega
    have hlen : (dn ++ List.replicate (c + 1 - i) ([] : List UInt8)).length = c + 1 := by simp; omega
    have hlt : i < (dn ++ List.replicate (c + 1 - i) ([] : List UInt8)).length := by omega
    have hset : ∀ x : List UInt8, (dn ++ List.replicate (c + 1 - i) ([] : List UInt8)).set i x = (dn ++ [x]) ++ List.replicate (c + 1 - (i + 1)) [] := by
      intro x
      have e : c + 1 - i = (c + 1 - (i + 1)) + 1 := by omega
      rw [e, List.replicate_succ]
      have := set_mid dn [] x (List.replicate (c + 1 - (i + 1)) ([] : List UInt8))
      rw [hdn] at this
      rw [this]
      simp
    rw [m_strings_genSplit_l3, hy, wrap64 (n := ((c + 1 : Nat) : Int) - 1) (by omega) (by omega)]
    by_cases h : i < c
    · have hd : decide ((i : Int) < ((c + 1 : Nat) : Int) - 1) = true := decide_eq_true (by omega)
      have hmore : (fl rest).length < rest.length := by
        cases Nat.lt_or_ge (fl rest).length rest.length with
        | inl h => exact h
        | inr h' => rw [lines_one (by omega)] at hll; simp at hll; omega
      have hst : IntKind.wrap .i64 ((i : Int) + 1) = ((i + 1 : Nat) : Int) := by rw [wrap64 (by omega) (by omega)]; omega
      have hneg : decide (((fl rest).length : Int) < 0) = false := decide_eq_false (by omega)
      have hcut1 := cut_nat (l := rest) (Nat.zero_le (fl rest).length) (by omega)
      have hcut2 := cut_nat (l := rest) (a := (fl rest).length + 1) (b := rest.length) (by omega) (Nat.le_refl _)
      simp only [List.drop_zero, Nat.sub_zero, Int.natCast_zero] at hcut1
      have hw1 : IntKind.wrap .i64 (((fl rest).length : Int) + 0) = ((fl rest).length : Int) := by rw [wrap64 (by omega) (by omega)]; omega
      have hw2 : IntKind.wrap .i64 (((fl rest).length : Int) + 1) = (((fl rest).length + 1 : Nat) : Int) := by rw [wrap64 (by omega) (by omega)]; omega
      have e3 : (rest.drop ((fl rest).length + 1)).take (rest.length - ((fl rest).length + 1)) = rest.drop ((fl rest).length + 1) := List.take_of_length_le (by simp)
      rw [hd, cond_true, index_is, if_pos hmore, Option.bind_some, hneg, cond_false, hw1, hw2, hcut1, Option.bind_some, ix_nat hlt, Option.bind_some, upd_nat hlt, Option.bind_some, hcut2, Option.bind_some, hst, hset, fl_take, e3]
      refine ih (dn ++ [fl rest]) (rest.drop ((fl rest).length + 1)) (i + 1) (by simp [hdn]) (by omega) (by simp; omega) ?_ (by omega)
      rw [hl, lines_more hmore]
      simp
    · have hic : i = c := by omega
      subst hic
      have hd : decide ((i : Int) < ((i + 1 : Nat) : Int) - 1) = false := decide_eq_false (by omega)
      have hone : ¬ (fl rest).length < rest.length := by
        intro h
        rw [lines_more h] at hll
        have := lines_len (rest.drop ((fl rest).length + 1))
        simp only [List.length_cons] at hll
        omega
      have hst : IntKind.wrap .i64 ((i : Int) + 1) = ((i + 1 : Nat) : Int) := by rw [wrap64 (by omega) (by omega)]; omega
      rw [hd, cond_false]
      simp only [m_strings_genSplit_k2]
      rw [ix_nat hlt, Option.bind_some, upd_nat hlt, Option.bind_some, hset, hst]
      have hcut := cut_nat (l := (dn ++ [rest]) ++ List.replicate (i + 1 - (i + 1)) []) (Nat.zero_le (i + 1)) (by simp; omega)
      simp only [List.drop_zero, Nat.sub_zero, Int.natCast_zero] at hcut
      rw [hcut, Option.bind_some, hl, lines_one hone, fl_all hone]
      congr 1
      rw [Nat.sub_self, List.replicate_zero, List.append_nil, List.take_of_length_le (by simp; omega)]

theorem split_is (N : Nat) (s : List UInt8) (hs : s.length ≤ 1000000000) (hN : 1000000001 < N) : m_strings_Split N s = some (lines s) := by
  have hcl := lines_len s
  have h2 : s.count 10 ≤ s.length := List.count_le_length
  unfold m_strings_Split m_strings_genSplit
  have e0 : ((-1 : Int) == 0) = false := rfl
  have e1 : decide ((-1 : Int) < 0) = true := rfl
  have hcount : m_strings_Count s = some (s.count 10 : Int) := rfl
  rw [e0, cond_false, e1, cond_true, hcount, Option.bind_some, wrap64 (n := (s.count 10 : Int) + 1) (by omega) (by omega)]
  unfold m_strings_genSplit_k1
  have hy : (if (IntKind.wrap .i64 ((s.length : Int) + 1)) < (s.count 10 : Int) + 1 then (IntKind.wrap .i64 ((s.length : Int) + 1)) else (s.count 10 : Int) + 1) = ((s.count 10 + 1 : Nat) : Int) := by
    rw [wrap64 (by omega) (by omega), if_neg (by omega)]
    omega
  have hmk := mk_some (n := 16) (z := ([] : List UInt8)) (i := s.count 10 + 1) (by omega) (by simp only [maxLen]; omega)
  simp only [hy]
  rw [hmk, Option.bind_some]
  have h3 := split_l3 N s hs (s.count 10) (by omega) N [] s 0 rfl (by omega) (Nat.le_refl _) rfl (by omega)
  have e4 : (s.count 10 : Int) + 1 = ((s.count 10 + 1 : Nat) : Int) := by omega
  rw [e4]
  have h3' : m_strings_genSplit_l3 N N (0, s, ((s.count 10 + 1 : Nat) : Int), s, 0, List.replicate (s.count 10 + 1) []) = some (lines s) := h3
  rw [h3', Option.bind_some]

theorem offs_len (l : List (List UInt8)) : l.length ≤ offs l := by
  induction l with
  | nil => simp
  | cons x l ih => rw [offs_cons]; simp; omega

/-! ### a document without groups, laid out -/
def brk (i : Int) : List UInt8 := 10 :: List.replicate i.toNat 32
mutual
def rd (i : Int) : SDoc → List UInt8
  | ⟨k, n, x, ks, _⟩ => bif k == 1 then x else bif k == 2 || k == 3 then brk i else rds (bif k == 4 then i + n else i) ks
def rds (i : Int) : List SDoc → List UInt8
  | [] => []
  | d :: ds => rd i d ++ rds i ds
end
/-- so many blanks behind each end of a line -/
def deepen (n : Nat) : List UInt8 → List UInt8
  | [] => []
  | b :: s => if b = 10 then 10 :: (List.replicate n 32 ++ deepen n s) else b :: deepen n s
theorem deepen_app (n : Nat) : ∀ (a b : List UInt8), deepen n (a ++ b) = deepen n a ++ deepen n b
  | [], b => rfl
  | c :: a, b => by
    rw [List.cons_append, deepen, deepen, deepen_app n a b]
    split <;> simp
theorem deepen_no (n : Nat) : ∀ (a : List UInt8), a.contains 10 = false → deepen n a = a
  | [], _ => rfl
  | c :: a, h => by
    rw [List.contains_cons, Bool.or_eq_false_iff] at h
    rw [deepen, if_neg (fun e => by rw [e] at h; simp at h), deepen_no n a h.2]
theorem deepen_brk (n : Nat) (i : Int) (h : 0 ≤ i) : deepen n (brk i) = brk (i + n) := by
  unfold brk
  rw [deepen, if_pos rfl, deepen_no n _ (by simp), show (i + n).toNat = n + i.toNat by omega, List.replicate_append_replicate]
theorem nod_text {k n : Int} {x : List UInt8} {ks : List SDoc} {g : Int} (h : NodD ⟨k, n, x, ks, g⟩) (hk : (k == 1) = true) : x.contains 10 = false := by
  have h1 := h (ks.map fun _ => 0) (by simp)
  unfold docN at h1
  have e := eq_of_beq hk
  subst e
  cases hc : x.contains 10 with
  | false => rfl
  | true =>
    have key : ∀ c : Bool, (bif c then false else (!x.contains 10 && (((ks.map fun _ => (0 : Int)).length : Int) == 0))) = true → False := fun c => by rw [hc]; cases c <;> simp
    exact (key _ h1).elim
theorem nod_nest {k n : Int} {x : List UInt8} {ks : List SDoc} {g : Int} (h : NodD ⟨k, n, x, ks, g⟩) (hk : (k == 4) = true) : 0 ≤ n ∧ n ≤ 40 := by
  have h1 := h (ks.map fun _ => 0) (by simp)
  unfold docN at h1
  have e := eq_of_beq hk
  subst e
  have key : ∀ c : Bool, (bif c then false else ((decide (n ≥ 0) && decide (n ≤ 40)) && (((ks.map fun _ => (0 : Int)).length : Int) == 1))) = true → 0 ≤ n ∧ n ≤ 40 := fun c => by
    cases c with
    | true => intro h; cases h
    | false => intro h; simp only [cond_false, Bool.and_eq_true, decide_eq_true_eq] at h; omega
  exact key _ h1
mutual
theorem rd_deepen (m : Nat) : ∀ (d : SDoc) (i : Int), 0 ≤ i → allD NodD d → rd (i + m) d = deepen m (rd i d)
  | ⟨k, n, x, ks, g⟩, i, hi, h => by
    rw [allD] at h
    rw [rd, rd]
    cases h1 : k == 1 with
    | true => exact (deepen_no m x (nod_text h.1 h1)).symm
    | false =>
      cases h2 : k == 2 || k == 3 with
      | true => exact (deepen_brk m i hi).symm
      | false =>
        cases h4 : k == 4 with
        | true =>
          have := nod_nest h.1 h4
          simp only [cond_true, cond_false]
          rw [show i + m + n = i + n + m by omega]
          exact rds_deepen m ks (i + n) (by omega) h.2
        | false => exact rds_deepen m ks i hi h.2
theorem rds_deepen (m : Nat) : ∀ (ds : List SDoc) (i : Int), 0 ≤ i → allDs NodD ds → rds (i + m) ds = deepen m (rds i ds)
  | [], _, _, _ => rfl
  | d :: ds, i, hi, h => by
    rw [allDs] at h
    rw [rds, rds, deepen_app, rd_deepen m d i hi h.1, rds_deepen m ds i hi h.2]
end
/-- the lines of a text that is further in -/
theorem fl_deepen (n : Nat) : ∀ s : List UInt8, fl (deepen n s) = fl s
  | [] => rfl
  | c :: s => by
    rw [deepen]
    by_cases h : c = 10
    · rw [if_pos h]; subst h; rfl
    · rw [if_neg h, fl_cons h, fl_cons h, fl_deepen n s]
theorem fl_no (a s : List UInt8) (h : a.contains 10 = false) : fl (a ++ s) = a ++ fl s := by
  induction a with
  | nil => rfl
  | cons c a ih =>
    rw [List.contains_cons, Bool.or_eq_false_iff] at h
    rw [List.cons_append, fl_cons (fun e => by rw [e] at h; simp at h), ih h.2]
    rfl
theorem drop_deepen (n : Nat) : ∀ s : List UInt8, (fl s).length < s.length → (fl s).length < (deepen n s).length ∧ (deepen n s).drop ((fl s).length + 1) = List.replicate n 32 ++ deepen n (s.drop ((fl s).length + 1))
  | [], h => by simp [fl_nil] at h
  | c :: s, h => by
    rw [deepen]
    by_cases hc : c = 10
    · subst hc
      rw [if_pos rfl, fl_end]
      simp
    · rw [if_neg hc]
      rw [fl_cons hc] at h ⊢
      simp only [List.length_cons, List.drop_succ_cons] at h ⊢
      have := drop_deepen n s (by omega)
      exact ⟨by omega, this.2⟩
theorem lines_pre (a s : List UInt8) (h : a.contains 10 = false) : lines (a ++ s) = (a ++ fl s) :: (lines s).tail := by
  have e := fl_no a s h
  by_cases hs : (fl s).length < s.length
  · rw [lines_more (s := s) hs, lines_more (s := a ++ s) (by rw [e]; simp; omega), e]
    simp only [List.length_append, List.tail_cons, List.cons.injEq, true_and]
    rw [show a.length + (fl s).length + 1 = a.length + ((fl s).length + 1) by omega, ← List.drop_drop, List.drop_left]
  · rw [lines_one (s := s) hs, lines_one (s := a ++ s) (by rw [e]; simp; omega), e]
    rfl
theorem fl_short_deepen (n : Nat) (s : List UInt8) (h : ¬ (fl s).length < s.length) : deepen n s = s := by
  refine deepen_no n s ?_
  have := fl_all h
  rw [← this]
  clear this h
  induction s with
  | nil => rfl
  | cons c s ih =>
    by_cases hc : c = 10
    · subst hc; rfl
    · rw [fl_cons hc, List.contains_cons, ih, Bool.or_false]
      simpa using fun e => hc e.symm
theorem lines_deepen (n : Nat) (s : List UInt8) : lines (deepen n s) = fl s :: (lines s).tail.map (List.replicate n 32 ++ ·) := by
  generalize hl : s.length = m
  induction m using Nat.strongRecOn generalizing s with
  | ind m ih =>
    by_cases h : (fl s).length < s.length
    · have hd := drop_deepen n s h
      rw [lines_more (s := deepen n s) (by rw [fl_deepen]; exact hd.1), fl_deepen, hd.2, lines_pre _ _ (by simp), ih _ (by rw [List.length_drop]; omega) _ rfl, lines_more h, fl_deepen]
      simp only [List.tail_cons]
      cases hq : lines (s.drop ((fl s).length + 1)) with
      | nil => have := lines_len (s.drop ((fl s).length + 1)); rw [hq] at this; simp at this
      | cons x y =>
        have hx : x = fl (s.drop ((fl s).length + 1)) := by
          by_cases h2 : (fl (s.drop ((fl s).length + 1))).length < (s.drop ((fl s).length + 1)).length
          · rw [lines_more h2] at hq; cases hq; rfl
          · rw [lines_one h2] at hq; cases hq; rfl
        rw [hx]
        rfl
    · rw [lines_one h, lines_one (s := deepen n s) (by rw [fl_deepen, fl_short_deepen n s h]; exact h), fl_deepen]
      rfl

mutual
theorem rd_dl : ∀ (t u : SDoc) (b : Nat) (i : Int), dl b t = dl b u → rd i t = rd i u
  | ⟨k, n, x, ks, g⟩, ⟨k', n', x', ks', g'⟩, b, i, h => by
    rw [dl, dl] at h
    have h1 := List.append_inj_right' h rfl
    have h2 := List.append_inj_left' h rfl
    simp only [List.cons.injEq, SDNode.mk.injEq, and_true] at h1
    obtain ⟨rfl, rfl, rfl, h3⟩ := h1
    rw [rd, rd]
    cases k == 1 <;> cases k == 2 || k == 3 <;> first | rfl | exact rds_dl ks ks' b _ h2 h3
theorem rds_dl : ∀ (ts us : List SDoc) (b : Nat) (i : Int), dls b ts = dls b us → dE b ts = dE b us → rds i ts = rds i us
  | [], [], _, _, _, _ => rfl
  | [], u :: us, b, i, _, h => by rw [dE, dE] at h; cases h
  | t :: ts, [], b, i, _, h => by rw [dE, dE] at h; cases h
  | t :: ts, u :: us, b, i, h1, h2 => by
    rw [dE, dE] at h2
    rw [dls, dls] at h1
    obtain ⟨h3, h4⟩ := List.cons.inj h2
    have hz : dz t = dz u := by omega
    rw [← hz] at h4 h1
    have h5 := List.append_inj h1 (by rw [dl_len, dl_len, hz])
    rw [rds, rds, rd_dl t u b i h5.1, rds_dl ts us (b + dz t) i h5.2 h4]
end

end Go.Proofs.Tryd
